/- Plain laws on the printed functions of layer geom and of its reference: which geometry can be, and what each of them answers. -/
import Derived.Test.YtjncfiipcceefaaPGeomBackx
namespace Go.Proofs.Ytjncfiipcceefaa.PlainBack
open Go.RowKit Go.Proofs.Ytjncfiipcceefaa.PGeomBack Go.Proofs.YtjncfiipcceefaaW.PrintWords Go.Proofs.YtjncfiipcceefaaW.PrintLast Go.Proofs.YtjncfiipcceefaaW.PrintMore

/-- a geometry that can be -/
def ok (a b c : Int) : Prop := 1 ≤ a ∧ a ≤ 8 ∧ 8 ≤ b ∧ b ≤ 256 ∧ 4 ≤ c ∧ c ≤ 64 ∧ c % 4 = 0 ∧ 3 + c / 4 ≤ b
theorem w64 {n : Int} (h0 : -1000000 ≤ n) (h1 : n ≤ 1000000) : wrap64 n = n := by unfold wrap64; omega
theorem tdiv4 {c : Int} (h : 0 ≤ c) : Int.tdiv c 4 = c / 4 := Int.tdiv_eq_ediv_of_nonneg h
theorem tmod4 {c : Int} (h : 0 ≤ c) : Int.tmod c 4 = c % 4 := Int.tmod_eq_emod_of_nonneg h
theorem front_eq (a b c : Int) (h0 : 0 ≤ c) (h1 : c ≤ 64) : geom_front.f a b c = some (2 + c / 4) := by
  unfold geom_front.f; rw [tdiv4 h0, w64 (n := c / 4) (by omega) (by omega), w64 (by omega) (by omega)]
theorem btw_yes {n l m : Int} (h0 : l ≤ n) (h1 : n ≤ m) : geom_between.f n l m = some true := by
  unfold geom_between.f; rw [if_pos h0]; simp [h1]
theorem btw_no {n l m : Int} (h : ¬ (l ≤ n ∧ n ≤ m)) : geom_between.f n l m = some false := by
  unfold geom_between.f; by_cases h0 : n ≥ l
  · rw [if_pos h0]; simp; omega
  · rw [if_neg h0]
theorem can_ok {a b c : Int} (h : ok a b c) : geom_Can.f a b c = some 0 := by
  obtain ⟨h1, h2, h3, h4, h5, h6, h7, h8⟩ := h
  unfold geom_Can.f
  rw [btw_yes h1 h2, btw_yes h3 h4, btw_yes h5 h6, front_eq a b c (by omega) h6]
  simp only [Option.bind_some, if_true]
  rw [tmod4 (by omega), if_pos h7, w64 (by omega) (by omega), if_neg (by omega)]
theorem can_no {a b c : Int} (h : ¬ ok a b c) : geom_Can.f a b c = some 170 := by
  unfold geom_Can.f
  by_cases h1 : 1 ≤ a ∧ a ≤ 8
  · rw [btw_yes h1.1 h1.2]; simp only [Option.bind_some, if_true]
    by_cases h2 : 8 ≤ b ∧ b ≤ 256
    · rw [btw_yes h2.1 h2.2]; simp only [Option.bind_some, if_true]
      by_cases h3 : 4 ≤ c ∧ c ≤ 64
      · rw [btw_yes h3.1 h3.2]; simp only [Option.bind_some, if_true]
        rw [tmod4 (by omega)]
        by_cases h4 : c % 4 = 0
        · rw [if_pos h4, front_eq a b c (by omega) h3.2]; simp only [Option.bind_some]
          rw [w64 (by omega) (by omega), if_pos]
          unfold ok at h; omega
        · rw [if_neg h4]
      · rw [btw_no h3]; simp
    · rw [btw_no h2]; simp
  · rw [btw_no h1]; simp
theorem prod_bd {a b : Int} {m n : Int} (h0 : 0 ≤ a) (h1 : a ≤ m) (h2 : 0 ≤ b) (h3 : b ≤ n) (hm : m * n ≤ 1000000) (hm0 : 0 ≤ m) : wrap64 (a * b) = a * b := by
  have := Int.mul_nonneg h0 h2
  have := Int.mul_le_mul h1 h3 h2 hm0
  exact w64 (by omega) (by omega)


theorem all_ok {a b c : Int} (h : ok a b c) (e : Int) (h0 : 0 ≤ e) (h1 : e ≤ 256) : geom_all.f a b c e = some (a * e) := by
  unfold geom_all.f; rw [can_ok h]; simp only [Option.bind_some, if_true]
  rw [prod_bd (m := 8) (n := 256) (by have := h.1; omega) h.2.1 h0 h1 (by omega) (by omega)]
theorem all_no {a b c : Int} (h : ¬ ok a b c) (e : Int) : geom_all.f a b c e = some 0 := by
  unfold geom_all.f; rw [can_no h]; rfl
instance (a b c : Int) : Decidable (ok a b c) := by unfold ok; infer_instance
theorem all_any {a b c : Int} (e : Int) (h0 : ok a b c → 0 ≤ e ∧ e ≤ 256) : geom_all.f a b c e = some (if ok a b c then a * e else 0) := by
  by_cases h : ok a b c
  · rw [if_pos h, all_ok h e (h0 h).1 (h0 h).2]
  · rw [if_neg h, all_no h]
theorem blocks_any (a b c : Int) : geom_Blocks.f a b c = some (if ok a b c then a * b else 0) := by
  unfold geom_Blocks.f; rw [all_any b (fun h => by unfold ok at h; omega)]; rfl
theorem inodes_any (a b c : Int) : geom_Inodes.f a b c = some (if ok a b c then a * c else 0) := by
  unfold geom_Inodes.f; rw [all_any c (fun h => by unfold ok at h; omega)]; rfl


theorem room_any (a b c : Int) (hc : -9223372036854775808 ≤ c) (hd : c ≤ 9223372036854775807) : geom_Room.f a b c = some (if ok a b c then a * (b - (2 + c / 4)) else 0) := by
  unfold geom_Room.f
  by_cases h : ok a b c
  · rw [front_eq a b c (by unfold ok at h; omega) (by unfold ok at h; omega)]; simp only [Option.bind_some]
    rw [w64 (by unfold ok at h; omega) (by unfold ok at h; omega), all_ok h _ (by unfold ok at h; omega) (by unfold ok at h; omega), if_pos h]; rfl
  · unfold geom_front.f; simp only [Option.bind_some]
    rw [all_no h, if_neg h]; rfl


theorem at_any (a b c n p : Int) (hp : 0 ≤ p) (hp1 : p ≤ 1000) : geom_at.f a b c n p = some (if ok a b c ∧ 0 ≤ n ∧ n ≤ a - 1 then (n * b + p, true) else (0, false)) := by
  unfold geom_at.f
  by_cases h : ok a b c
  · rw [can_ok h]; simp only [Option.bind_some, if_true]
    rw [w64 (n := a - 1) (by unfold ok at h; omega) (by unfold ok at h; omega)]
    by_cases g : 0 ≤ n ∧ n ≤ a - 1
    · rw [btw_yes g.1 g.2, if_pos ⟨h, g⟩]; simp only [Option.bind_some, if_true]
      have h1 : 0 ≤ n * b := Int.mul_nonneg g.1 (by unfold ok at h; omega)
      have h2 : n * b ≤ 7 * 256 := Int.mul_le_mul (by unfold ok at h; omega) (by unfold ok at h; omega) (by unfold ok at h; omega) (by omega)
      rw [w64 (n := n * b) (by omega) (by omega), w64 (by omega) (by omega)]
    · rw [btw_no g, if_neg (fun h' => g h'.2)]; rfl
  · rw [can_no h, if_neg (fun h' => h h'.1)]; rfl


theorem split_any {n e t : Int} (he : 1 ≤ e) (ht : 0 ≤ t) (ht1 : t ≤ 10000) (he1 : e ≤ 10000) : geom_split.f n e t = some (if 0 ≤ n ∧ n ≤ t - 1 then (n / e, n % e, true) else (0, 0, false)) := by
  unfold geom_split.f
  rw [w64 (n := t - 1) (by omega) (by omega)]
  by_cases g : 0 ≤ n ∧ n ≤ t - 1
  · rw [btw_yes g.1 g.2, if_pos g]; simp only [Option.bind_some, if_true]
    rw [if_neg (by omega), Int.tdiv_eq_ediv_of_nonneg g.1, Int.tmod_eq_emod_of_nonneg g.1]
    have h1 : 0 ≤ n / e := Int.ediv_nonneg g.1 (by omega)
    have h2 : n / e ≤ n := Int.ediv_le_self _ g.1
    rw [w64 (by omega) (by omega)]
  · rw [btw_no g, if_neg g]; rfl
theorem split_none {n e : Int} : geom_split.f n e 0 = some (0, 0, false) := by
  unfold geom_split.f
  rw [w64 (by omega) (by omega), btw_no (by omega)]; rfl


theorem umod {x t : Int} (h1 : 1 ≤ t) (h2 : t ≤ 10000) : ∃ r, wrap64 (Int.tmod (IntKind.u64.wrap x) (IntKind.u64.wrap t)) = r ∧ 0 ≤ r ∧ r ≤ t - 1 ∧ IntKind.u64.wrap t ≠ 0 := by
  have e : IntKind.u64.wrap t = t := by simp [IntKind.wrap, IntKind.signed, IntKind.bits]; omega
  have e0 : 0 ≤ IntKind.u64.wrap x := by simp [IntKind.wrap, IntKind.signed, IntKind.bits]; omega
  rw [e, Int.tmod_eq_emod_of_nonneg e0]
  have := Int.emod_nonneg (IntKind.u64.wrap x) (show t ≠ 0 by omega)
  have := Int.emod_lt_of_pos (IntKind.u64.wrap x) (show 0 < t by omega)
  exact ⟨_, w64 (by omega) (by omega), by omega, by omega, by omega⟩
theorem law (a b c x y : Int) (hc : -9223372036854775808 ≤ c) (hd : c ≤ 9223372036854775807) : ∃ k, bollardlaw04_GeomBack.f k a b c x y = some true := by
  refine ⟨1, ?_⟩
  unfold bollardlaw04_GeomBack.f
  by_cases h : ok a b c
  · have hh := h
    obtain ⟨h1, h2, h3, h4, h5, h6, h7, h8⟩ := h
    have i0 : 1 * 4 ≤ a * c := Int.mul_le_mul h1 h5 (by omega) (by omega)
    have i1 : a * c ≤ 8 * 64 := Int.mul_le_mul h2 h6 (by omega) (by omega)
    have b0 : 1 * 8 ≤ a * b := Int.mul_le_mul h1 h3 (by omega) (by omega)
    have b1 : a * b ≤ 8 * 256 := Int.mul_le_mul h2 h4 (by omega) (by omega)
    rw [can_ok hh, inodes_any, blocks_any, if_pos hh, if_pos hh]; simp only [Option.bind_some, if_true]
    rw [if_neg (by omega), if_neg (by omega)]
    simp only [bollardlaw04_GeomBack.j0]
    rw [if_neg (by simp; omega), inodes_any, blocks_any, if_pos hh, if_pos hh]; simp only [Option.bind_some]
    obtain ⟨r, er, r0, r1, hne⟩ := umod (x := x) (t := a * c) (by omega) (by omega)
    obtain ⟨s, es, s0, s1, hne2⟩ := umod (x := y) (t := a * b) (by omega) (by omega)
    rw [if_neg hne, if_neg hne2, er, es]
    have eo : geom_Owner.f a b c r = some (r / c, r % c, true) := by
      unfold geom_Owner.f; rw [inodes_any, if_pos hh]; simp only [Option.bind_some]; rw [split_any (by omega) (by omega) (by omega) (by omega), if_pos ⟨r0, r1⟩]; rfl
    have eg : geom_Group.f a b c s = some (s / b, s % b, true) := by
      unfold geom_Group.f; rw [blocks_any, if_pos hh]; simp only [Option.bind_some]; rw [split_any (by omega) (by omega) (by omega) (by omega), if_pos ⟨s0, s1⟩]; rfl
    have q0 : 0 ≤ s / b := Int.ediv_nonneg s0 (by omega)
    have q1 : s / b ≤ a - 1 := by
      have : s / b < a := Int.ediv_lt_of_lt_mul (by omega) (by omega)
      omega
    have m0 : 0 ≤ s % b := Int.emod_nonneg _ (by omega)
    have m1 : s % b < b := Int.emod_lt_of_pos _ (by omega)
    have es2 : s / b * b + s % b = s := by rw [Int.mul_comm]; exact Int.mul_ediv_add_emod s b
    have er2 : r / c * c + r % c = r := by rw [Int.mul_comm]; exact Int.mul_ediv_add_emod r c
    have p0 : 0 ≤ s / b * b := Int.mul_nonneg q0 (by omega)
    have p1 : s / b * b ≤ 7 * 256 := Int.mul_le_mul (by omega) h4 (by omega) (by omega)
    have rc0 : 0 ≤ r / c * c := Int.mul_nonneg (Int.ediv_nonneg r0 (by omega)) (by omega)
    have rm0 : 0 ≤ r % c := Int.emod_nonneg _ (by omega)
    have ed : geom_Data.f a b c (s / b) = some (s / b * b + (2 + c / 4), b - (2 + c / 4), true) := by
      unfold geom_Data.f; rw [front_eq a b c (by omega) h6]; simp only [Option.bind_some]
      rw [at_any a b c _ _ (by omega) (by omega), if_pos ⟨hh, q0, q1⟩]; simp only [Option.bind_some, if_true]
      rw [w64 (by omega) (by omega)]
    have ei : geom_IsData.f a b c s = some (decide (s % b ≥ 2 + c / 4)) := by
      unfold geom_IsData.f; rw [eg, front_eq a b c (by omega) h6]; rfl
    rw [eo, eg]; simp only [Option.bind_some]
    rw [ed]; simp only [Option.bind_some, if_true]
    rw [w64 (n := r / c * c) (by omega) (by omega), w64 (n := s / b * b) (by omega) (by omega), er2, es2, w64 (n := r) (by omega) (by omega), w64 (n := s) (by omega) (by omega), if_pos rfl, if_pos rfl, ei]
    simp only [Option.bind_some]
    have hz : (s / b + 1) * b = s / b * b + b := by rw [Int.add_mul, Int.one_mul]
    rw [if_pos, w64 (n := s / b + 1) (by omega) (by omega), hz, w64 (by omega) (by omega), w64 (by omega) (by omega)]
    · simp; omega
    · simp; omega
  · rw [can_no h, blocks_any, inodes_any, room_any a b c hc hd, if_neg h, if_neg h, if_neg h]; simp only [Option.bind_some]; rw [if_neg (by omega), w64 (n := 0 + 0) (by omega) (by omega), w64 (by omega) (by omega)]; rfl

end Go.Proofs.Ytjncfiipcceefaa.PlainBack
