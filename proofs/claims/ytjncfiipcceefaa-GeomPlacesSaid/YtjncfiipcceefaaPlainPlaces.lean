/- Plain laws on the printed functions of layer geom and of its reference: which geometry can be, and what each of them answers. -/
import Derived.Test.YtjncfiipcceefaaPGeomPlacesx
namespace Go.Proofs.Ytjncfiipcceefaa.PlainPlaces
open Go.RowKit Go.Proofs.Ytjncfiipcceefaa.PGeomPlaces Go.Proofs.YtjncfiipcceefaaW.PrintWords Go.Proofs.YtjncfiipcceefaaW.PrintLast Go.Proofs.YtjncfiipcceefaaW.PrintMore

/-- a geometry that can be -/
def ok (a b c : Int) : Prop := 1 ≤ a ∧ a ≤ 8 ∧ 8 ≤ b ∧ b ≤ 256 ∧ 4 ≤ c ∧ c ≤ 64 ∧ c % 4 = 0 ∧ 3 + c / 4 ≤ b
theorem w64 {n : Int} (h0 : -1000000 ≤ n) (h1 : n ≤ 1000000) : wrap64 n = n := by unfold wrap64; omega
theorem tdiv4 {c : Int} (h : 0 ≤ c) : Int.tdiv c 4 = c / 4 := Int.tdiv_eq_ediv_of_nonneg h
theorem tmod4 {c : Int} (h : 0 ≤ c) : Int.tmod c 4 = c % 4 := Int.tmod_eq_emod_of_nonneg h
theorem front_eq (a b c : Int) (h0 : 0 ≤ c) (h1 : c ≤ 64) : geom_front.f a b c = some (2 + c / 4) := by
  unfold geom_front.f; rw [tdiv4 h0, w64 (n := c / 4) (by omega) (by omega), w64 (by omega) (by omega)]
theorem btw_yes {n l m : Int} (h0 : l ≤ n) (h1 : n ≤ m) : geom_between.f n l m = some true := by
  unfold geom_between.f; rw [if_pos h0]; simp [h1]
theorem btw_no {n l m : Int} (h : ¬ (l ≤ n ∧ n ≤ m)) : geom_between.f n l m = some false := by
  unfold geom_between.f; by_cases h0 : n ≥ l
  · rw [if_pos h0]; simp; omega
  · rw [if_neg h0]
theorem can_ok {a b c : Int} (h : ok a b c) : geom_Can.f a b c = some 0 := by
  obtain ⟨h1, h2, h3, h4, h5, h6, h7, h8⟩ := h
  unfold geom_Can.f
  rw [btw_yes h1 h2, btw_yes h3 h4, btw_yes h5 h6, front_eq a b c (by omega) h6]
  simp only [Option.bind_some, if_true]
  rw [tmod4 (by omega), if_pos h7, w64 (by omega) (by omega), if_neg (by omega)]
theorem can_no {a b c : Int} (h : ¬ ok a b c) : geom_Can.f a b c = some 170 := by
  unfold geom_Can.f
  by_cases h1 : 1 ≤ a ∧ a ≤ 8
  · rw [btw_yes h1.1 h1.2]; simp only [Option.bind_some, if_true]
    by_cases h2 : 8 ≤ b ∧ b ≤ 256
    · rw [btw_yes h2.1 h2.2]; simp only [Option.bind_some, if_true]
      by_cases h3 : 4 ≤ c ∧ c ≤ 64
      · rw [btw_yes h3.1 h3.2]; simp only [Option.bind_some, if_true]
        rw [tmod4 (by omega)]
        by_cases h4 : c % 4 = 0
        · rw [if_pos h4, front_eq a b c (by omega) h3.2]; simp only [Option.bind_some]
          rw [w64 (by omega) (by omega), if_pos]
          unfold ok at h; omega
        · rw [if_neg h4]
      · rw [btw_no h3]; simp
    · rw [btw_no h2]; simp
  · rw [btw_no h1]; simp
theorem prod_bd {a b : Int} {m n : Int} (h0 : 0 ≤ a) (h1 : a ≤ m) (h2 : 0 ≤ b) (h3 : b ≤ n) (hm : m * n ≤ 1000000) (hm0 : 0 ≤ m) : wrap64 (a * b) = a * b := by
  have := Int.mul_nonneg h0 h2
  have := Int.mul_le_mul h1 h3 h2 hm0
  exact w64 (by omega) (by omega)

theorem rcan_ok {a b c : Int} (h : ok a b c) : bollardref04_Can.f a b c = some 0 := by
  obtain ⟨h1, h2, h3, h4, h5, h6, h7, h8⟩ := h
  unfold bollardref04_Can.f
  rw [if_neg (by omega), if_neg (by omega), if_neg (by omega), if_neg (by omega), if_neg (by omega), if_neg (by omega), tmod4 (by omega), if_pos h7, tdiv4 (by omega), w64 (n := c / 4) (by omega) (by omega), w64 (by omega) (by omega), if_neg (by omega)]
theorem rcan_no {a b c : Int} (h : ¬ ok a b c) : bollardref04_Can.f a b c = some 170 := by
  unfold bollardref04_Can.f
  by_cases h1 : a < 1
  · rw [if_pos h1]
  rw [if_neg h1]
  by_cases h2 : a > 8
  · rw [if_pos h2]
  rw [if_neg h2]
  by_cases h3 : b < 8
  · rw [if_pos h3]
  rw [if_neg h3]
  by_cases h4 : b > 256
  · rw [if_pos h4]
  rw [if_neg h4]
  by_cases h5 : c < 4
  · rw [if_pos h5]
  rw [if_neg h5]
  by_cases h6 : c > 64
  · rw [if_pos h6]
  rw [if_neg h6, tmod4 (by omega)]
  by_cases h7 : c % 4 = 0
  · rw [if_pos h7, tdiv4 (by omega), w64 (n := c / 4) (by omega) (by omega), w64 (by omega) (by omega), if_pos]
    unfold ok at h; omega
  · rw [if_neg h7]


theorem all_ok {a b c : Int} (h : ok a b c) (e : Int) (h0 : 0 ≤ e) (h1 : e ≤ 256) : geom_all.f a b c e = some (a * e) := by
  unfold geom_all.f; rw [can_ok h]; simp only [Option.bind_some, if_true]
  rw [prod_bd (m := 8) (n := 256) (by have := h.1; omega) h.2.1 h0 h1 (by omega) (by omega)]
theorem all_no {a b c : Int} (h : ¬ ok a b c) (e : Int) : geom_all.f a b c e = some 0 := by
  unfold geom_all.f; rw [can_no h]; rfl
instance (a b c : Int) : Decidable (ok a b c) := by unfold ok; infer_instance
theorem all_any {a b c : Int} (e : Int) (h0 : ok a b c → 0 ≤ e ∧ e ≤ 256) : geom_all.f a b c e = some (if ok a b c then a * e else 0) := by
  by_cases h : ok a b c
  · rw [if_pos h, all_ok h e (h0 h).1 (h0 h).2]
  · rw [if_neg h, all_no h]
theorem blocks_any (a b c : Int) : geom_Blocks.f a b c = some (if ok a b c then a * b else 0) := by
  unfold geom_Blocks.f; rw [all_any b (fun h => by unfold ok at h; omega)]; rfl
theorem inodes_any (a b c : Int) : geom_Inodes.f a b c = some (if ok a b c then a * c else 0) := by
  unfold geom_Inodes.f; rw [all_any c (fun h => by unfold ok at h; omega)]; rfl


theorem rblocks_any (a b c : Int) : bollardref04_Blocks.f a b c = some (if ok a b c then a * b else 0) := by
  unfold bollardref04_Blocks.f
  by_cases h : ok a b c
  · rw [rcan_ok h, if_pos h]; simp only [Option.bind_some, if_true]
    rw [prod_bd (m := 8) (n := 256) (by unfold ok at h; omega) (by unfold ok at h; omega) (by unfold ok at h; omega) (by unfold ok at h; omega) (by omega) (by omega)]
  · rw [rcan_no h, if_neg h]; rfl
theorem rinodes_any (a b c : Int) : bollardref04_Inodes.f a b c = some (if ok a b c then a * c else 0) := by
  unfold bollardref04_Inodes.f
  by_cases h : ok a b c
  · rw [rcan_ok h, if_pos h]; simp only [Option.bind_some, if_true]
    rw [prod_bd (m := 8) (n := 256) (by unfold ok at h; omega) (by unfold ok at h; omega) (by unfold ok at h; omega) (by unfold ok at h; omega) (by omega) (by omega)]
  · rw [rcan_no h, if_neg h]; rfl


theorem at_any (a b c n p : Int) (hp : 0 ≤ p) (hp1 : p ≤ 1000) : geom_at.f a b c n p = some (if ok a b c ∧ 0 ≤ n ∧ n ≤ a - 1 then (n * b + p, true) else (0, false)) := by
  unfold geom_at.f
  by_cases h : ok a b c
  · rw [can_ok h]; simp only [Option.bind_some, if_true]
    rw [w64 (n := a - 1) (by unfold ok at h; omega) (by unfold ok at h; omega)]
    by_cases g : 0 ≤ n ∧ n ≤ a - 1
    · rw [btw_yes g.1 g.2, if_pos ⟨h, g⟩]; simp only [Option.bind_some, if_true]
      have h1 : 0 ≤ n * b := Int.mul_nonneg g.1 (by unfold ok at h; omega)
      have h2 : n * b ≤ 7 * 256 := Int.mul_le_mul (by unfold ok at h; omega) (by unfold ok at h; omega) (by unfold ok at h; omega) (by omega)
      rw [w64 (n := n * b) (by omega) (by omega), w64 (by omega) (by omega)]
    · rw [btw_no g, if_neg (fun h' => g h'.2)]; rfl
  · rw [can_no h, if_neg (fun h' => h h'.1)]; rfl


theorem split_any {n e t : Int} (he : 1 ≤ e) (ht : 0 ≤ t) (ht1 : t ≤ 10000) (he1 : e ≤ 10000) : geom_split.f n e t = some (if 0 ≤ n ∧ n ≤ t - 1 then (n / e, n % e, true) else (0, 0, false)) := by
  unfold geom_split.f
  rw [w64 (n := t - 1) (by omega) (by omega)]
  by_cases g : 0 ≤ n ∧ n ≤ t - 1
  · rw [btw_yes g.1 g.2, if_pos g]; simp only [Option.bind_some, if_true]
    rw [if_neg (by omega), Int.tdiv_eq_ediv_of_nonneg g.1, Int.tmod_eq_emod_of_nonneg g.1]
    have h1 : 0 ≤ n / e := Int.ediv_nonneg g.1 (by omega)
    have h2 : n / e ≤ n := Int.ediv_le_self _ g.1
    rw [w64 (by omega) (by omega)]
  · rw [btw_no g, if_neg g]; rfl
theorem split_none {n e : Int} : geom_split.f n e 0 = some (0, 0, false) := by
  unfold geom_split.f
  rw [w64 (by omega) (by omega), btw_no (by omega)]; rfl


theorem bd2 {a b c : Int} (h : ok a b c) : 4 ≤ a * c ∧ a * c ≤ 512 ∧ 8 ≤ a * b ∧ a * b ≤ 2048 := by
  obtain ⟨h1, h2, h3, h4, h5, h6, h7, h8⟩ := h
  have i0 : 1 * 4 ≤ a * c := Int.mul_le_mul h1 h5 (by omega) (by omega)
  have i1 : a * c ≤ 8 * 64 := Int.mul_le_mul h2 h6 (by omega) (by omega)
  have b0 : 1 * 8 ≤ a * b := Int.mul_le_mul h1 h3 (by omega) (by omega)
  have b1 : a * b ≤ 8 * 256 := Int.mul_le_mul h2 h4 (by omega) (by omega)
  omega
theorem owner_any (a b c n : Int) : geom_Owner.f a b c n = some (if ok a b c ∧ 0 ≤ n ∧ n ≤ a * c - 1 then (n / c, n % c, true) else (0, 0, false)) := by
  unfold geom_Owner.f; rw [inodes_any]
  by_cases h : ok a b c
  · have := bd2 h
    rw [if_pos h]; simp only [Option.bind_some]
    rw [split_any (by unfold ok at h; omega) (by omega) (by omega) (by unfold ok at h; omega)]
    simp [h]
  · rw [if_neg h]; simp only [Option.bind_some]; rw [split_none]; simp [h]
theorem rowner_any (a b c n : Int) : bollardref04_Owner.f a b c n = some (if ok a b c ∧ 0 ≤ n ∧ n ≤ a * c - 1 then (n / c, n % c, true) else (0, 0, false)) := by
  unfold bollardref04_Owner.f; rw [rinodes_any]; simp only [Option.bind_some]
  by_cases h0 : n < 0
  · rw [if_pos h0, if_neg (show ¬ (ok a b c ∧ 0 ≤ n ∧ n ≤ a * c - 1) by omega)]
  · rw [if_neg h0]
    by_cases h : ok a b c
    · have := bd2 h
      have hc : 1 ≤ c := by unfold ok at h; omega
      rw [if_pos h]
      by_cases h1 : n ≥ a * c
      · rw [if_pos h1, if_neg (show ¬ (ok a b c ∧ 0 ≤ n ∧ n ≤ a * c - 1) by omega)]
      · rw [if_neg h1, if_neg (show ¬ c = 0 by omega), if_pos (show ok a b c ∧ 0 ≤ n ∧ n ≤ a * c - 1 from ⟨h, by omega, by omega⟩)]
        rw [Int.tdiv_eq_ediv_of_nonneg (by omega), Int.tmod_eq_emod_of_nonneg (by omega)]
        have h1 : 0 ≤ n / c := Int.ediv_nonneg (by omega) (by omega)
        have h2 : n / c ≤ n := Int.ediv_le_self _ (by omega)
        rw [w64 (by omega) (by omega)]
    · rw [if_neg h, if_pos (show n ≥ 0 by omega), if_neg (fun h' => h h'.1)]
theorem group_any (a b c n : Int) : geom_Group.f a b c n = some (if ok a b c ∧ 0 ≤ n ∧ n ≤ a * b - 1 then (n / b, n % b, true) else (0, 0, false)) := by
  unfold geom_Group.f; rw [blocks_any]
  by_cases h : ok a b c
  · have := bd2 h
    rw [if_pos h]; simp only [Option.bind_some]
    rw [split_any (by unfold ok at h; omega) (by omega) (by omega) (by unfold ok at h; omega)]
    simp [h]
  · rw [if_neg h]; simp only [Option.bind_some]; rw [split_none]; simp [h]
theorem rgroup_any (a b c n : Int) : bollardref04_Group.f a b c n = some (if ok a b c ∧ 0 ≤ n ∧ n ≤ a * b - 1 then (n / b, n % b, true) else (0, 0, false)) := by
  unfold bollardref04_Group.f; rw [rblocks_any]; simp only [Option.bind_some]
  by_cases h0 : n < 0
  · rw [if_pos h0, if_neg (show ¬ (ok a b c ∧ 0 ≤ n ∧ n ≤ a * b - 1) by omega)]
  · rw [if_neg h0]
    by_cases h : ok a b c
    · have := bd2 h
      have hc : 1 ≤ b := by unfold ok at h; omega
      rw [if_pos h]
      by_cases h1 : n ≥ a * b
      · rw [if_pos h1, if_neg (show ¬ (ok a b c ∧ 0 ≤ n ∧ n ≤ a * b - 1) by omega)]
      · rw [if_neg h1, if_neg (show ¬ b = 0 by omega), if_pos (show ok a b c ∧ 0 ≤ n ∧ n ≤ a * b - 1 from ⟨h, by omega, by omega⟩)]
        rw [Int.tdiv_eq_ediv_of_nonneg (by omega), Int.tmod_eq_emod_of_nonneg (by omega)]
        have h1 : 0 ≤ n / b := Int.ediv_nonneg (by omega) (by omega)
        have h2 : n / b ≤ n := Int.ediv_le_self _ (by omega)
        rw [w64 (by omega) (by omega)]
    · rw [if_neg h, if_pos (show n ≥ 0 by omega), if_neg (fun h' => h h'.1)]
theorem inode_any (a b c n : Int) : geom_Inode.f a b c n = some (if ok a b c ∧ 0 ≤ n ∧ n ≤ a * c - 1 then (n / c * b + (2 + n % c / 4), n % c % 4 * 32, true) else (0, 0, false)) := by
  unfold geom_Inode.f; rw [owner_any]; simp only [Option.bind_some]
  by_cases h : ok a b c ∧ 0 ≤ n ∧ n ≤ a * c - 1
  · obtain ⟨ho, h0, h1⟩ := h
    have hb := bd2 ho
    have hh : ok a b c ∧ 0 ≤ n ∧ n ≤ a * c - 1 := ⟨ho, h0, h1⟩
    have hc : 1 ≤ c := by unfold ok at ho; omega
    have hc2 : c ≤ 64 := by unfold ok at ho; omega
    have q0 : 0 ≤ n / c := Int.ediv_nonneg h0 (by omega)
    have q1 : n / c ≤ a - 1 := by
      have : n / c < a := Int.ediv_lt_of_lt_mul (by omega) (by omega)
      omega
    have m0 : 0 ≤ n % c := Int.emod_nonneg _ (by omega)
    have m1 : n % c < c := Int.emod_lt_of_pos _ (by omega)
    simp only [if_pos hh, if_true]
    rw [tdiv4 m0, tmod4 m0, w64 (n := n % c / 4) (by omega) (by omega), w64 (n := 2 + n % c / 4) (by omega) (by omega), at_any a b c _ _ (by omega) (by omega), if_pos ⟨ho, q0, q1⟩]
    simp only [Option.bind_some]
    rw [w64 (by omega) (by omega)]
  · simp [if_neg h]
theorem rinode_any (a b c n : Int) : bollardref04_Inode.f a b c n = some (if ok a b c ∧ 0 ≤ n ∧ n ≤ a * c - 1 then (n / c * b + (2 + n % c / 4), n % c % 4 * 32, true) else (0, 0, false)) := by
  unfold bollardref04_Inode.f; rw [rowner_any]; simp only [Option.bind_some]
  by_cases h : ok a b c ∧ 0 ≤ n ∧ n ≤ a * c - 1
  · obtain ⟨ho, h0, h1⟩ := h
    have hb := bd2 ho
    have hh : ok a b c ∧ 0 ≤ n ∧ n ≤ a * c - 1 := ⟨ho, h0, h1⟩
    have hc : 1 ≤ c := by unfold ok at ho; omega
    have hc2 : c ≤ 64 := by unfold ok at ho; omega
    have q0 : 0 ≤ n / c := Int.ediv_nonneg h0 (by omega)
    have q1 : n / c ≤ a - 1 := by
      have : n / c < a := Int.ediv_lt_of_lt_mul (by omega) (by omega)
      omega
    have m0 : 0 ≤ n % c := Int.emod_nonneg _ (by omega)
    have m1 : n % c < c := Int.emod_lt_of_pos _ (by omega)
    have hz1 : 0 ≤ n / c * b := Int.mul_nonneg q0 (by unfold ok at ho; omega)
    have hz2 : n / c * b ≤ 7 * 256 := Int.mul_le_mul (by unfold ok at ho; omega) (by unfold ok at ho; omega) (by unfold ok at ho; omega) (by omega)
    simp only [if_pos hh, if_true]
    rw [tdiv4 m0, tmod4 m0, w64 (n := n % c / 4) (by omega) (by omega), w64 (n := n / c * b) (by omega) (by omega), w64 (n := n / c * b + 2) (by omega) (by omega), w64 (n := n / c * b + 2 + n % c / 4) (by omega) (by omega), w64 (by omega) (by omega), Int.mul_comm 32, Int.add_assoc]
  · simp [if_neg h]
theorem isdata_any (a b c n : Int) (hc : -9223372036854775808 ≤ c) (hd : c ≤ 9223372036854775807) : geom_IsData.f a b c n = some (decide (ok a b c ∧ 0 ≤ n ∧ n ≤ a * b - 1 ∧ n % b ≥ 2 + c / 4)) := by
  unfold geom_IsData.f; rw [group_any]; simp only [Option.bind_some]
  by_cases h : ok a b c ∧ 0 ≤ n ∧ n ≤ a * b - 1
  · have hh := h.1
    simp only [if_pos h, if_true]
    rw [front_eq a b c (by unfold ok at hh; omega) (by unfold ok at hh; omega)]
    simp [h]
  · simp only [if_neg h]
    have hg : ¬ (ok a b c ∧ 0 ≤ n ∧ n ≤ a * b - 1 ∧ n % b ≥ 2 + c / 4) := fun g => h ⟨g.1, g.2.1, g.2.2.1⟩
    simp only [hg, decide_false]; rfl
theorem risdata_any (a b c n : Int) (hc : -9223372036854775808 ≤ c) (hd : c ≤ 9223372036854775807) : bollardref04_IsData.f a b c n = some (decide (ok a b c ∧ 0 ≤ n ∧ n ≤ a * b - 1 ∧ n % b ≥ 2 + c / 4)) := by
  unfold bollardref04_IsData.f; rw [rgroup_any]; simp only [Option.bind_some]
  by_cases h : ok a b c ∧ 0 ≤ n ∧ n ≤ a * b - 1
  · have hh := h.1
    simp only [if_pos h, if_true]
    rw [tdiv4 (by unfold ok at hh; omega), w64 (n := c / 4) (by unfold ok at hh; omega) (by unfold ok at hh; omega), w64 (by unfold ok at hh; omega) (by unfold ok at hh; omega)]
    simp [h]
  · simp only [if_neg h]
    have hg : ¬ (ok a b c ∧ 0 ≤ n ∧ n ≤ a * b - 1 ∧ n % b ≥ 2 + c / 4) := fun g => h ⟨g.1, g.2.1, g.2.2.1⟩
    simp only [hg, decide_false]; rfl

end Go.Proofs.Ytjncfiipcceefaa.PlainPlaces
