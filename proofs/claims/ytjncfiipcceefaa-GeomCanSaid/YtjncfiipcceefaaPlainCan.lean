/- Plain laws on the printed functions of layer geom and of its reference: which geometry can be, and what each of them answers. -/
import Derived.Test.YtjncfiipcceefaaPGeomCanx
namespace Go.Proofs.Ytjncfiipcceefaa.PlainCan
open Go.RowKit Go.Proofs.Ytjncfiipcceefaa.PGeomCan Go.Proofs.YtjncfiipcceefaaW.PrintWords Go.Proofs.YtjncfiipcceefaaW.PrintLast Go.Proofs.YtjncfiipcceefaaW.PrintMore

/-- a geometry that can be -/
def ok (a b c : Int) : Prop := 1 ≤ a ∧ a ≤ 8 ∧ 8 ≤ b ∧ b ≤ 256 ∧ 4 ≤ c ∧ c ≤ 64 ∧ c % 4 = 0 ∧ 3 + c / 4 ≤ b
theorem w64 {n : Int} (h0 : -1000000 ≤ n) (h1 : n ≤ 1000000) : wrap64 n = n := by unfold wrap64; omega
theorem tdiv4 {c : Int} (h : 0 ≤ c) : Int.tdiv c 4 = c / 4 := Int.tdiv_eq_ediv_of_nonneg h
theorem tmod4 {c : Int} (h : 0 ≤ c) : Int.tmod c 4 = c % 4 := Int.tmod_eq_emod_of_nonneg h
theorem front_eq (a b c : Int) (h0 : 0 ≤ c) (h1 : c ≤ 64) : geom_front.f a b c = some (2 + c / 4) := by
  unfold geom_front.f; rw [tdiv4 h0, w64 (n := c / 4) (by omega) (by omega), w64 (by omega) (by omega)]
theorem btw_yes {n l m : Int} (h0 : l ≤ n) (h1 : n ≤ m) : geom_between.f n l m = some true := by
  unfold geom_between.f; rw [if_pos h0]; simp [h1]
theorem btw_no {n l m : Int} (h : ¬ (l ≤ n ∧ n ≤ m)) : geom_between.f n l m = some false := by
  unfold geom_between.f; by_cases h0 : n ≥ l
  · rw [if_pos h0]; simp; omega
  · rw [if_neg h0]
theorem can_ok {a b c : Int} (h : ok a b c) : geom_Can.f a b c = some 0 := by
  obtain ⟨h1, h2, h3, h4, h5, h6, h7, h8⟩ := h
  unfold geom_Can.f
  rw [btw_yes h1 h2, btw_yes h3 h4, btw_yes h5 h6, front_eq a b c (by omega) h6]
  simp only [Option.bind_some, if_true]
  rw [tmod4 (by omega), if_pos h7, w64 (by omega) (by omega), if_neg (by omega)]
theorem can_no {a b c : Int} (h : ¬ ok a b c) : geom_Can.f a b c = some 170 := by
  unfold geom_Can.f
  by_cases h1 : 1 ≤ a ∧ a ≤ 8
  · rw [btw_yes h1.1 h1.2]; simp only [Option.bind_some, if_true]
    by_cases h2 : 8 ≤ b ∧ b ≤ 256
    · rw [btw_yes h2.1 h2.2]; simp only [Option.bind_some, if_true]
      by_cases h3 : 4 ≤ c ∧ c ≤ 64
      · rw [btw_yes h3.1 h3.2]; simp only [Option.bind_some, if_true]
        rw [tmod4 (by omega)]
        by_cases h4 : c % 4 = 0
        · rw [if_pos h4, front_eq a b c (by omega) h3.2]; simp only [Option.bind_some]
          rw [w64 (by omega) (by omega), if_pos]
          unfold ok at h; omega
        · rw [if_neg h4]
      · rw [btw_no h3]; simp
    · rw [btw_no h2]; simp
  · rw [btw_no h1]; simp
theorem rcan_ok {a b c : Int} (h : ok a b c) : bollardref04_Can.f a b c = some 0 := by
  obtain ⟨h1, h2, h3, h4, h5, h6, h7, h8⟩ := h
  unfold bollardref04_Can.f
  rw [if_neg (by omega), if_neg (by omega), if_neg (by omega), if_neg (by omega), if_neg (by omega), if_neg (by omega), tmod4 (by omega), if_pos h7, tdiv4 (by omega), w64 (n := c / 4) (by omega) (by omega), w64 (by omega) (by omega), if_neg (by omega)]
theorem rcan_no {a b c : Int} (h : ¬ ok a b c) : bollardref04_Can.f a b c = some 170 := by
  unfold bollardref04_Can.f
  by_cases h1 : a < 1
  · rw [if_pos h1]
  rw [if_neg h1]
  by_cases h2 : a > 8
  · rw [if_pos h2]
  rw [if_neg h2]
  by_cases h3 : b < 8
  · rw [if_pos h3]
  rw [if_neg h3]
  by_cases h4 : b > 256
  · rw [if_pos h4]
  rw [if_neg h4]
  by_cases h5 : c < 4
  · rw [if_pos h5]
  rw [if_neg h5]
  by_cases h6 : c > 64
  · rw [if_pos h6]
  rw [if_neg h6, tmod4 (by omega)]
  by_cases h7 : c % 4 = 0
  · rw [if_pos h7, tdiv4 (by omega), w64 (n := c / 4) (by omega) (by omega), w64 (by omega) (by omega), if_pos]
    unfold ok at h; omega
  · rw [if_neg h7]
theorem prod_bd {a b : Int} {m n : Int} (h0 : 0 ≤ a) (h1 : a ≤ m) (h2 : 0 ≤ b) (h3 : b ≤ n) (hm : m * n ≤ 1000000) (hm0 : 0 ≤ m) : wrap64 (a * b) = a * b := by
  have := Int.mul_nonneg h0 h2
  have := Int.mul_le_mul h1 h3 h2 hm0
  exact w64 (by omega) (by omega)


theorem all_ok {a b c : Int} (h : ok a b c) (e : Int) (h0 : 0 ≤ e) (h1 : e ≤ 256) : geom_all.f a b c e = some (a * e) := by
  unfold geom_all.f; rw [can_ok h]; simp only [Option.bind_some, if_true]
  rw [prod_bd (m := 8) (n := 256) (by have := h.1; omega) h.2.1 h0 h1 (by omega) (by omega)]
theorem all_no {a b c : Int} (h : ¬ ok a b c) (e : Int) : geom_all.f a b c e = some 0 := by
  unfold geom_all.f; rw [can_no h]; rfl
instance (a b c : Int) : Decidable (ok a b c) := by unfold ok; infer_instance
theorem all_any {a b c : Int} (e : Int) (h0 : ok a b c → 0 ≤ e ∧ e ≤ 256) : geom_all.f a b c e = some (if ok a b c then a * e else 0) := by
  by_cases h : ok a b c
  · rw [if_pos h, all_ok h e (h0 h).1 (h0 h).2]
  · rw [if_neg h, all_no h]
theorem blocks_any (a b c : Int) : geom_Blocks.f a b c = some (if ok a b c then a * b else 0) := by
  unfold geom_Blocks.f; rw [all_any b (fun h => by unfold ok at h; omega)]; rfl
theorem inodes_any (a b c : Int) : geom_Inodes.f a b c = some (if ok a b c then a * c else 0) := by
  unfold geom_Inodes.f; rw [all_any c (fun h => by unfold ok at h; omega)]; rfl


theorem room_any (a b c : Int) (hc : -9223372036854775808 ≤ c) (hd : c ≤ 9223372036854775807) : geom_Room.f a b c = some (if ok a b c then a * (b - (2 + c / 4)) else 0) := by
  unfold geom_Room.f
  by_cases h : ok a b c
  · rw [front_eq a b c (by unfold ok at h; omega) (by unfold ok at h; omega)]; simp only [Option.bind_some]
    rw [w64 (by unfold ok at h; omega) (by unfold ok at h; omega), all_ok h _ (by unfold ok at h; omega) (by unfold ok at h; omega), if_pos h]; rfl
  · unfold geom_front.f; simp only [Option.bind_some]
    rw [all_no h, if_neg h]; rfl


theorem rblocks_any (a b c : Int) : bollardref04_Blocks.f a b c = some (if ok a b c then a * b else 0) := by
  unfold bollardref04_Blocks.f
  by_cases h : ok a b c
  · rw [rcan_ok h, if_pos h]; simp only [Option.bind_some, if_true]
    rw [prod_bd (m := 8) (n := 256) (by unfold ok at h; omega) (by unfold ok at h; omega) (by unfold ok at h; omega) (by unfold ok at h; omega) (by omega) (by omega)]
  · rw [rcan_no h, if_neg h]; rfl
theorem rinodes_any (a b c : Int) : bollardref04_Inodes.f a b c = some (if ok a b c then a * c else 0) := by
  unfold bollardref04_Inodes.f
  by_cases h : ok a b c
  · rw [rcan_ok h, if_pos h]; simp only [Option.bind_some, if_true]
    rw [prod_bd (m := 8) (n := 256) (by unfold ok at h; omega) (by unfold ok at h; omega) (by unfold ok at h; omega) (by unfold ok at h; omega) (by omega) (by omega)]
  · rw [rcan_no h, if_neg h]; rfl


theorem rroom_any (a b c : Int) : bollardref04_Room.f a b c = some (if ok a b c then a * (b - (2 + c / 4)) else 0) := by
  unfold bollardref04_Room.f
  by_cases h : ok a b c
  · rw [rcan_ok h, if_pos h]; simp only [Option.bind_some, if_true]
    rw [tdiv4 (by unfold ok at h; omega), w64 (n := c / 4) (by unfold ok at h; omega) (by unfold ok at h; omega), w64 (n := b - 2) (by unfold ok at h; omega) (by unfold ok at h; omega), w64 (n := b - 2 - c / 4) (by unfold ok at h; omega) (by unfold ok at h; omega)]
    rw [prod_bd (m := 8) (n := 256) (by unfold ok at h; omega) (by unfold ok at h; omega) (by unfold ok at h; omega) (by unfold ok at h; omega) (by omega) (by omega)]
    rw [Int.sub_sub]
  · rw [rcan_no h, if_neg h]; rfl


theorem law (a b c : Int) (hc : -9223372036854775808 ≤ c) (hd : c ≤ 9223372036854775807) : bollardlaw04_GeomCan.f a b c = some true := by
  unfold bollardlaw04_GeomCan.f
  rw [blocks_any, inodes_any, room_any a b c hc hd, rblocks_any, rinodes_any, rroom_any]
  by_cases h : ok a b c
  · rw [can_ok h, rcan_ok h]; simp
  · rw [can_no h, rcan_no h]; simp

end Go.Proofs.Ytjncfiipcceefaa.PlainCan
