/- Plain laws on the printed functions of layer geom and of its reference: which geometry can be, and what each of them answers. -/
import Derived.Test.YtjncfiipcceefaaPGeomGroupsx
namespace Go.Proofs.Ytjncfiipcceefaa.PlainGroups
open Go.RowKit Go.Proofs.Ytjncfiipcceefaa.PGeomGroups Go.Proofs.YtjncfiipcceefaaW.PrintWords Go.Proofs.YtjncfiipcceefaaW.PrintLast Go.Proofs.YtjncfiipcceefaaW.PrintMore

/-- a geometry that can be -/
def ok (a b c : Int) : Prop := 1 ≤ a ∧ a ≤ 8 ∧ 8 ≤ b ∧ b ≤ 256 ∧ 4 ≤ c ∧ c ≤ 64 ∧ c % 4 = 0 ∧ 3 + c / 4 ≤ b
theorem w64 {n : Int} (h0 : -1000000 ≤ n) (h1 : n ≤ 1000000) : wrap64 n = n := by unfold wrap64; omega
theorem tdiv4 {c : Int} (h : 0 ≤ c) : Int.tdiv c 4 = c / 4 := Int.tdiv_eq_ediv_of_nonneg h
theorem tmod4 {c : Int} (h : 0 ≤ c) : Int.tmod c 4 = c % 4 := Int.tmod_eq_emod_of_nonneg h
theorem front_eq (a b c : Int) (h0 : 0 ≤ c) (h1 : c ≤ 64) : geom_front.f a b c = some (2 + c / 4) := by
  unfold geom_front.f; rw [tdiv4 h0, w64 (n := c / 4) (by omega) (by omega), w64 (by omega) (by omega)]
theorem btw_yes {n l m : Int} (h0 : l ≤ n) (h1 : n ≤ m) : geom_between.f n l m = some true := by
  unfold geom_between.f; rw [if_pos h0]; simp [h1]
theorem btw_no {n l m : Int} (h : ¬ (l ≤ n ∧ n ≤ m)) : geom_between.f n l m = some false := by
  unfold geom_between.f; by_cases h0 : n ≥ l
  · rw [if_pos h0]; simp; omega
  · rw [if_neg h0]
theorem can_ok {a b c : Int} (h : ok a b c) : geom_Can.f a b c = some 0 := by
  obtain ⟨h1, h2, h3, h4, h5, h6, h7, h8⟩ := h
  unfold geom_Can.f
  rw [btw_yes h1 h2, btw_yes h3 h4, btw_yes h5 h6, front_eq a b c (by omega) h6]
  simp only [Option.bind_some, if_true]
  rw [tmod4 (by omega), if_pos h7, w64 (by omega) (by omega), if_neg (by omega)]
theorem can_no {a b c : Int} (h : ¬ ok a b c) : geom_Can.f a b c = some 170 := by
  unfold geom_Can.f
  by_cases h1 : 1 ≤ a ∧ a ≤ 8
  · rw [btw_yes h1.1 h1.2]; simp only [Option.bind_some, if_true]
    by_cases h2 : 8 ≤ b ∧ b ≤ 256
    · rw [btw_yes h2.1 h2.2]; simp only [Option.bind_some, if_true]
      by_cases h3 : 4 ≤ c ∧ c ≤ 64
      · rw [btw_yes h3.1 h3.2]; simp only [Option.bind_some, if_true]
        rw [tmod4 (by omega)]
        by_cases h4 : c % 4 = 0
        · rw [if_pos h4, front_eq a b c (by omega) h3.2]; simp only [Option.bind_some]
          rw [w64 (by omega) (by omega), if_pos]
          unfold ok at h; omega
        · rw [if_neg h4]
      · rw [btw_no h3]; simp
    · rw [btw_no h2]; simp
  · rw [btw_no h1]; simp
theorem rcan_ok {a b c : Int} (h : ok a b c) : bollardref04_Can.f a b c = some 0 := by
  obtain ⟨h1, h2, h3, h4, h5, h6, h7, h8⟩ := h
  unfold bollardref04_Can.f
  rw [if_neg (by omega), if_neg (by omega), if_neg (by omega), if_neg (by omega), if_neg (by omega), if_neg (by omega), tmod4 (by omega), if_pos h7, tdiv4 (by omega), w64 (n := c / 4) (by omega) (by omega), w64 (by omega) (by omega), if_neg (by omega)]
theorem rcan_no {a b c : Int} (h : ¬ ok a b c) : bollardref04_Can.f a b c = some 170 := by
  unfold bollardref04_Can.f
  by_cases h1 : a < 1
  · rw [if_pos h1]
  rw [if_neg h1]
  by_cases h2 : a > 8
  · rw [if_pos h2]
  rw [if_neg h2]
  by_cases h3 : b < 8
  · rw [if_pos h3]
  rw [if_neg h3]
  by_cases h4 : b > 256
  · rw [if_pos h4]
  rw [if_neg h4]
  by_cases h5 : c < 4
  · rw [if_pos h5]
  rw [if_neg h5]
  by_cases h6 : c > 64
  · rw [if_pos h6]
  rw [if_neg h6, tmod4 (by omega)]
  by_cases h7 : c % 4 = 0
  · rw [if_pos h7, tdiv4 (by omega), w64 (n := c / 4) (by omega) (by omega), w64 (by omega) (by omega), if_pos]
    unfold ok at h; omega
  · rw [if_neg h7]
theorem prod_bd {a b : Int} {m n : Int} (h0 : 0 ≤ a) (h1 : a ≤ m) (h2 : 0 ≤ b) (h3 : b ≤ n) (hm : m * n ≤ 1000000) (hm0 : 0 ≤ m) : wrap64 (a * b) = a * b := by
  have := Int.mul_nonneg h0 h2
  have := Int.mul_le_mul h1 h3 h2 hm0
  exact w64 (by omega) (by omega)


instance dok (a b c : Int) : Decidable (ok a b c) := by unfold ok; infer_instance
theorem at_any (a b c n p : Int) (hp : 0 ≤ p) (hp1 : p ≤ 1000) : geom_at.f a b c n p = some (if ok a b c ∧ 0 ≤ n ∧ n ≤ a - 1 then (n * b + p, true) else (0, false)) := by
  unfold geom_at.f
  by_cases h : ok a b c
  · rw [can_ok h]; simp only [Option.bind_some, if_true]
    rw [w64 (n := a - 1) (by unfold ok at h; omega) (by unfold ok at h; omega)]
    by_cases g : 0 ≤ n ∧ n ≤ a - 1
    · rw [btw_yes g.1 g.2, if_pos ⟨h, g⟩]; simp only [Option.bind_some, if_true]
      have h1 : 0 ≤ n * b := Int.mul_nonneg g.1 (by unfold ok at h; omega)
      have h2 : n * b ≤ 7 * 256 := Int.mul_le_mul (by unfold ok at h; omega) (by unfold ok at h; omega) (by unfold ok at h; omega) (by omega)
      rw [w64 (n := n * b) (by omega) (by omega), w64 (by omega) (by omega)]
    · rw [btw_no g, if_neg (fun h' => g h'.2)]; rfl
  · rw [can_no h, if_neg (fun h' => h h'.1)]; rfl


theorem rsuper_any (a b c n : Int) : bollardref04_Super.f a b c n = some (if ok a b c ∧ 0 ≤ n ∧ n ≤ a - 1 then (n * b, true) else (0, false)) := by
  unfold bollardref04_Super.f
  by_cases h : ok a b c
  · rw [rcan_ok h]; simp only [Option.bind_some, if_true]
    by_cases g : 0 ≤ n ∧ n ≤ a - 1
    · rw [if_neg (show ¬ n < 0 by omega), if_neg (show ¬ n ≥ a by omega), if_pos (show ok a b c ∧ 0 ≤ n ∧ n ≤ a - 1 from ⟨h, g⟩)]
      have h1 : 0 ≤ n * b := Int.mul_nonneg g.1 (by unfold ok at h; omega)
      have h2 : n * b ≤ 7 * 256 := Int.mul_le_mul (by unfold ok at h; omega) (by unfold ok at h; omega) (by unfold ok at h; omega) (by omega)
      rw [w64 (n := n * b) (by omega) (by omega)]
    · rw [if_neg (show ¬ (ok a b c ∧ 0 ≤ n ∧ n ≤ a - 1) from fun h' => g h'.2)]
      by_cases k : n < 0
      · rw [if_pos k]
      · rw [if_neg k, if_pos (show n ≥ a by omega)]
  · rw [rcan_no h, if_neg (show ¬ (ok a b c ∧ 0 ≤ n ∧ n ≤ a - 1) from fun h' => h h'.1)]; rfl
theorem law (a b c n : Int) (hc : -9223372036854775808 ≤ c) (hd : c ≤ 9223372036854775807) : bollardlaw04_GeomGroups.f a b c n = some true := by
  unfold bollardlaw04_GeomGroups.f geom_Super.f geom_Header.f geom_Data.f bollardref04_Header.f bollardref04_Data.f
  rw [at_any a b c n 0 (by omega) (by omega), at_any a b c n 1 (by omega) (by omega), rsuper_any]
  by_cases h : ok a b c ∧ 0 ≤ n ∧ n ≤ a - 1
  · obtain ⟨ho, h0, h1⟩ := h
    have hb1 : 0 ≤ n * b := Int.mul_nonneg h0 (by unfold ok at ho; omega)
    have hb2 : n * b ≤ 7 * 256 := Int.mul_le_mul (by unfold ok at ho; omega) (by unfold ok at ho; omega) (by unfold ok at ho; omega) (by omega)
    have hq : ok a b c ∧ 0 ≤ n ∧ n ≤ a - 1 := ⟨ho, h0, h1⟩
    rw [front_eq a b c (by unfold ok at ho; omega) (by unfold ok at ho; omega)]
    simp only [Option.bind_some]
    rw [at_any a b c n _ (by unfold ok at ho; omega) (by unfold ok at ho; omega)]
    simp only [if_pos hq, Option.bind_some, if_true]
    rw [tdiv4 (by unfold ok at ho; omega), w64 (n := n * b + 1) (by omega) (by omega), w64 (n := n * b + 2) (by omega) (by omega), w64 (n := c / 4) (by unfold ok at ho; omega) (by unfold ok at ho; omega), w64 (n := n * b + 2 + c / 4) (by unfold ok at ho; omega) (by unfold ok at ho; omega), w64 (n := b - 2) (by unfold ok at ho; omega) (by unfold ok at ho; omega), w64 (n := b - 2 - c / 4) (by unfold ok at ho; omega) (by unfold ok at ho; omega), w64 (n := b - (2 + c / 4)) (by unfold ok at ho; omega) (by unfold ok at ho; omega)]
    rw [if_pos (by omega), if_pos (by rfl), if_pos rfl, if_pos (by rfl), if_pos (by omega), if_pos (by omega)]; rfl
  · have hx : ∀ p, geom_at.f a b c n p = some (0, false) := by
      intro p
      unfold geom_at.f
      by_cases ho : ok a b c
      · rw [can_ok ho]; simp only [Option.bind_some, if_true]
        rw [w64 (n := a - 1) (by unfold ok at ho; omega) (by unfold ok at ho; omega), btw_no (fun g => h ⟨ho, g⟩)]; rfl
      · rw [can_no ho]; rfl
    unfold geom_front.f
    simp [if_neg h, hx]

end Go.Proofs.Ytjncfiipcceefaa.PlainGroups
