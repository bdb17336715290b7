/- The plain law of GeomApart: which blocks are what; no program here. -/
import Derived.Test.YtngploohhmfaiaaGreatLib4
namespace Go.Proofs.YtngploohhmfaiaaGreat.E
open Go
set_option linter.unusedVariables false
theorem dm {b q t : Int} (hb : 0 < b) (h0 : 0 ≤ t) (h1 : t < b) : (q * b + t) / b = q ∧ (q * b + t) % b = t :=
  (Int.ediv_emod_unique hb).2 ⟨by rw [Int.mul_comm b q]; omega, h0, h1⟩
theorem dme (x b : Int) : x / b * b + x % b = x := by have := Int.mul_ediv_add_emod x b; rw [Int.mul_comm] at this; exact this
/-- a block of inodes -/
def tab (b c x : Int) : Prop := 2 ≤ x % b ∧ x % b < 2 + c / 4
instance (b c x : Int) : Decidable (tab b c x) := by unfold tab; infer_instance
def f1 (b c n x : Int) : Int := if x < n * b ∧ ¬ tab b c x then 1 else 0
def f2 (b c n i x : Int) : Int := if (x < n * b ∧ ¬ tab b c x) ∨ x = n * b ∨ x = n * b + 1 ∨ (n * b + (2 + c / 4) ≤ x ∧ x < n * b + (2 + c / 4) + i) then 1 else 0
theorem f1_zero {b c x : Int} (h : 0 ≤ x) : f1 b c 0 x = 0 := by unfold f1; rw [if_neg (by omega)]
theorem f2_zero {b c n x : Int} (hb : 8 ≤ b) (hc : 4 ≤ c) : f2 b c n 0 x = if x = n * b + 1 then f1 b c n x + 1 else if x = n * b then f1 b c n x + 1 else f1 b c n x := by
  unfold f2 f1
  by_cases h1 : x = n * b + 1
  · rw [if_pos (.inr (.inr (.inl h1))), if_pos h1, if_neg (by omega)]; rfl
  · by_cases h2 : x = n * b
    · rw [if_pos (.inr (.inl h2)), if_neg h1, if_pos h2, if_neg (by omega)]; rfl
    · rw [if_neg h1, if_neg h2]
      by_cases h3 : x < n * b ∧ ¬ tab b c x
      · rw [if_pos (.inl h3), if_pos h3]
      · rw [if_neg (by rintro (h | h | h | h); exact h3 h; exact h2 h; exact h1 h; omega), if_neg h3]
theorem f2_step {b c n i x : Int} (hc : 4 ≤ c) (hi : 0 ≤ i) : f2 b c n (i + 1) x = if x = n * b + (2 + c / 4) + i then f2 b c n i x + 1 else f2 b c n i x := by
  unfold f2
  by_cases h1 : x = n * b + (2 + c / 4) + i
  · rw [if_pos (.inr (.inr (.inr (by omega)))), if_pos h1, if_neg (by rintro (h | h | h | h) <;> omega)]; rfl
  · rw [if_neg h1]
    by_cases h2 : (x < n * b ∧ ¬ tab b c x) ∨ x = n * b ∨ x = n * b + 1 ∨ (n * b + (2 + c / 4) ≤ x ∧ x < n * b + (2 + c / 4) + i)
    · rw [if_pos h2, if_pos (by rcases h2 with h | h | h | h; exact .inl h; exact .inr (.inl h); exact .inr (.inr (.inl h)); exact .inr (.inr (.inr (by omega))))]
    · rw [if_neg h2, if_neg (by rintro (h | h | h | h); exact h2 (.inl h); exact h2 (.inr (.inl h)); exact h2 (.inr (.inr (.inl h))); exact h2 (.inr (.inr (.inr (by omega)))))]
theorem f2_end {b c n x : Int} (hb : 8 ≤ b) (hc : 4 ≤ c) (hbc : 3 + c / 4 ≤ b) : f2 b c n (b - (2 + c / 4)) x = f1 b c (n + 1) x := by
  unfold f2 f1
  have hs : (n + 1) * b = n * b + b := by rw [Int.add_mul, Int.one_mul]
  by_cases h : n * b ≤ x ∧ x < n * b + b
  · have hx : x % b = x - n * b := by
      have := (dm (b := b) (q := n) (t := x - n * b) (by omega) (by omega) (by omega)).2
      rw [show n * b + (x - n * b) = x by omega] at this; exact this
    have ht : tab b c x ↔ (2 ≤ x - n * b ∧ x - n * b < 2 + c / 4) := by unfold tab; rw [hx]
    by_cases h2 : tab b c x
    · rw [if_neg (by have := ht.1 h2; rintro (h | h | h | h) <;> omega), if_neg (fun h => h.2 h2)]
    · have h3 : ¬ (2 ≤ x - n * b ∧ x - n * b < 2 + c / 4) := fun h => h2 (ht.2 h)
      rw [if_pos (by by_cases e1 : x = n * b; exact .inr (.inl e1); by_cases e2 : x = n * b + 1; exact .inr (.inr (.inl e2)); exact .inr (.inr (.inr (by omega)))), if_pos ⟨by omega, h2⟩]
  · by_cases h2 : x < n * b ∧ ¬ tab b c x
    · rw [if_pos (.inl h2), if_pos ⟨by omega, h2.2⟩]
    · rw [if_neg (by rintro (h' | h' | h' | h'); exact h2 h'; omega; omega; omega), if_neg (fun h' => h2 ⟨by omega, h'.2⟩)]
/-! inodes -/
def blkI (b c j : Int) : Int := j / c * b + (2 + j % c / 4)
def atI (c j : Int) : Int := j % c % 4 * 32
/-- the first inode of a block -/
def fi (b c x : Int) : Int := x / b * c + (x % b - 2) * 4
def f3 (b c m x : Int) : Int := if tab b c x then (if fi b c x < m then 1 else 0) else 1
theorem f3_zero {a b c x : Int} (hb : 8 ≤ b) (hc : 4 ≤ c) (h0 : 0 ≤ x) (hx : x < a * b) : f1 b c a x = f3 b c 0 x := by
  unfold f1 f3
  by_cases h : tab b c x
  · rw [if_pos h, if_neg (fun h' => h'.2 h), if_neg]
    have h1 : 0 ≤ x / b := Int.ediv_nonneg h0 (by omega)
    have h2 : 0 ≤ x / b * c := Int.mul_nonneg h1 (by omega)
    unfold tab at h; unfold fi; omega
  · rw [if_neg h, if_pos ⟨hx, h⟩]
theorem blk_dm {b c j : Int} (hc : 4 ≤ c) (hbc : 3 + c / 4 ≤ b) (hj : 0 ≤ j) : blkI b c j / b = j / c ∧ blkI b c j % b = 2 + j % c / 4 := by
  have h1 := Int.emod_nonneg j (b := c) (by omega)
  have h2 := Int.emod_lt_of_pos j (b := c) (by omega)
  exact dm (by omega) (by omega) (by omega)
theorem blk_tab {b c j : Int} (hc : 4 ≤ c) (h4 : c % 4 = 0) (hbc : 3 + c / 4 ≤ b) (hj : 0 ≤ j) : tab b c (blkI b c j) := by
  unfold tab
  rw [(blk_dm hc hbc hj).2]
  have h1 := Int.emod_nonneg j (b := c) (by omega)
  have h2 := Int.emod_lt_of_pos j (b := c) (by omega)
  omega
theorem mod4 {c j : Int} (hc : 4 ≤ c) (h4 : c % 4 = 0) : j % c % 4 = j % 4 := Int.emod_emod_of_dvd j (Int.dvd_of_emod_eq_zero h4)
theorem fi_blk {b c j : Int} (hc : 4 ≤ c) (h4 : c % 4 = 0) (hbc : 3 + c / 4 ≤ b) (hj : 0 ≤ j) : fi b c (blkI b c j) = j - j % 4 := by
  unfold fi
  rw [(blk_dm hc hbc hj).1, (blk_dm hc hbc hj).2]
  have h3 := dme j c
  have h5 := mod4 (j := j) hc h4
  omega
theorem blk_fi {b c x : Int} (hb : 8 ≤ b) (hc : 4 ≤ c) (h4 : c % 4 = 0) (hx : 0 ≤ x) (ht : tab b c x) : blkI b c (fi b c x) = x := by
  unfold tab at ht
  unfold blkI fi
  have h := dm (b := c) (q := x / b) (t := (x % b - 2) * 4) (by omega) (by omega) (by omega)
  rw [h.1, h.2]
  have := dme x b
  omega
theorem f3_met {b c m x : Int} (hb : 8 ≤ b) (hc : 4 ≤ c) (h4 : c % 4 = 0) (hbc : 3 + c / 4 ≤ b) (hm : 0 ≤ m) (h : m % 4 ≠ 0) (hx : 0 ≤ x) : f3 b c (m + 1) x = f3 b c m x := by
  unfold f3
  by_cases ht : tab b c x
  · rw [if_pos ht, if_pos ht]
    have h1 : fi b c x ≠ m := fun e => by
      have h2 : fi b c x % 4 = 0 := by
        unfold fi
        have : (x / b * c) % 4 = 0 := Int.emod_eq_zero_of_dvd (Int.dvd_mul_of_dvd_right (Int.dvd_of_emod_eq_zero h4))
        omega
      rw [e] at h2; exact h h2
    by_cases h2 : fi b c x < m
    · rw [if_pos h2, if_pos (by omega)]
    · rw [if_neg h2, if_neg (by omega)]
  · rw [if_neg ht, if_neg ht]
theorem f3_new {b c m x : Int} (hb : 8 ≤ b) (hc : 4 ≤ c) (h4 : c % 4 = 0) (hbc : 3 + c / 4 ≤ b) (hm : 0 ≤ m) (h : m % 4 = 0) (hx : 0 ≤ x) :
    f3 b c (m + 1) x = if x = blkI b c m then f3 b c m (blkI b c m) + 1 else f3 b c m x := by
  unfold f3
  by_cases e : x = blkI b c m
  · subst e
    have ht := blk_tab hc h4 hbc hm
    have hf := fi_blk hc h4 hbc hm
    rw [if_pos rfl, if_pos ht, if_pos ht, if_pos (by omega), if_neg (by omega)]; rfl
  · rw [if_neg e]
    by_cases ht : tab b c x
    · rw [if_pos ht, if_pos ht]
      have h1 : fi b c x ≠ m := fun e2 => e (by rw [← e2, blk_fi hb hc h4 hx ht])
      by_cases h2 : fi b c x < m
      · rw [if_pos h2, if_pos (by omega)]
      · rw [if_neg h2, if_neg (by omega)]
    · rw [if_neg ht, if_neg ht]
theorem f3_end {a b c x : Int} (hb : 8 ≤ b) (hc : 4 ≤ c) (h4 : c % 4 = 0) (h0 : 0 ≤ x) (hx : x < a * b) : f3 b c (a * c) x = 1 := by
  unfold f3
  by_cases ht : tab b c x
  · rw [if_pos ht, if_pos]
    unfold tab at ht
    unfold fi
    have h1 : x / b < a := Int.ediv_lt_of_lt_mul (by omega) hx
    have h2 : (x / b + 1) * c ≤ a * c := Int.mul_le_mul_of_nonneg_right (by omega) (by omega)
    rw [Int.add_mul, Int.one_mul] at h2
    omega
  · rw [if_neg ht]
/-- what was seen, what was met -/
def seenL (b c : Int) (m : Nat) : List ((Int × Int) × Value) := (List.range m).map fun (j : Nat) => ((blkI b c j, atI c j), Value.bool true)
theorem seen_inj {b c i j : Int} (hc : 4 ≤ c) (h4 : c % 4 = 0) (hbc : 3 + c / 4 ≤ b) (hi : 0 ≤ i) (hj : 0 ≤ j) (h1 : blkI b c i = blkI b c j) (h2 : atI c i = atI c j) : i = j := by
  have e1 := fi_blk hc h4 hbc hi
  have e2 := fi_blk hc h4 hbc hj
  rw [h1] at e1
  unfold atI at h2
  rw [mod4 hc h4, mod4 hc h4] at h2
  omega
theorem mget_none {κ : Type} [DecidableEq κ] {k : κ} {m : List (κ × Value)} (h : k ∉ m.map (·.1)) : mget k m = none := by
  induction m with
  | nil => rfl
  | cons p m ih =>
    obtain ⟨k', v⟩ := p
    simp only [List.map_cons, List.mem_cons, not_or] at h
    simp only [mget, if_neg h.1]; exact ih h.2
theorem mset_new {κ : Type} [DecidableEq κ] {k : κ} {x : Value} {m : List (κ × Value)} (h : k ∉ m.map (·.1)) : mset k x m = m ++ [(k, x)] := by
  induction m with
  | nil => rfl
  | cons p m ih =>
    obtain ⟨k', v⟩ := p
    simp only [List.map_cons, List.mem_cons, not_or] at h
    simp only [mset, if_neg h.1, ih h.2]; rfl
theorem mget_mset {κ : Type} [DecidableEq κ] {k k' : κ} {x : Value} {m : List (κ × Value)} : mget k (mset k' x m) = if k = k' then some x else mget k m := by
  induction m with
  | nil => simp only [mset, mget]
  | cons p m ih =>
    obtain ⟨k2, v⟩ := p
    by_cases h : k' = k2
    · subst h; simp only [mset, if_pos, mget]; by_cases h2 : k = k' <;> simp [h2]
    · simp only [mset, if_neg h, mget, ih]
      by_cases h2 : k = k2
      · subst h2; simp [Ne.symm h]
      · simp [h2]
theorem seen_fresh {b c : Int} {m : Nat} (hc : 4 ≤ c) (h4 : c % 4 = 0) (hbc : 3 + c / 4 ≤ b) : (blkI b c m, atI c m) ∉ (seenL b c m).map (·.1) := by
  intro h
  simp only [seenL, List.map_map, List.mem_map, List.mem_range, Function.comp] at h
  obtain ⟨j, hj, e⟩ := h
  have := seen_inj (i := (j : Int)) (j := (m : Int)) hc h4 hbc (by omega) (by omega) (congrArg Prod.fst e) (congrArg Prod.snd e)
  omega
theorem seen_snoc (b c : Int) (m : Nat) : seenL b c m ++ [((blkI b c m, atI c m), Value.bool true)] = seenL b c (m + 1) := by
  simp [seenL, List.range_succ]
theorem seen_len (b c : Int) (m : Nat) : (seenL b c m).length = m := by simp [seenL]
theorem at_ok {c j : Int} (h : 0 ≤ j) (hc : 4 ≤ c) : atI c j % 32 = 0 ∧ 0 ≤ atI c j ∧ atI c j < 128 := by
  unfold atI; have h1 := Int.emod_nonneg j (b := c) (by omega); omega
theorem met_step {a b c m : Int} {mt : List (Int × Value)} (hb : 8 ≤ b) (hc : 4 ≤ c) (h4 : c % 4 = 0) (hbc : 3 + c / 4 ≤ b) (hm : 0 ≤ m)
    (h : ∀ x, 0 ≤ x → x < a * b → mget x mt = if tab b c x ∧ fi b c x < m then some (.bool true) else none) :
    ∀ x, 0 ≤ x → x < a * b → mget x (mset (blkI b c m) (.bool true) mt) = if tab b c x ∧ fi b c x < m + 1 then some (.bool true) else none := by
  intro x h0 h1
  rw [mget_mset, h x h0 h1]
  by_cases e : x = blkI b c m
  · rw [if_pos e, if_pos]
    subst e
    have := fi_blk (b := b) hc h4 hbc hm
    exact ⟨blk_tab hc h4 hbc hm, by omega⟩
  · rw [if_neg e]
    by_cases ht : tab b c x
    · have h2 : fi b c x ≠ m := fun e2 => e (by rw [← e2, blk_fi hb hc h4 h0 ht])
      by_cases h3 : fi b c x < m
      · rw [if_pos ⟨ht, h3⟩, if_pos ⟨ht, by omega⟩]
      · rw [if_neg (fun h => h3 h.2), if_neg (fun h => by have := h.2; omega)]
    · rw [if_neg (fun h => ht h.1), if_neg (fun h => ht h.1)]
end Go.Proofs.YtngploohhmfaiaaGreat.E
