/- Arrays of whole numbers, told by a function. -/
import Derived.Test.YtngploohhmfaiaaGreatLib3
namespace Go.Proofs.YtngploohhmfaiaaGreat.E
open Go
set_option linter.unusedVariables false
def ofFn (k : IntKind) (N : Nat) (f : Int → Int) : List Value := (List.range N).map fun (i : Nat) => .int k (f (i : Int))
theorem ofFn_get {k : IntKind} {N : Nat} {f : Int → Int} {i : Nat} (h : i < N) : (ofFn k N f)[i]? = some (.int k (f i)) := by simp [ofFn, h]
theorem ofFn_len {k : IntKind} {N : Nat} {f : Int → Int} : (ofFn k N f).length = N := by simp [ofFn]
theorem ofFn_set {k : IntKind} {N : Nat} {f : Int → Int} {n m : Int} (h : 0 ≤ n) : (ofFn k N f).set n.toNat (.int k m) = ofFn k N (fun x => if x = n then m else f x) := by
  apply List.ext_getElem?
  intro i
  by_cases hi : i < N
  · by_cases hn : n.toNat = i
    · subst hn; rw [List.getElem?_set_self (by simpa [ofFn_len] using hi), ofFn_get hi]; simp [Int.toNat_of_nonneg h]
    · rw [List.getElem?_set_ne hn, ofFn_get hi, ofFn_get hi, if_neg (by omega)]
  · rw [List.getElem?_eq_none (by simp [ofFn_len]; omega), List.getElem?_eq_none (by simp [ofFn_len]; omega)]
theorem ofFn_congr {k : IntKind} {N : Nat} {f g : Int → Int} (h : ∀ x : Int, 0 ≤ x → x < (N : Int) → f x = g x) : ofFn k N f = ofFn k N g := by
  apply List.ext_getElem?
  intro i
  by_cases hi : i < N
  · rw [ofFn_get hi, ofFn_get hi, h i (by omega) (by omega)]
  · rw [List.getElem?_eq_none (by simp [ofFn_len]; omega), List.getElem?_eq_none (by simp [ofFn_len]; omega)]
theorem ofFn_zero {N : Nat} : rowZ [Value.int .i64 0] N = ofFn .i64 N fun _ => 0 := by
  apply List.ext_getElem?
  intro i
  by_cases hi : i < N
  · rw [ofFn_get hi, rowZ_get _ _ _ (by simpa using hi)]; simp [Nat.mod_one]
  · rw [List.getElem?_eq_none (by rw [rowZ_length]; simp; omega), List.getElem?_eq_none (by simp [ofFn_len]; omega)]
theorem ld_f {s : TH} {r N : Nat} {f : Int → Int} {t τ : Nat} {n : Int} {kd : IntKind} {k : Value → Prop} (h : Blk s r (ofFn kd N f) t τ) (hn : 0 ≤ n ∧ n < (N : Int)) (hk : k (.int kd (f n))) : ld s.h (Addr.add ⟨r, 0, none⟩ (n.toNat * 1)) k := by
  have e : Addr.add ⟨r, 0, none⟩ (n.toNat * 1) = ⟨r, n.toNat, none⟩ := by unfold Addr.add; by_cases h0 : n.toNat = 0 <;> simp [h0]
  rw [e]
  refine ld_t h (ofFn_get (i := n.toNat) (by omega)) ?_
  rw [Int.toNat_of_nonneg hn.1]; exact hk
theorem st_f {s : TH} {r N : Nat} {f : Int → Int} {t τ : Nat} {n m : Int} {kd : IntKind} {k : Heap → Prop} (h : Blk s r (ofFn kd N f) t τ) (hn : 0 ≤ n ∧ n < (N : Int))
    (hk : ∀ s' : TH, Blk s' r (ofFn kd N (fun x => if x = n then m else f x)) t τ → On r s s' → s.h.size = s'.h.size → k s'.h) : st s.h (Addr.add ⟨r, 0, none⟩ (n.toNat * 1)) (.int kd m) k := by
  have e : Addr.add ⟨r, 0, none⟩ (n.toNat * 1) = ⟨r, n.toNat, none⟩ := by unfold Addr.add; by_cases h0 : n.toNat = 0 <;> simp [h0]
  rw [e]
  refine st_t h rfl (by rw [ofFn_len]; omega) fun s' h1 h2 h3 => hk s' ?_ h2 h3
  rw [← ofFn_set hn.1]; exact h1
theorem Blk.congr {s : TH} {r : Nat} {l l' : List Value} {t τ : Nat} (h : Blk s r l t τ) (e : l = l') : Blk s r l' t τ := e ▸ h
end Go.Proofs.YtngploohhmfaiaaGreat.E
