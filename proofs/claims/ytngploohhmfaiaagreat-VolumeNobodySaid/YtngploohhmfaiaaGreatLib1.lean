/- Words' rules: how a form in the engine's words is gone through. -/
import Derived.Test.YtngploohhmfaiaaGreatEng11
namespace Go.Proofs.YtngploohhmfaiaaGreat.E
open Go
set_option linter.unusedVariables false

/-- All that was there below a heap's size is as it was. -/
structure Ext (H H' : Heap) : Prop where
  size : H.size ≤ H'.size
  get : ∀ k, k < H.size → H'[k]? = H[k]?
theorem Ext.refl (H : Heap) : Ext H H := ⟨Nat.le_refl _, fun _ _ => rfl⟩
theorem Ext.trans {A B C : Heap} (h : Ext A B) (k : Ext B C) : Ext A C := ⟨Nat.le_trans h.size k.size, fun i hi => (k.get i (Nat.lt_of_lt_of_le hi h.size)).trans (h.get i hi)⟩
theorem Ext.push (H : Heap) (o : Obj) : Ext H (H.push o) := ⟨by simp, fun k hk => by rw [Array.getElem?_push]; simp [Nat.ne_of_lt hk]⟩
theorem Ext.of_push {H H' : Heap} {o : Obj} (h : Ext (H.push o) H') : Ext H H' := (Ext.push H o).trans h
theorem cellH_of {H H' : Heap} {a : Addr} (h : H'[a.block]? = H[a.block]?) : cellH H' a = cellH H a := by unfold cellH; rw [h]
theorem frozenH_of {H H' : Heap} {a : Addr} (h : H'[a.block]? = H[a.block]?) : frozenH H' a = frozenH H a := by unfold frozenH; rw [h]
theorem Ext.cell {H H' : Heap} (h : Ext H H') {a : Addr} (hb : a.block < H.size) : cellH H' a = cellH H a := cellH_of (h.get _ hb)

theorem cellH_push_self {H : Heap} {c : Array Value} {t : TypeId} {fr : Nat × Nat} {i : Nat} : cellH (H.push (.cells c t fr)) ⟨H.size, i, none⟩ = c[i]? := by
  simp [cellH]
theorem add_mk (b i n : Nat) : Addr.add ⟨b, i, none⟩ n = ⟨b, i + n, none⟩ := by simp [Addr.add]

theorem ld_i {H : Heap} {a : Addr} {v : Value} {k : Value → Prop} (h : cellH H a = some v) (hk : k v) : ld H a k := by unfold ld; rw [h]; exact hk
theorem st_i {H : Heap} {a : Addr} {v u : Value} {k : Heap → Prop} (h1 : oneC v = true) (h2 : cellH H a = some u) (h3 : frozenH H a = false) (hk : k (setH H a v)) : st H a v k := ⟨⟨h1, by rw [h2]; rfl, h3⟩, hk⟩
theorem al_i {H : Heap} {o : Obj} {k : Nat → Heap → Prop} (hk : ∀ H', H' = H.push o → k H.size H') : al H o k := hk _ rfl
theorem dInt_i {kd : IntKind} {n : Int} {k : Int → Prop} (hk : k n) : dInt kd (.int kd n) k := by
  show gB (decide (kd = kd)) (k n)
  rw [decide_eq_true rfl]; exact hk
theorem sB_i {b : Bool} {x y : Prop} (h1 : b = true → x) (h2 : b = false → y) : sB b x y := by cases b <;> first | exact h1 rfl | exact h2 rfl
theorem sB_d {p : Prop} [Decidable p] {x y : Prop} (h1 : p → x) (h2 : ¬ p → y) : sB (decide p) x y := by
  by_cases h : p
  · rw [decide_eq_true h]; exact h1 h
  · rw [decide_eq_false h]; exact h2 h
theorem sB_ne {m n : Int} {x y : Prop} (h1 : m ≠ n → x) (h2 : m = n → y) : sB (m != n) x y := by
  by_cases h : m = n
  · subst h; simp only [bne_self_eq_false]; exact h2 rfl
  · rw [show (m != n) = true by simpa using h]; exact h1 h
theorem sB_eq {m n : Int} {x y : Prop} (h1 : m = n → x) (h2 : m ≠ n → y) : sB (m == n) x y := by
  by_cases h : m = n
  · subst h; simp only [beq_self_eq_true]; exact h1 rfl
  · rw [show (m == n) = false by simpa using h]; exact h2 h
theorem sB_not {b : Bool} {x y : Prop} (h : sB b y x) : sB (!b) x y := by cases b <;> exact h
theorem dB_i {b : Bool} {x y : Prop} (h : sB b x y) : dB (.bool b) x y := h
theorem gB_i {b : Bool} {x : Prop} (h : b = true) (hx : x) : gB b x := by subst h; exact hx
theorem nz_i {a : Addr} {k : Addr → Prop} (h : k a) : nz (some a) k := h
/-- a call that comes back -/
def HRet (P : Program) (f : FuncId) (args : Array Value) (H : Heap) (Q : Value → Heap → Prop) : Prop := HCalls P f args H fun e H' => ∃ v, e = .returned v ∧ Q v H'
theorem call_i {P : Program} {f : FuncId} {args : Array Value} {H : Heap} {Q K : Value → Heap → Prop} {E : List PanicEntry → Heap → Prop} (h : HRet P f args H Q) (hk : ∀ v H', Q v H' → K v H') :
    HCalls P f args H (Sp.retK K E) := h.mono fun e H' ⟨v, he, hq⟩ => by subst he; exact hk v H' hq
/-- without overflow -/
theorem wrap_id {n : Int} (h1 : -9223372036854775808 ≤ n) (h2 : n ≤ 9223372036854775807) : IntKind.wrap .i64 n = n := by
  have e64 : (2 : Int) ^ 64 = 18446744073709551616 := by decide
  have e63 : (2 : Int) ^ (64 - 1) = 9223372036854775808 := by decide
  simp only [IntKind.wrap, IntKind.bits, IntKind.signed, Bool.true_and, e64, e63, ge_iff_le, decide_eq_true_eq]
  split <;> omega
theorem gB_eq {b : Bool} {x : Prop} (h : b = true) : gB b x = x := by subst h; rfl
end Go.Proofs.YtngploohhmfaiaaGreat.E
