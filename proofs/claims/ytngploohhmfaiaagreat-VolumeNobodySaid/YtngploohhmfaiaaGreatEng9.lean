/- The engine, part 9: the code of a function, and its contract out of its code. -/
import Derived.Test.YtngploohhmfaiaaGreatEng8
namespace Go.Proofs.YtngploohhmfaiaaGreat.E
open Go
set_option linter.unusedVariables false

/-! ### one statement -/
def deferOf (ev : Operand → Value) (c : Call) : Option Deferred :=
  match c.callee with
  | .value f => match ev f with
    | .func fn first cap => some { target := .fn fn cap, args := (first.toList ++ c.args.toList.map ev).toArray }
    | _ => none
  | _ => none
def stepV (P : Program) (ops : Array Oper) (o : Oper) (a : Act) (next : Act → Heap → Prop) (Q : Exit → Act → Heap → Prop) (H : Heap) : Prop :=
  match o.op with
  | .defer c => match deferOf a.eval c with
    | some d => next ({ a with defers := d :: a.defers }.put o.dst undef) H
    | none => False
  | _ => (spG ops o (opS P a.eval o)).run (fun v H' => next (a.put o.dst v) H') (fun c H' => Q (.panic c) a H') H
def opsV (P : Program) (ops : Array Oper) (Q : Exit → Act → Heap → Prop) : List Oper → Act → Heap → Prop
  | [], a, H => Q .normal a H
  | o :: rest, a0, H => forceA a0 fun a => match Region.wanted o (yielded ops a.tmps) with
    | true => stepV P ops o a (fun a' H' => opsV P ops Q rest a' H') Q H
    | false => opsV P ops Q rest (a.put o.dst undef) H

def lift (Q : Exit → Act → Heap → Prop) (w0 : World) : Exit → Act → World → Prop := fun e a w => Q e a w.heap ∧ Like w0 w
theorem opN_step {P : Program} {o : Oper} {a : Act} {next : Act → World → Prop} {Q : Exit → Act → World → Prop} {w : World} {K : Value → Heap → Prop} {E : List PanicEntry → Heap → Prop}
    (hk : ∀ v w', K v w'.heap → Like w w' → next (a.put o.dst v) w') (he : ∀ c w', E c w'.heap → Like w w' → Q (.panic c) a w')
    (h : Outcome (nextK P K E) (fun v H' => E [{ v, recovered := false }] H') w ((execOp a.eval o).run P w)) : o.wp P a w next Q := by
  unfold Oper.wp
  cases hx : (execOp a.eval o).run P w with
  | halt x w' => rw [hx] at h; cases x <;> first | exact h.elim | exact he _ w' h.1 h.2
  | ok nx w' =>
    rw [hx] at h
    obtain ⟨h1, hl1⟩ := h
    cases nx <;> first
      | exact h1.elim
      | exact hk _ w' h1 hl1
      | skip
    rename_i f args
    refine (h1 w' rfl).mono ?_
    rintro e w2 ⟨h2, h3⟩
    cases e with
    | returned v => exact hk v w2 h2 (hl1.trans h3)
    | panicked c => exact he c w2 h2 (hl1.trans h3)
    | outgrown => exact h2.elim
theorem stepV_wp {P : Program} {ops : Array Oper} {o : Oper} {a : Act} {next : Act → Heap → Prop} {Q : Exit → Act → Heap → Prop} {w w0 : World} (hl : Like w0 w) (h : stepV P ops o a next Q w.heap) :
    o.wp P a w (fun a' w' => next a' w'.heap ∧ Like w0 w') (lift Q w0) := by
  obtain ⟨d, op, t, p, af, g⟩ := o
  cases op <;> first
    | exact opN_step (fun v w' hv hl' => ⟨hv, hl.trans hl'⟩) (fun c w' hc hl' => ⟨hc, hl.trans hl'⟩) (does_op P a.eval _ _ _ w (spG_elim h))
    | skip
  rename_i c
  unfold stepV at h
  simp only at h
  cases hd : deferOf a.eval c with
  | none => rw [hd] at h; exact h.elim
  | some dd =>
    rw [hd] at h
    simp only at h
    obtain ⟨callee, args, ats⟩ := c
    unfold deferOf at hd
    cases callee <;> first | (cases hd; done) | skip
    rename_i f
    simp only at hd
    cases hf : a.eval f <;> rw [hf] at hd <;> first | (cases hd; done) | skip
    rename_i fn first cap
    cases hd
    have e : (first.toList ++ args.toList.map a.eval).toArray = first ++ args.map a.eval := Array.toList_inj.1 (by simp)
    have hx : (execOp a.eval ⟨d, .defer ⟨.value f, args, ats⟩, t, p, af, g⟩).run P w = .ok (.defer { target := .fn fn cap, args := (first.toList ++ args.toList.map a.eval).toArray }) w := by
      rw [e]
      simp [execOp, resolve, hf, Deferred.ofValue]
    unfold Oper.wp
    rw [hx]
    exact ⟨h, hl⟩
theorem opsV_wp {P : Program} {ops : Array Oper} {Q : Exit → Act → Heap → Prop} {w0 : World} : ∀ (l : List Oper) (a : Act) (w : World), Like w0 w → opsV P ops Q l a w.heap → wpList P ops (lift Q w0) l a w
  | [], a, w, hl, h => ⟨h, hl⟩
  | o :: rest, a, w, hl, h => by
    unfold opsV at h
    simp only [forceA_eq] at h
    unfold wpList
    cases hw : Region.wanted o (yielded ops a.tmps) with
    | true =>
      rw [hw] at h
      simp only [if_true]
      refine .inl ?_
      exact Oper.wp_mono (fun a' w' h' => opsV_wp rest a' w' h'.2 h'.1) (stepV_wp hl h)
    | false =>
      rw [hw] at h
      simp only [Bool.false_eq_true, if_false]
      exact opsV_wp rest _ w hl h

theorem regionV_wp {P : Program} {id : Nat} {ops : Array Oper} {Q : Exit → Act → Heap → Prop} {a : Act} {w w0 : World} (hl : Like w0 w) (h : opsV P ops Q ops.toList a w.heap) : (Code.region id ops false).wp P (lift Q w0) a w :=
  wp_region_list (opsV_wp ops.toList a w hl h)
theorem down_none (ops : Array Oper) (n : Nat) : Down ops (Array.replicate n false) := fun j o _ h => by
  simp [Array.getD] at h
theorem drawV_wp {P : Program} {id : Nat} {ops : Array Oper} {Q : Exit → Act → Heap → Prop} {a : Act} {w w0 : World} (hl : Like w0 w) (hm : P.follows .mixedOrders = true) (hs : Region.noSelect ops = true)
    (h : anyV P ops (masks ops) (Q .normal) ops.size (Array.replicate ops.size false) a [] w.heap) : (Code.region id ops true).wp P (lift Q w0) a w := by
  have h1 := wpAny_ofP ops.size (anyV_sound (w0 := w0) rfl hs ops.size (Array.replicate ops.size false) a [] [] { w with drawn := w.drawn + 1 } (down_none ops _) .nil (fun q hq => by cases hq) (hl.trans ⟨rfl, rfl, rfl⟩) h)
  refine wp_mono (wp_region_any hm h1) fun e a' w' h' => ?_
  cases e <;> first | exact h' | exact h'.elim
end Go.Proofs.YtngploohhmfaiaaGreat.E
