/- The engine, part 1: what a run of the model's operations does to the heap alone, whatever the tape answers. -/
import Derived.Calls
import Derived.Tactics
import Derived.Below
namespace Go.Proofs.YtngploohhmfaiaaGreat.E
open Go

abbrev Heap := Array Obj

/-! ### cells -/
def cellH (H : Heap) (a : Addr) : Option Value :=
  match H[a.block]? with
  | some (.cells c _ _) => if a.spot.isSome then none else c[a.off]?
  | _ => none
def frozenH (H : Heap) (a : Addr) : Bool :=
  match H[a.block]? with
  | some (.cells _ _ (lo, hi)) => lo ≤ a.off && a.off < hi
  | _ => false
def shapeH (H : Heap) (r : Nat) : Option (TypeId × Nat) :=
  match H[r]? with
  | some (.cells c elem _) => some (elem, c.size)
  | _ => none
def setH (H : Heap) (a : Addr) (v : Value) : Heap :=
  H.modify a.block fun
    | .cells c elem frozen => .cells (if a.spot.isSome then c else c.setIfInBounds a.off v) elem frozen
    | o => o
theorem cell_eq (w : World) (a : Addr) : w.cell? a = cellH w.heap a := rfl
theorem frozen_eq (w : World) (a : Addr) : w.frozen? a = frozenH w.heap a := rfl
theorem shape_eq (w : World) (r : Nat) : w.shape? r = shapeH w.heap r := rfl
theorem set_eq (w : World) (a : Addr) (v : Value) : (w.setCell a v).heap = setH w.heap a v := rfl
def freezeH (H : Heap) (a : Addr) (n : Nat) : Heap := (World.freeze { (default : World) with heap := H } a n).heap
theorem freeze_eq (w : World) (a : Addr) (n : Nat) : (w.freeze a n).heap = freezeH w.heap a n := by
  unfold freezeH World.freeze; split <;> rfl

/-- All but the heap and the count of draws is as it was. -/
structure Like (w w' : World) : Prop where
  os : w'.os = w.os
  tape : w'.tape = w.tape
  output : w'.output = w.output
theorem Like.refl (w : World) : Like w w := ⟨rfl, rfl, rfl⟩
theorem Like.trans {a b c : World} (h : Like a b) (k : Like b c) : Like a c := ⟨k.os.trans h.os, k.tape.trans h.tape, k.output.trans h.output⟩

def oneC : Value → Bool
  | .agg _ | .tuple _ => false
  | _ => true
/-! ### the words in which a run is told -/
def ld (H : Heap) (a : Addr) (k : Value → Prop) : Prop := match cellH H a with | some v => k v | none => False
def st (H : Heap) (a : Addr) (v : Value) (k : Heap → Prop) : Prop := (oneC v = true ∧ (cellH H a).isSome = true ∧ frozenH H a = false) ∧ k (setH H a v)
def al (H : Heap) (o : Obj) (k : Nat → Heap → Prop) : Prop := k H.size (H.push o)
def gt (H : Heap) (r : Nat) (k : Obj → Prop) : Prop :=
  match H[r]? with
  | some (.cells ..) => False
  | some o => k o
  | none => False
def pt (H : Heap) (r : Nat) (o : Obj) (k : Heap → Prop) : Prop :=
  match H[r]? with
  | some (.cells ..) => False
  | some _ => k (H.setIfInBounds r o)
  | none => False

def wpH {α : Type} (P : Program) : Sem α → (α → Heap → Prop) → (Value → Heap → Prop) → Heap → Prop
  | .pure a, Q, _, H => Q a H
  | .load _ a k, Q, E, H => ld H a fun v => wpH P (k v) Q E H
  | .store _ a v k, Q, E, H => st H a v fun H' => wpH P k Q E H'
  | .new o k, Q, E, H => al H o fun r H' => wpH P (k r) Q E H'
  | .shape r k, Q, E, H => wpH P (k (shapeH H r)) Q E H
  | .freeze a n k, Q, E, H => wpH P k Q E (freezeH H a n)
  | .frozen a k, Q, E, H => wpH P (k (frozenH H a)) Q E H
  | .getObj r k, Q, E, H => gt H r fun o => wpH P (k o) Q E H
  | .setObj r o k, Q, E, H => pt H r o fun H' => wpH P k Q E H'
  | .choose q k, Q, E, H => if q.forced = true then wpH P (k 0) Q E H else ∀ t, wpH P (k (q.cut t)) Q E H
  | .sys _ _, _, _, _ => False
  | .program k, Q, E, H => wpH P (k P) Q E H
  | .mark _ k, Q, E, H => wpH P k Q E H
  | .halt (.panic v), _, E, H => E v H
  | .halt _, _, _, _ => False

def Outcome {α : Type} (Q : α → Heap → Prop) (E : Value → Heap → Prop) (w : World) : Result α → Prop
  | .ok a w' => Q a w'.heap ∧ Like w w'
  | .halt (.panic v) w' => E v w'.heap ∧ Like w w'
  | .halt _ _ => False
theorem Outcome.of_like {α : Type} {Q : α → Heap → Prop} {E : Value → Heap → Prop} {w w1 : World} (hl : Like w w1) {r : Result α} (h : Outcome Q E w1 r) : Outcome Q E w r := by
  cases r with
  | ok a w' => exact ⟨h.1, hl.trans h.2⟩
  | halt x w' => cases x <;> first | exact h.elim | exact ⟨h.1, hl.trans h.2⟩

theorem wpH_run {α : Type} {P : Program} (s : Sem α) : ∀ {Q : α → Heap → Prop} {E : Value → Heap → Prop} (w : World),
    wpH P s Q E w.heap → Outcome Q E w (s.run P w) := by
  induction s with
  | pure a => intro Q E w h; exact ⟨h, Like.refl w⟩
  | load m a k ih =>
    intro Q E w h
    simp only [wpH, ld] at h
    simp only [Sem.run, cell_eq]
    cases hc : cellH w.heap a with
    | none => rw [hc] at h; exact h.elim
    | some v => rw [hc] at h; exact ih v w h
  | store m a v k ih =>
    intro Q E w h
    obtain ⟨⟨h1, h2, h3⟩, h4⟩ := h
    obtain ⟨u, hu⟩ := Option.isSome_iff_exists.1 h2
    have h5 := Outcome.of_like (w := w) (w1 := w.setCell a v) ⟨rfl, rfl, rfl⟩ (ih (w.setCell a v) h4)
    cases v <;> first
      | (simp [oneC] at h1; done)
      | (simp only [Sem.run, cell_eq, hu, frozen_eq, h3]; exact h5)
  | new o k ih =>
    intro Q E w h
    exact Outcome.of_like (w := w) (w1 := { w with heap := w.heap.push o }) ⟨rfl, rfl, rfl⟩ (ih _ { w with heap := w.heap.push o } h)
  | shape r k ih => intro Q E w h; exact ih _ w h
  | freeze a n k ih =>
    intro Q E w h
    have hl : Like w (w.freeze a n) := by unfold World.freeze; split <;> exact ⟨rfl, rfl, rfl⟩
    exact Outcome.of_like hl (ih (w.freeze a n) (by rw [freeze_eq]; exact h))
  | frozen a k ih => intro Q E w h; exact ih _ w h
  | getObj r k ih =>
    intro Q E w h
    simp only [wpH, gt] at h
    simp only [Sem.run]
    split at h
    · exact h.elim
    · rename_i o hne ho
      rw [ho]
      cases o <;> first | exact (hne _ _ _ rfl).elim | exact ih _ w h
    · exact h.elim
  | setObj r o k ih =>
    intro Q E w h
    simp only [wpH, pt] at h
    simp only [Sem.run]
    split at h
    · exact h.elim
    · rename_i o' hne ho
      rw [ho]
      have h5 := Outcome.of_like (w := w) (w1 := { w with heap := w.heap.setIfInBounds r o }) ⟨rfl, rfl, rfl⟩ (ih { w with heap := w.heap.setIfInBounds r o } h)
      cases o' <;> first | exact (hne _ _ _ rfl).elim | exact h5
    · exact h.elim
  | choose q k ih =>
    intro Q E w h
    simp only [wpH] at h
    simp only [Sem.run]
    split at h
    · rename_i hq; rw [if_pos hq]; exact ih 0 w h
    · rename_i hq; rw [if_neg hq]
      exact Outcome.of_like (w := w) (w1 := { w with drawn := w.drawn + 1 }) ⟨rfl, rfl, rfl⟩ (ih (q.cut (w.tape w.drawn q)) { w with drawn := w.drawn + 1 } (h _))
  | sys c k ih => intro Q E w h; exact h.elim
  | program k ih => intro Q E w h; exact ih _ w h
  | mark m k ih => intro Q E w h; exact ih w h
  | halt x =>
    intro Q E w h
    cases x <;> first | exact h.elim | exact ⟨h, Like.refl w⟩

theorem wpH_mono {α : Type} {P : Program} (s : Sem α) : ∀ {Q Q' : α → Heap → Prop} {E E' : Value → Heap → Prop} {H : Heap},
    (∀ a H, Q a H → Q' a H) → (∀ v H, E v H → E' v H) → wpH P s Q E H → wpH P s Q' E' H := by
  induction s with
  | pure a => intro Q Q' E E' H hq he h; exact hq _ _ h
  | load m a k ih =>
    intro Q Q' E E' H hq he h
    simp only [wpH, ld] at h ⊢
    cases hc : cellH H a with
    | none => rw [hc] at h; exact h.elim
    | some v => rw [hc] at h; exact ih v hq he h
  | store m a v k ih => intro Q Q' E E' H hq he h; exact ⟨h.1, ih hq he h.2⟩
  | new o k ih => intro Q Q' E E' H hq he h; exact ih _ hq he h
  | shape r k ih => intro Q Q' E E' H hq he h; exact ih _ hq he h
  | freeze a n k ih => intro Q Q' E E' H hq he h; exact ih hq he h
  | frozen a k ih => intro Q Q' E E' H hq he h; exact ih _ hq he h
  | getObj r k ih =>
    intro Q Q' E E' H hq he h
    simp only [wpH, gt] at h ⊢
    split at h
    · exact h.elim
    · rename_i o hne ho; cases o <;> first | exact (hne _ _ _ rfl).elim | exact ih _ hq he h
    · exact h.elim
  | setObj r o k ih =>
    intro Q Q' E E' H hq he h
    simp only [wpH, pt] at h ⊢
    split at h
    · exact h.elim
    · rename_i o' hne ho; cases o' <;> first | exact (hne _ _ _ rfl).elim | exact ih hq he h
    · exact h.elim
  | choose q k ih =>
    intro Q Q' E E' H hq he h
    simp only [wpH] at h ⊢
    split at h
    · rename_i hf; rw [if_pos hf]; exact ih 0 hq he h
    · rename_i hf; rw [if_neg hf]; exact fun t => ih _ hq he (h t)
  | sys c k ih => intro Q Q' E E' H hq he h; exact h.elim
  | program k ih => intro Q Q' E E' H hq he h; exact ih _ hq he h
  | mark m k ih => intro Q Q' E E' H hq he h; exact ih hq he h
  | halt x => intro Q Q' E E' H hq he h; cases x <;> first | exact h.elim | exact he _ _ h

theorem wpH_bind {α β : Type} {P : Program} (s : Sem α) (f : α → Sem β) : ∀ {Q : β → Heap → Prop} {E : Value → Heap → Prop} {H : Heap},
    wpH P s (fun a H' => wpH P (f a) Q E H') E H → wpH P (s >>= f) Q E H := by
  show ∀ {Q : β → Heap → Prop} {E : Value → Heap → Prop} {H : Heap}, wpH P s (fun a H' => wpH P (f a) Q E H') E H → wpH P (s.bind f) Q E H
  induction s with
  | pure a => intro Q E H h; exact h
  | load m a k ih =>
    intro Q E H h
    simp only [wpH, ld, Sem.bind] at h ⊢
    cases hc : cellH H a with
    | none => rw [hc] at h; exact h.elim
    | some v => rw [hc] at h; exact ih v h
  | store m a v k ih => intro Q E H h; exact ⟨h.1, ih h.2⟩
  | new o k ih => intro Q E H h; exact ih _ h
  | shape r k ih => intro Q E H h; exact ih _ h
  | freeze a n k ih => intro Q E H h; exact ih h
  | frozen a k ih => intro Q E H h; exact ih _ h
  | getObj r k ih =>
    intro Q E H h
    simp only [wpH, gt, Sem.bind] at h ⊢
    split at h
    · exact h.elim
    · rename_i o hne ho; cases o <;> first | exact (hne _ _ _ rfl).elim | exact ih _ h
    · exact h.elim
  | setObj r o k ih =>
    intro Q E H h
    simp only [wpH, pt, Sem.bind] at h ⊢
    split at h
    · exact h.elim
    · rename_i o' hne ho; cases o' <;> first | exact (hne _ _ _ rfl).elim | exact ih h
    · exact h.elim
  | choose q k ih =>
    intro Q E H h
    simp only [wpH, Sem.bind] at h ⊢
    split at h
    · rename_i hf; rw [if_pos hf]; exact ih 0 h
    · rename_i hf; rw [if_neg hf]; exact fun t => ih _ (h t)
  | sys c k ih => intro Q E H h; exact h.elim
  | program k ih => intro Q E H h; exact ih _ h
  | mark m k ih => intro Q E H h; exact ih h
  | halt x => intro Q E H h; cases x <;> first | exact h.elim | exact h

/-! ### a call, told by the heap -/
def HCalls (P : Program) (f : FuncId) (args : Array Value) (H : Heap) (R : Ending → Heap → Prop) : Prop :=
  ∀ w : World, w.heap = H → Calls P f args w fun e w' => R e w'.heap ∧ Like w w'
theorem HCalls.mono {P : Program} {f : FuncId} {args : Array Value} {H : Heap} {R R' : Ending → Heap → Prop} (h : HCalls P f args H R) (hr : ∀ e H', R e H' → R' e H') : HCalls P f args H R' :=
  fun w hw => (h w hw).mono fun _ _ ⟨h1, h2⟩ => ⟨hr _ _ h1, h2⟩

def opN (P : Program) (o : Oper) (a : Act) (next : Act → Heap → Prop) (Q : Exit → Act → Heap → Prop) : Next → Heap → Prop
  | .value v, H => next (a.put o.dst v) H
  | .skip, H => next (a.put o.dst undef) H
  | .defer d, H => next ({ a with defers := d :: a.defers }.put o.dst undef) H
  | .enter f args, H => HCalls P f args H fun e H' =>
    match e with
    | .returned v => next (a.put o.dst v) H'
    | .panicked chain => Q (.panic chain) a H'
    | .outgrown => False
  | _, _ => False

/-- One operation. -/
def opH (P : Program) (o : Oper) (a : Act) (next : Act → Heap → Prop) (Q : Exit → Act → Heap → Prop) (H : Heap) : Prop :=
  wpH P (execOp a.eval o) (opN P o a next Q) (fun v H' => Q (.panic [{ v, recovered := false }]) a H') H

theorem opH_wp {P : Program} {o : Oper} {a : Act} {next : Act → Heap → Prop} {Q : Exit → Act → Heap → Prop} (w : World) (h : opH P o a next Q w.heap) :
    o.wp P a w (fun a' w' => next a' w'.heap ∧ Like w w') (fun e a' w' => Q e a' w'.heap ∧ Like w w') := by
  have hr := wpH_run (execOp a.eval o) w h
  unfold Oper.wp
  cases hx : (execOp a.eval o).run P w with
  | halt x w' => rw [hx] at hr; cases x <;> first | exact hr.elim | exact hr
  | ok n w' =>
    rw [hx] at hr
    obtain ⟨h1, hl⟩ := hr
    cases n <;> first
      | exact h1.elim
      | exact ⟨h1, hl⟩
      | skip
    rename_i f args
    refine (h1 w' rfl).mono ?_
    rintro e w2 ⟨h2, h3⟩
    cases e with
    | returned v => exact ⟨h2, hl.trans h3⟩
    | panicked c => exact ⟨h2, hl.trans h3⟩
    | outgrown => exact h2.elim

end Go.Proofs.YtngploohhmfaiaaGreat.E
