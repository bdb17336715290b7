/- My own texts, joined. -/
import Derived.Below
import Derived.Calls
import Derived.Tactics
namespace Go.Proofs.YtklppdodadkcnaaGreat.E
open Go
abbrev Heap := Array Obj
def cellH (H : Heap) (a : Addr) : Option Value :=
 match H[a.block]? with
 | some (.cells c _ _) => if a.spot.isSome then none else c[a.off]?
 | _ => none
def frozenH (H : Heap) (a : Addr) : Bool :=
 match H[a.block]? with
 | some (.cells _ _ (lo, hi)) => lo ≤ a.off && a.off < hi
 | _ => false
def shapeH (H : Heap) (r : Nat) : Option (TypeId × Nat) :=
 match H[r]? with
 | some (.cells c elem _) => some (elem, c.size)
 | _ => none
def setH (H : Heap) (a : Addr) (v : Value) : Heap :=
 H.modify a.block fun
  | .cells c elem frozen => .cells (if a.spot.isSome then c else c.setIfInBounds a.off v) elem frozen
  | o => o
theorem cell_eq (w : World) (a : Addr) : w.cell? a = cellH w.heap a := rfl
theorem frozen_eq (w : World) (a : Addr) : w.frozen? a = frozenH w.heap a := rfl
theorem shape_eq (w : World) (r : Nat) : w.shape? r = shapeH w.heap r := rfl
theorem set_eq (w : World) (a : Addr) (v : Value) : (w.setCell a v).heap = setH w.heap a v := rfl
def freezeH (H : Heap) (a : Addr) (n : Nat) : Heap := (World.freeze { (default : World) with heap := H } a n).heap
theorem freeze_eq (w : World) (a : Addr) (n : Nat) : (w.freeze a n).heap = freezeH w.heap a n := by
 unfold freezeH World.freeze; split <;> rfl
structure Like (w w' : World) : Prop where
 os : w'.os = w.os
 tape : w'.tape = w.tape
 output : w'.output = w.output
theorem Like.refl (w : World) : Like w w := ⟨rfl, rfl, rfl⟩
theorem Like.trans {a b c : World} (h : Like a b) (k : Like b c) : Like a c := ⟨k.os.trans h.os, k.tape.trans h.tape, k.output.trans h.output⟩
def oneC : Value → Bool
 | .agg _ | .tuple _ => false
 | _ => true
def ld (H : Heap) (a : Addr) (k : Value → Prop) : Prop := match cellH H a with | some v => k v | none => False
def st (H : Heap) (a : Addr) (v : Value) (k : Heap → Prop) : Prop := (oneC v = true ∧ (cellH H a).isSome = true ∧ frozenH H a = false) ∧ k (setH H a v)
def al (H : Heap) (o : Obj) (k : Nat → Heap → Prop) : Prop := k H.size (H.push o)
def gt (H : Heap) (r : Nat) (k : Obj → Prop) : Prop :=
 match H[r]? with
 | some (.cells ..) => False
 | some o => k o
 | none => False
def pt (H : Heap) (r : Nat) (o : Obj) (k : Heap → Prop) : Prop :=
 match H[r]? with
 | some (.cells ..) => False
 | some _ => k (H.setIfInBounds r o)
 | none => False
def wpH {α : Type} (P : Program) : Sem α → (α → Heap → Prop) → (Value → Heap → Prop) → Heap → Prop
 | .pure a, Q, _, H => Q a H
 | .load _ a k, Q, E, H => ld H a fun v => wpH P (k v) Q E H
 | .store _ a v k, Q, E, H => st H a v fun H' => wpH P k Q E H'
 | .new o k, Q, E, H => al H o fun r H' => wpH P (k r) Q E H'
 | .shape r k, Q, E, H => wpH P (k (shapeH H r)) Q E H
 | .freeze a n k, Q, E, H => wpH P k Q E (freezeH H a n)
 | .frozen a k, Q, E, H => wpH P (k (frozenH H a)) Q E H
 | .getObj r k, Q, E, H => gt H r fun o => wpH P (k o) Q E H
 | .setObj r o k, Q, E, H => pt H r o fun H' => wpH P k Q E H'
 | .choose q k, Q, E, H => if q.forced = true then wpH P (k 0) Q E H else ∀ t, wpH P (k (q.cut t)) Q E H
 | .sys _ _, _, _, _ => False
 | .program k, Q, E, H => wpH P (k P) Q E H
 | .mark _ k, Q, E, H => wpH P k Q E H
 | .halt (.panic v), _, E, H => E v H
 | .halt _, _, _, _ => False
def Outcome {α : Type} (Q : α → Heap → Prop) (E : Value → Heap → Prop) (w : World) : Result α → Prop
 | .ok a w' => Q a w'.heap ∧ Like w w'
 | .halt (.panic v) w' => E v w'.heap ∧ Like w w'
 | .halt _ _ => False
theorem Outcome.of_like {α : Type} {Q : α → Heap → Prop} {E : Value → Heap → Prop} {w w1 : World} (hl : Like w w1) {r : Result α} (h : Outcome Q E w1 r) : Outcome Q E w r := by
 cases r with
 | ok a w' => exact ⟨h.1, hl.trans h.2⟩
 | halt x w' => cases x <;> first | exact h.elim | exact ⟨h.1, hl.trans h.2⟩
theorem wpH_run {α : Type} {P : Program} (s : Sem α) : ∀ {Q : α → Heap → Prop} {E : Value → Heap → Prop} (w : World),
  wpH P s Q E w.heap → Outcome Q E w (s.run P w) := by
 induction s with
 | pure a => intro Q E w h; exact ⟨h, Like.refl w⟩
 | load m a k ih =>
  intro Q E w h
  simp only [wpH, ld] at h
  simp only [Sem.run, cell_eq]
  cases hc : cellH w.heap a with
  | none => rw [hc] at h; exact h.elim
  | some v => rw [hc] at h; exact ih v w h
 | store m a v k ih =>
  intro Q E w h
  obtain ⟨⟨h1, h2, h3⟩, h4⟩ := h
  obtain ⟨u, hu⟩ := Option.isSome_iff_exists.1 h2
  have h5 := Outcome.of_like (w := w) (w1 := w.setCell a v) ⟨rfl, rfl, rfl⟩ (ih (w.setCell a v) h4)
  cases v <;> first
   | (simp [oneC] at h1; done)
   | (simp only [Sem.run, cell_eq, hu, frozen_eq, h3]; exact h5)
 | new o k ih =>
  intro Q E w h
  exact Outcome.of_like (w := w) (w1 := { w with heap := w.heap.push o }) ⟨rfl, rfl, rfl⟩ (ih _ { w with heap := w.heap.push o } h)
 | shape r k ih => intro Q E w h; exact ih _ w h
 | freeze a n k ih =>
  intro Q E w h
  have hl : Like w (w.freeze a n) := by unfold World.freeze; split <;> exact ⟨rfl, rfl, rfl⟩
  exact Outcome.of_like hl (ih (w.freeze a n) (by rw [freeze_eq]; exact h))
 | frozen a k ih => intro Q E w h; exact ih _ w h
 | getObj r k ih =>
  intro Q E w h
  simp only [wpH, gt] at h
  simp only [Sem.run]
  split at h
  ·exact h.elim
  ·rename_i o hne ho
   rw [ho]
   cases o <;> first | exact (hne _ _ _ rfl).elim | exact ih _ w h
  ·exact h.elim
 | setObj r o k ih =>
  intro Q E w h
  simp only [wpH, pt] at h
  simp only [Sem.run]
  split at h
  ·exact h.elim
  ·rename_i o' hne ho
   rw [ho]
   have h5 := Outcome.of_like (w := w) (w1 := { w with heap := w.heap.setIfInBounds r o }) ⟨rfl, rfl, rfl⟩ (ih { w with heap := w.heap.setIfInBounds r o } h)
   cases o' <;> first | exact (hne _ _ _ rfl).elim | exact h5
  ·exact h.elim
 | choose q k ih =>
  intro Q E w h
  simp only [wpH] at h
  simp only [Sem.run]
  split at h
  ·rename_i hq; rw [if_pos hq]; exact ih 0 w h
  ·rename_i hq; rw [if_neg hq]
   exact Outcome.of_like (w := w) (w1 := { w with drawn := w.drawn + 1 }) ⟨rfl, rfl, rfl⟩ (ih (q.cut (w.tape w.drawn q)) { w with drawn := w.drawn + 1 } (h _))
 | sys c k ih => intro Q E w h; exact h.elim
 | program k ih => intro Q E w h; exact ih _ w h
 | mark m k ih => intro Q E w h; exact ih w h
 | halt x =>
  intro Q E w h
  cases x <;> first | exact h.elim | exact ⟨h, Like.refl w⟩
def HCalls (P : Program) (f : FuncId) (args : Array Value) (H : Heap) (R : Ending → Heap → Prop) : Prop :=
 ∀ w : World, w.heap = H → Calls P f args w fun e w' => R e w'.heap ∧ Like w w'
theorem HCalls.mono {P : Program} {f : FuncId} {args : Array Value} {H : Heap} {R R' : Ending → Heap → Prop} (h : HCalls P f args H R) (hr : ∀ e H', R e H' → R' e H') : HCalls P f args H R' :=
 fun w hw => (h w hw).mono fun _ _ ⟨h1, h2⟩ => ⟨hr _ _ h1, h2⟩
end Go.Proofs.YtklppdodadkcnaaGreat.E
namespace Go.Proofs.YtklppdodadkcnaaGreat.E
open Go
def sB (b : Bool) (x y : Prop) : Prop := match b with | true => x | false => y
def gB (b : Bool) (x : Prop) : Prop := match b with | true => x | false => False
def nz (ao : Option Addr) (k : Addr → Prop) : Prop := match ao with | some a => k a | none => False
def ask (p x : Prop) : Prop := p ∧ x
def dInt (kd : IntKind) (v : Value) (k : Int → Prop) : Prop := match v with | .int kd' n => gB (decide (kd' = kd)) (k n) | _ => False
def dInt' (v : Value) (k : IntKind → Int → Prop) : Prop := match v with | .int kd n => k kd n | _ => False
def dB (v : Value) (x y : Prop) : Prop := match v with | .bool b => sB b x y | _ => False
def dBl (v : Value) (k : Bool → Prop) : Prop := match v with | .bool b => k b | _ => False
def dBool (v : Value) (k : Bool → Prop) : Prop := dB v (k true) (k false)
def dStr (v : Value) (k : ByteArray → Prop) : Prop := match v with | .string s => k s | _ => False
def dPtr (v : Value) (k : Option Addr → Prop) : Prop := match v with | .pointer ao => k ao | _ => False
def dSl (v : Value) (k : Option Addr → Nat → Nat → Prop) : Prop := match v with | .slice a n c => k a n c | _ => False
def dMap (v : Value) (k : Option Nat → Prop) : Prop := match v with | .map r => k r | _ => False
def dFn (v : Value) (k : FuncId → Array Value → Array Value → Prop) : Prop := match v with | .func (.func g) a b => k g a b | _ => False
def wr (kd : IntKind) (n : Int) (k : Int → Prop) : Prop := k (kd.wrap n)
structure jn {α : Type} (k : α) (f : α → Prop) : Prop where
 out : f k
def oV (o : Option Value) (k : Value → Prop) : Prop := match o with | some v => k v | none => False
def nm (n : Int) (k : Int → Prop) : Prop := k n
def dAgg (v : Value) (k : Array Value → Prop) : Prop := match v with | .agg cs => k cs | _ => False
def VF : Nat → Type
 | 0 => Prop
 | n + 1 => Value → VF n
def apl : (n : Nat) → VF n → List Value → Prop
 | 0, k, [] => k
 | n + 1, k, v :: r => apl n (k v) r
 | _, _, _ => False
def cur : (n : Nat) → (List Value → Prop) → VF n
 | 0, k => k []
 | n + 1, k => fun v => cur n fun l => k (v :: l)
theorem apl_cur : ∀ {n : Nat} {k : List Value → Prop} {l : List Value}, apl n (cur n k) l → l.length = n ∧ k l
 | 0, _, [], h => ⟨rfl, h⟩
 | 0, _, _ :: _, h => h.elim
 | _ + 1, _, [], h => h.elim
 | n + 1, k, v :: r, h => by
  obtain ⟨h1, h2⟩ := apl_cur (n := n) (k := fun l => k (v :: l)) (l := r) h
  exact ⟨by simp [h1], h2⟩
theorem apl_cur_mk : ∀ {n : Nat} {k : List Value → Prop} {l : List Value}, l.length = n → k l → apl n (cur n k) l
 | 0, _, [], _, h => h
 | 0, _, _ :: _, h, _ => by simp at h
 | _ + 1, _, [], h, _ => by simp at h
 | n + 1, k, v :: r, h, h' => apl_cur_mk (n := n) (k := fun l => k (v :: l)) (l := r) (by simpa using h) h'
def VFH : Nat → Type
 | 0 => Heap → Prop
 | n + 1 => Value → VFH n
def aplH : (n : Nat) → VFH n → List Value → Heap → Prop
 | 0, k, [], H => k H
 | n + 1, k, v :: r, H => aplH n (k v) r H
 | _, _, _, _ => False
def curH : (n : Nat) → (List Value → Heap → Prop) → VFH n
 | 0, k => k []
 | n + 1, k => fun v => curH n fun l => k (v :: l)
theorem aplH_cur : ∀ {n : Nat} {k : List Value → Heap → Prop} {l : List Value} {H : Heap}, aplH n (curH n k) l H → l.length = n ∧ k l H
 | 0, _, [], _, h => ⟨rfl, h⟩
 | 0, _, _ :: _, _, h => h.elim
 | _ + 1, _, [], _, h => h.elim
 | n + 1, k, v :: r, H, h => by
  obtain ⟨h1, h2⟩ := aplH_cur (n := n) (k := fun l => k (v :: l)) (l := r) h
  exact ⟨by simp [h1], h2⟩
theorem aplH_mk : ∀ {n : Nat} {k : List Value → Heap → Prop} {l : List Value} {H : Heap}, l.length = n → k l H → aplH n (curH n k) l H
 | 0, _, [], _, _, h => h
 | 0, _, _ :: _, _, h, _ => by simp at h
 | _ + 1, _, [], _, h, _ => by simp at h
 | n + 1, k, v :: r, H, h, h' => aplH_mk (n := n) (k := fun l => k (v :: l)) (l := r) (by simpa using h) h'
def dA (n : Nat) (v : Value) (k : VF n) : Prop := match v with | .agg cs => apl n k cs.toList | _ => False
def dT (n : Nat) (v : Value) (k : VF n) : Prop := match v with | .tuple cs => apl n k cs.toList | _ => False
theorem sB_elim {b : Bool} {x y : Prop} (h : sB b x y) : (b = true ∧ x) ∨ (b = false ∧ y) := by cases b <;> first | exact .inl ⟨rfl, h⟩ | exact .inr ⟨rfl, h⟩
theorem gB_elim {b : Bool} {x : Prop} (h : gB b x) : b = true ∧ x := by cases b <;> first | exact h.elim | exact ⟨rfl, h⟩
theorem nz_elim {ao : Option Addr} {k : Addr → Prop} (h : nz ao k) : ∃ a, ao = some a ∧ k a := by cases ao <;> first | exact h.elim | exact ⟨_, rfl, h⟩
theorem dInt_elim {kd : IntKind} {v : Value} {k : Int → Prop} (h : dInt kd v k) : ∃ n, v = .int kd n ∧ k n := by
 cases v <;> first | exact h.elim | skip
 rename_i kd' n
 obtain ⟨h1, h2⟩ := gB_elim (show gB (decide (kd' = kd)) (k n) from h)
 exact ⟨n, by rw [of_decide_eq_true h1], h2⟩
theorem dInt'_elim {v : Value} {k : IntKind → Int → Prop} (h : dInt' v k) : ∃ kd n, v = .int kd n ∧ k kd n := by
 cases v <;> first | exact h.elim | exact ⟨_, _, rfl, h⟩
theorem dBool_elim {v : Value} {k : Bool → Prop} (h : dBool v k) : ∃ b, v = .bool b ∧ k b := by
 cases v <;> first | exact h.elim | skip
 rename_i b
 cases b <;> exact ⟨_, rfl, h⟩
theorem dBl_elim {v : Value} {k : Bool → Prop} (h : dBl v k) : ∃ b, v = .bool b ∧ k b := by cases v <;> first | exact h.elim | exact ⟨_, rfl, h⟩
theorem dStr_elim {v : Value} {k : ByteArray → Prop} (h : dStr v k) : ∃ s, v = .string s ∧ k s := by cases v <;> first | exact h.elim | exact ⟨_, rfl, h⟩
theorem dPtr_elim {v : Value} {k : Option Addr → Prop} (h : dPtr v k) : ∃ a, v = .pointer a ∧ k a := by cases v <;> first | exact h.elim | exact ⟨_, rfl, h⟩
theorem dSl_elim {v : Value} {k : Option Addr → Nat → Nat → Prop} (h : dSl v k) : ∃ a n c, v = .slice a n c ∧ k a n c := by cases v <;> first | exact h.elim | exact ⟨_, _, _, rfl, h⟩
theorem dMap_elim {v : Value} {k : Option Nat → Prop} (h : dMap v k) : ∃ r, v = .map r ∧ k r := by cases v <;> first | exact h.elim | exact ⟨_, rfl, h⟩
theorem dFn_elim {v : Value} {k : FuncId → Array Value → Array Value → Prop} (h : dFn v k) : ∃ g a b, v = .func (.func g) a b ∧ k g a b := by
 cases v <;> first | exact h.elim | skip
 rename_i f a b
 cases f <;> first | exact h.elim | exact ⟨_, _, _, rfl, h⟩
theorem dAgg_elim {v : Value} {k : Array Value → Prop} (h : dAgg v k) : ∃ cs, v = .agg cs ∧ k cs := by cases v <;> first | exact h.elim | exact ⟨_, rfl, h⟩
theorem dA_elim {n : Nat} {v : Value} {k : List Value → Prop} (h : dA n v (cur n k)) : ∃ l : List Value, v = .agg l.toArray ∧ l.length = n ∧ k l := by
 cases v <;> first | exact h.elim | skip
 rename_i cs
 obtain ⟨h1, h2⟩ := apl_cur (show apl n (cur n k) cs.toList from h)
 exact ⟨cs.toList, by simp, h1, h2⟩
theorem dT_elim {n : Nat} {v : Value} {k : List Value → Prop} (h : dT n v (cur n k)) : ∃ l : List Value, v = .tuple l.toArray ∧ l.length = n ∧ k l := by
 cases v <;> first | exact h.elim | skip
 rename_i cs
 obtain ⟨h1, h2⟩ := apl_cur (show apl n (cur n k) cs.toList from h)
 exact ⟨cs.toList, by simp, h1, h2⟩
theorem Outcome.mono2 {α : Type} {Q Q' : α → Heap → Prop} {E E' : Value → Heap → Prop} {w : World} {r : Result α} (hq : ∀ a H, Q a H → Q' a H) (he : ∀ v H, E v H → E' v H) (h : Outcome Q E w r) : Outcome Q' E' w r := by
 cases r with
 | ok a w' => exact ⟨hq _ _ h.1, h.2⟩
 | halt x w' => cases x <;> first | exact h.elim | exact ⟨he _ _ h.1, h.2⟩
structure semW {α : Type} (P : Program) (s : Sem α) (E : List PanicEntry → Heap → Prop) (H : Heap) (K : α → Heap → Prop) : Prop where
 run : ∀ w : World, w.heap = H → Outcome K (fun v H' => E [{ v, recovered := false }] H') w (s.run P w)
structure Sp (α : Type) where
 run : (α → Heap → Prop) → (List PanicEntry → Heap → Prop) → Heap → Prop
 mono : ∀ {K K' : α → Heap → Prop} {E E' : List PanicEntry → Heap → Prop} {H : Heap}, (∀ a H, K a H → K' a H) → (∀ c H, E c H → E' c H) → run K E H → run K' E' H
namespace Sp
def pure {α : Type} (a : α) : Sp α := ⟨fun K _ H => K a H, fun hk _ h => hk _ _ h⟩
def bind {α β : Type} (x : Sp α) (f : α → Sp β) : Sp β :=
 ⟨fun K E H => x.run (fun a H' => (f a).run K E H') E H, fun hk he h => x.mono (fun _ _ h' => (f _).mono hk he h') he h⟩
def fail {α : Type} : Sp α := ⟨fun _ _ _ => False, fun _ _ h => h⟩
def sem {α : Type} (P : Program) (s : Sem α) : Sp α := ⟨fun K E H => semW P s E H fun v H' => K v H', fun hk he h => ⟨fun w hw => (h.run w hw).mono2 hk (fun _ _ h' => he _ _ h')⟩⟩
def new (o : Obj) : Sp Nat := ⟨fun K _ H => al H o fun r H' => K r H', fun hk _ h => hk _ _ h⟩
def load (a : Addr) : Sp Value := ⟨fun K _ H => ld H a fun v => K v H, fun {K K' _ _ H} hk _ h => by
 simp only [ld] at h ⊢; cases hc : cellH H a with
 | none => rw [hc] at h; exact h.elim
 | some v => rw [hc] at h; exact hk _ _ h⟩
def store (a : Addr) (v : Value) : Sp Unit := ⟨fun K _ H => st H a v fun H' => K () H', fun hk _ h => ⟨h.1, hk _ _ h.2⟩⟩
def split (b : Bool) : Sp Bool := ⟨fun K _ H => sB b (K true H) (K false H), fun hk _ h => by cases b <;> exact hk _ _ h⟩
def guard (b : Bool) : Sp Unit := ⟨fun K _ H => gB b (K () H), fun hk _ h => by cases b <;> first | exact h | exact hk _ _ h⟩
def asking (p : Prop) : Sp Unit := ⟨fun K _ H => ask p (K () H), fun hk _ h => ⟨h.1, hk _ _ h.2⟩⟩
def nonNil (ao : Option Addr) : Sp Addr := ⟨fun K _ H => nz ao fun a => K a H, fun hk _ h => by cases ao <;> first | exact h | exact hk _ _ h⟩
def int (kd : IntKind) (v : Value) : Sp Int := ⟨fun K _ H => dInt kd v fun n => K n H, fun hk _ h => by
 obtain ⟨n, rfl, h'⟩ := dInt_elim h
 show gB (decide (kd = kd)) _
 rw [decide_eq_true rfl]; exact hk _ _ h'⟩
def int' (v : Value) : Sp (IntKind × Int) := ⟨fun K _ H => dInt' v fun kd n => K (kd, n) H, fun hk _ h => by
 obtain ⟨kd, n, rfl, h'⟩ := dInt'_elim h; exact hk _ _ h'⟩
def bool (v : Value) : Sp Bool := ⟨fun K _ H => dBool v fun b => K b H, fun hk _ h => by
 obtain ⟨b, rfl, h'⟩ := dBool_elim h; cases b <;> exact hk _ _ h'⟩
def bool' (v : Value) : Sp Bool := ⟨fun K _ H => dBl v fun b => K b H, fun hk _ h => by
 obtain ⟨b, rfl, h'⟩ := dBl_elim h; exact hk _ _ h'⟩
def str (v : Value) : Sp ByteArray := ⟨fun K _ H => dStr v fun s => K s H, fun hk _ h => by obtain ⟨s, rfl, h'⟩ := dStr_elim h; exact hk _ _ h'⟩
def ptr (v : Value) : Sp (Option Addr) := ⟨fun K _ H => dPtr v fun s => K s H, fun hk _ h => by obtain ⟨s, rfl, h'⟩ := dPtr_elim h; exact hk _ _ h'⟩
def slc (v : Value) : Sp (Option Addr × Nat × Nat) := ⟨fun K _ H => dSl v fun a n c => K (a, n, c) H, fun hk _ h => by obtain ⟨a, n, c, rfl, h'⟩ := dSl_elim h; exact hk _ _ h'⟩
def mapv (v : Value) : Sp (Option Nat) := ⟨fun K _ H => dMap v fun s => K s H, fun hk _ h => by obtain ⟨s, rfl, h'⟩ := dMap_elim h; exact hk _ _ h'⟩
def fn (v : Value) : Sp (FuncId × Array Value × Array Value) := ⟨fun K _ H => dFn v fun g a b => K (g, a, b) H, fun hk _ h => by obtain ⟨g, a, b, rfl, h'⟩ := dFn_elim h; exact hk _ _ h'⟩
def wr (kd : IntKind) (n : Int) : Sp Int := ⟨fun K _ H => E.wr kd n fun m => K m H, fun hk _ h => hk _ _ h⟩
def nm (n : Int) : Sp Int := ⟨fun K _ H => E.nm n fun m => K m H, fun hk _ h => hk _ _ h⟩
def opt (o : Option Value) : Sp Value := ⟨fun K _ H => oV o fun v => K v H, fun hk _ h => by cases o <;> first | exact h.elim | exact hk _ _ h⟩
def agg (v : Value) : Sp (Array Value) := ⟨fun K _ H => dAgg v fun s => K s H, fun hk _ h => by obtain ⟨s, rfl, h'⟩ := dAgg_elim h; exact hk _ _ h'⟩
def aggN (n : Nat) (v : Value) : Sp (List Value) := ⟨fun K _ H => dA n v (cur n fun l => K l H), fun hk _ h => by
 obtain ⟨l, rfl, h1, h2⟩ := dA_elim h
 exact apl_cur_mk (by simpa using h1) (by simpa using hk _ _ h2)⟩
def tupN (n : Nat) (v : Value) : Sp (List Value) := ⟨fun K _ H => dT n v (cur n fun l => K l H), fun hk _ h => by
 obtain ⟨l, rfl, h1, h2⟩ := dT_elim h
 exact apl_cur_mk (by simpa using h1) (by simpa using hk _ _ h2)⟩
def panic {α : Type} (v : Value) : Sp α := ⟨fun _ E H => E [{ v, recovered := false }] H, fun _ he h => he _ _ h⟩
def retK (K : Value → Heap → Prop) (E : List PanicEntry → Heap → Prop) (e : Ending) (H : Heap) : Prop :=
 match e with
 | .returned v => K v H
 | .panicked c => E c H
 | .outgrown => False
def call (P : Program) (f : FuncId) (args : Array Value) : Sp Value := ⟨fun K E H => HCalls P f args H (retK K E), fun hk he h => h.mono fun e H' h' => by
 cases e <;> first | exact h'.elim | exact hk _ _ h' | exact he _ _ h'⟩
end Sp
def destr1 (P : Program) (t : TypeId) (v : Value) : Sp Value :=
 match P.underlying t with
 | some (.int kd) => (Sp.int kd v).bind fun n => .pure (.int kd n)
 | some .bool => (Sp.bool' v).bind fun b => .pure (.bool b)
 | some .string => (Sp.str v).bind fun s => .pure (.string s)
 | some (.pointer _) => (Sp.ptr v).bind fun a => .pure (.pointer a)
 | some (.slice _) => (Sp.slc v).bind fun a => .pure (.slice a.1 a.2.1 a.2.2)
 | some (.map _ _) => (Sp.mapv v).bind fun a => .pure (.map a)
 | some (.struct _) =>
  match P.info? t with
  | some i => match Nat.ble i.size 64 with
   | true => (Sp.aggN i.size v).bind fun l => .pure (.agg l.toArray)
   | false => (Sp.agg v).bind fun a => .pure (.agg a)
  | none => .fail
 | _ => .pure v
def destr2 (P : Program) (t : TypeId) (v : Value) : Sp Value :=
 match P.underlying t with
 | some .bool => (Sp.bool' v).bind fun b => .pure (.bool b)
 | _ => destr1 P t v
def destrs (P : Program) : List TypeId → List Value → Sp (List Value)
 | [], [] => .pure []
 | t :: ts, v :: vs => (destr2 P t v).bind fun u => (destrs P ts vs).bind fun us => .pure (u :: us)
 | _, _ => .fail
def destr (P : Program) (t : TypeId) (v : Value) : Sp Value :=
 match P.underlying t with
 | some (.tuple ts) =>
  match ts.toList with
  | [] => .pure v
  | l => (Sp.tupN l.length v).bind fun vs => (destrs P l vs).bind fun us => .pure (.tuple us.toArray)
 | _ => destr1 P t v
theorem destr1_elim {P : Program} {t : TypeId} {v : Value} {K : Value → Heap → Prop} {E : List PanicEntry → Heap → Prop} {H : Heap} (h : (destr1 P t v).run K E H) : K v H := by
 unfold destr1 at h
 split at h
 ·obtain ⟨n, rfl, h'⟩ := dInt_elim h; exact h'
 ·obtain ⟨n, rfl, h'⟩ := dBl_elim (k := fun b => K (.bool b) H) h; exact h'
 ·obtain ⟨n, rfl, h'⟩ := dStr_elim h; exact h'
 ·obtain ⟨n, rfl, h'⟩ := dPtr_elim h; exact h'
 ·obtain ⟨a, n, c, rfl, h'⟩ := dSl_elim h; exact h'
 ·obtain ⟨n, rfl, h'⟩ := dMap_elim h; exact h'
 ·split at h
  ·split at h
   ·obtain ⟨l, rfl, _, h'⟩ := dA_elim h; exact h'
   ·obtain ⟨n, rfl, h'⟩ := dAgg_elim h; exact h'
  ·exact h.elim
 ·exact h
theorem destr2_elim {P : Program} {t : TypeId} {v : Value} {K : Value → Heap → Prop} {E : List PanicEntry → Heap → Prop} {H : Heap} (h : (destr2 P t v).run K E H) : K v H := by
 unfold destr2 at h
 split at h
 ·obtain ⟨n, rfl, h'⟩ := dBl_elim (k := fun b => K (.bool b) H) h; exact h'
 ·exact destr1_elim h
theorem destrs_elim {P : Program} : ∀ {ts : List TypeId} {vs : List Value} {K : List Value → Heap → Prop} {E : List PanicEntry → Heap → Prop} {H : Heap}, (destrs P ts vs).run K E H → K vs H
 | [], [], _, _, _, h => h
 | [], _ :: _, _, _, _, h => h.elim
 | _ :: _, [], _, _, _, h => h.elim
 | t :: ts, v :: vs, K, E, H, h => by
  have h1 := destr2_elim (P := P) (t := t) (v := v) (K := fun u H => ((destrs P ts vs).bind fun us => .pure (u :: us)).run K E H) (E := E) (H := H) h
  exact destrs_elim (K := fun us H => K (v :: us) H) h1
theorem destr_elim {P : Program} {t : TypeId} {v : Value} {K : Value → Heap → Prop} {E : List PanicEntry → Heap → Prop} {H : Heap} (h : (destr P t v).run K E H) : K v H := by
 unfold destr at h
 split at h
 ·split at h
  ·exact h
  ·obtain ⟨l, rfl, _, h⟩ := dT_elim h
   exact destrs_elim (K := fun us H => K (.tuple us.toArray) H) h
 ·exact destr1_elim h
end Go.Proofs.YtklppdodadkcnaaGreat.E
namespace Go.Proofs.YtklppdodadkcnaaGreat.E
open Go
set_option linter.unusedVariables false
def infoS (P : Program) (t : TypeId) : Sp TypeInfo := match P.info? t with | some i => .pure i | none => .fail
def zeroS (P : Program) (t : TypeId) : Sp Value := (infoS P t).bind fun i => match i.zero with | some v => .pure v | none => .fail
def aggOf (P : Program) (t : TypeId) : Sp Bool := match P.underlying t with | some (.struct _) => .pure true | some (.array _ _) => .pure true | some _ => .pure false | none => .fail
def ldsS (a : Addr) (i : Nat) : Nat → Array Value → Sp (Array Value)
 | 0, acc => .pure acc
 | n + 1, acc => (Sp.load (a.add i)).bind fun v => ldsS a (i + 1) n (acc.push v)
def stsS (a : Addr) : List Value → Nat → Sp Unit
 | [], _ => .pure ()
 | v :: rest, i => (Sp.store (a.add i) v).bind fun _ => stsS a rest (i + 1)
def loadS (P : Program) (t : TypeId) (a : Addr) : Sp Value :=
 (aggOf P t).bind fun b => match b with
  | true => (infoS P t).bind fun i => (ldsS a 0 i.size #[]).bind fun cs => .pure (.agg cs)
  | false => (Sp.load a).bind fun v => destr P t v
def storeS (P : Program) (t : TypeId) (a : Addr) (v : Value) : Sp Unit :=
 (infoS P t).bind fun i => (Sp.guard (Nat.beq v.cells.size i.size)).bind fun _ => stsS a v.cells.toList 0
def addrS (v : Value) : Sp Addr := (Sp.ptr v).bind fun ao => Sp.nonNil ao
def nilS (v : Value) : Sp Value :=
 match v with
 | .pointer ao => (Sp.nonNil ao).bind fun a => .pure (.pointer (some a))
 | .func (.func f) x y => .pure (.func (.func f) x y)
 | .func (.yield f) x y => .pure (.func (.yield f) x y)
 | .iface t x => .pure (.iface t x)
 | _ => .fail
def cmpB (op : BinOp) (x y : Int) : Option Bool :=
 match op with
 | .eql => some (x == y)
 | .neq => some (x != y)
 | .lss => some (decide (x < y))
 | .leq => some (decide (x ≤ y))
 | .gtr => some (decide (x > y))
 | .geq => some (decide (x ≥ y))
 | _ => none
def bitsV (op : BinOp) (k : IntKind) (x y : Int) : Int :=
 let a := BitVec.ofInt k.bits x
 let b := BitVec.ofInt k.bits y
 match op with
 | .and => k.wrap (a &&& b).toNat
 | .or => k.wrap (a ||| b).toNat
 | .xor => k.wrap (a ^^^ b).toNat
 | _ => k.wrap (a &&& ~~~b).toNat
def shV (op : BinOp) (k : IntKind) (x y : Int) : Int :=
 match op with
 | .shl => k.wrap (x * 2 ^ min y.toNat k.bits)
 | _ => x.fdiv (2 ^ min y.toNat k.bits)
def splitS (b : Bool) : Sp Value := .pure (.bool b)
def wrS (k : IntKind) (n : Int) : Sp Value := (Sp.wr k n).bind fun m => .pure (.int k m)
def nmS (k : IntKind) (n : Int) : Sp Value := (Sp.nm n).bind fun m => .pure (.int k m)
def intS (op : BinOp) (k : IntKind) (a b : Int) : Sp Value :=
 match op with
 | .add => wrS k (a + b)
 | .sub => wrS k (a - b)
 | .mul => wrS k (a * b)
 | .quo => (Sp.asking (b ≠ 0)).bind fun _ => wrS k (a.tdiv b)
 | .rem => (Sp.asking (b ≠ 0)).bind fun _ => nmS k (a.tmod b)
 | .and => nmS k (bitsV .and k a b)
 | .or => nmS k (bitsV .or k a b)
 | .xor => nmS k (bitsV .xor k a b)
 | .andNot => nmS k (bitsV .andNot k a b)
 | op => match cmpB op a b with | some c => splitS c | none => .fail
def strS (op : BinOp) (x y : ByteArray) : Sp Value :=
 match op with
 | .add => (Sp.asking (((x.size + y.size : Nat) : Int) ≤ IntKind.i64.max)).bind fun _ => .pure (.string (x ++ y))
 | .eql => splitS (x.toList == y.toList)
 | .neq => splitS (!(x.toList == y.toList))
 | .lss => splitS (Op.bytesLess x.toList y.toList)
 | .leq => splitS (Op.bytesLess x.toList y.toList || x.toList == y.toList)
 | .gtr => splitS (!(Op.bytesLess x.toList y.toList || x.toList == y.toList))
 | .geq => splitS (!(Op.bytesLess x.toList y.toList))
 | _ => .fail
def eqSem (op : BinOp) (t : TypeId) (x y : Operand) (a b : Value) : Sem Value := do eqGuard op t x y a b; binOp op t a b
def eqS (P : Program) (op : BinOp) (t : TypeId) (x y : Operand) (a b : Value) : Sp Value :=
 (Sp.sem P (eqSem op t x y a b)).bind fun v => (Sp.bool' v).bind fun b => .pure (.bool b)
def eqV (P : Program) (t : TypeId) (a b : Value) : Option Bool :=
 match P.underlying t with
 | some .bool => match a, b with
  | .bool x, .bool y => some (x == y)
  | _, _ => none
 | some (.pointer _) => match a, b with
  | .pointer p, .pointer none => some p.isNone
  | .pointer none, .pointer q => some q.isNone
  | _, _ => none
 | some (.slice _) => match a, b with
  | .slice p _ _, .slice none _ _ => some p.isNone
  | .slice none _ _, .slice q _ _ => some q.isNone
  | _, _ => none
 | some (.map _ _) => match a, b with
  | .map p, .map none => some p.isNone
  | .map none, .map q => some q.isNone
  | _, _ => none
 | _ => none
def eqP (P : Program) (op : BinOp) (t : TypeId) (x y : Operand) (a b : Value) : Sp Value :=
 match op with
 | .eql => match eqV P t a b with
  | some c => splitS c
  | none => eqS P .eql t x y a b
 | .neq => match eqV P t a b with
  | some c => splitS (!c)
  | none => eqS P .neq t x y a b
 | op => eqS P op t x y a b
def binS (P : Program) (op : BinOp) (t : TypeId) (x y : Operand) (a b : Value) : Sp Value :=
 match op, a, b with
 | .shl, .int k m, .int _ n => (Sp.asking (0 ≤ n)).bind fun _ => nmS k (shV .shl k m n)
 | .shr, .int k m, .int _ n => (Sp.asking (0 ≤ n)).bind fun _ => nmS k (shV .shr k m n)
 | op, .int k m, .int k' n => (Sp.guard (decide (k = k'))).bind fun _ => intS op k m n
 | op, .string m, .string n => strS op m n
 | op, a, b => eqP P op t x y a b
def nextK (P : Program) (K : Value → Heap → Prop) (E : List PanicEntry → Heap → Prop) : Next → Heap → Prop
 | .value v, H => K v H
 | .skip, H => K undef H
 | .enter f args, H => HCalls P f args H (Sp.retK K E)
 | _, _ => False
def Does (P : Program) (s : Sem Next) (x : Sp Value) : Prop :=
 ∀ (K : Value → Heap → Prop) (E : List PanicEntry → Heap → Prop) (w : World), x.run K E w.heap → Outcome (nextK P K E) (fun v H' => E [{ v, recovered := false }] H') w (s.run P w)
def Gives {α : Type} (P : Program) (s : Sem α) (x : Sp α) : Prop :=
 ∀ (K : α → Heap → Prop) (E : List PanicEntry → Heap → Prop) (w : World), x.run K E w.heap → Outcome K (fun v H' => E [{ v, recovered := false }] H') w (s.run P w)
theorem outcome_bind {α β : Type} {P : Program} {s : Sem α} {f : α → Sem β} {K : β → Heap → Prop} {E : Value → Heap → Prop} {w : World}
  (h : Outcome (fun a H' => ∀ w', w'.heap = H' → Outcome K E w' ((f a).run P w')) E w (s.run P w)) : Outcome K E w ((s >>= f).run P w) := by
 rw [Sem.run_bind]
 cases hr : s.run P w with
 | ok a w' => rw [hr] at h; exact Outcome.of_like h.2 (h.1 w' rfl)
 | halt x w' => rw [hr] at h; cases x <;> first | exact h.elim | exact h
theorem Outcome.mono {α : Type} {Q Q' : α → Heap → Prop} {E E' : Value → Heap → Prop} {w : World} {r : Result α} (h : Outcome Q E w r) (hq : ∀ a H, Q a H → Q' a H) (he : ∀ v H, E v H → E' v H) : Outcome Q' E' w r := by
 cases r with
 | ok a w' => exact ⟨hq _ _ h.1, h.2⟩
 | halt x w' => cases x <;> first | exact h.elim | exact ⟨he _ _ h.1, h.2⟩
theorem Gives.does {P : Program} {s : Sem Value} {x : Sp Value} (h : Gives P s x) : Does P (do pure (.value (← s))) x :=
 fun K E w hx => outcome_bind ((h K E w hx).mono (fun a H' h' w' hw => ⟨by rw [hw]; exact h', Like.refl w'⟩) (fun _ _ h' => h'))
theorem Gives.skips {P : Program} {s : Sem Unit} {x : Sp Unit} (h : Gives P s x) : Does P (do s; pure .skip) (x.bind fun _ => .pure undef) :=
 fun K E w hx => outcome_bind ((h (fun _ H => K undef H) E w hx).mono (fun a H' h' w' hw => ⟨by rw [hw]; exact h', Like.refl w'⟩) (fun _ _ h' => h'))
theorem Gives.pure {α : Type} {P : Program} (a : α) : Gives P (Pure.pure a) (.pure a) := fun _ _ w h => ⟨h, Like.refl w⟩
theorem Gives.bind {α β : Type} {P : Program} {s : Sem α} {x : Sp α} {f : α → Sem β} {g : α → Sp β} (h : Gives P s x) (hf : ∀ a, Gives P (f a) (g a)) : Gives P (s >>= f) (x.bind g) :=
 fun K E w hx => outcome_bind ((h (fun a H' => (g a).run K E H') E w hx).mono (fun a H' h' w' hw => hf a K E w' (by rw [hw]; exact h')) (fun _ _ h' => h'))
theorem Gives.sem {α : Type} {P : Program} (s : Sem α) : Gives P s (Sp.sem P s) := fun _ _ w h => semW.run h w rfl
theorem Gives.fail {α : Type} {P : Program} (s : Sem α) : Gives P s .fail := fun _ _ _ h => h.elim
theorem Gives.of_run {α : Type} {P : Program} {s : Sem α} {a : α} (h : ∀ w, s.run P w = .ok a w) : Gives P s (.pure a) := fun K E w hx => by rw [h w]; exact ⟨hx, Like.refl w⟩
theorem Gives.guard {α : Type} {P : Program} {s : Sem α} {b : Bool} {g : Unit → Sp α} (h : b = true → Gives P s (g ())) : Gives P s ((Sp.guard b).bind g) := fun K E w hx => by
 obtain ⟨h1, h2⟩ := gB_elim (show gB b ((g ()).run K E w.heap) from hx)
 exact h h1 K E w h2
theorem Gives.asking {α : Type} {P : Program} {s : Sem α} {p : Prop} {g : Unit → Sp α} (h : p → Gives P s (g ())) : Gives P s ((Sp.asking p).bind g) := fun K E w hx => h hx.1 K E w hx.2
theorem Gives.split {α : Type} {P : Program} {s : Bool → Sem α} {b : Bool} {g : Bool → Sp α} (h : ∀ c, Gives P (s c) (g c)) : Gives P (s b) ((Sp.split b).bind g) := fun K E w hx => by
 rcases sB_elim (show sB b ((g true).run K E w.heap) ((g false).run K E w.heap) from hx) with ⟨rfl, h'⟩ | ⟨rfl, h'⟩
 ·exact h true K E w h'
 ·exact h false K E w h'
theorem Gives.int' {α : Type} {P : Program} {s : Sem α} {v : Value} {g : IntKind × Int → Sp α} (h : ∀ k n, v = .int k n → Gives P s (g (k, n))) : Gives P s ((Sp.int' v).bind g) := fun K E w hx => by
 obtain ⟨k, n, hv, h'⟩ := dInt'_elim (k := fun kd n => (g (kd, n)).run K E w.heap) hx
 exact h k n hv K E w h'
theorem Gives.str {α : Type} {P : Program} {s : Sem α} {v : Value} {g : ByteArray → Sp α} (h : ∀ x, v = .string x → Gives P s (g x)) : Gives P s ((Sp.str v).bind g) := fun K E w hx => by
 obtain ⟨x, hv, h'⟩ := dStr_elim (k := fun x => (g x).run K E w.heap) hx
 exact h x hv K E w h'
theorem Gives.agg {α : Type} {P : Program} {s : Sem α} {v : Value} {g : Array Value → Sp α} (h : ∀ x, v = .agg x → Gives P s (g x)) : Gives P s ((Sp.agg v).bind g) := fun K E w hx => by
 obtain ⟨x, hv, h'⟩ := dAgg_elim (k := fun x => (g x).run K E w.heap) hx
 exact h x hv K E w h'
theorem Gives.slc {α : Type} {P : Program} {s : Sem α} {v : Value} {g : Option Addr × Nat × Nat → Sp α} (h : ∀ a n c, v = .slice a n c → Gives P s (g (a, n, c))) : Gives P s ((Sp.slc v).bind g) := fun K E w hx => by
 obtain ⟨a, n, c, hv, h'⟩ := dSl_elim (k := fun a n c => (g (a, n, c)).run K E w.heap) hx
 exact h a n c hv K E w h'
theorem Gives.bool {α : Type} {P : Program} {s : Sem α} {v : Value} {g : Bool → Sp α} (h : ∀ x, v = .bool x → Gives P s (g x)) : Gives P s ((Sp.bool v).bind g) := fun K E w hx => by
 obtain ⟨x, hv, h'⟩ := dBool_elim (k := fun x => (g x).run K E w.heap) hx
 exact h x hv K E w h'
theorem Gives.nonNil {α : Type} {P : Program} {s : Sem α} {v : Option Addr} {g : Addr → Sp α} (h : ∀ a, v = some a → Gives P s (g a)) : Gives P s ((Sp.nonNil v).bind g) := fun K E w hx => by
 obtain ⟨a, hv, h'⟩ := nz_elim (k := fun a => (g a).run K E w.heap) hx
 exact h a hv K E w h'
theorem Gives.info {α : Type} {P : Program} {s : Sem α} {t : TypeId} {g : TypeInfo → Sp α} (h : ∀ i, P.info? t = some i → Gives P s (g i)) : Gives P s ((infoS P t).bind g) := fun K E w hx => by
 unfold infoS at hx
 cases hi : P.info? t with
 | none => rw [hi] at hx; exact hx.elim
 | some i => rw [hi] at hx; exact h i hi K E w hx
theorem Gives.destr {P : Program} {s : Sem Value} {x : Sp Value} {t : TypeId} (h : Gives P s x) : Gives P s (x.bind fun v => destr P t v) :=
 fun K E w hx => h K E w (x.mono (fun _ _ h' => destr_elim h') (fun _ _ h' => h') hx)
def Gq {α : Type} (b : Bool) (P : Program) (s : Sem α) (x : Sp α) : Prop :=
 ∀ (K : α → Heap → Prop) (E : List PanicEntry → Heap → Prop) (H : Heap), x.run K E H → ∃ v, K v H ∧ ∀ w : World, (b = true → w.heap = H) → s.run P w = .ok v w
theorem Gq.gives {α : Type} {b : Bool} {P : Program} {s : Sem α} {x : Sp α} (h : Gq b P s x) : Gives P s x := fun K E w hx => by
 obtain ⟨v, hk, hr⟩ := h K E w.heap hx
 rw [hr w fun _ => rfl]; exact ⟨hk, Like.refl w⟩
theorem Gq.up {α : Type} {P : Program} {s : Sem α} {x : Sp α} (h : Gq false P s x) : Gq true P s x := fun K E H hx => by
 obtain ⟨v, hk, hr⟩ := h K E H hx
 exact ⟨v, hk, fun w _ => hr w (by simp)⟩
section
variable {α β : Type} {b : Bool} {P : Program} {s : Sem α}
theorem Gq.pure (a : α) : Gq b P (Pure.pure a) (.pure a) := fun _ _ _ h => ⟨a, h, fun _ _ => rfl⟩
theorem Gq.bind {x : Sp α} {f : α → Sem β} {g : α → Sp β} (h : Gq b P s x) (hf : ∀ a, Gq b P (f a) (g a)) : Gq b P (s >>= f) (x.bind g) := fun K E H hx => by
 obtain ⟨a, ha, hr⟩ := h (fun a H' => (g a).run K E H') E H hx
 obtain ⟨v, hv, hr'⟩ := hf a K E H ha
 exact ⟨v, hv, fun w hw => by rw [Sem.run_bind, hr w hw, Result.andThen_ok, hr' w hw]⟩
theorem Gq.fail (s : Sem α) : Gq b P s .fail := fun _ _ _ h => h.elim
theorem Gq.of_run {a : α} (h : ∀ w, s.run P w = .ok a w) : Gq b P s (.pure a) := fun K E H hx => ⟨a, hx, fun w _ => h w⟩
theorem Gq.guard {c : Bool} {g : Unit → Sp α} (h : c = true → Gq b P s (g ())) : Gq b P s ((Sp.guard c).bind g) := fun K E H hx => by
 obtain ⟨h1, h2⟩ := gB_elim (show gB c ((g ()).run K E H) from hx)
 exact h h1 K E H h2
theorem Gq.asking {p : Prop} {g : Unit → Sp α} (h : p → Gq b P s (g ())) : Gq b P s ((Sp.asking p).bind g) := fun K E H hx => h hx.1 K E H hx.2
theorem Gq.split {s : Bool → Sem α} {c : Bool} {g : Bool → Sp α} (h : ∀ c, Gq b P (s c) (g c)) : Gq b P (s c) ((Sp.split c).bind g) := fun K E H hx => by
 rcases sB_elim (show sB c ((g true).run K E H) ((g false).run K E H) from hx) with ⟨rfl, h'⟩ | ⟨rfl, h'⟩
 ·exact h true K E H h'
 ·exact h false K E H h'
theorem Gq.int' {v : Value} {g : IntKind × Int → Sp α} (h : ∀ k n, v = .int k n → Gq b P s (g (k, n))) : Gq b P s ((Sp.int' v).bind g) := fun K E H hx => by
 obtain ⟨k, n, hv, h'⟩ := dInt'_elim (k := fun kd n => (g (kd, n)).run K E H) hx
 exact h k n hv K E H h'
theorem Gq.str {v : Value} {g : ByteArray → Sp α} (h : ∀ x, v = .string x → Gq b P s (g x)) : Gq b P s ((Sp.str v).bind g) := fun K E H hx => by
 obtain ⟨x, hv, h'⟩ := dStr_elim (k := fun x => (g x).run K E H) hx
 exact h x hv K E H h'
theorem Gq.agg {v : Value} {g : Array Value → Sp α} (h : ∀ x, v = .agg x → Gq b P s (g x)) : Gq b P s ((Sp.agg v).bind g) := fun K E H hx => by
 obtain ⟨x, hv, h'⟩ := dAgg_elim (k := fun x => (g x).run K E H) hx
 exact h x hv K E H h'
theorem Gq.slc {v : Value} {g : Option Addr × Nat × Nat → Sp α} (h : ∀ a n c, v = .slice a n c → Gq b P s (g (a, n, c))) : Gq b P s ((Sp.slc v).bind g) := fun K E H hx => by
 obtain ⟨a, n, c, hv, h'⟩ := dSl_elim (k := fun a n c => (g (a, n, c)).run K E H) hx
 exact h a n c hv K E H h'
theorem Gq.bool {v : Value} {g : Bool → Sp α} (h : ∀ x, v = .bool x → Gq b P s (g x)) : Gq b P s ((Sp.bool v).bind g) := fun K E H hx => by
 obtain ⟨x, hv, h'⟩ := dBool_elim (k := fun x => (g x).run K E H) hx
 exact h x hv K E H h'
theorem Gq.nonNil {v : Option Addr} {g : Addr → Sp α} (h : ∀ a, v = some a → Gq b P s (g a)) : Gq b P s ((Sp.nonNil v).bind g) := fun K E H hx => by
 obtain ⟨a, hv, h'⟩ := nz_elim (k := fun a => (g a).run K E H) hx
 exact h a hv K E H h'
theorem Gq.info {t : TypeId} {g : TypeInfo → Sp α} (h : ∀ i, P.info? t = some i → Gq b P s (g i)) : Gq b P s ((infoS P t).bind g) := fun K E H hx => by
 unfold infoS at hx
 cases hi : P.info? t with
 | none => rw [hi] at hx; exact hx.elim
 | some i => rw [hi] at hx; exact h i hi K E H hx
theorem Gq.destr {s : Sem Value} {x : Sp Value} {t : TypeId} (h : Gq b P s x) : Gq b P s (x.bind fun v => destr P t v) :=
 fun K E H hx => h K E H (x.mono (fun _ _ h' => destr_elim h') (fun _ _ h' => h') hx)
theorem Gq.addr {v : Value} {g : Addr → Sp α} (h : ∀ a, v = .pointer (some a) → Gq b P s (g a)) : Gq b P s ((addrS v).bind g) := fun K E H hx => by
 obtain ⟨ao, hv, h1⟩ := dPtr_elim (k := fun ao => nz ao fun a => (g a).run K E H) hx
 obtain ⟨a, rfl, h2⟩ := nz_elim h1
 exact h a hv K E H h2
end
theorem run_typeInfo {P : Program} {t : TypeId} {i : TypeInfo} (h : P.info? t = some i) (w : World) : (typeInfo t).run P w = .ok i w := by
 simp [typeInfo, h]
theorem run_under {P : Program} {t : TypeId} {d : TypeDesc} (h : P.underlying t = some d) (w : World) : (underlying t).run P w = .ok d w := by
 simp [underlying, h]
theorem gives_info {b : Bool} (P : Program) (t : TypeId) : Gq b P (typeInfo t) (infoS P t) := fun K E H hx => by
 unfold infoS at hx
 cases hi : P.info? t with
 | none => rw [hi] at hx; exact hx.elim
 | some i => rw [hi] at hx; exact ⟨i, hx, fun w _ => run_typeInfo hi w⟩
theorem gives_size {b : Bool} (P : Program) (t : TypeId) : Gq b P (sizeOf t) ((infoS P t).bind fun i => .pure i.size) := (gives_info P t).bind fun _ => .pure _
theorem gives_zero {b : Bool} (P : Program) (t : TypeId) : Gq b P (zeroValue t) (zeroS P t) := (gives_info P t).bind fun i => by
 cases i.zero with
 | none => exact .fail _
 | some v => exact .pure _
theorem gives_underlying {α : Type} {b : Bool} (P : Program) (t : TypeId) (f : TypeDesc → Sem α) (x : Sp α) (h : ∀ d, P.underlying t = some d → Gq b P (f d) x) (hn : P.underlying t = none → ∀ K E H, ¬ x.run K E H) :
  Gq b P (underlying t >>= f) x := fun K E H hx => by
 cases hd : P.underlying t with
 | none => exact (hn hd K E _ hx).elim
 | some d =>
  obtain ⟨v, hv, hr⟩ := h d hd K E H hx
  exact ⟨v, hv, fun w hw => by rw [Sem.run_bind, run_under hd]; exact hr w hw⟩
theorem gives_agg {b : Bool} (P : Program) (t : TypeId) : Gq b P (isAgg t) (aggOf P t) := by
 unfold isAgg aggOf
 refine gives_underlying P t _ _ (fun d hd => ?_) (fun hd => ?_)
 ·rw [hd]; cases d <;> exact .pure _
 ·rw [hd]; exact fun _ _ _ h => h
theorem gives_load1 (P : Program) (a : Addr) : Gq true P (load a) (Sp.load a) := fun K _ H h => by
 have h : ld H a fun v => K v H := h
 unfold ld at h
 cases hc : cellH H a with
 | none => rw [hc] at h; exact h.elim
 | some v =>
  rw [hc] at h
  exact ⟨v, h, fun w hw => by
   have : w.cell? a = some v := by rw [cell_eq, hw rfl]; exact hc
   simp [load, Sem.run, this]⟩
theorem gives_store1 (P : Program) (a : Addr) (v : Value) : Gives P (store a v) (Sp.store a v) := fun K _ w h => wpH_run (P := P) (store a v) (Q := K) w h
theorem gives_loads (P : Program) (a : Addr) : ∀ (n i : Nat) (acc : Array Value), Gq true P (loadCellsFrom a i n acc) (ldsS a i n acc)
 | 0, _, acc => .pure acc
 | n + 1, i, acc => Gq.bind (s := load (a.add i)) (x := Sp.load (a.add i)) (gives_load1 P _) fun v => gives_loads P a n (i + 1) (acc.push v)
theorem gives_stores (P : Program) (a : Addr) : ∀ (vs : List Value) (i : Nat), Gives P (storeCells a vs i) (stsS a vs i)
 | [], _ => .pure ()
 | v :: rest, i => Gives.bind (s := store (a.add i) v) (x := Sp.store (a.add i) v) (gives_store1 P _ _) fun _ => gives_stores P a rest (i + 1)
theorem gives_load (P : Program) (t : TypeId) (a : Addr) : Gq true P (loadVar t a) (loadS P t a) := by
 refine (gives_agg P t).bind fun b => ?_
 cases b with
 | true => exact fun K E w hx => (Gq.bind (gives_size P t) (g := fun n => (ldsS a 0 n #[]).bind fun cs => Sp.pure (Value.agg cs)) fun n => Gq.bind (s := loadCells a n) (gives_loads P a n 0 #[]) fun cs => Gq.pure (Value.agg cs)) K E w hx
 | false => exact Gq.destr (s := load a) (x := Sp.load a) (t := t) (gives_load1 P a)
theorem gives_storeVar (P : Program) (t : TypeId) (a : Addr) (v : Value) : Gives P (storeVar t a v) (storeS P t a v) := fun K E w hx => by
 refine (Gives.bind (gives_size (b := false) P t).gives (g := fun n => (Sp.guard (Nat.beq v.cells.size n)).bind fun _ => stsS a v.cells.toList 0) fun n => ?_) K E w hx
 refine Gives.guard fun hb => ?_
 have hn : v.cells.size = n := Nat.eq_of_beq_eq_true hb
 simp only [hn, ne_eq, not_true_eq_false, if_false]
 exact gives_stores P a v.cells.toList 0
theorem gives_sure {b : Bool} (P : Program) (v : Value) : Gq b P (Instr.sureAddr v) (addrS v) := fun K E H hx => by
 obtain ⟨ao, rfl, h1⟩ := dPtr_elim (k := fun ao => nz ao fun a => K a H) hx
 obtain ⟨a, rfl, h2⟩ := nz_elim h1
 exact ⟨a, h2, fun _ _ => rfl⟩
theorem gives_asAddr {b : Bool} (P : Program) (v : Value) : Gq b P (asAddr v) (addrS v) := fun K E H hx => by
 obtain ⟨ao, rfl, h1⟩ := dPtr_elim (k := fun ao => nz ao fun a => K a H) hx
 obtain ⟨a, rfl, h2⟩ := nz_elim h1
 exact ⟨a, h2, fun _ _ => rfl⟩
theorem gives_split {q : Bool} (P : Program) (b : Bool) : Gq q P (Pure.pure (Value.bool b)) (splitS b) := Gq.pure _
theorem gives_wr {q : Bool} (P : Program) (k : IntKind) (n : Int) : Gq q P (Pure.pure (Value.int k (k.wrap n))) (wrS k n) := fun _ _ _ h => ⟨_, h, fun _ _ => rfl⟩
theorem gives_nm {q : Bool} (P : Program) (k : IntKind) (n : Int) : Gq q P (Pure.pure (Value.int k n)) (nmS k n) := fun _ _ _ h => ⟨_, h, fun _ _ => rfl⟩
theorem gives_int {q : Bool} (P : Program) (op : BinOp) (k : IntKind) (a b : Int) : Gq q P (match op with
  | .add | .sub | .mul => Op.intArith op k a b
  | .quo | .rem => Op.intDiv op k a b
  | .and | .or | .xor | .andNot => Op.intBits op k a b
  | _ => Op.intCmp op a b) (intS op k a b) := by
 cases op <;> first
  | exact gives_wr P _ _
  | exact gives_nm P _ _
  | exact gives_split P _
  | exact Gq.fail _
  | (refine Gq.asking fun hb => ?_; simp only [Op.intDiv, if_neg hb]; first | exact gives_wr P _ _ | exact gives_nm P _ _)
theorem gives_str {q : Bool} (P : Program) (op : BinOp) (x y : ByteArray) : Gq q P (Op.stringOp op x y) (strS op x y) := by
 cases op <;> first
  | exact gives_split P _
  | exact Gq.fail _
  | (refine Gq.asking fun hb => ?_; simp only [Op.stringOp, if_neg (Int.not_lt.2 hb)]; exact .pure _)
theorem gives_shift {q : Bool} (P : Program) (op : BinOp) (k k' : IntKind) (x y : Int) (hop : op = .shl ∨ op = .shr) : Gq q P (Op.shift op k x k' y) ((Sp.asking (0 ≤ y)).bind fun _ => nmS k (shV op k x y)) := by
 refine Gq.asking fun hb => ?_
 unfold Op.shift
 rw [if_neg (Int.not_lt.2 hb)]
 rcases hop with rfl | rfl <;> exact gives_nm P _ _
theorem guardless (op : BinOp) (t : TypeId) (x y : Operand) (a b : Value) (h : ∀ (u v : Array Value), ¬ (a = .agg u ∧ b = .agg v)) (h' : ¬ (a = .nilIface ∧ b = .nilIface)) :
  eqGuard op t x y a b = Pure.pure () := by
 unfold eqGuard
 cases a <;> cases b <;> first | exact (h _ _ ⟨rfl, rfl⟩).elim | exact (h' ⟨rfl, rfl⟩).elim | (split <;> rfl)
def plainOps (a b : Value) : Bool := match a, b with
 | .int _ _, .int _ _ => true
 | .string _, .string _ => true
 | _, _ => false
theorem gives_binq {q : Bool} (P : Program) (op : BinOp) (t : TypeId) (x y : Operand) (a b : Value) (hp : plainOps a b = true) : Gq q P (do eqGuard op t x y a b; binOp op t a b) (binS P op t x y a b) := by
 cases a <;> cases b <;> first | (cases hp; done) | skip
 ·rename_i k m k' n
  rw [guardless _ t x y _ _ (by simp) (by simp)]
  have hg : op ≠ .shl → op ≠ .shr → Gq q P (do Pure.pure (); binOp op t (.int k m) (.int k' n)) ((Sp.guard (decide (k = k'))).bind fun _ => intS op k m n) := fun h3 h4 => by
   refine Gq.guard fun hk => ?_
   have hk := of_decide_eq_true hk
   subst hk
   have := gives_int (q := q) P op k m n
   cases op <;> first
    | exact (h3 rfl).elim
    | exact (h4 rfl).elim
    | (simp only [binOp, ne_eq, not_true_eq_false, if_false]; exact this)
  cases op <;> first
   | exact gives_shift P .shl k k' m n (.inl rfl)
   | exact gives_shift P .shr k k' m n (.inr rfl)
   | exact hg (by simp) (by simp)
 ·rename_i m n
  rw [guardless _ t x y _ _ (by simp) (by simp)]
  have := gives_str (q := q) P op m n
  cases op <;> exact this
theorem Gq.congr {α : Type} {q : Bool} {P : Program} {s s' : Sem α} {x : Sp α} (h : ∀ w, s.run P w = s'.run P w) (g : Gq q P s' x) : Gq q P s x := fun K E H hx => by
 obtain ⟨v, hk, hr⟩ := g K E H hx
 exact ⟨v, hk, fun w hw => (h w).trans (hr w hw)⟩
theorem run_equal {P : Program} {t : TypeId} {a b : Value} {c : Bool} (h : eqV P t a b = some c) (w : World) : (Op.equal t a b).run P w = .ok c w := by
 show (Op.equalIn (9999 + 1) t a b).run P w = .ok c w
 unfold eqV at h
 rw [Op.equalIn]
 split at h
 ·rename_i hu
  split at h
  ·cases h; rw [Sem.run_bind, run_under hu]; rfl
  ·cases h
 ·rename_i hu
  split at h
  ·rename_i p
   cases h; rw [Sem.run_bind, run_under hu]; cases p <;> rfl
  ·cases h; rw [Sem.run_bind, run_under hu]; rfl
  ·cases h
 ·rename_i hu
  split at h
  ·rename_i p _ _ _ _
   cases h; rw [Sem.run_bind, run_under hu]; cases p <;> rfl
  ·cases h; rw [Sem.run_bind, run_under hu]; rfl
  ·cases h
 ·rename_i hu
  split at h
  ·rename_i p
   cases h; rw [Sem.run_bind, run_under hu]; cases p <;> rfl
  ·cases h; rw [Sem.run_bind, run_under hu]; rfl
  ·cases h
 ·cases h
theorem eqV_forms {P : Program} {t : TypeId} {a b : Value} {c : Bool} (h : eqV P t a b = some c) :
  (∃ x y, a = .bool x ∧ b = .bool y) ∨ (∃ x y, a = .pointer x ∧ b = .pointer y) ∨ (∃ x n m y n' m', a = .slice x n m ∧ b = .slice y n' m') ∨ (∃ x y, a = .map x ∧ b = .map y) := by
 unfold eqV at h
 split at h
 ·split at h
  ·exact .inl ⟨_, _, rfl, rfl⟩
  ·cases h
 ·split at h
  ·exact .inr (.inl ⟨_, _, rfl, rfl⟩)
  ·exact .inr (.inl ⟨_, _, rfl, rfl⟩)
  ·cases h
 ·split at h
  ·exact .inr (.inr (.inl ⟨_, _, _, _, _, _, rfl, rfl⟩))
  ·exact .inr (.inr (.inl ⟨_, _, _, _, _, _, rfl, rfl⟩))
  ·cases h
 ·split at h
  ·exact .inr (.inr (.inr ⟨_, _, rfl, rfl⟩))
  ·exact .inr (.inr (.inr ⟨_, _, rfl, rfl⟩))
  ·cases h
 ·cases h
theorem run_eql {P : Program} {t : TypeId} {x y : Operand} {a b : Value} {c : Bool} (h : eqV P t a b = some c) (w : World) :
  (do eqGuard .eql t x y a b; binOp .eql t a b : Sem Value).run P w = (Pure.pure (Value.bool c) : Sem Value).run P w := by
 have hr := run_equal h w
 rcases eqV_forms h with ⟨p, q, rfl, rfl⟩ | ⟨p, q, rfl, rfl⟩ | ⟨p, n, m, q, n', m', rfl, rfl⟩ | ⟨p, q, rfl, rfl⟩ <;>
 ·rw [guardless _ t x y _ _ (by simp) (by simp)]
  show (do Pure.pure (Value.bool (← Op.equal t _ _)) : Sem Value).run P w = _
  rw [Sem.run_bind, hr]; rfl
theorem run_neq {P : Program} {t : TypeId} {x y : Operand} {a b : Value} {c : Bool} (h : eqV P t a b = some c) (w : World) :
  (do eqGuard .neq t x y a b; binOp .neq t a b : Sem Value).run P w = (Pure.pure (Value.bool (!c)) : Sem Value).run P w := by
 have hr := run_equal h w
 rcases eqV_forms h with ⟨p, q, rfl, rfl⟩ | ⟨p, q, rfl, rfl⟩ | ⟨p, n, m, q, n', m', rfl, rfl⟩ | ⟨p, q, rfl, rfl⟩ <;>
 ·rw [guardless _ t x y _ _ (by simp) (by simp)]
  show (do Pure.pure (Value.bool (!(← Op.equal t _ _))) : Sem Value).run P w = _
  rw [Sem.run_bind, hr]; rfl
theorem gives_eqP (P : Program) (op : BinOp) (t : TypeId) (x y : Operand) (a b : Value) (hs : Gives P (do eqGuard op t x y a b; binOp op t a b) (eqS P op t x y a b)) : Gives P (do eqGuard op t x y a b; binOp op t a b) (eqP P op t x y a b) := by
 unfold eqP
 cases op <;> first | exact hs | skip
 ·cases h : eqV P t a b with
  | none => exact hs
  | some c => exact (Gq.congr (q := false) (run_eql h) (gives_split P c)).gives
 ·cases h : eqV P t a b with
  | none => exact hs
  | some c => exact (Gq.congr (q := false) (run_neq h) (gives_split P (!c))).gives
theorem gives_bin (P : Program) (op : BinOp) (t : TypeId) (x y : Operand) (a b : Value) : Gives P (do eqGuard op t x y a b; binOp op t a b) (binS P op t x y a b) := by
 cases hp : plainOps a b with
 | true => exact (gives_binq (q := false) P op t x y a b hp).gives
 | false =>
  have heq : Gives P (do eqGuard op t x y a b; binOp op t a b) (eqS P op t x y a b) := fun K E w hx =>
   (show Outcome (fun v H' => dBl v fun b => K (.bool b) H') _ w ((do eqGuard op t x y a b; binOp op t a b : Sem Value).run P w) from semW.run hx w rfl).mono (fun v H' h' => by obtain ⟨c, rfl, h2⟩ := dBl_elim h'; exact h2) (fun _ _ h' => h')
  unfold binS
  split
  ·cases hp
  ·cases hp
  ·cases hp
  ·cases hp
  ·exact gives_eqP P op t x y a b heq
end Go.Proofs.YtklppdodadkcnaaGreat.E
