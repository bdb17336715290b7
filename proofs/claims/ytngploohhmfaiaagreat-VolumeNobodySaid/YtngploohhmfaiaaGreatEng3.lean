/- The engine, part 3: each operation's own word, and that the model's operation does no other. -/
import Derived.Test.YtngploohhmfaiaaGreatEng2
namespace Go.Proofs.YtngploohhmfaiaaGreat.E
open Go
set_option linter.unusedVariables false

/-! ### the operations -/
def infoS (P : Program) (t : TypeId) : Sp TypeInfo := match P.info? t with | some i => .pure i | none => .fail
def zeroS (P : Program) (t : TypeId) : Sp Value := (infoS P t).bind fun i => match i.zero with | some v => .pure v | none => .fail
def aggOf (P : Program) (t : TypeId) : Sp Bool := match P.underlying t with | some (.struct _) => .pure true | some (.array _ _) => .pure true | some _ => .pure false | none => .fail
def ldsS (a : Addr) (i : Nat) : Nat → Array Value → Sp (Array Value)
  | 0, acc => .pure acc
  | n + 1, acc => (Sp.load (a.add i)).bind fun v => ldsS a (i + 1) n (acc.push v)
def stsS (a : Addr) : List Value → Nat → Sp Unit
  | [], _ => .pure ()
  | v :: rest, i => (Sp.store (a.add i) v).bind fun _ => stsS a rest (i + 1)
def loadS (P : Program) (t : TypeId) (a : Addr) : Sp Value :=
  (aggOf P t).bind fun b => match b with
    | true => (infoS P t).bind fun i => (ldsS a 0 i.size #[]).bind fun cs => .pure (.agg cs)
    | false => (Sp.load a).bind fun v => destr P t v
def storeS (P : Program) (t : TypeId) (a : Addr) (v : Value) : Sp Unit :=
  (infoS P t).bind fun i => (Sp.guard (Nat.beq v.cells.size i.size)).bind fun _ => stsS a v.cells.toList 0
def addrS (v : Value) : Sp Addr := (Sp.ptr v).bind fun ao => Sp.nonNil ao
def nilS (v : Value) : Sp Value :=
  match v with
  | .pointer ao => (Sp.nonNil ao).bind fun a => .pure (.pointer (some a))
  | .func (.func f) x y => .pure (.func (.func f) x y)
  | .func (.yield f) x y => .pure (.func (.yield f) x y)
  | .iface t x => .pure (.iface t x)
  | _ => .fail
def cmpB (op : BinOp) (x y : Int) : Option Bool :=
  match op with
  | .eql => some (x == y)
  | .neq => some (x != y)
  | .lss => some (decide (x < y))
  | .leq => some (decide (x ≤ y))
  | .gtr => some (decide (x > y))
  | .geq => some (decide (x ≥ y))
  | _ => none
def bitsV (op : BinOp) (k : IntKind) (x y : Int) : Int :=
  let a := BitVec.ofInt k.bits x
  let b := BitVec.ofInt k.bits y
  match op with
  | .and => k.wrap (a &&& b).toNat
  | .or => k.wrap (a ||| b).toNat
  | .xor => k.wrap (a ^^^ b).toNat
  | _ => k.wrap (a &&& ~~~b).toNat
def shV (op : BinOp) (k : IntKind) (x y : Int) : Int :=
  match op with
  | .shl => k.wrap (x * 2 ^ min y.toNat k.bits)
  | _ => x.fdiv (2 ^ min y.toNat k.bits)
def splitS (b : Bool) : Sp Value := .pure (.bool b)
def wrS (k : IntKind) (n : Int) : Sp Value := (Sp.wr k n).bind fun m => .pure (.int k m)
def nmS (k : IntKind) (n : Int) : Sp Value := (Sp.nm n).bind fun m => .pure (.int k m)
def intS (op : BinOp) (k : IntKind) (a b : Int) : Sp Value :=
  match op with
  | .add => wrS k (a + b)
  | .sub => wrS k (a - b)
  | .mul => wrS k (a * b)
  | .quo => (Sp.asking (b ≠ 0)).bind fun _ => wrS k (a.tdiv b)
  | .rem => (Sp.asking (b ≠ 0)).bind fun _ => nmS k (a.tmod b)
  | .and => nmS k (bitsV .and k a b)
  | .or => nmS k (bitsV .or k a b)
  | .xor => nmS k (bitsV .xor k a b)
  | .andNot => nmS k (bitsV .andNot k a b)
  | op => match cmpB op a b with | some c => splitS c | none => .fail
def strS (op : BinOp) (x y : ByteArray) : Sp Value :=
  match op with
  | .add => (Sp.asking (((x.size + y.size : Nat) : Int) ≤ IntKind.i64.max)).bind fun _ => .pure (.string (x ++ y))
  | .eql => splitS (x.toList == y.toList)
  | .neq => splitS (!(x.toList == y.toList))
  | .lss => splitS (Op.bytesLess x.toList y.toList)
  | .leq => splitS (Op.bytesLess x.toList y.toList || x.toList == y.toList)
  | .gtr => splitS (!(Op.bytesLess x.toList y.toList || x.toList == y.toList))
  | .geq => splitS (!(Op.bytesLess x.toList y.toList))
  | _ => .fail
/-- any other comparison: by the model's own words -/
def eqSem (op : BinOp) (t : TypeId) (x y : Operand) (a b : Value) : Sem Value := do eqGuard op t x y a b; binOp op t a b
def eqS (P : Program) (op : BinOp) (t : TypeId) (x y : Operand) (a b : Value) : Sp Value :=
  (Sp.sem P (eqSem op t x y a b)).bind fun v => (Sp.bool' v).bind fun b => .pure (.bool b)
/-- a comparison that is told by the operands alone -/
def eqV (P : Program) (t : TypeId) (a b : Value) : Option Bool :=
  match P.underlying t with
  | some .bool => match a, b with
    | .bool x, .bool y => some (x == y)
    | _, _ => none
  | some (.pointer _) => match a, b with
    | .pointer p, .pointer none => some p.isNone
    | .pointer none, .pointer q => some q.isNone
    | _, _ => none
  | some (.slice _) => match a, b with
    | .slice p _ _, .slice none _ _ => some p.isNone
    | .slice none _ _, .slice q _ _ => some q.isNone
    | _, _ => none
  | some (.map _ _) => match a, b with
    | .map p, .map none => some p.isNone
    | .map none, .map q => some q.isNone
    | _, _ => none
  | _ => none
def eqP (P : Program) (op : BinOp) (t : TypeId) (x y : Operand) (a b : Value) : Sp Value :=
  match op with
  | .eql => match eqV P t a b with
    | some c => splitS c
    | none => eqS P .eql t x y a b
  | .neq => match eqV P t a b with
    | some c => splitS (!c)
    | none => eqS P .neq t x y a b
  | op => eqS P op t x y a b
def binS (P : Program) (op : BinOp) (t : TypeId) (x y : Operand) (a b : Value) : Sp Value :=
  match op, a, b with
  | .shl, .int k m, .int _ n => (Sp.asking (0 ≤ n)).bind fun _ => nmS k (shV .shl k m n)
  | .shr, .int k m, .int _ n => (Sp.asking (0 ≤ n)).bind fun _ => nmS k (shV .shr k m n)
  | op, .int k m, .int k' n => (Sp.guard (decide (k = k'))).bind fun _ => intS op k m n
  | op, .string m, .string n => strS op m n
  | op, a, b => eqP P op t x y a b

/-- What an operation hands on. -/
def nextK (P : Program) (K : Value → Heap → Prop) (E : List PanicEntry → Heap → Prop) : Next → Heap → Prop
  | .value v, H => K v H
  | .skip, H => K undef H
  | .enter f args, H => HCalls P f args H (Sp.retK K E)
  | _, _ => False
/-- the model's semantics of an operation, in these words -/
def Does (P : Program) (s : Sem Next) (x : Sp Value) : Prop :=
  ∀ (K : Value → Heap → Prop) (E : List PanicEntry → Heap → Prop) (w : World), x.run K E w.heap → Outcome (nextK P K E) (fun v H' => E [{ v, recovered := false }] H') w (s.run P w)
/-- of a computation that gives a value -/
def Gives {α : Type} (P : Program) (s : Sem α) (x : Sp α) : Prop :=
  ∀ (K : α → Heap → Prop) (E : List PanicEntry → Heap → Prop) (w : World), x.run K E w.heap → Outcome K (fun v H' => E [{ v, recovered := false }] H') w (s.run P w)

theorem outcome_bind {α β : Type} {P : Program} {s : Sem α} {f : α → Sem β} {K : β → Heap → Prop} {E : Value → Heap → Prop} {w : World}
    (h : Outcome (fun a H' => ∀ w', w'.heap = H' → Outcome K E w' ((f a).run P w')) E w (s.run P w)) : Outcome K E w ((s >>= f).run P w) := by
  rw [Sem.run_bind]
  cases hr : s.run P w with
  | ok a w' => rw [hr] at h; exact Outcome.of_like h.2 (h.1 w' rfl)
  | halt x w' => rw [hr] at h; cases x <;> first | exact h.elim | exact h
theorem Outcome.mono {α : Type} {Q Q' : α → Heap → Prop} {E E' : Value → Heap → Prop} {w : World} {r : Result α} (h : Outcome Q E w r) (hq : ∀ a H, Q a H → Q' a H) (he : ∀ v H, E v H → E' v H) : Outcome Q' E' w r := by
  cases r with
  | ok a w' => exact ⟨hq _ _ h.1, h.2⟩
  | halt x w' => cases x <;> first | exact h.elim | exact ⟨he _ _ h.1, h.2⟩

theorem Gives.does {P : Program} {s : Sem Value} {x : Sp Value} (h : Gives P s x) : Does P (do pure (.value (← s))) x :=
  fun K E w hx => outcome_bind ((h K E w hx).mono (fun a H' h' w' hw => ⟨by rw [hw]; exact h', Like.refl w'⟩) (fun _ _ h' => h'))
theorem Gives.skips {P : Program} {s : Sem Unit} {x : Sp Unit} (h : Gives P s x) : Does P (do s; pure .skip) (x.bind fun _ => .pure undef) :=
  fun K E w hx => outcome_bind ((h (fun _ H => K undef H) E w hx).mono (fun a H' h' w' hw => ⟨by rw [hw]; exact h', Like.refl w'⟩) (fun _ _ h' => h'))
theorem Gives.pure {α : Type} {P : Program} (a : α) : Gives P (Pure.pure a) (.pure a) := fun _ _ w h => ⟨h, Like.refl w⟩
theorem Gives.bind {α β : Type} {P : Program} {s : Sem α} {x : Sp α} {f : α → Sem β} {g : α → Sp β} (h : Gives P s x) (hf : ∀ a, Gives P (f a) (g a)) : Gives P (s >>= f) (x.bind g) :=
  fun K E w hx => outcome_bind ((h (fun a H' => (g a).run K E H') E w hx).mono (fun a H' h' w' hw => hf a K E w' (by rw [hw]; exact h')) (fun _ _ h' => h'))
theorem Gives.sem {α : Type} {P : Program} (s : Sem α) : Gives P s (Sp.sem P s) := fun _ _ w h => semW.run h w rfl
theorem Gives.fail {α : Type} {P : Program} (s : Sem α) : Gives P s .fail := fun _ _ _ h => h.elim
theorem Gives.of_run {α : Type} {P : Program} {s : Sem α} {a : α} (h : ∀ w, s.run P w = .ok a w) : Gives P s (.pure a) := fun K E w hx => by rw [h w]; exact ⟨hx, Like.refl w⟩
/-- what is demanded ahead -/
theorem Gives.guard {α : Type} {P : Program} {s : Sem α} {b : Bool} {g : Unit → Sp α} (h : b = true → Gives P s (g ())) : Gives P s ((Sp.guard b).bind g) := fun K E w hx => by
  obtain ⟨h1, h2⟩ := gB_elim (show gB b ((g ()).run K E w.heap) from hx)
  exact h h1 K E w h2
theorem Gives.asking {α : Type} {P : Program} {s : Sem α} {p : Prop} {g : Unit → Sp α} (h : p → Gives P s (g ())) : Gives P s ((Sp.asking p).bind g) := fun K E w hx => h hx.1 K E w hx.2
theorem Gives.split {α : Type} {P : Program} {s : Bool → Sem α} {b : Bool} {g : Bool → Sp α} (h : ∀ c, Gives P (s c) (g c)) : Gives P (s b) ((Sp.split b).bind g) := fun K E w hx => by
  rcases sB_elim (show sB b ((g true).run K E w.heap) ((g false).run K E w.heap) from hx) with ⟨rfl, h'⟩ | ⟨rfl, h'⟩
  · exact h true K E w h'
  · exact h false K E w h'
theorem Gives.int' {α : Type} {P : Program} {s : Sem α} {v : Value} {g : IntKind × Int → Sp α} (h : ∀ k n, v = .int k n → Gives P s (g (k, n))) : Gives P s ((Sp.int' v).bind g) := fun K E w hx => by
  obtain ⟨k, n, hv, h'⟩ := dInt'_elim (k := fun kd n => (g (kd, n)).run K E w.heap) hx
  exact h k n hv K E w h'
theorem Gives.str {α : Type} {P : Program} {s : Sem α} {v : Value} {g : ByteArray → Sp α} (h : ∀ x, v = .string x → Gives P s (g x)) : Gives P s ((Sp.str v).bind g) := fun K E w hx => by
  obtain ⟨x, hv, h'⟩ := dStr_elim (k := fun x => (g x).run K E w.heap) hx
  exact h x hv K E w h'
theorem Gives.agg {α : Type} {P : Program} {s : Sem α} {v : Value} {g : Array Value → Sp α} (h : ∀ x, v = .agg x → Gives P s (g x)) : Gives P s ((Sp.agg v).bind g) := fun K E w hx => by
  obtain ⟨x, hv, h'⟩ := dAgg_elim (k := fun x => (g x).run K E w.heap) hx
  exact h x hv K E w h'
theorem Gives.slc {α : Type} {P : Program} {s : Sem α} {v : Value} {g : Option Addr × Nat × Nat → Sp α} (h : ∀ a n c, v = .slice a n c → Gives P s (g (a, n, c))) : Gives P s ((Sp.slc v).bind g) := fun K E w hx => by
  obtain ⟨a, n, c, hv, h'⟩ := dSl_elim (k := fun a n c => (g (a, n, c)).run K E w.heap) hx
  exact h a n c hv K E w h'
theorem Gives.bool {α : Type} {P : Program} {s : Sem α} {v : Value} {g : Bool → Sp α} (h : ∀ x, v = .bool x → Gives P s (g x)) : Gives P s ((Sp.bool v).bind g) := fun K E w hx => by
  obtain ⟨x, hv, h'⟩ := dBool_elim (k := fun x => (g x).run K E w.heap) hx
  exact h x hv K E w h'
theorem Gives.nonNil {α : Type} {P : Program} {s : Sem α} {v : Option Addr} {g : Addr → Sp α} (h : ∀ a, v = some a → Gives P s (g a)) : Gives P s ((Sp.nonNil v).bind g) := fun K E w hx => by
  obtain ⟨a, hv, h'⟩ := nz_elim (k := fun a => (g a).run K E w.heap) hx
  exact h a hv K E w h'
theorem Gives.info {α : Type} {P : Program} {s : Sem α} {t : TypeId} {g : TypeInfo → Sp α} (h : ∀ i, P.info? t = some i → Gives P s (g i)) : Gives P s ((infoS P t).bind g) := fun K E w hx => by
  unfold infoS at hx
  cases hi : P.info? t with
  | none => rw [hi] at hx; exact hx.elim
  | some i => rw [hi] at hx; exact h i hi K E w hx
/-- a value that is taken apart behind what gave it -/
theorem Gives.destr {P : Program} {s : Sem Value} {x : Sp Value} {t : TypeId} (h : Gives P s x) : Gives P s (x.bind fun v => destr P t v) :=
  fun K E w hx => h K E w (x.mono (fun _ _ h' => destr_elim h') (fun _ _ h' => h') hx)


/-- A COMPUTATION THAT ONLY READS (b: it reads the heap), or not even that: its value, in every world (of this heap). -/
def Gq {α : Type} (b : Bool) (P : Program) (s : Sem α) (x : Sp α) : Prop :=
  ∀ (K : α → Heap → Prop) (E : List PanicEntry → Heap → Prop) (H : Heap), x.run K E H → ∃ v, K v H ∧ ∀ w : World, (b = true → w.heap = H) → s.run P w = .ok v w
theorem Gq.gives {α : Type} {b : Bool} {P : Program} {s : Sem α} {x : Sp α} (h : Gq b P s x) : Gives P s x := fun K E w hx => by
  obtain ⟨v, hk, hr⟩ := h K E w.heap hx
  rw [hr w fun _ => rfl]; exact ⟨hk, Like.refl w⟩
theorem Gq.up {α : Type} {P : Program} {s : Sem α} {x : Sp α} (h : Gq false P s x) : Gq true P s x := fun K E H hx => by
  obtain ⟨v, hk, hr⟩ := h K E H hx
  exact ⟨v, hk, fun w _ => hr w (by simp)⟩
section
variable {α β : Type} {b : Bool} {P : Program} {s : Sem α}
theorem Gq.pure (a : α) : Gq b P (Pure.pure a) (.pure a) := fun _ _ _ h => ⟨a, h, fun _ _ => rfl⟩
theorem Gq.bind {x : Sp α} {f : α → Sem β} {g : α → Sp β} (h : Gq b P s x) (hf : ∀ a, Gq b P (f a) (g a)) : Gq b P (s >>= f) (x.bind g) := fun K E H hx => by
  obtain ⟨a, ha, hr⟩ := h (fun a H' => (g a).run K E H') E H hx
  obtain ⟨v, hv, hr'⟩ := hf a K E H ha
  exact ⟨v, hv, fun w hw => by rw [Sem.run_bind, hr w hw, Result.andThen_ok, hr' w hw]⟩
theorem Gq.fail (s : Sem α) : Gq b P s .fail := fun _ _ _ h => h.elim
theorem Gq.of_run {a : α} (h : ∀ w, s.run P w = .ok a w) : Gq b P s (.pure a) := fun K E H hx => ⟨a, hx, fun w _ => h w⟩
theorem Gq.guard {c : Bool} {g : Unit → Sp α} (h : c = true → Gq b P s (g ())) : Gq b P s ((Sp.guard c).bind g) := fun K E H hx => by
  obtain ⟨h1, h2⟩ := gB_elim (show gB c ((g ()).run K E H) from hx)
  exact h h1 K E H h2
theorem Gq.asking {p : Prop} {g : Unit → Sp α} (h : p → Gq b P s (g ())) : Gq b P s ((Sp.asking p).bind g) := fun K E H hx => h hx.1 K E H hx.2
theorem Gq.split {s : Bool → Sem α} {c : Bool} {g : Bool → Sp α} (h : ∀ c, Gq b P (s c) (g c)) : Gq b P (s c) ((Sp.split c).bind g) := fun K E H hx => by
  rcases sB_elim (show sB c ((g true).run K E H) ((g false).run K E H) from hx) with ⟨rfl, h'⟩ | ⟨rfl, h'⟩
  · exact h true K E H h'
  · exact h false K E H h'
theorem Gq.int' {v : Value} {g : IntKind × Int → Sp α} (h : ∀ k n, v = .int k n → Gq b P s (g (k, n))) : Gq b P s ((Sp.int' v).bind g) := fun K E H hx => by
  obtain ⟨k, n, hv, h'⟩ := dInt'_elim (k := fun kd n => (g (kd, n)).run K E H) hx
  exact h k n hv K E H h'
theorem Gq.str {v : Value} {g : ByteArray → Sp α} (h : ∀ x, v = .string x → Gq b P s (g x)) : Gq b P s ((Sp.str v).bind g) := fun K E H hx => by
  obtain ⟨x, hv, h'⟩ := dStr_elim (k := fun x => (g x).run K E H) hx
  exact h x hv K E H h'
theorem Gq.agg {v : Value} {g : Array Value → Sp α} (h : ∀ x, v = .agg x → Gq b P s (g x)) : Gq b P s ((Sp.agg v).bind g) := fun K E H hx => by
  obtain ⟨x, hv, h'⟩ := dAgg_elim (k := fun x => (g x).run K E H) hx
  exact h x hv K E H h'
theorem Gq.slc {v : Value} {g : Option Addr × Nat × Nat → Sp α} (h : ∀ a n c, v = .slice a n c → Gq b P s (g (a, n, c))) : Gq b P s ((Sp.slc v).bind g) := fun K E H hx => by
  obtain ⟨a, n, c, hv, h'⟩ := dSl_elim (k := fun a n c => (g (a, n, c)).run K E H) hx
  exact h a n c hv K E H h'
theorem Gq.bool {v : Value} {g : Bool → Sp α} (h : ∀ x, v = .bool x → Gq b P s (g x)) : Gq b P s ((Sp.bool v).bind g) := fun K E H hx => by
  obtain ⟨x, hv, h'⟩ := dBool_elim (k := fun x => (g x).run K E H) hx
  exact h x hv K E H h'
theorem Gq.nonNil {v : Option Addr} {g : Addr → Sp α} (h : ∀ a, v = some a → Gq b P s (g a)) : Gq b P s ((Sp.nonNil v).bind g) := fun K E H hx => by
  obtain ⟨a, hv, h'⟩ := nz_elim (k := fun a => (g a).run K E H) hx
  exact h a hv K E H h'
theorem Gq.info {t : TypeId} {g : TypeInfo → Sp α} (h : ∀ i, P.info? t = some i → Gq b P s (g i)) : Gq b P s ((infoS P t).bind g) := fun K E H hx => by
  unfold infoS at hx
  cases hi : P.info? t with
  | none => rw [hi] at hx; exact hx.elim
  | some i => rw [hi] at hx; exact h i hi K E H hx
theorem Gq.destr {s : Sem Value} {x : Sp Value} {t : TypeId} (h : Gq b P s x) : Gq b P s (x.bind fun v => destr P t v) :=
  fun K E H hx => h K E H (x.mono (fun _ _ h' => destr_elim h') (fun _ _ h' => h') hx)
theorem Gq.addr {v : Value} {g : Addr → Sp α} (h : ∀ a, v = .pointer (some a) → Gq b P s (g a)) : Gq b P s ((addrS v).bind g) := fun K E H hx => by
  obtain ⟨ao, hv, h1⟩ := dPtr_elim (k := fun ao => nz ao fun a => (g a).run K E H) hx
  obtain ⟨a, rfl, h2⟩ := nz_elim h1
  exact h a hv K E H h2
end

theorem run_typeInfo {P : Program} {t : TypeId} {i : TypeInfo} (h : P.info? t = some i) (w : World) : (typeInfo t).run P w = .ok i w := by
  simp [typeInfo, h]
theorem run_under {P : Program} {t : TypeId} {d : TypeDesc} (h : P.underlying t = some d) (w : World) : (underlying t).run P w = .ok d w := by
  simp [underlying, h]
theorem gives_info {b : Bool} (P : Program) (t : TypeId) : Gq b P (typeInfo t) (infoS P t) := fun K E H hx => by
  unfold infoS at hx
  cases hi : P.info? t with
  | none => rw [hi] at hx; exact hx.elim
  | some i => rw [hi] at hx; exact ⟨i, hx, fun w _ => run_typeInfo hi w⟩
theorem gives_size {b : Bool} (P : Program) (t : TypeId) : Gq b P (sizeOf t) ((infoS P t).bind fun i => .pure i.size) := (gives_info P t).bind fun _ => .pure _
theorem gives_zero {b : Bool} (P : Program) (t : TypeId) : Gq b P (zeroValue t) (zeroS P t) := (gives_info P t).bind fun i => by
  cases i.zero with
  | none => exact .fail _
  | some v => exact .pure _
theorem gives_underlying {α : Type} {b : Bool} (P : Program) (t : TypeId) (f : TypeDesc → Sem α) (x : Sp α) (h : ∀ d, P.underlying t = some d → Gq b P (f d) x) (hn : P.underlying t = none → ∀ K E H, ¬ x.run K E H) :
    Gq b P (underlying t >>= f) x := fun K E H hx => by
  cases hd : P.underlying t with
  | none => exact (hn hd K E _ hx).elim
  | some d =>
    obtain ⟨v, hv, hr⟩ := h d hd K E H hx
    exact ⟨v, hv, fun w hw => by rw [Sem.run_bind, run_under hd]; exact hr w hw⟩
theorem gives_agg {b : Bool} (P : Program) (t : TypeId) : Gq b P (isAgg t) (aggOf P t) := by
  unfold isAgg aggOf
  refine gives_underlying P t _ _ (fun d hd => ?_) (fun hd => ?_)
  · rw [hd]; cases d <;> exact .pure _
  · rw [hd]; exact fun _ _ _ h => h
theorem gives_load1 (P : Program) (a : Addr) : Gq true P (load a) (Sp.load a) := fun K _ H h => by
  have h : ld H a fun v => K v H := h
  unfold ld at h
  cases hc : cellH H a with
  | none => rw [hc] at h; exact h.elim
  | some v =>
    rw [hc] at h
    exact ⟨v, h, fun w hw => by
      have : w.cell? a = some v := by rw [cell_eq, hw rfl]; exact hc
      simp [load, Sem.run, this]⟩
theorem gives_store1 (P : Program) (a : Addr) (v : Value) : Gives P (store a v) (Sp.store a v) := fun K _ w h => wpH_run (P := P) (store a v) (Q := K) w h
theorem gives_loads (P : Program) (a : Addr) : ∀ (n i : Nat) (acc : Array Value), Gq true P (loadCellsFrom a i n acc) (ldsS a i n acc)
  | 0, _, acc => .pure acc
  | n + 1, i, acc => Gq.bind (s := load (a.add i)) (x := Sp.load (a.add i)) (gives_load1 P _) fun v => gives_loads P a n (i + 1) (acc.push v)
theorem gives_stores (P : Program) (a : Addr) : ∀ (vs : List Value) (i : Nat), Gives P (storeCells a vs i) (stsS a vs i)
  | [], _ => .pure ()
  | v :: rest, i => Gives.bind (s := store (a.add i) v) (x := Sp.store (a.add i) v) (gives_store1 P _ _) fun _ => gives_stores P a rest (i + 1)
theorem gives_load (P : Program) (t : TypeId) (a : Addr) : Gq true P (loadVar t a) (loadS P t a) := by
  refine (gives_agg P t).bind fun b => ?_
  cases b with
  | true => exact fun K E w hx => (Gq.bind (gives_size P t) (g := fun n => (ldsS a 0 n #[]).bind fun cs => Sp.pure (Value.agg cs)) fun n => Gq.bind (s := loadCells a n) (gives_loads P a n 0 #[]) fun cs => Gq.pure (Value.agg cs)) K E w hx
  | false => exact Gq.destr (s := load a) (x := Sp.load a) (t := t) (gives_load1 P a)

theorem gives_storeVar (P : Program) (t : TypeId) (a : Addr) (v : Value) : Gives P (storeVar t a v) (storeS P t a v) := fun K E w hx => by
  refine (Gives.bind (gives_size (b := false) P t).gives (g := fun n => (Sp.guard (Nat.beq v.cells.size n)).bind fun _ => stsS a v.cells.toList 0) fun n => ?_) K E w hx
  refine Gives.guard fun hb => ?_
  have hn : v.cells.size = n := Nat.eq_of_beq_eq_true hb
  simp only [hn, ne_eq, not_true_eq_false, if_false]
  exact gives_stores P a v.cells.toList 0
theorem gives_sure {b : Bool} (P : Program) (v : Value) : Gq b P (Instr.sureAddr v) (addrS v) := fun K E H hx => by
  obtain ⟨ao, rfl, h1⟩ := dPtr_elim (k := fun ao => nz ao fun a => K a H) hx
  obtain ⟨a, rfl, h2⟩ := nz_elim h1
  exact ⟨a, h2, fun _ _ => rfl⟩
theorem gives_asAddr {b : Bool} (P : Program) (v : Value) : Gq b P (asAddr v) (addrS v) := fun K E H hx => by
  obtain ⟨ao, rfl, h1⟩ := dPtr_elim (k := fun ao => nz ao fun a => K a H) hx
  obtain ⟨a, rfl, h2⟩ := nz_elim h1
  exact ⟨a, h2, fun _ _ => rfl⟩
theorem gives_split {q : Bool} (P : Program) (b : Bool) : Gq q P (Pure.pure (Value.bool b)) (splitS b) := Gq.pure _
theorem gives_wr {q : Bool} (P : Program) (k : IntKind) (n : Int) : Gq q P (Pure.pure (Value.int k (k.wrap n))) (wrS k n) := fun _ _ _ h => ⟨_, h, fun _ _ => rfl⟩
theorem gives_nm {q : Bool} (P : Program) (k : IntKind) (n : Int) : Gq q P (Pure.pure (Value.int k n)) (nmS k n) := fun _ _ _ h => ⟨_, h, fun _ _ => rfl⟩
theorem gives_int {q : Bool} (P : Program) (op : BinOp) (k : IntKind) (a b : Int) : Gq q P (match op with
    | .add | .sub | .mul => Op.intArith op k a b
    | .quo | .rem => Op.intDiv op k a b
    | .and | .or | .xor | .andNot => Op.intBits op k a b
    | _ => Op.intCmp op a b) (intS op k a b) := by
  cases op <;> first
    | exact gives_wr P _ _
    | exact gives_nm P _ _
    | exact gives_split P _
    | exact Gq.fail _
    | (refine Gq.asking fun hb => ?_; simp only [Op.intDiv, if_neg hb]; first | exact gives_wr P _ _ | exact gives_nm P _ _)
theorem gives_str {q : Bool} (P : Program) (op : BinOp) (x y : ByteArray) : Gq q P (Op.stringOp op x y) (strS op x y) := by
  cases op <;> first
    | exact gives_split P _
    | exact Gq.fail _
    | (refine Gq.asking fun hb => ?_; simp only [Op.stringOp, if_neg (Int.not_lt.2 hb)]; exact .pure _)
theorem gives_shift {q : Bool} (P : Program) (op : BinOp) (k k' : IntKind) (x y : Int) (hop : op = .shl ∨ op = .shr) : Gq q P (Op.shift op k x k' y) ((Sp.asking (0 ≤ y)).bind fun _ => nmS k (shV op k x y)) := by
  refine Gq.asking fun hb => ?_
  unfold Op.shift
  rw [if_neg (Int.not_lt.2 hb)]
  rcases hop with rfl | rfl <;> exact gives_nm P _ _
theorem guardless (op : BinOp) (t : TypeId) (x y : Operand) (a b : Value) (h : ∀ (u v : Array Value), ¬ (a = .agg u ∧ b = .agg v)) (h' : ¬ (a = .nilIface ∧ b = .nilIface)) :
    eqGuard op t x y a b = Pure.pure () := by
  unfold eqGuard
  cases a <;> cases b <;> first | exact (h _ _ ⟨rfl, rfl⟩).elim | exact (h' ⟨rfl, rfl⟩).elim | (split <;> rfl)
/-- operands whose comparison and arithmetic ask nothing of the heap -/
def plainOps (a b : Value) : Bool := match a, b with
  | .int _ _, .int _ _ => true
  | .string _, .string _ => true
  | _, _ => false
theorem gives_binq {q : Bool} (P : Program) (op : BinOp) (t : TypeId) (x y : Operand) (a b : Value) (hp : plainOps a b = true) : Gq q P (do eqGuard op t x y a b; binOp op t a b) (binS P op t x y a b) := by
  cases a <;> cases b <;> first | (cases hp; done) | skip
  · rename_i k m k' n
    rw [guardless _ t x y _ _ (by simp) (by simp)]
    have hg : op ≠ .shl → op ≠ .shr → Gq q P (do Pure.pure (); binOp op t (.int k m) (.int k' n)) ((Sp.guard (decide (k = k'))).bind fun _ => intS op k m n) := fun h3 h4 => by
      refine Gq.guard fun hk => ?_
      have hk := of_decide_eq_true hk
      subst hk
      have := gives_int (q := q) P op k m n
      cases op <;> first
        | exact (h3 rfl).elim
        | exact (h4 rfl).elim
        | (simp only [binOp, ne_eq, not_true_eq_false, if_false]; exact this)
    cases op <;> first
      | exact gives_shift P .shl k k' m n (.inl rfl)
      | exact gives_shift P .shr k k' m n (.inr rfl)
      | exact hg (by simp) (by simp)
  · rename_i m n
    rw [guardless _ t x y _ _ (by simp) (by simp)]
    have := gives_str (q := q) P op m n
    cases op <;> exact this
theorem Gq.congr {α : Type} {q : Bool} {P : Program} {s s' : Sem α} {x : Sp α} (h : ∀ w, s.run P w = s'.run P w) (g : Gq q P s' x) : Gq q P s x := fun K E H hx => by
  obtain ⟨v, hk, hr⟩ := g K E H hx
  exact ⟨v, hk, fun w hw => (h w).trans (hr w hw)⟩
theorem run_equal {P : Program} {t : TypeId} {a b : Value} {c : Bool} (h : eqV P t a b = some c) (w : World) : (Op.equal t a b).run P w = .ok c w := by
  show (Op.equalIn (9999 + 1) t a b).run P w = .ok c w
  unfold eqV at h
  rw [Op.equalIn]
  split at h
  · rename_i hu
    split at h
    · cases h; rw [Sem.run_bind, run_under hu]; rfl
    · cases h
  · rename_i hu
    split at h
    · rename_i p
      cases h; rw [Sem.run_bind, run_under hu]; cases p <;> rfl
    · cases h; rw [Sem.run_bind, run_under hu]; rfl
    · cases h
  · rename_i hu
    split at h
    · rename_i p _ _ _ _
      cases h; rw [Sem.run_bind, run_under hu]; cases p <;> rfl
    · cases h; rw [Sem.run_bind, run_under hu]; rfl
    · cases h
  · rename_i hu
    split at h
    · rename_i p
      cases h; rw [Sem.run_bind, run_under hu]; cases p <;> rfl
    · cases h; rw [Sem.run_bind, run_under hu]; rfl
    · cases h
  · cases h
theorem eqV_forms {P : Program} {t : TypeId} {a b : Value} {c : Bool} (h : eqV P t a b = some c) :
    (∃ x y, a = .bool x ∧ b = .bool y) ∨ (∃ x y, a = .pointer x ∧ b = .pointer y) ∨ (∃ x n m y n' m', a = .slice x n m ∧ b = .slice y n' m') ∨ (∃ x y, a = .map x ∧ b = .map y) := by
  unfold eqV at h
  split at h
  · split at h
    · exact .inl ⟨_, _, rfl, rfl⟩
    · cases h
  · split at h
    · exact .inr (.inl ⟨_, _, rfl, rfl⟩)
    · exact .inr (.inl ⟨_, _, rfl, rfl⟩)
    · cases h
  · split at h
    · exact .inr (.inr (.inl ⟨_, _, _, _, _, _, rfl, rfl⟩))
    · exact .inr (.inr (.inl ⟨_, _, _, _, _, _, rfl, rfl⟩))
    · cases h
  · split at h
    · exact .inr (.inr (.inr ⟨_, _, rfl, rfl⟩))
    · exact .inr (.inr (.inr ⟨_, _, rfl, rfl⟩))
    · cases h
  · cases h
theorem run_eql {P : Program} {t : TypeId} {x y : Operand} {a b : Value} {c : Bool} (h : eqV P t a b = some c) (w : World) :
    (do eqGuard .eql t x y a b; binOp .eql t a b : Sem Value).run P w = (Pure.pure (Value.bool c) : Sem Value).run P w := by
  have hr := run_equal h w
  rcases eqV_forms h with ⟨p, q, rfl, rfl⟩ | ⟨p, q, rfl, rfl⟩ | ⟨p, n, m, q, n', m', rfl, rfl⟩ | ⟨p, q, rfl, rfl⟩ <;>
  · rw [guardless _ t x y _ _ (by simp) (by simp)]
    show (do Pure.pure (Value.bool (← Op.equal t _ _)) : Sem Value).run P w = _
    rw [Sem.run_bind, hr]; rfl
theorem run_neq {P : Program} {t : TypeId} {x y : Operand} {a b : Value} {c : Bool} (h : eqV P t a b = some c) (w : World) :
    (do eqGuard .neq t x y a b; binOp .neq t a b : Sem Value).run P w = (Pure.pure (Value.bool (!c)) : Sem Value).run P w := by
  have hr := run_equal h w
  rcases eqV_forms h with ⟨p, q, rfl, rfl⟩ | ⟨p, q, rfl, rfl⟩ | ⟨p, n, m, q, n', m', rfl, rfl⟩ | ⟨p, q, rfl, rfl⟩ <;>
  · rw [guardless _ t x y _ _ (by simp) (by simp)]
    show (do Pure.pure (Value.bool (!(← Op.equal t _ _))) : Sem Value).run P w = _
    rw [Sem.run_bind, hr]; rfl
theorem gives_eqP (P : Program) (op : BinOp) (t : TypeId) (x y : Operand) (a b : Value) (hs : Gives P (do eqGuard op t x y a b; binOp op t a b) (eqS P op t x y a b)) : Gives P (do eqGuard op t x y a b; binOp op t a b) (eqP P op t x y a b) := by
  unfold eqP
  cases op <;> first | exact hs | skip
  · cases h : eqV P t a b with
    | none => exact hs
    | some c => exact (Gq.congr (q := false) (run_eql h) (gives_split P c)).gives
  · cases h : eqV P t a b with
    | none => exact hs
    | some c => exact (Gq.congr (q := false) (run_neq h) (gives_split P (!c))).gives
theorem gives_bin (P : Program) (op : BinOp) (t : TypeId) (x y : Operand) (a b : Value) : Gives P (do eqGuard op t x y a b; binOp op t a b) (binS P op t x y a b) := by
  cases hp : plainOps a b with
  | true => exact (gives_binq (q := false) P op t x y a b hp).gives
  | false =>
    have heq : Gives P (do eqGuard op t x y a b; binOp op t a b) (eqS P op t x y a b) := fun K E w hx =>
      (show Outcome (fun v H' => dBl v fun b => K (.bool b) H') _ w ((do eqGuard op t x y a b; binOp op t a b : Sem Value).run P w) from semW.run hx w rfl).mono (fun v H' h' => by obtain ⟨c, rfl, h2⟩ := dBl_elim h'; exact h2) (fun _ _ h' => h')
    unfold binS
    split
    · cases hp
    · cases hp
    · cases hp
    · cases hp
    · exact gives_eqP P op t x y a b heq
end Go.Proofs.YtngploohhmfaiaaGreat.E
