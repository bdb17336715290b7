/- The engine, part 2: the operations, each in words of the heap; that the model's own do no other. -/
import Derived.Test.YtngploohhmfaiaaGreatEng1
namespace Go.Proofs.YtngploohhmfaiaaGreat.E
open Go

/-! ### words -/
def sB (b : Bool) (x y : Prop) : Prop := match b with | true => x | false => y
def gB (b : Bool) (x : Prop) : Prop := match b with | true => x | false => False
def nz (ao : Option Addr) (k : Addr → Prop) : Prop := match ao with | some a => k a | none => False
def nzR (r : Option Nat) (k : Nat → Prop) : Prop := match r with | some a => k a | none => False
def ask (p x : Prop) : Prop := p ∧ x
def dInt (kd : IntKind) (v : Value) (k : Int → Prop) : Prop := match v with | .int kd' n => gB (decide (kd' = kd)) (k n) | _ => False
def dInt' (v : Value) (k : IntKind → Int → Prop) : Prop := match v with | .int kd n => k kd n | _ => False
def dB (v : Value) (x y : Prop) : Prop := match v with | .bool b => sB b x y | _ => False
def dBl (v : Value) (k : Bool → Prop) : Prop := match v with | .bool b => k b | _ => False
def dBool (v : Value) (k : Bool → Prop) : Prop := dB v (k true) (k false)
def dStr (v : Value) (k : ByteArray → Prop) : Prop := match v with | .string s => k s | _ => False
def dPtr (v : Value) (k : Option Addr → Prop) : Prop := match v with | .pointer ao => k ao | _ => False
def dSl (v : Value) (k : Option Addr → Nat → Nat → Prop) : Prop := match v with | .slice a n c => k a n c | _ => False
def dMap (v : Value) (k : Option Nat → Prop) : Prop := match v with | .map r => k r | _ => False
def dFn (v : Value) (k : FuncId → Array Value → Array Value → Prop) : Prop := match v with | .func (.func g) a b => k g a b | _ => False
/-- a number that is reckoned, rounded to its kind; one that is reckoned -/
def wr (kd : IntKind) (n : Int) (k : Int → Prop) : Prop := k (kd.wrap n)
/-- what two roads have in common behind them -/
structure jn {α : Type} (k : α) (f : α → Prop) : Prop where
  out : f k
def oV (o : Option Value) (k : Value → Prop) : Prop := match o with | some v => k v | none => False
def nm (n : Int) (k : Int → Prop) : Prop := k n
def dAgg (v : Value) (k : Array Value → Prop) : Prop := match v with | .agg cs => k cs | _ => False
/-- a word on n values -/
def VF : Nat → Type
  | 0 => Prop
  | n + 1 => Value → VF n
def apl : (n : Nat) → VF n → List Value → Prop
  | 0, k, [] => k
  | n + 1, k, v :: r => apl n (k v) r
  | _, _, _ => False
def cur : (n : Nat) → (List Value → Prop) → VF n
  | 0, k => k []
  | n + 1, k => fun v => cur n fun l => k (v :: l)
theorem apl_cur : ∀ {n : Nat} {k : List Value → Prop} {l : List Value}, apl n (cur n k) l → l.length = n ∧ k l
  | 0, _, [], h => ⟨rfl, h⟩
  | 0, _, _ :: _, h => h.elim
  | _ + 1, _, [], h => h.elim
  | n + 1, k, v :: r, h => by
    obtain ⟨h1, h2⟩ := apl_cur (n := n) (k := fun l => k (v :: l)) (l := r) h
    exact ⟨by simp [h1], h2⟩
theorem apl_cur_mk : ∀ {n : Nat} {k : List Value → Prop} {l : List Value}, l.length = n → k l → apl n (cur n k) l
  | 0, _, [], _, h => h
  | 0, _, _ :: _, h, _ => by simp at h
  | _ + 1, _, [], h, _ => by simp at h
  | n + 1, k, v :: r, h, h' => apl_cur_mk (n := n) (k := fun l => k (v :: l)) (l := r) (by simpa using h) h'
/-- the same with a heap behind -/
def VFH : Nat → Type
  | 0 => Heap → Prop
  | n + 1 => Value → VFH n
def aplH : (n : Nat) → VFH n → List Value → Heap → Prop
  | 0, k, [], H => k H
  | n + 1, k, v :: r, H => aplH n (k v) r H
  | _, _, _, _ => False
def curH : (n : Nat) → (List Value → Heap → Prop) → VFH n
  | 0, k => k []
  | n + 1, k => fun v => curH n fun l => k (v :: l)
theorem aplH_cur : ∀ {n : Nat} {k : List Value → Heap → Prop} {l : List Value} {H : Heap}, aplH n (curH n k) l H → l.length = n ∧ k l H
  | 0, _, [], _, h => ⟨rfl, h⟩
  | 0, _, _ :: _, _, h => h.elim
  | _ + 1, _, [], _, h => h.elim
  | n + 1, k, v :: r, H, h => by
    obtain ⟨h1, h2⟩ := aplH_cur (n := n) (k := fun l => k (v :: l)) (l := r) h
    exact ⟨by simp [h1], h2⟩
theorem aplH_mk : ∀ {n : Nat} {k : List Value → Heap → Prop} {l : List Value} {H : Heap}, l.length = n → k l H → aplH n (curH n k) l H
  | 0, _, [], _, _, h => h
  | 0, _, _ :: _, _, h, _ => by simp at h
  | _ + 1, _, [], _, h, _ => by simp at h
  | n + 1, k, v :: r, H, h, h' => aplH_mk (n := n) (k := fun l => k (v :: l)) (l := r) (by simpa using h) h'
def dA (n : Nat) (v : Value) (k : VF n) : Prop := match v with | .agg cs => apl n k cs.toList | _ => False
def dT (n : Nat) (v : Value) (k : VF n) : Prop := match v with | .tuple cs => apl n k cs.toList | _ => False

theorem sB_elim {b : Bool} {x y : Prop} (h : sB b x y) : (b = true ∧ x) ∨ (b = false ∧ y) := by cases b <;> first | exact .inl ⟨rfl, h⟩ | exact .inr ⟨rfl, h⟩
theorem gB_elim {b : Bool} {x : Prop} (h : gB b x) : b = true ∧ x := by cases b <;> first | exact h.elim | exact ⟨rfl, h⟩
theorem nz_elim {ao : Option Addr} {k : Addr → Prop} (h : nz ao k) : ∃ a, ao = some a ∧ k a := by cases ao <;> first | exact h.elim | exact ⟨_, rfl, h⟩
theorem nzR_elim {ao : Option Nat} {k : Nat → Prop} (h : nzR ao k) : ∃ a, ao = some a ∧ k a := by cases ao <;> first | exact h.elim | exact ⟨_, rfl, h⟩
theorem dInt_elim {kd : IntKind} {v : Value} {k : Int → Prop} (h : dInt kd v k) : ∃ n, v = .int kd n ∧ k n := by
  cases v <;> first | exact h.elim | skip
  rename_i kd' n
  obtain ⟨h1, h2⟩ := gB_elim (show gB (decide (kd' = kd)) (k n) from h)
  exact ⟨n, by rw [of_decide_eq_true h1], h2⟩
theorem dInt'_elim {v : Value} {k : IntKind → Int → Prop} (h : dInt' v k) : ∃ kd n, v = .int kd n ∧ k kd n := by
  cases v <;> first | exact h.elim | exact ⟨_, _, rfl, h⟩
theorem dBool_elim {v : Value} {k : Bool → Prop} (h : dBool v k) : ∃ b, v = .bool b ∧ k b := by
  cases v <;> first | exact h.elim | skip
  rename_i b
  cases b <;> exact ⟨_, rfl, h⟩
theorem dBl_elim {v : Value} {k : Bool → Prop} (h : dBl v k) : ∃ b, v = .bool b ∧ k b := by cases v <;> first | exact h.elim | exact ⟨_, rfl, h⟩
theorem dStr_elim {v : Value} {k : ByteArray → Prop} (h : dStr v k) : ∃ s, v = .string s ∧ k s := by cases v <;> first | exact h.elim | exact ⟨_, rfl, h⟩
theorem dPtr_elim {v : Value} {k : Option Addr → Prop} (h : dPtr v k) : ∃ a, v = .pointer a ∧ k a := by cases v <;> first | exact h.elim | exact ⟨_, rfl, h⟩
theorem dSl_elim {v : Value} {k : Option Addr → Nat → Nat → Prop} (h : dSl v k) : ∃ a n c, v = .slice a n c ∧ k a n c := by cases v <;> first | exact h.elim | exact ⟨_, _, _, rfl, h⟩
theorem dMap_elim {v : Value} {k : Option Nat → Prop} (h : dMap v k) : ∃ r, v = .map r ∧ k r := by cases v <;> first | exact h.elim | exact ⟨_, rfl, h⟩
theorem dFn_elim {v : Value} {k : FuncId → Array Value → Array Value → Prop} (h : dFn v k) : ∃ g a b, v = .func (.func g) a b ∧ k g a b := by
  cases v <;> first | exact h.elim | skip
  rename_i f a b
  cases f <;> first | exact h.elim | exact ⟨_, _, _, rfl, h⟩
theorem dAgg_elim {v : Value} {k : Array Value → Prop} (h : dAgg v k) : ∃ cs, v = .agg cs ∧ k cs := by cases v <;> first | exact h.elim | exact ⟨_, rfl, h⟩
theorem dA_elim {n : Nat} {v : Value} {k : List Value → Prop} (h : dA n v (cur n k)) : ∃ l : List Value, v = .agg l.toArray ∧ l.length = n ∧ k l := by
  cases v <;> first | exact h.elim | skip
  rename_i cs
  obtain ⟨h1, h2⟩ := apl_cur (show apl n (cur n k) cs.toList from h)
  exact ⟨cs.toList, by simp, h1, h2⟩
theorem dT_elim {n : Nat} {v : Value} {k : List Value → Prop} (h : dT n v (cur n k)) : ∃ l : List Value, v = .tuple l.toArray ∧ l.length = n ∧ k l := by
  cases v <;> first | exact h.elim | skip
  rename_i cs
  obtain ⟨h1, h2⟩ := apl_cur (show apl n (cur n k) cs.toList from h)
  exact ⟨cs.toList, by simp, h1, h2⟩

theorem Outcome.mono2 {α : Type} {Q Q' : α → Heap → Prop} {E E' : Value → Heap → Prop} {w : World} {r : Result α} (hq : ∀ a H, Q a H → Q' a H) (he : ∀ v H, E v H → E' v H) (h : Outcome Q E w r) : Outcome Q' E' w r := by
  cases r with
  | ok a w' => exact ⟨hq _ _ h.1, h.2⟩
  | halt x w' => cases x <;> first | exact h.elim | exact ⟨he _ _ h.1, h.2⟩
/-- what the model's own text of an operation does -/
structure semW {α : Type} (P : Program) (s : Sem α) (E : List PanicEntry → Heap → Prop) (H : Heap) (K : α → Heap → Prop) : Prop where
  run : ∀ w : World, w.heap = H → Outcome K (fun v H' => E [{ v, recovered := false }] H') w (s.run P w)
/-! ### what an operation gives: a value and a heap, or a panic -/
structure Sp (α : Type) where
  run : (α → Heap → Prop) → (List PanicEntry → Heap → Prop) → Heap → Prop
  mono : ∀ {K K' : α → Heap → Prop} {E E' : List PanicEntry → Heap → Prop} {H : Heap}, (∀ a H, K a H → K' a H) → (∀ c H, E c H → E' c H) → run K E H → run K' E' H

namespace Sp
def pure {α : Type} (a : α) : Sp α := ⟨fun K _ H => K a H, fun hk _ h => hk _ _ h⟩
def bind {α β : Type} (x : Sp α) (f : α → Sp β) : Sp β :=
  ⟨fun K E H => x.run (fun a H' => (f a).run K E H') E H, fun hk he h => x.mono (fun _ _ h' => (f _).mono hk he h') he h⟩
def fail {α : Type} : Sp α := ⟨fun _ _ _ => False, fun _ _ h => h⟩
def sem {α : Type} (P : Program) (s : Sem α) : Sp α := ⟨fun K E H => semW P s E H fun v H' => K v H', fun hk he h => ⟨fun w hw => (h.run w hw).mono2 hk (fun _ _ h' => he _ _ h')⟩⟩
def new (o : Obj) : Sp Nat := ⟨fun K _ H => al H o fun r H' => K r H', fun hk _ h => hk _ _ h⟩
def load (a : Addr) : Sp Value := ⟨fun K _ H => ld H a fun v => K v H, fun {K K' _ _ H} hk _ h => by
  simp only [ld] at h ⊢; cases hc : cellH H a with
  | none => rw [hc] at h; exact h.elim
  | some v => rw [hc] at h; exact hk _ _ h⟩
def store (a : Addr) (v : Value) : Sp Unit := ⟨fun K _ H => st H a v fun H' => K () H', fun hk _ h => ⟨h.1, hk _ _ h.2⟩⟩
def split (b : Bool) : Sp Bool := ⟨fun K _ H => sB b (K true H) (K false H), fun hk _ h => by cases b <;> exact hk _ _ h⟩
def guard (b : Bool) : Sp Unit := ⟨fun K _ H => gB b (K () H), fun hk _ h => by cases b <;> first | exact h | exact hk _ _ h⟩
def asking (p : Prop) : Sp Unit := ⟨fun K _ H => ask p (K () H), fun hk _ h => ⟨h.1, hk _ _ h.2⟩⟩
def nonNil (ao : Option Addr) : Sp Addr := ⟨fun K _ H => nz ao fun a => K a H, fun hk _ h => by cases ao <;> first | exact h | exact hk _ _ h⟩
def int (kd : IntKind) (v : Value) : Sp Int := ⟨fun K _ H => dInt kd v fun n => K n H, fun hk _ h => by
  obtain ⟨n, rfl, h'⟩ := dInt_elim h
  show gB (decide (kd = kd)) _
  rw [decide_eq_true rfl]; exact hk _ _ h'⟩
def int' (v : Value) : Sp (IntKind × Int) := ⟨fun K _ H => dInt' v fun kd n => K (kd, n) H, fun hk _ h => by
  obtain ⟨kd, n, rfl, h'⟩ := dInt'_elim h; exact hk _ _ h'⟩
def bool (v : Value) : Sp Bool := ⟨fun K _ H => dBool v fun b => K b H, fun hk _ h => by
  obtain ⟨b, rfl, h'⟩ := dBool_elim h; cases b <;> exact hk _ _ h'⟩
def bool' (v : Value) : Sp Bool := ⟨fun K _ H => dBl v fun b => K b H, fun hk _ h => by
  obtain ⟨b, rfl, h'⟩ := dBl_elim h; exact hk _ _ h'⟩
def str (v : Value) : Sp ByteArray := ⟨fun K _ H => dStr v fun s => K s H, fun hk _ h => by obtain ⟨s, rfl, h'⟩ := dStr_elim h; exact hk _ _ h'⟩
def ptr (v : Value) : Sp (Option Addr) := ⟨fun K _ H => dPtr v fun s => K s H, fun hk _ h => by obtain ⟨s, rfl, h'⟩ := dPtr_elim h; exact hk _ _ h'⟩
def slc (v : Value) : Sp (Option Addr × Nat × Nat) := ⟨fun K _ H => dSl v fun a n c => K (a, n, c) H, fun hk _ h => by obtain ⟨a, n, c, rfl, h'⟩ := dSl_elim h; exact hk _ _ h'⟩
def mapv (v : Value) : Sp (Option Nat) := ⟨fun K _ H => dMap v fun s => K s H, fun hk _ h => by obtain ⟨s, rfl, h'⟩ := dMap_elim h; exact hk _ _ h'⟩
def fn (v : Value) : Sp (FuncId × Array Value × Array Value) := ⟨fun K _ H => dFn v fun g a b => K (g, a, b) H, fun hk _ h => by obtain ⟨g, a, b, rfl, h'⟩ := dFn_elim h; exact hk _ _ h'⟩
def wr (kd : IntKind) (n : Int) : Sp Int := ⟨fun K _ H => E.wr kd n fun m => K m H, fun hk _ h => hk _ _ h⟩
def nm (n : Int) : Sp Int := ⟨fun K _ H => E.nm n fun m => K m H, fun hk _ h => hk _ _ h⟩
def opt (o : Option Value) : Sp Value := ⟨fun K _ H => oV o fun v => K v H, fun hk _ h => by cases o <;> first | exact h.elim | exact hk _ _ h⟩
def agg (v : Value) : Sp (Array Value) := ⟨fun K _ H => dAgg v fun s => K s H, fun hk _ h => by obtain ⟨s, rfl, h'⟩ := dAgg_elim h; exact hk _ _ h'⟩
def aggN (n : Nat) (v : Value) : Sp (List Value) := ⟨fun K _ H => dA n v (cur n fun l => K l H), fun hk _ h => by
  obtain ⟨l, rfl, h1, h2⟩ := dA_elim h
  exact apl_cur_mk (by simpa using h1) (by simpa using hk _ _ h2)⟩
def tupN (n : Nat) (v : Value) : Sp (List Value) := ⟨fun K _ H => dT n v (cur n fun l => K l H), fun hk _ h => by
  obtain ⟨l, rfl, h1, h2⟩ := dT_elim h
  exact apl_cur_mk (by simpa using h1) (by simpa using hk _ _ h2)⟩
def panic {α : Type} (v : Value) : Sp α := ⟨fun _ E H => E [{ v, recovered := false }] H, fun _ he h => he _ _ h⟩
def retK (K : Value → Heap → Prop) (E : List PanicEntry → Heap → Prop) (e : Ending) (H : Heap) : Prop :=
  match e with
  | .returned v => K v H
  | .panicked c => E c H
  | .outgrown => False
def call (P : Program) (f : FuncId) (args : Array Value) : Sp Value := ⟨fun K E H => HCalls P f args H (retK K E), fun hk he h => h.mono fun e H' h' => by
  cases e <;> first | exact h'.elim | exact hk _ _ h' | exact he _ _ h'⟩
end Sp

/-- A value of a type, taken apart so far as its type tells. -/
def destr1 (P : Program) (t : TypeId) (v : Value) : Sp Value :=
  match P.underlying t with
  | some (.int kd) => (Sp.int kd v).bind fun n => .pure (.int kd n)
  | some .bool => (Sp.bool' v).bind fun b => .pure (.bool b)
  | some .string => (Sp.str v).bind fun s => .pure (.string s)
  | some (.pointer _) => (Sp.ptr v).bind fun a => .pure (.pointer a)
  | some (.slice _) => (Sp.slc v).bind fun a => .pure (.slice a.1 a.2.1 a.2.2)
  | some (.map _ _) => (Sp.mapv v).bind fun a => .pure (.map a)
  | some (.struct _) =>
    match P.info? t with
    | some i => match Nat.ble i.size 16 with
      | true => (Sp.aggN i.size v).bind fun l => .pure (.agg l.toArray)
      | false => (Sp.agg v).bind fun a => .pure (.agg a)
    | none => .fail
  | _ => .pure v
/-- as a part of a tuple: a bool is not split before it is taken out -/
def destr2 (P : Program) (t : TypeId) (v : Value) : Sp Value :=
  match P.underlying t with
  | some .bool => (Sp.bool' v).bind fun b => .pure (.bool b)
  | _ => destr1 P t v
def destrs (P : Program) : List TypeId → List Value → Sp (List Value)
  | [], [] => .pure []
  | t :: ts, v :: vs => (destr2 P t v).bind fun u => (destrs P ts vs).bind fun us => .pure (u :: us)
  | _, _ => .fail
def destr (P : Program) (t : TypeId) (v : Value) : Sp Value :=
  match P.underlying t with
  | some (.tuple ts) =>
    match ts.toList with
    | [] => .pure v
    | l => (Sp.tupN l.length v).bind fun vs => (destrs P l vs).bind fun us => .pure (.tuple us.toArray)
  | _ => destr1 P t v

theorem destr1_elim {P : Program} {t : TypeId} {v : Value} {K : Value → Heap → Prop} {E : List PanicEntry → Heap → Prop} {H : Heap} (h : (destr1 P t v).run K E H) : K v H := by
  unfold destr1 at h
  split at h
  · obtain ⟨n, rfl, h'⟩ := dInt_elim h; exact h'
  · obtain ⟨n, rfl, h'⟩ := dBl_elim (k := fun b => K (.bool b) H) h; exact h'
  · obtain ⟨n, rfl, h'⟩ := dStr_elim h; exact h'
  · obtain ⟨n, rfl, h'⟩ := dPtr_elim h; exact h'
  · obtain ⟨a, n, c, rfl, h'⟩ := dSl_elim h; exact h'
  · obtain ⟨n, rfl, h'⟩ := dMap_elim h; exact h'
  · split at h
    · split at h
      · obtain ⟨l, rfl, _, h'⟩ := dA_elim h; exact h'
      · obtain ⟨n, rfl, h'⟩ := dAgg_elim h; exact h'
    · exact h.elim
  · exact h
theorem destr2_elim {P : Program} {t : TypeId} {v : Value} {K : Value → Heap → Prop} {E : List PanicEntry → Heap → Prop} {H : Heap} (h : (destr2 P t v).run K E H) : K v H := by
  unfold destr2 at h
  split at h
  · obtain ⟨n, rfl, h'⟩ := dBl_elim (k := fun b => K (.bool b) H) h; exact h'
  · exact destr1_elim h
theorem destrs_elim {P : Program} : ∀ {ts : List TypeId} {vs : List Value} {K : List Value → Heap → Prop} {E : List PanicEntry → Heap → Prop} {H : Heap}, (destrs P ts vs).run K E H → K vs H
  | [], [], _, _, _, h => h
  | [], _ :: _, _, _, _, h => h.elim
  | _ :: _, [], _, _, _, h => h.elim
  | t :: ts, v :: vs, K, E, H, h => by
    have h1 := destr2_elim (P := P) (t := t) (v := v) (K := fun u H => ((destrs P ts vs).bind fun us => .pure (u :: us)).run K E H) (E := E) (H := H) h
    exact destrs_elim (K := fun us H => K (v :: us) H) h1
theorem destr_elim {P : Program} {t : TypeId} {v : Value} {K : Value → Heap → Prop} {E : List PanicEntry → Heap → Prop} {H : Heap} (h : (destr P t v).run K E H) : K v H := by
  unfold destr at h
  split at h
  · split at h
    · exact h
    · obtain ⟨l, rfl, _, h⟩ := dT_elim h
      exact destrs_elim (K := fun us H => K (.tuple us.toArray) H) h
  · exact destr1_elim h

end Go.Proofs.YtngploohhmfaiaaGreat.E
