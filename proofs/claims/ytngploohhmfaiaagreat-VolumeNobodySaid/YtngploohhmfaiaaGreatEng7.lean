/- The engine, part 7: a statement that leaves its order open: what only reads is taken first, and is looked at again behind whatever might come before it. -/
import Derived.Test.YtngploohhmfaiaaGreatEng6
namespace Go.Proofs.YtngploohhmfaiaaGreat.E
open Go
set_option linter.unusedVariables false

/-! ### which operations may be taken first -/
def takeS (P : Program) (ev : Operand → Value) (o : Oper) : Option (Bool × Sp Value) :=
  match o.op with
  | .move x => some (false, moveS (ev x))
  | .assign x => some (false, .pure (ev x))
  | .pick c a b => some (false, pickS (ev c) (ev a) (ev b))
  | .build t parts => some (false, buildS P t (parts.toList.map fun p => (p.1, ev p.2)))
  | .load t a => some (true, (addrS (ev a)).bind fun b => loadS P t b)
  | .nilCheck x => some (false, nilS (ev x))
  | .binOp op t x y _ => match plainOps (ev x) (ev y) with
    | true => some (false, binS P op t x y (ev x) (ev y))
    | false => none
  | .unOp op _ x => match plainUn op (ev x) with
    | true => some (false, unS P op (ev x))
    | false => none
  | .convert s d x => match plainConv P s d with
    | true => some (false, convS P s d (ev x))
    | false => none
  | .makeInterface t x => some (false, ifaceS P t (ev x))
  | .makeFunc fn first cap => some (false, .pure (.func fn (first.toList.map ev).toArray (cap.toList.map ev).toArray))
  | .slice t x lo hi mx => match mx, hi with
    | some _, none => none
    | _, _ => some (false, sliceS P t (ev x) (lo.map ev) (hi.map ev) (mx.map ev))
  | .fieldAddr s x f => some (false, fieldS P s (ev x) f)
  | .field s x f => some (false, fieldV P s (ev x) f)
  | .indexAddr t x i => some (false, idxA P t (ev x) (ev i))
  | .index t x i => some (false, idxV P t (ev x) (ev i))
  | .extract t i => some (false, (extS (ev t) i).bind fun v => destr P o.type v)
  | _ => none

/-- what is taken gives its value in every world (of this heap, where it reads) -/
def DoesQ (b : Bool) (P : Program) (s : Sem Next) (x : Sp Value) : Prop :=
  ∀ (K : Value → Heap → Prop) (E : List PanicEntry → Heap → Prop) (H : Heap), x.run K E H → ∃ v, K v H ∧ ∀ w : World, (b = true → w.heap = H) → s.run P w = .ok (.value v) w
theorem Gq.doesQ {b : Bool} {P : Program} {s : Sem Value} {x : Sp Value} (h : Gq b P s x) : DoesQ b P (do Pure.pure (Next.value (← s))) x := fun K E H hx => by
  obtain ⟨v, hv, hr⟩ := h K E H hx
  exact ⟨v, hv, fun w hw => by rw [Sem.run_bind, hr w hw]; rfl⟩
theorem doesQ_pure {b : Bool} {P : Program} (v : Value) : DoesQ b P (Pure.pure (.value v)) (.pure v) := fun K E H hx => ⟨v, hx, fun _ _ => rfl⟩
theorem doesQ_nil {b : Bool} {P : Program} {ev : Operand → Value} {x : Operand} {d : Option Tmp} {t : TypeId} {p : String} {af : Array Edge} {g : Option (Nat × Bool)} : DoesQ b P (execOp ev ⟨d, .nilCheck x, t, p, af, g⟩) (nilS (ev x)) := by
  unfold nilS
  split
  · rename_i ao hv
    intro K E H hx
    obtain ⟨a, rfl, hx⟩ := nz_elim (k := fun a => K (.pointer (some a)) H) hx
    have : execOp ev ⟨d, .nilCheck x, t, p, af, g⟩ = Pure.pure (.value (.pointer (some a))) := by simp only [execOp, hv]
    rw [this]; exact ⟨_, hx, fun _ _ => rfl⟩
  · rename_i f a b hv
    intro K E H hx
    have : execOp ev ⟨d, .nilCheck x, t, p, af, g⟩ = Pure.pure (.value (.func (.func f) a b)) := by simp only [execOp, hv]
    rw [this]; exact ⟨_, hx, fun _ _ => rfl⟩
  · rename_i f a b hv
    intro K E H hx
    have : execOp ev ⟨d, .nilCheck x, t, p, af, g⟩ = Pure.pure (.value (.func (.yield f) a b)) := by simp only [execOp, hv]
    rw [this]; exact ⟨_, hx, fun _ _ => rfl⟩
  · rename_i t' v' hv
    intro K E H hx
    have : execOp ev ⟨d, .nilCheck x, t, p, af, g⟩ = Pure.pure (.value (.iface t' v')) := by simp only [execOp, hv]
    rw [this]; exact ⟨_, hx, fun _ _ => rfl⟩
  · exact fun _ _ _ h => h.elim
theorem doesQ_pick {b : Bool} (P : Program) (c x y : Value) : DoesQ b P (do Pure.pure (Next.value (if ← asBool c then x else y))) (pickS c x y) := fun K E H hx => by
  obtain ⟨t, rfl, h2⟩ := pickS_elim (K := K) (E := E) hx
  exact ⟨_, h2, fun _ _ => rfl⟩

theorem take_does {P : Program} {ev : Operand → Value} {o : Oper} {b : Bool} {x : Sp Value} (h : takeS P ev o = some (b, x)) : DoesQ b P (execOp ev o) x := by
  obtain ⟨d, op, t, p, af, g⟩ := o
  cases op <;> first | (cases h; done) | skip
  case move x => cases h; exact (gives_move P _).doesQ
  case assign x => cases h; exact doesQ_pure _
  case pick c a b => cases h; exact doesQ_pick P _ _ _
  case build t parts =>
    cases h
    have e : (parts.map fun p : Nat × Operand => (p.1, ev p.2)).toList = parts.toList.map fun p => (p.1, ev p.2) := by simp
    have h := gives_build (q := false) P t (parts.map fun p : Nat × Operand => (p.1, ev p.2))
    rw [e] at h
    exact h.doesQ
  case load t a => cases h; exact (Gq.bind (gives_sure P _) fun b => gives_load P _ b).doesQ
  case nilCheck x => cases h; exact doesQ_nil
  case binOp op t x y t' =>
    unfold takeS at h; simp only at h
    split at h
    · rename_i hp; cases h; exact (gives_binq (q := false) P _ _ _ _ _ _ hp).doesQ
    · cases h
  case unOp op t x =>
    unfold takeS at h; simp only at h
    split at h
    · rename_i hp; cases h; exact (gives_unq (q := false) P _ _ hp).doesQ
    · cases h
  case convert s d' x =>
    unfold takeS at h; simp only at h
    split at h
    · rename_i hp; cases h; exact (gives_convq (q := false) P _ _ _ hp).doesQ
    · cases h
  case makeInterface t x => cases h; exact (gives_iface (q := false) P _ _).doesQ
  case makeFunc fn first cap =>
    cases h
    have hh : Gq false P (Instr.makeFunc fn (first.map ev) (cap.map ev)) (.pure (.func fn (first.toList.map ev).toArray (cap.toList.map ev).toArray)) := by
      have e1 : (first.toList.map ev).toArray = first.map ev := Array.toList_inj.1 (by simp)
      have e2 : (cap.toList.map ev).toArray = cap.map ev := Array.toList_inj.1 (by simp)
      rw [e1, e2]; exact Gq.pure _
    exact hh.doesQ
  case slice t x lo hi mx =>
    cases mx with
    | none => cases h; exact (gives_slice (q := false) P t (ev x) (lo.map ev) (hi.map ev) none (by simp)).doesQ
    | some m =>
      cases hi with
      | none => cases h
      | some hh => cases h; exact (gives_slice (q := false) P t (ev x) (lo.map ev) (some (ev hh)) (some (ev m)) (by simp)).doesQ
  case fieldAddr e x f => cases h; exact (gives_field (q := false) P _ _ _).doesQ
  case field e x f => cases h; exact (gives_fieldV (q := false) P _ _ _).doesQ
  case indexAddr e x i => cases h; exact (gives_idxA (q := false) P _ _ _).doesQ
  case index e x i => cases h; exact (gives_idxV (q := false) P _ _ _).doesQ
  case extract e i => cases h; exact (Gq.destr (gives_ext (q := false) P _ _)).doesQ

/-! ### a bool that a later operation of the region asks: split at once -/
def isG (ops : Array Oper) (o : Oper) : Bool := match o.dst with
  | none => false
  | some d => ops.toList.any fun o' => match o'.guard with
    | none => false
    | some (j, _) => match ops.toList[j]? with
      | none => false
      | some oj => match oj.dst with
        | none => false
        | some d' => Nat.beq d d'
def splitG (f : Bool) (v : Value) : Sp Value := match f with
  | false => .pure v
  | true => match v with
    | .bool b => (Sp.split b).bind fun c => .pure (.bool c)
    | v => .pure v
theorem splitG_elim {f : Bool} {v : Value} {K : Value → Heap → Prop} {E : List PanicEntry → Heap → Prop} {H : Heap} (h : (splitG f v).run K E H) : K v H := by
  cases f with
  | false => exact h
  | true =>
    cases v <;> first | exact h | skip
    rename_i b
    cases b <;> exact h
def spG (ops : Array Oper) (o : Oper) (x : Sp Value) : Sp Value := x.bind fun v => splitG (isG ops o) v
theorem spG_elim {ops : Array Oper} {o : Oper} {x : Sp Value} {K : Value → Heap → Prop} {E : List PanicEntry → Heap → Prop} {H : Heap} (h : (spG ops o x).run K E H) : x.run K E H :=
  x.mono (fun _ _ h' => splitG_elim h') (fun _ _ h' => h') h

/-! ### what must have come before -/
inductive TP (ops : Array Oper) : Nat → Nat → Prop
  | one {i j : Nat} {o : Oper} {e : Edge} : ops[j]? = some o → e ∈ o.after → Region.binds .any e = true → e.on = i → TP ops i j
  | more {i j : Nat} {o : Oper} {e : Edge} : ops[j]? = some o → e ∈ o.after → Region.binds .any e = true → TP ops i e.on → TP ops i j
def maskOf (acc : List Nat) : List Edge → Nat
  | [] => 0
  | e :: r => match Region.binds .any e with
    | true => maskOf acc r ||| (2 ^ e.on ||| acc.getD e.on 0)
    | false => maskOf acc r
def masksGo : List Oper → List Nat → List Nat
  | [], acc => acc
  | o :: r, acc => masksGo r (acc ++ [maskOf acc o.after.toList])
def masks (ops : Array Oper) : List Nat := masksGo ops.toList []
def sc (ms : List Nat) (i j : Nat) : Bool := (ms.getD j 0).testBit i
theorem maskOf_spec (acc : List Nat) (i : Nat) : ∀ es : List Edge, (maskOf acc es).testBit i = true → ∃ e ∈ es, Region.binds .any e = true ∧ (e.on = i ∨ (acc.getD e.on 0).testBit i = true)
  | [], h => by simp [maskOf] at h
  | e :: r, h => by
    unfold maskOf at h
    cases hb : Region.binds .any e with
    | false =>
      rw [hb] at h
      obtain ⟨e', he, h'⟩ := maskOf_spec acc i r h
      exact ⟨e', List.mem_cons_of_mem _ he, h'⟩
    | true =>
      rw [hb] at h
      simp only [Nat.testBit_or, Bool.or_eq_true, Nat.testBit_two_pow, decide_eq_true_eq] at h
      rcases h with h | h | h
      · obtain ⟨e', he, h'⟩ := maskOf_spec acc i r h
        exact ⟨e', List.mem_cons_of_mem _ he, h'⟩
      · exact ⟨e, List.mem_cons_self, hb, .inl h⟩
      · exact ⟨e, List.mem_cons_self, hb, .inr h⟩
theorem masksGo_spec (ops : Array Oper) : ∀ (l : List Oper) (acc : List Nat), (∀ k o, l[k]? = some o → ops[acc.length + k]? = some o) →
    (∀ i j, (acc.getD j 0).testBit i = true → TP ops i j) → ∀ i j, ((masksGo l acc).getD j 0).testBit i = true → TP ops i j
  | [], acc, _, h => h
  | o :: r, acc, hl, h => by
    unfold masksGo
    refine masksGo_spec ops r _ (fun k o' hk => ?_) (fun i j hij => ?_)
    · have := hl (k + 1) o' (by simpa using hk)
      simpa [Nat.add_assoc, Nat.add_comm 1 k] using this
    · by_cases hj : j < acc.length
      · rw [List.getD_eq_getElem?_getD, List.getElem?_append_left hj, ← List.getD_eq_getElem?_getD] at hij; exact h i j hij
      · by_cases hj2 : j = acc.length
        · subst hj2
          have hij : (maskOf acc o.after.toList).testBit i = true := by simpa using hij
          obtain ⟨e, he, hb, h'⟩ := maskOf_spec acc i _ hij
          have ho : ops[acc.length]? = some o := by simpa using hl 0 o (by simp)
          rcases h' with h' | h'
          · exact .one ho (by simpa using he) hb h'
          · exact .more ho (by simpa using he) hb (h i _ h')
        · have hn : (acc ++ [maskOf acc o.after.toList]).getD j 0 = 0 := by
            rw [List.getD_eq_getElem?_getD, List.getElem?_eq_none (by simp; omega)]; rfl
          rw [hn] at hij; simp at hij
theorem masks_spec (ops : Array Oper) (i j : Nat) (h : sc (masks ops) i j = true) : TP ops i j :=
  masksGo_spec ops ops.toList [] (fun k o hk => by simpa using hk) (fun i j h => by simp at h) i j h
/-- whatever is listed, what must come before it is listed -/
def Down (ops : Array Oper) (listed : Array Bool) : Prop := ∀ j o, ops[j]? = some o → listed.getD j false = true → ∀ e ∈ o.after, Region.binds .any e = true → listed.getD e.on false = true
theorem down_tp {ops : Array Oper} {listed : Array Bool} (hd : Down ops listed) {i j : Nat} (h : TP ops i j) : ∀ o, ops[j]? = some o → (∀ e ∈ o.after, Region.binds .any e = true → listed.getD e.on false = true) → listed.getD i false = true := by
  induction h with
  | one ho he hb hi => intro o' ho' hall; rw [ho] at ho'; cases ho'; rw [← hi]; exact hall _ he hb
  | @more j o e ho he hb htp ih =>
    intro o' ho' hall
    rw [ho] at ho'; cases ho'
    have h1 := hall e he hb
    cases hk : ops[e.on]? with
    | none =>
      cases htp with
      | one h2 => rw [hk] at h2; cases h2
      | more h2 => rw [hk] at h2; cases h2
    | some ok => exact ih ok hk (hd e.on ok hk h1)
end Go.Proofs.YtngploohhmfaiaaGreat.E
