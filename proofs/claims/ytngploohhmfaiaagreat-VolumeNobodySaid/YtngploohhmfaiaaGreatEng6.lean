/- The engine, part 6: all operations under one name; the code of a function; a function's contract out of its code. -/
import Derived.Test.YtngploohhmfaiaaGreatEng5
import Derived.Orders
import Derived.Defers
import Derived.Laws.Externs
namespace Go.Proofs.YtngploohhmfaiaaGreat.E
open Go
set_option linter.unusedVariables false

def lenS (P : Program) (ats : Array TypeId) (t : TypeId) (args : Array Value) : Sp Value :=
  match (ats.toList.head?).bind P.underlying, args.toList with
  | some .string, .string s :: _ => .pure (.int .i64 (s.size : Int))
  | some (.slice _), .slice _ n _ :: _ => .pure (.int .i64 (n : Int))
  | _, _ => (Sp.sem P (Builtin.len_ ats t args)).bind fun v => destr P t v
theorem gives_len (P : Program) (ats : Array TypeId) (t : TypeId) (args : Array Value) : Gives P (Builtin.len_ ats t args) (lenS P ats t args) := by
  unfold lenS
  split
  · rename_i s r h1 h2
    refine Gives.of_run fun w => ?_
    obtain ⟨ats⟩ := ats
    obtain ⟨args⟩ := args
    simp only at h1 h2
    subst h2
    cases ats with
    | nil => simp at h1
    | cons u us =>
      simp at h1
      simp [Builtin.len_, run_under h1, goInt]
  · rename_i e n r h1 h2
    refine Gives.of_run fun w => ?_
    obtain ⟨ats⟩ := ats
    obtain ⟨args⟩ := args
    simp only at h1 h2
    subst h2
    cases ats with
    | nil => simp at h1
    | cons u us =>
      simp at h1
      simp [Builtin.len_, run_under h1, goInt]
  · exact Gives.destr (Gives.sem _)

def panicS (v : Value) : Sp Value := match v with | .iface t x => Sp.panic (.iface t x) | _ => .fail
theorem gives_panic (P : Program) (v : Value) : Gives P (Instr.panic v) (panicS v) := by
  unfold panicS
  split
  · exact fun K E w hx => ⟨hx, Like.refl w⟩
  · exact .fail _

def bltS (P : Program) (b : Builtin) (ats : Array TypeId) (t : TypeId) (args : Array Value) : Sp Value :=
  match b with
  | .len => lenS P ats t args
  | .append => (Sp.sem P (Builtin.append_ ats t args)).bind fun v => destr P t v
  | .cap => (Sp.sem P (Builtin.cap_ ats t args)).bind fun v => destr P t v
  | .clear => (Sp.sem P (Builtin.clear_ ats t args)).bind fun v => destr P t v
  | .copy => (Sp.sem P (Builtin.copy_ ats t args)).bind fun v => destr P t v
  | .delete => (Sp.sem P (Builtin.delete_ ats t args)).bind fun v => destr P t v
  | .max => (Sp.sem P (Builtin.max_ ats t args)).bind fun v => destr P t v
  | .min => (Sp.sem P (Builtin.min_ ats t args)).bind fun v => destr P t v
  | .panic => panicS (args.getD 0 .nilIface)
  | _ => .fail
theorem does_blt (P : Program) (b : Builtin) (ats : Array TypeId) (t : TypeId) (cs : Array Bool) (args : Array Value) : Does P (builtin b ats t cs args) (bltS P b ats t args) := by
  cases b <;> first
    | exact fun _ _ _ h => h.elim
    | exact (gives_len P ats t args).does
    | exact (gives_panic P _).does
    | exact (Gives.destr (Gives.sem _)).does

/-- a function with a text of its own -/
def plainFn (P : Program) (f : FuncId) : Bool :=
  match P.funcs[f]? with
  | some fn => match fn.name == "runtime.NumGoroutine" with
    | true => false
    | false => fn.body.isSome
  | none => false
def argsOf (first : Array Value) (xs : List Value) (cap : Array Value) : Array Value := (first.toList ++ (xs ++ cap.toList)).toArray
/-- a function without a text -/
def isExt (P : Program) (f : FuncId) : Bool :=
  match P.funcs[f]? with
  | some fn => match fn.body with
    | some _ => false
    | none => true
  | none => false
/-- what the model's entry of such a function gives -/
def entS (f : FuncId) (args : Array Value) : Sem Value := do match ← callFunc f args with
  | .value v => pure v
  | _ => stuck "entry"
def callF (P : Program) (ev : Operand → Value) (f : Operand) (as : Array Operand) (t : TypeId) : Sp Value :=
  (Sp.fn (ev f)).bind fun x => (Sp.guard (plainFn P x.1)).bind fun _ => (Sp.call P x.1 (argsOf x.2.1 (as.toList.map ev) x.2.2)).bind fun v => destr P t v
def callS (P : Program) (ev : Operand → Value) (c : Call) (t : TypeId) : Sp Value :=
  match c.callee with
  | .builtin b => bltS P b c.argTypes t (c.args.toList.map ev).toArray
  | .value (.func f) => match isExt P f with
    | true => (Sp.fn (ev (.func f))).bind fun x => (Sp.sem P (entS x.1 (argsOf x.2.1 (c.args.toList.map ev) x.2.2))).bind fun v => destr P t v
    | false => callF P ev (.func f) c.args t
  | .value f => callF P ev f c.args t
  | .invoke _ _ => .fail
theorem does_callF (P : Program) (ev : Operand → Value) (f : Operand) (args : Array Operand) (t : TypeId) : Does P (do let d ← Deferred.ofValue (ev f) (args.map ev); invoke d.target d.args) (callF P ev f args t) := by
  unfold callF
  generalize ev f = vf
  intro K E w hx
  obtain ⟨g, first, cap, rfl, hx⟩ := dFn_elim hx
  obtain ⟨hp, hx⟩ := gB_elim hx
  have hp : plainFn P g = true := hp
  have hx : HCalls P g (argsOf first (args.toList.map ev) cap) w.heap (Sp.retK (fun v H' => (destr P t v).run K E H') E) := hx
  have hx2 : HCalls P g (argsOf first (args.toList.map ev) cap) w.heap (Sp.retK K E) := hx.mono fun e H' h' => by
    cases e <;> first | exact h'.elim | exact destr_elim h' | exact h'
  have ea : argsOf first (args.toList.map ev) cap = first ++ args.map ev ++ cap := by
    unfold argsOf; apply Array.toList_inj.1; simp
  rw [ea] at hx2
  unfold plainFn at hp
  cases hfn : P.funcs[g]? with
  | none => rw [hfn] at hp; cases hp
  | some fn =>
    rw [hfn] at hp
    simp only at hp
    cases hn : (fn.name == "runtime.NumGoroutine") with
    | true => rw [hn] at hp; cases hp
    | false =>
      rw [hn] at hp
      simp only at hp
      have hb : fn.body.isNone = false := by cases hfb : fn.body <;> simp_all
      have hrun : (Sem.run P (do let d ← (Deferred.ofValue (.func (.func g) first cap) (args.map ev)); invoke d.target d.args) w) = .ok (.enter g (first ++ args.map ev ++ cap)) w := by
        have hn' : ¬ (fn.name = "runtime.NumGoroutine") := by simpa using hn
        have hb' : ¬ (fn.body = none) := by intro h; rw [h] at hb; cases hb
        simp [Deferred.ofValue, invoke, callFunc, hfn, hn', hb']
      rw [hrun]
      exact ⟨hx2, Like.refl w⟩

theorem run_ext {P : Program} {f : FuncId} (args : Array Value) (K : Value → Heap → Prop) (E : List PanicEntry → Heap → Prop) (w : World) (hx : Outcome K (fun v H' => E [{ v, recovered := false }] H') w ((entS f args).run P w)) :
    Outcome (nextK P K E) (fun v H' => E [{ v, recovered := false }] H') w ((callFunc f args).run P w) := by
  unfold entS at hx
  rw [Sem.run_bind] at hx
  cases hr : (callFunc f args).run P w with
  | ok v w' => rw [hr] at hx; cases v <;> first | exact hx.elim | exact hx
  | halt x w' => rw [hr] at hx; cases x <;> first | exact hx.elim | exact hx
theorem does_call (P : Program) (ev : Operand → Value) (c : Call) (t : TypeId) : Does P (do let d ← resolve ev c t; invoke d.target d.args) (callS P ev c t) := by
  obtain ⟨callee, args, ats⟩ := c
  unfold callS resolve
  cases callee with
  | builtin b =>
    have e : (args.toList.map ev).toArray = args.map ev := Array.toList_inj.1 (by simp)
    show Does P (builtin b ats t _ (args.map ev)) (bltS P b ats t (args.toList.map ev).toArray)
    rw [e]
    exact does_blt P b ats t _ _
  | invoke r n => exact fun _ _ _ h => h.elim
  | value f =>
    cases f with
    | func g =>
      simp only
      cases hx : isExt P g with
      | false => exact does_callF P ev (.func g) args t
      | true =>
        show Does P (do let d ← Deferred.ofValue (ev (.func g)) (args.map ev); invoke d.target d.args) ((Sp.fn (ev (.func g))).bind fun x => (Sp.sem P (entS x.1 (argsOf x.2.1 (args.toList.map ev) x.2.2))).bind fun v => destr P t v)
        generalize ev (.func g) = vf
        intro K E w hk
        obtain ⟨g', first, cap, rfl, hk⟩ := dFn_elim hk
        have hk2 : semW P (entS g' (argsOf first (args.toList.map ev) cap)) E w.heap (fun v H' => (destr P t v).run K E H') := hk
        have ea : argsOf first (args.toList.map ev) cap = first ++ args.map ev ++ cap := by
          unfold argsOf; apply Array.toList_inj.1; simp
        rw [ea] at hk2
        have h3 := run_ext (first ++ args.map ev ++ cap) K E w ((hk2.run w rfl).mono (fun v H' h' => destr_elim h') (fun _ _ h' => h'))
        have e3 : Sem.run P (do let d ← (Deferred.ofValue (.func (.func g') first cap) (args.map ev)); invoke d.target d.args) w = (callFunc g' (first ++ args.map ev ++ cap)).run P w := by
          simp [Deferred.ofValue, invoke]
        rw [e3]
        exact h3
    | _ => exact does_callF P ev _ args t
def skipS {α : Type} (x : Sp α) : Sp Value := x.bind fun _ => .pure undef
def pickV (c : Bool) (a b : Value) : Option Value := match a, b with
  | .bool x, .bool y => some (.bool (cond c x y))
  | _, _ => none
theorem pickV_eq {c : Bool} {a b v : Value} (h : pickV c a b = some v) : v = if c = true then a else b := by
  unfold pickV at h
  split at h
  · cases h; cases c <;> rfl
  · cases h
def pickS (c a b : Value) : Sp Value := (Sp.bool' c).bind fun t => match pickV t a b with
  | some v => .pure v
  | none => (Sp.split t).bind fun t => match t with | true => .pure a | false => .pure b
theorem pickS_elim {c a b : Value} {K : Value → Heap → Prop} {E : List PanicEntry → Heap → Prop} {H : Heap} (h : (pickS c a b).run K E H) : ∃ t, c = .bool t ∧ K (if t = true then a else b) H := by
  obtain ⟨t, rfl, h⟩ := dBl_elim h
  refine ⟨t, rfl, ?_⟩
  cases hp : pickV t a b with
  | some v =>
    have h : (match pickV t a b with
      | some v => Sp.pure v
      | none => (Sp.split t).bind fun t => match t with | true => .pure a | false => .pure b : Sp Value).run K E H := h
    rw [hp] at h
    rw [← pickV_eq hp]; exact h
  | none =>
    have h : (match pickV t a b with
      | some v => Sp.pure v
      | none => (Sp.split t).bind fun t => match t with | true => .pure a | false => .pure b : Sp Value).run K E H := h
    rw [hp] at h
    cases t <;> exact h
def mapS (P : Program) (t : TypeId) (r : Option Value) : Sp Value :=
  match r with
  | none => (Sp.new (.map #[] 0)).bind fun b => .pure (.map (some b))
  | some _ => .fail
/-- what 'next' tells: it is over, or there is one more -/
def dNx (v : Value) (x : Prop) (k : Value → Value → Prop) : Prop := match v with
  | .tuple cs => match cs.toList with
    | [.bool false] => x
    | [.bool true, a, b] => k a b
    | _ => False
  | _ => False
theorem dNx_elim {v : Value} {K : Value → Prop} (h : dNx v (K (.tuple #[.bool false])) (fun a b => K (.tuple #[.bool true, a, b]))) : K v := by
  unfold dNx at h
  split at h
  · rename_i cs
    split at h
    · rename_i hc
      have : cs = #[.bool false] := Array.toList_inj.1 hc
      subst this; exact h
    · rename_i a b hc
      have : cs = #[.bool true, a, b] := Array.toList_inj.1 hc
      subst this; exact h
    · exact h.elim
  · exact h.elim
def nextD (v : Value) : Sp Value := ⟨fun K _ H => dNx v (K (.tuple #[.bool false]) H) (fun a b => K (.tuple #[.bool true, a, b]) H), fun hk _ h => by
  unfold dNx at h ⊢
  split at h
  · split at h <;> first | exact hk _ _ h | exact h.elim
  · exact h.elim⟩
theorem nextD_elim {v : Value} {K : Value → Heap → Prop} {E : List PanicEntry → Heap → Prop} {H : Heap} (h : (nextD v).run K E H) : K v H := dNx_elim (K := fun v => K v H) h
theorem tup2_elim {v : Value} {K : Value → Heap → Prop} {E : List PanicEntry → Heap → Prop} {H : Heap} (h : ((Sp.tupN 2 v).bind fun l => .pure (.tuple l.toArray)).run K E H) : K v H := by
  obtain ⟨l, rfl, _, h'⟩ := dT_elim h; exact h'
theorem Gives.thenV {P : Program} {s : Sem Value} {x : Sp Value} {f : Value → Sp Value} (h : Gives P s x) (hf : ∀ {v : Value} {K : Value → Heap → Prop} {E : List PanicEntry → Heap → Prop} {H : Heap}, (f v).run K E H → K v H) : Gives P s (x.bind f) :=
  fun K E w hx => h K E w (x.mono (fun _ _ h' => hf h') (fun _ _ h' => h') hx)
/-- ALL OPERATIONS. -/
def opS (P : Program) (ev : Operand → Value) (o : Oper) : Sp Value :=
  match o.op with
  | .move x => moveS (ev x)
  | .assign x => .pure (ev x)
  | .pick c a b => pickS (ev c) (ev a) (ev b)
  | .alloc t => allocS P t
  | .box t x => boxS P t (ev x)
  | .build t parts => buildS P t (parts.toList.map fun p => (p.1, ev p.2))
  | .buildSlice t n parts => buildSl P t n (parts.toList.map fun p => (p.1, ev p.2))
  | .load t a => (addrS (ev a)).bind fun b => loadS P t b
  | .store t a x => skipS ((addrS (ev a)).bind fun b => storeS P t b (ev x))
  | .nilCheck x => nilS (ev x)
  | .binOp op t x y _ => binS P op t x y (ev x) (ev y)
  | .unOp op _ x => unS P op (ev x)
  | .convert s d x => convS P s d (ev x)
  | .makeInterface t x => ifaceS P t (ev x)
  | .makeFunc fn first cap => .pure (.func fn (first.toList.map ev).toArray (cap.toList.map ev).toArray)
  | .makeMap t r => mapS P t (r.map ev)
  | .makeSlice t l c => makeS P t (ev l) (ev c)
  | .slice t x lo hi mx => match mx, hi with
    | some _, none => .fail
    | _, _ => sliceS P t (ev x) (lo.map ev) (hi.map ev) (mx.map ev)
  | .fieldAddr s x f => fieldS P s (ev x) f
  | .field s x f => fieldV P s (ev x) f
  | .indexAddr t x i => idxA P t (ev x) (ev i)
  | .index t x i => idxV P t (ev x) (ev i)
  | .lookup t x i ok => (Sp.sem P (Instr.lookup t (ev x) (ev i) ok)).bind fun v => destr P o.type v
  | .mapUpdate t m k x => skipS (Sp.sem P (Instr.mapUpdate t (ev m) (ev k) (ev x)))
  | .insert t m k x => skipS (Sp.sem P (Instr.mapUpdate t (ev m) (ev k) (ev x)))
  | .mapEntry t m k => (Sp.sem P (Instr.mapEntry t (ev m) (ev k))).bind fun v => destr P o.type v
  | .entryStore t m s x => skipS (Sp.sem P (Instr.entryStore t (ev m) (ev s) (ev x)))
  | .range t x => (Sp.sem P (Instr.range t (ev x))).bind fun v => destr P o.type v
  | .next it b => (Sp.sem P (Instr.next (ev it) b o.type)).bind fun v => nextD v
  | .entry it => (Sp.sem P (Instr.entry (ev it))).bind fun v => (Sp.tupN 2 v).bind fun l => .pure (.tuple l.toArray)
  | .typeAssert x t u ok => (Sp.sem P (Instr.typeAssert (ev x) t u ok)).bind fun v => destr P o.type v
  | .extract t i => (extS (ev t) i).bind fun v => destr P o.type v
  | .call c => callS P ev c o.type
  | .panic x => panicS (ev x)
  | _ => .fail

theorem gives_nil {P : Program} {ev : Operand → Value} {x : Operand} {d : Option Tmp} {t : TypeId} {p : String} {af : Array Edge} {g : Option (Nat × Bool)} : Does P (execOp ev ⟨d, .nilCheck x, t, p, af, g⟩) (nilS (ev x)) := by
  unfold nilS
  split
  · rename_i ao hv
    intro K E w hx
    obtain ⟨a, rfl, hx⟩ := nz_elim (k := fun a => K (.pointer (some a)) w.heap) hx
    have : execOp ev ⟨d, .nilCheck x, t, p, af, g⟩ = Pure.pure (.value (.pointer (some a))) := by simp only [execOp, hv]
    rw [this]; exact ⟨hx, Like.refl w⟩
  · rename_i f a b hv
    intro K E w hx
    have : execOp ev ⟨d, .nilCheck x, t, p, af, g⟩ = Pure.pure (.value (.func (.func f) a b)) := by simp only [execOp, hv]
    rw [this]; exact ⟨hx, Like.refl w⟩
  · rename_i f a b hv
    intro K E w hx
    have : execOp ev ⟨d, .nilCheck x, t, p, af, g⟩ = Pure.pure (.value (.func (.yield f) a b)) := by simp only [execOp, hv]
    rw [this]; exact ⟨hx, Like.refl w⟩
  · rename_i t' v' hv
    intro K E w hx
    have : execOp ev ⟨d, .nilCheck x, t, p, af, g⟩ = Pure.pure (.value (.iface t' v')) := by simp only [execOp, hv]
    rw [this]; exact ⟨hx, Like.refl w⟩
  · exact fun _ _ _ h => h.elim
theorem does_pick (P : Program) (c a b : Value) : Does P (do Pure.pure (Next.value (if ← asBool c then a else b))) (pickS c a b) := fun K E w hx => by
  obtain ⟨t, rfl, h2⟩ := pickS_elim (K := K) (E := E) hx
  exact ⟨h2, Like.refl w⟩
theorem gives_map (P : Program) (t : TypeId) (r : Option Value) : Gives P (Instr.makeMap t r) (mapS P t r) := by
  cases r with
  | none => exact fun K E w hx => ⟨hx, rfl, rfl, rfl⟩
  | some v => exact .fail _

theorem does_op (P : Program) (ev : Operand → Value) (o : Oper) : Does P (execOp ev o) (opS P ev o) := by
  obtain ⟨d, op, t, p, af, g⟩ := o
  cases op
  case move x => exact (gives_move (q := false) P _).gives.does
  case assign x => exact fun K E w hx => ⟨hx, Like.refl w⟩
  case pick c a b => exact does_pick P _ _ _
  case alloc e => exact (gives_alloc P _).does
  case box e v => exact (gives_box P _ _).does
  case load e a => exact (Gq.bind (gives_sure P _) fun b => gives_load P _ b).gives.does
  case store e a v => exact (Gives.bind (gives_sure (b := false) P _).gives fun b => gives_storeVar P _ b _).skips
  case nilCheck x => exact gives_nil
  case binOp op e x y e2 => exact (gives_bin P _ _ _ _ _ _).does
  case unOp op e x => exact (gives_un P _ _).does
  case convert e1 e2 x => exact (gives_conv P _ _ _).does
  case makeInterface e x => exact (gives_iface (q := false) P _ _).gives.does
  case makeMap e r => exact (gives_map P _ _).does
  case makeSlice e l c => exact (gives_make P _ _ _).does
  case fieldAddr e x f => exact (gives_field (q := false) P _ _ _).gives.does
  case field e x f => exact (gives_fieldV (q := false) P _ _ _).gives.does
  case indexAddr e x i => exact (gives_idxA (q := false) P _ _ _).gives.does
  case index e x i => exact (gives_idxV (q := false) P _ _ _).gives.does
  case extract e i => exact (Gq.destr (gives_ext (q := false) P _ _)).gives.does
  case call c => exact does_call P ev _ t
  case panic x => exact (gives_panic P _).does
  case lookup e x i ok => exact (Gives.destr (Gives.sem _)).does
  case mapEntry e m k => exact (Gives.destr (Gives.sem _)).does
  case range e x => exact (Gives.destr (Gives.sem _)).does
  case next it b => exact (Gives.thenV (Gives.sem _) nextD_elim).does
  case entry it => exact (Gives.thenV (Gives.sem _) tup2_elim).does
  case typeAssert x e1 e2 ok => exact (Gives.destr (Gives.sem _)).does
  case mapUpdate e m k v => exact (Gives.sem _).skips
  case insert e m k v => exact (Gives.sem _).skips
  case entryStore e m s v => exact (Gives.sem _).skips
  case ready g => exact fun _ _ _ h => h.elim
  case waits g => exact fun _ _ _ h => h.elim
  case sliceToArrayPointer e x => exact fun _ _ _ h => h.elim
  case makeChan e x => exact fun _ _ _ h => h.elim
  case go c => exact fun _ _ _ h => h.elim
  case defer c => exact fun _ _ _ h => h.elim
  case send c x => exact fun _ _ _ h => h.elim
  case recv e c ok => exact fun _ _ _ h => h.elim
  case select cs b => exact fun _ _ _ h => h.elim
  case build t parts =>
    have e : (parts.map fun p : Nat × Operand => (p.1, ev p.2)).toList = parts.toList.map fun p => (p.1, ev p.2) := by simp
    have h := gives_build (q := false) P t (parts.map fun p : Nat × Operand => (p.1, ev p.2))
    rw [e] at h
    exact h.gives.does
  case buildSlice t n parts =>
    have e : (parts.map fun p : Nat × Operand => (p.1, ev p.2)).toList = parts.toList.map fun p => (p.1, ev p.2) := by simp
    have h := gives_buildSl P t n (parts.map fun p : Nat × Operand => (p.1, ev p.2))
    rw [e] at h
    exact h.does
  case makeFunc fn first cap =>
    have h : Gives P (Instr.makeFunc fn (first.map ev) (cap.map ev)) (.pure (.func fn (first.toList.map ev).toArray (cap.toList.map ev).toArray)) := by
      have e1 : (first.toList.map ev).toArray = first.map ev := Array.toList_inj.1 (by simp)
      have e2 : (cap.toList.map ev).toArray = cap.map ev := Array.toList_inj.1 (by simp)
      rw [e1, e2]; exact .pure _
    exact h.does
  case slice t x lo hi mx =>
    cases mx with
    | none => exact (gives_slice (q := false) P t (ev x) (lo.map ev) (hi.map ev) none (by simp)).gives.does
    | some m =>
      cases hi with
      | none => exact fun _ _ _ h => h.elim
      | some h => exact (gives_slice (q := false) P t (ev x) (lo.map ev) (some (ev h)) (some (ev m)) (by simp)).gives.does
end Go.Proofs.YtngploohhmfaiaaGreat.E
