/- The engine, part 10: the code of a function: 'vc'. -/
import Derived.Test.YtngploohhmfaiaaGreatEng9
namespace Go.Proofs.YtngploohhmfaiaaGreat.E
open Go
set_option linter.unusedVariables false

/-- of a loop: the slots that are carried from round to round, with their types; the slots that a round writes and nobody reads before -/
structure Ann where
  live : List (Nat × TypeId)
  junk : List Nat
def Ann.slots (A : Ann) : List Nat := A.live.map (·.1) ++ A.junk
/-- the annotations of a code, laid as it is -/
inductive An where
  | leaf
  | node (j : Option Ann) (l r : An)
def An.j : An → Option Ann
  | .leaf => none
  | .node j _ _ => j
def An.l : An → An
  | .leaf => .leaf
  | .node _ l _ => l
def An.r : An → An
  | .leaf => .leaf
  | .node _ _ r => r
def readA (slots : List Nat) (a : Act) : List Value := slots.map fun i => a.tmps.getD i undef
def putsA : List Nat → List Value → Act → Act
  | i :: is, v :: vs, a => putsA is vs (a.put (some i) v)
  | _, _, a => a
/-- a value of a type -/
def allT1 (P : Program) (t : TypeId) (k : Value → Prop) : Prop :=
  match P.underlying t with
  | some (.int kd) => ∀ n : Int, k (.int kd n)
  | some .bool => ∀ b, k (.bool b)
  | some .string => ∀ s, k (.string s)
  | some (.pointer _) => ∀ a, k (.pointer a)
  | some (.slice _) => ∀ a n c, k (.slice a n c)
  | some (.map _ _) => ∀ r, k (.map r)
  | _ => ∀ v, k v
def okT1 (P : Program) (t : TypeId) (v : Value) (x : Prop) : Prop :=
  match P.underlying t with
  | some (.int kd) => dInt kd v fun _ => x
  | some .bool => match v with | .bool _ => x | _ => False
  | some .string => dStr v fun _ => x
  | some (.pointer _) => dPtr v fun _ => x
  | some (.slice _) => dSl v fun _ _ _ => x
  | some (.map _ _) => dMap v fun _ => x
  | _ => x
theorem okT1_elim {P : Program} {t : TypeId} {v : Value} {x : Prop} (h : okT1 P t v x) : x ∧ ∀ k : Value → Prop, allT1 P t k → k v := by
  unfold okT1 at h
  unfold allT1
  split at h
  · obtain ⟨n, rfl, hx⟩ := dInt_elim (k := fun _ => x) h
    rename_i hu
    exact ⟨hx, fun k hk => by simpa [hu] using hk n⟩
  · rename_i hu
    split at h
    · rename_i b
      exact ⟨h, fun k hk => hk b⟩
    · exact h.elim
  · obtain ⟨n, rfl, hx⟩ := dStr_elim (k := fun _ => x) h
    exact ⟨hx, fun k hk => hk n⟩
  · obtain ⟨n, rfl, hx⟩ := dPtr_elim (k := fun _ => x) h
    exact ⟨hx, fun k hk => hk n⟩
  · obtain ⟨a, n, c, rfl, hx⟩ := dSl_elim (k := fun _ _ _ => x) h
    exact ⟨hx, fun k hk => hk a n c⟩
  · obtain ⟨n, rfl, hx⟩ := dMap_elim (k := fun _ => x) h
    exact ⟨hx, fun k hk => hk n⟩
  · exact ⟨h, fun k hk => hk v⟩
theorem allT1_mono {P : Program} {t : TypeId} {k k' : Value → Prop} (hm : ∀ v, k v → k' v) (h : allT1 P t k) : allT1 P t k' := by
  revert h
  unfold allT1
  split <;> intro h <;> first
    | exact fun n => hm _ (h n)
    | exact fun a n c => hm _ (h a n c)
def allTs (P : Program) : List TypeId → (List Value → Prop) → Prop
  | [], k => k []
  | t :: ts, k => allT1 P t fun v => allTs P ts fun vs => k (v :: vs)
def okTs (P : Program) : List TypeId → List Value → Prop → Prop
  | [], [], x => x
  | t :: ts, v :: vs, x => okT1 P t v (okTs P ts vs x)
  | _, _, _ => False
theorem okTs_elim {P : Program} : ∀ {ts : List TypeId} {vs : List Value} {x : Prop}, okTs P ts vs x → x ∧ ∀ k : List Value → Prop, allTs P ts k → k vs
  | [], [], x, h => ⟨h, fun k hk => hk⟩
  | [], _ :: _, x, h => h.elim
  | _ :: _, [], x, h => h.elim
  | t :: ts, v :: vs, x, h => by
    obtain ⟨h1, h2⟩ := okT1_elim h
    obtain ⟨h3, h4⟩ := okTs_elim h1
    exact ⟨h3, fun k hk => h4 (fun vs => k (v :: vs)) (h2 _ hk)⟩
theorem okT1_less {P : Program} {t : TypeId} {v : Value} {x y : Prop} (hxy : x → y) (h : okT1 P t v x) : okT1 P t v y := by
  revert h
  unfold okT1
  split <;> intro h
  · obtain ⟨n, rfl, hx⟩ := dInt_elim (k := fun _ => x) h
    show gB _ _; rw [decide_eq_true rfl]; exact hxy hx
  · split at h
    · exact hxy h
    · exact h.elim
  · obtain ⟨n, rfl, hx⟩ := dStr_elim (k := fun _ => x) h; exact hxy hx
  · obtain ⟨n, rfl, hx⟩ := dPtr_elim (k := fun _ => x) h; exact hxy hx
  · obtain ⟨a, n, c, rfl, hx⟩ := dSl_elim (k := fun _ _ _ => x) h; exact hxy hx
  · obtain ⟨n, rfl, hx⟩ := dMap_elim (k := fun _ => x) h; exact hxy hx
  · exact hxy h
theorem okTs_less {P : Program} {x y : Prop} (hxy : x → y) : ∀ {ts : List TypeId} {vs : List Value}, okTs P ts vs x → okTs P ts vs y
  | [], [], h => hxy h
  | [], _ :: _, h => h.elim
  | _ :: _, [], h => h.elim
  | t :: ts, v :: vs, h => okT1_less (okTs_less hxy) h
theorem allTs_mono {P : Program} : ∀ {ts : List TypeId} {k k' : List Value → Prop}, (∀ vs, k vs → k' vs) → allTs P ts k → allTs P ts k'
  | [], k, k', hm, h => hm _ h
  | t :: ts, k, k', hm, h => allT1_mono (fun v hv => allTs_mono (fun vs => hm (v :: vs)) hv) h
def allV : Nat → (List Value → Prop) → Prop
  | 0, k => k []
  | n + 1, k => ∀ v : Value, allV n fun vs => k (v :: vs)
theorem allV_elim : ∀ {n : Nat} {k : List Value → Prop}, allV n k → ∀ vs : List Value, vs.length = n → k vs
  | 0, k, h, [], _ => h
  | 0, k, h, _ :: _, hl => by simp at hl
  | n + 1, k, h, [], hl => by simp at hl
  | n + 1, k, h, v :: vs, hl => allV_elim (h v) vs (by simpa using hl)
theorem allV_mono : ∀ {n : Nat} {k k' : List Value → Prop}, (∀ vs, k vs → k' vs) → allV n k → allV n k'
  | 0, k, k', hm, h => hm _ h
  | n + 1, k, k', hm, h => fun v => allV_mono (fun vs => hm (v :: vs)) (h v)

/-! ### the code -/
def thenV (next : Act → Heap → Prop) (Q : Exit → Act → Heap → Prop) : Exit → Act → Heap → Prop
  | .normal, a, H => next a H
  | e, a, H => Q e a H
def blockV (id : Nat) (Q : Exit → Act → Heap → Prop) : Exit → Act → Heap → Prop
  | .exit i, a, H => match Nat.beq i id with
    | true => Q .normal a H
    | false => Q (.exit i) a H
  | e, a, H => Q e a H
def opIn (M : List Nat) (o : Oper) : Bool :=
  (match o.dst with | some d => M.elem d | none => true) && (match o.op with | .defer _ => false | _ => true)
def slotsIn (M : List Nat) : Code → An → Bool
  | .region _ ops _, _ => ops.toList.all (opIn M)
  | .seq x y, an => (match an.j with | some A => A.slots.all (M.elem ·) | none => true) && (slotsIn M x an.l && slotsIn M y an.r)
  | .cond _ x y, an => slotsIn M x an.l && slotsIn M y an.r
  | .block _ b, an => slotsIn M b an.l
  | .loop b, an => (match an.j with | some A => A.slots.all (M.elem ·) | none => false) && slotsIn M b an.l
  | .skip, _ => true
  | .label _, _ => true
  | .exit _, _ => true
  | .ret, _ => true
  | _, _ => false
/-- what comes behind roads that meet -/
def joinK (P : Program) (A : Ann) (next : Act → Heap → Prop) (a : Act) : VFH A.live.length :=
  curH A.live.length fun vs H' => allV A.junk.length fun us => (destrs P (A.live.map (·.2)) vs).run (fun ws _ => next (putsA A.junk us (putsA (A.live.map (·.1)) ws a)) H') (fun _ _ => False) H'
def loopQ (P : Program) (A : Ann) (I : List Value → Heap → Prop) (μ : List Value → Heap → Nat) (n : Nat) (Q : Exit → Act → Heap → Prop) : Exit → Act → Heap → Prop
  | .normal, a, H => okTs P (A.live.map (·.2)) (readA (A.live.map (·.1)) a) (I (readA (A.live.map (·.1)) a) H ∧ μ (readA (A.live.map (·.1)) a) H < n)
  | e, a, H => Q e a H
def loopV (P : Program) (A : Ann) (body : (Exit → Act → Heap → Prop) → Act → Heap → Prop) (Q : Exit → Act → Heap → Prop) (a : Act) (H : Heap) : Prop :=
  ∃ (I : List Value → Heap → Prop) (μ : List Value → Heap → Nat), okTs P (A.live.map (·.2)) (readA (A.live.map (·.1)) a) (I (readA (A.live.map (·.1)) a) H) ∧
    allTs P (A.live.map (·.2)) fun vs => allV A.junk.length fun us => ∀ H', I vs H' → body (loopQ P A I μ (μ vs H') Q) (putsA A.junk us (putsA (A.live.map (·.1)) vs a)) H'
def vc (P : Program) : Code → An → (Exit → Act → Heap → Prop) → Act → Heap → Prop
  | .skip, _, Q, a, H => Q .normal a H
  | .label _, _, Q, a, H => Q .normal a H
  | .region _ ops draw, _, Q, a, H => match draw with
    | false => opsV P ops Q ops.toList a H
    | true => gB (P.follows .mixedOrders && Region.noSelect ops) (anyV P ops (masks ops) (Q .normal) ops.size (Array.replicate ops.size false) a [] H)
  | .seq x y, an, Q, a, H => match an.j with
    | none => vc P x an.l (thenV (fun a' H' => vc P y an.r Q a' H') Q) a H
    | some A => gB (slotsIn A.slots x an.l) (jn (joinK P A (fun a' H' => vc P y an.r Q a' H') a) fun k => vc P x an.l (thenV (fun a' H' => aplH A.live.length k (readA (A.live.map (·.1)) a') H') Q) a H)
  | .cond c x y, an, Q, a, H => match a.eval c with
    | .bool b => sB b (vc P x an.l Q a H) (vc P y an.r Q a H)
    | _ => False
  | .block id b, an, Q, a, H => vc P b an.l (blockV id Q) a H
  | .loop b, an, Q, a, H => match an.j with
    | none => False
    | some A => gB (slotsIn A.slots b an.l) (loopV P A (fun Q a H => vc P b an.l Q a H) Q a H)
  | .exit id, _, Q, a, H => Q (.exit id) a H
  | .ret, _, Q, a, H => Q .ret a H
  | _, _, _, _, _ => False

/-! ### what a piece of code does not touch -/
structure Same (M : List Nat) (a a' : Act) : Prop where
  defers : a'.defers = a.defers
  size : a'.tmps.size = a.tmps.size
  tmps : ∀ i, i ∉ M → a'.tmps[i]? = a.tmps[i]?
theorem Same.refl (M : List Nat) (a : Act) : Same M a a := ⟨rfl, rfl, fun _ _ => rfl⟩
theorem Same.put {M : List Nat} {a a' : Act} (h : Same M a a') {d : Option Tmp} (hd : ∀ i, d = some i → i ∈ M) (v : Value) : Same M a (a'.put d v) := by
  cases d with
  | none => exact h
  | some i =>
    refine ⟨h.defers, by simp [Act.put, h.size], fun j hj => ?_⟩
    have hne : i ≠ j := fun e => hj (e ▸ hd i rfl)
    simp [Act.put, Array.getElem?_setIfInBounds_ne hne, h.tmps j hj]
theorem Same.puts {M : List Nat} {a : Act} : ∀ {is : List Nat} {vs : List Value} {a' : Act}, Same M a a' → (∀ i ∈ is, i ∈ M) → Same M a (putsA is vs a')
  | [], _, _, h, _ => h
  | i :: is, [], _, h, _ => h
  | i :: is, v :: vs, a', h, hi => Same.puts (is := is) (vs := vs) (a' := a'.put (some i) v) (h.put (fun j hj => by cases hj; exact hi _ List.mem_cons_self) v) fun j hj => hi j (List.mem_cons_of_mem _ hj)
theorem opIn_dst {M : List Nat} {o : Oper} (h : opIn M o = true) : ∀ i, o.dst = some i → i ∈ M := fun i hi => by
  unfold opIn at h
  rw [hi, Bool.and_eq_true] at h
  simpa using h.1
theorem opIn_defer {M : List Nat} {o : Oper} (h : opIn M o = true) : ∀ c, o.op ≠ .defer c := fun c hc => by
  unfold opIn at h
  rw [hc, Bool.and_eq_true] at h
  cases h.2
theorem stepV_op {P : Program} {ops : Array Oper} {o : Oper} {a : Act} {next : Act → Heap → Prop} {Q : Exit → Act → Heap → Prop} {H : Heap} (h : ∀ c, o.op ≠ .defer c) :
    stepV P ops o a next Q H = (spG ops o (opS P a.eval o)).run (fun v H' => next (a.put o.dst v) H') (fun c H' => Q (.panic c) a H') H := by
  unfold stepV
  split
  · rename_i c hc; exact (h c hc).elim
  · rfl
theorem opsV_frame {P : Program} {ops : Array Oper} {M : List Nat} {a0 : Act} {Q Q' : Exit → Act → Heap → Prop} (hq : ∀ e a' H', Same M a0 a' → Q e a' H' → Q' e a' H') :
    ∀ (l : List Oper) (a : Act) (H : Heap), Same M a0 a → l.all (opIn M) = true → opsV P ops Q l a H → opsV P ops Q' l a H
  | [], a, H, hs, _, h => hq _ _ _ hs h
  | o :: rest, a, H, hs, ha, h => by
    simp only [List.all_cons, Bool.and_eq_true] at ha
    unfold opsV at h ⊢
    simp only [forceA_eq] at h ⊢
    cases hw : Region.wanted o (yielded ops a.tmps) with
    | false => rw [hw] at h; exact opsV_frame hq rest _ H (hs.put (opIn_dst ha.1) _) ha.2 h
    | true =>
      rw [hw] at h
      simp only at h ⊢
      rw [stepV_op (opIn_defer ha.1)] at h ⊢
      exact (spG ops o (opS P a.eval o)).mono (fun v H' h' => opsV_frame hq rest _ H' (hs.put (opIn_dst ha.1) _) ha.2 h') (fun c H' h' => hq _ _ _ hs h') h
theorem heldV_mono {H : Heap} {K K' : Prop} (hk : K → K') : ∀ {l : List Pend}, heldV H l K → heldV H l K'
  | [], h => hk h
  | p :: r, h => ⟨h.1, heldV_mono hk h.2⟩
theorem allL_mono {p q : Nat → Prop} : ∀ {l : List Nat}, (∀ i ∈ l, p i → q i) → allL p l → allL q l
  | [], _, _ => trivial
  | [i], hm, h => hm i List.mem_cons_self h
  | i :: k :: r, hm, h => ⟨hm i List.mem_cons_self h.1, allL_mono (l := k :: r) (fun j hj => hm j (List.mem_cons_of_mem _ hj)) h.2⟩
theorem pickOp_mem {P : Program} {ops : Array Oper} {listed : Array Bool} {a : Act} : ∀ rs : List Nat, (∀ i o, pickOp P ops listed a rs = .skip i o → o ∈ ops.toList) ∧ (∀ i o b x, pickOp P ops listed a rs = .take i o b x → o ∈ ops.toList)
  | [] => ⟨fun i o h => by simp [pickOp] at h, fun i o b x h => by simp [pickOp] at h⟩
  | i :: r => by
    have hr := pickOp_mem (P := P) (ops := ops) (listed := listed) (a := a) r
    unfold pickOp
    cases ho : ops.toList[i]? with
    | none => exact hr
    | some o =>
      have hin : o ∈ ops.toList := List.mem_of_getElem? ho
      simp only
      cases hw : Region.wanted o (yielded ops a.tmps) with
      | false =>
        simp only
        cases hf : Region.free .any ops listed i with
        | false => exact hr
        | true => exact ⟨(fun i' o' h => by cases h; exact hin), (fun i' o' b x h => by cases h)⟩
      | true =>
        simp only
        cases ht : takeS P a.eval o with
        | none => exact hr
        | some bx =>
          obtain ⟨b, x⟩ := bx
          simp only
          cases hf : Region.free .any ops listed i with
          | false => exact hr
          | true => exact ⟨(fun i' o' h => by cases h), (fun i' o' b' x' h => by cases h; exact hin)⟩
theorem anyV_frame {P : Program} {ops : Array Oper} {ms : List Nat} {M : List Nat} {a0 : Act} {K K' : Act → Heap → Prop} (hk : ∀ a' H', Same M a0 a' → K a' H' → K' a' H') (ha : ops.toList.all (opIn M) = true) :
    ∀ (n : Nat) (listed : Array Bool) (a : Act) (pend : List Pend) (H : Heap), Same M a0 a → anyV P ops ms K n listed a pend H → anyV P ops ms K' n listed a pend H := by
  have hin : ∀ o ∈ ops.toList, opIn M o = true := List.all_eq_true.1 ha
  intro n
  induction n with
  | zero =>
    intro listed a pend H hs h
    unfold anyV at h ⊢
    cases hrs : Region.ready .any ops listed with
    | nil => rw [hrs] at h; exact hk _ _ hs h
    | cons r0 rr => rw [hrs] at h; exact h
  | succ n ih =>
    intro listed a pend H hs h
    unfold anyV at h ⊢
    simp only [forceA_eq, forceB_eq] at h ⊢
    cases hrs : Region.ready .any ops listed with
    | nil => rw [hrs] at h; exact hk _ _ hs h
    | cons r0 rr =>
      rw [hrs] at h
      simp only at h ⊢
      have hpm := pickOp_mem (P := P) (ops := ops) (listed := listed) (a := a) (r0 :: rr)
      cases hp : pickOp P ops listed a (r0 :: rr) with
      | skip i o => rw [hp] at h; exact ih _ _ _ _ (hs.put (opIn_dst (hin o (hpm.1 i o hp))) _) h
      | take i o b x =>
        rw [hp] at h
        exact (spG ops o x).mono (fun v H' h' => ih _ _ _ _ (hs.put (opIn_dst (hin o (hpm.2 i o b x hp))) _) h') (fun _ _ h' => h') h
      | no =>
        rw [hp] at h
        refine allL_mono (fun j _ hj => ?_) h
        cases ho : ops.toList[j]? with
        | none => rw [ho] at hj; exact hj
        | some o =>
          rw [ho] at hj
          simp only at hj ⊢
          have hio := hin o (List.mem_of_getElem? ho)
          cases hw : Region.wanted o (yielded ops a.tmps) with
          | false => rw [hw] at hj; exact ih _ _ _ _ (hs.put (opIn_dst hio) _) hj
          | true =>
            rw [hw] at hj
            exact (spG ops o (opS P a.eval o)).mono (fun v H' h' => heldV_mono (ih _ _ _ _ (hs.put (opIn_dst hio) _)) h') (fun _ _ h' => h') hj

theorem mem_of_elem {M : List Nat} {i : Nat} (h : M.elem i = true) : i ∈ M := by simpa using h
theorem slots_mem {M : List Nat} {A : Ann} (h : A.slots.all (M.elem ·) = true) : ∀ i ∈ A.slots, i ∈ M := fun i hi => mem_of_elem (List.all_eq_true.1 h i hi)
theorem destrs_mono {P : Program} {ts : List TypeId} {vs : List Value} {K K' : List Value → Heap → Prop} {H : Heap} (hk : ∀ us H, K us H → K' us H) (h : (destrs P ts vs).run K (fun _ _ => False) H) : (destrs P ts vs).run K' (fun _ _ => False) H :=
  (destrs P ts vs).mono hk (fun _ _ h => h) h
theorem vc_frame {P : Program} {M : List Nat} {a0 : Act} : ∀ (c : Code) (an : An) (Q Q' : Exit → Act → Heap → Prop) (a : Act) (H : Heap), slotsIn M c an = true → Same M a0 a →
    (∀ e a' H', Same M a0 a' → Q e a' H' → Q' e a' H') → vc P c an Q a H → vc P c an Q' a H := by
  intro c
  induction c with
  | skip => intro an Q Q' a H _ hs hq h; exact hq _ _ _ hs h
  | label l => intro an Q Q' a H _ hs hq h; exact hq _ _ _ hs h
  | exit id => intro an Q Q' a H _ hs hq h; exact hq _ _ _ hs h
  | ret => intro an Q Q' a H _ hs hq h; exact hq _ _ _ hs h
  | region id ops draw =>
    intro an Q Q' a H ha hs hq h
    cases draw with
    | false => exact opsV_frame hq ops.toList a H hs ha h
    | true =>
      obtain ⟨h1, h2⟩ := gB_elim h
      show gB (P.follows .mixedOrders && Region.noSelect ops) _
      rw [h1]
      exact anyV_frame (fun a' H' hs' h' => hq _ _ _ hs' h') ha ops.size _ a [] H hs h2
  | seq x y ihx ihy =>
    intro an Q Q' a H ha hs hq h
    simp only [slotsIn, Bool.and_eq_true] at ha
    unfold vc at h ⊢
    cases hj : an.j with
    | none =>
      rw [hj] at h
      refine ihx an.l _ _ a H ha.2.1 hs (fun e a' H' hs' h' => ?_) h
      cases e <;> first | exact ihy _ _ _ a' H' ha.2.2 hs' hq h' | exact hq _ _ _ hs' h'
    | some A =>
      rw [hj] at h ha
      obtain ⟨h1, h2⟩ := gB_elim h
      show gB (slotsIn A.slots x an.l) _
      rw [h1]
      have hin := slots_mem ha.1
      show jn _ _
      constructor
      refine ihx an.l _ _ a H ha.2.1 hs (fun e a' H' hs' h' => ?_) h2.out
      cases e <;> first | exact hq _ _ _ hs' h' | skip
      obtain ⟨h3, h4⟩ := aplH_cur (show aplH A.live.length (joinK P A (fun a' H' => vc P y an.r Q a' H') a) (readA (A.live.map (·.1)) a') H' from h')
      refine aplH_mk h3 (allV_mono (fun us h5 => destrs_mono (fun ws _ h6 => ?_) h5) h4)
      exact ihy _ _ _ _ _ ha.2.2 ((hs.puts (fun i hi => hin i (List.mem_append_left _ hi))).puts (fun i hi => hin i (List.mem_append_right _ hi))) hq h6
  | cond cc x y ihx ihy =>
    intro an Q Q' a H ha hs hq h
    simp only [slotsIn, Bool.and_eq_true] at ha
    unfold vc at h ⊢
    split at h
    · rename_i b hb
      cases b with
      | true => exact ihx _ _ _ a H ha.1 hs hq h
      | false => exact ihy _ _ _ a H ha.2 hs hq h
    · exact h.elim
  | block id b ih =>
    intro an Q Q' a H ha hs hq h
    refine ih an.l _ _ a H ha hs (fun e a' H' hs' h' => ?_) h
    cases e <;> first | exact hq _ _ _ hs' h' | skip
    rename_i i
    unfold blockV at h' ⊢
    cases hi : Nat.beq i id with
    | true => simp only [hi] at h' ⊢; exact hq _ _ _ hs' h'
    | false => simp only [hi] at h' ⊢; exact hq _ _ _ hs' h'
  | loop b ih =>
    intro an Q Q' a H ha hs hq h
    simp only [slotsIn, Bool.and_eq_true] at ha
    unfold vc at h ⊢
    cases hj : an.j with
    | none => rw [hj] at h; exact h.elim
    | some A =>
      rw [hj] at h ha
      obtain ⟨h1, I, μ, h2, h3⟩ := gB_elim h
      show gB (slotsIn A.slots b an.l) _
      rw [h1]
      refine ⟨I, μ, h2, allTs_mono (fun vs h4 => allV_mono (fun us h5 H' hI => ?_) h4) h3⟩
      have hin := slots_mem ha.1
      refine ih an.l _ _ _ H' ha.2 ((hs.puts (fun i hi => hin i (List.mem_append_left _ hi))).puts (fun i hi => hin i (List.mem_append_right _ hi))) (fun e a' H'' hs' h' => ?_) (h5 H' hI)
      cases e <;> first | exact h' | exact hq _ _ _ hs' h'
  | _ => intro an Q Q' a H ha hs hq h; exact h.elim
end Go.Proofs.YtngploohhmfaiaaGreat.E
