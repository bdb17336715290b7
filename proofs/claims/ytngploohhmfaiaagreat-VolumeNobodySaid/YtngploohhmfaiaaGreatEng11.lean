/- The engine, part 11: 'vc' is enough: a function's contract. -/
import Derived.Test.YtngploohhmfaiaaGreatEng10
namespace Go.Proofs.YtngploohhmfaiaaGreat.E
open Go
set_option linter.unusedVariables false

theorem putsA_defers : ∀ (is : List Nat) (vs : List Value) (a : Act), (putsA is vs a).defers = a.defers
  | [], vs, a => by cases vs <;> rfl
  | i :: is, [], a => rfl
  | i :: is, v :: vs, a => by
    show (putsA is vs (a.put (some i) v)).defers = a.defers
    rw [putsA_defers is vs]; rfl
theorem putsA_size : ∀ (is : List Nat) (vs : List Value) (a : Act), (putsA is vs a).tmps.size = a.tmps.size
  | [], vs, a => by cases vs <;> rfl
  | i :: is, [], a => rfl
  | i :: is, v :: vs, a => by
    show (putsA is vs (a.put (some i) v)).tmps.size = a.tmps.size
    rw [putsA_size is vs]; simp [Act.put]
theorem putsA_get {a' : Act} : ∀ (is : List Nat) (b : Act), b.tmps.size = a'.tmps.size → ∀ i, (putsA is (readA is a') b).tmps[i]? = if i ∈ is then a'.tmps[i]? else b.tmps[i]?
  | [], b, _, i => by simp [putsA]
  | j :: is, b, hb, i => by
    show (putsA is (readA is a') (b.put (some j) (a'.tmps.getD j undef))).tmps[i]? = _
    rw [putsA_get is _ (by simp [Act.put, hb])]
    by_cases hi : i ∈ is
    · simp [hi]
    · rw [if_neg hi]
      by_cases hij : j = i
      · subst hij
        rw [if_pos List.mem_cons_self]
        simp only [Act.put]
        by_cases hs : j < a'.tmps.size
        · rw [Array.getElem?_setIfInBounds_self_of_lt (by omega)]
          simp [Array.getD, hs]
        · rw [Array.getElem?_eq_none (by simp; omega), Array.getElem?_eq_none (by omega)]
      · rw [if_neg (by simp [hi, Ne.symm hij])]
        simp only [Act.put]
        rw [Array.getElem?_setIfInBounds_ne hij]
theorem putsA_same {A : Ann} {a a' : Act} (h : Same A.slots a a') : putsA A.junk (readA A.junk a') (putsA (A.live.map (·.1)) (readA (A.live.map (·.1)) a') a) = a' := by
  have e1 : (putsA A.junk (readA A.junk a') (putsA (A.live.map (·.1)) (readA (A.live.map (·.1)) a') a)).tmps = a'.tmps := by
    apply Array.ext_getElem?
    intro i
    rw [putsA_get _ _ (by rw [putsA_size, h.size]), putsA_get _ _ h.size.symm]
    by_cases h1 : i ∈ A.junk
    · rw [if_pos h1]
    · rw [if_neg h1]
      by_cases h2 : i ∈ A.live.map (·.1)
      · rw [if_pos h2]
      · rw [if_neg h2]
        exact (h.tmps i (fun hm => (List.mem_append.1 hm).elim h2 h1)).symm
  have e2 : (putsA A.junk (readA A.junk a') (putsA (A.live.map (·.1)) (readA (A.live.map (·.1)) a') a)).defers = a'.defers := by
    rw [putsA_defers, putsA_defers, h.defers]
  obtain ⟨t, d⟩ := a'
  cases hx : putsA A.junk (readA A.junk ⟨t, d⟩) (putsA (A.live.map (·.1)) (readA (A.live.map (·.1)) ⟨t, d⟩) a) with
  | mk t' d' => rw [hx] at e1 e2; simp only at e1 e2; rw [e1, e2]

theorem vc_wp {P : Program} : ∀ (c : Code) (an : An) (Q : Exit → Act → Heap → Prop) (a : Act) (w w0 : World), Like w0 w → vc P c an Q a w.heap → c.wp P (lift Q w0) a w := by
  intro c
  induction c with
  | skip => intro an Q a w w0 hl h; exact wp_skip ⟨h, hl⟩
  | label l => intro an Q a w w0 hl h; exact wp_label ⟨h, hl⟩
  | exit id => intro an Q a w w0 hl h; exact wp_exit ⟨h, hl⟩
  | ret => intro an Q a w w0 hl h; exact wp_ret ⟨h, hl⟩
  | region id ops draw =>
    intro an Q a w w0 hl h
    cases draw with
    | false => exact regionV_wp hl h
    | true =>
      obtain ⟨h1, h2⟩ := gB_elim h
      rw [Bool.and_eq_true] at h1
      exact drawV_wp hl h1.1 h1.2 h2
  | seq x y ihx ihy =>
    intro an Q a w w0 hl h
    unfold vc at h
    cases hj : an.j with
    | none =>
      rw [hj] at h
      refine wp_seq (wp_mono (ihx an.l _ a w w0 hl h) fun e a' w' h' => ?_)
      cases e <;> first | exact ihy _ _ a' w' w0 h'.2 h'.1 | exact h'
    | some A =>
      rw [hj] at h
      obtain ⟨hso, h⟩ := gB_elim h
      have h1 : vc P x an.l (thenV (fun a' H' => aplH A.live.length (joinK P A (fun a' H' => vc P y an.r Q a' H') a) (readA (A.live.map (·.1)) a') H') Q) a w.heap := h.out
      have h2 := vc_frame (M := A.slots) (a0 := a) x an.l _ (fun e a'' H'' => thenV (fun a' H' => aplH A.live.length (joinK P A (fun a' H' => vc P y an.r Q a' H') a) (readA (A.live.map (·.1)) a') H') Q e a'' H'' ∧ Same A.slots a a'') a w.heap hso (Same.refl _ _) (fun e a'' H'' hs' hq => ⟨hq, hs'⟩) h1
      refine wp_seq (wp_mono (ihx an.l _ a w w0 hl h2) fun e a' w' h' => ?_)
      obtain ⟨⟨h3, h4⟩, h5⟩ := h'
      cases e <;> first | exact ⟨h3, h5⟩ | skip
      obtain ⟨h6, h7⟩ := aplH_cur (show aplH A.live.length (joinK P A (fun a' H' => vc P y an.r Q a' H') a) (readA (A.live.map (·.1)) a') w'.heap from h3)
      have h8 := allV_elim h7 (readA A.junk a') (by simp [readA])
      have h9 := destrs_elim h8
      rw [putsA_same h4] at h9
      exact ihy _ _ a' w' w0 h5 h9
  | cond cc x y ihx ihy =>
    intro an Q a w w0 hl h
    unfold vc at h
    split at h
    · rename_i b hb
      cases b with
      | true => exact wp_cond_true hb (ihx _ _ a w w0 hl h)
      | false => exact wp_cond_false hb (ihy _ _ a w w0 hl h)
    · exact h.elim
  | block id b ih =>
    intro an Q a w w0 hl h
    refine wp_block (wp_mono (ih an.l _ a w w0 hl h) fun e a' w' h' => ?_)
    cases e <;> first | exact h' | skip
    rename_i i
    obtain ⟨h1, h2⟩ := h'
    have h1 : (match Nat.beq i id with | true => Q .normal a' w'.heap | false => Q (.exit i) a' w'.heap) := h1
    show (if i = id then lift Q w0 .normal a' w' else lift Q w0 (.exit i) a' w')
    cases hi : Nat.beq i id with
    | true => rw [hi] at h1; simp only [Nat.eq_of_beq_eq_true hi, if_true]; exact ⟨h1, h2⟩
    | false =>
      rw [hi] at h1
      have hne : ¬ i = id := Nat.ne_of_beq_eq_false hi
      simp only [hne, if_false]; exact ⟨h1, h2⟩
  | loop b ih =>
    intro an Q a w w0 hl h
    unfold vc at h
    cases hj : an.j with
    | none => rw [hj] at h; exact h.elim
    | some A =>
      rw [hj] at h
      obtain ⟨hso, I, μ, h2, h3⟩ := gB_elim h
      refine wp_loop (fun a' w' => Same A.slots a a' ∧ okTs P (A.live.map (·.2)) (readA (A.live.map (·.1)) a') (I (readA (A.live.map (·.1)) a') w'.heap) ∧ Like w0 w') (fun a' w' => μ (readA (A.live.map (·.1)) a') w'.heap) ⟨Same.refl _ _, h2, hl⟩ ?_
      rintro a' w' ⟨hs, hok, hl'⟩
      obtain ⟨hI, hall⟩ := okTs_elim hok
      have h4 := hall _ h3
      have h5 := allV_elim h4 (readA A.junk a') (by simp [readA]) w'.heap hI
      rw [putsA_same hs] at h5
      have h6 := vc_frame (M := A.slots) (a0 := a') b an.l _ (fun e a'' H'' => loopQ P A I μ (μ (readA (A.live.map (·.1)) a') w'.heap) Q e a'' H'' ∧ Same A.slots a' a'') a' w'.heap hso (Same.refl _ _) (fun e a'' H'' hs' hq => ⟨hq, hs'⟩) h5
      refine wp_mono (ih an.l _ a' w' w0 hl' h6) fun e a'' w'' h' => ?_
      obtain ⟨⟨h7, h8⟩, h9⟩ := h'
      cases e <;> first | exact ⟨h7, h9⟩ | skip
      obtain ⟨⟨hI', hlt⟩, hall'⟩ := okTs_elim h7
      refine ⟨⟨⟨h8.defers.trans hs.defers, h8.size.trans hs.size, fun i hi => (h8.tmps i hi).trans (hs.tmps i hi)⟩, ?_, h9⟩, hlt⟩
      exact okTs_less (fun h => h.1) h7
  | _ => intro an Q a w w0 hl h; exact h.elim

/-! ### a function's results -/
def resS (P : Program) (tmps : Array Value) : List ResultVar → Sp (List Value)
  | [] => .pure []
  | .tmp t :: r => (resS P tmps r).bind fun vs => .pure (tmps.getD t undef :: vs)
  | .cell a t :: r => (addrS (tmps.getD a undef)).bind fun b => (loadS P t b).bind fun v => (resS P tmps r).bind fun vs => .pure (v :: vs)
def oneOf : List Value → Value
  | [v] => v
  | vs => .tuple vs.toArray
theorem gives_res (P : Program) (tmps : Array Value) : ∀ l : List ResultVar, Gq true P (l.mapM fun | .tmp t => Pure.pure (tmps.getD t undef) | .cell a t => (do loadVar t (← asAddr (tmps.getD a undef)) : Sem Value)) (resS P tmps l)
  | [] => by rw [List.mapM_nil]; exact Gq.pure []
  | .tmp t :: r => by
    rw [List.mapM_cons]
    exact fun K E H hx => (Gq.bind (s := Pure.pure (tmps.getD t undef)) (x := Sp.pure (tmps.getD t undef)) (Gq.pure _) (g := fun v => (resS P tmps r).bind fun vs => Sp.pure (v :: vs)) fun v => (gives_res P tmps r).bind fun vs => Gq.pure (v :: vs)) K E H hx
  | .cell a t :: r => by
    rw [List.mapM_cons]
    exact fun K E H hx => (Gq.bind (Gq.bind (gives_asAddr P (tmps.getD a undef)) fun b => gives_load P t b) (g := fun v => (resS P tmps r).bind fun vs => Sp.pure (v :: vs)) fun v => (gives_res P tmps r).bind fun vs => Gq.pure (v :: vs)) K E H hx
theorem gives_results (P : Program) (fn : Func) (tmps : Array Value) : Gq true P (results fn tmps) ((resS P tmps fn.results.toList).bind fun vs => .pure (oneOf vs)) := fun K E H hx => by
  obtain ⟨vs, hv, hr⟩ := gives_res P tmps fn.results.toList (fun vs H => K (oneOf vs) H) E H hx
  refine ⟨oneOf vs, hv, fun w hw => ?_⟩
  have h1 := hr w hw
  obtain ⟨l, hl⟩ : ∃ l, fn.results = List.toArray l := ⟨fn.results.toList, by simp⟩
  rw [hl] at h1
  unfold results
  rw [hl]
  have h2 : ((l.toArray.mapM fun | ResultVar.tmp t => Pure.pure (tmps.getD t undef) | ResultVar.cell a t => (do loadVar t (← asAddr (tmps.getD a undef)) : Sem Value))).run P w = Result.ok vs.toArray w := by
    rw [List.mapM_toArray]
    simp only [Sem.run_map]
    rw [h1]; rfl
  rw [Sem.run_bind]
  refine (congrArg (fun r => Result.andThen r _) (show _ = Result.ok vs.toArray w from h2)).trans ?_
  simp only [Result.andThen_ok, Sem.run_pure]
  congr 1
  match vs with
  | [] => simp [oneOf]
  | [v] => simp [oneOf]
  | v :: u :: r => simp [oneOf]

/-! ### calls that were put off -/
def HCallsD (P : Program) (f : FuncId) (args : Array Value) (u : FrameMode) (H : Heap) (R : Ending → FrameMode → Heap → Prop) : Prop :=
  ∀ w : World, w.heap = H → CallsD P f args u w fun e u' w' => R e u' w'.heap ∧ Like w w'
def resK (P : Program) (fn : Func) (tmps : Array Value) (R : Ending → Heap → Prop) (H : Heap) : Prop :=
  (resS P tmps fn.results.toList).run (fun vs _ => R (.returned (oneOf vs)) H) (fun _ _ => False) H
def leavesV (P : Program) (fn : Func) (tmps : Array Value) (R : Ending → Heap → Prop) : List Deferred → FrameMode → Heap → Prop
  | [], .returning, H => resK P fn tmps R H
  | [], .panicking c, H => R (.panicked c) H
  | [], .run, _ => False
  | _ :: _, .run, _ => False
  | d :: ds, u, H => match d.target with
    | .fn (.func g) cap => gB (plainFn P g) (HCallsD P g (d.args.toList ++ cap.toList).toArray u H fun e u' H' => match e with
      | .returned _ => leavesV P fn tmps R ds (settle u') H'
      | .panicked c => leavesV P fn tmps R ds (raised u' c) H'
      | .outgrown => False)
    | _ => False
theorem leavesV_cons (P : Program) (fn : Func) (tmps : Array Value) (R : Ending → Heap → Prop) (d : Deferred) (ds : List Deferred) (H : Heap) (u : FrameMode) (hu : u ≠ .run) :
    leavesV P fn tmps R (d :: ds) u H = (match d.target with
    | .fn (.func g) cap => gB (plainFn P g) (HCallsD P g (d.args.toList ++ cap.toList).toArray u H fun e u' H' => match e with
      | .returned _ => leavesV P fn tmps R ds (settle u') H'
      | .panicked c => leavesV P fn tmps R ds (raised u' c) H'
      | .outgrown => False)
    | _ => False) := by
  cases u with
  | run => exact (hu rfl).elim
  | returning => rfl
  | panicking c => rfl
def postV (P : Program) (fn : Func) (R : Ending → Heap → Prop) : Exit → Act → Heap → Prop
  | .normal, a, H => leavesV P fn a.tmps R a.defers .returning H
  | .ret, a, H => leavesV P fn a.tmps R a.defers .returning H
  | .panic c, a, H => leavesV P fn a.tmps R a.defers (.panicking c) H
  | _, _, _ => False
theorem leaves_of {P : Program} {fn : Func} {tmps : Array Value} {R : Ending → Heap → Prop} {w0 : World} : ∀ (ds : List Deferred) (u : FrameMode) (w : World), u ≠ .run → Like w0 w → leavesV P fn tmps R ds u w.heap →
    Leaves P fn tmps (fun e w' => R e w'.heap ∧ Like w0 w') ds u w
  | [], .returning, w, _, hl, h => by
    obtain ⟨v, hv, hr⟩ := gives_results P fn tmps (fun v H' => R (.returned v) w.heap) (fun _ _ => False) w.heap h
    exact ⟨v, hr w fun _ => rfl, hv, hl⟩
  | [], .panicking c, w, _, hl, h => ⟨h, hl⟩
  | [], .run, w, hu, hl, h => h.elim
  | d :: ds, u, w, hu, hl, h => by
    obtain ⟨target, dargs⟩ := d
    rw [leavesV_cons _ _ _ _ _ _ _ _ hu] at h
    cases target <;> first | exact h.elim | skip
    rename_i fv cap
    cases fv <;> first | exact h.elim | skip
    rename_i g
    obtain ⟨hp, h⟩ := gB_elim h
    have ea : (dargs.toList ++ cap.toList).toArray = dargs ++ cap := Array.toList_inj.1 (by simp)
    simp only [ea] at h
    have hinv : (invoke (.fn (.func g) cap) dargs).run P w = .ok (.enter g (dargs ++ cap)) w := by
      unfold plainFn at hp
      cases hfn : P.funcs[g]? with
      | none => rw [hfn] at hp; cases hp
      | some fn' =>
        rw [hfn] at hp
        simp only at hp
        cases hn : (fn'.name == "runtime.NumGoroutine") with
        | true => rw [hn] at hp; cases hp
        | false =>
          rw [hn] at hp
          simp only at hp
          have hn' : ¬ (fn'.name = "runtime.NumGoroutine") := by simpa using hn
          have hb' : ¬ (fn'.body = none) := by intro h; rw [h] at hp; cases hp
          simp [invoke, callFunc, hfn, hn', hb']
    refine ⟨hu, .func g, cap, g, dargs ++ cap, rfl, hinv, Go.CallsD.mono (h w rfl) fun e u' w' h' => ?_⟩
    obtain ⟨h1, h2⟩ := h'
    have hset : ∀ u', settle u' ≠ .run ∨ u' = .run := fun u' => by
      unfold settle
      split
      · split <;> exact .inl (by simp)
      · exact (Classical.em (u' = .run)).symm.imp id id
    cases e with
    | returned v =>
      rcases hset u' with hs | rfl
      · exact leaves_of ds _ w' hs (hl.trans h2) h1
      · cases ds with
        | nil => exact h1.elim
        | cons d2 ds2 => exact h1.elim
    | panicked c =>
      have hr : raised u' c ≠ .run := by unfold raised; split <;> simp
      exact leaves_of ds _ w' hr (hl.trans h2) h1
    | outgrown => exact h1.elim

/-! ### from 'vc' to a call -/
theorem calls_vc {P : Program} {f : FuncId} {fn : Func} {c : Code} (an : An) {args : Array Value} {H : Heap} {R : Ending → Heap → Prop}
    (hf : P.funcs[f]? = some fn) (hb : fn.body = some c)
    (h : vc P c an (postV P fn R) ⟨args ++ Array.replicate (fn.ntmps - args.size) undef, []⟩ H) : HCalls P f args H R := by
  intro w hw
  subst hw
  refine calls_of_wp_defers hf hb (wp_mono (vc_wp c an _ _ w w (Like.refl w) h) fun e a w' h' => ?_)
  obtain ⟨h1, h2⟩ := h'
  cases e with
  | normal => exact leaves_of _ _ w' (by simp) h2 h1
  | ret => exact leaves_of _ _ w' (by simp) h2 h1
  | panic ch => exact leaves_of _ _ w' (by simp) h2 h1
  | exit i => exact h1.elim
  | goto l => exact h1.elim
  | outgrown => exact h1.elim
def postD (P : Program) (fn : Func) (R : Ending → Heap → Prop) : Exit → Act → Heap → Prop
  | .normal, a, H => a.defers.isEmpty = true ∧ resK P fn a.tmps R H
  | .ret, a, H => a.defers.isEmpty = true ∧ resK P fn a.tmps R H
  | .panic c, a, H => a.defers.isEmpty = true ∧ R (.panicked c) H
  | _, _, _ => False
theorem callsD_vc {P : Program} {f : FuncId} {fn : Func} {c : Code} (an : An) {args : Array Value} {u : FrameMode} {H : Heap} {R : Ending → Heap → Prop}
    (hf : P.funcs[f]? = some fn) (hb : fn.body = some c)
    (h : vc P c an (postD P fn R) ⟨args ++ Array.replicate (fn.ntmps - args.size) undef, []⟩ H) : HCallsD P f args u H fun e u' H' => u' = u ∧ R e H' := by
  intro w hw
  subst hw
  have key : c.wp P (bodyPost P fn fun e w' => R e w'.heap ∧ Like w w') { tmps := args ++ Array.replicate (fn.ntmps - args.size) undef, defers := [] } w := by
    refine wp_mono (vc_wp c an _ _ w w (Like.refl w) h) fun e a w' h' => ?_
    obtain ⟨h1, h2⟩ := h'
    have hres : resK P fn a.tmps R w'.heap → ∃ v, (results fn a.tmps).run P w' = .ok v w' ∧ R (.returned v) w'.heap ∧ Like w w' := fun hk => by
      obtain ⟨v, hv, hr⟩ := gives_results P fn a.tmps (fun v H' => R (.returned v) w'.heap) (fun _ _ => False) w'.heap hk
      exact ⟨v, hr w' fun _ => rfl, hv, h2⟩
    cases e with
    | normal => exact ⟨by simpa using h1.1, hres h1.2⟩
    | ret => exact ⟨by simpa using h1.1, hres h1.2⟩
    | panic ch => exact ⟨by simpa using h1.1, h1.2, h2⟩
    | exit i => exact h1.elim
    | goto l => exact h1.elim
    | outgrown => exact h1.elim
  exact Go.CallsD.mono (callsD_of_wp hf hb key) fun e u' w' ⟨hu, hR, hl⟩ => ⟨⟨hu, hR⟩, hl⟩
def codeOf (fn : Func) : Code := fn.body.getD .skip
theorem calls_by {P : Program} {f : FuncId} {fn : Func} (an : An) {args : Array Value} {H : Heap} {R : Ending → Heap → Prop} {F : Prop}
    (hf : P.funcs[f]? = some fn) (hb : fn.body.isSome = true)
    (e : F = vc P (codeOf fn) an (postV P fn R) ⟨args ++ Array.replicate (fn.ntmps - args.size) undef, []⟩ H) (h : F) : HCalls P f args H R := by
  obtain ⟨c, hc⟩ := Option.isSome_iff_exists.1 hb
  have : codeOf fn = c := by simp [codeOf, hc]
  exact calls_vc an hf hc (this ▸ (e ▸ h))
theorem callsD_by {P : Program} {f : FuncId} {fn : Func} (an : An) {args : Array Value} {u : FrameMode} {H : Heap} {R : Ending → Heap → Prop} {F : Prop}
    (hf : P.funcs[f]? = some fn) (hb : fn.body.isSome = true)
    (e : F = vc P (codeOf fn) an (postD P fn R) ⟨args ++ Array.replicate (fn.ntmps - args.size) undef, []⟩ H) (h : F) : HCallsD P f args u H fun e u' H' => u' = u ∧ R e H' := by
  obtain ⟨c, hc⟩ := Option.isSome_iff_exists.1 hb
  have : codeOf fn = c := by simp [codeOf, hc]
  exact callsD_vc an hf hc (this ▸ (e ▸ h))
abbrev pnR (R : Ending → Heap → Prop) : List PanicEntry → Heap → Prop := fun c H => R (Ending.panicked c) H
abbrev nopR : List PanicEntry → Heap → Prop := fun _ _ => False
end Go.Proofs.YtngploohhmfaiaaGreat.E
