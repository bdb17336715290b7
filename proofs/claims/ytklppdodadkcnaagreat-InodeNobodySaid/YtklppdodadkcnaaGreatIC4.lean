/- My own texts, joined. -/
import Derived.Laws.StructEq
import Derived.Scope
import Derived.Test.YtklppdodadkcnaaGreatIC3
namespace Go.Proofs.YtklppdodadkcnaaGreat.E
open Go
set_option linter.unusedVariables false
theorem putsA_defers : ∀ (is : List Nat) (vs : List Value) (a : Act), (putsA is vs a).defers = a.defers
 | [], vs, a => by cases vs <;> rfl
 | i :: is, [], a => rfl
 | i :: is, v :: vs, a => by
  show (putsA is vs (a.put (some i) v)).defers = a.defers
  rw [putsA_defers is vs]; rfl
theorem putsA_size : ∀ (is : List Nat) (vs : List Value) (a : Act), (putsA is vs a).tmps.size = a.tmps.size
 | [], vs, a => by cases vs <;> rfl
 | i :: is, [], a => rfl
 | i :: is, v :: vs, a => by
  show (putsA is vs (a.put (some i) v)).tmps.size = a.tmps.size
  rw [putsA_size is vs]; simp [Act.put]
theorem putsA_get {a' : Act} : ∀ (is : List Nat) (b : Act), b.tmps.size = a'.tmps.size → ∀ i, (putsA is (readA is a') b).tmps[i]? = if i ∈ is then a'.tmps[i]? else b.tmps[i]?
 | [], b, _, i => by simp [putsA]
 | j :: is, b, hb, i => by
  show (putsA is (readA is a') (b.put (some j) (a'.tmps.getD j undef))).tmps[i]? = _
  rw [putsA_get is _ (by simp [Act.put, hb])]
  by_cases hi : i ∈ is
  ·simp [hi]
  ·rw [if_neg hi]
   by_cases hij : j = i
   ·subst hij
    rw [if_pos List.mem_cons_self]
    simp only [Act.put]
    by_cases hs : j < a'.tmps.size
    ·rw [Array.getElem?_setIfInBounds_self_of_lt (by omega)]
     simp [Array.getD, hs]
    ·rw [Array.getElem?_eq_none (by simp; omega), Array.getElem?_eq_none (by omega)]
   ·rw [if_neg (by simp [hi, Ne.symm hij])]
    simp only [Act.put]
    rw [Array.getElem?_setIfInBounds_ne hij]
theorem putsA_same {A : Ann} {a a' : Act} (h : Same A.slots a a') : putsA A.junk (readA A.junk a') (putsA (A.live.map (·.1)) (readA (A.live.map (·.1)) a') a) = a' := by
 have e1 : (putsA A.junk (readA A.junk a') (putsA (A.live.map (·.1)) (readA (A.live.map (·.1)) a') a)).tmps = a'.tmps := by
  apply Array.ext_getElem?
  intro i
  rw [putsA_get _ _ (by rw [putsA_size, h.size]), putsA_get _ _ h.size.symm]
  by_cases h1 : i ∈ A.junk
  ·rw [if_pos h1]
  ·rw [if_neg h1]
   by_cases h2 : i ∈ A.live.map (·.1)
   ·rw [if_pos h2]
   ·rw [if_neg h2]
    exact (h.tmps i (fun hm => (List.mem_append.1 hm).elim h2 h1)).symm
 have e2 : (putsA A.junk (readA A.junk a') (putsA (A.live.map (·.1)) (readA (A.live.map (·.1)) a') a)).defers = a'.defers := by
  rw [putsA_defers, putsA_defers, h.defers]
 obtain ⟨t, d⟩ := a'
 cases hx : putsA A.junk (readA A.junk ⟨t, d⟩) (putsA (A.live.map (·.1)) (readA (A.live.map (·.1)) ⟨t, d⟩) a) with
 | mk t' d' => rw [hx] at e1 e2; simp only at e1 e2; rw [e1, e2]
theorem vc_wp {P : Program} : ∀ (c : Code) (an : An) (Q : Exit → Act → Heap → Prop) (a : Act) (w w0 : World), Like w0 w → vc P c an Q a w.heap → c.wp P (lift Q w0) a w := by
 intro c
 induction c with
 | skip => intro an Q a w w0 hl h; exact wp_skip ⟨h, hl⟩
 | label l => intro an Q a w w0 hl h; exact wp_label ⟨h, hl⟩
 | exit id => intro an Q a w w0 hl h; exact wp_exit ⟨h, hl⟩
 | ret => intro an Q a w w0 hl h; exact wp_ret ⟨h, hl⟩
 | region id ops draw =>
  intro an Q a w w0 hl h
  cases draw with
  | false => exact regionV_wp hl h
  | true =>
   obtain ⟨h1, h2⟩ := gB_elim h
   rw [Bool.and_eq_true] at h1
   exact drawV_wp hl h1.1 h1.2 h2
 | seq x y ihx ihy =>
  intro an Q a w w0 hl h
  unfold vc at h
  cases hj : an.j with
  | none =>
   rw [hj] at h
   refine wp_seq (wp_mono (ihx an.l _ a w w0 hl h) fun e a' w' h' => ?_)
   cases e <;> first | exact ihy _ _ a' w' w0 h'.2 h'.1 | exact h'
  | some A =>
   rw [hj] at h
   obtain ⟨hso, h⟩ := gB_elim h
   have h1 : vc P x an.l (thenV (fun a' H' => aplH A.live.length (joinK P A (fun a' H' => vc P y an.r Q a' H') a) (readA (A.live.map (·.1)) a') H') Q) a w.heap := h.out
   have h2 := vc_frame (M := A.slots) (a0 := a) x an.l _ (fun e a'' H'' => thenV (fun a' H' => aplH A.live.length (joinK P A (fun a' H' => vc P y an.r Q a' H') a) (readA (A.live.map (·.1)) a') H') Q e a'' H'' ∧ Same A.slots a a'') a w.heap hso (Same.refl _ _) (fun e a'' H'' hs' hq => ⟨hq, hs'⟩) h1
   refine wp_seq (wp_mono (ihx an.l _ a w w0 hl h2) fun e a' w' h' => ?_)
   obtain ⟨⟨h3, h4⟩, h5⟩ := h'
   cases e <;> first | exact ⟨h3, h5⟩ | skip
   obtain ⟨h6, h7⟩ := aplH_cur (show aplH A.live.length (joinK P A (fun a' H' => vc P y an.r Q a' H') a) (readA (A.live.map (·.1)) a') w'.heap from h3)
   have h8 := allV_elim h7 (readA A.junk a') (by simp [readA])
   have h9 := destrs_elim h8
   rw [putsA_same h4] at h9
   exact ihy _ _ a' w' w0 h5 h9
 | cond cc x y ihx ihy =>
  intro an Q a w w0 hl h
  unfold vc at h
  split at h
  ·rename_i b hb
   cases b with
   | true => exact wp_cond_true hb (ihx _ _ a w w0 hl h)
   | false => exact wp_cond_false hb (ihy _ _ a w w0 hl h)
  ·exact h.elim
 | block id b ih =>
  intro an Q a w w0 hl h
  refine wp_block (wp_mono (ih an.l _ a w w0 hl h) fun e a' w' h' => ?_)
  cases e <;> first | exact h' | skip
  rename_i i
  obtain ⟨h1, h2⟩ := h'
  have h1 : (match Nat.beq i id with | true => Q .normal a' w'.heap | false => Q (.exit i) a' w'.heap) := h1
  show (if i = id then lift Q w0 .normal a' w' else lift Q w0 (.exit i) a' w')
  cases hi : Nat.beq i id with
  | true => rw [hi] at h1; simp only [Nat.eq_of_beq_eq_true hi, if_true]; exact ⟨h1, h2⟩
  | false =>
   rw [hi] at h1
   have hne : ¬ i = id := Nat.ne_of_beq_eq_false hi
   simp only [hne, if_false]; exact ⟨h1, h2⟩
 | loop b ih =>
  intro an Q a w w0 hl h
  unfold vc at h
  cases hj : an.j with
  | none => rw [hj] at h; exact h.elim
  | some A =>
   rw [hj] at h
   obtain ⟨hso, I, μ, h2, h3⟩ := gB_elim h
   refine wp_loop (fun a' w' => Same A.slots a a' ∧ okTs P (A.live.map (·.2)) (readA (A.live.map (·.1)) a') (I (readA (A.live.map (·.1)) a') w'.heap) ∧ Like w0 w') (fun a' w' => μ (readA (A.live.map (·.1)) a') w'.heap) ⟨Same.refl _ _, h2, hl⟩ ?_
   rintro a' w' ⟨hs, hok, hl'⟩
   obtain ⟨hI, hall⟩ := okTs_elim hok
   have h4 := hall _ h3
   have h5 := allV_elim h4 (readA A.junk a') (by simp [readA]) w'.heap hI
   rw [putsA_same hs] at h5
   have h6 := vc_frame (M := A.slots) (a0 := a') b an.l _ (fun e a'' H'' => loopQ P A I μ (μ (readA (A.live.map (·.1)) a') w'.heap) Q e a'' H'' ∧ Same A.slots a' a'') a' w'.heap hso (Same.refl _ _) (fun e a'' H'' hs' hq => ⟨hq, hs'⟩) h5
   refine wp_mono (ih an.l _ a' w' w0 hl' h6) fun e a'' w'' h' => ?_
   obtain ⟨⟨h7, h8⟩, h9⟩ := h'
   cases e <;> first | exact ⟨h7, h9⟩ | skip
   obtain ⟨⟨hI', hlt⟩, hall'⟩ := okTs_elim h7
   refine ⟨⟨⟨h8.defers.trans hs.defers, h8.size.trans hs.size, fun i hi => (h8.tmps i hi).trans (hs.tmps i hi)⟩, ?_, h9⟩, hlt⟩
   exact okTs_less (fun h => h.1) h7
 | scope b ih =>
  intro an Q a w w0 hl h
  refine wp_scope_straight (wp_mono (ih an.l _ a w w0 hl h) fun e a' w' h' => ?_)
  cases e <;> first | exact h' | exact h'.1.elim
 | _ => intro an Q a w w0 hl h; exact h.elim
def resS (P : Program) (tmps : Array Value) : List ResultVar → Sp (List Value)
 | [] => .pure []
 | .tmp t :: r => (resS P tmps r).bind fun vs => .pure (tmps.getD t undef :: vs)
 | .cell a t :: r => (addrS (tmps.getD a undef)).bind fun b => (loadS P t b).bind fun v => (resS P tmps r).bind fun vs => .pure (v :: vs)
def oneOf : List Value → Value
 | [v] => v
 | vs => .tuple vs.toArray
theorem gives_res (P : Program) (tmps : Array Value) : ∀ l : List ResultVar, Gq true P (l.mapM fun | .tmp t => Pure.pure (tmps.getD t undef) | .cell a t => (do loadVar t (← asAddr (tmps.getD a undef)) : Sem Value)) (resS P tmps l)
 | [] => by rw [List.mapM_nil]; exact Gq.pure []
 | .tmp t :: r => by
  rw [List.mapM_cons]
  exact fun K E H hx => (Gq.bind (s := Pure.pure (tmps.getD t undef)) (x := Sp.pure (tmps.getD t undef)) (Gq.pure _) (g := fun v => (resS P tmps r).bind fun vs => Sp.pure (v :: vs)) fun v => (gives_res P tmps r).bind fun vs => Gq.pure (v :: vs)) K E H hx
 | .cell a t :: r => by
  rw [List.mapM_cons]
  exact fun K E H hx => (Gq.bind (Gq.bind (gives_asAddr P (tmps.getD a undef)) fun b => gives_load P t b) (g := fun v => (resS P tmps r).bind fun vs => Sp.pure (v :: vs)) fun v => (gives_res P tmps r).bind fun vs => Gq.pure (v :: vs)) K E H hx
theorem gives_results (P : Program) (fn : Func) (tmps : Array Value) : Gq true P (results fn tmps) ((resS P tmps fn.results.toList).bind fun vs => .pure (oneOf vs)) := fun K E H hx => by
 obtain ⟨vs, hv, hr⟩ := gives_res P tmps fn.results.toList (fun vs H => K (oneOf vs) H) E H hx
 refine ⟨oneOf vs, hv, fun w hw => ?_⟩
 have h1 := hr w hw
 obtain ⟨l, hl⟩ : ∃ l, fn.results = List.toArray l := ⟨fn.results.toList, by simp⟩
 rw [hl] at h1
 unfold results
 rw [hl]
 have h2 : ((l.toArray.mapM fun | ResultVar.tmp t => Pure.pure (tmps.getD t undef) | ResultVar.cell a t => (do loadVar t (← asAddr (tmps.getD a undef)) : Sem Value))).run P w = Result.ok vs.toArray w := by
  rw [List.mapM_toArray]
  simp only [Sem.run_map]
  rw [h1]; rfl
 rw [Sem.run_bind]
 refine (congrArg (fun r => Result.andThen r _) (show _ = Result.ok vs.toArray w from h2)).trans ?_
 simp only [Result.andThen_ok, Sem.run_pure]
 congr 1
 match vs with
 | [] => simp [oneOf]
 | [v] => simp [oneOf]
 | v :: u :: r => simp [oneOf]
def HCallsD (P : Program) (f : FuncId) (args : Array Value) (u : FrameMode) (H : Heap) (R : Ending → FrameMode → Heap → Prop) : Prop :=
 ∀ w : World, w.heap = H → CallsD P f args u w fun e u' w' => R e u' w'.heap ∧ Like w w'
def resK (P : Program) (fn : Func) (tmps : Array Value) (R : Ending → Heap → Prop) (H : Heap) : Prop :=
 (resS P tmps fn.results.toList).run (fun vs _ => R (.returned (oneOf vs)) H) (fun _ _ => False) H
def leavesV (P : Program) (fn : Func) (tmps : Array Value) (R : Ending → Heap → Prop) : List Deferred → FrameMode → Heap → Prop
 | [], .returning, H => resK P fn tmps R H
 | [], .panicking c, H => R (.panicked c) H
 | [], .run, _ => False
 | _ :: _, .run, _ => False
 | d :: ds, u, H => match d.target with
  | .fn (.func g) cap => gB (plainFn P g) (HCallsD P g (d.args.toList ++ cap.toList).toArray u H fun e u' H' => match e with
   | .returned _ => leavesV P fn tmps R ds (settle u') H'
   | .panicked c => leavesV P fn tmps R ds (raised u' c) H'
   | .outgrown => False)
  | _ => False
theorem leavesV_cons (P : Program) (fn : Func) (tmps : Array Value) (R : Ending → Heap → Prop) (d : Deferred) (ds : List Deferred) (H : Heap) (u : FrameMode) (hu : u ≠ .run) :
  leavesV P fn tmps R (d :: ds) u H = (match d.target with
  | .fn (.func g) cap => gB (plainFn P g) (HCallsD P g (d.args.toList ++ cap.toList).toArray u H fun e u' H' => match e with
   | .returned _ => leavesV P fn tmps R ds (settle u') H'
   | .panicked c => leavesV P fn tmps R ds (raised u' c) H'
   | .outgrown => False)
  | _ => False) := by
 cases u with
 | run => exact (hu rfl).elim
 | returning => rfl
 | panicking c => rfl
def postV (P : Program) (fn : Func) (R : Ending → Heap → Prop) : Exit → Act → Heap → Prop
 | .normal, a, H => leavesV P fn a.tmps R a.defers .returning H
 | .ret, a, H => leavesV P fn a.tmps R a.defers .returning H
 | .panic c, a, H => leavesV P fn a.tmps R a.defers (.panicking c) H
 | _, _, _ => False
theorem leaves_of {P : Program} {fn : Func} {tmps : Array Value} {R : Ending → Heap → Prop} {w0 : World} : ∀ (ds : List Deferred) (u : FrameMode) (w : World), u ≠ .run → Like w0 w → leavesV P fn tmps R ds u w.heap →
  Leaves P fn tmps (fun e w' => R e w'.heap ∧ Like w0 w') ds u w
 | [], .returning, w, _, hl, h => by
  obtain ⟨v, hv, hr⟩ := gives_results P fn tmps (fun v H' => R (.returned v) w.heap) (fun _ _ => False) w.heap h
  exact ⟨v, hr w fun _ => rfl, hv, hl⟩
 | [], .panicking c, w, _, hl, h => ⟨h, hl⟩
 | [], .run, w, hu, hl, h => h.elim
 | d :: ds, u, w, hu, hl, h => by
  obtain ⟨target, dargs⟩ := d
  rw [leavesV_cons _ _ _ _ _ _ _ _ hu] at h
  cases target <;> first | exact h.elim | skip
  rename_i fv cap
  cases fv <;> first | exact h.elim | skip
  rename_i g
  obtain ⟨hp, h⟩ := gB_elim h
  have ea : (dargs.toList ++ cap.toList).toArray = dargs ++ cap := Array.toList_inj.1 (by simp)
  simp only [ea] at h
  have hinv : (invoke (.fn (.func g) cap) dargs).run P w = .ok (.enter g (dargs ++ cap)) w := by
   unfold plainFn at hp
   cases hfn : P.funcs[g]? with
   | none => rw [hfn] at hp; cases hp
   | some fn' =>
    rw [hfn] at hp
    simp only at hp
    cases hn : (fn'.name == "runtime.NumGoroutine") with
    | true => rw [hn] at hp; cases hp
    | false =>
     rw [hn] at hp
     simp only at hp
     have hn' : ¬ (fn'.name = "runtime.NumGoroutine") := by simpa using hn
     have hb' : ¬ (fn'.body = none) := by intro h; rw [h] at hp; cases hp
     simp [invoke, callFunc, hfn, hn', hb']
  refine ⟨hu, .func g, cap, g, dargs ++ cap, rfl, hinv, Go.CallsD.mono (h w rfl) fun e u' w' h' => ?_⟩
  obtain ⟨h1, h2⟩ := h'
  have hset : ∀ u', settle u' ≠ .run ∨ u' = .run := fun u' => by
   unfold settle
   split
   ·split <;> exact .inl (by simp)
   ·exact (Classical.em (u' = .run)).symm.imp id id
  cases e with
  | returned v =>
   rcases hset u' with hs | rfl
   ·exact leaves_of ds _ w' hs (hl.trans h2) h1
   ·cases ds with
    | nil => exact h1.elim
    | cons d2 ds2 => exact h1.elim
  | panicked c =>
   have hr : raised u' c ≠ .run := by unfold raised; split <;> simp
   exact leaves_of ds _ w' hr (hl.trans h2) h1
  | outgrown => exact h1.elim
theorem calls_vc {P : Program} {f : FuncId} {fn : Func} {c : Code} (an : An) {args : Array Value} {H : Heap} {R : Ending → Heap → Prop}
  (hf : P.funcs[f]? = some fn) (hb : fn.body = some c)
  (h : vc P c an (postV P fn R) ⟨args ++ Array.replicate (fn.ntmps - args.size) undef, []⟩ H) : HCalls P f args H R := by
 intro w hw
 subst hw
 refine calls_of_wp_defers hf hb (wp_mono (vc_wp c an _ _ w w (Like.refl w) h) fun e a w' h' => ?_)
 obtain ⟨h1, h2⟩ := h'
 cases e with
 | normal => exact leaves_of _ _ w' (by simp) h2 h1
 | ret => exact leaves_of _ _ w' (by simp) h2 h1
 | panic ch => exact leaves_of _ _ w' (by simp) h2 h1
 | exit i => exact h1.elim
 | goto l => exact h1.elim
 | outgrown => exact h1.elim
def codeOf (fn : Func) : Code := fn.body.getD .skip
theorem calls_by {P : Program} {f : FuncId} {fn : Func} (an : An) {args : Array Value} {H : Heap} {R : Ending → Heap → Prop} {F : Prop}
  (hf : P.funcs[f]? = some fn) (hb : fn.body.isSome = true)
  (e : F = vc P (codeOf fn) an (postV P fn R) ⟨args ++ Array.replicate (fn.ntmps - args.size) undef, []⟩ H) (h : F) : HCalls P f args H R := by
 obtain ⟨c, hc⟩ := Option.isSome_iff_exists.1 hb
 have : codeOf fn = c := by simp [codeOf, hc]
 exact calls_vc an hf hc (this ▸ (e ▸ h))
abbrev pnR (R : Ending → Heap → Prop) : List PanicEntry → Heap → Prop := fun c H => R (Ending.panicked c) H
abbrev nopR : List PanicEntry → Heap → Prop := fun _ _ => False
abbrev zE := Ending → Heap → Prop
abbrev zlG (H : Heap) (r : Nat) (k : Value → Value → Value → Value → Value → Value → Value → Value → Value → Value → Value → Value → Value → Value → Value → Value → Value → Value → Value → Value → Value → Value → Value → Value → Value → Value → Value → Value → Value → Value → Value → Value → Value → Value → Value → Value → Value → Value → Value → Value → Value → Prop) : Prop := ld H ⟨r, 0, none⟩ fun v0 => ld H ⟨r, 1, none⟩ fun v1 => ld H ⟨r, 2, none⟩ fun v2 => ld H ⟨r, 3, none⟩ fun v3 => ld H ⟨r, 4, none⟩ fun v4 => ld H ⟨r, 5, none⟩ fun v5 => ld H ⟨r, 6, none⟩ fun v6 => ld H ⟨r, 7, none⟩ fun v7 => ld H ⟨r, 8, none⟩ fun v8 => ld H ⟨r, 9, none⟩ fun v9 => ld H ⟨r, 10, none⟩ fun v10 => ld H ⟨r, 11, none⟩ fun v11 => ld H ⟨r, 12, none⟩ fun v12 => ld H ⟨r, 13, none⟩ fun v13 => ld H ⟨r, 14, none⟩ fun v14 => ld H ⟨r, 15, none⟩ fun v15 => ld H ⟨r, 16, none⟩ fun v16 => ld H ⟨r, 17, none⟩ fun v17 => ld H ⟨r, 18, none⟩ fun v18 => ld H ⟨r, 19, none⟩ fun v19 => ld H ⟨r, 20, none⟩ fun v20 => ld H ⟨r, 21, none⟩ fun v21 => ld H ⟨r, 22, none⟩ fun v22 => ld H ⟨r, 23, none⟩ fun v23 => ld H ⟨r, 24, none⟩ fun v24 => ld H ⟨r, 25, none⟩ fun v25 => ld H ⟨r, 26, none⟩ fun v26 => ld H ⟨r, 27, none⟩ fun v27 => ld H ⟨r, 28, none⟩ fun v28 => ld H ⟨r, 29, none⟩ fun v29 => ld H ⟨r, 30, none⟩ fun v30 => ld H ⟨r, 31, none⟩ fun v31 => ld H ⟨r, 32, none⟩ fun v32 => ld H ⟨r, 33, none⟩ fun v33 => ld H ⟨r, 34, none⟩ fun v34 => ld H ⟨r, 35, none⟩ fun v35 => ld H ⟨r, 36, none⟩ fun v36 => ld H ⟨r, 37, none⟩ fun v37 => ld H ⟨r, 38, none⟩ fun v38 => ld H ⟨r, 39, none⟩ fun v39 => ld H ⟨r, 40, none⟩ fun v40 => k v0 v1 v2 v3 v4 v5 v6 v7 v8 v9 v10 v11 v12 v13 v14 v15 v16 v17 v18 v19 v20 v21 v22 v23 v24 v25 v26 v27 v28 v29 v30 v31 v32 v33 v34 v35 v36 v37 v38 v39 v40
abbrev zsG (H : Heap) (r : Nat) (v0 v1 v2 v3 v4 v5 v6 v7 v8 v9 v10 v11 v12 v13 v14 v15 v16 v17 v18 v19 v20 v21 v22 v23 v24 v25 v26 v27 v28 v29 v30 v31 v32 v33 v34 v35 v36 v37 v38 v39 v40 : Value) (k : Heap → Prop) : Prop := st H ⟨r, 0, none⟩ v0 fun H0 => st H0 ⟨r, 1, none⟩ v1 fun H1 => st H1 ⟨r, 2, none⟩ v2 fun H2 => st H2 ⟨r, 3, none⟩ v3 fun H3 => st H3 ⟨r, 4, none⟩ v4 fun H4 => st H4 ⟨r, 5, none⟩ v5 fun H5 => st H5 ⟨r, 6, none⟩ v6 fun H6 => st H6 ⟨r, 7, none⟩ v7 fun H7 => st H7 ⟨r, 8, none⟩ v8 fun H8 => st H8 ⟨r, 9, none⟩ v9 fun H9 => st H9 ⟨r, 10, none⟩ v10 fun H10 => st H10 ⟨r, 11, none⟩ v11 fun H11 => st H11 ⟨r, 12, none⟩ v12 fun H12 => st H12 ⟨r, 13, none⟩ v13 fun H13 => st H13 ⟨r, 14, none⟩ v14 fun H14 => st H14 ⟨r, 15, none⟩ v15 fun H15 => st H15 ⟨r, 16, none⟩ v16 fun H16 => st H16 ⟨r, 17, none⟩ v17 fun H17 => st H17 ⟨r, 18, none⟩ v18 fun H18 => st H18 ⟨r, 19, none⟩ v19 fun H19 => st H19 ⟨r, 20, none⟩ v20 fun H20 => st H20 ⟨r, 21, none⟩ v21 fun H21 => st H21 ⟨r, 22, none⟩ v22 fun H22 => st H22 ⟨r, 23, none⟩ v23 fun H23 => st H23 ⟨r, 24, none⟩ v24 fun H24 => st H24 ⟨r, 25, none⟩ v25 fun H25 => st H25 ⟨r, 26, none⟩ v26 fun H26 => st H26 ⟨r, 27, none⟩ v27 fun H27 => st H27 ⟨r, 28, none⟩ v28 fun H28 => st H28 ⟨r, 29, none⟩ v29 fun H29 => st H29 ⟨r, 30, none⟩ v30 fun H30 => st H30 ⟨r, 31, none⟩ v31 fun H31 => st H31 ⟨r, 32, none⟩ v32 fun H32 => st H32 ⟨r, 33, none⟩ v33 fun H33 => st H33 ⟨r, 34, none⟩ v34 fun H34 => st H34 ⟨r, 35, none⟩ v35 fun H35 => st H35 ⟨r, 36, none⟩ v36 fun H36 => st H36 ⟨r, 37, none⟩ v37 fun H37 => st H37 ⟨r, 38, none⟩ v38 fun H38 => st H38 ⟨r, 39, none⟩ v39 fun H39 => st H39 ⟨r, 40, none⟩ v40 fun H40 => k H40
abbrev zl9 (H : Heap) (r : Nat) (k : Value → Value → Value → Value → Value → Value → Value → Value → Value → Prop) : Prop := ld H ⟨r, 0, none⟩ fun v0 => ld H ⟨r, 1, none⟩ fun v1 => ld H ⟨r, 2, none⟩ fun v2 => ld H ⟨r, 3, none⟩ fun v3 => ld H ⟨r, 4, none⟩ fun v4 => ld H ⟨r, 5, none⟩ fun v5 => ld H ⟨r, 6, none⟩ fun v6 => ld H ⟨r, 7, none⟩ fun v7 => ld H ⟨r, 8, none⟩ fun v8 => k v0 v1 v2 v3 v4 v5 v6 v7 v8
abbrev zs9 (H : Heap) (r : Nat) (v0 v1 v2 v3 v4 v5 v6 v7 v8 : Value) (k : Heap → Prop) : Prop := st H ⟨r, 0, none⟩ v0 fun H0 => st H0 ⟨r, 1, none⟩ v1 fun H1 => st H1 ⟨r, 2, none⟩ v2 fun H2 => st H2 ⟨r, 3, none⟩ v3 fun H3 => st H3 ⟨r, 4, none⟩ v4 fun H4 => st H4 ⟨r, 5, none⟩ v5 fun H5 => st H5 ⟨r, 6, none⟩ v6 fun H6 => st H6 ⟨r, 7, none⟩ v7 fun H7 => st H7 ⟨r, 8, none⟩ v8 fun H8 => k H8
abbrev zl3 (H : Heap) (r : Nat) (k : Value → Value → Value → Prop) : Prop := ld H ⟨r, 0, none⟩ fun v0 => ld H ⟨r, 1, none⟩ fun v1 => ld H ⟨r, 2, none⟩ fun v2 => k v0 v1 v2
abbrev zs3 (H : Heap) (r : Nat) (v0 v1 v2 : Value) (k : Heap → Prop) : Prop := st H ⟨r, 0, none⟩ v0 fun H0 => st H0 ⟨r, 1, none⟩ v1 fun H1 => st H1 ⟨r, 2, none⟩ v2 fun H2 => k H2
end Go.Proofs.YtklppdodadkcnaaGreat.E
namespace Go.Proofs.YtklppdodadkcnaaGreat.E
open Go
set_option linter.unusedVariables false
structure Ext (H H' : Heap) : Prop where
 size : H.size ≤ H'.size
 get : ∀ k, k < H.size → H'[k]? = H[k]?
theorem Ext.refl (H : Heap) : Ext H H := ⟨Nat.le_refl _, fun _ _ => rfl⟩
theorem Ext.trans {A B C : Heap} (h : Ext A B) (k : Ext B C) : Ext A C := ⟨Nat.le_trans h.size k.size, fun i hi => (k.get i (Nat.lt_of_lt_of_le hi h.size)).trans (h.get i hi)⟩
theorem Ext.push (H : Heap) (o : Obj) : Ext H (H.push o) := ⟨by simp, fun k hk => by rw [Array.getElem?_push]; simp [Nat.ne_of_lt hk]⟩
theorem cellH_of {H H' : Heap} {a : Addr} (h : H'[a.block]? = H[a.block]?) : cellH H' a = cellH H a := by unfold cellH; rw [h]
theorem Ext.cell {H H' : Heap} (h : Ext H H') {a : Addr} (hb : a.block < H.size) : cellH H' a = cellH H a := cellH_of (h.get _ hb)
theorem add_mk (b i n : Nat) : Addr.add ⟨b, i, none⟩ n = ⟨b, i + n, none⟩ := by simp [Addr.add]
theorem ld_i {H : Heap} {a : Addr} {v : Value} {k : Value → Prop} (h : cellH H a = some v) (hk : k v) : ld H a k := by unfold ld; rw [h]; exact hk
theorem st_i {H : Heap} {a : Addr} {v u : Value} {k : Heap → Prop} (h1 : oneC v = true) (h2 : cellH H a = some u) (h3 : frozenH H a = false) (hk : k (setH H a v)) : st H a v k := ⟨⟨h1, by rw [h2]; rfl, h3⟩, hk⟩
theorem dInt_i {kd : IntKind} {n : Int} {k : Int → Prop} (hk : k n) : dInt kd (.int kd n) k := by
 show gB (decide (kd = kd)) (k n)
 rw [decide_eq_true rfl]; exact hk
theorem sB_i {b : Bool} {x y : Prop} (h1 : b = true → x) (h2 : b = false → y) : sB b x y := by cases b <;> first | exact h1 rfl | exact h2 rfl
theorem sB_d {p : Prop} [Decidable p] {x y : Prop} (h1 : p → x) (h2 : ¬ p → y) : sB (decide p) x y := by
 by_cases h : p
 ·rw [decide_eq_true h]; exact h1 h
 ·rw [decide_eq_false h]; exact h2 h
theorem sB_ne {m n : Int} {x y : Prop} (h1 : m ≠ n → x) (h2 : m = n → y) : sB (m != n) x y := by
 by_cases h : m = n
 ·subst h; simp only [bne_self_eq_false]; exact h2 rfl
 ·rw [show (m != n) = true by simpa using h]; exact h1 h
theorem sB_eq {m n : Int} {x y : Prop} (h1 : m = n → x) (h2 : m ≠ n → y) : sB (m == n) x y := by
 by_cases h : m = n
 ·subst h; simp only [beq_self_eq_true]; exact h1 rfl
 ·rw [show (m == n) = false by simpa using h]; exact h2 h
theorem gB_i {b : Bool} {x : Prop} (h : b = true) (hx : x) : gB b x := by subst h; exact hx
theorem nz_i {a : Addr} {k : Addr → Prop} (h : k a) : nz (some a) k := h
theorem wrap_id {n : Int} (h1 : -9223372036854775808 ≤ n) (h2 : n ≤ 9223372036854775807) : IntKind.wrap .i64 n = n := by
 have e64 : (2 : Int) ^ 64 = 18446744073709551616 := by decide
 have e63 : (2 : Int) ^ (64 - 1) = 9223372036854775808 := by decide
 simp only [IntKind.wrap, IntKind.bits, IntKind.signed, Bool.true_and, e64, e63, ge_iff_le, decide_eq_true_eq]
 split <;> omega
theorem gB_eq {b : Bool} {x : Prop} (h : b = true) : gB b x = x := by subst h; rfl
end Go.Proofs.YtklppdodadkcnaaGreat.E
namespace Go.Proofs.YtklppdodadkcnaaGreat.E
open Go
set_option linter.unusedVariables false
structure TH where
 h : Heap
 g : Nat → Nat
def upd (g : Nat → Nat) (r τ : Nat) : Nat → Nat := fun j => if j = r then τ else g j
structure Chg (B : Nat → Prop) (s s' : TH) : Prop where
 size : s.h.size ≤ s'.h.size
 tag : ∀ j, j < s.h.size → s'.g j = s.g j
 get : ∀ j, j < s.h.size → ¬ B j → s'.h[j]? = s.h[j]?
abbrev Ch (T : List Nat) (s s' : TH) : Prop := Chg (fun j => s.g j ∈ T) s s'
abbrev On (r : Nat) (s s' : TH) : Prop := Chg (fun j => j = r) s s'
theorem Chg.mono {B B' : Nat → Prop} {s s' : TH} (h : Chg B s s') (hb : ∀ j, j < s.h.size → B j → B' j) : Chg B' s s' := ⟨h.size, h.tag, fun j hj hn => h.get j hj fun hB => hn (hb j hj hB)⟩
theorem Chg.trans {B B' : Nat → Prop} {a b c : TH} (h : Chg B a b) (k : Chg B' b c) (hb : ∀ j, j < a.h.size → B' j → B j) : Chg B a c :=
 ⟨Nat.le_trans h.size k.size, fun j hj => (k.tag j (Nat.lt_of_lt_of_le hj h.size)).trans (h.tag j hj),
  fun j hj hn => (k.get j (Nat.lt_of_lt_of_le hj h.size) fun hB => hn (hb j hj hB)).trans (h.get j hj hn)⟩
theorem Ch.refl (T : List Nat) (s : TH) : Ch T s s := ⟨Nat.le_refl _, fun _ _ => rfl, fun _ _ _ => rfl⟩
theorem Ch.ch {T T' : List Nat} {a b c : TH} (h : Ch T a b) (k : Ch T' b c) (hT : ∀ x ∈ T', x ∈ T) : Ch T a c :=
 Chg.trans h k fun j hj hB => hT _ (by rw [← h.tag j hj]; exact hB)
theorem Ch.on_new {T : List Nat} {a b c : TH} {r : Nat} (h : Ch T a b) (k : On r b c) (hr : a.h.size ≤ r) : Ch T a c :=
 Chg.trans h k fun j hj hB => absurd hB (by omega)
theorem Ch.on_tag {T : List Nat} {a b c : TH} {r τ : Nat} (h : Ch T a b) (k : On r b c) (hr : b.g r = τ) (ht : τ ∈ T) : Ch T a c :=
 Chg.trans h k fun j hj hB => by subst hB; show a.g j ∈ T; rw [← h.tag j hj, hr]; exact ht
theorem Ch.less {T T' : List Nat} {a b : TH} (h : Ch T a b) (hT : ∀ x ∈ T, x ∈ T') : Ch T' a b := Chg.mono h fun _ _ hB => hT _ hB
theorem Chg.ext {s s' : TH} (h : Ch [] s s') : Ext s.h s'.h := ⟨h.size, fun j hj => h.get j hj (by simp)⟩
structure Blk (s : TH) (r : Nat) (l : List Value) (t : TypeId) (τ : Nat) : Prop where
 get : s.h[r]? = some (.cells l.toArray t (0, 0))
 tag : s.g r = τ
theorem Blk.lt {s : TH} {r : Nat} {l : List Value} {t τ : Nat} (h : Blk s r l t τ) : r < s.h.size := (Array.getElem?_eq_some_iff.1 h.get).1
theorem Blk.mv {s s' : TH} {r : Nat} {l : List Value} {t τ : Nat} {B : Nat → Prop} (h : Blk s r l t τ) (c : Chg B s s') (hn : ¬ B r) : Blk s' r l t τ :=
 ⟨(c.get r h.lt hn).trans h.get, (c.tag r h.lt).trans h.tag⟩
theorem Blk.ch {s s' : TH} {r : Nat} {l : List Value} {t τ : Nat} {T : List Nat} (h : Blk s r l t τ) (c : Ch T s s') (hn : τ ∉ T) : Blk s' r l t τ := h.mv c (by show s.g r ∉ T; rw [h.tag]; exact hn)
theorem Blk.on {s s' : TH} {r r' : Nat} {l : List Value} {t τ : Nat} (h : Blk s r l t τ) (c : On r' s s') (hn : r ≠ r') : Blk s' r l t τ := h.mv c hn
theorem Blk.cell {s : TH} {r : Nat} {l : List Value} {t τ : Nat} (h : Blk s r l t τ) (i : Nat) : cellH s.h ⟨r, i, none⟩ = l[i]? := by
 simp [cellH, h.get]
theorem Blk.frozen {s : TH} {r : Nat} {l : List Value} {t τ : Nat} (h : Blk s r l t τ) (i : Nat) : frozenH s.h ⟨r, i, none⟩ = false := by
 simp [frozenH, h.get]
abbrev ChL (T L : List Nat) (s s' : TH) : Prop := Chg (fun j => s.g j ∈ T ∨ j ∈ L) s s'
theorem ChL.refl (T L : List Nat) (s : TH) : ChL T L s s := ⟨Nat.le_refl _, fun _ _ => rfl, fun _ _ _ => rfl⟩
theorem ChL.ch {T T' L : List Nat} {a b c : TH} (h : ChL T L a b) (k : Ch T' b c) (hT : ∀ x ∈ T', x ∈ T) : ChL T L a c :=
 Chg.trans h k fun j hj hB => .inl (hT _ (by rw [← h.tag j hj]; exact hB))
theorem ChL.on {T L : List Nat} {a b c : TH} {r : Nat} (h : ChL T L a b) (k : On r b c) (hr : r ∈ L) : ChL T L a c :=
 Chg.trans h k fun j hj hB => .inr (by subst hB; exact hr)
theorem ChL.on_new {T L : List Nat} {a b c : TH} {r : Nat} (h : ChL T L a b) (k : On r b c) (hr : a.h.size ≤ r) : ChL T L a c :=
 Chg.trans h k fun j hj hB => absurd hB (by omega)
theorem ChL.on_tag {T L : List Nat} {a b c : TH} {r τ : Nat} (h : ChL T L a b) (k : On r b c) (hr : b.g r = τ) (ht : τ ∈ T) : ChL T L a c :=
 Chg.trans h k fun j hj hB => .inl (by subst hB; rw [← h.tag j hj, hr]; exact ht)
theorem ChL.chl {T T' L L' : List Nat} {a b c : TH} (h : ChL T L a b) (k : ChL T' L' b c) (hT : ∀ x ∈ T', x ∈ T) (hL : ∀ r ∈ L', r ∈ L ∨ a.h.size ≤ r) : ChL T L a c :=
 Chg.trans h k fun j hj hB => hB.elim (fun hB => .inl (hT _ (by rw [← h.tag j hj]; exact hB))) (fun hB => (hL j hB).elim .inr fun h => absurd h (by omega))
theorem Ch.chl {T T' L' : List Nat} {a b c : TH} (h : Ch T a b) (k : ChL T' L' b c) (hT : ∀ x ∈ T', x ∈ T) (hL : ∀ r ∈ L', a.h.size ≤ r) : Ch T a c :=
 Chg.trans h k fun j hj hB => hB.elim (fun hB => hT _ (by rw [← h.tag j hj]; exact hB)) (fun hB => absurd (hL j hB) (by omega))
theorem Blk.chl {s s' : TH} {r : Nat} {l : List Value} {t τ : Nat} {T L : List Nat} (h : Blk s r l t τ) (c : ChL T L s s') (hn : τ ∉ T) (hl : r ∉ L) : Blk s' r l t τ := h.mv c (fun h1 => h1.elim (fun h1 => hn (by rw [h.tag] at h1; exact h1)) hl)
theorem tagL {s : TH} {τ : Nat} {T L : List Nat} (h : τ ∉ T) (hl : ∀ r ∈ L, s.g r ≠ τ) : ∀ j, j < s.h.size → s.g j = τ → ¬ (s.g j ∈ T ∨ j ∈ L) := fun j _ e h' => h'.elim (fun h' => h (e ▸ h')) (fun h' => hl j h' e)
def RT (Q : Value → TH → Prop) : Ending → Heap → Prop := fun e H' => ∃ v s', e = .returned v ∧ s'.h = H' ∧ Q v s'
def TRet (P : Program) (f : FuncId) (args : Array Value) (s : TH) (Q : Value → TH → Prop) : Prop := HCalls P f args s.h (RT Q)
theorem ret_t {Q : Value → TH → Prop} {v : Value} {s : TH} (h : Q v s) : RT Q (.returned v) s.h := ⟨v, s, rfl, rfl, h⟩
theorem tcall {P : Program} {f : FuncId} {args : Array Value} {s : TH} {Q : Value → TH → Prop} {K : Value → Heap → Prop} {E : List PanicEntry → Heap → Prop}
  (h : TRet P f args s Q) (hk : ∀ v s', Q v s' → K v s'.h) : HCalls P f args s.h (Sp.retK K E) :=
 HCalls.mono h fun e H' ⟨v, s', he, hs, hq⟩ => by subst he hs; exact hk v s' hq
theorem TRet.mono {P : Program} {f : FuncId} {args : Array Value} {s : TH} {Q Q' : Value → TH → Prop} (h : TRet P f args s Q) (hk : ∀ v s', Q v s' → Q' v s') : TRet P f args s Q' :=
 HCalls.mono h fun e H' ⟨v, s', he, hs, hq⟩ => ⟨v, s', he, hs, hk v s' hq⟩
theorem pushed (s : TH) (o : Obj) (τ : Nat) : Ch [] s ⟨s.h.push o, upd s.g s.h.size τ⟩ :=
 ⟨by simp, fun j hj => by simp [upd, Nat.ne_of_lt hj], fun j hj _ => by rw [Array.getElem?_push]; simp [Nat.ne_of_lt hj]⟩
theorem al_t (τ : Nat) {s : TH} {l : List Value} {t : TypeId} {k : Nat → Heap → Prop}
  (hk : ∀ (r : Nat) (s' : TH), r = s.h.size → Blk s' r l t τ → Ch [] s s' → s.h.size + 1 = s'.h.size → k r s'.h) : al s.h (.cells l.toArray t) k :=
 hk s.h.size ⟨s.h.push (.cells l.toArray t), upd s.g s.h.size τ⟩ rfl ⟨by simp, by simp [upd]⟩ (pushed _ _ _) (by simp)
theorem ld_t {s : TH} {r : Nat} {l : List Value} {t τ i : Nat} {v : Value} {k : Value → Prop} (h : Blk s r l t τ) (hv : l[i]? = some v) (hk : k v) : ld s.h ⟨r, i, none⟩ k :=
 ld_i (by rw [h.cell]; exact hv) hk
theorem modify_get {H : Heap} {r : Nat} {f : Obj → Obj} {j : Nat} : (H.modify r f)[j]? = if r = j then H[j]?.map f else H[j]? := by
 rw [Array.getElem?_modify]
theorem set_on {s : TH} {r : Nat} {l : List Value} {t τ i : Nat} {v : Value} (h : Blk s r l t τ) : Blk ⟨setH s.h ⟨r, i, none⟩ v, s.g⟩ r (l.set i v) t τ ∧ On r s ⟨setH s.h ⟨r, i, none⟩ v, s.g⟩ := by
 refine ⟨⟨?_, h.tag⟩, ⟨by simp [setH], fun _ _ => rfl, fun j hj hn => ?_⟩⟩
 ·show (setH s.h ⟨r, i, none⟩ v)[r]? = _
  unfold setH
  rw [modify_get, if_pos rfl, h.get]
  simp
 ·show (setH s.h ⟨r, i, none⟩ v)[j]? = _
  unfold setH
  rw [modify_get, if_neg (fun e => hn e.symm)]
theorem st_t {s : TH} {r : Nat} {l : List Value} {t τ i : Nat} {v : Value} {k : Heap → Prop} (h : Blk s r l t τ) (h1 : oneC v = true) (hi : i < l.length)
  (hk : ∀ s' : TH, Blk s' r (l.set i v) t τ → On r s s' → s.h.size = s'.h.size → k s'.h) : st s.h ⟨r, i, none⟩ v k := by
 refine st_i h1 (u := l[i]) (by rw [h.cell]; simp [hi]) (h.frozen i) ?_
 have := set_on (i := i) (v := v) h
 exact hk ⟨setH s.h ⟨r, i, none⟩ v, s.g⟩ this.1 this.2 (by simp [setH])
theorem wr_t {n : Int} {k : Int → Prop} (h : -9223372036854775808 ≤ n ∧ n ≤ 9223372036854775807) (hk : k n) : wr .i64 n k := by
 unfold wr; rw [wrap_id h.1 h.2]; exact hk
theorem wr_a {kd : IntKind} {n : Int} {k : Int → Prop} (hk : ∀ m, m = kd.wrap n → k m) : wr kd n k := hk _ rfl
theorem nm_a {n : Int} {k : Int → Prop} (hk : ∀ m, m = n → k m) : nm n k := hk _ rfl
theorem nm_t {n m : Int} {k : Int → Prop} (h : n = m) (hk : k m) : nm n k := h ▸ hk
theorem ask_t {p x : Prop} (h : p) (hx : x) : ask p x := ⟨h, hx⟩
theorem dBl_i {b : Bool} {k : Bool → Prop} (h : k b) : dBl (.bool b) k := h
theorem dT2 {a b : Value} {k : VF 2} (h : (k : Value → Value → Prop) a b) : dT 2 (.tuple #[a, b]) k := h
theorem dT3 {a b c : Value} {k : VF 3} (h : (k : Value → Value → Value → Prop) a b c) : dT 3 (.tuple #[a, b, c]) k := h
theorem sB_t {b : Bool} {x y : Prop} (h : b = true) (hx : x) : sB b x y := by subst h; exact hx
theorem sB_f {b : Bool} {x y : Prop} (h : b = false) (hy : y) : sB b x y := by subst h; exact hy
theorem jn0 {K : Heap → Prop} {f : (Heap → Prop) → Prop} (J : TH → Prop) (h1 : ∀ s, J s → K s.h) (h2 : ∀ K' : Heap → Prop, (∀ s : TH, J s → K' s.h) → f K') : jn K f := ⟨h2 K h1⟩
theorem jn1 {α : Type} {K : α → Heap → Prop} {f : (α → Heap → Prop) → Prop} (J : α → TH → Prop) (h1 : ∀ a s, J a s → K a s.h) (h2 : ∀ K' : α → Heap → Prop, (∀ a (s : TH), J a s → K' a s.h) → f K') : jn K f := ⟨h2 K h1⟩
theorem jn_u {α : Type} {K : α} {f : α → Prop} (h : f K) : jn K f := ⟨h⟩
theorem tagn {s : TH} {τ : Nat} {T : List Nat} (h : τ ∉ T) : ∀ j, j < s.h.size → s.g j = τ → ¬ s.g j ∈ T := fun j _ e => by rw [e]; exact h
theorem onn {s : TH} {τ r : Nat} (h : s.g r ≠ τ) : ∀ j, j < s.h.size → s.g j = τ → ¬ j = r := fun j _ e h' => h (h' ▸ e)
theorem sB_n {b : Bool} {x y : Prop} (h1 : b = false → x) (h2 : b = true → y) : sB (!b) x y := by cases b <;> first | exact h1 rfl | exact h2 rfl
theorem sB_nd {p : Prop} [Decidable p] {x y : Prop} (h1 : ¬ p → x) (h2 : p → y) : sB (!decide p) x y := sB_n (fun h => h1 (of_decide_eq_false h)) (fun h => h2 (of_decide_eq_true h))
theorem dPtr_i {a : Option Addr} {k : Option Addr → Prop} (h : k a) : dPtr (.pointer a) k := h
theorem dSl_i {a : Option Addr} {n c : Nat} {k : Option Addr → Nat → Nat → Prop} (h : k a n c) : dSl (.slice a n c) k := h
theorem dMap_i {a : Option Nat} {k : Option Nat → Prop} (h : k a) : dMap (.map a) k := h
theorem dStr_i {a : ByteArray} {k : ByteArray → Prop} (h : k a) : dStr (.string a) k := h
theorem dFn_i {g : FuncId} {a b : Array Value} {k : FuncId → Array Value → Array Value → Prop} (h : k g a b) : dFn (.func (.func g) a b) k := h
theorem oV_i {o : Option Value} {v : Value} {k : Value → Prop} (h : o = some v) (hk : k v) : oV o k := by subst h; exact hk
theorem ret_b {P Q : Bool} (h : P = Q) : Value.bool P = Value.bool Q := by rw [h]
theorem ret_i {k : IntKind} {P Q : Int} (h : P = Q) : Value.int k P = Value.int k Q := by rw [h]
end Go.Proofs.YtklppdodadkcnaaGreat.E
namespace Go.Proofs.YtklppdodadkcnaaGreat.E
open Go
set_option linter.unusedVariables false
def findL {κ : Type} [DecidableEq κ] (k : κ) : List MapEntry → List κ → Nat → Option (Nat × Value)
 | e :: es, k' :: ks, i => if k = k' then some (i, e.val) else findL k es ks (i + 1)
 | _, _, _ => none
structure KeyOk {κ : Type} [DecidableEq κ] (P : Program) (K : TypeId) (kf : κ → Value) : Prop where
 check : ∀ b k w, (Instr.checkKey b 10000 K (kf k)).run P w = .ok () w
 find : ∀ k (es : List MapEntry) (ks : List κ), es.map (·.key) = ks.map kf → ∀ w, (Instr.findKey K (kf k) es).run P w = .ok (findL k es ks 0) w
 same : ∀ k, Instr.sameBits 10000 (kf k) (kf k) = true
theorem findNow_int (k : Int) : ∀ (es : List MapEntry) (ks : List Int) (i : Nat), es.map (·.key) = ks.map (Value.int .i64) → Instr.findNow (.int .i64) (.int .i64 k) es i = some (findL k es ks i)
 | [], [], i, _ => rfl
 | [], _ :: _, i, h => by simp at h
 | _ :: _, [], i, h => by simp at h
 | e :: es, k' :: ks, i, h => by
  simp only [List.map_cons, List.cons.injEq] at h
  simp only [Instr.findNow, Instr.sameNow, h.1, findL]
  by_cases hk : k = k'
  ·subst hk; simp
  ·simp only [if_true, show (k == k') = false by simpa using hk, if_neg hk]
   exact findNow_int k es ks (i + 1) h.2
theorem check_int {P : Program} {K : TypeId} (n : Nat) (h : P.underlying K = some (.int .i64)) (b : Bool) (k : Int) (w : World) : (Instr.checkKey b (n + 1) K (.int .i64 k)).run P w = .ok () w := by
 simp only [Instr.checkKey, Sem.run_bind, run_under h, Result.andThen_ok]
 rfl
theorem keyInt {P : Program} {K : TypeId} (h : P.underlying K = some (.int .i64)) : KeyOk P K (Value.int .i64) where
 check b k w := check_int 9999 h b k w
 find k es ks he w := by simp [Instr.findKey, run_under h, findNow_int k es ks 0 he]
 same k := by unfold Instr.sameBits; simp
section
variable {κ : Type}
section
variable [DecidableEq κ]
def mget (k : κ) : List (κ × Value) → Option Value
 | [] => none
 | (k', v) :: r => if k = k' then some v else mget k r
def mset (k : κ) (x : Value) : List (κ × Value) → List (κ × Value)
 | [] => [(k, x)]
 | (k', v) :: r => if k = k' then (k, x) :: r else (k', v) :: mset k x r
def mdel (k : κ) : List (κ × Value) → List (κ × Value)
 | [] => []
 | (k', v) :: r => if k = k' then r else (k', v) :: mdel k r
end
structure Ents (kf : κ → Value) (es : List MapEntry) (ck : Nat) (m : List (κ × Value)) : Prop where
 key : es.map (·.key) = m.map fun p => kf p.1
 val : es.map (·.val) = m.map (·.2)
 born : (es.map (·.born)).Nodup
 old : ∀ e ∈ es, e.born < ck
structure MapK (kf : κ → Value) (s : TH) (r : Nat) (m : List (κ × Value)) (τ : Nat) : Prop where
 get : ∃ (es : List MapEntry) (ck : Nat), s.h[r]? = some (.map es.toArray ck) ∧ Ents kf es ck m
 tag : s.g r = τ
 nd : (m.map (·.1)).Nodup
variable {kf : κ → Value} {s s' : TH} {r τ : Nat} {m : List (κ × Value)}
theorem MapK.lt (h : MapK kf s r m τ) : r < s.h.size := by
 obtain ⟨es, ck, hg, _⟩ := h.get
 exact (Array.getElem?_eq_some_iff.1 hg).1
theorem MapK.mv {B : Nat → Prop} (h : MapK kf s r m τ) (c : Chg B s s') (hn : ¬ B r) : MapK kf s' r m τ := by
 obtain ⟨es, ck, hg, he⟩ := h.get
 exact ⟨⟨es, ck, (c.get r h.lt hn).trans hg, he⟩, (c.tag r h.lt).trans h.tag, h.nd⟩
theorem MapK.ch {T : List Nat} (h : MapK kf s r m τ) (c : Ch T s s') (hn : τ ∉ T) : MapK kf s' r m τ := h.mv c (by show s.g r ∉ T; rw [h.tag]; exact hn)
theorem MapK.chl {T L : List Nat} (h : MapK kf s r m τ) (c : ChL T L s s') (hn : τ ∉ T) (hl : r ∉ L) : MapK kf s' r m τ := h.mv c (fun h1 => h1.elim (fun h1 => hn (by rw [h.tag] at h1; exact h1)) hl)
theorem MapK.on {r' : Nat} (h : MapK kf s r m τ) (c : On r' s s') (hn : r ≠ r') : MapK kf s' r m τ := h.mv c hn
section
variable [DecidableEq κ]
theorem findL_get (k : κ) : ∀ (es : List MapEntry) (m : List (κ × Value)) (i : Nat), es.map (·.val) = m.map (·.2) → (findL k es (m.map (·.1)) i).map (·.2) = mget k m
 | [], [], i, _ => rfl
 | [], _ :: _, i, h => by simp at h
 | _ :: _, [], i, h => by simp at h
 | e :: es, (k', v) :: m, i, h => by
  simp only [List.map_cons, List.cons.injEq] at h
  simp only [List.map_cons, findL, mget]
  by_cases hk : k = k'
  ·simp [hk, h.1]
  ·simp only [if_neg hk]; exact findL_get k es m (i + 1) h.2
theorem findL_none (k : κ) : ∀ (es : List MapEntry) (m : List (κ × Value)) (i : Nat), es.length = m.length → findL k es (m.map (·.1)) i = none → ∀ x, mset k x m = m ++ [(k, x)] ∧ mdel k m = m ∧ k ∉ m.map (·.1)
 | [], [], i, _, _, x => by simp [mset, mdel]
 | [], _ :: _, i, h, _, x => by simp at h
 | _ :: _, [], i, h, _, x => by simp at h
 | e :: es, (k', v) :: m, i, h, hf, x => by
  simp only [List.map_cons, findL] at hf
  by_cases hk : k = k'
  ·simp [hk] at hf
  ·rw [if_neg hk] at hf
   obtain ⟨h1, h2, h3⟩ := findL_none k es m (i + 1) (by simpa using h) hf x
   simp [mset, mdel, hk, h1, h2, h3]
theorem findL_some (k : κ) : ∀ (es : List MapEntry) (m : List (κ × Value)) (i j : Nat) (v : Value), findL k es (m.map (·.1)) i = some (j, v) → i ≤ j ∧ ∃ (a b : List (κ × Value)) (v' : Value) (ea eb : List MapEntry) (e : MapEntry), m = a ++ (k, v') :: b ∧ es = ea ++ e :: eb ∧ a.length = j - i ∧ ea.length = j - i ∧ k ∉ a.map (·.1)
 | [], [], i, j, v, h => by simp [findL] at h
 | [], _ :: _, i, j, v, h => by simp [findL] at h
 | _ :: _, [], i, j, v, h => by simp [findL] at h
 | e :: es, (k', v0) :: m, i, j, v, h => by
  simp only [List.map_cons, findL] at h
  by_cases hk : k = k'
  ·rw [if_pos hk] at h; cases h
   exact ⟨Nat.le_refl _, [], m, v0, [], es, e, by simp [hk], rfl, by simp, by simp, by simp⟩
  ·rw [if_neg hk] at h
   obtain ⟨h1, a, b, v', ea, eb, e', h2, h3, h4, h5, h6⟩ := findL_some k es m (i + 1) j v h
   exact ⟨by omega, (k', v0) :: a, b, v', e :: ea, eb, e', by simp [h2], by simp [h3], by simp; omega, by simp; omega, by simp [hk, h6]⟩
theorem modify_mid (f : MapEntry → MapEntry) (ea eb : List MapEntry) (e : MapEntry) : (ea ++ e :: eb).modify ea.length f = ea ++ f e :: eb := by
 induction ea with
 | nil => rfl
 | cons x ea ih => simpa using ih
theorem erase_mid (ea eb : List MapEntry) (e : MapEntry) : (ea ++ e :: eb).eraseIdx ea.length = ea ++ eb := by
 induction ea with
 | nil => rfl
 | cons x ea ih => simpa using ih
theorem mset_mid {k : κ} {x v : Value} {a b : List (κ × Value)} (h : k ∉ a.map (·.1)) : mset k x (a ++ (k, v) :: b) = a ++ (k, x) :: b := by
 induction a with
 | nil => simp [mset]
 | cons p a ih =>
  simp only [List.map_cons, List.mem_cons, not_or] at h
  simp [mset, h.1, ih h.2]
theorem mdel_mid {k : κ} {v : Value} {a b : List (κ × Value)} (h : k ∉ a.map (·.1)) : mdel k (a ++ (k, v) :: b) = a ++ b := by
 induction a with
 | nil => simp [mdel]
 | cons p a ih =>
  simp only [List.map_cons, List.mem_cons, not_or] at h
  simp [mdel, h.1, ih h.2]
end
theorem alm_t (kf : κ → Value) (τ : Nat) {s : TH} {k : Nat → Heap → Prop}
  (hk : ∀ (r : Nat) (s' : TH), r = s.h.size → MapK kf s' r [] τ → Ch [] s s' → s.h.size + 1 = s'.h.size → k r s'.h) : al s.h (.map #[] 0) k :=
 hk s.h.size ⟨s.h.push (.map #[] 0), upd s.g s.h.size τ⟩ rfl ⟨⟨[], 0, by simp, ⟨rfl, rfl, by simp, by simp⟩⟩, by simp [upd], by simp⟩ (pushed _ _ _) (by simp)
variable {P : Program} {T Kt Et : TypeId} {E : List PanicEntry → Heap → Prop}
section
variable [DecidableEq κ]
theorem run_look (ko : KeyOk P Kt kf) (hT : P.underlying T = some (.map Kt Et)) {z : Value} (hz : ∀ w, (zeroValue Et).run P w = .ok z w) (h : MapK kf s r m τ) (k : κ) (ok : Bool) (w : World) (hw : w.heap = s.h) :
  (Instr.lookup T (.map (some r)) (kf k) ok).run P w = .ok (if ok = true then .tuple #[(mget k m).getD z, .bool (mget k m).isSome] else (mget k m).getD z) w := by
 obtain ⟨es, ck, hg, he⟩ := h.get
 have h1 : (getObj r).run P w = .ok (.map es.toArray ck) w := by
  show Sem.run P (.getObj r .pure) w = _
  simp only [Sem.run, hw, hg]
 have h2 := ko.find k es (m.map (·.1)) (by rw [he.key, List.map_map]; rfl) w
 have h3 := findL_get k es m 0 he.val
 simp only [Instr.lookup, Sem.run_bind, run_under hT, Result.andThen_ok, h1, Sem.run_pure, ko.check, h2]
 cases hf : findL k es (m.map (·.1)) 0 with
 | none =>
  rw [hf] at h3
  have : mget k m = none := h3.symm
  cases ok <;> simp [this, hz]
 | some p =>
  rw [hf] at h3
  have : mget k m = some p.2 := h3.symm
  cases ok <;> simp [this]
theorem look_t {K : Value → Heap → Prop} (ko : KeyOk P Kt kf) (hT : P.underlying T = some (.map Kt Et)) {z : Value} (hz : ∀ w, (zeroValue Et).run P w = .ok z w) (h : MapK kf s r m τ) (k : κ) (hk : K ((mget k m).getD z) s.h) :
  semW P (Instr.lookup T (.map (some r)) (kf k) false) E s.h K := .mk fun w hw => by
 rw [run_look ko hT hz h k false w hw]; exact ⟨by rw [hw]; exact hk, Like.refl w⟩
theorem look_ok {K : Value → Heap → Prop} (ko : KeyOk P Kt kf) (hT : P.underlying T = some (.map Kt Et)) {z : Value} (hz : ∀ w, (zeroValue Et).run P w = .ok z w) (h : MapK kf s r m τ) (k : κ) (hk : K (.tuple #[(mget k m).getD z, .bool (mget k m).isSome]) s.h) :
  semW P (Instr.lookup T (.map (some r)) (kf k) true) E s.h K := .mk fun w hw => by
 rw [run_look ko hT hz h k true w hw]; exact ⟨by rw [hw]; exact hk, Like.refl w⟩
theorem look_g {K : Value → Heap → Prop} (ko : KeyOk P Kt kf) (hT : P.underlying T = some (.map Kt Et)) {z v : Value} (hz : ∀ w, (zeroValue Et).run P w = .ok z w) (h : MapK kf s r m τ) (k : κ) (hv : (mget k m).getD z = v) (hk : K v s.h) :
  semW P (Instr.lookup T (.map (some r)) (kf k) false) E s.h K := look_t ko hT hz h k (by rw [hv]; exact hk)
theorem look_s {K : Value → Heap → Prop} (ko : KeyOk P Kt kf) (hT : P.underlying T = some (.map Kt Et)) {z v : Value} (hz : ∀ w, (zeroValue Et).run P w = .ok z w) (h : MapK kf s r m τ) (k : κ) (hm : mget k m = some v) (hk : K v s.h) :
  semW P (Instr.lookup T (.map (some r)) (kf k) false) E s.h K := look_t ko hT hz h k (by rw [hm]; exact hk)
theorem look_okn {K : Value → Heap → Prop} (ko : KeyOk P Kt kf) (hT : P.underlying T = some (.map Kt Et)) {z : Value} (hz : ∀ w, (zeroValue Et).run P w = .ok z w) (h : MapK kf s r m τ) (k : κ) (hm : mget k m = none) (hk : K (.tuple #[z, .bool false]) s.h) :
  semW P (Instr.lookup T (.map (some r)) (kf k) true) E s.h K := look_ok ko hT hz h k (by rw [hm]; exact hk)
theorem look_oks {K : Value → Heap → Prop} (ko : KeyOk P Kt kf) (hT : P.underlying T = some (.map Kt Et)) {z v : Value} (hz : ∀ w, (zeroValue Et).run P w = .ok z w) (h : MapK kf s r m τ) (k : κ) (hm : mget k m = some v) (hk : K (.tuple #[v, .bool true]) s.h) :
  semW P (Instr.lookup T (.map (some r)) (kf k) true) E s.h K := look_ok ko hT hz h k (by rw [hm]; exact hk)
theorem lookn_ok {K : Value → Heap → Prop} {H : Heap} (ko : KeyOk P Kt kf) (hT : P.underlying T = some (.map Kt Et)) {z : Value} (hz : ∀ w, (zeroValue Et).run P w = .ok z w) (k : κ) (hk : K (.tuple #[z, .bool false]) H) :
  semW P (Instr.lookup T (.map none) (kf k) true) E H K := .mk fun w hw => by
 have h2 := ko.find k [] [] rfl w
 simp only [Instr.lookup, Sem.run_bind, run_under hT, Result.andThen_ok, Sem.run_pure, ko.check, h2, findL, hz]
 exact ⟨by rw [hw]; exact hk, Like.refl w⟩
end
theorem setmap_on {es' : List MapEntry} {ck' : Nat} {m' : List (κ × Value)} (h : MapK kf s r m τ) (he : Ents kf es' ck' m') (hnd : (m'.map (·.1)).Nodup) :
  MapK kf ⟨s.h.setIfInBounds r (.map es'.toArray ck'), s.g⟩ r m' τ ∧ On r s ⟨s.h.setIfInBounds r (.map es'.toArray ck'), s.g⟩ := by
 have hlt := h.lt
 refine ⟨⟨⟨es', ck', by simp [hlt], he⟩, h.tag, hnd⟩, ⟨by simp, fun _ _ => rfl, fun j hj hn => ?_⟩⟩
 show (s.h.setIfInBounds r _)[j]? = _
 rw [Array.getElem?_setIfInBounds_ne (fun e => hn e.symm)]
theorem run_setmap {es : List MapEntry} {ck : Nat} (hg : s.h[r]? = some (.map es.toArray ck)) (o : Obj) (w : World) (hw : w.heap = s.h) : (setObj r o).run P w = .ok () { w with heap := w.heap.setIfInBounds r o } := by
 show Sem.run P (.setObj r o (.pure ())) w = _
 simp only [Sem.run, hw, hg]
theorem ents_snoc {es : List MapEntry} {ck : Nat} (he : Ents kf es ck m) (k : κ) (x : Value) : Ents kf (es ++ [{ key := kf k, val := x, born := ck }]) (ck + 1) (m ++ [(k, x)]) := by
 refine ⟨by simp [he.key], by simp [he.val], ?_, ?_⟩
 ·rw [List.map_append, List.nodup_append]
  refine ⟨he.born, by simp, fun a ha b hb => ?_⟩
  simp only [List.map_cons, List.map_nil, List.mem_singleton] at hb
  obtain ⟨e, h1, h2⟩ := List.mem_map.1 ha
  have := he.old e h1
  omega
 ·intro e hm
  rcases List.mem_append.1 hm with hm | hm
  ·have := he.old e hm; omega
  ·simp at hm; subst hm; simp
section
variable [DecidableEq κ]
theorem upd_t {K : Unit → Heap → Prop} (ko : KeyOk P Kt kf) (hT : P.underlying T = some (.map Kt Et)) (h : MapK kf s r m τ) (k : κ) (x : Value)
  (hk : ∀ s' : TH, MapK kf s' r (mset k x m) τ → On r s s' → s.h.size = s'.h.size → K () s'.h) :
  semW P (Instr.mapUpdate T (.map (some r)) (kf k) x) E s.h K := .mk fun w hw => by
 obtain ⟨es, ck, hg, he⟩ := h.get
 have h1 : (getObj r).run P w = .ok (.map es.toArray ck) w := by
  show Sem.run P (.getObj r .pure) w = _
  simp only [Sem.run, hw, hg]
 have h2 := ko.find k es (m.map (·.1)) (by rw [he.key, List.map_map]; rfl) w
 have hlen : es.length = m.length := by have := congrArg List.length he.key; simpa using this
 simp only [Instr.mapUpdate, Sem.run_bind, run_under hT, Result.andThen_ok, h1, ko.check, h2]
 cases hf : findL k es (m.map (·.1)) 0 with
 | none =>
  obtain ⟨h3, _, h5⟩ := findL_none k es m 0 hlen hf x
  have h6 : (m ++ [(k, x)]).map (·.1) = m.map (·.1) ++ [k] := by simp
  have h7 : ((m ++ [(k, x)]).map (·.1)).Nodup := by
   rw [h6, List.nodup_append]
   exact ⟨h.nd, by simp, fun a ha b hb => by simp at hb; subst hb; intro e; subst e; exact h5 ha⟩
  obtain ⟨h8, h9⟩ := setmap_on h (ents_snoc he k x) h7
  have hpush : es.toArray.push (MapEntry.mk (kf k) x ck) = (es ++ [MapEntry.mk (kf k) x ck]).toArray := by simp
  simp only [hpush]
  rw [run_setmap hg _ w hw, ← h3] at *
  have := hk _ h8 h9 (by simp)
  exact ⟨by rw [hw]; exact this, rfl, rfl, rfl⟩
 | some p =>
  obtain ⟨j, v⟩ := p
  obtain ⟨_, a, b, v', ea, eb, e, h3, h4, h5, h6, h7⟩ := findL_some k es m 0 j v hf
  simp only [Nat.sub_zero] at h5 h6
  subst h3 h4
  have hkey := he.key
  have hval := he.val
  simp only [List.map_append, List.map_cons] at hkey hval
  obtain ⟨k1, k2⟩ := List.append_inj hkey (by simp [h5, h6])
  obtain ⟨v1, v2⟩ := List.append_inj hval (by simp [h5, h6])
  simp only [List.cons.injEq] at k2 v2
  have hej : (ea ++ e :: eb)[j]? = some e := by rw [List.getElem?_append_right (by omega), h6]; simp
  have hks : ∀ w, (Instr.keyThatStays (kf k) (kf k)).run P w = .ok (kf k) w := fun w => by simp [Instr.keyThatStays, ko.same]
  have hmod : (ea ++ e :: eb).toArray.modify j (fun e => { e with key := kf k, val := x }) = (ea ++ { e with key := kf k, val := x } :: eb).toArray := by
   apply Array.toList_inj.1
   rw [Array.toList_modify, ← h6]
   exact modify_mid _ _ _ _
  have hent : Ents kf (ea ++ { e with key := kf k, val := x } :: eb) ck (a ++ (k, x) :: b) := by
   refine ⟨by simp [k1, k2.2], by simp [v1, v2.2], by simpa using he.born, fun e' hm => ?_⟩
   rcases List.mem_append.1 hm with hm | hm
   ·exact he.old e' (by simp [hm])
   ·rcases List.mem_cons.1 hm with rfl | hm
    ·exact he.old e (by simp)
    ·exact he.old e' (by simp [hm])
  obtain ⟨h8, h9⟩ := setmap_on h hent (by simpa using h.nd)
  have hgk : (((ea ++ e :: eb).toArray[j]?).map (·.key)).getD (kf k) = kf k := by
   simp [hej, k2.1]
  simp only [Sem.run_bind, hgk, hks, Result.andThen_ok, hmod]
  rw [run_setmap hg _ w hw]
  rw [← mset_mid (x := x) (v := v') (b := b) h7] at h8
  have := hk _ h8 h9 (by simp)
  exact ⟨by rw [hw]; exact this, rfl, rfl, rfl⟩
end
theorem mlen_t {K : Value → Heap → Prop} {t : TypeId} (hT : P.underlying T = some (.map Kt Et)) (h : MapK kf s r m τ) (hk : K (.int .i64 (m.length : Int)) s.h) :
  semW P (Builtin.len_ #[T] t #[.map (some r)]) E s.h K := .mk fun w hw => by
 obtain ⟨es, ck, hg, he⟩ := h.get
 have h1 : (getObj r).run P w = .ok (.map es.toArray ck) w := by
  show Sem.run P (.getObj r .pure) w = _
  simp only [Sem.run, hw, hg]
 have hlen : es.length = m.length := by have := congrArg List.length he.key; simpa using this
 simp [Builtin.len_, run_under hT, h1, goInt, hlen]
 exact ⟨by rw [hw]; exact hk, Like.refl w⟩
section
variable [DecidableEq κ]
theorem del_t {K : Value → Heap → Prop} {t t2 : TypeId} (ko : KeyOk P Kt kf) (hT : P.underlying T = some (.map Kt Et)) (h : MapK kf s r m τ) (k : κ)
  (hk : ∀ s' : TH, MapK kf s' r (mdel k m) τ → On r s s' → s.h.size = s'.h.size → K (.tuple #[]) s'.h) :
  semW P (Builtin.delete_ #[T, t] t2 #[.map (some r), kf k]) E s.h K := .mk fun w hw => by
 obtain ⟨es, ck, hg, he⟩ := h.get
 have h1 : (getObj r).run P w = .ok (.map es.toArray ck) w := by
  show Sem.run P (.getObj r .pure) w = _
  simp only [Sem.run, hw, hg]
 have h2 := ko.find k es (m.map (·.1)) (by rw [he.key, List.map_map]; rfl) w
 have hlen : es.length = m.length := by have := congrArg List.length he.key; simpa using this
 unfold Builtin.delete_
 simp [run_under hT, h1, ko.check, h2]
 cases hf : findL k es (m.map (·.1)) 0 with
 | none =>
  obtain ⟨_, h4, h5⟩ := findL_none k es m 0 hlen hf .nilIface
  obtain ⟨h8, h9⟩ := setmap_on h he h.nd
  simp only [Sem.run_map, run_setmap hg _ w hw]
  rw [h4] at hk
  have := hk _ h8 h9 (by simp)
  exact ⟨by rw [hw]; exact this, rfl, rfl, rfl⟩
 | some p =>
  obtain ⟨j, v⟩ := p
  obtain ⟨_, a, b, v', ea, eb, e, h3, h4, h5, h6, h7⟩ := findL_some k es m 0 j v hf
  simp only [Nat.sub_zero] at h5 h6
  subst h3 h4
  have hkey := he.key
  have hval := he.val
  simp only [List.map_append, List.map_cons] at hkey hval
  obtain ⟨k1, k2⟩ := List.append_inj hkey (by simp [h5, h6])
  obtain ⟨v1, v2⟩ := List.append_inj hval (by simp [h5, h6])
  simp only [List.cons.injEq] at k2 v2
  have hmod : (ea ++ e :: eb).eraseIdx j = ea ++ eb := by rw [← h6]; exact erase_mid _ _ _
  have hent : Ents kf (ea ++ eb) ck (a ++ b) := by
   refine ⟨by simp [k1, k2.2], by simp [v1, v2.2], ?_, fun e' hm => ?_⟩
   ·have := he.born
    simp only [List.map_append, List.map_cons] at this ⊢
    exact this.sublist (List.Sublist.append_left (List.sublist_cons_self _ _) _)
   ·rcases List.mem_append.1 hm with hm | hm
    ·exact he.old e' (by simp [hm])
    ·exact he.old e' (by simp [hm])
  obtain ⟨h8, h9⟩ := setmap_on h hent (by
   have := h.nd
   simp only [List.map_append, List.map_cons] at this ⊢
   exact this.sublist (List.Sublist.append_left (List.sublist_cons_self _ _) _))
  simp only [hmod, Sem.run_map, run_setmap hg _ w hw]
  rw [← mdel_mid (v := v') (b := b) h7] at h8
  have := hk _ h8 h9 (by simp)
  exact ⟨by rw [hw]; exact this, rfl, rfl, rfl⟩
end
end
end Go.Proofs.YtklppdodadkcnaaGreat.E
namespace Go.Proofs.YtklppdodadkcnaaGreat.E
open Go
set_option linter.unusedVariables false
theorem Blk.congr {s : TH} {r : Nat} {l l' : List Value} {t τ : Nat} (h : Blk s r l t τ) (e : l = l') : Blk s r l' t τ := e ▸ h
end Go.Proofs.YtklppdodadkcnaaGreat.E
