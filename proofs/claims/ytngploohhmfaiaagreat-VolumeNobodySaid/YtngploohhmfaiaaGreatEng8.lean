/- The engine, part 8: the order theorem: to take first what only reads is enough. -/
import Derived.Test.YtngploohhmfaiaaGreatEng7
import Derived.OrdersHeld
namespace Go.Proofs.YtngploohhmfaiaaGreat.E
open Go
set_option linter.unusedVariables false

/-- As the model goes through the orders; behind each step what was taken first and may still come is as it was. -/
def wpAnyP (P : Program) (ops : Array Oper) (Q : Exit → Act → World → Prop) (ms : List Nat) : Nat → List ((World → Prop) × Nat) → Array Bool → Act → World → Prop
  | 0, _, listed, a, w => Region.ready .any ops listed = [] ∧ Q .normal a w
  | n + 1, pend, listed, a, w => (Region.ready .any ops listed = [] → Q .normal a w) ∧ ∀ j ∈ Region.ready .any ops listed,
      wpOp P ops Q j (fun a' w' => (∀ p ∈ pend, sc ms p.2 j = false → p.1 w') ∧ wpAnyP P ops Q ms n (pend.filter fun p => !sc ms p.2 j) (listed.setIfInBounds j true) a' w') a w

section
variable {P : Program} {ops : Array Oper} {Q : Exit → Act → World → Prop} {ms : List Nat}
theorem wpAnyP_less : ∀ (n : Nat) {pend pend' : List ((World → Prop) × Nat)} {listed : Array Bool} {a : Act} {w : World}, (∀ p ∈ pend', p ∈ pend) →
    wpAnyP P ops Q ms n pend listed a w → wpAnyP P ops Q ms n pend' listed a w
  | 0, _, _, _, _, _, _, h => h
  | n + 1, pend, pend', listed, a, w, hs, h => ⟨h.1, fun j hj => wpOp_mono (fun a' w' h' => ⟨fun p hp => h'.1 p (hs p hp), wpAnyP_less n (fun p hp => by
      obtain ⟨h1, h2⟩ := List.mem_filter.1 hp
      exact List.mem_filter.2 ⟨hs p h1, h2⟩) h'.2⟩) (h.2 j hj)⟩
theorem wpAny_ofP : ∀ (n : Nat) {pend : List ((World → Prop) × Nat)} {listed : Array Bool} {a : Act} {w : World}, wpAnyP P ops Q ms n pend listed a w → wpAny P .any ops Q n listed a w
  | 0, _, _, _, _, h => h
  | n + 1, pend, listed, a, w, h => ⟨h.1, fun j hj => wpOp_mono (fun a' w' h' => wpAny_ofP n h'.2) (h.2 j hj)⟩
theorem down_set {listed : Array Bool} (hd : Down ops listed) {j : Nat} (hj : j ∈ Region.ready .any ops listed) : Down ops (listed.setIfInBounds j true) := by
  intro k o hk hl e he hb
  obtain ⟨hjun, oj, hoj, hall⟩ := mem_ready.1 hj
  by_cases hkj : k = j
  · subst hkj; rw [hoj] at hk; cases hk
    exact getD_set_true (hall e he hb)
  · rw [getD_set_ne false (Ne.symm hkj)] at hl
    exact getD_set_true (hd k o hk hl e he hb)
theorem sc_false (hms : ms = masks ops) {listed : Array Bool} (hd : Down ops listed) {i j : Nat} (hj : j ∈ Region.ready .any ops listed) (hi : listed.getD i true = false) : sc ms i j = false := by
  cases h : sc ms i j with
  | false => rfl
  | true =>
    subst hms
    obtain ⟨_, oj, hoj, hall⟩ := mem_ready.1 hj
    have h1 := down_tp hd (masks_spec ops i j h) oj hoj hall
    rcases Nat.lt_or_ge i listed.size with h' | h'
    · simp [h'] at hi h1; rw [hi] at h1; cases h1
    · simp [Array.getElem?_eq_none h'] at h1

theorem wpAnyP_first {i : Nat} {oi : Oper} {v : Value} {S : World → Prop} (hms : ms = masks ops) (hi : ops[i]? = some oi) (hsel : ∀ (j : Nat) (o : Oper) cs b, ops[j]? = some o → o.op ≠ .select cs b)
    (hQ : ∀ c a w, Q (.panic c) (a.put oi.dst v) w → Q (.panic c) a w) :
    ∀ (fuel : Nat) (pend : List ((World → Prop) × Nat)) (listed : Array Bool) (a : Act) (w : World),
      (∀ j oj, ops[j]? = some oj → j ≠ i → listed.getD j true = false → (∀ e ∈ oj.after, Region.binds .any e = true → e.on ≠ i) → oi.apart ops oj = true) →
      Down ops listed → i ∈ Region.ready .any ops listed → YieldsIf P ops S oi v a → S w → (∀ p ∈ pend, p.1 w) →
      wpAnyP P ops Q ms fuel ((S, i) :: pend) (listed.setIfInBounds i true) (a.put oi.dst v) w → wpAnyP P ops Q ms (fuel + 1) pend listed a w := by
  intro fuel
  induction fuel with
  | zero =>
    intro pend listed a w _ hd hr hy hS hp H
    refine ⟨fun h => (by rw [h] at hr; cases hr), fun j hj => ?_⟩
    by_cases hji : j = i
    · subst hji; exact hy.wpOp hi hS ⟨fun p hm _ => hp p hm, H⟩
    · have := ready_mono hj hji
      rw [H.1] at this
      cases this
  | succ fuel ih =>
    intro pend listed a w hfree hd hr hy hS hp H
    refine ⟨fun h => (by rw [h] at hr; cases hr), fun j hj => ?_⟩
    by_cases hji : j = i
    · subst hji
      refine hy.wpOp hi hS ⟨fun p hm _ => hp p hm, wpAnyP_less _ (fun p hm => ?_) H⟩
      exact List.mem_cons_of_mem _ (List.mem_filter.1 hm).1
    · have h1 := H.2 j (ready_mono hj hji)
      obtain ⟨hjun, oj, hoj, hall⟩ := mem_ready.1 hj
      have hiun := (mem_ready.1 hr).1
      have hnot : ∀ e ∈ oj.after, Region.binds .any e = true → e.on ≠ i := fun e he hb heq => by
        have h1 := hall e he hb
        rw [heq] at h1
        rcases Nat.lt_or_ge i listed.size with h' | h'
        · simp [h'] at hiun h1; rw [hiun] at h1; cases h1
        · simp [Array.getElem?_eq_none h'] at h1
      have hsc : sc ms i j = false := sc_false hms hd hj hiun
      have h2 := wpOp_putIf hoj (hfree j oj hoj hji hjun hnot) (fun cs b => hsel i oi cs b hi) (fun cs b => hsel j oj cs b hoj) hQ hy h1
      have hfree' : ∀ k ok, ops[k]? = some ok → k ≠ i → (listed.setIfInBounds j true).getD k true = false →
          (∀ e ∈ ok.after, Region.binds .any e = true → e.on ≠ i) → oi.apart ops ok = true := fun k ok hk hki hun hno => by
        refine hfree k ok hk hki ?_ hno
        by_cases hjk : j = k
        · subst hjk; exact hjun
        · rw [getD_set_ne true hjk] at hun; exact hun
      refine wpOp_mono (fun a' w' h3 => ?_) h2
      obtain ⟨hy', h4, h5⟩ := h3
      have hS' : S w' := h4 (S, i) List.mem_cons_self hsc
      have hp' : ∀ p ∈ pend, sc ms p.2 j = false → p.1 w' := fun p hm hs => h4 p (List.mem_cons_of_mem _ hm) hs
      refine ⟨hp', ih (pend.filter fun p => !sc ms p.2 j) (listed.setIfInBounds j true) a' w' hfree' (down_set hd hj) (ready_mono hr (Ne.symm hji)) hy' hS' (fun p hm => ?_) ?_⟩
      · obtain ⟨h6, h7⟩ := List.mem_filter.1 hm
        exact hp' p h6 (by simpa using h7)
      · rw [Array.setIfInBounds_comm _ _ hji]
        have e : ((S, i) :: pend).filter (fun p => !sc ms p.2 j) = (S, i) :: pend.filter (fun p => !sc ms p.2 j) := by simp [hsc]
        rw [e] at h5
        exact h5
end

/-! ### a region that draws its order, in words of the heap -/
inductive Pick where
  | no
  | skip (i : Nat) (o : Oper)
  | take (i : Nat) (o : Oper) (b : Bool) (x : Sp Value)
def pickOp (P : Program) (ops : Array Oper) (listed : Array Bool) (a : Act) : List Nat → Pick
  | [] => .no
  | i :: r => match ops.toList[i]? with
    | none => pickOp P ops listed a r
    | some o => match Region.wanted o (yielded ops a.tmps) with
      | false => match Region.free .any ops listed i with
        | true => .skip i o
        | false => pickOp P ops listed a r
      | true => match takeS P a.eval o with
        | none => pickOp P ops listed a r
        | some (b, x) => match Region.free .any ops listed i with
          | true => .take i o b x
          | false => pickOp P ops listed a r
structure Pend where
  i : Nat
  v : Value
  x : Sp Value
/-- those that may still come give what they gave -/
def heldV (H : Heap) : List Pend → Prop → Prop
  | [], K => K
  | p :: r, K => p.x.run (fun u _ => u = p.v) (fun _ _ => False) H ∧ heldV H r K
def allL (p : Nat → Prop) : List Nat → Prop
  | [] => True
  | [i] => p i
  | i :: r => p i ∧ allL p r
/-! the registers are laid bare before each step: the kernel then reads them where they lie -/
def forceL {α β : Type} : List α → (List α → β) → β
  | [], k => k []
  | x :: xs, k => forceL xs fun ys => k (x :: ys)
theorem forceL_eq {α β : Type} : ∀ (l : List α) (k : List α → β), forceL l k = k l
  | [], _ => rfl
  | x :: xs, k => by rw [forceL, forceL_eq xs]
def forceA {β : Type} (a : Act) (k : Act → β) : β := forceL a.tmps.toList fun l => forceL a.defers fun d => k ⟨⟨l⟩, d⟩
theorem forceA_eq {β : Type} (a : Act) (k : Act → β) : forceA a k = k a := by unfold forceA; rw [forceL_eq, forceL_eq]
def forceB {β : Type} (b : Array Bool) (k : Array Bool → β) : β := forceL b.toList fun l => k ⟨l⟩
theorem forceB_eq {β : Type} (b : Array Bool) (k : Array Bool → β) : forceB b k = k b := by unfold forceB; rw [forceL_eq]
def anyV (P : Program) (ops : Array Oper) (ms : List Nat) (K : Act → Heap → Prop) : Nat → Array Bool → Act → List Pend → Heap → Prop
  | 0, listed, a, _, H => match Region.ready .any ops listed with
    | [] => K a H
    | _ => False
  | n + 1, listed0, a0, pend, H => forceA a0 fun a => forceB listed0 fun listed =>
    match Region.ready .any ops listed with
    | [] => K a H
    | rs => match pickOp P ops listed a rs with
      | .skip i o => anyV P ops ms K n (listed.setIfInBounds i true) (a.put o.dst undef) pend H
      | .take i o b x => (spG ops o x).run (fun v _ => anyV P ops ms K n (listed.setIfInBounds i true) (a.put o.dst v) (match b with | true => ⟨i, v, x⟩ :: pend | false => pend) H) (fun _ _ => False) H
      | .no => allL (fun j => match ops.toList[j]? with
        | none => False
        | some o => match Region.wanted o (yielded ops a.tmps) with
          | false => anyV P ops ms K n (listed.setIfInBounds j true) (a.put o.dst undef) (pend.filter fun p => !sc ms p.i j) H
          | true => (spG ops o (opS P a.eval o)).run (fun v H' => heldV H' (pend.filter fun p => !sc ms p.i j) (anyV P ops ms K n (listed.setIfInBounds j true) (a.put o.dst v) (pend.filter fun p => !sc ms p.i j) H')) (fun _ _ => False) H) rs

theorem allL_mem {p : Nat → Prop} : ∀ {l : List Nat}, allL p l → ∀ i ∈ l, p i
  | [i], h, j, hj => by rw [List.mem_singleton] at hj; subst hj; exact h
  | i :: k :: r, h, j, hj => by
    rcases List.mem_cons.1 hj with rfl | hj
    · exact h.1
    · exact allL_mem (l := k :: r) h.2 j hj
theorem heldV_get {H : Heap} {K : Prop} : ∀ {l : List Pend}, heldV H l K → K ∧ ∀ p ∈ l, p.x.run (fun u _ => u = p.v) (fun _ _ => False) H
  | [], h => ⟨h, fun p hp => by cases hp⟩
  | p :: r, h => by
    obtain ⟨h1, h2⟩ := heldV_get (l := r) h.2
    refine ⟨h1, fun q hq => ?_⟩
    rcases List.mem_cons.1 hq with rfl | hq
    · exact h.1
    · exact h2 q hq
/-- one more that always holds -/
theorem wpAnyP_more {P : Program} {ops : Array Oper} {Q : Exit → Act → World → Prop} {ms : List Nat} {i : Nat} : ∀ (n : Nat) {pend : List ((World → Prop) × Nat)} {listed : Array Bool} {a : Act} {w : World},
    wpAnyP P ops Q ms n pend listed a w → wpAnyP P ops Q ms n (((fun _ => True), i) :: pend) listed a w
  | 0, _, _, _, _, h => h
  | n + 1, pend, listed, a, w, h => ⟨h.1, fun j hj => wpOp_mono (fun a' w' h' => ⟨fun p hp hs => by
      rcases List.mem_cons.1 hp with rfl | hp
      · exact trivial
      · exact h'.1 p hp hs, by
      cases hsj : sc ms i j with
      | true => simp only [List.filter_cons, hsj]; exact h'.2
      | false => simp only [List.filter_cons, hsj]; exact wpAnyP_more n h'.2⟩) (h.2 j hj)⟩
/-- what is pending in the words of worlds -/
def holdW (P : Program) (s : Sem Next) (v : Value) (w : World) : Prop := s.run P w = .ok (.value v) w
/-- the words' list and the worlds' list belong together -/
inductive Pends (P : Program) : List Pend → List ((World → Prop) × Nat) → Prop
  | nil : Pends P [] []
  | cons {p : Pend} {s : Sem Next} {l : List Pend} {m : List ((World → Prop) × Nat)} : DoesQ true P s p.x → Pends P l m → Pends P (p :: l) ((holdW P s p.v, p.i) :: m)
theorem Pends.filter {P : Program} {f : Nat → Bool} {l : List Pend} {m : List ((World → Prop) × Nat)} (h : Pends P l m) : Pends P (l.filter fun p => f p.i) (m.filter fun p => f p.2) := by
  induction h with
  | nil => exact .nil
  | @cons p s l m hq _ ih =>
    cases hf : f p.i with
    | true => simp only [List.filter_cons, hf, if_true]; exact .cons hq ih
    | false => simp only [List.filter_cons, hf]; exact ih
theorem Pends.holds {P : Program} {l : List Pend} {m : List ((World → Prop) × Nat)} (h : Pends P l m) {w : World} (hl : ∀ p ∈ l, p.x.run (fun u _ => u = p.v) (fun _ _ => False) w.heap) : ∀ q ∈ m, q.1 w := by
  induction h with
  | nil => intro q hq; cases hq
  | @cons p s l m hq _ ih =>
    intro q hm
    rcases List.mem_cons.1 hm with rfl | hm
    · obtain ⟨v, hv, hr⟩ := hq _ _ _ (hl p List.mem_cons_self)
      have : (fun u (_ : Heap) => u = p.v) v w.heap := hv
      show s.run P w = .ok (.value p.v) w
      rw [← (show v = p.v from this)]; exact hr w fun _ => rfl
    · exact ih (fun p hp => hl p (List.mem_cons_of_mem _ hp)) q hm

/-- the post of a region: no way out but its end -/
def OnlyNormal (K : Act → Heap → Prop) (w0 : World) : Exit → Act → World → Prop
  | .normal, a, w => K a w.heap ∧ Like w0 w
  | _, _, _ => False

theorem anyV_sound {P : Program} {ops : Array Oper} {ms : List Nat} {K : Act → Heap → Prop} {w0 : World} (hms : ms = masks ops) (hsel : Region.noSelect ops = true) :
    ∀ (n : Nat) (listed : Array Bool) (a : Act) (pend : List Pend) (m : List ((World → Prop) × Nat)) (w : World), Down ops listed → Pends P pend m → (∀ q ∈ m, q.1 w) → Like w0 w →
      anyV P ops ms K n listed a pend w.heap → wpAnyP P ops (OnlyNormal K w0) ms n m listed a w := by
  intro n
  induction n with
  | zero =>
    intro listed a pend m w _ _ _ hl h
    unfold anyV at h
    cases hrs : Region.ready .any ops listed with
    | nil => rw [hrs] at h; exact ⟨hrs, h, hl⟩
    | cons r0 rr => rw [hrs] at h; exact h.elim
  | succ n ih =>
    intro listed a pend m w hd hp hm hl h
    unfold anyV at h
    simp only [forceA_eq, forceB_eq] at h
    have hget : ∀ i : Nat, ops.toList[i]? = ops[i]? := fun i => by simp
    cases hrs : Region.ready .any ops listed with
    | nil =>
      rw [hrs] at h
      refine ⟨fun _ => ⟨h, hl⟩, (fun j hj => by rw [hrs] at hj; cases hj)⟩
    | cons r0 rr =>
      rw [hrs] at h
      simp only at h
      rw [← hrs] at h
      have hpick : ∀ rs : List Nat, (∀ i ∈ rs, i ∈ Region.ready .any ops listed) → (∀ i o, pickOp P ops listed a rs = .skip i o → i ∈ Region.ready .any ops listed ∧ ops[i]? = some o ∧ Region.free .any ops listed i = true ∧ Region.wanted o (yielded ops a.tmps) = false) ∧
          (∀ i o b x, pickOp P ops listed a rs = .take i o b x → i ∈ Region.ready .any ops listed ∧ ops[i]? = some o ∧ Region.free .any ops listed i = true ∧ Region.wanted o (yielded ops a.tmps) = true ∧ takeS P a.eval o = some (b, x)) := by
        intro rs
        induction rs with
        | nil => intro _; exact ⟨fun i o h => by simp [pickOp] at h, fun i o b x h => by simp [pickOp] at h⟩
        | cons i r ihr =>
          intro hall
          have hr := ihr fun i hi => hall i (List.mem_cons_of_mem _ hi)
          have hin := hall i List.mem_cons_self
          unfold pickOp
          cases ho : ops.toList[i]? with
          | none => exact hr
          | some o =>
            have ho' : ops[i]? = some o := by rw [← hget]; exact ho
            simp only
            cases hw : Region.wanted o (yielded ops a.tmps) with
            | false =>
              simp only
              cases hf : Region.free .any ops listed i with
              | false => exact hr
              | true => exact ⟨(fun i' o' h => by cases h; exact ⟨hin, ho', hf, hw⟩), (fun i' o' b x h => by cases h)⟩
            | true =>
              simp only
              cases ht : takeS P a.eval o with
              | none => exact hr
              | some bx =>
                obtain ⟨b, x⟩ := bx
                simp only
                cases hf : Region.free .any ops listed i with
                | false => exact hr
                | true => exact ⟨(fun i' o' h => by cases h), (fun i' o' b' x' h => by cases h; exact ⟨hin, ho', hf, hw, ht⟩)⟩
      have hpk := hpick (Region.ready .any ops listed) (fun i hi => hi)
      cases hpp : pickOp P ops listed a (Region.ready .any ops listed) with
      | skip i o =>
        rw [hpp] at h
        simp only at h
        obtain ⟨hin, ho, hf, hw⟩ := hpk.1 i o hpp
        have h1 := ih (listed.setIfInBounds i true) (a.put o.dst undef) pend m w (down_set hd hin) hp hm hl h
        refine wpAnyP_first (S := fun _ => True) (v := undef) hms ho (Region.noSelect_spec hsel) (fun c a w h => h) n m listed a w (Region.free_spec ho hf) hd hin (.inr ⟨hw, rfl⟩) trivial hm ?_
        exact wpAnyP_more n h1
      | take i o b x =>
        rw [hpp] at h
        simp only at h
        obtain ⟨hin, ho, hf, hw, ht⟩ := hpk.2 i o b x hpp
        have hq := take_does ht
        obtain ⟨v, hv, hr⟩ := hq _ _ _ (spG_elim h)
        cases b with
        | false =>
          have h1 := ih (listed.setIfInBounds i true) (a.put o.dst v) pend m w (down_set hd hin) hp hm hl hv
          refine wpAnyP_first (S := fun _ => True) (v := v) hms ho (Region.noSelect_spec hsel) (fun c a w h => h) n m listed a w (Region.free_spec ho hf) hd hin (.inl ⟨hw, fun w' _ => hr w' (by simp)⟩) trivial hm ?_
          exact wpAnyP_more n h1
        | true =>
          have h1 := ih (listed.setIfInBounds i true) (a.put o.dst v) (⟨i, v, x⟩ :: pend) ((holdW P (execOp a.eval o) v, i) :: m) w (down_set hd hin) (.cons hq hp) (fun q hq' => by
            rcases List.mem_cons.1 hq' with rfl | hq'
            · exact hr w fun _ => rfl
            · exact hm q hq') hl hv
          exact wpAnyP_first (S := holdW P (execOp a.eval o) v) (v := v) hms ho (Region.noSelect_spec hsel) (fun c a w h => h) n m listed a w (Region.free_spec ho hf) hd hin (.inl ⟨hw, fun w' h' => h'⟩) (hr w fun _ => rfl) hm h1
      | no =>
        rw [hpp] at h
        simp only at h
        refine ⟨(fun h0 => by rw [hrs] at h0; cases h0), fun j hj => ?_⟩
        have hj' := allL_mem h j hj
        unfold wpOp
        rw [hget] at hj'
        cases ho : ops[j]? with
        | none => rw [ho] at hj'; exact hj'.elim
        | some o =>
          rw [ho] at hj'
          simp only at hj' ⊢
          cases hw : Region.wanted o (yielded ops a.tmps) with
          | false =>
            rw [hw] at hj'
            simp only [Bool.false_eq_true, if_false] at hj' ⊢
            exact ⟨fun p hp' _ => hm p hp', ih _ _ _ _ w (down_set hd hj) (hp.filter (f := fun i => !sc ms i j)) (fun q hq => hm q (List.mem_filter.1 hq).1) hl hj'⟩
          | true =>
            rw [hw] at hj'
            simp only [if_true] at hj' ⊢
            refine .inl ?_
            have hdo := does_op P a.eval o (fun v H' => heldV H' (pend.filter fun p => !sc ms p.i j) (anyV P ops ms K n (listed.setIfInBounds j true) (a.put o.dst v) (pend.filter fun p => !sc ms p.i j) H')) (fun _ _ => False) w (spG_elim hj')
            have hstep : ∀ v w2, Like w w2 → heldV w2.heap (pend.filter fun p => !sc ms p.i j) (anyV P ops ms K n (listed.setIfInBounds j true) (a.put o.dst v) (pend.filter fun p => !sc ms p.i j) w2.heap) →
                (∀ p ∈ m, sc ms p.2 j = false → p.1 w2) ∧ wpAnyP P ops (OnlyNormal K w0) ms n (m.filter fun p => !sc ms p.2 j) (listed.setIfInBounds j true) (a.put o.dst v) w2 := by
              intro v w2 hl2 hh
              obtain ⟨h1, h2⟩ := heldV_get hh
              have h3 := (hp.filter (f := fun i => !sc ms i j)).holds h2
              refine ⟨fun p hpm hs => h3 p (List.mem_filter.2 ⟨hpm, by simp [hs]⟩), ih _ _ _ _ w2 (down_set hd hj) (hp.filter (f := fun i => !sc ms i j)) h3 (hl.trans hl2) h1⟩
            unfold Oper.wp
            cases hx : (execOp a.eval o).run P w with
            | halt x w' => rw [hx] at hdo; cases x <;> first | exact hdo.elim | exact hdo.1.elim
            | ok nx w' =>
              rw [hx] at hdo
              obtain ⟨h1, hl1⟩ := hdo
              cases nx <;> first
                | exact h1.elim
                | exact hstep _ w' hl1 h1
                | skip
              rename_i f args
              refine (h1 w' rfl).mono ?_
              rintro e w2 ⟨h2, h3⟩
              cases e with
              | returned v => exact hstep v w2 (hl1.trans h3) h2
              | panicked c => exact h2.elim
              | outgrown => exact h2.elim
end Go.Proofs.YtngploohhmfaiaaGreat.E
