/- My own texts, joined. -/
import Derived.OrdersHeld
import Derived.Test.YtklppdodadkcnaaGreatIC2
namespace Go.Proofs.YtklppdodadkcnaaGreat.E
open Go
set_option linter.unusedVariables false
def wpAnyP (P : Program) (ops : Array Oper) (Q : Exit → Act → World → Prop) (ms : List Nat) : Nat → List ((World → Prop) × Nat) → Array Bool → Act → World → Prop
 | 0, _, listed, a, w => Region.ready .any ops listed = [] ∧ Q .normal a w
 | n + 1, pend, listed, a, w => (Region.ready .any ops listed = [] → Q .normal a w) ∧ ∀ j ∈ Region.ready .any ops listed,
   wpOp P ops Q j (fun a' w' => (∀ p ∈ pend, sc ms p.2 j = false → p.1 w') ∧ wpAnyP P ops Q ms n (pend.filter fun p => !sc ms p.2 j) (listed.setIfInBounds j true) a' w') a w
section
variable {P : Program} {ops : Array Oper} {Q : Exit → Act → World → Prop} {ms : List Nat}
theorem wpAnyP_less : ∀ (n : Nat) {pend pend' : List ((World → Prop) × Nat)} {listed : Array Bool} {a : Act} {w : World}, (∀ p ∈ pend', p ∈ pend) →
  wpAnyP P ops Q ms n pend listed a w → wpAnyP P ops Q ms n pend' listed a w
 | 0, _, _, _, _, _, _, h => h
 | n + 1, pend, pend', listed, a, w, hs, h => ⟨h.1, fun j hj => wpOp_mono (fun a' w' h' => ⟨fun p hp => h'.1 p (hs p hp), wpAnyP_less n (fun p hp => by
   obtain ⟨h1, h2⟩ := List.mem_filter.1 hp
   exact List.mem_filter.2 ⟨hs p h1, h2⟩) h'.2⟩) (h.2 j hj)⟩
theorem wpAny_ofP : ∀ (n : Nat) {pend : List ((World → Prop) × Nat)} {listed : Array Bool} {a : Act} {w : World}, wpAnyP P ops Q ms n pend listed a w → wpAny P .any ops Q n listed a w
 | 0, _, _, _, _, h => h
 | n + 1, pend, listed, a, w, h => ⟨h.1, fun j hj => wpOp_mono (fun a' w' h' => wpAny_ofP n h'.2) (h.2 j hj)⟩
theorem down_set {listed : Array Bool} (hd : Down ops listed) {j : Nat} (hj : j ∈ Region.ready .any ops listed) : Down ops (listed.setIfInBounds j true) := by
 intro k o hk hl e he hb
 obtain ⟨hjun, oj, hoj, hall⟩ := mem_ready.1 hj
 by_cases hkj : k = j
 ·subst hkj; rw [hoj] at hk; cases hk
  exact getD_set_true (hall e he hb)
 ·rw [getD_set_ne false (Ne.symm hkj)] at hl
  exact getD_set_true (hd k o hk hl e he hb)
theorem sc_false (hms : ms = masks ops) {listed : Array Bool} (hd : Down ops listed) {i j : Nat} (hj : j ∈ Region.ready .any ops listed) (hi : listed.getD i true = false) : sc ms i j = false := by
 cases h : sc ms i j with
 | false => rfl
 | true =>
  subst hms
  obtain ⟨_, oj, hoj, hall⟩ := mem_ready.1 hj
  have h1 := down_tp hd (masks_spec ops i j h) oj hoj hall
  rcases Nat.lt_or_ge i listed.size with h' | h'
  ·simp [h'] at hi h1; rw [hi] at h1; cases h1
  ·simp [Array.getElem?_eq_none h'] at h1
theorem wpAnyP_first {i : Nat} {oi : Oper} {v : Value} {S : World → Prop} (hms : ms = masks ops) (hi : ops[i]? = some oi) (hsel : ∀ (j : Nat) (o : Oper) cs b, ops[j]? = some o → o.op ≠ .select cs b)
  (hQ : ∀ c a w, Q (.panic c) (a.put oi.dst v) w → Q (.panic c) a w) :
  ∀ (fuel : Nat) (pend : List ((World → Prop) × Nat)) (listed : Array Bool) (a : Act) (w : World),
   (∀ j oj, ops[j]? = some oj → j ≠ i → listed.getD j true = false → (∀ e ∈ oj.after, Region.binds .any e = true → e.on ≠ i) → oi.apart ops oj = true) →
   Down ops listed → i ∈ Region.ready .any ops listed → YieldsIf P ops S oi v a → S w → (∀ p ∈ pend, p.1 w) →
   wpAnyP P ops Q ms fuel ((S, i) :: pend) (listed.setIfInBounds i true) (a.put oi.dst v) w → wpAnyP P ops Q ms (fuel + 1) pend listed a w := by
 intro fuel
 induction fuel with
 | zero =>
  intro pend listed a w _ hd hr hy hS hp H
  refine ⟨fun h => (by rw [h] at hr; cases hr), fun j hj => ?_⟩
  by_cases hji : j = i
  ·subst hji; exact hy.wpOp hi hS ⟨fun p hm _ => hp p hm, H⟩
  ·have := ready_mono hj hji
   rw [H.1] at this
   cases this
 | succ fuel ih =>
  intro pend listed a w hfree hd hr hy hS hp H
  refine ⟨fun h => (by rw [h] at hr; cases hr), fun j hj => ?_⟩
  by_cases hji : j = i
  ·subst hji
   refine hy.wpOp hi hS ⟨fun p hm _ => hp p hm, wpAnyP_less _ (fun p hm => ?_) H⟩
   exact List.mem_cons_of_mem _ (List.mem_filter.1 hm).1
  ·have h1 := H.2 j (ready_mono hj hji)
   obtain ⟨hjun, oj, hoj, hall⟩ := mem_ready.1 hj
   have hiun := (mem_ready.1 hr).1
   have hnot : ∀ e ∈ oj.after, Region.binds .any e = true → e.on ≠ i := fun e he hb heq => by
    have h1 := hall e he hb
    rw [heq] at h1
    rcases Nat.lt_or_ge i listed.size with h' | h'
    ·simp [h'] at hiun h1; rw [hiun] at h1; cases h1
    ·simp [Array.getElem?_eq_none h'] at h1
   have hsc : sc ms i j = false := sc_false hms hd hj hiun
   have h2 := wpOp_putIf hoj (hfree j oj hoj hji hjun hnot) (fun cs b => hsel i oi cs b hi) (fun cs b => hsel j oj cs b hoj) hQ hy h1
   have hfree' : ∀ k ok, ops[k]? = some ok → k ≠ i → (listed.setIfInBounds j true).getD k true = false →
     (∀ e ∈ ok.after, Region.binds .any e = true → e.on ≠ i) → oi.apart ops ok = true := fun k ok hk hki hun hno => by
    refine hfree k ok hk hki ?_ hno
    by_cases hjk : j = k
    ·subst hjk; exact hjun
    ·rw [getD_set_ne true hjk] at hun; exact hun
   refine wpOp_mono (fun a' w' h3 => ?_) h2
   obtain ⟨hy', h4, h5⟩ := h3
   have hS' : S w' := h4 (S, i) List.mem_cons_self hsc
   have hp' : ∀ p ∈ pend, sc ms p.2 j = false → p.1 w' := fun p hm hs => h4 p (List.mem_cons_of_mem _ hm) hs
   refine ⟨hp', ih (pend.filter fun p => !sc ms p.2 j) (listed.setIfInBounds j true) a' w' hfree' (down_set hd hj) (ready_mono hr (Ne.symm hji)) hy' hS' (fun p hm => ?_) ?_⟩
   ·obtain ⟨h6, h7⟩ := List.mem_filter.1 hm
    exact hp' p h6 (by simpa using h7)
   ·rw [Array.setIfInBounds_comm _ _ hji]
    have e : ((S, i) :: pend).filter (fun p => !sc ms p.2 j) = (S, i) :: pend.filter (fun p => !sc ms p.2 j) := by simp [hsc]
    rw [e] at h5
    exact h5
end
inductive Pick where
 | no
 | skip (i : Nat) (o : Oper)
 | take (i : Nat) (o : Oper) (b : Bool) (x : Sp Value)
def pickOp (P : Program) (ops : Array Oper) (listed : Array Bool) (a : Act) : List Nat → Pick
 | [] => .no
 | i :: r => match ops.toList[i]? with
  | none => pickOp P ops listed a r
  | some o => match Region.wanted o (yielded ops a.tmps) with
   | false => match Region.free .any ops listed i with
    | true => .skip i o
    | false => pickOp P ops listed a r
   | true => match takeS P a.eval o with
    | none => pickOp P ops listed a r
    | some (b, x) => match Region.free .any ops listed i with
     | true => .take i o b x
     | false => pickOp P ops listed a r
structure Pend where
 i : Nat
 v : Value
 x : Sp Value
def heldV (H : Heap) : List Pend → Prop → Prop
 | [], K => K
 | p :: r, K => p.x.run (fun u _ => u = p.v) (fun _ _ => False) H ∧ heldV H r K
def allL (p : Nat → Prop) : List Nat → Prop
 | [] => True
 | [i] => p i
 | i :: r => p i ∧ allL p r
def forceL {α β : Type} : List α → (List α → β) → β
 | [], k => k []
 | x :: xs, k => forceL xs fun ys => k (x :: ys)
theorem forceL_eq {α β : Type} : ∀ (l : List α) (k : List α → β), forceL l k = k l
 | [], _ => rfl
 | x :: xs, k => by rw [forceL, forceL_eq xs]
def forceA {β : Type} (a : Act) (k : Act → β) : β := forceL a.tmps.toList fun l => forceL a.defers fun d => k ⟨⟨l⟩, d⟩
theorem forceA_eq {β : Type} (a : Act) (k : Act → β) : forceA a k = k a := by unfold forceA; rw [forceL_eq, forceL_eq]
def forceB {β : Type} (b : Array Bool) (k : Array Bool → β) : β := forceL b.toList fun l => k ⟨l⟩
theorem forceB_eq {β : Type} (b : Array Bool) (k : Array Bool → β) : forceB b k = k b := by unfold forceB; rw [forceL_eq]
def anyV (P : Program) (ops : Array Oper) (ms : List Nat) (K : Act → Heap → Prop) : Nat → Array Bool → Act → List Pend → Heap → Prop
 | 0, listed, a, _, H => match Region.ready .any ops listed with
  | [] => K a H
  | _ => False
 | n + 1, listed0, a0, pend, H => forceA a0 fun a => forceB listed0 fun listed =>
  match Region.ready .any ops listed with
  | [] => K a H
  | rs => match pickOp P ops listed a rs with
   | .skip i o => anyV P ops ms K n (listed.setIfInBounds i true) (a.put o.dst undef) pend H
   | .take i o b x => (spG ops o x).run (fun v _ => anyV P ops ms K n (listed.setIfInBounds i true) (a.put o.dst v) (match b with | true => ⟨i, v, x⟩ :: pend | false => pend) H) (fun _ _ => False) H
   | .no => allL (fun j => match ops.toList[j]? with
    | none => False
    | some o => match Region.wanted o (yielded ops a.tmps) with
     | false => anyV P ops ms K n (listed.setIfInBounds j true) (a.put o.dst undef) (pend.filter fun p => !sc ms p.i j) H
     | true => (spG ops o (opS P a.eval o)).run (fun v H' => heldV H' (pend.filter fun p => !sc ms p.i j) (anyV P ops ms K n (listed.setIfInBounds j true) (a.put o.dst v) (pend.filter fun p => !sc ms p.i j) H')) (fun _ _ => False) H) rs
theorem allL_mem {p : Nat → Prop} : ∀ {l : List Nat}, allL p l → ∀ i ∈ l, p i
 | [i], h, j, hj => by rw [List.mem_singleton] at hj; subst hj; exact h
 | i :: k :: r, h, j, hj => by
  rcases List.mem_cons.1 hj with rfl | hj
  ·exact h.1
  ·exact allL_mem (l := k :: r) h.2 j hj
theorem heldV_get {H : Heap} {K : Prop} : ∀ {l : List Pend}, heldV H l K → K ∧ ∀ p ∈ l, p.x.run (fun u _ => u = p.v) (fun _ _ => False) H
 | [], h => ⟨h, fun p hp => by cases hp⟩
 | p :: r, h => by
  obtain ⟨h1, h2⟩ := heldV_get (l := r) h.2
  refine ⟨h1, fun q hq => ?_⟩
  rcases List.mem_cons.1 hq with rfl | hq
  ·exact h.1
  ·exact h2 q hq
theorem wpAnyP_more {P : Program} {ops : Array Oper} {Q : Exit → Act → World → Prop} {ms : List Nat} {i : Nat} : ∀ (n : Nat) {pend : List ((World → Prop) × Nat)} {listed : Array Bool} {a : Act} {w : World},
  wpAnyP P ops Q ms n pend listed a w → wpAnyP P ops Q ms n (((fun _ => True), i) :: pend) listed a w
 | 0, _, _, _, _, h => h
 | n + 1, pend, listed, a, w, h => ⟨h.1, fun j hj => wpOp_mono (fun a' w' h' => ⟨fun p hp hs => by
   rcases List.mem_cons.1 hp with rfl | hp
   ·exact trivial
   ·exact h'.1 p hp hs, by
   cases hsj : sc ms i j with
   | true => simp only [List.filter_cons, hsj]; exact h'.2
   | false => simp only [List.filter_cons, hsj]; exact wpAnyP_more n h'.2⟩) (h.2 j hj)⟩
def holdW (P : Program) (s : Sem Next) (v : Value) (w : World) : Prop := s.run P w = .ok (.value v) w
inductive Pends (P : Program) : List Pend → List ((World → Prop) × Nat) → Prop
 | nil : Pends P [] []
 | cons {p : Pend} {s : Sem Next} {l : List Pend} {m : List ((World → Prop) × Nat)} : DoesQ true P s p.x → Pends P l m → Pends P (p :: l) ((holdW P s p.v, p.i) :: m)
theorem Pends.filter {P : Program} {f : Nat → Bool} {l : List Pend} {m : List ((World → Prop) × Nat)} (h : Pends P l m) : Pends P (l.filter fun p => f p.i) (m.filter fun p => f p.2) := by
 induction h with
 | nil => exact .nil
 | @cons p s l m hq _ ih =>
  cases hf : f p.i with
  | true => simp only [List.filter_cons, hf, if_true]; exact .cons hq ih
  | false => simp only [List.filter_cons, hf]; exact ih
theorem Pends.holds {P : Program} {l : List Pend} {m : List ((World → Prop) × Nat)} (h : Pends P l m) {w : World} (hl : ∀ p ∈ l, p.x.run (fun u _ => u = p.v) (fun _ _ => False) w.heap) : ∀ q ∈ m, q.1 w := by
 induction h with
 | nil => intro q hq; cases hq
 | @cons p s l m hq _ ih =>
  intro q hm
  rcases List.mem_cons.1 hm with rfl | hm
  ·obtain ⟨v, hv, hr⟩ := hq _ _ _ (hl p List.mem_cons_self)
   have : (fun u (_ : Heap) => u = p.v) v w.heap := hv
   show s.run P w = .ok (.value p.v) w
   rw [← (show v = p.v from this)]; exact hr w fun _ => rfl
  ·exact ih (fun p hp => hl p (List.mem_cons_of_mem _ hp)) q hm
def OnlyNormal (K : Act → Heap → Prop) (w0 : World) : Exit → Act → World → Prop
 | .normal, a, w => K a w.heap ∧ Like w0 w
 | _, _, _ => False
theorem anyV_sound {P : Program} {ops : Array Oper} {ms : List Nat} {K : Act → Heap → Prop} {w0 : World} (hms : ms = masks ops) (hsel : Region.noSelect ops = true) :
  ∀ (n : Nat) (listed : Array Bool) (a : Act) (pend : List Pend) (m : List ((World → Prop) × Nat)) (w : World), Down ops listed → Pends P pend m → (∀ q ∈ m, q.1 w) → Like w0 w →
   anyV P ops ms K n listed a pend w.heap → wpAnyP P ops (OnlyNormal K w0) ms n m listed a w := by
 intro n
 induction n with
 | zero =>
  intro listed a pend m w _ _ _ hl h
  unfold anyV at h
  cases hrs : Region.ready .any ops listed with
  | nil => rw [hrs] at h; exact ⟨hrs, h, hl⟩
  | cons r0 rr => rw [hrs] at h; exact h.elim
 | succ n ih =>
  intro listed a pend m w hd hp hm hl h
  unfold anyV at h
  simp only [forceA_eq, forceB_eq] at h
  have hget : ∀ i : Nat, ops.toList[i]? = ops[i]? := fun i => by simp
  cases hrs : Region.ready .any ops listed with
  | nil =>
   rw [hrs] at h
   refine ⟨fun _ => ⟨h, hl⟩, (fun j hj => by rw [hrs] at hj; cases hj)⟩
  | cons r0 rr =>
   rw [hrs] at h
   simp only at h
   rw [← hrs] at h
   have hpick : ∀ rs : List Nat, (∀ i ∈ rs, i ∈ Region.ready .any ops listed) → (∀ i o, pickOp P ops listed a rs = .skip i o → i ∈ Region.ready .any ops listed ∧ ops[i]? = some o ∧ Region.free .any ops listed i = true ∧ Region.wanted o (yielded ops a.tmps) = false) ∧
     (∀ i o b x, pickOp P ops listed a rs = .take i o b x → i ∈ Region.ready .any ops listed ∧ ops[i]? = some o ∧ Region.free .any ops listed i = true ∧ Region.wanted o (yielded ops a.tmps) = true ∧ takeS P a.eval o = some (b, x)) := by
    intro rs
    induction rs with
    | nil => intro _; exact ⟨fun i o h => by simp [pickOp] at h, fun i o b x h => by simp [pickOp] at h⟩
    | cons i r ihr =>
     intro hall
     have hr := ihr fun i hi => hall i (List.mem_cons_of_mem _ hi)
     have hin := hall i List.mem_cons_self
     unfold pickOp
     cases ho : ops.toList[i]? with
     | none => exact hr
     | some o =>
      have ho' : ops[i]? = some o := by rw [← hget]; exact ho
      simp only
      cases hw : Region.wanted o (yielded ops a.tmps) with
      | false =>
       simp only
       cases hf : Region.free .any ops listed i with
       | false => exact hr
       | true => exact ⟨(fun i' o' h => by cases h; exact ⟨hin, ho', hf, hw⟩), (fun i' o' b x h => by cases h)⟩
      | true =>
       simp only
       cases ht : takeS P a.eval o with
       | none => exact hr
       | some bx =>
        obtain ⟨b, x⟩ := bx
        simp only
        cases hf : Region.free .any ops listed i with
        | false => exact hr
        | true => exact ⟨(fun i' o' h => by cases h), (fun i' o' b' x' h => by cases h; exact ⟨hin, ho', hf, hw, ht⟩)⟩
   have hpk := hpick (Region.ready .any ops listed) (fun i hi => hi)
   cases hpp : pickOp P ops listed a (Region.ready .any ops listed) with
   | skip i o =>
    rw [hpp] at h
    simp only at h
    obtain ⟨hin, ho, hf, hw⟩ := hpk.1 i o hpp
    have h1 := ih (listed.setIfInBounds i true) (a.put o.dst undef) pend m w (down_set hd hin) hp hm hl h
    refine wpAnyP_first (S := fun _ => True) (v := undef) hms ho (Region.noSelect_spec hsel) (fun c a w h => h) n m listed a w (Region.free_spec ho hf) hd hin (.inr ⟨hw, rfl⟩) trivial hm ?_
    exact wpAnyP_more n h1
   | take i o b x =>
    rw [hpp] at h
    simp only at h
    obtain ⟨hin, ho, hf, hw, ht⟩ := hpk.2 i o b x hpp
    have hq := take_does ht
    obtain ⟨v, hv, hr⟩ := hq _ _ _ (spG_elim h)
    cases b with
    | false =>
     have h1 := ih (listed.setIfInBounds i true) (a.put o.dst v) pend m w (down_set hd hin) hp hm hl hv
     refine wpAnyP_first (S := fun _ => True) (v := v) hms ho (Region.noSelect_spec hsel) (fun c a w h => h) n m listed a w (Region.free_spec ho hf) hd hin (.inl ⟨hw, fun w' _ => hr w' (by simp)⟩) trivial hm ?_
     exact wpAnyP_more n h1
    | true =>
     have h1 := ih (listed.setIfInBounds i true) (a.put o.dst v) (⟨i, v, x⟩ :: pend) ((holdW P (execOp a.eval o) v, i) :: m) w (down_set hd hin) (.cons hq hp) (fun q hq' => by
      rcases List.mem_cons.1 hq' with rfl | hq'
      ·exact hr w fun _ => rfl
      ·exact hm q hq') hl hv
     exact wpAnyP_first (S := holdW P (execOp a.eval o) v) (v := v) hms ho (Region.noSelect_spec hsel) (fun c a w h => h) n m listed a w (Region.free_spec ho hf) hd hin (.inl ⟨hw, fun w' h' => h'⟩) (hr w fun _ => rfl) hm h1
   | no =>
    rw [hpp] at h
    simp only at h
    refine ⟨(fun h0 => by rw [hrs] at h0; cases h0), fun j hj => ?_⟩
    have hj' := allL_mem h j hj
    unfold wpOp
    rw [hget] at hj'
    cases ho : ops[j]? with
    | none => rw [ho] at hj'; exact hj'.elim
    | some o =>
     rw [ho] at hj'
     simp only at hj' ⊢
     cases hw : Region.wanted o (yielded ops a.tmps) with
     | false =>
      rw [hw] at hj'
      simp only [Bool.false_eq_true, if_false] at hj' ⊢
      exact ⟨fun p hp' _ => hm p hp', ih _ _ _ _ w (down_set hd hj) (hp.filter (f := fun i => !sc ms i j)) (fun q hq => hm q (List.mem_filter.1 hq).1) hl hj'⟩
     | true =>
      rw [hw] at hj'
      simp only [if_true] at hj' ⊢
      refine .inl ?_
      have hdo := does_op P a.eval o (fun v H' => heldV H' (pend.filter fun p => !sc ms p.i j) (anyV P ops ms K n (listed.setIfInBounds j true) (a.put o.dst v) (pend.filter fun p => !sc ms p.i j) H')) (fun _ _ => False) w (spG_elim hj')
      have hstep : ∀ v w2, Like w w2 → heldV w2.heap (pend.filter fun p => !sc ms p.i j) (anyV P ops ms K n (listed.setIfInBounds j true) (a.put o.dst v) (pend.filter fun p => !sc ms p.i j) w2.heap) →
        (∀ p ∈ m, sc ms p.2 j = false → p.1 w2) ∧ wpAnyP P ops (OnlyNormal K w0) ms n (m.filter fun p => !sc ms p.2 j) (listed.setIfInBounds j true) (a.put o.dst v) w2 := by
       intro v w2 hl2 hh
       obtain ⟨h1, h2⟩ := heldV_get hh
       have h3 := (hp.filter (f := fun i => !sc ms i j)).holds h2
       refine ⟨fun p hpm hs => h3 p (List.mem_filter.2 ⟨hpm, by simp [hs]⟩), ih _ _ _ _ w2 (down_set hd hj) (hp.filter (f := fun i => !sc ms i j)) h3 (hl.trans hl2) h1⟩
      unfold Oper.wp
      cases hx : (execOp a.eval o).run P w with
      | halt x w' => rw [hx] at hdo; cases x <;> first | exact hdo.elim | exact hdo.1.elim
      | ok nx w' =>
       rw [hx] at hdo
       obtain ⟨h1, hl1⟩ := hdo
       cases nx <;> first
        | exact h1.elim
        | exact hstep _ w' hl1 h1
        | skip
       rename_i f args
       refine (h1 w' rfl).mono ?_
       rintro e w2 ⟨h2, h3⟩
       cases e with
       | returned v => exact hstep v w2 (hl1.trans h3) h2
       | panicked c => exact h2.elim
       | outgrown => exact h2.elim
end Go.Proofs.YtklppdodadkcnaaGreat.E
namespace Go.Proofs.YtklppdodadkcnaaGreat.E
open Go
set_option linter.unusedVariables false
def deferOf (ev : Operand → Value) (c : Call) : Option Deferred :=
 match c.callee with
 | .value f => match ev f with
  | .func fn first cap => some { target := .fn fn cap, args := (first.toList ++ c.args.toList.map ev).toArray }
  | _ => none
 | _ => none
def stepV (P : Program) (ops : Array Oper) (o : Oper) (a : Act) (next : Act → Heap → Prop) (Q : Exit → Act → Heap → Prop) (H : Heap) : Prop :=
 match o.op with
 | .defer c => match deferOf a.eval c with
  | some d => next ({ a with defers := d :: a.defers }.put o.dst undef) H
  | none => False
 | _ => (spG ops o (opS P a.eval o)).run (fun v H' => next (a.put o.dst v) H') (fun c H' => Q (.panic c) a H') H
def opsV (P : Program) (ops : Array Oper) (Q : Exit → Act → Heap → Prop) : List Oper → Act → Heap → Prop
 | [], a, H => Q .normal a H
 | o :: rest, a0, H => forceA a0 fun a => match Region.wanted o (yielded ops a.tmps) with
  | true => stepV P ops o a (fun a' H' => opsV P ops Q rest a' H') Q H
  | false => opsV P ops Q rest (a.put o.dst undef) H
def lift (Q : Exit → Act → Heap → Prop) (w0 : World) : Exit → Act → World → Prop := fun e a w => Q e a w.heap ∧ Like w0 w
theorem opN_step {P : Program} {o : Oper} {a : Act} {next : Act → World → Prop} {Q : Exit → Act → World → Prop} {w : World} {K : Value → Heap → Prop} {E : List PanicEntry → Heap → Prop}
  (hk : ∀ v w', K v w'.heap → Like w w' → next (a.put o.dst v) w') (he : ∀ c w', E c w'.heap → Like w w' → Q (.panic c) a w')
  (h : Outcome (nextK P K E) (fun v H' => E [{ v, recovered := false }] H') w ((execOp a.eval o).run P w)) : o.wp P a w next Q := by
 unfold Oper.wp
 cases hx : (execOp a.eval o).run P w with
 | halt x w' => rw [hx] at h; cases x <;> first | exact h.elim | exact he _ w' h.1 h.2
 | ok nx w' =>
  rw [hx] at h
  obtain ⟨h1, hl1⟩ := h
  cases nx <;> first
   | exact h1.elim
   | exact hk _ w' h1 hl1
   | skip
  rename_i f args
  refine (h1 w' rfl).mono ?_
  rintro e w2 ⟨h2, h3⟩
  cases e with
  | returned v => exact hk v w2 h2 (hl1.trans h3)
  | panicked c => exact he c w2 h2 (hl1.trans h3)
  | outgrown => exact h2.elim
theorem stepV_wp {P : Program} {ops : Array Oper} {o : Oper} {a : Act} {next : Act → Heap → Prop} {Q : Exit → Act → Heap → Prop} {w w0 : World} (hl : Like w0 w) (h : stepV P ops o a next Q w.heap) :
  o.wp P a w (fun a' w' => next a' w'.heap ∧ Like w0 w') (lift Q w0) := by
 obtain ⟨d, op, t, p, af, g⟩ := o
 cases op <;> first
  | exact opN_step (fun v w' hv hl' => ⟨hv, hl.trans hl'⟩) (fun c w' hc hl' => ⟨hc, hl.trans hl'⟩) (does_op P a.eval _ _ _ w (spG_elim h))
  | skip
 rename_i c
 unfold stepV at h
 simp only at h
 cases hd : deferOf a.eval c with
 | none => rw [hd] at h; exact h.elim
 | some dd =>
  rw [hd] at h
  simp only at h
  obtain ⟨callee, args, ats⟩ := c
  unfold deferOf at hd
  cases callee <;> first | (cases hd; done) | skip
  rename_i f
  simp only at hd
  cases hf : a.eval f <;> rw [hf] at hd <;> first | (cases hd; done) | skip
  rename_i fn first cap
  cases hd
  have e : (first.toList ++ args.toList.map a.eval).toArray = first ++ args.map a.eval := Array.toList_inj.1 (by simp)
  have hx : (execOp a.eval ⟨d, .defer ⟨.value f, args, ats⟩, t, p, af, g⟩).run P w = .ok (.defer { target := .fn fn cap, args := (first.toList ++ args.toList.map a.eval).toArray }) w := by
   rw [e]
   simp [execOp, resolve, hf, Deferred.ofValue]
  unfold Oper.wp
  rw [hx]
  exact ⟨h, hl⟩
theorem opsV_wp {P : Program} {ops : Array Oper} {Q : Exit → Act → Heap → Prop} {w0 : World} : ∀ (l : List Oper) (a : Act) (w : World), Like w0 w → opsV P ops Q l a w.heap → wpList P ops (lift Q w0) l a w
 | [], a, w, hl, h => ⟨h, hl⟩
 | o :: rest, a, w, hl, h => by
  unfold opsV at h
  simp only [forceA_eq] at h
  unfold wpList
  cases hw : Region.wanted o (yielded ops a.tmps) with
  | true =>
   rw [hw] at h
   simp only [if_true]
   refine .inl ?_
   exact Oper.wp_mono (fun a' w' h' => opsV_wp rest a' w' h'.2 h'.1) (stepV_wp hl h)
  | false =>
   rw [hw] at h
   simp only [Bool.false_eq_true, if_false]
   exact opsV_wp rest _ w hl h
theorem regionV_wp {P : Program} {id : Nat} {ops : Array Oper} {Q : Exit → Act → Heap → Prop} {a : Act} {w w0 : World} (hl : Like w0 w) (h : opsV P ops Q ops.toList a w.heap) : (Code.region id ops false).wp P (lift Q w0) a w :=
 wp_region_list (opsV_wp ops.toList a w hl h)
theorem down_none (ops : Array Oper) (n : Nat) : Down ops (Array.replicate n false) := fun j o _ h => by
 simp [Array.getD] at h
theorem drawV_wp {P : Program} {id : Nat} {ops : Array Oper} {Q : Exit → Act → Heap → Prop} {a : Act} {w w0 : World} (hl : Like w0 w) (hm : P.follows .mixedOrders = true) (hs : Region.noSelect ops = true)
  (h : anyV P ops (masks ops) (Q .normal) ops.size (Array.replicate ops.size false) a [] w.heap) : (Code.region id ops true).wp P (lift Q w0) a w := by
 have h1 := wpAny_ofP ops.size (anyV_sound (w0 := w0) rfl hs ops.size (Array.replicate ops.size false) a [] [] { w with drawn := w.drawn + 1 } (down_none ops _) .nil (fun q hq => by cases hq) (hl.trans ⟨rfl, rfl, rfl⟩) h)
 refine wp_mono (wp_region_any hm h1) fun e a' w' h' => ?_
 cases e <;> first | exact h' | exact h'.elim
end Go.Proofs.YtklppdodadkcnaaGreat.E
namespace Go.Proofs.YtklppdodadkcnaaGreat.E
open Go
set_option linter.unusedVariables false
structure Ann where
 live : List (Nat × TypeId)
 junk : List Nat
def Ann.slots (A : Ann) : List Nat := A.live.map (·.1) ++ A.junk
inductive An where
 | leaf
 | node (j : Option Ann) (l r : An)
def An.j : An → Option Ann
 | .leaf => none
 | .node j _ _ => j
def An.l : An → An
 | .leaf => .leaf
 | .node _ l _ => l
def An.r : An → An
 | .leaf => .leaf
 | .node _ _ r => r
def readA (slots : List Nat) (a : Act) : List Value := slots.map fun i => a.tmps.getD i undef
def putsA : List Nat → List Value → Act → Act
 | i :: is, v :: vs, a => putsA is vs (a.put (some i) v)
 | _, _, a => a
def allT1 (P : Program) (t : TypeId) (k : Value → Prop) : Prop :=
 match P.underlying t with
 | some (.int kd) => ∀ n : Int, k (.int kd n)
 | some .bool => ∀ b, k (.bool b)
 | some .string => ∀ s, k (.string s)
 | some (.pointer _) => ∀ a, k (.pointer a)
 | some (.slice _) => ∀ a n c, k (.slice a n c)
 | some (.map _ _) => ∀ r, k (.map r)
 | _ => ∀ v, k v
def okT1 (P : Program) (t : TypeId) (v : Value) (x : Prop) : Prop :=
 match P.underlying t with
 | some (.int kd) => dInt kd v fun _ => x
 | some .bool => match v with | .bool _ => x | _ => False
 | some .string => dStr v fun _ => x
 | some (.pointer _) => dPtr v fun _ => x
 | some (.slice _) => dSl v fun _ _ _ => x
 | some (.map _ _) => dMap v fun _ => x
 | _ => x
theorem okT1_elim {P : Program} {t : TypeId} {v : Value} {x : Prop} (h : okT1 P t v x) : x ∧ ∀ k : Value → Prop, allT1 P t k → k v := by
 unfold okT1 at h
 unfold allT1
 split at h
 ·obtain ⟨n, rfl, hx⟩ := dInt_elim (k := fun _ => x) h
  rename_i hu
  exact ⟨hx, fun k hk => by simpa [hu] using hk n⟩
 ·rename_i hu
  split at h
  ·rename_i b
   exact ⟨h, fun k hk => hk b⟩
  ·exact h.elim
 ·obtain ⟨n, rfl, hx⟩ := dStr_elim (k := fun _ => x) h
  exact ⟨hx, fun k hk => hk n⟩
 ·obtain ⟨n, rfl, hx⟩ := dPtr_elim (k := fun _ => x) h
  exact ⟨hx, fun k hk => hk n⟩
 ·obtain ⟨a, n, c, rfl, hx⟩ := dSl_elim (k := fun _ _ _ => x) h
  exact ⟨hx, fun k hk => hk a n c⟩
 ·obtain ⟨n, rfl, hx⟩ := dMap_elim (k := fun _ => x) h
  exact ⟨hx, fun k hk => hk n⟩
 ·exact ⟨h, fun k hk => hk v⟩
theorem allT1_mono {P : Program} {t : TypeId} {k k' : Value → Prop} (hm : ∀ v, k v → k' v) (h : allT1 P t k) : allT1 P t k' := by
 revert h
 unfold allT1
 split <;> intro h <;> first
  | exact fun n => hm _ (h n)
  | exact fun a n c => hm _ (h a n c)
def allTs (P : Program) : List TypeId → (List Value → Prop) → Prop
 | [], k => k []
 | t :: ts, k => allT1 P t fun v => allTs P ts fun vs => k (v :: vs)
def okTs (P : Program) : List TypeId → List Value → Prop → Prop
 | [], [], x => x
 | t :: ts, v :: vs, x => okT1 P t v (okTs P ts vs x)
 | _, _, _ => False
theorem okTs_elim {P : Program} : ∀ {ts : List TypeId} {vs : List Value} {x : Prop}, okTs P ts vs x → x ∧ ∀ k : List Value → Prop, allTs P ts k → k vs
 | [], [], x, h => ⟨h, fun k hk => hk⟩
 | [], _ :: _, x, h => h.elim
 | _ :: _, [], x, h => h.elim
 | t :: ts, v :: vs, x, h => by
  obtain ⟨h1, h2⟩ := okT1_elim h
  obtain ⟨h3, h4⟩ := okTs_elim h1
  exact ⟨h3, fun k hk => h4 (fun vs => k (v :: vs)) (h2 _ hk)⟩
theorem okT1_less {P : Program} {t : TypeId} {v : Value} {x y : Prop} (hxy : x → y) (h : okT1 P t v x) : okT1 P t v y := by
 revert h
 unfold okT1
 split <;> intro h
 ·obtain ⟨n, rfl, hx⟩ := dInt_elim (k := fun _ => x) h
  show gB _ _; rw [decide_eq_true rfl]; exact hxy hx
 ·split at h
  ·exact hxy h
  ·exact h.elim
 ·obtain ⟨n, rfl, hx⟩ := dStr_elim (k := fun _ => x) h; exact hxy hx
 ·obtain ⟨n, rfl, hx⟩ := dPtr_elim (k := fun _ => x) h; exact hxy hx
 ·obtain ⟨a, n, c, rfl, hx⟩ := dSl_elim (k := fun _ _ _ => x) h; exact hxy hx
 ·obtain ⟨n, rfl, hx⟩ := dMap_elim (k := fun _ => x) h; exact hxy hx
 ·exact hxy h
theorem okTs_less {P : Program} {x y : Prop} (hxy : x → y) : ∀ {ts : List TypeId} {vs : List Value}, okTs P ts vs x → okTs P ts vs y
 | [], [], h => hxy h
 | [], _ :: _, h => h.elim
 | _ :: _, [], h => h.elim
 | t :: ts, v :: vs, h => okT1_less (okTs_less hxy) h
theorem allTs_mono {P : Program} : ∀ {ts : List TypeId} {k k' : List Value → Prop}, (∀ vs, k vs → k' vs) → allTs P ts k → allTs P ts k'
 | [], k, k', hm, h => hm _ h
 | t :: ts, k, k', hm, h => allT1_mono (fun v hv => allTs_mono (fun vs => hm (v :: vs)) hv) h
def allV : Nat → (List Value → Prop) → Prop
 | 0, k => k []
 | n + 1, k => ∀ v : Value, allV n fun vs => k (v :: vs)
theorem allV_elim : ∀ {n : Nat} {k : List Value → Prop}, allV n k → ∀ vs : List Value, vs.length = n → k vs
 | 0, k, h, [], _ => h
 | 0, k, h, _ :: _, hl => by simp at hl
 | n + 1, k, h, [], hl => by simp at hl
 | n + 1, k, h, v :: vs, hl => allV_elim (h v) vs (by simpa using hl)
theorem allV_mono : ∀ {n : Nat} {k k' : List Value → Prop}, (∀ vs, k vs → k' vs) → allV n k → allV n k'
 | 0, k, k', hm, h => hm _ h
 | n + 1, k, k', hm, h => fun v => allV_mono (fun vs => hm (v :: vs)) (h v)
def thenV (next : Act → Heap → Prop) (Q : Exit → Act → Heap → Prop) : Exit → Act → Heap → Prop
 | .normal, a, H => next a H
 | e, a, H => Q e a H
def blockV (id : Nat) (Q : Exit → Act → Heap → Prop) : Exit → Act → Heap → Prop
 | .exit i, a, H => match Nat.beq i id with
  | true => Q .normal a H
  | false => Q (.exit i) a H
 | e, a, H => Q e a H
def scopeV (Q : Exit → Act → Heap → Prop) : Exit → Act → Heap → Prop
 | .goto _, _, _ => False
 | e, a, H => Q e a H
def opIn (M : List Nat) (o : Oper) : Bool :=
 (match o.dst with | some d => M.elem d | none => true) && (match o.op with | .defer _ => false | _ => true)
def slotsIn (M : List Nat) : Code → An → Bool
 | .region _ ops _, _ => ops.toList.all (opIn M)
 | .seq x y, an => (match an.j with | some A => A.slots.all (M.elem ·) | none => true) && (slotsIn M x an.l && slotsIn M y an.r)
 | .cond _ x y, an => slotsIn M x an.l && slotsIn M y an.r
 | .block _ b, an => slotsIn M b an.l
 | .scope b, an => slotsIn M b an.l
 | .loop b, an => (match an.j with | some A => A.slots.all (M.elem ·) | none => false) && slotsIn M b an.l
 | .skip, _ => true
 | .label _, _ => true
 | .exit _, _ => true
 | .ret, _ => true
 | _, _ => false
def joinK (P : Program) (A : Ann) (next : Act → Heap → Prop) (a : Act) : VFH A.live.length :=
 curH A.live.length fun vs H' => allV A.junk.length fun us => (destrs P (A.live.map (·.2)) vs).run (fun ws _ => next (putsA A.junk us (putsA (A.live.map (·.1)) ws a)) H') (fun _ _ => False) H'
def loopQ (P : Program) (A : Ann) (I : List Value → Heap → Prop) (μ : List Value → Heap → Nat) (n : Nat) (Q : Exit → Act → Heap → Prop) : Exit → Act → Heap → Prop
 | .normal, a, H => okTs P (A.live.map (·.2)) (readA (A.live.map (·.1)) a) (I (readA (A.live.map (·.1)) a) H ∧ μ (readA (A.live.map (·.1)) a) H < n)
 | e, a, H => Q e a H
def loopV (P : Program) (A : Ann) (body : (Exit → Act → Heap → Prop) → Act → Heap → Prop) (Q : Exit → Act → Heap → Prop) (a : Act) (H : Heap) : Prop :=
 ∃ (I : List Value → Heap → Prop) (μ : List Value → Heap → Nat), okTs P (A.live.map (·.2)) (readA (A.live.map (·.1)) a) (I (readA (A.live.map (·.1)) a) H) ∧
  allTs P (A.live.map (·.2)) fun vs => allV A.junk.length fun us => ∀ H', I vs H' → body (loopQ P A I μ (μ vs H') Q) (putsA A.junk us (putsA (A.live.map (·.1)) vs a)) H'
def vc (P : Program) : Code → An → (Exit → Act → Heap → Prop) → Act → Heap → Prop
 | .skip, _, Q, a, H => Q .normal a H
 | .label _, _, Q, a, H => Q .normal a H
 | .region _ ops draw, _, Q, a, H => match draw with
  | false => opsV P ops Q ops.toList a H
  | true => gB (P.follows .mixedOrders && Region.noSelect ops) (anyV P ops (masks ops) (Q .normal) ops.size (Array.replicate ops.size false) a [] H)
 | .seq x y, an, Q, a, H => match an.j with
  | none => vc P x an.l (thenV (fun a' H' => vc P y an.r Q a' H') Q) a H
  | some A => gB (slotsIn A.slots x an.l) (jn (joinK P A (fun a' H' => vc P y an.r Q a' H') a) fun k => vc P x an.l (thenV (fun a' H' => aplH A.live.length k (readA (A.live.map (·.1)) a') H') Q) a H)
 | .cond c x y, an, Q, a, H => match a.eval c with
  | .bool b => sB b (vc P x an.l Q a H) (vc P y an.r Q a H)
  | _ => False
 | .block id b, an, Q, a, H => vc P b an.l (blockV id Q) a H
 | .scope b, an, Q, a, H => vc P b an.l (scopeV Q) a H
 | .loop b, an, Q, a, H => match an.j with
  | none => False
  | some A => gB (slotsIn A.slots b an.l) (loopV P A (fun Q a H => vc P b an.l Q a H) Q a H)
 | .exit id, _, Q, a, H => Q (.exit id) a H
 | .ret, _, Q, a, H => Q .ret a H
 | _, _, _, _, _ => False
structure Same (M : List Nat) (a a' : Act) : Prop where
 defers : a'.defers = a.defers
 size : a'.tmps.size = a.tmps.size
 tmps : ∀ i, i ∉ M → a'.tmps[i]? = a.tmps[i]?
theorem Same.refl (M : List Nat) (a : Act) : Same M a a := ⟨rfl, rfl, fun _ _ => rfl⟩
theorem Same.put {M : List Nat} {a a' : Act} (h : Same M a a') {d : Option Tmp} (hd : ∀ i, d = some i → i ∈ M) (v : Value) : Same M a (a'.put d v) := by
 cases d with
 | none => exact h
 | some i =>
  refine ⟨h.defers, by simp [Act.put, h.size], fun j hj => ?_⟩
  have hne : i ≠ j := fun e => hj (e ▸ hd i rfl)
  simp [Act.put, Array.getElem?_setIfInBounds_ne hne, h.tmps j hj]
theorem Same.puts {M : List Nat} {a : Act} : ∀ {is : List Nat} {vs : List Value} {a' : Act}, Same M a a' → (∀ i ∈ is, i ∈ M) → Same M a (putsA is vs a')
 | [], _, _, h, _ => h
 | i :: is, [], _, h, _ => h
 | i :: is, v :: vs, a', h, hi => Same.puts (is := is) (vs := vs) (a' := a'.put (some i) v) (h.put (fun j hj => by cases hj; exact hi _ List.mem_cons_self) v) fun j hj => hi j (List.mem_cons_of_mem _ hj)
theorem opIn_dst {M : List Nat} {o : Oper} (h : opIn M o = true) : ∀ i, o.dst = some i → i ∈ M := fun i hi => by
 unfold opIn at h
 rw [hi, Bool.and_eq_true] at h
 simpa using h.1
theorem opIn_defer {M : List Nat} {o : Oper} (h : opIn M o = true) : ∀ c, o.op ≠ .defer c := fun c hc => by
 unfold opIn at h
 rw [hc, Bool.and_eq_true] at h
 cases h.2
theorem stepV_op {P : Program} {ops : Array Oper} {o : Oper} {a : Act} {next : Act → Heap → Prop} {Q : Exit → Act → Heap → Prop} {H : Heap} (h : ∀ c, o.op ≠ .defer c) :
  stepV P ops o a next Q H = (spG ops o (opS P a.eval o)).run (fun v H' => next (a.put o.dst v) H') (fun c H' => Q (.panic c) a H') H := by
 unfold stepV
 split
 ·rename_i c hc; exact (h c hc).elim
 ·rfl
theorem opsV_frame {P : Program} {ops : Array Oper} {M : List Nat} {a0 : Act} {Q Q' : Exit → Act → Heap → Prop} (hq : ∀ e a' H', Same M a0 a' → Q e a' H' → Q' e a' H') :
  ∀ (l : List Oper) (a : Act) (H : Heap), Same M a0 a → l.all (opIn M) = true → opsV P ops Q l a H → opsV P ops Q' l a H
 | [], a, H, hs, _, h => hq _ _ _ hs h
 | o :: rest, a, H, hs, ha, h => by
  simp only [List.all_cons, Bool.and_eq_true] at ha
  unfold opsV at h ⊢
  simp only [forceA_eq] at h ⊢
  cases hw : Region.wanted o (yielded ops a.tmps) with
  | false => rw [hw] at h; exact opsV_frame hq rest _ H (hs.put (opIn_dst ha.1) _) ha.2 h
  | true =>
   rw [hw] at h
   simp only at h ⊢
   rw [stepV_op (opIn_defer ha.1)] at h ⊢
   exact (spG ops o (opS P a.eval o)).mono (fun v H' h' => opsV_frame hq rest _ H' (hs.put (opIn_dst ha.1) _) ha.2 h') (fun c H' h' => hq _ _ _ hs h') h
theorem heldV_mono {H : Heap} {K K' : Prop} (hk : K → K') : ∀ {l : List Pend}, heldV H l K → heldV H l K'
 | [], h => hk h
 | p :: r, h => ⟨h.1, heldV_mono hk h.2⟩
theorem allL_mono {p q : Nat → Prop} : ∀ {l : List Nat}, (∀ i ∈ l, p i → q i) → allL p l → allL q l
 | [], _, _ => trivial
 | [i], hm, h => hm i List.mem_cons_self h
 | i :: k :: r, hm, h => ⟨hm i List.mem_cons_self h.1, allL_mono (l := k :: r) (fun j hj => hm j (List.mem_cons_of_mem _ hj)) h.2⟩
theorem pickOp_mem {P : Program} {ops : Array Oper} {listed : Array Bool} {a : Act} : ∀ rs : List Nat, (∀ i o, pickOp P ops listed a rs = .skip i o → o ∈ ops.toList) ∧ (∀ i o b x, pickOp P ops listed a rs = .take i o b x → o ∈ ops.toList)
 | [] => ⟨fun i o h => by simp [pickOp] at h, fun i o b x h => by simp [pickOp] at h⟩
 | i :: r => by
  have hr := pickOp_mem (P := P) (ops := ops) (listed := listed) (a := a) r
  unfold pickOp
  cases ho : ops.toList[i]? with
  | none => exact hr
  | some o =>
   have hin : o ∈ ops.toList := List.mem_of_getElem? ho
   simp only
   cases hw : Region.wanted o (yielded ops a.tmps) with
   | false =>
    simp only
    cases hf : Region.free .any ops listed i with
    | false => exact hr
    | true => exact ⟨(fun i' o' h => by cases h; exact hin), (fun i' o' b x h => by cases h)⟩
   | true =>
    simp only
    cases ht : takeS P a.eval o with
    | none => exact hr
    | some bx =>
     obtain ⟨b, x⟩ := bx
     simp only
     cases hf : Region.free .any ops listed i with
     | false => exact hr
     | true => exact ⟨(fun i' o' h => by cases h), (fun i' o' b' x' h => by cases h; exact hin)⟩
theorem anyV_frame {P : Program} {ops : Array Oper} {ms : List Nat} {M : List Nat} {a0 : Act} {K K' : Act → Heap → Prop} (hk : ∀ a' H', Same M a0 a' → K a' H' → K' a' H') (ha : ops.toList.all (opIn M) = true) :
  ∀ (n : Nat) (listed : Array Bool) (a : Act) (pend : List Pend) (H : Heap), Same M a0 a → anyV P ops ms K n listed a pend H → anyV P ops ms K' n listed a pend H := by
 have hin : ∀ o ∈ ops.toList, opIn M o = true := List.all_eq_true.1 ha
 intro n
 induction n with
 | zero =>
  intro listed a pend H hs h
  unfold anyV at h ⊢
  cases hrs : Region.ready .any ops listed with
  | nil => rw [hrs] at h; exact hk _ _ hs h
  | cons r0 rr => rw [hrs] at h; exact h
 | succ n ih =>
  intro listed a pend H hs h
  unfold anyV at h ⊢
  simp only [forceA_eq, forceB_eq] at h ⊢
  cases hrs : Region.ready .any ops listed with
  | nil => rw [hrs] at h; exact hk _ _ hs h
  | cons r0 rr =>
   rw [hrs] at h
   simp only at h ⊢
   have hpm := pickOp_mem (P := P) (ops := ops) (listed := listed) (a := a) (r0 :: rr)
   cases hp : pickOp P ops listed a (r0 :: rr) with
   | skip i o => rw [hp] at h; exact ih _ _ _ _ (hs.put (opIn_dst (hin o (hpm.1 i o hp))) _) h
   | take i o b x =>
    rw [hp] at h
    exact (spG ops o x).mono (fun v H' h' => ih _ _ _ _ (hs.put (opIn_dst (hin o (hpm.2 i o b x hp))) _) h') (fun _ _ h' => h') h
   | no =>
    rw [hp] at h
    refine allL_mono (fun j _ hj => ?_) h
    cases ho : ops.toList[j]? with
    | none => rw [ho] at hj; exact hj
    | some o =>
     rw [ho] at hj
     simp only at hj ⊢
     have hio := hin o (List.mem_of_getElem? ho)
     cases hw : Region.wanted o (yielded ops a.tmps) with
     | false => rw [hw] at hj; exact ih _ _ _ _ (hs.put (opIn_dst hio) _) hj
     | true =>
      rw [hw] at hj
      exact (spG ops o (opS P a.eval o)).mono (fun v H' h' => heldV_mono (ih _ _ _ _ (hs.put (opIn_dst hio) _)) h') (fun _ _ h' => h') hj
theorem mem_of_elem {M : List Nat} {i : Nat} (h : M.elem i = true) : i ∈ M := by simpa using h
theorem slots_mem {M : List Nat} {A : Ann} (h : A.slots.all (M.elem ·) = true) : ∀ i ∈ A.slots, i ∈ M := fun i hi => mem_of_elem (List.all_eq_true.1 h i hi)
theorem destrs_mono {P : Program} {ts : List TypeId} {vs : List Value} {K K' : List Value → Heap → Prop} {H : Heap} (hk : ∀ us H, K us H → K' us H) (h : (destrs P ts vs).run K (fun _ _ => False) H) : (destrs P ts vs).run K' (fun _ _ => False) H :=
 (destrs P ts vs).mono hk (fun _ _ h => h) h
theorem vc_frame {P : Program} {M : List Nat} {a0 : Act} : ∀ (c : Code) (an : An) (Q Q' : Exit → Act → Heap → Prop) (a : Act) (H : Heap), slotsIn M c an = true → Same M a0 a →
  (∀ e a' H', Same M a0 a' → Q e a' H' → Q' e a' H') → vc P c an Q a H → vc P c an Q' a H := by
 intro c
 induction c with
 | skip => intro an Q Q' a H _ hs hq h; exact hq _ _ _ hs h
 | label l => intro an Q Q' a H _ hs hq h; exact hq _ _ _ hs h
 | exit id => intro an Q Q' a H _ hs hq h; exact hq _ _ _ hs h
 | ret => intro an Q Q' a H _ hs hq h; exact hq _ _ _ hs h
 | region id ops draw =>
  intro an Q Q' a H ha hs hq h
  cases draw with
  | false => exact opsV_frame hq ops.toList a H hs ha h
  | true =>
   obtain ⟨h1, h2⟩ := gB_elim h
   show gB (P.follows .mixedOrders && Region.noSelect ops) _
   rw [h1]
   exact anyV_frame (fun a' H' hs' h' => hq _ _ _ hs' h') ha ops.size _ a [] H hs h2
 | seq x y ihx ihy =>
  intro an Q Q' a H ha hs hq h
  simp only [slotsIn, Bool.and_eq_true] at ha
  unfold vc at h ⊢
  cases hj : an.j with
  | none =>
   rw [hj] at h
   refine ihx an.l _ _ a H ha.2.1 hs (fun e a' H' hs' h' => ?_) h
   cases e <;> first | exact ihy _ _ _ a' H' ha.2.2 hs' hq h' | exact hq _ _ _ hs' h'
  | some A =>
   rw [hj] at h ha
   obtain ⟨h1, h2⟩ := gB_elim h
   show gB (slotsIn A.slots x an.l) _
   rw [h1]
   have hin := slots_mem ha.1
   show jn _ _
   constructor
   refine ihx an.l _ _ a H ha.2.1 hs (fun e a' H' hs' h' => ?_) h2.out
   cases e <;> first | exact hq _ _ _ hs' h' | skip
   obtain ⟨h3, h4⟩ := aplH_cur (show aplH A.live.length (joinK P A (fun a' H' => vc P y an.r Q a' H') a) (readA (A.live.map (·.1)) a') H' from h')
   refine aplH_mk h3 (allV_mono (fun us h5 => destrs_mono (fun ws _ h6 => ?_) h5) h4)
   exact ihy _ _ _ _ _ ha.2.2 ((hs.puts (fun i hi => hin i (List.mem_append_left _ hi))).puts (fun i hi => hin i (List.mem_append_right _ hi))) hq h6
 | cond cc x y ihx ihy =>
  intro an Q Q' a H ha hs hq h
  simp only [slotsIn, Bool.and_eq_true] at ha
  unfold vc at h ⊢
  split at h
  ·rename_i b hb
   cases b with
   | true => exact ihx _ _ _ a H ha.1 hs hq h
   | false => exact ihy _ _ _ a H ha.2 hs hq h
  ·exact h.elim
 | block id b ih =>
  intro an Q Q' a H ha hs hq h
  refine ih an.l _ _ a H ha hs (fun e a' H' hs' h' => ?_) h
  cases e <;> first | exact hq _ _ _ hs' h' | skip
  rename_i i
  unfold blockV at h' ⊢
  cases hi : Nat.beq i id with
  | true => simp only [hi] at h' ⊢; exact hq _ _ _ hs' h'
  | false => simp only [hi] at h' ⊢; exact hq _ _ _ hs' h'
 | loop b ih =>
  intro an Q Q' a H ha hs hq h
  simp only [slotsIn, Bool.and_eq_true] at ha
  unfold vc at h ⊢
  cases hj : an.j with
  | none => rw [hj] at h; exact h.elim
  | some A =>
   rw [hj] at h ha
   obtain ⟨h1, I, μ, h2, h3⟩ := gB_elim h
   show gB (slotsIn A.slots b an.l) _
   rw [h1]
   refine ⟨I, μ, h2, allTs_mono (fun vs h4 => allV_mono (fun us h5 H' hI => ?_) h4) h3⟩
   have hin := slots_mem ha.1
   refine ih an.l _ _ _ H' ha.2 ((hs.puts (fun i hi => hin i (List.mem_append_left _ hi))).puts (fun i hi => hin i (List.mem_append_right _ hi))) (fun e a' H'' hs' h' => ?_) (h5 H' hI)
   cases e <;> first | exact h' | exact hq _ _ _ hs' h'
 | scope b ih =>
  intro an Q Q' a H ha hs hq h
  refine ih an.l _ _ a H ha hs (fun e a' H' hs' h' => ?_) h
  cases e <;> first | exact hq _ _ _ hs' h' | exact h'
 | _ => intro an Q Q' a H ha hs hq h; exact h.elim
end Go.Proofs.YtklppdodadkcnaaGreat.E
