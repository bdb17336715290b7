/- Going through a map, in states with marks. -/
import Derived.Test.YtngploohhmfaiaaGreatLib7
import Derived.Test.YtngploohhmfaiaaGreatPlApart
import Derived.Maps.RangeRun
import Derived.Laws.IdiomStrings
import Derived.Laws.BytesArg
import Derived.Laws.Strings
namespace Go.Proofs.YtngploohhmfaiaaGreat.E
open Go Go.ChangeMaps
set_option linter.unusedVariables false
set_option linter.unusedSimpArgs false
theorem nodup_ix {α : Type} {l : List α} (h : l.Nodup) {i j : Nat} (hi : i < l.length) (hj : j < l.length) (e : l[i] = l[j]) : i = j := by
  have hp := List.pairwise_iff_getElem.1 h
  rcases Nat.lt_trichotomy i j with h1 | h1 | h1
  · exact absurd e (hp i j hi hj h1)
  · exact h1
  · exact absurd e.symm (hp j i hj hi h1)
/-- a map m, and an iterator over it that has told the keys 'vis' -/
structure ItK {κ : Type} (kf : κ → Value) (s : TH) (q r : Nat) (m : List (κ × Value)) (vis : List κ) (τ τq : Nat) : Prop where
  ex : ∃ (es : List MapEntry) (ck : Nat) (seen : Array Nat), s.h[r]? = some (.map es.toArray ck) ∧ Ents kf es ck m ∧ s.h[q]? = some (.mapIter (some r) ck seen ck) ∧
    (∀ e ∈ es, ∀ k, e.key = kf k → (seen.contains e.born = true ↔ k ∈ vis)) ∧ (∀ vis' k, vis = vis' ++ [k] → ∀ e ∈ es, e.key = kf k → seen.back? = some e.born)
  tag : s.g r = τ
  tagq : s.g q = τq
  nd : (m.map (·.1)).Nodup
  sub : vis.Nodup
def leftH (H : Heap) (q r : Nat) : Nat :=
  match H[r]?, H[q]? with
  | some (.map es _), some (.mapIter _ _ seen _) => (leftOf es seen).size
  | _, _ => 0
section
variable {κ : Type} {kf : κ → Value} {s s' : TH} {q r τ τq : Nat} {m : List (κ × Value)} {vis : List κ}
theorem ItK.map (h : ItK kf s q r m vis τ τq) : MapK kf s r m τ := by
  obtain ⟨es, ck, seen, h1, h2, _⟩ := h.ex
  exact ⟨⟨es, ck, h1, h2⟩, h.tag, h.nd⟩
theorem ItK.ltq (h : ItK kf s q r m vis τ τq) : q < s.h.size := by
  obtain ⟨es, ck, seen, _, _, h1, _⟩ := h.ex
  exact (Array.getElem?_eq_some_iff.1 h1).1
theorem ItK.mv {B : Nat → Prop} (h : ItK kf s q r m vis τ τq) (c : Chg B s s') (hr : ¬ B r) (hq : ¬ B q) : ItK kf s' q r m vis τ τq := by
  have l1 := h.map.lt
  have l2 := h.ltq
  obtain ⟨es, ck, seen, h1, h2, h3, h4⟩ := h.ex
  exact ⟨⟨es, ck, seen, (c.get r l1 hr).trans h1, h2, (c.get q l2 hq).trans h3, h4⟩, (c.tag r l1).trans h.tag, (c.tag q l2).trans h.tagq, h.nd, h.sub⟩
theorem ItK.ch {T : List Nat} (h : ItK kf s q r m vis τ τq) (c : Ch T s s') (hr : τ ∉ T) (hq : τq ∉ T) : ItK kf s' q r m vis τ τq :=
  h.mv c (by show s.g r ∉ T; rw [h.tag]; exact hr) (by show s.g q ∉ T; rw [h.tagq]; exact hq)
theorem ents_keys {es : List MapEntry} {ck : Nat} (he : Ents kf es ck m) {e : MapEntry} (h : e ∈ es) : ∃ p ∈ m, e.key = kf p.1 ∧ e.val = p.2 := by
  obtain ⟨i, hi, rfl⟩ := List.getElem_of_mem h
  have hl : es.length = m.length := by have := congrArg List.length he.key; simpa using this
  refine ⟨m[i]'(by omega), List.getElem_mem _, ?_, ?_⟩
  · have := congrArg (·[i]?) he.key
    simpa [hi, show i < m.length by omega] using this
  · have := congrArg (·[i]?) he.val
    simpa [hi, show i < m.length by omega] using this
theorem left_len [DecidableEq κ] (hinj : ∀ a b, kf a = kf b → a = b) : ∀ {es : List MapEntry} {m : List (κ × Value)} {seen : Array Nat} {vis : List κ}, es.map (·.key) = m.map (fun p => kf p.1) → (∀ e ∈ es, ∀ k, e.key = kf k → (seen.contains e.born = true ↔ k ∈ vis)) →
    (es.filter fun e => !seen.contains e.born).length = (m.filter fun p => !decide (p.1 ∈ vis)).length
  | [], [], _, _, _, _ => rfl
  | [], _ :: _, _, _, h, _ => by simp at h
  | _ :: _, [], _, _, h, _ => by simp at h
  | e :: es, p :: m, seen, vis, h, hs => by
    simp only [List.map_cons, List.cons.injEq] at h
    have h1 := hs e (by simp) p.1 h.1
    have h2 := left_len hinj (seen := seen) (vis := vis) h.2 (fun e' he' => hs e' (List.mem_cons_of_mem _ he'))
    rw [List.filter_cons, List.filter_cons]
    by_cases hp : p.1 ∈ vis
    · rw [h1.2 hp]; simp only [Bool.not_true, hp, decide_true, Bool.false_eq_true, if_false]; exact h2
    · have : seen.contains e.born = false := by rw [← Bool.not_eq_true]; exact fun h => hp (h1.1 h)
      rw [this]; simp only [Bool.not_false, hp, decide_false, if_true, List.length_cons]; rw [h2]
theorem ItK.left [DecidableEq κ] (hinj : ∀ a b, kf a = kf b → a = b) (h : ItK kf s q r m vis τ τq) : leftH s.h q r = (m.filter fun p => !decide (p.1 ∈ vis)).length := by
  obtain ⟨es, ck, seen, h1, h2, h3, h4, _⟩ := h.ex
  unfold leftH
  rw [h1, h3]
  show (leftOf es.toArray seen).size = _
  rw [← left_len hinj h2.key h4]
  unfold leftOf
  simp
end
section
variable {κ : Type} {kf : κ → Value} {P : Program} {T Kt Et : TypeId} {E : List PanicEntry → Heap → Prop} {s : TH} {q r τ : Nat} {m : List (κ × Value)} {vis : List κ}
theorem range_t (τq : Nat) {K : Value → Heap → Prop} (hT : P.underlying T = some (.map Kt Et)) (h : MapK kf s r m τ) (hinj : ∀ a b, kf a = kf b → a = b)
    (hk : ∀ (s' : TH) (q : Nat), q = s.h.size → ItK kf s' q r m [] τ τq → Ch [] s s' → K (.pointer (some ⟨q, 0, none⟩)) s'.h) :
    semW P (Instr.range T (.map (some r))) E s.h K := .mk fun w hw => by
  have hlt := h.lt
  obtain ⟨es, ck, hg, he⟩ := h.get
  have h1 : (getObj r).run P w = .ok (.map es.toArray ck) w := by
    show Sem.run P (.getObj r .pure) w = _
    simp only [Sem.run, hw, hg]
  have hr : (Instr.range T (.map (some r))).run P w = .ok (.pointer (some ⟨w.heap.size, 0, none⟩)) { w with heap := w.heap.push (.mapIter (some r) ck #[] ck) } := by
    simp only [Instr.range, Sem.run_bind, run_under hT, Result.andThen_ok, h1, Sem.run_pure]
    rfl
  rw [hr]
  refine ⟨?_, rfl, rfl, rfl⟩
  have := hk ⟨s.h.push (.mapIter (some r) ck #[] ck), upd s.g s.h.size τq⟩ s.h.size rfl ⟨⟨es, ck, #[], by
    show (s.h.push _)[r]? = _
    rw [Array.getElem?_push, if_neg (by omega)]; exact hg, he, by simp, fun e _ k _ => by simp, fun vis' k hv => by simp at hv⟩, by simp [upd, Nat.ne_of_lt hlt, h.tag], by simp [upd], h.nd, List.nodup_nil⟩ (pushed _ _ _)
  rw [← hw] at this
  exact this
theorem next_t {τq : Nat} {ty : TypeId} {K : Value → Heap → Prop} (h : ItK kf s q r m vis τ τq) (hinj : ∀ a b, kf a = kf b → a = b)
    (h1 : ∀ (s' : TH) (k : κ) (x : Value), (k, x) ∈ m → k ∉ vis → ItK kf s' q r m (vis ++ [k]) τ τq → On q s s' → s.h.size = s'.h.size → K (.tuple #[.bool true, kf k, x]) s'.h)
    (h2 : (∀ k ∈ m.map (·.1), k ∈ vis) → K (.tuple #[.bool false]) s.h) :
    semW P (Instr.next (.pointer (some ⟨q, 0, none⟩)) false ty) E s.h K := .mk fun w hw => by
  have l1 := h.map.lt
  have l2 := h.ltq
  obtain ⟨es, ck, seen, e1, e2, e3, e4, e5⟩ := h.ex
  rcases run_next_at (P := P) w ty q r ck ck seen es.toArray ck (by rw [hw]; exact e3) (by rw [hw]; exact e1) (by simpa using e2.old) (Nat.le_refl _) with ⟨h0, hr⟩ | ⟨e, he, w1, hw1, hr⟩
  · rw [hr]
    suffices hall : ∀ k ∈ m.map (·.1), k ∈ vis from ⟨by rw [hw]; exact h2 hall, Like.refl w⟩
    intro k hk
    obtain ⟨p, hp, rfl⟩ := List.mem_map.1 hk
    have : kf p.1 ∈ es.map (·.key) := by rw [e2.key]; exact List.mem_map.2 ⟨p, hp, rfl⟩
    obtain ⟨e, he, hek⟩ := List.mem_map.1 this
    rw [← e4 e he p.1 hek]
    have h0' : leftOf es.toArray seen = #[] := Array.eq_empty_of_size_eq_zero h0
    unfold leftOf at h0'
    rw [Array.filter_eq_empty_iff] at h0'
    have := h0' e (by simpa using he)
    simpa using this
  · rw [hr]
    unfold leftOf at he
    simp at he
    obtain ⟨he1, he2⟩ := he
    obtain ⟨p, hp, k1, k2⟩ := ents_keys e2 he1
    have hpv : p.1 ∉ vis := fun hv => by
      have := (e4 e he1 p.1 k1).2 hv
      simp at this
      exact he2 this
    have hone : ∀ e' ∈ es, e'.key = kf p.1 → e' = e := fun e' he' hk' => by
      obtain ⟨i, hi, rfl⟩ := List.getElem_of_mem he'
      obtain ⟨j, hj, rfl⟩ := List.getElem_of_mem he1
      have hl : es.length = m.length := by have := congrArg List.length e2.key; simpa using this
      have hki : kf (m[i]'(by omega)).1 = (es[i]).key := by
        have := congrArg (·[i]?) e2.key
        simpa [hi, show i < m.length by omega] using this.symm
      have hkj : kf (m[j]'(by omega)).1 = (es[j]).key := by
        have := congrArg (·[j]?) e2.key
        simpa [hj, show j < m.length by omega] using this.symm
      have hkk : (m[i]'(by omega)).1 = (m[j]'(by omega)).1 := hinj _ _ (by rw [hki, hkj, hk', k1])
      have hij : i = j := by
        have hn := h.nd
        exact nodup_ix hn (i := i) (j := j) (by simp; omega) (by simp; omega) (by simpa using hkk)
      subst hij; rfl
    have hsz : w1.heap = w.heap := by rcases hw1 with rfl | rfl <;> rfl
    have hb : (setBlock w1 q (.mapIter (some r) ck (seen.push e.born) ck)).heap = s.h.setIfInBounds q (.mapIter (some r) ck (seen.push e.born) ck) := by
      show (w1.heap.setIfInBounds q _) = _
      rw [hsz, hw]
    have hK := h1 ⟨s.h.setIfInBounds q (.mapIter (some r) ck (seen.push e.born) ck), s.g⟩ p.1 p.2 hp hpv ⟨⟨es, ck, seen.push e.born, ?_, e2, by simp [l2], fun e' he' k hk' => ?_, fun vis' k hv e' he' hk' => ?_⟩, h.tag, h.tagq, h.nd, ?_⟩ ⟨by simp, fun _ _ => rfl, fun j hj hn => ?_⟩ (by simp)
    · refine ⟨by rw [hb]; rw [k1, k2]; exact hK, ?_⟩
      rcases hw1 with rfl | rfl <;> exact ⟨rfl, rfl, rfl⟩
    · show (s.h.setIfInBounds q _)[r]? = _
      by_cases hqr : q = r
      · subst hqr; rw [e1] at e3; cases e3
      · rw [Array.getElem?_setIfInBounds_ne hqr]; exact e1
    · rw [List.mem_append, List.mem_singleton, ← e4 e' he' k hk']
      have hc : (seen.push e.born).contains e'.born = true ↔ (seen.contains e'.born = true ∨ e'.born = e.born) := by simp
      rw [hc]
      refine or_congr Iff.rfl ⟨fun hbn => ?_, fun hk => ?_⟩
      · have hee : e' = e := by
          have hn := e2.born
          obtain ⟨i, hi, rfl⟩ := List.getElem_of_mem he'
          obtain ⟨j, hj, rfl⟩ := List.getElem_of_mem he1
          have hij : i = j := nodup_ix hn (i := i) (j := j) (by simpa using hi) (by simpa using hj) (by simpa using hbn)
          subst hij; rfl
        subst hee
        exact hinj _ _ (hk'.symm.trans k1)
      · subst hk; rw [hone e' he' hk']
    · obtain ⟨h3, h4⟩ := List.append_inj' hv rfl
      simp at h4
      subst h4
      rw [hone e' he' hk']; simp
    · rw [List.nodup_append]
      exact ⟨h.sub, by simp, fun a ha b hb hab => by simp at hb; subst hb; subst hab; exact hpv ha⟩
    · show (s.h.setIfInBounds q _)[j]? = _
      rw [Array.getElem?_setIfInBounds_ne (fun e => hn e.symm)]
theorem entry_t {τq : Nat} {K : Value → Heap → Prop} {k : κ} {x : Value} (h : ItK kf s q r m (vis ++ [k]) τ τq) (hm : (k, x) ∈ m) (hinj : ∀ a b, kf a = kf b → a = b)
    (hk : K (.tuple #[kf k, x]) s.h) : semW P (Instr.entry (.pointer (some ⟨q, 0, none⟩))) E s.h K := .mk fun w hw => by
  obtain ⟨es, ck, seen, e1, e2, e3, e4, e5⟩ := h.ex
  have hr : (getObj q).run P w = .ok (.mapIter (some r) ck seen ck) w := by
    show Sem.run P (.getObj q .pure) w = _
    simp only [Sem.run, hw, e3]
  have hr2 : (getObj r).run P w = .ok (.map es.toArray ck) w := by
    show Sem.run P (.getObj r .pure) w = _
    simp only [Sem.run, hw, e1]
  have : kf k ∈ es.map (·.key) := by rw [e2.key]; exact List.mem_map.2 ⟨_, hm, rfl⟩
  obtain ⟨e, he, hek⟩ := List.mem_map.1 this
  have hb := e5 vis k rfl e he hek
  have hfind : es.toArray.find? (fun e' => e'.born == e.born) = some e := by
    rw [List.find?_toArray]
    have hn := e2.born
    clear e4 e5 e2 hr2 this
    revert he hn
    generalize es = l
    intro he hn
    induction l with
    | nil => cases he
    | cons y l ih =>
      rw [List.map_cons, List.nodup_cons] at hn
      rw [List.find?_cons]
      rcases List.mem_cons.1 he with rfl | he
      · simp
      · have : (y.born == e.born) = false := by
          simp only [beq_eq_false_iff_ne]; intro e'; exact hn.1 (by rw [e']; exact List.mem_map.2 ⟨e, he, rfl⟩)
        rw [this]; exact ih he hn.2
  have hval : e.val = x := by
    obtain ⟨p, hp, k1, k2⟩ := ents_keys e2 he
    have hpk : p.1 = k := hinj _ _ (k1.symm.trans hek)
    have hn := h.nd
    have : p = (k, x) := by
      obtain ⟨i, hi, rfl⟩ := List.getElem_of_mem hp
      obtain ⟨j, hj, hje⟩ := List.getElem_of_mem hm
      have hij : i = j := nodup_ix hn (i := i) (j := j) (by simpa using hi) (by simpa using hj) (by simp [hpk, hje])
      subst hij; exact hje
    rw [k2, this]
  have hrun : (Instr.entry (.pointer (some ⟨q, 0, none⟩))).run P w = .ok (.tuple #[kf k, x]) w := by
    simp [Instr.entry, hr, hr2, hb, hfind, hek, hval]
  rw [hrun]
  exact ⟨by rw [hw]; exact hk, Like.refl w⟩
/-- an entry is taken out while the map is gone through -/
theorem del_it [DecidableEq κ] {τq : Nat} {K : Value → Heap → Prop} {t t2 : TypeId} (ko : KeyOk P Kt kf) (hT : P.underlying T = some (.map Kt Et)) (h : ItK kf s q r m vis τ τq) (hqr : q ≠ r) (k : κ)
    (hk : ∀ s' : TH, ItK kf s' q r (mdel k m) vis τ τq → On r s s' → s.h.size = s'.h.size → K (.tuple #[]) s'.h) :
    semW P (Builtin.delete_ #[T, t] t2 #[.map (some r), kf k]) E s.h K := .mk fun w hw => by
  obtain ⟨es, ck, seen, hg, he, h3, h4, h5⟩ := h.ex
  have h1 : (getObj r).run P w = .ok (.map es.toArray ck) w := by
    show Sem.run P (.getObj r .pure) w = _
    simp only [Sem.run, hw, hg]
  have h2 := ko.find k es (m.map (·.1)) (by rw [he.key, List.map_map]; rfl) w
  have hlen : es.length = m.length := by have := congrArg List.length he.key; simpa using this
  have hlt := h.map.lt
  unfold Builtin.delete_
  simp [run_under hT, h1, ko.check, h2]
  cases hf : findL k es (m.map (·.1)) 0 with
  | none =>
    obtain ⟨_, k4, k5⟩ := findL_none k es m 0 hlen hf .nilIface
    obtain ⟨h8, h9⟩ := setmap_on h.map he h.nd
    simp only [Sem.run_map, run_setmap hg _ w hw]
    rw [k4] at hk
    have := hk ⟨s.h.setIfInBounds r (.map es.toArray ck), s.g⟩ ⟨⟨es, ck, seen, by simp [hlt], he, by
      show (s.h.setIfInBounds r _)[q]? = _
      rw [Array.getElem?_setIfInBounds_ne (fun e => hqr e.symm)]; exact h3, h4, h5⟩, h.tag, h.tagq, h.nd, h.sub⟩ h9 (by simp)
    exact ⟨by rw [hw]; exact this, rfl, rfl, rfl⟩
  | some p =>
    obtain ⟨j, v⟩ := p
    obtain ⟨_, a, b, v', ea, eb, e, k3, k4, k5, k6, k7⟩ := findL_some k es m 0 j v hf
    simp only [Nat.sub_zero] at k5 k6
    subst k3 k4
    have hkey := he.key
    have hval := he.val
    simp only [List.map_append, List.map_cons] at hkey hval
    obtain ⟨k1, k2⟩ := List.append_inj hkey (by simp [k5, k6])
    obtain ⟨v1, v2⟩ := List.append_inj hval (by simp [k5, k6])
    simp only [List.cons.injEq] at k2 v2
    have hmod : (ea ++ e :: eb).eraseIdx j = ea ++ eb := by rw [← k6]; exact erase_mid _ _ _
    have hsub : ∀ e' ∈ ea ++ eb, e' ∈ ea ++ e :: eb := fun e' hm => by
      rcases List.mem_append.1 hm with hm | hm <;> simp [hm]
    have hent : Ents kf (ea ++ eb) ck (a ++ b) := by
      refine ⟨by simp [k1, k2.2], by simp [v1, v2.2], ?_, fun e' hm => he.old e' (hsub e' hm)⟩
      have := he.born
      simp only [List.map_append, List.map_cons] at this ⊢
      exact this.sublist (List.Sublist.append_left (List.sublist_cons_self _ _) _)
    have hnd : ((a ++ b).map (·.1)).Nodup := by
      have := h.nd
      simp only [List.map_append, List.map_cons] at this ⊢
      exact this.sublist (List.Sublist.append_left (List.sublist_cons_self _ _) _)
    obtain ⟨h8, h9⟩ := setmap_on h.map hent hnd
    simp only [hmod, Sem.run_map, run_setmap hg _ w hw]
    rw [mdel_mid (v := v') (b := b) k7] at hk
    have := hk ⟨s.h.setIfInBounds r (.map (ea ++ eb).toArray ck), s.g⟩ ⟨⟨ea ++ eb, ck, seen, by simp [hlt], hent, by
      show (s.h.setIfInBounds r _)[q]? = _
      rw [Array.getElem?_setIfInBounds_ne (fun e => hqr e.symm)]; exact h3, fun e' hm => h4 e' (hsub e' hm), fun vis' k' hv e' hm => h5 vis' k' hv e' (hsub e' hm)⟩, h.tag, h.tagq, hnd, h.sub⟩ h9 (by simp)
    exact ⟨by rw [hw]; exact this, rfl, rfl, rfl⟩
end
theorem mdel_sub {κ : Type} [DecidableEq κ] (k : κ) : ∀ m : List (κ × Value), (mdel k m).Sublist m
  | [] => List.Sublist.refl _
  | (k', v) :: m => by
    rw [mdel]
    split
    · exact List.sublist_cons_self _ _
    · exact (mdel_sub k m).cons_cons _
theorem filt_less {κ : Type} [DecidableEq κ] {k : κ} {x : Value} {vis : List κ} {m : List (κ × Value)} (h : (k, x) ∈ m) (hv : k ∉ vis) : (m.filter fun p => !decide (p.1 ∈ vis ++ [k])).length < (m.filter fun p => !decide (p.1 ∈ vis)).length := by
  have step : ∀ (p : κ × Value) (m : List (κ × Value)), ∃ a b : Nat, ((p :: m).filter fun p => !decide (p.1 ∈ vis ++ [k])).length = a + (m.filter fun p => !decide (p.1 ∈ vis ++ [k])).length ∧ ((p :: m).filter fun p => !decide (p.1 ∈ vis)).length = b + (m.filter fun p => !decide (p.1 ∈ vis)).length ∧ a ≤ b ∧ (p.1 = k → a < b) := fun p m => by
    rw [List.filter_cons, List.filter_cons]
    by_cases h1 : p.1 ∈ vis
    · have h2 : p.1 ∈ vis ++ [k] := List.mem_append_left _ h1
      rw [decide_eq_true h1, decide_eq_true h2]
      exact ⟨0, 0, by simp, by simp, Nat.le_refl _, fun e => absurd (e ▸ h1) hv⟩
    · rw [decide_eq_false h1]
      by_cases h2 : p.1 = k
      · have h3 : p.1 ∈ vis ++ [k] := List.mem_append_right _ (List.mem_singleton.2 h2)
        rw [decide_eq_true h3]
        exact ⟨0, 1, by simp, by simp; omega, by omega, fun _ => by omega⟩
      · have h3 : p.1 ∉ vis ++ [k] := fun h => (List.mem_append.1 h).elim h1 fun h => h2 (List.mem_singleton.1 h)
        rw [decide_eq_false h3]
        exact ⟨1, 1, by simp; omega, by simp; omega, Nat.le_refl _, fun e => absurd e h2⟩
  have hle : ∀ m : List (κ × Value), (m.filter fun p => !decide (p.1 ∈ vis ++ [k])).length ≤ (m.filter fun p => !decide (p.1 ∈ vis)).length := fun m => by
    induction m with
    | nil => simp
    | cons p m ih =>
      obtain ⟨a, b, e1, e2, e3, _⟩ := step p m
      omega
  induction m with
  | nil => cases h
  | cons p m ih =>
    obtain ⟨a, b, e1, e2, e3, e4⟩ := step p m
    rcases List.mem_cons.1 h with h | h
    · have := e4 (by rw [← h])
      have := hle m
      omega
    · have := ih h
      omega
theorem it_less {κ : Type} [DecidableEq κ] {kf : κ → Value} (hinj : ∀ a b, kf a = kf b → a = b) {s s' : TH} {q r τ τq : Nat} {m m' : List (κ × Value)} {vis : List κ} {k : κ} {x : Value} (it : ItK kf s q r m vis τ τq) (it' : ItK kf s' q r m' (vis ++ [k]) τ τq)
    (hm : (k, x) ∈ m) (hv : k ∉ vis) (hs : m'.Sublist m) : leftH s'.h q r < leftH s.h q r := by
  rw [it.left hinj, it'.left hinj]
  exact Nat.lt_of_le_of_lt (hs.filter _).length_le (filt_less hm hv)
theorem rangen_t {κ : Type} {kf : κ → Value} {P : Program} {T Kt Et : TypeId} {E : List PanicEntry → Heap → Prop} {s : TH} {K : Value → Heap → Prop} (hT : P.underlying T = some (.map Kt Et))
    (hk : ∀ (s' : TH) (q : Nat), q = s.h.size → s'.h[q]? = some (.mapIter none 0 #[] 0) → Ch [] s s' → K (.pointer (some ⟨q, 0, none⟩)) s'.h) :
    semW P (Instr.range T (.map none)) E s.h K := .mk fun w hw => by
  have hr : (Instr.range T (.map none)).run P w = .ok (.pointer (some ⟨w.heap.size, 0, none⟩)) { w with heap := w.heap.push (.mapIter none 0 #[] 0) } := by
    simp only [Instr.range, Sem.run_bind, run_under hT, Result.andThen_ok, Sem.run_pure]
    rfl
  rw [hr]
  refine ⟨?_, rfl, rfl, rfl⟩
  have := hk ⟨s.h.push (.mapIter none 0 #[] 0), upd s.g s.h.size 0⟩ s.h.size rfl (by simp) (pushed _ _ _)
  rw [← hw] at this
  exact this
theorem nextn_t {P : Program} {E : List PanicEntry → Heap → Prop} {s : TH} {q : Nat} {ty : TypeId} {K : Value → Heap → Prop} (h : s.h[q]? = some (.mapIter none 0 #[] 0)) (hk : K (.tuple #[.bool false]) s.h) :
    semW P (Instr.next (.pointer (some ⟨q, 0, none⟩)) false ty) E s.h K := .mk fun w hw => by
  have hr : (getObj q).run P w = .ok (.mapIter none 0 #[] 0) w := by
    show Sem.run P (.getObj q .pure) w = _
    simp only [Sem.run, hw, h]
  have hrun : (Instr.next (.pointer (some ⟨q, 0, none⟩)) false ty).run P w = .ok (.tuple #[.bool false]) w := by
    simp [Instr.next, hr]
  rw [hrun]; exact ⟨by rw [hw]; exact hk, Like.refl w⟩
theorem conv_bs {P : Program} {src dst e : TypeId} {E : List PanicEntry → Heap → Prop} {s : TH} {xa : Option Addr} {xn xc τ : Nat} {l : List UInt8} {K : Value → Heap → Prop}
    (hs : P.underlying src = some (.slice e)) (he : P.underlying e = some (.int .u8)) (hd : P.underlying dst = some .string) (hx : Sl s xa (bvs l) τ) (hn : l.length = xn) (h0 : xa = none → xn = 0) (hk : K (.string ⟨l.toArray⟩) s.h) :
    semW P (convert src dst (.slice xa xn xc)) E s.h K := .mk fun w hw => by
  subst hn
  cases xa with
  | none =>
    have : l = [] := List.eq_nil_of_length_eq_zero (h0 rfl)
    subst this
    rw [run_convert_bytes_nil w src e hs he _ _ dst hd]
    exact ⟨by rw [hw]; exact hk, Like.refl w⟩
  | some a =>
    rw [run_convert_bytes_back w src dst e a xc l hs he hd (fun j hj => hx.cells w hw j _ (by simp [bvs, bv, hj]))]
    exact ⟨by rw [hw]; exact hk, Like.refl w⟩
theorem dNx_f {x : Prop} {k : Value → Value → Prop} (h : x) : dNx (.tuple #[.bool false]) x k := h
theorem dNx_t {x : Prop} {k : Value → Value → Prop} {a b : Value} (h : k a b) : dNx (.tuple #[.bool true, a, b]) x k := h
theorem iinj : ∀ a b : Int, Value.int .i64 a = Value.int .i64 b → a = b := fun a b h => by simpa using h
end Go.Proofs.YtngploohhmfaiaaGreat.E
