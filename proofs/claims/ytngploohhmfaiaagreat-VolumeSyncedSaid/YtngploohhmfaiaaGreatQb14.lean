/- My own texts, joined. -/
import Derived.KernelRfl
import Derived.Test.YtngploohhmfaiaaGreatProg
import Derived.Test.YtngploohhmfaiaaGreatQb13
/- Contracts of functions. -/
namespace Go.Proofs.YtngploohhmfaiaaGreat.E
open Go Go.Proofs Go.RowKit Go.Maps Go.Shelf Go.Sort
set_option linter.unusedVariables false
set_option linter.unusedSimpArgs false
/-- patches of a block that need nothing but what is done or goes with them -/
structure CS (P : PatchM) (b : Int) (S : List Int) : Prop where
  srt : S.Pairwise (· < ·)
  sub : ∀ i ∈ S, i ∈ P.of b
  cl : ∀ i ∈ S, ∀ x, P.find i = some x → ∀ n ∈ P.pend x.needs, n ∈ S
theorem CS.free {P : PatchM} (ok : POk P) (b : Int) : CS P b (P.free b) := ⟨free_srt ok b, fun i hi => free_sub hi, fun i hi x hx => free_closed hi hx⟩
theorem of_mem {P : PatchM} {b i : Int} : i ∈ P.of b ↔ ∃ x ∈ P.l, x.blk = b ∧ x.id = i := by
  unfold PatchM.of
  rw [List.mem_map]
  constructor
  · rintro ⟨x, hx, e⟩; have := List.mem_filter.1 hx; exact ⟨x, this.1, by simpa using this.2, e⟩
  · rintro ⟨x, hx, h1, h2⟩; exact ⟨x, List.mem_filter.2 ⟨hx, by simpa using h1⟩, h2⟩
theorem CS.filter {P : PatchM} {b : Int} {S : List Int} (ok : POk P) (h : CS P b S) : S = ((P.l.filter fun x => x.blk == b).filter fun x => decide (x.id ∈ S)).map (·.id) := by
  refine srt_ext h.srt (List.pairwise_map.2 ((ok.srt.sublist List.filter_sublist).sublist List.filter_sublist)) fun i => ?_
  constructor
  · intro hi
    obtain ⟨x, hx, h2, rfl⟩ := of_mem.1 (h.sub i hi)
    exact List.mem_map.2 ⟨x, List.mem_filter.2 ⟨List.mem_filter.2 ⟨hx, by simpa using h2⟩, by simpa using hi⟩, rfl⟩
  · intro hi
    obtain ⟨x, hx, rfl⟩ := List.mem_map.1 hi
    simpa using (List.mem_filter.1 hx).2
theorem CS.over {P : PatchM} {b : Int} {S : List Int} (ok : POk P) (h : CS P b S) (d : List UInt8) : P.over d S = ovL d ((P.l.filter fun x => x.blk == b).filter fun x => decide (x.id ∈ S)) := by
  conv => lhs; rw [h.filter ok]
  exact over_ovL ok fun x hx => (List.mem_filter.1 (List.mem_filter.1 hx).1).1
theorem CS.now {P : PatchM} {b : Int} {S : List Int} (ok : POk P) (ov : POv P) (h : CS P b S) {d : List UInt8} (hd : d.length = 128) : (P.fin S).over (P.over d S) ((P.fin S).of b) = P.over d (P.of b) := by
  have ok2 := ok.fin S (fun i hi => of_sub (h.sub i hi))
  rw [over_of ok2, h.over ok, over_of ok]
  have e : (P.fin S).l.filter (fun x => x.blk == b) = (P.l.filter fun x => x.blk == b).filter fun x => !decide (x.id ∈ S) := by
    show (P.l.filter _).filter _ = _
    rw [List.filter_filter, List.filter_filter]
    apply List.filter_congr; intro x _; rw [Bool.and_comm]
  rw [e]
  refine ovL_split hd (ok.srt.sublist List.filter_sublist) (fun x hx => ok.fitX (List.mem_filter.1 hx).1) _ fun x hx y hy hlt hc hq => ?_
  obtain ⟨hx1, hx2⟩ := List.mem_filter.1 hx
  obtain ⟨hy1, hy2⟩ := List.mem_filter.1 hy
  have h1 := ov x hx1 y hy1 hlt (by simp at hx2 hy2; omega) hc
  have := h.cl y.id (by simpa using hq) y (find_by ok.nodup hy1) x.id (List.mem_filter.2 ⟨List.mem_map.2 ⟨x, hx1, rfl⟩, by simpa using h1⟩)
  simpa using this
theorem CS.done {P : PatchM} {b : Int} {S : List Int} (ok : POk P) (h : CS P b S) : P.doneP S = (P.fin S, 0) := by
  have hp : P.pend S = S := srt_ext (ok.asrt.sublist List.filter_sublist) h.srt fun i => by
    unfold PatchM.pend
    rw [List.mem_filter]
    exact ⟨fun h => by simpa using h.2, fun hi => ⟨of_sub (h.sub i hi), by simpa using hi⟩⟩
  unfold PatchM.doneP
  rw [hp, if_neg, if_pos]
  · refine List.all_eq_true.2 fun i hi => ?_
    unfold PatchM.closed
    cases hx : P.find i with
    | none => rfl
    | some x => exact List.all_eq_true.2 fun n hn => by simpa using h.cl i hi x hx n hn
  · intro hh
    obtain ⟨i, hi, h2⟩ := List.any_eq_true.1 hh
    obtain ⟨x, hx, _, rfl⟩ := of_mem.1 (h.sub i hi)
    have := ok.rng x hx
    unfold PatchM.knows at h2
    simp at h2
    omega
theorem fin_find {P : PatchM} {S : List Int} {i : Int} (h : i ∉ S) : (P.fin S).find i = P.find i := by
  unfold PatchM.find
  show (P.l.filter _).find? _ = _
  rw [List.find?_filter]
  congr 1
  funext x
  by_cases hx : x.id = i
  · subst hx; simp [h]
  · simp [hx]
theorem over_congr {P Q : PatchM} : ∀ (S : List Int) (d : List UInt8), (∀ i ∈ S, Q.find i = P.find i) → Q.over d S = P.over d S
  | [], d, _ => rfl
  | i :: S, d, h => by
    have e : Q.step d i = P.step d i := by unfold PatchM.step; rw [h i (by simp)]
    show Q.over (Q.step d i) S = P.over (P.step d i) S
    rw [e]
    exact over_congr S _ fun j hj => h j (List.mem_cons_of_mem _ hj)
/-- what is done of one block is nothing to another -/
theorem CS.other {P : PatchM} {b c : Int} {S S' : List Int} (ok : POk P) (h : CS P b S) (h' : CS P c S') (hc : c ≠ b) : CS (P.fin S) c S' ∧ ∀ d, (P.fin S).over d S' = P.over d S' := by
  have hn : ∀ i ∈ S', i ∉ S := fun i hi hi2 => by
    obtain ⟨x, hx, h1, h2⟩ := of_mem.1 (h'.sub i hi)
    obtain ⟨y, hy, h3, h4⟩ := of_mem.1 (h.sub i hi2)
    have g1 := find_by ok.nodup hx
    have g2 := find_by ok.nodup hy
    rw [h2] at g1; rw [h4, g1] at g2
    cases Option.some.inj g2
    exact hc (h1.symm.trans h3)
  refine ⟨⟨h'.srt, fun i hi => ?_, fun i hi x hx n hn2 => ?_⟩, fun d => over_congr S' d fun i hi => fin_find (hn i hi)⟩
  · obtain ⟨x, hx, h1, h2⟩ := of_mem.1 (h'.sub i hi)
    exact of_mem.2 ⟨x, List.mem_filter.2 ⟨hx, by rw [h2]; simpa using hn i hi⟩, h1, h2⟩
  · rw [fin_find (hn i hi)] at hx
    refine h'.cl i hi x hx n ?_
    obtain ⟨h1, h2⟩ := pend_sub hn2
    obtain ⟨y, hy, rfl⟩ := List.mem_map.1 h1
    exact List.mem_filter.2 ⟨List.mem_map.2 ⟨y, (List.mem_filter.1 hy).1, rfl⟩, by simpa using h2⟩
structure WayI (V0 V : VolM) : Prop where
  pok : POk V.P
  len : ∀ y ∈ V.D.blocks, y.length = 128
  bl : V.D.blocks.length = V0.D.blocks.length
  lst : V.P.last = V0.P.last
  ov : POv V.P
  has : ∀ x ∈ V.P.l, V.D.has x.blk
  now : ∀ b, V0.D.has b → V.now b = V0.now b
  w : ∀ p ∈ V.way, V.D.has p.2.blk ∧ CS V.P p.2.blk p.2.ids ∧ p.2.by_ = V.P.over (V.blk p.2.blk) p.2.ids
  nd : (V.way.map fun p => p.2.blk).Nodup
theorem blk_len' {V : VolM} (h : ∀ y ∈ V.D.blocks, y.length = 128) {b : Int} (hb : V.D.has b) : (V.blk b).length = 128 := h _ (List.mem_of_getElem? (blk_get hb))
theorem WayI.sent {V0 V : VolM} (h : WayI V0 V) {b : Int} (hb : V.D.has b) (hg : b ∉ V.way.map fun p => p.2.blk) : WayI V0 (V.sent b) := by
  refine ⟨h.pok, h.len, h.bl, h.lst, h.ov, h.has, h.now, fun p hp => ?_, ?_⟩
  · rcases List.mem_append.1 (show p ∈ V.way ++ [_] from hp) with hp | hp
    · exact h.w p hp
    · rw [List.mem_singleton] at hp; subst hp
      exact ⟨hb, CS.free h.pok b, rfl⟩
  · show ((V.way ++ [_]).map _).Nodup
    rw [List.map_append]
    exact List.nodup_append.2 ⟨h.nd, by simp, fun x hx y hy => by simp at hy; subst hy; exact fun e => hg (e ▸ hx)⟩
theorem WayI.landed {V0 V : VolM} (h : WayI V0 V) {x : Int × WayM} {w : List (Int × WayM)} (e : V.way = x :: w) : (V.P.doneP x.2.ids).2 = 0 ∧ WayI V0 (V.landed 0 x.2) := by
  obtain ⟨hb, hcs, hby⟩ := h.w x (by rw [e]; simp)
  have hd := hcs.done h.pok
  have eP : (V.landed 0 x.2).P = V.P.fin x.2.ids := by show (V.P.doneP x.2.ids).1 = _; rw [hd]
  have ew : (V.landed 0 x.2).way = w := landed_way e x.2
  have hpok2 : POk (V.P.fin x.2.ids) := h.pok.fin _ fun i hi => of_sub (hcs.sub i hi)
  have hbl : ∀ c, c ≠ x.2.blk → V.D.has c → (V.landed 0 x.2).blk c = V.blk c := fun c hc hh => by
    show (V.D.blocks.set x.2.blk.toNat x.2.by_).getD c.toNat [] = V.D.blocks.getD c.toNat []
    unfold DiskM.has at hb hh
    rw [List.getD_eq_getElem?_getD, List.getElem?_set_ne (by omega), ← List.getD_eq_getElem?_getD]
  have hnd := h.nd
  rw [e, List.map_cons, List.nodup_cons] at hnd
  refine ⟨by rw [hd], ⟨by rw [eP]; exact hpok2, fun y hy => ?_, by show (V.D.blocks.set _ _).length = _; rw [List.length_set]; exact h.bl, by rw [eP]; exact h.lst, by rw [eP]; exact h.ov.fin _, ?_, fun c hc => ?_, ?_, by rw [ew]; exact hnd.2⟩⟩
  · rcases List.mem_or_eq_of_mem_set (show y ∈ V.D.blocks.set x.2.blk.toNat x.2.by_ from hy) with h1 | h1
    · exact h.len y h1
    · rw [h1, hby]; exact over_len h.pok _ (blk_len' h.len hb)
  · intro y hy
    rw [eP] at hy
    have := h.has y (List.mem_filter.1 hy).1
    show 0 ≤ y.blk ∧ y.blk < ((V.D.blocks.set _ _).length : Int)
    rw [List.length_set]; exact this
  · have hcV : V.D.has c := (has_len h.bl).2 hc
    rw [← h.now c hc]
    unfold VolM.now
    rw [eP]
    by_cases hcb : c = x.2.blk
    · subst hcb
      have : (V.landed 0 x.2).blk x.2.blk = x.2.by_ := by
        show (V.D.blocks.set x.2.blk.toNat x.2.by_).getD x.2.blk.toNat [] = _
        unfold DiskM.has at hb
        rw [List.getD_eq_getElem?_getD, List.getElem?_set_self (by omega)]; rfl
      rw [this, hby]
      exact hcs.now h.pok h.ov (blk_len' h.len hb)
    · rw [hbl c hcb hcV, over_of hpok2, over_of h.pok, fin_of_ne hcs.sub h.pok hcb]
  · rw [ew]
    intro p hp
    obtain ⟨g1, g2, g3⟩ := h.w p (by rw [e]; exact List.mem_cons_of_mem _ hp)
    have hpb : p.2.blk ≠ x.2.blk := fun e2 => hnd.1 (e2 ▸ List.mem_map.2 ⟨p, hp, rfl⟩)
    have ho := hcs.other h.pok g2 hpb
    refine ⟨?_, by rw [eP]; exact ho.1, by rw [eP, ho.2, hbl _ hpb g1]; exact g3⟩
    show 0 ≤ p.2.blk ∧ p.2.blk < ((V.D.blocks.set _ _).length : Int)
    rw [List.length_set]; exact g1
theorem WayI.drainN {V0 : VolM} : ∀ (n : Nat) {V : VolM} {f : Bool}, WayI V0 V → V.way.length = n → (drainN n V f).2 = f ∧ WayI V0 (drainN n V f).1
  | 0, V, f, h, _ => ⟨rfl, h⟩
  | n + 1, V, f, h, hn => by
    obtain ⟨x, w, e⟩ := List.exists_cons_of_ne_nil (l := V.way) (fun e => by rw [e] at hn; simp at hn)
    have h1 := compl_cons e
    have h2 := h.landed e
    unfold E.drainN
    rw [h1.1, h1.2, h2.1]
    have := WayI.drainN n (f := f && ((0 : Int) == 0)) h2.2 (by rw [landed_way e]; rw [e] at hn; simpa using hn)
    refine ⟨this.1.trans (by simp), this.2⟩
theorem WayI.steps {V0 V : VolM} {cl : List Int} : ∀ (l : List Int) {r : VolM × Bool}, l.Nodup → (∀ b ∈ l, V.P.free b ≠ []) → (∀ b ∈ l, b ∉ r.1.way.map fun p => p.2.blk) → r.1.P = V.P → r.2 = true → WayI V0 r.1 → (l.foldl (wrStep cl) r).2 = true ∧ WayI V0 (l.foldl (wrStep cl) r).1
  | [], r, _, _, _, _, hr, h => ⟨hr, h⟩
  | b :: l, r, hnd, hf, hg, hP, hr, h => by
    rw [List.nodup_cons] at hnd
    rw [List.foldl_cons]
    have rest : ∀ b' ∈ l, V.P.free b' ≠ [] := fun b' hb' => hf b' (List.mem_cons_of_mem _ hb')
    by_cases hc : ((r.1.P.of b).any fun i => decide (i ∈ cl)) = true ∧ r.1.way.length < 64
    · have hfb := hf b (by simp)
      rw [← hP] at hfb
      have hb : r.1.D.has b := by
        obtain ⟨i, t, e⟩ := List.exists_cons_of_ne_nil hfb
        obtain ⟨x, hx, h1, _⟩ := of_mem.1 (free_sub (show i ∈ r.1.P.free b by rw [e]; simp))
        exact h1 ▸ h.has x hx
      have hgo : r.1.going b = false := by
        cases hh : r.1.going b with
        | false => rfl
        | true =>
          obtain ⟨p, hp, h2⟩ := List.any_eq_true.1 hh
          exact absurd (List.mem_map.2 ⟨p, hp, by simpa using h2⟩) (hg b (by simp))
      have hw : r.1.write b = (r.1.sent b, 0) := by
        unfold VolM.write
        rw [if_neg (by simpa using hb), if_neg (by rw [hgo]; simp), if_neg hfb, if_neg (by omega)]
      have e : wrStep cl r b = (r.1.sent b, true) := by
        unfold wrStep
        rw [if_pos hc, hw, hr]; rfl
      rw [e]
      refine WayI.steps l hnd.2 rest (fun b' hb' => ?_) hP rfl (h.sent hb (hg b (by simp)))
      show b' ∉ (r.1.way ++ [_]).map _
      rw [List.map_append]
      intro hm
      rcases List.mem_append.1 hm with hm | hm
      · exact hg b' (List.mem_cons_of_mem _ hb') hm
      · simp at hm; subst hm; exact hnd.1 hb'
    · have e : wrStep cl r b = r := by unfold wrStep; rw [if_neg hc]
      rw [e]
      exact WayI.steps l hnd.2 rest (fun b' hb' => hg b' (List.mem_cons_of_mem _ hb')) hP hr h
theorem blocks_srt (P : PatchM) : P.blocks.Pairwise (· < ·) := by
  unfold PatchM.blocks
  refine cpt_srt ?_
  have := List.pairwise_mergeSort (le := fun x y : Int => decide (x ≤ y)) (fun a b c h1 h2 => by simp at *; omega) (fun a b => by simp; omega) (P.l.map (·.blk))
  exact this.imp fun h => by simpa using h
theorem WayI.round {V0 V : VolM} (h : WayI V0 V) (hw : V.way = []) (cl : List Int) : (V.round cl).2 = true ∧ WayI V0 (V.round cl).1 := by
  unfold VolM.round
  rw [drain_nil hw]
  simp only
  have hnd : V.ready.Nodup := ((blocks_srt V.P).sublist List.filter_sublist).imp fun h => by omega
  have h1 := WayI.steps (V := V) (cl := cl) V.ready (r := (V, true)) hnd (fun b hb => (ready_free hb).1) (fun b _ => by simp [hw]) rfl rfl h
  have h2 := WayI.drainN (V0 := V0) _ (f := true) h1.2 rfl
  exact ⟨by unfold VolM.drain; rw [h2.1, h1.1]; rfl, h2.2⟩
theorem WayI.rounds {V0 V V' : VolM} {ids : List Int} (h : WayI V0 V) (hw : V.way = []) (r : Rounds ids V V') : WayI V0 V' ∧ V'.way = [] := by
  induction r with
  | refl => exact ⟨h, hw⟩
  | step r h1 h2 ih => exact ⟨(ih.1.round ih.2 _).2, round_way _⟩
theorem BegI.wayI {V : VolM} {n : Nat} (h : BegI V (imgs n)) (pok : POk V.P) (k : Int) : WayI V (V.ticksN k) :=
  ⟨pok, by show ∀ y ∈ V.D.blocks, _; rw [h.D]; exact imgs_len, rfl, rfl, h.ov, h.has, fun _ _ => rfl, by show ∀ p ∈ V.way, _; rw [h.way]; simp, by show (V.way.map _).Nodup; rw [h.way]; simp⟩
theorem WayI.allDone {V0 V : VolM} (h : WayI V0 V) (hw : V.way = []) {ids : List Int} (hids : ∀ i, 1 ≤ i → i ≤ V0.P.last → i ∈ ids) (hc : V.P.clos ids = []) :
    V.P.blocks = [] ∧ V.wayb = [] ∧ (∀ i, 1 ≤ i → i ≤ V0.P.last → i ∈ V.P.done) ∧ V.D.blocks = V0.alls ∧ V.alls = V0.alls := by
  have hl : V.P.l = [] := by
    cases e : V.P.l with
    | nil => rfl
    | cons x l =>
      have hx : x ∈ V.P.l := by rw [e]; simp
      have hr := h.pok.rng x hx
      have : x.id ∈ V.P.clos ids := mem_clos.2 (.base (List.mem_filter.2 ⟨List.mem_map.2 ⟨x, hx, rfl⟩, by simpa using hids x.id hr.1 (by rw [← h.lst]; exact hr.2)⟩))
      rw [hc] at this; cases this
  have hnow : ∀ b, V.now b = V.blk b := fun b => by unfold VolM.now PatchM.of; rw [hl]; rfl
  have hal : V.alls = V0.alls := by
    unfold VolM.alls
    rw [h.bl]
    refine List.map_congr_left fun k hk => h.now k ?_
    rw [List.mem_range] at hk
    exact ⟨by omega, by omega⟩
  refine ⟨blocks_some.2 hl, by unfold VolM.wayb; rw [hw]; rfl, fun i h1 h2 => ?_, ?_, hal⟩
  · rcases h.pok.all i h1 (by rw [h.lst]; exact h2) with h3 | h3
    · exact h3
    · rw [hl] at h3; cases h3
  · rw [← hal]
    refine List.ext_getElem? fun k => ?_
    by_cases hk : k < V.D.blocks.length
    · rw [alls_get hk, hnow, ← blk_get (b := (k : Int)) ⟨by omega, by omega⟩, Int.toNat_natCast]
    · rw [List.getElem?_eq_none (by omega), List.getElem?_eq_none (by rw [alls_len]; omega)]
theorem WayI.roundsN {V0 V V' : VolM} {ids : List Int} (h : WayI V0 V) (hw : V.way = []) (hl : V0.P.last ≤ 100) (r : Rounds ids V V') : V'.n + (V'.P.l.length : Int) * 100 ≤ V.n + (V.P.l.length : Int) * 100 := by
  induction r with
  | refl => exact Int.le_refl _
  | @step W r h1 h2 ih =>
    have hW := h.rounds hw r
    have g1 := round_less hW.1.pok hW.2 h1 h2
    have g2 := round_n (V := W) (by rw [drain_nil hW.2]; exact hW.1.pok) (W.P.clos ids)
    rw [drain_nil hW.2] at g2
    have g3 := hW.1.lst
    simp only at g2
    omega
structure SyD (V0 W : VolM) : Prop where
  bk : W.P.blocks.length = 0
  wy : W.wayb.length = 0
  dn : ∀ i, 1 ≤ i → i ≤ V0.P.last → i ∈ W.P.done
  db : W.D.blocks = V0.alls
  al : W.alls = V0.alls
  n : W.n ≤ 100000
theorem sync_ok {V0 : VolM} {m : Nat} (h : BegI V0 (imgs m)) (pok : POk V0.P) (hl : V0.P.last ≤ 41) {k : Int} (hk : k ≤ 8) {ids : List Int} (hids : ∀ i, i ∈ ids ↔ 1 ≤ i ∧ i ≤ V0.P.last) {e : Int} {W : VolM}
    (hd : (e = 70 ∧ W = V0.ticksN k) ∨ ((V0.ticksN k).drain.2 = false ∧ e = 4 ∧ W = (V0.ticksN k).drain.1) ∨ ((V0.ticksN k).drain.2 = true ∧ ∃ V', Rounds ids (V0.ticksN k).drain.1 V' ∧ ((V'.P.clos ids = [] ∧ e = 0 ∧ W = V') ∨ (V'.P.clos ids ≠ [] ∧ (V'.round (V'.P.clos ids)).2 = false ∧ e = 4 ∧ W = (V'.round (V'.P.clos ids)).1))))
    (hne : e = 70 → ∃ i, i ∈ ids ∧ ¬ (1 ≤ i ∧ i ≤ V0.P.last)) : e = 0 ∧ SyD V0 W := by
  have hW := h.wayI pok k
  have hw : (V0.ticksN k).way = [] := h.way
  rw [drain_nil hw] at hd
  rcases hd with ⟨h1, _⟩ | ⟨h1, _⟩ | ⟨_, V', hr, ⟨hc, rfl, rfl⟩ | ⟨hc, h2, _⟩⟩
  · obtain ⟨i, h2, h3⟩ := hne h1
    exact absurd ((hids i).1 h2) h3
  · cases h1
  · have hr2 := hW.rounds hw hr
    have hn := hW.roundsN hw (by omega) hr
    obtain ⟨a1, a2, a3, a4, a5⟩ := hr2.1.allDone hr2.2 (fun i h1 h2 => (hids i).2 ⟨h1, h2⟩) hc
    have hll := pok.lenl
    refine ⟨rfl, by rw [a1]; rfl, by rw [a2]; rfl, a3, a4, a5, ?_⟩
    have e1 : (V0.ticksN k).n = k := by show V0.n + k = k; rw [h.n]; omega
    have e2 : (V0.ticksN k).P.l.length = V0.P.l.length := rfl
    rw [e1, e2] at hn
    omega
  · have hr2 := hW.rounds hw hr
    rw [(hr2.1.round hr2.2 _).1] at h2; cases h2
def upto1 (n : Nat) : List Int := (List.range n).map fun (k : Nat) => (k : Int) + 1
theorem upto1_mem (n : Nat) (i : Int) : i ∈ upto1 n ↔ 1 ≤ i ∧ i ≤ n := by
  unfold upto1
  rw [List.mem_map]
  constructor
  · rintro ⟨k, hk, rfl⟩; rw [List.mem_range] at hk; omega
  · intro h; exact ⟨(i - 1).toNat, by rw [List.mem_range]; omega, by omega⟩
theorem upto1_len (n : Nat) : (upto1 n).length = n := by simp [upto1]
theorem upto1_snoc (n : Nat) : upto1 (n + 1) = upto1 n ++ [(n : Int) + 1] := by unfold upto1; rw [List.range_succ, List.map_append]; rfl
/-- (*bollard/disk.Disk).Image -/
theorem c_dimage (d T Tn : Nat) (D : DiskM) (s : TH) (hd : Disk s d T D) (hT : Tn + 3 < T ∨ T + 10 ≤ Tn) : TRet Tryz.prog 38 #[.pointer (some ⟨d, 0, none⟩)] s fun v s' => ∃ a c hs, v = .slice a D.blocks.length c ∧ Ch [Tn + 1] s s' ∧ Own s' a D.blocks.length c 38 1 (hs.flatMap hd1) (Tn + 1) ∧ BRel s' (Tn + 3) hs D.blocks := by
  obtain ⟨pa, pc, qa, qc, hs, qs, fr, fm, h⟩ := id hd
  have hdb := h.blk
  have hdr := h.rows
  have hdl := h.brel
  have hnb := h.nb
  have hll := hdl.len
  refine F38_calls _  ?_
  unfold F38
  refine sB_f (by rfl) ?_
  refine nz_i ?_
  refine ld_t hdb rfl ?_
  refine dSl_i ?_
  refine tcall (c_image Tn pc hdr.sl hdl hll (by omega) (by omega) (by omega)) ?_
  rintro v_2 s_1 ⟨pacall1, pccall1, hscall1, rfl, c_4, call1a, call1b⟩
  have z_5 := c_4.size
  refine dSl_i ?_
  refine ret_t ?_
  exact ⟨_, _, _, rfl, ((Ch.refl [Tn + 1] s).ch c_4 (by simp)), call1a, call1b⟩
/-- bollard/bollardlaw09.VolumeSynced -/
theorem w_vsync (U : Nat) (x : Int) {a : Option Addr} {n : Nat} (c : Nat) {ls : List DoV} {τ : Nat} {s : TH} (hU : 10 ≤ U) (hq : Sl s a (ls.flatMap dov9) τ) (hd : Dos s τ ls) (hln : ls.length = n) (hn2 : n ≤ 17592186043904) (ha : a = none → n = 0) (hτ : τ < U ∨ U + 50 ≤ τ) : TRet Tryz.prog 13 #[.int .i64 x, .slice a n c] s fun v s' => v = .bool true ∧ Ch [U, U + 1, U + 3, U + 10, U + 11, U + 12, U + 13, U + 14, U + 20, U + 21, U + 22, U + 23, U + 30, U + 31, U + 32] s s' := by
  obtain ⟨M, hM, hM0, hMa, hMb, hMc, hMd, hMe, hMf⟩ := fresh6 s τ (U + 60) 0 0 0 0
  refine F13_calls _ _ _ _  ?_
  unfold F13
  refine tcall (c_begun U _ _ (by omega) hq hd (by omega) (by omega) ha (by omega)) ?_
  rintro v_2 s_1 ⟨rcall1, dcall1, Vcall1, rfl, c_4, call1a, call1b, call1c⟩
  have z_5 := c_4.size
  have hB := call1a
  have hl0 := hB.len
  have hpl := (call1c).pok.lst
  have hpok := (call1c).pok
  refine dT3 ?_
  refine dPtr_i ?_
  refine dPtr_i ?_
  refine dBl_i ?_
  refine sB_f (by rfl) ?_
  refine tcall (c_VLast _ _ _ _ _ (by omega) call1c) ?_
  rintro v_7 s_6 ⟨rfl, c_9, call2a⟩
  have z_10 := c_9.size
  refine dInt_i ?_
  refine ⟨fun vs H' => ∃ s' : TH, s'.h = H' ∧ ∃ pa pn pc i, vs = [.slice pa pn pc, .int .i64 i] ∧ Ch [M + 5, M + 9] s_6 s' ∧ (∃ kk : Nat, i = kk ∧ pn = kk ∧ (kk : Int) ≤ Vcall1.P.last ∧ Own s' pa pn pc 3 1 (ivs (upto1 kk)) (M + 5)), fun vs H' => match vs with | [.slice pa pn pc, .int .i64 i] => (Vcall1.P.last - i).toNat | _ => 0, ⟨s_6, rfl, _, _, _, _, rfl, Ch.refl _ _, ?_⟩, ?_⟩
  ·
    exact ⟨0, rfl, rfl, by omega, Own.nil _ _ _ _⟩
  ·
    intro pa pn pc i _ _ _ _ _ _ _ _ _ H_ hI_12
    obtain ⟨s_11, rfl, pa_, pn_, pc_, i_, hvs, c_13, kk, rfl, rfl, hk, ho⟩ := hI_12
    cases hvs
    have z_14 := c_13.size
    refine sB_d (fun hsB2 => ?_) (fun hsB2 => ?_)
    ·
      refine wr_t (by omega) ?_
      refine al_t (M + 9) fun r30 s31 hr30 b_15 c_16 z_17 => ?_
      have h_20 := ho.mv c_16 (tagn (by simp))
      refine app_i1 u73 in3 h_20 b_15 (by omega) fun s_21 a_18 k_19 o_22 c_23 => ?_
      have z_24 := c_23.size
      refine dSl_i ?_
      refine wr_t (by omega) ?_
      refine ⟨⟨s_21, rfl, _, _, _, _, rfl, ((((Ch.refl [M + 5, M + 9] s_6).ch c_13 (by simp)).ch c_16 (by simp)).ch c_23 (by simp)), ?_⟩, ?_⟩
      ·
        exact ⟨pn + 1, by omega, rfl, by omega, by rw [upto1_snoc]; exact o_22⟩
      ·
        simp only []; omega
    ·
      have h_25 := call2a.mv c_13 (rngn50 (by simp <;> omega))
      refine tcall (c_vall _ _ _ _ (M + 3) (M + 4) _ (by omega) h_25 (by first | (rw [hB.n]; omega) | (have := hS.n; omega)) (by omega)) ?_
      rintro v_27 s_26 ⟨acall3, ccall3, hscall3, rfl, c_29, call3a, call3b, call3c⟩
      have z_30 := c_29.size
      refine dSl_i ?_
      refine jn_u ?_
      have h_31 := ho.mv c_29 (tagn (by simp <;> omega))
      refine tcall (c_VSync _ _ _ _ _ _ (by omega) call3c (h_31).sl (upto1_len _) (by omega) (by omega) (by show Vcall1.n + _ < _; rw [hB.n]; omega)) ?_
      rintro v_33 s_32 ⟨ecall4, Wcall4, rfl, c_35, call4a, call4b, call4c⟩
      have z_36 := c_35.size
      obtain ⟨hS0, hS⟩ := sync_ok hB hpok (by omega) (k := ((Vcall1.D.blocks.length : Nat) : Int)) (by omega) (ids := upto1 pn) (fun i => by rw [upto1_mem]; omega) call4b call4c
      subst hS0
      have hbk := hS.bk
      have hwy := hS.wy
      have hWl : Wcall4.D.blocks.length = Vcall1.D.blocks.length := by rw [hS.db, alls_len]
      refine dInt_i ?_
      refine sB_f (by rfl) ?_
      refine tcall (c_VDirty _ _ _ _ τ _ (by omega) call4a (by omega)) ?_
      rintro v_38 s_37 ⟨acall5, ccall5, rfl, c_40, call5a, call5b⟩
      have z_41 := c_40.size
      refine dSl_i ?_
      refine tcall (c_VWay _ _ _ _ τ _ (by omega) call5b (by omega)) ?_
      rintro v_43 s_42 ⟨acall6, ccall6, rfl, c_45, call6a, call6b⟩
      have z_46 := c_45.size
      refine dSl_i ?_
      refine wr_t (by omega) ?_
      intro _
      intros
      refine dBl_i ?_
      refine sB_d (fun hsB4 => by exfalso; omega) (fun hsB4 => ?_)
      refine ⟨fun vs H' => ∃ s' : TH, s'.h = H' ∧ ∃ i, vs = [.int .i64 i] ∧ Ch [U] s_42 s' ∧ (∃ kk : Nat, i = kk ∧ kk ≤ pn ∧ VolL s' rcall1 dcall1 U Wcall4 0), fun vs H' => match vs with | [.int .i64 i] => ((pn : Int) - i).toNat | _ => 0, ⟨s_42, rfl, _, rfl, Ch.refl _ _, ?_⟩, ?_⟩
      ·
        exact ⟨0, rfl, by omega, call6b⟩
      ·
        intro i _ _ _ _ _ _ _ _ _ _ H_ hI_48
        obtain ⟨s_47, rfl, i_, hvs, c_49, kk, rfl, hkk, hv3⟩ := hI_48
        cases hvs
        have z_50 := c_49.size
        refine sB_d (fun hsB5 => ?_) (fun hsB5 => ?_)
        ·
          have h_51 := h_31.mv (((c_35.app c_40).app c_45).app c_49) (tagn (by simp <;> omega))
          obtain ⟨a_52, rfl⟩ := h_51.ne_none (by omega)
          refine nz_i ?_
          refine ask_t (by omega) ?_
          have hel1 : (upto1 pn)[kk]? = some ((kk : Int) + 1) := by unfold upto1; rw [List.getElem?_map, List.getElem?_range (by omega)]; rfl
          refine ld_sl (h_51).sl (by rw [Int.toNat_natCast, Nat.mul_one]; exact ivs_get hel1) ?_
          refine dInt_i ?_
          refine tcall (c_VIsDone _ _ _ _ _ _ (by omega) hv3) ?_
          rintro v_54 s_53 ⟨rfl, c_56, call7a⟩
          have z_57 := c_56.size
          rw [decide_eq_true (hS.dn ((kk : Int) + 1) (by omega) (by omega))]
          refine dBl_i ?_
          refine sB_f (by rfl) ?_
          refine wr_t (by omega) ?_
          refine ⟨⟨s_53, rfl, _, rfl, (((Ch.refl [U] s_42).ch c_49 (by simp)).ch c_56 (by simp)), ?_⟩, ?_⟩
          ·
            exact ⟨kk + 1, by omega, by omega, call7a⟩
          ·
            simp only []; omega
        ·
          obtain ⟨⟨cw, pw, rww, rkw, mww, mkw, hVw⟩, okw⟩ := id hv3
          refine tcall (c_dimage dcall1 (U + 10) M Wcall4.D _ hVw.dk (by omega)) ?_
          rintro v_59 s_58 ⟨acall8, ccall8, hscall8, rfl, c_61, call8a, call8b⟩
          have z_62 := c_61.size
          refine dSl_i ?_
          have h_63 := call3a.mv ((((c_35.app c_40).app c_45).app c_49).app c_61) (tagn (by simp <;> omega))
          have h_64 := call3b.mv ((((c_35.app c_40).app c_45).app c_49).app c_61) (tagn (by simp <;> omega))
          refine tcall (c_same _ _ _ _ _ call8a.sl h_63.sl (show BRel _ _ _ Vcall1.alls from by rw [← hS.db]; exact call8b) h_64 (by rw [alls_len, hWl]) (alls_len _) (by omega)) ?_
          rintro v_66 s_65 ⟨rfl, c_68⟩
          have z_69 := c_68.size
          refine dBl_i ?_
          refine sB_t (by rfl) ?_
          have h_70 := hv3.mv (c_61.app c_68) (rngn50 (by simp <;> omega))
          refine tcall (c_vall _ _ _ _ (M + 3) (M + 4) _ (by omega) h_70 (by first | (rw [hB.n]; omega) | (have := hS.n; omega)) (by omega)) ?_
          rintro v_72 s_71 ⟨acall10, ccall10, hscall10, rfl, c_74, call10a, call10b, call10c⟩
          have z_75 := c_74.size
          refine dSl_i ?_
          have h_76 := h_63.mv (c_68.app c_74) (tagn (by simp <;> omega))
          have h_77 := h_64.mv (c_68.app c_74) (tagn (by simp <;> omega))
          refine tcall (c_same _ _ _ _ _ call10a.sl h_76.sl (show BRel _ _ _ Vcall1.alls from by rw [← hS.al]; exact call10b) h_77 (by rw [alls_len, hWl]) (alls_len _) (by omega)) ?_
          rintro v_79 s_78 ⟨rfl, c_81⟩
          have z_82 := c_81.size
          refine dBl_i ?_
          refine ret_t ?_
          exact ⟨rfl, (((((((((((((Ch.refl [U, U + 1, U + 3, U + 10, U + 11, U + 12, U + 13, U + 14, U + 20, U + 21, U + 22, U + 23, U + 30, U + 31, U + 32] s).ch c_4 (by simp)).ch c_9 (by simp)).fr c_13 hM (by simp)).ch c_29 (by simp)).ch c_35 (by simp)).ch c_40 (by simp)).ch c_45 (by simp)).ch c_49 (by simp)).fr c_61 hM (by simp)).ch c_68 (by simp)).ch c_74 (by simp)).ch c_81 (by simp))⟩
end Go.Proofs.YtngploohhmfaiaaGreat.E
