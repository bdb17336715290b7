/- My own texts, joined. -/
import Derived.ChangeArms
import Derived.DataReads
import Derived.Handed
import Derived.JoinedOf
import Derived.KernelRfl
import Derived.ProofKit
import Derived.Test.YtklppdodadkcnaaGreatProg
import Derived.WalkKit
import Derived.WideShapes
import Derived.Test.YtklppdodadkcnaaGreatIC22
namespace Go.Proofs.YtklppdodadkcnaaGreat.E
open Go Go.Proofs Go.RowKit Go.Maps Go.Shelf Go.Sort
set_option linter.unusedVariables false
set_option linter.unusedSimpArgs false
structure GC (G B N ino : Nat) (A1 A : Nat → List UInt8 × List UInt8) (V1 V : VolM) (D : DinM) (kk : Nat) : Prop where
 gi : GI G B N ino V A D [] kk
 st : ∃ j k, Stp G B N A1 A V1 V fileD D j k
theorem GC.same {G B N ino kk t j k : Nat} {A1 A : Nat → List UInt8 × List UInt8} {V1 V V5 : VolM} {D : DinM} (h : GC G B N ino A1 A V1 V D kk) (s : SameV (V.tk (t : Nat)) V5 j) (hj : V5.n + (k : Int) ≤ 10000 + ((kk + 1 : Nat) : Int) * 10000) : GC G B N ino A1 A V1 (V5.tk (k : Nat)) D (kk + 1) := by
 obtain ⟨a, b, st⟩ := h.st
 have hs := s.tks k
 exact ⟨h.gi.same hs hj, _, _, st.trans (tree_zero fileD_top) (samev_stp h.gi.hds h.gi.tree hs)⟩
theorem GC.up {G B N ino kk t : Nat} {A1 A A' : Nat → List UInt8 × List UInt8} {V1 V V' V'' : VolM} {D D' : DinM} (hg : GeoOk G B N) (hi : ino < G * N) (h : GC G B N ino A1 A V1 V D kk) (st : Stp G B N A A' (V.tk (t : Nat)) V' D D' 8 60) (h128 : (V'.now (ibN B N ino : Int)).length = 128) (c : ChT V' (ibN B N ino : Int) (iaN N ino : Int) (dinB D') V'') (hn : V''.n ≤ 10000 + ((kk + 1 : Nat) : Int) * 10000) :
  GC G B N ino A1 A' V1 V'' D' (kk + 1) := by
 obtain ⟨a, b, st0⟩ := h.st
 obtain ⟨s2, e2⟩ := ino_put (D := D') hg hi st.hds st.tree h128 c
 refine ⟨⟨s2.hds, s2.tree, h.gi.dk.stp st, e2, ?_, hn, Nat.zero_le _, fun k v hv => by cases hv⟩, _, _, ((st0.trans (tree_zero fileD_top) (Stp.tk h.gi.hds h.gi.tree t)).trans (tree_zero fileD_top) st).trans (tree_zero fileD_top) s2⟩
 have h1 := h.gi.lst
 have h2 := st.ext.last.2
 have h3 := s2.ext.last.2
 have h4 : (V.tk (t : Nat)).P.last = V.P.last := rfl
 omega
theorem spN_congr {N n : Nat} {l l' : List UInt8} (h8 : l.length = 8) (h8' : l'.length = 8) (h : ∀ j, j < N → hasB l j = hasB l' j) : spN N n l = spN N n l' := by
 unfold spN
 rw [cntB_congr (l := rowI n l) (l' := rowI n l') (fun j hj => by rw [rowI_has h8, rowI_has h8', h j hj])]
theorem frN_congr {B N : Nat} (hB : 2 + N / 4 ≤ B) {l l' : List UInt8} (h : ∀ j, j < B → hasB l j = hasB l' j) : frN B N l = frN B N l' := by
 unfold frN
 rw [cntB_congr h, cntB_congr (fun j hj => h j (by omega))]
theorem roomB_congr {B N : Nat} (hB : 2 + N / 4 ≤ B) {A A' : Nat → List UInt8 × List UInt8} : ∀ k, (∀ m j, m < k → j < B → hasB (A m).2 j = hasB (A' m).2 j) → roomB B N A k = roomB B N A' k
 | 0, _ => rfl
 | k + 1, h => by rw [roomB, roomB, roomB_congr hB k (fun m j hm hj => h m j (by omega) hj), frN_congr hB (fun j hj => h k j (by omega) hj)]
theorem roomI_congr {N : Nat} {A A' : Nat → List UInt8 × List UInt8} : ∀ k, (∀ m, m < k → (A m).1.length = 8 ∧ (A' m).1.length = 8) → (∀ m j, m < k → j < N → hasB (A m).1 j = hasB (A' m).1 j) → roomI N A k = roomI N A' k
 | 0, _, _ => rfl
 | k + 1, h8, h => by rw [roomI, roomI, roomI_congr k (fun m hm => h8 m (by omega)) (fun m j hm hj => h m j (by omega) hj), spN_congr (h8 k (by omega)).1 (h8 k (by omega)).2 (fun j hj => h k j (by omega) hj)]
theorem clear_room {G B N n i j k t : Nat} {A0 A A' : Nat → List UInt8 × List UInt8} {V0 V1 V V' : VolM} {D : DinM} (hg : GeoOk G B N) (hA0 : AS G B V0 A0) (hn : n < G) (hi : i < N) (hf : hasB (rowI n (A0 n).1) i = false) (st : Stp G B N (updI A0 n (withB (A0 n).1 i true)) A V1 V fileD D j k)
  (c : ClrR G B N n i A A' (V.tk (t : Nat)) V' (spanM (nowN V) D)) : roomB B N A' G = roomB B N A0 G ∧ roomI N A' G = roomI N A0 G := by
 have hg2 := hg
 unfold GeoOk at hg2
 have hu2 : ∀ m, (updI A0 n (withB (A0 n).1 i true) m).2 = (A0 m).2 := fun m => by
  unfold updI; split
  ·rename_i e; rw [e]
  ·rfl
 have hf0 := (rowI_false (hA0.l8 n hn) hf).1
 constructor
 ·refine roomB_congr (by omega) G fun m q hm hq => ?_
  rw [c.has m q hm hq]
  by_cases hlow : q < 2 + N / 4
  ·rw [st.low m q hm hlow, hu2]
   have : m * B + q ∉ spanM (nowN V) D := fun h => by
    obtain ⟨h0, p, hp, e⟩ := mem_span.1 h
    exact (st.tree.alc p hp (by rw [e]; exact h0)).ni m q hlow e
   rw [decide_eq_true this, Bool.and_true]
  ·cases hb : hasB (A0 m).2 q with
   | true =>
    have hal : AL G B N (updI A0 n (withB (A0 n).1 i true)) (m * B + q) := ⟨m, q, hm, by omega, hq, rfl, by rw [hu2]; exact hb⟩
    obtain ⟨m2, q2, g1, g2, g3, g4, g5⟩ := st.alm _ hal
    obtain ⟨rfl, rfl⟩ := dm_eq hq g3 g4
    have : m * B + q ∉ spanM (nowN V) D := fun h => by
     obtain ⟨h0, p, hp, e⟩ := mem_span.1 h
     exact st.newn p hp (slot_zero fileD_top p hp) (by rw [e]; exact h0) (by rw [e]; exact hal)
    rw [g5, decide_eq_true this]; rfl
   | false =>
    cases hb2 : hasB (A m).2 q with
    | false => rfl
    | true =>
     rcases st.aln _ ⟨m, q, hm, by omega, hq, rfl, hb2⟩ with h | ⟨p, hp, e⟩
     ·obtain ⟨m2, q2, g1, g2, g3, g4, g5⟩ := h
      obtain ⟨rfl, rfl⟩ := dm_eq hq g3 g4
      rw [hu2, hb] at g5; cases g5
     ·have : m * B + q ∈ spanM (nowN V) D := mem_span.2 ⟨by omega, p, hp, e⟩
      rw [decide_eq_false (fun h => h this)]; rfl
 ·refine roomI_congr G (fun m hm => ⟨c.hds.l8 m hm, hA0.l8 m hm⟩) fun m q hm hq => ?_
  rw [c.row m q hm hq, st.row m]
  unfold updI
  by_cases e : m = n
  ·subst e
   rw [if_pos rfl]
   show (hasB (withB (A0 m).1 i true) q && _) = _
   rw [hasB_with (by rw [hA0.l8 m hm]; omega)]
   by_cases e2 : q = i
   ·rw [if_pos e2, e2, hf0]; simp
   ·rw [if_neg e2]; simp [e2]
  ·rw [if_neg e]; simp [e]
theorem has7 {j : Nat} (hj : j < 64) : hasB [7, 0, 0, 0, 0, 0, 0, 0] j = decide (j < 3) := by
 revert j
 decide
theorem ino3 {N n i : Nat} (h4 : 4 ≤ N) (hi : i < N) (h64 : N ≤ 64) (hf : hasB (rowI n (A0 N n).1) i = false) : 3 ≤ n * N + i := by
 by_cases e : n = 0
 ·subst e
  have h := (rowI_false (show (iL 0).length = 8 from rfl) hf).1
  have h2 : hasB [7, 0, 0, 0, 0, 0, 0, 0] i = false := h
  rw [has7 (by omega)] at h2
  have := of_decide_eq_false h2
  omega
 ·have := Nat.mul_le_mul_right N (show 1 ≤ n by omega)
  omega
set_option maxHeartbeats 4000000 in
set_option maxRecDepth 100000 in
/-- bollard/bollardlaw13.InodeClears -/
theorem w_iclears (U : Nat) (a b c : Int) {oa : Option Addr} {on : Nat} (oc : Nat) {os : List Int} {τo : Nat} (s : TH) (hU : 10 ≤ U) (ho : Sl s oa (ivs os) τo) (hol : os.length = on) (ho0 : oa = none → on = 0) (hτo : τo < U ∨ U + 50 ≤ τo) : TRet Tryz.prog 5 #[.agg #[.int .i64 a, .int .i64 b, .int .i64 c], .slice oa on oc] s fun v s' => v = .bool true ∧ Ch [U, U + 3, U + 11, U + 20, U + 21, U + 22, U + 23, U + 30, U + 32] s s' := by
 obtain ⟨M, hM, hM0, hMa, hMb, hMc, hMd, hMe, hMf⟩ := fresh6 s τo (U + 60) 0 0 0 0
 refine F5_calls _ _ _ _ _ _  ?_
 unfold F5
 refine al_t (M + 1) fun r1 s2 eY aQ aR eZ => ?_
 refine ld_t aQ rfl (ld_t aQ rfl (ld_t aQ rfl ?_))
 refine tcall (c_fresh U (M + 10) a b c _ hU (by omega)) ?_
 rintro e0 e3 ⟨bl, e, g, c3, c4, f, i, d, rfl, aq, bm, c5, bn, bo⟩
 have e4 := aq.size
 have hg := bm
 have hg2 := hg
 unfold GeoOk at hg2
 have hgb := hg.gb
 have hA0 := AS.start hg
 refine dT3 (dPtr_i (dA3 (dBl_i ?_)))
 have bp := aQ.ch aq (by simp <;> omega)
 refine st_t bp rfl (by simp) fun e6 cE bR d7 => ?_
 have ai := on_ch bp bR
 refine st_t cE rfl (by simp) fun e7 bq bS d8 => ?_
 have aj := on_ch cE bS
 refine st_t bq rfl (by simp) fun e8 ar bT d9 => ?_
 have ak := on_ch bq bT
 refine sB_f (by rfl) (nz_i ?_)
 have br := ((ai.app aj).app ak)
 have bs := bn.ch br (by simp)
 refine ld_t bs rfl (dPtr_i (ld_t ar rfl (ld_t ar rfl (ld_t ar rfl ?_))))
 have cF := bo.mv br (rngn50 (by simp <;> omega))
 refine tcall (c_room e g U (VolM.fresh (makeL f i d)) f i d (A0 d) _ cF hU hg (by show (0 : Int) < _; decide) (by show (0 : Int) < _; decide) hA0) ?_
 rintro ea eb ⟨rfl, R, bt⟩
 have ec := R.size
 refine dT3 (dInt_i (dInt_i (dInt_i ?_)))
 have al := ar.ch R (by simp <;> omega)
 refine ld_t al rfl (ld_t al rfl (ld_t al rfl ?_))
 have aN := bs.ch R (by simp <;> omega)
 refine tcall (c_iplc bl e g U _ _ _ _ f i d (M + 10) (A0 d) _ bt hU hg (by show (0 : Int) + _ < _; omega) (by show (0 : Int) < _; decide) (hA0.tk _) aN (by omega)) ?_
 rintro ed r ⟨T, c6, rfl, C, bu, aM⟩
 have ee := C.size
 refine dT2 (dInt_i (dBl_i ?_))
 refine sB_d (fun cG => ?_) (fun cG => ?_)
 ·
  refine ret_t ?_
  exact ⟨rfl, ((((((((Ch.refl [U, U + 3, U + 11, U + 20, U + 21, U + 22, U + 23, U + 30, U + 32] s).ch aR (by simp)).ch aq (by simp)).fr ai hM (by simp)).fr aj hM (by simp)).fr ak hM (by simp)).ch R (by simp)).ch C (by simp))⟩
 ·
  obtain ⟨n, i0, kp, V1, hn, hi0, hf, hx, hkp, hc1, cH, hc2⟩ := aM.resolve_left (by assumption)
  clear aM
  subst hx
  have hGI0 := gi_start hg (hA0.tk _) (by show (0 : Int) ≤ _; decide) (by show (0 : Int) + _ ≤ _; omega) hn hi0 hkp hc1 cH hc2
  have hino : (n * d + i0) < f * d := dm_lt hn hi0
  have hi3 := ino3 (by omega) hi0 (by omega) hf
  have hGC0 : GC f i d (n * d + i0) (updI (A0 d) n (withB (A0 d n).1 i0 true)) (updI (A0 d) n (withB (A0 d n).1 i0 true)) T T fileD 0 := ⟨hGI0, 0, 0, by (have h := Stp.tk hGI0.hds hGI0.tree 0); rw [show ((0 : Nat) : Int) = 0 from rfl, tk_zero] at h; exact h⟩
  refine jn0 (fun s' => Ch [U, U + 3, U + 20, U + 21, U + 22, U + 23, U + 30, U + 32, M + 9] r s' ∧ (∃ (kk : Nat) (V : VolM) (A : Nat → List UInt8 × List UInt8) (D : DinM), kk ≤ 21 ∧ VolL s' e g U V 0 ∧ GC f i d (n * d + i0) (updI (A0 d) n (withB (A0 d n).1 i0 true)) A T V D kk)) ?_ ?_
  ·
   rintro  ef ⟨am, kk, V, A, D, hk, hv, hGC⟩
   have eg := am.size
   have hGI := hGC.gi
   have hA := hGI.hds
   have hl := hA.len
   have hgn := hGI.n
   have hgl := hGI.lst
   have hdk := dok_of hg hGI.dk hGI.tree
   intro _
   intros
   refine nz_i ?_
   have bv := aN.ch (C.app am) (by simp <;> omega)
   refine ld_t bv rfl (dPtr_i ?_)
   have au := al.ch (C.app am) (by simp <;> omega)
   refine ld_t au rfl (ld_t au rfl (ld_t au rfl ?_))
   refine tcall (c_iClear e g U V f i d n i0 A D 0 _ hv hU hg (by omega) (by omega) hA hGI.tree hdk hGI.ino hn hi3 hi0 (sl_nil _ (U + 60)) rfl (by omega) (fun n hn => by cases hn) (by omega)) ?_
   rintro eh ei ⟨V6, c7, A6, t6, rfl, an, K, bw, bx⟩
   have ej := an.size
   have hC := bx
   have hspl := span_len (nowN V) D
   have hC2 := hC.ext.n
   have hC3 := hC.ext.last
   have hC4 : (V.tk (t6 : Nat)).n = V.n + t6 := rfl
   have hC5 : (V.tk (t6 : Nat)).P.last = V.P.last := rfl
   have hC6 := bw
   obtain ⟨j_, k_, hst_⟩ := hGC.st
   have hrm := clear_room hg hA0 hn hi0 hf hst_ hC
   refine dT2 (dInt_i (dInt_i (sB_f (by rfl) (nz_i ?_))))
   have bz := bv.ch an (by simp <;> omega)
   refine ld_t bz rfl (dPtr_i ?_)
   have av := au.ch an (by simp <;> omega)
   refine ld_t av rfl (ld_t av rfl (ld_t av rfl ?_))
   refine tcall (c_room e g U V6 f i d A6 _ K hU hg (by omega) (by omega) hC.hds) ?_
   rintro ek el ⟨rfl, ao, j⟩
   have em := ao.size
   refine dT3 (dInt_i (dInt_i (dInt_i (nz_i ?_))))
   have bA := bz.ch ao (by simp <;> omega)
   refine ld_t bA rfl (dPtr_i ?_)
   have aw := av.ch ao (by simp <;> omega)
   refine ld_t aw rfl (ld_t aw rfl (ld_t aw rfl ?_))
   refine ⟨?_, ?_⟩
   ·
    refine tcall (c_iget e g U (V6.tk f) f i d (n * d + i0) 0 0 0 0 0 0 0 0 0 _ j hU hg hC.hds.len (by show V6.n + _ < _; omega) hino zeroD_ok hC.ino) ?_
    rintro en eo ⟨rfl, bB, o⟩
    have ep := bB.size
    refine dT2 (dA9 (dInt_i ?_))
    refine al_t (M + 2) fun eq er c8 bC cI es => ?_
    refine st9 bC rfl (by rfl) fun et cJ bU eu => ?_
    have cK := on_ch bC bU
    refine sB_t (by rfl) (sB_t (by rfl) ?_)
    refine sB_t (by rw [hrm.1]; exact beq_self_eq_true _) ?_
    refine sB_t (by rw [hrm.2]; exact beq_self_eq_true _) ?_
    refine ld9 cJ rfl ?_
    refine eq_din ?_
    refine dBl_i ?_
    refine ret_t ?_
    have cL := (((an.app ao).app bB).app cI)
    exact ⟨rfl, (((((((((((Ch.refl [U, U + 3, U + 11, U + 20, U + 21, U + 22, U + 23, U + 30, U + 32] s).ch aR (by simp)).ch aq (by simp)).fr ai hM (by simp)).fr aj hM (by simp)).fr ak hM (by simp)).ch R (by simp)).ch C (by simp)).fr am hM (by simp)).ch cL (by simp)).fr cK hM (by simp))⟩
   ·
    refine al_t (M + 2) fun ev ew c9 cM ax ex => ?_
    refine ⟨?_, ?_⟩
    ·
     have aO := aw.ch ax (by simp)
     refine ld_t aO rfl (ld_t aO rfl (ld_t aO rfl ?_))
     rfl
    ·
     refine ⟨?_, ?_⟩
     ·
      have cN := bA.ch ax (by simp)
      refine ld_t cN rfl (dPtr_i ?_)
      rfl
     ·
      have cO := j.mv ax (rngn50 (by simp))
      refine tcall (c_iget e g U (V6.tk f) f i d (n * d + i0) 0 0 0 0 0 0 0 0 0 _ cO hU hg hC.hds.len (by show V6.n + _ < _; omega) hino zeroD_ok hC.ino) ?_
      rintro ey ez ⟨rfl, aP, o⟩
      have eA := aP.size
      refine dT2 (dA9 (dInt_i ?_))
      have bD := cM.ch aP (by simp <;> omega)
      refine st9 bD rfl (by rfl) fun eB cP bV eC => ?_
      have cQ := on_ch bD bV
      refine sB_t (by rfl) (sB_t (by rfl) ?_)
      refine sB_t (by rw [hrm.1]; exact beq_self_eq_true _) ?_
      refine sB_t (by rw [hrm.2]; exact beq_self_eq_true _) ?_
      refine ld9 cP rfl ?_
      refine eq_din ?_
      refine dBl_i ?_
      refine ret_t ?_
      have cR := (((an.app ao).app ax).app aP)
      exact ⟨rfl, (((((((((((Ch.refl [U, U + 3, U + 11, U + 20, U + 21, U + 22, U + 23, U + 30, U + 32] s).ch aR (by simp)).ch aq (by simp)).fr ai hM (by simp)).fr aj hM (by simp)).fr ak hM (by simp)).ch R (by simp)).ch C (by simp)).fr am hM (by simp)).ch cR (by simp)).fr cQ hM (by simp))⟩
  ·
   intro K_81 hK_81
   refine ⟨fun vs H' => ∃ s' : TH, s'.h = H' ∧ ∃ q, vs = [.int .i64 q] ∧ Ch [U, U + 3, U + 20, U + 21, U + 22, U + 23, U + 30, U + 32, M + 9] r s' ∧ (∃ (kk : Nat) (V : VolM) (A : Nat → List UInt8 × List UInt8) (D : DinM), q = kk ∧ kk ≤ 21 ∧ kk ≤ on ∧ VolL s' e g U V 0 ∧ GC f i d (n * d + i0) (updI (A0 d) n (withB (A0 d n).1 i0 true)) A T V D kk), fun vs H' => match vs with | [.int .i64 q] => ((on : Int) - q).toNat | _ => 0, ⟨r, rfl, _, rfl, Ch.refl _ _, ?_⟩, ?_⟩
   ·
    exact ⟨0, _, _, _, rfl, by omega, by omega, bu, hGC0⟩
   ·
    intro q _ _ _ _ _ _ _ _ _ _ _ _ _ _ _ _ _ _ _ _ _ _ _ _ _ _ _ _ _ _ _ _ _ _ _ _ _ _ _ _ _ _ _ _ _ _ _ _ _ _ _ _ _ _ _ H_ hI_83
    obtain ⟨eD, rfl, q_, hvs, p, kk, V, A, D, rfl, hk, hkn, hv, hGC⟩ := hI_83
    cases hvs
    have eE := p.size
    have hGI := hGC.gi
    have hA := hGI.hds
    have hl := hA.len
    have hgn := hGI.n
    have hgl := hGI.lst
    have hdk := dok_of hg hGI.dk hGI.tree
    refine sB_d (fun cS => ?_) (fun cS => ?_)
    ·
     refine jn_u ?_
     have cT := (((((((aR.app aq).app ai).app aj).app ak).app R).app C).app p)
     have bE := ho.mv cT (tagn (by simp <;> omega))
     obtain ⟨eF, rfl⟩ := bE.ne_none (by simp [bvs_len, ivs_len]; omega)
     refine nz_i (ask_t (by omega) ?_)
     refine ld_iv bE (by omega) (by omega) fun eG cU => ?_
     rw [Int.toNat_natCast] at cU
     refine dInt_i ?_
     refine sB_d (fun cV => ?_) (fun cV => ?_)
     ·
      refine hK_81 _ ⟨((Ch.refl [U, U + 3, U + 20, U + 21, U + 22, U + 23, U + 30, U + 32, M + 9] r).ch p (by simp)), ?_⟩
      exact ⟨kk, V, A, D, by omega, hv, hGC⟩
     ·
      refine nz_i ?_
      have ay := aN.ch (C.app p) (by simp <;> omega)
      refine ld_t ay rfl (dPtr_i ?_)
      have W := al.ch (C.app p) (by simp <;> omega)
      refine ld_t W rfl (ld_t W rfl (ld_t W rfl ?_))
      refine ⟨?_, ?_⟩
      ·
       refine tcall (c_iget e g U V f i d (n * d + i0) D.m D.l D.z D.d0 D.d1 D.d2 D.d3 D.e1 D.e2 _ hv hU hg hl (by omega) hino hdk hGI.ino) ?_
       rintro eH cW ⟨rfl, X, K⟩
       have eI := X.size
       have hv1 : VolL cW e g U (V.tk ((1 : Nat) : Int)) 0 := K
       refine dT2 (dA9 (dInt_i ?_))
       refine al_t (M + 9) fun eJ eK da bF S eL => ?_
       refine st9 bF rfl (by rfl) fun eM bG bH db => ?_
       have E := on_ch bF bH
       refine sB_f (by rfl) (nz_i ?_)
       have aS := ((X.app S).app E)
       have Y := ay.ch aS (by simp <;> omega)
       refine ld_t Y rfl (dPtr_i ?_)
       have L := W.ch aS (by simp <;> omega)
       refine ld_t L rfl (ld_t L rfl (ld_t L rfl (ld9 bG rfl ?_)))
       refine wr_a fun eN hn390 => ?_
       rw [wrap_u64] at hn390
       refine ask_t (by omega) ?_
       refine nm_a fun az hn391 => ?_
       have qn391 := tmod_rng (by omega) (by omega) hn391
       refine wr_t (by omega) ?_
       refine ⟨?_, ?_⟩
       ·
        obtain ⟨n0, hn0⟩ : ∃ n0 : Nat, az = n0 := ⟨az.toNat, by omega⟩
        subst hn0
        clear hn391 hn390
        have bW := hv1.mv (S.app E) (rngn50 (by simp <;> omega))
        refine tcall (c_iGrow e g U (V.tk ((1 : Nat) : Int)) f i d (M + 30) (n * d + i0) n0 A D _ bW hU hg (by show V.n + _ < _; omega) (by show V.P.last < _; omega) (hA.tk _) hGI.tree hino (by omega) (by omega)) ?_
        rintro dc dd ⟨V5, D5, x5, e5, a5, nn5, c5_, nd5, rfl, Z, j, t, u, ap, w, x⟩
        have de := Z.size
        rcases x with ⟨rfl, hsv⟩ | ⟨rfl, A5, rfl, hs5, hst5, hif5, hrep5⟩
        ·
         refine dT4 (dInt_i (dA9 (dSl_i (dInt_i ?_))))
         refine al_t (M + 9) fun cX eO bX aT aU df => ?_
         refine st9 aT rfl (by rfl) fun cY dg bI dh => ?_
         have aV := on_ch aT bI
         refine sB_f (by rfl) ?_
         intro _
         intros
         refine wr_t (by omega) ?_
         have bY := ((((((p.app X).app S).app E).app Z).app aU).app aV)
         refine ⟨⟨cY, rfl, _, rfl, ((Ch.refl [U, U + 3, U + 20, U + 21, U + 22, U + 23, U + 30, U + 32, M + 9] r).ch bY (by simp)), ?_⟩, ?_⟩
         ·
          have bZ := j.mv (aU.app aV) (rngn50 (by simp <;> omega))
          have hsn := hsv.n
          have hsn2 : (V.tk ((1 : Nat) : Int)).n = V.n + ((1 : Nat) : Int) := rfl
          exact ⟨kk + 1, V5, A, D, by omega, by omega, by omega, bZ, by (have h := hGC.same (k := 0) hsv (by omega)); rw [show ((0 : Nat) : Int) = 0 from rfl, tk_zero] at h; exact h⟩
         ·
          simp only []; omega
        ·
         refine dT4 (dInt_i (dA9 (dSl_i (dInt_i ?_))))
         refine al_t (M + 9) fun cX di bX aW aa dj => ?_
         refine st9 aW rfl (by rfl) fun dl b0 bJ dm => ?_
         have ab := on_ch aW bJ
         refine sB_t (by rfl) (nz_i ?_)
         have aX := ((Z.app aa).app ab)
         have b1 := Y.ch aX (by simp <;> omega)
         refine ld_t b1 rfl (dPtr_i ?_)
         have aA := L.ch aX (by simp <;> omega)
         refine ld_t aA rfl (ld_t aA rfl (ld_t aA rfl (ld9 b0 rfl ?_)))
         have hl5 := hst5.hds.len
         have hx5 := hst5.ext.last
         have hx6 := hst5.ext.n
         have hx7 : (V.tk ((1 : Nat) : Int)).n = V.n + ((1 : Nat) : Int) := rfl
         have hx8 : (V.tk ((1 : Nat) : Int)).P.last = V.P.last := rfl
         have hdk5 := dok_of hg (hGI.dk.stp hst5) hst5.tree
         have aB := j.mv (aa.app ab) (rngn50 (by simp <;> omega))
         have F := blk_inode hg hino (aB).ok (aB).pokk hl5
         have b2 := t.mv (aa.app ab) (tagn (by simp))
         refine tcall (c_iput e g U V5 f i d (n * d + i0) D5.m D5.l D5.z D5.d0 D5.d1 D5.d2 D5.d3 D5.e1 D5.e2 c5_ _ aB hU hg hl5 (by omega) hino (by omega) hdk5 (b2).sl u (by omega) w (by omega)) ?_
         rintro dn b3 ⟨V6, rfl, aY, o, y⟩
         have dp := aY.size
         have hx9 := (VExt.ch o).n
         have hput := o
         refine dT2 (dInt_i (dInt_i ?_))
         intro _
         intros
         refine wr_t (by omega) ?_
         have b4 := (((((((p.app X).app S).app E).app Z).app aa).app ab).app aY)
         refine ⟨⟨b3, rfl, _, rfl, ((Ch.refl [U, U + 3, U + 20, U + 21, U + 22, U + 23, U + 30, U + 32, M + 9] r).ch b4 (by simp)), ?_⟩, ?_⟩
         ·
          exact ⟨kk + 1, V6, A5, D5, by omega, by omega, by omega, y, hGC.up hg hino hst5 F hput (by omega)⟩
         ·
          simp only []; omega
       ·
        refine al_t (M + 9) fun eP eQ dq aZ G dr => ?_
        refine ⟨?_, ?_⟩
        ·
         have b5 := bG.ch G (by simp)
         refine ld9 b5 rfl ?_
         rfl
        ·
         refine ⟨?_, ?_⟩
         ·
          have aC := L.ch G (by simp)
          refine ld_t aC rfl (ld_t aC rfl (ld_t aC rfl ?_))
          rfl
         ·
          refine ⟨?_, ?_⟩
          ·
           have b6 := Y.ch G (by simp)
           refine ld_t b6 rfl (dPtr_i ?_)
           rfl
          ·
           obtain ⟨n0, hn0⟩ : ∃ n0 : Nat, az = n0 := ⟨az.toNat, by omega⟩
           subst hn0
           clear hn391 hn390
           have b7 := ((S.app E).app G)
           have b8 := hv1.mv b7 (rngn50 (by simp <;> omega))
           refine tcall (c_iGrow e g U (V.tk ((1 : Nat) : Int)) f i d (M + 30) (n * d + i0) n0 A D _ b8 hU hg (by show V.n + _ < _; omega) (by show V.P.last < _; omega) (hA.tk _) hGI.tree hino (by omega) (by omega)) ?_
           rintro ds dt ⟨V5, D5, x5, e5, a5, nn5, c5_, nd5, rfl, N, j, t, u, ap, w, x⟩
           have du := N.size
           rcases x with ⟨rfl, hsv⟩ | ⟨rfl, A5, rfl, hs5, hst5, hif5, hrep5⟩
           ·
            refine dT4 (dInt_i (dA9 (dSl_i (dInt_i ?_))))
            have a0 := aZ.ch N (by simp <;> omega)
            refine st9 a0 rfl (by rfl) fun cZ dv bK dw => ?_
            have a1 := on_ch a0 bK
            refine sB_f (by rfl) ?_
            intro _
            intros
            refine wr_t (by omega) ?_
            have b9 := ((((((p.app X).app S).app E).app G).app N).app a1)
            refine ⟨⟨cZ, rfl, _, rfl, ((Ch.refl [U, U + 3, U + 20, U + 21, U + 22, U + 23, U + 30, U + 32, M + 9] r).ch b9 (by simp)), ?_⟩, ?_⟩
            ·
             have ca := j.mv a1 (rngn50 (by simp <;> omega))
             have hsn := hsv.n
             have hsn2 : (V.tk ((1 : Nat) : Int)).n = V.n + ((1 : Nat) : Int) := rfl
             exact ⟨kk + 1, V5, A, D, by omega, by omega, by omega, ca, by (have h := hGC.same (k := 0) hsv (by omega)); rw [show ((0 : Nat) : Int) = 0 from rfl, tk_zero] at h; exact h⟩
            ·
             simp only []; omega
           ·
            refine dT4 (dInt_i (dA9 (dSl_i (dInt_i ?_))))
            have a2 := aZ.ch N (by simp <;> omega)
            refine st9 a2 rfl (by rfl) fun dx cb bL dy => ?_
            have ac := on_ch a2 bL
            refine sB_t (by rfl) (nz_i ?_)
            have a3 := ((G.app N).app ac)
            have cc := Y.ch a3 (by simp <;> omega)
            refine ld_t cc rfl (dPtr_i ?_)
            have aD := L.ch a3 (by simp <;> omega)
            refine ld_t aD rfl (ld_t aD rfl (ld_t aD rfl (ld9 cb rfl ?_)))
            have hl5 := hst5.hds.len
            have hx5 := hst5.ext.last
            have hx6 := hst5.ext.n
            have hx7 : (V.tk ((1 : Nat) : Int)).n = V.n + ((1 : Nat) : Int) := rfl
            have hx8 : (V.tk ((1 : Nat) : Int)).P.last = V.P.last := rfl
            have hdk5 := dok_of hg (hGI.dk.stp hst5) hst5.tree
            have aE := j.mv ac (rngn50 (by simp <;> omega))
            have F := blk_inode hg hino (aE).ok (aE).pokk hl5
            have cd := t.mv ac (tagn (by simp))
            refine tcall (c_iput e g U V5 f i d (n * d + i0) D5.m D5.l D5.z D5.d0 D5.d1 D5.d2 D5.d3 D5.e1 D5.e2 c5_ _ aE hU hg hl5 (by omega) hino (by omega) hdk5 (cd).sl u (by omega) w (by omega)) ?_
            rintro dz ce ⟨V6, rfl, a4, o, y⟩
            have dA := a4.size
            have hx9 := (VExt.ch o).n
            have hput := o
            refine dT2 (dInt_i (dInt_i ?_))
            intro _
            intros
            refine wr_t (by omega) ?_
            have cf := (((((((p.app X).app S).app E).app G).app N).app ac).app a4)
            refine ⟨⟨ce, rfl, _, rfl, ((Ch.refl [U, U + 3, U + 20, U + 21, U + 22, U + 23, U + 30, U + 32, M + 9] r).ch cf (by simp)), ?_⟩, ?_⟩
            ·
             exact ⟨kk + 1, V6, A5, D5, by omega, by omega, by omega, y, hGC.up hg hino hst5 F hput (by omega)⟩
            ·
             simp only []; omega
      ·
       refine al_t (M + 9) fun eR eS dB cg B dC => ?_
       refine ⟨?_, ?_⟩
       ·
        have aF := W.ch B (by simp)
        refine ld_t aF rfl (ld_t aF rfl (ld_t aF rfl ?_))
        rfl
       ·
        refine ⟨?_, ?_⟩
        ·
         have ci := ay.ch B (by simp)
         refine ld_t ci rfl (dPtr_i ?_)
         rfl
        ·
         have cj := hv.mv B (rngn50 (by simp))
         refine tcall (c_iget e g U V f i d (n * d + i0) D.m D.l D.z D.d0 D.d1 D.d2 D.d3 D.e1 D.e2 _ cj hU hg hl (by omega) hino hdk hGI.ino) ?_
         rintro dD ck ⟨rfl, H, K⟩
         have dE := H.size
         have hv1 : VolL ck e g U (V.tk ((1 : Nat) : Int)) 0 := K
         refine dT2 (dA9 (dInt_i ?_))
         have a6 := cg.ch H (by simp <;> omega)
         refine st9 a6 rfl (by rfl) fun eT a7 bM dF => ?_
         have I := on_ch a6 bM
         refine sB_f (by rfl) (nz_i ?_)
         have a8 := ((B.app H).app I)
         have ad := ay.ch a8 (by simp <;> omega)
         refine ld_t ad rfl (dPtr_i ?_)
         have O := W.ch a8 (by simp <;> omega)
         refine ld_t O rfl (ld_t O rfl (ld_t O rfl (ld9 a7 rfl ?_)))
         refine wr_a fun eU hn566 => ?_
         rw [wrap_u64] at hn566
         refine ask_t (by omega) ?_
         refine nm_a fun aG hn567 => ?_
         have qn567 := tmod_rng (by omega) (by omega) hn567
         refine wr_t (by omega) ?_
         refine ⟨?_, ?_⟩
         ·
          obtain ⟨n0, hn0⟩ : ∃ n0 : Nat, aG = n0 := ⟨aG.toNat, by omega⟩
          subst hn0
          clear hn567 hn566
          have cl := hv1.mv I (rngn50 (by simp <;> omega))
          refine tcall (c_iGrow e g U (V.tk ((1 : Nat) : Int)) f i d (M + 30) (n * d + i0) n0 A D _ cl hU hg (by show V.n + _ < _; omega) (by show V.P.last < _; omega) (hA.tk _) hGI.tree hino (by omega) (by omega)) ?_
          rintro dG dH ⟨V5, D5, x5, e5, a5, nn5, c5_, nd5, rfl, ae, j, t, u, ap, w, x⟩
          have dI := ae.size
          rcases x with ⟨rfl, hsv⟩ | ⟨rfl, A5, rfl, hs5, hst5, hif5, hrep5⟩
          ·
           refine dT4 (dInt_i (dA9 (dSl_i (dInt_i ?_))))
           refine al_t (M + 9) fun c0 eV cm a9 ba dJ => ?_
           refine st9 a9 rfl (by rfl) fun c1 dK bN dL => ?_
           have bb := on_ch a9 bN
           refine sB_f (by rfl) ?_
           intro _
           intros
           refine wr_t (by omega) ?_
           have cn := ((((((p.app B).app H).app I).app ae).app ba).app bb)
           refine ⟨⟨c1, rfl, _, rfl, ((Ch.refl [U, U + 3, U + 20, U + 21, U + 22, U + 23, U + 30, U + 32, M + 9] r).ch cn (by simp)), ?_⟩, ?_⟩
           ·
            have co := j.mv (ba.app bb) (rngn50 (by simp <;> omega))
            have hsn := hsv.n
            have hsn2 : (V.tk ((1 : Nat) : Int)).n = V.n + ((1 : Nat) : Int) := rfl
            exact ⟨kk + 1, V5, A, D, by omega, by omega, by omega, co, by (have h := hGC.same (k := 0) hsv (by omega)); rw [show ((0 : Nat) : Int) = 0 from rfl, tk_zero] at h; exact h⟩
           ·
            simp only []; omega
          ·
           refine dT4 (dInt_i (dA9 (dSl_i (dInt_i ?_))))
           refine al_t (M + 9) fun c0 dM cm bc af dN => ?_
           refine st9 bc rfl (by rfl) fun dO cp bO dP => ?_
           have ag := on_ch bc bO
           refine sB_t (by rfl) (nz_i ?_)
           have bd := ((ae.app af).app ag)
           have cq := ad.ch bd (by simp <;> omega)
           refine ld_t cq rfl (dPtr_i ?_)
           have aH := O.ch bd (by simp <;> omega)
           refine ld_t aH rfl (ld_t aH rfl (ld_t aH rfl (ld9 cp rfl ?_)))
           have hl5 := hst5.hds.len
           have hx5 := hst5.ext.last
           have hx6 := hst5.ext.n
           have hx7 : (V.tk ((1 : Nat) : Int)).n = V.n + ((1 : Nat) : Int) := rfl
           have hx8 : (V.tk ((1 : Nat) : Int)).P.last = V.P.last := rfl
           have hdk5 := dok_of hg (hGI.dk.stp hst5) hst5.tree
           have aI := j.mv (af.app ag) (rngn50 (by simp <;> omega))
           have F := blk_inode hg hino (aI).ok (aI).pokk hl5
           have cr := t.mv (af.app ag) (tagn (by simp))
           refine tcall (c_iput e g U V5 f i d (n * d + i0) D5.m D5.l D5.z D5.d0 D5.d1 D5.d2 D5.d3 D5.e1 D5.e2 c5_ _ aI hU hg hl5 (by omega) hino (by omega) hdk5 (cr).sl u (by omega) w (by omega)) ?_
           rintro dQ cs ⟨V6, rfl, be, o, y⟩
           have dR := be.size
           have hx9 := (VExt.ch o).n
           have hput := o
           refine dT2 (dInt_i (dInt_i ?_))
           intro _
           intros
           refine wr_t (by omega) ?_
           have ct := (((((((p.app B).app H).app I).app ae).app af).app ag).app be)
           refine ⟨⟨cs, rfl, _, rfl, ((Ch.refl [U, U + 3, U + 20, U + 21, U + 22, U + 23, U + 30, U + 32, M + 9] r).ch ct (by simp)), ?_⟩, ?_⟩
           ·
            exact ⟨kk + 1, V6, A5, D5, by omega, by omega, by omega, y, hGC.up hg hino hst5 F hput (by omega)⟩
           ·
            simp only []; omega
         ·
          refine al_t (M + 9) fun eW eX dS bf J dT => ?_
          refine ⟨?_, ?_⟩
          ·
           have cu := a7.ch J (by simp)
           refine ld9 cu rfl ?_
           rfl
          ·
           refine ⟨?_, ?_⟩
           ·
            have aJ := O.ch J (by simp)
            refine ld_t aJ rfl (ld_t aJ rfl (ld_t aJ rfl ?_))
            rfl
           ·
            refine ⟨?_, ?_⟩
            ·
             have cv := ad.ch J (by simp)
             refine ld_t cv rfl (dPtr_i ?_)
             rfl
            ·
             obtain ⟨n0, hn0⟩ : ∃ n0 : Nat, aG = n0 := ⟨aG.toNat, by omega⟩
             subst hn0
             clear hn567 hn566
             have cw := hv1.mv (I.app J) (rngn50 (by simp <;> omega))
             refine tcall (c_iGrow e g U (V.tk ((1 : Nat) : Int)) f i d (M + 30) (n * d + i0) n0 A D _ cw hU hg (by show V.n + _ < _; omega) (by show V.P.last < _; omega) (hA.tk _) hGI.tree hino (by omega) (by omega)) ?_
             rintro dU dV ⟨V5, D5, x5, e5, a5, nn5, c5_, nd5, rfl, Q, j, t, u, ap, w, x⟩
             have dW := Q.size
             rcases x with ⟨rfl, hsv⟩ | ⟨rfl, A5, rfl, hs5, hst5, hif5, hrep5⟩
             ·
              refine dT4 (dInt_i (dA9 (dSl_i (dInt_i ?_))))
              have bg := bf.ch Q (by simp <;> omega)
              refine st9 bg rfl (by rfl) fun c2 dX bP dY => ?_
              have bh := on_ch bg bP
              refine sB_f (by rfl) ?_
              intro _
              intros
              refine wr_t (by omega) ?_
              have cx := ((((((p.app B).app H).app I).app J).app Q).app bh)
              refine ⟨⟨c2, rfl, _, rfl, ((Ch.refl [U, U + 3, U + 20, U + 21, U + 22, U + 23, U + 30, U + 32, M + 9] r).ch cx (by simp)), ?_⟩, ?_⟩
              ·
               have cy := j.mv bh (rngn50 (by simp <;> omega))
               have hsn := hsv.n
               have hsn2 : (V.tk ((1 : Nat) : Int)).n = V.n + ((1 : Nat) : Int) := rfl
               exact ⟨kk + 1, V5, A, D, by omega, by omega, by omega, cy, by (have h := hGC.same (k := 0) hsv (by omega)); rw [show ((0 : Nat) : Int) = 0 from rfl, tk_zero] at h; exact h⟩
              ·
               simp only []; omega
             ·
              refine dT4 (dInt_i (dA9 (dSl_i (dInt_i ?_))))
              have bi := bf.ch Q (by simp <;> omega)
              refine st9 bi rfl (by rfl) fun dZ cz bQ d4 => ?_
              have ah := on_ch bi bQ
              refine sB_t (by rfl) (nz_i ?_)
              have bj := ((J.app Q).app ah)
              have cA := ad.ch bj (by simp <;> omega)
              refine ld_t cA rfl (dPtr_i ?_)
              have aK := O.ch bj (by simp <;> omega)
              refine ld_t aK rfl (ld_t aK rfl (ld_t aK rfl (ld9 cz rfl ?_)))
              have hl5 := hst5.hds.len
              have hx5 := hst5.ext.last
              have hx6 := hst5.ext.n
              have hx7 : (V.tk ((1 : Nat) : Int)).n = V.n + ((1 : Nat) : Int) := rfl
              have hx8 : (V.tk ((1 : Nat) : Int)).P.last = V.P.last := rfl
              have hdk5 := dok_of hg (hGI.dk.stp hst5) hst5.tree
              have aL := j.mv ah (rngn50 (by simp <;> omega))
              have F := blk_inode hg hino (aL).ok (aL).pokk hl5
              have cB := t.mv ah (tagn (by simp))
              refine tcall (c_iput e g U V5 f i d (n * d + i0) D5.m D5.l D5.z D5.d0 D5.d1 D5.d2 D5.d3 D5.e1 D5.e2 c5_ _ aL hU hg hl5 (by omega) hino (by omega) hdk5 (cB).sl u (by omega) w (by omega)) ?_
              rintro d5 cC ⟨V6, rfl, bk, o, y⟩
              have d6 := bk.size
              have hx9 := (VExt.ch o).n
              have hput := o
              refine dT2 (dInt_i (dInt_i ?_))
              intro _
              intros
              refine wr_t (by omega) ?_
              have cD := (((((((p.app B).app H).app I).app J).app Q).app ah).app bk)
              refine ⟨⟨cC, rfl, _, rfl, ((Ch.refl [U, U + 3, U + 20, U + 21, U + 22, U + 23, U + 30, U + 32, M + 9] r).ch cD (by simp)), ?_⟩, ?_⟩
              ·
               exact ⟨kk + 1, V6, A5, D5, by omega, by omega, by omega, y, hGC.up hg hino hst5 F hput (by omega)⟩
              ·
               simp only []; omega
    ·
     refine hK_81 _ ⟨((Ch.refl [U, U + 3, U + 20, U + 21, U + 22, U + 23, U + 30, U + 32, M + 9] r).ch p (by simp)), ?_⟩
     exact ⟨kk, V, A, D, by omega, hv, hGC⟩
end Go.Proofs.YtklppdodadkcnaaGreat.E
namespace Go.Proofs.YtklppdodadkcnaaGreat.E
open Go Go.WideShapes
set_option linter.unusedVariables false
def Rd {H : Type} (enc : TypeId × Value → H) (P : Program) (W : World) (t : TypeId) (row : List Value) : Prop := ∃ fuel y, DataW.trod enc P W 0 (fun _ => true) true fuel t row = some y
section
variable {H : Type} {enc : TypeId × Value → H} {P : Program} {W : World} {t e : TypeId} {row : List Value}
theorem rd_int {k : IntKind} (ht : P.underlying t = some (.int k)) (h : Rd enc P W t row) : ∃ x, row = [.int k x] ∧ (Lit.int k x).wf = true := by
 obtain ⟨f, y, h⟩ := h
 obtain ⟨n, h1, _, h2⟩ := DataW.trod_int ht h
 exact ⟨n, h1, h2⟩
theorem flat_get {k : Nat} : ∀ {rows : List (List Value)}, (∀ r ∈ rows, r.length = k) → ∀ {j : Nat} {v : Value}, rows.flatten[j]? = some v → ∃ i m r, j = i * k + m ∧ m < k ∧ rows[i]? = some r ∧ r[m]? = some v
 | [], _, j, v, h => by simp at h
 | r :: rows, hk, j, v, h => by
  rw [List.flatten_cons] at h
  have hr := hk r (by simp)
  by_cases hj : j < k
  ·rw [List.getElem?_append_left (by omega)] at h
   exact ⟨0, j, r, by omega, hj, by simp, h⟩
  ·rw [List.getElem?_append_right (by omega)] at h
   obtain ⟨i, m, r', h1, h2, h3, h4⟩ := flat_get (fun r' h' => hk r' (List.mem_cons_of_mem _ h')) h
   exact ⟨i + 1, m, r', by rw [Nat.add_mul, Nat.one_mul]; omega, h2, by simpa using h3, h4⟩
theorem sl_rows {a : Addr} {k : Nat} {rows : List (List Value)} (hk : ∀ r ∈ rows, r.length = k) (h : ∀ i r, rows[i]? = some r → ∀ m, m < k → W.cell? ((a.add (i * k)).add m) = r[m]?) : Sl ⟨W.heap, fun _ => 0⟩ (some a) rows.flatten 0 := by
 by_cases he : rows.flatten = []
 ·exact .inl he
 right
 have h0 : ∃ v, W.cell? a = some v := by
  obtain ⟨v, hv⟩ : ∃ v, rows.flatten[0]? = some v := by
   cases hf : rows.flatten with
   | nil => exact absurd hf he
   | cons v l => exact ⟨v, by simp⟩
  obtain ⟨i, m, r, h1, h2, h3, h4⟩ := flat_get hk hv
  obtain rfl : m = 0 := by omega
  have hi : i * k = 0 := by omega
  have := h i r h3 0 h2
  rw [hi] at this
  refine ⟨v, ?_⟩
  rw [← h4, ← this]
  simp [Addr.add]
 obtain ⟨v0, hv0⟩ := h0
 obtain ⟨g, o, sp⟩ := a
 have hsp : sp = none := by
  cases sp with
  | none => rfl
  | some x =>
   rw [cell_eq] at hv0
   unfold cellH at hv0
   split at hv0 <;> simp at hv0
 subst hsp
 have hlt : g < W.heap.size := by
  rw [cell_eq] at hv0
  unfold cellH at hv0
  split at hv0
  ·rename_i hg; exact (Array.getElem?_eq_some_iff.1 hg).1
  ·cases hv0
 refine ⟨g, o, rfl, hlt, rfl, fun j v hv => ?_⟩
 obtain ⟨i, m, r, h1, h2, h3, h4⟩ := flat_get hk hv
 have := h i r h3 m h2
 rw [add_mk, add_mk, h4, cell_eq] at this
 rw [h1, ← Nat.add_assoc]; exact this
theorem rd_sl (ht : P.underlying t = some (.slice e)) (h : Rd enc P W t row) : ∃ (a : Option Addr) (n c : Nat) (rows : List (List Value)), row = [.slice a n c] ∧ n ≤ c ∧ c ≤ maxLen ∧ (a = none → n = 0) ∧ rows.length = n ∧ (∀ r ∈ rows, r.length = P.cellsOf e ∧ Rd enc P W e r) ∧ Sl ⟨W.heap, fun _ => 0⟩ a rows.flatten 0 := by
 obtain ⟨f, y, h⟩ := h
 rcases DataW.trod_slice ht h with ⟨h0, _⟩ | ⟨a, len, cap, elems, rest, n, rfl, rfl, rfl, hb, hl, hm, hlen, hel, _⟩
 ·exact ⟨none, 0, 0, [], h0, by omega, by omega, fun _ => rfl, rfl, fun r hr => (List.not_mem_nil hr).elim, .inl rfl⟩
 ·have hrow : ∀ i, i < len → ∃ r, W.cells? 0 (a.add (i * P.cellsOf e)) (P.cellsOf e) = some r ∧ Rd enc P W e r := fun i hi => by
   have h1 := hel i hi
   rw [List.getElem?_eq_getElem (by omega)] at h1
   obtain ⟨r, h2, h3⟩ := Option.bind_eq_some_iff.1 h1
   exact ⟨r, h2, n, _, h3⟩
  let rows := (List.range len).map fun i => (W.cells? 0 (a.add (i * P.cellsOf e)) (P.cellsOf e)).getD []
  have hget : ∀ i r, rows[i]? = some r → W.cells? 0 (a.add (i * P.cellsOf e)) (P.cellsOf e) = some r ∧ Rd enc P W e r := fun i r hr => by
   have hi : i < len := by
    have := (List.getElem?_eq_some_iff.1 hr).1
    simpa [rows] using this
   obtain ⟨r', h1, h2⟩ := hrow i hi
   simp [rows, hi, h1] at hr
   subst hr; exact ⟨h1, h2⟩
  have hmem : ∀ r ∈ rows, r.length = P.cellsOf e ∧ Rd enc P W e r := fun r hr => by
   obtain ⟨i, hi⟩ := List.getElem?_of_mem hr
   obtain ⟨h1, h2⟩ := hget i r hi
   exact ⟨(World.cells?_some h1).2.1, h2⟩
  exact ⟨some a, len, cap, rows, rfl, hl, hm, (fun h => by cases h), by simp [rows], hmem, sl_rows (fun r hr => (hmem r hr).1) fun i r hr m hm => (World.cells?_some (hget i r hr).1).2.2 m hm⟩
theorem rd_ints (ht : P.underlying t = some (.slice e)) (he : P.underlying e = some (.int .i64)) (h : Rd enc P W t row) : ∃ (a : Option Addr) (n c : Nat) (ls : List Int), row = [.slice a n c] ∧ n ≤ c ∧ c ≤ maxLen ∧ (a = none → n = 0) ∧ ls.length = n ∧ Sl ⟨W.heap, fun _ => 0⟩ a (ivs ls) 0 ∧ ∀ x ∈ ls, (Lit.int .i64 x).wf = true := by
 obtain ⟨a, n, c, rows, h1, h2, h3, h4, h5, h6, h7⟩ := rd_sl ht h
 have hx : ∀ l : List (List Value), (∀ r ∈ l, r.length = P.cellsOf e ∧ Rd enc P W e r) → ∃ ls : List Int, ls.length = l.length ∧ l.flatten = ivs ls ∧ ∀ x ∈ ls, (Lit.int .i64 x).wf = true := by
  intro l
  induction l with
  | nil => intro _; exact ⟨[], rfl, rfl, fun x hx => (List.not_mem_nil hx).elim⟩
  | cons r l ih =>
   intro hr
   obtain ⟨ls, k1, k2, k3⟩ := ih fun r' h' => hr r' (List.mem_cons_of_mem _ h')
   obtain ⟨x, rfl, hw⟩ := rd_int he (hr r (by simp)).2
   refine ⟨x :: ls, by simp [k1], by simp [k2, ivs], fun y hy => ?_⟩
   rcases List.mem_cons.1 hy with rfl | hy
   ·exact hw
   ·exact k3 y hy
 obtain ⟨ls, k1, k2, k3⟩ := hx rows h6
 exact ⟨a, n, c, ls, h1, h2, h3, h4, by omega, by rw [← k2]; exact h7, k3⟩
theorem open_v {v : Value} {a : Option Addr} {n c : Nat} {r : Reach} {b0 : Nat} (ht : P.underlying t = some (.slice e)) (hval : Value.okWide P W r b0 t v) (h : v.cells.toList = [.slice a n c]) : v = .slice a n c := by
 obtain ⟨a', n', c', rfl⟩ := okWide_slice ht hval
 simp [Value.cells] at h
 obtain ⟨rfl, rfl, rfl⟩ := h; rfl
end
end Go.Proofs.YtklppdodadkcnaaGreat.E
namespace Go.Proofs.YtklppdodadkcnaaGreat.E
open Go Go.WideShapes Go.ChangeShapes
set_option linter.unusedVariables false
section
variable {H : Type} {enc : TypeId × Value → H} {P : Program} {W : World} {t e : TypeId} {row : List Value}
theorem weightsEach_get {B : Nat} : ∀ {ts : List TypeId} {ds : List (DataW H)} {i : Nat} {t : TypeId} {d : DataW H}, ts[i]? = some t → ds[i]? = some d → (∀ x ∈ DataW.weightsEach P ts ds, x ≤ B) → ∀ x ∈ d.weights P t, x ≤ B
 | [], _, i, t, d, h1, _, _ => by simp at h1
 | t0 :: ts, [], i, t, d, _, h2, _ => by simp at h2
 | t0 :: ts, d0 :: ds, 0, t, d, h1, h2, h => by
  simp at h1 h2; subst h1 h2
  intro x hx; exact h x (by unfold DataW.weightsEach; exact List.mem_append_left _ hx)
 | t0 :: ts, d0 :: ds, i + 1, t, d, h1, h2, h => by
  simp at h1 h2
  exact weightsEach_get h1 h2 fun x hx => h x (by unfold DataW.weightsEach; exact List.mem_append_right _ hx)
theorem weightsAll_mem {B : Nat} : ∀ {ds : List (DataW H)} {d : DataW H}, d ∈ ds → (∀ x ∈ DataW.weightsAll P e ds, x ≤ B) → ∀ x ∈ d.weights P e, x ≤ B
 | d0 :: ds, d, hd, h => by
  rcases List.mem_cons.1 hd with rfl | hd
  ·intro x hx; exact h x (by unfold DataW.weightsAll; exact List.mem_append_left _ hx)
  ·exact weightsAll_mem hd fun x hx => h x (by unfold DataW.weightsAll; exact List.mem_append_right _ hx)
theorem weights_all {ts : List TypeId} {ds : List (DataW H)} (h : (DataW.weightsEach P ts ds).all (· ≤ reachBytes) = true) : ∀ x ∈ DataW.weightsEach P ts ds, x ≤ reachBytes := fun x hx => by
 have := List.all_eq_true.1 h x hx; simpa using this
def Rdw {H : Type} (enc : TypeId × Value → H) (P : Program) (W : World) (t : TypeId) (row : List Value) : Prop := ∃ fuel y, DataW.trod enc P W 0 (fun _ => true) true fuel t row = some y ∧ ∀ x ∈ y.1.weights P t, x ≤ reachBytes
theorem Rdw.rd (h : Rdw enc P W t row) : Rd enc P W t row := by obtain ⟨f, y, h, _⟩ := h; exact ⟨f, y, h⟩
theorem rdw_of {v : Value} {d : DataW H} {ps : List MemPlace} (h : DataW.Trod enc P W 0 (fun _ => true) true t v d ps) (hw : ∀ x ∈ d.weights P t, x ≤ reachBytes) : Rdw enc P W t v.cells.toList := by
 obtain ⟨f, h⟩ := h; exact ⟨f, _, h, hw⟩
theorem rdw_sl (ht : P.underlying t = some (.slice e)) (h : Rdw enc P W t row) : ∃ (a : Option Addr) (n c : Nat) (rows : List (List Value)), row = [.slice a n c] ∧ n ≤ c ∧ n * P.bytesOf e ≤ reachBytes ∧ (a = none → n = 0) ∧ rows.length = n ∧ (∀ r ∈ rows, r.length = P.cellsOf e ∧ Rdw enc P W e r) ∧ Sl ⟨W.heap, fun _ => 0⟩ a rows.flatten 0 := by
 obtain ⟨f, y, h, hw⟩ := h
 rcases DataW.trod_slice ht h with ⟨h0, _⟩ | ⟨a, len, cap, elems, rest, n, rfl, rfl, rfl, hb, hl, hm, hlen, hel, _⟩
 ·exact ⟨none, 0, 0, [], h0, by omega, by simp, fun _ => rfl, rfl, fun r hr => (List.not_mem_nil hr).elim, .inl rfl⟩
 ·unfold DataW.weights at hw
  rw [ht] at hw
  simp only [List.length_map] at hw
  have hbig : len * P.bytesOf e ≤ reachBytes := by
   have h1 := hw ((elems.length + rest.length) * P.bytesOf e) (by simp)
   have h2 : len * P.bytesOf e ≤ (elems.length + rest.length) * P.bytesOf e := Nat.mul_le_mul_right _ (by omega)
   omega
  have hrow : ∀ i, i < len → ∃ r, W.cells? 0 (a.add (i * P.cellsOf e)) (P.cellsOf e) = some r ∧ Rdw enc P W e r := fun i hi => by
   have h1 := hel i hi
   rw [List.getElem?_eq_getElem (by omega)] at h1
   obtain ⟨r, h2, h3⟩ := Option.bind_eq_some_iff.1 h1
   refine ⟨r, h2, n, _, h3, weightsAll_mem (ds := elems.map (·.1)) (List.mem_map.2 ⟨_, List.getElem_mem _, rfl⟩) fun x hx => hw x ?_⟩
   exact List.mem_cons_of_mem _ (List.mem_append_left _ hx)
  let rows := (List.range len).map fun i => (W.cells? 0 (a.add (i * P.cellsOf e)) (P.cellsOf e)).getD []
  have hget : ∀ i r, rows[i]? = some r → W.cells? 0 (a.add (i * P.cellsOf e)) (P.cellsOf e) = some r ∧ Rdw enc P W e r := fun i r hr => by
   have hi : i < len := by
    have := (List.getElem?_eq_some_iff.1 hr).1
    simpa [rows] using this
   obtain ⟨r', h1, h2⟩ := hrow i hi
   simp [rows, hi, h1] at hr
   subst hr; exact ⟨h1, h2⟩
  have hmem : ∀ r ∈ rows, r.length = P.cellsOf e ∧ Rdw enc P W e r := fun r hr => by
   obtain ⟨i, hi⟩ := List.getElem?_of_mem hr
   obtain ⟨h1, h2⟩ := hget i r hi
   exact ⟨(World.cells?_some h1).2.1, h2⟩
  exact ⟨some a, len, cap, rows, rfl, hl, hbig, (fun h => by cases h), by simp [rows], hmem, sl_rows (fun r hr => (hmem r hr).1) fun i r hr m hm => (World.cells?_some (hget i r hr).1).2.2 m hm⟩
theorem rdw_ints (ht : P.underlying t = some (.slice e)) (he : P.underlying e = some (.int .i64)) (h8 : P.bytesOf e = 8) (h : Rdw enc P W t row) : ∃ (a : Option Addr) (n c : Nat) (ls : List Int), row = [.slice a n c] ∧ n ≤ c ∧ n ≤ 17592186043904 ∧ (a = none → n = 0) ∧ ls.length = n ∧ Sl ⟨W.heap, fun _ => 0⟩ a (ivs ls) 0 := by
 obtain ⟨a, n, c, ls, h1, h2, _, h3, h4, h5, _⟩ := rd_ints ht he h.rd
 obtain ⟨a', n', c', _, g1, _, g3, _⟩ := rdw_sl ht h
 rw [h1] at g1
 cases g1
 rw [h8] at g3
 unfold reachBytes at g3
 exact ⟨a, n, c, ls, h1, h2, by omega, h3, h4, h5⟩
end
theorem rih_sized {H : Type} {enc : TypeId × Value → H} {a : Assume} {C : Checked} {os : Os} {f : FuncId} {fn : Func} {s : ChangeSpec} {conds : List PathCond} {apart fresh handsOn again : Bool}
  (own : ownKnob C.prog.godebug = none) (started : os.Started) (noInit : C.prog.inits.idxOf? f = none) (hfn : C.prog.funcs[f]? = some fn)
  (witness : ∃ (w : World) (tape : Tape) (i : Input), w.os = os ∧ (w.forCall tape i).Shaped C.prog ∧ i.vars = [] ∧ Input.okWide C.prog (w.forCall tape i) .any w.heap.size f i ∧
   s.pre6 enc C.prog fn conds apart (w.forCall tape i).memory i.args ∧ a.holds C.prog (lone (Frame.enter C.prog f i.args .normal) [] (w.forCall tape i)))
  (contract : ∀ (W : World) (base : Nat) (args : Array Value) (ds gs : List (DataW H)) (before : List MemPlace),
   (∀ (j : Nat) t v, fn.params[j]? = some t → args[j]? = some v → Value.okWide C.prog W .any base t v) →
   DataW.Whole enc C.prog fn.params.toList s.vars apart W args.toList ds gs before →
   (DataW.weightsEach C.prog (fn.params.toList ++ s.plain.varTypes C.prog) (ds ++ gs)).all (· ≤ reachBytes) = true →
   Calls C.prog f args W fun e W' => ∃ v, e = .returned v ∧ s.post enc C.prog fn apart fresh handsOn again W args v W') :
  ReturnsInHanded a C os f .any (s.pre6 enc C.prog fn conds apart) (s.post enc C.prog fn apart fresh handsOn again) := by
 refine returnsInHanded_of_calls own started noInit witness ?_
 intro w tape i _ _ _ hok hpre _
 obtain ⟨_, _, _, fn', hfn', _, _, _, _, hval⟩ := hok
 have e : fn' = fn := Option.some.inj (hfn'.symm.trans hfn)
 subst e
 obtain ⟨⟨ds, gs, before, hw, _⟩, hz⟩ := hpre
 have hw' := DataW.Whole.of_heap (w' := w.forCall tape i) (by rfl) hw
 refine (contract (w.forCall tape i) w.heap.size i.args ds gs before hval hw' (hz.weights hw)).mono fun e W' ⟨v, he, hp⟩ => ?_
 subst he
 exact ChangeSpec.post_blind hp
end Go.Proofs.YtklppdodadkcnaaGreat.E
namespace Go.Proofs.YtklppdodadkcnaaGreat.E
open Go Go.RowKit
set_option linter.unusedVariables false
theorem walkB {P : Program} {f : FuncId} {args : Array Value} {W : World}
  (h : TRet P f args ⟨W.heap, fun _ => 0⟩ fun v s' => v = .bool true ∧ Ch [] ⟨W.heap, fun _ => 0⟩ s') :
  Calls P f args W fun e W' => e = .returned (.bool true) ∧ Below W.heap.size W W' :=
 (h W rfl).mono fun e w' ⟨⟨v, s', he, hs, hv, hc⟩, hl⟩ =>
  ⟨by rw [he, hv], ⟨hl.os, hl.tape, hl.output, by rw [← hs]; exact hc.size, fun k hk => by rw [← hs]; exact hc.get k hk (by simp)⟩⟩
theorem walkT {P : Program} {f : FuncId} {args : Array Value} {W : World} {T : List Nat} (hT : 0 ∉ T)
  (h : TRet P f args ⟨W.heap, fun _ => 0⟩ fun v s' => v = .bool true ∧ Ch T ⟨W.heap, fun _ => 0⟩ s') :
  Calls P f args W fun e W' => e = .returned (.bool true) ∧ Below W.heap.size W W' :=
 walkB (h.mono fun v s' ⟨h1, h2⟩ => ⟨h1, Chg.mono h2 fun j _ hB => absurd hB hT⟩)
end Go.Proofs.YtklppdodadkcnaaGreat.E
namespace Go.Proofs.YtklppdodadkcnaaGreat.E
open Go
def kindsOf (P : Program) (fn : Func) (c : OpenClaim) : List (Option IntKind) := if c.domain.isEmpty then [] else fn.params.toList.map fun t => match P.underlying t with | some (.int k) => some k | _ => none
theorem andb {a b : Bool} (h : a = true) (k : b = true) : (a && b) = true := by rw [h, k]; rfl
theorem joined_of {P : Program} {f : FuncId} {fn : Func} {s : ChangeSpec} {c : OpenClaim}
  (j0 : (c.wf (OpenSpec.ofChange s)) = true)
  (j1 : (laidOutB P) = true)
  (j2 : (mapsRowed P) = true)
  (j3 : (fn.params.all (P.readableRec ·)) = true)
  (j4 : (namedTie P c.named s.vars) = true)
  (j5 : ((c.stops == [])) = true)
  (j6 : ((P.stops == [])) = true)
  (j7 : ((c.knobs == [])) = true)
  (j8 : ((P.stopKnobs == [])) = true)
  (j9 : ((c.inPlace == P.inPlace f)) = true)
  (j10 : ((c.unfollowed == P.unfollowed f)) = true)
  (j11 : ((c.recurses == P.recurses f)) = true)
  (j12 : ((c.named == P.varsNamed f)) = true)
  (j13 : ((c.maps == (fn.params.toList ++ s.plain.varTypes P).any (P.mapsRec ·))) = true)
  (j14 : ((c.ifaces == (fn.params.toList ++ s.plain.varTypes P).any (P.ifacesRec ·))) = true)
  (j15 : ((c.mapsOut == P.mapsAmong fn.resultTypes.toList)) = true)
  (j16 : ((c.loops == (fn.params.toList ++ s.plain.varTypes P).any (P.loopsFrom ·))) = true)
  (j17 : ((c.wideKeys == (fn.params.toList ++ s.plain.varTypes P ++ fn.resultTypes.toList).any (P.wideKeysFrom ·))) = true)
  (j18 : (s.vars.all (P.varReadable ·)) = true)
  (j19 : (fn.resultTypes.all (fun t => P.readableRec t && decide (t < P.types.size))) = true)
  (j20 : ((c.ifacesOut == fn.resultTypes.toList.any (P.ifacesRec ·))) = true)
  (j21 : ((c.loopsOut == fn.resultTypes.toList.any (P.loopsFrom ·))) = true)
  (j22 : ((c.plainKeys == P.plainKeys)) = true)
  (j23 : (c.shortTexts.isNone) = true)
  (j24 : (P.stopsHeard) = true)
  (j25 : (P.mayEnter) = true)
  (j26 : ((c.lifted == P.liftsFinal)) = true)
  (j27 : ((P.make == some c.make)) = true)
  (j28 : ((c.kinds == kindsOf P fn c)) = true)
  (j29 : ((c.pinned == c.pinnedBy)) = true)
  (j30 : ((c.veiled == (fn.params.toList ++ s.plain.varTypes P ++ fn.resultTypes.toList).any (P.veiledRec ·))) = true)
  (j31 : (c.veiledFits P fn.params.toList (fn.params.toList ++ s.plain.varTypes P ++ fn.resultTypes.toList)) = true)
  : joinedFacts P f fn s c = true := by
 unfold joinedFacts
 exact (andb (andb (andb (andb (andb (andb (andb (andb (andb (andb (andb (andb (andb (andb (andb (andb (andb (andb (andb (andb (andb (andb (andb (andb (andb (andb (andb (andb (andb (andb (andb j0 j1) j2) j3) j4) j5) j6) j7) j8) j9) j10) j11) j12) j13) j14) j15) j16) j17) j18) j19) j20) j21) j22) j23) j24) j25) j26) j27) j28) j29) j30) j31)
end Go.Proofs.YtklppdodadkcnaaGreat.E
namespace Go.Proofs.YtklppdodadkcnaaGreat.E
open Go Go.Proofs Go.RowKit Go.Maps Go.Shelf Go.Sort
set_option linter.unusedVariables false
set_option linter.unusedSimpArgs false
theorem w_inobody (U : Nat) (a b c n k : Int) (s : TH) (hU : 10 ≤ U) : TRet Tryz.prog 6 #[.agg #[.int .i64 a, .int .i64 b, .int .i64 c], .int .i64 n, .int .i64 k] s fun v s' => v = .bool true ∧ Ch [U, U + 3, U + 11, U + 20, U + 21, U + 22, U + 23, U + 30, U + 32] s s' := by
 obtain ⟨M, hM, hM0, hMa, hMb, hMc, hMd, hMe, hMf⟩ := fresh6 s (U + 60) 0 0 0 0 0
 refine F6_calls _ _ _ _ _  ?_
 unfold F6
 refine al_t (M + 1) fun r1 s2 a9 aj ak ba => ?_
 refine al_t (M + 2) fun r3 s4 bb al X bc => ?_
 refine al_t (M + 3) fun r5 s6 bd am D be => ?_
 refine ⟨fun vs H' => ∃ s' : TH, s'.h = H' ∧ ∃ i, vs = [.int .i64 i] ∧ Ch [M + 9] s6 s' ∧ (∃ kk : Nat, i = kk ∧ kk ≤ 2), fun vs H' => match vs with | [.int .i64 i] => (2 - i).toNat | _ => 0, ⟨s6, rfl, _, rfl, Ch.refl _ _, ?_⟩, ?_⟩
 ·
  exact ⟨0, rfl, by omega⟩
 ·
  intro i _ _ _ _ _ _ _ _ _ _ _ _ _ _ _ _ _ _ _ _ _ _ _ _ _ _ _ _ _ _ _ _ _ _ _ _ _ _ _ _ _ _ _ _ _ _ _ _ _ _ _ _ _ _ _ _ _ _ _ _ _ _ _ _ _ _ _ _ _ _ _ _ _ _ _ _ _ _ _ _ _ _ _ _ H_ hI_11
  obtain ⟨Y, rfl, i_, hvs, d, kk, rfl, hk⟩ := hI_11
  cases hvs
  have ar := d.size
  refine sB_d (fun Z => ?_) (fun Z => ?_)
  ·
   refine ask_t (by omega) ?_
   have E := am.ch d (by simp)
   have F := al.ch (D.app d) (by simp)
   obtain ⟨p, hp, hno⟩ : ∃ p, ([.pointer none, .pointer (some ⟨r3, 0, none⟩)] : List Value)[kk]? = some (.pointer p) ∧ NoV Y p (M + 2) := by rcases (by omega : kk = 0 ∨ kk = 1) with rfl | rfl <;> first | exact ⟨none, rfl, ⟨.inl rfl⟩⟩ | exact ⟨_, rfl, ⟨.inr ⟨r3, rfl, F⟩⟩⟩
   refine ld_sl (E).sl (by rw [Int.toNat_natCast, Nat.mul_one]; exact hp) ?_
   refine dPtr_i ?_
   have aa := ((X.app D).app d)
   have m := aj.ch aa (by simp)
   refine ld_t m rfl (ld_t m rfl (ld_t m rfl ?_))
   refine tcall (o_iGet a b c n p (M + 2) hno) ?_
   rintro au av ⟨rfl, w⟩
   have aw := w.size
   refine dT2 (dA9 (dInt_i ?_))
   refine al_t (M + 9) fun ax ay an G H az => ?_
   refine st9 G rfl (by rfl) fun aA aB V aC => ?_
   have I := on_ch G V
   have x := ((w.app H).app I)
   have o := m.ch x (by simp)
   refine ld_t o rfl (ld_t o rfl (ld_t o rfl ?_))
   have J := hno.mv x (tagn (by simp))
   refine tcall (o_iPut a b c n p (M + 2) J) ?_
   rintro aD aE ⟨rfl, e⟩
   have aF := e.size
   refine dT2 (dInt_i (dInt_i ?_))
   have q := o.ch e (by simp)
   refine ld_t q rfl (ld_t q rfl (ld_t q rfl ?_))
   have K := J.mv e (tagn (by simp))
   refine tcall (o_iAddr a b c k p (M + 2) K) ?_
   rintro aG aH ⟨rfl, f⟩
   have aI := f.size
   refine dT2 (dInt_i (dInt_i ?_))
   have r := q.ch f (by simp)
   refine ld_t r rfl (ld_t r rfl (ld_t r rfl ?_))
   have L := K.mv f (tagn (by simp))
   refine tcall (o_iSpan a b c p (M + 2) L) ?_
   rintro aJ aK ⟨rfl, g⟩
   have aL := g.size
   refine dT2 (dSl_i (dInt_i ?_))
   have t := r.ch g (by simp)
   refine ld_t t rfl (ld_t t rfl (ld_t t rfl ?_))
   have N := L.mv g (tagn (by simp))
   refine tcall (o_iGrow a b c n k p (M + 2) N) ?_
   rintro aM aN ⟨rfl, u⟩
   have aO := u.size
   refine dT4 (dInt_i (dA9 (dSl_i (dInt_i ?_))))
   refine al_t (M + 9) fun aP aQ ao O y aR => ?_
   refine st9 O rfl (by rfl) fun aS aT W aU => ?_
   have z := on_ch O W
   have P := ((u.app y).app z)
   have A := t.ch P (by simp)
   refine ld_t A rfl (ld_t A rfl (ld_t A rfl ?_))
   have ab := N.mv P (tagn (by simp))
   refine tcall (o_iClear a b c n p (M + 2) ab) ?_
   rintro aV aW ⟨rfl, B⟩
   have aX := B.size
   refine dT2 (dInt_i (dInt_i ?_))
   refine al_t (M + 9) fun aY C ap ac Q aZ => ?_
   refine ⟨fun vs H' => ∃ s' : TH, s'.h = H' ∧ ∃ j, vs = [.int .i64 j] ∧ Ch [] C s' ∧ (∃ kj : Nat, j = kj ∧ kj ≤ 6), fun vs H' => match vs with | [.int .i64 j] => (6 - j).toNat | _ => 0, ⟨C, rfl, _, rfl, Ch.refl _ _, ?_⟩, ?_⟩
   ·
    exact ⟨0, rfl, by omega⟩
   ·
    intro j _ _ _ _ _ _ _ _ H_ hI_76
    obtain ⟨R, rfl, j_, hvs, l, kj, rfl, hkj⟩ := hI_76
    cases hvs
    have a0 := l.size
    refine sB_d (fun ad => ?_) (fun ad => ?_)
    ·
     refine ask_t (by omega) ?_
     have ae := ac.ch l (by simp)
     have S := (((((((((x.app e).app f).app g).app u).app y).app z).app B).app Q).app l)
     have a1 := F.ch S (by simp)
     have a2 := E.ch S (by simp)
     refine ld_sl (v := .int .i64 2) (ae).sl (by rw [Int.toNat_natCast, Nat.mul_one]; rcases (by omega : kj = 0 ∨ kj = 1 ∨ kj = 2 ∨ kj = 3 ∨ kj = 4 ∨ kj = 5) with rfl | rfl | rfl | rfl | rfl | rfl <;> rfl) ?_
     refine dInt_i (sB_f (by rfl) (wr_t (by omega) ?_))
     refine ⟨⟨R, rfl, _, rfl, ((Ch.refl [] C).ch l (by simp)), ?_⟩, ?_⟩
     ·
      exact ⟨kj + 1, by omega, by omega⟩
     ·
      simp only []; omega
    ·
     refine wr_t (by omega) ?_
     have af := ((((((((((((d.app w).app H).app I).app e).app f).app g).app u).app y).app z).app B).app Q).app l)
     refine ⟨⟨R, rfl, _, rfl, ((Ch.refl [M + 9] s6).ch af (by simp)), ?_⟩, ?_⟩
     ·
      exact ⟨kk + 1, by omega, by omega⟩
     ·
      simp only []; omega
  ·
   refine al_t (M + 9) fun a3 a4 aq ag ah a5 => ?_
   refine tcall (w_iclears U 1 32 8 2 _ hU (show Sl _ _ (ivs [0, 5]) _ from (ag).sl) rfl (fun h => by cases h) (by omega)) ?_
   rintro a6 a7 ⟨rfl, T⟩
   have a8 := T.size
   refine dBl_i ?_
   refine ret_t ?_
   have ai := ((ak.app X).app D)
   exact ⟨rfl, (((((Ch.refl [U, U + 3, U + 11, U + 20, U + 21, U + 22, U + 23, U + 30, U + 32] s).ch ai (by simp)).fr d hM (by simp)).ch ah (by simp)).ch T (by simp))⟩
end Go.Proofs.YtklppdodadkcnaaGreat.E
