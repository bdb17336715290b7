/- My own texts, joined. -/
import Derived.KernelRfl
import Derived.Test.YtklppdodadkcnaaGreatProg
import Derived.Test.YtklppdodadkcnaaGreatIG23
namespace Go.Proofs.YtklppdodadkcnaaGreat.E
open Go Go.Proofs Go.RowKit Go.Maps Go.Shelf Go.Sort
set_option linter.unusedVariables false
set_option linter.unusedSimpArgs false
set_option maxHeartbeats 4000000 in
set_option maxRecDepth 100000 in
/-- bollard/bollardlaw13.InodeGrows -/
theorem w_igrows (U : Nat) (a b c : Int) {oa : Option Addr} {on : Nat} (oc : Nat) {os : List Int} {τo : Nat} (s : TH) (hU : 10 ≤ U) (ho : Sl s oa (ivs os) τo) (hol : os.length = on) (ho0 : oa = none → on = 0) (hτo : τo < U) : TRet Tryz.prog 4 #[.agg #[.int .i64 a, .int .i64 b, .int .i64 c], .slice oa on oc] s fun v s' => v = .bool true ∧ Ch [U, U + 3, U + 11, U + 20, U + 21, U + 22, U + 23, U + 30, U + 32] s s' := by
 obtain ⟨M, hM, hM0, hMa, hMb, hMc, hMd, hMe, hMf⟩ := fresh6 s τo (U + 60) 0 0 0 0
 refine F4_calls _ _ _ _ _ _  ?_
 unfold F4
 refine al_t (M + 1) fun r1 s2 lA c8 c9 lB => ?_
 refine ld_t c8 rfl (ld_t c8 rfl (ld_t c8 rfl ?_))
 refine tcall (c_fresh U (M + 10) a b c _ hU (by omega)) ?_
 rintro lC lD ⟨L, d, f, ih, ii, i, o, g, rfl, b9, d9, ij, ea, eb⟩
 have lE := b9.size
 have hg := d9
 have hg2 := hg
 unfold GeoOk at hg2
 have hgb := hg.gb
 have hA0 := AS.start hg
 refine dT3 (dPtr_i (dA3 (dBl_i ?_)))
 have ec := c8.ch b9 (by simp <;> omega)
 refine st_t ec rfl (by simp) fun lF hP eI kV => ?_
 have bZ := on_ch ec eI
 refine st_t hP rfl (by simp) fun lG ed eJ kW => ?_
 have b0 := on_ch hP eJ
 refine st_t ed rfl (by simp) fun lH ca eK kX => ?_
 have b1 := on_ch ed eK
 refine sB_f (by rfl) (ld_t ca rfl (ld_t ca rfl (ld_t ca rfl ?_)))
 have ee := ((bZ.app b0).app b1)
 have hQ := eb.mv ee (rngn50 (by simp <;> omega))
 have ef := ea.ch ee (by simp)
 refine tcall (c_iplc L d f U _ _ _ _ i o g (M + 10) (A0 g) _ hQ hU hg (by show (0 : Int) < _; decide) (by show (0 : Int) < _; decide) hA0 ef (by omega)) ?_
 rintro kY kZ ⟨ik, il, rfl, bg, eg, eh⟩
 have k0 := bg.size
 refine dT2 (dInt_i (dBl_i ?_))
 refine sB_d (fun hR => ?_) (fun hR => ?_)
 ·
  refine ret_t ?_
  exact ⟨rfl, (((((((Ch.refl [U, U + 3, U + 11, U + 20, U + 21, U + 22, U + 23, U + 30, U + 32] s).ch c9 (by simp)).ch b9 (by simp)).fr bZ hM (by simp)).fr b0 hM (by simp)).fr b1 hM (by simp)).ch bg (by simp))⟩
 ·
  refine alm_t (Value.int .i64) (M + 2) fun K aG k1 hS b2 k2 => ?_
  refine jn_u ?_
  obtain ⟨n, i0, kp, V1, hn, hi0, hf, hx, hkp, hc1, hT, hc2⟩ := eh.resolve_left (by assumption)
  subst hx
  have hGI0 := gi_start hg hA0 (by show (0 : Int) ≤ _; decide) (by show (0 : Int) ≤ _; decide) hn hi0 hkp hc1 hT hc2
  have hino : n * g + i0 < i * g := dm_lt hn hi0
  obtain ⟨ino, hio⟩ : ∃ k, k = n * g + i0 := ⟨_, rfl⟩
  rw [← hio] at hGI0 hino ⊢
  obtain ⟨A1, hA1⟩ : ∃ A, A = updI (A0 g) n (withB (A0 g n).1 i0 true) := ⟨_, rfl⟩
  rw [← hA1] at hGI0
  refine ⟨fun vs H' => ∃ s' : TH, s'.h = H' ∧ ∃ q, vs = [.int .i64 q] ∧ Ch [U, U + 3, U + 20, U + 21, U + 22, U + 23, U + 30, U + 32, M + 2, M + 7, M + 9] aG s' ∧ (∃ (kk : Nat) (V : VolM) (A : Nat → List UInt8 × List UInt8) (D : DinM) (mk : List (Int × Value)), q = kk ∧ kk ≤ 21 ∧ kk ≤ on ∧ VolL s' d f U V 0 ∧ GI i o g ino V A D mk kk ∧ MapK (Value.int .i64) s' K mk (M + 2)), fun vs H' => match vs with | [.int .i64 q] => ((on : Int) - q).toNat | _ => 0, ⟨aG, rfl, _, rfl, Ch.refl _ _, ?_⟩, ?_⟩
  ·
   have hV := eg.mv b2 (rngn50 (by simp))
   exact ⟨0, _, _, _, _, rfl, by omega, by omega, hV, hGI0, hS⟩
  ·
   intro q _ _ _ _ _ _ _ _ _ _ _ _ _ _ _ _ _ _ _ _ _ _ _ _ _ _ _ _ _ _ _ _ _ _ _ _ _ _ _ _ _ _ _ _ _ _ _ _ _ _ _ _ _ _ _ _ _ _ _ _ _ _ _ _ _ _ _ _ _ _ _ _ _ _ _ _ _ _ _ _ _ _ _ _ _ _ _ _ _ _ _ _ _ _ _ _ _ _ _ _ _ _ _ _ _ _ _ _ _ _ _ _ _ _ _ _ _ _ _ _ _ _ _ _ _ _ _ _ _ _ _ _ _ _ _ _ _ _ _ _ _ _ _ _ _ _ _ _ _ _ _ _ _ _ _ _ _ _ _ H_ hI_32
   obtain ⟨k3, rfl, q_, hvs, I, kk, V, A, D, mk, rfl, hk, hkn, hv, hGI, hm⟩ := hI_32
   cases hvs
   have k4 := I.size
   have hA := hGI.hds
   have hl := hA.len
   have hgn := hGI.n
   have hgl := hGI.lst
   have hdk := dok_of hg hGI.dk hGI.tree
   refine sB_d (fun hW => ?_) (fun hW => ?_)
   ·
    refine jn_u ?_
    have hX := (((((((c9.app b9).app bZ).app b0).app b1).app bg).app b2).app I)
    have ei := ho.mv hX (tagn (by simp <;> omega))
    obtain ⟨k5, rfl⟩ := ei.ne_none (by simp [bvs_len, ivs_len]; omega)
    refine nz_i (ask_t (by omega) ?_)
    refine ld_iv ei (by omega) (by omega) fun k6 hY => ?_
    rw [Int.toNat_natCast] at hY
    refine dInt_i ?_
    refine sB_d (fun hZ => ?_) (fun hZ => ?_)
    ·
     intro _
     intros
     refine ret_t ?_
     exact ⟨rfl, (((((((((Ch.refl [U, U + 3, U + 11, U + 20, U + 21, U + 22, U + 23, U + 30, U + 32] s).ch c9 (by simp)).ch b9 (by simp)).fr bZ hM (by simp)).fr b0 hM (by simp)).fr b1 hM (by simp)).ch bg (by simp)).ch b2 (by simp)).fr I hM (by simp))⟩
    ·
     refine wr_a fun k7 hn521 => ?_
     rw [wrap_u64] at hn521
     refine ask_t (by omega) ?_
     refine nm_a fun cb hn522 => ?_
     have qn522 := tmod_rng (by omega) (by omega) hn522
     refine wr_t (by omega) (nz_i ?_)
     have ej := ((bg.app b2).app I)
     have cc := ef.ch ej (by simp <;> omega)
     refine ld_t cc rfl (dPtr_i ?_)
     have bh := ca.ch ej (by simp <;> omega)
     refine ld_t bh rfl (ld_t bh rfl (ld_t bh rfl ?_))
     refine ⟨?_, ?_⟩
     ·
      obtain ⟨n0, hn0⟩ : ∃ n0 : Nat, cb = n0 := ⟨cb.toNat, by omega⟩
      subst hn0
      clear hn522 hn521
      refine tcall (c_iget d f U V i o g ino D.m D.l D.z D.d0 D.d1 D.d2 D.d3 D.e1 D.e2 _ hv hU hg hl (by omega) hino hdk hGI.ino) ?_
      rintro k8 k9 ⟨rfl, bi, b3⟩
      have la := bi.size
      refine dT2 (dA9 (dInt_i ?_))
      refine al_t (M + 9) fun lb lc iy ek bj ld => ?_
      refine st9 ek rfl (by rfl) fun le h0 eL lf => ?_
      have bk := on_ch ek eL
      refine sB_f (by rfl) ?_
      have h4 := b3.mv (bj.app bk) (rngn50 (by simp <;> omega))
      have aj := ((bi.app bj).app bk)
      have el := cc.ch aj (by simp <;> omega)
      refine tcall (c_pnow2 L d f U (V.tk 1) _ _ _ (M + 10) (M + 20) (M + 21) _ hU h4 el (by show V.n + 1 < _; omega) (by omega)) ?_
      rintro lg h5 ⟨em, en, d8, rfl, F, ak, al, b4⟩
      have lh := F.size
      have hv2 : VolL h5 d f U (V.tk ((1 + V.D.blocks.length : Nat) : Int)) 0 := by have h := b4; rw [tk_tk] at h; rw [Int.natCast_add]; exact h
      obtain ⟨t0, ht0⟩ : ∃ k : Nat, k = 1 + V.D.blocks.length := ⟨_, rfl⟩
      rw [← ht0] at hv2
      have ht9 : t0 ≤ 2049 := by omega
      refine dSl_i (nz_i ?_)
      have bl := el.ch F (by simp <;> omega)
      refine ld_t bl rfl (dPtr_i ?_)
      have bm := bh.ch (aj.app F) (by simp <;> omega)
      refine ld_t bm rfl (ld_t bm rfl (ld_t bm rfl ?_))
      have cd := h0.ch F (by simp <;> omega)
      refine ld9 cd rfl ?_
      refine ⟨?_, ?_⟩
      ·
       refine tcall (c_iGrow d f U (V.tk t0) i o g (M + 30) ino n0 A D _ hv2 hU hg (by show V.n + _ < _; omega) (by show V.P.last < _; omega) (hA.tk _) hGI.tree hino (by omega) (by omega)) ?_
       rintro li lj ⟨V5, D5, x5, e5, a5, nn5, c5_, nd5, rfl, ab, w, N, O, b5, Q, R⟩
       have lk := ab.size
       rcases R with ⟨rfl, hsv⟩ | ⟨rfl, A5, rfl, hs5, hst5, hif5, hrep5⟩
       ·
        obtain ⟨c0, hc0, hc0d⟩ := hGI.val n0
        try (have hkeep : ∀ q, q.ok → slot (nowN V) D q ≠ 0 → slot (nowN V5) D5 q = slot (nowN V) D q := fun q h1 h2 => hst5.keep q h1 h2)
        refine dT4 (dInt_i (dA9 (dSl_i (dInt_i ?_))))
        refine al_t (M + 9) fun h6 ll eM eo ce lm => ?_
        refine st9 eo rfl (by rfl) fun ln lo eN lp => ?_
        have cf := on_ch eo eN
        refine sB_t (by rfl) ?_
        have hsn := hsv.n
        have hsn2 : (V.tk t0).n = V.n + t0 := rfl
        have h7 := w.mv (ce.app cf) (rngn50 (by simp <;> omega))
        have c7 := ((ab.app ce).app cf)
        have h8 := bl.ch c7 (by simp <;> omega)
        refine tcall (c_pnow2 L d f U V5 _ _ _ (M + 10) (M + 22) (M + 23) _ hU h7 h8 (by omega) (by omega)) ?_
        rintro lq lr ⟨b6, b7, bn, rfl, b8, p, r, S⟩
        have ls := b8.size
        refine dSl_i ?_
        have h9 := ak.mv (c7.app b8) (tagn (by simp <;> omega))
        have ia := al.mv (c7.app b8) (tagn (by simp <;> omega))
        refine tcall (c_same _ _ _ _ _ (p).sl (h9).sl (show BRel _ _ _ V.nows from by have h := r; rw [nows_same hsv] at h; exact h) (show BRel _ _ _ V.nows from ia) (by rw [nows_len', hsv.D]; rfl) (nows_len' V) (by rw [hsv.D]; show V.D.blocks.length ≤ 2048; omega)) ?_
        rintro lt ib ⟨rfl, cg⟩
        have lu := cg.size
        refine dBl_i (sB_f (by rfl) ?_)
        intro _
        intros
        refine wr_t (by omega) ?_
        have ic := (((((((((I.app bi).app bj).app bk).app F).app ab).app ce).app cf).app b8).app cg)
        refine ⟨⟨ib, rfl, _, rfl, ((Ch.refl [U, U + 3, U + 20, U + 21, U + 22, U + 23, U + 30, U + 32, M + 2, M + 7, M + 9] aG).ch ic (by simp)), ?_⟩, ?_⟩
        ·
         have id := S.mv cg (rngn50 (by simp))
         have ie := ((((((aj.app F).app ab).app ce).app cf).app b8).app cg)
         have ig := hm.ch ie (by simp <;> omega)
         exact ⟨kk + 1, V5.tk (V5.D.blocks.length : Nat), A, D, mk, by omega, by omega, by omega, id, hGI.same (hsv.tks _) (by show V5.n + _ ≤ _; rw [hsv.D]; show V5.n + (V.D.blocks.length : Int) ≤ _; omega), ig⟩
        ·
         simp only []; omega
       ·
        obtain ⟨c0, hc0, hc0d⟩ := hGI.val n0
        try (have hkeep : ∀ q, q.ok → slot (nowN V) D q ≠ 0 → slot (nowN V5) D5 q = slot (nowN V) D q := fun q h1 h2 => hst5.keep q h1 h2)
        refine dT4 (dInt_i (dA9 (dSl_i (dInt_i ?_))))
        refine al_t (M + 9) fun h6 lv eM ep aH lw => ?_
        refine st9 ep rfl (by rfl) fun ci eq da iz => ?_
        have bo := on_ch ep da
        refine sB_f (by rfl) ?_
        refine jn1 (fun fv s' => Ch [] ci s' ∧ (fv = .bool false)) ?_ ?_
        ·
         rintro fv iA ⟨am, rfl⟩
         have iB := am.size
         intro _
         intros
         refine dBl_i (sB_f (by rfl) ?_)
         have eO := (((((aj.app F).app ab).app aH).app bo).app am)
         have db := hm.ch eO (by simp <;> omega)
         refine range_t (M + 7) u48 db iinj fun cj G hqsem1 T an => ?_
         have iC := an.size
         refine ⟨fun vs H' => ∃ s' : TH, s'.h = H' ∧ vs = [] ∧ Ch [M + 7] cj s' ∧ (∃ vis, ItK (Value.int .i64) s' G K mk vis (M + 2) (M + 7)), fun vs H' => match vs with | [] => leftH H' G K | _ => 0, ⟨cj, rfl, rfl, Ch.refl _ _, ?_⟩, ?_⟩
         ·
          exact ⟨[], T⟩
         ·
          intro  _ _ _ _ _ _ _ _ _ _ _ _ _ _ _ _ H_ hI_111
          obtain ⟨dc, rfl, hvs, ac, vis, hit⟩ := hI_111
          cases hvs
          have iD := ac.size
          refine next_t hit iinj (fun bp ck cl hmksem2 hvksem2 aJ er im => ?_) (fun hallksem2 => ?_)
          ·
           refine dNx_t ?_
           have eP : Ch [(M + 7)] dc bp := Chg.mono er (fun j hj e => by subst e; rw [hit.tagq]; simp)
           obtain ⟨n1, hn1, rfl, rfl, hne1⟩ := hGI.mem _ _ (mget_of_mem (aJ).nd hmksem2)
           refine entry_t aJ hmksem2 iinj ?_
           refine dT2 (dInt_i (dInt_i ?_))
           refine jn1 (fun fv s' => Ch [] bp s' ∧ (fv = .bool false)) ?_ ?_
           ·
            rintro fv eQ ⟨bq, rfl⟩
            have iE := bq.size
            intro _
            intros
            refine dBl_i (sB_f (by rfl) ?_)
            have eR := ((ac.app eP).app bq)
            refine ⟨⟨eQ, rfl, rfl, ((Ch.refl [M + 7] cj).ch eR (by simp)), ?_⟩, ?_⟩
            ·
             have eS := aJ.ch bq (by simp <;> omega) (by simp <;> omega)
             exact ⟨_, eS⟩
            ·
             have eT := aJ.ch bq (by simp <;> omega) (by simp <;> omega)
             exact it_less iinj hit eT hmksem2 hvksem2 (List.Sublist.refl _)
           ·
            intro K_123 hK_123
            refine sB_d (fun E => ?_) (fun E => ?_)
            ·
             refine hK_123 _ _ ⟨(Ch.refl [] bp), ?_⟩
             have hk1 := hkeep (leafP n1) (leafP_ok hn1) hne1
             have he1 := leafP_inj (hst5.tree.inj (leafP n1) (leafP n0) (leafP_ok hn1) (leafP_ok (by omega)) (by rw [hk1]; exact hne1) (by rw [hk1]; omega))
             subst he1
             exact congrArg Value.bool (by simp)
            ·
             refine hK_123 _ _ ⟨(Ch.refl [] bp), ?_⟩
             exact rfl
          ·
           refine dNx_f ?_
           have dd := db.ch (an.app ac) (by simp)
           refine upd_t keyI u48 dd (↑n0 : Int) (Value.int IntKind.i64 (↑(slot (nowN V5) D5 (leafP n0)) : Int)) fun eU de es iF => ?_
           have br : Ch [M + 2] dc eU := Chg.mono es fun j _ e => by subst e; rw [dd.tag]; simp
           refine nz_i ?_
           have df := ((((((ab.app aH).app bo).app am).app an).app ac).app br)
           have cm := bl.ch df (by simp <;> omega)
           refine ld_t cm rfl (dPtr_i ?_)
           have aK := bm.ch df (by simp <;> omega)
           refine ld_t aK rfl (ld_t aK rfl (ld_t aK rfl ?_))
           have eV := (((am.app an).app ac).app br)
           have cn := eq.ch eV (by simp)
           refine ld9 cn rfl ?_
           have hl5 := hst5.hds.len
           have hx5 := hst5.ext.last
           have hx6 := hst5.ext.n
           have hx7 : (V.tk t0).n = V.n + t0 := rfl
           have hx8 : (V.tk t0).P.last = V.P.last := rfl
           have hdk5 := dok_of hg (hGI.dk.stp hst5) hst5.tree
           have dg := (((((aH.app bo).app am).app an).app ac).app br)
           have co := w.mv dg (rngn50 (by simp <;> omega))
           have ad := blk_inode hg hino (co).ok (co).pokk hl5
           have eW := N.mv dg (tagn (by simp))
           refine tcall (c_iput d f U V5 i o g ino D5.m D5.l D5.z D5.d0 D5.d1 D5.d2 D5.d3 D5.e1 D5.e2 c5_ _ co hU hg hl5 (by omega) hino (by omega) hdk5 (eW).sl O (by omega) Q (by omega)) ?_
           rintro iG iH ⟨V6, rfl, aL, p, r⟩
           have iI := aL.size
           obtain ⟨hGJ, hsl⟩ := GI.up hg hino hGI hst5 (show n0 < 4164 by omega) hs5 ad p
           have hA6 := hGJ.hds
           have hx9 := (VExt.ch p).n
           refine dT2 (dInt_i (dInt_i (sB_f (by rfl) ?_)))
           have eX := de.ch aL (by simp <;> omega)
           refine range_t (M + 7) u48 eX iinj fun cp H hqsem4 W aM => ?_
           have iJ := aM.size
           refine ⟨fun vs H' => ∃ s' : TH, s'.h = H' ∧ vs = [] ∧ Ch [U, U + 20, U + 21, U + 22, U + 23, M + 7] cp s' ∧ (∃ vis, ∃ tt : Nat, ItK (Value.int .i64) s' H K (mset (n0 : Int) (.int .i64 ((slot (nowN V5) D5 (leafP n0) : Nat) : Int)) mk) vis (M + 2) (M + 7) ∧ tt ≤ 2 * vis.length ∧ (∀ k ∈ vis, k ∈ (mset (n0 : Int) (.int .i64 ((slot (nowN V5) D5 (leafP n0) : Nat) : Int)) mk).map (·.1)) ∧ VolL s' d f U (V6.tk tt) 0), fun vs H' => match vs with | [] => leftH H' H K | _ => 0, ⟨cp, rfl, rfl, Ch.refl _ _, ?_⟩, ?_⟩
           ·
            have eY := r.mv aM (rngn50 (by simp))
            exact ⟨[], 0, W, by simp, by simp, by rw [show ((0 : Nat) : Int) = 0 from rfl, tk_zero]; exact eY⟩
           ·
            intro  _ _ _ _ _ _ _ _ _ _ _ _ _ _ _ _ _ _ _ _ _ _ _ _ _ _ _ _ H_ hI_149
            obtain ⟨eZ, rfl, hvs, ao, vis, tt, hit, htt, hvis, hv3⟩ := hI_149
            cases hvs
            have iK := ao.size
            have hvl := vis_le hit.sub hvis
            have hml := hGJ.len
            refine next_t hit iinj (fun e0 cq cr hmksem5 hvksem5 aN et io => ?_) (fun hallksem5 => ?_)
            ·
             refine dNx_t ?_
             have cs : Ch [(M + 7)] eZ e0 := Chg.mono et (fun j hj e => by subst e; rw [hit.tagq]; simp)
             obtain ⟨n1, hn1, rfl, rfl, hne1⟩ := hGJ.mem _ _ (mget_of_mem (aN).nd hmksem5)
             refine entry_t aN hmksem5 iinj ?_
             refine dT2 (dInt_i (dInt_i (nz_i ?_)))
             have ct := (((aL.app aM).app ao).app cs)
             have e3 := cm.ch ct (by simp <;> omega)
             refine ld_t e3 rfl (dPtr_i ?_)
             have cu := aK.ch ct (by simp <;> omega)
             refine ld_t cu rfl (ld_t cu rfl (ld_t cu rfl ?_))
             have e4 := cn.ch ct (by simp <;> omega)
             refine ld9 e4 rfl ?_
             have e6 := hv3.mv cs (rngn50 (by simp <;> omega))
             refine tcall (c_iaddr d f U (V6.tk tt) i o g n1 A5 D5 _ e6 hU hg (by show V6.n + _ < _; omega) (hA6.tk _) hGJ.tree hn1) ?_
             rintro iL dh ⟨t7, rfl, bs, t, X⟩
             have iM := bs.size
             refine dT2 (dInt_i (dInt_i ?_))
             refine jn1 (fun fv s' => Ch [] dh s' ∧ (fv = .bool false)) ?_ ?_
             ·
              rintro fv e7 ⟨aO, rfl⟩
              have iN := aO.size
              intro _
              intros
              refine dBl_i (sB_f (by rfl) ?_)
              have e8 := (((ao.app cs).app bs).app aO)
              refine ⟨⟨e7, rfl, rfl, ((Ch.refl [U, U + 20, U + 21, U + 22, U + 23, M + 7] cp).ch e8 (by simp)), ?_⟩, ?_⟩
              ·
               have e9 := aN.ch (bs.app aO) (by simp <;> omega) (by simp <;> omega)
               have fa := t.mv aO (rngn50 (by simp))
               exact ⟨_, tt + t7, e9, by rw [List.length_append, List.length_singleton]; omega, all_snoc hvis (List.mem_map.2 ⟨_, hmksem5, rfl⟩), by have h := fa; rw [tk_tk] at h; rw [Int.natCast_add]; exact h⟩
              ·
               have fb := aN.ch (bs.app aO) (by simp <;> omega) (by simp <;> omega)
               exact it_less iinj hit fb hmksem5 hvksem5 (List.Sublist.refl _)
             ·
              intro K_172 hK_172
              refine sB_f (by rfl) ?_
              refine hK_172 _ _ ⟨(Ch.refl [] dh), ?_⟩
              show Value.bool (((slot (nowN V6) D5 (leafP n1) : Nat) : Int) != ((slot (nowN V6) D5 (leafP n1) : Nat) : Int)) = _
              exact congrArg Value.bool (by simp)
            ·
             refine dNx_f (nz_i ?_)
             have bt := ((aL.app aM).app ao)
             have fc := cm.ch bt (by simp <;> omega)
             refine ld_t fc rfl (dPtr_i ?_)
             have cv := aK.ch bt (by simp <;> omega)
             refine ld_t cv rfl (ld_t cv rfl (ld_t cv rfl ?_))
             have fd := cn.ch bt (by simp <;> omega)
             refine ld9 fd rfl ?_
             refine tcall (c_ispan d f U (V6.tk tt) i o g (M + 40) A5 D5 _ hv3 hU hg (by show V6.n + _ < _; omega) (hA6.tk _) hGJ.tree (by omega)) ?_
             rintro iO di ⟨t8, a8, c8_, rfl, bu, t, X, Y⟩
             have iP := bu.size
             refine dT2 (dSl_i (dInt_i ?_))
             refine jn1 (fun fv s' => Ch [] di s' ∧ (fv = .bool false)) ?_ ?_
             ·
              rintro fv fe ⟨aP, rfl⟩
              have iQ := aP.size
              intro _
              intros
              refine dBl_i (sB_f (by rfl) ?_)
              intro _
              intros
              refine wr_t (by omega) ?_
              have iR := ((ao.app bu).app aP)
              have ff := ((((((((((((((((I.app bi).app bj).app bk).app F).app ab).app aH).app bo).app am).app an).app ac).app br).app aL).app aM).app ao).app bu).app aP)
              refine ⟨⟨fe, rfl, _, rfl, ((Ch.refl [U, U + 3, U + 20, U + 21, U + 22, U + 23, U + 30, U + 32, M + 2, M + 7, M + 9] aG).ch ff (by simp)), ?_⟩, ?_⟩
              ·
               have fg := t.mv aP (rngn50 (by simp))
               have fh := ((bt.app bu).app aP)
               have fi := de.ch fh (by simp <;> omega)
               exact ⟨kk + 1, V6.tk (tt + t8 : Nat), A5, D5, _, by omega, by omega, by omega, by (have h := fg; rw [tk_tk] at h; rw [Int.natCast_add]; exact h), hGJ.gi _ (by omega), fi⟩
              ·
               simp only []; omega
             ·
              intro K_190 hK_190
              refine sB_f (by rfl) ?_
              have hspl := span_len (nowN (V6.tk tt)) D5
              refine tcall (c_ctInt c8_ _ (Y).sl (nI_len _) (by omega)) ?_
              rintro iS iT ⟨rfl, dj⟩
              have iU := dj.size
              refine dBl_i ?_
              refine hK_190 _ _ ⟨((Ch.refl [] di).ch dj (by simp)), ?_⟩
              have hmm : ((slot (nowN V5) D5 (leafP n0) : Nat) : Int) ∈ nI (spanM (nowN (V6.tk tt)) D5) := List.mem_map.2 ⟨_, (mem_span (now := nowN V6)).2 ⟨hs5, leafP n0, leafP_ok (by omega), hsl⟩, rfl⟩
              exact congrArg Value.bool (by simp [hmm])
        ·
         intro K_196 hK_196
         refine sB_f (by rfl) ?_
         have fj := ((((aj.app F).app ab).app aH).app bo)
         have dl := hm.ch fj (by simp <;> omega)
         refine look_g keyI u48 z3 dl (n0 : Int) hc0 ?_
         refine dInt_i ?_
         refine sB_nd (fun E => ?_) (fun E => ?_)
         ·
          refine look_g keyI u48 z3 dl (n0 : Int) hc0 ?_
          refine dInt_i ?_
          refine sB_nd (fun aI => ?_) (fun aI => ?_)
          ·
           refine hK_196 _ _ ⟨(Ch.refl [] ci), ?_⟩
           exfalso
           obtain h | ⟨h1, h2⟩ := hc0d.or_
           ·omega
           ·have h3 := hkeep (leafP n0) (leafP_ok (by omega)) h2
            omega
          ·
           refine ld9 eq rfl ?_
           have iV := ((ab.app aH).app bo)
           have fk := cd.ch ab (by simp <;> omega)
           have fl := fk.ch aH (by simp)
           have fm := fl.on da (by omega)
           refine ld9 fm rfl ?_
           have hD5 : D5 = D := hrep5 (hc0d.or_.resolve_left (by assumption)).2
           rw [hD5]
           refine ne_din ?_
           refine dBl_i ?_
           refine hK_196 _ _ ⟨(Ch.refl [] ci), ?_⟩
           exact congrArg Value.bool (by simp)
         ·
          refine hK_196 _ _ ⟨(Ch.refl [] ci), ?_⟩
          exact rfl
      ·
       refine al_t (M + 9) fun lx ly iW dm x iX => ?_
       refine ⟨?_, ?_⟩
       ·
        have fn := cd.ch x (by simp)
        refine ld9 fn rfl ?_
        rfl
       ·
        refine ⟨?_, ?_⟩
        ·
         have cw := bm.ch x (by simp)
         refine ld_t cw rfl (ld_t cw rfl (ld_t cw rfl ?_))
         rfl
        ·
         refine ⟨?_, ?_⟩
         ·
          have fo := bl.ch x (by simp)
          refine ld_t fo rfl (dPtr_i ?_)
          rfl
         ·
          have fp := hv2.mv x (rngn50 (by simp))
          refine tcall (c_iGrow d f U (V.tk t0) i o g (M + 30) ino n0 A D _ fp hU hg (by show V.n + _ < _; omega) (by show V.P.last < _; omega) (hA.tk _) hGI.tree hino (by omega) (by omega)) ?_
          rintro iY iZ ⟨V5, D5, x5, e5, a5, nn5, c5_, nd5, rfl, B, w, N, O, b5, Q, R⟩
          have i1 := B.size
          rcases R with ⟨rfl, hsv⟩ | ⟨rfl, A5, rfl, hs5, hst5, hif5, hrep5⟩
          ·
           obtain ⟨c0, hc0, hc0d⟩ := hGI.val n0
           try (have hkeep : ∀ q, q.ok → slot (nowN V) D q ≠ 0 → slot (nowN V5) D5 q = slot (nowN V) D q := fun q h1 h2 => hst5.keep q h1 h2)
           refine dT4 (dInt_i (dA9 (dSl_i (dInt_i ?_))))
           have dn := dm.ch B (by simp <;> omega)
           refine st9 dn rfl (by rfl) fun lz i2 eu i3 => ?_
           have bv := on_ch dn eu
           refine sB_t (by rfl) ?_
           have hsn := hsv.n
           have hsn2 : (V.tk t0).n = V.n + t0 := rfl
           have fq := w.mv bv (rngn50 (by simp <;> omega))
           have cx := ((x.app B).app bv)
           have fs := bl.ch cx (by simp <;> omega)
           refine tcall (c_pnow2 L d f U V5 _ _ _ (M + 10) (M + 22) (M + 23) _ hU fq fs (by omega) (by omega)) ?_
           rintro i4 i5 ⟨b6, b7, bn, rfl, aQ, p, r, S⟩
           have i6 := aQ.size
           refine dSl_i ?_
           have ft := ak.mv (cx.app aQ) (tagn (by simp <;> omega))
           have fu := al.mv (cx.app aQ) (tagn (by simp <;> omega))
           refine tcall (c_same _ _ _ _ _ (p).sl (ft).sl (show BRel _ _ _ V.nows from by have h := r; rw [nows_same hsv] at h; exact h) (show BRel _ _ _ V.nows from fu) (by rw [nows_len', hsv.D]; rfl) (nows_len' V) (by rw [hsv.D]; show V.D.blocks.length ≤ 2048; omega)) ?_
           rintro i7 fw ⟨rfl, bw⟩
           have i8 := bw.size
           refine dBl_i (sB_f (by rfl) ?_)
           intro _
           intros
           refine wr_t (by omega) ?_
           have fx := (((((((((I.app bi).app bj).app bk).app F).app x).app B).app bv).app aQ).app bw)
           refine ⟨⟨fw, rfl, _, rfl, ((Ch.refl [U, U + 3, U + 20, U + 21, U + 22, U + 23, U + 30, U + 32, M + 2, M + 7, M + 9] aG).ch fx (by simp)), ?_⟩, ?_⟩
           ·
            have fy := S.mv bw (rngn50 (by simp))
            have fz := ((((((aj.app F).app x).app B).app bv).app aQ).app bw)
            have fA := hm.ch fz (by simp <;> omega)
            exact ⟨kk + 1, V5.tk (V5.D.blocks.length : Nat), A, D, mk, by omega, by omega, by omega, fy, hGI.same (hsv.tks _) (by show V5.n + _ ≤ _; rw [hsv.D]; show V5.n + (V.D.blocks.length : Int) ≤ _; omega), fA⟩
           ·
            simp only []; omega
          ·
           obtain ⟨c0, hc0, hc0d⟩ := hGI.val n0
           try (have hkeep : ∀ q, q.ok → slot (nowN V) D q ≠ 0 → slot (nowN V5) D5 q = slot (nowN V) D q := fun q h1 h2 => hst5.keep q h1 h2)
           refine dT4 (dInt_i (dA9 (dSl_i (dInt_i ?_))))
           have dp := dm.ch B (by simp <;> omega)
           refine st9 dp rfl (by rfl) fun bx dq c4 i9 => ?_
           have ap := on_ch dp c4
           refine sB_f (by rfl) ?_
           refine jn1 (fun fv s' => Ch [] bx s' ∧ (fv = .bool false)) ?_ ?_
           ·
            rintro fv ja ⟨aq, rfl⟩
            have jb := aq.size
            intro _
            intros
            refine dBl_i (sB_f (by rfl) ?_)
            have fB := (((((aj.app F).app x).app B).app ap).app aq)
            have dr := hm.ch fB (by simp <;> omega)
            refine range_t (M + 7) u48 dr iinj fun cy G hqsem1 T ar => ?_
            have jc := ar.size
            refine ⟨fun vs H' => ∃ s' : TH, s'.h = H' ∧ vs = [] ∧ Ch [M + 7] cy s' ∧ (∃ vis, ItK (Value.int .i64) s' G K mk vis (M + 2) (M + 7)), fun vs H' => match vs with | [] => leftH H' G K | _ => 0, ⟨cy, rfl, rfl, Ch.refl _ _, ?_⟩, ?_⟩
            ·
             exact ⟨[], T⟩
            ·
             intro  _ _ _ _ _ _ _ _ _ _ _ _ _ _ _ _ H_ hI_254
             obtain ⟨ds, rfl, hvs, ae, vis, hit⟩ := hI_254
             cases hvs
             have jd := ae.size
             refine next_t hit iinj (fun bz ck cl hmksem2 hvksem2 aR ev ip => ?_) (fun hallksem2 => ?_)
             ·
              refine dNx_t ?_
              have fC : Ch [(M + 7)] ds bz := Chg.mono ev (fun j hj e => by subst e; rw [hit.tagq]; simp)
              obtain ⟨n1, hn1, rfl, rfl, hne1⟩ := hGI.mem _ _ (mget_of_mem (aR).nd hmksem2)
              refine entry_t aR hmksem2 iinj ?_
              refine dT2 (dInt_i (dInt_i ?_))
              refine jn1 (fun fv s' => Ch [] bz s' ∧ (fv = .bool false)) ?_ ?_
              ·
               rintro fv fD ⟨bA, rfl⟩
               have je := bA.size
               intro _
               intros
               refine dBl_i (sB_f (by rfl) ?_)
               have fE := ((ae.app fC).app bA)
               refine ⟨⟨fD, rfl, rfl, ((Ch.refl [M + 7] cy).ch fE (by simp)), ?_⟩, ?_⟩
               ·
                have fF := aR.ch bA (by simp <;> omega) (by simp <;> omega)
                exact ⟨_, fF⟩
               ·
                have fG := aR.ch bA (by simp <;> omega) (by simp <;> omega)
                exact it_less iinj hit fG hmksem2 hvksem2 (List.Sublist.refl _)
              ·
               intro K_266 hK_266
               refine sB_d (fun E => ?_) (fun E => ?_)
               ·
                refine hK_266 _ _ ⟨(Ch.refl [] bz), ?_⟩
                have hk1 := hkeep (leafP n1) (leafP_ok hn1) hne1
                have he1 := leafP_inj (hst5.tree.inj (leafP n1) (leafP n0) (leafP_ok hn1) (leafP_ok (by omega)) (by rw [hk1]; exact hne1) (by rw [hk1]; omega))
                subst he1
                exact congrArg Value.bool (by simp)
               ·
                refine hK_266 _ _ ⟨(Ch.refl [] bz), ?_⟩
                exact rfl
             ·
              refine dNx_f ?_
              have dt := dr.ch (ar.app ae) (by simp)
              refine upd_t keyI u48 dt (↑n0 : Int) (Value.int IntKind.i64 (↑(slot (nowN V5) D5 (leafP n0)) : Int)) fun fH du ew jf => ?_
              have bB : Ch [M + 2] ds fH := Chg.mono ew fun j _ e => by subst e; rw [dt.tag]; simp
              refine nz_i ?_
              have dv := ((((((x.app B).app ap).app aq).app ar).app ae).app bB)
              have cz := bl.ch dv (by simp <;> omega)
              refine ld_t cz rfl (dPtr_i ?_)
              have aS := bm.ch dv (by simp <;> omega)
              refine ld_t aS rfl (ld_t aS rfl (ld_t aS rfl ?_))
              have fI := (((aq.app ar).app ae).app bB)
              have cA := dq.ch fI (by simp)
              refine ld9 cA rfl ?_
              have hl5 := hst5.hds.len
              have hx5 := hst5.ext.last
              have hx6 := hst5.ext.n
              have hx7 : (V.tk t0).n = V.n + t0 := rfl
              have hx8 : (V.tk t0).P.last = V.P.last := rfl
              have hdk5 := dok_of hg (hGI.dk.stp hst5) hst5.tree
              have dw := ((((ap.app aq).app ar).app ae).app bB)
              have cB := w.mv dw (rngn50 (by simp <;> omega))
              have ad := blk_inode hg hino (cB).ok (cB).pokk hl5
              have fJ := N.mv dw (tagn (by simp))
              refine tcall (c_iput d f U V5 i o g ino D5.m D5.l D5.z D5.d0 D5.d1 D5.d2 D5.d3 D5.e1 D5.e2 c5_ _ cB hU hg hl5 (by omega) hino (by omega) hdk5 (fJ).sl O (by omega) Q (by omega)) ?_
              rintro jg jh ⟨V6, rfl, aT, p, r⟩
              have ji := aT.size
              obtain ⟨hGJ, hsl⟩ := GI.up hg hino hGI hst5 (show n0 < 4164 by omega) hs5 ad p
              have hA6 := hGJ.hds
              have hx9 := (VExt.ch p).n
              refine dT2 (dInt_i (dInt_i (sB_f (by rfl) ?_)))
              have fK := du.ch aT (by simp <;> omega)
              refine range_t (M + 7) u48 fK iinj fun cC H hqsem4 W aU => ?_
              have jj := aU.size
              refine ⟨fun vs H' => ∃ s' : TH, s'.h = H' ∧ vs = [] ∧ Ch [U, U + 20, U + 21, U + 22, U + 23, M + 7] cC s' ∧ (∃ vis, ∃ tt : Nat, ItK (Value.int .i64) s' H K (mset (n0 : Int) (.int .i64 ((slot (nowN V5) D5 (leafP n0) : Nat) : Int)) mk) vis (M + 2) (M + 7) ∧ tt ≤ 2 * vis.length ∧ (∀ k ∈ vis, k ∈ (mset (n0 : Int) (.int .i64 ((slot (nowN V5) D5 (leafP n0) : Nat) : Int)) mk).map (·.1)) ∧ VolL s' d f U (V6.tk tt) 0), fun vs H' => match vs with | [] => leftH H' H K | _ => 0, ⟨cC, rfl, rfl, Ch.refl _ _, ?_⟩, ?_⟩
              ·
               have fL := r.mv aU (rngn50 (by simp))
               exact ⟨[], 0, W, by simp, by simp, by rw [show ((0 : Nat) : Int) = 0 from rfl, tk_zero]; exact fL⟩
              ·
               intro  _ _ _ _ _ _ _ _ _ _ _ _ _ _ _ _ _ _ _ _ _ _ _ _ _ _ _ _ H_ hI_292
               obtain ⟨fM, rfl, hvs, au, vis, tt, hit, htt, hvis, hv3⟩ := hI_292
               cases hvs
               have jk := au.size
               have hvl := vis_le hit.sub hvis
               have hml := hGJ.len
               refine next_t hit iinj (fun fN cq cr hmksem5 hvksem5 aV ex iq => ?_) (fun hallksem5 => ?_)
               ·
                refine dNx_t ?_
                have cD : Ch [(M + 7)] fM fN := Chg.mono ex (fun j hj e => by subst e; rw [hit.tagq]; simp)
                obtain ⟨n1, hn1, rfl, rfl, hne1⟩ := hGJ.mem _ _ (mget_of_mem (aV).nd hmksem5)
                refine entry_t aV hmksem5 iinj ?_
                refine dT2 (dInt_i (dInt_i (nz_i ?_)))
                have cE := (((aT.app aU).app au).app cD)
                have fO := cz.ch cE (by simp <;> omega)
                refine ld_t fO rfl (dPtr_i ?_)
                have cF := aS.ch cE (by simp <;> omega)
                refine ld_t cF rfl (ld_t cF rfl (ld_t cF rfl ?_))
                have fP := cA.ch cE (by simp <;> omega)
                refine ld9 fP rfl ?_
                have fQ := hv3.mv cD (rngn50 (by simp <;> omega))
                refine tcall (c_iaddr d f U (V6.tk tt) i o g n1 A5 D5 _ fQ hU hg (by show V6.n + _ < _; omega) (hA6.tk _) hGJ.tree hn1) ?_
                rintro jl dx ⟨t7, rfl, bC, t, X⟩
                have jm := bC.size
                refine dT2 (dInt_i (dInt_i ?_))
                refine jn1 (fun fv s' => Ch [] dx s' ∧ (fv = .bool false)) ?_ ?_
                ·
                 rintro fv fR ⟨aW, rfl⟩
                 have jn := aW.size
                 intro _
                 intros
                 refine dBl_i (sB_f (by rfl) ?_)
                 have fS := (((au.app cD).app bC).app aW)
                 refine ⟨⟨fR, rfl, rfl, ((Ch.refl [U, U + 20, U + 21, U + 22, U + 23, M + 7] cC).ch fS (by simp)), ?_⟩, ?_⟩
                 ·
                  have fT := aV.ch (bC.app aW) (by simp <;> omega) (by simp <;> omega)
                  have fU := t.mv aW (rngn50 (by simp))
                  exact ⟨_, tt + t7, fT, by rw [List.length_append, List.length_singleton]; omega, all_snoc hvis (List.mem_map.2 ⟨_, hmksem5, rfl⟩), by have h := fU; rw [tk_tk] at h; rw [Int.natCast_add]; exact h⟩
                 ·
                  have fV := aV.ch (bC.app aW) (by simp <;> omega) (by simp <;> omega)
                  exact it_less iinj hit fV hmksem5 hvksem5 (List.Sublist.refl _)
                ·
                 intro K_315 hK_315
                 refine sB_f (by rfl) ?_
                 refine hK_315 _ _ ⟨(Ch.refl [] dx), ?_⟩
                 show Value.bool (((slot (nowN V6) D5 (leafP n1) : Nat) : Int) != ((slot (nowN V6) D5 (leafP n1) : Nat) : Int)) = _
                 exact congrArg Value.bool (by simp)
               ·
                refine dNx_f (nz_i ?_)
                have bD := ((aT.app aU).app au)
                have fW := cz.ch bD (by simp <;> omega)
                refine ld_t fW rfl (dPtr_i ?_)
                have cG := aS.ch bD (by simp <;> omega)
                refine ld_t cG rfl (ld_t cG rfl (ld_t cG rfl ?_))
                have fX := cA.ch bD (by simp <;> omega)
                refine ld9 fX rfl ?_
                refine tcall (c_ispan d f U (V6.tk tt) i o g (M + 40) A5 D5 _ hv3 hU hg (by show V6.n + _ < _; omega) (hA6.tk _) hGJ.tree (by omega)) ?_
                rintro jo dy ⟨t8, a8, c8_, rfl, bE, t, X, Y⟩
                have jp := bE.size
                refine dT2 (dSl_i (dInt_i ?_))
                refine jn1 (fun fv s' => Ch [] dy s' ∧ (fv = .bool false)) ?_ ?_
                ·
                 rintro fv fY ⟨aX, rfl⟩
                 have jq := aX.size
                 intro _
                 intros
                 refine dBl_i (sB_f (by rfl) ?_)
                 intro _
                 intros
                 refine wr_t (by omega) ?_
                 have jr := ((au.app bE).app aX)
                 have fZ := ((((((((((((((((I.app bi).app bj).app bk).app F).app x).app B).app ap).app aq).app ar).app ae).app bB).app aT).app aU).app au).app bE).app aX)
                 refine ⟨⟨fY, rfl, _, rfl, ((Ch.refl [U, U + 3, U + 20, U + 21, U + 22, U + 23, U + 30, U + 32, M + 2, M + 7, M + 9] aG).ch fZ (by simp)), ?_⟩, ?_⟩
                 ·
                  have f0 := t.mv aX (rngn50 (by simp))
                  have f1 := ((bD.app bE).app aX)
                  have f2 := du.ch f1 (by simp <;> omega)
                  exact ⟨kk + 1, V6.tk (tt + t8 : Nat), A5, D5, _, by omega, by omega, by omega, by (have h := f0; rw [tk_tk] at h; rw [Int.natCast_add]; exact h), hGJ.gi _ (by omega), f2⟩
                 ·
                  simp only []; omega
                ·
                 intro K_333 hK_333
                 refine sB_f (by rfl) ?_
                 have hspl := span_len (nowN (V6.tk tt)) D5
                 refine tcall (c_ctInt c8_ _ (Y).sl (nI_len _) (by omega)) ?_
                 rintro js jt ⟨rfl, dz⟩
                 have ju := dz.size
                 refine dBl_i ?_
                 refine hK_333 _ _ ⟨((Ch.refl [] dy).ch dz (by simp)), ?_⟩
                 have hmm : ((slot (nowN V5) D5 (leafP n0) : Nat) : Int) ∈ nI (spanM (nowN (V6.tk tt)) D5) := List.mem_map.2 ⟨_, (mem_span (now := nowN V6)).2 ⟨hs5, leafP n0, leafP_ok (by omega), hsl⟩, rfl⟩
                 exact congrArg Value.bool (by simp [hmm])
           ·
            intro K_339 hK_339
            refine sB_f (by rfl) ?_
            have f3 := ((((aj.app F).app x).app B).app ap)
            have dA := hm.ch f3 (by simp <;> omega)
            refine look_g keyI u48 z3 dA (n0 : Int) hc0 ?_
            refine dInt_i ?_
            refine sB_nd (fun E => ?_) (fun E => ?_)
            ·
             refine look_g keyI u48 z3 dA (n0 : Int) hc0 ?_
             refine dInt_i ?_
             refine sB_nd (fun aI => ?_) (fun aI => ?_)
             ·
              refine hK_339 _ _ ⟨(Ch.refl [] bx), ?_⟩
              exfalso
              obtain h | ⟨h1, h2⟩ := hc0d.or_
              ·omega
              ·have h3 := hkeep (leafP n0) (leafP_ok (by omega)) h2
               omega
             ·
              refine ld9 dq rfl ?_
              have jv := ((x.app B).app ap)
              have f4 := cd.ch x (by simp)
              have f5 := f4.ch B (by simp <;> omega)
              have f6 := f5.on c4 (by omega)
              refine ld9 f6 rfl ?_
              have hD5 : D5 = D := hrep5 (hc0d.or_.resolve_left (by assumption)).2
              rw [hD5]
              refine ne_din ?_
              refine dBl_i ?_
              refine hK_339 _ _ ⟨(Ch.refl [] bx), ?_⟩
              exact congrArg Value.bool (by simp)
            ·
             refine hK_339 _ _ ⟨(Ch.refl [] bx), ?_⟩
             exact rfl
     ·
      refine al_t (M + 9) fun jw jx ir f7 Z jy => ?_
      refine ⟨?_, ?_⟩
      ·
       have cH := bh.ch Z (by simp)
       refine ld_t cH rfl (ld_t cH rfl (ld_t cH rfl ?_))
       rfl
      ·
       refine ⟨?_, ?_⟩
       ·
        have f8 := cc.ch Z (by simp)
        refine ld_t f8 rfl (dPtr_i ?_)
        rfl
       ·
        obtain ⟨n0, hn0⟩ : ∃ n0 : Nat, cb = n0 := ⟨cb.toNat, by omega⟩
        subst hn0
        clear hn522 hn521
        have f9 := hv.mv Z (rngn50 (by simp))
        refine tcall (c_iget d f U V i o g ino D.m D.l D.z D.d0 D.d1 D.d2 D.d3 D.e1 D.e2 _ f9 hU hg hl (by omega) hino hdk hGI.ino) ?_
        rintro jz jA ⟨rfl, af, b3⟩
        have jB := af.size
        refine dT2 (dA9 (dInt_i ?_))
        have dB := f7.ch af (by simp <;> omega)
        refine st9 dB rfl (by rfl) fun jC ga ey jD => ?_
        have av := on_ch dB ey
        refine sB_f (by rfl) ?_
        have gc := b3.mv av (rngn50 (by simp <;> omega))
        have aa := ((Z.app af).app av)
        have dC := cc.ch aa (by simp <;> omega)
        refine tcall (c_pnow2 L d f U (V.tk 1) _ _ _ (M + 10) (M + 20) (M + 21) _ hU gc dC (by show V.n + 1 < _; omega) (by omega)) ?_
        rintro jE gd ⟨em, en, d8, rfl, u, ak, al, b4⟩
        have jF := u.size
        have hv2 : VolL gd d f U (V.tk ((1 + V.D.blocks.length : Nat) : Int)) 0 := by have h := b4; rw [tk_tk] at h; rw [Int.natCast_add]; exact h
        obtain ⟨t0, ht0⟩ : ∃ k : Nat, k = 1 + V.D.blocks.length := ⟨_, rfl⟩
        rw [← ht0] at hv2
        have ht9 : t0 ≤ 2049 := by omega
        refine dSl_i (nz_i ?_)
        have aw := dC.ch u (by simp <;> omega)
        refine ld_t aw rfl (dPtr_i ?_)
        have ax := bh.ch (aa.app u) (by simp <;> omega)
        refine ld_t ax rfl (ld_t ax rfl (ld_t ax rfl ?_))
        have bF := ga.ch u (by simp <;> omega)
        refine ld9 bF rfl ?_
        refine ⟨?_, ?_⟩
        ·
         refine tcall (c_iGrow d f U (V.tk t0) i o g (M + 30) ino n0 A D _ hv2 hU hg (by show V.n + _ < _; omega) (by show V.P.last < _; omega) (hA.tk _) hGI.tree hino (by omega) (by omega)) ?_
         rintro jG jH ⟨V5, D5, x5, e5, a5, nn5, c5_, nd5, rfl, J, w, N, O, b5, Q, R⟩
         have jI := J.size
         rcases R with ⟨rfl, hsv⟩ | ⟨rfl, A5, rfl, hs5, hst5, hif5, hrep5⟩
         ·
          obtain ⟨c0, hc0, hc0d⟩ := hGI.val n0
          try (have hkeep : ∀ q, q.ok → slot (nowN V) D q ≠ 0 → slot (nowN V5) D5 q = slot (nowN V) D q := fun q h1 h2 => hst5.keep q h1 h2)
          refine dT4 (dInt_i (dA9 (dSl_i (dInt_i ?_))))
          refine al_t (M + 9) fun ge jJ ez dD bG jK => ?_
          refine st9 dD rfl (by rfl) fun jL jM eA jN => ?_
          have bH := on_ch dD eA
          refine sB_t (by rfl) ?_
          have hsn := hsv.n
          have hsn2 : (V.tk t0).n = V.n + t0 := rfl
          have gf := w.mv (bG.app bH) (rngn50 (by simp <;> omega))
          have cI := ((J.app bG).app bH)
          have gg := aw.ch cI (by simp <;> omega)
          refine tcall (c_pnow2 L d f U V5 _ _ _ (M + 10) (M + 22) (M + 23) _ hU gf gg (by omega) (by omega)) ?_
          rintro jO jP ⟨b6, b7, bn, rfl, aY, p, r, S⟩
          have jQ := aY.size
          refine dSl_i ?_
          have gh := ak.mv (cI.app aY) (tagn (by simp <;> omega))
          have gj := al.mv (cI.app aY) (tagn (by simp <;> omega))
          refine tcall (c_same _ _ _ _ _ (p).sl (gh).sl (show BRel _ _ _ V.nows from by have h := r; rw [nows_same hsv] at h; exact h) (show BRel _ _ _ V.nows from gj) (by rw [nows_len', hsv.D]; rfl) (nows_len' V) (by rw [hsv.D]; show V.D.blocks.length ≤ 2048; omega)) ?_
          rintro jR gk ⟨rfl, bI⟩
          have jS := bI.size
          refine dBl_i (sB_f (by rfl) ?_)
          intro _
          intros
          refine wr_t (by omega) ?_
          have gl := (((((((((I.app Z).app af).app av).app u).app J).app bG).app bH).app aY).app bI)
          refine ⟨⟨gk, rfl, _, rfl, ((Ch.refl [U, U + 3, U + 20, U + 21, U + 22, U + 23, U + 30, U + 32, M + 2, M + 7, M + 9] aG).ch gl (by simp)), ?_⟩, ?_⟩
          ·
           have gm := S.mv bI (rngn50 (by simp))
           have gn := ((((((aa.app u).app J).app bG).app bH).app aY).app bI)
           have go := hm.ch gn (by simp <;> omega)
           exact ⟨kk + 1, V5.tk (V5.D.blocks.length : Nat), A, D, mk, by omega, by omega, by omega, gm, hGI.same (hsv.tks _) (by show V5.n + _ ≤ _; rw [hsv.D]; show V5.n + (V.D.blocks.length : Int) ≤ _; omega), go⟩
          ·
           simp only []; omega
         ·
          obtain ⟨c0, hc0, hc0d⟩ := hGI.val n0
          try (have hkeep : ∀ q, q.ok → slot (nowN V) D q ≠ 0 → slot (nowN V5) D5 q = slot (nowN V) D q := fun q h1 h2 => hst5.keep q h1 h2)
          refine dT4 (dInt_i (dA9 (dSl_i (dInt_i ?_))))
          refine al_t (M + 9) fun ge jT ez dE ag jU => ?_
          refine st9 dE rfl (by rfl) fun bJ dF c5 jV => ?_
          have ay := on_ch dE c5
          refine sB_f (by rfl) ?_
          refine jn1 (fun fv s' => Ch [] bJ s' ∧ (fv = .bool false)) ?_ ?_
          ·
           rintro fv jW ⟨az, rfl⟩
           have jX := az.size
           intro _
           intros
           refine dBl_i (sB_f (by rfl) ?_)
           have gp := (((((aa.app u).app J).app ag).app ay).app az)
           have dG := hm.ch gp (by simp <;> omega)
           refine range_t (M + 7) u48 dG iinj fun cJ G hqsem1 T aA => ?_
           have jY := aA.size
           refine ⟨fun vs H' => ∃ s' : TH, s'.h = H' ∧ vs = [] ∧ Ch [M + 7] cJ s' ∧ (∃ vis, ItK (Value.int .i64) s' G K mk vis (M + 2) (M + 7)), fun vs H' => match vs with | [] => leftH H' G K | _ => 0, ⟨cJ, rfl, rfl, Ch.refl _ _, ?_⟩, ?_⟩
           ·
            exact ⟨[], T⟩
           ·
            intro  _ _ _ _ _ _ _ _ _ _ _ _ _ _ _ _ H_ hI_421
            obtain ⟨dH, rfl, hvs, ah, vis, hit⟩ := hI_421
            cases hvs
            have jZ := ah.size
            refine next_t hit iinj (fun bK ck cl hmksem2 hvksem2 aZ eB it => ?_) (fun hallksem2 => ?_)
            ·
             refine dNx_t ?_
             have gq : Ch [(M + 7)] dH bK := Chg.mono eB (fun j hj e => by subst e; rw [hit.tagq]; simp)
             obtain ⟨n1, hn1, rfl, rfl, hne1⟩ := hGI.mem _ _ (mget_of_mem (aZ).nd hmksem2)
             refine entry_t aZ hmksem2 iinj ?_
             refine dT2 (dInt_i (dInt_i ?_))
             refine jn1 (fun fv s' => Ch [] bK s' ∧ (fv = .bool false)) ?_ ?_
             ·
              rintro fv gr ⟨bL, rfl⟩
              have j0 := bL.size
              intro _
              intros
              refine dBl_i (sB_f (by rfl) ?_)
              have gs := ((ah.app gq).app bL)
              refine ⟨⟨gr, rfl, rfl, ((Ch.refl [M + 7] cJ).ch gs (by simp)), ?_⟩, ?_⟩
              ·
               have gt := aZ.ch bL (by simp <;> omega) (by simp <;> omega)
               exact ⟨_, gt⟩
              ·
               have gu := aZ.ch bL (by simp <;> omega) (by simp <;> omega)
               exact it_less iinj hit gu hmksem2 hvksem2 (List.Sublist.refl _)
             ·
              intro K_433 hK_433
              refine sB_d (fun E => ?_) (fun E => ?_)
              ·
               refine hK_433 _ _ ⟨(Ch.refl [] bK), ?_⟩
               have hk1 := hkeep (leafP n1) (leafP_ok hn1) hne1
               have he1 := leafP_inj (hst5.tree.inj (leafP n1) (leafP n0) (leafP_ok hn1) (leafP_ok (by omega)) (by rw [hk1]; exact hne1) (by rw [hk1]; omega))
               subst he1
               exact congrArg Value.bool (by simp)
              ·
               refine hK_433 _ _ ⟨(Ch.refl [] bK), ?_⟩
               exact rfl
            ·
             refine dNx_f ?_
             have dI := dG.ch (aA.app ah) (by simp)
             refine upd_t keyI u48 dI (↑n0 : Int) (Value.int IntKind.i64 (↑(slot (nowN V5) D5 (leafP n0)) : Int)) fun gv dJ eC j1 => ?_
             have bM : Ch [M + 2] dH gv := Chg.mono eC fun j _ e => by subst e; rw [dI.tag]; simp
             refine nz_i ?_
             have dK := ((((((J.app ag).app ay).app az).app aA).app ah).app bM)
             have cK := aw.ch dK (by simp <;> omega)
             refine ld_t cK rfl (dPtr_i ?_)
             have a0 := ax.ch dK (by simp <;> omega)
             refine ld_t a0 rfl (ld_t a0 rfl (ld_t a0 rfl ?_))
             have gw := (((az.app aA).app ah).app bM)
             have cL := dF.ch gw (by simp)
             refine ld9 cL rfl ?_
             have hl5 := hst5.hds.len
             have hx5 := hst5.ext.last
             have hx6 := hst5.ext.n
             have hx7 : (V.tk t0).n = V.n + t0 := rfl
             have hx8 : (V.tk t0).P.last = V.P.last := rfl
             have hdk5 := dok_of hg (hGI.dk.stp hst5) hst5.tree
             have dL := (((((ag.app ay).app az).app aA).app ah).app bM)
             have cM := w.mv dL (rngn50 (by simp <;> omega))
             have ad := blk_inode hg hino (cM).ok (cM).pokk hl5
             have gx := N.mv dL (tagn (by simp))
             refine tcall (c_iput d f U V5 i o g ino D5.m D5.l D5.z D5.d0 D5.d1 D5.d2 D5.d3 D5.e1 D5.e2 c5_ _ cM hU hg hl5 (by omega) hino (by omega) hdk5 (gx).sl O (by omega) Q (by omega)) ?_
             rintro j2 j3 ⟨V6, rfl, a1, p, r⟩
             have j4 := a1.size
             obtain ⟨hGJ, hsl⟩ := GI.up hg hino hGI hst5 (show n0 < 4164 by omega) hs5 ad p
             have hA6 := hGJ.hds
             have hx9 := (VExt.ch p).n
             refine dT2 (dInt_i (dInt_i (sB_f (by rfl) ?_)))
             have gy := dJ.ch a1 (by simp <;> omega)
             refine range_t (M + 7) u48 gy iinj fun cN H hqsem4 W a2 => ?_
             have j5 := a2.size
             refine ⟨fun vs H' => ∃ s' : TH, s'.h = H' ∧ vs = [] ∧ Ch [U, U + 20, U + 21, U + 22, U + 23, M + 7] cN s' ∧ (∃ vis, ∃ tt : Nat, ItK (Value.int .i64) s' H K (mset (n0 : Int) (.int .i64 ((slot (nowN V5) D5 (leafP n0) : Nat) : Int)) mk) vis (M + 2) (M + 7) ∧ tt ≤ 2 * vis.length ∧ (∀ k ∈ vis, k ∈ (mset (n0 : Int) (.int .i64 ((slot (nowN V5) D5 (leafP n0) : Nat) : Int)) mk).map (·.1)) ∧ VolL s' d f U (V6.tk tt) 0), fun vs H' => match vs with | [] => leftH H' H K | _ => 0, ⟨cN, rfl, rfl, Ch.refl _ _, ?_⟩, ?_⟩
             ·
              have gz := r.mv a2 (rngn50 (by simp))
              exact ⟨[], 0, W, by simp, by simp, by rw [show ((0 : Nat) : Int) = 0 from rfl, tk_zero]; exact gz⟩
             ·
              intro  _ _ _ _ _ _ _ _ _ _ _ _ _ _ _ _ _ _ _ _ _ _ _ _ _ _ _ _ H_ hI_459
              obtain ⟨gA, rfl, hvs, aB, vis, tt, hit, htt, hvis, hv3⟩ := hI_459
              cases hvs
              have j6 := aB.size
              have hvl := vis_le hit.sub hvis
              have hml := hGJ.len
              refine next_t hit iinj (fun gB cq cr hmksem5 hvksem5 a3 eD iu => ?_) (fun hallksem5 => ?_)
              ·
               refine dNx_t ?_
               have cO : Ch [(M + 7)] gA gB := Chg.mono eD (fun j hj e => by subst e; rw [hit.tagq]; simp)
               obtain ⟨n1, hn1, rfl, rfl, hne1⟩ := hGJ.mem _ _ (mget_of_mem (a3).nd hmksem5)
               refine entry_t a3 hmksem5 iinj ?_
               refine dT2 (dInt_i (dInt_i (nz_i ?_)))
               have cP := (((a1.app a2).app aB).app cO)
               have gC := cK.ch cP (by simp <;> omega)
               refine ld_t gC rfl (dPtr_i ?_)
               have cQ := a0.ch cP (by simp <;> omega)
               refine ld_t cQ rfl (ld_t cQ rfl (ld_t cQ rfl ?_))
               have gD := cL.ch cP (by simp <;> omega)
               refine ld9 gD rfl ?_
               have gE := hv3.mv cO (rngn50 (by simp <;> omega))
               refine tcall (c_iaddr d f U (V6.tk tt) i o g n1 A5 D5 _ gE hU hg (by show V6.n + _ < _; omega) (hA6.tk _) hGJ.tree hn1) ?_
               rintro j7 dM ⟨t7, rfl, bN, t, X⟩
               have j8 := bN.size
               refine dT2 (dInt_i (dInt_i ?_))
               refine jn1 (fun fv s' => Ch [] dM s' ∧ (fv = .bool false)) ?_ ?_
               ·
                rintro fv gF ⟨a4, rfl⟩
                have j9 := a4.size
                intro _
                intros
                refine dBl_i (sB_f (by rfl) ?_)
                have gG := (((aB.app cO).app bN).app a4)
                refine ⟨⟨gF, rfl, rfl, ((Ch.refl [U, U + 20, U + 21, U + 22, U + 23, M + 7] cN).ch gG (by simp)), ?_⟩, ?_⟩
                ·
                 have gH := a3.ch (bN.app a4) (by simp <;> omega) (by simp <;> omega)
                 have gI := t.mv a4 (rngn50 (by simp))
                 exact ⟨_, tt + t7, gH, by rw [List.length_append, List.length_singleton]; omega, all_snoc hvis (List.mem_map.2 ⟨_, hmksem5, rfl⟩), by have h := gI; rw [tk_tk] at h; rw [Int.natCast_add]; exact h⟩
                ·
                 have gJ := a3.ch (bN.app a4) (by simp <;> omega) (by simp <;> omega)
                 exact it_less iinj hit gJ hmksem5 hvksem5 (List.Sublist.refl _)
               ·
                intro K_482 hK_482
                refine sB_f (by rfl) ?_
                refine hK_482 _ _ ⟨(Ch.refl [] dM), ?_⟩
                show Value.bool (((slot (nowN V6) D5 (leafP n1) : Nat) : Int) != ((slot (nowN V6) D5 (leafP n1) : Nat) : Int)) = _
                exact congrArg Value.bool (by simp)
              ·
               refine dNx_f (nz_i ?_)
               have bO := ((a1.app a2).app aB)
               have gK := cK.ch bO (by simp <;> omega)
               refine ld_t gK rfl (dPtr_i ?_)
               have cR := a0.ch bO (by simp <;> omega)
               refine ld_t cR rfl (ld_t cR rfl (ld_t cR rfl ?_))
               have gL := cL.ch bO (by simp <;> omega)
               refine ld9 gL rfl ?_
               refine tcall (c_ispan d f U (V6.tk tt) i o g (M + 40) A5 D5 _ hv3 hU hg (by show V6.n + _ < _; omega) (hA6.tk _) hGJ.tree (by omega)) ?_
               rintro ka dN ⟨t8, a8, c8_, rfl, bP, t, X, Y⟩
               have kb := bP.size
               refine dT2 (dSl_i (dInt_i ?_))
               refine jn1 (fun fv s' => Ch [] dN s' ∧ (fv = .bool false)) ?_ ?_
               ·
                rintro fv gM ⟨a6, rfl⟩
                have kc := a6.size
                intro _
                intros
                refine dBl_i (sB_f (by rfl) ?_)
                intro _
                intros
                refine wr_t (by omega) ?_
                have kd := ((aB.app bP).app a6)
                have gN := ((((((((((((((((I.app Z).app af).app av).app u).app J).app ag).app ay).app az).app aA).app ah).app bM).app a1).app a2).app aB).app bP).app a6)
                refine ⟨⟨gM, rfl, _, rfl, ((Ch.refl [U, U + 3, U + 20, U + 21, U + 22, U + 23, U + 30, U + 32, M + 2, M + 7, M + 9] aG).ch gN (by simp)), ?_⟩, ?_⟩
                ·
                 have gO := t.mv a6 (rngn50 (by simp))
                 have gP := ((bO.app bP).app a6)
                 have gQ := dJ.ch gP (by simp <;> omega)
                 exact ⟨kk + 1, V6.tk (tt + t8 : Nat), A5, D5, _, by omega, by omega, by omega, by (have h := gO; rw [tk_tk] at h; rw [Int.natCast_add]; exact h), hGJ.gi _ (by omega), gQ⟩
                ·
                 simp only []; omega
               ·
                intro K_500 hK_500
                refine sB_f (by rfl) ?_
                have hspl := span_len (nowN (V6.tk tt)) D5
                refine tcall (c_ctInt c8_ _ (Y).sl (nI_len _) (by omega)) ?_
                rintro ke kf ⟨rfl, dO⟩
                have kg := dO.size
                refine dBl_i ?_
                refine hK_500 _ _ ⟨((Ch.refl [] dN).ch dO (by simp)), ?_⟩
                have hmm : ((slot (nowN V5) D5 (leafP n0) : Nat) : Int) ∈ nI (spanM (nowN (V6.tk tt)) D5) := List.mem_map.2 ⟨_, (mem_span (now := nowN V6)).2 ⟨hs5, leafP n0, leafP_ok (by omega), hsl⟩, rfl⟩
                exact congrArg Value.bool (by simp [hmm])
          ·
           intro K_506 hK_506
           refine sB_f (by rfl) ?_
           have gR := ((((aa.app u).app J).app ag).app ay)
           have dP := hm.ch gR (by simp <;> omega)
           refine look_g keyI u48 z3 dP (n0 : Int) hc0 ?_
           refine dInt_i ?_
           refine sB_nd (fun E => ?_) (fun E => ?_)
           ·
            refine look_g keyI u48 z3 dP (n0 : Int) hc0 ?_
            refine dInt_i ?_
            refine sB_nd (fun aI => ?_) (fun aI => ?_)
            ·
             refine hK_506 _ _ ⟨(Ch.refl [] bJ), ?_⟩
             exfalso
             obtain h | ⟨h1, h2⟩ := hc0d.or_
             ·omega
             ·have h3 := hkeep (leafP n0) (leafP_ok (by omega)) h2
              omega
            ·
             refine ld9 dF rfl ?_
             have kh := ((J.app ag).app ay)
             have gS := bF.ch J (by simp <;> omega)
             have gT := gS.ch ag (by simp)
             have gU := gT.on c5 (by omega)
             refine ld9 gU rfl ?_
             have hD5 : D5 = D := hrep5 (hc0d.or_.resolve_left (by assumption)).2
             rw [hD5]
             refine ne_din ?_
             refine dBl_i ?_
             refine hK_506 _ _ ⟨(Ch.refl [] bJ), ?_⟩
             exact congrArg Value.bool (by simp)
           ·
            refine hK_506 _ _ ⟨(Ch.refl [] bJ), ?_⟩
            exact rfl
        ·
         refine al_t (M + 9) fun ki kj iv dQ y kl => ?_
         refine ⟨?_, ?_⟩
         ·
          have gV := bF.ch y (by simp)
          refine ld9 gV rfl ?_
          rfl
         ·
          refine ⟨?_, ?_⟩
          ·
           have cS := ax.ch y (by simp)
           refine ld_t cS rfl (ld_t cS rfl (ld_t cS rfl ?_))
           rfl
          ·
           refine ⟨?_, ?_⟩
           ·
            have gW := aw.ch y (by simp)
            refine ld_t gW rfl (dPtr_i ?_)
            rfl
           ·
            have gX := hv2.mv y (rngn50 (by simp))
            refine tcall (c_iGrow d f U (V.tk t0) i o g (M + 30) ino n0 A D _ gX hU hg (by show V.n + _ < _; omega) (by show V.P.last < _; omega) (hA.tk _) hGI.tree hino (by omega) (by omega)) ?_
            rintro km kn ⟨V5, D5, x5, e5, a5, nn5, c5_, nd5, rfl, C, w, N, O, b5, Q, R⟩
            have ko := C.size
            rcases R with ⟨rfl, hsv⟩ | ⟨rfl, A5, rfl, hs5, hst5, hif5, hrep5⟩
            ·
             obtain ⟨c0, hc0, hc0d⟩ := hGI.val n0
             try (have hkeep : ∀ q, q.ok → slot (nowN V) D q ≠ 0 → slot (nowN V5) D5 q = slot (nowN V) D q := fun q h1 h2 => hst5.keep q h1 h2)
             refine dT4 (dInt_i (dA9 (dSl_i (dInt_i ?_))))
             have dR := dQ.ch C (by simp <;> omega)
             refine st9 dR rfl (by rfl) fun kq kr eE ks => ?_
             have bQ := on_ch dR eE
             refine sB_t (by rfl) ?_
             have hsn := hsv.n
             have hsn2 : (V.tk t0).n = V.n + t0 := rfl
             have gY := w.mv bQ (rngn50 (by simp <;> omega))
             have cT := ((y.app C).app bQ)
             have gZ := aw.ch cT (by simp <;> omega)
             refine tcall (c_pnow2 L d f U V5 _ _ _ (M + 10) (M + 22) (M + 23) _ hU gY gZ (by omega) (by omega)) ?_
             rintro kt ku ⟨b6, b7, bn, rfl, a7, p, r, S⟩
             have kv := a7.size
             refine dSl_i ?_
             have g0 := ak.mv (cT.app a7) (tagn (by simp <;> omega))
             have g1 := al.mv (cT.app a7) (tagn (by simp <;> omega))
             refine tcall (c_same _ _ _ _ _ (p).sl (g0).sl (show BRel _ _ _ V.nows from by have h := r; rw [nows_same hsv] at h; exact h) (show BRel _ _ _ V.nows from g1) (by rw [nows_len', hsv.D]; rfl) (nows_len' V) (by rw [hsv.D]; show V.D.blocks.length ≤ 2048; omega)) ?_
             rintro kw g2 ⟨rfl, bR⟩
             have kx := bR.size
             refine dBl_i (sB_f (by rfl) ?_)
             intro _
             intros
             refine wr_t (by omega) ?_
             have g3 := (((((((((I.app Z).app af).app av).app u).app y).app C).app bQ).app a7).app bR)
             refine ⟨⟨g2, rfl, _, rfl, ((Ch.refl [U, U + 3, U + 20, U + 21, U + 22, U + 23, U + 30, U + 32, M + 2, M + 7, M + 9] aG).ch g3 (by simp)), ?_⟩, ?_⟩
             ·
              have g4 := S.mv bR (rngn50 (by simp))
              have g5 := ((((((aa.app u).app y).app C).app bQ).app a7).app bR)
              have g6 := hm.ch g5 (by simp <;> omega)
              exact ⟨kk + 1, V5.tk (V5.D.blocks.length : Nat), A, D, mk, by omega, by omega, by omega, g4, hGI.same (hsv.tks _) (by show V5.n + _ ≤ _; rw [hsv.D]; show V5.n + (V.D.blocks.length : Int) ≤ _; omega), g6⟩
             ·
              simp only []; omega
            ·
             obtain ⟨c0, hc0, hc0d⟩ := hGI.val n0
             try (have hkeep : ∀ q, q.ok → slot (nowN V) D q ≠ 0 → slot (nowN V5) D5 q = slot (nowN V) D q := fun q h1 h2 => hst5.keep q h1 h2)
             refine dT4 (dInt_i (dA9 (dSl_i (dInt_i ?_))))
             have dS := dQ.ch C (by simp <;> omega)
             refine st9 dS rfl (by rfl) fun bS dT c6 ky => ?_
             have aC := on_ch dS c6
             refine sB_f (by rfl) ?_
             refine jn1 (fun fv s' => Ch [] bS s' ∧ (fv = .bool false)) ?_ ?_
             ·
              rintro fv kz ⟨aD, rfl⟩
              have kA := aD.size
              intro _
              intros
              refine dBl_i (sB_f (by rfl) ?_)
              have g7 := (((((aa.app u).app y).app C).app aC).app aD)
              have dU := hm.ch g7 (by simp <;> omega)
              refine range_t (M + 7) u48 dU iinj fun cU G hqsem1 T aE => ?_
              have kB := aE.size
              refine ⟨fun vs H' => ∃ s' : TH, s'.h = H' ∧ vs = [] ∧ Ch [M + 7] cU s' ∧ (∃ vis, ItK (Value.int .i64) s' G K mk vis (M + 2) (M + 7)), fun vs H' => match vs with | [] => leftH H' G K | _ => 0, ⟨cU, rfl, rfl, Ch.refl _ _, ?_⟩, ?_⟩
              ·
               exact ⟨[], T⟩
              ·
               intro  _ _ _ _ _ _ _ _ _ _ _ _ _ _ _ _ H_ hI_564
               obtain ⟨dV, rfl, hvs, ai, vis, hit⟩ := hI_564
               cases hvs
               have kC := ai.size
               refine next_t hit iinj (fun bT ck cl hmksem2 hvksem2 a9 eF iw => ?_) (fun hallksem2 => ?_)
               ·
                refine dNx_t ?_
                have g8 : Ch [(M + 7)] dV bT := Chg.mono eF (fun j hj e => by subst e; rw [hit.tagq]; simp)
                obtain ⟨n1, hn1, rfl, rfl, hne1⟩ := hGI.mem _ _ (mget_of_mem (a9).nd hmksem2)
                refine entry_t a9 hmksem2 iinj ?_
                refine dT2 (dInt_i (dInt_i ?_))
                refine jn1 (fun fv s' => Ch [] bT s' ∧ (fv = .bool false)) ?_ ?_
                ·
                 rintro fv g9 ⟨bU, rfl⟩
                 have kD := bU.size
                 intro _
                 intros
                 refine dBl_i (sB_f (by rfl) ?_)
                 have ha := ((ai.app g8).app bU)
                 refine ⟨⟨g9, rfl, rfl, ((Ch.refl [M + 7] cU).ch ha (by simp)), ?_⟩, ?_⟩
                 ·
                  have hb := a9.ch bU (by simp <;> omega) (by simp <;> omega)
                  exact ⟨_, hb⟩
                 ·
                  have hc := a9.ch bU (by simp <;> omega) (by simp <;> omega)
                  exact it_less iinj hit hc hmksem2 hvksem2 (List.Sublist.refl _)
                ·
                 intro K_576 hK_576
                 refine sB_d (fun E => ?_) (fun E => ?_)
                 ·
                  refine hK_576 _ _ ⟨(Ch.refl [] bT), ?_⟩
                  have hk1 := hkeep (leafP n1) (leafP_ok hn1) hne1
                  have he1 := leafP_inj (hst5.tree.inj (leafP n1) (leafP n0) (leafP_ok hn1) (leafP_ok (by omega)) (by rw [hk1]; exact hne1) (by rw [hk1]; omega))
                  subst he1
                  exact congrArg Value.bool (by simp)
                 ·
                  refine hK_576 _ _ ⟨(Ch.refl [] bT), ?_⟩
                  exact rfl
               ·
                refine dNx_f ?_
                have dW := dU.ch (aE.app ai) (by simp)
                refine upd_t keyI u48 dW (↑n0 : Int) (Value.int IntKind.i64 (↑(slot (nowN V5) D5 (leafP n0)) : Int)) fun hd dX eG kE => ?_
                have bV : Ch [M + 2] dV hd := Chg.mono eG fun j _ e => by subst e; rw [dW.tag]; simp
                refine nz_i ?_
                have dY := ((((((y.app C).app aC).app aD).app aE).app ai).app bV)
                have cV := aw.ch dY (by simp <;> omega)
                refine ld_t cV rfl (dPtr_i ?_)
                have ba := ax.ch dY (by simp <;> omega)
                refine ld_t ba rfl (ld_t ba rfl (ld_t ba rfl ?_))
                have he := (((aD.app aE).app ai).app bV)
                have cW := dT.ch he (by simp)
                refine ld9 cW rfl ?_
                have hl5 := hst5.hds.len
                have hx5 := hst5.ext.last
                have hx6 := hst5.ext.n
                have hx7 : (V.tk t0).n = V.n + t0 := rfl
                have hx8 : (V.tk t0).P.last = V.P.last := rfl
                have hdk5 := dok_of hg (hGI.dk.stp hst5) hst5.tree
                have dZ := ((((aC.app aD).app aE).app ai).app bV)
                have cX := w.mv dZ (rngn50 (by simp <;> omega))
                have ad := blk_inode hg hino (cX).ok (cX).pokk hl5
                have hh := N.mv dZ (tagn (by simp))
                refine tcall (c_iput d f U V5 i o g ino D5.m D5.l D5.z D5.d0 D5.d1 D5.d2 D5.d3 D5.e1 D5.e2 c5_ _ cX hU hg hl5 (by omega) hino (by omega) hdk5 (hh).sl O (by omega) Q (by omega)) ?_
                rintro kF kG ⟨V6, rfl, bb, p, r⟩
                have kH := bb.size
                obtain ⟨hGJ, hsl⟩ := GI.up hg hino hGI hst5 (show n0 < 4164 by omega) hs5 ad p
                have hA6 := hGJ.hds
                have hx9 := (VExt.ch p).n
                refine dT2 (dInt_i (dInt_i (sB_f (by rfl) ?_)))
                have hi := dX.ch bb (by simp <;> omega)
                refine range_t (M + 7) u48 hi iinj fun cY H hqsem4 W bc => ?_
                have kI := bc.size
                refine ⟨fun vs H' => ∃ s' : TH, s'.h = H' ∧ vs = [] ∧ Ch [U, U + 20, U + 21, U + 22, U + 23, M + 7] cY s' ∧ (∃ vis, ∃ tt : Nat, ItK (Value.int .i64) s' H K (mset (n0 : Int) (.int .i64 ((slot (nowN V5) D5 (leafP n0) : Nat) : Int)) mk) vis (M + 2) (M + 7) ∧ tt ≤ 2 * vis.length ∧ (∀ k ∈ vis, k ∈ (mset (n0 : Int) (.int .i64 ((slot (nowN V5) D5 (leafP n0) : Nat) : Int)) mk).map (·.1)) ∧ VolL s' d f U (V6.tk tt) 0), fun vs H' => match vs with | [] => leftH H' H K | _ => 0, ⟨cY, rfl, rfl, Ch.refl _ _, ?_⟩, ?_⟩
                ·
                 have hp := r.mv bc (rngn50 (by simp))
                 exact ⟨[], 0, W, by simp, by simp, by rw [show ((0 : Nat) : Int) = 0 from rfl, tk_zero]; exact hp⟩
                ·
                 intro  _ _ _ _ _ _ _ _ _ _ _ _ _ _ _ _ _ _ _ _ _ _ _ _ _ _ _ _ H_ hI_602
                 obtain ⟨hq, rfl, hvs, aF, vis, tt, hit, htt, hvis, hv3⟩ := hI_602
                 cases hvs
                 have kJ := aF.size
                 have hvl := vis_le hit.sub hvis
                 have hml := hGJ.len
                 refine next_t hit iinj (fun hr cq cr hmksem5 hvksem5 bd eH ix => ?_) (fun hallksem5 => ?_)
                 ·
                  refine dNx_t ?_
                  have cZ : Ch [(M + 7)] hq hr := Chg.mono eH (fun j hj e => by subst e; rw [hit.tagq]; simp)
                  obtain ⟨n1, hn1, rfl, rfl, hne1⟩ := hGJ.mem _ _ (mget_of_mem (bd).nd hmksem5)
                  refine entry_t bd hmksem5 iinj ?_
                  refine dT2 (dInt_i (dInt_i (nz_i ?_)))
                  have c1 := (((bb.app bc).app aF).app cZ)
                  have hs := cV.ch c1 (by simp <;> omega)
                  refine ld_t hs rfl (dPtr_i ?_)
                  have c2 := ba.ch c1 (by simp <;> omega)
                  refine ld_t c2 rfl (ld_t c2 rfl (ld_t c2 rfl ?_))
                  have ht := cW.ch c1 (by simp <;> omega)
                  refine ld9 ht rfl ?_
                  have hu := hv3.mv cZ (rngn50 (by simp <;> omega))
                  refine tcall (c_iaddr d f U (V6.tk tt) i o g n1 A5 D5 _ hu hU hg (by show V6.n + _ < _; omega) (hA6.tk _) hGJ.tree hn1) ?_
                  rintro kK d4 ⟨t7, rfl, bW, t, X⟩
                  have kL := bW.size
                  refine dT2 (dInt_i (dInt_i ?_))
                  refine jn1 (fun fv s' => Ch [] d4 s' ∧ (fv = .bool false)) ?_ ?_
                  ·
                   rintro fv hw ⟨be, rfl⟩
                   have kM := be.size
                   intro _
                   intros
                   refine dBl_i (sB_f (by rfl) ?_)
                   have hy := (((aF.app cZ).app bW).app be)
                   refine ⟨⟨hw, rfl, rfl, ((Ch.refl [U, U + 20, U + 21, U + 22, U + 23, M + 7] cY).ch hy (by simp)), ?_⟩, ?_⟩
                   ·
                    have hz := bd.ch (bW.app be) (by simp <;> omega) (by simp <;> omega)
                    have hB := t.mv be (rngn50 (by simp))
                    exact ⟨_, tt + t7, hz, by rw [List.length_append, List.length_singleton]; omega, all_snoc hvis (List.mem_map.2 ⟨_, hmksem5, rfl⟩), by have h := hB; rw [tk_tk] at h; rw [Int.natCast_add]; exact h⟩
                   ·
                    have hC := bd.ch (bW.app be) (by simp <;> omega) (by simp <;> omega)
                    exact it_less iinj hit hC hmksem5 hvksem5 (List.Sublist.refl _)
                  ·
                   intro K_625 hK_625
                   refine sB_f (by rfl) ?_
                   refine hK_625 _ _ ⟨(Ch.refl [] d4), ?_⟩
                   show Value.bool (((slot (nowN V6) D5 (leafP n1) : Nat) : Int) != ((slot (nowN V6) D5 (leafP n1) : Nat) : Int)) = _
                   exact congrArg Value.bool (by simp)
                 ·
                  refine dNx_f (nz_i ?_)
                  have bX := ((bb.app bc).app aF)
                  have hD := cV.ch bX (by simp <;> omega)
                  refine ld_t hD rfl (dPtr_i ?_)
                  have c3 := ba.ch bX (by simp <;> omega)
                  refine ld_t c3 rfl (ld_t c3 rfl (ld_t c3 rfl ?_))
                  have hE := cW.ch bX (by simp <;> omega)
                  refine ld9 hE rfl ?_
                  refine tcall (c_ispan d f U (V6.tk tt) i o g (M + 40) A5 D5 _ hv3 hU hg (by show V6.n + _ < _; omega) (hA6.tk _) hGJ.tree (by omega)) ?_
                  rintro kN d5 ⟨t8, a8, c8_, rfl, bY, t, X, Y⟩
                  have kO := bY.size
                  refine dT2 (dSl_i (dInt_i ?_))
                  refine jn1 (fun fv s' => Ch [] d5 s' ∧ (fv = .bool false)) ?_ ?_
                  ·
                   rintro fv hF ⟨bf, rfl⟩
                   have kP := bf.size
                   intro _
                   intros
                   refine dBl_i (sB_f (by rfl) ?_)
                   intro _
                   intros
                   refine wr_t (by omega) ?_
                   have kQ := ((aF.app bY).app bf)
                   have hG := ((((((((((((((((I.app Z).app af).app av).app u).app y).app C).app aC).app aD).app aE).app ai).app bV).app bb).app bc).app aF).app bY).app bf)
                   refine ⟨⟨hF, rfl, _, rfl, ((Ch.refl [U, U + 3, U + 20, U + 21, U + 22, U + 23, U + 30, U + 32, M + 2, M + 7, M + 9] aG).ch hG (by simp)), ?_⟩, ?_⟩
                   ·
                    have hH := t.mv bf (rngn50 (by simp))
                    have hI := ((bX.app bY).app bf)
                    have hJ := dX.ch hI (by simp <;> omega)
                    exact ⟨kk + 1, V6.tk (tt + t8 : Nat), A5, D5, _, by omega, by omega, by omega, by (have h := hH; rw [tk_tk] at h; rw [Int.natCast_add]; exact h), hGJ.gi _ (by omega), hJ⟩
                   ·
                    simp only []; omega
                  ·
                   intro K_643 hK_643
                   refine sB_f (by rfl) ?_
                   have hspl := span_len (nowN (V6.tk tt)) D5
                   refine tcall (c_ctInt c8_ _ (Y).sl (nI_len _) (by omega)) ?_
                   rintro kR kS ⟨rfl, d6⟩
                   have kT := d6.size
                   refine dBl_i ?_
                   refine hK_643 _ _ ⟨((Ch.refl [] d5).ch d6 (by simp)), ?_⟩
                   have hmm : ((slot (nowN V5) D5 (leafP n0) : Nat) : Int) ∈ nI (spanM (nowN (V6.tk tt)) D5) := List.mem_map.2 ⟨_, (mem_span (now := nowN V6)).2 ⟨hs5, leafP n0, leafP_ok (by omega), hsl⟩, rfl⟩
                   exact congrArg Value.bool (by simp [hmm])
             ·
              intro K_649 hK_649
              refine sB_f (by rfl) ?_
              have hK := ((((aa.app u).app y).app C).app aC)
              have d7 := hm.ch hK (by simp <;> omega)
              refine look_g keyI u48 z3 d7 (n0 : Int) hc0 ?_
              refine dInt_i ?_
              refine sB_nd (fun E => ?_) (fun E => ?_)
              ·
               refine look_g keyI u48 z3 d7 (n0 : Int) hc0 ?_
               refine dInt_i ?_
               refine sB_nd (fun aI => ?_) (fun aI => ?_)
               ·
                refine hK_649 _ _ ⟨(Ch.refl [] bS), ?_⟩
                exfalso
                obtain h | ⟨h1, h2⟩ := hc0d.or_
                ·omega
                ·have h3 := hkeep (leafP n0) (leafP_ok (by omega)) h2
                 omega
               ·
                refine ld9 dT rfl ?_
                have kU := ((y.app C).app aC)
                have hL := bF.ch y (by simp)
                have hN := hL.ch C (by simp <;> omega)
                have hO := hN.on c6 (by omega)
                refine ld9 hO rfl ?_
                have hD5 : D5 = D := hrep5 (hc0d.or_.resolve_left (by assumption)).2
                rw [hD5]
                refine ne_din ?_
                refine dBl_i ?_
                refine hK_649 _ _ ⟨(Ch.refl [] bS), ?_⟩
                exact congrArg Value.bool (by simp)
              ·
               refine hK_649 _ _ ⟨(Ch.refl [] bS), ?_⟩
               exact rfl
   ·
    intro _
    intros
    refine ret_t ?_
    exact ⟨rfl, (((((((((Ch.refl [U, U + 3, U + 11, U + 20, U + 21, U + 22, U + 23, U + 30, U + 32] s).ch c9 (by simp)).ch b9 (by simp)).fr bZ hM (by simp)).fr b0 hM (by simp)).fr b1 hM (by simp)).ch bg (by simp)).ch b2 (by simp)).fr I hM (by simp))⟩
end Go.Proofs.YtklppdodadkcnaaGreat.E
