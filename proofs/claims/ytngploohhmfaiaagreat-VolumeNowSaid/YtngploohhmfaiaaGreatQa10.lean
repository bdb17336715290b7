/- My own texts, joined. -/
import Derived.ChangeArms
import Derived.DataReads
import Derived.Handed
import Derived.JoinedOf
import Derived.KernelRfl
import Derived.ProofKit
import Derived.Test.YtngploohhmfaiaaGreatProg
import Derived.WalkKit
import Derived.WideShapes
import Derived.Test.YtngploohhmfaiaaGreatQa9
/- Contracts of functions. -/
namespace Go.Proofs.YtngploohhmfaiaaGreat.E
open Go Go.Proofs Go.RowKit Go.Maps Go.Shelf Go.Sort
set_option linter.unusedVariables false
set_option linter.unusedSimpArgs false
theorem OMap.keep {s : TH} {rk : Option Nat} {mk : List (Int × Value)} {σ μ τ : Nat} (h : OMap s rk mk σ) (hn : σ ≠ μ) : OMap (remark s μ τ) rk mk σ := ⟨fun r e => (h.at_ r e).keep hn, h.no⟩
theorem WMap.keep {s : TH} {σ μ τ : Nat} (hn : σ ≠ μ) : ∀ {m : List (Int × Value)} {l : List (Int × WayM)}, WMap s σ m l → WMap (remark s μ τ) σ m l
  | [], [], h => trivial
  | e :: m, p :: l, h => by
    obtain ⟨h1, ⟨ba, bc, ia, ic, g1, g2, g3, g4⟩, h2⟩ := h
    exact ⟨h1, ⟨ba, bc, ia, ic, g1, g2.keep hn, g3.keep hn, g4⟩, WMap.keep hn h2⟩
  | [], _ :: _, h => h.elim
  | _ :: _, [], h => h.elim
theorem KMap.keep {s : TH} {σ μ τ : Nat} (hn : σ ≠ μ) : ∀ {m : List (Int × Value)} {l : List (Int × List UInt8)}, KMap s σ m l → KMap (remark s μ τ) σ m l
  | [], [], h => trivial
  | e :: m, p :: l, ⟨h1, ⟨a, c, g1, g2, g3⟩, h2⟩ => ⟨h1, ⟨a, c, g1, g2.keep hn, g3⟩, KMap.keep hn h2⟩
  | [], _ :: _, h => h.elim
  | _ :: _, [], h => h.elim
theorem PMap.keep {s : TH} {σ μ τ : Nat} (hn : σ ≠ μ) : ∀ {m : List (Int × Value)} {l : List PatM}, PMap s σ m l → PMap (remark s μ τ) σ m l
  | [], [], h => trivial
  | e :: m, p :: l, h => by
    obtain ⟨h1, ⟨ba, bc, na, nc, g1, g2, g3⟩, h2⟩ := h
    exact ⟨h1, ⟨ba, bc, na, nc, g1, g2.keep hn, g3.keep hn⟩, PMap.keep hn h2⟩
  | [], _ :: _, h => h.elim
  | _ :: _, [], h => h.elim
theorem PSet.keep {s : TH} {p T μ τ : Nat} {P : PatchM} (h : PSet s p T P) (hn : μ < T ∨ T + 10 ≤ μ) : PSet (remark s μ τ) p T P := by
  obtain ⟨⟨r1, r2, m1, m2, hp⟩, ok⟩ := h
  exact ⟨⟨r1, r2, m1, m2, hp.blk.keep (by omega), hp.dm.keep (by omega), hp.lm.keep (by omega), PMap.keep (by omega) hp.pm, hp.dk, hp.dv⟩, ok⟩
theorem Disk.keep {s : TH} {d T μ τ : Nat} {D : DiskM} (h : Disk s d T D) (hn : μ < T ∨ T + 10 ≤ μ) : Disk (remark s μ τ) d T D := by
  obtain ⟨pa, pc, qa, qc, hs, qs, fr, fm, h⟩ := h
  exact ⟨pa, pc, qa, qc, hs, qs, fr, fm, h.blk.keep (by omega), h.rows.keep (by omega), h.brel.keep (by omega), h.que.keep (by omega), h.qrel.keep (by omega), h.fails.keep (by omega), h.fok, h.nb, h.nq, h.qin⟩
theorem CacheV.keep {s : TH} {c T d μ τ : Nat} {bs : List (List UInt8)} {n : Int} (h : CacheV s c T d bs n) (hn : μ < T ∨ T + 10 ≤ μ) : CacheV (remark s μ τ) c T d bs n := by
  obtain ⟨C, ⟨⟨r, m, bp, bh, hp⟩, ok⟩, h2⟩ := h
  exact ⟨C, ⟨⟨r, m, bp, bh, hp.blk.keep (by omega), hp.map.keep (by omega), ⟨fun x hx => (hp.bufs.at_ x hx).keep (by omega)⟩, ⟨fun x hx => ⟨(hp.bufy.at_ x hx).sl.keep (by omega), (hp.bufy.at_ x hx).len⟩⟩, hp.mo, hp.bnd, hp.len⟩, ok⟩, h2⟩
theorem VolL.keep {s : TH} {v d U μ τ : Nat} {V : VolM} {lk : Int} (h : VolL s v d U V lk) (hn : μ < U ∨ U + 50 ≤ μ) : VolL (remark s μ τ) v d U V lk := by
  obtain ⟨⟨c, p, rw, rk, mw, mk, h⟩, ok⟩ := h
  exact ⟨⟨c, p, rw, rk, mw, mk, h.blk.keep (by omega), h.wm.keep (by omega), WMap.keep (by omega) h.wv, h.kn, h.om.keep (by omega), KMap.keep (by omega) h.kv, h.dk.keep (by omega), h.ca.keep (by omega), h.ps.keep (by omega)⟩, ok⟩
def VolM.wayb (V : VolM) : List Int := V.way.map fun p => p.2.blk
/-- (*bollard/volume.Volume).Way -/
theorem c_VWay (vp d U : Nat) (V : VolM) (τ : Nat) (s : TH) (hU : 10 ≤ U) (hv : VolL s vp d U V 0) (hτ : τ < U ∨ U + 50 ≤ τ) : TRet Tryz.prog 34 #[.pointer (some ⟨vp, 0, none⟩)] s fun v s' => ∃ a c, v = .slice a V.wayb.length c ∧ Ch [U] s s' ∧ Own s' a V.wayb.length c 3 1 (ivs V.wayb) τ ∧ VolL s' vp d U V 0 := by
  obtain ⟨⟨c, p, rw_, rk, mw, mk, hV⟩, ok⟩ := id hv
  have hvb := hV.blk
  have hvw := hV.wm
  have hvv := hV.wv
  have hvo := hV.om
  have hvk := hV.kv
  have hvD := hV.dk
  have hvC := hV.ca
  have hvP := hV.ps
  have hn0 := ok.n0
  have hpok := hV.ps.ok
  have hplst := hV.ps.ok.lst
  have hnb := hV.dk.nb
  obtain ⟨M, hM, hM0, hMa, hMb, hMc, hMd, hMe, hMf⟩ := fresh6 s (U + 50) τ 0 0 0 0
  refine F34_calls _  ?_
  unfold F34
  refine tcall (c_vheld _ _ hvb) ?_
  rintro v_2 s_1 ⟨rfl, c_4, call1a⟩
  have z_5 := c_4.size
  have hV1 := hV.relock c_4 call1a
  have hv1 : VolL s_1 vp d U V 1 := ⟨⟨_, _, _, _, _, _, hV1⟩, ok⟩
  refine dBl_i ?_
  refine sB_f (by rfl) ?_
  refine nz_i ?_
  refine nz_i ?_
  refine ld_t call1a rfl ?_
  refine dPtr_i ?_
  have h_6 := hvD.mv c_4 (rngn (by simp))
  refine tcall (c_queue (M + 6) d (U + 10) V.D _ (by omega) h_6) ?_
  rintro v_8 s_7 ⟨acall2, ccall2, qscall2, rfl, c_10, call2a, call2b⟩
  have z_11 := c_10.size
  have hwl := ok.wlen
  refine dSl_i ?_
  refine ⟨fun vs H' => ∃ s' : TH, s'.h = H' ∧ ∃ q qn qc i, vs = [.slice q qn qc, .int .i64 i] ∧ Ch [M + 1, M + 9] s_7 s' ∧ (∃ kk : Nat, i = kk ∧ kk ≤ V.D.queue.length ∧ qn = kk ∧ Own s' q qn qc 3 1 (ivs ((V.way.take kk).map fun p => p.2.blk)) (M + 1)), fun vs H' => match vs with | [.slice q qn qc, .int .i64 i] => ((V.D.queue.length : Int) - i).toNat | _ => 0, ⟨s_7, rfl, _, _, _, _, rfl, Ch.refl _ _, ?_⟩, ?_⟩
  ·
    exact ⟨0, rfl, by omega, rfl, by simpa [ivs] using Own.nil _ _ _ _⟩
  ·
    intro q qn qc i _ _ _ _ _ _ _ _ _ _ _ _ _ _ _ _ _ _ _ _ _ _ _ H_ hI_13
    obtain ⟨s_12, rfl, q_, qn_, qc_, i_, hvs, c_14, kk, rfl, hk, hq, ho⟩ := hI_13
    cases hvs
    have z_15 := c_14.size
    have hwq0 := wlen_q ok
    refine sB_d (fun hsB2 => ?_) (fun hsB2 => ?_)
    ·
      refine jn_u ?_
      have h_16 := call2a.mv c_14 (tagn (by simp))
      obtain ⟨a_17, rfl⟩ := h_16.ne_none (by omega)
      refine nz_i ?_
      refine ask_t (by omega) ?_
      have h_18 := call2b.mv c_14 (tagn (by simp))
      have h_19 := hvv.mv ((c_4.app c_10).app c_14) (tagn (by simp <;> omega))
      have hwq := wlen_q ok
      obtain ⟨pw, hpw⟩ : ∃ p, V.way[kk]? = some p := ⟨V.way[kk]'(by omega), by simp⟩
      have hpq := way_q ok hpw
      have hql := (h_18).len
      obtain ⟨y, hy⟩ : ∃ y, qscall2[kk]? = some y := ⟨qscall2[kk]'(by omega), by simp⟩
      have hyi := (h_18).at_ kk y _ hy hpq
      have hyi2 : y.1 = pw.1 := hyi.1
      have hyi3 : y.2.1 = pw.2.blk := hyi.2.1
      obtain ⟨wv, hwv, ⟨ba1, bc1, ia1, ic1, hxv, sb1, si1, hl1⟩⟩ := WMap.get h_19 ok.wnd hpw
      subst hxv
      refine ld_sl (h_16).sl (by rw [Int.toNat_natCast]; exact qcell0 hy) ?_
      refine ld_sl2 (h_16).sl (by rw [Int.toNat_natCast]; exact qcell1 hy) ?_
      refine ld_sl2 (h_16).sl (by rw [Int.toNat_natCast]; exact qcell2 hy) ?_
      refine al_t (M + 9) fun r76 s77 hr76 b_20 c_21 z_22 => ?_
      refine st_t b_20 rfl (by simp) fun s78 b_23 c_24o z_25 => ?_
      have c_24 := on_ch b_20 c_24o
      refine st_t b_23 rfl (by simp) fun s79 b_26 c_27o z_28 => ?_
      have c_27 := on_ch b_23 c_27o
      refine st_t b_26 rfl (by simp) fun s80 b_29 c_30o z_31 => ?_
      have c_30 := on_ch b_26 c_30o
      refine nz_i ?_
      have h_32 := call1a.ch (((((c_10.app c_14).app c_21).app c_24).app c_27).app c_30) (by simp <;> omega)
      refine ld_t h_32 rfl ?_
      refine dMap_i ?_
      refine ld_t b_29 rfl ?_
      refine dInt_i ?_
      refine ⟨?_, ?_⟩
      ·
        have h_33 := hvw.ch ((((((c_4.app c_10).app c_14).app c_21).app c_24).app c_27).app c_30) (by simp <;> omega)
        refine look_oks keyI um52 z153 h_33 y.1 (by rw [hyi2]; exact hwv) ?_
        refine dT2 ?_
        refine dA3 ?_
        refine dBl_i ?_
        refine al_t (M + 9) fun r96 s97 hr96 b_34 c_35 z_36 => ?_
        refine st_t b_34 rfl (by simp) fun s98 b_37 c_38o z_39 => ?_
        have c_38 := on_ch b_34 c_38o
        refine st_t b_37 rfl (by simp) fun s99 b_40 c_41o z_42 => ?_
        have c_41 := on_ch b_37 c_41o
        refine st_t b_40 rfl (by simp) fun s100 b_43 c_44o z_45 => ?_
        have c_44 := on_ch b_40 c_44o
        refine sB_t (by rfl) ?_
        have h_47 := b_29.ch c_35 (by simp)
        have h_48 := h_47.on c_38o (by omega)
        have h_49 := h_48.on c_41o (by omega)
        have h_50 := h_49.on c_44o (by omega)
        refine ld_t h_50 rfl ?_
        refine dInt_i ?_
        refine al_t (M + 9) fun r103 s104 hr103 b_51 c_52 z_53 => ?_
        have h_56 := ho.mv ((((((((c_21.app c_24).app c_27).app c_30).app c_35).app c_38).app c_41).app c_44).app c_52) (tagn (by simp))
        refine app_i1 u73 in3 h_56 b_51 (by omega) fun s_57 a_54 k_55 o_58 c_59 => ?_
        have z_60 := c_59.size
        refine dSl_i ?_
        intro _
        intros
        refine dSl_i ?_
        refine wr_t (by omega) ?_
        refine ⟨⟨s_57, rfl, _, _, _, _, rfl, ((((((((((((Ch.refl [M + 1, M + 9] s_7).ch c_14 (by simp)).ch c_21 (by simp)).ch c_24 (by simp)).ch c_27 (by simp)).ch c_30 (by simp)).ch c_35 (by simp)).ch c_38 (by simp)).ch c_41 (by simp)).ch c_44 (by simp)).ch c_52 (by simp)).ch c_59 (by simp)), ?_⟩, ?_⟩
        ·
          refine ⟨kk + 1, by omega, by omega, by omega, ?_⟩
          have ho := o_58
          rw [hyi3] at ho
          rw [List.take_add_one, hpw, List.map_append]
          exact ho
        ·
          simp only []; omega
      ·
        refine al_t (M + 9) fun r115 s116 hr115 b_61 c_62 z_63 => ?_
        refine ⟨?_, ?_⟩
        ·
          have h_64 := b_29.ch c_62 (by simp)
          refine ld_t h_64 rfl ?_
          refine dInt_i ?_
          rfl
        ·
          refine ⟨?_, ?_⟩
          ·
            have h_65 := h_32.ch c_62 (by simp)
            refine ld_t h_65 rfl ?_
            refine dMap_i ?_
            rfl
          ·
            have h_66 := hvw.ch (((((((c_4.app c_10).app c_14).app c_21).app c_24).app c_27).app c_30).app c_62) (by simp <;> omega)
            refine look_oks keyI um52 z153 h_66 y.1 (by rw [hyi2]; exact hwv) ?_
            refine dT2 ?_
            refine dA3 ?_
            refine dBl_i ?_
            refine st_t b_61 rfl (by simp) fun s131 b_67 c_68o z_69 => ?_
            have c_68 := on_ch b_61 c_68o
            refine st_t b_67 rfl (by simp) fun s132 b_70 c_71o z_72 => ?_
            have c_71 := on_ch b_67 c_71o
            refine st_t b_70 rfl (by simp) fun s133 b_73 c_74o z_75 => ?_
            have c_74 := on_ch b_70 c_74o
            refine sB_t (by rfl) ?_
            have h_77 := b_29.ch c_62 (by simp)
            have h_78 := h_77.on c_68o (by omega)
            have h_79 := h_78.on c_71o (by omega)
            have h_80 := h_79.on c_74o (by omega)
            refine ld_t h_80 rfl ?_
            refine dInt_i ?_
            refine al_t (M + 9) fun r136 s137 hr136 b_81 c_82 z_83 => ?_
            have h_86 := ho.mv ((((((((c_21.app c_24).app c_27).app c_30).app c_62).app c_68).app c_71).app c_74).app c_82) (tagn (by simp))
            refine app_i1 u73 in3 h_86 b_81 (by omega) fun s_87 a_84 k_85 o_88 c_89 => ?_
            have z_90 := c_89.size
            refine dSl_i ?_
            intro _
            intros
            refine dSl_i ?_
            refine wr_t (by omega) ?_
            refine ⟨⟨s_87, rfl, _, _, _, _, rfl, ((((((((((((Ch.refl [M + 1, M + 9] s_7).ch c_14 (by simp)).ch c_21 (by simp)).ch c_24 (by simp)).ch c_27 (by simp)).ch c_30 (by simp)).ch c_62 (by simp)).ch c_68 (by simp)).ch c_71 (by simp)).ch c_74 (by simp)).ch c_82 (by simp)).ch c_89 (by simp)), ?_⟩, ?_⟩
            ·
              refine ⟨kk + 1, by omega, by omega, by omega, ?_⟩
              have ho := o_88
              rw [hyi3] at ho
              rw [List.take_add_one, hpw, List.map_append]
              exact ho
            ·
              simp only []; omega
    ·
      have h_91 := call1a.ch (c_10.app c_14) (by simp <;> omega)
      refine c_door Tryz.muLib h_91 (by rfl) (fun _ => by rfl) fun s_92 b_93 c_94 z_95 => ?_
      have c_94t := on_ch h_91 c_94
      have h_96 := ho.mv c_94t (tagn (by simp <;> omega))
      have h_97 := hvw.ch (((c_4.app c_10).app c_14).app c_94t) (by simp <;> omega)
      have h_98 := hvv.mv (((c_4.app c_10).app c_14).app c_94t) (tagn (by simp <;> omega))
      have h_99 := hvo.mv (((c_4.app c_10).app c_14).app c_94t) (tagn (by simp <;> omega))
      have h_100 := hvk.mv (((c_4.app c_10).app c_14).app c_94t) (tagn (by simp <;> omega))
      have h_101 := h_6.mv ((c_10.app c_14).app c_94t) (rngn (by simp <;> omega))
      have h_102 := hvC.mv (((c_4.app c_10).app c_14).app c_94t) (rngn (by simp <;> omega))
      have h_103 := hvP.mv (((c_4.app c_10).app c_14).app c_94t) (rngn (by simp <;> omega))
      have hwq0 := wlen_q ok
      have ho := h_96
      rw [List.take_of_length_le (by omega)] at ho
      obtain rfl : qn = V.wayb.length := by unfold VolM.wayb; rw [List.length_map]; omega
      refine ret_t' (s' := remark s_92 (M + 1) τ) rfl ⟨_, _, rfl, remark_ch (((((Ch.refl [U] s).ch c_4 (by simp)).ch c_10 (by simp)).fr c_14 hM (by simp)).ch c_94t (by simp)) hM (by omega), ho.remark, ?_⟩
      exact VolL.keep ⟨⟨_, _, _, _, _, _, b_93, h_97, h_98, hV.kn, h_99, h_100, h_101, h_102, h_103⟩, ok⟩ (by omega)
def wrStep (cl : List Int) (r : VolM × Bool) (b : Int) : VolM × Bool :=
  if ((r.1.P.of b).any fun i => decide (i ∈ cl)) = true ∧ r.1.way.length < 64 then ((r.1.write b).1, r.2 && ((r.1.write b).2 == 0)) else r
theorem write_P {V : VolM} {b : Int} : (V.write b).1.P = V.P := by
  unfold VolM.write
  split
  · rfl
  · split
    · rfl
    · split
      · rfl
      · split <;> rfl
theorem ready_len {V : VolM} (pok : POk V.P) : (V.ready.length : Int) ≤ V.P.last := by
  have h1 : V.ready.length ≤ V.P.blocks.length := List.length_filter_le _ _
  have := blocks_len pok; omega
theorem mem_fsteps {P : PatchM} {i : Int} : ∀ (ids l : List Int), i ∈ l → i ∈ ids.foldl P.fstep l
  | [], l, h => h
  | j :: ids, l, h => mem_fsteps ids _ (by
      unfold PatchM.fstep
      split
      · split
        · exact List.mem_append_left _ h
        · exact h
      · exact h)
theorem mem_free {P : PatchM} {i : Int} {x : PatM} (hx : P.find i = some x) (hp : P.pend x.needs = []) : ∀ (ids l : List Int), i ∈ ids → i ∈ ids.foldl P.fstep l
  | j :: ids, l, h => by
    rcases List.mem_cons.1 h with rfl | h
    · refine mem_fsteps ids _ ?_
      unfold PatchM.fstep
      rw [hx]
      simp only [hp, List.all_nil, if_true]
      simp
    · exact mem_free hx hp ids _ h
theorem free_of {P : PatchM} {b : Int} (h : ∃ i, i ∈ P.free b) : b ∈ P.blocks := by
  obtain ⟨i, hi⟩ := h
  have := free_sub hi
  unfold PatchM.of at this
  obtain ⟨x, hx, _⟩ := List.mem_map.1 this
  have h2 := List.mem_filter.1 hx
  exact mem_blocks.2 ⟨x, h2.1, by simpa using h2.2⟩
structure WrI (V : VolM) (r : VolM × Bool) : Prop where
  P : r.1.P = V.P
  w : ∀ p ∈ r.1.way, ∃ i ∈ p.2.ids, i ∈ V.P.all
theorem WrI.step {V : VolM} {cl : List Int} {r : VolM × Bool} {b : Int} (h : WrI V r) : WrI V (wrStep cl r b) := by
  unfold wrStep
  split
  · refine ⟨write_P.trans h.P, fun p hp => ?_⟩
    unfold VolM.write at hp
    split at hp
    · exact h.w p hp
    · split at hp
      · exact h.w p hp
      · split at hp
        · exact h.w p hp
        · rename_i hf
          split at hp
          · exact h.w p hp
          · rcases List.mem_append.1 (show p ∈ r.1.way ++ [_] from hp) with h1 | h1
            · exact h.w p h1
            · rw [List.mem_singleton] at h1; subst h1
              obtain ⟨i, l, e⟩ := List.exists_cons_of_ne_nil hf
              refine ⟨i, by show i ∈ r.1.P.free b; rw [e]; simp, ?_⟩
              have : i ∈ r.1.P.free b := by rw [e]; simp
              rw [← h.P]; exact of_sub (free_sub this)
  · exact h
end Go.Proofs.YtngploohhmfaiaaGreat.E
/- What a law's arguments are: rows of cells that read as values of a type; slices of them, in states with marks. -/
namespace Go.Proofs.YtngploohhmfaiaaGreat.E
open Go Go.WideShapes
set_option linter.unusedVariables false
/-- a row of cells that reads as a value of a type -/
def Rd {H : Type} (enc : TypeId × Value → H) (P : Program) (W : World) (t : TypeId) (row : List Value) : Prop := ∃ fuel y, DataW.trod enc P W 0 (fun _ => true) true fuel t row = some y
section
variable {H : Type} {enc : TypeId × Value → H} {P : Program} {W : World} {t e : TypeId} {row : List Value}
theorem rd_int {k : IntKind} (ht : P.underlying t = some (.int k)) (h : Rd enc P W t row) : ∃ x, row = [.int k x] ∧ (Lit.int k x).wf = true := by
  obtain ⟨f, y, h⟩ := h
  obtain ⟨n, h1, _, h2⟩ := DataW.trod_int ht h
  exact ⟨n, h1, h2⟩
theorem flat_get {k : Nat} : ∀ {rows : List (List Value)}, (∀ r ∈ rows, r.length = k) → ∀ {j : Nat} {v : Value}, rows.flatten[j]? = some v → ∃ i m r, j = i * k + m ∧ m < k ∧ rows[i]? = some r ∧ r[m]? = some v
  | [], _, j, v, h => by simp at h
  | r :: rows, hk, j, v, h => by
    rw [List.flatten_cons] at h
    have hr := hk r (by simp)
    by_cases hj : j < k
    · rw [List.getElem?_append_left (by omega)] at h
      exact ⟨0, j, r, by omega, hj, by simp, h⟩
    · rw [List.getElem?_append_right (by omega)] at h
      obtain ⟨i, m, r', h1, h2, h3, h4⟩ := flat_get (fun r' h' => hk r' (List.mem_cons_of_mem _ h')) h
      exact ⟨i + 1, m, r', by rw [Nat.add_mul, Nat.one_mul]; omega, h2, by simpa using h3, h4⟩
theorem sl_rows {a : Addr} {k : Nat} {rows : List (List Value)} (hk : ∀ r ∈ rows, r.length = k) (h : ∀ i r, rows[i]? = some r → ∀ m, m < k → W.cell? ((a.add (i * k)).add m) = r[m]?) : Sl ⟨W.heap, fun _ => 0⟩ (some a) rows.flatten 0 := by
  by_cases he : rows.flatten = []
  · exact .inl he
  right
  have h0 : ∃ v, W.cell? a = some v := by
    obtain ⟨v, hv⟩ : ∃ v, rows.flatten[0]? = some v := by
      cases hf : rows.flatten with
      | nil => exact absurd hf he
      | cons v l => exact ⟨v, by simp⟩
    obtain ⟨i, m, r, h1, h2, h3, h4⟩ := flat_get hk hv
    obtain rfl : m = 0 := by omega
    have hi : i * k = 0 := by omega
    have := h i r h3 0 h2
    rw [hi] at this
    refine ⟨v, ?_⟩
    rw [← h4, ← this]
    simp [Addr.add]
  obtain ⟨v0, hv0⟩ := h0
  obtain ⟨g, o, sp⟩ := a
  have hsp : sp = none := by
    cases sp with
    | none => rfl
    | some x =>
      rw [cell_eq] at hv0
      unfold cellH at hv0
      split at hv0 <;> simp at hv0
  subst hsp
  have hlt : g < W.heap.size := by
    rw [cell_eq] at hv0
    unfold cellH at hv0
    split at hv0
    · rename_i hg; exact (Array.getElem?_eq_some_iff.1 hg).1
    · cases hv0
  refine ⟨g, o, rfl, hlt, rfl, fun j v hv => ?_⟩
  obtain ⟨i, m, r, h1, h2, h3, h4⟩ := flat_get hk hv
  have := h i r h3 m h2
  rw [add_mk, add_mk, h4, cell_eq] at this
  rw [h1, ← Nat.add_assoc]; exact this
theorem rd_sl (ht : P.underlying t = some (.slice e)) (h : Rd enc P W t row) : ∃ (a : Option Addr) (n c : Nat) (rows : List (List Value)), row = [.slice a n c] ∧ n ≤ c ∧ c ≤ maxLen ∧ (a = none → n = 0) ∧ rows.length = n ∧ (∀ r ∈ rows, r.length = P.cellsOf e ∧ Rd enc P W e r) ∧ Sl ⟨W.heap, fun _ => 0⟩ a rows.flatten 0 := by
  obtain ⟨f, y, h⟩ := h
  rcases DataW.trod_slice ht h with ⟨h0, _⟩ | ⟨a, len, cap, elems, rest, n, rfl, rfl, rfl, hb, hl, hm, hlen, hel, _⟩
  · exact ⟨none, 0, 0, [], h0, by omega, by omega, fun _ => rfl, rfl, fun r hr => (List.not_mem_nil hr).elim, .inl rfl⟩
  · have hrow : ∀ i, i < len → ∃ r, W.cells? 0 (a.add (i * P.cellsOf e)) (P.cellsOf e) = some r ∧ Rd enc P W e r := fun i hi => by
      have h1 := hel i hi
      rw [List.getElem?_eq_getElem (by omega)] at h1
      obtain ⟨r, h2, h3⟩ := Option.bind_eq_some_iff.1 h1
      exact ⟨r, h2, n, _, h3⟩
    let rows := (List.range len).map fun i => (W.cells? 0 (a.add (i * P.cellsOf e)) (P.cellsOf e)).getD []
    have hget : ∀ i r, rows[i]? = some r → W.cells? 0 (a.add (i * P.cellsOf e)) (P.cellsOf e) = some r ∧ Rd enc P W e r := fun i r hr => by
      have hi : i < len := by
        have := (List.getElem?_eq_some_iff.1 hr).1
        simpa [rows] using this
      obtain ⟨r', h1, h2⟩ := hrow i hi
      simp [rows, hi, h1] at hr
      subst hr; exact ⟨h1, h2⟩
    have hmem : ∀ r ∈ rows, r.length = P.cellsOf e ∧ Rd enc P W e r := fun r hr => by
      obtain ⟨i, hi⟩ := List.getElem?_of_mem hr
      obtain ⟨h1, h2⟩ := hget i r hi
      exact ⟨(World.cells?_some h1).2.1, h2⟩
    exact ⟨some a, len, cap, rows, rfl, hl, hm, (fun h => by cases h), by simp [rows], hmem, sl_rows (fun r hr => (hmem r hr).1) fun i r hr m hm => (World.cells?_some (hget i r hr).1).2.2 m hm⟩
/-- a slice of whole numbers -/
theorem rd_ints (ht : P.underlying t = some (.slice e)) (he : P.underlying e = some (.int .i64)) (h : Rd enc P W t row) : ∃ (a : Option Addr) (n c : Nat) (ls : List Int), row = [.slice a n c] ∧ n ≤ c ∧ c ≤ maxLen ∧ (a = none → n = 0) ∧ ls.length = n ∧ Sl ⟨W.heap, fun _ => 0⟩ a (ivs ls) 0 ∧ ∀ x ∈ ls, (Lit.int .i64 x).wf = true := by
  obtain ⟨a, n, c, rows, h1, h2, h3, h4, h5, h6, h7⟩ := rd_sl ht h
  have hx : ∀ l : List (List Value), (∀ r ∈ l, r.length = P.cellsOf e ∧ Rd enc P W e r) → ∃ ls : List Int, ls.length = l.length ∧ l.flatten = ivs ls ∧ ∀ x ∈ ls, (Lit.int .i64 x).wf = true := by
    intro l
    induction l with
    | nil => intro _; exact ⟨[], rfl, rfl, fun x hx => (List.not_mem_nil hx).elim⟩
    | cons r l ih =>
      intro hr
      obtain ⟨ls, k1, k2, k3⟩ := ih fun r' h' => hr r' (List.mem_cons_of_mem _ h')
      obtain ⟨x, rfl, hw⟩ := rd_int he (hr r (by simp)).2
      refine ⟨x :: ls, by simp [k1], by simp [k2, ivs], fun y hy => ?_⟩
      rcases List.mem_cons.1 hy with rfl | hy
      · exact hw
      · exact k3 y hy
  obtain ⟨ls, k1, k2, k3⟩ := hx rows h6
  exact ⟨a, n, c, ls, h1, h2, h3, h4, by omega, by rw [← k2]; exact h7, k3⟩
/-- a slice of bytes -/
theorem rd_bytes (ht : P.underlying t = some (.slice e)) (he : P.underlying e = some (.int .u8)) (h : Rd enc P W t row) : ∃ (a : Option Addr) (n c : Nat) (ls : List UInt8), row = [.slice a n c] ∧ n ≤ c ∧ c ≤ maxLen ∧ (a = none → n = 0) ∧ ls.length = n ∧ Sl ⟨W.heap, fun _ => 0⟩ a (bvs ls) 0 := by
  obtain ⟨a, n, c, rows, h1, h2, h3, h4, h5, h6, h7⟩ := rd_sl ht h
  have hx : ∀ l : List (List Value), (∀ r ∈ l, r.length = P.cellsOf e ∧ Rd enc P W e r) → ∃ ls : List UInt8, ls.length = l.length ∧ l.flatten = bvs ls := by
    intro l
    induction l with
    | nil => intro _; exact ⟨[], rfl, rfl⟩
    | cons r l ih =>
      intro hr
      obtain ⟨ls, k1, k2⟩ := ih fun r' h' => hr r' (List.mem_cons_of_mem _ h')
      obtain ⟨x, rfl, hw⟩ := rd_int he (hr r (by simp)).2
      have e1 : IntKind.u8.min = 0 := by decide
      have e2 : IntKind.u8.max = 255 := by decide
      simp only [Lit.wf, e1, e2, Bool.and_eq_true, decide_eq_true_eq] at hw
      refine ⟨UInt8.ofNat x.toNat :: ls, by simp [k1], ?_⟩
      have : bv (UInt8.ofNat x.toNat) = .int .u8 x := by
        unfold bv
        have : (UInt8.ofNat x.toNat).toNat = x.toNat % 256 := rfl
        rw [this]
        congr 1
        omega
      simp [k2, bvs, this]
  obtain ⟨ls, k1, k2⟩ := hx rows h6
  exact ⟨a, n, c, ls, h1, h2, h3, h4, by omega, by rw [← k2]; exact h7⟩
theorem open_v {v : Value} {a : Option Addr} {n c : Nat} {r : Reach} {b0 : Nat} (ht : P.underlying t = some (.slice e)) (hval : Value.okWide P W r b0 t v) (h : v.cells.toList = [.slice a n c]) : v = .slice a n c := by
  obtain ⟨a', n', c', rfl⟩ := okWide_slice ht hval
  simp [Value.cells] at h
  obtain ⟨rfl, rfl, rfl⟩ := h; rfl
end
end Go.Proofs.YtngploohhmfaiaaGreat.E
/- From a contract in states with marks to the kit's walk of a law. -/
namespace Go.Proofs.YtngploohhmfaiaaGreat.E
open Go Go.RowKit
set_option linter.unusedVariables false
theorem walkB {P : Program} {f : FuncId} {args : Array Value} {W : World}
    (h : TRet P f args ⟨W.heap, fun _ => 0⟩ fun v s' => v = .bool true ∧ Ch [] ⟨W.heap, fun _ => 0⟩ s') :
    Calls P f args W fun e W' => e = .returned (.bool true) ∧ Below W.heap.size W W' :=
  (h W rfl).mono fun e w' ⟨⟨v, s', he, hs, hv, hc⟩, hl⟩ =>
    ⟨by rw [he, hv], ⟨hl.os, hl.tape, hl.output, by rw [← hs]; exact hc.size, fun k hk => by rw [← hs]; exact hc.get k hk (by simp)⟩⟩
theorem walkT {P : Program} {f : FuncId} {args : Array Value} {W : World} {T : List Nat} (hT : 0 ∉ T)
    (h : TRet P f args ⟨W.heap, fun _ => 0⟩ fun v s' => v = .bool true ∧ Ch T ⟨W.heap, fun _ => 0⟩ s') :
    Calls P f args W fun e W' => e = .returned (.bool true) ∧ Below W.heap.size W W' :=
  walkB (h.mono fun v s' ⟨h1, h2⟩ => ⟨h1, Chg.mono h2 fun j _ hB => absurd hB hT⟩)
end Go.Proofs.YtngploohhmfaiaaGreat.E
/- Contracts of functions. -/
namespace Go.Proofs.YtngploohhmfaiaaGreat.E
open Go Go.Proofs Go.RowKit Go.Maps Go.Shelf Go.Sort
set_option linter.unusedVariables false
set_option linter.unusedSimpArgs false
/-- patches over bytes, one behind another -/
def ovL (d : List UInt8) (xs : List PatM) : List UInt8 := xs.foldl (fun d x => overlay d x.off.toNat x.by_) d
def cov (j : Nat) (x : PatM) : Bool := decide (x.off.toNat ≤ j ∧ j < x.off.toNat + x.by_.length)
def fitX (x : PatM) : Prop := 0 ≤ x.off ∧ x.off + x.by_.length ≤ 128
theorem ovL_len {xs : List PatM} : ∀ {d : List UInt8}, d.length = 128 → (∀ x ∈ xs, fitX x) → (ovL d xs).length = 128 := by
  induction xs with
  | nil => intro d h _; exact h
  | cons x xs ih =>
    intro d h hf
    have := hf x (by simp)
    unfold fitX at this
    exact ih (by rw [overlay_len (by omega)]; exact h) fun y hy => hf y (List.mem_cons_of_mem _ hy)
theorem ovL_snoc (d : List UInt8) (xs : List PatM) (x : PatM) : ovL d (xs ++ [x]) = overlay (ovL d xs) x.off.toNat x.by_ := by unfold ovL; rw [List.foldl_append]; rfl
def lastC (j : Nat) (xs : List PatM) : Option PatM := xs.reverse.find? (cov j)
theorem lastC_snoc (j : Nat) (xs : List PatM) (x : PatM) : lastC j (xs ++ [x]) = if cov j x = true then some x else lastC j xs := by
  unfold lastC
  rw [List.reverse_append, List.reverse_singleton, List.singleton_append, List.find?_cons]
  cases cov j x <;> rfl
theorem snoc_indP {α : Type} {p : List α → Prop} (h0 : p []) (h1 : ∀ l x, p l → p (l ++ [x])) (l : List α) : p l := by
  rw [← l.reverse_reverse]
  induction l.reverse with
  | nil => exact h0
  | cons x t ih => rw [List.reverse_cons]; exact h1 _ x ih
theorem ovL_get {d : List UInt8} (hd : d.length = 128) (j : Nat) (xs : List PatM) : (∀ x ∈ xs, fitX x) → (ovL d xs)[j]? = match lastC j xs with
    | some x => x.by_[j - x.off.toNat]?
    | none => d[j]? := by
  refine snoc_indP (p := fun xs => (∀ x ∈ xs, fitX x) → (ovL d xs)[j]? = match lastC j xs with
    | some x => x.by_[j - x.off.toNat]?
    | none => d[j]?) (fun _ => rfl) (fun xs x ih hf => ?_) xs
  have hx := hf x (by simp)
  have hxs : ∀ y ∈ xs, fitX y := fun y hy => hf y (List.mem_append_left _ hy)
  have hl := ovL_len hd hxs
  unfold fitX at hx
  rw [ovL_snoc, overlay_get (by omega), lastC_snoc]
  unfold cov
  by_cases hc : x.off.toNat ≤ j ∧ j < x.off.toNat + x.by_.length
  · rw [if_pos hc, if_pos (decide_eq_true hc)]
  · rw [if_neg hc, if_neg (by simpa using hc)]; exact ih hxs
theorem lastC_mem {j : Nat} {xs : List PatM} {x : PatM} (h : lastC j xs = some x) : x ∈ xs ∧ cov j x = true := by
  have h1 := List.mem_of_find?_eq_some h
  have h2 := List.find?_some h
  exact ⟨by simpa using h1, h2⟩
theorem lastC_none {j : Nat} {xs : List PatM} : lastC j xs = none ↔ ∀ x ∈ xs, cov j x = false := by
  unfold lastC
  rw [List.find?_eq_none]
  constructor
  · intro h x hx; have := h x (by simpa using hx); simpa using this
  · intro h x hx; have := h x (by simpa using hx); simp [this]
/-- the last of a rising row that covers a place is the greatest -/
theorem lastC_max {j : Nat} {xs : List PatM} (hs : xs.Pairwise fun x y => x.id < y.id) {x : PatM} (h : lastC j xs = some x) : ∀ y ∈ xs, cov j y = true → y.id ≤ x.id := by
  revert hs h
  refine snoc_indP (p := fun xs => xs.Pairwise (fun x y => x.id < y.id) → lastC j xs = some x → ∀ y ∈ xs, cov j y = true → y.id ≤ x.id) (fun _ _ y hy => by cases hy) (fun xs z ih hs h y hy hc => ?_) xs
  rw [List.pairwise_append] at hs
  rw [lastC_snoc] at h
  by_cases hz : cov j z = true
  · rw [if_pos hz] at h
    cases h
    rcases List.mem_append.1 hy with hy | hy
    · exact Int.le_of_lt (hs.2.2 y hy x (by simp))
    · rw [List.mem_singleton] at hy; rw [hy]; exact Int.le_refl _
  · rw [if_neg hz] at h
    rcases List.mem_append.1 hy with hy | hy
    · exact ih hs.1 h y hy hc
    · rw [List.mem_singleton] at hy; subst hy; exact absurd hc hz
theorem lastC_ex {j : Nat} {xs : List PatM} {y : PatM} (hy : y ∈ xs) (hc : cov j y = true) : ∃ x, lastC j xs = some x := by
  cases h : lastC j xs with
  | some x => exact ⟨x, rfl⟩
  | none => have := lastC_none.1 h y hy; rw [hc] at this; cases this
/-- first some, then the others: it is all one, where of two that overlap the earlier is not left behind -/
theorem ovL_split {d : List UInt8} (hd : d.length = 128) {xs : List PatM} (hs : xs.Pairwise fun x y => x.id < y.id) (hf : ∀ x ∈ xs, fitX x) (q : PatM → Bool)
    (hq : ∀ x ∈ xs, ∀ y ∈ xs, x.id < y.id → (∃ j, cov j x = true ∧ cov j y = true) → q y = true → q x = true) :
    ovL (ovL d (xs.filter q)) (xs.filter fun x => !q x) = ovL d xs := by
  have f1 : ∀ x ∈ xs.filter q, fitX x := fun x hx => hf x (List.mem_filter.1 hx).1
  have f2 : ∀ x ∈ xs.filter (fun x => !q x), fitX x := fun x hx => hf x (List.mem_filter.1 hx).1
  apply List.ext_getElem?
  intro j
  rw [ovL_get (ovL_len hd f1) j _ f2, ovL_get hd j _ f1, ovL_get hd j _ hf]
  cases h : lastC j xs with
  | none =>
    have hn := lastC_none.1 h
    rw [lastC_none.2 fun x hx => hn x (List.mem_filter.1 hx).1, lastC_none.2 fun x hx => hn x (List.mem_filter.1 hx).1]
  | some x =>
    obtain ⟨hx, hc⟩ := lastC_mem h
    have hm := lastC_max hs h
    have uniq : ∀ y ∈ xs, y.id = x.id → y = x := fun y hy e => by
      obtain ⟨a, ha, rfl⟩ := List.getElem_of_mem hy
      obtain ⟨b, hb, rfl⟩ := List.getElem_of_mem hx
      have hp := List.pairwise_iff_getElem.1 hs
      rcases Nat.lt_trichotomy a b with h1 | h1 | h1
      · have := hp a b ha hb h1; omega
      · subst h1; rfl
      · have := hp b a hb ha h1; omega
    cases hqx : q x with
    | false =>
      have hx2 : x ∈ xs.filter fun x => !q x := List.mem_filter.2 ⟨hx, by rw [hqx]; rfl⟩
      obtain ⟨y, hy⟩ := lastC_ex hx2 hc
      rw [hy]
      have h1 := lastC_max (hs.sublist List.filter_sublist) hy x hx2 hc
      obtain ⟨h2, h3⟩ := lastC_mem hy
      have h4 := hm y (List.mem_filter.1 h2).1 h3
      rw [uniq y (List.mem_filter.1 h2).1 (by omega)]
    | true =>
      have hx1 : x ∈ xs.filter q := List.mem_filter.2 ⟨hx, hqx⟩
      have hn2 : lastC j (xs.filter fun x => !q x) = none := lastC_none.2 fun y hy => by
        obtain ⟨h1, h2⟩ := List.mem_filter.1 hy
        cases hcy : cov j y with
        | false => rfl
        | true =>
          exfalso
          have h4 := hm y h1 hcy
          by_cases e : y.id = x.id
          · have := uniq y h1 e; subst this; rw [hqx] at h2; cases h2
          · have := hq y h1 x hx (by omega) ⟨j, hcy, hc⟩ hqx
            rw [this] at h2; cases h2
      rw [hn2]
      simp only
      obtain ⟨y, hy⟩ := lastC_ex hx1 hc
      rw [hy]
      have h1 := lastC_max (hs.sublist List.filter_sublist) hy x hx1 hc
      obtain ⟨h2, h3⟩ := lastC_mem hy
      have h4 := hm y (List.mem_filter.1 h2).1 h3
      rw [uniq y (List.mem_filter.1 h2).1 (by omega)]
/-- of two patches that overlap the later one needs the earlier one -/
def POv (P : PatchM) : Prop := ∀ x ∈ P.l, ∀ y ∈ P.l, x.id < y.id → x.blk = y.blk → (∃ j, cov j x = true ∧ cov j y = true) → x.id ∈ y.needs
theorem POk.fitX {P : PatchM} (ok : POk P) {x : PatM} (hx : x ∈ P.l) : fitX x := by have := ok.fit x hx; exact ⟨this.2.1, this.2.2.2⟩
theorem over_ovL {P : PatchM} (ok : POk P) : ∀ {xs : List PatM} {d : List UInt8}, (∀ x ∈ xs, x ∈ P.l) → P.over d (xs.map (·.id)) = ovL d xs := by
  intro xs
  induction xs with
  | nil => intro d _; rfl
  | cons x xs ih =>
    intro d h
    show P.over (P.step d x.id) (xs.map (·.id)) = ovL (overlay d x.off.toNat x.by_) xs
    have : P.step d x.id = overlay d x.off.toNat x.by_ := by unfold PatchM.step; rw [find_by ok.nodup (h x (by simp))]
    rw [this]
    exact ih fun y hy => h y (List.mem_cons_of_mem _ hy)
theorem over_of {P : PatchM} (ok : POk P) (b : Int) (d : List UInt8) : P.over d (P.of b) = ovL d (P.l.filter fun x => x.blk == b) := over_ovL ok fun x hx => (List.mem_filter.1 hx).1
theorem fsteps_srt {P : PatchM} : ∀ (ids l : List Int), (l ++ ids).Pairwise (· < ·) → (ids.foldl P.fstep l).Pairwise (· < ·)
  | [], l, h => by simpa using h
  | i :: ids, l, h => by
    refine fsteps_srt ids (P.fstep l i) ?_
    unfold PatchM.fstep
    have h2 : (l ++ ids).Pairwise (· < ·) := h.sublist (List.Sublist.append_left (List.sublist_cons_self i ids) l)
    split
    · split
      · rw [List.append_assoc]; exact h
      · exact h2
    · exact h2
theorem of_srt {P : PatchM} (ok : POk P) (b : Int) : (P.of b).Pairwise (· < ·) := List.pairwise_map.2 (ok.srt.sublist List.filter_sublist)
theorem free_srt {P : PatchM} (ok : POk P) (b : Int) : (P.free b).Pairwise (· < ·) := fsteps_srt (P.of b) [] (by simpa using of_srt ok b)
theorem free_filter {P : PatchM} (ok : POk P) (b : Int) : P.free b = ((P.l.filter fun x => x.blk == b).filter fun x => decide (x.id ∈ P.free b)).map (·.id) := by
  refine srt_ext (free_srt ok b) (List.pairwise_map.2 ((ok.srt.sublist List.filter_sublist).sublist List.filter_sublist)) fun i => ?_
  constructor
  · intro h
    have h1 := free_sub h
    unfold PatchM.of at h1
    obtain ⟨x, hx, rfl⟩ := List.mem_map.1 h1
    exact List.mem_map.2 ⟨x, List.mem_filter.2 ⟨hx, by simpa using h⟩, rfl⟩
  · intro h
    obtain ⟨x, hx, rfl⟩ := List.mem_map.1 h
    simpa using (List.mem_filter.1 hx).2
theorem over_free {P : PatchM} (ok : POk P) (b : Int) (d : List UInt8) : P.over d (P.free b) = ovL d ((P.l.filter fun x => x.blk == b).filter fun x => decide (x.id ∈ P.free b)) := by
  conv => lhs; rw [free_filter ok b]
  exact over_ovL ok fun x hx => (List.mem_filter.1 (List.mem_filter.1 hx).1).1
/-- what may be written needs only what is done, or goes with it -/
theorem free_closed {P : PatchM} {b i : Int} {x : PatM} (hi : i ∈ P.free b) (hx : P.find i = some x) : ∀ n ∈ P.pend x.needs, n ∈ P.free b := by
  have key : ∀ (ids l : List Int), (∀ j ∈ l, ∀ y, P.find j = some y → ∀ n ∈ P.pend y.needs, n ∈ l) → ∀ j ∈ ids.foldl P.fstep l, ∀ y, P.find j = some y → ∀ n ∈ P.pend y.needs, n ∈ ids.foldl P.fstep l := fun ids => by
    induction ids with
    | nil => intro l h; exact h
    | cons k ids ih =>
      intro l h
      refine ih (P.fstep l k) fun j hj y hy n hn => ?_
      unfold PatchM.fstep at hj ⊢
      split at hj
      · rename_i z hz
        split at hj
        · rename_i hall
          rw [if_pos hall]
          rcases List.mem_append.1 hj with hj | hj
          · exact List.mem_append_left _ (h j hj y hy n hn)
          · rw [List.mem_singleton] at hj; subst hj
            rw [hz] at hy; cases hy
            have := List.all_eq_true.1 hall n hn
            exact List.mem_append_left _ (by simpa using this)
        · rename_i hall
          rw [if_neg hall]; exact h j hj y hy n hn
      · exact h j hj y hy n hn
  exact key (P.of b) [] (by simp) i hi x hx
theorem free_ovl {P : PatchM} (ok : POk P) (ov : POv P) {b : Int} {x y : PatM} (hx : x ∈ P.l) (hy : y ∈ P.l) (hb : x.blk = y.blk) (hlt : x.id < y.id) (hc : ∃ j, cov j x = true ∧ cov j y = true) (h : y.id ∈ P.free b) : x.id ∈ P.free b := by
  have h1 := ov x hx y hy hlt hb hc
  exact free_closed h (find_by ok.nodup hy) x.id (List.mem_filter.2 ⟨List.mem_map.2 ⟨x, hx, rfl⟩, by simpa using h1⟩)
theorem fin_of_ne {P : PatchM} {l : List Int} {b : Int} (h : ∀ i ∈ l, i ∈ P.of b) (ok : POk P) {c : Int} (hc : c ≠ b) : (P.fin l).l.filter (fun x => x.blk == c) = P.l.filter fun x => x.blk == c := by
  show (P.l.filter fun x => !decide (x.id ∈ l)).filter _ = _
  rw [List.filter_filter]
  apply List.filter_congr
  intro x hx
  by_cases hb : x.blk = c
  · have : x.id ∉ l := fun hm => by
      have h1 := h _ hm
      unfold PatchM.of at h1
      obtain ⟨y, hy, e⟩ := List.mem_map.1 h1
      have h2 := List.mem_filter.1 hy
      have g1 := find_by ok.nodup h2.1
      have g2 := find_by ok.nodup hx
      rw [e, g2] at g1
      cases Option.some.inj g1
      exact hc (by have := h2.2; simp at this; omega)
    simp [hb, this]
  · simp [show (x.blk == c) = false by simpa using hb]
/-- what is read does not hang on what was written -/
theorem now_fin {P : PatchM} (ok : POk P) (ov : POv P) (b : Int) {d : List UInt8} (hd : d.length = 128) : (P.fin (P.free b)).over (P.over d (P.free b)) ((P.fin (P.free b)).of b) = P.over d (P.of b) := by
  have ok2 := ok.fin (P.free b) (fun i hi => of_sub (free_sub hi))
  rw [over_of ok2, over_free ok, over_of ok]
  have e : (P.fin (P.free b)).l.filter (fun x => x.blk == b) = (P.l.filter fun x => x.blk == b).filter fun x => !decide (x.id ∈ P.free b) := by
    show (P.l.filter _).filter _ = _
    rw [List.filter_filter, List.filter_filter]
    apply List.filter_congr; intro x _; rw [Bool.and_comm]
  rw [e]
  refine ovL_split hd (ok.srt.sublist List.filter_sublist) (fun x hx => ok.fitX (List.mem_filter.1 hx).1) _ fun x hx y hy hlt hc hq => ?_
  obtain ⟨hx1, hx2⟩ := List.mem_filter.1 hx
  obtain ⟨hy1, hy2⟩ := List.mem_filter.1 hy
  have := free_ovl ok ov hx1 hy1 (by simp at hx2 hy2; omega) hlt hc (by simpa using hq)
  simpa using this
theorem now_fin_ne {P : PatchM} (ok : POk P) (b : Int) {c : Int} (hc : c ≠ b) (d : List UInt8) : (P.fin (P.free b)).over d ((P.fin (P.free b)).of c) = P.over d (P.of c) := by
  have ok2 := ok.fin (P.free b) (fun i hi => of_sub (free_sub hi))
  rw [over_of ok2, over_of ok, fin_of_ne (fun i hi => free_sub hi) ok hc]
theorem POv.fin {P : PatchM} (h : POv P) (l : List Int) : POv (P.fin l) := fun x hx y hy => h x (List.mem_filter.1 hx).1 y (List.mem_filter.1 hy).1
theorem POv.add {P : PatchM} (ok : POk P) (h : POv P) {b o : Int} {y : List UInt8} {needs : List Int} (hf : fitsP b o y.length) : POv { P with last := P.last + 1, l := P.l ++ [P.newP b o y needs] } := fun x hx z hz hlt hb hc => by
  unfold fitsP at hf
  rcases List.mem_append.1 (show x ∈ P.l ++ [_] from hx) with h1 | h1 <;> rcases List.mem_append.1 (show z ∈ P.l ++ [_] from hz) with h2 | h2
  · exact h x h1 z h2 hlt hb hc
  · rw [List.mem_singleton] at h2; subst h2
    refine List.mem_map.2 ⟨x, List.mem_filter.2 ⟨h1, ?_⟩, rfl⟩
    obtain ⟨j, c1, c2⟩ := hc
    have hfx := ok.fit x h1
    unfold cov at c1 c2
    simp only [decide_eq_true_eq] at c1 c2
    have c2 : o.toNat ≤ j ∧ j < o.toNat + y.length := c2
    have hb : x.blk = b := hb
    rw [Bool.or_eq_true]; right
    unfold ovx ovl
    exact decide_eq_true ⟨hb.symm, by omega, by omega⟩
  · rw [List.mem_singleton] at h1; subst h1
    have := ok.rng z h2
    have hlt : P.last + 1 < z.id := hlt
    omega
  · rw [List.mem_singleton] at h1 h2; subst h1 h2
    exact absurd hlt (Int.lt_irrefl _)
theorem newCache {s : TH} {c T d r : Nat} {b : Int} (h1 : Blk s c [.pointer (some ⟨d, 0, none⟩), .int .i64 b, .map (some r), .int .i64 0, .int .i64 0, .int .i64 0] 203 T) (h2 : MapK (Value.int .i64) s r [] (T + 1)) (hb : 1 ≤ b ∧ b ≤ 64) : Cache s c T d ⟨[], b, 0, 0, 0⟩ :=
  ⟨⟨r, [], fun _ => 0, fun _ => (none, 0), h1, h2, ⟨fun x h => (List.not_mem_nil h).elim⟩, ⟨fun x h => (List.not_mem_nil h).elim⟩, ⟨List.Perm.refl _, fun x h => (List.not_mem_nil h).elim, fun x h => (List.not_mem_nil h).elim, List.nodup_nil, fun x h => (List.not_mem_nil h).elim⟩, hb, by simp; omega⟩,
    ⟨List.Pairwise.nil, fun x h => (List.not_mem_nil h).elim, by simp, by simp, fun x h => (List.not_mem_nil h).elim⟩⟩
/-- a volume that was opened -/
def VolM.fresh (bs : List (List UInt8)) : VolM := ⟨diskOf bs, ⟨0, [], []⟩, [], ⟨false, false, 0, []⟩, 0⟩
theorem VOk.fresh {bs : List (List UInt8)} (h : ∀ y ∈ bs, y.length = 128) : VOk (VolM.fresh bs) :=
  ⟨rfl, fun p hp => (List.not_mem_nil hp).elim, List.Pairwise.nil, ⟨Int.le_refl _, Int.le_refl _⟩, ⟨Int.le_refl _, (by decide : (0 : Int) ≤ 1000000000000000000)⟩, fun _ => Int.le_refl _, h, (by decide : 0 ≤ 64), fun p hp => (List.not_mem_nil hp).elim⟩
theorem newPSet {s : TH} {p T r1 r2 : Nat} (h : Blk s p [.int .i64 0, .map (some r1), .map (some r2), .bool true] 192 T) (h1 : MapK (Value.int .i64) s r1 [] (T + 1)) (h2 : MapK (Value.int .i64) s r2 [] (T + 2)) : PSet s p T ⟨0, [], []⟩ :=
  ⟨⟨r1, r2, [], [], h, h1, h2, trivial, rfl, fun e he => (List.not_mem_nil he).elim⟩, ⟨List.Pairwise.nil, fun x hx => (List.not_mem_nil hx).elim, fun x hx => (List.not_mem_nil hx).elim, fun x hx => (List.not_mem_nil hx).elim, fun x hx => (List.not_mem_nil hx).elim, fun x hx => (List.not_mem_nil hx).elim, fun i h1 h2 => absurd (Int.le_trans h1 h2) (by show ¬ (1 : Int) ≤ 0; decide), fun x hx => (List.not_mem_nil hx).elim, (by decide : (0 : Int) ≤ 0 ∧ (0 : Int) ≤ 1000000)⟩⟩
/-- bollard/volume.Open -/
theorem c_vopen2 (U d : Nat) (bs : List (List UInt8)) (b : Int) (s : TH) (hU : 10 ≤ U) (hd : Disk s d (U + 10) (diskOf bs)) (hl : ∀ y ∈ bs, y.length = 128) (hb : 1 ≤ b ∧ b ≤ 64) : TRet Tryz.prog 31 #[.pointer (some ⟨d, 0, none⟩), .int .i64 b] s fun v s' => ∃ r, v = .tuple #[.pointer (some ⟨r, 0, none⟩), .int .i64 0] ∧ Ch [] s s' ∧ VolL s' r d U (VolM.fresh bs) 0 := by
  refine F31_calls _ _  ?_
  unfold F31
  refine tcall (c_cnew (U + 10) d (diskOf bs) (U + 20) b _ (by omega) hd hb) ?_
  rintro v_2 s_1 ⟨ccall1, rcall1, rfl, c_4, call1a, call1b⟩
  have z_5 := c_4.size
  refine dT2 ?_
  refine dPtr_i ?_
  refine dInt_i ?_
  refine sB_f (by rfl) ?_
  refine tcall (c_pnew (U + 30) _) ?_
  rintro v_7 s_6 ⟨pcall2, r1call2, r2call2, rfl, c_9, call2a, call2b, call2c⟩
  have z_10 := c_9.size
  refine dPtr_i ?_
  refine alm_t (Value.int .i64) (U + 1) fun r10 s11 hr10 b_11 c_12 z_13 => ?_
  refine al_t U fun r12 s13 hr12 b_14 c_15 z_16 => ?_
  refine ret_t ?_
  have h_17 := b_11.ch c_15 (by simp)
  have h_18 := hd.mv (((c_4.app c_9).app c_12).app c_15) (rngn (by simp))
  have h_19 := call1a.ch ((c_9.app c_12).app c_15) (by simp)
  have h_20 := call1b.ch ((c_9.app c_12).app c_15) (by simp)
  have h_21 := call2a.ch (c_12.app c_15) (by simp)
  have h_22 := call2b.ch (c_12.app c_15) (by simp)
  have h_23 := call2c.ch (c_12.app c_15) (by simp)
  exact ⟨_, rfl, (((((Ch.refl [] s).ch c_4 (by simp)).ch c_9 (by simp)).ch c_12 (by simp)).ch c_15 (by simp)), ⟨⟨_, _, _, none, [], [], b_14, h_17, trivial, (fun h => by cases h), OMap.nil _ _, trivial, h_18, ⟨_, newCache h_19 h_20 hb, ⟨fun x hx => (List.not_mem_nil hx).elim, fun x hx => (List.not_mem_nil hx).elim⟩, Int.le_refl _, Int.le_refl _, Int.le_refl _⟩, newPSet h_21 h_22 h_23⟩, VOk.fresh hl⟩⟩
structure DoV where
  op : Int
  b : Int
  off : Int
  n : Int
  ba : Option Addr
  bn : Nat
  bc : Nat
  na : Option Addr
  nn : Nat
  nc : Nat
  by_ : List UInt8
  ns : List Int
def dov9 (x : DoV) : List Value := [.int .i64 x.op, .int .i64 x.b, .int .i64 x.off, .int .i64 x.n, .slice x.ba x.bn x.bc, .slice x.na x.nn x.nc]
theorem dov9_len (x : DoV) : (dov9 x).length = 6 := rfl
structure DoIn (s : TH) (τ : Nat) (x : DoV) : Prop where
  bs : Sl s x.ba (bvs x.by_) τ
  bl : x.by_.length = x.bn
  bo : x.ba = none → x.bn = 0
  bm : x.bn ≤ x.bc ∧ x.bn ≤ 140737488351232
  ns : Sl s x.na (ivs x.ns) τ
  nl : x.ns.length = x.nn
  no : x.na = none → x.nn = 0
  nm : x.nn ≤ x.nc ∧ x.nn ≤ 17592186043904
theorem DoIn.mv {s s' : TH} {τ : Nat} {x : DoV} {B : Nat → Prop} (h : DoIn s τ x) (c : Chg B s s') (hn : ∀ j, j < s.h.size → s.g j = τ → ¬ B j) : DoIn s' τ x := ⟨h.bs.mv c hn, h.bl, h.bo, h.bm, h.ns.mv c hn, h.nl, h.no, h.nm⟩
structure Dos (s : TH) (τ : Nat) (l : List DoV) : Prop where
  at_ : ∀ x ∈ l, DoIn s τ x
theorem Dos.mv {s s' : TH} {τ : Nat} {l : List DoV} {B : Nat → Prop} (h : Dos s τ l) (c : Chg B s s') (hn : ∀ j, j < s.h.size → s.g j = τ → ¬ B j) : Dos s' τ l := ⟨fun x hx => (h.at_ x hx).mv c hn⟩
theorem ecell (n : Nat) (hn : n < 6) {ls : List DoV} {k : Nat} {x : DoV} (h : ls[k]? = some x) : (ls.flatMap dov9)[k * 6 + n]? = (dov9 x)[n]? := fm_get dov9_len ls k n x h hn
/-- behind a change that was taken -/
structure Chd (V V' : VolM) : Prop where
  ex : ∃ b o y needs, V.D.has b ∧ fitsP b o y.length ∧ (∀ n ∈ needs, 1 ≤ n ∧ n ≤ V.P.last) ∧ V' = { V with n := V.ticks b, P := (V.P.add b o y needs).1, old := V.keep b } ∧ (V.P.add b o y needs).1 = { V.P with last := V.P.last + 1, l := V.P.l ++ [V.P.newP b o y needs] }
theorem add_ok {P : PatchM} {b o : Int} {y : List UInt8} {needs : List Int} (h1 : fitsP b o y.length) (h2 : ∀ n ∈ needs, 1 ≤ n ∧ n ≤ P.last) : P.add b o y needs = ({ P with last := P.last + 1, l := P.l ++ [P.newP b o y needs] }, P.last + 1, 0) := by
  unfold PatchM.add
  rw [if_neg (by simpa using h1), if_neg (by simpa [PatchM.knows] using h2)]
theorem change_ok {V : VolM} {b o : Int} {y : List UInt8} {needs : List Int} (hb : V.D.has b) (h1 : fitsP b o y.length) (h2 : ∀ n ∈ needs, 1 ≤ n ∧ n ≤ V.P.last) :
    (V.change b o y needs).2.1 = V.P.last + 1 ∧ (V.change b o y needs).2.2 = 0 ∧ (V.change b o y needs).1.P.last = V.P.last + 1 ∧ Chd V (V.change b o y needs).1 := by
  have e := add_ok (P := V.P) h1 h2
  unfold VolM.change
  rw [if_neg (by simpa using hb), if_neg (by rw [e]; simp)]
  refine ⟨by rw [e], rfl, by show (V.P.add b o y needs).1.last = _; rw [e], ⟨b, o, y, needs, hb, h1, h2, rfl, by rw [e]⟩⟩
theorem Sl.pre0 {s : TH} {a : Option Addr} {xs : List Value} {τ : Nat} (h : Sl s a xs τ) (m c : Nat) : Sl s (slO a 1 0 (c : Int)) (xs.take m) τ := by
  rcases h with rfl | ⟨g, o, rfl, h1, h2, h3⟩
  · left; simp
  · right
    refine ⟨g, o, ?_, h1, h2, fun j v hv => ?_⟩
    · have := slA_mk g o 1 0 c
      rw [show ((0 : Nat) : Int) = 0 from rfl] at this
      rw [this]; simp
    · rw [List.getElem?_take] at hv
      split at hv
      · exact h3 j v hv
      · cases hv
theorem tmod_rng {a b n : Int} (ha : 0 ≤ a) (hb : 0 < b) (h : n = Int.tmod a b) : 0 ≤ n ∧ n < b := by
  subst h
  rw [Int.tmod_eq_emod_of_nonneg ha]
  exact ⟨Int.emod_nonneg a (by omega), Int.emod_lt_of_pos a hb⟩
theorem bvs_take (l : List UInt8) (m : Nat) : (bvs l).take m = bvs (l.take m) := by simp [bvs]
theorem u8w (n : Int) : ∃ b : UInt8, IntKind.u8.wrap n = (b.toNat : Int) := by
  refine ⟨UInt8.ofNat (n % 256).toNat, ?_⟩
  have e2 : (UInt8.ofNat (n % 256).toNat).toNat = (n % 256).toNat % 256 := rfl
  have e : IntKind.u8.wrap n = n % 256 := rfl
  rw [e, e2]; omega
/-- bollard/bollardlaw09.change -/
theorem c_vlchange (vp d U : Nat) (V : VolM) (xop xb_ xoff xn_ : Int) (xba : Option Addr) (xbn xbc : Nat) (xna : Option Addr) (xnn xnc : Nat) (xby : List UInt8) (xns : List Int) (τ : Nat) (s : TH) (hU : 10 ≤ U) (hv : VolL s vp d U V 0) (hx : DoIn s τ ⟨xop, xb_, xoff, xn_, xba, xbn, xbc, xna, xnn, xnc, xby, xns⟩) (hτ : τ < U ∨ U + 50 ≤ τ) (hl : V.P.last < 90) (hn : V.n < 1000000) : TRet Tryz.prog 53 #[.pointer (some ⟨vp, 0, none⟩), .agg #[.int .i64 xop, .int .i64 xb_, .int .i64 xoff, .int .i64 xn_, .slice xba xbn xbc, .slice xna xnn xnc]] s fun v s' => ∃ V', v = .bool true ∧ Ch [U, U + 3, U + 20, U + 21, U + 22, U + 23, U + 30, U + 32] s s' ∧ Chd V V' ∧ VolL s' vp d U V' 0 := by
  have hnb := hv.p.choose_spec.choose_spec.choose_spec.choose_spec.choose_spec.choose_spec.dk.nb
  have hxl := hx.bl
  have hxm := hx.bm
  have hxo := hx.bo
  have hxnl := hx.nl
  have hxnm := hx.nm
  have hxno := hx.no
  simp only at hxl hxm hxo hxnl hxnm hxno
  have hxb : Sl s xba (bvs xby) τ := hx.bs
  have hxs : Sl s xna (ivs xns) τ := hx.ns
  obtain ⟨M, hM, hM0, hMa, hMb, hMc, hMd, hMe, hMf⟩ := fresh6 s (U + 50) τ 0 0 0 0
  refine F53_calls _ _ _ _ _ _ _  ?_
  unfold F53
  refine al_t (M + 1) fun r1 s2 hr1 b_1 c_2 z_3 => ?_
  refine ld_t b_1 rfl ?_
  refine dSl_i ?_
  refine ld_t b_1 rfl ?_
  refine dSl_i ?_
  refine min_i ?_
  refine dInt_i ?_
  refine ask_t (by omega) ?_
  refine jn1 (fun fv s' => Ch [] s2 s' ∧ (∃ pa pn pc y σ, fv = .slice pa pn pc ∧ Sl s' pa (bvs y) σ ∧ y.length = pn ∧ 1 ≤ pn ∧ pn ≤ 128 ∧ (σ = τ ∨ σ = M + 2))) ?_ ?_
  ·
    rintro fv s_4 ⟨c_5, pa, pn, pc, y, σ, rfl, hy, hyl, hp1, hp2, hσ⟩
    have z_6 := c_5.size
    intro _
    intros
    refine dSl_i ?_
    have h_7 := b_1.ch c_5 (by simp)
    refine ld_t h_7 rfl ?_
    refine dSl_i ?_
    refine ⟨fun vs H' => ∃ s' : TH, s'.h = H' ∧ ∃ qa qn qc i, vs = [.slice qa qn qc, .int .i64 i] ∧ Ch [U, M + 5, M + 9] s_4 s' ∧ (∃ (kk : Nat) (needs : List Int), i = kk ∧ kk ≤ xnn ∧ qn = needs.length ∧ needs.length ≤ kk ∧ (∀ n ∈ needs, 1 ≤ n ∧ n ≤ V.P.last) ∧ Own s' qa qn qc 3 1 (ivs needs) (M + 5) ∧ VolL s' vp d U V 0), fun vs H' => match vs with | [.slice qa qn qc, .int .i64 i] => ((xnn : Int) - i).toNat | _ => 0, ⟨s_4, rfl, _, _, _, _, rfl, Ch.refl _ _, ?_⟩, ?_⟩
    ·
      have h_8 := hv.mv (c_2.app c_5) (rngn50 (by simp))
      exact ⟨0, [], rfl, by omega, rfl, by simp, fun n hn => (List.not_mem_nil hn).elim, Own.nil _ _ _ _, h_8⟩
    ·
      intro qa qn qc i _ _ _ _ _ _ _ _ _ _ _ _ _ _ _ _ _ _ _ H_ hI_10
      obtain ⟨s_9, rfl, qa_, qn_, qc_, i_, hvs, c_11, kk, needs, rfl, hk, hq, hql, hnd, ho, hv2⟩ := hI_10
      cases hvs
      have z_12 := c_11.size
      refine sB_d (fun hsB1 => ?_) (fun hsB1 => ?_)
      ·
        refine jn_u ?_
        have h_13 := hxs.mv ((c_2.app c_5).app c_11) (tagn (by simp <;> omega))
        obtain ⟨a_14, rfl⟩ := h_13.ne_none (by simp [bvs_len, ivs_len]; omega)
        refine nz_i ?_
        refine ask_t (by omega) ?_
        refine ld_iv h_13 (by omega) (by omega) fun vel1 hel1 => ?_
        rw [Int.toNat_natCast] at hel1
        refine dInt_i ?_
        refine tcall (c_VLast _ _ _ _ _ (by omega) hv2) ?_
        rintro v_16 s_15 ⟨rfl, c_18, call1a⟩
        have z_19 := c_18.size
        refine dInt_i ?_
        refine sB_d (fun hsB2 => ?_) (fun hsB2 => ?_)
        ·
          refine wr_a fun n89 hn89 => ?_
          rw [wrap_u64] at hn89
          refine tcall (c_VLast _ _ _ _ _ (by omega) call1a) ?_
          rintro v_21 s_20 ⟨rfl, c_23, call2a⟩
          have z_24 := c_23.size
          refine dInt_i ?_
          refine wr_a fun n93 hn93 => ?_
          rw [wrap_u64] at hn93
          refine ask_t (by omega) ?_
          refine nm_a fun n94 hn94 => ?_
          have qn94 := tmod_rng (by omega) (by omega) hn94
          refine wr_t (by omega) ?_
          refine wr_t (by omega) ?_
          refine al_t (M + 9) fun r97 s98 hr97 b_25 c_26 z_27 => ?_
          have h_30 := ho.mv ((c_18.app c_23).app c_26) (tagn (by simp <;> omega))
          refine app_i1 u73 in3 h_30 b_25 (by omega) fun s_31 a_28 k_29 o_32 c_33 => ?_
          have z_34 := c_33.size
          refine dSl_i ?_
          intro _
          intros
          refine dSl_i ?_
          refine wr_t (by omega) ?_
          refine ⟨⟨s_31, rfl, _, _, _, _, rfl, ((((((Ch.refl [U, M + 5, M + 9] s_4).ch c_11 (by simp)).ch c_18 (by simp)).ch c_23 (by simp)).ch c_26 (by simp)).ch c_33 (by simp)), ?_⟩, ?_⟩
          ·
            have h_35 := call2a.mv (c_26.app c_33) (rngn50 (by simp <;> omega))
            exact ⟨kk + 1, needs ++ [1 + n94], by omega, by omega, by rw [List.length_append, hq]; rfl, by rw [List.length_append, List.length_singleton]; omega, fun n hn => by (rcases List.mem_append.1 hn with h | h; exact hnd n h; rw [List.mem_singleton] at h; omega), o_32, h_35⟩
          ·
            simp only []; omega
        ·
          intro _
          intros
          refine dSl_i ?_
          refine wr_t (by omega) ?_
          refine ⟨⟨s_15, rfl, _, _, _, _, rfl, (((Ch.refl [U, M + 5, M + 9] s_4).ch c_11 (by simp)).ch c_18 (by simp)), ?_⟩, ?_⟩
          ·
            have h_36 := ho.mv c_18 (tagn (by simp <;> omega))
            exact ⟨kk + 1, needs, by omega, by omega, hq, by omega, hnd, h_36, call1a⟩
          ·
            simp only []; omega
      ·
        have h_37 := h_7.ch c_11 (by simp <;> omega)
        refine ld_t h_37 rfl ?_
        refine dInt_i ?_
        refine wr_a fun n112 hn112 => ?_
        rw [wrap_u64] at hn112
        refine ld_t h_37 rfl ?_
        refine dInt_i ?_
        refine wr_a fun n115 hn115 => ?_
        rw [wrap_u64] at hn115
        refine ⟨?_, ?_⟩
        ·
          refine tcall (c_VBlocks2 _ _ _ _ _ (by omega) hv2) ?_
          rintro v_39 s_38 ⟨rfl, c_41, call3a⟩
          have z_42 := c_41.size
          refine dInt_i ?_
          refine ⟨?_, ?_⟩
          ·
            have h_43 := h_37.ch c_41 (by simp <;> omega)
            refine ld_t h_43 rfl ?_
            refine dInt_i ?_
            rfl
          ·
            refine ⟨?_, ?_⟩
            ·
              have h_44 := h_37.ch c_41 (by simp <;> omega)
              refine ld_t h_44 rfl ?_
              refine dInt_i ?_
              rfl
            ·
              refine wr_a fun n123 hn123 => ?_
              rw [wrap_u64] at hn123
              refine ask_t (by omega) ?_
              refine nm_a fun n124 hn124 => ?_
              have qn124 := tmod_rng (by omega) (by omega) hn124
              refine wr_t (by omega) ?_
              refine ⟨?_, ?_⟩
              ·
                have h_45 := h_37.ch c_41 (by simp <;> omega)
                refine ld_t h_45 rfl ?_
                refine dInt_i ?_
                rfl
              ·
                refine ⟨?_, ?_⟩
                ·
                  have h_46 := h_37.ch c_41 (by simp <;> omega)
                  refine ld_t h_46 rfl ?_
                  refine dInt_i ?_
                  rfl
                ·
                  refine wr_t (by omega) ?_
                  refine wr_a fun n131 hn131 => ?_
                  rw [wrap_u64] at hn131
                  refine ask_t (by omega) ?_
                  refine nm_a fun n132 hn132 => ?_
                  have qn132 := tmod_rng (by omega) (by omega) hn132
                  refine wr_t (by omega) ?_
                  have h_47 := hy.mv (c_11.app c_41) (tagn (by simp <;> omega))
                  have h_48 := ho.mv c_41 (tagn (by simp <;> omega))
                  refine tcall (c_VChange _ _ _ _ _ _ _ _ _ (by omega) call3a h_47 hyl (h_48).sl hq.symm (by omega) (by omega) (by omega) (by omega)) ?_
                  rintro v_50 s_49 ⟨rfl, c_52, call4a⟩
                  have z_53 := c_52.size
                  have hch := change_ok (V := V) (b := n124) (o := n132) (y := y) (needs := needs) ⟨by omega, by omega⟩ (by unfold fitsP; omega) hnd
                  rw [hch.1, hch.2.1]
                  refine dT2 ?_
                  refine dInt_i ?_
                  refine dInt_i ?_
                  refine sB_t (by rfl) ?_
                  refine tcall (c_VLast _ _ _ _ _ (by omega) call4a) ?_
                  rintro v_55 s_54 ⟨rfl, c_57, call5a⟩
                  have z_58 := c_57.size
                  refine dInt_i ?_
                  refine ret_t ?_
                  exact ⟨_, by rw [hch.2.2.1]; simp, (((((((Ch.refl [U, U + 3, U + 20, U + 21, U + 22, U + 23, U + 30, U + 32] s).ch c_2 (by simp)).ch c_5 (by simp)).fr c_11 hM (by simp)).ch c_41 (by simp)).ch c_52 (by simp)).ch c_57 (by simp)), hch.2.2.2, call5a⟩
        ·
          refine ⟨?_, ?_⟩
          ·
            refine ld_t h_37 rfl ?_
            refine dInt_i ?_
            rfl
          ·
            refine ⟨?_, ?_⟩
            ·
              refine ld_t h_37 rfl ?_
              refine dInt_i ?_
              rfl
            ·
              refine wr_t (by omega) ?_
              refine wr_a fun n154 hn154 => ?_
              rw [wrap_u64] at hn154
              refine ask_t (by omega) ?_
              refine nm_a fun n155 hn155 => ?_
              have qn155 := tmod_rng (by omega) (by omega) hn155
              refine wr_t (by omega) ?_
              refine tcall (c_VBlocks2 _ _ _ _ _ (by omega) hv2) ?_
              rintro v_60 s_59 ⟨rfl, c_62, call6a⟩
              have z_63 := c_62.size
              refine dInt_i ?_
              refine ⟨?_, ?_⟩
              ·
                have h_64 := h_37.ch c_62 (by simp <;> omega)
                refine ld_t h_64 rfl ?_
                refine dInt_i ?_
                rfl
              ·
                refine ⟨?_, ?_⟩
                ·
                  have h_65 := h_37.ch c_62 (by simp <;> omega)
                  refine ld_t h_65 rfl ?_
                  refine dInt_i ?_
                  rfl
                ·
                  refine wr_a fun n164 hn164 => ?_
                  rw [wrap_u64] at hn164
                  refine ask_t (by omega) ?_
                  refine nm_a fun n165 hn165 => ?_
                  have qn165 := tmod_rng (by omega) (by omega) hn165
                  refine wr_t (by omega) ?_
                  have h_66 := hy.mv (c_11.app c_62) (tagn (by simp <;> omega))
                  have h_67 := ho.mv c_62 (tagn (by simp <;> omega))
                  refine tcall (c_VChange _ _ _ _ _ _ _ _ _ (by omega) call6a h_66 hyl (h_67).sl hq.symm (by omega) (by omega) (by omega) (by omega)) ?_
                  rintro v_69 s_68 ⟨rfl, c_71, call7a⟩
                  have z_72 := c_71.size
                  have hch := change_ok (V := V) (b := n165) (o := n155) (y := y) (needs := needs) ⟨by omega, by omega⟩ (by unfold fitsP; omega) hnd
                  rw [hch.1, hch.2.1]
                  refine dT2 ?_
                  refine dInt_i ?_
                  refine dInt_i ?_
                  refine sB_t (by rfl) ?_
                  refine tcall (c_VLast _ _ _ _ _ (by omega) call7a) ?_
                  rintro v_74 s_73 ⟨rfl, c_76, call8a⟩
                  have z_77 := c_76.size
                  refine dInt_i ?_
                  refine ret_t ?_
                  exact ⟨_, by rw [hch.2.2.1]; simp, (((((((Ch.refl [U, U + 3, U + 20, U + 21, U + 22, U + 23, U + 30, U + 32] s).ch c_2 (by simp)).ch c_5 (by simp)).fr c_11 hM (by simp)).ch c_62 (by simp)).ch c_71 (by simp)).ch c_76 (by simp)), hch.2.2.2, call8a⟩
  ·
    intro K_78 hK_78
    refine sB_d (fun hsB5 => ?_) (fun hsB5 => ?_)
    ·
      refine ld_t b_1 rfl ?_
      refine dInt_i ?_
      refine wr_a fun n185 hn185 => ?_
      refine al_t (M + 2) fun r186 s187 hr186 b_79 c_80 z_81 => ?_
      refine hK_78 _ _ ⟨((Ch.refl [] s2).ch c_80 (by simp)), ?_⟩
      obtain ⟨b8, hb8⟩ := u8w xn_
      exact ⟨_, _, _, [b8], _, rfl, by (have h := (b_79).sl; rw [hn185, hb8] at h; exact h), rfl, by omega, by omega, .inr rfl⟩
    ·
      refine hK_78 _ _ ⟨(Ch.refl [] s2), ?_⟩
      have h_82 := hxb.mv c_2 (tagn (by simp))
      have hy := (h_82).pre0 (min xbn 128) xbc
      rw [bvs_take] at hy
      exact ⟨_, _, _, xby.take (min xbn 128), _, rfl, hy, by rw [List.length_take]; omega, by omega, by omega, .inl rfl⟩
structure BegI (V : VolM) (bs : List (List UInt8)) : Prop where
  D : V.D = diskOf bs
  way : V.way = []
  old : V.old = ⟨false, false, 0, []⟩
  n : V.n = 0
  don : V.P.done = []
  ov : POv V.P
  has : ∀ x ∈ V.P.l, V.D.has x.blk
theorem BegI.fresh (bs : List (List UInt8)) : BegI (VolM.fresh bs) bs := ⟨rfl, rfl, rfl, rfl, rfl, fun x hx => (List.not_mem_nil hx).elim, fun x hx => (List.not_mem_nil hx).elim⟩
theorem BegI.chd {V V' : VolM} {bs : List (List UInt8)} (h : BegI V bs) (ok : POk V.P) (c : Chd V V') : BegI V' bs ∧ V'.P.last = V.P.last + 1 := by
  obtain ⟨⟨b, o, y, needs, hb, hf, hk, rfl, e⟩⟩ := c
  have h1 : V.first b = false := by unfold VolM.first; rw [h.old]; rfl
  refine ⟨⟨h.D, h.way, ?_, ?_, ?_, ?_, ?_⟩, ?_⟩
  · show V.keep b = _; unfold VolM.keep; rw [if_neg (by rw [h1]; simp)]; exact h.old
  · show V.ticks b = 0; unfold VolM.ticks; rw [if_neg (by rw [h1]; simp)]; exact h.n
  · show (V.P.add b o y needs).1.done = []; rw [e]; exact h.don
  · show POv (V.P.add b o y needs).1; rw [e]; exact POv.add ok h.ov hf
  · intro x hx
    have hx : x ∈ (V.P.add b o y needs).1.l := hx
    rw [e] at hx
    rcases List.mem_append.1 hx with hx | hx
    · exact h.has x hx
    · rw [List.mem_singleton] at hx; subst hx; exact hb
  · show (V.P.add b o y needs).1.last = _; rw [e]
theorem VolL.pok {s : TH} {v d U : Nat} {V : VolM} {lk : Int} (h : VolL s v d U V lk) : POk V.P := by obtain ⟨⟨c, p, rw_, rk, mw, mk, h⟩, ok⟩ := h; exact h.ps.ok
theorem imgs_len {n : Nat} : ∀ y ∈ imgs n, y.length = 128 := fun y hy => by
  unfold imgs at hy
  obtain ⟨k, _, rfl⟩ := List.mem_map.1 hy
  simp
/-- bollard/bollardlaw09.begun -/
theorem c_begun (U : Nat) (x : Int) {a : Option Addr} {n : Nat} (c : Nat) {ls : List DoV} {τ : Nat} {s : TH} (hU : 10 ≤ U) (hq : Sl s a (ls.flatMap dov9) τ) (hd : Dos s τ ls) (hln : ls.length = n) (hn2 : n ≤ 17592186043904) (ha : a = none → n = 0) (hτ : τ < U ∨ U + 50 ≤ τ) : TRet Tryz.prog 43 #[.int .i64 x, .slice a n c] s fun v s' => ∃ r d V, v = .tuple #[.pointer (some ⟨r, 0, none⟩), .pointer (some ⟨d, 0, none⟩), .bool true] ∧ Ch [U, U + 3, U + 20, U + 21, U + 22, U + 23, U + 30, U + 32, U + 11] s s' ∧ BegI V (imgs (nblk8 x)) ∧ V.P.last ≤ 41 ∧ VolL s' r d U V 0 := by
  have hnb8 := nblk8_le x
  obtain ⟨M, hM, hM0, hMa, hMb, hMc, hMd, hMe, hMf⟩ := fresh6 s τ (U + 60) 0 0 0 0
  refine F43_calls _ _ _ _  ?_
  unfold F43
  refine tcall (c_vblocks M x _) ?_
  rintro v_2 s_1 ⟨acall1, ccall1, hscall1, rfl, c_4, call1a, call1b⟩
  have z_5 := c_4.size
  refine dSl_i ?_
  refine tcall (c_of (U + 10) ccall1 (by omega) call1a.sl call1b (by rw [BRel.len call1b]; simp [imgs]) (by omega) (by omega) (by omega)) ?_
  rintro v_7 s_6 ⟨dcall2, rfl, c_9, call2a⟩
  have z_10 := c_9.size
  refine dT2 ?_
  refine dPtr_i ?_
  refine dInt_i ?_
  refine tcall (c_vopen2 U _ _ 64 _ hU call2a imgs_len (by omega)) ?_
  rintro v_12 s_11 ⟨rcall3, rfl, c_14, call3a⟩
  have z_15 := c_14.size
  refine dT2 ?_
  refine dPtr_i ?_
  refine dInt_i ?_
  refine jn_u ?_
  refine sB_f (by rfl) ?_
  refine sB_f (by rfl) ?_
  intro _
  intros
  refine dBl_i ?_
  refine sB_f (by rfl) ?_
  refine jn_u ?_
  refine ⟨fun vs H' => ∃ s' : TH, s'.h = H' ∧ ∃ i, vs = [.int .i64 i] ∧ Ch [U, U + 3, U + 20, U + 21, U + 22, U + 23, U + 30, U + 32, M + 9] s_11 s' ∧ (∃ (kk : Nat) (V : VolM), i = kk ∧ kk ≤ n ∧ BegI V (imgs (nblk8 x)) ∧ V.P.last = kk ∧ kk ≤ 41 ∧ VolL s' rcall3 dcall2 U V 0), fun vs H' => match vs with | [.int .i64 i] => ((n : Int) - i).toNat | _ => 0, ⟨s_11, rfl, _, rfl, Ch.refl _ _, ?_⟩, ?_⟩
  ·
    exact ⟨0, _, rfl, by omega, BegI.fresh _, rfl, by omega, call3a⟩
  ·
    intro i _ _ _ _ _ _ _ _ _ _ _ _ _ _ _ _ H_ hI_17
    obtain ⟨s_16, rfl, i_, hvs, c_18, kk, V, rfl, hk, hB, hlast, hk41, hv⟩ := hI_17
    cases hvs
    have z_19 := c_18.size
    refine sB_d (fun hsB4 => ?_) (fun hsB4 => ?_)
    ·
      obtain ⟨xx, hx⟩ : ∃ xx, ls[kk]? = some xx := ⟨ls[kk]'(by omega), by simp⟩
      obtain ⟨a, rfl⟩ := Option.ne_none_iff_exists'.1 (fun e => absurd (ha e) (by omega))
      refine nz_i ?_
      refine ask_t (by omega) ?_
      have h_20 := hq.mv (((c_4.app c_9).app c_14).app c_18) (tagn (by simp <;> omega))
      refine ld_sl h_20 (by rw [Int.toNat_natCast]; exact ecell 0 (by omega) hx) ?_
      refine ld_sl2 h_20 (by rw [Int.toNat_natCast]; exact ecell 1 (by omega) hx) ?_
      refine ld_sl2 h_20 (by rw [Int.toNat_natCast]; exact ecell 2 (by omega) hx) ?_
      refine ld_sl2 h_20 (by rw [Int.toNat_natCast]; exact ecell 3 (by omega) hx) ?_
      refine ld_sl2 h_20 (by rw [Int.toNat_natCast]; exact ecell 4 (by omega) hx) ?_
      refine ld_sl2 h_20 (by rw [Int.toNat_natCast]; exact ecell 5 (by omega) hx) ?_
      refine al_t (M + 9) fun r79 s80 hr79 b_21 c_22 z_23 => ?_
      refine st_t b_21 rfl (by simp) fun s81 b_24 c_25o z_26 => ?_
      have c_25 := on_ch b_21 c_25o
      refine st_t b_24 rfl (by simp) fun s82 b_27 c_28o z_29 => ?_
      have c_28 := on_ch b_24 c_28o
      refine st_t b_27 rfl (by simp) fun s83 b_30 c_31o z_32 => ?_
      have c_31 := on_ch b_27 c_31o
      refine st_t b_30 rfl (by simp) fun s84 b_33 c_34o z_35 => ?_
      have c_34 := on_ch b_30 c_34o
      refine st_t b_33 rfl (by simp) fun s85 b_36 c_37o z_38 => ?_
      have c_37 := on_ch b_33 c_37o
      refine st_t b_36 rfl (by simp) fun s86 b_39 c_40o z_41 => ?_
      have c_40 := on_ch b_36 c_40o
      refine sB_d (fun hsB5 => ?_) (fun hsB5 => ?_)
      ·
        intro _
        intros
        refine ret_t ?_
        have h_42 := hv.mv ((((((c_22.app c_25).app c_28).app c_31).app c_34).app c_37).app c_40) (rngn50 (by simp <;> omega))
        exact ⟨_, _, V, rfl, ((((((((((((Ch.refl [U, U + 3, U + 20, U + 21, U + 22, U + 23, U + 30, U + 32, U + 11] s).fr c_4 hM (by simp)).fr c_9 hM (by simp)).ch c_14 (by simp)).fr c_18 hM (by simp)).ch c_22 (by simp)).fr c_25 hM (by simp)).fr c_28 hM (by simp)).fr c_31 hM (by simp)).fr c_34 hM (by simp)).fr c_37 hM (by simp)).fr c_40 hM (by simp)), hB, by omega, h_42⟩
      ·
        refine ld_t b_39 rfl ?_
        refine ld_t b_39 rfl ?_
        refine ld_t b_39 rfl ?_
        refine ld_t b_39 rfl ?_
        refine ld_t b_39 rfl ?_
        refine ld_t b_39 rfl ?_
        have h_43 := hd.mv ((((((((((c_4.app c_9).app c_14).app c_18).app c_22).app c_25).app c_28).app c_31).app c_34).app c_37).app c_40) (tagn (by simp <;> omega))
        have h_44 := hv.mv ((((((c_22.app c_25).app c_28).app c_31).app c_34).app c_37).app c_40) (rngn50 (by simp <;> omega))
        refine tcall (c_vlchange _ _ _ _ _ _ _ _ _ _ _ _ _ _ _ _ τ _ (by omega) h_44 ((h_43).at_ xx (List.mem_of_getElem? hx)) (by omega) (by omega) (by rw [hB.n]; omega)) ?_
        rintro v_46 s_45 ⟨Vcall4, rfl, c_48, call4a, call4b⟩
        have z_49 := c_48.size
        refine dBl_i ?_
        refine sB_f (by rfl) ?_
        refine wr_t (by omega) ?_
        refine ⟨⟨s_45, rfl, _, rfl, ((((((((((Ch.refl [U, U + 3, U + 20, U + 21, U + 22, U + 23, U + 30, U + 32, M + 9] s_11).ch c_18 (by simp)).ch c_22 (by simp)).ch c_25 (by simp)).ch c_28 (by simp)).ch c_31 (by simp)).ch c_34 (by simp)).ch c_37 (by simp)).ch c_40 (by simp)).ch c_48 (by simp)), ?_⟩, ?_⟩
        ·
          obtain ⟨hB2, hl2⟩ := hB.chd hv.pok call4a
          exact ⟨kk + 1, _, by omega, by omega, hB2, by omega, by omega, call4b⟩
        ·
          simp only []; omega
    ·
      intro _
      intros
      refine ret_t ?_
      exact ⟨_, _, V, rfl, (((((Ch.refl [U, U + 3, U + 20, U + 21, U + 22, U + 23, U + 30, U + 32, U + 11] s).fr c_4 hM (by simp)).fr c_9 hM (by simp)).ch c_14 (by simp)).fr c_18 hM (by simp)), hB, by omega, hv⟩
def VolM.ticksN (V : VolM) (k : Int) : VolM := { V with n := V.n + k }
theorem ticksN_succ (V : VolM) (k : Nat) : (V.ticksN k).tick = V.ticksN ((k + 1 : Nat) : Int) := by
  unfold VolM.ticksN VolM.tick
  simp only [VolM.mk.injEq, true_and]
  omega
def VolM.alls (V : VolM) : List (List UInt8) := (List.range V.D.blocks.length).map fun (k : Nat) => V.now (k : Int)
/-- bollard/bollardlaw09.all -/
theorem c_vall (vp d U : Nat) (V : VolM) (τr τb : Nat) (s : TH) (hU : 10 ≤ U) (hv : VolL s vp d U V 0) (hn : V.n < 10000000000) (hτ : (τr < U ∨ U + 50 ≤ τr) ∧ (τb < U ∨ U + 50 ≤ τb)) : TRet Tryz.prog 44 #[.pointer (some ⟨vp, 0, none⟩)] s fun v s' => ∃ a c hs, v = .slice a V.D.blocks.length c ∧ Ch [U, U + 20, U + 21, U + 22, U + 23] s s' ∧ Own s' a V.D.blocks.length c 38 1 (hs.flatMap hd1) τr ∧ BRel s' τb hs V.alls ∧ VolL s' vp d U (V.ticksN V.D.blocks.length) 0 := by
  have hnb := hv.p.choose_spec.choose_spec.choose_spec.choose_spec.choose_spec.choose_spec.dk.nb
  obtain ⟨M, hM, hM0, hMa, hMb, hMc, hMd, hMe, hMf⟩ := fresh6 s (U + 60) τr τb 0 0 0
  refine F44_calls _  ?_
  unfold F44
  refine tcall (c_VBlocks2 _ _ _ _ _ (by omega) hv) ?_
  rintro v_2 s_1 ⟨rfl, c_4, call1a⟩
  have z_5 := c_4.size
  refine dInt_i ?_
  refine ⟨fun vs H' => ∃ s' : TH, s'.h = H' ∧ ∃ pa pn pc i, vs = [.slice pa pn pc, .int .i64 i] ∧ Ch [U, U + 20, U + 21, U + 22, U + 23, M + 1, M + 9] s_1 s' ∧ (∃ (kk : Nat) (hs : List Hd), i = kk ∧ pn = kk ∧ kk ≤ V.D.blocks.length ∧ Own s' pa pn pc 38 1 (hs.flatMap hd1) (M + 1) ∧ BRel s' τb hs ((List.range kk).map fun (k : Nat) => V.now (k : Int)) ∧ VolL s' vp d U (V.ticksN kk) 0), fun vs H' => match vs with | [.slice pa pn pc, .int .i64 i] => ((V.D.blocks.length : Int) - i).toNat | _ => 0, ⟨s_1, rfl, _, _, _, _, rfl, Ch.refl _ _, ?_⟩, ?_⟩
  ·
    exact ⟨0, [], rfl, rfl, by omega, Own.nil _ _ _ _, BRel.nil _ _, by have h := call1a; unfold VolM.ticksN; simpa using h⟩
  ·
    intro pa pn pc i _ _ _ _ _ _ _ _ _ _ _ _ _ _ _ _ H_ hI_7
    obtain ⟨s_6, rfl, pa_, pn_, pc_, i_, hvs, c_8, kk, hs, rfl, rfl, hk, ho, hb, hv2⟩ := hI_7
    cases hvs
    have z_9 := c_8.size
    refine sB_d (fun hsB1 => ?_) (fun hsB1 => ?_)
    ·
      refine tcall (c_VRead _ _ _ _ τb _ _ (by omega) hv2 (by show V.n + _ < _; omega) (show V.D.has _ from ⟨by omega, by omega⟩) (by omega)) ?_
      rintro v_11 s_10 ⟨acall2, ccall2, rfl, c_13, call2a, call2b⟩
      have z_14 := c_13.size
      refine dT2 ?_
      refine dSl_i ?_
      refine dInt_i ?_
      refine al_t (M + 9) fun r36 s37 hr36 b_15 c_16 z_17 => ?_
      have h_18 := ho.mv (c_13.app c_16) (tagn (by simp <;> omega))
      refine app_i u42 in38 rfl h_18 (b_15).sl (m := 1) (k := 1) rfl (by intro u hu; simp at hu; subst hu; rfl) (by simp) (by unfold maxLen; omega) fun s_19 pa2 pc2 o_22 c_20o _ => ?_
      have c_20 := c_20o.ch h_18 (T := [M + 1]) (by simp)
      have z_21 := c_20.size
      refine dSl_i ?_
      refine wr_t (by omega) ?_
      refine ⟨⟨s_19, rfl, _, _, _, _, rfl, (((((Ch.refl [U, U + 20, U + 21, U + 22, U + 23, M + 1, M + 9] s_1).ch c_8 (by simp)).ch c_13 (by simp)).ch c_16 (by simp)).ch c_20 (by simp)), ?_⟩, ?_⟩
      ·
        have h_23 := hb.mv ((c_13.app c_16).app c_20) (tagn (by simp <;> omega))
        have h_24 := call2a.mv (c_16.app c_20) (tagn (by simp <;> omega))
        have h_25 := call2b.mv (c_16.app c_20) (rngn50 (by simp <;> omega))
        exact ⟨pn + 1, hs ++ [(acall2, ccall2)], by omega, by omega, by omega, by simpa [hd1] using o_22, by rw [List.range_succ, List.map_append]; exact (h_23).snoc ⟨(h_24).sl, by have := (h_24).1; rw [bvs_len] at this; exact this⟩, by rw [← ticksN_succ]; exact h_25⟩
      ·
        simp only []; omega
    ·
      obtain rfl : pn = V.D.blocks.length := by omega
      refine ret_t' (s' := remark s_6 (M + 1) τr) rfl ⟨_, _, _, rfl, remark_ch (((Ch.refl [U, U + 20, U + 21, U + 22, U + 23] s).ch c_4 (by simp)).fr c_8 hM (by simp)) hM (by omega), (ho).remark, (hb).keep (by omega), (hv2).keep (by omega)⟩
/-- bytes.Equal -/
theorem c_beq {xa : Option Addr} {xn : Nat} (xc : Nat) {l : List UInt8} {τx : Nat} {ya : Option Addr} {yn : Nat} (yc : Nat) {m : List UInt8} {τy : Nat} {s : TH} (hx : Sl s xa (bvs l) τx) (hn : l.length = xn) (h0 : xa = none → xn = 0) (hy : Sl s ya (bvs m) τy) (hm : m.length = yn) (g0 : ya = none → yn = 0) : TRet Tryz.prog 56 #[.slice xa xn xc, .slice ya yn yc] s fun v s' => v = .bool (decide (l = m)) ∧ Ch [] s s' := by
  refine F56_calls _ _ _ _ _ _  ?_
  unfold F56
  refine conv_bs u38 u5 (by kernel_rfl) hx hn h0 ?_
  refine dStr_i ?_
  refine conv_bs u38 u5 (by kernel_rfl) hy hm g0 ?_
  refine dStr_i ?_
  refine ret_t ?_
  exact ⟨ret_b (by simp only [ByteArray.toList_mk]; by_cases h : l = m <;> simp [h]), (Ch.refl [] s)⟩
set_option maxRecDepth 100000 in
/-- slices.EqualFunc[[][]byte,[][]byte,[]byte,[]byte] -/
theorem c_eqrows {xa : Option Addr} (xc : Nat) {hs : List Hd} {τx σx : Nat} {ya : Option Addr} (yc n : Nat) {gs : List Hd} {τy σy : Nat} {bs : List (List UInt8)} (s : TH) (hx : Sl s xa (hs.flatMap hd1) τx) (hy : Sl s ya (gs.flatMap hd1) τy) (hb : BRel s σx hs bs) (gb : BRel s σy gs bs) (hn : bs.length = n) (hn2 : n ≤ 2048) : TRet Tryz.prog 100 #[.slice xa n xc, .slice ya n yc, .func (.func 56) #[] #[]] s fun v s' => v = .bool true ∧ Ch [] s s' := by
  have hl1 := hb.len
  have hl2 := gb.len
  refine F100_calls _ _ _ _ _ _ _ _ _  ?_
  unfold F100
  refine sB_nd (fun hsB1 => by exfalso; omega) (fun hsB1 => ?_)
  refine ⟨fun vs H' => ∃ s' : TH, s'.h = H' ∧ ∃ i, vs = [.int .i64 i] ∧ Ch [] s s' ∧ (∃ kk : Nat, i = kk ∧ kk ≤ n), fun vs H' => match vs with | [.int .i64 i] => ((n : Int) - i).toNat | _ => 0, ⟨s, rfl, _, rfl, Ch.refl _ _, ?_⟩, ?_⟩
  ·
    exact ⟨0, rfl, by omega⟩
  ·
    intro i _ _ _ _ _ _ _ _ _ _ _ _ _ _ _ _ _ _ H_ hI_2
    obtain ⟨s_1, rfl, i_, hvs, c_3, kk, rfl, hk⟩ := hI_2
    cases hvs
    have z_4 := c_3.size
    refine sB_d (fun hsB2 => ?_) (fun hsB2 => ?_)
    ·
      obtain ⟨p, hp⟩ : ∃ p, hs[kk]? = some p := ⟨hs[kk]'(by omega), by simp⟩
      obtain ⟨q, hq⟩ : ∃ q, gs[kk]? = some q := ⟨gs[kk]'(by omega), by simp⟩
      obtain ⟨bb, hbb⟩ : ∃ b, bs[kk]? = some b := ⟨bs[kk]'(by omega), by simp⟩
      obtain ⟨a, rfl⟩ := hx.some (fun e => by have := bcell hp; rw [e] at this; simp at this)
      obtain ⟨a2, rfl⟩ := hy.some (fun e => by have := bcell hq; rw [e] at this; simp at this)
      refine nz_i ?_
      refine ask_t (by omega) ?_
      have h_5 := hx.mv c_3 (tagn (by simp))
      refine ld_sl h_5 (by rw [Int.toNat_natCast, Nat.mul_one]; exact bcell hp) ?_
      refine dSl_i ?_
      refine nz_i ?_
      refine ask_t (by omega) ?_
      have h_6 := hy.mv c_3 (tagn (by simp))
      refine ld_sl h_6 (by rw [Int.toNat_natCast, Nat.mul_one]; exact bcell hq) ?_
      refine dSl_i ?_
      refine gB_i rfl ?_
      have h_7 := hb.mv c_3 (tagn (by simp))
      have h_8 := gb.mv c_3 (tagn (by simp))
      refine tcall (c_beq _ _ ((h_7).at_ _ _ _ hp hbb).sl ((h_7).at_ _ _ _ hp hbb).len (fun h => by obtain ⟨y, hy⟩ := ((h_7).at_ _ _ _ hp hbb).ne; rw [h] at hy; cases hy) ((h_8).at_ _ _ _ hq hbb).sl ((h_8).at_ _ _ _ hq hbb).len (fun h => by obtain ⟨y, hy⟩ := ((h_8).at_ _ _ _ hq hbb).ne; rw [h] at hy; cases hy)) ?_
      rintro v_10 s_9 ⟨rfl, c_12⟩
      have z_13 := c_12.size
      refine dBl_i ?_
      refine sB_nd (fun hsB3 => ?_) (fun hsB3 => ?_)
      ·
        refine ret_t ?_
        exact absurd rfl hsB3
      ·
        refine wr_t (by omega) ?_
        refine ⟨⟨s_9, rfl, _, rfl, (((Ch.refl [] s).ch c_3 (by simp)).ch c_12 (by simp)), ?_⟩, ?_⟩
        ·
          exact ⟨kk + 1, by omega, by omega⟩
        ·
          simp only []; omega
    ·
      refine ret_t ?_
      exact ⟨rfl, ((Ch.refl [] s).ch c_3 (by simp))⟩
/-- bollard/bollardplain.SameImage -/
theorem c_same {xa : Option Addr} (xc : Nat) {hs : List Hd} {τx σx : Nat} {ya : Option Addr} (yc n m : Nat) {gs : List Hd} {τy σy : Nat} {bs : List (List UInt8)} (s : TH) (hx : Sl s xa (hs.flatMap hd1) τx) (hy : Sl s ya (gs.flatMap hd1) τy) (hb : BRel s σx hs bs) (gb : BRel s σy gs bs) (hn : bs.length = n) (hm : bs.length = m) (hn2 : n ≤ 2048) : TRet Tryz.prog 46 #[.slice xa n xc, .slice ya m yc] s fun v s' => v = .bool true ∧ Ch [] s s' := by
  subst hn
  subst hm
  refine F46_calls _ _ _ _ _ _  ?_
  unfold F46
  refine tcall (c_eqrows xc yc _ _ hx hy hb gb rfl hn2) ?_
  rintro v_2 s_1 ⟨rfl, c_4⟩
  have z_5 := c_4.size
  refine dBl_i ?_
  refine ret_t ?_
  exact ⟨rfl, ((Ch.refl [] s).ch c_4 (by simp))⟩
theorem pend_free {P : PatchM} (ok : POk P) (b : Int) : P.pend (P.free b) = P.free b :=
  srt_ext (ok.asrt.sublist List.filter_sublist) (free_srt ok b) fun i => by
    unfold PatchM.pend
    rw [List.mem_filter]
    constructor
    · intro h; simpa using h.2
    · intro h; exact ⟨of_sub (free_sub h), by simpa using h⟩
theorem doneP_free {P : PatchM} (ok : POk P) (b : Int) : P.doneP (P.free b) = (P.fin (P.free b), 0) := by
  unfold PatchM.doneP
  rw [pend_free ok b, if_neg, if_pos]
  · refine List.all_eq_true.2 fun i hi => ?_
    unfold PatchM.closed
    cases hx : P.find i with
    | none => rfl
    | some x => exact List.all_eq_true.2 fun n hn => by simpa using free_closed hi hx n hn
  · intro h
    obtain ⟨i, hi, h2⟩ := List.any_eq_true.1 h
    have h3 := of_sub (free_sub hi)
    unfold PatchM.all at h3
    obtain ⟨x, hx, rfl⟩ := List.mem_map.1 h3
    have := ok.rng x hx
    unfold PatchM.knows at h2
    simp at h2
    omega
theorem ready_has {V : VolM} (has : ∀ x ∈ V.P.l, V.D.has x.blk) {b : Int} (hb : b ∈ V.ready) : V.D.has b := by
  obtain ⟨x, hx, rfl⟩ := mem_blocks.1 (List.mem_filter.1 hb).1
  exact has x hx
theorem ready_free {V : VolM} {b : Int} (hb : b ∈ V.ready) : V.P.free b ≠ [] ∧ V.going b = false := by
  have h := (List.mem_filter.1 hb).2
  cases hg : V.going b with
  | true => rw [hg] at h; simp at h
  | false =>
    refine ⟨fun e => ?_, rfl⟩
    rw [e, hg] at h; cases h
theorem write_ready {V : VolM} (has : ∀ x ∈ V.P.l, V.D.has x.blk) {b : Int} (hb : b ∈ V.ready) (hw : V.way.length < 64) : V.write b = (V.sent b, 0) := by
  obtain ⟨h1, h2⟩ := ready_free hb
  unfold VolM.write
  rw [if_neg (by simpa using ready_has has hb), if_neg (by rw [h2]; simp), if_neg h1, if_neg (by omega)]
theorem now_landed {V : VolM} (ok : VOk V) (pok : POk V.P) (ov : POv V.P) (k : Nat) {b c : Int} (hb : V.D.has b) (hc : V.D.has c) : ((V.sent b).landed k ⟨b, V.plan b, V.P.free b⟩).now c = V.now c := by
  have e1 : ((V.sent b).landed k ⟨b, V.plan b, V.P.free b⟩).P = V.P.fin (V.P.free b) := by show (V.P.doneP (V.P.free b)).1 = _; rw [doneP_free pok]
  have e2 : ((V.sent b).landed k ⟨b, V.plan b, V.P.free b⟩).blk c = (V.D.blocks.set b.toNat (V.plan b)).getD c.toNat [] := rfl
  unfold VolM.now
  rw [e1, e2]
  unfold DiskM.has at hb hc
  by_cases h : c = b
  · subst h
    rw [List.getD_eq_getElem?_getD, List.getElem?_set_self (by omega)]
    exact now_fin pok ov c (blk_len ok hb)
  · rw [List.getD_eq_getElem?_getD, List.getElem?_set_ne (by omega), ← List.getD_eq_getElem?_getD]
    exact now_fin_ne pok b h _
theorem landed_has {V : VolM} {k : Nat} {b c : Int} {w : WayM} : ((V.sent b).landed k w).D.has c ↔ V.D.has c := by
  show (0 ≤ c ∧ c < ((V.D.blocks.set w.blk.toNat w.by_).length : Int)) ↔ (0 ≤ c ∧ c < (V.D.blocks.length : Int))
  rw [List.length_set]
theorem landed_l {V : VolM} (pok : POk V.P) {k : Nat} {b : Int} : ((V.sent b).landed k ⟨b, V.plan b, V.P.free b⟩).P = V.P.fin (V.P.free b) := by show (V.P.doneP (V.P.free b)).1 = _; rw [doneP_free pok]
theorem fin_less {P : PatchM} {l : List Int} {i : Int} (h : i ∈ l) (ha : i ∈ P.all) : (P.fin l).l.length < P.l.length := by
  obtain ⟨x, hx, rfl⟩ := List.mem_map.1 ha
  show (P.l.filter _).length < P.l.length
  rcases Nat.lt_or_eq_of_le (List.length_filter_le (fun x => !decide (x.id ∈ l)) P.l) with h2 | h2
  · exact h2
  · have h3 := (List.length_filter_eq_length_iff.1 h2) x hx
    simp [h] at h3
theorem ready_some {V : VolM} (pok : POk V.P) (hw : V.way = []) (h : V.P.l ≠ []) : V.ready ≠ [] := by
  obtain ⟨x, l, e⟩ := List.exists_cons_of_ne_nil h
  have hxm : x ∈ V.P.l := by rw [e]; simp
  have hs := pok.srt
  rw [e, List.pairwise_cons] at hs
  have hp : V.P.pend x.needs = [] := by
    refine List.eq_nil_iff_forall_not_mem.2 fun n hn => ?_
    obtain ⟨h1, h2⟩ := pend_sub hn
    have h3 := pok.nds x hxm n h2
    unfold PatchM.all at h1
    obtain ⟨y, hy, rfl⟩ := List.mem_map.1 h1
    rw [e] at hy
    rcases List.mem_cons.1 hy with rfl | hy
    · omega
    · have := hs.1 y hy; omega
  have hof : x.id ∈ V.P.of x.blk := List.mem_map.2 ⟨x, List.mem_filter.2 ⟨hxm, by simp⟩, rfl⟩
  have hfr : x.id ∈ V.P.free x.blk := mem_free (find_by pok.nodup hxm) hp _ _ hof
  have : x.blk ∈ V.ready := by
    refine List.mem_filter.2 ⟨free_of ⟨_, hfr⟩, ?_⟩
    have h1 : (V.P.free x.blk).isEmpty = false := by
      cases h : V.P.free x.blk with
      | nil => rw [h] at hfr; cases hfr
      | cons => rfl
    have h2 : V.going x.blk = false := by unfold VolM.going; rw [hw]; rfl
    rw [h1, h2]; rfl
  exact List.ne_nil_of_mem this
theorem blocks_some {P : PatchM} : P.blocks = [] ↔ P.l = [] := by
  constructor
  · intro h
    cases e : P.l with
    | nil => rfl
    | cons x l =>
      have : x.blk ∈ P.blocks := mem_blocks.2 ⟨x, by rw [e]; simp, rfl⟩
      rw [h] at this; cases this
  · intro h
    cases e : P.blocks with
    | nil => rfl
    | cons b l =>
      obtain ⟨x, hx, _⟩ := mem_blocks.1 (show b ∈ P.blocks by rw [e]; simp)
      rw [h] at hx; cases hx
/-- one write behind another: what is read stays -/
structure NowI (V0 V : VolM) : Prop where
  way : V.way = []
  bl : V.D.blocks.length = V0.D.blocks.length
  ov : POv V.P
  has : ∀ x ∈ V.P.l, V.D.has x.blk
  now : ∀ b, V0.D.has b → V.now b = V0.now b
theorem has_len {V V' : VolM} (h : V.D.blocks.length = V'.D.blocks.length) {b : Int} : V.D.has b ↔ V'.D.has b := by unfold DiskM.has; rw [h]
theorem NowI.alls {V0 V : VolM} (h : NowI V0 V) : V.alls = V0.alls := by
  unfold VolM.alls
  rw [h.bl]
  refine List.map_congr_left fun k hk => h.now k ?_
  rw [List.mem_range] at hk
  exact ⟨by omega, by omega⟩
theorem NowI.ticks {V0 V : VolM} (h : NowI V0 V) (k : Int) : NowI V0 (V.ticksN k) := ⟨h.way, h.bl, h.ov, h.has, h.now⟩
theorem NowI.lost {V0 V : VolM} (h : NowI V0 V) (b k : Int) : NowI V0 (((V.sent b).ticksN k).lost 0) := ⟨by show (V.way ++ _).eraseIdx 0 = []; rw [h.way]; rfl, h.bl, h.ov, h.has, h.now⟩
theorem NowI.landed {V0 V : VolM} (h : NowI V0 V) (ok : VOk V) (pok : POk V.P) {b : Int} (hb : b ∈ V.ready) (k : Int) : NowI V0 (((V.sent b).ticksN k).landed 0 ⟨b, V.plan b, V.P.free b⟩) ∧ (((V.sent b).ticksN k).landed 0 ⟨b, V.plan b, V.P.free b⟩).P.l.length < V.P.l.length := by
  have e : ((V.sent b).landed 0 ⟨b, V.plan b, V.P.free b⟩).P = V.P.fin (V.P.free b) := landed_l pok
  refine ⟨⟨by show (V.way ++ _).eraseIdx 0 = []; rw [h.way]; rfl, ?_, ?_, ?_, ?_⟩, ?_⟩
  · show (V.D.blocks.set _ _).length = _; rw [List.length_set]; exact h.bl
  · show POv ((V.sent b).landed 0 ⟨b, V.plan b, V.P.free b⟩).P; rw [e]; exact h.ov.fin _
  · intro x hx
    have hx : x ∈ ((V.sent b).landed 0 ⟨b, V.plan b, V.P.free b⟩).P.l := hx
    rw [e] at hx
    exact landed_has.2 (h.has x (List.mem_filter.1 hx).1)
  · intro c hc
    exact (now_landed ok pok h.ov 0 (ready_has h.has hb) ((has_len h.bl).2 hc)).trans (h.now c hc)
  · show ((V.sent b).landed 0 ⟨b, V.plan b, V.P.free b⟩).P.l.length < _
    rw [e]
    obtain ⟨i, l, e2⟩ := List.exists_cons_of_ne_nil (ready_free hb).1
    have hi : i ∈ V.P.free b := by rw [e2]; simp
    exact fin_less hi (of_sub (free_sub hi))
theorem compl_tt {V : VolM} (pok : POk V.P) (hw : V.way = []) (b k : Int) : ((V.sent b).ticksN k).compl 0 true = (((V.sent b).ticksN k).landed 0 ⟨b, V.plan b, V.P.free b⟩, 0) := by
  have e : ((V.sent b).ticksN k).way = [(V.D.last + 1, ⟨b, V.plan b, V.P.free b⟩)] := by show V.way ++ _ = _; rw [hw]; rfl
  unfold VolM.compl
  rw [if_neg (by rw [e]; simp), e]
  show (_, ((V.sent b).P.doneP (V.P.free b)).2) = _
  rw [show (V.sent b).P = V.P from rfl, doneP_free pok]
  rfl
theorem compl_ff {V : VolM} (hw : V.way = []) (b k : Int) : ((V.sent b).ticksN k).compl 0 false = (((V.sent b).ticksN k).lost 0, 4) := by
  have e : ((V.sent b).ticksN k).way = [(V.D.last + 1, ⟨b, V.plan b, V.P.free b⟩)] := by show V.way ++ _ = _; rw [hw]; rfl
  unfold VolM.compl
  rw [if_neg (by rw [e]; simp), e]
  rfl
theorem VolL.vok {s : TH} {v d U : Nat} {V : VolM} {lk : Int} (h : VolL s v d U V lk) : VOk V := h.ok
theorem BegI.now {V : VolM} {bs : List (List UInt8)} (h : BegI V bs) : NowI V V := ⟨h.way, rfl, h.ov, h.has, fun _ _ => rfl⟩
theorem imgs_n {n : Nat} : (imgs n).length = n := by simp [imgs]
theorem BegI.len {V : VolM} {x : Int} (h : BegI V (imgs (nblk8 x))) : 1 ≤ V.D.blocks.length ∧ V.D.blocks.length ≤ 8 := by
  rw [h.D]; show 1 ≤ (imgs (nblk8 x)).length ∧ (imgs (nblk8 x)).length ≤ 8; rw [imgs_n]; exact nblk8_le x
theorem NowI.compl {V0 V : VolM} (h : NowI V0 V) (ok : VOk V) (pok : POk V.P) {b : Int} (hb : b ∈ V.ready) (k : Int) (f : Bool) :
    (((V.sent b).ticksN k).compl 0 (!f)).2 = (if f = true then 4 else 0) ∧ NowI V0 (((V.sent b).ticksN k).compl 0 (!f)).1 ∧ (((V.sent b).ticksN k).compl 0 (!f)).1.P.l.length ≤ V.P.l.length ∧ (f = false → (((V.sent b).ticksN k).compl 0 (!f)).1.P.l.length < V.P.l.length) ∧ (((V.sent b).ticksN k).compl 0 (!f)).1.n = V.n + 1 + k := by
  cases f with
  | true =>
    rw [show (!true) = false from rfl, compl_ff h.way]
    exact ⟨rfl, h.lost b k, Nat.le_refl _, (fun e => by cases e), rfl⟩
  | false =>
    rw [show (!false) = true from rfl, compl_tt pok h.way]
    have := h.landed ok pok hb k
    exact ⟨rfl, this.1, Nat.le_of_lt this.2, fun _ => this.2, rfl⟩
theorem NowI.sallen {V0 V : VolM} (h : NowI V0 V) (b : Int) : (V.sent b).alls = V0.alls := h.alls
theorem alls_len (V : VolM) : V.alls.length = V.D.blocks.length := by simp [VolM.alls]
/-- bollard/bollardlaw09.VolumeNow -/
theorem w_vnow (U : Nat) (x : Int) {a : Option Addr} {n : Nat} (c : Nat) {ls : List DoV} {oa : Option Addr} {on : Nat} (oc : Nat) {os : List Int} {τ : Nat} {s : TH} (hU : 10 ≤ U) (hq : Sl s a (ls.flatMap dov9) τ) (hd : Dos s τ ls) (hln : ls.length = n) (hn2 : n ≤ 17592186043904) (ha : a = none → n = 0) (ho : Sl s oa (ivs os) τ) (hon : os.length = on) (hon2 : on ≤ 17592186043904) (ho0 : oa = none → on = 0) (hτ : τ < U ∨ U + 50 ≤ τ) : TRet Tryz.prog 9 #[.int .i64 x, .slice a n c, .slice oa on oc] s fun v s' => v = .bool true ∧ Ch [U, U + 1, U + 3, U + 10, U + 11, U + 12, U + 13, U + 14, U + 20, U + 21, U + 22, U + 23, U + 30, U + 31, U + 32] s s' := by
  obtain ⟨M, hM, hM0, hMa, hMb, hMc, hMd, hMe, hMf⟩ := fresh6 s τ (U + 60) 0 0 0 0
  refine F9_calls _ _ _ _ _ _ _  ?_
  unfold F9
  refine tcall (c_begun U _ _ (by omega) hq hd (by omega) (by omega) ha (by omega)) ?_
  rintro v_2 s_1 ⟨rcall1, dcall1, Vcall1, rfl, c_4, call1a, call1b, call1c⟩
  have z_5 := c_4.size
  have hB := call1a
  have hl0 := hB.len
  have hpl := (call1c).pok.lenl
  refine dT3 ?_
  refine dPtr_i ?_
  refine dPtr_i ?_
  refine dBl_i ?_
  refine sB_f (by rfl) ?_
  refine tcall (c_vall _ _ _ _ (M + 1) (M + 2) _ (by omega) call1c (by rw [hB.n]; omega) (by omega)) ?_
  rintro v_7 s_6 ⟨acall2, ccall2, hscall2, rfl, c_9, call2a, call2b, call2c⟩
  have z_10 := c_9.size
  refine dSl_i ?_
  refine ⟨fun vs H' => ∃ s' : TH, s'.h = H' ∧ ∃ i, vs = [.int .i64 i] ∧ Ch [U, U + 1, U + 10, U + 11, U + 12, U + 13, U + 14, U + 20, U + 21, U + 22, U + 23, U + 31, U + 32, M + 9] s_6 s' ∧ (∃ (kk : Nat) (V : VolM), i = kk ∧ NowI Vcall1 V ∧ kk + V.P.l.length ≤ 71 ∧ V.P.l.length ≤ 41 ∧ V.n ≤ 8 + 17 * kk ∧ VolL s' rcall1 dcall1 U V 0), fun vs H' => match vs with | [.int .i64 i] => (200 - i).toNat | _ => 0, ⟨s_6, rfl, _, rfl, Ch.refl _ _, ?_⟩, ?_⟩
  ·
    exact ⟨0, _, rfl, hB.now.ticks _, by show 0 + Vcall1.P.l.length ≤ 71; omega, by show Vcall1.P.l.length ≤ 41; omega, by show Vcall1.n + _ ≤ _; rw [hB.n]; omega, call2c⟩
  ·
    intro i _ _ _ _ _ _ _ _ _ _ _ _ _ _ _ _ _ _ _ _ _ _ _ _ _ _ _ _ _ _ _ _ _ _ _ _ _ _ _ _ _ _ _ _ _ _ _ _ _ _ _ _ _ _ _ _ _ _ _ _ _ _ _ _ _ _ _ _ _ _ _ _ _ _ _ _ _ _ _ _ _ _ _ H_ hI_12
    obtain ⟨s_11, rfl, i_, hvs, c_13, kk, V, rfl, hN, hk1, hk2, hk3, hv⟩ := hI_12
    cases hvs
    have z_14 := c_13.size
    refine tcall (c_VDirty _ _ _ _ _ _ (by omega) hv (by omega)) ?_
    rintro v_16 s_15 ⟨acall3, ccall3, rfl, c_18, call3a, call3b⟩
    have z_19 := c_18.size
    refine dSl_i ?_
    refine sB_d (fun hsB2 => ?_) (fun hsB2 => ?_)
    ·
      refine tcall (c_VReady _ _ _ _ τ _ (by omega) call3b (by omega)) ?_
      rintro v_21 s_20 ⟨acall4, ccall4, rfl, c_23, call4a, call4b⟩
      have z_24 := c_23.size
      have hne := ready_some hv.pok hN.way (fun e => by rw [blocks_some.2 e] at hsB2; simp at hsB2)
      have hrl : 0 < V.ready.length := List.length_pos_iff.2 hne
      have hrb := ready_len hv.pok
      have hplst := hv.pok.lst
      refine dSl_i ?_
      refine jn_u ?_
      refine sB_d (fun hsB3 => by exfalso; omega) (fun hsB3 => ?_)
      intro _
      intros
      refine dBl_i ?_
      refine sB_d (fun hsB4 => by exfalso; omega) (fun hsB4 => ?_)
      refine jn1 (fun kv s' => Ch [] s_20 s' ∧ (∃ m : Nat, kv = .int .i64 m ∧ m < V.ready.length)) ?_ ?_
      ·
        rintro kv s_25 ⟨c_26, m, rfl, hm⟩
        have z_27 := c_26.size
        intro _
        intros
        refine dInt_i ?_
        refine jn_u ?_
        have h_28 := call4a.mv c_26 (tagn (by simp))
        obtain ⟨a_29, rfl⟩ := h_28.ne_none (by omega)
        refine nz_i ?_
        refine ask_t (by omega) ?_
        refine ld_iv h_28.sl (by omega) (by omega) fun vel1 hel1 => ?_
        rw [Int.toNat_natCast] at hel1
        refine dInt_i ?_
        have h_30 := call4b.mv c_26 (rngn50 (by simp))
        refine tcall (c_VWrite _ _ _ _ _ _ (by omega) h_30 (by omega)) ?_
        rintro v_32 s_31 ⟨rfl, c_34, call5a⟩
        have z_35 := c_34.size
        have hrm := List.mem_of_getElem? hel1
        have hwr := write_ready hN.has hrm (by rw [hN.way]; decide)
        have hv5 : VolL s_31 rcall1 dcall1 U (V.sent vel1) 0 := by have h := call5a; rw [hwr] at h; exact h
        rw [hwr]
        refine dInt_i ?_
        refine sB_f (by rfl) ?_
        refine tcall (c_vall _ _ _ _ (M + 3) (M + 4) _ (by omega) hv5 (by show V.n + 1 < _; omega) (by omega)) ?_
        rintro v_37 s_36 ⟨acall6, ccall6, hscall6, rfl, c_39, call6a, call6b, call6c⟩
        have z_40 := c_39.size
        refine dSl_i ?_
        have h_41 := call2a.mv (((((c_13.app c_18).app c_23).app c_26).app c_34).app c_39) (tagn (by simp <;> omega))
        have h_42 := call2b.mv (((((c_13.app c_18).app c_23).app c_26).app c_34).app c_39) (tagn (by simp <;> omega))
        refine tcall (c_same _ _ _ _ _ call6a.sl h_41.sl (show BRel _ _ _ Vcall1.alls from by rw [← hN.sallen vel1]; exact call6b) h_42 ((alls_len _).trans hN.bl.symm) (alls_len _) (by show V.D.blocks.length ≤ 2048; rw [hN.bl]; omega)) ?_
        rintro v_44 s_43 ⟨rfl, c_46⟩
        have z_47 := c_46.size
        refine dBl_i ?_
        refine sB_f (by rfl) ?_
        have h_48 := call6c.mv c_46 (rngn50 (by simp))
        refine tcall (c_VWay _ _ _ _ τ _ (by omega) h_48 (by omega)) ?_
        rintro v_50 s_49 ⟨acall8, ccall8, rfl, c_52, call8a, call8b⟩
        have z_53 := c_52.size
        rw [show (((V.sent vel1).ticksN (V.sent vel1).D.blocks.length).wayb).length = 1 from by unfold VolM.wayb; rw [List.length_map]; show (V.way ++ [_]).length = 1; rw [hN.way]; rfl]
        refine dSl_i ?_
        intro _
        intros
        refine dBl_i ?_
        refine sB_f (by rfl) ?_
        refine jn1 (fun fv s' => Ch [] s_49 s' ∧ (∃ f, fv = .bool f ∧ (f = true → kk < 30))) ?_ ?_
        ·
          rintro fv s_54 ⟨c_55, f, rfl, hf⟩
          have z_56 := c_55.size
          intro _
          intros
          refine dBl_i ?_
          refine jn_u ?_
          have h_57 := call8b.mv c_55 (rngn50 (by simp))
          refine tcall (c_VComplete _ _ _ _ _ _ _ (by omega) h_57) ?_
          rintro v_59 s_58 ⟨rfl, c_61, call9a⟩
          have z_62 := c_61.size
          obtain ⟨hc1, hc2, hc3, hc4, hc5⟩ := hN.compl hv.vok hv.pok hrm (((V.sent vel1).D.blocks.length : Nat) : Int) f
          rw [hc1]
          refine dInt_i ?_
          refine sB_f (by cases f <;> rfl) ?_
          refine tcall (c_vall _ _ _ _ (M + 3) (M + 4) _ (by omega) call9a (by rw [hc5]; show V.n + 1 + ((V.D.blocks.length : Nat) : Int) < _; have := hN.bl; omega) (by omega)) ?_
          rintro v_64 s_63 ⟨acall10, ccall10, hscall10, rfl, c_66, call10a, call10b, call10c⟩
          have z_67 := c_66.size
          refine dSl_i ?_
          have h_68 := h_41.mv ((((c_46.app c_52).app c_55).app c_61).app c_66) (tagn (by simp <;> omega))
          have h_69 := h_42.mv ((((c_46.app c_52).app c_55).app c_61).app c_66) (tagn (by simp <;> omega))
          refine tcall (c_same _ _ _ _ _ call10a.sl h_68.sl (show BRel _ _ _ Vcall1.alls from by rw [← hc2.alls]; exact call10b) h_69 ((alls_len _).trans hc2.bl.symm) (alls_len _) (by rw [hc2.bl]; omega)) ?_
          rintro v_71 s_70 ⟨rfl, c_73⟩
          have z_74 := c_73.size
          refine dBl_i ?_
          intro _
          intros
          refine dBl_i ?_
          refine sB_f (by rfl) ?_
          refine wr_t (by omega) ?_
          refine ⟨⟨s_70, rfl, _, rfl, (((((((((((((Ch.refl [U, U + 1, U + 10, U + 11, U + 12, U + 13, U + 14, U + 20, U + 21, U + 22, U + 23, U + 31, U + 32, M + 9] s_6).ch c_13 (by simp)).ch c_18 (by simp)).ch c_23 (by simp)).ch c_26 (by simp)).ch c_34 (by simp)).ch c_39 (by simp)).ch c_46 (by simp)).ch c_52 (by simp)).ch c_55 (by simp)).ch c_61 (by simp)).ch c_66 (by simp)).ch c_73 (by simp)), ?_⟩, ?_⟩
          ·
            have h_75 := call10c.mv c_73 (rngn50 (by simp))
            have hbl := hN.bl
            have hbl2 := hc2.bl
            have hx1 : kk + 1 + (((V.sent vel1).ticksN (V.sent vel1).D.blocks.length).compl 0 (!f)).1.P.l.length ≤ 71 := by
              rcases Bool.eq_false_or_eq_true f with e | e
              · have := hf e; omega
              · have := hc4 e; omega
            exact ⟨kk + 1, _, by omega, hc2.ticks _, hx1, Nat.le_trans hc3 hk2, by show (((V.sent vel1).ticksN (V.sent vel1).D.blocks.length).compl 0 (!f)).1.n + (((((V.sent vel1).ticksN (V.sent vel1).D.blocks.length).compl 0 (!f)).1.D.blocks.length : Nat) : Int) ≤ _; rw [hc5]; show V.n + 1 + ((V.D.blocks.length : Nat) : Int) + _ ≤ _; rw [hc2.bl]; omega, h_75⟩
          ·
            simp only []; omega
        ·
          intro K_76 hK_76
          refine sB_d (fun hsB10 => ?_) (fun hsB10 => ?_)
          ·
            have h_77 := ho.mv (((((((((c_4.app c_9).app c_13).app c_18).app c_23).app c_26).app c_34).app c_39).app c_46).app c_52) (tagn (by simp <;> omega))
            obtain ⟨a_78, rfl⟩ := h_77.ne_none (by simp [bvs_len, ivs_len]; omega)
            refine nz_i ?_
            refine ask_t (by omega) ?_
            refine ld_iv h_77 (by omega) (by omega) fun vel2 hel2 => ?_
            rw [Int.toNat_natCast] at hel2
            refine dInt_i ?_
            refine ask_t (by omega) ?_
            refine nm_a fun n218 hn218 => ?_
            refine sB_d (fun hsB11 => ?_) (fun hsB11 => ?_)
            ·
              refine hK_76 _ _ ⟨(Ch.refl [] s_49), ?_⟩
              exact ⟨_, rfl, fun h => by simp at h; omega⟩
            ·
              refine hK_76 _ _ ⟨(Ch.refl [] s_49), ?_⟩
              exact ⟨_, rfl, fun h => by cases h⟩
          ·
            refine hK_76 _ _ ⟨(Ch.refl [] s_49), ?_⟩
            exact ⟨_, rfl, fun h => by cases h⟩
      ·
        intro K_79 hK_79
        refine sB_d (fun hsB12 => ?_) (fun hsB12 => ?_)
        ·
          have h_80 := ho.mv ((((c_4.app c_9).app c_13).app c_18).app c_23) (tagn (by simp <;> omega))
          obtain ⟨a_81, rfl⟩ := h_80.ne_none (by simp [bvs_len, ivs_len]; omega)
          refine nz_i ?_
          refine ask_t (by omega) ?_
          refine ld_iv h_80 (by omega) (by omega) fun vel3 hel3 => ?_
          rw [Int.toNat_natCast] at hel3
          refine dInt_i ?_
          refine wr_a fun n251 hn251 => ?_
          rw [wrap_u64] at hn251
          refine wr_a fun n252 hn252 => ?_
          rw [wrap_u64] at hn252
          refine ask_t (by omega) ?_
          refine nm_a fun n253 hn253 => ?_
          have qn253 := tmod_rng (by omega) (by omega) hn253
          refine wr_t (by omega) ?_
          refine hK_79 _ _ ⟨(Ch.refl [] s_20), ?_⟩
          exact ⟨n253.toNat, by rw [Int.toNat_of_nonneg (by omega)], by omega⟩
        ·
          refine hK_79 _ _ ⟨(Ch.refl [] s_20), ?_⟩
          exact ⟨0, rfl, hrl⟩
    ·
      refine ret_t ?_
      exact ⟨rfl, (((((Ch.refl [U, U + 1, U + 3, U + 10, U + 11, U + 12, U + 13, U + 14, U + 20, U + 21, U + 22, U + 23, U + 30, U + 31, U + 32] s).ch c_4 (by simp)).ch c_9 (by simp)).fr c_13 hM (by simp)).ch c_18 (by simp))⟩
end Go.Proofs.YtngploohhmfaiaaGreat.E
/- What a law's arguments are, with the form's own reach: no slice takes more bytes than a process has. -/
namespace Go.Proofs.YtngploohhmfaiaaGreat.E
open Go Go.WideShapes Go.ChangeShapes
set_option linter.unusedVariables false
section
variable {H : Type} {enc : TypeId × Value → H} {P : Program} {W : World} {t e : TypeId} {row : List Value}
theorem weightsEach_get {B : Nat} : ∀ {ts : List TypeId} {ds : List (DataW H)} {i : Nat} {t : TypeId} {d : DataW H}, ts[i]? = some t → ds[i]? = some d → (∀ x ∈ DataW.weightsEach P ts ds, x ≤ B) → ∀ x ∈ d.weights P t, x ≤ B
  | [], _, i, t, d, h1, _, _ => by simp at h1
  | t0 :: ts, [], i, t, d, _, h2, _ => by simp at h2
  | t0 :: ts, d0 :: ds, 0, t, d, h1, h2, h => by
    simp at h1 h2; subst h1 h2
    intro x hx; exact h x (by unfold DataW.weightsEach; exact List.mem_append_left _ hx)
  | t0 :: ts, d0 :: ds, i + 1, t, d, h1, h2, h => by
    simp at h1 h2
    exact weightsEach_get h1 h2 fun x hx => h x (by unfold DataW.weightsEach; exact List.mem_append_right _ hx)
theorem weightsAll_mem {B : Nat} : ∀ {ds : List (DataW H)} {d : DataW H}, d ∈ ds → (∀ x ∈ DataW.weightsAll P e ds, x ≤ B) → ∀ x ∈ d.weights P e, x ≤ B
  | d0 :: ds, d, hd, h => by
    rcases List.mem_cons.1 hd with rfl | hd
    · intro x hx; exact h x (by unfold DataW.weightsAll; exact List.mem_append_left _ hx)
    · exact weightsAll_mem hd fun x hx => h x (by unfold DataW.weightsAll; exact List.mem_append_right _ hx)
theorem weights_all {ts : List TypeId} {ds : List (DataW H)} (h : (DataW.weightsEach P ts ds).all (· ≤ reachBytes) = true) : ∀ x ∈ DataW.weightsEach P ts ds, x ≤ reachBytes := fun x hx => by
  have := List.all_eq_true.1 h x hx; simpa using this
/-- a row of cells that reads as a value of a type, nothing in it too large -/
def Rdw {H : Type} (enc : TypeId × Value → H) (P : Program) (W : World) (t : TypeId) (row : List Value) : Prop := ∃ fuel y, DataW.trod enc P W 0 (fun _ => true) true fuel t row = some y ∧ ∀ x ∈ y.1.weights P t, x ≤ reachBytes
theorem Rdw.rd (h : Rdw enc P W t row) : Rd enc P W t row := by obtain ⟨f, y, h, _⟩ := h; exact ⟨f, y, h⟩
theorem rdw_of {v : Value} {d : DataW H} {ps : List MemPlace} (h : DataW.Trod enc P W 0 (fun _ => true) true t v d ps) (hw : ∀ x ∈ d.weights P t, x ≤ reachBytes) : Rdw enc P W t v.cells.toList := by
  obtain ⟨f, h⟩ := h; exact ⟨f, _, h, hw⟩
theorem rdw_struct {fs : Array Field} (ht : P.underlying t = some (.struct fs)) (h : Rdw enc P W t row) : row.length = P.cellsOf t ∧ ∀ (i : Nat) (f : Field), fs[i]? = some f → Rdw enc P W f.type ((row.drop f.offset).take (P.cellsOf f.type)) := by
  obtain ⟨f, y, h, hw⟩ := h
  obtain ⟨xs, n, rfl, rfl, h1, h2, h3⟩ := DataW.trod_struct ht h
  refine ⟨h1, fun i f hf => ?_⟩
  have hi : i < xs.length := by rw [h2]; exact (Array.getElem?_eq_some_iff.1 hf).1
  refine ⟨n, xs[i], by rw [h3 i f hf]; simp [hi], ?_⟩
  unfold DataW.weights at hw
  rw [ht] at hw
  refine weightsEach_get (ts := fs.toList.map (·.type)) (ds := xs.map (·.1)) (i := i) ?_ (by simp [hi]) hw
  rw [List.getElem?_map, Array.getElem?_toList, hf]; rfl
theorem rdw_sl (ht : P.underlying t = some (.slice e)) (h : Rdw enc P W t row) : ∃ (a : Option Addr) (n c : Nat) (rows : List (List Value)), row = [.slice a n c] ∧ n ≤ c ∧ n * P.bytesOf e ≤ reachBytes ∧ (a = none → n = 0) ∧ rows.length = n ∧ (∀ r ∈ rows, r.length = P.cellsOf e ∧ Rdw enc P W e r) ∧ Sl ⟨W.heap, fun _ => 0⟩ a rows.flatten 0 := by
  obtain ⟨f, y, h, hw⟩ := h
  rcases DataW.trod_slice ht h with ⟨h0, _⟩ | ⟨a, len, cap, elems, rest, n, rfl, rfl, rfl, hb, hl, hm, hlen, hel, _⟩
  · exact ⟨none, 0, 0, [], h0, by omega, by simp, fun _ => rfl, rfl, fun r hr => (List.not_mem_nil hr).elim, .inl rfl⟩
  · unfold DataW.weights at hw
    rw [ht] at hw
    simp only [List.length_map] at hw
    have hbig : len * P.bytesOf e ≤ reachBytes := by
      have h1 := hw ((elems.length + rest.length) * P.bytesOf e) (by simp)
      have h2 : len * P.bytesOf e ≤ (elems.length + rest.length) * P.bytesOf e := Nat.mul_le_mul_right _ (by omega)
      omega
    have hrow : ∀ i, i < len → ∃ r, W.cells? 0 (a.add (i * P.cellsOf e)) (P.cellsOf e) = some r ∧ Rdw enc P W e r := fun i hi => by
      have h1 := hel i hi
      rw [List.getElem?_eq_getElem (by omega)] at h1
      obtain ⟨r, h2, h3⟩ := Option.bind_eq_some_iff.1 h1
      refine ⟨r, h2, n, _, h3, weightsAll_mem (ds := elems.map (·.1)) (List.mem_map.2 ⟨_, List.getElem_mem _, rfl⟩) fun x hx => hw x ?_⟩
      exact List.mem_cons_of_mem _ (List.mem_append_left _ hx)
    let rows := (List.range len).map fun i => (W.cells? 0 (a.add (i * P.cellsOf e)) (P.cellsOf e)).getD []
    have hget : ∀ i r, rows[i]? = some r → W.cells? 0 (a.add (i * P.cellsOf e)) (P.cellsOf e) = some r ∧ Rdw enc P W e r := fun i r hr => by
      have hi : i < len := by
        have := (List.getElem?_eq_some_iff.1 hr).1
        simpa [rows] using this
      obtain ⟨r', h1, h2⟩ := hrow i hi
      simp [rows, hi, h1] at hr
      subst hr; exact ⟨h1, h2⟩
    have hmem : ∀ r ∈ rows, r.length = P.cellsOf e ∧ Rdw enc P W e r := fun r hr => by
      obtain ⟨i, hi⟩ := List.getElem?_of_mem hr
      obtain ⟨h1, h2⟩ := hget i r hi
      exact ⟨(World.cells?_some h1).2.1, h2⟩
    exact ⟨some a, len, cap, rows, rfl, hl, hbig, (fun h => by cases h), by simp [rows], hmem, sl_rows (fun r hr => (hmem r hr).1) fun i r hr m hm => (World.cells?_some (hget i r hr).1).2.2 m hm⟩
theorem rdw_ints (ht : P.underlying t = some (.slice e)) (he : P.underlying e = some (.int .i64)) (h8 : P.bytesOf e = 8) (h : Rdw enc P W t row) : ∃ (a : Option Addr) (n c : Nat) (ls : List Int), row = [.slice a n c] ∧ n ≤ c ∧ n ≤ 17592186043904 ∧ (a = none → n = 0) ∧ ls.length = n ∧ Sl ⟨W.heap, fun _ => 0⟩ a (ivs ls) 0 := by
  obtain ⟨a, n, c, ls, h1, h2, _, h3, h4, h5, _⟩ := rd_ints ht he h.rd
  obtain ⟨a', n', c', _, g1, _, g3, _⟩ := rdw_sl ht h
  rw [h1] at g1
  cases g1
  rw [h8] at g3
  unfold reachBytes at g3
  exact ⟨a, n, c, ls, h1, h2, by omega, h3, h4, h5⟩
end
theorem rih_sized {H : Type} {enc : TypeId × Value → H} {a : Assume} {C : Checked} {os : Os} {f : FuncId} {fn : Func} {s : ChangeSpec} {conds : List PathCond} {apart fresh handsOn again : Bool}
    (own : ownKnob C.prog.godebug = none) (started : os.Started) (noInit : C.prog.inits.idxOf? f = none) (hfn : C.prog.funcs[f]? = some fn)
    (witness : ∃ (w : World) (tape : Tape) (i : Input), w.os = os ∧ (w.forCall tape i).Shaped C.prog ∧ i.vars = [] ∧ Input.okWide C.prog (w.forCall tape i) .any w.heap.size f i ∧
      s.pre6 enc C.prog fn conds apart (w.forCall tape i).memory i.args ∧ a.holds C.prog (lone (Frame.enter C.prog f i.args .normal) [] (w.forCall tape i)))
    (contract : ∀ (W : World) (base : Nat) (args : Array Value) (ds gs : List (DataW H)) (before : List MemPlace),
      (∀ (j : Nat) t v, fn.params[j]? = some t → args[j]? = some v → Value.okWide C.prog W .any base t v) →
      DataW.Whole enc C.prog fn.params.toList s.vars apart W args.toList ds gs before →
      (DataW.weightsEach C.prog (fn.params.toList ++ s.plain.varTypes C.prog) (ds ++ gs)).all (· ≤ reachBytes) = true →
      Calls C.prog f args W fun e W' => ∃ v, e = .returned v ∧ s.post enc C.prog fn apart fresh handsOn again W args v W') :
    ReturnsInHanded a C os f .any (s.pre6 enc C.prog fn conds apart) (s.post enc C.prog fn apart fresh handsOn again) := by
  refine returnsInHanded_of_calls own started noInit witness ?_
  intro w tape i _ _ _ hok hpre _
  obtain ⟨_, _, _, fn', hfn', _, _, _, _, hval⟩ := hok
  have e : fn' = fn := Option.some.inj (hfn'.symm.trans hfn)
  subst e
  obtain ⟨⟨ds, gs, before, hw, _⟩, hz⟩ := hpre
  have hw' := DataW.Whole.of_heap (w' := w.forCall tape i) (by rfl) hw
  refine (contract (w.forCall tape i) w.heap.size i.args ds gs before hval hw' (hz.weights hw)).mono fun e W' ⟨v, he, hp⟩ => ?_
  subst he
  exact ChangeSpec.post_blind hp
end Go.Proofs.YtngploohhmfaiaaGreat.E
/- The volume laws' arguments. -/
namespace Go.Proofs.YtngploohhmfaiaaGreat.E
open Go Go.WideShapes
set_option linter.unusedVariables false
set_option maxRecDepth 100000 in
theorem rdw_do {H : Type} {enc : TypeId × Value → H} {W : World} {row : List Value} (h : Rdw enc Tryz.prog W 125 row) : ∃ x : DoV, row = dov9 x ∧ DoIn ⟨W.heap, fun _ => 0⟩ 0 x := by
  obtain ⟨hl, hf⟩ := rdw_struct Tryz.underlying125 h
  have hc : Tryz.prog.cellsOf 125 = 6 := by kernel_rfl
  have c3 : Tryz.prog.cellsOf 3 = 1 := by kernel_rfl
  have cb : Tryz.prog.cellsOf 38 = 1 := by kernel_rfl
  have ci : Tryz.prog.cellsOf 73 = 1 := by kernel_rfl
  rw [hc] at hl
  match row, hl with
  | [v0, v1, v2, v3, v4, v5], _ =>
    have h0 : Rdw enc Tryz.prog W 3 (([v0, v1, v2, v3, v4, v5].drop 0).take (Tryz.prog.cellsOf 3)) := hf 0 _ rfl
    have h1 : Rdw enc Tryz.prog W 3 (([v0, v1, v2, v3, v4, v5].drop 1).take (Tryz.prog.cellsOf 3)) := hf 1 _ rfl
    have h2 : Rdw enc Tryz.prog W 3 (([v0, v1, v2, v3, v4, v5].drop 2).take (Tryz.prog.cellsOf 3)) := hf 2 _ rfl
    have h3 : Rdw enc Tryz.prog W 3 (([v0, v1, v2, v3, v4, v5].drop 3).take (Tryz.prog.cellsOf 3)) := hf 3 _ rfl
    have h4 : Rdw enc Tryz.prog W 38 (([v0, v1, v2, v3, v4, v5].drop 4).take (Tryz.prog.cellsOf 38)) := hf 4 _ rfl
    have h5 : Rdw enc Tryz.prog W 73 (([v0, v1, v2, v3, v4, v5].drop 5).take (Tryz.prog.cellsOf 73)) := hf 5 _ rfl
    rw [c3] at h0 h1 h2 h3
    rw [cb] at h4
    rw [ci] at h5
    obtain ⟨x0, e0, _⟩ := rd_int Tryz.underlying3 h0.rd
    obtain ⟨x1, e1, _⟩ := rd_int Tryz.underlying3 h1.rd
    obtain ⟨x2, e2, _⟩ := rd_int Tryz.underlying3 h2.rd
    obtain ⟨x3, e3, _⟩ := rd_int Tryz.underlying3 h3.rd
    obtain ⟨ba, bn, bc, by_, e4, b1, b2, b3, b4, b5⟩ := rd_bytes Tryz.underlying38 Tryz.underlying5 h4.rd
    obtain ⟨ba', bn', bc', _, e4', _, b6, _⟩ := rdw_sl Tryz.underlying38 h4
    obtain ⟨na, nn, nc, ns, e5, n1, n2, n3, n4, n5⟩ := rdw_ints Tryz.underlying73 Tryz.underlying3 (by kernel_rfl) h5
    rw [e4] at e4'
    cases e4'
    have h1b : Tryz.prog.bytesOf 5 = 1 := by kernel_rfl
    rw [h1b] at b6
    unfold reachBytes at b6
    have b7 : bn ≤ 140737488351232 := by omega
    simp at e0 e1 e2 e3 e4 e5
    subst e0 e1 e2 e3 e4 e5
    exact ⟨⟨x0, x1, x2, x3, ba, bn, bc, na, nn, nc, by_, ns⟩, rfl, b5, b4, b3, ⟨b1, b7⟩, n5, n4, n3, ⟨n1, n2⟩⟩
theorem rdw_dos {H : Type} {enc : TypeId × Value → H} {W : World} : ∀ {rows : List (List Value)}, (∀ r ∈ rows, r.length = Tryz.prog.cellsOf 125 ∧ Rdw enc Tryz.prog W 125 r) → ∃ ls : List DoV, ls.length = rows.length ∧ rows.flatten = ls.flatMap dov9 ∧ Dos ⟨W.heap, fun _ => 0⟩ 0 ls
  | [], _ => ⟨[], rfl, rfl, ⟨fun x hx => (List.not_mem_nil hx).elim⟩⟩
  | r :: rows, h => by
    obtain ⟨ls, h1, h2, h3⟩ := rdw_dos (rows := rows) fun r' h' => h r' (List.mem_cons_of_mem _ h')
    obtain ⟨x, rfl, hx⟩ := rdw_do (h r (by simp)).2
    refine ⟨x :: ls, by simp [h1], by simp [h2], ⟨fun y hy => ?_⟩⟩
    rcases List.mem_cons.1 hy with rfl | hy
    · exact hx
    · exact h3.at_ y hy
end Go.Proofs.YtngploohhmfaiaaGreat.E
/- The closed facts of a row, one by one. -/
namespace Go.Proofs.YtngploohhmfaiaaGreat.E
open Go
def kindsOf (P : Program) (fn : Func) (c : OpenClaim) : List (Option IntKind) := if c.domain.isEmpty then [] else fn.params.toList.map fun t => match P.underlying t with | some (.int k) => some k | _ => none
theorem andb {a b : Bool} (h : a = true) (k : b = true) : (a && b) = true := by rw [h, k]; rfl
theorem joined_of {P : Program} {f : FuncId} {fn : Func} {s : ChangeSpec} {c : OpenClaim}
    (j0 : (c.wf (OpenSpec.ofChange s)) = true)
    (j1 : (laidOutB P) = true)
    (j2 : (mapsRowed P) = true)
    (j3 : (fn.params.all (P.readableRec ·)) = true)
    (j4 : (namedTie P c.named s.vars) = true)
    (j5 : ((c.stops == [])) = true)
    (j6 : ((P.stops == [])) = true)
    (j7 : ((c.knobs == [])) = true)
    (j8 : ((P.stopKnobs == [])) = true)
    (j9 : ((c.inPlace == P.inPlace f)) = true)
    (j10 : ((c.unfollowed == P.unfollowed f)) = true)
    (j11 : ((c.recurses == P.recurses f)) = true)
    (j12 : ((c.named == P.varsNamed f)) = true)
    (j13 : ((c.maps == (fn.params.toList ++ s.plain.varTypes P).any (P.mapsRec ·))) = true)
    (j14 : ((c.ifaces == (fn.params.toList ++ s.plain.varTypes P).any (P.ifacesRec ·))) = true)
    (j15 : ((c.mapsOut == P.mapsAmong fn.resultTypes.toList)) = true)
    (j16 : ((c.loops == (fn.params.toList ++ s.plain.varTypes P).any (P.loopsFrom ·))) = true)
    (j17 : ((c.wideKeys == (fn.params.toList ++ s.plain.varTypes P ++ fn.resultTypes.toList).any (P.wideKeysFrom ·))) = true)
    (j18 : (s.vars.all (P.varReadable ·)) = true)
    (j19 : (fn.resultTypes.all (fun t => P.readableRec t && decide (t < P.types.size))) = true)
    (j20 : ((c.ifacesOut == fn.resultTypes.toList.any (P.ifacesRec ·))) = true)
    (j21 : ((c.loopsOut == fn.resultTypes.toList.any (P.loopsFrom ·))) = true)
    (j22 : ((c.plainKeys == P.plainKeys)) = true)
    (j23 : (c.shortTexts.isNone) = true)
    (j24 : (P.stopsHeard) = true)
    (j25 : (P.mayEnter) = true)
    (j26 : ((c.lifted == P.liftsFinal)) = true)
    (j27 : ((P.make == some c.make)) = true)
    (j28 : ((c.kinds == kindsOf P fn c)) = true)
    (j29 : ((c.pinned == c.pinnedBy)) = true)
    (j30 : ((c.veiled == (fn.params.toList ++ s.plain.varTypes P ++ fn.resultTypes.toList).any (P.veiledRec ·))) = true)
    (j31 : (c.veiledFits P fn.params.toList (fn.params.toList ++ s.plain.varTypes P ++ fn.resultTypes.toList)) = true)
    : joinedFacts P f fn s c = true := by
  unfold joinedFacts
  exact (andb (andb (andb (andb (andb (andb (andb (andb (andb (andb (andb (andb (andb (andb (andb (andb (andb (andb (andb (andb (andb (andb (andb (andb (andb (andb (andb (andb (andb (andb (andb j0 j1) j2) j3) j4) j5) j6) j7) j8) j9) j10) j11) j12) j13) j14) j15) j16) j17) j18) j19) j20) j21) j22) j23) j24) j25) j26) j27) j28) j29) j30) j31)
end Go.Proofs.YtngploohhmfaiaaGreat.E
