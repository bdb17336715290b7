/- My own texts, joined. -/
import Derived.ChangeArms
import Derived.DataReads
import Derived.KernelRfl
import Derived.ProofKit
import Derived.Test.YtngploohhmfaiaaGreatProg
import Derived.WalkKit
import Derived.WideShapes
import Derived.Test.YtngploohhmfaiaaGreatQc9
/- Contracts of functions. -/
namespace Go.Proofs.YtngploohhmfaiaaGreat.E
open Go Go.Proofs Go.RowKit Go.Maps Go.Shelf Go.Sort
set_option linter.unusedVariables false
set_option linter.unusedSimpArgs false
theorem OMap.keep {s : TH} {rk : Option Nat} {mk : List (Int × Value)} {σ μ τ : Nat} (h : OMap s rk mk σ) (hn : σ ≠ μ) : OMap (remark s μ τ) rk mk σ := ⟨fun r e => (h.at_ r e).keep hn, h.no⟩
theorem WMap.keep {s : TH} {σ μ τ : Nat} (hn : σ ≠ μ) : ∀ {m : List (Int × Value)} {l : List (Int × WayM)}, WMap s σ m l → WMap (remark s μ τ) σ m l
  | [], [], h => trivial
  | e :: m, p :: l, h => by
    obtain ⟨h1, ⟨ba, bc, ia, ic, g1, g2, g3, g4⟩, h2⟩ := h
    exact ⟨h1, ⟨ba, bc, ia, ic, g1, g2.keep hn, g3.keep hn, g4⟩, WMap.keep hn h2⟩
  | [], _ :: _, h => h.elim
  | _ :: _, [], h => h.elim
theorem KMap.keep {s : TH} {σ μ τ : Nat} (hn : σ ≠ μ) : ∀ {m : List (Int × Value)} {l : List (Int × List UInt8)}, KMap s σ m l → KMap (remark s μ τ) σ m l
  | [], [], h => trivial
  | e :: m, p :: l, ⟨h1, ⟨a, c, g1, g2, g3⟩, h2⟩ => ⟨h1, ⟨a, c, g1, g2.keep hn, g3⟩, KMap.keep hn h2⟩
  | [], _ :: _, h => h.elim
  | _ :: _, [], h => h.elim
theorem PMap.keep {s : TH} {σ μ τ : Nat} (hn : σ ≠ μ) : ∀ {m : List (Int × Value)} {l : List PatM}, PMap s σ m l → PMap (remark s μ τ) σ m l
  | [], [], h => trivial
  | e :: m, p :: l, h => by
    obtain ⟨h1, ⟨ba, bc, na, nc, g1, g2, g3⟩, h2⟩ := h
    exact ⟨h1, ⟨ba, bc, na, nc, g1, g2.keep hn, g3.keep hn⟩, PMap.keep hn h2⟩
  | [], _ :: _, h => h.elim
  | _ :: _, [], h => h.elim
theorem PSet.keep {s : TH} {p T μ τ : Nat} {P : PatchM} (h : PSet s p T P) (hn : μ < T ∨ T + 10 ≤ μ) : PSet (remark s μ τ) p T P := by
  obtain ⟨⟨r1, r2, m1, m2, hp⟩, ok⟩ := h
  exact ⟨⟨r1, r2, m1, m2, hp.blk.keep (by omega), hp.dm.keep (by omega), hp.lm.keep (by omega), PMap.keep (by omega) hp.pm, hp.dk, hp.dv⟩, ok⟩
theorem Disk.keep {s : TH} {d T μ τ : Nat} {D : DiskM} (h : Disk s d T D) (hn : μ < T ∨ T + 10 ≤ μ) : Disk (remark s μ τ) d T D := by
  obtain ⟨pa, pc, qa, qc, hs, qs, fr, fm, h⟩ := h
  exact ⟨pa, pc, qa, qc, hs, qs, fr, fm, h.blk.keep (by omega), h.rows.keep (by omega), h.brel.keep (by omega), h.que.keep (by omega), h.qrel.keep (by omega), h.fails.keep (by omega), h.fok, h.nb, h.nq, h.qin⟩
theorem CacheV.keep {s : TH} {c T d μ τ : Nat} {bs : List (List UInt8)} {n : Int} (h : CacheV s c T d bs n) (hn : μ < T ∨ T + 10 ≤ μ) : CacheV (remark s μ τ) c T d bs n := by
  obtain ⟨C, ⟨⟨r, m, bp, bh, hp⟩, ok⟩, h2⟩ := h
  exact ⟨C, ⟨⟨r, m, bp, bh, hp.blk.keep (by omega), hp.map.keep (by omega), ⟨fun x hx => (hp.bufs.at_ x hx).keep (by omega)⟩, ⟨fun x hx => ⟨(hp.bufy.at_ x hx).sl.keep (by omega), (hp.bufy.at_ x hx).len⟩⟩, hp.mo, hp.bnd, hp.len⟩, ok⟩, h2⟩
theorem VolL.keep {s : TH} {v d U μ τ : Nat} {V : VolM} {lk : Int} (h : VolL s v d U V lk) (hn : μ < U ∨ U + 50 ≤ μ) : VolL (remark s μ τ) v d U V lk := by
  obtain ⟨⟨c, p, rw, rk, mw, mk, h⟩, ok⟩ := h
  exact ⟨⟨c, p, rw, rk, mw, mk, h.blk.keep (by omega), h.wm.keep (by omega), WMap.keep (by omega) h.wv, h.kn, h.om.keep (by omega), KMap.keep (by omega) h.kv, h.dk.keep (by omega), h.ca.keep (by omega), h.ps.keep (by omega)⟩, ok⟩
def VolM.wayb (V : VolM) : List Int := V.way.map fun p => p.2.blk
/-- (*bollard/volume.Volume).Way -/
theorem c_VWay (vp d U : Nat) (V : VolM) (τ : Nat) (s : TH) (hU : 10 ≤ U) (hv : VolL s vp d U V 0) (hτ : τ < U ∨ U + 50 ≤ τ) : TRet Tryz.prog 34 #[.pointer (some ⟨vp, 0, none⟩)] s fun v s' => ∃ a c, v = .slice a V.wayb.length c ∧ Ch [U] s s' ∧ Own s' a V.wayb.length c 3 1 (ivs V.wayb) τ ∧ VolL s' vp d U V 0 := by
  obtain ⟨⟨c, p, rw_, rk, mw, mk, hV⟩, ok⟩ := id hv
  have hvb := hV.blk
  have hvw := hV.wm
  have hvv := hV.wv
  have hvo := hV.om
  have hvk := hV.kv
  have hvD := hV.dk
  have hvC := hV.ca
  have hvP := hV.ps
  have hn0 := ok.n0
  have hpok := hV.ps.ok
  have hplst := hV.ps.ok.lst
  have hnb := hV.dk.nb
  obtain ⟨M, hM, hM0, hMa, hMb, hMc, hMd, hMe, hMf⟩ := fresh6 s (U + 50) τ 0 0 0 0
  refine F34_calls _  ?_
  unfold F34
  refine tcall (c_vheld _ _ hvb) ?_
  rintro v_2 s_1 ⟨rfl, c_4, call1a⟩
  have z_5 := c_4.size
  have hV1 := hV.relock c_4 call1a
  have hv1 : VolL s_1 vp d U V 1 := ⟨⟨_, _, _, _, _, _, hV1⟩, ok⟩
  refine dBl_i ?_
  refine sB_f (by rfl) ?_
  refine nz_i ?_
  refine nz_i ?_
  refine ld_t call1a rfl ?_
  refine dPtr_i ?_
  have h_6 := hvD.mv c_4 (rngn (by simp))
  refine tcall (c_queue (M + 6) d (U + 10) V.D _ (by omega) h_6) ?_
  rintro v_8 s_7 ⟨acall2, ccall2, qscall2, rfl, c_10, call2a, call2b⟩
  have z_11 := c_10.size
  have hwl := ok.wlen
  refine dSl_i ?_
  refine ⟨fun vs H' => ∃ s' : TH, s'.h = H' ∧ ∃ q qn qc i, vs = [.slice q qn qc, .int .i64 i] ∧ Ch [M + 1, M + 9] s_7 s' ∧ (∃ kk : Nat, i = kk ∧ kk ≤ V.D.queue.length ∧ qn = kk ∧ Own s' q qn qc 3 1 (ivs ((V.way.take kk).map fun p => p.2.blk)) (M + 1)), fun vs H' => match vs with | [.slice q qn qc, .int .i64 i] => ((V.D.queue.length : Int) - i).toNat | _ => 0, ⟨s_7, rfl, _, _, _, _, rfl, Ch.refl _ _, ?_⟩, ?_⟩
  ·
    exact ⟨0, rfl, by omega, rfl, by simpa [ivs] using Own.nil _ _ _ _⟩
  ·
    intro q qn qc i _ _ _ _ _ _ _ _ _ _ _ _ _ _ _ _ _ _ _ _ _ _ _ H_ hI_13
    obtain ⟨s_12, rfl, q_, qn_, qc_, i_, hvs, c_14, kk, rfl, hk, hq, ho⟩ := hI_13
    cases hvs
    have z_15 := c_14.size
    have hwq0 := wlen_q ok
    refine sB_d (fun hsB2 => ?_) (fun hsB2 => ?_)
    ·
      refine jn_u ?_
      have h_16 := call2a.mv c_14 (tagn (by simp))
      obtain ⟨a_17, rfl⟩ := h_16.ne_none (by omega)
      refine nz_i ?_
      refine ask_t (by omega) ?_
      have h_18 := call2b.mv c_14 (tagn (by simp))
      have h_19 := hvv.mv ((c_4.app c_10).app c_14) (tagn (by simp <;> omega))
      have hwq := wlen_q ok
      obtain ⟨pw, hpw⟩ : ∃ p, V.way[kk]? = some p := ⟨V.way[kk]'(by omega), by simp⟩
      have hpq := way_q ok hpw
      have hql := (h_18).len
      obtain ⟨y, hy⟩ : ∃ y, qscall2[kk]? = some y := ⟨qscall2[kk]'(by omega), by simp⟩
      have hyi := (h_18).at_ kk y _ hy hpq
      have hyi2 : y.1 = pw.1 := hyi.1
      have hyi3 : y.2.1 = pw.2.blk := hyi.2.1
      obtain ⟨wv, hwv, ⟨ba1, bc1, ia1, ic1, hxv, sb1, si1, hl1⟩⟩ := WMap.get h_19 ok.wnd hpw
      subst hxv
      refine ld_sl (h_16).sl (by rw [Int.toNat_natCast]; exact qcell0 hy) ?_
      refine ld_sl2 (h_16).sl (by rw [Int.toNat_natCast]; exact qcell1 hy) ?_
      refine ld_sl2 (h_16).sl (by rw [Int.toNat_natCast]; exact qcell2 hy) ?_
      refine al_t (M + 9) fun r76 s77 hr76 b_20 c_21 z_22 => ?_
      refine st_t b_20 rfl (by simp) fun s78 b_23 c_24o z_25 => ?_
      have c_24 := on_ch b_20 c_24o
      refine st_t b_23 rfl (by simp) fun s79 b_26 c_27o z_28 => ?_
      have c_27 := on_ch b_23 c_27o
      refine st_t b_26 rfl (by simp) fun s80 b_29 c_30o z_31 => ?_
      have c_30 := on_ch b_26 c_30o
      refine nz_i ?_
      have h_32 := call1a.ch (((((c_10.app c_14).app c_21).app c_24).app c_27).app c_30) (by simp <;> omega)
      refine ld_t h_32 rfl ?_
      refine dMap_i ?_
      refine ld_t b_29 rfl ?_
      refine dInt_i ?_
      refine ⟨?_, ?_⟩
      ·
        have h_33 := hvw.ch ((((((c_4.app c_10).app c_14).app c_21).app c_24).app c_27).app c_30) (by simp <;> omega)
        refine look_oks keyI um52 z153 h_33 y.1 (by rw [hyi2]; exact hwv) ?_
        refine dT2 ?_
        refine dA3 ?_
        refine dBl_i ?_
        refine al_t (M + 9) fun r96 s97 hr96 b_34 c_35 z_36 => ?_
        refine st_t b_34 rfl (by simp) fun s98 b_37 c_38o z_39 => ?_
        have c_38 := on_ch b_34 c_38o
        refine st_t b_37 rfl (by simp) fun s99 b_40 c_41o z_42 => ?_
        have c_41 := on_ch b_37 c_41o
        refine st_t b_40 rfl (by simp) fun s100 b_43 c_44o z_45 => ?_
        have c_44 := on_ch b_40 c_44o
        refine sB_t (by rfl) ?_
        have h_47 := b_29.ch c_35 (by simp)
        have h_48 := h_47.on c_38o (by omega)
        have h_49 := h_48.on c_41o (by omega)
        have h_50 := h_49.on c_44o (by omega)
        refine ld_t h_50 rfl ?_
        refine dInt_i ?_
        refine al_t (M + 9) fun r103 s104 hr103 b_51 c_52 z_53 => ?_
        have h_56 := ho.mv ((((((((c_21.app c_24).app c_27).app c_30).app c_35).app c_38).app c_41).app c_44).app c_52) (tagn (by simp))
        refine app_i1 u73 in3 h_56 b_51 (by omega) fun s_57 a_54 k_55 o_58 c_59 => ?_
        have z_60 := c_59.size
        refine dSl_i ?_
        intro _
        intros
        refine dSl_i ?_
        refine wr_t (by omega) ?_
        refine ⟨⟨s_57, rfl, _, _, _, _, rfl, ((((((((((((Ch.refl [M + 1, M + 9] s_7).ch c_14 (by simp)).ch c_21 (by simp)).ch c_24 (by simp)).ch c_27 (by simp)).ch c_30 (by simp)).ch c_35 (by simp)).ch c_38 (by simp)).ch c_41 (by simp)).ch c_44 (by simp)).ch c_52 (by simp)).ch c_59 (by simp)), ?_⟩, ?_⟩
        ·
          refine ⟨kk + 1, by omega, by omega, by omega, ?_⟩
          have ho := o_58
          rw [hyi3] at ho
          rw [List.take_add_one, hpw, List.map_append]
          exact ho
        ·
          simp only []; omega
      ·
        refine al_t (M + 9) fun r115 s116 hr115 b_61 c_62 z_63 => ?_
        refine ⟨?_, ?_⟩
        ·
          have h_64 := b_29.ch c_62 (by simp)
          refine ld_t h_64 rfl ?_
          refine dInt_i ?_
          rfl
        ·
          refine ⟨?_, ?_⟩
          ·
            have h_65 := h_32.ch c_62 (by simp)
            refine ld_t h_65 rfl ?_
            refine dMap_i ?_
            rfl
          ·
            have h_66 := hvw.ch (((((((c_4.app c_10).app c_14).app c_21).app c_24).app c_27).app c_30).app c_62) (by simp <;> omega)
            refine look_oks keyI um52 z153 h_66 y.1 (by rw [hyi2]; exact hwv) ?_
            refine dT2 ?_
            refine dA3 ?_
            refine dBl_i ?_
            refine st_t b_61 rfl (by simp) fun s131 b_67 c_68o z_69 => ?_
            have c_68 := on_ch b_61 c_68o
            refine st_t b_67 rfl (by simp) fun s132 b_70 c_71o z_72 => ?_
            have c_71 := on_ch b_67 c_71o
            refine st_t b_70 rfl (by simp) fun s133 b_73 c_74o z_75 => ?_
            have c_74 := on_ch b_70 c_74o
            refine sB_t (by rfl) ?_
            have h_77 := b_29.ch c_62 (by simp)
            have h_78 := h_77.on c_68o (by omega)
            have h_79 := h_78.on c_71o (by omega)
            have h_80 := h_79.on c_74o (by omega)
            refine ld_t h_80 rfl ?_
            refine dInt_i ?_
            refine al_t (M + 9) fun r136 s137 hr136 b_81 c_82 z_83 => ?_
            have h_86 := ho.mv ((((((((c_21.app c_24).app c_27).app c_30).app c_62).app c_68).app c_71).app c_74).app c_82) (tagn (by simp))
            refine app_i1 u73 in3 h_86 b_81 (by omega) fun s_87 a_84 k_85 o_88 c_89 => ?_
            have z_90 := c_89.size
            refine dSl_i ?_
            intro _
            intros
            refine dSl_i ?_
            refine wr_t (by omega) ?_
            refine ⟨⟨s_87, rfl, _, _, _, _, rfl, ((((((((((((Ch.refl [M + 1, M + 9] s_7).ch c_14 (by simp)).ch c_21 (by simp)).ch c_24 (by simp)).ch c_27 (by simp)).ch c_30 (by simp)).ch c_62 (by simp)).ch c_68 (by simp)).ch c_71 (by simp)).ch c_74 (by simp)).ch c_82 (by simp)).ch c_89 (by simp)), ?_⟩, ?_⟩
            ·
              refine ⟨kk + 1, by omega, by omega, by omega, ?_⟩
              have ho := o_88
              rw [hyi3] at ho
              rw [List.take_add_one, hpw, List.map_append]
              exact ho
            ·
              simp only []; omega
    ·
      have h_91 := call1a.ch (c_10.app c_14) (by simp <;> omega)
      refine c_door Tryz.muLib h_91 (by rfl) (fun _ => by rfl) fun s_92 b_93 c_94 z_95 => ?_
      have c_94t := on_ch h_91 c_94
      have h_96 := ho.mv c_94t (tagn (by simp <;> omega))
      have h_97 := hvw.ch (((c_4.app c_10).app c_14).app c_94t) (by simp <;> omega)
      have h_98 := hvv.mv (((c_4.app c_10).app c_14).app c_94t) (tagn (by simp <;> omega))
      have h_99 := hvo.mv (((c_4.app c_10).app c_14).app c_94t) (tagn (by simp <;> omega))
      have h_100 := hvk.mv (((c_4.app c_10).app c_14).app c_94t) (tagn (by simp <;> omega))
      have h_101 := h_6.mv ((c_10.app c_14).app c_94t) (rngn (by simp <;> omega))
      have h_102 := hvC.mv (((c_4.app c_10).app c_14).app c_94t) (rngn (by simp <;> omega))
      have h_103 := hvP.mv (((c_4.app c_10).app c_14).app c_94t) (rngn (by simp <;> omega))
      have hwq0 := wlen_q ok
      have ho := h_96
      rw [List.take_of_length_le (by omega)] at ho
      obtain rfl : qn = V.wayb.length := by unfold VolM.wayb; rw [List.length_map]; omega
      refine ret_t' (s' := remark s_92 (M + 1) τ) rfl ⟨_, _, rfl, remark_ch (((((Ch.refl [U] s).ch c_4 (by simp)).ch c_10 (by simp)).fr c_14 hM (by simp)).ch c_94t (by simp)) hM (by omega), ho.remark, ?_⟩
      exact VolL.keep ⟨⟨_, _, _, _, _, _, b_93, h_97, h_98, hV.kn, h_99, h_100, h_101, h_102, h_103⟩, ok⟩ (by omega)
def wrStep (cl : List Int) (r : VolM × Bool) (b : Int) : VolM × Bool :=
  if ((r.1.P.of b).any fun i => decide (i ∈ cl)) = true ∧ r.1.way.length < 64 then ((r.1.write b).1, r.2 && ((r.1.write b).2 == 0)) else r
theorem compl_n {V : VolM} {k : Int} {b : Bool} : (V.compl k b).1.n = V.n := by
  unfold VolM.compl
  split
  · rfl
  · split
    · rfl
    · split <;> rfl
theorem write_P {V : VolM} {b : Int} : (V.write b).1.P = V.P := by
  unfold VolM.write
  split
  · rfl
  · split
    · rfl
    · split
      · rfl
      · split <;> rfl
theorem ready_len {V : VolM} (pok : POk V.P) : (V.ready.length : Int) ≤ V.P.last := by
  have h1 : V.ready.length ≤ V.P.blocks.length := List.length_filter_le _ _
  have := blocks_len pok; omega
theorem landed_way {V : VolM} {x : Int × WayM} {w : List (Int × WayM)} (h : V.way = x :: w) (y : WayM) : (V.landed 0 y).way = w := by
  show V.way.eraseIdx 0 = w; rw [h]; rfl
structure WrI (V : VolM) (r : VolM × Bool) : Prop where
  P : r.1.P = V.P
  w : ∀ p ∈ r.1.way, ∃ i ∈ p.2.ids, i ∈ V.P.all
theorem WrI.step {V : VolM} {cl : List Int} {r : VolM × Bool} {b : Int} (h : WrI V r) : WrI V (wrStep cl r b) := by
  unfold wrStep
  split
  · refine ⟨write_P.trans h.P, fun p hp => ?_⟩
    unfold VolM.write at hp
    split at hp
    · exact h.w p hp
    · split at hp
      · exact h.w p hp
      · split at hp
        · exact h.w p hp
        · rename_i hf
          split at hp
          · exact h.w p hp
          · rcases List.mem_append.1 (show p ∈ r.1.way ++ [_] from hp) with h1 | h1
            · exact h.w p h1
            · rw [List.mem_singleton] at h1; subst h1
              obtain ⟨i, l, e⟩ := List.exists_cons_of_ne_nil hf
              refine ⟨i, by show i ∈ r.1.P.free b; rw [e]; simp, ?_⟩
              have : i ∈ r.1.P.free b := by rw [e]; simp
              rw [← h.P]; exact of_sub (free_sub this)
  · exact h
end Go.Proofs.YtngploohhmfaiaaGreat.E
/- What a law's arguments are: rows of cells that read as values of a type; slices of them, in states with marks. -/
namespace Go.Proofs.YtngploohhmfaiaaGreat.E
open Go Go.WideShapes
set_option linter.unusedVariables false
/-- a row of cells that reads as a value of a type -/
def Rd {H : Type} (enc : TypeId × Value → H) (P : Program) (W : World) (t : TypeId) (row : List Value) : Prop := ∃ fuel y, DataW.trod enc P W 0 (fun _ => true) true fuel t row = some y
section
variable {H : Type} {enc : TypeId × Value → H} {P : Program} {W : World} {t e : TypeId} {row : List Value}
theorem rd_int {k : IntKind} (ht : P.underlying t = some (.int k)) (h : Rd enc P W t row) : ∃ x, row = [.int k x] ∧ (Lit.int k x).wf = true := by
  obtain ⟨f, y, h⟩ := h
  obtain ⟨n, h1, _, h2⟩ := DataW.trod_int ht h
  exact ⟨n, h1, h2⟩
theorem flat_get {k : Nat} : ∀ {rows : List (List Value)}, (∀ r ∈ rows, r.length = k) → ∀ {j : Nat} {v : Value}, rows.flatten[j]? = some v → ∃ i m r, j = i * k + m ∧ m < k ∧ rows[i]? = some r ∧ r[m]? = some v
  | [], _, j, v, h => by simp at h
  | r :: rows, hk, j, v, h => by
    rw [List.flatten_cons] at h
    have hr := hk r (by simp)
    by_cases hj : j < k
    · rw [List.getElem?_append_left (by omega)] at h
      exact ⟨0, j, r, by omega, hj, by simp, h⟩
    · rw [List.getElem?_append_right (by omega)] at h
      obtain ⟨i, m, r', h1, h2, h3, h4⟩ := flat_get (fun r' h' => hk r' (List.mem_cons_of_mem _ h')) h
      exact ⟨i + 1, m, r', by rw [Nat.add_mul, Nat.one_mul]; omega, h2, by simpa using h3, h4⟩
theorem sl_rows {a : Addr} {k : Nat} {rows : List (List Value)} (hk : ∀ r ∈ rows, r.length = k) (h : ∀ i r, rows[i]? = some r → ∀ m, m < k → W.cell? ((a.add (i * k)).add m) = r[m]?) : Sl ⟨W.heap, fun _ => 0⟩ (some a) rows.flatten 0 := by
  by_cases he : rows.flatten = []
  · exact .inl he
  right
  have h0 : ∃ v, W.cell? a = some v := by
    obtain ⟨v, hv⟩ : ∃ v, rows.flatten[0]? = some v := by
      cases hf : rows.flatten with
      | nil => exact absurd hf he
      | cons v l => exact ⟨v, by simp⟩
    obtain ⟨i, m, r, h1, h2, h3, h4⟩ := flat_get hk hv
    obtain rfl : m = 0 := by omega
    have hi : i * k = 0 := by omega
    have := h i r h3 0 h2
    rw [hi] at this
    refine ⟨v, ?_⟩
    rw [← h4, ← this]
    simp [Addr.add]
  obtain ⟨v0, hv0⟩ := h0
  obtain ⟨g, o, sp⟩ := a
  have hsp : sp = none := by
    cases sp with
    | none => rfl
    | some x =>
      rw [cell_eq] at hv0
      unfold cellH at hv0
      split at hv0 <;> simp at hv0
  subst hsp
  have hlt : g < W.heap.size := by
    rw [cell_eq] at hv0
    unfold cellH at hv0
    split at hv0
    · rename_i hg; exact (Array.getElem?_eq_some_iff.1 hg).1
    · cases hv0
  refine ⟨g, o, rfl, hlt, rfl, fun j v hv => ?_⟩
  obtain ⟨i, m, r, h1, h2, h3, h4⟩ := flat_get hk hv
  have := h i r h3 m h2
  rw [add_mk, add_mk, h4, cell_eq] at this
  rw [h1, ← Nat.add_assoc]; exact this
theorem rd_sl (ht : P.underlying t = some (.slice e)) (h : Rd enc P W t row) : ∃ (a : Option Addr) (n c : Nat) (rows : List (List Value)), row = [.slice a n c] ∧ n ≤ c ∧ c ≤ maxLen ∧ (a = none → n = 0) ∧ rows.length = n ∧ (∀ r ∈ rows, r.length = P.cellsOf e ∧ Rd enc P W e r) ∧ Sl ⟨W.heap, fun _ => 0⟩ a rows.flatten 0 := by
  obtain ⟨f, y, h⟩ := h
  rcases DataW.trod_slice ht h with ⟨h0, _⟩ | ⟨a, len, cap, elems, rest, n, rfl, rfl, rfl, hb, hl, hm, hlen, hel, _⟩
  · exact ⟨none, 0, 0, [], h0, by omega, by omega, fun _ => rfl, rfl, fun r hr => (List.not_mem_nil hr).elim, .inl rfl⟩
  · have hrow : ∀ i, i < len → ∃ r, W.cells? 0 (a.add (i * P.cellsOf e)) (P.cellsOf e) = some r ∧ Rd enc P W e r := fun i hi => by
      have h1 := hel i hi
      rw [List.getElem?_eq_getElem (by omega)] at h1
      obtain ⟨r, h2, h3⟩ := Option.bind_eq_some_iff.1 h1
      exact ⟨r, h2, n, _, h3⟩
    let rows := (List.range len).map fun i => (W.cells? 0 (a.add (i * P.cellsOf e)) (P.cellsOf e)).getD []
    have hget : ∀ i r, rows[i]? = some r → W.cells? 0 (a.add (i * P.cellsOf e)) (P.cellsOf e) = some r ∧ Rd enc P W e r := fun i r hr => by
      have hi : i < len := by
        have := (List.getElem?_eq_some_iff.1 hr).1
        simpa [rows] using this
      obtain ⟨r', h1, h2⟩ := hrow i hi
      simp [rows, hi, h1] at hr
      subst hr; exact ⟨h1, h2⟩
    have hmem : ∀ r ∈ rows, r.length = P.cellsOf e ∧ Rd enc P W e r := fun r hr => by
      obtain ⟨i, hi⟩ := List.getElem?_of_mem hr
      obtain ⟨h1, h2⟩ := hget i r hi
      exact ⟨(World.cells?_some h1).2.1, h2⟩
    exact ⟨some a, len, cap, rows, rfl, hl, hm, (fun h => by cases h), by simp [rows], hmem, sl_rows (fun r hr => (hmem r hr).1) fun i r hr m hm => (World.cells?_some (hget i r hr).1).2.2 m hm⟩
/-- a slice of whole numbers -/
theorem rd_ints (ht : P.underlying t = some (.slice e)) (he : P.underlying e = some (.int .i64)) (h : Rd enc P W t row) : ∃ (a : Option Addr) (n c : Nat) (ls : List Int), row = [.slice a n c] ∧ n ≤ c ∧ c ≤ maxLen ∧ (a = none → n = 0) ∧ ls.length = n ∧ Sl ⟨W.heap, fun _ => 0⟩ a (ivs ls) 0 ∧ ∀ x ∈ ls, (Lit.int .i64 x).wf = true := by
  obtain ⟨a, n, c, rows, h1, h2, h3, h4, h5, h6, h7⟩ := rd_sl ht h
  have hx : ∀ l : List (List Value), (∀ r ∈ l, r.length = P.cellsOf e ∧ Rd enc P W e r) → ∃ ls : List Int, ls.length = l.length ∧ l.flatten = ivs ls ∧ ∀ x ∈ ls, (Lit.int .i64 x).wf = true := by
    intro l
    induction l with
    | nil => intro _; exact ⟨[], rfl, rfl, fun x hx => (List.not_mem_nil hx).elim⟩
    | cons r l ih =>
      intro hr
      obtain ⟨ls, k1, k2, k3⟩ := ih fun r' h' => hr r' (List.mem_cons_of_mem _ h')
      obtain ⟨x, rfl, hw⟩ := rd_int he (hr r (by simp)).2
      refine ⟨x :: ls, by simp [k1], by simp [k2, ivs], fun y hy => ?_⟩
      rcases List.mem_cons.1 hy with rfl | hy
      · exact hw
      · exact k3 y hy
  obtain ⟨ls, k1, k2, k3⟩ := hx rows h6
  exact ⟨a, n, c, ls, h1, h2, h3, h4, by omega, by rw [← k2]; exact h7, k3⟩
theorem open_v {v : Value} {a : Option Addr} {n c : Nat} {r : Reach} {b0 : Nat} (ht : P.underlying t = some (.slice e)) (hval : Value.okWide P W r b0 t v) (h : v.cells.toList = [.slice a n c]) : v = .slice a n c := by
  obtain ⟨a', n', c', rfl⟩ := okWide_slice ht hval
  simp [Value.cells] at h
  obtain ⟨rfl, rfl, rfl⟩ := h; rfl
end
end Go.Proofs.YtngploohhmfaiaaGreat.E
/- From a contract in states with marks to the kit's walk of a law. -/
namespace Go.Proofs.YtngploohhmfaiaaGreat.E
open Go Go.RowKit
set_option linter.unusedVariables false
theorem walkB {P : Program} {f : FuncId} {args : Array Value} {W : World}
    (h : TRet P f args ⟨W.heap, fun _ => 0⟩ fun v s' => v = .bool true ∧ Ch [] ⟨W.heap, fun _ => 0⟩ s') :
    Calls P f args W fun e W' => e = .returned (.bool true) ∧ Below W.heap.size W W' :=
  (h W rfl).mono fun e w' ⟨⟨v, s', he, hs, hv, hc⟩, hl⟩ =>
    ⟨by rw [he, hv], ⟨hl.os, hl.tape, hl.output, by rw [← hs]; exact hc.size, fun k hk => by rw [← hs]; exact hc.get k hk (by simp)⟩⟩
theorem walkT {P : Program} {f : FuncId} {args : Array Value} {W : World} {T : List Nat} (hT : 0 ∉ T)
    (h : TRet P f args ⟨W.heap, fun _ => 0⟩ fun v s' => v = .bool true ∧ Ch T ⟨W.heap, fun _ => 0⟩ s') :
    Calls P f args W fun e W' => e = .returned (.bool true) ∧ Below W.heap.size W W' :=
  walkB (h.mono fun v s' ⟨h1, h2⟩ => ⟨h1, Chg.mono h2 fun j _ hB => absurd hB hT⟩)
end Go.Proofs.YtngploohhmfaiaaGreat.E
/- Contracts of functions. -/
namespace Go.Proofs.YtngploohhmfaiaaGreat.E
open Go Go.Proofs Go.RowKit Go.Maps Go.Shelf Go.Sort
set_option linter.unusedVariables false
set_option linter.unusedSimpArgs false
/-- patches over bytes, one behind another -/
def ovL (d : List UInt8) (xs : List PatM) : List UInt8 := xs.foldl (fun d x => overlay d x.off.toNat x.by_) d
def cov (j : Nat) (x : PatM) : Bool := decide (x.off.toNat ≤ j ∧ j < x.off.toNat + x.by_.length)
def fitX (x : PatM) : Prop := 0 ≤ x.off ∧ x.off + x.by_.length ≤ 128
theorem ovL_len {xs : List PatM} : ∀ {d : List UInt8}, d.length = 128 → (∀ x ∈ xs, fitX x) → (ovL d xs).length = 128 := by
  induction xs with
  | nil => intro d h _; exact h
  | cons x xs ih =>
    intro d h hf
    have := hf x (by simp)
    unfold fitX at this
    exact ih (by rw [overlay_len (by omega)]; exact h) fun y hy => hf y (List.mem_cons_of_mem _ hy)
theorem ovL_snoc (d : List UInt8) (xs : List PatM) (x : PatM) : ovL d (xs ++ [x]) = overlay (ovL d xs) x.off.toNat x.by_ := by unfold ovL; rw [List.foldl_append]; rfl
def lastC (j : Nat) (xs : List PatM) : Option PatM := xs.reverse.find? (cov j)
theorem lastC_snoc (j : Nat) (xs : List PatM) (x : PatM) : lastC j (xs ++ [x]) = if cov j x = true then some x else lastC j xs := by
  unfold lastC
  rw [List.reverse_append, List.reverse_singleton, List.singleton_append, List.find?_cons]
  cases cov j x <;> rfl
theorem snoc_indP {α : Type} {p : List α → Prop} (h0 : p []) (h1 : ∀ l x, p l → p (l ++ [x])) (l : List α) : p l := by
  rw [← l.reverse_reverse]
  induction l.reverse with
  | nil => exact h0
  | cons x t ih => rw [List.reverse_cons]; exact h1 _ x ih
theorem ovL_get {d : List UInt8} (hd : d.length = 128) (j : Nat) (xs : List PatM) : (∀ x ∈ xs, fitX x) → (ovL d xs)[j]? = match lastC j xs with
    | some x => x.by_[j - x.off.toNat]?
    | none => d[j]? := by
  refine snoc_indP (p := fun xs => (∀ x ∈ xs, fitX x) → (ovL d xs)[j]? = match lastC j xs with
    | some x => x.by_[j - x.off.toNat]?
    | none => d[j]?) (fun _ => rfl) (fun xs x ih hf => ?_) xs
  have hx := hf x (by simp)
  have hxs : ∀ y ∈ xs, fitX y := fun y hy => hf y (List.mem_append_left _ hy)
  have hl := ovL_len hd hxs
  unfold fitX at hx
  rw [ovL_snoc, overlay_get (by omega), lastC_snoc]
  unfold cov
  by_cases hc : x.off.toNat ≤ j ∧ j < x.off.toNat + x.by_.length
  · rw [if_pos hc, if_pos (decide_eq_true hc)]
  · rw [if_neg hc, if_neg (by simpa using hc)]; exact ih hxs
theorem lastC_mem {j : Nat} {xs : List PatM} {x : PatM} (h : lastC j xs = some x) : x ∈ xs ∧ cov j x = true := by
  have h1 := List.mem_of_find?_eq_some h
  have h2 := List.find?_some h
  exact ⟨by simpa using h1, h2⟩
theorem lastC_none {j : Nat} {xs : List PatM} : lastC j xs = none ↔ ∀ x ∈ xs, cov j x = false := by
  unfold lastC
  rw [List.find?_eq_none]
  constructor
  · intro h x hx; have := h x (by simpa using hx); simpa using this
  · intro h x hx; have := h x (by simpa using hx); simp [this]
/-- the last of a rising row that covers a place is the greatest -/
theorem lastC_max {j : Nat} {xs : List PatM} (hs : xs.Pairwise fun x y => x.id < y.id) {x : PatM} (h : lastC j xs = some x) : ∀ y ∈ xs, cov j y = true → y.id ≤ x.id := by
  revert hs h
  refine snoc_indP (p := fun xs => xs.Pairwise (fun x y => x.id < y.id) → lastC j xs = some x → ∀ y ∈ xs, cov j y = true → y.id ≤ x.id) (fun _ _ y hy => by cases hy) (fun xs z ih hs h y hy hc => ?_) xs
  rw [List.pairwise_append] at hs
  rw [lastC_snoc] at h
  by_cases hz : cov j z = true
  · rw [if_pos hz] at h
    cases h
    rcases List.mem_append.1 hy with hy | hy
    · exact Int.le_of_lt (hs.2.2 y hy x (by simp))
    · rw [List.mem_singleton] at hy; rw [hy]; exact Int.le_refl _
  · rw [if_neg hz] at h
    rcases List.mem_append.1 hy with hy | hy
    · exact ih hs.1 h y hy hc
    · rw [List.mem_singleton] at hy; subst hy; exact absurd hc hz
theorem lastC_ex {j : Nat} {xs : List PatM} {y : PatM} (hy : y ∈ xs) (hc : cov j y = true) : ∃ x, lastC j xs = some x := by
  cases h : lastC j xs with
  | some x => exact ⟨x, rfl⟩
  | none => have := lastC_none.1 h y hy; rw [hc] at this; cases this
/-- first some, then the others: it is all one, where of two that overlap the earlier is not left behind -/
theorem ovL_split {d : List UInt8} (hd : d.length = 128) {xs : List PatM} (hs : xs.Pairwise fun x y => x.id < y.id) (hf : ∀ x ∈ xs, fitX x) (q : PatM → Bool)
    (hq : ∀ x ∈ xs, ∀ y ∈ xs, x.id < y.id → (∃ j, cov j x = true ∧ cov j y = true) → q y = true → q x = true) :
    ovL (ovL d (xs.filter q)) (xs.filter fun x => !q x) = ovL d xs := by
  have f1 : ∀ x ∈ xs.filter q, fitX x := fun x hx => hf x (List.mem_filter.1 hx).1
  have f2 : ∀ x ∈ xs.filter (fun x => !q x), fitX x := fun x hx => hf x (List.mem_filter.1 hx).1
  apply List.ext_getElem?
  intro j
  rw [ovL_get (ovL_len hd f1) j _ f2, ovL_get hd j _ f1, ovL_get hd j _ hf]
  cases h : lastC j xs with
  | none =>
    have hn := lastC_none.1 h
    rw [lastC_none.2 fun x hx => hn x (List.mem_filter.1 hx).1, lastC_none.2 fun x hx => hn x (List.mem_filter.1 hx).1]
  | some x =>
    obtain ⟨hx, hc⟩ := lastC_mem h
    have hm := lastC_max hs h
    have uniq : ∀ y ∈ xs, y.id = x.id → y = x := fun y hy e => by
      obtain ⟨a, ha, rfl⟩ := List.getElem_of_mem hy
      obtain ⟨b, hb, rfl⟩ := List.getElem_of_mem hx
      have hp := List.pairwise_iff_getElem.1 hs
      rcases Nat.lt_trichotomy a b with h1 | h1 | h1
      · have := hp a b ha hb h1; omega
      · subst h1; rfl
      · have := hp b a hb ha h1; omega
    cases hqx : q x with
    | false =>
      have hx2 : x ∈ xs.filter fun x => !q x := List.mem_filter.2 ⟨hx, by rw [hqx]; rfl⟩
      obtain ⟨y, hy⟩ := lastC_ex hx2 hc
      rw [hy]
      have h1 := lastC_max (hs.sublist List.filter_sublist) hy x hx2 hc
      obtain ⟨h2, h3⟩ := lastC_mem hy
      have h4 := hm y (List.mem_filter.1 h2).1 h3
      rw [uniq y (List.mem_filter.1 h2).1 (by omega)]
    | true =>
      have hx1 : x ∈ xs.filter q := List.mem_filter.2 ⟨hx, hqx⟩
      have hn2 : lastC j (xs.filter fun x => !q x) = none := lastC_none.2 fun y hy => by
        obtain ⟨h1, h2⟩ := List.mem_filter.1 hy
        cases hcy : cov j y with
        | false => rfl
        | true =>
          exfalso
          have h4 := hm y h1 hcy
          by_cases e : y.id = x.id
          · have := uniq y h1 e; subst this; rw [hqx] at h2; cases h2
          · have := hq y h1 x hx (by omega) ⟨j, hcy, hc⟩ hqx
            rw [this] at h2; cases h2
      rw [hn2]
      simp only
      obtain ⟨y, hy⟩ := lastC_ex hx1 hc
      rw [hy]
      have h1 := lastC_max (hs.sublist List.filter_sublist) hy x hx1 hc
      obtain ⟨h2, h3⟩ := lastC_mem hy
      have h4 := hm y (List.mem_filter.1 h2).1 h3
      rw [uniq y (List.mem_filter.1 h2).1 (by omega)]
/-- of two patches that overlap the later one needs the earlier one -/
def POv (P : PatchM) : Prop := ∀ x ∈ P.l, ∀ y ∈ P.l, x.id < y.id → x.blk = y.blk → (∃ j, cov j x = true ∧ cov j y = true) → x.id ∈ y.needs
theorem POk.fitX {P : PatchM} (ok : POk P) {x : PatM} (hx : x ∈ P.l) : fitX x := by have := ok.fit x hx; exact ⟨this.2.1, this.2.2.2⟩
theorem over_ovL {P : PatchM} (ok : POk P) : ∀ {xs : List PatM} {d : List UInt8}, (∀ x ∈ xs, x ∈ P.l) → P.over d (xs.map (·.id)) = ovL d xs := by
  intro xs
  induction xs with
  | nil => intro d _; rfl
  | cons x xs ih =>
    intro d h
    show P.over (P.step d x.id) (xs.map (·.id)) = ovL (overlay d x.off.toNat x.by_) xs
    have : P.step d x.id = overlay d x.off.toNat x.by_ := by unfold PatchM.step; rw [find_by ok.nodup (h x (by simp))]
    rw [this]
    exact ih fun y hy => h y (List.mem_cons_of_mem _ hy)
theorem over_of {P : PatchM} (ok : POk P) (b : Int) (d : List UInt8) : P.over d (P.of b) = ovL d (P.l.filter fun x => x.blk == b) := over_ovL ok fun x hx => (List.mem_filter.1 hx).1
theorem fsteps_srt {P : PatchM} : ∀ (ids l : List Int), (l ++ ids).Pairwise (· < ·) → (ids.foldl P.fstep l).Pairwise (· < ·)
  | [], l, h => by simpa using h
  | i :: ids, l, h => by
    refine fsteps_srt ids (P.fstep l i) ?_
    unfold PatchM.fstep
    have h2 : (l ++ ids).Pairwise (· < ·) := h.sublist (List.Sublist.append_left (List.sublist_cons_self i ids) l)
    split
    · split
      · rw [List.append_assoc]; exact h
      · exact h2
    · exact h2
theorem of_srt {P : PatchM} (ok : POk P) (b : Int) : (P.of b).Pairwise (· < ·) := List.pairwise_map.2 (ok.srt.sublist List.filter_sublist)
theorem free_srt {P : PatchM} (ok : POk P) (b : Int) : (P.free b).Pairwise (· < ·) := fsteps_srt (P.of b) [] (by simpa using of_srt ok b)
theorem free_filter {P : PatchM} (ok : POk P) (b : Int) : P.free b = ((P.l.filter fun x => x.blk == b).filter fun x => decide (x.id ∈ P.free b)).map (·.id) := by
  refine srt_ext (free_srt ok b) (List.pairwise_map.2 ((ok.srt.sublist List.filter_sublist).sublist List.filter_sublist)) fun i => ?_
  constructor
  · intro h
    have h1 := free_sub h
    unfold PatchM.of at h1
    obtain ⟨x, hx, rfl⟩ := List.mem_map.1 h1
    exact List.mem_map.2 ⟨x, List.mem_filter.2 ⟨hx, by simpa using h⟩, rfl⟩
  · intro h
    obtain ⟨x, hx, rfl⟩ := List.mem_map.1 h
    simpa using (List.mem_filter.1 hx).2
theorem over_free {P : PatchM} (ok : POk P) (b : Int) (d : List UInt8) : P.over d (P.free b) = ovL d ((P.l.filter fun x => x.blk == b).filter fun x => decide (x.id ∈ P.free b)) := by
  conv => lhs; rw [free_filter ok b]
  exact over_ovL ok fun x hx => (List.mem_filter.1 (List.mem_filter.1 hx).1).1
/-- what may be written needs only what is done, or goes with it -/
theorem free_closed {P : PatchM} {b i : Int} {x : PatM} (hi : i ∈ P.free b) (hx : P.find i = some x) : ∀ n ∈ P.pend x.needs, n ∈ P.free b := by
  have key : ∀ (ids l : List Int), (∀ j ∈ l, ∀ y, P.find j = some y → ∀ n ∈ P.pend y.needs, n ∈ l) → ∀ j ∈ ids.foldl P.fstep l, ∀ y, P.find j = some y → ∀ n ∈ P.pend y.needs, n ∈ ids.foldl P.fstep l := fun ids => by
    induction ids with
    | nil => intro l h; exact h
    | cons k ids ih =>
      intro l h
      refine ih (P.fstep l k) fun j hj y hy n hn => ?_
      unfold PatchM.fstep at hj ⊢
      split at hj
      · rename_i z hz
        split at hj
        · rename_i hall
          rw [if_pos hall]
          rcases List.mem_append.1 hj with hj | hj
          · exact List.mem_append_left _ (h j hj y hy n hn)
          · rw [List.mem_singleton] at hj; subst hj
            rw [hz] at hy; cases hy
            have := List.all_eq_true.1 hall n hn
            exact List.mem_append_left _ (by simpa using this)
        · rename_i hall
          rw [if_neg hall]; exact h j hj y hy n hn
      · exact h j hj y hy n hn
  exact key (P.of b) [] (by simp) i hi x hx
theorem free_ovl {P : PatchM} (ok : POk P) (ov : POv P) {b : Int} {x y : PatM} (hx : x ∈ P.l) (hy : y ∈ P.l) (hb : x.blk = y.blk) (hlt : x.id < y.id) (hc : ∃ j, cov j x = true ∧ cov j y = true) (h : y.id ∈ P.free b) : x.id ∈ P.free b := by
  have h1 := ov x hx y hy hlt hb hc
  exact free_closed h (find_by ok.nodup hy) x.id (List.mem_filter.2 ⟨List.mem_map.2 ⟨x, hx, rfl⟩, by simpa using h1⟩)
theorem fin_of_ne {P : PatchM} {l : List Int} {b : Int} (h : ∀ i ∈ l, i ∈ P.of b) (ok : POk P) {c : Int} (hc : c ≠ b) : (P.fin l).l.filter (fun x => x.blk == c) = P.l.filter fun x => x.blk == c := by
  show (P.l.filter fun x => !decide (x.id ∈ l)).filter _ = _
  rw [List.filter_filter]
  apply List.filter_congr
  intro x hx
  by_cases hb : x.blk = c
  · have : x.id ∉ l := fun hm => by
      have h1 := h _ hm
      unfold PatchM.of at h1
      obtain ⟨y, hy, e⟩ := List.mem_map.1 h1
      have h2 := List.mem_filter.1 hy
      have g1 := find_by ok.nodup h2.1
      have g2 := find_by ok.nodup hx
      rw [e, g2] at g1
      cases Option.some.inj g1
      exact hc (by have := h2.2; simp at this; omega)
    simp [hb, this]
  · simp [show (x.blk == c) = false by simpa using hb]
/-- what is read does not hang on what was written -/
theorem now_fin {P : PatchM} (ok : POk P) (ov : POv P) (b : Int) {d : List UInt8} (hd : d.length = 128) : (P.fin (P.free b)).over (P.over d (P.free b)) ((P.fin (P.free b)).of b) = P.over d (P.of b) := by
  have ok2 := ok.fin (P.free b) (fun i hi => of_sub (free_sub hi))
  rw [over_of ok2, over_free ok, over_of ok]
  have e : (P.fin (P.free b)).l.filter (fun x => x.blk == b) = (P.l.filter fun x => x.blk == b).filter fun x => !decide (x.id ∈ P.free b) := by
    show (P.l.filter _).filter _ = _
    rw [List.filter_filter, List.filter_filter]
    apply List.filter_congr; intro x _; rw [Bool.and_comm]
  rw [e]
  refine ovL_split hd (ok.srt.sublist List.filter_sublist) (fun x hx => ok.fitX (List.mem_filter.1 hx).1) _ fun x hx y hy hlt hc hq => ?_
  obtain ⟨hx1, hx2⟩ := List.mem_filter.1 hx
  obtain ⟨hy1, hy2⟩ := List.mem_filter.1 hy
  have := free_ovl ok ov hx1 hy1 (by simp at hx2 hy2; omega) hlt hc (by simpa using hq)
  simpa using this
theorem now_fin_ne {P : PatchM} (ok : POk P) (b : Int) {c : Int} (hc : c ≠ b) (d : List UInt8) : (P.fin (P.free b)).over d ((P.fin (P.free b)).of c) = P.over d (P.of c) := by
  have ok2 := ok.fin (P.free b) (fun i hi => of_sub (free_sub hi))
  rw [over_of ok2, over_of ok, fin_of_ne (fun i hi => free_sub hi) ok hc]
theorem POv.fin {P : PatchM} (h : POv P) (l : List Int) : POv (P.fin l) := fun x hx y hy => h x (List.mem_filter.1 hx).1 y (List.mem_filter.1 hy).1
theorem POv.add {P : PatchM} (ok : POk P) (h : POv P) {b o : Int} {y : List UInt8} {needs : List Int} (hf : fitsP b o y.length) : POv { P with last := P.last + 1, l := P.l ++ [P.newP b o y needs] } := fun x hx z hz hlt hb hc => by
  unfold fitsP at hf
  rcases List.mem_append.1 (show x ∈ P.l ++ [_] from hx) with h1 | h1 <;> rcases List.mem_append.1 (show z ∈ P.l ++ [_] from hz) with h2 | h2
  · exact h x h1 z h2 hlt hb hc
  · rw [List.mem_singleton] at h2; subst h2
    refine List.mem_map.2 ⟨x, List.mem_filter.2 ⟨h1, ?_⟩, rfl⟩
    obtain ⟨j, c1, c2⟩ := hc
    have hfx := ok.fit x h1
    unfold cov at c1 c2
    simp only [decide_eq_true_eq] at c1 c2
    have c2 : o.toNat ≤ j ∧ j < o.toNat + y.length := c2
    have hb : x.blk = b := hb
    rw [Bool.or_eq_true]; right
    unfold ovx ovl
    exact decide_eq_true ⟨hb.symm, by omega, by omega⟩
  · rw [List.mem_singleton] at h1; subst h1
    have := ok.rng z h2
    have hlt : P.last + 1 < z.id := hlt
    omega
  · rw [List.mem_singleton] at h1 h2; subst h1 h2
    exact absurd hlt (Int.lt_irrefl _)
theorem newCache {s : TH} {c T d r : Nat} {b : Int} (h1 : Blk s c [.pointer (some ⟨d, 0, none⟩), .int .i64 b, .map (some r), .int .i64 0, .int .i64 0, .int .i64 0] 203 T) (h2 : MapK (Value.int .i64) s r [] (T + 1)) (hb : 1 ≤ b ∧ b ≤ 64) : Cache s c T d ⟨[], b, 0, 0, 0⟩ :=
  ⟨⟨r, [], fun _ => 0, fun _ => (none, 0), h1, h2, ⟨fun x h => (List.not_mem_nil h).elim⟩, ⟨fun x h => (List.not_mem_nil h).elim⟩, ⟨List.Perm.refl _, fun x h => (List.not_mem_nil h).elim, fun x h => (List.not_mem_nil h).elim, List.nodup_nil, fun x h => (List.not_mem_nil h).elim⟩, hb, by simp; omega⟩,
    ⟨List.Pairwise.nil, fun x h => (List.not_mem_nil h).elim, by simp, by simp, fun x h => (List.not_mem_nil h).elim⟩⟩
/-- a volume that was opened -/
def VolM.fresh (bs : List (List UInt8)) : VolM := ⟨diskOf bs, ⟨0, [], []⟩, [], ⟨false, false, 0, []⟩, 0⟩
theorem VOk.fresh {bs : List (List UInt8)} (h : ∀ y ∈ bs, y.length = 128) : VOk (VolM.fresh bs) :=
  ⟨rfl, fun p hp => (List.not_mem_nil hp).elim, List.Pairwise.nil, ⟨Int.le_refl _, Int.le_refl _⟩, ⟨Int.le_refl _, (by decide : (0 : Int) ≤ 1000000000000000000)⟩, fun _ => Int.le_refl _, h, (by decide : 0 ≤ 64), fun p hp => (List.not_mem_nil hp).elim⟩
theorem newPSet {s : TH} {p T r1 r2 : Nat} (h : Blk s p [.int .i64 0, .map (some r1), .map (some r2), .bool true] 192 T) (h1 : MapK (Value.int .i64) s r1 [] (T + 1)) (h2 : MapK (Value.int .i64) s r2 [] (T + 2)) : PSet s p T ⟨0, [], []⟩ :=
  ⟨⟨r1, r2, [], [], h, h1, h2, trivial, rfl, fun e he => (List.not_mem_nil he).elim⟩, ⟨List.Pairwise.nil, fun x hx => (List.not_mem_nil hx).elim, fun x hx => (List.not_mem_nil hx).elim, fun x hx => (List.not_mem_nil hx).elim, fun x hx => (List.not_mem_nil hx).elim, fun x hx => (List.not_mem_nil hx).elim, fun i h1 h2 => absurd (Int.le_trans h1 h2) (by show ¬ (1 : Int) ≤ 0; decide), fun x hx => (List.not_mem_nil hx).elim, (by decide : (0 : Int) ≤ 0 ∧ (0 : Int) ≤ 1000000)⟩⟩
/-- bollard/volume.Open -/
theorem c_vopen2 (U d : Nat) (bs : List (List UInt8)) (b : Int) (s : TH) (hU : 10 ≤ U) (hd : Disk s d (U + 10) (diskOf bs)) (hl : ∀ y ∈ bs, y.length = 128) (hb : 1 ≤ b ∧ b ≤ 64) : TRet Tryz.prog 31 #[.pointer (some ⟨d, 0, none⟩), .int .i64 b] s fun v s' => ∃ r, v = .tuple #[.pointer (some ⟨r, 0, none⟩), .int .i64 0] ∧ Ch [] s s' ∧ VolL s' r d U (VolM.fresh bs) 0 := by
  refine F31_calls _ _  ?_
  unfold F31
  refine tcall (c_cnew (U + 10) d (diskOf bs) (U + 20) b _ (by omega) hd hb) ?_
  rintro v_2 s_1 ⟨ccall1, rcall1, rfl, c_4, call1a, call1b⟩
  have z_5 := c_4.size
  refine dT2 ?_
  refine dPtr_i ?_
  refine dInt_i ?_
  refine sB_f (by rfl) ?_
  refine tcall (c_pnew (U + 30) _) ?_
  rintro v_7 s_6 ⟨pcall2, r1call2, r2call2, rfl, c_9, call2a, call2b, call2c⟩
  have z_10 := c_9.size
  refine dPtr_i ?_
  refine alm_t (Value.int .i64) (U + 1) fun r10 s11 hr10 b_11 c_12 z_13 => ?_
  refine al_t U fun r12 s13 hr12 b_14 c_15 z_16 => ?_
  refine ret_t ?_
  have h_17 := b_11.ch c_15 (by simp)
  have h_18 := hd.mv (((c_4.app c_9).app c_12).app c_15) (rngn (by simp))
  have h_19 := call1a.ch ((c_9.app c_12).app c_15) (by simp)
  have h_20 := call1b.ch ((c_9.app c_12).app c_15) (by simp)
  have h_21 := call2a.ch (c_12.app c_15) (by simp)
  have h_22 := call2b.ch (c_12.app c_15) (by simp)
  have h_23 := call2c.ch (c_12.app c_15) (by simp)
  exact ⟨_, rfl, (((((Ch.refl [] s).ch c_4 (by simp)).ch c_9 (by simp)).ch c_12 (by simp)).ch c_15 (by simp)), ⟨⟨_, _, _, none, [], [], b_14, h_17, trivial, (fun h => by cases h), OMap.nil _ _, trivial, h_18, ⟨_, newCache h_19 h_20 hb, ⟨fun x hx => (List.not_mem_nil hx).elim, fun x hx => (List.not_mem_nil hx).elim⟩, Int.le_refl _, Int.le_refl _, Int.le_refl _⟩, newPSet h_21 h_22 h_23⟩, VOk.fresh hl⟩⟩
structure DoV where
  op : Int
  b : Int
  off : Int
  n : Int
  ba : Option Addr
  bn : Nat
  bc : Nat
  na : Option Addr
  nn : Nat
  nc : Nat
  by_ : List UInt8
  ns : List Int
structure DoIn (s : TH) (τ : Nat) (x : DoV) : Prop where
  bs : Sl s x.ba (bvs x.by_) τ
  bl : x.by_.length = x.bn
  bo : x.ba = none → x.bn = 0
  bm : x.bn ≤ x.bc ∧ x.bn ≤ 140737488351232
  ns : Sl s x.na (ivs x.ns) τ
  nl : x.ns.length = x.nn
  no : x.na = none → x.nn = 0
  nm : x.nn ≤ x.nc ∧ x.nn ≤ 17592186043904
theorem DoIn.mv {s s' : TH} {τ : Nat} {x : DoV} {B : Nat → Prop} (h : DoIn s τ x) (c : Chg B s s') (hn : ∀ j, j < s.h.size → s.g j = τ → ¬ B j) : DoIn s' τ x := ⟨h.bs.mv c hn, h.bl, h.bo, h.bm, h.ns.mv c hn, h.nl, h.no, h.nm⟩
structure Dos (s : TH) (τ : Nat) (l : List DoV) : Prop where
  at_ : ∀ x ∈ l, DoIn s τ x
theorem Dos.mv {s s' : TH} {τ : Nat} {l : List DoV} {B : Nat → Prop} (h : Dos s τ l) (c : Chg B s s') (hn : ∀ j, j < s.h.size → s.g j = τ → ¬ B j) : Dos s' τ l := ⟨fun x hx => (h.at_ x hx).mv c hn⟩
/-- behind a change that was taken -/
structure Chd (V V' : VolM) : Prop where
  ex : ∃ b o y needs, V.D.has b ∧ fitsP b o y.length ∧ (∀ n ∈ needs, 1 ≤ n ∧ n ≤ V.P.last) ∧ V' = { V with n := V.ticks b, P := (V.P.add b o y needs).1, old := V.keep b } ∧ (V.P.add b o y needs).1 = { V.P with last := V.P.last + 1, l := V.P.l ++ [V.P.newP b o y needs] }
theorem add_ok {P : PatchM} {b o : Int} {y : List UInt8} {needs : List Int} (h1 : fitsP b o y.length) (h2 : ∀ n ∈ needs, 1 ≤ n ∧ n ≤ P.last) : P.add b o y needs = ({ P with last := P.last + 1, l := P.l ++ [P.newP b o y needs] }, P.last + 1, 0) := by
  unfold PatchM.add
  rw [if_neg (by simpa using h1), if_neg (by simpa [PatchM.knows] using h2)]
theorem change_ok {V : VolM} {b o : Int} {y : List UInt8} {needs : List Int} (hb : V.D.has b) (h1 : fitsP b o y.length) (h2 : ∀ n ∈ needs, 1 ≤ n ∧ n ≤ V.P.last) :
    (V.change b o y needs).2.1 = V.P.last + 1 ∧ (V.change b o y needs).2.2 = 0 ∧ (V.change b o y needs).1.P.last = V.P.last + 1 ∧ Chd V (V.change b o y needs).1 := by
  have e := add_ok (P := V.P) h1 h2
  unfold VolM.change
  rw [if_neg (by simpa using hb), if_neg (by rw [e]; simp)]
  refine ⟨by rw [e], rfl, by show (V.P.add b o y needs).1.last = _; rw [e], ⟨b, o, y, needs, hb, h1, h2, rfl, by rw [e]⟩⟩
theorem tmod_rng {a b n : Int} (ha : 0 ≤ a) (hb : 0 < b) (h : n = Int.tmod a b) : 0 ≤ n ∧ n < b := by
  subst h
  rw [Int.tmod_eq_emod_of_nonneg ha]
  exact ⟨Int.emod_nonneg a (by omega), Int.emod_lt_of_pos a hb⟩
structure BegI (V : VolM) (bs : List (List UInt8)) : Prop where
  D : V.D = diskOf bs
  way : V.way = []
  old : V.old = ⟨false, false, 0, []⟩
  n : V.n = 0
  don : V.P.done = []
  ov : POv V.P
  has : ∀ x ∈ V.P.l, V.D.has x.blk
theorem BegI.fresh (bs : List (List UInt8)) : BegI (VolM.fresh bs) bs := ⟨rfl, rfl, rfl, rfl, rfl, fun x hx => (List.not_mem_nil hx).elim, fun x hx => (List.not_mem_nil hx).elim⟩
theorem VolL.pok {s : TH} {v d U : Nat} {V : VolM} {lk : Int} (h : VolL s v d U V lk) : POk V.P := by obtain ⟨⟨c, p, rw_, rk, mw, mk, h⟩, ok⟩ := h; exact h.ps.ok
def VolM.ticksN (V : VolM) (k : Int) : VolM := { V with n := V.n + k }
theorem pend_free {P : PatchM} (ok : POk P) (b : Int) : P.pend (P.free b) = P.free b :=
  srt_ext (ok.asrt.sublist List.filter_sublist) (free_srt ok b) fun i => by
    unfold PatchM.pend
    rw [List.mem_filter]
    constructor
    · intro h; simpa using h.2
    · intro h; exact ⟨of_sub (free_sub h), by simpa using h⟩
theorem doneP_free {P : PatchM} (ok : POk P) (b : Int) : P.doneP (P.free b) = (P.fin (P.free b), 0) := by
  unfold PatchM.doneP
  rw [pend_free ok b, if_neg, if_pos]
  · refine List.all_eq_true.2 fun i hi => ?_
    unfold PatchM.closed
    cases hx : P.find i with
    | none => rfl
    | some x => exact List.all_eq_true.2 fun n hn => by simpa using free_closed hi hx n hn
  · intro h
    obtain ⟨i, hi, h2⟩ := List.any_eq_true.1 h
    have h3 := of_sub (free_sub hi)
    unfold PatchM.all at h3
    obtain ⟨x, hx, rfl⟩ := List.mem_map.1 h3
    have := ok.rng x hx
    unfold PatchM.knows at h2
    simp at h2
    omega
theorem ready_has {V : VolM} (has : ∀ x ∈ V.P.l, V.D.has x.blk) {b : Int} (hb : b ∈ V.ready) : V.D.has b := by
  obtain ⟨x, hx, rfl⟩ := mem_blocks.1 (List.mem_filter.1 hb).1
  exact has x hx
theorem ready_free {V : VolM} {b : Int} (hb : b ∈ V.ready) : V.P.free b ≠ [] ∧ V.going b = false := by
  have h := (List.mem_filter.1 hb).2
  cases hg : V.going b with
  | true => rw [hg] at h; simp at h
  | false =>
    refine ⟨fun e => ?_, rfl⟩
    rw [e, hg] at h; cases h
theorem write_ready {V : VolM} (has : ∀ x ∈ V.P.l, V.D.has x.blk) {b : Int} (hb : b ∈ V.ready) (hw : V.way.length < 64) : V.write b = (V.sent b, 0) := by
  obtain ⟨h1, h2⟩ := ready_free hb
  unfold VolM.write
  rw [if_neg (by simpa using ready_has has hb), if_neg (by rw [h2]; simp), if_neg h1, if_neg (by omega)]
theorem compl_t {V : VolM} (pok : POk V.P) (hw : V.way = []) (b : Int) : (V.sent b).compl 0 true = ((V.sent b).landed 0 ⟨b, V.plan b, V.P.free b⟩, 0) := by
  have e : (V.sent b).way = [(V.D.last + 1, ⟨b, V.plan b, V.P.free b⟩)] := by show V.way ++ _ = _; rw [hw]; rfl
  unfold VolM.compl
  rw [if_neg (by rw [e]; simp), e]
  show (_, ((V.sent b).P.doneP (V.P.free b)).2) = _
  rw [show (V.sent b).P = V.P from rfl, doneP_free pok]
  rfl
theorem now_landed {V : VolM} (ok : VOk V) (pok : POk V.P) (ov : POv V.P) (k : Nat) {b c : Int} (hb : V.D.has b) (hc : V.D.has c) : ((V.sent b).landed k ⟨b, V.plan b, V.P.free b⟩).now c = V.now c := by
  have e1 : ((V.sent b).landed k ⟨b, V.plan b, V.P.free b⟩).P = V.P.fin (V.P.free b) := by show (V.P.doneP (V.P.free b)).1 = _; rw [doneP_free pok]
  have e2 : ((V.sent b).landed k ⟨b, V.plan b, V.P.free b⟩).blk c = (V.D.blocks.set b.toNat (V.plan b)).getD c.toNat [] := rfl
  unfold VolM.now
  rw [e1, e2]
  unfold DiskM.has at hb hc
  by_cases h : c = b
  · subst h
    rw [List.getD_eq_getElem?_getD, List.getElem?_set_self (by omega)]
    exact now_fin pok ov c (blk_len ok hb)
  · rw [List.getD_eq_getElem?_getD, List.getElem?_set_ne (by omega), ← List.getD_eq_getElem?_getD]
    exact now_fin_ne pok b h _
theorem landed_has {V : VolM} {k : Nat} {b c : Int} {w : WayM} : ((V.sent b).landed k w).D.has c ↔ V.D.has c := by
  show (0 ≤ c ∧ c < ((V.D.blocks.set w.blk.toNat w.by_).length : Int)) ↔ (0 ≤ c ∧ c < (V.D.blocks.length : Int))
  rw [List.length_set]
theorem landed_l {V : VolM} (pok : POk V.P) {k : Nat} {b : Int} : ((V.sent b).landed k ⟨b, V.plan b, V.P.free b⟩).P = V.P.fin (V.P.free b) := by show (V.P.doneP (V.P.free b)).1 = _; rw [doneP_free pok]
theorem fin_less {P : PatchM} {l : List Int} {i : Int} (h : i ∈ l) (ha : i ∈ P.all) : (P.fin l).l.length < P.l.length := by
  obtain ⟨x, hx, rfl⟩ := List.mem_map.1 ha
  show (P.l.filter _).length < P.l.length
  rcases Nat.lt_or_eq_of_le (List.length_filter_le (fun x => !decide (x.id ∈ l)) P.l) with h2 | h2
  · exact h2
  · have h3 := (List.length_filter_eq_length_iff.1 h2) x hx
    simp [h] at h3
/-- one write behind another: what is read stays -/
structure NowI (V0 V : VolM) : Prop where
  way : V.way = []
  bl : V.D.blocks.length = V0.D.blocks.length
  ov : POv V.P
  has : ∀ x ∈ V.P.l, V.D.has x.blk
  now : ∀ b, V0.D.has b → V.now b = V0.now b
theorem has_len {V V' : VolM} (h : V.D.blocks.length = V'.D.blocks.length) {b : Int} : V.D.has b ↔ V'.D.has b := by unfold DiskM.has; rw [h]
theorem NowI.ticks {V0 V : VolM} (h : NowI V0 V) (k : Int) : NowI V0 (V.ticksN k) := ⟨h.way, h.bl, h.ov, h.has, h.now⟩
theorem NowI.lost {V0 V : VolM} (h : NowI V0 V) (b k : Int) : NowI V0 (((V.sent b).ticksN k).lost 0) := ⟨by show (V.way ++ _).eraseIdx 0 = []; rw [h.way]; rfl, h.bl, h.ov, h.has, h.now⟩
theorem NowI.landed {V0 V : VolM} (h : NowI V0 V) (ok : VOk V) (pok : POk V.P) {b : Int} (hb : b ∈ V.ready) (k : Int) : NowI V0 (((V.sent b).ticksN k).landed 0 ⟨b, V.plan b, V.P.free b⟩) ∧ (((V.sent b).ticksN k).landed 0 ⟨b, V.plan b, V.P.free b⟩).P.l.length < V.P.l.length := by
  have e : ((V.sent b).landed 0 ⟨b, V.plan b, V.P.free b⟩).P = V.P.fin (V.P.free b) := landed_l pok
  refine ⟨⟨by show (V.way ++ _).eraseIdx 0 = []; rw [h.way]; rfl, ?_, ?_, ?_, ?_⟩, ?_⟩
  · show (V.D.blocks.set _ _).length = _; rw [List.length_set]; exact h.bl
  · show POv ((V.sent b).landed 0 ⟨b, V.plan b, V.P.free b⟩).P; rw [e]; exact h.ov.fin _
  · intro x hx
    have hx : x ∈ ((V.sent b).landed 0 ⟨b, V.plan b, V.P.free b⟩).P.l := hx
    rw [e] at hx
    exact landed_has.2 (h.has x (List.mem_filter.1 hx).1)
  · intro c hc
    exact (now_landed ok pok h.ov 0 (ready_has h.has hb) ((has_len h.bl).2 hc)).trans (h.now c hc)
  · show ((V.sent b).landed 0 ⟨b, V.plan b, V.P.free b⟩).P.l.length < _
    rw [e]
    obtain ⟨i, l, e2⟩ := List.exists_cons_of_ne_nil (ready_free hb).1
    have hi : i ∈ V.P.free b := by rw [e2]; simp
    exact fin_less hi (of_sub (free_sub hi))
theorem compl_tt {V : VolM} (pok : POk V.P) (hw : V.way = []) (b k : Int) : ((V.sent b).ticksN k).compl 0 true = (((V.sent b).ticksN k).landed 0 ⟨b, V.plan b, V.P.free b⟩, 0) := by
  have e : ((V.sent b).ticksN k).way = [(V.D.last + 1, ⟨b, V.plan b, V.P.free b⟩)] := by show V.way ++ _ = _; rw [hw]; rfl
  unfold VolM.compl
  rw [if_neg (by rw [e]; simp), e]
  show (_, ((V.sent b).P.doneP (V.P.free b)).2) = _
  rw [show (V.sent b).P = V.P from rfl, doneP_free pok]
  rfl
theorem compl_ff {V : VolM} (hw : V.way = []) (b k : Int) : ((V.sent b).ticksN k).compl 0 false = (((V.sent b).ticksN k).lost 0, 4) := by
  have e : ((V.sent b).ticksN k).way = [(V.D.last + 1, ⟨b, V.plan b, V.P.free b⟩)] := by show V.way ++ _ = _; rw [hw]; rfl
  unfold VolM.compl
  rw [if_neg (by rw [e]; simp), e]
  rfl
theorem BegI.now {V : VolM} {bs : List (List UInt8)} (h : BegI V bs) : NowI V V := ⟨h.way, rfl, h.ov, h.has, fun _ _ => rfl⟩
theorem imgs_n {n : Nat} : (imgs n).length = n := by simp [imgs]
theorem BegI.len {V : VolM} {x : Int} (h : BegI V (imgs (nblk8 x))) : 1 ≤ V.D.blocks.length ∧ V.D.blocks.length ≤ 8 := by
  rw [h.D]; show 1 ≤ (imgs (nblk8 x)).length ∧ (imgs (nblk8 x)).length ≤ 8; rw [imgs_n]; exact nblk8_le x
theorem NowI.compl {V0 V : VolM} (h : NowI V0 V) (ok : VOk V) (pok : POk V.P) {b : Int} (hb : b ∈ V.ready) (k : Int) (f : Bool) :
    (((V.sent b).ticksN k).compl 0 (!f)).2 = (if f = true then 4 else 0) ∧ NowI V0 (((V.sent b).ticksN k).compl 0 (!f)).1 ∧ (((V.sent b).ticksN k).compl 0 (!f)).1.P.l.length ≤ V.P.l.length ∧ (f = false → (((V.sent b).ticksN k).compl 0 (!f)).1.P.l.length < V.P.l.length) ∧ (((V.sent b).ticksN k).compl 0 (!f)).1.n = V.n + 1 + k := by
  cases f with
  | true =>
    rw [show (!true) = false from rfl, compl_ff h.way]
    exact ⟨rfl, h.lost b k, Nat.le_refl _, (fun e => by cases e), rfl⟩
  | false =>
    rw [show (!false) = true from rfl, compl_tt pok h.way]
    have := h.landed ok pok hb k
    exact ⟨rfl, this.1, Nat.le_of_lt this.2, fun _ => this.2, rfl⟩
end Go.Proofs.YtngploohhmfaiaaGreat.E
/- Contracts of functions. -/
namespace Go.Proofs.YtngploohhmfaiaaGreat.E
open Go Go.Proofs Go.RowKit Go.Maps Go.Shelf Go.Sort
set_option linter.unusedVariables false
set_option linter.unusedSimpArgs false
theorem nodup_len {l : List Int} {n : Nat} (h : l.Nodup) (hr : ∀ x ∈ l, 0 ≤ x ∧ x < n) : l.length ≤ n := by
  have hp := List.mergeSort_perm l (fun x y => decide (x ≤ y))
  have h1 : (l.mergeSort fun x y => decide (x ≤ y)).Pairwise (· ≤ ·) := by
    have := List.pairwise_mergeSort (le := fun x y : Int => decide (x ≤ y)) (fun a b c h1 h2 => by simp at *; omega) (fun a b => by simp; omega) l
    exact this.imp fun h => by simpa using h
  have h2 : (l.mergeSort fun x y => decide (x ≤ y)).Nodup := hp.nodup_iff.2 h
  have h3 : (l.mergeSort fun x y => decide (x ≤ y)).Pairwise (· < ·) := (h1.and h2).imp fun ⟨a, b⟩ => by omega
  have h4 := rise_len _ 0 ((n : Int) - 1) h3 (fun x hx => by have := hr x (hp.mem_iff.1 hx); omega) (by omega)
  rw [hp.length_eq] at h4
  omega
structure FrI (W : Int → List UInt8) (N : Nat) (V : VolM) : Prop where
  way : V.way = []
  on : V.old.on = true
  br : V.old.broken = false
  room : V.old.room = N
  kn : (V.old.kept.map (·.1)).Nodup
  kh : ∀ e ∈ V.old.kept, V.D.has e.1
  ov : POv V.P
  has : ∀ x ∈ V.P.l, V.D.has x.blk
  bl : V.D.blocks.length = N
  old : ∀ b, V.D.has b → V.oldb b = W b
theorem FrI.ticks {W : Int → List UInt8} {N : Nat} {V : VolM} (h : FrI W N V) (k : Int) : FrI W N (V.ticksN k) := ⟨h.way, h.on, h.br, h.room, h.kn, h.kh, h.ov, h.has, h.bl, h.old⟩
theorem FrI.start {V : VolM} {bs : List (List UInt8)} (h : BegI V bs) (k : Int) (hl : V.D.blocks.length ≤ 8) : ((V.ticksN k).freeze (V.D.blocks.length : Int)).2 = 0 ∧ FrI V.now V.D.blocks.length ((V.ticksN k).freeze (V.D.blocks.length : Int)).1 ∧ ((V.ticksN k).freeze (V.D.blocks.length : Int)).1.n = k ∧ ((V.ticksN k).freeze (V.D.blocks.length : Int)).1.P = V.P := by
  have e : (V.ticksN k).freeze (V.D.blocks.length : Int) = ({ V.ticksN k with old := ⟨true, false, V.D.blocks.length, []⟩ }, 0) := by
    unfold VolM.freeze
    rw [if_neg (by show ¬ V.old.on = true; rw [h.old]; simp), if_neg (by omega)]
  rw [e]
  exact ⟨rfl, ⟨h.way, rfl, rfl, rfl, List.nodup_nil, fun e he => (List.not_mem_nil he).elim, h.ov, h.has, rfl, fun b hb => rfl⟩, by show V.n + k = k; rw [h.n]; omega, rfl⟩
theorem FrI.landed {W : Int → List UInt8} {N : Nat} {V : VolM} (h : FrI W N V) (ok : VOk V) (pok : POk V.P) {b : Int} (hb : b ∈ V.ready) : V.write b = (V.sent b, 0) ∧ ((V.sent b).compl 0 true).2 = 0 ∧ FrI W N ((V.sent b).compl 0 true).1 ∧ ((V.sent b).compl 0 true).1.P.last = V.P.last ∧ ((V.sent b).compl 0 true).1.n = V.n + 1 := by
  have e : ((V.sent b).landed 0 ⟨b, V.plan b, V.P.free b⟩).P = V.P.fin (V.P.free b) := landed_l pok
  rw [compl_t pok h.way]
  refine ⟨write_ready h.has hb (by rw [h.way]; decide), rfl, ⟨by show (V.way ++ _).eraseIdx 0 = []; rw [h.way]; rfl, h.on, h.br, h.room, h.kn, fun x hx => landed_has.2 (h.kh x hx), by show POv ((V.sent b).landed 0 _).P; rw [e]; exact h.ov.fin _, ?_, by show (V.D.blocks.set _ _).length = _; rw [List.length_set]; exact h.bl, fun c hc => ?_⟩, by show ((V.sent b).landed 0 _).P.last = _; rw [e]; rfl, rfl⟩
  · intro x hx
    have hx : x ∈ ((V.sent b).landed 0 ⟨b, V.plan b, V.P.free b⟩).P.l := hx
    rw [e] at hx
    exact landed_has.2 (h.has x (List.mem_filter.1 hx).1)
  · have hc2 := landed_has.1 hc
    rw [← h.old c hc2]
    show (kfind V.old.kept c).getD (((V.sent b).landed 0 ⟨b, V.plan b, V.P.free b⟩).now c) = _
    rw [now_landed ok pok h.ov 0 (ready_has h.has hb) hc2]; rfl
end Go.Proofs.YtngploohhmfaiaaGreat.E
/- Contracts of functions. -/
namespace Go.Proofs.YtngploohhmfaiaaGreat.E
open Go Go.Proofs Go.RowKit Go.Maps Go.Shelf Go.Sort
set_option linter.unusedVariables false
set_option linter.unusedSimpArgs false
/-- patches of a block that need nothing but what is done or goes with them -/
structure CS (P : PatchM) (b : Int) (S : List Int) : Prop where
  srt : S.Pairwise (· < ·)
  sub : ∀ i ∈ S, i ∈ P.of b
  cl : ∀ i ∈ S, ∀ x, P.find i = some x → ∀ n ∈ P.pend x.needs, n ∈ S
theorem CS.free {P : PatchM} (ok : POk P) (b : Int) : CS P b (P.free b) := ⟨free_srt ok b, fun i hi => free_sub hi, fun i hi x hx => free_closed hi hx⟩
theorem of_mem {P : PatchM} {b i : Int} : i ∈ P.of b ↔ ∃ x ∈ P.l, x.blk = b ∧ x.id = i := by
  unfold PatchM.of
  rw [List.mem_map]
  constructor
  · rintro ⟨x, hx, e⟩; have := List.mem_filter.1 hx; exact ⟨x, this.1, by simpa using this.2, e⟩
  · rintro ⟨x, hx, h1, h2⟩; exact ⟨x, List.mem_filter.2 ⟨hx, by simpa using h1⟩, h2⟩
theorem CS.filter {P : PatchM} {b : Int} {S : List Int} (ok : POk P) (h : CS P b S) : S = ((P.l.filter fun x => x.blk == b).filter fun x => decide (x.id ∈ S)).map (·.id) := by
  refine srt_ext h.srt (List.pairwise_map.2 ((ok.srt.sublist List.filter_sublist).sublist List.filter_sublist)) fun i => ?_
  constructor
  · intro hi
    obtain ⟨x, hx, h2, rfl⟩ := of_mem.1 (h.sub i hi)
    exact List.mem_map.2 ⟨x, List.mem_filter.2 ⟨List.mem_filter.2 ⟨hx, by simpa using h2⟩, by simpa using hi⟩, rfl⟩
  · intro hi
    obtain ⟨x, hx, rfl⟩ := List.mem_map.1 hi
    simpa using (List.mem_filter.1 hx).2
theorem CS.over {P : PatchM} {b : Int} {S : List Int} (ok : POk P) (h : CS P b S) (d : List UInt8) : P.over d S = ovL d ((P.l.filter fun x => x.blk == b).filter fun x => decide (x.id ∈ S)) := by
  conv => lhs; rw [h.filter ok]
  exact over_ovL ok fun x hx => (List.mem_filter.1 (List.mem_filter.1 hx).1).1
theorem CS.now {P : PatchM} {b : Int} {S : List Int} (ok : POk P) (ov : POv P) (h : CS P b S) {d : List UInt8} (hd : d.length = 128) : (P.fin S).over (P.over d S) ((P.fin S).of b) = P.over d (P.of b) := by
  have ok2 := ok.fin S (fun i hi => of_sub (h.sub i hi))
  rw [over_of ok2, h.over ok, over_of ok]
  have e : (P.fin S).l.filter (fun x => x.blk == b) = (P.l.filter fun x => x.blk == b).filter fun x => !decide (x.id ∈ S) := by
    show (P.l.filter _).filter _ = _
    rw [List.filter_filter, List.filter_filter]
    apply List.filter_congr; intro x _; rw [Bool.and_comm]
  rw [e]
  refine ovL_split hd (ok.srt.sublist List.filter_sublist) (fun x hx => ok.fitX (List.mem_filter.1 hx).1) _ fun x hx y hy hlt hc hq => ?_
  obtain ⟨hx1, hx2⟩ := List.mem_filter.1 hx
  obtain ⟨hy1, hy2⟩ := List.mem_filter.1 hy
  have h1 := ov x hx1 y hy1 hlt (by simp at hx2 hy2; omega) hc
  have := h.cl y.id (by simpa using hq) y (find_by ok.nodup hy1) x.id (List.mem_filter.2 ⟨List.mem_map.2 ⟨x, hx1, rfl⟩, by simpa using h1⟩)
  simpa using this
theorem CS.done {P : PatchM} {b : Int} {S : List Int} (ok : POk P) (h : CS P b S) : P.doneP S = (P.fin S, 0) := by
  have hp : P.pend S = S := srt_ext (ok.asrt.sublist List.filter_sublist) h.srt fun i => by
    unfold PatchM.pend
    rw [List.mem_filter]
    exact ⟨fun h => by simpa using h.2, fun hi => ⟨of_sub (h.sub i hi), by simpa using hi⟩⟩
  unfold PatchM.doneP
  rw [hp, if_neg, if_pos]
  · refine List.all_eq_true.2 fun i hi => ?_
    unfold PatchM.closed
    cases hx : P.find i with
    | none => rfl
    | some x => exact List.all_eq_true.2 fun n hn => by simpa using h.cl i hi x hx n hn
  · intro hh
    obtain ⟨i, hi, h2⟩ := List.any_eq_true.1 hh
    obtain ⟨x, hx, _, rfl⟩ := of_mem.1 (h.sub i hi)
    have := ok.rng x hx
    unfold PatchM.knows at h2
    simp at h2
    omega
theorem fin_find {P : PatchM} {S : List Int} {i : Int} (h : i ∉ S) : (P.fin S).find i = P.find i := by
  unfold PatchM.find
  show (P.l.filter _).find? _ = _
  rw [List.find?_filter]
  congr 1
  funext x
  by_cases hx : x.id = i
  · subst hx; simp [h]
  · simp [hx]
theorem over_congr {P Q : PatchM} : ∀ (S : List Int) (d : List UInt8), (∀ i ∈ S, Q.find i = P.find i) → Q.over d S = P.over d S
  | [], d, _ => rfl
  | i :: S, d, h => by
    have e : Q.step d i = P.step d i := by unfold PatchM.step; rw [h i (by simp)]
    show Q.over (Q.step d i) S = P.over (P.step d i) S
    rw [e]
    exact over_congr S _ fun j hj => h j (List.mem_cons_of_mem _ hj)
/-- what is done of one block is nothing to another -/
theorem CS.other {P : PatchM} {b c : Int} {S S' : List Int} (ok : POk P) (h : CS P b S) (h' : CS P c S') (hc : c ≠ b) : CS (P.fin S) c S' ∧ ∀ d, (P.fin S).over d S' = P.over d S' := by
  have hn : ∀ i ∈ S', i ∉ S := fun i hi hi2 => by
    obtain ⟨x, hx, h1, h2⟩ := of_mem.1 (h'.sub i hi)
    obtain ⟨y, hy, h3, h4⟩ := of_mem.1 (h.sub i hi2)
    have g1 := find_by ok.nodup hx
    have g2 := find_by ok.nodup hy
    rw [h2] at g1; rw [h4, g1] at g2
    cases Option.some.inj g2
    exact hc (h1.symm.trans h3)
  refine ⟨⟨h'.srt, fun i hi => ?_, fun i hi x hx n hn2 => ?_⟩, fun d => over_congr S' d fun i hi => fin_find (hn i hi)⟩
  · obtain ⟨x, hx, h1, h2⟩ := of_mem.1 (h'.sub i hi)
    exact of_mem.2 ⟨x, List.mem_filter.2 ⟨hx, by rw [h2]; simpa using hn i hi⟩, h1, h2⟩
  · rw [fin_find (hn i hi)] at hx
    refine h'.cl i hi x hx n ?_
    obtain ⟨h1, h2⟩ := pend_sub hn2
    obtain ⟨y, hy, rfl⟩ := List.mem_map.1 h1
    exact List.mem_filter.2 ⟨List.mem_map.2 ⟨y, (List.mem_filter.1 hy).1, rfl⟩, by simpa using h2⟩
structure WayI (V0 V : VolM) : Prop where
  pok : POk V.P
  len : ∀ y ∈ V.D.blocks, y.length = 128
  bl : V.D.blocks.length = V0.D.blocks.length
  lst : V.P.last = V0.P.last
  ov : POv V.P
  has : ∀ x ∈ V.P.l, V.D.has x.blk
  now : ∀ b, V0.D.has b → V.now b = V0.now b
  w : ∀ p ∈ V.way, V.D.has p.2.blk ∧ CS V.P p.2.blk p.2.ids ∧ p.2.by_ = V.P.over (V.blk p.2.blk) p.2.ids
  nd : (V.way.map fun p => p.2.blk).Nodup
theorem blk_len' {V : VolM} (h : ∀ y ∈ V.D.blocks, y.length = 128) {b : Int} (hb : V.D.has b) : (V.blk b).length = 128 := h _ (List.mem_of_getElem? (blk_get hb))
theorem WayI.sent {V0 V : VolM} (h : WayI V0 V) {b : Int} (hb : V.D.has b) (hg : b ∉ V.way.map fun p => p.2.blk) : WayI V0 (V.sent b) := by
  refine ⟨h.pok, h.len, h.bl, h.lst, h.ov, h.has, h.now, fun p hp => ?_, ?_⟩
  · rcases List.mem_append.1 (show p ∈ V.way ++ [_] from hp) with hp | hp
    · exact h.w p hp
    · rw [List.mem_singleton] at hp; subst hp
      exact ⟨hb, CS.free h.pok b, rfl⟩
  · show ((V.way ++ [_]).map _).Nodup
    rw [List.map_append]
    exact List.nodup_append.2 ⟨h.nd, by simp, fun x hx y hy => by simp at hy; subst hy; exact fun e => hg (e ▸ hx)⟩
theorem WayI.landed {V0 V : VolM} (h : WayI V0 V) {x : Int × WayM} {w : List (Int × WayM)} (e : V.way = x :: w) : (V.P.doneP x.2.ids).2 = 0 ∧ WayI V0 (V.landed 0 x.2) := by
  obtain ⟨hb, hcs, hby⟩ := h.w x (by rw [e]; simp)
  have hd := hcs.done h.pok
  have eP : (V.landed 0 x.2).P = V.P.fin x.2.ids := by show (V.P.doneP x.2.ids).1 = _; rw [hd]
  have ew : (V.landed 0 x.2).way = w := landed_way e x.2
  have hpok2 : POk (V.P.fin x.2.ids) := h.pok.fin _ fun i hi => of_sub (hcs.sub i hi)
  have hbl : ∀ c, c ≠ x.2.blk → V.D.has c → (V.landed 0 x.2).blk c = V.blk c := fun c hc hh => by
    show (V.D.blocks.set x.2.blk.toNat x.2.by_).getD c.toNat [] = V.D.blocks.getD c.toNat []
    unfold DiskM.has at hb hh
    rw [List.getD_eq_getElem?_getD, List.getElem?_set_ne (by omega), ← List.getD_eq_getElem?_getD]
  have hnd := h.nd
  rw [e, List.map_cons, List.nodup_cons] at hnd
  refine ⟨by rw [hd], ⟨by rw [eP]; exact hpok2, fun y hy => ?_, by show (V.D.blocks.set _ _).length = _; rw [List.length_set]; exact h.bl, by rw [eP]; exact h.lst, by rw [eP]; exact h.ov.fin _, ?_, fun c hc => ?_, ?_, by rw [ew]; exact hnd.2⟩⟩
  · rcases List.mem_or_eq_of_mem_set (show y ∈ V.D.blocks.set x.2.blk.toNat x.2.by_ from hy) with h1 | h1
    · exact h.len y h1
    · rw [h1, hby]; exact over_len h.pok _ (blk_len' h.len hb)
  · intro y hy
    rw [eP] at hy
    have := h.has y (List.mem_filter.1 hy).1
    show 0 ≤ y.blk ∧ y.blk < ((V.D.blocks.set _ _).length : Int)
    rw [List.length_set]; exact this
  · have hcV : V.D.has c := (has_len h.bl).2 hc
    rw [← h.now c hc]
    unfold VolM.now
    rw [eP]
    by_cases hcb : c = x.2.blk
    · subst hcb
      have : (V.landed 0 x.2).blk x.2.blk = x.2.by_ := by
        show (V.D.blocks.set x.2.blk.toNat x.2.by_).getD x.2.blk.toNat [] = _
        unfold DiskM.has at hb
        rw [List.getD_eq_getElem?_getD, List.getElem?_set_self (by omega)]; rfl
      rw [this, hby]
      exact hcs.now h.pok h.ov (blk_len' h.len hb)
    · rw [hbl c hcb hcV, over_of hpok2, over_of h.pok, fin_of_ne hcs.sub h.pok hcb]
  · rw [ew]
    intro p hp
    obtain ⟨g1, g2, g3⟩ := h.w p (by rw [e]; exact List.mem_cons_of_mem _ hp)
    have hpb : p.2.blk ≠ x.2.blk := fun e2 => hnd.1 (e2 ▸ List.mem_map.2 ⟨p, hp, rfl⟩)
    have ho := hcs.other h.pok g2 hpb
    refine ⟨?_, by rw [eP]; exact ho.1, by rw [eP, ho.2, hbl _ hpb g1]; exact g3⟩
    show 0 ≤ p.2.blk ∧ p.2.blk < ((V.D.blocks.set _ _).length : Int)
    rw [List.length_set]; exact g1
/-- (*bollard/disk.Disk).Image -/
theorem c_dimage (d T Tn : Nat) (D : DiskM) (s : TH) (hd : Disk s d T D) (hT : Tn + 3 < T ∨ T + 10 ≤ Tn) : TRet Tryz.prog 38 #[.pointer (some ⟨d, 0, none⟩)] s fun v s' => ∃ a c hs, v = .slice a D.blocks.length c ∧ Ch [Tn + 1] s s' ∧ Own s' a D.blocks.length c 38 1 (hs.flatMap hd1) (Tn + 1) ∧ BRel s' (Tn + 3) hs D.blocks := by
  obtain ⟨pa, pc, qa, qc, hs, qs, fr, fm, h⟩ := id hd
  have hdb := h.blk
  have hdr := h.rows
  have hdl := h.brel
  have hnb := h.nb
  have hll := hdl.len
  refine F38_calls _  ?_
  unfold F38
  refine sB_f (by rfl) ?_
  refine nz_i ?_
  refine ld_t hdb rfl ?_
  refine dSl_i ?_
  refine tcall (c_image Tn pc hdr.sl hdl hll (by omega) (by omega) (by omega)) ?_
  rintro v_2 s_1 ⟨pacall1, pccall1, hscall1, rfl, c_4, call1a, call1b⟩
  have z_5 := c_4.size
  refine dSl_i ?_
  refine ret_t ?_
  exact ⟨_, _, _, rfl, ((Ch.refl [Tn + 1] s).ch c_4 (by simp)), call1a, call1b⟩
end Go.Proofs.YtngploohhmfaiaaGreat.E
