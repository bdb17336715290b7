/- My own texts, joined. -/
import Derived.Conc.MuLib
import Derived.KernelRfl
import Derived.Test.YtngploohhmfaiaaGreatProg
import Derived.Test.YtngploohhmfaiaaGreatQc7
/- Contracts of functions. -/
namespace Go.Proofs.YtngploohhmfaiaaGreat.E
open Go Go.Proofs Go.RowKit Go.Maps Go.Shelf Go.Sort
set_option linter.unusedVariables false
set_option linter.unusedSimpArgs false
/-- the blocks that have patches, rising -/
def PatchM.blocks (P : PatchM) : List Int := cpt ((P.l.map (·.blk)).mergeSort fun x y => decide (x ≤ y))
theorem cpt_ext {a b : List Int} (h : ∀ x, x ∈ a ↔ x ∈ b) : cpt (a.mergeSort fun x y => decide (x ≤ y)) = cpt (b.mergeSort fun x y => decide (x ≤ y)) :=
  srt_ext (cpt_srt (srtd a)) (cpt_srt (srtd b)) fun x => by rw [cpt_mem, cpt_mem, List.mem_mergeSort, List.mem_mergeSort, h]
theorem mem_blocks {P : PatchM} {b : Int} : b ∈ P.blocks ↔ ∃ x ∈ P.l, x.blk = b := by
  unfold PatchM.blocks; rw [cpt_mem, List.mem_mergeSort, List.mem_map]
theorem nodup_len_le : ∀ {l m : List Int}, l.Nodup → (∀ x ∈ l, x ∈ m) → l.length ≤ m.length
  | [], m, _, _ => by simp
  | x :: l, m, hn, hs => by
    rw [List.nodup_cons] at hn
    have hx := hs x (by simp)
    have := nodup_len_le (m := m.erase x) hn.2 fun y hy => (List.mem_erase_of_ne (fun e => hn.1 (by rw [← e]; exact hy))).2 (hs y (List.mem_cons_of_mem _ hy))
    rw [List.length_erase_of_mem hx] at this
    have := List.length_pos_of_mem hx
    rw [List.length_cons]; omega
theorem vis_len {P : PatchM} (ok : POk P) {vis : List Int} (hn : vis.Nodup) (hs : ∀ k ∈ vis, k ∈ P.all) : (vis.length : Int) ≤ P.last := by
  have h1 : vis.length ≤ P.all.length := nodup_len_le hn hs
  have h2 : P.all.length = P.l.length := by unfold PatchM.all; simp
  have := ok.lenl; omega
theorem blocks_len {P : PatchM} (ok : POk P) : (P.blocks.length : Int) ≤ P.last := by
  have h1 := cpt_len ((P.l.map (·.blk)).mergeSort fun x y => decide (x ≤ y))
  rw [List.length_mergeSort, List.length_map] at h1
  have := ok.lenl
  unfold PatchM.blocks; omega
/-- (*bollard/patch.Set).Blocks -/
theorem c_pblocks (p T : Nat) (P : PatchM) (τ : Nat) (s : TH) (hT : 10 ≤ T) (hp : PSet s p T P) : TRet Tryz.prog 99 #[.pointer (some ⟨p, 0, none⟩)] s fun v s' => ∃ a c', v = .slice a P.blocks.length c' ∧ Ch [] s s' ∧ Own s' a P.blocks.length c' 3 1 (ivs P.blocks) τ := by
  obtain ⟨⟨rd, rl, md, ml, hP⟩, ok⟩ := id hp
  have hpb := hP.blk
  have hpd := hP.dm
  have hpl := hP.lm
  have hpm := hP.pm
  have hlst := ok.lst
  obtain ⟨M, hM, hM0, hMa, hMb, hMc, hMd, hMe, hMf⟩ := fresh6 s (T + 10) τ 0 0 0 0
  refine F99_calls _  ?_
  unfold F99
  refine tcall (c_own _ _ _ _ (by omega) hp) ?_
  rintro v_2 s_1 ⟨rfl, c_4⟩
  have z_5 := c_4.size
  refine dBl_i ?_
  refine sB_f (by rfl) ?_
  refine nz_i ?_
  have h_6 := hpb.ch c_4 (by simp)
  refine ld_t h_6 rfl ?_
  refine dMap_i ?_
  have h_7 := hpl.ch c_4 (by simp)
  refine range_t (M + 7) um190 h_7 iinj fun s_8 qsem1 hqsem1 itsem1 c_10 => ?_
  have z_11 := c_10.size
  refine ⟨fun vs H' => ∃ s' : TH, s'.h = H' ∧ ∃ q qn qc, vs = [.slice q qn qc] ∧ Ch [M + 1, M + 7, M + 9] s_8 s' ∧ (∃ vis X, ItK (Value.int .i64) s' qsem1 rl ml vis (T + 2) (M + 7) ∧ Own s' q qn qc 3 1 (ivs X) (M + 1) ∧ qn = vis.length ∧ (∀ k ∈ vis, k ∈ P.all) ∧ ∀ b, b ∈ X ↔ ∃ x ∈ P.l, x.id ∈ vis ∧ x.blk = b), fun vs H' => match vs with | [.slice q qn qc] => leftH H' qsem1 rl | _ => 0, ⟨s_8, rfl, _, _, _, rfl, Ch.refl _ _, ?_⟩, ?_⟩
  ·
    exact ⟨[], [], itsem1, by simpa [ivs] using Own.nil _ _ _ _, rfl, by simp, by simp⟩
  ·
    intro q qn qc _ _ _ _ _ _ _ _ _ _ H_ hI_13
    obtain ⟨s_12, rfl, q_, qn_, qc_, hvs, c_14, vis, X, hit, ho, hqn, hvis, hX⟩ := hI_13
    cases hvs
    have z_15 := c_14.size
    have hvl := vis_len ok hit.sub hvis
    refine next_t hit iinj (fun s_16 ksem2 xsem2 hmksem2 hvksem2 it_17 c_18o zc_18 => ?_) (fun hallksem2 => ?_)
    ·
      refine dNx_t ?_
      have c_18 : Ch [(M + 7)] s_12 s_16 := Chg.mono c_18o (fun j hj e => by subst e; rw [hit.tagq]; simp)
      have h_19 := hpm.mv (((c_4.app c_10).app c_14).app c_18) (tagn (by simp <;> omega))
      obtain ⟨x1, hx1, hid1, bax, bcx, nax, ncx, hxv, sbx, snx⟩ := h_19.mem_ hmksem2
      subst hxv
      refine entry_t it_17 hmksem2 iinj ?_
      refine dT2 ?_
      refine dA5 ?_
      refine al_t (M + 9) fun r56 s57 hr56 b_20 c_21 z_22 => ?_
      refine st_t b_20 rfl (by simp) fun s58 b_23 c_24o z_25 => ?_
      have c_24 := on_ch b_20 c_24o
      refine st_t b_23 rfl (by simp) fun s59 b_26 c_27o z_28 => ?_
      have c_27 := on_ch b_23 c_27o
      refine st_t b_26 rfl (by simp) fun s60 b_29 c_30o z_31 => ?_
      have c_30 := on_ch b_26 c_30o
      refine st_t b_29 rfl (by simp) fun s61 b_32 c_33o z_34 => ?_
      have c_33 := on_ch b_29 c_33o
      refine st_t b_32 rfl (by simp) fun s62 b_35 c_36o z_37 => ?_
      have c_36 := on_ch b_32 c_36o
      refine ld_t b_35 rfl ?_
      refine dInt_i ?_
      refine al_t (M + 9) fun r65 s66 hr65 b_38 c_39 z_40 => ?_
      have h_43 := ho.mv (((((((c_18.app c_21).app c_24).app c_27).app c_30).app c_33).app c_36).app c_39) (tagn (by simp))
      refine app_i1 u73 in3 h_43 b_38 (by omega) fun s_44 a_41 k_42 o_45 c_46 => ?_
      have z_47 := c_46.size
      refine dSl_i ?_
      refine ⟨⟨s_44, rfl, _, _, _, rfl, (((((((((((Ch.refl [M + 1, M + 7, M + 9] s_8).ch c_14 (by simp)).ch c_18 (by simp)).ch c_21 (by simp)).ch c_24 (by simp)).ch c_27 (by simp)).ch c_30 (by simp)).ch c_33 (by simp)).ch c_36 (by simp)).ch c_39 (by simp)).ch c_46 (by simp)), ?_⟩, ?_⟩
      ·
        have h_48 := it_17.ch (((((((c_21.app c_24).app c_27).app c_30).app c_33).app c_36).app c_39).app c_46) (by simp <;> omega) (by simp <;> omega)
        refine ⟨_, _, h_48, o_45, ?_, ?_, ?_⟩
        · rw [List.length_append, hqn]; rfl
        · intro k hk
          rcases List.mem_append.1 hk with h | h
          · exact hvis k h
          · rw [List.mem_singleton] at h; subst h; rw [← hid1]; exact List.mem_map.2 ⟨x1, hx1, rfl⟩
        · intro b
          rw [List.mem_append, hX, List.mem_singleton]
          constructor
          · rintro (⟨x, h1, h2, h3⟩ | h)
            · exact ⟨x, h1, List.mem_append_left _ h2, h3⟩
            · exact ⟨x1, hx1, by rw [hid1]; simp, h.symm⟩
          · rintro ⟨x, h1, h2, h3⟩
            rcases List.mem_append.1 h2 with h2 | h2
            · exact .inl ⟨x, h1, h2, h3⟩
            · rw [List.mem_singleton] at h2
              have e : x = x1 := by
                have g1 := find_by ok.nodup h1
                have g2 := find_by ok.nodup hx1
                rw [h2, ← hid1, g2] at g1; exact (Option.some.inj g1).symm
              subst e; exact .inr h3.symm
      ·
        have h_49 := it_17.ch (((((((c_21.app c_24).app c_27).app c_30).app c_33).app c_36).app c_39).app c_46) (by simp <;> omega) (by simp <;> omega)
        exact it_less iinj hit h_49 hmksem2 hvksem2 (List.Sublist.refl _)
    ·
      refine dNx_f ?_
      refine tcall (c_sortInt ho (by omega)) ?_
      rintro v_51 s_50 ⟨rfl, c_53, call2a⟩
      have z_54 := c_53.size
      refine tcall (c_compact call2a (by omega)) ?_
      rintro v_56 s_55 ⟨rfl, c_58, call3a⟩
      have z_59 := c_58.size
      refine dSl_i ?_
      have ho := call3a
      have e : cpt (X.mergeSort fun x y => decide (x ≤ y)) = P.blocks := cpt_ext fun b => by
        rw [hX, List.mem_map]
        constructor
        · rintro ⟨x, h1, h2, h3⟩; exact ⟨x, h1, h3⟩
        · rintro ⟨x, h1, h3⟩; exact ⟨x, h1, hallksem2 _ (by rw [hpm.keys]; exact List.mem_map.2 ⟨x, h1, rfl⟩), h3⟩
      rw [e] at ho ⊢
      exact ret_t' (s' := remark s_55 (M + 1) τ) rfl ⟨_, _, rfl, remark_ch ((((((Ch.refl [] s).ch c_4 (by simp)).ch c_10 (by simp)).fr c_14 hM (by simp)).fr c_53 hM (by simp)).fr c_58 hM (by simp)) hM (by omega), ho.remark⟩
def ovx (b o n : Int) (x : PatM) : Bool := decide (ovl b o n x.blk x.off x.by_.length)
def PatchM.newP (P : PatchM) (b o : Int) (y : List UInt8) (needs : List Int) : PatM := ⟨P.last + 1, b, o, y, (P.l.filter fun x => decide (x.id ∈ needs) || ovx b o y.length x).map (·.id)⟩
def PatchM.add (P : PatchM) (b o : Int) (y : List UInt8) (needs : List Int) : PatchM × Int × Int :=
  if ¬ fitsP b o y.length then (P, 0, 1)
  else if (needs.any fun i => !P.knows i) = true then (P, 0, 70)
  else ({ P with last := P.last + 1, l := P.l ++ [P.newP b o y needs] }, P.last + 1, 0)
theorem POk.add {P : PatchM} (ok : POk P) {b o : Int} {y : List UInt8} {needs : List Int} (hf : fitsP b o y.length) (hl : P.last < 1000000) : POk { P with last := P.last + 1, l := P.l ++ [P.newP b o y needs] } where
  srt := List.pairwise_append.2 ⟨ok.srt, by simp, fun a ha c hc => by
    rw [List.mem_singleton] at hc; subst hc
    have := ok.rng a ha
    show a.id < P.last + 1
    omega⟩
  rng x hx := by
    rcases List.mem_append.1 hx with h | h
    · have := ok.rng x h; exact ⟨this.1, by show x.id ≤ P.last + 1; omega⟩
    · rw [List.mem_singleton] at h; subst h
      have := ok.lst
      exact ⟨by show 1 ≤ P.last + 1; omega, Int.le_refl _⟩
  fit x hx := by
    rcases List.mem_append.1 hx with h | h
    · exact ok.fit x h
    · rw [List.mem_singleton] at h; subst h
      unfold fitsP at hf
      exact ⟨hf.1, hf.2.1, by show 1 ≤ y.length; omega, by show o + (y.length : Int) ≤ 128; omega⟩
  nds x hx n hn := by
    rcases List.mem_append.1 hx with h | h
    · exact ok.nds x h n hn
    · rw [List.mem_singleton] at h; subst h
      obtain ⟨z, hz, rfl⟩ := List.mem_map.1 (show n ∈ (P.l.filter fun x => decide (x.id ∈ needs) || ovx b o y.length x).map (·.id) from hn)
      have := ok.rng z (List.mem_filter.1 hz).1
      exact ⟨this.1, by show z.id < P.last + 1; omega⟩
  nsr x hx := by
    rcases List.mem_append.1 hx with h | h
    · exact ok.nsr x h
    · rw [List.mem_singleton] at h; subst h
      exact List.pairwise_map.2 (ok.srt.sublist List.filter_sublist)
  dn i hi := by have := ok.dn i hi; exact ⟨this.1, by show i ≤ P.last + 1; omega⟩
  all i h1 h2 := by
    have h2 : i ≤ P.last + 1 := h2
    by_cases h3 : i ≤ P.last
    · rcases ok.all i h1 h3 with h | h
      · exact .inl h
      · right; show i ∈ (P.l ++ [P.newP b o y needs]).map PatM.id; rw [List.map_append]; exact List.mem_append_left _ h
    · right; show i ∈ (P.l ++ [P.newP b o y needs]).map PatM.id; rw [List.map_append]; exact List.mem_append_right _ (by rw [show i = P.last + 1 by omega]; exact List.mem_singleton.2 rfl)
  dis i hi h := by
    have h : i ∈ (P.l ++ [P.newP b o y needs]).map PatM.id := h
    rw [List.map_append] at h
    rcases List.mem_append.1 h with h | h
    · exact ok.dis i hi h
    · have := ok.dn i hi
      have h : i ∈ [P.last + 1] := h
      rw [List.mem_singleton] at h; omega
  lst := by have := ok.lst; show 0 ≤ P.last + 1 ∧ P.last + 1 ≤ 1000000; omega
theorem newP_needs {P : PatchM} (ok : POk P) {b o n : Int} {needs vis X : List Int} (hv : ∀ x ∈ P.l, x.id ∈ vis) (hX : ∀ i, i ∈ X ↔ i ∈ needs ∨ ∃ x ∈ P.l, x.id ∈ vis ∧ x.id = i ∧ ovl b o n x.blk x.off x.by_.length) :
    P.pend X = (P.l.filter fun x => decide (x.id ∈ needs) || ovx b o n x).map (·.id) := by
  unfold PatchM.pend PatchM.all
  rw [List.filter_map]
  congr 1
  apply List.filter_congr
  intro x hx
  apply Bool.eq_iff_iff.2
  simp only [Function.comp, decide_eq_true_eq, Bool.or_eq_true, ovx, hX]
  constructor
  · rintro (h | ⟨y, h1, h2, h3, h4⟩)
    · exact .inl h
    · have g1 := find_by ok.nodup h1
      have g2 := find_by ok.nodup hx
      rw [h3, g2] at g1
      cases Option.some.inj g1
      exact .inr h4
  · rintro (h | h)
    · exact .inl h
    · exact .inr ⟨x, hx, hv x hx, rfl, h⟩
/-- (*bollard/patch.Set).Add$1 -/
theorem c_add1 (p T : Nat) (P : PatchM) (x : Int) {r0 t1 τ1 : Nat} (s : TH) (hT : 10 ≤ T) (hp : PSet s p T P) (hb1 : Blk s r0 [.pointer (some ⟨p, 0, none⟩)] t1 τ1) : TRet Tryz.prog 129 #[.int .i64 x, .pointer (some ⟨r0, 0, none⟩)] s fun v s' => v = .bool (!P.knows x) ∧ Ch [] s s' := by
  refine F129_calls _ _  ?_
  unfold F129
  refine ld_t hb1 rfl ?_
  refine dPtr_i ?_
  refine tcall (c_known _ _ _ _ _ (by omega) hp) ?_
  rintro v_2 s_1 ⟨rfl, c_4⟩
  have z_5 := c_4.size
  refine dBl_i ?_
  refine ret_t ?_
  exact ⟨rfl, ((Ch.refl [] s).ch c_4 (by simp))⟩
/-- (*bollard/patch.Set).Add -/
theorem c_add (p T : Nat) (P : PatchM) (b o : Int) {xa : Option Addr} {xn : Nat} (xc : Nat) {y : List UInt8} {τx : Nat} {na : Option Addr} {nn : Nat} (nc : Nat) {needs : List Int} {τn : Nat} (s : TH) (hT : 10 ≤ T) (hp : PSet s p T P) (hx : Sl s xa (bvs y) τx) (hxn : y.length = xn) (hn : Sl s na (ivs needs) τn) (hnn : needs.length = nn) (hb : (nn : Int) + P.last ≤ 17592186044000) (hl : P.last < 1000000) : TRet Tryz.prog 73 #[.pointer (some ⟨p, 0, none⟩), .int .i64 b, .int .i64 o, .slice xa xn xc, .slice na nn nc] s fun v s' => v = .tuple #[.int .i64 (P.add b o y needs).2.1, .int .i64 (P.add b o y needs).2.2] ∧ Ch [T, T + 2] s s' ∧ PSet s' p T (P.add b o y needs).1 := by
  obtain ⟨⟨rd, rl, md, ml, hP⟩, ok⟩ := id hp
  have hpb := hP.blk
  have hpd := hP.dm
  have hpl := hP.lm
  have hpm := hP.pm
  have hlst := ok.lst
  obtain ⟨M, hM, hM0, hMa, hMb, hMc, hMd, hMe, hMf⟩ := fresh6 s (T + 10) τx τn 0 0 0
  refine F73_calls _ _ _ _ _ _ _ _ _  ?_
  unfold F73
  refine al_t (M + 1) fun r1 s2 hr1 b_1 c_2 z_3 => ?_
  refine ld_t b_1 rfl ?_
  refine dPtr_i ?_
  have h_4 := hp.mv c_2 (rngn (by simp))
  refine tcall (c_own _ _ _ _ (by omega) h_4) ?_
  rintro v_6 s_5 ⟨rfl, c_8⟩
  have z_9 := c_8.size
  refine dBl_i ?_
  refine sB_f (by rfl) ?_
  refine tcall (c_fits _ _ _ _ _ _) ?_
  rintro v_11 s_10 ⟨rfl, c_13⟩
  have z_14 := c_13.size
  refine dBl_i ?_
  refine sB_nd (fun hsB2 => ?_) (fun hsB2 => ?_)
  ·
    refine ret_t ?_
    have h_15 := h_4.mv (c_8.app c_13) (rngn (by simp))
    rw [show P.add b o y needs = (P, 0, 1) from by unfold PatchM.add; rw [if_pos (by subst hxn; assumption)]]
    exact ⟨rfl, ((((Ch.refl [T, T + 2] s).ch c_2 (by simp)).ch c_8 (by simp)).ch c_13 (by simp)), h_15⟩
  ·
    have h_16 := h_4.mv (c_8.app c_13) (rngn (by simp))
    have hPf := h_16
    have h_17 := b_1.ch (c_8.app c_13) (by simp)
    have hrf := h_17
    have h_18 := hn.mv ((c_2.app c_8).app c_13) (tagn (by simp))
    refine tcall (c_ctIntF _ (fun y => !P.knows y) h_18 hnn (by omega) (by kernel_rfl) (fun s1 y hy hc => c_add1 p T P y s1 hT (hPf.mv hc (rngn (by simp))) (hrf.ch hc (by simp)))) ?_
    rintro v_20 s_19 ⟨rfl, c_22⟩
    have z_23 := c_22.size
    refine dBl_i ?_
    refine sB_i (fun hsB3 => ?_) (fun hsB3 => ?_)
    ·
      refine ret_t ?_
      have h_24 := hPf.mv c_22 (rngn (by simp))
      rw [show P.add b o y needs = (P, 0, 70) from by unfold PatchM.add; rw [if_neg (by subst hxn; simpa using hsB2), if_pos (by assumption)]]
      exact ⟨rfl, (((((Ch.refl [T, T + 2] s).ch c_2 (by simp)).ch c_8 (by simp)).ch c_13 (by simp)).ch c_22 (by simp)), h_24⟩
    ·
      have h_25 := hrf.ch c_22 (by simp)
      refine ld_t h_25 rfl ?_
      refine dPtr_i ?_
      refine nz_i ?_
      have h_26 := hpb.ch (((c_2.app c_8).app c_13).app c_22) (by simp)
      refine ld_t h_26 rfl ?_
      refine dInt_i ?_
      refine wr_t (by omega) ?_
      refine ⟨?_, ?_⟩
      ·
        have hft : fitsP b o xn := by simpa using hsB2
        have h_27 := hx.mv (((c_2.app c_8).app c_13).app c_22) (tagn (by simp))
        refine tcall (c_cloneB (T + 3) _ h_27 hxn (by unfold fitsP at hft; omega)) ?_
        rintro v_29 s_28 ⟨acall4, ccall4, rfl, c_31, call4a⟩
        have z_32 := c_31.size
        refine dSl_i ?_
        refine ⟨?_, ?_⟩
        ·
          have h_33 := h_26.ch c_31 (by simp)
          refine ld_t h_33 rfl ?_
          refine dInt_i ?_
          rfl
        ·
          refine ⟨?_, ?_⟩
          ·
            have h_34 := h_25.ch c_31 (by simp)
            refine ld_t h_34 rfl ?_
            refine dPtr_i ?_
            rfl
          ·
            refine al_t (M + 2) fun r29 s30 hr29 b_35 c_36 z_37 => ?_
            refine ⟨?_, ?_⟩
            ·
              have h_38 := h_26.ch (c_31.app c_36) (by simp)
              refine ld_t h_38 rfl ?_
              refine dInt_i ?_
              rfl
            ·
              refine ⟨?_, ?_⟩
              ·
                have h_39 := h_25.ch (c_31.app c_36) (by simp)
                refine ld_t h_39 rfl ?_
                refine dPtr_i ?_
                rfl
              ·
                refine st_t b_35 rfl (by simp) fun s35 b_40 c_41o z_42 => ?_
                have c_41 := on_ch b_35 c_41o
                refine st_t b_40 rfl (by simp) fun s36 b_43 c_44o z_45 => ?_
                have c_44 := on_ch b_40 c_44o
                refine st_t b_43 rfl (by simp) fun s37 b_46 c_47o z_48 => ?_
                have c_47 := on_ch b_43 c_47o
                refine st_t b_46 rfl (by simp) fun s38 b_49 c_50o z_51 => ?_
                have c_50 := on_ch b_46 c_50o
                refine st_t b_49 rfl (by simp) fun s39 b_52 c_53o z_54 => ?_
                have c_53 := on_ch b_49 c_53o
                have h_55 := h_18.mv (((((((c_22.app c_31).app c_36).app c_41).app c_44).app c_47).app c_50).app c_53) (tagn (by simp <;> omega))
                refine tcall (c_cloneI (M + 4) _ h_55 (by omega) (by omega)) ?_
                rintro v_57 s_56 ⟨acall5, ccall5, rfl, c_59, call5a⟩
                have z_60 := c_59.size
                refine dSl_i ?_
                have h_61 := h_25.ch (((((((c_31.app c_36).app c_41).app c_44).app c_47).app c_50).app c_53).app c_59) (by simp)
                refine ld_t h_61 rfl ?_
                refine dPtr_i ?_
                refine nz_i ?_
                have h_62 := h_26.ch (((((((c_31.app c_36).app c_41).app c_44).app c_47).app c_50).app c_53).app c_59) (by simp <;> omega)
                refine ld_t h_62 rfl ?_
                refine dMap_i ?_
                have h_63 := hpl.ch (((((((((((c_2.app c_8).app c_13).app c_22).app c_31).app c_36).app c_41).app c_44).app c_47).app c_50).app c_53).app c_59) (by simp <;> omega)
                refine range_t (M + 7) um190 h_63 iinj fun s_64 qsem1 hqsem1 itsem1 c_66 => ?_
                have z_67 := c_66.size
                refine ⟨fun vs H' => ∃ s' : TH, s'.h = H' ∧ ∃ q qn qc, vs = [.slice q qn qc] ∧ Ch [M + 4, M + 7, M + 9] s_64 s' ∧ (∃ vis X, ItK (Value.int .i64) s' qsem1 rl ml vis (T + 2) (M + 7) ∧ Own s' q qn qc 3 1 (ivs X) (M + 4) ∧ qn ≤ nn + vis.length ∧ (∀ k ∈ vis, k ∈ P.all) ∧ ∀ i, i ∈ X ↔ i ∈ needs ∨ ∃ x ∈ P.l, x.id ∈ vis ∧ x.id = i ∧ ovl b o xn x.blk x.off x.by_.length), fun vs H' => match vs with | [.slice q qn qc] => leftH H' qsem1 rl | _ => 0, ⟨s_64, rfl, _, _, _, rfl, Ch.refl _ _, ?_⟩, ?_⟩
                ·
                  have h_68 := call5a.mv c_66 (tagn (by simp))
                  exact ⟨[], needs, itsem1, h_68, by simp, by simp, by simp⟩
                ·
                  intro q qn qc _ _ _ _ _ _ _ _ _ _ _ _ _ _ H_ hI_70
                  obtain ⟨s_69, rfl, q_, qn_, qc_, hvs, c_71, vis, X, hit, ho, hqn, hvis, hX⟩ := hI_70
                  cases hvs
                  have z_72 := c_71.size
                  have hvl := vis_len ok hit.sub hvis
                  have hXl : X.length = qn := by have := ho.1; rw [ivs_len] at this; omega
                  refine next_t hit iinj (fun s_73 ksem2 xsem2 hmksem2 hvksem2 it_74 c_75o zc_75 => ?_) (fun hallksem2 => ?_)
                  ·
                    refine dNx_t ?_
                    have c_75 : Ch [(M + 7)] s_69 s_73 := Chg.mono c_75o (fun j hj e => by subst e; rw [hit.tagq]; simp)
                    have h_76 := hpm.mv ((((((((((((((c_2.app c_8).app c_13).app c_22).app c_31).app c_36).app c_41).app c_44).app c_47).app c_50).app c_53).app c_59).app c_66).app c_71).app c_75) (tagn (by simp <;> omega))
                    obtain ⟨x1, hx1, hid1, bax, bcx, nax, ncx, hxv, sbx, snx⟩ := h_76.mem_ hmksem2
                    subst hxv
                    refine entry_t it_74 hmksem2 iinj ?_
                    refine dT2 ?_
                    refine dInt_i ?_
                    refine dA5 ?_
                    refine al_t (M + 9) fun r135 s136 hr135 b_77 c_78 z_79 => ?_
                    refine st_t b_77 rfl (by simp) fun s137 b_80 c_81o z_82 => ?_
                    have c_81 := on_ch b_77 c_81o
                    refine st_t b_80 rfl (by simp) fun s138 b_83 c_84o z_85 => ?_
                    have c_84 := on_ch b_80 c_84o
                    refine st_t b_83 rfl (by simp) fun s139 b_86 c_87o z_88 => ?_
                    have c_87 := on_ch b_83 c_87o
                    refine st_t b_86 rfl (by simp) fun s140 b_89 c_90o z_91 => ?_
                    have c_90 := on_ch b_86 c_90o
                    refine st_t b_89 rfl (by simp) fun s141 b_92 c_93o z_94 => ?_
                    have c_93 := on_ch b_89 c_93o
                    have h_95 := b_52.ch (((((((((c_59.app c_66).app c_71).app c_75).app c_78).app c_81).app c_84).app c_87).app c_90).app c_93) (by simp)
                    refine ld_t h_95 rfl ?_
                    refine ld_t h_95 rfl ?_
                    refine ld_t h_95 rfl ?_
                    refine ld_t h_95 rfl ?_
                    refine ld_t h_95 rfl ?_
                    refine ld_t b_92 rfl ?_
                    refine ld_t b_92 rfl ?_
                    refine ld_t b_92 rfl ?_
                    refine ld_t b_92 rfl ?_
                    refine ld_t b_92 rfl ?_
                    have hfx := ok.fit x1 hx1
                    have hft2 := hft
                    unfold fitsP at hft2
                    refine tcall (c_overlap _ _ _ _ _ _ _ _ _ _ _ _ _ _ _ _ _ _ _ (by omega) (by omega)) ?_
                    rintro v_97 s_96 ⟨rfl, c_99⟩
                    have z_100 := c_99.size
                    refine dBl_i ?_
                    refine sB_d (fun hsB4 => ?_) (fun hsB4 => ?_)
                    ·
                      refine al_t (M + 9) fun r155 s156 hr155 b_101 c_102 z_103 => ?_
                      have h_106 := ho.mv ((((((((c_75.app c_78).app c_81).app c_84).app c_87).app c_90).app c_93).app c_99).app c_102) (tagn (by simp))
                      refine app_i1 u73 in3 h_106 b_101 (by omega) fun s_107 a_104 k_105 o_108 c_109 => ?_
                      have z_110 := c_109.size
                      refine dSl_i ?_
                      refine ⟨⟨s_107, rfl, _, _, _, rfl, ((((((((((((Ch.refl [M + 4, M + 7, M + 9] s_64).ch c_71 (by simp)).ch c_75 (by simp)).ch c_78 (by simp)).ch c_81 (by simp)).ch c_84 (by simp)).ch c_87 (by simp)).ch c_90 (by simp)).ch c_93 (by simp)).ch c_99 (by simp)).ch c_102 (by simp)).ch c_109 (by simp)), ?_⟩, ?_⟩
                      ·
                        have h_111 := it_74.ch ((((((((c_78.app c_81).app c_84).app c_87).app c_90).app c_93).app c_99).app c_102).app c_109) (by simp <;> omega) (by simp <;> omega)
                        refine ⟨_, _, h_111, o_108, ?_, ?_, ?_⟩
                        · simp only [List.length_append, List.length_singleton]; omega
                        · intro k hk
                          rcases List.mem_append.1 hk with h | h
                          · exact hvis k h
                          · rw [List.mem_singleton] at h; subst h; rw [← hid1]; exact List.mem_map.2 ⟨x1, hx1, rfl⟩
                        · intro i
                          rw [List.mem_append, hX, List.mem_singleton]
                          constructor
                          · rintro ((h | ⟨x, h1, h2, h3⟩) | h)
                            · exact .inl h
                            · exact .inr ⟨x, h1, List.mem_append_left _ h2, h3⟩
                            · exact .inr ⟨x1, hx1, by rw [hid1]; simp, by rw [hid1, h], hsB4⟩
                          · rintro (h | ⟨x, h1, h2, h3, h4⟩)
                            · exact .inl (.inl h)
                            · rcases List.mem_append.1 h2 with h2 | h2
                              · exact .inl (.inr ⟨x, h1, h2, h3, h4⟩)
                              · rw [List.mem_singleton] at h2; right; rw [← h3, h2]
                      ·
                        have h_112 := it_74.ch ((((((((c_78.app c_81).app c_84).app c_87).app c_90).app c_93).app c_99).app c_102).app c_109) (by simp <;> omega) (by simp <;> omega)
                        exact it_less iinj hit h_112 hmksem2 hvksem2 (List.Sublist.refl _)
                    ·
                      refine ⟨⟨s_96, rfl, _, _, _, rfl, ((((((((((Ch.refl [M + 4, M + 7, M + 9] s_64).ch c_71 (by simp)).ch c_75 (by simp)).ch c_78 (by simp)).ch c_81 (by simp)).ch c_84 (by simp)).ch c_87 (by simp)).ch c_90 (by simp)).ch c_93 (by simp)).ch c_99 (by simp)), ?_⟩, ?_⟩
                      ·
                        have h_113 := it_74.ch ((((((c_78.app c_81).app c_84).app c_87).app c_90).app c_93).app c_99) (by simp <;> omega) (by simp <;> omega)
                        have h_114 := ho.mv (((((((c_75.app c_78).app c_81).app c_84).app c_87).app c_90).app c_93).app c_99) (tagn (by simp))
                        refine ⟨_, _, h_113, h_114, ?_, ?_, ?_⟩
                        · simp only [List.length_append, List.length_singleton]; omega
                        · intro k hk
                          rcases List.mem_append.1 hk with h | h
                          · exact hvis k h
                          · rw [List.mem_singleton] at h; subst h; rw [← hid1]; exact List.mem_map.2 ⟨x1, hx1, rfl⟩
                        · intro i
                          rw [hX]
                          constructor
                          · rintro (h | ⟨x, h1, h2, h3⟩)
                            · exact .inl h
                            · exact .inr ⟨x, h1, List.mem_append_left _ h2, h3⟩
                          · rintro (h | ⟨x, h1, h2, h3, h4⟩)
                            · exact .inl h
                            · rcases List.mem_append.1 h2 with h2 | h2
                              · exact .inr ⟨x, h1, h2, h3, h4⟩
                              · rw [List.mem_singleton] at h2
                                exfalso
                                have e : x = x1 := by
                                  have g1 := find_by ok.nodup h1
                                  have g2 := find_by ok.nodup hx1
                                  rw [h2, ← hid1, g2] at g1; exact (Option.some.inj g1).symm
                                subst e; exact hsB4 h4
                      ·
                        have h_115 := it_74.ch ((((((c_78.app c_81).app c_84).app c_87).app c_90).app c_93).app c_99) (by simp <;> omega) (by simp <;> omega)
                        exact it_less iinj hit h_115 hmksem2 hvksem2 (List.Sublist.refl _)
                  ·
                    refine dNx_f ?_
                    have h_116 := h_61.ch (c_66.app c_71) (by simp)
                    refine ld_t h_116 rfl ?_
                    refine dPtr_i ?_
                    have h_117 := hPf.mv ((((((((((c_22.app c_31).app c_36).app c_41).app c_44).app c_47).app c_50).app c_53).app c_59).app c_66).app c_71) (rngn (by simp <;> omega))
                    refine tcall (c_pending p T P (T + 3) _ _ hT h_117 ho.sl hXl (by omega)) ?_
                    rintro v_119 s_118 ⟨acall7, ccall7, rfl, c_121, call7a⟩
                    have z_122 := c_121.size
                    refine dSl_i ?_
                    have h_126 := b_52.ch (((c_59.app c_66).app c_71).app c_121) (by simp)
                    refine st_t h_126 rfl (by simp) fun s86 b_123 c_124o z_125 => ?_
                    have c_124 := on_ch h_126 c_124o
                    have h_127 := h_116.ch (c_121.app c_124) (by simp)
                    refine ld_t h_127 rfl ?_
                    refine dPtr_i ?_
                    refine nz_i ?_
                    have h_128 := h_62.ch (((c_66.app c_71).app c_121).app c_124) (by simp <;> omega)
                    refine ld_t h_128 rfl ?_
                    refine dInt_i ?_
                    refine wr_t (by omega) ?_
                    refine nz_i ?_
                    refine st_t h_128 rfl (by simp) fun s94 b_129 c_130o z_131 => ?_
                    have c_130 := on_ch h_128 c_130o
                    have h_132 := h_127.ch c_130 (by simp <;> omega)
                    refine ld_t h_132 rfl ?_
                    refine dPtr_i ?_
                    refine nz_i ?_
                    refine ld_t b_129 rfl ?_
                    refine dMap_i ?_
                    refine ld_t h_132 rfl ?_
                    refine dPtr_i ?_
                    refine nz_i ?_
                    refine ld_t b_129 rfl ?_
                    refine dInt_i ?_
                    have h_133 := b_123.ch c_130 (by simp <;> omega)
                    refine ld_t h_133 rfl ?_
                    refine ld_t h_133 rfl ?_
                    refine ld_t h_133 rfl ?_
                    refine ld_t h_133 rfl ?_
                    refine ld_t h_133 rfl ?_
                    have h_134 := h_63.ch ((((c_66.app c_71).app c_121).app c_124).app c_130) (by simp <;> omega)
                    refine upd_t keyI um190 h_134 (PatchM.last P + 1) (Value.agg #[Value.int IntKind.i64 (PatchM.last P + 1), Value.int IntKind.i64 b, Value.int IntKind.i64 o, Value.slice acall4 xn ccall4, Value.slice acall7 (List.length (PatchM.pend P X)) ccall7]) fun s_135 m_136 c_137o z_138 => ?_
                    have c_137 : Ch [T + 2] s94 s_135 := Chg.mono c_137o fun j _ e => by subst e; rw [h_134.tag]; simp
                    have h_139 := h_132.ch c_137 (by simp <;> omega)
                    refine ld_t h_139 rfl ?_
                    refine dPtr_i ?_
                    refine nz_i ?_
                    have h_140 := b_129.ch c_137 (by simp)
                    refine ld_t h_140 rfl ?_
                    refine dInt_i ?_
                    refine ret_t ?_
                    have h_141 := call4a.mv ((((((((((((c_36.app c_41).app c_44).app c_47).app c_50).app c_53).app c_59).app c_66).app c_71).app c_121).app c_124).app c_130).app c_137) (tagn (by simp <;> omega))
                    have h_142 := call7a.mv ((c_124.app c_130).app c_137) (tagn (by simp <;> omega))
                    have h_143 := hpd.ch (((((((((((((((((c_2.app c_8).app c_13).app c_22).app c_31).app c_36).app c_41).app c_44).app c_47).app c_50).app c_53).app c_59).app c_66).app c_71).app c_121).app c_124).app c_130).app c_137) (by simp <;> omega)
                    have h_144 := hpm.mv (((((((((((((((((c_2.app c_8).app c_13).app c_22).app c_31).app c_36).app c_41).app c_44).app c_47).app c_50).app c_53).app c_59).app c_66).app c_71).app c_121).app c_124).app c_130).app c_137) (tagn (by simp <;> omega))
                    have hv : ∀ x ∈ P.l, x.id ∈ vis := fun x hx => hallksem2 _ (by rw [hpm.keys]; exact List.mem_map.2 ⟨x, hx, rfl⟩)
                    have e := newP_needs ok hv hX
                    have hPV : PatV s_135 (T + 3) (.agg #[.int .i64 (P.last + 1), .int .i64 b, .int .i64 o, .slice acall4 xn ccall4, .slice acall7 (P.pend X).length ccall7]) (P.newP b o y needs) := by
                      subst hxn
                      refine ⟨acall4, ccall4, acall7, ccall7, ?_, h_141.sl, ?_⟩
                      · unfold PatchM.newP; simp only; rw [← e]
                      · unfold PatchM.newP; simp only; rw [← e]; exact h_142.sl
                    have hnew : (P.newP b o y needs).id ∉ P.l.map (·.id) := fun h => by
                      obtain ⟨x, hx, h2⟩ := List.mem_map.1 h
                      have h3 := ok.rng x hx
                      have h2 : x.id = P.last + 1 := h2
                      omega
                    rw [show P.add b o y needs = ({ P with last := P.last + 1, l := P.l ++ [P.newP b o y needs] }, P.last + 1, 0) from by
                      unfold PatchM.add
                      rw [if_neg (by subst hxn; simpa using hft), if_neg (by rw [hsB3]; simp)]]
                    exact ⟨rfl, (((((((((((((((((((Ch.refl [T, T + 2] s).ch c_2 (by simp)).ch c_8 (by simp)).ch c_13 (by simp)).ch c_22 (by simp)).ch c_31 (by simp)).ch c_36 (by simp)).fr c_41 hM (by simp)).fr c_44 hM (by simp)).fr c_47 hM (by simp)).fr c_50 hM (by simp)).fr c_53 hM (by simp)).ch c_59 (by simp)).ch c_66 (by simp)).fr c_71 hM (by simp)).ch c_121 (by simp)).fr c_124 hM (by simp)).ch c_130 (by simp)).ch c_137 (by simp)), ⟨⟨rd, rl, md, _, h_140, h_143, m_136, PMap.snoc hPV h_144 hnew, hP.dk, hP.dv⟩, ok.add (by subst hxn; exact hft) hl⟩⟩
      ·
        refine al_t (M + 2) fun r170 s171 hr170 b_145 c_146 z_147 => ?_
        refine ⟨?_, ?_⟩
        ·
          have h_148 := h_26.ch c_146 (by simp)
          refine ld_t h_148 rfl ?_
          refine dInt_i ?_
          rfl
        ·
          refine ⟨?_, ?_⟩
          ·
            have h_149 := h_25.ch c_146 (by simp)
            refine ld_t h_149 rfl ?_
            refine dPtr_i ?_
            rfl
          ·
            have hft : fitsP b o xn := by simpa using hsB2
            have h_150 := hx.mv ((((c_2.app c_8).app c_13).app c_22).app c_146) (tagn (by simp))
            refine tcall (c_cloneB (T + 3) _ h_150 hxn (by unfold fitsP at hft; omega)) ?_
            rintro v_152 s_151 ⟨acall8, ccall8, rfl, c_154, call8a⟩
            have z_155 := c_154.size
            refine dSl_i ?_
            refine ⟨?_, ?_⟩
            ·
              have h_156 := h_26.ch (c_146.app c_154) (by simp)
              refine ld_t h_156 rfl ?_
              refine dInt_i ?_
              rfl
            ·
              refine ⟨?_, ?_⟩
              ·
                have h_157 := h_25.ch (c_146.app c_154) (by simp)
                refine ld_t h_157 rfl ?_
                refine dPtr_i ?_
                rfl
              ·
                have h_161 := b_145.ch c_154 (by simp)
                refine st_t h_161 rfl (by simp) fun s185 b_158 c_159o z_160 => ?_
                have c_159 := on_ch h_161 c_159o
                refine st_t b_158 rfl (by simp) fun s186 b_162 c_163o z_164 => ?_
                have c_163 := on_ch b_158 c_163o
                refine st_t b_162 rfl (by simp) fun s187 b_165 c_166o z_167 => ?_
                have c_166 := on_ch b_162 c_166o
                refine st_t b_165 rfl (by simp) fun s188 b_168 c_169o z_170 => ?_
                have c_169 := on_ch b_165 c_169o
                refine st_t b_168 rfl (by simp) fun s189 b_171 c_172o z_173 => ?_
                have c_172 := on_ch b_168 c_172o
                have h_174 := h_18.mv (((((((c_22.app c_146).app c_154).app c_159).app c_163).app c_166).app c_169).app c_172) (tagn (by simp <;> omega))
                refine tcall (c_cloneI (M + 4) _ h_174 (by omega) (by omega)) ?_
                rintro v_176 s_175 ⟨acall9, ccall9, rfl, c_178, call9a⟩
                have z_179 := c_178.size
                refine dSl_i ?_
                have h_180 := h_25.ch (((((((c_146.app c_154).app c_159).app c_163).app c_166).app c_169).app c_172).app c_178) (by simp)
                refine ld_t h_180 rfl ?_
                refine dPtr_i ?_
                refine nz_i ?_
                have h_181 := h_26.ch (((((((c_146.app c_154).app c_159).app c_163).app c_166).app c_169).app c_172).app c_178) (by simp <;> omega)
                refine ld_t h_181 rfl ?_
                refine dMap_i ?_
                have h_182 := hpl.ch (((((((((((c_2.app c_8).app c_13).app c_22).app c_146).app c_154).app c_159).app c_163).app c_166).app c_169).app c_172).app c_178) (by simp <;> omega)
                refine range_t (M + 7) um190 h_182 iinj fun s_183 qsem6 hqsem6 itsem6 c_185 => ?_
                have z_186 := c_185.size
                refine ⟨fun vs H' => ∃ s' : TH, s'.h = H' ∧ ∃ q qn qc, vs = [.slice q qn qc] ∧ Ch [M + 4, M + 7, M + 9] s_183 s' ∧ (∃ vis X, ItK (Value.int .i64) s' qsem6 rl ml vis (T + 2) (M + 7) ∧ Own s' q qn qc 3 1 (ivs X) (M + 4) ∧ qn ≤ nn + vis.length ∧ (∀ k ∈ vis, k ∈ P.all) ∧ ∀ i, i ∈ X ↔ i ∈ needs ∨ ∃ x ∈ P.l, x.id ∈ vis ∧ x.id = i ∧ ovl b o xn x.blk x.off x.by_.length), fun vs H' => match vs with | [.slice q qn qc] => leftH H' qsem6 rl | _ => 0, ⟨s_183, rfl, _, _, _, rfl, Ch.refl _ _, ?_⟩, ?_⟩
                ·
                  have h_187 := call9a.mv c_185 (tagn (by simp))
                  exact ⟨[], needs, itsem6, h_187, by simp, by simp, by simp⟩
                ·
                  intro q qn qc _ _ _ _ _ _ _ _ _ _ _ _ _ _ H_ hI_189
                  obtain ⟨s_188, rfl, q_, qn_, qc_, hvs, c_190, vis, X, hit, ho, hqn, hvis, hX⟩ := hI_189
                  cases hvs
                  have z_191 := c_190.size
                  have hvl := vis_len ok hit.sub hvis
                  have hXl : X.length = qn := by have := ho.1; rw [ivs_len] at this; omega
                  refine next_t hit iinj (fun s_192 ksem7 xsem7 hmksem7 hvksem7 it_193 c_194o zc_194 => ?_) (fun hallksem7 => ?_)
                  ·
                    refine dNx_t ?_
                    have c_194 : Ch [(M + 7)] s_188 s_192 := Chg.mono c_194o (fun j hj e => by subst e; rw [hit.tagq]; simp)
                    have h_195 := hpm.mv ((((((((((((((c_2.app c_8).app c_13).app c_22).app c_146).app c_154).app c_159).app c_163).app c_166).app c_169).app c_172).app c_178).app c_185).app c_190).app c_194) (tagn (by simp <;> omega))
                    obtain ⟨x1, hx1, hid1, bax, bcx, nax, ncx, hxv, sbx, snx⟩ := h_195.mem_ hmksem7
                    subst hxv
                    refine entry_t it_193 hmksem7 iinj ?_
                    refine dT2 ?_
                    refine dInt_i ?_
                    refine dA5 ?_
                    refine al_t (M + 9) fun r285 s286 hr285 b_196 c_197 z_198 => ?_
                    refine st_t b_196 rfl (by simp) fun s287 b_199 c_200o z_201 => ?_
                    have c_200 := on_ch b_196 c_200o
                    refine st_t b_199 rfl (by simp) fun s288 b_202 c_203o z_204 => ?_
                    have c_203 := on_ch b_199 c_203o
                    refine st_t b_202 rfl (by simp) fun s289 b_205 c_206o z_207 => ?_
                    have c_206 := on_ch b_202 c_206o
                    refine st_t b_205 rfl (by simp) fun s290 b_208 c_209o z_210 => ?_
                    have c_209 := on_ch b_205 c_209o
                    refine st_t b_208 rfl (by simp) fun s291 b_211 c_212o z_213 => ?_
                    have c_212 := on_ch b_208 c_212o
                    have h_214 := b_171.ch (((((((((c_178.app c_185).app c_190).app c_194).app c_197).app c_200).app c_203).app c_206).app c_209).app c_212) (by simp)
                    refine ld_t h_214 rfl ?_
                    refine ld_t h_214 rfl ?_
                    refine ld_t h_214 rfl ?_
                    refine ld_t h_214 rfl ?_
                    refine ld_t h_214 rfl ?_
                    refine ld_t b_211 rfl ?_
                    refine ld_t b_211 rfl ?_
                    refine ld_t b_211 rfl ?_
                    refine ld_t b_211 rfl ?_
                    refine ld_t b_211 rfl ?_
                    have hfx := ok.fit x1 hx1
                    have hft2 := hft
                    unfold fitsP at hft2
                    refine tcall (c_overlap _ _ _ _ _ _ _ _ _ _ _ _ _ _ _ _ _ _ _ (by omega) (by omega)) ?_
                    rintro v_216 s_215 ⟨rfl, c_218⟩
                    have z_219 := c_218.size
                    refine dBl_i ?_
                    refine sB_d (fun hsB5 => ?_) (fun hsB5 => ?_)
                    ·
                      refine al_t (M + 9) fun r305 s306 hr305 b_220 c_221 z_222 => ?_
                      have h_225 := ho.mv ((((((((c_194.app c_197).app c_200).app c_203).app c_206).app c_209).app c_212).app c_218).app c_221) (tagn (by simp))
                      refine app_i1 u73 in3 h_225 b_220 (by omega) fun s_226 a_223 k_224 o_227 c_228 => ?_
                      have z_229 := c_228.size
                      refine dSl_i ?_
                      refine ⟨⟨s_226, rfl, _, _, _, rfl, ((((((((((((Ch.refl [M + 4, M + 7, M + 9] s_183).ch c_190 (by simp)).ch c_194 (by simp)).ch c_197 (by simp)).ch c_200 (by simp)).ch c_203 (by simp)).ch c_206 (by simp)).ch c_209 (by simp)).ch c_212 (by simp)).ch c_218 (by simp)).ch c_221 (by simp)).ch c_228 (by simp)), ?_⟩, ?_⟩
                      ·
                        have h_230 := it_193.ch ((((((((c_197.app c_200).app c_203).app c_206).app c_209).app c_212).app c_218).app c_221).app c_228) (by simp <;> omega) (by simp <;> omega)
                        refine ⟨_, _, h_230, o_227, ?_, ?_, ?_⟩
                        · simp only [List.length_append, List.length_singleton]; omega
                        · intro k hk
                          rcases List.mem_append.1 hk with h | h
                          · exact hvis k h
                          · rw [List.mem_singleton] at h; subst h; rw [← hid1]; exact List.mem_map.2 ⟨x1, hx1, rfl⟩
                        · intro i
                          rw [List.mem_append, hX, List.mem_singleton]
                          constructor
                          · rintro ((h | ⟨x, h1, h2, h3⟩) | h)
                            · exact .inl h
                            · exact .inr ⟨x, h1, List.mem_append_left _ h2, h3⟩
                            · exact .inr ⟨x1, hx1, by rw [hid1]; simp, by rw [hid1, h], hsB5⟩
                          · rintro (h | ⟨x, h1, h2, h3, h4⟩)
                            · exact .inl (.inl h)
                            · rcases List.mem_append.1 h2 with h2 | h2
                              · exact .inl (.inr ⟨x, h1, h2, h3, h4⟩)
                              · rw [List.mem_singleton] at h2; right; rw [← h3, h2]
                      ·
                        have h_231 := it_193.ch ((((((((c_197.app c_200).app c_203).app c_206).app c_209).app c_212).app c_218).app c_221).app c_228) (by simp <;> omega) (by simp <;> omega)
                        exact it_less iinj hit h_231 hmksem7 hvksem7 (List.Sublist.refl _)
                    ·
                      refine ⟨⟨s_215, rfl, _, _, _, rfl, ((((((((((Ch.refl [M + 4, M + 7, M + 9] s_183).ch c_190 (by simp)).ch c_194 (by simp)).ch c_197 (by simp)).ch c_200 (by simp)).ch c_203 (by simp)).ch c_206 (by simp)).ch c_209 (by simp)).ch c_212 (by simp)).ch c_218 (by simp)), ?_⟩, ?_⟩
                      ·
                        have h_232 := it_193.ch ((((((c_197.app c_200).app c_203).app c_206).app c_209).app c_212).app c_218) (by simp <;> omega) (by simp <;> omega)
                        have h_233 := ho.mv (((((((c_194.app c_197).app c_200).app c_203).app c_206).app c_209).app c_212).app c_218) (tagn (by simp))
                        refine ⟨_, _, h_232, h_233, ?_, ?_, ?_⟩
                        · simp only [List.length_append, List.length_singleton]; omega
                        · intro k hk
                          rcases List.mem_append.1 hk with h | h
                          · exact hvis k h
                          · rw [List.mem_singleton] at h; subst h; rw [← hid1]; exact List.mem_map.2 ⟨x1, hx1, rfl⟩
                        · intro i
                          rw [hX]
                          constructor
                          · rintro (h | ⟨x, h1, h2, h3⟩)
                            · exact .inl h
                            · exact .inr ⟨x, h1, List.mem_append_left _ h2, h3⟩
                          · rintro (h | ⟨x, h1, h2, h3, h4⟩)
                            · exact .inl h
                            · rcases List.mem_append.1 h2 with h2 | h2
                              · exact .inr ⟨x, h1, h2, h3, h4⟩
                              · rw [List.mem_singleton] at h2
                                exfalso
                                have e : x = x1 := by
                                  have g1 := find_by ok.nodup h1
                                  have g2 := find_by ok.nodup hx1
                                  rw [h2, ← hid1, g2] at g1; exact (Option.some.inj g1).symm
                                subst e; exact hsB5 h4
                      ·
                        have h_234 := it_193.ch ((((((c_197.app c_200).app c_203).app c_206).app c_209).app c_212).app c_218) (by simp <;> omega) (by simp <;> omega)
                        exact it_less iinj hit h_234 hmksem7 hvksem7 (List.Sublist.refl _)
                  ·
                    refine dNx_f ?_
                    have h_235 := h_180.ch (c_185.app c_190) (by simp)
                    refine ld_t h_235 rfl ?_
                    refine dPtr_i ?_
                    have h_236 := hPf.mv ((((((((((c_22.app c_146).app c_154).app c_159).app c_163).app c_166).app c_169).app c_172).app c_178).app c_185).app c_190) (rngn (by simp <;> omega))
                    refine tcall (c_pending p T P (T + 3) _ _ hT h_236 ho.sl hXl (by omega)) ?_
                    rintro v_238 s_237 ⟨acall11, ccall11, rfl, c_240, call11a⟩
                    have z_241 := c_240.size
                    refine dSl_i ?_
                    have h_245 := b_171.ch (((c_178.app c_185).app c_190).app c_240) (by simp)
                    refine st_t h_245 rfl (by simp) fun s236 b_242 c_243o z_244 => ?_
                    have c_243 := on_ch h_245 c_243o
                    have h_246 := h_235.ch (c_240.app c_243) (by simp)
                    refine ld_t h_246 rfl ?_
                    refine dPtr_i ?_
                    refine nz_i ?_
                    have h_247 := h_181.ch (((c_185.app c_190).app c_240).app c_243) (by simp <;> omega)
                    refine ld_t h_247 rfl ?_
                    refine dInt_i ?_
                    refine wr_t (by omega) ?_
                    refine nz_i ?_
                    refine st_t h_247 rfl (by simp) fun s244 b_248 c_249o z_250 => ?_
                    have c_249 := on_ch h_247 c_249o
                    have h_251 := h_246.ch c_249 (by simp <;> omega)
                    refine ld_t h_251 rfl ?_
                    refine dPtr_i ?_
                    refine nz_i ?_
                    refine ld_t b_248 rfl ?_
                    refine dMap_i ?_
                    refine ld_t h_251 rfl ?_
                    refine dPtr_i ?_
                    refine nz_i ?_
                    refine ld_t b_248 rfl ?_
                    refine dInt_i ?_
                    have h_252 := b_242.ch c_249 (by simp <;> omega)
                    refine ld_t h_252 rfl ?_
                    refine ld_t h_252 rfl ?_
                    refine ld_t h_252 rfl ?_
                    refine ld_t h_252 rfl ?_
                    refine ld_t h_252 rfl ?_
                    have h_253 := h_182.ch ((((c_185.app c_190).app c_240).app c_243).app c_249) (by simp <;> omega)
                    refine upd_t keyI um190 h_253 (PatchM.last P + 1) (Value.agg #[Value.int IntKind.i64 (PatchM.last P + 1), Value.int IntKind.i64 b, Value.int IntKind.i64 o, Value.slice acall8 xn ccall8, Value.slice acall11 (List.length (PatchM.pend P X)) ccall11]) fun s_254 m_255 c_256o z_257 => ?_
                    have c_256 : Ch [T + 2] s244 s_254 := Chg.mono c_256o fun j _ e => by subst e; rw [h_253.tag]; simp
                    have h_258 := h_251.ch c_256 (by simp <;> omega)
                    refine ld_t h_258 rfl ?_
                    refine dPtr_i ?_
                    refine nz_i ?_
                    have h_259 := b_248.ch c_256 (by simp)
                    refine ld_t h_259 rfl ?_
                    refine dInt_i ?_
                    refine ret_t ?_
                    have h_260 := call8a.mv (((((((((((c_159.app c_163).app c_166).app c_169).app c_172).app c_178).app c_185).app c_190).app c_240).app c_243).app c_249).app c_256) (tagn (by simp <;> omega))
                    have h_261 := call11a.mv ((c_243.app c_249).app c_256) (tagn (by simp <;> omega))
                    have h_262 := hpd.ch (((((((((((((((((c_2.app c_8).app c_13).app c_22).app c_146).app c_154).app c_159).app c_163).app c_166).app c_169).app c_172).app c_178).app c_185).app c_190).app c_240).app c_243).app c_249).app c_256) (by simp <;> omega)
                    have h_263 := hpm.mv (((((((((((((((((c_2.app c_8).app c_13).app c_22).app c_146).app c_154).app c_159).app c_163).app c_166).app c_169).app c_172).app c_178).app c_185).app c_190).app c_240).app c_243).app c_249).app c_256) (tagn (by simp <;> omega))
                    have hv : ∀ x ∈ P.l, x.id ∈ vis := fun x hx => hallksem7 _ (by rw [hpm.keys]; exact List.mem_map.2 ⟨x, hx, rfl⟩)
                    have e := newP_needs ok hv hX
                    have hPV : PatV s_254 (T + 3) (.agg #[.int .i64 (P.last + 1), .int .i64 b, .int .i64 o, .slice acall8 xn ccall8, .slice acall11 (P.pend X).length ccall11]) (P.newP b o y needs) := by
                      subst hxn
                      refine ⟨acall8, ccall8, acall11, ccall11, ?_, h_260.sl, ?_⟩
                      · unfold PatchM.newP; simp only; rw [← e]
                      · unfold PatchM.newP; simp only; rw [← e]; exact h_261.sl
                    have hnew : (P.newP b o y needs).id ∉ P.l.map (·.id) := fun h => by
                      obtain ⟨x, hx, h2⟩ := List.mem_map.1 h
                      have h3 := ok.rng x hx
                      have h2 : x.id = P.last + 1 := h2
                      omega
                    rw [show P.add b o y needs = ({ P with last := P.last + 1, l := P.l ++ [P.newP b o y needs] }, P.last + 1, 0) from by
                      unfold PatchM.add
                      rw [if_neg (by subst hxn; simpa using hft), if_neg (by rw [hsB3]; simp)]]
                    exact ⟨rfl, (((((((((((((((((((Ch.refl [T, T + 2] s).ch c_2 (by simp)).ch c_8 (by simp)).ch c_13 (by simp)).ch c_22 (by simp)).ch c_146 (by simp)).ch c_154 (by simp)).fr c_159 hM (by simp)).fr c_163 hM (by simp)).fr c_166 hM (by simp)).fr c_169 hM (by simp)).fr c_172 hM (by simp)).ch c_178 (by simp)).ch c_185 (by simp)).fr c_190 hM (by simp)).ch c_240 (by simp)).fr c_243 hM (by simp)).ch c_249 (by simp)).ch c_256 (by simp)), ⟨⟨rd, rl, md, _, h_259, h_262, m_255, PMap.snoc hPV h_263 hnew, hP.dk, hP.dv⟩, ok.add (by subst hxn; exact hft) hl⟩⟩
/-- what must be on the disk until some are -/
inductive PatchM.Reach (P : PatchM) (ids : List Int) : Int → Prop
  | base {i : Int} : i ∈ P.pend ids → PatchM.Reach P ids i
  | step {i n : Int} {x : PatM} : PatchM.Reach P ids i → P.find i = some x → n ∈ P.pend x.needs → PatchM.Reach P ids n
theorem PatchM.Reach.all {P : PatchM} {ids : List Int} {i : Int} (h : P.Reach ids i) : i ∈ P.all := by
  cases h with
  | base h => exact (pend_sub h).1
  | step h1 h2 h3 => exact (pend_sub h3).1
structure ClI (P : PatchM) (ids : List Int) (K O : List Int) : Prop where
  kr : ∀ i ∈ K, P.Reach ids i
  or_ : ∀ i ∈ O, P.Reach ids i
  pe : ∀ i ∈ P.pend ids, i ∈ K ∨ i ∈ O
  cl : ∀ i ∈ K, ∀ x, P.find i = some x → ∀ n ∈ P.pend x.needs, n ∈ K ∨ n ∈ O
  nd : K.Nodup
theorem ClI.done {P : PatchM} {ids K : List Int} (h : ClI P ids K []) (i : Int) : i ∈ K ↔ P.Reach ids i := by
  refine ⟨h.kr i, fun hr => ?_⟩
  induction hr with
  | base hi => exact (h.pe _ hi).resolve_right (by simp)
  | step h1 h2 h3 ih => exact (h.cl _ ih _ h2 _ h3).resolve_right (by simp)
theorem ClI.push {P : PatchM} {ids K O : List Int} {i : Int} {x : PatM} (h : ClI P ids K (O ++ [i])) (hi : i ∉ K) (hx : P.find i = some x) : ClI P ids (K ++ [i]) (O ++ P.pend x.needs) where
  kr j hj := (List.mem_append.1 hj).elim (h.kr j) fun h2 => by rw [List.mem_singleton] at h2; rw [h2]; exact h.or_ i (by simp)
  or_ j hj := (List.mem_append.1 hj).elim (fun h2 => h.or_ j (List.mem_append_left _ h2)) fun h2 => .step (h.or_ i (by simp)) hx h2
  pe j hj := (h.pe j hj).elim (fun h => .inl (List.mem_append_left _ h)) fun h => (List.mem_append.1 h).elim (fun h => .inr (List.mem_append_left _ h)) fun h => .inl (List.mem_append_right _ h)
  cl j hj y hy n hn := by
    rcases List.mem_append.1 hj with hj | hj
    · rcases h.cl j hj y hy n hn with h | h
      · exact .inl (List.mem_append_left _ h)
      · rcases List.mem_append.1 h with h | h
        · exact .inr (List.mem_append_left _ h)
        · exact .inl (List.mem_append_right _ h)
    · rw [List.mem_singleton] at hj; subst hj
      rw [hx] at hy; cases hy
      exact .inr (List.mem_append_right _ hn)
  nd := List.nodup_append.2 ⟨h.nd, by simp, fun a ha b hb e => by rw [List.mem_singleton] at hb; subst hb; subst e; exact hi ha⟩
end Go.Proofs.YtngploohhmfaiaaGreat.E
/- Contracts of functions. -/
namespace Go.Proofs.YtngploohhmfaiaaGreat.E
open Go Go.Proofs
set_option linter.unusedVariables false
/-- bollard/disk.image -/
theorem c_image (T : Nat) {a : Option Addr} {n : Nat} (c : Nat) {hs : List Hd} {bs : List (List UInt8)} {τ τb : Nat} {s : TH} (hq : Sl s a (hs.flatMap hd1) τ) (hb : BRel s τb hs bs) (hn : hs.length = n) (hn2 : n ≤ 2048) (h1 : τ ≠ T + 1) (h2 : τb ≠ T + 1) : TRet Tryz.prog 91 #[.slice a n c] s fun v s' => ∃ pa pc hs', v = .slice pa n pc ∧ Ch [T + 1] s s' ∧ Own s' pa n pc 38 1 (hs'.flatMap hd1) (T + 1) ∧ BRel s' (T + 3) hs' bs := by
  refine F91_calls _ _ _  ?_
  unfold F91
  refine ⟨fun vs H' => ∃ s' : TH, s'.h = H' ∧ ∃ pa pn pc m, vs = [.slice pa pn pc, .int .i64 m] ∧ ChL [T + 1] [] s s' ∧ (∃ (k : Nat) (hs' : List Hd), m = k ∧ pn = k ∧ k ≤ n ∧ Own s' pa k pc 38 1 (hs'.flatMap hd1) (T + 1) ∧ BRel s' (T + 3) hs' (bs.take k)), fun vs H' => match vs with | [.slice pa pn pc, .int .i64 m] => ((n : Int) - m).toNat | _ => 0, ⟨s, rfl, _, _, _, _, rfl, ChL.refl _ _ _, ?_⟩, ?_⟩
  ·
    exact ⟨0, [], rfl, rfl, by omega, Own.nil _ _ _ _, BRel.nil _ _⟩
  ·
    intro pa pn pc m _ _ _ _ _ _ _ _ _ _ H17 hI
    obtain ⟨s17, rfl, pa_, pn_, pc_, m_, hvs, c_1, k, hs', rfl, rfl, hk, rows_3, brel_4⟩ := hI
    cases hvs
    have z_2 := c_1.size
    refine sB_d (fun hsB1 => ?_) (fun hsB1 => ?_)
    ·
      have hk2 : pn < n := by omega
      obtain ⟨x, hx⟩ : ∃ x, hs[pn]? = some x := ⟨hs[pn], by simp [hn, hk2]⟩
      obtain ⟨b, hbk⟩ : ∃ b, bs[pn]? = some b := ⟨bs[pn]'(by rw [← hb.len, hn]; exact hk2), by simp⟩
      obtain ⟨a, rfl⟩ := hq.some (fun e => by have := bcell hx; rw [e] at this; simp at this)
      refine nz_i ?_
      refine ask_t (by omega) ?_
      have q_5 := hq.mv c_1 (tagL (by simp <;> omega) (by simp))
      refine ld_sl q_5 (by rw [Int.toNat_natCast, Nat.mul_one]; exact bcell hx) ?_
      refine dSl_i ?_
      have qb_6 := hb.mv c_1 (tagL (by simp <;> omega) (by simp))
      refine tcall (c_clone (T + 3) _ (qb_6.at_ _ _ _ hx hbk).sl (qb_6.at_ _ _ _ hx hbk).len (fun h => by obtain ⟨y, hy⟩ := (hb.at_ _ _ _ hx hbk).ne; rw [h] at hy; cases hy) (by omega)) ?_
      rintro _ s25 ⟨xa2, xc2, rfl, c_7, nx_9, hxn⟩
      have z_8 := c_7.size
      refine dSl_i ?_
      refine al_t 0 fun r29 s30 hr29 b_10 c_11 z_12 => ?_
      have rows_13 := rows_3.mv c_7 (tagn (by simp))
      have rows_14 := rows_13.mv c_11 (tagn (by simp))
      refine app_i u42 in38 rfl rows_14 b_10.sl (m := 1) (k := 1) rfl (by intro u hu; simp at hu; subst hu; rfl) (by simp) (by unfold maxLen; omega) fun s34 pa2 pc2 rows_17 c_150 _ => ?_
      have c_15 := c_150.ch (T := [T + 1]) rows_14 (by simp)
      have z_16 := c_15.size
      refine dSl_i ?_
      refine wr_t (by omega) ?_
      refine ⟨⟨s34, rfl, _, _, _, _, rfl, (((((ChL.refl [T + 1] [] s).chl c_1 (by simp) (by simp <;> omega)).ch c_7 (by simp)).ch c_11 (by simp)).ch c_15 (by simp)), ?_⟩, ?_⟩
      ·
        have brel_18 := brel_4.mv c_7 (tagn (by simp))
        have brel_19 := brel_18.mv c_11 (tagn (by simp))
        have brel_20 := brel_19.mv c_15 (tagn (by intro h; simp only [List.mem_cons, List.not_mem_nil, or_false] at h <;> omega))
        have nx_21 := nx_9.mv c_11 (tagn (by simp))
        have nx_22 := nx_21.mv c_15 (tagn (by intro h; simp only [List.mem_cons, List.not_mem_nil, or_false] at h <;> omega))
        exact ⟨pn + 1, hs' ++ [(xa2, xc2)], by omega, by omega, by omega, by simpa [hd1] using rows_17, by rw [List.take_add_one, hbk]; exact brel_20.snoc ⟨nx_22.sl, (hb.at_ _ _ _ hx hbk).len⟩⟩
      ·
        simp only []; omega
    ·
      refine ret_t ?_
      obtain rfl : pn = n := by omega
      exact ⟨pa, pc, hs', rfl, ((Ch.refl [T + 1] s).chl c_1 (by simp) (by simp <;> omega)), rows_3, by have h := brel_4; rw [List.take_of_length_le (by rw [← hb.len, hn]; omega)] at h; exact h⟩
def diskOf (bs : List (List UInt8)) : DiskM := ⟨bs, [], fun _ => 0, 0⟩
def imgs (n : Nat) : List (List UInt8) := (List.range n).map fun k => List.replicate 128 (UInt8.ofNat (k + 1))
def nblk8 (x : Int) : Nat := 1 + ((IntKind.u64.wrap x) % 8).toNat
theorem nblk8_le (x : Int) : 1 ≤ nblk8 x ∧ nblk8 x ≤ 8 := by unfold nblk8; omega
end Go.Proofs.YtngploohhmfaiaaGreat.E
/- The numbers under which this program holds sync.Mutex's texts, and that it holds them. -/
namespace Go.Proofs
abbrev Tryz.muLink : Go.Conc.Locks.MuLink := { lock := 113, unlock := 69, ilock := 172, iunlock := 124, lockSlow := 222, unlockSlow := 186, disable := 184, enable := 187, acquire := 221, relMerge := 183, cas32 := 220, add32 := 185, tMutex := 29, tIMutex := 27, tPMutex := 186, tPIMutex := 248, tPI32 := 252, tUP := 250, tNoCopy := 24, tU32 := 25 }
theorem Tryz.muLib : Go.Conc.Locks.MuLib Tryz.prog Tryz.muLink :=
  ⟨Tryz.func113, Tryz.func69, Tryz.func172, Tryz.func124, Tryz.func184, Tryz.func187, Tryz.func221, Tryz.func183, Tryz.func220, Tryz.func185, Tryz.underlying27, Tryz.runUnderlying27, Tryz.sizeOf27, Tryz.isAgg27, Tryz.zeroValue27, Tryz.underlying29, Tryz.runUnderlying29, Tryz.sizeOf29, Tryz.isAgg29, Tryz.zeroValue29, Tryz.underlying186, Tryz.runUnderlying186, Tryz.sizeOf186, Tryz.isAgg186, Tryz.zeroValue186, Tryz.underlying248, Tryz.runUnderlying248, Tryz.sizeOf248, Tryz.isAgg248, Tryz.zeroValue248, Tryz.underlying252, Tryz.runUnderlying252, Tryz.sizeOf252, Tryz.isAgg252, Tryz.zeroValue252, Tryz.underlying250, Tryz.runUnderlying250, Tryz.sizeOf250, Tryz.isAgg250, Tryz.zeroValue250, Tryz.underlying24, Tryz.runUnderlying24, Tryz.sizeOf24, Tryz.isAgg24, Tryz.zeroValue24, Tryz.underlying21, Tryz.runUnderlying21, Tryz.sizeOf21, Tryz.isAgg21, Tryz.zeroValue21, (by kernel_rfl)⟩
end Go.Proofs
/- Contracts of functions. -/
namespace Go.Proofs.YtngploohhmfaiaaGreat.E
open Go Go.Proofs
set_option linter.unusedVariables false
/-- a volume that no call made -/
structure NoV (s : TH) (p : Option Addr) (τ : Nat) : Prop where
  h : p = none ∨ ∃ c, p = some ⟨c, 0, none⟩ ∧ Blk s c [.int .i32 0, .int .u32 0, .pointer none, .pointer none, .pointer none, .map none, .bool false, .bool false, .int .i64 0, .map none] 57 τ
theorem NoV.mv {s s' : TH} {p : Option Addr} {τ : Nat} {B : Nat → Prop} (h : NoV s p τ) (c : Chg B s s') (hn : ∀ j, j < s.h.size → s.g j = τ → ¬ B j) : NoV s' p τ := by
  rcases h.h with h | ⟨r, h1, h2⟩
  · exact ⟨.inl h⟩
  · exact ⟨.inr ⟨r, h1, h2.mv c (hn r h2.lt h2.tag)⟩⟩
end Go.Proofs.YtngploohhmfaiaaGreat.E
/- Contracts of functions. -/
namespace Go.Proofs.YtngploohhmfaiaaGreat.E
open Go Go.Proofs
set_option linter.unusedVariables false
/-- bollard/cache.New -/
theorem c_cnew (T d : Nat) (D : DiskM) (T2 : Nat) (b : Int) (s : TH) (hT : 10 ≤ T) (hd : Disk s d T D) (hb : 1 ≤ b ∧ b ≤ 64) : TRet Tryz.prog 81 #[.pointer (some ⟨d, 0, none⟩), .int .i64 b] s fun v s' => ∃ c r, v = .tuple #[.pointer (some ⟨c, 0, none⟩), .int .i64 0] ∧ Ch [] s s' ∧ Blk s' c [.pointer (some ⟨d, 0, none⟩), .int .i64 b, .map (some r), .int .i64 0, .int .i64 0, .int .i64 0] 203 T2 ∧ MapK (Value.int .i64) s' r [] (T2 + 1) := by
  have hnb : 1 ≤ D.blocks.length := by obtain ⟨_, _, _, _, _, _, _, _, h⟩ := id hd; exact h.nb.1
  refine F81_calls _ _  ?_
  unfold F81
  refine tcall (c_blocks _ _ _ _ hT hd) ?_
  rintro _ s2 ⟨rfl, c_1⟩
  have z_2 := c_1.size
  refine dInt_i ?_
  refine sB_eq (fun hsB1 => ?_) (fun hsB1 => ?_)
  ·
    refine ret_t ?_
    omega
  ·
    refine jn_u ?_
    refine sB_d (fun hsB2 => by exfalso; omega) (fun hsB2 => ?_)
    intro _ _ _ _ _
    refine dBl_i ?_
    first | refine sB_d (fun hsB3 => ?_) (fun hsB3 => ?_) | refine sB_nd (fun hsB3 => ?_) (fun hsB3 => ?_) | refine sB_n (fun hsB3 => ?_) (fun hsB3 => ?_) | refine sB_i (fun hsB3 => ?_) (fun hsB3 => ?_)
    ·
      refine ret_t ?_
      simp at hsB3; omega
    ·
      refine alm_t (Value.int .i64) (T2 + 1) fun r12 s13 hr12 m_3 c_4 z_5 => ?_
      refine al_t T2 fun r14 s15 hr14 b_6 c_7 z_8 => ?_
      refine ret_t ?_
      have r12_9 := m_3.ch c_7 (by simp)
      exact ⟨r14, r12, rfl, ((((Ch.refl [] s).ch c_1 (by simp)).ch c_4 (by simp)).ch c_7 (by simp)), b_6, r12_9⟩
/-- bollard/patch.New -/
theorem c_pnew (T : Nat) (s : TH) : TRet Tryz.prog 82 #[] s fun v s' => ∃ p r1 r2, v = .pointer (some ⟨p, 0, none⟩) ∧ Ch [] s s' ∧ Blk s' p [.int .i64 0, .map (some r1), .map (some r2), .bool true] 192 T ∧ MapK (Value.int .i64) s' r1 [] (T + 1) ∧ MapK (Value.int .i64) s' r2 [] (T + 2) := by
  refine F82_calls  ?_
  unfold F82
  refine alm_t (Value.int .i64) (T + 1) fun r1 s2 hr1 m_1 c_2 z_3 => ?_
  refine alm_t (Value.int .i64) (T + 2) fun r3 s4 hr3 m_4 c_5 z_6 => ?_
  refine al_t T fun r5 s6 hr5 b_7 c_8 z_9 => ?_
  refine ret_t ?_
  have r1_10 := m_1.ch c_5 (by simp)
  have r1_11 := r1_10.ch c_8 (by simp)
  have r3_12 := m_4.ch c_8 (by simp)
  exact ⟨r5, r1, r3, rfl, ((((Ch.refl [] s).ch c_2 (by simp)).ch c_5 (by simp)).ch c_8 (by simp)), b_7, r1_11, r3_12⟩
/-- a disk that no call made -/
structure NoD (s : TH) (p : Option Addr) (τ : Nat) : Prop where
  h : p = none ∨ ∃ c, p = some ⟨c, 0, none⟩ ∧ Blk s c [.slice none 0 0, .slice none 0 0, .map none, .int .i64 0] 133 τ
theorem NoD.mv {s s' : TH} {p : Option Addr} {τ : Nat} {B : Nat → Prop} (h : NoD s p τ) (c : Chg B s s') (hn : ∀ j, j < s.h.size → s.g j = τ → ¬ B j) : NoD s' p τ := by
  rcases h.h with h | ⟨r, h1, h2⟩
  · exact ⟨.inl h⟩
  · exact ⟨.inr ⟨r, h1, h2.mv c (hn r h2.lt h2.tag)⟩⟩
/-- (*bollard/volume.Volume).held -/
theorem c_vheld (r τ : Nat) {d : Addr} {v3 v4 v5 v6 v7 v8 v9 : Value} {s : TH} (hr : Blk s r [.int .i32 0, .int .u32 0, .pointer (some d), v3, v4, v5, v6, v7, v8, v9] 57 τ) : TRet Tryz.prog 68 #[.pointer (some ⟨r, 0, none⟩)] s fun v s' => v = .bool true ∧ Ch [τ] s s' ∧ Blk s' r [.int .i32 1, .int .u32 0, .pointer (some d), v3, v4, v5, v6, v7, v8, v9] 57 τ := by
  refine F68_calls _  ?_
  unfold F68
  refine sB_f (by rfl) ?_
  refine nz_i ?_
  refine tcall (c_mlock Tryz.muLib hr rfl) ?_
  rintro _ s3 ⟨rfl, c_1, v_3⟩
  have z_2 := c_1.size
  refine nz_i ?_
  refine ld_t v_3 rfl ?_
  refine dPtr_i ?_
  refine sB_f (by rfl) ?_
  refine ret_t ?_
  exact ⟨rfl, ((Ch.refl [τ] s).ch c_1 (by simp)), v_3⟩
end Go.Proofs.YtngploohhmfaiaaGreat.E
