/- My own texts, joined. -/
import Derived.KernelRfl
import Derived.Test.YtklppdodadkcnaaGreatProg
import Derived.Test.YtklppdodadkcnaaGreatIP12
/- Contracts of functions. -/
namespace Go.Proofs.YtklppdodadkcnaaGreat.E
open Go Go.Proofs Go.RowKit Go.Maps Go.Shelf Go.Sort
set_option linter.unusedVariables false
set_option linter.unusedSimpArgs false
/-- the document's volume as it is opened -/
structure YNew (s : TH) (y n τ : Nat) : Prop where
  h : ∃ (xd yc yp : Nat) (da : Option Addr) (dc : Nat) (wa : Option Addr), Blk s y [.pointer (some ⟨xd, 0, none⟩), .pointer (some ⟨yc, 0, none⟩), .pointer (some ⟨yp, 0, none⟩), .slice none 0 0, .bool false, .bool false, .int .i64 0, .slice none 0 0] 163 τ ∧ Blk s xd [.slice da n dc, .slice none 0 0, .slice wa n n, .int .i64 0] 195 τ ∧ Blk s yp [.slice none 0 0, .int .i64 0] 203 τ
theorem YNew.mv {s s' : TH} {y n τ : Nat} {B : Nat → Prop} (h : YNew s y n τ) (c : Chg B s s') (hn : ∀ j, j < s.h.size → s.g j = τ → ¬ B j) : YNew s' y n τ := by
  obtain ⟨xd, yc, yp, da, dc, wa, h1, h2, h3⟩ := h.h
  exact ⟨xd, yc, yp, da, dc, wa, h1.mv c (hn y h1.lt h1.tag), h2.mv c (hn xd h2.lt h2.tag), h3.mv c (hn yp h3.lt h3.tag)⟩
theorem YNew.remark {s : TH} {y n μ τ : Nat} (h : YNew s y n μ) : YNew (E.remark s μ τ) y n τ := by
  obtain ⟨xd, yc, yp, da, dc, wa, h1, h2, h3⟩ := h.h
  exact ⟨xd, yc, yp, da, dc, wa, h1.remark, h2.remark, h3.remark⟩
theorem YNew.keep {s : TH} {y n σ μ τ : Nat} (h : YNew s y n σ) (hn : σ ≠ μ) : YNew (E.remark s μ τ) y n σ := by
  obtain ⟨xd, yc, yp, da, dc, wa, h1, h2, h3⟩ := h.h
  exact ⟨xd, yc, yp, da, dc, wa, h1.keep hn, h2.keep hn, h3.keep hn⟩
/-- bollard/bollardref02.Of -/
theorem c_rof2 (τ : Nat) {xa : Option Addr} {n : Nat} (xc : Nat) {hs : List Hd} {bs : List (List UInt8)} {τx τb : Nat} {s : TH} (hq : Sl s xa (hs.flatMap hd1) τx) (hb : BRel s τb hs bs) (hn : hs.length = n) (hn2 : 1 ≤ n ∧ n ≤ 2048) : TRet Tryz.prog 57 #[.slice xa n xc] s fun v s' => ∃ d da dc wa, v = .tuple #[.pointer (some ⟨d, 0, none⟩), .int .i64 0] ∧ Ch [] s s' ∧ Blk s' d [.slice da n dc, .slice none 0 0, .slice wa n n, .int .i64 0] 195 τ := by
  obtain ⟨M, hM, hM0, hMa, hMb, hMc, hMd, hMe, hMf⟩ := fresh6 s τx τb τ 0 0 0
  refine F57_calls _ _ _  ?_
  unfold F57
  refine jn_u ?_
  refine sB_d (fun hsB1 => by exfalso; omega) (fun hsB1 => ?_)
  intro _
  intros
  refine dBl_i ?_
  refine sB_d (fun hsB2 => by exfalso; omega) (fun hsB2 => ?_)
  refine ask_t (by omega) ?_
  refine al_t (M + 1) fun r11 s12 hr11 b_1 c_2 z_3 => ?_
  refine al_t (M + 2) fun r13 s14 hr13 b_4 c_5 z_6 => ?_
  refine ⟨fun vs H' => ∃ s' : TH, s'.h = H' ∧ ∃ i, vs = [.int .i64 i] ∧ Ch [M + 2, M + 5] s14 s' ∧ (∃ (kk : Nat) (hs' : List Hd) (pa : Option Addr) (pc : Nat), i = kk ∧ kk ≤ n ∧ Blk s' r13 [.slice pa kk pc, .slice none 0 0, .slice (some ⟨r11, 0, none⟩) n n, .int .i64 0] 195 (M + 2) ∧ Own s' pa kk pc 85 1 (hs'.flatMap hd1) (M + 5)), fun vs H' => match vs with | [.int .i64 i] => ((n : Int) - i).toNat | _ => 0, ⟨s14, rfl, _, rfl, Ch.refl _ _, ?_⟩, ?_⟩
  ·
    exact ⟨0, [], none, 0, rfl, by omega, b_4, Own.nil _ _ _ _⟩
  ·
    intro i _ _ _ _ _ _ _ _ _ _ _ _ _ _ _ _ _ _ _ _ _ H_ hI_8
    obtain ⟨s_7, rfl, i_, hvs, c_9, kk, hs', pa, pc, rfl, hk, hr, ho⟩ := hI_8
    cases hvs
    have z_10 := c_9.size
    refine sB_d (fun hsB3 => ?_) (fun hsB3 => ?_)
    ·
      obtain ⟨x, hx⟩ : ∃ x, hs[kk]? = some x := ⟨hs[kk]'(by omega), by simp⟩
      obtain ⟨y, hy⟩ : ∃ y, bs[kk]? = some y := ⟨bs[kk]'(by have := hb.len; omega), by simp⟩
      obtain ⟨a, rfl⟩ := hq.some (fun e => by have := bcell hx; rw [e] at this; simp at this)
      refine nz_i ?_
      refine ask_t (by omega) ?_
      have h_11 := hq.mv ((c_2.app c_5).app c_9) (tagn (by simp <;> omega))
      refine ld_sl (v := .slice x.1 128 x.2) h_11 (by rw [Int.toNat_natCast, Nat.mul_one]; exact bcell hx) ?_
      refine dSl_i ?_
      refine sB_f (by rfl) ?_
      refine ld_t hr rfl ?_
      refine dSl_i ?_
      have h_12 := hb.mv ((c_2.app c_5).app c_9) (tagn (by simp <;> omega))
      refine tcall (c_copied _ ((h_12).at_ _ _ _ hx hy).sl ((h_12).at_ _ _ _ hx hy).len (by omega)) ?_
      rintro v_14 s_13 ⟨acall1, ccall1, rfl, c_16⟩
      have z_17 := c_16.size
      refine dSl_i ?_
      refine ⟨?_, ?_⟩
      ·
        have h_18 := hr.ch c_16 (by simp)
        refine ld_t h_18 rfl ?_
        refine dSl_i ?_
        rfl
      ·
        refine al_t (M + 9) fun r59 s60 hr59 b_19 c_20 z_21 => ?_
        refine ⟨?_, ?_⟩
        ·
          have h_22 := hr.ch (c_16.app c_20) (by simp)
          refine ld_t h_22 rfl ?_
          refine dSl_i ?_
          rfl
        ·
          have h_23 := ho.mv (c_16.app c_20) (tagn (by simp))
          refine app_i u49 in85 rfl h_23 (b_19).sl (m := 1) (k := 1) rfl (by intro u hu; simp at hu; subst hu; rfl) (by simp) (by unfold maxLen; omega) fun s_24 pa2 pc2 o_27 c_25o _ => ?_
          have c_25 := c_25o.ch h_23 (T := [M + 5]) (by simp)
          have z_26 := c_25.size
          refine dSl_i ?_
          have h_31 := hr.ch ((c_16.app c_20).app c_25) (by simp)
          refine st_t h_31 rfl (by simp) fun s72 b_28 c_29o z_30 => ?_
          have c_29 := on_ch h_31 c_29o
          refine wr_t (by omega) ?_
          refine ⟨⟨s72, rfl, _, rfl, ((((((Ch.refl [M + 2, M + 5] s14).ch c_9 (by simp)).ch c_16 (by simp)).ch c_20 (by simp)).ch c_25 (by simp)).ch c_29 (by simp)), ?_⟩, ?_⟩
          ·
            have h_32 := o_27.mv c_29 (tagn (by simp))
            exact ⟨kk + 1, hs' ++ [(acall1, ccall1)], _, _, by omega, by omega, b_28, by have h := h_32; simpa [hd1] using h⟩
          ·
            simp only []; omega
    ·
      obtain rfl : kk = n := by omega
      exact ret_t' (s' := remark s_7 (M + 2) τ) rfl ⟨_, _, _, _, rfl, remark_ch ((((Ch.refl [] s).ch c_2 (by simp)).ch c_5 (by simp)).fr c_9 hM (by simp)) hM (by omega), (hr).remark⟩
/-- bollard/bollardref09.Open -/
theorem c_r9open2 (τ d : Nat) (b : Int) (s : TH) (hb : 1 ≤ b ∧ b ≤ 64) : TRet Tryz.prog 59 #[.pointer (some ⟨d, 0, none⟩), .int .i64 b] s fun v s' => ∃ y yc yp, v = .tuple #[.pointer (some ⟨y, 0, none⟩), .int .i64 0] ∧ Ch [] s s' ∧ Blk s' y [.pointer (some ⟨d, 0, none⟩), .pointer (some ⟨yc, 0, none⟩), .pointer (some ⟨yp, 0, none⟩), .slice none 0 0, .bool false, .bool false, .int .i64 0, .slice none 0 0] 163 τ ∧ Blk s' yp [.slice none 0 0, .int .i64 0] 203 τ := by
  obtain ⟨M, hM, hM0, hMa, hMb, hMc, hMd, hMe, hMf⟩ := fresh6 s τ 0 0 0 0 0
  refine F59_calls _ _  ?_
  unfold F59
  refine sB_f (by rfl) ?_
  refine tcall (c_r6new d b _ hb) ?_
  rintro v_2 s_1 ⟨ccall1, rfl, c_4⟩
  have z_5 := c_4.size
  refine dT2 ?_
  refine dPtr_i ?_
  refine dInt_i ?_
  refine sB_f (by rfl) ?_
  refine al_t (M + 1) fun r7 s8 hr7 b_6 c_7 z_8 => ?_
  refine al_t (M + 2) fun r9 s10 hr9 b_9 c_10 z_11 => ?_
  have h_12 := b_6.ch c_10 (by simp)
  exact ret_t' (s' := remark (remark s10 (M + 1) τ) (M + 2) τ) rfl ⟨_, _, _, rfl, remark_ch (remark_ch ((((Ch.refl [] s).ch c_4 (by simp)).ch c_7 (by simp)).ch c_10 (by simp)) hM (by omega)) hM (by omega), ((b_9).keep (by omega)).remark, ((h_12).remark).keep (by omega)⟩
/-- bollard/bollardplain.Of -/
theorem c_plof2 (U τp τy : Nat) {xa : Option Addr} {n : Nat} (xc : Nat) {hs : List Hd} {bs : List (List UInt8)} {τx τb : Nat} {s : TH} (hU : 10 ≤ U) (hq : Sl s xa (hs.flatMap hd1) τx) (hb : BRel s τb hs bs) (hn : hs.length = n) (hn2 : 1 ≤ n ∧ n ≤ 2048) (hτ : (τx < U ∨ U + 50 ≤ τx) ∧ (τb < U ∨ U + 50 ≤ τb) ∧ (τp < U ∨ U + 50 ≤ τp) ∧ (τy < U ∨ U + 50 ≤ τy)) : TRet Tryz.prog 21 #[.slice xa n xc, .int .i64 64] s fun v s' => ∃ p vp d x y, v = .tuple #[.pointer (some ⟨p, 0, none⟩), .bool true] ∧ Ch [U + 11] s s' ∧ Blk s' p [.pointer (some ⟨d, 0, none⟩), .pointer (some ⟨vp, 0, none⟩), .pointer (some ⟨x, 0, none⟩), .pointer (some ⟨y, 0, none⟩)] 40 τp ∧ VolL s' vp d U (VolM.fresh bs) 0 ∧ YNew s' y n τy := by
  have hl128 := hb.l128
  obtain ⟨M, hM, hM0, hMa, hMb, hMc, hMd, hMe, hMf⟩ := fresh6 s τx τb (U + 60) τp τy 0
  refine F21_calls _ _ _ _  ?_
  unfold F21
  refine al_t (M + 1) fun r1 s2 hr1 b_1 c_2 z_3 => ?_
  have h_4 := hq.mv c_2 (tagn (by simp))
  have h_5 := hb.mv c_2 (tagn (by simp))
  refine tcall (c_pimage (M + 10) (M + 12) xc h_4 h_5 hn hn2) ?_
  rintro v_7 s_6 ⟨acall1, ccall1, hscall1, rfl, c_9, call1a, call1b⟩
  have z_10 := c_9.size
  refine dSl_i ?_
  have hln := (call1b).len
  have hlb := hb.len
  refine tcall (c_of (U + 10) _ (by omega) (call1a).sl call1b (by rw [hln, ← hlb]; exact hn) hn2 (by omega) (by omega)) ?_
  rintro v_12 s_11 ⟨dcall2, rfl, c_14, call2a⟩
  have z_15 := c_14.size
  refine dT2 ?_
  refine dPtr_i ?_
  refine dInt_i ?_
  have h_16 := h_4.mv (c_9.app c_14) (tagn (by simp <;> omega))
  have h_17 := h_5.mv (c_9.app c_14) (tagn (by simp <;> omega))
  refine tcall (c_rof2 (M + 20) xc h_16 h_17 hn hn2) ?_
  rintro v_19 s_18 ⟨dcall3, dacall3, dccall3, wacall3, rfl, c_21, call3a⟩
  have z_22 := c_21.size
  refine dT2 ?_
  refine dPtr_i ?_
  refine dInt_i ?_
  refine jn_u ?_
  refine sB_f (by rfl) ?_
  refine sB_f (by rfl) ?_
  intro _
  intros
  refine dBl_i ?_
  refine sB_f (by rfl) ?_
  have h_23 := call2a.mv c_21 (rngn (by simp))
  refine tcall (c_vopen2 U dcall2 bs 64 _ hU h_23 hl128 (by omega)) ?_
  rintro v_25 s_24 ⟨rcall4, rfl, c_27, call4a⟩
  have z_28 := c_27.size
  refine dT2 ?_
  refine dPtr_i ?_
  refine dInt_i ?_
  refine tcall (c_r9open2 (M + 20) dcall3 64 _ (by omega)) ?_
  rintro v_30 s_29 ⟨ycall5, yccall5, ypcall5, rfl, c_32, call5a, call5b⟩
  have z_33 := c_32.size
  have h_34 := call3a.ch (c_27.app c_32) (by simp)
  have hY : YNew s_29 ycall5 n (M + 20) := ⟨_, _, _, _, _, _, call5a, h_34, call5b⟩
  refine dT2 ?_
  refine dPtr_i ?_
  refine dInt_i ?_
  refine jn_u ?_
  refine sB_f (by rfl) ?_
  intro _
  intros
  refine dBl_i ?_
  refine sB_f (by rfl) ?_
  refine sB_f (by rfl) ?_
  have h_38 := b_1.ch ((((c_9.app c_14).app c_21).app c_27).app c_32) (by simp <;> omega)
  refine st_t h_38 rfl (by simp) fun s57 b_35 c_36o z_37 => ?_
  have c_36 := on_ch h_38 c_36o
  refine st_t b_35 rfl (by simp) fun s58 b_39 c_40o z_41 => ?_
  have c_40 := on_ch b_35 c_40o
  refine st_t b_39 rfl (by simp) fun s59 b_42 c_43o z_44 => ?_
  have c_43 := on_ch b_39 c_43o
  refine st_t b_42 rfl (by simp) fun s60 b_45 c_46o z_47 => ?_
  have c_46 := on_ch b_42 c_46o
  have h_48 := call4a.mv ((((c_32.app c_36).app c_40).app c_43).app c_46) (rngn50 (by simp <;> omega))
  have h_49 := hY.mv (((c_36.app c_40).app c_43).app c_46) (tagn (by simp))
  refine ret_t' (s' := remark (remark s60 (M + 1) τp) (M + 20) τy) rfl ⟨_, _, _, _, _, rfl, remark_ch (remark_ch (((((((((((Ch.refl [U + 11] s).ch c_2 (by simp)).ch c_9 (by simp)).fr c_14 hM (by simp <;> omega)).ch c_21 (by simp)).ch c_27 (by simp)).ch c_32 (by simp)).fr c_36 hM (by simp)).fr c_40 hM (by simp)).fr c_43 hM (by simp)).fr c_46 hM (by simp)) hM (by omega)) hM (by omega), ((b_45).remark).keep (by omega), ((h_48).keep (by omega)).keep (by omega), ((h_49).keep (by omega)).remark⟩
/-- bollard/bollardplain.Fresh -/
theorem c_freshA2 (U τp τy : Nat) (G B N : Nat) (s : TH) (hU : 10 ≤ U) (hv : GeoOk G B N) (hτ : (τp < U ∨ U + 50 ≤ τp) ∧ (τy < U ∨ U + 50 ≤ τy)) : TRet Tryz.prog 7 #[.agg #[.int .i64 (G : Int), .int .i64 (B : Int), .int .i64 (N : Int)]] s fun v s' => ∃ p vp d x y, v = .tuple #[.pointer (some ⟨p, 0, none⟩), .agg #[.int .i64 (G : Int), .int .i64 (B : Int), .int .i64 (N : Int)], .bool true] ∧ Ch [U + 11] s s' ∧ Blk s' p [.pointer (some ⟨d, 0, none⟩), .pointer (some ⟨vp, 0, none⟩), .pointer (some ⟨x, 0, none⟩), .pointer (some ⟨y, 0, none⟩)] 40 τp ∧ VolL s' vp d U (VolM.fresh (makeL G B N)) 0 ∧ YNew s' y (G * B) τy := by
  have hv2 := hv
  unfold GeoOk at hv2
  obtain ⟨M, hM, hM0, hMa, hMb, hMc, hMd, hMe, hMf⟩ := fresh6 s (U + 60) τp τy 0 0 0
  refine F7_calls _ _ _  ?_
  unfold F7
  refine al_t (M + 1) fun r1 s2 hr1 b_1 c_2 z_3 => ?_
  refine al_t (M + 2) fun r3 s4 hr3 b_4 c_5 z_6 => ?_
  have h_7 := b_1.ch c_5 (by simp)
  refine ld_t h_7 rfl ?_
  refine ld_t h_7 rfl ?_
  refine ld_t h_7 rfl ?_
  refine tcall (c_make (M + 10) (M + 12) G B N _ hv) ?_
  rintro v_9 s_8 ⟨acall1, ccall1, hscall1, rfl, c_11, call1a, call1b⟩
  have z_12 := c_11.size
  refine dT2 ?_
  refine dSl_i ?_
  refine dInt_i ?_
  refine jn_u ?_
  refine sB_f (by rfl) ?_
  intro _
  intros
  refine dSl_i ?_
  have hgb : 1 * 8 ≤ G * B ∧ G * B ≤ 8 * 256 := ⟨Nat.mul_le_mul (by omega) (by omega), Nat.mul_le_mul (by omega) (by omega)⟩
  have hrl := (call1b).len
  rw [makeL_len (by omega)] at hrl
  refine tcall (c_plof2 U τp τy _ hU (call1a).sl call1b hrl (by omega) (by omega)) ?_
  rintro v_14 s_13 ⟨pcall2, vpcall2, dcall2, xcall2, ycall2, rfl, c_16, call2a, call2b, call2c⟩
  have z_17 := c_16.size
  refine dT2 ?_
  refine dPtr_i ?_
  refine dBl_i ?_
  have h_18 := h_7.ch (c_11.app c_16) (by simp <;> omega)
  refine ld_t h_18 rfl ?_
  refine ld_t h_18 rfl ?_
  refine ld_t h_18 rfl ?_
  refine sB_t (by rfl) ?_
  refine ⟨?_, ?_⟩
  ·
    refine ⟨?_, ?_⟩
    ·
      refine ld_t h_18 rfl ?_
      refine ld_t h_18 rfl ?_
      refine ld_t h_18 rfl ?_
      rfl
    ·
      have h_22 := b_4.ch (c_11.app c_16) (by simp <;> omega)
      refine st_t h_22 rfl (by simp) fun s41 b_19 c_20o z_21 => ?_
      have c_20 := on_ch h_22 c_20o
      refine st_t b_19 rfl (by simp) fun s42 b_23 c_24o z_25 => ?_
      have c_24 := on_ch b_19 c_24o
      refine st_t b_23 rfl (by simp) fun s43 b_26 c_27o z_28 => ?_
      have c_27 := on_ch b_23 c_27o
      refine ld_t b_26 rfl ?_
      refine ld_t b_26 rfl ?_
      refine ld_t b_26 rfl ?_
      refine ret_t ?_
      have h_29 := call2a.ch ((c_20.app c_24).app c_27) (by simp <;> omega)
      have h_30 := call2b.mv ((c_20.app c_24).app c_27) (rngn50 (by simp <;> omega))
      have h_31 := call2c.mv ((c_20.app c_24).app c_27) (tagn (by simp <;> omega))
      exact ⟨_, _, _, _, _, rfl, ((((((((Ch.refl [U + 11] s).ch c_2 (by simp)).ch c_5 (by simp)).ch c_11 (by simp)).ch c_16 (by simp)).fr c_20 hM (by simp)).fr c_24 hM (by simp)).fr c_27 hM (by simp)), h_29, h_30, h_31⟩
  ·
    have h_35 := b_4.ch (c_11.app c_16) (by simp <;> omega)
    refine st_t h_35 rfl (by simp) fun s47 b_32 c_33o z_34 => ?_
    have c_33 := on_ch h_35 c_33o
    refine st_t b_32 rfl (by simp) fun s48 b_36 c_37o z_38 => ?_
    have c_37 := on_ch b_32 c_37o
    refine st_t b_36 rfl (by simp) fun s49 b_39 c_40o z_41 => ?_
    have c_40 := on_ch b_36 c_40o
    refine ld_t b_39 rfl ?_
    refine ld_t b_39 rfl ?_
    refine ld_t b_39 rfl ?_
    refine ret_t ?_
    have h_42 := call2a.ch ((c_33.app c_37).app c_40) (by simp <;> omega)
    have h_43 := call2b.mv ((c_33.app c_37).app c_40) (rngn50 (by simp <;> omega))
    have h_44 := call2c.mv ((c_33.app c_37).app c_40) (tagn (by simp <;> omega))
    exact ⟨_, _, _, _, _, rfl, ((((((((Ch.refl [U + 11] s).ch c_2 (by simp)).ch c_5 (by simp)).ch c_11 (by simp)).ch c_16 (by simp)).fr c_33 hM (by simp)).fr c_37 hM (by simp)).fr c_40 hM (by simp)), h_42, h_43, h_44⟩
/-- bollard/bollardplain.Fresh -/
theorem c_freshB2 (U τp τy : Nat) (a b c : Int) (s : TH) (hU : 10 ≤ U) (hv : ¬ canG a b c) (hτ : (τp < U ∨ U + 50 ≤ τp) ∧ (τy < U ∨ U + 50 ≤ τy)) : TRet Tryz.prog 7 #[.agg #[.int .i64 a, .int .i64 b, .int .i64 c]] s fun v s' => ∃ p vp d x y, v = .tuple #[.pointer (some ⟨p, 0, none⟩), .agg #[.int .i64 1, .int .i64 8, .int .i64 4], .bool true] ∧ Ch [U + 11] s s' ∧ Blk s' p [.pointer (some ⟨d, 0, none⟩), .pointer (some ⟨vp, 0, none⟩), .pointer (some ⟨x, 0, none⟩), .pointer (some ⟨y, 0, none⟩)] 40 τp ∧ VolL s' vp d U (VolM.fresh (makeL 1 8 4)) 0 ∧ YNew s' y (1 * 8) τy := by
  have hv1 : GeoOk 1 8 4 := by unfold GeoOk; omega
  obtain ⟨M, hM, hM0, hMa, hMb, hMc, hMd, hMe, hMf⟩ := fresh6 s (U + 60) τp τy 0 0 0
  refine F7_calls _ _ _  ?_
  unfold F7
  refine al_t (M + 1) fun r1 s2 hr1 b_1 c_2 z_3 => ?_
  refine al_t (M + 2) fun r3 s4 hr3 b_4 c_5 z_6 => ?_
  have h_7 := b_1.ch c_5 (by simp)
  refine ld_t h_7 rfl ?_
  refine ld_t h_7 rfl ?_
  refine ld_t h_7 rfl ?_
  refine tcall (c_makeN a b c _ hv) ?_
  rintro v_9 s_8 ⟨rfl, c_11⟩
  have z_12 := c_11.size
  refine dT2 ?_
  refine dSl_i ?_
  refine dInt_i ?_
  refine jn_u ?_
  refine sB_t (by rfl) ?_
  have h_16 := h_7.ch c_11 (by simp)
  refine st_t h_16 rfl (by simp) fun s62 b_13 c_14o z_15 => ?_
  have c_14 := on_ch h_16 c_14o
  refine st_t b_13 rfl (by simp) fun s63 b_17 c_18o z_19 => ?_
  have c_18 := on_ch b_13 c_18o
  refine st_t b_17 rfl (by simp) fun s64 b_20 c_21o z_22 => ?_
  have c_21 := on_ch b_17 c_21o
  refine ld_t b_20 rfl ?_
  refine ld_t b_20 rfl ?_
  refine ld_t b_20 rfl ?_
  refine tcall (c_make (M + 10) (M + 12) 1 8 4 _ hv1) ?_
  rintro v_24 s_23 ⟨acall2, ccall2, hscall2, rfl, c_26, call2a, call2b⟩
  have z_27 := c_26.size
  refine dT2 ?_
  refine dSl_i ?_
  refine dInt_i ?_
  intro _
  intros
  refine dSl_i ?_
  have hgb : 1 * 8 ≤ 1 * 8 ∧ 1 * 8 ≤ 8 * 256 := ⟨Nat.mul_le_mul (by omega) (by omega), Nat.mul_le_mul (by omega) (by omega)⟩
  have hrl := (call2b).len
  rw [makeL_len (by omega)] at hrl
  refine tcall (c_plof2 U τp τy _ hU (call2a).sl call2b hrl (by omega) (by omega)) ?_
  rintro v_29 s_28 ⟨pcall3, vpcall3, dcall3, xcall3, ycall3, rfl, c_31, call3a, call3b, call3c⟩
  have z_32 := c_31.size
  refine dT2 ?_
  refine dPtr_i ?_
  refine dBl_i ?_
  have h_33 := b_20.ch (c_26.app c_31) (by simp <;> omega)
  refine ld_t h_33 rfl ?_
  refine ld_t h_33 rfl ?_
  refine ld_t h_33 rfl ?_
  refine sB_t (by rfl) ?_
  refine ⟨?_, ?_⟩
  ·
    refine ⟨?_, ?_⟩
    ·
      refine ld_t h_33 rfl ?_
      refine ld_t h_33 rfl ?_
      refine ld_t h_33 rfl ?_
      rfl
    ·
      have h_37 := b_4.ch (((((c_11.app c_14).app c_18).app c_21).app c_26).app c_31) (by simp <;> omega)
      refine st_t h_37 rfl (by simp) fun s41 b_34 c_35o z_36 => ?_
      have c_35 := on_ch h_37 c_35o
      refine st_t b_34 rfl (by simp) fun s42 b_38 c_39o z_40 => ?_
      have c_39 := on_ch b_34 c_39o
      refine st_t b_38 rfl (by simp) fun s43 b_41 c_42o z_43 => ?_
      have c_42 := on_ch b_38 c_42o
      refine ld_t b_41 rfl ?_
      refine ld_t b_41 rfl ?_
      refine ld_t b_41 rfl ?_
      refine ret_t ?_
      have h_44 := call3a.ch ((c_35.app c_39).app c_42) (by simp <;> omega)
      have h_45 := call3b.mv ((c_35.app c_39).app c_42) (rngn50 (by simp <;> omega))
      have h_46 := call3c.mv ((c_35.app c_39).app c_42) (tagn (by simp <;> omega))
      exact ⟨_, _, _, _, _, rfl, ((((((((((((Ch.refl [U + 11] s).ch c_2 (by simp)).ch c_5 (by simp)).ch c_11 (by simp)).fr c_14 hM (by simp)).fr c_18 hM (by simp)).fr c_21 hM (by simp)).ch c_26 (by simp)).ch c_31 (by simp)).fr c_35 hM (by simp)).fr c_39 hM (by simp)).fr c_42 hM (by simp)), h_44, h_45, h_46⟩
  ·
    have h_50 := b_4.ch (((((c_11.app c_14).app c_18).app c_21).app c_26).app c_31) (by simp <;> omega)
    refine st_t h_50 rfl (by simp) fun s47 b_47 c_48o z_49 => ?_
    have c_48 := on_ch h_50 c_48o
    refine st_t b_47 rfl (by simp) fun s48 b_51 c_52o z_53 => ?_
    have c_52 := on_ch b_47 c_52o
    refine st_t b_51 rfl (by simp) fun s49 b_54 c_55o z_56 => ?_
    have c_55 := on_ch b_51 c_55o
    refine ld_t b_54 rfl ?_
    refine ld_t b_54 rfl ?_
    refine ld_t b_54 rfl ?_
    refine ret_t ?_
    have h_57 := call3a.ch ((c_48.app c_52).app c_55) (by simp <;> omega)
    have h_58 := call3b.mv ((c_48.app c_52).app c_55) (rngn50 (by simp <;> omega))
    have h_59 := call3c.mv ((c_48.app c_52).app c_55) (tagn (by simp <;> omega))
    exact ⟨_, _, _, _, _, rfl, ((((((((((((Ch.refl [U + 11] s).ch c_2 (by simp)).ch c_5 (by simp)).ch c_11 (by simp)).fr c_14 hM (by simp)).fr c_18 hM (by simp)).fr c_21 hM (by simp)).ch c_26 (by simp)).ch c_31 (by simp)).fr c_48 hM (by simp)).fr c_52 hM (by simp)).fr c_55 hM (by simp)), h_57, h_58, h_59⟩
theorem c_fresh2 (U τp τy : Nat) (a b c : Int) (s : TH) (hU : 10 ≤ U) (hτ : (τp < U ∨ U + 50 ≤ τp) ∧ (τy < U ∨ U + 50 ≤ τy)) : TRet Tryz.prog 7 #[.agg #[.int .i64 a, .int .i64 b, .int .i64 c]] s fun v s' => ∃ (p vp d x y G B N : Nat), v = .tuple #[.pointer (some ⟨p, 0, none⟩), .agg #[.int .i64 (G : Int), .int .i64 (B : Int), .int .i64 (N : Int)], .bool true] ∧ Ch [U + 11] s s' ∧ GeoOk G B N ∧ Blk s' p [.pointer (some ⟨d, 0, none⟩), .pointer (some ⟨vp, 0, none⟩), .pointer (some ⟨x, 0, none⟩), .pointer (some ⟨y, 0, none⟩)] 40 τp ∧ VolL s' vp d U (VolM.fresh (makeL G B N)) 0 ∧ YNew s' y (G * B) τy := by
  by_cases hc : canG a b c
  · have hc2 := hc
    unfold canG at hc2
    obtain ⟨G, rfl⟩ := Int.eq_ofNat_of_zero_le (a := a) (by omega)
    obtain ⟨B, rfl⟩ := Int.eq_ofNat_of_zero_le (a := b) (by omega)
    obtain ⟨N, rfl⟩ := Int.eq_ofNat_of_zero_le (a := c) (by omega)
    have hv : GeoOk G B N := by unfold GeoOk; omega
    refine (c_freshA2 U τp τy G B N s hU hv hτ).mono ?_
    rintro v s' ⟨p, vp, d, x, y, rfl, h1, h2, h3, h4⟩
    exact ⟨p, vp, d, x, y, G, B, N, rfl, h1, hv, h2, h3, h4⟩
  · refine (c_freshB2 U τp τy a b c s hU hc hτ).mono ?_
    rintro v s' ⟨p, vp, d, x, y, rfl, h1, h2, h3, h4⟩
    exact ⟨p, vp, d, x, y, 1, 8, 4, rfl, h1, by unfold GeoOk; omega, h2, h3, h4⟩
/-- (*bollard/bollardref09.Volume).Blocks -/
theorem c_yblocks (y n τ : Nat) (s : TH) (hy : YNew s y n τ)  : TRet Tryz.prog 77 #[.pointer (some ⟨y, 0, none⟩)] s fun v s' => v = .int .i64 n ∧ Ch [] s s' := by
  obtain ⟨xd, yc, yp, da, dc, wa, hy1, hy2, hy3⟩ := hy.h
  refine F77_calls _  ?_
  unfold F77
  refine nz_i ?_
  refine ld_t hy1 rfl ?_
  refine dPtr_i ?_
  refine nz_i ?_
  refine ld_t hy2 rfl ?_
  refine dSl_i ?_
  refine ret_t ?_
  exact ⟨rfl, (Ch.refl [] s)⟩
/-- (*bollard/bollardref09.Volume).has -/
theorem c_yhas (y n τ : Nat) (b : Nat) (s : TH) (hy : YNew s y n τ) (hb : b < n) : TRet Tryz.prog 83 #[.pointer (some ⟨y, 0, none⟩), .int .i64 (b : Int)] s fun v s' => v = .bool true ∧ Ch [] s s' := by
  obtain ⟨xd, yc, yp, da, dc, wa, hy1, hy2, hy3⟩ := hy.h
  refine F83_calls _ _  ?_
  unfold F83
  refine sB_d (fun hsB1 => ?_) (fun hsB1 => by exfalso; omega)
  refine nz_i ?_
  refine ld_t hy1 rfl ?_
  refine dPtr_i ?_
  refine nz_i ?_
  refine ld_t hy2 rfl ?_
  refine dSl_i ?_
  refine ret_t ?_
  exact ⟨ret_b (by simp; omega), (Ch.refl [] s)⟩
/-- bollard/bollardref04.Inodes -/
theorem c_rinodes (a b c : Int) (s : TH) (hv : canG a b c) : TRet Tryz.prog 143 #[.agg #[.int .i64 a, .int .i64 b, .int .i64 c]] s fun v s' => v = .int .i64 (a * c) ∧ Ch [] s s' := by
  have hac := mul_le (a := a) (b := c) (c := 8) (d := 64) (by unfold canG at hv; omega) (by unfold canG at hv; omega) (by unfold canG at hv; omega) (by unfold canG at hv; omega)
  obtain ⟨M, hM, hM0, hMa, hMb, hMc, hMd, hMe, hMf⟩ := fresh6 s 0 0 0 0 0 0
  refine F143_calls _ _ _  ?_
  unfold F143
  refine al_t (M + 1) fun r1 s2 hr1 b_1 c_2 z_3 => ?_
  refine ld_t b_1 rfl ?_
  refine ld_t b_1 rfl ?_
  refine ld_t b_1 rfl ?_
  refine tcall (gc_rcan a b c _) ?_
  rintro v_5 s_4 ⟨rfl, c_7⟩
  have z_8 := c_7.size
  rw [if_pos hv]
  refine dInt_i ?_
  refine sB_f (by rfl) ?_
  have h_9 := b_1.ch c_7 (by simp)
  refine ld_t h_9 rfl ?_
  refine dInt_i ?_
  refine ld_t h_9 rfl ?_
  refine dInt_i ?_
  refine wr_t (by omega) ?_
  refine ret_t ?_
  exact ⟨rfl, (((Ch.refl [] s).ch c_2 (by simp)).ch c_7 (by simp))⟩
/-- bollard/bollardref04.Owner -/
theorem c_rowner (G B N i : Nat) (s : TH) (hg : GeoOk G B N) (hi : i < G * N) : TRet Tryz.prog 79 #[.agg #[.int .i64 (G : Int), .int .i64 (B : Int), .int .i64 (N : Int)], .int .i64 (i : Int)] s fun v s' => v = .tuple #[.int .i64 ((i / N : Nat) : Int), .int .i64 ((i % N : Nat) : Int), .bool true] ∧ Ch [] s s' := by
  have hcan := hg.can
  have hg2 := hg
  unfold GeoOk at hg2
  have hgn : (G : Int) * (N : Int) = ((G * N : Nat) : Int) := (Int.natCast_mul G N).symm
  have hq0 : (0 : Int) ≤ (i : Int) / (N : Int) := Int.ediv_nonneg (by omega) (by omega)
  obtain ⟨M, hM, hM0, hMa, hMb, hMc, hMd, hMe, hMf⟩ := fresh6 s 0 0 0 0 0 0
  refine F79_calls _ _ _ _  ?_
  unfold F79
  refine al_t (M + 1) fun r1 s2 hr1 b_1 c_2 z_3 => ?_
  refine jn_u ?_
  refine sB_d (fun hsB1 => by exfalso; omega) (fun hsB1 => ?_)
  refine ld_t b_1 rfl ?_
  refine ld_t b_1 rfl ?_
  refine ld_t b_1 rfl ?_
  refine tcall (c_rinodes (G : Int) (B : Int) (N : Int) _ hcan) ?_
  rintro v_5 s_4 ⟨rfl, c_7⟩
  have z_8 := c_7.size
  rw [hgn]
  refine dInt_i ?_
  intro _
  intros
  refine dBl_i ?_
  refine sB_d (fun hsB2 => by exfalso; omega) (fun hsB2 => ?_)
  have h_9 := b_1.ch c_7 (by simp)
  refine ld_t h_9 rfl ?_
  refine dInt_i ?_
  refine ask_t (by omega) ?_
  rw [show Int.tdiv (i : Int) (N : Int) = ((i / N : Nat) : Int) from by rw [Int.tdiv_eq_ediv_of_nonneg (by omega)]; exact (Int.natCast_ediv i N).symm]
  have hle := Nat.div_le_self i N
  have h512 : G * N ≤ 8 * 64 := Nat.mul_le_mul (by omega) (by omega)
  refine wr_t (by omega) ?_
  refine ld_t h_9 rfl ?_
  refine dInt_i ?_
  refine ask_t (by omega) ?_
  rw [show Int.tmod (i : Int) (N : Int) = ((i % N : Nat) : Int) from by rw [Int.tmod_eq_emod_of_nonneg (by omega)]; exact (Int.natCast_emod i N).symm]
  refine nm_t rfl ?_
  refine ret_t ?_
  exact ⟨rfl, (((Ch.refl [] s).ch c_2 (by simp)).ch c_7 (by simp))⟩
/-- bollard/bollardref04.Inode -/
theorem c_rinode (G B N i : Nat) (s : TH) (hg : GeoOk G B N) (hi : i < G * N) : TRet Tryz.prog 28 #[.agg #[.int .i64 (G : Int), .int .i64 (B : Int), .int .i64 (N : Int)], .int .i64 (i : Int)] s fun v s' => v = .tuple #[.int .i64 (ibN B N i : Int), .int .i64 (iaN N i : Int), .bool true] ∧ Ch [] s s' := by
  have hg2 := hg
  unfold GeoOk at hg2
  have hq0 : (0 : Int) ≤ (i : Int) / (N : Int) := Int.ediv_nonneg (by omega) (by omega)
  have hr0 : (0 : Int) ≤ (i : Int) % (N : Int) := Int.emod_nonneg _ (by omega)
  have hib := ib_lt hg hi
  have hal := ia_le N i
  have hgb := hg.gb
  have hbm : (((i / N : Nat) : Int) * (B : Int)) = ((i / N * B : Nat) : Int) := (Int.natCast_mul _ _).symm
  have hdiv : ((i % N : Nat) : Int).tdiv 4 = ((i % N / 4 : Nat) : Int) := by rw [Int.tdiv_eq_ediv_of_nonneg (by omega)]; exact (Int.natCast_ediv _ 4).symm
  have hmod : ((i % N : Nat) : Int).tmod 4 = ((i % N % 4 : Nat) : Int) := by rw [Int.tmod_eq_emod_of_nonneg (by omega)]; exact (Int.natCast_emod _ 4).symm
  have hib2 : i / N * B + (2 + i % N / 4) < G * B := by have := hib.2.2; unfold ibN at this; exact this
  obtain ⟨M, hM, hM0, hMa, hMb, hMc, hMd, hMe, hMf⟩ := fresh6 s 0 0 0 0 0 0
  refine F28_calls _ _ _ _  ?_
  unfold F28
  refine al_t (M + 1) fun r1 s2 hr1 b_1 c_2 z_3 => ?_
  refine ld_t b_1 rfl ?_
  refine ld_t b_1 rfl ?_
  refine ld_t b_1 rfl ?_
  refine tcall (c_rowner G B N i _ hg hi) ?_
  rintro v_5 s_4 ⟨rfl, c_7⟩
  have z_8 := c_7.size
  refine dT3 ?_
  refine dInt_i ?_
  refine dInt_i ?_
  refine dBl_i ?_
  refine sB_f (by rfl) ?_
  have h_9 := b_1.ch c_7 (by simp)
  refine ld_t h_9 rfl ?_
  refine dInt_i ?_
  rw [hbm]
  refine wr_t (by omega) ?_
  refine wr_t (by omega) ?_
  refine ask_t (by omega) ?_
  rw [hdiv]
  refine wr_t (by omega) ?_
  refine wr_t (by omega) ?_
  refine ask_t (by omega) ?_
  rw [hmod]
  refine nm_t rfl ?_
  refine wr_t (by omega) ?_
  refine ret_t ?_
  have e1 : ((i / N * B : Nat) : Int) + 2 + ((i % N / 4 : Nat) : Int) = ((ibN B N i : Nat) : Int) := by unfold ibN; rw [Int.natCast_add, Int.natCast_add, Int.add_assoc]; rfl
  have e2 : 32 * ((i % N % 4 : Nat) : Int) = ((iaN N i : Nat) : Int) := by unfold iaN; rw [Int.natCast_mul, Int.mul_comm]; rfl
  rw [e1, e2]
  exact ⟨rfl, (((Ch.refl [] s).ch c_2 (by simp)).ch c_7 (by simp))⟩
/-- bollard/bollardref11.Fine -/
theorem c_rfine (y n τ : Nat) (G B N : Nat) (s : TH) (hy : YNew s y n τ) (hg : GeoOk G B N) (hn : G * B ≤ n) : TRet Tryz.prog 27 #[.pointer (some ⟨y, 0, none⟩), .agg #[.int .i64 (G : Int), .int .i64 (B : Int), .int .i64 (N : Int)]] s fun v s' => v = .int .i64 0 ∧ Ch [] s s' := by
  have hcan := hg.can
  have hgb : (G : Int) * (B : Int) = ((G * B : Nat) : Int) := (Int.natCast_mul G B).symm
  obtain ⟨M, hM, hM0, hMa, hMb, hMc, hMd, hMe, hMf⟩ := fresh6 s τ 0 0 0 0 0
  refine F27_calls _ _ _ _  ?_
  unfold F27
  refine al_t (M + 1) fun r1 s2 hr1 b_1 c_2 z_3 => ?_
  refine sB_f (by rfl) ?_
  refine jn_u ?_
  refine ld_t b_1 rfl ?_
  refine ld_t b_1 rfl ?_
  refine ld_t b_1 rfl ?_
  refine tcall (gc_rcan (G : Int) (B : Int) (N : Int) _) ?_
  rintro v_5 s_4 ⟨rfl, c_7⟩
  have z_8 := c_7.size
  rw [if_pos hcan]
  refine dInt_i ?_
  refine sB_f (by rfl) ?_
  have h_9 := b_1.ch c_7 (by simp)
  refine ld_t h_9 rfl ?_
  refine ld_t h_9 rfl ?_
  refine ld_t h_9 rfl ?_
  have h_10 := hy.mv (c_2.app c_7) (tagn (by simp))
  refine tcall (c_yblocks y n τ _ h_10) ?_
  rintro v_12 s_11 ⟨rfl, c_14⟩
  have z_15 := c_14.size
  refine dInt_i ?_
  refine ⟨?_, ?_⟩
  ·
    have h_16 := h_9.ch c_14 (by simp)
    refine ld_t h_16 rfl ?_
    refine ld_t h_16 rfl ?_
    refine ld_t h_16 rfl ?_
    rfl
  ·
    refine tcall (gc_rblocks (G : Int) (B : Int) (N : Int) hcan _) ?_
    rintro v_18 s_17 ⟨rfl, c_20⟩
    have z_21 := c_20.size
    rw [hgb]
    refine dInt_i ?_
    intro _
    intros
    refine dBl_i ?_
    refine sB_d (fun hsB3 => by exfalso; omega) (fun hsB3 => ?_)
    refine ret_t ?_
    exact ⟨rfl, (((((Ch.refl [] s).ch c_2 (by simp)).ch c_7 (by simp)).ch c_14 (by simp)).ch c_20 (by simp))⟩
theorem app_p1 {E : List PanicEntry → Heap → Prop} {s : TH} {r tr τx mc : Nat} {L : List Value} {K : Value → Heap → Prop} (hx : Blk s r L tr τx) (hL : L.length = 5) (h1 : ∀ u ∈ L, u.oneCell' = true)
    (hk : ∀ (s' : TH) (a' : Option Addr) (c' : Nat), Ch [] s s' → K (.slice a' (0 + 1) c') s'.h) : semW Tryz.prog (Builtin.append_ #[201, 201] 201 #[.slice none 0 0, .slice (some ⟨r, 0, none⟩) 1 mc]) E s.h K :=
  app_i u201 in220 rfl (Own.nil s 220 5 0) hx.sl (m := 1) (k := 5) (by omega) h1 (by simp) (by unfold maxLen; omega) fun s' a' c' o c _ => hk s' a' c' (Chg.mono c fun _ _ h => by simp at h)
/-- an inode that may be -/
def DinVI (a0 a1 a2 a3 a4 a5 a6 a7 a8 : Int) : Prop := (a0 = 0 ∧ a1 = 0 ∧ a2 = 0 ∧ a3 = 0 ∧ a4 = 0 ∧ a5 = 0 ∧ a6 = 0 ∧ a7 = 0 ∧ a8 = 0) ∨ ((a0 = 1 ∨ a0 = 2) ∧ (0 ≤ a1 ∧ a1 ≤ 1000) ∧ (0 ≤ a2 ∧ a2 ≤ 532992) ∧ (0 ≤ a3 ∧ a3 < 2048) ∧ (0 ≤ a4 ∧ a4 < 2048) ∧ (0 ≤ a5 ∧ a5 < 2048) ∧ (0 ≤ a6 ∧ a6 < 2048) ∧ (0 ≤ a7 ∧ a7 < 2048) ∧ (0 ≤ a8 ∧ a8 < 2048) ∧ (a0 = 2 → a2 % 128 = 0))
/-- (*bollard/bollardref07.Set).Add -/
theorem c_yadd (yp τ : Nat) (b off : Nat) {xa : Option Addr} {n : Nat} (xc : Nat) {l : List UInt8} {τx : Nat} (s : TH) (h : Blk s yp [.slice none 0 0, .int .i64 0] 203 τ) (hx : Sl s xa (bvs l) τx) (hn : l.length = n) (h0 : 1 ≤ n ∧ off + n ≤ 128) (hτ : τx ≠ τ) : TRet Tryz.prog 86 #[.pointer (some ⟨yp, 0, none⟩), .int .i64 (b : Int), .int .i64 (off : Int), .slice xa n xc, .slice none 0 0] s fun v s' => v = .tuple #[.int .i64 1, .int .i64 0] ∧ Ch [τ] s s' := by
  obtain ⟨M, hM, hM0, hMa, hMb, hMc, hMd, hMe, hMf⟩ := fresh6 s τ τx 0 0 0 0
  refine F86_calls _ _ _ _ _ _ _ _ _  ?_
  unfold F86
  refine jn_u ?_
  refine sB_d (fun hsB1 => by exfalso; omega) (fun hsB1 => ?_)
  refine sB_d (fun hsB2 => by exfalso; omega) (fun hsB2 => ?_)
  refine sB_d (fun hsB3 => by exfalso; omega) (fun hsB3 => ?_)
  refine sB_d (fun hsB4 => by exfalso; omega) (fun hsB4 => ?_)
  refine wr_t (by omega) ?_
  intro _
  intros
  refine dBl_i ?_
  refine sB_d (fun hsB5 => by exfalso; omega) (fun hsB5 => ?_)
  refine ⟨fun vs H' => ∃ s' : TH, s'.h = H' ∧ ∃ i, vs = [.int .i64 i] ∧ Ch [] s s' ∧ (i = 0), fun vs H' => match vs with | [.int .i64 i] => 0 | _ => 0, ⟨s, rfl, _, rfl, Ch.refl _ _, ?_⟩, ?_⟩
  ·
    rfl
  ·
    intro i _ _ _ _ _ _ _ _ _ _ _ _ _ _ _ _ _ H_ hI_2
    obtain ⟨s_1, rfl, i_, hvs, c_3, rfl⟩ := hI_2
    cases hvs
    have z_4 := c_3.size
    refine sB_d (fun hsB6 => by exfalso; omega) (fun hsB6 => ?_)
    refine nz_i ?_
    have h_5 := h.ch c_3 (by simp)
    refine ld_t h_5 rfl ?_
    refine dInt_i ?_
    refine wr_t (by omega) ?_
    refine ⟨?_, ?_⟩
    ·
      refine al_t (M + 1) fun r72 s73 hr72 b_6 c_7 z_8 => ?_
      refine ⟨?_, ?_⟩
      ·
        have h_9 := h_5.ch c_7 (by simp)
        refine ld_t h_9 rfl ?_
        refine dInt_i ?_
        rfl
      ·
        refine ⟨?_, ?_⟩
        ·
          have h_10 := hx.mv (c_3.app c_7) (tagn (by simp))
          refine app_bv (xs := []) u85 in5 ((b_6).own0 1) h_10 hn (by omega) fun s_11 a1 c1 o_14 c_12 => ?_
          have z_13 := c_12.size
          refine dSl_i ?_
          refine ⟨?_, ?_⟩
          ·
            have h_15 := h_5.ch (c_7.app c_12) (by simp <;> omega)
            refine ld_t h_15 rfl ?_
            refine dInt_i ?_
            rfl
          ·
            refine al_t (M + 9) fun r85 s86 hr85 b_16 c_17 z_18 => ?_
            refine ⟨?_, ?_⟩
            ·
              have h_19 := h_5.ch ((c_7.app c_12).app c_17) (by simp <;> omega)
              refine ld_t h_19 rfl ?_
              refine dInt_i ?_
              rfl
            ·
              refine st_t b_16 rfl (by simp) fun s89 b_20 c_21o z_22 => ?_
              have c_21 := on_ch b_16 c_21o
              refine st_t b_20 rfl (by simp) fun s90 b_23 c_24o z_25 => ?_
              have c_24 := on_ch b_20 c_24o
              refine st_t b_23 rfl (by simp) fun s91 b_26 c_27o z_28 => ?_
              have c_27 := on_ch b_23 c_27o
              refine st_t b_26 rfl (by simp) fun s92 b_29 c_30o z_31 => ?_
              have c_30 := on_ch b_26 c_30o
              refine st_t b_29 rfl (by simp) fun s93 b_32 c_33o z_34 => ?_
              have c_33 := on_ch b_29 c_33o
              refine nz_i ?_
              have h_35 := h_5.ch (((((((c_7.app c_12).app c_17).app c_21).app c_24).app c_27).app c_30).app c_33) (by simp <;> omega)
              refine ld_t h_35 rfl ?_
              refine dSl_i ?_
              refine ⟨fun vs H' => ∃ s' : TH, s'.h = H' ∧ ∃ i, vs = [.int .i64 i] ∧ Ch [] s93 s' ∧ (i = 0), fun vs H' => match vs with | [.int .i64 i] => 0 | _ => 0, ⟨s93, rfl, _, rfl, Ch.refl _ _, ?_⟩, ?_⟩
              ·
                rfl
              ·
                intro i _ _ _ _ _ _ _ _ _ _ _ _ _ _ _ _ _ _ _ _ _ H_ hI_37
                obtain ⟨s_36, rfl, i_, hvs, c_38, rfl⟩ := hI_37
                cases hvs
                have z_39 := c_38.size
                refine sB_d (fun hsB7 => by exfalso; omega) (fun hsB7 => ?_)
                refine nz_i ?_
                have h_40 := h_35.ch c_38 (by simp)
                refine ld_t h_40 rfl ?_
                refine dInt_i ?_
                refine wr_t (by omega) ?_
                refine nz_i ?_
                refine st_t (r := yp) (i := 1) h_40 rfl (by simp) fun s215 b_41 c_42o z_43 => ?_
                have c_42 := on_ch h_40 c_42o
                refine nz_i ?_
                refine ld_t b_41 rfl ?_
                refine dSl_i ?_
                have h_44 := b_32.ch (c_38.app c_42) (by simp <;> omega)
                refine ld_t h_44 rfl ?_
                refine ld_t h_44 rfl ?_
                refine ld_t h_44 rfl ?_
                refine ld_t h_44 rfl ?_
                refine ld_t h_44 rfl ?_
                refine al_t (M + 9) fun r226 s227 hr226 b_45 c_46 z_47 => ?_
                refine ⟨?_, ?_⟩
                ·
                  have h_48 := b_41.ch c_46 (by simp)
                  refine ld_t h_48 rfl ?_
                  refine dSl_i ?_
                  rfl
                ·
                  refine app_p1 b_45 rfl (by intro u hu; simp only [List.mem_cons, List.not_mem_nil, or_false] at hu; rcases hu with rfl | rfl | rfl | rfl | rfl <;> rfl) fun s_49 pa2 pc2 c_50 => ?_
                  have z_51 := c_50.size
                  refine dSl_i ?_
                  refine nz_i ?_
                  have h_55 := b_41.ch (c_46.app c_50) (by simp)
                  refine st_t h_55 rfl (by simp) fun s240 b_52 c_53o z_54 => ?_
                  have c_53 := on_ch h_55 c_53o
                  refine nz_i ?_
                  refine ld_t b_52 rfl ?_
                  refine dInt_i ?_
                  refine ret_t ?_
                  exact ⟨rfl, (((((((((((((((Ch.refl [τ] s).ch c_3 (by simp)).ch c_7 (by simp)).fr c_12 hM (by simp)).ch c_17 (by simp)).fr c_21 hM (by simp)).fr c_24 hM (by simp)).fr c_27 hM (by simp)).fr c_30 hM (by simp)).fr c_33 hM (by simp)).ch c_38 (by simp)).ch c_42 (by simp)).ch c_46 (by simp)).ch c_50 (by simp)).ch c_53 (by simp))⟩
        ·
          refine al_t (M + 9) fun r244 s245 hr244 b_56 c_57 z_58 => ?_
          refine ⟨?_, ?_⟩
          ·
            have h_59 := h_5.ch (c_7.app c_57) (by simp)
            refine ld_t h_59 rfl ?_
            refine dInt_i ?_
            rfl
          ·
            have h_60 := b_6.ch c_57 (by simp)
            have h_61 := hx.mv ((c_3.app c_7).app c_57) (tagn (by simp))
            refine app_bv (xs := []) u85 in5 ((h_60).own0 1) h_61 hn (by omega) fun s_62 a1 c1 o_65 c_63 => ?_
            have z_64 := c_63.size
            refine dSl_i ?_
            refine ⟨?_, ?_⟩
            ·
              have h_66 := h_5.ch ((c_7.app c_57).app c_63) (by simp <;> omega)
              refine ld_t h_66 rfl ?_
              refine dInt_i ?_
              rfl
            ·
              have h_70 := b_56.ch c_63 (by simp)
              refine st_t h_70 rfl (by simp) fun s257 b_67 c_68o z_69 => ?_
              have c_68 := on_ch h_70 c_68o
              refine st_t b_67 rfl (by simp) fun s258 b_71 c_72o z_73 => ?_
              have c_72 := on_ch b_67 c_72o
              refine st_t b_71 rfl (by simp) fun s259 b_74 c_75o z_76 => ?_
              have c_75 := on_ch b_71 c_75o
              refine st_t b_74 rfl (by simp) fun s260 b_77 c_78o z_79 => ?_
              have c_78 := on_ch b_74 c_78o
              refine st_t b_77 rfl (by simp) fun s261 b_80 c_81o z_82 => ?_
              have c_81 := on_ch b_77 c_81o
              refine nz_i ?_
              have h_83 := h_5.ch (((((((c_7.app c_57).app c_63).app c_68).app c_72).app c_75).app c_78).app c_81) (by simp <;> omega)
              refine ld_t h_83 rfl ?_
              refine dSl_i ?_
              refine ⟨fun vs H' => ∃ s' : TH, s'.h = H' ∧ ∃ i, vs = [.int .i64 i] ∧ Ch [] s261 s' ∧ (i = 0), fun vs H' => match vs with | [.int .i64 i] => 0 | _ => 0, ⟨s261, rfl, _, rfl, Ch.refl _ _, ?_⟩, ?_⟩
              ·
                rfl
              ·
                intro i _ _ _ _ _ _ _ _ _ _ _ _ _ _ _ _ _ _ _ _ _ H_ hI_85
                obtain ⟨s_84, rfl, i_, hvs, c_86, rfl⟩ := hI_85
                cases hvs
                have z_87 := c_86.size
                refine sB_d (fun hsB8 => by exfalso; omega) (fun hsB8 => ?_)
                refine nz_i ?_
                have h_88 := h_83.ch c_86 (by simp)
                refine ld_t h_88 rfl ?_
                refine dInt_i ?_
                refine wr_t (by omega) ?_
                refine nz_i ?_
                refine st_t (r := yp) (i := 1) h_88 rfl (by simp) fun s383 b_89 c_90o z_91 => ?_
                have c_90 := on_ch h_88 c_90o
                refine nz_i ?_
                refine ld_t b_89 rfl ?_
                refine dSl_i ?_
                have h_92 := b_80.ch (c_86.app c_90) (by simp <;> omega)
                refine ld_t h_92 rfl ?_
                refine ld_t h_92 rfl ?_
                refine ld_t h_92 rfl ?_
                refine ld_t h_92 rfl ?_
                refine ld_t h_92 rfl ?_
                refine al_t (M + 9) fun r394 s395 hr394 b_93 c_94 z_95 => ?_
                refine ⟨?_, ?_⟩
                ·
                  have h_96 := b_89.ch c_94 (by simp)
                  refine ld_t h_96 rfl ?_
                  refine dSl_i ?_
                  rfl
                ·
                  refine app_p1 b_93 rfl (by intro u hu; simp only [List.mem_cons, List.not_mem_nil, or_false] at hu; rcases hu with rfl | rfl | rfl | rfl | rfl <;> rfl) fun s_97 pa2 pc2 c_98 => ?_
                  have z_99 := c_98.size
                  refine dSl_i ?_
                  refine nz_i ?_
                  have h_103 := b_89.ch (c_94.app c_98) (by simp)
                  refine st_t h_103 rfl (by simp) fun s408 b_100 c_101o z_102 => ?_
                  have c_101 := on_ch h_103 c_101o
                  refine nz_i ?_
                  refine ld_t b_100 rfl ?_
                  refine dInt_i ?_
                  refine ret_t ?_
                  exact ⟨rfl, (((((((((((((((Ch.refl [τ] s).ch c_3 (by simp)).ch c_7 (by simp)).ch c_57 (by simp)).fr c_63 hM (by simp)).fr c_68 hM (by simp)).fr c_72 hM (by simp)).fr c_75 hM (by simp)).fr c_78 hM (by simp)).fr c_81 hM (by simp)).ch c_86 (by simp)).ch c_90 (by simp)).ch c_94 (by simp)).ch c_98 (by simp)).ch c_101 (by simp))⟩
    ·
      refine al_t (M + 9) fun r412 s413 hr412 b_104 c_105 z_106 => ?_
      refine ⟨?_, ?_⟩
      ·
        have h_107 := h_5.ch c_105 (by simp)
        refine ld_t h_107 rfl ?_
        refine dInt_i ?_
        rfl
      ·
        refine al_t (M + 1) fun r416 s417 hr416 b_108 c_109 z_110 => ?_
        refine ⟨?_, ?_⟩
        ·
          have h_111 := h_5.ch (c_105.app c_109) (by simp)
          refine ld_t h_111 rfl ?_
          refine dInt_i ?_
          rfl
        ·
          have h_112 := hx.mv ((c_3.app c_105).app c_109) (tagn (by simp))
          refine app_bv (xs := []) u85 in5 ((b_108).own0 1) h_112 hn (by omega) fun s_113 a1 c1 o_116 c_114 => ?_
          have z_115 := c_114.size
          refine dSl_i ?_
          refine ⟨?_, ?_⟩
          ·
            have h_117 := h_5.ch ((c_105.app c_109).app c_114) (by simp <;> omega)
            refine ld_t h_117 rfl ?_
            refine dInt_i ?_
            rfl
          ·
            have h_121 := b_104.ch (c_109.app c_114) (by simp)
            refine st_t h_121 rfl (by simp) fun s429 b_118 c_119o z_120 => ?_
            have c_119 := on_ch h_121 c_119o
            refine st_t b_118 rfl (by simp) fun s430 b_122 c_123o z_124 => ?_
            have c_123 := on_ch b_118 c_123o
            refine st_t b_122 rfl (by simp) fun s431 b_125 c_126o z_127 => ?_
            have c_126 := on_ch b_122 c_126o
            refine st_t b_125 rfl (by simp) fun s432 b_128 c_129o z_130 => ?_
            have c_129 := on_ch b_125 c_129o
            refine st_t b_128 rfl (by simp) fun s433 b_131 c_132o z_133 => ?_
            have c_132 := on_ch b_128 c_132o
            refine nz_i ?_
            have h_134 := h_5.ch (((((((c_105.app c_109).app c_114).app c_119).app c_123).app c_126).app c_129).app c_132) (by simp <;> omega)
            refine ld_t h_134 rfl ?_
            refine dSl_i ?_
            refine ⟨fun vs H' => ∃ s' : TH, s'.h = H' ∧ ∃ i, vs = [.int .i64 i] ∧ Ch [] s433 s' ∧ (i = 0), fun vs H' => match vs with | [.int .i64 i] => 0 | _ => 0, ⟨s433, rfl, _, rfl, Ch.refl _ _, ?_⟩, ?_⟩
            ·
              rfl
            ·
              intro i _ _ _ _ _ _ _ _ _ _ _ _ _ _ _ _ _ _ _ _ _ H_ hI_136
              obtain ⟨s_135, rfl, i_, hvs, c_137, rfl⟩ := hI_136
              cases hvs
              have z_138 := c_137.size
              refine sB_d (fun hsB9 => by exfalso; omega) (fun hsB9 => ?_)
              refine nz_i ?_
              have h_139 := h_134.ch c_137 (by simp)
              refine ld_t h_139 rfl ?_
              refine dInt_i ?_
              refine wr_t (by omega) ?_
              refine nz_i ?_
              refine st_t (r := yp) (i := 1) h_139 rfl (by simp) fun s555 b_140 c_141o z_142 => ?_
              have c_141 := on_ch h_139 c_141o
              refine nz_i ?_
              refine ld_t b_140 rfl ?_
              refine dSl_i ?_
              have h_143 := b_131.ch (c_137.app c_141) (by simp <;> omega)
              refine ld_t h_143 rfl ?_
              refine ld_t h_143 rfl ?_
              refine ld_t h_143 rfl ?_
              refine ld_t h_143 rfl ?_
              refine ld_t h_143 rfl ?_
              refine al_t (M + 9) fun r566 s567 hr566 b_144 c_145 z_146 => ?_
              refine ⟨?_, ?_⟩
              ·
                have h_147 := b_140.ch c_145 (by simp)
                refine ld_t h_147 rfl ?_
                refine dSl_i ?_
                rfl
              ·
                refine app_p1 b_144 rfl (by intro u hu; simp only [List.mem_cons, List.not_mem_nil, or_false] at hu; rcases hu with rfl | rfl | rfl | rfl | rfl <;> rfl) fun s_148 pa2 pc2 c_149 => ?_
                have z_150 := c_149.size
                refine dSl_i ?_
                refine nz_i ?_
                have h_154 := b_140.ch (c_145.app c_149) (by simp)
                refine st_t h_154 rfl (by simp) fun s580 b_151 c_152o z_153 => ?_
                have c_152 := on_ch h_154 c_152o
                refine nz_i ?_
                refine ld_t b_151 rfl ?_
                refine dInt_i ?_
                refine ret_t ?_
                exact ⟨rfl, (((((((((((((((Ch.refl [τ] s).ch c_3 (by simp)).ch c_105 (by simp)).ch c_109 (by simp)).fr c_114 hM (by simp)).fr c_119 hM (by simp)).fr c_123 hM (by simp)).fr c_126 hM (by simp)).fr c_129 hM (by simp)).fr c_132 hM (by simp)).ch c_137 (by simp)).ch c_141 (by simp)).ch c_145 (by simp)).ch c_149 (by simp)).ch c_152 (by simp))⟩
/-- (*bollard/bollardref09.Volume).Change -/
theorem c_ychange (y n τ : Nat) (b off : Nat) {xa : Option Addr} {m : Nat} (xc : Nat) {l : List UInt8} {τx : Nat} (s : TH) (hy : YNew s y n τ) (hb : b < n) (hx : Sl s xa (bvs l) τx) (hn : l.length = m) (h0 : 1 ≤ m ∧ off + m ≤ 128) (hτ : τx ≠ τ) : TRet Tryz.prog 30 #[.pointer (some ⟨y, 0, none⟩), .int .i64 (b : Int), .int .i64 (off : Int), .slice xa m xc, .slice none 0 0] s fun v s' => v = .tuple #[.int .i64 1, .int .i64 0] ∧ Ch [τ] s s' := by
  obtain ⟨xd, yc, yp, da, dc, wa, hy1, hy2, hy3⟩ := id hy.h
  refine F30_calls _ _ _ _ _ _ _ _ _  ?_
  unfold F30
  refine tcall (c_yhas y n τ b _ hy hb) ?_
  rintro v_2 s_1 ⟨rfl, c_4⟩
  have z_5 := c_4.size
  refine dBl_i ?_
  refine sB_f (by rfl) ?_
  refine jn_u ?_
  refine nz_i ?_
  have h_6 := hy1.ch c_4 (by simp)
  refine ld_t h_6 rfl ?_
  refine dBl_i ?_
  refine sB_f (by rfl) ?_
  intro _
  intros
  refine dBl_i ?_
  refine jn_u ?_
  refine sB_f (by rfl) ?_
  intro _
  intros
  refine dSl_i ?_
  refine nz_i ?_
  refine ld_t h_6 rfl ?_
  refine dPtr_i ?_
  have h_7 := hy3.ch c_4 (by simp)
  have h_8 := hx.mv c_4 (tagn (by simp))
  refine tcall (c_yadd yp τ b off xc _ h_7 h_8 hn h0 hτ) ?_
  rintro v_10 s_9 ⟨rfl, c_12⟩
  have z_13 := c_12.size
  refine dT2 ?_
  refine dInt_i ?_
  refine dInt_i ?_
  refine sB_f (by rfl) ?_
  refine jn_u ?_
  refine jn_u ?_
  refine sB_f (by rfl) ?_
  intro _
  intros
  refine dBl_i ?_
  refine sB_f (by rfl) ?_
  refine sB_f (by rfl) ?_
  intro _
  intros
  refine ret_t ?_
  exact ⟨rfl, (((Ch.refl [τ] s).ch c_4 (by simp)).ch c_12 (by simp))⟩
/-- bollard/bollardref03.mayDinode -/
theorem c_rmayd0 (s : TH) : TRet Tryz.prog 80 #[.agg #[.int .i64 0, .int .i64 0, .int .i64 0, .int .i64 0, .int .i64 0, .int .i64 0, .int .i64 0, .int .i64 0, .int .i64 0]] s fun v s' => v = .bool true ∧ Ch [] s s' := by
  obtain ⟨M, hM, hM0, hMa, hMb, hMc, hMd, hMe, hMf⟩ := fresh6 s 0 0 0 0 0 0
  refine F80_calls _ _ _ _ _ _ _ _ _  ?_
  unfold F80
  refine al_t (M + 1) fun r1 s2 hr1 b_1 c_2 z_3 => ?_
  refine ld_t b_1 rfl ?_
  refine dInt_i ?_
  refine sB_t (by rfl) ?_
  refine ld_t b_1 rfl ?_
  refine ld_t b_1 rfl ?_
  refine ld_t b_1 rfl ?_
  refine ld_t b_1 rfl ?_
  refine ld_t b_1 rfl ?_
  refine ld_t b_1 rfl ?_
  refine ld_t b_1 rfl ?_
  refine ld_t b_1 rfl ?_
  refine ld_t b_1 rfl ?_
  refine eq_din ?_
  refine dBl_i ?_
  refine ret_t ?_
  exact ⟨rfl, ((Ch.refl [] s).ch c_2 (by simp))⟩
/-- bollard/bollardref03.EncodeDinode -/
theorem c_renc0 (τ : Nat) (s : TH) : TRet Tryz.prog 29 #[.agg #[.int .i64 0, .int .i64 0, .int .i64 0, .int .i64 0, .int .i64 0, .int .i64 0, .int .i64 0, .int .i64 0, .int .i64 0]] s fun v s' => ∃ a' c', v = .tuple #[.slice a' 32 c', .int .i64 0] ∧ Ch [] s s' ∧ Own s' a' 32 c' 5 1 (bvs (List.replicate 32 0)) τ := by
  obtain ⟨M, hM, hM0, hMa, hMb, hMc, hMd, hMe, hMf⟩ := fresh6 s τ 0 0 0 0 0
  refine F29_calls _ _ _ _ _ _ _ _ _  ?_
  unfold F29
  refine al_t (M + 1) fun r1 s2 hr1 b_1 c_2 z_3 => ?_
  refine ld_t b_1 rfl ?_
  refine ld_t b_1 rfl ?_
  refine ld_t b_1 rfl ?_
  refine ld_t b_1 rfl ?_
  refine ld_t b_1 rfl ?_
  refine ld_t b_1 rfl ?_
  refine ld_t b_1 rfl ?_
  refine ld_t b_1 rfl ?_
  refine ld_t b_1 rfl ?_
  refine tcall (c_rmayd0 _) ?_
  rintro v_5 s_4 ⟨rfl, c_7⟩
  have z_8 := c_7.size
  refine dBl_i ?_
  refine sB_f (by rfl) ?_
  refine ask_t (by omega) ?_
  refine al_t (M + 2) fun r15 s16 hr15 b_9 c_10 z_11 => ?_
  have ho0 : Own s16 (some ⟨r15, 0, none⟩) 32 32 5 1 (bvs (List.replicate 32 0)) (M + 2) := by
    have h := b_9
    rw [rowZ_by] at h
    exact h.own (n := 32) 1 (by rw [bvs_len, List.length_replicate]; rfl) (by unfold maxLen; omega)
  have h_12 := b_1.ch (c_7.app c_10) (by simp)
  refine ld_t h_12 rfl ?_
  refine dInt_i ?_
  refine sB_t (by rfl) ?_
  exact ret_t' (s' := remark s16 (M + 2) τ) rfl ⟨_, _, rfl, remark_ch ((((Ch.refl [] s).ch c_2 (by simp)).ch c_7 (by simp)).ch c_10 (by simp)) hM (by omega), (ho0).remark⟩
/-- bollard/bollardref03.address -/
theorem c_raddrI (n : Int) (s : TH) : TRet Tryz.prog 144 #[.int .i64 n] s fun v s' => v = .bool (decide (0 ≤ n ∧ n < 2048)) ∧ Ch [] s s' := by
  refine F144_calls _  ?_
  unfold F144
  refine sB_d (fun hsB1 => ?_) (fun hsB1 => ?_)
  ·
    refine ret_t ?_
    exact ⟨ret_b (by apply Bool.eq_iff_iff.2; simp only [decide_eq_true_eq]; omega), (Ch.refl [] s)⟩
  ·
    refine ret_t ?_
    exact ⟨ret_b (decide_eq_false (by omega)).symm, (Ch.refl [] s)⟩
/-- bollard/bollardref03.mayDinode -/
theorem c_rmaydN (a0 a1 a2 a3 a4 a5 a6 a7 a8 : Int) (s : TH) : TRet Tryz.prog 80 #[.agg #[.int .i64 a0, .int .i64 a1, .int .i64 a2, .int .i64 a3, .int .i64 a4, .int .i64 a5, .int .i64 a6, .int .i64 a7, .int .i64 a8]] s fun v s' => ∃ bb, v = .bool bb ∧ Ch [] s s' ∧ (bb = true → DinVI a0 a1 a2 a3 a4 a5 a6 a7 a8) := by
  obtain ⟨M, hM, hM0, hMa, hMb, hMc, hMd, hMe, hMf⟩ := fresh6 s 0 0 0 0 0 0
  refine F80_calls _ _ _ _ _ _ _ _ _  ?_
  unfold F80
  refine al_t (M + 1) fun r1 s2 hr1 b_1 c_2 z_3 => ?_
  refine ld_t b_1 rfl ?_
  refine dInt_i ?_
  refine sB_d (fun hsB1 => ?_) (fun hsB1 => ?_)
  ·
    refine ld_t b_1 rfl ?_
    refine ld_t b_1 rfl ?_
    refine ld_t b_1 rfl ?_
    refine ld_t b_1 rfl ?_
    refine ld_t b_1 rfl ?_
    refine ld_t b_1 rfl ?_
    refine ld_t b_1 rfl ?_
    refine ld_t b_1 rfl ?_
    refine ld_t b_1 rfl ?_
    refine eq_din ?_
    refine dBl_i ?_
    refine ret_t ?_
    exact ⟨_, rfl, ((Ch.refl [] s).ch c_2 (by simp)), fun h => .inl (by simp at h; omega)⟩
  ·
    refine jn1 (fun fv s' => Ch [] s2 s' ∧ (∃ fb, fv = .bool fb ∧ (fb = false → (a0 = 1 ∨ a0 = 2) ∧ (0 ≤ a1 ∧ a1 ≤ 1000) ∧ (0 ≤ a2 ∧ a2 ≤ 532992)))) ?_ ?_
    ·
      rintro fv s_4 ⟨c_5, fb, rfl, hfb⟩
      have z_6 := c_5.size
      intro _
      intros
      refine dBl_i ?_
      refine sB_i (fun hsB2 => ?_) (fun hsB2 => ?_)
      ·
        refine ret_t ?_
        exact ⟨false, rfl, (((Ch.refl [] s).ch c_2 (by simp)).ch c_5 (by simp)), fun h => (by cases h)⟩
      ·
        have h_7 := b_1.ch c_5 (by simp)
        refine ld_t h_7 rfl ?_
        refine ld_t h_7 rfl ?_
        refine ld_t h_7 rfl ?_
        refine ld_t h_7 rfl ?_
        refine ⟨fun vs H' => ∃ s' : TH, s'.h = H' ∧ ∃ i, vs = [.int .i64 i] ∧ Ch [] s_4 s' ∧ (∃ k : Nat, i = k ∧ k ≤ 4 ∧ ∀ j, j < k → 0 ≤ ([a3, a4, a5, a6].getD j 0) ∧ ([a3, a4, a5, a6].getD j 0) < 2048), fun vs H' => match vs with | [.int .i64 i] => (4 - i).toNat | _ => 0, ⟨s_4, rfl, _, rfl, Ch.refl _ _, ?_⟩, ?_⟩
        ·
          exact ⟨0, rfl, by omega, fun j hj => absurd hj (by omega)⟩
        ·
          intro i _ _ _ _ _ _ _ _ H_ hI_9
          obtain ⟨s_8, rfl, i_, hvs, c_10, k, rfl, hk, hal⟩ := hI_9
          cases hvs
          have z_11 := c_10.size
          refine sB_d (fun hsB3 => ?_) (fun hsB3 => ?_)
          ·
            refine ask_t (by omega) ?_
            refine oV_i (v := .int .i64 ([a3, a4, a5, a6].getD k 0)) (by rcases (by omega : k = 0 ∨ k = 1 ∨ k = 2 ∨ k = 3) with rfl | rfl | rfl | rfl <;> rfl) ?_
            refine dInt_i ?_
            refine tcall (c_raddrI ([a3, a4, a5, a6].getD k 0) _) ?_
            rintro v_13 s_12 ⟨rfl, c_15⟩
            have z_16 := c_15.size
            refine dBl_i ?_
            refine sB_nd (fun hsB4 => ?_) (fun hsB4 => ?_)
            ·
              refine ret_t ?_
              exact ⟨false, rfl, (((((Ch.refl [] s).ch c_2 (by simp)).ch c_5 (by simp)).ch c_10 (by simp)).ch c_15 (by simp)), fun h => (by cases h)⟩
            ·
              refine wr_t (by omega) ?_
              refine ⟨⟨s_12, rfl, _, rfl, (((Ch.refl [] s_4).ch c_10 (by simp)).ch c_15 (by simp)), ?_⟩, ?_⟩
              ·
                exact ⟨k + 1, by omega, by omega, fun j hj => by by_cases e : j = k; subst e; simp_all; exact hal j (by omega)⟩
              ·
                simp only []; omega
          ·
            have h_17 := h_7.ch c_10 (by simp)
            refine ld_t h_17 rfl ?_
            refine dInt_i ?_
            refine tcall (c_raddrI a7 _) ?_
            rintro v_19 s_18 ⟨rfl, c_21⟩
            have z_22 := c_21.size
            refine dBl_i ?_
            refine sB_d (fun hsB5 => ?_) (fun hsB5 => ?_)
            ·
              have h_23 := h_17.ch c_21 (by simp)
              refine ld_t h_23 rfl ?_
              refine dInt_i ?_
              refine tcall (c_raddrI a8 _) ?_
              rintro v_25 s_24 ⟨rfl, c_27⟩
              have z_28 := c_27.size
              refine dBl_i ?_
              refine sB_d (fun hsB6 => ?_) (fun hsB6 => ?_)
              ·
                have h_29 := h_23.ch c_27 (by simp)
                refine ld_t h_29 rfl ?_
                refine dInt_i ?_
                refine sB_nd (fun hsB7 => ?_) (fun hsB7 => ?_)
                ·
                  refine ret_t ?_
                  obtain rfl : k = 4 := by omega
                  have g0 := hal 0 (by omega)
                  have g1 := hal 1 (by omega)
                  have g2 := hal 2 (by omega)
                  have g3 := hal 3 (by omega)
                  simp only [List.getD_cons_zero, List.getD_cons_succ] at g0 g1 g2 g3
                  have hf := hfb hsB2
                  exact ⟨_, rfl, ((((((Ch.refl [] s).ch c_2 (by simp)).ch c_5 (by simp)).ch c_10 (by simp)).ch c_21 (by simp)).ch c_27 (by simp)), fun h => .inr ⟨hf.1, hf.2.1, hf.2.2, g0, g1, g2, g3, hsB5, hsB6, fun e => absurd e (by omega)⟩⟩
                ·
                  refine ld_t h_29 rfl ?_
                  refine dInt_i ?_
                  refine ask_t (by omega) ?_
                  refine nm_a fun nz hnz => ?_
                  refine ret_t ?_
                  obtain rfl : k = 4 := by omega
                  have g0 := hal 0 (by omega)
                  have g1 := hal 1 (by omega)
                  have g2 := hal 2 (by omega)
                  have g3 := hal 3 (by omega)
                  simp only [List.getD_cons_zero, List.getD_cons_succ] at g0 g1 g2 g3
                  have hf := hfb hsB2
                  rw [Int.tmod_eq_emod_of_nonneg (by omega)] at hnz
                  exact ⟨_, rfl, ((((((Ch.refl [] s).ch c_2 (by simp)).ch c_5 (by simp)).ch c_10 (by simp)).ch c_21 (by simp)).ch c_27 (by simp)), fun h => .inr ⟨hf.1, hf.2.1, hf.2.2, g0, g1, g2, g3, hsB5, hsB6, fun e => by have h2 := eq_of_beq h; omega⟩⟩
              ·
                refine ret_t ?_
                exact ⟨false, rfl, ((((((Ch.refl [] s).ch c_2 (by simp)).ch c_5 (by simp)).ch c_10 (by simp)).ch c_21 (by simp)).ch c_27 (by simp)), fun h => (by cases h)⟩
            ·
              refine ret_t ?_
              exact ⟨false, rfl, (((((Ch.refl [] s).ch c_2 (by simp)).ch c_5 (by simp)).ch c_10 (by simp)).ch c_21 (by simp)), fun h => (by cases h)⟩
    ·
      intro K_30 hK_30
      refine ld_t b_1 rfl ?_
      refine dInt_i ?_
      refine sB_nd (fun hsB8 => ?_) (fun hsB8 => ?_)
      ·
        refine ld_t b_1 rfl ?_
        refine dInt_i ?_
        refine sB_nd (fun hsB9 => ?_) (fun hsB9 => ?_)
        ·
          refine hK_30 _ _ ⟨(Ch.refl [] s2), ?_⟩
          exact ⟨true, rfl, fun h => (by cases h)⟩
        ·
          refine ld_t b_1 rfl ?_
          refine dInt_i ?_
          refine sB_d (fun hsB10 => ?_) (fun hsB10 => ?_)
          ·
            refine hK_30 _ _ ⟨(Ch.refl [] s2), ?_⟩
            exact ⟨true, rfl, fun h => (by cases h)⟩
          ·
            refine ld_t b_1 rfl ?_
            refine dInt_i ?_
            refine sB_d (fun hsB11 => ?_) (fun hsB11 => ?_)
            ·
              refine hK_30 _ _ ⟨(Ch.refl [] s2), ?_⟩
              exact ⟨true, rfl, fun h => (by cases h)⟩
            ·
              refine ld_t b_1 rfl ?_
              refine dInt_i ?_
              refine sB_d (fun hsB12 => ?_) (fun hsB12 => ?_)
              ·
                refine hK_30 _ _ ⟨(Ch.refl [] s2), ?_⟩
                exact ⟨true, rfl, fun h => (by cases h)⟩
              ·
                refine ld_t b_1 rfl ?_
                refine dInt_i ?_
                refine hK_30 _ _ ⟨(Ch.refl [] s2), ?_⟩
                exact ⟨_, rfl, fun h => by have h2 := of_decide_eq_false h; omega⟩
      ·
        refine ld_t b_1 rfl ?_
        refine dInt_i ?_
        refine sB_d (fun hsB13 => ?_) (fun hsB13 => ?_)
        ·
          refine hK_30 _ _ ⟨(Ch.refl [] s2), ?_⟩
          exact ⟨true, rfl, fun h => (by cases h)⟩
        ·
          refine ld_t b_1 rfl ?_
          refine dInt_i ?_
          refine sB_d (fun hsB14 => ?_) (fun hsB14 => ?_)
          ·
            refine hK_30 _ _ ⟨(Ch.refl [] s2), ?_⟩
            exact ⟨true, rfl, fun h => (by cases h)⟩
          ·
            refine ld_t b_1 rfl ?_
            refine dInt_i ?_
            refine sB_d (fun hsB15 => ?_) (fun hsB15 => ?_)
            ·
              refine hK_30 _ _ ⟨(Ch.refl [] s2), ?_⟩
              exact ⟨true, rfl, fun h => (by cases h)⟩
            ·
              refine ld_t b_1 rfl ?_
              refine dInt_i ?_
              refine hK_30 _ _ ⟨(Ch.refl [] s2), ?_⟩
              exact ⟨_, rfl, fun h => by have h2 := of_decide_eq_false h; omega⟩
/-- bollard/bollardref03.EncodeDinode -/
theorem c_rencN (a0 a1 a2 a3 a4 a5 a6 a7 a8 : Int) (s : TH) (hv : ¬ DinVI a0 a1 a2 a3 a4 a5 a6 a7 a8) : TRet Tryz.prog 29 #[.agg #[.int .i64 a0, .int .i64 a1, .int .i64 a2, .int .i64 a3, .int .i64 a4, .int .i64 a5, .int .i64 a6, .int .i64 a7, .int .i64 a8]] s fun v s' => v = .tuple #[.slice none 0 0, .int .i64 1] ∧ Ch [] s s' := by
  obtain ⟨M, hM, hM0, hMa, hMb, hMc, hMd, hMe, hMf⟩ := fresh6 s 0 0 0 0 0 0
  refine F29_calls _ _ _ _ _ _ _ _ _  ?_
  unfold F29
  refine al_t (M + 1) fun r1 s2 hr1 b_1 c_2 z_3 => ?_
  refine ld_t b_1 rfl ?_
  refine ld_t b_1 rfl ?_
  refine ld_t b_1 rfl ?_
  refine ld_t b_1 rfl ?_
  refine ld_t b_1 rfl ?_
  refine ld_t b_1 rfl ?_
  refine ld_t b_1 rfl ?_
  refine ld_t b_1 rfl ?_
  refine ld_t b_1 rfl ?_
  refine tcall (c_rmaydN a0 a1 a2 a3 a4 a5 a6 a7 a8 _) ?_
  rintro v_5 s_4 ⟨bbcall1, rfl, c_7, call1a⟩
  have z_8 := c_7.size
  obtain rfl : bbcall1 = false := by
    cases bbcall1
    · rfl
    · exact absurd (call1a rfl) hv
  refine dBl_i ?_
  refine sB_t (by rfl) ?_
  refine ret_t ?_
  exact ⟨rfl, (((Ch.refl [] s).ch c_2 (by simp)).ch c_7 (by simp))⟩
def fcI (f : Int × Int × Int) : List Value := [.int .i64 f.1, .int .i64 f.2.1, .int .i64 f.2.2]
theorem fcI_len (f : Int × Int × Int) : (fcI f).length = 3 := rfl
theorem fcellI (n : Nat) (hn : n < 3) {ls : List (Int × Int × Int)} {k : Nat} {x : Int × Int × Int} (h : ls[k]? = some x) : (ls.flatMap fcI)[k * 3 + n]? = (fcI x)[n]? := fm_get fcI_len ls k n x h hn
def dinFI (a0 a1 a2 a3 a4 a5 a6 a7 a8 : Int) (k : Nat) : List (Int × Int × Int) := [(1, 2, a0), (1, 0, 0), (2, 1000, a1), (4, 532992, a2)] ++ ([(2, 2047, a3), (2, 2047, a4), (2, 2047, a5), (2, 2047, a6)] : List (Int × Int × Int)).take k
def dinGI (a0 a1 a2 a3 a4 a5 a6 a7 a8 : Int) : List (Int × Int × Int) := [(1, 2, a0), (1, 0, 0), (2, 1000, a1), (4, 532992, a2), (2, 2047, a3), (2, 2047, a4), (2, 2047, a5), (2, 2047, a6), (2, 2047, a7), (2, 2047, a8)]
theorem dinGI_v {a0 a1 a2 a3 a4 a5 a6 a7 a8 : Int} (h1 : (a0 = 0 ∧ a1 = 0 ∧ a2 = 0 ∧ a3 = 0 ∧ a4 = 0 ∧ a5 = 0 ∧ a6 = 0 ∧ a7 = 0 ∧ a8 = 0) ∨ a0 = 1 ∨ (a0 = 2 ∧ Int.tmod a2 128 = 0)) (h2 : ∀ f ∈ dinGI a0 a1 a2 a3 a4 a5 a6 a7 a8, 0 ≤ f.2.2 ∧ f.2.2 ≤ f.2.1) : DinVI a0 a1 a2 a3 a4 a5 a6 a7 a8 := by
  have g1 := h2 (2, 1000, a1) (by simp [dinGI])
  have g2 := h2 (4, 532992, a2) (by simp [dinGI])
  have g3 := h2 (2, 2047, a3) (by simp [dinGI])
  have g4 := h2 (2, 2047, a4) (by simp [dinGI])
  have g5 := h2 (2, 2047, a5) (by simp [dinGI])
  have g6 := h2 (2, 2047, a6) (by simp [dinGI])
  have g7 := h2 (2, 2047, a7) (by simp [dinGI])
  have g8 := h2 (2, 2047, a8) (by simp [dinGI])
  simp only at g1 g2 g3 g4 g5 g6 g7 g8
  rcases h1 with h | h | h
  · exact .inl h
  · exact .inr ⟨.inl h, g1, g2, by omega, by omega, by omega, by omega, by omega, by omega, fun e => by omega⟩
  · have h3 := h.2
    rw [Int.tmod_eq_emod_of_nonneg (by omega)] at h3
    exact .inr ⟨.inr h.1, g1, g2, by omega, by omega, by omega, by omega, by omega, by omega, fun _ => h3⟩
theorem dinFI_s (a0 a1 a2 a3 a4 a5 a6 a7 a8 : Int) {k : Nat} (hk : k < 4) : (dinFI a0 a1 a2 a3 a4 a5 a6 a7 a8 (k + 1)).flatMap fcI = (dinFI a0 a1 a2 a3 a4 a5 a6 a7 a8 k).flatMap fcI ++ fcI (2, 2047, [a3, a4, a5, a6].getD k 0) := by
  rcases (by omega : k = 0 ∨ k = 1 ∨ k = 2 ∨ k = 3) with rfl | rfl | rfl | rfl <;> rfl
/-- bollard/layout.mayDinode -/
theorem c_lmaydN (a0 a1 a2 a3 a4 a5 a6 a7 a8 : Int) (s : TH) : TRet Tryz.prog 70 #[.agg #[.int .i64 a0, .int .i64 a1, .int .i64 a2, .int .i64 a3, .int .i64 a4, .int .i64 a5, .int .i64 a6, .int .i64 a7, .int .i64 a8]] s fun v s' => ∃ bb, v = .bool bb ∧ Ch [] s s' ∧ (bb = true → (a0 = 0 ∧ a1 = 0 ∧ a2 = 0 ∧ a3 = 0 ∧ a4 = 0 ∧ a5 = 0 ∧ a6 = 0 ∧ a7 = 0 ∧ a8 = 0) ∨ a0 = 1 ∨ (a0 = 2 ∧ Int.tmod a2 128 = 0)) := by
  obtain ⟨M, hM, hM0, hMa, hMb, hMc, hMd, hMe, hMf⟩ := fresh6 s 0 0 0 0 0 0
  refine F70_calls _ _ _ _ _ _ _ _ _  ?_
  unfold F70
  refine al_t (M + 1) fun r1 s2 hr1 b_1 c_2 z_3 => ?_
  refine ld_t b_1 rfl ?_
  refine dInt_i ?_
  refine sB_d (fun hsB1 => ?_) (fun hsB1 => ?_)
  ·
    refine ld_t b_1 rfl ?_
    refine ld_t b_1 rfl ?_
    refine ld_t b_1 rfl ?_
    refine ld_t b_1 rfl ?_
    refine ld_t b_1 rfl ?_
    refine ld_t b_1 rfl ?_
    refine ld_t b_1 rfl ?_
    refine ld_t b_1 rfl ?_
    refine ld_t b_1 rfl ?_
    refine eq_din ?_
    refine dBl_i ?_
    refine ret_t ?_
    exact ⟨_, rfl, ((Ch.refl [] s).ch c_2 (by simp)), fun h => .inl (by simp at h; omega)⟩
  ·
    refine sB_d (fun hsB2 => ?_) (fun hsB2 => ?_)
    ·
      refine ret_t ?_
      exact ⟨true, rfl, ((Ch.refl [] s).ch c_2 (by simp)), fun h => .inr (.inl (by omega))⟩
    ·
      refine sB_d (fun hsB3 => ?_) (fun hsB3 => ?_)
      ·
        refine ld_t b_1 rfl ?_
        refine dInt_i ?_
        refine ask_t (by omega) ?_
        refine nm_a fun nz hnz => ?_
        refine ret_t ?_
        exact ⟨_, rfl, ((Ch.refl [] s).ch c_2 (by simp)), fun h => .inr (.inr ⟨by omega, by have h2 := eq_of_beq h; omega⟩)⟩
      ·
        refine ret_t ?_
        exact ⟨false, rfl, ((Ch.refl [] s).ch c_2 (by simp)), fun h => (by cases h)⟩
/-- bollard/layout.fit -/
theorem c_lfitI {fa : Option Addr} {fn : Nat} (fk : Nat) {fs : List (Int × Int × Int)} {τf : Nat} (s : TH) (hf : Sl s fa (fs.flatMap fcI) τf) (hfn : fs.length = fn) (hf0 : fa = none → fn = 0) (hfb : fn ≤ 1000) : TRet Tryz.prog 71 #[.slice fa fn fk] s fun v s' => ∃ bb, v = .bool bb ∧ Ch [] s s' ∧ (bb = true → ∀ f ∈ fs, 0 ≤ f.2.2 ∧ f.2.2 ≤ f.2.1) := by
  obtain ⟨M, hM, hM0, hMa, hMb, hMc, hMd, hMe, hMf⟩ := fresh6 s τf 0 0 0 0 0
  refine F71_calls _ _ _  ?_
  unfold F71
  refine ⟨fun vs H' => ∃ s' : TH, s'.h = H' ∧ ∃ i, vs = [.int .i64 i] ∧ Ch [M + 9] s s' ∧ (∃ k : Nat, i = k ∧ k ≤ fn ∧ ∀ f ∈ fs.take k, 0 ≤ f.2.2 ∧ f.2.2 ≤ f.2.1), fun vs H' => match vs with | [.int .i64 i] => ((fn : Int) - i).toNat | _ => 0, ⟨s, rfl, _, rfl, Ch.refl _ _, ?_⟩, ?_⟩
  ·
    exact ⟨0, rfl, by omega, fun f hf => by simp at hf⟩
  ·
    intro i _ _ _ _ _ _ _ _ _ _ _ _ _ _ _ _ H_ hI_2
    obtain ⟨s_1, rfl, i_, hvs, c_3, k, rfl, hk, hall⟩ := hI_2
    cases hvs
    have z_4 := c_3.size
    refine sB_d (fun hsB1 => ?_) (fun hsB1 => ?_)
    ·
      obtain ⟨f, hxe⟩ : ∃ f, fs[k]? = some f := ⟨fs[k]'(by omega), by simp⟩
      obtain ⟨a, rfl⟩ := Option.ne_none_iff_exists'.1 (fun e => absurd (hf0 e) (by omega))
      refine nz_i ?_
      refine ask_t (by omega) ?_
      have h_5 := hf.mv c_3 (tagn (by simp <;> omega))
      refine ld_sl h_5 (by rw [Int.toNat_natCast]; exact fcellI 0 (by decide) hxe) ?_
      refine ld_sl2 h_5 (by rw [Int.toNat_natCast]; exact fcellI 1 (by decide) hxe) ?_
      refine ld_sl2 h_5 (by rw [Int.toNat_natCast]; exact fcellI 2 (by decide) hxe) ?_
      refine al_t (M + 9) fun r26 s27 hr26 b_6 c_7 z_8 => ?_
      refine st_t b_6 rfl (by simp) fun s28 b_9 c_10o z_11 => ?_
      have c_10 := on_ch b_6 c_10o
      refine st_t b_9 rfl (by simp) fun s29 b_12 c_13o z_14 => ?_
      have c_13 := on_ch b_9 c_13o
      refine st_t b_12 rfl (by simp) fun s30 b_15 c_16o z_17 => ?_
      have c_16 := on_ch b_12 c_16o
      refine jn_u ?_
      refine ld_t b_15 rfl ?_
      refine dInt_i ?_
      refine sB_d (fun hsB2 => ?_) (fun hsB2 => ?_)
      ·
        intro _
        intros
        refine dBl_i ?_
        refine sB_t (by rfl) ?_
        refine ret_t ?_
        exact ⟨false, rfl, ((((((Ch.refl [] s).fr c_3 hM (by simp)).ch c_7 (by simp)).fr c_10 hM (by simp)).fr c_13 hM (by simp)).fr c_16 hM (by simp)), fun h => (by cases h)⟩
      ·
        refine ld_t b_15 rfl ?_
        refine dInt_i ?_
        refine ld_t b_15 rfl ?_
        refine dInt_i ?_
        intro _
        intros
        refine dBl_i ?_
        refine sB_d (fun hsB4 => ?_) (fun hsB4 => ?_)
        ·
          refine ret_t ?_
          exact ⟨false, rfl, ((((((Ch.refl [] s).fr c_3 hM (by simp)).ch c_7 (by simp)).fr c_10 hM (by simp)).fr c_13 hM (by simp)).fr c_16 hM (by simp)), fun h => (by cases h)⟩
        ·
          refine wr_t (by omega) ?_
          refine ⟨⟨s30, rfl, _, rfl, ((((((Ch.refl [M + 9] s).ch c_3 (by simp)).ch c_7 (by simp)).ch c_10 (by simp)).ch c_13 (by simp)).ch c_16 (by simp)), ?_⟩, ?_⟩
          ·
            exact ⟨k + 1, by omega, by omega, fun g hg => by
              rw [List.take_add_one, hxe] at hg
              rcases List.mem_append.1 hg with hg | hg
              · exact hall g hg
              · simp at hg; subst hg; omega⟩
          ·
            simp only []; omega
    ·
      refine ret_t ?_
      exact ⟨true, rfl, ((Ch.refl [] s).fr c_3 hM (by simp)), fun _ => by rw [List.take_of_length_le (by omega)] at hall; exact hall⟩
/-- bollard/layout.EncodeDinode -/
theorem c_lencDinN (a0 a1 a2 a3 a4 a5 a6 a7 a8 : Int) (s : TH) (hv : ¬ DinVI a0 a1 a2 a3 a4 a5 a6 a7 a8) : TRet Tryz.prog 25 #[.agg #[.int .i64 a0, .int .i64 a1, .int .i64 a2, .int .i64 a3, .int .i64 a4, .int .i64 a5, .int .i64 a6, .int .i64 a7, .int .i64 a8]] s fun v s' => v = .tuple #[.slice none 0 0, .int .i64 1] ∧ Ch [] s s' := by
  obtain ⟨M, hM, hM0, hMa, hMb, hMc, hMd, hMe, hMf⟩ := fresh6 s 0 0 0 0 0 0
  refine F25_calls _ _ _ _ _ _ _ _ _  ?_
  unfold F25
  refine al_t (M + 1) fun r1 s2 hr1 b_1 c_2 z_3 => ?_
  refine ld_t b_1 rfl ?_
  refine dInt_i ?_
  refine ld_t b_1 rfl ?_
  refine dInt_i ?_
  refine ld_t b_1 rfl ?_
  refine dInt_i ?_
  refine al_t (M + 2) fun r9 s10 hr9 b_4 c_5 z_6 => ?_
  have hf0 : Own s10 (some ⟨r9, 0, none⟩) 4 4 147 3 ((dinFI a0 a1 a2 a3 a4 a5 a6 a7 a8 0).flatMap fcI) (M + 2) := (b_4).own (n := 4) 3 rfl (by unfold maxLen; omega)
  have h_7 := b_1.ch c_5 (by simp)
  refine ld_t h_7 rfl ?_
  refine ld_t h_7 rfl ?_
  refine ld_t h_7 rfl ?_
  refine ld_t h_7 rfl ?_
  refine ⟨fun vs H' => ∃ s' : TH, s'.h = H' ∧ ∃ pa pn pc i, vs = [.slice pa pn pc, .int .i64 i] ∧ Ch [M + 2] s10 s' ∧ (∃ k : Nat, i = k ∧ k ≤ 4 ∧ pn = 4 + k ∧ Own s' pa pn pc 147 3 ((dinFI a0 a1 a2 a3 a4 a5 a6 a7 a8 k).flatMap fcI) (M + 2)), fun vs H' => match vs with | [.slice pa pn pc, .int .i64 i] => (4 - i).toNat | _ => 0, ⟨s10, rfl, _, _, _, _, rfl, Ch.refl _ _, ?_⟩, ?_⟩
  ·
    exact ⟨0, rfl, by omega, rfl, hf0⟩
  ·
    intro pa pn pc i _ _ _ _ _ _ _ _ _ H_ hI_9
    obtain ⟨s_8, rfl, pa_, pn_, pc_, i_, hvs, c_10, k, rfl, hk, rfl, ho⟩ := hI_9
    cases hvs
    have z_11 := c_10.size
    refine sB_d (fun hsB1 => ?_) (fun hsB1 => ?_)
    ·
      refine ask_t (by omega) ?_
      refine oV_i (v := .int .i64 ([a3, a4, a5, a6].getD k 0)) (by rcases (by omega : k = 0 ∨ k = 1 ∨ k = 2 ∨ k = 3) with rfl | rfl | rfl | rfl <;> rfl) ?_
      refine dInt_i ?_
      refine al_t (M + 9) fun r34 s35 hr34 b_12 c_13 z_14 => ?_
      have h_15 := ho.mv c_13 (tagn (by simp))
      refine app_i u148 in147 rfl h_15 (b_12).sl (m := 1) (k := 3) rfl (by intro u hu; simp only [List.mem_cons, List.not_mem_nil, or_false] at hu; rcases hu with rfl | rfl | rfl <;> rfl) (by simp) (by unfold maxLen; omega) fun s_16 pa2 pc2 o_19 c_17o _ => ?_
      have c_17 := c_17o.ch h_15 (T := [M + 2]) (by simp)
      have z_18 := c_17.size
      refine dSl_i ?_
      refine wr_t (by omega) ?_
      refine ⟨⟨s_16, rfl, _, _, _, _, rfl, ((((Ch.refl [M + 2] s10).ch c_10 (by simp)).ch c_13 (by simp)).ch c_17 (by simp)), ?_⟩, ?_⟩
      ·
        exact ⟨k + 1, by omega, by omega, by omega, by rw [dinFI_s _ _ _ _ _ _ _ _ _ (by omega)]; exact o_19⟩
      ·
        simp only []; omega
    ·
      have h_20 := h_7.ch c_10 (by simp)
      refine ld_t h_20 rfl ?_
      refine dInt_i ?_
      refine ld_t h_20 rfl ?_
      refine dInt_i ?_
      refine al_t (M + 9) fun r48 s49 hr48 b_21 c_22 z_23 => ?_
      have h_24 := ho.mv c_22 (tagn (by simp))
      refine app_i u148 in147 rfl h_24 (b_21).sl (m := 2) (k := 3) rfl (by intro u hu; simp only [List.mem_cons, List.not_mem_nil, or_false] at hu; rcases hu with rfl | rfl | rfl | rfl | rfl | rfl <;> rfl) (by simp) (by unfold maxLen; omega) fun s_25 pa2 pc2 o_28 c_26o _ => ?_
      have c_26 := c_26o.ch h_24 (T := [M + 2]) (by simp)
      have z_27 := c_26.size
      obtain rfl : k = 4 := by omega
      have hG : Own s_25 pa2 (4 + 4 + 2) pc2 147 3 ((dinGI a0 a1 a2 a3 a4 a5 a6 a7 a8).flatMap fcI) (M + 2) := o_28
      refine dSl_i ?_
      refine jn1 (fun fv s' => Ch [] s_25 s' ∧ (fv = .bool true)) ?_ ?_
      ·
        rintro fv s_29 ⟨c_30, rfl⟩
        have z_31 := c_30.size
        intro _
        intros
        refine dBl_i ?_
        refine sB_t (by rfl) ?_
        refine ret_t ?_
        exact ⟨rfl, (((((((Ch.refl [] s).ch c_2 (by simp)).ch c_5 (by simp)).fr c_10 hM (by simp)).ch c_22 (by simp)).fr c_26 hM (by simp)).ch c_30 (by simp))⟩
      ·
        intro K_32 hK_32
        have h_33 := h_20.ch (c_22.app c_26) (by simp)
        refine ld_t h_33 rfl ?_
        refine ld_t h_33 rfl ?_
        refine ld_t h_33 rfl ?_
        refine ld_t h_33 rfl ?_
        refine ld_t h_33 rfl ?_
        refine ld_t h_33 rfl ?_
        refine ld_t h_33 rfl ?_
        refine ld_t h_33 rfl ?_
        refine ld_t h_33 rfl ?_
        refine tcall (c_lmaydN a0 a1 a2 a3 a4 a5 a6 a7 a8 _) ?_
        rintro v_35 s_34 ⟨bm, rfl, c_37, call1a⟩
        have z_38 := c_37.size
        skip
        refine dBl_i ?_
        refine sB_n (fun hsB3 => ?_) (fun hsB3 => ?_)
        ·
          refine hK_32 _ _ ⟨((Ch.refl [] s_25).ch c_37 (by simp)), ?_⟩
          exact rfl
        ·
          have h_39 := hG.mv c_37 (tagn (by simp))
          refine tcall (c_lfitI _ _ (h_39).sl rfl (fun h => absurd ((h_39).none_iff h) (by omega)) (by omega)) ?_
          rintro v_41 s_40 ⟨bf, rfl, c_43, call2a⟩
          have z_44 := c_43.size
          refine dBl_i ?_
          refine hK_32 _ _ ⟨(((Ch.refl [] s_25).ch c_37 (by simp)).ch c_43 (by simp)), ?_⟩
          obtain rfl : bf = false := by
            cases bf
            · rfl
            · exact absurd (dinGI_v (call1a hsB3) (call2a rfl)) hv
          exact rfl
theorem c_rencB (τ m l z d0 d1 d2 d3 e1 e2 : Nat) (s : TH) (hτ : τ ≠ 0) (hD : DinM.ok ⟨m, l, z, d0, d1, d2, d3, e1, e2⟩) : TRet Tryz.prog 29 #[.agg #[.int .i64 (m : Int), .int .i64 (l : Int), .int .i64 (z : Int), .int .i64 (d0 : Int), .int .i64 (d1 : Int), .int .i64 (d2 : Int), .int .i64 (d3 : Int), .int .i64 (e1 : Int), .int .i64 (e2 : Int)]] s (fun v s' => ∃ a' c', v = .tuple #[.slice a' 32 c', .int .i64 0] ∧ Ch [τ] s s' ∧ Own s' a' 32 c' 5 1 (bvs (dinB ⟨m, l, z, d0, d1, d2, d3, e1, e2⟩)) τ) := by
  rcases hD with hD | hD
  · injection hD with e0 e1 e2 e3 e4 e5 e6 e7 e8
    subst e0 e1 e2 e3 e4 e5 e6 e7 e8
    exact (c_renc0 τ s).mono fun v s' ⟨a, c, h1, h2, h3⟩ => ⟨a, c, h1, h2.mono (by simp), h3⟩
  · rw [dinB_ok hD]
    exact c_encDin τ m l z d0 d1 d2 d3 e1 e2 hτ hD
theorem dinVI_nat {a0 a1 a2 a3 a4 a5 a6 a7 a8 : Int} (h : DinVI a0 a1 a2 a3 a4 a5 a6 a7 a8) : ∃ m l z d0 d1 d2 d3 e1 e2 : Nat, a0 = m ∧ a1 = l ∧ a2 = z ∧ a3 = d0 ∧ a4 = d1 ∧ a5 = d2 ∧ a6 = d3 ∧ a7 = e1 ∧ a8 = e2 ∧ DinM.ok ⟨m, l, z, d0, d1, d2, d3, e1, e2⟩ := by
  unfold DinVI at h
  have hp : 0 ≤ a0 ∧ 0 ≤ a1 ∧ 0 ≤ a2 ∧ 0 ≤ a3 ∧ 0 ≤ a4 ∧ 0 ≤ a5 ∧ 0 ≤ a6 ∧ 0 ≤ a7 ∧ 0 ≤ a8 := by omega
  obtain ⟨q0, q1, q2, q3, q4, q5, q6, q7, q8⟩ := hp
  refine ⟨a0.toNat, a1.toNat, a2.toNat, a3.toNat, a4.toNat, a5.toNat, a6.toNat, a7.toNat, a8.toNat, by omega, by omega, by omega, by omega, by omega, by omega, by omega, by omega, by omega, ?_⟩
  rcases h with h | h
  · obtain ⟨rfl, rfl, rfl, rfl, rfl, rfl, rfl, rfl, rfl⟩ := h
    exact .inl rfl
  · refine .inr ?_
    show DinOk a0.toNat a1.toNat a2.toNat a3.toNat a4.toNat a5.toNat a6.toNat a7.toNat a8.toNat
    unfold DinOk
    have hL := h.2.2.2.2.2.2.2.2.2
    exact ⟨by omega, by omega, by omega, by omega, by omega, by omega, by omega, by omega, by omega, fun e => by have := hL (by omega); omega⟩
/-- bollard/inode.Put -/
theorem c_iputN (vp d U : Nat) (V : VolM) (G B N : Nat) (i : Nat) (a0 a1 a2 a3 a4 a5 a6 a7 a8 : Int) (s : TH) (hv : VolL s vp d U V 0) (hU : 10 ≤ U) (hg : GeoOk G B N) (hl : V.D.blocks.length = G * B) (hvn : V.n < 1000000000000) (hi : i < G * N) (hD : ¬ DinVI a0 a1 a2 a3 a4 a5 a6 a7 a8) : TRet Tryz.prog 9 #[.pointer (some ⟨vp, 0, none⟩), .agg #[.int .i64 (G : Int), .int .i64 (B : Int), .int .i64 (N : Int)], .int .i64 (i : Int), .agg #[.int .i64 a0, .int .i64 a1, .int .i64 a2, .int .i64 a3, .int .i64 a4, .int .i64 a5, .int .i64 a6, .int .i64 a7, .int .i64 a8], .slice none 0 0] s fun v s' => v = .tuple #[.int .i64 0, .int .i64 1] ∧ Ch [U] s s' ∧ VolL s' vp d U V 0 := by
  have hcan := hg.can
  have hg2 := hg
  unfold GeoOk at hg2
  have hgb := hg.gb
  have hgbI : (G : Int) * (B : Int) = ((G * B : Nat) : Int) := (Int.natCast_mul G B).symm
  have hgnI : (G : Int) * (N : Int) = ((G * N : Nat) : Int) := (Int.natCast_mul G N).symm
  obtain ⟨M, hM, hM0, hMa, hMb, hMc, hMd, hMe, hMf⟩ := fresh6 s (U + 50) 0 0 0 0 0
  refine F9_calls _ _ _ _ _ _ _ _ _ _ _ _ _ _ _ _ _  ?_
  unfold F9
  refine al_t (M + 1) fun r1 s2 hr1 b_1 c_2 z_3 => ?_
  refine al_t (M + 2) fun r3 s4 hr3 b_4 c_5 z_6 => ?_
  have h_7 := b_1.ch c_5 (by simp)
  refine ld_t h_7 rfl ?_
  refine ld_t h_7 rfl ?_
  refine ld_t h_7 rfl ?_
  have h_8 := hv.mv (c_2.app c_5) (rngn50 (by simp))
  refine tcall (c_iplace vp d U V G B N i _ h_8 hU hg hl hvn hi) ?_
  rintro v_10 s_9 ⟨rfl, c_12, call1a⟩
  have z_13 := c_12.size
  refine dT3 ?_
  refine dInt_i ?_
  refine dInt_i ?_
  refine dInt_i ?_
  refine sB_f (by rfl) ?_
  have h_14 := b_4.ch c_12 (by simp <;> omega)
  refine ld_t h_14 rfl ?_
  refine ld_t h_14 rfl ?_
  refine ld_t h_14 rfl ?_
  refine ld_t h_14 rfl ?_
  refine ld_t h_14 rfl ?_
  refine ld_t h_14 rfl ?_
  refine ld_t h_14 rfl ?_
  refine ld_t h_14 rfl ?_
  refine ld_t h_14 rfl ?_
  refine tcall (c_lencDinN a0 a1 a2 a3 a4 a5 a6 a7 a8 _ hD) ?_
  rintro v_16 s_15 ⟨rfl, c_18⟩
  have z_19 := c_18.size
  refine dT2 ?_
  refine dSl_i ?_
  refine dInt_i ?_
  refine sB_t (by rfl) ?_
  refine ret_t ?_
  have h_20 := call1a.mv c_18 (rngn50 (by simp))
  exact ⟨rfl, (((((Ch.refl [U] s).ch c_2 (by simp)).ch c_5 (by simp)).ch c_12 (by simp)).ch c_18 (by simp)), h_20⟩
/-- bollard/bollardref13.Put -/
theorem c_rputV (y n τ : Nat) (G B N i : Nat) (m l z d0 d1 d2 d3 e1 e2 : Nat) (s : TH) (hy : YNew s y n τ) (hg : GeoOk G B N) (hn : G * B ≤ n) (hi : i < G * N) (hD : DinM.ok ⟨m, l, z, d0, d1, d2, d3, e1, e2⟩) : TRet Tryz.prog 10 #[.pointer (some ⟨y, 0, none⟩), .agg #[.int .i64 (G : Int), .int .i64 (B : Int), .int .i64 (N : Int)], .int .i64 (i : Int), .agg #[.int .i64 (m : Int), .int .i64 (l : Int), .int .i64 (z : Int), .int .i64 (d0 : Int), .int .i64 (d1 : Int), .int .i64 (d2 : Int), .int .i64 (d3 : Int), .int .i64 (e1 : Int), .int .i64 (e2 : Int)], .slice none 0 0] s fun v s' => v = .tuple #[.int .i64 1, .int .i64 0] ∧ Ch [τ] s s' := by
  have hib := ib_lt hg hi
  have hal := ia_le N i
  obtain ⟨M, hM, hM0, hMa, hMb, hMc, hMd, hMe, hMf⟩ := fresh6 s τ 0 0 0 0 0
  refine F10_calls _ _ _ _ _ _ _ _ _ _ _ _ _ _ _ _ _  ?_
  unfold F10
  refine al_t (M + 1) fun r1 s2 hr1 b_1 c_2 z_3 => ?_
  refine al_t (M + 2) fun r3 s4 hr3 b_4 c_5 z_6 => ?_
  have h_7 := b_1.ch c_5 (by simp)
  refine ld_t h_7 rfl ?_
  refine ld_t h_7 rfl ?_
  refine ld_t h_7 rfl ?_
  have h_8 := hy.mv (c_2.app c_5) (tagn (by simp))
  refine tcall (c_rfine y n τ G B N _ h_8 hg hn) ?_
  rintro v_10 s_9 ⟨rfl, c_12⟩
  have z_13 := c_12.size
  refine dInt_i ?_
  refine sB_f (by rfl) ?_
  have h_14 := h_7.ch c_12 (by simp)
  refine ld_t h_14 rfl ?_
  refine ld_t h_14 rfl ?_
  refine ld_t h_14 rfl ?_
  refine tcall (c_rinode G B N i _ hg hi) ?_
  rintro v_16 s_15 ⟨rfl, c_18⟩
  have z_19 := c_18.size
  refine dT3 ?_
  refine dInt_i ?_
  refine dInt_i ?_
  refine dBl_i ?_
  refine sB_f (by rfl) ?_
  have h_20 := b_4.ch (c_12.app c_18) (by simp)
  refine ld_t h_20 rfl ?_
  refine ld_t h_20 rfl ?_
  refine ld_t h_20 rfl ?_
  refine ld_t h_20 rfl ?_
  refine ld_t h_20 rfl ?_
  refine ld_t h_20 rfl ?_
  refine ld_t h_20 rfl ?_
  refine ld_t h_20 rfl ?_
  refine ld_t h_20 rfl ?_
  refine tcall (c_rencB (M + 10) m l z d0 d1 d2 d3 e1 e2 _ (by omega) hD) ?_
  rintro v_22 s_21 ⟨acall3, ccall3, rfl, c_24, call3a⟩
  have z_25 := c_24.size
  refine dT2 ?_
  refine dSl_i ?_
  refine dInt_i ?_
  refine sB_f (by rfl) ?_
  have h_26 := h_8.mv ((c_12.app c_18).app c_24) (tagn (by simp <;> omega))
  refine tcall (c_ychange y n τ (ibN B N i) (iaN N i) _ _ h_26 (by omega) (call3a).sl (dinB_len _) (by omega) (by omega)) ?_
  rintro v_28 s_27 ⟨rfl, c_30⟩
  have z_31 := c_30.size
  refine dT2 ?_
  refine dInt_i ?_
  refine dInt_i ?_
  refine ret_t ?_
  exact ⟨rfl, (((((((Ch.refl [τ] s).ch c_2 (by simp)).ch c_5 (by simp)).ch c_12 (by simp)).ch c_18 (by simp)).fr c_24 hM (by simp)).ch c_30 (by simp))⟩
/-- bollard/bollardref13.Put -/
theorem c_rputN (y n τ : Nat) (G B N i : Nat) (a0 a1 a2 a3 a4 a5 a6 a7 a8 : Int) (s : TH) (hy : YNew s y n τ) (hg : GeoOk G B N) (hn : G * B ≤ n) (hi : i < G * N) (hD : ¬ DinVI a0 a1 a2 a3 a4 a5 a6 a7 a8) : TRet Tryz.prog 10 #[.pointer (some ⟨y, 0, none⟩), .agg #[.int .i64 (G : Int), .int .i64 (B : Int), .int .i64 (N : Int)], .int .i64 (i : Int), .agg #[.int .i64 a0, .int .i64 a1, .int .i64 a2, .int .i64 a3, .int .i64 a4, .int .i64 a5, .int .i64 a6, .int .i64 a7, .int .i64 a8], .slice none 0 0] s fun v s' => v = .tuple #[.int .i64 0, .int .i64 1] ∧ Ch [] s s' := by
  have hib := ib_lt hg hi
  have hal := ia_le N i
  obtain ⟨M, hM, hM0, hMa, hMb, hMc, hMd, hMe, hMf⟩ := fresh6 s τ 0 0 0 0 0
  refine F10_calls _ _ _ _ _ _ _ _ _ _ _ _ _ _ _ _ _  ?_
  unfold F10
  refine al_t (M + 1) fun r1 s2 hr1 b_1 c_2 z_3 => ?_
  refine al_t (M + 2) fun r3 s4 hr3 b_4 c_5 z_6 => ?_
  have h_7 := b_1.ch c_5 (by simp)
  refine ld_t h_7 rfl ?_
  refine ld_t h_7 rfl ?_
  refine ld_t h_7 rfl ?_
  have h_8 := hy.mv (c_2.app c_5) (tagn (by simp))
  refine tcall (c_rfine y n τ G B N _ h_8 hg hn) ?_
  rintro v_10 s_9 ⟨rfl, c_12⟩
  have z_13 := c_12.size
  refine dInt_i ?_
  refine sB_f (by rfl) ?_
  have h_14 := h_7.ch c_12 (by simp)
  refine ld_t h_14 rfl ?_
  refine ld_t h_14 rfl ?_
  refine ld_t h_14 rfl ?_
  refine tcall (c_rinode G B N i _ hg hi) ?_
  rintro v_16 s_15 ⟨rfl, c_18⟩
  have z_19 := c_18.size
  refine dT3 ?_
  refine dInt_i ?_
  refine dInt_i ?_
  refine dBl_i ?_
  refine sB_f (by rfl) ?_
  have h_20 := b_4.ch (c_12.app c_18) (by simp)
  refine ld_t h_20 rfl ?_
  refine ld_t h_20 rfl ?_
  refine ld_t h_20 rfl ?_
  refine ld_t h_20 rfl ?_
  refine ld_t h_20 rfl ?_
  refine ld_t h_20 rfl ?_
  refine ld_t h_20 rfl ?_
  refine ld_t h_20 rfl ?_
  refine ld_t h_20 rfl ?_
  refine tcall (c_rencN a0 a1 a2 a3 a4 a5 a6 a7 a8 _ hD) ?_
  rintro v_22 s_21 ⟨rfl, c_24⟩
  have z_25 := c_24.size
  refine dT2 ?_
  refine dSl_i ?_
  refine dInt_i ?_
  refine sB_t (by rfl) ?_
  refine ret_t ?_
  exact ⟨rfl, ((((((Ch.refl [] s).ch c_2 (by simp)).ch c_5 (by simp)).ch c_12 (by simp)).ch c_18 (by simp)).ch c_24 (by simp))⟩
theorem inDN : (Tryz.prog.info? 26).map (fun i => (i.zero, i.size, i.bytes)) = some (some (.agg #[.int .i64 0, .int .i64 0, .int .i64 0, .int .i64 0, .int .i64 0, .int .i64 0, .int .i64 0, .int .i64 0, .int .i64 0]), 9, 72) := by kernel_rfl
theorem uDS : Tryz.prog.underlying 31 = some (.slice 26) := by kernel_rfl
def dinV (D : DinM) : List Value := [.int .i64 (D.m : Int), .int .i64 (D.l : Int), .int .i64 (D.z : Int), .int .i64 (D.d0 : Int), .int .i64 (D.d1 : Int), .int .i64 (D.d2 : Int), .int .i64 (D.d3 : Int), .int .i64 (D.e1 : Int), .int .i64 (D.e2 : Int)]
theorem dinV_len (D : DinM) : (dinV D).length = 9 := rfl
def frL (N k : Nat) : List DinM := (List.range k).map (frD N)
theorem frL_s (N k : Nat) : (frL N (k + 1)).flatMap dinV = (frL N k).flatMap dinV ++ dinV (frD N k) := by unfold frL; rw [List.range_succ, List.map_append, List.flatMap_append]; simp
theorem frL_get {N k n : Nat} (h : k < n) : (frL N n)[k]? = some (frD N k) := by unfold frL; rw [List.getElem?_map, List.getElem?_range h]; rfl
theorem dcell (n : Nat) (hn : n < 9) {ls : List DinM} {k : Nat} {x : DinM} (h : ls[k]? = some x) : (ls.flatMap dinV)[k * 9 + n]? = (dinV x)[n]? := fm_get dinV_len ls k n x h hn
/-- bollard/bollardlaw13.InodePuts -/
theorem w_iputsB (U : Nat) (a b c i : Int) (a0 a1 a2 a3 a4 a5 a6 a7 a8 : Int) (s : TH) (hU : 10 ≤ U) (hD : ¬ DinVI a0 a1 a2 a3 a4 a5 a6 a7 a8) : TRet Tryz.prog 3 #[.agg #[.int .i64 a, .int .i64 b, .int .i64 c], .int .i64 i, .agg #[.int .i64 a0, .int .i64 a1, .int .i64 a2, .int .i64 a3, .int .i64 a4, .int .i64 a5, .int .i64 a6, .int .i64 a7, .int .i64 a8]] s fun v s' => v = .bool true ∧ Ch [U, U + 3, U + 11, U + 20, U + 21, U + 22, U + 23, U + 30, U + 32] s s' := by
  obtain ⟨M, hM, hM0, hMa, hMb, hMc, hMd, hMe, hMf⟩ := fresh6 s (U + 60) 0 0 0 0 0
  refine F3_calls _ _ _ _ _ _ _ _ _ _ _ _ _  ?_
  unfold F3
  refine al_t (M + 1) fun r1 s2 hr1 b_1 c_2 z_3 => ?_
  refine al_t (M + 2) fun r3 s4 hr3 b_4 c_5 z_6 => ?_
  have h_7 := b_1.ch c_5 (by simp)
  refine ld_t h_7 rfl ?_
  refine ld_t h_7 rfl ?_
  refine ld_t h_7 rfl ?_
  refine tcall (c_fresh2 U (M + 10) (M + 14) a b c _ hU (by omega)) ?_
  rintro v_9 s_8 ⟨pcall1, vpcall1, dcall1, xcall1, ycall1, Gcall1, Bcall1, Ncall1, rfl, c_11, call1a, call1b, call1c, call1d⟩
  have z_12 := c_11.size
  have hfl := fresh_len call1a
  have hgb := call1a.gb
  have hg2 := call1a
  unfold GeoOk at hg2
  have hgn : (Gcall1 : Int) * (Ncall1 : Int) = ((Gcall1 * Ncall1 : Nat) : Int) := (Int.natCast_mul _ _).symm
  have hg512 : Gcall1 * Ncall1 ≤ 8 * 64 := Nat.mul_le_mul (by omega) (by omega)
  have hg4 : 1 * 4 ≤ Gcall1 * Ncall1 := Nat.mul_le_mul (by omega) (by omega)
  refine dT3 ?_
  refine dPtr_i ?_
  refine dA3 ?_
  refine dBl_i ?_
  have h_16 := h_7.ch c_11 (by simp <;> omega)
  refine st_t h_16 rfl (by simp) fun s18 b_13 c_14o z_15 => ?_
  have c_14 := on_ch h_16 c_14o
  refine st_t b_13 rfl (by simp) fun s19 b_17 c_18o z_19 => ?_
  have c_18 := on_ch b_13 c_18o
  refine st_t b_17 rfl (by simp) fun s20 b_20 c_21o z_22 => ?_
  have c_21 := on_ch b_17 c_21o
  refine sB_f (by rfl) ?_
  refine wr_a fun n21 hn21 => ?_
  rw [wrap_u64] at hn21
  refine ld_t b_20 rfl ?_
  refine dInt_i ?_
  refine ld_t b_20 rfl ?_
  refine dInt_i ?_
  rw [hgn]
  refine wr_t (by omega) ?_
  refine wr_a fun n27 hn27 => ?_
  rw [wrap_u64] at hn27
  refine ask_t (by omega) ?_
  refine nm_a fun n28 hn28 => ?_
  have qn28 := tmod_rng (by omega) (by omega) hn28
  refine wr_t (by omega) ?_
  refine ld_t b_20 rfl ?_
  refine dInt_i ?_
  refine ld_t b_20 rfl ?_
  refine dInt_i ?_
  rw [hgn]
  refine wr_t (by omega) ?_
  refine ⟨fun vs H' => ∃ s' : TH, s'.h = H' ∧ ∃ pa pn pc i, vs = [.slice pa pn pc, .int .i64 i] ∧ Ch [U, U + 20, U + 21, U + 22, U + 23, M + 5, M + 9] s20 s' ∧ (∃ (k tt : Nat), i = k ∧ k ≤ Gcall1 * Ncall1 ∧ tt ≤ k ∧ pn = k ∧ VolL s' vpcall1 dcall1 U ((VolM.fresh (makeL Gcall1 Bcall1 Ncall1)).tk tt) 0 ∧ Own s' pa pn pc 26 9 ((frL Ncall1 k).flatMap dinV) (M + 5)), fun vs H' => match vs with | [.slice pa pn pc, .int .i64 i] => (((Gcall1 * Ncall1 : Nat) : Int) - i).toNat | _ => 0, ⟨s20, rfl, _, _, _, _, rfl, Ch.refl _ _, ?_⟩, ?_⟩
  ·
    have h_23 := call1c.mv ((c_14.app c_18).app c_21) (rngn50 (by simp <;> omega))
    exact ⟨0, 0, rfl, by omega, by omega, rfl, h_23, Own.nil _ _ _ _⟩
  ·
    intro pa pn pc i _ _ _ _ _ _ _ _ _ _ _ _ _ _ _ _ _ _ _ _ _ _ _ H_ hI_25
    obtain ⟨s_24, rfl, pa_, pn_, pc_, i_, hvs, c_26, k, tt, rfl, hk, htt, hpn, hv2, ho⟩ := hI_25
    cases hvs
    have z_27 := c_26.size
    refine sB_d (fun hsB2 => ?_) (fun hsB2 => ?_)
    ·
      refine nz_i ?_
      have h_28 := call1b.ch (((c_14.app c_18).app c_21).app c_26) (by simp <;> omega)
      refine ld_t h_28 rfl ?_
      refine dPtr_i ?_
      have h_29 := b_20.ch c_26 (by simp <;> omega)
      refine ld_t h_29 rfl ?_
      refine ld_t h_29 rfl ?_
      refine ld_t h_29 rfl ?_
      refine ⟨?_, ?_⟩
      ·
        refine tcall (c_iget vpcall1 dcall1 U ((VolM.fresh (makeL Gcall1 Bcall1 Ncall1)).tk tt) Gcall1 Bcall1 Ncall1 k (frD Ncall1 k).m (frD Ncall1 k).l (frD Ncall1 k).z (frD Ncall1 k).d0 (frD Ncall1 k).d1 (frD Ncall1 k).d2 (frD Ncall1 k).d3 (frD Ncall1 k).e1 (frD Ncall1 k).e2 _ hv2 hU call1a hfl (by show (0 : Int) + _ < _; omega) (by omega) (frD_ok call1a k) (fresh_ino call1a (by omega))) ?_
        rintro v_31 s_30 ⟨rfl, c_33, call2a⟩
        have z_34 := c_33.size
        refine dT2 ?_
        refine dA9 ?_
        refine dInt_i ?_
        refine al_t (M + 9) fun r86 s87 hr86 b_35 c_36 z_37 => ?_
        refine st_t b_35 rfl (by simp) fun s88 b_38 c_39o z_40 => ?_
        have c_39 := on_ch b_35 c_39o
        refine st_t b_38 rfl (by simp) fun s89 b_41 c_42o z_43 => ?_
        have c_42 := on_ch b_38 c_42o
        refine st_t b_41 rfl (by simp) fun s90 b_44 c_45o z_46 => ?_
        have c_45 := on_ch b_41 c_45o
        refine st_t b_44 rfl (by simp) fun s91 b_47 c_48o z_49 => ?_
        have c_48 := on_ch b_44 c_48o
        refine st_t b_47 rfl (by simp) fun s92 b_50 c_51o z_52 => ?_
        have c_51 := on_ch b_47 c_51o
        refine st_t b_50 rfl (by simp) fun s93 b_53 c_54o z_55 => ?_
        have c_54 := on_ch b_50 c_54o
        refine st_t b_53 rfl (by simp) fun s94 b_56 c_57o z_58 => ?_
        have c_57 := on_ch b_53 c_57o
        refine st_t b_56 rfl (by simp) fun s95 b_59 c_60o z_61 => ?_
        have c_60 := on_ch b_56 c_60o
        refine st_t b_59 rfl (by simp) fun s96 b_62 c_63o z_64 => ?_
        have c_63 := on_ch b_59 c_63o
        refine sB_f (by rfl) ?_
        refine ld_t b_62 rfl ?_
        refine ld_t b_62 rfl ?_
        refine ld_t b_62 rfl ?_
        refine ld_t b_62 rfl ?_
        refine ld_t b_62 rfl ?_
        refine ld_t b_62 rfl ?_
        refine ld_t b_62 rfl ?_
        refine ld_t b_62 rfl ?_
        refine ld_t b_62 rfl ?_
        refine al_t (M + 9) fun r106 s107 hr106 b_65 c_66 z_67 => ?_
        have h_68 := ho.mv (((((((((((c_33.app c_36).app c_39).app c_42).app c_45).app c_48).app c_51).app c_54).app c_57).app c_60).app c_63).app c_66) (tagn (by simp <;> omega))
        refine app_i uDS inDN rfl h_68 (b_65).sl (m := 1) (k := 9) rfl (by intro u hu; simp only [List.mem_cons, List.not_mem_nil, or_false] at hu; rcases hu with rfl | rfl | rfl | rfl | rfl | rfl | rfl | rfl | rfl <;> rfl) (by simp) (by unfold maxLen; omega) fun s_69 pa2 pc2 o_72 c_70o _ => ?_
        have c_70 := c_70o.ch h_68 (T := [M + 5]) (by simp)
        have z_71 := c_70.size
        refine dSl_i ?_
        refine wr_t (by omega) ?_
        refine ⟨⟨s_69, rfl, _, _, _, _, rfl, (((((((((((((((Ch.refl [U, U + 20, U + 21, U + 22, U + 23, M + 5, M + 9] s20).ch c_26 (by simp)).ch c_33 (by simp)).ch c_36 (by simp)).ch c_39 (by simp)).ch c_42 (by simp)).ch c_45 (by simp)).ch c_48 (by simp)).ch c_51 (by simp)).ch c_54 (by simp)).ch c_57 (by simp)).ch c_60 (by simp)).ch c_63 (by simp)).ch c_66 (by simp)).ch c_70 (by simp)), ?_⟩, ?_⟩
        ·
          have h_73 := call2a.mv (((((((((((c_36.app c_39).app c_42).app c_45).app c_48).app c_51).app c_54).app c_57).app c_60).app c_63).app c_66).app c_70) (rngn50 (by simp <;> omega))
          exact ⟨k + 1, tt + 1, by omega, by omega, by omega, by omega, by have h := h_73; rw [tk_tick] at h; rw [Int.natCast_add]; exact h, by rw [frL_s]; exact o_72⟩
        ·
          simp only []; omega
      ·
        refine al_t (M + 9) fun r118 s119 hr118 b_74 c_75 z_76 => ?_
        refine ⟨?_, ?_⟩
        ·
          have h_77 := h_29.ch c_75 (by simp)
          refine ld_t h_77 rfl ?_
          refine ld_t h_77 rfl ?_
          refine ld_t h_77 rfl ?_
          rfl
        ·
          refine ⟨?_, ?_⟩
          ·
            have h_78 := h_28.ch c_75 (by simp)
            refine ld_t h_78 rfl ?_
            refine dPtr_i ?_
            rfl
          ·
            have h_79 := hv2.mv c_75 (rngn50 (by simp))
            refine tcall (c_iget vpcall1 dcall1 U ((VolM.fresh (makeL Gcall1 Bcall1 Ncall1)).tk tt) Gcall1 Bcall1 Ncall1 k (frD Ncall1 k).m (frD Ncall1 k).l (frD Ncall1 k).z (frD Ncall1 k).d0 (frD Ncall1 k).d1 (frD Ncall1 k).d2 (frD Ncall1 k).d3 (frD Ncall1 k).e1 (frD Ncall1 k).e2 _ h_79 hU call1a hfl (by show (0 : Int) + _ < _; omega) (by omega) (frD_ok call1a k) (fresh_ino call1a (by omega))) ?_
            rintro v_81 s_80 ⟨rfl, c_83, call3a⟩
            have z_84 := c_83.size
            refine dT2 ?_
            refine dA9 ?_
            refine dInt_i ?_
            have h_88 := b_74.ch c_83 (by simp <;> omega)
            refine st_t h_88 rfl (by simp) fun s139 b_85 c_86o z_87 => ?_
            have c_86 := on_ch h_88 c_86o
            refine st_t b_85 rfl (by simp) fun s140 b_89 c_90o z_91 => ?_
            have c_90 := on_ch b_85 c_90o
            refine st_t b_89 rfl (by simp) fun s141 b_92 c_93o z_94 => ?_
            have c_93 := on_ch b_89 c_93o
            refine st_t b_92 rfl (by simp) fun s142 b_95 c_96o z_97 => ?_
            have c_96 := on_ch b_92 c_96o
            refine st_t b_95 rfl (by simp) fun s143 b_98 c_99o z_100 => ?_
            have c_99 := on_ch b_95 c_99o
            refine st_t b_98 rfl (by simp) fun s144 b_101 c_102o z_103 => ?_
            have c_102 := on_ch b_98 c_102o
            refine st_t b_101 rfl (by simp) fun s145 b_104 c_105o z_106 => ?_
            have c_105 := on_ch b_101 c_105o
            refine st_t b_104 rfl (by simp) fun s146 b_107 c_108o z_109 => ?_
            have c_108 := on_ch b_104 c_108o
            refine st_t b_107 rfl (by simp) fun s147 b_110 c_111o z_112 => ?_
            have c_111 := on_ch b_107 c_111o
            refine sB_f (by rfl) ?_
            refine ld_t b_110 rfl ?_
            refine ld_t b_110 rfl ?_
            refine ld_t b_110 rfl ?_
            refine ld_t b_110 rfl ?_
            refine ld_t b_110 rfl ?_
            refine ld_t b_110 rfl ?_
            refine ld_t b_110 rfl ?_
            refine ld_t b_110 rfl ?_
            refine ld_t b_110 rfl ?_
            refine al_t (M + 9) fun r157 s158 hr157 b_113 c_114 z_115 => ?_
            have h_116 := ho.mv (((((((((((c_75.app c_83).app c_86).app c_90).app c_93).app c_96).app c_99).app c_102).app c_105).app c_108).app c_111).app c_114) (tagn (by simp <;> omega))
            refine app_i uDS inDN rfl h_116 (b_113).sl (m := 1) (k := 9) rfl (by intro u hu; simp only [List.mem_cons, List.not_mem_nil, or_false] at hu; rcases hu with rfl | rfl | rfl | rfl | rfl | rfl | rfl | rfl | rfl <;> rfl) (by simp) (by unfold maxLen; omega) fun s_117 pa2 pc2 o_120 c_118o _ => ?_
            have c_118 := c_118o.ch h_116 (T := [M + 5]) (by simp)
            have z_119 := c_118.size
            refine dSl_i ?_
            refine wr_t (by omega) ?_
            refine ⟨⟨s_117, rfl, _, _, _, _, rfl, (((((((((((((((Ch.refl [U, U + 20, U + 21, U + 22, U + 23, M + 5, M + 9] s20).ch c_26 (by simp)).ch c_75 (by simp)).ch c_83 (by simp)).ch c_86 (by simp)).ch c_90 (by simp)).ch c_93 (by simp)).ch c_96 (by simp)).ch c_99 (by simp)).ch c_102 (by simp)).ch c_105 (by simp)).ch c_108 (by simp)).ch c_111 (by simp)).ch c_114 (by simp)).ch c_118 (by simp)), ?_⟩, ?_⟩
            ·
              have h_121 := call3a.mv ((((((((((c_86.app c_90).app c_93).app c_96).app c_99).app c_102).app c_105).app c_108).app c_111).app c_114).app c_118) (rngn50 (by simp <;> omega))
              exact ⟨k + 1, tt + 1, by omega, by omega, by omega, by omega, by have h := h_121; rw [tk_tick] at h; rw [Int.natCast_add]; exact h, by rw [frL_s]; exact o_120⟩
            ·
              simp only []; omega
    ·
      refine nz_i ?_
      have h_122 := call1b.ch (((c_14.app c_18).app c_21).app c_26) (by simp <;> omega)
      refine ld_t h_122 rfl ?_
      refine dPtr_i ?_
      have h_123 := b_20.ch c_26 (by simp <;> omega)
      refine ld_t h_123 rfl ?_
      refine ld_t h_123 rfl ?_
      refine ld_t h_123 rfl ?_
      have h_124 := b_4.ch ((((c_11.app c_14).app c_18).app c_21).app c_26) (by simp <;> omega)
      refine ld_t h_124 rfl ?_
      refine ld_t h_124 rfl ?_
      refine ld_t h_124 rfl ?_
      refine ld_t h_124 rfl ?_
      refine ld_t h_124 rfl ?_
      refine ld_t h_124 rfl ?_
      refine ld_t h_124 rfl ?_
      refine ld_t h_124 rfl ?_
      refine ld_t h_124 rfl ?_
      obtain ⟨i0, hi0⟩ : ∃ i0 : Nat, n28 = i0 := ⟨n28.toNat, by omega⟩
      subst hi0
      have hi : i0 < Gcall1 * Ncall1 := by omega
      refine tcall (c_iputN vpcall1 dcall1 U ((VolM.fresh (makeL Gcall1 Bcall1 Ncall1)).tk tt) Gcall1 Bcall1 Ncall1 i0 a0 a1 a2 a3 a4 a5 a6 a7 a8 _ hv2 hU call1a hfl (by show (0 : Int) + _ < _; omega) hi hD) ?_
      rintro v_126 s_125 ⟨rfl, c_128, call4a⟩
      have z_129 := c_128.size
      refine dT2 ?_
      refine dInt_i ?_
      refine dInt_i ?_
      refine nz_i ?_
      have h_130 := h_122.ch c_128 (by simp <;> omega)
      refine ld_t h_130 rfl ?_
      refine dPtr_i ?_
      have h_131 := h_123.ch c_128 (by simp <;> omega)
      refine ld_t h_131 rfl ?_
      refine ld_t h_131 rfl ?_
      refine ld_t h_131 rfl ?_
      have h_132 := h_124.ch c_128 (by simp <;> omega)
      refine ld_t h_132 rfl ?_
      refine ld_t h_132 rfl ?_
      refine ld_t h_132 rfl ?_
      refine ld_t h_132 rfl ?_
      refine ld_t h_132 rfl ?_
      refine ld_t h_132 rfl ?_
      refine ld_t h_132 rfl ?_
      refine ld_t h_132 rfl ?_
      refine ld_t h_132 rfl ?_
      have h_133 := call1d.mv ((((c_14.app c_18).app c_21).app c_26).app c_128) (tagn (by simp <;> omega))
      refine tcall (c_rputN ycall1 (Gcall1 * Bcall1) (M + 14) Gcall1 Bcall1 Ncall1 i0 a0 a1 a2 a3 a4 a5 a6 a7 a8 _ h_133 call1a (Nat.le_refl _) hi hD) ?_
      rintro v_135 s_134 ⟨rfl, c_137⟩
      have z_138 := c_137.size
      refine dT2 ?_
      refine dInt_i ?_
      refine dInt_i ?_
      refine sB_f (by rfl) ?_
      refine jn0 (fun s' => Ch [M + 5] s_134 s' ∧ (VolL s' vpcall1 dcall1 U ((VolM.fresh (makeL Gcall1 Bcall1 Ncall1)).tk tt) 0 ∧ Own s' pa pn pc 26 9 ((frL Ncall1 k).flatMap dinV) (M + 5))) ?_ ?_
      ·
        rintro  s_139 ⟨c_140, hvj, hoj⟩
        have z_141 := c_140.size
        intro _
        intros
        refine ⟨fun vs H' => ∃ s' : TH, s'.h = H' ∧ ∃ i, vs = [.int .i64 i] ∧ Ch [U, U + 20, U + 21, U + 22, U + 23, M + 9] s_139 s' ∧ (∃ (k2 tt2 : Nat), i = k2 ∧ k2 ≤ Gcall1 * Ncall1 ∧ tt2 ≤ k2 ∧ VolL s' vpcall1 dcall1 U ((VolM.fresh (makeL Gcall1 Bcall1 Ncall1)).tk (tt + tt2 : Nat)) 0), fun vs H' => match vs with | [.int .i64 i] => (((Gcall1 * Ncall1 : Nat) : Int) - i).toNat | _ => 0, ⟨s_139, rfl, _, rfl, Ch.refl _ _, ?_⟩, ?_⟩
        ·
          exact ⟨0, 0, rfl, by omega, by omega, by rw [Nat.add_zero]; exact hvj⟩
        ·
          intro i _ _ _ _ _ _ _ _ _ _ _ _ _ _ _ _ _ _ _ _ _ _ _ _ _ _ _ H_ hI_143
          obtain ⟨s_142, rfl, i_, hvs, c_144, k2, tt2, rfl, hk2, htt2, hv3⟩ := hI_143
          cases hvs
          have z_145 := c_144.size
          have hkk : k = Gcall1 * Ncall1 := by omega
          refine sB_d (fun hsB6 => ?_) (fun hsB6 => ?_)
          ·
            have h_146 := hoj.mv c_144 (tagn (by simp <;> omega))
            obtain ⟨a_147, rfl⟩ := h_146.ne_none (by omega)
            refine nz_i ?_
            refine ask_t (by omega) ?_
            have hxx : (frL Ncall1 k)[k2]? = some (frD Ncall1 k2) := frL_get (by omega)
            refine ld_sl (h_146).sl (by rw [Int.toNat_natCast]; exact dcell 0 (by decide) hxx) ?_
            refine ld_sl2 (h_146).sl (by rw [Int.toNat_natCast]; exact dcell 1 (by decide) hxx) ?_
            refine ld_sl2 (h_146).sl (by rw [Int.toNat_natCast]; exact dcell 2 (by decide) hxx) ?_
            refine ld_sl2 (h_146).sl (by rw [Int.toNat_natCast]; exact dcell 3 (by decide) hxx) ?_
            refine ld_sl2 (h_146).sl (by rw [Int.toNat_natCast]; exact dcell 4 (by decide) hxx) ?_
            refine ld_sl2 (h_146).sl (by rw [Int.toNat_natCast]; exact dcell 5 (by decide) hxx) ?_
            refine ld_sl2 (h_146).sl (by rw [Int.toNat_natCast]; exact dcell 6 (by decide) hxx) ?_
            refine ld_sl2 (h_146).sl (by rw [Int.toNat_natCast]; exact dcell 7 (by decide) hxx) ?_
            refine ld_sl2 (h_146).sl (by rw [Int.toNat_natCast]; exact dcell 8 (by decide) hxx) ?_
            refine al_t (M + 9) fun r260 s261 hr260 b_148 c_149 z_150 => ?_
            refine st_t b_148 rfl (by simp) fun s262 b_151 c_152o z_153 => ?_
            have c_152 := on_ch b_148 c_152o
            refine st_t b_151 rfl (by simp) fun s263 b_154 c_155o z_156 => ?_
            have c_155 := on_ch b_151 c_155o
            refine st_t b_154 rfl (by simp) fun s264 b_157 c_158o z_159 => ?_
            have c_158 := on_ch b_154 c_158o
            refine st_t b_157 rfl (by simp) fun s265 b_160 c_161o z_162 => ?_
            have c_161 := on_ch b_157 c_161o
            refine st_t b_160 rfl (by simp) fun s266 b_163 c_164o z_165 => ?_
            have c_164 := on_ch b_160 c_164o
            refine st_t b_163 rfl (by simp) fun s267 b_166 c_167o z_168 => ?_
            have c_167 := on_ch b_163 c_167o
            refine st_t b_166 rfl (by simp) fun s268 b_169 c_170o z_171 => ?_
            have c_170 := on_ch b_166 c_170o
            refine st_t b_169 rfl (by simp) fun s269 b_172 c_173o z_174 => ?_
            have c_173 := on_ch b_169 c_173o
            refine st_t b_172 rfl (by simp) fun s270 b_175 c_176o z_177 => ?_
            have c_176 := on_ch b_172 c_176o
            refine nz_i ?_
            have h_178 := h_130.ch ((((((((((((c_137.app c_140).app c_144).app c_149).app c_152).app c_155).app c_158).app c_161).app c_164).app c_167).app c_170).app c_173).app c_176) (by simp <;> omega)
            refine ld_t h_178 rfl ?_
            refine dPtr_i ?_
            have h_179 := h_131.ch ((((((((((((c_137.app c_140).app c_144).app c_149).app c_152).app c_155).app c_158).app c_161).app c_164).app c_167).app c_170).app c_173).app c_176) (by simp <;> omega)
            refine ld_t h_179 rfl ?_
            refine ld_t h_179 rfl ?_
            refine ld_t h_179 rfl ?_
            refine ⟨?_, ?_⟩
            ·
              have h_180 := hv3.mv (((((((((c_149.app c_152).app c_155).app c_158).app c_161).app c_164).app c_167).app c_170).app c_173).app c_176) (rngn50 (by simp <;> omega))
              refine tcall (c_iget vpcall1 dcall1 U ((VolM.fresh (makeL Gcall1 Bcall1 Ncall1)).tk (tt + tt2 : Nat)) Gcall1 Bcall1 Ncall1 k2 (frD Ncall1 k2).m (frD Ncall1 k2).l (frD Ncall1 k2).z (frD Ncall1 k2).d0 (frD Ncall1 k2).d1 (frD Ncall1 k2).d2 (frD Ncall1 k2).d3 (frD Ncall1 k2).e1 (frD Ncall1 k2).e2 _ h_180 hU call1a hfl (by show (0 : Int) + _ < _; omega) (by omega) (frD_ok call1a k2) (fresh_ino call1a (by omega))) ?_
              rintro v_182 s_181 ⟨rfl, c_184, call6a⟩
              have z_185 := c_184.size
              refine dT2 ?_
              refine dA9 ?_
              refine dInt_i ?_
              refine al_t (M + 9) fun r291 s292 hr291 b_186 c_187 z_188 => ?_
              refine st_t b_186 rfl (by simp) fun s293 b_189 c_190o z_191 => ?_
              have c_190 := on_ch b_186 c_190o
              refine st_t b_189 rfl (by simp) fun s294 b_192 c_193o z_194 => ?_
              have c_193 := on_ch b_189 c_193o
              refine st_t b_192 rfl (by simp) fun s295 b_195 c_196o z_197 => ?_
              have c_196 := on_ch b_192 c_196o
              refine st_t b_195 rfl (by simp) fun s296 b_198 c_199o z_200 => ?_
              have c_199 := on_ch b_195 c_199o
              refine st_t b_198 rfl (by simp) fun s297 b_201 c_202o z_203 => ?_
              have c_202 := on_ch b_198 c_202o
              refine st_t b_201 rfl (by simp) fun s298 b_204 c_205o z_206 => ?_
              have c_205 := on_ch b_201 c_205o
              refine st_t b_204 rfl (by simp) fun s299 b_207 c_208o z_209 => ?_
              have c_208 := on_ch b_204 c_208o
              refine st_t b_207 rfl (by simp) fun s300 b_210 c_211o z_212 => ?_
              have c_211 := on_ch b_207 c_211o
              refine st_t b_210 rfl (by simp) fun s301 b_213 c_214o z_215 => ?_
              have c_214 := on_ch b_210 c_214o
              refine jn1 (fun fv s' => Ch [] s301 s' ∧ (fv = .bool false)) ?_ ?_
              ·
                rintro fv s_216 ⟨c_217, rfl⟩
                have z_218 := c_217.size
                intro _
                intros
                refine dBl_i ?_
                refine sB_f (by rfl) ?_
                refine wr_t (by omega) ?_
                refine ⟨⟨s_216, rfl, _, rfl, ((((((((((((((((((((((((Ch.refl [U, U + 20, U + 21, U + 22, U + 23, M + 9] s_139).ch c_144 (by simp)).ch c_149 (by simp)).ch c_152 (by simp)).ch c_155 (by simp)).ch c_158 (by simp)).ch c_161 (by simp)).ch c_164 (by simp)).ch c_167 (by simp)).ch c_170 (by simp)).ch c_173 (by simp)).ch c_176 (by simp)).ch c_184 (by simp)).ch c_187 (by simp)).ch c_190 (by simp)).ch c_193 (by simp)).ch c_196 (by simp)).ch c_199 (by simp)).ch c_202 (by simp)).ch c_205 (by simp)).ch c_208 (by simp)).ch c_211 (by simp)).ch c_214 (by simp)).ch c_217 (by simp)), ?_⟩, ?_⟩
                ·
                  have h_219 := call6a.mv ((((((((((c_187.app c_190).app c_193).app c_196).app c_199).app c_202).app c_205).app c_208).app c_211).app c_214).app c_217) (rngn50 (by simp <;> omega))
                  exact ⟨k2 + 1, tt2 + 1, by omega, by omega, by omega, by have h := h_219; rw [tk_tick] at h; rw [show ((tt + (tt2 + 1) : Nat) : Int) = ((tt + tt2 : Nat) : Int) + 1 by omega]; exact h⟩
                ·
                  simp only []; omega
              ·
                intro K_220 hK_220
                refine sB_f (by rfl) ?_
                have h_222 := b_175.ch c_184 (by simp <;> omega)
                have h_223 := h_222.ch c_187 (by simp)
                have h_224 := h_223.on c_190o (by omega)
                have h_225 := h_224.on c_193o (by omega)
                have h_226 := h_225.on c_196o (by omega)
                have h_227 := h_226.on c_199o (by omega)
                have h_228 := h_227.on c_202o (by omega)
                have h_229 := h_228.on c_205o (by omega)
                have h_230 := h_229.on c_208o (by omega)
                have h_231 := h_230.on c_211o (by omega)
                have h_232 := h_231.on c_214o (by omega)
                refine ld_t h_232 rfl ?_
                refine ld_t h_232 rfl ?_
                refine ld_t h_232 rfl ?_
                refine ld_t h_232 rfl ?_
                refine ld_t h_232 rfl ?_
                refine ld_t h_232 rfl ?_
                refine ld_t h_232 rfl ?_
                refine ld_t h_232 rfl ?_
                refine ld_t h_232 rfl ?_
                refine ld_t b_213 rfl ?_
                refine ld_t b_213 rfl ?_
                refine ld_t b_213 rfl ?_
                refine ld_t b_213 rfl ?_
                refine ld_t b_213 rfl ?_
                refine ld_t b_213 rfl ?_
                refine ld_t b_213 rfl ?_
                refine ld_t b_213 rfl ?_
                refine ld_t b_213 rfl ?_
                refine ne_din ?_
                refine dBl_i ?_
                refine hK_220 _ _ ⟨(Ch.refl [] s301), ?_⟩
                exact congrArg Value.bool (by simp)
            ·
              refine al_t (M + 9) fun r338 s339 hr338 b_233 c_234 z_235 => ?_
              refine ⟨?_, ?_⟩
              ·
                have h_236 := h_179.ch c_234 (by simp)
                refine ld_t h_236 rfl ?_
                refine ld_t h_236 rfl ?_
                refine ld_t h_236 rfl ?_
                rfl
              ·
                refine ⟨?_, ?_⟩
                ·
                  have h_237 := h_178.ch c_234 (by simp)
                  refine ld_t h_237 rfl ?_
                  refine dPtr_i ?_
                  rfl
                ·
                  have h_238 := hv3.mv ((((((((((c_149.app c_152).app c_155).app c_158).app c_161).app c_164).app c_167).app c_170).app c_173).app c_176).app c_234) (rngn50 (by simp <;> omega))
                  refine tcall (c_iget vpcall1 dcall1 U ((VolM.fresh (makeL Gcall1 Bcall1 Ncall1)).tk (tt + tt2 : Nat)) Gcall1 Bcall1 Ncall1 k2 (frD Ncall1 k2).m (frD Ncall1 k2).l (frD Ncall1 k2).z (frD Ncall1 k2).d0 (frD Ncall1 k2).d1 (frD Ncall1 k2).d2 (frD Ncall1 k2).d3 (frD Ncall1 k2).e1 (frD Ncall1 k2).e2 _ h_238 hU call1a hfl (by show (0 : Int) + _ < _; omega) (by omega) (frD_ok call1a k2) (fresh_ino call1a (by omega))) ?_
                  rintro v_240 s_239 ⟨rfl, c_242, call7a⟩
                  have z_243 := c_242.size
                  refine dT2 ?_
                  refine dA9 ?_
                  refine dInt_i ?_
                  have h_247 := b_233.ch c_242 (by simp <;> omega)
                  refine st_t h_247 rfl (by simp) fun s359 b_244 c_245o z_246 => ?_
                  have c_245 := on_ch h_247 c_245o
                  refine st_t b_244 rfl (by simp) fun s360 b_248 c_249o z_250 => ?_
                  have c_249 := on_ch b_244 c_249o
                  refine st_t b_248 rfl (by simp) fun s361 b_251 c_252o z_253 => ?_
                  have c_252 := on_ch b_248 c_252o
                  refine st_t b_251 rfl (by simp) fun s362 b_254 c_255o z_256 => ?_
                  have c_255 := on_ch b_251 c_255o
                  refine st_t b_254 rfl (by simp) fun s363 b_257 c_258o z_259 => ?_
                  have c_258 := on_ch b_254 c_258o
                  refine st_t b_257 rfl (by simp) fun s364 b_260 c_261o z_262 => ?_
                  have c_261 := on_ch b_257 c_261o
                  refine st_t b_260 rfl (by simp) fun s365 b_263 c_264o z_265 => ?_
                  have c_264 := on_ch b_260 c_264o
                  refine st_t b_263 rfl (by simp) fun s366 b_266 c_267o z_268 => ?_
                  have c_267 := on_ch b_263 c_267o
                  refine st_t b_266 rfl (by simp) fun s367 b_269 c_270o z_271 => ?_
                  have c_270 := on_ch b_266 c_270o
                  refine jn1 (fun fv s' => Ch [] s367 s' ∧ (fv = .bool false)) ?_ ?_
                  ·
                    rintro fv s_272 ⟨c_273, rfl⟩
                    have z_274 := c_273.size
                    intro _
                    intros
                    refine dBl_i ?_
                    refine sB_f (by rfl) ?_
                    refine wr_t (by omega) ?_
                    refine ⟨⟨s_272, rfl, _, rfl, ((((((((((((((((((((((((Ch.refl [U, U + 20, U + 21, U + 22, U + 23, M + 9] s_139).ch c_144 (by simp)).ch c_149 (by simp)).ch c_152 (by simp)).ch c_155 (by simp)).ch c_158 (by simp)).ch c_161 (by simp)).ch c_164 (by simp)).ch c_167 (by simp)).ch c_170 (by simp)).ch c_173 (by simp)).ch c_176 (by simp)).ch c_234 (by simp)).ch c_242 (by simp)).ch c_245 (by simp)).ch c_249 (by simp)).ch c_252 (by simp)).ch c_255 (by simp)).ch c_258 (by simp)).ch c_261 (by simp)).ch c_264 (by simp)).ch c_267 (by simp)).ch c_270 (by simp)).ch c_273 (by simp)), ?_⟩, ?_⟩
                    ·
                      have h_275 := call7a.mv (((((((((c_245.app c_249).app c_252).app c_255).app c_258).app c_261).app c_264).app c_267).app c_270).app c_273) (rngn50 (by simp <;> omega))
                      exact ⟨k2 + 1, tt2 + 1, by omega, by omega, by omega, by have h := h_275; rw [tk_tick] at h; rw [show ((tt + (tt2 + 1) : Nat) : Int) = ((tt + tt2 : Nat) : Int) + 1 by omega]; exact h⟩
                    ·
                      simp only []; omega
                  ·
                    intro K_276 hK_276
                    refine sB_f (by rfl) ?_
                    have h_278 := b_175.ch c_234 (by simp)
                    have h_279 := h_278.ch c_242 (by simp <;> omega)
                    have h_280 := h_279.on c_245o (by omega)
                    have h_281 := h_280.on c_249o (by omega)
                    have h_282 := h_281.on c_252o (by omega)
                    have h_283 := h_282.on c_255o (by omega)
                    have h_284 := h_283.on c_258o (by omega)
                    have h_285 := h_284.on c_261o (by omega)
                    have h_286 := h_285.on c_264o (by omega)
                    have h_287 := h_286.on c_267o (by omega)
                    have h_288 := h_287.on c_270o (by omega)
                    refine ld_t h_288 rfl ?_
                    refine ld_t h_288 rfl ?_
                    refine ld_t h_288 rfl ?_
                    refine ld_t h_288 rfl ?_
                    refine ld_t h_288 rfl ?_
                    refine ld_t h_288 rfl ?_
                    refine ld_t h_288 rfl ?_
                    refine ld_t h_288 rfl ?_
                    refine ld_t h_288 rfl ?_
                    refine ld_t b_269 rfl ?_
                    refine ld_t b_269 rfl ?_
                    refine ld_t b_269 rfl ?_
                    refine ld_t b_269 rfl ?_
                    refine ld_t b_269 rfl ?_
                    refine ld_t b_269 rfl ?_
                    refine ld_t b_269 rfl ?_
                    refine ld_t b_269 rfl ?_
                    refine ld_t b_269 rfl ?_
                    refine ne_din ?_
                    refine dBl_i ?_
                    refine hK_276 _ _ ⟨(Ch.refl [] s367), ?_⟩
                    exact congrArg Value.bool (by simp)
          ·
            refine ret_t ?_
            exact ⟨rfl, ((((((((((((Ch.refl [U, U + 3, U + 11, U + 20, U + 21, U + 22, U + 23, U + 30, U + 32] s).ch c_2 (by simp)).ch c_5 (by simp)).ch c_11 (by simp)).fr c_14 hM (by simp)).fr c_18 hM (by simp)).fr c_21 hM (by simp)).fr c_26 hM (by simp)).ch c_128 (by simp)).ch c_137 (by simp)).fr c_140 hM (by simp)).fr c_144 hM (by simp))⟩
      ·
        intro K_289 hK_289
        refine sB_f (by rfl) ?_
        refine hK_289 _ ⟨(Ch.refl [M + 5] s_134), ?_⟩
        have h_290 := call4a.mv c_137 (rngn50 (by simp))
        have h_291 := ho.mv (c_128.app c_137) (tagn (by simp <;> omega))
        exact ⟨h_290, h_291⟩
def set9 (l : List Value) (p : Nat) (D : DinM) : List Value := ((((((((l.set p (.int .i64 (D.m : Int))).set (p + 1) (.int .i64 (D.l : Int))).set (p + 2) (.int .i64 (D.z : Int))).set (p + 3) (.int .i64 (D.d0 : Int))).set (p + 4) (.int .i64 (D.d1 : Int))).set (p + 5) (.int .i64 (D.d2 : Int))).set (p + 6) (.int .i64 (D.d3 : Int))).set (p + 7) (.int .i64 (D.e1 : Int))).set (p + 8) (.int .i64 (D.e2 : Int))
theorem set9_eq (D : DinM) : ∀ (ls : List DinM) (i : Nat), i < ls.length → set9 (ls.flatMap dinV) (i * 9) D = (ls.set i D).flatMap dinV
  | [], i, h => by simp at h
  | x :: ls, 0, h => rfl
  | x :: ls, i + 1, h => by
    have ih := set9_eq D ls i (by simpa using h)
    have e : set9 ((x :: ls).flatMap dinV) ((i + 1) * 9) D = dinV x ++ set9 (ls.flatMap dinV) (i * 9) D := by
      rw [List.flatMap_cons, Nat.succ_mul]; rfl
    rw [e, ih]; rfl
theorem Own.st2 {s : TH} {a : Addr} {n c e k : Nat} {xs : List Value} {τ x y : Nat} {v : Value} {K : Heap → Prop} (h : Own s (some a) n c e k xs τ) (h1 : oneC v = true) (hj : x + y < n * k)
    (hk : ∀ s' : TH, Own s' (some a) n c e k (xs.set (x + y) v) τ → On a.block s s' → s.h.size = s'.h.size → K s'.h) : E.st s.h ((a.add x).add y) v K := by
  have e : (a.add x).add y = a.add (x + y) := by
    rcases h.2 with ⟨h0, _⟩ | ⟨g, o, L, h2, _⟩
    · cases h0
    · cases h2
      have hadd : ∀ o j, (⟨g, o, none⟩ : Addr).add j = ⟨g, o + j, none⟩ := fun o j => by unfold Addr.add; split <;> simp_all
      rw [hadd, hadd, hadd, Nat.add_assoc]
  rw [e]; exact h.st h1 hj hk
/-- the inodes behind a Put -/
def putD (N i0 : Nat) (D : DinM) (k : Nat) : DinM := if k = i0 then D else frD N k
theorem put_get {N n i0 k : Nat} (D : DinM) (hk : k < n) : ((frL N n).set i0 D)[k]? = some (putD N i0 D k) := by
  unfold putD
  by_cases e : k = i0
  · subst e; rw [if_pos rfl, List.getElem?_set_self (by unfold frL; rw [List.length_map, List.length_range]; exact hk)]
  · rw [if_neg e, List.getElem?_set_ne (fun h => e h.symm)]; exact frL_get hk
theorem put_now {G B N i0 k : Nat} {V V' : VolM} {D : DinM} (hg : GeoOk G B N) (hi : i0 < G * N) (hk : k < G * N) (h0 : ∀ j, j < G * N → ((V.now (ibN B N j : Int)).drop (iaN N j)).take 32 = dinB (frD N j)) (h128 : (V.now (ibN B N i0 : Int)).length = 128) (hc : ChT V (ibN B N i0 : Int) (iaN N i0 : Int) (dinB D) V') :
    ((V'.now (ibN B N k : Int)).drop (iaN N k)).take 32 = dinB (putD N i0 D k) := by
  unfold putD
  have a0 := ia_le N i0
  have ak := ia_le N k
  by_cases e : ibN B N k = ibN B N i0
  · rw [e, hc.now, Int.toNat_natCast, cut_over h128 (dinB_len _) a0 ak (by unfold iaN; omega)]
    by_cases e2 : iaN N i0 = iaN N k
    · have hki : k = i0 := by
        have h1 := ib_lt hg hi
        have h2 := ib_lt hg hk
        unfold GeoOk at hg
        have d1 := Nat.div_add_mod i0 N
        have d2 := Nat.div_add_mod k N
        have m1 := Nat.mod_lt i0 (show 0 < N by omega)
        have m2 := Nat.mod_lt k (show 0 < N by omega)
        unfold ibN at e
        unfold iaN at e2
        have hq : k / N = i0 / N := by
          rcases Nat.lt_trichotomy (k / N) (i0 / N) with h | h | h
          · have := Nat.mul_le_mul_right B (show k / N + 1 ≤ i0 / N from h); rw [Nat.succ_mul] at this; omega
          · exact h
          · have := Nat.mul_le_mul_right B (show i0 / N + 1 ≤ k / N from h); rw [Nat.succ_mul] at this; omega
        rw [hq] at e d2
        omega
      rw [if_pos e2, if_pos hki]
    · rw [if_neg e2, if_neg (fun h => e2 (by rw [h])), ← e]
      exact h0 k hk
  · rw [hc.ne _ (fun h => e (Int.ofNat_inj.1 h)), if_neg (fun h => e (by rw [h]))]
    exact h0 k hk
theorem put_ok {G B N i0 k : Nat} {D : DinM} (hg : GeoOk G B N) (hD : D.ok) : (putD N i0 D k).ok := by
  unfold putD; split
  · exact hD
  · exact frD_ok hg k
set_option maxHeartbeats 4000000 in
/-- bollard/bollardlaw13.InodePuts -/
theorem w_iputsA (U : Nat) (a b c i : Int) (m l z d0 d1 d2 d3 e1 e2 : Nat) (s : TH) (hU : 10 ≤ U) (hD : DinM.ok ⟨m, l, z, d0, d1, d2, d3, e1, e2⟩) : TRet Tryz.prog 3 #[.agg #[.int .i64 a, .int .i64 b, .int .i64 c], .int .i64 i, .agg #[.int .i64 (m : Int), .int .i64 (l : Int), .int .i64 (z : Int), .int .i64 (d0 : Int), .int .i64 (d1 : Int), .int .i64 (d2 : Int), .int .i64 (d3 : Int), .int .i64 (e1 : Int), .int .i64 (e2 : Int)]] s fun v s' => v = .bool true ∧ Ch [U, U + 3, U + 11, U + 20, U + 21, U + 22, U + 23, U + 30, U + 32] s s' := by
  obtain ⟨M, hM, hM0, hMa, hMb, hMc, hMd, hMe, hMf⟩ := fresh6 s (U + 60) 0 0 0 0 0
  refine F3_calls _ _ _ _ _ _ _ _ _ _ _ _ _  ?_
  unfold F3
  refine al_t (M + 1) fun r1 s2 hr1 b_1 c_2 z_3 => ?_
  refine al_t (M + 2) fun r3 s4 hr3 b_4 c_5 z_6 => ?_
  have h_7 := b_1.ch c_5 (by simp)
  refine ld_t h_7 rfl ?_
  refine ld_t h_7 rfl ?_
  refine ld_t h_7 rfl ?_
  refine tcall (c_fresh2 U (M + 10) (M + 14) a b c _ hU (by omega)) ?_
  rintro v_9 s_8 ⟨pcall1, vpcall1, dcall1, xcall1, ycall1, Gcall1, Bcall1, Ncall1, rfl, c_11, call1a, call1b, call1c, call1d⟩
  have z_12 := c_11.size
  have hfl := fresh_len call1a
  have hgb := call1a.gb
  have hg2 := call1a
  unfold GeoOk at hg2
  have hgn : (Gcall1 : Int) * (Ncall1 : Int) = ((Gcall1 * Ncall1 : Nat) : Int) := (Int.natCast_mul _ _).symm
  have hg512 : Gcall1 * Ncall1 ≤ 8 * 64 := Nat.mul_le_mul (by omega) (by omega)
  have hg4 : 1 * 4 ≤ Gcall1 * Ncall1 := Nat.mul_le_mul (by omega) (by omega)
  refine dT3 ?_
  refine dPtr_i ?_
  refine dA3 ?_
  refine dBl_i ?_
  have h_16 := h_7.ch c_11 (by simp <;> omega)
  refine st_t h_16 rfl (by simp) fun s18 b_13 c_14o z_15 => ?_
  have c_14 := on_ch h_16 c_14o
  refine st_t b_13 rfl (by simp) fun s19 b_17 c_18o z_19 => ?_
  have c_18 := on_ch b_13 c_18o
  refine st_t b_17 rfl (by simp) fun s20 b_20 c_21o z_22 => ?_
  have c_21 := on_ch b_17 c_21o
  refine sB_f (by rfl) ?_
  refine wr_a fun n21 hn21 => ?_
  rw [wrap_u64] at hn21
  refine ld_t b_20 rfl ?_
  refine dInt_i ?_
  refine ld_t b_20 rfl ?_
  refine dInt_i ?_
  rw [hgn]
  refine wr_t (by omega) ?_
  refine wr_a fun n27 hn27 => ?_
  rw [wrap_u64] at hn27
  refine ask_t (by omega) ?_
  refine nm_a fun n28 hn28 => ?_
  have qn28 := tmod_rng (by omega) (by omega) hn28
  refine wr_t (by omega) ?_
  refine ld_t b_20 rfl ?_
  refine dInt_i ?_
  refine ld_t b_20 rfl ?_
  refine dInt_i ?_
  rw [hgn]
  refine wr_t (by omega) ?_
  refine ⟨fun vs H' => ∃ s' : TH, s'.h = H' ∧ ∃ pa pn pc i, vs = [.slice pa pn pc, .int .i64 i] ∧ Ch [U, U + 20, U + 21, U + 22, U + 23, M + 5, M + 9] s20 s' ∧ (∃ (k tt : Nat), i = k ∧ k ≤ Gcall1 * Ncall1 ∧ tt ≤ k ∧ pn = k ∧ VolL s' vpcall1 dcall1 U ((VolM.fresh (makeL Gcall1 Bcall1 Ncall1)).tk tt) 0 ∧ Own s' pa pn pc 26 9 ((frL Ncall1 k).flatMap dinV) (M + 5)), fun vs H' => match vs with | [.slice pa pn pc, .int .i64 i] => (((Gcall1 * Ncall1 : Nat) : Int) - i).toNat | _ => 0, ⟨s20, rfl, _, _, _, _, rfl, Ch.refl _ _, ?_⟩, ?_⟩
  ·
    have h_23 := call1c.mv ((c_14.app c_18).app c_21) (rngn50 (by simp <;> omega))
    exact ⟨0, 0, rfl, by omega, by omega, rfl, h_23, Own.nil _ _ _ _⟩
  ·
    intro pa pn pc i _ _ _ _ _ _ _ _ _ _ _ _ _ _ _ _ _ _ _ _ _ _ _ H_ hI_25
    obtain ⟨s_24, rfl, pa_, pn_, pc_, i_, hvs, c_26, k, tt, rfl, hk, htt, hpn, hv2, ho⟩ := hI_25
    cases hvs
    have z_27 := c_26.size
    refine sB_d (fun hsB2 => ?_) (fun hsB2 => ?_)
    ·
      refine nz_i ?_
      have h_28 := call1b.ch (((c_14.app c_18).app c_21).app c_26) (by simp <;> omega)
      refine ld_t h_28 rfl ?_
      refine dPtr_i ?_
      have h_29 := b_20.ch c_26 (by simp <;> omega)
      refine ld_t h_29 rfl ?_
      refine ld_t h_29 rfl ?_
      refine ld_t h_29 rfl ?_
      refine ⟨?_, ?_⟩
      ·
        refine tcall (c_iget vpcall1 dcall1 U ((VolM.fresh (makeL Gcall1 Bcall1 Ncall1)).tk tt) Gcall1 Bcall1 Ncall1 k (frD Ncall1 k).m (frD Ncall1 k).l (frD Ncall1 k).z (frD Ncall1 k).d0 (frD Ncall1 k).d1 (frD Ncall1 k).d2 (frD Ncall1 k).d3 (frD Ncall1 k).e1 (frD Ncall1 k).e2 _ hv2 hU call1a hfl (by show (0 : Int) + _ < _; omega) (by omega) (frD_ok call1a k) (fresh_ino call1a (by omega))) ?_
        rintro v_31 s_30 ⟨rfl, c_33, call2a⟩
        have z_34 := c_33.size
        refine dT2 ?_
        refine dA9 ?_
        refine dInt_i ?_
        refine al_t (M + 9) fun r86 s87 hr86 b_35 c_36 z_37 => ?_
        refine st_t b_35 rfl (by simp) fun s88 b_38 c_39o z_40 => ?_
        have c_39 := on_ch b_35 c_39o
        refine st_t b_38 rfl (by simp) fun s89 b_41 c_42o z_43 => ?_
        have c_42 := on_ch b_38 c_42o
        refine st_t b_41 rfl (by simp) fun s90 b_44 c_45o z_46 => ?_
        have c_45 := on_ch b_41 c_45o
        refine st_t b_44 rfl (by simp) fun s91 b_47 c_48o z_49 => ?_
        have c_48 := on_ch b_44 c_48o
        refine st_t b_47 rfl (by simp) fun s92 b_50 c_51o z_52 => ?_
        have c_51 := on_ch b_47 c_51o
        refine st_t b_50 rfl (by simp) fun s93 b_53 c_54o z_55 => ?_
        have c_54 := on_ch b_50 c_54o
        refine st_t b_53 rfl (by simp) fun s94 b_56 c_57o z_58 => ?_
        have c_57 := on_ch b_53 c_57o
        refine st_t b_56 rfl (by simp) fun s95 b_59 c_60o z_61 => ?_
        have c_60 := on_ch b_56 c_60o
        refine st_t b_59 rfl (by simp) fun s96 b_62 c_63o z_64 => ?_
        have c_63 := on_ch b_59 c_63o
        refine sB_f (by rfl) ?_
        refine ld_t b_62 rfl ?_
        refine ld_t b_62 rfl ?_
        refine ld_t b_62 rfl ?_
        refine ld_t b_62 rfl ?_
        refine ld_t b_62 rfl ?_
        refine ld_t b_62 rfl ?_
        refine ld_t b_62 rfl ?_
        refine ld_t b_62 rfl ?_
        refine ld_t b_62 rfl ?_
        refine al_t (M + 9) fun r106 s107 hr106 b_65 c_66 z_67 => ?_
        have h_68 := ho.mv (((((((((((c_33.app c_36).app c_39).app c_42).app c_45).app c_48).app c_51).app c_54).app c_57).app c_60).app c_63).app c_66) (tagn (by simp <;> omega))
        refine app_i uDS inDN rfl h_68 (b_65).sl (m := 1) (k := 9) rfl (by intro u hu; simp only [List.mem_cons, List.not_mem_nil, or_false] at hu; rcases hu with rfl | rfl | rfl | rfl | rfl | rfl | rfl | rfl | rfl <;> rfl) (by simp) (by unfold maxLen; omega) fun s_69 pa2 pc2 o_72 c_70o _ => ?_
        have c_70 := c_70o.ch h_68 (T := [M + 5]) (by simp)
        have z_71 := c_70.size
        refine dSl_i ?_
        refine wr_t (by omega) ?_
        refine ⟨⟨s_69, rfl, _, _, _, _, rfl, (((((((((((((((Ch.refl [U, U + 20, U + 21, U + 22, U + 23, M + 5, M + 9] s20).ch c_26 (by simp)).ch c_33 (by simp)).ch c_36 (by simp)).ch c_39 (by simp)).ch c_42 (by simp)).ch c_45 (by simp)).ch c_48 (by simp)).ch c_51 (by simp)).ch c_54 (by simp)).ch c_57 (by simp)).ch c_60 (by simp)).ch c_63 (by simp)).ch c_66 (by simp)).ch c_70 (by simp)), ?_⟩, ?_⟩
        ·
          have h_73 := call2a.mv (((((((((((c_36.app c_39).app c_42).app c_45).app c_48).app c_51).app c_54).app c_57).app c_60).app c_63).app c_66).app c_70) (rngn50 (by simp <;> omega))
          exact ⟨k + 1, tt + 1, by omega, by omega, by omega, by omega, by have h := h_73; rw [tk_tick] at h; rw [Int.natCast_add]; exact h, by rw [frL_s]; exact o_72⟩
        ·
          simp only []; omega
      ·
        refine al_t (M + 9) fun r118 s119 hr118 b_74 c_75 z_76 => ?_
        refine ⟨?_, ?_⟩
        ·
          have h_77 := h_29.ch c_75 (by simp)
          refine ld_t h_77 rfl ?_
          refine ld_t h_77 rfl ?_
          refine ld_t h_77 rfl ?_
          rfl
        ·
          refine ⟨?_, ?_⟩
          ·
            have h_78 := h_28.ch c_75 (by simp)
            refine ld_t h_78 rfl ?_
            refine dPtr_i ?_
            rfl
          ·
            have h_79 := hv2.mv c_75 (rngn50 (by simp))
            refine tcall (c_iget vpcall1 dcall1 U ((VolM.fresh (makeL Gcall1 Bcall1 Ncall1)).tk tt) Gcall1 Bcall1 Ncall1 k (frD Ncall1 k).m (frD Ncall1 k).l (frD Ncall1 k).z (frD Ncall1 k).d0 (frD Ncall1 k).d1 (frD Ncall1 k).d2 (frD Ncall1 k).d3 (frD Ncall1 k).e1 (frD Ncall1 k).e2 _ h_79 hU call1a hfl (by show (0 : Int) + _ < _; omega) (by omega) (frD_ok call1a k) (fresh_ino call1a (by omega))) ?_
            rintro v_81 s_80 ⟨rfl, c_83, call3a⟩
            have z_84 := c_83.size
            refine dT2 ?_
            refine dA9 ?_
            refine dInt_i ?_
            have h_88 := b_74.ch c_83 (by simp <;> omega)
            refine st_t h_88 rfl (by simp) fun s139 b_85 c_86o z_87 => ?_
            have c_86 := on_ch h_88 c_86o
            refine st_t b_85 rfl (by simp) fun s140 b_89 c_90o z_91 => ?_
            have c_90 := on_ch b_85 c_90o
            refine st_t b_89 rfl (by simp) fun s141 b_92 c_93o z_94 => ?_
            have c_93 := on_ch b_89 c_93o
            refine st_t b_92 rfl (by simp) fun s142 b_95 c_96o z_97 => ?_
            have c_96 := on_ch b_92 c_96o
            refine st_t b_95 rfl (by simp) fun s143 b_98 c_99o z_100 => ?_
            have c_99 := on_ch b_95 c_99o
            refine st_t b_98 rfl (by simp) fun s144 b_101 c_102o z_103 => ?_
            have c_102 := on_ch b_98 c_102o
            refine st_t b_101 rfl (by simp) fun s145 b_104 c_105o z_106 => ?_
            have c_105 := on_ch b_101 c_105o
            refine st_t b_104 rfl (by simp) fun s146 b_107 c_108o z_109 => ?_
            have c_108 := on_ch b_104 c_108o
            refine st_t b_107 rfl (by simp) fun s147 b_110 c_111o z_112 => ?_
            have c_111 := on_ch b_107 c_111o
            refine sB_f (by rfl) ?_
            refine ld_t b_110 rfl ?_
            refine ld_t b_110 rfl ?_
            refine ld_t b_110 rfl ?_
            refine ld_t b_110 rfl ?_
            refine ld_t b_110 rfl ?_
            refine ld_t b_110 rfl ?_
            refine ld_t b_110 rfl ?_
            refine ld_t b_110 rfl ?_
            refine ld_t b_110 rfl ?_
            refine al_t (M + 9) fun r157 s158 hr157 b_113 c_114 z_115 => ?_
            have h_116 := ho.mv (((((((((((c_75.app c_83).app c_86).app c_90).app c_93).app c_96).app c_99).app c_102).app c_105).app c_108).app c_111).app c_114) (tagn (by simp <;> omega))
            refine app_i uDS inDN rfl h_116 (b_113).sl (m := 1) (k := 9) rfl (by intro u hu; simp only [List.mem_cons, List.not_mem_nil, or_false] at hu; rcases hu with rfl | rfl | rfl | rfl | rfl | rfl | rfl | rfl | rfl <;> rfl) (by simp) (by unfold maxLen; omega) fun s_117 pa2 pc2 o_120 c_118o _ => ?_
            have c_118 := c_118o.ch h_116 (T := [M + 5]) (by simp)
            have z_119 := c_118.size
            refine dSl_i ?_
            refine wr_t (by omega) ?_
            refine ⟨⟨s_117, rfl, _, _, _, _, rfl, (((((((((((((((Ch.refl [U, U + 20, U + 21, U + 22, U + 23, M + 5, M + 9] s20).ch c_26 (by simp)).ch c_75 (by simp)).ch c_83 (by simp)).ch c_86 (by simp)).ch c_90 (by simp)).ch c_93 (by simp)).ch c_96 (by simp)).ch c_99 (by simp)).ch c_102 (by simp)).ch c_105 (by simp)).ch c_108 (by simp)).ch c_111 (by simp)).ch c_114 (by simp)).ch c_118 (by simp)), ?_⟩, ?_⟩
            ·
              have h_121 := call3a.mv ((((((((((c_86.app c_90).app c_93).app c_96).app c_99).app c_102).app c_105).app c_108).app c_111).app c_114).app c_118) (rngn50 (by simp <;> omega))
              exact ⟨k + 1, tt + 1, by omega, by omega, by omega, by omega, by have h := h_121; rw [tk_tick] at h; rw [Int.natCast_add]; exact h, by rw [frL_s]; exact o_120⟩
            ·
              simp only []; omega
    ·
      refine nz_i ?_
      have h_122 := call1b.ch (((c_14.app c_18).app c_21).app c_26) (by simp <;> omega)
      refine ld_t h_122 rfl ?_
      refine dPtr_i ?_
      have h_123 := b_20.ch c_26 (by simp <;> omega)
      refine ld_t h_123 rfl ?_
      refine ld_t h_123 rfl ?_
      refine ld_t h_123 rfl ?_
      have h_124 := b_4.ch ((((c_11.app c_14).app c_18).app c_21).app c_26) (by simp <;> omega)
      refine ld_t h_124 rfl ?_
      refine ld_t h_124 rfl ?_
      refine ld_t h_124 rfl ?_
      refine ld_t h_124 rfl ?_
      refine ld_t h_124 rfl ?_
      refine ld_t h_124 rfl ?_
      refine ld_t h_124 rfl ?_
      refine ld_t h_124 rfl ?_
      refine ld_t h_124 rfl ?_
      obtain ⟨i0, hi0⟩ : ∃ i0 : Nat, n28 = i0 := ⟨n28.toNat, by omega⟩
      subst hi0
      have hi : i0 < Gcall1 * Ncall1 := by omega
      have hkk0 : k = Gcall1 * Ncall1 := by omega
      have hll : (frL Ncall1 k).length = k := by unfold frL; rw [List.length_map, List.length_range]
      have h128 : (((VolM.fresh (makeL Gcall1 Bcall1 Ncall1)).tk tt).now (ibN Bcall1 Ncall1 i0 : Int)).length = 128 := blk_len (hv2).2 (has_ib (V := ((VolM.fresh (makeL Gcall1 Bcall1 Ncall1)).tk tt)) call1a hfl hi)
      refine tcall (c_iput vpcall1 dcall1 U ((VolM.fresh (makeL Gcall1 Bcall1 Ncall1)).tk tt) Gcall1 Bcall1 Ncall1 i0 m l z d0 d1 d2 d3 e1 e2 0 _ hv2 hU call1a hfl (by show (0 : Int) + _ < _; omega) hi (by show (0 : Int) < 900000; decide) hD (sl_nil _ (U + 60)) rfl (by omega) (fun n hn => by cases hn) (by omega)) ?_
      rintro v_126 s_125 ⟨Vcall4, rfl, c_128, call4a, call4b⟩
      have z_129 := c_128.size
      have hVn : Vcall4.n ≤ (tt : Int) + 1 := by
        have e0 : ((VolM.fresh (makeL Gcall1 Bcall1 Ncall1)).tk tt).n = 0 + (tt : Int) := rfl
        rw [call4a.n]; unfold VolM.ticks; split <;> omega
      have hVl : Vcall4.D.blocks.length = Gcall1 * Bcall1 := by rw [call4a.D]; exact hfl
      refine dT2 ?_
      refine dInt_i ?_
      refine dInt_i ?_
      refine nz_i ?_
      have h_130 := h_122.ch c_128 (by simp <;> omega)
      refine ld_t h_130 rfl ?_
      refine dPtr_i ?_
      have h_131 := h_123.ch c_128 (by simp <;> omega)
      refine ld_t h_131 rfl ?_
      refine ld_t h_131 rfl ?_
      refine ld_t h_131 rfl ?_
      have h_132 := h_124.ch c_128 (by simp <;> omega)
      refine ld_t h_132 rfl ?_
      refine ld_t h_132 rfl ?_
      refine ld_t h_132 rfl ?_
      refine ld_t h_132 rfl ?_
      refine ld_t h_132 rfl ?_
      refine ld_t h_132 rfl ?_
      refine ld_t h_132 rfl ?_
      refine ld_t h_132 rfl ?_
      refine ld_t h_132 rfl ?_
      have h_133 := call1d.mv ((((c_14.app c_18).app c_21).app c_26).app c_128) (tagn (by simp <;> omega))
      refine tcall (c_rputV ycall1 (Gcall1 * Bcall1) (M + 14) Gcall1 Bcall1 Ncall1 i0 m l z d0 d1 d2 d3 e1 e2 _ h_133 call1a (Nat.le_refl _) hi hD) ?_
      rintro v_135 s_134 ⟨rfl, c_137⟩
      have z_138 := c_137.size
      refine dT2 ?_
      refine dInt_i ?_
      refine dInt_i ?_
      refine sB_f (by rfl) ?_
      refine jn0 (fun s' => Ch [M + 5] s_134 s' ∧ (VolL s' vpcall1 dcall1 U Vcall4 0 ∧ Own s' pa pn pc 26 9 (((frL Ncall1 k).set i0 ⟨m, l, z, d0, d1, d2, d3, e1, e2⟩).flatMap dinV) (M + 5))) ?_ ?_
      ·
        rintro  s_139 ⟨c_140, hvj, hoj⟩
        have z_141 := c_140.size
        intro _
        intros
        refine ⟨fun vs H' => ∃ s' : TH, s'.h = H' ∧ ∃ i, vs = [.int .i64 i] ∧ Ch [U, U + 20, U + 21, U + 22, U + 23, M + 9] s_139 s' ∧ (∃ (k2 tt2 : Nat), i = k2 ∧ k2 ≤ Gcall1 * Ncall1 ∧ tt2 ≤ k2 ∧ VolL s' vpcall1 dcall1 U (Vcall4.tk (tt2 : Nat)) 0), fun vs H' => match vs with | [.int .i64 i] => (((Gcall1 * Ncall1 : Nat) : Int) - i).toNat | _ => 0, ⟨s_139, rfl, _, rfl, Ch.refl _ _, ?_⟩, ?_⟩
        ·
          exact ⟨0, 0, rfl, by omega, by omega, by rw [show ((0 : Nat) : Int) = 0 from rfl, tk_zero]; exact hvj⟩
        ·
          intro i _ _ _ _ _ _ _ _ _ _ _ _ _ _ _ _ _ _ _ _ _ _ _ _ _ _ _ H_ hI_143
          obtain ⟨s_142, rfl, i_, hvs, c_144, k2, tt2, rfl, hk2, htt2, hv3⟩ := hI_143
          cases hvs
          have z_145 := c_144.size
          have hkk : k = Gcall1 * Ncall1 := by omega
          refine sB_d (fun hsB6 => ?_) (fun hsB6 => ?_)
          ·
            have h_146 := hoj.mv c_144 (tagn (by simp <;> omega))
            obtain ⟨a_147, rfl⟩ := h_146.ne_none (by omega)
            refine nz_i ?_
            refine ask_t (by omega) ?_
            have hxx : ((frL Ncall1 k).set i0 ⟨m, l, z, d0, d1, d2, d3, e1, e2⟩)[k2]? = some (putD Ncall1 i0 ⟨m, l, z, d0, d1, d2, d3, e1, e2⟩ k2) := put_get ⟨m, l, z, d0, d1, d2, d3, e1, e2⟩ (by omega)
            refine ld_sl (h_146).sl (by rw [Int.toNat_natCast]; exact dcell 0 (by decide) hxx) ?_
            refine ld_sl2 (h_146).sl (by rw [Int.toNat_natCast]; exact dcell 1 (by decide) hxx) ?_
            refine ld_sl2 (h_146).sl (by rw [Int.toNat_natCast]; exact dcell 2 (by decide) hxx) ?_
            refine ld_sl2 (h_146).sl (by rw [Int.toNat_natCast]; exact dcell 3 (by decide) hxx) ?_
            refine ld_sl2 (h_146).sl (by rw [Int.toNat_natCast]; exact dcell 4 (by decide) hxx) ?_
            refine ld_sl2 (h_146).sl (by rw [Int.toNat_natCast]; exact dcell 5 (by decide) hxx) ?_
            refine ld_sl2 (h_146).sl (by rw [Int.toNat_natCast]; exact dcell 6 (by decide) hxx) ?_
            refine ld_sl2 (h_146).sl (by rw [Int.toNat_natCast]; exact dcell 7 (by decide) hxx) ?_
            refine ld_sl2 (h_146).sl (by rw [Int.toNat_natCast]; exact dcell 8 (by decide) hxx) ?_
            refine al_t (M + 9) fun r260 s261 hr260 b_148 c_149 z_150 => ?_
            refine st_t b_148 rfl (by simp) fun s262 b_151 c_152o z_153 => ?_
            have c_152 := on_ch b_148 c_152o
            refine st_t b_151 rfl (by simp) fun s263 b_154 c_155o z_156 => ?_
            have c_155 := on_ch b_151 c_155o
            refine st_t b_154 rfl (by simp) fun s264 b_157 c_158o z_159 => ?_
            have c_158 := on_ch b_154 c_158o
            refine st_t b_157 rfl (by simp) fun s265 b_160 c_161o z_162 => ?_
            have c_161 := on_ch b_157 c_161o
            refine st_t b_160 rfl (by simp) fun s266 b_163 c_164o z_165 => ?_
            have c_164 := on_ch b_160 c_164o
            refine st_t b_163 rfl (by simp) fun s267 b_166 c_167o z_168 => ?_
            have c_167 := on_ch b_163 c_167o
            refine st_t b_166 rfl (by simp) fun s268 b_169 c_170o z_171 => ?_
            have c_170 := on_ch b_166 c_170o
            refine st_t b_169 rfl (by simp) fun s269 b_172 c_173o z_174 => ?_
            have c_173 := on_ch b_169 c_173o
            refine st_t b_172 rfl (by simp) fun s270 b_175 c_176o z_177 => ?_
            have c_176 := on_ch b_172 c_176o
            refine nz_i ?_
            have h_178 := h_130.ch ((((((((((((c_137.app c_140).app c_144).app c_149).app c_152).app c_155).app c_158).app c_161).app c_164).app c_167).app c_170).app c_173).app c_176) (by simp <;> omega)
            refine ld_t h_178 rfl ?_
            refine dPtr_i ?_
            have h_179 := h_131.ch ((((((((((((c_137.app c_140).app c_144).app c_149).app c_152).app c_155).app c_158).app c_161).app c_164).app c_167).app c_170).app c_173).app c_176) (by simp <;> omega)
            refine ld_t h_179 rfl ?_
            refine ld_t h_179 rfl ?_
            refine ld_t h_179 rfl ?_
            refine ⟨?_, ?_⟩
            ·
              have h_180 := hv3.mv (((((((((c_149.app c_152).app c_155).app c_158).app c_161).app c_164).app c_167).app c_170).app c_173).app c_176) (rngn50 (by simp <;> omega))
              refine tcall (c_iget vpcall1 dcall1 U (Vcall4.tk (tt2 : Nat)) Gcall1 Bcall1 Ncall1 k2 (putD Ncall1 i0 ⟨m, l, z, d0, d1, d2, d3, e1, e2⟩ k2).m (putD Ncall1 i0 ⟨m, l, z, d0, d1, d2, d3, e1, e2⟩ k2).l (putD Ncall1 i0 ⟨m, l, z, d0, d1, d2, d3, e1, e2⟩ k2).z (putD Ncall1 i0 ⟨m, l, z, d0, d1, d2, d3, e1, e2⟩ k2).d0 (putD Ncall1 i0 ⟨m, l, z, d0, d1, d2, d3, e1, e2⟩ k2).d1 (putD Ncall1 i0 ⟨m, l, z, d0, d1, d2, d3, e1, e2⟩ k2).d2 (putD Ncall1 i0 ⟨m, l, z, d0, d1, d2, d3, e1, e2⟩ k2).d3 (putD Ncall1 i0 ⟨m, l, z, d0, d1, d2, d3, e1, e2⟩ k2).e1 (putD Ncall1 i0 ⟨m, l, z, d0, d1, d2, d3, e1, e2⟩ k2).e2 _ h_180 hU call1a hVl (by show Vcall4.n + _ < _; omega) (by omega) (put_ok call1a hD) (put_now (V := ((VolM.fresh (makeL Gcall1 Bcall1 Ncall1)).tk tt)) (V' := Vcall4) call1a hi (by omega) (fun j hj => fresh_ino call1a hj) h128 call4a)) ?_
              rintro v_182 s_181 ⟨rfl, c_184, call6a⟩
              have z_185 := c_184.size
              refine dT2 ?_
              refine dA9 ?_
              refine dInt_i ?_
              refine al_t (M + 9) fun r291 s292 hr291 b_186 c_187 z_188 => ?_
              refine st_t b_186 rfl (by simp) fun s293 b_189 c_190o z_191 => ?_
              have c_190 := on_ch b_186 c_190o
              refine st_t b_189 rfl (by simp) fun s294 b_192 c_193o z_194 => ?_
              have c_193 := on_ch b_189 c_193o
              refine st_t b_192 rfl (by simp) fun s295 b_195 c_196o z_197 => ?_
              have c_196 := on_ch b_192 c_196o
              refine st_t b_195 rfl (by simp) fun s296 b_198 c_199o z_200 => ?_
              have c_199 := on_ch b_195 c_199o
              refine st_t b_198 rfl (by simp) fun s297 b_201 c_202o z_203 => ?_
              have c_202 := on_ch b_198 c_202o
              refine st_t b_201 rfl (by simp) fun s298 b_204 c_205o z_206 => ?_
              have c_205 := on_ch b_201 c_205o
              refine st_t b_204 rfl (by simp) fun s299 b_207 c_208o z_209 => ?_
              have c_208 := on_ch b_204 c_208o
              refine st_t b_207 rfl (by simp) fun s300 b_210 c_211o z_212 => ?_
              have c_211 := on_ch b_207 c_211o
              refine st_t b_210 rfl (by simp) fun s301 b_213 c_214o z_215 => ?_
              have c_214 := on_ch b_210 c_214o
              refine jn1 (fun fv s' => Ch [] s301 s' ∧ (fv = .bool false)) ?_ ?_
              ·
                rintro fv s_216 ⟨c_217, rfl⟩
                have z_218 := c_217.size
                intro _
                intros
                refine dBl_i ?_
                refine sB_f (by rfl) ?_
                refine wr_t (by omega) ?_
                refine ⟨⟨s_216, rfl, _, rfl, ((((((((((((((((((((((((Ch.refl [U, U + 20, U + 21, U + 22, U + 23, M + 9] s_139).ch c_144 (by simp)).ch c_149 (by simp)).ch c_152 (by simp)).ch c_155 (by simp)).ch c_158 (by simp)).ch c_161 (by simp)).ch c_164 (by simp)).ch c_167 (by simp)).ch c_170 (by simp)).ch c_173 (by simp)).ch c_176 (by simp)).ch c_184 (by simp)).ch c_187 (by simp)).ch c_190 (by simp)).ch c_193 (by simp)).ch c_196 (by simp)).ch c_199 (by simp)).ch c_202 (by simp)).ch c_205 (by simp)).ch c_208 (by simp)).ch c_211 (by simp)).ch c_214 (by simp)).ch c_217 (by simp)), ?_⟩, ?_⟩
                ·
                  have h_219 := call6a.mv ((((((((((c_187.app c_190).app c_193).app c_196).app c_199).app c_202).app c_205).app c_208).app c_211).app c_214).app c_217) (rngn50 (by simp <;> omega))
                  exact ⟨k2 + 1, tt2 + 1, by omega, by omega, by omega, by have h := h_219; rw [tk_tick] at h; rw [Int.natCast_add]; exact h⟩
                ·
                  simp only []; omega
              ·
                intro K_220 hK_220
                refine sB_f (by rfl) ?_
                have h_222 := b_175.ch c_184 (by simp <;> omega)
                have h_223 := h_222.ch c_187 (by simp)
                have h_224 := h_223.on c_190o (by omega)
                have h_225 := h_224.on c_193o (by omega)
                have h_226 := h_225.on c_196o (by omega)
                have h_227 := h_226.on c_199o (by omega)
                have h_228 := h_227.on c_202o (by omega)
                have h_229 := h_228.on c_205o (by omega)
                have h_230 := h_229.on c_208o (by omega)
                have h_231 := h_230.on c_211o (by omega)
                have h_232 := h_231.on c_214o (by omega)
                refine ld_t h_232 rfl ?_
                refine ld_t h_232 rfl ?_
                refine ld_t h_232 rfl ?_
                refine ld_t h_232 rfl ?_
                refine ld_t h_232 rfl ?_
                refine ld_t h_232 rfl ?_
                refine ld_t h_232 rfl ?_
                refine ld_t h_232 rfl ?_
                refine ld_t h_232 rfl ?_
                refine ld_t b_213 rfl ?_
                refine ld_t b_213 rfl ?_
                refine ld_t b_213 rfl ?_
                refine ld_t b_213 rfl ?_
                refine ld_t b_213 rfl ?_
                refine ld_t b_213 rfl ?_
                refine ld_t b_213 rfl ?_
                refine ld_t b_213 rfl ?_
                refine ld_t b_213 rfl ?_
                refine ne_din ?_
                refine dBl_i ?_
                refine hK_220 _ _ ⟨(Ch.refl [] s301), ?_⟩
                exact congrArg Value.bool (by simp)
            ·
              refine al_t (M + 9) fun r338 s339 hr338 b_233 c_234 z_235 => ?_
              refine ⟨?_, ?_⟩
              ·
                have h_236 := h_179.ch c_234 (by simp)
                refine ld_t h_236 rfl ?_
                refine ld_t h_236 rfl ?_
                refine ld_t h_236 rfl ?_
                rfl
              ·
                refine ⟨?_, ?_⟩
                ·
                  have h_237 := h_178.ch c_234 (by simp)
                  refine ld_t h_237 rfl ?_
                  refine dPtr_i ?_
                  rfl
                ·
                  have h_238 := hv3.mv ((((((((((c_149.app c_152).app c_155).app c_158).app c_161).app c_164).app c_167).app c_170).app c_173).app c_176).app c_234) (rngn50 (by simp <;> omega))
                  refine tcall (c_iget vpcall1 dcall1 U (Vcall4.tk (tt2 : Nat)) Gcall1 Bcall1 Ncall1 k2 (putD Ncall1 i0 ⟨m, l, z, d0, d1, d2, d3, e1, e2⟩ k2).m (putD Ncall1 i0 ⟨m, l, z, d0, d1, d2, d3, e1, e2⟩ k2).l (putD Ncall1 i0 ⟨m, l, z, d0, d1, d2, d3, e1, e2⟩ k2).z (putD Ncall1 i0 ⟨m, l, z, d0, d1, d2, d3, e1, e2⟩ k2).d0 (putD Ncall1 i0 ⟨m, l, z, d0, d1, d2, d3, e1, e2⟩ k2).d1 (putD Ncall1 i0 ⟨m, l, z, d0, d1, d2, d3, e1, e2⟩ k2).d2 (putD Ncall1 i0 ⟨m, l, z, d0, d1, d2, d3, e1, e2⟩ k2).d3 (putD Ncall1 i0 ⟨m, l, z, d0, d1, d2, d3, e1, e2⟩ k2).e1 (putD Ncall1 i0 ⟨m, l, z, d0, d1, d2, d3, e1, e2⟩ k2).e2 _ h_238 hU call1a hVl (by show Vcall4.n + _ < _; omega) (by omega) (put_ok call1a hD) (put_now (V := ((VolM.fresh (makeL Gcall1 Bcall1 Ncall1)).tk tt)) (V' := Vcall4) call1a hi (by omega) (fun j hj => fresh_ino call1a hj) h128 call4a)) ?_
                  rintro v_240 s_239 ⟨rfl, c_242, call7a⟩
                  have z_243 := c_242.size
                  refine dT2 ?_
                  refine dA9 ?_
                  refine dInt_i ?_
                  have h_247 := b_233.ch c_242 (by simp <;> omega)
                  refine st_t h_247 rfl (by simp) fun s359 b_244 c_245o z_246 => ?_
                  have c_245 := on_ch h_247 c_245o
                  refine st_t b_244 rfl (by simp) fun s360 b_248 c_249o z_250 => ?_
                  have c_249 := on_ch b_244 c_249o
                  refine st_t b_248 rfl (by simp) fun s361 b_251 c_252o z_253 => ?_
                  have c_252 := on_ch b_248 c_252o
                  refine st_t b_251 rfl (by simp) fun s362 b_254 c_255o z_256 => ?_
                  have c_255 := on_ch b_251 c_255o
                  refine st_t b_254 rfl (by simp) fun s363 b_257 c_258o z_259 => ?_
                  have c_258 := on_ch b_254 c_258o
                  refine st_t b_257 rfl (by simp) fun s364 b_260 c_261o z_262 => ?_
                  have c_261 := on_ch b_257 c_261o
                  refine st_t b_260 rfl (by simp) fun s365 b_263 c_264o z_265 => ?_
                  have c_264 := on_ch b_260 c_264o
                  refine st_t b_263 rfl (by simp) fun s366 b_266 c_267o z_268 => ?_
                  have c_267 := on_ch b_263 c_267o
                  refine st_t b_266 rfl (by simp) fun s367 b_269 c_270o z_271 => ?_
                  have c_270 := on_ch b_266 c_270o
                  refine jn1 (fun fv s' => Ch [] s367 s' ∧ (fv = .bool false)) ?_ ?_
                  ·
                    rintro fv s_272 ⟨c_273, rfl⟩
                    have z_274 := c_273.size
                    intro _
                    intros
                    refine dBl_i ?_
                    refine sB_f (by rfl) ?_
                    refine wr_t (by omega) ?_
                    refine ⟨⟨s_272, rfl, _, rfl, ((((((((((((((((((((((((Ch.refl [U, U + 20, U + 21, U + 22, U + 23, M + 9] s_139).ch c_144 (by simp)).ch c_149 (by simp)).ch c_152 (by simp)).ch c_155 (by simp)).ch c_158 (by simp)).ch c_161 (by simp)).ch c_164 (by simp)).ch c_167 (by simp)).ch c_170 (by simp)).ch c_173 (by simp)).ch c_176 (by simp)).ch c_234 (by simp)).ch c_242 (by simp)).ch c_245 (by simp)).ch c_249 (by simp)).ch c_252 (by simp)).ch c_255 (by simp)).ch c_258 (by simp)).ch c_261 (by simp)).ch c_264 (by simp)).ch c_267 (by simp)).ch c_270 (by simp)).ch c_273 (by simp)), ?_⟩, ?_⟩
                    ·
                      have h_275 := call7a.mv (((((((((c_245.app c_249).app c_252).app c_255).app c_258).app c_261).app c_264).app c_267).app c_270).app c_273) (rngn50 (by simp <;> omega))
                      exact ⟨k2 + 1, tt2 + 1, by omega, by omega, by omega, by have h := h_275; rw [tk_tick] at h; rw [Int.natCast_add]; exact h⟩
                    ·
                      simp only []; omega
                  ·
                    intro K_276 hK_276
                    refine sB_f (by rfl) ?_
                    have h_278 := b_175.ch c_234 (by simp)
                    have h_279 := h_278.ch c_242 (by simp <;> omega)
                    have h_280 := h_279.on c_245o (by omega)
                    have h_281 := h_280.on c_249o (by omega)
                    have h_282 := h_281.on c_252o (by omega)
                    have h_283 := h_282.on c_255o (by omega)
                    have h_284 := h_283.on c_258o (by omega)
                    have h_285 := h_284.on c_261o (by omega)
                    have h_286 := h_285.on c_264o (by omega)
                    have h_287 := h_286.on c_267o (by omega)
                    have h_288 := h_287.on c_270o (by omega)
                    refine ld_t h_288 rfl ?_
                    refine ld_t h_288 rfl ?_
                    refine ld_t h_288 rfl ?_
                    refine ld_t h_288 rfl ?_
                    refine ld_t h_288 rfl ?_
                    refine ld_t h_288 rfl ?_
                    refine ld_t h_288 rfl ?_
                    refine ld_t h_288 rfl ?_
                    refine ld_t h_288 rfl ?_
                    refine ld_t b_269 rfl ?_
                    refine ld_t b_269 rfl ?_
                    refine ld_t b_269 rfl ?_
                    refine ld_t b_269 rfl ?_
                    refine ld_t b_269 rfl ?_
                    refine ld_t b_269 rfl ?_
                    refine ld_t b_269 rfl ?_
                    refine ld_t b_269 rfl ?_
                    refine ld_t b_269 rfl ?_
                    refine ne_din ?_
                    refine dBl_i ?_
                    refine hK_276 _ _ ⟨(Ch.refl [] s367), ?_⟩
                    exact congrArg Value.bool (by simp)
          ·
            refine ret_t ?_
            exact ⟨rfl, ((((((((((((Ch.refl [U, U + 3, U + 11, U + 20, U + 21, U + 22, U + 23, U + 30, U + 32] s).ch c_2 (by simp)).ch c_5 (by simp)).ch c_11 (by simp)).fr c_14 hM (by simp)).fr c_18 hM (by simp)).fr c_21 hM (by simp)).fr c_26 hM (by simp)).ch c_128 (by simp)).fr c_137 hM (by simp)).fr c_140 hM (by simp)).fr c_144 hM (by simp))⟩
      ·
        intro K_289 hK_289
        refine sB_t (by rfl) ?_
        have h_290 := h_132.ch c_137 (by simp)
        refine ld_t h_290 rfl ?_
        refine ld_t h_290 rfl ?_
        refine ld_t h_290 rfl ?_
        refine ld_t h_290 rfl ?_
        refine ld_t h_290 rfl ?_
        refine ld_t h_290 rfl ?_
        refine ld_t h_290 rfl ?_
        refine ld_t h_290 rfl ?_
        refine ld_t h_290 rfl ?_
        have h_291 := ho.mv (c_128.app c_137) (tagn (by simp <;> omega))
        obtain ⟨a_292, rfl⟩ := h_291.ne_none (by omega)
        refine nz_i ?_
        refine ask_t (by omega) ?_
        refine Own.st h_291 rfl (by rw [Int.toNat_natCast]; omega) fun s415 b_293 c_294o z_295 => ?_
        have c_294 := Ch.on_tag (T := [M + 5]) (Ch.refl _ _) c_294o h_291.tagOf (by simp)
        refine Own.st2 b_293 rfl (by rw [Int.toNat_natCast]; omega) fun s416 b_296 c_297o z_298 => ?_
        have c_297 := Ch.on_tag (T := [M + 5]) (Ch.refl _ _) c_297o b_293.tagOf (by simp)
        refine Own.st2 b_296 rfl (by rw [Int.toNat_natCast]; omega) fun s417 b_299 c_300o z_301 => ?_
        have c_300 := Ch.on_tag (T := [M + 5]) (Ch.refl _ _) c_300o b_296.tagOf (by simp)
        refine Own.st2 b_299 rfl (by rw [Int.toNat_natCast]; omega) fun s418 b_302 c_303o z_304 => ?_
        have c_303 := Ch.on_tag (T := [M + 5]) (Ch.refl _ _) c_303o b_299.tagOf (by simp)
        refine Own.st2 b_302 rfl (by rw [Int.toNat_natCast]; omega) fun s419 b_305 c_306o z_307 => ?_
        have c_306 := Ch.on_tag (T := [M + 5]) (Ch.refl _ _) c_306o b_302.tagOf (by simp)
        refine Own.st2 b_305 rfl (by rw [Int.toNat_natCast]; omega) fun s420 b_308 c_309o z_310 => ?_
        have c_309 := Ch.on_tag (T := [M + 5]) (Ch.refl _ _) c_309o b_305.tagOf (by simp)
        refine Own.st2 b_308 rfl (by rw [Int.toNat_natCast]; omega) fun s421 b_311 c_312o z_313 => ?_
        have c_312 := Ch.on_tag (T := [M + 5]) (Ch.refl _ _) c_312o b_308.tagOf (by simp)
        refine Own.st2 b_311 rfl (by rw [Int.toNat_natCast]; omega) fun s422 b_314 c_315o z_316 => ?_
        have c_315 := Ch.on_tag (T := [M + 5]) (Ch.refl _ _) c_315o b_311.tagOf (by simp)
        refine Own.st2 b_314 rfl (by rw [Int.toNat_natCast]; omega) fun s423 b_317 c_318o z_319 => ?_
        have c_318 := Ch.on_tag (T := [M + 5]) (Ch.refl _ _) c_318o b_314.tagOf (by simp)
        refine hK_289 _ ⟨((((((((((Ch.refl [M + 5] s_134).ch c_294 (by simp)).ch c_297 (by simp)).ch c_300 (by simp)).ch c_303 (by simp)).ch c_306 (by simp)).ch c_309 (by simp)).ch c_312 (by simp)).ch c_315 (by simp)).ch c_318 (by simp)), ?_⟩
        have h_320 := call4b.mv (((((((((c_137.app c_294).app c_297).app c_300).app c_303).app c_306).app c_309).app c_312).app c_315).app c_318) (rngn50 (by simp <;> omega))
        have e := set9_eq ⟨m, l, z, d0, d1, d2, d3, e1, e2⟩ (frL Ncall1 k) i0 (by omega)
        unfold set9 at e
        exact ⟨h_320, by rw [← e]; exact b_317⟩
theorem w_iputs (U : Nat) (a b c i : Int) (a0 a1 a2 a3 a4 a5 a6 a7 a8 : Int) (s : TH) (hU : 10 ≤ U) : TRet Tryz.prog 3 #[.agg #[.int .i64 a, .int .i64 b, .int .i64 c], .int .i64 i, .agg #[.int .i64 a0, .int .i64 a1, .int .i64 a2, .int .i64 a3, .int .i64 a4, .int .i64 a5, .int .i64 a6, .int .i64 a7, .int .i64 a8]] s fun v s' => v = .bool true ∧ Ch [U, U + 3, U + 11, U + 20, U + 21, U + 22, U + 23, U + 30, U + 32] s s' := by
  by_cases hD : DinVI a0 a1 a2 a3 a4 a5 a6 a7 a8
  · obtain ⟨m, l, z, d0, d1, d2, d3, e1, e2, rfl, rfl, rfl, rfl, rfl, rfl, rfl, rfl, rfl, hok⟩ := dinVI_nat hD
    exact w_iputsA U a b c i m l z d0 d1 d2 d3 e1 e2 s hU hok
  · exact w_iputsB U a b c i a0 a1 a2 a3 a4 a5 a6 a7 a8 s hU hD
end Go.Proofs.YtklppdodadkcnaaGreat.E
