/- My own texts, joined. -/
import Derived.JoinedOf
import Derived.KernelRfl
import Derived.Test.YtngploohhmfaiaaGreatProg
import Derived.WalkKit
import Derived.Test.YtngploohhmfaiaaGreatAs7
/- Contracts of functions. -/
namespace Go.Proofs.YtngploohhmfaiaaGreat.E
open Go Go.Proofs Go.RowKit Go.Maps Go.Shelf Go.Sort
set_option linter.unusedVariables false
set_option linter.unusedSimpArgs false
/-- bollard/alloc.ready -/
theorem o_aready (a b c : Int) (p : Option Addr) (τ : Nat) {s : TH} (h : NoV s p τ) : TRet Tryz.prog 74 #[.pointer p, .agg #[.int .i64 a, .int .i64 b, .int .i64 c]] s fun v s' => v = .int .i64 2 ∧ Ch [] s s' := by
  obtain ⟨M, hM, hM0, hMa, hMb, hMc, hMd, hMe, hMf⟩ := fresh6 s τ 0 0 0 0 0
  refine F74_calls _ _ _ _  ?_
  unfold F74
  refine al_t (M + 1) fun r1 s2 hr1 b_1 c_2 z_3 => ?_
  have h_4 := h.mv c_2 (tagn (by simp))
  refine tcall (o_VLast p τ h_4) ?_
  rintro v_6 s_5 ⟨rfl, c_8⟩
  have z_9 := c_8.size
  refine dInt_i ?_
  have h_10 := h_4.mv c_8 (tagn (by simp))
  refine tcall (o_VUndo _ p τ h_10) ?_
  rintro v_12 s_11 ⟨rfl, c_14⟩
  have z_15 := c_14.size
  refine dInt_i ?_
  refine sB_t (by rfl) ?_
  refine ret_t ?_
  exact ⟨rfl, ((((Ch.refl [] s).ch c_2 (by simp)).ch c_8 (by simp)).ch c_14 (by simp))⟩
set_option maxRecDepth 100000 in
/-- bollard/alloc.Header -/
theorem o_aHeader (a b c : Int) (n : Int) (p : Option Addr) (τ : Nat) {s : TH} (h : NoV s p τ) : TRet Tryz.prog 27 #[.pointer p, .agg #[.int .i64 a, .int .i64 b, .int .i64 c], .int .i64 n] s fun v s' => v = .tuple #[.agg (gv 0 [0, 0, 0, 0, 0, 0, 0, 0] [0, 0, 0, 0, 0, 0, 0, 0, 0, 0, 0, 0, 0, 0, 0, 0, 0, 0, 0, 0, 0, 0, 0, 0, 0, 0, 0, 0, 0, 0, 0, 0]).toArray, .int .i64 2] ∧ Ch [] s s' := by
  obtain ⟨M, hM, hM0, hMa, hMb, hMc, hMd, hMe, hMf⟩ := fresh6 s τ 0 0 0 0 0
  refine F27_calls _ _ _ _ _  ?_
  unfold F27
  refine al_t (M + 1) fun r1 s2 hr1 b_1 c_2 z_3 => ?_
  refine al_t (M + 2) fun r3 s4 hr3 b_4 c_5 z_6 => ?_
  have h_7 := b_1.ch c_5 (by simp)
  refine ld_t h_7 rfl ?_
  refine ld_t h_7 rfl ?_
  refine ld_t h_7 rfl ?_
  have h_8 := h.mv (c_2.app c_5) (tagn (by simp))
  refine tcall (o_aready a b c p τ h_8) ?_
  rintro v_10 s_9 ⟨rfl, c_12⟩
  have z_13 := c_12.size
  refine dInt_i ?_
  refine sB_t (by rfl) ?_
  have h_17 := b_4.ch c_12 (by simp)
  refine stG 0 (il := [0, 0, 0, 0, 0, 0, 0, 0]) (bl := [0, 0, 0, 0, 0, 0, 0, 0, 0, 0, 0, 0, 0, 0, 0, 0, 0, 0, 0, 0, 0, 0, 0, 0, 0, 0, 0, 0, 0, 0, 0, 0]) rfl rfl rfl h_17 (by rfl) fun s11 b_14 c_15o z_16 => ?_
  have c_15 := on_ch h_17 c_15o
  refine ld41 b_14 ?_
  refine ret_t ?_
  exact ⟨rfl, (((((Ch.refl [] s).ch c_2 (by simp)).ch c_5 (by simp)).ch c_12 (by simp)).fr c_15 hM (by simp))⟩
/-- bollard/alloc.Block -/
theorem o_aBlock (a b c : Int) (n : Int) (p : Option Addr) (τ : Nat) {s : TH} (h : NoV s p τ) : TRet Tryz.prog 29 #[.pointer p, .agg #[.int .i64 a, .int .i64 b, .int .i64 c], .int .i64 n, .slice none 0 0] s fun v s' => v = .tuple #[.int .i64 0, .int .i64 0, .int .i64 2] ∧ Ch [] s s' := by
  obtain ⟨M, hM, hM0, hMa, hMb, hMc, hMd, hMe, hMf⟩ := fresh6 s τ 0 0 0 0 0
  refine F29_calls _ _ _ _ _ _ _ _  ?_
  unfold F29
  refine al_t (M + 1) fun r1 s2 hr1 b_1 c_2 z_3 => ?_
  refine ld_t b_1 rfl ?_
  refine ld_t b_1 rfl ?_
  refine ld_t b_1 rfl ?_
  have h_4 := h.mv c_2 (tagn (by simp))
  refine tcall (o_aready a b c p τ h_4) ?_
  rintro v_6 s_5 ⟨rfl, c_8⟩
  have z_9 := c_8.size
  refine dInt_i ?_
  refine sB_t (by rfl) ?_
  refine ret_t ?_
  exact ⟨rfl, (((Ch.refl [] s).ch c_2 (by simp)).ch c_8 (by simp))⟩
set_option maxRecDepth 100000 in
/-- bollard/alloc.Inode -/
theorem o_aInode (a b c : Int) (n : Int) (p : Option Addr) (τ : Nat) {s : TH} (h : NoV s p τ) : TRet Tryz.prog 40 #[.pointer p, .agg #[.int .i64 a, .int .i64 b, .int .i64 c], .int .i64 n, .bool true] s fun v s' => v = .tuple #[.int .i64 0, .int .i64 0, .int .i64 2] ∧ Ch [] s s' := by
  obtain ⟨M, hM, hM0, hMa, hMb, hMc, hMd, hMe, hMf⟩ := fresh6 s τ 0 0 0 0 0
  refine F40_calls _ _ _ _ _ _  ?_
  unfold F40
  refine al_t (M + 1) fun r1 s2 hr1 b_1 c_2 z_3 => ?_
  refine ld_t b_1 rfl ?_
  refine ld_t b_1 rfl ?_
  refine ld_t b_1 rfl ?_
  have h_4 := h.mv c_2 (tagn (by simp))
  refine tcall (o_aready a b c p τ h_4) ?_
  rintro v_6 s_5 ⟨rfl, c_8⟩
  have z_9 := c_8.size
  refine dInt_i ?_
  refine sB_t (by rfl) ?_
  refine ret_t ?_
  exact ⟨rfl, (((Ch.refl [] s).ch c_2 (by simp)).ch c_8 (by simp))⟩
/-- bollard/alloc.FreeBlock -/
theorem o_aFreeBlock (a b c : Int) (n : Int) (p : Option Addr) (τ : Nat) {s : TH} (h : NoV s p τ) : TRet Tryz.prog 42 #[.pointer p, .agg #[.int .i64 a, .int .i64 b, .int .i64 c], .int .i64 n, .slice none 0 0] s fun v s' => v = .tuple #[.int .i64 0, .int .i64 2] ∧ Ch [] s s' := by
  obtain ⟨M, hM, hM0, hMa, hMb, hMc, hMd, hMe, hMf⟩ := fresh6 s τ 0 0 0 0 0
  refine F42_calls _ _ _ _ _ _ _ _  ?_
  unfold F42
  refine al_t (M + 1) fun r1 s2 hr1 b_1 c_2 z_3 => ?_
  refine ld_t b_1 rfl ?_
  refine ld_t b_1 rfl ?_
  refine ld_t b_1 rfl ?_
  have h_4 := h.mv c_2 (tagn (by simp))
  refine tcall (o_aready a b c p τ h_4) ?_
  rintro v_6 s_5 ⟨rfl, c_8⟩
  have z_9 := c_8.size
  refine dInt_i ?_
  refine sB_t (by rfl) ?_
  refine ret_t ?_
  exact ⟨rfl, (((Ch.refl [] s).ch c_2 (by simp)).ch c_8 (by simp))⟩
/-- bollard/alloc.FreeInode -/
theorem o_aFreeInode (a b c : Int) (n : Int) (p : Option Addr) (τ : Nat) {s : TH} (h : NoV s p τ) : TRet Tryz.prog 49 #[.pointer p, .agg #[.int .i64 a, .int .i64 b, .int .i64 c], .int .i64 n, .slice none 0 0] s fun v s' => v = .tuple #[.int .i64 0, .int .i64 2] ∧ Ch [] s s' := by
  obtain ⟨M, hM, hM0, hMa, hMb, hMc, hMd, hMe, hMf⟩ := fresh6 s τ 0 0 0 0 0
  refine F49_calls _ _ _ _ _ _ _ _  ?_
  unfold F49
  refine al_t (M + 1) fun r1 s2 hr1 b_1 c_2 z_3 => ?_
  refine ld_t b_1 rfl ?_
  refine ld_t b_1 rfl ?_
  refine ld_t b_1 rfl ?_
  have h_4 := h.mv c_2 (tagn (by simp))
  refine tcall (o_aready a b c p τ h_4) ?_
  rintro v_6 s_5 ⟨rfl, c_8⟩
  have z_9 := c_8.size
  refine dInt_i ?_
  refine sB_t (by rfl) ?_
  refine ret_t ?_
  exact ⟨rfl, (((Ch.refl [] s).ch c_2 (by simp)).ch c_8 (by simp))⟩
/-- bollard/alloc.HasBlock -/
theorem o_aHasBlock (a b c : Int) (n : Int) (p : Option Addr) (τ : Nat) {s : TH} (h : NoV s p τ) : TRet Tryz.prog 41 #[.pointer p, .agg #[.int .i64 a, .int .i64 b, .int .i64 c], .int .i64 n] s fun v s' => v = .tuple #[.bool false, .int .i64 2] ∧ Ch [] s s' := by
  obtain ⟨M, hM, hM0, hMa, hMb, hMc, hMd, hMe, hMf⟩ := fresh6 s τ 0 0 0 0 0
  refine F41_calls _ _ _ _ _  ?_
  unfold F41
  refine al_t (M + 1) fun r1 s2 hr1 b_1 c_2 z_3 => ?_
  refine ld_t b_1 rfl ?_
  refine ld_t b_1 rfl ?_
  refine ld_t b_1 rfl ?_
  have h_4 := h.mv c_2 (tagn (by simp))
  refine tcall (o_aready a b c p τ h_4) ?_
  rintro v_6 s_5 ⟨rfl, c_8⟩
  have z_9 := c_8.size
  refine dInt_i ?_
  refine sB_t (by rfl) ?_
  refine ret_t ?_
  exact ⟨rfl, (((Ch.refl [] s).ch c_2 (by simp)).ch c_8 (by simp))⟩
/-- bollard/alloc.HasInode -/
theorem o_aHasInode (a b c : Int) (n : Int) (p : Option Addr) (τ : Nat) {s : TH} (h : NoV s p τ) : TRet Tryz.prog 50 #[.pointer p, .agg #[.int .i64 a, .int .i64 b, .int .i64 c], .int .i64 n] s fun v s' => v = .tuple #[.bool false, .int .i64 2] ∧ Ch [] s s' := by
  obtain ⟨M, hM, hM0, hMa, hMb, hMc, hMd, hMe, hMf⟩ := fresh6 s τ 0 0 0 0 0
  refine F50_calls _ _ _ _ _  ?_
  unfold F50
  refine al_t (M + 1) fun r1 s2 hr1 b_1 c_2 z_3 => ?_
  refine ld_t b_1 rfl ?_
  refine ld_t b_1 rfl ?_
  refine ld_t b_1 rfl ?_
  have h_4 := h.mv c_2 (tagn (by simp))
  refine tcall (o_aready a b c p τ h_4) ?_
  rintro v_6 s_5 ⟨rfl, c_8⟩
  have z_9 := c_8.size
  refine dInt_i ?_
  refine sB_t (by rfl) ?_
  refine ret_t ?_
  exact ⟨rfl, (((Ch.refl [] s).ch c_2 (by simp)).ch c_8 (by simp))⟩
/-- bollard/alloc.Room -/
theorem o_aRoom (a b c : Int) (p : Option Addr) (τ : Nat) {s : TH} (h : NoV s p τ) : TRet Tryz.prog 39 #[.pointer p, .agg #[.int .i64 a, .int .i64 b, .int .i64 c]] s fun v s' => v = .tuple #[.int .i64 0, .int .i64 0, .int .i64 2] ∧ Ch [] s s' := by
  obtain ⟨M, hM, hM0, hMa, hMb, hMc, hMd, hMe, hMf⟩ := fresh6 s τ 0 0 0 0 0
  refine F39_calls _ _ _ _  ?_
  unfold F39
  refine al_t (M + 1) fun r1 s2 hr1 b_1 c_2 z_3 => ?_
  refine ld_t b_1 rfl ?_
  refine ld_t b_1 rfl ?_
  refine ld_t b_1 rfl ?_
  have h_4 := h.mv c_2 (tagn (by simp))
  refine tcall (o_aready a b c p τ h_4) ?_
  rintro v_6 s_5 ⟨rfl, c_8⟩
  have z_9 := c_8.size
  refine dInt_i ?_
  refine sB_t (by rfl) ?_
  refine ret_t ?_
  exact ⟨rfl, (((Ch.refl [] s).ch c_2 (by simp)).ch c_8 (by simp))⟩
/-- bollard/alloc.Block -/
theorem c_ablkE (vp d U : Nat) (V : VolM) (a b c near : Int) (s : TH) (hv : VolL s vp d U V 0) (hU : 10 ≤ U) (hc : canG a b c) (hb : V.D.blocks.length < a * b) : TRet Tryz.prog 29 #[.pointer (some ⟨vp, 0, none⟩), .agg #[.int .i64 a, .int .i64 b, .int .i64 c], .int .i64 near, .slice none 0 0] s fun v s' => v = .tuple #[.int .i64 0, .int .i64 0, .int .i64 170] ∧ Ch [U, U + 30, U + 32] s s' ∧ VolL s' vp d U V 0 := by
  obtain ⟨M, hM, hM0, hMa, hMb, hMc, hMd, hMe, hMf⟩ := fresh6 s (U + 50) 0 0 0 0 0
  refine F29_calls _ _ _ _ _ _ _ _  ?_
  unfold F29
  refine al_t (M + 1) fun r1 s2 hr1 b_1 c_2 z_3 => ?_
  refine ld_t b_1 rfl ?_
  refine ld_t b_1 rfl ?_
  refine ld_t b_1 rfl ?_
  have h_4 := hv.mv c_2 (rngn50 (by simp))
  refine tcall (c_readyE vp d U V _ _ _ _ h_4 hU hc hb) ?_
  rintro v_6 s_5 ⟨rfl, c_8, call1a⟩
  have z_9 := c_8.size
  refine dInt_i ?_
  refine sB_t (by rfl) ?_
  refine ret_t ?_
  exact ⟨rfl, (((Ch.refl [U, U + 30, U + 32] s).ch c_2 (by simp)).ch c_8 (by simp)), call1a⟩
set_option maxRecDepth 100000 in
/-- bollard/bollardlaw11.AllocNobody -/
theorem w_anobody (U : Nat) (a b c n : Int) (s : TH) (hU : 10 ≤ U) : TRet Tryz.prog 11 #[.agg #[.int .i64 a, .int .i64 b, .int .i64 c], .int .i64 n] s fun v s' => v = .bool true ∧ Ch [U, U + 3, U + 11, U + 20, U + 21, U + 22, U + 23, U + 30, U + 32] s s' := by
  obtain ⟨M, hM, hM0, hMa, hMb, hMc, hMd, hMe, hMf⟩ := fresh6 s (U + 60) 0 0 0 0 0
  refine F11_calls _ _ _ _  ?_
  unfold F11
  refine al_t (M + 1) fun r1 s2 hr1 b_1 c_2 z_3 => ?_
  refine al_t (M + 2) fun r3 s4 hr3 b_4 c_5 z_6 => ?_
  refine al_t (M + 3) fun r5 s6 hr5 b_7 c_8 z_9 => ?_
  refine ⟨fun vs H' => ∃ s' : TH, s'.h = H' ∧ ∃ i, vs = [.int .i64 i] ∧ Ch [M + 9] s6 s' ∧ (∃ kk : Nat, i = kk ∧ kk ≤ 2), fun vs H' => match vs with | [.int .i64 i] => (2 - i).toNat | _ => 0, ⟨s6, rfl, _, rfl, Ch.refl _ _, ?_⟩, ?_⟩
  ·
    exact ⟨0, rfl, by omega⟩
  ·
    intro i _ _ _ _ _ _ _ _ _ _ _ _ _ _ _ _ _ _ _ _ _ _ _ _ _ _ _ _ _ _ _ _ _ _ _ _ _ _ _ _ _ _ _ _ _ _ _ _ _ _ _ _ _ _ _ _ _ _ _ _ _ _ _ _ _ _ _ _ _ _ _ _ _ _ _ _ _ _ _ _ _ _ _ _ _ _ _ _ _ _ _ _ _ _ _ _ _ _ _ _ _ H_ hI_11
    obtain ⟨s_10, rfl, i_, hvs, c_12, kk, rfl, hk⟩ := hI_11
    cases hvs
    have z_13 := c_12.size
    refine sB_d (fun hsB1 => ?_) (fun hsB1 => ?_)
    ·
      refine ask_t (by omega) ?_
      have h_14 := b_4.ch (c_8.app c_12) (by simp)
      obtain ⟨p, hp, hno⟩ : ∃ p, ([.pointer none, .pointer (some ⟨r3, 0, none⟩)] : List Value)[kk]? = some (.pointer p) ∧ NoV s_10 p (M + 2) := by rcases (by omega : kk = 0 ∨ kk = 1) with rfl | rfl <;> first | exact ⟨none, rfl, ⟨.inl rfl⟩⟩ | exact ⟨_, rfl, ⟨.inr ⟨r3, rfl, h_14⟩⟩⟩
      have h_15 := b_7.ch c_12 (by simp)
      refine ld_sl (h_15).sl (by rw [Int.toNat_natCast, Nat.mul_one]; exact hp) ?_
      refine dPtr_i ?_
      have h_16 := b_1.ch ((c_5.app c_8).app c_12) (by simp)
      refine ld_t h_16 rfl ?_
      refine ld_t h_16 rfl ?_
      refine ld_t h_16 rfl ?_
      refine tcall (o_aHeader a b c n p (M + 2) hno) ?_
      rintro v_18 s_17 ⟨rfl, c_20⟩
      have z_21 := c_20.size
      refine dT2 ?_
      refine dA41 ?_
      refine dInt_i ?_
      refine al_t (M + 9) fun r164 s165 hr164 b_22 c_23 z_24 => ?_
      refine stG 0 (il := [0, 0, 0, 0, 0, 0, 0, 0]) (bl := [0, 0, 0, 0, 0, 0, 0, 0, 0, 0, 0, 0, 0, 0, 0, 0, 0, 0, 0, 0, 0, 0, 0, 0, 0, 0, 0, 0, 0, 0, 0, 0]) rfl rfl rfl b_22 (by rfl) fun s166 b_25 c_26o z_27 => ?_
      have c_26 := on_ch b_22 c_26o
      have h_28 := h_16.ch ((c_20.app c_23).app c_26) (by simp)
      refine ld_t h_28 rfl ?_
      refine ld_t h_28 rfl ?_
      refine ld_t h_28 rfl ?_
      have h_29 := hno.mv ((c_20.app c_23).app c_26) (tagn (by simp))
      refine tcall (o_aBlock a b c n p (M + 2) h_29) ?_
      rintro v_31 s_30 ⟨rfl, c_33⟩
      have z_34 := c_33.size
      refine dT3 ?_
      refine dInt_i ?_
      refine dInt_i ?_
      refine dInt_i ?_
      have h_35 := h_28.ch c_33 (by simp)
      refine ld_t h_35 rfl ?_
      refine ld_t h_35 rfl ?_
      refine ld_t h_35 rfl ?_
      have h_36 := h_29.mv c_33 (tagn (by simp))
      refine tcall (o_aInode a b c n p (M + 2) h_36) ?_
      rintro v_38 s_37 ⟨rfl, c_40⟩
      have z_41 := c_40.size
      refine dT3 ?_
      refine dInt_i ?_
      refine dInt_i ?_
      refine dInt_i ?_
      have h_42 := h_35.ch c_40 (by simp)
      refine ld_t h_42 rfl ?_
      refine ld_t h_42 rfl ?_
      refine ld_t h_42 rfl ?_
      have h_43 := h_36.mv c_40 (tagn (by simp))
      refine tcall (o_aFreeBlock a b c n p (M + 2) h_43) ?_
      rintro v_45 s_44 ⟨rfl, c_47⟩
      have z_48 := c_47.size
      refine dT2 ?_
      refine dInt_i ?_
      refine dInt_i ?_
      have h_49 := h_42.ch c_47 (by simp)
      refine ld_t h_49 rfl ?_
      refine ld_t h_49 rfl ?_
      refine ld_t h_49 rfl ?_
      have h_50 := h_43.mv c_47 (tagn (by simp))
      refine tcall (o_aFreeInode a b c n p (M + 2) h_50) ?_
      rintro v_52 s_51 ⟨rfl, c_54⟩
      have z_55 := c_54.size
      refine dT2 ?_
      refine dInt_i ?_
      refine dInt_i ?_
      have h_56 := h_49.ch c_54 (by simp)
      refine ld_t h_56 rfl ?_
      refine ld_t h_56 rfl ?_
      refine ld_t h_56 rfl ?_
      have h_57 := h_50.mv c_54 (tagn (by simp))
      refine tcall (o_aHasBlock a b c n p (M + 2) h_57) ?_
      rintro v_59 s_58 ⟨rfl, c_61⟩
      have z_62 := c_61.size
      refine dT2 ?_
      refine dBl_i ?_
      refine dInt_i ?_
      have h_63 := h_56.ch c_61 (by simp)
      refine ld_t h_63 rfl ?_
      refine ld_t h_63 rfl ?_
      refine ld_t h_63 rfl ?_
      have h_64 := h_57.mv c_61 (tagn (by simp))
      refine tcall (o_aHasInode a b c n p (M + 2) h_64) ?_
      rintro v_66 s_65 ⟨rfl, c_68⟩
      have z_69 := c_68.size
      refine dT2 ?_
      refine dBl_i ?_
      refine dInt_i ?_
      have h_70 := h_63.ch c_68 (by simp)
      refine ld_t h_70 rfl ?_
      refine ld_t h_70 rfl ?_
      refine ld_t h_70 rfl ?_
      have h_71 := h_64.mv c_68 (tagn (by simp))
      refine tcall (o_aRoom a b c p (M + 2) h_71) ?_
      rintro v_73 s_72 ⟨rfl, c_75⟩
      have z_76 := c_75.size
      refine dT3 ?_
      refine dInt_i ?_
      refine dInt_i ?_
      refine dInt_i ?_
      refine al_t (M + 9) fun r276 s277 hr276 b_77 c_78 z_79 => ?_
      refine ⟨fun vs H' => ∃ s' : TH, s'.h = H' ∧ ∃ j, vs = [.int .i64 j] ∧ Ch [] s277 s' ∧ (∃ kj : Nat, j = kj ∧ kj ≤ 8), fun vs H' => match vs with | [.int .i64 j] => (8 - j).toNat | _ => 0, ⟨s277, rfl, _, rfl, Ch.refl _ _, ?_⟩, ?_⟩
      ·
        exact ⟨0, rfl, by omega⟩
      ·
        intro j _ _ _ _ _ _ _ _ H_ hI_81
        obtain ⟨s_80, rfl, j_, hvs, c_82, kj, rfl, hkj⟩ := hI_81
        cases hvs
        have z_83 := c_82.size
        refine sB_d (fun hsB2 => ?_) (fun hsB2 => ?_)
        ·
          refine ask_t (by omega) ?_
          have h_84 := b_77.ch c_82 (by simp)
          refine ld_sl (v := .int .i64 2) (h_84).sl (by rw [Int.toNat_natCast, Nat.mul_one]; rcases (by omega : kj = 0 ∨ kj = 1 ∨ kj = 2 ∨ kj = 3 ∨ kj = 4 ∨ kj = 5 ∨ kj = 6 ∨ kj = 7) with rfl | rfl | rfl | rfl | rfl | rfl | rfl | rfl <;> rfl) ?_
          refine dInt_i ?_
          refine sB_f (by rfl) ?_
          refine wr_t (by omega) ?_
          refine ⟨⟨s_80, rfl, _, rfl, ((Ch.refl [] s277).ch c_82 (by simp)), ?_⟩, ?_⟩
          ·
            exact ⟨kj + 1, by omega, by omega⟩
          ·
            simp only []; omega
        ·
          refine wr_t (by omega) ?_
          refine ⟨⟨s_80, rfl, _, rfl, ((((((((((((((Ch.refl [M + 9] s6).ch c_12 (by simp)).ch c_20 (by simp)).ch c_23 (by simp)).ch c_26 (by simp)).ch c_33 (by simp)).ch c_40 (by simp)).ch c_47 (by simp)).ch c_54 (by simp)).ch c_61 (by simp)).ch c_68 (by simp)).ch c_75 (by simp)).ch c_78 (by simp)).ch c_82 (by simp)), ?_⟩, ?_⟩
          ·
            exact ⟨kk + 1, by omega, by omega⟩
          ·
            simp only []; omega
    ·
      refine tcall (c_fresh U (M + 10) 1 8 4 _ hU (by omega)) ?_
      rintro v_86 s_85 ⟨pcall9, vpcall9, dcall9, xcall9, ycall9, Gcall9, Bcall9, Ncall9, rfl, c_88, call9a, call9b, call9c, call9d⟩
      have z_89 := c_88.size
      obtain ⟨hG1, hB8, hN4⟩ := call9b (by unfold canG; omega)
      have hfl := fresh_len call9a
      refine dT3 ?_
      refine dPtr_i ?_
      refine dA3 ?_
      refine dBl_i ?_
      refine al_t (M + 9) fun r321 s322 hr321 b_90 c_91 z_92 => ?_
      refine st_t b_90 rfl (by simp) fun s323 b_93 c_94o z_95 => ?_
      have c_94 := on_ch b_90 c_94o
      refine st_t b_93 rfl (by simp) fun s324 b_96 c_97o z_98 => ?_
      have c_97 := on_ch b_93 c_97o
      refine st_t b_96 rfl (by simp) fun s325 b_99 c_100o z_101 => ?_
      have c_100 := on_ch b_96 c_100o
      refine sB_f (by rfl) ?_
      refine nz_i ?_
      have h_102 := call9c.ch (((c_91.app c_94).app c_97).app c_100) (by simp)
      refine ld_t h_102 rfl ?_
      refine dPtr_i ?_
      have h_103 := call9d.mv (((c_91.app c_94).app c_97).app c_100) (rngn50 (by simp <;> omega))
      refine tcall (c_ablkE vpcall9 dcall9 U _ 8 256 64 0 _ h_103 hU (by unfold canG; omega) (by rw [hfl]; have e1 : Gcall9 = 1 := (by omega); have e2 : Bcall9 = 8 := (by omega); rw [e1, e2]; decide)) ?_
      rintro v_105 s_104 ⟨rfl, c_107, call10a⟩
      have z_108 := c_107.size
      refine dT3 ?_
      refine dInt_i ?_
      refine dInt_i ?_
      refine dInt_i ?_
      refine ret_t ?_
      exact ⟨rfl, (((((((((((Ch.refl [U, U + 3, U + 11, U + 20, U + 21, U + 22, U + 23, U + 30, U + 32] s).ch c_2 (by simp)).ch c_5 (by simp)).ch c_8 (by simp)).fr c_12 hM (by simp)).ch c_88 (by simp)).ch c_91 (by simp)).fr c_94 hM (by simp)).fr c_97 hM (by simp)).fr c_100 hM (by simp)).ch c_107 (by simp))⟩
end Go.Proofs.YtngploohhmfaiaaGreat.E
/- From a contract in states with marks to the kit's walk of a law. -/
namespace Go.Proofs.YtngploohhmfaiaaGreat.E
open Go Go.RowKit
set_option linter.unusedVariables false
theorem walkB {P : Program} {f : FuncId} {args : Array Value} {W : World}
    (h : TRet P f args ⟨W.heap, fun _ => 0⟩ fun v s' => v = .bool true ∧ Ch [] ⟨W.heap, fun _ => 0⟩ s') :
    Calls P f args W fun e W' => e = .returned (.bool true) ∧ Below W.heap.size W W' :=
  (h W rfl).mono fun e w' ⟨⟨v, s', he, hs, hv, hc⟩, hl⟩ =>
    ⟨by rw [he, hv], ⟨hl.os, hl.tape, hl.output, by rw [← hs]; exact hc.size, fun k hk => by rw [← hs]; exact hc.get k hk (by simp)⟩⟩
theorem walkT {P : Program} {f : FuncId} {args : Array Value} {W : World} {T : List Nat} (hT : 0 ∉ T)
    (h : TRet P f args ⟨W.heap, fun _ => 0⟩ fun v s' => v = .bool true ∧ Ch T ⟨W.heap, fun _ => 0⟩ s') :
    Calls P f args W fun e W' => e = .returned (.bool true) ∧ Below W.heap.size W W' :=
  walkB (h.mono fun v s' ⟨h1, h2⟩ => ⟨h1, Chg.mono h2 fun j _ hB => absurd hB hT⟩)
end Go.Proofs.YtngploohhmfaiaaGreat.E
/- The closed facts of a row, one by one. -/
namespace Go.Proofs.YtngploohhmfaiaaGreat.E
open Go
def kindsOf (P : Program) (fn : Func) (c : OpenClaim) : List (Option IntKind) := if c.domain.isEmpty then [] else fn.params.toList.map fun t => match P.underlying t with | some (.int k) => some k | _ => none
theorem andb {a b : Bool} (h : a = true) (k : b = true) : (a && b) = true := by rw [h, k]; rfl
theorem joined_of {P : Program} {f : FuncId} {fn : Func} {s : ChangeSpec} {c : OpenClaim}
    (j0 : (c.wf (OpenSpec.ofChange s)) = true)
    (j1 : (laidOutB P) = true)
    (j2 : (mapsRowed P) = true)
    (j3 : (fn.params.all (P.readableRec ·)) = true)
    (j4 : (namedTie P c.named s.vars) = true)
    (j5 : ((c.stops == [])) = true)
    (j6 : ((P.stops == [])) = true)
    (j7 : ((c.knobs == [])) = true)
    (j8 : ((P.stopKnobs == [])) = true)
    (j9 : ((c.inPlace == P.inPlace f)) = true)
    (j10 : ((c.unfollowed == P.unfollowed f)) = true)
    (j11 : ((c.recurses == P.recurses f)) = true)
    (j12 : ((c.named == P.varsNamed f)) = true)
    (j13 : ((c.maps == (fn.params.toList ++ s.plain.varTypes P).any (P.mapsRec ·))) = true)
    (j14 : ((c.ifaces == (fn.params.toList ++ s.plain.varTypes P).any (P.ifacesRec ·))) = true)
    (j15 : ((c.mapsOut == P.mapsAmong fn.resultTypes.toList)) = true)
    (j16 : ((c.loops == (fn.params.toList ++ s.plain.varTypes P).any (P.loopsFrom ·))) = true)
    (j17 : ((c.wideKeys == (fn.params.toList ++ s.plain.varTypes P ++ fn.resultTypes.toList).any (P.wideKeysFrom ·))) = true)
    (j18 : (s.vars.all (P.varReadable ·)) = true)
    (j19 : (fn.resultTypes.all (fun t => P.readableRec t && decide (t < P.types.size))) = true)
    (j20 : ((c.ifacesOut == fn.resultTypes.toList.any (P.ifacesRec ·))) = true)
    (j21 : ((c.loopsOut == fn.resultTypes.toList.any (P.loopsFrom ·))) = true)
    (j22 : ((c.plainKeys == P.plainKeys)) = true)
    (j23 : (c.shortTexts.isNone) = true)
    (j24 : (P.stopsHeard) = true)
    (j25 : (P.mayEnter) = true)
    (j26 : ((c.lifted == P.liftsFinal)) = true)
    (j27 : ((P.make == some c.make)) = true)
    (j28 : ((c.kinds == kindsOf P fn c)) = true)
    (j29 : ((c.pinned == c.pinnedBy)) = true)
    (j30 : ((c.veiled == (fn.params.toList ++ s.plain.varTypes P ++ fn.resultTypes.toList).any (P.veiledRec ·))) = true)
    (j31 : (c.veiledFits P fn.params.toList (fn.params.toList ++ s.plain.varTypes P ++ fn.resultTypes.toList)) = true)
    : joinedFacts P f fn s c = true := by
  unfold joinedFacts
  exact (andb (andb (andb (andb (andb (andb (andb (andb (andb (andb (andb (andb (andb (andb (andb (andb (andb (andb (andb (andb (andb (andb (andb (andb (andb (andb (andb (andb (andb (andb (andb j0 j1) j2) j3) j4) j5) j6) j7) j8) j9) j10) j11) j12) j13) j14) j15) j16) j17) j18) j19) j20) j21) j22) j23) j24) j25) j26) j27) j28) j29) j30) j31)
end Go.Proofs.YtngploohhmfaiaaGreat.E
