/- Contracts of functions. -/
import Derived.Test.YtngploohhmfaiaaGreatProg
import Derived.KernelRfl
import Derived.Test.YtngploohhmfaiaaGreatLib2
import Derived.Test.YtngploohhmfaiaaGreatVb
import Derived.Test.YtngploohhmfaiaaGreatVn
namespace Go.Proofs.YtngploohhmfaiaaGreat.E
open Go Go.Proofs
set_option linter.unusedVariables false
/-- bollard/cache.New -/
theorem c_cnew (T d : Nat) (D : DiskM) (T2 : Nat) (b : Int) (s : TH) (hT : 10 ≤ T) (hd : Disk s d T D) (hb : 1 ≤ b ∧ b ≤ 64) : TRet Tryz.prog 81 #[.pointer (some ⟨d, 0, none⟩), .int .i64 b] s fun v s' => ∃ c r, v = .tuple #[.pointer (some ⟨c, 0, none⟩), .int .i64 0] ∧ Ch [] s s' ∧ Blk s' c [.pointer (some ⟨d, 0, none⟩), .int .i64 b, .map (some r), .int .i64 0, .int .i64 0, .int .i64 0] 203 T2 ∧ MapK (Value.int .i64) s' r [] (T2 + 1) := by
  have hnb : 1 ≤ D.blocks.length := by obtain ⟨_, _, _, _, _, _, _, _, h⟩ := id hd; exact h.nb.1
  refine F81_calls _ _  ?_
  unfold F81
  refine tcall (c_blocks _ _ _ _ hT hd) ?_
  rintro _ s2 ⟨rfl, c_1⟩
  have z_2 := c_1.size
  refine dInt_i ?_
  refine sB_eq (fun hsB1 => ?_) (fun hsB1 => ?_)
  ·
    refine ret_t ?_
    omega
  ·
    refine jn_u ?_
    refine sB_d (fun hsB2 => by exfalso; omega) (fun hsB2 => ?_)
    intro _ _ _ _ _
    refine dBl_i ?_
    first | refine sB_d (fun hsB3 => ?_) (fun hsB3 => ?_) | refine sB_nd (fun hsB3 => ?_) (fun hsB3 => ?_) | refine sB_n (fun hsB3 => ?_) (fun hsB3 => ?_) | refine sB_i (fun hsB3 => ?_) (fun hsB3 => ?_)
    ·
      refine ret_t ?_
      simp at hsB3; omega
    ·
      refine alm_t (Value.int .i64) (T2 + 1) fun r12 s13 hr12 m_3 c_4 z_5 => ?_
      refine al_t T2 fun r14 s15 hr14 b_6 c_7 z_8 => ?_
      refine ret_t ?_
      have r12_9 := m_3.ch c_7 (by simp)
      exact ⟨r14, r12, rfl, ((((Ch.refl [] s).ch c_1 (by simp)).ch c_4 (by simp)).ch c_7 (by simp)), b_6, r12_9⟩

/-- bollard/patch.New -/
theorem c_pnew (T : Nat) (s : TH) : TRet Tryz.prog 82 #[] s fun v s' => ∃ p r1 r2, v = .pointer (some ⟨p, 0, none⟩) ∧ Ch [] s s' ∧ Blk s' p [.int .i64 0, .map (some r1), .map (some r2), .bool true] 192 T ∧ MapK (Value.int .i64) s' r1 [] (T + 1) ∧ MapK (Value.int .i64) s' r2 [] (T + 2) := by
  refine F82_calls  ?_
  unfold F82
  refine alm_t (Value.int .i64) (T + 1) fun r1 s2 hr1 m_1 c_2 z_3 => ?_
  refine alm_t (Value.int .i64) (T + 2) fun r3 s4 hr3 m_4 c_5 z_6 => ?_
  refine al_t T fun r5 s6 hr5 b_7 c_8 z_9 => ?_
  refine ret_t ?_
  have r1_10 := m_1.ch c_5 (by simp)
  have r1_11 := r1_10.ch c_8 (by simp)
  have r3_12 := m_4.ch c_8 (by simp)
  exact ⟨r5, r1, r3, rfl, ((((Ch.refl [] s).ch c_2 (by simp)).ch c_5 (by simp)).ch c_8 (by simp)), b_7, r1_11, r3_12⟩

/-- (*bollard/disk.Disk).Blocks -/
theorem o_Blocksn (s : TH) : TRet Tryz.prog 70 #[.pointer none] s fun v s' => v = .int .i64 0 ∧ Ch [] s s' := by
  refine F70_calls _  ?_
  unfold F70
  refine sB_t (by rfl) ?_
  refine ret_t ?_
  exact ⟨rfl, (Ch.refl [] s)⟩

/-- bollard/cache.New -/
theorem o_Newn (b : Int) (s : TH) : TRet Tryz.prog 81 #[.pointer none, .int .i64 b] s fun v s' => v = .tuple #[.pointer none, .int .i64 2] ∧ Ch [] s s' := by
  refine F81_calls _ _  ?_
  unfold F81
  refine tcall (o_Blocksn _) ?_
  rintro _ s2 ⟨rfl, c_1⟩
  have z_2 := c_1.size
  refine dInt_i ?_
  refine sB_t (by rfl) ?_
  refine ret_t ?_
  exact ⟨rfl, ((Ch.refl [] s).ch c_1 (by simp))⟩

/-- (*bollard/disk.Disk).Blocks -/
theorem o_Blocksz (d τ : Nat) (s : TH) (hc : Blk s d [.slice none 0 0, .slice none 0 0, .map none, .int .i64 0] 133 τ) : TRet Tryz.prog 70 #[.pointer (some ⟨d, 0, none⟩)] s fun v s' => v = .int .i64 0 ∧ Ch [] s s' := by
  refine F70_calls _  ?_
  unfold F70
  refine sB_f (by rfl) ?_
  refine nz_i ?_
  refine ld_t hc rfl ?_
  refine dSl_i ?_
  refine ret_t ?_
  exact ⟨rfl, (Ch.refl [] s)⟩

/-- bollard/cache.New -/
theorem o_Newz (d τ : Nat) (b : Int) (s : TH) (hc : Blk s d [.slice none 0 0, .slice none 0 0, .map none, .int .i64 0] 133 τ) : TRet Tryz.prog 81 #[.pointer (some ⟨d, 0, none⟩), .int .i64 b] s fun v s' => v = .tuple #[.pointer none, .int .i64 2] ∧ Ch [] s s' := by
  refine F81_calls _ _  ?_
  unfold F81
  refine tcall (o_Blocksz _ _ _ hc) ?_
  rintro _ s2 ⟨rfl, c_1⟩
  have z_2 := c_1.size
  refine dInt_i ?_
  refine sB_t (by rfl) ?_
  refine ret_t ?_
  exact ⟨rfl, ((Ch.refl [] s).ch c_1 (by simp))⟩


/-- a disk that no call made -/
structure NoD (s : TH) (p : Option Addr) (τ : Nat) : Prop where
  h : p = none ∨ ∃ c, p = some ⟨c, 0, none⟩ ∧ Blk s c [.slice none 0 0, .slice none 0 0, .map none, .int .i64 0] 133 τ
theorem NoD.mv {s s' : TH} {p : Option Addr} {τ : Nat} {B : Nat → Prop} (h : NoD s p τ) (c : Chg B s s') (hn : ∀ j, j < s.h.size → s.g j = τ → ¬ B j) : NoD s' p τ := by
  rcases h.h with h | ⟨r, h1, h2⟩
  · exact ⟨.inl h⟩
  · exact ⟨.inr ⟨r, h1, h2.mv c (hn r h2.lt h2.tag)⟩⟩
theorem o_New (b : Int) (p : Option Addr) (τ : Nat) {s : TH} (h : NoD s p τ) : TRet Tryz.prog 81 #[.pointer p, .int .i64 b] s fun v s' => v = .tuple #[.pointer none, .int .i64 2] ∧ Ch [] s s' := by
  rcases h.h with rfl | ⟨c, rfl, hb⟩
  · exact o_Newn b s
  · exact o_Newz c τ b s hb

/-- bollard/volume.Open -/
theorem o_Open (b : Int) (p : Option Addr) (τ : Nat) {s : TH} (h : NoD s p τ) : TRet Tryz.prog 31 #[.pointer p, .int .i64 b] s fun v s' => v = .tuple #[.pointer none, .int .i64 2] ∧ Ch [] s s' := by
  refine F31_calls _ _  ?_
  unfold F31
  refine tcall (o_New b p τ h) ?_
  rintro _ s2 ⟨rfl, c_1⟩
  have z_2 := c_1.size
  refine dT2 ?_
  refine dPtr_i ?_
  refine dInt_i ?_
  refine sB_t (by rfl) ?_
  refine ret_t ?_
  exact ⟨rfl, ((Ch.refl [] s).ch c_1 (by simp))⟩

/-- bollard/volume.Open -/
theorem c_vopen (T d : Nat) (D : DiskM) (U : Nat) (b : Int) (s : TH) (hT : 10 ≤ T) (hU : T + 10 ≤ U) (hd : Disk s d T D) (hb : 1 ≤ b ∧ b ≤ 64) : TRet Tryz.prog 31 #[.pointer (some ⟨d, 0, none⟩), .int .i64 b] s fun v s' => ∃ r c cm p p1 p2 w, v = .tuple #[.pointer (some ⟨r, 0, none⟩), .int .i64 0] ∧ Ch [] s s' ∧ Blk s' r [.int .i32 0, .int .u32 0, .pointer (some ⟨d, 0, none⟩), .pointer (some ⟨c, 0, none⟩), .pointer (some ⟨p, 0, none⟩), .map (some w), .bool false, .bool false, .int .i64 0, .map none] 57 U ∧ MapK (Value.int .i64) s' w [] (U + 1) ∧ Blk s' c [.pointer (some ⟨d, 0, none⟩), .int .i64 b, .map (some cm), .int .i64 0, .int .i64 0, .int .i64 0] 203 (U + 10) ∧ MapK (Value.int .i64) s' cm [] (U + 11) ∧ Blk s' p [.int .i64 0, .map (some p1), .map (some p2), .bool true] 192 (U + 20) ∧ MapK (Value.int .i64) s' p1 [] (U + 21) ∧ MapK (Value.int .i64) s' p2 [] (U + 22) := by
  refine F31_calls _ _  ?_
  unfold F31
  refine tcall (c_cnew T d D (U + 10) b _ hT hd hb) ?_
  rintro _ s2 ⟨c, cm, rfl, c_1, cb_3, cmm_4⟩
  have z_2 := c_1.size
  refine dT2 ?_
  refine dPtr_i ?_
  refine dInt_i ?_
  refine sB_f (by rfl) ?_
  refine tcall (c_pnew (U + 20) _) ?_
  rintro _ s8 ⟨p, p1, p2, rfl, c_5, pb_7, pm1_8, pm2_9⟩
  have z_6 := c_5.size
  refine dPtr_i ?_
  refine alm_t (Value.int .i64) (U + 1) fun r10 s11 hr10 m_10 c_11 z_12 => ?_
  refine al_t U fun r12 s13 hr12 b_13 c_14 z_15 => ?_
  refine ret_t ?_
  have r10_16 := m_10.ch c_14 (by simp)
  have cb_17 := cb_3.ch c_5 (by simp)
  have cb_18 := cb_17.ch c_11 (by simp)
  have cb_19 := cb_18.ch c_14 (by simp)
  have cmm_20 := cmm_4.ch c_5 (by simp)
  have cmm_21 := cmm_20.ch c_11 (by simp)
  have cmm_22 := cmm_21.ch c_14 (by simp)
  have pb_23 := pb_7.ch c_11 (by simp)
  have pb_24 := pb_23.ch c_14 (by simp)
  have pm1_25 := pm1_8.ch c_11 (by simp)
  have pm1_26 := pm1_25.ch c_14 (by simp)
  have pm2_27 := pm2_9.ch c_11 (by simp)
  have pm2_28 := pm2_27.ch c_14 (by simp)
  exact ⟨r12, c, cm, p, p1, p2, r10, rfl, (((((Ch.refl [] s).ch c_1 (by simp)).ch c_5 (by simp)).ch c_11 (by simp)).ch c_14 (by simp)), b_13, r10_16, cb_19, cmm_22, pb_24, pm1_26, pm2_28⟩

/-- (*bollard/volume.Volume).held -/
theorem c_vheld (r τ : Nat) {d : Addr} {v3 v4 v5 v6 v7 v8 v9 : Value} {s : TH} (hr : Blk s r [.int .i32 0, .int .u32 0, .pointer (some d), v3, v4, v5, v6, v7, v8, v9] 57 τ) : TRet Tryz.prog 68 #[.pointer (some ⟨r, 0, none⟩)] s fun v s' => v = .bool true ∧ Ch [τ] s s' ∧ Blk s' r [.int .i32 1, .int .u32 0, .pointer (some d), v3, v4, v5, v6, v7, v8, v9] 57 τ := by
  refine F68_calls _  ?_
  unfold F68
  refine sB_f (by rfl) ?_
  refine nz_i ?_
  refine tcall (c_mlock Tryz.muLib hr rfl) ?_
  rintro _ s3 ⟨rfl, c_1, v_3⟩
  have z_2 := c_1.size
  refine nz_i ?_
  refine ld_t v_3 rfl ?_
  refine dPtr_i ?_
  refine sB_f (by rfl) ?_
  refine ret_t ?_
  exact ⟨rfl, ((Ch.refl [τ] s).ch c_1 (by simp)), v_3⟩

/-- (*bollard/volume.Volume).Blocks -/
theorem c_VBlocks (r τ d T : Nat) (D : DiskM) {v3 v4 v5 v6 v7 v8 v9 : Value} {s : TH} (hT : 10 ≤ T) (hτ : τ < T ∨ T + 10 ≤ τ) (hr : Blk s r [.int .i32 0, .int .u32 0, .pointer (some ⟨d, 0, none⟩), v3, v4, v5, v6, v7, v8, v9] 57 τ) (hd : Disk s d T D) : TRet Tryz.prog 24 #[.pointer (some ⟨r, 0, none⟩)] s fun v s' => v = .int .i64 D.blocks.length ∧ Ch [τ] s s' ∧ Blk s' r [.int .i32 0, .int .u32 0, .pointer (some ⟨d, 0, none⟩), v3, v4, v5, v6, v7, v8, v9] 57 τ := by
  refine F24_calls _  ?_
  unfold F24
  refine tcall (c_vheld r τ hr) ?_
  rintro _ s2 ⟨rfl, c_1, v_3⟩
  have z_2 := c_1.size
  refine dBl_i ?_
  refine sB_f (by rfl) ?_
  refine nz_i ?_
  refine nz_i ?_
  refine ld_t v_3 rfl ?_
  refine dPtr_i ?_
  have D_4 := hd.mv c_1 (rngn (by simp <;> omega))
  refine tcall (c_blocks _ _ _ _ hT D_4) ?_
  rintro _ s9 ⟨rfl, c_5⟩
  have z_6 := c_5.size
  refine dInt_i ?_
  have v_7 := v_3.ch c_5 (by simp)
  refine c_door Tryz.muLib v_7 (by rfl) (fun _ => by rfl) fun s13 b_8 c_9 z_10 => ?_
  refine ret_t ?_
  exact ⟨rfl, ((((Ch.refl [τ] s).ch c_1 (by simp)).ch c_5 (by simp)).on_tag c_9 v_7.tag (by simp)), b_8⟩

/-- bollard/bollardlaw09.begun -/
theorem c_begun0 (T U : Nat) (x : Int) (s : TH) (hT : 10 ≤ T) (hU : T + 10 ≤ U) : TRet Tryz.prog 43 #[.int .i64 x, .slice none 0 0] s fun v s' => ∃ r d c cm p p1 p2 w, v = .tuple #[.pointer (some ⟨r, 0, none⟩), .pointer (some ⟨d, 0, none⟩), .bool true] ∧ Ch [T, T + 1, U + 31] s s' ∧ Disk s' d T (diskOf (imgs (nblk8 x))) ∧ Blk s' r [.int .i32 0, .int .u32 0, .pointer (some ⟨d, 0, none⟩), .pointer (some ⟨c, 0, none⟩), .pointer (some ⟨p, 0, none⟩), .map (some w), .bool false, .bool false, .int .i64 0, .map none] 57 U ∧ MapK (Value.int .i64) s' w [] (U + 1) ∧ Blk s' c [.pointer (some ⟨d, 0, none⟩), .int .i64 64, .map (some cm), .int .i64 0, .int .i64 0, .int .i64 0] 203 (U + 10) ∧ MapK (Value.int .i64) s' cm [] (U + 11) ∧ Blk s' p [.int .i64 0, .map (some p1), .map (some p2), .bool true] 192 (U + 20) ∧ MapK (Value.int .i64) s' p1 [] (U + 21) ∧ MapK (Value.int .i64) s' p2 [] (U + 22) := by
  refine F43_calls _ _ _ _  ?_
  unfold F43
  refine tcall (c_vblocks (U + 30) x _) ?_
  rintro _ s2 ⟨a, sc, hs, rfl, c_1, rows_3, brel_4⟩
  have z_2 := c_1.size
  refine dSl_i ?_
  refine tcall (c_of T sc hT rows_3.sl brel_4 (by rw [BRel.len brel_4]; simp [imgs]) (by have := nblk8_le x; omega) (by omega) (by omega)) ?_
  rintro _ s7 ⟨d, rfl, c_5, D_7⟩
  have z_6 := c_5.size
  refine dT2 ?_
  refine dPtr_i ?_
  refine dInt_i ?_
  refine tcall (c_vopen T d _ U 64 _ hT hU D_7 (by omega)) ?_
  rintro _ s13 ⟨r, c, cm, p, p1, p2, w, rfl, c_8, v_10, w_11, cb_12, cmm_13, pb_14, pm1_15, pm2_16⟩
  have z_9 := c_8.size
  refine dT2 ?_
  refine dPtr_i ?_
  refine dInt_i ?_
  refine jn_u ?_
  refine sB_f (by rfl) ?_
  refine sB_f (by rfl) ?_
  intro _ _ _ _ _ _ _ _ _
  refine dBl_i ?_
  refine sB_f (by rfl) ?_
  refine jn_u ?_
  refine ⟨fun vs H' => ∃ s' : TH, s'.h = H' ∧ ∃ m, vs = [.int .i64 m] ∧ ChL [] [] s13 s' ∧ (m = 0), fun vs H' => match vs with | [.int .i64 m] => 0 | _ => 0, ⟨s13, rfl, _, rfl, ChL.refl _ _ _, ?_⟩, ?_⟩
  ·
    rfl
  ·
    intro m _ _ _ _ _ _ _ _ _ _ _ _ _ _ _ _ H70 hI
    obtain ⟨s70, rfl, m_, hvs, c_17, rfl⟩ := hI
    cases hvs
    have z_18 := c_17.size
    refine sB_d (fun hsB4 => by exfalso; omega) (fun hsB4 => ?_)
    intro _ _ _ _ _ _ _ _ _ _ _ _ _ _ _ _ _ _ _
    refine ret_t ?_
    have D_19 := D_7.mv c_8 (rngn (by simp <;> omega))
    have D_20 := D_19.mv c_17 (rngL (by simp <;> omega) (by simp))
    have v_21 := v_10.chl c_17 (by simp <;> omega) (by simp <;> omega)
    have w_22 := w_11.chl c_17 (by simp <;> omega) (by simp <;> omega)
    have cb_23 := cb_12.chl c_17 (by simp <;> omega) (by simp <;> omega)
    have cmm_24 := cmm_13.chl c_17 (by simp <;> omega) (by simp <;> omega)
    have pb_25 := pb_14.chl c_17 (by simp <;> omega) (by simp <;> omega)
    have pm1_26 := pm1_15.chl c_17 (by simp <;> omega) (by simp <;> omega)
    have pm2_27 := pm2_16.chl c_17 (by simp <;> omega) (by simp <;> omega)
    exact ⟨r, d, c, cm, p, p1, p2, w, rfl, (((((Ch.refl [T, T + 1, U + 31] s).ch c_1 (by simp)).ch c_5 (by simp)).ch c_8 (by simp)).chl c_17 (by simp) (by simp <;> omega)), D_20, v_21, w_22, cb_23, cmm_24, pb_25, pm1_26, pm2_27⟩

end Go.Proofs.YtngploohhmfaiaaGreat.E
