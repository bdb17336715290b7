/- Contracts of functions. -/
import Derived.Test.YtngploohhmfaiaaGreatProg
import Derived.KernelRfl
import Derived.Test.YtngploohhmfaiaaGreatLib2
import Derived.Test.YtngploohhmfaiaaGreatVv
namespace Go.Proofs.YtngploohhmfaiaaGreat.E
open Go Go.Proofs
set_option linter.unusedVariables false
/-- bollard/bollardlaw09.VolumeNobody -/
theorem w_vnobody (b c : Int) (s : TH) : TRet Tryz.prog 14 #[.int .i64 b, .int .i64 c] s fun v s' => v = .bool true ∧ Ch [30, 30 + 1, 50 + 31, 50] s s' := by
  refine F14_calls _ _  ?_
  unfold F14
  refine al_t 10 fun r1 s2 hr1 b_1 c_2 z_3 => ?_
  refine al_t 0 fun r3 s4 hr3 b_4 c_5 z_6 => ?_
  refine ⟨fun vs H' => ∃ s' : TH, s'.h = H' ∧ ∃ m, vs = [.int .i64 m] ∧ ChL [] [] s4 s' ∧ (∃ k : Nat, m = k ∧ k ≤ 2), fun vs H' => match vs with | [.int .i64 m] => (2 - m).toNat | _ => 0, ⟨s4, rfl, _, rfl, ChL.refl _ _ _, ?_⟩, ?_⟩
  ·
    exact ⟨0, rfl, by omega⟩
  ·
    intro m _ _ _ _ _ _ _ _ _ _ _ _ _ _ _ _ _ _ _ _ _ _ _ _ _ _ _ _ _ _ _ _ _ _ _ _ _ _ _ _ _ _ _ _ _ _ _ _ _ _ _ _ _ _ _ _ _ _ _ _ _ _ _ _ _ _ _ _ _ _ _ _ _ _ _ _ _ _ _ _ _ _ _ _ _ _ _ _ _ _ _ _ _ _ _ _ _ _ _ _ _ _ _ _ _ _ _ _ _ _ _ _ _ _ _ _ _ _ _ _ _ _ _ _ H132 hI
    obtain ⟨s132, rfl, m_, hvs, c_7, k, rfl, hk⟩ := hI
    cases hvs
    have z_8 := c_7.size
    refine sB_d (fun hsB1 => ?_) (fun hsB1 => ?_)
    ·
      refine ask_t (by omega) ?_
      have r1_9 := b_1.ch c_5 (by simp)
      have r1_10 := r1_9.chl c_7 (by simp <;> omega) (by simp <;> omega)
      have r3_11 := b_4.chl c_7 (by simp <;> omega) (by simp <;> omega)
      obtain ⟨p, hp, hno⟩ : ∃ p, ([.pointer none, .pointer (some ⟨r1, 0, none⟩)] : List Value)[k]? = some (.pointer p) ∧ NoV s132 p 10 := by rcases (by omega : k = 0 ∨ k = 1) with rfl | rfl <;> first | exact ⟨none, rfl, ⟨.inl rfl⟩⟩ | exact ⟨_, rfl, ⟨.inr ⟨r1, rfl, r1_10⟩⟩⟩
      refine ld_sl r3_11.sl (by rw [Int.toNat_natCast, Nat.mul_one]; exact hp) ?_
      refine dPtr_i ?_
      refine tcall (o_VRead _ p 10 hno) ?_
      rintro _ s137 ⟨rfl, c_12⟩
      have z_13 := c_12.size
      refine dT2 ?_
      refine dSl_i ?_
      refine dInt_i ?_
      refine al_t 0 fun r144 s145 hr144 b_14 c_15 z_16 => ?_
      have nv_17 := hno.mv c_12 (tagn (by simp))
      have nv_18 := nv_17.mv c_15 (tagn (by simp))
      refine tcall (o_VChange _ _ _ _ _ _ _ _ p 10 nv_18) ?_
      rintro _ s147 ⟨rfl, c_19⟩
      have z_20 := c_19.size
      refine dT2 ?_
      refine dInt_i ?_
      refine dInt_i ?_
      have nv_21 := nv_18.mv c_19 (tagn (by simp))
      refine tcall (o_VOld _ p 10 nv_21) ?_
      rintro _ s153 ⟨rfl, c_22⟩
      have z_23 := c_22.size
      refine dT2 ?_
      refine dSl_i ?_
      refine dInt_i ?_
      refine jn_u ?_
      refine wr_t (by omega) ?_
      refine sB_f (by rfl) ?_
      refine sB_f (by rfl) ?_
      refine sB_f (by rfl) ?_
      refine sB_f (by rfl) ?_
      refine sB_f (by rfl) ?_
      have nv_24 := nv_21.mv c_22 (tagn (by simp))
      refine tcall (o_VUndo _ p 10 nv_24) ?_
      rintro _ s335 ⟨rfl, c_25⟩
      have z_26 := c_25.size
      refine dInt_i ?_
      refine sB_f (by rfl) ?_
      have nv_27 := nv_24.mv c_25 (tagn (by simp))
      refine tcall (o_VWrite _ p 10 nv_27) ?_
      rintro _ s338 ⟨rfl, c_28⟩
      have z_29 := c_28.size
      refine dInt_i ?_
      refine sB_f (by rfl) ?_
      have nv_30 := nv_27.mv c_28 (tagn (by simp))
      refine tcall (o_VComplete _ _ p 10 nv_30) ?_
      rintro _ s341 ⟨rfl, c_31⟩
      have z_32 := c_31.size
      refine dInt_i ?_
      intro _ _ _ _ _ _ _ _ _ _ _ _ _ _ _ _ _ _ _ _ _ _ _ _ _ _ _ _ _ _ _ _ _ _ _ _ _ _ _
      refine dBl_i ?_
      refine sB_f (by rfl) ?_
      refine jn_u ?_
      have nv_33 := nv_30.mv c_31 (tagn (by simp))
      refine tcall (o_VSync _ _ _ p 10 nv_33) ?_
      rintro _ s260 ⟨rfl, c_34⟩
      have z_35 := c_34.size
      refine dInt_i ?_
      refine sB_f (by rfl) ?_
      have nv_36 := nv_33.mv c_34 (tagn (by simp))
      refine tcall (o_VFreeze _ p 10 nv_36) ?_
      rintro _ s263 ⟨rfl, c_37⟩
      have z_38 := c_37.size
      refine dInt_i ?_
      refine sB_f (by rfl) ?_
      have nv_39 := nv_36.mv c_37 (tagn (by simp))
      refine tcall (o_VThaw p 10 nv_39) ?_
      rintro _ s266 ⟨rfl, c_40⟩
      have z_41 := c_40.size
      refine dInt_i ?_
      refine sB_f (by rfl) ?_
      have nv_42 := nv_39.mv c_40 (tagn (by simp))
      refine tcall (o_VIsDone _ p 10 nv_42) ?_
      rintro _ s269 ⟨rfl, c_43⟩
      have z_44 := c_43.size
      refine dBl_i ?_
      refine sB_f (by rfl) ?_
      have nv_45 := nv_42.mv c_43 (tagn (by simp))
      refine tcall (o_VBroken p 10 nv_45) ?_
      rintro _ s272 ⟨rfl, c_46⟩
      have z_47 := c_46.size
      refine dBl_i ?_
      refine sB_f (by rfl) ?_
      have nv_48 := nv_45.mv c_46 (tagn (by simp))
      refine tcall (o_VKept p 10 nv_48) ?_
      rintro _ s275 ⟨rfl, c_49⟩
      have z_50 := c_49.size
      refine dInt_i ?_
      have nv_51 := nv_48.mv c_49 (tagn (by simp))
      refine tcall (o_VLast p 10 nv_51) ?_
      rintro _ s278 ⟨rfl, c_52⟩
      have z_53 := c_52.size
      refine dInt_i ?_
      refine wr_t (by omega) ?_
      have nv_54 := nv_51.mv c_52 (tagn (by simp))
      refine tcall (o_VBlocks p 10 nv_54) ?_
      rintro _ s282 ⟨rfl, c_55⟩
      have z_56 := c_55.size
      refine dInt_i ?_
      refine wr_t (by omega) ?_
      refine sB_f (by rfl) ?_
      have nv_57 := nv_54.mv c_55 (tagn (by simp))
      refine tcall (o_VDirty p 10 nv_57) ?_
      rintro _ s286 ⟨rfl, c_58⟩
      have z_59 := c_58.size
      refine dSl_i ?_
      have nv_60 := nv_57.mv c_58 (tagn (by simp))
      refine tcall (o_VPending _ p 10 nv_60) ?_
      rintro _ s291 ⟨rfl, c_61⟩
      have z_62 := c_61.size
      refine dSl_i ?_
      refine wr_t (by omega) ?_
      have nv_63 := nv_60.mv c_61 (tagn (by simp))
      refine tcall (o_VReady p 10 nv_63) ?_
      rintro _ s297 ⟨rfl, c_64⟩
      have z_65 := c_64.size
      refine dSl_i ?_
      refine wr_t (by omega) ?_
      have nv_66 := nv_63.mv c_64 (tagn (by simp))
      refine tcall (o_VWay p 10 nv_66) ?_
      rintro _ s303 ⟨rfl, c_67⟩
      have z_68 := c_67.size
      refine dSl_i ?_
      refine wr_t (by omega) ?_
      intro _ _ _ _ _ _ _ _ _ _ _ _ _ _ _ _ _ _ _ _ _ _ _ _ _ _ _ _ _ _ _ _ _ _ _ _ _ _ _ _ _ _ _ _ _ _ _ _ _ _ _ _
      refine dBl_i ?_
      refine sB_f (by rfl) ?_
      refine wr_t (by omega) ?_
      refine ⟨⟨s303, rfl, _, rfl, (((((((((((((((((((((ChL.refl [] [] s4).chl c_7 (by simp) (by simp <;> omega)).ch c_12 (by simp)).ch c_15 (by simp)).ch c_19 (by simp)).ch c_22 (by simp)).ch c_25 (by simp)).ch c_28 (by simp)).ch c_31 (by simp)).ch c_34 (by simp)).ch c_37 (by simp)).ch c_40 (by simp)).ch c_43 (by simp)).ch c_46 (by simp)).ch c_49 (by simp)).ch c_52 (by simp)).ch c_55 (by simp)).ch c_58 (by simp)).ch c_61 (by simp)).ch c_64 (by simp)).ch c_67 (by simp)), ?_⟩, ?_⟩
      ·
        exact ⟨k + 1, by omega, by omega⟩
      ·
        simp <;> omega
    ·
      refine al_t 20 fun r355 s356 hr355 b_69 c_70 z_71 => ?_
      refine al_t 0 fun r357 s358 hr357 b_72 c_73 z_74 => ?_
      refine ⟨fun vs H' => ∃ s' : TH, s'.h = H' ∧ ∃ m, vs = [.int .i64 m] ∧ ChL [] [] s358 s' ∧ (∃ k : Nat, m = k ∧ k ≤ 2), fun vs H' => match vs with | [.int .i64 m] => (2 - m).toNat | _ => 0, ⟨s358, rfl, _, rfl, ChL.refl _ _ _, ?_⟩, ?_⟩
      ·
        exact ⟨0, rfl, by omega⟩
      ·
        intro m _ _ _ _ _ _ _ _ _ _ _ _ _ _ _ _ _ _ _ H381 hI
        obtain ⟨s381, rfl, m_, hvs, c_75, k, rfl, hk⟩ := hI
        cases hvs
        have z_76 := c_75.size
        refine sB_d (fun hsB17 => ?_) (fun hsB17 => ?_)
        ·
          refine ask_t (by omega) ?_
          have r355_77 := b_69.ch c_73 (by simp)
          have r355_78 := r355_77.chl c_75 (by simp <;> omega) (by simp <;> omega)
          have r357_79 := b_72.chl c_75 (by simp <;> omega) (by simp <;> omega)
          obtain ⟨p, hp, hno2⟩ : ∃ p, ([.pointer none, .pointer (some ⟨r355, 0, none⟩)] : List Value)[k]? = some (.pointer p) ∧ NoD s381 p 20 := by rcases (by omega : k = 0 ∨ k = 1) with rfl | rfl <;> first | exact ⟨none, rfl, ⟨.inl rfl⟩⟩ | exact ⟨_, rfl, ⟨.inr ⟨r355, rfl, r355_78⟩⟩⟩
          refine ld_sl r357_79.sl (by rw [Int.toNat_natCast, Nat.mul_one]; exact hp) ?_
          refine dPtr_i ?_
          refine tcall (o_Open 4 p 20 hno2) ?_
          rintro _ s386 ⟨rfl, c_80⟩
          have z_81 := c_80.size
          refine dT2 ?_
          refine dPtr_i ?_
          refine dInt_i ?_
          refine jn_u ?_
          refine sB_f (by rfl) ?_
          intro _ _ _ _ _
          refine dBl_i ?_
          refine sB_f (by rfl) ?_
          refine wr_t (by omega) ?_
          refine ⟨⟨s386, rfl, _, rfl, (((ChL.refl [] [] s358).chl c_75 (by simp) (by simp <;> omega)).ch c_80 (by simp)), ?_⟩, ?_⟩
          ·
            exact ⟨k + 1, by omega, by omega⟩
          ·
            simp <;> omega
        ·
          refine tcall (c_begun0 30 50 2 _ (by omega) (by omega)) ?_
          rintro _ s404 ⟨r, d, c, cm, p, p1, p2, w, rfl, c_82, D_84, v_85, _⟩
          have z_83 := c_82.size
          refine dT3 ?_
          refine dPtr_i ?_
          refine dPtr_i ?_
          refine dBl_i ?_
          refine sB_t (by rfl) ?_
          refine tcall (c_VBlocks r 50 d 30 _ (by omega) (by omega) v_85 D_84) ?_
          rintro _ s412 ⟨rfl, c_86, _⟩
          have z_87 := c_86.size
          refine dInt_i ?_
          refine ret_t ?_
          exact ⟨rfl, (((((((((Ch.refl [30, 30 + 1, 50 + 31, 50] s).ch c_2 (by simp)).ch c_5 (by simp)).chl c_7 (by simp) (by simp <;> omega)).ch c_70 (by simp)).ch c_73 (by simp)).chl c_75 (by simp) (by simp <;> omega)).ch c_82 (by simp)).ch c_86 (by simp))⟩

end Go.Proofs.YtngploohhmfaiaaGreat.E
