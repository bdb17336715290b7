/- Contracts of functions. -/
import Derived.Test.YtmgjdmohmhaemaaProg
import Derived.KernelRfl
import Derived.Test.YtmgjdmohmhaemaaLib2
import Derived.Test.YtmgjdmohmhaemaaNo
import Derived.Test.YtmgjdmohmhaemaaHs
namespace Go.Proofs.Ytmgjdmohmhaemaa.E
open Go Go.Proofs Go.RowKit Go.Maps Go.Shelf Go.Sort
set_option linter.unusedVariables false
/-- maps.Keys[map[int]*bollard/cache.buffer,int,*bollard/cache.buffer] -/
theorem o_keys0 (s : TH) : TRet Try.prog 67 #[.map none] s fun v s' => ∃ B, v = .func (.func 105) #[] #[.pointer (some ⟨B, 0, none⟩)] ∧ Ch [] s s' ∧ Blk s' B [.map none] 69 0 := by
  refine F67_calls _  ?_
  unfold F67
  refine al_t 0 fun r1 s2 hr1 b_1 c_2 z_3 => ?_
  refine ret_t ?_
  exact ⟨r1, rfl, ((Ch.refl [] s).ch c_2 (by simp)), b_1⟩

theorem dT5 {a b c d e : Value} {k : VF 5} (h : (k : Value → Value → Value → Value → Value → Prop) a b c d e) : dT 5 (.tuple #[a, b, c, d, e]) k := h
theorem o_sfun0 (Bm tb τb f0 : Nat) {s : TH} (hB : Blk s Bm [.map none] tb τb) : TRet Try.prog 66 #[.func (.func 105) #[] #[.pointer (some ⟨Bm, 0, none⟩)], .func (.func 68) #[] #[.pointer (some ⟨f0, 0, none⟩)]] s fun v s' => v = .slice none 0 0 ∧ Ch [] s s' := by
  refine F66_calls _ _ _ _ _ _ ?_
  unfold F66
  refine tcall (c_collect0 _ _ _ hB) ?_
  rintro _ s1 ⟨rfl, c1⟩
  refine dSl_i ?_
  have h : TRet Try.prog 104 #[.slice none 0 0, .func (.func 68) #[] #[.pointer (some ⟨f0, 0, none⟩)]] s1 fun v s' => v = .tuple #[] ∧ s' = s1 := by
    intro w hw
    refine (AnyF.slices_SortFunc_none (ρ := Try.sortFA_ren) { Try.sortFA with } none 0 (.func (.func 68) #[] #[.pointer (some ⟨f0, 0, none⟩)]) w).mono ?_
    rintro e w' ⟨rfl, rfl⟩
    exact ⟨⟨_, s1, rfl, hw.symm, rfl, rfl⟩, Like.refl _⟩
  refine tcall h ?_
  rintro _ s2 ⟨rfl, rfl⟩
  exact ret_t ⟨rfl, c1⟩

/-- (*bollard/cache.Cache).Held -/
theorem o_Heldz (c τ : Nat) (s : TH) (hc : Blk s c [.pointer none, .int .i64 0, .map none, .int .i64 0, .int .i64 0, .int .i64 0] 71 τ) : TRet Try.prog 27 #[.pointer (some ⟨c, 0, none⟩)] s fun v s' => v = .slice none 0 0 ∧ Ch [] s s' := by
  refine F27_calls _  ?_
  unfold F27
  refine al_t 0 fun r1 s2 hr1 b_1 c_2 z_3 => ?_
  refine ld_t b_1 rfl ?_
  refine dPtr_i ?_
  refine sB_f (by rfl) ?_
  refine ld_t b_1 rfl ?_
  refine dPtr_i ?_
  refine nz_i ?_
  have c0_4 := hc.ch c_2 (by simp)
  first | refine ld_t c0_4 rfl ?_
  refine dMap_i ?_
  refine tcall (o_keys0 _) ?_
  rintro _ s11 ⟨B, rfl, c_5, B_7⟩
  have z_6 := c_5.size
  refine tcall (o_sfun0 B _ _ _ B_7) ?_
  rintro _ s13 ⟨rfl, c_8⟩
  have z_9 := c_8.size
  refine dSl_i ?_
  refine ret_t ?_
  exact ⟨rfl, ((((Ch.refl [] s).ch c_2 (by simp)).ch c_5 (by simp)).ch c_8 (by simp))⟩


theorem o_Held (p : Option Addr) (τ : Nat) {s : TH} (h : NoC s p τ) : TRet Try.prog 27 #[.pointer p] s fun v s' => v = .slice none 0 0 ∧ Ch [] s s' ∧ NoC s' p τ := by
  have hk := h
  rcases h.h with rfl | ⟨c, rfl, hb⟩
  · exact (o_Heldn s).mono fun v s' h2 => ⟨h2.1, h2.2, hk.mv h2.2 (tagn (by simp))⟩
  · exact (o_Heldz c τ s hb).mono fun v s' h2 => ⟨h2.1, h2.2, hk.mv h2.2 (tagn (by simp))⟩

/-- bollard/bollardlaw06.CacheNobody -/
theorem w_nobody (b : Int) (s : TH) : TRet Try.prog 7 #[.int .i64 b] s fun v s' => v = .bool true ∧ Ch [10, 30, 30 + 1, 30 + 2, 30 + 3, 30 + 4, 50, 50 + 1, 50 + 2, 50 + 3, 50 + 4] s s' := by
  refine F7_calls _  ?_
  unfold F7
  refine al_t 10 fun r1 s2 hr1 b_1 c_2 z_3 => ?_
  refine al_t 0 fun r3 s4 hr3 b_4 c_5 z_6 => ?_
  refine ⟨fun vs H' => ∃ s' : TH, s'.h = H' ∧ ∃ m, vs = [.int .i64 m] ∧ ChL [] [] s4 s' ∧ (∃ k : Nat, m = k ∧ k ≤ 2), fun vs H' => match vs with | [.int .i64 m] => (2 - m).toNat | _ => 0, ⟨s4, rfl, _, rfl, ChL.refl _ _ _, ?_⟩, ?_⟩
  ·
    exact ⟨0, rfl, by omega⟩
  ·
    intro m _ _ _ _ _ _ _ _ _ _ _ _ _ _ _ _ _ _ _ _ _ _ _ _ _ _ _ _ _ _ _ _ _ _ _ _ _ _ _ _ _ _ _ _ _ _ _ _ _ _ _ _ _ _ _ _ _ _ _ _ _ _ _ _ _ _ _ H75 hI
    obtain ⟨s75, rfl, m_, hvs, c_7, k, rfl, hk⟩ := hI
    cases hvs
    have z_8 := c_7.size
    refine sB_d (fun hsB1 => ?_) (fun hsB1 => ?_)
    ·
      refine ask_t (by omega) ?_
      have r1_9 := b_1.ch c_5 (by simp)
      have r1_10 := r1_9.chl c_7 (by simp <;> omega) (by simp <;> omega)
      have r3_11 := b_4.chl c_7 (by simp <;> omega) (by simp <;> omega)
      obtain ⟨p, hp, hno⟩ : ∃ p, ([.pointer none, .pointer (some ⟨r1, 0, none⟩)] : List Value)[k]? = some (.pointer p) ∧ NoC s75 p 10 := by rcases (by omega : k = 0 ∨ k = 1) with rfl | rfl <;> first | exact ⟨none, rfl, ⟨.inl rfl⟩⟩ | exact ⟨_, rfl, ⟨.inr ⟨r1, rfl, r1_10⟩⟩⟩
      refine ld_sl r3_11.sl (by rw [Int.toNat_natCast, Nat.mul_one]; exact hp) ?_
      refine dPtr_i ?_
      refine tcall (o_Get b p 10 hno) ?_
      rintro _ s80 ⟨rfl, c_12, nb_14⟩
      have z_13 := c_12.size
      refine dT2 ?_
      refine dSl_i ?_
      refine dInt_i ?_
      refine tcall (o_Hits p 10 nb_14) ?_
      rintro _ s88 ⟨rfl, c_15, nb_17⟩
      have z_16 := c_15.size
      refine dT2 ?_
      refine dInt_i ?_
      refine dInt_i ?_
      refine jn_u ?_
      refine sB_f (by rfl) ?_
      refine sB_f (by rfl) ?_
      refine ask_t (by omega) ?_
      refine al_t 0 fun r143 s144 hr143 b_18 c_19 z_20 => ?_
      have nb_21 := nb_17.mv c_19 (tagn (by simp))
      refine tcall (o_Put b _ _ _ p 10 nb_21) ?_
      rintro _ s146 ⟨rfl, c_22, nb_24⟩
      have z_23 := c_22.size
      refine dInt_i ?_
      refine sB_f (by rfl) ?_
      refine tcall (o_Drop b p 10 nb_24) ?_
      rintro _ s149 ⟨rfl, c_25, nb_27⟩
      have z_26 := c_25.size
      refine dInt_i ?_
      refine sB_f (by rfl) ?_
      refine tcall (o_Pin b p 10 nb_27) ?_
      rintro _ s152 ⟨rfl, c_28, nb_30⟩
      have z_29 := c_28.size
      refine dInt_i ?_
      refine sB_f (by rfl) ?_
      refine tcall (o_Unpin b p 10 nb_30) ?_
      rintro _ s155 ⟨rfl, c_31, nb_33⟩
      have z_32 := c_31.size
      refine dInt_i ?_
      refine sB_f (by rfl) ?_
      refine tcall (o_Held p 10 nb_33) ?_
      rintro _ s158 ⟨rfl, c_34, nb_36⟩
      have z_35 := c_34.size
      refine dSl_i ?_
      refine sB_f (by rfl) ?_
      refine sB_f (by rfl) ?_
      intro _ _ _ _ _ _ _ _ _ _ _ _ _ _ _ _ _ _ _ _ _ _ _ _ _ _ _ _ _ _ _ _ _ _ _ _ _ _ _ _ _ _ _ _ _
      refine dBl_i ?_
      refine sB_f (by rfl) ?_
      refine wr_t (by omega) ?_
      refine ⟨⟨s158, rfl, _, rfl, ((((((((((ChL.refl [] [] s4).chl c_7 (by simp) (by simp <;> omega)).ch c_12 (by simp)).ch c_15 (by simp)).ch c_19 (by simp)).ch c_22 (by simp)).ch c_25 (by simp)).ch c_28 (by simp)).ch c_31 (by simp)).ch c_34 (by simp)), ?_⟩, ?_⟩
      ·
        exact ⟨k + 1, by omega, by omega⟩
      ·
        simp <;> omega
    ·
      refine al_t 20 fun r176 s177 hr176 b_37 c_38 z_39 => ?_
      refine al_t 0 fun r178 s179 hr178 b_40 c_41 z_42 => ?_
      refine ⟨fun vs H' => ∃ s' : TH, s'.h = H' ∧ ∃ m, vs = [.int .i64 m] ∧ ChL [] [] s179 s' ∧ (∃ k : Nat, m = k ∧ k ≤ 2), fun vs H' => match vs with | [.int .i64 m] => (2 - m).toNat | _ => 0, ⟨s179, rfl, _, rfl, ChL.refl _ _ _, ?_⟩, ?_⟩
      ·
        exact ⟨0, rfl, by omega⟩
      ·
        intro m _ _ _ _ _ _ _ _ _ _ _ _ _ _ _ _ _ _ _ H202 hI
        obtain ⟨s202, rfl, m_, hvs, c_43, k, rfl, hk⟩ := hI
        cases hvs
        have z_44 := c_43.size
        refine sB_d (fun hsB11 => ?_) (fun hsB11 => ?_)
        ·
          refine ask_t (by omega) ?_
          have r176_45 := b_37.ch c_41 (by simp)
          have r176_46 := r176_45.chl c_43 (by simp <;> omega) (by simp <;> omega)
          have r178_47 := b_40.chl c_43 (by simp <;> omega) (by simp <;> omega)
          obtain ⟨p, hp, hno⟩ : ∃ p, ([.pointer none, .pointer (some ⟨r176, 0, none⟩)] : List Value)[k]? = some (.pointer p) ∧ NoD s202 p 20 := by rcases (by omega : k = 0 ∨ k = 1) with rfl | rfl <;> first | exact ⟨none, rfl, ⟨.inl rfl⟩⟩ | exact ⟨_, rfl, ⟨.inr ⟨r176, rfl, r176_46⟩⟩⟩
          refine ld_sl r178_47.sl (by rw [Int.toNat_natCast, Nat.mul_one]; exact hp) ?_
          refine dPtr_i ?_
          refine tcall (o_New 5 p 20 hno) ?_
          rintro _ s207 ⟨rfl, c_48⟩
          have z_49 := c_48.size
          refine dT2 ?_
          refine dPtr_i ?_
          refine dInt_i ?_
          refine jn_u ?_
          refine sB_f (by rfl) ?_
          intro _ _ _ _ _
          refine dBl_i ?_
          refine sB_f (by rfl) ?_
          refine wr_t (by omega) ?_
          refine ⟨⟨s207, rfl, _, rfl, (((ChL.refl [] [] s179).chl c_43 (by simp) (by simp <;> omega)).ch c_48 (by simp)), ?_⟩, ?_⟩
          ·
            exact ⟨k + 1, by omega, by omega⟩
          ·
            simp <;> omega
        ·
          refine tcall (c_both 30 50 70 3 2 _ (by omega) (by omega) (by omega) (by omega)) ?_
          rintro _ s225 ⟨cc, r, y, d, x, rfl, c_50, _⟩
          have z_51 := c_50.size
          refine dT5 ?_
          refine dPtr_i ?_
          refine dPtr_i ?_
          refine dPtr_i ?_
          refine dPtr_i ?_
          refine dBl_i ?_
          refine sB_t (by rfl) ?_
          refine ret_t ?_
          exact ⟨rfl, ((((((((Ch.refl [10, 30, 30 + 1, 30 + 2, 30 + 3, 30 + 4, 50, 50 + 1, 50 + 2, 50 + 3, 50 + 4] s).ch c_2 (by simp)).ch c_5 (by simp)).chl c_7 (by simp) (by simp <;> omega)).ch c_38 (by simp)).ch c_41 (by simp)).chl c_43 (by simp) (by simp <;> omega)).ch c_50 (by simp))⟩

end Go.Proofs.Ytmgjdmohmhaemaa.E
