/- Contracts of functions. -/
import Derived.Test.YtmgjdmohmhaemaaProg
import Derived.KernelRfl
import Derived.Test.YtmgjdmohmhaemaaLib2
import Derived.Test.YtmgjdmohmhaemaaGeo
import Derived.Test.YtmgjdmohmhaemaaLib4
import Derived.Test.YtmgjdmohmhaemaaPlApart
import Derived.Test.YtmgjdmohmhaemaaTys
namespace Go.Proofs.Ytmgjdmohmhaemaa.E
open Go Go.Proofs
set_option linter.unusedVariables false
/-- bollard/bollardlaw04.GeomApart -/
theorem c_gapart (a b c : Int) (s : TH) : TRet Try.prog 3 #[.agg #[.int .i64 a, .int .i64 b, .int .i64 c]] s fun v s' => v = .bool true ∧ Ch [] s s' := by
  refine F3_calls _ _ _  ?_
  unfold F3
  refine al_t 0 fun r1 s2 hr1 b_1 c_2 z_3 => ?_
  refine ld_t b_1 rfl ?_
  refine ld_t b_1 rfl ?_
  refine ld_t b_1 rfl ?_
  refine tcall (c_rcan _ _ _ _) ?_
  rintro _ s7 ⟨rfl, c_4⟩
  have z_5 := c_4.size
  refine dInt_i ?_
  refine sB_ne (fun hsB1 => ?_) (fun hsB1 => ?_)
  ·
    have r1_6 := b_1.ch c_4 (by simp)
    refine ld_t r1_6 rfl ?_
    refine ld_t r1_6 rfl ?_
    refine ld_t r1_6 rfl ?_
    refine tcall (c_can _ _ _ _) ?_
    rintro _ s13 ⟨rfl, c_7⟩
    have z_8 := c_7.size
    refine dInt_i ?_
    refine ret_t ?_
    rw [if_neg (fun hv => hsB1 (if_pos hv))]; exact ⟨rfl, ((((Ch.refl [] s).ch c_2 (by simp)).ch c_4 (by simp)).ch c_7 (by simp))⟩
  ·
    have r1_9 := b_1.ch c_4 (by simp)
    refine ld_t r1_9 rfl ?_
    refine ld_t r1_9 rfl ?_
    refine ld_t r1_9 rfl ?_
    have hv : canG a b c := by
      by_cases hv : canG a b c
      · exact hv
      · rw [if_neg hv] at hsB1; cases hsB1
    have hab := mul_le (a := a) (b := b) (c := 8) (d := 256) (by unfold canG at hv; omega) (by unfold canG at hv; omega) (by unfold canG at hv; omega) (by unfold canG at hv; omega)
    have hac := mul_le (a := a) (b := c) (c := 8) (d := 64) (by unfold canG at hv; omega) (by unfold canG at hv; omega) (by unfold canG at hv; omega) (by unfold canG at hv; omega)
    have hN : ((a * b).toNat : Int) = a * b := Int.toNat_of_nonneg hab.1
    clear hsB1
    have hv2 := hv
    unfold canG at hv2
    refine tcall (c_blocks _ _ _ hv _) ?_
    rintro _ s21 ⟨rfl, c_10⟩
    have z_11 := c_10.size
    refine dInt_i ?_
    refine ask_t (by omega) ?_
    refine al_t 0 fun r23 s24 hr23 b_12 c_13 z_14 => ?_
    have ks_15 := b_12.congr ofFn_zero
    have r1_16 := r1_9.ch c_10 (by simp)
    have r1_17 := r1_16.ch c_13 (by simp)
    refine ld_t r1_17 rfl ?_
    refine dInt_i ?_
    refine ld_t r1_17 rfl ?_
    refine dInt_i ?_
    refine wr_t (by omega) ?_
    refine sB_f (by simp [hN]) ?_
    refine ld_t r1_17 rfl ?_
    refine dInt_i ?_
    refine ⟨fun vs H' => ∃ s' : TH, s'.h = H' ∧ ∃ n, vs = [.int .i64 n] ∧ ChL [] [r23] s24 s' ∧ (0 ≤ n ∧ n ≤ a ∧ Blk s' r23 (ofFn .i64 (a * b).toNat (f1 b c n)) 3 0), fun vs H' => match vs with | [.int .i64 n] => (a - n).toNat | _ => 0, ⟨s24, rfl, _, rfl, ChL.refl _ _ _, ?_⟩, ?_⟩
    ·
      exact ⟨by omega, by omega, ks_15.congr (ofFn_congr fun x h0 h1 => (f1_zero h0).symm)⟩
    ·
      intro n _ _ _ _ _ _ _ _ _ _ _ _ _ _ _ _ _ _ _ _ _ _ _ _ _ _ _ _ _ _ _ _ _ _ _ _ _ _ _ _ _ _ _ _ _ _ _ _ _ _ _ _ _ _ _ _ H91 hI
      obtain ⟨s91, rfl, n_, hvs, c_18, hn0, hn1, ks_20⟩ := hI
      cases hvs
      have z_19 := c_18.size
      refine sB_d (fun hsB3 => ?_) (fun hsB3 => ?_)
      ·
        have r1_21 := r1_17.chl c_18 (by simp <;> omega) (by simp <;> omega)
        refine ld_t r1_21 rfl ?_
        refine ld_t r1_21 rfl ?_
        refine ld_t r1_21 rfl ?_
        have hnb : 0 ≤ n * b ∧ n * b + b ≤ a * b := ⟨Int.mul_nonneg hn0 (by omega), by
          have := Int.mul_le_mul_of_nonneg_right (c := b) (show n + 1 ≤ a by omega) (by omega)
          rw [Int.add_mul, Int.one_mul] at this; exact this⟩
        refine tcall (c_super _ _ _ _ hv (by omega) _) ?_
        rintro _ s97 ⟨rfl, c_22⟩
        have z_23 := c_22.size
        refine dT2 ?_
        refine dInt_i ?_
        refine dBl_i ?_
        have r1_24 := r1_21.ch c_22 (by simp)
        refine ld_t r1_24 rfl ?_
        refine ld_t r1_24 rfl ?_
        refine ld_t r1_24 rfl ?_
        refine tcall (c_header _ _ _ _ hv (by omega) _) ?_
        rintro _ s106 ⟨rfl, c_25⟩
        have z_26 := c_25.size
        refine dT2 ?_
        refine dInt_i ?_
        refine dBl_i ?_
        have r1_27 := r1_24.ch c_25 (by simp)
        refine ld_t r1_27 rfl ?_
        refine ld_t r1_27 rfl ?_
        refine ld_t r1_27 rfl ?_
        have hfb : ∀ x, 0 ≤ f1 b c n x ∧ f1 b c n x ≤ 1 := fun x => by unfold f1; split <;> omega
        refine tcall (c_data _ _ _ _ hv (by omega) _) ?_
        rintro _ s115 ⟨rfl, c_28⟩
        have z_29 := c_28.size
        refine dT3 ?_
        refine dInt_i ?_
        refine dInt_i ?_
        refine dBl_i ?_
        refine ask_t (by omega) ?_
        have ks_30 := ks_20.ch c_22 (by simp)
        have ks_31 := ks_30.ch c_25 (by simp)
        have ks_32 := ks_31.ch c_28 (by simp)
        refine ld_f ks_32 (by omega) ?_
        refine dInt_i ?_
        refine wr_t (by have := hfb (n * b + 0); omega) ?_
        refine ask_t (by omega) ?_
        refine st_f ks_32 (by omega) fun s125 b_33 c_34 z_35 => ?_
        refine ask_t (by omega) ?_
        refine ld_f b_33 (by omega) ?_
        refine dInt_i ?_
        refine wr_t (by have := hfb (n * b + 1); rw [if_neg (by omega)]; omega) ?_
        refine ask_t (by omega) ?_
        refine st_f b_33 (by omega) fun s129 b_36 c_37 z_38 => ?_
        refine ⟨fun vs H' => ∃ s' : TH, s'.h = H' ∧ ∃ i, vs = [.int .i64 i] ∧ ChL [] [r23] s129 s' ∧ (0 ≤ i ∧ i ≤ b - (2 + c / 4) ∧ Blk s' r23 (ofFn .i64 (a * b).toNat (f2 b c n i)) 3 0), fun vs H' => match vs with | [.int .i64 i] => (b - (2 + c / 4) - i).toNat | _ => 0, ⟨s129, rfl, _, rfl, ChL.refl _ _ _, ?_⟩, ?_⟩
        ·
          refine ⟨by omega, by omega, b_36.congr (ofFn_congr fun x h0 h1 => ?_)⟩
          rw [f2_zero (by omega) (by omega)]
          simp only [Int.add_zero]
          by_cases e1 : x = n * b + 1
          · subst e1; rw [if_pos rfl, if_pos rfl, if_neg (by omega)]
          · rw [if_neg e1, if_neg e1]
            by_cases e2 : x = n * b
            · subst e2; rfl
            · rw [if_neg e2, if_neg e2]
        ·
          intro i _ _ _ _ _ _ _ _ _ _ _ _ H145 hI
          obtain ⟨s145, rfl, i_, hvs, c_39, hi0, hi1, ks_41⟩ := hI
          cases hvs
          have z_40 := c_39.size
          refine sB_d (fun hsB4 => ?_) (fun hsB4 => ?_)
          ·
            refine wr_t (by omega) ?_
            refine ask_t (by omega) ?_
            refine ld_f ks_41 (by omega) ?_
            refine dInt_i ?_
            refine wr_t (by have : 0 ≤ f2 b c n i (n * b + (2 + c / 4) + i) ∧ f2 b c n i (n * b + (2 + c / 4) + i) ≤ 1 := (by unfold f2; split <;> omega); omega) ?_
            refine ask_t (by omega) ?_
            refine st_f ks_41 (by omega) fun s151 b_42 c_43 z_44 => ?_
            refine wr_t (by omega) ?_
            refine ⟨⟨s151, rfl, _, rfl, (((ChL.refl [] [r23] s129).chl c_39 (by simp) (by simp <;> omega)).on c_43 (by simp)), ?_⟩, ?_⟩
            ·
              refine ⟨by omega, by omega, b_42.congr (ofFn_congr fun x h0 h1 => by
                rw [f2_step (b := b) (c := c) (n := n) (i := i) (x := x) (by omega) hi0]
                by_cases e : x = n * b + (2 + c / 4) + i
                · rw [if_pos e, if_pos e, e]
                · rw [if_neg e, if_neg e])⟩
            ·
              simp only []; omega
          ·
            refine wr_t (by omega) ?_
            refine ⟨⟨s145, rfl, _, rfl, ((((((((ChL.refl [] [r23] s24).chl c_18 (by simp) (by simp <;> omega)).ch c_22 (by simp)).ch c_25 (by simp)).ch c_28 (by simp)).on c_34 (by simp)).on c_37 (by simp)).chl c_39 (by simp) (by simp <;> omega)), ?_⟩, ?_⟩
            ·
              obtain rfl : i = b - (2 + c / 4) := by omega
              exact ⟨by omega, by omega, ks_41.congr (ofFn_congr fun x h0 h1 => f2_end (b := b) (c := c) (n := n) (x := x) (by omega) (by omega) (by omega))⟩
            ·
              simp only []; omega
      ·
        refine alm_t pairV 0 fun r160 s161 hr160 m_45 c_46 z_47 => ?_
        refine alm_t (Value.int .i64) 0 fun r162 s163 hr162 m_48 c_49 z_50 => ?_
        have r1_51 := r1_17.chl c_18 (by simp <;> omega) (by simp <;> omega)
        have r1_52 := r1_51.ch c_46 (by simp)
        have r1_53 := r1_52.ch c_49 (by simp)
        refine ld_t r1_53 rfl ?_
        refine ld_t r1_53 rfl ?_
        refine ld_t r1_53 rfl ?_
        refine tcall (c_inodes _ _ _ hv _) ?_
        rintro _ s168 ⟨rfl, c_54⟩
        have z_55 := c_54.size
        refine dInt_i ?_
        have ks_56 := ks_20.ch c_46 (by simp)
        have ks_57 := ks_56.ch c_49 (by simp)
        have ks_58 := ks_57.ch c_54 (by simp)
        have seen_59 := m_45.ch c_49 (by simp)
        have seen_60 := seen_59.ch c_54 (by simp)
        have met_61 := m_48.ch c_54 (by simp)
        refine ⟨fun vs H' => ∃ s' : TH, s'.h = H' ∧ ∃ m, vs = [.int .i64 m] ∧ ChL [] [r23, r160, r162] s168 s' ∧ (0 ≤ m ∧ m ≤ a * c ∧ Blk s' r23 (ofFn .i64 (a * b).toNat (f3 b c m)) 3 0 ∧ MapK pairV s' r160 (seenL b c m.toNat) 0 ∧ ∃ mt, MapK (Value.int .i64) s' r162 mt 0 ∧ ∀ x, 0 ≤ x → x < a * b → mget x mt = if tab b c x ∧ fi b c x < m then some (.bool true) else none), fun vs H' => match vs with | [.int .i64 m] => (a * c - m).toNat | _ => 0, ⟨s168, rfl, _, rfl, ChL.refl _ _ _, ?_⟩, ?_⟩
        ·
          refine ⟨by omega, by omega, ks_58.congr ?_, seen_60, [], met_61, fun x h0 h1 => ?_⟩
          · obtain rfl : n = a := by omega
            exact ofFn_congr fun x h0 h1 => f3_zero (by omega) (by omega) h0 (by omega)
          · rw [if_neg]; rfl
            rintro ⟨h2, h3⟩
            unfold tab at h2; unfold fi at h3
            have h4 : 0 ≤ x / b := Int.ediv_nonneg h0 (by omega)
            have h5 : 0 ≤ x / b * c := Int.mul_nonneg h4 (by omega)
            omega
        ·
          intro m _ _ _ _ _ _ _ _ _ _ _ _ _ _ _ _ _ _ _ _ _ _ _ _ _ _ _ _ _ _ _ _ _ _ _ _ _ _ _ _ _ _ _ _ _ _ _ _ _ H222 hI
          obtain ⟨s222, rfl, m_, hvs, c_62, hm0, hm1, ks_64, seen_65, mt, met_66, hmt⟩ := hI
          cases hvs
          have z_63 := c_62.size
          refine sB_d (fun hsB5 => ?_) (fun hsB5 => ?_)
          ·
            have r1_67 := r1_53.ch c_54 (by simp)
            have r1_68 := r1_67.chl c_62 (by simp <;> omega) (by simp <;> omega)
            refine ld_t r1_68 rfl ?_
            refine ld_t r1_68 rfl ?_
            refine ld_t r1_68 rfl ?_
            have hmN : ((m.toNat : Nat) : Int) = m := Int.toNat_of_nonneg hm0
            have hat := at_ok (c := c) hm0 (by omega)
            have hfr := seen_fresh (b := b) (c := c) (m := m.toNat) (by omega) (by omega) (by omega)
            rw [hmN] at hfr
            have hblk := blk_dm (b := b) (c := c) (j := m) (by omega) (by omega) hm0
            have htab := blk_tab (b := b) (c := c) (j := m) (by omega) (by omega) (by omega) hm0
            have hfi := fi_blk (b := b) (c := c) (j := m) (by omega) (by omega) (by omega) hm0
            have hmc : 0 ≤ m / c ∧ m / c < a ∧ 0 ≤ m % c ∧ m % c < c := ⟨Int.ediv_nonneg hm0 (by omega), Int.ediv_lt_of_lt_mul (by omega) (by omega), Int.emod_nonneg _ (by omega), Int.emod_lt_of_pos _ (by omega)⟩
            have hqb : 0 ≤ m / c * b ∧ m / c * b + b ≤ a * b := ⟨Int.mul_nonneg hmc.1 (by omega), by
              have := Int.mul_le_mul_of_nonneg_right (c := b) (show m / c + 1 ≤ a by omega) (by omega)
              rw [Int.add_mul, Int.one_mul] at this; exact this⟩
            have hbr : 0 ≤ blkI b c m ∧ blkI b c m < a * b := by unfold blkI; omega
            refine tcall (c_inode _ _ _ _ hv (by omega) _) ?_
            rintro _ s228 ⟨rfl, c_69⟩
            have z_70 := c_69.size
            refine dT3 ?_
            refine dInt_i ?_
            refine dInt_i ?_
            refine dBl_i ?_
            refine jn_u ?_
            refine sB_f (by rfl) ?_
            have seen_71 := seen_65.ch c_69 (by simp)
            refine look_n keyP u32 z4 seen_71 (blkI b c m, atI c m) (mget_none hfr) ?_
            refine dBl_i ?_
            refine sB_f (by rfl) ?_
            refine ask_t (by omega) ?_
            refine nm_t (show (m % c % 4 * 32).tmod 32 = 0 by rw [Int.tmod_eq_emod_of_nonneg (by omega)]; omega) ?_
            refine sB_f (by rfl) ?_
            intro _ _ _ _ _ _ _ _ _ _ _ _ _ _ _ _ _
            refine dBl_i ?_
            refine sB_d (fun hsB9 => by exfalso; omega) (fun hsB9 => ?_)
            refine upd_t keyP u32 seen_71 (blkI b c m, atI c m) (.bool true) fun s258 seen_74 c_72 _ => ?_
            have z_73 := c_72.size
            have seen_75 := seen_74
            rw [mset_new hfr, show seenL b c m.toNat ++ [((blkI b c m, atI c m), Value.bool true)] = seenL b c (m + 1).toNat by have := seen_snoc b c m.toNat; rw [hmN] at this; rw [this, show (m + 1).toNat = m.toNat + 1 by omega]] at seen_75
            refine jn_u ?_
            have met_76 := met_66.ch c_69 (by simp)
            have met_77 := met_76.on c_72 (by omega)
            refine look_g keyI u33 z4 met_77 (blkI b c m) (v := .bool (decide (m % 4 ≠ 0))) (by
              rw [hmt _ hbr.1 hbr.2, hfi]
              by_cases h : m % 4 = 0
              · rw [if_neg (by rintro ⟨_, h2⟩; omega)]; simp [h]
              · rw [if_pos ⟨htab, by omega⟩]; simp [h]) ?_
            refine dBl_i ?_
            first | refine sB_d (fun hsB10 => ?_) (fun hsB10 => ?_) | refine sB_nd (fun hsB10 => ?_) (fun hsB10 => ?_) | refine sB_n (fun hsB10 => ?_) (fun hsB10 => ?_) | refine sB_i (fun hsB10 => ?_) (fun hsB10 => ?_)
            ·
              refine ask_t (by have := hbr; unfold blkI at this; omega) ?_
              have ks_78 := ks_64.ch c_69 (by simp)
              have ks_79 := ks_78.on c_72 (by omega)
              refine ld_f ks_79 ?_ ?_
              · have := hbr; unfold blkI at this; omega
              refine dInt_i ?_
              refine wr_t (by have : 0 ≤ f3 b c m (m / c * b + (2 + m % c / 4)) ∧ f3 b c m (m / c * b + (2 + m % c / 4)) ≤ 1 := (by unfold f3; split <;> (try split) <;> omega); omega) ?_
              refine ask_t (by have := hbr; unfold blkI at this; omega) ?_
              refine st_f ks_79 (by have := hbr; unfold blkI at this; omega) fun s284 b_80 c_81 z_82 => ?_
              intro _ _ _ _ _ _ _ _ _ _
              have met_83 := met_77.on c_81 (by omega)
              refine upd_t keyI u33 met_83 (blkI b c m) (.bool true) fun s273 met_86 c_84 _ => ?_
              have z_85 := c_84.size
              refine wr_t (by omega) ?_
              refine ⟨⟨s273, rfl, _, rfl, ((((((ChL.refl [] [r23, r160, r162] s168).chl c_62 (by simp) (by simp <;> omega)).ch c_69 (by simp)).on c_72 (by simp)).on c_81 (by simp)).on c_84 (by simp)), ?_⟩, ?_⟩
              ·
                have ks_87 := b_80.on c_84 (by omega)
                have seen_88 := seen_75.on c_81 (by omega)
                have seen_89 := seen_88.on c_84 (by omega)
                refine ⟨by omega, by omega, ks_87.congr (ofFn_congr fun x h0 h1 => ?_), seen_89, _, met_86, met_step (by omega) (by omega) (by omega) (by omega) hm0 hmt⟩
                have := f3_new (b := b) (c := c) (m := m) (x := x) (by omega) (by omega) (by omega) (by omega) hm0 (by omega) h0
                rw [this]; rfl
              ·
                simp only []; omega
            ·
              intro _ _ _ _ _ _ _ _ _ _
              refine upd_t keyI u33 met_77 (blkI b c m) (.bool true) fun s273 met_92 c_90 _ => ?_
              have z_91 := c_90.size
              refine wr_t (by omega) ?_
              refine ⟨⟨s273, rfl, _, rfl, (((((ChL.refl [] [r23, r160, r162] s168).chl c_62 (by simp) (by simp <;> omega)).ch c_69 (by simp)).on c_72 (by simp)).on c_90 (by simp)), ?_⟩, ?_⟩
              ·
                have ks_93 := ks_64.ch c_69 (by simp)
                have ks_94 := ks_93.on c_72 (by omega)
                have ks_95 := ks_94.on c_90 (by omega)
                have seen_96 := seen_75.on c_90 (by omega)
                refine ⟨by omega, by omega, ks_95.congr (ofFn_congr fun x h0 h1 => ?_), seen_96, _, met_92, met_step (by omega) (by omega) (by omega) (by omega) hm0 hmt⟩
                exact (f3_met (by omega) (by omega) (by omega) (by omega) hm0 hsB10 h0).symm
              ·
                simp only []; omega
          ·
            refine ⟨fun vs H' => ∃ s' : TH, s'.h = H' ∧ ∃ x, vs = [.int .i64 x] ∧ ChL [] [] s222 s' ∧ (0 ≤ x ∧ x ≤ a * b), fun vs H' => match vs with | [.int .i64 x] => (a * b - x).toNat | _ => 0, ⟨s222, rfl, _, rfl, ChL.refl _ _ _, ?_⟩, ?_⟩
            ·
              exact ⟨by omega, by omega⟩
            ·
              intro x _ _ _ _ _ _ _ _ _ _ _ _ _ _ _ _ _ _ _ H316 hI
              obtain ⟨s316, rfl, x_, hvs, c_97, hx0, hx1⟩ := hI
              cases hvs
              have z_98 := c_97.size
              refine sB_d (fun hsB11 => ?_) (fun hsB11 => ?_)
              ·
                refine ask_t (by omega) ?_
                have ks_99 := ks_64.chl c_97 (by simp <;> omega) (by simp <;> omega)
                refine ld_f ks_99 (by omega) ?_
                refine dInt_i ?_
                refine jn_u ?_
                refine sB_ne (fun hsB12 => (hsB12 (by (have e : m = a * c := (by omega)); rw [e]; exact f3_end (by omega) (by omega) (by omega) hx0 (by omega))).elim) (fun hsB12 => ?_)
                have r1_100 := r1_53.ch c_54 (by simp)
                have r1_101 := r1_100.chl c_62 (by simp <;> omega) (by simp <;> omega)
                have r1_102 := r1_101.chl c_97 (by simp <;> omega) (by simp <;> omega)
                refine ld_t r1_102 rfl ?_
                refine ld_t r1_102 rfl ?_
                refine ld_t r1_102 rfl ?_
                refine ld_t r1_102 rfl ?_
                refine ld_t r1_102 rfl ?_
                refine ld_t r1_102 rfl ?_
                refine tcall (c_isdata _ _ _ _ hv (by omega) _) ?_
                rintro _ s342 ⟨rfl, c_103⟩
                have z_104 := c_103.size
                refine dBl_i ?_
                refine ⟨?_, ?_⟩
                ·
                  have r1_105 := r1_102.ch c_103 (by simp)
                  refine ld_t r1_105 rfl ?_
                  refine ld_t r1_105 rfl ?_
                  refine ld_t r1_105 rfl ?_
                  rfl
                ·
                  refine tcall (c_risdata _ _ _ _ hv (by omega) _) ?_
                  rintro _ s348 ⟨rfl, c_106⟩
                  have z_107 := c_106.size
                  refine dBl_i ?_
                  intro _ _ _ _ _ _ _ _ _ _
                  refine dBl_i ?_
                  refine sB_f (by simp) ?_
                  refine wr_t (by omega) ?_
                  refine ⟨⟨s348, rfl, _, rfl, ((((ChL.refl [] [] s222).chl c_97 (by simp) (by simp <;> omega)).ch c_103 (by simp)).ch c_106 (by simp)), ?_⟩, ?_⟩
                  ·
                    exact ⟨by omega, by omega⟩
                  ·
                    simp only []; omega
              ·
                have seen_108 := seen_65.chl c_97 (by simp <;> omega) (by simp <;> omega)
                refine mlen_t u32 seen_108 ?_
                refine dInt_i ?_
                have r1_109 := r1_53.ch c_54 (by simp)
                have r1_110 := r1_109.chl c_62 (by simp <;> omega) (by simp <;> omega)
                have r1_111 := r1_110.chl c_97 (by simp <;> omega) (by simp <;> omega)
                refine ld_t r1_111 rfl ?_
                refine dInt_i ?_
                refine ld_t r1_111 rfl ?_
                refine dInt_i ?_
                refine wr_t (by omega) ?_
                refine ret_t ?_
                exact ⟨ret_b (by rw [seen_len]; simp; omega), (((((((((((Ch.refl [] s).ch c_2 (by simp)).ch c_4 (by simp)).ch c_10 (by simp)).ch c_13 (by simp)).chl c_18 (by simp) (by simp <;> omega)).ch c_46 (by simp)).ch c_49 (by simp)).ch c_54 (by simp)).chl c_62 (by simp) (by simp <;> omega)).chl c_97 (by simp) (by simp <;> omega))⟩

end Go.Proofs.Ytmgjdmohmhaemaa.E
