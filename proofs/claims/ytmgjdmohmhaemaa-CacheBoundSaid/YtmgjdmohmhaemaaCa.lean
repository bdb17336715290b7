/- Contracts of functions. -/
import Derived.Test.YtmgjdmohmhaemaaProg
import Derived.KernelRfl
import Derived.Test.YtmgjdmohmhaemaaLib2
import Derived.Test.YtmgjdmohmhaemaaRf
namespace Go.Proofs.Ytmgjdmohmhaemaa.E
open Go Go.Proofs
set_option linter.unusedVariables false

def fullB (n k : Nat) : List (List UInt8) := (List.range n).map fun i => if i < k then List.replicate 128 (UInt8.ofNat (i + 1)) else List.replicate 128 0
def fullDisk (n k : Nat) : DiskM := ⟨fullB n k, [], fun _ => 0, k⟩
theorem fullB_len (n k : Nat) : (fullB n k).length = n := by simp [fullB]
theorem fullDisk_zero (n : Nat) : fullDisk n 0 = newDisk n := by
  unfold fullDisk newDisk fullB
  congr 1
  apply List.ext_getElem? ; intro i
  simp [List.getElem?_replicate]
  by_cases h : i < n <;> simp [h]
theorem full_write (n k : Nat) (hk : k < n) (l : List UInt8) (hl : l.length = 128) : (fullDisk n k).write k l = (⟨fullB n k, [⟨k + 1, k, l⟩], fun _ => 0, k + 1⟩, (k : Int) + 1, 0) := by
  have h1 : (fullDisk n k).has k := by unfold DiskM.has fullDisk; simp only [fullB_len]; omega
  rw [write_4 h1 hl (by simp [fullDisk, ixf, ixr]) (by simp [fullDisk])]
  simp [fullDisk]
theorem full_compl (n k : Nat) (hk : k < n) : DiskM.complete ⟨fullB n k, [⟨(k : Int) + 1, k, List.replicate 128 (UInt8.ofNat (k + 1))⟩], fun _ => 0, (k : Int) + 1⟩ ((k : Int) + 1) true = (fullDisk n (k + 1), 0) := by
  rw [compl_3 (i := 0) (m := ⟨(k : Int) + 1, k, List.replicate 128 (UInt8.ofNat (k + 1))⟩) (by simp [ixf, ixr]) rfl]
  have hb : (fullB n k).set k (List.replicate 128 (UInt8.ofNat (k + 1))) = fullB n (k + 1) := by
    apply List.ext_getElem?; intro i
    rw [List.getElem?_set]
    unfold fullB
    simp only [List.length_map, List.length_range, List.getElem?_map]
    by_cases h : k = i
    · subst h; simp [hk]
    · rw [if_neg h]
      by_cases h2 : i < n
      · have e : (i < k) ↔ (i < k + 1) := by omega
        simp [h2, e]
      · simp [h2]
  refine Prod.ext ?_ rfl
  show DiskM.mk _ _ _ _ = DiskM.mk _ _ _ _
  rw [Int.toNat_natCast, hb]
  congr 1

/-- bollard/cache.New -/
theorem c_cnew (T d : Nat) (D : DiskM) (T2 : Nat) (b : Int) (s : TH) (hT : 10 ≤ T) (hd : Disk s d T D) (hb : 1 ≤ b ∧ b ≤ 64) : TRet Try.prog 38 #[.pointer (some ⟨d, 0, none⟩), .int .i64 b] s fun v s' => ∃ c r, v = .tuple #[.pointer (some ⟨c, 0, none⟩), .int .i64 0] ∧ Ch [] s s' ∧ Blk s' c [.pointer (some ⟨d, 0, none⟩), .int .i64 b, .map (some r), .int .i64 0, .int .i64 0, .int .i64 0] 71 T2 ∧ MapK (Value.int .i64) s' r [] (T2 + 1) := by
  have hnb : 1 ≤ D.blocks.length := by obtain ⟨_, _, _, _, _, _, _, _, h⟩ := id hd; exact h.nb.1
  refine F38_calls _ _  ?_
  unfold F38
  refine tcall (c_blocks _ _ _ _ hT hd) ?_
  rintro _ s2 ⟨rfl, c_1⟩
  have z_2 := c_1.size
  refine dInt_i ?_
  refine sB_eq (fun hsB1 => ?_) (fun hsB1 => ?_)
  ·
    refine ret_t ?_
    omega
  ·
    refine jn_u ?_
    refine sB_d (fun hsB2 => by exfalso; omega) (fun hsB2 => ?_)
    intro _ _ _ _ _
    refine dBl_i ?_
    first | refine sB_d (fun hsB3 => ?_) (fun hsB3 => ?_) | refine sB_nd (fun hsB3 => ?_) (fun hsB3 => ?_) | refine sB_n (fun hsB3 => ?_) (fun hsB3 => ?_) | refine sB_i (fun hsB3 => ?_) (fun hsB3 => ?_)
    ·
      refine ret_t ?_
      simp at hsB3; omega
    ·
      refine alm_t (Value.int .i64) (T2 + 1) fun r12 s13 hr12 m_3 c_4 z_5 => ?_
      refine al_t T2 fun r14 s15 hr14 b_6 c_7 z_8 => ?_
      refine ret_t ?_
      have r12_9 := m_3.ch c_7 (by simp)
      exact ⟨r14, r12, rfl, ((((Ch.refl [] s).ch c_1 (by simp)).ch c_4 (by simp)).ch c_7 (by simp)), b_6, r12_9⟩

/-- bollard/bollardref06.New -/
theorem c_ynew (x : Nat) (b : Int) (s : TH) (hb : 1 ≤ b ∧ b ≤ 64) : TRet Try.prog 63 #[.pointer (some ⟨x, 0, none⟩), .int .i64 b] s fun v s' => ∃ y, v = .tuple #[.pointer (some ⟨y, 0, none⟩), .int .i64 0] ∧ Ch [] s s' := by
  refine F63_calls _ _  ?_
  unfold F63
  refine sB_f (by rfl) ?_
  refine jn_u ?_
  refine sB_d (fun hsB2 => by exfalso; omega) (fun hsB2 => ?_)
  intro _ _ _ _ _
  refine dBl_i ?_
  first | refine sB_d (fun hsB3 => ?_) (fun hsB3 => ?_) | refine sB_nd (fun hsB3 => ?_) (fun hsB3 => ?_) | refine sB_n (fun hsB3 => ?_) (fun hsB3 => ?_) | refine sB_i (fun hsB3 => ?_) (fun hsB3 => ?_)
  ·
    refine ret_t ?_
    simp at hsB3; omega
  ·
    refine al_t 0 fun r9 s10 hr9 b_1 c_2 z_3 => ?_
    refine ret_t ?_
    exact ⟨r9, rfl, ((Ch.refl [] s).ch c_2 (by simp))⟩


def nblk (x : Int) : Nat := 1 + ((IntKind.u64.wrap x) % 12).toNat
theorem nblk_le (x : Int) : 1 ≤ nblk x ∧ nblk x ≤ 12 := by unfold nblk; omega
theorem wrap_u8 (k : Nat) (h : k + 1 ≤ 200) : IntKind.u8.wrap ((k : Int) + 1) = ((UInt8.ofNat (k + 1)).toNat : Int) := by
  have e : IntKind.u8.wrap ((k : Int) + 1) = ((k : Int) + 1) % 256 := rfl
  have e2 : (UInt8.ofNat (k + 1)).toNat = (k + 1) % 256 := rfl
  rw [e, e2]
  omega

/-- bollard/bollardlaw06.both -/
theorem c_both (T U Tc : Nat) (x0 b : Int) (s : TH) (hT : 10 ≤ T) (hU : T + 10 ≤ U) (hc : U + 10 ≤ Tc) (hb : 1 ≤ b ∧ b ≤ 64) : TRet Try.prog 22 #[.int .i64 x0, .int .i64 b] s fun v s' => ∃ c r y d x, v = .tuple #[.pointer (some ⟨c, 0, none⟩), .pointer (some ⟨y, 0, none⟩), .pointer (some ⟨d, 0, none⟩), .pointer (some ⟨x, 0, none⟩), .bool true] ∧ Ch [T, T + 1, T + 2, T + 3, T + 4, U, U + 1, U + 2, U + 3, U + 4] s s' ∧ Disk s' d T (fullDisk (nblk x0) (nblk x0)) ∧ RDisk s' x U (fullDisk (nblk x0) (nblk x0)) ∧ Blk s' c [.pointer (some ⟨d, 0, none⟩), .int .i64 b, .map (some r), .int .i64 0, .int .i64 0, .int .i64 0] 71 Tc ∧ MapK (Value.int .i64) s' r [] (Tc + 1) := by
  refine F22_calls _ _  ?_
  unfold F22
  refine wr_a fun n1 hn1 => ?_
  refine ask_t (by omega) ?_
  refine nm_a fun n2 hn2 => ?_
  rw [wrap_u64] at hn1
  rw [Int.tmod_eq_emod_of_nonneg (by omega)] at hn2
  refine wr_t (by omega) ?_
  refine wr_t (by omega) ?_
  obtain ⟨n, hn, he⟩ : ∃ n : Nat, n = nblk x0 ∧ 1 + n2 = (n : Int) := ⟨nblk x0, rfl, by unfold nblk; rw [wrap_u64]; omega⟩
  simp only [he]
  have hnn := nblk_le x0
  rw [← hn] at hnn
  refine tcall (c_dnew T n _ hT (by omega)) ?_
  rintro _ s6 ⟨d, rfl, c_1, D_3⟩
  have z_2 := c_1.size
  refine dT2 ?_
  refine dPtr_i ?_
  refine dInt_i ?_
  refine tcall (c_rnew U n _ (by omega) (by omega)) ?_
  rintro _ s12 ⟨x, rfl, c_4, X_6⟩
  have z_5 := c_4.size
  refine dT2 ?_
  refine dPtr_i ?_
  refine dInt_i ?_
  refine jn_u ?_
  refine sB_f (by rfl) ?_
  refine sB_f (by rfl) ?_
  intro _ _ _ _ _ _ _ _ _ _
  refine dBl_i ?_
  refine sB_f (by rfl) ?_
  refine ⟨fun vs H' => ∃ s' : TH, s'.h = H' ∧ ∃ m, vs = [.int .i64 m] ∧ ChL [T, T + 1, T + 2, T + 3, T + 4, U, U + 1, U + 2, U + 3, U + 4] [] s12 s' ∧ (∃ k : Nat, m = k ∧ k ≤ n ∧ Disk s' d T (fullDisk n k) ∧ RDisk s' x U (fullDisk n k)), fun vs H' => match vs with | [.int .i64 m] => (n - m).toNat | _ => 0, ⟨s12, rfl, _, rfl, ChL.refl _ _ _, ?_⟩, ?_⟩
  ·
    have D_7 := D_3.mv c_4 (rngn (by simp <;> omega))
    exact ⟨0, rfl, by omega, by rw [fullDisk_zero]; exact D_7, by rw [fullDisk_zero]; exact X_6⟩
  ·
    intro m _ _ _ _ _ _ _ _ _ _ _ _ _ _ _ _ _ _ _ _ _ _ _ _ _ _ H59 hI
    obtain ⟨s59, rfl, m_, hvs, c_8, k, rfl, hk, D_10, X_11⟩ := hI
    cases hvs
    have z_9 := c_8.size
    refine sB_d (fun hsB4 => ?_) (fun hsB4 => ?_)
    ·
      refine wr_t (by omega) ?_
      refine wr_a fun n62 hn62 => ?_
      rw [wrap_u8 k (by omega)] at hn62
      subst hn62
      refine al_t 0 fun r63 s64 hr63 b_12 c_13 z_14 => ?_
      refine tcall (c_rep 0 (b := UInt8.ofNat (k + 1)) b_12.sl) ?_
      rintro _ s66 ⟨ri, rfl, c_15, im_17⟩
      have z_16 := c_15.size
      refine dSl_i ?_
      have D_18 := D_10.mv c_13 (rngn (by simp <;> omega))
      have D_19 := D_18.mv c_15 (rngn (by simp <;> omega))
      refine tcall (c_write d T (fullDisk n k) k 128 128 _ hT D_19 im_17 (by simp) (by omega) (by omega) (by simp only [fullDisk]; omega)) ?_
      rintro _ s71 ⟨rfl, c_20, D_22⟩
      have z_21 := c_20.size
      rw [full_write n k (by omega) _ (by simp)] at D_22
      refine dT2 ?_
      refine dInt_i ?_
      refine dInt_i ?_
      have X_23 := X_11.mv c_13 (rngn (by simp <;> omega))
      have X_24 := X_23.mv c_15 (rngn (by simp <;> omega))
      have X_25 := X_24.mv c_20 (rngn (by simp <;> omega))
      have im_26 := im_17.mv c_20 (tagn (by intro h; simp only [List.mem_cons, List.not_mem_nil, or_false] at h <;> omega))
      refine tcall (c_rwrite x U (fullDisk n k) k 128 128 _ (by omega) X_25 im_26 (by simp) (by omega) (by omega) (by simp only [fullDisk]; omega)) ?_
      rintro _ s77 ⟨rfl, c_27, X_29⟩
      have z_28 := c_27.size
      rw [full_write n k (by omega) _ (by simp)] at X_29
      refine dT2 ?_
      refine dInt_i ?_
      refine dInt_i ?_
      refine wr_t (by omega) ?_
      have D_30 := D_22.mv c_27 (rngn (by simp <;> omega))
      refine tcall (c_complete d T _ _ true _ hT D_30) ?_
      rintro _ s84 ⟨rfl, c_31, D_33⟩
      have z_32 := c_31.size
      rw [full_compl n k (by omega)] at D_33
      refine dInt_i ?_
      refine wr_t (by omega) ?_
      have X_34 := X_29.mv c_31 (rngn (by simp <;> omega))
      refine tcall (c_rcomplete x U _ _ true _ (by omega) X_34) ?_
      rintro _ s88 ⟨rfl, c_35, X_37⟩
      have z_36 := c_35.size
      rw [full_compl n k (by omega)] at X_37
      refine dInt_i ?_
      refine wr_t (by omega) ?_
      refine ⟨⟨s88, rfl, _, rfl, ((((((((ChL.refl [T, T + 1, T + 2, T + 3, T + 4, U, U + 1, U + 2, U + 3, U + 4] [] s12).chl c_8 (by simp) (by simp <;> omega)).ch c_13 (by simp)).ch c_15 (by simp)).ch c_20 (by simp)).ch c_27 (by simp)).ch c_31 (by simp)).ch c_35 (by simp)), ?_⟩, ?_⟩
      ·
        have D_38 := D_33.mv c_35 (rngn (by simp <;> omega))
        exact ⟨k + 1, by omega, by omega, D_38, X_37⟩
      ·
        simp <;> omega
    ·
      refine tcall (c_cnew T d _ Tc b _ hT D_10 hb) ?_
      rintro _ s102 ⟨c, r, rfl, c_39, cb_41, cm_42⟩
      have z_40 := c_39.size
      refine dT2 ?_
      refine dPtr_i ?_
      refine dInt_i ?_
      refine tcall (c_ynew x b _ hb) ?_
      rintro _ s108 ⟨y, rfl, c_43⟩
      have z_44 := c_43.size
      refine dT2 ?_
      refine dPtr_i ?_
      refine dInt_i ?_
      refine sB_t (by rfl) ?_
      refine ret_t ?_
      have D_45 := D_10.mv c_39 (rngn (by simp <;> omega))
      have D_46 := D_45.mv c_43 (rngn (by simp <;> omega))
      have X_47 := X_11.mv c_39 (rngn (by simp <;> omega))
      have X_48 := X_47.mv c_43 (rngn (by simp <;> omega))
      have cb_49 := cb_41.ch c_43 (by simp)
      have cm_50 := cm_42.ch c_43 (by simp)
      obtain rfl : k = n := by omega
      subst hn
      exact ⟨c, r, y, d, x, rfl, ((((((Ch.refl [T, T + 1, T + 2, T + 3, T + 4, U, U + 1, U + 2, U + 3, U + 4] s).ch c_1 (by simp)).ch c_4 (by simp)).chl c_8 (by simp) (by simp <;> omega)).ch c_39 (by simp)).ch c_43 (by simp)), D_46, X_48, cb_49, cm_50⟩

end Go.Proofs.Ytmgjdmohmhaemaa.E
