/- My own texts, joined. -/
import Derived.JoinedOf
import Derived.KernelRfl
import Derived.Test.YtdlelcpkelginaaProg
import Derived.WalkKit
import Derived.Test.YtdlelcpkelginaaMM6
/- Contracts of functions. -/
namespace Go.Proofs.Ytdlelcpkelginaa.E
open Go Go.Proofs Go.RowKit
set_option linter.unusedVariables false
set_option linter.unusedSimpArgs false
def natV (ks : List Nat) : List Value := ks.map fun (k : Nat) => Value.int .i64 (k : Int)
theorem natV_get {ks : List Nat} {i k : Nat} (h : ks[i]? = some k) : (natV ks)[i]? = some (.int .i64 (k : Int)) := by unfold natV; rw [List.getElem?_map, h]; rfl
def foldB (l : List UInt8) (ks : List Nat) : List UInt8 := ks.foldl (fun l k => withB l k true) l
theorem foldB_len (l : List UInt8) (ks : List Nat) : (foldB l ks).length = l.length := by
  unfold foldB
  induction ks generalizing l with
  | nil => rfl
  | cons k ks ih => rw [List.foldl_cons, ih, withB_len]
theorem foldB_snoc {l : List UInt8} {ks : List Nat} {i k : Nat} (h : ks[i]? = some k) : foldB l (ks.take (i + 1)) = withB (foldB l (ks.take i)) k true := by
  unfold foldB
  rw [List.take_add_one, h, Option.toList_some, List.foldl_append]; rfl
theorem gv_ints {n : Int} {il bl x : List UInt8} (h1 : il.length = 8) : (gv n il bl).take 1 ++ bvs x ++ (gv n il bl).drop (1 + 8) = gv n x bl := by
  have e1 : (bvs il).length = 8 := by rw [bvs_len, h1]
  unfold gv
  rw [show 1 + 8 = 8 + 1 from rfl, List.take_succ_cons, List.take_zero, List.drop_succ_cons, List.drop_append_of_le_length (by omega), List.drop_eq_nil_of_le (by omega)]
  simp
/-- bollard/mkfs.set -/
theorem c_msetB {r τ : Nat} {n : Int} {il bl : List UInt8} {la : Option Addr} {ln : Nat} (lc : Nat) {ks : List Nat} {τl : Nat} (s : TH) (hB : Blk s r (gv n il bl) 43 τ) (h8 : il.length = 8) (h32 : bl.length = 32) (hl : Sl s la (natV ks) τl) (hln : ks.length = ln) (hl0 : la = none → ln = 0) (hτ : τl ≠ τ) (hks : ∀ k ∈ ks, k / 8 < 32) (hb : ln ≤ 1000) : TRet Try.prog 34 #[.slice (some ⟨r, 9, none⟩) 32 32, .slice la ln lc] s fun v s' => v = .tuple #[] ∧ Ch [τ] s s' ∧ Blk s' r (gv n il (foldB bl ks)) 43 τ := by
  obtain ⟨M, hM, hM0, hMa, hMb, hMc, hMd, hMe, hMf⟩ := fresh6 s τ τl 0 0 0 0
  refine F34_calls _ _ _ _ _ _  ?_
  unfold F34
  refine ⟨fun vs H' => ∃ s' : TH, s'.h = H' ∧ ∃ i, vs = [.int .i64 i] ∧ Ch [τ] s s' ∧ (∃ k : Nat, i = k ∧ k ≤ ln ∧ Blk s' r (gv n il (foldB bl (ks.take k))) 43 τ), fun vs H' => match vs with | [.int .i64 i] => ((ln : Int) - i).toNat | _ => 0, ⟨s, rfl, _, rfl, Ch.refl _ _, ?_⟩, ?_⟩
  ·
    exact ⟨0, rfl, by omega, by rw [List.take_zero]; exact hB⟩
  ·
    intro i _ _ _ _ _ _ _ _ _ _ _ _ _ _ _ _ H_ hI_2
    obtain ⟨s_1, rfl, i_, hvs, c_3, k, rfl, hk, hB2⟩ := hI_2
    cases hvs
    have z_4 := c_3.size
    refine sB_d (fun hsB1 => ?_) (fun hsB1 => ?_)
    ·
      obtain ⟨kb, hkb⟩ : ∃ kb, ks[k]? = some kb := ⟨ks[k]'(by omega), by simp⟩
      have hk8 := hks kb (List.mem_of_getElem? hkb)
      obtain ⟨a, rfl⟩ := Option.ne_none_iff_exists'.1 (fun e => absurd (hl0 e) (by omega))
      refine nz_i ?_
      refine ask_t (by omega) ?_
      have h_5 := hl.mv c_3 (tagn (by simp <;> omega))
      refine ld_sl h_5 (by rw [Int.toNat_natCast, Nat.mul_one]; exact natV_get hkb) ?_
      refine dInt_i ?_
      refine tcall (c_bwith (xn := 32) (M + 10) 32 (gv_slB hB2 h8 (by rw [foldB_len]; exact h32)) (by rw [foldB_len]; assumption) (by omega) kb hk8 true) ?_
      rintro v_7 s_6 ⟨acall1, ccall1, rfl, c_9, call1a⟩
      have z_10 := c_9.size
      refine dT2 ?_
      refine dSl_i ?_
      refine dInt_i ?_
      have h_11 := hB2.ch c_9 (by simp)
      refine copy_blkm u32 in5 h_11 (call1a).sl (m := 32) (by rw [withB_len, foldB_len]; assumption) (by omega) (by omega) (by rw [gv_len h8 (by rw [foldB_len]; exact h32)]; decide) fun s_12 B_15 c_13o _ => ?_
      have c_13 := on_ch h_11 c_13o
      have z_14 := c_13.size
      have hB3 : Blk s_12 r (gv n il (withB (foldB bl (ks.take k)) kb true)) 43 τ := by have h := B_15; rw [gv_bits (x := withB (foldB bl (ks.take k)) kb true) h8 (by rw [foldB_len]; exact h32)] at h; exact h
      refine dInt_i ?_
      refine wr_t (by omega) ?_
      refine ⟨⟨s_12, rfl, _, rfl, ((((Ch.refl [τ] s).ch c_3 (by simp)).ch c_9 (by simp)).ch c_13 (by simp)), ?_⟩, ?_⟩
      ·
        exact ⟨k + 1, by omega, by omega, by rw [foldB_snoc hkb]; exact hB3⟩
      ·
        simp only []; omega
    ·
      refine ret_t ?_
      obtain rfl : k = ln := by omega
      rw [List.take_of_length_le (by omega)] at hB2
      exact ⟨rfl, ((Ch.refl [τ] s).ch c_3 (by simp)), hB2⟩
/-- bollard/mkfs.set -/
theorem c_msetI {r τ : Nat} {n : Int} {il bl : List UInt8} {la : Option Addr} {ln : Nat} (lc : Nat) {ks : List Nat} {τl : Nat} (s : TH) (hB : Blk s r (gv n il bl) 43 τ) (h8 : il.length = 8) (h32 : bl.length = 32) (hl : Sl s la (natV ks) τl) (hln : ks.length = ln) (hl0 : la = none → ln = 0) (hτ : τl ≠ τ) (hks : ∀ k ∈ ks, k / 8 < 8) (hb : ln ≤ 1000) : TRet Try.prog 34 #[.slice (some ⟨r, 1, none⟩) 8 8, .slice la ln lc] s fun v s' => v = .tuple #[] ∧ Ch [τ] s s' ∧ Blk s' r (gv n (foldB il ks) bl) 43 τ := by
  obtain ⟨M, hM, hM0, hMa, hMb, hMc, hMd, hMe, hMf⟩ := fresh6 s τ τl 0 0 0 0
  refine F34_calls _ _ _ _ _ _  ?_
  unfold F34
  refine ⟨fun vs H' => ∃ s' : TH, s'.h = H' ∧ ∃ i, vs = [.int .i64 i] ∧ Ch [τ] s s' ∧ (∃ k : Nat, i = k ∧ k ≤ ln ∧ Blk s' r (gv n (foldB il (ks.take k)) bl) 43 τ), fun vs H' => match vs with | [.int .i64 i] => ((ln : Int) - i).toNat | _ => 0, ⟨s, rfl, _, rfl, Ch.refl _ _, ?_⟩, ?_⟩
  ·
    exact ⟨0, rfl, by omega, by rw [List.take_zero]; exact hB⟩
  ·
    intro i _ _ _ _ _ _ _ _ _ _ _ _ _ _ _ _ H_ hI_2
    obtain ⟨s_1, rfl, i_, hvs, c_3, k, rfl, hk, hB2⟩ := hI_2
    cases hvs
    have z_4 := c_3.size
    refine sB_d (fun hsB1 => ?_) (fun hsB1 => ?_)
    ·
      obtain ⟨kb, hkb⟩ : ∃ kb, ks[k]? = some kb := ⟨ks[k]'(by omega), by simp⟩
      have hk8 := hks kb (List.mem_of_getElem? hkb)
      obtain ⟨a, rfl⟩ := Option.ne_none_iff_exists'.1 (fun e => absurd (hl0 e) (by omega))
      refine nz_i ?_
      refine ask_t (by omega) ?_
      have h_5 := hl.mv c_3 (tagn (by simp <;> omega))
      refine ld_sl h_5 (by rw [Int.toNat_natCast, Nat.mul_one]; exact natV_get hkb) ?_
      refine dInt_i ?_
      refine tcall (c_bwith (xn := 8) (M + 10) 8 (gv_slI hB2 (by rw [foldB_len]; exact h8) h32) (by rw [foldB_len]; assumption) (by omega) kb hk8 true) ?_
      rintro v_7 s_6 ⟨acall1, ccall1, rfl, c_9, call1a⟩
      have z_10 := c_9.size
      refine dT2 ?_
      refine dSl_i ?_
      refine dInt_i ?_
      have h_11 := hB2.ch c_9 (by simp)
      refine copy_blkm u32 in5 h_11 (call1a).sl (m := 8) (by rw [withB_len, foldB_len]; assumption) (by omega) (by omega) (by rw [gv_len (by rw [foldB_len]; exact h8) h32]; decide) fun s_12 B_15 c_13o _ => ?_
      have c_13 := on_ch h_11 c_13o
      have z_14 := c_13.size
      have hB3 : Blk s_12 r (gv n (withB (foldB il (ks.take k)) kb true) bl) 43 τ := by have h := B_15; rw [gv_ints (x := withB (foldB il (ks.take k)) kb true) (by rw [foldB_len]; exact h8)] at h; exact h
      refine dInt_i ?_
      refine wr_t (by omega) ?_
      refine ⟨⟨s_12, rfl, _, rfl, ((((Ch.refl [τ] s).ch c_3 (by simp)).ch c_9 (by simp)).ch c_13 (by simp)), ?_⟩, ?_⟩
      ·
        exact ⟨k + 1, by omega, by omega, by rw [foldB_snoc hkb]; exact hB3⟩
      ·
        simp only []; omega
    ·
      refine ret_t ?_
      obtain rfl : k = ln := by omega
      rw [List.take_of_length_le (by omega)] at hB2
      exact ⟨rfl, ((Ch.refl [τ] s).ch c_3 (by simp)), hB2⟩
theorem u8ext {a b : UInt8} (h : ∀ m, m < 8 → a.toNat.testBit m = b.toNat.testBit m) : a = b := by
  apply UInt8.toNat_inj.1
  apply Nat.eq_of_testBit_eq
  intro m
  by_cases hm : m < 8
  · exact h m hm
  · have h2 : 2 ^ 8 ≤ 2 ^ m := Nat.pow_le_pow_right (by decide) (by omega)
    rw [Nat.testBit_lt_two_pow (Nat.lt_of_lt_of_le a.toNat_lt h2), Nat.testBit_lt_two_pow (Nat.lt_of_lt_of_le b.toNat_lt h2)]
theorem xorB_tb (b : UInt8) {k m : Nat} (hm : m < 8) : (xorB b k).toNat.testBit m = (b.toNat.testBit m ^^ decide (k = m)) := by
  show (b.toBitVec ^^^ BitVec.ofNat 8 (2 ^ k)).toNat.testBit m = _
  rw [BitVec.testBit_toNat, BitVec.getLsbD_xor, BitVec.getLsbD_ofNat, Nat.testBit_two_pow]
  simp [hm]
  rfl
theorem setTo_xor {b : UInt8} {k : Nat} (h : b.toNat.testBit k = false) : setTo b k true = xorB b k := u8ext fun m hm => by
  rw [setTo_tb b true hm, xorB_tb b hm]
  by_cases e : m = k
  · subst e; rw [if_pos rfl, h]; simp
  · rw [if_neg e, decide_eq_false (fun h => e h.symm)]; simp
theorem setTo_same {b : UInt8} {k : Nat} (h : b.toNat.testBit k = true) : setTo b k true = b := u8ext fun m hm => by
  rw [setTo_tb b true hm]
  by_cases e : m = k
  · subst e; rw [if_pos rfl, h]
  · rw [if_neg e]
theorem withB_setB {l : List UInt8} {i : Nat} (h : i / 8 < l.length) : withB l i true = setB l i := by
  have hg : l.getD (i / 8) 0 = l[i / 8] := by rw [List.getD_eq_getElem?_getD, List.getElem?_eq_getElem h]; rfl
  unfold withB setB
  by_cases hb : hasB l i = true
  · rw [if_pos hb]
    rw [hasB_tb] at hb
    rw [setTo_same hb, hg, List.set_getElem_self]
  · rw [if_neg hb]
    rw [hasB_tb] at hb
    rw [setTo_xor (by simpa using hb)]
theorem iL_len (n : Nat) : (iL n).length = 8 := by unfold iL; split <;> rfl
theorem foldB_one (l : List UInt8) (k : Nat) : foldB l [k] = withB l k true := rfl
theorem sets_s {k : Nat} (h : k < 256) : withB (setsB zB32 k) k true = setsB zB32 (k + 1) := by rw [withB_setB (by rw [sets32]; omega)]; rfl
theorem i0_fold : foldB [0, 0, 0, 0, 0, 0, 0, 0] [0, 1, 2] = iL 0 := by decide
set_option maxRecDepth 100000 in
/-- bollard/mkfs.header -/
theorem c_mheader (G B N n : Nat) (s : TH) (hg : GeoOk G B N) (hn : n < G) : TRet Try.prog 13 #[.agg #[.int .i64 (G : Int), .int .i64 (B : Int), .int .i64 (N : Int)], .int .i64 (n : Int)] s fun v s' => v = .agg (gv (n : Int) (iL n) (setsB zB32 (nB n N))).toArray ∧ Ch [] s s' := by
  have hg2 := hg
  unfold GeoOk at hg2
  have hcan : canG (G : Int) (B : Int) (N : Int) := by unfold canG; omega
  have hfr := first_rng hg hn
  have hdm := first_dm (n := n) hg
  obtain ⟨M, hM, hM0, hMa, hMb, hMc, hMd, hMe, hMf⟩ := fresh6 s 0 0 0 0 0 0
  refine F13_calls _ _ _ _  ?_
  unfold F13
  refine al_t (M + 1) fun r1 s2 hr1 b_1 c_2 z_3 => ?_
  refine al_t (M + 2) fun r3 s4 hr3 b_4 c_5 z_6 => ?_
  have zA : Blk s4 r3 (gv 0 [0, 0, 0, 0, 0, 0, 0, 0] [0, 0, 0, 0, 0, 0, 0, 0, 0, 0, 0, 0, 0, 0, 0, 0, 0, 0, 0, 0, 0, 0, 0, 0, 0, 0, 0, 0, 0, 0, 0, 0]) 43 (M + 2) := b_4
  refine al_t (M + 3) fun r5 s6 hr5 b_7 c_8 z_9 => ?_
  have zB : Blk s6 r5 (gv 0 [0, 0, 0, 0, 0, 0, 0, 0] [0, 0, 0, 0, 0, 0, 0, 0, 0, 0, 0, 0, 0, 0, 0, 0, 0, 0, 0, 0, 0, 0, 0, 0, 0, 0, 0, 0, 0, 0, 0, 0]) 43 (M + 3) := b_7
  refine stG (n : Int) (il := [0, 0, 0, 0, 0, 0, 0, 0]) (bl := [0, 0, 0, 0, 0, 0, 0, 0, 0, 0, 0, 0, 0, 0, 0, 0, 0, 0, 0, 0, 0, 0, 0, 0, 0, 0, 0, 0, 0, 0, 0, 0]) rfl rfl rfl zB (by rfl) fun s7 b_10 c_11o z_12 => ?_
  have c_11 := on_ch zB c_11o
  have h_13 := b_1.ch ((c_5.app c_8).app c_11) (by simp)
  refine ld_t h_13 rfl ?_
  refine ld_t h_13 rfl ?_
  refine ld_t h_13 rfl ?_
  refine tcall (gc_data (G : Int) (B : Int) (N : Int) (n : Int) hcan (by omega) _) ?_
  rintro v_15 s_14 ⟨rfl, c_17⟩
  have z_18 := c_17.size
  refine dT3 ?_
  refine dInt_i ?_
  refine dInt_i ?_
  refine dBl_i ?_
  have h_19 := h_13.ch c_17 (by simp)
  refine ld_t h_19 rfl ?_
  refine ld_t h_19 rfl ?_
  refine ld_t h_19 rfl ?_
  refine tcall (gc_group (G : Int) (B : Int) (N : Int) _ hcan hfr _) ?_
  rintro v_21 s_20 ⟨rfl, c_23⟩
  have z_24 := c_23.size
  rw [hdm.1, hdm.2]
  refine dT3 ?_
  refine dInt_i ?_
  refine dInt_i ?_
  refine dBl_i ?_
  refine ⟨fun vs H' => ∃ s' : TH, s'.h = H' ∧ ∃ i, vs = [.int .i64 i] ∧ Ch [M + 3, M + 9] s_20 s' ∧ (∃ k : Nat, i = k ∧ k ≤ 2 + N / 4 ∧ Blk s' r5 (gv (n : Int) [0, 0, 0, 0, 0, 0, 0, 0] (setsB zB32 k)) 43 (M + 3)), fun vs H' => match vs with | [.int .i64 i] => (((2 + N / 4 : Nat) : Int) - i).toNat | _ => 0, ⟨s_20, rfl, _, rfl, Ch.refl _ _, ?_⟩, ?_⟩
  ·
    have h_25 := b_10.ch (c_17.app c_23) (by simp)
    exact ⟨0, rfl, by omega, h_25⟩
  ·
    intro i _ _ _ _ _ _ _ _ _ H_ hI_27
    obtain ⟨s_26, rfl, i_, hvs, c_28, k, rfl, hk, hB5⟩ := hI_27
    cases hvs
    have z_29 := c_28.size
    refine sB_d (fun hsB1 => ?_) (fun hsB1 => ?_)
    ·
      refine ask_t (by omega) ?_
      refine al_t (M + 9) fun r84 s85 hr84 b_30 c_31 z_32 => ?_
      try rw [slO_zero]
      have hk1 : Sl s85 (some ⟨r84, 0, none⟩) (natV [k]) (M + 9) := (b_30).sl
      have h_33 := hB5.ch c_31 (by simp)
      refine tcall (c_msetB (ks := [k]) _ _ h_33 rfl (sets32 _) hk1 rfl (fun h => by cases h) (by omega) (by intro q hq; simp at hq; subst hq; omega) (by omega)) ?_
      rintro v_35 s_34 ⟨rfl, c_37, call3a⟩
      have z_38 := c_37.size
      refine wr_t (by omega) ?_
      refine ⟨⟨s_34, rfl, _, rfl, ((((Ch.refl [M + 3, M + 9] s_20).ch c_28 (by simp)).ch c_31 (by simp)).ch c_37 (by simp)), ?_⟩, ?_⟩
      ·
        exact ⟨k + 1, by omega, by omega, by have h := call3a; rw [foldB_one, sets_s (by omega)] at h; exact h⟩
      ·
        simp only []; omega
    ·
      refine jn0 (fun s' => Ch [M + 3, M + 9] s_26 s' ∧ (Blk s' r5 (gv (n : Int) (iL n) (setsB zB32 (nB n N))) 43 (M + 3))) ?_ ?_
      ·
        rintro  s_39 ⟨c_40, hB6⟩
        have z_41 := c_40.size
        obtain ⟨i0, i1, i2, i3, i4, i5, i6, i7, hil⟩ := len8 (iL_len n)
        obtain ⟨b0, b1, b2, b3, b4, b5, b6, b7, b8, b9, b10, b11, b12, b13, b14, b15, b16, b17, b18, b19, b20, b21, b22, b23, b24, b25, b26, b27, b28, b29, b30, b31, hbl⟩ := len32 (sets32 (nB n N))
        have hB7 := hB6
        rw [hil, hbl] at hB7
        intro _
        intros
        refine ld41 hB7 ?_
        have h_45 := zA.ch (((((c_8.app c_11).app c_17).app c_23).app c_28).app c_40) (by simp)
        refine stG (n : Int) (il := [i0, i1, i2, i3, i4, i5, i6, i7]) (bl := [b0, b1, b2, b3, b4, b5, b6, b7, b8, b9, b10, b11, b12, b13, b14, b15, b16, b17, b18, b19, b20, b21, b22, b23, b24, b25, b26, b27, b28, b29, b30, b31]) rfl rfl rfl h_45 (by rfl) fun s144 b_42 c_43o z_44 => ?_
        have c_43 := on_ch h_45 c_43o
        refine ld41 b_42 ?_
        refine ret_t ?_
        exact ⟨by rw [hil, hbl]; rfl, ((((((((((Ch.refl [] s).ch c_2 (by simp)).ch c_5 (by simp)).ch c_8 (by simp)).fr c_11 hM (by simp)).ch c_17 (by simp)).ch c_23 (by simp)).fr c_28 hM (by simp)).fr c_40 hM (by simp)).fr c_43 hM (by simp))⟩
      ·
        intro K_46 hK_46
        refine sB_d (fun hsB2 => ?_) (fun hsB2 => ?_)
        ·
          refine ask_t (by omega) ?_
          refine al_t (M + 9) fun r227 s228 hr227 b_47 c_48 z_49 => ?_
          try rw [slO_zero]
          obtain rfl : k = 2 + N / 4 := by omega
          have hk2 : Sl s228 (some ⟨r227, 0, none⟩) (natV [2 + N / 4]) (M + 9) := (b_47).sl
          have h_50 := hB5.ch c_48 (by simp)
          refine tcall (c_msetB (ks := [2 + N / 4]) _ _ h_50 rfl (sets32 _) hk2 rfl (fun h => by cases h) (by omega) (by intro q hq; simp at hq; subst hq; omega) (by omega)) ?_
          rintro v_52 s_51 ⟨rfl, c_54, call4a⟩
          have z_55 := c_54.size
          have hB8 : Blk s_51 r5 (gv (n : Int) [0, 0, 0, 0, 0, 0, 0, 0] (setsB zB32 (2 + N / 4 + 1))) 43 (M + 3) := by have h := call4a; rw [foldB_one, sets_s (by omega)] at h; exact h
          refine ask_t (by omega) ?_
          refine al_t (M + 9) fun r231 s232 hr231 b_56 c_57 z_58 => ?_
          try rw [slO_zero]
          have hk3 : Sl s232 (some ⟨r231, 0, none⟩) (natV [0, 1, 2]) (M + 9) := (b_56).sl
          have h_59 := hB8.ch c_57 (by simp)
          refine tcall (c_msetI (ks := [0, 1, 2]) _ _ h_59 rfl (sets32 _) hk3 rfl (fun h => by cases h) (by omega) (by intro q hq; simp at hq; rcases hq with rfl | rfl | rfl <;> omega) (by omega)) ?_
          rintro v_61 s_60 ⟨rfl, c_63, call5a⟩
          have z_64 := c_63.size
          refine hK_46 _ ⟨(((((Ch.refl [M + 3, M + 9] s_26).ch c_48 (by simp)).ch c_54 (by simp)).ch c_57 (by simp)).ch c_63 (by simp)), ?_⟩
          obtain rfl : n = 0 := by omega
          have h := call5a
          rw [i0_fold] at h
          exact h
        ·
          refine hK_46 _ ⟨(Ch.refl [M + 3, M + 9] s_26), ?_⟩
          have e1 : iL n = [0, 0, 0, 0, 0, 0, 0, 0] := by unfold iL; rw [if_neg (by omega)]
          have e2 : nB n N = k := by unfold nB; rw [if_neg (by omega)]; omega
          rw [e1, e2]; exact hB5
def dinF (m l z d0 d1 d2 d3 e1 e2 : Nat) (k : Nat) : List FldM := [⟨1, 2, m⟩, ⟨1, 0, 0⟩, ⟨2, 1000, l⟩, ⟨4, 532992, z⟩] ++ ([⟨2, 2047, d0⟩, ⟨2, 2047, d1⟩, ⟨2, 2047, d2⟩, ⟨2, 2047, d3⟩] : List FldM).take k
def dinG (m l z d0 d1 d2 d3 e1 e2 : Nat) : List FldM := [⟨1, 2, m⟩, ⟨1, 0, 0⟩, ⟨2, 1000, l⟩, ⟨4, 532992, z⟩, ⟨2, 2047, d0⟩, ⟨2, 2047, d1⟩, ⟨2, 2047, d2⟩, ⟨2, 2047, d3⟩, ⟨2, 2047, e1⟩, ⟨2, 2047, e2⟩]
def DinB (m l z d0 d1 d2 d3 e1 e2 : Nat) : Prop := m ≤ 2 ∧ l ≤ 1000 ∧ z ≤ 532992 ∧ d0 < 2048 ∧ d1 < 2048 ∧ d2 < 2048 ∧ d3 < 2048 ∧ e1 < 2048 ∧ e2 < 2048
theorem DinOk.b {m l z d0 d1 d2 d3 e1 e2 : Nat} (hv : DinOk m l z d0 d1 d2 d3 e1 e2) : DinB m l z d0 d1 d2 d3 e1 e2 := by unfold DinOk at hv; unfold DinB; omega
theorem dinG_ok {m l z d0 d1 d2 d3 e1 e2 : Nat} (hv : DinB m l z d0 d1 d2 d3 e1 e2) : ∀ f ∈ dinG m l z d0 d1 d2 d3 e1 e2, f.n ≤ f.m ∧ f.w ≤ 4 ∧ f.n < 4294967296 := by
  intro f hf
  unfold DinB at hv
  simp only [dinG, List.mem_cons, List.not_mem_nil, or_false] at hf
  rcases hf with rfl | rfl | rfl | rfl | rfl | rfl | rfl | rfl | rfl | rfl <;> simp only [] <;> omega
def dinR (m l z d0 d1 d2 d3 e1 e2 : Nat) : List UInt8 := wrL (wrL (dirL (wrL (wrL (wrL (List.replicate 32 0) 0 1 m) 2 2 l) 4 4 z) [d0, d1, d2, d3] 4) 16 2 e1) 18 2 e2
set_option maxRecDepth 100000 in
theorem din_eq (m l z d0 d1 d2 d3 e1 e2 : Nat) : [] ++ fldsL (dinG m l z d0 d1 d2 d3 e1 e2) ++ List.replicate (32 - 20) 0 = dinR m l z d0 d1 d2 d3 e1 e2 := by kernel_rfl
theorem dinR_len (m l z d0 d1 d2 d3 e1 e2 : Nat) : (dinR m l z d0 d1 d2 d3 e1 e2).length = 32 := by unfold dinR; simp [wrL_len, dirL_len]
theorem din_flds (m l z d0 d1 d2 d3 e1 e2 : Nat) : (fldsL (dinG m l z d0 d1 d2 d3 e1 e2)).length = 20 := rfl
theorem dinF_s (m l z d0 d1 d2 d3 e1 e2 : Nat) {k dk : Nat} (hk : k < 4) (h : [d0, d1, d2, d3].getD k 0 = dk) : (dinF m l z d0 d1 d2 d3 e1 e2 (k + 1)).flatMap fc = (dinF m l z d0 d1 d2 d3 e1 e2 k).flatMap fc ++ fc ⟨2, 2047, dk⟩ := by
  subst h
  rcases (by omega : k = 0 ∨ k = 1 ∨ k = 2 ∨ k = 3) with rfl | rfl | rfl | rfl <;> rfl
theorem in62 : (Try.prog.info? 62).map (fun i => (i.zero, i.size, i.bytes)) = some (some (.agg #[.int .i64 0, .int .i64 0, .int .i64 0]), 3, 24) := by kernel_rfl
/-- bollard/layout.mayDinode -/
theorem c_lmayd (m l z d0 d1 d2 d3 e1 e2 : Nat) (s : TH) (hv : DinOk m l z d0 d1 d2 d3 e1 e2) : TRet Try.prog 35 #[.agg #[.int .i64 (m : Int), .int .i64 (l : Int), .int .i64 (z : Int), .int .i64 (d0 : Int), .int .i64 (d1 : Int), .int .i64 (d2 : Int), .int .i64 (d3 : Int), .int .i64 (e1 : Int), .int .i64 (e2 : Int)]] s fun v s' => v = .bool true ∧ Ch [] s s' := by
  have hv2 := hv
  unfold DinOk at hv2
  obtain ⟨M, hM, hM0, hMa, hMb, hMc, hMd, hMe, hMf⟩ := fresh6 s 0 0 0 0 0 0
  refine F35_calls _ _ _ _ _ _ _ _ _  ?_
  unfold F35
  refine al_t (M + 1) fun r1 s2 hr1 b_1 c_2 z_3 => ?_
  refine ld_t b_1 rfl ?_
  refine dInt_i ?_
  refine sB_d (fun hsB1 => by exfalso; omega) (fun hsB1 => ?_)
  refine sB_d (fun hsB2 => ?_) (fun hsB2 => ?_)
  ·
    refine ret_t ?_
    exact ⟨rfl, ((Ch.refl [] s).ch c_2 (by simp))⟩
  ·
    refine sB_d (fun hsB3 => ?_) (fun hsB3 => by exfalso; omega)
    refine ld_t b_1 rfl ?_
    refine dInt_i ?_
    refine ask_t (by omega) ?_
    refine nm_a fun nz hnz => ?_
    rw [Int.tmod_eq_emod_of_nonneg (by omega)] at hnz
    refine ret_t ?_
    exact ⟨ret_b (by first | rfl | (apply beq_iff_eq.2; omega) | (simp; omega)), ((Ch.refl [] s).ch c_2 (by simp))⟩
/-- bollard/layout.EncodeDinode -/
theorem c_lencDin (τ : Nat) (m l z d0 d1 d2 d3 e1 e2 : Nat) (s : TH) (hv : DinOk m l z d0 d1 d2 d3 e1 e2) : TRet Try.prog 15 #[.agg #[.int .i64 (m : Int), .int .i64 (l : Int), .int .i64 (z : Int), .int .i64 (d0 : Int), .int .i64 (d1 : Int), .int .i64 (d2 : Int), .int .i64 (d3 : Int), .int .i64 (e1 : Int), .int .i64 (e2 : Int)]] s fun v s' => ∃ a' c', v = .tuple #[.slice a' 32 c', .int .i64 0] ∧ Ch [] s s' ∧ Own s' a' 32 c' 5 1 (bvs (dinL m l z d0 d1 d2 d3 e1 e2)) τ := by
  have hvb := hv.b
  have hv2 := hv
  unfold DinOk at hv2
  obtain ⟨M, hM, hM0, hMa, hMb, hMc, hMd, hMe, hMf⟩ := fresh6 s τ 0 0 0 0 0
  refine F15_calls _ _ _ _ _ _ _ _ _  ?_
  unfold F15
  refine al_t (M + 1) fun r1 s2 hr1 b_1 c_2 z_3 => ?_
  refine ld_t b_1 rfl ?_
  refine dInt_i ?_
  refine ld_t b_1 rfl ?_
  refine dInt_i ?_
  refine ld_t b_1 rfl ?_
  refine dInt_i ?_
  refine al_t (M + 2) fun r9 s10 hr9 b_4 c_5 z_6 => ?_
  have hf0 : Own s10 (some ⟨r9, 0, none⟩) 4 4 62 3 ((dinF m l z d0 d1 d2 d3 e1 e2 0).flatMap fc) (M + 2) := (b_4).own (n := 4) 3 rfl (by unfold maxLen; omega)
  have h_7 := b_1.ch c_5 (by simp)
  refine ld_t h_7 rfl ?_
  refine ld_t h_7 rfl ?_
  refine ld_t h_7 rfl ?_
  refine ld_t h_7 rfl ?_
  refine ⟨fun vs H' => ∃ s' : TH, s'.h = H' ∧ ∃ pa pn pc i, vs = [.slice pa pn pc, .int .i64 i] ∧ Ch [M + 2] s10 s' ∧ (∃ k : Nat, i = k ∧ k ≤ 4 ∧ pn = 4 + k ∧ Own s' pa pn pc 62 3 ((dinF m l z d0 d1 d2 d3 e1 e2 k).flatMap fc) (M + 2)), fun vs H' => match vs with | [.slice pa pn pc, .int .i64 i] => (4 - i).toNat | _ => 0, ⟨s10, rfl, _, _, _, _, rfl, Ch.refl _ _, ?_⟩, ?_⟩
  ·
    exact ⟨0, rfl, by omega, rfl, hf0⟩
  ·
    intro pa pn pc i _ _ _ _ _ _ _ _ _ H_ hI_9
    obtain ⟨s_8, rfl, pa_, pn_, pc_, i_, hvs, c_10, k, rfl, hk, rfl, ho⟩ := hI_9
    cases hvs
    have z_11 := c_10.size
    refine sB_d (fun hsB1 => ?_) (fun hsB1 => ?_)
    ·
      refine ask_t (by omega) ?_
      refine oV_i (v := .int .i64 (([d0, d1, d2, d3].getD k 0 : Nat) : Int)) (by rcases (by omega : k = 0 ∨ k = 1 ∨ k = 2 ∨ k = 3) with rfl | rfl | rfl | rfl <;> rfl) ?_
      refine dInt_i ?_
      refine al_t (M + 9) fun r34 s35 hr34 b_12 c_13 z_14 => ?_
      have h_15 := ho.mv c_13 (tagn (by simp))
      refine app_i u63 in62 rfl h_15 (b_12).sl (m := 1) (k := 3) rfl (by intro u hu; simp only [List.mem_cons, List.not_mem_nil, or_false] at hu; rcases hu with rfl | rfl | rfl <;> rfl) (by simp) (by unfold maxLen; omega) fun s_16 pa2 pc2 o_19 c_17o _ => ?_
      have c_17 := c_17o.ch h_15 (T := [M + 2]) (by simp)
      have z_18 := c_17.size
      refine dSl_i ?_
      refine wr_t (by omega) ?_
      refine ⟨⟨s_16, rfl, _, _, _, _, rfl, ((((Ch.refl [M + 2] s10).ch c_10 (by simp)).ch c_13 (by simp)).ch c_17 (by simp)), ?_⟩, ?_⟩
      ·
        exact ⟨k + 1, by omega, by omega, by omega, by rw [dinF_s _ _ _ _ _ _ _ _ _ (by omega) rfl]; exact o_19⟩
      ·
        simp only []; omega
    ·
      have h_20 := h_7.ch c_10 (by simp)
      refine ld_t h_20 rfl ?_
      refine dInt_i ?_
      refine ld_t h_20 rfl ?_
      refine dInt_i ?_
      refine al_t (M + 9) fun r48 s49 hr48 b_21 c_22 z_23 => ?_
      have h_24 := ho.mv c_22 (tagn (by simp))
      refine app_i u63 in62 rfl h_24 (b_21).sl (m := 2) (k := 3) rfl (by intro u hu; simp only [List.mem_cons, List.not_mem_nil, or_false] at hu; rcases hu with rfl | rfl | rfl | rfl | rfl | rfl <;> rfl) (by simp) (by unfold maxLen; omega) fun s_25 pa2 pc2 o_28 c_26o _ => ?_
      have c_26 := c_26o.ch h_24 (T := [M + 2]) (by simp)
      have z_27 := c_26.size
      obtain rfl : k = 4 := by omega
      have hG : Own s_25 pa2 (4 + 4 + 2) pc2 62 3 ((dinG m l z d0 d1 d2 d3 e1 e2).flatMap fc) (M + 2) := o_28
      refine dSl_i ?_
      refine jn1 (fun fv s' => Ch [] s_25 s' ∧ (fv = .bool false)) ?_ ?_
      ·
        rintro fv s_29 ⟨c_30, rfl⟩
        have z_31 := c_30.size
        intro _
        intros
        refine dBl_i ?_
        refine sB_f (by rfl) ?_
        have hap : AppB s_29 none 0 0 [] (M + 3) (M + 4) := ⟨.inl (Own.nil _ _ _ _)⟩
        have h_32 := hG.mv c_30 (tagn (by simp))
        refine tcall (c_lfields _ _ hap (h_32).sl rfl (fun h => absurd ((h_32).none_iff h) (by omega)) (by omega) (by omega) (by omega) (fun f hf => (dinG_ok hvb f hf).2) (by rw [din_flds]; omega)) ?_
        rintro v_34 s_33 ⟨acall1, ccall1, rfl, c_36, call1a⟩
        have z_37 := c_36.size
        rw [din_flds]
        obtain ⟨σ, hsl, hsn⟩ := AppB.sl call1a
        refine dSl_i ?_
        refine tcall (c_lfull (M + 10) _ hsl (by rw [hsn, din_flds]) 32 (by omega)) ?_
        rintro v_39 s_38 ⟨acall2, ccall2, rfl, c_41, call2a⟩
        have z_42 := c_41.size
        rw [din_eq] at call2a
        refine dSl_i ?_
        have h_43 := h_20.ch ((((c_22.app c_26).app c_30).app c_36).app c_41) (by simp)
        refine ld_t h_43 rfl ?_
        refine dInt_i ?_
        refine sB_d (fun hsB3 => by exfalso; omega) (fun hsB3 => ?_)
        refine tcall (c_wseal τ _ (call2a).sl (dinR_len m l z d0 d1 d2 d3 e1 e2) (by omega) (call2a).le (by omega)) ?_
        rintro v_45 s_44 ⟨acall3, ccall3, rfl, c_47, call3a⟩
        have z_48 := c_47.size
        refine dT2 ?_
        refine dSl_i ?_
        refine dInt_i ?_
        refine ret_t ?_
        exact ⟨_, _, rfl, ((((((((((Ch.refl [] s).ch c_2 (by simp)).ch c_5 (by simp)).fr c_10 hM (by simp)).ch c_22 (by simp)).fr c_26 hM (by simp)).ch c_30 (by simp)).fr c_36 hM (by simp)).ch c_41 (by simp)).ch c_47 (by simp)), call3a⟩
      ·
        intro K_49 hK_49
        have h_50 := h_20.ch (c_22.app c_26) (by simp)
        refine ld_t h_50 rfl ?_
        refine ld_t h_50 rfl ?_
        refine ld_t h_50 rfl ?_
        refine ld_t h_50 rfl ?_
        refine ld_t h_50 rfl ?_
        refine ld_t h_50 rfl ?_
        refine ld_t h_50 rfl ?_
        refine ld_t h_50 rfl ?_
        refine ld_t h_50 rfl ?_
        refine tcall (c_lmayd m l z d0 d1 d2 d3 e1 e2 _ hv) ?_
        rintro v_52 s_51 ⟨rfl, c_54⟩
        have z_55 := c_54.size
        refine dBl_i ?_
        refine sB_f (by rfl) ?_
        have h_56 := hG.mv c_54 (tagn (by simp))
        refine tcall (c_lfit _ _ (h_56).sl rfl (fun h => absurd ((h_56).none_iff h) (by omega)) (by omega) (fun f hf => (dinG_ok hvb f hf).1)) ?_
        rintro v_58 s_57 ⟨rfl, c_60⟩
        have z_61 := c_60.size
        refine dBl_i ?_
        refine hK_49 _ _ ⟨(((Ch.refl [] s_25).ch c_54 (by simp)).ch c_60 (by simp)), ?_⟩
        exact rfl
/-- bytes.Equal -/
theorem c_beq {xa : Option Addr} {xn : Nat} (xc : Nat) {l : List UInt8} {τx : Nat} {ya : Option Addr} {yn : Nat} (yc : Nat) {m : List UInt8} {τy : Nat} {s : TH} (hx : Sl s xa (bvs l) τx) (hn : l.length = xn) (h0 : xa = none → xn = 0) (hy : Sl s ya (bvs m) τy) (hm : m.length = yn) (g0 : ya = none → yn = 0) : TRet Try.prog 23 #[.slice xa xn xc, .slice ya yn yc] s fun v s' => v = .bool (decide (l = m)) ∧ Ch [] s s' := by
  refine F23_calls _ _ _ _ _ _  ?_
  unfold F23
  refine conv_bs u32 u5 (by kernel_rfl) hx hn h0 ?_
  refine dStr_i ?_
  refine conv_bs u32 u5 (by kernel_rfl) hy hm g0 ?_
  refine dStr_i ?_
  refine ret_t ?_
  exact ⟨ret_b (by simp only [ByteArray.toList_mk]; by_cases h : l = m <;> simp [h]), (Ch.refl [] s)⟩
set_option maxRecDepth 100000 in
/-- slices.EqualFunc[[][]byte,[][]byte,[]byte,[]byte] -/
theorem c_eqrows {xa : Option Addr} (xc : Nat) {hs : List Hd} {τx σx : Nat} {ya : Option Addr} (yc n : Nat) {gs : List Hd} {τy σy : Nat} {bs : List (List UInt8)} (s : TH) (hx : Sl s xa (hs.flatMap hd1) τx) (hy : Sl s ya (gs.flatMap hd1) τy) (hb : BRel s σx hs bs) (gb : BRel s σy gs bs) (hn : bs.length = n) (hn2 : n ≤ 2048) : TRet Try.prog 22 #[.slice xa n xc, .slice ya n yc, .func (.func 23) #[] #[]] s fun v s' => v = .bool true ∧ Ch [] s s' := by
  have hl1 := hb.len
  have hl2 := gb.len
  refine F22_calls _ _ _ _ _ _ _ _ _  ?_
  unfold F22
  refine sB_nd (fun hsB1 => by exfalso; omega) (fun hsB1 => ?_)
  refine ⟨fun vs H' => ∃ s' : TH, s'.h = H' ∧ ∃ i, vs = [.int .i64 i] ∧ Ch [] s s' ∧ (∃ kk : Nat, i = kk ∧ kk ≤ n), fun vs H' => match vs with | [.int .i64 i] => ((n : Int) - i).toNat | _ => 0, ⟨s, rfl, _, rfl, Ch.refl _ _, ?_⟩, ?_⟩
  ·
    exact ⟨0, rfl, by omega⟩
  ·
    intro i _ _ _ _ _ _ _ _ _ _ _ _ _ _ _ _ _ _ H_ hI_2
    obtain ⟨s_1, rfl, i_, hvs, c_3, kk, rfl, hk⟩ := hI_2
    cases hvs
    have z_4 := c_3.size
    refine sB_d (fun hsB2 => ?_) (fun hsB2 => ?_)
    ·
      obtain ⟨p, hp⟩ : ∃ p, hs[kk]? = some p := ⟨hs[kk]'(by omega), by simp⟩
      obtain ⟨q, hq⟩ : ∃ q, gs[kk]? = some q := ⟨gs[kk]'(by omega), by simp⟩
      obtain ⟨bb, hbb⟩ : ∃ b, bs[kk]? = some b := ⟨bs[kk]'(by omega), by simp⟩
      obtain ⟨a, rfl⟩ := hx.some (fun e => by have := bcell hp; rw [e] at this; simp at this)
      obtain ⟨a2, rfl⟩ := hy.some (fun e => by have := bcell hq; rw [e] at this; simp at this)
      refine nz_i ?_
      refine ask_t (by omega) ?_
      have h_5 := hx.mv c_3 (tagn (by simp))
      refine ld_sl h_5 (by rw [Int.toNat_natCast, Nat.mul_one]; exact bcell hp) ?_
      refine dSl_i ?_
      refine nz_i ?_
      refine ask_t (by omega) ?_
      have h_6 := hy.mv c_3 (tagn (by simp))
      refine ld_sl h_6 (by rw [Int.toNat_natCast, Nat.mul_one]; exact bcell hq) ?_
      refine dSl_i ?_
      refine gB_i rfl ?_
      have h_7 := hb.mv c_3 (tagn (by simp))
      have h_8 := gb.mv c_3 (tagn (by simp))
      refine tcall (c_beq _ _ ((h_7).at_ _ _ _ hp hbb).sl ((h_7).at_ _ _ _ hp hbb).len (fun h => by obtain ⟨y, hy⟩ := ((h_7).at_ _ _ _ hp hbb).ne; rw [h] at hy; cases hy) ((h_8).at_ _ _ _ hq hbb).sl ((h_8).at_ _ _ _ hq hbb).len (fun h => by obtain ⟨y, hy⟩ := ((h_8).at_ _ _ _ hq hbb).ne; rw [h] at hy; cases hy)) ?_
      rintro v_10 s_9 ⟨rfl, c_12⟩
      have z_13 := c_12.size
      refine dBl_i ?_
      refine sB_nd (fun hsB3 => ?_) (fun hsB3 => ?_)
      ·
        refine ret_t ?_
        exact absurd rfl hsB3
      ·
        refine wr_t (by omega) ?_
        refine ⟨⟨s_9, rfl, _, rfl, (((Ch.refl [] s).ch c_3 (by simp)).ch c_12 (by simp)), ?_⟩, ?_⟩
        ·
          exact ⟨kk + 1, by omega, by omega⟩
        ·
          simp only []; omega
    ·
      refine ret_t ?_
      exact ⟨rfl, ((Ch.refl [] s).ch c_3 (by simp))⟩
/-- bollard/bollardplain.SameImage -/
theorem c_same {xa : Option Addr} (xc : Nat) {hs : List Hd} {τx σx : Nat} {ya : Option Addr} (yc n m : Nat) {gs : List Hd} {τy σy : Nat} {bs : List (List UInt8)} (s : TH) (hx : Sl s xa (hs.flatMap hd1) τx) (hy : Sl s ya (gs.flatMap hd1) τy) (hb : BRel s σx hs bs) (gb : BRel s σy gs bs) (hn : bs.length = n) (hm : bs.length = m) (hn2 : n ≤ 2048) : TRet Try.prog 6 #[.slice xa n xc, .slice ya m yc] s fun v s' => v = .bool true ∧ Ch [] s s' := by
  subst hn
  subst hm
  refine F6_calls _ _ _ _ _ _  ?_
  unfold F6
  refine tcall (c_eqrows xc yc _ _ hx hy hb gb rfl hn2) ?_
  rintro v_2 s_1 ⟨rfl, c_4⟩
  have z_5 := c_4.size
  refine dBl_i ?_
  refine ret_t ?_
  exact ⟨rfl, ((Ch.refl [] s).ch c_4 (by simp))⟩
theorem ba_beq (a b : ByteArray) : (a == b) = decide (a = b) := by
  cases a with | mk x => cases b with | mk y =>
  show (ByteArray.mk x == ByteArray.mk y) = _
  have e : (ByteArray.mk x == ByteArray.mk y) = (x == y) := rfl
  rw [e]
  by_cases h : x = y
  · subst h; simp
  · simp [h]
theorem findNow_str (k : ByteArray) : ∀ (es : List MapEntry) (ks : List ByteArray) (i : Nat), es.map (·.key) = ks.map Value.string → Instr.findNow .string (.string k) es i = some (findL k es ks i)
  | [], [], i, _ => rfl
  | [], _ :: _, i, h => by simp at h
  | _ :: _, [], i, h => by simp at h
  | e :: es, k' :: ks, i, h => by
    simp only [List.map_cons, List.cons.injEq] at h
    simp only [Instr.findNow, Instr.sameNow, h.1, findL, ba_beq]
    by_cases hk : k = k'
    · subst hk; simp
    · simp only [decide_eq_false hk, if_neg hk]
      exact findNow_str k es ks (i + 1) h.2
theorem check_str {P : Program} {K : TypeId} (n : Nat) (h : P.underlying K = some .string) (b : Bool) (k : ByteArray) (w : World) : (Instr.checkKey b (n + 1) K (.string k)).run P w = .ok () w := by
  simp only [Instr.checkKey, Sem.run_bind, run_under h, Result.andThen_ok]
  rfl
theorem keyStr {P : Program} {K : TypeId} (h : P.underlying K = some .string) : KeyOk P K Value.string where
  check b k w := check_str 9999 h b k w
  find k es ks he w := by simp [Instr.findKey, run_under h, findNow_str k es ks 0 he]
  same k := by show (k == k) = true; rw [ba_beq]; simp
theorem run_app_room_str {P : Program} {t u ty e : TypeId} {i : TypeInfo} (w : World) (d : Array UInt8) (ht : P.underlying t = some (.slice e)) (hu : P.underlying u = some .string) (hi : P.info? e = some i) (hs : i.size = 1)
    (g o sLen sCap : Nat) (cur : Array Value) (hg : w.heap[g]? = some (.cells cur e (0, 0))) (hroom : sLen + d.size ≤ sCap) (hfit : o + sLen + d.size ≤ cur.size) :
    (Builtin.append_ #[t, u] ty #[.slice (some ⟨g, o, none⟩) sLen sCap, .string ⟨d⟩]).run P w =
      .ok (.slice (some ⟨g, o, none⟩) (sLen + d.size) sCap) (w.setRow g (cur.toList.take (o + sLen) ++ bvs d.toList ++ cur.toList.drop (o + sLen + d.size)).toArray) := by
  have hf := Go.Lib.run_firstCells_string (P := P) w 1 ⟨d⟩
  rw [show Go.Lib.strCells ⟨d⟩ = bvs d.toList from rfl, show ByteArray.size ⟨d⟩ = d.size from rfl] at hf
  have hst := run_storeCells_at P g (o + sLen) e (bvs d.toList) 0 cur w hg (by simp [bvs_len]; omega) (bvs_one _)
  simp only [Nat.add_zero, bvs_len, Array.length_toList] at hst
  have hadd : (⟨g, o, none⟩ : Addr).add sLen = ⟨g, o + sLen, none⟩ := by unfold Addr.add; split <;> simp_all
  have hlo : ∀ w, (Builtin.lenOf (.string ⟨d⟩)).run P w = .ok d.size w := fun w => rfl
  simp [Builtin.append_, run_underlying ht, run_underlying hu, sizeOf, typeInfo, hi, hs, hlo, hroom, hf, hadd, hst]
theorem app_str {P : Program} {t u ty e : TypeId} {E : List PanicEntry → Heap → Prop} {s : TH} {a : Option Addr} {n c : Nat} {l : List UInt8} {τ : Nat} (d : Array UInt8) {K : Value → Heap → Prop}
    (ht : P.underlying t = some (.slice e)) (hu : P.underlying u = some .string) (hi' : (P.info? e).map (fun i => (i.zero, i.size, i.bytes)) = some (some (.int .u8 0), 1, 1))
    (hO : Own s a n c e 1 (bvs l) τ) (ha : a ≠ none) (hb : n ≤ 1000000000 ∧ d.size ≤ 1000000000)
    (hk : ∀ (s' : TH) (a' : Option Addr) (c' : Nat), Own s' a' (n + d.size) c' e 1 (bvs (l ++ d.toList)) τ → Ch [τ] s s' → K (.slice a' (n + d.size) c') s'.h) :
    semW P (Builtin.append_ #[t, u] ty #[.slice a n c, .string ⟨d⟩]) E s.h K := .mk fun w hw => by
  obtain ⟨i, hi, hz, hs, hby⟩ := info_of hi'
  have hxl := hO.1
  rw [bvs_len] at hxl
  have hdl : d.toList.length = d.size := Array.length_toList
  have hlen : (bvs (l ++ d.toList)).length = (n + d.size) * 1 := by rw [bvs_len, List.length_append, hdl]; omega
  have happ : bvs (l ++ d.toList) = bvs l ++ bvs d.toList := by simp [bvs]
  have hsz : ByteArray.size ⟨d⟩ = d.size := rfl
  rcases hO.2 with ⟨rfl, rfl, rfl⟩ | ⟨g, o, L, rfl, hB, hnc, hcm, hcs, htake⟩
  · exact absurd rfl ha
  · by_cases hroom : n + d.size ≤ c
    · have hr := run_app_room_str (P := P) (ty := ty) w d ht hu hi hs g o n c L.toArray (by rw [hw]; exact hB.get) hroom (by simp; omega)
      rw [hr]
      have hset : (w.setRow g (L.take (o + n) ++ bvs d.toList ++ L.drop (o + n + d.size)).toArray).heap[g]? = some (.cells (L.take (o + n) ++ bvs d.toList ++ L.drop (o + n + d.size)).toArray e (0, 0)) := setRow_heap w g L.toArray _ e _ (by rw [hw]; exact hB.get)
      have hK := hk ⟨(w.setRow g (L.take (o + n) ++ bvs d.toList ++ L.drop (o + n + d.size)).toArray).heap, s.g⟩ (some ⟨g, o, none⟩) c ⟨hlen, .inr ⟨g, o, _, rfl, ⟨hset, hB.tag⟩, hroom, hcm, ?_, ?_⟩⟩ ⟨by simp [← hw], fun _ _ => rfl, fun j hj hn => ?_⟩
      · exact ⟨hK, rfl, rfl, rfl⟩
      · simp only [List.length_append, List.length_take, List.length_drop, bvs_len, hdl]; omega
      · have e1 : (L.take (o + n) ++ bvs d.toList ++ L.drop (o + n + d.size)).drop o = (L.drop o).take n ++ bvs d.toList ++ L.drop (o + n + d.size) := by
          rw [List.append_assoc, List.drop_append_of_le_length (by simp; omega), List.drop_take, ← List.append_assoc]
          congr 2; congr 1; omega
        rw [Nat.mul_one] at htake
        rw [e1, htake, ← happ, ← hlen]; exact List.take_left
      · show (w.setRow g _).heap[j]? = _
        rw [setRow_other w g j _ (fun e => hn (by rw [e]; show s.g g ∈ [τ]; rw [hB.tag]; simp)), hw]
    · have hr := Go.Lib.run_append_grow_string (P := P) w t u ty e i (.int .u8 0) ht hu hi hz ⟨g, o, none⟩ n c (bvs l) (by rw [hs]; exact hO.1) (hO.sl.cells w hw) ⟨d⟩ (by rw [hsz]; omega) (by rw [hsz]; omega) (growslice_fits (by rw [hsz]; omega) (by rw [hsz, hby]; omega))
      rw [hsz] at hr
      rw [hr]
      have hge := grownCap_ge w (n + d.size) c e
      have hcm' : grownCap w (n + d.size) c e ≤ maxLen := grownCap_le_maxLen w (n + d.size) c e (by unfold maxLen; omega)
      have hL : (bvs l).toArray ++ (Go.Lib.strCells ⟨d⟩).toArray ++ Builtin.zeroCells (Value.int .u8 0).cells (grownCap w (n + d.size) c e - (n + d.size)) = (bvs (l ++ d.toList) ++ bvs (List.replicate (grownCap w (n + d.size) c e - (n + d.size)) 0)).toArray := by
        apply Array.toList_inj.1
        simp only [Array.toList_append, zeroB, happ]
        rfl
      rw [hL]
      refine ⟨?_, rfl, rfl, rfl⟩
      have hh : (w.drew.alloc (.cells (bvs (l ++ d.toList) ++ bvs (List.replicate (grownCap w (n + d.size) c e - (n + d.size)) 0)).toArray e)).heap = s.h.push (.cells (bvs (l ++ d.toList) ++ bvs (List.replicate (grownCap w (n + d.size) c e - (n + d.size)) 0)).toArray e) := by rw [← hw]; rfl
      rw [hh, show w.heap.size = s.h.size by rw [hw]]
      have ho := new_own (s := s) (L := l ++ d.toList) (rest := grownCap w (n + d.size) c e - (n + d.size)) (e := e) (τ := τ) (cap := grownCap w (n + d.size) c e) (by rw [List.length_append, hdl]; omega) hcm'
      rw [show (l ++ d.toList).length = n + d.size by rw [List.length_append, hdl]; omega] at ho
      exact hk _ _ _ ho ((pushed s _ τ).mono (by simp))
theorem u9s : Try.prog.underlying 9 = some .string := by kernel_rfl
theorem AppB.str {E : List PanicEntry → Heap → Prop} {s : TH} {pa : Option Addr} {pn pc τ0 τ : Nat} {l : List UInt8} (d : Array UInt8) {K : Value → Heap → Prop} (h : AppB s pa pn pc l τ0 τ) (hn : 0 < pn) (hm : 0 < d.size) (hb : pn ≤ 1000000000 ∧ d.size ≤ 1000000000)
    (hk : ∀ (s' : TH) (a' : Option Addr) (c' : Nat), Own s' a' (pn + d.size) c' 5 1 (bvs (l ++ d.toList)) τ → Ch [τ] s s' → K (.slice a' (pn + d.size) c') s'.h) :
    semW Try.prog (Builtin.append_ #[32, 9] 32 #[.slice pa pn pc, .string ⟨d⟩]) E s.h K := by
  rcases h.or_ with h | ⟨a, rfl, rfl, e3, h⟩
  · exact app_str d u32 u9s in5 h (fun e => by have := h.none_iff e; omega) hb hk
  · refine .mk fun w hw => ?_
    obtain ⟨i, hi, hz, hs, hby⟩ := info_of in5
    have hdl : d.toList.length = d.size := Array.length_toList
    have hsz : ByteArray.size ⟨d⟩ = d.size := rfl
    have happ : bvs (l ++ d.toList) = bvs l ++ bvs d.toList := by simp [bvs]
    have hr := Go.Lib.run_append_grow_string (P := Try.prog) w 32 9 32 5 i (.int .u8 0) u32 u9s hi hz a pc pc (bvs l) (by rw [hs, bvs_len]; omega) (h.cells w hw) ⟨d⟩ (by rw [hsz]; omega) (by rw [hsz]; omega) (growslice_fits (by rw [hsz]; omega) (by rw [hsz, hby]; omega))
    rw [hsz] at hr
    rw [hr]
    have hge := grownCap_ge w (pc + d.size) pc 5
    have hcm' : grownCap w (pc + d.size) pc 5 ≤ maxLen := grownCap_le_maxLen w (pc + d.size) pc 5 (by unfold maxLen; omega)
    have hL : (bvs l).toArray ++ (Go.Lib.strCells ⟨d⟩).toArray ++ Builtin.zeroCells (Value.int .u8 0).cells (grownCap w (pc + d.size) pc 5 - (pc + d.size)) = (bvs (l ++ d.toList) ++ bvs (List.replicate (grownCap w (pc + d.size) pc 5 - (pc + d.size)) 0)).toArray := by
      apply Array.toList_inj.1
      simp only [Array.toList_append, zeroB, happ]
      rfl
    rw [hL]
    refine ⟨?_, rfl, rfl, rfl⟩
    have hh : (w.drew.alloc (.cells (bvs (l ++ d.toList) ++ bvs (List.replicate (grownCap w (pc + d.size) pc 5 - (pc + d.size)) 0)).toArray 5)).heap = s.h.push (.cells (bvs (l ++ d.toList) ++ bvs (List.replicate (grownCap w (pc + d.size) pc 5 - (pc + d.size)) 0)).toArray 5) := by rw [← hw]; rfl
    rw [hh, show w.heap.size = s.h.size by rw [hw]]
    have ho := new_own (s := s) (L := l ++ d.toList) (rest := grownCap w (pc + d.size) pc 5 - (pc + d.size)) (e := 5) (τ := τ) (cap := grownCap w (pc + d.size) pc 5) (by rw [List.length_append, hdl]; omega) hcm'
    rw [show (l ++ d.toList).length = pc + d.size by rw [List.length_append, hdl]; omega] at ho
    exact hk _ _ _ ho ((pushed s _ τ).mono (by simp))
theorem dA0 {k : VF 0} (h : k) : dA 0 (.agg #[]) k := h
/-- bollard/layout.spelt -/
theorem c_lspelt1 (s : TH) : TRet Try.prog 52 #[.string ⟨#[46]⟩] s fun v s' => v = .bool true ∧ Ch [] s s' := by
  have hby : ∀ j : Nat, j < 1 → byteAt ⟨#[46]⟩ (Int.toNat (j : Int)) = 46 := by
    intro j hj
    rcases (by omega : j = 0) with rfl <;> rfl
  have hsz : (ByteArray.size ⟨#[46]⟩ : Int) = 1 := rfl
  refine F52_calls _  ?_
  unfold F52
  refine ⟨fun vs H' => ∃ s' : TH, s'.h = H' ∧ ∃ i, vs = [.int .i64 i] ∧ Ch [] s s' ∧ (∃ k : Nat, i = k ∧ k ≤ 1), fun vs H' => match vs with | [.int .i64 i] => (1 - i).toNat | _ => 0, ⟨s, rfl, _, rfl, Ch.refl _ _, ?_⟩, ?_⟩
  ·
    exact ⟨0, rfl, by omega⟩
  ·
    intro i _ _ _ _ _ _ _ _ _ _ _ _ _ _ _ _ _ _ _ _ _ H_ hI_2
    obtain ⟨s_1, rfl, i_, hvs, c_3, k, rfl, hk⟩ := hI_2
    cases hvs
    have z_4 := c_3.size
    refine sB_d (fun hsB1 => ?_) (fun hsB1 => ?_)
    ·
      refine jn1 (fun fv s' => Ch [] s_1 s' ∧ (fv = .bool false)) ?_ ?_
      ·
        rintro fv s_5 ⟨c_6, rfl⟩
        have z_7 := c_6.size
        intro _
        intros
        refine dBl_i ?_
        refine sB_f (by rfl) ?_
        refine wr_t (by omega) ?_
        refine ⟨⟨s_5, rfl, _, rfl, (((Ch.refl [] s).ch c_3 (by simp)).ch c_6 (by simp)), ?_⟩, ?_⟩
        ·
          exact ⟨k + 1, by omega, by omega⟩
        ·
          simp only []; omega
      ·
        intro K_8 hK_8
        refine ask_t (by omega) ?_
        refine sB_f (by rw [hby _ (by omega)]; rfl) ?_
        refine ask_t (by omega) ?_
        refine sB_f (by rw [hby _ (by omega)]; rfl) ?_
        refine ask_t (by omega) ?_
        refine hK_8 _ _ ⟨(Ch.refl [] s_1), ?_⟩
        exact congrArg Value.bool (by rw [hby _ (by omega)]; rfl)
    ·
      refine sB_n (fun hsB5 => ?_) (fun hsB5 => ?_)
      ·
        refine ret_t ?_
        exact ⟨rfl, ((Ch.refl [] s).ch c_3 (by simp))⟩
      ·
        refine ret_t ?_
        exfalso; simp [ByteArray.toList_mk] at hsB5
/-- bollard/layout.EncodeEntry -/
theorem c_lencEnt1 (τ : Nat) (s : TH) : TRet Try.prog 38 #[.agg #[.int .i64 2, .string ⟨#[46]⟩]] s fun v s' => ∃ a' c', v = .tuple #[.slice a' 16 c', .int .i64 0] ∧ Ch [] s s' ∧ Own s' a' 16 c' 5 1 (bvs (entL 2 (#[46] : Array UInt8).toList)) τ := by
  obtain ⟨M, hM, hM0, hMa, hMb, hMc, hMd, hMe, hMf⟩ := fresh6 s τ 0 0 0 0 0
  refine F38_calls _ _  ?_
  unfold F38
  refine al_t (M + 1) fun r1 s2 hr1 b_1 c_2 z_3 => ?_
  refine ld_t b_1 rfl ?_
  refine ld_t b_1 rfl ?_
  refine eq_ent ?_
  refine dBl_i ?_
  refine jn1 (fun fv s' => Ch [] s2 s' ∧ (fv = .bool false)) ?_ ?_
  ·
    rintro fv s_4 ⟨c_5, rfl⟩
    have z_6 := c_5.size
    intro _
    intros
    refine dBl_i ?_
    refine sB_f (by rfl) ?_
    have h_7 := b_1.ch c_5 (by simp)
    refine ld_t h_7 rfl ?_
    refine dInt_i ?_
    refine ld_t h_7 rfl ?_
    refine dStr_i ?_
    refine al_t (M + 2) fun r34 s35 hr34 b_8 c_9 z_10 => ?_
    have hap : AppB s35 none 0 0 [] (M + 3) (M + 4) := ⟨.inl (Own.nil _ _ _ _)⟩
    have hfs : Sl s35 (some ⟨r34, 0, none⟩) (([⟨2, 511, 2⟩, ⟨1, 13, 1⟩] : List FldM).flatMap fc) (M + 2) := (b_8).sl
    refine tcall (c_lfields _ _ hap hfs rfl (fun h => by cases h) (by omega) (by omega) (by omega) (by intro f hf; simp only [List.mem_cons, List.not_mem_nil, or_false] at hf; rcases hf with rfl | rfl <;> exact ⟨by decide, by decide⟩) (by decide)) ?_
    rintro v_12 s_11 ⟨acall1, ccall1, rfl, c_14, call1a⟩
    have z_15 := c_14.size
    refine dSl_i ?_
    have h_16 := h_7.ch (c_9.app c_14) (by simp)
    refine ld_t h_16 rfl ?_
    refine dStr_i ?_
    refine AppB.str #[46] call1a (by decide) (by decide) (by decide) fun s_17 pa2 pc2 w_20 c_18 => ?_
    have z_19 := c_18.size
    refine dSl_i ?_
    refine tcall (c_lfull τ _ (w_20).sl rfl 16 (by decide)) ?_
    rintro v_22 s_21 ⟨acall2, ccall2, rfl, c_24, call2a⟩
    have z_25 := c_24.size
    refine dSl_i ?_
    refine ret_t ?_
    have e : entL 2 (#[46] : Array UInt8).toList = [] ++ fldsL ([⟨2, 511, 2⟩, ⟨1, 13, 1⟩] : List FldM) ++ (#[46] : Array UInt8).toList ++ List.replicate (16 - (0 + (fldsL ([⟨2, 511, 2⟩, ⟨1, 13, 1⟩] : List FldM)).length + 1)) 0 := by decide
    exact ⟨_, _, rfl, (((((((Ch.refl [] s).ch c_2 (by simp)).ch c_5 (by simp)).ch c_9 (by simp)).fr c_14 hM (by simp)).fr c_18 hM (by simp)).ch c_24 (by simp)), by rw [e]; exact call2a⟩
  ·
    intro K_26 hK_26
    refine sB_t (by rfl) ?_
    refine ld_t b_1 rfl ?_
    refine dInt_i ?_
    refine sB_d (fun hsB3 => by exfalso; omega) (fun hsB3 => ?_)
    refine ld_t b_1 rfl ?_
    refine dInt_i ?_
    refine sB_d (fun hsB4 => by exfalso; omega) (fun hsB4 => ?_)
    refine ld_t b_1 rfl ?_
    refine dStr_i ?_
    refine tcall (c_lspelt1 _) ?_
    rintro v_28 s_27 ⟨rfl, c_30⟩
    have z_31 := c_30.size
    refine dBl_i ?_
    refine hK_26 _ _ ⟨((Ch.refl [] s2).ch c_30 (by simp)), ?_⟩
    exact rfl
/-- bollard/layout.spelt -/
theorem c_lspelt2 (s : TH) : TRet Try.prog 52 #[.string ⟨#[46, 46]⟩] s fun v s' => v = .bool true ∧ Ch [] s s' := by
  have hby : ∀ j : Nat, j < 2 → byteAt ⟨#[46, 46]⟩ (Int.toNat (j : Int)) = 46 := by
    intro j hj
    rcases (by omega : j = 0 ∨ j = 1) with rfl | rfl <;> rfl
  have hsz : (ByteArray.size ⟨#[46, 46]⟩ : Int) = 2 := rfl
  refine F52_calls _  ?_
  unfold F52
  refine ⟨fun vs H' => ∃ s' : TH, s'.h = H' ∧ ∃ i, vs = [.int .i64 i] ∧ Ch [] s s' ∧ (∃ k : Nat, i = k ∧ k ≤ 2), fun vs H' => match vs with | [.int .i64 i] => (2 - i).toNat | _ => 0, ⟨s, rfl, _, rfl, Ch.refl _ _, ?_⟩, ?_⟩
  ·
    exact ⟨0, rfl, by omega⟩
  ·
    intro i _ _ _ _ _ _ _ _ _ _ _ _ _ _ _ _ _ _ _ _ _ H_ hI_2
    obtain ⟨s_1, rfl, i_, hvs, c_3, k, rfl, hk⟩ := hI_2
    cases hvs
    have z_4 := c_3.size
    refine sB_d (fun hsB1 => ?_) (fun hsB1 => ?_)
    ·
      refine jn1 (fun fv s' => Ch [] s_1 s' ∧ (fv = .bool false)) ?_ ?_
      ·
        rintro fv s_5 ⟨c_6, rfl⟩
        have z_7 := c_6.size
        intro _
        intros
        refine dBl_i ?_
        refine sB_f (by rfl) ?_
        refine wr_t (by omega) ?_
        refine ⟨⟨s_5, rfl, _, rfl, (((Ch.refl [] s).ch c_3 (by simp)).ch c_6 (by simp)), ?_⟩, ?_⟩
        ·
          exact ⟨k + 1, by omega, by omega⟩
        ·
          simp only []; omega
      ·
        intro K_8 hK_8
        refine ask_t (by omega) ?_
        refine sB_f (by rw [hby _ (by omega)]; rfl) ?_
        refine ask_t (by omega) ?_
        refine sB_f (by rw [hby _ (by omega)]; rfl) ?_
        refine ask_t (by omega) ?_
        refine hK_8 _ _ ⟨(Ch.refl [] s_1), ?_⟩
        exact congrArg Value.bool (by rw [hby _ (by omega)]; rfl)
    ·
      refine sB_n (fun hsB5 => ?_) (fun hsB5 => ?_)
      ·
        refine ret_t ?_
        exact ⟨rfl, ((Ch.refl [] s).ch c_3 (by simp))⟩
      ·
        refine ret_t ?_
        exfalso; simp [ByteArray.toList_mk] at hsB5
/-- bollard/layout.EncodeEntry -/
theorem c_lencEnt2 (τ : Nat) (s : TH) : TRet Try.prog 38 #[.agg #[.int .i64 2, .string ⟨#[46, 46]⟩]] s fun v s' => ∃ a' c', v = .tuple #[.slice a' 16 c', .int .i64 0] ∧ Ch [] s s' ∧ Own s' a' 16 c' 5 1 (bvs (entL 2 (#[46, 46] : Array UInt8).toList)) τ := by
  obtain ⟨M, hM, hM0, hMa, hMb, hMc, hMd, hMe, hMf⟩ := fresh6 s τ 0 0 0 0 0
  refine F38_calls _ _  ?_
  unfold F38
  refine al_t (M + 1) fun r1 s2 hr1 b_1 c_2 z_3 => ?_
  refine ld_t b_1 rfl ?_
  refine ld_t b_1 rfl ?_
  refine eq_ent ?_
  refine dBl_i ?_
  refine jn1 (fun fv s' => Ch [] s2 s' ∧ (fv = .bool false)) ?_ ?_
  ·
    rintro fv s_4 ⟨c_5, rfl⟩
    have z_6 := c_5.size
    intro _
    intros
    refine dBl_i ?_
    refine sB_f (by rfl) ?_
    have h_7 := b_1.ch c_5 (by simp)
    refine ld_t h_7 rfl ?_
    refine dInt_i ?_
    refine ld_t h_7 rfl ?_
    refine dStr_i ?_
    refine al_t (M + 2) fun r34 s35 hr34 b_8 c_9 z_10 => ?_
    have hap : AppB s35 none 0 0 [] (M + 3) (M + 4) := ⟨.inl (Own.nil _ _ _ _)⟩
    have hfs : Sl s35 (some ⟨r34, 0, none⟩) (([⟨2, 511, 2⟩, ⟨1, 13, 2⟩] : List FldM).flatMap fc) (M + 2) := (b_8).sl
    refine tcall (c_lfields _ _ hap hfs rfl (fun h => by cases h) (by omega) (by omega) (by omega) (by intro f hf; simp only [List.mem_cons, List.not_mem_nil, or_false] at hf; rcases hf with rfl | rfl <;> exact ⟨by decide, by decide⟩) (by decide)) ?_
    rintro v_12 s_11 ⟨acall1, ccall1, rfl, c_14, call1a⟩
    have z_15 := c_14.size
    refine dSl_i ?_
    have h_16 := h_7.ch (c_9.app c_14) (by simp)
    refine ld_t h_16 rfl ?_
    refine dStr_i ?_
    refine AppB.str #[46, 46] call1a (by decide) (by decide) (by decide) fun s_17 pa2 pc2 w_20 c_18 => ?_
    have z_19 := c_18.size
    refine dSl_i ?_
    refine tcall (c_lfull τ _ (w_20).sl rfl 16 (by decide)) ?_
    rintro v_22 s_21 ⟨acall2, ccall2, rfl, c_24, call2a⟩
    have z_25 := c_24.size
    refine dSl_i ?_
    refine ret_t ?_
    have e : entL 2 (#[46, 46] : Array UInt8).toList = [] ++ fldsL ([⟨2, 511, 2⟩, ⟨1, 13, 2⟩] : List FldM) ++ (#[46, 46] : Array UInt8).toList ++ List.replicate (16 - (0 + (fldsL ([⟨2, 511, 2⟩, ⟨1, 13, 2⟩] : List FldM)).length + 2)) 0 := by decide
    exact ⟨_, _, rfl, (((((((Ch.refl [] s).ch c_2 (by simp)).ch c_5 (by simp)).ch c_9 (by simp)).fr c_14 hM (by simp)).fr c_18 hM (by simp)).ch c_24 (by simp)), by rw [e]; exact call2a⟩
  ·
    intro K_26 hK_26
    refine sB_t (by rfl) ?_
    refine ld_t b_1 rfl ?_
    refine dInt_i ?_
    refine sB_d (fun hsB3 => by exfalso; omega) (fun hsB3 => ?_)
    refine ld_t b_1 rfl ?_
    refine dInt_i ?_
    refine sB_d (fun hsB4 => by exfalso; omega) (fun hsB4 => ?_)
    refine ld_t b_1 rfl ?_
    refine dStr_i ?_
    refine tcall (c_lspelt2 _) ?_
    rintro v_28 s_27 ⟨rfl, c_30⟩
    have z_31 := c_30.size
    refine dBl_i ?_
    refine hK_26 _ _ ⟨((Ch.refl [] s2).ch c_30 (by simp)), ?_⟩
    exact rfl
theorem keyS : KeyOk Try.prog 9 Value.string := keyStr u9s
theorem uMS : Try.prog.underlying 78 = some (.map 9 79) := by kernel_rfl
theorem zSS (w : World) : (zeroValue 79).run Try.prog w = .ok (.agg #[]) w := by kernel_rfl
theorem updS_t {E : List PanicEntry → Heap → Prop} {s : TH} {r τ : Nat} {m : List (ByteArray × Value)} {K : Unit → Heap → Prop} (h : MapK Value.string s r m τ) (k : ByteArray) (x : Value) (hk : ∀ s' : TH, MapK Value.string s' r (mset k x m) τ → Ch [τ] s s' → K () s'.h) :
    semW Try.prog (Instr.mapUpdate 78 (.map (some r)) (.string k) x) E s.h K := upd_t keyS uMS h k x fun s' a b _ => hk s' a (Chg.mono b fun j _ e => by subst e; rw [h.tag]; simp)
theorem c_lencEntD (τ : Nat) {k : Nat} {e : Nat × ByteArray} (he : dots[k]? = some e) (s : TH) : TRet Try.prog 38 #[.agg #[.int .i64 (e.1 : Int), .string e.2]] s fun v s' => ∃ a' c', v = .tuple #[.slice a' 16 c', .int .i64 0] ∧ Ch [] s s' ∧ Own s' a' 16 c' 5 1 (bvs (entL e.1 e.2.data.toList)) τ := by
  rcases k with _ | _ | k
  · cases he; exact c_lencEnt1 τ s
  · cases he; exact c_lencEnt2 τ s
  · simp [dots] at he
theorem ov_ents {l x : List UInt8} {p m : Nat} (hl : l.length = p) (hx : x.length = 16) (hm : 16 ≤ m) : overlay (l ++ List.replicate m 0) p x = l ++ x ++ List.replicate (m - 16) 0 := by
  unfold overlay
  rw [List.take_left' hl, hx, List.drop_append, List.drop_eq_nil_of_le (by omega), List.nil_append, List.drop_replicate, hl]
  congr 2; omega
/-- bollard/dirs.twice -/
theorem c_dtwice {a : Addr} (c : Nat) {τ : Nat} {s : TH} (hx : Sl s (some a) (dots.flatMap ev) τ) : TRet Try.prog 37 #[.slice (some a) 2 c] s fun v s' => v = .bool false ∧ Ch [] s s' := by
  obtain ⟨M, hM, hM0, hMa, hMb, hMc, hMd, hMe, hMf⟩ := fresh6 s τ 0 0 0 0 0
  refine F37_calls _ _ _  ?_
  unfold F37
  refine alm_t Value.string (M + 1) fun r1 s2 hr1 b_1 c_2 z_3 => ?_
  refine ⟨fun vs H' => ∃ s' : TH, s'.h = H' ∧ ∃ i, vs = [.int .i64 i] ∧ Ch [M + 1, M + 9] s2 s' ∧ (∃ (k : Nat) (m : List (ByteArray × Value)), i = k ∧ k ≤ 2 ∧ MapK Value.string s' r1 m (M + 1) ∧ (∀ (j : Nat) (e : Nat × ByteArray), k ≤ j → dots[j]? = some e → mget e.2 m = none)), fun vs H' => match vs with | [.int .i64 i] => (2 - i).toNat | _ => 0, ⟨s2, rfl, _, rfl, Ch.refl _ _, ?_⟩, ?_⟩
  ·
    exact ⟨0, [], rfl, by omega, b_1, fun _ _ _ _ => rfl⟩
  ·
    intro i _ _ _ _ _ _ _ _ _ _ _ _ _ _ _ _ _ _ _ _ _ _ _ H_ hI_5
    obtain ⟨s_4, rfl, i_, hvs, c_6, k, m, rfl, hk, hm, hmn⟩ := hI_5
    cases hvs
    have z_7 := c_6.size
    refine sB_d (fun hsB1 => ?_) (fun hsB1 => ?_)
    ·
      refine jn0 (fun s' => Ch [M + 1, M + 9] s_4 s' ∧ (∃ m : List (ByteArray × Value), MapK Value.string s' r1 m (M + 1) ∧ (∀ (j : Nat) (e : Nat × ByteArray), k + 1 ≤ j → dots[j]? = some e → mget e.2 m = none))) ?_ ?_
      ·
        rintro  s_8 ⟨c_9, m2, hm2, hmn2⟩
        have z_10 := c_9.size
        intro _
        intros
        refine wr_t (by omega) ?_
        refine ⟨⟨s_8, rfl, _, rfl, (((Ch.refl [M + 1, M + 9] s2).ch c_6 (by simp)).ch c_9 (by simp)), ?_⟩, ?_⟩
        ·
          exact ⟨k + 1, m2, by omega, by omega, hm2, hmn2⟩
        ·
          simp only []; omega
      ·
        intro K_11 hK_11
        obtain ⟨e, he⟩ : ∃ e, dots[k]? = some e := ⟨dots[k]'(by show k < 2; omega), by simp⟩
        have hde := dots_ok e (List.mem_of_getElem? he)
        have hen := hmn k e (Nat.le_refl _) he
        refine nz_i ?_
        refine ask_t (by omega) ?_
        have h_12 := hx.mv (c_2.app c_6) (tagn (by simp <;> omega))
        refine ld_sl h_12 (by rw [Int.toNat_natCast]; exact ecell0 he) ?_
        refine ld_sl2 h_12 (by rw [Int.toNat_natCast]; exact ecell1 he) ?_
        refine al_t (M + 9) fun r58 s59 hr58 b_13 c_14 z_15 => ?_
        refine st_t b_13 rfl (by simp) fun s60 b_16 c_17o z_18 => ?_
        have c_17 := on_ch b_13 c_17o
        refine st_t b_16 rfl (by simp) fun s61 b_19 c_20o z_21 => ?_
        have c_20 := on_ch b_16 c_20o
        refine ld_t b_19 rfl ?_
        refine dInt_i ?_
        refine sB_d (fun hsB2 => by exfalso; omega) (fun hsB2 => ?_)
        refine ld_t b_19 rfl ?_
        refine dStr_i ?_
        have h_22 := hm.ch ((c_14.app c_17).app c_20) (by simp)
        refine look_okn keyS uMS zSS h_22 e.2 hen ?_
        refine dT2 ?_
        refine dA0 ?_
        refine dBl_i ?_
        refine al_t (M + 9) fun r73 s74 hr73 b_23 c_24 z_25 => ?_
        refine sB_f (by rfl) ?_
        have h_26 := b_19.ch c_24 (by simp)
        refine ld_t h_26 rfl ?_
        refine dStr_i ?_
        have h_27 := h_22.ch c_24 (by simp)
        refine updS_t h_27 e.2 (.agg #[]) fun s_28 r1_31 c_29 => ?_
        have z_30 := c_29.size
        refine hK_11 _ ⟨((((((Ch.refl [M + 1, M + 9] s_4).ch c_14 (by simp)).ch c_17 (by simp)).ch c_20 (by simp)).ch c_24 (by simp)).ch c_29 (by simp)), ?_⟩
        exact ⟨_, r1_31, fun j f hj hf => by rw [mget_mset, if_neg (fun h => dots_nc j k f e (by omega) hf he ⟨by have := dots_ok f (List.mem_of_getElem? hf); omega, by omega, congrArg ByteArray.toList h⟩)]; exact hmn j f (by omega) hf⟩
    ·
      refine ret_t ?_
      exact ⟨rfl, (((Ch.refl [] s).ch c_2 (by simp)).fr c_6 hM (by simp))⟩
/-- bollard/dirs.Encode -/
theorem c_dencode (τ : Nat) {a : Addr} (c : Nat) {τx : Nat} {s : TH} (hx : Sl s (some a) (dots.flatMap ev) τx) : TRet Try.prog 17 #[.slice (some a) 2 c] s fun v s' => ∃ a' c', v = .tuple #[.slice a' 128 c', .int .i64 0] ∧ Ch [] s s' ∧ Own s' a' 128 c' 5 1 (bvs (dirsL dots)) τ := by
  obtain ⟨M, hM, hM0, hMa, hMb, hMc, hMd, hMe, hMf⟩ := fresh6 s τx τ 0 0 0 0
  refine F17_calls _ _ _  ?_
  unfold F17
  refine jn1 (fun fv s' => Ch [] s s' ∧ (fv = .bool false)) ?_ ?_
  ·
    rintro fv s_1 ⟨c_2, rfl⟩
    have z_3 := c_2.size
    intro _
    intros
    refine dBl_i ?_
    refine sB_f (by rfl) ?_
    refine ask_t (by omega) ?_
    refine al_t (M + 1) fun r10 s11 hr10 b_4 c_5 z_6 => ?_
    have ho0 : Own s11 (some ⟨r10, 0, none⟩) 128 128 5 1 (bvs (List.replicate 128 0)) (M + 1) := by
      have h := b_4
      rw [rowZ_by] at h
      exact h.own (n := 128) 1 (by rw [bvs_len, List.length_replicate]; rfl) (by unfold maxLen; omega)
    refine ⟨fun vs H' => ∃ s' : TH, s'.h = H' ∧ ∃ i, vs = [.int .i64 i] ∧ Ch [M + 1, M + 9] s11 s' ∧ (∃ k : Nat, i = k ∧ k ≤ 2 ∧ Own s' (some ⟨r10, 0, none⟩) 128 128 5 1 (bvs (entsL (dots.take k) ++ List.replicate (128 - 16 * k) 0)) (M + 1)), fun vs H' => match vs with | [.int .i64 i] => (2 - i).toNat | _ => 0, ⟨s11, rfl, _, rfl, Ch.refl _ _, ?_⟩, ?_⟩
    ·
      exact ⟨0, rfl, by omega, ho0⟩
    ·
      intro i _ _ _ _ _ _ _ _ _ _ _ _ _ _ _ _ _ _ _ _ _ _ _ _ H_ hI_8
      obtain ⟨s_7, rfl, i_, hvs, c_9, k, rfl, hk, ho⟩ := hI_8
      cases hvs
      have z_10 := c_9.size
      refine sB_d (fun hsB2 => ?_) (fun hsB2 => ?_)
      ·
        obtain ⟨e, he⟩ : ∃ e, dots[k]? = some e := ⟨dots[k]'(by show k < 2; omega), by simp⟩
        have hde := dots_ok e (List.mem_of_getElem? he)
        have hel : (entsL (dots.take k)).length = 16 * k := by rw [entsL_len, List.length_take, show dots.length = 2 from rfl]; omega
        refine nz_i ?_
        refine ask_t (by omega) ?_
        have h_11 := hx.mv ((c_2.app c_5).app c_9) (tagn (by simp <;> omega))
        refine ld_sl h_11 (by rw [Int.toNat_natCast]; exact ecell0 he) ?_
        refine ld_sl2 h_11 (by rw [Int.toNat_natCast]; exact ecell1 he) ?_
        refine al_t (M + 9) fun r44 s45 hr44 b_12 c_13 z_14 => ?_
        refine st_t b_12 rfl (by simp) fun s46 b_15 c_16o z_17 => ?_
        have c_16 := on_ch b_12 c_16o
        refine st_t b_15 rfl (by simp) fun s47 b_18 c_19o z_20 => ?_
        have c_19 := on_ch b_15 c_19o
        refine ld_t b_18 rfl ?_
        refine ld_t b_18 rfl ?_
        refine tcall (c_lencEntD (M + 10) he _) ?_
        rintro v_22 s_21 ⟨acall1, ccall1, rfl, c_24, call1a⟩
        have z_25 := c_24.size
        refine dT2 ?_
        refine dSl_i ?_
        refine dInt_i ?_
        refine sB_f (by rfl) ?_
        refine wr_t (by omega) ?_
        refine ask_t (by omega) ?_
        simp only [show Int.toNat 128 = 128 from rfl, Int.toNat_natCast]
        have h_26 := ho.mv (((c_13.app c_16).app c_19).app c_24) (tagn (by simp))
        refine copy_sl (p := (k : Int) * 16) (n := 128) u32 in5 h_26 (call1a).sl (entL_len _ _) (by omega) (by omega) fun s_27 o_30 c_28 _ => ?_
        have z_29 := c_28.size
        refine dInt_i ?_
        refine wr_t (by omega) ?_
        refine ⟨⟨s_27, rfl, _, rfl, (((((((Ch.refl [M + 1, M + 9] s11).ch c_9 (by simp)).ch c_13 (by simp)).ch c_16 (by simp)).ch c_19 (by simp)).ch c_24 (by simp)).ch c_28 (by simp)), ?_⟩, ?_⟩
        ·
          have ho2 := o_30
          rw [show Int.toNat ((k : Int) * 16) = 16 * k by omega, ov_ents hel (entL_len _ _) (by omega)] at ho2
          exact ⟨k + 1, by omega, by omega, by rw [List.take_add_one, he, Option.toList_some, entsL_snoc, show 128 - 16 * (k + 1) = 128 - 16 * k - 16 by omega]; exact ho2⟩
        ·
          simp <;> omega
      ·
        obtain rfl : k = 2 := by omega
        exact ret_t' (s' := remark s_7 (M + 1) τ) rfl ⟨_, _, rfl, remark_ch ((((Ch.refl [] s).ch c_2 (by simp)).ch c_5 (by simp)).fr c_9 hM (by simp)) hM (by omega), (ho).remark⟩
  ·
    intro K_31 hK_31
    refine sB_d (fun hsB4 => by exfalso; omega) (fun hsB4 => ?_)
    refine tcall (c_dtwice _ hx) ?_
    rintro v_33 s_32 ⟨rfl, c_35⟩
    have z_36 := c_35.size
    refine dBl_i ?_
    refine hK_31 _ _ ⟨((Ch.refl [] s).ch c_35 (by simp)), ?_⟩
    exact rfl
theorem rowZ_rep (v : Value) (n : Nat) : rowZ [v] n = List.replicate n v := by
  induction n with
  | zero => rfl
  | succ n ih => rw [List.replicate_succ, ← ih]; rfl
theorem hd1_flen (hs : List Hd) : (hs.flatMap hd1).length = hs.length := by
  induction hs with
  | nil => rfl
  | cons p hs ih => rw [List.flatMap_cons, List.length_append, ih, List.length_cons, hd1_len]; omega
theorem cells_set {hs : List Hd} {k n : Nat} (hl : hs.length = k) (h : k < n) (p : Hd) : (hs.flatMap hd1 ++ List.replicate (n - k) (Value.slice none 0 0)).set k (.slice p.1 128 p.2) = (hs ++ [p]).flatMap hd1 ++ List.replicate (n - (k + 1)) (Value.slice none 0 0) := by
  have hf := hd1_flen hs
  obtain ⟨m, hm⟩ : ∃ m, n - k = m + 1 := ⟨n - k - 1, by omega⟩
  rw [hm, List.replicate_succ, List.set_append_right _ _ (by omega), hf, hl, Nat.sub_self, List.set_cons_zero, show n - (k + 1) = m by omega, List.flatMap_append, List.append_assoc]
  rfl
theorem GeoOk.can {G B N : Nat} (h : GeoOk G B N) : canG (G : Int) (B : Int) (N : Int) := by unfold GeoOk at h; unfold canG; omega
theorem GeoOk.gb {G B N : Nat} (h : GeoOk G B N) : 8 ≤ G * B ∧ G * B ≤ 2048 := by
  unfold GeoOk at h
  have h1 : 1 * 8 ≤ G * B := Nat.mul_le_mul (by omega) (by omega)
  have h2 : G * B ≤ 8 * 256 := Nat.mul_le_mul (by omega) (by omega)
  omega
theorem mk_step {G B N k : Nat} (h : 2 ≤ B) (hk : k < G) : ((mkL G B N k ++ List.replicate ((G - k) * B) zB128).set (k * B) (superL G B N 0)).set (k * B + 1) (hdL k (iL k) (setsB zB32 (nB k N))) = mkL G B N (k + 1) ++ List.replicate ((G - (k + 1)) * B) zB128 := by
  have hl := mkL_len (G := G) (N := N) h k
  have e : (G - k) * B = B - 2 + (G - (k + 1)) * B + 1 + 1 := by
    obtain ⟨m, hm⟩ : ∃ m, G - k = m + 1 := ⟨G - k - 1, by omega⟩
    rw [hm, Nat.succ_mul, show G - (k + 1) = m by omega]; omega
  rw [e, List.replicate_succ, List.replicate_succ, List.set_append_right _ _ (by omega), hl, Nat.sub_self, List.set_cons_zero, List.set_append_right _ _ (by omega), hl, show k * B + 1 - k * B = 1 by omega, List.set_cons_succ, List.set_cons_zero, ← List.replicate_append_replicate, mkL, grpL, List.append_assoc]
  rfl
set_option maxRecDepth 100000 in
/-- bollard/mkfs.Make -/
theorem c_mmake (τo τb : Nat) (G B N : Nat) (s : TH) (hv : GeoOk G B N) : TRet Try.prog 4 #[.agg #[.int .i64 (G : Int), .int .i64 (B : Int), .int .i64 (N : Int)]] s fun v s' => ∃ a' c' hs, v = .tuple #[.slice a' (G * B) c', .int .i64 0] ∧ Ch [] s s' ∧ Own s' a' (G * B) c' 32 1 (hs.flatMap hd1) τo ∧ BRel s' τb hs (makeL G B N) := by
  have hv2 := hv
  unfold GeoOk at hv2
  have hcan : canG (G : Int) (B : Int) (N : Int) := hv.can
  have hgb := hv.gb
  have hBG : 1 * B ≤ G * B := Nat.mul_le_mul (by omega) (Nat.le_refl _)
  have hgbI : (G : Int) * (B : Int) = ((G * B : Nat) : Int) := (Int.natCast_mul G B).symm
  have hgn : (1 : Int) * 4 ≤ (G : Int) * (N : Int) := Int.mul_le_mul (by omega) (by omega) (by omega) (by omega)
  obtain ⟨M, hM, hM0, hMa, hMb, hMc, hMd, hMe, hMf⟩ := fresh6 s τo τb 0 0 0 0
  refine F4_calls _ _ _  ?_
  unfold F4
  refine al_t (M + 1) fun r1 s2 hr1 b_1 c_2 z_3 => ?_
  refine ld_t b_1 rfl ?_
  refine ld_t b_1 rfl ?_
  refine ld_t b_1 rfl ?_
  refine tcall (gc_can (G : Int) (B : Int) (N : Int) _) ?_
  rintro v_5 s_4 ⟨rfl, c_7⟩
  have z_8 := c_7.size
  rw [if_pos hcan]
  refine dInt_i ?_
  refine sB_f (by rfl) ?_
  have h_9 := b_1.ch c_7 (by simp)
  refine ld_t h_9 rfl ?_
  refine ld_t h_9 rfl ?_
  refine ld_t h_9 rfl ?_
  refine tcall (gc_blocks (G : Int) (B : Int) (N : Int) hcan _) ?_
  rintro v_11 s_10 ⟨rfl, c_13⟩
  have z_14 := c_13.size
  rw [hgbI]
  refine dInt_i ?_
  refine ask_t (by omega) ?_
  refine al_t (M + 5) fun r15 s16 hr15 b_15 c_16 z_17 => ?_
  have ho0 : Own s16 (some ⟨r15, 0, none⟩) (G * B) (G * B) 32 1 (([] : List Hd).flatMap hd1 ++ List.replicate (G * B - 0) (.slice none 0 0)) (M + 5) := by
    have h := b_15
    rw [rowZ_rep, Int.toNat_natCast] at h
    exact h.own (n := G * B) 1 (by rw [List.length_replicate]; omega) (by unfold maxLen; omega)
  refine ⟨fun vs H' => ∃ s' : TH, s'.h = H' ∧ ∃ i, vs = [.int .i64 i] ∧ Ch [M + 5] s16 s' ∧ (∃ (k : Nat) (hs : List Hd), i = k ∧ k ≤ G * B ∧ hs.length = k ∧ Own s' (some ⟨r15, 0, none⟩) (G * B) (G * B) 32 1 (hs.flatMap hd1 ++ List.replicate (G * B - k) (.slice none 0 0)) (M + 5) ∧ B2 s' (M + 8) (M + 6) hs (List.replicate k zB128)), fun vs H' => match vs with | [.int .i64 i] => (((G * B : Nat) : Int) - i).toNat | _ => 0, ⟨s16, rfl, _, rfl, Ch.refl _ _, ?_⟩, ?_⟩
  ·
    exact ⟨0, [], rfl, by omega, rfl, ho0, ⟨rfl, fun i p b _ h _ => by simp at h, fun p b h _ => by simp at h⟩⟩
  ·
    intro i _ _ _ _ _ _ _ _ H_ hI_19
    obtain ⟨s_18, rfl, i_, hvs, c_20, k, hs, rfl, hk, hlen, ho, hb1⟩ := hI_19
    cases hvs
    have z_21 := c_20.size
    obtain ⟨μ, hμ, hμ2⟩ : ∃ μ, μ = (if hs.length = 2 then M + 8 else M + 6) ∧ M + 6 ≤ μ := ⟨_, rfl, by split <;> omega⟩
    refine sB_d (fun hsB2 => ?_) (fun hsB2 => ?_)
    ·
      refine ask_t (by omega) ?_
      refine al_t μ fun r30 s31 hr30 b_22 c_23 z_24 => ?_
      refine ask_t (by omega) ?_
      have h_28 := ho.mv c_23 (tagn (by simp))
      refine Own.st h_28 rfl (by rw [Nat.mul_one, Int.toNat_natCast]; omega) fun s32 b_25 c_26o z_27 => ?_
      have c_26 := Ch.on_tag (T := [M + 5]) (Ch.refl _ _) c_26o h_28.tagOf (by simp)
      refine wr_t (by omega) ?_
      refine ⟨⟨s32, rfl, _, rfl, ((((Ch.refl [M + 5] s16).ch c_20 (by simp)).ch c_23 (by simp)).ch c_26 (by simp)), ?_⟩, ?_⟩
      ·
        have h_29 := b_22.ch c_26 (by simp <;> omega)
        have h_30 := hb1.ch (c_23.app c_26) (by simp <;> omega) (by simp <;> omega)
        have hz : Own s32 (some ⟨r30, 0, none⟩) 128 128 5 1 (bvs zB128) (if hs.length = 2 then M + 8 else M + 6) := by
          have h := h_29
          rw [rowZ_by, hμ] at h
          exact h.own (n := 128) 1 (by rw [bvs_len, List.length_replicate]; rfl) (by unfold maxLen; omega)
        have hb3 := (h_30).snoc (p := (some ⟨r30, 0, none⟩, 128)) zB128_len hz
        have hoe := b_25
        rw [Int.toNat_natCast, Nat.mul_one] at hoe
        have e := cells_set hlen (show k < G * B by omega) ((some ⟨r30, 0, none⟩, 128) : Hd)
        exact ⟨k + 1, hs ++ [(some ⟨r30, 0, none⟩, 128)], by omega, by omega, by simp [hlen], by rw [← e]; exact hoe, by rw [List.replicate_succ']; exact hb3⟩
      ·
        simp only []; omega
    ·
      have h_31 := h_9.ch ((c_13.app c_16).app c_20) (by simp)
      refine ld_t h_31 rfl ?_
      refine dInt_i ?_
      refine ⟨fun vs H' => ∃ s' : TH, s'.h = H' ∧ ∃ i, vs = [.int .i64 i] ∧ Ch [M + 5] s_18 s' ∧ (∃ (k : Nat) (hs : List Hd), i = k ∧ k ≤ G ∧ hs.length = G * B ∧ Own s' (some ⟨r15, 0, none⟩) (G * B) (G * B) 32 1 (hs.flatMap hd1) (M + 5) ∧ B2 s' (M + 8) (M + 6) hs (mkL G B N k ++ List.replicate ((G - k) * B) zB128)), fun vs H' => match vs with | [.int .i64 i] => ((G : Int) - i).toNat | _ => 0, ⟨s_18, rfl, _, rfl, Ch.refl _ _, ?_⟩, ?_⟩
      ·
        have hkk : k = G * B := by omega
        exact ⟨0, hs, rfl, by omega, by omega, by have h := ho; rw [show G * B - k = 0 by omega, List.replicate_zero, List.append_nil] at h; exact h, by have h := hb1; rw [hkk] at h; simpa [mkL] using h⟩
      ·
        intro i _ _ _ _ _ _ _ _ _ _ _ _ _ _ _ _ _ _ _ _ _ _ _ _ _ _ _ _ _ _ _ _ _ _ _ _ _ H_ hI_33
        obtain ⟨s_32, rfl, i_, hvs, c_34, k2, hs2, rfl, hk2, hl2, ho2, hb2⟩ := hI_33
        cases hvs
        have z_35 := c_34.size
        have hkB : k2 < G → k2 * B + B ≤ G * B := fun h => by
          have := Nat.mul_le_mul_right B (show k2 + 1 ≤ G from h)
          rw [Nat.succ_mul] at this; exact this
        have hkz : k2 = 0 ∨ 8 ≤ k2 * B := by
          by_cases e : k2 = 0
          · exact .inl e
          · exact .inr (Nat.mul_le_mul (show 1 ≤ k2 by omega) (show 8 ≤ B by omega))
        have hk0 : k2 = 0 → k2 * B = 0 := fun e => by rw [e, Nat.zero_mul]
        refine sB_d (fun hsB3 => ?_) (fun hsB3 => ?_)
        ·
          have h_36 := h_31.ch c_34 (by simp)
          refine ld_t h_36 rfl ?_
          refine ld_t h_36 rfl ?_
          refine ld_t h_36 rfl ?_
          refine tcall (gc_super (G : Int) (B : Int) (N : Int) (k2 : Int) hcan (by omega) _) ?_
          rintro v_38 s_37 ⟨rfl, c_40⟩
          have z_41 := c_40.size
          have hkB2 := hkB (by omega)
          rw [show (k2 : Int) * (B : Int) + 0 = ((k2 * B : Nat) : Int) by rw [Int.add_zero, Int.natCast_mul]]
          refine dT2 ?_
          refine dInt_i ?_
          refine dBl_i ?_
          have h_42 := h_36.ch c_40 (by simp)
          refine ld_t h_42 rfl ?_
          refine ld_t h_42 rfl ?_
          refine ld_t h_42 rfl ?_
          refine tcall (c_lencSuper (M + 6) G B N 0 _ hv (by decide)) ?_
          rintro v_44 s_43 ⟨acall4, ccall4, rfl, c_46, call4a⟩
          have z_47 := c_46.size
          refine dT2 ?_
          refine dSl_i ?_
          refine dInt_i ?_
          refine ask_t (by omega) ?_
          have h_51 := ho2.mv (c_40.app c_46) (tagn (by simp))
          refine Own.st h_51 rfl (by rw [Nat.mul_one, Int.toNat_natCast]; omega) fun s98 b_48 c_49o z_50 => ?_
          have c_49 := Ch.on_tag (T := [M + 5]) (Ch.refl _ _) c_49o h_51.tagOf (by simp)
          have ho3 : Own s98 (some ⟨r15, 0, none⟩) (G * B) (G * B) 32 1 ((hs2.set (k2 * B) (acall4, ccall4)).flatMap hd1) (M + 5) := by
            have h := b_48
            rw [Int.toNat_natCast, Nat.mul_one, fm_set1 _ _ (acall4, ccall4)] at h
            exact h
          have h_52 := hb2.ch ((c_40.app c_46).app c_49) (by simp <;> omega) (by simp <;> omega)
          have h_53 := call4a.mv c_49 (tagn (by simp))
          have hb3 : B2 s98 (M + 8) (M + 6) (hs2.set (k2 * B) (acall4, ccall4)) _ := (h_52).setN (k2 * B) (by omega) ⟨(h_53).sl, superL_len _ _ _ _⟩
          have h_54 := h_42.ch (c_46.app c_49) (by simp)
          refine ld_t h_54 rfl ?_
          refine ld_t h_54 rfl ?_
          refine ld_t h_54 rfl ?_
          refine tcall (gc_header (G : Int) (B : Int) (N : Int) (k2 : Int) hcan (by omega) _) ?_
          rintro v_56 s_55 ⟨rfl, c_58⟩
          have z_59 := c_58.size
          rw [show (k2 : Int) * (B : Int) + 1 = ((k2 * B + 1 : Nat) : Int) by rw [Int.natCast_add, Int.natCast_mul]; rfl]
          refine dT2 ?_
          refine dInt_i ?_
          refine dBl_i ?_
          have h_60 := h_54.ch c_58 (by simp)
          refine ld_t h_60 rfl ?_
          refine ld_t h_60 rfl ?_
          refine ld_t h_60 rfl ?_
          refine tcall (c_mheader G B N k2 _ hv (by omega)) ?_
          rintro v_62 s_61 ⟨rfl, c_64⟩
          have z_65 := c_64.size
          obtain ⟨i0, i1, i2, i3, i4, i5, i6, i7, hil⟩ := len8 (iL_len k2)
          obtain ⟨b0, b1, b2, b3, b4, b5, b6, b7, b8, b9, b10, b11, b12, b13, b14, b15, b16, b17, b18, b19, b20, b21, b22, b23, b24, b25, b26, b27, b28, b29, b30, b31, hbl⟩ := len32 (sets32 (nB k2 N))
          rw [hil, hbl]
          refine dA41 ?_
          refine tcall (c_lencGroup (M + 6) k2 i0 i1 i2 i3 i4 i5 i6 i7 b0 b1 b2 b3 b4 b5 b6 b7 b8 b9 b10 b11 b12 b13 b14 b15 b16 b17 b18 b19 b20 b21 b22 b23 b24 b25 b26 b27 b28 b29 b30 b31 _ (by omega)) ?_
          rintro v_67 s_66 ⟨acall7, ccall7, rfl, c_69, call7a⟩
          have z_70 := c_69.size
          rw [← hil, ← hbl] at call7a
          refine dT2 ?_
          refine dSl_i ?_
          refine dInt_i ?_
          refine ask_t (by omega) ?_
          have h_74 := ho3.mv ((c_58.app c_64).app c_69) (tagn (by simp))
          refine Own.st h_74 rfl (by rw [Nat.mul_one, Int.toNat_natCast]; omega) fun s162 b_71 c_72o z_73 => ?_
          have c_72 := Ch.on_tag (T := [M + 5]) (Ch.refl _ _) c_72o h_74.tagOf (by simp)
          have ho4 : Own s162 (some ⟨r15, 0, none⟩) (G * B) (G * B) 32 1 (((hs2.set (k2 * B) (acall4, ccall4)).set (k2 * B + 1) (acall7, ccall7)).flatMap hd1) (M + 5) := by
            have h := b_71
            rw [Int.toNat_natCast, Nat.mul_one, fm_set1 _ _ (acall7, ccall7)] at h
            exact h
          have h_75 := hb3.ch (((c_58.app c_64).app c_69).app c_72) (by simp <;> omega) (by simp <;> omega)
          have h_76 := call7a.mv c_72 (tagn (by simp))
          have hb4 : B2 s162 (M + 8) (M + 6) ((hs2.set (k2 * B) (acall4, ccall4)).set (k2 * B + 1) (acall7, ccall7)) _ := (h_75).setN (k2 * B + 1) (by omega) ⟨(h_76).sl, hdL_len _ (iL_len _) (sets32 _)⟩
          refine wr_t (by omega) ?_
          refine ⟨⟨s162, rfl, _, rfl, (((((((((Ch.refl [M + 5] s_18).ch c_34 (by simp)).ch c_40 (by simp)).ch c_46 (by simp)).ch c_49 (by simp)).ch c_58 (by simp)).ch c_64 (by simp)).ch c_69 (by simp)).ch c_72 (by simp)), ?_⟩, ?_⟩
          ·
            exact ⟨k2 + 1, _, by omega, by omega, by rw [List.length_set, List.length_set]; exact hl2, ho4, by rw [← mk_step (by omega) (by omega)]; exact hb4⟩
          ·
            simp only []; omega
        ·
          have h_77 := h_31.ch c_34 (by simp)
          refine ld_t h_77 rfl ?_
          refine ld_t h_77 rfl ?_
          refine ld_t h_77 rfl ?_
          refine tcall (gc_data (G : Int) (B : Int) (N : Int) 0 hcan (by omega) _) ?_
          rintro v_79 s_78 ⟨rfl, c_81⟩
          have z_82 := c_81.size
          rw [show (0 : Int) * (B : Int) + (2 + (N : Int) / 4) = ((2 + N / 4 : Nat) : Int) by omega]
          obtain rfl : k2 = G := by omega
          refine dT3 ?_
          refine dInt_i ?_
          refine dInt_i ?_
          refine dBl_i ?_
          refine tcall (c_lencDin (M + 12) 2 2 128 (2 + N / 4) 0 0 0 0 0 _ (by unfold DinOk; omega)) ?_
          rintro v_84 s_83 ⟨acall9, ccall9, rfl, c_86, call9a⟩
          have z_87 := c_86.size
          refine dT2 ?_
          refine dSl_i ?_
          refine dInt_i ?_
          have h_88 := h_77.ch (c_81.app c_86) (by simp)
          refine ld_t h_88 rfl ?_
          refine ld_t h_88 rfl ?_
          refine ld_t h_88 rfl ?_
          refine tcall (gc_inode (k2 : Int) (B : Int) (N : Int) 2 hcan (by omega) _) ?_
          rintro v_90 s_89 ⟨rfl, c_92⟩
          have z_93 := c_92.size
          rw [show (2 : Int) / (N : Int) = 0 from Int.ediv_eq_zero_of_lt (by omega) (by omega), show (2 : Int) % (N : Int) = 2 from Int.emod_eq_of_lt (by omega) (by omega), show (0 : Int) * (B : Int) + (2 + 2 / 4) = 2 by omega, show (2 : Int) % 4 * 32 = 64 from rfl]
          obtain ⟨⟨a2, c2⟩, hx2⟩ : ∃ x, hs2[2]? = some x := ⟨hs2[2]'(by omega), by simp⟩
          have h_94 := hb2.ch ((c_81.app c_86).app c_92) (by simp <;> omega) (by simp <;> omega)
          have hb0 : B2 s_89 (M + 8) (M + 6) hs2 (mkL k2 B N k2) := by
            have h := h_94
            rw [Nat.sub_self, Nat.zero_mul, List.replicate_zero, List.append_nil] at h; exact h
          have hox := (hb0.two _ _ hx2 (mkL_two (by omega) (by omega))).2
          obtain ⟨ax, hax⟩ := hox.ne_none (by omega)
          simp only at hax
          subst hax
          have ho5 : Own s_89 (some ax) 128 c2 5 1 (bvs zB128) (M + 8) := hox
          have hc2 : 128 ≤ c2 := ho5.le
          refine dT3 ?_
          refine dInt_i ?_
          refine dInt_i ?_
          refine dBl_i ?_
          refine ask_t (by omega) ?_
          have h_95 := ho2.mv ((c_81.app c_86).app c_92) (tagn (by simp))
          refine ld_sl (v := .slice (some ax) 128 c2) (h_95).sl (bcell hx2) ?_
          refine dSl_i ?_
          refine ask_t (by omega) ?_
          have h_96 := call9a.mv c_92 (tagn (by simp))
          refine copy_sl (p := 64) (n := 128) u32 in5 ho5 (h_96).sl (dinL_len _ _ _ _ _ _ _ _ _) (by decide) (by decide) fun s_97 ho6 c_98 _ => ?_
          have z_99 := c_98.size
          have hb5 := hb0.cp c_98 (by omega) hx2 (by rw [overlay_len (by rw [dinL_len, zB128_len]; decide)]; exact zB128_len) ho6
          refine dInt_i ?_
          refine al_t (M + 9) fun r213 s214 hr213 b_100 c_101 z_102 => ?_
          refine tcall (c_dencode (M + 14) 2 (show Sl _ _ (dots.flatMap ev) _ from (b_100).sl)) ?_
          rintro v_104 s_103 ⟨acall11, ccall11, rfl, c_106, call11a⟩
          have z_107 := c_106.size
          refine dT2 ?_
          refine dSl_i ?_
          refine dInt_i ?_
          refine ask_t (by omega) ?_
          have h_111 := h_95.mv ((c_98.app c_101).app c_106) (tagn (by simp))
          refine Own.st h_111 rfl (by rw [Nat.mul_one, Int.toNat_natCast]; omega) fun s223 b_108 c_109o z_110 => ?_
          have c_109 := Ch.on_tag (T := [M + 5]) (Ch.refl _ _) c_109o h_111.tagOf (by simp)
          have h_112 := hb5.ch ((c_101.app c_106).app c_109) (by simp <;> omega) (by simp <;> omega)
          have h_113 := call11a.mv c_109 (tagn (by simp))
          obtain ⟨φ, hφ⟩ : ∃ φ : Nat → Nat, φ = fun m => if m = M + 5 then τo else if m = M + 6 then τb else if m = M + 8 then τb else if m = M + 14 then τb else m := ⟨_, rfl⟩
          have f5 : φ (M + 5) = τo := by subst hφ; exact if_pos rfl
          have f6 : φ (M + 6) = τb := by subst hφ; simp
          have f8 : φ (M + 8) = τb := by subst hφ; simp
          have f14 : φ (M + 14) = τb := by subst hφ; simp
          have h1 := (b_108).rf (φ := φ)
          have h2 := (h_112).rf (φ := φ)
          have h3 := (h_113).rf (φ := φ)
          rw [Int.toNat_natCast, Nat.mul_one, fm_set1 _ _ (acall11, ccall11), f5] at h1
          rw [f6, f8] at h2
          rw [f14] at h3
          exact ret_t' (s' := remarkF s223 φ) rfl ⟨_, _, _, rfl, remarkF_ch ((((((((((((((Ch.refl [] s).ch c_2 (by simp)).ch c_7 (by simp)).ch c_13 (by simp)).ch c_16 (by simp)).fr c_20 hM (by simp)).fr c_34 hM (by simp)).ch c_81 (by simp)).ch c_86 (by simp)).ch c_92 (by simp)).fr c_98 hM (by simp)).ch c_101 (by simp)).ch c_106 (by simp)).fr c_109 hM (by simp)) hM (fun m hm => by subst hφ; simp only; rw [if_neg (by omega), if_neg (by omega), if_neg (by omega), if_neg (by omega)]), h1, (h2.brel).set (2 + N / 4) ⟨h3.sl, dots_len⟩⟩
/-- bollard/mkfs.Make -/
theorem c_mmakeN (a b c : Int) (s : TH) (hv : ¬ canG a b c) : TRet Try.prog 4 #[.agg #[.int .i64 a, .int .i64 b, .int .i64 c]] s fun v s' => v = .tuple #[.slice none 0 0, .int .i64 170] ∧ Ch [] s s' := by
  obtain ⟨M, hM, hM0, hMa, hMb, hMc, hMd, hMe, hMf⟩ := fresh6 s 0 0 0 0 0 0
  refine F4_calls _ _ _  ?_
  unfold F4
  refine al_t (M + 1) fun r1 s2 hr1 b_1 c_2 z_3 => ?_
  refine ld_t b_1 rfl ?_
  refine ld_t b_1 rfl ?_
  refine ld_t b_1 rfl ?_
  refine tcall (gc_can a b c _) ?_
  rintro v_5 s_4 ⟨rfl, c_7⟩
  have z_8 := c_7.size
  rw [if_neg hv]
  refine dInt_i ?_
  refine sB_t (by rfl) ?_
  refine ret_t ?_
  exact ⟨rfl, (((Ch.refl [] s).ch c_2 (by simp)).ch c_7 (by simp))⟩
/-- bollard/bollardlaw17.MkfsMakes -/
theorem w_mkA (G B N : Nat) (s : TH) (hv : GeoOk G B N) : TRet Try.prog 3 #[.agg #[.int .i64 (G : Int), .int .i64 (B : Int), .int .i64 (N : Int)]] s fun v s' => v = .bool true ∧ Ch [] s s' := by
  have hgb := hv.gb
  have hml : (makeL G B N).length = G * B := makeL_len (by unfold GeoOk at hv; omega)
  obtain ⟨M, hM, hM0, hMa, hMb, hMc, hMd, hMe, hMf⟩ := fresh6 s 0 0 0 0 0 0
  refine F3_calls _ _ _  ?_
  unfold F3
  refine al_t (M + 1) fun r1 s2 hr1 b_1 c_2 z_3 => ?_
  refine ld_t b_1 rfl ?_
  refine ld_t b_1 rfl ?_
  refine ld_t b_1 rfl ?_
  refine tcall (c_mmake (M + 10) (M + 11) G B N _ hv) ?_
  rintro v_5 s_4 ⟨acall1, ccall1, hscall1, rfl, c_7, call1a, call1b⟩
  have z_8 := c_7.size
  refine dT2 ?_
  refine dSl_i ?_
  refine dInt_i ?_
  have h_9 := b_1.ch c_7 (by simp)
  refine ld_t h_9 rfl ?_
  refine ld_t h_9 rfl ?_
  refine ld_t h_9 rfl ?_
  refine tcall (c_make (M + 12) (M + 13) G B N _ hv) ?_
  rintro v_11 s_10 ⟨acall2, ccall2, hscall2, rfl, c_13, call2a, call2b⟩
  have z_14 := c_13.size
  refine dT2 ?_
  refine dSl_i ?_
  refine dInt_i ?_
  refine sB_t (by rfl) ?_
  have h_15 := call1a.mv c_13 (tagn (by simp))
  have h_16 := call1b.mv c_13 (tagn (by simp))
  refine tcall (c_same _ _ (G * B) (G * B) _ (h_15).sl (call2a).sl h_16 call2b hml hml (by omega)) ?_
  rintro v_18 s_17 ⟨rfl, c_20⟩
  have z_21 := c_20.size
  refine dBl_i ?_
  refine ret_t ?_
  exact ⟨rfl, (((((Ch.refl [] s).ch c_2 (by simp)).ch c_7 (by simp)).ch c_13 (by simp)).ch c_20 (by simp))⟩
/-- bollard/bollardlaw17.MkfsMakes -/
theorem w_mkB (a b c : Int) (s : TH) (hv : ¬ canG a b c) : TRet Try.prog 3 #[.agg #[.int .i64 a, .int .i64 b, .int .i64 c]] s fun v s' => v = .bool true ∧ Ch [] s s' := by
  obtain ⟨M, hM, hM0, hMa, hMb, hMc, hMd, hMe, hMf⟩ := fresh6 s 0 0 0 0 0 0
  refine F3_calls _ _ _  ?_
  unfold F3
  refine al_t (M + 1) fun r1 s2 hr1 b_1 c_2 z_3 => ?_
  refine ld_t b_1 rfl ?_
  refine ld_t b_1 rfl ?_
  refine ld_t b_1 rfl ?_
  refine tcall (c_mmakeN a b c _ hv) ?_
  rintro v_5 s_4 ⟨rfl, c_7⟩
  have z_8 := c_7.size
  refine dT2 ?_
  refine dSl_i ?_
  refine dInt_i ?_
  have h_9 := b_1.ch c_7 (by simp)
  refine ld_t h_9 rfl ?_
  refine ld_t h_9 rfl ?_
  refine ld_t h_9 rfl ?_
  refine tcall (c_makeN a b c _ hv) ?_
  rintro v_11 s_10 ⟨rfl, c_13⟩
  have z_14 := c_13.size
  refine dT2 ?_
  refine dSl_i ?_
  refine dInt_i ?_
  refine sB_t (by rfl) ?_
  refine tcall (c_same (hs := []) (gs := []) (bs := []) (τx := 0) (τy := 0) (σx := 0) (σy := 0) _ _ 0 0 _ (.inl rfl) (.inl rfl) ⟨rfl, fun i p b h => by simp at h⟩ ⟨rfl, fun i p b h => by simp at h⟩ rfl rfl (by omega)) ?_
  rintro v_16 s_15 ⟨rfl, c_18⟩
  have z_19 := c_18.size
  refine dBl_i ?_
  refine ret_t ?_
  exact ⟨rfl, (((((Ch.refl [] s).ch c_2 (by simp)).ch c_7 (by simp)).ch c_13 (by simp)).ch c_18 (by simp))⟩
theorem w_mkfsmakes (a b c : Int) (s : TH) : TRet Try.prog 3 #[.agg #[.int .i64 a, .int .i64 b, .int .i64 c]] s fun v s' => v = .bool true ∧ Ch [] s s' := by
  by_cases hc : canG a b c
  · have hc2 := hc
    unfold canG at hc2
    obtain ⟨G, rfl⟩ := Int.eq_ofNat_of_zero_le (a := a) (by omega)
    obtain ⟨B, rfl⟩ := Int.eq_ofNat_of_zero_le (a := b) (by omega)
    obtain ⟨N, rfl⟩ := Int.eq_ofNat_of_zero_le (a := c) (by omega)
    exact w_mkA G B N s (by unfold GeoOk; omega)
  · exact w_mkB a b c s hc
end Go.Proofs.Ytdlelcpkelginaa.E
/- From a contract in states with marks to the kit's walk of a law. -/
namespace Go.Proofs.Ytdlelcpkelginaa.E
open Go Go.RowKit
set_option linter.unusedVariables false
theorem walkB {P : Program} {f : FuncId} {args : Array Value} {W : World}
    (h : TRet P f args ⟨W.heap, fun _ => 0⟩ fun v s' => v = .bool true ∧ Ch [] ⟨W.heap, fun _ => 0⟩ s') :
    Calls P f args W fun e W' => e = .returned (.bool true) ∧ Below W.heap.size W W' :=
  (h W rfl).mono fun e w' ⟨⟨v, s', he, hs, hv, hc⟩, hl⟩ =>
    ⟨by rw [he, hv], ⟨hl.os, hl.tape, hl.output, by rw [← hs]; exact hc.size, fun k hk => by rw [← hs]; exact hc.get k hk (by simp)⟩⟩
end Go.Proofs.Ytdlelcpkelginaa.E
/- The closed facts of a row, one by one. -/
namespace Go.Proofs.Ytdlelcpkelginaa.E
open Go
def kindsOf (P : Program) (fn : Func) (c : OpenClaim) : List (Option IntKind) := if c.domain.isEmpty then [] else fn.params.toList.map fun t => match P.underlying t with | some (.int k) => some k | _ => none
theorem andb {a b : Bool} (h : a = true) (k : b = true) : (a && b) = true := by rw [h, k]; rfl
theorem joined_of {P : Program} {f : FuncId} {fn : Func} {s : ChangeSpec} {c : OpenClaim}
    (j0 : (c.wf (OpenSpec.ofChange s)) = true)
    (j1 : (laidOutB P) = true)
    (j2 : (mapsRowed P) = true)
    (j3 : (fn.params.all (P.readableRec ·)) = true)
    (j4 : (namedTie P c.named s.vars) = true)
    (j5 : ((c.stops == [])) = true)
    (j6 : ((P.stops == [])) = true)
    (j7 : ((c.knobs == [])) = true)
    (j8 : ((P.stopKnobs == [])) = true)
    (j9 : ((c.inPlace == P.inPlace f)) = true)
    (j10 : ((c.unfollowed == P.unfollowed f)) = true)
    (j11 : ((c.recurses == P.recurses f)) = true)
    (j12 : ((c.named == P.varsNamed f)) = true)
    (j13 : ((c.maps == (fn.params.toList ++ s.plain.varTypes P).any (P.mapsRec ·))) = true)
    (j14 : ((c.ifaces == (fn.params.toList ++ s.plain.varTypes P).any (P.ifacesRec ·))) = true)
    (j15 : ((c.mapsOut == P.mapsAmong fn.resultTypes.toList)) = true)
    (j16 : ((c.loops == (fn.params.toList ++ s.plain.varTypes P).any (P.loopsFrom ·))) = true)
    (j17 : ((c.wideKeys == (fn.params.toList ++ s.plain.varTypes P ++ fn.resultTypes.toList).any (P.wideKeysFrom ·))) = true)
    (j18 : (s.vars.all (P.varReadable ·)) = true)
    (j19 : (fn.resultTypes.all (fun t => P.readableRec t && decide (t < P.types.size))) = true)
    (j20 : ((c.ifacesOut == fn.resultTypes.toList.any (P.ifacesRec ·))) = true)
    (j21 : ((c.loopsOut == fn.resultTypes.toList.any (P.loopsFrom ·))) = true)
    (j22 : ((c.plainKeys == P.plainKeys)) = true)
    (j23 : (c.shortTexts.isNone) = true)
    (j24 : (P.stopsHeard) = true)
    (j25 : (P.mayEnter) = true)
    (j26 : ((c.lifted == P.liftsFinal)) = true)
    (j27 : ((P.make == some c.make)) = true)
    (j28 : ((c.kinds == kindsOf P fn c)) = true)
    (j29 : ((c.pinned == c.pinnedBy)) = true)
    (j30 : ((c.veiled == (fn.params.toList ++ s.plain.varTypes P ++ fn.resultTypes.toList).any (P.veiledRec ·))) = true)
    (j31 : (c.veiledFits P fn.params.toList (fn.params.toList ++ s.plain.varTypes P ++ fn.resultTypes.toList)) = true)
    : joinedFacts P f fn s c = true := by
  unfold joinedFacts
  exact (andb (andb (andb (andb (andb (andb (andb (andb (andb (andb (andb (andb (andb (andb (andb (andb (andb (andb (andb (andb (andb (andb (andb (andb (andb (andb (andb (andb (andb (andb (andb j0 j1) j2) j3) j4) j5) j6) j7) j8) j9) j10) j11) j12) j13) j14) j15) j16) j17) j18) j19) j20) j21) j22) j23) j24) j25) j26) j27) j28) j29) j30) j31)
end Go.Proofs.Ytdlelcpkelginaa.E
