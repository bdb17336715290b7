/- My own texts, joined. -/
import Derived.JoinedOf
import Derived.KernelRfl
import Derived.Test.YtngploohhmfaiaaGreatProg
import Derived.Test.YtngploohhmfaiaaGreatAr13
/- Contracts of functions. -/
namespace Go.Proofs.YtngploohhmfaiaaGreat.E
open Go Go.Proofs Go.RowKit Go.Maps Go.Shelf Go.Sort
set_option linter.unusedVariables false
set_option linter.unusedSimpArgs false
theorem cntB_all {l : List UInt8} : ∀ {n : Nat}, (∀ j, j < n → hasB l j = true) → cntB l n = n
  | 0, _ => rfl
  | n + 1, h => by rw [cntB, cntB_all (fun j hj => h j (by omega)), if_pos (h n (by omega))]
theorem cntB_mono {l : List UInt8} {a : Nat} : ∀ (d : Nat), cntB l a ≤ cntB l (a + d) ∧ cntB l (a + d) ≤ cntB l a + d
  | 0 => ⟨Nat.le_refl _, Nat.le_refl _⟩
  | d + 1 => by
    have h := cntB_mono (l := l) (a := a) d
    rw [← Nat.add_assoc, cntB]
    split <;> omega
theorem cntB_fl {l : List UInt8} {a : Nat} : ∀ (d : Nat), (∀ j, a ≤ j → j < a + d → hasB l j = true) → cntB l (a + d) = cntB l a + d
  | 0, _ => rfl
  | d + 1, h => by
    rw [← Nat.add_assoc, cntB, cntB_fl d (fun j h1 h2 => h j h1 (by omega)), if_pos (h (a + d) (by omega) (by omega))]; omega
theorem cntB_nf {l : List UInt8} {a i : Nat} : ∀ (d : Nat), a ≤ i → i < a + d → hasB l i = false → cntB l (a + d) + 1 ≤ cntB l a + d
  | 0, h1, h2, _ => by omega
  | d + 1, h1, h2, hb => by
    rw [← Nat.add_assoc, cntB]
    have hm := (cntB_mono (l := l) (a := a) d).2
    by_cases e : i = a + d
    · subst e; rw [hb, if_neg (by simp)]; omega
    · have := cntB_nf (l := l) (a := a) (i := i) d h1 (by omega) hb
      split <;> omega
theorem cntB_with {l : List UInt8} {i : Nat} (h : i / 8 < l.length) (hb : hasB l i = false) : ∀ n, cntB (withB l i true) n = cntB l n + if i < n then 1 else 0
  | 0 => rfl
  | n + 1 => by
    rw [cntB, cntB, cntB_with h hb n, hasB_with h]
    by_cases e : n = i
    · subst e; simp [hb]
    · simp only [if_neg e]
      by_cases e2 : i < n
      · rw [if_pos e2, if_pos (show i < n + 1 by omega)]; omega
      · rw [if_neg e2, if_neg (show ¬ i < n + 1 by omega)]; omega
/-- the inodes' row, the first two set -/
def rk (l : List UInt8) : Nat → List UInt8
  | 0 => l
  | k + 1 => withB (rk l k) k true
theorem rk_len (l : List UInt8) : ∀ k, (rk l k).length = l.length
  | 0 => rfl
  | k + 1 => by rw [rk, withB_len, rk_len]
def rowI (n : Nat) (l : List UInt8) : List UInt8 := if n = 0 then rk l 2 else l
theorem rowI_eq {l : List UInt8} {n k : Nat} (h : (k = 2 ∧ n = 0) ∨ (k = 0 ∧ n ≠ 0)) : rk l k = rowI n l := by
  unfold rowI
  rcases h with ⟨rfl, h⟩ | ⟨rfl, h⟩
  · rw [if_pos h]
  · rw [if_neg h]; rfl
/-- how many of a group's inodes may be given -/
def spN (N n : Nat) (l : List UInt8) : Int := (N : Int) - (cntB (rowI n l) N : Int)
theorem spN_zero {N n : Nat} {l : List UInt8} (h : ∀ j, j < N → hasB (rowI n l) j = true) : spN N n l = 0 := by unfold spN; rw [cntB_all h]; omega
theorem spN_rng (N n : Nat) (l : List UInt8) : 0 ≤ spN N n l ∧ spN N n l ≤ N := by have := cntB_le (rowI n l) N; unfold spN; omega
/-- how many of a group's blocks are free -/
def frN (B N : Nat) (l : List UInt8) : Int := (B : Int) - ((2 + N / 4 : Nat) : Int) - (cntB l B : Int) + (cntB l (2 + N / 4) : Int)
theorem frN_rng {B N : Nat} (h : 2 + N / 4 ≤ B) (l : List UInt8) : 0 ≤ frN B N l ∧ frN B N l ≤ B := by
  obtain ⟨d, rfl⟩ : ∃ d, B = 2 + N / 4 + d := ⟨B - (2 + N / 4), by omega⟩
  have := cntB_mono (l := l) (a := 2 + N / 4) d
  unfold frN; omega
theorem frN_full {B N : Nat} (h : 2 + N / 4 ≤ B) {p : List UInt8 × List UInt8} (hf : FullG B N p) : frN B N p.2 = 0 := by
  obtain ⟨d, rfl⟩ : ∃ d, B = 2 + N / 4 + d := ⟨B - (2 + N / 4), by omega⟩
  have := cntB_fl (l := p.2) (a := 2 + N / 4) d hf
  unfold frN; omega
theorem frN_pos {B N i : Nat} {l : List UInt8} (h1 : 2 + N / 4 ≤ i) (h2 : i < B) (hb : hasB l i = false) : 1 ≤ frN B N l := by
  obtain ⟨d, rfl⟩ : ∃ d, B = 2 + N / 4 + d := ⟨B - (2 + N / 4), by omega⟩
  have := cntB_nf (l := l) (a := 2 + N / 4) d h1 h2 hb
  unfold frN; omega
theorem frN_with {B N i : Nat} {l : List UInt8} (h : i / 8 < l.length) (h1 : 2 + N / 4 ≤ i) (h2 : i < B) (hb : hasB l i = false) : frN B N (withB l i true) = frN B N l - 1 := by
  unfold frN
  rw [cntB_with h hb, cntB_with h hb, if_pos h2, if_neg (by omega)]; omega
def roomB (B N : Nat) (A : Nat → List UInt8 × List UInt8) : Nat → Int
  | 0 => 0
  | k + 1 => roomB B N A k + frN B N (A k).2
def roomI (N : Nat) (A : Nat → List UInt8 × List UInt8) : Nat → Int
  | 0 => 0
  | k + 1 => roomI N A k + spN N k (A k).1
theorem roomB_s {B N n : Nat} {A : Nat → List UInt8 × List UInt8} {l : List UInt8} (e : (A n).2 = l) : roomB B N A n + ((B : Int) - (2 + (N : Int) / 4) - (cntB l B : Int) + (cntB l (2 + N / 4) : Int)) = roomB B N A (n + 1) := by
  rw [roomB, e]; unfold frN; omega
theorem roomI_s {N n : Nat} {A : Nat → List UInt8 × List UInt8} {l : List UInt8} (e : (A n).1 = l) : roomI N A n + spN N n l = roomI N A (n + 1) := by rw [roomI, e]
theorem roomB_rng {B N : Nat} (h : 2 + N / 4 ≤ B) (A : Nat → List UInt8 × List UInt8) : ∀ k, 0 ≤ roomB B N A k ∧ roomB B N A k ≤ k * B
  | 0 => by unfold roomB; omega
  | k + 1 => by
    have h1 := roomB_rng h A k
    have h2 := frN_rng (B := B) (N := N) h (A k).2
    have h3 : ((k + 1 : Nat) : Int) * (B : Int) = (k : Int) * B + B := by rw [Int.natCast_add, Int.add_mul, Int.natCast_one, Int.one_mul]
    rw [roomB, h3]; omega
theorem roomI_rng (N : Nat) (A : Nat → List UInt8 × List UInt8) : ∀ k, 0 ≤ roomI N A k ∧ roomI N A k ≤ k * N
  | 0 => by unfold roomI; omega
  | k + 1 => by
    have h1 := roomI_rng N A k
    have h2 := spN_rng N k (A k).1
    have h3 : ((k + 1 : Nat) : Int) * (N : Int) = (k : Int) * N + N := by rw [Int.natCast_add, Int.add_mul, Int.natCast_one, Int.one_mul]
    rw [roomI, h3]; omega
/-- bollard/alloc.spare -/
theorem c_spare (a b : Int) (N n : Nat) (i0 i1 i2 i3 i4 i5 i6 i7 b0 b1 b2 b3 b4 b5 b6 b7 b8 b9 b10 b11 b12 b13 b14 b15 b16 b17 b18 b19 b20 b21 b22 b23 b24 b25 b26 b27 b28 b29 b30 b31 : UInt8) (s : TH) (hN : 1 ≤ N ∧ N ≤ 64) (hn : n ≤ 7) : TRet Tryz.prog 93 #[.agg #[.int .i64 a, .int .i64 b, .int .i64 (N : Int)], .agg (gv (n : Int) [i0, i1, i2, i3, i4, i5, i6, i7] [b0, b1, b2, b3, b4, b5, b6, b7, b8, b9, b10, b11, b12, b13, b14, b15, b16, b17, b18, b19, b20, b21, b22, b23, b24, b25, b26, b27, b28, b29, b30, b31]).toArray] s fun v s' => ∃ i : Nat, v = .tuple #[.int .i64 (i : Int), .int .i64 (spN N n [i0, i1, i2, i3, i4, i5, i6, i7])] ∧ Ch [] s s' ∧ (0 < spN N n [i0, i1, i2, i3, i4, i5, i6, i7] → i < N ∧ hasB (rowI n [i0, i1, i2, i3, i4, i5, i6, i7]) i = false) := by
  obtain ⟨M, hM, hM0, hMa, hMb, hMc, hMd, hMe, hMf⟩ := fresh6 s 0 0 0 0 0 0
  refine F93_calls _ _ _ _ _ _ _ _ _ _ _ _ _ _ _ _ _ _ _ _ _ _ _ _ _ _ _ _ _ _ _ _ _ _ _ _ _ _ _ _ _ _ _ _  ?_
  unfold F93
  refine al_t (M + 1) fun r1 s2 hr1 b_1 c_2 z_3 => ?_
  refine al_t (M + 2) fun r3 s4 hr3 b_4 c_5 z_6 => ?_
  have hg1 : Blk s4 r3 (gv (n : Int) [i0, i1, i2, i3, i4, i5, i6, i7] [b0, b1, b2, b3, b4, b5, b6, b7, b8, b9, b10, b11, b12, b13, b14, b15, b16, b17, b18, b19, b20, b21, b22, b23, b24, b25, b26, b27, b28, b29, b30, b31]) 77 (M + 2) := b_4
  have hq0 : Sl s4 (some ⟨r3, 1, none⟩) (bvs [i0, i1, i2, i3, i4, i5, i6, i7]) (M + 2) := gv_slI hg1 rfl rfl
  try rw [slO_zero]
  refine ask_t (by omega) ?_
  refine ⟨fun vs H' => ∃ s' : TH, s'.h = H' ∧ ∃ pa pn pc i, vs = [.slice pa pn pc, .int .i64 i] ∧ Ch [] s4 s' ∧ (∃ k τq : Nat, i = k ∧ k ≤ 2 ∧ (n = 0 ∨ k = 0) ∧ pn = 8 ∧ Sl s' pa (bvs (rk [i0, i1, i2, i3, i4, i5, i6, i7] k)) τq), fun vs H' => match vs with | [.slice pa pn pc, .int .i64 i] => (2 - i).toNat | _ => 0, ⟨s4, rfl, _, _, _, _, rfl, Ch.refl _ _, ?_⟩, ?_⟩
  ·
    exact ⟨0, M + 2, rfl, by omega, .inr rfl, rfl, hq0⟩
  ·
    intro pa pn pc i _ _ _ _ _ _ _ _ _ _ _ _ _ _ _ H_ hI_8
    obtain ⟨s_7, rfl, pa_, pn_, pc_, i_, hvs, c_9, k, τq, rfl, hk, hn0, rfl, hq⟩ := hI_8
    cases hvs
    have z_10 := c_9.size
    have hlk : (rk [i0, i1, i2, i3, i4, i5, i6, i7] k).length = 8 := rk_len _ k
    refine jn_u ?_
    refine sB_d (fun hsB1 => ?_) (fun hsB1 => ?_)
    ·
      have h_11 := hg1.ch c_9 (by simp)
      refine ld_t h_11 rfl ?_
      refine dInt_i ?_
      intro _
      intros
      refine dBl_i ?_
      refine sB_d (fun hsB2 => ?_) (fun hsB2 => ?_)
      ·
        refine tcall (c_bwith (xn := 8) (M + 10) pc hq hlk (by omega) k (by omega) true) ?_
        rintro v_13 s_12 ⟨acall1, ccall1, rfl, c_15, call1a⟩
        have z_16 := c_15.size
        refine dT2 ?_
        refine dSl_i ?_
        refine dInt_i ?_
        refine wr_t (by omega) ?_
        refine ⟨⟨s_12, rfl, _, _, _, _, rfl, (((Ch.refl [] s4).ch c_9 (by simp)).ch c_15 (by simp)), ?_⟩, ?_⟩
        ·
          exact ⟨k + 1, _, by omega, by omega, by omega, rfl, (call1a).sl⟩
        ·
          simp only []; omega
      ·
        have h_17 := b_1.ch (c_5.app c_9) (by simp)
        refine ld_t h_17 rfl ?_
        refine dInt_i ?_
        have hrow : rk [i0, i1, i2, i3, i4, i5, i6, i7] k = rowI n [i0, i1, i2, i3, i4, i5, i6, i7] := rowI_eq (by first | (left; constructor <;> omega) | (right; constructor <;> omega))
        rw [hrow] at hq hlk
        refine tcall (c_first (xn := 8) pc hq hlk N 0 (by omega) (by omega)) ?_
        rintro v_19 s_18 ⟨icall2, okcall2, rfl, c_21, call2a, call2b, call2c⟩
        have z_22 := c_21.size
        refine dT2 ?_
        refine dInt_i ?_
        refine dBl_i ?_
        refine sB_n (fun hsB3 => ?_) (fun hsB3 => ?_)
        ·
          refine ret_t ?_
          exact ⟨0, by rw [spN_zero (call2c (by assumption))]; rfl, (((((Ch.refl [] s).ch c_2 (by simp)).ch c_5 (by simp)).ch c_9 (by simp)).ch c_21 (by simp)), fun h => by (exfalso; rw [spN_zero (call2c (by assumption))] at h; omega)⟩
        ·
          have h_23 := h_17.ch c_21 (by simp)
          refine ld_t h_23 rfl ?_
          refine dInt_i ?_
          refine ld_t h_23 rfl ?_
          refine dInt_i ?_
          have h_24 := hq.mv c_21 (tagn (by simp))
          refine tcall (c_count (xn := 8) pc h_24 hlk N (by omega)) ?_
          rintro v_26 s_25 ⟨rfl, c_28⟩
          have z_29 := c_28.size
          have hcl := cntB_le (rowI n [i0, i1, i2, i3, i4, i5, i6, i7]) N
          refine dInt_i ?_
          refine ⟨?_, ?_⟩
          ·
            have h_30 := h_23.ch c_28 (by simp)
            refine ld_t h_30 rfl ?_
            refine dInt_i ?_
            rfl
          ·
            refine wr_t (by omega) ?_
            refine ret_t ?_
            exact ⟨_, rfl, ((((((Ch.refl [] s).ch c_2 (by simp)).ch c_5 (by simp)).ch c_9 (by simp)).ch c_21 (by simp)).ch c_28 (by simp)), fun _ => ⟨(call2a (by assumption)).1, (call2a (by assumption)).2.1⟩⟩
    ·
      intro _
      intros
      refine dBl_i ?_
      refine sB_f (by rfl) ?_
      have h_31 := b_1.ch (c_5.app c_9) (by simp)
      refine ld_t h_31 rfl ?_
      refine dInt_i ?_
      have hrow : rk [i0, i1, i2, i3, i4, i5, i6, i7] k = rowI n [i0, i1, i2, i3, i4, i5, i6, i7] := rowI_eq (by first | (left; constructor <;> omega) | (right; constructor <;> omega))
      rw [hrow] at hq hlk
      refine tcall (c_first (xn := 8) pc hq hlk N 0 (by omega) (by omega)) ?_
      rintro v_33 s_32 ⟨icall4, okcall4, rfl, c_35, call4a, call4b, call4c⟩
      have z_36 := c_35.size
      refine dT2 ?_
      refine dInt_i ?_
      refine dBl_i ?_
      refine sB_n (fun hsB5 => ?_) (fun hsB5 => ?_)
      ·
        refine ret_t ?_
        exact ⟨0, by rw [spN_zero (call4c (by assumption))]; rfl, (((((Ch.refl [] s).ch c_2 (by simp)).ch c_5 (by simp)).ch c_9 (by simp)).ch c_35 (by simp)), fun h => by (exfalso; rw [spN_zero (call4c (by assumption))] at h; omega)⟩
      ·
        have h_37 := h_31.ch c_35 (by simp)
        refine ld_t h_37 rfl ?_
        refine dInt_i ?_
        refine ld_t h_37 rfl ?_
        refine dInt_i ?_
        have h_38 := hq.mv c_35 (tagn (by simp))
        refine tcall (c_count (xn := 8) pc h_38 hlk N (by omega)) ?_
        rintro v_40 s_39 ⟨rfl, c_42⟩
        have z_43 := c_42.size
        have hcl := cntB_le (rowI n [i0, i1, i2, i3, i4, i5, i6, i7]) N
        refine dInt_i ?_
        refine ⟨?_, ?_⟩
        ·
          have h_44 := h_37.ch c_42 (by simp)
          refine ld_t h_44 rfl ?_
          refine dInt_i ?_
          rfl
        ·
          refine wr_t (by omega) ?_
          refine ret_t ?_
          exact ⟨_, rfl, ((((((Ch.refl [] s).ch c_2 (by simp)).ch c_5 (by simp)).ch c_9 (by simp)).ch c_35 (by simp)).ch c_42 (by simp)), fun _ => ⟨(call4a (by assumption)).1, (call4a (by assumption)).2.1⟩⟩
set_option maxRecDepth 100000 in
/-- bollard/alloc.Room -/
theorem c_room (vp d U : Nat) (V : VolM) (G B N : Nat) (A : Nat → List UInt8 × List UInt8) (s : TH) (hv : VolL s vp d U V 0) (hU : 10 ≤ U) (hg : GeoOk G B N) (hvn : V.n < 100000000) (hlp : V.P.last < 900000) (hA : AS G B V A) : TRet Tryz.prog 39 #[.pointer (some ⟨vp, 0, none⟩), .agg #[.int .i64 (G : Int), .int .i64 (B : Int), .int .i64 (N : Int)]] s fun v s' => v = .tuple #[.int .i64 (roomB B N A G), .int .i64 (roomI N A G), .int .i64 0] ∧ Ch [U, U + 3, U + 20, U + 21, U + 22, U + 23, U + 30, U + 32] s s' ∧ VolL s' vp d U (V.tk G) 0 := by
  have hcan := hg.can
  have hg2 := hg
  unfold GeoOk at hg2
  have hgb := hg.gb
  have hpk := hv.pokk
  have hp0 := hpk.lst
  have hl := hA.len
  have hgbI : (G : Int) * (B : Int) = ((G * B : Nat) : Int) := (Int.natCast_mul G B).symm
  obtain ⟨M, hM, hM0, hMa, hMb, hMc, hMd, hMe, hMf⟩ := fresh6 s (U + 50) 0 0 0 0 0
  refine F39_calls _ _ _ _  ?_
  unfold F39
  refine al_t (M + 1) fun r1 s2 hr1 b_1 c_2 z_3 => ?_
  refine ld_t b_1 rfl ?_
  refine ld_t b_1 rfl ?_
  refine ld_t b_1 rfl ?_
  have h_4 := hv.mv c_2 (rngn50 (by simp))
  refine tcall (c_readyA vp d U V _ _ _ _ h_4 hU hcan (by rw [hl, hgbI]; omega)) ?_
  rintro v_6 s_5 ⟨rfl, c_8, call1a⟩
  have z_9 := c_8.size
  refine dInt_i ?_
  refine sB_f (by rfl) ?_
  have h_10 := b_1.ch c_8 (by simp <;> omega)
  refine ld_t h_10 rfl ?_
  refine dInt_i ?_
  refine ⟨fun vs H' => ∃ s' : TH, s'.h = H' ∧ ∃ xb xi i, vs = [.int .i64 xb, .int .i64 xi, .int .i64 i] ∧ Ch [U, U + 20, U + 21, U + 22, U + 23, M + 9] s_5 s' ∧ (∃ n : Nat, i = n ∧ n ≤ G ∧ xb = roomB B N A n ∧ xi = roomI N A n ∧ VolL s' vp d U (V.tk n) 0), fun vs H' => match vs with | [.int .i64 xb, .int .i64 xi, .int .i64 i] => ((G : Int) - i).toNat | _ => 0, ⟨s_5, rfl, _, _, _, rfl, Ch.refl _ _, ?_⟩, ?_⟩
  ·
    exact ⟨0, rfl, by omega, rfl, rfl, by rw [show ((0 : Nat) : Int) = 0 from rfl, tk_zero]; exact call1a⟩
  ·
    intro xb xi i _ _ _ _ _ _ _ _ _ _ _ _ _ _ _ _ _ _ _ _ _ _ _ _ _ _ _ _ _ _ _ _ _ _ _ _ _ _ _ _ _ _ _ _ _ _ _ _ _ _ _ _ _ _ _ _ _ _ _ _ _ _ _ _ _ H_ hI_12
    obtain ⟨s_11, rfl, xb_, xi_, i_, hvs, c_13, n, rfl, hk, rfl, rfl, hv2⟩ := hI_12
    cases hvs
    have z_14 := c_13.size
    have hr1 := roomB_rng (B := B) (N := N) (by omega) A n
    have hr2 := roomI_rng N A n
    have hm1 : n * B ≤ 8 * 256 := Nat.mul_le_mul (by omega) (by omega)
    have hm2 : n * N ≤ 8 * 64 := Nat.mul_le_mul (by omega) (by omega)
    rw [← Int.natCast_mul] at hr1 hr2
    refine sB_d (fun hsB2 => ?_) (fun hsB2 => ?_)
    ·
      have h_15 := h_10.ch c_13 (by simp <;> omega)
      refine ld_t h_15 rfl ?_
      refine ld_t h_15 rfl ?_
      refine ld_t h_15 rfl ?_
      have hnG : n < G := by omega
      obtain ⟨i0, i1, i2, i3, i4, i5, i6, i7, hil⟩ := len8 (hA.l8 n hnG)
      obtain ⟨b0, b1, b2, b3, b4, b5, b6, b7, b8, b9, b10, b11, b12, b13, b14, b15, b16, b17, b18, b19, b20, b21, b22, b23, b24, b25, b26, b27, b28, b29, b30, b31, hbl⟩ := len32 (hA.l32 n hnG)
      have hnow : (V.tk (n : Int)).now (hB n B) = hdL n [i0, i1, i2, i3, i4, i5, i6, i7] [b0, b1, b2, b3, b4, b5, b6, b7, b8, b9, b10, b11, b12, b13, b14, b15, b16, b17, b18, b19, b20, b21, b22, b23, b24, b25, b26, b27, b28, b29, b30, b31] := by rw [← hil, ← hbl]; exact (hA.tk _).now n hnG
      refine tcall (c_aheader vp d U (V.tk n) G B N n i0 i1 i2 i3 i4 i5 i6 i7 b0 b1 b2 b3 b4 b5 b6 b7 b8 b9 b10 b11 b12 b13 b14 b15 b16 b17 b18 b19 b20 b21 b22 b23 b24 b25 b26 b27 b28 b29 b30 b31 _ hv2 hU hg hl (by show V.n + _ < _; omega) hnG hnow) ?_
      rintro v_17 s_16 ⟨rfl, c_19, call2a⟩
      have z_20 := c_19.size
      have hv4 : VolL s_16 vp d U (V.tk ((n : Int) + 1)) 0 := by rw [← tk_tick]; exact call2a
      refine dT2 ?_
      refine dA41 ?_
      refine dInt_i ?_
      refine al_t (M + 9) fun r132 s133 hr132 b_21 c_22 z_23 => ?_
      refine stG (n : Int) (il := [i0, i1, i2, i3, i4, i5, i6, i7]) (bl := [b0, b1, b2, b3, b4, b5, b6, b7, b8, b9, b10, b11, b12, b13, b14, b15, b16, b17, b18, b19, b20, b21, b22, b23, b24, b25, b26, b27, b28, b29, b30, b31]) rfl rfl rfl b_21 (by rfl) fun s134 b_24 c_25o z_26 => ?_
      have c_25 := on_ch b_21 c_25o
      refine sB_f (by rfl) ?_
      have h_27 := h_15.ch ((c_19.app c_22).app c_25) (by simp <;> omega)
      refine ld_t h_27 rfl ?_
      refine ld_t h_27 rfl ?_
      refine ld_t h_27 rfl ?_
      refine tcall (gc_data (G : Int) (B : Int) (N : Int) (n : Int) hcan (by omega) _) ?_
      rintro v_29 s_28 ⟨rfl, c_31⟩
      have z_32 := c_31.size
      refine dT3 ?_
      refine dInt_i ?_
      refine dInt_i ?_
      refine dBl_i ?_
      have h_33 := h_27.ch c_31 (by simp)
      refine ld_t h_33 rfl ?_
      refine ld_t h_33 rfl ?_
      refine ld_t h_33 rfl ?_
      have hfr := first_rng hg hnG
      have hdm := first_dm (n := n) hg
      refine tcall (gc_group (G : Int) (B : Int) (N : Int) _ hcan hfr _) ?_
      rintro v_35 s_34 ⟨rfl, c_37⟩
      have z_38 := c_37.size
      rw [hdm.1, hdm.2]
      refine dT3 ?_
      refine dInt_i ?_
      refine dInt_i ?_
      refine dBl_i ?_
      refine ask_t (by omega) ?_
      refine wr_t (by omega) ?_
      refine ask_t (by omega) ?_
      try rw [slO_zero]
      rw [show ((2 + N / 4 : Nat) : Int) + ((B : Int) - (2 + (N : Int) / 4)) = (B : Int) by omega]
      have h_39 := b_24.ch (c_31.app c_37) (by simp)
      refine tcall (c_count (xn := 32) 32 (gv_slB h_39 rfl rfl) rfl B (by omega)) ?_
      rintro v_41 s_40 ⟨rfl, c_43⟩
      have z_44 := c_43.size
      have hc1 := cntB_le [b0, b1, b2, b3, b4, b5, b6, b7, b8, b9, b10, b11, b12, b13, b14, b15, b16, b17, b18, b19, b20, b21, b22, b23, b24, b25, b26, b27, b28, b29, b30, b31] B
      refine dInt_i ?_
      refine wr_t (by omega) ?_
      try rw [slO_zero]
      have h_45 := h_39.ch c_43 (by simp)
      refine tcall (c_count (xn := 32) 32 (gv_slB h_45 rfl rfl) rfl (2 + N / 4) (by omega)) ?_
      rintro v_47 s_46 ⟨rfl, c_49⟩
      have z_50 := c_49.size
      have hc2 := cntB_le [b0, b1, b2, b3, b4, b5, b6, b7, b8, b9, b10, b11, b12, b13, b14, b15, b16, b17, b18, b19, b20, b21, b22, b23, b24, b25, b26, b27, b28, b29, b30, b31] (2 + N / 4)
      refine dInt_i ?_
      refine wr_t (by omega) ?_
      refine wr_t (by omega) ?_
      have h_51 := h_33.ch ((c_37.app c_43).app c_49) (by simp)
      refine ld_t h_51 rfl ?_
      refine ld_t h_51 rfl ?_
      refine ld_t h_51 rfl ?_
      have h_52 := h_45.ch c_49 (by simp)
      refine ld41 h_52 ?_
      refine tcall (c_spare (G : Int) (B : Int) N n i0 i1 i2 i3 i4 i5 i6 i7 b0 b1 b2 b3 b4 b5 b6 b7 b8 b9 b10 b11 b12 b13 b14 b15 b16 b17 b18 b19 b20 b21 b22 b23 b24 b25 b26 b27 b28 b29 b30 b31 _ (by omega) (by omega)) ?_
      rintro v_54 s_53 ⟨icall7, rfl, c_56, call7a⟩
      have z_57 := c_56.size
      have hs2 := spN_rng N n [i0, i1, i2, i3, i4, i5, i6, i7]
      refine dT2 ?_
      refine dInt_i ?_
      refine dInt_i ?_
      refine wr_t (by omega) ?_
      refine wr_t (by omega) ?_
      refine ⟨⟨s_53, rfl, _, _, _, rfl, ((((((((((Ch.refl [U, U + 20, U + 21, U + 22, U + 23, M + 9] s_5).ch c_13 (by simp)).ch c_19 (by simp)).ch c_22 (by simp)).ch c_25 (by simp)).ch c_31 (by simp)).ch c_37 (by simp)).ch c_43 (by simp)).ch c_49 (by simp)).ch c_56 (by simp)), ?_⟩, ?_⟩
      ·
        have h_58 := hv4.mv ((((((c_22.app c_25).app c_31).app c_37).app c_43).app c_49).app c_56) (rngn50 (by simp <;> omega))
        exact ⟨n + 1, by omega, by omega, roomB_s hbl, roomI_s hil, by rw [show ((n + 1 : Nat) : Int) = (n : Int) + 1 by omega]; exact h_58⟩
      ·
        simp only []; omega
    ·
      refine ret_t ?_
      obtain rfl : n = G := by omega
      exact ⟨rfl, ((((Ch.refl [U, U + 3, U + 20, U + 21, U + 22, U + 23, U + 30, U + 32] s).ch c_2 (by simp)).ch c_8 (by simp)).fr c_13 hM (by simp)), hv2⟩
set_option maxRecDepth 100000 in
/-- bollard/alloc.place -/
theorem c_place12 (vp d U : Nat) (V : VolM) (G B N : Nat) (n bit : Nat) (i0 i1 i2 i3 i4 i5 i6 i7 b0 b1 b2 b3 b4 b5 b6 b7 b8 b9 b10 b11 b12 b13 b14 b15 b16 b17 b18 b19 b20 b21 b22 b23 b24 b25 b26 b27 b28 b29 b30 b31 : UInt8) (s : TH) (hv : VolL s vp d U V 0) (hU : 10 ≤ U) (hg : GeoOk G B N) (hl : V.D.blocks.length = G * B) (hvn : V.n < 1000000000000) (hn : n < G) (hbit : bit < 256) (hnow : V.now (hB n B) = hdL n [i0, i1, i2, i3, i4, i5, i6, i7] [b0, b1, b2, b3, b4, b5, b6, b7, b8, b9, b10, b11, b12, b13, b14, b15, b16, b17, b18, b19, b20, b21, b22, b23, b24, b25, b26, b27, b28, b29, b30, b31]) : TRet Tryz.prog 95 #[.pointer (some ⟨vp, 0, none⟩), .agg #[.int .i64 (G : Int), .int .i64 (B : Int), .int .i64 (N : Int)], .int .i64 (n : Int), .int .i64 (bit : Int), .int .i64 12] s fun v s' => v = .tuple #[.agg (gv (n : Int) [i0, i1, i2, i3, i4, i5, i6, i7] [b0, b1, b2, b3, b4, b5, b6, b7, b8, b9, b10, b11, b12, b13, b14, b15, b16, b17, b18, b19, b20, b21, b22, b23, b24, b25, b26, b27, b28, b29, b30, b31]).toArray, .bool (hasB [b0, b1, b2, b3, b4, b5, b6, b7, b8, b9, b10, b11, b12, b13, b14, b15, b16, b17, b18, b19, b20, b21, b22, b23, b24, b25, b26, b27, b28, b29, b30, b31] bit), .int .i64 0] ∧ Ch [U, U + 20, U + 21, U + 22, U + 23] s s' ∧ VolL s' vp d U V.tick 0 := by
  have hcan := hg.can
  have hg2 := hg
  unfold GeoOk at hg2
  have hgb := hg.gb
  obtain ⟨M, hM, hM0, hMa, hMb, hMc, hMd, hMe, hMf⟩ := fresh6 s (U + 50) 0 0 0 0 0
  refine F95_calls _ _ _ _ _ _ _  ?_
  unfold F95
  refine al_t (M + 1) fun r1 s2 hr1 b_1 c_2 z_3 => ?_
  refine al_t (M + 2) fun r3 s4 hr3 b_4 c_5 z_6 => ?_
  have h_7 := b_1.ch c_5 (by simp)
  refine ld_t h_7 rfl ?_
  refine ld_t h_7 rfl ?_
  refine ld_t h_7 rfl ?_
  have h_8 := hv.mv (c_2.app c_5) (rngn50 (by simp))
  refine tcall (c_aheader vp d U V G B N n i0 i1 i2 i3 i4 i5 i6 i7 b0 b1 b2 b3 b4 b5 b6 b7 b8 b9 b10 b11 b12 b13 b14 b15 b16 b17 b18 b19 b20 b21 b22 b23 b24 b25 b26 b27 b28 b29 b30 b31 _ h_8 hU hg hl (by omega) hn hnow) ?_
  rintro v_10 s_9 ⟨rfl, c_12, call1a⟩
  have z_13 := c_12.size
  refine dT2 ?_
  refine dA41 ?_
  refine dInt_i ?_
  refine al_t (M + 3) fun r54 s55 hr54 b_14 c_15 z_16 => ?_
  refine stG (n : Int) (il := [i0, i1, i2, i3, i4, i5, i6, i7]) (bl := [b0, b1, b2, b3, b4, b5, b6, b7, b8, b9, b10, b11, b12, b13, b14, b15, b16, b17, b18, b19, b20, b21, b22, b23, b24, b25, b26, b27, b28, b29, b30, b31]) rfl rfl rfl b_14 (by rfl) fun s56 b_17 c_18o z_19 => ?_
  have c_18 := on_ch b_14 c_18o
  refine sB_f (by rfl) ?_
  refine sB_f (by rfl) ?_
  refine ld41 b_17 ?_
  refine ask_t (by omega) ?_
  try rw [slO_zero]
  refine tcall (c_bhas (xn := 32) 32 (gv_slB b_17 rfl rfl) rfl bit (by omega)) ?_
  rintro v_21 s_20 ⟨rfl, c_23⟩
  have z_24 := c_23.size
  refine dBl_i ?_
  refine ⟨?_, ?_⟩
  ·
    have h_25 := b_17.ch c_23 (by simp)
    refine ld41 h_25 ?_
    rfl
  ·
    have h_29 := b_4.ch (((c_12.app c_15).app c_18).app c_23) (by simp <;> omega)
    refine stG (n : Int) (il := [i0, i1, i2, i3, i4, i5, i6, i7]) (bl := [b0, b1, b2, b3, b4, b5, b6, b7, b8, b9, b10, b11, b12, b13, b14, b15, b16, b17, b18, b19, b20, b21, b22, b23, b24, b25, b26, b27, b28, b29, b30, b31]) rfl rfl rfl h_29 (by rfl) fun s433 b_26 c_27o z_28 => ?_
    have c_27 := on_ch h_29 c_27o
    refine ld41 b_26 ?_
    refine ret_t ?_
    have h_30 := call1a.mv (((c_15.app c_18).app c_23).app c_27) (rngn50 (by simp <;> omega))
    exact ⟨rfl, ((((((((Ch.refl [U, U + 20, U + 21, U + 22, U + 23] s).ch c_2 (by simp)).ch c_5 (by simp)).ch c_12 (by simp)).ch c_15 (by simp)).fr c_18 hM (by simp)).ch c_23 (by simp)).fr c_27 hM (by simp)), h_30⟩
/-- what a call of give leaves, at a block's bit -/
structure GivR (B n bit : Nat) (l : List UInt8) (V V' : VolM) (e : Int) : Prop where
  or_ : (e = 110 ∧ hasB l bit = false ∧ V' = V.tick) ∨ (e = 0 ∧ hasB l bit = true ∧ ChT V.tick (hB n B) (12 + ((bit / 8 : Nat) : Int)) [setTo (l.getD (bit / 8) 0) (bit % 8) false] V')
set_option maxRecDepth 100000 in
/-- bollard/alloc.give -/
theorem c_give12 (vp d U : Nat) (V : VolM) (G B N : Nat) (n bit : Nat) (i0 i1 i2 i3 i4 i5 i6 i7 b0 b1 b2 b3 b4 b5 b6 b7 b8 b9 b10 b11 b12 b13 b14 b15 b16 b17 b18 b19 b20 b21 b22 b23 b24 b25 b26 b27 b28 b29 b30 b31 : UInt8) (s : TH) (hv : VolL s vp d U V 0) (hU : 10 ≤ U) (hg : GeoOk G B N) (hl : V.D.blocks.length = G * B) (hvn : V.n < 100000000000) (hlp : V.P.last < 900000) (hn : n < G) (hbit : bit < 256) (hnow : V.now (hB n B) = hdL n [i0, i1, i2, i3, i4, i5, i6, i7] [b0, b1, b2, b3, b4, b5, b6, b7, b8, b9, b10, b11, b12, b13, b14, b15, b16, b17, b18, b19, b20, b21, b22, b23, b24, b25, b26, b27, b28, b29, b30, b31]) : TRet Tryz.prog 96 #[.pointer (some ⟨vp, 0, none⟩), .agg #[.int .i64 (G : Int), .int .i64 (B : Int), .int .i64 (N : Int)], .int .i64 (n : Int), .int .i64 (bit : Int), .int .i64 12, .slice none 0 0] s fun v s' => ∃ V' x e, v = .tuple #[.int .i64 x, .int .i64 e] ∧ Ch [U, U + 3, U + 20, U + 21, U + 22, U + 23, U + 30, U + 32] s s' ∧ VolL s' vp d U V' 0 ∧ GivR B n bit [b0, b1, b2, b3, b4, b5, b6, b7, b8, b9, b10, b11, b12, b13, b14, b15, b16, b17, b18, b19, b20, b21, b22, b23, b24, b25, b26, b27, b28, b29, b30, b31] V V' e := by
  have hcan := hg.can
  have hg2 := hg
  unfold GeoOk at hg2
  have hgb := hg.gb
  have hpk := hv.pokk
  have hp0 := hpk.lst
  obtain ⟨M, hM, hM0, hMa, hMb, hMc, hMd, hMe, hMf⟩ := fresh6 s (U + 50) 0 0 0 0 0
  refine F96_calls _ _ _ _ _ _ _ _ _ _  ?_
  unfold F96
  refine al_t (M + 1) fun r1 s2 hr1 b_1 c_2 z_3 => ?_
  refine ld_t b_1 rfl ?_
  refine ld_t b_1 rfl ?_
  refine ld_t b_1 rfl ?_
  have h_4 := hv.mv c_2 (rngn50 (by simp))
  refine tcall (c_place12 vp d U V G B N n bit i0 i1 i2 i3 i4 i5 i6 i7 b0 b1 b2 b3 b4 b5 b6 b7 b8 b9 b10 b11 b12 b13 b14 b15 b16 b17 b18 b19 b20 b21 b22 b23 b24 b25 b26 b27 b28 b29 b30 b31 _ h_4 hU hg hl (by omega) hn hbit hnow) ?_
  rintro v_6 s_5 ⟨rfl, c_8, call1a⟩
  have z_9 := c_8.size
  refine dT3 ?_
  refine dA41 ?_
  refine dBl_i ?_
  refine dInt_i ?_
  refine al_t (M + 2) fun r54 s55 hr54 b_10 c_11 z_12 => ?_
  refine stG (n : Int) (il := [i0, i1, i2, i3, i4, i5, i6, i7]) (bl := [b0, b1, b2, b3, b4, b5, b6, b7, b8, b9, b10, b11, b12, b13, b14, b15, b16, b17, b18, b19, b20, b21, b22, b23, b24, b25, b26, b27, b28, b29, b30, b31]) rfl rfl rfl b_10 (by rfl) fun s56 b_13 c_14o z_15 => ?_
  have c_14 := on_ch b_10 c_14o
  refine sB_f (by rfl) ?_
  refine sB_n (fun hsB2 => ?_) (fun hsB2 => ?_)
  ·
    refine ret_t ?_
    have h_16 := call1a.mv (c_11.app c_14) (rngn50 (by simp <;> omega))
    exact ⟨_, _, _, rfl, (((((Ch.refl [U, U + 3, U + 20, U + 21, U + 22, U + 23, U + 30, U + 32] s).ch c_2 (by simp)).ch c_8 (by simp)).ch c_11 (by simp)).fr c_14 hM (by simp)), h_16, ⟨.inl ⟨rfl, by (first | assumption | simp_all), rfl⟩⟩⟩
  ·
    have h_17 := b_1.ch ((c_8.app c_11).app c_14) (by simp <;> omega)
    refine ld_t h_17 rfl ?_
    refine ld_t h_17 rfl ?_
    refine ld_t h_17 rfl ?_
    refine ld41 b_13 ?_
    have h_18 := call1a.mv (c_11.app c_14) (rngn50 (by simp <;> omega))
    refine tcall (c_turn vp d U V.tick G B N n bit false i0 i1 i2 i3 i4 i5 i6 i7 b0 b1 b2 b3 b4 b5 b6 b7 b8 b9 b10 b11 b12 b13 b14 b15 b16 b17 b18 b19 b20 b21 b22 b23 b24 b25 b26 b27 b28 b29 b30 b31 _ h_18 hU hg (by show V.n + 1 < _; omega) hlp hl hn hbit) ?_
    rintro v_20 s_19 ⟨Vcall2, rfl, c_22, call2a, call2b⟩
    have z_23 := c_22.size
    refine dT2 ?_
    refine dInt_i ?_
    refine dInt_i ?_
    refine ret_t ?_
    exact ⟨_, _, _, rfl, ((((((Ch.refl [U, U + 3, U + 20, U + 21, U + 22, U + 23, U + 30, U + 32] s).ch c_2 (by simp)).ch c_8 (by simp)).ch c_11 (by simp)).fr c_14 hM (by simp)).ch c_22 (by simp)), call2b, ⟨.inr ⟨rfl, by (first | assumption | simp_all), call2a⟩⟩⟩
theorem abk_dm {B n i : Nat} (hi : i < B) : (((n * B + i : Nat) : Int)) / (B : Int) = (n : Int) ∧ (((n * B + i : Nat) : Int)) % (B : Int) = (i : Int) := by
  rw [← Int.natCast_ediv, ← Int.natCast_emod, Nat.mul_comm n B, Nat.mul_add_div (by omega), Nat.mul_add_mod, Nat.div_eq_of_lt hi, Nat.mod_eq_of_lt hi, Nat.add_zero]
  exact ⟨rfl, rfl⟩
theorem abk_rng {G B n i : Nat} (hn : n < G) (hi : i < B) : 0 ≤ ((n * B + i : Nat) : Int) ∧ ((n * B + i : Nat) : Int) < (G : Int) * (B : Int) := by
  have h1 : (n + 1) * B ≤ G * B := Nat.mul_le_mul_right B hn
  have h3 : (G : Int) * (B : Int) = ((G * B : Nat) : Int) := (Int.natCast_mul G B).symm
  rw [Nat.succ_mul] at h1
  rw [h3]; omega
set_option maxRecDepth 100000 in
/-- bollard/alloc.HasBlock -/
theorem c_hasblk (vp d U : Nat) (V : VolM) (G B N : Nat) (n i : Nat) (A : Nat → List UInt8 × List UInt8) (s : TH) (hv : VolL s vp d U V 0) (hU : 10 ≤ U) (hg : GeoOk G B N) (hvn : V.n < 100000000) (hlp : V.P.last < 900000) (hA : AS G B V A) (hn : n < G) (hi : 2 + N / 4 ≤ i) (hiB : i < B) : TRet Tryz.prog 41 #[.pointer (some ⟨vp, 0, none⟩), .agg #[.int .i64 (G : Int), .int .i64 (B : Int), .int .i64 (N : Int)], .int .i64 ((n * B + i : Nat) : Int)] s fun v s' => v = .tuple #[.bool (hasB (A n).2 i), .int .i64 0] ∧ Ch [U, U + 3, U + 20, U + 21, U + 22, U + 23, U + 30, U + 32] s s' ∧ VolL s' vp d U V.tick 0 := by
  have hcan := hg.can
  have hg2 := hg
  unfold GeoOk at hg2
  have hgb := hg.gb
  have hpk := hv.pokk
  have hp0 := hpk.lst
  have hl := hA.len
  have hgbI : (G : Int) * (B : Int) = ((G * B : Nat) : Int) := (Int.natCast_mul G B).symm
  have hfr := abk_rng hn hiB
  have hdm := abk_dm (n := n) hiB
  obtain ⟨i0, i1, i2, i3, i4, i5, i6, i7, hil⟩ := len8 (hA.l8 n hn)
  obtain ⟨b0, b1, b2, b3, b4, b5, b6, b7, b8, b9, b10, b11, b12, b13, b14, b15, b16, b17, b18, b19, b20, b21, b22, b23, b24, b25, b26, b27, b28, b29, b30, b31, hbl⟩ := len32 (hA.l32 n hn)
  have hnow : V.now (hB n B) = hdL n [i0, i1, i2, i3, i4, i5, i6, i7] [b0, b1, b2, b3, b4, b5, b6, b7, b8, b9, b10, b11, b12, b13, b14, b15, b16, b17, b18, b19, b20, b21, b22, b23, b24, b25, b26, b27, b28, b29, b30, b31] := by rw [← hil, ← hbl]; exact hA.now n hn
  obtain ⟨M, hM, hM0, hMa, hMb, hMc, hMd, hMe, hMf⟩ := fresh6 s (U + 50) 0 0 0 0 0
  refine F41_calls _ _ _ _ _  ?_
  unfold F41
  refine al_t (M + 1) fun r1 s2 hr1 b_1 c_2 z_3 => ?_
  refine ld_t b_1 rfl ?_
  refine ld_t b_1 rfl ?_
  refine ld_t b_1 rfl ?_
  have h_4 := hv.mv c_2 (rngn50 (by simp))
  refine tcall (c_readyA vp d U V _ _ _ _ h_4 hU hcan (by rw [hl, hgbI]; omega)) ?_
  rintro v_6 s_5 ⟨rfl, c_8, call1a⟩
  have z_9 := c_8.size
  refine dInt_i ?_
  refine sB_f (by rfl) ?_
  have h_10 := b_1.ch c_8 (by simp <;> omega)
  refine ld_t h_10 rfl ?_
  refine ld_t h_10 rfl ?_
  refine ld_t h_10 rfl ?_
  refine tcall (gc_isdata (G : Int) (B : Int) (N : Int) _ hcan hfr _) ?_
  rintro v_12 s_11 ⟨rfl, c_14⟩
  have z_15 := c_14.size
  rw [hdm.2]
  refine dBl_i ?_
  refine sB_nd (fun hsB2 => by exfalso; omega) (fun hsB2 => ?_)
  have h_16 := h_10.ch c_14 (by simp)
  refine ld_t h_16 rfl ?_
  refine ld_t h_16 rfl ?_
  refine ld_t h_16 rfl ?_
  refine tcall (gc_group (G : Int) (B : Int) (N : Int) _ hcan hfr _) ?_
  rintro v_18 s_17 ⟨rfl, c_20⟩
  have z_21 := c_20.size
  rw [hdm.1, hdm.2]
  refine dT3 ?_
  refine dInt_i ?_
  refine dInt_i ?_
  refine dBl_i ?_
  have h_22 := h_16.ch c_20 (by simp)
  refine ld_t h_22 rfl ?_
  refine ld_t h_22 rfl ?_
  refine ld_t h_22 rfl ?_
  have h_23 := call1a.mv (c_14.app c_20) (rngn50 (by simp))
  refine tcall (c_place12 vp d U V G B N n i i0 i1 i2 i3 i4 i5 i6 i7 b0 b1 b2 b3 b4 b5 b6 b7 b8 b9 b10 b11 b12 b13 b14 b15 b16 b17 b18 b19 b20 b21 b22 b23 b24 b25 b26 b27 b28 b29 b30 b31 _ h_23 hU hg hl (by omega) hn (by omega) hnow) ?_
  rintro v_25 s_24 ⟨rfl, c_27, call4a⟩
  have z_28 := c_27.size
  refine dT3 ?_
  refine dA41 ?_
  refine dBl_i ?_
  refine dInt_i ?_
  refine al_t (M + 2) fun r77 s78 hr77 b_29 c_30 z_31 => ?_
  refine stG (n : Int) (il := [i0, i1, i2, i3, i4, i5, i6, i7]) (bl := [b0, b1, b2, b3, b4, b5, b6, b7, b8, b9, b10, b11, b12, b13, b14, b15, b16, b17, b18, b19, b20, b21, b22, b23, b24, b25, b26, b27, b28, b29, b30, b31]) rfl rfl rfl b_29 (by rfl) fun s79 b_32 c_33o z_34 => ?_
  have c_33 := on_ch b_29 c_33o
  refine ret_t ?_
  have h_35 := call4a.mv (c_30.app c_33) (rngn50 (by simp <;> omega))
  exact ⟨by rw [hbl], ((((((((Ch.refl [U, U + 3, U + 20, U + 21, U + 22, U + 23, U + 30, U + 32] s).ch c_2 (by simp)).ch c_8 (by simp)).ch c_14 (by simp)).ch c_20 (by simp)).ch c_27 (by simp)).ch c_30 (by simp)).fr c_33 hM (by simp)), h_35⟩
/-- bollard/alloc.FreeBlock -/
theorem c_freeblk (vp d U : Nat) (V : VolM) (G B N : Nat) (n i : Nat) (A : Nat → List UInt8 × List UInt8) (s : TH) (hv : VolL s vp d U V 0) (hU : 10 ≤ U) (hg : GeoOk G B N) (hvn : V.n < 100000000) (hlp : V.P.last < 900000) (hA : AS G B V A) (hn : n < G) (hi : 2 + N / 4 ≤ i) (hiB : i < B) : TRet Tryz.prog 42 #[.pointer (some ⟨vp, 0, none⟩), .agg #[.int .i64 (G : Int), .int .i64 (B : Int), .int .i64 (N : Int)], .int .i64 ((n * B + i : Nat) : Int), .slice none 0 0] s fun v s' => ∃ V' x e, v = .tuple #[.int .i64 x, .int .i64 e] ∧ Ch [U, U + 3, U + 20, U + 21, U + 22, U + 23, U + 30, U + 32] s s' ∧ VolL s' vp d U V' 0 ∧ GivR B n i (A n).2 V V' e := by
  have hcan := hg.can
  have hg2 := hg
  unfold GeoOk at hg2
  have hgb := hg.gb
  have hpk := hv.pokk
  have hp0 := hpk.lst
  have hl := hA.len
  have hgbI : (G : Int) * (B : Int) = ((G * B : Nat) : Int) := (Int.natCast_mul G B).symm
  have hfr := abk_rng hn hiB
  have hdm := abk_dm (n := n) hiB
  obtain ⟨i0, i1, i2, i3, i4, i5, i6, i7, hil⟩ := len8 (hA.l8 n hn)
  obtain ⟨b0, b1, b2, b3, b4, b5, b6, b7, b8, b9, b10, b11, b12, b13, b14, b15, b16, b17, b18, b19, b20, b21, b22, b23, b24, b25, b26, b27, b28, b29, b30, b31, hbl⟩ := len32 (hA.l32 n hn)
  have hnow : V.now (hB n B) = hdL n [i0, i1, i2, i3, i4, i5, i6, i7] [b0, b1, b2, b3, b4, b5, b6, b7, b8, b9, b10, b11, b12, b13, b14, b15, b16, b17, b18, b19, b20, b21, b22, b23, b24, b25, b26, b27, b28, b29, b30, b31] := by rw [← hil, ← hbl]; exact hA.now n hn
  obtain ⟨M, hM, hM0, hMa, hMb, hMc, hMd, hMe, hMf⟩ := fresh6 s (U + 50) 0 0 0 0 0
  refine F42_calls _ _ _ _ _ _ _ _  ?_
  unfold F42
  refine al_t (M + 1) fun r1 s2 hr1 b_1 c_2 z_3 => ?_
  refine ld_t b_1 rfl ?_
  refine ld_t b_1 rfl ?_
  refine ld_t b_1 rfl ?_
  have h_4 := hv.mv c_2 (rngn50 (by simp))
  refine tcall (c_readyA vp d U V _ _ _ _ h_4 hU hcan (by rw [hl, hgbI]; omega)) ?_
  rintro v_6 s_5 ⟨rfl, c_8, call1a⟩
  have z_9 := c_8.size
  refine dInt_i ?_
  refine sB_f (by rfl) ?_
  have h_10 := b_1.ch c_8 (by simp <;> omega)
  refine ld_t h_10 rfl ?_
  refine ld_t h_10 rfl ?_
  refine ld_t h_10 rfl ?_
  refine tcall (gc_isdata (G : Int) (B : Int) (N : Int) _ hcan hfr _) ?_
  rintro v_12 s_11 ⟨rfl, c_14⟩
  have z_15 := c_14.size
  rw [hdm.2]
  refine dBl_i ?_
  refine sB_nd (fun hsB2 => by exfalso; omega) (fun hsB2 => ?_)
  have h_16 := h_10.ch c_14 (by simp)
  refine ld_t h_16 rfl ?_
  refine ld_t h_16 rfl ?_
  refine ld_t h_16 rfl ?_
  refine tcall (gc_group (G : Int) (B : Int) (N : Int) _ hcan hfr _) ?_
  rintro v_18 s_17 ⟨rfl, c_20⟩
  have z_21 := c_20.size
  rw [hdm.1, hdm.2]
  refine dT3 ?_
  refine dInt_i ?_
  refine dInt_i ?_
  refine dBl_i ?_
  have h_22 := h_16.ch c_20 (by simp)
  refine ld_t h_22 rfl ?_
  refine ld_t h_22 rfl ?_
  refine ld_t h_22 rfl ?_
  have h_23 := call1a.mv (c_14.app c_20) (rngn50 (by simp))
  refine tcall (c_give12 vp d U V G B N n i i0 i1 i2 i3 i4 i5 i6 i7 b0 b1 b2 b3 b4 b5 b6 b7 b8 b9 b10 b11 b12 b13 b14 b15 b16 b17 b18 b19 b20 b21 b22 b23 b24 b25 b26 b27 b28 b29 b30 b31 _ h_23 hU hg hl (by omega) hlp hn (by omega) hnow) ?_
  rintro v_25 s_24 ⟨Vcall4, xcall4, ecall4, rfl, c_27, call4a, call4b⟩
  have z_28 := c_27.size
  refine dT2 ?_
  refine dInt_i ?_
  refine dInt_i ?_
  refine ret_t ?_
  exact ⟨_, _, _, rfl, ((((((Ch.refl [U, U + 3, U + 20, U + 21, U + 22, U + 23, U + 30, U + 32] s).ch c_2 (by simp)).ch c_8 (by simp)).ch c_14 (by simp)).ch c_20 (by simp)).ch c_27 (by simp)), call4a, by rw [hbl]; exact call4b⟩
structure DoA where
  op : Int
  n : Int
  dir : Bool
  na : Option Addr
  nn : Nat
  nc : Nat
def do11 (x : DoA) : List Value := [.int .i64 x.op, .int .i64 x.n, .bool x.dir, .slice x.na x.nn x.nc]
theorem do11_len (x : DoA) : (do11 x).length = 4 := rfl
theorem acell (n : Nat) (hn : n < 4) {ls : List DoA} {k : Nat} {x : DoA} (h : ls[k]? = some x) : (ls.flatMap do11)[k * 4 + n]? = (do11 x)[n]? := fm_get do11_len ls k n x h hn
theorem updA_same {A : Nat → List UInt8 × List UInt8} {n : Nat} {l : List UInt8} : updA A n l n = ((A n).1, l) := by unfold updA; rw [if_pos rfl]
theorem updA_ne {A : Nat → List UInt8 × List UInt8} {n m : Nat} {l : List UInt8} (h : m ≠ n) : updA A n l m = A m := by unfold updA; rw [if_neg h]
theorem roomI_upd {N n : Nat} {A : Nat → List UInt8 × List UInt8} {l : List UInt8} : ∀ k, roomI N (updA A n l) k = roomI N A k
  | 0 => rfl
  | k + 1 => by
    rw [roomI, roomI, roomI_upd k]
    by_cases e : k = n
    · subst e; rw [updA_same]
    · rw [updA_ne e]
theorem roomB_up0 {B N n : Nat} {A : Nat → List UInt8 × List UInt8} {l : List UInt8} : ∀ k, k ≤ n → roomB B N (updA A n l) k = roomB B N A k
  | 0, _ => rfl
  | k + 1, h => by rw [roomB, roomB, roomB_up0 k (by omega), updA_ne (by omega)]
theorem roomB_upd {B N n : Nat} {A : Nat → List UInt8 × List UInt8} {l : List UInt8} {d : Int} (h : frN B N l = frN B N (A n).2 - d) : ∀ k, n < k → roomB B N (updA A n l) k = roomB B N A k - d
  | 0, hk => by omega
  | k + 1, hk => by
    rw [roomB, roomB]
    by_cases e : k = n
    · subst e; rw [updA_same, roomB_up0 k (Nat.le_refl _), h]; omega
    · rw [updA_ne e, roomB_upd h k (by omega)]; omega
theorem roomB_full {B N : Nat} (h : 2 + N / 4 ≤ B) {A : Nat → List UInt8 × List UInt8} : ∀ k, (∀ n, n < k → FullG B N (A n)) → roomB B N A k = 0
  | 0, _ => rfl
  | k + 1, hf => by rw [roomB, roomB_full h k (fun n hn => hf n (by omega)), frN_full h (hf k (by omega))]; rfl
theorem roomB_pos {B N n i : Nat} (h : 2 + N / 4 ≤ B) {A : Nat → List UInt8 × List UInt8} (h1 : 2 + N / 4 ≤ i) (h2 : i < B) (hb : hasB (A n).2 i = false) : ∀ k, n < k → 1 ≤ roomB B N A k
  | 0, hk => by omega
  | k + 1, hk => by
    rw [roomB]
    have h3 := (roomB_rng h A k).1
    have h4 := (frN_rng h (A k).2).1
    by_cases e : k = n
    · subst e; have := frN_pos h1 h2 hb; omega
    · have := roomB_pos h h1 h2 hb k (by omega); omega
/-- what was given is allocated -/
structure GvI (G B N : Nat) (A : Nat → List UInt8 × List UInt8) (mk : List (Int × Value)) : Prop where
  at_ : ∀ b v, mget b mk = some v → v = .bool true ∧ ∃ n i : Nat, n < G ∧ 2 + N / 4 ≤ i ∧ i < B ∧ b = ((n * B + i : Nat) : Int) ∧ hasB (A n).2 i = true
theorem blk_inj {B n m i j : Nat} (hi : i < B) (hj : j < B) (h : ((n * B + i : Nat) : Int) = ((m * B + j : Nat) : Int)) : n = m ∧ i = j := by
  have h1 := abk_dm (n := n) hi
  have h2 := abk_dm (n := m) hj
  rw [h] at h1
  constructor
  · exact Int.natCast_inj.1 (h1.1.symm.trans h2.1)
  · exact Int.natCast_inj.1 (h1.2.symm.trans h2.2)
theorem GvI.new {G B N n i : Nat} {A : Nat → List UInt8 × List UInt8} {mk : List (Int × Value)} (h : GvI G B N A mk) (hi : i < B) (hb : hasB (A n).2 i = false) : mget ((n * B + i : Nat) : Int) mk = none := by
  cases e : mget ((n * B + i : Nat) : Int) mk with
  | none => rfl
  | some v =>
    obtain ⟨_, m, j, h1, h2, h3, h4, h5⟩ := h.at_ _ _ e
    obtain ⟨rfl, rfl⟩ := blk_inj hi h3 h4
    rw [hb] at h5; cases h5
theorem GvI.put {G B N n i : Nat} {A : Nat → List UInt8 × List UInt8} {mk : List (Int × Value)} (h : GvI G B N A mk) (h32 : (A n).2.length = 32) (hB : B ≤ 256) (hn : n < G) (hi0 : 2 + N / 4 ≤ i) (hi : i < B) : GvI G B N (updA A n (withB (A n).2 i true)) (mset ((n * B + i : Nat) : Int) (.bool true) mk) := by
  refine ⟨fun b v hv => ?_⟩
  rw [mget_mset] at hv
  by_cases e : b = ((n * B + i : Nat) : Int)
  · rw [if_pos e] at hv
    cases hv
    exact ⟨rfl, n, i, hn, hi0, hi, e, by rw [updA_same]; show hasB (withB (A n).2 i true) i = true; rw [hasB_with (by omega), if_pos rfl]⟩
  · rw [if_neg e] at hv
    obtain ⟨hv, m, j, h1, h2, h3, h4, h5⟩ := h.at_ _ _ hv
    refine ⟨hv, m, j, h1, h2, h3, h4, ?_⟩
    by_cases e2 : m = n
    · subst e2
      rw [updA_same]
      show hasB (withB (A m).2 i true) j = true
      rw [hasB_with (by omega)]
      split
      · rfl
      · exact h5
    · rw [updA_ne e2]; exact h5
theorem GvI.del {G B N n i : Nat} {A : Nat → List UInt8 × List UInt8} {mk : List (Int × Value)} (hnd : (mk.map (·.1)).Nodup) (h : GvI G B N A mk) (h32 : (A n).2.length = 32) (hB : B ≤ 256) (hi : i < B) : GvI G B N (updA A n (withB (A n).2 i false)) (mdel ((n * B + i : Nat) : Int) mk) := by
  refine ⟨fun b v hv => ?_⟩
  rw [mget_mdel hnd] at hv
  by_cases e : b = ((n * B + i : Nat) : Int)
  · rw [if_pos e] at hv; cases hv
  · rw [if_neg e] at hv
    obtain ⟨hv, m, j, h1, h2, h3, h4, h5⟩ := h.at_ _ _ hv
    refine ⟨hv, m, j, h1, h2, h3, h4, ?_⟩
    by_cases e2 : m = n
    · subst e2
      rw [updA_same]
      show hasB (withB (A m).2 i false) j = true
      rw [hasB_with (by omega), if_neg (fun e3 => e (by rw [h4, e3])), h5]
    · rw [updA_ne e2]; exact h5
theorem e5_r {x : Int} (h : x = 0) : (!(((5 : Int) == 5) == (x == 0))) = false := by subst h; rfl
theorem e0_r {x : Int} (h : 1 ≤ x) : (!(((0 : Int) == 5) == (x == 0))) = false := by
  have e : (x == 0) = false := by simp; omega
  rw [e]; rfl
theorem GvI.nil {G B N : Nat} {A : Nat → List UInt8 × List UInt8} : GvI G B N A [] := ⟨fun b v h => by cases h⟩
theorem c_freeOk (vp d U : Nat) (V : VolM) (G B N : Nat) (n i : Nat) (A : Nat → List UInt8 × List UInt8) (s : TH) (hv : VolL s vp d U V 0) (hU : 10 ≤ U) (hg : GeoOk G B N) (hvn : V.n < 100000000) (hlp : V.P.last < 900000) (hA : AS G B V A) (hn : n < G) (hi : 2 + N / 4 ≤ i) (hiB : i < B) (hb : hasB (A n).2 i = true) : TRet Tryz.prog 42 #[.pointer (some ⟨vp, 0, none⟩), .agg #[.int .i64 (G : Int), .int .i64 (B : Int), .int .i64 (N : Int)], .int .i64 ((n * B + i : Nat) : Int), .slice none 0 0] s fun v s' => ∃ V' x, v = .tuple #[.int .i64 x, .int .i64 0] ∧ Ch [U, U + 3, U + 20, U + 21, U + 22, U + 23, U + 30, U + 32] s s' ∧ VolL s' vp d U V' 0 ∧ ChT V.tick (hB n B) (12 + ((i / 8 : Nat) : Int)) [setTo ((A n).2.getD (i / 8) 0) (i % 8) false] V' :=
  (c_freeblk vp d U V G B N n i A s hv hU hg hvn hlp hA hn hi hiB).mono fun v s' h => by
    obtain ⟨V', x, e, h1, h2, h3, h4⟩ := h
    rcases h4.or_ with ⟨_, h5, _⟩ | ⟨rfl, _, h5⟩
    · rw [hb] at h5; cases h5
    · exact ⟨V', x, h1, h2, h3, h5⟩
theorem c_freeNo (vp d U : Nat) (V : VolM) (G B N : Nat) (n i : Nat) (A : Nat → List UInt8 × List UInt8) (s : TH) (hv : VolL s vp d U V 0) (hU : 10 ≤ U) (hg : GeoOk G B N) (hvn : V.n < 100000000) (hlp : V.P.last < 900000) (hA : AS G B V A) (hn : n < G) (hi : 2 + N / 4 ≤ i) (hiB : i < B) (hb : hasB (A n).2 i = false) : TRet Tryz.prog 42 #[.pointer (some ⟨vp, 0, none⟩), .agg #[.int .i64 (G : Int), .int .i64 (B : Int), .int .i64 (N : Int)], .int .i64 ((n * B + i : Nat) : Int), .slice none 0 0] s fun v s' => ∃ x, v = .tuple #[.int .i64 x, .int .i64 110] ∧ Ch [U, U + 3, U + 20, U + 21, U + 22, U + 23, U + 30, U + 32] s s' ∧ VolL s' vp d U V.tick 0 :=
  (c_freeblk vp d U V G B N n i A s hv hU hg hvn hlp hA hn hi hiB).mono fun v s' h => by
    obtain ⟨V', x, e, h1, h2, h3, h4⟩ := h
    rcases h4.or_ with ⟨rfl, _, rfl⟩ | ⟨_, h5, _⟩
    · exact ⟨x, h1, h2, h3⟩
    · rw [hb] at h5; cases h5
/-- bollard/bollardlaw11.AllocOnce -/
theorem w_aonce (U : Nat) (a b c : Int) {xa : Option Addr} {xn : Nat} (xc : Nat) {ls : List DoA} {τx : Nat} (s : TH) (hU : 10 ≤ U) (hx : Sl s xa (ls.flatMap do11) τx) (hxn : ls.length = xn) (hx0 : xa = none → xn = 0) (hxm : xn ≤ 17592186043904) (hτ : τx < U ∨ U + 50 ≤ τx) : TRet Tryz.prog 8 #[.agg #[.int .i64 a, .int .i64 b, .int .i64 c], .slice xa xn xc] s fun v s' => v = .bool true ∧ Ch [U, U + 3, U + 11, U + 20, U + 21, U + 22, U + 23, U + 30, U + 32] s s' := by
  obtain ⟨M, hM, hM0, hMa, hMb, hMc, hMd, hMe, hMf⟩ := fresh6 s τx (U + 60) 0 0 0 0
  refine F8_calls _ _ _ _ _ _  ?_
  unfold F8
  refine al_t (M + 1) fun r1 s2 hr1 b_1 c_2 z_3 => ?_
  refine ld_t b_1 rfl ?_
  refine ld_t b_1 rfl ?_
  refine ld_t b_1 rfl ?_
  refine tcall (c_fresh U (M + 10) a b c _ hU (by omega)) ?_
  rintro v_5 s_4 ⟨pcall1, vpcall1, dcall1, xcall1, ycall1, Gcall1, Bcall1, Ncall1, rfl, c_7, call1a, call1b, call1c, call1d⟩
  have z_8 := c_7.size
  have hg := call1a
  have hg2 := hg
  unfold GeoOk at hg2
  have hgb := hg.gb
  have hA0 := AS.start hg
  refine dT3 ?_
  refine dPtr_i ?_
  refine dA3 ?_
  refine dBl_i ?_
  have h_12 := b_1.ch c_7 (by simp <;> omega)
  refine st_t h_12 rfl (by simp) fun s16 b_9 c_10o z_11 => ?_
  have c_10 := on_ch h_12 c_10o
  refine st_t b_9 rfl (by simp) fun s17 b_13 c_14o z_15 => ?_
  have c_14 := on_ch b_9 c_14o
  refine st_t b_13 rfl (by simp) fun s18 b_16 c_17o z_18 => ?_
  have c_17 := on_ch b_13 c_17o
  refine sB_f (by rfl) ?_
  refine alm_t (Value.int .i64) (M + 2) fun r19 s20 hr19 b_19 c_20 z_21 => ?_
  refine jn_u ?_
  refine ⟨fun vs H' => ∃ s' : TH, s'.h = H' ∧ ∃ i0_, vs = [.int .i64 i0_] ∧ Ch [U, U + 3, U + 20, U + 21, U + 22, U + 23, U + 30, U + 32, M + 2, M + 9] s20 s' ∧ (∃ (kk : Nat) (V : VolM) (A : Nat → List UInt8 × List UInt8) (mk : List (Int × Value)), i0_ = kk ∧ kk ≤ xn ∧ kk ≤ 61 ∧ VolL s' vpcall1 dcall1 U V 0 ∧ AS Gcall1 Bcall1 V A ∧ V.P.last ≤ kk ∧ V.n ≤ kk * 10000 ∧ GvI Gcall1 Bcall1 Ncall1 A mk ∧ MapK (Value.int .i64) s' r19 mk (M + 2)), fun vs H' => match vs with | [.int .i64 i0_] => ((xn : Int) - i0_).toNat | _ => 0, ⟨s20, rfl, _, rfl, Ch.refl _ _, ?_⟩, ?_⟩
  ·
    have h_22 := call1d.mv (((c_10.app c_14).app c_17).app c_20) (rngn50 (by simp <;> omega))
    exact ⟨0, _, _, [], rfl, by omega, by omega, h_22, hA0, by show (0 : Int) ≤ _; omega, by show (0 : Int) ≤ _; omega, GvI.nil, b_19⟩
  ·
    intro i0_ _ _ _ _ _ _ _ _ _ _ _ _ _ _ _ _ _ _ _ _ _ _ _ _ _ _ _ _ _ _ _ _ _ _ _ _ _ _ _ _ _ _ _ _ _ _ _ _ _ _ _ _ _ _ _ _ _ _ _ _ _ _ _ _ _ _ _ _ _ _ _ _ _ _ _ _ _ _ _ _ _ _ _ _ _ _ _ _ _ _ _ _ _ _ _ _ _ _ _ _ _ _ _ _ _ _ _ _ _ _ _ _ _ _ _ _ _ _ _ _ _ _ _ _ _ _ _ _ _ _ _ _ _ _ _ _ _ _ _ _ _ _ _ _ _ _ _ _ _ _ _ _ _ _ _ _ _ _ _ _ _ _ _ _ _ _ H_ hI_24
    obtain ⟨s_23, rfl, i0__, hvs, c_25, kk, V, A, mk, rfl, hk, hk61, hv, hA, hlp, hvn, hG, hm⟩ := hI_24
    cases hvs
    have z_26 := c_25.size
    have hl := hA.len
    refine sB_d (fun hsB2 => ?_) (fun hsB2 => ?_)
    ·
      refine jn_u ?_
      obtain ⟨xx, hxe⟩ : ∃ xx, ls[kk]? = some xx := ⟨ls[kk]'(by omega), by simp⟩
      obtain ⟨a, rfl⟩ := Option.ne_none_iff_exists'.1 (fun e => absurd (hx0 e) (by omega))
      refine nz_i ?_
      refine ask_t (by omega) ?_
      have h_27 := hx.mv ((((((c_2.app c_7).app c_10).app c_14).app c_17).app c_20).app c_25) (tagn (by simp <;> omega))
      refine ld_sl h_27 (by rw [Int.toNat_natCast]; exact acell 0 (by omega) hxe) ?_
      refine ld_sl2 h_27 (by rw [Int.toNat_natCast]; exact acell 1 (by omega) hxe) ?_
      refine ld_sl2 h_27 (by rw [Int.toNat_natCast]; exact acell 2 (by omega) hxe) ?_
      refine ld_sl2 h_27 (by rw [Int.toNat_natCast]; exact acell 3 (by omega) hxe) ?_
      refine al_t (M + 9) fun r535 s536 hr535 b_28 c_29 z_30 => ?_
      refine st_t b_28 rfl (by simp) fun s537 b_31 c_32o z_33 => ?_
      have c_32 := on_ch b_28 c_32o
      refine st_t b_31 rfl (by simp) fun s538 b_34 c_35o z_36 => ?_
      have c_35 := on_ch b_31 c_35o
      refine st_t b_34 rfl (by simp) fun s539 b_37 c_38o z_39 => ?_
      have c_38 := on_ch b_34 c_38o
      refine st_t b_37 rfl (by simp) fun s540 b_40 c_41o z_42 => ?_
      have c_41 := on_ch b_37 c_41o
      refine sB_d (fun hsB3 => ?_) (fun hsB3 => ?_)
      ·
        intro _
        intros
        refine ret_t ?_
        exact ⟨rfl, (((((((((((((Ch.refl [U, U + 3, U + 11, U + 20, U + 21, U + 22, U + 23, U + 30, U + 32] s).ch c_2 (by simp)).ch c_7 (by simp)).fr c_10 hM (by simp)).fr c_14 hM (by simp)).fr c_17 hM (by simp)).ch c_20 (by simp)).fr c_25 hM (by simp)).ch c_29 (by simp)).fr c_32 hM (by simp)).fr c_35 hM (by simp)).fr c_38 hM (by simp)).fr c_41 hM (by simp))⟩
      ·
        refine nz_i ?_
        have h_43 := call1c.ch (((((((((c_10.app c_14).app c_17).app c_20).app c_25).app c_29).app c_32).app c_35).app c_38).app c_41) (by simp <;> omega)
        refine ld_t h_43 rfl ?_
        refine dPtr_i ?_
        have h_44 := b_16.ch ((((((c_20.app c_25).app c_29).app c_32).app c_35).app c_38).app c_41) (by simp <;> omega)
        refine ld_t h_44 rfl ?_
        refine ld_t h_44 rfl ?_
        refine ld_t h_44 rfl ?_
        have h_45 := hv.mv ((((c_29.app c_32).app c_35).app c_38).app c_41) (rngn50 (by simp <;> omega))
        refine tcall (c_room vpcall1 dcall1 U V Gcall1 Bcall1 Ncall1 A _ h_45 hU hg (by first | omega | (show V.n + _ < _; omega)) (by first | omega | (show V.P.last < _; omega)) hA) ?_
        rintro v_47 s_46 ⟨rfl, c_49, call2a⟩
        have z_50 := c_49.size
        refine dT3 ?_
        refine dInt_i ?_
        refine dInt_i ?_
        refine dInt_i ?_
        refine sB_f (by rfl) ?_
        have h_51 := b_40.ch c_49 (by simp <;> omega)
        refine ld_t h_51 rfl ?_
        refine dInt_i ?_
        refine wr_a fun n557 hn557 => ?_
        rw [wrap_u64] at hn557
        have h_52 := h_44.ch c_49 (by simp <;> omega)
        refine ld_t h_52 rfl ?_
        refine dInt_i ?_
        refine wr_a fun n560 hn560 => ?_
        rw [wrap_u64] at hn560
        refine ask_t (by omega) ?_
        refine nm_a fun n561 hn561 => ?_
        have qn561 := tmod_rng (by omega) (by omega) hn561
        obtain ⟨n, hnn⟩ : ∃ n : Nat, n561 = (n : Int) := ⟨n561.toNat, by omega⟩
        have hnG : n < Gcall1 := by omega
        rw [hnn]
        refine wr_t (by omega) ?_
        refine ld_t h_51 rfl ?_
        refine dInt_i ?_
        refine ask_t (by omega) ?_
        refine nm_a fun n565 hn565 => ?_
        refine sB_d (fun hsB5 => ?_) (fun hsB5 => ?_)
        ·
          refine nz_i ?_
          have h_53 := h_43.ch c_49 (by simp <;> omega)
          refine ld_t h_53 rfl ?_
          refine dPtr_i ?_
          refine ld_t h_52 rfl ?_
          refine ld_t h_52 rfl ?_
          refine ld_t h_52 rfl ?_
          refine tcall (c_ablk vpcall1 dcall1 U (V.tk Gcall1) Gcall1 Bcall1 Ncall1 n A _ call2a hU hg (by show V.n + _ < _; omega) (by show V.P.last < _; omega) (hA.tk _) hnG) ?_
          rintro v_55 s_54 ⟨Vcall3, xcall3, ycall3, ecall3, rfl, c_57, call3a, call3b⟩
          have z_58 := c_57.size
          rcases call3b with ⟨rfl, hfl, kz, hkz, hVz⟩ | ⟨rfl, n2, i2, kz, kt, hn2, hkz, hne2, hful, hi2, hi2B, hb2, hx2, hkt, hch⟩
          ·
            try (rw [tk_tk] at hVz)
            try subst hVz
            try (have hr0 : roomB Bcall1 Ncall1 A Gcall1 = 0 := roomB_full (by omega) _ hfl)
            try (rw [← Int.natCast_mul, ← Int.natCast_add] at hx2)
            try subst hx2
            try (have hr1 : 1 ≤ roomB Bcall1 Ncall1 A Gcall1 := roomB_pos (by omega) hi2 hi2B hb2 _ hn2)
            try (rw [tk_tk] at hch)
            try (have h32 := hA.l32 n2 hn2)
            try (have hA3 : AS Gcall1 Bcall1 Vcall3 (updA A n2 (withB (A n2).2 i2 true)) := (hA.tk _).up (by omega) hn2 (by omega) hch)
            try (have hnV := hch.n)
            try (have hnV1 := ticks_le (V.tk ((Gcall1 : Int) + (kt : Int))) (hB n2 Bcall1))
            try (rw [tk_n] at hnV1)
            try (have hlaV := hch.last)
            try (rw [tk_last] at hlaV)
            try (have hb3 : hasB ((updA A n2 (withB (A n2).2 i2 true)) n2).2 i2 = true := by rw [updA_same]; show hasB (withB (A n2).2 i2 true) i2 = true; rw [hasB_with (by omega), if_pos rfl])
            try (have hrb : roomB Bcall1 Ncall1 (updA A n2 (withB (A n2).2 i2 true)) Gcall1 = roomB Bcall1 Ncall1 A Gcall1 - 1 := roomB_upd (frN_with (by omega) hi2 hi2B hb2) _ hn2)
            try (have hri : roomI Ncall1 (updA A n2 (withB (A n2).2 i2 true)) Gcall1 = roomI Ncall1 A Gcall1 := roomI_upd _)
            refine dT3 ?_
            refine dInt_i ?_
            refine dInt_i ?_
            refine dInt_i ?_
            refine jn1 (fun fv s' => Ch [] s_54 s' ∧ (fv = .bool false)) ?_ ?_
            ·
              rintro fv s_59 ⟨c_60, rfl⟩
              have z_61 := c_60.size
              intro _
              intros
              refine dBl_i ?_
              refine sB_f (by rfl) ?_
              refine sB_t (by rfl) ?_
              intro _
              intros
              refine wr_t (by omega) ?_
              refine ⟨⟨s_59, rfl, _, rfl, ((((((((((Ch.refl [U, U + 3, U + 20, U + 21, U + 22, U + 23, U + 30, U + 32, M + 2, M + 9] s20).ch c_25 (by simp)).ch c_29 (by simp)).ch c_32 (by simp)).ch c_35 (by simp)).ch c_38 (by simp)).ch c_41 (by simp)).ch c_49 (by simp)).ch c_57 (by simp)).ch c_60 (by simp)), ?_⟩, ?_⟩
              ·
                have h_62 := call3a.mv c_60 (rngn50 (by simp))
                have h_63 := hm.ch (((((((c_29.app c_32).app c_35).app c_38).app c_41).app c_49).app c_57).app c_60) (by simp <;> omega)
                exact ⟨kk + 1, _, A, mk, by omega, by omega, by omega, h_62, hA.tk _, by show V.P.last ≤ _; omega, by show V.n + _ ≤ _; omega, hG, h_63⟩
              ·
                simp only []; omega
            ·
              intro K_64 hK_64
              refine sB_f (e5_r hr0) ?_
              refine sB_f (by rfl) ?_
              refine hK_64 _ _ ⟨(Ch.refl [] s_54), ?_⟩
              exact rfl
          ·
            try (rw [tk_tk] at hVz)
            try subst hVz
            try (have hr0 : roomB Bcall1 Ncall1 A Gcall1 = 0 := roomB_full (by omega) _ hfl)
            try (rw [← Int.natCast_mul, ← Int.natCast_add] at hx2)
            try subst hx2
            try (have hr1 : 1 ≤ roomB Bcall1 Ncall1 A Gcall1 := roomB_pos (by omega) hi2 hi2B hb2 _ hn2)
            try (rw [tk_tk] at hch)
            try (have h32 := hA.l32 n2 hn2)
            try (have hA3 : AS Gcall1 Bcall1 Vcall3 (updA A n2 (withB (A n2).2 i2 true)) := (hA.tk _).up (by omega) hn2 (by omega) hch)
            try (have hnV := hch.n)
            try (have hnV1 := ticks_le (V.tk ((Gcall1 : Int) + (kt : Int))) (hB n2 Bcall1))
            try (rw [tk_n] at hnV1)
            try (have hlaV := hch.last)
            try (rw [tk_last] at hlaV)
            try (have hb3 : hasB ((updA A n2 (withB (A n2).2 i2 true)) n2).2 i2 = true := by rw [updA_same]; show hasB (withB (A n2).2 i2 true) i2 = true; rw [hasB_with (by omega), if_pos rfl])
            try (have hrb : roomB Bcall1 Ncall1 (updA A n2 (withB (A n2).2 i2 true)) Gcall1 = roomB Bcall1 Ncall1 A Gcall1 - 1 := roomB_upd (frN_with (by omega) hi2 hi2B hb2) _ hn2)
            try (have hri : roomI Ncall1 (updA A n2 (withB (A n2).2 i2 true)) Gcall1 = roomI Ncall1 A Gcall1 := roomI_upd _)
            refine dT3 ?_
            refine dInt_i ?_
            refine dInt_i ?_
            refine dInt_i ?_
            refine jn1 (fun fv s' => Ch [] s_54 s' ∧ (fv = .bool false)) ?_ ?_
            ·
              rintro fv s_65 ⟨c_66, rfl⟩
              have z_67 := c_66.size
              intro _
              intros
              refine dBl_i ?_
              refine sB_f (by rfl) ?_
              refine sB_f (by rfl) ?_
              refine nz_i ?_
              have h_68 := h_53.ch (c_57.app c_66) (by simp <;> omega)
              refine ld_t h_68 rfl ?_
              refine dPtr_i ?_
              have h_69 := h_52.ch (c_57.app c_66) (by simp <;> omega)
              refine ld_t h_69 rfl ?_
              refine ld_t h_69 rfl ?_
              refine ld_t h_69 rfl ?_
              have h_70 := call3a.mv c_66 (rngn50 (by simp))
              refine tcall (c_hasblk vpcall1 dcall1 U Vcall3 Gcall1 Bcall1 Ncall1 n2 i2 (updA A n2 (withB (A n2).2 i2 true)) _ h_70 hU hg (by omega) (by omega) hA3 hn2 hi2 hi2B) ?_
              rintro v_72 s_71 ⟨rfl, c_74, call4a⟩
              have z_75 := c_74.size
              rw [hb3]
              refine dT2 ?_
              refine dBl_i ?_
              refine dInt_i ?_
              refine nz_i ?_
              have h_76 := h_68.ch c_74 (by simp <;> omega)
              refine ld_t h_76 rfl ?_
              refine dPtr_i ?_
              have h_77 := h_69.ch c_74 (by simp <;> omega)
              refine ld_t h_77 rfl ?_
              refine ld_t h_77 rfl ?_
              refine ld_t h_77 rfl ?_
              refine tcall (c_room vpcall1 dcall1 U Vcall3.tick Gcall1 Bcall1 Ncall1 (updA A n2 (withB (A n2).2 i2 true)) _ call4a hU hg (by show Vcall3.n + 1 < _; omega) (by show Vcall3.P.last < _; omega) (hA3.tk 1)) ?_
              rintro v_79 s_78 ⟨rfl, c_81, call5a⟩
              have z_82 := c_81.size
              rw [hrb, hri]
              have hr2 := roomB_rng (B := Bcall1) (N := Ncall1) (by omega) A Gcall1
              have hmb : Gcall1 * Bcall1 ≤ 8 * 256 := Nat.mul_le_mul (by omega) (by omega)
              rw [← Int.natCast_mul] at hr2
              refine dT3 ?_
              refine dInt_i ?_
              refine dInt_i ?_
              refine dInt_i ?_
              refine jn1 (fun fv s' => Ch [] s_78 s' ∧ (fv = .bool false)) ?_ ?_
              ·
                rintro fv s_83 ⟨c_84, rfl⟩
                have z_85 := c_84.size
                intro _
                intros
                refine dBl_i ?_
                refine sB_f (by rfl) ?_
                have h_86 := hm.ch ((((((((((c_29.app c_32).app c_35).app c_38).app c_41).app c_49).app c_57).app c_66).app c_74).app c_81).app c_84) (by simp <;> omega)
                refine upd_t keyI u99 h_86 (↑(n2 * Bcall1 + i2) : Int) (Value.bool true) fun s_87 m_88 c_89o z_90 => ?_
                have c_89 : Ch [M + 2] s_83 s_87 := Chg.mono c_89o fun j _ e => by subst e; rw [h_86.tag]; simp
                intro _
                intros
                refine wr_t (by omega) ?_
                refine ⟨⟨s_87, rfl, _, rfl, ((((((((((((((Ch.refl [U, U + 3, U + 20, U + 21, U + 22, U + 23, U + 30, U + 32, M + 2, M + 9] s20).ch c_25 (by simp)).ch c_29 (by simp)).ch c_32 (by simp)).ch c_35 (by simp)).ch c_38 (by simp)).ch c_41 (by simp)).ch c_49 (by simp)).ch c_57 (by simp)).ch c_66 (by simp)).ch c_74 (by simp)).ch c_81 (by simp)).ch c_84 (by simp)).ch c_89 (by simp)), ?_⟩, ?_⟩
                ·
                  have h_91 := call5a.mv (c_84.app c_89) (rngn50 (by simp <;> omega))
                  exact ⟨kk + 1, _, _, _, by omega, by omega, by omega, h_91, (hA3.tk 1).tk _, by show Vcall3.P.last ≤ _; omega, by show Vcall3.n + 1 + _ ≤ _; omega, hG.put h32 (by omega) hn2 hi2 hi2B, m_88⟩
                ·
                  simp only []; omega
              ·
                intro K_92 hK_92
                refine sB_f (by rfl) ?_
                refine sB_f (by rfl) ?_
                refine sB_f (by rfl) ?_
                refine wr_t (by omega) ?_
                refine sB_f (by simp) ?_
                refine hK_92 _ _ ⟨(Ch.refl [] s_78), ?_⟩
                exact congrArg Value.bool (by simp)
            ·
              intro K_93 hK_93
              refine sB_f (e0_r hr1) ?_
              refine sB_t (by rfl) ?_
              have h_94 := hm.ch ((((((c_29.app c_32).app c_35).app c_38).app c_41).app c_49).app c_57) (by simp <;> omega)
              refine look_n keyI u99 z4 h_94 _ (hG.new hi2B hb2) ?_
              refine dBl_i ?_
              refine hK_93 _ _ ⟨(Ch.refl [] s_54), ?_⟩
              exact rfl
        ·
          refine nz_i ?_
          have h_95 := h_43.ch c_49 (by simp <;> omega)
          refine ld_t h_95 rfl ?_
          refine dPtr_i ?_
          refine tcall (c_VBlocks2 _ _ _ _ _ (by omega) call2a) ?_
          rintro v_97 s_96 ⟨rfl, c_99, call6a⟩
          have z_100 := c_99.size
          have hlt : (V.tk (Gcall1 : Int)).D.blocks.length = V.D.blocks.length := rfl
          refine dInt_i ?_
          refine ⟨fun vs H' => ∃ s' : TH, s'.h = H' ∧ ∃ low j1_, vs = [.int .i64 low, .int .i64 j1_] ∧ Ch [] s_96 s' ∧ (∃ kq : Nat, j1_ = kq ∧ kq ≤ V.D.blocks.length ∧ (low = -1 ∨ ∃ lv, mget low mk = some lv)), fun vs H' => match vs with | [.int .i64 low, .int .i64 j1_] => ((V.D.blocks.length : Int) - j1_).toNat | _ => 0, ⟨s_96, rfl, _, _, rfl, Ch.refl _ _, ?_⟩, ?_⟩
          ·
            exact ⟨0, rfl, by omega, .inl rfl⟩
          ·
            intro low j1_ _ _ _ _ _ _ _ _ _ _ _ _ H_ hI_102
            obtain ⟨s_101, rfl, low_, j1__, hvs, c_103, kq, rfl, hkq, hlow⟩ := hI_102
            cases hvs
            have z_104 := c_103.size
            refine sB_d (fun hsB19 => ?_) (fun hsB19 => ?_)
            ·
              refine jn_u ?_
              refine jn_u ?_
              rcases hpm : mget (kq : Int) mk with _ | pv
              ·
                have h_105 := hm.ch (((((((c_29.app c_32).app c_35).app c_38).app c_41).app c_49).app c_99).app c_103) (by simp <;> omega)
                refine look_n keyI u99 z4 h_105 (kq : Int) hpm ?_
                refine dBl_i ?_
                refine sB_f (by rfl) ?_
                intro _
                intros
                refine dBl_i ?_
                refine sB_f (by rfl) ?_
                intro _
                intros
                refine dInt_i ?_
                refine wr_t (by omega) ?_
                refine ⟨⟨s_101, rfl, _, _, rfl, ((Ch.refl [] s_96).ch c_103 (by simp)), ?_⟩, ?_⟩
                ·
                  exact ⟨kq + 1, by omega, by omega, hlow⟩
                ·
                  simp only []; omega
              ·
                obtain ⟨rfl, _⟩ := hG.at_ _ _ hpm
                have h_106 := hm.ch (((((((c_29.app c_32).app c_35).app c_38).app c_41).app c_49).app c_99).app c_103) (by simp <;> omega)
                refine look_s keyI u99 z4 h_106 (kq : Int) hpm ?_
                refine dBl_i ?_
                refine sB_t (by rfl) ?_
                intro _
                intros
                refine dBl_i ?_
                refine sB_d (fun hsB23 => ?_) (fun hsB23 => ?_)
                ·
                  intro _
                  intros
                  refine dInt_i ?_
                  refine wr_t (by omega) ?_
                  refine ⟨⟨s_101, rfl, _, _, rfl, ((Ch.refl [] s_96).ch c_103 (by simp)), ?_⟩, ?_⟩
                  ·
                    exact ⟨kq + 1, by omega, by omega, .inr ⟨_, hpm⟩⟩
                  ·
                    simp only []; omega
                ·
                  intro _
                  intros
                  refine dInt_i ?_
                  refine wr_t (by omega) ?_
                  refine ⟨⟨s_101, rfl, _, _, rfl, ((Ch.refl [] s_96).ch c_103 (by simp)), ?_⟩, ?_⟩
                  ·
                    exact ⟨kq + 1, by omega, by omega, hlow⟩
                  ·
                    simp only []; omega
            ·
              refine sB_d (fun hsB24 => ?_) (fun hsB24 => ?_)
              ·
                intro _
                intros
                refine wr_t (by omega) ?_
                refine ⟨⟨s_101, rfl, _, rfl, ((((((((((Ch.refl [U, U + 3, U + 20, U + 21, U + 22, U + 23, U + 30, U + 32, M + 2, M + 9] s20).ch c_25 (by simp)).ch c_29 (by simp)).ch c_32 (by simp)).ch c_35 (by simp)).ch c_38 (by simp)).ch c_41 (by simp)).ch c_49 (by simp)).ch c_99 (by simp)).ch c_103 (by simp)), ?_⟩, ?_⟩
                ·
                  have h_107 := call6a.mv c_103 (rngn50 (by simp))
                  have h_108 := hm.ch (((((((c_29.app c_32).app c_35).app c_38).app c_41).app c_49).app c_99).app c_103) (by simp <;> omega)
                  exact ⟨kk + 1, _, A, mk, by omega, by omega, by omega, h_107, hA.tk _, by show V.P.last ≤ _; omega, by show V.n + _ ≤ _; omega, hG, h_108⟩
                ·
                  simp only []; omega
              ·
                refine nz_i ?_
                have h_109 := h_95.ch (c_99.app c_103) (by simp <;> omega)
                refine ld_t h_109 rfl ?_
                refine dPtr_i ?_
                have h_110 := h_52.ch (c_99.app c_103) (by simp <;> omega)
                refine ld_t h_110 rfl ?_
                refine ld_t h_110 rfl ?_
                refine ld_t h_110 rfl ?_
                obtain ⟨lv, hlv⟩ := hlow.resolve_left (by omega)
                obtain ⟨rfl, nf, jf, hnf, hjf, hjfB, rfl, hbf⟩ := hG.at_ _ _ hlv
                have h32f := hA.l32 nf hnf
                have h_111 := call6a.mv c_103 (rngn50 (by simp))
                refine tcall (c_freeOk vpcall1 dcall1 U (V.tk Gcall1) Gcall1 Bcall1 Ncall1 nf jf A _ h_111 hU hg (by show V.n + _ < _; omega) (by show V.P.last < _; omega) (hA.tk _) hnf hjf hjfB hbf) ?_
                rintro v_113 s_112 ⟨Vcall7, xcall7, rfl, c_115, call7a, call7b⟩
                have z_116 := c_115.size
                rw [tk_tick] at call7b
                have hA6 : AS Gcall1 Bcall1 Vcall7 (updA A nf (withB (A nf).2 jf false)) := (hA.tk _).up (by omega) hnf (by omega) call7b
                have hnV := call7b.n
                have hnV1 := ticks_le (V.tk ((Gcall1 : Int) + 1)) (hB nf Bcall1)
                rw [tk_n] at hnV1
                have hlaV := call7b.last
                rw [tk_last] at hlaV
                have hb6 : hasB ((updA A nf (withB (A nf).2 jf false)) nf).2 jf = false := by rw [updA_same]; show hasB (withB (A nf).2 jf false) jf = false; rw [hasB_with (by omega), if_pos rfl]
                refine dT2 ?_
                refine dInt_i ?_
                refine dInt_i ?_
                refine sB_f (by rfl) ?_
                refine nz_i ?_
                have h_117 := h_109.ch c_115 (by simp <;> omega)
                refine ld_t h_117 rfl ?_
                refine dPtr_i ?_
                have h_118 := h_110.ch c_115 (by simp <;> omega)
                refine ld_t h_118 rfl ?_
                refine ld_t h_118 rfl ?_
                refine ld_t h_118 rfl ?_
                refine tcall (c_freeNo vpcall1 dcall1 U Vcall7 Gcall1 Bcall1 Ncall1 nf jf (updA A nf (withB (A nf).2 jf false)) _ call7a hU hg (by omega) (by omega) hA6 hnf hjf hjfB hb6) ?_
                rintro v_120 s_119 ⟨xcall8, rfl, c_122, call8a⟩
                have z_123 := c_122.size
                refine dT2 ?_
                refine dInt_i ?_
                refine dInt_i ?_
                refine sB_f (by rfl) ?_
                have h_124 := hm.ch (((((((((c_29.app c_32).app c_35).app c_38).app c_41).app c_49).app c_99).app c_103).app c_115).app c_122) (by simp <;> omega)
                refine del_t keyI u99 h_124 (↑(nf * Bcall1 + jf) : Int) fun s_125 m_126 c_127o z_128 => ?_
                have c_127 : Ch [M + 2] s_119 s_125 := Chg.mono c_127o fun j _ e => by subst e; rw [h_124.tag]; simp
                intro _
                intros
                refine wr_t (by omega) ?_
                refine ⟨⟨s_125, rfl, _, rfl, (((((((((((((Ch.refl [U, U + 3, U + 20, U + 21, U + 22, U + 23, U + 30, U + 32, M + 2, M + 9] s20).ch c_25 (by simp)).ch c_29 (by simp)).ch c_32 (by simp)).ch c_35 (by simp)).ch c_38 (by simp)).ch c_41 (by simp)).ch c_49 (by simp)).ch c_99 (by simp)).ch c_103 (by simp)).ch c_115 (by simp)).ch c_122 (by simp)).ch c_127 (by simp)), ?_⟩, ?_⟩
                ·
                  have h_129 := call8a.mv c_127 (rngn50 (by simp <;> omega))
                  exact ⟨kk + 1, _, _, _, by omega, by omega, by omega, h_129, hA6.tk 1, by show Vcall7.P.last ≤ _; omega, by show Vcall7.n + 1 ≤ _; omega, hG.del hm.nd h32f (by omega) hjfB, m_126⟩
                ·
                  simp only []; omega
    ·
      intro _
      intros
      refine ret_t ?_
      exact ⟨rfl, ((((((((Ch.refl [U, U + 3, U + 11, U + 20, U + 21, U + 22, U + 23, U + 30, U + 32] s).ch c_2 (by simp)).ch c_7 (by simp)).fr c_10 hM (by simp)).fr c_14 hM (by simp)).fr c_17 hM (by simp)).ch c_20 (by simp)).fr c_25 hM (by simp))⟩
end Go.Proofs.YtngploohhmfaiaaGreat.E
/- Law 11's arguments. -/
namespace Go.Proofs.YtngploohhmfaiaaGreat.E
open Go Go.WideShapes
set_option linter.unusedVariables false
set_option maxRecDepth 100000 in
theorem rdw_do11 {H : Type} {enc : TypeId × Value → H} {W : World} {row : List Value} (h : Rdw enc Tryz.prog W 105 row) : ∃ x : DoA, row = do11 x := by
  obtain ⟨hl, hf⟩ := rdw_struct Tryz.underlying105 h
  have hc : Tryz.prog.cellsOf 105 = 4 := by kernel_rfl
  have c3 : Tryz.prog.cellsOf 3 = 1 := by kernel_rfl
  have cb : Tryz.prog.cellsOf 4 = 1 := by kernel_rfl
  have ci : Tryz.prog.cellsOf 73 = 1 := by kernel_rfl
  rw [hc] at hl
  match row, hl with
  | [v0, v1, v2, v3], _ =>
    have h0 : Rdw enc Tryz.prog W 3 (([v0, v1, v2, v3].drop 0).take (Tryz.prog.cellsOf 3)) := hf 0 _ rfl
    have h1 : Rdw enc Tryz.prog W 3 (([v0, v1, v2, v3].drop 1).take (Tryz.prog.cellsOf 3)) := hf 1 _ rfl
    have h2 : Rdw enc Tryz.prog W 4 (([v0, v1, v2, v3].drop 2).take (Tryz.prog.cellsOf 4)) := hf 2 _ rfl
    have h3 : Rdw enc Tryz.prog W 73 (([v0, v1, v2, v3].drop 3).take (Tryz.prog.cellsOf 73)) := hf 3 _ rfl
    rw [c3] at h0 h1
    rw [cb] at h2
    rw [ci] at h3
    obtain ⟨x0, e0, _⟩ := rd_int Tryz.underlying3 h0.rd
    obtain ⟨x1, e1, _⟩ := rd_int Tryz.underlying3 h1.rd
    obtain ⟨x2, e2⟩ := rd_bool Tryz.underlying4 h2.rd
    obtain ⟨na, nn, nc, ns, e3, _⟩ := rd_ints Tryz.underlying73 Tryz.underlying3 h3.rd
    simp at e0 e1 e2 e3
    subst e0 e1 e2 e3
    exact ⟨⟨x0, x1, x2, na, nn, nc⟩, rfl⟩
theorem rdw_do11s {H : Type} {enc : TypeId × Value → H} {W : World} : ∀ {rows : List (List Value)}, (∀ r ∈ rows, r.length = Tryz.prog.cellsOf 105 ∧ Rdw enc Tryz.prog W 105 r) → ∃ ls : List DoA, ls.length = rows.length ∧ rows.flatten = ls.flatMap do11
  | [], _ => ⟨[], rfl, rfl⟩
  | r :: rows, h => by
    obtain ⟨ls, h1, h2⟩ := rdw_do11s (rows := rows) fun r' h' => h r' (List.mem_cons_of_mem _ h')
    obtain ⟨x, rfl⟩ := rdw_do11 (h r (by simp)).2
    exact ⟨x :: ls, by simp [h1], by simp [h2]⟩
end Go.Proofs.YtngploohhmfaiaaGreat.E
/- The closed facts of a row, one by one. -/
namespace Go.Proofs.YtngploohhmfaiaaGreat.E
open Go
def kindsOf (P : Program) (fn : Func) (c : OpenClaim) : List (Option IntKind) := if c.domain.isEmpty then [] else fn.params.toList.map fun t => match P.underlying t with | some (.int k) => some k | _ => none
theorem andb {a b : Bool} (h : a = true) (k : b = true) : (a && b) = true := by rw [h, k]; rfl
theorem joined_of {P : Program} {f : FuncId} {fn : Func} {s : ChangeSpec} {c : OpenClaim}
    (j0 : (c.wf (OpenSpec.ofChange s)) = true)
    (j1 : (laidOutB P) = true)
    (j2 : (mapsRowed P) = true)
    (j3 : (fn.params.all (P.readableRec ·)) = true)
    (j4 : (namedTie P c.named s.vars) = true)
    (j5 : ((c.stops == [])) = true)
    (j6 : ((P.stops == [])) = true)
    (j7 : ((c.knobs == [])) = true)
    (j8 : ((P.stopKnobs == [])) = true)
    (j9 : ((c.inPlace == P.inPlace f)) = true)
    (j10 : ((c.unfollowed == P.unfollowed f)) = true)
    (j11 : ((c.recurses == P.recurses f)) = true)
    (j12 : ((c.named == P.varsNamed f)) = true)
    (j13 : ((c.maps == (fn.params.toList ++ s.plain.varTypes P).any (P.mapsRec ·))) = true)
    (j14 : ((c.ifaces == (fn.params.toList ++ s.plain.varTypes P).any (P.ifacesRec ·))) = true)
    (j15 : ((c.mapsOut == P.mapsAmong fn.resultTypes.toList)) = true)
    (j16 : ((c.loops == (fn.params.toList ++ s.plain.varTypes P).any (P.loopsFrom ·))) = true)
    (j17 : ((c.wideKeys == (fn.params.toList ++ s.plain.varTypes P ++ fn.resultTypes.toList).any (P.wideKeysFrom ·))) = true)
    (j18 : (s.vars.all (P.varReadable ·)) = true)
    (j19 : (fn.resultTypes.all (fun t => P.readableRec t && decide (t < P.types.size))) = true)
    (j20 : ((c.ifacesOut == fn.resultTypes.toList.any (P.ifacesRec ·))) = true)
    (j21 : ((c.loopsOut == fn.resultTypes.toList.any (P.loopsFrom ·))) = true)
    (j22 : ((c.plainKeys == P.plainKeys)) = true)
    (j23 : (c.shortTexts.isNone) = true)
    (j24 : (P.stopsHeard) = true)
    (j25 : (P.mayEnter) = true)
    (j26 : ((c.lifted == P.liftsFinal)) = true)
    (j27 : ((P.make == some c.make)) = true)
    (j28 : ((c.kinds == kindsOf P fn c)) = true)
    (j29 : ((c.pinned == c.pinnedBy)) = true)
    (j30 : ((c.veiled == (fn.params.toList ++ s.plain.varTypes P ++ fn.resultTypes.toList).any (P.veiledRec ·))) = true)
    (j31 : (c.veiledFits P fn.params.toList (fn.params.toList ++ s.plain.varTypes P ++ fn.resultTypes.toList)) = true)
    : joinedFacts P f fn s c = true := by
  unfold joinedFacts
  exact (andb (andb (andb (andb (andb (andb (andb (andb (andb (andb (andb (andb (andb (andb (andb (andb (andb (andb (andb (andb (andb (andb (andb (andb (andb (andb (andb (andb (andb (andb (andb j0 j1) j2) j3) j4) j5) j6) j7) j8) j9) j10) j11) j12) j13) j14) j15) j16) j17) j18) j19) j20) j21) j22) j23) j24) j25) j26) j27) j28) j29) j30) j31)
end Go.Proofs.YtngploohhmfaiaaGreat.E
