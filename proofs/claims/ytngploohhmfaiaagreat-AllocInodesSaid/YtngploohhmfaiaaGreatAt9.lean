/- My own texts, joined. -/
import Derived.KernelRfl
import Derived.Laws.StructEq
import Derived.Test.YtngploohhmfaiaaGreatProg
import Derived.Test.YtngploohhmfaiaaGreatAt8
/- Contracts of functions. -/
namespace Go.Proofs.YtngploohhmfaiaaGreat.E
open Go Go.Proofs
set_option linter.unusedVariables false
set_option linter.unusedSimpArgs false
theorem bvs_set (l : List UInt8) (i : Nat) (b : UInt8) : (bvs l).set i (.int .u8 (b.toNat : Int)) = bvs (l.set i b) := by unfold bvs; rw [List.map_set]; rfl
/-- a number's bytes written at a place -/
def wrL (l : List UInt8) (p : Nat) : Nat → Nat → List UInt8
  | 0, _ => l
  | k + 1, n => (wrL l p k n).set (p + k) (UInt8.ofNat (n / 256 ^ k % 256))
theorem wrL_len (l : List UInt8) (p k n : Nat) : (wrL l p k n).length = l.length := by
  induction k with
  | zero => rfl
  | succ k ih => rw [wrL, List.length_set, ih]
theorem u8q (q : Nat) : IntKind.u8.wrap ((q % 256 : Nat) : Int) = ((UInt8.ofNat (q % 256)).toNat : Int) := by
  have e : IntKind.u8.wrap ((q % 256 : Nat) : Int) = ((q % 256 : Nat) : Int) % 256 := rfl
  have e2 : (UInt8.ofNat (q % 256)).toNat = (q % 256) % 256 := rfl
  rw [e, e2]; omega
theorem tm256 (q : Nat) : Int.tmod (q : Int) 256 = ((q % 256 : Nat) : Int) := by
  rw [Int.tmod_eq_emod_of_nonneg (by omega)]; omega
theorem td256 (n k : Nat) : Int.tdiv ((n / 256 ^ k : Nat) : Int) 256 = ((n / 256 ^ (k + 1) : Nat) : Int) := by
  rw [Int.tdiv_eq_ediv_of_nonneg (Int.natCast_nonneg _), Nat.pow_succ, ← Nat.div_div_eq_div_mul]
  generalize n / 256 ^ k = q
  omega
theorem pow_w (w : Nat) (h : 1 ≤ w ∧ w ≤ 4) : IntKind.i64.wrap (1 * 2 ^ min (Int.toNat (8 * (w : Int))) 64) = ((256 ^ w : Nat) : Int) ∧ 256 ^ w ≤ 4294967296 := by
  rcases (by omega : w = 1 ∨ w = 2 ∨ w = 3 ∨ w = 4) with rfl | rfl | rfl | rfl <;> exact ⟨by decide, by decide⟩
/-- the check sum -/
def sumS (l : List UInt8) : Nat × Nat := l.foldl (fun z b => ((z.1 + b.toNat) % 65521, (z.2 + (z.1 + b.toNat) % 65521) % 65521)) (1, 0)
def sumN (l : List UInt8) : Nat := (sumS l).2 * 65536 + (sumS l).1
theorem sumS_snoc (l : List UInt8) (b : UInt8) : sumS (l ++ [b]) = (((sumS l).1 + b.toNat) % 65521, ((sumS l).2 + ((sumS l).1 + b.toNat) % 65521) % 65521) := by unfold sumS; rw [List.foldl_append]; rfl
theorem sumS_lt (l : List UInt8) : (sumS l).1 < 65521 ∧ (sumS l).2 < 65521 := by
  rcases List.eq_nil_or_concat l with rfl | ⟨m, b, rfl⟩
  · exact ⟨by decide, by decide⟩
  · rw [List.concat_eq_append, sumS_snoc]; exact ⟨Nat.mod_lt _ (by decide), Nat.mod_lt _ (by decide)⟩
theorem bvs_get {l : List UInt8} {k : Nat} {b : UInt8} (h : l[k]? = some b) : (bvs l)[k]? = some (.int .u8 (b.toNat : Int)) := by unfold bvs; rw [List.getElem?_map, h]; rfl
/-- bollard/bollardref01.Put -/
theorem c_rput (τ : Nat) {xa : Option Addr} {xn : Nat} (xc : Nat) {l : List UInt8} {τx : Nat} {s : TH} (hx : Sl s xa (bvs l) τx) (hn : l.length = xn) (h0 : xa = none → xn = 0) (hb : xn ≤ 1000000000) (p w n : Nat) (hw : 1 ≤ w ∧ w ≤ 4) (hp : p + w ≤ xn) (hN : n < 256 ^ w) : TRet Tryz.prog 226 #[.slice xa xn xc, .int .i64 (p : Int), .int .i64 (w : Int), .int .i64 (n : Int)] s fun v s' => ∃ a' c', v = .tuple #[.slice a' xn c', .int .i64 0] ∧ Ch [τ] s s' ∧ Own s' a' xn c' 5 1 (bvs (wrL l p w n)) τ := by
  obtain ⟨M, hM⟩ : ∃ M : Nat, M = 256 ^ w := ⟨_, rfl⟩
  have hpw := pow_w w hw
  rw [← hM] at hN hpw
  refine F226_calls _ _ _ _ _ _  ?_
  unfold F226
  refine jn_u ?_
  refine sB_d (fun hsB1 => by exfalso; omega) (fun hsB1 => ?_)
  refine sB_d (fun hsB2 => by exfalso; omega) (fun hsB2 => ?_)
  refine sB_d (fun hsB3 => by exfalso; omega) (fun hsB3 => ?_)
  refine sB_d (fun hsB4 => by exfalso; omega) (fun hsB4 => ?_)
  refine wr_t (by omega) ?_
  refine ask_t (by omega) ?_
  refine nm_a fun n63 hn63 => ?_
  rw [hpw.1] at hn63
  intro _ _ _ _ _ _ _ _ _ _ _ _ _ _ _ _ _ _ _ _
  refine dBl_i ?_
  refine sB_d (fun hsB5 => by exfalso; omega) (fun hsB5 => ?_)
  refine wr_t (by omega) ?_
  refine sB_d (fun hsB6 => by exfalso; omega) (fun hsB6 => ?_)
  refine al_t τ fun r25 s26 hr25 b_1 c_2 z_3 => ?_
  have x_4 := hx.mv c_2 (tagn (by simp))
  refine app_i u38 in5 rfl (b_1.own0 1) x_4 (by rw [bvs_len]; omega) (bvs_one l) h0 (by unfold maxLen; omega) fun s30 a1 c1 o_7 c_50 hnil => ?_
  have c_5 := c_50.toL rfl
  have z_6 := c_5.size
  rw [Nat.zero_add, List.nil_append] at o_7
  simp only [Nat.zero_add]
  refine dSl_i ?_
  refine ⟨fun vs H' => ∃ s' : TH, s'.h = H' ∧ ∃ m j, vs = [.int .i64 m, .int .i64 j] ∧ ChL [τ] [] s30 s' ∧ (∃ k : Nat, j = k ∧ k ≤ w ∧ m = ((n / 256 ^ k : Nat) : Int) ∧ Own s' a1 xn c1 5 1 (bvs (wrL l p k n)) τ), fun vs H' => match vs with | [.int .i64 m, .int .i64 j] => ((w : Int) - j).toNat | _ => 0, ⟨s30, rfl, _, _, rfl, ChL.refl _ _ _, ?_⟩, ?_⟩
  ·
    exact ⟨0, rfl, by omega, by simp, o_7⟩
  ·
    intro m j _ _ _ _ _ _ _ _ _ _ _ _ _ _ H52 hI
    obtain ⟨s52, rfl, m_, j_, hvs, c_8, k, rfl, hk, rfl, o_10⟩ := hI
    cases hvs
    have z_9 := c_8.size
    refine sB_d (fun hsB7 => ?_) (fun hsB7 => ?_)
    ·
      refine wr_t (by omega) ?_
      refine ask_t (by omega) ?_
      rw [tm256]
      refine nm_a fun n55 hn55 => ?_
      subst hn55
      refine wr_a fun n56 hn56 => ?_
      rw [u8q] at hn56
      subst hn56
      obtain ⟨ad, rfl⟩ := Own.ne_none o_10 (by omega)
      refine nz_i ?_
      refine ask_t (by omega) ?_
      refine Own.st o_10 rfl (by omega) fun s58 b_11 c_12 z_13 => ?_
      have c_14 := Ch.on_tag (T := [τ]) (Ch.refl _ _) c_12 o_10.tagOf (by simp)
      refine ask_t (by omega) ?_
      have hle : n / 256 ^ (k + 1) ≤ n := Nat.div_le_self _ _
      obtain ⟨q, hq⟩ : ∃ q, q = n / 256 ^ (k + 1) := ⟨_, rfl⟩
      rw [td256, ← hq]
      rw [← hq] at hle
      refine wr_t (by omega) ?_
      refine wr_t (by omega) ?_
      refine ⟨⟨s58, rfl, _, _, rfl, (((ChL.refl [τ] [] s30).chl c_8 (by simp) (by simp <;> omega)).ch c_14 (by simp)), ?_⟩, ?_⟩
      ·
        have ho := b_11
        rw [show Int.toNat ((p : Int) + (k : Int)) * 1 = p + k by omega, bvs_set] at ho
        exact ⟨k + 1, by omega, by omega, by rw [hq], ho⟩
      ·
        simp only []; omega
    ·
      refine ret_t ?_
      obtain rfl : k = w := by omega
      exact ⟨a1, c1, rfl, ((((Ch.refl [τ] s).ch c_2 (by simp)).chl c_5 (by simp) (by simp <;> omega)).chl c_8 (by simp) (by simp <;> omega)), o_10⟩
/-- bollard/bollardref03.number -/
theorem c_rnum (τ : Nat) {xa : Option Addr} {xn : Nat} (xc : Nat) {l : List UInt8} {τx : Nat} {s : TH} (hx : Sl s xa (bvs l) τx) (hn : l.length = xn) (h0 : xa = none → xn = 0) (hb : xn ≤ 1000000000) (p w n : Nat) (hw : 1 ≤ w ∧ w ≤ 4) (hp : p + w ≤ xn) (hN : n < 256 ^ w) : TRet Tryz.prog 177 #[.slice xa xn xc, .int .i64 (p : Int), .int .i64 (w : Int), .int .i64 (n : Int)] s fun v s' => ∃ a' c', v = .slice a' xn c' ∧ Ch [τ] s s' ∧ Own s' a' xn c' 5 1 (bvs (wrL l p w n)) τ := by
  refine F177_calls _ _ _ _ _ _  ?_
  unfold F177
  refine tcall (c_rput τ xc hx hn h0 hb p w n hw hp hN) ?_
  rintro _ s2 ⟨a', c', rfl, c_1, o_3⟩
  have z_2 := c_1.size
  refine dT2 ?_
  refine dSl_i ?_
  refine dInt_i ?_
  refine ret_t ?_
  exact ⟨a', c', rfl, ((Ch.refl [τ] s).ch c_1 (by simp)), o_3⟩
/-- bollard/bollardref01.Sum -/
theorem c_rsum {xa : Option Addr} {xn : Nat} (xc : Nat) {l : List UInt8} {τx : Nat} {s : TH} (hx : Sl s xa (bvs l) τx) (hn : l.length = xn) (hb : xn ≤ 1000000000) : TRet Tryz.prog 227 #[.slice xa xn xc] s fun v s' => v = .int .i64 (sumN l : Int) ∧ Ch [] s s' := by
  refine F227_calls _ _ _  ?_
  unfold F227
  refine ⟨fun vs H' => ∃ s' : TH, s'.h = H' ∧ ∃ x1 y1 m, vs = [.int .i64 x1, .int .i64 y1, .int .i64 m] ∧ ChL [] [] s s' ∧ (∃ k : Nat, m = k ∧ k ≤ xn ∧ x1 = ((sumS (l.take k)).1 : Int) ∧ y1 = ((sumS (l.take k)).2 : Int)), fun vs H' => match vs with | [.int .i64 x1, .int .i64 y1, .int .i64 m] => ((xn : Int) - m).toNat | _ => 0, ⟨s, rfl, _, _, _, rfl, ChL.refl _ _ _, ?_⟩, ?_⟩
  ·
    exact ⟨0, rfl, by omega, rfl, rfl⟩
  ·
    intro x1 y1 m _ _ _ _ _ _ _ _ _ _ _ _ _ _ H20 hI
    obtain ⟨s20, rfl, x1_, y1_, m_, hvs, c_1, k, rfl, hk, rfl, rfl⟩ := hI
    cases hvs
    have z_2 := c_1.size
    refine sB_d (fun hsB1 => ?_) (fun hsB1 => ?_)
    ·
      have hk2 : k < xn := by omega
      obtain ⟨b, hbk⟩ : ∃ b, l[k]? = some b := ⟨l[k]'(by omega), by simp⟩
      obtain ⟨ad, rfl⟩ := hx.some (fun e => by have := bvs_get hbk; rw [e] at this; simp at this)
      have hlt := sumS_lt (l.take k)
      have hb8 := b.toNat_lt
      refine nz_i ?_
      refine ask_t (by omega) ?_
      have x_3 := hx.mv c_1 (tagL (by simp <;> omega) (by simp))
      refine ld_sl x_3 (by rw [Int.toNat_natCast, Nat.mul_one]; exact bvs_get hbk) ?_
      refine dInt_i ?_
      refine wr_t (by omega) ?_
      refine wr_t (by omega) ?_
      refine ask_t (by omega) ?_
      refine nm_a fun n27 hn27 => ?_
      rw [Int.tmod_eq_emod_of_nonneg (by omega)] at hn27
      refine wr_t (by omega) ?_
      refine ask_t (by omega) ?_
      refine nm_a fun n29 hn29 => ?_
      rw [Int.tmod_eq_emod_of_nonneg (by omega)] at hn29
      refine wr_t (by omega) ?_
      refine ⟨⟨s20, rfl, _, _, _, rfl, ((ChL.refl [] [] s).chl c_1 (by simp) (by simp <;> omega)), ?_⟩, ?_⟩
      ·
        have hs := sumS_snoc (l.take k) b
        rw [show l.take k ++ [b] = l.take (k + 1) by rw [List.take_add_one, hbk]; rfl] at hs
        exact ⟨k + 1, by omega, by omega, by rw [hs]; simp only []; omega, by rw [hs]; simp only []; omega⟩
      ·
        simp only []; omega
    ·
      have hlt := sumS_lt (l.take k)
      refine wr_t (by omega) ?_
      refine wr_t (by omega) ?_
      refine ret_t ?_
      obtain rfl : k = xn := by omega
      rw [List.take_of_length_le (by omega)]
      exact ⟨ret_i (by unfold sumN; omega), ((Ch.refl [] s).chl c_1 (by simp) (by simp <;> omega))⟩
theorem Sl.takeB {s : TH} {a : Option Addr} {l : List UInt8} {τ : Nat} (h : Sl s a (bvs l) τ) (k : Nat) : Sl s a (bvs (l.take k)) τ := by
  rcases h with h | ⟨g, o, h1, h2, h3, h4⟩
  · left
    have : l = [] := by simpa [bvs] using h
    subst this; simp [bvs]
  · refine .inr ⟨g, o, h1, h2, h3, fun j v hv => h4 j v ?_⟩
    unfold bvs at hv ⊢
    rw [List.map_take, List.getElem?_take] at hv
    split at hv
    · exact hv
    · cases hv
def sealL (l : List UInt8) : List UInt8 := wrL l (l.length - 4) 4 (sumN (l.take (l.length - 4)))
theorem sealL_len (l : List UInt8) : (sealL l).length = l.length := wrL_len _ _ _ _
theorem sumN_lt (l : List UInt8) : sumN l < 256 ^ 4 := by
  have := sumS_lt l
  unfold sumN
  omega
def superBase : List UInt8 := [98, 111, 108, 108] ++ List.replicate 124 0
def superL (g b n m : Nat) : List UInt8 := sealL (wrL (wrL (wrL (wrL superBase 4 1 g) 5 1 (b - 1)) 6 1 n) 8 4 m)
theorem superL_len (g b n m : Nat) : (superL g b n m).length = 128 := by unfold superL; rw [sealL_len, wrL_len, wrL_len, wrL_len, wrL_len]; rfl
def GeoOk (g b n : Nat) : Prop := 1 ≤ g ∧ g ≤ 8 ∧ 8 ≤ b ∧ b ≤ 256 ∧ 4 ≤ n ∧ n ≤ 64 ∧ n % 4 = 0 ∧ 3 + n / 4 ≤ b
/-- bollard/bollardref01.Seal -/
theorem c_rseal (τ : Nat) {xa : Option Addr} {xn : Nat} (xc : Nat) {l : List UInt8} {τx : Nat} {s : TH} (hx : Sl s xa (bvs l) τx) (hn : l.length = xn) (h0 : xa = none → xn = 0) (hb : xn ≤ 1000000000) (hc : xn ≤ xc) (h4 : 4 ≤ xn) : TRet Tryz.prog 178 #[.slice xa xn xc] s fun v s' => ∃ a' c', v = .tuple #[.slice a' xn c', .int .i64 0] ∧ Ch [τ] s s' ∧ Own s' a' xn c' 5 1 (bvs (sealL l)) τ := by
  refine F178_calls _ _ _  ?_
  unfold F178
  refine sB_d (fun hsB1 => by exfalso; omega) (fun hsB1 => ?_)
  refine wr_t (by omega) ?_
  rw [show ((xn : Int) - 4) = ((xn - 4 : Nat) : Int) by omega]
  refine wr_t (by omega) ?_
  refine ask_t (by omega) ?_
  simp only [slO_zero, Int.toNat_zero, Nat.sub_zero, Int.toNat_natCast]
  refine tcall (c_rsum (xn := xn - 4) xc (hx.takeB (xn - 4)) (by simp; omega) (by omega)) ?_
  rintro _ s4 ⟨rfl, c_1⟩
  have z_2 := c_1.size
  refine dInt_i ?_
  have x_3 := hx.mv c_1 (tagn (by simp))
  refine tcall (c_rput τ xc x_3 hn h0 hb (xn - 4) 4 (sumN (l.take (xn - 4))) (by omega) (by omega) (sumN_lt _)) ?_
  rintro _ s7 ⟨a', c', rfl, c_4, o_6⟩
  have z_5 := c_4.size
  refine dT2 ?_
  refine dSl_i ?_
  refine dInt_i ?_
  refine ret_t ?_
  exact ⟨a', c', rfl, (((Ch.refl [τ] s).ch c_1 (by simp)).ch c_4 (by simp)), by unfold sealL; rw [hn]; exact o_6⟩
/-- bollard/bollardref03.may -/
theorem c_rmay (g b n : Nat) {s : TH} (hv : GeoOk g b n) : TRet Tryz.prog 223 #[.agg #[.int .i64 (g : Int), .int .i64 (b : Int), .int .i64 (n : Int)]] s fun v s' => v = .bool true ∧ Ch [] s s' := by
  have hv2 := hv
  unfold GeoOk at hv2
  refine F223_calls _ _ _  ?_
  unfold F223
  refine al_t 0 fun r1 s2 hr1 b_1 c_2 z_3 => ?_
  refine ld_t b_1 rfl ?_
  refine dInt_i ?_
  refine sB_d (fun hsB1 => ?_) (fun hsB1 => by exfalso; omega)
  refine ld_t b_1 rfl ?_
  refine dInt_i ?_
  refine sB_d (fun hsB2 => ?_) (fun hsB2 => by exfalso; omega)
  refine ld_t b_1 rfl ?_
  refine dInt_i ?_
  refine sB_d (fun hsB3 => ?_) (fun hsB3 => by exfalso; omega)
  refine ld_t b_1 rfl ?_
  refine dInt_i ?_
  refine sB_d (fun hsB4 => ?_) (fun hsB4 => by exfalso; omega)
  refine ld_t b_1 rfl ?_
  refine dInt_i ?_
  refine sB_d (fun hsB5 => ?_) (fun hsB5 => by exfalso; omega)
  refine ld_t b_1 rfl ?_
  refine dInt_i ?_
  refine sB_d (fun hsB6 => ?_) (fun hsB6 => by exfalso; omega)
  refine ld_t b_1 rfl ?_
  refine dInt_i ?_
  refine ask_t (by omega) ?_
  refine nm_a fun n17 hn17 => ?_
  rw [Int.tmod_eq_emod_of_nonneg (by omega)] at hn17
  refine sB_eq (fun hsB7 => ?_) (fun hsB7 => by exfalso; omega)
  refine ld_t b_1 rfl ?_
  refine dInt_i ?_
  refine ld_t b_1 rfl ?_
  refine dInt_i ?_
  refine ask_t (by omega) ?_
  rw [Int.tdiv_eq_ediv_of_nonneg (by omega)]
  refine wr_t (by omega) ?_
  refine wr_t (by omega) ?_
  refine ret_t ?_
  exact ⟨ret_b (by simp; omega), ((Ch.refl [] s).ch c_2 (by simp))⟩
/-- bollard/bollardref03.EncodeSuper -/
theorem c_encSuper (τ : Nat) (g b n m : Nat) {s : TH} (hτ : τ ≠ 0) (hv : GeoOk g b n) (hm : m < 4294967296) : TRet Tryz.prog 173 #[.agg #[.int .i64 (g : Int), .int .i64 (b : Int), .int .i64 (n : Int), .int .i64 (m : Int)]] s fun v s' => ∃ a' c', v = .tuple #[.slice a' 128 c', .int .i64 0] ∧ Ch [τ] s s' ∧ Own s' a' 128 c' 5 1 (bvs (superL g b n m)) τ := by
  have hv2 := hv
  unfold GeoOk at hv2
  refine F173_calls _ _ _ _  ?_
  unfold F173
  refine al_t 0 fun r1 s2 hr1 b_1 c_2 z_3 => ?_
  refine jn_u ?_
  refine ld_t b_1 rfl ?_
  refine ld_t b_1 rfl ?_
  refine ld_t b_1 rfl ?_
  refine tcall (c_rmay g b n hv) ?_
  rintro _ s87 ⟨rfl, c_4⟩
  have z_5 := c_4.size
  refine dBl_i ?_
  refine sB_f (by rfl) ?_
  have r1_6 := b_1.ch c_4 (by simp)
  refine ld_t r1_6 rfl ?_
  refine dInt_i ?_
  refine sB_d (fun hsB2 => by exfalso; omega) (fun hsB2 => ?_)
  refine ld_t r1_6 rfl ?_
  refine dInt_i ?_
  intro _ _ _ _ _ _ _ _ _ _ _ _ _
  refine dBl_i ?_
  refine sB_d (fun hsB3 => by exfalso; omega) (fun hsB3 => ?_)
  refine al_t 0 fun r19 s20 hr19 b_7 c_8 z_9 => ?_
  refine conv_lit u38 u5 (show Blk _ _ (bvs [98, 111, 108, 108]) _ _ from b_7) rfl fun s24 lit_12 c_10 hsz => ?_
  have z_11 := c_10.size
  refine dSl_i ?_
  refine appz_g (m := 124) τ u38 u3 in5 lit_12 rfl (by omega) (by omega) fun s31 a2 c2 o_15 c_13 hne => ?_
  have z_14 := c_13.size
  refine dSl_i ?_
  have r1_16 := r1_6.ch c_8 (by simp)
  have r1_17 := r1_16.on c_10 (by omega)
  have r1_18 := r1_17.ch c_13 (by simp)
  refine ld_t r1_18 rfl ?_
  refine dInt_i ?_
  refine tcall (c_rnum τ _ o_15.sl (by simp [wrL_len, superBase]) o_15.none_iff (by omega) 4 1 g (by omega) (by omega) (by unfold GeoOk at hv; omega)) ?_
  rintro _ s38 ⟨acall2, ccall2, rfl, c_19, o_21⟩
  have z_20 := c_19.size
  refine dSl_i ?_
  have r1_22 := r1_18.ch c_19 (by intro h; simp only [List.mem_cons, List.not_mem_nil, or_false] at h <;> omega)
  refine ld_t r1_22 rfl ?_
  refine dInt_i ?_
  refine wr_t (by omega) ?_
  rw [show ((b : Int) - 1) = ((b - 1 : Nat) : Int) by omega]
  refine tcall (c_rnum τ _ o_21.sl (by simp [wrL_len, superBase]) o_21.none_iff (by omega) 5 1 (b - 1) (by omega) (by omega) (by unfold GeoOk at hv; omega)) ?_
  rintro _ s46 ⟨acall3, ccall3, rfl, c_23, o_25⟩
  have z_24 := c_23.size
  refine dSl_i ?_
  have r1_26 := r1_22.ch c_23 (by intro h; simp only [List.mem_cons, List.not_mem_nil, or_false] at h <;> omega)
  refine ld_t r1_26 rfl ?_
  refine dInt_i ?_
  refine tcall (c_rnum τ _ o_25.sl (by simp [wrL_len, superBase]) o_25.none_iff (by omega) 6 1 n (by omega) (by omega) (by unfold GeoOk at hv; omega)) ?_
  rintro _ s53 ⟨acall4, ccall4, rfl, c_27, o_29⟩
  have z_28 := c_27.size
  refine dSl_i ?_
  have r1_30 := r1_26.ch c_27 (by intro h; simp only [List.mem_cons, List.not_mem_nil, or_false] at h <;> omega)
  refine ld_t r1_30 rfl ?_
  refine dInt_i ?_
  refine tcall (c_rnum τ _ o_29.sl (by simp [wrL_len, superBase]) o_29.none_iff (by omega) 8 4 m (by omega) (by omega) (by omega)) ?_
  rintro _ s60 ⟨acall5, ccall5, rfl, c_31, o_33⟩
  have z_32 := c_31.size
  refine dSl_i ?_
  refine tcall (c_rseal τ _ o_33.sl (by simp [wrL_len, superBase]) o_33.none_iff (by omega) o_33.le (by omega)) ?_
  rintro _ s65 ⟨a6, c6, rfl, c_34, o_36⟩
  have z_35 := c_34.size
  refine dT2 ?_
  refine dSl_i ?_
  refine dInt_i ?_
  refine ret_t ?_
  exact ⟨a6, c6, rfl, (((((((((((Ch.refl [τ] s).ch c_2 (by simp)).ch c_4 (by simp)).ch c_8 (by simp)).on_new c_10 (by omega)).ch c_13 (by simp)).ch c_19 (by simp)).ch c_23 (by simp)).ch c_27 (by simp)).ch c_31 (by simp)).ch c_34 (by simp)), o_36⟩
end Go.Proofs.YtngploohhmfaiaaGreat.E
/- Contracts of functions. -/
namespace Go.Proofs.YtngploohhmfaiaaGreat.E
open Go Go.Proofs
set_option linter.unusedVariables false
set_option linter.unusedSimpArgs false
/-- a bit of a row -/
def hasB (l : List UInt8) (i : Nat) : Bool := ((l.getD (i / 8) 0).toNat / 2 ^ (i % 8)) % 2 == 1
def xorB (b : UInt8) (k : Nat) : UInt8 := UInt8.ofBitVec (b.toBitVec ^^^ BitVec.ofNat 8 (2 ^ k))
def setB (l : List UInt8) (i : Nat) : List UInt8 := if hasB l i = true then l else l.set (i / 8) (xorB (l.getD (i / 8) 0) (i % 8))
theorem setB_len (l : List UInt8) (i : Nat) : (setB l i).length = l.length := by unfold setB; split <;> simp
theorem td8 (i : Nat) : Int.tdiv (i : Int) 8 = ((i / 8 : Nat) : Int) := by rw [Int.tdiv_eq_ediv_of_nonneg (by omega)]; omega
theorem tm8 (i : Nat) : Int.tmod (i : Int) 8 = ((i % 8 : Nat) : Int) := by rw [Int.tmod_eq_emod_of_nonneg (by omega)]; omega
theorem shr8 (b k : Nat) (hk : k < 8) : Int.fdiv (b : Int) (2 ^ min (Int.toNat (k : Int)) 8) = ((b / 2 ^ k : Nat) : Int) := by
  rw [Int.toNat_natCast, Nat.min_eq_left (by omega), Int.fdiv_eq_ediv_of_nonneg _ (by exact Int.le_of_lt (Int.pow_pos (by omega)))]
  rw [Int.natCast_ediv, Int.natCast_pow]; rfl
theorem tm2 (q : Nat) : Int.tmod (q : Int) 2 = ((q % 2 : Nat) : Int) := by rw [Int.tmod_eq_emod_of_nonneg (by omega)]; omega
theorem shl8 (k : Nat) (hk : k < 8) : IntKind.u8.wrap (1 * 2 ^ min (Int.toNat (k : Int)) 8) = ((2 ^ k : Nat) : Int) := by
  rcases (by omega : k = 0 ∨ k = 1 ∨ k = 2 ∨ k = 3 ∨ k = 4 ∨ k = 5 ∨ k = 6 ∨ k = 7) with rfl | rfl | rfl | rfl | rfl | rfl | rfl | rfl <;> decide
theorem xor8 (b : UInt8) (k : Nat) : IntKind.u8.wrap (BitVec.toNat (BitVec.ofInt 8 (b.toNat : Int) ^^^ BitVec.ofInt 8 ((2 ^ k : Nat) : Int)) : Int) = ((xorB b k).toNat : Int) := by
  have e1 : BitVec.ofInt 8 (b.toNat : Int) = b.toBitVec := by
    rw [BitVec.ofInt_natCast]; simp
  have e2 : BitVec.ofInt 8 ((2 ^ k : Nat) : Int) = BitVec.ofNat 8 (2 ^ k) := BitVec.ofInt_natCast 8 (2 ^ k)
  rw [e1, e2]
  show (_ : Int) % 256 = _
  have := (b.toBitVec ^^^ BitVec.ofNat 8 (2 ^ k)).isLt
  unfold xorB
  show ((BitVec.toNat (b.toBitVec ^^^ BitVec.ofNat 8 (2 ^ k)) : Nat) : Int) % 256 = ((BitVec.toNat (b.toBitVec ^^^ BitVec.ofNat 8 (2 ^ k)) : Nat) : Int)
  omega
/-- bollard/bollardref05.Has -/
theorem c_rhasb {xa : Option Addr} {xn : Nat} (xc : Nat) {l : List UInt8} {τx : Nat} {s : TH} (hx : Sl s xa (bvs l) τx) (hn : l.length = xn) (i : Nat) (hi : i ≤ 100000000000) : TRet Tryz.prog 224 #[.slice xa xn xc, .int .i64 (i : Int)] s fun v s' => v = .bool (hasB l i) ∧ Ch [] s s' := by
  refine F224_calls _ _ _ _  ?_
  unfold F224
  refine sB_d (fun hsB1 => ?_) (fun hsB1 => by exfalso; omega)
  refine ask_t (by omega) ?_
  try rw [td8]
  refine wr_t (by omega) ?_
  refine sB_d (fun hsB2 => ?_) (fun hsB2 => ?_)
  ·
    refine ask_t (by omega) ?_
    try rw [td8]
    refine wr_t (by omega) ?_
    obtain ⟨b, hbk⟩ : ∃ b, l[i / 8]? = some b := ⟨l[i / 8]'(by omega), by simp⟩
    have hgd : l.getD (i / 8) 0 = b := by rw [List.getD_eq_getElem?_getD, hbk]; rfl
    obtain ⟨ad, rfl⟩ := hx.some (fun e => by have := bvs_get hbk; rw [e] at this; simp at this)
    refine nz_i ?_
    refine ask_t (by omega) ?_
    refine ld_sl hx (by rw [Int.toNat_natCast, Nat.mul_one]; exact bvs_get hbk) ?_
    refine dInt_i ?_
    refine ask_t (by omega) ?_
    rw [tm8]
    refine nm_t rfl ?_
    refine ask_t (by omega) ?_
    rw [shr8 _ _ (by omega)]
    refine nm_t rfl ?_
    refine ask_t (by omega) ?_
    rw [tm2]
    refine nm_t rfl ?_
    refine ret_t ?_
    exact ⟨ret_b (by unfold hasB; rw [hgd]; apply Bool.eq_iff_iff.2; simp only [beq_iff_eq]; omega), (Ch.refl [] s)⟩
  ·
    refine ret_t ?_
    exact ⟨ret_b (by unfold hasB; rw [List.getD_eq_getElem?_getD, List.getElem?_eq_none (by omega)]; simp), (Ch.refl [] s)⟩
/-- bollard/bollardref05.With -/
theorem c_rwith (τ : Nat) {xa : Option Addr} {xn : Nat} (xc : Nat) {l : List UInt8} {τx : Nat} {s : TH} (hx : Sl s xa (bvs l) τx) (hn : l.length = xn) (h0 : xa = none → xn = 0) (hb : xn ≤ 1000000000) (i : Nat) (hi : i / 8 < xn) (hne : τx ≠ τ) : TRet Tryz.prog 174 #[.slice xa xn xc, .int .i64 (i : Int), .bool true] s fun v s' => ∃ a' c', v = .tuple #[.slice a' xn c', .int .i64 0] ∧ Ch [τ] s s' ∧ Own s' a' xn c' 5 1 (bvs (setB l i)) τ := by
  refine F174_calls _ _ _ _ _  ?_
  unfold F174
  refine jn_u ?_
  refine sB_d (fun hsB1 => by exfalso; omega) (fun hsB1 => ?_)
  refine ask_t (by omega) ?_
  try rw [td8]
  refine wr_t (by omega) ?_
  intro _ _ _ _ _ _ _ _
  refine dBl_i ?_
  refine sB_d (fun hsB2 => by exfalso; omega) (fun hsB2 => ?_)
  refine al_t τ fun r12 s13 hr12 b_1 c_2 z_3 => ?_
  have x_4 := hx.mv c_2 (tagn (by simp))
  refine app_i u38 in5 rfl (b_1.own0 1) x_4 (by rw [bvs_len]; omega) (bvs_one l) h0 (by unfold maxLen; omega) fun s17 a1 c1 o_7 c_50 hnil => ?_
  have c_5 := c_50.toL rfl
  have z_6 := c_5.size
  rw [Nat.zero_add, List.nil_append] at o_7
  simp only [Nat.zero_add]
  refine dSl_i ?_
  refine jn_u ?_
  have x_8 := x_4.mv c_5 (tagL (by simp <;> omega) (by intro r hr; simp only [List.mem_cons, List.not_mem_nil, or_false] at hr; rcases hr with rfl <;> first | (rw [b_1.tag]; simp <;> omega)))
  refine tcall (c_rhasb xc x_8 hn i (by omega)) ?_
  rintro _ s42 ⟨rfl, c_9⟩
  have z_10 := c_9.size
  refine dBl_i ?_
  first | refine sB_d (fun hsB3 => ?_) (fun hsB3 => ?_) | refine sB_nd (fun hsB3 => ?_) (fun hsB3 => ?_) | refine sB_n (fun hsB3 => ?_) (fun hsB3 => ?_) | refine sB_i (fun hsB3 => ?_) (fun hsB3 => ?_)
  ·
    refine ask_t (by omega) ?_
    try rw [td8]
    refine wr_t (by omega) ?_
    refine ask_t (by omega) ?_
    try rw [td8]
    refine wr_t (by omega) ?_
    have o_11 := o_7.mv c_9 (tagn (by simp))
    have hnh : hasB l i = false := by simpa using hsB3
    obtain ⟨b, hbk⟩ : ∃ b, l[i / 8]? = some b := ⟨l[i / 8]'(by omega), by simp⟩
    have hgd : l.getD (i / 8) 0 = b := by rw [List.getD_eq_getElem?_getD, hbk]; rfl
    obtain ⟨ad, rfl⟩ := Own.ne_none o_11 (by omega)
    refine nz_i ?_
    refine ask_t (by omega) ?_
    refine ld_sl (o_11.sl) (by rw [Int.toNat_natCast, Nat.mul_one]; exact bvs_get hbk) ?_
    refine dInt_i ?_
    refine ask_t (by omega) ?_
    rw [tm8]
    refine nm_t rfl ?_
    refine ask_t (by omega) ?_
    rw [shl8 _ (by omega)]
    refine nm_t rfl ?_
    rw [xor8]
    refine nm_t rfl ?_
    refine nz_i ?_
    refine ask_t (by omega) ?_
    refine Own.st o_11 rfl (by omega) fun s53 b_12 c_13 z_14 => ?_
    have c_15 := Ch.on_tag (T := [τ]) (Ch.refl _ _) c_13 o_11.tagOf (by simp)
    intro _ _ _ _ _ _ _ _ _ _ _ _ _ _ _ _ _ _
    refine ret_t ?_
    have ho := b_12
    rw [show Int.toNat ((i / 8 : Nat) : Int) * 1 = i / 8 by omega, bvs_set] at ho
    exact ⟨_, c1, rfl, (((((Ch.refl [τ] s).ch c_2 (by simp)).chl c_5 (by simp) (by simp <;> omega)).ch c_9 (by simp)).ch c_15 (by simp)), by unfold setB; rw [if_neg (by simp [hnh]), hgd]; exact ho⟩
  ·
    intro _ _ _ _ _ _ _ _ _ _ _ _ _ _ _ _ _ _
    refine ret_t ?_
    have o_16 := o_7.mv c_9 (tagn (by simp))
    have hh : hasB l i = true := by simpa using hsB3
    exact ⟨a1, c1, rfl, ((((Ch.refl [τ] s).ch c_2 (by simp)).chl c_5 (by simp) (by simp <;> omega)).ch c_9 (by simp)), by unfold setB; rw [if_pos hh]; exact o_16⟩
end Go.Proofs.YtngploohhmfaiaaGreat.E
/- Contracts of functions. -/
namespace Go.Proofs.YtngploohhmfaiaaGreat.E
open Go Go.Proofs
set_option linter.unusedVariables false
set_option linter.unusedSimpArgs false
theorem rowZ_by (n : Nat) : rowZ [.int .u8 0] n = bvs (List.replicate n 0) := by
  induction n with
  | zero => rfl
  | succ n ih => rw [List.replicate_succ, bvs, List.map_cons, ← bvs, ← ih]; rfl
/-- an inode that may be -/
def DinOk (m l z : Nat) (d0 d1 d2 d3 e1 e2 : Nat) : Prop := (m = 1 ∨ m = 2) ∧ l ≤ 1000 ∧ z ≤ 532992 ∧ d0 < 2048 ∧ d1 < 2048 ∧ d2 < 2048 ∧ d3 < 2048 ∧ e1 < 2048 ∧ e2 < 2048 ∧ (m = 2 → z % 128 = 0)
def dirL (l : List UInt8) (d : List Nat) : Nat → List UInt8
  | 0 => l
  | k + 1 => wrL (dirL l d k) (8 + 2 * k) 2 (d.getD k 0)
theorem dirL_len (l : List UInt8) (d : List Nat) (k : Nat) : (dirL l d k).length = l.length := by
  induction k with
  | zero => rfl
  | succ k ih => rw [dirL, wrL_len, ih]
def dinL (m l z d0 d1 d2 d3 e1 e2 : Nat) : List UInt8 :=
  sealL (wrL (wrL (dirL (wrL (wrL (wrL (List.replicate 32 0) 0 1 m) 2 2 l) 4 4 z) [d0, d1, d2, d3] 4) 16 2 e1) 18 2 e2)
theorem dinL_len (m l z d0 d1 d2 d3 e1 e2 : Nat) : (dinL m l z d0 d1 d2 d3 e1 e2).length = 32 := by unfold dinL; rw [sealL_len, wrL_len, wrL_len, dirL_len, wrL_len, wrL_len, wrL_len]; simp
/-- bollard/bollardref03.address -/
theorem c_raddr (n : Nat) {s : TH} : TRet Tryz.prog 225 #[.int .i64 (n : Int)] s fun v s' => v = .bool (decide (n < 2048)) ∧ Ch [] s s' := by
  refine F225_calls _  ?_
  unfold F225
  refine sB_d (fun hsB1 => ?_) (fun hsB1 => by exfalso; omega)
  refine ret_t ?_
  exact ⟨ret_b (by apply Bool.eq_iff_iff.2; simp only [decide_eq_true_eq]; omega), (Ch.refl [] s)⟩
/-- bollard/bollardref03.mayDinode -/
theorem c_rmayd (m l z d0 d1 d2 d3 e1 e2 : Nat) {s : TH} (hv : DinOk m l z d0 d1 d2 d3 e1 e2) : TRet Tryz.prog 176 #[.agg #[.int .i64 (m : Int), .int .i64 (l : Int), .int .i64 (z : Int), .int .i64 (d0 : Int), .int .i64 (d1 : Int), .int .i64 (d2 : Int), .int .i64 (d3 : Int), .int .i64 (e1 : Int), .int .i64 (e2 : Int)]] s fun v s' => v = .bool true ∧ Ch [] s s' := by
  have hv2 := hv
  unfold DinOk at hv2
  refine F176_calls _ _ _ _ _ _ _ _ _  ?_
  unfold F176
  refine al_t 0 fun r1 s2 hr1 b_1 c_2 z_3 => ?_
  refine ld_t b_1 rfl ?_
  refine dInt_i ?_
  refine sB_eq (fun hsB1 => by exfalso; omega) (fun hsB1 => ?_)
  refine jn1 (fun v19 s' => ChL [] [] s2 s' ∧ (v19 = Value.bool false)) ?_ ?_
  ·
    rintro v19 s20 ⟨c_4, rfl⟩
    have z_5 := c_4.size
    intro _ _ _ _ _ _ _ _ _ _ _ _ _ _ _ _ _ _ _ _ _ _ _ _ _ _ _
    refine dBl_i ?_
    refine sB_f (by rfl) ?_
    have r1_6 := b_1.chl c_4 (by simp <;> omega) (by simp <;> omega)
    refine ld_t r1_6 rfl ?_
    refine ld_t r1_6 rfl ?_
    refine ld_t r1_6 rfl ?_
    refine ld_t r1_6 rfl ?_
    refine ⟨fun vs H' => ∃ s' : TH, s'.h = H' ∧ ∃ i0, vs = [.int .i64 i0] ∧ ChL [] [] s20 s' ∧ (∃ k : Nat, i0 = k ∧ k ≤ 4), fun vs H' => match vs with | [.int .i64 i0] => (4 - i0).toNat | _ => 0, ⟨s20, rfl, _, rfl, ChL.refl _ _ _, ?_⟩, ?_⟩
    ·
      exact ⟨0, rfl, by omega⟩
    ·
      intro i0 _ _ _ _ _ _ _ _ H64 hI
      obtain ⟨s64, rfl, i0_, hvs, c_7, k, rfl, hk⟩ := hI
      cases hvs
      have z_8 := c_7.size
      refine sB_d (fun hsB3 => ?_) (fun hsB3 => ?_)
      ·
        refine ask_t (by omega) ?_
        obtain ⟨dk, hdk, hgk, hdl⟩ : ∃ dk : Nat, ([Value.int .i64 (d0 : Int), .int .i64 (d1 : Int), .int .i64 (d2 : Int), .int .i64 (d3 : Int)] : List Value)[Int.toNat (k : Int) * 1]? = some (.int .i64 (dk : Int)) ∧ [d0, d1, d2, d3].getD k 0 = dk ∧ dk < 2048 := by rcases (by omega : k = 0 ∨ k = 1 ∨ k = 2 ∨ k = 3) with rfl | rfl | rfl | rfl <;> first | exact ⟨d0, rfl, rfl, by omega⟩ | exact ⟨d1, rfl, rfl, by omega⟩ | exact ⟨d2, rfl, rfl, by omega⟩ | exact ⟨d3, rfl, rfl, by omega⟩
        refine oV_i hdk ?_
        refine dInt_i ?_
        refine tcall (c_raddr dk) ?_
        rintro _ s69 ⟨rfl, c_9⟩
        have z_10 := c_9.size
        refine dBl_i ?_
        refine sB_f (by simp [hdl]) ?_
        refine wr_t (by omega) ?_
        refine ⟨⟨s69, rfl, _, rfl, (((ChL.refl [] [] s20).chl c_7 (by simp) (by simp <;> omega)).ch c_9 (by simp)), ?_⟩, ?_⟩
        ·
          exact ⟨k + 1, by omega, by omega⟩
        ·
          simp only []; omega
      ·
        have r1_11 := r1_6.chl c_7 (by simp <;> omega) (by simp <;> omega)
        refine ld_t r1_11 rfl ?_
        refine dInt_i ?_
        refine tcall (c_raddr e1) ?_
        rintro _ s77 ⟨rfl, c_12⟩
        have z_13 := c_12.size
        refine dBl_i ?_
        refine sB_t (by simp; omega) ?_
        have r1_14 := r1_11.ch c_12 (by simp)
        refine ld_t r1_14 rfl ?_
        refine dInt_i ?_
        refine tcall (c_raddr e2) ?_
        rintro _ s82 ⟨rfl, c_15⟩
        have z_16 := c_15.size
        refine dBl_i ?_
        refine sB_t (by simp; omega) ?_
        have r1_17 := r1_14.ch c_15 (by simp)
        refine ld_t r1_17 rfl ?_
        refine dInt_i ?_
        refine sB_ne (fun hsB7 => ?_) (fun hsB7 => ?_)
        ·
          refine ret_t ?_
          exact ⟨ret_b (by first | rfl | (have hz := hv2.2.2.2.2.2.2.2.2.2 (by omega); exact beq_iff_eq.2 (by omega))), ((((((Ch.refl [] s).ch c_2 (by simp)).chl c_4 (by simp) (by simp <;> omega)).chl c_7 (by simp) (by simp <;> omega)).ch c_12 (by simp)).ch c_15 (by simp))⟩
        ·
          refine ld_t r1_17 rfl ?_
          refine dInt_i ?_
          refine ask_t (by omega) ?_
          refine nm_a fun n88 hn88 => ?_
          rw [Int.tmod_eq_emod_of_nonneg (by omega)] at hn88
          refine ret_t ?_
          exact ⟨ret_b (by first | rfl | (have hz := hv2.2.2.2.2.2.2.2.2.2 (by omega); exact beq_iff_eq.2 (by omega))), ((((((Ch.refl [] s).ch c_2 (by simp)).chl c_4 (by simp) (by simp <;> omega)).chl c_7 (by simp) (by simp <;> omega)).ch c_12 (by simp)).ch c_15 (by simp))⟩
  ·
    intro k93 hk93
    refine ld_t b_1 rfl ?_
    refine dInt_i ?_
    refine sB_ne (fun hsB8 => ?_) (fun hsB8 => ?_)
    ·
      refine ld_t b_1 rfl ?_
      refine dInt_i ?_
      refine sB_ne (fun hsB9 => by exfalso; omega) (fun hsB9 => ?_)
      refine ld_t b_1 rfl ?_
      refine dInt_i ?_
      refine sB_d (fun hsB10 => by exfalso; omega) (fun hsB10 => ?_)
      refine ld_t b_1 rfl ?_
      refine dInt_i ?_
      refine sB_d (fun hsB11 => by exfalso; omega) (fun hsB11 => ?_)
      refine ld_t b_1 rfl ?_
      refine dInt_i ?_
      refine sB_d (fun hsB12 => by exfalso; omega) (fun hsB12 => ?_)
      refine ld_t b_1 rfl ?_
      refine dInt_i ?_
      refine hk93 _ _ ⟨(ChL.refl [] [] s2), ?_⟩
      exact congrArg Value.bool (by simp; omega)
    ·
      refine ld_t b_1 rfl ?_
      refine dInt_i ?_
      refine sB_d (fun hsB13 => by exfalso; omega) (fun hsB13 => ?_)
      refine ld_t b_1 rfl ?_
      refine dInt_i ?_
      refine sB_d (fun hsB14 => by exfalso; omega) (fun hsB14 => ?_)
      refine ld_t b_1 rfl ?_
      refine dInt_i ?_
      refine sB_d (fun hsB15 => by exfalso; omega) (fun hsB15 => ?_)
      refine ld_t b_1 rfl ?_
      refine dInt_i ?_
      refine hk93 _ _ ⟨(ChL.refl [] [] s2), ?_⟩
      exact congrArg Value.bool (by simp; omega)
/-- bollard/bollardref03.EncodeDinode -/
theorem c_encDin (τ : Nat) (m l z d0 d1 d2 d3 e1 e2 : Nat) {s : TH} (hτ : τ ≠ 0) (hv : DinOk m l z d0 d1 d2 d3 e1 e2) : TRet Tryz.prog 119 #[.agg #[.int .i64 (m : Int), .int .i64 (l : Int), .int .i64 (z : Int), .int .i64 (d0 : Int), .int .i64 (d1 : Int), .int .i64 (d2 : Int), .int .i64 (d3 : Int), .int .i64 (e1 : Int), .int .i64 (e2 : Int)]] s fun v s' => ∃ a' c', v = .tuple #[.slice a' 32 c', .int .i64 0] ∧ Ch [τ] s s' ∧ Own s' a' 32 c' 5 1 (bvs (dinL m l z d0 d1 d2 d3 e1 e2)) τ := by
  have hv2 := hv
  unfold DinOk at hv2
  refine F119_calls _ _ _ _ _ _ _ _ _  ?_
  unfold F119
  refine al_t 0 fun r1 s2 hr1 b_1 c_2 z_3 => ?_
  refine ld_t b_1 rfl ?_
  refine ld_t b_1 rfl ?_
  refine ld_t b_1 rfl ?_
  refine ld_t b_1 rfl ?_
  refine ld_t b_1 rfl ?_
  refine ld_t b_1 rfl ?_
  refine ld_t b_1 rfl ?_
  refine ld_t b_1 rfl ?_
  refine ld_t b_1 rfl ?_
  refine tcall (c_rmayd _ _ _ _ _ _ _ _ _ hv) ?_
  rintro _ s13 ⟨rfl, c_4⟩
  have z_5 := c_4.size
  refine dBl_i ?_
  refine sB_f (by rfl) ?_
  refine ask_t (by omega) ?_
  refine al_t 0 fun r15 s16 hr15 b_6 c_7 z_8 => ?_
  have hz0 := b_6.sl
  rw [rowZ_by] at hz0
  have r1_9 := b_1.ch c_4 (by simp)
  have r1_10 := r1_9.ch c_7 (by simp)
  refine ld_t r1_10 rfl ?_
  refine dInt_i ?_
  refine sB_eq (fun hsB2 => by exfalso; omega) (fun hsB2 => ?_)
  refine ld_t r1_10 rfl ?_
  refine dInt_i ?_
  refine tcall (c_rnum τ _ hz0 (by simp) (by intro h; cases h) (by omega) 0 1 m (by omega) (by omega) (by omega)) ?_
  rintro _ s22 ⟨acall2, ccall2, rfl, c_11, o_13⟩
  have z_12 := c_11.size
  refine dSl_i ?_
  have r1_14 := r1_10.ch c_11 (by intro h; simp only [List.mem_cons, List.not_mem_nil, or_false] at h <;> omega)
  refine ld_t r1_14 rfl ?_
  refine dInt_i ?_
  refine tcall (c_rnum τ _ o_13.sl (by simp [wrL_len, dirL_len]) o_13.none_iff (by omega) 2 2 l (by omega) (by omega) (by omega)) ?_
  rintro _ s29 ⟨acall3, ccall3, rfl, c_15, o_17⟩
  have z_16 := c_15.size
  refine dSl_i ?_
  have r1_18 := r1_14.ch c_15 (by intro h; simp only [List.mem_cons, List.not_mem_nil, or_false] at h <;> omega)
  refine ld_t r1_18 rfl ?_
  refine dInt_i ?_
  refine tcall (c_rnum τ _ o_17.sl (by simp [wrL_len, dirL_len]) o_17.none_iff (by omega) 4 4 z (by omega) (by omega) (by omega)) ?_
  rintro _ s36 ⟨acall4, ccall4, rfl, c_19, o_21⟩
  have z_20 := c_19.size
  refine dSl_i ?_
  have r1_22 := r1_18.ch c_19 (by intro h; simp only [List.mem_cons, List.not_mem_nil, or_false] at h <;> omega)
  refine ld_t r1_22 rfl ?_
  refine ld_t r1_22 rfl ?_
  refine ld_t r1_22 rfl ?_
  refine ld_t r1_22 rfl ?_
  refine ⟨fun vs H' => ∃ s' : TH, s'.h = H' ∧ ∃ pa pn pc i0, vs = [.slice pa pn pc, .int .i64 i0] ∧ ChL [τ] [] s36 s' ∧ (∃ k : Nat, i0 = k ∧ k ≤ 4 ∧ pn = 32 ∧ Own s' pa 32 pc 5 1 (bvs (dirL (wrL (wrL (wrL (List.replicate 32 0) 0 1 m) 2 2 l) 4 4 z) [d0, d1, d2, d3] k)) τ), fun vs H' => match vs with | [.slice pa pn pc, .int .i64 i0] => (4 - i0).toNat | _ => 0, ⟨s36, rfl, _, _, _, _, rfl, ChL.refl _ _ _, ?_⟩, ?_⟩
  ·
    exact ⟨0, rfl, by omega, rfl, o_21⟩
  ·
    intro pa pn pc i0 _ _ _ _ _ _ _ _ _ _ _ _ H62 hI
    obtain ⟨s62, rfl, pa_, pn_, pc_, i0_, hvs, c_23, k, rfl, hk, rfl, o_25⟩ := hI
    cases hvs
    have z_24 := c_23.size
    refine sB_d (fun hsB3 => ?_) (fun hsB3 => ?_)
    ·
      refine ask_t (by omega) ?_
      obtain ⟨dk, hdk, hgk, hdl⟩ : ∃ dk : Nat, ([Value.int .i64 (d0 : Int), .int .i64 (d1 : Int), .int .i64 (d2 : Int), .int .i64 (d3 : Int)] : List Value)[Int.toNat (k : Int) * 1]? = some (.int .i64 (dk : Int)) ∧ [d0, d1, d2, d3].getD k 0 = dk ∧ dk < 2048 := by rcases (by omega : k = 0 ∨ k = 1 ∨ k = 2 ∨ k = 3) with rfl | rfl | rfl | rfl <;> first | exact ⟨d0, rfl, rfl, by omega⟩ | exact ⟨d1, rfl, rfl, by omega⟩ | exact ⟨d2, rfl, rfl, by omega⟩ | exact ⟨d3, rfl, rfl, by omega⟩
      refine oV_i hdk ?_
      refine dInt_i ?_
      refine wr_t (by omega) ?_
      refine wr_t (by omega) ?_
      rw [show (8 + 2 * (k : Int)) = ((8 + 2 * k : Nat) : Int) by omega]
      refine tcall (c_rnum τ _ o_25.sl (by simp [wrL_len, dirL_len]) o_25.none_iff (by omega) (8 + 2 * k) 2 dk (by omega) (by omega) (by omega)) ?_
      rintro _ s69 ⟨acall5, ccall5, rfl, c_26, o_28⟩
      have z_27 := c_26.size
      refine dSl_i ?_
      refine wr_t (by omega) ?_
      refine ⟨⟨s69, rfl, _, _, _, _, rfl, (((ChL.refl [τ] [] s36).chl c_23 (by simp) (by simp <;> omega)).ch c_26 (by simp)), ?_⟩, ?_⟩
      ·
        exact ⟨k + 1, by omega, by omega, rfl, by have ho := o_28; rw [dirL, hgk]; exact ho⟩
      ·
        simp only []; omega
    ·
      have r1_29 := r1_22.chl c_23 (by simp <;> omega) (by simp <;> omega)
      refine ld_t r1_29 rfl ?_
      refine dInt_i ?_
      obtain rfl : k = 4 := by omega
      refine tcall (c_rnum τ _ o_25.sl (by simp [wrL_len, dirL_len]) o_25.none_iff (by omega) 16 2 e1 (by omega) (by omega) (by omega)) ?_
      rintro _ s79 ⟨acall6, ccall6, rfl, c_30, o_32⟩
      have z_31 := c_30.size
      refine dSl_i ?_
      have r1_33 := r1_29.ch c_30 (by intro h; simp only [List.mem_cons, List.not_mem_nil, or_false] at h <;> omega)
      refine ld_t r1_33 rfl ?_
      refine dInt_i ?_
      refine tcall (c_rnum τ _ o_32.sl (by simp [wrL_len, dirL_len]) o_32.none_iff (by omega) 18 2 e2 (by omega) (by omega) (by omega)) ?_
      rintro _ s86 ⟨acall7, ccall7, rfl, c_34, o_36⟩
      have z_35 := c_34.size
      refine dSl_i ?_
      refine tcall (c_rseal τ _ o_36.sl (by simp [wrL_len, dirL_len]) o_36.none_iff (by omega) o_36.le (by omega)) ?_
      rintro _ s91 ⟨a8, c8, rfl, c_37, o_39⟩
      have z_38 := c_37.size
      refine dT2 ?_
      refine dSl_i ?_
      refine dInt_i ?_
      refine ret_t ?_
      exact ⟨a8, c8, rfl, (((((((((((Ch.refl [τ] s).ch c_2 (by simp)).ch c_4 (by simp)).ch c_7 (by simp)).ch c_11 (by simp)).ch c_15 (by simp)).ch c_19 (by simp)).chl c_23 (by simp) (by simp <;> omega)).ch c_30 (by simp)).ch c_34 (by simp)).ch c_37 (by simp)), o_39⟩
end Go.Proofs.YtngploohhmfaiaaGreat.E
/- Contracts of functions. -/
namespace Go.Proofs.YtngploohhmfaiaaGreat.E
open Go Go.Proofs
set_option linter.unusedVariables false
set_option linter.unusedSimpArgs false
theorem eqf_last {P : Program} {d : Nat} {xs ys : Array Value} {f : Field} {a b : Value} {r : Bool} {w : World} (hn : (f.name == "_") = false) (ha : (part f.type xs f.offset).run P w = .ok a w) (hb : (part f.type ys f.offset).run P w = .ok b w) (he : (Op.equalIn d f.type a b).run P w = .ok r w) : (Op.eqFields d xs ys [f]).run P w = .ok r w := by
  have hn' : f.name ≠ "_" := by simpa using hn
  simp only [Op.eqFields, if_pos hn', Sem.run_bind, ha, hb, he, Result.andThen_ok]
  cases r <;> simp
theorem eqf_cons {P : Program} {d : Nat} {xs ys : Array Value} {f : Field} {fs : List Field} {a b : Value} {r s : Bool} {w : World} (hn : (f.name == "_") = false) (ha : (part f.type xs f.offset).run P w = .ok a w) (hb : (part f.type ys f.offset).run P w = .ok b w) (he : (Op.equalIn d f.type a b).run P w = .ok r w) (hr : (Op.eqFields d xs ys fs).run P w = .ok s w) : (Op.eqFields d xs ys (f :: fs)).run P w = .ok (r && s) w := by
  have hn' : f.name ≠ "_" := by simpa using hn
  rw [Op.eqFields]
  simp only [if_pos hn', Sem.run_bind, ha, hb, he, Result.andThen_ok]
  cases r
  · simp
  · simpa using hr
theorem ent_fields : Tryz.prog.fieldsOf 180 = #[{ name := "Ino", type := 3, offset := 0, embedded := false, tag := "", pkgPath := "", byteOffset := 0 }, { name := "Name", type := 9, offset := 1, embedded := false, tag := "", pkgPath := "", byteOffset := 8 }] := by kernel_rfl
theorem eq_ent {E : List PanicEntry → Heap → Prop} {s : TH} {a b : Int} {c d : ByteArray} {x y : Operand} {K : Value → Heap → Prop} (hk : K (.bool (a == b && c == d)) s.h) :
    semW Tryz.prog (eqSem .eql 180 x y (.agg #[.int .i64 a, .string c]) (.agg #[.int .i64 b, .string d])) E s.h K := .mk fun w hw => by
  have hgt : Tryz.prog.eqGuardType Tryz.prog.depth 180 = false := by kernel_rfl
  have hs : Tryz.prog.stoodInHeld 180 = false := by kernel_rfl
  have hu : Tryz.prog.underlying 180 = some (.struct (Tryz.prog.fieldsOf 180)) := by kernel_rfl
  have hf : ∀ n, (Op.eqFields (n + 1) #[.int .i64 a, .string c] #[.int .i64 b, .string d] (Tryz.prog.fieldsOf 180).toList).run Tryz.prog w = .ok (a == b && c == d) w := by
    intro n
    rw [ent_fields]
    refine eqf_cons (a := .int .i64 a) (b := .int .i64 b) (by decide) ?_ ?_ ?_ (eqf_last (a := .string c) (b := .string d) (by decide) ?_ ?_ ?_)
    · simp [part, Tryz.sizeOf3, Tryz.isAgg3]
    · simp [part, Tryz.sizeOf3, Tryz.isAgg3]
    · simp [Op.equalIn, Tryz.runUnderlying3]
    · simp [part, Tryz.sizeOf9, Tryz.isAgg9]
    · simp [part, Tryz.sizeOf9, Tryz.isAgg9]
    · simp [Op.equalIn, Tryz.runUnderlying9]
  have hr : (eqSem .eql 180 x y (.agg #[.int .i64 a, .string c]) (.agg #[.int .i64 b, .string d])).run Tryz.prog w = .ok (.bool (a == b && c == d)) w := by
    have he : (Op.equalIn Op.maxDepth 180 (.agg #[.int .i64 a, .string c]) (.agg #[.int .i64 b, .string d])).run Tryz.prog w = .ok (a == b && c == d) w := by
      show (Op.equalIn (9999 + 1) 180 _ _).run _ w = _
      rw [run_equalIn_struct (P := Tryz.prog) w 9999 180 _ _ hu hs]
      exact hf 9998
    simp [eqSem, eqGuard, hgt, binOp, Op.equal, he]
  rw [hr]; exact ⟨by rw [hw]; exact hk, Like.refl w⟩
def entL (i : Nat) (d : List UInt8) : List UInt8 :=
  (wrL (wrL (List.replicate 16 0) 0 2 i) 2 1 d.length).take 3 ++ d.take 13 ++ (wrL (wrL (List.replicate 16 0) 0 2 i) 2 1 d.length).drop (3 + (d.take 13).length)
theorem entL_len (i : Nat) (d : List UInt8) : (entL i d).length = 16 := by unfold entL; simp [wrL_len]; omega
/-- bollard/bollardref03.IsName -/
theorem c_nameD1 {s : TH} : TRet Tryz.prog 228 #[.string ⟨#[46]⟩] s fun v s' => v = .bool false ∧ Ch [] s s' := by
  refine F228_calls _  ?_
  unfold F228
  refine jn_u ?_
  refine sB_f (by simp [ByteArray.toList_mk]) ?_
  refine sB_f (by rfl) ?_
  refine sB_t (by simp [ByteArray.toList_mk]) ?_
  intro _ _ _ _ _ _ _ _ _ _ _ _ _ _
  refine dBl_i ?_
  refine sB_t (by rfl) ?_
  refine ret_t ?_
  exact ⟨rfl, (Ch.refl [] s)⟩
/-- bollard/bollardref03.EncodeEntry -/
theorem c_encEnt1 (τ i : Nat) {s : TH} (hτ : τ ≠ 0) (hi : 1 ≤ i ∧ i ≤ 511) : TRet Tryz.prog 180 #[.agg #[.int .i64 (i : Int), .string ⟨#[46]⟩]] s fun v s' => ∃ a' c', v = .tuple #[.slice a' 16 c', .int .i64 0] ∧ Ch [τ] s s' ∧ Own s' a' 16 c' 5 1 (bvs (entL i (#[46] : Array UInt8).toList)) τ := by
  refine F180_calls _ _  ?_
  unfold F180
  refine al_t 0 fun r1 s2 hr1 b_1 c_2 z_3 => ?_
  refine ask_t (by omega) ?_
  refine al_t 0 fun r3 s4 hr3 b_4 c_5 z_6 => ?_
  have hz0 := b_4.sl
  rw [rowZ_by] at hz0
  have r1_7 := b_1.ch c_5 (by simp)
  refine ld_t r1_7 rfl ?_
  refine ld_t r1_7 rfl ?_
  refine eq_ent ?_
  refine dBl_i ?_
  refine sB_f (by simp; omega) ?_
  refine jn_u ?_
  refine ld_t r1_7 rfl ?_
  refine dInt_i ?_
  refine sB_d (fun hsB2 => by exfalso; omega) (fun hsB2 => ?_)
  refine ld_t r1_7 rfl ?_
  refine dInt_i ?_
  refine sB_d (fun hsB3 => by exfalso; omega) (fun hsB3 => ?_)
  refine ld_t r1_7 rfl ?_
  refine dStr_i ?_
  refine tcall (c_nameD1) ?_
  rintro _ s71 ⟨rfl, c_8⟩
  have z_9 := c_8.size
  refine dBl_i ?_
  refine sB_t (by rfl) ?_
  have r1_10 := r1_7.ch c_8 (by simp)
  refine ld_t r1_10 rfl ?_
  refine dStr_i ?_
  refine sB_f (by simp [ByteArray.toList_mk]) ?_
  intro _ _ _ _ _ _ _ _ _ _ _ _ _ _ _ _ _ _ _ _ _ _ _
  refine dBl_i ?_
  refine sB_f (by rfl) ?_
  refine ld_t r1_10 rfl ?_
  refine dInt_i ?_
  have z_11 := hz0.mv c_8 (tagn (by simp))
  refine tcall (c_rnum τ _ z_11 (by simp) (by intro h; cases h) (by omega) 0 2 i (by omega) (by omega) (by omega)) ?_
  rintro _ s41 ⟨a2, c2, rfl, c_12, o_14⟩
  have z_13 := c_12.size
  refine dSl_i ?_
  have r1_15 := r1_10.ch c_12 (by intro h; simp only [List.mem_cons, List.not_mem_nil, or_false] at h <;> omega)
  refine ld_t r1_15 rfl ?_
  refine dStr_i ?_
  refine tcall (c_rnum τ _ o_14.sl (by simp [wrL_len]) o_14.none_iff (by omega) 2 1 (ByteArray.size ⟨#[46]⟩) (by omega) (by omega) (by decide)) ?_
  rintro _ s48 ⟨a3, c3, rfl, c_16, o_18⟩
  have z_17 := c_16.size
  refine dSl_i ?_
  refine ask_t (by have := (o_18).le; omega) ?_
  have r1_19 := r1_15.ch c_16 (by intro h; simp only [List.mem_cons, List.not_mem_nil, or_false] at h <;> omega)
  refine ld_t r1_19 rfl ?_
  refine dStr_i ?_
  obtain ⟨ad, rfl⟩ := Own.ne_none o_18 (by omega)
  simp only [Int.toNat_natCast]
  rw [show Int.toNat 3 = 3 from rfl]
  refine copy_os (p := 3) #[46] u38 in5 o_18 (by omega) fun s57 o2_22 c_200 hsz => ?_
  have c_20 := c_200.ch (T := [τ]) o_18 (by simp)
  have z_21 := c_20.size
  refine dInt_i ?_
  refine ret_t ?_
  exact ⟨_, _, rfl, (((((((Ch.refl [τ] s).ch c_2 (by simp)).ch c_5 (by simp)).ch c_8 (by simp)).ch c_12 (by simp)).ch c_16 (by simp)).ch c_20 (by simp)), o2_22⟩
/-- bollard/bollardref03.IsName -/
theorem c_nameD2 {s : TH} : TRet Tryz.prog 228 #[.string ⟨#[46, 46]⟩] s fun v s' => v = .bool false ∧ Ch [] s s' := by
  refine F228_calls _  ?_
  unfold F228
  refine jn_u ?_
  refine sB_f (by simp [ByteArray.toList_mk]) ?_
  refine sB_f (by rfl) ?_
  refine sB_f (by simp [ByteArray.toList_mk]) ?_
  intro _ _ _ _ _ _ _ _ _ _ _ _ _ _
  refine dBl_i ?_
  refine sB_t (by simp [ByteArray.toList_mk]) ?_
  refine ret_t ?_
  exact ⟨rfl, (Ch.refl [] s)⟩
/-- bollard/bollardref03.EncodeEntry -/
theorem c_encEnt2 (τ i : Nat) {s : TH} (hτ : τ ≠ 0) (hi : 1 ≤ i ∧ i ≤ 511) : TRet Tryz.prog 180 #[.agg #[.int .i64 (i : Int), .string ⟨#[46, 46]⟩]] s fun v s' => ∃ a' c', v = .tuple #[.slice a' 16 c', .int .i64 0] ∧ Ch [τ] s s' ∧ Own s' a' 16 c' 5 1 (bvs (entL i (#[46, 46] : Array UInt8).toList)) τ := by
  refine F180_calls _ _  ?_
  unfold F180
  refine al_t 0 fun r1 s2 hr1 b_1 c_2 z_3 => ?_
  refine ask_t (by omega) ?_
  refine al_t 0 fun r3 s4 hr3 b_4 c_5 z_6 => ?_
  have hz0 := b_4.sl
  rw [rowZ_by] at hz0
  have r1_7 := b_1.ch c_5 (by simp)
  refine ld_t r1_7 rfl ?_
  refine ld_t r1_7 rfl ?_
  refine eq_ent ?_
  refine dBl_i ?_
  refine sB_f (by simp; omega) ?_
  refine jn_u ?_
  refine ld_t r1_7 rfl ?_
  refine dInt_i ?_
  refine sB_d (fun hsB2 => by exfalso; omega) (fun hsB2 => ?_)
  refine ld_t r1_7 rfl ?_
  refine dInt_i ?_
  refine sB_d (fun hsB3 => by exfalso; omega) (fun hsB3 => ?_)
  refine ld_t r1_7 rfl ?_
  refine dStr_i ?_
  refine tcall (c_nameD2) ?_
  rintro _ s71 ⟨rfl, c_8⟩
  have z_9 := c_8.size
  refine dBl_i ?_
  refine sB_t (by rfl) ?_
  have r1_10 := r1_7.ch c_8 (by simp)
  refine ld_t r1_10 rfl ?_
  refine dStr_i ?_
  refine sB_t (by simp [ByteArray.toList_mk]) ?_
  refine ld_t r1_10 rfl ?_
  refine dStr_i ?_
  intro _ _ _ _ _ _ _ _ _ _ _ _ _ _ _ _ _ _ _ _ _ _ _
  refine dBl_i ?_
  refine sB_f (by simp [ByteArray.toList_mk]) ?_
  refine ld_t r1_10 rfl ?_
  refine dInt_i ?_
  have z_11 := hz0.mv c_8 (tagn (by simp))
  refine tcall (c_rnum τ _ z_11 (by simp) (by intro h; cases h) (by omega) 0 2 i (by omega) (by omega) (by omega)) ?_
  rintro _ s41 ⟨a2, c2, rfl, c_12, o_14⟩
  have z_13 := c_12.size
  refine dSl_i ?_
  have r1_15 := r1_10.ch c_12 (by intro h; simp only [List.mem_cons, List.not_mem_nil, or_false] at h <;> omega)
  refine ld_t r1_15 rfl ?_
  refine dStr_i ?_
  refine tcall (c_rnum τ _ o_14.sl (by simp [wrL_len]) o_14.none_iff (by omega) 2 1 (ByteArray.size ⟨#[46, 46]⟩) (by omega) (by omega) (by decide)) ?_
  rintro _ s48 ⟨a3, c3, rfl, c_16, o_18⟩
  have z_17 := c_16.size
  refine dSl_i ?_
  refine ask_t (by have := (o_18).le; omega) ?_
  have r1_19 := r1_15.ch c_16 (by intro h; simp only [List.mem_cons, List.not_mem_nil, or_false] at h <;> omega)
  refine ld_t r1_19 rfl ?_
  refine dStr_i ?_
  obtain ⟨ad, rfl⟩ := Own.ne_none o_18 (by omega)
  simp only [Int.toNat_natCast]
  rw [show Int.toNat 3 = 3 from rfl]
  refine copy_os (p := 3) #[46, 46] u38 in5 o_18 (by omega) fun s57 o2_22 c_200 hsz => ?_
  have c_20 := c_200.ch (T := [τ]) o_18 (by simp)
  have z_21 := c_20.size
  refine dInt_i ?_
  refine ret_t ?_
  exact ⟨_, _, rfl, (((((((Ch.refl [τ] s).ch c_2 (by simp)).ch c_5 (by simp)).ch c_8 (by simp)).ch c_12 (by simp)).ch c_16 (by simp)).ch c_20 (by simp)), o2_22⟩
end Go.Proofs.YtngploohhmfaiaaGreat.E
/- Contracts of functions. -/
namespace Go.Proofs.YtngploohhmfaiaaGreat.E
open Go Go.Proofs
set_option linter.unusedVariables false
set_option linter.unusedSimpArgs false
/-- an entry, as it lies in memory -/
def ev (e : Nat × ByteArray) : List Value := [.int .i64 (e.1 : Int), .string e.2]
theorem ev_len (e : Nat × ByteArray) : (ev e).length = 2 := rfl
theorem ecell0 {es : List (Nat × ByteArray)} {k : Nat} {e : Nat × ByteArray} (h : es[k]? = some e) : (es.flatMap ev)[k * 2]? = some (.int .i64 (e.1 : Int)) := fm_get ev_len es k 0 e h (by omega)
theorem ecell1 {es : List (Nat × ByteArray)} {k : Nat} {e : Nat × ByteArray} (h : es[k]? = some e) : (es.flatMap ev)[k * 2 + 1]? = some (.string e.2) := fm_get ev_len es k 1 e h (by omega)
def Dot (d : ByteArray) : Prop := d = ⟨#[46]⟩ ∨ d = ⟨#[46, 46]⟩
theorem c_encEntD (τ i : Nat) (d : ByteArray) {s : TH} (hτ : τ ≠ 0) (hi : 1 ≤ i ∧ i ≤ 511) (hd : Dot d) : TRet Tryz.prog 180 #[.agg #[.int .i64 (i : Int), .string d]] s fun v s' => ∃ a' c', v = .tuple #[.slice a' 16 c', .int .i64 0] ∧ Ch [τ] s s' ∧ Own s' a' 16 c' 5 1 (bvs (entL i d.data.toList)) τ := by
  rcases hd with rfl | rfl
  · exact c_encEnt1 τ i hτ hi
  · exact c_encEnt2 τ i hτ hi
def entsL : List (Nat × ByteArray) → List UInt8
  | [] => []
  | e :: es => entL e.1 e.2.data.toList ++ entsL es
theorem entsL_snoc (es : List (Nat × ByteArray)) (e : Nat × ByteArray) : entsL (es ++ [e]) = entsL es ++ entL e.1 e.2.data.toList := by
  induction es with
  | nil => simp [entsL]
  | cons x es ih => simp [entsL, ih]
theorem entsL_len (es : List (Nat × ByteArray)) : (entsL es).length = 16 * es.length := by
  induction es with
  | nil => rfl
  | cons x es ih => simp [entsL, ih, entL_len]; omega
def dirsL (es : List (Nat × ByteArray)) : List UInt8 := entsL es ++ List.replicate (128 - 16 * es.length) 0
/-- bollard/bollardref12.clash -/
theorem c_clash {xa : Option Addr} {n : Nat} (xc : Nat) {es : List (Nat × ByteArray)} {τx : Nat} {s : TH} (hx : Sl s xa (es.flatMap ev) τx) (hn : es.length = n) (hc : n ≤ xc) (hb : n ≤ 8) (hnc : ∀ (i j : Nat) (e f : Nat × ByteArray), j < i → es[i]? = some e → es[j]? = some f → ¬ (e.1 ≠ 0 ∧ f.1 ≠ 0 ∧ e.2.toList = f.2.toList)) : TRet Tryz.prog 179 #[.slice xa n xc] s fun v s' => v = .bool false ∧ Ch [] s s' := by
  refine F179_calls _ _ _  ?_
  unfold F179
  refine ⟨fun vs H' => ∃ s' : TH, s'.h = H' ∧ ∃ m, vs = [.int .i64 m] ∧ ChL [] [] s s' ∧ (∃ k : Nat, m = k ∧ k ≤ n), fun vs H' => match vs with | [.int .i64 m] => ((n : Int) - m).toNat | _ => 0, ⟨s, rfl, _, rfl, ChL.refl _ _ _, ?_⟩, ?_⟩
  ·
    exact ⟨0, rfl, by omega⟩
  ·
    intro m _ _ _ _ _ _ _ _ _ _ _ _ _ _ _ _ _ _ _ _ _ _ _ _ _ _ _ _ _ _ _ _ _ H37 hI
    obtain ⟨s37, rfl, m_, hvs, c_1, k, rfl, hk⟩ := hI
    cases hvs
    have z_2 := c_1.size
    refine sB_d (fun hsB1 => ?_) (fun hsB1 => ?_)
    ·
      have hk2 : k < n := by omega
      obtain ⟨e, he⟩ : ∃ e, es[k]? = some e := ⟨es[k]'(by omega), by simp⟩
      obtain ⟨a, rfl⟩ := hx.some (fun h => by have := ecell0 he; rw [h] at this; simp at this)
      refine nz_i ?_
      refine ask_t (by omega) ?_
      have x_3 := hx.mv c_1 (tagL (by simp <;> omega) (by simp))
      refine ld_sl x_3 (by rw [Int.toNat_natCast]; exact ecell0 he) ?_
      refine ld_sl2 x_3 (by rw [Int.toNat_natCast]; exact ecell1 he) ?_
      refine al_t (τx + 1) fun r42 s43 hr42 b_4 c_5 z_6 => ?_
      refine st_t b_4 rfl (by simp) fun s44 b_7 c_8 z_9 => ?_
      refine st_t b_7 rfl (by simp) fun s45 b_10 c_11 z_12 => ?_
      refine ask_t (by omega) ?_
      refine ⟨fun vs H' => ∃ s' : TH, s'.h = H' ∧ ∃ q, vs = [.int .i64 q] ∧ ChL [] [] s45 s' ∧ (∃ j : Nat, q = j ∧ j ≤ k), fun vs H' => match vs with | [.int .i64 q] => ((k : Int) - q).toNat | _ => 0, ⟨s45, rfl, _, rfl, ChL.refl _ _ _, ?_⟩, ?_⟩
      ·
        exact ⟨0, rfl, by omega⟩
      ·
        intro q _ _ _ _ _ _ _ _ _ _ _ _ _ _ _ _ _ _ _ _ _ H70 hI
        obtain ⟨s70, rfl, q_, hvs, c_13, j, rfl, hj⟩ := hI
        cases hvs
        have z_14 := c_13.size
        refine sB_d (fun hsB2 => ?_) (fun hsB2 => ?_)
        ·
          rw [slO_zero]
          have hj2 : j < k := by omega
          obtain ⟨f, hf⟩ : ∃ f, es[j]? = some f := ⟨es[j]'(by omega), by simp⟩
          refine nz_i ?_
          refine ask_t (by omega) ?_
          have x_15 := x_3.mv c_5 (tagn (by simp))
          have x_16 := x_15.mv c_8 (onn (by rw [b_4.tag]; omega))
          have x_17 := x_16.mv c_11 (onn (by rw [b_7.tag]; omega))
          have x_18 := x_17.mv c_13 (tagL (by simp <;> omega) (by simp))
          refine ld_sl x_18 (by rw [Int.toNat_natCast]; exact ecell0 hf) ?_
          refine ld_sl2 x_18 (by rw [Int.toNat_natCast]; exact ecell1 hf) ?_
          refine al_t (τx + 1) fun r75 s76 hr75 b_19 c_20 z_21 => ?_
          refine st_t b_19 rfl (by simp) fun s77 b_22 c_23 z_24 => ?_
          refine st_t b_22 rfl (by simp) fun s78 b_25 c_26 z_27 => ?_
          refine jn_u ?_
          have r42_28 := b_10.chl c_13 (by simp <;> omega) (by simp <;> omega)
          have r42_29 := r42_28.ch c_20 (by simp)
          have r42_30 := r42_29.on c_23 (by omega)
          have r42_31 := r42_30.on c_26 (by omega)
          refine ld_t r42_31 rfl ?_
          refine dInt_i ?_
          refine sB_ne (fun hsB3 => ?_) (fun hsB3 => ?_)
          ·
            refine ld_t b_25 rfl ?_
            refine dInt_i ?_
            refine sB_ne (fun hsB4 => ?_) (fun hsB4 => ?_)
            ·
              refine ld_t r42_31 rfl ?_
              refine dStr_i ?_
              refine ld_t b_25 rfl ?_
              refine dStr_i ?_
              intro _ _ _ _ _ _ _ _ _ _ _ _ _ _
              refine dBl_i ?_
              refine sB_f (by have := hnc k j e f hj2 he hf; simp only [beq_eq_false_iff_ne]; intro h; exact this ⟨by omega, by omega, h⟩) ?_
              refine wr_t (by omega) ?_
              refine ⟨⟨s78, rfl, _, rfl, (((((ChL.refl [] [] s45).chl c_13 (by simp) (by simp <;> omega)).ch c_20 (by simp)).on_new c_23 (by omega)).on_new c_26 (by omega)), ?_⟩, ?_⟩
              ·
                exact ⟨j + 1, by omega, by omega⟩
              ·
                simp only []; omega
            ·
              intro _ _ _ _ _ _ _ _ _ _ _ _ _ _
              refine dBl_i ?_
              refine sB_f (by rfl) ?_
              refine wr_t (by omega) ?_
              refine ⟨⟨s78, rfl, _, rfl, (((((ChL.refl [] [] s45).chl c_13 (by simp) (by simp <;> omega)).ch c_20 (by simp)).on_new c_23 (by omega)).on_new c_26 (by omega)), ?_⟩, ?_⟩
              ·
                exact ⟨j + 1, by omega, by omega⟩
              ·
                simp only []; omega
          ·
            intro _ _ _ _ _ _ _ _ _ _ _ _ _ _
            refine dBl_i ?_
            refine sB_f (by rfl) ?_
            refine wr_t (by omega) ?_
            refine ⟨⟨s78, rfl, _, rfl, (((((ChL.refl [] [] s45).chl c_13 (by simp) (by simp <;> omega)).ch c_20 (by simp)).on_new c_23 (by omega)).on_new c_26 (by omega)), ?_⟩, ?_⟩
            ·
              exact ⟨j + 1, by omega, by omega⟩
            ·
              simp only []; omega
        ·
          refine wr_t (by omega) ?_
          refine ⟨⟨s70, rfl, _, rfl, ((((((ChL.refl [] [] s).chl c_1 (by simp) (by simp <;> omega)).ch c_5 (by simp)).on_new c_8 (by omega)).on_new c_11 (by omega)).chl c_13 (by simp) (by simp <;> omega)), ?_⟩, ?_⟩
          ·
            exact ⟨k + 1, by omega, by omega⟩
          ·
            simp only []; omega
    ·
      refine ret_t ?_
      exact ⟨rfl, ((Ch.refl [] s).chl c_1 (by simp) (by simp <;> omega))⟩
/-- bollard/bollardref12.Encode -/
theorem c_encDirs (τ : Nat) {xa : Option Addr} {n : Nat} (xc : Nat) {es : List (Nat × ByteArray)} {τx : Nat} {s : TH} (hx : Sl s xa (es.flatMap ev) τx) (hn : es.length = n) (hc : n ≤ xc) (hb : n ≤ 8) (hnc : ∀ (i j : Nat) (e f : Nat × ByteArray), j < i → es[i]? = some e → es[j]? = some f → ¬ (e.1 ≠ 0 ∧ f.1 ≠ 0 ∧ e.2.toList = f.2.toList)) (hτ : τ ≠ 0) (hτx : τx ≠ τ) (hτ2 : τx ≠ τ + 1) (h1 : 1 ≤ n ∧ n < 8) (hd : ∀ e ∈ es, Dot e.2 ∧ 1 ≤ e.1 ∧ e.1 ≤ 511) : TRet Tryz.prog 120 #[.slice xa n xc] s fun v s' => ∃ a' c', v = .tuple #[.slice a' 128 c', .int .i64 0] ∧ Ch [τ, τ + 1] s s' ∧ Own s' a' 128 c' 5 1 (bvs (dirsL es)) τ := by
  refine F120_calls _ _ _  ?_
  unfold F120
  refine jn_u ?_
  refine sB_d (fun hsB1 => by exfalso; omega) (fun hsB1 => ?_)
  refine tcall (c_clash xc hx hn hc hb hnc) ?_
  rintro _ s74 ⟨rfl, c_1⟩
  have z_2 := c_1.size
  refine dBl_i ?_
  intro _ _ _ _ _ _
  refine dBl_i ?_
  refine sB_f (by rfl) ?_
  refine ⟨fun vs H' => ∃ s' : TH, s'.h = H' ∧ ∃ pa pn pc m, vs = [.slice pa pn pc, .int .i64 m] ∧ ChL [τ, τ + 1] [] s74 s' ∧ (∃ k : Nat, m = k ∧ k ≤ n ∧ pn = 16 * k ∧ Own s' pa (16 * k) pc 5 1 (bvs (entsL (es.take k))) τ), fun vs H' => match vs with | [.slice pa pn pc, .int .i64 m] => ((n : Int) - m).toNat | _ => 0, ⟨s74, rfl, _, _, _, _, rfl, ChL.refl _ _ _, ?_⟩, ?_⟩
  ·
    exact ⟨0, rfl, by omega, rfl, Own.nil _ _ _ _⟩
  ·
    intro pa pn pc m _ _ _ _ _ _ _ _ _ _ _ _ _ _ _ _ _ _ _ H35 hI
    obtain ⟨s35, rfl, pa_, pn_, pc_, m_, hvs, c_3, k, rfl, hk, rfl, o_5⟩ := hI
    cases hvs
    have z_4 := c_3.size
    refine sB_d (fun hsB3 => ?_) (fun hsB3 => ?_)
    ·
      have hk2 : k < n := by omega
      obtain ⟨e, he⟩ : ∃ e, es[k]? = some e := ⟨es[k]'(by omega), by simp⟩
      obtain ⟨a, rfl⟩ := hx.some (fun h => by have := ecell0 he; rw [h] at this; simp at this)
      refine nz_i ?_
      refine ask_t (by omega) ?_
      have x_6 := hx.mv c_1 (tagn (by simp))
      have x_7 := x_6.mv c_3 (tagL (by simp <;> omega) (by simp))
      refine ld_sl x_7 (by rw [Int.toNat_natCast]; exact ecell0 he) ?_
      refine ld_sl2 x_7 (by rw [Int.toNat_natCast]; exact ecell1 he) ?_
      refine al_t 0 fun r40 s41 hr40 b_8 c_9 z_10 => ?_
      refine st_t b_8 rfl (by simp) fun s42 b_11 c_12 z_13 => ?_
      refine st_t b_11 rfl (by simp) fun s43 b_14 c_15 z_16 => ?_
      refine ld_t b_14 rfl ?_
      refine ld_t b_14 rfl ?_
      have hde := hd e (List.mem_of_getElem? he)
      refine tcall (c_encEntD (τ + 1) e.1 e.2 (by omega) hde.2 hde.1) ?_
      rintro _ s47 ⟨a2, c2, rfl, c_17, en_19⟩
      have z_18 := c_17.size
      refine dT2 ?_
      refine dSl_i ?_
      refine dInt_i ?_
      refine sB_f (by rfl) ?_
      have o_20 := o_5.mv c_9 (tagn (by simp))
      have o_21 := o_20.mv c_12 (onn (by rw [b_8.tag]; omega))
      have o_22 := o_21.mv c_15 (onn (by rw [b_11.tag]; omega))
      have o_23 := o_22.mv c_17 (tagn (by intro h; simp only [List.mem_cons, List.not_mem_nil, or_false] at h <;> omega))
      refine app_i u38 in5 rfl o_23 en_19.sl (m := 16) (by rw [bvs_len, entL_len]) (bvs_one _) (fun h => by have := en_19.none_iff h; omega) (by unfold maxLen; omega) fun s57 pa2 pc2 o_26 c_240 _ => ?_
      have c_24 := c_240.ch (T := [τ]) o_23 (by simp)
      have z_25 := c_24.size
      refine dSl_i ?_
      refine wr_t (by omega) ?_
      refine ⟨⟨s57, rfl, _, _, _, _, rfl, (((((((ChL.refl [τ, τ + 1] [] s74).chl c_3 (by simp) (by simp <;> omega)).ch c_9 (by simp)).on_new c_12 (by omega)).on_new c_15 (by omega)).ch c_17 (by simp)).ch c_24 (by simp)), ?_⟩, ?_⟩
      ·
        exact ⟨k + 1, by omega, by omega, by omega, by have ho := o_26; rw [show 16 * k + 16 = 16 * (k + 1) by omega] at ho; rw [List.take_add_one, he]; show Own _ _ _ _ _ _ (bvs (entsL (es.take k ++ [e]))) _; rw [entsL_snoc]; simpa [bvs] using ho⟩
      ·
        simp only []; omega
    ·
      obtain rfl : k = n := by omega
      refine wr_t (by omega) ?_
      rw [show (128 - ((16 * k : Nat) : Int)) = ((128 - 16 * k : Nat) : Int) by omega]
      refine appz_i u38 u3 in5 o_5 (by obtain ⟨b, rfl⟩ := Own.ne_none o_5 (by omega); simp) (by omega) (by omega) fun s68 pa3 pc3 o_29 c_270 => ?_
      have c_27 := c_270.ch (T := [τ]) o_5 (by simp)
      have z_28 := c_27.size
      refine dSl_i ?_
      refine ret_t ?_
      have ho := o_29
      rw [show 16 * k + (128 - 16 * k) = 128 by omega, List.take_of_length_le (by omega)] at ho
      exact ⟨pa3, pc3, by rw [show 16 * k + (128 - 16 * k) = 128 by omega], ((((Ch.refl [τ, τ + 1] s).ch c_1 (by simp)).chl c_3 (by simp) (by simp <;> omega)).ch c_27 (by simp)), by unfold dirsL; rw [hn]; exact ho⟩
end Go.Proofs.YtngploohhmfaiaaGreat.E
/- Contracts of functions. -/
namespace Go.Proofs.YtngploohhmfaiaaGreat.E
open Go Go.Proofs
set_option linter.unusedVariables false
set_option linter.unusedSimpArgs false
/-- a geometry that may be -/
def canG (a b c : Int) : Prop := (1 ≤ a ∧ a ≤ 8) ∧ (8 ≤ b ∧ b ≤ 256) ∧ (4 ≤ c ∧ c ≤ 64) ∧ c % 4 = 0 ∧ 3 + c / 4 ≤ b
instance (a b c : Int) : Decidable (canG a b c) := by unfold canG; infer_instance
theorem tdiv4 {c : Int} (h : 0 ≤ c) : c.tdiv 4 = c / 4 := Int.tdiv_eq_ediv_of_nonneg h
theorem tmod4 {c : Int} (h : 0 ≤ c) : c.tmod 4 = c % 4 := Int.tmod_eq_emod_of_nonneg h
theorem wr_tq {a b m : Int} {k : Int → Prop} (h : a.tdiv b = m) (hm : -9223372036854775808 ≤ m ∧ m ≤ 9223372036854775807) (hk : k m) : wr .i64 (a.tdiv b) k := wr_t (by rw [h]; exact hm) (by rw [h]; exact hk)
theorem mul_le {a b c d : Int} (h0 : 0 ≤ a) (h1 : a ≤ c) (h2 : 0 ≤ b) (h3 : b ≤ d) : 0 ≤ a * b ∧ a * b ≤ c * d :=
  ⟨Int.mul_nonneg h0 h2, Int.mul_le_mul h1 h3 h2 (Int.le_trans h0 h1)⟩
/-- bollard/geom.between -/
theorem gc_between (n l m : Int) (s : TH) : TRet Tryz.prog 115 #[.int .i64 n, .int .i64 l, .int .i64 m] s fun v s' => v = .bool (decide (l ≤ n ∧ n ≤ m)) ∧ Ch [] s s' := by
  refine F115_calls _ _ _  ?_
  unfold F115
  refine sB_d (fun hsB1 => ?_) (fun hsB1 => ?_)
  ·
    refine ret_t ?_
    exact ⟨ret_b (by simp <;> omega), (Ch.refl [] s)⟩
  ·
    refine ret_t ?_
    exact ⟨ret_b (by simp <;> omega), (Ch.refl [] s)⟩
/-- bollard/geom.front -/
theorem gc_front (a b c : Int) (hc : 0 ≤ c ∧ c ≤ 1000) (s : TH) : TRet Tryz.prog 116 #[.agg #[.int .i64 a, .int .i64 b, .int .i64 c]] s fun v s' => v = .int .i64 (2 + c / 4) ∧ Ch [] s s' := by
  refine F116_calls _ _ _  ?_
  unfold F116
  refine al_t 0 fun r1 s2 hr1 b_1 c_2 z_3 => ?_
  refine ld_t b_1 rfl ?_
  refine dInt_i ?_
  refine ask_t (by decide) ?_
  refine wr_tq (tdiv4 hc.1) (by omega) ?_
  refine wr_t (by omega) ?_
  refine ret_t ?_
  exact ⟨rfl, ((Ch.refl [] s).ch c_2 (by simp))⟩
/-- bollard/geom.Can -/
theorem gc_can (a b c : Int)  (s : TH) : TRet Tryz.prog 65 #[.agg #[.int .i64 a, .int .i64 b, .int .i64 c]] s fun v s' => v = .int .i64 (if canG a b c then 0 else 170) ∧ Ch [] s s' := by
  refine F65_calls _ _ _  ?_
  unfold F65
  refine al_t 0 fun r1 s2 hr1 b_1 c_2 z_3 => ?_
  refine jn_u ?_
  refine ld_t b_1 rfl ?_
  refine dInt_i ?_
  refine tcall (gc_between _ _ _ _) ?_
  rintro _ s58 ⟨rfl, c_4⟩
  have z_5 := c_4.size
  refine dBl_i ?_
  first | refine sB_d (fun hsB1 => ?_) (fun hsB1 => ?_) | refine sB_nd (fun hsB1 => ?_) (fun hsB1 => ?_) | refine sB_n (fun hsB1 => ?_) (fun hsB1 => ?_) | refine sB_i (fun hsB1 => ?_) (fun hsB1 => ?_)
  ·
    have r1_6 := b_1.ch c_4 (by simp)
    refine ld_t r1_6 rfl ?_
    refine dInt_i ?_
    refine tcall (gc_between _ _ _ _) ?_
    rintro _ s63 ⟨rfl, c_7⟩
    have z_8 := c_7.size
    refine dBl_i ?_
    first | refine sB_d (fun hsB2 => ?_) (fun hsB2 => ?_) | refine sB_nd (fun hsB2 => ?_) (fun hsB2 => ?_) | refine sB_n (fun hsB2 => ?_) (fun hsB2 => ?_) | refine sB_i (fun hsB2 => ?_) (fun hsB2 => ?_)
    ·
      have r1_9 := r1_6.ch c_7 (by simp)
      refine ld_t r1_9 rfl ?_
      refine dInt_i ?_
      refine tcall (gc_between _ _ _ _) ?_
      rintro _ s68 ⟨rfl, c_10⟩
      have z_11 := c_10.size
      refine dBl_i ?_
      intro _ _ _ _ _ _ _ _ _ _ _ _ _
      refine dBl_i ?_
      refine jn_u ?_
      first | refine sB_d (fun hsB3 => ?_) (fun hsB3 => ?_) | refine sB_nd (fun hsB3 => ?_) (fun hsB3 => ?_) | refine sB_n (fun hsB3 => ?_) (fun hsB3 => ?_) | refine sB_i (fun hsB3 => ?_) (fun hsB3 => ?_)
      ·
        intro _ _ _ _ _ _ _ _ _ _ _ _ _ _ _
        refine dBl_i ?_
        refine sB_t (by rfl) ?_
        refine ret_t ?_
        exact ⟨ret_i (by first | rw [if_pos (by unfold canG; omega)] | rw [if_neg (by unfold canG; omega)]), (((((Ch.refl [] s).ch c_2 (by simp)).ch c_4 (by simp)).ch c_7 (by simp)).ch c_10 (by simp))⟩
      ·
        have r1_12 := r1_9.ch c_10 (by simp)
        refine ld_t r1_12 rfl ?_
        refine dInt_i ?_
        refine ask_t (by decide) ?_
        refine nm_t (tmod4 (by omega)) ?_
        refine sB_ne (fun hsB5 => ?_) (fun hsB5 => ?_)
        ·
          intro _ _ _ _ _ _ _ _ _ _ _ _ _ _ _
          refine dBl_i ?_
          refine sB_t (by rfl) ?_
          refine ret_t ?_
          exact ⟨ret_i (by first | rw [if_pos (by unfold canG; omega)] | rw [if_neg (by unfold canG; omega)]), (((((Ch.refl [] s).ch c_2 (by simp)).ch c_4 (by simp)).ch c_7 (by simp)).ch c_10 (by simp))⟩
        ·
          refine ld_t r1_12 rfl ?_
          refine dInt_i ?_
          refine ld_t r1_12 rfl ?_
          refine ld_t r1_12 rfl ?_
          refine ld_t r1_12 rfl ?_
          refine tcall (gc_front _ _ _ (by omega) _) ?_
          rintro _ s47 ⟨rfl, c_13⟩
          have z_14 := c_13.size
          refine dInt_i ?_
          refine ⟨?_, ?_⟩
          ·
            have r1_15 := r1_12.ch c_13 (by simp)
            refine ld_t r1_15 rfl ?_
            refine dInt_i ?_
            rfl
          ·
            refine wr_t (by omega) ?_
            intro _ _ _ _ _ _ _ _ _ _ _ _ _ _ _
            refine dBl_i ?_
            refine sB_d (fun hsB7 => ?_) (fun hsB7 => ?_)
            ·
              refine ret_t ?_
              exact ⟨ret_i (by first | rw [if_pos (by unfold canG; omega)] | rw [if_neg (by unfold canG; omega)]), ((((((Ch.refl [] s).ch c_2 (by simp)).ch c_4 (by simp)).ch c_7 (by simp)).ch c_10 (by simp)).ch c_13 (by simp))⟩
            ·
              refine ret_t ?_
              exact ⟨ret_i (by first | rw [if_pos (by unfold canG; omega)] | rw [if_neg (by unfold canG; omega)]), ((((((Ch.refl [] s).ch c_2 (by simp)).ch c_4 (by simp)).ch c_7 (by simp)).ch c_10 (by simp)).ch c_13 (by simp))⟩
    ·
      intro _ _ _ _ _ _ _ _ _ _ _ _ _
      refine dBl_i ?_
      refine jn_u ?_
      refine sB_t (by rfl) ?_
      intro _ _ _ _ _ _ _ _ _ _ _ _ _ _ _
      refine dBl_i ?_
      refine sB_t (by rfl) ?_
      refine ret_t ?_
      exact ⟨ret_i (by first | rw [if_pos (by unfold canG; omega)] | rw [if_neg (by unfold canG; omega)]), ((((Ch.refl [] s).ch c_2 (by simp)).ch c_4 (by simp)).ch c_7 (by simp))⟩
  ·
    intro _ _ _ _ _ _ _ _ _ _ _ _ _
    refine dBl_i ?_
    refine jn_u ?_
    refine sB_t (by rfl) ?_
    intro _ _ _ _ _ _ _ _ _ _ _ _ _ _ _
    refine dBl_i ?_
    refine sB_t (by rfl) ?_
    refine ret_t ?_
    exact ⟨ret_i (by first | rw [if_pos (by unfold canG; omega)] | rw [if_neg (by unfold canG; omega)]), (((Ch.refl [] s).ch c_2 (by simp)).ch c_4 (by simp))⟩
/-- bollard/bollardref04.Can -/
theorem gc_rcan (a b c : Int)  (s : TH) : TRet Tryz.prog 117 #[.agg #[.int .i64 a, .int .i64 b, .int .i64 c]] s fun v s' => v = .int .i64 (if canG a b c then 0 else 170) ∧ Ch [] s s' := by
  refine F117_calls _ _ _  ?_
  unfold F117
  refine al_t 0 fun r1 s2 hr1 b_1 c_2 z_3 => ?_
  refine jn_u ?_
  refine ld_t b_1 rfl ?_
  refine dInt_i ?_
  refine sB_d (fun hsB1 => ?_) (fun hsB1 => ?_)
  ·
    intro _ _ _ _ _ _ _ _ _ _ _ _ _ _ _ _ _ _ _ _ _ _ _ _ _ _ _ _ _ _ _ _ _ _ _ _ _ _ _ _ _ _
    refine dBl_i ?_
    refine sB_t (by rfl) ?_
    refine ret_t ?_
    exact ⟨ret_i (by first | rw [if_pos (by unfold canG; omega)] | rw [if_neg (by unfold canG; omega)]), ((Ch.refl [] s).ch c_2 (by simp))⟩
  ·
    refine ld_t b_1 rfl ?_
    refine dInt_i ?_
    refine sB_d (fun hsB3 => ?_) (fun hsB3 => ?_)
    ·
      intro _ _ _ _ _ _ _ _ _ _ _ _ _ _ _ _ _ _ _ _ _ _ _ _ _ _ _ _ _ _ _ _ _ _ _ _ _ _ _ _ _ _
      refine dBl_i ?_
      refine sB_t (by rfl) ?_
      refine ret_t ?_
      exact ⟨ret_i (by first | rw [if_pos (by unfold canG; omega)] | rw [if_neg (by unfold canG; omega)]), ((Ch.refl [] s).ch c_2 (by simp))⟩
    ·
      refine ld_t b_1 rfl ?_
      refine dInt_i ?_
      refine sB_d (fun hsB5 => ?_) (fun hsB5 => ?_)
      ·
        intro _ _ _ _ _ _ _ _ _ _ _ _ _ _ _ _ _ _ _ _ _ _ _ _ _ _ _ _ _ _ _ _ _ _ _ _ _ _ _ _ _ _
        refine dBl_i ?_
        refine sB_t (by rfl) ?_
        refine ret_t ?_
        exact ⟨ret_i (by first | rw [if_pos (by unfold canG; omega)] | rw [if_neg (by unfold canG; omega)]), ((Ch.refl [] s).ch c_2 (by simp))⟩
      ·
        refine ld_t b_1 rfl ?_
        refine dInt_i ?_
        refine sB_d (fun hsB7 => ?_) (fun hsB7 => ?_)
        ·
          intro _ _ _ _ _ _ _ _ _ _ _ _ _ _ _ _ _ _ _ _ _ _ _ _ _ _ _ _ _ _ _ _ _ _ _ _ _ _ _ _ _ _
          refine dBl_i ?_
          refine sB_t (by rfl) ?_
          refine ret_t ?_
          exact ⟨ret_i (by first | rw [if_pos (by unfold canG; omega)] | rw [if_neg (by unfold canG; omega)]), ((Ch.refl [] s).ch c_2 (by simp))⟩
        ·
          refine ld_t b_1 rfl ?_
          refine dInt_i ?_
          refine sB_d (fun hsB9 => ?_) (fun hsB9 => ?_)
          ·
            intro _ _ _ _ _ _ _ _ _ _ _ _ _ _ _ _ _ _ _ _ _ _ _ _ _ _ _ _ _ _ _ _ _ _ _ _ _ _ _ _ _ _
            refine dBl_i ?_
            refine sB_t (by rfl) ?_
            refine ret_t ?_
            exact ⟨ret_i (by first | rw [if_pos (by unfold canG; omega)] | rw [if_neg (by unfold canG; omega)]), ((Ch.refl [] s).ch c_2 (by simp))⟩
          ·
            refine ld_t b_1 rfl ?_
            refine dInt_i ?_
            refine sB_d (fun hsB11 => ?_) (fun hsB11 => ?_)
            ·
              intro _ _ _ _ _ _ _ _ _ _ _ _ _ _ _ _ _ _ _ _ _ _ _ _ _ _ _ _ _ _ _ _ _ _ _ _ _ _ _ _ _ _
              refine dBl_i ?_
              refine sB_t (by rfl) ?_
              refine ret_t ?_
              exact ⟨ret_i (by first | rw [if_pos (by unfold canG; omega)] | rw [if_neg (by unfold canG; omega)]), ((Ch.refl [] s).ch c_2 (by simp))⟩
            ·
              refine ld_t b_1 rfl ?_
              refine dInt_i ?_
              refine ask_t (by decide) ?_
              refine nm_t (tmod4 (by omega)) ?_
              refine sB_ne (fun hsB13 => ?_) (fun hsB13 => ?_)
              ·
                intro _ _ _ _ _ _ _ _ _ _ _ _ _ _ _ _ _ _ _ _ _ _ _ _ _ _ _ _ _ _ _ _ _ _ _ _ _ _ _ _ _ _
                refine dBl_i ?_
                refine sB_t (by rfl) ?_
                refine ret_t ?_
                exact ⟨ret_i (by first | rw [if_pos (by unfold canG; omega)] | rw [if_neg (by unfold canG; omega)]), ((Ch.refl [] s).ch c_2 (by simp))⟩
              ·
                refine ld_t b_1 rfl ?_
                refine dInt_i ?_
                refine ld_t b_1 rfl ?_
                refine dInt_i ?_
                refine ask_t (by decide) ?_
                refine wr_tq (tdiv4 (by omega)) (by omega) ?_
                refine wr_t (by omega) ?_
                intro _ _ _ _ _ _ _ _ _ _ _ _ _ _ _ _ _ _ _ _ _ _ _ _ _ _ _ _ _ _ _ _ _ _ _ _ _ _ _ _ _ _
                refine dBl_i ?_
                refine sB_d (fun hsB15 => ?_) (fun hsB15 => ?_)
                ·
                  refine ret_t ?_
                  exact ⟨ret_i (by first | rw [if_pos (by unfold canG; omega)] | rw [if_neg (by unfold canG; omega)]), ((Ch.refl [] s).ch c_2 (by simp))⟩
                ·
                  refine ret_t ?_
                  exact ⟨ret_i (by first | rw [if_pos (by unfold canG; omega)] | rw [if_neg (by unfold canG; omega)]), ((Ch.refl [] s).ch c_2 (by simp))⟩
/-- bollard/geom.all -/
theorem gc_all (a b c : Int) (e : Int) (hv : canG a b c) (he : 0 ≤ e ∧ e ≤ 10000) (s : TH) : TRet Tryz.prog 114 #[.agg #[.int .i64 a, .int .i64 b, .int .i64 c], .int .i64 e] s fun v s' => v = .int .i64 (a * e) ∧ Ch [] s s' := by
  refine F114_calls _ _ _ _  ?_
  unfold F114
  refine al_t 0 fun r1 s2 hr1 b_1 c_2 z_3 => ?_
  refine ld_t b_1 rfl ?_
  refine ld_t b_1 rfl ?_
  refine ld_t b_1 rfl ?_
  refine tcall (gc_can _ _ _ _) ?_
  rintro _ s7 ⟨rfl, c_4⟩
  have z_5 := c_4.size
  rw [if_pos hv]
  refine dInt_i ?_
  refine sB_f rfl ?_
  have r1_6 := b_1.ch c_4 (by simp)
  refine ld_t r1_6 rfl ?_
  refine dInt_i ?_
  refine wr_t (by unfold canG at hv; have := mul_le (a := a) (b := e) (c := 8) (d := 10000) (by omega) (by omega) he.1 he.2; omega) ?_
  refine ret_t ?_
  exact ⟨rfl, (((Ch.refl [] s).ch c_2 (by simp)).ch c_4 (by simp))⟩
/-- bollard/geom.at -/
theorem gc_at (a b c : Int) (n p : Int) (hv : canG a b c) (hn : 0 ≤ n ∧ n < a) (hp : 0 ≤ p ∧ p ≤ 10000) (s : TH) : TRet Tryz.prog 136 #[.agg #[.int .i64 a, .int .i64 b, .int .i64 c], .int .i64 n, .int .i64 p] s fun v s' => v = .tuple #[.int .i64 (n * b + p), .bool true] ∧ Ch [] s s' := by
  have hm := mul_le (a := n) (b := b) (c := 8) (d := 256) (by omega) (by unfold canG at hv; omega) (by unfold canG at hv; omega) (by unfold canG at hv; omega)
  refine F136_calls _ _ _ _ _  ?_
  unfold F136
  refine al_t 0 fun r1 s2 hr1 b_1 c_2 z_3 => ?_
  refine jn_u ?_
  refine ld_t b_1 rfl ?_
  refine ld_t b_1 rfl ?_
  refine ld_t b_1 rfl ?_
  refine tcall (gc_can _ _ _ _) ?_
  rintro _ s25 ⟨rfl, c_4⟩
  have z_5 := c_4.size
  rw [if_pos hv]
  refine dInt_i ?_
  refine sB_f rfl ?_
  have r1_6 := b_1.ch c_4 (by simp)
  refine ld_t r1_6 rfl ?_
  refine dInt_i ?_
  refine wr_t (by unfold canG at hv; omega) ?_
  refine tcall (gc_between _ _ _ _) ?_
  rintro _ s31 ⟨rfl, c_7⟩
  have z_8 := c_7.size
  refine dBl_i ?_
  intro _ _ _ _ _ _ _ _ _ _
  refine dBl_i ?_
  first | refine sB_d (fun hsB2 => by exfalso; omega) (fun hsB2 => ?_) | refine sB_nd (fun hsB2 => by exfalso; omega) (fun hsB2 => ?_)
  have r1_9 := r1_6.ch c_7 (by simp)
  refine ld_t r1_9 rfl ?_
  refine dInt_i ?_
  refine wr_t (by omega) ?_
  refine wr_t (by omega) ?_
  refine ret_t ?_
  exact ⟨rfl, ((((Ch.refl [] s).ch c_2 (by simp)).ch c_4 (by simp)).ch c_7 (by simp))⟩
/-- bollard/geom.Blocks -/
theorem gc_blocks (a b c : Int) (hv : canG a b c)  (s : TH) : TRet Tryz.prog 64 #[.agg #[.int .i64 a, .int .i64 b, .int .i64 c]] s fun v s' => v = .int .i64 (a * b) ∧ Ch [] s s' := by
  refine F64_calls _ _ _  ?_
  unfold F64
  refine al_t 0 fun r1 s2 hr1 b_1 c_2 z_3 => ?_
  refine ld_t b_1 rfl ?_
  refine ld_t b_1 rfl ?_
  refine ld_t b_1 rfl ?_
  refine ld_t b_1 rfl ?_
  refine dInt_i ?_
  refine tcall (gc_all _ _ _ _ hv (by first | omega | (unfold canG at hv; omega)) _) ?_
  rintro _ s9 ⟨rfl, c_4⟩
  have z_5 := c_4.size
  refine dInt_i ?_
  refine ret_t ?_
  exact ⟨rfl, (((Ch.refl [] s).ch c_2 (by simp)).ch c_4 (by simp))⟩
-- no form: bollard/geom.Super
/-- bollard/geom.Header -/
theorem gc_header (a b c : Int) (n : Int) (hv : canG a b c) (hn : 0 ≤ n ∧ n < a) (s : TH) : TRet Tryz.prog 134 #[.agg #[.int .i64 a, .int .i64 b, .int .i64 c], .int .i64 n] s fun v s' => v = .tuple #[.int .i64 (n * b + 1), .bool true] ∧ Ch [] s s' := by
  refine F134_calls _ _ _ _  ?_
  unfold F134
  refine al_t 0 fun r1 s2 hr1 b_1 c_2 z_3 => ?_
  refine ld_t b_1 rfl ?_
  refine ld_t b_1 rfl ?_
  refine ld_t b_1 rfl ?_
  refine tcall (gc_at _ _ _ _ _ hv (by omega) (by first | omega | (unfold canG at hv; omega)) _) ?_
  rintro _ s7 ⟨rfl, c_4⟩
  have z_5 := c_4.size
  refine dT2 ?_
  refine dInt_i ?_
  refine dBl_i ?_
  refine ret_t ?_
  exact ⟨rfl, (((Ch.refl [] s).ch c_2 (by simp)).ch c_4 (by simp))⟩
/-- bollard/geom.Data -/
theorem gc_data (a b c : Int) (n : Int) (hv : canG a b c) (hn : 0 ≤ n ∧ n < a) (s : TH) : TRet Tryz.prog 77 #[.agg #[.int .i64 a, .int .i64 b, .int .i64 c], .int .i64 n] s fun v s' => v = .tuple #[.int .i64 (n * b + (2 + c / 4)), .int .i64 (b - (2 + c / 4)), .bool true] ∧ Ch [] s s' := by
  refine F77_calls _ _ _ _  ?_
  unfold F77
  refine al_t 0 fun r1 s2 hr1 b_1 c_2 z_3 => ?_
  refine ld_t b_1 rfl ?_
  refine ld_t b_1 rfl ?_
  refine ld_t b_1 rfl ?_
  refine ld_t b_1 rfl ?_
  refine ld_t b_1 rfl ?_
  refine ld_t b_1 rfl ?_
  refine tcall (gc_front _ _ _ (by unfold canG at hv; omega) _) ?_
  rintro _ s10 ⟨rfl, c_4⟩
  have z_5 := c_4.size
  refine dInt_i ?_
  refine ⟨?_, ?_⟩
  ·
    have r1_6 := b_1.ch c_4 (by simp)
    refine ld_t r1_6 rfl ?_
    refine ld_t r1_6 rfl ?_
    refine ld_t r1_6 rfl ?_
    rfl
  ·
    refine tcall (gc_at _ _ _ _ _ hv (by omega) (by first | omega | (unfold canG at hv; omega)) _) ?_
    rintro _ s16 ⟨rfl, c_7⟩
    have z_8 := c_7.size
    refine dT2 ?_
    refine dInt_i ?_
    refine dBl_i ?_
    refine sB_f rfl ?_
    have r1_9 := b_1.ch c_4 (by simp)
    have r1_10 := r1_9.ch c_7 (by simp)
    refine ld_t r1_10 rfl ?_
    refine dInt_i ?_
    refine ld_t r1_10 rfl ?_
    refine ld_t r1_10 rfl ?_
    refine ld_t r1_10 rfl ?_
    refine tcall (gc_front _ _ _ (by unfold canG at hv; omega) _) ?_
    rintro _ s27 ⟨rfl, c_11⟩
    have z_12 := c_11.size
    refine dInt_i ?_
    refine ⟨?_, ?_⟩
    ·
      have r1_13 := r1_10.ch c_11 (by simp)
      refine ld_t r1_13 rfl ?_
      refine dInt_i ?_
      rfl
    ·
      refine wr_t (by unfold canG at hv; omega) ?_
      refine ret_t ?_
      exact ⟨rfl, (((((Ch.refl [] s).ch c_2 (by simp)).ch c_4 (by simp)).ch c_7 (by simp)).ch c_11 (by simp))⟩
/-- bollard/geom.split -/
theorem gc_split (n e t : Int) (hn : 0 ≤ n ∧ n < t) (he : 0 < e) (ht : t ≤ 1000000) (s : TH) : TRet Tryz.prog 137 #[.int .i64 n, .int .i64 e, .int .i64 t] s fun v s' => v = .tuple #[.int .i64 (n / e), .int .i64 (n % e), .bool true] ∧ Ch [] s s' := by
  have h1 := Int.tdiv_eq_ediv_of_nonneg (b := e) hn.1
  have h2 := Int.tmod_eq_emod_of_nonneg (b := e) hn.1
  have h3 : 0 ≤ n / e ∧ n / e ≤ n := ⟨Int.ediv_nonneg hn.1 (by omega), Int.ediv_le_self _ hn.1⟩
  refine F137_calls _ _ _  ?_
  unfold F137
  refine wr_t (by omega) ?_
  refine tcall (gc_between _ _ _ _) ?_
  rintro _ s3 ⟨rfl, c_1⟩
  have z_2 := c_1.size
  refine dBl_i ?_
  first | refine sB_d (fun hsB1 => by exfalso; omega) (fun hsB1 => ?_) | refine sB_nd (fun hsB1 => by exfalso; omega) (fun hsB1 => ?_)
  refine ask_t (by omega) ?_
  refine wr_tq h1 (by omega) ?_
  refine ask_t (by omega) ?_
  refine nm_t h2 ?_
  refine ret_t ?_
  exact ⟨rfl, ((Ch.refl [] s).ch c_1 (by simp))⟩
/-- bollard/geom.Group -/
theorem gc_group (a b c : Int) (n : Int) (hv : canG a b c) (hn : 0 ≤ n ∧ n < a * b) (s : TH) : TRet Tryz.prog 78 #[.agg #[.int .i64 a, .int .i64 b, .int .i64 c], .int .i64 n] s fun v s' => v = .tuple #[.int .i64 (n / b), .int .i64 (n % b), .bool true] ∧ Ch [] s s' := by
  have hab := mul_le (a := a) (b := b) (c := 8) (d := 256) (by unfold canG at hv; omega) (by unfold canG at hv; omega) (by unfold canG at hv; omega) (by unfold canG at hv; omega)
  refine F78_calls _ _ _ _  ?_
  unfold F78
  refine al_t 0 fun r1 s2 hr1 b_1 c_2 z_3 => ?_
  refine ld_t b_1 rfl ?_
  refine dInt_i ?_
  refine ld_t b_1 rfl ?_
  refine ld_t b_1 rfl ?_
  refine ld_t b_1 rfl ?_
  refine tcall (gc_blocks _ _ _ hv _) ?_
  rintro _ s9 ⟨rfl, c_4⟩
  have z_5 := c_4.size
  refine dInt_i ?_
  refine ⟨?_, ?_⟩
  ·
    have r1_6 := b_1.ch c_4 (by simp)
    refine ld_t r1_6 rfl ?_
    refine dInt_i ?_
    rfl
  ·
    refine tcall (gc_split _ _ _ (by omega) (by first | omega | (unfold canG at hv; omega)) (by first | omega | (unfold canG at hv; omega)) _) ?_
    rintro _ s14 ⟨rfl, c_7⟩
    have z_8 := c_7.size
    refine dT3 ?_
    refine dInt_i ?_
    refine dInt_i ?_
    refine dBl_i ?_
    refine ret_t ?_
    exact ⟨rfl, ((((Ch.refl [] s).ch c_2 (by simp)).ch c_4 (by simp)).ch c_7 (by simp))⟩
-- no form: bollard/geom.Inode
-- no form: bollard/bollardref04.Blocks
-- no form: bollard/bollardref04.Group
-- no form: bollard/bollardref04.IsData
end Go.Proofs.YtngploohhmfaiaaGreat.E
/- The functions' forms in the engine's words, printed by my own program. -/
namespace Go.Proofs.YtngploohhmfaiaaGreat.E
open Go Go.Proofs
set_option linter.unusedVariables false
/-- bollard/bollardref17.group -/
def F118 (x0_0 : Value) (x0_1 : Value) (x0_2 : Value) (x1 : Int) (R : Ending → Heap → Prop) (H : Heap) : Prop :=
  al H (Obj.cells #[x0_0, x0_1, x0_2] 32) (fun r1 H2 =>
  ld H2 (Addr.mk r1 0 none) (fun v3 =>
  ld H2 (Addr.mk r1 1 none) (fun v4 =>
  ld H2 (Addr.mk r1 2 none) (fun v5 =>
  HCalls Tryz.prog 173 #[Value.agg #[v3, v4, v5, Value.int IntKind.i64 0]] H2 (Sp.retK (fun v6 H7 =>
  dT 2 v6 (fun v8 v9 =>
  dSl v8 (fun p10 r11 r12 =>
  dInt IntKind.i64 v9 (fun n13 =>
  al H7 (Obj.cells #[Value.int IntKind.i64 0, Value.int IntKind.u8 0, Value.int IntKind.u8 0, Value.int IntKind.u8 0, Value.int IntKind.u8 0, Value.int IntKind.u8 0, Value.int IntKind.u8 0, Value.int IntKind.u8 0, Value.int IntKind.u8 0, Value.int IntKind.u8 0, Value.int IntKind.u8 0, Value.int IntKind.u8 0, Value.int IntKind.u8 0, Value.int IntKind.u8 0, Value.int IntKind.u8 0, Value.int IntKind.u8 0, Value.int IntKind.u8 0, Value.int IntKind.u8 0, Value.int IntKind.u8 0, Value.int IntKind.u8 0, Value.int IntKind.u8 0, Value.int IntKind.u8 0, Value.int IntKind.u8 0, Value.int IntKind.u8 0, Value.int IntKind.u8 0, Value.int IntKind.u8 0, Value.int IntKind.u8 0, Value.int IntKind.u8 0, Value.int IntKind.u8 0, Value.int IntKind.u8 0, Value.int IntKind.u8 0, Value.int IntKind.u8 0, Value.int IntKind.u8 0, Value.int IntKind.u8 0, Value.int IntKind.u8 0, Value.int IntKind.u8 0, Value.int IntKind.u8 0, Value.int IntKind.u8 0, Value.int IntKind.u8 0, Value.int IntKind.u8 0, Value.int IntKind.u8 0] 77) (fun r14 H15 =>
  st H15 (Addr.mk r14 0 none) (Value.int IntKind.i64 x1) (fun H16 =>
  st H16 (Addr.mk r14 1 none) (Value.int IntKind.u8 0) (fun H17 =>
  st H17 (Addr.mk r14 2 none) (Value.int IntKind.u8 0) (fun H18 =>
  st H18 (Addr.mk r14 3 none) (Value.int IntKind.u8 0) (fun H19 =>
  st H19 (Addr.mk r14 4 none) (Value.int IntKind.u8 0) (fun H20 =>
  st H20 (Addr.mk r14 5 none) (Value.int IntKind.u8 0) (fun H21 =>
  st H21 (Addr.mk r14 6 none) (Value.int IntKind.u8 0) (fun H22 =>
  st H22 (Addr.mk r14 7 none) (Value.int IntKind.u8 0) (fun H23 =>
  st H23 (Addr.mk r14 8 none) (Value.int IntKind.u8 0) (fun H24 =>
  st H24 (Addr.mk r14 9 none) (Value.int IntKind.u8 0) (fun H25 =>
  st H25 (Addr.mk r14 10 none) (Value.int IntKind.u8 0) (fun H26 =>
  st H26 (Addr.mk r14 11 none) (Value.int IntKind.u8 0) (fun H27 =>
  st H27 (Addr.mk r14 12 none) (Value.int IntKind.u8 0) (fun H28 =>
  st H28 (Addr.mk r14 13 none) (Value.int IntKind.u8 0) (fun H29 =>
  st H29 (Addr.mk r14 14 none) (Value.int IntKind.u8 0) (fun H30 =>
  st H30 (Addr.mk r14 15 none) (Value.int IntKind.u8 0) (fun H31 =>
  st H31 (Addr.mk r14 16 none) (Value.int IntKind.u8 0) (fun H32 =>
  st H32 (Addr.mk r14 17 none) (Value.int IntKind.u8 0) (fun H33 =>
  st H33 (Addr.mk r14 18 none) (Value.int IntKind.u8 0) (fun H34 =>
  st H34 (Addr.mk r14 19 none) (Value.int IntKind.u8 0) (fun H35 =>
  st H35 (Addr.mk r14 20 none) (Value.int IntKind.u8 0) (fun H36 =>
  st H36 (Addr.mk r14 21 none) (Value.int IntKind.u8 0) (fun H37 =>
  st H37 (Addr.mk r14 22 none) (Value.int IntKind.u8 0) (fun H38 =>
  st H38 (Addr.mk r14 23 none) (Value.int IntKind.u8 0) (fun H39 =>
  st H39 (Addr.mk r14 24 none) (Value.int IntKind.u8 0) (fun H40 =>
  st H40 (Addr.mk r14 25 none) (Value.int IntKind.u8 0) (fun H41 =>
  st H41 (Addr.mk r14 26 none) (Value.int IntKind.u8 0) (fun H42 =>
  st H42 (Addr.mk r14 27 none) (Value.int IntKind.u8 0) (fun H43 =>
  st H43 (Addr.mk r14 28 none) (Value.int IntKind.u8 0) (fun H44 =>
  st H44 (Addr.mk r14 29 none) (Value.int IntKind.u8 0) (fun H45 =>
  st H45 (Addr.mk r14 30 none) (Value.int IntKind.u8 0) (fun H46 =>
  st H46 (Addr.mk r14 31 none) (Value.int IntKind.u8 0) (fun H47 =>
  st H47 (Addr.mk r14 32 none) (Value.int IntKind.u8 0) (fun H48 =>
  st H48 (Addr.mk r14 33 none) (Value.int IntKind.u8 0) (fun H49 =>
  st H49 (Addr.mk r14 34 none) (Value.int IntKind.u8 0) (fun H50 =>
  st H50 (Addr.mk r14 35 none) (Value.int IntKind.u8 0) (fun H51 =>
  st H51 (Addr.mk r14 36 none) (Value.int IntKind.u8 0) (fun H52 =>
  st H52 (Addr.mk r14 37 none) (Value.int IntKind.u8 0) (fun H53 =>
  st H53 (Addr.mk r14 38 none) (Value.int IntKind.u8 0) (fun H54 =>
  st H54 (Addr.mk r14 39 none) (Value.int IntKind.u8 0) (fun H55 =>
  st H55 (Addr.mk r14 40 none) (Value.int IntKind.u8 0) (fun H56 =>
  ld H56 (Addr.mk r1 2 none) (fun v57 =>
  dInt IntKind.i64 v57 (fun n58 =>
  ask ((4 : Int) ≠ (0 : Int)) (wr IntKind.i64 (Int.tdiv n58 4) (fun n59 =>
  wr IntKind.i64 (2 + n59) (fun n60 =>
  ∃ I61 : List Value → Heap → Prop,
  ∃ I62 : List Value → Heap → Nat,
  (I61 ([Value.int IntKind.i64 0]) H56) ∧
  ∀ n63 : Int,
  ∀ v64 v65 v66 v67 v68 v69 v70 v71 v72 v73 v74 v75 v76 v77 v78 v79 v80 : Value,
  ∀ H81 : Heap,
  (I61 ([Value.int IntKind.i64 n63]) H81) →
  sB (decide (n63 < n60)) (ask ((0 : Int) ≤ (0 : Int) ∧ (0 : Int) ≤ (32 : Int) ∧ (32 : Int) ≤ (32 : Int) ∧ (32 : Int) ≤ (32 : Int)) (HCalls Tryz.prog 174 #[Value.slice (slO (some (Addr.mk r14 9 none)) 1 0 32) (Int.toNat 32 - Int.toNat 0) (Int.toNat 32 - Int.toNat 0), Value.int IntKind.i64 n63, Value.bool true] H81 (Sp.retK (fun v83 H84 =>
  dT 2 v83 (fun v85 v86 =>
  dSl v85 (fun p87 r88 r89 =>
  dInt IntKind.i64 v86 (fun n90 =>
  ask ((0 : Int) ≤ (0 : Int) ∧ (0 : Int) ≤ (32 : Int) ∧ (32 : Int) ≤ (32 : Int) ∧ (32 : Int) ≤ (32 : Int)) (semW Tryz.prog (Builtin.copy_ #[38, 38] 3 #[Value.slice (slO (some (Addr.mk r14 9 none)) 1 0 32) (Int.toNat 32 - Int.toNat 0) (Int.toNat 32 - Int.toNat 0), Value.slice p87 r88 r89]) (pnR R) H84 (fun v93 H94 =>
  dInt IntKind.i64 v93 (fun n95 =>
  wr IntKind.i64 (n63 + 1) (fun n96 =>
  (I61 ([Value.int IntKind.i64 n96]) H94) ∧
  (I62 [Value.int IntKind.i64 n96] H94) < (I62 [Value.int IntKind.i64 n63] H81))))))))) (pnR R)))) (jn (α := VFH 0) (fun H99 =>
  ∀ v100 v101 v102 v103 v104 v105 v106 v107 v108 v109 v110 v111 v112 v113 v114 v115 v116 v117 v118 v119 : Value,
  ld H99 (Addr.mk r14 0 none) (fun v120 =>
  ld H99 (Addr.mk r14 1 none) (fun v121 =>
  ld H99 (Addr.mk r14 2 none) (fun v122 =>
  ld H99 (Addr.mk r14 3 none) (fun v123 =>
  ld H99 (Addr.mk r14 4 none) (fun v124 =>
  ld H99 (Addr.mk r14 5 none) (fun v125 =>
  ld H99 (Addr.mk r14 6 none) (fun v126 =>
  ld H99 (Addr.mk r14 7 none) (fun v127 =>
  ld H99 (Addr.mk r14 8 none) (fun v128 =>
  ld H99 (Addr.mk r14 9 none) (fun v129 =>
  ld H99 (Addr.mk r14 10 none) (fun v130 =>
  ld H99 (Addr.mk r14 11 none) (fun v131 =>
  ld H99 (Addr.mk r14 12 none) (fun v132 =>
  ld H99 (Addr.mk r14 13 none) (fun v133 =>
  ld H99 (Addr.mk r14 14 none) (fun v134 =>
  ld H99 (Addr.mk r14 15 none) (fun v135 =>
  ld H99 (Addr.mk r14 16 none) (fun v136 =>
  ld H99 (Addr.mk r14 17 none) (fun v137 =>
  ld H99 (Addr.mk r14 18 none) (fun v138 =>
  ld H99 (Addr.mk r14 19 none) (fun v139 =>
  ld H99 (Addr.mk r14 20 none) (fun v140 =>
  ld H99 (Addr.mk r14 21 none) (fun v141 =>
  ld H99 (Addr.mk r14 22 none) (fun v142 =>
  ld H99 (Addr.mk r14 23 none) (fun v143 =>
  ld H99 (Addr.mk r14 24 none) (fun v144 =>
  ld H99 (Addr.mk r14 25 none) (fun v145 =>
  ld H99 (Addr.mk r14 26 none) (fun v146 =>
  ld H99 (Addr.mk r14 27 none) (fun v147 =>
  ld H99 (Addr.mk r14 28 none) (fun v148 =>
  ld H99 (Addr.mk r14 29 none) (fun v149 =>
  ld H99 (Addr.mk r14 30 none) (fun v150 =>
  ld H99 (Addr.mk r14 31 none) (fun v151 =>
  ld H99 (Addr.mk r14 32 none) (fun v152 =>
  ld H99 (Addr.mk r14 33 none) (fun v153 =>
  ld H99 (Addr.mk r14 34 none) (fun v154 =>
  ld H99 (Addr.mk r14 35 none) (fun v155 =>
  ld H99 (Addr.mk r14 36 none) (fun v156 =>
  ld H99 (Addr.mk r14 37 none) (fun v157 =>
  ld H99 (Addr.mk r14 38 none) (fun v158 =>
  ld H99 (Addr.mk r14 39 none) (fun v159 =>
  ld H99 (Addr.mk r14 40 none) (fun v160 =>
  HCalls Tryz.prog 175 #[Value.agg #[v120, v121, v122, v123, v124, v125, v126, v127, v128, v129, v130, v131, v132, v133, v134, v135, v136, v137, v138, v139, v140, v141, v142, v143, v144, v145, v146, v147, v148, v149, v150, v151, v152, v153, v154, v155, v156, v157, v158, v159, v160]] H99 (Sp.retK (fun v161 H162 =>
  dT 2 v161 (fun v163 v164 =>
  dSl v163 (fun p165 r166 r167 =>
  dInt IntKind.i64 v164 (fun n168 =>
  al H162 (Obj.cells #[Value.slice p10 r11 r12, Value.slice p165 r166 r167] 38) (fun r169 H170 =>
  ∃ I171 : List Value → Heap → Prop,
  ∃ I172 : List Value → Heap → Nat,
  (I171 ([Value.slice (some (Addr.mk r169 0 none)) 2 2]) H170) ∧
  ∀ p173 : Option Addr,
  ∀ r174 : Nat,
  ∀ r175 : Nat,
  ∀ v176 v177 v178 v179 v180 v181 v182 v183 v184 : Value,
  ∀ H185 : Heap,
  (I171 ([Value.slice p173 r174 r175]) H185) →
  ld H185 (Addr.mk r1 1 none) (fun v187 =>
  dInt IntKind.i64 v187 (fun n188 =>
  sB (decide ((↑r174 : Int) < n188)) (ask ((0 : Int) ≤ (128 : Int) ∧ (128 : Int) ≤ (128 : Int) ∧ (128 : Int) ≤ (281474976710656 : Int) ∧ (128 : Int) ≤ (9223372036854775807 : Int)) (al H185 (Obj.cells (List.toArray (rowZ [Value.int IntKind.u8 0] (Int.toNat 128))) 5) (fun r189 H190 =>
  al H190 (Obj.cells #[Value.slice (some (Addr.mk r189 0 none)) (Int.toNat 128) (Int.toNat 128)] 38) (fun r191 H192 =>
  semW Tryz.prog (Builtin.append_ #[42, 42] 42 #[Value.slice p173 r174 r175, Value.slice (some (Addr.mk r191 0 none)) 1 1]) (pnR R) H192 (fun v195 H196 =>
  dSl v195 (fun p197 r198 r199 =>
  (I171 ([Value.slice p197 r198 r199]) H196) ∧
  (I172 [Value.slice p197 r198 r199] H196) < (I172 [Value.slice p173 r174 r175] H185))))))) (R (Ending.returned (Value.slice p173 r174 r175)) H185)))))))) (pnR R)))))))))))))))))))))))))))))))))))))))))))) (fun k202 =>
  sB (x1 == 0) (ask ((0 : Int) ≤ (0 : Int) ∧ (0 : Int) ≤ (32 : Int) ∧ (32 : Int) ≤ (32 : Int) ∧ (32 : Int) ≤ (32 : Int)) (ld H81 (Addr.mk r1 2 none) (fun v203 =>
  dInt IntKind.i64 v203 (fun n204 =>
  ask ((4 : Int) ≠ (0 : Int)) (wr IntKind.i64 (Int.tdiv n204 4) (fun n205 =>
  wr IntKind.i64 (2 + n205) (fun n206 =>
  HCalls Tryz.prog 174 #[Value.slice (slO (some (Addr.mk r14 9 none)) 1 0 32) (Int.toNat 32 - Int.toNat 0) (Int.toNat 32 - Int.toNat 0), Value.int IntKind.i64 n206, Value.bool true] H81 (Sp.retK (fun v207 H208 =>
  dT 2 v207 (fun v209 v210 =>
  dSl v209 (fun p211 r212 r213 =>
  dInt IntKind.i64 v210 (fun n214 =>
  ask ((0 : Int) ≤ (0 : Int) ∧ (0 : Int) ≤ (32 : Int) ∧ (32 : Int) ≤ (32 : Int) ∧ (32 : Int) ≤ (32 : Int)) (semW Tryz.prog (Builtin.copy_ #[38, 38] 3 #[Value.slice (slO (some (Addr.mk r14 9 none)) 1 0 32) (Int.toNat 32 - Int.toNat 0) (Int.toNat 32 - Int.toNat 0), Value.slice p211 r212 r213]) (pnR R) H208 (fun v217 H218 =>
  dInt IntKind.i64 v217 (fun n219 =>
  ask ((0 : Int) ≤ (0 : Int) ∧ (0 : Int) < (8 : Int)) (st H218 (Addr.add (Addr.mk r14 1 none) (Int.toNat 0 * 1)) (Value.int IntKind.u8 7) (fun H220 =>
  k202 H220))))))))) nopR)))))))) (k202 H81)))))))))))))))))))))))))))))))))))))))))))))))))))))) (pnR R))))))
theorem F118_eq (x0_0 : Value) (x0_1 : Value) (x0_2 : Value) (x1 : Int) (R : Ending → Heap → Prop) (H : Heap) : F118 x0_0 x0_1 x0_2 x1 R H = vc Tryz.prog (codeOf Tryz.f118) (.node none .leaf (.node none .leaf (.node none .leaf (.node none (.node none .leaf (.node none (.node (some ⟨[(28, 3)], [8, 9, 10, 29, 30, 31, 32, 33, 34, 35, 36, 37, 38, 39, 40, 41, 42]⟩) .leaf .leaf) .leaf)) (.node (some ⟨[], [11, 12, 43, 44, 45, 46, 47, 48, 49, 50, 51, 52, 53, 54, 55, 56, 57, 58, 59, 60]⟩) .leaf (.node none .leaf (.node none .leaf (.node none (.node none (.node (some ⟨[(15, 42)], [69, 70, 71, 72, 73, 74, 75, 76, 77]⟩) .leaf .leaf) .leaf) .leaf)))))))) (postV Tryz.prog Tryz.f118 R) ⟨#[Value.agg #[x0_0, x0_1, x0_2], Value.int IntKind.i64 x1] ++ Array.replicate (Tryz.f118.ntmps - 2) undef, []⟩ H := by kernel_rfl
theorem F118_calls {R : Ending → Heap → Prop} {H : Heap} (x0_0 : Value) (x0_1 : Value) (x0_2 : Value) (x1 : Int) (h : F118 x0_0 x0_1 x0_2 x1 R H) : HCalls Tryz.prog 118 #[Value.agg #[x0_0, x0_1, x0_2], Value.int IntKind.i64 x1] H R :=
  calls_by (F := F118 x0_0 x0_1 x0_2 x1 R H) (.node none .leaf (.node none .leaf (.node none .leaf (.node none (.node none .leaf (.node none (.node (some ⟨[(28, 3)], [8, 9, 10, 29, 30, 31, 32, 33, 34, 35, 36, 37, 38, 39, 40, 41, 42]⟩) .leaf .leaf) .leaf)) (.node (some ⟨[], [11, 12, 43, 44, 45, 46, 47, 48, 49, 50, 51, 52, 53, 54, 55, 56, 57, 58, 59, 60]⟩) .leaf (.node none .leaf (.node none .leaf (.node none (.node none (.node (some ⟨[(15, 42)], [69, 70, 71, 72, 73, 74, 75, 76, 77]⟩) .leaf .leaf) .leaf) .leaf)))))))) Tryz.func118 rfl (F118_eq x0_0 x0_1 x0_2 x1 R H) h
end Go.Proofs.YtngploohhmfaiaaGreat.E
