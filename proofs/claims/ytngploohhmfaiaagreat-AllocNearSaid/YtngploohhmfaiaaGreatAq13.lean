/- My own texts, joined. -/
import Derived.JoinedOf
import Derived.KernelRfl
import Derived.Test.YtngploohhmfaiaaGreatProg
import Derived.Test.YtngploohhmfaiaaGreatAq12
/- Contracts of functions. -/
namespace Go.Proofs.YtngploohhmfaiaaGreat.E
open Go Go.Proofs Go.RowKit Go.Maps Go.Shelf Go.Sort
set_option linter.unusedVariables false
set_option linter.unusedSimpArgs false
theorem mkL_hd {G B N : Nat} (h : 2 ≤ B) : ∀ (k : Nat) {n : Nat}, n < k → (mkL G B N k)[n * B + 1]? = some (hdL n (iL n) (setsB z32 (nB n N)))
  | 0, n, hn => by omega
  | k + 1, n, hn => by
    have hl := mkL_len (G := G) (N := N) h k
    by_cases e : n = k
    · subst e
      rw [mkL, List.getElem?_append_right (by omega), hl, Nat.add_sub_cancel_left]
      rfl
    · have h1 : (n + 1) * B ≤ k * B := Nat.mul_le_mul_right B (by omega)
      rw [Nat.succ_mul] at h1
      rw [mkL, List.getElem?_append_left (by omega)]
      exact mkL_hd h k (by omega)
theorem hB_nat (n B : Nat) : hB n B = ((n * B + 1 : Nat) : Int) := by unfold hB; rw [← Int.natCast_mul]; omega
def A0 (N : Nat) : Nat → List UInt8 × List UInt8 := fun n => (iL n, setsB z32 (nB n N))
theorem fresh_now (bs : List (List UInt8)) (b : Int) : (VolM.fresh bs).now b = bs.getD b.toNat [] := rfl
theorem AS.start {G B N : Nat} (hg : GeoOk G B N) : AS G B (VolM.fresh (makeL G B N)) (A0 N) := by
  have hg2 := hg
  unfold GeoOk at hg2
  refine ⟨fresh_len hg, fun n hn => rfl, fun n hn => sets32 _, fun n hn => ?_⟩
  rw [fresh_now, hB_nat, Int.toNat_natCast, List.getD_eq_getElem?_getD]
  have h1 : n = 0 ∨ 1 * B ≤ n * B := by
    by_cases e : n = 0
    · exact .inl e
    · exact .inr (Nat.mul_le_mul_right B (by omega))
  have e1 : n * B + 1 ≠ 2 := by rcases h1 with rfl | h1 <;> omega
  have e2 : n * B + 1 ≠ 2 + N / 4 := by rcases h1 with rfl | h1 <;> omega
  unfold makeL
  rw [List.getElem?_set_ne (fun h => e2 h.symm), List.getElem?_set_ne (fun h => e1 h.symm), mkL_hd (by omega) G hn]
  rfl
/-- two volumes that part in one byte -/
structure Dif (V V' : VolM) (q p : Nat) : Prop where
  ne : ∀ k : Nat, k ≠ q → V'.now (k : Int) = V.now (k : Int)
  one : ∃ x y, V'.now (q : Int) = (V.now (q : Int)).set p x ∧ (V.now (q : Int))[p]? = some y ∧ x ≠ y
theorem Dif.byte {V V' : VolM} {q p : Nat} (h : Dif V V' q p) {k j : Nat} {b0 b1 : UInt8} (h0 : (V.now (k : Int))[j]? = some b0) (h1 : (V'.now (k : Int))[j]? = some b1) : b1 ≠ b0 ↔ k = q ∧ j = p := by
  by_cases e : k = q
  · subst e
    obtain ⟨x, y, h2, h3, h4⟩ := h.one
    rw [h2] at h1
    by_cases e2 : j = p
    · subst e2
      rw [List.getElem?_set_self (List.getElem?_eq_some_iff.1 h3).1] at h1
      rw [h3] at h0
      cases h0; cases h1
      exact ⟨fun _ => ⟨rfl, rfl⟩, fun _ => h4⟩
    · rw [List.getElem?_set_ne (fun h => e2 h.symm), h0] at h1
      cases h1
      exact ⟨fun h => absurd rfl h, fun h => absurd h.2 e2⟩
  · rw [h.ne k e, h0] at h1
    cases h1
    exact ⟨fun h => absurd rfl h, fun h => absurd h.1 e⟩
theorem hdL_get {n : Nat} {il bl : List UInt8} (h8 : il.length = 8) {q : Nat} (hq : q < bl.length) : (hdL n il bl)[12 + q]? = bl[q]? := by
  unfold hdL
  have e4 : ([104, 100, UInt8.ofNat n, 0] ++ il : List UInt8).length = 12 := by simp [h8]
  rw [List.append_assoc ([104, 100, UInt8.ofNat n, 0] ++ il) bl, List.getElem?_append_right (by omega), e4, Nat.add_sub_cancel_left, List.getElem?_append_left hq]
theorem setTo_ne {b : UInt8} {k : Nat} (hk : k < 8) (h : b.toNat.testBit k = false) : setTo b k true ≠ b := by
  intro e
  have := setTo_tb b (k := k) (m := k) true hk
  rw [e, if_pos rfl, h] at this; cases this
theorem AS.dif {G B : Nat} {V V' : VolM} {A : Nat → List UInt8 × List UInt8} (hA : AS G B V A) {n i : Nat} {k : Int} (hn : n < G) (hi : i < 256) (hb : hasB (A n).2 i = false) (c : ChT (V.tk k) (hB n B) (12 + ((i / 8 : Nat) : Int)) [setTo ((A n).2.getD (i / 8) 0) (i % 8) true] V') : Dif V V' (n * B + 1) (12 + i / 8) := by
  have h32 := hA.l32 n hn
  have h8 := hA.l8 n hn
  have hnow := hA.now n hn
  obtain ⟨y, hy⟩ : ∃ y, (A n).2[i / 8]? = some y := ⟨(A n).2[i / 8]'(by omega), by simp⟩
  have hgd : (A n).2.getD (i / 8) 0 = y := by rw [List.getD_eq_getElem?_getD, hy]; rfl
  refine ⟨fun m hm => c.ne _ (by rw [hB_nat]; omega), setTo y (i % 8) true, y, ?_, ?_, setTo_ne (Nat.mod_lt _ (by decide)) (by rw [hasB_tb, hgd] at hb; exact hb)⟩
  · rw [← hB_nat]
    have e := c.now
    rw [hgd] at e
    rw [e]
    have e2 : (12 + ((i / 8 : Nat) : Int)).toNat = 12 + i / 8 := by omega
    rw [e2]
    refine overlay1 _ _ _ ?_
    show 12 + i / 8 < (V.now (hB n B)).length
    rw [hnow, hdL_len n h8 h32]; omega
  · rw [← hB_nat, hnow, hdL_get h8 (by omega)]; exact hy
theorem c_ablk (vp d U : Nat) (V : VolM) (G B N near : Nat) (A : Nat → List UInt8 × List UInt8) (s : TH) (hv : VolL s vp d U V 0) (hU : 10 ≤ U) (hg : GeoOk G B N) (hvn : V.n < 100000000) (hlp : V.P.last < 900000) (hA : AS G B V A) (hnr : near < G) :
    TRet Tryz.prog 29 #[.pointer (some ⟨vp, 0, none⟩), .agg #[.int .i64 (G : Int), .int .i64 (B : Int), .int .i64 (N : Int)], .int .i64 (near : Int), .slice none 0 0] s fun v s' => ∃ V' x y e, v = .tuple #[.int .i64 x, .int .i64 y, .int .i64 e] ∧ Ch [U, U + 3, U + 20, U + 21, U + 22, U + 23, U + 30, U + 32] s s' ∧ VolL s' vp d U V' 0 ∧ ((e = 5 ∧ (∀ n, n < G → FullG B N (A n)) ∧ ∃ k : Nat, k ≤ 8 ∧ V' = V.tk k) ∨
      (e = 0 ∧ ∃ n i kk k : Nat, n < G ∧ kk < G ∧ n = (near + kk) % G ∧ (∀ q, q < kk → FullG B N (A ((near + q) % G))) ∧ 2 + N / 4 ≤ i ∧ i < B ∧ hasB (A n).2 i = false ∧ x = (n : Int) * (B : Int) + (i : Int) ∧ k ≤ 8 ∧ ChT (V.tk k) (hB n B) (12 + ((i / 8 : Nat) : Int)) [setTo ((A n).2.getD (i / 8) 0) (i % 8) true] V')) :=
  (c_ablock vp d U V G B N near A s hv hU hg hvn hlp hA hnr).mono fun v s' h => by
    obtain ⟨V', x, y, e, h1, h2, h3, h4⟩ := h
    exact ⟨V', x, y, e, h1, h2, h3, h4.or_⟩
theorem ticks_le (V : VolM) (b : Int) : V.ticks b ≤ V.n + 1 := by unfold VolM.ticks; split <;> omega
theorem tk_n (V : VolM) (k : Int) : (V.tk k).n = V.n + k := rfl
theorem tk_last (V : VolM) (k : Int) : (V.tk k).P.last = V.P.last := rfl
theorem nows_len (V : VolM) : V.nows.length = V.D.blocks.length := by simp [VolM.nows]
def T1 (q kq : Nat) : Nat := if q < kq then 1 else 0
def T2 (q p kq jq : Nat) : Nat := if kq = q ∧ p < jq then 1 else 0
theorem T1_le (q kq : Nat) : T1 q kq ≤ 1 := by unfold T1; split <;> omega
theorem T2_le (q p kq jq : Nat) : T2 q p kq jq ≤ 1 := by unfold T2; split <;> omega
theorem T2_zero (q p kq : Nat) : T2 q p kq 0 = 0 := by unfold T2; rw [if_neg (by omega)]
theorem T_step {q p kq : Nat} (hp : p < 128) : T1 q kq + T2 q p kq 128 = T1 q (kq + 1) := by
  unfold T1 T2
  split <;> split <;> split <;> omega
theorem T1_end {q kq L : Nat} (h : q < L) (e : kq = L) : ((T1 q kq : Int) != 1) = false := by
  subst e; unfold T1; rw [if_pos h]; rfl
theorem T_b1 {q p kq jq : Nat} {b0 b1 : UInt8} (h : b1 ≠ b0 ↔ kq = q ∧ jq = p) (hne : ¬ (b1.toNat : Int) = (b0.toNat : Int)) : T2 q p kq jq + 1 = T2 q p kq (jq + 1) := by
  have h1 := h.1 (fun e => hne (by rw [e]))
  unfold T2
  rw [if_neg (by omega), if_pos (by omega)]
theorem T_b0 {q p kq jq : Nat} {b0 b1 : UInt8} (h : b1 ≠ b0 ↔ kq = q ∧ jq = p) (he : (b1.toNat : Int) = (b0.toNat : Int)) : T2 q p kq jq = T2 q p kq (jq + 1) := by
  have h1 : ¬ (kq = q ∧ jq = p) := fun hh => (h.2 hh) (UInt8.toNat_inj.1 (Int.natCast_inj.1 he))
  unfold T2
  by_cases e : kq = q
  · by_cases e2 : p < jq
    · rw [if_pos ⟨e, e2⟩, if_pos ⟨e, by omega⟩]
    · rw [if_neg (fun h => e2 h.2), if_neg (fun h => h1 ⟨e, by omega⟩)]
  · rw [if_neg (fun h => e h.1), if_neg (fun h => e h.1)]
theorem near_ok {G B N n n' kk i : Nat} {A : Nat → List UInt8 × List UInt8} (hn : n < G) (hkk : kk < G) (he : n' = (n + kk) % G) (hf : ∀ q, q < kk → FullG B N (A ((n + q) % G))) (hi : 2 + N / 4 ≤ i) (hiB : i < B) (hb : hasB (A n').2 i = false) {fb : Bool} (hfb : fb = true ↔ ∀ j, 2 + N / 4 ≤ j → j < B → hasB (A n).2 j = true) : (((n' : Int) == (n : Int)) == fb) = false := by
  by_cases h0 : kk = 0
  · subst h0
    rw [Nat.add_zero, Nat.mod_eq_of_lt hn] at he
    subst he
    have : fb = false := by
      cases fb
      · rfl
      · rw [(hfb.1 rfl) i hi hiB] at hb; cases hb
    rw [this]; simp
  · have h1 := hf 0 (by omega)
    rw [Nat.add_zero, Nat.mod_eq_of_lt hn] at h1
    have : fb = true := hfb.2 h1
    have hne : n' ≠ n := by
      rw [he]
      by_cases h2 : n + kk < G
      · rw [Nat.mod_eq_of_lt h2]; omega
      · rw [Nat.mod_eq_sub_mod (by omega), Nat.mod_eq_of_lt (by omega)]; omega
    rw [this]
    simp only [beq_eq_false_iff_ne, ne_eq, beq_iff_eq]
    intro h
    exact hne (Int.natCast_inj.1 (by simpa using h))
theorem tdv {n i B : Nat} (hi : i < B) : Int.tdiv ((n : Int) * (B : Int) + (i : Int)) (B : Int) = (n : Int) := by
  have h2 : (n : Int) * (B : Int) = ((n * B : Nat) : Int) := (Int.natCast_mul n B).symm
  rw [Int.tdiv_eq_ediv_of_nonneg (by omega), Int.add_comm, Int.add_mul_ediv_right _ _ (by omega), Int.ediv_eq_zero_of_lt (by omega) (by omega), Int.zero_add]
set_option maxHeartbeats 4000000 in
set_option maxRecDepth 100000 in
/-- bollard/bollardlaw11.AllocNear -/
theorem w_anear (U : Nat) (a b c : Int) {xa : Option Addr} {xn : Nat} (xc : Nat) {xs : List Int} {τx : Nat} (s : TH) (hU : 10 ≤ U) (hx : Sl s xa (ivs xs) τx) (hxn : xs.length = xn) (hx0 : xa = none → xn = 0) (hτ : τx < U ∨ U + 50 ≤ τx) : TRet Tryz.prog 5 #[.agg #[.int .i64 a, .int .i64 b, .int .i64 c], .slice xa xn xc] s fun v s' => v = .bool true ∧ Ch [U, U + 3, U + 11, U + 20, U + 21, U + 22, U + 23, U + 30, U + 32] s s' := by
  obtain ⟨M, hM, hM0, hMa, hMb, hMc, hMd, hMe, hMf⟩ := fresh6 s τx (U + 60) 0 0 0 0
  refine F5_calls _ _ _ _ _ _  ?_
  unfold F5
  refine al_t (M + 1) fun r1 s2 hr1 b_1 c_2 z_3 => ?_
  refine ld_t b_1 rfl ?_
  refine ld_t b_1 rfl ?_
  refine ld_t b_1 rfl ?_
  refine tcall (c_fresh U (M + 10) a b c _ hU (by omega)) ?_
  rintro v_5 s_4 ⟨pcall1, vpcall1, dcall1, xcall1, ycall1, Gcall1, Bcall1, Ncall1, rfl, c_7, call1a, call1b, call1c, call1d⟩
  have z_8 := c_7.size
  have hg := call1a
  have hg2 := hg
  unfold GeoOk at hg2
  have hgb := hg.gb
  have hA0 := AS.start hg
  refine dT3 ?_
  refine dPtr_i ?_
  refine dA3 ?_
  refine dBl_i ?_
  have h_12 := b_1.ch c_7 (by simp <;> omega)
  refine st_t h_12 rfl (by simp) fun s16 b_9 c_10o z_11 => ?_
  have c_10 := on_ch h_12 c_10o
  refine st_t b_9 rfl (by simp) fun s17 b_13 c_14o z_15 => ?_
  have c_14 := on_ch b_9 c_14o
  refine st_t b_13 rfl (by simp) fun s18 b_16 c_17o z_18 => ?_
  have c_17 := on_ch b_13 c_17o
  refine sB_f (by rfl) ?_
  refine jn_u ?_
  refine ⟨fun vs H' => ∃ s' : TH, s'.h = H' ∧ ∃ i0_, vs = [.int .i64 i0_] ∧ Ch [U, U + 3, U + 20, U + 21, U + 22, U + 23, U + 30, U + 32, M + 9] s18 s' ∧ (∃ (kk : Nat) (V : VolM) (A : Nat → List UInt8 × List UInt8), i0_ = kk ∧ kk ≤ xn ∧ kk ≤ 42 ∧ VolL s' vpcall1 dcall1 U V 0 ∧ AS Gcall1 Bcall1 V A ∧ V.P.last ≤ kk ∧ V.n ≤ kk * 10000), fun vs H' => match vs with | [.int .i64 i0_] => ((xn : Int) - i0_).toNat | _ => 0, ⟨s18, rfl, _, rfl, Ch.refl _ _, ?_⟩, ?_⟩
  ·
    have h_19 := call1d.mv ((c_10.app c_14).app c_17) (rngn50 (by simp <;> omega))
    exact ⟨0, _, _, rfl, by omega, by omega, h_19, hA0, by show (0 : Int) ≤ _; omega, by show (0 : Int) ≤ _; omega⟩
  ·
    intro i0_ _ _ _ _ _ _ _ _ _ _ _ _ _ _ _ _ _ _ _ _ _ _ _ _ _ _ _ _ _ _ _ _ _ _ _ _ _ _ _ _ _ _ _ _ _ _ _ _ _ _ _ _ _ _ _ _ _ _ _ _ _ _ _ _ _ _ _ _ _ _ _ _ _ _ _ _ _ _ _ _ _ _ _ _ _ _ _ _ _ _ _ _ _ _ _ _ _ _ _ _ _ _ _ _ _ _ _ _ _ _ _ _ _ _ _ _ _ _ _ _ _ _ _ H_ hI_21
    obtain ⟨s_20, rfl, i0__, hvs, c_22, kk, V, A, rfl, hk, hk42, hv, hA, hlp, hvn⟩ := hI_21
    cases hvs
    have z_23 := c_22.size
    have hl := hA.len
    have hpl := hv.pokk.lst
    refine sB_d (fun hsB2 => ?_) (fun hsB2 => ?_)
    ·
      have h_24 := hx.mv (((((c_2.app c_7).app c_10).app c_14).app c_17).app c_22) (tagn (by simp <;> omega))
      obtain ⟨a_25, rfl⟩ := h_24.ne_none (by simp [bvs_len, ivs_len]; omega)
      refine nz_i ?_
      refine ask_t (by omega) ?_
      refine ld_iv h_24 (by omega) (by omega) fun vel1 hel1 => ?_
      rw [Int.toNat_natCast] at hel1
      refine dInt_i ?_
      refine sB_d (fun hsB3 => ?_) (fun hsB3 => ?_)
      ·
        intro _
        intros
        refine ret_t ?_
        exact ⟨rfl, (((((((Ch.refl [U, U + 3, U + 11, U + 20, U + 21, U + 22, U + 23, U + 30, U + 32] s).ch c_2 (by simp)).ch c_7 (by simp)).fr c_10 hM (by simp)).fr c_14 hM (by simp)).fr c_17 hM (by simp)).fr c_22 hM (by simp))⟩
      ·
        refine wr_a fun n278 hn278 => ?_
        rw [wrap_u64] at hn278
        have h_26 := b_16.ch c_22 (by simp <;> omega)
        refine ld_t h_26 rfl ?_
        refine dInt_i ?_
        refine wr_a fun n281 hn281 => ?_
        rw [wrap_u64] at hn281
        refine ask_t (by omega) ?_
        refine nm_a fun n282 hn282 => ?_
        have qn282 := tmod_rng (by omega) (by omega) hn282
        obtain ⟨n, hnn⟩ : ∃ n : Nat, n282 = (n : Int) := ⟨n282.toNat, by omega⟩
        have hnG : n < Gcall1 := by omega
        rw [hnn]
        refine wr_t (by omega) ?_
        obtain ⟨i0, i1, i2, i3, i4, i5, i6, i7, hil⟩ := len8 (hA.l8 n hnG)
        obtain ⟨b0, b1, b2, b3, b4, b5, b6, b7, b8, b9, b10, b11, b12, b13, b14, b15, b16, b17, b18, b19, b20, b21, b22, b23, b24, b25, b26, b27, b28, b29, b30, b31, hbl⟩ := len32 (hA.l32 n hnG)
        have hnow : V.now (hB n Bcall1) = hdL n [i0, i1, i2, i3, i4, i5, i6, i7] [b0, b1, b2, b3, b4, b5, b6, b7, b8, b9, b10, b11, b12, b13, b14, b15, b16, b17, b18, b19, b20, b21, b22, b23, b24, b25, b26, b27, b28, b29, b30, b31] := by rw [← hil, ← hbl]; exact hA.now n hnG
        refine nz_i ?_
        have h_27 := call1c.ch (((c_10.app c_14).app c_17).app c_22) (by simp <;> omega)
        refine ld_t h_27 rfl ?_
        refine dPtr_i ?_
        refine ld_t h_26 rfl ?_
        refine ld_t h_26 rfl ?_
        refine ld_t h_26 rfl ?_
        refine ⟨?_, ?_⟩
        ·
          refine tcall (c_aHeader vpcall1 dcall1 U V Gcall1 Bcall1 Ncall1 n i0 i1 i2 i3 i4 i5 i6 i7 b0 b1 b2 b3 b4 b5 b6 b7 b8 b9 b10 b11 b12 b13 b14 b15 b16 b17 b18 b19 b20 b21 b22 b23 b24 b25 b26 b27 b28 b29 b30 b31 _ hv hU hg (by omega) (by omega) hl hnG hnow) ?_
          rintro v_29 s_28 ⟨rfl, c_31, call2a⟩
          have z_32 := c_31.size
          have hv1 : VolL s_28 vpcall1 dcall1 U (V.tk 1) 0 := call2a
          refine dT2 ?_
          refine dA41 ?_
          refine dInt_i ?_
          refine al_t (M + 9) fun r336 s337 hr336 b_33 c_34 z_35 => ?_
          refine stG (n : Int) (il := [i0, i1, i2, i3, i4, i5, i6, i7]) (bl := [b0, b1, b2, b3, b4, b5, b6, b7, b8, b9, b10, b11, b12, b13, b14, b15, b16, b17, b18, b19, b20, b21, b22, b23, b24, b25, b26, b27, b28, b29, b30, b31]) rfl rfl rfl b_33 (by rfl) fun s338 b_36 c_37o z_38 => ?_
          have c_37 := on_ch b_33 c_37o
          refine sB_f (by rfl) ?_
          have h_39 := hv1.mv (c_34.app c_37) (rngn50 (by simp <;> omega))
          have h_40 := h_27.ch ((c_31.app c_34).app c_37) (by simp <;> omega)
          refine tcall (c_pnow2 pcall1 vpcall1 dcall1 U (V.tk 1) _ _ _ (M + 10) (M + 20) (M + 21) _ hU h_39 h_40 (by show V.n + 1 < _; omega) (by omega)) ?_
          rintro v_42 s_41 ⟨acall3, ccall3, hscall3, rfl, c_44, call3a, call3b, call3c⟩
          have z_45 := c_44.size
          have hv2 : VolL s_41 vpcall1 dcall1 U (V.tk (1 + ((V.D.blocks.length : Nat) : Int))) 0 := by rw [← tk_tk]; exact call3c
          obtain ⟨kw, hkw⟩ : ∃ kw : Int, kw = 1 + ((V.D.blocks.length : Nat) : Int) := ⟨_, rfl⟩
          rw [← hkw] at hv2
          have hlw : (V.tk 1).D.blocks.length = Gcall1 * Bcall1 := hl
          refine dSl_i ?_
          refine nz_i ?_
          have h_46 := h_40.ch c_44 (by simp <;> omega)
          refine ld_t h_46 rfl ?_
          refine dPtr_i ?_
          have h_47 := h_26.ch (((c_31.app c_34).app c_37).app c_44) (by simp <;> omega)
          refine ld_t h_47 rfl ?_
          refine ld_t h_47 rfl ?_
          refine ld_t h_47 rfl ?_
          refine tcall (c_ablk vpcall1 dcall1 U (V.tk kw) Gcall1 Bcall1 Ncall1 n A _ hv2 hU hg (by show V.n + kw < _; omega) (by show V.P.last < _; omega) (hA.tk kw) hnG) ?_
          rintro v_49 s_48 ⟨Vcall4, xcall4, ycall4, ecall4, rfl, c_51, call4a, call4b⟩
          have z_52 := c_51.size
          rcases call4b with ⟨rfl, hfl, kz, hkz, hVz⟩ | ⟨rfl, n2, i2, kz, kt, hn2, hkz, hne2, hful, hi2, hi2B, hb2, hx2, hkt, hch⟩
          ·
            try (rw [tk_tk] at hch)
            try (have hdf := hA.dif hn2 (by omega) hb2 hch)
            try (have hDV : Vcall4.D = V.D := hch.D)
            try (have hlV : Vcall4.D.blocks.length = Gcall1 * Bcall1 := by rw [hDV]; exact hl)
            try (have hnV := hch.n)
            try (have hnV1 := ticks_le (V.tk (kw + (kt : Int))) (hB n2 Bcall1))
            try (rw [tk_n] at hnV1)
            try (have hlaV := hch.last)
            try (rw [tk_last] at hlaV)
            refine dT3 ?_
            refine dInt_i ?_
            refine dInt_i ?_
            refine dInt_i ?_
            refine sB_t (by rfl) ?_
            refine ret_t ?_
            exact ⟨rfl, ((((((((((((Ch.refl [U, U + 3, U + 11, U + 20, U + 21, U + 22, U + 23, U + 30, U + 32] s).ch c_2 (by simp)).ch c_7 (by simp)).fr c_10 hM (by simp)).fr c_14 hM (by simp)).fr c_17 hM (by simp)).fr c_22 hM (by simp)).ch c_31 (by simp)).ch c_34 (by simp)).fr c_37 hM (by simp)).ch c_44 (by simp)).ch c_51 (by simp))⟩
          ·
            try (rw [tk_tk] at hch)
            try (have hdf := hA.dif hn2 (by omega) hb2 hch)
            try (have hDV : Vcall4.D = V.D := hch.D)
            try (have hlV : Vcall4.D.blocks.length = Gcall1 * Bcall1 := by rw [hDV]; exact hl)
            try (have hnV := hch.n)
            try (have hnV1 := ticks_le (V.tk (kw + (kt : Int))) (hB n2 Bcall1))
            try (rw [tk_n] at hnV1)
            try (have hlaV := hch.last)
            try (rw [tk_last] at hlaV)
            refine dT3 ?_
            refine dInt_i ?_
            refine dInt_i ?_
            refine dInt_i ?_
            refine sB_f (by rfl) ?_
            have h_53 := h_46.ch c_51 (by simp <;> omega)
            refine tcall (c_pnow2 pcall1 vpcall1 dcall1 U Vcall4 _ _ _ (M + 10) (M + 22) (M + 23) _ hU call4a h_53 (by omega) (by omega)) ?_
            rintro v_55 s_54 ⟨acall5, ccall5, hscall5, rfl, c_57, call5a, call5b, call5c⟩
            have z_58 := c_57.size
            refine dSl_i ?_
            refine ⟨fun vs H' => ∃ s' : TH, s'.h = H' ∧ ∃ tn j1_, vs = [.int .i64 tn, .int .i64 j1_] ∧ Ch [] s_54 s' ∧ (∃ kq : Nat, j1_ = kq ∧ kq ≤ Vcall4.D.blocks.length ∧ tn = ((T1 (n2 * Bcall1 + 1) kq : Nat) : Int)), fun vs H' => match vs with | [.int .i64 tn, .int .i64 j1_] => ((Vcall4.D.blocks.length : Int) - j1_).toNat | _ => 0, ⟨s_54, rfl, _, _, rfl, Ch.refl _ _, ?_⟩, ?_⟩
            ·
              exact ⟨0, rfl, by omega, rfl⟩
            ·
              intro tn j1_ _ _ _ _ _ _ _ _ _ _ _ _ _ _ _ _ _ _ _ _ _ _ _ _ _ _ _ _ _ _ _ H_ hI_60
              obtain ⟨s_59, rfl, tn_, j1__, hvs, c_61, kq, rfl, hkq, rfl⟩ := hI_60
              cases hvs
              have z_62 := c_61.size
              refine sB_d (fun hsB7 => ?_) (fun hsB7 => ?_)
              ·
                have h_63 := call5a.mv c_61 (tagn (by simp))
                obtain ⟨a_64, rfl⟩ := h_63.ne_none (by omega)
                refine nz_i ?_
                refine ask_t (by omega) ?_
                have h_65 := call5b.mv c_61 (tagn (by simp))
                obtain ⟨⟨xr5, xc5⟩, hx5⟩ : ∃ x, hscall5[kq]? = some x := ⟨hscall5[kq]'(by have h := (h_65).len; rw [h, nows_len]; first | omega | (show kq < V.D.blocks.length; omega)), by simp⟩
                obtain ⟨ay5, hay5⟩ := ((h_65).at_ kq _ _ hx5 (nows_get (V := Vcall4) (by first | omega | (show kq < V.D.blocks.length; omega)))).ne
                simp only at hay5
                subst hay5
                have hw5 : Sl s_59 (some ay5) (bvs (Vcall4.now (kq : Int))) (M + 23) := ((h_65).at_ kq _ _ hx5 (nows_get (V := Vcall4) (by first | omega | (show kq < V.D.blocks.length; omega)))).sl
                have hwl5 : (Vcall4.now (kq : Int)).length = 128 := ((h_65).at_ kq _ _ hx5 (nows_get (V := Vcall4) (by first | omega | (show kq < V.D.blocks.length; omega)))).len
                refine ld_sl (v := .slice (some ay5) 128 xc5) (h_63).sl (by rw [Int.toNat_natCast, Nat.mul_one]; exact bcell hx5) ?_
                refine dSl_i ?_
                refine ⟨fun vs H' => ∃ s' : TH, s'.h = H' ∧ ∃ tm j2_, vs = [.int .i64 tm, .int .i64 j2_] ∧ Ch [] s_59 s' ∧ (∃ jq : Nat, j2_ = jq ∧ jq ≤ 128 ∧ tm = ((T1 (n2 * Bcall1 + 1) kq + T2 (n2 * Bcall1 + 1) (12 + i2 / 8) kq jq : Nat) : Int)), fun vs H' => match vs with | [.int .i64 tm, .int .i64 j2_] => (128 - j2_).toNat | _ => 0, ⟨s_59, rfl, _, _, rfl, Ch.refl _ _, ?_⟩, ?_⟩
                ·
                  exact ⟨0, rfl, by omega, by rw [T2_zero]; rfl⟩
                ·
                  intro tm j2_ _ _ _ _ _ _ _ _ _ _ _ _ _ _ _ _ _ _ _ _ _ H_ hI_67
                  obtain ⟨s_66, rfl, tm_, j2__, hvs, c_68, jq, rfl, hjq, rfl⟩ := hI_67
                  cases hvs
                  have z_69 := c_68.size
                  have ht1 := T1_le (n2 * Bcall1 + 1) kq
                  have ht2 := T2_le (n2 * Bcall1 + 1) (12 + i2 / 8) kq jq
                  refine sB_d (fun hsB8 => ?_) (fun hsB8 => ?_)
                  ·
                    refine jn_u ?_
                    refine nz_i ?_
                    refine ask_t (by omega) ?_
                    have h_70 := h_63.mv c_68 (tagn (by simp))
                    have h_71 := h_65.mv c_68 (tagn (by simp))
                    obtain ⟨⟨xr5, xc5⟩, hx5⟩ : ∃ x, hscall5[kq]? = some x := ⟨hscall5[kq]'(by have h := (h_71).len; rw [h, nows_len]; first | omega | (show kq < V.D.blocks.length; omega)), by simp⟩
                    obtain ⟨ay5, hay5⟩ := ((h_71).at_ kq _ _ hx5 (nows_get (V := Vcall4) (by first | omega | (show kq < V.D.blocks.length; omega)))).ne
                    simp only at hay5
                    subst hay5
                    have hw5 : Sl s_66 (some ay5) (bvs (Vcall4.now (kq : Int))) (M + 23) := ((h_71).at_ kq _ _ hx5 (nows_get (V := Vcall4) (by first | omega | (show kq < V.D.blocks.length; omega)))).sl
                    have hwl5 : (Vcall4.now (kq : Int)).length = 128 := ((h_71).at_ kq _ _ hx5 (nows_get (V := Vcall4) (by first | omega | (show kq < V.D.blocks.length; omega)))).len
                    refine ld_sl (v := .slice (some ay5) 128 xc5) (h_70).sl (by rw [Int.toNat_natCast, Nat.mul_one]; exact bcell hx5) ?_
                    refine dSl_i ?_
                    refine nz_i ?_
                    refine ask_t (by omega) ?_
                    refine ld_bv hw5 (by omega) (by omega) fun vel4 hel4 => ?_
                    rw [Int.toNat_natCast] at hel4
                    refine dInt_i ?_
                    have h_72 := call3a.mv (((c_51.app c_57).app c_61).app c_68) (tagn (by simp <;> omega))
                    obtain ⟨a_73, rfl⟩ := h_72.ne_none (by omega)
                    refine nz_i ?_
                    refine ask_t (by omega) ?_
                    have h_74 := call3b.mv (((c_51.app c_57).app c_61).app c_68) (tagn (by simp <;> omega))
                    obtain ⟨⟨xr3, xc3⟩, hx3⟩ : ∃ x, hscall3[kq]? = some x := ⟨hscall3[kq]'(by have h := (h_74).len; rw [h, nows_len]; first | omega | (show kq < V.D.blocks.length; omega)), by simp⟩
                    obtain ⟨ay3, hay3⟩ := ((h_74).at_ kq _ _ hx3 (nows_get (V := (V.tk 1)) (by first | omega | (show kq < V.D.blocks.length; omega)))).ne
                    simp only at hay3
                    subst hay3
                    have hw3 : Sl s_66 (some ay3) (bvs (V.now (kq : Int))) (M + 21) := ((h_74).at_ kq _ _ hx3 (nows_get (V := (V.tk 1)) (by first | omega | (show kq < V.D.blocks.length; omega)))).sl
                    have hwl3 : (V.now (kq : Int)).length = 128 := ((h_74).at_ kq _ _ hx3 (nows_get (V := (V.tk 1)) (by first | omega | (show kq < V.D.blocks.length; omega)))).len
                    refine ld_sl (v := .slice (some ay3) 128 xc3) (h_72).sl (by rw [Int.toNat_natCast, Nat.mul_one]; exact bcell hx3) ?_
                    refine dSl_i ?_
                    refine nz_i ?_
                    refine ask_t (by omega) ?_
                    refine ld_bv hw3 (by omega) (by omega) fun vel6 hel6 => ?_
                    rw [Int.toNat_natCast] at hel6
                    refine dInt_i ?_
                    refine sB_nd (fun hsB9 => ?_) (fun hsB9 => ?_)
                    ·
                      refine wr_t (by omega) ?_
                      intro _
                      intros
                      refine dInt_i ?_
                      refine wr_t (by omega) ?_
                      refine ⟨⟨s_66, rfl, _, _, rfl, ((Ch.refl [] s_59).ch c_68 (by simp)), ?_⟩, ?_⟩
                      ·
                        exact ⟨jq + 1, by omega, by omega, by (have h := T_b1 (hdf.byte (by assumption) (by assumption)) (by assumption); omega)⟩
                      ·
                        simp only []; omega
                    ·
                      intro _
                      intros
                      refine dInt_i ?_
                      refine wr_t (by omega) ?_
                      refine ⟨⟨s_66, rfl, _, _, rfl, ((Ch.refl [] s_59).ch c_68 (by simp)), ?_⟩, ?_⟩
                      ·
                        exact ⟨jq + 1, by omega, by omega, by (have h := T_b0 (hdf.byte (by assumption) (by assumption)) (by assumption); omega)⟩
                      ·
                        simp only []; omega
                  ·
                    refine wr_t (by omega) ?_
                    refine ⟨⟨s_66, rfl, _, _, rfl, (((Ch.refl [] s_54).ch c_61 (by simp)).ch c_68 (by simp)), ?_⟩, ?_⟩
                    ·
                      have hj128 : jq = 128 := by omega
                      subst hj128
                      exact ⟨kq + 1, by omega, by omega, by rw [T_step (by omega)]⟩
                    ·
                      simp only []; omega
              ·
                have h_75 := h_47.ch ((c_51.app c_57).app c_61) (by simp <;> omega)
                refine ld_t h_75 rfl ?_
                refine dInt_i ?_
                refine ask_t (by omega) ?_
                refine wr_t (by simp <;> omega) ?_
                refine wr_t (by simp <;> omega) ?_
                refine ⟨fun vs H' => ∃ s' : TH, s'.h = H' ∧ ∃ fb j3_, vs = [.bool fb, .int .i64 j3_] ∧ Ch [] s_59 s' ∧ (∃ kf : Nat, j3_ = kf ∧ 2 + Ncall1 / 4 ≤ kf ∧ kf ≤ Bcall1 ∧ (fb = true ↔ ∀ j, 2 + Ncall1 / 4 ≤ j → j < kf → hasB [b0, b1, b2, b3, b4, b5, b6, b7, b8, b9, b10, b11, b12, b13, b14, b15, b16, b17, b18, b19, b20, b21, b22, b23, b24, b25, b26, b27, b28, b29, b30, b31] j = true)), fun vs H' => match vs with | [.bool fb, .int .i64 j3_] => ((Bcall1 : Int) - j3_).toNat | _ => 0, ⟨s_59, rfl, _, _, rfl, Ch.refl _ _, ?_⟩, ?_⟩
                ·
                  exact ⟨2 + Ncall1 / 4, by rw [Int.tdiv_eq_ediv_of_nonneg (by omega)]; omega, by omega, by omega, ⟨fun _ j h1 h2 => by omega, fun _ => rfl⟩⟩
                ·
                  intro fb j3_ _ _ _ _ _ _ _ _ _ _ _ _ _ _ _ _ H_ hI_77
                  obtain ⟨s_76, rfl, fb_, j3__, hvs, c_78, kf, rfl, hkf, hkfB, hfb⟩ := hI_77
                  cases hvs
                  have z_79 := c_78.size
                  have h_80 := h_75.ch c_78 (by simp)
                  refine ld_t h_80 rfl ?_
                  refine dInt_i ?_
                  refine sB_d (fun hsB10 => ?_) (fun hsB10 => ?_)
                  ·
                    refine jn_u ?_
                    refine ask_t (by omega) ?_
                    refine wr_t (by simp <;> omega) ?_
                    refine ask_t (by simp <;> omega) ?_
                    have h_81 := b_36.ch ((((c_44.app c_51).app c_57).app c_61).app c_78) (by simp <;> omega)
                    have h_82 := call5b.mv (c_61.app c_78) (tagn (by simp))
                    have h_83 := call5a.mv (c_61.app c_78) (tagn (by simp))
                    have h_84 := call3b.mv (((c_51.app c_57).app c_61).app c_78) (tagn (by simp <;> omega))
                    have h_85 := call3a.mv (((c_51.app c_57).app c_61).app c_78) (tagn (by simp <;> omega))
                    obtain ⟨bx, hbx⟩ : ∃ b, [b0, b1, b2, b3, b4, b5, b6, b7, b8, b9, b10, b11, b12, b13, b14, b15, b16, b17, b18, b19, b20, b21, b22, b23, b24, b25, b26, b27, b28, b29, b30, b31][kf / 8]? = some b := ⟨[b0, b1, b2, b3, b4, b5, b6, b7, b8, b9, b10, b11, b12, b13, b14, b15, b16, b17, b18, b19, b20, b21, b22, b23, b24, b25, b26, b27, b28, b29, b30, b31][kf / 8]'(by show kf / 8 < 32; omega), by simp⟩
                    have hb8 := bx.toNat_lt
                    have hgd : [b0, b1, b2, b3, b4, b5, b6, b7, b8, b9, b10, b11, b12, b13, b14, b15, b16, b17, b18, b19, b20, b21, b22, b23, b24, b25, b26, b27, b28, b29, b30, b31].getD (kf / 8) 0 = bx := by rw [List.getD_eq_getElem?_getD, hbx]; rfl
                    rw [td8]
                    refine ld_sl (gv_slB h_81 rfl rfl) (by rw [Int.toNat_natCast, Nat.mul_one]; exact bvs_get hbx) ?_
                    refine dInt_i ?_
                    refine ask_t (by omega) ?_
                    rw [tm8]
                    refine nm_t rfl ?_
                    refine ask_t (by omega) ?_
                    rw [shr8 _ _ (by omega)]
                    refine nm_t rfl ?_
                    rw [and1 _ (Nat.lt_of_le_of_lt (Nat.div_le_self _ _) hb8)]
                    refine nm_t rfl ?_
                    refine sB_d (fun hsB11 => ?_) (fun hsB11 => ?_)
                    ·
                      intro _
                      intros
                      refine dBl_i ?_
                      refine wr_t (by omega) ?_
                      refine ⟨⟨s_76, rfl, _, _, rfl, ((Ch.refl [] s_59).ch c_78 (by simp)), ?_⟩, ?_⟩
                      ·
                        exact ⟨kf + 1, by omega, by omega, by omega, ⟨fun h => (by cases h), fun h => by (have := h kf (by omega) (by omega); unfold hasB at this; rw [hgd] at this; simp at this; omega)⟩⟩
                      ·
                        simp only []; omega
                    ·
                      intro _
                      intros
                      refine dBl_i ?_
                      refine wr_t (by omega) ?_
                      refine ⟨⟨s_76, rfl, _, _, rfl, ((Ch.refl [] s_59).ch c_78 (by simp)), ?_⟩, ?_⟩
                      ·
                        refine ⟨kf + 1, by omega, by omega, by omega, ⟨fun h j h1 h2 => ?_, fun h => hfb.2 (fun j h1 h2 => h j h1 (by omega))⟩⟩
                        by_cases e : j = kf
                        · subst e; unfold hasB; rw [hgd]; simp; omega
                        · exact hfb.1 h j h1 (by omega)
                      ·
                        simp only []; omega
                  ·
                    refine jn_u ?_
                    refine sB_f (T1_end (L := Gcall1 * Bcall1) (by (have h1 : (n2 + 1) * Bcall1 ≤ Gcall1 * Bcall1 := Nat.mul_le_mul_right _ hn2); rw [Nat.succ_mul] at h1; omega) (by omega)) ?_
                    refine ld_t h_80 rfl ?_
                    refine dInt_i ?_
                    refine ask_t (by omega) ?_
                    rw [hx2, tdv hi2B]
                    refine wr_t (by omega) ?_
                    intro _
                    intros
                    refine dBl_i ?_
                    refine sB_f (near_ok hnG hkz hne2 hful hi2 hi2B hb2 (by (have e : kf = Bcall1 := by omega); rw [hbl, ← e]; exact hfb)) ?_
                    refine wr_t (by omega) ?_
                    refine ⟨⟨s_76, rfl, _, rfl, ((((((((((Ch.refl [U, U + 3, U + 20, U + 21, U + 22, U + 23, U + 30, U + 32, M + 9] s18).ch c_22 (by simp)).ch c_31 (by simp)).ch c_34 (by simp)).ch c_37 (by simp)).ch c_44 (by simp)).ch c_51 (by simp)).ch c_57 (by simp)).ch c_61 (by simp)).ch c_78 (by simp)), ?_⟩, ?_⟩
                    ·
                      have h_86 := call5c.mv (c_61.app c_78) (rngn50 (by simp))
                      exact ⟨kk + 1, _, _, by omega, by omega, by omega, h_86, (((hA.tk (kw + (kt : Int))).up (by omega) hn2 (by omega) hch).tk _), by show Vcall4.P.last ≤ _; omega, by show Vcall4.n + _ ≤ _; omega⟩
                    ·
                      simp only []; omega
        ·
          refine al_t (M + 9) fun r590 s591 hr590 b_87 c_88 z_89 => ?_
          refine ⟨?_, ?_⟩
          ·
            have h_90 := h_26.ch c_88 (by simp)
            refine ld_t h_90 rfl ?_
            refine ld_t h_90 rfl ?_
            refine ld_t h_90 rfl ?_
            rfl
          ·
            refine ⟨?_, ?_⟩
            ·
              have h_91 := h_27.ch c_88 (by simp)
              refine ld_t h_91 rfl ?_
              refine dPtr_i ?_
              rfl
            ·
              have h_92 := hv.mv c_88 (rngn50 (by simp))
              refine tcall (c_aHeader vpcall1 dcall1 U V Gcall1 Bcall1 Ncall1 n i0 i1 i2 i3 i4 i5 i6 i7 b0 b1 b2 b3 b4 b5 b6 b7 b8 b9 b10 b11 b12 b13 b14 b15 b16 b17 b18 b19 b20 b21 b22 b23 b24 b25 b26 b27 b28 b29 b30 b31 _ h_92 hU hg (by omega) (by omega) hl hnG hnow) ?_
              rintro v_94 s_93 ⟨rfl, c_96, call6a⟩
              have z_97 := c_96.size
              have hv1 : VolL s_93 vpcall1 dcall1 U (V.tk 1) 0 := call6a
              refine dT2 ?_
              refine dA41 ?_
              refine dInt_i ?_
              have h_101 := b_87.ch c_96 (by simp <;> omega)
              refine stG (n : Int) (il := [i0, i1, i2, i3, i4, i5, i6, i7]) (bl := [b0, b1, b2, b3, b4, b5, b6, b7, b8, b9, b10, b11, b12, b13, b14, b15, b16, b17, b18, b19, b20, b21, b22, b23, b24, b25, b26, b27, b28, b29, b30, b31]) rfl rfl rfl h_101 (by rfl) fun s643 b_98 c_99o z_100 => ?_
              have c_99 := on_ch h_101 c_99o
              refine sB_f (by rfl) ?_
              have h_102 := hv1.mv c_99 (rngn50 (by simp <;> omega))
              have h_103 := h_27.ch ((c_88.app c_96).app c_99) (by simp <;> omega)
              refine tcall (c_pnow2 pcall1 vpcall1 dcall1 U (V.tk 1) _ _ _ (M + 10) (M + 20) (M + 21) _ hU h_102 h_103 (by show V.n + 1 < _; omega) (by omega)) ?_
              rintro v_105 s_104 ⟨acall7, ccall7, hscall7, rfl, c_107, call7a, call7b, call7c⟩
              have z_108 := c_107.size
              have hv2 : VolL s_104 vpcall1 dcall1 U (V.tk (1 + ((V.D.blocks.length : Nat) : Int))) 0 := by rw [← tk_tk]; exact call7c
              obtain ⟨kw, hkw⟩ : ∃ kw : Int, kw = 1 + ((V.D.blocks.length : Nat) : Int) := ⟨_, rfl⟩
              rw [← hkw] at hv2
              have hlw : (V.tk 1).D.blocks.length = Gcall1 * Bcall1 := hl
              refine dSl_i ?_
              refine nz_i ?_
              have h_109 := h_103.ch c_107 (by simp <;> omega)
              refine ld_t h_109 rfl ?_
              refine dPtr_i ?_
              have h_110 := h_26.ch (((c_88.app c_96).app c_99).app c_107) (by simp <;> omega)
              refine ld_t h_110 rfl ?_
              refine ld_t h_110 rfl ?_
              refine ld_t h_110 rfl ?_
              refine tcall (c_ablk vpcall1 dcall1 U (V.tk kw) Gcall1 Bcall1 Ncall1 n A _ hv2 hU hg (by show V.n + kw < _; omega) (by show V.P.last < _; omega) (hA.tk kw) hnG) ?_
              rintro v_112 s_111 ⟨Vcall8, xcall8, ycall8, ecall8, rfl, c_114, call8a, call8b⟩
              have z_115 := c_114.size
              rcases call8b with ⟨rfl, hfl, kz, hkz, hVz⟩ | ⟨rfl, n2, i2, kz, kt, hn2, hkz, hne2, hful, hi2, hi2B, hb2, hx2, hkt, hch⟩
              ·
                try (rw [tk_tk] at hch)
                try (have hdf := hA.dif hn2 (by omega) hb2 hch)
                try (have hDV : Vcall8.D = V.D := hch.D)
                try (have hlV : Vcall8.D.blocks.length = Gcall1 * Bcall1 := by rw [hDV]; exact hl)
                try (have hnV := hch.n)
                try (have hnV1 := ticks_le (V.tk (kw + (kt : Int))) (hB n2 Bcall1))
                try (rw [tk_n] at hnV1)
                try (have hlaV := hch.last)
                try (rw [tk_last] at hlaV)
                refine dT3 ?_
                refine dInt_i ?_
                refine dInt_i ?_
                refine dInt_i ?_
                refine sB_t (by rfl) ?_
                refine ret_t ?_
                exact ⟨rfl, ((((((((((((Ch.refl [U, U + 3, U + 11, U + 20, U + 21, U + 22, U + 23, U + 30, U + 32] s).ch c_2 (by simp)).ch c_7 (by simp)).fr c_10 hM (by simp)).fr c_14 hM (by simp)).fr c_17 hM (by simp)).fr c_22 hM (by simp)).ch c_88 (by simp)).ch c_96 (by simp)).fr c_99 hM (by simp)).ch c_107 (by simp)).ch c_114 (by simp))⟩
              ·
                try (rw [tk_tk] at hch)
                try (have hdf := hA.dif hn2 (by omega) hb2 hch)
                try (have hDV : Vcall8.D = V.D := hch.D)
                try (have hlV : Vcall8.D.blocks.length = Gcall1 * Bcall1 := by rw [hDV]; exact hl)
                try (have hnV := hch.n)
                try (have hnV1 := ticks_le (V.tk (kw + (kt : Int))) (hB n2 Bcall1))
                try (rw [tk_n] at hnV1)
                try (have hlaV := hch.last)
                try (rw [tk_last] at hlaV)
                refine dT3 ?_
                refine dInt_i ?_
                refine dInt_i ?_
                refine dInt_i ?_
                refine sB_f (by rfl) ?_
                have h_116 := h_109.ch c_114 (by simp <;> omega)
                refine tcall (c_pnow2 pcall1 vpcall1 dcall1 U Vcall8 _ _ _ (M + 10) (M + 22) (M + 23) _ hU call8a h_116 (by omega) (by omega)) ?_
                rintro v_118 s_117 ⟨acall9, ccall9, hscall9, rfl, c_120, call9a, call9b, call9c⟩
                have z_121 := c_120.size
                refine dSl_i ?_
                refine ⟨fun vs H' => ∃ s' : TH, s'.h = H' ∧ ∃ tn j1_, vs = [.int .i64 tn, .int .i64 j1_] ∧ Ch [] s_117 s' ∧ (∃ kq : Nat, j1_ = kq ∧ kq ≤ Vcall8.D.blocks.length ∧ tn = ((T1 (n2 * Bcall1 + 1) kq : Nat) : Int)), fun vs H' => match vs with | [.int .i64 tn, .int .i64 j1_] => ((Vcall8.D.blocks.length : Int) - j1_).toNat | _ => 0, ⟨s_117, rfl, _, _, rfl, Ch.refl _ _, ?_⟩, ?_⟩
                ·
                  exact ⟨0, rfl, by omega, rfl⟩
                ·
                  intro tn j1_ _ _ _ _ _ _ _ _ _ _ _ _ _ _ _ _ _ _ _ _ _ _ _ _ _ _ _ _ _ _ _ H_ hI_123
                  obtain ⟨s_122, rfl, tn_, j1__, hvs, c_124, kq, rfl, hkq, rfl⟩ := hI_123
                  cases hvs
                  have z_125 := c_124.size
                  refine sB_d (fun hsB17 => ?_) (fun hsB17 => ?_)
                  ·
                    have h_126 := call9a.mv c_124 (tagn (by simp))
                    obtain ⟨a_127, rfl⟩ := h_126.ne_none (by omega)
                    refine nz_i ?_
                    refine ask_t (by omega) ?_
                    have h_128 := call9b.mv c_124 (tagn (by simp))
                    obtain ⟨⟨xr9, xc9⟩, hx9⟩ : ∃ x, hscall9[kq]? = some x := ⟨hscall9[kq]'(by have h := (h_128).len; rw [h, nows_len]; first | omega | (show kq < V.D.blocks.length; omega)), by simp⟩
                    obtain ⟨ay9, hay9⟩ := ((h_128).at_ kq _ _ hx9 (nows_get (V := Vcall8) (by first | omega | (show kq < V.D.blocks.length; omega)))).ne
                    simp only at hay9
                    subst hay9
                    have hw9 : Sl s_122 (some ay9) (bvs (Vcall8.now (kq : Int))) (M + 23) := ((h_128).at_ kq _ _ hx9 (nows_get (V := Vcall8) (by first | omega | (show kq < V.D.blocks.length; omega)))).sl
                    have hwl9 : (Vcall8.now (kq : Int)).length = 128 := ((h_128).at_ kq _ _ hx9 (nows_get (V := Vcall8) (by first | omega | (show kq < V.D.blocks.length; omega)))).len
                    refine ld_sl (v := .slice (some ay9) 128 xc9) (h_126).sl (by rw [Int.toNat_natCast, Nat.mul_one]; exact bcell hx9) ?_
                    refine dSl_i ?_
                    refine ⟨fun vs H' => ∃ s' : TH, s'.h = H' ∧ ∃ tm j2_, vs = [.int .i64 tm, .int .i64 j2_] ∧ Ch [] s_122 s' ∧ (∃ jq : Nat, j2_ = jq ∧ jq ≤ 128 ∧ tm = ((T1 (n2 * Bcall1 + 1) kq + T2 (n2 * Bcall1 + 1) (12 + i2 / 8) kq jq : Nat) : Int)), fun vs H' => match vs with | [.int .i64 tm, .int .i64 j2_] => (128 - j2_).toNat | _ => 0, ⟨s_122, rfl, _, _, rfl, Ch.refl _ _, ?_⟩, ?_⟩
                    ·
                      exact ⟨0, rfl, by omega, by rw [T2_zero]; rfl⟩
                    ·
                      intro tm j2_ _ _ _ _ _ _ _ _ _ _ _ _ _ _ _ _ _ _ _ _ _ H_ hI_130
                      obtain ⟨s_129, rfl, tm_, j2__, hvs, c_131, jq, rfl, hjq, rfl⟩ := hI_130
                      cases hvs
                      have z_132 := c_131.size
                      have ht1 := T1_le (n2 * Bcall1 + 1) kq
                      have ht2 := T2_le (n2 * Bcall1 + 1) (12 + i2 / 8) kq jq
                      refine sB_d (fun hsB18 => ?_) (fun hsB18 => ?_)
                      ·
                        refine jn_u ?_
                        refine nz_i ?_
                        refine ask_t (by omega) ?_
                        have h_133 := h_126.mv c_131 (tagn (by simp))
                        have h_134 := h_128.mv c_131 (tagn (by simp))
                        obtain ⟨⟨xr9, xc9⟩, hx9⟩ : ∃ x, hscall9[kq]? = some x := ⟨hscall9[kq]'(by have h := (h_134).len; rw [h, nows_len]; first | omega | (show kq < V.D.blocks.length; omega)), by simp⟩
                        obtain ⟨ay9, hay9⟩ := ((h_134).at_ kq _ _ hx9 (nows_get (V := Vcall8) (by first | omega | (show kq < V.D.blocks.length; omega)))).ne
                        simp only at hay9
                        subst hay9
                        have hw9 : Sl s_129 (some ay9) (bvs (Vcall8.now (kq : Int))) (M + 23) := ((h_134).at_ kq _ _ hx9 (nows_get (V := Vcall8) (by first | omega | (show kq < V.D.blocks.length; omega)))).sl
                        have hwl9 : (Vcall8.now (kq : Int)).length = 128 := ((h_134).at_ kq _ _ hx9 (nows_get (V := Vcall8) (by first | omega | (show kq < V.D.blocks.length; omega)))).len
                        refine ld_sl (v := .slice (some ay9) 128 xc9) (h_133).sl (by rw [Int.toNat_natCast, Nat.mul_one]; exact bcell hx9) ?_
                        refine dSl_i ?_
                        refine nz_i ?_
                        refine ask_t (by omega) ?_
                        refine ld_bv hw9 (by omega) (by omega) fun vel9 hel9 => ?_
                        rw [Int.toNat_natCast] at hel9
                        refine dInt_i ?_
                        have h_135 := call7a.mv (((c_114.app c_120).app c_124).app c_131) (tagn (by simp <;> omega))
                        obtain ⟨a_136, rfl⟩ := h_135.ne_none (by omega)
                        refine nz_i ?_
                        refine ask_t (by omega) ?_
                        have h_137 := call7b.mv (((c_114.app c_120).app c_124).app c_131) (tagn (by simp <;> omega))
                        obtain ⟨⟨xr7, xc7⟩, hx7⟩ : ∃ x, hscall7[kq]? = some x := ⟨hscall7[kq]'(by have h := (h_137).len; rw [h, nows_len]; first | omega | (show kq < V.D.blocks.length; omega)), by simp⟩
                        obtain ⟨ay7, hay7⟩ := ((h_137).at_ kq _ _ hx7 (nows_get (V := (V.tk 1)) (by first | omega | (show kq < V.D.blocks.length; omega)))).ne
                        simp only at hay7
                        subst hay7
                        have hw7 : Sl s_129 (some ay7) (bvs (V.now (kq : Int))) (M + 21) := ((h_137).at_ kq _ _ hx7 (nows_get (V := (V.tk 1)) (by first | omega | (show kq < V.D.blocks.length; omega)))).sl
                        have hwl7 : (V.now (kq : Int)).length = 128 := ((h_137).at_ kq _ _ hx7 (nows_get (V := (V.tk 1)) (by first | omega | (show kq < V.D.blocks.length; omega)))).len
                        refine ld_sl (v := .slice (some ay7) 128 xc7) (h_135).sl (by rw [Int.toNat_natCast, Nat.mul_one]; exact bcell hx7) ?_
                        refine dSl_i ?_
                        refine nz_i ?_
                        refine ask_t (by omega) ?_
                        refine ld_bv hw7 (by omega) (by omega) fun vel11 hel11 => ?_
                        rw [Int.toNat_natCast] at hel11
                        refine dInt_i ?_
                        refine sB_nd (fun hsB19 => ?_) (fun hsB19 => ?_)
                        ·
                          refine wr_t (by omega) ?_
                          intro _
                          intros
                          refine dInt_i ?_
                          refine wr_t (by omega) ?_
                          refine ⟨⟨s_129, rfl, _, _, rfl, ((Ch.refl [] s_122).ch c_131 (by simp)), ?_⟩, ?_⟩
                          ·
                            exact ⟨jq + 1, by omega, by omega, by (have h := T_b1 (hdf.byte (by assumption) (by assumption)) (by assumption); omega)⟩
                          ·
                            simp only []; omega
                        ·
                          intro _
                          intros
                          refine dInt_i ?_
                          refine wr_t (by omega) ?_
                          refine ⟨⟨s_129, rfl, _, _, rfl, ((Ch.refl [] s_122).ch c_131 (by simp)), ?_⟩, ?_⟩
                          ·
                            exact ⟨jq + 1, by omega, by omega, by (have h := T_b0 (hdf.byte (by assumption) (by assumption)) (by assumption); omega)⟩
                          ·
                            simp only []; omega
                      ·
                        refine wr_t (by omega) ?_
                        refine ⟨⟨s_129, rfl, _, _, rfl, (((Ch.refl [] s_117).ch c_124 (by simp)).ch c_131 (by simp)), ?_⟩, ?_⟩
                        ·
                          have hj128 : jq = 128 := by omega
                          subst hj128
                          exact ⟨kq + 1, by omega, by omega, by rw [T_step (by omega)]⟩
                        ·
                          simp only []; omega
                  ·
                    have h_138 := h_110.ch ((c_114.app c_120).app c_124) (by simp <;> omega)
                    refine ld_t h_138 rfl ?_
                    refine dInt_i ?_
                    refine ask_t (by omega) ?_
                    refine wr_t (by simp <;> omega) ?_
                    refine wr_t (by simp <;> omega) ?_
                    refine ⟨fun vs H' => ∃ s' : TH, s'.h = H' ∧ ∃ fb j3_, vs = [.bool fb, .int .i64 j3_] ∧ Ch [] s_122 s' ∧ (∃ kf : Nat, j3_ = kf ∧ 2 + Ncall1 / 4 ≤ kf ∧ kf ≤ Bcall1 ∧ (fb = true ↔ ∀ j, 2 + Ncall1 / 4 ≤ j → j < kf → hasB [b0, b1, b2, b3, b4, b5, b6, b7, b8, b9, b10, b11, b12, b13, b14, b15, b16, b17, b18, b19, b20, b21, b22, b23, b24, b25, b26, b27, b28, b29, b30, b31] j = true)), fun vs H' => match vs with | [.bool fb, .int .i64 j3_] => ((Bcall1 : Int) - j3_).toNat | _ => 0, ⟨s_122, rfl, _, _, rfl, Ch.refl _ _, ?_⟩, ?_⟩
                    ·
                      exact ⟨2 + Ncall1 / 4, by rw [Int.tdiv_eq_ediv_of_nonneg (by omega)]; omega, by omega, by omega, ⟨fun _ j h1 h2 => by omega, fun _ => rfl⟩⟩
                    ·
                      intro fb j3_ _ _ _ _ _ _ _ _ _ _ _ _ _ _ _ _ H_ hI_140
                      obtain ⟨s_139, rfl, fb_, j3__, hvs, c_141, kf, rfl, hkf, hkfB, hfb⟩ := hI_140
                      cases hvs
                      have z_142 := c_141.size
                      have h_143 := h_138.ch c_141 (by simp)
                      refine ld_t h_143 rfl ?_
                      refine dInt_i ?_
                      refine sB_d (fun hsB20 => ?_) (fun hsB20 => ?_)
                      ·
                        refine jn_u ?_
                        refine ask_t (by omega) ?_
                        refine wr_t (by simp <;> omega) ?_
                        refine ask_t (by simp <;> omega) ?_
                        have h_144 := b_98.ch ((((c_107.app c_114).app c_120).app c_124).app c_141) (by simp <;> omega)
                        have h_145 := call9b.mv (c_124.app c_141) (tagn (by simp))
                        have h_146 := call9a.mv (c_124.app c_141) (tagn (by simp))
                        have h_147 := call7b.mv (((c_114.app c_120).app c_124).app c_141) (tagn (by simp <;> omega))
                        have h_148 := call7a.mv (((c_114.app c_120).app c_124).app c_141) (tagn (by simp <;> omega))
                        obtain ⟨bx, hbx⟩ : ∃ b, [b0, b1, b2, b3, b4, b5, b6, b7, b8, b9, b10, b11, b12, b13, b14, b15, b16, b17, b18, b19, b20, b21, b22, b23, b24, b25, b26, b27, b28, b29, b30, b31][kf / 8]? = some b := ⟨[b0, b1, b2, b3, b4, b5, b6, b7, b8, b9, b10, b11, b12, b13, b14, b15, b16, b17, b18, b19, b20, b21, b22, b23, b24, b25, b26, b27, b28, b29, b30, b31][kf / 8]'(by show kf / 8 < 32; omega), by simp⟩
                        have hb8 := bx.toNat_lt
                        have hgd : [b0, b1, b2, b3, b4, b5, b6, b7, b8, b9, b10, b11, b12, b13, b14, b15, b16, b17, b18, b19, b20, b21, b22, b23, b24, b25, b26, b27, b28, b29, b30, b31].getD (kf / 8) 0 = bx := by rw [List.getD_eq_getElem?_getD, hbx]; rfl
                        rw [td8]
                        refine ld_sl (gv_slB h_144 rfl rfl) (by rw [Int.toNat_natCast, Nat.mul_one]; exact bvs_get hbx) ?_
                        refine dInt_i ?_
                        refine ask_t (by omega) ?_
                        rw [tm8]
                        refine nm_t rfl ?_
                        refine ask_t (by omega) ?_
                        rw [shr8 _ _ (by omega)]
                        refine nm_t rfl ?_
                        rw [and1 _ (Nat.lt_of_le_of_lt (Nat.div_le_self _ _) hb8)]
                        refine nm_t rfl ?_
                        refine sB_d (fun hsB21 => ?_) (fun hsB21 => ?_)
                        ·
                          intro _
                          intros
                          refine dBl_i ?_
                          refine wr_t (by omega) ?_
                          refine ⟨⟨s_139, rfl, _, _, rfl, ((Ch.refl [] s_122).ch c_141 (by simp)), ?_⟩, ?_⟩
                          ·
                            exact ⟨kf + 1, by omega, by omega, by omega, ⟨fun h => (by cases h), fun h => by (have := h kf (by omega) (by omega); unfold hasB at this; rw [hgd] at this; simp at this; omega)⟩⟩
                          ·
                            simp only []; omega
                        ·
                          intro _
                          intros
                          refine dBl_i ?_
                          refine wr_t (by omega) ?_
                          refine ⟨⟨s_139, rfl, _, _, rfl, ((Ch.refl [] s_122).ch c_141 (by simp)), ?_⟩, ?_⟩
                          ·
                            refine ⟨kf + 1, by omega, by omega, by omega, ⟨fun h j h1 h2 => ?_, fun h => hfb.2 (fun j h1 h2 => h j h1 (by omega))⟩⟩
                            by_cases e : j = kf
                            · subst e; unfold hasB; rw [hgd]; simp; omega
                            · exact hfb.1 h j h1 (by omega)
                          ·
                            simp only []; omega
                      ·
                        refine jn_u ?_
                        refine sB_f (T1_end (L := Gcall1 * Bcall1) (by (have h1 : (n2 + 1) * Bcall1 ≤ Gcall1 * Bcall1 := Nat.mul_le_mul_right _ hn2); rw [Nat.succ_mul] at h1; omega) (by omega)) ?_
                        refine ld_t h_143 rfl ?_
                        refine dInt_i ?_
                        refine ask_t (by omega) ?_
                        rw [hx2, tdv hi2B]
                        refine wr_t (by omega) ?_
                        intro _
                        intros
                        refine dBl_i ?_
                        refine sB_f (near_ok hnG hkz hne2 hful hi2 hi2B hb2 (by (have e : kf = Bcall1 := by omega); rw [hbl, ← e]; exact hfb)) ?_
                        refine wr_t (by omega) ?_
                        refine ⟨⟨s_139, rfl, _, rfl, ((((((((((Ch.refl [U, U + 3, U + 20, U + 21, U + 22, U + 23, U + 30, U + 32, M + 9] s18).ch c_22 (by simp)).ch c_88 (by simp)).ch c_96 (by simp)).ch c_99 (by simp)).ch c_107 (by simp)).ch c_114 (by simp)).ch c_120 (by simp)).ch c_124 (by simp)).ch c_141 (by simp)), ?_⟩, ?_⟩
                        ·
                          have h_149 := call9c.mv (c_124.app c_141) (rngn50 (by simp))
                          exact ⟨kk + 1, _, _, by omega, by omega, by omega, h_149, (((hA.tk (kw + (kt : Int))).up (by omega) hn2 (by omega) hch).tk _), by show Vcall8.P.last ≤ _; omega, by show Vcall8.n + _ ≤ _; omega⟩
                        ·
                          simp only []; omega
    ·
      intro _
      intros
      refine ret_t ?_
      exact ⟨rfl, (((((((Ch.refl [U, U + 3, U + 11, U + 20, U + 21, U + 22, U + 23, U + 30, U + 32] s).ch c_2 (by simp)).ch c_7 (by simp)).fr c_10 hM (by simp)).fr c_14 hM (by simp)).fr c_17 hM (by simp)).fr c_22 hM (by simp))⟩
end Go.Proofs.YtngploohhmfaiaaGreat.E
/- The closed facts of a row, one by one. -/
namespace Go.Proofs.YtngploohhmfaiaaGreat.E
open Go
def kindsOf (P : Program) (fn : Func) (c : OpenClaim) : List (Option IntKind) := if c.domain.isEmpty then [] else fn.params.toList.map fun t => match P.underlying t with | some (.int k) => some k | _ => none
theorem andb {a b : Bool} (h : a = true) (k : b = true) : (a && b) = true := by rw [h, k]; rfl
theorem joined_of {P : Program} {f : FuncId} {fn : Func} {s : ChangeSpec} {c : OpenClaim}
    (j0 : (c.wf (OpenSpec.ofChange s)) = true)
    (j1 : (laidOutB P) = true)
    (j2 : (mapsRowed P) = true)
    (j3 : (fn.params.all (P.readableRec ·)) = true)
    (j4 : (namedTie P c.named s.vars) = true)
    (j5 : ((c.stops == [])) = true)
    (j6 : ((P.stops == [])) = true)
    (j7 : ((c.knobs == [])) = true)
    (j8 : ((P.stopKnobs == [])) = true)
    (j9 : ((c.inPlace == P.inPlace f)) = true)
    (j10 : ((c.unfollowed == P.unfollowed f)) = true)
    (j11 : ((c.recurses == P.recurses f)) = true)
    (j12 : ((c.named == P.varsNamed f)) = true)
    (j13 : ((c.maps == (fn.params.toList ++ s.plain.varTypes P).any (P.mapsRec ·))) = true)
    (j14 : ((c.ifaces == (fn.params.toList ++ s.plain.varTypes P).any (P.ifacesRec ·))) = true)
    (j15 : ((c.mapsOut == P.mapsAmong fn.resultTypes.toList)) = true)
    (j16 : ((c.loops == (fn.params.toList ++ s.plain.varTypes P).any (P.loopsFrom ·))) = true)
    (j17 : ((c.wideKeys == (fn.params.toList ++ s.plain.varTypes P ++ fn.resultTypes.toList).any (P.wideKeysFrom ·))) = true)
    (j18 : (s.vars.all (P.varReadable ·)) = true)
    (j19 : (fn.resultTypes.all (fun t => P.readableRec t && decide (t < P.types.size))) = true)
    (j20 : ((c.ifacesOut == fn.resultTypes.toList.any (P.ifacesRec ·))) = true)
    (j21 : ((c.loopsOut == fn.resultTypes.toList.any (P.loopsFrom ·))) = true)
    (j22 : ((c.plainKeys == P.plainKeys)) = true)
    (j23 : (c.shortTexts.isNone) = true)
    (j24 : (P.stopsHeard) = true)
    (j25 : (P.mayEnter) = true)
    (j26 : ((c.lifted == P.liftsFinal)) = true)
    (j27 : ((P.make == some c.make)) = true)
    (j28 : ((c.kinds == kindsOf P fn c)) = true)
    (j29 : ((c.pinned == c.pinnedBy)) = true)
    (j30 : ((c.veiled == (fn.params.toList ++ s.plain.varTypes P ++ fn.resultTypes.toList).any (P.veiledRec ·))) = true)
    (j31 : (c.veiledFits P fn.params.toList (fn.params.toList ++ s.plain.varTypes P ++ fn.resultTypes.toList)) = true)
    : joinedFacts P f fn s c = true := by
  unfold joinedFacts
  exact (andb (andb (andb (andb (andb (andb (andb (andb (andb (andb (andb (andb (andb (andb (andb (andb (andb (andb (andb (andb (andb (andb (andb (andb (andb (andb (andb (andb (andb (andb (andb j0 j1) j2) j3) j4) j5) j6) j7) j8) j9) j10) j11) j12) j13) j14) j15) j16) j17) j18) j19) j20) j21) j22) j23) j24) j25) j26) j27) j28) j29) j30) j31)
end Go.Proofs.YtngploohhmfaiaaGreat.E
