/- Contracts of functions. -/
import Derived.Test.YtngploohhmfaiaaGreatProg
import Derived.KernelRfl
import Derived.Test.YtngploohhmfaiaaGreatLib2
import Derived.Test.YtngploohhmfaiaaGreatF14
import Derived.Test.YtngploohhmfaiaaGreatFm0
import Derived.Test.YtngploohhmfaiaaGreatFm1
import Derived.Test.YtngploohhmfaiaaGreatFm10
import Derived.Test.YtngploohhmfaiaaGreatFm11
import Derived.Test.YtngploohhmfaiaaGreatFm12
import Derived.Test.YtngploohhmfaiaaGreatFm2
import Derived.Test.YtngploohhmfaiaaGreatFm3
import Derived.Test.YtngploohhmfaiaaGreatFm4
import Derived.Test.YtngploohhmfaiaaGreatFm5
import Derived.Test.YtngploohhmfaiaaGreatFm6
import Derived.Test.YtngploohhmfaiaaGreatFm7
import Derived.Test.YtngploohhmfaiaaGreatFm8
import Derived.Test.YtngploohhmfaiaaGreatFm9
import Derived.Test.YtngploohhmfaiaaGreatLib7
import Derived.Test.YtngploohhmfaiaaGreatTys
namespace Go.Proofs.YtngploohhmfaiaaGreat.E
open Go Go.Proofs
set_option linter.unusedVariables false
/-- bytes.Clone -/
theorem c_clone (τ : Nat) {xa : Option Addr} {xn : Nat} (xc : Nat) {l : List UInt8} {τx : Nat} {s : TH} (hx : Sl s xa (bvs l) τx) (hn : l.length = xn) (h0 : xa = none → xn = 0) (hb : xn ≤ 1000000000) : TRet Tryz.prog 48 #[.slice xa xn xc] s fun v s' => ∃ a' c', v = .slice a' xn c' ∧ Ch [] s s' ∧ Own s' a' xn c' 5 1 (bvs l) τ ∧ (a' = none ↔ xa = none) := by
  refine F48_calls _ _ _  ?_
  unfold F48
  first | refine sB_d (fun hsB1 => ?_) (fun hsB1 => ?_) | refine sB_nd (fun hsB1 => ?_) (fun hsB1 => ?_) | refine sB_n (fun hsB1 => ?_) (fun hsB1 => ?_) | refine sB_i (fun hsB1 => ?_) (fun hsB1 => ?_)
  ·
    refine ret_t ?_
    have hxa : xa = none := by simpa using hsB1
    have hl : l = [] := List.eq_nil_of_length_eq_zero (by have := h0 hxa; omega)
    have h0' := h0 hxa
    subst hl h0'
    exact ⟨none, 0, rfl, (Ch.refl [] s), Own.nil _ _ _ _, by simp [hxa]⟩
  ·
    refine al_t τ fun r1 s2 hr1 b_1 c_2 z_3 => ?_
    have x_4 := hx.mv c_2 (tagn (by simp))
    refine app_i u38 in5 rfl (b_1.own0 1) x_4 (by rw [bvs_len]; omega) (bvs_one l) h0 (by unfold maxLen; omega) fun s6 a1 c1 o_7 c_50 hnil => ?_
    have c_5 := c_50.toL rfl
    have z_6 := c_5.size
    refine dSl_i ?_
    refine ret_t ?_
    have hxa : xa ≠ none := by intro h; simp [h] at hsB1
    rw [Nat.zero_add, List.nil_append] at o_7
    simp only [Nat.zero_add]
    exact ⟨a1, c1, rfl, (((Ch.refl [] s).ch c_2 (by simp)).chl c_5 (by simp) (by simp <;> omega)), o_7, by simp [hxa, hnil.1]⟩

/-- math/bits.Mul64 -/
theorem c_mul64 {s : TH} : TRet Tryz.prog 235 #[.int .u64 1, .int .u64 128] s fun v s' => v = .tuple #[.int .u64 0, .int .u64 128] ∧ Ch [] s s' := by
  refine F235_calls _ _  ?_
  unfold F235
  refine nm_a fun n1 hn1 => ?_
  refine ask_t (by decide) ?_
  refine nm_a fun n2 hn2 => ?_
  refine nm_a fun n3 hn3 => ?_
  refine ask_t (by decide) ?_
  refine nm_a fun n4 hn4 => ?_
  refine wr_a fun n5 hn5 => ?_
  refine wr_a fun n6 hn6 => ?_
  refine ask_t (by decide) ?_
  refine nm_a fun n7 hn7 => ?_
  refine wr_a fun n8 hn8 => ?_
  refine nm_a fun n9 hn9 => ?_
  refine ask_t (by decide) ?_
  refine nm_a fun n10 hn10 => ?_
  refine wr_a fun n11 hn11 => ?_
  refine wr_a fun n12 hn12 => ?_
  refine wr_a fun n13 hn13 => ?_
  refine wr_a fun n14 hn14 => ?_
  refine ask_t (by decide) ?_
  refine nm_a fun n15 hn15 => ?_
  refine wr_a fun n16 hn16 => ?_
  refine wr_a fun n17 hn17 => ?_
  refine ret_t ?_
  exact ⟨by subst_vars; rfl, (Ch.refl [] s)⟩

/-- math/bits.Mul -/
theorem c_mul {s : TH} : TRet Tryz.prog 200 #[.int .u64 1, .int .u64 128] s fun v s' => v = .tuple #[.int .u64 0, .int .u64 128] ∧ Ch [] s s' := by
  refine F200_calls _ _  ?_
  unfold F200
  refine tcall (c_mul64) ?_
  rintro _ s2 ⟨rfl, c_1⟩
  have z_2 := c_1.size
  refine dT2 ?_
  refine dInt_i ?_
  refine dInt_i ?_
  refine ret_t ?_
  exact ⟨rfl, ((Ch.refl [] s).ch c_1 (by simp))⟩

/-- bytes.Repeat -/
theorem c_rep (τ : Nat) {ad : Addr} {b : UInt8} {τx : Nat} {s : TH} (hx : Sl s (some ad) (bvs [b]) τx) : TRet Tryz.prog 155 #[.slice (some ad) 1 1, .int .i64 128] s fun v s' => ∃ r, v = .slice (some ⟨r, 0, none⟩) 128 128 ∧ Ch [] s s' ∧ Sl s' (some ⟨r, 0, none⟩) (bvs (List.replicate 128 b)) τ := by
  refine F155_calls _ _ _ _  ?_
  unfold F155
  refine sB_f (by rfl) ?_
  refine jn_u ?_
  refine sB_f (by decide) ?_
  intro _ _ _
  refine wr_a fun n7 hn7 => ?_
  obtain rfl : n7 = 1 := by subst hn7; rfl
  refine wr_a fun n8 hn8 => ?_
  obtain rfl : n8 = 128 := by subst hn8; rfl
  refine tcall (c_mul) ?_
  rintro _ s10 ⟨rfl, c_1⟩
  have z_2 := c_1.size
  refine dT2 ?_
  refine dInt_i ?_
  refine dInt_i ?_
  refine jn_u ?_
  refine jn_u ?_
  refine sB_f (by decide) ?_
  intro _ _ _ _ _
  refine dBl_i ?_
  refine sB_f (by decide) ?_
  intro _ _ _ _ _ _ _
  refine wr_a fun n23 hn23 => ?_
  obtain ⟨N, hN, rfl⟩ : ∃ N : Nat, N = 128 ∧ n23 = (N : Int) := ⟨128, rfl, by subst hn23; rfl⟩
  refine sB_f (by decide) ?_
  refine jn_u ?_
  refine sB_d (fun hsB6 => by exfalso; omega) (fun hsB6 => ?_)
  intro _ _ _ _ _ _ _ _ _ _ _ _
  refine dInt_i ?_
  refine mnz_t τ (ps := #[3]) N (Tryz.func201) (by kernel_rfl) (by kernel_rfl) (by kernel_rfl) (by kernel_rfl) u38 (by omega) fun s44 rr L0 hrr rr_5 c_3 hL0 => ?_
  have z_4 := c_3.size
  refine dSl_i ?_
  refine ask_t (by omega) ?_
  simp only [slO_zero, Int.toNat_natCast, Int.toNat_zero, Nat.sub_zero]
  have x_6 := hx.mv c_1 (tagn (by simp))
  have x_7 := x_6.mv c_3 (tagn (by simp))
  refine copy_t u38 in5 rr_5 x_7 rfl (bvs_one _) (fun h => by cases h) (by simp; omega) fun s51 rr_10 c_8 hsz => ?_
  have z_9 := c_8.size
  refine dInt_i ?_
  refine ⟨fun vs H' => ∃ s' : TH, s'.h = H' ∧ ∃ m, vs = [.int .i64 m] ∧ ChL [] [rr] s51 s' ∧ (∃ (k : Nat) (L : List Value), m = k ∧ 1 ≤ k ∧ k ≤ N ∧ N ≤ L.length ∧ Blk s' rr L 5 τ ∧ L.take k = List.replicate k (bv b)), fun vs H' => match vs with | [.int .i64 m] => (N - m).toNat | _ => 0, ⟨s51, rfl, _, rfl, ChL.refl _ _ _, ?_⟩, ?_⟩
  ·
    have hm : min 1 N = 1 := by omega
    refine ⟨min 1 N, _, rfl, by omega, by omega, ?_, rr_10, ?_⟩
    · simp [hm, bvs]; omega
    · simp [hm, bvs]
  ·
    intro m _ _ _ _ _ _ _ _ _ _ _ _ _ _ _ _ H72 hI
    obtain ⟨s72, rfl, m_, hvs, c_11, k, L, rfl, hk1, hk2, hL, rr_13, hLk⟩ := hI
    cases hvs
    have z_12 := c_11.size
    refine sB_d (fun hsB7 => ?_) (fun hsB7 => ?_)
    ·
      refine min_i ?_
      refine dInt_i ?_
      refine ask_t (by omega) ?_
      refine ask_t (by omega) ?_
      have hmin : (min (k : Int) (N : Int)).toNat = k := by omega
      simp only [hmin]
      have hsl : Sl s72 (some ⟨rr, 0, none⟩) (L.take k) τ := Sl.of rr_13 (by rw [List.drop_zero, List.length_take]; congr 1; omega)
      rw [show slO (some ⟨rr, 0, none⟩ : Option Addr) 1 (k : Int) (N : Int) = some ⟨rr, k, none⟩ from by rw [slA_mk, if_neg (by omega)]; simp]
      refine copy_t u38 in5 rr_13 hsl (by rw [List.length_take]; omega) (by rw [hLk]; intro u hu; rw [List.eq_of_mem_replicate hu]; rfl) (fun h => by cases h) (by omega) fun s82 rr_16 c_14 hsz => ?_
      have z_15 := c_14.size
      refine dInt_i ?_
      refine wr_t (by omega) ?_
      refine ⟨⟨s82, rfl, _, rfl, (((ChL.refl [] [rr] s51).chl c_11 (by simp) (by simp <;> omega)).on c_14 (by simp)), ?_⟩, ?_⟩
      ·
        refine ⟨k + min k (N - k), _, by omega, by omega, by omega, ?_, rr_16, ?_⟩
        · simp; omega
        · exact rep_grow hLk (by omega) _
      ·
        simp <;> omega
    ·
      refine ret_t ?_
      have hkN : k = N := by omega
      subst hkN hN
      exact ⟨rr, rfl, (((((Ch.refl [] s).ch c_1 (by simp)).ch c_3 (by simp)).on_new c_8 (by omega)).chl c_11 (by simp) (by simp <;> omega)), Sl.of rr_13 (by simpa [bvs] using hLk)⟩

end Go.Proofs.YtngploohhmfaiaaGreat.E
