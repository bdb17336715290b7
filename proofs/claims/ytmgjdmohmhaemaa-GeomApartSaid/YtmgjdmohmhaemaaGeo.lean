/- Contracts of functions. -/
import Derived.Test.YtmgjdmohmhaemaaProg
import Derived.KernelRfl
import Derived.Test.YtmgjdmohmhaemaaLib2
import Derived.Test.YtmgjdmohmhaemaaFm0
import Derived.Test.YtmgjdmohmhaemaaFm1
import Derived.Test.YtmgjdmohmhaemaaFm2
import Derived.Test.YtmgjdmohmhaemaaFm3
import Derived.Test.YtmgjdmohmhaemaaFm4
import Derived.Test.YtmgjdmohmhaemaaFm5
import Derived.Test.YtmgjdmohmhaemaaFm6
namespace Go.Proofs.Ytmgjdmohmhaemaa.E
open Go Go.Proofs
set_option linter.unusedVariables false
/-- a geometry that may be -/
def canG (a b c : Int) : Prop := (1 ≤ a ∧ a ≤ 8) ∧ (8 ≤ b ∧ b ≤ 256) ∧ (4 ≤ c ∧ c ≤ 64) ∧ c % 4 = 0 ∧ 3 + c / 4 ≤ b
instance (a b c : Int) : Decidable (canG a b c) := by unfold canG; infer_instance
theorem tdiv4 {c : Int} (h : 0 ≤ c) : c.tdiv 4 = c / 4 := Int.tdiv_eq_ediv_of_nonneg h
theorem tmod4 {c : Int} (h : 0 ≤ c) : c.tmod 4 = c % 4 := Int.tmod_eq_emod_of_nonneg h
theorem ret_b {P Q : Bool} (h : P = Q) : Value.bool P = Value.bool Q := by rw [h]
theorem ret_i {k : IntKind} {P Q : Int} (h : P = Q) : Value.int k P = Value.int k Q := by rw [h]
theorem wr_tq {a b m : Int} {k : Int → Prop} (h : a.tdiv b = m) (hm : -9223372036854775808 ≤ m ∧ m ≤ 9223372036854775807) (hk : k m) : wr .i64 (a.tdiv b) k := wr_t (by rw [h]; exact hm) (by rw [h]; exact hk)
theorem mul_le {a b c d : Int} (h0 : 0 ≤ a) (h1 : a ≤ c) (h2 : 0 ≤ b) (h3 : b ≤ d) : 0 ≤ a * b ∧ a * b ≤ c * d :=
  ⟨Int.mul_nonneg h0 h2, Int.mul_le_mul h1 h3 h2 (Int.le_trans h0 h1)⟩

/-- bollard/geom.between -/
theorem c_between (n l m : Int) (s : TH) : TRet Try.prog 41 #[.int .i64 n, .int .i64 l, .int .i64 m] s fun v s' => v = .bool (decide (l ≤ n ∧ n ≤ m)) ∧ Ch [] s s' := by
  refine F41_calls _ _ _  ?_
  unfold F41
  refine sB_d (fun hsB1 => ?_) (fun hsB1 => ?_)
  ·
    refine ret_t ?_
    exact ⟨ret_b (by simp <;> omega), (Ch.refl [] s)⟩
  ·
    refine ret_t ?_
    exact ⟨ret_b (by simp <;> omega), (Ch.refl [] s)⟩

/-- bollard/geom.front -/
theorem c_front (a b c : Int) (hc : 0 ≤ c ∧ c ≤ 1000) (s : TH) : TRet Try.prog 42 #[.agg #[.int .i64 a, .int .i64 b, .int .i64 c]] s fun v s' => v = .int .i64 (2 + c / 4) ∧ Ch [] s s' := by
  refine F42_calls _ _ _  ?_
  unfold F42
  refine al_t 0 fun r1 s2 hr1 b_1 c_2 z_3 => ?_
  refine ld_t b_1 rfl ?_
  refine dInt_i ?_
  refine ask_t (by decide) ?_
  refine wr_tq (tdiv4 hc.1) (by omega) ?_
  refine wr_t (by omega) ?_
  refine ret_t ?_
  exact ⟨rfl, ((Ch.refl [] s).ch c_2 (by simp))⟩

/-- bollard/geom.Can -/
theorem c_can (a b c : Int)  (s : TH) : TRet Try.prog 10 #[.agg #[.int .i64 a, .int .i64 b, .int .i64 c]] s fun v s' => v = .int .i64 (if canG a b c then 0 else 170) ∧ Ch [] s s' := by
  refine F10_calls _ _ _  ?_
  unfold F10
  refine al_t 0 fun r1 s2 hr1 b_1 c_2 z_3 => ?_
  refine jn_u ?_
  refine ld_t b_1 rfl ?_
  refine dInt_i ?_
  refine tcall (c_between _ _ _ _) ?_
  rintro _ s58 ⟨rfl, c_4⟩
  have z_5 := c_4.size
  refine dBl_i ?_
  first | refine sB_d (fun hsB1 => ?_) (fun hsB1 => ?_) | refine sB_nd (fun hsB1 => ?_) (fun hsB1 => ?_) | refine sB_n (fun hsB1 => ?_) (fun hsB1 => ?_) | refine sB_i (fun hsB1 => ?_) (fun hsB1 => ?_)
  ·
    have r1_6 := b_1.ch c_4 (by simp)
    refine ld_t r1_6 rfl ?_
    refine dInt_i ?_
    refine tcall (c_between _ _ _ _) ?_
    rintro _ s63 ⟨rfl, c_7⟩
    have z_8 := c_7.size
    refine dBl_i ?_
    first | refine sB_d (fun hsB2 => ?_) (fun hsB2 => ?_) | refine sB_nd (fun hsB2 => ?_) (fun hsB2 => ?_) | refine sB_n (fun hsB2 => ?_) (fun hsB2 => ?_) | refine sB_i (fun hsB2 => ?_) (fun hsB2 => ?_)
    ·
      have r1_9 := r1_6.ch c_7 (by simp)
      refine ld_t r1_9 rfl ?_
      refine dInt_i ?_
      refine tcall (c_between _ _ _ _) ?_
      rintro _ s68 ⟨rfl, c_10⟩
      have z_11 := c_10.size
      refine dBl_i ?_
      intro _ _ _ _ _ _ _ _ _ _ _ _ _
      refine dBl_i ?_
      refine jn_u ?_
      first | refine sB_d (fun hsB3 => ?_) (fun hsB3 => ?_) | refine sB_nd (fun hsB3 => ?_) (fun hsB3 => ?_) | refine sB_n (fun hsB3 => ?_) (fun hsB3 => ?_) | refine sB_i (fun hsB3 => ?_) (fun hsB3 => ?_)
      ·
        intro _ _ _ _ _ _ _ _ _ _ _ _ _ _ _
        refine dBl_i ?_
        refine sB_t (by rfl) ?_
        refine ret_t ?_
        exact ⟨ret_i (by first | rw [if_pos (by unfold canG; omega)] | rw [if_neg (by unfold canG; omega)]), (((((Ch.refl [] s).ch c_2 (by simp)).ch c_4 (by simp)).ch c_7 (by simp)).ch c_10 (by simp))⟩
      ·
        have r1_12 := r1_9.ch c_10 (by simp)
        refine ld_t r1_12 rfl ?_
        refine dInt_i ?_
        refine ask_t (by decide) ?_
        refine nm_t (tmod4 (by omega)) ?_
        refine sB_ne (fun hsB5 => ?_) (fun hsB5 => ?_)
        ·
          intro _ _ _ _ _ _ _ _ _ _ _ _ _ _ _
          refine dBl_i ?_
          refine sB_t (by rfl) ?_
          refine ret_t ?_
          exact ⟨ret_i (by first | rw [if_pos (by unfold canG; omega)] | rw [if_neg (by unfold canG; omega)]), (((((Ch.refl [] s).ch c_2 (by simp)).ch c_4 (by simp)).ch c_7 (by simp)).ch c_10 (by simp))⟩
        ·
          refine ld_t r1_12 rfl ?_
          refine dInt_i ?_
          refine ld_t r1_12 rfl ?_
          refine ld_t r1_12 rfl ?_
          refine ld_t r1_12 rfl ?_
          refine tcall (c_front _ _ _ (by omega) _) ?_
          rintro _ s47 ⟨rfl, c_13⟩
          have z_14 := c_13.size
          refine dInt_i ?_
          refine ⟨?_, ?_⟩
          ·
            have r1_15 := r1_12.ch c_13 (by simp)
            refine ld_t r1_15 rfl ?_
            refine dInt_i ?_
            rfl
          ·
            refine wr_t (by omega) ?_
            intro _ _ _ _ _ _ _ _ _ _ _ _ _ _ _
            refine dBl_i ?_
            refine sB_d (fun hsB7 => ?_) (fun hsB7 => ?_)
            ·
              refine ret_t ?_
              exact ⟨ret_i (by first | rw [if_pos (by unfold canG; omega)] | rw [if_neg (by unfold canG; omega)]), ((((((Ch.refl [] s).ch c_2 (by simp)).ch c_4 (by simp)).ch c_7 (by simp)).ch c_10 (by simp)).ch c_13 (by simp))⟩
            ·
              refine ret_t ?_
              exact ⟨ret_i (by first | rw [if_pos (by unfold canG; omega)] | rw [if_neg (by unfold canG; omega)]), ((((((Ch.refl [] s).ch c_2 (by simp)).ch c_4 (by simp)).ch c_7 (by simp)).ch c_10 (by simp)).ch c_13 (by simp))⟩
    ·
      intro _ _ _ _ _ _ _ _ _ _ _ _ _
      refine dBl_i ?_
      refine jn_u ?_
      refine sB_t (by rfl) ?_
      intro _ _ _ _ _ _ _ _ _ _ _ _ _ _ _
      refine dBl_i ?_
      refine sB_t (by rfl) ?_
      refine ret_t ?_
      exact ⟨ret_i (by first | rw [if_pos (by unfold canG; omega)] | rw [if_neg (by unfold canG; omega)]), ((((Ch.refl [] s).ch c_2 (by simp)).ch c_4 (by simp)).ch c_7 (by simp))⟩
  ·
    intro _ _ _ _ _ _ _ _ _ _ _ _ _
    refine dBl_i ?_
    refine jn_u ?_
    refine sB_t (by rfl) ?_
    intro _ _ _ _ _ _ _ _ _ _ _ _ _ _ _
    refine dBl_i ?_
    refine sB_t (by rfl) ?_
    refine ret_t ?_
    exact ⟨ret_i (by first | rw [if_pos (by unfold canG; omega)] | rw [if_neg (by unfold canG; omega)]), (((Ch.refl [] s).ch c_2 (by simp)).ch c_4 (by simp))⟩

/-- bollard/bollardref04.Can -/
theorem c_rcan (a b c : Int)  (s : TH) : TRet Try.prog 9 #[.agg #[.int .i64 a, .int .i64 b, .int .i64 c]] s fun v s' => v = .int .i64 (if canG a b c then 0 else 170) ∧ Ch [] s s' := by
  refine F9_calls _ _ _  ?_
  unfold F9
  refine al_t 0 fun r1 s2 hr1 b_1 c_2 z_3 => ?_
  refine jn_u ?_
  refine ld_t b_1 rfl ?_
  refine dInt_i ?_
  refine sB_d (fun hsB1 => ?_) (fun hsB1 => ?_)
  ·
    intro _ _ _ _ _ _ _ _ _ _ _ _ _ _ _ _ _ _ _ _ _ _ _ _ _ _ _ _ _ _ _ _ _ _ _ _ _ _ _ _ _ _
    refine dBl_i ?_
    refine sB_t (by rfl) ?_
    refine ret_t ?_
    exact ⟨ret_i (by first | rw [if_pos (by unfold canG; omega)] | rw [if_neg (by unfold canG; omega)]), ((Ch.refl [] s).ch c_2 (by simp))⟩
  ·
    refine ld_t b_1 rfl ?_
    refine dInt_i ?_
    refine sB_d (fun hsB3 => ?_) (fun hsB3 => ?_)
    ·
      intro _ _ _ _ _ _ _ _ _ _ _ _ _ _ _ _ _ _ _ _ _ _ _ _ _ _ _ _ _ _ _ _ _ _ _ _ _ _ _ _ _ _
      refine dBl_i ?_
      refine sB_t (by rfl) ?_
      refine ret_t ?_
      exact ⟨ret_i (by first | rw [if_pos (by unfold canG; omega)] | rw [if_neg (by unfold canG; omega)]), ((Ch.refl [] s).ch c_2 (by simp))⟩
    ·
      refine ld_t b_1 rfl ?_
      refine dInt_i ?_
      refine sB_d (fun hsB5 => ?_) (fun hsB5 => ?_)
      ·
        intro _ _ _ _ _ _ _ _ _ _ _ _ _ _ _ _ _ _ _ _ _ _ _ _ _ _ _ _ _ _ _ _ _ _ _ _ _ _ _ _ _ _
        refine dBl_i ?_
        refine sB_t (by rfl) ?_
        refine ret_t ?_
        exact ⟨ret_i (by first | rw [if_pos (by unfold canG; omega)] | rw [if_neg (by unfold canG; omega)]), ((Ch.refl [] s).ch c_2 (by simp))⟩
      ·
        refine ld_t b_1 rfl ?_
        refine dInt_i ?_
        refine sB_d (fun hsB7 => ?_) (fun hsB7 => ?_)
        ·
          intro _ _ _ _ _ _ _ _ _ _ _ _ _ _ _ _ _ _ _ _ _ _ _ _ _ _ _ _ _ _ _ _ _ _ _ _ _ _ _ _ _ _
          refine dBl_i ?_
          refine sB_t (by rfl) ?_
          refine ret_t ?_
          exact ⟨ret_i (by first | rw [if_pos (by unfold canG; omega)] | rw [if_neg (by unfold canG; omega)]), ((Ch.refl [] s).ch c_2 (by simp))⟩
        ·
          refine ld_t b_1 rfl ?_
          refine dInt_i ?_
          refine sB_d (fun hsB9 => ?_) (fun hsB9 => ?_)
          ·
            intro _ _ _ _ _ _ _ _ _ _ _ _ _ _ _ _ _ _ _ _ _ _ _ _ _ _ _ _ _ _ _ _ _ _ _ _ _ _ _ _ _ _
            refine dBl_i ?_
            refine sB_t (by rfl) ?_
            refine ret_t ?_
            exact ⟨ret_i (by first | rw [if_pos (by unfold canG; omega)] | rw [if_neg (by unfold canG; omega)]), ((Ch.refl [] s).ch c_2 (by simp))⟩
          ·
            refine ld_t b_1 rfl ?_
            refine dInt_i ?_
            refine sB_d (fun hsB11 => ?_) (fun hsB11 => ?_)
            ·
              intro _ _ _ _ _ _ _ _ _ _ _ _ _ _ _ _ _ _ _ _ _ _ _ _ _ _ _ _ _ _ _ _ _ _ _ _ _ _ _ _ _ _
              refine dBl_i ?_
              refine sB_t (by rfl) ?_
              refine ret_t ?_
              exact ⟨ret_i (by first | rw [if_pos (by unfold canG; omega)] | rw [if_neg (by unfold canG; omega)]), ((Ch.refl [] s).ch c_2 (by simp))⟩
            ·
              refine ld_t b_1 rfl ?_
              refine dInt_i ?_
              refine ask_t (by decide) ?_
              refine nm_t (tmod4 (by omega)) ?_
              refine sB_ne (fun hsB13 => ?_) (fun hsB13 => ?_)
              ·
                intro _ _ _ _ _ _ _ _ _ _ _ _ _ _ _ _ _ _ _ _ _ _ _ _ _ _ _ _ _ _ _ _ _ _ _ _ _ _ _ _ _ _
                refine dBl_i ?_
                refine sB_t (by rfl) ?_
                refine ret_t ?_
                exact ⟨ret_i (by first | rw [if_pos (by unfold canG; omega)] | rw [if_neg (by unfold canG; omega)]), ((Ch.refl [] s).ch c_2 (by simp))⟩
              ·
                refine ld_t b_1 rfl ?_
                refine dInt_i ?_
                refine ld_t b_1 rfl ?_
                refine dInt_i ?_
                refine ask_t (by decide) ?_
                refine wr_tq (tdiv4 (by omega)) (by omega) ?_
                refine wr_t (by omega) ?_
                intro _ _ _ _ _ _ _ _ _ _ _ _ _ _ _ _ _ _ _ _ _ _ _ _ _ _ _ _ _ _ _ _ _ _ _ _ _ _ _ _ _ _
                refine dBl_i ?_
                refine sB_d (fun hsB15 => ?_) (fun hsB15 => ?_)
                ·
                  refine ret_t ?_
                  exact ⟨ret_i (by first | rw [if_pos (by unfold canG; omega)] | rw [if_neg (by unfold canG; omega)]), ((Ch.refl [] s).ch c_2 (by simp))⟩
                ·
                  refine ret_t ?_
                  exact ⟨ret_i (by first | rw [if_pos (by unfold canG; omega)] | rw [if_neg (by unfold canG; omega)]), ((Ch.refl [] s).ch c_2 (by simp))⟩

/-- bollard/geom.all -/
theorem c_all (a b c : Int) (e : Int) (hv : canG a b c) (he : 0 ≤ e ∧ e ≤ 10000) (s : TH) : TRet Try.prog 43 #[.agg #[.int .i64 a, .int .i64 b, .int .i64 c], .int .i64 e] s fun v s' => v = .int .i64 (a * e) ∧ Ch [] s s' := by
  refine F43_calls _ _ _ _  ?_
  unfold F43
  refine al_t 0 fun r1 s2 hr1 b_1 c_2 z_3 => ?_
  refine ld_t b_1 rfl ?_
  refine ld_t b_1 rfl ?_
  refine ld_t b_1 rfl ?_
  refine tcall (c_can _ _ _ _) ?_
  rintro _ s7 ⟨rfl, c_4⟩
  have z_5 := c_4.size
  rw [if_pos hv]
  refine dInt_i ?_
  refine sB_f rfl ?_
  have r1_6 := b_1.ch c_4 (by simp)
  refine ld_t r1_6 rfl ?_
  refine dInt_i ?_
  refine wr_t (by unfold canG at hv; have := mul_le (a := a) (b := e) (c := 8) (d := 10000) (by omega) (by omega) he.1 he.2; omega) ?_
  refine ret_t ?_
  exact ⟨rfl, (((Ch.refl [] s).ch c_2 (by simp)).ch c_4 (by simp))⟩

/-- bollard/geom.at -/
theorem c_at (a b c : Int) (n p : Int) (hv : canG a b c) (hn : 0 ≤ n ∧ n < a) (hp : 0 ≤ p ∧ p ≤ 10000) (s : TH) : TRet Try.prog 44 #[.agg #[.int .i64 a, .int .i64 b, .int .i64 c], .int .i64 n, .int .i64 p] s fun v s' => v = .tuple #[.int .i64 (n * b + p), .bool true] ∧ Ch [] s s' := by
  have hm := mul_le (a := n) (b := b) (c := 8) (d := 256) (by omega) (by unfold canG at hv; omega) (by unfold canG at hv; omega) (by unfold canG at hv; omega)
  refine F44_calls _ _ _ _ _  ?_
  unfold F44
  refine al_t 0 fun r1 s2 hr1 b_1 c_2 z_3 => ?_
  refine jn_u ?_
  refine ld_t b_1 rfl ?_
  refine ld_t b_1 rfl ?_
  refine ld_t b_1 rfl ?_
  refine tcall (c_can _ _ _ _) ?_
  rintro _ s25 ⟨rfl, c_4⟩
  have z_5 := c_4.size
  rw [if_pos hv]
  refine dInt_i ?_
  refine sB_f rfl ?_
  have r1_6 := b_1.ch c_4 (by simp)
  refine ld_t r1_6 rfl ?_
  refine dInt_i ?_
  refine wr_t (by unfold canG at hv; omega) ?_
  refine tcall (c_between _ _ _ _) ?_
  rintro _ s31 ⟨rfl, c_7⟩
  have z_8 := c_7.size
  refine dBl_i ?_
  intro _ _ _ _ _ _ _ _ _ _
  refine dBl_i ?_
  first | refine sB_d (fun hsB2 => by exfalso; omega) (fun hsB2 => ?_) | refine sB_nd (fun hsB2 => by exfalso; omega) (fun hsB2 => ?_)
  have r1_9 := r1_6.ch c_7 (by simp)
  refine ld_t r1_9 rfl ?_
  refine dInt_i ?_
  refine wr_t (by omega) ?_
  refine wr_t (by omega) ?_
  refine ret_t ?_
  exact ⟨rfl, ((((Ch.refl [] s).ch c_2 (by simp)).ch c_4 (by simp)).ch c_7 (by simp))⟩

/-- bollard/geom.Blocks -/
theorem c_blocks (a b c : Int) (hv : canG a b c)  (s : TH) : TRet Try.prog 11 #[.agg #[.int .i64 a, .int .i64 b, .int .i64 c]] s fun v s' => v = .int .i64 (a * b) ∧ Ch [] s s' := by
  refine F11_calls _ _ _  ?_
  unfold F11
  refine al_t 0 fun r1 s2 hr1 b_1 c_2 z_3 => ?_
  refine ld_t b_1 rfl ?_
  refine ld_t b_1 rfl ?_
  refine ld_t b_1 rfl ?_
  refine ld_t b_1 rfl ?_
  refine dInt_i ?_
  refine tcall (c_all _ _ _ _ hv (by first | omega | (unfold canG at hv; omega)) _) ?_
  rintro _ s9 ⟨rfl, c_4⟩
  have z_5 := c_4.size
  refine dInt_i ?_
  refine ret_t ?_
  exact ⟨rfl, (((Ch.refl [] s).ch c_2 (by simp)).ch c_4 (by simp))⟩

/-- bollard/geom.Inodes -/
theorem c_inodes (a b c : Int) (hv : canG a b c)  (s : TH) : TRet Try.prog 15 #[.agg #[.int .i64 a, .int .i64 b, .int .i64 c]] s fun v s' => v = .int .i64 (a * c) ∧ Ch [] s s' := by
  refine F15_calls _ _ _  ?_
  unfold F15
  refine al_t 0 fun r1 s2 hr1 b_1 c_2 z_3 => ?_
  refine ld_t b_1 rfl ?_
  refine ld_t b_1 rfl ?_
  refine ld_t b_1 rfl ?_
  refine ld_t b_1 rfl ?_
  refine dInt_i ?_
  refine tcall (c_all _ _ _ _ hv (by first | omega | (unfold canG at hv; omega)) _) ?_
  rintro _ s9 ⟨rfl, c_4⟩
  have z_5 := c_4.size
  refine dInt_i ?_
  refine ret_t ?_
  exact ⟨rfl, (((Ch.refl [] s).ch c_2 (by simp)).ch c_4 (by simp))⟩

/-- bollard/geom.Super -/
theorem c_super (a b c : Int) (n : Int) (hv : canG a b c) (hn : 0 ≤ n ∧ n < a) (s : TH) : TRet Try.prog 12 #[.agg #[.int .i64 a, .int .i64 b, .int .i64 c], .int .i64 n] s fun v s' => v = .tuple #[.int .i64 (n * b + 0), .bool true] ∧ Ch [] s s' := by
  refine F12_calls _ _ _ _  ?_
  unfold F12
  refine al_t 0 fun r1 s2 hr1 b_1 c_2 z_3 => ?_
  refine ld_t b_1 rfl ?_
  refine ld_t b_1 rfl ?_
  refine ld_t b_1 rfl ?_
  refine tcall (c_at _ _ _ _ _ hv (by omega) (by first | omega | (unfold canG at hv; omega)) _) ?_
  rintro _ s7 ⟨rfl, c_4⟩
  have z_5 := c_4.size
  refine dT2 ?_
  refine dInt_i ?_
  refine dBl_i ?_
  refine ret_t ?_
  exact ⟨rfl, (((Ch.refl [] s).ch c_2 (by simp)).ch c_4 (by simp))⟩

/-- bollard/geom.Header -/
theorem c_header (a b c : Int) (n : Int) (hv : canG a b c) (hn : 0 ≤ n ∧ n < a) (s : TH) : TRet Try.prog 13 #[.agg #[.int .i64 a, .int .i64 b, .int .i64 c], .int .i64 n] s fun v s' => v = .tuple #[.int .i64 (n * b + 1), .bool true] ∧ Ch [] s s' := by
  refine F13_calls _ _ _ _  ?_
  unfold F13
  refine al_t 0 fun r1 s2 hr1 b_1 c_2 z_3 => ?_
  refine ld_t b_1 rfl ?_
  refine ld_t b_1 rfl ?_
  refine ld_t b_1 rfl ?_
  refine tcall (c_at _ _ _ _ _ hv (by omega) (by first | omega | (unfold canG at hv; omega)) _) ?_
  rintro _ s7 ⟨rfl, c_4⟩
  have z_5 := c_4.size
  refine dT2 ?_
  refine dInt_i ?_
  refine dBl_i ?_
  refine ret_t ?_
  exact ⟨rfl, (((Ch.refl [] s).ch c_2 (by simp)).ch c_4 (by simp))⟩

/-- bollard/geom.Data -/
theorem c_data (a b c : Int) (n : Int) (hv : canG a b c) (hn : 0 ≤ n ∧ n < a) (s : TH) : TRet Try.prog 14 #[.agg #[.int .i64 a, .int .i64 b, .int .i64 c], .int .i64 n] s fun v s' => v = .tuple #[.int .i64 (n * b + (2 + c / 4)), .int .i64 (b - (2 + c / 4)), .bool true] ∧ Ch [] s s' := by
  refine F14_calls _ _ _ _  ?_
  unfold F14
  refine al_t 0 fun r1 s2 hr1 b_1 c_2 z_3 => ?_
  refine ld_t b_1 rfl ?_
  refine ld_t b_1 rfl ?_
  refine ld_t b_1 rfl ?_
  refine ld_t b_1 rfl ?_
  refine ld_t b_1 rfl ?_
  refine ld_t b_1 rfl ?_
  refine tcall (c_front _ _ _ (by unfold canG at hv; omega) _) ?_
  rintro _ s10 ⟨rfl, c_4⟩
  have z_5 := c_4.size
  refine dInt_i ?_
  refine ⟨?_, ?_⟩
  ·
    have r1_6 := b_1.ch c_4 (by simp)
    refine ld_t r1_6 rfl ?_
    refine ld_t r1_6 rfl ?_
    refine ld_t r1_6 rfl ?_
    rfl
  ·
    refine tcall (c_at _ _ _ _ _ hv (by omega) (by first | omega | (unfold canG at hv; omega)) _) ?_
    rintro _ s16 ⟨rfl, c_7⟩
    have z_8 := c_7.size
    refine dT2 ?_
    refine dInt_i ?_
    refine dBl_i ?_
    refine sB_f rfl ?_
    have r1_9 := b_1.ch c_4 (by simp)
    have r1_10 := r1_9.ch c_7 (by simp)
    refine ld_t r1_10 rfl ?_
    refine dInt_i ?_
    refine ld_t r1_10 rfl ?_
    refine ld_t r1_10 rfl ?_
    refine ld_t r1_10 rfl ?_
    refine tcall (c_front _ _ _ (by unfold canG at hv; omega) _) ?_
    rintro _ s27 ⟨rfl, c_11⟩
    have z_12 := c_11.size
    refine dInt_i ?_
    refine ⟨?_, ?_⟩
    ·
      have r1_13 := r1_10.ch c_11 (by simp)
      refine ld_t r1_13 rfl ?_
      refine dInt_i ?_
      rfl
    ·
      refine wr_t (by unfold canG at hv; omega) ?_
      refine ret_t ?_
      exact ⟨rfl, (((((Ch.refl [] s).ch c_2 (by simp)).ch c_4 (by simp)).ch c_7 (by simp)).ch c_11 (by simp))⟩

/-- bollard/geom.split -/
theorem c_split (n e t : Int) (hn : 0 ≤ n ∧ n < t) (he : 0 < e) (ht : t ≤ 1000000) (s : TH) : TRet Try.prog 75 #[.int .i64 n, .int .i64 e, .int .i64 t] s fun v s' => v = .tuple #[.int .i64 (n / e), .int .i64 (n % e), .bool true] ∧ Ch [] s s' := by
  have h1 := Int.tdiv_eq_ediv_of_nonneg (b := e) hn.1
  have h2 := Int.tmod_eq_emod_of_nonneg (b := e) hn.1
  have h3 : 0 ≤ n / e ∧ n / e ≤ n := ⟨Int.ediv_nonneg hn.1 (by omega), Int.ediv_le_self _ hn.1⟩
  refine F75_calls _ _ _  ?_
  unfold F75
  refine wr_t (by omega) ?_
  refine tcall (c_between _ _ _ _) ?_
  rintro _ s3 ⟨rfl, c_1⟩
  have z_2 := c_1.size
  refine dBl_i ?_
  first | refine sB_d (fun hsB1 => by exfalso; omega) (fun hsB1 => ?_) | refine sB_nd (fun hsB1 => by exfalso; omega) (fun hsB1 => ?_)
  refine ask_t (by omega) ?_
  refine wr_tq h1 (by omega) ?_
  refine ask_t (by omega) ?_
  refine nm_t h2 ?_
  refine ret_t ?_
  exact ⟨rfl, ((Ch.refl [] s).ch c_1 (by simp))⟩

/-- bollard/geom.Owner -/
theorem c_owner (a b c : Int) (n : Int) (hv : canG a b c) (hn : 0 ≤ n ∧ n < a * c) (s : TH) : TRet Try.prog 45 #[.agg #[.int .i64 a, .int .i64 b, .int .i64 c], .int .i64 n] s fun v s' => v = .tuple #[.int .i64 (n / c), .int .i64 (n % c), .bool true] ∧ Ch [] s s' := by
  have hac := mul_le (a := a) (b := c) (c := 8) (d := 64) (by unfold canG at hv; omega) (by unfold canG at hv; omega) (by unfold canG at hv; omega) (by unfold canG at hv; omega)
  refine F45_calls _ _ _ _  ?_
  unfold F45
  refine al_t 0 fun r1 s2 hr1 b_1 c_2 z_3 => ?_
  refine ld_t b_1 rfl ?_
  refine dInt_i ?_
  refine ld_t b_1 rfl ?_
  refine ld_t b_1 rfl ?_
  refine ld_t b_1 rfl ?_
  refine tcall (c_inodes _ _ _ hv _) ?_
  rintro _ s9 ⟨rfl, c_4⟩
  have z_5 := c_4.size
  refine dInt_i ?_
  refine ⟨?_, ?_⟩
  ·
    have r1_6 := b_1.ch c_4 (by simp)
    refine ld_t r1_6 rfl ?_
    refine dInt_i ?_
    rfl
  ·
    refine tcall (c_split _ _ _ (by omega) (by first | omega | (unfold canG at hv; omega)) (by first | omega | (unfold canG at hv; omega)) _) ?_
    rintro _ s14 ⟨rfl, c_7⟩
    have z_8 := c_7.size
    refine dT3 ?_
    refine dInt_i ?_
    refine dInt_i ?_
    refine dBl_i ?_
    refine ret_t ?_
    exact ⟨rfl, ((((Ch.refl [] s).ch c_2 (by simp)).ch c_4 (by simp)).ch c_7 (by simp))⟩

/-- bollard/geom.Group -/
theorem c_group (a b c : Int) (n : Int) (hv : canG a b c) (hn : 0 ≤ n ∧ n < a * b) (s : TH) : TRet Try.prog 46 #[.agg #[.int .i64 a, .int .i64 b, .int .i64 c], .int .i64 n] s fun v s' => v = .tuple #[.int .i64 (n / b), .int .i64 (n % b), .bool true] ∧ Ch [] s s' := by
  have hab := mul_le (a := a) (b := b) (c := 8) (d := 256) (by unfold canG at hv; omega) (by unfold canG at hv; omega) (by unfold canG at hv; omega) (by unfold canG at hv; omega)
  refine F46_calls _ _ _ _  ?_
  unfold F46
  refine al_t 0 fun r1 s2 hr1 b_1 c_2 z_3 => ?_
  refine ld_t b_1 rfl ?_
  refine dInt_i ?_
  refine ld_t b_1 rfl ?_
  refine ld_t b_1 rfl ?_
  refine ld_t b_1 rfl ?_
  refine tcall (c_blocks _ _ _ hv _) ?_
  rintro _ s9 ⟨rfl, c_4⟩
  have z_5 := c_4.size
  refine dInt_i ?_
  refine ⟨?_, ?_⟩
  ·
    have r1_6 := b_1.ch c_4 (by simp)
    refine ld_t r1_6 rfl ?_
    refine dInt_i ?_
    rfl
  ·
    refine tcall (c_split _ _ _ (by omega) (by first | omega | (unfold canG at hv; omega)) (by first | omega | (unfold canG at hv; omega)) _) ?_
    rintro _ s14 ⟨rfl, c_7⟩
    have z_8 := c_7.size
    refine dT3 ?_
    refine dInt_i ?_
    refine dInt_i ?_
    refine dBl_i ?_
    refine ret_t ?_
    exact ⟨rfl, ((((Ch.refl [] s).ch c_2 (by simp)).ch c_4 (by simp)).ch c_7 (by simp))⟩

/-- bollard/geom.Inode -/
theorem c_inode (a b c : Int) (n : Int) (hv : canG a b c) (hn : 0 ≤ n ∧ n < a * c) (s : TH) : TRet Try.prog 16 #[.agg #[.int .i64 a, .int .i64 b, .int .i64 c], .int .i64 n] s fun v s' => v = .tuple #[.int .i64 (n / c * b + (2 + n % c / 4)), .int .i64 (n % c % 4 * 32), .bool true] ∧ Ch [] s s' := by
  have hac := mul_le (a := a) (b := c) (c := 8) (d := 64) (by unfold canG at hv; omega) (by unfold canG at hv; omega) (by unfold canG at hv; omega) (by unfold canG at hv; omega)
  have hdm : 0 ≤ n % c ∧ n % c < c ∧ 0 ≤ n / c ∧ n / c < a := ⟨Int.emod_nonneg _ (by unfold canG at hv; omega), Int.emod_lt_of_pos _ (by unfold canG at hv; omega), Int.ediv_nonneg hn.1 (by unfold canG at hv; omega), Int.ediv_lt_of_lt_mul (by unfold canG at hv; omega) hn.2⟩
  refine F16_calls _ _ _ _  ?_
  unfold F16
  refine al_t 0 fun r1 s2 hr1 b_1 c_2 z_3 => ?_
  refine ld_t b_1 rfl ?_
  refine ld_t b_1 rfl ?_
  refine ld_t b_1 rfl ?_
  refine tcall (c_owner _ _ _ _ hv (by omega) _) ?_
  rintro _ s7 ⟨rfl, c_4⟩
  have z_5 := c_4.size
  refine dT3 ?_
  refine dInt_i ?_
  refine dInt_i ?_
  refine dBl_i ?_
  refine sB_f rfl ?_
  have r1_6 := b_1.ch c_4 (by simp)
  refine ld_t r1_6 rfl ?_
  refine ld_t r1_6 rfl ?_
  refine ld_t r1_6 rfl ?_
  refine ask_t (by decide) ?_
  refine wr_tq (tdiv4 hdm.1) (by unfold canG at hv; omega) ?_
  refine wr_t (by unfold canG at hv; omega) ?_
  refine tcall (c_at _ _ _ _ _ hv (by omega) (by first | omega | (unfold canG at hv; omega)) _) ?_
  rintro _ s20 ⟨rfl, c_7⟩
  have z_8 := c_7.size
  refine dT2 ?_
  refine dInt_i ?_
  refine dBl_i ?_
  refine ask_t (by decide) ?_
  refine nm_t (tmod4 hdm.1) ?_
  refine wr_t (by unfold canG at hv; omega) ?_
  refine ret_t ?_
  exact ⟨rfl, ((((Ch.refl [] s).ch c_2 (by simp)).ch c_4 (by simp)).ch c_7 (by simp))⟩

/-- bollard/geom.IsData -/
theorem c_isdata (a b c : Int) (n : Int) (hv : canG a b c) (hn : 0 ≤ n ∧ n < a * b) (s : TH) : TRet Try.prog 17 #[.agg #[.int .i64 a, .int .i64 b, .int .i64 c], .int .i64 n] s fun v s' => v = .bool (decide (n % b ≥ 2 + c / 4)) ∧ Ch [] s s' := by
  have hab := mul_le (a := a) (b := b) (c := 8) (d := 256) (by unfold canG at hv; omega) (by unfold canG at hv; omega) (by unfold canG at hv; omega) (by unfold canG at hv; omega)
  have hdm : 0 ≤ n % b ∧ n % b < b ∧ 0 ≤ n / b ∧ n / b < a := ⟨Int.emod_nonneg _ (by unfold canG at hv; omega), Int.emod_lt_of_pos _ (by unfold canG at hv; omega), Int.ediv_nonneg hn.1 (by unfold canG at hv; omega), Int.ediv_lt_of_lt_mul (by unfold canG at hv; omega) hn.2⟩
  refine F17_calls _ _ _ _  ?_
  unfold F17
  refine al_t 0 fun r1 s2 hr1 b_1 c_2 z_3 => ?_
  refine ld_t b_1 rfl ?_
  refine ld_t b_1 rfl ?_
  refine ld_t b_1 rfl ?_
  refine tcall (c_group _ _ _ _ hv (by omega) _) ?_
  rintro _ s7 ⟨rfl, c_4⟩
  have z_5 := c_4.size
  refine dT3 ?_
  refine dInt_i ?_
  refine dInt_i ?_
  refine dBl_i ?_
  refine sB_t rfl ?_
  have r1_6 := b_1.ch c_4 (by simp)
  refine ld_t r1_6 rfl ?_
  refine ld_t r1_6 rfl ?_
  refine ld_t r1_6 rfl ?_
  refine tcall (c_front _ _ _ (by unfold canG at hv; omega) _) ?_
  rintro _ s18 ⟨rfl, c_7⟩
  have z_8 := c_7.size
  refine dInt_i ?_
  refine ret_t ?_
  exact ⟨rfl, ((((Ch.refl [] s).ch c_2 (by simp)).ch c_4 (by simp)).ch c_7 (by simp))⟩

/-- bollard/bollardref04.Blocks -/
theorem c_rblocks (a b c : Int) (hv : canG a b c)  (s : TH) : TRet Try.prog 76 #[.agg #[.int .i64 a, .int .i64 b, .int .i64 c]] s fun v s' => v = .int .i64 (a * b) ∧ Ch [] s s' := by
  have hab := mul_le (a := a) (b := b) (c := 8) (d := 256) (by unfold canG at hv; omega) (by unfold canG at hv; omega) (by unfold canG at hv; omega) (by unfold canG at hv; omega)
  refine F76_calls _ _ _  ?_
  unfold F76
  refine al_t 0 fun r1 s2 hr1 b_1 c_2 z_3 => ?_
  refine ld_t b_1 rfl ?_
  refine ld_t b_1 rfl ?_
  refine ld_t b_1 rfl ?_
  refine tcall (c_rcan _ _ _ _) ?_
  rintro _ s7 ⟨rfl, c_4⟩
  have z_5 := c_4.size
  rw [if_pos hv]
  refine dInt_i ?_
  refine sB_f rfl ?_
  have r1_6 := b_1.ch c_4 (by simp)
  refine ld_t r1_6 rfl ?_
  refine dInt_i ?_
  refine ld_t r1_6 rfl ?_
  refine dInt_i ?_
  refine wr_t (by omega) ?_
  refine ret_t ?_
  exact ⟨rfl, (((Ch.refl [] s).ch c_2 (by simp)).ch c_4 (by simp))⟩

/-- bollard/bollardref04.Group -/
theorem c_rgroup (a b c : Int) (n : Int) (hv : canG a b c) (hn : 0 ≤ n ∧ n < a * b) (s : TH) : TRet Try.prog 47 #[.agg #[.int .i64 a, .int .i64 b, .int .i64 c], .int .i64 n] s fun v s' => v = .tuple #[.int .i64 (n / b), .int .i64 (n % b), .bool true] ∧ Ch [] s s' := by
  have hab := mul_le (a := a) (b := b) (c := 8) (d := 256) (by unfold canG at hv; omega) (by unfold canG at hv; omega) (by unfold canG at hv; omega) (by unfold canG at hv; omega)
  have hdm : 0 ≤ n % b ∧ n % b < b ∧ 0 ≤ n / b ∧ n / b < a := ⟨Int.emod_nonneg _ (by unfold canG at hv; omega), Int.emod_lt_of_pos _ (by unfold canG at hv; omega), Int.ediv_nonneg hn.1 (by unfold canG at hv; omega), Int.ediv_lt_of_lt_mul (by unfold canG at hv; omega) hn.2⟩
  have h1 := Int.tdiv_eq_ediv_of_nonneg (b := b) hn.1
  have h2 := Int.tmod_eq_emod_of_nonneg (b := b) hn.1
  refine F47_calls _ _ _ _  ?_
  unfold F47
  refine al_t 0 fun r1 s2 hr1 b_1 c_2 z_3 => ?_
  refine jn_u ?_
  refine sB_d (fun hsB1 => by exfalso; omega) (fun hsB1 => ?_)
  refine ld_t b_1 rfl ?_
  refine ld_t b_1 rfl ?_
  refine ld_t b_1 rfl ?_
  refine tcall (c_rblocks _ _ _ hv _) ?_
  rintro _ s24 ⟨rfl, c_4⟩
  have z_5 := c_4.size
  refine dInt_i ?_
  intro _ _ _ _ _ _ _
  refine dBl_i ?_
  refine sB_d (fun hsB2 => by exfalso; omega) (fun hsB2 => ?_)
  have r1_6 := b_1.ch c_4 (by simp)
  refine ld_t r1_6 rfl ?_
  refine dInt_i ?_
  refine ask_t (by unfold canG at hv; omega) ?_
  refine wr_tq h1 (by unfold canG at hv; omega) ?_
  refine ld_t r1_6 rfl ?_
  refine dInt_i ?_
  refine ask_t (by unfold canG at hv; omega) ?_
  refine nm_t h2 ?_
  refine ret_t ?_
  exact ⟨rfl, (((Ch.refl [] s).ch c_2 (by simp)).ch c_4 (by simp))⟩

/-- bollard/bollardref04.IsData -/
theorem c_risdata (a b c : Int) (n : Int) (hv : canG a b c) (hn : 0 ≤ n ∧ n < a * b) (s : TH) : TRet Try.prog 18 #[.agg #[.int .i64 a, .int .i64 b, .int .i64 c], .int .i64 n] s fun v s' => v = .bool (decide (n % b ≥ 2 + c / 4)) ∧ Ch [] s s' := by
  have hab := mul_le (a := a) (b := b) (c := 8) (d := 256) (by unfold canG at hv; omega) (by unfold canG at hv; omega) (by unfold canG at hv; omega) (by unfold canG at hv; omega)
  have hdm : 0 ≤ n % b ∧ n % b < b ∧ 0 ≤ n / b ∧ n / b < a := ⟨Int.emod_nonneg _ (by unfold canG at hv; omega), Int.emod_lt_of_pos _ (by unfold canG at hv; omega), Int.ediv_nonneg hn.1 (by unfold canG at hv; omega), Int.ediv_lt_of_lt_mul (by unfold canG at hv; omega) hn.2⟩
  refine F18_calls _ _ _ _  ?_
  unfold F18
  refine al_t 0 fun r1 s2 hr1 b_1 c_2 z_3 => ?_
  refine ld_t b_1 rfl ?_
  refine ld_t b_1 rfl ?_
  refine ld_t b_1 rfl ?_
  refine tcall (c_rgroup _ _ _ _ hv (by omega) _) ?_
  rintro _ s7 ⟨rfl, c_4⟩
  have z_5 := c_4.size
  refine dT3 ?_
  refine dInt_i ?_
  refine dInt_i ?_
  refine dBl_i ?_
  refine sB_t rfl ?_
  have r1_6 := b_1.ch c_4 (by simp)
  refine ld_t r1_6 rfl ?_
  refine dInt_i ?_
  refine ask_t (by decide) ?_
  refine wr_tq (tdiv4 (by unfold canG at hv; omega)) (by unfold canG at hv; omega) ?_
  refine wr_t (by unfold canG at hv; omega) ?_
  refine ret_t ?_
  exact ⟨rfl, (((Ch.refl [] s).ch c_2 (by simp)).ch c_4 (by simp))⟩

end Go.Proofs.Ytmgjdmohmhaemaa.E
