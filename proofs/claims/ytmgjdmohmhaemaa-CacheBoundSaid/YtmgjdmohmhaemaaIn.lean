/- Contracts of functions. -/
import Derived.Test.YtmgjdmohmhaemaaProg
import Derived.KernelRfl
import Derived.Test.YtmgjdmohmhaemaaLib2
import Derived.Test.YtmgjdmohmhaemaaDr
import Derived.Test.YtmgjdmohmhaemaaFm0
import Derived.Test.YtmgjdmohmhaemaaFm1
import Derived.Test.YtmgjdmohmhaemaaFm2
import Derived.Test.YtmgjdmohmhaemaaFm3
import Derived.Test.YtmgjdmohmhaemaaFm4
namespace Go.Proofs.Ytmgjdmohmhaemaa.E
open Go Go.Proofs
set_option linter.unusedVariables false
/-- slices.Index[[]int,int] -/
theorem c_ixInt {xa : Option Addr} {xn : Nat} (xc : Nat) {l : List Int} {τx : Nat} (b : Int) {s : TH} (hx : Sl s xa (ivs l) τx) (hn : l.length = xn) (hb : xn ≤ 140737488355328) : TRet Try.prog 24 #[.slice xa xn xc, .int .i64 b] s fun v s' => v = .int .i64 (ixf (fun x : Int => x == b) l) ∧ Ch [] s s' := by
  refine F24_calls _ _ _ _  ?_
  unfold F24
  refine ⟨fun vs H' => ∃ s' : TH, s'.h = H' ∧ ∃ i, vs = [.int .i64 i] ∧ ChL [] [] s s' ∧ (∃ k : Nat, i = k ∧ k ≤ xn ∧ ∀ j x, j < k → l[j]? = some x → (x == b) = false), fun vs H' => match vs with | [.int .i64 i] => ((xn : Int) - i).toNat | _ => 0, ⟨s, rfl, _, rfl, ChL.refl _ _ _, ?_⟩, ?_⟩
  ·
    exact ⟨0, rfl, by omega, fun j x h => by omega⟩
  ·
    intro i _ _ _ _ _ _ _ _ _ _ _ _ H16 hI
    obtain ⟨s16, rfl, i_, hvs, c_1, k, rfl, hk, hall⟩ := hI
    cases hvs
    have z_2 := c_1.size
    refine sB_d (fun hsB1 => ?_) (fun hsB1 => ?_)
    ·
      have x_3 := hx.mv c_1 (tagL (by simp <;> omega) (by simp))
      have hk2 : k < xn := by omega
      obtain ⟨x, hx0⟩ : ∃ x, l[k]? = some x := ⟨l[k], by simp [hn, hk2]⟩
      obtain ⟨a, rfl⟩ := x_3.ne_none (by rw [ivs_len]; omega)
      refine nz_i ?_
      refine ask_t (by omega) ?_
      refine ld_sl x_3 (by rw [Int.toNat_natCast, Nat.mul_one]; exact ivs_get hx0) ?_
      refine dInt_i ?_
      refine sB_eq (fun hsB2 => ?_) (fun hsB2 => ?_)
      ·
        refine ret_t ?_
        exact ⟨ret_i (ixf_some hx0 (by simp [hsB2]) hall).symm, ((Ch.refl [] s).chl c_1 (by simp) (by simp <;> omega))⟩
      ·
        refine wr_t (by omega) ?_
        refine ⟨⟨s16, rfl, _, rfl, ((ChL.refl [] [] s).chl c_1 (by simp) (by simp <;> omega)), ?_⟩, ?_⟩
        ·
          refine ⟨k + 1, by omega, by omega, fun j y hj hy => ?_⟩
          by_cases e : j = k
          · subst e; rw [hx0] at hy; cases hy; simp; omega
          · exact hall j y (by omega) hy
        ·
          simp only []; omega
    ·
      refine ret_t ?_
      exact ⟨ret_i (ixf_none fun j y hj hy => hall j y (by omega) hy).symm, ((Ch.refl [] s).chl c_1 (by simp) (by simp <;> omega))⟩


theorem ixf_mem {l : List Int} {b : Int} : ixf (fun x : Int => x == b) l ≥ 0 ↔ b ∈ l := by
  rcases ixf_cases (fun x : Int => x == b) l with ⟨h, ha⟩ | ⟨k, x, h, hk, hx⟩
  · rw [h]
    refine ⟨fun h => by omega, fun h => ?_⟩
    have := ha b h; simp at this
  · rw [h]
    refine ⟨fun _ => ?_, fun _ => by omega⟩
    have := List.mem_of_getElem? hk
    simp at hx; subst hx; exact this

/-- slices.Contains[[]int,int] -/
theorem c_ctInt {xa : Option Addr} {xn : Nat} (xc : Nat) {l : List Int} {τx : Nat} (b : Int) {s : TH} (hx : Sl s xa (ivs l) τx) (hn : l.length = xn) (hb : xn ≤ 140737488355328) : TRet Try.prog 32 #[.slice xa xn xc, .int .i64 b] s fun v s' => v = .bool (decide (b ∈ l)) ∧ Ch [] s s' := by
  refine F32_calls _ _ _ _  ?_
  unfold F32
  refine tcall (c_ixInt xc b hx hn hb) ?_
  rintro _ s2 ⟨rfl, c_1⟩
  have z_2 := c_1.size
  refine dInt_i ?_
  refine ret_t ?_
  exact ⟨ret_b (decide_eq_decide.2 ixf_mem), ((Ch.refl [] s).ch c_1 (by simp))⟩

/-- slices.Equal[[]int,int] -/
theorem c_eqInt {xa : Option Addr} {xn : Nat} (xc : Nat) {l : List Int} {τx : Nat} {ya : Option Addr} {yn : Nat} (yc : Nat) {m : List Int} {τy : Nat} {s : TH} (hx : Sl s xa (ivs l) τx) (hn : l.length = xn) (hb : xn ≤ 140737488355328) (hy : Sl s ya (ivs m) τy) (hm : m.length = yn) : TRet Try.prog 26 #[.slice xa xn xc, .slice ya yn yc] s fun v s' => v = .bool (decide (l = m)) ∧ Ch [] s s' := by
  refine F26_calls _ _ _ _ _ _  ?_
  unfold F26
  refine sB_ne (fun hsB1 => ?_) (fun hsB1 => ?_)
  ·
    refine ret_t ?_
    exact ⟨ret_b (decide_eq_false (fun e => hsB1 (by rw [← hn, ← hm, e]))).symm, (Ch.refl [] s)⟩
  ·
    refine ⟨fun vs H' => ∃ s' : TH, s'.h = H' ∧ ∃ i, vs = [.int .i64 i] ∧ ChL [] [] s s' ∧ (∃ k : Nat, i = k ∧ k ≤ xn ∧ l.take k = m.take k), fun vs H' => match vs with | [.int .i64 i] => ((xn : Int) - i).toNat | _ => 0, ⟨s, rfl, _, rfl, ChL.refl _ _ _, ?_⟩, ?_⟩
    ·
      exact ⟨0, rfl, by omega, by simp⟩
    ·
      intro i _ _ _ _ _ _ _ _ _ _ _ _ _ _ H18 hI
      obtain ⟨s18, rfl, i_, hvs, c_1, k, rfl, hk, hall⟩ := hI
      cases hvs
      have z_2 := c_1.size
      refine sB_d (fun hsB2 => ?_) (fun hsB2 => ?_)
      ·
        have x_3 := hx.mv c_1 (tagL (by simp <;> omega) (by simp))
        have y_4 := hy.mv c_1 (tagL (by simp <;> omega) (by simp))
        have hk2 : k < xn := by omega
        obtain ⟨x, hx0⟩ : ∃ x, l[k]? = some x := ⟨l[k], by simp [hn, hk2]⟩
        obtain ⟨y, hy0⟩ : ∃ y, m[k]? = some y := ⟨m[k]'(by omega), by simp⟩
        obtain ⟨a, rfl⟩ := x_3.ne_none (by rw [ivs_len]; omega)
        obtain ⟨a2, rfl⟩ := y_4.ne_none (by rw [ivs_len]; omega)
        refine nz_i ?_
        refine ask_t (by omega) ?_
        refine ld_sl x_3 (by rw [Int.toNat_natCast, Nat.mul_one]; exact ivs_get hx0) ?_
        refine dInt_i ?_
        refine nz_i ?_
        refine ask_t (by omega) ?_
        refine ld_sl y_4 (by rw [Int.toNat_natCast, Nat.mul_one]; exact ivs_get hy0) ?_
        refine dInt_i ?_
        refine sB_ne (fun hsB3 => ?_) (fun hsB3 => ?_)
        ·
          refine ret_t ?_
          exact ⟨ret_b (decide_eq_false (fun e => by rw [e, hy0] at hx0; cases hx0; exact hsB3 rfl)).symm, ((Ch.refl [] s).chl c_1 (by simp) (by simp <;> omega))⟩
        ·
          refine wr_t (by omega) ?_
          refine ⟨⟨s18, rfl, _, rfl, ((ChL.refl [] [] s).chl c_1 (by simp) (by simp <;> omega)), ?_⟩, ?_⟩
          ·
            refine ⟨k + 1, by omega, by omega, ?_⟩
            rw [List.take_add_one, List.take_add_one, hall, hx0, hy0, hsB3]
          ·
            simp only []; omega
      ·
        refine ret_t ?_
        exact ⟨ret_b (decide_eq_true (by rw [← List.take_of_length_le (l := l) (i := k) (by omega), hall, List.take_of_length_le (by omega)])).symm, ((Ch.refl [] s).chl c_1 (by simp) (by simp <;> omega))⟩

/-- slices.Delete[[]int,int] -/
theorem c_delInt {a : Option Addr} {n c : Nat} (i : Nat) {l : List Int} {τ : Nat} {s : TH} (hq : Own s a n c 3 1 (ivs l) τ) (hi : i < n) (hn : n ≤ 1000000) : TRet Try.prog 25 #[.slice a n c, .int .i64 (i : Int), .int .i64 ((i : Int) + 1)] s fun v s' => ∃ a' c', v = .slice a' (n - 1) c' ∧ Ch [τ] s s' ∧ Own s' a' (n - 1) c' 3 1 (ivs (l.eraseIdx i)) τ := by
  rw [show ((i : Int) + 1) = ((i + 1 : Nat) : Int) from by omega]
  have hle := hq.le
  refine F25_calls _ _ _ _ _  ?_
  unfold F25
  refine ask_t (by omega) ?_
  refine sB_eq (fun hsB1 => by exfalso; omega) (fun hsB1 => ?_)
  refine ask_t (by omega) ?_
  refine ask_t (by omega) ?_
  simp only [Int.toNat_natCast, Int.toNat_zero, Nat.sub_zero, slO_zero]
  refine app_i u26 in3 rfl (hq.pre (m := i) (by omega)) (hq.cut (m := i + 1) (by omega)) (by rw [List.length_drop, hq.len]; omega) (fun u hu => ivs_one _ u (List.mem_of_mem_drop hu)) (by intro h; have := hq.none_iff; cases ha : a with | none => have := this ha; omega | some b => (rw [ha] at h; cases h)) (by unfold maxLen; omega) fun s4 a2 c2 q2_3 c_10 hnil => ?_
  have c_1 := c_10.ch (T := [τ]) hq (by simp)
  have z_2 := c_1.size
  refine dSl_i ?_
  refine ask_t (by omega) ?_
  obtain ⟨rfl, rfl⟩ := hnil.2 (by omega)
  try simp only [Int.toNat_natCast]
  have hin : i + (n - (i + 1)) = n - 1 := by omega
  rw [hin] at q2_3 ⊢
  rw [Nat.mul_one, Nat.mul_one, ivs_take, ivs_drop, ← ivs_app, ← List.eraseIdx_eq_take_drop_succ] at q2_3
  refine clear_t u26 in3 rfl (by intro u hu; simp [Value.cells] at hu; subst hu; rfl) q2_3 (m := n) (by omega) (by omega) fun s11 q3_6 c_40 _ => ?_
  have c_4 := c_40.ch (T := [τ]) q2_3 (by simp)
  have z_5 := c_4.size
  refine ret_t ?_
  exact ⟨_, _, rfl, (((Ch.refl [τ] s).ch c_1 (by simp)).ch c_4 (by simp)), q3_6⟩

end Go.Proofs.Ytmgjdmohmhaemaa.E
