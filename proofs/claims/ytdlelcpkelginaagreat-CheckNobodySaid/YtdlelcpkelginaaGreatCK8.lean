/- My own texts, joined. -/
import Derived.DeepKeys
import Derived.KernelRfl
import Derived.Laws.StructEq
import Derived.Recover
import Derived.Tactics2
import Derived.Test.YtdlelcpkelginaaGreatProg
import Derived.WalkKit
import Derived.Test.YtdlelcpkelginaaGreatCK7
/- Contracts of functions. -/
namespace Go.Proofs.YtdlelcpkelginaaGreat.E
open Go Go.Proofs
set_option linter.unusedVariables false
set_option linter.unusedSimpArgs false
/-- an entry, as it lies in memory -/
def ev (e : Nat × ByteArray) : List Value := [.int .i64 (e.1 : Int), .string e.2]
theorem ev_len (e : Nat × ByteArray) : (ev e).length = 2 := rfl
theorem ecell0 {es : List (Nat × ByteArray)} {k : Nat} {e : Nat × ByteArray} (h : es[k]? = some e) : (es.flatMap ev)[k * 2]? = some (.int .i64 (e.1 : Int)) := fm_get ev_len es k 0 e h (by omega)
theorem ecell1 {es : List (Nat × ByteArray)} {k : Nat} {e : Nat × ByteArray} (h : es[k]? = some e) : (es.flatMap ev)[k * 2 + 1]? = some (.string e.2) := fm_get ev_len es k 1 e h (by omega)
def Dot (d : ByteArray) : Prop := d = ⟨#[46]⟩ ∨ d = ⟨#[46, 46]⟩
theorem c_encEntD (τ i : Nat) (d : ByteArray) {s : TH} (hτ : τ ≠ 0) (hi : 1 ≤ i ∧ i ≤ 511) (hd : Dot d) : TRet Tryz.prog 251 #[.agg #[.int .i64 (i : Int), .string d]] s fun v s' => ∃ a' c', v = .tuple #[.slice a' 16 c', .int .i64 0] ∧ Ch [τ] s s' ∧ Own s' a' 16 c' 5 1 (bvs (entL i d.data.toList)) τ := by
  rcases hd with rfl | rfl
  · exact c_encEnt1 τ i hτ hi
  · exact c_encEnt2 τ i hτ hi
def entsL : List (Nat × ByteArray) → List UInt8
  | [] => []
  | e :: es => entL e.1 e.2.data.toList ++ entsL es
theorem entsL_snoc (es : List (Nat × ByteArray)) (e : Nat × ByteArray) : entsL (es ++ [e]) = entsL es ++ entL e.1 e.2.data.toList := by
  induction es with
  | nil => simp [entsL]
  | cons x es ih => simp [entsL, ih]
theorem entsL_len (es : List (Nat × ByteArray)) : (entsL es).length = 16 * es.length := by
  induction es with
  | nil => rfl
  | cons x es ih => simp [entsL, ih, entL_len]; omega
def dirsL (es : List (Nat × ByteArray)) : List UInt8 := entsL es ++ List.replicate (128 - 16 * es.length) 0
/-- bollard/bollardref12.clash -/
theorem c_clash {xa : Option Addr} {n : Nat} (xc : Nat) {es : List (Nat × ByteArray)} {τx : Nat} {s : TH} (hx : Sl s xa (es.flatMap ev) τx) (hn : es.length = n) (hc : n ≤ xc) (hb : n ≤ 8) (hnc : ∀ (i j : Nat) (e f : Nat × ByteArray), j < i → es[i]? = some e → es[j]? = some f → ¬ (e.1 ≠ 0 ∧ f.1 ≠ 0 ∧ e.2.toList = f.2.toList)) : TRet Tryz.prog 250 #[.slice xa n xc] s fun v s' => v = .bool false ∧ Ch [] s s' := by
  refine F250_calls _ _ _  ?_
  unfold F250
  refine ⟨fun vs H' => ∃ s' : TH, s'.h = H' ∧ ∃ m, vs = [.int .i64 m] ∧ ChL [] [] s s' ∧ (∃ k : Nat, m = k ∧ k ≤ n), fun vs H' => match vs with | [.int .i64 m] => ((n : Int) - m).toNat | _ => 0, ⟨s, rfl, _, rfl, ChL.refl _ _ _, ?_⟩, ?_⟩
  ·
    exact ⟨0, rfl, by omega⟩
  ·
    intro m _ _ _ _ _ _ _ _ _ _ _ _ _ _ _ _ _ _ _ _ _ _ _ _ _ _ _ _ _ _ _ _ _ H37 hI
    obtain ⟨s37, rfl, m_, hvs, c_1, k, rfl, hk⟩ := hI
    cases hvs
    have z_2 := c_1.size
    refine sB_d (fun hsB1 => ?_) (fun hsB1 => ?_)
    ·
      have hk2 : k < n := by omega
      obtain ⟨e, he⟩ : ∃ e, es[k]? = some e := ⟨es[k]'(by omega), by simp⟩
      obtain ⟨a, rfl⟩ := hx.some (fun h => by have := ecell0 he; rw [h] at this; simp at this)
      refine nz_i ?_
      refine ask_t (by omega) ?_
      have x_3 := hx.mv c_1 (tagL (by simp <;> omega) (by simp))
      refine ld_sl x_3 (by rw [Int.toNat_natCast]; exact ecell0 he) ?_
      refine ld_sl2 x_3 (by rw [Int.toNat_natCast]; exact ecell1 he) ?_
      refine al_t (τx + 1) fun r42 s43 hr42 b_4 c_5 z_6 => ?_
      refine st_t b_4 rfl (by simp) fun s44 b_7 c_8 z_9 => ?_
      refine st_t b_7 rfl (by simp) fun s45 b_10 c_11 z_12 => ?_
      refine ask_t (by omega) ?_
      refine ⟨fun vs H' => ∃ s' : TH, s'.h = H' ∧ ∃ q, vs = [.int .i64 q] ∧ ChL [] [] s45 s' ∧ (∃ j : Nat, q = j ∧ j ≤ k), fun vs H' => match vs with | [.int .i64 q] => ((k : Int) - q).toNat | _ => 0, ⟨s45, rfl, _, rfl, ChL.refl _ _ _, ?_⟩, ?_⟩
      ·
        exact ⟨0, rfl, by omega⟩
      ·
        intro q _ _ _ _ _ _ _ _ _ _ _ _ _ _ _ _ _ _ _ _ _ H70 hI
        obtain ⟨s70, rfl, q_, hvs, c_13, j, rfl, hj⟩ := hI
        cases hvs
        have z_14 := c_13.size
        refine sB_d (fun hsB2 => ?_) (fun hsB2 => ?_)
        ·
          rw [slO_zero]
          have hj2 : j < k := by omega
          obtain ⟨f, hf⟩ : ∃ f, es[j]? = some f := ⟨es[j]'(by omega), by simp⟩
          refine nz_i ?_
          refine ask_t (by omega) ?_
          have x_15 := x_3.mv c_5 (tagn (by simp))
          have x_16 := x_15.mv c_8 (onn (by rw [b_4.tag]; omega))
          have x_17 := x_16.mv c_11 (onn (by rw [b_7.tag]; omega))
          have x_18 := x_17.mv c_13 (tagL (by simp <;> omega) (by simp))
          refine ld_sl x_18 (by rw [Int.toNat_natCast]; exact ecell0 hf) ?_
          refine ld_sl2 x_18 (by rw [Int.toNat_natCast]; exact ecell1 hf) ?_
          refine al_t (τx + 1) fun r75 s76 hr75 b_19 c_20 z_21 => ?_
          refine st_t b_19 rfl (by simp) fun s77 b_22 c_23 z_24 => ?_
          refine st_t b_22 rfl (by simp) fun s78 b_25 c_26 z_27 => ?_
          refine jn_u ?_
          have r42_28 := b_10.chl c_13 (by simp <;> omega) (by simp <;> omega)
          have r42_29 := r42_28.ch c_20 (by simp)
          have r42_30 := r42_29.on c_23 (by omega)
          have r42_31 := r42_30.on c_26 (by omega)
          refine ld_t r42_31 rfl ?_
          refine dInt_i ?_
          refine sB_ne (fun hsB3 => ?_) (fun hsB3 => ?_)
          ·
            refine ld_t b_25 rfl ?_
            refine dInt_i ?_
            refine sB_ne (fun hsB4 => ?_) (fun hsB4 => ?_)
            ·
              refine ld_t r42_31 rfl ?_
              refine dStr_i ?_
              refine ld_t b_25 rfl ?_
              refine dStr_i ?_
              intro _ _ _ _ _ _ _ _ _ _ _ _ _ _
              refine dBl_i ?_
              refine sB_f (by have := hnc k j e f hj2 he hf; simp only [beq_eq_false_iff_ne]; intro h; exact this ⟨by omega, by omega, h⟩) ?_
              refine wr_t (by omega) ?_
              refine ⟨⟨s78, rfl, _, rfl, (((((ChL.refl [] [] s45).chl c_13 (by simp) (by simp <;> omega)).ch c_20 (by simp)).on_new c_23 (by omega)).on_new c_26 (by omega)), ?_⟩, ?_⟩
              ·
                exact ⟨j + 1, by omega, by omega⟩
              ·
                simp only []; omega
            ·
              intro _ _ _ _ _ _ _ _ _ _ _ _ _ _
              refine dBl_i ?_
              refine sB_f (by rfl) ?_
              refine wr_t (by omega) ?_
              refine ⟨⟨s78, rfl, _, rfl, (((((ChL.refl [] [] s45).chl c_13 (by simp) (by simp <;> omega)).ch c_20 (by simp)).on_new c_23 (by omega)).on_new c_26 (by omega)), ?_⟩, ?_⟩
              ·
                exact ⟨j + 1, by omega, by omega⟩
              ·
                simp only []; omega
          ·
            intro _ _ _ _ _ _ _ _ _ _ _ _ _ _
            refine dBl_i ?_
            refine sB_f (by rfl) ?_
            refine wr_t (by omega) ?_
            refine ⟨⟨s78, rfl, _, rfl, (((((ChL.refl [] [] s45).chl c_13 (by simp) (by simp <;> omega)).ch c_20 (by simp)).on_new c_23 (by omega)).on_new c_26 (by omega)), ?_⟩, ?_⟩
            ·
              exact ⟨j + 1, by omega, by omega⟩
            ·
              simp only []; omega
        ·
          refine wr_t (by omega) ?_
          refine ⟨⟨s70, rfl, _, rfl, ((((((ChL.refl [] [] s).chl c_1 (by simp) (by simp <;> omega)).ch c_5 (by simp)).on_new c_8 (by omega)).on_new c_11 (by omega)).chl c_13 (by simp) (by simp <;> omega)), ?_⟩, ?_⟩
          ·
            exact ⟨k + 1, by omega, by omega⟩
          ·
            simp only []; omega
    ·
      refine ret_t ?_
      exact ⟨rfl, ((Ch.refl [] s).chl c_1 (by simp) (by simp <;> omega))⟩
/-- bollard/bollardref12.Encode -/
theorem c_encDirs (τ : Nat) {xa : Option Addr} {n : Nat} (xc : Nat) {es : List (Nat × ByteArray)} {τx : Nat} {s : TH} (hx : Sl s xa (es.flatMap ev) τx) (hn : es.length = n) (hc : n ≤ xc) (hb : n ≤ 8) (hnc : ∀ (i j : Nat) (e f : Nat × ByteArray), j < i → es[i]? = some e → es[j]? = some f → ¬ (e.1 ≠ 0 ∧ f.1 ≠ 0 ∧ e.2.toList = f.2.toList)) (hτ : τ ≠ 0) (hτx : τx ≠ τ) (hτ2 : τx ≠ τ + 1) (h1 : 1 ≤ n ∧ n < 8) (hd : ∀ e ∈ es, Dot e.2 ∧ 1 ≤ e.1 ∧ e.1 ≤ 511) : TRet Tryz.prog 140 #[.slice xa n xc] s fun v s' => ∃ a' c', v = .tuple #[.slice a' 128 c', .int .i64 0] ∧ Ch [τ, τ + 1] s s' ∧ Own s' a' 128 c' 5 1 (bvs (dirsL es)) τ := by
  refine F140_calls _ _ _  ?_
  unfold F140
  refine jn_u ?_
  refine sB_d (fun hsB1 => by exfalso; omega) (fun hsB1 => ?_)
  refine tcall (c_clash xc hx hn hc hb hnc) ?_
  rintro _ s74 ⟨rfl, c_1⟩
  have z_2 := c_1.size
  refine dBl_i ?_
  intro _ _ _ _ _ _
  refine dBl_i ?_
  refine sB_f (by rfl) ?_
  refine ⟨fun vs H' => ∃ s' : TH, s'.h = H' ∧ ∃ pa pn pc m, vs = [.slice pa pn pc, .int .i64 m] ∧ ChL [τ, τ + 1] [] s74 s' ∧ (∃ k : Nat, m = k ∧ k ≤ n ∧ pn = 16 * k ∧ Own s' pa (16 * k) pc 5 1 (bvs (entsL (es.take k))) τ), fun vs H' => match vs with | [.slice pa pn pc, .int .i64 m] => ((n : Int) - m).toNat | _ => 0, ⟨s74, rfl, _, _, _, _, rfl, ChL.refl _ _ _, ?_⟩, ?_⟩
  ·
    exact ⟨0, rfl, by omega, rfl, Own.nil _ _ _ _⟩
  ·
    intro pa pn pc m _ _ _ _ _ _ _ _ _ _ _ _ _ _ _ _ _ _ _ H35 hI
    obtain ⟨s35, rfl, pa_, pn_, pc_, m_, hvs, c_3, k, rfl, hk, rfl, o_5⟩ := hI
    cases hvs
    have z_4 := c_3.size
    refine sB_d (fun hsB3 => ?_) (fun hsB3 => ?_)
    ·
      have hk2 : k < n := by omega
      obtain ⟨e, he⟩ : ∃ e, es[k]? = some e := ⟨es[k]'(by omega), by simp⟩
      obtain ⟨a, rfl⟩ := hx.some (fun h => by have := ecell0 he; rw [h] at this; simp at this)
      refine nz_i ?_
      refine ask_t (by omega) ?_
      have x_6 := hx.mv c_1 (tagn (by simp))
      have x_7 := x_6.mv c_3 (tagL (by simp <;> omega) (by simp))
      refine ld_sl x_7 (by rw [Int.toNat_natCast]; exact ecell0 he) ?_
      refine ld_sl2 x_7 (by rw [Int.toNat_natCast]; exact ecell1 he) ?_
      refine al_t 0 fun r40 s41 hr40 b_8 c_9 z_10 => ?_
      refine st_t b_8 rfl (by simp) fun s42 b_11 c_12 z_13 => ?_
      refine st_t b_11 rfl (by simp) fun s43 b_14 c_15 z_16 => ?_
      refine ld_t b_14 rfl ?_
      refine ld_t b_14 rfl ?_
      have hde := hd e (List.mem_of_getElem? he)
      refine tcall (c_encEntD (τ + 1) e.1 e.2 (by omega) hde.2 hde.1) ?_
      rintro _ s47 ⟨a2, c2, rfl, c_17, en_19⟩
      have z_18 := c_17.size
      refine dT2 ?_
      refine dSl_i ?_
      refine dInt_i ?_
      refine sB_f (by rfl) ?_
      have o_20 := o_5.mv c_9 (tagn (by simp))
      have o_21 := o_20.mv c_12 (onn (by rw [b_8.tag]; omega))
      have o_22 := o_21.mv c_15 (onn (by rw [b_11.tag]; omega))
      have o_23 := o_22.mv c_17 (tagn (by intro h; simp only [List.mem_cons, List.not_mem_nil, or_false] at h <;> omega))
      refine app_i u46 in5 rfl o_23 en_19.sl (m := 16) (by rw [bvs_len, entL_len]) (bvs_one _) (fun h => by have := en_19.none_iff h; omega) (by unfold maxLen; omega) fun s57 pa2 pc2 o_26 c_240 _ => ?_
      have c_24 := c_240.ch (T := [τ]) o_23 (by simp)
      have z_25 := c_24.size
      refine dSl_i ?_
      refine wr_t (by omega) ?_
      refine ⟨⟨s57, rfl, _, _, _, _, rfl, (((((((ChL.refl [τ, τ + 1] [] s74).chl c_3 (by simp) (by simp <;> omega)).ch c_9 (by simp)).on_new c_12 (by omega)).on_new c_15 (by omega)).ch c_17 (by simp)).ch c_24 (by simp)), ?_⟩, ?_⟩
      ·
        exact ⟨k + 1, by omega, by omega, by omega, by have ho := o_26; rw [show 16 * k + 16 = 16 * (k + 1) by omega] at ho; rw [List.take_add_one, he]; show Own _ _ _ _ _ _ (bvs (entsL (es.take k ++ [e]))) _; rw [entsL_snoc]; simpa [bvs] using ho⟩
      ·
        simp only []; omega
    ·
      obtain rfl : k = n := by omega
      refine wr_t (by omega) ?_
      rw [show (128 - ((16 * k : Nat) : Int)) = ((128 - 16 * k : Nat) : Int) by omega]
      refine appz_i u46 u3 in5 o_5 (by obtain ⟨b, rfl⟩ := Own.ne_none o_5 (by omega); simp) (by omega) (by omega) fun s68 pa3 pc3 o_29 c_270 => ?_
      have c_27 := c_270.ch (T := [τ]) o_5 (by simp)
      have z_28 := c_27.size
      refine dSl_i ?_
      refine ret_t ?_
      have ho := o_29
      rw [show 16 * k + (128 - 16 * k) = 128 by omega, List.take_of_length_le (by omega)] at ho
      exact ⟨pa3, pc3, by rw [show 16 * k + (128 - 16 * k) = 128 by omega], ((((Ch.refl [τ, τ + 1] s).ch c_1 (by simp)).chl c_3 (by simp) (by simp <;> omega)).ch c_27 (by simp)), by unfold dirsL; rw [hn]; exact ho⟩
end Go.Proofs.YtdlelcpkelginaaGreat.E
/- Contracts of functions. -/
namespace Go.Proofs.YtdlelcpkelginaaGreat.E
open Go Go.Proofs
set_option linter.unusedVariables false
set_option linter.unusedSimpArgs false
/-- a geometry that may be -/
def canG (a b c : Int) : Prop := (1 ≤ a ∧ a ≤ 8) ∧ (8 ≤ b ∧ b ≤ 256) ∧ (4 ≤ c ∧ c ≤ 64) ∧ c % 4 = 0 ∧ 3 + c / 4 ≤ b
instance (a b c : Int) : Decidable (canG a b c) := by unfold canG; infer_instance
theorem tdiv4 {c : Int} (h : 0 ≤ c) : c.tdiv 4 = c / 4 := Int.tdiv_eq_ediv_of_nonneg h
theorem tmod4 {c : Int} (h : 0 ≤ c) : c.tmod 4 = c % 4 := Int.tmod_eq_emod_of_nonneg h
theorem wr_tq {a b m : Int} {k : Int → Prop} (h : a.tdiv b = m) (hm : -9223372036854775808 ≤ m ∧ m ≤ 9223372036854775807) (hk : k m) : wr .i64 (a.tdiv b) k := wr_t (by rw [h]; exact hm) (by rw [h]; exact hk)
theorem mul_le {a b c d : Int} (h0 : 0 ≤ a) (h1 : a ≤ c) (h2 : 0 ≤ b) (h3 : b ≤ d) : 0 ≤ a * b ∧ a * b ≤ c * d :=
  ⟨Int.mul_nonneg h0 h2, Int.mul_le_mul h1 h3 h2 (Int.le_trans h0 h1)⟩
/-- bollard/geom.between -/
theorem gc_between (n l m : Int) (s : TH) : TRet Tryz.prog 165 #[.int .i64 n, .int .i64 l, .int .i64 m] s fun v s' => v = .bool (decide (l ≤ n ∧ n ≤ m)) ∧ Ch [] s s' := by
  refine F165_calls _ _ _  ?_
  unfold F165
  refine sB_d (fun hsB1 => ?_) (fun hsB1 => ?_)
  ·
    refine ret_t ?_
    exact ⟨ret_b (by simp <;> omega), (Ch.refl [] s)⟩
  ·
    refine ret_t ?_
    exact ⟨ret_b (by simp <;> omega), (Ch.refl [] s)⟩
/-- bollard/geom.front -/
theorem gc_front (a b c : Int) (hc : 0 ≤ c ∧ c ≤ 1000) (s : TH) : TRet Tryz.prog 166 #[.agg #[.int .i64 a, .int .i64 b, .int .i64 c]] s fun v s' => v = .int .i64 (2 + c / 4) ∧ Ch [] s s' := by
  refine F166_calls _ _ _  ?_
  unfold F166
  refine al_t 0 fun r1 s2 hr1 b_1 c_2 z_3 => ?_
  refine ld_t b_1 rfl ?_
  refine dInt_i ?_
  refine ask_t (by decide) ?_
  refine wr_tq (tdiv4 hc.1) (by omega) ?_
  refine wr_t (by omega) ?_
  refine ret_t ?_
  exact ⟨rfl, ((Ch.refl [] s).ch c_2 (by simp))⟩
/-- bollard/geom.Can -/
theorem gc_can (a b c : Int)  (s : TH) : TRet Tryz.prog 65 #[.agg #[.int .i64 a, .int .i64 b, .int .i64 c]] s fun v s' => v = .int .i64 (if canG a b c then 0 else 170) ∧ Ch [] s s' := by
  refine F65_calls _ _ _  ?_
  unfold F65
  refine al_t 0 fun r1 s2 hr1 b_1 c_2 z_3 => ?_
  refine jn_u ?_
  refine ld_t b_1 rfl ?_
  refine dInt_i ?_
  refine tcall (gc_between _ _ _ _) ?_
  rintro _ s58 ⟨rfl, c_4⟩
  have z_5 := c_4.size
  refine dBl_i ?_
  first | refine sB_d (fun hsB1 => ?_) (fun hsB1 => ?_) | refine sB_nd (fun hsB1 => ?_) (fun hsB1 => ?_) | refine sB_n (fun hsB1 => ?_) (fun hsB1 => ?_) | refine sB_i (fun hsB1 => ?_) (fun hsB1 => ?_)
  ·
    have r1_6 := b_1.ch c_4 (by simp)
    refine ld_t r1_6 rfl ?_
    refine dInt_i ?_
    refine tcall (gc_between _ _ _ _) ?_
    rintro _ s63 ⟨rfl, c_7⟩
    have z_8 := c_7.size
    refine dBl_i ?_
    first | refine sB_d (fun hsB2 => ?_) (fun hsB2 => ?_) | refine sB_nd (fun hsB2 => ?_) (fun hsB2 => ?_) | refine sB_n (fun hsB2 => ?_) (fun hsB2 => ?_) | refine sB_i (fun hsB2 => ?_) (fun hsB2 => ?_)
    ·
      have r1_9 := r1_6.ch c_7 (by simp)
      refine ld_t r1_9 rfl ?_
      refine dInt_i ?_
      refine tcall (gc_between _ _ _ _) ?_
      rintro _ s68 ⟨rfl, c_10⟩
      have z_11 := c_10.size
      refine dBl_i ?_
      intro _ _ _ _ _ _ _ _ _ _ _ _ _
      refine dBl_i ?_
      refine jn_u ?_
      first | refine sB_d (fun hsB3 => ?_) (fun hsB3 => ?_) | refine sB_nd (fun hsB3 => ?_) (fun hsB3 => ?_) | refine sB_n (fun hsB3 => ?_) (fun hsB3 => ?_) | refine sB_i (fun hsB3 => ?_) (fun hsB3 => ?_)
      ·
        intro _ _ _ _ _ _ _ _ _ _ _ _ _ _ _
        refine dBl_i ?_
        refine sB_t (by rfl) ?_
        refine ret_t ?_
        exact ⟨ret_i (by first | rw [if_pos (by unfold canG; omega)] | rw [if_neg (by unfold canG; omega)]), (((((Ch.refl [] s).ch c_2 (by simp)).ch c_4 (by simp)).ch c_7 (by simp)).ch c_10 (by simp))⟩
      ·
        have r1_12 := r1_9.ch c_10 (by simp)
        refine ld_t r1_12 rfl ?_
        refine dInt_i ?_
        refine ask_t (by decide) ?_
        refine nm_t (tmod4 (by omega)) ?_
        refine sB_ne (fun hsB5 => ?_) (fun hsB5 => ?_)
        ·
          intro _ _ _ _ _ _ _ _ _ _ _ _ _ _ _
          refine dBl_i ?_
          refine sB_t (by rfl) ?_
          refine ret_t ?_
          exact ⟨ret_i (by first | rw [if_pos (by unfold canG; omega)] | rw [if_neg (by unfold canG; omega)]), (((((Ch.refl [] s).ch c_2 (by simp)).ch c_4 (by simp)).ch c_7 (by simp)).ch c_10 (by simp))⟩
        ·
          refine ld_t r1_12 rfl ?_
          refine dInt_i ?_
          refine ld_t r1_12 rfl ?_
          refine ld_t r1_12 rfl ?_
          refine ld_t r1_12 rfl ?_
          refine tcall (gc_front _ _ _ (by omega) _) ?_
          rintro _ s47 ⟨rfl, c_13⟩
          have z_14 := c_13.size
          refine dInt_i ?_
          refine ⟨?_, ?_⟩
          ·
            have r1_15 := r1_12.ch c_13 (by simp)
            refine ld_t r1_15 rfl ?_
            refine dInt_i ?_
            rfl
          ·
            refine wr_t (by omega) ?_
            intro _ _ _ _ _ _ _ _ _ _ _ _ _ _ _
            refine dBl_i ?_
            refine sB_d (fun hsB7 => ?_) (fun hsB7 => ?_)
            ·
              refine ret_t ?_
              exact ⟨ret_i (by first | rw [if_pos (by unfold canG; omega)] | rw [if_neg (by unfold canG; omega)]), ((((((Ch.refl [] s).ch c_2 (by simp)).ch c_4 (by simp)).ch c_7 (by simp)).ch c_10 (by simp)).ch c_13 (by simp))⟩
            ·
              refine ret_t ?_
              exact ⟨ret_i (by first | rw [if_pos (by unfold canG; omega)] | rw [if_neg (by unfold canG; omega)]), ((((((Ch.refl [] s).ch c_2 (by simp)).ch c_4 (by simp)).ch c_7 (by simp)).ch c_10 (by simp)).ch c_13 (by simp))⟩
    ·
      intro _ _ _ _ _ _ _ _ _ _ _ _ _
      refine dBl_i ?_
      refine jn_u ?_
      refine sB_t (by rfl) ?_
      intro _ _ _ _ _ _ _ _ _ _ _ _ _ _ _
      refine dBl_i ?_
      refine sB_t (by rfl) ?_
      refine ret_t ?_
      exact ⟨ret_i (by first | rw [if_pos (by unfold canG; omega)] | rw [if_neg (by unfold canG; omega)]), ((((Ch.refl [] s).ch c_2 (by simp)).ch c_4 (by simp)).ch c_7 (by simp))⟩
  ·
    intro _ _ _ _ _ _ _ _ _ _ _ _ _
    refine dBl_i ?_
    refine jn_u ?_
    refine sB_t (by rfl) ?_
    intro _ _ _ _ _ _ _ _ _ _ _ _ _ _ _
    refine dBl_i ?_
    refine sB_t (by rfl) ?_
    refine ret_t ?_
    exact ⟨ret_i (by first | rw [if_pos (by unfold canG; omega)] | rw [if_neg (by unfold canG; omega)]), (((Ch.refl [] s).ch c_2 (by simp)).ch c_4 (by simp))⟩
/-- bollard/bollardref04.Can -/
theorem gc_rcan (a b c : Int)  (s : TH) : TRet Tryz.prog 138 #[.agg #[.int .i64 a, .int .i64 b, .int .i64 c]] s fun v s' => v = .int .i64 (if canG a b c then 0 else 170) ∧ Ch [] s s' := by
  refine F138_calls _ _ _  ?_
  unfold F138
  refine al_t 0 fun r1 s2 hr1 b_1 c_2 z_3 => ?_
  refine jn_u ?_
  refine ld_t b_1 rfl ?_
  refine dInt_i ?_
  refine sB_d (fun hsB1 => ?_) (fun hsB1 => ?_)
  ·
    intro _ _ _ _ _ _ _ _ _ _ _ _ _ _ _ _ _ _ _ _ _ _ _ _ _ _ _ _ _ _ _ _ _ _ _ _ _ _ _ _ _ _
    refine dBl_i ?_
    refine sB_t (by rfl) ?_
    refine ret_t ?_
    exact ⟨ret_i (by first | rw [if_pos (by unfold canG; omega)] | rw [if_neg (by unfold canG; omega)]), ((Ch.refl [] s).ch c_2 (by simp))⟩
  ·
    refine ld_t b_1 rfl ?_
    refine dInt_i ?_
    refine sB_d (fun hsB3 => ?_) (fun hsB3 => ?_)
    ·
      intro _ _ _ _ _ _ _ _ _ _ _ _ _ _ _ _ _ _ _ _ _ _ _ _ _ _ _ _ _ _ _ _ _ _ _ _ _ _ _ _ _ _
      refine dBl_i ?_
      refine sB_t (by rfl) ?_
      refine ret_t ?_
      exact ⟨ret_i (by first | rw [if_pos (by unfold canG; omega)] | rw [if_neg (by unfold canG; omega)]), ((Ch.refl [] s).ch c_2 (by simp))⟩
    ·
      refine ld_t b_1 rfl ?_
      refine dInt_i ?_
      refine sB_d (fun hsB5 => ?_) (fun hsB5 => ?_)
      ·
        intro _ _ _ _ _ _ _ _ _ _ _ _ _ _ _ _ _ _ _ _ _ _ _ _ _ _ _ _ _ _ _ _ _ _ _ _ _ _ _ _ _ _
        refine dBl_i ?_
        refine sB_t (by rfl) ?_
        refine ret_t ?_
        exact ⟨ret_i (by first | rw [if_pos (by unfold canG; omega)] | rw [if_neg (by unfold canG; omega)]), ((Ch.refl [] s).ch c_2 (by simp))⟩
      ·
        refine ld_t b_1 rfl ?_
        refine dInt_i ?_
        refine sB_d (fun hsB7 => ?_) (fun hsB7 => ?_)
        ·
          intro _ _ _ _ _ _ _ _ _ _ _ _ _ _ _ _ _ _ _ _ _ _ _ _ _ _ _ _ _ _ _ _ _ _ _ _ _ _ _ _ _ _
          refine dBl_i ?_
          refine sB_t (by rfl) ?_
          refine ret_t ?_
          exact ⟨ret_i (by first | rw [if_pos (by unfold canG; omega)] | rw [if_neg (by unfold canG; omega)]), ((Ch.refl [] s).ch c_2 (by simp))⟩
        ·
          refine ld_t b_1 rfl ?_
          refine dInt_i ?_
          refine sB_d (fun hsB9 => ?_) (fun hsB9 => ?_)
          ·
            intro _ _ _ _ _ _ _ _ _ _ _ _ _ _ _ _ _ _ _ _ _ _ _ _ _ _ _ _ _ _ _ _ _ _ _ _ _ _ _ _ _ _
            refine dBl_i ?_
            refine sB_t (by rfl) ?_
            refine ret_t ?_
            exact ⟨ret_i (by first | rw [if_pos (by unfold canG; omega)] | rw [if_neg (by unfold canG; omega)]), ((Ch.refl [] s).ch c_2 (by simp))⟩
          ·
            refine ld_t b_1 rfl ?_
            refine dInt_i ?_
            refine sB_d (fun hsB11 => ?_) (fun hsB11 => ?_)
            ·
              intro _ _ _ _ _ _ _ _ _ _ _ _ _ _ _ _ _ _ _ _ _ _ _ _ _ _ _ _ _ _ _ _ _ _ _ _ _ _ _ _ _ _
              refine dBl_i ?_
              refine sB_t (by rfl) ?_
              refine ret_t ?_
              exact ⟨ret_i (by first | rw [if_pos (by unfold canG; omega)] | rw [if_neg (by unfold canG; omega)]), ((Ch.refl [] s).ch c_2 (by simp))⟩
            ·
              refine ld_t b_1 rfl ?_
              refine dInt_i ?_
              refine ask_t (by decide) ?_
              refine nm_t (tmod4 (by omega)) ?_
              refine sB_ne (fun hsB13 => ?_) (fun hsB13 => ?_)
              ·
                intro _ _ _ _ _ _ _ _ _ _ _ _ _ _ _ _ _ _ _ _ _ _ _ _ _ _ _ _ _ _ _ _ _ _ _ _ _ _ _ _ _ _
                refine dBl_i ?_
                refine sB_t (by rfl) ?_
                refine ret_t ?_
                exact ⟨ret_i (by first | rw [if_pos (by unfold canG; omega)] | rw [if_neg (by unfold canG; omega)]), ((Ch.refl [] s).ch c_2 (by simp))⟩
              ·
                refine ld_t b_1 rfl ?_
                refine dInt_i ?_
                refine ld_t b_1 rfl ?_
                refine dInt_i ?_
                refine ask_t (by decide) ?_
                refine wr_tq (tdiv4 (by omega)) (by omega) ?_
                refine wr_t (by omega) ?_
                intro _ _ _ _ _ _ _ _ _ _ _ _ _ _ _ _ _ _ _ _ _ _ _ _ _ _ _ _ _ _ _ _ _ _ _ _ _ _ _ _ _ _
                refine dBl_i ?_
                refine sB_d (fun hsB15 => ?_) (fun hsB15 => ?_)
                ·
                  refine ret_t ?_
                  exact ⟨ret_i (by first | rw [if_pos (by unfold canG; omega)] | rw [if_neg (by unfold canG; omega)]), ((Ch.refl [] s).ch c_2 (by simp))⟩
                ·
                  refine ret_t ?_
                  exact ⟨ret_i (by first | rw [if_pos (by unfold canG; omega)] | rw [if_neg (by unfold canG; omega)]), ((Ch.refl [] s).ch c_2 (by simp))⟩
/-- bollard/geom.all -/
theorem gc_all (a b c : Int) (e : Int) (hv : canG a b c) (he : 0 ≤ e ∧ e ≤ 10000) (s : TH) : TRet Tryz.prog 167 #[.agg #[.int .i64 a, .int .i64 b, .int .i64 c], .int .i64 e] s fun v s' => v = .int .i64 (a * e) ∧ Ch [] s s' := by
  refine F167_calls _ _ _ _  ?_
  unfold F167
  refine al_t 0 fun r1 s2 hr1 b_1 c_2 z_3 => ?_
  refine ld_t b_1 rfl ?_
  refine ld_t b_1 rfl ?_
  refine ld_t b_1 rfl ?_
  refine tcall (gc_can _ _ _ _) ?_
  rintro _ s7 ⟨rfl, c_4⟩
  have z_5 := c_4.size
  rw [if_pos hv]
  refine dInt_i ?_
  refine sB_f rfl ?_
  have r1_6 := b_1.ch c_4 (by simp)
  refine ld_t r1_6 rfl ?_
  refine dInt_i ?_
  refine wr_t (by unfold canG at hv; have := mul_le (a := a) (b := e) (c := 8) (d := 10000) (by omega) (by omega) he.1 he.2; omega) ?_
  refine ret_t ?_
  exact ⟨rfl, (((Ch.refl [] s).ch c_2 (by simp)).ch c_4 (by simp))⟩
/-- bollard/geom.at -/
theorem gc_at (a b c : Int) (n p : Int) (hv : canG a b c) (hn : 0 ≤ n ∧ n < a) (hp : 0 ≤ p ∧ p ≤ 10000) (s : TH) : TRet Tryz.prog 213 #[.agg #[.int .i64 a, .int .i64 b, .int .i64 c], .int .i64 n, .int .i64 p] s fun v s' => v = .tuple #[.int .i64 (n * b + p), .bool true] ∧ Ch [] s s' := by
  have hm := mul_le (a := n) (b := b) (c := 8) (d := 256) (by omega) (by unfold canG at hv; omega) (by unfold canG at hv; omega) (by unfold canG at hv; omega)
  refine F213_calls _ _ _ _ _  ?_
  unfold F213
  refine al_t 0 fun r1 s2 hr1 b_1 c_2 z_3 => ?_
  refine jn_u ?_
  refine ld_t b_1 rfl ?_
  refine ld_t b_1 rfl ?_
  refine ld_t b_1 rfl ?_
  refine tcall (gc_can _ _ _ _) ?_
  rintro _ s25 ⟨rfl, c_4⟩
  have z_5 := c_4.size
  rw [if_pos hv]
  refine dInt_i ?_
  refine sB_f rfl ?_
  have r1_6 := b_1.ch c_4 (by simp)
  refine ld_t r1_6 rfl ?_
  refine dInt_i ?_
  refine wr_t (by unfold canG at hv; omega) ?_
  refine tcall (gc_between _ _ _ _) ?_
  rintro _ s31 ⟨rfl, c_7⟩
  have z_8 := c_7.size
  refine dBl_i ?_
  intro _ _ _ _ _ _ _ _ _ _
  refine dBl_i ?_
  first | refine sB_d (fun hsB2 => by exfalso; omega) (fun hsB2 => ?_) | refine sB_nd (fun hsB2 => by exfalso; omega) (fun hsB2 => ?_)
  have r1_9 := r1_6.ch c_7 (by simp)
  refine ld_t r1_9 rfl ?_
  refine dInt_i ?_
  refine wr_t (by omega) ?_
  refine wr_t (by omega) ?_
  refine ret_t ?_
  exact ⟨rfl, ((((Ch.refl [] s).ch c_2 (by simp)).ch c_4 (by simp)).ch c_7 (by simp))⟩
/-- bollard/geom.Blocks -/
theorem gc_blocks (a b c : Int) (hv : canG a b c)  (s : TH) : TRet Tryz.prog 66 #[.agg #[.int .i64 a, .int .i64 b, .int .i64 c]] s fun v s' => v = .int .i64 (a * b) ∧ Ch [] s s' := by
  refine F66_calls _ _ _  ?_
  unfold F66
  refine al_t 0 fun r1 s2 hr1 b_1 c_2 z_3 => ?_
  refine ld_t b_1 rfl ?_
  refine ld_t b_1 rfl ?_
  refine ld_t b_1 rfl ?_
  refine ld_t b_1 rfl ?_
  refine dInt_i ?_
  refine tcall (gc_all _ _ _ _ hv (by first | omega | (unfold canG at hv; omega)) _) ?_
  rintro _ s9 ⟨rfl, c_4⟩
  have z_5 := c_4.size
  refine dInt_i ?_
  refine ret_t ?_
  exact ⟨rfl, (((Ch.refl [] s).ch c_2 (by simp)).ch c_4 (by simp))⟩
/-- bollard/geom.Inodes -/
theorem gc_inodes (a b c : Int) (hv : canG a b c)  (s : TH) : TRet Tryz.prog 126 #[.agg #[.int .i64 a, .int .i64 b, .int .i64 c]] s fun v s' => v = .int .i64 (a * c) ∧ Ch [] s s' := by
  refine F126_calls _ _ _  ?_
  unfold F126
  refine al_t 0 fun r1 s2 hr1 b_1 c_2 z_3 => ?_
  refine ld_t b_1 rfl ?_
  refine ld_t b_1 rfl ?_
  refine ld_t b_1 rfl ?_
  refine ld_t b_1 rfl ?_
  refine dInt_i ?_
  refine tcall (gc_all _ _ _ _ hv (by first | omega | (unfold canG at hv; omega)) _) ?_
  rintro _ s9 ⟨rfl, c_4⟩
  have z_5 := c_4.size
  refine dInt_i ?_
  refine ret_t ?_
  exact ⟨rfl, (((Ch.refl [] s).ch c_2 (by simp)).ch c_4 (by simp))⟩
-- no form: bollard/geom.Super
/-- bollard/geom.split -/
theorem gc_split (n e t : Int) (hn : 0 ≤ n ∧ n < t) (he : 0 < e) (ht : t ≤ 1000000) (s : TH) : TRet Tryz.prog 206 #[.int .i64 n, .int .i64 e, .int .i64 t] s fun v s' => v = .tuple #[.int .i64 (n / e), .int .i64 (n % e), .bool true] ∧ Ch [] s s' := by
  have h1 := Int.tdiv_eq_ediv_of_nonneg (b := e) hn.1
  have h2 := Int.tmod_eq_emod_of_nonneg (b := e) hn.1
  have h3 : 0 ≤ n / e ∧ n / e ≤ n := ⟨Int.ediv_nonneg hn.1 (by omega), Int.ediv_le_self _ hn.1⟩
  refine F206_calls _ _ _  ?_
  unfold F206
  refine wr_t (by omega) ?_
  refine tcall (gc_between _ _ _ _) ?_
  rintro _ s3 ⟨rfl, c_1⟩
  have z_2 := c_1.size
  refine dBl_i ?_
  first | refine sB_d (fun hsB1 => by exfalso; omega) (fun hsB1 => ?_) | refine sB_nd (fun hsB1 => by exfalso; omega) (fun hsB1 => ?_)
  refine ask_t (by omega) ?_
  refine wr_tq h1 (by omega) ?_
  refine ask_t (by omega) ?_
  refine nm_t h2 ?_
  refine ret_t ?_
  exact ⟨rfl, ((Ch.refl [] s).ch c_1 (by simp))⟩
/-- bollard/geom.Owner -/
theorem gc_owner (a b c : Int) (n : Int) (hv : canG a b c) (hn : 0 ≤ n ∧ n < a * c) (s : TH) : TRet Tryz.prog 106 #[.agg #[.int .i64 a, .int .i64 b, .int .i64 c], .int .i64 n] s fun v s' => v = .tuple #[.int .i64 (n / c), .int .i64 (n % c), .bool true] ∧ Ch [] s s' := by
  have hac := mul_le (a := a) (b := c) (c := 8) (d := 64) (by unfold canG at hv; omega) (by unfold canG at hv; omega) (by unfold canG at hv; omega) (by unfold canG at hv; omega)
  refine F106_calls _ _ _ _  ?_
  unfold F106
  refine al_t 0 fun r1 s2 hr1 b_1 c_2 z_3 => ?_
  refine ld_t b_1 rfl ?_
  refine dInt_i ?_
  refine ld_t b_1 rfl ?_
  refine ld_t b_1 rfl ?_
  refine ld_t b_1 rfl ?_
  refine tcall (gc_inodes _ _ _ hv _) ?_
  rintro _ s9 ⟨rfl, c_4⟩
  have z_5 := c_4.size
  refine dInt_i ?_
  refine ⟨?_, ?_⟩
  ·
    have r1_6 := b_1.ch c_4 (by simp)
    refine ld_t r1_6 rfl ?_
    refine dInt_i ?_
    rfl
  ·
    refine tcall (gc_split _ _ _ (by omega) (by first | omega | (unfold canG at hv; omega)) (by first | omega | (unfold canG at hv; omega)) _) ?_
    rintro _ s14 ⟨rfl, c_7⟩
    have z_8 := c_7.size
    refine dT3 ?_
    refine dInt_i ?_
    refine dInt_i ?_
    refine dBl_i ?_
    refine ret_t ?_
    exact ⟨rfl, ((((Ch.refl [] s).ch c_2 (by simp)).ch c_4 (by simp)).ch c_7 (by simp))⟩
/-- bollard/geom.Inode -/
theorem gc_inode (a b c : Int) (n : Int) (hv : canG a b c) (hn : 0 ≤ n ∧ n < a * c) (s : TH) : TRet Tryz.prog 141 #[.agg #[.int .i64 a, .int .i64 b, .int .i64 c], .int .i64 n] s fun v s' => v = .tuple #[.int .i64 (n / c * b + (2 + n % c / 4)), .int .i64 (n % c % 4 * 32), .bool true] ∧ Ch [] s s' := by
  have hac := mul_le (a := a) (b := c) (c := 8) (d := 64) (by unfold canG at hv; omega) (by unfold canG at hv; omega) (by unfold canG at hv; omega) (by unfold canG at hv; omega)
  have hdm : 0 ≤ n % c ∧ n % c < c ∧ 0 ≤ n / c ∧ n / c < a := ⟨Int.emod_nonneg _ (by unfold canG at hv; omega), Int.emod_lt_of_pos _ (by unfold canG at hv; omega), Int.ediv_nonneg hn.1 (by unfold canG at hv; omega), Int.ediv_lt_of_lt_mul (by unfold canG at hv; omega) hn.2⟩
  refine F141_calls _ _ _ _  ?_
  unfold F141
  refine al_t 0 fun r1 s2 hr1 b_1 c_2 z_3 => ?_
  refine ld_t b_1 rfl ?_
  refine ld_t b_1 rfl ?_
  refine ld_t b_1 rfl ?_
  refine tcall (gc_owner _ _ _ _ hv (by omega) _) ?_
  rintro _ s7 ⟨rfl, c_4⟩
  have z_5 := c_4.size
  refine dT3 ?_
  refine dInt_i ?_
  refine dInt_i ?_
  refine dBl_i ?_
  refine sB_f rfl ?_
  have r1_6 := b_1.ch c_4 (by simp)
  refine ld_t r1_6 rfl ?_
  refine ld_t r1_6 rfl ?_
  refine ld_t r1_6 rfl ?_
  refine ask_t (by decide) ?_
  refine wr_tq (tdiv4 hdm.1) (by unfold canG at hv; omega) ?_
  refine wr_t (by unfold canG at hv; omega) ?_
  refine tcall (gc_at _ _ _ _ _ hv (by omega) (by first | omega | (unfold canG at hv; omega)) _) ?_
  rintro _ s20 ⟨rfl, c_7⟩
  have z_8 := c_7.size
  refine dT2 ?_
  refine dInt_i ?_
  refine dBl_i ?_
  refine ask_t (by decide) ?_
  refine nm_t (tmod4 hdm.1) ?_
  refine wr_t (by unfold canG at hv; omega) ?_
  refine ret_t ?_
  exact ⟨rfl, ((((Ch.refl [] s).ch c_2 (by simp)).ch c_4 (by simp)).ch c_7 (by simp))⟩
-- no form: bollard/bollardref04.Group
-- no form: bollard/bollardref04.IsData
end Go.Proofs.YtdlelcpkelginaaGreat.E
/- Contracts of functions. -/
namespace Go.Proofs.YtdlelcpkelginaaGreat.E
open Go Go.Proofs Go.RowKit Go.Maps Go.Shelf Go.Sort
set_option linter.unusedVariables false
set_option linter.unusedSimpArgs false
/-- the marks of a state, turned by a function -/
def remarkF (s : TH) (φ : Nat → Nat) : TH := ⟨s.h, fun j => φ (s.g j)⟩
theorem remarkF_ch {T : List Nat} {s s' : TH} {M : Nat} {φ : Nat → Nat} (c : Ch T s s') (hM : ∀ j, j < s.h.size → s.g j < M) (hφ : ∀ m, m < M → φ m = m) : Ch T s (remarkF s' φ) :=
  ⟨c.size, fun j hj => by show φ (s'.g j) = s.g j; rw [c.tag j hj]; exact hφ _ (hM j hj), c.get⟩
section
variable {s : TH} {φ : Nat → Nat}
theorem Blk.rf {r : Nat} {l : List Value} {t τ : Nat} (h : Blk s r l t τ) : Blk (remarkF s φ) r l t (φ τ) := ⟨h.get, congrArg φ h.tag⟩
theorem Sl.rf {a : Option Addr} {l : List Value} {τ : Nat} (h : Sl s a l τ) : Sl (remarkF s φ) a l (φ τ) := by
  rcases h with h | ⟨g, o, h1, h2, h3, h4⟩
  · exact .inl h
  · exact .inr ⟨g, o, h1, h2, congrArg φ h3, h4⟩
theorem Own.rf {a : Option Addr} {n c e k : Nat} {xs : List Value} {τ : Nat} (h : Own s a n c e k xs τ) : Own (remarkF s φ) a n c e k xs (φ τ) := by
  refine ⟨h.1, h.2.imp id ?_⟩
  rintro ⟨g, o, L, h1, h2, h3⟩
  exact ⟨g, o, L, h1, h2.rf, h3⟩
theorem ByAt.rf {τ : Nat} {p : Hd} {b : List UInt8} (h : ByAt s τ p b) : ByAt (remarkF s φ) (φ τ) p b := ⟨h.sl.rf, h.len⟩
theorem BRel.rf {τ : Nat} {hs : List Hd} {bs : List (List UInt8)} (h : BRel s τ hs bs) : BRel (remarkF s φ) (φ τ) hs bs := ⟨h.len, fun i p b h1 h2 => (h.at_ i p b h1 h2).rf⟩
end
/-- rows of bytes: the third with a mark of its own, and owned -/
structure B2 (s : TH) (τa τb : Nat) (hs : List Hd) (bs : List (List UInt8)) : Prop where
  len : hs.length = bs.length
  at_ : ∀ (i : Nat) (p : Hd) (b : List UInt8), i ≠ 2 → hs[i]? = some p → bs[i]? = some b → ByAt s τb p b
  two : ∀ (p : Hd) (b : List UInt8), hs[2]? = some p → bs[2]? = some b → b.length = 128 ∧ Own s p.1 128 p.2 5 1 (bvs b) τa
theorem B2.ch {s s' : TH} {τa τb : Nat} {hs : List Hd} {bs : List (List UInt8)} {T : List Nat} (h : B2 s τa τb hs bs) (c : Ch T s s') (ha : τa ∉ T) (hb : τb ∉ T) : B2 s' τa τb hs bs :=
  ⟨h.len, fun i p b h0 h1 h2 => (h.at_ i p b h0 h1 h2).mv c (tagn hb), fun p b h1 h2 => ⟨(h.two p b h1 h2).1, (h.two p b h1 h2).2.mv c (tagn ha)⟩⟩
theorem B2.rf {s : TH} {φ : Nat → Nat} {τa τb : Nat} {hs : List Hd} {bs : List (List UInt8)} (h : B2 s τa τb hs bs) : B2 (remarkF s φ) (φ τa) (φ τb) hs bs :=
  ⟨h.len, fun i p b h0 h1 h2 => (h.at_ i p b h0 h1 h2).rf, fun p b h1 h2 => ⟨(h.two p b h1 h2).1, (h.two p b h1 h2).2.rf⟩⟩
theorem B2.brel {s : TH} {τ : Nat} {hs : List Hd} {bs : List (List UInt8)} (h : B2 s τ τ hs bs) : BRel s τ hs bs := ⟨h.len, fun i p b h1 h2 => by
  by_cases e : i = 2
  · subst e; exact ⟨(h.two p b h1 h2).2.sl, (h.two p b h1 h2).1⟩
  · exact h.at_ i p b e h1 h2⟩
theorem B2.snoc {s : TH} {τa τb : Nat} {hs : List Hd} {bs : List (List UInt8)} (h : B2 s τa τb hs bs) {p : Hd} {b : List UInt8} (hl : b.length = 128) (ho : Own s p.1 128 p.2 5 1 (bvs b) (if hs.length = 2 then τa else τb)) : B2 s τa τb (hs ++ [p]) (bs ++ [b]) := by
  have e := h.len
  refine ⟨by simp [e], fun i q x h0 h1 h2 => ?_, fun q x h1 h2 => ?_⟩
  · rcases Nat.lt_trichotomy i hs.length with h3 | h3 | h3
    · rw [List.getElem?_append_left h3] at h1; rw [List.getElem?_append_left (by omega)] at h2; exact h.at_ i q x h0 h1 h2
    · subst h3
      rw [if_neg h0] at ho
      rw [List.getElem?_append_right (Nat.le_refl _), Nat.sub_self] at h1
      rw [List.getElem?_append_right (by omega), e, Nat.sub_self] at h2
      simp at h1 h2; subst h1 h2; exact ⟨ho.sl, hl⟩
    · rw [List.getElem?_eq_none (by simp; omega)] at h1; cases h1
  · rcases Nat.lt_trichotomy 2 hs.length with h3 | h3 | h3
    · rw [List.getElem?_append_left h3] at h1; rw [List.getElem?_append_left (by omega)] at h2; exact h.two q x h1 h2
    · rw [if_pos h3.symm] at ho
      rw [List.getElem?_append_right (by omega), ← h3, Nat.sub_self] at h1
      rw [List.getElem?_append_right (by omega), ← e, ← h3, Nat.sub_self] at h2
      simp at h1 h2; subst h1 h2; exact ⟨hl, ho⟩
    · rw [List.getElem?_eq_none (by simp; omega)] at h1; cases h1
theorem B2.app {s : TH} {τa τb : Nat} {hs hs' : List Hd} {bs bs' : List (List UInt8)} (h : B2 s τa τb hs bs) (k : BRel s τb hs' bs') (h3 : 3 ≤ hs.length) : B2 s τa τb (hs ++ hs') (bs ++ bs') := by
  have e := h.len
  refine ⟨by simp [e, k.len], fun i q x h0 h1 h2 => ?_, fun q x h1 h2 => ?_⟩
  · by_cases h4 : i < hs.length
    · rw [List.getElem?_append_left h4] at h1; rw [List.getElem?_append_left (by omega)] at h2; exact h.at_ i q x h0 h1 h2
    · rw [List.getElem?_append_right (by omega)] at h1; rw [List.getElem?_append_right (by omega), ← e] at h2; exact k.at_ _ q x h1 h2
  · rw [List.getElem?_append_left (by omega)] at h1; rw [List.getElem?_append_left (by omega)] at h2; exact h.two q x h1 h2
theorem copy_blk {P : Program} {t t2 ty e : TypeId} {E : List PanicEntry → Heap → Prop} {s : TH} {r o n c mc tb : Nat} {xa : Option Addr} {L : List Value} {x : List UInt8} {τ τx : Nat} {K : Value → Heap → Prop}
    (ht : P.underlying t = some (.slice e)) (hi' : (P.info? e).map (fun i => (i.zero, i.size, i.bytes)) = some (some (.int .u8 0), 1, 1))
    (hB : Blk s r L tb τ) (hx : Sl s xa (bvs x) τx) (hm : x.length = n) (hn : 0 < n) (ho : o + n ≤ L.length)
    (hk : ∀ s' : TH, Blk s' r (L.take o ++ bvs x ++ L.drop (o + n)) tb τ → On r s s' → s.h.size = s'.h.size → K (.int .i64 (n : Int)) s'.h) :
    semW P (Builtin.copy_ #[t, t2] ty #[.slice (some ⟨r, o, none⟩) n c, .slice xa n mc]) E s.h K := .mk fun w hw => by
  obtain ⟨i, hi, hz, hs, hby⟩ := info_of hi'
  obtain ⟨b, rfl⟩ := hx.some (fun h => by have := congrArg List.length h; rw [bvs_len, List.length_nil] at this; omega)
  have hfw := run_firstCells_some (P := P) w 1 n b n mc (bvs x) (by rw [bvs_len]; omega) fun j u hu => hx.cells w hw j u hu
  have hst := run_storeCells_at P r o tb (bvs x) 0 L.toArray w (by rw [hw]; exact hB.get) (by simp [bvs_len]; omega) (bvs_one _)
  simp only [Nat.add_zero, bvs_len] at hst
  have hr : (Builtin.copy_ #[t, t2] ty #[.slice (some ⟨r, o, none⟩) n c, .slice (some b) n mc]).run P w = .ok (.int .i64 (n : Int)) (w.setRow r (L.take o ++ bvs x ++ L.drop (o + n)).toArray) := by
    simp [Builtin.copy_, run_underlying ht, sizeOf, typeInfo, hi, hs, hfw, hst, goInt, Builtin.lenOf, hm]
  rw [hr]
  have hset : (w.setRow r (L.take o ++ bvs x ++ L.drop (o + n)).toArray).heap[r]? = some (.cells (L.take o ++ bvs x ++ L.drop (o + n)).toArray tb (0, 0)) := setRow_heap w r L.toArray _ tb _ (by rw [hw]; exact hB.get)
  have hK := hk ⟨(w.setRow r (L.take o ++ bvs x ++ L.drop (o + n)).toArray).heap, s.g⟩ ⟨hset, hB.tag⟩ ⟨by simp [← hw], fun _ _ => rfl, fun j hj hn => ?_⟩ (by simp [← hw])
  · exact ⟨hK, rfl, rfl, rfl⟩
  · show (w.setRow r _).heap[j]? = _
    rw [setRow_other w r j _ (fun e => hn (by simp [e])), hw]
theorem st_same {s : TH} {r i t τ : Nat} {l : List Value} {v : Value} {k : Heap → Prop} (h : Blk s r l t τ) (h1 : oneC v = true) (hv : l[i]? = some v) (hk : ∀ s' : TH, Blk s' r l t τ → On r s s' → s.h.size = s'.h.size → k s'.h) : st s.h ⟨r, i, none⟩ v k := by
  obtain ⟨hi, hg⟩ := List.getElem?_eq_some_iff.1 hv
  refine st_t h h1 hi fun s' b c z => hk s' ?_ c z
  rw [← hg, List.set_getElem_self] at b
  exact b
/-- a group's header, as it lies in memory -/
def gv (n : Int) (il bl : List UInt8) : List Value := .int .i64 n :: (bvs il ++ bvs bl)
def hdL (n : Nat) (il bl : List UInt8) : List UInt8 := [104, 100, UInt8.ofNat n, 0] ++ il ++ bl ++ List.replicate 84 0
theorem hdL_len (n : Nat) {il bl : List UInt8} (h1 : il.length = 8) (h2 : bl.length = 32) : (hdL n il bl).length = 128 := by simp [hdL, h1, h2]
theorem gv_bits {n : Int} {il bl x : List UInt8} (h1 : il.length = 8) (h2 : bl.length = 32) : (gv n il bl).take 9 ++ bvs x ++ (gv n il bl).drop (9 + 32) = gv n il x := by
  have e1 : (bvs il).length = 8 := by rw [bvs_len, h1]
  have e2 : (bvs bl).length = 32 := by rw [bvs_len, h2]
  unfold gv
  rw [show (9 : Nat) = 8 + 1 from rfl, List.take_succ_cons, show 8 + 1 + 32 = 40 + 1 from rfl, List.drop_succ_cons, List.take_append_of_le_length (by omega), List.take_of_length_le (by omega), List.drop_eq_nil_of_le (by simp [e1, e2])]
  simp
theorem gv_len {n : Int} {il bl : List UInt8} (h1 : il.length = 8) (h2 : bl.length = 32) : (gv n il bl).length = 41 := by simp [gv, bvs_len, h1, h2]
theorem gv_slB {s : TH} {r t τ : Nat} {n : Int} {il bl : List UInt8} (h : Blk s r (gv n il bl) t τ) (h1 : il.length = 8) (h2 : bl.length = 32) : Sl s (some ⟨r, 9, none⟩) (bvs bl) τ := Sl.of h (by
  have e1 : (bvs il).length = 8 := by rw [bvs_len, h1]
  have e2 : (bvs bl).length = 32 := by rw [bvs_len, h2]
  unfold gv
  rw [show (9 : Nat) = 8 + 1 from rfl, List.drop_succ_cons, List.drop_append_of_le_length (by omega), List.drop_eq_nil_of_le (by omega)]
  simp)
theorem gv_slI {s : TH} {r t τ : Nat} {n : Int} {il bl : List UInt8} (h : Blk s r (gv n il bl) t τ) (h1 : il.length = 8) (h2 : bl.length = 32) : Sl s (some ⟨r, 1, none⟩) (bvs il) τ := Sl.of h (by
  have e1 : (bvs il).length = 8 := by rw [bvs_len, h1]
  unfold gv
  rw [show (1 : Nat) = 0 + 1 from rfl, List.drop_succ_cons, List.drop_zero, List.take_append_of_le_length (by omega), List.take_of_length_le (by omega)])
/-- the first bits of a row are set -/
def setsB (l : List UInt8) : Nat → List UInt8
  | 0 => l
  | k + 1 => setB (setsB l k) k
theorem setsB_len (l : List UInt8) (k : Nat) : (setsB l k).length = l.length := by
  induction k with
  | zero => rfl
  | succ k ih => rw [setsB, setB_len, ih]
def zB32 : List UInt8 := List.replicate 32 0
theorem sets32 (k : Nat) : (setsB zB32 k).length = 32 := setsB_len _ _
def iL (n : Nat) : List UInt8 := [if n = 0 then 7 else 0, 0, 0, 0, 0, 0, 0, 0]
def nB (n N : Nat) : Nat := 2 + N / 4 + if n = 0 then 1 else 0
def zB128 : List UInt8 := List.replicate 128 0
theorem zB128_len : zB128.length = 128 := List.length_replicate
/-- a new group's blocks -/
def grpL (G B N n : Nat) : List (List UInt8) := [superL G B N 0, hdL n (iL n) (setsB zB32 (nB n N))] ++ List.replicate (B - 2) zB128
theorem grpL_len {G B N n : Nat} (h : 2 ≤ B) : (grpL G B N n).length = B := by simp [grpL]; omega
theorem B2.two2 {s : TH} {τa τb : Nat} {a1 a2 : Option Addr} {c1 c2 : Nat} {l1 l2 : List UInt8} (h1 : Own s a1 128 c1 5 1 (bvs l1) τb) (h2 : Own s a2 128 c2 5 1 (bvs l2) τb) (e1 : l1.length = 128) (e2 : l2.length = 128) : B2 s τa τb [(a1, c1), (a2, c2)] [l1, l2] := by
  refine ⟨rfl, fun i p b h0 g1 g2 => ?_, fun p b g1 g2 => by simp at g1⟩
  rcases i with _ | _ | i
  · simp at g1 g2; subst g1 g2; exact ⟨h1.sl, e1⟩
  · simp at g1 g2; subst g1 g2; exact ⟨h2.sl, e2⟩
  · simp at g1
theorem u8n {n : Nat} (h : n ≤ 200) : IntKind.u8.wrap (n : Int) = ((UInt8.ofNat n).toNat : Int) := by
  have e : IntKind.u8.wrap (n : Int) = (n : Int) % 256 := rfl
  have e2 : (UInt8.ofNat n).toNat = n % 256 := rfl
  rw [e, e2]; omega
theorem rowz (k : Nat) : rowZ [.int .u8 0] k = bvs (List.replicate k 0) := by
  induction k with
  | zero => rfl
  | succ k ih => rw [List.replicate_succ, bvs, List.map_cons, ← bvs, ← ih]; rfl
theorem len32 {l : List UInt8} (h0 : l.length = 32) : ∃ b0 b1 b2 b3 b4 b5 b6 b7 b8 b9 b10 b11 b12 b13 b14 b15 b16 b17 b18 b19 b20 b21 b22 b23 b24 b25 b26 b27 b28 b29 b30 b31 : UInt8, l = [b0, b1, b2, b3, b4, b5, b6, b7, b8, b9, b10, b11, b12, b13, b14, b15, b16, b17, b18, b19, b20, b21, b22, b23, b24, b25, b26, b27, b28, b29, b30, b31] := by
  obtain ⟨b0, l, rfl⟩ := List.exists_cons_of_length_eq_add_one (n := 31) (by exact h0)
  have h1 : l.length = 31 := by simpa using h0
  obtain ⟨b1, l, rfl⟩ := List.exists_cons_of_length_eq_add_one (n := 30) (by exact h1)
  have h2 : l.length = 30 := by simpa using h1
  obtain ⟨b2, l, rfl⟩ := List.exists_cons_of_length_eq_add_one (n := 29) (by exact h2)
  have h3 : l.length = 29 := by simpa using h2
  obtain ⟨b3, l, rfl⟩ := List.exists_cons_of_length_eq_add_one (n := 28) (by exact h3)
  have h4 : l.length = 28 := by simpa using h3
  obtain ⟨b4, l, rfl⟩ := List.exists_cons_of_length_eq_add_one (n := 27) (by exact h4)
  have h5 : l.length = 27 := by simpa using h4
  obtain ⟨b5, l, rfl⟩ := List.exists_cons_of_length_eq_add_one (n := 26) (by exact h5)
  have h6 : l.length = 26 := by simpa using h5
  obtain ⟨b6, l, rfl⟩ := List.exists_cons_of_length_eq_add_one (n := 25) (by exact h6)
  have h7 : l.length = 25 := by simpa using h6
  obtain ⟨b7, l, rfl⟩ := List.exists_cons_of_length_eq_add_one (n := 24) (by exact h7)
  have h8 : l.length = 24 := by simpa using h7
  obtain ⟨b8, l, rfl⟩ := List.exists_cons_of_length_eq_add_one (n := 23) (by exact h8)
  have h9 : l.length = 23 := by simpa using h8
  obtain ⟨b9, l, rfl⟩ := List.exists_cons_of_length_eq_add_one (n := 22) (by exact h9)
  have h10 : l.length = 22 := by simpa using h9
  obtain ⟨b10, l, rfl⟩ := List.exists_cons_of_length_eq_add_one (n := 21) (by exact h10)
  have h11 : l.length = 21 := by simpa using h10
  obtain ⟨b11, l, rfl⟩ := List.exists_cons_of_length_eq_add_one (n := 20) (by exact h11)
  have h12 : l.length = 20 := by simpa using h11
  obtain ⟨b12, l, rfl⟩ := List.exists_cons_of_length_eq_add_one (n := 19) (by exact h12)
  have h13 : l.length = 19 := by simpa using h12
  obtain ⟨b13, l, rfl⟩ := List.exists_cons_of_length_eq_add_one (n := 18) (by exact h13)
  have h14 : l.length = 18 := by simpa using h13
  obtain ⟨b14, l, rfl⟩ := List.exists_cons_of_length_eq_add_one (n := 17) (by exact h14)
  have h15 : l.length = 17 := by simpa using h14
  obtain ⟨b15, l, rfl⟩ := List.exists_cons_of_length_eq_add_one (n := 16) (by exact h15)
  have h16 : l.length = 16 := by simpa using h15
  obtain ⟨b16, l, rfl⟩ := List.exists_cons_of_length_eq_add_one (n := 15) (by exact h16)
  have h17 : l.length = 15 := by simpa using h16
  obtain ⟨b17, l, rfl⟩ := List.exists_cons_of_length_eq_add_one (n := 14) (by exact h17)
  have h18 : l.length = 14 := by simpa using h17
  obtain ⟨b18, l, rfl⟩ := List.exists_cons_of_length_eq_add_one (n := 13) (by exact h18)
  have h19 : l.length = 13 := by simpa using h18
  obtain ⟨b19, l, rfl⟩ := List.exists_cons_of_length_eq_add_one (n := 12) (by exact h19)
  have h20 : l.length = 12 := by simpa using h19
  obtain ⟨b20, l, rfl⟩ := List.exists_cons_of_length_eq_add_one (n := 11) (by exact h20)
  have h21 : l.length = 11 := by simpa using h20
  obtain ⟨b21, l, rfl⟩ := List.exists_cons_of_length_eq_add_one (n := 10) (by exact h21)
  have h22 : l.length = 10 := by simpa using h21
  obtain ⟨b22, l, rfl⟩ := List.exists_cons_of_length_eq_add_one (n := 9) (by exact h22)
  have h23 : l.length = 9 := by simpa using h22
  obtain ⟨b23, l, rfl⟩ := List.exists_cons_of_length_eq_add_one (n := 8) (by exact h23)
  have h24 : l.length = 8 := by simpa using h23
  obtain ⟨b24, l, rfl⟩ := List.exists_cons_of_length_eq_add_one (n := 7) (by exact h24)
  have h25 : l.length = 7 := by simpa using h24
  obtain ⟨b25, l, rfl⟩ := List.exists_cons_of_length_eq_add_one (n := 6) (by exact h25)
  have h26 : l.length = 6 := by simpa using h25
  obtain ⟨b26, l, rfl⟩ := List.exists_cons_of_length_eq_add_one (n := 5) (by exact h26)
  have h27 : l.length = 5 := by simpa using h26
  obtain ⟨b27, l, rfl⟩ := List.exists_cons_of_length_eq_add_one (n := 4) (by exact h27)
  have h28 : l.length = 4 := by simpa using h27
  obtain ⟨b28, l, rfl⟩ := List.exists_cons_of_length_eq_add_one (n := 3) (by exact h28)
  have h29 : l.length = 3 := by simpa using h28
  obtain ⟨b29, l, rfl⟩ := List.exists_cons_of_length_eq_add_one (n := 2) (by exact h29)
  have h30 : l.length = 2 := by simpa using h29
  obtain ⟨b30, l, rfl⟩ := List.exists_cons_of_length_eq_add_one (n := 1) (by exact h30)
  have h31 : l.length = 1 := by simpa using h30
  obtain ⟨b31, l, rfl⟩ := List.exists_cons_of_length_eq_add_one (n := 0) (by exact h31)
  have h32 : l.length = 0 := by simpa using h31
  obtain rfl := List.eq_nil_of_length_eq_zero h32
  exact ⟨b0, b1, b2, b3, b4, b5, b6, b7, b8, b9, b10, b11, b12, b13, b14, b15, b16, b17, b18, b19, b20, b21, b22, b23, b24, b25, b26, b27, b28, b29, b30, b31, rfl⟩
/-- bollard/bollardref03.EncodeGroup -/
theorem c_encGroup (τ n : Nat) (i0 i1 i2 i3 i4 i5 i6 i7 b0 b1 b2 b3 b4 b5 b6 b7 b8 b9 b10 b11 b12 b13 b14 b15 b16 b17 b18 b19 b20 b21 b22 b23 b24 b25 b26 b27 b28 b29 b30 b31 : UInt8) (s : TH) (hn : n ≤ 7) : TRet Tryz.prog 249 #[.agg (gv (n : Int) [i0, i1, i2, i3, i4, i5, i6, i7] [b0, b1, b2, b3, b4, b5, b6, b7, b8, b9, b10, b11, b12, b13, b14, b15, b16, b17, b18, b19, b20, b21, b22, b23, b24, b25, b26, b27, b28, b29, b30, b31]).toArray] s fun v s' => ∃ a' c', v = .tuple #[.slice a' 128 c', .int .i64 0] ∧ Ch [] s s' ∧ Own s' a' 128 c' 5 1 (bvs (hdL n [i0, i1, i2, i3, i4, i5, i6, i7] [b0, b1, b2, b3, b4, b5, b6, b7, b8, b9, b10, b11, b12, b13, b14, b15, b16, b17, b18, b19, b20, b21, b22, b23, b24, b25, b26, b27, b28, b29, b30, b31])) τ := by
  obtain ⟨M, hM, hM0, hMa, hMb, hMc, hMd, hMe, hMf⟩ := fresh6 s τ 0 0 0 0 0
  refine F249_calls _ _ _ _ _ _ _ _ _ _ _ _ _ _ _ _ _ _ _ _ _ _ _ _ _ _ _ _ _ _ _ _ _ _ _ _ _ _ _ _ _  ?_
  unfold F249
  refine al_t (M + 1) fun r1 s2 hr1 b_1 c_2 z_3 => ?_
  have hg1 : Blk s2 r1 (gv (n : Int) [i0, i1, i2, i3, i4, i5, i6, i7] [b0, b1, b2, b3, b4, b5, b6, b7, b8, b9, b10, b11, b12, b13, b14, b15, b16, b17, b18, b19, b20, b21, b22, b23, b24, b25, b26, b27, b28, b29, b30, b31]) 196 (M + 1) := b_1
  clear b_1
  refine jn_u ?_
  refine ld_t hg1 rfl ?_
  refine dInt_i ?_
  refine sB_d (fun hsB1 => by exfalso; omega) (fun hsB1 => ?_)
  refine ld_t hg1 rfl ?_
  refine dInt_i ?_
  intro _
  intros
  refine dBl_i ?_
  refine sB_d (fun hsB2 => by exfalso; omega) (fun hsB2 => ?_)
  refine al_t (M + 2) fun r13 s14 hr13 b_4 c_5 z_6 => ?_
  refine conv_lit u46 u5 (show Blk _ _ (bvs [104, 100]) _ _ from b_4) rfl fun s_7 lit_10 c_8o hsz => ?_
  have c_8 := on_ch b_4 c_8o
  have z_9 := c_8.size
  refine dSl_i ?_
  have h_11 := hg1.ch (c_5.app c_8) (by simp)
  refine ld_t h_11 rfl ?_
  refine dInt_i ?_
  refine wr_a fun n24 hn24 => ?_
  refine al_t (M + 3) fun r25 s26 hr25 b_12 c_13 z_14 => ?_
  have h_15 := lit_10.mv c_13 (tagn (by simp))
  refine app_g (x := [UInt8.ofNat n, 0]) (M + 4) u46 in5 h_15 rfl (by have h := (b_12).sl; rw [hn24, u8n (by omega)] at h; exact h) rfl (by omega) (by omega) fun s_16 a2 c2 o_19 c_17 hne => ?_
  have z_18 := c_17.size
  refine dSl_i ?_
  refine ask_t (by omega) ?_
  refine ask_t (by omega) ?_
  rw [slO_zero]
  have h_20 := h_11.ch (c_13.app c_17) (by simp)
  refine app_bv u46 in5 o_19 (gv_slI h_20 rfl rfl) rfl (by omega) fun s_21 a3 c3 o_24 c_22 => ?_
  have z_23 := c_22.size
  refine dSl_i ?_
  rw [slO_zero]
  have h_25 := h_20.ch c_22 (by simp)
  refine app_bv u46 in5 o_24 (gv_slB h_25 rfl rfl) rfl (by omega) fun s_26 a4 c4 o_29 c_27 => ?_
  have z_28 := c_27.size
  refine dSl_i ?_
  refine appz_i (m := 84) u46 u3 in5 o_29 (by obtain ⟨b, rfl⟩ := Own.ne_none o_29 (by omega); simp) (by omega) (by omega) fun s_30 a5 c5 o_33 c_31o => ?_
  have c_31 := c_31o.ch o_29 (T := [M + 4]) (by simp)
  have z_32 := c_31.size
  refine dSl_i ?_
  have ho := o_33
  refine ret_t' (s' := remarkF s_30 fun m => if m = M + 4 then τ else m) rfl ⟨_, _, rfl, remarkF_ch (((((((((Ch.refl [] s).ch c_2 (by simp)).ch c_5 (by simp)).fr c_8 hM (by simp)).ch c_13 (by simp)).ch c_17 (by simp)).fr c_22 hM (by simp)).fr c_27 hM (by simp)).fr c_31 hM (by simp)) hM (fun m hm => if_neg (by omega)), ?_⟩
  have h2 := ho.rf (φ := fun m => if m = M + 4 then τ else m)
  rw [if_pos rfl] at h2
  exact h2
/-- bollard/bollardref17.group -/
theorem c_group (τo τa τb : Nat) (G B N n : Nat) (s : TH) (hv : GeoOk G B N) (hn : n < G) : TRet Tryz.prog 139 #[.agg #[.int .i64 (G : Int), .int .i64 (B : Int), .int .i64 (N : Int)], .int .i64 (n : Int)] s fun v s' => ∃ a' c' hs, v = .slice a' B c' ∧ Ch [] s s' ∧ Own s' a' B c' 46 1 (hs.flatMap hd1) τo ∧ B2 s' τa τb hs (grpL G B N n) := by
  have hv2 := hv
  unfold GeoOk at hv2
  obtain ⟨M, hM, hM0, hMa, hMb, hMc, hMd, hMe, hMf⟩ := fresh6 s τo τa τb 0 0 0
  refine F139_calls _ _ _ _  ?_
  unfold F139
  refine al_t (M + 1) fun r1 s2 hr1 b_1 c_2 z_3 => ?_
  refine ld_t b_1 rfl ?_
  refine ld_t b_1 rfl ?_
  refine ld_t b_1 rfl ?_
  refine tcall (c_encSuper (M + 6) G B N 0 (by omega) hv (by decide)) ?_
  rintro v_5 s_4 ⟨acall1, ccall1, rfl, c_7, call1a⟩
  have z_8 := c_7.size
  refine dT2 ?_
  refine dSl_i ?_
  refine dInt_i ?_
  refine al_t (M + 2) fun r14 s15 hr14 b_9 c_10 z_11 => ?_
  have hg0 : Blk s15 r14 (gv 0 [0, 0, 0, 0, 0, 0, 0, 0] (setsB zB32 0)) 196 (M + 2) := b_9
  refine st_t hg0 rfl (by decide) fun s16 b_12 c_13o z_14 => ?_
  have c_13 := on_ch hg0 c_13o
  have hg1 : Blk s16 r14 (gv (n : Int) [0, 0, 0, 0, 0, 0, 0, 0] (setsB zB32 0)) 196 (M + 2) := b_12
  refine st_same hg1 rfl rfl fun s17 b_15 c_16o z_17 => ?_
  have c_16 := on_ch hg1 c_16o
  refine st_same b_15 rfl rfl fun s18 b_18 c_19o z_20 => ?_
  have c_19 := on_ch b_15 c_19o
  refine st_same b_18 rfl rfl fun s19 b_21 c_22o z_23 => ?_
  have c_22 := on_ch b_18 c_22o
  refine st_same b_21 rfl rfl fun s20 b_24 c_25o z_26 => ?_
  have c_25 := on_ch b_21 c_25o
  refine st_same b_24 rfl rfl fun s21 b_27 c_28o z_29 => ?_
  have c_28 := on_ch b_24 c_28o
  refine st_same b_27 rfl rfl fun s22 b_30 c_31o z_32 => ?_
  have c_31 := on_ch b_27 c_31o
  refine st_same b_30 rfl rfl fun s23 b_33 c_34o z_35 => ?_
  have c_34 := on_ch b_30 c_34o
  refine st_same b_33 rfl rfl fun s24 b_36 c_37o z_38 => ?_
  have c_37 := on_ch b_33 c_37o
  refine st_same b_36 rfl rfl fun s25 b_39 c_40o z_41 => ?_
  have c_40 := on_ch b_36 c_40o
  refine st_same b_39 rfl rfl fun s26 b_42 c_43o z_44 => ?_
  have c_43 := on_ch b_39 c_43o
  refine st_same b_42 rfl rfl fun s27 b_45 c_46o z_47 => ?_
  have c_46 := on_ch b_42 c_46o
  refine st_same b_45 rfl rfl fun s28 b_48 c_49o z_50 => ?_
  have c_49 := on_ch b_45 c_49o
  refine st_same b_48 rfl rfl fun s29 b_51 c_52o z_53 => ?_
  have c_52 := on_ch b_48 c_52o
  refine st_same b_51 rfl rfl fun s30 b_54 c_55o z_56 => ?_
  have c_55 := on_ch b_51 c_55o
  refine st_same b_54 rfl rfl fun s31 b_57 c_58o z_59 => ?_
  have c_58 := on_ch b_54 c_58o
  refine st_same b_57 rfl rfl fun s32 b_60 c_61o z_62 => ?_
  have c_61 := on_ch b_57 c_61o
  refine st_same b_60 rfl rfl fun s33 b_63 c_64o z_65 => ?_
  have c_64 := on_ch b_60 c_64o
  refine st_same b_63 rfl rfl fun s34 b_66 c_67o z_68 => ?_
  have c_67 := on_ch b_63 c_67o
  refine st_same b_66 rfl rfl fun s35 b_69 c_70o z_71 => ?_
  have c_70 := on_ch b_66 c_70o
  refine st_same b_69 rfl rfl fun s36 b_72 c_73o z_74 => ?_
  have c_73 := on_ch b_69 c_73o
  refine st_same b_72 rfl rfl fun s37 b_75 c_76o z_77 => ?_
  have c_76 := on_ch b_72 c_76o
  refine st_same b_75 rfl rfl fun s38 b_78 c_79o z_80 => ?_
  have c_79 := on_ch b_75 c_79o
  refine st_same b_78 rfl rfl fun s39 b_81 c_82o z_83 => ?_
  have c_82 := on_ch b_78 c_82o
  refine st_same b_81 rfl rfl fun s40 b_84 c_85o z_86 => ?_
  have c_85 := on_ch b_81 c_85o
  refine st_same b_84 rfl rfl fun s41 b_87 c_88o z_89 => ?_
  have c_88 := on_ch b_84 c_88o
  refine st_same b_87 rfl rfl fun s42 b_90 c_91o z_92 => ?_
  have c_91 := on_ch b_87 c_91o
  refine st_same b_90 rfl rfl fun s43 b_93 c_94o z_95 => ?_
  have c_94 := on_ch b_90 c_94o
  refine st_same b_93 rfl rfl fun s44 b_96 c_97o z_98 => ?_
  have c_97 := on_ch b_93 c_97o
  refine st_same b_96 rfl rfl fun s45 b_99 c_100o z_101 => ?_
  have c_100 := on_ch b_96 c_100o
  refine st_same b_99 rfl rfl fun s46 b_102 c_103o z_104 => ?_
  have c_103 := on_ch b_99 c_103o
  refine st_same b_102 rfl rfl fun s47 b_105 c_106o z_107 => ?_
  have c_106 := on_ch b_102 c_106o
  refine st_same b_105 rfl rfl fun s48 b_108 c_109o z_110 => ?_
  have c_109 := on_ch b_105 c_109o
  refine st_same b_108 rfl rfl fun s49 b_111 c_112o z_113 => ?_
  have c_112 := on_ch b_108 c_112o
  refine st_same b_111 rfl rfl fun s50 b_114 c_115o z_116 => ?_
  have c_115 := on_ch b_111 c_115o
  refine st_same b_114 rfl rfl fun s51 b_117 c_118o z_119 => ?_
  have c_118 := on_ch b_114 c_118o
  refine st_same b_117 rfl rfl fun s52 b_120 c_121o z_122 => ?_
  have c_121 := on_ch b_117 c_121o
  refine st_same b_120 rfl rfl fun s53 b_123 c_124o z_125 => ?_
  have c_124 := on_ch b_120 c_124o
  refine st_same b_123 rfl rfl fun s54 b_126 c_127o z_128 => ?_
  have c_127 := on_ch b_123 c_127o
  refine st_same b_126 rfl rfl fun s55 b_129 c_130o z_131 => ?_
  have c_130 := on_ch b_126 c_130o
  refine st_same b_129 rfl rfl fun s56 b_132 c_133o z_134 => ?_
  have c_133 := on_ch b_129 c_133o
  have h_135 := b_1.ch ((((((((((((((((((((((((((((((((((((((((((c_7.app c_10).app c_13).app c_16).app c_19).app c_22).app c_25).app c_28).app c_31).app c_34).app c_37).app c_40).app c_43).app c_46).app c_49).app c_52).app c_55).app c_58).app c_61).app c_64).app c_67).app c_70).app c_73).app c_76).app c_79).app c_82).app c_85).app c_88).app c_91).app c_94).app c_97).app c_100).app c_103).app c_106).app c_109).app c_112).app c_115).app c_118).app c_121).app c_124).app c_127).app c_130).app c_133) (by simp)
  refine ld_t h_135 rfl ?_
  refine dInt_i ?_
  refine ask_t (by omega) ?_
  have hq4 : Int.tdiv (N : Int) 4 = ((N / 4 : Nat) : Int) := by rw [Int.tdiv_eq_ediv_of_nonneg (by omega)]; omega
  rw [hq4]
  refine wr_t (by omega) ?_
  refine wr_t (by omega) ?_
  refine ⟨fun vs H' => ∃ s' : TH, s'.h = H' ∧ ∃ i, vs = [.int .i64 i] ∧ Ch [M + 2, M + 10] s56 s' ∧ (∃ k : Nat, i = k ∧ k ≤ 2 + N / 4 ∧ Blk s' r14 (gv (n : Int) [0, 0, 0, 0, 0, 0, 0, 0] (setsB zB32 k)) 196 (M + 2)), fun vs H' => match vs with | [.int .i64 i] => (((2 + N / 4 : Nat) : Int) - i).toNat | _ => 0, ⟨s56, rfl, _, rfl, Ch.refl _ _, ?_⟩, ?_⟩
  ·
    exact ⟨0, rfl, by omega, b_132⟩
  ·
    intro i _ _ _ _ _ _ _ _ _ _ _ _ _ _ _ _ _ H_ hI_137
    obtain ⟨s_136, rfl, i_, hvs, c_138, k, rfl, hk, hb⟩ := hI_137
    cases hvs
    have z_139 := c_138.size
    refine sB_d (fun hsB1 => ?_) (fun hsB1 => ?_)
    ·
      refine ask_t (by omega) ?_
      rw [slO_zero]
      refine tcall (c_rwith (M + 10) 32 (gv_slB hb rfl (sets32 _)) (sets32 _) (fun h => by cases h) (by decide) k (by omega) (by omega)) ?_
      rintro v_141 s_140 ⟨acall2, ccall2, rfl, c_143, call2a⟩
      have z_144 := c_143.size
      refine dT2 ?_
      refine dSl_i ?_
      refine dInt_i ?_
      refine ask_t (by omega) ?_
      have h_145 := hb.ch c_143 (by simp)
      refine copy_blk (n := 32) u46 in5 h_145 (call2a).sl (by rw [setB_len, sets32]) (by decide) (by rw [gv_len rfl (sets32 _)]; decide) fun s_146 r14_149 c_147o _ => ?_
      have c_147 := on_ch h_145 c_147o
      have z_148 := c_147.size
      refine dInt_i ?_
      refine wr_t (by omega) ?_
      refine ⟨⟨s_146, rfl, _, rfl, ((((Ch.refl [M + 2, M + 10] s56).ch c_138 (by simp)).ch c_143 (by simp)).ch c_147 (by simp)), ?_⟩, ?_⟩
      ·
        exact ⟨k + 1, by omega, by omega, by have h := r14_149; rw [gv_bits rfl (sets32 _)] at h; exact h⟩
      ·
        simp only []; omega
    ·
      refine jn0 (fun s' => Ch [M + 2, M + 10] s_136 s' ∧ (Blk s' r14 (gv (n : Int) (iL n) (setsB zB32 (nB n N))) 196 (M + 2))) ?_ ?_
      ·
        rintro  s_150 ⟨c_151, hb⟩
        have z_152 := c_151.size
        obtain ⟨b0, b1, b2, b3, b4, b5, b6, b7, b8, b9, b10, b11, b12, b13, b14, b15, b16, b17, b18, b19, b20, b21, b22, b23, b24, b25, b26, b27, b28, b29, b30, b31, hbb⟩ := len32 (sets32 (nB n N))
        have hg7 := hb
        rw [hbb] at hg7
        intro _
        intros
        refine ld_t hg7 rfl ?_
        refine ld_t hg7 rfl ?_
        refine ld_t hg7 rfl ?_
        refine ld_t hg7 rfl ?_
        refine ld_t hg7 rfl ?_
        refine ld_t hg7 rfl ?_
        refine ld_t hg7 rfl ?_
        refine ld_t hg7 rfl ?_
        refine ld_t hg7 rfl ?_
        refine ld_t hg7 rfl ?_
        refine ld_t hg7 rfl ?_
        refine ld_t hg7 rfl ?_
        refine ld_t hg7 rfl ?_
        refine ld_t hg7 rfl ?_
        refine ld_t hg7 rfl ?_
        refine ld_t hg7 rfl ?_
        refine ld_t hg7 rfl ?_
        refine ld_t hg7 rfl ?_
        refine ld_t hg7 rfl ?_
        refine ld_t hg7 rfl ?_
        refine ld_t hg7 rfl ?_
        refine ld_t hg7 rfl ?_
        refine ld_t hg7 rfl ?_
        refine ld_t hg7 rfl ?_
        refine ld_t hg7 rfl ?_
        refine ld_t hg7 rfl ?_
        refine ld_t hg7 rfl ?_
        refine ld_t hg7 rfl ?_
        refine ld_t hg7 rfl ?_
        refine ld_t hg7 rfl ?_
        refine ld_t hg7 rfl ?_
        refine ld_t hg7 rfl ?_
        refine ld_t hg7 rfl ?_
        refine ld_t hg7 rfl ?_
        refine ld_t hg7 rfl ?_
        refine ld_t hg7 rfl ?_
        refine ld_t hg7 rfl ?_
        refine ld_t hg7 rfl ?_
        refine ld_t hg7 rfl ?_
        refine ld_t hg7 rfl ?_
        refine ld_t hg7 rfl ?_
        refine tcall (c_encGroup (M + 6) n (if n = 0 then 7 else 0) 0 0 0 0 0 0 0 b0 b1 b2 b3 b4 b5 b6 b7 b8 b9 b10 b11 b12 b13 b14 b15 b16 b17 b18 b19 b20 b21 b22 b23 b24 b25 b26 b27 b28 b29 b30 b31 _ (by omega)) ?_
        rintro v_154 s_153 ⟨acall3, ccall3, rfl, c_156, call3a⟩
        have z_157 := c_156.size
        rw [show [if n = 0 then 7 else 0, 0, 0, 0, 0, 0, 0, 0] = iL n from rfl, ← hbb] at call3a
        refine dT2 ?_
        refine dSl_i ?_
        refine dInt_i ?_
        refine al_t (M + 5) fun r169 s170 hr169 b_158 c_159 z_160 => ?_
        refine ⟨fun vs H' => ∃ s' : TH, s'.h = H' ∧ ∃ pa pn pc, vs = [.slice pa pn pc] ∧ Ch [M + 5] s170 s' ∧ (∃ hs : List Hd, hs.length = pn ∧ 2 ≤ pn ∧ pn ≤ B ∧ Own s' pa pn pc 46 1 (hs.flatMap hd1) (M + 5) ∧ B2 s' (M + 8) (M + 6) hs ([superL G B N 0, hdL n (iL n) (setsB zB32 (nB n N))] ++ List.replicate (pn - 2) zB128)), fun vs H' => match vs with | [.slice pa pn pc] => B - pn | _ => 0, ⟨s170, rfl, _, _, _, rfl, Ch.refl _ _, ?_⟩, ?_⟩
        ·
          have h_161 := call1a.mv (((((((((((((((((((((((((((((((((((((((((((((c_10.app c_13).app c_16).app c_19).app c_22).app c_25).app c_28).app c_31).app c_34).app c_37).app c_40).app c_43).app c_46).app c_49).app c_52).app c_55).app c_58).app c_61).app c_64).app c_67).app c_70).app c_73).app c_76).app c_79).app c_82).app c_85).app c_88).app c_91).app c_94).app c_97).app c_100).app c_103).app c_106).app c_109).app c_112).app c_115).app c_118).app c_121).app c_124).app c_127).app c_130).app c_133).app c_138).app c_151).app c_156).app c_159) (tagn (by simp))
          have h_162 := call3a.mv c_159 (tagn (by simp))
          exact ⟨[(acall1, ccall1), (acall3, ccall3)], rfl, by omega, by omega, (b_158).own 1 rfl (by unfold maxLen; omega), B2.two2 h_161 h_162 (superL_len _ _ _ _) (hdL_len _ rfl (sets32 _))⟩
        ·
          intro pa pn pc _ _ _ _ _ _ _ _ _ H_ hI_164
          obtain ⟨s_163, rfl, pa_, pn_, pc_, hvs, c_165, hs, hl, hk1, hk2, ho, hb2⟩ := hI_164
          cases hvs
          have z_166 := c_165.size
          obtain ⟨μ, hμ, hμ2⟩ : ∃ μ, μ = (if pn = 2 then M + 8 else M + 6) ∧ M + 6 ≤ μ := ⟨_, rfl, by split <;> omega⟩
          have h_167 := h_135.ch ((((c_138.app c_151).app c_156).app c_159).app c_165) (by simp)
          refine ld_t h_167 rfl ?_
          refine dInt_i ?_
          refine sB_d (fun hsB2 => ?_) (fun hsB2 => ?_)
          ·
            refine ask_t (by omega) ?_
            refine al_t μ fun r189 s190 hr189 b_168 c_169 z_170 => ?_
            refine al_t (M + 9) fun r191 s192 hr191 b_171 c_172 z_173 => ?_
            have h_174 := ho.mv (c_169.app c_172) (tagn (by simp))
            refine app_i u50 in46 rfl h_174 (b_171).sl (m := 1) (k := 1) rfl (by intro u hu; simp at hu; subst hu; rfl) (by simp) (by unfold maxLen; omega) fun s_175 pa2 pc2 o_178 c_176o _ => ?_
            have c_176 := c_176o.ch h_174 (T := [M + 5]) (by simp)
            have z_177 := c_176.size
            refine dSl_i ?_
            refine ⟨⟨s_175, rfl, _, _, _, rfl, (((((Ch.refl [M + 5] s170).ch c_165 (by simp)).ch c_169 (by simp)).ch c_172 (by simp)).ch c_176 (by simp)), ?_⟩, ?_⟩
            ·
              have h_179 := b_168.ch (c_172.app c_176) (by simp <;> omega)
              have h_180 := hb2.ch ((c_169.app c_172).app c_176) (by simp <;> omega) (by simp <;> omega)
              have ho2 := (h_179).own (n := 128) 1 (by rw [show Int.toNat 128 = 128 from rfl, rowz, bvs_len]; rfl) (by unfold maxLen; omega)
              rw [show Int.toNat 128 = 128 from rfl, rowz, hμ, ← hl] at ho2
              exact ⟨hs ++ [(some ⟨r189, 0, none⟩, 128)], by simp [hl], by omega, by omega, by have h := o_178; simpa [hd1] using h, by rw [show pn + 1 - 2 = (pn - 2) + 1 by omega, List.replicate_succ', ← List.append_assoc]; exact (h_180).snoc zB128_len ho2⟩
            ·
              simp only []; omega
          ·
            obtain rfl : pn = B := by omega
            obtain ⟨φ, hφ⟩ : ∃ φ : Nat → Nat, φ = fun m => if m = M + 5 then τo else if m = M + 6 then τb else if m = M + 8 then τa else m := ⟨_, rfl⟩
            have f5 : φ (M + 5) = τo := by subst hφ; exact if_pos rfl
            have f6 : φ (M + 6) = τb := by subst hφ; simp
            have f8 : φ (M + 8) = τa := by subst hφ; simp
            have h1 := (ho).rf (φ := φ)
            have h2 := (hb2).rf (φ := φ)
            rw [f5] at h1
            rw [f6, f8] at h2
            exact ret_t' (s' := remarkF s_163 φ) rfl ⟨_, _, _, rfl, remarkF_ch ((((((((((((((((((((((((((((((((((((((((((((((((((Ch.refl [] s).ch c_2 (by simp)).fr c_7 hM (by simp)).ch c_10 (by simp)).fr c_13 hM (by simp)).fr c_16 hM (by simp)).fr c_19 hM (by simp)).fr c_22 hM (by simp)).fr c_25 hM (by simp)).fr c_28 hM (by simp)).fr c_31 hM (by simp)).fr c_34 hM (by simp)).fr c_37 hM (by simp)).fr c_40 hM (by simp)).fr c_43 hM (by simp)).fr c_46 hM (by simp)).fr c_49 hM (by simp)).fr c_52 hM (by simp)).fr c_55 hM (by simp)).fr c_58 hM (by simp)).fr c_61 hM (by simp)).fr c_64 hM (by simp)).fr c_67 hM (by simp)).fr c_70 hM (by simp)).fr c_73 hM (by simp)).fr c_76 hM (by simp)).fr c_79 hM (by simp)).fr c_82 hM (by simp)).fr c_85 hM (by simp)).fr c_88 hM (by simp)).fr c_91 hM (by simp)).fr c_94 hM (by simp)).fr c_97 hM (by simp)).fr c_100 hM (by simp)).fr c_103 hM (by simp)).fr c_106 hM (by simp)).fr c_109 hM (by simp)).fr c_112 hM (by simp)).fr c_115 hM (by simp)).fr c_118 hM (by simp)).fr c_121 hM (by simp)).fr c_124 hM (by simp)).fr c_127 hM (by simp)).fr c_130 hM (by simp)).fr c_133 hM (by simp)).fr c_138 hM (by simp)).fr c_151 hM (by simp)).ch c_156 (by simp)).ch c_159 (by simp)).fr c_165 hM (by simp)) hM (fun m hm => by subst hφ; simp only; rw [if_neg (by omega), if_neg (by omega), if_neg (by omega)]), h1, h2⟩
      ·
        intro K_181 hK_181
        refine sB_d (fun hsB3 => ?_) (fun hsB3 => ?_)
        ·
          refine ask_t (by omega) ?_
          have h_182 := h_135.ch c_138 (by simp)
          refine ld_t h_182 rfl ?_
          refine dInt_i ?_
          refine ask_t (by omega) ?_
          refine wr_t (by omega) ?_
          refine wr_t (by omega) ?_
          rw [slO_zero]
          obtain rfl : n = 0 := by omega
          rw [hq4, show (2 + ((N / 4 : Nat) : Int)) = ((2 + N / 4 : Nat) : Int) by omega]
          obtain rfl : k = 2 + N / 4 := by omega
          refine tcall (c_rwith (M + 10) 32 (gv_slB hb rfl (sets32 _)) (sets32 _) (fun h => by cases h) (by decide) (2 + N / 4) (by omega) (by omega)) ?_
          rintro v_184 s_183 ⟨acall4, ccall4, rfl, c_186, call4a⟩
          have z_187 := c_186.size
          refine dT2 ?_
          refine dSl_i ?_
          refine dInt_i ?_
          refine ask_t (by omega) ?_
          have h_188 := hb.ch c_186 (by simp)
          refine copy_blk (n := 32) u46 in5 h_188 (call4a).sl (by rw [setB_len, sets32]) (by decide) (by rw [gv_len rfl (sets32 _)]; decide) fun s_189 r14_192 c_190o _ => ?_
          have c_190 := on_ch h_188 c_190o
          have z_191 := c_190.size
          have hg5 := r14_192
          rw [gv_bits rfl (sets32 _)] at hg5
          refine dInt_i ?_
          refine ask_t (by omega) ?_
          refine st_t (r := r14) (i := 1) hg5 rfl (by rw [gv_len rfl (by rw [setB_len, sets32])]; decide) fun s220 b_193 c_194o z_195 => ?_
          have c_194 := on_ch hg5 c_194o
          refine hK_181 _ ⟨((((Ch.refl [M + 2, M + 10] s_136).ch c_186 (by simp)).ch c_190 (by simp)).ch c_194 (by simp)), ?_⟩
          exact b_193
        ·
          refine hK_181 _ ⟨(Ch.refl [M + 2, M + 10] s_136), ?_⟩
          have hn0 : n ≠ 0 := by omega
          obtain rfl : k = 2 + N / 4 := by omega
          have h := hb
          rw [show iL n = [0, 0, 0, 0, 0, 0, 0, 0] from by unfold iL; rw [if_neg hn0], show nB n N = 2 + N / 4 from by unfold nB; rw [if_neg hn0]; rfl]
          exact h
/-- the blocks of a volume's first groups, as they are made first -/
def mkL (G B N : Nat) : Nat → List (List UInt8)
  | 0 => []
  | k + 1 => mkL G B N k ++ grpL G B N k
theorem mkL_len {G B N : Nat} (h : 2 ≤ B) : ∀ k, (mkL G B N k).length = k * B
  | 0 => by simp [mkL]
  | k + 1 => by rw [mkL, List.length_append, mkL_len h k, grpL_len h, Nat.succ_mul]
theorem mkL_two {G B N : Nat} (h : 3 ≤ B) : ∀ {k : Nat}, 1 ≤ k → (mkL G B N k)[2]? = some zB128
  | 1, _ => by
    rw [mkL, mkL, List.nil_append, grpL, List.getElem?_append_right (by simp)]
    show (List.replicate (B - 2) zB128)[0]? = _
    rw [List.getElem?_replicate, if_pos (by omega)]
  | k + 2, _ => by
    rw [mkL, List.getElem?_append_left, mkL_two h (by omega)]
    rw [mkL_len (by omega)]
    have : 1 * 3 ≤ (k + 1) * B := Nat.mul_le_mul (by omega) h
    omega
def dots : List (Nat × ByteArray) := [(2, ⟨#[46]⟩), (2, ⟨#[46, 46]⟩)]
def rootL (N : Nat) : List UInt8 := overlay zB128 64 (dinL 2 2 128 (2 + N / 4) 0 0 0 0 0)
/-- a new volume's blocks -/
def makeL (G B N : Nat) : List (List UInt8) := ((mkL G B N G).set 2 (rootL N)).set (2 + N / 4) (dirsL dots)
theorem makeL_len {G B N : Nat} (h : 2 ≤ B) : (makeL G B N).length = G * B := by simp [makeL, mkL_len h]
theorem dots_nc (i j : Nat) (e f : Nat × ByteArray) (h : j < i) (h1 : dots[i]? = some e) (h2 : dots[j]? = some f) : ¬ (e.1 ≠ 0 ∧ f.1 ≠ 0 ∧ e.2.toList = f.2.toList) := by
  rcases i with _ | _ | i
  · omega
  · obtain rfl : j = 0 := by omega
    cases h1; cases h2
    exact fun h => by have h := congrArg List.length h.2.2; simp at h
  · cases h1
theorem dots_ok : ∀ e ∈ dots, Dot e.2 ∧ 1 ≤ e.1 ∧ e.1 ≤ 511 := by
  intro e he
  simp only [dots, List.mem_cons, List.not_mem_nil, or_false] at he
  rcases he with rfl | rfl
  · exact ⟨.inl rfl, by decide, by decide⟩
  · exact ⟨.inr rfl, by decide, by decide⟩
theorem dots_len : (dirsL dots).length = 128 := by unfold dirsL; rw [List.length_append, entsL_len]; rfl
theorem hd1_one (hs : List Hd) : ∀ u ∈ hs.flatMap hd1, u.oneCell' = true := by
  intro u hu
  obtain ⟨p, _, hp⟩ := List.mem_flatMap.1 hu
  simp [hd1] at hp; subst hp; rfl
theorem B2.cp {s s' : TH} {τa τb : Nat} {hs : List Hd} {bs : List (List UInt8)} (h : B2 s τa τb hs bs) (c : Ch [τa] s s') (hne : τa ≠ τb) {p : Hd} {b : List UInt8} (hp : hs[2]? = some p) (hl : b.length = 128) (ho : Own s' p.1 128 p.2 5 1 (bvs b) τa) : B2 s' τa τb hs (bs.set 2 b) := by
  refine ⟨by simp [h.len], fun i q x h0 h1 h2 => ?_, fun q x h1 h2 => ?_⟩
  · rw [List.getElem?_set_ne (by omega)] at h2; exact (h.at_ i q x h0 h1 h2).mv c (tagn (by simp; exact fun e => hne e.symm))
  · rw [hp] at h1; cases h1
    have h3 : 2 < bs.length := by rw [← h.len]; exact (List.getElem?_eq_some_iff.1 hp).1
    rw [List.getElem?_set_self h3] at h2; cases h2
    exact ⟨hl, ho⟩
/-- bollard/bollardref17.Make -/
theorem c_make (τo τb : Nat) (G B N : Nat) (s : TH) (hv : GeoOk G B N) : TRet Tryz.prog 53 #[.agg #[.int .i64 (G : Int), .int .i64 (B : Int), .int .i64 (N : Int)]] s fun v s' => ∃ a' c' hs, v = .tuple #[.slice a' (G * B) c', .int .i64 0] ∧ Ch [] s s' ∧ Own s' a' (G * B) c' 46 1 (hs.flatMap hd1) τo ∧ BRel s' τb hs (makeL G B N) := by
  have hv2 := hv
  unfold GeoOk at hv2
  have hcan : canG (G : Int) (B : Int) (N : Int) := by unfold canG; omega
  have hGB : 1 * 8 ≤ G * B := Nat.mul_le_mul (by omega) (by omega)
  have hBG : 1 * B ≤ G * B := Nat.mul_le_mul (by omega) (Nat.le_refl _)
  obtain ⟨M, hM, hM0, hMa, hMb, hMc, hMd, hMe, hMf⟩ := fresh6 s τo τb 0 0 0 0
  refine F53_calls _ _ _  ?_
  unfold F53
  refine al_t (M + 1) fun r1 s2 hr1 b_1 c_2 z_3 => ?_
  refine ld_t b_1 rfl ?_
  refine ld_t b_1 rfl ?_
  refine ld_t b_1 rfl ?_
  refine tcall (gc_rcan (G : Int) (B : Int) (N : Int) _) ?_
  rintro v_5 s_4 ⟨rfl, c_7⟩
  have z_8 := c_7.size
  rw [if_pos hcan]
  refine dInt_i ?_
  refine sB_f (by rfl) ?_
  have h_9 := b_1.ch c_7 (by simp)
  refine ld_t h_9 rfl ?_
  refine dInt_i ?_
  refine ⟨fun vs H' => ∃ s' : TH, s'.h = H' ∧ ∃ pa pn pc i, vs = [.slice pa pn pc, .int .i64 i] ∧ Ch [M + 5] s_4 s' ∧ (∃ (k : Nat) (hs : List Hd), i = k ∧ k ≤ G ∧ pn = k * B ∧ Own s' pa pn pc 46 1 (hs.flatMap hd1) (M + 5) ∧ B2 s' (M + 8) (M + 6) hs (mkL G B N k)), fun vs H' => match vs with | [.slice pa pn pc, .int .i64 i] => ((G : Int) - i).toNat | _ => 0, ⟨s_4, rfl, _, _, _, _, rfl, Ch.refl _ _, ?_⟩, ?_⟩
  ·
    exact ⟨0, [], rfl, by omega, by simp, Own.nil _ _ _ _, ⟨rfl, fun i p b _ h _ => by simp at h, fun p b h _ => by simp at h⟩⟩
  ·
    intro pa pn pc i _ _ _ _ _ _ _ _ _ H_ hI_11
    obtain ⟨s_10, rfl, pa_, pn_, pc_, i_, hvs, c_12, k, hs, rfl, hk, hpn, ho, hb2⟩ := hI_11
    cases hvs
    have z_13 := c_12.size
    obtain ⟨μ, hμ, hμ2⟩ : ∃ μ, μ = (if k = 0 then M + 8 else M + 6) ∧ M + 6 ≤ μ := ⟨_, rfl, by split <;> omega⟩
    have hkB : k * B ≤ 8 * 256 := Nat.mul_le_mul (by omega) (by omega)
    have hhl := hb2.len
    rw [mkL_len (by omega)] at hhl
    refine sB_d (fun hsB2 => ?_) (fun hsB2 => ?_)
    ·
      have h_14 := h_9.ch c_12 (by simp)
      refine ld_t h_14 rfl ?_
      refine ld_t h_14 rfl ?_
      refine ld_t h_14 rfl ?_
      refine tcall (c_group (M + 10) μ (M + 6) G B N k _ hv (by omega)) ?_
      rintro v_16 s_15 ⟨acall2, ccall2, hscall2, rfl, c_18, call2a, call2b⟩
      have z_19 := c_18.size
      refine dSl_i ?_
      have h_20 := ho.mv c_18 (tagn (by simp))
      refine app_i u50 in46 rfl h_20 (call2a).sl (m := B) (k := 1) ((call2a).1) (hd1_one _) (call2a).none_iff (by unfold maxLen; omega) fun s_21 pa2 pc2 o_24 c_22o _ => ?_
      have c_22 := c_22o.ch h_20 (T := [M + 5]) (by simp)
      have z_23 := c_22.size
      refine dSl_i ?_
      refine wr_t (by omega) ?_
      refine ⟨⟨s_21, rfl, _, _, _, _, rfl, ((((Ch.refl [M + 5] s_4).ch c_12 (by simp)).ch c_18 (by simp)).ch c_22 (by simp)), ?_⟩, ?_⟩
      ·
        have h_25 := call2b.ch c_22 (by simp <;> omega) (by simp <;> omega)
        have h_26 := hb2.ch (c_18.app c_22) (by simp <;> omega) (by simp <;> omega)
        have hb3 : B2 s_21 μ (M + 6) hscall2 (grpL G B N k) := h_25
        have hb4 : B2 s_21 (M + 8) (M + 6) hs (mkL G B N k) := h_26
        refine ⟨k + 1, hs ++ hscall2, by omega, by omega, by rw [hpn, Nat.succ_mul], by have h := o_24; simpa [List.flatMap_append] using h, ?_⟩
        by_cases hk0 : k = 0
        · subst hk0
          have he : hs = [] := List.eq_nil_of_length_eq_zero (by rw [hhl]; simp)
          subst he
          rw [if_pos rfl] at hμ; subst hμ
          exact hb3
        · rw [if_neg hk0] at hμ; subst hμ
          have h1B : 1 * 8 ≤ k * B := Nat.mul_le_mul (by omega) (by omega)
          exact hb4.app hb3.brel (by omega)
      ·
        simp only []; omega
    ·
      have h_27 := h_9.ch c_12 (by simp)
      refine ld_t h_27 rfl ?_
      refine dInt_i ?_
      refine ask_t (by omega) ?_
      refine wr_t (by simp <;> omega) ?_
      refine wr_t (by simp <;> omega) ?_
      have hq4 : Int.tdiv (N : Int) 4 = ((N / 4 : Nat) : Int) := by rw [Int.tdiv_eq_ediv_of_nonneg (by omega)]; omega
      obtain rfl : k = G := by omega
      rw [hq4, show (2 + ((N / 4 : Nat) : Int)) = ((2 + N / 4 : Nat) : Int) by omega]
      refine tcall (c_encDin (M + 12) 2 2 128 (2 + N / 4) 0 0 0 0 0 (by omega) (by unfold DinOk; omega)) ?_
      rintro v_29 s_28 ⟨acall3, ccall3, rfl, c_31, call3a⟩
      have z_32 := c_31.size
      obtain ⟨⟨a2, c2⟩, hx2⟩ : ∃ x, hs[2]? = some x := ⟨hs[2]'(by omega), by simp⟩
      have h_33 := hb2.ch c_31 (by simp <;> omega) (by simp <;> omega)
      have hb0 := h_33
      have ho2 := (hb0.two _ _ hx2 (mkL_two (by omega) (by omega))).2
      obtain ⟨ax, hax⟩ := ho2.ne_none (by omega)
      simp only at hax
      subst hax
      have ho5 : Own s_28 (some ax) 128 c2 5 1 (bvs zB128) (M + 8) := ho2
      have hc2 : 128 ≤ c2 := ho5.le
      refine dT2 ?_
      refine dSl_i ?_
      refine dInt_i ?_
      have h_34 := ho.mv c_31 (tagn (by simp))
      obtain ⟨a_35, rfl⟩ := h_34.ne_none (by omega)
      refine nz_i ?_
      refine ask_t (by omega) ?_
      refine ld_sl (v := .slice (some ax) 128 c2) (h_34).sl (bcell hx2) ?_
      refine dSl_i ?_
      refine ask_t (by omega) ?_
      refine copy_sl (p := 64) (n := 128) u46 in5 ho5 (call3a).sl (dinL_len _ _ _ _ _ _ _ _ _) (by decide) (by decide) fun s_36 ho3 c_37 _ => ?_
      have z_38 := c_37.size
      have hb5 := hb0.cp c_37 (by omega) hx2 (by rw [overlay_len (by rw [dinL_len, zB128_len]; decide)]; exact zB128_len) ho3
      refine dInt_i ?_
      refine al_t (M + 9) fun r68 s69 hr68 b_39 c_40 z_41 => ?_
      refine tcall (c_encDirs (M + 14) 2 (es := dots) (show Sl _ _ (dots.flatMap ev) _ from (b_39).sl) rfl (by omega) (by omega) dots_nc (by omega) (by omega) (by omega) (by omega) dots_ok) ?_
      rintro v_43 s_42 ⟨acall4, ccall4, rfl, c_45, call4a⟩
      have z_46 := c_45.size
      refine dT2 ?_
      refine dSl_i ?_
      refine dInt_i ?_
      refine nz_i ?_
      refine ask_t (by omega) ?_
      have h_50 := h_34.mv ((c_37.app c_40).app c_45) (tagn (by simp))
      refine Own.st h_50 rfl (by rw [Nat.mul_one, Int.toNat_natCast]; omega) fun s79 b_47 c_48o z_49 => ?_
      have c_48 := Ch.on_tag (T := [M + 5]) (Ch.refl _ _) c_48o h_50.tagOf (by simp)
      have h_51 := hb5.ch ((c_40.app c_45).app c_48) (by simp <;> omega) (by simp <;> omega)
      have h_52 := call4a.mv c_48 (tagn (by simp))
      obtain ⟨φ, hφ⟩ : ∃ φ : Nat → Nat, φ = fun m => if m = M + 5 then τo else if m = M + 6 then τb else if m = M + 8 then τb else if m = M + 14 then τb else m := ⟨_, rfl⟩
      have f5 : φ (M + 5) = τo := by subst hφ; exact if_pos rfl
      have f6 : φ (M + 6) = τb := by subst hφ; simp
      have f8 : φ (M + 8) = τb := by subst hφ; simp
      have f14 : φ (M + 14) = τb := by subst hφ; simp
      have h1 := (b_47).rf (φ := φ)
      have h2 := (h_51).rf (φ := φ)
      have h3 := (h_52).rf (φ := φ)
      rw [Int.toNat_natCast, Nat.mul_one, fm_set1 _ _ (acall4, ccall4), f5, hpn] at h1
      rw [f6, f8] at h2
      rw [f14] at h3
      rw [hpn]
      exact ret_t' (s' := remarkF s79 φ) rfl ⟨_, _, _, rfl, remarkF_ch (((((((((Ch.refl [] s).ch c_2 (by simp)).ch c_7 (by simp)).fr c_12 hM (by simp)).fr c_31 hM (by simp)).fr c_37 hM (by simp)).ch c_40 (by simp)).fr c_45 hM (by simp <;> omega)).fr c_48 hM (by simp)) hM (fun m hm => by subst hφ; simp only; rw [if_neg (by omega), if_neg (by omega), if_neg (by omega), if_neg (by omega)]), h1, (h2.brel).set (2 + N / 4) ⟨h3.sl, dots_len⟩⟩
/-- bollard/bollardref17.Make -/
theorem c_makeN (a b c : Int) (s : TH) (hv : ¬ canG a b c) : TRet Tryz.prog 53 #[.agg #[.int .i64 a, .int .i64 b, .int .i64 c]] s fun v s' => v = .tuple #[.slice none 0 0, .int .i64 170] ∧ Ch [] s s' := by
  obtain ⟨M, hM, hM0, hMa, hMb, hMc, hMd, hMe, hMf⟩ := fresh6 s 0 0 0 0 0 0
  refine F53_calls _ _ _  ?_
  unfold F53
  refine al_t (M + 1) fun r1 s2 hr1 b_1 c_2 z_3 => ?_
  refine ld_t b_1 rfl ?_
  refine ld_t b_1 rfl ?_
  refine ld_t b_1 rfl ?_
  refine tcall (gc_rcan a b c _) ?_
  rintro v_5 s_4 ⟨rfl, c_7⟩
  have z_8 := c_7.size
  rw [if_neg hv]
  refine dInt_i ?_
  refine sB_t (by rfl) ?_
  refine ret_t ?_
  exact ⟨rfl, (((Ch.refl [] s).ch c_2 (by simp)).ch c_7 (by simp))⟩
/-- bollard/bollardplain.Image -/
theorem c_pimage (τo τr : Nat) {xa : Option Addr} {n : Nat} (xc : Nat) {hs : List Hd} {bs : List (List UInt8)} {τx τb : Nat} {s : TH} (hq : Sl s xa (hs.flatMap hd1) τx) (hb : BRel s τb hs bs) (hn : hs.length = n) (hn2 : 1 ≤ n ∧ n ≤ 2048) : TRet Tryz.prog 27 #[.slice xa n xc] s fun v s' => ∃ a c hs', v = .slice a n c ∧ Ch [] s s' ∧ Own s' a n c 46 1 (hs'.flatMap hd1) τo ∧ BRel s' τr hs' bs := by
  obtain ⟨M, hM, hM0, hMa, hMb, hMc, hMd, hMe, hMf⟩ := fresh6 s τx τb τo τr 0 0
  refine F27_calls _ _ _  ?_
  unfold F27
  refine ⟨fun vs H' => ∃ s' : TH, s'.h = H' ∧ ∃ pa pn pc i, vs = [.slice pa pn pc, .int .i64 i] ∧ Ch [M + 5] s s' ∧ (∃ (kk : Nat) (hs' : List Hd), i = kk ∧ kk ≤ n ∧ pn = kk ∧ Own s' pa pn pc 46 1 (hs'.flatMap hd1) (M + 5) ∧ BRel s' (M + 6) hs' (bs.take kk)), fun vs H' => match vs with | [.slice pa pn pc, .int .i64 i] => ((n : Int) - i).toNat | _ => 0, ⟨s, rfl, _, _, _, _, rfl, Ch.refl _ _, ?_⟩, ?_⟩
  ·
    exact ⟨0, [], rfl, by omega, rfl, Own.nil _ _ _ _, BRel.nil _ _⟩
  ·
    intro pa pn pc i _ _ _ _ _ _ _ _ _ _ H_ hI_2
    obtain ⟨s_1, rfl, pa_, pn_, pc_, i_, hvs, c_3, kk, hs', rfl, hk, rfl, ho, hb2⟩ := hI_2
    cases hvs
    have z_4 := c_3.size
    refine sB_d (fun hsB1 => ?_) (fun hsB1 => ?_)
    ·
      have hk2 : pn < n := by omega
      obtain ⟨x, hx⟩ : ∃ x, hs[pn]? = some x := ⟨hs[pn]'(by omega), by simp⟩
      obtain ⟨y, hy⟩ : ∃ y, bs[pn]? = some y := ⟨bs[pn]'(by rw [← hb.len]; omega), by simp⟩
      obtain ⟨ax, rfl⟩ := hq.some (fun e => by have := bcell hx; rw [e] at this; simp at this)
      refine nz_i ?_
      refine ask_t (by omega) ?_
      have h_5 := hq.mv c_3 (tagn (by simp <;> omega))
      refine ld_sl (v := .slice x.1 128 x.2) h_5 (by rw [Int.toNat_natCast, Nat.mul_one]; exact bcell hx) ?_
      refine dSl_i ?_
      have h_6 := hb.mv c_3 (tagn (by simp <;> omega))
      refine tcall (c_clone (M + 6) _ ((h_6).at_ _ _ _ hx hy).sl ((h_6).at_ _ _ _ hx hy).len (fun h => by obtain ⟨z, hz⟩ := ((h_6).at_ _ _ _ hx hy).ne; rw [h] at hz; cases hz) (by omega)) ?_
      rintro v_8 s_7 ⟨acall1, ccall1, rfl, c_10, call1a, call1b⟩
      have z_11 := c_10.size
      refine dSl_i ?_
      refine al_t (M + 9) fun r29 s30 hr29 b_12 c_13 z_14 => ?_
      have h_15 := ho.mv (c_10.app c_13) (tagn (by simp))
      refine app_i u50 in46 rfl h_15 (b_12).sl (m := 1) (k := 1) rfl (by intro u hu; simp at hu; subst hu; rfl) (by simp) (by unfold maxLen; omega) fun s_16 pa2 pc2 o_19 c_17o _ => ?_
      have c_17 := c_17o.ch h_15 (T := [M + 5]) (by simp)
      have z_18 := c_17.size
      refine dSl_i ?_
      refine wr_t (by omega) ?_
      refine ⟨⟨s_16, rfl, _, _, _, _, rfl, (((((Ch.refl [M + 5] s).ch c_3 (by simp)).ch c_10 (by simp)).ch c_13 (by simp)).ch c_17 (by simp)), ?_⟩, ?_⟩
      ·
        have h_20 := hb2.mv ((c_10.app c_13).app c_17) (tagn (by simp))
        have h_21 := call1a.mv (c_13.app c_17) (tagn (by simp))
        have h_22 := h_6.mv ((c_10.app c_13).app c_17) (tagn (by simp <;> omega))
        exact ⟨pn + 1, hs' ++ [(acall1, ccall1)], by omega, by omega, rfl, by have h := o_19; simpa [hd1] using h, by rw [List.take_add_one, hy]; exact (h_20).snoc ⟨(h_21).sl, ((h_22).at_ _ _ _ hx hy).len⟩⟩
      ·
        simp only []; omega
    ·
      obtain rfl : pn = n := by omega
      obtain ⟨φ, hφ⟩ : ∃ φ : Nat → Nat, φ = fun m => if m = M + 5 then τo else if m = M + 6 then τr else m := ⟨_, rfl⟩
      have f5 : φ (M + 5) = τo := by subst hφ; exact if_pos rfl
      have f6 : φ (M + 6) = τr := by subst hφ; simp
      have h1 := (ho).rf (φ := φ)
      have h2 := (hb2).rf (φ := φ)
      rw [f5] at h1
      rw [f6, List.take_of_length_le (by rw [← hb.len]; omega)] at h2
      exact ret_t' (s' := remarkF s_1 φ) rfl ⟨_, _, _, rfl, remarkF_ch ((Ch.refl [] s).fr c_3 hM (by simp)) hM (fun m hm => by subst hφ; simp only; rw [if_neg (by omega), if_neg (by omega)]), h1, h2⟩
/-- bollard/bollardref02.copied -/
theorem c_copied {xa : Option Addr} {xn : Nat} (xc : Nat) {l : List UInt8} {τx : Nat} {s : TH} (hx : Sl s xa (bvs l) τx) (hn : l.length = xn) (hb : xn ≤ 1000000000) : TRet Tryz.prog 80 #[.slice xa xn xc] s fun v s' => ∃ a c, v = .slice a xn c ∧ Ch [] s s' := by
  obtain ⟨M, hM, hM0, hMa, hMb, hMc, hMd, hMe, hMf⟩ := fresh6 s τx 0 0 0 0 0
  refine F80_calls _ _ _  ?_
  unfold F80
  refine al_t (M + 1) fun r1 s2 hr1 b_1 c_2 z_3 => ?_
  have h_4 := hx.mv c_2 (tagn (by simp))
  refine app_bv (xs := []) u46 in5 ((b_1).own0 1) h_4 hn (by omega) fun s_5 a1 c1 o_8 c_6 => ?_
  have z_7 := c_6.size
  refine dSl_i ?_
  refine ret_t ?_
  exact ⟨_, _, by rw [Nat.zero_add], (((Ch.refl [] s).ch c_2 (by simp)).fr c_6 hM (by simp))⟩
/-- bollard/bollardref02.Of -/
theorem c_rof {xa : Option Addr} {n : Nat} (xc : Nat) {hs : List Hd} {bs : List (List UInt8)} {τx τb : Nat} {s : TH} (hq : Sl s xa (hs.flatMap hd1) τx) (hb : BRel s τb hs bs) (hn : hs.length = n) (hn2 : 1 ≤ n ∧ n ≤ 2048) : TRet Tryz.prog 28 #[.slice xa n xc] s fun v s' => ∃ d, v = .tuple #[.pointer (some ⟨d, 0, none⟩), .int .i64 0] ∧ Ch [] s s' := by
  obtain ⟨M, hM, hM0, hMa, hMb, hMc, hMd, hMe, hMf⟩ := fresh6 s τx τb 0 0 0 0
  refine F28_calls _ _ _  ?_
  unfold F28
  refine jn_u ?_
  refine sB_d (fun hsB1 => by exfalso; omega) (fun hsB1 => ?_)
  intro _
  intros
  refine dBl_i ?_
  refine sB_d (fun hsB2 => by exfalso; omega) (fun hsB2 => ?_)
  refine ask_t (by omega) ?_
  refine al_t (M + 1) fun r11 s12 hr11 b_1 c_2 z_3 => ?_
  refine al_t (M + 2) fun r13 s14 hr13 b_4 c_5 z_6 => ?_
  refine ⟨fun vs H' => ∃ s' : TH, s'.h = H' ∧ ∃ i, vs = [.int .i64 i] ∧ Ch [M + 2, M + 5] s14 s' ∧ (∃ (kk : Nat) (hs' : List Hd) (pa : Option Addr) (pc : Nat), i = kk ∧ kk ≤ n ∧ Blk s' r13 [.slice pa kk pc, .slice none 0 0, .slice (some ⟨r11, 0, none⟩) n n, .int .i64 0] 161 (M + 2) ∧ Own s' pa kk pc 46 1 (hs'.flatMap hd1) (M + 5)), fun vs H' => match vs with | [.int .i64 i] => ((n : Int) - i).toNat | _ => 0, ⟨s14, rfl, _, rfl, Ch.refl _ _, ?_⟩, ?_⟩
  ·
    exact ⟨0, [], none, 0, rfl, by omega, b_4, Own.nil _ _ _ _⟩
  ·
    intro i _ _ _ _ _ _ _ _ _ _ _ _ _ _ _ _ _ _ _ _ _ H_ hI_8
    obtain ⟨s_7, rfl, i_, hvs, c_9, kk, hs', pa, pc, rfl, hk, hr, ho⟩ := hI_8
    cases hvs
    have z_10 := c_9.size
    refine sB_d (fun hsB3 => ?_) (fun hsB3 => ?_)
    ·
      have hk2 : kk < n := by omega
      obtain ⟨x, hx⟩ : ∃ x, hs[kk]? = some x := ⟨hs[kk]'(by omega), by simp⟩
      obtain ⟨y, hy⟩ : ∃ y, bs[kk]? = some y := ⟨bs[kk]'(by rw [← hb.len]; omega), by simp⟩
      obtain ⟨ax, rfl⟩ := hq.some (fun e => by have := bcell hx; rw [e] at this; simp at this)
      refine nz_i ?_
      refine ask_t (by omega) ?_
      have h_11 := hq.mv ((c_2.app c_5).app c_9) (tagn (by simp <;> omega))
      refine ld_sl (v := .slice x.1 128 x.2) h_11 (by rw [Int.toNat_natCast, Nat.mul_one]; exact bcell hx) ?_
      refine dSl_i ?_
      refine sB_f (by rfl) ?_
      refine ld_t hr rfl ?_
      refine dSl_i ?_
      have h_12 := hb.mv ((c_2.app c_5).app c_9) (tagn (by simp <;> omega))
      refine tcall (c_copied _ ((h_12).at_ _ _ _ hx hy).sl ((h_12).at_ _ _ _ hx hy).len (by omega)) ?_
      rintro v_14 s_13 ⟨acall1, ccall1, rfl, c_16⟩
      have z_17 := c_16.size
      refine dSl_i ?_
      refine ⟨?_, ?_⟩
      ·
        have h_18 := hr.ch c_16 (by simp)
        refine ld_t h_18 rfl ?_
        refine dSl_i ?_
        rfl
      ·
        refine al_t (M + 9) fun r59 s60 hr59 b_19 c_20 z_21 => ?_
        refine ⟨?_, ?_⟩
        ·
          have h_22 := hr.ch (c_16.app c_20) (by simp)
          refine ld_t h_22 rfl ?_
          refine dSl_i ?_
          rfl
        ·
          have h_23 := ho.mv (c_16.app c_20) (tagn (by simp))
          refine app_i u50 in46 rfl h_23 (b_19).sl (m := 1) (k := 1) rfl (by intro u hu; simp at hu; subst hu; rfl) (by simp) (by unfold maxLen; omega) fun s_24 pa2 pc2 o_27 c_25o _ => ?_
          have c_25 := c_25o.ch h_23 (T := [M + 5]) (by simp)
          have z_26 := c_25.size
          refine dSl_i ?_
          have h_31 := hr.ch ((c_16.app c_20).app c_25) (by simp)
          refine st_t h_31 rfl (by simp) fun s72 b_28 c_29o z_30 => ?_
          have c_29 := on_ch h_31 c_29o
          refine wr_t (by omega) ?_
          refine ⟨⟨s72, rfl, _, rfl, ((((((Ch.refl [M + 2, M + 5] s14).ch c_9 (by simp)).ch c_16 (by simp)).ch c_20 (by simp)).ch c_25 (by simp)).ch c_29 (by simp)), ?_⟩, ?_⟩
          ·
            have h_32 := o_27.mv c_29 (tagn (by simp))
            exact ⟨kk + 1, hs' ++ [(acall1, ccall1)], _, _, by omega, by omega, b_28, by have h := h_32; simpa [hd1] using h⟩
          ·
            simp only []; omega
    ·
      refine ret_t ?_
      exact ⟨_, rfl, ((((Ch.refl [] s).ch c_2 (by simp)).ch c_5 (by simp)).fr c_9 hM (by simp))⟩
/-- bollard/bollardref06.New -/
theorem c_r6new (d : Nat) (b : Int) (s : TH) (hb : 1 ≤ b ∧ b ≤ 64) : TRet Tryz.prog 185 #[.pointer (some ⟨d, 0, none⟩), .int .i64 b] s fun v s' => ∃ c, v = .tuple #[.pointer (some ⟨c, 0, none⟩), .int .i64 0] ∧ Ch [] s s' := by
  obtain ⟨M, hM, hM0, hMa, hMb, hMc, hMd, hMe, hMf⟩ := fresh6 s 0 0 0 0 0 0
  refine F185_calls _ _  ?_
  unfold F185
  refine sB_f (by rfl) ?_
  refine jn_u ?_
  refine sB_d (fun hsB2 => by exfalso; omega) (fun hsB2 => ?_)
  intro _
  intros
  refine dBl_i ?_
  refine sB_d (fun hsB3 => by exfalso; omega) (fun hsB3 => ?_)
  refine al_t (M + 1) fun r9 s10 hr9 b_1 c_2 z_3 => ?_
  refine ret_t ?_
  exact ⟨_, rfl, ((Ch.refl [] s).ch c_2 (by simp))⟩
/-- bollard/bollardref09.Open -/
theorem c_r9open (d : Nat) (b : Int) (s : TH) (hb : 1 ≤ b ∧ b ≤ 64) : TRet Tryz.prog 84 #[.pointer (some ⟨d, 0, none⟩), .int .i64 b] s fun v s' => ∃ c, v = .tuple #[.pointer (some ⟨c, 0, none⟩), .int .i64 0] ∧ Ch [] s s' := by
  obtain ⟨M, hM, hM0, hMa, hMb, hMc, hMd, hMe, hMf⟩ := fresh6 s 0 0 0 0 0 0
  refine F84_calls _ _  ?_
  unfold F84
  refine sB_f (by rfl) ?_
  refine tcall (c_r6new d b _ hb) ?_
  rintro v_2 s_1 ⟨ccall1, rfl, c_4⟩
  have z_5 := c_4.size
  refine dT2 ?_
  refine dPtr_i ?_
  refine dInt_i ?_
  refine sB_f (by rfl) ?_
  refine al_t (M + 1) fun r7 s8 hr7 b_6 c_7 z_8 => ?_
  refine al_t (M + 2) fun r9 s10 hr9 b_9 c_10 z_11 => ?_
  refine ret_t ?_
  exact ⟨_, rfl, ((((Ch.refl [] s).ch c_4 (by simp)).ch c_7 (by simp)).ch c_10 (by simp))⟩
end Go.Proofs.YtdlelcpkelginaaGreat.E
/- Contracts of functions. -/
namespace Go.Proofs.YtdlelcpkelginaaGreat.E
open Go Go.Proofs Go.RowKit Go.Maps Go.Shelf Go.Sort
set_option linter.unusedVariables false
set_option linter.unusedSimpArgs false
theorem BRel.l128 {s : TH} {τ : Nat} {hs : List Hd} {bs : List (List UInt8)} (h : BRel s τ hs bs) : ∀ y ∈ bs, y.length = 128 := by
  intro y hy
  obtain ⟨i, hi⟩ := List.getElem?_of_mem hy
  have hl : i < bs.length := (List.getElem?_eq_some_iff.1 hi).1
  exact (h.at_ i (hs[i]'(by rw [h.len]; exact hl)) y (by simp) hi).len
/-- bollard/bollardplain.Of -/
theorem c_plof (U τp : Nat) {xa : Option Addr} {n : Nat} (xc : Nat) {hs : List Hd} {bs : List (List UInt8)} {τx τb : Nat} {s : TH} (hU : 10 ≤ U) (hq : Sl s xa (hs.flatMap hd1) τx) (hb : BRel s τb hs bs) (hn : hs.length = n) (hn2 : 1 ≤ n ∧ n ≤ 2048) (hτ : (τx < U ∨ U + 50 ≤ τx) ∧ (τb < U ∨ U + 50 ≤ τb) ∧ (τp < U ∨ U + 50 ≤ τp)) : TRet Tryz.prog 54 #[.slice xa n xc, .int .i64 64] s fun v s' => ∃ p vp d x y, v = .tuple #[.pointer (some ⟨p, 0, none⟩), .bool true] ∧ Ch [U + 11] s s' ∧ Blk s' p [.pointer (some ⟨d, 0, none⟩), .pointer (some ⟨vp, 0, none⟩), .pointer (some ⟨x, 0, none⟩), .pointer (some ⟨y, 0, none⟩)] 40 τp ∧ VolL s' vp d U (VolM.fresh bs) 0 := by
  have hl128 := hb.l128
  obtain ⟨M, hM, hM0, hMa, hMb, hMc, hMd, hMe, hMf⟩ := fresh6 s τx τb (U + 60) τp 0 0
  refine F54_calls _ _ _ _  ?_
  unfold F54
  refine al_t (M + 1) fun r1 s2 hr1 b_1 c_2 z_3 => ?_
  have h_4 := hq.mv c_2 (tagn (by simp))
  have h_5 := hb.mv c_2 (tagn (by simp))
  refine tcall (c_pimage (M + 10) (M + 12) xc h_4 h_5 hn hn2) ?_
  rintro v_7 s_6 ⟨acall1, ccall1, hscall1, rfl, c_9, call1a, call1b⟩
  have z_10 := c_9.size
  refine dSl_i ?_
  have hln := (call1b).len
  have hlb := hb.len
  refine tcall (c_of (U + 10) _ (by omega) (call1a).sl call1b (by rw [hln, ← hlb]; exact hn) hn2 (by omega) (by omega)) ?_
  rintro v_12 s_11 ⟨dcall2, rfl, c_14, call2a⟩
  have z_15 := c_14.size
  refine dT2 ?_
  refine dPtr_i ?_
  refine dInt_i ?_
  have h_16 := h_4.mv (c_9.app c_14) (tagn (by simp <;> omega))
  have h_17 := h_5.mv (c_9.app c_14) (tagn (by simp <;> omega))
  refine tcall (c_rof xc h_16 h_17 hn hn2) ?_
  rintro v_19 s_18 ⟨dcall3, rfl, c_21⟩
  have z_22 := c_21.size
  refine dT2 ?_
  refine dPtr_i ?_
  refine dInt_i ?_
  refine jn_u ?_
  refine sB_f (by rfl) ?_
  refine sB_f (by rfl) ?_
  intro _
  intros
  refine dBl_i ?_
  refine sB_f (by rfl) ?_
  have h_23 := call2a.mv c_21 (rngn (by simp))
  refine tcall (c_vopen2 U dcall2 bs 64 _ hU h_23 hl128 (by omega)) ?_
  rintro v_25 s_24 ⟨rcall4, rfl, c_27, call4a⟩
  have z_28 := c_27.size
  refine dT2 ?_
  refine dPtr_i ?_
  refine dInt_i ?_
  refine tcall (c_r9open dcall3 64 _ (by omega)) ?_
  rintro v_30 s_29 ⟨ccall5, rfl, c_32⟩
  have z_33 := c_32.size
  refine dT2 ?_
  refine dPtr_i ?_
  refine dInt_i ?_
  refine jn_u ?_
  refine sB_f (by rfl) ?_
  intro _
  intros
  refine dBl_i ?_
  refine sB_f (by rfl) ?_
  refine sB_f (by rfl) ?_
  have h_37 := b_1.ch ((((c_9.app c_14).app c_21).app c_27).app c_32) (by simp <;> omega)
  refine st_t h_37 rfl (by simp) fun s57 b_34 c_35o z_36 => ?_
  have c_35 := on_ch h_37 c_35o
  refine st_t b_34 rfl (by simp) fun s58 b_38 c_39o z_40 => ?_
  have c_39 := on_ch b_34 c_39o
  refine st_t b_38 rfl (by simp) fun s59 b_41 c_42o z_43 => ?_
  have c_42 := on_ch b_38 c_42o
  refine st_t b_41 rfl (by simp) fun s60 b_44 c_45o z_46 => ?_
  have c_45 := on_ch b_41 c_45o
  have h_47 := call4a.mv ((((c_32.app c_35).app c_39).app c_42).app c_45) (rngn50 (by simp <;> omega))
  refine ret_t' (s' := remark s60 (M + 1) τp) rfl ⟨_, _, _, _, _, rfl, remark_ch (((((((((((Ch.refl [U + 11] s).ch c_2 (by simp)).ch c_9 (by simp)).fr c_14 hM (by simp <;> omega)).ch c_21 (by simp)).ch c_27 (by simp)).ch c_32 (by simp)).fr c_35 hM (by simp)).fr c_39 hM (by simp)).fr c_42 hM (by simp)).fr c_45 hM (by simp)) hM (by omega), (b_44).remark, (h_47).keep (by omega)⟩
/-- bollard/bollardplain.Fresh -/
theorem c_freshA (U τp : Nat) (G B N : Nat) (s : TH) (hU : 10 ≤ U) (hv : GeoOk G B N) (hτ : τp < U ∨ U + 50 ≤ τp) : TRet Tryz.prog 13 #[.agg #[.int .i64 (G : Int), .int .i64 (B : Int), .int .i64 (N : Int)]] s fun v s' => ∃ p vp d x y, v = .tuple #[.pointer (some ⟨p, 0, none⟩), .agg #[.int .i64 (G : Int), .int .i64 (B : Int), .int .i64 (N : Int)], .bool true] ∧ Ch [U + 11] s s' ∧ Blk s' p [.pointer (some ⟨d, 0, none⟩), .pointer (some ⟨vp, 0, none⟩), .pointer (some ⟨x, 0, none⟩), .pointer (some ⟨y, 0, none⟩)] 40 τp ∧ VolL s' vp d U (VolM.fresh (makeL G B N)) 0 := by
  have hv2 := hv
  unfold GeoOk at hv2
  obtain ⟨M, hM, hM0, hMa, hMb, hMc, hMd, hMe, hMf⟩ := fresh6 s (U + 60) τp 0 0 0 0
  refine F13_calls _ _ _  ?_
  unfold F13
  refine al_t (M + 1) fun r1 s2 hr1 b_1 c_2 z_3 => ?_
  refine al_t (M + 2) fun r3 s4 hr3 b_4 c_5 z_6 => ?_
  have h_7 := b_1.ch c_5 (by simp)
  refine ld_t h_7 rfl ?_
  refine ld_t h_7 rfl ?_
  refine ld_t h_7 rfl ?_
  refine tcall (c_make (M + 10) (M + 12) G B N _ hv) ?_
  rintro v_9 s_8 ⟨acall1, ccall1, hscall1, rfl, c_11, call1a, call1b⟩
  have z_12 := c_11.size
  refine dT2 ?_
  refine dSl_i ?_
  refine dInt_i ?_
  refine jn_u ?_
  refine sB_f (by rfl) ?_
  intro _
  intros
  refine dSl_i ?_
  have hgb : 1 * 8 ≤ G * B ∧ G * B ≤ 8 * 256 := ⟨Nat.mul_le_mul (by omega) (by omega), Nat.mul_le_mul (by omega) (by omega)⟩
  have hrl := (call1b).len
  rw [makeL_len (by omega)] at hrl
  refine tcall (c_plof U τp _ hU (call1a).sl call1b hrl (by omega) (by omega)) ?_
  rintro v_14 s_13 ⟨pcall2, vpcall2, dcall2, xcall2, ycall2, rfl, c_16, call2a, call2b⟩
  have z_17 := c_16.size
  refine dT2 ?_
  refine dPtr_i ?_
  refine dBl_i ?_
  have h_18 := h_7.ch (c_11.app c_16) (by simp <;> omega)
  refine ld_t h_18 rfl ?_
  refine ld_t h_18 rfl ?_
  refine ld_t h_18 rfl ?_
  refine sB_t (by rfl) ?_
  refine ⟨?_, ?_⟩
  ·
    refine ⟨?_, ?_⟩
    ·
      refine ld_t h_18 rfl ?_
      refine ld_t h_18 rfl ?_
      refine ld_t h_18 rfl ?_
      rfl
    ·
      have h_22 := b_4.ch (c_11.app c_16) (by simp <;> omega)
      refine st_t h_22 rfl (by simp) fun s41 b_19 c_20o z_21 => ?_
      have c_20 := on_ch h_22 c_20o
      refine st_t b_19 rfl (by simp) fun s42 b_23 c_24o z_25 => ?_
      have c_24 := on_ch b_19 c_24o
      refine st_t b_23 rfl (by simp) fun s43 b_26 c_27o z_28 => ?_
      have c_27 := on_ch b_23 c_27o
      refine ld_t b_26 rfl ?_
      refine ld_t b_26 rfl ?_
      refine ld_t b_26 rfl ?_
      refine ret_t ?_
      have h_29 := call2a.ch ((c_20.app c_24).app c_27) (by simp <;> omega)
      have h_30 := call2b.mv ((c_20.app c_24).app c_27) (rngn50 (by simp <;> omega))
      exact ⟨_, _, _, _, _, rfl, ((((((((Ch.refl [U + 11] s).ch c_2 (by simp)).ch c_5 (by simp)).ch c_11 (by simp)).ch c_16 (by simp)).fr c_20 hM (by simp)).fr c_24 hM (by simp)).fr c_27 hM (by simp)), h_29, h_30⟩
  ·
    have h_34 := b_4.ch (c_11.app c_16) (by simp <;> omega)
    refine st_t h_34 rfl (by simp) fun s47 b_31 c_32o z_33 => ?_
    have c_32 := on_ch h_34 c_32o
    refine st_t b_31 rfl (by simp) fun s48 b_35 c_36o z_37 => ?_
    have c_36 := on_ch b_31 c_36o
    refine st_t b_35 rfl (by simp) fun s49 b_38 c_39o z_40 => ?_
    have c_39 := on_ch b_35 c_39o
    refine ld_t b_38 rfl ?_
    refine ld_t b_38 rfl ?_
    refine ld_t b_38 rfl ?_
    refine ret_t ?_
    have h_41 := call2a.ch ((c_32.app c_36).app c_39) (by simp <;> omega)
    have h_42 := call2b.mv ((c_32.app c_36).app c_39) (rngn50 (by simp <;> omega))
    exact ⟨_, _, _, _, _, rfl, ((((((((Ch.refl [U + 11] s).ch c_2 (by simp)).ch c_5 (by simp)).ch c_11 (by simp)).ch c_16 (by simp)).fr c_32 hM (by simp)).fr c_36 hM (by simp)).fr c_39 hM (by simp)), h_41, h_42⟩
/-- bollard/bollardplain.Fresh -/
theorem c_freshB (U τp : Nat) (a b c : Int) (s : TH) (hU : 10 ≤ U) (hv : ¬ canG a b c) (hτ : τp < U ∨ U + 50 ≤ τp) : TRet Tryz.prog 13 #[.agg #[.int .i64 a, .int .i64 b, .int .i64 c]] s fun v s' => ∃ p vp d x y, v = .tuple #[.pointer (some ⟨p, 0, none⟩), .agg #[.int .i64 1, .int .i64 8, .int .i64 4], .bool true] ∧ Ch [U + 11] s s' ∧ Blk s' p [.pointer (some ⟨d, 0, none⟩), .pointer (some ⟨vp, 0, none⟩), .pointer (some ⟨x, 0, none⟩), .pointer (some ⟨y, 0, none⟩)] 40 τp ∧ VolL s' vp d U (VolM.fresh (makeL 1 8 4)) 0 := by
  have hv1 : GeoOk 1 8 4 := by unfold GeoOk; omega
  obtain ⟨M, hM, hM0, hMa, hMb, hMc, hMd, hMe, hMf⟩ := fresh6 s (U + 60) τp 0 0 0 0
  refine F13_calls _ _ _  ?_
  unfold F13
  refine al_t (M + 1) fun r1 s2 hr1 b_1 c_2 z_3 => ?_
  refine al_t (M + 2) fun r3 s4 hr3 b_4 c_5 z_6 => ?_
  have h_7 := b_1.ch c_5 (by simp)
  refine ld_t h_7 rfl ?_
  refine ld_t h_7 rfl ?_
  refine ld_t h_7 rfl ?_
  refine tcall (c_makeN a b c _ hv) ?_
  rintro v_9 s_8 ⟨rfl, c_11⟩
  have z_12 := c_11.size
  refine dT2 ?_
  refine dSl_i ?_
  refine dInt_i ?_
  refine jn_u ?_
  refine sB_t (by rfl) ?_
  have h_16 := h_7.ch c_11 (by simp)
  refine st_t h_16 rfl (by simp) fun s62 b_13 c_14o z_15 => ?_
  have c_14 := on_ch h_16 c_14o
  refine st_t b_13 rfl (by simp) fun s63 b_17 c_18o z_19 => ?_
  have c_18 := on_ch b_13 c_18o
  refine st_t b_17 rfl (by simp) fun s64 b_20 c_21o z_22 => ?_
  have c_21 := on_ch b_17 c_21o
  refine ld_t b_20 rfl ?_
  refine ld_t b_20 rfl ?_
  refine ld_t b_20 rfl ?_
  refine tcall (c_make (M + 10) (M + 12) 1 8 4 _ hv1) ?_
  rintro v_24 s_23 ⟨acall2, ccall2, hscall2, rfl, c_26, call2a, call2b⟩
  have z_27 := c_26.size
  refine dT2 ?_
  refine dSl_i ?_
  refine dInt_i ?_
  intro _
  intros
  refine dSl_i ?_
  have hgb : 1 * 8 ≤ 1 * 8 ∧ 1 * 8 ≤ 8 * 256 := ⟨Nat.mul_le_mul (by omega) (by omega), Nat.mul_le_mul (by omega) (by omega)⟩
  have hrl := (call2b).len
  rw [makeL_len (by omega)] at hrl
  refine tcall (c_plof U τp _ hU (call2a).sl call2b hrl (by omega) (by omega)) ?_
  rintro v_29 s_28 ⟨pcall3, vpcall3, dcall3, xcall3, ycall3, rfl, c_31, call3a, call3b⟩
  have z_32 := c_31.size
  refine dT2 ?_
  refine dPtr_i ?_
  refine dBl_i ?_
  have h_33 := b_20.ch (c_26.app c_31) (by simp <;> omega)
  refine ld_t h_33 rfl ?_
  refine ld_t h_33 rfl ?_
  refine ld_t h_33 rfl ?_
  refine sB_t (by rfl) ?_
  refine ⟨?_, ?_⟩
  ·
    refine ⟨?_, ?_⟩
    ·
      refine ld_t h_33 rfl ?_
      refine ld_t h_33 rfl ?_
      refine ld_t h_33 rfl ?_
      rfl
    ·
      have h_37 := b_4.ch (((((c_11.app c_14).app c_18).app c_21).app c_26).app c_31) (by simp <;> omega)
      refine st_t h_37 rfl (by simp) fun s41 b_34 c_35o z_36 => ?_
      have c_35 := on_ch h_37 c_35o
      refine st_t b_34 rfl (by simp) fun s42 b_38 c_39o z_40 => ?_
      have c_39 := on_ch b_34 c_39o
      refine st_t b_38 rfl (by simp) fun s43 b_41 c_42o z_43 => ?_
      have c_42 := on_ch b_38 c_42o
      refine ld_t b_41 rfl ?_
      refine ld_t b_41 rfl ?_
      refine ld_t b_41 rfl ?_
      refine ret_t ?_
      have h_44 := call3a.ch ((c_35.app c_39).app c_42) (by simp <;> omega)
      have h_45 := call3b.mv ((c_35.app c_39).app c_42) (rngn50 (by simp <;> omega))
      exact ⟨_, _, _, _, _, rfl, ((((((((((((Ch.refl [U + 11] s).ch c_2 (by simp)).ch c_5 (by simp)).ch c_11 (by simp)).fr c_14 hM (by simp)).fr c_18 hM (by simp)).fr c_21 hM (by simp)).ch c_26 (by simp)).ch c_31 (by simp)).fr c_35 hM (by simp)).fr c_39 hM (by simp)).fr c_42 hM (by simp)), h_44, h_45⟩
  ·
    have h_49 := b_4.ch (((((c_11.app c_14).app c_18).app c_21).app c_26).app c_31) (by simp <;> omega)
    refine st_t h_49 rfl (by simp) fun s47 b_46 c_47o z_48 => ?_
    have c_47 := on_ch h_49 c_47o
    refine st_t b_46 rfl (by simp) fun s48 b_50 c_51o z_52 => ?_
    have c_51 := on_ch b_46 c_51o
    refine st_t b_50 rfl (by simp) fun s49 b_53 c_54o z_55 => ?_
    have c_54 := on_ch b_50 c_54o
    refine ld_t b_53 rfl ?_
    refine ld_t b_53 rfl ?_
    refine ld_t b_53 rfl ?_
    refine ret_t ?_
    have h_56 := call3a.ch ((c_47.app c_51).app c_54) (by simp <;> omega)
    have h_57 := call3b.mv ((c_47.app c_51).app c_54) (rngn50 (by simp <;> omega))
    exact ⟨_, _, _, _, _, rfl, ((((((((((((Ch.refl [U + 11] s).ch c_2 (by simp)).ch c_5 (by simp)).ch c_11 (by simp)).fr c_14 hM (by simp)).fr c_18 hM (by simp)).fr c_21 hM (by simp)).ch c_26 (by simp)).ch c_31 (by simp)).fr c_47 hM (by simp)).fr c_51 hM (by simp)).fr c_54 hM (by simp)), h_56, h_57⟩
/-- (*bollard/snap.Snap).there -/
theorem c_sthere (sp σ vp : Nat) (a b c gen : Int) (s : TH) (hs : Blk s sp [.int .i32 0, .int .u32 0, .pointer (some ⟨vp, 0, none⟩), .int .i64 a, .int .i64 b, .int .i64 c, .int .i64 gen, .bool false] 120 σ) : TRet Tryz.prog 73 #[.pointer (some ⟨sp, 0, none⟩)] s fun v s' => v = .int .i64 0 ∧ Ch [σ] s s' ∧ Blk s' sp [.int .i32 0, .int .u32 0, .pointer (some ⟨vp, 0, none⟩), .int .i64 a, .int .i64 b, .int .i64 c, .int .i64 gen, .bool false] 120 σ := by
  refine F73_calls _  ?_
  unfold F73
  refine jn_u ?_
  refine sB_f (by rfl) ?_
  refine nz_i ?_
  refine ld_t hs rfl ?_
  refine dPtr_i ?_
  intro _
  intros
  refine dBl_i ?_
  refine sB_f (by rfl) ?_
  refine nz_i ?_
  refine tcall (c_mlock Tryz.muLib hs rfl) ?_
  rintro v_2 s_1 ⟨rfl, c_4, call1a⟩
  have z_5 := c_4.size
  refine nz_i ?_
  refine nz_i ?_
  refine ld_t call1a rfl ?_
  refine dBl_i ?_
  refine sB_f (by rfl) ?_
  refine c_door Tryz.muLib call1a (by rfl) (fun _ => by rfl) fun s_6 b_7 c_8 z_9 => ?_
  have c_8t := on_ch call1a c_8
  refine ret_t ?_
  exact ⟨rfl, (((Ch.refl [σ] s).ch c_4 (by simp)).ch c_8t (by simp)), b_7⟩
/-- (*bollard/snap.Snap).there -/
theorem c_stherG (sp σ vp : Nat) (a b c gen : Int) (s : TH) (hs : Blk s sp [.int .i32 0, .int .u32 0, .pointer (some ⟨vp, 0, none⟩), .int .i64 a, .int .i64 b, .int .i64 c, .int .i64 gen, .bool true] 120 σ) : TRet Tryz.prog 73 #[.pointer (some ⟨sp, 0, none⟩)] s fun v s' => v = .int .i64 100 ∧ Ch [σ] s s' ∧ Blk s' sp [.int .i32 0, .int .u32 0, .pointer (some ⟨vp, 0, none⟩), .int .i64 a, .int .i64 b, .int .i64 c, .int .i64 gen, .bool true] 120 σ := by
  refine F73_calls _  ?_
  unfold F73
  refine jn_u ?_
  refine sB_f (by rfl) ?_
  refine nz_i ?_
  refine ld_t hs rfl ?_
  refine dPtr_i ?_
  intro _
  intros
  refine dBl_i ?_
  refine sB_f (by rfl) ?_
  refine nz_i ?_
  refine tcall (c_mlock Tryz.muLib hs rfl) ?_
  rintro v_2 s_1 ⟨rfl, c_4, call1a⟩
  have z_5 := c_4.size
  refine nz_i ?_
  refine nz_i ?_
  refine ld_t call1a rfl ?_
  refine dBl_i ?_
  refine sB_t (by rfl) ?_
  refine c_door Tryz.muLib call1a (by rfl) (fun _ => by rfl) fun s_6 b_7 c_8 z_9 => ?_
  have c_8t := on_ch call1a c_8
  refine ret_t ?_
  exact ⟨rfl, (((Ch.refl [σ] s).ch c_4 (by simp)).ch c_8t (by simp)), b_7⟩
/-- (*bollard/snap.Snap).Drop -/
theorem c_sdrop (sp σ vp : Nat) (a b c gen : Int) (s : TH) (d U : Nat) (V : VolM) (hs : Blk s sp [.int .i32 0, .int .u32 0, .pointer (some ⟨vp, 0, none⟩), .int .i64 a, .int .i64 b, .int .i64 c, .int .i64 gen, .bool false] 120 σ) (hv : VolL s vp d U V 0) (hU : 10 ≤ U) (hσ : σ < U ∨ U + 50 ≤ σ) (ht : V.thaw.2 = 0) : TRet Tryz.prog 24 #[.pointer (some ⟨sp, 0, none⟩)] s fun v s' => v = .int .i64 0 ∧ Ch [σ, U] s s' ∧ Blk s' sp [.int .i32 0, .int .u32 0, .pointer (some ⟨vp, 0, none⟩), .int .i64 a, .int .i64 b, .int .i64 c, .int .i64 gen, .bool true] 120 σ ∧ VolL s' vp d U V.thaw.1 0 := by
  refine F24_calls _  ?_
  unfold F24
  refine tcall (c_sthere sp σ vp a b c gen _ hs) ?_
  rintro v_2 s_1 ⟨rfl, c_4, call1a⟩
  have z_5 := c_4.size
  refine dInt_i ?_
  refine sB_f (by rfl) ?_
  refine nz_i ?_
  refine ld_t call1a rfl ?_
  refine dPtr_i ?_
  have h_6 := hv.mv c_4 (rngn50 (by simp <;> omega))
  refine tcall (c_VThaw _ _ _ _ _ (by omega) h_6) ?_
  rintro v_8 s_7 ⟨rfl, c_10, call2a⟩
  have z_11 := c_10.size
  rw [ht]
  refine dInt_i ?_
  refine sB_f (by rfl) ?_
  refine nz_i ?_
  have h_15 := call1a.ch c_10 (by simp <;> omega)
  refine st_t (r := sp) (i := 7) h_15 rfl (by simp) fun s11 b_12 c_13o z_14 => ?_
  have c_13 := on_ch h_15 c_13o
  refine ret_t ?_
  have h_16 := call2a.mv c_13 (rngn50 (by simp <;> omega))
  exact ⟨rfl, ((((Ch.refl [σ, U] s).ch c_4 (by simp)).ch c_10 (by simp)).ch c_13 (by simp)), b_12, h_16⟩
/-- bollard/snap.Take -/
theorem c_take (vp d U : Nat) (V : VolM) (a b c gen room : Int) (s : TH) (hv : VolL s vp d U V 0) (hU : 10 ≤ U) (hc : canG a b c) (hb : a * b ≤ V.D.blocks.length) (hgen : 1 ≤ gen ∧ gen ≤ 1099511627776) (hf : (V.freeze room).2 = 0) (σ : Nat) (hσ : σ < U ∨ U + 50 ≤ σ) : TRet Tryz.prog 19 #[.pointer (some ⟨vp, 0, none⟩), .agg #[.int .i64 a, .int .i64 b, .int .i64 c], .int .i64 gen, .int .i64 room] s fun v s' => ∃ sp, v = .tuple #[.pointer (some ⟨sp, 0, none⟩), .int .i64 0] ∧ Ch [U, U + 3] s s' ∧ Blk s' sp [.int .i32 0, .int .u32 0, .pointer (some ⟨vp, 0, none⟩), .int .i64 a, .int .i64 b, .int .i64 c, .int .i64 gen, .bool false] 120 σ ∧ VolL s' vp d U (V.freeze room).1 0 := by
  have hab : 1 * 8 ≤ a * b := Int.mul_le_mul (by unfold canG at hc; omega) (by unfold canG at hc; omega) (by omega) (by unfold canG at hc; omega)
  obtain ⟨M, hM, hM0, hMa, hMb, hMc, hMd, hMe, hMf⟩ := fresh6 s (U + 60) σ 0 0 0 0
  refine F19_calls _ _ _ _ _ _  ?_
  unfold F19
  refine al_t (M + 1) fun r1 s2 hr1 b_1 c_2 z_3 => ?_
  have h_4 := hv.mv c_2 (rngn50 (by simp))
  refine tcall (c_VBlocks2 _ _ _ _ _ (by omega) h_4) ?_
  rintro v_6 s_5 ⟨rfl, c_8, call1a⟩
  have z_9 := c_8.size
  refine dInt_i ?_
  refine sB_d (fun hsB1 => by exfalso; omega) (fun hsB1 => ?_)
  refine jn_u ?_
  have h_10 := b_1.ch c_8 (by simp <;> omega)
  refine ld_t h_10 rfl ?_
  refine ld_t h_10 rfl ?_
  refine ld_t h_10 rfl ?_
  refine tcall (gc_can a b c _) ?_
  rintro v_12 s_11 ⟨rfl, c_14⟩
  have z_15 := c_14.size
  rw [if_pos hc]
  refine dInt_i ?_
  refine sB_f (by rfl) ?_
  have h_16 := h_10.ch c_14 (by simp)
  refine ld_t h_16 rfl ?_
  refine ld_t h_16 rfl ?_
  refine ld_t h_16 rfl ?_
  have h_17 := call1a.mv c_14 (rngn50 (by simp))
  refine tcall (c_VBlocks2 _ _ _ _ _ (by omega) h_17) ?_
  rintro v_19 s_18 ⟨rfl, c_21, call3a⟩
  have z_22 := c_21.size
  refine dInt_i ?_
  refine ⟨?_, ?_⟩
  ·
    have h_23 := h_16.ch c_21 (by simp <;> omega)
    refine ld_t h_23 rfl ?_
    refine ld_t h_23 rfl ?_
    refine ld_t h_23 rfl ?_
    rfl
  ·
    refine tcall (gc_blocks a b c hc _) ?_
    rintro v_25 s_24 ⟨rfl, c_27⟩
    have z_28 := c_27.size
    refine dInt_i ?_
    intro _
    intros
    refine dBl_i ?_
    refine sB_d (fun hsB3 => by exfalso; omega) (fun hsB3 => ?_)
    refine jn_u ?_
    refine sB_d (fun hsB4 => by exfalso; omega) (fun hsB4 => ?_)
    intro _
    intros
    refine dBl_i ?_
    refine sB_d (fun hsB5 => by exfalso; omega) (fun hsB5 => ?_)
    have h_29 := call3a.mv c_27 (rngn50 (by simp))
    refine tcall (c_VFreeze _ _ _ _ _ _ (by omega) h_29) ?_
    rintro v_31 s_30 ⟨rfl, c_33, call5a⟩
    have z_34 := c_33.size
    rw [hf]
    refine dInt_i ?_
    refine sB_f (by rfl) ?_
    have h_35 := h_16.ch ((c_21.app c_27).app c_33) (by simp <;> omega)
    refine ld_t h_35 rfl ?_
    refine ld_t h_35 rfl ?_
    refine ld_t h_35 rfl ?_
    refine al_t (M + 2) fun r34 s35 hr34 b_36 c_37 z_38 => ?_
    have h_39 := call5a.mv c_37 (rngn50 (by simp))
    refine ret_t' (s' := remark s35 (M + 2) σ) rfl ⟨_, rfl, remark_ch ((((((((Ch.refl [U, U + 3] s).ch c_2 (by simp)).ch c_8 (by simp)).ch c_14 (by simp)).ch c_21 (by simp)).ch c_27 (by simp)).ch c_33 (by simp)).ch c_37 (by simp)) hM (by omega), (b_36).remark, (h_39).keep (by omega)⟩
theorem fresh_freeze {bs : List (List UInt8)} {r : Int} (h : 0 ≤ r ∧ r ≤ 65536) : (VolM.fresh bs).freeze r = ({ VolM.fresh bs with old := ⟨true, false, r, []⟩ }, 0) := by
  unfold VolM.freeze
  rw [if_neg (by simp [VolM.fresh]), if_neg (by omega)]
theorem c_fresh (U τp : Nat) (a b c : Int) (s : TH) (hU : 10 ≤ U) (hτ : τp < U ∨ U + 50 ≤ τp) : TRet Tryz.prog 13 #[.agg #[.int .i64 a, .int .i64 b, .int .i64 c]] s fun v s' => ∃ (p vp d x y G B N : Nat), v = .tuple #[.pointer (some ⟨p, 0, none⟩), .agg #[.int .i64 (G : Int), .int .i64 (B : Int), .int .i64 (N : Int)], .bool true] ∧ Ch [U + 11] s s' ∧ GeoOk G B N ∧ (canG a b c → (G : Int) = a ∧ (B : Int) = b ∧ (N : Int) = c) ∧ Blk s' p [.pointer (some ⟨d, 0, none⟩), .pointer (some ⟨vp, 0, none⟩), .pointer (some ⟨x, 0, none⟩), .pointer (some ⟨y, 0, none⟩)] 40 τp ∧ VolL s' vp d U (VolM.fresh (makeL G B N)) 0 := by
  by_cases hc : canG a b c
  · have hc2 := hc
    unfold canG at hc2
    obtain ⟨G, rfl⟩ := Int.eq_ofNat_of_zero_le (a := a) (by omega)
    obtain ⟨B, rfl⟩ := Int.eq_ofNat_of_zero_le (a := b) (by omega)
    obtain ⟨N, rfl⟩ := Int.eq_ofNat_of_zero_le (a := c) (by omega)
    have hv : GeoOk G B N := by unfold GeoOk; omega
    refine (c_freshA U τp G B N s hU hv hτ).mono ?_
    rintro v s' ⟨p, vp, d, x, y, rfl, h1, h2, h3⟩
    exact ⟨p, vp, d, x, y, G, B, N, rfl, h1, hv, fun _ => ⟨rfl, rfl, rfl⟩, h2, h3⟩
  · refine (c_freshB U τp a b c s hU hc hτ).mono ?_
    rintro v s' ⟨p, vp, d, x, y, rfl, h1, h2, h3⟩
    exact ⟨p, vp, d, x, y, 1, 8, 4, rfl, h1, by unfold GeoOk; omega, fun h => absurd h hc, h2, h3⟩
theorem GeoOk.can {G B N : Nat} (h : GeoOk G B N) : canG (G : Int) (B : Int) (N : Int) := by unfold GeoOk at h; unfold canG; omega
theorem GeoOk.gb {G B N : Nat} (h : GeoOk G B N) : 8 ≤ G * B ∧ G * B ≤ 2048 := by
  unfold GeoOk at h
  have h1 : 1 * 8 ≤ G * B := Nat.mul_le_mul (by omega) (by omega)
  have h2 : G * B ≤ 8 * 256 := Nat.mul_le_mul (by omega) (by omega)
  omega
theorem fresh_len {G B N : Nat} (h : GeoOk G B N) : (VolM.fresh (makeL G B N)).D.blocks.length = G * B := makeL_len (by unfold GeoOk at h; omega)
end Go.Proofs.YtdlelcpkelginaaGreat.E
/- The functions' forms in the engine's words, printed by my own program. -/
namespace Go.Proofs.YtdlelcpkelginaaGreat.E
open Go Go.Proofs
set_option linter.unusedVariables false
set_option maxRecDepth 100000
/-- bollard/check.New -/
def F44 (x0 : Option Addr) (R : Ending → Heap → Prop) (H : Heap) : Prop :=
  HCalls Tryz.prog 74 #[Value.pointer x0, Value.int IntKind.i64 (-1)] H (Sp.retK (fun v1 H2 =>
  dT 2 v1 (fun v3 v4 =>
  dSl v3 (fun p5 r6 r7 =>
  dInt IntKind.i64 v4 (fun n8 =>
  jn (α := VFH 1) (fun v9 H10 =>
  ∀ v11 v12 v13 v14 v15 : Value,
  dBl v9 (fun b16 =>
  sB b16 (R (Ending.returned (Value.tuple #[Value.pointer none, Value.int IntKind.i64 n8])) H10) (HCalls Tryz.prog 127 #[Value.pointer x0] H10 (Sp.retK (fun v17 H18 =>
  dA 3 v17 (fun v19 v20 v21 =>
  HCalls Tryz.prog 128 #[] H18 (Sp.retK (fun v22 H23 =>
  dSl v22 (fun p24 r25 r26 =>
  al H23 (Obj.map #[] 0) (fun r27 H28 =>
  al H28 (Obj.map #[] 0) (fun r29 H30 =>
  al H30 (Obj.cells #[Value.pointer x0, v19, v20, v21, Value.slice p24 r25 r26, Value.int IntKind.i64 0, Value.int IntKind.i64 0, Value.map (some r27), Value.map (some r29), Value.slice none 0 0] 112) (fun r31 H32 =>
  R (Ending.returned (Value.tuple #[Value.pointer (some (Addr.mk r31 0 none)), Value.int IntKind.i64 0])) H32))))) (pnR R)))) (pnR R))))) (fun k37 =>
  sB (n8 == 2) (k37 (Value.bool true) H2) (k37 (Value.bool (n8 == 100)) H2)))))) (pnR R))
theorem F44_eq (x0 : Option Addr) (R : Ending → Heap → Prop) (H : Heap) : F44 x0 R H = vc Tryz.prog (codeOf Tryz.f44) (.node none .leaf (.node none (.node none .leaf (.node (some ⟨[(16, 4)], [11, 12, 13, 14, 15]⟩) .leaf .leaf)) .leaf)) (postV Tryz.prog Tryz.f44 R) ⟨#[Value.pointer x0] ++ Array.replicate (Tryz.f44.ntmps - 1) undef, []⟩ H := by kernel_rfl
theorem F44_calls {R : Ending → Heap → Prop} {H : Heap} (x0 : Option Addr) (h : F44 x0 R H) : HCalls Tryz.prog 44 #[Value.pointer x0] H R :=
  calls_by (F := F44 x0 R H) (.node none .leaf (.node none (.node none .leaf (.node (some ⟨[(16, 4)], [11, 12, 13, 14, 15]⟩) .leaf .leaf)) .leaf)) Tryz.func44 rfl (F44_eq x0 R H) h
end Go.Proofs.YtdlelcpkelginaaGreat.E
/- Contracts of functions. -/
namespace Go.Proofs.YtdlelcpkelginaaGreat.E
open Go Go.Proofs Go.RowKit Go.Maps Go.Shelf Go.Sort
set_option linter.unusedVariables false
set_option linter.unusedSimpArgs false
/-- what bytes are appended to: a row of its own, or a full one -/
structure AppB (s : TH) (pa : Option Addr) (pn pc : Nat) (l : List UInt8) (τ0 τ : Nat) : Prop where
  or_ : Own s pa pn pc 5 1 (bvs l) τ ∨ ∃ a, pa = some a ∧ pc = pn ∧ l.length = pn ∧ Sl s (some a) (bvs l) τ0
theorem AppB.ch {s s' : TH} {pa : Option Addr} {pn pc : Nat} {l : List UInt8} {τ0 τ : Nat} {T : List Nat} (h : AppB s pa pn pc l τ0 τ) (c : Ch T s s') (h0 : τ0 ∉ T) (h1 : τ ∉ T) : AppB s' pa pn pc l τ0 τ := by
  rcases h.or_ with h | ⟨a, e1, e2, e3, h⟩
  · exact ⟨.inl (h.mv c (fun j hj e hB => h1 (by have hB2 : s.g j ∈ T := hB; rw [e] at hB2; exact hB2)))⟩
  · exact ⟨.inr ⟨a, e1, e2, e3, h.mv c (fun j hj e hB => h0 (by have hB2 : s.g j ∈ T := hB; rw [e] at hB2; exact hB2))⟩⟩
theorem AppB.sl {s : TH} {pa : Option Addr} {pn pc : Nat} {l : List UInt8} {τ0 τ : Nat} (h : AppB s pa pn pc l τ0 τ) : ∃ σ, Sl s pa (bvs l) σ ∧ l.length = pn := by
  rcases h.or_ with h | ⟨a, rfl, e2, e3, h⟩
  · exact ⟨τ, h.sl, by have := h.1; rw [bvs_len] at this; omega⟩
  · exact ⟨τ0, h, e3⟩
theorem AppB.app {E : List PanicEntry → Heap → Prop} {s : TH} {pa : Option Addr} {pn pc m mc τ0 τ τx : Nat} {b : Addr} {l x : List UInt8} {K : Value → Heap → Prop} (h : AppB s pa pn pc l τ0 τ) (hy : Sl s (some b) (bvs x) τx) (hxl : x.length = m) (hm : 0 < m) (hb : pn ≤ 1000000000 ∧ m ≤ 1000000000)
    (hk : ∀ (s' : TH) (a' : Option Addr) (c' : Nat), Own s' a' (pn + m) c' 5 1 (bvs (l ++ x)) τ → Ch [τ] s s' → K (.slice a' (pn + m) c') s'.h) :
    semW Tryz.prog (Builtin.append_ #[46, 46] 46 #[.slice pa pn pc, .slice (some b) m mc]) E s.h K := by
  rcases h.or_ with h | ⟨a, rfl, rfl, e3, h⟩
  · exact app_bv u46 in5 h hy hxl (by omega) fun s' a' c' o c => hk s' a' c' o c
  · exact app_g τ u46 in5 h e3 hy hxl hm hb fun s' a' c' o c _ => hk s' a' c' o (c.mono (by simp))
def DinB (m l z d0 d1 d2 d3 e1 e2 : Nat) : Prop := m ≤ 2 ∧ l ≤ 1000 ∧ z ≤ 532992 ∧ d0 < 2048 ∧ d1 < 2048 ∧ d2 < 2048 ∧ d3 < 2048 ∧ e1 < 2048 ∧ e2 < 2048
theorem DinOk.b {m l z d0 d1 d2 d3 e1 e2 : Nat} (hv : DinOk m l z d0 d1 d2 d3 e1 e2) : DinB m l z d0 d1 d2 d3 e1 e2 := by unfold DinOk at hv; unfold DinB; omega
end Go.Proofs.YtdlelcpkelginaaGreat.E
