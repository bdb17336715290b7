/- Contracts of functions. -/
import Derived.Test.YtmgjdmohmhaemaaProg
import Derived.KernelRfl
import Derived.Test.YtmgjdmohmhaemaaLib2
import Derived.Test.YtmgjdmohmhaemaaIn
import Derived.Test.YtmgjdmohmhaemaaHs
import Derived.Test.YtmgjdmohmhaemaaSrt
namespace Go.Proofs.Ytmgjdmohmhaemaa.E
open Go Go.Proofs Go.RowKit Go.Maps Go.Shelf Go.Sort
set_option linter.unusedVariables false

theorem c_sortInt {a : Option Addr} {n c τ : Nat} {l : List Int} {s : TH} (hO : Own s a n c 3 1 (ivs l) τ) (hn : n ≤ 1000000) :
    TRet Try.prog 39 #[.slice a n c] s fun v s' => v = .tuple #[] ∧ Ch [τ] s s' ∧ Own s' a n c 3 1 (ivs (l.mergeSort fun x y => decide (x ≤ y))) τ := by
  have hl : l.length = n := by have := hO.1; rw [ivs_len] at this; omega
  by_cases h0 : n = 0
  · subst h0
    have hss : l = [] := List.eq_nil_of_length_eq_zero hl
    subst hss
    intro w hw
    refine (Any.slices_Sort_int_none Try.sortIA a c w).mono ?_
    rintro e w' ⟨rfl, rfl⟩
    exact ⟨⟨_, s, rfl, hw.symm, rfl, Ch.refl _ _, by simpa using hO⟩, Like.refl _⟩
  obtain ⟨g, o, rfl⟩ : ∃ g o, a = some ⟨g, o, none⟩ := by
    rcases hO.2 with ⟨_, h, _⟩ | ⟨g, o, L, h, _⟩
    · exact absurd h h0
    · exact ⟨g, o, h⟩
  have hgt : s.g g = τ := hO.tagOf
  intro w hw
  have hH : Go.Sort.Holds (Value.int .i64) w g o l.toArray := by
    intro j hj
    have hj' : j < l.length := by simpa using hj
    have hcell := hO.sl.cells w hw j (.int .i64 l.toArray[j]!) (by simp [ivs, hj'])
    rw [add_mk] at hcell
    refine ⟨hcell, ?_⟩
    rcases hO.2 with ⟨h, _⟩ | ⟨g', o', L, h, h1, _⟩
    · cases h
    · cases h
      rw [frozen_eq, hw]; exact h1.frozen _
  have hS := Any.slices_Sort_int Try.sortIA g o c l w hH (by rw [hw]; rcases hO.2 with ⟨h, _⟩ | ⟨g', o', L, h, h1, _⟩ <;> cases h; exact h1.lt) (by omega)
  rw [hl] at hS
  refine hS.mono ?_
  rintro e w' ⟨rfl, n', os, rfl⟩
  refine ⟨⟨_, ⟨_, s.g⟩, rfl, rfl, rfl, Chg.mono (sortW_on (enc := Value.int .i64) hw g o n' _ os) (fun j hj e => by subst e; show s.g j ∈ [τ]; rw [hgt]; simp), ?_⟩, rfl, rfl, rfl⟩
  have := sortW_own (enc := Value.int .i64) hw hO n' (l.mergeSort fun x y => decide (x ≤ y)).toArray (by simp [hl]) os
  exact this
theorem ivs_set (l : List Int) (i : Nat) (x : Int) : (ivs l).set i (.int .i64 x) = ivs (l.set i x) := by simp [ivs, List.map_set]
theorem snoc_ind {α : Type} {p : List α → Prop} (h0 : p []) (h1 : ∀ l x, p l → p (l ++ [x])) (l : List α) : p l := by
  rw [← l.reverse_reverse]
  induction l.reverse with
  | nil => exact h0
  | cons x t ih => rw [List.reverse_cons]; exact h1 _ x ih
/-- neighbours that are the same become one -/
def cptS (acc : List Int) (x : Int) : List Int := if acc.getLast? = some x then acc else acc ++ [x]
def cpt (l : List Int) : List Int := l.foldl cptS []
theorem cpt_snoc (l : List Int) (x : Int) : cpt (l ++ [x]) = cptS (cpt l) x := by simp [cpt, List.foldl_append]
theorem cpt_last (l : List Int) : (cpt l).getLast? = l.getLast? := by
  induction l using snoc_ind with
  | h0 => rfl
  | h1 l x ih =>
    rw [cpt_snoc]
    unfold cptS
    by_cases h : (cpt l).getLast? = some x
    · rw [if_pos h, h]; simp
    · rw [if_neg h]; simp
theorem cpt_len (l : List Int) : (cpt l).length ≤ l.length := by
  induction l using snoc_ind with
  | h0 => simp [cpt]
  | h1 l x ih =>
    rw [cpt_snoc]
    unfold cptS
    split <;> simp <;> omega
theorem cpt_take {l : List Int} {k : Nat} {x : Int} (h : l[k]? = some x) : cpt (l.take (k + 1)) = if (l.take k).getLast? = some x then cpt (l.take k) else cpt (l.take k) ++ [x] := by
  rw [List.take_add_one, h, Option.toList_some, cpt_snoc]
  unfold cptS
  rw [cpt_last]
theorem last_take {l : List Int} {k : Nat} {y : Int} (h : l[k]? = some y) : (l.take (k + 1)).getLast? = some y := by
  rw [List.take_add_one, h]; simp

/-- slices.Compact[[]int,int] -/
theorem c_compact {a : Option Addr} {n c τ : Nat} {l : List Int} {s : TH} (hO : Own s a n c 3 1 (ivs l) τ) (hn : n ≤ 1000000) : TRet Try.prog 40 #[.slice a n c] s fun v s' => v = .slice a (cpt l).length c ∧ Ch [τ] s s' ∧ Own s' a (cpt l).length c 3 1 (ivs (cpt l)) τ := by
  have hl : l.length = n := by have := hO.1; rw [ivs_len] at this; omega
  have hle := hO.le
  refine F40_calls _ _ _  ?_
  unfold F40
  refine sB_d (fun hsB1 => ?_) (fun hsB1 => ?_)
  ·
    refine ret_t ?_
    have e : cpt l = l := by
      match l, hl with
      | [], _ => rfl
      | [x], _ => rfl
      | x :: y :: l, h => simp at h; omega
    rw [e, hl]
    exact ⟨rfl, (Ch.refl [τ] s), hO⟩
  ·
    refine ⟨fun vs H' => ∃ s' : TH, s'.h = H' ∧ ∃ i, vs = [.int .i64 i] ∧ ChL [τ] [] s s' ∧ (∃ k : Nat, i = k ∧ 1 ≤ k ∧ k ≤ n ∧ cpt (l.take k) = l.take k ∧ Own s' a n c 3 1 (ivs l) τ), fun vs H' => match vs with | [.int .i64 i] => ((n : Int) - i).toNat | _ => 0, ⟨s, rfl, _, rfl, ChL.refl _ _ _, ?_⟩, ?_⟩
    ·
      refine ⟨1, rfl, by omega, by omega, ?_, hO⟩
      match l, hl with
      | [], h => simp at h; omega
      | x :: l, _ => rfl
    ·
      intro i _ _ _ _ _ _ _ _ _ _ _ _ _ _ _ _ _ _ _ _ _ _ _ _ _ _ _ _ _ _ _ _ _ _ _ _ _ _ _ _ _ _ _ _ _ _ _ _ _ _ _ _ _ H57 hI
      obtain ⟨s57, rfl, i_, hvs, c_1, k, rfl, hk1, hk, hcp, q_3⟩ := hI
      cases hvs
      have z_2 := c_1.size
      refine sB_d (fun hsB2 => ?_) (fun hsB2 => ?_)
      ·
        have hk2 : k < n := by omega
        obtain ⟨x, hx⟩ : ∃ x, l[k]? = some x := ⟨l[k], by simp [hl, hk2]⟩
        obtain ⟨y, hy⟩ : ∃ y, l[k - 1]? = some y := ⟨l[k - 1]'(by omega), by simp⟩
        obtain ⟨b, rfl⟩ := q_3.ne_none (by omega)
        refine nz_i ?_
        refine ask_t (by omega) ?_
        refine ld_sl q_3.sl (by rw [Int.toNat_natCast, Nat.mul_one]; exact ivs_get hx) ?_
        refine dInt_i ?_
        refine wr_t (by omega) ?_
        rw [show ((k : Int) - 1) = ((k - 1 : Nat) : Int) from by omega]
        refine nz_i ?_
        refine ask_t (by omega) ?_
        refine ld_sl q_3.sl (by rw [Int.toNat_natCast, Nat.mul_one]; exact ivs_get hy) ?_
        refine dInt_i ?_
        refine sB_eq (fun hsB3 => ?_) (fun hsB3 => ?_)
        ·
          refine ask_t (by omega) ?_
          refine ⟨fun vs H' => ∃ s' : TH, s'.h = H' ∧ ∃ i2 k2, vs = [.int .i64 i2, .int .i64 k2] ∧ ChL [τ] [] s57 s' ∧ (∃ (p q : Nat) (X : List Int), i2 = p ∧ k2 = q ∧ 1 ≤ q ∧ k + q ≤ n ∧ 1 ≤ p ∧ p + 1 ≤ k + q ∧ Own s' (some b) n c 3 1 (ivs X) τ ∧ X.drop (k + q - 1) = l.drop (k + q - 1) ∧ X.take p = cpt (l.take (k + q))), fun vs H' => match vs with | [.int .i64 i2, .int .i64 k2] => ((n : Int) - k2).toNat | _ => 0, ⟨s57, rfl, _, _, rfl, ChL.refl _ _ _, ?_⟩, ?_⟩
          ·
            refine ⟨k, 1, l, rfl, rfl, by omega, by omega, by omega, by omega, q_3, rfl, ?_⟩
            rw [cpt_take hx, show k = (k - 1) + 1 by omega, last_take hy, if_pos (by rw [hsB3]), show k - 1 + 1 = k by omega, hcp]
          ·
            intro i2 k2 _ _ _ _ _ _ _ _ _ _ _ _ _ _ _ _ _ _ _ _ _ _ _ _ _ H95 hI
            obtain ⟨s95, rfl, i2_, k2_, hvs, c_4, p, q, X, rfl, rfl, hq1, hq, hp1, hp, q_6, hX1, hX2⟩ := hI
            cases hvs
            have z_5 := c_4.size
            have hXn : X.length = n := by have := q_6.len; rw [ivs_len] at this; omega
            refine sB_d (fun hsB4 => ?_) (fun hsB4 => ?_)
            all_goals simp only [Int.toNat_natCast] at hsB4
            ·
              refine jn_u ?_
              have hkq : k + q < n := by omega
              obtain ⟨x2, hx2⟩ : ∃ x, l[k + q]? = some x := ⟨l[k + q]'(by omega), by simp⟩
              obtain ⟨y2, hy2⟩ : ∃ y, l[k + q - 1]? = some y := ⟨l[k + q - 1]'(by omega), by simp⟩
              have hXx : X[k + q]? = some x2 := by have := congrArg (·[1]?) hX1; simp only [List.getElem?_drop] at this; rw [show k + q - 1 + 1 = k + q by omega] at this; rw [this, hx2]
              have hXy : X[k + q - 1]? = some y2 := by have := congrArg (·[0]?) hX1; simp only [List.getElem?_drop, Nat.add_zero] at this; rw [this, hy2]
              have hcut := q_6.cut (m := k) (by omega)
              rw [Nat.mul_one, ivs_drop] at hcut
              obtain ⟨b2, hb2⟩ := hcut.ne_none (by rw [ivs_len, List.length_drop]; have := q_6.len; rw [ivs_len] at this; omega)
              rw [hb2] at hcut ⊢
              refine nz_i ?_
              refine ask_t (by omega) ?_
              refine ld_sl hcut (by rw [Int.toNat_natCast, Nat.mul_one]; exact ivs_get (by rw [List.getElem?_drop]; exact hXx)) ?_
              refine dInt_i ?_
              refine wr_t (by omega) ?_
              rw [show ((q : Int) - 1) = ((q - 1 : Nat) : Int) from by omega]
              refine nz_i ?_
              refine ask_t (by omega) ?_
              refine ld_sl hcut (by rw [Int.toNat_natCast, Nat.mul_one]; exact ivs_get (by rw [List.getElem?_drop, show k + (q - 1) = k + q - 1 by omega]; exact hXy)) ?_
              refine dInt_i ?_
              refine sB_ne (fun hsB5 => ?_) (fun hsB5 => ?_)
              ·
                refine nz_i ?_
                refine ask_t (by omega) ?_
                refine ld_sl hcut (by rw [Int.toNat_natCast, Nat.mul_one]; exact ivs_get (by rw [List.getElem?_drop]; exact hXx)) ?_
                refine dInt_i ?_
                refine nz_i ?_
                refine ask_t (by omega) ?_
                refine Own.st q_6 rfl (by rw [Int.toNat_natCast]; omega) fun s132 b_7 c_8 z_9 => ?_
                have c_10 := Ch.on_tag (T := [τ]) (Ch.refl _ _) c_8 q_6.tagOf (by simp)
                refine wr_t (by omega) ?_
                intro _ _ _ _ _ _ _ _ _ _ _ _ _ _ _ _ _ _ _
                refine dInt_i ?_
                refine wr_t (by omega) ?_
                refine ⟨⟨s132, rfl, _, _, rfl, (((ChL.refl [τ] [] s57).chl c_4 (by simp) (by simp <;> omega)).ch c_10 (by simp)), ?_⟩, ?_⟩
                ·
                  refine ⟨p + 1, q + 1, X.set p x2, by omega, by omega, by omega, by omega, by omega, by omega, ?_, ?_, ?_⟩
                  · have h := b_7
                    rw [Int.toNat_natCast, Nat.mul_one, ivs_set] at h
                    exact h
                  · rw [show k + (q + 1) - 1 = k + q - 1 + 1 by omega, List.drop_set_of_lt (by omega), ← List.drop_drop, hX1, List.drop_drop]
                  · rw [show k + (q + 1) = k + q + 1 by omega, cpt_take hx2, show k + q = k + q - 1 + 1 by omega, last_take hy2, if_neg (by intro e; cases e; exact hsB5 rfl), show k + q - 1 + 1 = k + q by omega, ← hX2, List.take_add_one, List.getElem?_set_self (by have := (List.getElem?_eq_some_iff.1 hXx).1; omega), List.take_set_of_le (Nat.le_refl _)]
                    rfl
                ·
                  first | omega | (simp only []; omega)
              ·
                intro _ _ _ _ _ _ _ _ _ _ _ _ _ _ _ _ _ _ _
                refine dInt_i ?_
                refine wr_t (by omega) ?_
                refine ⟨⟨s95, rfl, _, _, rfl, ((ChL.refl [τ] [] s57).chl c_4 (by simp) (by simp <;> omega)), ?_⟩, ?_⟩
                ·
                  refine ⟨p, q + 1, X, by omega, by omega, by omega, by omega, by omega, by omega, q_6, ?_, ?_⟩
                  · rw [show k + (q + 1) - 1 = k + q - 1 + 1 by omega, ← List.drop_drop, hX1, List.drop_drop]
                  · rw [show k + (q + 1) = k + q + 1 by omega, cpt_take hx2, show k + q = k + q - 1 + 1 by omega, last_take hy2, if_pos (by rw [hsB5]), show k + q - 1 + 1 = k + q by omega, hX2]
                ·
                  first | omega | (simp only []; omega)
            ·
              refine ask_t (by omega) ?_
              simp only [Int.toNat_natCast]
              refine clear_t u26 in3 rfl (by intro u hu; simp [Value.cells] at hu; subst hu; rfl) (q_6.pre (m := p) (by omega)) (m := n) (by omega) (by omega) fun s137 q2_13 c_110 _ => ?_
              have c_11 := c_110.ch (T := [τ]) (q_6.pre (m := p) (by omega)) (by simp)
              have z_12 := c_11.size
              refine ask_t (by omega) ?_
              refine ret_t ?_
              have hkn : k + q = n := by omega
              rw [hkn, List.take_of_length_le (l := l) (by omega)] at hX2
              have hpl : (cpt l).length = p := by rw [← hX2, List.length_take]; omega
              have hO2 := q2_13
              rw [Nat.mul_one, ivs_take, hX2] at hO2
              rw [hpl]
              simp only [slO_zero, Int.toNat_zero, Nat.sub_zero]
              exact ⟨trivial, ((((Ch.refl [τ] s).chl c_1 (by simp) (by simp <;> omega)).chl c_4 (by simp) (by simp <;> omega)).ch c_11 (by simp)), hO2⟩
        ·
          refine wr_t (by omega) ?_
          refine ⟨⟨s57, rfl, _, rfl, ((ChL.refl [τ] [] s).chl c_1 (by simp) (by simp <;> omega)), ?_⟩, ?_⟩
          ·
            refine ⟨k + 1, by omega, by omega, by omega, ?_, q_3⟩
            rw [cpt_take hx, show k = (k - 1) + 1 by omega, last_take hy, if_neg (by intro e; cases e; exact hsB3 rfl), show k - 1 + 1 = k by omega, hcp, List.take_add_one, hx]
            rfl
          ·
            first | omega | (simp only []; omega)
      ·
        refine ret_t ?_
        have hkn : k = n := by omega
        rw [hkn, List.take_of_length_le (by omega)] at hcp
        rw [hcp, hl]
        exact ⟨rfl, ((Ch.refl [τ] s).chl c_1 (by simp) (by simp <;> omega)), q_3⟩

end Go.Proofs.Ytmgjdmohmhaemaa.E
