/- My own texts, joined. -/
import Derived.JoinedOf
import Derived.KernelRfl
import Derived.Test.YtngploohhmfaiaaGreatProg
import Derived.Test.YtngploohhmfaiaaGreatAt12
/- Contracts of functions. -/
namespace Go.Proofs.YtngploohhmfaiaaGreat.E
open Go Go.Proofs Go.RowKit Go.Maps Go.Shelf Go.Sort
set_option linter.unusedVariables false
set_option linter.unusedSimpArgs false
theorem hdL_setI {n : Nat} {il bl : List UInt8} (h8 : il.length = 8) (h32 : bl.length = 32) {q : Nat} (hq : q < 8) (x : UInt8) : overlay (hdL n il bl) ((4 + (q : Int)).toNat) [x] = hdL n (il.set q x) bl := by
  have e : (4 + (q : Int)).toNat = 4 + q := by omega
  rw [e, overlay1 _ _ _ (by rw [hdL_len n h8 h32]; omega)]
  unfold hdL
  rw [List.append_assoc, List.append_assoc, List.append_assoc, List.append_assoc, List.set_append, if_neg (by simp), List.length_cons, List.length_cons, List.length_cons, List.length_cons, List.length_nil, Nat.add_sub_cancel_left, List.set_append, if_pos (by omega)]
def updI (A : Nat → List UInt8 × List UInt8) (n : Nat) (il : List UInt8) : Nat → List UInt8 × List UInt8 := fun m => if m = n then (il, (A n).2) else A m
theorem AS.upI {G B : Nat} {V V' : VolM} {A : Nat → List UInt8 × List UInt8} (h : AS G B V A) (hB2 : 2 ≤ B) {n q : Nat} (hn : n < G) (hq : q < 8) {x : UInt8} (c : ChT V (hB n B) (4 + (q : Int)) [x] V') : AS G B V' (updI A n ((A n).1.set q x)) := by
  refine ⟨by rw [c.D]; exact h.len, fun m hm => ?_, fun m hm => ?_, fun m hm => ?_⟩
  · unfold updI; split
    · rw [List.length_set]; exact h.l8 n hn
    · exact h.l8 m hm
  · unfold updI; split
    · exact h.l32 n hn
    · exact h.l32 m hm
  · unfold updI
    by_cases e : m = n
    · subst e; rw [if_pos rfl, c.now, h.now m hn, hdL_setI (h.l8 m hn) (h.l32 m hn) hq]
    · rw [if_neg e, c.ne _ (fun h2 => e (hB_inj hB2 h2))]; exact h.now m hm
theorem cntB_congr {l l' : List UInt8} : ∀ {n : Nat}, (∀ j, j < n → hasB l j = hasB l' j) → cntB l n = cntB l' n
  | 0, _ => rfl
  | n + 1, h => by rw [cntB, cntB, cntB_congr (fun j hj => h j (by omega)), h n (by omega)]
theorem rowI_has {n : Nat} {l : List UInt8} (h8 : l.length = 8) (j : Nat) : hasB (rowI n l) j = if n = 0 ∧ j < 2 then true else hasB l j := by
  unfold rowI
  by_cases e : n = 0
  · rw [if_pos e, rk_has (by omega)]
    by_cases e2 : j < 2
    · rw [if_pos e2, if_pos ⟨e, e2⟩]
    · rw [if_neg e2, if_neg (fun h => e2 h.2)]
  · rw [if_neg e, if_neg (fun h => e h.1)]
theorem rowI_with {n i : Nat} {l : List UInt8} (h8 : l.length = 8) (hi : i < 64) (j : Nat) : hasB (rowI n (withB l i true)) j = if j = i then true else hasB (rowI n l) j := by
  rw [rowI_has (by rw [withB_len]; exact h8), rowI_has h8, hasB_with (by omega)]
  by_cases e : n = 0 ∧ j < 2
  · rw [if_pos e, if_pos e]; split <;> rfl
  · rw [if_neg e, if_neg e]
theorem spN_with {N n i : Nat} {l : List UInt8} (h8 : l.length = 8) (hN : N ≤ 64) (hi : i < N) (h : hasB (rowI n l) i = false) : spN N n (withB l i true) = spN N n l - 1 := by
  have e : cntB (rowI n (withB l i true)) N = cntB (withB (rowI n l) i true) N := cntB_congr (fun j hj => by
    rw [rowI_with h8 (by omega), hasB_with (by rw [rowI_len, h8]; omega)])
  unfold spN
  rw [e, cntB_with (by rw [rowI_len, h8]; omega) h, if_pos hi]; omega
theorem stsM_t {r t τ : Nat} {k : Heap → Prop} : ∀ (vs : List Value) (i : Nat) (l : List Value) (s : TH), Blk s r l t τ → i + vs.length ≤ l.length → (∀ v ∈ vs, oneC v = true) →
    (∀ s' : TH, Blk s' r (l.take i ++ vs ++ l.drop (i + vs.length)) t τ → On r s s' → s.h.size = s'.h.size → k s'.h) → stsL s.h r i vs k
  | [], i, l, s, h, hl, h1, hk => by
    refine hk s ?_ ⟨Nat.le_refl _, fun _ _ => rfl, fun _ _ _ => rfl⟩ rfl
    rw [List.append_nil, List.length_nil, Nat.add_zero, List.take_append_drop]; exact h
  | v :: vs, i, l, s, h, hl, h1, hk => by
    rw [List.length_cons] at hl
    refine st_t h (h1 v (by simp)) (by omega) fun s' b c z => ?_
    refine stsM_t vs (i + 1) (l.set i v) s' b (by rw [List.length_set]; omega) (fun u hu => h1 u (by simp [hu])) fun s2 b2 c2 z2 => hk s2 ?_ (c.trans c2 fun _ _ h => h) (z.trans z2)
    have e : (l.set i v).take (i + 1) ++ vs ++ (l.set i v).drop (i + 1 + vs.length) = l.take i ++ v :: vs ++ l.drop (i + (v :: vs).length) := by
      rw [List.take_add_one, List.getElem?_set_self (by omega), List.take_set_of_le (Nat.le_refl _), List.drop_set_of_lt (by omega), List.length_cons]
      rw [show i + 1 + vs.length = i + (vs.length + 1) by omega]
      simp
    rw [← e]; exact b2
set_option maxRecDepth 20000 in
theorem ld41e {s : TH} {r t τ j : Nat} {L : List Value} {w0 w1 w2 w3 w4 w5 w6 w7 w8 w9 w10 w11 w12 w13 w14 w15 w16 w17 w18 w19 w20 w21 w22 w23 w24 w25 w26 w27 w28 w29 w30 w31 w32 w33 w34 w35 w36 w37 w38 w39 w40 : Value} {k : Value → Value → Value → Value → Value → Value → Value → Value → Value → Value → Value → Value → Value → Value → Value → Value → Value → Value → Value → Value → Value → Value → Value → Value → Value → Value → Value → Value → Value → Value → Value → Value → Value → Value → Value → Value → Value → Value → Value → Value → Value → Prop} (h : Blk s r L t τ) (hw : ∀ y, y < 41 → L[j * 41 + y]? = ([w0, w1, w2, w3, w4, w5, w6, w7, w8, w9, w10, w11, w12, w13, w14, w15, w16, w17, w18, w19, w20, w21, w22, w23, w24, w25, w26, w27, w28, w29, w30, w31, w32, w33, w34, w35, w36, w37, w38, w39, w40] : List Value)[y]?) (hk : k w0 w1 w2 w3 w4 w5 w6 w7 w8 w9 w10 w11 w12 w13 w14 w15 w16 w17 w18 w19 w20 w21 w22 w23 w24 w25 w26 w27 w28 w29 w30 w31 w32 w33 w34 w35 w36 w37 w38 w39 w40) : ld s.h (Addr.add (Addr.mk r 0 none) (Int.toNat (j : Int) * 41)) fun v0 => ld s.h (Addr.add (Addr.add (Addr.mk r 0 none) (Int.toNat (j : Int) * 41)) 1) fun v1 => ld s.h (Addr.add (Addr.add (Addr.mk r 0 none) (Int.toNat (j : Int) * 41)) 2) fun v2 => ld s.h (Addr.add (Addr.add (Addr.mk r 0 none) (Int.toNat (j : Int) * 41)) 3) fun v3 => ld s.h (Addr.add (Addr.add (Addr.mk r 0 none) (Int.toNat (j : Int) * 41)) 4) fun v4 => ld s.h (Addr.add (Addr.add (Addr.mk r 0 none) (Int.toNat (j : Int) * 41)) 5) fun v5 => ld s.h (Addr.add (Addr.add (Addr.mk r 0 none) (Int.toNat (j : Int) * 41)) 6) fun v6 => ld s.h (Addr.add (Addr.add (Addr.mk r 0 none) (Int.toNat (j : Int) * 41)) 7) fun v7 => ld s.h (Addr.add (Addr.add (Addr.mk r 0 none) (Int.toNat (j : Int) * 41)) 8) fun v8 => ld s.h (Addr.add (Addr.add (Addr.mk r 0 none) (Int.toNat (j : Int) * 41)) 9) fun v9 => ld s.h (Addr.add (Addr.add (Addr.mk r 0 none) (Int.toNat (j : Int) * 41)) 10) fun v10 => ld s.h (Addr.add (Addr.add (Addr.mk r 0 none) (Int.toNat (j : Int) * 41)) 11) fun v11 => ld s.h (Addr.add (Addr.add (Addr.mk r 0 none) (Int.toNat (j : Int) * 41)) 12) fun v12 => ld s.h (Addr.add (Addr.add (Addr.mk r 0 none) (Int.toNat (j : Int) * 41)) 13) fun v13 => ld s.h (Addr.add (Addr.add (Addr.mk r 0 none) (Int.toNat (j : Int) * 41)) 14) fun v14 => ld s.h (Addr.add (Addr.add (Addr.mk r 0 none) (Int.toNat (j : Int) * 41)) 15) fun v15 => ld s.h (Addr.add (Addr.add (Addr.mk r 0 none) (Int.toNat (j : Int) * 41)) 16) fun v16 => ld s.h (Addr.add (Addr.add (Addr.mk r 0 none) (Int.toNat (j : Int) * 41)) 17) fun v17 => ld s.h (Addr.add (Addr.add (Addr.mk r 0 none) (Int.toNat (j : Int) * 41)) 18) fun v18 => ld s.h (Addr.add (Addr.add (Addr.mk r 0 none) (Int.toNat (j : Int) * 41)) 19) fun v19 => ld s.h (Addr.add (Addr.add (Addr.mk r 0 none) (Int.toNat (j : Int) * 41)) 20) fun v20 => ld s.h (Addr.add (Addr.add (Addr.mk r 0 none) (Int.toNat (j : Int) * 41)) 21) fun v21 => ld s.h (Addr.add (Addr.add (Addr.mk r 0 none) (Int.toNat (j : Int) * 41)) 22) fun v22 => ld s.h (Addr.add (Addr.add (Addr.mk r 0 none) (Int.toNat (j : Int) * 41)) 23) fun v23 => ld s.h (Addr.add (Addr.add (Addr.mk r 0 none) (Int.toNat (j : Int) * 41)) 24) fun v24 => ld s.h (Addr.add (Addr.add (Addr.mk r 0 none) (Int.toNat (j : Int) * 41)) 25) fun v25 => ld s.h (Addr.add (Addr.add (Addr.mk r 0 none) (Int.toNat (j : Int) * 41)) 26) fun v26 => ld s.h (Addr.add (Addr.add (Addr.mk r 0 none) (Int.toNat (j : Int) * 41)) 27) fun v27 => ld s.h (Addr.add (Addr.add (Addr.mk r 0 none) (Int.toNat (j : Int) * 41)) 28) fun v28 => ld s.h (Addr.add (Addr.add (Addr.mk r 0 none) (Int.toNat (j : Int) * 41)) 29) fun v29 => ld s.h (Addr.add (Addr.add (Addr.mk r 0 none) (Int.toNat (j : Int) * 41)) 30) fun v30 => ld s.h (Addr.add (Addr.add (Addr.mk r 0 none) (Int.toNat (j : Int) * 41)) 31) fun v31 => ld s.h (Addr.add (Addr.add (Addr.mk r 0 none) (Int.toNat (j : Int) * 41)) 32) fun v32 => ld s.h (Addr.add (Addr.add (Addr.mk r 0 none) (Int.toNat (j : Int) * 41)) 33) fun v33 => ld s.h (Addr.add (Addr.add (Addr.mk r 0 none) (Int.toNat (j : Int) * 41)) 34) fun v34 => ld s.h (Addr.add (Addr.add (Addr.mk r 0 none) (Int.toNat (j : Int) * 41)) 35) fun v35 => ld s.h (Addr.add (Addr.add (Addr.mk r 0 none) (Int.toNat (j : Int) * 41)) 36) fun v36 => ld s.h (Addr.add (Addr.add (Addr.mk r 0 none) (Int.toNat (j : Int) * 41)) 37) fun v37 => ld s.h (Addr.add (Addr.add (Addr.mk r 0 none) (Int.toNat (j : Int) * 41)) 38) fun v38 => ld s.h (Addr.add (Addr.add (Addr.mk r 0 none) (Int.toNat (j : Int) * 41)) 39) fun v39 => ld s.h (Addr.add (Addr.add (Addr.mk r 0 none) (Int.toNat (j : Int) * 41)) 40) fun v40 => k v0 v1 v2 v3 v4 v5 v6 v7 v8 v9 v10 v11 v12 v13 v14 v15 v16 v17 v18 v19 v20 v21 v22 v23 v24 v25 v26 v27 v28 v29 v30 v31 v32 v33 v34 v35 v36 v37 v38 v39 v40 := by
  refine ld_sl h.sl (hw 0 (by omega)) ?_
  refine ld_sl2 h.sl (hw 1 (by omega)) ?_
  refine ld_sl2 h.sl (hw 2 (by omega)) ?_
  refine ld_sl2 h.sl (hw 3 (by omega)) ?_
  refine ld_sl2 h.sl (hw 4 (by omega)) ?_
  refine ld_sl2 h.sl (hw 5 (by omega)) ?_
  refine ld_sl2 h.sl (hw 6 (by omega)) ?_
  refine ld_sl2 h.sl (hw 7 (by omega)) ?_
  refine ld_sl2 h.sl (hw 8 (by omega)) ?_
  refine ld_sl2 h.sl (hw 9 (by omega)) ?_
  refine ld_sl2 h.sl (hw 10 (by omega)) ?_
  refine ld_sl2 h.sl (hw 11 (by omega)) ?_
  refine ld_sl2 h.sl (hw 12 (by omega)) ?_
  refine ld_sl2 h.sl (hw 13 (by omega)) ?_
  refine ld_sl2 h.sl (hw 14 (by omega)) ?_
  refine ld_sl2 h.sl (hw 15 (by omega)) ?_
  refine ld_sl2 h.sl (hw 16 (by omega)) ?_
  refine ld_sl2 h.sl (hw 17 (by omega)) ?_
  refine ld_sl2 h.sl (hw 18 (by omega)) ?_
  refine ld_sl2 h.sl (hw 19 (by omega)) ?_
  refine ld_sl2 h.sl (hw 20 (by omega)) ?_
  refine ld_sl2 h.sl (hw 21 (by omega)) ?_
  refine ld_sl2 h.sl (hw 22 (by omega)) ?_
  refine ld_sl2 h.sl (hw 23 (by omega)) ?_
  refine ld_sl2 h.sl (hw 24 (by omega)) ?_
  refine ld_sl2 h.sl (hw 25 (by omega)) ?_
  refine ld_sl2 h.sl (hw 26 (by omega)) ?_
  refine ld_sl2 h.sl (hw 27 (by omega)) ?_
  refine ld_sl2 h.sl (hw 28 (by omega)) ?_
  refine ld_sl2 h.sl (hw 29 (by omega)) ?_
  refine ld_sl2 h.sl (hw 30 (by omega)) ?_
  refine ld_sl2 h.sl (hw 31 (by omega)) ?_
  refine ld_sl2 h.sl (hw 32 (by omega)) ?_
  refine ld_sl2 h.sl (hw 33 (by omega)) ?_
  refine ld_sl2 h.sl (hw 34 (by omega)) ?_
  refine ld_sl2 h.sl (hw 35 (by omega)) ?_
  refine ld_sl2 h.sl (hw 36 (by omega)) ?_
  refine ld_sl2 h.sl (hw 37 (by omega)) ?_
  refine ld_sl2 h.sl (hw 38 (by omega)) ?_
  refine ld_sl2 h.sl (hw 39 (by omega)) ?_
  refine ld_sl2 h.sl (hw 40 (by omega)) ?_
  exact hk
set_option maxRecDepth 20000 in
theorem stGe {s : TH} {r t τ j : Nat} {L : List Value} {k : Heap → Prop} (n : Int) {il bl : List UInt8} (h8 : il.length = 8) (h32 : bl.length = 32) {v0 v1 v2 v3 v4 v5 v6 v7 v8 v9 v10 v11 v12 v13 v14 v15 v16 v17 v18 v19 v20 v21 v22 v23 v24 v25 v26 v27 v28 v29 v30 v31 v32 v33 v34 v35 v36 v37 v38 v39 v40 : Value} (he : gv n il bl = [v0, v1, v2, v3, v4, v5, v6, v7, v8, v9, v10, v11, v12, v13, v14, v15, v16, v17, v18, v19, v20, v21, v22, v23, v24, v25, v26, v27, v28, v29, v30, v31, v32, v33, v34, v35, v36, v37, v38, v39, v40]) (h : Blk s r L t τ) (hl : j * 41 + 41 ≤ L.length)
    (hk : ∀ s' : TH, Blk s' r (L.take (j * 41) ++ gv n il bl ++ L.drop (j * 41 + 41)) t τ → On r s s' → s.h.size = s'.h.size → k s'.h) : st s.h (Addr.add (Addr.mk r 0 none) (Int.toNat (j : Int) * 41)) v0 fun H0 => st H0 (Addr.add (Addr.add (Addr.mk r 0 none) (Int.toNat (j : Int) * 41)) 1) v1 fun H1 => st H1 (Addr.add (Addr.add (Addr.mk r 0 none) (Int.toNat (j : Int) * 41)) 2) v2 fun H2 => st H2 (Addr.add (Addr.add (Addr.mk r 0 none) (Int.toNat (j : Int) * 41)) 3) v3 fun H3 => st H3 (Addr.add (Addr.add (Addr.mk r 0 none) (Int.toNat (j : Int) * 41)) 4) v4 fun H4 => st H4 (Addr.add (Addr.add (Addr.mk r 0 none) (Int.toNat (j : Int) * 41)) 5) v5 fun H5 => st H5 (Addr.add (Addr.add (Addr.mk r 0 none) (Int.toNat (j : Int) * 41)) 6) v6 fun H6 => st H6 (Addr.add (Addr.add (Addr.mk r 0 none) (Int.toNat (j : Int) * 41)) 7) v7 fun H7 => st H7 (Addr.add (Addr.add (Addr.mk r 0 none) (Int.toNat (j : Int) * 41)) 8) v8 fun H8 => st H8 (Addr.add (Addr.add (Addr.mk r 0 none) (Int.toNat (j : Int) * 41)) 9) v9 fun H9 => st H9 (Addr.add (Addr.add (Addr.mk r 0 none) (Int.toNat (j : Int) * 41)) 10) v10 fun H10 => st H10 (Addr.add (Addr.add (Addr.mk r 0 none) (Int.toNat (j : Int) * 41)) 11) v11 fun H11 => st H11 (Addr.add (Addr.add (Addr.mk r 0 none) (Int.toNat (j : Int) * 41)) 12) v12 fun H12 => st H12 (Addr.add (Addr.add (Addr.mk r 0 none) (Int.toNat (j : Int) * 41)) 13) v13 fun H13 => st H13 (Addr.add (Addr.add (Addr.mk r 0 none) (Int.toNat (j : Int) * 41)) 14) v14 fun H14 => st H14 (Addr.add (Addr.add (Addr.mk r 0 none) (Int.toNat (j : Int) * 41)) 15) v15 fun H15 => st H15 (Addr.add (Addr.add (Addr.mk r 0 none) (Int.toNat (j : Int) * 41)) 16) v16 fun H16 => st H16 (Addr.add (Addr.add (Addr.mk r 0 none) (Int.toNat (j : Int) * 41)) 17) v17 fun H17 => st H17 (Addr.add (Addr.add (Addr.mk r 0 none) (Int.toNat (j : Int) * 41)) 18) v18 fun H18 => st H18 (Addr.add (Addr.add (Addr.mk r 0 none) (Int.toNat (j : Int) * 41)) 19) v19 fun H19 => st H19 (Addr.add (Addr.add (Addr.mk r 0 none) (Int.toNat (j : Int) * 41)) 20) v20 fun H20 => st H20 (Addr.add (Addr.add (Addr.mk r 0 none) (Int.toNat (j : Int) * 41)) 21) v21 fun H21 => st H21 (Addr.add (Addr.add (Addr.mk r 0 none) (Int.toNat (j : Int) * 41)) 22) v22 fun H22 => st H22 (Addr.add (Addr.add (Addr.mk r 0 none) (Int.toNat (j : Int) * 41)) 23) v23 fun H23 => st H23 (Addr.add (Addr.add (Addr.mk r 0 none) (Int.toNat (j : Int) * 41)) 24) v24 fun H24 => st H24 (Addr.add (Addr.add (Addr.mk r 0 none) (Int.toNat (j : Int) * 41)) 25) v25 fun H25 => st H25 (Addr.add (Addr.add (Addr.mk r 0 none) (Int.toNat (j : Int) * 41)) 26) v26 fun H26 => st H26 (Addr.add (Addr.add (Addr.mk r 0 none) (Int.toNat (j : Int) * 41)) 27) v27 fun H27 => st H27 (Addr.add (Addr.add (Addr.mk r 0 none) (Int.toNat (j : Int) * 41)) 28) v28 fun H28 => st H28 (Addr.add (Addr.add (Addr.mk r 0 none) (Int.toNat (j : Int) * 41)) 29) v29 fun H29 => st H29 (Addr.add (Addr.add (Addr.mk r 0 none) (Int.toNat (j : Int) * 41)) 30) v30 fun H30 => st H30 (Addr.add (Addr.add (Addr.mk r 0 none) (Int.toNat (j : Int) * 41)) 31) v31 fun H31 => st H31 (Addr.add (Addr.add (Addr.mk r 0 none) (Int.toNat (j : Int) * 41)) 32) v32 fun H32 => st H32 (Addr.add (Addr.add (Addr.mk r 0 none) (Int.toNat (j : Int) * 41)) 33) v33 fun H33 => st H33 (Addr.add (Addr.add (Addr.mk r 0 none) (Int.toNat (j : Int) * 41)) 34) v34 fun H34 => st H34 (Addr.add (Addr.add (Addr.mk r 0 none) (Int.toNat (j : Int) * 41)) 35) v35 fun H35 => st H35 (Addr.add (Addr.add (Addr.mk r 0 none) (Int.toNat (j : Int) * 41)) 36) v36 fun H36 => st H36 (Addr.add (Addr.add (Addr.mk r 0 none) (Int.toNat (j : Int) * 41)) 37) v37 fun H37 => st H37 (Addr.add (Addr.add (Addr.mk r 0 none) (Int.toNat (j : Int) * 41)) 38) v38 fun H38 => st H38 (Addr.add (Addr.add (Addr.mk r 0 none) (Int.toNat (j : Int) * 41)) 39) v39 fun H39 => st H39 (Addr.add (Addr.add (Addr.mk r 0 none) (Int.toNat (j : Int) * 41)) 40) v40 fun H40 => k H40 := by
  have h0 := stsM_t (k := k) (gv n il bl) (j * 41) L s h (by rw [gv_len h8 h32]; exact hl) (gv_one n il bl) fun s' b c z => hk s' (by rw [gv_len h8 h32] at b; exact b) c z
  have e0 : ∀ y, Addr.add (Addr.add (Addr.mk r 0 none) (Int.toNat (j : Int) * 41)) y = Addr.mk r (j * 41 + y) none := fun y => by rw [add_mk, add_mk, Int.toNat_natCast, Nat.zero_add]
  have e1 : Addr.add (Addr.mk r 0 none) (Int.toNat (j : Int) * 41) = Addr.mk r (j * 41) none := by rw [add_mk, Int.toNat_natCast, Nat.zero_add]
  simp only [e0]
  rw [e1]
  rw [he] at h0
  exact h0
/-- bollard/alloc.turn -/
theorem c_turnI (vp d U : Nat) (V : VolM) (G B N : Nat) (n bit : Nat) (on : Bool) (i0 i1 i2 i3 i4 i5 i6 i7 b0 b1 b2 b3 b4 b5 b6 b7 b8 b9 b10 b11 b12 b13 b14 b15 b16 b17 b18 b19 b20 b21 b22 b23 b24 b25 b26 b27 b28 b29 b30 b31 : UInt8) (s : TH) (hv : VolL s vp d U V 0) (hU : 10 ≤ U) (hg : GeoOk G B N) (hvn : V.n < 1000000000000) (hlp : V.P.last < 900000) (hl : V.D.blocks.length = G * B) (hn : n < G) (hbit : bit < 64) : TRet Tryz.prog 80 #[.pointer (some ⟨vp, 0, none⟩), .agg #[.int .i64 (G : Int), .int .i64 (B : Int), .int .i64 (N : Int)], .agg (gv (n : Int) [i0, i1, i2, i3, i4, i5, i6, i7] [b0, b1, b2, b3, b4, b5, b6, b7, b8, b9, b10, b11, b12, b13, b14, b15, b16, b17, b18, b19, b20, b21, b22, b23, b24, b25, b26, b27, b28, b29, b30, b31]).toArray, .int .i64 4, .int .i64 (bit : Int), .bool on, .slice none 0 0] s fun v s' => ∃ V', v = .tuple #[.int .i64 (V.P.last + 1), .int .i64 0] ∧ Ch [U, U + 3, U + 20, U + 21, U + 22, U + 23, U + 30, U + 32] s s' ∧ ChT V (hB n B) (4 + ((bit / 8 : Nat) : Int)) [setTo ([i0, i1, i2, i3, i4, i5, i6, i7].getD (bit / 8) 0) (bit % 8) on] V' ∧ VolL s' vp d U V' 0 := by
  have hcan := hg.can
  have hg2 := hg
  unfold GeoOk at hg2
  have hgb := hg.gb
  have hpk := hv.pokk
  have hp0 := hpk.lst
  have hhas := has_hd hg hl hn
  obtain ⟨bx, hbx⟩ : ∃ x, x = setTo ([i0, i1, i2, i3, i4, i5, i6, i7].getD (bit / 8) 0) (bit % 8) on := ⟨_, rfl⟩
  rw [← hbx]
  have hwb : (withB [i0, i1, i2, i3, i4, i5, i6, i7] bit on)[bit / 8]? = some bx := by rw [hbx]; unfold withB; rw [List.getElem?_set_self (by show bit / 8 < 8; omega)]
  have hch := change_t (V := V) (o := 4 + ((bit / 8 : Nat) : Int)) (y := [bx]) (needs := []) hpk hhas (fits1 hhas.1 (by omega) (by omega)) (fun n hn => by cases hn) (by omega)
  obtain ⟨M, hM, hM0, hMa, hMb, hMc, hMd, hMe, hMf⟩ := fresh6 s (U + 50) 0 0 0 0 0
  refine F80_calls _ _ _ _ _ _ _ _ _ _ _ _ _ _ _ _ _ _ _ _ _ _ _ _ _ _ _ _ _ _ _ _ _ _ _ _ _ _ _ _ _ _ _ _ _ _ _ _ _ _ _  ?_
  unfold F80
  refine al_t (M + 1) fun r1 s2 hr1 b_1 c_2 z_3 => ?_
  refine al_t (M + 2) fun r3 s4 hr3 b_4 c_5 z_6 => ?_
  have hg1 : Blk s4 r3 (gv (n : Int) [i0, i1, i2, i3, i4, i5, i6, i7] [b0, b1, b2, b3, b4, b5, b6, b7, b8, b9, b10, b11, b12, b13, b14, b15, b16, b17, b18, b19, b20, b21, b22, b23, b24, b25, b26, b27, b28, b29, b30, b31]) 77 (M + 2) := b_4
  refine ask_t (by omega) ?_
  refine jn_u ?_
  refine sB_t (by rfl) ?_
  refine ask_t (by omega) ?_
  intro _
  intros
  refine dSl_i ?_
  try rw [slO_zero]
  refine tcall (c_bwith (xn := 8) (M + 10) 8 (gv_slI hg1 rfl rfl) rfl (by omega) bit (by omega) on) ?_
  rintro v_8 s_7 ⟨acall1, ccall1, rfl, c_10, call1a⟩
  have z_11 := c_10.size
  refine dT2 ?_
  refine dSl_i ?_
  refine dInt_i ?_
  refine sB_f (by rfl) ?_
  have h_12 := b_1.ch (c_5.app c_10) (by simp)
  refine ld_t h_12 rfl ?_
  refine ld_t h_12 rfl ?_
  refine ld_t h_12 rfl ?_
  have h_13 := hg1.ch c_10 (by simp)
  refine ld_t h_13 rfl ?_
  refine dInt_i ?_
  refine tcall (gc_header (G : Int) (B : Int) (N : Int) (n : Int) hcan (by omega) _) ?_
  rintro v_15 s_14 ⟨rfl, c_17⟩
  have z_18 := c_17.size
  rw [show (n : Int) * (B : Int) + 1 = hB n B from rfl]
  refine dT2 ?_
  refine dInt_i ?_
  refine dBl_i ?_
  refine ask_t (by omega) ?_
  try rw [td8]
  refine wr_t (by omega) ?_
  try rw [td8]
  refine wr_t (by omega) ?_
  refine ask_t (by omega) ?_
  try rw [td8]
  refine wr_t (by omega) ?_
  have h_19 := call1a.mv c_17 (tagn (by simp))
  obtain ⟨a_20, rfl⟩ := h_19.ne_none (by omega)
  refine nz_i ?_
  refine ask_t (by omega) ?_
  refine ld_sl (h_19).sl (by rw [Int.toNat_natCast, Nat.mul_one]; exact bvs_get hwb) ?_
  refine dInt_i ?_
  refine al_t (M + 3) fun r39 s40 hr39 b_21 c_22 z_23 => ?_
  have hy8 : Sl s40 (some ⟨r39, 0, none⟩) (bvs [bx]) (M + 3) := (b_21).sl
  have h_24 := hv.mv ((((c_2.app c_5).app c_10).app c_17).app c_22) (rngn50 (by simp))
  refine tcall (c_VChange _ _ _ _ _ _ _ _ _ (by omega) h_24 hy8 rfl (sl_nil _ (M + 20)) rfl (by omega) (by omega) (by omega) (by omega)) ?_
  rintro v_26 s_25 ⟨rfl, c_28, call3a⟩
  have z_29 := c_28.size
  rw [hch.1, hch.2.1]
  refine dT2 ?_
  refine dInt_i ?_
  refine dInt_i ?_
  refine ret_t ?_
  exact ⟨_, rfl, (((((((Ch.refl [U, U + 3, U + 20, U + 21, U + 22, U + 23, U + 30, U + 32] s).ch c_2 (by simp)).ch c_5 (by simp)).ch c_10 (by simp)).ch c_17 (by simp)).ch c_22 (by simp)).ch c_28 (by simp)), hch.2.2, call3a⟩
/-- what a call of Inode leaves -/
structure InoR (G B N : Nat) (A : Nat → List UInt8 × List UInt8) (V V' : VolM) (x e : Int) : Prop where
  or_ : (e = 5 ∧ (∀ n, n < G → spN N n (A n).1 = 0) ∧ ∃ k : Nat, k ≤ 16 ∧ V' = V.tk k) ∨
    (e = 0 ∧ ∃ n i k : Nat, n < G ∧ i < N ∧ hasB (rowI n (A n).1) i = false ∧ x = (n : Int) * (N : Int) + (i : Int) ∧ k ≤ 16 ∧ ChT (V.tk k) (hB n B) (4 + ((i / 8 : Nat) : Int)) [setTo ((A n).1.getD (i / 8) 0) (i % 8) true] V')
def gvz : List Value := gv 0 [0, 0, 0, 0, 0, 0, 0, 0] [0, 0, 0, 0, 0, 0, 0, 0, 0, 0, 0, 0, 0, 0, 0, 0, 0, 0, 0, 0, 0, 0, 0, 0, 0, 0, 0, 0, 0, 0, 0, 0]
/-- the headers, as far as they were read -/
def gz (A : Nat → List UInt8 × List UInt8) (kq q : Nat) : List Value := if q < kq then gv (q : Int) (A q).1 (A q).2 else gvz
theorem rowZ_gvz (G : Nat) {q y : Nat} (hq : q < G) (hy : y < 41) : (rowZ gvz G)[q * 41 + y]? = gvz[y]? := by
  have hl : gvz.length = 41 := rfl
  rw [rowZ_get gvz G (q * 41 + y) (by rw [hl]; have : (q + 1) * 41 ≤ G * 41 := Nat.mul_le_mul_right 41 hq; omega), hl]
  congr 1; omega
theorem gz_put {G kq : Nat} {A : Nat → List UInt8 × List UInt8} {L : List Value} (hL : L.length = G * 41) (hk : kq < G) (h8 : (A kq).1.length = 8) (h32 : (A kq).2.length = 32) (h : ∀ q, q < G → ∀ y, y < 41 → L[q * 41 + y]? = (gz A kq q)[y]?) :
    ∀ q, q < G → ∀ y, y < 41 → (L.take (kq * 41) ++ gv (kq : Int) (A kq).1 (A kq).2 ++ L.drop (kq * 41 + 41))[q * 41 + y]? = (gz A (kq + 1) q)[y]? := by
  intro q hq y hy
  have h1 : (kq + 1) * 41 ≤ G * 41 := Nat.mul_le_mul_right 41 hk
  have hl1 : (L.take (kq * 41)).length = kq * 41 := by rw [List.length_take]; omega
  have hl2 : (gv (kq : Int) (A kq).1 (A kq).2).length = 41 := gv_len h8 h32
  rw [List.append_assoc, List.getElem?_append]
  rcases Nat.lt_trichotomy q kq with e | e | e
  · rw [if_pos (by rw [hl1]; omega), List.getElem?_take_of_lt (by omega), h q hq y hy]
    unfold gz; rw [if_pos e, if_pos (by omega)]
  · subst e
    rw [if_neg (by rw [hl1]; omega), hl1, Nat.add_sub_cancel_left, List.getElem?_append_left (by rw [hl2]; exact hy)]
    unfold gz; rw [if_pos (by omega)]
  · rw [if_neg (by rw [hl1]; omega), hl1, List.getElem?_append_right (by rw [hl2]; omega), hl2, List.getElem?_drop, show kq * 41 + 41 + (q * 41 + y - kq * 41 - 41) = q * 41 + y by omega, h q hq y hy]
    unfold gz; rw [if_neg (by omega), if_neg (by omega)]
set_option maxRecDepth 100000 in
/-- bollard/alloc.Inode -/
theorem c_aInodeF (vp d U : Nat) (V : VolM) (G B N : Nat) (near : Nat) (A : Nat → List UInt8 × List UInt8) (s : TH) (hv : VolL s vp d U V 0) (hU : 10 ≤ U) (hg : GeoOk G B N) (hvn : V.n < 100000000) (hlp : V.P.last < 900000) (hA : AS G B V A) (hnr : near < G) : TRet Tryz.prog 40 #[.pointer (some ⟨vp, 0, none⟩), .agg #[.int .i64 (G : Int), .int .i64 (B : Int), .int .i64 (N : Int)], .int .i64 (near : Int), .bool false] s fun v s' => ∃ V' x y e, v = .tuple #[.int .i64 x, .int .i64 y, .int .i64 e] ∧ Ch [U, U + 3, U + 20, U + 21, U + 22, U + 23, U + 30, U + 32] s s' ∧ VolL s' vp d U V' 0 ∧ InoR G B N A V V' x e := by
  have hcan := hg.can
  have hg2 := hg
  unfold GeoOk at hg2
  have hgb := hg.gb
  have hpk := hv.pokk
  have hp0 := hpk.lst
  have hl := hA.len
  have hgbI : (G : Int) * (B : Int) = ((G * B : Nat) : Int) := (Int.natCast_mul G B).symm
  obtain ⟨M, hM, hM0, hMa, hMb, hMc, hMd, hMe, hMf⟩ := fresh6 s (U + 50) 0 0 0 0 0
  refine F40_calls _ _ _ _ _ _  ?_
  unfold F40
  refine al_t (M + 1) fun r1 s2 hr1 b_1 c_2 z_3 => ?_
  refine ld_t b_1 rfl ?_
  refine ld_t b_1 rfl ?_
  refine ld_t b_1 rfl ?_
  have h_4 := hv.mv c_2 (rngn50 (by simp))
  refine tcall (c_readyA vp d U V _ _ _ _ h_4 hU hcan (by rw [hl, hgbI]; omega)) ?_
  rintro v_6 s_5 ⟨rfl, c_8, call1a⟩
  have z_9 := c_8.size
  refine dInt_i ?_
  refine sB_f (by rfl) ?_
  refine jn_u ?_
  refine sB_d (fun hsB2 => by exfalso; omega) (fun hsB2 => ?_)
  have h_10 := b_1.ch c_8 (by simp <;> omega)
  refine ld_t h_10 rfl ?_
  refine dInt_i ?_
  intro _
  intros
  refine dBl_i ?_
  refine sB_d (fun hsB3 => by exfalso; omega) (fun hsB3 => ?_)
  refine ld_t h_10 rfl ?_
  refine dInt_i ?_
  refine ask_t (by omega) ?_
  refine al_t (M + 2) fun r22 s23 hr22 b_11 c_12 z_13 => ?_
  have zL : Blk s23 r22 (rowZ gvz G) 77 (M + 2) := b_11
  refine ⟨fun vs H' => ∃ s' : TH, s'.h = H' ∧ ∃ g, vs = [.int .i64 g] ∧ Ch [] s23 s' ∧ (g = 0), fun vs H' => match vs with | [.int .i64 g] => 0 | _ => 0, ⟨s23, rfl, _, rfl, Ch.refl _ _, ?_⟩, ?_⟩
  ·
    exact rfl
  ·
    intro g _ _ _ _ _ _ _ _ _ _ _ _ _ _ _ _ _ _ _ _ _ _ _ _ _ _ H_ hI_15
    obtain ⟨s_14, rfl, g_, hvs, c_16, rfl⟩ := hI_15
    cases hvs
    have z_17 := c_16.size
    refine jn_u ?_
    refine sB_f (by rfl) ?_
    intro _
    intros
    refine dBl_i ?_
    refine sB_f (by rfl) ?_
    refine al_t (M + 3) fun r157 s158 hr157 b_18 c_19 z_20 => ?_
    have zB : Blk s158 r157 (gv 0 [0, 0, 0, 0, 0, 0, 0, 0] [0, 0, 0, 0, 0, 0, 0, 0, 0, 0, 0, 0, 0, 0, 0, 0, 0, 0, 0, 0, 0, 0, 0, 0, 0, 0, 0, 0, 0, 0, 0, 0]) 77 (M + 3) := b_18
    refine jn1 (fun fv s' => Ch [U, U + 20, U + 21, U + 22, U + 23, M + 3, M + 9] s158 s' ∧ (∃ (m : Int) (nb kt : Nat) (il bl : List UInt8), fv = .int .i64 m ∧ kt ≤ 16 ∧ VolL s' vp d U (V.tk kt) 0 ∧ Blk s' r157 (gv (nb : Int) il bl) 77 (M + 3) ∧ il.length = 8 ∧ bl.length = 32 ∧ ((m = 0 ∧ ∀ q, q < G → spN N ((near + q) % G) (A ((near + q) % G)).1 = 0) ∨ (0 < m ∧ nb < G ∧ (A nb).1 = il ∧ (A nb).2 = bl ∧ m = spN N nb il)))) ?_ ?_
    ·
      rintro fv s_21 ⟨c_22, m, nb, kt, il, bl, rfl, hkt, hv2, hbst, hl8, hl32, hdis⟩
      have z_23 := c_22.size
      obtain ⟨j0, j1, j2, j3, j4, j5, j6, j7, rfl⟩ := len8 hl8
      obtain ⟨c0, c1, c2, c3, c4, c5, c6, c7, c8, c9, c10, c11, c12, c13, c14, c15, c16, c17, c18, c19, c20, c21, c22, c23, c24, c25, c26, c27, c28, c29, c30, c31, rfl⟩ := len32 hl32
      intro _
      intros
      refine dInt_i ?_
      refine sB_d (fun hsB6 => ?_) (fun hsB6 => ?_)
      ·
        refine ret_t ?_
        exact ⟨_, _, _, _, rfl, (((((((Ch.refl [U, U + 3, U + 20, U + 21, U + 22, U + 23, U + 30, U + 32] s).ch c_2 (by simp)).ch c_8 (by simp)).ch c_12 (by simp)).ch c_16 (by simp)).ch c_19 (by simp)).fr c_22 hM (by simp)), hv2, ⟨.inl ⟨rfl, arnd_all (Q := fun n => spN N n (A n).1 = 0) hnr (hdis.resolve_right (fun h => by omega)).2, kt, hkt, rfl⟩⟩⟩
      ·
        have h_24 := h_10.ch (((c_12.app c_16).app c_19).app c_22) (by simp <;> omega)
        refine ld_t h_24 rfl ?_
        refine ld_t h_24 rfl ?_
        refine ld_t h_24 rfl ?_
        refine ld41 hbst ?_
        obtain ⟨hm0, hnb, hjl, hcl, hms⟩ := hdis.resolve_left (fun h => by omega)
        refine tcall (c_spare (G : Int) (B : Int) N nb j0 j1 j2 j3 j4 j5 j6 j7 c0 c1 c2 c3 c4 c5 c6 c7 c8 c9 c10 c11 c12 c13 c14 c15 c16 c17 c18 c19 c20 c21 c22 c23 c24 c25 c26 c27 c28 c29 c30 c31 _ (by omega) (by omega)) ?_
        rintro v_26 s_25 ⟨icall2, rfl, c_28, call2a⟩
        have z_29 := c_28.size
        obtain ⟨hiN, hrow⟩ := call2a (by omega)
        have hnN : nb * N ≤ 8 * 64 := Nat.mul_le_mul (by omega) (by omega)
        have hqI : (nb : Int) * (N : Int) = ((nb * N : Nat) : Int) := (Int.natCast_mul nb N).symm
        refine dT2 ?_
        refine dInt_i ?_
        refine dInt_i ?_
        have h_30 := h_24.ch c_28 (by simp)
        refine ld_t h_30 rfl ?_
        refine ld_t h_30 rfl ?_
        refine ld_t h_30 rfl ?_
        have h_31 := hbst.ch c_28 (by simp)
        refine ld41 h_31 ?_
        have h_32 := hv2.mv c_28 (rngn50 (by simp))
        refine tcall (c_turnI vp d U (V.tk kt) G B N nb icall2 true j0 j1 j2 j3 j4 j5 j6 j7 c0 c1 c2 c3 c4 c5 c6 c7 c8 c9 c10 c11 c12 c13 c14 c15 c16 c17 c18 c19 c20 c21 c22 c23 c24 c25 c26 c27 c28 c29 c30 c31 _ h_32 hU hg (by show V.n + _ < _; omega) hlp hl hnb (by omega)) ?_
        rintro v_34 s_33 ⟨Vcall3, rfl, c_36, call3a, call3b⟩
        have z_37 := c_36.size
        refine dT2 ?_
        refine dInt_i ?_
        refine dInt_i ?_
        refine sB_f (by rfl) ?_
        have h_38 := h_31.ch c_36 (by simp <;> omega)
        refine ld_t h_38 rfl ?_
        refine dInt_i ?_
        have h_39 := h_30.ch c_36 (by simp <;> omega)
        refine ld_t h_39 rfl ?_
        refine dInt_i ?_
        refine wr_t (by omega) ?_
        refine wr_t (by omega) ?_
        refine ret_t ?_
        exact ⟨_, _, _, _, rfl, (((((((((Ch.refl [U, U + 3, U + 20, U + 21, U + 22, U + 23, U + 30, U + 32] s).ch c_2 (by simp)).ch c_8 (by simp)).ch c_12 (by simp)).ch c_16 (by simp)).ch c_19 (by simp)).fr c_22 hM (by simp)).ch c_28 (by simp)).ch c_36 (by simp)), call3b, ⟨.inr ⟨rfl, nb, icall2, kt, hnb, hiN, by rw [hjl]; exact hrow, rfl, hkt, by rw [hjl]; exact call3a⟩⟩⟩
    ·
      intro K_40 hK_40
      have h_41 := h_10.ch ((c_12.app c_16).app c_19) (by simp)
      refine ld_t h_41 rfl ?_
      refine ld_t h_41 rfl ?_
      refine ld_t h_41 rfl ?_
      refine tcall (c_around (M + 10) G near (B : Int) (N : Int) _ (by omega) hnr) ?_
      rintro v_43 s_42 ⟨acall4, cccall4, rfl, c_45, call4a⟩
      have z_46 := c_45.size
      refine dSl_i ?_
      refine ⟨fun vs H' => ∃ s' : TH, s'.h = H' ∧ ∃ m i, vs = [.int .i64 m, .int .i64 i] ∧ Ch [U, U + 20, U + 21, U + 22, U + 23, M + 9] s_42 s' ∧ (∃ kk : Nat, i = kk ∧ kk ≤ G ∧ m = 0 ∧ VolL s' vp d U (V.tk kk) 0 ∧ (∀ q, q < kk → spN N ((near + q) % G) (A ((near + q) % G)).1 = 0)), fun vs H' => match vs with | [.int .i64 m, .int .i64 i] => ((G : Int) - i).toNat | _ => 0, ⟨s_42, rfl, _, _, rfl, Ch.refl _ _, ?_⟩, ?_⟩
      ·
        have h_47 := call1a.mv (((c_12.app c_16).app c_19).app c_45) (rngn50 (by simp))
        exact ⟨0, rfl, by omega, rfl, by rw [show ((0 : Nat) : Int) = 0 from rfl, tk_zero]; exact h_47, fun q h => by omega⟩
      ·
        intro m i _ _ _ _ _ _ _ _ _ _ _ _ _ _ _ _ _ _ _ _ _ _ _ _ _ _ _ _ _ _ _ _ _ _ _ _ _ _ _ _ _ H_ hI_49
        obtain ⟨s_48, rfl, m_, i_, hvs, c_50, kk, rfl, hk, rfl, hv2, hall⟩ := hI_49
        cases hvs
        have z_51 := c_50.size
        refine sB_d (fun hsB8 => ?_) (fun hsB8 => ?_)
        ·
          refine jn_u ?_
          have h_52 := call4a.mv c_50 (tagn (by simp <;> omega))
          obtain ⟨a_53, rfl⟩ := h_52.ne_none (by omega)
          refine nz_i ?_
          refine ask_t (by omega) ?_
          obtain ⟨n, hne⟩ : ∃ n, n = (near + kk) % G := ⟨_, rfl⟩
          have hnG : n < G := by rw [hne]; exact Nat.mod_lt _ (by omega)
          refine ld_sl (v := .int .i64 (n : Int)) (h_52).sl (by rw [Int.toNat_natCast, Nat.mul_one, hne]; exact ivs_get (arnd_get _ (by omega))) ?_
          refine dInt_i ?_
          refine ask_t (by omega) ?_
          have h_54 := zL.ch (((c_16.app c_19).app c_45).app c_50) (by simp <;> omega)
          refine ld41e (j := n) h_54 (fun y hy => rowZ_gvz G hnG hy) ?_
          refine al_t (M + 9) fun r462 s463 hr462 b_55 c_56 z_57 => ?_
          refine stG 0 (il := [0, 0, 0, 0, 0, 0, 0, 0]) (bl := [0, 0, 0, 0, 0, 0, 0, 0, 0, 0, 0, 0, 0, 0, 0, 0, 0, 0, 0, 0, 0, 0, 0, 0, 0, 0, 0, 0, 0, 0, 0, 0]) rfl rfl rfl b_55 (by rfl) fun s464 b_58 c_59o z_60 => ?_
          have c_59 := on_ch b_55 c_59o
          refine jn_u ?_
          refine sB_t (by rfl) ?_
          have h_61 := h_41.ch (((c_45.app c_50).app c_56).app c_59) (by simp <;> omega)
          refine ld_t h_61 rfl ?_
          refine ld_t h_61 rfl ?_
          refine ld_t h_61 rfl ?_
          obtain ⟨i0, i1, i2, i3, i4, i5, i6, i7, hil⟩ := len8 (hA.l8 n hnG)
          obtain ⟨b0, b1, b2, b3, b4, b5, b6, b7, b8, b9, b10, b11, b12, b13, b14, b15, b16, b17, b18, b19, b20, b21, b22, b23, b24, b25, b26, b27, b28, b29, b30, b31, hbl⟩ := len32 (hA.l32 n hnG)
          have hnow : (V.tk kk).now (hB n B) = hdL n [i0, i1, i2, i3, i4, i5, i6, i7] [b0, b1, b2, b3, b4, b5, b6, b7, b8, b9, b10, b11, b12, b13, b14, b15, b16, b17, b18, b19, b20, b21, b22, b23, b24, b25, b26, b27, b28, b29, b30, b31] := by rw [← hil, ← hbl]; exact (hA.tk _).now n hnG
          have h_62 := hv2.mv (c_56.app c_59) (rngn50 (by simp <;> omega))
          refine tcall (c_aheader vp d U (V.tk kk) G B N n i0 i1 i2 i3 i4 i5 i6 i7 b0 b1 b2 b3 b4 b5 b6 b7 b8 b9 b10 b11 b12 b13 b14 b15 b16 b17 b18 b19 b20 b21 b22 b23 b24 b25 b26 b27 b28 b29 b30 b31 _ h_62 hU hg hl (by show V.n + _ < _; omega) hnG hnow) ?_
          rintro v_64 s_63 ⟨rfl, c_66, call5a⟩
          have z_67 := c_66.size
          have hv4 : VolL s_63 vp d U (V.tk ((kk + 1 : Nat) : Int)) 0 := by rw [show ((kk + 1 : Nat) : Int) = (kk : Int) + 1 by omega, ← tk_tick]; exact call5a
          refine dT2 ?_
          refine dA41 ?_
          refine dInt_i ?_
          have h_71 := b_58.ch c_66 (by simp <;> omega)
          refine stG (n : Int) (il := [i0, i1, i2, i3, i4, i5, i6, i7]) (bl := [b0, b1, b2, b3, b4, b5, b6, b7, b8, b9, b10, b11, b12, b13, b14, b15, b16, b17, b18, b19, b20, b21, b22, b23, b24, b25, b26, b27, b28, b29, b30, b31]) rfl rfl rfl h_71 (by rfl) fun s706 b_68 c_69o z_70 => ?_
          have c_69 := on_ch h_71 c_69o
          refine sB_f (by rfl) ?_
          intro _
          intros
          have h_72 := h_61.ch (c_66.app c_69) (by simp <;> omega)
          refine ld_t h_72 rfl ?_
          refine ld_t h_72 rfl ?_
          refine ld_t h_72 rfl ?_
          refine ld41 b_68 ?_
          refine tcall (c_spare (G : Int) (B : Int) N n i0 i1 i2 i3 i4 i5 i6 i7 b0 b1 b2 b3 b4 b5 b6 b7 b8 b9 b10 b11 b12 b13 b14 b15 b16 b17 b18 b19 b20 b21 b22 b23 b24 b25 b26 b27 b28 b29 b30 b31 _ (by omega) (by omega)) ?_
          rintro v_74 s_73 ⟨icall6, rfl, c_76, call6a⟩
          have z_77 := c_76.size
          have hs2 := spN_rng N n [i0, i1, i2, i3, i4, i5, i6, i7]
          refine dT2 ?_
          refine dInt_i ?_
          refine dInt_i ?_
          refine sB_d (fun hsB11 => ?_) (fun hsB11 => ?_)
          ·
            have h_78 := b_68.ch c_76 (by simp)
            refine ld41 h_78 ?_
            have h_82 := zB.ch ((((((c_45.app c_50).app c_56).app c_59).app c_66).app c_69).app c_76) (by simp <;> omega)
            refine stG (n : Int) (il := [i0, i1, i2, i3, i4, i5, i6, i7]) (bl := [b0, b1, b2, b3, b4, b5, b6, b7, b8, b9, b10, b11, b12, b13, b14, b15, b16, b17, b18, b19, b20, b21, b22, b23, b24, b25, b26, b27, b28, b29, b30, b31]) rfl rfl rfl h_82 (by rfl) fun s613 b_79 c_80o z_81 => ?_
            have c_80 := on_ch h_82 c_80o
            refine sB_t (by rfl) ?_
            refine hK_40 _ _ ⟨(((((((((Ch.refl [U, U + 20, U + 21, U + 22, U + 23, M + 3, M + 9] s158).ch c_45 (by simp)).ch c_50 (by simp)).ch c_56 (by simp)).ch c_59 (by simp)).ch c_66 (by simp)).ch c_69 (by simp)).ch c_76 (by simp)).ch c_80 (by simp)), ?_⟩
            have h_83 := hv4.mv ((c_69.app c_76).app c_80) (rngn50 (by simp <;> omega))
            exact ⟨spN N n [i0, i1, i2, i3, i4, i5, i6, i7], n, kk + 1, [i0, i1, i2, i3, i4, i5, i6, i7], [b0, b1, b2, b3, b4, b5, b6, b7, b8, b9, b10, b11, b12, b13, b14, b15, b16, b17, b18, b19, b20, b21, b22, b23, b24, b25, b26, b27, b28, b29, b30, b31], rfl, by omega, h_83, b_79, rfl, rfl, .inr ⟨by omega, hnG, hil, hbl, rfl⟩⟩
          ·
            intro _
            intros
            refine dInt_i ?_
            refine wr_t (by omega) ?_
            refine ⟨⟨s_73, rfl, _, _, rfl, (((((((Ch.refl [U, U + 20, U + 21, U + 22, U + 23, M + 9] s_42).ch c_50 (by simp)).ch c_56 (by simp)).ch c_59 (by simp)).ch c_66 (by simp)).ch c_69 (by simp)).ch c_76 (by simp)), ?_⟩, ?_⟩
            ·
              have h_84 := hv4.mv (c_69.app c_76) (rngn50 (by simp <;> omega))
              refine ⟨kk + 1, by omega, by omega, rfl, h_84, fun q hq => ?_⟩
              by_cases e : q = kk
              · subst e; rw [← hne, hil]; omega
              · exact hall q (by omega)
            ·
              simp only []; omega
        ·
          refine hK_40 _ _ ⟨(((Ch.refl [U, U + 20, U + 21, U + 22, U + 23, M + 3, M + 9] s158).ch c_45 (by simp)).ch c_50 (by simp)), ?_⟩
          have h_85 := zB.ch (c_45.app c_50) (by simp <;> omega)
          exact ⟨0, 0, kk, [0, 0, 0, 0, 0, 0, 0, 0], [0, 0, 0, 0, 0, 0, 0, 0, 0, 0, 0, 0, 0, 0, 0, 0, 0, 0, 0, 0, 0, 0, 0, 0, 0, 0, 0, 0, 0, 0, 0, 0], rfl, by omega, hv2, h_85, rfl, rfl, .inl ⟨rfl, by (obtain rfl : kk = G := by omega); exact hall⟩⟩
set_option maxRecDepth 100000 in
/-- bollard/alloc.Inode -/
theorem c_aInodeT (vp d U : Nat) (V : VolM) (G B N : Nat) (near : Nat) (A : Nat → List UInt8 × List UInt8) (s : TH) (hv : VolL s vp d U V 0) (hU : 10 ≤ U) (hg : GeoOk G B N) (hvn : V.n < 100000000) (hlp : V.P.last < 900000) (hA : AS G B V A) (hnr : near < G) : TRet Tryz.prog 40 #[.pointer (some ⟨vp, 0, none⟩), .agg #[.int .i64 (G : Int), .int .i64 (B : Int), .int .i64 (N : Int)], .int .i64 (near : Int), .bool true] s fun v s' => ∃ V' x y e, v = .tuple #[.int .i64 x, .int .i64 y, .int .i64 e] ∧ Ch [U, U + 3, U + 20, U + 21, U + 22, U + 23, U + 30, U + 32] s s' ∧ VolL s' vp d U V' 0 ∧ InoR G B N A V V' x e := by
  have hcan := hg.can
  have hg2 := hg
  unfold GeoOk at hg2
  have hgb := hg.gb
  have hpk := hv.pokk
  have hp0 := hpk.lst
  have hl := hA.len
  have hgbI : (G : Int) * (B : Int) = ((G * B : Nat) : Int) := (Int.natCast_mul G B).symm
  obtain ⟨M, hM, hM0, hMa, hMb, hMc, hMd, hMe, hMf⟩ := fresh6 s (U + 50) 0 0 0 0 0
  refine F40_calls _ _ _ _ _ _  ?_
  unfold F40
  refine al_t (M + 1) fun r1 s2 hr1 b_1 c_2 z_3 => ?_
  refine ld_t b_1 rfl ?_
  refine ld_t b_1 rfl ?_
  refine ld_t b_1 rfl ?_
  have h_4 := hv.mv c_2 (rngn50 (by simp))
  refine tcall (c_readyA vp d U V _ _ _ _ h_4 hU hcan (by rw [hl, hgbI]; omega)) ?_
  rintro v_6 s_5 ⟨rfl, c_8, call1a⟩
  have z_9 := c_8.size
  refine dInt_i ?_
  refine sB_f (by rfl) ?_
  refine jn_u ?_
  refine sB_d (fun hsB2 => by exfalso; omega) (fun hsB2 => ?_)
  have h_10 := b_1.ch c_8 (by simp <;> omega)
  refine ld_t h_10 rfl ?_
  refine dInt_i ?_
  intro _
  intros
  refine dBl_i ?_
  refine sB_d (fun hsB3 => by exfalso; omega) (fun hsB3 => ?_)
  refine ld_t h_10 rfl ?_
  refine dInt_i ?_
  refine ask_t (by omega) ?_
  refine al_t (M + 2) fun r22 s23 hr22 b_11 c_12 z_13 => ?_
  have zL : Blk s23 r22 (rowZ gvz G) 77 (M + 2) := b_11
  refine ⟨fun vs H' => ∃ s' : TH, s'.h = H' ∧ ∃ g, vs = [.int .i64 g] ∧ Ch [U, U + 20, U + 21, U + 22, U + 23, M + 2, M + 9] s23 s' ∧ (∃ (kq : Nat) (L : List Value), g = kq ∧ kq ≤ G ∧ VolL s' vp d U (V.tk kq) 0 ∧ Blk s' r22 L 77 (M + 2) ∧ L.length = G * 41 ∧ ∀ q, q < G → ∀ y, y < 41 → L[q * 41 + y]? = (gz A kq q)[y]?), fun vs H' => match vs with | [.int .i64 g] => ((G : Int) - g).toNat | _ => 0, ⟨s23, rfl, _, rfl, Ch.refl _ _, ?_⟩, ?_⟩
  ·
    have h_14 := call1a.mv c_12 (rngn50 (by simp))
    exact ⟨0, rowZ gvz G, rfl, by omega, by rw [show ((0 : Nat) : Int) = 0 from rfl, tk_zero]; exact h_14, zL, by rw [rowZ_length]; rfl, fun q hq y hy => by rw [rowZ_gvz G hq hy]; unfold gz; rw [if_neg (by omega)]⟩
  ·
    intro g _ _ _ _ _ _ _ _ _ _ _ _ _ _ _ _ _ _ _ _ _ _ _ _ _ _ H_ hI_16
    obtain ⟨s_15, rfl, g_, hvs, c_17, kq, L, rfl, hkq, hv3, hLb, hLl, hL⟩ := hI_16
    cases hvs
    have z_18 := c_17.size
    refine jn_u ?_
    refine sB_t (by rfl) ?_
    have h_19 := h_10.ch (c_12.app c_17) (by simp <;> omega)
    refine ld_t h_19 rfl ?_
    refine dInt_i ?_
    intro _
    intros
    refine dBl_i ?_
    refine sB_d (fun hsB5 => ?_) (fun hsB5 => ?_)
    ·
      refine ld_t h_19 rfl ?_
      refine ld_t h_19 rfl ?_
      refine ld_t h_19 rfl ?_
      have hqG : kq < G := by omega
      obtain ⟨i0, i1, i2, i3, i4, i5, i6, i7, hil⟩ := len8 (hA.l8 kq hqG)
      obtain ⟨b0, b1, b2, b3, b4, b5, b6, b7, b8, b9, b10, b11, b12, b13, b14, b15, b16, b17, b18, b19, b20, b21, b22, b23, b24, b25, b26, b27, b28, b29, b30, b31, hbl⟩ := len32 (hA.l32 kq hqG)
      have hnow : (V.tk kq).now (hB kq B) = hdL kq [i0, i1, i2, i3, i4, i5, i6, i7] [b0, b1, b2, b3, b4, b5, b6, b7, b8, b9, b10, b11, b12, b13, b14, b15, b16, b17, b18, b19, b20, b21, b22, b23, b24, b25, b26, b27, b28, b29, b30, b31] := by rw [← hil, ← hbl]; exact (hA.tk _).now kq hqG
      refine tcall (c_aheader vp d U (V.tk kq) G B N kq i0 i1 i2 i3 i4 i5 i6 i7 b0 b1 b2 b3 b4 b5 b6 b7 b8 b9 b10 b11 b12 b13 b14 b15 b16 b17 b18 b19 b20 b21 b22 b23 b24 b25 b26 b27 b28 b29 b30 b31 _ hv3 hU hg hl (by show V.n + _ < _; omega) hqG hnow) ?_
      rintro v_21 s_20 ⟨rfl, c_23, call2a⟩
      have z_24 := c_23.size
      have hv4 : VolL s_20 vp d U (V.tk ((kq + 1 : Nat) : Int)) 0 := by rw [show ((kq + 1 : Nat) : Int) = (kq : Int) + 1 by omega, ← tk_tick]; exact call2a
      refine dT2 ?_
      refine dA41 ?_
      refine dInt_i ?_
      refine ask_t (by omega) ?_
      have h_28 := hLb.ch c_23 (by simp <;> omega)
      refine stGe (kq : Int) (il := [i0, i1, i2, i3, i4, i5, i6, i7]) (bl := [b0, b1, b2, b3, b4, b5, b6, b7, b8, b9, b10, b11, b12, b13, b14, b15, b16, b17, b18, b19, b20, b21, b22, b23, b24, b25, b26, b27, b28, b29, b30, b31]) rfl rfl rfl h_28 (by have : (kq + 1) * 41 ≤ G * 41 := Nat.mul_le_mul_right 41 hqG; omega) fun s113 b_25 c_26o z_27 => ?_
      have c_26 := on_ch h_28 c_26o
      refine sB_f (by rfl) ?_
      refine wr_t (by omega) ?_
      refine ⟨⟨s113, rfl, _, rfl, ((((Ch.refl [U, U + 20, U + 21, U + 22, U + 23, M + 2, M + 9] s23).ch c_17 (by simp)).ch c_23 (by simp)).ch c_26 (by simp)), ?_⟩, ?_⟩
      ·
        have h_29 := hv4.mv c_26 (rngn50 (by simp <;> omega))
        exact ⟨kq + 1, (L.take (kq * 41) ++ gv (kq : Int) [i0, i1, i2, i3, i4, i5, i6, i7] [b0, b1, b2, b3, b4, b5, b6, b7, b8, b9, b10, b11, b12, b13, b14, b15, b16, b17, b18, b19, b20, b21, b22, b23, b24, b25, b26, b27, b28, b29, b30, b31] ++ L.drop (kq * 41 + 41)), by omega, by omega, h_29, b_25, by (have h1 : (kq + 1) * 41 ≤ G * 41 := Nat.mul_le_mul_right 41 hqG); rw [List.length_append, List.length_append, List.length_take, List.length_drop, gv_len rfl rfl]; omega, by have h := gz_put (A := A) hLl hqG (by rw [hil]; rfl) (by rw [hbl]; rfl) hL; rw [hil, hbl] at h; exact h⟩
      ·
        simp only []; omega
    ·
      refine al_t (M + 3) fun r157 s158 hr157 b_30 c_31 z_32 => ?_
      have zB : Blk s158 r157 (gv 0 [0, 0, 0, 0, 0, 0, 0, 0] [0, 0, 0, 0, 0, 0, 0, 0, 0, 0, 0, 0, 0, 0, 0, 0, 0, 0, 0, 0, 0, 0, 0, 0, 0, 0, 0, 0, 0, 0, 0, 0]) 77 (M + 3) := b_30
      have hkG : kq = G := by omega
      rw [hkG] at hL
      refine jn1 (fun fv s' => Ch [U, U + 20, U + 21, U + 22, U + 23, M + 3, M + 9] s158 s' ∧ (∃ (m : Int) (nb kt : Nat) (il bl : List UInt8), fv = .int .i64 m ∧ kt ≤ 16 ∧ VolL s' vp d U (V.tk kt) 0 ∧ Blk s' r157 (gv (nb : Int) il bl) 77 (M + 3) ∧ il.length = 8 ∧ bl.length = 32 ∧ ((m = 0 ∧ ∀ q, q < G → spN N ((near + q) % G) (A ((near + q) % G)).1 = 0) ∨ (0 < m ∧ nb < G ∧ (A nb).1 = il ∧ (A nb).2 = bl ∧ m = spN N nb il)))) ?_ ?_
      ·
        rintro fv s_33 ⟨c_34, m, nb, kt, il, bl, rfl, hkt, hv2, hbst, hl8, hl32, hdis⟩
        have z_35 := c_34.size
        obtain ⟨j0, j1, j2, j3, j4, j5, j6, j7, rfl⟩ := len8 hl8
        obtain ⟨c0, c1, c2, c3, c4, c5, c6, c7, c8, c9, c10, c11, c12, c13, c14, c15, c16, c17, c18, c19, c20, c21, c22, c23, c24, c25, c26, c27, c28, c29, c30, c31, rfl⟩ := len32 hl32
        intro _
        intros
        refine dInt_i ?_
        refine sB_d (fun hsB7 => ?_) (fun hsB7 => ?_)
        ·
          refine ret_t ?_
          exact ⟨_, _, _, _, rfl, (((((((Ch.refl [U, U + 3, U + 20, U + 21, U + 22, U + 23, U + 30, U + 32] s).ch c_2 (by simp)).ch c_8 (by simp)).ch c_12 (by simp)).fr c_17 hM (by simp)).ch c_31 (by simp)).fr c_34 hM (by simp)), hv2, ⟨.inl ⟨rfl, arnd_all (Q := fun n => spN N n (A n).1 = 0) hnr (hdis.resolve_right (fun h => by omega)).2, kt, hkt, rfl⟩⟩⟩
        ·
          have h_36 := h_19.ch (c_31.app c_34) (by simp <;> omega)
          refine ld_t h_36 rfl ?_
          refine ld_t h_36 rfl ?_
          refine ld_t h_36 rfl ?_
          refine ld41 hbst ?_
          obtain ⟨hm0, hnb, hjl, hcl, hms⟩ := hdis.resolve_left (fun h => by omega)
          refine tcall (c_spare (G : Int) (B : Int) N nb j0 j1 j2 j3 j4 j5 j6 j7 c0 c1 c2 c3 c4 c5 c6 c7 c8 c9 c10 c11 c12 c13 c14 c15 c16 c17 c18 c19 c20 c21 c22 c23 c24 c25 c26 c27 c28 c29 c30 c31 _ (by omega) (by omega)) ?_
          rintro v_38 s_37 ⟨icall3, rfl, c_40, call3a⟩
          have z_41 := c_40.size
          obtain ⟨hiN, hrow⟩ := call3a (by omega)
          have hnN : nb * N ≤ 8 * 64 := Nat.mul_le_mul (by omega) (by omega)
          have hqI : (nb : Int) * (N : Int) = ((nb * N : Nat) : Int) := (Int.natCast_mul nb N).symm
          refine dT2 ?_
          refine dInt_i ?_
          refine dInt_i ?_
          have h_42 := h_36.ch c_40 (by simp)
          refine ld_t h_42 rfl ?_
          refine ld_t h_42 rfl ?_
          refine ld_t h_42 rfl ?_
          have h_43 := hbst.ch c_40 (by simp)
          refine ld41 h_43 ?_
          have h_44 := hv2.mv c_40 (rngn50 (by simp))
          refine tcall (c_turnI vp d U (V.tk kt) G B N nb icall3 true j0 j1 j2 j3 j4 j5 j6 j7 c0 c1 c2 c3 c4 c5 c6 c7 c8 c9 c10 c11 c12 c13 c14 c15 c16 c17 c18 c19 c20 c21 c22 c23 c24 c25 c26 c27 c28 c29 c30 c31 _ h_44 hU hg (by show V.n + _ < _; omega) hlp hl hnb (by omega)) ?_
          rintro v_46 s_45 ⟨Vcall4, rfl, c_48, call4a, call4b⟩
          have z_49 := c_48.size
          refine dT2 ?_
          refine dInt_i ?_
          refine dInt_i ?_
          refine sB_f (by rfl) ?_
          have h_50 := h_43.ch c_48 (by simp <;> omega)
          refine ld_t h_50 rfl ?_
          refine dInt_i ?_
          have h_51 := h_42.ch c_48 (by simp <;> omega)
          refine ld_t h_51 rfl ?_
          refine dInt_i ?_
          refine wr_t (by omega) ?_
          refine wr_t (by omega) ?_
          refine ret_t ?_
          exact ⟨_, _, _, _, rfl, (((((((((Ch.refl [U, U + 3, U + 20, U + 21, U + 22, U + 23, U + 30, U + 32] s).ch c_2 (by simp)).ch c_8 (by simp)).ch c_12 (by simp)).fr c_17 hM (by simp)).ch c_31 (by simp)).fr c_34 hM (by simp)).ch c_40 (by simp)).ch c_48 (by simp)), call4b, ⟨.inr ⟨rfl, nb, icall3, kt, hnb, hiN, by rw [hjl]; exact hrow, rfl, hkt, by rw [hjl]; exact call4a⟩⟩⟩
      ·
        intro K_52 hK_52
        have h_53 := h_19.ch c_31 (by simp)
        refine ld_t h_53 rfl ?_
        refine ld_t h_53 rfl ?_
        refine ld_t h_53 rfl ?_
        refine tcall (c_around (M + 10) G near (B : Int) (N : Int) _ (by omega) hnr) ?_
        rintro v_55 s_54 ⟨acall5, cccall5, rfl, c_57, call5a⟩
        have z_58 := c_57.size
        refine dSl_i ?_
        refine ⟨fun vs H' => ∃ s' : TH, s'.h = H' ∧ ∃ m i, vs = [.int .i64 m, .int .i64 i] ∧ Ch [M + 3, M + 9] s_54 s' ∧ (∃ (kk nb : Nat) (il bl : List UInt8), i = kk ∧ kk ≤ G ∧ Blk s' r157 (gv (nb : Int) il bl) 77 (M + 3) ∧ il.length = 8 ∧ bl.length = 32 ∧ ((m = 0 ∧ ∀ q, q < kk → spN N ((near + q) % G) (A ((near + q) % G)).1 = 0) ∨ (0 < m ∧ nb < G ∧ (A nb).1 = il ∧ (A nb).2 = bl ∧ m = spN N nb il))), fun vs H' => match vs with | [.int .i64 m, .int .i64 i] => ((G : Int) - i).toNat | _ => 0, ⟨s_54, rfl, _, _, rfl, Ch.refl _ _, ?_⟩, ?_⟩
        ·
          have h_59 := zB.ch c_57 (by simp)
          exact ⟨0, 0, [0, 0, 0, 0, 0, 0, 0, 0], [0, 0, 0, 0, 0, 0, 0, 0, 0, 0, 0, 0, 0, 0, 0, 0, 0, 0, 0, 0, 0, 0, 0, 0, 0, 0, 0, 0, 0, 0, 0, 0], rfl, by omega, h_59, rfl, rfl, .inl ⟨rfl, fun q h => by omega⟩⟩
        ·
          intro m i _ _ _ _ _ _ _ _ _ _ _ _ _ _ _ _ _ _ _ _ _ _ _ _ _ _ _ _ _ _ _ _ _ _ _ _ _ _ _ _ _ H_ hI_61
          obtain ⟨s_60, rfl, m_, i_, hvs, c_62, kk, nb, il, bl, rfl, hk, hbst, hl8, hl32, hdis⟩ := hI_61
          cases hvs
          have z_63 := c_62.size
          obtain ⟨j0, j1, j2, j3, j4, j5, j6, j7, rfl⟩ := len8 hl8
          obtain ⟨c0, c1, c2, c3, c4, c5, c6, c7, c8, c9, c10, c11, c12, c13, c14, c15, c16, c17, c18, c19, c20, c21, c22, c23, c24, c25, c26, c27, c28, c29, c30, c31, rfl⟩ := len32 hl32
          refine sB_d (fun hsB9 => ?_) (fun hsB9 => ?_)
          ·
            refine jn_u ?_
            have h_64 := call5a.mv c_62 (tagn (by simp))
            obtain ⟨a_65, rfl⟩ := h_64.ne_none (by omega)
            refine nz_i ?_
            refine ask_t (by omega) ?_
            obtain ⟨n, hne⟩ : ∃ n, n = (near + kk) % G := ⟨_, rfl⟩
            have hnG : n < G := by rw [hne]; exact Nat.mod_lt _ (by omega)
            refine ld_sl (v := .int .i64 (n : Int)) (h_64).sl (by rw [Int.toNat_natCast, Nat.mul_one, hne]; exact ivs_get (arnd_get _ (by omega))) ?_
            refine dInt_i ?_
            refine ask_t (by omega) ?_
            have h_66 := hLb.ch ((c_31.app c_57).app c_62) (by simp)
            obtain ⟨i0, i1, i2, i3, i4, i5, i6, i7, hil⟩ := len8 (hA.l8 n hnG)
            obtain ⟨b0, b1, b2, b3, b4, b5, b6, b7, b8, b9, b10, b11, b12, b13, b14, b15, b16, b17, b18, b19, b20, b21, b22, b23, b24, b25, b26, b27, b28, b29, b30, b31, hbl⟩ := len32 (hA.l32 n hnG)
            refine ld41e (j := n) h_66 (show ∀ y, y < 41 → L[n * 41 + y]? = (gv (n : Int) [i0, i1, i2, i3, i4, i5, i6, i7] [b0, b1, b2, b3, b4, b5, b6, b7, b8, b9, b10, b11, b12, b13, b14, b15, b16, b17, b18, b19, b20, b21, b22, b23, b24, b25, b26, b27, b28, b29, b30, b31])[y]? from fun y hy => by have h := hL n hnG y hy; unfold gz at h; rw [if_pos hnG, hil, hbl] at h; exact h) ?_
            refine al_t (M + 9) fun r462 s463 hr462 b_67 c_68 z_69 => ?_
            refine stG (n : Int) (il := [i0, i1, i2, i3, i4, i5, i6, i7]) (bl := [b0, b1, b2, b3, b4, b5, b6, b7, b8, b9, b10, b11, b12, b13, b14, b15, b16, b17, b18, b19, b20, b21, b22, b23, b24, b25, b26, b27, b28, b29, b30, b31]) rfl rfl rfl b_67 (by rfl) fun s464 b_70 c_71o z_72 => ?_
            have c_71 := on_ch b_67 c_71o
            refine jn_u ?_
            refine sB_f (by rfl) ?_
            intro _
            intros
            have h_73 := h_53.ch (((c_57.app c_62).app c_68).app c_71) (by simp)
            refine ld_t h_73 rfl ?_
            refine ld_t h_73 rfl ?_
            refine ld_t h_73 rfl ?_
            refine ld41 b_70 ?_
            refine tcall (c_spare (G : Int) (B : Int) N n i0 i1 i2 i3 i4 i5 i6 i7 b0 b1 b2 b3 b4 b5 b6 b7 b8 b9 b10 b11 b12 b13 b14 b15 b16 b17 b18 b19 b20 b21 b22 b23 b24 b25 b26 b27 b28 b29 b30 b31 _ (by omega) (by omega)) ?_
            rintro v_75 s_74 ⟨icall6, rfl, c_77, call6a⟩
            have z_78 := c_77.size
            have hs2 := spN_rng N n [i0, i1, i2, i3, i4, i5, i6, i7]
            refine dT2 ?_
            refine dInt_i ?_
            refine dInt_i ?_
            refine sB_d (fun hsB11 => ?_) (fun hsB11 => ?_)
            ·
              have h_79 := b_70.ch c_77 (by simp)
              refine ld41 h_79 ?_
              have h_83 := hbst.ch ((c_68.app c_71).app c_77) (by simp)
              refine stG (n : Int) (il := [i0, i1, i2, i3, i4, i5, i6, i7]) (bl := [b0, b1, b2, b3, b4, b5, b6, b7, b8, b9, b10, b11, b12, b13, b14, b15, b16, b17, b18, b19, b20, b21, b22, b23, b24, b25, b26, b27, b28, b29, b30, b31]) rfl rfl rfl h_83 (by rfl) fun s613 b_80 c_81o z_82 => ?_
              have c_81 := on_ch h_83 c_81o
              refine sB_f (by rfl) ?_
              intro _
              intros
              refine dInt_i ?_
              refine wr_t (by omega) ?_
              refine ⟨⟨s613, rfl, _, _, rfl, ((((((Ch.refl [M + 3, M + 9] s_54).ch c_62 (by simp)).ch c_68 (by simp)).ch c_71 (by simp)).ch c_77 (by simp)).ch c_81 (by simp)), ?_⟩, ?_⟩
              ·
                exact ⟨kk + 1, n, [i0, i1, i2, i3, i4, i5, i6, i7], [b0, b1, b2, b3, b4, b5, b6, b7, b8, b9, b10, b11, b12, b13, b14, b15, b16, b17, b18, b19, b20, b21, b22, b23, b24, b25, b26, b27, b28, b29, b30, b31], by omega, by omega, b_80, rfl, rfl, .inr ⟨by (rcases hdis with ⟨h, _⟩ | ⟨h, _⟩ <;> omega), hnG, hil, hbl, rfl⟩⟩
              ·
                simp only []; omega
            ·
              intro _
              intros
              refine dInt_i ?_
              refine wr_t (by omega) ?_
              refine ⟨⟨s_74, rfl, _, _, rfl, (((((Ch.refl [M + 3, M + 9] s_54).ch c_62 (by simp)).ch c_68 (by simp)).ch c_71 (by simp)).ch c_77 (by simp)), ?_⟩, ?_⟩
              ·
                have h_84 := hbst.ch ((c_68.app c_71).app c_77) (by simp)
                refine ⟨kk + 1, nb, [j0, j1, j2, j3, j4, j5, j6, j7], [c0, c1, c2, c3, c4, c5, c6, c7, c8, c9, c10, c11, c12, c13, c14, c15, c16, c17, c18, c19, c20, c21, c22, c23, c24, c25, c26, c27, c28, c29, c30, c31], by omega, by omega, h_84, rfl, rfl, ?_⟩
                rcases hdis with ⟨h0, h1⟩ | h
                · refine .inl ⟨h0, fun q hq => ?_⟩
                  by_cases e : q = kk
                  · subst e; rw [← hne, hil]; omega
                  · exact h1 q (by omega)
                · exact .inr h
              ·
                simp only []; omega
          ·
            refine hK_52 _ _ ⟨(((Ch.refl [U, U + 20, U + 21, U + 22, U + 23, M + 3, M + 9] s158).ch c_57 (by simp)).ch c_62 (by simp)), ?_⟩
            have h_85 := hv3.mv ((c_31.app c_57).app c_62) (rngn50 (by simp <;> omega))
            exact ⟨m, nb, kq, [j0, j1, j2, j3, j4, j5, j6, j7], [c0, c1, c2, c3, c4, c5, c6, c7, c8, c9, c10, c11, c12, c13, c14, c15, c16, c17, c18, c19, c20, c21, c22, c23, c24, c25, c26, c27, c28, c29, c30, c31], rfl, by omega, h_85, hbst, rfl, rfl, by (have e : kk = G := by omega); rw [e] at hdis; exact hdis⟩
theorem c_aino (vp d U : Nat) (V : VolM) (G B N : Nat) (near : Nat) (dir : Bool) (A : Nat → List UInt8 × List UInt8) (s : TH) (hv : VolL s vp d U V 0) (hU : 10 ≤ U) (hg : GeoOk G B N) (hvn : V.n < 100000000) (hlp : V.P.last < 900000) (hA : AS G B V A) (hnr : near < G) :
    TRet Tryz.prog 40 #[.pointer (some ⟨vp, 0, none⟩), .agg #[.int .i64 (G : Int), .int .i64 (B : Int), .int .i64 (N : Int)], .int .i64 (near : Int), .bool dir] s fun v s' => ∃ V' x y e, v = .tuple #[.int .i64 x, .int .i64 y, .int .i64 e] ∧ Ch [U, U + 3, U + 20, U + 21, U + 22, U + 23, U + 30, U + 32] s s' ∧ VolL s' vp d U V' 0 ∧
    ((e = 5 ∧ (∀ n, n < G → spN N n (A n).1 = 0) ∧ ∃ k : Nat, k ≤ 16 ∧ V' = V.tk k) ∨
    (e = 0 ∧ ∃ n i k : Nat, n < G ∧ i < N ∧ hasB (rowI n (A n).1) i = false ∧ x = (n : Int) * (N : Int) + (i : Int) ∧ k ≤ 16 ∧ ChT (V.tk k) (hB n B) (4 + ((i / 8 : Nat) : Int)) [setTo ((A n).1.getD (i / 8) 0) (i % 8) true] V')) := by
  cases dir
  · exact (c_aInodeF vp d U V G B N near A s hv hU hg hvn hlp hA hnr).mono fun v s' h => by
      obtain ⟨V', x, y, e, h1, h2, h3, h4⟩ := h
      exact ⟨V', x, y, e, h1, h2, h3, h4.or_⟩
  · exact (c_aInodeT vp d U V G B N near A s hv hU hg hvn hlp hA hnr).mono fun v s' h => by
      obtain ⟨V', x, y, e, h1, h2, h3, h4⟩ := h
      exact ⟨V', x, y, e, h1, h2, h3, h4.or_⟩
theorem updI_same {A : Nat → List UInt8 × List UInt8} {n : Nat} {l : List UInt8} : updI A n l n = (l, (A n).2) := by unfold updI; rw [if_pos rfl]
theorem updI_ne {A : Nat → List UInt8 × List UInt8} {n m : Nat} {l : List UInt8} (h : m ≠ n) : updI A n l m = A m := by unfold updI; rw [if_neg h]
theorem roomI_up0 {N n : Nat} {A : Nat → List UInt8 × List UInt8} {l : List UInt8} : ∀ k, k ≤ n → roomI N (updI A n l) k = roomI N A k
  | 0, _ => rfl
  | k + 1, h => by rw [roomI, roomI, roomI_up0 k (by omega), updI_ne (by omega)]
theorem roomI_updI {N n : Nat} {A : Nat → List UInt8 × List UInt8} {l : List UInt8} {d : Int} (h : spN N n l = spN N n (A n).1 - d) : ∀ k, n < k → roomI N (updI A n l) k = roomI N A k - d
  | 0, hk => by omega
  | k + 1, hk => by
    rw [roomI, roomI]
    by_cases e : k = n
    · subst e; rw [updI_same, roomI_up0 k (Nat.le_refl _), h]; omega
    · rw [updI_ne e, roomI_updI h k (by omega)]; omega
theorem roomI_zero {N : Nat} {A : Nat → List UInt8 × List UInt8} : ∀ k, (∀ n, n < k → spN N n (A n).1 = 0) → roomI N A k = 0
  | 0, _ => rfl
  | k + 1, hf => by rw [roomI, roomI_zero k (fun n hn => hf n (by omega)), hf k (by omega)]; rfl
theorem cntB_from {l : List UInt8} {a : Nat} : ∀ d, (∀ j, a ≤ j → j < a + d → hasB l j = false) → cntB l (a + d) = cntB l a
  | 0, _ => rfl
  | d + 1, h => by rw [← Nat.add_assoc, cntB, cntB_from d (fun j h1 h2 => h j h1 (by omega)), h (a + d) (by omega) (by omega)]; simp
theorem iL_len (n : Nat) : (iL n).length = 8 := by unfold iL; split <;> rfl
theorem has_z8 (j : Nat) : hasB [0, 0, 0, 0, 0, 0, 0, 0] j = false := by
  rw [hasB_tb, List.getD_eq_getElem?_getD]
  by_cases e : j / 8 < 8
  · rcases (by omega : j / 8 = 0 ∨ j / 8 = 1 ∨ j / 8 = 2 ∨ j / 8 = 3 ∨ j / 8 = 4 ∨ j / 8 = 5 ∨ j / 8 = 6 ∨ j / 8 = 7) with h | h | h | h | h | h | h | h <;> rw [h] <;> simp
  · rw [List.getElem?_eq_none (by simp; omega)]; simp
theorem has_i0 {j : Nat} (hj : j < 64) : hasB [7, 0, 0, 0, 0, 0, 0, 0] j = decide (j < 3) := by
  revert j
  decide
theorem rowI0 {j : Nat} (hj : j < 64) : hasB (rowI 0 (iL 0)) j = decide (j < 3) := by
  rw [rowI_has (iL_len 0)]
  by_cases e : j < 2
  · rw [if_pos ⟨rfl, e⟩, decide_eq_true (by omega)]
  · rw [if_neg (fun h => e h.2)]; exact has_i0 hj
theorem rowI1 {n j : Nat} (hn : n ≠ 0) : hasB (rowI n (iL n)) j = false := by
  rw [rowI_has (iL_len n), if_neg (fun h => hn h.1)]
  unfold iL
  rw [if_neg hn]; exact has_z8 j
theorem roomI_0 {N : Nat} (h4 : 4 ≤ N) (h64 : N ≤ 64) : ∀ k, roomI N (A0 N) (k + 1) = ((k + 1 : Nat) : Int) * (N : Int) - 3
  | 0 => by
    obtain ⟨d, rfl⟩ : ∃ d, N = 3 + d := ⟨N - 3, by omega⟩
    have h1 : cntB (rowI 0 (iL 0)) (3 + d) = 3 := by
      rw [cntB_from d (fun j h1 h2 => by rw [rowI0 (by omega)]; simp; omega), cntB_all (fun j hj => by rw [rowI0 (by omega)]; simp; omega)]
    show 0 + spN (3 + d) 0 (iL 0) = _
    unfold spN
    rw [h1]; omega
  | k + 1 => by
    have h1 : cntB (rowI (k + 1) (iL (k + 1))) N = 0 := by
      have := cntB_from (l := rowI (k + 1) (iL (k + 1))) (a := 0) N (fun j _ _ => rowI1 (by omega))
      rw [Nat.zero_add] at this; exact this
    have h3 : ((k + 1 + 1 : Nat) : Int) * (N : Int) = ((k + 1 : Nat) : Int) * (N : Int) + N := by rw [Int.natCast_add (k + 1) 1, Int.add_mul, Int.natCast_one, Int.one_mul]
    rw [roomI, roomI_0 h4 h64 k, h3]
    show _ + spN N (k + 1) (iL (k + 1)) = _
    unfold spN
    rw [h1]; omega
theorem mset_len {k : Int} {x : Value} : ∀ {m : List (Int × Value)}, mget k m = none → (mset k x m).length = m.length + 1
  | [], _ => rfl
  | (k', v) :: r, h => by
    unfold mget at h
    unfold mset
    by_cases e : k = k'
    · rw [if_pos e] at h; cases h
    · rw [if_neg e] at h; rw [if_neg e, List.length_cons, mset_len h]; rfl
/-- the inodes that were met -/
structure MtI (G N : Nat) (A : Nat → List UInt8 × List UInt8) (mk : List (Int × Value)) (kk : Nat) : Prop where
  at_ : ∀ b v, mget b mk = some v → ∃ n i : Nat, n < G ∧ i < N ∧ b = ((n * N + i : Nat) : Int) ∧ hasB (rowI n (A n).1) i = true
  len : mk.length = kk + 3
  room : roomI N A G = (G : Int) * (N : Int) - ((kk : Int) + 3)
theorem MtI.new {G N n i kk : Nat} {A : Nat → List UInt8 × List UInt8} {mk : List (Int × Value)} (h : MtI G N A mk kk) (hi : i < N) (hb : hasB (rowI n (A n).1) i = false) : mget ((n * N + i : Nat) : Int) mk = none := by
  cases e : mget ((n * N + i : Nat) : Int) mk with
  | none => rfl
  | some v =>
    obtain ⟨m, j, h1, h3, h4, h5⟩ := h.at_ _ _ e
    obtain ⟨rfl, rfl⟩ := blk_inj hi h3 h4
    rw [hb] at h5; cases h5
theorem MtI.put {G N n i kk : Nat} {A : Nat → List UInt8 × List UInt8} {mk : List (Int × Value)} (h : MtI G N A mk kk) (h8 : (A n).1.length = 8) (hN : N ≤ 64) (hn : n < G) (hi : i < N) (hb : hasB (rowI n (A n).1) i = false) : MtI G N (updI A n (withB (A n).1 i true)) (mset ((n * N + i : Nat) : Int) (.bool true) mk) (kk + 1) := by
  refine ⟨fun b v hv => ?_, by have := mset_len (x := .bool true) (h.new hi hb); have := h.len; omega, by rw [roomI_updI (spN_with h8 hN hi hb) G hn, h.room]; omega⟩
  rw [mget_mset] at hv
  by_cases e : b = ((n * N + i : Nat) : Int)
  · exact ⟨n, i, hn, hi, e, by rw [updI_same]; show hasB (rowI n (withB (A n).1 i true)) i = true; rw [rowI_with h8 (by omega), if_pos rfl]⟩
  · rw [if_neg e] at hv
    obtain ⟨m, j, h1, h3, h4, h5⟩ := h.at_ _ _ hv
    refine ⟨m, j, h1, h3, h4, ?_⟩
    by_cases e2 : m = n
    · subst e2
      rw [updI_same]
      show hasB (rowI m (withB (A m).1 i true)) j = true
      rw [rowI_with h8 (by omega)]
      split
      · rfl
      · exact h5
    · rw [updI_ne e2]; exact h5
theorem MtI.start {G B N : Nat} (hg : GeoOk G B N) : MtI G N (A0 N) (mset 2 (.bool true) (mset 1 (.bool true) (mset 0 (.bool true) []))) 0 := by
  unfold GeoOk at hg
  refine ⟨fun b v hv => ?_, rfl, ?_⟩
  · rw [mget_mset, mget_mset, mget_mset] at hv
    have hx : ∃ i : Nat, i < 3 ∧ b = (i : Int) := by
      by_cases e2 : b = 2
      · exact ⟨2, by omega, e2⟩
      · rw [if_neg e2] at hv
        by_cases e1 : b = 1
        · exact ⟨1, by omega, e1⟩
        · rw [if_neg e1] at hv
          by_cases e0 : b = 0
          · exact ⟨0, by omega, e0⟩
          · rw [if_neg e0] at hv; cases hv
    obtain ⟨i, hi, rfl⟩ := hx
    exact ⟨0, i, by omega, by omega, by rw [Nat.zero_mul, Nat.zero_add], by show hasB (rowI 0 (iL 0)) i = true; rw [rowI0 (by omega)]; simp; omega⟩
  · obtain ⟨k, rfl⟩ : ∃ k, G = k + 1 := ⟨G - 1, by omega⟩
    rw [roomI_0 (by omega) (by omega)]; rfl
/-- bollard/bollardlaw11.AllocInodes -/
theorem w_ainodes (U : Nat) (a b c x1 : Int) (x2 : Bool) (s : TH) (hU : 10 ≤ U) : TRet Tryz.prog 7 #[.agg #[.int .i64 a, .int .i64 b, .int .i64 c], .int .i64 x1, .bool x2] s fun v s' => v = .bool true ∧ Ch [U, U + 3, U + 11, U + 20, U + 21, U + 22, U + 23, U + 30, U + 32] s s' := by
  obtain ⟨M, hM, hM0, hMa, hMb, hMc, hMd, hMe, hMf⟩ := fresh6 s (U + 60) 0 0 0 0 0
  refine F7_calls _ _ _ _ _  ?_
  unfold F7
  refine al_t (M + 1) fun r1 s2 hr1 b_1 c_2 z_3 => ?_
  refine ld_t b_1 rfl ?_
  refine ld_t b_1 rfl ?_
  refine ld_t b_1 rfl ?_
  refine tcall (c_fresh U (M + 10) a b c _ hU (by omega)) ?_
  rintro v_5 s_4 ⟨pcall1, vpcall1, dcall1, xcall1, ycall1, Gcall1, Bcall1, Ncall1, rfl, c_7, call1a, call1b, call1c, call1d⟩
  have z_8 := c_7.size
  have hg := call1a
  have hg2 := hg
  unfold GeoOk at hg2
  have hgb := hg.gb
  have hA0 := AS.start hg
  have hM0_ := MtI.start hg
  have hGN : Gcall1 * Ncall1 ≤ 8 * 64 := Nat.mul_le_mul (by omega) (by omega)
  have hGI : (Gcall1 : Int) * (Ncall1 : Int) = ((Gcall1 * Ncall1 : Nat) : Int) := (Int.natCast_mul _ _).symm
  refine dT3 ?_
  refine dPtr_i ?_
  refine dA3 ?_
  refine dBl_i ?_
  have h_12 := b_1.ch c_7 (by simp <;> omega)
  refine st_t h_12 rfl (by simp) fun s16 b_9 c_10o z_11 => ?_
  have c_10 := on_ch h_12 c_10o
  refine st_t b_9 rfl (by simp) fun s17 b_13 c_14o z_15 => ?_
  have c_14 := on_ch b_9 c_14o
  refine st_t b_13 rfl (by simp) fun s18 b_16 c_17o z_18 => ?_
  have c_17 := on_ch b_13 c_17o
  refine sB_f (by rfl) ?_
  refine wr_a fun n19 hn19 => ?_
  rw [wrap_u64] at hn19
  refine ld_t b_16 rfl ?_
  refine dInt_i ?_
  refine wr_a fun n22 hn22 => ?_
  rw [wrap_u64] at hn22
  refine ask_t (by omega) ?_
  refine nm_a fun n23 hn23 => ?_
  have qn23 := tmod_rng (by omega) (by omega) hn23
  obtain ⟨n, hnn⟩ : ∃ n : Nat, n23 = (n : Int) := ⟨n23.toNat, by omega⟩
  have hnG : n < Gcall1 := by omega
  rw [hnn]
  refine wr_t (by omega) ?_
  refine alm_t (Value.int .i64) (M + 2) fun r25 s26 hr25 b_19 c_20 z_21 => ?_
  refine upd_t keyI u99 b_19 0 (Value.bool true) fun s_22 m_23 c_24o z_25 => ?_
  have c_24 : Ch [M + 2] s26 s_22 := Chg.mono c_24o fun j _ e => by subst e; rw [b_19.tag]; simp
  refine upd_t keyI u99 m_23 1 (Value.bool true) fun s_26 m_27 c_28o z_29 => ?_
  have c_28 : Ch [M + 2] s_22 s_26 := Chg.mono c_28o fun j _ e => by subst e; rw [m_23.tag]; simp
  refine upd_t keyI u99 m_27 2 (Value.bool true) fun s_30 m_31 c_32o z_33 => ?_
  have c_32 : Ch [M + 2] s_26 s_30 := Chg.mono c_32o fun j _ e => by subst e; rw [m_27.tag]; simp
  have h_34 := b_16.ch (((c_20.app c_24).app c_28).app c_32) (by simp)
  refine ld_t h_34 rfl ?_
  refine dInt_i ?_
  refine ld_t h_34 rfl ?_
  refine dInt_i ?_
  refine wr_t (by omega) ?_
  refine ⟨fun vs H' => ∃ s' : TH, s'.h = H' ∧ ∃ i0_, vs = [.int .i64 i0_] ∧ Ch [U, U + 3, U + 20, U + 21, U + 22, U + 23, U + 30, U + 32, M + 2, M + 9] s_30 s' ∧ (∃ (kk : Nat) (V : VolM) (A : Nat → List UInt8 × List UInt8) (mk : List (Int × Value)), i0_ = kk ∧ kk ≤ Gcall1 * Ncall1 ∧ VolL s' vpcall1 dcall1 U V 0 ∧ AS Gcall1 Bcall1 V A ∧ V.P.last ≤ kk ∧ V.n ≤ kk * 10000 ∧ MtI Gcall1 Ncall1 A mk kk ∧ MapK (Value.int .i64) s' r25 mk (M + 2)), fun vs H' => match vs with | [.int .i64 i0_] => (((Gcall1 * Ncall1 : Nat) : Int) - i0_).toNat | _ => 0, ⟨s_30, rfl, _, rfl, Ch.refl _ _, ?_⟩, ?_⟩
  ·
    have h_35 := call1d.mv ((((((c_10.app c_14).app c_17).app c_20).app c_24).app c_28).app c_32) (rngn50 (by simp <;> omega))
    exact ⟨0, _, _, _, rfl, by omega, h_35, hA0, by show (0 : Int) ≤ _; omega, by show (0 : Int) ≤ _; omega, hM0_, m_31⟩
  ·
    intro i0_ _ _ _ _ _ _ _ _ _ _ _ _ _ _ _ _ _ _ _ _ _ _ _ _ _ _ _ _ _ _ _ _ _ _ _ _ _ _ _ _ _ _ _ _ _ _ _ _ _ _ _ _ _ _ _ H_ hI_37
    obtain ⟨s_36, rfl, i0__, hvs, c_38, kk, V, A, mk, rfl, hk, hv, hA, hlp, hvn, hG, hm⟩ := hI_37
    cases hvs
    have z_39 := c_38.size
    have hl := hA.len
    have hrm := hG.room
    have hr0 := (roomI_rng Ncall1 A Gcall1).1
    have hln := hG.len
    refine sB_d (fun hsB2 => ?_) (fun hsB2 => by exfalso; omega)
    refine nz_i ?_
    have h_40 := call1c.ch (((((((c_10.app c_14).app c_17).app c_20).app c_24).app c_28).app c_32).app c_38) (by simp <;> omega)
    refine ld_t h_40 rfl ?_
    refine dPtr_i ?_
    have h_41 := h_34.ch c_38 (by simp <;> omega)
    refine ld_t h_41 rfl ?_
    refine ld_t h_41 rfl ?_
    refine ld_t h_41 rfl ?_
    refine tcall (c_room vpcall1 dcall1 U V Gcall1 Bcall1 Ncall1 A _ hv hU hg (by omega) (by omega) hA) ?_
    rintro v_43 s_42 ⟨rfl, c_45, call2a⟩
    have z_46 := c_45.size
    refine dT3 ?_
    refine dInt_i ?_
    refine dInt_i ?_
    refine dInt_i ?_
    refine sB_f (by rfl) ?_
    refine nz_i ?_
    have h_47 := h_40.ch c_45 (by simp <;> omega)
    refine ld_t h_47 rfl ?_
    refine dPtr_i ?_
    have h_48 := h_41.ch c_45 (by simp <;> omega)
    refine ld_t h_48 rfl ?_
    refine ld_t h_48 rfl ?_
    refine ld_t h_48 rfl ?_
    refine tcall (c_aino vpcall1 dcall1 U (V.tk Gcall1) Gcall1 Bcall1 Ncall1 n x2 A _ call2a hU hg (by show V.n + _ < _; omega) (by show V.P.last < _; omega) (hA.tk _) hnG) ?_
    rintro v_50 s_49 ⟨Vcall3, xcall3, ycall3, ecall3, rfl, c_52, call3a, call3b⟩
    have z_53 := c_52.size
    rcases call3b with ⟨rfl, hzz, kz, hkz, hVz⟩ | ⟨rfl, n2, i2, kt, hn2, hi2, hb2, hx2, hkt, hch⟩
    ·
      try (have hz0 : roomI Ncall1 A Gcall1 = 0 := roomI_zero _ hzz)
      try (rw [← Int.natCast_mul, ← Int.natCast_add] at hx2)
      try subst hx2
      try (rw [tk_tk] at hch)
      try (have h8 := hA.l8 n2 hn2)
      try (have hA3 : AS Gcall1 Bcall1 Vcall3 (updI A n2 (withB (A n2).1 i2 true)) := (hA.tk _).upI (by omega) hn2 (by omega) hch)
      try (have hnV := hch.n)
      try (have hnV1 := ticks_le (V.tk ((Gcall1 : Int) + (kt : Int))) (hB n2 Bcall1))
      try (rw [tk_n] at hnV1)
      try (have hlaV := hch.last)
      try (rw [tk_last] at hlaV)
      refine dT3 ?_
      refine dInt_i ?_
      refine dInt_i ?_
      refine dInt_i ?_
      refine sB_t (by rfl) ?_
      refine sB_d (fun hsB5 => ?_) (fun hsB5 => by exfalso; omega)
      have h_54 := hm.ch (c_45.app c_52) (by simp <;> omega)
      refine mlen_t u99 h_54 ?_
      refine dInt_i ?_
      have h_59 := h_48.ch c_52 (by simp <;> omega)
      refine ld_t h_59 rfl ?_
      refine dInt_i ?_
      refine ld_t h_59 rfl ?_
      refine dInt_i ?_
      refine wr_t (by omega) ?_
      refine ret_t ?_
      exact ⟨ret_b (by simp; omega), (((((((((((((Ch.refl [U, U + 3, U + 11, U + 20, U + 21, U + 22, U + 23, U + 30, U + 32] s).ch c_2 (by simp)).ch c_7 (by simp)).fr c_10 hM (by simp)).fr c_14 hM (by simp)).fr c_17 hM (by simp)).ch c_20 (by simp)).fr c_24 hM (by simp)).fr c_28 hM (by simp)).fr c_32 hM (by simp)).fr c_38 hM (by simp)).ch c_45 (by simp)).ch c_52 (by simp))⟩
    ·
      try (have hz0 : roomI Ncall1 A Gcall1 = 0 := roomI_zero _ hzz)
      try (rw [← Int.natCast_mul, ← Int.natCast_add] at hx2)
      try subst hx2
      try (rw [tk_tk] at hch)
      try (have h8 := hA.l8 n2 hn2)
      try (have hA3 : AS Gcall1 Bcall1 Vcall3 (updI A n2 (withB (A n2).1 i2 true)) := (hA.tk _).upI (by omega) hn2 (by omega) hch)
      try (have hnV := hch.n)
      try (have hnV1 := ticks_le (V.tk ((Gcall1 : Int) + (kt : Int))) (hB n2 Bcall1))
      try (rw [tk_n] at hnV1)
      try (have hlaV := hch.last)
      try (rw [tk_last] at hlaV)
      refine dT3 ?_
      refine dInt_i ?_
      refine dInt_i ?_
      refine dInt_i ?_
      refine sB_f (by rfl) ?_
      refine jn_u ?_
      refine sB_f (by rfl) ?_
      have h_60 := hm.ch (c_45.app c_52) (by simp <;> omega)
      refine look_n keyI u99 z4 h_60 _ (hG.new hi2 hb2) ?_
      refine dBl_i ?_
      intro _
      intros
      refine dBl_i ?_
      refine sB_f (by rfl) ?_
      have h_61 := hm.ch (c_45.app c_52) (by simp <;> omega)
      refine upd_t keyI u99 h_61 (↑(n2 * Ncall1 + i2) : Int) (Value.bool true) fun s_62 m_63 c_64o z_65 => ?_
      have c_64 : Ch [M + 2] s_49 s_62 := Chg.mono c_64o fun j _ e => by subst e; rw [h_61.tag]; simp
      refine wr_t (by omega) ?_
      refine ⟨⟨s_62, rfl, _, rfl, (((((Ch.refl [U, U + 3, U + 20, U + 21, U + 22, U + 23, U + 30, U + 32, M + 2, M + 9] s_30).ch c_38 (by simp)).ch c_45 (by simp)).ch c_52 (by simp)).ch c_64 (by simp)), ?_⟩, ?_⟩
      ·
        have h_66 := call3a.mv c_64 (rngn50 (by simp <;> omega))
        exact ⟨kk + 1, _, _, _, by omega, by omega, h_66, hA3, by omega, by omega, hG.put h8 (by omega) hn2 hi2 hb2, m_63⟩
      ·
        simp only []; omega
end Go.Proofs.YtngploohhmfaiaaGreat.E
/- The closed facts of a row, one by one. -/
namespace Go.Proofs.YtngploohhmfaiaaGreat.E
open Go
def kindsOf (P : Program) (fn : Func) (c : OpenClaim) : List (Option IntKind) := if c.domain.isEmpty then [] else fn.params.toList.map fun t => match P.underlying t with | some (.int k) => some k | _ => none
theorem andb {a b : Bool} (h : a = true) (k : b = true) : (a && b) = true := by rw [h, k]; rfl
theorem joined_of {P : Program} {f : FuncId} {fn : Func} {s : ChangeSpec} {c : OpenClaim}
    (j0 : (c.wf (OpenSpec.ofChange s)) = true)
    (j1 : (laidOutB P) = true)
    (j2 : (mapsRowed P) = true)
    (j3 : (fn.params.all (P.readableRec ·)) = true)
    (j4 : (namedTie P c.named s.vars) = true)
    (j5 : ((c.stops == [])) = true)
    (j6 : ((P.stops == [])) = true)
    (j7 : ((c.knobs == [])) = true)
    (j8 : ((P.stopKnobs == [])) = true)
    (j9 : ((c.inPlace == P.inPlace f)) = true)
    (j10 : ((c.unfollowed == P.unfollowed f)) = true)
    (j11 : ((c.recurses == P.recurses f)) = true)
    (j12 : ((c.named == P.varsNamed f)) = true)
    (j13 : ((c.maps == (fn.params.toList ++ s.plain.varTypes P).any (P.mapsRec ·))) = true)
    (j14 : ((c.ifaces == (fn.params.toList ++ s.plain.varTypes P).any (P.ifacesRec ·))) = true)
    (j15 : ((c.mapsOut == P.mapsAmong fn.resultTypes.toList)) = true)
    (j16 : ((c.loops == (fn.params.toList ++ s.plain.varTypes P).any (P.loopsFrom ·))) = true)
    (j17 : ((c.wideKeys == (fn.params.toList ++ s.plain.varTypes P ++ fn.resultTypes.toList).any (P.wideKeysFrom ·))) = true)
    (j18 : (s.vars.all (P.varReadable ·)) = true)
    (j19 : (fn.resultTypes.all (fun t => P.readableRec t && decide (t < P.types.size))) = true)
    (j20 : ((c.ifacesOut == fn.resultTypes.toList.any (P.ifacesRec ·))) = true)
    (j21 : ((c.loopsOut == fn.resultTypes.toList.any (P.loopsFrom ·))) = true)
    (j22 : ((c.plainKeys == P.plainKeys)) = true)
    (j23 : (c.shortTexts.isNone) = true)
    (j24 : (P.stopsHeard) = true)
    (j25 : (P.mayEnter) = true)
    (j26 : ((c.lifted == P.liftsFinal)) = true)
    (j27 : ((P.make == some c.make)) = true)
    (j28 : ((c.kinds == kindsOf P fn c)) = true)
    (j29 : ((c.pinned == c.pinnedBy)) = true)
    (j30 : ((c.veiled == (fn.params.toList ++ s.plain.varTypes P ++ fn.resultTypes.toList).any (P.veiledRec ·))) = true)
    (j31 : (c.veiledFits P fn.params.toList (fn.params.toList ++ s.plain.varTypes P ++ fn.resultTypes.toList)) = true)
    : joinedFacts P f fn s c = true := by
  unfold joinedFacts
  exact (andb (andb (andb (andb (andb (andb (andb (andb (andb (andb (andb (andb (andb (andb (andb (andb (andb (andb (andb (andb (andb (andb (andb (andb (andb (andb (andb (andb (andb (andb (andb j0 j1) j2) j3) j4) j5) j6) j7) j8) j9) j10) j11) j12) j13) j14) j15) j16) j17) j18) j19) j20) j21) j22) j23) j24) j25) j26) j27) j28) j29) j30) j31)
end Go.Proofs.YtngploohhmfaiaaGreat.E
