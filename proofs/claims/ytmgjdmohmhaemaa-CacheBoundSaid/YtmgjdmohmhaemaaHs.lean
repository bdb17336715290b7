/- Contracts of functions. -/
import Derived.Test.YtmgjdmohmhaemaaProg
import Derived.KernelRfl
import Derived.Test.YtmgjdmohmhaemaaLib2
import Derived.Deep.QuietTactic
import Derived.Shelf.SlSortCmp.NoneTotal
import Derived.Test.YtmgjdmohmhaemaaHl
import Derived.Test.YtmgjdmohmhaemaaTys
import Derived.Test.YtmgjdmohmhaemaaFm0
import Derived.Test.YtmgjdmohmhaemaaFm1
import Derived.Test.YtmgjdmohmhaemaaFm2
import Derived.Test.YtmgjdmohmhaemaaFm3
import Derived.Test.YtmgjdmohmhaemaaFm4
namespace Go.Proofs.Ytmgjdmohmhaemaa.E
open Go Go.Proofs Go.RowKit Go.Maps Go.Shelf Go.Sort
set_option linter.unusedVariables false

set_option maxHeartbeats 400000 in
theorem held1 {f0 c r : Nat} {m : List (Int × Value)} {bx by_ : Nat} (x y ux uy : Int) {s : TH} {τ : Nat} (w : World) (hw : w.heap = s.h) (h0 : w.cell? ⟨f0, 0, none⟩ = some (.pointer (some ⟨c, 0, none⟩))) (h1 : w.cell? ⟨c, 2, none⟩ = some (.map (some r)))
    (hm : MapK (Value.int .i64) s r m τ) (hx : mget x m = some (.pointer (some ⟨bx, 0, none⟩))) (hy : mget y m = some (.pointer (some ⟨by_, 0, none⟩)))
    (hbx : w.cell? ⟨bx, 2, none⟩ = some (.int .i64 ux)) (hby : w.cell? ⟨by_, 2, none⟩ = some (.int .i64 uy)) (hux : 0 ≤ ux ∧ ux ≤ 9223372036854775807) (huy : 0 ≤ uy ∧ uy ≤ 9223372036854775807) :
    Calls Try.prog 68 #[.int .i64 x, .int .i64 y, .pointer (some ⟨f0, 0, none⟩)] w fun e w' => e = .returned (.int .i64 (ux - uy)) ∧ ∃ n, w' = w.drewN n := by
  have L1 : RowKit.Hid (∀ n, (Instr.lookup 69 (.map (some r)) (.int .i64 x) false).run Try.prog (w.drewN n) = .ok (.pointer (some ⟨bx, 0, none⟩)) (w.drewN n)) := fun n => by
    have := run_look keyI u69 z115 hm x false (w.drewN n) hw
    rw [hx] at this; exact this
  have L2 : RowKit.Hid (∀ n, (Instr.lookup 69 (.map (some r)) (.int .i64 y) false).run Try.prog (w.drewN n) = .ok (.pointer (some ⟨by_, 0, none⟩)) (w.drewN n)) := fun n => by
    have := run_look keyI u69 z115 hm y false (w.drewN n) hw
    rw [hy] at this; exact this
  have hwr : IntKind.i64.wrap (ux - uy) = ux - uy := wrap_id (by omega) (by omega)
  clear hm hx hy hw
  go_enter Try.func68, Try.ntmps68
  go_wp2
  refine wp_region_quiet_lit (by kernel_rfl) (by kernel_rfl) ?_
  iterate 5 (refine wpQuiet_step (fun K hK => ?_); go_simp; refine hK _ ?_; clear hK K)
  refine wpQuiet_step (fun K hK => ?_)
  go_simp
  refine ⟨_, fun a => by rw [L1.out a]; exact ⟨rfl, rfl⟩, hK _ ?_⟩
  clear hK K
  iterate 8 (refine wpQuiet_step (fun K hK => ?_); go_simp; refine hK _ ?_; clear hK K)
  refine wpQuiet_step (fun K hK => ?_)
  go_simp
  refine ⟨_, fun a => by rw [L2.out a]; exact ⟨rfl, rfl⟩, hK _ ?_⟩
  clear hK K
  iterate 5 (refine wpQuiet_step (fun K hK => ?_); go_simp; refine hK _ ?_; clear hK K)
  refine wpQuiet_nil ?_
  rintro _ ⟨nq, rfl⟩
  go_wp2
  go_ret
  exact ⟨rfl, nq, rfl⟩
section
variable {α : Type} [Inhabited α]
theorem sortW_get (enc : α → Value) (w : World) (blk off m : Nat) (dk : Array α) (os : Array Obj) (j : Nat) (hj : j < w.heap.size) : (sortWorld enc w blk off m dk os).heap[j]? = if blk = j then (w.heap[j]?).map (Go.Sort.onCells (Go.Sort.putCells enc off dk)) else w.heap[j]? := by
  show ((w.heap.modify blk _) ++ os)[j]? = _
  rw [Array.getElem?_append_left (by simpa using hj), Array.getElem?_modify]
theorem sortW_on {enc : α → Value} {w : World} {s : TH} (hw : w.heap = s.h) (blk off m : Nat) (dk : Array α) (os : Array Obj) : On blk s ⟨(sortWorld enc w blk off m dk os).heap, s.g⟩ := by
  refine ⟨?_, fun _ _ => rfl, fun j hj hn => ?_⟩
  · show s.h.size ≤ ((w.heap.modify blk _) ++ os).size
    simp [hw]
  · show (sortWorld enc w blk off m dk os).heap[j]? = _
    rw [sortW_get _ _ _ _ _ _ _ _ (by rw [hw]; exact hj), if_neg (fun e => hn e.symm), hw]
theorem putCells_get (enc : α → Value) (off : Nat) (d : Array α) (c : Array Value) (j : Nat) : (Go.Sort.putCells enc off d c)[j]? = (c[j]?).map fun x => if off ≤ j ∧ j < off + d.size then enc d[j - off]! else x := by
  unfold Go.Sort.putCells
  rw [Array.getElem?_mapIdx]
theorem sortW_own {enc : α → Value} {w : World} {s : TH} (hw : w.heap = s.h) {g o n c e τ : Nat} {xs : List Value} (hO : Own s (some ⟨g, o, none⟩) n c e 1 xs τ) (m : Nat) (dk : Array α) (hd : dk.size = n) (os : Array Obj) :
    Own ⟨(sortWorld enc w g o m dk os).heap, s.g⟩ (some ⟨g, o, none⟩) n c e 1 (dk.toList.map enc) τ := by
  rcases hO.2 with ⟨h0, _⟩ | ⟨g', o', L, h0, h1, h2, h3, h4, h5⟩
  · cases h0
  · cases h0
    have hg : (sortWorld enc w g o m dk os).heap[g]? = some (.cells (Go.Sort.putCells enc o dk L.toArray) e (0, 0)) := by
      rw [sortW_get _ _ _ _ _ _ _ _ (by rw [hw]; exact h1.lt), if_pos rfl, hw, h1.get]
      rfl
    refine ⟨by simp [hd], .inr ⟨g, o, (Go.Sort.putCells enc o dk L.toArray).toList, rfl, ⟨by simpa using hg, h1.tag⟩, h2, h3, by simpa [Go.Sort.putCells] using h4, ?_⟩⟩
    apply List.ext_getElem?
    intro i
    rw [List.getElem?_take, List.getElem?_drop]
    by_cases hi : i < n
    · rw [if_pos (by omega), Array.getElem?_toList, putCells_get]
      have hL : o + i < L.length := by omega
      simp [hL, hd, hi]
    · rw [if_neg (by omega), List.getElem?_eq_none (by simp; omega)]
end
/-- a cache's buffers: each key's pointer, and when it was used last -/
structure UsedAt (s : TH) (m : List (Int × Value)) (u : Int → Int) (τb : Nat) : Prop where
  at_ : ∀ k ∈ m.map (·.1), ∃ b lb tb, mget k m = some (.pointer (some ⟨b, 0, none⟩)) ∧ Blk s b lb tb τb ∧ lb[2]? = some (.int .i64 (u k)) ∧ 0 ≤ u k ∧ u k ≤ 9223372036854775807
  inj : ∀ x ∈ m.map (·.1), ∀ y ∈ m.map (·.1), u x = u y → x = y
theorem UsedAt.mv {s s' : TH} {m : List (Int × Value)} {u : Int → Int} {τb : Nat} {B : Nat → Prop} (h : UsedAt s m u τb) (c : Chg B s s') (hn : ∀ j, j < s.h.size → s.g j = τb → ¬ B j) : UsedAt s' m u τb :=
  ⟨fun k hk => by
    obtain ⟨b, lb, tb, h1, h2, h3⟩ := h.at_ k hk
    exact ⟨b, lb, tb, h1, h2.mv c (hn b h2.lt h2.tag), h3⟩, h.inj⟩
abbrev leU (u : Int → Int) : Int → Int → Bool := fun x y => decide (u x ≤ u y)
theorem c_sortHeld {a : Option Addr} {n c f0 cc r tf τf tc τc τm τb τ : Nat} {ss : List Int} {m : List (Int × Value)} {lc : List Value} {s : TH} (u : Int → Int) (hO : Own s a n c 3 1 (ivs ss) τ) (hn : n ≤ 1000000) (hF : Blk s f0 [.pointer (some ⟨cc, 0, none⟩)] tf τf) (hC : Blk s cc lc tc τc) (hC2 : lc[2]? = some (.map (some r)))
    (hm : MapK (Value.int .i64) s r m τm) (hU : UsedAt s m u τb) (hs : ∀ x ∈ ss, x ∈ m.map (·.1)) (ht : τf ≠ τ ∧ τc ≠ τ ∧ τm ≠ τ ∧ τb ≠ τ) :
    TRet Try.prog 104 #[.slice a n c, .func (.func 68) #[] #[.pointer (some ⟨f0, 0, none⟩)]] s fun v s' => v = .tuple #[] ∧ OnA a s s' ∧ Own s' a n c 3 1 (ivs (ss.mergeSort (leU u))) τ := by
  have hl : ss.length = n := by have := hO.1; rw [ivs_len] at this; omega
  by_cases h0 : n = 0
  · subst h0
    have hss : ss = [] := List.eq_nil_of_length_eq_zero hl
    subst hss
    intro w hw
    refine (AnyF.slices_SortFunc_none (ρ := Try.sortFA_ren) { Try.sortFA with } a c (.func (.func 68) #[] #[.pointer (some ⟨f0, 0, none⟩)]) w).mono ?_
    rintro e w' ⟨rfl, rfl⟩
    exact ⟨⟨_, s, rfl, hw.symm, rfl, ⟨Nat.le_refl _, fun _ _ => rfl, fun _ _ _ => rfl⟩, by simpa using hO⟩, Like.refl _⟩
  obtain ⟨g, o, rfl⟩ : ∃ g o, a = some ⟨g, o, none⟩ := by
    rcases hO.2 with ⟨_, h, _⟩ | ⟨g, o, L, h, _⟩
    · exact absurd h h0
    · exact ⟨g, o, h⟩
  have hgt : s.g g = τ := hO.tagOf
  intro w hw
  let K := {k : Int // k ∈ m.map (·.1)}
  let enc : K → Value := fun k => .int .i64 k.1
  let cf : K → K → Int := fun x y => u x.1 - u y.1
  let d : Array K := (ss.attach.map fun x => ⟨x.1, hs x.1 x.2⟩).toArray
  have hd : d.size = n := by simp [d, hl]
  obtain ⟨x0, hx0⟩ : ∃ x, x ∈ ss := by cases ss with | nil => simp at hl; omega | cons x _ => exact ⟨x, by simp⟩
  letI : Inhabited K := ⟨⟨x0, hs x0 hx0⟩⟩
  have hdm : d.toList.map (fun k : K => k.1) = ss := by
    simp [d, Function.comp_def]
  have hne : ∀ j, s.g j ≠ τ → j ≠ g := fun j hj e => hj (by rw [e]; exact hgt)
  have hcmp : CmpLays1 Try.prog 68 #[.pointer (some ⟨f0, 0, none⟩)] enc cf g o n w := by
    intro m0 os dk hdk x y
    have hon := sortW_on (enc := enc) hw g o m0 dk os
    obtain ⟨bx, lx, tx, x1, x2, x3, x4⟩ := hU.at_ x.1 x.2
    obtain ⟨by_, ly, ty, y1, y2, y3, y4⟩ := hU.at_ y.1 y.2
    have e0 := hF.on hon (hne _ (by rw [hF.tag]; exact ht.1))
    have e1 := hC.on hon (hne _ (by rw [hC.tag]; exact ht.2.1))
    have e2 := hm.on hon (hne _ (by rw [hm.tag]; exact ht.2.2.1))
    have e3 := x2.on hon (hne _ (by rw [x2.tag]; exact ht.2.2.2))
    have e4 := y2.on hon (hne _ (by rw [y2.tag]; exact ht.2.2.2))
    have h := held1 (s := ⟨(sortWorld enc w g o m0 dk os).heap, s.g⟩) x.1 y.1 (u x.1) (u y.1) (sortWorld enc w g o m0 dk os) rfl (e0.cell 0) ((e1.cell 2).trans hC2) e2 x1 y1 ((e3.cell 2).trans x3) ((e4.cell 2).trans y3) x4 y4
    refine h.mono ?_
    rintro e w' ⟨rfl, q, rfl⟩
    exact ⟨rfl, q, #[], (grow_empty _).symm⟩
  have hH : Go.Sort.Holds enc w g o d := by
    intro j hj
    have hj' : j < n := by rw [← hd]; exact hj
    have hcell := hO.sl.cells w hw j (enc d[j]!) (by
      have : (ivs ss)[j]? = some (enc d[j]!) := by
        rw [← hdm]
        simp [ivs, enc, hj]
      exact this)
    rw [add_mk] at hcell
    refine ⟨hcell, ?_⟩
    rcases hO.2 with ⟨h, _⟩ | ⟨g', o', L, h, h1, _⟩
    · cases h
    · cases h
      rw [frozen_eq, hw]; exact h1.frozen _
  have hlt : ∀ x y : K, ltOf cf x y = decide (u x.1 < u y.1) := fun x y => by
    unfold ltOf
    by_cases h : u x.1 < u y.1
    · rw [decide_eq_true h]; exact decide_eq_true (by show u x.1 - u y.1 < 0; omega)
    · rw [decide_eq_false h]; exact decide_eq_false (by show ¬ (u x.1 - u y.1 < 0); omega)
  have hO2 : SWO (ltOf cf) := ⟨fun x => by rw [hlt]; simp, fun x y z h1 h2 => by rw [hlt] at *; simp at *; omega, fun x y z h1 h2 => by rw [hlt] at *; simp at *; omega⟩
  have hT : ∀ x y, (ltOf cf) x y = false → (ltOf cf) y x = false → x = y := fun x y h1 h2 => by
    rw [hlt] at h1 h2; simp at h1 h2
    exact Subtype.ext (hU.inj x.1 x.2 y.1 y.2 (by omega))
  have hS := Any.slices_SortFunc_total (ρ := Try.sortFA_ren) Try.sortFA enc (fun _ => rfl) cf hO2 68 #[.pointer (some ⟨f0, 0, none⟩)] g o c d w (enters_of Try.func68 (by kernel_rfl) rfl) (by rw [hd]; exact hcmp) hH (by rw [hw]; rcases hO.2 with ⟨h, _⟩ | ⟨g', o', L, h, h1, _⟩ <;> cases h; exact h1.lt) (by rw [hd]; omega) hT
  rw [hd] at hS
  refine hS.mono ?_
  rintro e w' ⟨rfl, n', os, rfl⟩
  refine ⟨⟨_, ⟨_, s.g⟩, rfl, rfl, rfl, Chg.mono (sortW_on (enc := enc) hw g o n' _ os) (fun j hj e => by simp [e]), ?_⟩, rfl, rfl, rfl⟩
  have := sortW_own (enc := enc) hw hO n' (d.toList.mergeSort fun x y => !(ltOf cf) y x).toArray (by simp [hd]) os
  have e : ((d.toList.mergeSort fun x y => !(ltOf cf) y x).toArray.toList.map enc) = ivs (ss.mergeSort (leU u)) := by
    show (d.toList.mergeSort _).map ((Value.int .i64) ∘ fun k : K => k.1) = _
    rw [← List.map_map, ← hdm]
    unfold ivs
    congr 1
    apply List.map_mergeSort
    intro x _ y _
    rw [hlt]
    by_cases h : u x.1 ≤ u y.1 <;> simp [leU, h] <;> omega
  rw [e] at this
  exact this

theorem c_sfun {Bm r tb τb0 τm f0 cc tf τf tc τc τu : Nat} (τ : Nat) {m : List (Int × Value)} {lc : List Value} {s : TH} (u : Int → Int) (hB : Blk s Bm [.map (some r)] tb τb0) (hm : MapK (Value.int .i64) s r m τm) (hn : m.length ≤ 1000000) (hk : ∀ k ∈ m.map (·.1), inI64 k)
    (hF : Blk s f0 [.pointer (some ⟨cc, 0, none⟩)] tf τf) (hC : Blk s cc lc tc τc) (hC2 : lc[2]? = some (.map (some r))) (hU : UsedAt s m u τu) :
    TRet Try.prog 66 #[.func (.func 105) #[] #[.pointer (some ⟨Bm, 0, none⟩)], .func (.func 68) #[] #[.pointer (some ⟨f0, 0, none⟩)]] s fun v s' => ∃ (a : Option Addr) (c : Nat) (ss : List Int), v = .slice a m.length c ∧ ss.Perm (m.map (·.1)) ∧ Ch [] s s' ∧ Own s' a m.length c 3 1 (ivs (ss.mergeSort (leU u))) τ := by
  refine F66_calls _ _ _ _ _ _ ?_
  unfold F66
  obtain ⟨τ', hτ⟩ : ∃ τ', τf ≠ τ' ∧ τc ≠ τ' ∧ τm ≠ τ' ∧ τu ≠ τ' := ⟨τf + τc + τm + τu + 1, by omega⟩
  refine tcall (c_collect τ' _ _ _ _ _ hB hm hn hk) ?_
  rintro _ s1 ⟨⟨a, c, ss, rfl, hp, hO, hnew⟩, c1⟩
  refine dSl_i ?_
  refine tcall (c_sortHeld u hO hn (hF.ch c1 (by simp)) (hC.ch c1 (by simp)) hC2 (hm.ch c1 (by simp)) (hU.mv c1 (tagn (by simp))) (fun x hx => hp.mem_iff.1 hx) hτ) ?_
  rintro _ s2 ⟨rfl, c2, hO2⟩
  have c3 : Ch [] s s2 := Chg.trans c1 c2 fun j hj hB => by
    cases a with
    | none => simp at hB
    | some b => simp at hB; have := hnew b rfl; omega
  -- the row's mark: as asked
  let s3 : TH := ⟨s2.h, fun j => if j < s.h.size then s2.g j else τ⟩
  have c4 : Ch [] s s3 := ⟨c3.size, fun j hj => by show (if j < s.h.size then s2.g j else τ) = _; rw [if_pos hj]; exact c3.tag j hj, c3.get⟩
  refine ret_t (s := s3) ⟨a, c, ss, rfl, hp, c4, hO2.1, hO2.2.imp id ?_⟩
  rintro ⟨g, o, L, h1, h2, h3⟩
  refine ⟨g, o, L, h1, ⟨h2.get, ?_⟩, h3⟩
  have := hnew _ h1
  show (if g < s.h.size then s2.g g else τ) = τ
  rw [if_neg (by simp at this; omega)]

end Go.Proofs.Ytmgjdmohmhaemaa.E
