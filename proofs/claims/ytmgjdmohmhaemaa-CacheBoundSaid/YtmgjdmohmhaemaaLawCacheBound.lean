/-
  For every sequence of calls: no more than so many blocks are held, each once, and pinned ones stay. No condition.
-/
import Derived.Test.YtmgjdmohmhaemaaRows
import Derived.Test.YtmgjdmohmhaemaaLbd
import Derived.Test.YtmgjdmohmhaemaaOpen1
import Derived.Test.YtmgjdmohmhaemaaRow1
import Derived.WalkKit
import Derived.ProofKit
import Derived.OpenShut
import Derived.ShutString
import Derived.ChangeOld
import Derived.Below
import Derived.Carry
import Derived.Lib.SmallJoins
namespace Go.Proofs.Ytmgjdmohmhaemaa.cacheBound
open Go.ChangeShapes Go.WideShapes Go.ChangeAt Go.RowKit Go.Joins
set_option linter.unusedVariables false
theorem own : ownKnob Try.prog.godebug = none := by kernel_rfl
theorem laidOut : laidOutB Try.prog = true := by kernel_rfl
theorem walk {H : Type} {enc : TypeId × Value → H} (a b : Int) {la : Option Addr} {ln : Nat} (lc : Nat) {rows : List (List Value)} (W : World) (_ : (Lit.int .i64 a).wf = true) (_ : (Lit.int .i64 b).wf = true) (hs : E.Sl ⟨W.heap, fun _ => 0⟩ la rows.flatten 0) (hl : rows.length = ln) (hw : ∀ r ∈ rows, r.length = Try.prog.cellsOf 61 ∧ E.Rd enc Try.prog W 61 r) (hm : ln ≤ 9223372036854775807) :
    Calls Try.prog 8 #[.int .i64 a, .int .i64 b, .slice la ln lc] W fun e W' => e = .returned (.bool true) ∧ Below W.heap.size W W' := by
  obtain ⟨ls, h1, h2⟩ := E.rd_dos hw
  exact E.walkT (by decide) (E.w_bound a b lc _ (by rw [← h2]; exact hs) (by omega) hm)
set_option maxRecDepth 100000 in
theorem lifted (os : Os) (started : os.Started) (H : Type) (enc : TypeId × Value → H) :
    ReturnsInHanded {} Try.checked os 8 .any (Rows.cacheBoundSpec.pre6 enc Try.prog Try.f8 Rows.cacheBoundRow.domain false) (Rows.cacheBoundSpec.post enc Try.prog Try.f8 false true false false) := by
  refine returnsInHanded_of_change (C := Try.checked) own started (by kernel_rfl) Try.func8
    (ChangeSpec.witness6 (enc := enc) (C := Try.checked) false ⟨#[], #[.int .i64 0, .int .i64 0, .slice none 0 0], []⟩ 8 (by kernel_rfl) (by kernel_rfl) (by kernel_rfl) (by kernel_rfl)) ?_
  intro W base args ds gs before hval0 hW hcnd _
  have hval : ∀ (j : Nat) t v, Try.f8.params[j]? = some t → args[j]? = some v → Value.okWide Try.prog W .any base t v := hval0
  have hW' := hW
  obtain ⟨p, q, hA0, hV, rfl, hfz, hnd⟩ := hW
  have hA : DataW.TrodAll enc Try.prog W 0 (fun _ => true) true Try.f8.params.toList args.toList ds p := hA0
  rw [Try.params8] at hA hval
  obtain ⟨v0, vs0, d0, ds0, p0, q0, hargs, rfl, rfl, h0, r0⟩ := trodAll_cons hA
  obtain ⟨v1, vs1, d1, ds1, p1, q1, rfl, rfl, rfl, h1, r1⟩ := trodAll_cons r0
  obtain ⟨v2, vs2, d2, ds2, p2, q2, rfl, rfl, rfl, h2, r2⟩ := trodAll_cons r1
  obtain ⟨rfl, rfl, rfl⟩ := trodAll_nil r2
  obtain rfl : args = #[v0, v1, v2] := by cases args; simp_all
  obtain ⟨rfl, rfl⟩ := trodVars_none hV
  obtain ⟨a0, rfl, rfl, rfl, w0⟩ := open_int Try.underlying3 (hval 0 3 v0 rfl rfl) h0
  obtain ⟨a1, rfl, rfl, rfl, w1⟩ := open_int Try.underlying3 (hval 1 3 v1 rfl rfl) h1
  have k2 := h2
  have lt2 : ∀ x ∈ p2, x.block < W.heap.size := by obtain ⟨m, hm⟩ := k2; exact DataW.trod_lt m _ _ _ hm
  obtain ⟨a2, n2, c2, l2, hr2, hnc2, hcm2, h02, hl2, hw2, hs2⟩ := E.rd_sl Try.underlying58 (E.rd_of h2)
  obtain rfl := E.open_v Try.underlying58 (hval 2 58 v2 rfl rfl) hr2
  clear hA0 hval0
  refine (walk a0 a1 c2 W w0 w1 hs2 hl2 hw2 (by unfold maxLen at hcm2; omega)).mono fun e W' ⟨he, bel⟩ => ?_
  subst he
  exact ⟨_, rfl, _, _, _, [], _, [], hW', trodAll_mk1 (shut_bool Try.underlying4 _), (trodAll_cons_mk (shut_int Try.underlying3 w0) (trodAll_cons_mk (shut_int Try.underlying3 w1) (trodAll_cons_mk (Below.trod laidOut (by kernel_rfl) (of_decide_eq_true (by kernel_rfl)) k2 bel lt2) trodAll_mk0))), rfl, bel.frame _, fun h => by cases h⟩
theorem over : Rows.cacheBoundRow.holds Try.pinned (OpenSpec.ofChange Rows.cacheBoundSpec) :=
  OpenClaim.holds_of_wide 8 Try.f8 rfl rfl rfl rfl rfl rfl rfl ⟨rfl, rfl, rfl, rfl, rfl⟩ rfl rfl rfl rfl rfl (by kernel_rfl) Try.func8 (by kernel_rfl)
    (of_decide_eq_true (by kernel_rfl)) (by unfold Func.isWrapper; first | (rw [if_pos (by decide +kernel)]; kernel_rfl) | (rw [if_neg (by decide +kernel)]; exact ⟨rfl, rfl⟩))
    (fun os started H enc _ => lifted os started H enc)
theorem proved : Rows.CacheBoundSaid := over
end Go.Proofs.Ytmgjdmohmhaemaa.cacheBound
namespace Go.Proofs.Ytmgjdmohmhaemaa
/-- The row, under a short name. -/
theorem cacheBound_holds : Rows.CacheBoundSaid := cacheBound.proved
#print axioms cacheBound_holds
end Go.Proofs.Ytmgjdmohmhaemaa
