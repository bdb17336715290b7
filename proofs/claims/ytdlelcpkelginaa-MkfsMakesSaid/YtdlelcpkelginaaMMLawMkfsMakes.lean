/-
  For every geometry: a new volume's blocks are what the document says, and where it says that there is none, the error is the same. No condition.
-/
import Derived.Test.YtdlelcpkelginaaRows
import Derived.WalkKit
import Derived.ProofKit
import Derived.OpenShut
import Derived.ShutString
import Derived.ChangeOld
import Derived.Below
import Derived.Carry
import Derived.Lib.SmallJoins
import Derived.Test.YtdlelcpkelginaaMM7
namespace Go.Proofs.Ytdlelcpkelginaa.mkfsMakes
open Go.ChangeShapes Go.WideShapes Go.ChangeAt Go.RowKit Go.Joins
set_option linter.unusedVariables false
theorem own : ownKnob Try.prog.godebug = none := by kernel_rfl
theorem laidOut : laidOutB Try.prog = true := by kernel_rfl
theorem cells23 : Try.prog.cellsOf 23 = 3 := by kernel_rfl
theorem walk (a b c : Int) (W : World) (_ : (Lit.int .i64 a).wf = true) (_ : (Lit.int .i64 b).wf = true) (_ : (Lit.int .i64 c).wf = true) :
    Calls Try.prog 3 #[.agg #[.int .i64 a, .int .i64 b, .int .i64 c]] W fun e W' => e = .returned (.bool true) ∧ Below W.heap.size W W' :=
  E.walkB (E.w_mkfsmakes a b c _)
set_option maxRecDepth 100000 in
theorem lifted (os : Os) (started : os.Started) (H : Type) (enc : TypeId × Value → H) :
    ReturnsInHanded {} Try.checked os 3 .any (Rows.mkfsMakesSpec.pre6 enc Try.prog Try.f3 Rows.mkfsMakesRow.domain false) (Rows.mkfsMakesSpec.post enc Try.prog Try.f3 false true false false) := by
  refine returnsInHanded_of_change (C := Try.checked) own started (by kernel_rfl) Try.func3
    (ChangeSpec.witness6 (enc := enc) (C := Try.checked) false ⟨#[], #[.agg #[.int .i64 0, .int .i64 0, .int .i64 0]], []⟩ 8 (by kernel_rfl) (by kernel_rfl) (by kernel_rfl) (by kernel_rfl)) ?_
  intro W base args ds gs before hval0 hW hcnd _
  have hval : ∀ (j : Nat) t v, Try.f3.params[j]? = some t → args[j]? = some v → Value.okWide Try.prog W .any base t v := hval0
  have hW' := hW
  obtain ⟨p, q, hA0, hV, rfl, hfz, hnd⟩ := hW
  have hA : DataW.TrodAll enc Try.prog W 0 (fun _ => true) true Try.f3.params.toList args.toList ds p := hA0
  rw [Try.params3] at hA hval
  obtain ⟨v0, vs0, d0, ds0, p0, q0, hargs, rfl, rfl, h0, r0⟩ := trodAll_cons hA
  obtain ⟨rfl, rfl, rfl⟩ := trodAll_nil r0
  obtain rfl : args = #[v0] := by cases args; simp_all
  obtain ⟨rfl, rfl⟩ := trodVars_none hV
  have k0 := h0
  have lt0 : ∀ x ∈ p0, x.block < W.heap.size := by obtain ⟨m, hm⟩ := k0; exact DataW.trod_lt m _ _ _ hm
  obtain ⟨c00, c01, c02, y00, y01, y02, m0, hv0, _, _, hy00, hy01, hy02⟩ := open_agg3 Try.underlying23 (by kernel_rfl) cells23 (hval 0 23 v0 rfl rfl) h0
  subst hv0
  obtain ⟨b00, e00, _, w00⟩ := DataW.trod_int Try.underlying3 hy00
  simp at e00
  subst e00
  obtain ⟨b01, e01, _, w01⟩ := DataW.trod_int Try.underlying3 hy01
  simp at e01
  subst e01
  obtain ⟨b02, e02, _, w02⟩ := DataW.trod_int Try.underlying3 hy02
  simp at e02
  subst e02
  clear hA0 hval0
  refine (walk b00 b01 b02 W w00 w01 w02).mono fun e W' ⟨he, bel⟩ => ?_
  subst he
  exact ⟨_, rfl, _, _, _, [], _, [], hW', trodAll_mk1 (shut_bool Try.underlying4 _), (trodAll_cons_mk (Below.trod laidOut (by kernel_rfl) (of_decide_eq_true (by kernel_rfl)) k0 bel lt0) trodAll_mk0), rfl, bel.frame _, fun h => by cases h⟩
theorem jf0 : (Rows.mkfsMakesRow.wf (OpenSpec.ofChange Rows.mkfsMakesSpec)) = true := by kernel_rfl
theorem jf1 : (laidOutB Try.checked.prog) = true := by kernel_rfl
theorem jf2 : (mapsRowed Try.checked.prog) = true := by kernel_rfl
theorem jf3 : (Try.f3.params.all (Try.checked.prog.readableRec ·)) = true := by kernel_rfl
theorem jf4 : (namedTie Try.checked.prog Rows.mkfsMakesRow.named Rows.mkfsMakesSpec.vars) = true := by kernel_rfl
theorem jf5 : ((Rows.mkfsMakesRow.stops == [])) = true := by kernel_rfl
theorem jf6 : ((Try.checked.prog.stops == [])) = true := by kernel_rfl
theorem jf7 : ((Rows.mkfsMakesRow.knobs == [])) = true := by kernel_rfl
theorem jf8 : ((Try.checked.prog.stopKnobs == [])) = true := by kernel_rfl
theorem jf9 : ((Rows.mkfsMakesRow.inPlace == Try.checked.prog.inPlace 3)) = true := by kernel_rfl
theorem jf10 : ((Rows.mkfsMakesRow.unfollowed == Try.checked.prog.unfollowed 3)) = true := by kernel_rfl
theorem jf11 : ((Rows.mkfsMakesRow.recurses == Try.checked.prog.recurses 3)) = true := by kernel_rfl
theorem jf12 : ((Rows.mkfsMakesRow.named == Try.checked.prog.varsNamed 3)) = true := by kernel_rfl
theorem jf13 : ((Rows.mkfsMakesRow.maps == (Try.f3.params.toList ++ Rows.mkfsMakesSpec.plain.varTypes Try.checked.prog).any (Try.checked.prog.mapsRec ·))) = true := by kernel_rfl
theorem jf14 : ((Rows.mkfsMakesRow.ifaces == (Try.f3.params.toList ++ Rows.mkfsMakesSpec.plain.varTypes Try.checked.prog).any (Try.checked.prog.ifacesRec ·))) = true := by kernel_rfl
theorem jf15 : ((Rows.mkfsMakesRow.mapsOut == Try.checked.prog.mapsAmong Try.f3.resultTypes.toList)) = true := by kernel_rfl
theorem jf16 : ((Rows.mkfsMakesRow.loops == (Try.f3.params.toList ++ Rows.mkfsMakesSpec.plain.varTypes Try.checked.prog).any (Try.checked.prog.loopsFrom ·))) = true := by kernel_rfl
theorem jf17 : ((Rows.mkfsMakesRow.wideKeys == (Try.f3.params.toList ++ Rows.mkfsMakesSpec.plain.varTypes Try.checked.prog ++ Try.f3.resultTypes.toList).any (Try.checked.prog.wideKeysFrom ·))) = true := by kernel_rfl
theorem jf18 : (Rows.mkfsMakesSpec.vars.all (Try.checked.prog.varReadable ·)) = true := by kernel_rfl
theorem jf19 : (Try.f3.resultTypes.all (fun t => Try.checked.prog.readableRec t && decide (t < Try.checked.prog.types.size))) = true := by kernel_rfl
theorem jf20 : ((Rows.mkfsMakesRow.ifacesOut == Try.f3.resultTypes.toList.any (Try.checked.prog.ifacesRec ·))) = true := by kernel_rfl
theorem jf21 : ((Rows.mkfsMakesRow.loopsOut == Try.f3.resultTypes.toList.any (Try.checked.prog.loopsFrom ·))) = true := by kernel_rfl
theorem jf22 : ((Rows.mkfsMakesRow.plainKeys == Try.checked.prog.plainKeys)) = true := by kernel_rfl
theorem jf23 : (Rows.mkfsMakesRow.shortTexts.isNone) = true := by kernel_rfl
theorem jf24 : (Try.checked.prog.stopsHeard) = true := by kernel_rfl
theorem jf25 : (Try.checked.prog.mayEnter) = true := by kernel_rfl
theorem jf26 : ((Rows.mkfsMakesRow.lifted == Try.checked.prog.liftsFinal)) = true := by kernel_rfl
theorem jf27 : ((Try.checked.prog.make == some Rows.mkfsMakesRow.make)) = true := by kernel_rfl
theorem jf28 : ((Rows.mkfsMakesRow.kinds == E.kindsOf Try.checked.prog Try.f3 Rows.mkfsMakesRow)) = true := by kernel_rfl
theorem jf29 : ((Rows.mkfsMakesRow.pinned == Rows.mkfsMakesRow.pinnedBy)) = true := by kernel_rfl
theorem jf30 : ((Rows.mkfsMakesRow.veiled == (Try.f3.params.toList ++ Rows.mkfsMakesSpec.plain.varTypes Try.checked.prog ++ Try.f3.resultTypes.toList).any (Try.checked.prog.veiledRec ·))) = true := by kernel_rfl
theorem jf31 : (Rows.mkfsMakesRow.veiledFits Try.checked.prog Try.f3.params.toList (Try.f3.params.toList ++ Rows.mkfsMakesSpec.plain.varTypes Try.checked.prog ++ Try.f3.resultTypes.toList)) = true := by kernel_rfl
theorem closed : joinedFacts Try.checked.prog 3 Try.f3 Rows.mkfsMakesSpec Rows.mkfsMakesRow = true := E.joined_of jf0 jf1 jf2 jf3 jf4 jf5 jf6 jf7 jf8 jf9 jf10 jf11 jf12 jf13 jf14 jf15 jf16 jf17 jf18 jf19 jf20 jf21 jf22 jf23 jf24 jf25 jf26 jf27 jf28 jf29 jf30 jf31
theorem hfn : Try.checked.prog.funcNamed Rows.mkfsMakesRow.func = some 3 := by kernel_rfl
theorem hinst : Try.f3.isInstance Try.checked.prog Rows.mkfsMakesRow.origin Rows.mkfsMakesRow.targs := of_decide_eq_true (by kernel_rfl)
theorem hwrap : Try.f3.isWrapper Try.checked.prog Rows.mkfsMakesRow.wrapper Rows.mkfsMakesRow.mainSum := by unfold Func.isWrapper; first | (rw [if_pos (by decide +kernel)]; kernel_rfl) | (rw [if_neg (by decide +kernel)]; exact ⟨rfl, rfl⟩)
theorem over : Rows.mkfsMakesRow.holds Try.pinned (OpenSpec.ofChange Rows.mkfsMakesSpec) :=
  OpenClaim.holds_of_wide 3 Try.f3 rfl rfl rfl rfl rfl rfl rfl ⟨rfl, rfl, rfl, rfl, rfl⟩ rfl rfl rfl rfl rfl hfn Try.func3 closed hinst hwrap
    (fun os started H enc _ => lifted os started H enc)
theorem proved : Rows.MkfsMakesSaid := over
end Go.Proofs.Ytdlelcpkelginaa.mkfsMakes
namespace Go.Proofs.Ytdlelcpkelginaa
/-- The row, under a short name. -/
theorem mkfsMakes_holds : Rows.MkfsMakesSaid := mkfsMakes.proved
#print axioms mkfsMakes_holds
end Go.Proofs.Ytdlelcpkelginaa
