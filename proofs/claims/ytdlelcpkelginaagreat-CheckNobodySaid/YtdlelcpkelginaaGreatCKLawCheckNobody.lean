/-
  For every number: of no checker, of no snapshot, and of a snapshot that was dropped, the answers are what the document says. No condition.
-/
import Derived.Test.YtdlelcpkelginaaGreatRows
import Derived.WalkKit
import Derived.ProofKit
import Derived.OpenShut
import Derived.ShutString
import Derived.ChangeOld
import Derived.Below
import Derived.Carry
import Derived.Lib.SmallJoins
import Derived.Test.YtdlelcpkelginaaGreatCK9
namespace Go.Proofs.YtdlelcpkelginaaGreat.checkNobody
open Go.ChangeShapes Go.WideShapes Go.ChangeAt Go.RowKit Go.Joins
set_option linter.unusedVariables false
theorem own : ownKnob Tryz.prog.godebug = none := by kernel_rfl
theorem laidOut : laidOutB Tryz.prog = true := by kernel_rfl
theorem walk (n : Int) (W : World) (_ : (Lit.int .i64 n).wf = true) :
    Calls Tryz.prog 9 #[.int .i64 n] W fun e W' => e = .returned (.bool true) ∧ Below W.heap.size W W' :=
  E.walkT (T := [50, 50 + 3, 50 + 11, 50 + 20, 50 + 21, 50 + 22, 50 + 23, 50 + 30, 50 + 32]) (by decide) (E.w_cknobody 50 n _ (by decide))
set_option maxRecDepth 100000 in
theorem lifted (os : Os) (started : os.Started) (H : Type) (enc : TypeId × Value → H) :
    ReturnsInHanded {} Tryz.checked os 9 .any (Rows.checkNobodySpec.pre6 enc Tryz.prog Tryz.f9 Rows.checkNobodyRow.domain false) (Rows.checkNobodySpec.post enc Tryz.prog Tryz.f9 false true false false) := by
  refine returnsInHanded_of_change (C := Tryz.checked) own started (by kernel_rfl) Tryz.func9
    (ChangeSpec.witness6 (enc := enc) (C := Tryz.checked) false ⟨#[], #[.int .i64 0], []⟩ 8 (by kernel_rfl) (by kernel_rfl) (by kernel_rfl) (by kernel_rfl)) ?_
  intro W base args ds gs before hval0 hW hcnd _
  have hval : ∀ (j : Nat) t v, Tryz.f9.params[j]? = some t → args[j]? = some v → Value.okWide Tryz.prog W .any base t v := hval0
  have hW' := hW
  obtain ⟨p, q, hA0, hV, rfl, hfz, hnd⟩ := hW
  have hA : DataW.TrodAll enc Tryz.prog W 0 (fun _ => true) true Tryz.f9.params.toList args.toList ds p := hA0
  rw [Tryz.params9] at hA hval
  obtain ⟨v0, vs0, d0, ds0, p0, q0, hargs, rfl, rfl, h0, r0⟩ := trodAll_cons hA
  obtain ⟨rfl, rfl, rfl⟩ := trodAll_nil r0
  obtain rfl : args = #[v0] := by cases args; simp_all
  obtain ⟨rfl, rfl⟩ := trodVars_none hV
  obtain ⟨a0, rfl, rfl, rfl, w0⟩ := open_int Tryz.underlying3 (hval 0 3 v0 rfl rfl) h0
  clear hA0 hval0
  refine (walk a0 W w0).mono fun e W' ⟨he, bel⟩ => ?_
  subst he
  exact ⟨_, rfl, _, _, _, [], _, [], hW', trodAll_mk1 (shut_bool Tryz.underlying4 _), (trodAll_cons_mk (shut_int Tryz.underlying3 w0) trodAll_mk0), rfl, bel.frame _, fun h => by cases h⟩
theorem jf0 : (Rows.checkNobodyRow.wf (OpenSpec.ofChange Rows.checkNobodySpec)) = true := by kernel_rfl
theorem jf1 : (laidOutB Tryz.checked.prog) = true := by kernel_rfl
theorem jf2 : (mapsRowed Tryz.checked.prog) = true := by kernel_rfl
theorem jf3 : (Tryz.f9.params.all (Tryz.checked.prog.readableRec ·)) = true := by kernel_rfl
theorem jf4 : (namedTie Tryz.checked.prog Rows.checkNobodyRow.named Rows.checkNobodySpec.vars) = true := by kernel_rfl
theorem jf5 : ((Rows.checkNobodyRow.stops == [])) = true := by kernel_rfl
theorem jf6 : ((Tryz.checked.prog.stops == [])) = true := by kernel_rfl
theorem jf7 : ((Rows.checkNobodyRow.knobs == [])) = true := by kernel_rfl
theorem jf8 : ((Tryz.checked.prog.stopKnobs == [])) = true := by kernel_rfl
theorem jf9 : ((Rows.checkNobodyRow.inPlace == Tryz.checked.prog.inPlace 9)) = true := by kernel_rfl
theorem jf10 : ((Rows.checkNobodyRow.unfollowed == Tryz.checked.prog.unfollowed 9)) = true := by kernel_rfl
theorem jf11 : ((Rows.checkNobodyRow.recurses == Tryz.checked.prog.recurses 9)) = true := by kernel_rfl
theorem jf12 : ((Rows.checkNobodyRow.named == Tryz.checked.prog.varsNamed 9)) = true := by kernel_rfl
theorem jf13 : ((Rows.checkNobodyRow.maps == (Tryz.f9.params.toList ++ Rows.checkNobodySpec.plain.varTypes Tryz.checked.prog).any (Tryz.checked.prog.mapsRec ·))) = true := by kernel_rfl
theorem jf14 : ((Rows.checkNobodyRow.ifaces == (Tryz.f9.params.toList ++ Rows.checkNobodySpec.plain.varTypes Tryz.checked.prog).any (Tryz.checked.prog.ifacesRec ·))) = true := by kernel_rfl
theorem jf15 : ((Rows.checkNobodyRow.mapsOut == Tryz.checked.prog.mapsAmong Tryz.f9.resultTypes.toList)) = true := by kernel_rfl
theorem jf16 : ((Rows.checkNobodyRow.loops == (Tryz.f9.params.toList ++ Rows.checkNobodySpec.plain.varTypes Tryz.checked.prog).any (Tryz.checked.prog.loopsFrom ·))) = true := by kernel_rfl
theorem jf17 : ((Rows.checkNobodyRow.wideKeys == (Tryz.f9.params.toList ++ Rows.checkNobodySpec.plain.varTypes Tryz.checked.prog ++ Tryz.f9.resultTypes.toList).any (Tryz.checked.prog.wideKeysFrom ·))) = true := by kernel_rfl
theorem jf18 : (Rows.checkNobodySpec.vars.all (Tryz.checked.prog.varReadable ·)) = true := by kernel_rfl
theorem jf19 : (Tryz.f9.resultTypes.all (fun t => Tryz.checked.prog.readableRec t && decide (t < Tryz.checked.prog.types.size))) = true := by kernel_rfl
theorem jf20 : ((Rows.checkNobodyRow.ifacesOut == Tryz.f9.resultTypes.toList.any (Tryz.checked.prog.ifacesRec ·))) = true := by kernel_rfl
theorem jf21 : ((Rows.checkNobodyRow.loopsOut == Tryz.f9.resultTypes.toList.any (Tryz.checked.prog.loopsFrom ·))) = true := by kernel_rfl
theorem jf22 : ((Rows.checkNobodyRow.plainKeys == Tryz.checked.prog.plainKeys)) = true := by kernel_rfl
theorem jf23 : (Rows.checkNobodyRow.shortTexts.isNone) = true := by kernel_rfl
theorem jf24 : (Tryz.checked.prog.stopsHeard) = true := by kernel_rfl
theorem jf25 : (Tryz.checked.prog.mayEnter) = true := by kernel_rfl
theorem jf26 : ((Rows.checkNobodyRow.lifted == Tryz.checked.prog.liftsFinal)) = true := by kernel_rfl
theorem jf27 : ((Tryz.checked.prog.make == some Rows.checkNobodyRow.make)) = true := by kernel_rfl
theorem jf28 : ((Rows.checkNobodyRow.kinds == E.kindsOf Tryz.checked.prog Tryz.f9 Rows.checkNobodyRow)) = true := by kernel_rfl
theorem jf29 : ((Rows.checkNobodyRow.pinned == Rows.checkNobodyRow.pinnedBy)) = true := by kernel_rfl
theorem jf30 : ((Rows.checkNobodyRow.veiled == (Tryz.f9.params.toList ++ Rows.checkNobodySpec.plain.varTypes Tryz.checked.prog ++ Tryz.f9.resultTypes.toList).any (Tryz.checked.prog.veiledRec ·))) = true := by kernel_rfl
theorem jf31 : (Rows.checkNobodyRow.veiledFits Tryz.checked.prog Tryz.f9.params.toList (Tryz.f9.params.toList ++ Rows.checkNobodySpec.plain.varTypes Tryz.checked.prog ++ Tryz.f9.resultTypes.toList)) = true := by kernel_rfl
theorem closed : joinedFacts Tryz.checked.prog 9 Tryz.f9 Rows.checkNobodySpec Rows.checkNobodyRow = true := E.joined_of jf0 jf1 jf2 jf3 jf4 jf5 jf6 jf7 jf8 jf9 jf10 jf11 jf12 jf13 jf14 jf15 jf16 jf17 jf18 jf19 jf20 jf21 jf22 jf23 jf24 jf25 jf26 jf27 jf28 jf29 jf30 jf31
theorem hfn : Tryz.checked.prog.funcNamed Rows.checkNobodyRow.func = some 9 := by kernel_rfl
theorem hinst : Tryz.f9.isInstance Tryz.checked.prog Rows.checkNobodyRow.origin Rows.checkNobodyRow.targs := of_decide_eq_true (by kernel_rfl)
theorem hwrap : Tryz.f9.isWrapper Tryz.checked.prog Rows.checkNobodyRow.wrapper Rows.checkNobodyRow.mainSum := by unfold Func.isWrapper; first | (rw [if_pos (by decide +kernel)]; kernel_rfl) | (rw [if_neg (by decide +kernel)]; exact ⟨rfl, rfl⟩)
theorem over : Rows.checkNobodyRow.holds Tryz.pinned (OpenSpec.ofChange Rows.checkNobodySpec) :=
  OpenClaim.holds_of_wide 9 Tryz.f9 rfl rfl rfl rfl rfl rfl rfl ⟨rfl, rfl, rfl, rfl, rfl⟩ rfl rfl rfl rfl rfl hfn Tryz.func9 closed hinst hwrap
    (fun os started H enc _ => lifted os started H enc)
theorem proved : Rows.CheckNobodySaid := over
end Go.Proofs.YtdlelcpkelginaaGreat.checkNobody
namespace Go.Proofs.YtdlelcpkelginaaGreat
/-- The row, under a short name. -/
theorem checkNobody_holds : Rows.CheckNobodySaid := checkNobody.proved
#print axioms checkNobody_holds
end Go.Proofs.YtdlelcpkelginaaGreat
