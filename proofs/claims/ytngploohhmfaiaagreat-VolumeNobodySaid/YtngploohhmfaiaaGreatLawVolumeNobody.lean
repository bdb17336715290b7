/-
  For every pair of numbers: a volume that no call made answers what the document says. No condition.
-/
import Derived.Test.YtngploohhmfaiaaGreatRows
import Derived.Test.YtngploohhmfaiaaGreatVl
import Derived.Test.YtngploohhmfaiaaGreatRow1
import Derived.Test.YtngploohhmfaiaaGreatRow2
import Derived.WalkKit
import Derived.ProofKit
import Derived.OpenShut
import Derived.ShutString
import Derived.ChangeOld
import Derived.Below
import Derived.Carry
import Derived.Lib.SmallJoins
namespace Go.Proofs.YtngploohhmfaiaaGreat.volumeNobody
open Go.ChangeShapes Go.WideShapes Go.ChangeAt Go.RowKit Go.Joins
set_option linter.unusedVariables false
theorem own : ownKnob Tryz.prog.godebug = none := by kernel_rfl
theorem laidOut : laidOutB Tryz.prog = true := by kernel_rfl
theorem walk (a b : Int) (W : World) (_ : (Lit.int .i64 a).wf = true) (_ : (Lit.int .i64 b).wf = true) :
    Calls Tryz.prog 14 #[.int .i64 a, .int .i64 b] W fun e W' => e = .returned (.bool true) ∧ Below W.heap.size W W' :=
  E.walkT (by decide) (E.w_vnobody a b _)
set_option maxRecDepth 100000 in
theorem lifted (os : Os) (started : os.Started) (H : Type) (enc : TypeId × Value → H) :
    ReturnsInHanded {} Tryz.checked os 14 .any (Rows.volumeNobodySpec.pre6 enc Tryz.prog Tryz.f14 Rows.volumeNobodyRow.domain false) (Rows.volumeNobodySpec.post enc Tryz.prog Tryz.f14 false true false false) := by
  refine returnsInHanded_of_change (C := Tryz.checked) own started (by kernel_rfl) Tryz.func14
    (ChangeSpec.witness6 (enc := enc) (C := Tryz.checked) false ⟨#[], #[.int .i64 0, .int .i64 0], []⟩ 8 (by kernel_rfl) (by kernel_rfl) (by kernel_rfl) (by kernel_rfl)) ?_
  intro W base args ds gs before hval0 hW hcnd _
  have hval : ∀ (j : Nat) t v, Tryz.f14.params[j]? = some t → args[j]? = some v → Value.okWide Tryz.prog W .any base t v := hval0
  have hW' := hW
  obtain ⟨p, q, hA0, hV, rfl, hfz, hnd⟩ := hW
  have hA : DataW.TrodAll enc Tryz.prog W 0 (fun _ => true) true Tryz.f14.params.toList args.toList ds p := hA0
  rw [Tryz.params14] at hA hval
  obtain ⟨v0, vs0, d0, ds0, p0, q0, hargs, rfl, rfl, h0, r0⟩ := trodAll_cons hA
  obtain ⟨v1, vs1, d1, ds1, p1, q1, rfl, rfl, rfl, h1, r1⟩ := trodAll_cons r0
  obtain ⟨rfl, rfl, rfl⟩ := trodAll_nil r1
  obtain rfl : args = #[v0, v1] := by cases args; simp_all
  obtain ⟨rfl, rfl⟩ := trodVars_none hV
  obtain ⟨a0, rfl, rfl, rfl, w0⟩ := open_int Tryz.underlying3 (hval 0 3 v0 rfl rfl) h0
  obtain ⟨a1, rfl, rfl, rfl, w1⟩ := open_int Tryz.underlying3 (hval 1 3 v1 rfl rfl) h1
  clear hA0 hval0
  refine (walk a0 a1 W w0 w1).mono fun e W' ⟨he, bel⟩ => ?_
  subst he
  exact ⟨_, rfl, _, _, _, [], _, [], hW', trodAll_mk1 (shut_bool Tryz.underlying4 _), (trodAll_cons_mk (shut_int Tryz.underlying3 w0) (trodAll_cons_mk (shut_int Tryz.underlying3 w1) trodAll_mk0)), rfl, bel.frame _, fun h => by cases h⟩
theorem jf0 : (Rows.volumeNobodyRow.wf (OpenSpec.ofChange Rows.volumeNobodySpec)) = true := by kernel_rfl
theorem jf1 : (laidOutB Tryz.checked.prog) = true := by kernel_rfl
theorem jf2 : (mapsRowed Tryz.checked.prog) = true := by kernel_rfl
theorem jf3 : (Tryz.f14.params.all (Tryz.checked.prog.readableRec ·)) = true := by kernel_rfl
theorem jf4 : (namedTie Tryz.checked.prog Rows.volumeNobodyRow.named Rows.volumeNobodySpec.vars) = true := by kernel_rfl
theorem jf5 : ((Rows.volumeNobodyRow.stops == [])) = true := by kernel_rfl
theorem jf6 : ((Tryz.checked.prog.stops == [])) = true := by kernel_rfl
theorem jf7 : ((Rows.volumeNobodyRow.knobs == [])) = true := by kernel_rfl
theorem jf8 : ((Tryz.checked.prog.stopKnobs == [])) = true := by kernel_rfl
theorem jf9 : ((Rows.volumeNobodyRow.inPlace == Tryz.checked.prog.inPlace 14)) = true := by kernel_rfl
theorem jf10 : ((Rows.volumeNobodyRow.unfollowed == Tryz.checked.prog.unfollowed 14)) = true := by kernel_rfl
theorem jf11 : ((Rows.volumeNobodyRow.recurses == Tryz.checked.prog.recurses 14)) = true := by kernel_rfl
theorem jf12 : ((Rows.volumeNobodyRow.named == Tryz.checked.prog.varsNamed 14)) = true := by kernel_rfl
theorem jf13 : ((Rows.volumeNobodyRow.maps == (Tryz.f14.params.toList ++ Rows.volumeNobodySpec.plain.varTypes Tryz.checked.prog).any (Tryz.checked.prog.mapsRec ·))) = true := by kernel_rfl
theorem jf14 : ((Rows.volumeNobodyRow.ifaces == (Tryz.f14.params.toList ++ Rows.volumeNobodySpec.plain.varTypes Tryz.checked.prog).any (Tryz.checked.prog.ifacesRec ·))) = true := by kernel_rfl
theorem jf15 : ((Rows.volumeNobodyRow.mapsOut == Tryz.checked.prog.mapsAmong Tryz.f14.resultTypes.toList)) = true := by kernel_rfl
theorem jf16 : ((Rows.volumeNobodyRow.loops == (Tryz.f14.params.toList ++ Rows.volumeNobodySpec.plain.varTypes Tryz.checked.prog).any (Tryz.checked.prog.loopsFrom ·))) = true := by kernel_rfl
theorem jf17 : ((Rows.volumeNobodyRow.wideKeys == (Tryz.f14.params.toList ++ Rows.volumeNobodySpec.plain.varTypes Tryz.checked.prog ++ Tryz.f14.resultTypes.toList).any (Tryz.checked.prog.wideKeysFrom ·))) = true := by kernel_rfl
theorem jf18 : (Rows.volumeNobodySpec.vars.all (Tryz.checked.prog.varReadable ·)) = true := by kernel_rfl
theorem jf19 : (Tryz.f14.resultTypes.all (fun t => Tryz.checked.prog.readableRec t && decide (t < Tryz.checked.prog.types.size))) = true := by kernel_rfl
theorem jf20 : ((Rows.volumeNobodyRow.ifacesOut == Tryz.f14.resultTypes.toList.any (Tryz.checked.prog.ifacesRec ·))) = true := by kernel_rfl
theorem jf21 : ((Rows.volumeNobodyRow.loopsOut == Tryz.f14.resultTypes.toList.any (Tryz.checked.prog.loopsFrom ·))) = true := by kernel_rfl
theorem jf22 : ((Rows.volumeNobodyRow.plainKeys == Tryz.checked.prog.plainKeys)) = true := by kernel_rfl
theorem jf23 : (Rows.volumeNobodyRow.shortTexts.isNone) = true := by kernel_rfl
theorem jf24 : (Tryz.checked.prog.stopsHeard) = true := by kernel_rfl
theorem jf25 : (Tryz.checked.prog.mayEnter) = true := by kernel_rfl
theorem jf26 : ((Rows.volumeNobodyRow.lifted == Tryz.checked.prog.liftsFinal)) = true := by kernel_rfl
theorem jf27 : ((Tryz.checked.prog.make == some Rows.volumeNobodyRow.make)) = true := by kernel_rfl
theorem jf28 : ((Rows.volumeNobodyRow.kinds == E.kindsOf Tryz.checked.prog Tryz.f14 Rows.volumeNobodyRow)) = true := by kernel_rfl
theorem jf29 : ((Rows.volumeNobodyRow.pinned == Rows.volumeNobodyRow.pinnedBy)) = true := by kernel_rfl
theorem jf30 : ((Rows.volumeNobodyRow.veiled == (Tryz.f14.params.toList ++ Rows.volumeNobodySpec.plain.varTypes Tryz.checked.prog ++ Tryz.f14.resultTypes.toList).any (Tryz.checked.prog.veiledRec ·))) = true := by kernel_rfl
theorem jf31 : (Rows.volumeNobodyRow.veiledFits Tryz.checked.prog Tryz.f14.params.toList (Tryz.f14.params.toList ++ Rows.volumeNobodySpec.plain.varTypes Tryz.checked.prog ++ Tryz.f14.resultTypes.toList)) = true := by kernel_rfl
theorem closed : joinedFacts Tryz.checked.prog 14 Tryz.f14 Rows.volumeNobodySpec Rows.volumeNobodyRow = true := E.joined_of jf0 jf1 jf2 jf3 jf4 jf5 jf6 jf7 jf8 jf9 jf10 jf11 jf12 jf13 jf14 jf15 jf16 jf17 jf18 jf19 jf20 jf21 jf22 jf23 jf24 jf25 jf26 jf27 jf28 jf29 jf30 jf31
theorem hfn : Tryz.checked.prog.funcNamed Rows.volumeNobodyRow.func = some 14 := by kernel_rfl
theorem hinst : Tryz.f14.isInstance Tryz.checked.prog Rows.volumeNobodyRow.origin Rows.volumeNobodyRow.targs := of_decide_eq_true (by kernel_rfl)
theorem hwrap : Tryz.f14.isWrapper Tryz.checked.prog Rows.volumeNobodyRow.wrapper Rows.volumeNobodyRow.mainSum := by unfold Func.isWrapper; first | (rw [if_pos (by decide +kernel)]; kernel_rfl) | (rw [if_neg (by decide +kernel)]; exact ⟨rfl, rfl⟩)
theorem over : Rows.volumeNobodyRow.holds Tryz.pinned (OpenSpec.ofChange Rows.volumeNobodySpec) :=
  OpenClaim.holds_of_wide 14 Tryz.f14 rfl rfl rfl rfl rfl rfl rfl ⟨rfl, rfl, rfl, rfl, rfl⟩ rfl rfl rfl rfl rfl hfn Tryz.func14 closed hinst hwrap
    (fun os started H enc _ => lifted os started H enc)
theorem proved : Rows.VolumeNobodySaid := over
end Go.Proofs.YtngploohhmfaiaaGreat.volumeNobody
namespace Go.Proofs.YtngploohhmfaiaaGreat
/-- The row, under a short name. -/
theorem volumeNobody_holds : Rows.VolumeNobodySaid := volumeNobody.proved
#print axioms volumeNobody_holds
end Go.Proofs.YtngploohhmfaiaaGreat
