/-
  For every geometry, group and kind: inodes are given each once, until there are none left. No condition.
-/
import Derived.Test.YtngploohhmfaiaaGreatRows
import Derived.WalkKit
import Derived.ProofKit
import Derived.OpenShut
import Derived.ShutString
import Derived.ChangeOld
import Derived.Below
import Derived.Carry
import Derived.Lib.SmallJoins
import Derived.Test.YtngploohhmfaiaaGreatAt13
namespace Go.Proofs.YtngploohhmfaiaaGreat.allocInodes
open Go.ChangeShapes Go.WideShapes Go.ChangeAt Go.RowKit Go.Joins
set_option linter.unusedVariables false
theorem own : ownKnob Tryz.prog.godebug = none := by kernel_rfl
theorem laidOut : laidOutB Tryz.prog = true := by kernel_rfl
theorem cells32 : Tryz.prog.cellsOf 32 = 3 := by kernel_rfl
theorem walk (a b c n : Int) (d : Bool) (W : World) (_ : (Lit.int .i64 a).wf = true) (_ : (Lit.int .i64 b).wf = true) (_ : (Lit.int .i64 c).wf = true) (_ : (Lit.int .i64 n).wf = true) :
    Calls Tryz.prog 7 #[.agg #[.int .i64 a, .int .i64 b, .int .i64 c], .int .i64 n, .bool d] W fun e W' => e = .returned (.bool true) ∧ Below W.heap.size W W' :=
  E.walkT (T := [50, 50 + 3, 50 + 11, 50 + 20, 50 + 21, 50 + 22, 50 + 23, 50 + 30, 50 + 32]) (by decide) (E.w_ainodes 50 a b c n d _ (by decide))
set_option maxRecDepth 100000 in
theorem lifted (os : Os) (started : os.Started) (H : Type) (enc : TypeId × Value → H) :
    ReturnsInHanded {} Tryz.checked os 7 .any (Rows.allocInodesSpec.pre6 enc Tryz.prog Tryz.f7 Rows.allocInodesRow.domain false) (Rows.allocInodesSpec.post enc Tryz.prog Tryz.f7 false true false false) := by
  refine returnsInHanded_of_change (C := Tryz.checked) own started (by kernel_rfl) Tryz.func7
    (ChangeSpec.witness6 (enc := enc) (C := Tryz.checked) false ⟨#[], #[.agg #[.int .i64 0, .int .i64 0, .int .i64 0], .int .i64 0, .bool false], []⟩ 8 (by kernel_rfl) (by kernel_rfl) (by kernel_rfl) (by kernel_rfl)) ?_
  intro W base args ds gs before hval0 hW hcnd _
  have hval : ∀ (j : Nat) t v, Tryz.f7.params[j]? = some t → args[j]? = some v → Value.okWide Tryz.prog W .any base t v := hval0
  have hW' := hW
  obtain ⟨p, q, hA0, hV, rfl, hfz, hnd⟩ := hW
  have hA : DataW.TrodAll enc Tryz.prog W 0 (fun _ => true) true Tryz.f7.params.toList args.toList ds p := hA0
  rw [Tryz.params7] at hA hval
  obtain ⟨v0, vs0, d0, ds0, p0, q0, hargs, rfl, rfl, h0, r0⟩ := trodAll_cons hA
  obtain ⟨v1, vs1, d1, ds1, p1, q1, rfl, rfl, rfl, h1, r1⟩ := trodAll_cons r0
  obtain ⟨v2, vs2, d2, ds2, p2, q2, rfl, rfl, rfl, h2, r2⟩ := trodAll_cons r1
  obtain ⟨rfl, rfl, rfl⟩ := trodAll_nil r2
  obtain rfl : args = #[v0, v1, v2] := by cases args; simp_all
  obtain ⟨rfl, rfl⟩ := trodVars_none hV
  have k0 := h0
  have lt0 : ∀ x ∈ p0, x.block < W.heap.size := by obtain ⟨m, hm⟩ := k0; exact DataW.trod_lt m _ _ _ hm
  obtain ⟨c00, c01, c02, y00, y01, y02, m0, hv0, _, _, hy00, hy01, hy02⟩ := open_agg3 Tryz.underlying32 (by kernel_rfl) cells32 (hval 0 32 v0 rfl rfl) h0
  subst hv0
  obtain ⟨b00, e00, _, w00⟩ := DataW.trod_int Tryz.underlying3 hy00
  simp at e00
  subst e00
  obtain ⟨b01, e01, _, w01⟩ := DataW.trod_int Tryz.underlying3 hy01
  simp at e01
  subst e01
  obtain ⟨b02, e02, _, w02⟩ := DataW.trod_int Tryz.underlying3 hy02
  simp at e02
  subst e02
  obtain ⟨a1, rfl, rfl, rfl, w1⟩ := open_int Tryz.underlying3 (hval 1 3 v1 rfl rfl) h1
  obtain ⟨a2, rfl, rfl, rfl⟩ := open_bool Tryz.underlying4 (hval 2 4 v2 rfl rfl) h2
  clear hA0 hval0
  refine (walk b00 b01 b02 a1 a2 W w00 w01 w02 w1).mono fun e W' ⟨he, bel⟩ => ?_
  subst he
  exact ⟨_, rfl, _, _, _, [], _, [], hW', trodAll_mk1 (shut_bool Tryz.underlying4 _), (trodAll_cons_mk (Below.trod laidOut (by kernel_rfl) (of_decide_eq_true (by kernel_rfl)) k0 bel lt0) (trodAll_cons_mk (shut_int Tryz.underlying3 w1) (trodAll_cons_mk (shut_bool Tryz.underlying4 _) trodAll_mk0))), rfl, bel.frame _, fun h => by cases h⟩
theorem jf0 : (Rows.allocInodesRow.wf (OpenSpec.ofChange Rows.allocInodesSpec)) = true := by kernel_rfl
theorem jf1 : (laidOutB Tryz.checked.prog) = true := by kernel_rfl
theorem jf2 : (mapsRowed Tryz.checked.prog) = true := by kernel_rfl
theorem jf3 : (Tryz.f7.params.all (Tryz.checked.prog.readableRec ·)) = true := by kernel_rfl
theorem jf4 : (namedTie Tryz.checked.prog Rows.allocInodesRow.named Rows.allocInodesSpec.vars) = true := by kernel_rfl
theorem jf5 : ((Rows.allocInodesRow.stops == [])) = true := by kernel_rfl
theorem jf6 : ((Tryz.checked.prog.stops == [])) = true := by kernel_rfl
theorem jf7 : ((Rows.allocInodesRow.knobs == [])) = true := by kernel_rfl
theorem jf8 : ((Tryz.checked.prog.stopKnobs == [])) = true := by kernel_rfl
theorem jf9 : ((Rows.allocInodesRow.inPlace == Tryz.checked.prog.inPlace 7)) = true := by kernel_rfl
theorem jf10 : ((Rows.allocInodesRow.unfollowed == Tryz.checked.prog.unfollowed 7)) = true := by kernel_rfl
theorem jf11 : ((Rows.allocInodesRow.recurses == Tryz.checked.prog.recurses 7)) = true := by kernel_rfl
theorem jf12 : ((Rows.allocInodesRow.named == Tryz.checked.prog.varsNamed 7)) = true := by kernel_rfl
theorem jf13 : ((Rows.allocInodesRow.maps == (Tryz.f7.params.toList ++ Rows.allocInodesSpec.plain.varTypes Tryz.checked.prog).any (Tryz.checked.prog.mapsRec ·))) = true := by kernel_rfl
theorem jf14 : ((Rows.allocInodesRow.ifaces == (Tryz.f7.params.toList ++ Rows.allocInodesSpec.plain.varTypes Tryz.checked.prog).any (Tryz.checked.prog.ifacesRec ·))) = true := by kernel_rfl
theorem jf15 : ((Rows.allocInodesRow.mapsOut == Tryz.checked.prog.mapsAmong Tryz.f7.resultTypes.toList)) = true := by kernel_rfl
theorem jf16 : ((Rows.allocInodesRow.loops == (Tryz.f7.params.toList ++ Rows.allocInodesSpec.plain.varTypes Tryz.checked.prog).any (Tryz.checked.prog.loopsFrom ·))) = true := by kernel_rfl
theorem jf17 : ((Rows.allocInodesRow.wideKeys == (Tryz.f7.params.toList ++ Rows.allocInodesSpec.plain.varTypes Tryz.checked.prog ++ Tryz.f7.resultTypes.toList).any (Tryz.checked.prog.wideKeysFrom ·))) = true := by kernel_rfl
theorem jf18 : (Rows.allocInodesSpec.vars.all (Tryz.checked.prog.varReadable ·)) = true := by kernel_rfl
theorem jf19 : (Tryz.f7.resultTypes.all (fun t => Tryz.checked.prog.readableRec t && decide (t < Tryz.checked.prog.types.size))) = true := by kernel_rfl
theorem jf20 : ((Rows.allocInodesRow.ifacesOut == Tryz.f7.resultTypes.toList.any (Tryz.checked.prog.ifacesRec ·))) = true := by kernel_rfl
theorem jf21 : ((Rows.allocInodesRow.loopsOut == Tryz.f7.resultTypes.toList.any (Tryz.checked.prog.loopsFrom ·))) = true := by kernel_rfl
theorem jf22 : ((Rows.allocInodesRow.plainKeys == Tryz.checked.prog.plainKeys)) = true := by kernel_rfl
theorem jf23 : (Rows.allocInodesRow.shortTexts.isNone) = true := by kernel_rfl
theorem jf24 : (Tryz.checked.prog.stopsHeard) = true := by kernel_rfl
theorem jf25 : (Tryz.checked.prog.mayEnter) = true := by kernel_rfl
theorem jf26 : ((Rows.allocInodesRow.lifted == Tryz.checked.prog.liftsFinal)) = true := by kernel_rfl
theorem jf27 : ((Tryz.checked.prog.make == some Rows.allocInodesRow.make)) = true := by kernel_rfl
theorem jf28 : ((Rows.allocInodesRow.kinds == E.kindsOf Tryz.checked.prog Tryz.f7 Rows.allocInodesRow)) = true := by kernel_rfl
theorem jf29 : ((Rows.allocInodesRow.pinned == Rows.allocInodesRow.pinnedBy)) = true := by kernel_rfl
theorem jf30 : ((Rows.allocInodesRow.veiled == (Tryz.f7.params.toList ++ Rows.allocInodesSpec.plain.varTypes Tryz.checked.prog ++ Tryz.f7.resultTypes.toList).any (Tryz.checked.prog.veiledRec ·))) = true := by kernel_rfl
theorem jf31 : (Rows.allocInodesRow.veiledFits Tryz.checked.prog Tryz.f7.params.toList (Tryz.f7.params.toList ++ Rows.allocInodesSpec.plain.varTypes Tryz.checked.prog ++ Tryz.f7.resultTypes.toList)) = true := by kernel_rfl
theorem closed : joinedFacts Tryz.checked.prog 7 Tryz.f7 Rows.allocInodesSpec Rows.allocInodesRow = true := E.joined_of jf0 jf1 jf2 jf3 jf4 jf5 jf6 jf7 jf8 jf9 jf10 jf11 jf12 jf13 jf14 jf15 jf16 jf17 jf18 jf19 jf20 jf21 jf22 jf23 jf24 jf25 jf26 jf27 jf28 jf29 jf30 jf31
theorem hfn : Tryz.checked.prog.funcNamed Rows.allocInodesRow.func = some 7 := by kernel_rfl
theorem hinst : Tryz.f7.isInstance Tryz.checked.prog Rows.allocInodesRow.origin Rows.allocInodesRow.targs := of_decide_eq_true (by kernel_rfl)
theorem hwrap : Tryz.f7.isWrapper Tryz.checked.prog Rows.allocInodesRow.wrapper Rows.allocInodesRow.mainSum := by unfold Func.isWrapper; first | (rw [if_pos (by decide +kernel)]; kernel_rfl) | (rw [if_neg (by decide +kernel)]; exact ⟨rfl, rfl⟩)
theorem over : Rows.allocInodesRow.holds Tryz.pinned (OpenSpec.ofChange Rows.allocInodesSpec) :=
  OpenClaim.holds_of_wide 7 Tryz.f7 rfl rfl rfl rfl rfl rfl rfl ⟨rfl, rfl, rfl, rfl, rfl⟩ rfl rfl rfl rfl rfl hfn Tryz.func7 closed hinst hwrap
    (fun os started H enc _ => lifted os started H enc)
theorem proved : Rows.AllocInodesSaid := over
end Go.Proofs.YtngploohhmfaiaaGreat.allocInodes
namespace Go.Proofs.YtngploohhmfaiaaGreat
/-- The row, under a short name. -/
theorem allocInodes_holds : Rows.AllocInodesSaid := allocInodes.proved
#print axioms allocInodes_holds
end Go.Proofs.YtngploohhmfaiaaGreat
