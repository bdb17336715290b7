/-
  For every geometry and every sequence of places: what an inode had is free when it is cleared. No condition.
-/
import Derived.Test.YtklppdodadkcnaaGreatRows
import Derived.WalkKit
import Derived.ProofKit
import Derived.OpenShut
import Derived.ShutString
import Derived.ChangeOld
import Derived.Below
import Derived.Carry
import Derived.Lib.SmallJoins
import Derived.Test.YtklppdodadkcnaaGreatIC23
namespace Go.Proofs.YtklppdodadkcnaaGreat.inodeClears
open Go.ChangeShapes Go.WideShapes Go.ChangeAt Go.RowKit Go.Joins
set_option linter.unusedVariables false
theorem own : ownKnob Tryz.prog.godebug = none := by kernel_rfl
theorem laidOut : laidOutB Tryz.prog = true := by kernel_rfl
theorem cells23 : Tryz.prog.cellsOf 23 = 3 := by kernel_rfl
theorem walk (a b c : Int) {oa : Option Addr} {on : Nat} (oc : Nat) {os : List Int} (W : World) (_ : (Lit.int .i64 a).wf = true) (_ : (Lit.int .i64 b).wf = true) (_ : (Lit.int .i64 c).wf = true) (ho : E.Sl ⟨W.heap, fun _ => 0⟩ oa (E.ivs os) 0) (hol : os.length = on) (ho0 : oa = none → on = 0) (hob : on ≤ 17592186043904) :
  Calls Tryz.prog 5 #[.agg #[.int .i64 a, .int .i64 b, .int .i64 c], .slice oa on oc] W fun e W' => e = .returned (.bool true) ∧ Below W.heap.size W W' :=
 E.walkT (T := [50, 50 + 3, 50 + 11, 50 + 20, 50 + 21, 50 + 22, 50 + 23, 50 + 30, 50 + 32]) (by decide) (E.w_iclears 50 a b c oc _ (by decide) ho hol ho0 (by decide))
set_option maxRecDepth 100000 in
theorem lifted (os : Os) (started : os.Started) (H : Type) (enc : TypeId × Value → H) :
  ReturnsInHanded {} Tryz.checked os 5 .any (Rows.inodeClearsSpec.pre6 enc Tryz.prog Tryz.f5 Rows.inodeClearsRow.domain false) (Rows.inodeClearsSpec.post enc Tryz.prog Tryz.f5 false true false false) := by
 refine E.rih_sized (C := Tryz.checked) own started (by kernel_rfl) Tryz.func5
  (ChangeSpec.witness6 (enc := enc) (C := Tryz.checked) false ⟨#[], #[.agg #[.int .i64 0, .int .i64 0, .int .i64 0], .slice none 0 0], []⟩ 8 (by kernel_rfl) (by kernel_rfl) (by kernel_rfl) (by kernel_rfl)) ?_
 intro W base args ds gs before hval0 hW hwt0
 have hval : ∀ (j : Nat) t v, Tryz.f5.params[j]? = some t → args[j]? = some v → Value.okWide Tryz.prog W .any base t v := hval0
 have hW' := hW
 obtain ⟨p, q, hA0, hV, rfl, hfz, hnd⟩ := hW
 have hA : DataW.TrodAll enc Tryz.prog W 0 (fun _ => true) true Tryz.f5.params.toList args.toList ds p := hA0
 rw [Tryz.params5] at hA hval
 have hwt := E.weights_all hwt0
 rw [Tryz.params5] at hwt
 obtain ⟨v0, vs0, d0, ds0, p0, q0, hargs, rfl, rfl, h0, r0⟩ := trodAll_cons hA
 obtain ⟨v1, vs1, d1, ds1, p1, q1, rfl, rfl, rfl, h1, r1⟩ := trodAll_cons r0
 obtain ⟨rfl, rfl, rfl⟩ := trodAll_nil r1
 obtain rfl : args = #[v0, v1] := by cases args; simp_all
 obtain ⟨rfl, rfl⟩ := trodVars_none hV
 have k0 := h0
 have lt0 : ∀ x ∈ p0, x.block < W.heap.size := by obtain ⟨m, hm⟩ := k0; exact DataW.trod_lt m _ _ _ hm
 obtain ⟨c00, c01, c02, y00, y01, y02, m0, hv0, _, _, hy00, hy01, hy02⟩ := open_agg3 Tryz.underlying23 (by kernel_rfl) cells23 (hval 0 23 v0 rfl rfl) h0
 subst hv0
 obtain ⟨b00, e00, _, w00⟩ := DataW.trod_int Tryz.underlying3 hy00
 simp at e00
 subst e00
 obtain ⟨b01, e01, _, w01⟩ := DataW.trod_int Tryz.underlying3 hy01
 simp at e01
 subst e01
 obtain ⟨b02, e02, _, w02⟩ := DataW.trod_int Tryz.underlying3 hy02
 simp at e02
 subst e02
 have k1 := h1
 have lt1 : ∀ x ∈ p1, x.block < W.heap.size := by obtain ⟨m, hm⟩ := k1; exact DataW.trod_lt m _ _ _ hm
 obtain ⟨a1, n1, c1, l1, hr1, hnc1, hcm1, h01, hl1, hs1⟩ := E.rdw_ints Tryz.underlying45 Tryz.underlying3 (by kernel_rfl) (E.rdw_of h1 (E.weightsEach_get (i := 1) rfl rfl hwt))
 obtain rfl := E.open_v Tryz.underlying45 (hval 1 45 v1 rfl rfl) hr1
 clear hA0 hval0
 refine (walk b00 b01 b02 c1 W w00 w01 w02 hs1 hl1 h01 hcm1).mono fun e W' ⟨he, bel⟩ => ?_
 subst he
 exact ⟨_, rfl, _, _, _, [], _, [], hW', trodAll_mk1 (shut_bool Tryz.underlying4 _), (trodAll_cons_mk (Below.trod laidOut (by kernel_rfl) (of_decide_eq_true (by kernel_rfl)) k0 bel lt0) (trodAll_cons_mk (Below.trod laidOut (by kernel_rfl) (of_decide_eq_true (by kernel_rfl)) k1 bel lt1) trodAll_mk0)), rfl, bel.frame _, fun h => by cases h⟩
theorem jf0 : (Rows.inodeClearsRow.wf (OpenSpec.ofChange Rows.inodeClearsSpec)) = true := by kernel_rfl
theorem jf1 : (laidOutB Tryz.checked.prog) = true := by kernel_rfl
theorem jf2 : (mapsRowed Tryz.checked.prog) = true := by kernel_rfl
theorem jf3 : (Tryz.f5.params.all (Tryz.checked.prog.readableRec ·)) = true := by kernel_rfl
theorem jf4 : (namedTie Tryz.checked.prog Rows.inodeClearsRow.named Rows.inodeClearsSpec.vars) = true := by kernel_rfl
theorem jf5 : ((Rows.inodeClearsRow.stops == [])) = true := by kernel_rfl
theorem jf6 : ((Tryz.checked.prog.stops == [])) = true := by kernel_rfl
theorem jf7 : ((Rows.inodeClearsRow.knobs == [])) = true := by kernel_rfl
theorem jf8 : ((Tryz.checked.prog.stopKnobs == [])) = true := by kernel_rfl
theorem jf9 : ((Rows.inodeClearsRow.inPlace == Tryz.checked.prog.inPlace 5)) = true := by kernel_rfl
theorem jf10 : ((Rows.inodeClearsRow.unfollowed == Tryz.checked.prog.unfollowed 5)) = true := by kernel_rfl
theorem jf11 : ((Rows.inodeClearsRow.recurses == Tryz.checked.prog.recurses 5)) = true := by kernel_rfl
theorem jf12 : ((Rows.inodeClearsRow.named == Tryz.checked.prog.varsNamed 5)) = true := by kernel_rfl
theorem jf13 : ((Rows.inodeClearsRow.maps == (Tryz.f5.params.toList ++ Rows.inodeClearsSpec.plain.varTypes Tryz.checked.prog).any (Tryz.checked.prog.mapsRec ·))) = true := by kernel_rfl
theorem jf14 : ((Rows.inodeClearsRow.ifaces == (Tryz.f5.params.toList ++ Rows.inodeClearsSpec.plain.varTypes Tryz.checked.prog).any (Tryz.checked.prog.ifacesRec ·))) = true := by kernel_rfl
theorem jf15 : ((Rows.inodeClearsRow.mapsOut == Tryz.checked.prog.mapsAmong Tryz.f5.resultTypes.toList)) = true := by kernel_rfl
theorem jf16 : ((Rows.inodeClearsRow.loops == (Tryz.f5.params.toList ++ Rows.inodeClearsSpec.plain.varTypes Tryz.checked.prog).any (Tryz.checked.prog.loopsFrom ·))) = true := by kernel_rfl
theorem jf17 : ((Rows.inodeClearsRow.wideKeys == (Tryz.f5.params.toList ++ Rows.inodeClearsSpec.plain.varTypes Tryz.checked.prog ++ Tryz.f5.resultTypes.toList).any (Tryz.checked.prog.wideKeysFrom ·))) = true := by kernel_rfl
theorem jf18 : (Rows.inodeClearsSpec.vars.all (Tryz.checked.prog.varReadable ·)) = true := by kernel_rfl
theorem jf19 : (Tryz.f5.resultTypes.all (fun t => Tryz.checked.prog.readableRec t && decide (t < Tryz.checked.prog.types.size))) = true := by kernel_rfl
theorem jf20 : ((Rows.inodeClearsRow.ifacesOut == Tryz.f5.resultTypes.toList.any (Tryz.checked.prog.ifacesRec ·))) = true := by kernel_rfl
theorem jf21 : ((Rows.inodeClearsRow.loopsOut == Tryz.f5.resultTypes.toList.any (Tryz.checked.prog.loopsFrom ·))) = true := by kernel_rfl
theorem jf22 : ((Rows.inodeClearsRow.plainKeys == Tryz.checked.prog.plainKeys)) = true := by kernel_rfl
theorem jf23 : (Rows.inodeClearsRow.shortTexts.isNone) = true := by kernel_rfl
theorem jf24 : (Tryz.checked.prog.stopsHeard) = true := by kernel_rfl
theorem jf25 : (Tryz.checked.prog.mayEnter) = true := by kernel_rfl
theorem jf26 : ((Rows.inodeClearsRow.lifted == Tryz.checked.prog.liftsFinal)) = true := by kernel_rfl
theorem jf27 : ((Tryz.checked.prog.make == some Rows.inodeClearsRow.make)) = true := by kernel_rfl
theorem jf28 : ((Rows.inodeClearsRow.kinds == E.kindsOf Tryz.checked.prog Tryz.f5 Rows.inodeClearsRow)) = true := by kernel_rfl
theorem jf29 : ((Rows.inodeClearsRow.pinned == Rows.inodeClearsRow.pinnedBy)) = true := by kernel_rfl
theorem jf30 : ((Rows.inodeClearsRow.veiled == (Tryz.f5.params.toList ++ Rows.inodeClearsSpec.plain.varTypes Tryz.checked.prog ++ Tryz.f5.resultTypes.toList).any (Tryz.checked.prog.veiledRec ·))) = true := by kernel_rfl
theorem jf31 : (Rows.inodeClearsRow.veiledFits Tryz.checked.prog Tryz.f5.params.toList (Tryz.f5.params.toList ++ Rows.inodeClearsSpec.plain.varTypes Tryz.checked.prog ++ Tryz.f5.resultTypes.toList)) = true := by kernel_rfl
theorem closed : joinedFacts Tryz.checked.prog 5 Tryz.f5 Rows.inodeClearsSpec Rows.inodeClearsRow = true := E.joined_of jf0 jf1 jf2 jf3 jf4 jf5 jf6 jf7 jf8 jf9 jf10 jf11 jf12 jf13 jf14 jf15 jf16 jf17 jf18 jf19 jf20 jf21 jf22 jf23 jf24 jf25 jf26 jf27 jf28 jf29 jf30 jf31
theorem hfn : Tryz.checked.prog.funcNamed Rows.inodeClearsRow.func = some 5 := by kernel_rfl
theorem hinst : Tryz.f5.isInstance Tryz.checked.prog Rows.inodeClearsRow.origin Rows.inodeClearsRow.targs := of_decide_eq_true (by kernel_rfl)
theorem hwrap : Tryz.f5.isWrapper Tryz.checked.prog Rows.inodeClearsRow.wrapper Rows.inodeClearsRow.mainSum := by unfold Func.isWrapper; first | (rw [if_pos (by decide +kernel)]; kernel_rfl) | (rw [if_neg (by decide +kernel)]; exact ⟨rfl, rfl⟩)
theorem over : Rows.inodeClearsRow.holds Tryz.pinned (OpenSpec.ofChange Rows.inodeClearsSpec) :=
 OpenClaim.holds_of_wide 5 Tryz.f5 rfl rfl rfl rfl rfl rfl rfl ⟨rfl, rfl, rfl, rfl, rfl⟩ rfl rfl rfl rfl rfl hfn Tryz.func5 closed hinst hwrap
  (fun os started H enc _ => lifted os started H enc)
theorem proved : Rows.InodeClearsSaid := over
end Go.Proofs.YtklppdodadkcnaaGreat.inodeClears
namespace Go.Proofs.YtklppdodadkcnaaGreat
theorem inodeClears_holds : Rows.InodeClearsSaid := inodeClears.proved
#print axioms inodeClears_holds
end Go.Proofs.YtklppdodadkcnaaGreat
