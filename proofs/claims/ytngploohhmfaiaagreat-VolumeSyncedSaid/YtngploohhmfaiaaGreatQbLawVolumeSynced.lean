/-
  For every volume behind changes: behind a sync of all the disk has what the volume has. No condition.
-/
import Derived.Test.YtngploohhmfaiaaGreatRows
import Derived.WalkKit
import Derived.ProofKit
import Derived.OpenShut
import Derived.ShutString
import Derived.ChangeOld
import Derived.Below
import Derived.Carry
import Derived.Lib.SmallJoins
import Derived.Test.YtngploohhmfaiaaGreatQb14
namespace Go.Proofs.YtngploohhmfaiaaGreat.volumeSynced
open Go.ChangeShapes Go.WideShapes Go.ChangeAt Go.RowKit Go.Joins
set_option linter.unusedVariables false
theorem own : ownKnob Tryz.prog.godebug = none := by kernel_rfl
theorem laidOut : laidOutB Tryz.prog = true := by kernel_rfl
theorem walk {H : Type} {enc : TypeId × Value → H} (a : Int) {da : Option Addr} {dn : Nat} (dc : Nat) {rows : List (List Value)} (W : World) (_ : (Lit.int .i64 a).wf = true) (hs : E.Sl ⟨W.heap, fun _ => 0⟩ da rows.flatten 0) (hl : rows.length = dn) (hw : ∀ r ∈ rows, r.length = Tryz.prog.cellsOf 125 ∧ E.Rdw enc Tryz.prog W 125 r) (h0 : da = none → dn = 0) (hb : dn * Tryz.prog.bytesOf 125 ≤ reachBytes) :
    Calls Tryz.prog 13 #[.int .i64 a, .slice da dn dc] W fun e W' => e = .returned (.bool true) ∧ Below W.heap.size W W' := by
  have h80 : Tryz.prog.bytesOf 125 = 80 := by kernel_rfl
  rw [h80] at hb
  unfold reachBytes at hb
  obtain ⟨ls, h1, h2, h3⟩ := E.rdw_dos hw
  exact E.walkT (T := [50, 50 + 1, 50 + 3, 50 + 10, 50 + 11, 50 + 12, 50 + 13, 50 + 14, 50 + 20, 50 + 21, 50 + 22, 50 + 23, 50 + 30, 50 + 31, 50 + 32]) (by decide) (E.w_vsync 50 a dc (by decide) (by rw [← h2]; exact hs) h3 (by omega) (by omega) h0 (by decide))
set_option maxRecDepth 100000 in
theorem lifted (os : Os) (started : os.Started) (H : Type) (enc : TypeId × Value → H) :
    ReturnsInHanded {} Tryz.checked os 13 .any (Rows.volumeSyncedSpec.pre6 enc Tryz.prog Tryz.f13 Rows.volumeSyncedRow.domain false) (Rows.volumeSyncedSpec.post enc Tryz.prog Tryz.f13 false true false false) := by
  refine E.rih_sized (C := Tryz.checked) own started (by kernel_rfl) Tryz.func13
    (ChangeSpec.witness6 (enc := enc) (C := Tryz.checked) false ⟨#[], #[.int .i64 0, .slice none 0 0], []⟩ 8 (by kernel_rfl) (by kernel_rfl) (by kernel_rfl) (by kernel_rfl)) ?_
  intro W base args ds gs before hval0 hW hwt0
  have hval : ∀ (j : Nat) t v, Tryz.f13.params[j]? = some t → args[j]? = some v → Value.okWide Tryz.prog W .any base t v := hval0
  have hW' := hW
  obtain ⟨p, q, hA0, hV, rfl, hfz, hnd⟩ := hW
  have hA : DataW.TrodAll enc Tryz.prog W 0 (fun _ => true) true Tryz.f13.params.toList args.toList ds p := hA0
  rw [Tryz.params13] at hA hval
  have hwt := E.weights_all hwt0
  rw [Tryz.params13] at hwt
  obtain ⟨v0, vs0, d0, ds0, p0, q0, hargs, rfl, rfl, h0, r0⟩ := trodAll_cons hA
  obtain ⟨v1, vs1, d1, ds1, p1, q1, rfl, rfl, rfl, h1, r1⟩ := trodAll_cons r0
  obtain ⟨rfl, rfl, rfl⟩ := trodAll_nil r1
  obtain rfl : args = #[v0, v1] := by cases args; simp_all
  obtain ⟨rfl, rfl⟩ := trodVars_none hV
  obtain ⟨a0, rfl, rfl, rfl, w0⟩ := open_int Tryz.underlying3 (hval 0 3 v0 rfl rfl) h0
  have k1 := h1
  have lt1 : ∀ x ∈ p1, x.block < W.heap.size := by obtain ⟨m, hm⟩ := k1; exact DataW.trod_lt m _ _ _ hm
  obtain ⟨a1, n1, c1, l1, hr1, hnc1, hcm1, h01, hl1, hw1, hs1⟩ := E.rdw_sl Tryz.underlying110 (E.rdw_of h1 (E.weightsEach_get (i := 1) rfl rfl hwt))
  obtain rfl := E.open_v Tryz.underlying110 (hval 1 110 v1 rfl rfl) hr1
  clear hA0 hval0
  refine (walk a0 c1 W w0 hs1 hl1 hw1 h01 hcm1).mono fun e W' ⟨he, bel⟩ => ?_
  subst he
  exact ⟨_, rfl, _, _, _, [], _, [], hW', trodAll_mk1 (shut_bool Tryz.underlying4 _), (trodAll_cons_mk (shut_int Tryz.underlying3 w0) (trodAll_cons_mk (Below.trod laidOut (by kernel_rfl) (of_decide_eq_true (by kernel_rfl)) k1 bel lt1) trodAll_mk0)), rfl, bel.frame _, fun h => by cases h⟩
theorem jf0 : (Rows.volumeSyncedRow.wf (OpenSpec.ofChange Rows.volumeSyncedSpec)) = true := by kernel_rfl
theorem jf1 : (laidOutB Tryz.checked.prog) = true := by kernel_rfl
theorem jf2 : (mapsRowed Tryz.checked.prog) = true := by kernel_rfl
theorem jf3 : (Tryz.f13.params.all (Tryz.checked.prog.readableRec ·)) = true := by kernel_rfl
theorem jf4 : (namedTie Tryz.checked.prog Rows.volumeSyncedRow.named Rows.volumeSyncedSpec.vars) = true := by kernel_rfl
theorem jf5 : ((Rows.volumeSyncedRow.stops == [])) = true := by kernel_rfl
theorem jf6 : ((Tryz.checked.prog.stops == [])) = true := by kernel_rfl
theorem jf7 : ((Rows.volumeSyncedRow.knobs == [])) = true := by kernel_rfl
theorem jf8 : ((Tryz.checked.prog.stopKnobs == [])) = true := by kernel_rfl
theorem jf9 : ((Rows.volumeSyncedRow.inPlace == Tryz.checked.prog.inPlace 13)) = true := by kernel_rfl
theorem jf10 : ((Rows.volumeSyncedRow.unfollowed == Tryz.checked.prog.unfollowed 13)) = true := by kernel_rfl
theorem jf11 : ((Rows.volumeSyncedRow.recurses == Tryz.checked.prog.recurses 13)) = true := by kernel_rfl
theorem jf12 : ((Rows.volumeSyncedRow.named == Tryz.checked.prog.varsNamed 13)) = true := by kernel_rfl
theorem jf13 : ((Rows.volumeSyncedRow.maps == (Tryz.f13.params.toList ++ Rows.volumeSyncedSpec.plain.varTypes Tryz.checked.prog).any (Tryz.checked.prog.mapsRec ·))) = true := by kernel_rfl
theorem jf14 : ((Rows.volumeSyncedRow.ifaces == (Tryz.f13.params.toList ++ Rows.volumeSyncedSpec.plain.varTypes Tryz.checked.prog).any (Tryz.checked.prog.ifacesRec ·))) = true := by kernel_rfl
theorem jf15 : ((Rows.volumeSyncedRow.mapsOut == Tryz.checked.prog.mapsAmong Tryz.f13.resultTypes.toList)) = true := by kernel_rfl
theorem jf16 : ((Rows.volumeSyncedRow.loops == (Tryz.f13.params.toList ++ Rows.volumeSyncedSpec.plain.varTypes Tryz.checked.prog).any (Tryz.checked.prog.loopsFrom ·))) = true := by kernel_rfl
theorem jf17 : ((Rows.volumeSyncedRow.wideKeys == (Tryz.f13.params.toList ++ Rows.volumeSyncedSpec.plain.varTypes Tryz.checked.prog ++ Tryz.f13.resultTypes.toList).any (Tryz.checked.prog.wideKeysFrom ·))) = true := by kernel_rfl
theorem jf18 : (Rows.volumeSyncedSpec.vars.all (Tryz.checked.prog.varReadable ·)) = true := by kernel_rfl
theorem jf19 : (Tryz.f13.resultTypes.all (fun t => Tryz.checked.prog.readableRec t && decide (t < Tryz.checked.prog.types.size))) = true := by kernel_rfl
theorem jf20 : ((Rows.volumeSyncedRow.ifacesOut == Tryz.f13.resultTypes.toList.any (Tryz.checked.prog.ifacesRec ·))) = true := by kernel_rfl
theorem jf21 : ((Rows.volumeSyncedRow.loopsOut == Tryz.f13.resultTypes.toList.any (Tryz.checked.prog.loopsFrom ·))) = true := by kernel_rfl
theorem jf22 : ((Rows.volumeSyncedRow.plainKeys == Tryz.checked.prog.plainKeys)) = true := by kernel_rfl
theorem jf23 : (Rows.volumeSyncedRow.shortTexts.isNone) = true := by kernel_rfl
theorem jf24 : (Tryz.checked.prog.stopsHeard) = true := by kernel_rfl
theorem jf25 : (Tryz.checked.prog.mayEnter) = true := by kernel_rfl
theorem jf26 : ((Rows.volumeSyncedRow.lifted == Tryz.checked.prog.liftsFinal)) = true := by kernel_rfl
theorem jf27 : ((Tryz.checked.prog.make == some Rows.volumeSyncedRow.make)) = true := by kernel_rfl
theorem jf28 : ((Rows.volumeSyncedRow.kinds == E.kindsOf Tryz.checked.prog Tryz.f13 Rows.volumeSyncedRow)) = true := by kernel_rfl
theorem jf29 : ((Rows.volumeSyncedRow.pinned == Rows.volumeSyncedRow.pinnedBy)) = true := by kernel_rfl
theorem jf30 : ((Rows.volumeSyncedRow.veiled == (Tryz.f13.params.toList ++ Rows.volumeSyncedSpec.plain.varTypes Tryz.checked.prog ++ Tryz.f13.resultTypes.toList).any (Tryz.checked.prog.veiledRec ·))) = true := by kernel_rfl
theorem jf31 : (Rows.volumeSyncedRow.veiledFits Tryz.checked.prog Tryz.f13.params.toList (Tryz.f13.params.toList ++ Rows.volumeSyncedSpec.plain.varTypes Tryz.checked.prog ++ Tryz.f13.resultTypes.toList)) = true := by kernel_rfl
theorem closed : joinedFacts Tryz.checked.prog 13 Tryz.f13 Rows.volumeSyncedSpec Rows.volumeSyncedRow = true := E.joined_of jf0 jf1 jf2 jf3 jf4 jf5 jf6 jf7 jf8 jf9 jf10 jf11 jf12 jf13 jf14 jf15 jf16 jf17 jf18 jf19 jf20 jf21 jf22 jf23 jf24 jf25 jf26 jf27 jf28 jf29 jf30 jf31
theorem hfn : Tryz.checked.prog.funcNamed Rows.volumeSyncedRow.func = some 13 := by kernel_rfl
theorem hinst : Tryz.f13.isInstance Tryz.checked.prog Rows.volumeSyncedRow.origin Rows.volumeSyncedRow.targs := of_decide_eq_true (by kernel_rfl)
theorem hwrap : Tryz.f13.isWrapper Tryz.checked.prog Rows.volumeSyncedRow.wrapper Rows.volumeSyncedRow.mainSum := by unfold Func.isWrapper; first | (rw [if_pos (by decide +kernel)]; kernel_rfl) | (rw [if_neg (by decide +kernel)]; exact ⟨rfl, rfl⟩)
theorem over : Rows.volumeSyncedRow.holds Tryz.pinned (OpenSpec.ofChange Rows.volumeSyncedSpec) :=
  OpenClaim.holds_of_wide 13 Tryz.f13 rfl rfl rfl rfl rfl rfl rfl ⟨rfl, rfl, rfl, rfl, rfl⟩ rfl rfl rfl rfl rfl hfn Tryz.func13 closed hinst hwrap
    (fun os started H enc _ => lifted os started H enc)
theorem proved : Rows.VolumeSyncedSaid := over
end Go.Proofs.YtngploohhmfaiaaGreat.volumeSynced
namespace Go.Proofs.YtngploohhmfaiaaGreat
/-- The row, under a short name. -/
theorem volumeSynced_holds : Rows.VolumeSyncedSaid := volumeSynced.proved
#print axioms volumeSynced_holds
end Go.Proofs.YtngploohhmfaiaaGreat
