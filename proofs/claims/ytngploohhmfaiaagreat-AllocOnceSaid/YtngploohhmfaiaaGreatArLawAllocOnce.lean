/-
  For every geometry and every sequence of calls: what is given was not allocated, and is then; nothing else has turned; taken back it is free again. No condition.
-/
import Derived.Test.YtngploohhmfaiaaGreatRows
import Derived.WalkKit
import Derived.ProofKit
import Derived.OpenShut
import Derived.ShutString
import Derived.ChangeOld
import Derived.Below
import Derived.Carry
import Derived.Lib.SmallJoins
import Derived.Test.YtngploohhmfaiaaGreatAr14
namespace Go.Proofs.YtngploohhmfaiaaGreat.allocOnce
open Go.ChangeShapes Go.WideShapes Go.ChangeAt Go.RowKit Go.Joins
set_option linter.unusedVariables false
theorem own : ownKnob Tryz.prog.godebug = none := by kernel_rfl
theorem laidOut : laidOutB Tryz.prog = true := by kernel_rfl
theorem cells32 : Tryz.prog.cellsOf 32 = 3 := by kernel_rfl
theorem walk {H : Type} {enc : TypeId × Value → H} (a b c : Int) {da : Option Addr} {dn : Nat} (dc : Nat) {rows : List (List Value)} (W : World) (_ : (Lit.int .i64 a).wf = true) (_ : (Lit.int .i64 b).wf = true) (_ : (Lit.int .i64 c).wf = true) (hs : E.Sl ⟨W.heap, fun _ => 0⟩ da rows.flatten 0) (hl : rows.length = dn) (hw : ∀ r ∈ rows, r.length = Tryz.prog.cellsOf 105 ∧ E.Rdw enc Tryz.prog W 105 r) (h0 : da = none → dn = 0) (hb : dn * Tryz.prog.bytesOf 105 ≤ reachBytes) :
    Calls Tryz.prog 8 #[.agg #[.int .i64 a, .int .i64 b, .int .i64 c], .slice da dn dc] W fun e W' => e = .returned (.bool true) ∧ Below W.heap.size W W' := by
  have h48 : Tryz.prog.bytesOf 105 = 48 := by kernel_rfl
  rw [h48] at hb
  unfold reachBytes at hb
  obtain ⟨ls, h1, h2⟩ := E.rdw_do11s hw
  exact E.walkT (T := [50, 50 + 3, 50 + 11, 50 + 20, 50 + 21, 50 + 22, 50 + 23, 50 + 30, 50 + 32]) (by decide) (E.w_aonce 50 a b c dc _ (by decide) (by rw [← h2]; exact hs) (by omega) h0 (by omega) (by decide))
set_option maxRecDepth 100000 in
theorem lifted (os : Os) (started : os.Started) (H : Type) (enc : TypeId × Value → H) :
    ReturnsInHanded {} Tryz.checked os 8 .any (Rows.allocOnceSpec.pre6 enc Tryz.prog Tryz.f8 Rows.allocOnceRow.domain false) (Rows.allocOnceSpec.post enc Tryz.prog Tryz.f8 false true false false) := by
  refine E.rih_sized (C := Tryz.checked) own started (by kernel_rfl) Tryz.func8
    (ChangeSpec.witness6 (enc := enc) (C := Tryz.checked) false ⟨#[], #[.agg #[.int .i64 0, .int .i64 0, .int .i64 0], .slice none 0 0], []⟩ 8 (by kernel_rfl) (by kernel_rfl) (by kernel_rfl) (by kernel_rfl)) ?_
  intro W base args ds gs before hval0 hW hwt0
  have hval : ∀ (j : Nat) t v, Tryz.f8.params[j]? = some t → args[j]? = some v → Value.okWide Tryz.prog W .any base t v := hval0
  have hW' := hW
  obtain ⟨p, q, hA0, hV, rfl, hfz, hnd⟩ := hW
  have hA : DataW.TrodAll enc Tryz.prog W 0 (fun _ => true) true Tryz.f8.params.toList args.toList ds p := hA0
  rw [Tryz.params8] at hA hval
  have hwt := E.weights_all hwt0
  rw [Tryz.params8] at hwt
  obtain ⟨v0, vs0, d0, ds0, p0, q0, hargs, rfl, rfl, h0, r0⟩ := trodAll_cons hA
  obtain ⟨v1, vs1, d1, ds1, p1, q1, rfl, rfl, rfl, h1, r1⟩ := trodAll_cons r0
  obtain ⟨rfl, rfl, rfl⟩ := trodAll_nil r1
  obtain rfl : args = #[v0, v1] := by cases args; simp_all
  obtain ⟨rfl, rfl⟩ := trodVars_none hV
  have k0 := h0
  have lt0 : ∀ x ∈ p0, x.block < W.heap.size := by obtain ⟨m, hm⟩ := k0; exact DataW.trod_lt m _ _ _ hm
  obtain ⟨c00, c01, c02, y00, y01, y02, m0, hv0, _, _, hy00, hy01, hy02⟩ := open_agg3 Tryz.underlying32 (by kernel_rfl) cells32 (hval 0 32 v0 rfl rfl) h0
  subst hv0
  obtain ⟨b00, e00, _, w00⟩ := DataW.trod_int Tryz.underlying3 hy00
  simp at e00
  subst e00
  obtain ⟨b01, e01, _, w01⟩ := DataW.trod_int Tryz.underlying3 hy01
  simp at e01
  subst e01
  obtain ⟨b02, e02, _, w02⟩ := DataW.trod_int Tryz.underlying3 hy02
  simp at e02
  subst e02
  have k1 := h1
  have lt1 : ∀ x ∈ p1, x.block < W.heap.size := by obtain ⟨m, hm⟩ := k1; exact DataW.trod_lt m _ _ _ hm
  obtain ⟨a1, n1, c1, l1, hr1, hnc1, hcm1, h01, hl1, hw1, hs1⟩ := E.rdw_sl Tryz.underlying103 (E.rdw_of h1 (E.weightsEach_get (i := 1) rfl rfl hwt))
  obtain rfl := E.open_v Tryz.underlying103 (hval 1 103 v1 rfl rfl) hr1
  clear hA0 hval0
  refine (walk b00 b01 b02 c1 W w00 w01 w02 hs1 hl1 hw1 h01 hcm1).mono fun e W' ⟨he, bel⟩ => ?_
  subst he
  exact ⟨_, rfl, _, _, _, [], _, [], hW', trodAll_mk1 (shut_bool Tryz.underlying4 _), (trodAll_cons_mk (Below.trod laidOut (by kernel_rfl) (of_decide_eq_true (by kernel_rfl)) k0 bel lt0) (trodAll_cons_mk (Below.trod laidOut (by kernel_rfl) (of_decide_eq_true (by kernel_rfl)) k1 bel lt1) trodAll_mk0)), rfl, bel.frame _, fun h => by cases h⟩
theorem jf0 : (Rows.allocOnceRow.wf (OpenSpec.ofChange Rows.allocOnceSpec)) = true := by kernel_rfl
theorem jf1 : (laidOutB Tryz.checked.prog) = true := by kernel_rfl
theorem jf2 : (mapsRowed Tryz.checked.prog) = true := by kernel_rfl
theorem jf3 : (Tryz.f8.params.all (Tryz.checked.prog.readableRec ·)) = true := by kernel_rfl
theorem jf4 : (namedTie Tryz.checked.prog Rows.allocOnceRow.named Rows.allocOnceSpec.vars) = true := by kernel_rfl
theorem jf5 : ((Rows.allocOnceRow.stops == [])) = true := by kernel_rfl
theorem jf6 : ((Tryz.checked.prog.stops == [])) = true := by kernel_rfl
theorem jf7 : ((Rows.allocOnceRow.knobs == [])) = true := by kernel_rfl
theorem jf8 : ((Tryz.checked.prog.stopKnobs == [])) = true := by kernel_rfl
theorem jf9 : ((Rows.allocOnceRow.inPlace == Tryz.checked.prog.inPlace 8)) = true := by kernel_rfl
theorem jf10 : ((Rows.allocOnceRow.unfollowed == Tryz.checked.prog.unfollowed 8)) = true := by kernel_rfl
theorem jf11 : ((Rows.allocOnceRow.recurses == Tryz.checked.prog.recurses 8)) = true := by kernel_rfl
theorem jf12 : ((Rows.allocOnceRow.named == Tryz.checked.prog.varsNamed 8)) = true := by kernel_rfl
theorem jf13 : ((Rows.allocOnceRow.maps == (Tryz.f8.params.toList ++ Rows.allocOnceSpec.plain.varTypes Tryz.checked.prog).any (Tryz.checked.prog.mapsRec ·))) = true := by kernel_rfl
theorem jf14 : ((Rows.allocOnceRow.ifaces == (Tryz.f8.params.toList ++ Rows.allocOnceSpec.plain.varTypes Tryz.checked.prog).any (Tryz.checked.prog.ifacesRec ·))) = true := by kernel_rfl
theorem jf15 : ((Rows.allocOnceRow.mapsOut == Tryz.checked.prog.mapsAmong Tryz.f8.resultTypes.toList)) = true := by kernel_rfl
theorem jf16 : ((Rows.allocOnceRow.loops == (Tryz.f8.params.toList ++ Rows.allocOnceSpec.plain.varTypes Tryz.checked.prog).any (Tryz.checked.prog.loopsFrom ·))) = true := by kernel_rfl
theorem jf17 : ((Rows.allocOnceRow.wideKeys == (Tryz.f8.params.toList ++ Rows.allocOnceSpec.plain.varTypes Tryz.checked.prog ++ Tryz.f8.resultTypes.toList).any (Tryz.checked.prog.wideKeysFrom ·))) = true := by kernel_rfl
theorem jf18 : (Rows.allocOnceSpec.vars.all (Tryz.checked.prog.varReadable ·)) = true := by kernel_rfl
theorem jf19 : (Tryz.f8.resultTypes.all (fun t => Tryz.checked.prog.readableRec t && decide (t < Tryz.checked.prog.types.size))) = true := by kernel_rfl
theorem jf20 : ((Rows.allocOnceRow.ifacesOut == Tryz.f8.resultTypes.toList.any (Tryz.checked.prog.ifacesRec ·))) = true := by kernel_rfl
theorem jf21 : ((Rows.allocOnceRow.loopsOut == Tryz.f8.resultTypes.toList.any (Tryz.checked.prog.loopsFrom ·))) = true := by kernel_rfl
theorem jf22 : ((Rows.allocOnceRow.plainKeys == Tryz.checked.prog.plainKeys)) = true := by kernel_rfl
theorem jf23 : (Rows.allocOnceRow.shortTexts.isNone) = true := by kernel_rfl
theorem jf24 : (Tryz.checked.prog.stopsHeard) = true := by kernel_rfl
theorem jf25 : (Tryz.checked.prog.mayEnter) = true := by kernel_rfl
theorem jf26 : ((Rows.allocOnceRow.lifted == Tryz.checked.prog.liftsFinal)) = true := by kernel_rfl
theorem jf27 : ((Tryz.checked.prog.make == some Rows.allocOnceRow.make)) = true := by kernel_rfl
theorem jf28 : ((Rows.allocOnceRow.kinds == E.kindsOf Tryz.checked.prog Tryz.f8 Rows.allocOnceRow)) = true := by kernel_rfl
theorem jf29 : ((Rows.allocOnceRow.pinned == Rows.allocOnceRow.pinnedBy)) = true := by kernel_rfl
theorem jf30 : ((Rows.allocOnceRow.veiled == (Tryz.f8.params.toList ++ Rows.allocOnceSpec.plain.varTypes Tryz.checked.prog ++ Tryz.f8.resultTypes.toList).any (Tryz.checked.prog.veiledRec ·))) = true := by kernel_rfl
theorem jf31 : (Rows.allocOnceRow.veiledFits Tryz.checked.prog Tryz.f8.params.toList (Tryz.f8.params.toList ++ Rows.allocOnceSpec.plain.varTypes Tryz.checked.prog ++ Tryz.f8.resultTypes.toList)) = true := by kernel_rfl
theorem closed : joinedFacts Tryz.checked.prog 8 Tryz.f8 Rows.allocOnceSpec Rows.allocOnceRow = true := E.joined_of jf0 jf1 jf2 jf3 jf4 jf5 jf6 jf7 jf8 jf9 jf10 jf11 jf12 jf13 jf14 jf15 jf16 jf17 jf18 jf19 jf20 jf21 jf22 jf23 jf24 jf25 jf26 jf27 jf28 jf29 jf30 jf31
theorem hfn : Tryz.checked.prog.funcNamed Rows.allocOnceRow.func = some 8 := by kernel_rfl
theorem hinst : Tryz.f8.isInstance Tryz.checked.prog Rows.allocOnceRow.origin Rows.allocOnceRow.targs := of_decide_eq_true (by kernel_rfl)
theorem hwrap : Tryz.f8.isWrapper Tryz.checked.prog Rows.allocOnceRow.wrapper Rows.allocOnceRow.mainSum := by unfold Func.isWrapper; first | (rw [if_pos (by decide +kernel)]; kernel_rfl) | (rw [if_neg (by decide +kernel)]; exact ⟨rfl, rfl⟩)
theorem over : Rows.allocOnceRow.holds Tryz.pinned (OpenSpec.ofChange Rows.allocOnceSpec) :=
  OpenClaim.holds_of_wide 8 Tryz.f8 rfl rfl rfl rfl rfl rfl rfl ⟨rfl, rfl, rfl, rfl, rfl⟩ rfl rfl rfl rfl rfl hfn Tryz.func8 closed hinst hwrap
    (fun os started H enc _ => lifted os started H enc)
theorem proved : Rows.AllocOnceSaid := over
end Go.Proofs.YtngploohhmfaiaaGreat.allocOnce
namespace Go.Proofs.YtngploohhmfaiaaGreat
/-- The row, under a short name. -/
theorem allocOnce_holds : Rows.AllocOnceSaid := allocOnce.proved
#print axioms allocOnce_holds
end Go.Proofs.YtngploohhmfaiaaGreat
