/-
  For every image, request and number of a snapshot: a request of another snapshot is refused, and nothing has changed. No condition.
-/
import Derived.Test.YtkaikaodhegmhaaGreatRows
import Derived.WalkKit
import Derived.ProofKit
import Derived.OpenShut
import Derived.ShutString
import Derived.ChangeOld
import Derived.Below
import Derived.Carry
import Derived.Lib.SmallJoins
import Derived.Test.YtkaikaodhegmhaaGreatAS6
namespace Go.Proofs.YtkaikaodhegmhaaGreat.adjustStale
open Go.ChangeShapes Go.WideShapes Go.ChangeAt Go.RowKit Go.Joins
set_option linter.unusedVariables false
theorem own : ownKnob Tryz.prog.godebug = none := by kernel_rfl
theorem laidOut : laidOutB Tryz.prog = true := by kernel_rfl
theorem walk {H : Type} {enc : TypeId × Value → H} {da : Option Addr} {dn : Nat} (dc : Nat) {rows : List (List Value)} (q0 q1 q2 q3 gen : Int) (W : World) (hs : E.Sl ⟨W.heap, fun _ => 0⟩ da rows.flatten 0) (hl : rows.length = dn) (hw : ∀ r ∈ rows, r.length = Tryz.prog.cellsOf 49 ∧ E.Rdw enc Tryz.prog W 49 r) (h0 : da = none → dn = 0) (hb : dn * Tryz.prog.bytesOf 49 ≤ reachBytes) (_ : (Lit.int .i64 q0).wf = true) (_ : (Lit.int .i64 q1).wf = true) (_ : (Lit.int .i64 q2).wf = true) (_ : (Lit.int .i64 q3).wf = true) (_ : (Lit.int .i64 gen).wf = true) :
  Calls Tryz.prog 3 #[.slice da dn dc, .agg #[.int .i64 q0, .int .i64 q1, .int .i64 q2, .int .i64 q3], .int .i64 gen] W fun e W' => e = .returned (.bool true) ∧ Below W.heap.size W W' := by
 have h24 : Tryz.prog.bytesOf 49 = 24 := by kernel_rfl
 rw [h24] at hb
 unfold reachBytes at hb
 obtain ⟨hs2, bs, h1, h2, h3⟩ := E.rdw_bs hw
 exact E.walkT (T := [50, 50 + 3, 50 + 11, 50 + 20, 50 + 21, 50 + 22, 50 + 23, 50 + 30, 50 + 32]) (by decide) (E.w_astale 50 dc q0 q1 q2 q3 gen (by decide) (by rw [← h2]; exact hs) h3 (by omega) h0 (by omega) (by decide))
set_option maxRecDepth 100000 in
theorem lifted (os : Os) (started : os.Started) (H : Type) (enc : TypeId × Value → H) :
  ReturnsInHanded {} Tryz.checked os 3 .any (Rows.adjustStaleSpec.pre6 enc Tryz.prog Tryz.f3 Rows.adjustStaleRow.domain false) (Rows.adjustStaleSpec.post enc Tryz.prog Tryz.f3 false true false false) := by
 refine E.rih_sized (C := Tryz.checked) own started (by kernel_rfl) Tryz.func3
  (ChangeSpec.witness6 (enc := enc) (C := Tryz.checked) false ⟨#[], #[.slice none 0 0, .agg #[.int .i64 0, .int .i64 0, .int .i64 0, .int .i64 0], .int .i64 0], []⟩ 8 (by kernel_rfl) (by kernel_rfl) (by kernel_rfl) (by kernel_rfl)) ?_
 intro W base args ds gs before hval0 hW hwt0
 have hval : ∀ (j : Nat) t v, Tryz.f3.params[j]? = some t → args[j]? = some v → Value.okWide Tryz.prog W .any base t v := hval0
 have hW' := hW
 obtain ⟨p, q, hA0, hV, rfl, hfz, hnd⟩ := hW
 have hA : DataW.TrodAll enc Tryz.prog W 0 (fun _ => true) true Tryz.f3.params.toList args.toList ds p := hA0
 rw [Tryz.params3] at hA hval
 have hwt := E.weights_all hwt0
 rw [Tryz.params3] at hwt
 obtain ⟨v0, vs0, d0, ds0, p0, q0, hargs, rfl, rfl, h0, r0⟩ := trodAll_cons hA
 obtain ⟨v1, vs1, d1, ds1, p1, q1, rfl, rfl, rfl, h1, r1⟩ := trodAll_cons r0
 obtain ⟨v2, vs2, d2, ds2, p2, q2, rfl, rfl, rfl, h2, r2⟩ := trodAll_cons r1
 obtain ⟨rfl, rfl, rfl⟩ := trodAll_nil r2
 obtain rfl : args = #[v0, v1, v2] := by cases args; simp_all
 obtain ⟨rfl, rfl⟩ := trodVars_none hV
 have k0 := h0
 have lt0 : ∀ x ∈ p0, x.block < W.heap.size := by obtain ⟨m, hm⟩ := k0; exact DataW.trod_lt m _ _ _ hm
 obtain ⟨a0, n0, c0, l0, hr0, hnc0, hcm0, h00, hl0, hw0, hs0⟩ := E.rdw_sl Tryz.underlying22 (E.rdw_of h0 (E.weightsEach_get (i := 0) rfl rfl hwt))
 obtain rfl := E.open_v Tryz.underlying22 (hval 0 22 v0 rfl rfl) hr0
 have k1 := h1
 have lt1 : ∀ x ∈ p1, x.block < W.heap.size := by obtain ⟨m, hm⟩ := k1; exact DataW.trod_lt m _ _ _ hm
 obtain ⟨b1_0, b1_1, b1_2, b1_3, hv1, w1_0, w1_1, w1_2, w1_3⟩ := E.open_req Tryz.underlying24 (by kernel_rfl) (by kernel_rfl) Tryz.underlying3 (by kernel_rfl) (hval 1 24 v1 rfl rfl) h1
 subst hv1
 obtain ⟨a2, rfl, rfl, rfl, w2⟩ := open_int Tryz.underlying3 (hval 2 3 v2 rfl rfl) h2
 clear hA0 hval0
 refine (walk c0 b1_0 b1_1 b1_2 b1_3 a2 W hs0 hl0 hw0 h00 hcm0 w1_0 w1_1 w1_2 w1_3 w2).mono fun e W' ⟨he, bel⟩ => ?_
 subst he
 exact ⟨_, rfl, _, _, _, [], _, [], hW', trodAll_mk1 (shut_bool Tryz.underlying4 _), (trodAll_cons_mk (Below.trod laidOut (by kernel_rfl) (of_decide_eq_true (by kernel_rfl)) k0 bel lt0) (trodAll_cons_mk (Below.trod laidOut (by kernel_rfl) (of_decide_eq_true (by kernel_rfl)) k1 bel lt1) (trodAll_cons_mk (shut_int Tryz.underlying3 w2) trodAll_mk0))), rfl, bel.frame _, fun h => by cases h⟩
theorem jf0 : (Rows.adjustStaleRow.wf (OpenSpec.ofChange Rows.adjustStaleSpec)) = true := by kernel_rfl
theorem jf1 : (laidOutB Tryz.checked.prog) = true := by kernel_rfl
theorem jf2 : (mapsRowed Tryz.checked.prog) = true := by kernel_rfl
theorem jf3 : (Tryz.f3.params.all (Tryz.checked.prog.readableRec ·)) = true := by kernel_rfl
theorem jf4 : (namedTie Tryz.checked.prog Rows.adjustStaleRow.named Rows.adjustStaleSpec.vars) = true := by kernel_rfl
theorem jf5 : ((Rows.adjustStaleRow.stops == [])) = true := by kernel_rfl
theorem jf6 : ((Tryz.checked.prog.stops == [])) = true := by kernel_rfl
theorem jf7 : ((Rows.adjustStaleRow.knobs == [])) = true := by kernel_rfl
theorem jf8 : ((Tryz.checked.prog.stopKnobs == [])) = true := by kernel_rfl
theorem jf9 : ((Rows.adjustStaleRow.inPlace == Tryz.checked.prog.inPlace 3)) = true := by kernel_rfl
theorem jf10 : ((Rows.adjustStaleRow.unfollowed == Tryz.checked.prog.unfollowed 3)) = true := by kernel_rfl
theorem jf11 : ((Rows.adjustStaleRow.recurses == Tryz.checked.prog.recurses 3)) = true := by kernel_rfl
theorem jf12 : ((Rows.adjustStaleRow.named == Tryz.checked.prog.varsNamed 3)) = true := by kernel_rfl
theorem jf13 : ((Rows.adjustStaleRow.maps == (Tryz.f3.params.toList ++ Rows.adjustStaleSpec.plain.varTypes Tryz.checked.prog).any (Tryz.checked.prog.mapsRec ·))) = true := by kernel_rfl
theorem jf14 : ((Rows.adjustStaleRow.ifaces == (Tryz.f3.params.toList ++ Rows.adjustStaleSpec.plain.varTypes Tryz.checked.prog).any (Tryz.checked.prog.ifacesRec ·))) = true := by kernel_rfl
theorem jf15 : ((Rows.adjustStaleRow.mapsOut == Tryz.checked.prog.mapsAmong Tryz.f3.resultTypes.toList)) = true := by kernel_rfl
theorem jf16 : ((Rows.adjustStaleRow.loops == (Tryz.f3.params.toList ++ Rows.adjustStaleSpec.plain.varTypes Tryz.checked.prog).any (Tryz.checked.prog.loopsFrom ·))) = true := by kernel_rfl
theorem jf17 : ((Rows.adjustStaleRow.wideKeys == (Tryz.f3.params.toList ++ Rows.adjustStaleSpec.plain.varTypes Tryz.checked.prog ++ Tryz.f3.resultTypes.toList).any (Tryz.checked.prog.wideKeysFrom ·))) = true := by kernel_rfl
theorem jf18 : (Rows.adjustStaleSpec.vars.all (Tryz.checked.prog.varReadable ·)) = true := by kernel_rfl
theorem jf19 : (Tryz.f3.resultTypes.all (fun t => Tryz.checked.prog.readableRec t && decide (t < Tryz.checked.prog.types.size))) = true := by kernel_rfl
theorem jf20 : ((Rows.adjustStaleRow.ifacesOut == Tryz.f3.resultTypes.toList.any (Tryz.checked.prog.ifacesRec ·))) = true := by kernel_rfl
theorem jf21 : ((Rows.adjustStaleRow.loopsOut == Tryz.f3.resultTypes.toList.any (Tryz.checked.prog.loopsFrom ·))) = true := by kernel_rfl
theorem jf22 : ((Rows.adjustStaleRow.plainKeys == Tryz.checked.prog.plainKeys)) = true := by kernel_rfl
theorem jf23 : (Rows.adjustStaleRow.shortTexts.isNone) = true := by kernel_rfl
theorem jf24 : (Tryz.checked.prog.stopsHeard) = true := by kernel_rfl
theorem jf25 : (Tryz.checked.prog.mayEnter) = true := by kernel_rfl
theorem jf26 : ((Rows.adjustStaleRow.lifted == Tryz.checked.prog.liftsFinal)) = true := by kernel_rfl
theorem jf27 : ((Tryz.checked.prog.make == some Rows.adjustStaleRow.make)) = true := by kernel_rfl
theorem jf28 : ((Rows.adjustStaleRow.kinds == E.kindsOf Tryz.checked.prog Tryz.f3 Rows.adjustStaleRow)) = true := by kernel_rfl
theorem jf29 : ((Rows.adjustStaleRow.pinned == Rows.adjustStaleRow.pinnedBy)) = true := by kernel_rfl
theorem jf30 : ((Rows.adjustStaleRow.veiled == (Tryz.f3.params.toList ++ Rows.adjustStaleSpec.plain.varTypes Tryz.checked.prog ++ Tryz.f3.resultTypes.toList).any (Tryz.checked.prog.veiledRec ·))) = true := by kernel_rfl
theorem jf31 : (Rows.adjustStaleRow.veiledFits Tryz.checked.prog Tryz.f3.params.toList (Tryz.f3.params.toList ++ Rows.adjustStaleSpec.plain.varTypes Tryz.checked.prog ++ Tryz.f3.resultTypes.toList)) = true := by kernel_rfl
theorem closed : joinedFacts Tryz.checked.prog 3 Tryz.f3 Rows.adjustStaleSpec Rows.adjustStaleRow = true := E.joined_of jf0 jf1 jf2 jf3 jf4 jf5 jf6 jf7 jf8 jf9 jf10 jf11 jf12 jf13 jf14 jf15 jf16 jf17 jf18 jf19 jf20 jf21 jf22 jf23 jf24 jf25 jf26 jf27 jf28 jf29 jf30 jf31
theorem hfn : Tryz.checked.prog.funcNamed Rows.adjustStaleRow.func = some 3 := by kernel_rfl
theorem hinst : Tryz.f3.isInstance Tryz.checked.prog Rows.adjustStaleRow.origin Rows.adjustStaleRow.targs := of_decide_eq_true (by kernel_rfl)
theorem hwrap : Tryz.f3.isWrapper Tryz.checked.prog Rows.adjustStaleRow.wrapper Rows.adjustStaleRow.mainSum := by unfold Func.isWrapper; first | (rw [if_pos (by decide +kernel)]; kernel_rfl) | (rw [if_neg (by decide +kernel)]; exact ⟨rfl, rfl⟩)
theorem over : Rows.adjustStaleRow.holds Tryz.pinned (OpenSpec.ofChange Rows.adjustStaleSpec) :=
 OpenClaim.holds_of_wide 3 Tryz.f3 rfl rfl rfl rfl rfl rfl rfl ⟨rfl, rfl, rfl, rfl, rfl⟩ rfl rfl rfl rfl rfl hfn Tryz.func3 closed hinst hwrap
  (fun os started H enc _ => lifted os started H enc)
theorem proved : Rows.AdjustStaleSaid := over
end Go.Proofs.YtkaikaodhegmhaaGreat.adjustStale
namespace Go.Proofs.YtkaikaodhegmhaaGreat
theorem adjustStale_holds : Rows.AdjustStaleSaid := adjustStale.proved
#print axioms adjustStale_holds
end Go.Proofs.YtkaikaodhegmhaaGreat
