/-
  For every geometry and every two sequences of what is done: the image of a snapshot with room enough stays as it was; behind its end another one can be taken. No condition.
-/
import Derived.Test.YtkaikaodhegmhaaGreatRows
import Derived.WalkKit
import Derived.ProofKit
import Derived.OpenShut
import Derived.ShutString
import Derived.ChangeOld
import Derived.Below
import Derived.Carry
import Derived.Lib.SmallJoins
import Derived.Test.YtkaikaodhegmhaaGreatSS14
namespace Go.Proofs.YtkaikaodhegmhaaGreat.snapStays
open Go.ChangeShapes Go.WideShapes Go.ChangeAt Go.RowKit Go.Joins
set_option linter.unusedVariables false
theorem own : ownKnob Tryz.prog.godebug = none := by kernel_rfl
theorem laidOut : laidOutB Tryz.prog = true := by kernel_rfl
theorem cells26 : Tryz.prog.cellsOf 26 = 3 := by kernel_rfl
theorem walk {H : Type} {enc : TypeId × Value → H} (a b c : Int) {da : Option Addr} {dn : Nat} (dc : Nat) {rows : List (List Value)} {da2 : Option Addr} {dn2 : Nat} (dc2 : Nat) {rows2 : List (List Value)} (W : World) (_ : (Lit.int .i64 a).wf = true) (_ : (Lit.int .i64 b).wf = true) (_ : (Lit.int .i64 c).wf = true) (hs : E.Sl ⟨W.heap, fun _ => 0⟩ da rows.flatten 0) (hl : rows.length = dn) (hw : ∀ r ∈ rows, r.length = Tryz.prog.cellsOf 51 ∧ E.Rdw enc Tryz.prog W 51 r) (h0 : da = none → dn = 0) (hb : dn * Tryz.prog.bytesOf 51 ≤ reachBytes) (hs2 : E.Sl ⟨W.heap, fun _ => 0⟩ da2 rows2.flatten 0) (hl2 : rows2.length = dn2) (hw2 : ∀ r ∈ rows2, r.length = Tryz.prog.cellsOf 51 ∧ E.Rdw enc Tryz.prog W 51 r) (h02 : da2 = none → dn2 = 0) (hb2 : dn2 * Tryz.prog.bytesOf 51 ≤ reachBytes) :
  Calls Tryz.prog 4 #[.agg #[.int .i64 a, .int .i64 b, .int .i64 c], .slice da dn dc, .slice da2 dn2 dc2] W fun e W' => e = .returned (.bool true) ∧ Below W.heap.size W W' := by
 have h48 : Tryz.prog.bytesOf 51 = 48 := by kernel_rfl
 rw [h48] at hb hb2
 unfold reachBytes at hb hb2
 obtain ⟨ls, h1, h2, h3⟩ := E.rdw_dols hw
 obtain ⟨ls2, g1, g2, g3⟩ := E.rdw_dols hw2
 exact E.walkT (T := [50, 50 + 1, 50 + 3, 50 + 10, 50 + 11, 50 + 12, 50 + 13, 50 + 14, 50 + 20, 50 + 21, 50 + 22, 50 + 23, 50 + 30, 50 + 31, 50 + 32, 110, 110 + 1, 110 + 10, 110 + 11, 110 + 12, 110 + 13, 110 + 14, 110 + 20, 110 + 21, 110 + 30, 110 + 31]) (by decide) (E.w_sstays 50 110 a b c dc dc2 (by decide) (by decide) (by rw [← h2]; exact hs) h3 (by omega) (by omega) h0 (by rw [← g2]; exact hs2) g3 (by omega) (by omega) h02 (by decide))
set_option maxRecDepth 100000 in
theorem lifted (os : Os) (started : os.Started) (H : Type) (enc : TypeId × Value → H) :
  ReturnsInHanded {} Tryz.checked os 4 .any (Rows.snapStaysSpec.pre6 enc Tryz.prog Tryz.f4 Rows.snapStaysRow.domain false) (Rows.snapStaysSpec.post enc Tryz.prog Tryz.f4 false true false false) := by
 refine E.rih_sized (C := Tryz.checked) own started (by kernel_rfl) Tryz.func4
  (ChangeSpec.witness6 (enc := enc) (C := Tryz.checked) false ⟨#[], #[.agg #[.int .i64 0, .int .i64 0, .int .i64 0], .slice none 0 0, .slice none 0 0], []⟩ 8 (by kernel_rfl) (by kernel_rfl) (by kernel_rfl) (by kernel_rfl)) ?_
 intro W base args ds gs before hval0 hW hwt0
 have hval : ∀ (j : Nat) t v, Tryz.f4.params[j]? = some t → args[j]? = some v → Value.okWide Tryz.prog W .any base t v := hval0
 have hW' := hW
 obtain ⟨p, q, hA0, hV, rfl, hfz, hnd⟩ := hW
 have hA : DataW.TrodAll enc Tryz.prog W 0 (fun _ => true) true Tryz.f4.params.toList args.toList ds p := hA0
 rw [Tryz.params4] at hA hval
 have hwt := E.weights_all hwt0
 rw [Tryz.params4] at hwt
 obtain ⟨v0, vs0, d0, ds0, p0, q0, hargs, rfl, rfl, h0, r0⟩ := trodAll_cons hA
 obtain ⟨v1, vs1, d1, ds1, p1, q1, rfl, rfl, rfl, h1, r1⟩ := trodAll_cons r0
 obtain ⟨v2, vs2, d2, ds2, p2, q2, rfl, rfl, rfl, h2, r2⟩ := trodAll_cons r1
 obtain ⟨rfl, rfl, rfl⟩ := trodAll_nil r2
 obtain rfl : args = #[v0, v1, v2] := by cases args; simp_all
 obtain ⟨rfl, rfl⟩ := trodVars_none hV
 have k0 := h0
 have lt0 : ∀ x ∈ p0, x.block < W.heap.size := by obtain ⟨m, hm⟩ := k0; exact DataW.trod_lt m _ _ _ hm
 obtain ⟨c00, c01, c02, y00, y01, y02, m0, hv0, _, _, hy00, hy01, hy02⟩ := open_agg3 Tryz.underlying26 (by kernel_rfl) cells26 (hval 0 26 v0 rfl rfl) h0
 subst hv0
 obtain ⟨b00, e00, _, w00⟩ := DataW.trod_int Tryz.underlying3 hy00
 simp at e00
 subst e00
 obtain ⟨b01, e01, _, w01⟩ := DataW.trod_int Tryz.underlying3 hy01
 simp at e01
 subst e01
 obtain ⟨b02, e02, _, w02⟩ := DataW.trod_int Tryz.underlying3 hy02
 simp at e02
 subst e02
 have k1 := h1
 have lt1 : ∀ x ∈ p1, x.block < W.heap.size := by obtain ⟨m, hm⟩ := k1; exact DataW.trod_lt m _ _ _ hm
 obtain ⟨a1, n1, c1, l1, hr1, hnc1, hcm1, h01, hl1, hw1, hs1⟩ := E.rdw_sl Tryz.underlying46 (E.rdw_of h1 (E.weightsEach_get (i := 1) rfl rfl hwt))
 obtain rfl := E.open_v Tryz.underlying46 (hval 1 46 v1 rfl rfl) hr1
 have k2 := h2
 have lt2 : ∀ x ∈ p2, x.block < W.heap.size := by obtain ⟨m, hm⟩ := k2; exact DataW.trod_lt m _ _ _ hm
 obtain ⟨a2, n2, c2, l2, hr2, hnc2, hcm2, h02, hl2, hw2, hs2⟩ := E.rdw_sl Tryz.underlying46 (E.rdw_of h2 (E.weightsEach_get (i := 2) rfl rfl hwt))
 obtain rfl := E.open_v Tryz.underlying46 (hval 2 46 v2 rfl rfl) hr2
 clear hA0 hval0
 refine (walk b00 b01 b02 c1 c2 W w00 w01 w02 hs1 hl1 hw1 h01 hcm1 hs2 hl2 hw2 h02 hcm2).mono fun e W' ⟨he, bel⟩ => ?_
 subst he
 exact ⟨_, rfl, _, _, _, [], _, [], hW', trodAll_mk1 (shut_bool Tryz.underlying4 _), (trodAll_cons_mk (Below.trod laidOut (by kernel_rfl) (of_decide_eq_true (by kernel_rfl)) k0 bel lt0) (trodAll_cons_mk (Below.trod laidOut (by kernel_rfl) (of_decide_eq_true (by kernel_rfl)) k1 bel lt1) (trodAll_cons_mk (Below.trod laidOut (by kernel_rfl) (of_decide_eq_true (by kernel_rfl)) k2 bel lt2) trodAll_mk0))), rfl, bel.frame _, fun h => by cases h⟩
theorem jf0 : (Rows.snapStaysRow.wf (OpenSpec.ofChange Rows.snapStaysSpec)) = true := by kernel_rfl
theorem jf1 : (laidOutB Tryz.checked.prog) = true := by kernel_rfl
theorem jf2 : (mapsRowed Tryz.checked.prog) = true := by kernel_rfl
theorem jf3 : (Tryz.f4.params.all (Tryz.checked.prog.readableRec ·)) = true := by kernel_rfl
theorem jf4 : (namedTie Tryz.checked.prog Rows.snapStaysRow.named Rows.snapStaysSpec.vars) = true := by kernel_rfl
theorem jf5 : ((Rows.snapStaysRow.stops == [])) = true := by kernel_rfl
theorem jf6 : ((Tryz.checked.prog.stops == [])) = true := by kernel_rfl
theorem jf7 : ((Rows.snapStaysRow.knobs == [])) = true := by kernel_rfl
theorem jf8 : ((Tryz.checked.prog.stopKnobs == [])) = true := by kernel_rfl
theorem jf9 : ((Rows.snapStaysRow.inPlace == Tryz.checked.prog.inPlace 4)) = true := by kernel_rfl
theorem jf10 : ((Rows.snapStaysRow.unfollowed == Tryz.checked.prog.unfollowed 4)) = true := by kernel_rfl
theorem jf11 : ((Rows.snapStaysRow.recurses == Tryz.checked.prog.recurses 4)) = true := by kernel_rfl
theorem jf12 : ((Rows.snapStaysRow.named == Tryz.checked.prog.varsNamed 4)) = true := by kernel_rfl
theorem jf13 : ((Rows.snapStaysRow.maps == (Tryz.f4.params.toList ++ Rows.snapStaysSpec.plain.varTypes Tryz.checked.prog).any (Tryz.checked.prog.mapsRec ·))) = true := by kernel_rfl
theorem jf14 : ((Rows.snapStaysRow.ifaces == (Tryz.f4.params.toList ++ Rows.snapStaysSpec.plain.varTypes Tryz.checked.prog).any (Tryz.checked.prog.ifacesRec ·))) = true := by kernel_rfl
theorem jf15 : ((Rows.snapStaysRow.mapsOut == Tryz.checked.prog.mapsAmong Tryz.f4.resultTypes.toList)) = true := by kernel_rfl
theorem jf16 : ((Rows.snapStaysRow.loops == (Tryz.f4.params.toList ++ Rows.snapStaysSpec.plain.varTypes Tryz.checked.prog).any (Tryz.checked.prog.loopsFrom ·))) = true := by kernel_rfl
theorem jf17 : ((Rows.snapStaysRow.wideKeys == (Tryz.f4.params.toList ++ Rows.snapStaysSpec.plain.varTypes Tryz.checked.prog ++ Tryz.f4.resultTypes.toList).any (Tryz.checked.prog.wideKeysFrom ·))) = true := by kernel_rfl
theorem jf18 : (Rows.snapStaysSpec.vars.all (Tryz.checked.prog.varReadable ·)) = true := by kernel_rfl
theorem jf19 : (Tryz.f4.resultTypes.all (fun t => Tryz.checked.prog.readableRec t && decide (t < Tryz.checked.prog.types.size))) = true := by kernel_rfl
theorem jf20 : ((Rows.snapStaysRow.ifacesOut == Tryz.f4.resultTypes.toList.any (Tryz.checked.prog.ifacesRec ·))) = true := by kernel_rfl
theorem jf21 : ((Rows.snapStaysRow.loopsOut == Tryz.f4.resultTypes.toList.any (Tryz.checked.prog.loopsFrom ·))) = true := by kernel_rfl
theorem jf22 : ((Rows.snapStaysRow.plainKeys == Tryz.checked.prog.plainKeys)) = true := by kernel_rfl
theorem jf23 : (Rows.snapStaysRow.shortTexts.isNone) = true := by kernel_rfl
theorem jf24 : (Tryz.checked.prog.stopsHeard) = true := by kernel_rfl
theorem jf25 : (Tryz.checked.prog.mayEnter) = true := by kernel_rfl
theorem jf26 : ((Rows.snapStaysRow.lifted == Tryz.checked.prog.liftsFinal)) = true := by kernel_rfl
theorem jf27 : ((Tryz.checked.prog.make == some Rows.snapStaysRow.make)) = true := by kernel_rfl
theorem jf28 : ((Rows.snapStaysRow.kinds == E.kindsOf Tryz.checked.prog Tryz.f4 Rows.snapStaysRow)) = true := by kernel_rfl
theorem jf29 : ((Rows.snapStaysRow.pinned == Rows.snapStaysRow.pinnedBy)) = true := by kernel_rfl
theorem jf30 : ((Rows.snapStaysRow.veiled == (Tryz.f4.params.toList ++ Rows.snapStaysSpec.plain.varTypes Tryz.checked.prog ++ Tryz.f4.resultTypes.toList).any (Tryz.checked.prog.veiledRec ·))) = true := by kernel_rfl
theorem jf31 : (Rows.snapStaysRow.veiledFits Tryz.checked.prog Tryz.f4.params.toList (Tryz.f4.params.toList ++ Rows.snapStaysSpec.plain.varTypes Tryz.checked.prog ++ Tryz.f4.resultTypes.toList)) = true := by kernel_rfl
theorem closed : joinedFacts Tryz.checked.prog 4 Tryz.f4 Rows.snapStaysSpec Rows.snapStaysRow = true := E.joined_of jf0 jf1 jf2 jf3 jf4 jf5 jf6 jf7 jf8 jf9 jf10 jf11 jf12 jf13 jf14 jf15 jf16 jf17 jf18 jf19 jf20 jf21 jf22 jf23 jf24 jf25 jf26 jf27 jf28 jf29 jf30 jf31
theorem hfn : Tryz.checked.prog.funcNamed Rows.snapStaysRow.func = some 4 := by kernel_rfl
theorem hinst : Tryz.f4.isInstance Tryz.checked.prog Rows.snapStaysRow.origin Rows.snapStaysRow.targs := of_decide_eq_true (by kernel_rfl)
theorem hwrap : Tryz.f4.isWrapper Tryz.checked.prog Rows.snapStaysRow.wrapper Rows.snapStaysRow.mainSum := by unfold Func.isWrapper; first | (rw [if_pos (by decide +kernel)]; kernel_rfl) | (rw [if_neg (by decide +kernel)]; exact ⟨rfl, rfl⟩)
theorem over : Rows.snapStaysRow.holds Tryz.pinned (OpenSpec.ofChange Rows.snapStaysSpec) :=
 OpenClaim.holds_of_wide 4 Tryz.f4 rfl rfl rfl rfl rfl rfl rfl ⟨rfl, rfl, rfl, rfl, rfl⟩ rfl rfl rfl rfl rfl hfn Tryz.func4 closed hinst hwrap
  (fun os started H enc _ => lifted os started H enc)
theorem proved : Rows.SnapStaysSaid := over
end Go.Proofs.YtkaikaodhegmhaaGreat.snapStays
namespace Go.Proofs.YtkaikaodhegmhaaGreat
theorem snapStays_holds : Rows.SnapStaysSaid := snapStays.proved
#print axioms snapStays_holds
end Go.Proofs.YtkaikaodhegmhaaGreat
