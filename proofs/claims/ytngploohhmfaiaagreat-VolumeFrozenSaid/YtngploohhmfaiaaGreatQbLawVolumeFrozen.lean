/-
  For every volume behind changes that is frozen, and every sequence of changes, takings back and writes: the frozen view stays. No condition.
-/
import Derived.Test.YtngploohhmfaiaaGreatRows
import Derived.WalkKit
import Derived.ProofKit
import Derived.OpenShut
import Derived.ShutString
import Derived.ChangeOld
import Derived.Below
import Derived.Carry
import Derived.Lib.SmallJoins
import Derived.Test.YtngploohhmfaiaaGreatQb14
namespace Go.Proofs.YtngploohhmfaiaaGreat.volumeFrozen
open Go.ChangeShapes Go.WideShapes Go.ChangeAt Go.RowKit Go.Joins
set_option linter.unusedVariables false
theorem own : ownKnob Tryz.prog.godebug = none := by kernel_rfl
theorem laidOut : laidOutB Tryz.prog = true := by kernel_rfl
theorem walk {H : Type} {enc : TypeId × Value → H} (a : Int) {da : Option Addr} {dn : Nat} (dc : Nat) {rows : List (List Value)} {da2 : Option Addr} {dn2 : Nat} (dc2 : Nat) {rows2 : List (List Value)} (W : World) (_ : (Lit.int .i64 a).wf = true) (hs : E.Sl ⟨W.heap, fun _ => 0⟩ da rows.flatten 0) (hl : rows.length = dn) (hw : ∀ r ∈ rows, r.length = Tryz.prog.cellsOf 125 ∧ E.Rdw enc Tryz.prog W 125 r) (h0 : da = none → dn = 0) (hb : dn * Tryz.prog.bytesOf 125 ≤ reachBytes) (hs2 : E.Sl ⟨W.heap, fun _ => 0⟩ da2 rows2.flatten 0) (hl2 : rows2.length = dn2) (hw2 : ∀ r ∈ rows2, r.length = Tryz.prog.cellsOf 125 ∧ E.Rdw enc Tryz.prog W 125 r) (h02 : da2 = none → dn2 = 0) (hb2 : dn2 * Tryz.prog.bytesOf 125 ≤ reachBytes) :
    Calls Tryz.prog 12 #[.int .i64 a, .slice da dn dc, .slice da2 dn2 dc2] W fun e W' => e = .returned (.bool true) ∧ Below W.heap.size W W' := by
  have h80 : Tryz.prog.bytesOf 125 = 80 := by kernel_rfl
  rw [h80] at hb hb2
  unfold reachBytes at hb hb2
  obtain ⟨ls, h1, h2, h3⟩ := E.rdw_dos hw
  obtain ⟨ls2, g1, g2, g3⟩ := E.rdw_dos hw2
  exact E.walkT (T := [50, 50 + 1, 50 + 3, 50 + 10, 50 + 11, 50 + 12, 50 + 13, 50 + 14, 50 + 20, 50 + 21, 50 + 22, 50 + 23, 50 + 30, 50 + 31, 50 + 32]) (by decide) (E.w_vfroz 50 a dc dc2 (by decide) (by rw [← h2]; exact hs) h3 (by omega) (by omega) h0 (by rw [← g2]; exact hs2) g3 (by omega) (by omega) h02 (by decide))
set_option maxRecDepth 100000 in
theorem lifted (os : Os) (started : os.Started) (H : Type) (enc : TypeId × Value → H) :
    ReturnsInHanded {} Tryz.checked os 12 .any (Rows.volumeFrozenSpec.pre6 enc Tryz.prog Tryz.f12 Rows.volumeFrozenRow.domain false) (Rows.volumeFrozenSpec.post enc Tryz.prog Tryz.f12 false true false false) := by
  refine E.rih_sized (C := Tryz.checked) own started (by kernel_rfl) Tryz.func12
    (ChangeSpec.witness6 (enc := enc) (C := Tryz.checked) false ⟨#[], #[.int .i64 0, .slice none 0 0, .slice none 0 0], []⟩ 8 (by kernel_rfl) (by kernel_rfl) (by kernel_rfl) (by kernel_rfl)) ?_
  intro W base args ds gs before hval0 hW hwt0
  have hval : ∀ (j : Nat) t v, Tryz.f12.params[j]? = some t → args[j]? = some v → Value.okWide Tryz.prog W .any base t v := hval0
  have hW' := hW
  obtain ⟨p, q, hA0, hV, rfl, hfz, hnd⟩ := hW
  have hA : DataW.TrodAll enc Tryz.prog W 0 (fun _ => true) true Tryz.f12.params.toList args.toList ds p := hA0
  rw [Tryz.params12] at hA hval
  have hwt := E.weights_all hwt0
  rw [Tryz.params12] at hwt
  obtain ⟨v0, vs0, d0, ds0, p0, q0, hargs, rfl, rfl, h0, r0⟩ := trodAll_cons hA
  obtain ⟨v1, vs1, d1, ds1, p1, q1, rfl, rfl, rfl, h1, r1⟩ := trodAll_cons r0
  obtain ⟨v2, vs2, d2, ds2, p2, q2, rfl, rfl, rfl, h2, r2⟩ := trodAll_cons r1
  obtain ⟨rfl, rfl, rfl⟩ := trodAll_nil r2
  obtain rfl : args = #[v0, v1, v2] := by cases args; simp_all
  obtain ⟨rfl, rfl⟩ := trodVars_none hV
  obtain ⟨a0, rfl, rfl, rfl, w0⟩ := open_int Tryz.underlying3 (hval 0 3 v0 rfl rfl) h0
  have k1 := h1
  have lt1 : ∀ x ∈ p1, x.block < W.heap.size := by obtain ⟨m, hm⟩ := k1; exact DataW.trod_lt m _ _ _ hm
  obtain ⟨a1, n1, c1, l1, hr1, hnc1, hcm1, h01, hl1, hw1, hs1⟩ := E.rdw_sl Tryz.underlying110 (E.rdw_of h1 (E.weightsEach_get (i := 1) rfl rfl hwt))
  obtain rfl := E.open_v Tryz.underlying110 (hval 1 110 v1 rfl rfl) hr1
  have k2 := h2
  have lt2 : ∀ x ∈ p2, x.block < W.heap.size := by obtain ⟨m, hm⟩ := k2; exact DataW.trod_lt m _ _ _ hm
  obtain ⟨a2, n2, c2, l2, hr2, hnc2, hcm2, h02, hl2, hw2, hs2⟩ := E.rdw_sl Tryz.underlying110 (E.rdw_of h2 (E.weightsEach_get (i := 2) rfl rfl hwt))
  obtain rfl := E.open_v Tryz.underlying110 (hval 2 110 v2 rfl rfl) hr2
  clear hA0 hval0
  refine (walk a0 c1 c2 W w0 hs1 hl1 hw1 h01 hcm1 hs2 hl2 hw2 h02 hcm2).mono fun e W' ⟨he, bel⟩ => ?_
  subst he
  exact ⟨_, rfl, _, _, _, [], _, [], hW', trodAll_mk1 (shut_bool Tryz.underlying4 _), (trodAll_cons_mk (shut_int Tryz.underlying3 w0) (trodAll_cons_mk (Below.trod laidOut (by kernel_rfl) (of_decide_eq_true (by kernel_rfl)) k1 bel lt1) (trodAll_cons_mk (Below.trod laidOut (by kernel_rfl) (of_decide_eq_true (by kernel_rfl)) k2 bel lt2) trodAll_mk0))), rfl, bel.frame _, fun h => by cases h⟩
theorem jf0 : (Rows.volumeFrozenRow.wf (OpenSpec.ofChange Rows.volumeFrozenSpec)) = true := by kernel_rfl
theorem jf1 : (laidOutB Tryz.checked.prog) = true := by kernel_rfl
theorem jf2 : (mapsRowed Tryz.checked.prog) = true := by kernel_rfl
theorem jf3 : (Tryz.f12.params.all (Tryz.checked.prog.readableRec ·)) = true := by kernel_rfl
theorem jf4 : (namedTie Tryz.checked.prog Rows.volumeFrozenRow.named Rows.volumeFrozenSpec.vars) = true := by kernel_rfl
theorem jf5 : ((Rows.volumeFrozenRow.stops == [])) = true := by kernel_rfl
theorem jf6 : ((Tryz.checked.prog.stops == [])) = true := by kernel_rfl
theorem jf7 : ((Rows.volumeFrozenRow.knobs == [])) = true := by kernel_rfl
theorem jf8 : ((Tryz.checked.prog.stopKnobs == [])) = true := by kernel_rfl
theorem jf9 : ((Rows.volumeFrozenRow.inPlace == Tryz.checked.prog.inPlace 12)) = true := by kernel_rfl
theorem jf10 : ((Rows.volumeFrozenRow.unfollowed == Tryz.checked.prog.unfollowed 12)) = true := by kernel_rfl
theorem jf11 : ((Rows.volumeFrozenRow.recurses == Tryz.checked.prog.recurses 12)) = true := by kernel_rfl
theorem jf12 : ((Rows.volumeFrozenRow.named == Tryz.checked.prog.varsNamed 12)) = true := by kernel_rfl
theorem jf13 : ((Rows.volumeFrozenRow.maps == (Tryz.f12.params.toList ++ Rows.volumeFrozenSpec.plain.varTypes Tryz.checked.prog).any (Tryz.checked.prog.mapsRec ·))) = true := by kernel_rfl
theorem jf14 : ((Rows.volumeFrozenRow.ifaces == (Tryz.f12.params.toList ++ Rows.volumeFrozenSpec.plain.varTypes Tryz.checked.prog).any (Tryz.checked.prog.ifacesRec ·))) = true := by kernel_rfl
theorem jf15 : ((Rows.volumeFrozenRow.mapsOut == Tryz.checked.prog.mapsAmong Tryz.f12.resultTypes.toList)) = true := by kernel_rfl
theorem jf16 : ((Rows.volumeFrozenRow.loops == (Tryz.f12.params.toList ++ Rows.volumeFrozenSpec.plain.varTypes Tryz.checked.prog).any (Tryz.checked.prog.loopsFrom ·))) = true := by kernel_rfl
theorem jf17 : ((Rows.volumeFrozenRow.wideKeys == (Tryz.f12.params.toList ++ Rows.volumeFrozenSpec.plain.varTypes Tryz.checked.prog ++ Tryz.f12.resultTypes.toList).any (Tryz.checked.prog.wideKeysFrom ·))) = true := by kernel_rfl
theorem jf18 : (Rows.volumeFrozenSpec.vars.all (Tryz.checked.prog.varReadable ·)) = true := by kernel_rfl
theorem jf19 : (Tryz.f12.resultTypes.all (fun t => Tryz.checked.prog.readableRec t && decide (t < Tryz.checked.prog.types.size))) = true := by kernel_rfl
theorem jf20 : ((Rows.volumeFrozenRow.ifacesOut == Tryz.f12.resultTypes.toList.any (Tryz.checked.prog.ifacesRec ·))) = true := by kernel_rfl
theorem jf21 : ((Rows.volumeFrozenRow.loopsOut == Tryz.f12.resultTypes.toList.any (Tryz.checked.prog.loopsFrom ·))) = true := by kernel_rfl
theorem jf22 : ((Rows.volumeFrozenRow.plainKeys == Tryz.checked.prog.plainKeys)) = true := by kernel_rfl
theorem jf23 : (Rows.volumeFrozenRow.shortTexts.isNone) = true := by kernel_rfl
theorem jf24 : (Tryz.checked.prog.stopsHeard) = true := by kernel_rfl
theorem jf25 : (Tryz.checked.prog.mayEnter) = true := by kernel_rfl
theorem jf26 : ((Rows.volumeFrozenRow.lifted == Tryz.checked.prog.liftsFinal)) = true := by kernel_rfl
theorem jf27 : ((Tryz.checked.prog.make == some Rows.volumeFrozenRow.make)) = true := by kernel_rfl
theorem jf28 : ((Rows.volumeFrozenRow.kinds == E.kindsOf Tryz.checked.prog Tryz.f12 Rows.volumeFrozenRow)) = true := by kernel_rfl
theorem jf29 : ((Rows.volumeFrozenRow.pinned == Rows.volumeFrozenRow.pinnedBy)) = true := by kernel_rfl
theorem jf30 : ((Rows.volumeFrozenRow.veiled == (Tryz.f12.params.toList ++ Rows.volumeFrozenSpec.plain.varTypes Tryz.checked.prog ++ Tryz.f12.resultTypes.toList).any (Tryz.checked.prog.veiledRec ·))) = true := by kernel_rfl
theorem jf31 : (Rows.volumeFrozenRow.veiledFits Tryz.checked.prog Tryz.f12.params.toList (Tryz.f12.params.toList ++ Rows.volumeFrozenSpec.plain.varTypes Tryz.checked.prog ++ Tryz.f12.resultTypes.toList)) = true := by kernel_rfl
theorem closed : joinedFacts Tryz.checked.prog 12 Tryz.f12 Rows.volumeFrozenSpec Rows.volumeFrozenRow = true := E.joined_of jf0 jf1 jf2 jf3 jf4 jf5 jf6 jf7 jf8 jf9 jf10 jf11 jf12 jf13 jf14 jf15 jf16 jf17 jf18 jf19 jf20 jf21 jf22 jf23 jf24 jf25 jf26 jf27 jf28 jf29 jf30 jf31
theorem hfn : Tryz.checked.prog.funcNamed Rows.volumeFrozenRow.func = some 12 := by kernel_rfl
theorem hinst : Tryz.f12.isInstance Tryz.checked.prog Rows.volumeFrozenRow.origin Rows.volumeFrozenRow.targs := of_decide_eq_true (by kernel_rfl)
theorem hwrap : Tryz.f12.isWrapper Tryz.checked.prog Rows.volumeFrozenRow.wrapper Rows.volumeFrozenRow.mainSum := by unfold Func.isWrapper; first | (rw [if_pos (by decide +kernel)]; kernel_rfl) | (rw [if_neg (by decide +kernel)]; exact ⟨rfl, rfl⟩)
theorem over : Rows.volumeFrozenRow.holds Tryz.pinned (OpenSpec.ofChange Rows.volumeFrozenSpec) :=
  OpenClaim.holds_of_wide 12 Tryz.f12 rfl rfl rfl rfl rfl rfl rfl ⟨rfl, rfl, rfl, rfl, rfl⟩ rfl rfl rfl rfl rfl hfn Tryz.func12 closed hinst hwrap
    (fun os started H enc _ => lifted os started H enc)
theorem proved : Rows.VolumeFrozenSaid := over
end Go.Proofs.YtngploohhmfaiaaGreat.volumeFrozen
namespace Go.Proofs.YtngploohhmfaiaaGreat
/-- The row, under a short name. -/
theorem volumeFrozen_holds : Rows.VolumeFrozenSaid := volumeFrozen.proved
#print axioms volumeFrozen_holds
end Go.Proofs.YtngploohhmfaiaaGreat
