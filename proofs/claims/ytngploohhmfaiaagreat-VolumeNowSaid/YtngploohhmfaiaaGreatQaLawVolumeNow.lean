/-
  For every volume behind changes, and every order of writes, some of which fail: what is read does not hang on what was written between; while something is dirty, something may be written. No condition.
-/
import Derived.Test.YtngploohhmfaiaaGreatRows
import Derived.WalkKit
import Derived.ProofKit
import Derived.OpenShut
import Derived.ShutString
import Derived.ChangeOld
import Derived.Below
import Derived.Carry
import Derived.Lib.SmallJoins
import Derived.Test.YtngploohhmfaiaaGreatQa10
namespace Go.Proofs.YtngploohhmfaiaaGreat.volumeNow
open Go.ChangeShapes Go.WideShapes Go.ChangeAt Go.RowKit Go.Joins
set_option linter.unusedVariables false
theorem own : ownKnob Tryz.prog.godebug = none := by kernel_rfl
theorem laidOut : laidOutB Tryz.prog = true := by kernel_rfl
theorem walk {H : Type} {enc : TypeId × Value → H} (a : Int) {da : Option Addr} {dn : Nat} (dc : Nat) {rows : List (List Value)} {oa : Option Addr} {on : Nat} (oc : Nat) {os : List Int} (W : World) (_ : (Lit.int .i64 a).wf = true) (hs : E.Sl ⟨W.heap, fun _ => 0⟩ da rows.flatten 0) (hl : rows.length = dn) (hw : ∀ r ∈ rows, r.length = Tryz.prog.cellsOf 125 ∧ E.Rdw enc Tryz.prog W 125 r) (h0 : da = none → dn = 0) (hb : dn * Tryz.prog.bytesOf 125 ≤ reachBytes) (ho : E.Sl ⟨W.heap, fun _ => 0⟩ oa (E.ivs os) 0) (hol : os.length = on) (ho0 : oa = none → on = 0) (hob : on ≤ 17592186043904) :
    Calls Tryz.prog 9 #[.int .i64 a, .slice da dn dc, .slice oa on oc] W fun e W' => e = .returned (.bool true) ∧ Below W.heap.size W W' := by
  have h80 : Tryz.prog.bytesOf 125 = 80 := by kernel_rfl
  rw [h80] at hb
  unfold reachBytes at hb
  obtain ⟨ls, h1, h2, h3⟩ := E.rdw_dos hw
  exact E.walkT (T := [50, 50 + 1, 50 + 3, 50 + 10, 50 + 11, 50 + 12, 50 + 13, 50 + 14, 50 + 20, 50 + 21, 50 + 22, 50 + 23, 50 + 30, 50 + 31, 50 + 32]) (by decide) (E.w_vnow 50 a dc oc (by decide) (by rw [← h2]; exact hs) h3 (by omega) (by omega) h0 ho hol hob ho0 (by decide))
set_option maxRecDepth 100000 in
theorem lifted (os : Os) (started : os.Started) (H : Type) (enc : TypeId × Value → H) :
    ReturnsInHanded {} Tryz.checked os 9 .any (Rows.volumeNowSpec.pre6 enc Tryz.prog Tryz.f9 Rows.volumeNowRow.domain false) (Rows.volumeNowSpec.post enc Tryz.prog Tryz.f9 false true false false) := by
  refine E.rih_sized (C := Tryz.checked) own started (by kernel_rfl) Tryz.func9
    (ChangeSpec.witness6 (enc := enc) (C := Tryz.checked) false ⟨#[], #[.int .i64 0, .slice none 0 0, .slice none 0 0], []⟩ 8 (by kernel_rfl) (by kernel_rfl) (by kernel_rfl) (by kernel_rfl)) ?_
  intro W base args ds gs before hval0 hW hwt0
  have hval : ∀ (j : Nat) t v, Tryz.f9.params[j]? = some t → args[j]? = some v → Value.okWide Tryz.prog W .any base t v := hval0
  have hW' := hW
  obtain ⟨p, q, hA0, hV, rfl, hfz, hnd⟩ := hW
  have hA : DataW.TrodAll enc Tryz.prog W 0 (fun _ => true) true Tryz.f9.params.toList args.toList ds p := hA0
  rw [Tryz.params9] at hA hval
  have hwt := E.weights_all hwt0
  rw [Tryz.params9] at hwt
  obtain ⟨v0, vs0, d0, ds0, p0, q0, hargs, rfl, rfl, h0, r0⟩ := trodAll_cons hA
  obtain ⟨v1, vs1, d1, ds1, p1, q1, rfl, rfl, rfl, h1, r1⟩ := trodAll_cons r0
  obtain ⟨v2, vs2, d2, ds2, p2, q2, rfl, rfl, rfl, h2, r2⟩ := trodAll_cons r1
  obtain ⟨rfl, rfl, rfl⟩ := trodAll_nil r2
  obtain rfl : args = #[v0, v1, v2] := by cases args; simp_all
  obtain ⟨rfl, rfl⟩ := trodVars_none hV
  obtain ⟨a0, rfl, rfl, rfl, w0⟩ := open_int Tryz.underlying3 (hval 0 3 v0 rfl rfl) h0
  have k1 := h1
  have lt1 : ∀ x ∈ p1, x.block < W.heap.size := by obtain ⟨m, hm⟩ := k1; exact DataW.trod_lt m _ _ _ hm
  obtain ⟨a1, n1, c1, l1, hr1, hnc1, hcm1, h01, hl1, hw1, hs1⟩ := E.rdw_sl Tryz.underlying110 (E.rdw_of h1 (E.weightsEach_get (i := 1) rfl rfl hwt))
  obtain rfl := E.open_v Tryz.underlying110 (hval 1 110 v1 rfl rfl) hr1
  have k2 := h2
  have lt2 : ∀ x ∈ p2, x.block < W.heap.size := by obtain ⟨m, hm⟩ := k2; exact DataW.trod_lt m _ _ _ hm
  obtain ⟨a2, n2, c2, l2, hr2, hnc2, hcm2, h02, hl2, hs2⟩ := E.rdw_ints Tryz.underlying73 Tryz.underlying3 (by kernel_rfl) (E.rdw_of h2 (E.weightsEach_get (i := 2) rfl rfl hwt))
  obtain rfl := E.open_v Tryz.underlying73 (hval 2 73 v2 rfl rfl) hr2
  clear hA0 hval0
  refine (walk a0 c1 c2 W w0 hs1 hl1 hw1 h01 hcm1 hs2 hl2 h02 hcm2).mono fun e W' ⟨he, bel⟩ => ?_
  subst he
  exact ⟨_, rfl, _, _, _, [], _, [], hW', trodAll_mk1 (shut_bool Tryz.underlying4 _), (trodAll_cons_mk (shut_int Tryz.underlying3 w0) (trodAll_cons_mk (Below.trod laidOut (by kernel_rfl) (of_decide_eq_true (by kernel_rfl)) k1 bel lt1) (trodAll_cons_mk (Below.trod laidOut (by kernel_rfl) (of_decide_eq_true (by kernel_rfl)) k2 bel lt2) trodAll_mk0))), rfl, bel.frame _, fun h => by cases h⟩
theorem jf0 : (Rows.volumeNowRow.wf (OpenSpec.ofChange Rows.volumeNowSpec)) = true := by kernel_rfl
theorem jf1 : (laidOutB Tryz.checked.prog) = true := by kernel_rfl
theorem jf2 : (mapsRowed Tryz.checked.prog) = true := by kernel_rfl
theorem jf3 : (Tryz.f9.params.all (Tryz.checked.prog.readableRec ·)) = true := by kernel_rfl
theorem jf4 : (namedTie Tryz.checked.prog Rows.volumeNowRow.named Rows.volumeNowSpec.vars) = true := by kernel_rfl
theorem jf5 : ((Rows.volumeNowRow.stops == [])) = true := by kernel_rfl
theorem jf6 : ((Tryz.checked.prog.stops == [])) = true := by kernel_rfl
theorem jf7 : ((Rows.volumeNowRow.knobs == [])) = true := by kernel_rfl
theorem jf8 : ((Tryz.checked.prog.stopKnobs == [])) = true := by kernel_rfl
theorem jf9 : ((Rows.volumeNowRow.inPlace == Tryz.checked.prog.inPlace 9)) = true := by kernel_rfl
theorem jf10 : ((Rows.volumeNowRow.unfollowed == Tryz.checked.prog.unfollowed 9)) = true := by kernel_rfl
theorem jf11 : ((Rows.volumeNowRow.recurses == Tryz.checked.prog.recurses 9)) = true := by kernel_rfl
theorem jf12 : ((Rows.volumeNowRow.named == Tryz.checked.prog.varsNamed 9)) = true := by kernel_rfl
theorem jf13 : ((Rows.volumeNowRow.maps == (Tryz.f9.params.toList ++ Rows.volumeNowSpec.plain.varTypes Tryz.checked.prog).any (Tryz.checked.prog.mapsRec ·))) = true := by kernel_rfl
theorem jf14 : ((Rows.volumeNowRow.ifaces == (Tryz.f9.params.toList ++ Rows.volumeNowSpec.plain.varTypes Tryz.checked.prog).any (Tryz.checked.prog.ifacesRec ·))) = true := by kernel_rfl
theorem jf15 : ((Rows.volumeNowRow.mapsOut == Tryz.checked.prog.mapsAmong Tryz.f9.resultTypes.toList)) = true := by kernel_rfl
theorem jf16 : ((Rows.volumeNowRow.loops == (Tryz.f9.params.toList ++ Rows.volumeNowSpec.plain.varTypes Tryz.checked.prog).any (Tryz.checked.prog.loopsFrom ·))) = true := by kernel_rfl
theorem jf17 : ((Rows.volumeNowRow.wideKeys == (Tryz.f9.params.toList ++ Rows.volumeNowSpec.plain.varTypes Tryz.checked.prog ++ Tryz.f9.resultTypes.toList).any (Tryz.checked.prog.wideKeysFrom ·))) = true := by kernel_rfl
theorem jf18 : (Rows.volumeNowSpec.vars.all (Tryz.checked.prog.varReadable ·)) = true := by kernel_rfl
theorem jf19 : (Tryz.f9.resultTypes.all (fun t => Tryz.checked.prog.readableRec t && decide (t < Tryz.checked.prog.types.size))) = true := by kernel_rfl
theorem jf20 : ((Rows.volumeNowRow.ifacesOut == Tryz.f9.resultTypes.toList.any (Tryz.checked.prog.ifacesRec ·))) = true := by kernel_rfl
theorem jf21 : ((Rows.volumeNowRow.loopsOut == Tryz.f9.resultTypes.toList.any (Tryz.checked.prog.loopsFrom ·))) = true := by kernel_rfl
theorem jf22 : ((Rows.volumeNowRow.plainKeys == Tryz.checked.prog.plainKeys)) = true := by kernel_rfl
theorem jf23 : (Rows.volumeNowRow.shortTexts.isNone) = true := by kernel_rfl
theorem jf24 : (Tryz.checked.prog.stopsHeard) = true := by kernel_rfl
theorem jf25 : (Tryz.checked.prog.mayEnter) = true := by kernel_rfl
theorem jf26 : ((Rows.volumeNowRow.lifted == Tryz.checked.prog.liftsFinal)) = true := by kernel_rfl
theorem jf27 : ((Tryz.checked.prog.make == some Rows.volumeNowRow.make)) = true := by kernel_rfl
theorem jf28 : ((Rows.volumeNowRow.kinds == E.kindsOf Tryz.checked.prog Tryz.f9 Rows.volumeNowRow)) = true := by kernel_rfl
theorem jf29 : ((Rows.volumeNowRow.pinned == Rows.volumeNowRow.pinnedBy)) = true := by kernel_rfl
theorem jf30 : ((Rows.volumeNowRow.veiled == (Tryz.f9.params.toList ++ Rows.volumeNowSpec.plain.varTypes Tryz.checked.prog ++ Tryz.f9.resultTypes.toList).any (Tryz.checked.prog.veiledRec ·))) = true := by kernel_rfl
theorem jf31 : (Rows.volumeNowRow.veiledFits Tryz.checked.prog Tryz.f9.params.toList (Tryz.f9.params.toList ++ Rows.volumeNowSpec.plain.varTypes Tryz.checked.prog ++ Tryz.f9.resultTypes.toList)) = true := by kernel_rfl
theorem closed : joinedFacts Tryz.checked.prog 9 Tryz.f9 Rows.volumeNowSpec Rows.volumeNowRow = true := E.joined_of jf0 jf1 jf2 jf3 jf4 jf5 jf6 jf7 jf8 jf9 jf10 jf11 jf12 jf13 jf14 jf15 jf16 jf17 jf18 jf19 jf20 jf21 jf22 jf23 jf24 jf25 jf26 jf27 jf28 jf29 jf30 jf31
theorem hfn : Tryz.checked.prog.funcNamed Rows.volumeNowRow.func = some 9 := by kernel_rfl
theorem hinst : Tryz.f9.isInstance Tryz.checked.prog Rows.volumeNowRow.origin Rows.volumeNowRow.targs := of_decide_eq_true (by kernel_rfl)
theorem hwrap : Tryz.f9.isWrapper Tryz.checked.prog Rows.volumeNowRow.wrapper Rows.volumeNowRow.mainSum := by unfold Func.isWrapper; first | (rw [if_pos (by decide +kernel)]; kernel_rfl) | (rw [if_neg (by decide +kernel)]; exact ⟨rfl, rfl⟩)
theorem over : Rows.volumeNowRow.holds Tryz.pinned (OpenSpec.ofChange Rows.volumeNowSpec) :=
  OpenClaim.holds_of_wide 9 Tryz.f9 rfl rfl rfl rfl rfl rfl rfl ⟨rfl, rfl, rfl, rfl, rfl⟩ rfl rfl rfl rfl rfl hfn Tryz.func9 closed hinst hwrap
    (fun os started H enc _ => lifted os started H enc)
theorem proved : Rows.VolumeNowSaid := over
end Go.Proofs.YtngploohhmfaiaaGreat.volumeNow
namespace Go.Proofs.YtngploohhmfaiaaGreat
/-- The row, under a short name. -/
theorem volumeNow_holds : Rows.VolumeNowSaid := volumeNow.proved
#print axioms volumeNow_holds
end Go.Proofs.YtngploohhmfaiaaGreat
