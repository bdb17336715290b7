/-
  For every set of needs, every order of writes and whichever of them are done when it crashes: the disk has, of each patch that it has, all that this needs. No condition.
-/
import Derived.Test.YtngploohhmfaiaaGreatRows
import Derived.WalkKit
import Derived.ProofKit
import Derived.OpenShut
import Derived.ShutString
import Derived.ChangeOld
import Derived.Below
import Derived.Carry
import Derived.Lib.SmallJoins
import Derived.Test.YtngploohhmfaiaaGreatQc11
namespace Go.Proofs.YtngploohhmfaiaaGreat.volumeCrash
open Go.ChangeShapes Go.WideShapes Go.ChangeAt Go.RowKit Go.Joins
set_option linter.unusedVariables false
theorem own : ownKnob Tryz.prog.godebug = none := by kernel_rfl
theorem laidOut : laidOutB Tryz.prog = true := by kernel_rfl
theorem walk {H : Type} {enc : TypeId × Value → H} {da : Option Addr} {dn : Nat} (dc : Nat) {rows : List (List Value)} {oa : Option Addr} {on : Nat} (oc : Nat) {os : List Int} (m : Int) (W : World) (hs : E.Sl ⟨W.heap, fun _ => 0⟩ da rows.flatten 0) (hl : rows.length = dn) (hw : ∀ r ∈ rows, r.length = Tryz.prog.cellsOf 73 ∧ E.Rdw enc Tryz.prog W 73 r) (h0 : da = none → dn = 0) (hb : dn * Tryz.prog.bytesOf 73 ≤ reachBytes) (ho : E.Sl ⟨W.heap, fun _ => 0⟩ oa (E.ivs os) 0) (hol : os.length = on) (ho0 : oa = none → on = 0) (hob : on ≤ 17592186043904) (_ : (Lit.int .u64 m).wf = true) :
    Calls Tryz.prog 6 #[.slice da dn dc, .slice oa on oc, .int .u64 m] W fun e W' => e = .returned (.bool true) ∧ Below W.heap.size W W' := by
  have h24 : Tryz.prog.bytesOf 73 = 24 := by kernel_rfl
  rw [h24] at hb
  unfold reachBytes at hb
  obtain ⟨ls, h1, h2, h3⟩ := E.rdw_ns hw
  exact E.walkT (T := [50, 50 + 1, 50 + 3, 50 + 10, 50 + 11, 50 + 12, 50 + 13, 50 + 14, 50 + 20, 50 + 21, 50 + 22, 50 + 23, 50 + 30, 50 + 31, 50 + 32]) (by decide) (E.w_vcrash 50 dc oc m (by decide) (by rw [← h2]; exact hs) h3 (by omega) (by omega) h0 ho hol hob ho0 (by decide))
set_option maxRecDepth 100000 in
theorem lifted (os : Os) (started : os.Started) (H : Type) (enc : TypeId × Value → H) :
    ReturnsInHanded {} Tryz.checked os 6 .any (Rows.volumeCrashSpec.pre6 enc Tryz.prog Tryz.f6 Rows.volumeCrashRow.domain false) (Rows.volumeCrashSpec.post enc Tryz.prog Tryz.f6 false true false false) := by
  refine E.rih_sized (C := Tryz.checked) own started (by kernel_rfl) Tryz.func6
    (ChangeSpec.witness6 (enc := enc) (C := Tryz.checked) false ⟨#[], #[.slice none 0 0, .slice none 0 0, .int .u64 0], []⟩ 8 (by kernel_rfl) (by kernel_rfl) (by kernel_rfl) (by kernel_rfl)) ?_
  intro W base args ds gs before hval0 hW hwt0
  have hval : ∀ (j : Nat) t v, Tryz.f6.params[j]? = some t → args[j]? = some v → Value.okWide Tryz.prog W .any base t v := hval0
  have hW' := hW
  obtain ⟨p, q, hA0, hV, rfl, hfz, hnd⟩ := hW
  have hA : DataW.TrodAll enc Tryz.prog W 0 (fun _ => true) true Tryz.f6.params.toList args.toList ds p := hA0
  rw [Tryz.params6] at hA hval
  have hwt := E.weights_all hwt0
  rw [Tryz.params6] at hwt
  obtain ⟨v0, vs0, d0, ds0, p0, q0, hargs, rfl, rfl, h0, r0⟩ := trodAll_cons hA
  obtain ⟨v1, vs1, d1, ds1, p1, q1, rfl, rfl, rfl, h1, r1⟩ := trodAll_cons r0
  obtain ⟨v2, vs2, d2, ds2, p2, q2, rfl, rfl, rfl, h2, r2⟩ := trodAll_cons r1
  obtain ⟨rfl, rfl, rfl⟩ := trodAll_nil r2
  obtain rfl : args = #[v0, v1, v2] := by cases args; simp_all
  obtain ⟨rfl, rfl⟩ := trodVars_none hV
  have k0 := h0
  have lt0 : ∀ x ∈ p0, x.block < W.heap.size := by obtain ⟨m, hm⟩ := k0; exact DataW.trod_lt m _ _ _ hm
  obtain ⟨a0, n0, c0, l0, hr0, hnc0, hcm0, h00, hl0, hw0, hs0⟩ := E.rdw_sl Tryz.underlying84 (E.rdw_of h0 (E.weightsEach_get (i := 0) rfl rfl hwt))
  obtain rfl := E.open_v Tryz.underlying84 (hval 0 84 v0 rfl rfl) hr0
  have k1 := h1
  have lt1 : ∀ x ∈ p1, x.block < W.heap.size := by obtain ⟨m, hm⟩ := k1; exact DataW.trod_lt m _ _ _ hm
  obtain ⟨a1, n1, c1, l1, hr1, hnc1, hcm1, h01, hl1, hs1⟩ := E.rdw_ints Tryz.underlying73 Tryz.underlying3 (by kernel_rfl) (E.rdw_of h1 (E.weightsEach_get (i := 1) rfl rfl hwt))
  obtain rfl := E.open_v Tryz.underlying73 (hval 1 73 v1 rfl rfl) hr1
  obtain ⟨a2, rfl, rfl, rfl, w2⟩ := open_int Tryz.underlying85 (hval 2 85 v2 rfl rfl) h2
  clear hA0 hval0
  refine (walk c0 c1 a2 W hs0 hl0 hw0 h00 hcm0 hs1 hl1 h01 hcm1 w2).mono fun e W' ⟨he, bel⟩ => ?_
  subst he
  exact ⟨_, rfl, _, _, _, [], _, [], hW', trodAll_mk1 (shut_bool Tryz.underlying4 _), (trodAll_cons_mk (Below.trod laidOut (by kernel_rfl) (of_decide_eq_true (by kernel_rfl)) k0 bel lt0) (trodAll_cons_mk (Below.trod laidOut (by kernel_rfl) (of_decide_eq_true (by kernel_rfl)) k1 bel lt1) (trodAll_cons_mk (shut_int Tryz.underlying85 w2) trodAll_mk0))), rfl, bel.frame _, fun h => by cases h⟩
theorem jf0 : (Rows.volumeCrashRow.wf (OpenSpec.ofChange Rows.volumeCrashSpec)) = true := by kernel_rfl
theorem jf1 : (laidOutB Tryz.checked.prog) = true := by kernel_rfl
theorem jf2 : (mapsRowed Tryz.checked.prog) = true := by kernel_rfl
theorem jf3 : (Tryz.f6.params.all (Tryz.checked.prog.readableRec ·)) = true := by kernel_rfl
theorem jf4 : (namedTie Tryz.checked.prog Rows.volumeCrashRow.named Rows.volumeCrashSpec.vars) = true := by kernel_rfl
theorem jf5 : ((Rows.volumeCrashRow.stops == [])) = true := by kernel_rfl
theorem jf6 : ((Tryz.checked.prog.stops == [])) = true := by kernel_rfl
theorem jf7 : ((Rows.volumeCrashRow.knobs == [])) = true := by kernel_rfl
theorem jf8 : ((Tryz.checked.prog.stopKnobs == [])) = true := by kernel_rfl
theorem jf9 : ((Rows.volumeCrashRow.inPlace == Tryz.checked.prog.inPlace 6)) = true := by kernel_rfl
theorem jf10 : ((Rows.volumeCrashRow.unfollowed == Tryz.checked.prog.unfollowed 6)) = true := by kernel_rfl
theorem jf11 : ((Rows.volumeCrashRow.recurses == Tryz.checked.prog.recurses 6)) = true := by kernel_rfl
theorem jf12 : ((Rows.volumeCrashRow.named == Tryz.checked.prog.varsNamed 6)) = true := by kernel_rfl
theorem jf13 : ((Rows.volumeCrashRow.maps == (Tryz.f6.params.toList ++ Rows.volumeCrashSpec.plain.varTypes Tryz.checked.prog).any (Tryz.checked.prog.mapsRec ·))) = true := by kernel_rfl
theorem jf14 : ((Rows.volumeCrashRow.ifaces == (Tryz.f6.params.toList ++ Rows.volumeCrashSpec.plain.varTypes Tryz.checked.prog).any (Tryz.checked.prog.ifacesRec ·))) = true := by kernel_rfl
theorem jf15 : ((Rows.volumeCrashRow.mapsOut == Tryz.checked.prog.mapsAmong Tryz.f6.resultTypes.toList)) = true := by kernel_rfl
theorem jf16 : ((Rows.volumeCrashRow.loops == (Tryz.f6.params.toList ++ Rows.volumeCrashSpec.plain.varTypes Tryz.checked.prog).any (Tryz.checked.prog.loopsFrom ·))) = true := by kernel_rfl
theorem jf17 : ((Rows.volumeCrashRow.wideKeys == (Tryz.f6.params.toList ++ Rows.volumeCrashSpec.plain.varTypes Tryz.checked.prog ++ Tryz.f6.resultTypes.toList).any (Tryz.checked.prog.wideKeysFrom ·))) = true := by kernel_rfl
theorem jf18 : (Rows.volumeCrashSpec.vars.all (Tryz.checked.prog.varReadable ·)) = true := by kernel_rfl
theorem jf19 : (Tryz.f6.resultTypes.all (fun t => Tryz.checked.prog.readableRec t && decide (t < Tryz.checked.prog.types.size))) = true := by kernel_rfl
theorem jf20 : ((Rows.volumeCrashRow.ifacesOut == Tryz.f6.resultTypes.toList.any (Tryz.checked.prog.ifacesRec ·))) = true := by kernel_rfl
theorem jf21 : ((Rows.volumeCrashRow.loopsOut == Tryz.f6.resultTypes.toList.any (Tryz.checked.prog.loopsFrom ·))) = true := by kernel_rfl
theorem jf22 : ((Rows.volumeCrashRow.plainKeys == Tryz.checked.prog.plainKeys)) = true := by kernel_rfl
theorem jf23 : (Rows.volumeCrashRow.shortTexts.isNone) = true := by kernel_rfl
theorem jf24 : (Tryz.checked.prog.stopsHeard) = true := by kernel_rfl
theorem jf25 : (Tryz.checked.prog.mayEnter) = true := by kernel_rfl
theorem jf26 : ((Rows.volumeCrashRow.lifted == Tryz.checked.prog.liftsFinal)) = true := by kernel_rfl
theorem jf27 : ((Tryz.checked.prog.make == some Rows.volumeCrashRow.make)) = true := by kernel_rfl
theorem jf28 : ((Rows.volumeCrashRow.kinds == E.kindsOf Tryz.checked.prog Tryz.f6 Rows.volumeCrashRow)) = true := by kernel_rfl
theorem jf29 : ((Rows.volumeCrashRow.pinned == Rows.volumeCrashRow.pinnedBy)) = true := by kernel_rfl
theorem jf30 : ((Rows.volumeCrashRow.veiled == (Tryz.f6.params.toList ++ Rows.volumeCrashSpec.plain.varTypes Tryz.checked.prog ++ Tryz.f6.resultTypes.toList).any (Tryz.checked.prog.veiledRec ·))) = true := by kernel_rfl
theorem jf31 : (Rows.volumeCrashRow.veiledFits Tryz.checked.prog Tryz.f6.params.toList (Tryz.f6.params.toList ++ Rows.volumeCrashSpec.plain.varTypes Tryz.checked.prog ++ Tryz.f6.resultTypes.toList)) = true := by kernel_rfl
theorem closed : joinedFacts Tryz.checked.prog 6 Tryz.f6 Rows.volumeCrashSpec Rows.volumeCrashRow = true := E.joined_of jf0 jf1 jf2 jf3 jf4 jf5 jf6 jf7 jf8 jf9 jf10 jf11 jf12 jf13 jf14 jf15 jf16 jf17 jf18 jf19 jf20 jf21 jf22 jf23 jf24 jf25 jf26 jf27 jf28 jf29 jf30 jf31
theorem hfn : Tryz.checked.prog.funcNamed Rows.volumeCrashRow.func = some 6 := by kernel_rfl
theorem hinst : Tryz.f6.isInstance Tryz.checked.prog Rows.volumeCrashRow.origin Rows.volumeCrashRow.targs := of_decide_eq_true (by kernel_rfl)
theorem hwrap : Tryz.f6.isWrapper Tryz.checked.prog Rows.volumeCrashRow.wrapper Rows.volumeCrashRow.mainSum := by unfold Func.isWrapper; first | (rw [if_pos (by decide +kernel)]; kernel_rfl) | (rw [if_neg (by decide +kernel)]; exact ⟨rfl, rfl⟩)
theorem over : Rows.volumeCrashRow.holds Tryz.pinned (OpenSpec.ofChange Rows.volumeCrashSpec) :=
  OpenClaim.holds_of_wide 6 Tryz.f6 rfl rfl rfl rfl rfl rfl rfl ⟨rfl, rfl, rfl, rfl, rfl⟩ rfl rfl rfl rfl rfl hfn Tryz.func6 closed hinst hwrap
    (fun os started H enc _ => lifted os started H enc)
theorem proved : Rows.VolumeCrashSaid := over
end Go.Proofs.YtngploohhmfaiaaGreat.volumeCrash
namespace Go.Proofs.YtngploohhmfaiaaGreat
/-- The row, under a short name. -/
theorem volumeCrash_holds : Rows.VolumeCrashSaid := volumeCrash.proved
#print axioms volumeCrash_holds
end Go.Proofs.YtngploohhmfaiaaGreat
