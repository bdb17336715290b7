/- My own texts, joined. -/
import Derived.ChangeArms
import Derived.DataReads
import Derived.JoinedOf
import Derived.KernelRfl
import Derived.OpenShut
import Derived.ProofKit
import Derived.WalkKit
import Derived.WideShapes
import Derived.Test.YtklppdodadkcnaaGreatIP13
/- What a law's arguments are: rows of cells that read as values of a type; slices of them, in states with marks. -/
namespace Go.Proofs.YtklppdodadkcnaaGreat.E
open Go Go.WideShapes
set_option linter.unusedVariables false
/-- a row of cells that reads as a value of a type -/
def Rd {H : Type} (enc : TypeId × Value → H) (P : Program) (W : World) (t : TypeId) (row : List Value) : Prop := ∃ fuel y, DataW.trod enc P W 0 (fun _ => true) true fuel t row = some y
section
variable {H : Type} {enc : TypeId × Value → H} {P : Program} {W : World} {t e : TypeId} {row : List Value}
theorem rd_of {v : Value} {d : DataW H} {ps : List MemPlace} (h : DataW.Trod enc P W 0 (fun _ => true) true t v d ps) : Rd enc P W t v.cells.toList := by
  obtain ⟨f, h⟩ := h; exact ⟨f, _, h⟩
theorem rd_int {k : IntKind} (ht : P.underlying t = some (.int k)) (h : Rd enc P W t row) : ∃ x, row = [.int k x] ∧ (Lit.int k x).wf = true := by
  obtain ⟨f, y, h⟩ := h
  obtain ⟨n, h1, _, h2⟩ := DataW.trod_int ht h
  exact ⟨n, h1, h2⟩
theorem rd_struct {fs : Array Field} (ht : P.underlying t = some (.struct fs)) (h : Rd enc P W t row) : row.length = P.cellsOf t ∧ ∀ (i : Nat) (f : Field), fs[i]? = some f → Rd enc P W f.type ((row.drop f.offset).take (P.cellsOf f.type)) := by
  obtain ⟨f, y, h⟩ := h
  obtain ⟨xs, n, rfl, rfl, h1, h2, h3⟩ := DataW.trod_struct ht h
  refine ⟨h1, fun i f hf => ?_⟩
  have hi : i < xs.length := by rw [h2]; exact (Array.getElem?_eq_some_iff.1 hf).1
  exact ⟨n, xs[i], by rw [h3 i f hf]; simp [hi]⟩
end
end Go.Proofs.YtklppdodadkcnaaGreat.E
/- An inode comes in: a struct of whole numbers with an array of four within. -/
namespace Go.Proofs.YtklppdodadkcnaaGreat.E
open Go Go.WideShapes
set_option linter.unusedVariables false
section
variable {H : Type} {enc : TypeId × Value → H} {P : Program} {W : World} {t e : TypeId} {row : List Value}
theorem rd_array {n : Nat} (ht : P.underlying t = some (.array n e)) (h : Rd enc P W t row) : row.length = P.cellsOf t ∧ ∀ i, i < n → Rd enc P W e ((row.drop (i * P.cellsOf e)).take (P.cellsOf e)) := by
  obtain ⟨f, y, h⟩ := h
  obtain ⟨xs, m, h1, h2, h3, h4, h5⟩ := DataW.trod_array ht h
  refine ⟨h3, fun i hi => ?_⟩
  have hx : i < xs.length := by omega
  exact ⟨m, xs[i], by rw [h5 i hi, List.getElem?_eq_getElem hx]⟩
theorem rd_one {I : TypeId} {c : Value} (hI : P.underlying I = some (.int .i64)) (h : Rd enc P W I [c]) : ∃ x, c = .int .i64 x ∧ (Lit.int .i64 x).wf = true := by
  obtain ⟨x, h1, h2⟩ := rd_int hI h
  exact ⟨x, by simpa using h1, h2⟩
theorem open_din {fs : Array Field} {I A : TypeId} {r : Reach} {b0 : Nat} {v : Value} {d : DataW H} {ps : List MemPlace} (hs : P.underlying t = some (.struct fs)) (hC : P.cellsOf t = 9)
    (hF : fs.toList.map (fun f => (f.type, f.offset)) = [(I, 0), (I, 1), (I, 2), (A, 3), (I, 7), (I, 8)]) (hI : P.underlying I = some (.int .i64)) (hIc : P.cellsOf I = 1) (hA : P.underlying A = some (.array 4 I)) (hAc : P.cellsOf A = 4)
    (hv : Value.okWide P W r b0 t v) (h : DataW.Trod enc P W 0 (fun _ => true) true t v d ps) :
    ∃ a0 a1 a2 a3 a4 a5 a6 a7 a8 : Int, v = .agg #[.int .i64 a0, .int .i64 a1, .int .i64 a2, .int .i64 a3, .int .i64 a4, .int .i64 a5, .int .i64 a6, .int .i64 a7, .int .i64 a8] ∧
      (Lit.int .i64 a0).wf = true ∧ (Lit.int .i64 a1).wf = true ∧ (Lit.int .i64 a2).wf = true ∧ (Lit.int .i64 a3).wf = true ∧ (Lit.int .i64 a4).wf = true ∧ (Lit.int .i64 a5).wf = true ∧ (Lit.int .i64 a6).wf = true ∧ (Lit.int .i64 a7).wf = true ∧ (Lit.int .i64 a8).wf = true := by
  obtain ⟨cs, rfl, hsz⟩ := okWide_struct hs hv
  obtain ⟨hl, hf⟩ := rd_struct hs (rd_of h)
  have hcl : (Value.agg cs).cells.toList = cs.toList := rfl
  rw [hcl] at hf
  have hlen : cs.toList.length = 9 := by rw [Array.length_toList, hsz, hC]
  obtain ⟨l, hl2⟩ : ∃ l, cs.toList = l := ⟨_, rfl⟩
  rw [hl2] at hf hlen
  obtain ⟨fl, hfl⟩ : ∃ l, fs.toList = l := ⟨_, rfl⟩
  rw [hfl] at hF
  have hg : ∀ i, fs[i]? = fl[i]? := fun i => by rw [← hfl, Array.getElem?_toList]
  obtain ⟨c0, c1, c2, c3, c4, c5, c6, c7, c8, rfl⟩ : ∃ c0 c1 c2 c3 c4 c5 c6 c7 c8, l = [c0, c1, c2, c3, c4, c5, c6, c7, c8] := by
    match l, hlen with
    | [c0, c1, c2, c3, c4, c5, c6, c7, c8], _ => exact ⟨_, _, _, _, _, _, _, _, _, rfl⟩
  have h6 : fl.length = 6 := by simpa using congrArg List.length hF
  obtain ⟨f0, f1, f2, f3, f4, f5, rfl⟩ : ∃ f0 f1 f2 f3 f4 f5, fl = [f0, f1, f2, f3, f4, f5] := by
    match fl, h6 with
    | [f0, f1, f2, f3, f4, f5], _ => exact ⟨_, _, _, _, _, _, rfl⟩
  · simp only [List.map_cons, List.map_nil, List.cons.injEq, Prod.mk.injEq, and_true] at hF
    obtain ⟨⟨t0, o0⟩, ⟨t1, o1⟩, ⟨t2, o2⟩, ⟨t3, o3⟩, ⟨t4, o4⟩, ⟨t5, o5⟩⟩ := hF
    have k0 := hf 0 f0 (by rw [hg]; rfl)
    have k1 := hf 1 f1 (by rw [hg]; rfl)
    have k2 := hf 2 f2 (by rw [hg]; rfl)
    have k3 := hf 3 f3 (by rw [hg]; rfl)
    have k4 := hf 4 f4 (by rw [hg]; rfl)
    have k5 := hf 5 f5 (by rw [hg]; rfl)
    rw [t0, o0, hIc] at k0
    rw [t1, o1, hIc] at k1
    rw [t2, o2, hIc] at k2
    rw [t3, o3, hAc] at k3
    rw [t4, o4, hIc] at k4
    rw [t5, o5, hIc] at k5
    have ka := (rd_array hA k3).2
    rw [hIc] at ka
    obtain ⟨a0, rfl, w0⟩ := rd_one hI k0
    obtain ⟨a1, rfl, w1⟩ := rd_one hI k1
    obtain ⟨a2, rfl, w2⟩ := rd_one hI k2
    obtain ⟨a3, rfl, w3⟩ := rd_one hI (ka 0 (by decide))
    obtain ⟨a4, rfl, w4⟩ := rd_one hI (ka 1 (by decide))
    obtain ⟨a5, rfl, w5⟩ := rd_one hI (ka 2 (by decide))
    obtain ⟨a6, rfl, w6⟩ := rd_one hI (ka 3 (by decide))
    obtain ⟨a7, rfl, w7⟩ := rd_one hI k4
    obtain ⟨a8, rfl, w8⟩ := rd_one hI k5
    exact ⟨a0, a1, a2, a3, a4, a5, a6, a7, a8, congrArg Value.agg (Array.toList_inj.1 hl2), w0, w1, w2, w3, w4, w5, w6, w7, w8⟩
end
end Go.Proofs.YtklppdodadkcnaaGreat.E
/- From a contract in states with marks to the kit's walk of a law. -/
namespace Go.Proofs.YtklppdodadkcnaaGreat.E
open Go Go.RowKit
set_option linter.unusedVariables false
theorem walkB {P : Program} {f : FuncId} {args : Array Value} {W : World}
    (h : TRet P f args ⟨W.heap, fun _ => 0⟩ fun v s' => v = .bool true ∧ Ch [] ⟨W.heap, fun _ => 0⟩ s') :
    Calls P f args W fun e W' => e = .returned (.bool true) ∧ Below W.heap.size W W' :=
  (h W rfl).mono fun e w' ⟨⟨v, s', he, hs, hv, hc⟩, hl⟩ =>
    ⟨by rw [he, hv], ⟨hl.os, hl.tape, hl.output, by rw [← hs]; exact hc.size, fun k hk => by rw [← hs]; exact hc.get k hk (by simp)⟩⟩
theorem walkT {P : Program} {f : FuncId} {args : Array Value} {W : World} {T : List Nat} (hT : 0 ∉ T)
    (h : TRet P f args ⟨W.heap, fun _ => 0⟩ fun v s' => v = .bool true ∧ Ch T ⟨W.heap, fun _ => 0⟩ s') :
    Calls P f args W fun e W' => e = .returned (.bool true) ∧ Below W.heap.size W W' :=
  walkB (h.mono fun v s' ⟨h1, h2⟩ => ⟨h1, Chg.mono h2 fun j _ hB => absurd hB hT⟩)
end Go.Proofs.YtklppdodadkcnaaGreat.E
/- The closed facts of a row, one by one. -/
namespace Go.Proofs.YtklppdodadkcnaaGreat.E
open Go
def kindsOf (P : Program) (fn : Func) (c : OpenClaim) : List (Option IntKind) := if c.domain.isEmpty then [] else fn.params.toList.map fun t => match P.underlying t with | some (.int k) => some k | _ => none
theorem andb {a b : Bool} (h : a = true) (k : b = true) : (a && b) = true := by rw [h, k]; rfl
theorem joined_of {P : Program} {f : FuncId} {fn : Func} {s : ChangeSpec} {c : OpenClaim}
    (j0 : (c.wf (OpenSpec.ofChange s)) = true)
    (j1 : (laidOutB P) = true)
    (j2 : (mapsRowed P) = true)
    (j3 : (fn.params.all (P.readableRec ·)) = true)
    (j4 : (namedTie P c.named s.vars) = true)
    (j5 : ((c.stops == [])) = true)
    (j6 : ((P.stops == [])) = true)
    (j7 : ((c.knobs == [])) = true)
    (j8 : ((P.stopKnobs == [])) = true)
    (j9 : ((c.inPlace == P.inPlace f)) = true)
    (j10 : ((c.unfollowed == P.unfollowed f)) = true)
    (j11 : ((c.recurses == P.recurses f)) = true)
    (j12 : ((c.named == P.varsNamed f)) = true)
    (j13 : ((c.maps == (fn.params.toList ++ s.plain.varTypes P).any (P.mapsRec ·))) = true)
    (j14 : ((c.ifaces == (fn.params.toList ++ s.plain.varTypes P).any (P.ifacesRec ·))) = true)
    (j15 : ((c.mapsOut == P.mapsAmong fn.resultTypes.toList)) = true)
    (j16 : ((c.loops == (fn.params.toList ++ s.plain.varTypes P).any (P.loopsFrom ·))) = true)
    (j17 : ((c.wideKeys == (fn.params.toList ++ s.plain.varTypes P ++ fn.resultTypes.toList).any (P.wideKeysFrom ·))) = true)
    (j18 : (s.vars.all (P.varReadable ·)) = true)
    (j19 : (fn.resultTypes.all (fun t => P.readableRec t && decide (t < P.types.size))) = true)
    (j20 : ((c.ifacesOut == fn.resultTypes.toList.any (P.ifacesRec ·))) = true)
    (j21 : ((c.loopsOut == fn.resultTypes.toList.any (P.loopsFrom ·))) = true)
    (j22 : ((c.plainKeys == P.plainKeys)) = true)
    (j23 : (c.shortTexts.isNone) = true)
    (j24 : (P.stopsHeard) = true)
    (j25 : (P.mayEnter) = true)
    (j26 : ((c.lifted == P.liftsFinal)) = true)
    (j27 : ((P.make == some c.make)) = true)
    (j28 : ((c.kinds == kindsOf P fn c)) = true)
    (j29 : ((c.pinned == c.pinnedBy)) = true)
    (j30 : ((c.veiled == (fn.params.toList ++ s.plain.varTypes P ++ fn.resultTypes.toList).any (P.veiledRec ·))) = true)
    (j31 : (c.veiledFits P fn.params.toList (fn.params.toList ++ s.plain.varTypes P ++ fn.resultTypes.toList)) = true)
    : joinedFacts P f fn s c = true := by
  unfold joinedFacts
  exact (andb (andb (andb (andb (andb (andb (andb (andb (andb (andb (andb (andb (andb (andb (andb (andb (andb (andb (andb (andb (andb (andb (andb (andb (andb (andb (andb (andb (andb (andb (andb j0 j1) j2) j3) j4) j5) j6) j7) j8) j9) j10) j11) j12) j13) j14) j15) j16) j17) j18) j19) j20) j21) j22) j23) j24) j25) j26) j27) j28) j29) j30) j31)
end Go.Proofs.YtklppdodadkcnaaGreat.E
