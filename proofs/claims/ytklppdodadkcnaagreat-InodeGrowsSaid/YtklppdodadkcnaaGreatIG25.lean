/- My own texts, joined. -/
import Derived.ChangeArms
import Derived.DataReads
import Derived.Handed
import Derived.JoinedOf
import Derived.ProofKit
import Derived.WalkKit
import Derived.WideShapes
import Derived.Test.YtklppdodadkcnaaGreatIG24
namespace Go.Proofs.YtklppdodadkcnaaGreat.E
open Go Go.WideShapes
set_option linter.unusedVariables false
def Rd {H : Type} (enc : TypeId × Value → H) (P : Program) (W : World) (t : TypeId) (row : List Value) : Prop := ∃ fuel y, DataW.trod enc P W 0 (fun _ => true) true fuel t row = some y
section
variable {H : Type} {enc : TypeId × Value → H} {P : Program} {W : World} {t e : TypeId} {row : List Value}
theorem rd_int {k : IntKind} (ht : P.underlying t = some (.int k)) (h : Rd enc P W t row) : ∃ x, row = [.int k x] ∧ (Lit.int k x).wf = true := by
 obtain ⟨f, y, h⟩ := h
 obtain ⟨n, h1, _, h2⟩ := DataW.trod_int ht h
 exact ⟨n, h1, h2⟩
theorem flat_get {k : Nat} : ∀ {rows : List (List Value)}, (∀ r ∈ rows, r.length = k) → ∀ {j : Nat} {v : Value}, rows.flatten[j]? = some v → ∃ i m r, j = i * k + m ∧ m < k ∧ rows[i]? = some r ∧ r[m]? = some v
 | [], _, j, v, h => by simp at h
 | r :: rows, hk, j, v, h => by
  rw [List.flatten_cons] at h
  have hr := hk r (by simp)
  by_cases hj : j < k
  ·rw [List.getElem?_append_left (by omega)] at h
   exact ⟨0, j, r, by omega, hj, by simp, h⟩
  ·rw [List.getElem?_append_right (by omega)] at h
   obtain ⟨i, m, r', h1, h2, h3, h4⟩ := flat_get (fun r' h' => hk r' (List.mem_cons_of_mem _ h')) h
   exact ⟨i + 1, m, r', by rw [Nat.add_mul, Nat.one_mul]; omega, h2, by simpa using h3, h4⟩
theorem sl_rows {a : Addr} {k : Nat} {rows : List (List Value)} (hk : ∀ r ∈ rows, r.length = k) (h : ∀ i r, rows[i]? = some r → ∀ m, m < k → W.cell? ((a.add (i * k)).add m) = r[m]?) : Sl ⟨W.heap, fun _ => 0⟩ (some a) rows.flatten 0 := by
 by_cases he : rows.flatten = []
 ·exact .inl he
 right
 have h0 : ∃ v, W.cell? a = some v := by
  obtain ⟨v, hv⟩ : ∃ v, rows.flatten[0]? = some v := by
   cases hf : rows.flatten with
   | nil => exact absurd hf he
   | cons v l => exact ⟨v, by simp⟩
  obtain ⟨i, m, r, h1, h2, h3, h4⟩ := flat_get hk hv
  obtain rfl : m = 0 := by omega
  have hi : i * k = 0 := by omega
  have := h i r h3 0 h2
  rw [hi] at this
  refine ⟨v, ?_⟩
  rw [← h4, ← this]
  simp [Addr.add]
 obtain ⟨v0, hv0⟩ := h0
 obtain ⟨g, o, sp⟩ := a
 have hsp : sp = none := by
  cases sp with
  | none => rfl
  | some x =>
   rw [cell_eq] at hv0
   unfold cellH at hv0
   split at hv0 <;> simp at hv0
 subst hsp
 have hlt : g < W.heap.size := by
  rw [cell_eq] at hv0
  unfold cellH at hv0
  split at hv0
  ·rename_i hg; exact (Array.getElem?_eq_some_iff.1 hg).1
  ·cases hv0
 refine ⟨g, o, rfl, hlt, rfl, fun j v hv => ?_⟩
 obtain ⟨i, m, r, h1, h2, h3, h4⟩ := flat_get hk hv
 have := h i r h3 m h2
 rw [add_mk, add_mk, h4, cell_eq] at this
 rw [h1, ← Nat.add_assoc]; exact this
theorem rd_sl (ht : P.underlying t = some (.slice e)) (h : Rd enc P W t row) : ∃ (a : Option Addr) (n c : Nat) (rows : List (List Value)), row = [.slice a n c] ∧ n ≤ c ∧ c ≤ maxLen ∧ (a = none → n = 0) ∧ rows.length = n ∧ (∀ r ∈ rows, r.length = P.cellsOf e ∧ Rd enc P W e r) ∧ Sl ⟨W.heap, fun _ => 0⟩ a rows.flatten 0 := by
 obtain ⟨f, y, h⟩ := h
 rcases DataW.trod_slice ht h with ⟨h0, _⟩ | ⟨a, len, cap, elems, rest, n, rfl, rfl, rfl, hb, hl, hm, hlen, hel, _⟩
 ·exact ⟨none, 0, 0, [], h0, by omega, by omega, fun _ => rfl, rfl, fun r hr => (List.not_mem_nil hr).elim, .inl rfl⟩
 ·have hrow : ∀ i, i < len → ∃ r, W.cells? 0 (a.add (i * P.cellsOf e)) (P.cellsOf e) = some r ∧ Rd enc P W e r := fun i hi => by
   have h1 := hel i hi
   rw [List.getElem?_eq_getElem (by omega)] at h1
   obtain ⟨r, h2, h3⟩ := Option.bind_eq_some_iff.1 h1
   exact ⟨r, h2, n, _, h3⟩
  let rows := (List.range len).map fun i => (W.cells? 0 (a.add (i * P.cellsOf e)) (P.cellsOf e)).getD []
  have hget : ∀ i r, rows[i]? = some r → W.cells? 0 (a.add (i * P.cellsOf e)) (P.cellsOf e) = some r ∧ Rd enc P W e r := fun i r hr => by
   have hi : i < len := by
    have := (List.getElem?_eq_some_iff.1 hr).1
    simpa [rows] using this
   obtain ⟨r', h1, h2⟩ := hrow i hi
   simp [rows, hi, h1] at hr
   subst hr; exact ⟨h1, h2⟩
  have hmem : ∀ r ∈ rows, r.length = P.cellsOf e ∧ Rd enc P W e r := fun r hr => by
   obtain ⟨i, hi⟩ := List.getElem?_of_mem hr
   obtain ⟨h1, h2⟩ := hget i r hi
   exact ⟨(World.cells?_some h1).2.1, h2⟩
  exact ⟨some a, len, cap, rows, rfl, hl, hm, (fun h => by cases h), by simp [rows], hmem, sl_rows (fun r hr => (hmem r hr).1) fun i r hr m hm => (World.cells?_some (hget i r hr).1).2.2 m hm⟩
theorem rd_ints (ht : P.underlying t = some (.slice e)) (he : P.underlying e = some (.int .i64)) (h : Rd enc P W t row) : ∃ (a : Option Addr) (n c : Nat) (ls : List Int), row = [.slice a n c] ∧ n ≤ c ∧ c ≤ maxLen ∧ (a = none → n = 0) ∧ ls.length = n ∧ Sl ⟨W.heap, fun _ => 0⟩ a (ivs ls) 0 ∧ ∀ x ∈ ls, (Lit.int .i64 x).wf = true := by
 obtain ⟨a, n, c, rows, h1, h2, h3, h4, h5, h6, h7⟩ := rd_sl ht h
 have hx : ∀ l : List (List Value), (∀ r ∈ l, r.length = P.cellsOf e ∧ Rd enc P W e r) → ∃ ls : List Int, ls.length = l.length ∧ l.flatten = ivs ls ∧ ∀ x ∈ ls, (Lit.int .i64 x).wf = true := by
  intro l
  induction l with
  | nil => intro _; exact ⟨[], rfl, rfl, fun x hx => (List.not_mem_nil hx).elim⟩
  | cons r l ih =>
   intro hr
   obtain ⟨ls, k1, k2, k3⟩ := ih fun r' h' => hr r' (List.mem_cons_of_mem _ h')
   obtain ⟨x, rfl, hw⟩ := rd_int he (hr r (by simp)).2
   refine ⟨x :: ls, by simp [k1], by simp [k2, ivs], fun y hy => ?_⟩
   rcases List.mem_cons.1 hy with rfl | hy
   ·exact hw
   ·exact k3 y hy
 obtain ⟨ls, k1, k2, k3⟩ := hx rows h6
 exact ⟨a, n, c, ls, h1, h2, h3, h4, by omega, by rw [← k2]; exact h7, k3⟩
theorem open_v {v : Value} {a : Option Addr} {n c : Nat} {r : Reach} {b0 : Nat} (ht : P.underlying t = some (.slice e)) (hval : Value.okWide P W r b0 t v) (h : v.cells.toList = [.slice a n c]) : v = .slice a n c := by
 obtain ⟨a', n', c', rfl⟩ := okWide_slice ht hval
 simp [Value.cells] at h
 obtain ⟨rfl, rfl, rfl⟩ := h; rfl
end
end Go.Proofs.YtklppdodadkcnaaGreat.E
namespace Go.Proofs.YtklppdodadkcnaaGreat.E
open Go Go.WideShapes Go.ChangeShapes
set_option linter.unusedVariables false
section
variable {H : Type} {enc : TypeId × Value → H} {P : Program} {W : World} {t e : TypeId} {row : List Value}
theorem weightsEach_get {B : Nat} : ∀ {ts : List TypeId} {ds : List (DataW H)} {i : Nat} {t : TypeId} {d : DataW H}, ts[i]? = some t → ds[i]? = some d → (∀ x ∈ DataW.weightsEach P ts ds, x ≤ B) → ∀ x ∈ d.weights P t, x ≤ B
 | [], _, i, t, d, h1, _, _ => by simp at h1
 | t0 :: ts, [], i, t, d, _, h2, _ => by simp at h2
 | t0 :: ts, d0 :: ds, 0, t, d, h1, h2, h => by
  simp at h1 h2; subst h1 h2
  intro x hx; exact h x (by unfold DataW.weightsEach; exact List.mem_append_left _ hx)
 | t0 :: ts, d0 :: ds, i + 1, t, d, h1, h2, h => by
  simp at h1 h2
  exact weightsEach_get h1 h2 fun x hx => h x (by unfold DataW.weightsEach; exact List.mem_append_right _ hx)
theorem weightsAll_mem {B : Nat} : ∀ {ds : List (DataW H)} {d : DataW H}, d ∈ ds → (∀ x ∈ DataW.weightsAll P e ds, x ≤ B) → ∀ x ∈ d.weights P e, x ≤ B
 | d0 :: ds, d, hd, h => by
  rcases List.mem_cons.1 hd with rfl | hd
  ·intro x hx; exact h x (by unfold DataW.weightsAll; exact List.mem_append_left _ hx)
  ·exact weightsAll_mem hd fun x hx => h x (by unfold DataW.weightsAll; exact List.mem_append_right _ hx)
theorem weights_all {ts : List TypeId} {ds : List (DataW H)} (h : (DataW.weightsEach P ts ds).all (· ≤ reachBytes) = true) : ∀ x ∈ DataW.weightsEach P ts ds, x ≤ reachBytes := fun x hx => by
 have := List.all_eq_true.1 h x hx; simpa using this
def Rdw {H : Type} (enc : TypeId × Value → H) (P : Program) (W : World) (t : TypeId) (row : List Value) : Prop := ∃ fuel y, DataW.trod enc P W 0 (fun _ => true) true fuel t row = some y ∧ ∀ x ∈ y.1.weights P t, x ≤ reachBytes
theorem Rdw.rd (h : Rdw enc P W t row) : Rd enc P W t row := by obtain ⟨f, y, h, _⟩ := h; exact ⟨f, y, h⟩
theorem rdw_of {v : Value} {d : DataW H} {ps : List MemPlace} (h : DataW.Trod enc P W 0 (fun _ => true) true t v d ps) (hw : ∀ x ∈ d.weights P t, x ≤ reachBytes) : Rdw enc P W t v.cells.toList := by
 obtain ⟨f, h⟩ := h; exact ⟨f, _, h, hw⟩
theorem rdw_sl (ht : P.underlying t = some (.slice e)) (h : Rdw enc P W t row) : ∃ (a : Option Addr) (n c : Nat) (rows : List (List Value)), row = [.slice a n c] ∧ n ≤ c ∧ n * P.bytesOf e ≤ reachBytes ∧ (a = none → n = 0) ∧ rows.length = n ∧ (∀ r ∈ rows, r.length = P.cellsOf e ∧ Rdw enc P W e r) ∧ Sl ⟨W.heap, fun _ => 0⟩ a rows.flatten 0 := by
 obtain ⟨f, y, h, hw⟩ := h
 rcases DataW.trod_slice ht h with ⟨h0, _⟩ | ⟨a, len, cap, elems, rest, n, rfl, rfl, rfl, hb, hl, hm, hlen, hel, _⟩
 ·exact ⟨none, 0, 0, [], h0, by omega, by simp, fun _ => rfl, rfl, fun r hr => (List.not_mem_nil hr).elim, .inl rfl⟩
 ·unfold DataW.weights at hw
  rw [ht] at hw
  simp only [List.length_map] at hw
  have hbig : len * P.bytesOf e ≤ reachBytes := by
   have h1 := hw ((elems.length + rest.length) * P.bytesOf e) (by simp)
   have h2 : len * P.bytesOf e ≤ (elems.length + rest.length) * P.bytesOf e := Nat.mul_le_mul_right _ (by omega)
   omega
  have hrow : ∀ i, i < len → ∃ r, W.cells? 0 (a.add (i * P.cellsOf e)) (P.cellsOf e) = some r ∧ Rdw enc P W e r := fun i hi => by
   have h1 := hel i hi
   rw [List.getElem?_eq_getElem (by omega)] at h1
   obtain ⟨r, h2, h3⟩ := Option.bind_eq_some_iff.1 h1
   refine ⟨r, h2, n, _, h3, weightsAll_mem (ds := elems.map (·.1)) (List.mem_map.2 ⟨_, List.getElem_mem _, rfl⟩) fun x hx => hw x ?_⟩
   exact List.mem_cons_of_mem _ (List.mem_append_left _ hx)
  let rows := (List.range len).map fun i => (W.cells? 0 (a.add (i * P.cellsOf e)) (P.cellsOf e)).getD []
  have hget : ∀ i r, rows[i]? = some r → W.cells? 0 (a.add (i * P.cellsOf e)) (P.cellsOf e) = some r ∧ Rdw enc P W e r := fun i r hr => by
   have hi : i < len := by
    have := (List.getElem?_eq_some_iff.1 hr).1
    simpa [rows] using this
   obtain ⟨r', h1, h2⟩ := hrow i hi
   simp [rows, hi, h1] at hr
   subst hr; exact ⟨h1, h2⟩
  have hmem : ∀ r ∈ rows, r.length = P.cellsOf e ∧ Rdw enc P W e r := fun r hr => by
   obtain ⟨i, hi⟩ := List.getElem?_of_mem hr
   obtain ⟨h1, h2⟩ := hget i r hi
   exact ⟨(World.cells?_some h1).2.1, h2⟩
  exact ⟨some a, len, cap, rows, rfl, hl, hbig, (fun h => by cases h), by simp [rows], hmem, sl_rows (fun r hr => (hmem r hr).1) fun i r hr m hm => (World.cells?_some (hget i r hr).1).2.2 m hm⟩
theorem rdw_ints (ht : P.underlying t = some (.slice e)) (he : P.underlying e = some (.int .i64)) (h8 : P.bytesOf e = 8) (h : Rdw enc P W t row) : ∃ (a : Option Addr) (n c : Nat) (ls : List Int), row = [.slice a n c] ∧ n ≤ c ∧ n ≤ 17592186043904 ∧ (a = none → n = 0) ∧ ls.length = n ∧ Sl ⟨W.heap, fun _ => 0⟩ a (ivs ls) 0 := by
 obtain ⟨a, n, c, ls, h1, h2, _, h3, h4, h5, _⟩ := rd_ints ht he h.rd
 obtain ⟨a', n', c', _, g1, _, g3, _⟩ := rdw_sl ht h
 rw [h1] at g1
 cases g1
 rw [h8] at g3
 unfold reachBytes at g3
 exact ⟨a, n, c, ls, h1, h2, by omega, h3, h4, h5⟩
end
theorem rih_sized {H : Type} {enc : TypeId × Value → H} {a : Assume} {C : Checked} {os : Os} {f : FuncId} {fn : Func} {s : ChangeSpec} {conds : List PathCond} {apart fresh handsOn again : Bool}
  (own : ownKnob C.prog.godebug = none) (started : os.Started) (noInit : C.prog.inits.idxOf? f = none) (hfn : C.prog.funcs[f]? = some fn)
  (witness : ∃ (w : World) (tape : Tape) (i : Input), w.os = os ∧ (w.forCall tape i).Shaped C.prog ∧ i.vars = [] ∧ Input.okWide C.prog (w.forCall tape i) .any w.heap.size f i ∧
   s.pre6 enc C.prog fn conds apart (w.forCall tape i).memory i.args ∧ a.holds C.prog (lone (Frame.enter C.prog f i.args .normal) [] (w.forCall tape i)))
  (contract : ∀ (W : World) (base : Nat) (args : Array Value) (ds gs : List (DataW H)) (before : List MemPlace),
   (∀ (j : Nat) t v, fn.params[j]? = some t → args[j]? = some v → Value.okWide C.prog W .any base t v) →
   DataW.Whole enc C.prog fn.params.toList s.vars apart W args.toList ds gs before →
   (DataW.weightsEach C.prog (fn.params.toList ++ s.plain.varTypes C.prog) (ds ++ gs)).all (· ≤ reachBytes) = true →
   Calls C.prog f args W fun e W' => ∃ v, e = .returned v ∧ s.post enc C.prog fn apart fresh handsOn again W args v W') :
  ReturnsInHanded a C os f .any (s.pre6 enc C.prog fn conds apart) (s.post enc C.prog fn apart fresh handsOn again) := by
 refine returnsInHanded_of_calls own started noInit witness ?_
 intro w tape i _ _ _ hok hpre _
 obtain ⟨_, _, _, fn', hfn', _, _, _, _, hval⟩ := hok
 have e : fn' = fn := Option.some.inj (hfn'.symm.trans hfn)
 subst e
 obtain ⟨⟨ds, gs, before, hw, _⟩, hz⟩ := hpre
 have hw' := DataW.Whole.of_heap (w' := w.forCall tape i) (by rfl) hw
 refine (contract (w.forCall tape i) w.heap.size i.args ds gs before hval hw' (hz.weights hw)).mono fun e W' ⟨v, he, hp⟩ => ?_
 subst he
 exact ChangeSpec.post_blind hp
end Go.Proofs.YtklppdodadkcnaaGreat.E
namespace Go.Proofs.YtklppdodadkcnaaGreat.E
open Go Go.RowKit
set_option linter.unusedVariables false
theorem walkB {P : Program} {f : FuncId} {args : Array Value} {W : World}
  (h : TRet P f args ⟨W.heap, fun _ => 0⟩ fun v s' => v = .bool true ∧ Ch [] ⟨W.heap, fun _ => 0⟩ s') :
  Calls P f args W fun e W' => e = .returned (.bool true) ∧ Below W.heap.size W W' :=
 (h W rfl).mono fun e w' ⟨⟨v, s', he, hs, hv, hc⟩, hl⟩ =>
  ⟨by rw [he, hv], ⟨hl.os, hl.tape, hl.output, by rw [← hs]; exact hc.size, fun k hk => by rw [← hs]; exact hc.get k hk (by simp)⟩⟩
theorem walkT {P : Program} {f : FuncId} {args : Array Value} {W : World} {T : List Nat} (hT : 0 ∉ T)
  (h : TRet P f args ⟨W.heap, fun _ => 0⟩ fun v s' => v = .bool true ∧ Ch T ⟨W.heap, fun _ => 0⟩ s') :
  Calls P f args W fun e W' => e = .returned (.bool true) ∧ Below W.heap.size W W' :=
 walkB (h.mono fun v s' ⟨h1, h2⟩ => ⟨h1, Chg.mono h2 fun j _ hB => absurd hB hT⟩)
end Go.Proofs.YtklppdodadkcnaaGreat.E
namespace Go.Proofs.YtklppdodadkcnaaGreat.E
open Go
def kindsOf (P : Program) (fn : Func) (c : OpenClaim) : List (Option IntKind) := if c.domain.isEmpty then [] else fn.params.toList.map fun t => match P.underlying t with | some (.int k) => some k | _ => none
theorem andb {a b : Bool} (h : a = true) (k : b = true) : (a && b) = true := by rw [h, k]; rfl
theorem joined_of {P : Program} {f : FuncId} {fn : Func} {s : ChangeSpec} {c : OpenClaim}
  (j0 : (c.wf (OpenSpec.ofChange s)) = true)
  (j1 : (laidOutB P) = true)
  (j2 : (mapsRowed P) = true)
  (j3 : (fn.params.all (P.readableRec ·)) = true)
  (j4 : (namedTie P c.named s.vars) = true)
  (j5 : ((c.stops == [])) = true)
  (j6 : ((P.stops == [])) = true)
  (j7 : ((c.knobs == [])) = true)
  (j8 : ((P.stopKnobs == [])) = true)
  (j9 : ((c.inPlace == P.inPlace f)) = true)
  (j10 : ((c.unfollowed == P.unfollowed f)) = true)
  (j11 : ((c.recurses == P.recurses f)) = true)
  (j12 : ((c.named == P.varsNamed f)) = true)
  (j13 : ((c.maps == (fn.params.toList ++ s.plain.varTypes P).any (P.mapsRec ·))) = true)
  (j14 : ((c.ifaces == (fn.params.toList ++ s.plain.varTypes P).any (P.ifacesRec ·))) = true)
  (j15 : ((c.mapsOut == P.mapsAmong fn.resultTypes.toList)) = true)
  (j16 : ((c.loops == (fn.params.toList ++ s.plain.varTypes P).any (P.loopsFrom ·))) = true)
  (j17 : ((c.wideKeys == (fn.params.toList ++ s.plain.varTypes P ++ fn.resultTypes.toList).any (P.wideKeysFrom ·))) = true)
  (j18 : (s.vars.all (P.varReadable ·)) = true)
  (j19 : (fn.resultTypes.all (fun t => P.readableRec t && decide (t < P.types.size))) = true)
  (j20 : ((c.ifacesOut == fn.resultTypes.toList.any (P.ifacesRec ·))) = true)
  (j21 : ((c.loopsOut == fn.resultTypes.toList.any (P.loopsFrom ·))) = true)
  (j22 : ((c.plainKeys == P.plainKeys)) = true)
  (j23 : (c.shortTexts.isNone) = true)
  (j24 : (P.stopsHeard) = true)
  (j25 : (P.mayEnter) = true)
  (j26 : ((c.lifted == P.liftsFinal)) = true)
  (j27 : ((P.make == some c.make)) = true)
  (j28 : ((c.kinds == kindsOf P fn c)) = true)
  (j29 : ((c.pinned == c.pinnedBy)) = true)
  (j30 : ((c.veiled == (fn.params.toList ++ s.plain.varTypes P ++ fn.resultTypes.toList).any (P.veiledRec ·))) = true)
  (j31 : (c.veiledFits P fn.params.toList (fn.params.toList ++ s.plain.varTypes P ++ fn.resultTypes.toList)) = true)
  : joinedFacts P f fn s c = true := by
 unfold joinedFacts
 exact (andb (andb (andb (andb (andb (andb (andb (andb (andb (andb (andb (andb (andb (andb (andb (andb (andb (andb (andb (andb (andb (andb (andb (andb (andb (andb (andb (andb (andb (andb (andb j0 j1) j2) j3) j4) j5) j6) j7) j8) j9) j10) j11) j12) j13) j14) j15) j16) j17) j18) j19) j20) j21) j22) j23) j24) j25) j26) j27) j28) j29) j30) j31)
end Go.Proofs.YtklppdodadkcnaaGreat.E
