/- What a law's arguments are: rows of cells that read as values of a type; slices of them, in states with marks. -/
import Derived.Test.YtmgjdmohmhaemaaLib7
import Derived.WideShapes
import Derived.ChangeArms
import Derived.DataReads
import Derived.ProofKit
namespace Go.Proofs.Ytmgjdmohmhaemaa.E
open Go Go.WideShapes
set_option linter.unusedVariables false
/-- a row of cells that reads as a value of a type -/
def Rd {H : Type} (enc : TypeId × Value → H) (P : Program) (W : World) (t : TypeId) (row : List Value) : Prop := ∃ fuel y, DataW.trod enc P W 0 (fun _ => true) true fuel t row = some y
section
variable {H : Type} {enc : TypeId × Value → H} {P : Program} {W : World} {t e : TypeId} {row : List Value}
theorem rd_of {v : Value} {d : DataW H} {ps : List MemPlace} (h : DataW.Trod enc P W 0 (fun _ => true) true t v d ps) : Rd enc P W t v.cells.toList := by
  obtain ⟨f, h⟩ := h; exact ⟨f, _, h⟩
theorem rd_int {k : IntKind} (ht : P.underlying t = some (.int k)) (h : Rd enc P W t row) : ∃ x, row = [.int k x] ∧ (Lit.int k x).wf = true := by
  obtain ⟨f, y, h⟩ := h
  obtain ⟨n, h1, _, h2⟩ := DataW.trod_int ht h
  exact ⟨n, h1, h2⟩
theorem rd_bool (ht : P.underlying t = some .bool) (h : Rd enc P W t row) : ∃ x, row = [.bool x] := by
  obtain ⟨f, y, h⟩ := h
  obtain ⟨n, h1, _⟩ := DataW.trod_bool ht h
  exact ⟨n, h1⟩
theorem rd_string (ht : P.underlying t = some .string) (h : Rd enc P W t row) : ∃ x : ByteArray, row = [.string x] ∧ x.size ≤ maxLen := by
  obtain ⟨f, y, h⟩ := h
  obtain ⟨n, h1, _, h2⟩ := DataW.trod_string ht h
  exact ⟨n, h1, h2⟩
theorem rd_struct {fs : Array Field} (ht : P.underlying t = some (.struct fs)) (h : Rd enc P W t row) : row.length = P.cellsOf t ∧ ∀ (i : Nat) (f : Field), fs[i]? = some f → Rd enc P W f.type ((row.drop f.offset).take (P.cellsOf f.type)) := by
  obtain ⟨f, y, h⟩ := h
  obtain ⟨xs, n, rfl, rfl, h1, h2, h3⟩ := DataW.trod_struct ht h
  refine ⟨h1, fun i f hf => ?_⟩
  have hi : i < xs.length := by rw [h2]; exact (Array.getElem?_eq_some_iff.1 hf).1
  exact ⟨n, xs[i], by rw [h3 i f hf]; simp [hi]⟩
theorem flat_get {k : Nat} : ∀ {rows : List (List Value)}, (∀ r ∈ rows, r.length = k) → ∀ {j : Nat} {v : Value}, rows.flatten[j]? = some v → ∃ i m r, j = i * k + m ∧ m < k ∧ rows[i]? = some r ∧ r[m]? = some v
  | [], _, j, v, h => by simp at h
  | r :: rows, hk, j, v, h => by
    rw [List.flatten_cons] at h
    have hr := hk r (by simp)
    by_cases hj : j < k
    · rw [List.getElem?_append_left (by omega)] at h
      exact ⟨0, j, r, by omega, hj, by simp, h⟩
    · rw [List.getElem?_append_right (by omega)] at h
      obtain ⟨i, m, r', h1, h2, h3, h4⟩ := flat_get (fun r' h' => hk r' (List.mem_cons_of_mem _ h')) h
      exact ⟨i + 1, m, r', by rw [Nat.add_mul, Nat.one_mul]; omega, h2, by simpa using h3, h4⟩
theorem sl_rows {a : Addr} {k : Nat} {rows : List (List Value)} (hk : ∀ r ∈ rows, r.length = k) (h : ∀ i r, rows[i]? = some r → ∀ m, m < k → W.cell? ((a.add (i * k)).add m) = r[m]?) : Sl ⟨W.heap, fun _ => 0⟩ (some a) rows.flatten 0 := by
  by_cases he : rows.flatten = []
  · exact .inl he
  right
  have h0 : ∃ v, W.cell? a = some v := by
    obtain ⟨v, hv⟩ : ∃ v, rows.flatten[0]? = some v := by
      cases hf : rows.flatten with
      | nil => exact absurd hf he
      | cons v l => exact ⟨v, by simp⟩
    obtain ⟨i, m, r, h1, h2, h3, h4⟩ := flat_get hk hv
    obtain rfl : m = 0 := by omega
    have hi : i * k = 0 := by omega
    have := h i r h3 0 h2
    rw [hi] at this
    refine ⟨v, ?_⟩
    rw [← h4, ← this]
    simp [Addr.add]
  obtain ⟨v0, hv0⟩ := h0
  obtain ⟨g, o, sp⟩ := a
  have hsp : sp = none := by
    cases sp with
    | none => rfl
    | some x =>
      rw [cell_eq] at hv0
      unfold cellH at hv0
      split at hv0 <;> simp at hv0
  subst hsp
  have hlt : g < W.heap.size := by
    rw [cell_eq] at hv0
    unfold cellH at hv0
    split at hv0
    · rename_i hg; exact (Array.getElem?_eq_some_iff.1 hg).1
    · cases hv0
  refine ⟨g, o, rfl, hlt, rfl, fun j v hv => ?_⟩
  obtain ⟨i, m, r, h1, h2, h3, h4⟩ := flat_get hk hv
  have := h i r h3 m h2
  rw [add_mk, add_mk, h4, cell_eq] at this
  rw [h1, ← Nat.add_assoc]; exact this
theorem rd_sl (ht : P.underlying t = some (.slice e)) (h : Rd enc P W t row) : ∃ (a : Option Addr) (n c : Nat) (rows : List (List Value)), row = [.slice a n c] ∧ n ≤ c ∧ c ≤ maxLen ∧ (a = none → n = 0) ∧ rows.length = n ∧ (∀ r ∈ rows, r.length = P.cellsOf e ∧ Rd enc P W e r) ∧ Sl ⟨W.heap, fun _ => 0⟩ a rows.flatten 0 := by
  obtain ⟨f, y, h⟩ := h
  rcases DataW.trod_slice ht h with ⟨h0, _⟩ | ⟨a, len, cap, elems, rest, n, rfl, rfl, rfl, hb, hl, hm, hlen, hel, _⟩
  · exact ⟨none, 0, 0, [], h0, by omega, by omega, fun _ => rfl, rfl, fun r hr => (List.not_mem_nil hr).elim, .inl rfl⟩
  · have hrow : ∀ i, i < len → ∃ r, W.cells? 0 (a.add (i * P.cellsOf e)) (P.cellsOf e) = some r ∧ Rd enc P W e r := fun i hi => by
      have h1 := hel i hi
      rw [List.getElem?_eq_getElem (by omega)] at h1
      obtain ⟨r, h2, h3⟩ := Option.bind_eq_some_iff.1 h1
      exact ⟨r, h2, n, _, h3⟩
    let rows := (List.range len).map fun i => (W.cells? 0 (a.add (i * P.cellsOf e)) (P.cellsOf e)).getD []
    have hget : ∀ i r, rows[i]? = some r → W.cells? 0 (a.add (i * P.cellsOf e)) (P.cellsOf e) = some r ∧ Rd enc P W e r := fun i r hr => by
      have hi : i < len := by
        have := (List.getElem?_eq_some_iff.1 hr).1
        simpa [rows] using this
      obtain ⟨r', h1, h2⟩ := hrow i hi
      simp [rows, hi, h1] at hr
      subst hr; exact ⟨h1, h2⟩
    have hmem : ∀ r ∈ rows, r.length = P.cellsOf e ∧ Rd enc P W e r := fun r hr => by
      obtain ⟨i, hi⟩ := List.getElem?_of_mem hr
      obtain ⟨h1, h2⟩ := hget i r hi
      exact ⟨(World.cells?_some h1).2.1, h2⟩
    exact ⟨some a, len, cap, rows, rfl, hl, hm, (fun h => by cases h), by simp [rows], hmem, sl_rows (fun r hr => (hmem r hr).1) fun i r hr m hm => (World.cells?_some (hget i r hr).1).2.2 m hm⟩
/-- a slice of whole numbers -/
theorem rd_ints (ht : P.underlying t = some (.slice e)) (he : P.underlying e = some (.int .i64)) (h : Rd enc P W t row) : ∃ (a : Option Addr) (n c : Nat) (ls : List Int), row = [.slice a n c] ∧ n ≤ c ∧ c ≤ maxLen ∧ (a = none → n = 0) ∧ ls.length = n ∧ Sl ⟨W.heap, fun _ => 0⟩ a (ivs ls) 0 ∧ ∀ x ∈ ls, (Lit.int .i64 x).wf = true := by
  obtain ⟨a, n, c, rows, h1, h2, h3, h4, h5, h6, h7⟩ := rd_sl ht h
  have hx : ∀ l : List (List Value), (∀ r ∈ l, r.length = P.cellsOf e ∧ Rd enc P W e r) → ∃ ls : List Int, ls.length = l.length ∧ l.flatten = ivs ls ∧ ∀ x ∈ ls, (Lit.int .i64 x).wf = true := by
    intro l
    induction l with
    | nil => intro _; exact ⟨[], rfl, rfl, fun x hx => (List.not_mem_nil hx).elim⟩
    | cons r l ih =>
      intro hr
      obtain ⟨ls, k1, k2, k3⟩ := ih fun r' h' => hr r' (List.mem_cons_of_mem _ h')
      obtain ⟨x, rfl, hw⟩ := rd_int he (hr r (by simp)).2
      refine ⟨x :: ls, by simp [k1], by simp [k2, ivs], fun y hy => ?_⟩
      rcases List.mem_cons.1 hy with rfl | hy
      · exact hw
      · exact k3 y hy
  obtain ⟨ls, k1, k2, k3⟩ := hx rows h6
  exact ⟨a, n, c, ls, h1, h2, h3, h4, by omega, by rw [← k2]; exact h7, k3⟩
/-- a slice of bytes -/
theorem rd_bytes (ht : P.underlying t = some (.slice e)) (he : P.underlying e = some (.int .u8)) (h : Rd enc P W t row) : ∃ (a : Option Addr) (n c : Nat) (ls : List UInt8), row = [.slice a n c] ∧ n ≤ c ∧ c ≤ maxLen ∧ (a = none → n = 0) ∧ ls.length = n ∧ Sl ⟨W.heap, fun _ => 0⟩ a (bvs ls) 0 := by
  obtain ⟨a, n, c, rows, h1, h2, h3, h4, h5, h6, h7⟩ := rd_sl ht h
  have hx : ∀ l : List (List Value), (∀ r ∈ l, r.length = P.cellsOf e ∧ Rd enc P W e r) → ∃ ls : List UInt8, ls.length = l.length ∧ l.flatten = bvs ls := by
    intro l
    induction l with
    | nil => intro _; exact ⟨[], rfl, rfl⟩
    | cons r l ih =>
      intro hr
      obtain ⟨ls, k1, k2⟩ := ih fun r' h' => hr r' (List.mem_cons_of_mem _ h')
      obtain ⟨x, rfl, hw⟩ := rd_int he (hr r (by simp)).2
      have e1 : IntKind.u8.min = 0 := by decide
      have e2 : IntKind.u8.max = 255 := by decide
      simp only [Lit.wf, e1, e2, Bool.and_eq_true, decide_eq_true_eq] at hw
      refine ⟨UInt8.ofNat x.toNat :: ls, by simp [k1], ?_⟩
      have : bv (UInt8.ofNat x.toNat) = .int .u8 x := by
        unfold bv
        have : (UInt8.ofNat x.toNat).toNat = x.toNat % 256 := rfl
        rw [this]
        congr 1
        omega
      simp [k2, bvs, this]
  obtain ⟨ls, k1, k2⟩ := hx rows h6
  exact ⟨a, n, c, ls, h1, h2, h3, h4, by omega, by rw [← k2]; exact h7⟩
theorem open_v {v : Value} {a : Option Addr} {n c : Nat} {r : Reach} {b0 : Nat} (ht : P.underlying t = some (.slice e)) (hval : Value.okWide P W r b0 t v) (h : v.cells.toList = [.slice a n c]) : v = .slice a n c := by
  obtain ⟨a', n', c', rfl⟩ := okWide_slice ht hval
  simp [Value.cells] at h
  obtain ⟨rfl, rfl, rfl⟩ := h; rfl
end
end Go.Proofs.Ytmgjdmohmhaemaa.E
