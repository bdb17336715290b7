/- My own texts, joined. -/
import Derived.KernelRfl
import Derived.Laws.Externs
import Derived.Lib.MakeNoZero
import Derived.Test.YtngploohhmfaiaaGreatProg
import Derived.Test.YtngploohhmfaiaaGreatAt2
/- Rows of records; ranges of marks; what a slice shows, read. -/
namespace Go.Proofs.YtngploohhmfaiaaGreat.E
open Go
set_option linter.unusedVariables false
set_option linter.unusedSimpArgs false
theorem rngn {s : TH} {T : Nat} {L : List Nat} (h : ∀ τ ∈ L, τ < T ∨ T + 10 ≤ τ) : ∀ j, j < s.h.size → T ≤ s.g j → s.g j < T + 10 → ¬ s.g j ∈ L := fun j _ h1 h2 h3 => by have := h _ h3; omega
theorem rngO {s : TH} {T r : Nat} (h : s.g r < T ∨ T + 10 ≤ s.g r) : ∀ j, j < s.h.size → T ≤ s.g j → s.g j < T + 10 → ¬ j = r := fun j _ h1 h2 h3 => by subst h3; omega
theorem of_rng {s : TH} {T τ : Nat} {B : Nat → Prop} (hn : ∀ j, j < s.h.size → T ≤ s.g j → s.g j < T + 10 → ¬ B j) (h1 : T ≤ τ) (h2 : τ < T + 10) : ∀ j, j < s.h.size → s.g j = τ → ¬ B j := fun j hj e => hn j hj (by omega) (by omega)
/-! rows of k cells -/
section
variable {α : Type} {f : α → List Value} {k : Nat}
theorem fm_get (hf : ∀ x, (f x).length = k) : ∀ (l : List α) (i j : Nat) (x : α), l[i]? = some x → j < k → (l.flatMap f)[i * k + j]? = (f x)[j]?
  | [], i, j, x, h, _ => by simp at h
  | y :: l, 0, j, x, h, hj => by
    simp at h; subst h
    simp only [List.flatMap_cons, Nat.zero_mul, Nat.zero_add]
    rw [List.getElem?_append_left (by rw [hf]; exact hj)]
  | y :: l, i + 1, j, x, h, hj => by
    simp only [List.flatMap_cons, Nat.add_mul, Nat.one_mul]
    rw [List.getElem?_append_right (by rw [hf]; omega), hf, show i * k + k + j - k = i * k + j by omega]
    exact fm_get hf l i j x (by simpa using h) hj
end
/-! reading through a slice -/
section
variable {s : TH} {a : Addr} {l : List Value} {τ : Nat} {v : Value} {k : Value → Prop}
theorem Sl.get (h : Sl s (some a) l τ) {j : Nat} (hv : l[j]? = some v) : cellH s.h (a.add j) = some v := by
  rcases h with rfl | ⟨g, o, h1, h2, h3, h4⟩
  · simp at hv
  · cases h1
    have hadd : (⟨g, o, none⟩ : Addr).add j = ⟨g, o + j, none⟩ := by unfold Addr.add; split <;> simp_all
    rw [hadd]; exact h4 j v hv
theorem ld_sl {j : Nat} (h : Sl s (some a) l τ) (hv : l[j]? = some v) (hk : k v) : ld s.h (a.add j) k := ld_i (h.get hv) hk
theorem add_add {l : List Value} (h : Sl s (some a) l τ) {x y : Nat} (hv : l[x + y]? = some v) : (a.add x).add y = a.add (x + y) := by
  rcases h with rfl | ⟨g, o, h1, h2, h3⟩
  · simp at hv
  · cases h1
    unfold Addr.add
    by_cases hx : x = 0 <;> by_cases hy : y = 0 <;> simp [hx, hy] <;> omega
theorem ld_sl2 {x y : Nat} (h : Sl s (some a) l τ) (hv : l[x + y]? = some v) (hk : k v) : ld s.h ((a.add x).add y) k := by
  rw [add_add h hv]; exact ld_sl h hv hk
theorem Sl.some {a : Option Addr} {l : List Value} (h : Sl s a l τ) (hl : l ≠ []) : ∃ b, a = .some b := by
  rcases h with h | ⟨g, o, h1, h2, h3⟩
  · exact absurd h hl
  · exact ⟨_, h1⟩
end
/-! storing into a slice of its own -/
theorem Own.st {s : TH} {a : Addr} {n c e k : Nat} {xs : List Value} {τ j : Nat} {v : Value} {K : Heap → Prop} (h : Own s (some a) n c e k xs τ) (h1 : oneC v = true) (hj : j < n * k)
    (hk : ∀ s' : TH, Own s' (some a) n c e k (xs.set j v) τ → On a.block s s' → s.h.size = s'.h.size → K s'.h) : st s.h (a.add j) v K := by
  rcases h.2 with ⟨h0, _⟩ | ⟨g, o, L, h2, h3, h4, h5, h6, h7⟩
  · cases h0
  · cases h2
    have hadd : (⟨g, o, none⟩ : Addr).add j = ⟨g, o + j, none⟩ := by unfold Addr.add; split <;> simp_all
    rw [hadd]
    have hck : n * k ≤ c * k := Nat.mul_le_mul_right k h4
    refine st_t h3 h1 (by omega) fun s' b1 b2 b3 => hk s' ⟨by rw [List.length_set]; exact h.1, .inr ⟨g, o, _, rfl, b1, h4, h5, by rw [List.length_set]; exact h6, ?_⟩⟩ b2 b3
    rw [← h7]
    apply List.ext_getElem?
    intro i
    rw [List.getElem?_take, List.getElem?_drop]
    by_cases hi : i < n * k
    · rw [if_pos hi]
      by_cases hij : i = j
      · subst hij
        rw [List.getElem?_set_self (by omega), List.getElem?_set_self (by rw [List.length_take, List.length_drop]; omega)]
      · rw [List.getElem?_set_ne (by omega), List.getElem?_set_ne (by omega), List.getElem?_take, if_pos hi, List.getElem?_drop]
    · rw [if_neg hi, List.getElem?_eq_none]
      rw [List.length_set, List.length_take]; omega
theorem Own.tagOf {s : TH} {a : Addr} {n c e k : Nat} {xs : List Value} {τ : Nat} (h : Own s (some a) n c e k xs τ) : s.g a.block = τ := by
  rcases h.2 with ⟨h0, _⟩ | ⟨g, o, L, h2, h3, _⟩
  · cases h0
  · cases h2; exact h3.tag
theorem slO_zero (a : Option Addr) (k : Nat) (m : Int) : slO a k 0 m = a := by
  cases a with
  | none => rfl
  | some a => simp [slO, slA, Addr.add]
/-- what lies behind a slice's end, up to its capacity, is set to nought -/
theorem clear_t {P : Program} {t ty e : TypeId} {E : List PanicEntry → Heap → Prop} {s : TH} {a : Option Addr} {n m c mc bytes k : Nat} {xs : List Value} {τ : Nat} {z : Value} {K : Value → Heap → Prop}
    (ht : P.underlying t = some (.slice e)) (hi : (P.info? e).map (fun i => (i.zero, i.size, i.bytes)) = some (some z, k, bytes)) (hzs : z.cells.size = k) (hz1 : ∀ u ∈ z.cells.toList, u.oneCell' = true)
    (hO : Own s a n c e k xs τ) (hm : n ≤ m) (hmc : m ≤ c)
    (hk : ∀ s' : TH, Own s' a n c e k xs τ → OnA a s s' → s.h.size = s'.h.size → K (.tuple #[]) s'.h) :
    semW P (Builtin.clear_ #[t] ty #[.slice (slO a k (n : Int) (c : Int)) (m - n) mc]) E s.h K := .mk fun w hw => by
  obtain ⟨i, hi1, hi2, hi3, hi4⟩ := info_of hi
  by_cases h0 : m - n = 0
  · have hr : (Builtin.clear_ #[t] ty #[.slice (slO a k (n : Int) (c : Int)) (m - n) mc]).run P w = .ok (.tuple #[]) w := by
      rw [h0]
      cases slO a k (n : Int) (c : Int) <;> simp [Builtin.clear_, run_under ht]
    rw [hr]
    exact ⟨by rw [hw]; exact hk s hO ⟨Nat.le_refl _, fun _ _ => rfl, fun _ _ _ => rfl⟩ rfl, Like.refl w⟩
  rcases hO.2 with ⟨_, h2, h3⟩ | ⟨g, o, L, rfl, h2, h3, h4, h5, h6⟩
  · omega
  · rw [slA_mk, if_neg (by omega)]
    obtain ⟨d, hd⟩ : ∃ d, m - n = d + 1 := ⟨m - n - 1, by omega⟩
    have hzl : (Builtin.zeroCells z.cells (m - n)).toList.length = (m - n) * k := by simp [size_zeroCells, hzs]
    have hck : n * k + (m - n) * k ≤ c * k := by rw [← Nat.add_mul]; exact Nat.mul_le_mul_right k (by omega)
    have hst := run_storeCells_at P g (o + n * k) e (Builtin.zeroCells z.cells (m - n)).toList 0 L.toArray w (by rw [hw]; exact h2.get) (by rw [hzl]; simp; omega) (by
      intro u hu
      simp only [Builtin.zeroCells, Array.toList_map, List.mem_map, Array.toList_range] at hu
      obtain ⟨j, hj, rfl⟩ := hu
      have hj : j < (m - n) * z.cells.size := by simpa using hj
      have hp : 0 < z.cells.size := by
        rcases Nat.eq_zero_or_pos z.cells.size with h | h
        · rw [h] at hj; omega
        · exact h
      apply hz1
      rw [getElem!_pos z.cells (j % z.cells.size) (Nat.mod_lt _ hp)]
      simp)
    simp only [Nat.add_zero] at hst
    have hr : (Builtin.clear_ #[t] ty #[.slice (some ⟨g, o + n * k, none⟩) (m - n) mc]).run P w = .ok (.tuple #[]) (w.setRow g ((L.toArray.toList.take (o + n * k)) ++ (Builtin.zeroCells z.cells (m - n)).toList ++ L.toArray.toList.drop (o + n * k + (Builtin.zeroCells z.cells (m - n)).toList.length)).toArray) := by
      rw [hd] at hst ⊢
      simp only [Builtin.clear_, Sem.run_bind, run_under ht]
      simp [run_under ht, zeroValue, run_typeInfo hi1, hi2, hst]
    rw [hr]
    simp only [List.toList_toArray, hzl]
    have hset := setRow_heap w g L.toArray (L.take (o + n * k) ++ (Builtin.zeroCells z.cells (m - n)).toList ++ L.drop (o + n * k + (m - n) * k)).toArray e (0, 0) (by rw [hw]; exact h2.get)
    have hK := hk ⟨(w.setRow g (L.take (o + n * k) ++ (Builtin.zeroCells z.cells (m - n)).toList ++ L.drop (o + n * k + (m - n) * k)).toArray).heap, s.g⟩ ⟨hO.1, .inr ⟨g, o, _, rfl, ⟨hset, h2.tag⟩, h3, h4, ?_, ?_⟩⟩ ⟨by simp [← hw], fun _ _ => rfl, fun j hj hn => ?_⟩ (by simp [← hw])
    · exact ⟨hK, rfl, rfl, rfl⟩
    · simp only [List.length_append, List.length_take, List.length_drop, hzl]; omega
    · rw [← h6, List.append_assoc, List.drop_append_of_le_length (by simp; omega), List.drop_take, List.take_append_of_le_length (by simp; omega), List.take_take]
      congr 1; omega
    · show (w.setRow g _).heap[j]? = _
      rw [setRow_other w g j _ (fun e => hn (by simp [e])), hw]
end Go.Proofs.YtngploohhmfaiaaGreat.E
/- copy; entries without a text: bytealg.MakeNoZero; min. -/
namespace Go.Proofs.YtngploohhmfaiaaGreat.E
open Go
set_option linter.unusedVariables false
set_option linter.unusedSimpArgs false
theorem min_i {P : Program} {ats : Array TypeId} {ty : TypeId} {E : List PanicEntry → Heap → Prop} {H : Heap} {K : Value → Heap → Prop} {a b : Int} (hk : K (.int .i64 (min a b)) H) :
    semW P (Builtin.min_ ats ty #[.int .i64 a, .int .i64 b]) E H K := .mk fun w hw => by
  have hr : (Builtin.min_ ats ty #[.int .i64 a, .int .i64 b]).run P w = .ok (.int .i64 (min a b)) w := by
    have he : (if b < a then b else a) = min a b := by split <;> omega
    simp [Builtin.min_, Builtin.min2, he]
  rw [hr]
  exact ⟨by rw [hw]; exact hk, Like.refl w⟩
theorem wrap_u64 (x : Int) : IntKind.u64.wrap x = x % 18446744073709551616 := rfl
def ivs (l : List Int) : List Value := l.map (Value.int .i64)
theorem ivs_len (l : List Int) : (ivs l).length = l.length := by simp [ivs]
theorem ivs_one (l : List Int) : ∀ u ∈ ivs l, u.oneCell' = true := by intro u hu; simp [ivs] at hu; obtain ⟨b, _, rfl⟩ := hu; rfl
theorem ivs_get {l : List Int} {k : Nat} {x : Int} (h : l[k]? = some x) : (ivs l)[k]? = some (.int .i64 x) := by simp [ivs, h]
theorem ivs_take (l : List Int) (n : Nat) : (ivs l).take n = ivs (l.take n) := by simp [ivs]
theorem ivs_drop (l : List Int) (n : Nat) : (ivs l).drop n = ivs (l.drop n) := by simp [ivs]
theorem ivs_app (l m : List Int) : ivs (l ++ m) = ivs l ++ ivs m := by simp [ivs]
theorem Own.ne_none {s : TH} {a : Option Addr} {n c e k : Nat} {xs : List Value} {τ : Nat} (h : Own s a n c e k xs τ) (hn : 0 < n) : ∃ b, a = some b := by
  cases a with
  | none => have := h.none_iff rfl; omega
  | some b => exact ⟨b, rfl⟩
theorem Sl.ne_none {s : TH} {a : Option Addr} {xs : List Value} {τ : Nat} (h : Sl s a xs τ) (hn : 0 < xs.length) : ∃ b, a = .some b := h.some (fun e => by rw [e] at hn; cases hn)
end Go.Proofs.YtngploohhmfaiaaGreat.E
/- Contracts of functions. -/
namespace Go.Proofs.YtngploohhmfaiaaGreat.E
open Go Go.Proofs
set_option linter.unusedVariables false
theorem u99 : Tryz.prog.underlying 99 = some (.map 3 4) := by kernel_rfl
theorem u131 : Tryz.prog.underlying 131 = some (.map 3 3) := by kernel_rfl
theorem u189 : Tryz.prog.underlying 189 = some (.map 3 23) := by kernel_rfl
theorem u201 : Tryz.prog.underlying 201 = some (.map 3 254) := by kernel_rfl
theorem z3 (w : World) : (zeroValue 3).run Tryz.prog w = .ok (.int .i64 0) w := by kernel_rfl
theorem z4 (w : World) : (zeroValue 4).run Tryz.prog w = .ok (.bool false) w := by kernel_rfl
theorem z5 (w : World) : (zeroValue 5).run Tryz.prog w = .ok (.int .u8 0) w := by kernel_rfl
theorem u3 : Tryz.prog.underlying 3 = some (.int .i64) := by kernel_rfl
theorem u5 : Tryz.prog.underlying 5 = some (.int .u8) := by kernel_rfl
theorem z22 (w : World) : (zeroValue 22).run Tryz.prog w = .ok (.pointer none) w := by kernel_rfl
theorem u38 : Tryz.prog.underlying 38 = some (.slice 5) := by kernel_rfl
theorem z38 (w : World) : (zeroValue 38).run Tryz.prog w = .ok (.slice none 0 0) w := by kernel_rfl
theorem u42 : Tryz.prog.underlying 42 = some (.slice 38) := by kernel_rfl
theorem z50 (w : World) : (zeroValue 50).run Tryz.prog w = .ok (.pointer none) w := by kernel_rfl
theorem z51 (w : World) : (zeroValue 51).run Tryz.prog w = .ok (.pointer none) w := by kernel_rfl
theorem u73 : Tryz.prog.underlying 73 = some (.slice 3) := by kernel_rfl
theorem u110 : Tryz.prog.underlying 110 = some (.slice 125) := by kernel_rfl
theorem z218 (w : World) : (zeroValue 218).run Tryz.prog w = .ok (.pointer none) w := by kernel_rfl
theorem z254 (w : World) : (zeroValue 254).run Tryz.prog w = .ok (.pointer none) w := by kernel_rfl
theorem in5 : (Tryz.prog.info? 5).map (fun i => (i.zero, i.size, i.bytes)) = some (some (.int .u8 0), 1, 1) := by kernel_rfl
theorem in3 : (Tryz.prog.info? 3).map (fun i => (i.zero, i.size, i.bytes)) = some (some (.int .i64 0), 1, 8) := by kernel_rfl
theorem in38 : (Tryz.prog.info? 38).map (fun i => (i.zero, i.size, i.bytes)) = some (some (.slice none 0 0), 1, 24) := by kernel_rfl
theorem keyI : KeyOk Tryz.prog 3 (Value.int .i64) := keyInt u3
end Go.Proofs.YtngploohhmfaiaaGreat.E
/- Contracts of functions. -/
namespace Go.Proofs.YtngploohhmfaiaaGreat.E
open Go Go.Proofs
set_option linter.unusedVariables false
/-- a write on its way -/
structure SentM where
  id : Int
  blk : Int
  by_ : List UInt8
/-- what a disk is -/
structure DiskM where
  blocks : List (List UInt8)
  queue : List SentM
  fails : Int → Int
  last : Int
def DiskM.has (D : DiskM) (b : Int) : Prop := 0 ≤ b ∧ b < D.blocks.length
instance (D : DiskM) (b : Int) : Decidable (D.has b) := by unfold DiskM.has; infer_instance
/-- a slice's value: address, length, capacity -/
abbrev Hd := Option Addr × Nat
def hv (n : Nat) (p : Hd) : Value := .slice p.1 n p.2
def hd1 (p : Hd) : List Value := [.slice p.1 128 p.2]
def qv (q : Int × Int × Hd) : List Value := [.int .i64 q.1, .int .i64 q.2.1, .slice q.2.2.1 128 q.2.2.2]
theorem hd1_len (p : Hd) : (hd1 p).length = 1 := rfl
/-- so many bytes lie behind a slice's value -/
structure ByAt (s : TH) (τ : Nat) (p : Hd) (b : List UInt8) : Prop where
  sl : Sl s p.1 (bvs b) τ
  len : b.length = 128
theorem ByAt.mv {s s' : TH} {τ : Nat} {p : Hd} {b : List UInt8} {C : Nat → Prop} (h : ByAt s τ p b) (c : Chg C s s') (hn : ∀ j, j < s.h.size → s.g j = τ → ¬ C j) : ByAt s' τ p b := ⟨h.sl.mv c hn, h.len⟩
theorem ByAt.ne {s : TH} {τ : Nat} {p : Hd} {b : List UInt8} (h : ByAt s τ p b) : ∃ a, p.1 = some a := h.sl.some fun e => by have := congrArg List.length e; rw [bvs_len, h.len] at this; cases this
/-- rows of bytes -/
structure BRel (s : TH) (τ : Nat) (hs : List Hd) (bs : List (List UInt8)) : Prop where
  len : hs.length = bs.length
  at_ : ∀ (i : Nat) (p : Hd) (b : List UInt8), hs[i]? = some p → bs[i]? = some b → ByAt s τ p b
structure QRel (s : TH) (τ : Nat) (qs : List (Int × Int × Hd)) (q : List SentM) : Prop where
  len : qs.length = q.length
  at_ : ∀ (i : Nat) (x : Int × Int × Hd) (m : SentM), qs[i]? = some x → q[i]? = some m → x.1 = m.id ∧ x.2.1 = m.blk ∧ ByAt s τ x.2.2 m.by_
theorem BRel.mv {s s' : TH} {τ : Nat} {hs : List Hd} {bs : List (List UInt8)} {C : Nat → Prop} (h : BRel s τ hs bs) (c : Chg C s s') (hn : ∀ j, j < s.h.size → s.g j = τ → ¬ C j) : BRel s' τ hs bs := ⟨h.len, fun i p b h1 h2 => (h.at_ i p b h1 h2).mv c hn⟩
theorem QRel.mv {s s' : TH} {τ : Nat} {hs : List (Int × Int × Hd)} {bs : List SentM} {C : Nat → Prop} (h : QRel s τ hs bs) (c : Chg C s s') (hn : ∀ j, j < s.h.size → s.g j = τ → ¬ C j) : QRel s' τ hs bs := ⟨h.len, fun i p b h1 h2 => ⟨(h.at_ i p b h1 h2).1, (h.at_ i p b h1 h2).2.1, (h.at_ i p b h1 h2).2.2.mv c hn⟩⟩
theorem bcell {hs : List Hd} {m : Nat} {x : Hd} (h : hs[m]? = some x) : (hs.flatMap hd1)[m]? = some (.slice x.1 128 x.2) := by
  have := fm_get hd1_len hs m 0 x h (by omega); simpa [hd1] using this
def ixr {α : Type} (p : α → Bool) : List α → Nat → Int
  | [], _ => -1
  | x :: l, i => if p x = true then (i : Int) else ixr p l (i + 1)
def ixf {α : Type} (p : α → Bool) (l : List α) : Int := ixr p l 0
theorem ixr_some {α : Type} {p : α → Bool} : ∀ (l : List α) (i k : Nat) (x : α), l[k]? = some x → p x = true → (∀ (j : Nat) (y : α), j < k → l[j]? = some y → p y = false) → ixr p l i = ((i + k : Nat) : Int)
  | [], i, k, x, h, _, _ => by simp at h
  | y :: l, i, 0, x, h, hp, _ => by simp at h; subst h; simp [ixr, hp]
  | y :: l, i, k + 1, x, h, hp, ha => by
    have := ha 0 y (by omega) (by simp)
    rw [ixr, if_neg (by simp [this]), ixr_some l (i + 1) k x (by simpa using h) hp (fun j z hj hz => ha (j + 1) z (by omega) (by simpa using hz))]
    omega
theorem ixr_none {α : Type} {p : α → Bool} : ∀ (l : List α) (i : Nat), (∀ (j : Nat) (y : α), j < l.length → l[j]? = some y → p y = false) → ixr p l i = -1
  | [], i, _ => rfl
  | y :: l, i, ha => by
    have := ha 0 y (by simp) (by simp)
    rw [ixr, if_neg (by simp [this])]
    exact ixr_none l (i + 1) fun j z hj hz => ha (j + 1) z (by simpa using hj) (by simpa using hz)
theorem ixf_some {α : Type} {p : α → Bool} {l : List α} {k : Nat} {x : α} (h : l[k]? = some x) (hp : p x = true) (ha : ∀ (j : Nat) (y : α), j < k → l[j]? = some y → p y = false) : ixf p l = (k : Int) := by
  have := ixr_some l 0 k x h hp ha; simpa [ixf] using this
theorem ixf_none {α : Type} {p : α → Bool} {l : List α} (ha : ∀ (j : Nat) (y : α), j < l.length → l[j]? = some y → p y = false) : ixf p l = -1 := ixr_none l 0 ha
theorem ixf_cases {α : Type} (p : α → Bool) : ∀ (l : List α), (ixf p l = -1 ∧ ∀ x ∈ l, p x = false) ∨ ∃ (k : Nat) (x : α), ixf p l = k ∧ l[k]? = some x ∧ p x = true := by
  intro l
  by_cases h : ∀ x ∈ l, p x = false
  · left; exact ⟨ixf_none fun j y hj hy => h y (List.mem_of_getElem? hy), h⟩
  · right
    have : ∃ k x, l[k]? = some x ∧ p x = true ∧ ∀ (j : Nat) (y : α), j < k → l[j]? = some y → p y = false := by
      induction l with
      | nil => simp at h
      | cons y l ih =>
        by_cases hy : p y = true
        · exact ⟨0, y, by simp, hy, fun j z hj => by omega⟩
        · obtain ⟨k, x, h1, h2, h3⟩ := ih (by intro h'; apply h; intro x hx; rcases List.mem_cons.1 hx with rfl | hx <;> first | exact h' _ hx | simpa using hy)
          refine ⟨k + 1, x, by simpa using h1, h2, fun j z hj hz => ?_⟩
          cases j with
          | zero => simp at hz; subst hz; simpa using hy
          | succ j => exact h3 j z (by omega) (by simpa using hz)
    obtain ⟨k, x, h1, h2, h3⟩ := this
    exact ⟨k, x, ixf_some h1 h2 h3, h1, h2⟩
def DiskM.write (D : DiskM) (b : Int) (x : List UInt8) : DiskM × Int × Int :=
  if ¬ D.has b then (D, 0, 1)
  else if x.length ≠ 128 then (D, 0, 1)
  else if ixf (fun m : SentM => m.blk == b) D.queue ≥ 0 then (D, 0, 21)
  else if 64 ≤ D.queue.length then (D, 0, 3)
  else ({ D with queue := D.queue ++ [⟨D.last + 1, b, x⟩], last := D.last + 1 }, D.last + 1, 0)
theorem fm_set1 (hs : List Hd) (j : Nat) (p : Hd) : (hs.flatMap hd1).set j (.slice p.1 128 p.2) = (hs.set j p).flatMap hd1 := by
  have e : ∀ l : List Hd, l.flatMap hd1 = l.map fun p => .slice p.1 128 p.2 := fun l => by induction l with | nil => rfl | cons x l ih => simp [hd1, ih]
  rw [e, e, List.map_set]
theorem BRel.set {s : TH} {τ : Nat} {hs : List Hd} {bs : List (List UInt8)} (h : BRel s τ hs bs) (j : Nat) {p : Hd} {b : List UInt8} (hp : ByAt s τ p b) : BRel s τ (hs.set j p) (bs.set j b) := by
  refine ⟨by simp [h.len], fun i x y hx hy => ?_⟩
  rw [List.getElem?_set] at hx hy
  by_cases hij : j = i
  · subst hij
    rw [if_pos rfl] at hx hy
    split at hx
    · split at hy
      · cases hx; cases hy; exact hp
      · cases hy
    · cases hx
  · rw [if_neg hij] at hx hy; exact h.at_ i x y hx hy
theorem QRel.erase {s : TH} {τ : Nat} {qs : List (Int × Int × Hd)} {q : List SentM} (h : QRel s τ qs q) (i : Nat) : QRel s τ (qs.eraseIdx i) (q.eraseIdx i) := by
  refine ⟨by simp [List.length_eraseIdx, h.len], fun j y n hy hn => ?_⟩
  rw [List.getElem?_eraseIdx] at hy hn
  split at hy
  · rename_i hj; rw [if_pos hj] at hn; exact h.at_ j y n hy hn
  · rename_i hj; rw [if_neg hj] at hn; exact h.at_ (j + 1) y n hy hn
theorem QRel.snoc {s : TH} {τ : Nat} {qs : List (Int × Int × Hd)} {q : List SentM} (h : QRel s τ qs q) {x : Int × Int × Hd} {m : SentM} (hx : x.1 = m.id ∧ x.2.1 = m.blk ∧ ByAt s τ x.2.2 m.by_) : QRel s τ (qs ++ [x]) (q ++ [m]) := by
  refine ⟨by simp [h.len], fun i y n hy hn => ?_⟩
  by_cases hi : i < q.length
  · rw [List.getElem?_append_left (by rw [h.len]; exact hi)] at hy
    rw [List.getElem?_append_left hi] at hn
    exact h.at_ i y n hy hn
  · rw [List.getElem?_append_right (by rw [h.len]; omega)] at hy
    rw [List.getElem?_append_right (by omega)] at hn
    rw [h.len] at hy
    cases hd : i - q.length with
    | zero => rw [hd] at hy hn; simp at hy hn; subst hy hn; exact hx
    | succ k => rw [hd] at hy; simp at hy
/-- of a block how many of its reads fail -/
def FailsOk (fm : List (Int × Value)) (f : Int → Int) : Prop := ∀ b, (mget b fm).getD (.int .i64 0) = .int .i64 (f b)
/-- a disk of the program in memory, its parts -/
structure DiskP (s : TH) (d T : Nat) (D : DiskM) (pa : Option Addr) (pc : Nat) (qa : Option Addr) (qc : Nat) (hs : List Hd) (qs : List (Int × Int × Hd)) (fr : Nat) (fm : List (Int × Value)) : Prop where
  blk : Blk s d [.slice pa D.blocks.length pc, .slice qa D.queue.length qc, .map (some fr), .int .i64 D.last] 133 T
  rows : Own s pa D.blocks.length pc 38 1 (hs.flatMap hd1) (T + 1)
  brel : BRel s (T + 3) hs D.blocks
  que : Own s qa D.queue.length qc 96 3 (qs.flatMap qv) (T + 2)
  qrel : QRel s (T + 3) qs D.queue
  fails : MapK (Value.int .i64) s fr fm (T + 4)
  fok : FailsOk fm D.fails
  nb : 1 ≤ D.blocks.length ∧ D.blocks.length ≤ 2048
  nq : D.queue.length ≤ 64
  qin : ∀ m ∈ D.queue, 0 ≤ m.blk ∧ m.blk < D.blocks.length
def Disk (s : TH) (d T : Nat) (D : DiskM) : Prop := ∃ pa pc qa qc hs qs fr fm, DiskP s d T D pa pc qa qc hs qs fr fm
theorem DiskP.mv {s s' : TH} {d T : Nat} {D : DiskM} {pa : Option Addr} {pc : Nat} {qa : Option Addr} {qc : Nat} {hs : List Hd} {qs : List (Int × Int × Hd)} {fr : Nat} {fm : List (Int × Value)} {C : Nat → Prop}
    (h : DiskP s d T D pa pc qa qc hs qs fr fm) (c : Chg C s s') (hn : ∀ j, j < s.h.size → T ≤ s.g j → s.g j < T + 10 → ¬ C j) : DiskP s' d T D pa pc qa qc hs qs fr fm :=
  ⟨h.blk.mv c (of_rng hn (Nat.le_refl _) (by omega) d h.blk.lt h.blk.tag), h.rows.mv c (of_rng hn (by omega) (by omega)), h.brel.mv c (of_rng hn (by omega) (by omega)), h.que.mv c (of_rng hn (by omega) (by omega)), h.qrel.mv c (of_rng hn (by omega) (by omega)),
    h.fails.mv c (of_rng hn (by omega) (by omega) fr h.fails.lt h.fails.tag), h.fok, h.nb, h.nq, h.qin⟩
theorem Disk.mv {s s' : TH} {d T : Nat} {D : DiskM} {C : Nat → Prop} (h : Disk s d T D) (c : Chg C s s') (hn : ∀ j, j < s.h.size → T ≤ s.g j → s.g j < T + 10 → ¬ C j) : Disk s' d T D := by
  obtain ⟨pa, pc, qa, qc, hs, qs, fr, fm, h⟩ := h
  exact ⟨pa, pc, qa, qc, hs, qs, fr, fm, h.mv c hn⟩
end Go.Proofs.YtngploohhmfaiaaGreat.E
/- The functions' forms in the engine's words, printed by my own program. -/
namespace Go.Proofs.YtngploohhmfaiaaGreat.E
open Go Go.Proofs
set_option linter.unusedVariables false
/-- bollard/bollardlaw11.AllocInodes -/
def F7 (x0_0 : Value) (x0_1 : Value) (x0_2 : Value) (x1 : Int) (x2 : Bool) (R : Ending → Heap → Prop) (H : Heap) : Prop :=
  al H (Obj.cells #[x0_0, x0_1, x0_2] 32) (fun r1 H2 =>
  ld H2 (Addr.mk r1 0 none) (fun v3 =>
  ld H2 (Addr.mk r1 1 none) (fun v4 =>
  ld H2 (Addr.mk r1 2 none) (fun v5 =>
  HCalls Tryz.prog 23 #[Value.agg #[v3, v4, v5]] H2 (Sp.retK (fun v6 H7 =>
  dT 3 v6 (fun v8 v9 v10 =>
  dPtr v8 (fun p11 =>
  dA 3 v9 (fun v12 v13 v14 =>
  dBl v10 (fun b15 =>
  st H7 (Addr.mk r1 0 none) v12 (fun H16 =>
  st H16 (Addr.mk r1 1 none) v13 (fun H17 =>
  st H17 (Addr.mk r1 2 none) v14 (fun H18 =>
  sB (!b15) (R (Ending.returned (Value.bool false)) H18) (wr IntKind.u64 x1 (fun n19 =>
  ld H18 (Addr.mk r1 0 none) (fun v20 =>
  dInt IntKind.i64 v20 (fun n21 =>
  wr IntKind.u64 n21 (fun n22 =>
  ask (n22 ≠ (0 : Int)) (nm (Int.tmod n19 n22) (fun n23 =>
  wr IntKind.i64 n23 (fun n24 =>
  al H18 (Obj.map #[] 0) (fun r25 H26 =>
  semW Tryz.prog (Instr.mapUpdate 99 (Value.map (some r25)) (Value.int IntKind.i64 0) (Value.bool true)) (pnR R) H26 (fun x29 H30 =>
  semW Tryz.prog (Instr.mapUpdate 99 (Value.map (some r25)) (Value.int IntKind.i64 1) (Value.bool true)) (pnR R) H30 (fun x33 H34 =>
  semW Tryz.prog (Instr.mapUpdate 99 (Value.map (some r25)) (Value.int IntKind.i64 2) (Value.bool true)) (pnR R) H34 (fun x37 H38 =>
  ld H38 (Addr.mk r1 0 none) (fun v39 =>
  dInt IntKind.i64 v39 (fun n40 =>
  ld H38 (Addr.mk r1 2 none) (fun v41 =>
  dInt IntKind.i64 v41 (fun n42 =>
  wr IntKind.i64 (n40 * n42) (fun n43 =>
  ∃ I44 : List Value → Heap → Prop,
  ∃ I45 : List Value → Heap → Nat,
  (I44 ([Value.int IntKind.i64 0]) H38) ∧
  ∀ n46 : Int,
  ∀ v47 v48 v49 v50 v51 v52 v53 v54 v55 v56 v57 v58 v59 v60 v61 v62 v63 v64 v65 v66 v67 v68 v69 v70 v71 v72 v73 v74 v75 v76 v77 v78 v79 v80 v81 v82 v83 v84 v85 v86 v87 v88 v89 v90 v91 v92 v93 v94 v95 v96 v97 v98 v99 v100 v101 : Value,
  ∀ H102 : Heap,
  (I44 ([Value.int IntKind.i64 n46]) H102) →
  sB (decide (n46 < n43)) (nz p11 (fun a104 =>
  ld H102 (Addr.add a104 1) (fun v105 =>
  dPtr v105 (fun p106 =>
  ld H102 (Addr.mk r1 0 none) (fun v107 =>
  ld H102 (Addr.mk r1 1 none) (fun v108 =>
  ld H102 (Addr.mk r1 2 none) (fun v109 =>
  HCalls Tryz.prog 39 #[Value.pointer p106, Value.agg #[v107, v108, v109]] H102 (Sp.retK (fun v110 H111 =>
  dT 3 v110 (fun v112 v113 v114 =>
  dInt IntKind.i64 v112 (fun n115 =>
  dInt IntKind.i64 v113 (fun n116 =>
  dInt IntKind.i64 v114 (fun n117 =>
  sB (n117 != 0) (R (Ending.returned (Value.bool false)) H111) (nz p11 (fun a118 =>
  ld H111 (Addr.add a118 1) (fun v119 =>
  dPtr v119 (fun p120 =>
  ld H111 (Addr.mk r1 0 none) (fun v121 =>
  ld H111 (Addr.mk r1 1 none) (fun v122 =>
  ld H111 (Addr.mk r1 2 none) (fun v123 =>
  HCalls Tryz.prog 40 #[Value.pointer p120, Value.agg #[v121, v122, v123], Value.int IntKind.i64 n24, Value.bool x2] H111 (Sp.retK (fun v124 H125 =>
  dT 3 v124 (fun v126 v127 v128 =>
  dInt IntKind.i64 v126 (fun n129 =>
  dInt IntKind.i64 v127 (fun n130 =>
  dInt IntKind.i64 v128 (fun n131 =>
  sB (n131 == 5) (sB (n116 == 0) (semW Tryz.prog (Builtin.len_ #[99] 3 #[Value.map (some r25)]) (pnR R) H125 (fun v134 H135 =>
  dInt IntKind.i64 v134 (fun n136 =>
  ld H135 (Addr.mk r1 0 none) (fun v137 =>
  dInt IntKind.i64 v137 (fun n138 =>
  ld H135 (Addr.mk r1 2 none) (fun v139 =>
  dInt IntKind.i64 v139 (fun n140 =>
  wr IntKind.i64 (n138 * n140) (fun n141 =>
  R (Ending.returned (Value.bool (n136 == n141))) H135)))))))) (R (Ending.returned (Value.bool false)) H125)) (jn (α := VFH 1) (fun v142 H143 =>
  ∀ v144 v145 v146 v147 v148 v149 : Value,
  dBl v142 (fun b150 =>
  sB b150 (R (Ending.returned (Value.bool false)) H143) (semW Tryz.prog (Instr.mapUpdate 99 (Value.map (some r25)) (Value.int IntKind.i64 n129) (Value.bool true)) (pnR R) H143 (fun x153 H154 =>
  wr IntKind.i64 (n46 + 1) (fun n155 =>
  (I44 ([Value.int IntKind.i64 n155]) H154) ∧
  (I45 [Value.int IntKind.i64 n155] H154) < (I45 [Value.int IntKind.i64 n46] H102)))))) (fun k156 =>
  sB (n131 != 0) (k156 (Value.bool true) H125) (semW Tryz.prog (Instr.lookup 99 (Value.map (some r25)) (Value.int IntKind.i64 n129) false) (pnR R) H125 (fun v159 H160 =>
  dBl v159 (fun b161 =>
  k156 (Value.bool b161) H160)))))))))) nopR))))))))))))) nopR)))))))) (R (Ending.returned (Value.bool false)) H102)))))))))))))))))))))))))) (pnR R))))))
theorem F7_eq (x0_0 : Value) (x0_1 : Value) (x0_2 : Value) (x1 : Int) (x2 : Bool) (R : Ending → Heap → Prop) (H : Heap) : F7 x0_0 x0_1 x0_2 x1 x2 R H = vc Tryz.prog (codeOf Tryz.f7) (.node none .leaf (.node none .leaf (.node none .leaf (.node none .leaf (.node none .leaf (.node none (.node none .leaf (.node none (.node (some ⟨[(37, 3)], [6, 10, 11, 12, 13, 14, 38, 39, 40, 41, 42, 43, 44, 45, 46, 47, 48, 49, 50, 51, 52, 53, 54, 55, 56, 57, 58, 59, 60, 61, 62, 63, 64, 65, 66, 67, 68, 69, 70, 71, 72, 73, 74, 75, 76, 77, 78, 79, 80, 81, 82, 83, 84, 85, 86]⟩) (.node none .leaf (.node none .leaf (.node none (.node none (.node none .leaf (.node none .leaf (.node none .leaf (.node none .leaf (.node none (.node (some ⟨[(83, 4)], [77, 78, 79, 80, 81, 82]⟩) .leaf .leaf) .leaf))))) .leaf) .leaf))) .leaf) .leaf)) .leaf)))))) (postV Tryz.prog Tryz.f7 R) ⟨#[Value.agg #[x0_0, x0_1, x0_2], Value.int IntKind.i64 x1, Value.bool x2] ++ Array.replicate (Tryz.f7.ntmps - 3) undef, []⟩ H := by kernel_rfl
theorem F7_calls {R : Ending → Heap → Prop} {H : Heap} (x0_0 : Value) (x0_1 : Value) (x0_2 : Value) (x1 : Int) (x2 : Bool) (h : F7 x0_0 x0_1 x0_2 x1 x2 R H) : HCalls Tryz.prog 7 #[Value.agg #[x0_0, x0_1, x0_2], Value.int IntKind.i64 x1, Value.bool x2] H R :=
  calls_by (F := F7 x0_0 x0_1 x0_2 x1 x2 R H) (.node none .leaf (.node none .leaf (.node none .leaf (.node none .leaf (.node none .leaf (.node none (.node none .leaf (.node none (.node (some ⟨[(37, 3)], [6, 10, 11, 12, 13, 14, 38, 39, 40, 41, 42, 43, 44, 45, 46, 47, 48, 49, 50, 51, 52, 53, 54, 55, 56, 57, 58, 59, 60, 61, 62, 63, 64, 65, 66, 67, 68, 69, 70, 71, 72, 73, 74, 75, 76, 77, 78, 79, 80, 81, 82, 83, 84, 85, 86]⟩) (.node none .leaf (.node none .leaf (.node none (.node none (.node none .leaf (.node none .leaf (.node none .leaf (.node none .leaf (.node none (.node (some ⟨[(83, 4)], [77, 78, 79, 80, 81, 82]⟩) .leaf .leaf) .leaf))))) .leaf) .leaf))) .leaf) .leaf)) .leaf)))))) Tryz.func7 rfl (F7_eq x0_0 x0_1 x0_2 x1 x2 R H) h
end Go.Proofs.YtngploohhmfaiaaGreat.E
/- The functions' forms in the engine's words, printed by my own program. -/
namespace Go.Proofs.YtngploohhmfaiaaGreat.E
open Go Go.Proofs
set_option linter.unusedVariables false
/-- (*bollard/patch.Set).over -/
def F189 (x0 : Option Addr) (x1a : Option Addr) (x1n : Nat) (x1c : Nat) (x2a : Option Addr) (x2n : Nat) (x2c : Nat) (R : Ending → Heap → Prop) (H : Heap) : Prop :=
  HCalls Tryz.prog 107 #[Value.slice x1a x1n x1c] H (Sp.retK (fun v1 H2 =>
  dSl v1 (fun p3 r4 r5 =>
  ∃ I6 : List Value → Heap → Prop,
  ∃ I7 : List Value → Heap → Nat,
  (I6 ([Value.int IntKind.i64 0]) H2) ∧
  ∀ n8 : Int,
  ∀ v9 v10 v11 v12 v13 v14 v15 v16 v17 v18 v19 v20 v21 v22 v23 v24 v25 v26 v27 : Value,
  ∀ H28 : Heap,
  (I6 ([Value.int IntKind.i64 n8]) H28) →
  sB (decide (n8 < (↑x2n : Int))) (nz x2a (fun a30 =>
  ask ((0 : Int) ≤ n8 ∧ n8 < (↑x2n : Int)) (ld H28 (Addr.add a30 (Int.toNat n8 * 1)) (fun v31 =>
  dInt IntKind.i64 v31 (fun n32 =>
  nz x0 (fun a33 =>
  ld H28 (Addr.add a33 2) (fun v34 =>
  dMap v34 (fun p35 =>
  semW Tryz.prog (Instr.lookup 190 (Value.map p35) (Value.int IntKind.i64 n32) false) (pnR R) H28 (fun v38 H39 =>
  dA 5 v38 (fun v40 v41 v42 v43 v44 =>
  al H39 (Obj.cells #[Value.int IntKind.i64 0, Value.int IntKind.i64 0, Value.int IntKind.i64 0, Value.slice none 0 0, Value.slice none 0 0] 194) (fun r45 H46 =>
  st H46 (Addr.mk r45 0 none) v40 (fun H47 =>
  st H47 (Addr.mk r45 1 none) v41 (fun H48 =>
  st H48 (Addr.mk r45 2 none) v42 (fun H49 =>
  st H49 (Addr.mk r45 3 none) v43 (fun H50 =>
  st H50 (Addr.mk r45 4 none) v44 (fun H51 =>
  ld H51 (Addr.mk r45 2 none) (fun v52 =>
  dInt IntKind.i64 v52 (fun n53 =>
  ask ((0 : Int) ≤ n53 ∧ n53 ≤ (↑r4 : Int) ∧ (↑r4 : Int) ≤ (↑r5 : Int) ∧ (↑r5 : Int) ≤ (↑r5 : Int)) (ld H51 (Addr.mk r45 3 none) (fun v54 =>
  dSl v54 (fun p55 r56 r57 =>
  semW Tryz.prog (Builtin.copy_ #[38, 38] 3 #[Value.slice (slO p3 1 n53 (↑r5 : Int)) (Int.toNat (↑r4 : Int) - Int.toNat n53) (Int.toNat (↑r5 : Int) - Int.toNat n53), Value.slice p55 r56 r57]) nopR H51 (fun v60 H61 =>
  dInt IntKind.i64 v60 (fun n62 =>
  wr IntKind.i64 (n8 + 1) (fun n63 =>
  (I6 ([Value.int IntKind.i64 n63]) H61) ∧
  (I7 [Value.int IntKind.i64 n63] H61) < (I7 [Value.int IntKind.i64 n8] H28))))))))))))))))))))))))) (R (Ending.returned (Value.slice p3 r4 r5)) H28))) (pnR R))
theorem F189_eq (x0 : Option Addr) (x1a : Option Addr) (x1n : Nat) (x1c : Nat) (x2a : Option Addr) (x2n : Nat) (x2c : Nat) (R : Ending → Heap → Prop) (H : Heap) : F189 x0 x1a x1n x1c x2a x2n x2c R H = vc Tryz.prog (codeOf Tryz.f189) (.node none .leaf (.node none .leaf (.node none (.node none .leaf (.node none (.node (some ⟨[(15, 3)], [9, 10, 16, 17, 18, 19, 20, 21, 22, 23, 24, 25, 26, 27, 28, 29, 30, 31, 32]⟩) .leaf .leaf) .leaf)) .leaf))) (postV Tryz.prog Tryz.f189 R) ⟨#[Value.pointer x0, Value.slice x1a x1n x1c, Value.slice x2a x2n x2c] ++ Array.replicate (Tryz.f189.ntmps - 3) undef, []⟩ H := by kernel_rfl
theorem F189_calls {R : Ending → Heap → Prop} {H : Heap} (x0 : Option Addr) (x1a : Option Addr) (x1n : Nat) (x1c : Nat) (x2a : Option Addr) (x2n : Nat) (x2c : Nat) (h : F189 x0 x1a x1n x1c x2a x2n x2c R H) : HCalls Tryz.prog 189 #[Value.pointer x0, Value.slice x1a x1n x1c, Value.slice x2a x2n x2c] H R :=
  calls_by (F := F189 x0 x1a x1n x1c x2a x2n x2c R H) (.node none .leaf (.node none .leaf (.node none (.node none .leaf (.node none (.node (some ⟨[(15, 3)], [9, 10, 16, 17, 18, 19, 20, 21, 22, 23, 24, 25, 26, 27, 28, 29, 30, 31, 32]⟩) .leaf .leaf) .leaf)) .leaf))) Tryz.func189 rfl (F189_eq x0 x1a x1n x1c x2a x2n x2c R H) h
/-- bollard/layout.same -/
def F191 (x0a : Option Addr) (x0n : Nat) (x0c : Nat) (x1a : Option Addr) (x1n : Nat) (x1c : Nat) (R : Ending → Heap → Prop) (H : Heap) : Prop :=
  semW Tryz.prog (convert 38 9 (Value.slice x0a x0n x0c)) (pnR R) H (fun v3 H4 =>
  dStr v3 (fun s5 =>
  semW Tryz.prog (convert 38 9 (Value.slice x1a x1n x1c)) (pnR R) H4 (fun v8 H9 =>
  dStr v8 (fun s10 =>
  R (Ending.returned (Value.bool (ByteArray.toList s5 == ByteArray.toList s10))) H9))))
theorem F191_eq (x0a : Option Addr) (x0n : Nat) (x0c : Nat) (x1a : Option Addr) (x1n : Nat) (x1c : Nat) (R : Ending → Heap → Prop) (H : Heap) : F191 x0a x0n x0c x1a x1n x1c R H = vc Tryz.prog (codeOf Tryz.f191) .leaf (postV Tryz.prog Tryz.f191 R) ⟨#[Value.slice x0a x0n x0c, Value.slice x1a x1n x1c] ++ Array.replicate (Tryz.f191.ntmps - 2) undef, []⟩ H := by kernel_rfl
theorem F191_calls {R : Ending → Heap → Prop} {H : Heap} (x0a : Option Addr) (x0n : Nat) (x0c : Nat) (x1a : Option Addr) (x1n : Nat) (x1c : Nat) (h : F191 x0a x0n x0c x1a x1n x1c R H) : HCalls Tryz.prog 191 #[Value.slice x0a x0n x0c, Value.slice x1a x1n x1c] H R :=
  calls_by (F := F191 x0a x0n x0c x1a x1n x1c R H) .leaf Tryz.func191 rfl (F191_eq x0a x0n x0c x1a x1n x1c R H) h
/-- (*bollard/disk.Disk).look -/
def F193 (x0 : Option Addr) (x1 : Int) (R : Ending → Heap → Prop) (H : Heap) : Prop :=
  HCalls Tryz.prog 87 #[Value.pointer x0] H (Sp.retK (fun v1 H2 =>
  dBl v1 (fun b3 =>
  sB (!b3) (R (Ending.returned (Value.int IntKind.i64 2)) H2) (jn (α := VFH 1) (fun v4 H5 =>
  ∀ v6 v7 v8 v9 v10 v11 v12 v13 v14 v15 : Value,
  dBl v4 (fun b16 =>
  sB b16 (R (Ending.returned (Value.int IntKind.i64 1)) H5) (R (Ending.returned (Value.int IntKind.i64 0)) H5))) (fun k17 =>
  sB (decide (x1 < 0)) (k17 (Value.bool true) H2) (nz x0 (fun a18 =>
  ld H2 a18 (fun v19 =>
  dSl v19 (fun p20 r21 r22 =>
  k17 (Value.bool (decide (x1 ≥ (↑r21 : Int)))) H2)))))))) (pnR R))
theorem F193_eq (x0 : Option Addr) (x1 : Int) (R : Ending → Heap → Prop) (H : Heap) : F193 x0 x1 R H = vc Tryz.prog (codeOf Tryz.f193) (.node none .leaf (.node none .leaf (.node none (.node (some ⟨[(18, 4)], [8, 9, 10, 11, 12, 13, 14, 15, 16, 17]⟩) .leaf .leaf) .leaf))) (postV Tryz.prog Tryz.f193 R) ⟨#[Value.pointer x0, Value.int IntKind.i64 x1] ++ Array.replicate (Tryz.f193.ntmps - 2) undef, []⟩ H := by kernel_rfl
theorem F193_calls {R : Ending → Heap → Prop} {H : Heap} (x0 : Option Addr) (x1 : Int) (h : F193 x0 x1 R H) : HCalls Tryz.prog 193 #[Value.pointer x0, Value.int IntKind.i64 x1] H R :=
  calls_by (F := F193 x0 x1 R H) (.node none .leaf (.node none .leaf (.node none (.node (some ⟨[(18, 4)], [8, 9, 10, 11, 12, 13, 14, 15, 16, 17]⟩) .leaf .leaf) .leaf))) Tryz.func193 rfl (F193_eq x0 x1 R H) h
/-- (*bollard/cache.Cache).look -/
def F197 (x0 : Option Addr) (x1 : Int) (R : Ending → Heap → Prop) (H : Heap) : Prop :=
  jn (α := VFH 1) (fun v1 H2 =>
  ∀ v3 v4 v5 v6 v7 v8 v9 v10 : Value,
  dBl v1 (fun b11 =>
  sB b11 (R (Ending.returned (Value.int IntKind.i64 2)) H2) (jn (α := VFH 1) (fun v12 H13 =>
  ∀ v14 v15 v16 v17 v18 v19 v20 v21 v22 v23 : Value,
  dBl v12 (fun b24 =>
  sB b24 (R (Ending.returned (Value.int IntKind.i64 1)) H13) (R (Ending.returned (Value.int IntKind.i64 0)) H13))) (fun k25 =>
  sB (decide (x1 < 0)) (k25 (Value.bool true) H2) (nz x0 (fun a26 =>
  ld H2 a26 (fun v27 =>
  dPtr v27 (fun p28 =>
  HCalls Tryz.prog 70 #[Value.pointer p28] H2 (Sp.retK (fun v29 H30 =>
  dInt IntKind.i64 v29 (fun n31 =>
  k25 (Value.bool (decide (x1 ≥ n31))) H30)) (pnR R)))))))))) (fun k34 =>
  sB (Option.isNone x0) (k34 (Value.bool true) H) (nz x0 (fun a35 =>
  ld H (Addr.add a35 2) (fun v36 =>
  dMap v36 (fun p37 =>
  k34 (Value.bool (Option.isNone p37)) H)))))
theorem F197_eq (x0 : Option Addr) (x1 : Int) (R : Ending → Heap → Prop) (H : Heap) : F197 x0 x1 R H = vc Tryz.prog (codeOf Tryz.f197) (.node none .leaf (.node none (.node (some ⟨[(13, 4)], [5, 6, 7, 8, 9, 10, 11, 12]⟩) .leaf .leaf) (.node none (.node (some ⟨[(24, 4)], [14, 15, 16, 17, 18, 19, 20, 21, 22, 23]⟩) .leaf .leaf) .leaf))) (postV Tryz.prog Tryz.f197 R) ⟨#[Value.pointer x0, Value.int IntKind.i64 x1] ++ Array.replicate (Tryz.f197.ntmps - 2) undef, []⟩ H := by kernel_rfl
theorem F197_calls {R : Ending → Heap → Prop} {H : Heap} (x0 : Option Addr) (x1 : Int) (h : F197 x0 x1 R H) : HCalls Tryz.prog 197 #[Value.pointer x0, Value.int IntKind.i64 x1] H R :=
  calls_by (F := F197 x0 x1 R H) (.node none .leaf (.node none (.node (some ⟨[(13, 4)], [5, 6, 7, 8, 9, 10, 11, 12]⟩) .leaf .leaf) (.node none (.node (some ⟨[(24, 4)], [14, 15, 16, 17, 18, 19, 20, 21, 22, 23]⟩) .leaf .leaf) .leaf))) Tryz.func197 rfl (F197_eq x0 x1 R H) h
/-- slices.IndexFunc[[][]byte,[]byte] -/
def F199 (x0a : Option Addr) (x0n : Nat) (x0c : Nat) (x1g : Nat) (x1f : Array Value) (x1c : Array Value) (R : Ending → Heap → Prop) (H : Heap) : Prop :=
  ∃ I1 : List Value → Heap → Prop,
  ∃ I2 : List Value → Heap → Nat,
  (I1 ([Value.int IntKind.i64 0]) H) ∧
  ∀ n3 : Int,
  ∀ v4 v5 v6 v7 v8 v9 v10 v11 v12 v13 v14 v15 : Value,
  ∀ H16 : Heap,
  (I1 ([Value.int IntKind.i64 n3]) H16) →
  sB (decide (n3 < (↑x0n : Int))) (nz x0a (fun a18 =>
  ask ((0 : Int) ≤ n3 ∧ n3 < (↑x0n : Int)) (ld H16 (Addr.add a18 (Int.toNat n3 * 1)) (fun v19 =>
  dSl v19 (fun p20 r21 r22 =>
  gB (plainFn Tryz.prog x1g) (HCalls Tryz.prog x1g (argsOf x1f [Value.slice p20 r21 r22] x1c) H16 (Sp.retK (fun v23 H24 =>
  dBl v23 (fun b25 =>
  sB b25 (R (Ending.returned (Value.int IntKind.i64 n3)) H24) (wr IntKind.i64 (n3 + 1) (fun n26 =>
  (I1 ([Value.int IntKind.i64 n26]) H24) ∧
  (I2 [Value.int IntKind.i64 n26] H24) < (I2 [Value.int IntKind.i64 n3] H16))))) (pnR R)))))))) (R (Ending.returned (Value.int IntKind.i64 (-1))) H16)
theorem F199_eq (x0a : Option Addr) (x0n : Nat) (x0c : Nat) (x1g : Nat) (x1f : Array Value) (x1c : Array Value) (R : Ending → Heap → Prop) (H : Heap) : F199 x0a x0n x0c x1g x1f x1c R H = vc Tryz.prog (codeOf Tryz.f199) (.node none .leaf (.node none (.node none .leaf (.node none (.node (some ⟨[(8, 3)], [4, 5, 9, 10, 11, 12, 13, 14, 15, 16, 17, 18]⟩) .leaf .leaf) .leaf)) .leaf)) (postV Tryz.prog Tryz.f199 R) ⟨#[Value.slice x0a x0n x0c, Value.func (Fn.func x1g) x1f x1c] ++ Array.replicate (Tryz.f199.ntmps - 2) undef, []⟩ H := by kernel_rfl
theorem F199_calls {R : Ending → Heap → Prop} {H : Heap} (x0a : Option Addr) (x0n : Nat) (x0c : Nat) (x1g : Nat) (x1f : Array Value) (x1c : Array Value) (h : F199 x0a x0n x0c x1g x1f x1c R H) : HCalls Tryz.prog 199 #[Value.slice x0a x0n x0c, Value.func (Fn.func x1g) x1f x1c] H R :=
  calls_by (F := F199 x0a x0n x0c x1g x1f x1c R H) (.node none .leaf (.node none (.node none .leaf (.node none (.node (some ⟨[(8, 3)], [4, 5, 9, 10, 11, 12, 13, 14, 15, 16, 17, 18]⟩) .leaf .leaf) .leaf)) .leaf)) Tryz.func199 rfl (F199_eq x0a x0n x0c x1g x1f x1c R H) h
end Go.Proofs.YtngploohhmfaiaaGreat.E
/- The functions' forms in the engine's words, printed by my own program. -/
namespace Go.Proofs.YtngploohhmfaiaaGreat.E
open Go Go.Proofs
set_option linter.unusedVariables false
/-- maps.Keys[map[int]bollard/api.Patch,int,bollard/api.Patch] -/
def F219 (x0 : Option Nat) (R : Ending → Heap → Prop) (H : Heap) : Prop :=
  al H (Obj.cells #[Value.map x0] 190) (fun r1 H2 =>
  R (Ending.returned (Value.func (Fn.func 259) #[] #[Value.pointer (some (Addr.mk r1 0 none))])) H2)
theorem F219_eq (x0 : Option Nat) (R : Ending → Heap → Prop) (H : Heap) : F219 x0 R H = vc Tryz.prog (codeOf Tryz.f219) .leaf (postV Tryz.prog Tryz.f219 R) ⟨#[Value.map x0] ++ Array.replicate (Tryz.f219.ntmps - 1) undef, []⟩ H := by kernel_rfl
theorem F219_calls {R : Ending → Heap → Prop} {H : Heap} (x0 : Option Nat) (h : F219 x0 R H) : HCalls Tryz.prog 219 #[Value.map x0] H R :=
  calls_by (F := F219 x0 R H) .leaf Tryz.func219 rfl (F219_eq x0 R H) h
/-- bollard/bollardref03.may -/
def F223 (x0_0 : Value) (x0_1 : Value) (x0_2 : Value) (R : Ending → Heap → Prop) (H : Heap) : Prop :=
  al H (Obj.cells #[x0_0, x0_1, x0_2] 32) (fun r1 H2 =>
  ld H2 (Addr.mk r1 0 none) (fun v3 =>
  dInt IntKind.i64 v3 (fun n4 =>
  sB (decide (n4 ≥ 1)) (ld H2 (Addr.mk r1 0 none) (fun v5 =>
  dInt IntKind.i64 v5 (fun n6 =>
  sB (decide (n6 ≤ 8)) (ld H2 (Addr.mk r1 1 none) (fun v7 =>
  dInt IntKind.i64 v7 (fun n8 =>
  sB (decide (n8 ≥ 8)) (ld H2 (Addr.mk r1 1 none) (fun v9 =>
  dInt IntKind.i64 v9 (fun n10 =>
  sB (decide (n10 ≤ 256)) (ld H2 (Addr.mk r1 2 none) (fun v11 =>
  dInt IntKind.i64 v11 (fun n12 =>
  sB (decide (n12 ≥ 4)) (ld H2 (Addr.mk r1 2 none) (fun v13 =>
  dInt IntKind.i64 v13 (fun n14 =>
  sB (decide (n14 ≤ 64)) (ld H2 (Addr.mk r1 2 none) (fun v15 =>
  dInt IntKind.i64 v15 (fun n16 =>
  ask ((4 : Int) ≠ (0 : Int)) (nm (Int.tmod n16 4) (fun n17 =>
  sB (n17 == 0) (ld H2 (Addr.mk r1 1 none) (fun v18 =>
  dInt IntKind.i64 v18 (fun n19 =>
  ld H2 (Addr.mk r1 2 none) (fun v20 =>
  dInt IntKind.i64 v20 (fun n21 =>
  ask ((4 : Int) ≠ (0 : Int)) (wr IntKind.i64 (Int.tdiv n21 4) (fun n22 =>
  wr IntKind.i64 (3 + n22) (fun n23 =>
  R (Ending.returned (Value.bool (decide (n19 ≥ n23)))) H2)))))))) (R (Ending.returned (Value.bool false)) H2)))))) (R (Ending.returned (Value.bool false)) H2)))) (R (Ending.returned (Value.bool false)) H2)))) (R (Ending.returned (Value.bool false)) H2)))) (R (Ending.returned (Value.bool false)) H2)))) (R (Ending.returned (Value.bool false)) H2)))) (R (Ending.returned (Value.bool false)) H2))))
theorem F223_eq (x0_0 : Value) (x0_1 : Value) (x0_2 : Value) (R : Ending → Heap → Prop) (H : Heap) : F223 x0_0 x0_1 x0_2 R H = vc Tryz.prog (codeOf Tryz.f223) .leaf (postV Tryz.prog Tryz.f223 R) ⟨#[Value.agg #[x0_0, x0_1, x0_2]] ++ Array.replicate (Tryz.f223.ntmps - 1) undef, []⟩ H := by kernel_rfl
theorem F223_calls {R : Ending → Heap → Prop} {H : Heap} (x0_0 : Value) (x0_1 : Value) (x0_2 : Value) (h : F223 x0_0 x0_1 x0_2 R H) : HCalls Tryz.prog 223 #[Value.agg #[x0_0, x0_1, x0_2]] H R :=
  calls_by (F := F223 x0_0 x0_1 x0_2 R H) .leaf Tryz.func223 rfl (F223_eq x0_0 x0_1 x0_2 R H) h
/-- bollard/bollardref05.Has -/
def F224 (x0a : Option Addr) (x0n : Nat) (x0c : Nat) (x1 : Int) (R : Ending → Heap → Prop) (H : Heap) : Prop :=
  sB (decide (x1 ≥ 0)) (ask ((8 : Int) ≠ (0 : Int)) (wr IntKind.i64 (Int.tdiv x1 8) (fun n1 =>
  sB (decide (n1 < (↑x0n : Int))) (ask ((8 : Int) ≠ (0 : Int)) (wr IntKind.i64 (Int.tdiv x1 8) (fun n2 =>
  nz x0a (fun a3 =>
  ask ((0 : Int) ≤ n2 ∧ n2 < (↑x0n : Int)) (ld H (Addr.add a3 (Int.toNat n2 * 1)) (fun v4 =>
  dInt IntKind.u8 v4 (fun n5 =>
  ask ((8 : Int) ≠ (0 : Int)) (nm (Int.tmod x1 8) (fun n6 =>
  ask ((0 : Int) ≤ n6) (nm (Int.fdiv n5 (2 ^ min (Int.toNat n6) 8)) (fun n7 =>
  ask ((2 : Int) ≠ (0 : Int)) (nm (Int.tmod n7 2) (fun n8 =>
  R (Ending.returned (Value.bool (n8 == 1))) H))))))))))))) (R (Ending.returned (Value.bool false)) H)))) (R (Ending.returned (Value.bool false)) H)
theorem F224_eq (x0a : Option Addr) (x0n : Nat) (x0c : Nat) (x1 : Int) (R : Ending → Heap → Prop) (H : Heap) : F224 x0a x0n x0c x1 R H = vc Tryz.prog (codeOf Tryz.f224) .leaf (postV Tryz.prog Tryz.f224 R) ⟨#[Value.slice x0a x0n x0c, Value.int IntKind.i64 x1] ++ Array.replicate (Tryz.f224.ntmps - 2) undef, []⟩ H := by kernel_rfl
theorem F224_calls {R : Ending → Heap → Prop} {H : Heap} (x0a : Option Addr) (x0n : Nat) (x0c : Nat) (x1 : Int) (h : F224 x0a x0n x0c x1 R H) : HCalls Tryz.prog 224 #[Value.slice x0a x0n x0c, Value.int IntKind.i64 x1] H R :=
  calls_by (F := F224 x0a x0n x0c x1 R H) .leaf Tryz.func224 rfl (F224_eq x0a x0n x0c x1 R H) h
/-- bollard/bollardref03.address -/
def F225 (x0 : Int) (R : Ending → Heap → Prop) (H : Heap) : Prop :=
  sB (decide (x0 ≥ 0)) (R (Ending.returned (Value.bool (decide (x0 < 2048)))) H) (R (Ending.returned (Value.bool false)) H)
theorem F225_eq (x0 : Int) (R : Ending → Heap → Prop) (H : Heap) : F225 x0 R H = vc Tryz.prog (codeOf Tryz.f225) .leaf (postV Tryz.prog Tryz.f225 R) ⟨#[Value.int IntKind.i64 x0] ++ Array.replicate (Tryz.f225.ntmps - 1) undef, []⟩ H := by kernel_rfl
theorem F225_calls {R : Ending → Heap → Prop} {H : Heap} (x0 : Int) (h : F225 x0 R H) : HCalls Tryz.prog 225 #[Value.int IntKind.i64 x0] H R :=
  calls_by (F := F225 x0 R H) .leaf Tryz.func225 rfl (F225_eq x0 R H) h
/-- bollard/bollardref01.Put -/
def F226 (x0a : Option Addr) (x0n : Nat) (x0c : Nat) (x1 : Int) (x2 : Int) (x3 : Int) (R : Ending → Heap → Prop) (H : Heap) : Prop :=
  jn (α := VFH 1) (fun v1 H2 =>
  ∀ v3 v4 v5 v6 v7 v8 v9 v10 v11 v12 v13 v14 v15 v16 v17 v18 v19 v20 v21 v22 : Value,
  dBl v1 (fun b23 =>
  sB b23 (R (Ending.returned (Value.tuple #[Value.slice none 0 0, Value.int IntKind.i64 1])) H2) (wr IntKind.i64 ((↑x0n : Int) - x2) (fun n24 =>
  sB (decide (x1 > n24)) (R (Ending.returned (Value.tuple #[Value.slice none 0 0, Value.int IntKind.i64 10])) H2) (al H2 (Obj.cells #[] 5) (fun r25 H26 =>
  semW Tryz.prog (Builtin.append_ #[38, 38] 38 #[Value.slice (some (Addr.mk r25 0 none)) 0 0, Value.slice x0a x0n x0c]) (pnR R) H26 (fun v29 H30 =>
  dSl v29 (fun p31 r32 r33 =>
  ∃ I34 : List Value → Heap → Prop,
  ∃ I35 : List Value → Heap → Nat,
  (I34 ([Value.int IntKind.i64 x3, Value.int IntKind.i64 0]) H30) ∧
  ∀ n36 : Int,
  ∀ n37 : Int,
  ∀ v38 v39 v40 v41 v42 v43 v44 v45 v46 v47 v48 v49 v50 v51 : Value,
  ∀ H52 : Heap,
  (I34 ([Value.int IntKind.i64 n36, Value.int IntKind.i64 n37]) H52) →
  sB (decide (n37 < x2)) (wr IntKind.i64 (x1 + n37) (fun n54 =>
  ask ((256 : Int) ≠ (0 : Int)) (nm (Int.tmod n36 256) (fun n55 =>
  wr IntKind.u8 n55 (fun n56 =>
  nz p31 (fun a57 =>
  ask ((0 : Int) ≤ n54 ∧ n54 < (↑r32 : Int)) (st H52 (Addr.add a57 (Int.toNat n54 * 1)) (Value.int IntKind.u8 n56) (fun H58 =>
  ask ((256 : Int) ≠ (0 : Int)) (wr IntKind.i64 (Int.tdiv n36 256) (fun n59 =>
  wr IntKind.i64 (n37 + 1) (fun n60 =>
  (I34 ([Value.int IntKind.i64 n59, Value.int IntKind.i64 n60]) H58) ∧
  (I35 [Value.int IntKind.i64 n59, Value.int IntKind.i64 n60] H58) < (I35 [Value.int IntKind.i64 n36, Value.int IntKind.i64 n37] H52)))))))))))) (R (Ending.returned (Value.tuple #[Value.slice p31 r32 r33, Value.int IntKind.i64 0])) H52))))))))) (fun k61 =>
  sB (decide (x2 < 1)) (k61 (Value.bool true) H) (sB (decide (x2 > 4)) (k61 (Value.bool true) H) (sB (decide (x1 < 0)) (k61 (Value.bool true) H) (sB (decide (x3 < 0)) (k61 (Value.bool true) H) (wr IntKind.i64 (8 * x2) (fun n62 =>
  ask ((0 : Int) ≤ n62) (nm (IntKind.wrap IntKind.i64 (1 * 2 ^ min (Int.toNat n62) 64)) (fun n63 =>
  k61 (Value.bool (decide (x3 ≥ n63))) H))))))))
theorem F226_eq (x0a : Option Addr) (x0n : Nat) (x0c : Nat) (x1 : Int) (x2 : Int) (x3 : Int) (R : Ending → Heap → Prop) (H : Heap) : F226 x0a x0n x0c x1 x2 x3 R H = vc Tryz.prog (codeOf Tryz.f226) (.node none .leaf (.node none (.node (some ⟨[(32, 4)], [12, 13, 14, 15, 16, 17, 18, 19, 20, 21, 22, 23, 24, 25, 26, 27, 28, 29, 30, 31]⟩) .leaf .leaf) (.node none .leaf (.node none .leaf (.node none (.node none .leaf (.node none (.node (some ⟨[(3, 3), (43, 3)], [11, 44, 45, 46, 47, 48, 49, 50, 51, 52, 53, 54, 55, 56]⟩) .leaf .leaf) .leaf)) .leaf))))) (postV Tryz.prog Tryz.f226 R) ⟨#[Value.slice x0a x0n x0c, Value.int IntKind.i64 x1, Value.int IntKind.i64 x2, Value.int IntKind.i64 x3] ++ Array.replicate (Tryz.f226.ntmps - 4) undef, []⟩ H := by kernel_rfl
theorem F226_calls {R : Ending → Heap → Prop} {H : Heap} (x0a : Option Addr) (x0n : Nat) (x0c : Nat) (x1 : Int) (x2 : Int) (x3 : Int) (h : F226 x0a x0n x0c x1 x2 x3 R H) : HCalls Tryz.prog 226 #[Value.slice x0a x0n x0c, Value.int IntKind.i64 x1, Value.int IntKind.i64 x2, Value.int IntKind.i64 x3] H R :=
  calls_by (F := F226 x0a x0n x0c x1 x2 x3 R H) (.node none .leaf (.node none (.node (some ⟨[(32, 4)], [12, 13, 14, 15, 16, 17, 18, 19, 20, 21, 22, 23, 24, 25, 26, 27, 28, 29, 30, 31]⟩) .leaf .leaf) (.node none .leaf (.node none .leaf (.node none (.node none .leaf (.node none (.node (some ⟨[(3, 3), (43, 3)], [11, 44, 45, 46, 47, 48, 49, 50, 51, 52, 53, 54, 55, 56]⟩) .leaf .leaf) .leaf)) .leaf))))) Tryz.func226 rfl (F226_eq x0a x0n x0c x1 x2 x3 R H) h
/-- bollard/bollardref01.Sum -/
def F227 (x0a : Option Addr) (x0n : Nat) (x0c : Nat) (R : Ending → Heap → Prop) (H : Heap) : Prop :=
  ∃ I1 : List Value → Heap → Prop,
  ∃ I2 : List Value → Heap → Nat,
  (I1 ([Value.int IntKind.i64 1, Value.int IntKind.i64 0, Value.int IntKind.i64 0]) H) ∧
  ∀ n3 : Int,
  ∀ n4 : Int,
  ∀ n5 : Int,
  ∀ v6 v7 v8 v9 v10 v11 v12 v13 v14 v15 v16 v17 v18 v19 : Value,
  ∀ H20 : Heap,
  (I1 ([Value.int IntKind.i64 n3, Value.int IntKind.i64 n4, Value.int IntKind.i64 n5]) H20) →
  sB (decide (n5 < (↑x0n : Int))) (nz x0a (fun a22 =>
  ask ((0 : Int) ≤ n5 ∧ n5 < (↑x0n : Int)) (ld H20 (Addr.add a22 (Int.toNat n5 * 1)) (fun v23 =>
  dInt IntKind.u8 v23 (fun n24 =>
  wr IntKind.i64 n24 (fun n25 =>
  wr IntKind.i64 (n3 + n25) (fun n26 =>
  ask ((65521 : Int) ≠ (0 : Int)) (nm (Int.tmod n26 65521) (fun n27 =>
  wr IntKind.i64 (n4 + n27) (fun n28 =>
  ask ((65521 : Int) ≠ (0 : Int)) (nm (Int.tmod n28 65521) (fun n29 =>
  wr IntKind.i64 (n5 + 1) (fun n30 =>
  (I1 ([Value.int IntKind.i64 n27, Value.int IntKind.i64 n29, Value.int IntKind.i64 n30]) H20) ∧
  (I2 [Value.int IntKind.i64 n27, Value.int IntKind.i64 n29, Value.int IntKind.i64 n30] H20) < (I2 [Value.int IntKind.i64 n3, Value.int IntKind.i64 n4, Value.int IntKind.i64 n5] H20)))))))))))))) (wr IntKind.i64 (n4 * 65536) (fun n31 =>
  wr IntKind.i64 (n31 + n3) (fun n32 =>
  R (Ending.returned (Value.int IntKind.i64 n32)) H20)))
theorem F227_eq (x0a : Option Addr) (x0n : Nat) (x0c : Nat) (R : Ending → Heap → Prop) (H : Heap) : F227 x0a x0n x0c R H = vc Tryz.prog (codeOf Tryz.f227) (.node none .leaf (.node none .leaf (.node none (.node none .leaf (.node none (.node (some ⟨[(3, 3), (4, 3), (9, 3)], [6, 10, 11, 12, 13, 14, 15, 16, 17, 18, 19, 20, 21, 22]⟩) .leaf .leaf) .leaf)) .leaf))) (postV Tryz.prog Tryz.f227 R) ⟨#[Value.slice x0a x0n x0c] ++ Array.replicate (Tryz.f227.ntmps - 1) undef, []⟩ H := by kernel_rfl
theorem F227_calls {R : Ending → Heap → Prop} {H : Heap} (x0a : Option Addr) (x0n : Nat) (x0c : Nat) (h : F227 x0a x0n x0c R H) : HCalls Tryz.prog 227 #[Value.slice x0a x0n x0c] H R :=
  calls_by (F := F227 x0a x0n x0c R H) (.node none .leaf (.node none .leaf (.node none (.node none .leaf (.node none (.node (some ⟨[(3, 3), (4, 3), (9, 3)], [6, 10, 11, 12, 13, 14, 15, 16, 17, 18, 19, 20, 21, 22]⟩) .leaf .leaf) .leaf)) .leaf))) Tryz.func227 rfl (F227_eq x0a x0n x0c R H) h
/-- bollard/bollardref03.IsName -/
def F228 (x0 : ByteArray) (R : Ending → Heap → Prop) (H : Heap) : Prop :=
  jn (α := VFH 1) (fun v1 H2 =>
  ∀ v3 v4 v5 v6 v7 v8 v9 v10 v11 v12 v13 v14 v15 v16 : Value,
  dBl v1 (fun b17 =>
  sB b17 (R (Ending.returned (Value.bool false)) H2) (∃ I18 : List Value → Heap → Prop,
  ∃ I19 : List Value → Heap → Nat,
  (I18 ([Value.int IntKind.i64 0]) H2) ∧
  ∀ n20 : Int,
  ∀ v21 v22 v23 v24 v25 v26 v27 v28 v29 v30 v31 v32 v33 v34 v35 v36 v37 v38 v39 v40 v41 v42 v43 : Value,
  ∀ H44 : Heap,
  (I18 ([Value.int IntKind.i64 n20]) H44) →
  sB (decide (n20 < (↑(ByteArray.size x0) : Int))) (jn (α := VFH 1) (fun v46 H47 =>
  ∀ v48 v49 v50 v51 v52 v53 v54 v55 v56 v57 v58 v59 v60 v61 v62 : Value,
  dBl v46 (fun b63 =>
  sB b63 (R (Ending.returned (Value.bool false)) H47) (wr IntKind.i64 (n20 + 1) (fun n64 =>
  (I18 ([Value.int IntKind.i64 n64]) H47) ∧
  (I19 [Value.int IntKind.i64 n64] H47) < (I19 [Value.int IntKind.i64 n20] H44))))) (fun k65 =>
  ask ((0 : Int) ≤ n20 ∧ n20 < (↑(ByteArray.size x0) : Int)) (sB (decide (byteAt x0 (Int.toNat n20) < 33)) (k65 (Value.bool true) H44) (ask ((0 : Int) ≤ n20 ∧ n20 < (↑(ByteArray.size x0) : Int)) (sB (decide (byteAt x0 (Int.toNat n20) > 126)) (k65 (Value.bool true) H44) (ask ((0 : Int) ≤ n20 ∧ n20 < (↑(ByteArray.size x0) : Int)) (k65 (Value.bool (byteAt x0 (Int.toNat n20) == 47)) H44))))))) (R (Ending.returned (Value.bool true)) H44)))) (fun k66 =>
  sB (ByteArray.toList x0 == []) (k66 (Value.bool true) H) (sB (decide ((↑(ByteArray.size x0) : Int) > 13)) (k66 (Value.bool true) H) (sB (ByteArray.toList x0 == [UInt8.ofBitVec 46#8]) (k66 (Value.bool true) H) (k66 (Value.bool (ByteArray.toList x0 == [UInt8.ofBitVec 46#8, UInt8.ofBitVec 46#8])) H))))
theorem F228_eq (x0 : ByteArray) (R : Ending → Heap → Prop) (H : Heap) : F228 x0 R H = vc Tryz.prog (codeOf Tryz.f228) (.node none .leaf (.node none (.node (some ⟨[(18, 4)], [4, 5, 6, 7, 8, 9, 10, 11, 12, 13, 14, 15, 16, 17]⟩) .leaf .leaf) (.node none (.node none .leaf (.node none (.node (some ⟨[(3, 3)], [2, 19, 20, 21, 22, 23, 24, 25, 26, 27, 28, 29, 30, 31, 32, 33, 34, 35, 36, 37, 38, 39, 40]⟩) (.node none .leaf (.node none (.node none (.node (some ⟨[(40, 4)], [25, 26, 27, 28, 29, 30, 31, 32, 33, 34, 35, 36, 37, 38, 39]⟩) .leaf .leaf) .leaf) .leaf)) .leaf) .leaf)) .leaf))) (postV Tryz.prog Tryz.f228 R) ⟨#[Value.string x0] ++ Array.replicate (Tryz.f228.ntmps - 1) undef, []⟩ H := by kernel_rfl
theorem F228_calls {R : Ending → Heap → Prop} {H : Heap} (x0 : ByteArray) (h : F228 x0 R H) : HCalls Tryz.prog 228 #[Value.string x0] H R :=
  calls_by (F := F228 x0 R H) (.node none .leaf (.node none (.node (some ⟨[(18, 4)], [4, 5, 6, 7, 8, 9, 10, 11, 12, 13, 14, 15, 16, 17]⟩) .leaf .leaf) (.node none (.node none .leaf (.node none (.node (some ⟨[(3, 3)], [2, 19, 20, 21, 22, 23, 24, 25, 26, 27, 28, 29, 30, 31, 32, 33, 34, 35, 36, 37, 38, 39, 40]⟩) (.node none .leaf (.node none (.node none (.node (some ⟨[(40, 4)], [25, 26, 27, 28, 29, 30, 31, 32, 33, 34, 35, 36, 37, 38, 39]⟩) .leaf .leaf) .leaf) .leaf)) .leaf) .leaf)) .leaf))) Tryz.func228 rfl (F228_eq x0 R H) h
/-- (*bollard/cache.Cache).load -/
def F231 (x0 : Option Addr) (x1 : Int) (R : Ending → Heap → Prop) (H : Heap) : Prop :=
  nz x0 (fun a1 =>
  ld H (Addr.add a1 2) (fun v2 =>
  dMap v2 (fun p3 =>
  nz x0 (fun a4 =>
  ld H (Addr.add a4 1) (fun v5 =>
  dInt IntKind.i64 v5 (fun n6 =>
  semW Tryz.prog (Builtin.len_ #[201] 3 #[Value.map p3]) nopR H (fun v9 H10 =>
  dInt IntKind.i64 v9 (fun n11 =>
  (ld H10 (Addr.add a4 1) (fun v12 =>
  dInt IntKind.i64 v12 (fun n13 =>
  (Value.int IntKind.i64 n13) = (Value.int IntKind.i64 n6)))) ∧
  HCalls Tryz.prog 265 #[Value.pointer x0] H10 (Sp.retK (fun v14 H15 =>
  dT 2 v14 (fun v16 v17 =>
  dInt IntKind.i64 v16 (fun n18 =>
  dBl v17 (fun b19 =>
  jn (α := VFH 1) (fun v20 H21 =>
  ∀ v22 v23 v24 v25 : Value,
  dBl v20 (fun b26 =>
  sB b26 (R (Ending.returned (Value.tuple #[Value.pointer none, Value.int IntKind.i64 60])) H21) (nz x0 (fun a27 =>
  ld H21 a27 (fun v28 =>
  dPtr v28 (fun p29 =>
  HCalls Tryz.prog 266 #[Value.pointer p29, Value.int IntKind.i64 x1] H21 (Sp.retK (fun v30 H31 =>
  dT 2 v30 (fun v32 v33 =>
  dSl v32 (fun p34 r35 r36 =>
  dInt IntKind.i64 v33 (fun n37 =>
  sB (n37 != 0) (R (Ending.returned (Value.tuple #[Value.pointer none, Value.int IntKind.i64 n37])) H31) (jn (α := VFH 0) (fun H38 =>
  ∀ v39 v40 v41 v42 v43 v44 : Value,
  nz x0 (fun a45 =>
  ld H38 (Addr.add a45 2) (fun v46 =>
  dMap v46 (fun p47 =>
  al H38 (Obj.cells #[Value.slice p34 r35 r36, Value.int IntKind.i64 0, Value.int IntKind.i64 0] 258) (fun r48 H49 =>
  semW Tryz.prog (Instr.mapUpdate 201 (Value.map p47) (Value.int IntKind.i64 x1) (Value.pointer (some (Addr.mk r48 0 none)))) (pnR R) H49 (fun x52 H53 =>
  nz x0 (fun a54 =>
  ld H53 (Addr.add a54 2) (fun v55 =>
  dMap v55 (fun p56 =>
  semW Tryz.prog (Instr.lookup 201 (Value.map p56) (Value.int IntKind.i64 x1) false) (pnR R) H53 (fun v59 H60 =>
  dPtr v59 (fun p61 =>
  R (Ending.returned (Value.tuple #[Value.pointer p61, Value.int IntKind.i64 0])) H60))))))))))) (fun k62 =>
  sB (decide (n11 ≥ n6)) (nz x0 (fun a63 =>
  ld H31 (Addr.add a63 2) (fun v64 =>
  dMap v64 (fun p65 =>
  semW Tryz.prog (Builtin.delete_ #[201, 3] 0 #[Value.map p65, Value.int IntKind.i64 n18]) (pnR R) H31 (fun v68 H69 =>
  k62 H69))))) (k62 H31))))))) (pnR R)))))))) (fun k72 =>
  sB (decide (n11 ≥ n6)) (k72 (Value.bool !b19) H15) (k72 (Value.bool false) H15)))))) (pnR R))))))))))
theorem F231_eq (x0 : Option Addr) (x1 : Int) (R : Ending → Heap → Prop) (H : Heap) : F231 x0 x1 R H = vc Tryz.prog (codeOf Tryz.f231) (.node none .leaf (.node none .leaf (.node none .leaf (.node none (.node (some ⟨[(30, 4)], [26, 27, 28, 29]⟩) .leaf .leaf) (.node none .leaf (.node none .leaf (.node (some ⟨[], [43, 44, 45, 46, 47, 48]⟩) .leaf .leaf))))))) (postV Tryz.prog Tryz.f231 R) ⟨#[Value.pointer x0, Value.int IntKind.i64 x1] ++ Array.replicate (Tryz.f231.ntmps - 2) undef, []⟩ H := by kernel_rfl
theorem F231_calls {R : Ending → Heap → Prop} {H : Heap} (x0 : Option Addr) (x1 : Int) (h : F231 x0 x1 R H) : HCalls Tryz.prog 231 #[Value.pointer x0, Value.int IntKind.i64 x1] H R :=
  calls_by (F := F231 x0 x1 R H) (.node none .leaf (.node none .leaf (.node none .leaf (.node none (.node (some ⟨[(30, 4)], [26, 27, 28, 29]⟩) .leaf .leaf) (.node none .leaf (.node none .leaf (.node (some ⟨[], [43, 44, 45, 46, 47, 48]⟩) .leaf .leaf))))))) Tryz.func231 rfl (F231_eq x0 x1 R H) h
/-- bollard/layout.full -/
def F232 (x0a : Option Addr) (x0n : Nat) (x0c : Nat) (x1 : Int) (R : Ending → Heap → Prop) (H : Heap) : Prop :=
  ask ((0 : Int) ≤ x1 ∧ x1 ≤ x1 ∧ (1 : Int) * x1 ≤ (281474976710656 : Int) ∧ x1 ≤ (9223372036854775807 : Int)) (al H (Obj.cells (List.toArray (rowZ [Value.int IntKind.u8 0] (Int.toNat x1))) 5) (fun r1 H2 =>
  semW Tryz.prog (Builtin.copy_ #[38, 38] 3 #[Value.slice (some (Addr.mk r1 0 none)) (Int.toNat x1) (Int.toNat x1), Value.slice x0a x0n x0c]) (pnR R) H2 (fun v5 H6 =>
  dInt IntKind.i64 v5 (fun n7 =>
  ask ((0 : Int) ≤ (0 : Int) ∧ (0 : Int) ≤ x1 ∧ x1 ≤ x1 ∧ x1 ≤ (↑(Int.toNat x1) : Int)) (R (Ending.returned (Value.slice (slO (some (Addr.mk r1 0 none)) 1 0 x1) (Int.toNat x1 - Int.toNat 0) (Int.toNat x1 - Int.toNat 0))) H6)))))
theorem F232_eq (x0a : Option Addr) (x0n : Nat) (x0c : Nat) (x1 : Int) (R : Ending → Heap → Prop) (H : Heap) : F232 x0a x0n x0c x1 R H = vc Tryz.prog (codeOf Tryz.f232) .leaf (postV Tryz.prog Tryz.f232 R) ⟨#[Value.slice x0a x0n x0c, Value.int IntKind.i64 x1] ++ Array.replicate (Tryz.f232.ntmps - 2) undef, []⟩ H := by kernel_rfl
theorem F232_calls {R : Ending → Heap → Prop} {H : Heap} (x0a : Option Addr) (x0n : Nat) (x0c : Nat) (x1 : Int) (h : F232 x0a x0n x0c x1 R H) : HCalls Tryz.prog 232 #[Value.slice x0a x0n x0c, Value.int IntKind.i64 x1] H R :=
  calls_by (F := F232 x0a x0n x0c x1 R H) .leaf Tryz.func232 rfl (F232_eq x0a x0n x0c x1 R H) h
end Go.Proofs.YtngploohhmfaiaaGreat.E
/- The functions' forms in the engine's words, printed by my own program. -/
namespace Go.Proofs.YtngploohhmfaiaaGreat.E
open Go Go.Proofs
set_option linter.unusedVariables false
/-- (*bollard/cache.Cache).victim -/
def F265 (x0 : Option Addr) (R : Ending → Heap → Prop) (H : Heap) : Prop :=
  HCalls Tryz.prog 273 #[Value.pointer x0] H (Sp.retK (fun v1 H2 =>
  dSl v1 (fun p3 r4 r5 =>
  ∃ I6 : List Value → Heap → Prop,
  ∃ I7 : List Value → Heap → Nat,
  (I6 ([Value.int IntKind.i64 0]) H2) ∧
  ∀ n8 : Int,
  ∀ v9 v10 v11 v12 v13 v14 v15 v16 v17 v18 v19 v20 v21 v22 v23 v24 v25 v26 : Value,
  ∀ H27 : Heap,
  (I6 ([Value.int IntKind.i64 n8]) H27) →
  sB (decide (n8 < (↑r4 : Int))) (nz p3 (fun a29 =>
  ask ((0 : Int) ≤ n8 ∧ n8 < (↑r4 : Int)) (ld H27 (Addr.add a29 (Int.toNat n8 * 1)) (fun v30 =>
  dInt IntKind.i64 v30 (fun n31 =>
  nz x0 (fun a32 =>
  ld H27 (Addr.add a32 2) (fun v33 =>
  dMap v33 (fun p34 =>
  semW Tryz.prog (Instr.lookup 201 (Value.map p34) (Value.int IntKind.i64 n31) false) (pnR R) H27 (fun v37 H38 =>
  dPtr v37 (fun p39 =>
  nz p39 (fun a40 =>
  ld H38 (Addr.add a40 1) (fun v41 =>
  dInt IntKind.i64 v41 (fun n42 =>
  sB (n42 == 0) (R (Ending.returned (Value.tuple #[Value.int IntKind.i64 n31, Value.bool true])) H38) (wr IntKind.i64 (n8 + 1) (fun n43 =>
  (I6 ([Value.int IntKind.i64 n43]) H38) ∧
  (I7 [Value.int IntKind.i64 n43] H38) < (I7 [Value.int IntKind.i64 n8] H27)))))))))))))))) (R (Ending.returned (Value.tuple #[Value.int IntKind.i64 0, Value.bool false])) H27))) (pnR R))
theorem F265_eq (x0 : Option Addr) (R : Ending → Heap → Prop) (H : Heap) : F265 x0 R H = vc Tryz.prog (codeOf Tryz.f265) (.node none .leaf (.node none (.node none .leaf (.node none (.node (some ⟨[(9, 3)], [2, 3, 5, 10, 11, 12, 13, 14, 15, 16, 17, 18, 19, 20, 21, 22, 23, 24]⟩) .leaf .leaf) .leaf)) .leaf)) (postV Tryz.prog Tryz.f265 R) ⟨#[Value.pointer x0] ++ Array.replicate (Tryz.f265.ntmps - 1) undef, []⟩ H := by kernel_rfl
theorem F265_calls {R : Ending → Heap → Prop} {H : Heap} (x0 : Option Addr) (h : F265 x0 R H) : HCalls Tryz.prog 265 #[Value.pointer x0] H R :=
  calls_by (F := F265 x0 R H) (.node none .leaf (.node none (.node none .leaf (.node none (.node (some ⟨[(9, 3)], [2, 3, 5, 10, 11, 12, 13, 14, 15, 16, 17, 18, 19, 20, 21, 22, 23, 24]⟩) .leaf .leaf) .leaf)) .leaf)) Tryz.func265 rfl (F265_eq x0 R H) h
/-- (*bollard/disk.Disk).Read -/
def F266 (x0 : Option Addr) (x1 : Int) (R : Ending → Heap → Prop) (H : Heap) : Prop :=
  HCalls Tryz.prog 193 #[Value.pointer x0, Value.int IntKind.i64 x1] H (Sp.retK (fun v1 H2 =>
  dInt IntKind.i64 v1 (fun n3 =>
  sB (n3 != 0) (R (Ending.returned (Value.tuple #[Value.slice none 0 0, Value.int IntKind.i64 n3])) H2) (nz x0 (fun a4 =>
  ld H2 (Addr.add a4 2) (fun v5 =>
  dMap v5 (fun p6 =>
  semW Tryz.prog (Instr.lookup 131 (Value.map p6) (Value.int IntKind.i64 x1) false) (pnR R) H2 (fun v9 H10 =>
  dInt IntKind.i64 v9 (fun n11 =>
  sB (decide (n11 > 0)) (nz x0 (fun a12 =>
  ld H10 (Addr.add a12 2) (fun v13 =>
  dMap v13 (fun p14 =>
  semW Tryz.prog (Instr.lookup 131 (Value.map p14) (Value.int IntKind.i64 x1) false) (pnR R) H10 (fun v17 H18 =>
  dInt IntKind.i64 v17 (fun n19 =>
  wr IntKind.i64 (n19 - 1) (fun n20 =>
  semW Tryz.prog (Instr.mapUpdate 131 (Value.map p14) (Value.int IntKind.i64 x1) (Value.int IntKind.i64 n20)) (pnR R) H18 (fun x23 H24 =>
  R (Ending.returned (Value.tuple #[Value.slice none 0 0, Value.int IntKind.i64 4])) H24)))))))) (nz x0 (fun a25 =>
  ld H10 a25 (fun v26 =>
  dSl v26 (fun p27 r28 r29 =>
  nz p27 (fun a30 =>
  ask ((0 : Int) ≤ x1 ∧ x1 < (↑r28 : Int)) (ld H10 (Addr.add a30 (Int.toNat x1 * 1)) (fun v31 =>
  dSl v31 (fun p32 r33 r34 =>
  HCalls Tryz.prog 48 #[Value.slice p32 r33 r34] H10 (Sp.retK (fun v35 H36 =>
  dSl v35 (fun p37 r38 r39 =>
  R (Ending.returned (Value.tuple #[Value.slice p37 r38 r39, Value.int IntKind.i64 0])) H36)) (pnR R)))))))))))))))))) (pnR R))
theorem F266_eq (x0 : Option Addr) (x1 : Int) (R : Ending → Heap → Prop) (H : Heap) : F266 x0 x1 R H = vc Tryz.prog (codeOf Tryz.f266) .leaf (postV Tryz.prog Tryz.f266 R) ⟨#[Value.pointer x0, Value.int IntKind.i64 x1] ++ Array.replicate (Tryz.f266.ntmps - 2) undef, []⟩ H := by kernel_rfl
theorem F266_calls {R : Ending → Heap → Prop} {H : Heap} (x0 : Option Addr) (x1 : Int) (h : F266 x0 x1 R H) : HCalls Tryz.prog 266 #[Value.pointer x0, Value.int IntKind.i64 x1] H R :=
  calls_by (F := F266 x0 x1 R H) .leaf Tryz.func266 rfl (F266_eq x0 x1 R H) h
/-- (*bollard/cache.Cache).Held -/
def F273 (x0 : Option Addr) (R : Ending → Heap → Prop) (H : Heap) : Prop :=
  al H (Obj.cells #[Value.pointer x0] 50) (fun r1 H2 =>
  ld H2 (Addr.mk r1 0 none) (fun v3 =>
  dPtr v3 (fun p4 =>
  sB (Option.isNone p4) (R (Ending.returned (Value.slice none 0 0)) H2) (ld H2 (Addr.mk r1 0 none) (fun v5 =>
  dPtr v5 (fun p6 =>
  nz p6 (fun a7 =>
  ld H2 (Addr.add a7 2) (fun v8 =>
  dMap v8 (fun p9 =>
  HCalls Tryz.prog 276 #[Value.map p9] H2 (Sp.retK (fun v10 H11 =>
  HCalls Tryz.prog 275 #[v10, Value.func (Fn.func 277) #[] #[Value.pointer (some (Addr.mk r1 0 none))]] H11 (Sp.retK (fun v12 H13 =>
  dSl v12 (fun p14 r15 r16 =>
  R (Ending.returned (Value.slice p14 r15 r16)) H13)) (pnR R))) (pnR R)))))))))))
theorem F273_eq (x0 : Option Addr) (R : Ending → Heap → Prop) (H : Heap) : F273 x0 R H = vc Tryz.prog (codeOf Tryz.f273) .leaf (postV Tryz.prog Tryz.f273 R) ⟨#[Value.pointer x0] ++ Array.replicate (Tryz.f273.ntmps - 1) undef, []⟩ H := by kernel_rfl
theorem F273_calls {R : Ending → Heap → Prop} {H : Heap} (x0 : Option Addr) (h : F273 x0 R H) : HCalls Tryz.prog 273 #[Value.pointer x0] H R :=
  calls_by (F := F273 x0 R H) .leaf Tryz.func273 rfl (F273_eq x0 R H) h
/-- slices.SortedFunc[int] -/
def F275 (x0g : Nat) (x0f : Array Value) (x0c : Array Value) (x1g : Nat) (x1f : Array Value) (x1c : Array Value) (R : Ending → Heap → Prop) (H : Heap) : Prop :=
  HCalls Tryz.prog 216 #[Value.func (Fn.func x0g) x0f x0c] H (Sp.retK (fun v1 H2 =>
  dSl v1 (fun p3 r4 r5 =>
  HCalls Tryz.prog 278 #[Value.slice p3 r4 r5, Value.func (Fn.func x1g) x1f x1c] H2 (Sp.retK (fun v6 H7 =>
  R (Ending.returned (Value.slice p3 r4 r5)) H7) (pnR R)))) (pnR R))
theorem F275_eq (x0g : Nat) (x0f : Array Value) (x0c : Array Value) (x1g : Nat) (x1f : Array Value) (x1c : Array Value) (R : Ending → Heap → Prop) (H : Heap) : F275 x0g x0f x0c x1g x1f x1c R H = vc Tryz.prog (codeOf Tryz.f275) .leaf (postV Tryz.prog Tryz.f275 R) ⟨#[Value.func (Fn.func x0g) x0f x0c, Value.func (Fn.func x1g) x1f x1c] ++ Array.replicate (Tryz.f275.ntmps - 2) undef, []⟩ H := by kernel_rfl
theorem F275_calls {R : Ending → Heap → Prop} {H : Heap} (x0g : Nat) (x0f : Array Value) (x0c : Array Value) (x1g : Nat) (x1f : Array Value) (x1c : Array Value) (h : F275 x0g x0f x0c x1g x1f x1c R H) : HCalls Tryz.prog 275 #[Value.func (Fn.func x0g) x0f x0c, Value.func (Fn.func x1g) x1f x1c] H R :=
  calls_by (F := F275 x0g x0f x0c x1g x1f x1c R H) .leaf Tryz.func275 rfl (F275_eq x0g x0f x0c x1g x1f x1c R H) h
/-- maps.Keys[map[int]*bollard/cache.buffer,int,*bollard/cache.buffer] -/
def F276 (x0 : Option Nat) (R : Ending → Heap → Prop) (H : Heap) : Prop :=
  al H (Obj.cells #[Value.map x0] 201) (fun r1 H2 =>
  R (Ending.returned (Value.func (Fn.func 279) #[] #[Value.pointer (some (Addr.mk r1 0 none))])) H2)
theorem F276_eq (x0 : Option Nat) (R : Ending → Heap → Prop) (H : Heap) : F276 x0 R H = vc Tryz.prog (codeOf Tryz.f276) .leaf (postV Tryz.prog Tryz.f276 R) ⟨#[Value.map x0] ++ Array.replicate (Tryz.f276.ntmps - 1) undef, []⟩ H := by kernel_rfl
theorem F276_calls {R : Ending → Heap → Prop} {H : Heap} (x0 : Option Nat) (h : F276 x0 R H) : HCalls Tryz.prog 276 #[Value.map x0] H R :=
  calls_by (F := F276 x0 R H) .leaf Tryz.func276 rfl (F276_eq x0 R H) h
end Go.Proofs.YtngploohhmfaiaaGreat.E
/- The functions' forms in the engine's words, printed by my own program. -/
namespace Go.Proofs.YtngploohhmfaiaaGreat.E
open Go Go.Proofs
set_option linter.unusedVariables false
/-- bollard/bollardplain.Fresh -/
def F23 (x0_0 : Value) (x0_1 : Value) (x0_2 : Value) (R : Ending → Heap → Prop) (H : Heap) : Prop :=
  al H (Obj.cells #[x0_0, x0_1, x0_2] 32) (fun r1 H2 =>
  al H2 (Obj.cells #[Value.int IntKind.i64 0, Value.int IntKind.i64 0, Value.int IntKind.i64 0] 32) (fun r3 H4 =>
  ld H4 (Addr.mk r1 0 none) (fun v5 =>
  ld H4 (Addr.mk r1 1 none) (fun v6 =>
  ld H4 (Addr.mk r1 2 none) (fun v7 =>
  HCalls Tryz.prog 66 #[Value.agg #[v5, v6, v7]] H4 (Sp.retK (fun v8 H9 =>
  dT 2 v8 (fun v10 v11 =>
  dSl v10 (fun p12 r13 r14 =>
  dInt IntKind.i64 v11 (fun n15 =>
  jn (α := VFH 1) (fun v16 H17 =>
  ∀ v18 v19 v20 v21 v22 v23 v24 v25 : Value,
  dSl v16 (fun p26 r27 r28 =>
  HCalls Tryz.prog 67 #[Value.slice p26 r27 r28, Value.int IntKind.i64 64] H17 (Sp.retK (fun v29 H30 =>
  dT 2 v29 (fun v31 v32 =>
  dPtr v31 (fun p33 =>
  dBl v32 (fun b34 =>
  ld H30 (Addr.mk r1 0 none) (fun v35 =>
  ld H30 (Addr.mk r1 1 none) (fun v36 =>
  ld H30 (Addr.mk r1 2 none) (fun v37 =>
  sB b34 (((ld H30 (Addr.mk r1 0 none) (fun v38 =>
  ld H30 (Addr.mk r1 1 none) (fun v39 =>
  ld H30 (Addr.mk r1 2 none) (fun v40 =>
  (Value.agg #[v38, v39, v40]) = (Value.agg #[v35, v36, v37]))))) ∧
  st H30 (Addr.mk r3 0 none) v35 (fun H41 =>
  st H41 (Addr.mk r3 1 none) v36 (fun H42 =>
  st H42 (Addr.mk r3 2 none) v37 (fun H43 =>
  ld H43 (Addr.mk r3 0 none) (fun v44 =>
  ld H43 (Addr.mk r3 1 none) (fun v45 =>
  ld H43 (Addr.mk r3 2 none) (fun v46 =>
  R (Ending.returned (Value.tuple #[Value.pointer p33, Value.agg #[v44, v45, v46], Value.bool !Option.isNone p33])) H43))))))) ∧
  st H30 (Addr.mk r3 0 none) v35 (fun H47 =>
  st H47 (Addr.mk r3 1 none) v36 (fun H48 =>
  st H48 (Addr.mk r3 2 none) v37 (fun H49 =>
  ld H49 (Addr.mk r3 0 none) (fun v50 =>
  ld H49 (Addr.mk r3 1 none) (fun v51 =>
  ld H49 (Addr.mk r3 2 none) (fun v52 =>
  R (Ending.returned (Value.tuple #[Value.pointer p33, Value.agg #[v50, v51, v52], Value.bool !Option.isNone p33])) H49))))))) (st H30 (Addr.mk r3 0 none) v35 (fun H53 =>
  st H53 (Addr.mk r3 1 none) v36 (fun H54 =>
  st H54 (Addr.mk r3 2 none) v37 (fun H55 =>
  ld H55 (Addr.mk r3 0 none) (fun v56 =>
  ld H55 (Addr.mk r3 1 none) (fun v57 =>
  ld H55 (Addr.mk r3 2 none) (fun v58 =>
  R (Ending.returned (Value.tuple #[Value.pointer p33, Value.agg #[v56, v57, v58], Value.bool false])) H55)))))))))))))) (pnR R)))) (fun k61 =>
  sB (n15 != 0) (st H9 (Addr.mk r1 0 none) (Value.int IntKind.i64 1) (fun H62 =>
  st H62 (Addr.mk r1 1 none) (Value.int IntKind.i64 8) (fun H63 =>
  st H63 (Addr.mk r1 2 none) (Value.int IntKind.i64 4) (fun H64 =>
  ld H64 (Addr.mk r1 0 none) (fun v65 =>
  ld H64 (Addr.mk r1 1 none) (fun v66 =>
  ld H64 (Addr.mk r1 2 none) (fun v67 =>
  HCalls Tryz.prog 66 #[Value.agg #[v65, v66, v67]] H64 (Sp.retK (fun v68 H69 =>
  dT 2 v68 (fun v70 v71 =>
  dSl v70 (fun p72 r73 r74 =>
  dInt IntKind.i64 v71 (fun n75 =>
  k61 (Value.slice p72 r73 r74) H69)))) (pnR R))))))))) (k61 (Value.slice p12 r13 r14) H9)))))) (pnR R)))))))
theorem F23_eq (x0_0 : Value) (x0_1 : Value) (x0_2 : Value) (R : Ending → Heap → Prop) (H : Heap) : F23 x0_0 x0_1 x0_2 R H = vc Tryz.prog (codeOf Tryz.f23) (.node none .leaf (.node none .leaf (.node (some ⟨[(5, 42)], [14, 15, 16, 17, 18, 19, 20, 21]⟩) .leaf .leaf))) (postV Tryz.prog Tryz.f23 R) ⟨#[Value.agg #[x0_0, x0_1, x0_2]] ++ Array.replicate (Tryz.f23.ntmps - 1) undef, []⟩ H := by kernel_rfl
theorem F23_calls {R : Ending → Heap → Prop} {H : Heap} (x0_0 : Value) (x0_1 : Value) (x0_2 : Value) (h : F23 x0_0 x0_1 x0_2 R H) : HCalls Tryz.prog 23 #[Value.agg #[x0_0, x0_1, x0_2]] H R :=
  calls_by (F := F23 x0_0 x0_1 x0_2 R H) (.node none .leaf (.node none .leaf (.node (some ⟨[(5, 42)], [14, 15, 16, 17, 18, 19, 20, 21]⟩) .leaf .leaf))) Tryz.func23 rfl (F23_eq x0_0 x0_1 x0_2 R H) h
/-- (*bollard/volume.Volume).Blocks -/
def F24 (x0 : Option Addr) (R : Ending → Heap → Prop) (H : Heap) : Prop :=
  HCalls Tryz.prog 68 #[Value.pointer x0] H (Sp.retK (fun v1 H2 =>
  dBl v1 (fun b3 =>
  sB (!b3) (R (Ending.returned (Value.int IntKind.i64 0)) H2) (nz x0 (fun a4 =>
  nz x0 (fun a5 =>
  ld H2 (Addr.add a5 2) (fun v6 =>
  dPtr v6 (fun p7 =>
  HCalls Tryz.prog 70 #[Value.pointer p7] H2 (Sp.retK (fun v8 H9 =>
  dInt IntKind.i64 v8 (fun n10 =>
  HCallsD Tryz.prog 69 #[Value.pointer (some a4)] FrameMode.returning H9 (fun e11 u12 H13 =>
  match e11 with
| Ending.returned v => leavesV Tryz.prog Tryz.f24 (Act.tmps (Act.mk #[Value.pointer x0, undef, Value.int IntKind.i64 n10, Value.pointer x0, Value.bool b3, Value.bool !b3, Value.pointer x0, Value.pointer (some a4), Value.pointer (some a4), Value.pointer x0, Value.pointer (some a5), Value.pointer (some (Addr.add a5 2)), Value.pointer p7, Value.int IntKind.i64 n10] [Deferred.mk (Target.fn (Fn.func 69) #[]) #[Value.pointer (some a4)]])) R [] (settle u12) H13
| Ending.panicked c => leavesV Tryz.prog Tryz.f24 (Act.tmps (Act.mk #[Value.pointer x0, undef, Value.int IntKind.i64 n10, Value.pointer x0, Value.bool b3, Value.bool !b3, Value.pointer x0, Value.pointer (some a4), Value.pointer (some a4), Value.pointer x0, Value.pointer (some a5), Value.pointer (some (Addr.add a5 2)), Value.pointer p7, Value.int IntKind.i64 n10] [Deferred.mk (Target.fn (Fn.func 69) #[]) #[Value.pointer (some a4)]])) R [] (raised u12 c) H13
| Ending.outgrown => False))) (fun c14 H15 =>
  HCallsD Tryz.prog 69 #[Value.pointer (some a4)] (FrameMode.panicking c14) H15 (fun e16 u17 H18 =>
  match e16 with
| Ending.returned v => leavesV Tryz.prog Tryz.f24 (Act.tmps (Act.mk #[Value.pointer x0, undef, Value.int IntKind.i64 0, Value.pointer x0, Value.bool b3, Value.bool !b3, Value.pointer x0, Value.pointer (some a4), Value.pointer (some a4), Value.pointer x0, Value.pointer (some a5), Value.pointer (some (Addr.add a5 2)), Value.pointer p7, undef] [Deferred.mk (Target.fn (Fn.func 69) #[]) #[Value.pointer (some a4)]])) R [] (settle u17) H18
| Ending.panicked c => leavesV Tryz.prog Tryz.f24 (Act.tmps (Act.mk #[Value.pointer x0, undef, Value.int IntKind.i64 0, Value.pointer x0, Value.bool b3, Value.bool !b3, Value.pointer x0, Value.pointer (some a4), Value.pointer (some a4), Value.pointer x0, Value.pointer (some a5), Value.pointer (some (Addr.add a5 2)), Value.pointer p7, undef] [Deferred.mk (Target.fn (Fn.func 69) #[]) #[Value.pointer (some a4)]])) R [] (raised u17 c) H18
| Ending.outgrown => False)))))))))) (pnR R))
theorem F24_eq (x0 : Option Addr) (R : Ending → Heap → Prop) (H : Heap) : F24 x0 R H = vc Tryz.prog (codeOf Tryz.f24) .leaf (postV Tryz.prog Tryz.f24 R) ⟨#[Value.pointer x0] ++ Array.replicate (Tryz.f24.ntmps - 1) undef, []⟩ H := by kernel_rfl
theorem F24_calls {R : Ending → Heap → Prop} {H : Heap} (x0 : Option Addr) (h : F24 x0 R H) : HCalls Tryz.prog 24 #[Value.pointer x0] H R :=
  calls_by (F := F24 x0 R H) .leaf Tryz.func24 rfl (F24_eq x0 R H) h
/-- (*bollard/volume.Volume).Change -/
def F25 (x0 : Option Addr) (x1 : Int) (x2 : Int) (x3a : Option Addr) (x3n : Nat) (x3c : Nat) (x4a : Option Addr) (x4n : Nat) (x4c : Nat) (R : Ending → Heap → Prop) (H : Heap) : Prop :=
  HCalls Tryz.prog 68 #[Value.pointer x0] H (Sp.retK (fun v1 H2 =>
  dBl v1 (fun b3 =>
  sB (!b3) (R (Ending.returned (Value.tuple #[Value.int IntKind.i64 0, Value.int IntKind.i64 2])) H2) (nz x0 (fun a4 =>
  HCalls Tryz.prog 71 #[Value.pointer x0, Value.int IntKind.i64 x1] H2 (Sp.retK (fun v5 H6 =>
  dBl v5 (fun b7 =>
  sB (!b7) (HCallsD Tryz.prog 69 #[Value.pointer (some a4)] FrameMode.returning H6 (fun e8 u9 H10 =>
  match e8 with
| Ending.returned v => leavesV Tryz.prog Tryz.f25 (Act.tmps (Act.mk #[Value.pointer x0, Value.int IntKind.i64 x1, Value.int IntKind.i64 x2, Value.slice x3a x3n x3c, Value.slice x4a x4n x4c, undef, undef, undef, undef, undef, Value.int IntKind.i64 0, Value.int IntKind.i64 90, undef, undef, undef, undef, undef, undef, undef, undef, Value.pointer x0, Value.bool b3, Value.bool !b3, Value.pointer x0, Value.pointer (some a4), Value.pointer (some a4), Value.pointer x0, Value.int IntKind.i64 x1, Value.bool b7, Value.bool !b7, undef, undef, undef, undef, undef, undef, undef, undef, undef, undef, undef, undef, undef, undef, undef, undef, undef, undef, undef, undef, undef, undef, undef, undef, undef, undef, undef, undef, undef, undef, undef, undef, undef, undef, undef, undef, undef, undef, undef, undef, undef, undef, undef, undef, undef, undef, undef, undef, undef, undef, undef, undef, undef, undef, undef, undef, undef, undef, undef, undef, undef, undef, undef, undef, undef, undef, undef, undef, undef, undef, undef, undef, undef, undef, undef, undef, undef, undef, undef, undef, undef, undef, undef] [Deferred.mk (Target.fn (Fn.func 69) #[]) #[Value.pointer (some a4)]])) R [] (settle u9) H10
| Ending.panicked c => leavesV Tryz.prog Tryz.f25 (Act.tmps (Act.mk #[Value.pointer x0, Value.int IntKind.i64 x1, Value.int IntKind.i64 x2, Value.slice x3a x3n x3c, Value.slice x4a x4n x4c, undef, undef, undef, undef, undef, Value.int IntKind.i64 0, Value.int IntKind.i64 90, undef, undef, undef, undef, undef, undef, undef, undef, Value.pointer x0, Value.bool b3, Value.bool !b3, Value.pointer x0, Value.pointer (some a4), Value.pointer (some a4), Value.pointer x0, Value.int IntKind.i64 x1, Value.bool b7, Value.bool !b7, undef, undef, undef, undef, undef, undef, undef, undef, undef, undef, undef, undef, undef, undef, undef, undef, undef, undef, undef, undef, undef, undef, undef, undef, undef, undef, undef, undef, undef, undef, undef, undef, undef, undef, undef, undef, undef, undef, undef, undef, undef, undef, undef, undef, undef, undef, undef, undef, undef, undef, undef, undef, undef, undef, undef, undef, undef, undef, undef, undef, undef, undef, undef, undef, undef, undef, undef, undef, undef, undef, undef, undef, undef, undef, undef, undef, undef, undef, undef, undef, undef, undef, undef] [Deferred.mk (Target.fn (Fn.func 69) #[]) #[Value.pointer (some a4)]])) R [] (raised u9 c) H10
| Ending.outgrown => False)) (nz x0 (fun a11 =>
  ld H6 (Addr.add (Addr.add a11 6) 3) (fun v12 =>
  dMap v12 (fun p13 =>
  semW Tryz.prog (Instr.lookup 53 (Value.map p13) (Value.int IntKind.i64 x1) true) (fun c14 H15 =>
  HCallsD Tryz.prog 69 #[Value.pointer (some a4)] (FrameMode.panicking c14) H15 (fun e16 u17 H18 =>
  match e16 with
| Ending.returned v => leavesV Tryz.prog Tryz.f25 (Act.tmps (Act.mk #[Value.pointer x0, Value.int IntKind.i64 x1, Value.int IntKind.i64 x2, Value.slice x3a x3n x3c, Value.slice x4a x4n x4c, undef, undef, undef, undef, undef, Value.int IntKind.i64 0, Value.int IntKind.i64 0, undef, undef, undef, undef, undef, undef, undef, undef, Value.pointer x0, Value.bool b3, Value.bool !b3, Value.pointer x0, Value.pointer (some a4), Value.pointer (some a4), Value.pointer x0, Value.int IntKind.i64 x1, Value.bool b7, Value.bool !b7, undef, Value.pointer x0, Value.pointer (some a11), Value.pointer (some (Addr.add a11 6)), Value.pointer (some (Addr.add (Addr.add a11 6) 3)), Value.map p13, Value.int IntKind.i64 x1, undef, undef, undef, undef, undef, undef, undef, undef, undef, undef, undef, undef, undef, undef, undef, undef, undef, undef, undef, undef, undef, undef, undef, undef, undef, undef, undef, undef, undef, undef, undef, undef, undef, undef, undef, undef, undef, undef, undef, undef, undef, undef, undef, undef, undef, undef, undef, undef, undef, undef, undef, undef, undef, undef, undef, undef, undef, undef, undef, undef, undef, undef, undef, undef, undef, undef, undef, undef, undef, undef, undef, undef, undef, undef, undef, undef] [Deferred.mk (Target.fn (Fn.func 69) #[]) #[Value.pointer (some a4)]])) R [] (settle u17) H18
| Ending.panicked c => leavesV Tryz.prog Tryz.f25 (Act.tmps (Act.mk #[Value.pointer x0, Value.int IntKind.i64 x1, Value.int IntKind.i64 x2, Value.slice x3a x3n x3c, Value.slice x4a x4n x4c, undef, undef, undef, undef, undef, Value.int IntKind.i64 0, Value.int IntKind.i64 0, undef, undef, undef, undef, undef, undef, undef, undef, Value.pointer x0, Value.bool b3, Value.bool !b3, Value.pointer x0, Value.pointer (some a4), Value.pointer (some a4), Value.pointer x0, Value.int IntKind.i64 x1, Value.bool b7, Value.bool !b7, undef, Value.pointer x0, Value.pointer (some a11), Value.pointer (some (Addr.add a11 6)), Value.pointer (some (Addr.add (Addr.add a11 6) 3)), Value.map p13, Value.int IntKind.i64 x1, undef, undef, undef, undef, undef, undef, undef, undef, undef, undef, undef, undef, undef, undef, undef, undef, undef, undef, undef, undef, undef, undef, undef, undef, undef, undef, undef, undef, undef, undef, undef, undef, undef, undef, undef, undef, undef, undef, undef, undef, undef, undef, undef, undef, undef, undef, undef, undef, undef, undef, undef, undef, undef, undef, undef, undef, undef, undef, undef, undef, undef, undef, undef, undef, undef, undef, undef, undef, undef, undef, undef, undef, undef, undef, undef, undef] [Deferred.mk (Target.fn (Fn.func 69) #[]) #[Value.pointer (some a4)]])) R [] (raised u17 c) H18
| Ending.outgrown => False)) H6 (fun v19 H20 =>
  dT 2 v19 (fun v21 v22 =>
  dSl v21 (fun p23 r24 r25 =>
  dBl v22 (fun b26 =>
  jn (α := VFH 1) (fun v27 H28 =>
  ∀ v29 v30 v31 v32 v33 v34 v35 v36 v37 v38 v39 v40 v41 v42 v43 v44 v45 : Value,
  dBl v27 (fun b46 =>
  jn (α := VFH 1) (fun v47 H48 =>
  ∀ v49 v50 v51 v52 v53 v54 v55 v56 v57 v58 v59 v60 v61 v62 v63 : Value,
  dSl v47 (fun p64 r65 r66 =>
  nz x0 (fun a67 =>
  ld H48 (Addr.add a67 4) (fun v68 =>
  dPtr v68 (fun p69 =>
  HCalls Tryz.prog 73 #[Value.pointer p69, Value.int IntKind.i64 x1, Value.int IntKind.i64 x2, Value.slice x3a x3n x3c, Value.slice x4a x4n x4c] H48 (Sp.retK (fun v70 H71 =>
  dT 2 v70 (fun v72 v73 =>
  dInt IntKind.i64 v72 (fun n74 =>
  dInt IntKind.i64 v73 (fun n75 =>
  sB (n75 != 0) (HCallsD Tryz.prog 69 #[Value.pointer (some a4)] FrameMode.returning H71 (fun e76 u77 H78 =>
  match e76 with
| Ending.returned v => leavesV Tryz.prog Tryz.f25 (Act.tmps (Act.mk #[Value.pointer x0, Value.int IntKind.i64 x1, Value.int IntKind.i64 x2, Value.slice x3a x3n x3c, Value.slice x4a x4n x4c, undef, undef, undef, undef, undef, Value.int IntKind.i64 0, Value.int IntKind.i64 n75, Value.slice p23 r24 r25, Value.bool b26, Value.bool b46, Value.slice p64 r65 r66, v51, v52, Value.int IntKind.i64 n74, Value.int IntKind.i64 n75, Value.pointer x0, Value.bool b3, Value.bool !b3, Value.pointer x0, Value.pointer (some a4), Value.pointer (some a4), Value.pointer x0, Value.int IntKind.i64 x1, Value.bool b7, Value.bool !b7, Value.tuple #[Value.slice p23 r24 r25, Value.bool b26], Value.pointer x0, Value.pointer (some a11), Value.pointer (some (Addr.add a11 6)), Value.pointer (some (Addr.add (Addr.add a11 6) 3)), Value.map p13, Value.int IntKind.i64 x1, Value.tuple #[Value.slice p23 r24 r25, Value.bool b26], Value.slice p23 r24 r25, Value.bool b26, v29, v30, v31, v32, v33, v34, v35, v36, v37, v38, v39, v40, v41, v42, v43, v44, v45, v53, v54, v55, v56, v57, v58, v59, v60, v61, v62, v63, Value.tuple #[Value.int IntKind.i64 n74, Value.int IntKind.i64 n75], Value.pointer x0, Value.pointer (some a67), Value.pointer (some (Addr.add a67 4)), Value.pointer p69, Value.int IntKind.i64 x1, Value.int IntKind.i64 x2, Value.slice x3a x3n x3c, Value.slice x4a x4n x4c, Value.tuple #[Value.int IntKind.i64 n74, Value.int IntKind.i64 n75], Value.int IntKind.i64 n74, Value.int IntKind.i64 n75, Value.int IntKind.i64 n75, Value.bool (n75 != 0), Value.int IntKind.i64 n75, undef, undef, undef, undef, undef, undef, undef, undef, undef, undef, undef, undef, undef, undef, undef, undef, undef, undef, undef, undef, undef, undef, undef, undef, undef, undef, undef, undef, undef, undef] [Deferred.mk (Target.fn (Fn.func 69) #[]) #[Value.pointer (some a4)]])) R [] (settle u77) H78
| Ending.panicked c => leavesV Tryz.prog Tryz.f25 (Act.tmps (Act.mk #[Value.pointer x0, Value.int IntKind.i64 x1, Value.int IntKind.i64 x2, Value.slice x3a x3n x3c, Value.slice x4a x4n x4c, undef, undef, undef, undef, undef, Value.int IntKind.i64 0, Value.int IntKind.i64 n75, Value.slice p23 r24 r25, Value.bool b26, Value.bool b46, Value.slice p64 r65 r66, v51, v52, Value.int IntKind.i64 n74, Value.int IntKind.i64 n75, Value.pointer x0, Value.bool b3, Value.bool !b3, Value.pointer x0, Value.pointer (some a4), Value.pointer (some a4), Value.pointer x0, Value.int IntKind.i64 x1, Value.bool b7, Value.bool !b7, Value.tuple #[Value.slice p23 r24 r25, Value.bool b26], Value.pointer x0, Value.pointer (some a11), Value.pointer (some (Addr.add a11 6)), Value.pointer (some (Addr.add (Addr.add a11 6) 3)), Value.map p13, Value.int IntKind.i64 x1, Value.tuple #[Value.slice p23 r24 r25, Value.bool b26], Value.slice p23 r24 r25, Value.bool b26, v29, v30, v31, v32, v33, v34, v35, v36, v37, v38, v39, v40, v41, v42, v43, v44, v45, v53, v54, v55, v56, v57, v58, v59, v60, v61, v62, v63, Value.tuple #[Value.int IntKind.i64 n74, Value.int IntKind.i64 n75], Value.pointer x0, Value.pointer (some a67), Value.pointer (some (Addr.add a67 4)), Value.pointer p69, Value.int IntKind.i64 x1, Value.int IntKind.i64 x2, Value.slice x3a x3n x3c, Value.slice x4a x4n x4c, Value.tuple #[Value.int IntKind.i64 n74, Value.int IntKind.i64 n75], Value.int IntKind.i64 n74, Value.int IntKind.i64 n75, Value.int IntKind.i64 n75, Value.bool (n75 != 0), Value.int IntKind.i64 n75, undef, undef, undef, undef, undef, undef, undef, undef, undef, undef, undef, undef, undef, undef, undef, undef, undef, undef, undef, undef, undef, undef, undef, undef, undef, undef, undef, undef, undef, undef] [Deferred.mk (Target.fn (Fn.func 69) #[]) #[Value.pointer (some a4)]])) R [] (raised u77 c) H78
| Ending.outgrown => False)) (jn (α := VFH 0) (fun H79 =>
  ∀ v80 v81 v82 v83 v84 v85 v86 v87 v88 v89 v90 v91 v92 v93 v94 v95 v96 v97 v98 v99 v100 v101 v102 v103 v104 v105 v106 v107 v108 : Value,
  HCallsD Tryz.prog 69 #[Value.pointer (some a4)] FrameMode.returning H79 (fun e109 u110 H111 =>
  match e109 with
| Ending.returned v => leavesV Tryz.prog Tryz.f25 (Act.tmps (Act.mk #[Value.pointer x0, Value.int IntKind.i64 x1, Value.int IntKind.i64 x2, Value.slice x3a x3n x3c, Value.slice x4a x4n x4c, undef, undef, undef, undef, undef, Value.int IntKind.i64 n74, Value.int IntKind.i64 0, Value.slice p23 r24 r25, Value.bool b26, Value.bool b46, Value.slice p64 r65 r66, v51, v52, Value.int IntKind.i64 n74, Value.int IntKind.i64 n75, Value.pointer x0, Value.bool b3, Value.bool !b3, Value.pointer x0, Value.pointer (some a4), Value.pointer (some a4), Value.pointer x0, Value.int IntKind.i64 x1, Value.bool b7, Value.bool !b7, Value.tuple #[Value.slice p23 r24 r25, Value.bool b26], Value.pointer x0, Value.pointer (some a11), Value.pointer (some (Addr.add a11 6)), Value.pointer (some (Addr.add (Addr.add a11 6) 3)), Value.map p13, Value.int IntKind.i64 x1, Value.tuple #[Value.slice p23 r24 r25, Value.bool b26], Value.slice p23 r24 r25, Value.bool b26, v29, v30, v31, v32, v33, v34, v35, v36, v37, v38, v39, v40, v41, v42, v43, v44, v45, v53, v54, v55, v56, v57, v58, v59, v60, v61, v62, v63, Value.tuple #[Value.int IntKind.i64 n74, Value.int IntKind.i64 n75], Value.pointer x0, Value.pointer (some a67), Value.pointer (some (Addr.add a67 4)), Value.pointer p69, Value.int IntKind.i64 x1, Value.int IntKind.i64 x2, Value.slice x3a x3n x3c, Value.slice x4a x4n x4c, Value.tuple #[Value.int IntKind.i64 n74, Value.int IntKind.i64 n75], Value.int IntKind.i64 n74, Value.int IntKind.i64 n75, Value.int IntKind.i64 n75, Value.bool (n75 != 0), undef, v80, v81, v82, v83, v84, v85, v86, v87, v88, v89, v90, v91, v92, v93, v94, v95, v96, v97, v98, v99, v100, v101, v102, v103, v104, v105, v106, v107, v108, Value.int IntKind.i64 n74] [Deferred.mk (Target.fn (Fn.func 69) #[]) #[Value.pointer (some a4)]])) R [] (settle u110) H111
| Ending.panicked c => leavesV Tryz.prog Tryz.f25 (Act.tmps (Act.mk #[Value.pointer x0, Value.int IntKind.i64 x1, Value.int IntKind.i64 x2, Value.slice x3a x3n x3c, Value.slice x4a x4n x4c, undef, undef, undef, undef, undef, Value.int IntKind.i64 n74, Value.int IntKind.i64 0, Value.slice p23 r24 r25, Value.bool b26, Value.bool b46, Value.slice p64 r65 r66, v51, v52, Value.int IntKind.i64 n74, Value.int IntKind.i64 n75, Value.pointer x0, Value.bool b3, Value.bool !b3, Value.pointer x0, Value.pointer (some a4), Value.pointer (some a4), Value.pointer x0, Value.int IntKind.i64 x1, Value.bool b7, Value.bool !b7, Value.tuple #[Value.slice p23 r24 r25, Value.bool b26], Value.pointer x0, Value.pointer (some a11), Value.pointer (some (Addr.add a11 6)), Value.pointer (some (Addr.add (Addr.add a11 6) 3)), Value.map p13, Value.int IntKind.i64 x1, Value.tuple #[Value.slice p23 r24 r25, Value.bool b26], Value.slice p23 r24 r25, Value.bool b26, v29, v30, v31, v32, v33, v34, v35, v36, v37, v38, v39, v40, v41, v42, v43, v44, v45, v53, v54, v55, v56, v57, v58, v59, v60, v61, v62, v63, Value.tuple #[Value.int IntKind.i64 n74, Value.int IntKind.i64 n75], Value.pointer x0, Value.pointer (some a67), Value.pointer (some (Addr.add a67 4)), Value.pointer p69, Value.int IntKind.i64 x1, Value.int IntKind.i64 x2, Value.slice x3a x3n x3c, Value.slice x4a x4n x4c, Value.tuple #[Value.int IntKind.i64 n74, Value.int IntKind.i64 n75], Value.int IntKind.i64 n74, Value.int IntKind.i64 n75, Value.int IntKind.i64 n75, Value.bool (n75 != 0), undef, v80, v81, v82, v83, v84, v85, v86, v87, v88, v89, v90, v91, v92, v93, v94, v95, v96, v97, v98, v99, v100, v101, v102, v103, v104, v105, v106, v107, v108, Value.int IntKind.i64 n74] [Deferred.mk (Target.fn (Fn.func 69) #[]) #[Value.pointer (some a4)]])) R [] (raised u110 c) H111
| Ending.outgrown => False)) (fun k112 =>
  jn (α := VFH 1) (fun v113 H114 =>
  ∀ v115 v116 v117 v118 v119 v120 v121 v122 v123 v124 v125 v126 v127 v128 v129 : Value,
  dBl v113 (fun b130 =>
  sB b130 (nz x0 (fun a131 =>
  ld H114 (Addr.add (Addr.add a131 6) 3) (fun v132 =>
  dMap v132 (fun p133 =>
  semW Tryz.prog (Instr.mapUpdate 53 (Value.map p133) (Value.int IntKind.i64 x1) (Value.slice p64 r65 r66)) (fun c134 H135 =>
  HCallsD Tryz.prog 69 #[Value.pointer (some a4)] (FrameMode.panicking c134) H135 (fun e136 u137 H138 =>
  match e136 with
| Ending.returned v => leavesV Tryz.prog Tryz.f25 (Act.tmps (Act.mk #[Value.pointer x0, Value.int IntKind.i64 x1, Value.int IntKind.i64 x2, Value.slice x3a x3n x3c, Value.slice x4a x4n x4c, undef, undef, undef, undef, undef, v49, v50, Value.slice p23 r24 r25, Value.bool b26, Value.bool b46, Value.slice p64 r65 r66, v51, v52, Value.int IntKind.i64 n74, Value.int IntKind.i64 n75, Value.pointer x0, Value.bool b3, Value.bool !b3, Value.pointer x0, Value.pointer (some a4), Value.pointer (some a4), Value.pointer x0, Value.int IntKind.i64 x1, Value.bool b7, Value.bool !b7, Value.tuple #[Value.slice p23 r24 r25, Value.bool b26], Value.pointer x0, Value.pointer (some a11), Value.pointer (some (Addr.add a11 6)), Value.pointer (some (Addr.add (Addr.add a11 6) 3)), Value.map p13, Value.int IntKind.i64 x1, Value.tuple #[Value.slice p23 r24 r25, Value.bool b26], Value.slice p23 r24 r25, Value.bool b26, v29, v30, v31, v32, v33, v34, v35, v36, v37, v38, v39, v40, v41, v42, v43, v44, v45, v53, v54, v55, v56, v57, v58, v59, v60, v61, v62, v63, Value.tuple #[Value.int IntKind.i64 n74, Value.int IntKind.i64 n75], Value.pointer x0, Value.pointer (some a67), Value.pointer (some (Addr.add a67 4)), Value.pointer p69, Value.int IntKind.i64 x1, Value.int IntKind.i64 x2, Value.slice x3a x3n x3c, Value.slice x4a x4n x4c, Value.tuple #[Value.int IntKind.i64 n74, Value.int IntKind.i64 n75], Value.int IntKind.i64 n74, Value.int IntKind.i64 n75, Value.int IntKind.i64 n75, Value.bool (n75 != 0), undef, Value.bool b130, v115, v116, v117, v118, v119, v120, v121, v122, v123, v124, v125, v126, v127, v128, v129, Value.pointer x0, Value.pointer (some a131), Value.pointer (some (Addr.add a131 6)), Value.pointer (some (Addr.add (Addr.add a131 6) 3)), Value.map p133, Value.int IntKind.i64 x1, Value.slice p64 r65 r66, undef, undef, undef, undef, undef, undef, undef] [Deferred.mk (Target.fn (Fn.func 69) #[]) #[Value.pointer (some a4)]])) R [] (settle u137) H138
| Ending.panicked c => leavesV Tryz.prog Tryz.f25 (Act.tmps (Act.mk #[Value.pointer x0, Value.int IntKind.i64 x1, Value.int IntKind.i64 x2, Value.slice x3a x3n x3c, Value.slice x4a x4n x4c, undef, undef, undef, undef, undef, v49, v50, Value.slice p23 r24 r25, Value.bool b26, Value.bool b46, Value.slice p64 r65 r66, v51, v52, Value.int IntKind.i64 n74, Value.int IntKind.i64 n75, Value.pointer x0, Value.bool b3, Value.bool !b3, Value.pointer x0, Value.pointer (some a4), Value.pointer (some a4), Value.pointer x0, Value.int IntKind.i64 x1, Value.bool b7, Value.bool !b7, Value.tuple #[Value.slice p23 r24 r25, Value.bool b26], Value.pointer x0, Value.pointer (some a11), Value.pointer (some (Addr.add a11 6)), Value.pointer (some (Addr.add (Addr.add a11 6) 3)), Value.map p13, Value.int IntKind.i64 x1, Value.tuple #[Value.slice p23 r24 r25, Value.bool b26], Value.slice p23 r24 r25, Value.bool b26, v29, v30, v31, v32, v33, v34, v35, v36, v37, v38, v39, v40, v41, v42, v43, v44, v45, v53, v54, v55, v56, v57, v58, v59, v60, v61, v62, v63, Value.tuple #[Value.int IntKind.i64 n74, Value.int IntKind.i64 n75], Value.pointer x0, Value.pointer (some a67), Value.pointer (some (Addr.add a67 4)), Value.pointer p69, Value.int IntKind.i64 x1, Value.int IntKind.i64 x2, Value.slice x3a x3n x3c, Value.slice x4a x4n x4c, Value.tuple #[Value.int IntKind.i64 n74, Value.int IntKind.i64 n75], Value.int IntKind.i64 n74, Value.int IntKind.i64 n75, Value.int IntKind.i64 n75, Value.bool (n75 != 0), undef, Value.bool b130, v115, v116, v117, v118, v119, v120, v121, v122, v123, v124, v125, v126, v127, v128, v129, Value.pointer x0, Value.pointer (some a131), Value.pointer (some (Addr.add a131 6)), Value.pointer (some (Addr.add (Addr.add a131 6) 3)), Value.map p133, Value.int IntKind.i64 x1, Value.slice p64 r65 r66, undef, undef, undef, undef, undef, undef, undef] [Deferred.mk (Target.fn (Fn.func 69) #[]) #[Value.pointer (some a4)]])) R [] (raised u137 c) H138
| Ending.outgrown => False)) H114 (fun x139 H140 =>
  k112 H140))))) (sB b46 (nz x0 (fun a141 =>
  st H114 (Addr.add (Addr.add a141 6) 1) (Value.bool true) (fun H142 =>
  k112 H142))) (k112 H114)))) (fun k143 =>
  sB b46 (nz x0 (fun a144 =>
  ld H71 (Addr.add (Addr.add a144 6) 3) (fun v145 =>
  dMap v145 (fun p146 =>
  nz x0 (fun a147 =>
  ld H71 (Addr.add (Addr.add a147 6) 2) (fun v148 =>
  dInt IntKind.i64 v148 (fun n149 =>
  semW Tryz.prog (Builtin.len_ #[53] 3 #[Value.map p146]) nopR H71 (fun v152 H153 =>
  dInt IntKind.i64 v152 (fun n154 =>
  (ld H153 (Addr.add (Addr.add a147 6) 2) (fun v155 =>
  dInt IntKind.i64 v155 (fun n156 =>
  (Value.int IntKind.i64 n156) = (Value.int IntKind.i64 n149)))) ∧
  k143 (Value.bool (decide (n154 < n149))) H153))))))))) (k143 (Value.bool false) H71)))))))) (fun c157 H158 =>
  HCallsD Tryz.prog 69 #[Value.pointer (some a4)] (FrameMode.panicking c157) H158 (fun e159 u160 H161 =>
  match e159 with
| Ending.returned v => leavesV Tryz.prog Tryz.f25 (Act.tmps (Act.mk #[Value.pointer x0, Value.int IntKind.i64 x1, Value.int IntKind.i64 x2, Value.slice x3a x3n x3c, Value.slice x4a x4n x4c, undef, undef, undef, undef, undef, v49, v50, Value.slice p23 r24 r25, Value.bool b26, Value.bool b46, Value.slice p64 r65 r66, v51, v52, undef, undef, Value.pointer x0, Value.bool b3, Value.bool !b3, Value.pointer x0, Value.pointer (some a4), Value.pointer (some a4), Value.pointer x0, Value.int IntKind.i64 x1, Value.bool b7, Value.bool !b7, Value.tuple #[Value.slice p23 r24 r25, Value.bool b26], Value.pointer x0, Value.pointer (some a11), Value.pointer (some (Addr.add a11 6)), Value.pointer (some (Addr.add (Addr.add a11 6) 3)), Value.map p13, Value.int IntKind.i64 x1, Value.tuple #[Value.slice p23 r24 r25, Value.bool b26], Value.slice p23 r24 r25, Value.bool b26, v29, v30, v31, v32, v33, v34, v35, v36, v37, v38, v39, v40, v41, v42, v43, v44, v45, v53, v54, v55, v56, v57, v58, v59, v60, v61, v62, v63, undef, Value.pointer x0, Value.pointer (some a67), Value.pointer (some (Addr.add a67 4)), Value.pointer p69, Value.int IntKind.i64 x1, Value.int IntKind.i64 x2, Value.slice x3a x3n x3c, Value.slice x4a x4n x4c, undef, undef, undef, undef, undef, undef, undef, undef, undef, undef, undef, undef, undef, undef, undef, undef, undef, undef, undef, undef, undef, undef, undef, undef, undef, undef, undef, undef, undef, undef, undef, undef, undef, undef, undef, undef] [Deferred.mk (Target.fn (Fn.func 69) #[]) #[Value.pointer (some a4)]])) R [] (settle u160) H161
| Ending.panicked c => leavesV Tryz.prog Tryz.f25 (Act.tmps (Act.mk #[Value.pointer x0, Value.int IntKind.i64 x1, Value.int IntKind.i64 x2, Value.slice x3a x3n x3c, Value.slice x4a x4n x4c, undef, undef, undef, undef, undef, v49, v50, Value.slice p23 r24 r25, Value.bool b26, Value.bool b46, Value.slice p64 r65 r66, v51, v52, undef, undef, Value.pointer x0, Value.bool b3, Value.bool !b3, Value.pointer x0, Value.pointer (some a4), Value.pointer (some a4), Value.pointer x0, Value.int IntKind.i64 x1, Value.bool b7, Value.bool !b7, Value.tuple #[Value.slice p23 r24 r25, Value.bool b26], Value.pointer x0, Value.pointer (some a11), Value.pointer (some (Addr.add a11 6)), Value.pointer (some (Addr.add (Addr.add a11 6) 3)), Value.map p13, Value.int IntKind.i64 x1, Value.tuple #[Value.slice p23 r24 r25, Value.bool b26], Value.slice p23 r24 r25, Value.bool b26, v29, v30, v31, v32, v33, v34, v35, v36, v37, v38, v39, v40, v41, v42, v43, v44, v45, v53, v54, v55, v56, v57, v58, v59, v60, v61, v62, v63, undef, Value.pointer x0, Value.pointer (some a67), Value.pointer (some (Addr.add a67 4)), Value.pointer p69, Value.int IntKind.i64 x1, Value.int IntKind.i64 x2, Value.slice x3a x3n x3c, Value.slice x4a x4n x4c, undef, undef, undef, undef, undef, undef, undef, undef, undef, undef, undef, undef, undef, undef, undef, undef, undef, undef, undef, undef, undef, undef, undef, undef, undef, undef, undef, undef, undef, undef, undef, undef, undef, undef, undef, undef] [Deferred.mk (Target.fn (Fn.func 69) #[]) #[Value.pointer (some a4)]])) R [] (raised u160 c) H161
| Ending.outgrown => False)))))))) (fun k162 =>
  sB b46 (HCalls Tryz.prog 72 #[Value.pointer x0, Value.int IntKind.i64 x1] H28 (Sp.retK (fun v163 H164 =>
  dT 2 v163 (fun v165 v166 =>
  dSl v165 (fun p167 r168 r169 =>
  dInt IntKind.i64 v166 (fun n170 =>
  sB (n170 != 0) (HCallsD Tryz.prog 69 #[Value.pointer (some a4)] FrameMode.returning H164 (fun e171 u172 H173 =>
  match e171 with
| Ending.returned v => leavesV Tryz.prog Tryz.f25 (Act.tmps (Act.mk #[Value.pointer x0, Value.int IntKind.i64 x1, Value.int IntKind.i64 x2, Value.slice x3a x3n x3c, Value.slice x4a x4n x4c, undef, undef, undef, undef, undef, Value.int IntKind.i64 0, Value.int IntKind.i64 n170, Value.slice p23 r24 r25, Value.bool b26, Value.bool b46, Value.slice none 0 0, Value.slice p167 r168 r169, Value.int IntKind.i64 n170, undef, undef, Value.pointer x0, Value.bool b3, Value.bool !b3, Value.pointer x0, Value.pointer (some a4), Value.pointer (some a4), Value.pointer x0, Value.int IntKind.i64 x1, Value.bool b7, Value.bool !b7, Value.tuple #[Value.slice p23 r24 r25, Value.bool b26], Value.pointer x0, Value.pointer (some a11), Value.pointer (some (Addr.add a11 6)), Value.pointer (some (Addr.add (Addr.add a11 6) 3)), Value.map p13, Value.int IntKind.i64 x1, Value.tuple #[Value.slice p23 r24 r25, Value.bool b26], Value.slice p23 r24 r25, Value.bool b26, v29, v30, v31, v32, v33, v34, v35, v36, v37, v38, v39, v40, v41, v42, v43, v44, v45, Value.bool b46, Value.tuple #[Value.slice p167 r168 r169, Value.int IntKind.i64 n170], Value.pointer x0, Value.int IntKind.i64 x1, Value.tuple #[Value.slice p167 r168 r169, Value.int IntKind.i64 n170], Value.slice p167 r168 r169, Value.int IntKind.i64 n170, Value.int IntKind.i64 n170, Value.bool (n170 != 0), Value.int IntKind.i64 n170, undef, undef, undef, undef, undef, undef, undef, undef, undef, undef, undef, undef, undef, undef, undef, undef, undef, undef, undef, undef, undef, undef, undef, undef, undef, undef, undef, undef, undef, undef, undef, undef, undef, undef, undef, undef, undef, undef, undef, undef, undef, undef, undef, undef, undef, undef] [Deferred.mk (Target.fn (Fn.func 69) #[]) #[Value.pointer (some a4)]])) R [] (settle u172) H173
| Ending.panicked c => leavesV Tryz.prog Tryz.f25 (Act.tmps (Act.mk #[Value.pointer x0, Value.int IntKind.i64 x1, Value.int IntKind.i64 x2, Value.slice x3a x3n x3c, Value.slice x4a x4n x4c, undef, undef, undef, undef, undef, Value.int IntKind.i64 0, Value.int IntKind.i64 n170, Value.slice p23 r24 r25, Value.bool b26, Value.bool b46, Value.slice none 0 0, Value.slice p167 r168 r169, Value.int IntKind.i64 n170, undef, undef, Value.pointer x0, Value.bool b3, Value.bool !b3, Value.pointer x0, Value.pointer (some a4), Value.pointer (some a4), Value.pointer x0, Value.int IntKind.i64 x1, Value.bool b7, Value.bool !b7, Value.tuple #[Value.slice p23 r24 r25, Value.bool b26], Value.pointer x0, Value.pointer (some a11), Value.pointer (some (Addr.add a11 6)), Value.pointer (some (Addr.add (Addr.add a11 6) 3)), Value.map p13, Value.int IntKind.i64 x1, Value.tuple #[Value.slice p23 r24 r25, Value.bool b26], Value.slice p23 r24 r25, Value.bool b26, v29, v30, v31, v32, v33, v34, v35, v36, v37, v38, v39, v40, v41, v42, v43, v44, v45, Value.bool b46, Value.tuple #[Value.slice p167 r168 r169, Value.int IntKind.i64 n170], Value.pointer x0, Value.int IntKind.i64 x1, Value.tuple #[Value.slice p167 r168 r169, Value.int IntKind.i64 n170], Value.slice p167 r168 r169, Value.int IntKind.i64 n170, Value.int IntKind.i64 n170, Value.bool (n170 != 0), Value.int IntKind.i64 n170, undef, undef, undef, undef, undef, undef, undef, undef, undef, undef, undef, undef, undef, undef, undef, undef, undef, undef, undef, undef, undef, undef, undef, undef, undef, undef, undef, undef, undef, undef, undef, undef, undef, undef, undef, undef, undef, undef, undef, undef, undef, undef, undef, undef, undef, undef] [Deferred.mk (Target.fn (Fn.func 69) #[]) #[Value.pointer (some a4)]])) R [] (raised u172 c) H173
| Ending.outgrown => False)) (k162 (Value.slice p167 r168 r169) H164))))) (fun c174 H175 =>
  HCallsD Tryz.prog 69 #[Value.pointer (some a4)] (FrameMode.panicking c174) H175 (fun e176 u177 H178 =>
  match e176 with
| Ending.returned v => leavesV Tryz.prog Tryz.f25 (Act.tmps (Act.mk #[Value.pointer x0, Value.int IntKind.i64 x1, Value.int IntKind.i64 x2, Value.slice x3a x3n x3c, Value.slice x4a x4n x4c, undef, undef, undef, undef, undef, Value.int IntKind.i64 0, Value.int IntKind.i64 0, Value.slice p23 r24 r25, Value.bool b26, Value.bool b46, Value.slice none 0 0, undef, undef, undef, undef, Value.pointer x0, Value.bool b3, Value.bool !b3, Value.pointer x0, Value.pointer (some a4), Value.pointer (some a4), Value.pointer x0, Value.int IntKind.i64 x1, Value.bool b7, Value.bool !b7, Value.tuple #[Value.slice p23 r24 r25, Value.bool b26], Value.pointer x0, Value.pointer (some a11), Value.pointer (some (Addr.add a11 6)), Value.pointer (some (Addr.add (Addr.add a11 6) 3)), Value.map p13, Value.int IntKind.i64 x1, Value.tuple #[Value.slice p23 r24 r25, Value.bool b26], Value.slice p23 r24 r25, Value.bool b26, v29, v30, v31, v32, v33, v34, v35, v36, v37, v38, v39, v40, v41, v42, v43, v44, v45, Value.bool b46, undef, Value.pointer x0, Value.int IntKind.i64 x1, undef, undef, undef, undef, undef, undef, undef, undef, undef, undef, undef, undef, undef, undef, undef, undef, undef, undef, undef, undef, undef, undef, undef, undef, undef, undef, undef, undef, undef, undef, undef, undef, undef, undef, undef, undef, undef, undef, undef, undef, undef, undef, undef, undef, undef, undef, undef, undef, undef, undef, undef, undef] [Deferred.mk (Target.fn (Fn.func 69) #[]) #[Value.pointer (some a4)]])) R [] (settle u177) H178
| Ending.panicked c => leavesV Tryz.prog Tryz.f25 (Act.tmps (Act.mk #[Value.pointer x0, Value.int IntKind.i64 x1, Value.int IntKind.i64 x2, Value.slice x3a x3n x3c, Value.slice x4a x4n x4c, undef, undef, undef, undef, undef, Value.int IntKind.i64 0, Value.int IntKind.i64 0, Value.slice p23 r24 r25, Value.bool b26, Value.bool b46, Value.slice none 0 0, undef, undef, undef, undef, Value.pointer x0, Value.bool b3, Value.bool !b3, Value.pointer x0, Value.pointer (some a4), Value.pointer (some a4), Value.pointer x0, Value.int IntKind.i64 x1, Value.bool b7, Value.bool !b7, Value.tuple #[Value.slice p23 r24 r25, Value.bool b26], Value.pointer x0, Value.pointer (some a11), Value.pointer (some (Addr.add a11 6)), Value.pointer (some (Addr.add (Addr.add a11 6) 3)), Value.map p13, Value.int IntKind.i64 x1, Value.tuple #[Value.slice p23 r24 r25, Value.bool b26], Value.slice p23 r24 r25, Value.bool b26, v29, v30, v31, v32, v33, v34, v35, v36, v37, v38, v39, v40, v41, v42, v43, v44, v45, Value.bool b46, undef, Value.pointer x0, Value.int IntKind.i64 x1, undef, undef, undef, undef, undef, undef, undef, undef, undef, undef, undef, undef, undef, undef, undef, undef, undef, undef, undef, undef, undef, undef, undef, undef, undef, undef, undef, undef, undef, undef, undef, undef, undef, undef, undef, undef, undef, undef, undef, undef, undef, undef, undef, undef, undef, undef, undef, undef, undef, undef, undef, undef] [Deferred.mk (Target.fn (Fn.func 69) #[]) #[Value.pointer (some a4)]])) R [] (raised u177 c) H178
| Ending.outgrown => False)))) (k162 (Value.slice none 0 0) H28)))) (fun k179 =>
  nz x0 (fun a180 =>
  ld H20 (Addr.add a180 6) (fun v181 =>
  dBl v181 (fun b182 =>
  sB b182 (nz x0 (fun a183 =>
  ld H20 (Addr.add (Addr.add a183 6) 1) (fun v184 =>
  dBl v184 (fun b185 =>
  sB (!b185) (k179 (Value.bool !b26) H20) (k179 (Value.bool false) H20))))) (k179 (Value.bool false) H20))))))))))))))) (fun c186 H187 =>
  HCallsD Tryz.prog 69 #[Value.pointer (some a4)] (FrameMode.panicking c186) H187 (fun e188 u189 H190 =>
  match e188 with
| Ending.returned v => leavesV Tryz.prog Tryz.f25 (Act.tmps (Act.mk #[Value.pointer x0, Value.int IntKind.i64 x1, Value.int IntKind.i64 x2, Value.slice x3a x3n x3c, Value.slice x4a x4n x4c, undef, undef, undef, undef, undef, Value.int IntKind.i64 0, Value.int IntKind.i64 0, undef, undef, undef, undef, undef, undef, undef, undef, Value.pointer x0, Value.bool b3, Value.bool !b3, Value.pointer x0, Value.pointer (some a4), Value.pointer (some a4), Value.pointer x0, Value.int IntKind.i64 x1, undef, undef, undef, undef, undef, undef, undef, undef, undef, undef, undef, undef, undef, undef, undef, undef, undef, undef, undef, undef, undef, undef, undef, undef, undef, undef, undef, undef, undef, undef, undef, undef, undef, undef, undef, undef, undef, undef, undef, undef, undef, undef, undef, undef, undef, undef, undef, undef, undef, undef, undef, undef, undef, undef, undef, undef, undef, undef, undef, undef, undef, undef, undef, undef, undef, undef, undef, undef, undef, undef, undef, undef, undef, undef, undef, undef, undef, undef, undef, undef, undef, undef, undef, undef, undef] [Deferred.mk (Target.fn (Fn.func 69) #[]) #[Value.pointer (some a4)]])) R [] (settle u189) H190
| Ending.panicked c => leavesV Tryz.prog Tryz.f25 (Act.tmps (Act.mk #[Value.pointer x0, Value.int IntKind.i64 x1, Value.int IntKind.i64 x2, Value.slice x3a x3n x3c, Value.slice x4a x4n x4c, undef, undef, undef, undef, undef, Value.int IntKind.i64 0, Value.int IntKind.i64 0, undef, undef, undef, undef, undef, undef, undef, undef, Value.pointer x0, Value.bool b3, Value.bool !b3, Value.pointer x0, Value.pointer (some a4), Value.pointer (some a4), Value.pointer x0, Value.int IntKind.i64 x1, undef, undef, undef, undef, undef, undef, undef, undef, undef, undef, undef, undef, undef, undef, undef, undef, undef, undef, undef, undef, undef, undef, undef, undef, undef, undef, undef, undef, undef, undef, undef, undef, undef, undef, undef, undef, undef, undef, undef, undef, undef, undef, undef, undef, undef, undef, undef, undef, undef, undef, undef, undef, undef, undef, undef, undef, undef, undef, undef, undef, undef, undef, undef, undef, undef, undef, undef, undef, undef, undef, undef, undef, undef, undef, undef, undef, undef, undef, undef, undef, undef, undef, undef, undef, undef] [Deferred.mk (Target.fn (Fn.func 69) #[]) #[Value.pointer (some a4)]])) R [] (raised u189 c) H190
| Ending.outgrown => False))))))) (pnR R))
theorem F25_eq (x0 : Option Addr) (x1 : Int) (x2 : Int) (x3a : Option Addr) (x3n : Nat) (x3c : Nat) (x4a : Option Addr) (x4n : Nat) (x4c : Nat) (R : Ending → Heap → Prop) (H : Heap) : F25 x0 x1 x2 x3a x3n x3c x4a x4n x4c R H = vc Tryz.prog (codeOf Tryz.f25) (.node none .leaf (.node none .leaf (.node none .leaf (.node none .leaf (.node none .leaf (.node (some ⟨[(14, 4)], [40, 41, 42, 43, 44, 45, 46, 47, 48, 49, 50, 51, 52, 53, 54, 55, 56]⟩) .leaf (.node none .leaf (.node (some ⟨[(15, 38)], [10, 11, 16, 17, 57, 58, 59, 60, 61, 62, 63, 64, 65, 66, 67]⟩) .leaf (.node none .leaf (.node none .leaf (.node (some ⟨[], [83, 84, 85, 86, 87, 88, 89, 90, 91, 92, 93, 94, 95, 96, 97, 98, 99, 100, 101, 102, 103, 104, 105, 106, 107, 108, 109, 110, 111]⟩) (.node none (.node (some ⟨[(83, 4)], [84, 85, 86, 87, 88, 89, 90, 91, 92, 93, 94, 95, 96, 97, 98]⟩) .leaf .leaf) .leaf) .leaf))))))))))) (postV Tryz.prog Tryz.f25 R) ⟨#[Value.pointer x0, Value.int IntKind.i64 x1, Value.int IntKind.i64 x2, Value.slice x3a x3n x3c, Value.slice x4a x4n x4c] ++ Array.replicate (Tryz.f25.ntmps - 5) undef, []⟩ H := by kernel_rfl
theorem F25_calls {R : Ending → Heap → Prop} {H : Heap} (x0 : Option Addr) (x1 : Int) (x2 : Int) (x3a : Option Addr) (x3n : Nat) (x3c : Nat) (x4a : Option Addr) (x4n : Nat) (x4c : Nat) (h : F25 x0 x1 x2 x3a x3n x3c x4a x4n x4c R H) : HCalls Tryz.prog 25 #[Value.pointer x0, Value.int IntKind.i64 x1, Value.int IntKind.i64 x2, Value.slice x3a x3n x3c, Value.slice x4a x4n x4c] H R :=
  calls_by (F := F25 x0 x1 x2 x3a x3n x3c x4a x4n x4c R H) (.node none .leaf (.node none .leaf (.node none .leaf (.node none .leaf (.node none .leaf (.node (some ⟨[(14, 4)], [40, 41, 42, 43, 44, 45, 46, 47, 48, 49, 50, 51, 52, 53, 54, 55, 56]⟩) .leaf (.node none .leaf (.node (some ⟨[(15, 38)], [10, 11, 16, 17, 57, 58, 59, 60, 61, 62, 63, 64, 65, 66, 67]⟩) .leaf (.node none .leaf (.node none .leaf (.node (some ⟨[], [83, 84, 85, 86, 87, 88, 89, 90, 91, 92, 93, 94, 95, 96, 97, 98, 99, 100, 101, 102, 103, 104, 105, 106, 107, 108, 109, 110, 111]⟩) (.node none (.node (some ⟨[(83, 4)], [84, 85, 86, 87, 88, 89, 90, 91, 92, 93, 94, 95, 96, 97, 98]⟩) .leaf .leaf) .leaf) .leaf))))))))))) Tryz.func25 rfl (F25_eq x0 x1 x2 x3a x3n x3c x4a x4n x4c R H) h
/-- (*bollard/volume.Volume).Read -/
def F26 (x0 : Option Addr) (x1 : Int) (R : Ending → Heap → Prop) (H : Heap) : Prop :=
  HCalls Tryz.prog 68 #[Value.pointer x0] H (Sp.retK (fun v1 H2 =>
  dBl v1 (fun b3 =>
  sB (!b3) (R (Ending.returned (Value.tuple #[Value.slice none 0 0, Value.int IntKind.i64 2])) H2) (nz x0 (fun a4 =>
  HCalls Tryz.prog 72 #[Value.pointer x0, Value.int IntKind.i64 x1] H2 (Sp.retK (fun v5 H6 =>
  dT 2 v5 (fun v7 v8 =>
  dSl v7 (fun p9 r10 r11 =>
  dInt IntKind.i64 v8 (fun n12 =>
  HCallsD Tryz.prog 69 #[Value.pointer (some a4)] FrameMode.returning H6 (fun e13 u14 H15 =>
  match e13 with
| Ending.returned v => leavesV Tryz.prog Tryz.f26 (Act.tmps (Act.mk #[Value.pointer x0, Value.int IntKind.i64 x1, undef, undef, Value.slice p9 r10 r11, Value.int IntKind.i64 n12, Value.pointer x0, Value.bool b3, Value.bool !b3, Value.pointer x0, Value.pointer (some a4), Value.pointer (some a4), Value.pointer x0, Value.int IntKind.i64 x1, Value.tuple #[Value.slice p9 r10 r11, Value.int IntKind.i64 n12], Value.slice p9 r10 r11, Value.int IntKind.i64 n12] [Deferred.mk (Target.fn (Fn.func 69) #[]) #[Value.pointer (some a4)]])) R [] (settle u14) H15
| Ending.panicked c => leavesV Tryz.prog Tryz.f26 (Act.tmps (Act.mk #[Value.pointer x0, Value.int IntKind.i64 x1, undef, undef, Value.slice p9 r10 r11, Value.int IntKind.i64 n12, Value.pointer x0, Value.bool b3, Value.bool !b3, Value.pointer x0, Value.pointer (some a4), Value.pointer (some a4), Value.pointer x0, Value.int IntKind.i64 x1, Value.tuple #[Value.slice p9 r10 r11, Value.int IntKind.i64 n12], Value.slice p9 r10 r11, Value.int IntKind.i64 n12] [Deferred.mk (Target.fn (Fn.func 69) #[]) #[Value.pointer (some a4)]])) R [] (raised u14 c) H15
| Ending.outgrown => False))))) (fun c16 H17 =>
  HCallsD Tryz.prog 69 #[Value.pointer (some a4)] (FrameMode.panicking c16) H17 (fun e18 u19 H20 =>
  match e18 with
| Ending.returned v => leavesV Tryz.prog Tryz.f26 (Act.tmps (Act.mk #[Value.pointer x0, Value.int IntKind.i64 x1, undef, undef, Value.slice none 0 0, Value.int IntKind.i64 0, Value.pointer x0, Value.bool b3, Value.bool !b3, Value.pointer x0, Value.pointer (some a4), Value.pointer (some a4), Value.pointer x0, Value.int IntKind.i64 x1, undef, undef, undef] [Deferred.mk (Target.fn (Fn.func 69) #[]) #[Value.pointer (some a4)]])) R [] (settle u19) H20
| Ending.panicked c => leavesV Tryz.prog Tryz.f26 (Act.tmps (Act.mk #[Value.pointer x0, Value.int IntKind.i64 x1, undef, undef, Value.slice none 0 0, Value.int IntKind.i64 0, Value.pointer x0, Value.bool b3, Value.bool !b3, Value.pointer x0, Value.pointer (some a4), Value.pointer (some a4), Value.pointer x0, Value.int IntKind.i64 x1, undef, undef, undef] [Deferred.mk (Target.fn (Fn.func 69) #[]) #[Value.pointer (some a4)]])) R [] (raised u19 c) H20
| Ending.outgrown => False))))))) (pnR R))
theorem F26_eq (x0 : Option Addr) (x1 : Int) (R : Ending → Heap → Prop) (H : Heap) : F26 x0 x1 R H = vc Tryz.prog (codeOf Tryz.f26) .leaf (postV Tryz.prog Tryz.f26 R) ⟨#[Value.pointer x0, Value.int IntKind.i64 x1] ++ Array.replicate (Tryz.f26.ntmps - 2) undef, []⟩ H := by kernel_rfl
theorem F26_calls {R : Ending → Heap → Prop} {H : Heap} (x0 : Option Addr) (x1 : Int) (h : F26 x0 x1 R H) : HCalls Tryz.prog 26 #[Value.pointer x0, Value.int IntKind.i64 x1] H R :=
  calls_by (F := F26 x0 x1 R H) .leaf Tryz.func26 rfl (F26_eq x0 x1 R H) h
end Go.Proofs.YtngploohhmfaiaaGreat.E
/- The functions' forms in the engine's words, printed by my own program. -/
namespace Go.Proofs.YtngploohhmfaiaaGreat.E
open Go Go.Proofs
set_option linter.unusedVariables false
/-- bollard/volume.Open -/
def F31 (x0 : Option Addr) (x1 : Int) (R : Ending → Heap → Prop) (H : Heap) : Prop :=
  HCalls Tryz.prog 81 #[Value.pointer x0, Value.int IntKind.i64 x1] H (Sp.retK (fun v1 H2 =>
  dT 2 v1 (fun v3 v4 =>
  dPtr v3 (fun p5 =>
  dInt IntKind.i64 v4 (fun n6 =>
  sB (n6 != 0) (R (Ending.returned (Value.tuple #[Value.pointer none, Value.int IntKind.i64 n6])) H2) (HCalls Tryz.prog 82 #[] H2 (Sp.retK (fun v7 H8 =>
  dPtr v7 (fun p9 =>
  al H8 (Obj.map #[] 0) (fun r10 H11 =>
  al H11 (Obj.cells #[Value.int IntKind.i32 0, Value.int IntKind.u32 0, Value.pointer x0, Value.pointer p5, Value.pointer p9, Value.map (some r10), Value.bool false, Value.bool false, Value.int IntKind.i64 0, Value.map none] 57) (fun r12 H13 =>
  R (Ending.returned (Value.tuple #[Value.pointer (some (Addr.mk r12 0 none)), Value.int IntKind.i64 0])) H13)))) (pnR R))))))) (pnR R))
theorem F31_eq (x0 : Option Addr) (x1 : Int) (R : Ending → Heap → Prop) (H : Heap) : F31 x0 x1 R H = vc Tryz.prog (codeOf Tryz.f31) .leaf (postV Tryz.prog Tryz.f31 R) ⟨#[Value.pointer x0, Value.int IntKind.i64 x1] ++ Array.replicate (Tryz.f31.ntmps - 2) undef, []⟩ H := by kernel_rfl
theorem F31_calls {R : Ending → Heap → Prop} {H : Heap} (x0 : Option Addr) (x1 : Int) (h : F31 x0 x1 R H) : HCalls Tryz.prog 31 #[Value.pointer x0, Value.int IntKind.i64 x1] H R :=
  calls_by (F := F31 x0 x1 R H) .leaf Tryz.func31 rfl (F31_eq x0 x1 R H) h
/-- bytes.Clone -/
def F48 (x0a : Option Addr) (x0n : Nat) (x0c : Nat) (R : Ending → Heap → Prop) (H : Heap) : Prop :=
  sB (Option.isNone x0a) (R (Ending.returned (Value.slice none 0 0)) H) (al H (Obj.cells #[] 5) (fun r1 H2 =>
  semW Tryz.prog (Builtin.append_ #[38, 38] 38 #[Value.slice (some (Addr.mk r1 0 none)) 0 0, Value.slice x0a x0n x0c]) (pnR R) H2 (fun v5 H6 =>
  dSl v5 (fun p7 r8 r9 =>
  R (Ending.returned (Value.slice p7 r8 r9)) H6))))
theorem F48_eq (x0a : Option Addr) (x0n : Nat) (x0c : Nat) (R : Ending → Heap → Prop) (H : Heap) : F48 x0a x0n x0c R H = vc Tryz.prog (codeOf Tryz.f48) .leaf (postV Tryz.prog Tryz.f48 R) ⟨#[Value.slice x0a x0n x0c] ++ Array.replicate (Tryz.f48.ntmps - 1) undef, []⟩ H := by kernel_rfl
theorem F48_calls {R : Ending → Heap → Prop} {H : Heap} (x0a : Option Addr) (x0n : Nat) (x0c : Nat) (h : F48 x0a x0n x0c R H) : HCalls Tryz.prog 48 #[Value.slice x0a x0n x0c] H R :=
  calls_by (F := F48 x0a x0n x0c R H) .leaf Tryz.func48 rfl (F48_eq x0a x0n x0c R H) h
end Go.Proofs.YtngploohhmfaiaaGreat.E
