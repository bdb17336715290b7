/- Rows of records; ranges of marks; what a slice shows, read. -/
import Derived.Test.YtngploohhmfaiaaGreatLib5
namespace Go.Proofs.YtngploohhmfaiaaGreat.E
open Go
set_option linter.unusedVariables false
set_option linter.unusedSimpArgs false
theorem rngn {s : TH} {T : Nat} {L : List Nat} (h : ∀ τ ∈ L, τ < T ∨ T + 10 ≤ τ) : ∀ j, j < s.h.size → T ≤ s.g j → s.g j < T + 10 → ¬ s.g j ∈ L := fun j _ h1 h2 h3 => by have := h _ h3; omega
theorem rngL {s : TH} {T : Nat} {L R : List Nat} (h : ∀ τ ∈ L, τ < T ∨ T + 10 ≤ τ) (hr : ∀ r ∈ R, s.g r < T ∨ T + 10 ≤ s.g r) : ∀ j, j < s.h.size → T ≤ s.g j → s.g j < T + 10 → ¬ (s.g j ∈ L ∨ j ∈ R) := fun j _ h1 h2 h3 => by
  rcases h3 with h3 | h3
  · have := h _ h3; omega
  · have := hr _ h3; omega
theorem rngO {s : TH} {T r : Nat} (h : s.g r < T ∨ T + 10 ≤ s.g r) : ∀ j, j < s.h.size → T ≤ s.g j → s.g j < T + 10 → ¬ j = r := fun j _ h1 h2 h3 => by subst h3; omega
theorem of_rng {s : TH} {T τ : Nat} {B : Nat → Prop} (hn : ∀ j, j < s.h.size → T ≤ s.g j → s.g j < T + 10 → ¬ B j) (h1 : T ≤ τ) (h2 : τ < T + 10) : ∀ j, j < s.h.size → s.g j = τ → ¬ B j := fun j hj e => hn j hj (by omega) (by omega)
/-! rows of k cells -/
section
variable {α : Type} {f : α → List Value} {k : Nat}
theorem fm_len (hf : ∀ x, (f x).length = k) : ∀ l : List α, (l.flatMap f).length = l.length * k
  | [] => by simp
  | x :: l => by simp only [List.flatMap_cons, List.length_append, hf, fm_len hf l, List.length_cons, Nat.add_mul, Nat.one_mul]; omega
theorem fm_get (hf : ∀ x, (f x).length = k) : ∀ (l : List α) (i j : Nat) (x : α), l[i]? = some x → j < k → (l.flatMap f)[i * k + j]? = (f x)[j]?
  | [], i, j, x, h, _ => by simp at h
  | y :: l, 0, j, x, h, hj => by
    simp at h; subst h
    simp only [List.flatMap_cons, Nat.zero_mul, Nat.zero_add]
    rw [List.getElem?_append_left (by rw [hf]; exact hj)]
  | y :: l, i + 1, j, x, h, hj => by
    simp only [List.flatMap_cons, Nat.add_mul, Nat.one_mul]
    rw [List.getElem?_append_right (by rw [hf]; omega), hf, show i * k + k + j - k = i * k + j by omega]
    exact fm_get hf l i j x (by simpa using h) hj
theorem fm_take (hf : ∀ x, (f x).length = k) : ∀ (l : List α) (i : Nat), (l.flatMap f).take (i * k) = (l.take i).flatMap f
  | [], i => by simp
  | x :: l, 0 => by simp
  | x :: l, i + 1 => by
    simp only [List.flatMap_cons, List.take_succ_cons, Nat.add_mul, Nat.one_mul]
    rw [List.take_append, hf, List.take_of_length_le (by rw [hf]; omega), show i * k + k - k = i * k by omega, fm_take hf l i]
theorem fm_drop (hf : ∀ x, (f x).length = k) : ∀ (l : List α) (i : Nat), (l.flatMap f).drop (i * k) = (l.drop i).flatMap f
  | [], i => by simp
  | x :: l, 0 => by simp
  | x :: l, i + 1 => by
    simp only [List.flatMap_cons, List.drop_succ_cons, Nat.add_mul, Nat.one_mul]
    rw [List.drop_append, hf, List.drop_of_length_le (by rw [hf]; omega), show i * k + k - k = i * k by omega, fm_drop hf l i, List.nil_append]
end
/-! reading through a slice -/
section
variable {s : TH} {a : Addr} {l : List Value} {τ : Nat} {v : Value} {k : Value → Prop}
theorem Sl.get (h : Sl s (some a) l τ) {j : Nat} (hv : l[j]? = some v) : cellH s.h (a.add j) = some v := by
  rcases h with rfl | ⟨g, o, h1, h2, h3, h4⟩
  · simp at hv
  · cases h1
    have hadd : (⟨g, o, none⟩ : Addr).add j = ⟨g, o + j, none⟩ := by unfold Addr.add; split <;> simp_all
    rw [hadd]; exact h4 j v hv
theorem ld_sl {j : Nat} (h : Sl s (some a) l τ) (hv : l[j]? = some v) (hk : k v) : ld s.h (a.add j) k := ld_i (h.get hv) hk
theorem add_add {l : List Value} (h : Sl s (some a) l τ) {x y : Nat} (hv : l[x + y]? = some v) : (a.add x).add y = a.add (x + y) := by
  rcases h with rfl | ⟨g, o, h1, h2, h3⟩
  · simp at hv
  · cases h1
    unfold Addr.add
    by_cases hx : x = 0 <;> by_cases hy : y = 0 <;> simp [hx, hy] <;> omega
theorem ld_sl2 {x y : Nat} (h : Sl s (some a) l τ) (hv : l[x + y]? = some v) (hk : k v) : ld s.h ((a.add x).add y) k := by
  rw [add_add h hv]; exact ld_sl h hv hk
theorem Sl.some {a : Option Addr} {l : List Value} (h : Sl s a l τ) (hl : l ≠ []) : ∃ b, a = .some b := by
  rcases h with h | ⟨g, o, h1, h2, h3⟩
  · exact absurd h hl
  · exact ⟨_, h1⟩
end
/-! storing into a slice of its own -/
theorem Own.st {s : TH} {a : Addr} {n c e k : Nat} {xs : List Value} {τ j : Nat} {v : Value} {K : Heap → Prop} (h : Own s (some a) n c e k xs τ) (h1 : oneC v = true) (hj : j < n * k)
    (hk : ∀ s' : TH, Own s' (some a) n c e k (xs.set j v) τ → On a.block s s' → s.h.size = s'.h.size → K s'.h) : st s.h (a.add j) v K := by
  rcases h.2 with ⟨h0, _⟩ | ⟨g, o, L, h2, h3, h4, h5, h6, h7⟩
  · cases h0
  · cases h2
    have hadd : (⟨g, o, none⟩ : Addr).add j = ⟨g, o + j, none⟩ := by unfold Addr.add; split <;> simp_all
    rw [hadd]
    have hck : n * k ≤ c * k := Nat.mul_le_mul_right k h4
    refine st_t h3 h1 (by omega) fun s' b1 b2 b3 => hk s' ⟨by rw [List.length_set]; exact h.1, .inr ⟨g, o, _, rfl, b1, h4, h5, by rw [List.length_set]; exact h6, ?_⟩⟩ b2 b3
    rw [← h7]
    apply List.ext_getElem?
    intro i
    rw [List.getElem?_take, List.getElem?_drop]
    by_cases hi : i < n * k
    · rw [if_pos hi]
      by_cases hij : i = j
      · subst hij
        rw [List.getElem?_set_self (by omega), List.getElem?_set_self (by rw [List.length_take, List.length_drop]; omega)]
      · rw [List.getElem?_set_ne (by omega), List.getElem?_set_ne (by omega), List.getElem?_take, if_pos hi, List.getElem?_drop]
    · rw [if_neg hi, List.getElem?_eq_none]
      rw [List.length_set, List.length_take]; omega
theorem Own.tagOf {s : TH} {a : Addr} {n c e k : Nat} {xs : List Value} {τ : Nat} (h : Own s (some a) n c e k xs τ) : s.g a.block = τ := by
  rcases h.2 with ⟨h0, _⟩ | ⟨g, o, L, h2, h3, _⟩
  · cases h0
  · cases h2; exact h3.tag
theorem slO_zero (a : Option Addr) (k : Nat) (m : Int) : slO a k 0 m = a := by
  cases a with
  | none => rfl
  | some a => simp [slO, slA, Addr.add]
/-- what lies behind a slice's end, up to its capacity, is set to nought -/
theorem clear_t {P : Program} {t ty e : TypeId} {E : List PanicEntry → Heap → Prop} {s : TH} {a : Option Addr} {n m c mc bytes k : Nat} {xs : List Value} {τ : Nat} {z : Value} {K : Value → Heap → Prop}
    (ht : P.underlying t = some (.slice e)) (hi : (P.info? e).map (fun i => (i.zero, i.size, i.bytes)) = some (some z, k, bytes)) (hzs : z.cells.size = k) (hz1 : ∀ u ∈ z.cells.toList, u.oneCell' = true)
    (hO : Own s a n c e k xs τ) (hm : n ≤ m) (hmc : m ≤ c)
    (hk : ∀ s' : TH, Own s' a n c e k xs τ → OnA a s s' → s.h.size = s'.h.size → K (.tuple #[]) s'.h) :
    semW P (Builtin.clear_ #[t] ty #[.slice (slO a k (n : Int) (c : Int)) (m - n) mc]) E s.h K := .mk fun w hw => by
  obtain ⟨i, hi1, hi2, hi3, hi4⟩ := info_of hi
  by_cases h0 : m - n = 0
  · have hr : (Builtin.clear_ #[t] ty #[.slice (slO a k (n : Int) (c : Int)) (m - n) mc]).run P w = .ok (.tuple #[]) w := by
      rw [h0]
      cases slO a k (n : Int) (c : Int) <;> simp [Builtin.clear_, run_under ht]
    rw [hr]
    exact ⟨by rw [hw]; exact hk s hO ⟨Nat.le_refl _, fun _ _ => rfl, fun _ _ _ => rfl⟩ rfl, Like.refl w⟩
  rcases hO.2 with ⟨_, h2, h3⟩ | ⟨g, o, L, rfl, h2, h3, h4, h5, h6⟩
  · omega
  · rw [slA_mk, if_neg (by omega)]
    obtain ⟨d, hd⟩ : ∃ d, m - n = d + 1 := ⟨m - n - 1, by omega⟩
    have hzl : (Builtin.zeroCells z.cells (m - n)).toList.length = (m - n) * k := by simp [size_zeroCells, hzs]
    have hck : n * k + (m - n) * k ≤ c * k := by rw [← Nat.add_mul]; exact Nat.mul_le_mul_right k (by omega)
    have hst := run_storeCells_at P g (o + n * k) e (Builtin.zeroCells z.cells (m - n)).toList 0 L.toArray w (by rw [hw]; exact h2.get) (by rw [hzl]; simp; omega) (by
      intro u hu
      simp only [Builtin.zeroCells, Array.toList_map, List.mem_map, Array.toList_range] at hu
      obtain ⟨j, hj, rfl⟩ := hu
      have hj : j < (m - n) * z.cells.size := by simpa using hj
      have hp : 0 < z.cells.size := by
        rcases Nat.eq_zero_or_pos z.cells.size with h | h
        · rw [h] at hj; omega
        · exact h
      apply hz1
      rw [getElem!_pos z.cells (j % z.cells.size) (Nat.mod_lt _ hp)]
      simp)
    simp only [Nat.add_zero] at hst
    have hr : (Builtin.clear_ #[t] ty #[.slice (some ⟨g, o + n * k, none⟩) (m - n) mc]).run P w = .ok (.tuple #[]) (w.setRow g ((L.toArray.toList.take (o + n * k)) ++ (Builtin.zeroCells z.cells (m - n)).toList ++ L.toArray.toList.drop (o + n * k + (Builtin.zeroCells z.cells (m - n)).toList.length)).toArray) := by
      rw [hd] at hst ⊢
      simp only [Builtin.clear_, Sem.run_bind, run_under ht]
      simp [run_under ht, zeroValue, run_typeInfo hi1, hi2, hst]
    rw [hr]
    simp only [List.toList_toArray, hzl]
    have hset := setRow_heap w g L.toArray (L.take (o + n * k) ++ (Builtin.zeroCells z.cells (m - n)).toList ++ L.drop (o + n * k + (m - n) * k)).toArray e (0, 0) (by rw [hw]; exact h2.get)
    have hK := hk ⟨(w.setRow g (L.take (o + n * k) ++ (Builtin.zeroCells z.cells (m - n)).toList ++ L.drop (o + n * k + (m - n) * k)).toArray).heap, s.g⟩ ⟨hO.1, .inr ⟨g, o, _, rfl, ⟨hset, h2.tag⟩, h3, h4, ?_, ?_⟩⟩ ⟨by simp [← hw], fun _ _ => rfl, fun j hj hn => ?_⟩ (by simp [← hw])
    · exact ⟨hK, rfl, rfl, rfl⟩
    · simp only [List.length_append, List.length_take, List.length_drop, hzl]; omega
    · rw [← h6, List.append_assoc, List.drop_append_of_le_length (by simp; omega), List.drop_take, List.take_append_of_le_length (by simp; omega), List.take_take]
      congr 1; omega
    · show (w.setRow g _).heap[j]? = _
      rw [setRow_other w g j _ (fun e => hn (by simp [e])), hw]
end Go.Proofs.YtngploohhmfaiaaGreat.E
