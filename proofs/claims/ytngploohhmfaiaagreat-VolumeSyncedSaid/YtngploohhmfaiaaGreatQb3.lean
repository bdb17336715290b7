/- My own texts, joined. -/
import Derived.KernelRfl
import Derived.Laws.Externs
import Derived.Lib.MakeNoZero
import Derived.Test.YtngploohhmfaiaaGreatProg
import Derived.Test.YtngploohhmfaiaaGreatQb2
/- Rows of records; ranges of marks; what a slice shows, read. -/
namespace Go.Proofs.YtngploohhmfaiaaGreat.E
open Go
set_option linter.unusedVariables false
set_option linter.unusedSimpArgs false
theorem rngn {s : TH} {T : Nat} {L : List Nat} (h : ∀ τ ∈ L, τ < T ∨ T + 10 ≤ τ) : ∀ j, j < s.h.size → T ≤ s.g j → s.g j < T + 10 → ¬ s.g j ∈ L := fun j _ h1 h2 h3 => by have := h _ h3; omega
theorem rngO {s : TH} {T r : Nat} (h : s.g r < T ∨ T + 10 ≤ s.g r) : ∀ j, j < s.h.size → T ≤ s.g j → s.g j < T + 10 → ¬ j = r := fun j _ h1 h2 h3 => by subst h3; omega
theorem of_rng {s : TH} {T τ : Nat} {B : Nat → Prop} (hn : ∀ j, j < s.h.size → T ≤ s.g j → s.g j < T + 10 → ¬ B j) (h1 : T ≤ τ) (h2 : τ < T + 10) : ∀ j, j < s.h.size → s.g j = τ → ¬ B j := fun j hj e => hn j hj (by omega) (by omega)
/-! rows of k cells -/
section
variable {α : Type} {f : α → List Value} {k : Nat}
theorem fm_get (hf : ∀ x, (f x).length = k) : ∀ (l : List α) (i j : Nat) (x : α), l[i]? = some x → j < k → (l.flatMap f)[i * k + j]? = (f x)[j]?
  | [], i, j, x, h, _ => by simp at h
  | y :: l, 0, j, x, h, hj => by
    simp at h; subst h
    simp only [List.flatMap_cons, Nat.zero_mul, Nat.zero_add]
    rw [List.getElem?_append_left (by rw [hf]; exact hj)]
  | y :: l, i + 1, j, x, h, hj => by
    simp only [List.flatMap_cons, Nat.add_mul, Nat.one_mul]
    rw [List.getElem?_append_right (by rw [hf]; omega), hf, show i * k + k + j - k = i * k + j by omega]
    exact fm_get hf l i j x (by simpa using h) hj
theorem fm_take (hf : ∀ x, (f x).length = k) : ∀ (l : List α) (i : Nat), (l.flatMap f).take (i * k) = (l.take i).flatMap f
  | [], i => by simp
  | x :: l, 0 => by simp
  | x :: l, i + 1 => by
    simp only [List.flatMap_cons, List.take_succ_cons, Nat.add_mul, Nat.one_mul]
    rw [List.take_append, hf, List.take_of_length_le (by rw [hf]; omega), show i * k + k - k = i * k by omega, fm_take hf l i]
theorem fm_drop (hf : ∀ x, (f x).length = k) : ∀ (l : List α) (i : Nat), (l.flatMap f).drop (i * k) = (l.drop i).flatMap f
  | [], i => by simp
  | x :: l, 0 => by simp
  | x :: l, i + 1 => by
    simp only [List.flatMap_cons, List.drop_succ_cons, Nat.add_mul, Nat.one_mul]
    rw [List.drop_append, hf, List.drop_of_length_le (by rw [hf]; omega), show i * k + k - k = i * k by omega, fm_drop hf l i, List.nil_append]
end
/-! reading through a slice -/
section
variable {s : TH} {a : Addr} {l : List Value} {τ : Nat} {v : Value} {k : Value → Prop}
theorem Sl.get (h : Sl s (some a) l τ) {j : Nat} (hv : l[j]? = some v) : cellH s.h (a.add j) = some v := by
  rcases h with rfl | ⟨g, o, h1, h2, h3, h4⟩
  · simp at hv
  · cases h1
    have hadd : (⟨g, o, none⟩ : Addr).add j = ⟨g, o + j, none⟩ := by unfold Addr.add; split <;> simp_all
    rw [hadd]; exact h4 j v hv
theorem ld_sl {j : Nat} (h : Sl s (some a) l τ) (hv : l[j]? = some v) (hk : k v) : ld s.h (a.add j) k := ld_i (h.get hv) hk
theorem add_add {l : List Value} (h : Sl s (some a) l τ) {x y : Nat} (hv : l[x + y]? = some v) : (a.add x).add y = a.add (x + y) := by
  rcases h with rfl | ⟨g, o, h1, h2, h3⟩
  · simp at hv
  · cases h1
    unfold Addr.add
    by_cases hx : x = 0 <;> by_cases hy : y = 0 <;> simp [hx, hy] <;> omega
theorem ld_sl2 {x y : Nat} (h : Sl s (some a) l τ) (hv : l[x + y]? = some v) (hk : k v) : ld s.h ((a.add x).add y) k := by
  rw [add_add h hv]; exact ld_sl h hv hk
theorem Sl.some {a : Option Addr} {l : List Value} (h : Sl s a l τ) (hl : l ≠ []) : ∃ b, a = .some b := by
  rcases h with h | ⟨g, o, h1, h2, h3⟩
  · exact absurd h hl
  · exact ⟨_, h1⟩
end
/-! storing into a slice of its own -/
theorem Own.st {s : TH} {a : Addr} {n c e k : Nat} {xs : List Value} {τ j : Nat} {v : Value} {K : Heap → Prop} (h : Own s (some a) n c e k xs τ) (h1 : oneC v = true) (hj : j < n * k)
    (hk : ∀ s' : TH, Own s' (some a) n c e k (xs.set j v) τ → On a.block s s' → s.h.size = s'.h.size → K s'.h) : st s.h (a.add j) v K := by
  rcases h.2 with ⟨h0, _⟩ | ⟨g, o, L, h2, h3, h4, h5, h6, h7⟩
  · cases h0
  · cases h2
    have hadd : (⟨g, o, none⟩ : Addr).add j = ⟨g, o + j, none⟩ := by unfold Addr.add; split <;> simp_all
    rw [hadd]
    have hck : n * k ≤ c * k := Nat.mul_le_mul_right k h4
    refine st_t h3 h1 (by omega) fun s' b1 b2 b3 => hk s' ⟨by rw [List.length_set]; exact h.1, .inr ⟨g, o, _, rfl, b1, h4, h5, by rw [List.length_set]; exact h6, ?_⟩⟩ b2 b3
    rw [← h7]
    apply List.ext_getElem?
    intro i
    rw [List.getElem?_take, List.getElem?_drop]
    by_cases hi : i < n * k
    · rw [if_pos hi]
      by_cases hij : i = j
      · subst hij
        rw [List.getElem?_set_self (by omega), List.getElem?_set_self (by rw [List.length_take, List.length_drop]; omega)]
      · rw [List.getElem?_set_ne (by omega), List.getElem?_set_ne (by omega), List.getElem?_take, if_pos hi, List.getElem?_drop]
    · rw [if_neg hi, List.getElem?_eq_none]
      rw [List.length_set, List.length_take]; omega
theorem Own.tagOf {s : TH} {a : Addr} {n c e k : Nat} {xs : List Value} {τ : Nat} (h : Own s (some a) n c e k xs τ) : s.g a.block = τ := by
  rcases h.2 with ⟨h0, _⟩ | ⟨g, o, L, h2, h3, _⟩
  · cases h0
  · cases h2; exact h3.tag
theorem slO_zero (a : Option Addr) (k : Nat) (m : Int) : slO a k 0 m = a := by
  cases a with
  | none => rfl
  | some a => simp [slO, slA, Addr.add]
/-- what lies behind a slice's end, up to its capacity, is set to nought -/
theorem clear_t {P : Program} {t ty e : TypeId} {E : List PanicEntry → Heap → Prop} {s : TH} {a : Option Addr} {n m c mc bytes k : Nat} {xs : List Value} {τ : Nat} {z : Value} {K : Value → Heap → Prop}
    (ht : P.underlying t = some (.slice e)) (hi : (P.info? e).map (fun i => (i.zero, i.size, i.bytes)) = some (some z, k, bytes)) (hzs : z.cells.size = k) (hz1 : ∀ u ∈ z.cells.toList, u.oneCell' = true)
    (hO : Own s a n c e k xs τ) (hm : n ≤ m) (hmc : m ≤ c)
    (hk : ∀ s' : TH, Own s' a n c e k xs τ → OnA a s s' → s.h.size = s'.h.size → K (.tuple #[]) s'.h) :
    semW P (Builtin.clear_ #[t] ty #[.slice (slO a k (n : Int) (c : Int)) (m - n) mc]) E s.h K := .mk fun w hw => by
  obtain ⟨i, hi1, hi2, hi3, hi4⟩ := info_of hi
  by_cases h0 : m - n = 0
  · have hr : (Builtin.clear_ #[t] ty #[.slice (slO a k (n : Int) (c : Int)) (m - n) mc]).run P w = .ok (.tuple #[]) w := by
      rw [h0]
      cases slO a k (n : Int) (c : Int) <;> simp [Builtin.clear_, run_under ht]
    rw [hr]
    exact ⟨by rw [hw]; exact hk s hO ⟨Nat.le_refl _, fun _ _ => rfl, fun _ _ _ => rfl⟩ rfl, Like.refl w⟩
  rcases hO.2 with ⟨_, h2, h3⟩ | ⟨g, o, L, rfl, h2, h3, h4, h5, h6⟩
  · omega
  · rw [slA_mk, if_neg (by omega)]
    obtain ⟨d, hd⟩ : ∃ d, m - n = d + 1 := ⟨m - n - 1, by omega⟩
    have hzl : (Builtin.zeroCells z.cells (m - n)).toList.length = (m - n) * k := by simp [size_zeroCells, hzs]
    have hck : n * k + (m - n) * k ≤ c * k := by rw [← Nat.add_mul]; exact Nat.mul_le_mul_right k (by omega)
    have hst := run_storeCells_at P g (o + n * k) e (Builtin.zeroCells z.cells (m - n)).toList 0 L.toArray w (by rw [hw]; exact h2.get) (by rw [hzl]; simp; omega) (by
      intro u hu
      simp only [Builtin.zeroCells, Array.toList_map, List.mem_map, Array.toList_range] at hu
      obtain ⟨j, hj, rfl⟩ := hu
      have hj : j < (m - n) * z.cells.size := by simpa using hj
      have hp : 0 < z.cells.size := by
        rcases Nat.eq_zero_or_pos z.cells.size with h | h
        · rw [h] at hj; omega
        · exact h
      apply hz1
      rw [getElem!_pos z.cells (j % z.cells.size) (Nat.mod_lt _ hp)]
      simp)
    simp only [Nat.add_zero] at hst
    have hr : (Builtin.clear_ #[t] ty #[.slice (some ⟨g, o + n * k, none⟩) (m - n) mc]).run P w = .ok (.tuple #[]) (w.setRow g ((L.toArray.toList.take (o + n * k)) ++ (Builtin.zeroCells z.cells (m - n)).toList ++ L.toArray.toList.drop (o + n * k + (Builtin.zeroCells z.cells (m - n)).toList.length)).toArray) := by
      rw [hd] at hst ⊢
      simp only [Builtin.clear_, Sem.run_bind, run_under ht]
      simp [run_under ht, zeroValue, run_typeInfo hi1, hi2, hst]
    rw [hr]
    simp only [List.toList_toArray, hzl]
    have hset := setRow_heap w g L.toArray (L.take (o + n * k) ++ (Builtin.zeroCells z.cells (m - n)).toList ++ L.drop (o + n * k + (m - n) * k)).toArray e (0, 0) (by rw [hw]; exact h2.get)
    have hK := hk ⟨(w.setRow g (L.take (o + n * k) ++ (Builtin.zeroCells z.cells (m - n)).toList ++ L.drop (o + n * k + (m - n) * k)).toArray).heap, s.g⟩ ⟨hO.1, .inr ⟨g, o, _, rfl, ⟨hset, h2.tag⟩, h3, h4, ?_, ?_⟩⟩ ⟨by simp [← hw], fun _ _ => rfl, fun j hj hn => ?_⟩ (by simp [← hw])
    · exact ⟨hK, rfl, rfl, rfl⟩
    · simp only [List.length_append, List.length_take, List.length_drop, hzl]; omega
    · rw [← h6, List.append_assoc, List.drop_append_of_le_length (by simp; omega), List.drop_take, List.take_append_of_le_length (by simp; omega), List.take_take]
      congr 1; omega
    · show (w.setRow g _).heap[j]? = _
      rw [setRow_other w g j _ (fun e => hn (by simp [e])), hw]
end Go.Proofs.YtngploohhmfaiaaGreat.E
/- copy; entries without a text: bytealg.MakeNoZero; min. -/
namespace Go.Proofs.YtngploohhmfaiaaGreat.E
open Go
set_option linter.unusedVariables false
set_option linter.unusedSimpArgs false
theorem copy_t {P : Program} {t t2 ty e : TypeId} {E : List PanicEntry → Heap → Prop} {s : TH} {g o n dc m mc bytes k : Nat} {xa : Option Addr} {L src : List Value} {τ τ' : Nat} {z : Value} {K : Value → Heap → Prop}
    (ht : P.underlying t = some (.slice e)) (hi : (P.info? e).map (fun i => (i.zero, i.size, i.bytes)) = some (some z, k, bytes))
    (hB : Blk s g L e τ) (hx : Sl s xa src τ') (hl : src.length = m * k) (h1 : ∀ u ∈ src, u.oneCell' = true) (hxa : xa = none → m = 0) (hfit : o + min m n * k ≤ L.length)
    (hk : ∀ s' : TH, Blk s' g (L.take o ++ src.take (min m n * k) ++ L.drop (o + min m n * k)) e τ → On g s s' → s.h.size = s'.h.size → K (.int .i64 ((min m n : Nat) : Int)) s'.h) :
    semW P (Builtin.copy_ #[t, t2] ty #[.slice (some ⟨g, o, none⟩) n dc, .slice xa m mc]) E s.h K := .mk fun w hw => by
  obtain ⟨i, hi1, hi2, hi3, hi4⟩ := info_of hi
  subst hi3
  have hn : (src.take (min m n * i.size)).length = min m n * i.size := by
    rw [List.length_take, hl]
    have := Nat.mul_le_mul_right i.size (Nat.min_le_left m n)
    omega
  have hf : (Builtin.firstCells i.size (min m n) (.slice xa m mc)).run P w = .ok (src.take (min m n * i.size)).toArray w := by
    cases xa with
    | none =>
      obtain rfl := hxa rfl
      rw [run_firstCells_none]
      simp
    | some b =>
      refine run_firstCells_some (P := P) w i.size (min m n) b m mc _ hn fun j u hu => hx.cells w hw j u ?_
      rw [List.getElem?_take] at hu
      split at hu
      · exact hu
      · cases hu
  have hst := run_storeCells_at P g o e (src.take (min m n * i.size)) 0 L.toArray w (by rw [hw]; exact hB.get) (by rw [hn]; simpa using hfit) (fun u hu => h1 u (List.mem_of_mem_take hu))
  simp only [Nat.add_zero, hn, List.toList_toArray] at hst
  have hr : (Builtin.copy_ #[t, t2] ty #[.slice (some ⟨g, o, none⟩) n dc, .slice xa m mc]).run P w = .ok (.int .i64 ((min m n : Nat) : Int)) (w.setRow g (L.take o ++ src.take (min m n * i.size) ++ L.drop (o + min m n * i.size)).toArray) := by
    simp only [Nat.min_def] at hf hst ⊢
    simp [Builtin.copy_, run_underlying ht, sizeOf, typeInfo, hi1, Builtin.lenOf, hf, hst, goInt, Nat.min_def]
  rw [hr]
  have hset := setRow_heap w g L.toArray (L.take o ++ src.take (min m n * i.size) ++ L.drop (o + min m n * i.size)).toArray e (0, 0) (by rw [hw]; exact hB.get)
  have hK := hk ⟨(w.setRow g (L.take o ++ src.take (min m n * i.size) ++ L.drop (o + min m n * i.size)).toArray).heap, s.g⟩ ⟨hset, hB.tag⟩ ⟨by simp [← hw], fun _ _ => rfl, fun j hj hne => ?_⟩ (by simp [← hw])
  · exact ⟨hK, rfl, rfl, rfl⟩
  · show (w.setRow g _).heap[j]? = _
    rw [setRow_other w g j _ hne, hw]
theorem mnz_t (τ : Nat) {P : Program} {f : FuncId} {fn : Func} {ps : Array TypeId} {t e : TypeId} {E : List PanicEntry → Heap → Prop} {s : TH} {K : Value → Heap → Prop} (n : Nat)
    (hf : P.funcs[f]? = some fn) (hname : (fn.name == "runtime.NumGoroutine") = false) (hb : fn.body.isNone = true) (hnx : Extern.findNext fn = none) (he : Extern.find fn = some (Extern.BytealgMakeNoZero.makeNoZero ps #[t]))
    (ht : P.underlying t = some (.slice e)) (hn : n ≤ 281474976710656)
    (hk : ∀ (s' : TH) (r : Nat) (cs : List Value), r = s.h.size → Blk s' r cs e τ → Ch [] s s' → n ≤ cs.length → K (.slice (some ⟨r, 0, none⟩) n cs.length) s'.h) :
    semW P (entS f #[.int .i64 (n : Int)]) E s.h K := .mk fun w hw => by
  obtain ⟨cs, hr, h1, h2⟩ := Lib.run_makeNoZero (P := P) w ps t e ht n hn
  have hr2 : (entS f #[.int .i64 (n : Int)]).run P w = .ok (.slice (some ⟨w.heap.size, 0, none⟩) n cs.size) (w.drew.drew.alloc (.cells cs e)) := by
    unfold entS
    rw [Sem.run_bind, run_callFunc_extern hf hname hb hnx he, hr]
    rfl
  rw [hr2]
  refine ⟨?_, rfl, rfl, rfl⟩
  have := hk ⟨s.h.push (.cells cs e), upd s.g s.h.size τ⟩ s.h.size cs.toList rfl ⟨by simp, by simp [upd]⟩ (pushed _ _ _) (by simpa using h1)
  rw [hw]
  show K _ (w.heap.push _)
  rw [hw]
  simpa using this
theorem rep_grow {α : Type} {L : List α} {v : α} {k c : Nat} (h : L.take k = List.replicate k v) (hc : c ≤ k) (D : List α) : (L.take k ++ (L.take k).take (c * 1) ++ D).take (k + c) = List.replicate (k + c) v := by
  rw [h, Nat.mul_one, List.take_replicate, Nat.min_eq_left hc, List.replicate_append_replicate, List.take_left' (by simp)]
theorem min_i {P : Program} {ats : Array TypeId} {ty : TypeId} {E : List PanicEntry → Heap → Prop} {H : Heap} {K : Value → Heap → Prop} {a b : Int} (hk : K (.int .i64 (min a b)) H) :
    semW P (Builtin.min_ ats ty #[.int .i64 a, .int .i64 b]) E H K := .mk fun w hw => by
  have hr : (Builtin.min_ ats ty #[.int .i64 a, .int .i64 b]).run P w = .ok (.int .i64 (min a b)) w := by
    have he : (if b < a then b else a) = min a b := by split <;> omega
    simp [Builtin.min_, Builtin.min2, he]
  rw [hr]
  exact ⟨by rw [hw]; exact hk, Like.refl w⟩
theorem wrap_u64 (x : Int) : IntKind.u64.wrap x = x % 18446744073709551616 := rfl
def ivs (l : List Int) : List Value := l.map (Value.int .i64)
theorem ivs_len (l : List Int) : (ivs l).length = l.length := by simp [ivs]
theorem ivs_one (l : List Int) : ∀ u ∈ ivs l, u.oneCell' = true := by intro u hu; simp [ivs] at hu; obtain ⟨b, _, rfl⟩ := hu; rfl
theorem ivs_get {l : List Int} {k : Nat} {x : Int} (h : l[k]? = some x) : (ivs l)[k]? = some (.int .i64 x) := by simp [ivs, h]
theorem ivs_take (l : List Int) (n : Nat) : (ivs l).take n = ivs (l.take n) := by simp [ivs]
theorem ivs_drop (l : List Int) (n : Nat) : (ivs l).drop n = ivs (l.drop n) := by simp [ivs]
theorem ivs_app (l m : List Int) : ivs (l ++ m) = ivs l ++ ivs m := by simp [ivs]
theorem Own.ne_none {s : TH} {a : Option Addr} {n c e k : Nat} {xs : List Value} {τ : Nat} (h : Own s a n c e k xs τ) (hn : 0 < n) : ∃ b, a = some b := by
  cases a with
  | none => have := h.none_iff rfl; omega
  | some b => exact ⟨b, rfl⟩
theorem Sl.ne_none {s : TH} {a : Option Addr} {xs : List Value} {τ : Nat} (h : Sl s a xs τ) (hn : 0 < xs.length) : ∃ b, a = .some b := h.some (fun e => by rw [e] at hn; cases hn)
end Go.Proofs.YtngploohhmfaiaaGreat.E
/- Contracts of functions. -/
namespace Go.Proofs.YtngploohhmfaiaaGreat.E
open Go Go.Proofs
set_option linter.unusedVariables false
theorem u99 : Tryz.prog.underlying 99 = some (.map 3 4) := by kernel_rfl
theorem u131 : Tryz.prog.underlying 131 = some (.map 3 3) := by kernel_rfl
theorem u189 : Tryz.prog.underlying 189 = some (.map 3 23) := by kernel_rfl
theorem u201 : Tryz.prog.underlying 201 = some (.map 3 254) := by kernel_rfl
theorem z3 (w : World) : (zeroValue 3).run Tryz.prog w = .ok (.int .i64 0) w := by kernel_rfl
theorem z4 (w : World) : (zeroValue 4).run Tryz.prog w = .ok (.bool false) w := by kernel_rfl
theorem z5 (w : World) : (zeroValue 5).run Tryz.prog w = .ok (.int .u8 0) w := by kernel_rfl
theorem u3 : Tryz.prog.underlying 3 = some (.int .i64) := by kernel_rfl
theorem u5 : Tryz.prog.underlying 5 = some (.int .u8) := by kernel_rfl
theorem z22 (w : World) : (zeroValue 22).run Tryz.prog w = .ok (.pointer none) w := by kernel_rfl
theorem u38 : Tryz.prog.underlying 38 = some (.slice 5) := by kernel_rfl
theorem z38 (w : World) : (zeroValue 38).run Tryz.prog w = .ok (.slice none 0 0) w := by kernel_rfl
theorem u42 : Tryz.prog.underlying 42 = some (.slice 38) := by kernel_rfl
theorem z50 (w : World) : (zeroValue 50).run Tryz.prog w = .ok (.pointer none) w := by kernel_rfl
theorem z51 (w : World) : (zeroValue 51).run Tryz.prog w = .ok (.pointer none) w := by kernel_rfl
theorem u73 : Tryz.prog.underlying 73 = some (.slice 3) := by kernel_rfl
theorem u93 : Tryz.prog.underlying 93 = some (.slice 96) := by kernel_rfl
theorem u110 : Tryz.prog.underlying 110 = some (.slice 125) := by kernel_rfl
theorem z218 (w : World) : (zeroValue 218).run Tryz.prog w = .ok (.pointer none) w := by kernel_rfl
theorem z254 (w : World) : (zeroValue 254).run Tryz.prog w = .ok (.pointer none) w := by kernel_rfl
theorem in5 : (Tryz.prog.info? 5).map (fun i => (i.zero, i.size, i.bytes)) = some (some (.int .u8 0), 1, 1) := by kernel_rfl
theorem in3 : (Tryz.prog.info? 3).map (fun i => (i.zero, i.size, i.bytes)) = some (some (.int .i64 0), 1, 8) := by kernel_rfl
theorem in38 : (Tryz.prog.info? 38).map (fun i => (i.zero, i.size, i.bytes)) = some (some (.slice none 0 0), 1, 24) := by kernel_rfl
theorem in96 : (Tryz.prog.info? 96).map (fun i => (i.zero, i.size, i.bytes)) = some (some (.agg #[.int .i64 0, .int .i64 0, .slice none 0 0]), 3, 40) := by kernel_rfl
theorem keyI : KeyOk Tryz.prog 3 (Value.int .i64) := keyInt u3
end Go.Proofs.YtngploohhmfaiaaGreat.E
/- Contracts of functions. -/
namespace Go.Proofs.YtngploohhmfaiaaGreat.E
open Go Go.Proofs
set_option linter.unusedVariables false
/-- a write on its way -/
structure SentM where
  id : Int
  blk : Int
  by_ : List UInt8
/-- what a disk is -/
structure DiskM where
  blocks : List (List UInt8)
  queue : List SentM
  fails : Int → Int
  last : Int
def DiskM.has (D : DiskM) (b : Int) : Prop := 0 ≤ b ∧ b < D.blocks.length
instance (D : DiskM) (b : Int) : Decidable (D.has b) := by unfold DiskM.has; infer_instance
/-- a slice's value: address, length, capacity -/
abbrev Hd := Option Addr × Nat
def hv (n : Nat) (p : Hd) : Value := .slice p.1 n p.2
def hd1 (p : Hd) : List Value := [.slice p.1 128 p.2]
def qv (q : Int × Int × Hd) : List Value := [.int .i64 q.1, .int .i64 q.2.1, .slice q.2.2.1 128 q.2.2.2]
theorem hd1_len (p : Hd) : (hd1 p).length = 1 := rfl
theorem qv_len (q : Int × Int × Hd) : (qv q).length = 3 := rfl
/-- so many bytes lie behind a slice's value -/
structure ByAt (s : TH) (τ : Nat) (p : Hd) (b : List UInt8) : Prop where
  sl : Sl s p.1 (bvs b) τ
  len : b.length = 128
theorem ByAt.mv {s s' : TH} {τ : Nat} {p : Hd} {b : List UInt8} {C : Nat → Prop} (h : ByAt s τ p b) (c : Chg C s s') (hn : ∀ j, j < s.h.size → s.g j = τ → ¬ C j) : ByAt s' τ p b := ⟨h.sl.mv c hn, h.len⟩
theorem ByAt.ne {s : TH} {τ : Nat} {p : Hd} {b : List UInt8} (h : ByAt s τ p b) : ∃ a, p.1 = some a := h.sl.some fun e => by have := congrArg List.length e; rw [bvs_len, h.len] at this; cases this
/-- rows of bytes -/
structure BRel (s : TH) (τ : Nat) (hs : List Hd) (bs : List (List UInt8)) : Prop where
  len : hs.length = bs.length
  at_ : ∀ (i : Nat) (p : Hd) (b : List UInt8), hs[i]? = some p → bs[i]? = some b → ByAt s τ p b
structure QRel (s : TH) (τ : Nat) (qs : List (Int × Int × Hd)) (q : List SentM) : Prop where
  len : qs.length = q.length
  at_ : ∀ (i : Nat) (x : Int × Int × Hd) (m : SentM), qs[i]? = some x → q[i]? = some m → x.1 = m.id ∧ x.2.1 = m.blk ∧ ByAt s τ x.2.2 m.by_
theorem BRel.mv {s s' : TH} {τ : Nat} {hs : List Hd} {bs : List (List UInt8)} {C : Nat → Prop} (h : BRel s τ hs bs) (c : Chg C s s') (hn : ∀ j, j < s.h.size → s.g j = τ → ¬ C j) : BRel s' τ hs bs := ⟨h.len, fun i p b h1 h2 => (h.at_ i p b h1 h2).mv c hn⟩
theorem QRel.mv {s s' : TH} {τ : Nat} {hs : List (Int × Int × Hd)} {bs : List SentM} {C : Nat → Prop} (h : QRel s τ hs bs) (c : Chg C s s') (hn : ∀ j, j < s.h.size → s.g j = τ → ¬ C j) : QRel s' τ hs bs := ⟨h.len, fun i p b h1 h2 => ⟨(h.at_ i p b h1 h2).1, (h.at_ i p b h1 h2).2.1, (h.at_ i p b h1 h2).2.2.mv c hn⟩⟩
theorem qcell0 {qs : List (Int × Int × Hd)} {m : Nat} {x : Int × Int × Hd} (h : qs[m]? = some x) : (qs.flatMap qv)[m * 3]? = some (.int .i64 x.1) := fm_get qv_len qs m 0 x h (by omega)
theorem qcell1 {qs : List (Int × Int × Hd)} {m : Nat} {x : Int × Int × Hd} (h : qs[m]? = some x) : (qs.flatMap qv)[m * 3 + 1]? = some (.int .i64 x.2.1) := fm_get qv_len qs m 1 x h (by omega)
theorem qcell2 {qs : List (Int × Int × Hd)} {m : Nat} {x : Int × Int × Hd} (h : qs[m]? = some x) : (qs.flatMap qv)[m * 3 + 2]? = some (.slice x.2.2.1 128 x.2.2.2) := fm_get qv_len qs m 2 x h (by omega)
theorem bcell {hs : List Hd} {m : Nat} {x : Hd} (h : hs[m]? = some x) : (hs.flatMap hd1)[m]? = some (.slice x.1 128 x.2) := by
  have := fm_get hd1_len hs m 0 x h (by omega); simpa [hd1] using this
def ixr {α : Type} (p : α → Bool) : List α → Nat → Int
  | [], _ => -1
  | x :: l, i => if p x = true then (i : Int) else ixr p l (i + 1)
def ixf {α : Type} (p : α → Bool) (l : List α) : Int := ixr p l 0
theorem ixr_some {α : Type} {p : α → Bool} : ∀ (l : List α) (i k : Nat) (x : α), l[k]? = some x → p x = true → (∀ (j : Nat) (y : α), j < k → l[j]? = some y → p y = false) → ixr p l i = ((i + k : Nat) : Int)
  | [], i, k, x, h, _, _ => by simp at h
  | y :: l, i, 0, x, h, hp, _ => by simp at h; subst h; simp [ixr, hp]
  | y :: l, i, k + 1, x, h, hp, ha => by
    have := ha 0 y (by omega) (by simp)
    rw [ixr, if_neg (by simp [this]), ixr_some l (i + 1) k x (by simpa using h) hp (fun j z hj hz => ha (j + 1) z (by omega) (by simpa using hz))]
    omega
theorem ixr_none {α : Type} {p : α → Bool} : ∀ (l : List α) (i : Nat), (∀ (j : Nat) (y : α), j < l.length → l[j]? = some y → p y = false) → ixr p l i = -1
  | [], i, _ => rfl
  | y :: l, i, ha => by
    have := ha 0 y (by simp) (by simp)
    rw [ixr, if_neg (by simp [this])]
    exact ixr_none l (i + 1) fun j z hj hz => ha (j + 1) z (by simpa using hj) (by simpa using hz)
theorem ixf_some {α : Type} {p : α → Bool} {l : List α} {k : Nat} {x : α} (h : l[k]? = some x) (hp : p x = true) (ha : ∀ (j : Nat) (y : α), j < k → l[j]? = some y → p y = false) : ixf p l = (k : Int) := by
  have := ixr_some l 0 k x h hp ha; simpa [ixf] using this
theorem ixf_none {α : Type} {p : α → Bool} {l : List α} (ha : ∀ (j : Nat) (y : α), j < l.length → l[j]? = some y → p y = false) : ixf p l = -1 := ixr_none l 0 ha
theorem ixf_cases {α : Type} (p : α → Bool) : ∀ (l : List α), (ixf p l = -1 ∧ ∀ x ∈ l, p x = false) ∨ ∃ (k : Nat) (x : α), ixf p l = k ∧ l[k]? = some x ∧ p x = true := by
  intro l
  by_cases h : ∀ x ∈ l, p x = false
  · left; exact ⟨ixf_none fun j y hj hy => h y (List.mem_of_getElem? hy), h⟩
  · right
    have : ∃ k x, l[k]? = some x ∧ p x = true ∧ ∀ (j : Nat) (y : α), j < k → l[j]? = some y → p y = false := by
      induction l with
      | nil => simp at h
      | cons y l ih =>
        by_cases hy : p y = true
        · exact ⟨0, y, by simp, hy, fun j z hj => by omega⟩
        · obtain ⟨k, x, h1, h2, h3⟩ := ih (by intro h'; apply h; intro x hx; rcases List.mem_cons.1 hx with rfl | hx <;> first | exact h' _ hx | simpa using hy)
          refine ⟨k + 1, x, by simpa using h1, h2, fun j z hj hz => ?_⟩
          cases j with
          | zero => simp at hz; subst hz; simpa using hy
          | succ j => exact h3 j z (by omega) (by simpa using hz)
    obtain ⟨k, x, h1, h2, h3⟩ := this
    exact ⟨k, x, ixf_some h1 h2 h3, h1, h2⟩
theorem ixr_rel {s : TH} {τ : Nat} (p : Int × Int × Hd → Bool) (q : SentM → Bool) (hpq : ∀ x m, x.1 = m.id → x.2.1 = m.blk → p x = q m) : ∀ (qs : List (Int × Int × Hd)) (l : List SentM) (i : Nat), QRel s τ qs l → ixr p qs i = ixr q l i
  | [], [], i, _ => rfl
  | [], _ :: _, i, h => by have := h.len; simp at this
  | _ :: _, [], i, h => by have := h.len; simp at this
  | x :: qs, m :: l, i, h => by
    have h0 := h.at_ 0 x m (by simp) (by simp)
    rw [ixr, ixr, hpq x m h0.1 h0.2.1, ixr_rel p q hpq qs l (i + 1) ⟨by have := h.len; simpa using this, fun j y n hy hn => h.at_ (j + 1) y n (by simpa using hy) (by simpa using hn)⟩]
theorem ixf_qrel {s : TH} {τ : Nat} {qs : List (Int × Int × Hd)} {l : List SentM} (h : QRel s τ qs l) (p : Int × Int × Hd → Bool) (q : SentM → Bool) (hpq : ∀ x m, x.1 = m.id → x.2.1 = m.blk → p x = q m) : ixf p qs = ixf q l := ixr_rel p q hpq qs l 0 h
def DiskM.write (D : DiskM) (b : Int) (x : List UInt8) : DiskM × Int × Int :=
  if ¬ D.has b then (D, 0, 1)
  else if x.length ≠ 128 then (D, 0, 1)
  else if ixf (fun m : SentM => m.blk == b) D.queue ≥ 0 then (D, 0, 21)
  else if 64 ≤ D.queue.length then (D, 0, 3)
  else ({ D with queue := D.queue ++ [⟨D.last + 1, b, x⟩], last := D.last + 1 }, D.last + 1, 0)
theorem write_1 {D : DiskM} {b : Int} {x : List UInt8} (h : ¬ D.has b ∨ x.length ≠ 128) : D.write b x = (D, 0, 1) := by
  unfold DiskM.write
  by_cases h1 : D.has b
  · rw [if_neg (by simpa using h1), if_pos (h.resolve_left (by simpa using h1))]
  · rw [if_pos h1]
theorem write_2 {D : DiskM} {b : Int} {x : List UInt8} (h : D.has b) (h2 : x.length = 128) (h3 : ixf (fun m : SentM => m.blk == b) D.queue ≥ 0) : D.write b x = (D, 0, 21) := by
  unfold DiskM.write; rw [if_neg (by simpa using h), if_neg (by simpa using h2), if_pos h3]
theorem write_3 {D : DiskM} {b : Int} {x : List UInt8} (h : D.has b) (h2 : x.length = 128) (h3 : ¬ ixf (fun m : SentM => m.blk == b) D.queue ≥ 0) (h4 : 64 ≤ D.queue.length) : D.write b x = (D, 0, 3) := by
  unfold DiskM.write; rw [if_neg (by simpa using h), if_neg (by simpa using h2), if_neg h3, if_pos h4]
theorem write_4 {D : DiskM} {b : Int} {x : List UInt8} (h : D.has b) (h2 : x.length = 128) (h3 : ¬ ixf (fun m : SentM => m.blk == b) D.queue ≥ 0) (h4 : ¬ 64 ≤ D.queue.length) : D.write b x = ({ D with queue := D.queue ++ [⟨D.last + 1, b, x⟩], last := D.last + 1 }, D.last + 1, 0) := by
  unfold DiskM.write; rw [if_neg (by simpa using h), if_neg (by simpa using h2), if_neg h3, if_neg h4]
theorem one_fm (qs : List (Int × Int × Hd)) (i : Nat) : ∀ u ∈ (qs.flatMap qv).drop i, u.oneCell' = true := by
  intro u hu
  have := List.mem_of_mem_drop hu
  simp only [List.mem_flatMap, qv] at this
  obtain ⟨q, _, hq⟩ := this
  simp at hq
  rcases hq with rfl | rfl | rfl <;> rfl
def DiskM.complete (D : DiskM) (id : Int) (ok : Bool) : DiskM × Int :=
  match D.queue[(ixf (fun m : SentM => m.id == id) D.queue).toNat]? with
  | none => (D, 20)
  | some m => if ixf (fun m : SentM => m.id == id) D.queue < 0 then (D, 20)
    else if ok = false then ({ D with queue := D.queue.eraseIdx (ixf (fun m : SentM => m.id == id) D.queue).toNat }, 4)
    else ({ D with queue := D.queue.eraseIdx (ixf (fun m : SentM => m.id == id) D.queue).toNat, blocks := D.blocks.set m.blk.toNat m.by_ }, 0)
theorem compl_1 {D : DiskM} {id : Int} {ok : Bool} (h : ixf (fun m : SentM => m.id == id) D.queue < 0) : D.complete id ok = (D, 20) := by
  unfold DiskM.complete; split
  · rfl
  · rw [if_pos h]
theorem compl_2 {D : DiskM} {id : Int} {i : Nat} {m : SentM} (h : ixf (fun m : SentM => m.id == id) D.queue = i) (hm : D.queue[i]? = some m) : D.complete id false = ({ D with queue := D.queue.eraseIdx i }, 4) := by
  unfold DiskM.complete; rw [h, Int.toNat_natCast, hm]; simp only; rw [if_neg (by omega)]; simp
theorem compl_3 {D : DiskM} {id : Int} {i : Nat} {m : SentM} (h : ixf (fun m : SentM => m.id == id) D.queue = i) (hm : D.queue[i]? = some m) : D.complete id true = ({ D with queue := D.queue.eraseIdx i, blocks := D.blocks.set m.blk.toNat m.by_ }, 0) := by
  unfold DiskM.complete; rw [h, Int.toNat_natCast, hm]; simp only; rw [if_neg (by omega), if_neg (by simp)]
theorem fm_set1 (hs : List Hd) (j : Nat) (p : Hd) : (hs.flatMap hd1).set j (.slice p.1 128 p.2) = (hs.set j p).flatMap hd1 := by
  have e : ∀ l : List Hd, l.flatMap hd1 = l.map fun p => .slice p.1 128 p.2 := fun l => by induction l with | nil => rfl | cons x l ih => simp [hd1, ih]
  rw [e, e, List.map_set]
theorem BRel.set {s : TH} {τ : Nat} {hs : List Hd} {bs : List (List UInt8)} (h : BRel s τ hs bs) (j : Nat) {p : Hd} {b : List UInt8} (hp : ByAt s τ p b) : BRel s τ (hs.set j p) (bs.set j b) := by
  refine ⟨by simp [h.len], fun i x y hx hy => ?_⟩
  rw [List.getElem?_set] at hx hy
  by_cases hij : j = i
  · subst hij
    rw [if_pos rfl] at hx hy
    split at hx
    · split at hy
      · cases hx; cases hy; exact hp
      · cases hy
    · cases hx
  · rw [if_neg hij] at hx hy; exact h.at_ i x y hx hy
theorem fm_erase {α : Type} {f : α → List Value} {k : Nat} (hf : ∀ x, (f x).length = k) (l : List α) (i : Nat) : (l.flatMap f).take (i * k) ++ (l.flatMap f).drop ((i + 1) * k) = (l.eraseIdx i).flatMap f := by
  rw [fm_take hf, fm_drop hf, ← List.flatMap_append, List.eraseIdx_eq_take_drop_succ]
theorem QRel.erase {s : TH} {τ : Nat} {qs : List (Int × Int × Hd)} {q : List SentM} (h : QRel s τ qs q) (i : Nat) : QRel s τ (qs.eraseIdx i) (q.eraseIdx i) := by
  refine ⟨by simp [List.length_eraseIdx, h.len], fun j y n hy hn => ?_⟩
  rw [List.getElem?_eraseIdx] at hy hn
  split at hy
  · rename_i hj; rw [if_pos hj] at hn; exact h.at_ j y n hy hn
  · rename_i hj; rw [if_neg hj] at hn; exact h.at_ (j + 1) y n hy hn
theorem QRel.snoc {s : TH} {τ : Nat} {qs : List (Int × Int × Hd)} {q : List SentM} (h : QRel s τ qs q) {x : Int × Int × Hd} {m : SentM} (hx : x.1 = m.id ∧ x.2.1 = m.blk ∧ ByAt s τ x.2.2 m.by_) : QRel s τ (qs ++ [x]) (q ++ [m]) := by
  refine ⟨by simp [h.len], fun i y n hy hn => ?_⟩
  by_cases hi : i < q.length
  · rw [List.getElem?_append_left (by rw [h.len]; exact hi)] at hy
    rw [List.getElem?_append_left hi] at hn
    exact h.at_ i y n hy hn
  · rw [List.getElem?_append_right (by rw [h.len]; omega)] at hy
    rw [List.getElem?_append_right (by omega)] at hn
    rw [h.len] at hy
    cases hd : i - q.length with
    | zero => rw [hd] at hy hn; simp at hy hn; subst hy hn; exact hx
    | succ k => rw [hd] at hy; simp at hy
/-- of a block how many of its reads fail -/
def FailsOk (fm : List (Int × Value)) (f : Int → Int) : Prop := ∀ b, (mget b fm).getD (.int .i64 0) = .int .i64 (f b)
/-- a disk of the program in memory, its parts -/
structure DiskP (s : TH) (d T : Nat) (D : DiskM) (pa : Option Addr) (pc : Nat) (qa : Option Addr) (qc : Nat) (hs : List Hd) (qs : List (Int × Int × Hd)) (fr : Nat) (fm : List (Int × Value)) : Prop where
  blk : Blk s d [.slice pa D.blocks.length pc, .slice qa D.queue.length qc, .map (some fr), .int .i64 D.last] 133 T
  rows : Own s pa D.blocks.length pc 38 1 (hs.flatMap hd1) (T + 1)
  brel : BRel s (T + 3) hs D.blocks
  que : Own s qa D.queue.length qc 96 3 (qs.flatMap qv) (T + 2)
  qrel : QRel s (T + 3) qs D.queue
  fails : MapK (Value.int .i64) s fr fm (T + 4)
  fok : FailsOk fm D.fails
  nb : 1 ≤ D.blocks.length ∧ D.blocks.length ≤ 2048
  nq : D.queue.length ≤ 64
  qin : ∀ m ∈ D.queue, 0 ≤ m.blk ∧ m.blk < D.blocks.length
def Disk (s : TH) (d T : Nat) (D : DiskM) : Prop := ∃ pa pc qa qc hs qs fr fm, DiskP s d T D pa pc qa qc hs qs fr fm
theorem DiskP.mv {s s' : TH} {d T : Nat} {D : DiskM} {pa : Option Addr} {pc : Nat} {qa : Option Addr} {qc : Nat} {hs : List Hd} {qs : List (Int × Int × Hd)} {fr : Nat} {fm : List (Int × Value)} {C : Nat → Prop}
    (h : DiskP s d T D pa pc qa qc hs qs fr fm) (c : Chg C s s') (hn : ∀ j, j < s.h.size → T ≤ s.g j → s.g j < T + 10 → ¬ C j) : DiskP s' d T D pa pc qa qc hs qs fr fm :=
  ⟨h.blk.mv c (of_rng hn (Nat.le_refl _) (by omega) d h.blk.lt h.blk.tag), h.rows.mv c (of_rng hn (by omega) (by omega)), h.brel.mv c (of_rng hn (by omega) (by omega)), h.que.mv c (of_rng hn (by omega) (by omega)), h.qrel.mv c (of_rng hn (by omega) (by omega)),
    h.fails.mv c (of_rng hn (by omega) (by omega) fr h.fails.lt h.fails.tag), h.fok, h.nb, h.nq, h.qin⟩
theorem Disk.mv {s s' : TH} {d T : Nat} {D : DiskM} {C : Nat → Prop} (h : Disk s d T D) (c : Chg C s s') (hn : ∀ j, j < s.h.size → T ≤ s.g j → s.g j < T + 10 → ¬ C j) : Disk s' d T D := by
  obtain ⟨pa, pc, qa, qc, hs, qs, fr, fm, h⟩ := h
  exact ⟨pa, pc, qa, qc, hs, qs, fr, fm, h.mv c hn⟩
end Go.Proofs.YtngploohhmfaiaaGreat.E
/- The functions' forms in the engine's words, printed by my own program. -/
namespace Go.Proofs.YtngploohhmfaiaaGreat.E
open Go Go.Proofs
set_option linter.unusedVariables false
/-- bollard/bollardlaw09.VolumeFrozen -/
def F12 (x0 : Int) (x1a : Option Addr) (x1n : Nat) (x1c : Nat) (x2a : Option Addr) (x2n : Nat) (x2c : Nat) (R : Ending → Heap → Prop) (H : Heap) : Prop :=
  HCalls Tryz.prog 43 #[Value.int IntKind.i64 x0, Value.slice x1a x1n x1c] H (Sp.retK (fun v1 H2 =>
  dT 3 v1 (fun v3 v4 v5 =>
  dPtr v3 (fun p6 =>
  dPtr v4 (fun p7 =>
  dBl v5 (fun b8 =>
  sB (!b8) (R (Ending.returned (Value.bool false)) H2) (HCalls Tryz.prog 44 #[Value.pointer p6] H2 (Sp.retK (fun v9 H10 =>
  dSl v9 (fun p11 r12 r13 =>
  HCalls Tryz.prog 24 #[Value.pointer p6] H10 (Sp.retK (fun v14 H15 =>
  dInt IntKind.i64 v14 (fun n16 =>
  HCalls Tryz.prog 51 #[Value.pointer p6, Value.int IntKind.i64 n16] H15 (Sp.retK (fun v17 H18 =>
  dInt IntKind.i64 v17 (fun n19 =>
  sB (n19 != 0) (R (Ending.returned (Value.bool false)) H18) (jn (α := VFH 0) (fun H20 =>
  ∀ v21 v22 v23 v24 v25 v26 v27 v28 v29 v30 v31 v32 v33 v34 v35 v36 v37 v38 v39 v40 v41 v42 v43 v44 v45 v46 v47 v48 v49 v50 v51 v52 v53 v54 v55 v56 v57 v58 v59 v60 v61 v62 v63 v64 v65 v66 v67 v68 v69 v70 v71 v72 v73 v74 v75 v76 v77 v78 v79 v80 v81 v82 v83 v84 v85 v86 v87 v88 v89 v90 v91 v92 v93 v94 v95 v96 v97 v98 v99 v100 v101 v102 : Value,
  HCalls Tryz.prog 57 #[Value.pointer p6] H20 (Sp.retK (fun v103 H104 =>
  dBl v103 (fun b105 =>
  sB (!b105) (HCalls Tryz.prog 58 #[Value.pointer p6] H104 (Sp.retK (fun v106 H107 =>
  dInt IntKind.i64 v106 (fun n108 =>
  HCalls Tryz.prog 24 #[Value.pointer p6] H107 (Sp.retK (fun v109 H110 =>
  dInt IntKind.i64 v109 (fun n111 =>
  R (Ending.returned (Value.bool (decide (n108 ≤ n111)))) H110)) (pnR R)))) (pnR R))) (R (Ending.returned (Value.bool false)) H104))) (pnR R))) (fun k118 =>
  ∃ I119 : List Value → Heap → Prop,
  ∃ I120 : List Value → Heap → Nat,
  (I119 ([Value.int IntKind.i64 0]) H18) ∧
  ∀ n121 : Int,
  ∀ v122 v123 v124 v125 v126 v127 v128 v129 v130 v131 v132 v133 v134 v135 v136 v137 v138 v139 v140 v141 v142 v143 v144 v145 v146 v147 v148 v149 v150 v151 v152 v153 v154 v155 v156 v157 v158 v159 v160 v161 v162 v163 v164 v165 v166 v167 v168 v169 v170 v171 v172 v173 v174 v175 v176 v177 v178 v179 v180 v181 v182 v183 v184 v185 v186 v187 v188 v189 v190 v191 v192 v193 v194 v195 v196 v197 v198 v199 v200 : Value,
  ∀ H201 : Heap,
  (I119 ([Value.int IntKind.i64 n121]) H201) →
  sB (decide (n121 < (↑x2n : Int))) (nz x2a (fun a203 =>
  ask ((0 : Int) ≤ n121 ∧ n121 < (↑x2n : Int)) (ld H201 (Addr.add a203 (Int.toNat n121 * 6)) (fun v204 =>
  ld H201 (Addr.add (Addr.add a203 (Int.toNat n121 * 6)) 1) (fun v205 =>
  ld H201 (Addr.add (Addr.add a203 (Int.toNat n121 * 6)) 2) (fun v206 =>
  ld H201 (Addr.add (Addr.add a203 (Int.toNat n121 * 6)) 3) (fun v207 =>
  ld H201 (Addr.add (Addr.add a203 (Int.toNat n121 * 6)) 4) (fun v208 =>
  ld H201 (Addr.add (Addr.add a203 (Int.toNat n121 * 6)) 5) (fun v209 =>
  al H201 (Obj.cells #[Value.int IntKind.i64 0, Value.int IntKind.i64 0, Value.int IntKind.i64 0, Value.int IntKind.i64 0, Value.slice none 0 0, Value.slice none 0 0] 125) (fun r210 H211 =>
  st H211 (Addr.mk r210 0 none) v204 (fun H212 =>
  st H212 (Addr.mk r210 1 none) v205 (fun H213 =>
  st H213 (Addr.mk r210 2 none) v206 (fun H214 =>
  st H214 (Addr.mk r210 3 none) v207 (fun H215 =>
  st H215 (Addr.mk r210 4 none) v208 (fun H216 =>
  st H216 (Addr.mk r210 5 none) v209 (fun H217 =>
  sB (decide (n121 > 30)) (k118 H217) (HCalls Tryz.prog 52 #[Value.pointer p6] H217 (Sp.retK (fun v218 H219 =>
  dInt IntKind.i64 v218 (fun n220 =>
  jn (α := VFH 0) (fun H221 =>
  ∀ v222 v223 v224 v225 v226 v227 v228 v229 v230 v231 v232 v233 v234 v235 v236 v237 v238 v239 v240 v241 v242 v243 v244 v245 v246 v247 v248 v249 v250 v251 v252 v253 v254 v255 v256 v257 v258 v259 v260 v261 v262 : Value,
  ∃ I263 : List Value → Heap → Prop,
  ∃ I264 : List Value → Heap → Nat,
  (I263 ([Value.int IntKind.i64 0]) H221) ∧
  ∀ n265 : Int,
  ∀ v266 v267 v268 v269 v270 v271 v272 v273 v274 v275 v276 v277 v278 v279 v280 v281 v282 v283 v284 v285 v286 v287 v288 v289 : Value,
  ∀ H290 : Heap,
  (I263 ([Value.int IntKind.i64 n265]) H290) →
  sB (decide (n265 < (↑r12 : Int))) (nz p11 (fun a292 =>
  ask ((0 : Int) ≤ n265 ∧ n265 < (↑r12 : Int)) (ld H290 (Addr.add a292 (Int.toNat n265 * 1)) (fun v293 =>
  dSl v293 (fun p294 r295 r296 =>
  HCalls Tryz.prog 55 #[Value.pointer p6, Value.int IntKind.i64 n265] H290 (Sp.retK (fun v297 H298 =>
  dT 2 v297 (fun v299 v300 =>
  dSl v299 (fun p301 r302 r303 =>
  dInt IntKind.i64 v300 (fun n304 =>
  jn (α := VFH 1) (fun v305 H306 =>
  ∀ v307 v308 v309 v310 v311 v312 v313 : Value,
  dBl v305 (fun b314 =>
  sB b314 (R (Ending.returned (Value.bool false)) H306) (wr IntKind.i64 (n265 + 1) (fun n315 =>
  (I263 ([Value.int IntKind.i64 n315]) H306) ∧
  (I264 [Value.int IntKind.i64 n315] H306) < (I264 [Value.int IntKind.i64 n265] H290))))) (fun k316 =>
  sB (n304 != 0) (k316 (Value.bool true) H298) (HCalls Tryz.prog 56 #[Value.slice p294 r295 r296, Value.slice p301 r302 r303] H298 (Sp.retK (fun v317 H318 =>
  dBl v317 (fun b319 =>
  k316 (Value.bool !b319) H318)) (pnR R)))))))) (pnR R))))))) (wr IntKind.i64 (n121 + 1) (fun n324 =>
  (I119 ([Value.int IntKind.i64 n324]) H290) ∧
  (I120 [Value.int IntKind.i64 n324] H290) < (I120 [Value.int IntKind.i64 n121] H201)))) (fun k325 =>
  ld H219 (Addr.mk r210 0 none) (fun v326 =>
  dInt IntKind.i64 v326 (fun n327 =>
  wr IntKind.u64 n327 (fun n328 =>
  ask ((4 : Int) ≠ (0 : Int)) (nm (Int.tmod n328 4) (fun n329 =>
  wr IntKind.i64 n329 (fun n330 =>
  jn (α := VFH 1) (fun v331 H332 =>
  ∀ v333 v334 : Value,
  dBl v331 (fun b335 =>
  sB b335 (ld H332 (Addr.mk r210 0 none) (fun v336 =>
  ld H332 (Addr.mk r210 1 none) (fun v337 =>
  ld H332 (Addr.mk r210 2 none) (fun v338 =>
  ld H332 (Addr.mk r210 3 none) (fun v339 =>
  ld H332 (Addr.mk r210 4 none) (fun v340 =>
  ld H332 (Addr.mk r210 5 none) (fun v341 =>
  HCalls Tryz.prog 53 #[Value.pointer p6, Value.agg #[v336, v337, v338, v339, v340, v341]] H332 (Sp.retK (fun v342 H343 =>
  dBl v342 (fun b344 =>
  sB (!b344) (R (Ending.returned (Value.bool false)) H343) (k325 H343))) (pnR R))))))))) (sB (n330 == 2) (ld H332 (Addr.mk r210 0 none) (fun v347 =>
  ld H332 (Addr.mk r210 1 none) (fun v348 =>
  ld H332 (Addr.mk r210 2 none) (fun v349 =>
  ld H332 (Addr.mk r210 3 none) (fun v350 =>
  ld H332 (Addr.mk r210 4 none) (fun v351 =>
  ld H332 (Addr.mk r210 5 none) (fun v352 =>
  HCalls Tryz.prog 53 #[Value.pointer p6, Value.agg #[v347, v348, v349, v350, v351, v352]] H332 (Sp.retK (fun v353 H354 =>
  dBl v353 (fun b355 =>
  HCalls Tryz.prog 54 #[Value.pointer p6, Value.int IntKind.i64 n220] H354 (Sp.retK (fun v356 H357 =>
  dInt IntKind.i64 v356 (fun n358 =>
  sB (n358 != 0) (R (Ending.returned (Value.bool false)) H357) (k325 H357))) (pnR R)))) (pnR R))))))))) (HCalls Tryz.prog 32 #[Value.pointer p6] H332 (Sp.retK (fun v363 H364 =>
  dSl v363 (fun p365 r366 r367 =>
  jn (α := VFH 1) (fun v368 H369 =>
  ∀ v370 v371 v372 v373 v374 v375 v376 v377 v378 v379 v380 v381 v382 v383 v384 : Value,
  dBl v368 (fun b385 =>
  sB b385 (R (Ending.returned (Value.bool false)) H369) (k325 H369))) (fun k386 =>
  sB (decide ((↑r366 : Int) > 0)) (nz p365 (fun a387 =>
  ask ((0 : Int) ≤ (0 : Int) ∧ (0 : Int) < (↑r366 : Int)) (ld H364 (Addr.add a387 (Int.toNat 0 * 1)) (fun v388 =>
  dInt IntKind.i64 v388 (fun n389 =>
  HCalls Tryz.prog 33 #[Value.pointer p6, Value.int IntKind.i64 n389] H364 (Sp.retK (fun v390 H391 =>
  dInt IntKind.i64 v390 (fun n392 =>
  sB (n392 != 0) (k386 (Value.bool true) H391) (HCalls Tryz.prog 35 #[Value.pointer p6, Value.int IntKind.i64 0, Value.bool true] H391 (Sp.retK (fun v393 H394 =>
  dInt IntKind.i64 v393 (fun n395 =>
  k386 (Value.bool (n395 != 0)) H394)) (pnR R))))) (pnR R))))))) (k386 (Value.bool false) H364)))) (pnR R)))))) (fun k402 =>
  sB (n330 == 0) (k402 (Value.bool (n330 == 0)) H219) (k402 (Value.bool (n330 == 1)) H219))))))))))) (pnR R))))))))))))))))))) (k118 H201))))) (pnR R)))) (pnR R)))) (pnR R)))))))) (pnR R))
theorem F12_eq (x0 : Int) (x1a : Option Addr) (x1n : Nat) (x1c : Nat) (x2a : Option Addr) (x2n : Nat) (x2c : Nat) (R : Ending → Heap → Prop) (H : Heap) : F12 x0 x1a x1n x1c x2a x2n x2c R H = vc Tryz.prog (codeOf Tryz.f12) (.node none .leaf (.node none .leaf (.node none .leaf (.node none .leaf (.node none .leaf (.node (some ⟨[], [6, 11, 12, 13, 14, 15, 16, 17, 18, 35, 36, 37, 38, 39, 40, 41, 42, 43, 44, 45, 46, 47, 48, 49, 50, 51, 52, 53, 54, 55, 56, 57, 58, 59, 60, 61, 62, 63, 64, 65, 66, 67, 68, 69, 70, 71, 72, 73, 74, 75, 76, 77, 78, 79, 80, 81, 82, 83, 84, 85, 86, 87, 88, 89, 90, 91, 92, 93, 94, 95, 96, 97, 98, 99, 100, 101, 102, 103, 104, 105, 106, 107]⟩) (.node none .leaf (.node none (.node (some ⟨[(37, 3)], [6, 11, 12, 13, 14, 15, 16, 17, 18, 38, 39, 40, 41, 42, 43, 44, 45, 46, 47, 48, 49, 50, 51, 52, 53, 54, 55, 56, 57, 58, 59, 60, 61, 62, 63, 64, 65, 66, 67, 68, 69, 70, 71, 72, 73, 74, 75, 76, 77, 78, 79, 80, 81, 82, 83, 84, 85, 86, 87, 88, 89, 90, 91, 92, 93, 94, 95, 96, 97, 98, 99, 100, 101, 102, 103, 104, 105, 106, 107]⟩) (.node none .leaf (.node none .leaf (.node none (.node none (.node none .leaf (.node none .leaf (.node none .leaf (.node (some ⟨[], [6, 14, 46, 47, 48, 49, 50, 51, 52, 53, 54, 55, 56, 57, 58, 59, 60, 61, 62, 63, 64, 65, 66, 67, 68, 69, 70, 71, 72, 73, 74, 75, 76, 77, 78, 79, 80, 81, 82, 83, 84]⟩) (.node none .leaf (.node none (.node (some ⟨[(69, 4)], [70, 71]⟩) .leaf (.node none .leaf (.node none .leaf (.node none .leaf (.node none .leaf (.node (some ⟨[(68, 4)], [53, 54, 55, 56, 57, 58, 59, 60, 61, 62, 63, 64, 65, 66, 67]⟩) .leaf .leaf)))))) .leaf)) (.node none .leaf (.node none (.node (some ⟨[(87, 3)], [6, 15, 16, 17, 18, 88, 89, 90, 91, 92, 93, 94, 95, 96, 97, 98, 99, 100, 101, 102, 103, 104, 105, 106]⟩) (.node none .leaf (.node none .leaf (.node none (.node none (.node none .leaf (.node none .leaf (.node (some ⟨[(105, 4)], [98, 99, 100, 101, 102, 103, 104]⟩) .leaf .leaf))) .leaf) .leaf))) .leaf) .leaf)))))) .leaf) .leaf))) .leaf) .leaf)) .leaf)))))) (postV Tryz.prog Tryz.f12 R) ⟨#[Value.int IntKind.i64 x0, Value.slice x1a x1n x1c, Value.slice x2a x2n x2c] ++ Array.replicate (Tryz.f12.ntmps - 3) undef, []⟩ H := by kernel_rfl
theorem F12_calls {R : Ending → Heap → Prop} {H : Heap} (x0 : Int) (x1a : Option Addr) (x1n : Nat) (x1c : Nat) (x2a : Option Addr) (x2n : Nat) (x2c : Nat) (h : F12 x0 x1a x1n x1c x2a x2n x2c R H) : HCalls Tryz.prog 12 #[Value.int IntKind.i64 x0, Value.slice x1a x1n x1c, Value.slice x2a x2n x2c] H R :=
  calls_by (F := F12 x0 x1a x1n x1c x2a x2n x2c R H) (.node none .leaf (.node none .leaf (.node none .leaf (.node none .leaf (.node none .leaf (.node (some ⟨[], [6, 11, 12, 13, 14, 15, 16, 17, 18, 35, 36, 37, 38, 39, 40, 41, 42, 43, 44, 45, 46, 47, 48, 49, 50, 51, 52, 53, 54, 55, 56, 57, 58, 59, 60, 61, 62, 63, 64, 65, 66, 67, 68, 69, 70, 71, 72, 73, 74, 75, 76, 77, 78, 79, 80, 81, 82, 83, 84, 85, 86, 87, 88, 89, 90, 91, 92, 93, 94, 95, 96, 97, 98, 99, 100, 101, 102, 103, 104, 105, 106, 107]⟩) (.node none .leaf (.node none (.node (some ⟨[(37, 3)], [6, 11, 12, 13, 14, 15, 16, 17, 18, 38, 39, 40, 41, 42, 43, 44, 45, 46, 47, 48, 49, 50, 51, 52, 53, 54, 55, 56, 57, 58, 59, 60, 61, 62, 63, 64, 65, 66, 67, 68, 69, 70, 71, 72, 73, 74, 75, 76, 77, 78, 79, 80, 81, 82, 83, 84, 85, 86, 87, 88, 89, 90, 91, 92, 93, 94, 95, 96, 97, 98, 99, 100, 101, 102, 103, 104, 105, 106, 107]⟩) (.node none .leaf (.node none .leaf (.node none (.node none (.node none .leaf (.node none .leaf (.node none .leaf (.node (some ⟨[], [6, 14, 46, 47, 48, 49, 50, 51, 52, 53, 54, 55, 56, 57, 58, 59, 60, 61, 62, 63, 64, 65, 66, 67, 68, 69, 70, 71, 72, 73, 74, 75, 76, 77, 78, 79, 80, 81, 82, 83, 84]⟩) (.node none .leaf (.node none (.node (some ⟨[(69, 4)], [70, 71]⟩) .leaf (.node none .leaf (.node none .leaf (.node none .leaf (.node none .leaf (.node (some ⟨[(68, 4)], [53, 54, 55, 56, 57, 58, 59, 60, 61, 62, 63, 64, 65, 66, 67]⟩) .leaf .leaf)))))) .leaf)) (.node none .leaf (.node none (.node (some ⟨[(87, 3)], [6, 15, 16, 17, 18, 88, 89, 90, 91, 92, 93, 94, 95, 96, 97, 98, 99, 100, 101, 102, 103, 104, 105, 106]⟩) (.node none .leaf (.node none .leaf (.node none (.node none (.node none .leaf (.node none .leaf (.node (some ⟨[(105, 4)], [98, 99, 100, 101, 102, 103, 104]⟩) .leaf .leaf))) .leaf) .leaf))) .leaf) .leaf)))))) .leaf) .leaf))) .leaf) .leaf)) .leaf)))))) Tryz.func12 rfl (F12_eq x0 x1a x1n x1c x2a x2n x2c R H) h
/-- bollard/bollardlaw09.VolumeSynced -/
def F13 (x0 : Int) (x1a : Option Addr) (x1n : Nat) (x1c : Nat) (R : Ending → Heap → Prop) (H : Heap) : Prop :=
  HCalls Tryz.prog 43 #[Value.int IntKind.i64 x0, Value.slice x1a x1n x1c] H (Sp.retK (fun v1 H2 =>
  dT 3 v1 (fun v3 v4 v5 =>
  dPtr v3 (fun p6 =>
  dPtr v4 (fun p7 =>
  dBl v5 (fun b8 =>
  sB (!b8) (R (Ending.returned (Value.bool false)) H2) (HCalls Tryz.prog 52 #[Value.pointer p6] H2 (Sp.retK (fun v9 H10 =>
  dInt IntKind.i64 v9 (fun n11 =>
  ∃ I12 : List Value → Heap → Prop,
  ∃ I13 : List Value → Heap → Nat,
  (I12 ([Value.slice none 0 0, Value.int IntKind.i64 0]) H10) ∧
  ∀ p14 : Option Addr,
  ∀ r15 : Nat,
  ∀ r16 : Nat,
  ∀ n17 : Int,
  ∀ v18 v19 v20 v21 v22 v23 v24 v25 v26 : Value,
  ∀ H27 : Heap,
  (I12 ([Value.slice p14 r15 r16, Value.int IntKind.i64 n17]) H27) →
  sB (decide (n17 < n11)) (wr IntKind.i64 (n17 + 1) (fun n29 =>
  al H27 (Obj.cells #[Value.int IntKind.i64 n29] 3) (fun r30 H31 =>
  semW Tryz.prog (Builtin.append_ #[73, 73] 73 #[Value.slice p14 r15 r16, Value.slice (some (Addr.mk r30 0 none)) 1 1]) (pnR R) H31 (fun v34 H35 =>
  dSl v34 (fun p36 r37 r38 =>
  wr IntKind.i64 (n17 + 1) (fun n39 =>
  (I12 ([Value.slice p36 r37 r38, Value.int IntKind.i64 n39]) H35) ∧
  (I13 [Value.slice p36 r37 r38, Value.int IntKind.i64 n39] H35) < (I13 [Value.slice p14 r15 r16, Value.int IntKind.i64 n17] H27))))))) (HCalls Tryz.prog 44 #[Value.pointer p6] H27 (Sp.retK (fun v40 H41 =>
  dSl v40 (fun p42 r43 r44 =>
  jn (α := VFH 1) (fun v45 H46 =>
  ∀ v47 v48 v49 v50 v51 v52 v53 v54 v55 v56 v57 v58 v59 : Value,
  dBl v45 (fun b60 =>
  sB b60 (R (Ending.returned (Value.bool false)) H46) (∃ I61 : List Value → Heap → Prop,
  ∃ I62 : List Value → Heap → Nat,
  (I61 ([Value.int IntKind.i64 0]) H46) ∧
  ∀ n63 : Int,
  ∀ v64 v65 v66 v67 v68 v69 v70 v71 v72 v73 : Value,
  ∀ H74 : Heap,
  (I61 ([Value.int IntKind.i64 n63]) H74) →
  sB (decide (n63 < (↑r15 : Int))) (nz p14 (fun a76 =>
  ask ((0 : Int) ≤ n63 ∧ n63 < (↑r15 : Int)) (ld H74 (Addr.add a76 (Int.toNat n63 * 1)) (fun v77 =>
  dInt IntKind.i64 v77 (fun n78 =>
  HCalls Tryz.prog 60 #[Value.pointer p6, Value.int IntKind.i64 n78] H74 (Sp.retK (fun v79 H80 =>
  dBl v79 (fun b81 =>
  sB (!b81) (R (Ending.returned (Value.bool false)) H80) (wr IntKind.i64 (n63 + 1) (fun n82 =>
  (I61 ([Value.int IntKind.i64 n82]) H80) ∧
  (I62 [Value.int IntKind.i64 n82] H80) < (I62 [Value.int IntKind.i64 n63] H74))))) (pnR R))))))) (HCalls Tryz.prog 38 #[Value.pointer p7] H74 (Sp.retK (fun v85 H86 =>
  dSl v85 (fun p87 r88 r89 =>
  HCalls Tryz.prog 46 #[Value.slice p87 r88 r89, Value.slice p42 r43 r44] H86 (Sp.retK (fun v90 H91 =>
  dBl v90 (fun b92 =>
  sB b92 (HCalls Tryz.prog 44 #[Value.pointer p6] H91 (Sp.retK (fun v93 H94 =>
  dSl v93 (fun p95 r96 r97 =>
  HCalls Tryz.prog 46 #[Value.slice p95 r96 r97, Value.slice p42 r43 r44] H94 (Sp.retK (fun v98 H99 =>
  dBl v98 (fun b100 =>
  R (Ending.returned (Value.bool b100)) H99)) (pnR R)))) (pnR R))) (R (Ending.returned (Value.bool false)) H91))) (pnR R)))) (pnR R)))))) (fun k109 =>
  HCalls Tryz.prog 59 #[Value.pointer p6, Value.slice p14 r15 r16] H41 (Sp.retK (fun v110 H111 =>
  dInt IntKind.i64 v110 (fun n112 =>
  sB (n112 != 0) (k109 (Value.bool true) H111) (HCalls Tryz.prog 45 #[Value.pointer p6] H111 (Sp.retK (fun v113 H114 =>
  dSl v113 (fun p115 r116 r117 =>
  HCalls Tryz.prog 34 #[Value.pointer p6] H114 (Sp.retK (fun v118 H119 =>
  dSl v118 (fun p120 r121 r122 =>
  wr IntKind.i64 ((↑r116 : Int) + (↑r121 : Int)) (fun n123 =>
  k109 (Value.bool (decide (n123 > 0))) H119))) (pnR R)))) (pnR R))))) (pnR R))))) (pnR R))))) (pnR R)))))))) (pnR R))
theorem F13_eq (x0 : Int) (x1a : Option Addr) (x1n : Nat) (x1c : Nat) (R : Ending → Heap → Prop) (H : Heap) : F13 x0 x1a x1n x1c R H = vc Tryz.prog (codeOf Tryz.f13) (.node none .leaf (.node none .leaf (.node none .leaf (.node none .leaf (.node none (.node none .leaf (.node none (.node (some ⟨[(8, 73), (24, 3)], [9, 25, 26, 27, 28, 29, 30, 31, 32]⟩) .leaf .leaf) .leaf)) (.node none .leaf (.node none (.node (some ⟨[(48, 4)], [35, 36, 37, 38, 39, 40, 41, 42, 43, 44, 45, 46, 47]⟩) .leaf .leaf) (.node none (.node none .leaf (.node none (.node (some ⟨[(51, 3)], [4, 12, 52, 53, 54, 55, 56, 57, 58, 59]⟩) .leaf .leaf) .leaf)) .leaf)))))))) (postV Tryz.prog Tryz.f13 R) ⟨#[Value.int IntKind.i64 x0, Value.slice x1a x1n x1c] ++ Array.replicate (Tryz.f13.ntmps - 2) undef, []⟩ H := by kernel_rfl
theorem F13_calls {R : Ending → Heap → Prop} {H : Heap} (x0 : Int) (x1a : Option Addr) (x1n : Nat) (x1c : Nat) (h : F13 x0 x1a x1n x1c R H) : HCalls Tryz.prog 13 #[Value.int IntKind.i64 x0, Value.slice x1a x1n x1c] H R :=
  calls_by (F := F13 x0 x1a x1n x1c R H) (.node none .leaf (.node none .leaf (.node none .leaf (.node none .leaf (.node none (.node none .leaf (.node none (.node (some ⟨[(8, 73), (24, 3)], [9, 25, 26, 27, 28, 29, 30, 31, 32]⟩) .leaf .leaf) .leaf)) (.node none .leaf (.node none (.node (some ⟨[(48, 4)], [35, 36, 37, 38, 39, 40, 41, 42, 43, 44, 45, 46, 47]⟩) .leaf .leaf) (.node none (.node none .leaf (.node none (.node (some ⟨[(51, 3)], [4, 12, 52, 53, 54, 55, 56, 57, 58, 59]⟩) .leaf .leaf) .leaf)) .leaf)))))))) Tryz.func13 rfl (F13_eq x0 x1a x1n x1c R H) h
end Go.Proofs.YtngploohhmfaiaaGreat.E
/- The functions' forms in the engine's words, printed by my own program. -/
namespace Go.Proofs.YtngploohhmfaiaaGreat.E
open Go Go.Proofs
set_option linter.unusedVariables false
/-- (*bollard/patch.Set).over -/
def F189 (x0 : Option Addr) (x1a : Option Addr) (x1n : Nat) (x1c : Nat) (x2a : Option Addr) (x2n : Nat) (x2c : Nat) (R : Ending → Heap → Prop) (H : Heap) : Prop :=
  HCalls Tryz.prog 107 #[Value.slice x1a x1n x1c] H (Sp.retK (fun v1 H2 =>
  dSl v1 (fun p3 r4 r5 =>
  ∃ I6 : List Value → Heap → Prop,
  ∃ I7 : List Value → Heap → Nat,
  (I6 ([Value.int IntKind.i64 0]) H2) ∧
  ∀ n8 : Int,
  ∀ v9 v10 v11 v12 v13 v14 v15 v16 v17 v18 v19 v20 v21 v22 v23 v24 v25 v26 v27 : Value,
  ∀ H28 : Heap,
  (I6 ([Value.int IntKind.i64 n8]) H28) →
  sB (decide (n8 < (↑x2n : Int))) (nz x2a (fun a30 =>
  ask ((0 : Int) ≤ n8 ∧ n8 < (↑x2n : Int)) (ld H28 (Addr.add a30 (Int.toNat n8 * 1)) (fun v31 =>
  dInt IntKind.i64 v31 (fun n32 =>
  nz x0 (fun a33 =>
  ld H28 (Addr.add a33 2) (fun v34 =>
  dMap v34 (fun p35 =>
  semW Tryz.prog (Instr.lookup 190 (Value.map p35) (Value.int IntKind.i64 n32) false) (pnR R) H28 (fun v38 H39 =>
  dA 5 v38 (fun v40 v41 v42 v43 v44 =>
  al H39 (Obj.cells #[Value.int IntKind.i64 0, Value.int IntKind.i64 0, Value.int IntKind.i64 0, Value.slice none 0 0, Value.slice none 0 0] 194) (fun r45 H46 =>
  st H46 (Addr.mk r45 0 none) v40 (fun H47 =>
  st H47 (Addr.mk r45 1 none) v41 (fun H48 =>
  st H48 (Addr.mk r45 2 none) v42 (fun H49 =>
  st H49 (Addr.mk r45 3 none) v43 (fun H50 =>
  st H50 (Addr.mk r45 4 none) v44 (fun H51 =>
  ld H51 (Addr.mk r45 2 none) (fun v52 =>
  dInt IntKind.i64 v52 (fun n53 =>
  ask ((0 : Int) ≤ n53 ∧ n53 ≤ (↑r4 : Int) ∧ (↑r4 : Int) ≤ (↑r5 : Int) ∧ (↑r5 : Int) ≤ (↑r5 : Int)) (ld H51 (Addr.mk r45 3 none) (fun v54 =>
  dSl v54 (fun p55 r56 r57 =>
  semW Tryz.prog (Builtin.copy_ #[38, 38] 3 #[Value.slice (slO p3 1 n53 (↑r5 : Int)) (Int.toNat (↑r4 : Int) - Int.toNat n53) (Int.toNat (↑r5 : Int) - Int.toNat n53), Value.slice p55 r56 r57]) nopR H51 (fun v60 H61 =>
  dInt IntKind.i64 v60 (fun n62 =>
  wr IntKind.i64 (n8 + 1) (fun n63 =>
  (I6 ([Value.int IntKind.i64 n63]) H61) ∧
  (I7 [Value.int IntKind.i64 n63] H61) < (I7 [Value.int IntKind.i64 n8] H28))))))))))))))))))))))))) (R (Ending.returned (Value.slice p3 r4 r5)) H28))) (pnR R))
theorem F189_eq (x0 : Option Addr) (x1a : Option Addr) (x1n : Nat) (x1c : Nat) (x2a : Option Addr) (x2n : Nat) (x2c : Nat) (R : Ending → Heap → Prop) (H : Heap) : F189 x0 x1a x1n x1c x2a x2n x2c R H = vc Tryz.prog (codeOf Tryz.f189) (.node none .leaf (.node none .leaf (.node none (.node none .leaf (.node none (.node (some ⟨[(15, 3)], [9, 10, 16, 17, 18, 19, 20, 21, 22, 23, 24, 25, 26, 27, 28, 29, 30, 31, 32]⟩) .leaf .leaf) .leaf)) .leaf))) (postV Tryz.prog Tryz.f189 R) ⟨#[Value.pointer x0, Value.slice x1a x1n x1c, Value.slice x2a x2n x2c] ++ Array.replicate (Tryz.f189.ntmps - 3) undef, []⟩ H := by kernel_rfl
theorem F189_calls {R : Ending → Heap → Prop} {H : Heap} (x0 : Option Addr) (x1a : Option Addr) (x1n : Nat) (x1c : Nat) (x2a : Option Addr) (x2n : Nat) (x2c : Nat) (h : F189 x0 x1a x1n x1c x2a x2n x2c R H) : HCalls Tryz.prog 189 #[Value.pointer x0, Value.slice x1a x1n x1c, Value.slice x2a x2n x2c] H R :=
  calls_by (F := F189 x0 x1a x1n x1c x2a x2n x2c R H) (.node none .leaf (.node none .leaf (.node none (.node none .leaf (.node none (.node (some ⟨[(15, 3)], [9, 10, 16, 17, 18, 19, 20, 21, 22, 23, 24, 25, 26, 27, 28, 29, 30, 31, 32]⟩) .leaf .leaf) .leaf)) .leaf))) Tryz.func189 rfl (F189_eq x0 x1a x1n x1c x2a x2n x2c R H) h
/-- (*bollard/patch.Set).free -/
def F192 (x0 : Option Addr) (x1 : Int) (R : Ending → Heap → Prop) (H : Heap) : Prop :=
  al H (Obj.cells #[Value.slice none 0 0] 73) (fun r1 H2 =>
  HCalls Tryz.prog 112 #[Value.pointer x0, Value.int IntKind.i64 x1] H2 (Sp.retK (fun v3 H4 =>
  dSl v3 (fun p5 r6 r7 =>
  ∃ I8 : List Value → Heap → Prop,
  ∃ I9 : List Value → Heap → Nat,
  (I8 ([Value.int IntKind.i64 0]) H4) ∧
  ∀ n10 : Int,
  ∀ v11 v12 v13 v14 v15 v16 v17 v18 v19 v20 v21 v22 v23 v24 v25 v26 v27 v28 v29 v30 v31 v32 v33 v34 v35 : Value,
  ∀ H36 : Heap,
  (I8 ([Value.int IntKind.i64 n10]) H36) →
  sB (decide (n10 < (↑r6 : Int))) (jn (α := VFH 0) (fun H38 =>
  ∀ v39 v40 v41 v42 v43 v44 v45 v46 v47 v48 v49 v50 v51 v52 v53 v54 v55 v56 v57 v58 v59 v60 v61 : Value,
  wr IntKind.i64 (n10 + 1) (fun n62 =>
  (I8 ([Value.int IntKind.i64 n62]) H38) ∧
  (I9 [Value.int IntKind.i64 n62] H38) < (I9 [Value.int IntKind.i64 n10] H36))) (fun k63 =>
  nz p5 (fun a64 =>
  ask ((0 : Int) ≤ n10 ∧ n10 < (↑r6 : Int)) (ld H36 (Addr.add a64 (Int.toNat n10 * 1)) (fun v65 =>
  dInt IntKind.i64 v65 (fun n66 =>
  nz x0 (fun a67 =>
  ld H36 (Addr.add a67 2) (fun v68 =>
  dMap v68 (fun p69 =>
  semW Tryz.prog (Instr.lookup 190 (Value.map p69) (Value.int IntKind.i64 n66) false) (pnR R) H36 (fun v72 H73 =>
  dA 5 v72 (fun v74 v75 v76 v77 v78 =>
  dSl v78 (fun p79 r80 r81 =>
  HCalls Tryz.prog 133 #[Value.pointer x0, Value.slice p79 r80 r81] H73 (Sp.retK (fun v82 H83 =>
  dSl v82 (fun p84 r85 r86 =>
  HCalls Tryz.prog 88 #[Value.slice p84 r85 r86, Value.func (Fn.func 233) #[] #[Value.pointer (some (Addr.mk r1 0 none))]] H83 (Sp.retK (fun v87 H88 =>
  dBl v87 (fun b89 =>
  sB (!b89) (ld H88 (Addr.mk r1 0 none) (fun v90 =>
  dSl v90 (fun p91 r92 r93 =>
  al H88 (Obj.cells #[Value.int IntKind.i64 n66] 3) (fun r94 H95 =>
  semW Tryz.prog (Builtin.append_ #[73, 73] 73 #[Value.slice p91 r92 r93, Value.slice (some (Addr.mk r94 0 none)) 1 1]) (pnR R) H95 (fun v98 H99 =>
  dSl v98 (fun p100 r101 r102 =>
  st H99 (Addr.mk r1 0 none) (Value.slice p100 r101 r102) (fun H103 =>
  k63 H103))))))) (k63 H88))) (pnR R)))) (pnR R)))))))))))))) (ld H36 (Addr.mk r1 0 none) (fun v108 =>
  dSl v108 (fun p109 r110 r111 =>
  R (Ending.returned (Value.slice p109 r110 r111)) H36))))) (pnR R)))
theorem F192_eq (x0 : Option Addr) (x1 : Int) (R : Ending → Heap → Prop) (H : Heap) : F192 x0 x1 R H = vc Tryz.prog (codeOf Tryz.f192) (.node none .leaf (.node none .leaf (.node none (.node none .leaf (.node none (.node (some ⟨[(14, 3)], [7, 8, 9, 15, 16, 17, 18, 19, 20, 21, 22, 23, 24, 25, 26, 27, 28, 29, 30, 31, 32, 33, 34, 35, 36]⟩) (.node none .leaf (.node none .leaf (.node (some ⟨[], [7, 8, 9, 16, 17, 18, 19, 20, 21, 22, 23, 24, 25, 26, 27, 28, 29, 30, 31, 32, 33, 34, 35]⟩) .leaf .leaf))) .leaf) .leaf)) .leaf))) (postV Tryz.prog Tryz.f192 R) ⟨#[Value.pointer x0, Value.int IntKind.i64 x1] ++ Array.replicate (Tryz.f192.ntmps - 2) undef, []⟩ H := by kernel_rfl
theorem F192_calls {R : Ending → Heap → Prop} {H : Heap} (x0 : Option Addr) (x1 : Int) (h : F192 x0 x1 R H) : HCalls Tryz.prog 192 #[Value.pointer x0, Value.int IntKind.i64 x1] H R :=
  calls_by (F := F192 x0 x1 R H) (.node none .leaf (.node none .leaf (.node none (.node none .leaf (.node none (.node (some ⟨[(14, 3)], [7, 8, 9, 15, 16, 17, 18, 19, 20, 21, 22, 23, 24, 25, 26, 27, 28, 29, 30, 31, 32, 33, 34, 35, 36]⟩) (.node none .leaf (.node none .leaf (.node (some ⟨[], [7, 8, 9, 16, 17, 18, 19, 20, 21, 22, 23, 24, 25, 26, 27, 28, 29, 30, 31, 32, 33, 34, 35]⟩) .leaf .leaf))) .leaf) .leaf)) .leaf))) Tryz.func192 rfl (F192_eq x0 x1 R H) h
/-- (*bollard/disk.Disk).look -/
def F193 (x0 : Option Addr) (x1 : Int) (R : Ending → Heap → Prop) (H : Heap) : Prop :=
  HCalls Tryz.prog 87 #[Value.pointer x0] H (Sp.retK (fun v1 H2 =>
  dBl v1 (fun b3 =>
  sB (!b3) (R (Ending.returned (Value.int IntKind.i64 2)) H2) (jn (α := VFH 1) (fun v4 H5 =>
  ∀ v6 v7 v8 v9 v10 v11 v12 v13 v14 v15 : Value,
  dBl v4 (fun b16 =>
  sB b16 (R (Ending.returned (Value.int IntKind.i64 1)) H5) (R (Ending.returned (Value.int IntKind.i64 0)) H5))) (fun k17 =>
  sB (decide (x1 < 0)) (k17 (Value.bool true) H2) (nz x0 (fun a18 =>
  ld H2 a18 (fun v19 =>
  dSl v19 (fun p20 r21 r22 =>
  k17 (Value.bool (decide (x1 ≥ (↑r21 : Int)))) H2)))))))) (pnR R))
theorem F193_eq (x0 : Option Addr) (x1 : Int) (R : Ending → Heap → Prop) (H : Heap) : F193 x0 x1 R H = vc Tryz.prog (codeOf Tryz.f193) (.node none .leaf (.node none .leaf (.node none (.node (some ⟨[(18, 4)], [8, 9, 10, 11, 12, 13, 14, 15, 16, 17]⟩) .leaf .leaf) .leaf))) (postV Tryz.prog Tryz.f193 R) ⟨#[Value.pointer x0, Value.int IntKind.i64 x1] ++ Array.replicate (Tryz.f193.ntmps - 2) undef, []⟩ H := by kernel_rfl
theorem F193_calls {R : Ending → Heap → Prop} {H : Heap} (x0 : Option Addr) (x1 : Int) (h : F193 x0 x1 R H) : HCalls Tryz.prog 193 #[Value.pointer x0, Value.int IntKind.i64 x1] H R :=
  calls_by (F := F193 x0 x1 R H) (.node none .leaf (.node none .leaf (.node none (.node (some ⟨[(18, 4)], [8, 9, 10, 11, 12, 13, 14, 15, 16, 17]⟩) .leaf .leaf) .leaf))) Tryz.func193 rfl (F193_eq x0 x1 R H) h
/-- slices.ContainsFunc[[]bollard/api.Sent,bollard/api.Sent] -/
def F194 (x0a : Option Addr) (x0n : Nat) (x0c : Nat) (x1g : Nat) (x1f : Array Value) (x1c : Array Value) (R : Ending → Heap → Prop) (H : Heap) : Prop :=
  HCalls Tryz.prog 149 #[Value.slice x0a x0n x0c, Value.func (Fn.func x1g) x1f x1c] H (Sp.retK (fun v1 H2 =>
  dInt IntKind.i64 v1 (fun n3 =>
  R (Ending.returned (Value.bool (decide (n3 ≥ 0)))) H2)) (pnR R))
theorem F194_eq (x0a : Option Addr) (x0n : Nat) (x0c : Nat) (x1g : Nat) (x1f : Array Value) (x1c : Array Value) (R : Ending → Heap → Prop) (H : Heap) : F194 x0a x0n x0c x1g x1f x1c R H = vc Tryz.prog (codeOf Tryz.f194) .leaf (postV Tryz.prog Tryz.f194 R) ⟨#[Value.slice x0a x0n x0c, Value.func (Fn.func x1g) x1f x1c] ++ Array.replicate (Tryz.f194.ntmps - 2) undef, []⟩ H := by kernel_rfl
theorem F194_calls {R : Ending → Heap → Prop} {H : Heap} (x0a : Option Addr) (x0n : Nat) (x0c : Nat) (x1g : Nat) (x1f : Array Value) (x1c : Array Value) (h : F194 x0a x0n x0c x1g x1f x1c R H) : HCalls Tryz.prog 194 #[Value.slice x0a x0n x0c, Value.func (Fn.func x1g) x1f x1c] H R :=
  calls_by (F := F194 x0a x0n x0c x1g x1f x1c R H) .leaf Tryz.func194 rfl (F194_eq x0a x0n x0c x1g x1f x1c R H) h
/-- (*bollard/disk.Disk).Write$1 -/
def F195 (x0_0 : Value) (x0_1 : Value) (x0_2 : Value) (f0 : Addr) (R : Ending → Heap → Prop) (H : Heap) : Prop :=
  al H (Obj.cells #[x0_0, x0_1, x0_2] 96) (fun r1 H2 =>
  ld H2 (Addr.mk r1 1 none) (fun v3 =>
  dInt IntKind.i64 v3 (fun n4 =>
  ld H2 f0 (fun v5 =>
  dInt IntKind.i64 v5 (fun n6 =>
  R (Ending.returned (Value.bool (n4 == n6))) H2)))))
theorem F195_eq (x0_0 : Value) (x0_1 : Value) (x0_2 : Value) (f0 : Addr) (R : Ending → Heap → Prop) (H : Heap) : F195 x0_0 x0_1 x0_2 f0 R H = vc Tryz.prog (codeOf Tryz.f195) .leaf (postV Tryz.prog Tryz.f195 R) ⟨#[Value.agg #[x0_0, x0_1, x0_2], Value.pointer (some f0)] ++ Array.replicate (Tryz.f195.ntmps - 2) undef, []⟩ H := by kernel_rfl
theorem F195_calls {R : Ending → Heap → Prop} {H : Heap} (x0_0 : Value) (x0_1 : Value) (x0_2 : Value) (f0 : Addr) (h : F195 x0_0 x0_1 x0_2 f0 R H) : HCalls Tryz.prog 195 #[Value.agg #[x0_0, x0_1, x0_2], Value.pointer (some f0)] H R :=
  calls_by (F := F195 x0_0 x0_1 x0_2 f0 R H) .leaf Tryz.func195 rfl (F195_eq x0_0 x0_1 x0_2 f0 R H) h
/-- slices.Delete[[]bollard/api.Sent,bollard/api.Sent] -/
def F196 (x0a : Option Addr) (x0n : Nat) (x0c : Nat) (x1 : Int) (x2 : Int) (R : Ending → Heap → Prop) (H : Heap) : Prop :=
  ask ((0 : Int) ≤ x1 ∧ x1 ≤ x2 ∧ x2 ≤ (↑x0n : Int) ∧ (↑x0n : Int) ≤ (↑x0c : Int)) (sB (x1 == x2) (R (Ending.returned (Value.slice x0a x0n x0c)) H) (ask ((0 : Int) ≤ (0 : Int) ∧ (0 : Int) ≤ x1 ∧ x1 ≤ (↑x0c : Int) ∧ (↑x0c : Int) ≤ (↑x0c : Int)) (ask ((0 : Int) ≤ x2 ∧ x2 ≤ (↑x0n : Int) ∧ (↑x0n : Int) ≤ (↑x0c : Int) ∧ (↑x0c : Int) ≤ (↑x0c : Int)) (semW Tryz.prog (Builtin.append_ #[93, 93] 93 #[Value.slice (slO x0a 3 0 (↑x0c : Int)) (Int.toNat x1 - Int.toNat 0) (Int.toNat (↑x0c : Int) - Int.toNat 0), Value.slice (slO x0a 3 x2 (↑x0c : Int)) (Int.toNat (↑x0n : Int) - Int.toNat x2) (Int.toNat (↑x0c : Int) - Int.toNat x2)]) nopR H (fun v3 H4 =>
  dSl v3 (fun p5 r6 r7 =>
  ask ((0 : Int) ≤ (↑r6 : Int) ∧ (↑r6 : Int) ≤ (↑x0n : Int) ∧ (↑x0n : Int) ≤ (↑r7 : Int) ∧ (↑r7 : Int) ≤ (↑r7 : Int)) (semW Tryz.prog (Builtin.clear_ #[93] 0 #[Value.slice (slO p5 3 (↑r6 : Int) (↑r7 : Int)) (Int.toNat (↑x0n : Int) - Int.toNat (↑r6 : Int)) (Int.toNat (↑r7 : Int) - Int.toNat (↑r6 : Int))]) (pnR R) H4 (fun v10 H11 =>
  R (Ending.returned (Value.slice p5 r6 r7)) H11))))))))
theorem F196_eq (x0a : Option Addr) (x0n : Nat) (x0c : Nat) (x1 : Int) (x2 : Int) (R : Ending → Heap → Prop) (H : Heap) : F196 x0a x0n x0c x1 x2 R H = vc Tryz.prog (codeOf Tryz.f196) .leaf (postV Tryz.prog Tryz.f196 R) ⟨#[Value.slice x0a x0n x0c, Value.int IntKind.i64 x1, Value.int IntKind.i64 x2] ++ Array.replicate (Tryz.f196.ntmps - 3) undef, []⟩ H := by kernel_rfl
theorem F196_calls {R : Ending → Heap → Prop} {H : Heap} (x0a : Option Addr) (x0n : Nat) (x0c : Nat) (x1 : Int) (x2 : Int) (h : F196 x0a x0n x0c x1 x2 R H) : HCalls Tryz.prog 196 #[Value.slice x0a x0n x0c, Value.int IntKind.i64 x1, Value.int IntKind.i64 x2] H R :=
  calls_by (F := F196 x0a x0n x0c x1 x2 R H) .leaf Tryz.func196 rfl (F196_eq x0a x0n x0c x1 x2 R H) h
/-- (*bollard/cache.Cache).look -/
def F197 (x0 : Option Addr) (x1 : Int) (R : Ending → Heap → Prop) (H : Heap) : Prop :=
  jn (α := VFH 1) (fun v1 H2 =>
  ∀ v3 v4 v5 v6 v7 v8 v9 v10 : Value,
  dBl v1 (fun b11 =>
  sB b11 (R (Ending.returned (Value.int IntKind.i64 2)) H2) (jn (α := VFH 1) (fun v12 H13 =>
  ∀ v14 v15 v16 v17 v18 v19 v20 v21 v22 v23 : Value,
  dBl v12 (fun b24 =>
  sB b24 (R (Ending.returned (Value.int IntKind.i64 1)) H13) (R (Ending.returned (Value.int IntKind.i64 0)) H13))) (fun k25 =>
  sB (decide (x1 < 0)) (k25 (Value.bool true) H2) (nz x0 (fun a26 =>
  ld H2 a26 (fun v27 =>
  dPtr v27 (fun p28 =>
  HCalls Tryz.prog 70 #[Value.pointer p28] H2 (Sp.retK (fun v29 H30 =>
  dInt IntKind.i64 v29 (fun n31 =>
  k25 (Value.bool (decide (x1 ≥ n31))) H30)) (pnR R)))))))))) (fun k34 =>
  sB (Option.isNone x0) (k34 (Value.bool true) H) (nz x0 (fun a35 =>
  ld H (Addr.add a35 2) (fun v36 =>
  dMap v36 (fun p37 =>
  k34 (Value.bool (Option.isNone p37)) H)))))
theorem F197_eq (x0 : Option Addr) (x1 : Int) (R : Ending → Heap → Prop) (H : Heap) : F197 x0 x1 R H = vc Tryz.prog (codeOf Tryz.f197) (.node none .leaf (.node none (.node (some ⟨[(13, 4)], [5, 6, 7, 8, 9, 10, 11, 12]⟩) .leaf .leaf) (.node none (.node (some ⟨[(24, 4)], [14, 15, 16, 17, 18, 19, 20, 21, 22, 23]⟩) .leaf .leaf) .leaf))) (postV Tryz.prog Tryz.f197 R) ⟨#[Value.pointer x0, Value.int IntKind.i64 x1] ++ Array.replicate (Tryz.f197.ntmps - 2) undef, []⟩ H := by kernel_rfl
theorem F197_calls {R : Ending → Heap → Prop} {H : Heap} (x0 : Option Addr) (x1 : Int) (h : F197 x0 x1 R H) : HCalls Tryz.prog 197 #[Value.pointer x0, Value.int IntKind.i64 x1] H R :=
  calls_by (F := F197 x0 x1 R H) (.node none .leaf (.node none (.node (some ⟨[(13, 4)], [5, 6, 7, 8, 9, 10, 11, 12]⟩) .leaf .leaf) (.node none (.node (some ⟨[(24, 4)], [14, 15, 16, 17, 18, 19, 20, 21, 22, 23]⟩) .leaf .leaf) .leaf))) Tryz.func197 rfl (F197_eq x0 x1 R H) h
/-- (*bollard/patch.Set).Done$1 -/
def F198 (x0 : Int) (f0 : Addr) (R : Ending → Heap → Prop) (H : Heap) : Prop :=
  ld H f0 (fun v1 =>
  dPtr v1 (fun p2 =>
  HCalls Tryz.prog 130 #[Value.pointer p2, Value.int IntKind.i64 x0] H (Sp.retK (fun v3 H4 =>
  dBl v3 (fun b5 =>
  R (Ending.returned (Value.bool !b5)) H4)) (pnR R))))
theorem F198_eq (x0 : Int) (f0 : Addr) (R : Ending → Heap → Prop) (H : Heap) : F198 x0 f0 R H = vc Tryz.prog (codeOf Tryz.f198) .leaf (postV Tryz.prog Tryz.f198 R) ⟨#[Value.int IntKind.i64 x0, Value.pointer (some f0)] ++ Array.replicate (Tryz.f198.ntmps - 2) undef, []⟩ H := by kernel_rfl
theorem F198_calls {R : Ending → Heap → Prop} {H : Heap} (x0 : Int) (f0 : Addr) (h : F198 x0 f0 R H) : HCalls Tryz.prog 198 #[Value.int IntKind.i64 x0, Value.pointer (some f0)] H R :=
  calls_by (F := F198 x0 f0 R H) .leaf Tryz.func198 rfl (F198_eq x0 f0 R H) h
/-- slices.IndexFunc[[][]byte,[]byte] -/
def F199 (x0a : Option Addr) (x0n : Nat) (x0c : Nat) (x1g : Nat) (x1f : Array Value) (x1c : Array Value) (R : Ending → Heap → Prop) (H : Heap) : Prop :=
  ∃ I1 : List Value → Heap → Prop,
  ∃ I2 : List Value → Heap → Nat,
  (I1 ([Value.int IntKind.i64 0]) H) ∧
  ∀ n3 : Int,
  ∀ v4 v5 v6 v7 v8 v9 v10 v11 v12 v13 v14 v15 : Value,
  ∀ H16 : Heap,
  (I1 ([Value.int IntKind.i64 n3]) H16) →
  sB (decide (n3 < (↑x0n : Int))) (nz x0a (fun a18 =>
  ask ((0 : Int) ≤ n3 ∧ n3 < (↑x0n : Int)) (ld H16 (Addr.add a18 (Int.toNat n3 * 1)) (fun v19 =>
  dSl v19 (fun p20 r21 r22 =>
  gB (plainFn Tryz.prog x1g) (HCalls Tryz.prog x1g (argsOf x1f [Value.slice p20 r21 r22] x1c) H16 (Sp.retK (fun v23 H24 =>
  dBl v23 (fun b25 =>
  sB b25 (R (Ending.returned (Value.int IntKind.i64 n3)) H24) (wr IntKind.i64 (n3 + 1) (fun n26 =>
  (I1 ([Value.int IntKind.i64 n26]) H24) ∧
  (I2 [Value.int IntKind.i64 n26] H24) < (I2 [Value.int IntKind.i64 n3] H16))))) (pnR R)))))))) (R (Ending.returned (Value.int IntKind.i64 (-1))) H16)
theorem F199_eq (x0a : Option Addr) (x0n : Nat) (x0c : Nat) (x1g : Nat) (x1f : Array Value) (x1c : Array Value) (R : Ending → Heap → Prop) (H : Heap) : F199 x0a x0n x0c x1g x1f x1c R H = vc Tryz.prog (codeOf Tryz.f199) (.node none .leaf (.node none (.node none .leaf (.node none (.node (some ⟨[(8, 3)], [4, 5, 9, 10, 11, 12, 13, 14, 15, 16, 17, 18]⟩) .leaf .leaf) .leaf)) .leaf)) (postV Tryz.prog Tryz.f199 R) ⟨#[Value.slice x0a x0n x0c, Value.func (Fn.func x1g) x1f x1c] ++ Array.replicate (Tryz.f199.ntmps - 2) undef, []⟩ H := by kernel_rfl
theorem F199_calls {R : Ending → Heap → Prop} {H : Heap} (x0a : Option Addr) (x0n : Nat) (x0c : Nat) (x1g : Nat) (x1f : Array Value) (x1c : Array Value) (h : F199 x0a x0n x0c x1g x1f x1c R H) : HCalls Tryz.prog 199 #[Value.slice x0a x0n x0c, Value.func (Fn.func x1g) x1f x1c] H R :=
  calls_by (F := F199 x0a x0n x0c x1g x1f x1c R H) (.node none .leaf (.node none (.node none .leaf (.node none (.node (some ⟨[(8, 3)], [4, 5, 9, 10, 11, 12, 13, 14, 15, 16, 17, 18]⟩) .leaf .leaf) .leaf)) .leaf)) Tryz.func199 rfl (F199_eq x0a x0n x0c x1g x1f x1c R H) h
/-- math/bits.Mul -/
def F200 (x0 : Int) (x1 : Int) (R : Ending → Heap → Prop) (H : Heap) : Prop :=
  HCalls Tryz.prog 235 #[Value.int IntKind.u64 x0, Value.int IntKind.u64 x1] H (Sp.retK (fun v1 H2 =>
  dT 2 v1 (fun v3 v4 =>
  dInt IntKind.u64 v3 (fun n5 =>
  dInt IntKind.u64 v4 (fun n6 =>
  R (Ending.returned (Value.tuple #[Value.int IntKind.u64 n5, Value.int IntKind.u64 n6])) H2)))) (pnR R))
theorem F200_eq (x0 : Int) (x1 : Int) (R : Ending → Heap → Prop) (H : Heap) : F200 x0 x1 R H = vc Tryz.prog (codeOf Tryz.f200) .leaf (postV Tryz.prog Tryz.f200 R) ⟨#[Value.int IntKind.u64 x0, Value.int IntKind.u64 x1] ++ Array.replicate (Tryz.f200.ntmps - 2) undef, []⟩ H := by kernel_rfl
theorem F200_calls {R : Ending → Heap → Prop} {H : Heap} (x0 : Int) (x1 : Int) (h : F200 x0 x1 R H) : HCalls Tryz.prog 200 #[Value.int IntKind.u64 x0, Value.int IntKind.u64 x1] H R :=
  calls_by (F := F200 x0 x1 R H) .leaf Tryz.func200 rfl (F200_eq x0 x1 R H) h
end Go.Proofs.YtngploohhmfaiaaGreat.E
/- The functions' forms in the engine's words, printed by my own program. -/
namespace Go.Proofs.YtngploohhmfaiaaGreat.E
open Go Go.Proofs
set_option linter.unusedVariables false
/-- slices.Index[[]int,int] -/
def F218 (x0a : Option Addr) (x0n : Nat) (x0c : Nat) (x1 : Int) (R : Ending → Heap → Prop) (H : Heap) : Prop :=
  ∃ I1 : List Value → Heap → Prop,
  ∃ I2 : List Value → Heap → Nat,
  (I1 ([Value.int IntKind.i64 0]) H) ∧
  ∀ n3 : Int,
  ∀ v4 v5 v6 v7 v8 v9 v10 v11 v12 v13 v14 v15 : Value,
  ∀ H16 : Heap,
  (I1 ([Value.int IntKind.i64 n3]) H16) →
  sB (decide (n3 < (↑x0n : Int))) (nz x0a (fun a18 =>
  ask ((0 : Int) ≤ n3 ∧ n3 < (↑x0n : Int)) (ld H16 (Addr.add a18 (Int.toNat n3 * 1)) (fun v19 =>
  dInt IntKind.i64 v19 (fun n20 =>
  sB (x1 == n20) (R (Ending.returned (Value.int IntKind.i64 n3)) H16) (wr IntKind.i64 (n3 + 1) (fun n21 =>
  (I1 ([Value.int IntKind.i64 n21]) H16) ∧
  (I2 [Value.int IntKind.i64 n21] H16) < (I2 [Value.int IntKind.i64 n3] H16)))))))) (R (Ending.returned (Value.int IntKind.i64 (-1))) H16)
theorem F218_eq (x0a : Option Addr) (x0n : Nat) (x0c : Nat) (x1 : Int) (R : Ending → Heap → Prop) (H : Heap) : F218 x0a x0n x0c x1 R H = vc Tryz.prog (codeOf Tryz.f218) (.node none .leaf (.node none (.node none .leaf (.node none (.node (some ⟨[(8, 3)], [4, 5, 9, 10, 11, 12, 13, 14, 15, 16, 17, 18]⟩) .leaf .leaf) .leaf)) .leaf)) (postV Tryz.prog Tryz.f218 R) ⟨#[Value.slice x0a x0n x0c, Value.int IntKind.i64 x1] ++ Array.replicate (Tryz.f218.ntmps - 2) undef, []⟩ H := by kernel_rfl
theorem F218_calls {R : Ending → Heap → Prop} {H : Heap} (x0a : Option Addr) (x0n : Nat) (x0c : Nat) (x1 : Int) (h : F218 x0a x0n x0c x1 R H) : HCalls Tryz.prog 218 #[Value.slice x0a x0n x0c, Value.int IntKind.i64 x1] H R :=
  calls_by (F := F218 x0a x0n x0c x1 R H) (.node none .leaf (.node none (.node none .leaf (.node none (.node (some ⟨[(8, 3)], [4, 5, 9, 10, 11, 12, 13, 14, 15, 16, 17, 18]⟩) .leaf .leaf) .leaf)) .leaf)) Tryz.func218 rfl (F218_eq x0a x0n x0c x1 R H) h
/-- maps.Keys[map[int]bollard/api.Patch,int,bollard/api.Patch] -/
def F219 (x0 : Option Nat) (R : Ending → Heap → Prop) (H : Heap) : Prop :=
  al H (Obj.cells #[Value.map x0] 190) (fun r1 H2 =>
  R (Ending.returned (Value.func (Fn.func 259) #[] #[Value.pointer (some (Addr.mk r1 0 none))])) H2)
theorem F219_eq (x0 : Option Nat) (R : Ending → Heap → Prop) (H : Heap) : F219 x0 R H = vc Tryz.prog (codeOf Tryz.f219) .leaf (postV Tryz.prog Tryz.f219 R) ⟨#[Value.map x0] ++ Array.replicate (Tryz.f219.ntmps - 1) undef, []⟩ H := by kernel_rfl
theorem F219_calls {R : Ending → Heap → Prop} {H : Heap} (x0 : Option Nat) (h : F219 x0 R H) : HCalls Tryz.prog 219 #[Value.map x0] H R :=
  calls_by (F := F219 x0 R H) .leaf Tryz.func219 rfl (F219_eq x0 R H) h
/-- (*bollard/cache.Cache).load -/
def F231 (x0 : Option Addr) (x1 : Int) (R : Ending → Heap → Prop) (H : Heap) : Prop :=
  nz x0 (fun a1 =>
  ld H (Addr.add a1 2) (fun v2 =>
  dMap v2 (fun p3 =>
  nz x0 (fun a4 =>
  ld H (Addr.add a4 1) (fun v5 =>
  dInt IntKind.i64 v5 (fun n6 =>
  semW Tryz.prog (Builtin.len_ #[201] 3 #[Value.map p3]) nopR H (fun v9 H10 =>
  dInt IntKind.i64 v9 (fun n11 =>
  (ld H10 (Addr.add a4 1) (fun v12 =>
  dInt IntKind.i64 v12 (fun n13 =>
  (Value.int IntKind.i64 n13) = (Value.int IntKind.i64 n6)))) ∧
  HCalls Tryz.prog 265 #[Value.pointer x0] H10 (Sp.retK (fun v14 H15 =>
  dT 2 v14 (fun v16 v17 =>
  dInt IntKind.i64 v16 (fun n18 =>
  dBl v17 (fun b19 =>
  jn (α := VFH 1) (fun v20 H21 =>
  ∀ v22 v23 v24 v25 : Value,
  dBl v20 (fun b26 =>
  sB b26 (R (Ending.returned (Value.tuple #[Value.pointer none, Value.int IntKind.i64 60])) H21) (nz x0 (fun a27 =>
  ld H21 a27 (fun v28 =>
  dPtr v28 (fun p29 =>
  HCalls Tryz.prog 266 #[Value.pointer p29, Value.int IntKind.i64 x1] H21 (Sp.retK (fun v30 H31 =>
  dT 2 v30 (fun v32 v33 =>
  dSl v32 (fun p34 r35 r36 =>
  dInt IntKind.i64 v33 (fun n37 =>
  sB (n37 != 0) (R (Ending.returned (Value.tuple #[Value.pointer none, Value.int IntKind.i64 n37])) H31) (jn (α := VFH 0) (fun H38 =>
  ∀ v39 v40 v41 v42 v43 v44 : Value,
  nz x0 (fun a45 =>
  ld H38 (Addr.add a45 2) (fun v46 =>
  dMap v46 (fun p47 =>
  al H38 (Obj.cells #[Value.slice p34 r35 r36, Value.int IntKind.i64 0, Value.int IntKind.i64 0] 258) (fun r48 H49 =>
  semW Tryz.prog (Instr.mapUpdate 201 (Value.map p47) (Value.int IntKind.i64 x1) (Value.pointer (some (Addr.mk r48 0 none)))) (pnR R) H49 (fun x52 H53 =>
  nz x0 (fun a54 =>
  ld H53 (Addr.add a54 2) (fun v55 =>
  dMap v55 (fun p56 =>
  semW Tryz.prog (Instr.lookup 201 (Value.map p56) (Value.int IntKind.i64 x1) false) (pnR R) H53 (fun v59 H60 =>
  dPtr v59 (fun p61 =>
  R (Ending.returned (Value.tuple #[Value.pointer p61, Value.int IntKind.i64 0])) H60))))))))))) (fun k62 =>
  sB (decide (n11 ≥ n6)) (nz x0 (fun a63 =>
  ld H31 (Addr.add a63 2) (fun v64 =>
  dMap v64 (fun p65 =>
  semW Tryz.prog (Builtin.delete_ #[201, 3] 0 #[Value.map p65, Value.int IntKind.i64 n18]) (pnR R) H31 (fun v68 H69 =>
  k62 H69))))) (k62 H31))))))) (pnR R)))))))) (fun k72 =>
  sB (decide (n11 ≥ n6)) (k72 (Value.bool !b19) H15) (k72 (Value.bool false) H15)))))) (pnR R))))))))))
theorem F231_eq (x0 : Option Addr) (x1 : Int) (R : Ending → Heap → Prop) (H : Heap) : F231 x0 x1 R H = vc Tryz.prog (codeOf Tryz.f231) (.node none .leaf (.node none .leaf (.node none .leaf (.node none (.node (some ⟨[(30, 4)], [26, 27, 28, 29]⟩) .leaf .leaf) (.node none .leaf (.node none .leaf (.node (some ⟨[], [43, 44, 45, 46, 47, 48]⟩) .leaf .leaf))))))) (postV Tryz.prog Tryz.f231 R) ⟨#[Value.pointer x0, Value.int IntKind.i64 x1] ++ Array.replicate (Tryz.f231.ntmps - 2) undef, []⟩ H := by kernel_rfl
theorem F231_calls {R : Ending → Heap → Prop} {H : Heap} (x0 : Option Addr) (x1 : Int) (h : F231 x0 x1 R H) : HCalls Tryz.prog 231 #[Value.pointer x0, Value.int IntKind.i64 x1] H R :=
  calls_by (F := F231 x0 x1 R H) (.node none .leaf (.node none .leaf (.node none .leaf (.node none (.node (some ⟨[(30, 4)], [26, 27, 28, 29]⟩) .leaf .leaf) (.node none .leaf (.node none .leaf (.node (some ⟨[], [43, 44, 45, 46, 47, 48]⟩) .leaf .leaf))))))) Tryz.func231 rfl (F231_eq x0 x1 R H) h
/-- (*bollard/patch.Set).free$1 -/
def F233 (x0 : Int) (f0 : Addr) (R : Ending → Heap → Prop) (H : Heap) : Prop :=
  ld H f0 (fun v1 =>
  dSl v1 (fun p2 r3 r4 =>
  HCalls Tryz.prog 169 #[Value.slice p2 r3 r4, Value.int IntKind.i64 x0] H (Sp.retK (fun v5 H6 =>
  dBl v5 (fun b7 =>
  R (Ending.returned (Value.bool !b7)) H6)) (pnR R))))
theorem F233_eq (x0 : Int) (f0 : Addr) (R : Ending → Heap → Prop) (H : Heap) : F233 x0 f0 R H = vc Tryz.prog (codeOf Tryz.f233) .leaf (postV Tryz.prog Tryz.f233 R) ⟨#[Value.int IntKind.i64 x0, Value.pointer (some f0)] ++ Array.replicate (Tryz.f233.ntmps - 2) undef, []⟩ H := by kernel_rfl
theorem F233_calls {R : Ending → Heap → Prop} {H : Heap} (x0 : Int) (f0 : Addr) (h : F233 x0 f0 R H) : HCalls Tryz.prog 233 #[Value.int IntKind.i64 x0, Value.pointer (some f0)] H R :=
  calls_by (F := F233 x0 f0 R H) .leaf Tryz.func233 rfl (F233_eq x0 f0 R H) h
/-- math/bits.Mul64 -/
def F235 (x0 : Int) (x1 : Int) (R : Ending → Heap → Prop) (H : Heap) : Prop :=
  nm (IntKind.wrap IntKind.u64 (↑(BitVec.toNat (BitVec.ofInt 64 x0 &&& BitVec.ofInt 64 4294967295)) : Int)) (fun n1 =>
  ask ((0 : Int) ≤ (32 : Int)) (nm (Int.fdiv x0 (2 ^ min (Int.toNat 32) 64)) (fun n2 =>
  nm (IntKind.wrap IntKind.u64 (↑(BitVec.toNat (BitVec.ofInt 64 x1 &&& BitVec.ofInt 64 4294967295)) : Int)) (fun n3 =>
  ask ((0 : Int) ≤ (32 : Int)) (nm (Int.fdiv x1 (2 ^ min (Int.toNat 32) 64)) (fun n4 =>
  wr IntKind.u64 (n1 * n3) (fun n5 =>
  wr IntKind.u64 (n2 * n3) (fun n6 =>
  ask ((0 : Int) ≤ (32 : Int)) (nm (Int.fdiv n5 (2 ^ min (Int.toNat 32) 64)) (fun n7 =>
  wr IntKind.u64 (n6 + n7) (fun n8 =>
  nm (IntKind.wrap IntKind.u64 (↑(BitVec.toNat (BitVec.ofInt 64 n8 &&& BitVec.ofInt 64 4294967295)) : Int)) (fun n9 =>
  ask ((0 : Int) ≤ (32 : Int)) (nm (Int.fdiv n8 (2 ^ min (Int.toNat 32) 64)) (fun n10 =>
  wr IntKind.u64 (n1 * n4) (fun n11 =>
  wr IntKind.u64 (n9 + n11) (fun n12 =>
  wr IntKind.u64 (n2 * n4) (fun n13 =>
  wr IntKind.u64 (n13 + n10) (fun n14 =>
  ask ((0 : Int) ≤ (32 : Int)) (nm (Int.fdiv n12 (2 ^ min (Int.toNat 32) 64)) (fun n15 =>
  wr IntKind.u64 (n14 + n15) (fun n16 =>
  wr IntKind.u64 (x0 * x1) (fun n17 =>
  R (Ending.returned (Value.tuple #[Value.int IntKind.u64 n16, Value.int IntKind.u64 n17])) H))))))))))))))))))))))
theorem F235_eq (x0 : Int) (x1 : Int) (R : Ending → Heap → Prop) (H : Heap) : F235 x0 x1 R H = vc Tryz.prog (codeOf Tryz.f235) .leaf (postV Tryz.prog Tryz.f235 R) ⟨#[Value.int IntKind.u64 x0, Value.int IntKind.u64 x1] ++ Array.replicate (Tryz.f235.ntmps - 2) undef, []⟩ H := by kernel_rfl
theorem F235_calls {R : Ending → Heap → Prop} {H : Heap} (x0 : Int) (x1 : Int) (h : F235 x0 x1 R H) : HCalls Tryz.prog 235 #[Value.int IntKind.u64 x0, Value.int IntKind.u64 x1] H R :=
  calls_by (F := F235 x0 x1 R H) .leaf Tryz.func235 rfl (F235_eq x0 x1 R H) h
end Go.Proofs.YtngploohhmfaiaaGreat.E
/- The functions' forms in the engine's words, printed by my own program. -/
namespace Go.Proofs.YtngploohhmfaiaaGreat.E
open Go Go.Proofs
set_option linter.unusedVariables false
/-- (*bollard/cache.Cache).victim -/
def F265 (x0 : Option Addr) (R : Ending → Heap → Prop) (H : Heap) : Prop :=
  HCalls Tryz.prog 273 #[Value.pointer x0] H (Sp.retK (fun v1 H2 =>
  dSl v1 (fun p3 r4 r5 =>
  ∃ I6 : List Value → Heap → Prop,
  ∃ I7 : List Value → Heap → Nat,
  (I6 ([Value.int IntKind.i64 0]) H2) ∧
  ∀ n8 : Int,
  ∀ v9 v10 v11 v12 v13 v14 v15 v16 v17 v18 v19 v20 v21 v22 v23 v24 v25 v26 : Value,
  ∀ H27 : Heap,
  (I6 ([Value.int IntKind.i64 n8]) H27) →
  sB (decide (n8 < (↑r4 : Int))) (nz p3 (fun a29 =>
  ask ((0 : Int) ≤ n8 ∧ n8 < (↑r4 : Int)) (ld H27 (Addr.add a29 (Int.toNat n8 * 1)) (fun v30 =>
  dInt IntKind.i64 v30 (fun n31 =>
  nz x0 (fun a32 =>
  ld H27 (Addr.add a32 2) (fun v33 =>
  dMap v33 (fun p34 =>
  semW Tryz.prog (Instr.lookup 201 (Value.map p34) (Value.int IntKind.i64 n31) false) (pnR R) H27 (fun v37 H38 =>
  dPtr v37 (fun p39 =>
  nz p39 (fun a40 =>
  ld H38 (Addr.add a40 1) (fun v41 =>
  dInt IntKind.i64 v41 (fun n42 =>
  sB (n42 == 0) (R (Ending.returned (Value.tuple #[Value.int IntKind.i64 n31, Value.bool true])) H38) (wr IntKind.i64 (n8 + 1) (fun n43 =>
  (I6 ([Value.int IntKind.i64 n43]) H38) ∧
  (I7 [Value.int IntKind.i64 n43] H38) < (I7 [Value.int IntKind.i64 n8] H27)))))))))))))))) (R (Ending.returned (Value.tuple #[Value.int IntKind.i64 0, Value.bool false])) H27))) (pnR R))
theorem F265_eq (x0 : Option Addr) (R : Ending → Heap → Prop) (H : Heap) : F265 x0 R H = vc Tryz.prog (codeOf Tryz.f265) (.node none .leaf (.node none (.node none .leaf (.node none (.node (some ⟨[(9, 3)], [2, 3, 5, 10, 11, 12, 13, 14, 15, 16, 17, 18, 19, 20, 21, 22, 23, 24]⟩) .leaf .leaf) .leaf)) .leaf)) (postV Tryz.prog Tryz.f265 R) ⟨#[Value.pointer x0] ++ Array.replicate (Tryz.f265.ntmps - 1) undef, []⟩ H := by kernel_rfl
theorem F265_calls {R : Ending → Heap → Prop} {H : Heap} (x0 : Option Addr) (h : F265 x0 R H) : HCalls Tryz.prog 265 #[Value.pointer x0] H R :=
  calls_by (F := F265 x0 R H) (.node none .leaf (.node none (.node none .leaf (.node none (.node (some ⟨[(9, 3)], [2, 3, 5, 10, 11, 12, 13, 14, 15, 16, 17, 18, 19, 20, 21, 22, 23, 24]⟩) .leaf .leaf) .leaf)) .leaf)) Tryz.func265 rfl (F265_eq x0 R H) h
/-- (*bollard/disk.Disk).Read -/
def F266 (x0 : Option Addr) (x1 : Int) (R : Ending → Heap → Prop) (H : Heap) : Prop :=
  HCalls Tryz.prog 193 #[Value.pointer x0, Value.int IntKind.i64 x1] H (Sp.retK (fun v1 H2 =>
  dInt IntKind.i64 v1 (fun n3 =>
  sB (n3 != 0) (R (Ending.returned (Value.tuple #[Value.slice none 0 0, Value.int IntKind.i64 n3])) H2) (nz x0 (fun a4 =>
  ld H2 (Addr.add a4 2) (fun v5 =>
  dMap v5 (fun p6 =>
  semW Tryz.prog (Instr.lookup 131 (Value.map p6) (Value.int IntKind.i64 x1) false) (pnR R) H2 (fun v9 H10 =>
  dInt IntKind.i64 v9 (fun n11 =>
  sB (decide (n11 > 0)) (nz x0 (fun a12 =>
  ld H10 (Addr.add a12 2) (fun v13 =>
  dMap v13 (fun p14 =>
  semW Tryz.prog (Instr.lookup 131 (Value.map p14) (Value.int IntKind.i64 x1) false) (pnR R) H10 (fun v17 H18 =>
  dInt IntKind.i64 v17 (fun n19 =>
  wr IntKind.i64 (n19 - 1) (fun n20 =>
  semW Tryz.prog (Instr.mapUpdate 131 (Value.map p14) (Value.int IntKind.i64 x1) (Value.int IntKind.i64 n20)) (pnR R) H18 (fun x23 H24 =>
  R (Ending.returned (Value.tuple #[Value.slice none 0 0, Value.int IntKind.i64 4])) H24)))))))) (nz x0 (fun a25 =>
  ld H10 a25 (fun v26 =>
  dSl v26 (fun p27 r28 r29 =>
  nz p27 (fun a30 =>
  ask ((0 : Int) ≤ x1 ∧ x1 < (↑r28 : Int)) (ld H10 (Addr.add a30 (Int.toNat x1 * 1)) (fun v31 =>
  dSl v31 (fun p32 r33 r34 =>
  HCalls Tryz.prog 48 #[Value.slice p32 r33 r34] H10 (Sp.retK (fun v35 H36 =>
  dSl v35 (fun p37 r38 r39 =>
  R (Ending.returned (Value.tuple #[Value.slice p37 r38 r39, Value.int IntKind.i64 0])) H36)) (pnR R)))))))))))))))))) (pnR R))
theorem F266_eq (x0 : Option Addr) (x1 : Int) (R : Ending → Heap → Prop) (H : Heap) : F266 x0 x1 R H = vc Tryz.prog (codeOf Tryz.f266) .leaf (postV Tryz.prog Tryz.f266 R) ⟨#[Value.pointer x0, Value.int IntKind.i64 x1] ++ Array.replicate (Tryz.f266.ntmps - 2) undef, []⟩ H := by kernel_rfl
theorem F266_calls {R : Ending → Heap → Prop} {H : Heap} (x0 : Option Addr) (x1 : Int) (h : F266 x0 x1 R H) : HCalls Tryz.prog 266 #[Value.pointer x0, Value.int IntKind.i64 x1] H R :=
  calls_by (F := F266 x0 x1 R H) .leaf Tryz.func266 rfl (F266_eq x0 x1 R H) h
/-- (*bollard/cache.Cache).Held -/
def F273 (x0 : Option Addr) (R : Ending → Heap → Prop) (H : Heap) : Prop :=
  al H (Obj.cells #[Value.pointer x0] 50) (fun r1 H2 =>
  ld H2 (Addr.mk r1 0 none) (fun v3 =>
  dPtr v3 (fun p4 =>
  sB (Option.isNone p4) (R (Ending.returned (Value.slice none 0 0)) H2) (ld H2 (Addr.mk r1 0 none) (fun v5 =>
  dPtr v5 (fun p6 =>
  nz p6 (fun a7 =>
  ld H2 (Addr.add a7 2) (fun v8 =>
  dMap v8 (fun p9 =>
  HCalls Tryz.prog 276 #[Value.map p9] H2 (Sp.retK (fun v10 H11 =>
  HCalls Tryz.prog 275 #[v10, Value.func (Fn.func 277) #[] #[Value.pointer (some (Addr.mk r1 0 none))]] H11 (Sp.retK (fun v12 H13 =>
  dSl v12 (fun p14 r15 r16 =>
  R (Ending.returned (Value.slice p14 r15 r16)) H13)) (pnR R))) (pnR R)))))))))))
theorem F273_eq (x0 : Option Addr) (R : Ending → Heap → Prop) (H : Heap) : F273 x0 R H = vc Tryz.prog (codeOf Tryz.f273) .leaf (postV Tryz.prog Tryz.f273 R) ⟨#[Value.pointer x0] ++ Array.replicate (Tryz.f273.ntmps - 1) undef, []⟩ H := by kernel_rfl
theorem F273_calls {R : Ending → Heap → Prop} {H : Heap} (x0 : Option Addr) (h : F273 x0 R H) : HCalls Tryz.prog 273 #[Value.pointer x0] H R :=
  calls_by (F := F273 x0 R H) .leaf Tryz.func273 rfl (F273_eq x0 R H) h
/-- slices.SortedFunc[int] -/
def F275 (x0g : Nat) (x0f : Array Value) (x0c : Array Value) (x1g : Nat) (x1f : Array Value) (x1c : Array Value) (R : Ending → Heap → Prop) (H : Heap) : Prop :=
  HCalls Tryz.prog 216 #[Value.func (Fn.func x0g) x0f x0c] H (Sp.retK (fun v1 H2 =>
  dSl v1 (fun p3 r4 r5 =>
  HCalls Tryz.prog 278 #[Value.slice p3 r4 r5, Value.func (Fn.func x1g) x1f x1c] H2 (Sp.retK (fun v6 H7 =>
  R (Ending.returned (Value.slice p3 r4 r5)) H7) (pnR R)))) (pnR R))
theorem F275_eq (x0g : Nat) (x0f : Array Value) (x0c : Array Value) (x1g : Nat) (x1f : Array Value) (x1c : Array Value) (R : Ending → Heap → Prop) (H : Heap) : F275 x0g x0f x0c x1g x1f x1c R H = vc Tryz.prog (codeOf Tryz.f275) .leaf (postV Tryz.prog Tryz.f275 R) ⟨#[Value.func (Fn.func x0g) x0f x0c, Value.func (Fn.func x1g) x1f x1c] ++ Array.replicate (Tryz.f275.ntmps - 2) undef, []⟩ H := by kernel_rfl
theorem F275_calls {R : Ending → Heap → Prop} {H : Heap} (x0g : Nat) (x0f : Array Value) (x0c : Array Value) (x1g : Nat) (x1f : Array Value) (x1c : Array Value) (h : F275 x0g x0f x0c x1g x1f x1c R H) : HCalls Tryz.prog 275 #[Value.func (Fn.func x0g) x0f x0c, Value.func (Fn.func x1g) x1f x1c] H R :=
  calls_by (F := F275 x0g x0f x0c x1g x1f x1c R H) .leaf Tryz.func275 rfl (F275_eq x0g x0f x0c x1g x1f x1c R H) h
/-- maps.Keys[map[int]*bollard/cache.buffer,int,*bollard/cache.buffer] -/
def F276 (x0 : Option Nat) (R : Ending → Heap → Prop) (H : Heap) : Prop :=
  al H (Obj.cells #[Value.map x0] 201) (fun r1 H2 =>
  R (Ending.returned (Value.func (Fn.func 279) #[] #[Value.pointer (some (Addr.mk r1 0 none))])) H2)
theorem F276_eq (x0 : Option Nat) (R : Ending → Heap → Prop) (H : Heap) : F276 x0 R H = vc Tryz.prog (codeOf Tryz.f276) .leaf (postV Tryz.prog Tryz.f276 R) ⟨#[Value.map x0] ++ Array.replicate (Tryz.f276.ntmps - 1) undef, []⟩ H := by kernel_rfl
theorem F276_calls {R : Ending → Heap → Prop} {H : Heap} (x0 : Option Nat) (h : F276 x0 R H) : HCalls Tryz.prog 276 #[Value.map x0] H R :=
  calls_by (F := F276 x0 R H) .leaf Tryz.func276 rfl (F276_eq x0 R H) h
end Go.Proofs.YtngploohhmfaiaaGreat.E
