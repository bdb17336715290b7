/- copy; entries without a text: bytealg.MakeNoZero; min. -/
import Derived.Test.YtngploohhmfaiaaGreatLib6
import Derived.Lib.MakeNoZero
import Derived.Laws.Externs
namespace Go.Proofs.YtngploohhmfaiaaGreat.E
open Go
set_option linter.unusedVariables false
set_option linter.unusedSimpArgs false
theorem copy_t {P : Program} {t t2 ty e : TypeId} {E : List PanicEntry → Heap → Prop} {s : TH} {g o n dc m mc bytes k : Nat} {xa : Option Addr} {L src : List Value} {τ τ' : Nat} {z : Value} {K : Value → Heap → Prop}
    (ht : P.underlying t = some (.slice e)) (hi : (P.info? e).map (fun i => (i.zero, i.size, i.bytes)) = some (some z, k, bytes))
    (hB : Blk s g L e τ) (hx : Sl s xa src τ') (hl : src.length = m * k) (h1 : ∀ u ∈ src, u.oneCell' = true) (hxa : xa = none → m = 0) (hfit : o + min m n * k ≤ L.length)
    (hk : ∀ s' : TH, Blk s' g (L.take o ++ src.take (min m n * k) ++ L.drop (o + min m n * k)) e τ → On g s s' → s.h.size = s'.h.size → K (.int .i64 ((min m n : Nat) : Int)) s'.h) :
    semW P (Builtin.copy_ #[t, t2] ty #[.slice (some ⟨g, o, none⟩) n dc, .slice xa m mc]) E s.h K := .mk fun w hw => by
  obtain ⟨i, hi1, hi2, hi3, hi4⟩ := info_of hi
  subst hi3
  have hn : (src.take (min m n * i.size)).length = min m n * i.size := by
    rw [List.length_take, hl]
    have := Nat.mul_le_mul_right i.size (Nat.min_le_left m n)
    omega
  have hf : (Builtin.firstCells i.size (min m n) (.slice xa m mc)).run P w = .ok (src.take (min m n * i.size)).toArray w := by
    cases xa with
    | none =>
      obtain rfl := hxa rfl
      rw [run_firstCells_none]
      simp
    | some b =>
      refine run_firstCells_some (P := P) w i.size (min m n) b m mc _ hn fun j u hu => hx.cells w hw j u ?_
      rw [List.getElem?_take] at hu
      split at hu
      · exact hu
      · cases hu
  have hst := run_storeCells_at P g o e (src.take (min m n * i.size)) 0 L.toArray w (by rw [hw]; exact hB.get) (by rw [hn]; simpa using hfit) (fun u hu => h1 u (List.mem_of_mem_take hu))
  simp only [Nat.add_zero, hn, List.toList_toArray] at hst
  have hr : (Builtin.copy_ #[t, t2] ty #[.slice (some ⟨g, o, none⟩) n dc, .slice xa m mc]).run P w = .ok (.int .i64 ((min m n : Nat) : Int)) (w.setRow g (L.take o ++ src.take (min m n * i.size) ++ L.drop (o + min m n * i.size)).toArray) := by
    simp only [Nat.min_def] at hf hst ⊢
    simp [Builtin.copy_, run_underlying ht, sizeOf, typeInfo, hi1, Builtin.lenOf, hf, hst, goInt, Nat.min_def]
  rw [hr]
  have hset := setRow_heap w g L.toArray (L.take o ++ src.take (min m n * i.size) ++ L.drop (o + min m n * i.size)).toArray e (0, 0) (by rw [hw]; exact hB.get)
  have hK := hk ⟨(w.setRow g (L.take o ++ src.take (min m n * i.size) ++ L.drop (o + min m n * i.size)).toArray).heap, s.g⟩ ⟨hset, hB.tag⟩ ⟨by simp [← hw], fun _ _ => rfl, fun j hj hne => ?_⟩ (by simp [← hw])
  · exact ⟨hK, rfl, rfl, rfl⟩
  · show (w.setRow g _).heap[j]? = _
    rw [setRow_other w g j _ hne, hw]
theorem mnz_t (τ : Nat) {P : Program} {f : FuncId} {fn : Func} {ps : Array TypeId} {t e : TypeId} {E : List PanicEntry → Heap → Prop} {s : TH} {K : Value → Heap → Prop} (n : Nat)
    (hf : P.funcs[f]? = some fn) (hname : (fn.name == "runtime.NumGoroutine") = false) (hb : fn.body.isNone = true) (hnx : Extern.findNext fn = none) (he : Extern.find fn = some (Extern.BytealgMakeNoZero.makeNoZero ps #[t]))
    (ht : P.underlying t = some (.slice e)) (hn : n ≤ 281474976710656)
    (hk : ∀ (s' : TH) (r : Nat) (cs : List Value), r = s.h.size → Blk s' r cs e τ → Ch [] s s' → n ≤ cs.length → K (.slice (some ⟨r, 0, none⟩) n cs.length) s'.h) :
    semW P (entS f #[.int .i64 (n : Int)]) E s.h K := .mk fun w hw => by
  obtain ⟨cs, hr, h1, h2⟩ := Lib.run_makeNoZero (P := P) w ps t e ht n hn
  have hr2 : (entS f #[.int .i64 (n : Int)]).run P w = .ok (.slice (some ⟨w.heap.size, 0, none⟩) n cs.size) (w.drew.drew.alloc (.cells cs e)) := by
    unfold entS
    rw [Sem.run_bind, run_callFunc_extern hf hname hb hnx he, hr]
    rfl
  rw [hr2]
  refine ⟨?_, rfl, rfl, rfl⟩
  have := hk ⟨s.h.push (.cells cs e), upd s.g s.h.size τ⟩ s.h.size cs.toList rfl ⟨by simp, by simp [upd]⟩ (pushed _ _ _) (by simpa using h1)
  rw [hw]
  show K _ (w.heap.push _)
  rw [hw]
  simpa using this
theorem rep_grow {α : Type} {L : List α} {v : α} {k c : Nat} (h : L.take k = List.replicate k v) (hc : c ≤ k) (D : List α) : (L.take k ++ (L.take k).take (c * 1) ++ D).take (k + c) = List.replicate (k + c) v := by
  rw [h, Nat.mul_one, List.take_replicate, Nat.min_eq_left hc, List.replicate_append_replicate, List.take_left' (by simp)]
theorem min_i {P : Program} {ats : Array TypeId} {ty : TypeId} {E : List PanicEntry → Heap → Prop} {H : Heap} {K : Value → Heap → Prop} {a b : Int} (hk : K (.int .i64 (min a b)) H) :
    semW P (Builtin.min_ ats ty #[.int .i64 a, .int .i64 b]) E H K := .mk fun w hw => by
  have hr : (Builtin.min_ ats ty #[.int .i64 a, .int .i64 b]).run P w = .ok (.int .i64 (min a b)) w := by
    have he : (if b < a then b else a) = min a b := by split <;> omega
    simp [Builtin.min_, Builtin.min2, he]
  rw [hr]
  exact ⟨by rw [hw]; exact hk, Like.refl w⟩
theorem Own.tail {s : TH} {a : Option Addr} {n c e k : Nat} {xs : List Value} {τ : Nat} (h : Own s a n c e k xs τ) {m : Nat} (hm : m ≤ n) : Own s (slO a k (m : Int) (c : Int)) (n - m) (c - m) e k (xs.drop (m * k)) τ := by
  refine ⟨by rw [List.length_drop, h.1, Nat.sub_mul], ?_⟩
  rcases h.2 with ⟨h1, h2, h3⟩ | ⟨g, o, L, h1, h2, h3, h4, h5, h6⟩
  · subst h1; exact .inl ⟨rfl, by omega, by omega⟩
  · subst h1
    rw [slA_mk]
    have hcm : m * k + (c - m) * k = c * k := by rw [← Nat.add_mul]; congr 1; omega
    by_cases hc : c = m
    · rw [if_pos hc]
      exact .inr ⟨g, o, L, rfl, h2, by omega, by omega, by rw [show c - m = 0 by omega]; omega, by
        rw [show n - m = 0 by omega, Nat.zero_mul, List.take_zero]
        exact (List.drop_eq_nil_of_le (by rw [h.1]; exact Nat.mul_le_mul_right k (by omega))).symm⟩
    · rw [if_neg hc]
      refine .inr ⟨g, o + m * k, L, rfl, h2, by omega, by omega, by omega, ?_⟩
      rw [← h6, List.drop_take, List.drop_drop, Nat.sub_mul]
theorem wrap_u64 (x : Int) : IntKind.u64.wrap x = x % 18446744073709551616 := rfl
def ivs (l : List Int) : List Value := l.map (Value.int .i64)
theorem ivs_len (l : List Int) : (ivs l).length = l.length := by simp [ivs]
theorem ivs_one (l : List Int) : ∀ u ∈ ivs l, u.oneCell' = true := by intro u hu; simp [ivs] at hu; obtain ⟨b, _, rfl⟩ := hu; rfl
theorem ivs_get {l : List Int} {k : Nat} {x : Int} (h : l[k]? = some x) : (ivs l)[k]? = some (.int .i64 x) := by simp [ivs, h]
theorem ivs_take (l : List Int) (n : Nat) : (ivs l).take n = ivs (l.take n) := by simp [ivs]
theorem ivs_drop (l : List Int) (n : Nat) : (ivs l).drop n = ivs (l.drop n) := by simp [ivs]
theorem ivs_app (l m : List Int) : ivs (l ++ m) = ivs l ++ ivs m := by simp [ivs]
theorem ivs_inj : ∀ {a b : List Int}, ivs a = ivs b → a = b
  | [], [], _ => rfl
  | [], _ :: _, h => by simp [ivs] at h
  | _ :: _, [], h => by simp [ivs] at h
  | x :: a, y :: b, h => by
    simp only [ivs, List.map_cons, List.cons.injEq, Value.int.injEq, true_and] at h
    rw [h.1, ivs_inj (a := a) (b := b) h.2]
theorem Own.ne_none {s : TH} {a : Option Addr} {n c e k : Nat} {xs : List Value} {τ : Nat} (h : Own s a n c e k xs τ) (hn : 0 < n) : ∃ b, a = some b := by
  cases a with
  | none => have := h.none_iff rfl; omega
  | some b => exact ⟨b, rfl⟩
theorem Sl.ne_none {s : TH} {a : Option Addr} {xs : List Value} {τ : Nat} (h : Sl s a xs τ) (hn : 0 < xs.length) : ∃ b, a = .some b := h.some (fun e => by rw [e] at hn; cases hn)
end Go.Proofs.YtngploohhmfaiaaGreat.E
