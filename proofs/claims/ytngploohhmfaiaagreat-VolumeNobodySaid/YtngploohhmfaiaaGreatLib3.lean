/- Maps, in states with marks. -/
import Derived.Test.YtngploohhmfaiaaGreatLib2
import Derived.Laws.StructEq
namespace Go.Proofs.YtngploohhmfaiaaGreat.E
open Go
set_option linter.unusedVariables false

/-! ### keys -/
def findL {κ : Type} [DecidableEq κ] (k : κ) : List MapEntry → List κ → Nat → Option (Nat × Value)
  | e :: es, k' :: ks, i => if k = k' then some (i, e.val) else findL k es ks (i + 1)
  | _, _, _ => none
/-- a type whose values serve as keys -/
structure KeyOk {κ : Type} [DecidableEq κ] (P : Program) (K : TypeId) (kf : κ → Value) : Prop where
  check : ∀ b k w, (Instr.checkKey b 10000 K (kf k)).run P w = .ok () w
  find : ∀ k (es : List MapEntry) (ks : List κ), es.map (·.key) = ks.map kf → ∀ w, (Instr.findKey K (kf k) es).run P w = .ok (findL k es ks 0) w
  same : ∀ k, Instr.sameBits 10000 (kf k) (kf k) = true
theorem findNow_int (k : Int) : ∀ (es : List MapEntry) (ks : List Int) (i : Nat), es.map (·.key) = ks.map (Value.int .i64) → Instr.findNow (.int .i64) (.int .i64 k) es i = some (findL k es ks i)
  | [], [], i, _ => rfl
  | [], _ :: _, i, h => by simp at h
  | _ :: _, [], i, h => by simp at h
  | e :: es, k' :: ks, i, h => by
    simp only [List.map_cons, List.cons.injEq] at h
    simp only [Instr.findNow, Instr.sameNow, h.1, findL]
    by_cases hk : k = k'
    · subst hk; simp
    · simp only [if_true, show (k == k') = false by simpa using hk, if_neg hk]
      exact findNow_int k es ks (i + 1) h.2
theorem check_int {P : Program} {K : TypeId} (n : Nat) (h : P.underlying K = some (.int .i64)) (b : Bool) (k : Int) (w : World) : (Instr.checkKey b (n + 1) K (.int .i64 k)).run P w = .ok () w := by
  simp only [Instr.checkKey, Sem.run_bind, run_under h, Result.andThen_ok]
  rfl
theorem keyInt {P : Program} {K : TypeId} (h : P.underlying K = some (.int .i64)) : KeyOk P K (Value.int .i64) where
  check b k w := check_int 9999 h b k w
  find k es ks he w := by simp [Instr.findKey, run_under h, findNow_int k es ks 0 he]
  same k := by unfold Instr.sameBits; simp
def pairV (p : Int × Int) : Value := .agg #[.int .i64 p.1, .int .i64 p.2]
theorem run_eq_pair {P : Program} {K e : TypeId} (h : P.underlying K = some (.array 2 e)) (he : P.underlying e = some (.int .i64)) (hs : ∀ w, (sizeOf e).run P w = .ok 1 w) (p q : Int × Int) (w : World) :
    (Op.equal K (pairV p) (pairV q)).run P w = .ok (decide (p = q)) w := by
  obtain ⟨a, b⟩ := p
  obtain ⟨c, d⟩ := q
  have hq : ∀ x y w, (Op.equalIn 9999 e (.int .i64 x) (.int .i64 y)).run P w = .ok (x == y) w := fun x y w => run_equalIn_int w 9998 e .i64 .i64 x y he
  have hp : ∀ (i : Nat) (x y v : Int) (w : World), [Value.int .i64 x, .int .i64 y][i]? = some (.int .i64 v) → (part e #[.int .i64 x, .int .i64 y] i).run P w = .ok (.int .i64 v) w := fun i x y v w hi => by
    obtain ⟨u, hu, hr⟩ := gives_part (q := false) P e #[.int .i64 x, .int .i64 y] i (fun u _ => u = .int .i64 v) (fun _ _ => False) w.heap (by
      unfold partS aggOf; rw [he]; exact oV_i hi rfl)
    rw [hr w (by simp), hu]
  have hu : (underlying K).run P w = .ok (.array 2 e) w := run_under h w
  simp only [Op.equal, Op.maxDepth, pairV]
  unfold Op.equalIn
  simp only [Sem.run_bind, hu, Result.andThen_ok, hs]
  simp [Std.Legacy.Range.forIn_eq_forIn_range', Std.Legacy.Range.size, List.range'_succ, hp 0 a b a w rfl, hp 1 a b b w rfl, hp 0 c d c w rfl, hp 1 c d d w rfl, hq]
  by_cases h1 : a = c
  · by_cases h2 : b = d <;> simp [h1, h2]
  · simp [h1]
theorem findAsking_pair {P : Program} {K e : TypeId} (h : P.underlying K = some (.array 2 e)) (he : P.underlying e = some (.int .i64)) (hs : ∀ w, (sizeOf e).run P w = .ok 1 w) (k : Int × Int) : ∀ (es : List MapEntry) (ks : List (Int × Int)) (i : Nat) (w : World),
    es.map (·.key) = ks.map pairV → (Instr.findAsking K (pairV k) es i).run P w = .ok (findL k es ks i) w
  | [], [], i, w, _ => rfl
  | [], _ :: _, i, w, h => by simp at h
  | _ :: _, [], i, w, h => by simp at h
  | e' :: es, k' :: ks, i, w, hh => by
    simp only [List.map_cons, List.cons.injEq] at hh
    simp only [Instr.findAsking, hh.1, findL, Sem.run_bind, run_eq_pair h he hs, Result.andThen_ok]
    by_cases hk : k = k'
    · simp [hk]
    · simp only [decide_eq_false hk, Bool.false_eq_true, if_false, if_neg hk]
      exact findAsking_pair h he hs k es ks (i + 1) w hh.2
theorem check_pair {P : Program} {K e : TypeId} (n : Nat) (h : P.underlying K = some (.array 2 e)) (he : P.underlying e = some (.int .i64)) (hs : ∀ w, (sizeOf e).run P w = .ok 1 w) (b : Bool) (k : Int × Int) (w : World) : (Instr.checkKey b (n + 1 + 1) K (pairV k)).run P w = .ok () w := by
  obtain ⟨x, y⟩ := k
  have hp : ∀ (i : Nat) (v : Int) (w : World), [Value.int .i64 x, .int .i64 y][i]? = some (.int .i64 v) → (part e #[.int .i64 x, .int .i64 y] i).run P w = .ok (.int .i64 v) w := fun i v w hi => by
    obtain ⟨u, hu, hr⟩ := gives_part (q := false) P e #[.int .i64 x, .int .i64 y] i (fun u _ => u = .int .i64 v) (fun _ _ => False) w.heap (by
      unfold partS aggOf; rw [he]; exact oV_i hi rfl)
    rw [hr w (by simp), hu]
  have hc : ∀ v w, (Instr.checkKey b (n + 1) e (.int .i64 v)).run P w = .ok () w := fun v w => check_int n he b v w
  unfold Instr.checkKey
  simp only [pairV, Sem.run_bind, run_under h, Result.andThen_ok]
  simp [Std.Legacy.Range.forIn_eq_forIn_range', Std.Legacy.Range.size, List.range'_succ, hs, hp 0 x w rfl, hp 1 y w rfl, hc]
theorem keyPair {P : Program} {K e : TypeId} (h : P.underlying K = some (.array 2 e)) (he : P.underlying e = some (.int .i64)) (hs : ∀ w, (sizeOf e).run P w = .ok 1 w) : KeyOk P K pairV where
  check b k w := check_pair 9998 h he hs b k w
  find k es ks hk w := by
    unfold Instr.findKey
    simp only [Sem.run_bind, run_under h, Result.andThen_ok]
    cases es with
    | nil => cases ks <;> first | rfl | simp at hk
    | cons e' es =>
      cases ks with
      | nil => simp at hk
      | cons k' ks =>
        have hk1 := hk
        simp only [List.map_cons, List.cons.injEq] at hk1
        have : Instr.findNow (.array 2 e) (pairV k) (e' :: es) 0 = none := by
          simp [Instr.findNow, Instr.sameNow]
        simp only [this]
        exact findAsking_pair h he hs k _ _ 0 w hk
  same k := by unfold Instr.sameBits; simp [pairV]; unfold Instr.sameBits; simp

/-! ### maps -/
section
variable {κ : Type}
section
variable [DecidableEq κ]
def mget (k : κ) : List (κ × Value) → Option Value
  | [] => none
  | (k', v) :: r => if k = k' then some v else mget k r
def mset (k : κ) (x : Value) : List (κ × Value) → List (κ × Value)
  | [] => [(k, x)]
  | (k', v) :: r => if k = k' then (k, x) :: r else (k', v) :: mset k x r
def mdel (k : κ) : List (κ × Value) → List (κ × Value)
  | [] => []
  | (k', v) :: r => if k = k' then r else (k', v) :: mdel k r
end
structure Ents (kf : κ → Value) (es : List MapEntry) (ck : Nat) (m : List (κ × Value)) : Prop where
  key : es.map (·.key) = m.map fun p => kf p.1
  val : es.map (·.val) = m.map (·.2)
  born : (es.map (·.born)).Nodup
  old : ∀ e ∈ es, e.born < ck
structure MapK (kf : κ → Value) (s : TH) (r : Nat) (m : List (κ × Value)) (τ : Nat) : Prop where
  get : ∃ (es : List MapEntry) (ck : Nat), s.h[r]? = some (.map es.toArray ck) ∧ Ents kf es ck m
  tag : s.g r = τ
  nd : (m.map (·.1)).Nodup
variable {kf : κ → Value} {s s' : TH} {r τ : Nat} {m : List (κ × Value)}
theorem MapK.lt (h : MapK kf s r m τ) : r < s.h.size := by
  obtain ⟨es, ck, hg, _⟩ := h.get
  exact (Array.getElem?_eq_some_iff.1 hg).1
theorem MapK.mv {B : Nat → Prop} (h : MapK kf s r m τ) (c : Chg B s s') (hn : ¬ B r) : MapK kf s' r m τ := by
  obtain ⟨es, ck, hg, he⟩ := h.get
  exact ⟨⟨es, ck, (c.get r h.lt hn).trans hg, he⟩, (c.tag r h.lt).trans h.tag, h.nd⟩
theorem MapK.ch {T : List Nat} (h : MapK kf s r m τ) (c : Ch T s s') (hn : τ ∉ T) : MapK kf s' r m τ := h.mv c (by show s.g r ∉ T; rw [h.tag]; exact hn)
theorem MapK.chl {T L : List Nat} (h : MapK kf s r m τ) (c : ChL T L s s') (hn : τ ∉ T) (hl : r ∉ L) : MapK kf s' r m τ := h.mv c (fun h1 => h1.elim (fun h1 => hn (by rw [h.tag] at h1; exact h1)) hl)
theorem MapK.on {r' : Nat} (h : MapK kf s r m τ) (c : On r' s s') (hn : r ≠ r') : MapK kf s' r m τ := h.mv c hn
section
variable [DecidableEq κ]
theorem findL_get (k : κ) : ∀ (es : List MapEntry) (m : List (κ × Value)) (i : Nat), es.map (·.val) = m.map (·.2) → (findL k es (m.map (·.1)) i).map (·.2) = mget k m
  | [], [], i, _ => rfl
  | [], _ :: _, i, h => by simp at h
  | _ :: _, [], i, h => by simp at h
  | e :: es, (k', v) :: m, i, h => by
    simp only [List.map_cons, List.cons.injEq] at h
    simp only [List.map_cons, findL, mget]
    by_cases hk : k = k'
    · simp [hk, h.1]
    · simp only [if_neg hk]; exact findL_get k es m (i + 1) h.2
theorem findL_none (k : κ) : ∀ (es : List MapEntry) (m : List (κ × Value)) (i : Nat), es.length = m.length → findL k es (m.map (·.1)) i = none → ∀ x, mset k x m = m ++ [(k, x)] ∧ mdel k m = m ∧ k ∉ m.map (·.1)
  | [], [], i, _, _, x => by simp [mset, mdel]
  | [], _ :: _, i, h, _, x => by simp at h
  | _ :: _, [], i, h, _, x => by simp at h
  | e :: es, (k', v) :: m, i, h, hf, x => by
    simp only [List.map_cons, findL] at hf
    by_cases hk : k = k'
    · simp [hk] at hf
    · rw [if_neg hk] at hf
      obtain ⟨h1, h2, h3⟩ := findL_none k es m (i + 1) (by simpa using h) hf x
      simp [mset, mdel, hk, h1, h2, h3]
theorem findL_some (k : κ) : ∀ (es : List MapEntry) (m : List (κ × Value)) (i j : Nat) (v : Value), findL k es (m.map (·.1)) i = some (j, v) → i ≤ j ∧ ∃ (a b : List (κ × Value)) (v' : Value) (ea eb : List MapEntry) (e : MapEntry), m = a ++ (k, v') :: b ∧ es = ea ++ e :: eb ∧ a.length = j - i ∧ ea.length = j - i ∧ k ∉ a.map (·.1)
  | [], [], i, j, v, h => by simp [findL] at h
  | [], _ :: _, i, j, v, h => by simp [findL] at h
  | _ :: _, [], i, j, v, h => by simp [findL] at h
  | e :: es, (k', v0) :: m, i, j, v, h => by
    simp only [List.map_cons, findL] at h
    by_cases hk : k = k'
    · rw [if_pos hk] at h; cases h
      exact ⟨Nat.le_refl _, [], m, v0, [], es, e, by simp [hk], rfl, by simp, by simp, by simp⟩
    · rw [if_neg hk] at h
      obtain ⟨h1, a, b, v', ea, eb, e', h2, h3, h4, h5, h6⟩ := findL_some k es m (i + 1) j v h
      exact ⟨by omega, (k', v0) :: a, b, v', e :: ea, eb, e', by simp [h2], by simp [h3], by simp; omega, by simp; omega, by simp [hk, h6]⟩
theorem modify_mid (f : MapEntry → MapEntry) (ea eb : List MapEntry) (e : MapEntry) : (ea ++ e :: eb).modify ea.length f = ea ++ f e :: eb := by
  induction ea with
  | nil => rfl
  | cons x ea ih => simpa using ih
theorem erase_mid (ea eb : List MapEntry) (e : MapEntry) : (ea ++ e :: eb).eraseIdx ea.length = ea ++ eb := by
  induction ea with
  | nil => rfl
  | cons x ea ih => simpa using ih
theorem mset_mid {k : κ} {x v : Value} {a b : List (κ × Value)} (h : k ∉ a.map (·.1)) : mset k x (a ++ (k, v) :: b) = a ++ (k, x) :: b := by
  induction a with
  | nil => simp [mset]
  | cons p a ih =>
    simp only [List.map_cons, List.mem_cons, not_or] at h
    simp [mset, h.1, ih h.2]
theorem mdel_mid {k : κ} {v : Value} {a b : List (κ × Value)} (h : k ∉ a.map (·.1)) : mdel k (a ++ (k, v) :: b) = a ++ b := by
  induction a with
  | nil => simp [mdel]
  | cons p a ih =>
    simp only [List.map_cons, List.mem_cons, not_or] at h
    simp [mdel, h.1, ih h.2]
end
theorem alm_t (kf : κ → Value) (τ : Nat) {s : TH} {k : Nat → Heap → Prop}
    (hk : ∀ (r : Nat) (s' : TH), r = s.h.size → MapK kf s' r [] τ → Ch [] s s' → s.h.size + 1 = s'.h.size → k r s'.h) : al s.h (.map #[] 0) k :=
  hk s.h.size ⟨s.h.push (.map #[] 0), upd s.g s.h.size τ⟩ rfl ⟨⟨[], 0, by simp, ⟨rfl, rfl, by simp, by simp⟩⟩, by simp [upd], by simp⟩ (pushed _ _ _) (by simp)
variable {P : Program} {T Kt Et : TypeId} {E : List PanicEntry → Heap → Prop}
section
variable [DecidableEq κ]
theorem run_look (ko : KeyOk P Kt kf) (hT : P.underlying T = some (.map Kt Et)) {z : Value} (hz : ∀ w, (zeroValue Et).run P w = .ok z w) (h : MapK kf s r m τ) (k : κ) (ok : Bool) (w : World) (hw : w.heap = s.h) :
    (Instr.lookup T (.map (some r)) (kf k) ok).run P w = .ok (if ok = true then .tuple #[(mget k m).getD z, .bool (mget k m).isSome] else (mget k m).getD z) w := by
  obtain ⟨es, ck, hg, he⟩ := h.get
  have h1 : (getObj r).run P w = .ok (.map es.toArray ck) w := by
    show Sem.run P (.getObj r .pure) w = _
    simp only [Sem.run, hw, hg]
  have h2 := ko.find k es (m.map (·.1)) (by rw [he.key, List.map_map]; rfl) w
  have h3 := findL_get k es m 0 he.val
  simp only [Instr.lookup, Sem.run_bind, run_under hT, Result.andThen_ok, h1, Sem.run_pure, ko.check, h2]
  cases hf : findL k es (m.map (·.1)) 0 with
  | none =>
    rw [hf] at h3
    have : mget k m = none := h3.symm
    cases ok <;> simp [this, hz]
  | some p =>
    rw [hf] at h3
    have : mget k m = some p.2 := h3.symm
    cases ok <;> simp [this]
theorem look_t {K : Value → Heap → Prop} (ko : KeyOk P Kt kf) (hT : P.underlying T = some (.map Kt Et)) {z : Value} (hz : ∀ w, (zeroValue Et).run P w = .ok z w) (h : MapK kf s r m τ) (k : κ) (hk : K ((mget k m).getD z) s.h) :
    semW P (Instr.lookup T (.map (some r)) (kf k) false) E s.h K := .mk fun w hw => by
  rw [run_look ko hT hz h k false w hw]; exact ⟨by rw [hw]; exact hk, Like.refl w⟩
theorem look_ok {K : Value → Heap → Prop} (ko : KeyOk P Kt kf) (hT : P.underlying T = some (.map Kt Et)) {z : Value} (hz : ∀ w, (zeroValue Et).run P w = .ok z w) (h : MapK kf s r m τ) (k : κ) (hk : K (.tuple #[(mget k m).getD z, .bool (mget k m).isSome]) s.h) :
    semW P (Instr.lookup T (.map (some r)) (kf k) true) E s.h K := .mk fun w hw => by
  rw [run_look ko hT hz h k true w hw]; exact ⟨by rw [hw]; exact hk, Like.refl w⟩
theorem look_g {K : Value → Heap → Prop} (ko : KeyOk P Kt kf) (hT : P.underlying T = some (.map Kt Et)) {z v : Value} (hz : ∀ w, (zeroValue Et).run P w = .ok z w) (h : MapK kf s r m τ) (k : κ) (hv : (mget k m).getD z = v) (hk : K v s.h) :
    semW P (Instr.lookup T (.map (some r)) (kf k) false) E s.h K := look_t ko hT hz h k (by rw [hv]; exact hk)
theorem look_n {K : Value → Heap → Prop} (ko : KeyOk P Kt kf) (hT : P.underlying T = some (.map Kt Et)) {z : Value} (hz : ∀ w, (zeroValue Et).run P w = .ok z w) (h : MapK kf s r m τ) (k : κ) (hm : mget k m = none) (hk : K z s.h) :
    semW P (Instr.lookup T (.map (some r)) (kf k) false) E s.h K := look_t ko hT hz h k (by rw [hm]; exact hk)
theorem look_s {K : Value → Heap → Prop} (ko : KeyOk P Kt kf) (hT : P.underlying T = some (.map Kt Et)) {z v : Value} (hz : ∀ w, (zeroValue Et).run P w = .ok z w) (h : MapK kf s r m τ) (k : κ) (hm : mget k m = some v) (hk : K v s.h) :
    semW P (Instr.lookup T (.map (some r)) (kf k) false) E s.h K := look_t ko hT hz h k (by rw [hm]; exact hk)
theorem look_okn {K : Value → Heap → Prop} (ko : KeyOk P Kt kf) (hT : P.underlying T = some (.map Kt Et)) {z : Value} (hz : ∀ w, (zeroValue Et).run P w = .ok z w) (h : MapK kf s r m τ) (k : κ) (hm : mget k m = none) (hk : K (.tuple #[z, .bool false]) s.h) :
    semW P (Instr.lookup T (.map (some r)) (kf k) true) E s.h K := look_ok ko hT hz h k (by rw [hm]; exact hk)
theorem look_oks {K : Value → Heap → Prop} (ko : KeyOk P Kt kf) (hT : P.underlying T = some (.map Kt Et)) {z v : Value} (hz : ∀ w, (zeroValue Et).run P w = .ok z w) (h : MapK kf s r m τ) (k : κ) (hm : mget k m = some v) (hk : K (.tuple #[v, .bool true]) s.h) :
    semW P (Instr.lookup T (.map (some r)) (kf k) true) E s.h K := look_ok ko hT hz h k (by rw [hm]; exact hk)
theorem lookn_t {K : Value → Heap → Prop} {H : Heap} (ko : KeyOk P Kt kf) (hT : P.underlying T = some (.map Kt Et)) {z : Value} (hz : ∀ w, (zeroValue Et).run P w = .ok z w) (k : κ) (hk : K z H) :
    semW P (Instr.lookup T (.map none) (kf k) false) E H K := .mk fun w hw => by
  have h2 := ko.find k [] [] rfl w
  simp only [Instr.lookup, Sem.run_bind, run_under hT, Result.andThen_ok, Sem.run_pure, ko.check, h2, findL, hz]
  exact ⟨by rw [hw]; exact hk, Like.refl w⟩
theorem lookn_ok {K : Value → Heap → Prop} {H : Heap} (ko : KeyOk P Kt kf) (hT : P.underlying T = some (.map Kt Et)) {z : Value} (hz : ∀ w, (zeroValue Et).run P w = .ok z w) (k : κ) (hk : K (.tuple #[z, .bool false]) H) :
    semW P (Instr.lookup T (.map none) (kf k) true) E H K := .mk fun w hw => by
  have h2 := ko.find k [] [] rfl w
  simp only [Instr.lookup, Sem.run_bind, run_under hT, Result.andThen_ok, Sem.run_pure, ko.check, h2, findL, hz]
  exact ⟨by rw [hw]; exact hk, Like.refl w⟩
end
/-- a map's block is written -/
theorem setmap_on {es' : List MapEntry} {ck' : Nat} {m' : List (κ × Value)} (h : MapK kf s r m τ) (he : Ents kf es' ck' m') (hnd : (m'.map (·.1)).Nodup) :
    MapK kf ⟨s.h.setIfInBounds r (.map es'.toArray ck'), s.g⟩ r m' τ ∧ On r s ⟨s.h.setIfInBounds r (.map es'.toArray ck'), s.g⟩ := by
  have hlt := h.lt
  refine ⟨⟨⟨es', ck', by simp [hlt], he⟩, h.tag, hnd⟩, ⟨by simp, fun _ _ => rfl, fun j hj hn => ?_⟩⟩
  show (s.h.setIfInBounds r _)[j]? = _
  rw [Array.getElem?_setIfInBounds_ne (fun e => hn e.symm)]
theorem run_setmap {es : List MapEntry} {ck : Nat} (hg : s.h[r]? = some (.map es.toArray ck)) (o : Obj) (w : World) (hw : w.heap = s.h) : (setObj r o).run P w = .ok () { w with heap := w.heap.setIfInBounds r o } := by
  show Sem.run P (.setObj r o (.pure ())) w = _
  simp only [Sem.run, hw, hg]
theorem ents_snoc {es : List MapEntry} {ck : Nat} (he : Ents kf es ck m) (k : κ) (x : Value) : Ents kf (es ++ [{ key := kf k, val := x, born := ck }]) (ck + 1) (m ++ [(k, x)]) := by
  refine ⟨by simp [he.key], by simp [he.val], ?_, ?_⟩
  · rw [List.map_append, List.nodup_append]
    refine ⟨he.born, by simp, fun a ha b hb => ?_⟩
    simp only [List.map_cons, List.map_nil, List.mem_singleton] at hb
    obtain ⟨e, h1, h2⟩ := List.mem_map.1 ha
    have := he.old e h1
    omega
  · intro e hm
    rcases List.mem_append.1 hm with hm | hm
    · have := he.old e hm; omega
    · simp at hm; subst hm; simp
section
variable [DecidableEq κ]
theorem upd_t {K : Unit → Heap → Prop} (ko : KeyOk P Kt kf) (hT : P.underlying T = some (.map Kt Et)) (h : MapK kf s r m τ) (k : κ) (x : Value)
    (hk : ∀ s' : TH, MapK kf s' r (mset k x m) τ → On r s s' → s.h.size = s'.h.size → K () s'.h) :
    semW P (Instr.mapUpdate T (.map (some r)) (kf k) x) E s.h K := .mk fun w hw => by
  obtain ⟨es, ck, hg, he⟩ := h.get
  have h1 : (getObj r).run P w = .ok (.map es.toArray ck) w := by
    show Sem.run P (.getObj r .pure) w = _
    simp only [Sem.run, hw, hg]
  have h2 := ko.find k es (m.map (·.1)) (by rw [he.key, List.map_map]; rfl) w
  have hlen : es.length = m.length := by have := congrArg List.length he.key; simpa using this
  simp only [Instr.mapUpdate, Sem.run_bind, run_under hT, Result.andThen_ok, h1, ko.check, h2]
  cases hf : findL k es (m.map (·.1)) 0 with
  | none =>
    obtain ⟨h3, _, h5⟩ := findL_none k es m 0 hlen hf x
    have h6 : (m ++ [(k, x)]).map (·.1) = m.map (·.1) ++ [k] := by simp
    have h7 : ((m ++ [(k, x)]).map (·.1)).Nodup := by
      rw [h6, List.nodup_append]
      exact ⟨h.nd, by simp, fun a ha b hb => by simp at hb; subst hb; intro e; subst e; exact h5 ha⟩
    obtain ⟨h8, h9⟩ := setmap_on h (ents_snoc he k x) h7
    have hpush : es.toArray.push (MapEntry.mk (kf k) x ck) = (es ++ [MapEntry.mk (kf k) x ck]).toArray := by simp
    simp only [hpush]
    rw [run_setmap hg _ w hw, ← h3] at *
    have := hk _ h8 h9 (by simp)
    exact ⟨by rw [hw]; exact this, rfl, rfl, rfl⟩
  | some p =>
    obtain ⟨j, v⟩ := p
    obtain ⟨_, a, b, v', ea, eb, e, h3, h4, h5, h6, h7⟩ := findL_some k es m 0 j v hf
    simp only [Nat.sub_zero] at h5 h6
    subst h3 h4
    have hkey := he.key
    have hval := he.val
    simp only [List.map_append, List.map_cons] at hkey hval
    obtain ⟨k1, k2⟩ := List.append_inj hkey (by simp [h5, h6])
    obtain ⟨v1, v2⟩ := List.append_inj hval (by simp [h5, h6])
    simp only [List.cons.injEq] at k2 v2
    have hej : (ea ++ e :: eb)[j]? = some e := by rw [List.getElem?_append_right (by omega), h6]; simp
    have hks : ∀ w, (Instr.keyThatStays (kf k) (kf k)).run P w = .ok (kf k) w := fun w => by simp [Instr.keyThatStays, ko.same]
    have hmod : (ea ++ e :: eb).toArray.modify j (fun e => { e with key := kf k, val := x }) = (ea ++ { e with key := kf k, val := x } :: eb).toArray := by
      apply Array.toList_inj.1
      rw [Array.toList_modify, ← h6]
      exact modify_mid _ _ _ _
    have hent : Ents kf (ea ++ { e with key := kf k, val := x } :: eb) ck (a ++ (k, x) :: b) := by
      refine ⟨by simp [k1, k2.2], by simp [v1, v2.2], by simpa using he.born, fun e' hm => ?_⟩
      rcases List.mem_append.1 hm with hm | hm
      · exact he.old e' (by simp [hm])
      · rcases List.mem_cons.1 hm with rfl | hm
        · exact he.old e (by simp)
        · exact he.old e' (by simp [hm])
    obtain ⟨h8, h9⟩ := setmap_on h hent (by simpa using h.nd)
    have hgk : (((ea ++ e :: eb).toArray[j]?).map (·.key)).getD (kf k) = kf k := by
      simp [hej, k2.1]
    simp only [Sem.run_bind, hgk, hks, Result.andThen_ok, hmod]
    rw [run_setmap hg _ w hw]
    rw [← mset_mid (x := x) (v := v') (b := b) h7] at h8
    have := hk _ h8 h9 (by simp)
    exact ⟨by rw [hw]; exact this, rfl, rfl, rfl⟩
end
theorem mlen_t {K : Value → Heap → Prop} {t : TypeId} (hT : P.underlying T = some (.map Kt Et)) (h : MapK kf s r m τ) (hk : K (.int .i64 (m.length : Int)) s.h) :
    semW P (Builtin.len_ #[T] t #[.map (some r)]) E s.h K := .mk fun w hw => by
  obtain ⟨es, ck, hg, he⟩ := h.get
  have h1 : (getObj r).run P w = .ok (.map es.toArray ck) w := by
    show Sem.run P (.getObj r .pure) w = _
    simp only [Sem.run, hw, hg]
  have hlen : es.length = m.length := by have := congrArg List.length he.key; simpa using this
  simp [Builtin.len_, run_under hT, h1, goInt, hlen]
  exact ⟨by rw [hw]; exact hk, Like.refl w⟩
theorem mlenn_t {K : Value → Heap → Prop} {t : TypeId} {H : Heap} (hT : P.underlying T = some (.map Kt Et)) (hk : K (.int .i64 0) H) :
    semW P (Builtin.len_ #[T] t #[.map none]) E H K := .mk fun w hw => by
  simp [Builtin.len_, run_under hT, goInt]
  exact ⟨by rw [hw]; exact hk, Like.refl w⟩
section
variable [DecidableEq κ]
theorem del_t {K : Value → Heap → Prop} {t t2 : TypeId} (ko : KeyOk P Kt kf) (hT : P.underlying T = some (.map Kt Et)) (h : MapK kf s r m τ) (k : κ)
    (hk : ∀ s' : TH, MapK kf s' r (mdel k m) τ → On r s s' → s.h.size = s'.h.size → K (.tuple #[]) s'.h) :
    semW P (Builtin.delete_ #[T, t] t2 #[.map (some r), kf k]) E s.h K := .mk fun w hw => by
  obtain ⟨es, ck, hg, he⟩ := h.get
  have h1 : (getObj r).run P w = .ok (.map es.toArray ck) w := by
    show Sem.run P (.getObj r .pure) w = _
    simp only [Sem.run, hw, hg]
  have h2 := ko.find k es (m.map (·.1)) (by rw [he.key, List.map_map]; rfl) w
  have hlen : es.length = m.length := by have := congrArg List.length he.key; simpa using this
  unfold Builtin.delete_
  simp [run_under hT, h1, ko.check, h2]
  cases hf : findL k es (m.map (·.1)) 0 with
  | none =>
    obtain ⟨_, h4, h5⟩ := findL_none k es m 0 hlen hf .nilIface
    obtain ⟨h8, h9⟩ := setmap_on h he h.nd
    simp only [Sem.run_map, run_setmap hg _ w hw]
    rw [h4] at hk
    have := hk _ h8 h9 (by simp)
    exact ⟨by rw [hw]; exact this, rfl, rfl, rfl⟩
  | some p =>
    obtain ⟨j, v⟩ := p
    obtain ⟨_, a, b, v', ea, eb, e, h3, h4, h5, h6, h7⟩ := findL_some k es m 0 j v hf
    simp only [Nat.sub_zero] at h5 h6
    subst h3 h4
    have hkey := he.key
    have hval := he.val
    simp only [List.map_append, List.map_cons] at hkey hval
    obtain ⟨k1, k2⟩ := List.append_inj hkey (by simp [h5, h6])
    obtain ⟨v1, v2⟩ := List.append_inj hval (by simp [h5, h6])
    simp only [List.cons.injEq] at k2 v2
    have hmod : (ea ++ e :: eb).eraseIdx j = ea ++ eb := by rw [← h6]; exact erase_mid _ _ _
    have hent : Ents kf (ea ++ eb) ck (a ++ b) := by
      refine ⟨by simp [k1, k2.2], by simp [v1, v2.2], ?_, fun e' hm => ?_⟩
      · have := he.born
        simp only [List.map_append, List.map_cons] at this ⊢
        exact this.sublist (List.Sublist.append_left (List.sublist_cons_self _ _) _)
      · rcases List.mem_append.1 hm with hm | hm
        · exact he.old e' (by simp [hm])
        · exact he.old e' (by simp [hm])
    obtain ⟨h8, h9⟩ := setmap_on h hent (by
      have := h.nd
      simp only [List.map_append, List.map_cons] at this ⊢
      exact this.sublist (List.Sublist.append_left (List.sublist_cons_self _ _) _))
    simp only [hmod, Sem.run_map, run_setmap hg _ w hw]
    rw [← mdel_mid (v := v') (b := b) h7] at h8
    have := hk _ h8 h9 (by simp)
    exact ⟨by rw [hw]; exact this, rfl, rfl, rfl⟩
end
end
end Go.Proofs.YtngploohhmfaiaaGreat.E
