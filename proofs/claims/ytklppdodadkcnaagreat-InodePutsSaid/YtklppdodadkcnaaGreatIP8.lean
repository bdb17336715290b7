/- My own texts, joined. -/
import Derived.KernelRfl
import Derived.Test.YtklppdodadkcnaaGreatProg
import Derived.Test.YtklppdodadkcnaaGreatIP7
/- Marks that no old block has; appends of numbers and bytes. -/
namespace Go.Proofs.YtklppdodadkcnaaGreat.E
open Go
set_option linter.unusedVariables false
set_option linter.unusedSimpArgs false
theorem fresh6 (s : TH) (a b c d e f : Nat) : ∃ M, (∀ j, j < s.h.size → s.g j < M) ∧ 10 ≤ M ∧ a < M ∧ b < M ∧ c < M ∧ d < M ∧ e < M ∧ f < M := by
  have h : ∀ n, ∃ m, ∀ j, j < n → s.g j < m := fun n => by
    induction n with
    | zero => exact ⟨0, fun j hj => by omega⟩
    | succ n ih =>
      obtain ⟨m, hm⟩ := ih
      refine ⟨m + s.g n + 1, fun j hj => ?_⟩
      by_cases e : j = n
      · subst e; omega
      · have := hm j (by omega); omega
  obtain ⟨m, hm⟩ := h s.h.size
  exact ⟨m + a + b + c + d + e + f + 10, fun j hj => by have := hm j hj; omega, by omega, by omega, by omega, by omega, by omega, by omega, by omega⟩
theorem Ch.fr {T T' : List Nat} {a b c : TH} {M : Nat} (h : Ch T a b) (k : Ch T' b c) (hM : ∀ j, j < a.h.size → a.g j < M) (hT : ∀ x ∈ T', x ∈ T ∨ M ≤ x) : Ch T a c :=
  Chg.trans h k fun j hj hB => by
    have hB : b.g j ∈ T' := hB
    rw [h.tag j hj] at hB
    rcases hT _ hB with h1 | h1
    · exact h1
    · have := hM j hj; omega
theorem Ch.app {T T' : List Nat} {a b c : TH} (h : Ch T a b) (k : Ch T' b c) : Ch (T ++ T') a c :=
  Chg.trans (h.less (T' := T ++ T') fun x hx => List.mem_append_left _ hx) k fun j hj hB => by
    have hB : b.g j ∈ T' := hB
    rw [h.tag j hj] at hB
    exact List.mem_append_right _ hB
/-- a result's blocks get another mark -/
def remark (s : TH) (μ τ : Nat) : TH := ⟨s.h, fun j => if s.g j = μ then τ else s.g j⟩
theorem ret_t' {Q : Value → TH → Prop} {v : Value} {s s' : TH} (hs : s'.h = s.h) (h : Q v s') : RT Q (.returned v) s.h := ⟨v, s', rfl, hs, h⟩
theorem remark_ch {T : List Nat} {s s' : TH} {M μ τ : Nat} (c : Ch T s s') (hM : ∀ j, j < s.h.size → s.g j < M) (hμ : M ≤ μ) : Ch T s (remark s' μ τ) :=
  ⟨c.size, fun j hj => by
    have h1 := c.tag j hj
    have h2 := hM j hj
    show (if s'.g j = μ then τ else s'.g j) = s.g j
    rw [h1, if_neg (by omega)], c.get⟩
theorem remark_chg {s : TH} {μ τ : Nat} {σ : Nat} (h : σ ≠ μ) : ∀ j, s.g j = σ → (remark s μ τ).g j = σ := fun j hj => by
  show (if s.g j = μ then τ else s.g j) = σ
  rw [hj, if_neg h]
theorem remark_to {s : TH} {μ τ : Nat} : ∀ j, s.g j = μ → (remark s μ τ).g j = τ := fun j hj => by
  show (if s.g j = μ then τ else s.g j) = τ
  rw [if_pos hj]
theorem Own.remark {s : TH} {a : Option Addr} {n c e k : Nat} {xs : List Value} {μ τ : Nat} (h : Own s a n c e k xs μ) : Own (remark s μ τ) a n c e k xs τ := by
  refine ⟨h.1, h.2.imp id ?_⟩
  rintro ⟨g, o, L, h1, h2, h3⟩
  exact ⟨g, o, L, h1, ⟨h2.get, remark_to g h2.tag⟩, h3⟩
theorem Sl.remark {s : TH} {a : Option Addr} {l : List Value} {μ τ : Nat} (h : Sl s a l μ) : Sl (remark s μ τ) a l τ := by
  refine h.imp id ?_
  rintro ⟨g, o, h1, h2, h3, h4⟩
  exact ⟨g, o, h1, h2, remark_to g h3, h4⟩
theorem Sl.keep {s : TH} {a : Option Addr} {l : List Value} {σ μ τ : Nat} (h : Sl s a l σ) (hn : σ ≠ μ) : Sl (E.remark s μ τ) a l σ := by
  refine h.imp id ?_
  rintro ⟨g, o, h1, h2, h3, h4⟩
  exact ⟨g, o, h1, h2, remark_chg hn g h3, h4⟩
theorem Own.keep {s : TH} {a : Option Addr} {n c e k : Nat} {xs : List Value} {σ μ τ : Nat} (h : Own s a n c e k xs σ) (hn : σ ≠ μ) : Own (E.remark s μ τ) a n c e k xs σ := by
  refine ⟨h.1, h.2.imp id ?_⟩
  rintro ⟨g, o, L, h1, h2, h3⟩
  exact ⟨g, o, L, h1, ⟨h2.get, remark_chg hn g h2.tag⟩, h3⟩
theorem Blk.remark {s : TH} {r : Nat} {l : List Value} {t μ τ : Nat} (h : Blk s r l t μ) : Blk (remark s μ τ) r l t τ := ⟨h.get, remark_to r h.tag⟩
theorem Blk.keep {s : TH} {r : Nat} {l : List Value} {t σ μ τ : Nat} (h : Blk s r l t σ) (hn : σ ≠ μ) : Blk (E.remark s μ τ) r l t σ := ⟨h.get, remark_chg hn r h.tag⟩
theorem MapK.remark {κ : Type} {kf : κ → Value} {s : TH} {r : Nat} {m : List (κ × Value)} {μ τ : Nat} (h : MapK kf s r m μ) : MapK kf (remark s μ τ) r m τ := ⟨h.get, remark_to r h.tag, h.nd⟩
theorem MapK.keep {κ : Type} {kf : κ → Value} {s : TH} {r : Nat} {m : List (κ × Value)} {σ μ τ : Nat} (h : MapK kf s r m σ) (hn : σ ≠ μ) : MapK kf (E.remark s μ τ) r m σ := ⟨h.get, remark_chg hn r h.tag, h.nd⟩
theorem Sl.len0 {s : TH} {l : List Value} {τ : Nat} (h : Sl s none l τ) : l = [] := by
  rcases h with h | ⟨g, o, h1, _⟩
  · exact h
  · cases h1
theorem st_iv {s : TH} {a : Addr} {n c e τ : Nat} {L : List Int} {i x : Int} {K : Heap → Prop} (h : Own s (some a) n c e 1 (ivs L) τ) (h0 : 0 ≤ i) (h1 : i < n)
    (hk : ∀ s' : TH, Own s' (some a) n c e 1 (ivs (L.set i.toNat x)) τ → Ch [τ] s s' → s.h.size = s'.h.size → K s'.h) : st s.h (a.add (i.toNat * 1)) (.int .i64 x) K :=
  Own.st h rfl (by omega) fun s' h2 h3 h4 => hk s' (by rw [Nat.mul_one] at h2; unfold ivs at *; rw [List.map_set]; exact h2) (Ch.on_tag (Ch.refl _ _) h3 h.tagOf (by simp)) h4
section
variable {P : Program} {t ty e : TypeId} {E : List PanicEntry → Heap → Prop} {s : TH} {a xa : Option Addr} {n c m mc : Nat} {τ τ' : Nat} {K : Value → Heap → Prop}
theorem app_iv {xs ys : List Int} (ht : P.underlying t = some (.slice e)) (hi : (P.info? e).map (fun i => (i.zero, i.size, i.bytes)) = some (some (.int .i64 0), 1, 8))
    (hO : Own s a n c e 1 (ivs xs) τ) (hx : Sl s xa (ivs ys) τ') (hm : ys.length = m) (hb : n + m ≤ 17592186044416)
    (hk : ∀ (s' : TH) (a' : Option Addr) (c' : Nat), Own s' a' (n + m) c' e 1 (ivs (xs ++ ys)) τ → Ch [τ] s s' → K (.slice a' (n + m) c') s'.h) :
    semW P (Builtin.append_ #[t, t] ty #[.slice a n c, .slice xa m mc]) E s.h K :=
  app_i ht hi rfl hO hx (by rw [ivs_len]; omega) (ivs_one _) (fun h => by subst h; have h0 := congrArg List.length hx.len0; rw [ivs_len, List.length_nil] at h0; omega) (by unfold maxLen; omega)
    fun s' a' c' h1 h2 _ => hk s' a' c' (by rw [ivs_app]; exact h1) (h2.ch hO (by simp))
theorem app_i1 {xs : List Int} {r tr : Nat} {x : Int} (ht : P.underlying t = some (.slice e)) (hi : (P.info? e).map (fun i => (i.zero, i.size, i.bytes)) = some (some (.int .i64 0), 1, 8))
    (hO : Own s a n c e 1 (ivs xs) τ) (hx : Blk s r [.int .i64 x] tr τ') (hb : n + 1 ≤ 17592186044416)
    (hk : ∀ (s' : TH) (a' : Option Addr) (c' : Nat), Own s' a' (n + 1) c' e 1 (ivs (xs ++ [x])) τ → Ch [τ] s s' → K (.slice a' (n + 1) c') s'.h) :
    semW P (Builtin.append_ #[t, t] ty #[.slice a n c, .slice (some ⟨r, 0, none⟩) 1 mc]) E s.h K :=
  app_iv (ys := [x]) ht hi hO hx.sl rfl hb hk
theorem app_bv {xs ys : List UInt8} (ht : P.underlying t = some (.slice e)) (hi : (P.info? e).map (fun i => (i.zero, i.size, i.bytes)) = some (some (.int .u8 0), 1, 1))
    (hO : Own s a n c e 1 (bvs xs) τ) (hx : Sl s xa (bvs ys) τ') (hm : ys.length = m) (hb : n + m ≤ 140737488355328)
    (hk : ∀ (s' : TH) (a' : Option Addr) (c' : Nat), Own s' a' (n + m) c' e 1 (bvs (xs ++ ys)) τ → Ch [τ] s s' → K (.slice a' (n + m) c') s'.h) :
    semW P (Builtin.append_ #[t, t] ty #[.slice a n c, .slice xa m mc]) E s.h K :=
  app_i ht hi rfl hO hx (by rw [bvs_len]; omega) (bvs_one _) (fun h => by subst h; have h0 := congrArg List.length hx.len0; rw [bvs_len, List.length_nil] at h0; omega) (by unfold maxLen; omega)
    fun s' a' c' h1 h2 _ => hk s' a' c' (by unfold bvs at *; rw [List.map_append]; exact h1) (h2.ch hO (by simp))
end
/-- bytes, with others over them from a place on -/
def overlay (l : List UInt8) (p : Nat) (x : List UInt8) : List UInt8 := l.take p ++ x ++ l.drop (p + x.length)
theorem overlay_len {l : List UInt8} {p : Nat} {x : List UInt8} (h : p + x.length ≤ l.length) : (overlay l p x).length = l.length := by
  unfold overlay; rw [List.length_append, List.length_append, List.length_take, List.length_drop]; omega
theorem overlay_get {l : List UInt8} {p : Nat} {x : List UInt8} (h : p + x.length ≤ l.length) (i : Nat) : (overlay l p x)[i]? = if p ≤ i ∧ i < p + x.length then x[i - p]? else l[i]? := by
  unfold overlay
  rw [List.append_assoc, List.getElem?_append, List.length_take, Nat.min_eq_left (by omega)]
  by_cases h1 : i < p
  · rw [if_pos h1, if_neg (by omega), List.getElem?_take, if_pos h1]
  · rw [if_neg h1, List.getElem?_append]
    by_cases h2 : i < p + x.length
    · rw [if_pos (by omega), if_pos (by omega)]
    · rw [if_neg (by omega), if_neg (by omega), List.getElem?_drop]; congr 1; omega
theorem copy_sl {P : Program} {t t2 ty e : TypeId} {E : List PanicEntry → Heap → Prop} {s : TH} {a : Addr} {xa : Option Addr} {n c m mc τ τx : Nat} {p : Int} {l x : List UInt8} {K : Value → Heap → Prop}
    (ht : P.underlying t = some (.slice e)) (hi' : (P.info? e).map (fun i => (i.zero, i.size, i.bytes)) = some (some (.int .u8 0), 1, 1))
    (hO : Own s (some a) n c e 1 (bvs l) τ) (hx : Sl s xa (bvs x) τx) (hm : x.length = m) (h0 : 0 ≤ p) (hp : p.toNat + m ≤ n)
    (hk : ∀ s' : TH, Own s' (some a) n c e 1 (bvs (overlay l p.toNat x)) τ → Ch [τ] s s' → s.h.size = s'.h.size → K (.int .i64 (m : Int)) s'.h) :
    semW P (Builtin.copy_ #[t, t2] ty #[.slice (slO (some a) 1 p (c : Int)) (n - p.toNat) (c - p.toNat), .slice xa m mc]) E s.h K := by
  have hmin : min m (n - p.toNat) = m := by omega
  have h := copy_gen (P := P) (t2 := t2) (ty := ty) (E := E) (m := m) (x := x) (p := p.toNat) (src := .slice xa m mc) (K := K) ht hi' hO (by omega) (fun w => rfl) (by omega) (fun w hw => by
    rw [hmin]
    cases xa with
    | none =>
      have := congrArg List.length hx.len0
      rw [bvs_len, List.length_nil] at this
      obtain rfl : m = 0 := by omega
      have : x = [] := List.eq_nil_of_length_eq_zero hm
      subst this
      rw [run_firstCells_none]; rfl
    | some b => exact run_firstCells_some (P := P) w 1 m b m mc _ (by rw [bvs_len]; omega) fun j u hu => hx.cells w hw j u hu)
    (fun s' h1 h2 h3 => by rw [hmin]; exact hk s' h1 (h2.ch hO (by simp)) h3)
  rw [Int.toNat_of_nonneg h0] at h
  exact h
end Go.Proofs.YtklppdodadkcnaaGreat.E
/- Contracts of functions. -/
namespace Go.Proofs.YtklppdodadkcnaaGreat.E
open Go Go.Proofs Go.RowKit Go.Maps Go.Shelf Go.Sort
set_option linter.unusedVariables false
set_option linter.unusedSimpArgs false
structure PatM where
  id : Int
  blk : Int
  off : Int
  by_ : List UInt8
  needs : List Int
structure PatchM where
  last : Int
  done : List Int
  l : List PatM
def PatV (s : TH) (τ : Nat) (v : Value) (p : PatM) : Prop := ∃ ba bc na nc, v = .agg #[.int .i64 p.id, .int .i64 p.blk, .int .i64 p.off, .slice ba p.by_.length bc, .slice na p.needs.length nc] ∧ Sl s ba (bvs p.by_) τ ∧ Sl s na (ivs p.needs) τ
theorem PatV.mv {s s' : TH} {τ : Nat} {v : Value} {p : PatM} {B : Nat → Prop} (h : PatV s τ v p) (c : Chg B s s') (hn : ∀ j, j < s.h.size → s.g j = τ → ¬ B j) : PatV s' τ v p := by
  obtain ⟨ba, bc, na, nc, h1, h2, h3⟩ := h
  exact ⟨ba, bc, na, nc, h1, h2.mv c hn, h3.mv c hn⟩
def PMap (s : TH) (τ : Nat) : List (Int × Value) → List PatM → Prop
  | [], [] => True
  | e :: m, p :: l => e.1 = p.id ∧ PatV s τ e.2 p ∧ PMap s τ m l
  | _, _ => False
theorem PMap.mv {s s' : TH} {τ : Nat} {B : Nat → Prop} : ∀ {m : List (Int × Value)} {l : List PatM}, PMap s τ m l → Chg B s s' → (∀ j, j < s.h.size → s.g j = τ → ¬ B j) → PMap s' τ m l
  | [], [], h, c, hn => trivial
  | e :: m, p :: l, h, c, hn => ⟨h.1, h.2.1.mv c hn, PMap.mv h.2.2 c hn⟩
  | [], _ :: _, h, _, _ => h.elim
  | _ :: _, [], h, _, _ => h.elim
theorem PMap.keys {s : TH} {τ : Nat} : ∀ {m : List (Int × Value)} {l : List PatM}, PMap s τ m l → m.map (·.1) = l.map (·.id)
  | [], [], _ => rfl
  | e :: m, p :: l, h => by rw [List.map_cons, List.map_cons, h.1, PMap.keys h.2.2]
  | [], _ :: _, h => h.elim
  | _ :: _, [], h => h.elim
def PatchM.find (P : PatchM) (i : Int) : Option PatM := P.l.find? fun p => p.id == i
def PatchM.all (P : PatchM) : List Int := P.l.map (·.id)
def PatchM.pend (P : PatchM) (ids : List Int) : List Int := P.all.filter fun i => decide (i ∈ ids)
def PatchM.of (P : PatchM) (b : Int) : List Int := (P.l.filter fun p => p.blk == b).map (·.id)
theorem PMap.some_ {s : TH} {τ : Nat} : ∀ {m : List (Int × Value)} {l : List PatM} {i : Int} {p : PatM}, PMap s τ m l → (l.find? fun p => p.id == i) = some p → ∃ v, mget i m = some v ∧ PatV s τ v p ∧ p.id = i ∧ (i, v) ∈ m
  | [], [], i, p, h, hf => by simp at hf
  | e :: m, q :: l, i, p, h, hf => by
    obtain ⟨k, v⟩ := e
    rw [List.find?_cons] at hf
    have hk : k = q.id := h.1
    by_cases hq : q.id = i
    · rw [show (q.id == i) = true by simpa using hq] at hf
      simp at hf; subst hf
      exact ⟨v, by rw [mget, if_pos (by rw [hk, hq])], h.2.1, hq, by rw [← hq, ← hk]; simp⟩
    · rw [show (q.id == i) = false by simpa using hq] at hf
      obtain ⟨v', h1, h2, h3, h4⟩ := PMap.some_ h.2.2 hf
      exact ⟨v', by rw [mget, if_neg (by rw [hk]; exact fun e => hq e.symm)]; exact h1, h2, h3, List.mem_cons_of_mem _ h4⟩
  | [], _ :: _, _, _, h, _ => h.elim
  | _ :: _, [], _, _, h, _ => h.elim
theorem PMap.none_ {s : TH} {τ : Nat} {m : List (Int × Value)} {l : List PatM} {i : Int} (h : PMap s τ m l) (hf : (l.find? fun p => p.id == i) = none) : mget i m = none := mget_none (by
  rw [h.keys]; intro hm
  obtain ⟨p, hp, e⟩ := List.mem_map.1 hm
  have := List.find?_eq_none.1 hf p hp
  simp [e] at this)
theorem PMap.mem_ {s : TH} {τ : Nat} : ∀ {m : List (Int × Value)} {l : List PatM} {k : Int} {v : Value}, PMap s τ m l → (k, v) ∈ m → ∃ p ∈ l, p.id = k ∧ PatV s τ v p
  | [], [], k, v, h, hm => by cases hm
  | e :: m, q :: l, k, v, h, hm => by
    rcases List.mem_cons.1 hm with rfl | hm
    · exact ⟨q, by simp, h.1.symm, h.2.1⟩
    · obtain ⟨p, h1, h2⟩ := PMap.mem_ h.2.2 hm
      exact ⟨p, List.mem_cons_of_mem _ h1, h2⟩
  | [], _ :: _, _, _, h, _ => h.elim
  | _ :: _, [], _, _, h, _ => h.elim
theorem PMap.snoc {s : TH} {τ : Nat} {v : Value} {p : PatM} (hv : PatV s τ v p) : ∀ {m : List (Int × Value)} {l : List PatM}, PMap s τ m l → p.id ∉ l.map (·.id) → PMap s τ (mset p.id v m) (l ++ [p])
  | [], [], h, _ => ⟨rfl, hv, trivial⟩
  | e :: m, q :: l, h, hn => by
    obtain ⟨k, x⟩ := e
    have hk : k = q.id := h.1
    rw [List.map_cons, List.mem_cons, not_or] at hn
    show PMap s τ (if p.id = k then (p.id, v) :: m else (k, x) :: mset p.id v m) (q :: (l ++ [p]))
    rw [if_neg (by rw [hk]; exact hn.1)]
    exact ⟨h.1, h.2.1, PMap.snoc hv h.2.2 hn.2⟩
  | [], _ :: _, h, _ => h.elim
  | _ :: _, [], h, _ => h.elim
theorem PMap.del {s : TH} {τ : Nat} {i : Int} : ∀ {m : List (Int × Value)} {l : List PatM}, PMap s τ m l → (l.map (·.id)).Nodup → PMap s τ (mdel i m) (l.filter fun p => !(p.id == i))
  | [], [], h, _ => trivial
  | e :: m, q :: l, h, hn => by
    obtain ⟨k, x⟩ := e
    have hk : k = q.id := h.1
    rw [List.map_cons, List.nodup_cons] at hn
    show PMap s τ (if i = k then m else (k, x) :: mdel i m) _
    rw [List.filter_cons]
    by_cases hq : q.id = i
    · rw [if_pos (by rw [hk, hq]), show (!(q.id == i)) = false by simpa using hq]
      simp only [Bool.false_eq_true, if_false]
      have : (l.filter fun p => !(p.id == i)) = l := List.filter_eq_self.2 fun p hp => by
        simp only [Bool.not_eq_true', beq_eq_false_iff_ne]
        intro e; exact hn.1 (by rw [hq, ← e]; exact List.mem_map.2 ⟨p, hp, rfl⟩)
      rw [this]; exact h.2.2
    · rw [if_neg (by rw [hk]; exact fun e => hq e.symm), show (!(q.id == i)) = true by simpa using hq]
      simp only [if_true]
      exact ⟨h.1, h.2.1, PMap.del h.2.2 hn.2⟩
  | [], _ :: _, h, _ => h.elim
  | _ :: _, [], h, _ => h.elim
structure POk (P : PatchM) : Prop where
  srt : P.l.Pairwise fun x y => x.id < y.id
  rng : ∀ x ∈ P.l, 1 ≤ x.id ∧ x.id ≤ P.last
  fit : ∀ x ∈ P.l, 0 ≤ x.blk ∧ 0 ≤ x.off ∧ 1 ≤ x.by_.length ∧ x.off + x.by_.length ≤ 128
  nds : ∀ x ∈ P.l, ∀ n ∈ x.needs, 1 ≤ n ∧ n < x.id
  nsr : ∀ x ∈ P.l, x.needs.Pairwise (· < ·)
  dn : ∀ i ∈ P.done, 1 ≤ i ∧ i ≤ P.last
  all : ∀ i, 1 ≤ i → i ≤ P.last → i ∈ P.done ∨ i ∈ P.l.map (·.id)
  dis : ∀ i ∈ P.done, i ∉ P.l.map (·.id)
  lst : 0 ≤ P.last ∧ P.last ≤ 1000000
structure PSetP (s : TH) (p T : Nat) (P : PatchM) (r1 r2 : Nat) (m1 m2 : List (Int × Value)) : Prop where
  blk : Blk s p [.int .i64 P.last, .map (some r1), .map (some r2), .bool true] 218 T
  dm : MapK (Value.int .i64) s r1 m1 (T + 1)
  lm : MapK (Value.int .i64) s r2 m2 (T + 2)
  pm : PMap s (T + 3) m2 P.l
  dk : m1.map (·.1) = P.done
  dv : ∀ e ∈ m1, e.2 = .agg #[]
/-- a set of patches -/
structure PSet (s : TH) (p T : Nat) (P : PatchM) : Prop where
  p : ∃ r1 r2 m1 m2, PSetP s p T P r1 r2 m1 m2
  ok : POk P
theorem PSetP.mv {s s' : TH} {p T r1 r2 : Nat} {P : PatchM} {m1 m2 : List (Int × Value)} {B : Nat → Prop} (h : PSetP s p T P r1 r2 m1 m2) (c : Chg B s s') (hn : ∀ j, j < s.h.size → T ≤ s.g j → s.g j < T + 10 → ¬ B j) : PSetP s' p T P r1 r2 m1 m2 :=
  ⟨h.blk.mv c (of_rng hn (Nat.le_refl _) (by omega) p h.blk.lt h.blk.tag), h.dm.mv c (of_rng hn (by omega) (by omega) r1 h.dm.lt h.dm.tag), h.lm.mv c (of_rng hn (by omega) (by omega) r2 h.lm.lt h.lm.tag), h.pm.mv c (of_rng hn (by omega) (by omega)), h.dk, h.dv⟩
theorem PSet.mv {s s' : TH} {p T : Nat} {P : PatchM} {B : Nat → Prop} (h : PSet s p T P) (c : Chg B s s') (hn : ∀ j, j < s.h.size → T ≤ s.g j → s.g j < T + 10 → ¬ B j) : PSet s' p T P := by
  obtain ⟨⟨r1, r2, m1, m2, hp⟩, ok⟩ := h
  exact ⟨⟨r1, r2, m1, m2, hp.mv c hn⟩, ok⟩
theorem POk.nodup {P : PatchM} (h : POk P) : (P.l.map (·.id)).Nodup := (List.pairwise_map.2 h.srt).imp fun {a b} hab => by omega
theorem POk.asrt {P : PatchM} (h : POk P) : P.all.Pairwise (· < ·) := List.pairwise_map.2 h.srt
theorem POk.find_mem {P : PatchM} {i : Int} {x : PatM} (hf : P.find i = some x) : x ∈ P.l ∧ x.id = i := ⟨List.mem_of_find?_eq_some hf, by simpa using List.find?_some hf⟩
theorem find_isSome {P : PatchM} {i : Int} : (P.find i).isSome = true ↔ i ∈ P.all := by
  unfold PatchM.find PatchM.all
  rw [List.find?_isSome]
  constructor
  · rintro ⟨x, hx, e⟩; exact List.mem_map.2 ⟨x, hx, by simpa using e⟩
  · intro h; obtain ⟨x, hx, e⟩ := List.mem_map.1 h; exact ⟨x, hx, by simpa using e⟩
/-- strictly rising numbers of a stretch -/
theorem rise_len : ∀ (l : List Int) (a b : Int), l.Pairwise (· < ·) → (∀ x ∈ l, a ≤ x ∧ x ≤ b) → a ≤ b + 1 → (l.length : Int) ≤ b - a + 1
  | [], a, b, _, _, hab => by simp; omega
  | x :: l, a, b, h, hr, hab => by
    rw [List.pairwise_cons] at h
    have hx := hr x (by simp)
    have := rise_len l (x + 1) b h.2 (fun y hy => ⟨by have := h.1 y hy; omega, (hr y (List.mem_cons_of_mem _ hy)).2⟩) (by omega)
    rw [List.length_cons]; omega
theorem POk.lenl {P : PatchM} (h : POk P) : (P.l.length : Int) ≤ P.last := by
  have := rise_len P.all 1 P.last h.asrt (fun x hx => by obtain ⟨p, hp, rfl⟩ := List.mem_map.1 hx; exact h.rng p hp) (by have := h.lst; omega)
  unfold PatchM.all at this; rw [List.length_map] at this; omega
theorem dA5 {a b c d e : Value} {k : VF 5} (h : (k : Value → Value → Value → Value → Value → Prop) a b c d e) : dA 5 (.agg #[a, b, c, d, e]) k := h
theorem in220 : (Tryz.prog.info? 220).map (fun i => (i.zero, i.size, i.bytes)) = some (some (.agg #[.int .i64 0, .int .i64 0, .int .i64 0, .slice none 0 0, .slice none 0 0]), 5, 72) := by kernel_rfl
theorem z220 (w : World) : (zeroValue 220).run Tryz.prog w = .ok (.agg #[.int .i64 0, .int .i64 0, .int .i64 0, .slice none 0 0, .slice none 0 0]) w := by kernel_rfl
theorem um216 : Tryz.prog.underlying 216 = some (.map 3 220) := by kernel_rfl
/-- (*bollard/patch.Set).own -/
theorem c_own (p T : Nat) (P : PatchM)  (s : TH) (hT : 10 ≤ T) (hp : PSet s p T P) : TRet Tryz.prog 134 #[.pointer (some ⟨p, 0, none⟩)] s fun v s' => v = .bool true ∧ Ch [] s s' := by
  obtain ⟨⟨rd, rl, md, ml, hP⟩, ok⟩ := id hp
  have hpb := hP.blk
  have hpd := hP.dm
  have hpl := hP.lm
  have hpm := hP.pm
  have hlst := ok.lst
  refine F134_calls _  ?_
  unfold F134
  refine sB_t (by rfl) ?_
  refine nz_i ?_
  refine ld_t hpb rfl ?_
  refine dBl_i ?_
  refine ret_t ?_
  exact ⟨rfl, (Ch.refl [] s)⟩
def fitsP (b o n : Int) : Prop := 0 ≤ b ∧ 0 ≤ o ∧ 0 < n ∧ o ≤ 128 ∧ n ≤ 128 - o
instance (b o n : Int) : Decidable (fitsP b o n) := by unfold fitsP; infer_instance
def ovl (b o n b' o' n' : Int) : Prop := b = b' ∧ o < o' + n' ∧ o' < o + n
instance (b o n b' o' n' : Int) : Decidable (ovl b o n b' o' n') := by unfold ovl; infer_instance
/-- bollard/patch.fits -/
theorem c_fits (b o : Int) (xa : Option Addr) (xn xc : Nat) (s : TH) : TRet Tryz.prog 135 #[.int .i64 b, .int .i64 o, .slice xa xn xc] s fun v s' => v = .bool (decide (fitsP b o xn)) ∧ Ch [] s s' := by
  refine F135_calls _ _ _ _ _  ?_
  unfold F135
  refine sB_d (fun hsB1 => ?_) (fun hsB1 => ?_)
  ·
    refine sB_d (fun hsB2 => ?_) (fun hsB2 => ?_)
    ·
      refine sB_d (fun hsB3 => ?_) (fun hsB3 => ?_)
      ·
        refine sB_d (fun hsB4 => ?_) (fun hsB4 => ?_)
        ·
          refine wr_t (by omega) ?_
          refine ret_t ?_
          exact ⟨ret_b (by unfold fitsP; first | exact (decide_eq_false (by omega)).symm | exact (decide_eq_true (by omega)).symm | exact decide_eq_decide.2 (by omega)), (Ch.refl [] s)⟩
        ·
          refine ret_t ?_
          exact ⟨ret_b (by unfold fitsP; first | exact (decide_eq_false (by omega)).symm | exact (decide_eq_true (by omega)).symm | exact decide_eq_decide.2 (by omega)), (Ch.refl [] s)⟩
      ·
        refine ret_t ?_
        exact ⟨ret_b (by unfold fitsP; first | exact (decide_eq_false (by omega)).symm | exact (decide_eq_true (by omega)).symm | exact decide_eq_decide.2 (by omega)), (Ch.refl [] s)⟩
    ·
      refine ret_t ?_
      exact ⟨ret_b (by unfold fitsP; first | exact (decide_eq_false (by omega)).symm | exact (decide_eq_true (by omega)).symm | exact decide_eq_decide.2 (by omega)), (Ch.refl [] s)⟩
  ·
    refine ret_t ?_
    exact ⟨ret_b (by unfold fitsP; first | exact (decide_eq_false (by omega)).symm | exact (decide_eq_true (by omega)).symm | exact decide_eq_decide.2 (by omega)), (Ch.refl [] s)⟩
/-- (*bollard/patch.Set).known -/
theorem c_known (p T : Nat) (P : PatchM) (i : Int) (s : TH) (hT : 10 ≤ T) (hp : PSet s p T P) : TRet Tryz.prog 138 #[.pointer (some ⟨p, 0, none⟩), .int .i64 i] s fun v s' => v = .bool (decide (1 ≤ i ∧ i ≤ P.last)) ∧ Ch [] s s' := by
  obtain ⟨⟨rd, rl, md, ml, hP⟩, ok⟩ := id hp
  have hpb := hP.blk
  have hpd := hP.dm
  have hpl := hP.lm
  have hpm := hP.pm
  have hlst := ok.lst
  refine F138_calls _ _  ?_
  unfold F138
  refine sB_d (fun hsB1 => ?_) (fun hsB1 => ?_)
  ·
    refine nz_i ?_
    refine ld_t hpb rfl ?_
    refine dInt_i ?_
    refine ret_t ?_
    exact ⟨ret_b (by first | exact (decide_eq_false (by omega)).symm | exact (decide_eq_true (by omega)).symm | exact decide_eq_decide.2 (by omega)), (Ch.refl [] s)⟩
  ·
    refine ret_t ?_
    exact ⟨ret_b (by first | exact (decide_eq_false (by omega)).symm | exact (decide_eq_true (by omega)).symm | exact decide_eq_decide.2 (by omega)), (Ch.refl [] s)⟩
/-- bollard/patch.overlap -/
theorem c_overlap (i0 b0 o0 : Int) (x0 : Option Addr) (n0 c0 : Nat) (y0 : Option Addr) (m0 d0 : Nat) (i1 b1 o1 : Int) (x1 : Option Addr) (n1 c1 : Nat) (y1 : Option Addr) (m1 d1 : Nat) (s : TH) (h0 : 0 ≤ o0 ∧ o0 + n0 ≤ 128) (h1 : 0 ≤ o1 ∧ o1 + n1 ≤ 128) : TRet Tryz.prog 141 #[.agg #[.int .i64 i0, .int .i64 b0, .int .i64 o0, .slice x0 n0 c0, .slice y0 m0 d0], .agg #[.int .i64 i1, .int .i64 b1, .int .i64 o1, .slice x1 n1 c1, .slice y1 m1 d1]] s fun v s' => v = .bool (decide (ovl b0 o0 n0 b1 o1 n1)) ∧ Ch [] s s' := by
  obtain ⟨M, hM, hM0, hMa, hMb, hMc, hMd, hMe, hMf⟩ := fresh6 s 0 0 0 0 0 0
  refine F141_calls _ _ _ _ _ _ _ _ _ _  ?_
  unfold F141
  refine al_t (M + 1) fun r1 s2 hr1 b_1 c_2 z_3 => ?_
  refine al_t (M + 2) fun r3 s4 hr3 b_4 c_5 z_6 => ?_
  have h_7 := b_1.ch c_5 (by simp)
  refine ld_t h_7 rfl ?_
  refine dInt_i ?_
  refine ld_t b_4 rfl ?_
  refine dInt_i ?_
  refine sB_d (fun hsB1 => ?_) (fun hsB1 => ?_)
  ·
    refine ld_t h_7 rfl ?_
    refine dInt_i ?_
    refine ld_t b_4 rfl ?_
    refine dInt_i ?_
    refine ld_t b_4 rfl ?_
    refine dSl_i ?_
    refine wr_t (by omega) ?_
    refine sB_d (fun hsB2 => ?_) (fun hsB2 => ?_)
    ·
      refine ld_t b_4 rfl ?_
      refine dInt_i ?_
      refine ld_t h_7 rfl ?_
      refine dInt_i ?_
      refine ld_t h_7 rfl ?_
      refine dSl_i ?_
      refine wr_t (by omega) ?_
      refine ret_t ?_
      exact ⟨ret_b (by unfold ovl; first | exact (decide_eq_false (by omega)).symm | exact (decide_eq_true (by omega)).symm | exact decide_eq_decide.2 (by omega)), (((Ch.refl [] s).ch c_2 (by simp)).ch c_5 (by simp))⟩
    ·
      refine ret_t ?_
      exact ⟨ret_b (by unfold ovl; first | exact (decide_eq_false (by omega)).symm | exact (decide_eq_true (by omega)).symm | exact decide_eq_decide.2 (by omega)), (((Ch.refl [] s).ch c_2 (by simp)).ch c_5 (by simp))⟩
  ·
    refine ret_t ?_
    exact ⟨ret_b (by unfold ovl; first | exact (decide_eq_false (by omega)).symm | exact (decide_eq_true (by omega)).symm | exact decide_eq_decide.2 (by omega)), (((Ch.refl [] s).ch c_2 (by simp)).ch c_5 (by simp))⟩
theorem cpt_mem (l : List Int) (x : Int) : x ∈ cpt l ↔ x ∈ l := by
  refine snoc_ind (p := fun l => x ∈ cpt l ↔ x ∈ l) (by simp [cpt]) (fun l y ih => ?_) l
  rw [cpt_snoc, List.mem_append, List.mem_singleton]
  unfold cptS
  split
  · rename_i h
    rw [ih]
    constructor
    · exact .inl
    · rintro (h1 | rfl)
      · exact h1
      · exact ih.1 (List.mem_of_getLast? h)
  · rw [List.mem_append, List.mem_singleton, ih]
theorem cpt_srt {l : List Int} (h : l.Pairwise (· ≤ ·)) : (cpt l).Pairwise (· < ·) := by
  revert h
  refine snoc_ind (p := fun l => l.Pairwise (· ≤ ·) → (cpt l).Pairwise (· < ·)) (by simp [cpt]) (fun l y ih h => ?_) l
  rw [List.pairwise_append] at h
  rw [cpt_snoc]
  unfold cptS
  split
  · exact ih h.1
  · rename_i hy
    refine List.pairwise_append.2 ⟨ih h.1, by simp, fun a ha b hb => ?_⟩
    rw [List.mem_singleton] at hb; subst hb
    have h1 := h.2.2 a ((cpt_mem l a).1 ha) b (by simp)
    rcases Int.lt_or_eq_of_le h1 with h2 | h2
    · exact h2
    · exfalso; subst h2
      have h3 := ih h.1
      obtain ⟨i, hi, e⟩ := List.getElem_of_mem ha
      apply hy
      rw [List.getLast?_eq_getElem?]
      have hl : (cpt l).length - 1 < (cpt l).length := by omega
      rw [List.getElem?_eq_getElem hl]
      congr 1
      by_cases hlt : i < (cpt l).length - 1
      · have h4 := List.pairwise_iff_getElem.1 h3 i ((cpt l).length - 1) hi hl hlt
        have h5 := h.2.2 _ ((cpt_mem l _).1 (List.getElem_mem hl)) a (by simp)
        omega
      · have : i = (cpt l).length - 1 := by omega
        subst this; exact e
theorem srt_ext {l m : List Int} (hl : l.Pairwise (· < ·)) (hm : m.Pairwise (· < ·)) (h : ∀ x, x ∈ l ↔ x ∈ m) : l = m := by
  have nl : l.Nodup := hl.imp fun hab => by omega
  have nm : m.Nodup := hm.imp fun hab => by omega
  exact ((List.perm_ext_iff_of_nodup nl nm).2 h).eq_of_pairwise (le := (· < ·)) (fun a b _ _ h1 h2 => by omega) hl hm
theorem srtd (l : List Int) : (l.mergeSort fun x y => decide (x ≤ y)).Pairwise (· ≤ ·) := by
  have := List.pairwise_mergeSort (le := fun x y : Int => decide (x ≤ y)) (fun a b c h1 h2 => by simp at *; omega) (fun a b => by simp; omega) l
  exact this.imp fun h => by simpa using h
theorem srt_filter {l : List Int} (h : l.Pairwise (· < ·)) (q : Int → Bool) : (l.filter q).Pairwise (· < ·) := h.sublist List.filter_sublist
theorem pend_of {P : PatchM} (ok : POk P) (l ids : List Int) (h : ∀ x, x ∈ l ↔ x ∈ ids ∧ x ∈ P.all) : cpt (l.mergeSort fun x y => decide (x ≤ y)) = P.pend ids := by
  refine srt_ext (cpt_srt (srtd l)) (srt_filter ok.asrt _) fun x => ?_
  rw [cpt_mem, List.mem_mergeSort, h]
  unfold PatchM.pend
  simp [and_comm]
theorem take_get {α : Type} {l : List α} {k : Nat} {x : α} (h : l[k]? = some x) : l.take (k + 1) = l.take k ++ [x] := by
  rw [List.take_add_one, h]; rfl
/-- (*bollard/patch.Set).pending -/
theorem c_pending (p T : Nat) (P : PatchM) (τ : Nat) {xa : Option Addr} {xn : Nat} (xc : Nat) {ids : List Int} {τx : Nat} (s : TH) (hT : 10 ≤ T) (hp : PSet s p T P) (hx : Sl s xa (ivs ids) τx) (hn : ids.length = xn) (hb : xn ≤ 17592186044000) : TRet Tryz.prog 142 #[.pointer (some ⟨p, 0, none⟩), .slice xa xn xc] s fun v s' => ∃ a c', v = .slice a (P.pend ids).length c' ∧ Ch [] s s' ∧ Own s' a (P.pend ids).length c' 3 1 (ivs (P.pend ids)) τ := by
  obtain ⟨⟨rd, rl, md, ml, hP⟩, ok⟩ := id hp
  have hpb := hP.blk
  have hpd := hP.dm
  have hpl := hP.lm
  have hpm := hP.pm
  have hlst := ok.lst
  obtain ⟨M, hM, hM0, hMa, hMb, hMc, hMd, hMe, hMf⟩ := fresh6 s (T + 10) τx τ 0 0 0
  refine F142_calls _ _ _ _  ?_
  unfold F142
  refine ⟨fun vs H' => ∃ s' : TH, s'.h = H' ∧ ∃ q qn qc i, vs = [.slice q qn qc, .int .i64 i] ∧ Ch [M + 1, M + 9] s s' ∧ (∃ k : Nat, i = k ∧ k ≤ xn ∧ qn ≤ k ∧ Own s' q qn qc 3 1 (ivs ((ids.take k).filter fun x => decide (x ∈ P.all))) (M + 1)), fun vs H' => match vs with | [.slice q qn qc, .int .i64 i] => ((xn : Int) - i).toNat | _ => 0, ⟨s, rfl, _, _, _, _, rfl, Ch.refl _ _, ?_⟩, ?_⟩
  ·
    exact ⟨0, rfl, by omega, by omega, by simpa [ivs] using Own.nil _ _ _ _⟩
  ·
    intro q qn qc i _ _ _ _ _ _ _ _ _ _ _ _ _ _ _ _ _ _ _ _ _ H_ hI_2
    obtain ⟨s_1, rfl, q_, qn_, qc_, i_, hvs, c_3, k, rfl, hk, hq, ho⟩ := hI_2
    cases hvs
    have z_4 := c_3.size
    refine sB_d (fun hsB1 => ?_) (fun hsB1 => ?_)
    ·
      refine jn_u ?_
      have h_5 := hx.mv c_3 (tagn (by simp <;> omega))
      obtain ⟨a_6, rfl⟩ := h_5.ne_none (by simp [bvs_len, ivs_len]; omega)
      refine nz_i ?_
      refine ask_t (by omega) ?_
      refine ld_iv h_5 (by omega) (by omega) fun vel1 hel1 => ?_
      rw [Int.toNat_natCast] at hel1
      refine dInt_i ?_
      refine nz_i ?_
      have h_7 := hpb.ch c_3 (by simp <;> omega)
      refine ld_t h_7 rfl ?_
      refine dMap_i ?_
      rcases hfxsem1 : P.find vel1 with _ | xsem1
      ·
        have h_8 := hpl.ch c_3 (by simp <;> omega)
        have h_9 := hpm.mv c_3 (tagn (by simp <;> omega))
        refine look_okn keyI um216 z220 h_8 vel1 (h_9.none_ hfxsem1) ?_
        refine dT2 ?_
        refine dA5 ?_
        refine dBl_i ?_
        refine al_t (M + 9) fun r74 s75 hr74 b_10 c_11 z_12 => ?_
        refine st_t b_10 rfl (by simp) fun s76 b_13 c_14o z_15 => ?_
        have c_14 := on_ch b_10 c_14o
        refine st_t b_13 rfl (by simp) fun s77 b_16 c_17o z_18 => ?_
        have c_17 := on_ch b_13 c_17o
        refine st_t b_16 rfl (by simp) fun s78 b_19 c_20o z_21 => ?_
        have c_20 := on_ch b_16 c_20o
        refine st_t b_19 rfl (by simp) fun s79 b_22 c_23o z_24 => ?_
        have c_23 := on_ch b_19 c_23o
        refine st_t b_22 rfl (by simp) fun s80 b_25 c_26o z_27 => ?_
        have c_26 := on_ch b_22 c_26o
        refine sB_f (by rfl) ?_
        intro _
        intros
        refine dSl_i ?_
        refine wr_t (by omega) ?_
        refine ⟨⟨s80, rfl, _, _, _, _, rfl, ((((((((Ch.refl [M + 1, M + 9] s).ch c_3 (by simp)).ch c_11 (by simp)).ch c_14 (by simp)).ch c_17 (by simp)).ch c_20 (by simp)).ch c_23 (by simp)).ch c_26 (by simp)), ?_⟩, ?_⟩
        ·
          have h_28 := ho.mv (((((c_11.app c_14).app c_17).app c_20).app c_23).app c_26) (tagn (by simp))
          refine ⟨k + 1, by omega, by omega, by omega, ?_⟩
          have hn1 : decide (vel1 ∈ P.all) = false := by rw [decide_eq_false_iff_not, ← find_isSome, hfxsem1]; simp
          rw [take_get hel1, List.filter_append, List.filter_cons, hn1]
          simpa using h_28
        ·
          simp only []; omega
      ·
        have h_29 := hpm.mv c_3 (tagn (by simp <;> omega))
        obtain ⟨wsem1, hvxsem1, ⟨baxsem1, bcxsem1, naxsem1, ncxsem1, rfl, sbxsem1, snxsem1⟩, hidxsem1, hmemxsem1⟩ := h_29.some_ hfxsem1
        have h_30 := hpl.ch c_3 (by simp <;> omega)
        refine look_oks keyI um216 z220 h_30 vel1 hvxsem1 ?_
        refine dT2 ?_
        refine dA5 ?_
        refine dBl_i ?_
        refine al_t (M + 9) fun r74 s_31 hr74 b_32 c_33 z_34 => ?_
        refine st_t b_32 rfl (by simp) fun s_35 b_36 c_37o z_38 => ?_
        have c_37 := on_ch b_32 c_37o
        refine st_t b_36 rfl (by simp) fun s_39 b_40 c_41o z_42 => ?_
        have c_41 := on_ch b_36 c_41o
        refine st_t b_40 rfl (by simp) fun s_43 b_44 c_45o z_46 => ?_
        have c_45 := on_ch b_40 c_45o
        refine st_t b_44 rfl (by simp) fun s_47 b_48 c_49o z_50 => ?_
        have c_49 := on_ch b_44 c_49o
        refine st_t b_48 rfl (by simp) fun s_51 b_52 c_53o z_54 => ?_
        have c_53 := on_ch b_48 c_53o
        refine sB_t (by rfl) ?_
        refine al_t (M + 9) fun r81 s82 hr81 b_55 c_56 z_57 => ?_
        have h_60 := ho.mv ((((((c_33.app c_37).app c_41).app c_45).app c_49).app c_53).app c_56) (tagn (by simp))
        refine app_i1 u45 in3 h_60 b_55 (by omega) fun s_61 a_58 k_59 o_62 c_63 => ?_
        have z_64 := c_63.size
        refine dSl_i ?_
        intro _
        intros
        refine dSl_i ?_
        refine wr_t (by omega) ?_
        refine ⟨⟨s_61, rfl, _, _, _, _, rfl, ((((((((((Ch.refl [M + 1, M + 9] s).ch c_3 (by simp)).ch c_33 (by simp)).ch c_37 (by simp)).ch c_41 (by simp)).ch c_45 (by simp)).ch c_49 (by simp)).ch c_53 (by simp)).ch c_56 (by simp)).ch c_63 (by simp)), ?_⟩, ?_⟩
        ·
          refine ⟨k + 1, by omega, by omega, by omega, ?_⟩
          have hn1 : decide (vel1 ∈ P.all) = true := by rw [decide_eq_true_iff, ← find_isSome, hfxsem1]; simp
          rw [take_get hel1, List.filter_append, List.filter_cons, hn1]
          simpa using o_62
        ·
          simp only []; omega
    ·
      refine tcall (c_sortInt ho (by omega)) ?_
      rintro v_66 s_65 ⟨rfl, c_68, call1a⟩
      have z_69 := c_68.size
      refine tcall (c_compact call1a (by omega)) ?_
      rintro v_71 s_70 ⟨rfl, c_73, call2a⟩
      have z_74 := c_73.size
      refine dSl_i ?_
      have hk2 : ids.take k = ids := List.take_of_length_le (by omega)
      have ho := call2a
      rw [hk2] at ho
      have e := pend_of ok (ids.filter fun x => decide (x ∈ P.all)) ids (fun x => by simp)
      rw [e] at ho
      rw [hk2, e]
      exact ret_t' (s' := remark s_70 (M + 1) τ) rfl ⟨_, _, rfl, remark_ch ((((Ch.refl [] s).fr c_3 hM (by simp)).fr c_68 hM (by simp)).fr c_73 hM (by simp)) hM (by omega), ho.remark⟩
theorem msort_perm {a b : List Int} (h : a.Perm b) : (a.mergeSort fun x y => decide (x ≤ y)) = b.mergeSort fun x y => decide (x ≤ y) :=
  ((List.mergeSort_perm a _).trans (h.trans (List.mergeSort_perm b _).symm)).eq_of_pairwise (le := (· ≤ ·)) (fun x y _ _ h1 h2 => by omega) (srtd a) (srtd b)
theorem srtd_id {a : List Int} (h : a.Pairwise (· < ·)) : (a.mergeSort fun x y => decide (x ≤ y)) = a :=
  (List.mergeSort_perm a _).eq_of_pairwise (le := (· ≤ ·)) (fun x y _ _ h1 h2 => by omega) (srtd a) (h.imp fun h => by omega)
theorem c_collectB (τ : Nat) {Bm r tb τb τm : Nat} {m : List (Int × Value)} {s : TH} (hB : Blk s Bm [.map (some r)] tb τb) (hm : MapK (Value.int .i64) s r m τm) (hn : m.length ≤ 17592186044416) (hk : ∀ k ∈ m.map (·.1), inI64 k) :
    TRet Tryz.prog 219 #[.func (.func 220) #[] #[.pointer (some ⟨Bm, 0, none⟩)]] s fun v s' => ∃ a c ss, v = .slice a m.length c ∧ Ch [] s s' ∧ ss.Perm (m.map (·.1)) ∧ Own s' a m.length c 3 1 (ivs ss) τ := by
  refine TRet.mono (Q := fun v s' => (∃ a c ss, v = .slice a m.length c ∧ ss.Perm (m.map (·.1)) ∧ Own s' a m.length c 3 1 (ivs ss) τ) ∧ Ch [] s s') (tret_new τ fun w hw => ?_) (fun v s' ⟨⟨a, c, ss, h1, h2, h3⟩, h4⟩ => ⟨a, c, ss, h1, h4, h2, h3⟩)
  have hm0 : w.cell? ⟨Bm, 0, none⟩ = some (.map (some r)) := by rw [cell_eq, hw]; exact hB.cell 0
  obtain ⟨D0, ho, hp, hsz⟩ := owns_of (P := Tryz.prog) (K := 3) (by kernel_rfl) hm w hw hn hk
  have hseq : SeqGives Fence.wide 4 Tryz.prog 220 #[.pointer (some ⟨Bm, 0, none⟩)] encZ (fun ss : List Int => ss.Perm (intKeys D0)) (Go.Maps.size D0) w :=
    AnyZI.keys_gives (ρ := Tryz.keysB_ren) { Tryz.keysB with } Fence.wide 4 trivial rfl (by omega) Bm r m.length D0 w (by rw [hw]; exact hB.lt) hm0 ho
  have h := AnyZI.collect_in (ρ := Tryz.collectA_ren) Tryz.collectA Fence.wide 6 trivial trivial rfl (by omega) 220 #[.pointer (some ⟨Bm, 0, none⟩)] trivial (enters_of Tryz.func220 (by kernel_rfl) rfl) _ (Go.Maps.size D0) (by rw [hsz]; unfold maxLen; omega) (by rw [hsz]; omega) w hseq
  refine ((callsIn_wide (n := 6)).1 h).mono ?_
  rintro e w' ⟨v, ss, rfl, hs, hrow, hv, hb⟩
  have hp2 := hs.trans hp
  have hl : ss.length = m.length := by rw [hp2.length_eq]; simp
  obtain ⟨a, c, rfl, hO, hnew⟩ := own_of_row (g := fun j => if j < s.h.size then s.g j else τ) (τ := τ) hrow (fun j hj => by rw [if_neg (by rw [← hw]; omega)])
  rw [hl] at hO ⊢
  exact ⟨_, rfl, hb, a, c, ss, rfl, hp2, hO⟩
/-- maps.Keys[map[int]bollard/api.Patch,int,bollard/api.Patch] -/
theorem c_keysB (τ r : Nat) (s : TH) : TRet Tryz.prog 205 #[.map (some r)] s fun v s' => ∃ B, v = .func (.func 220) #[] #[.pointer (some ⟨B, 0, none⟩)] ∧ Ch [] s s' ∧ Blk s' B [.map (some r)] 216 τ := by
  refine F205_calls _  ?_
  unfold F205
  refine al_t τ fun r1 s2 hr1 b_1 c_2 z_3 => ?_
  refine ret_t ?_
  exact ⟨_, rfl, ((Ch.refl [] s).ch c_2 (by simp)), b_1⟩
/-- slices.Sorted[int] -/
theorem c_sortedB (τ : Nat) {Bm r tb τb τm : Nat} {m : List (Int × Value)} (s : TH) (hB : Blk s Bm [.map (some r)] tb τb) (hm : MapK (Value.int .i64) s r m τm) (hn : m.length ≤ 17592186044416) (hk : ∀ k ∈ m.map (·.1), inI64 k) : TRet Tryz.prog 204 #[.func (.func 220) #[] #[.pointer (some ⟨Bm, 0, none⟩)]] s fun v s' => ∃ a c, v = .slice a m.length c ∧ Ch [] s s' ∧ Own s' a m.length c 3 1 (ivs ((m.map (·.1)).mergeSort fun x y => decide (x ≤ y))) τ := by
  obtain ⟨M, hM, hM0, hMa, hMb, hMc, hMd, hMe, hMf⟩ := fresh6 s τb τm τ 0 0 0
  refine F204_calls _ _ _  ?_
  unfold F204
  refine tcall (c_collectB (M + 1) hB hm (by omega) hk) ?_
  rintro v_2 s_1 ⟨acall1, ccall1, sscall1, rfl, c_4, call1a, call1b⟩
  have z_5 := c_4.size
  refine dSl_i ?_
  refine tcall (c_sortInt call1b (by omega)) ?_
  rintro v_7 s_6 ⟨rfl, c_9, call2a⟩
  have z_10 := c_9.size
  have ho := call2a
  rw [show (sscall1.mergeSort fun x y => decide (x ≤ y)) = (m.map (·.1)).mergeSort fun x y => decide (x ≤ y) from msort_perm call1a] at ho
  exact ret_t' (s' := remark s_6 (M + 1) τ) rfl ⟨_, _, rfl, remark_ch (((Ch.refl [] s).ch c_4 (by simp)).fr c_9 hM (by simp)) hM (by omega), ho.remark⟩
/-- (*bollard/patch.Set).all -/
theorem c_pall (p T : Nat) (P : PatchM) (τ : Nat) (s : TH) (hT : 10 ≤ T) (hp : PSet s p T P) : TRet Tryz.prog 192 #[.pointer (some ⟨p, 0, none⟩)] s fun v s' => ∃ a c', v = .slice a P.l.length c' ∧ Ch [] s s' ∧ Own s' a P.l.length c' 3 1 (ivs P.all) τ := by
  obtain ⟨⟨rd, rl, md, ml, hP⟩, ok⟩ := id hp
  have hpb := hP.blk
  have hpd := hP.dm
  have hpl := hP.lm
  have hpm := hP.pm
  have hlst := ok.lst
  obtain ⟨M, hM, hM0, hMa, hMb, hMc, hMd, hMe, hMf⟩ := fresh6 s (T + 10) τ 0 0 0 0
  refine F192_calls _  ?_
  unfold F192
  refine nz_i ?_
  refine ld_t hpb rfl ?_
  refine dMap_i ?_
  refine tcall (c_keysB (M + 1) _ _) ?_
  rintro v_2 s_1 ⟨Bcall1, rfl, c_4, call1a⟩
  have z_5 := c_4.size
  have hkm := hpm.keys
  have hml : ml.length = P.l.length := by have := congrArg List.length hkm; simpa using this
  have hll := ok.lenl
  have h_6 := hpl.ch c_4 (by simp)
  refine tcall (c_sortedB τ _ call1a h_6 (by omega) (fun k hk => by rw [hkm] at hk; obtain ⟨x, hx, rfl⟩ := List.mem_map.1 hk; have := ok.rng x hx; unfold inI64; omega)) ?_
  rintro v_8 s_7 ⟨acall2, ccall2, rfl, c_10, call2a⟩
  have z_11 := c_10.size
  refine dSl_i ?_
  refine ret_t ?_
  have ho := call2a
  rw [hkm, show (P.l.map (·.id)) = P.all from rfl, srtd_id ok.asrt, hml] at ho
  rw [hml]
  exact ⟨_, _, rfl, (((Ch.refl [] s).ch c_4 (by simp)).ch c_10 (by simp)), ho⟩
set_option maxRecDepth 100000 in
/-- slices.IndexFunc[[]int,int] -/
theorem c_ixIntF {a : Option Addr} {n : Nat} (c : Nat) {g : Nat} {xf xc : Array Value} {l : List Int} {τ : Nat} {s : TH} (q : Int → Bool) (hq : Sl s a (ivs l) τ) (hn : l.length = n) (hb : n ≤ 140737488355328) (hg : plainFn Tryz.prog g = true) (hp : ∀ (s1 : TH) (x : Int), x ∈ l → Ch [] s s1 → TRet Tryz.prog g (argsOf xf [.int .i64 x] xc) s1 fun v s2 => v = .bool (q x) ∧ Ch [] s1 s2) : TRet Tryz.prog 173 #[.slice a n c, .func (.func g) xf xc] s fun v s' => v = .int .i64 (ixf q l) ∧ Ch [] s s' := by
  refine F173_calls _ _ _ _ _ _  ?_
  unfold F173
  refine ⟨fun vs H' => ∃ s' : TH, s'.h = H' ∧ ∃ m, vs = [.int .i64 m] ∧ Ch [] s s' ∧ (∃ k : Nat, m = k ∧ k ≤ n ∧ ∀ j x, j < k → l[j]? = some x → q x = false), fun vs H' => match vs with | [.int .i64 m] => ((n : Int) - m).toNat | _ => 0, ⟨s, rfl, _, rfl, Ch.refl _ _, ?_⟩, ?_⟩
  ·
    exact ⟨0, rfl, by omega, fun j x h => by omega⟩
  ·
    intro m _ _ _ _ _ _ _ _ _ _ _ _ H_ hI_2
    obtain ⟨s_1, rfl, m_, hvs, c_3, k, rfl, hk, hall⟩ := hI_2
    cases hvs
    have z_4 := c_3.size
    refine sB_d (fun hsB1 => ?_) (fun hsB1 => ?_)
    ·
      have h_5 := hq.mv c_3 (tagn (by simp))
      obtain ⟨a_6, rfl⟩ := h_5.ne_none (by simp [bvs_len, ivs_len]; omega)
      refine nz_i ?_
      refine ask_t (by omega) ?_
      refine ld_iv h_5 (by omega) (by omega) fun vel1 hel1 => ?_
      rw [Int.toNat_natCast] at hel1
      refine dInt_i ?_
      refine gB_i hg ?_
      refine tcall (hp _ _ (List.mem_of_getElem? hel1) ((Ch.refl [] s).ch c_3 (by simp))) ?_
      rintro v_8 s_7 ⟨rfl, c_10⟩
      have z_11 := c_10.size
      refine dBl_i ?_
      refine sB_i (fun hsB2 => ?_) (fun hsB2 => ?_)
      ·
        refine ret_t ?_
        exact ⟨ret_i (ixf_some hel1 hsB2 hall).symm, (((Ch.refl [] s).ch c_3 (by simp)).ch c_10 (by simp))⟩
      ·
        refine wr_t (by omega) ?_
        refine ⟨⟨s_7, rfl, _, rfl, (((Ch.refl [] s).ch c_3 (by simp)).ch c_10 (by simp)), ?_⟩, ?_⟩
        ·
          refine ⟨k + 1, by omega, by omega, fun j y hj hy => ?_⟩
          by_cases e : j = k
          · subst e; rw [hel1] at hy; cases hy; exact hsB2
          · exact hall j y (by omega) hy
        ·
          simp only []; omega
    ·
      refine ret_t ?_
      exact ⟨ret_i (ixf_none fun j y hj hy => hall j y (by omega) hy).symm, ((Ch.refl [] s).ch c_3 (by simp))⟩
/-- slices.ContainsFunc[[]int,int] -/
theorem c_ctIntF {a : Option Addr} {n : Nat} (c : Nat) {g : Nat} {xf xc : Array Value} {l : List Int} {τ : Nat} {s : TH} (q : Int → Bool) (hq : Sl s a (ivs l) τ) (hn : l.length = n) (hb : n ≤ 140737488355328) (hg : plainFn Tryz.prog g = true) (hp : ∀ (s1 : TH) (x : Int), x ∈ l → Ch [] s s1 → TRet Tryz.prog g (argsOf xf [.int .i64 x] xc) s1 fun v s2 => v = .bool (q x) ∧ Ch [] s1 s2) : TRet Tryz.prog 136 #[.slice a n c, .func (.func g) xf xc] s fun v s' => v = .bool (l.any q) ∧ Ch [] s s' := by
  refine F136_calls _ _ _ _ _ _  ?_
  unfold F136
  refine tcall (c_ixIntF c q hq hn hb hg hp) ?_
  rintro v_2 s_1 ⟨rfl, c_4⟩
  have z_5 := c_4.size
  refine dInt_i ?_
  refine ret_t ?_
  refine ⟨ret_b ?_, ((Ch.refl [] s).ch c_4 (by simp))⟩
  rcases ixf_cases q l with ⟨h1, h2⟩ | ⟨k, x, h1, h2, h3⟩
  · rw [h1, List.any_eq_false.2 (fun x hx => by simp [h2 x hx])]; rfl
  · rw [h1, List.any_eq_true.2 ⟨x, List.mem_of_getElem? h2, h3⟩]; exact decide_eq_true (by omega)
theorem set_take_snoc {l : List Int} {i : Nat} {x : Int} (h : i < l.length) : (l.set i x).take (i + 1) = l.take i ++ [x] := by
  rw [List.take_add_one, List.getElem?_set_self h, List.take_set_of_le (Nat.le_refl _)]; rfl
theorem filt_snoc {l : List Int} {k : Nat} {x : Int} (q : Int → Bool) (h : l[k]? = some x) : (l.take (k + 1)).filter (fun y => !q y) = if q x = true then (l.take k).filter (fun y => !q y) else (l.take k).filter (fun y => !q y) ++ [x] := by
  rw [take_get h, List.filter_append, List.filter_cons]
  cases hq : q x <;> simp
theorem ixf_take {l : List Int} {q : Int → Bool} {k : Nat} (h : ixf q l = (k : Int)) : ∃ x, l[k]? = some x ∧ q x = true ∧ (l.take k).filter (fun y => !q y) = l.take k := by
  have : ∀ (l : List Int) (i k : Nat), ixr q l i = ((i + k : Nat) : Int) → ∃ x, l[k]? = some x ∧ q x = true ∧ (l.take k).filter (fun y => !q y) = l.take k := fun l => by
    induction l with
    | nil => intro i k h; simp [ixr] at h; omega
    | cons y l ih =>
      intro i k h
      rw [ixr] at h
      cases hy : q y with
      | true =>
        rw [hy, if_pos rfl] at h
        obtain rfl : k = 0 := by omega
        exact ⟨y, rfl, hy, by simp⟩
      | false =>
        rw [hy, if_neg (by simp)] at h
        cases k with
        | zero =>
          exfalso
          have hr : ixr q l (i + 1) = -1 ∨ (i + 1 : Nat) ≤ ixr q l (i + 1) := by
            clear h ih hy
            generalize i + 1 = m
            induction l generalizing m with
            | nil => left; rfl
            | cons z l ih =>
              rw [ixr]
              cases q z with
              | true => right; simp
              | false => rcases ih (m + 1) with h | h <;> simp [h] <;> omega
          omega
        | succ k =>
          obtain ⟨x, h1, h2, h3⟩ := ih (i + 1) k (by rw [h]; congr 1; omega)
          exact ⟨x, by simpa using h1, h2, by rw [List.take_succ_cons, List.filter_cons, hy]; simp only [Bool.not_false, if_true]; rw [h3]⟩
  exact this l 0 k (by rw [show 0 + k = k by omega]; exact h)
set_option maxRecDepth 100000 in
/-- slices.DeleteFunc[[]int,int] -/
theorem c_dfInt {a : Option Addr} {n : Nat} (c : Nat) {g : Nat} {xf xc : Array Value} {l : List Int} {τ : Nat} {s : TH} (q : Int → Bool) (hO : Own s a n c 3 1 (ivs l) τ) (hb : n ≤ 17592186044416) (hg : plainFn Tryz.prog g = true) (hp : ∀ (s1 : TH) (x : Int), x ∈ l → Ch [τ] s s1 → TRet Tryz.prog g (argsOf xf [.int .i64 x] xc) s1 fun v s2 => v = .bool (q x) ∧ Ch [] s1 s2) : TRet Tryz.prog 191 #[.slice a n c, .func (.func g) xf xc] s fun v s' => v = .slice a (l.filter fun y => !q y).length c ∧ Ch [τ] s s' ∧ Own s' a (l.filter fun y => !q y).length c 3 1 (ivs (l.filter fun y => !q y)) τ := by
  have hl : l.length = n := by have := hO.1; rw [ivs_len] at this; omega
  have hle := hO.le
  refine F191_calls _ _ _ _ _ _  ?_
  unfold F191
  refine tcall (c_ixIntF c q hO.sl hl (by omega) hg (fun s1 x hx hc => hp s1 x hx (hc.less (by simp)))) ?_
  rintro v_2 s_1 ⟨rfl, c_4⟩
  have z_5 := c_4.size
  refine dInt_i ?_
  refine sB_i (fun hsB1 => ?_) (fun hsB1 => ?_)
  ·
    simp only [beq_iff_eq, beq_eq_false_iff_ne] at hsB1
    refine ret_t ?_
    have h_6 := hO.mv c_4 (tagn (by simp))
    rcases ixf_cases q l with ⟨h1, h2⟩ | ⟨k, x, h1, h2, h3⟩
    rotate_left
    · omega
    have e : (l.filter fun y => !q y) = l := List.filter_eq_self.2 fun x hx => by simp [h2 x hx]
    rw [e, hl]
    exact ⟨rfl, ((Ch.refl [τ] s).ch c_4 (by simp)), h_6⟩
  ·
    simp only [beq_iff_eq, beq_eq_false_iff_ne] at hsB1
    obtain ⟨k0, hk0⟩ : ∃ k : Nat, ixf q l = (k : Int) := by
      rcases ixf_cases q l with ⟨h1, h2⟩ | ⟨k, x, h1, h2, h3⟩
      · exact absurd h1 hsB1
      · exact ⟨k, h1⟩
    obtain ⟨x0, hx0, hq0, hf0⟩ := ixf_take hk0
    have hk0l := (List.getElem?_eq_some_iff.1 hx0).1
    rw [hk0]
    refine wr_t (by omega) ?_
    refine ⟨fun vs H' => ∃ s' : TH, s'.h = H' ∧ ∃ i1 j1, vs = [.int .i64 i1, .int .i64 j1] ∧ Ch [τ] s_1 s' ∧ (∃ (i j : Nat) (X : List Int), i1 = i ∧ j1 = j ∧ i < j ∧ j ≤ n ∧ Own s' a n c 3 1 (ivs X) τ ∧ X.drop j = l.drop j ∧ X.take i = (l.take j).filter fun y => !q y), fun vs H' => match vs with | [.int .i64 i1, .int .i64 j1] => ((n : Int) - j1).toNat | _ => 0, ⟨s_1, rfl, _, _, rfl, Ch.refl _ _, ?_⟩, ?_⟩
    ·
      have h_7 := hO.mv c_4 (tagn (by simp))
      refine ⟨k0, k0 + 1, l, rfl, by omega, by omega, by omega, h_7, rfl, ?_⟩
      rw [filt_snoc q hx0, if_pos hq0, hf0]
    ·
      intro i1 j1 _ _ _ _ _ _ _ _ _ _ _ _ _ _ _ _ _ _ _ _ _ H_ hI_9
      obtain ⟨s_8, rfl, i1_, j1_, hvs, c_10, i, j, X, rfl, rfl, hij, hj, ho, hX1, hX2⟩ := hI_9
      cases hvs
      have z_11 := c_10.size
      have hXn : X.length = n := by have := ho.1; rw [ivs_len] at this; omega
      refine sB_d (fun hsB2 => ?_) (fun hsB2 => ?_)
      ·
        refine jn_u ?_
        obtain ⟨a_12, rfl⟩ := ho.ne_none (by omega)
        refine nz_i ?_
        refine ask_t (by omega) ?_
        refine ld_iv ho.sl (by omega) (by omega) fun vel1 hel1 => ?_
        rw [Int.toNat_natCast] at hel1
        refine dInt_i ?_
        refine gB_i hg ?_
        have hlj : l[j]? = some vel1 := by have := congrArg (·[0]?) hX1; simp only [List.getElem?_drop, Nat.add_zero] at this; rw [← this]; exact hel1
        refine tcall (hp _ _ (List.mem_of_getElem? hlj) (((Ch.refl [τ] s).ch c_4 (by simp)).ch c_10 (by simp))) ?_
        rintro v_14 s_13 ⟨rfl, c_16⟩
        have z_17 := c_16.size
        refine dBl_i ?_
        refine sB_n (fun hsB3 => ?_) (fun hsB3 => ?_)
        ·
          refine nz_i ?_
          refine ask_t (by omega) ?_
          have h_21 := ho.mv c_16 (tagn (by simp))
          refine st_iv h_21 (by omega) (by omega) fun s59 b_18 c_19 z_20 => ?_
          refine wr_t (by omega) ?_
          intro _
          intros
          refine dInt_i ?_
          refine wr_t (by omega) ?_
          refine ⟨⟨s59, rfl, _, _, rfl, ((((Ch.refl [τ] s_1).ch c_10 (by simp)).ch c_16 (by simp)).ch c_19 (by simp)), ?_⟩, ?_⟩
          ·
            refine ⟨i + 1, j + 1, X.set i vel1, by omega, by omega, by omega, by omega, ?_, ?_, ?_⟩
            · have h := b_18; rw [Int.toNat_natCast] at h; exact h
            · rw [List.drop_set_of_lt (by omega), ← List.drop_drop, hX1, List.drop_drop]
            · rw [set_take_snoc (by omega), filt_snoc q hlj, if_neg (by simp [hsB3]), hX2]
          ·
            simp only []; omega
        ·
          intro _
          intros
          refine dInt_i ?_
          refine wr_t (by omega) ?_
          refine ⟨⟨s_13, rfl, _, _, rfl, (((Ch.refl [τ] s_1).ch c_10 (by simp)).ch c_16 (by simp)), ?_⟩, ?_⟩
          ·
            have h_22 := ho.mv c_16 (tagn (by simp))
            refine ⟨i, j + 1, X, by omega, by omega, by omega, by omega, h_22, ?_, ?_⟩
            · rw [← List.drop_drop, hX1, List.drop_drop]
            · rw [filt_snoc q hlj, if_pos (by simpa using hsB3), hX2]
          ·
            simp only []; omega
      ·
        refine ask_t (by omega) ?_
        simp only [Int.toNat_natCast]
        refine clear_t u45 in3 rfl (by intro u hu; simp [Value.cells] at hu; subst hu; rfl) (ho.pre (m := i) (by omega)) (m := n) (by omega) (by omega) fun s_23 o_26 c_24o _ => ?_
        have c_24 := c_24o.ch ho (T := [τ]) (by simp)
        have z_25 := c_24.size
        refine ask_t (by omega) ?_
        refine ret_t ?_
        have hjn : j = n := by omega
        rw [hjn, List.take_of_length_le (l := l) (by omega)] at hX2
        have hpl : (l.filter fun y => !q y).length = i := by rw [← hX2, List.length_take]; omega
        have hO2 := o_26
        rw [Nat.mul_one, ivs_take, hX2] at hO2
        rw [hpl]
        simp only [slO_zero, Int.toNat_zero, Int.toNat_natCast, Nat.sub_zero]
        exact ⟨trivial, ((((Ch.refl [τ] s).ch c_4 (by simp)).ch c_10 (by simp)).ch c_24 (by simp)), hO2⟩
/-- slices.Clone[[]byte,byte] -/
theorem c_cloneB (τ : Nat) {xa : Option Addr} {xn : Nat} (xc : Nat) {l : List UInt8} {τx : Nat} {s : TH} (hx : Sl s xa (bvs l) τx) (hn : l.length = xn) (hb : xn ≤ 140737488355328) : TRet Tryz.prog 139 #[.slice xa xn xc] s fun v s' => ∃ a c', v = .slice a xn c' ∧ Ch [] s s' ∧ Own s' a xn c' 5 1 (bvs l) τ := by
  obtain ⟨M, hM, hM0, hMa, hMb, hMc, hMd, hMe, hMf⟩ := fresh6 s τx τ 0 0 0 0
  refine F139_calls _ _ _  ?_
  unfold F139
  refine sB_i (fun hsB1 => ?_) (fun hsB1 => ?_)
  ·
    have hxa : xa = none := by simpa using hsB1
    subst hxa
    have h0 := congrArg List.length hx.len0
    rw [bvs_len, List.length_nil] at h0
    have hl : l = [] := List.eq_nil_of_length_eq_zero h0
    subst hl
    obtain rfl : xn = 0 := by omega
    exact ret_t ⟨none, 0, rfl, (Ch.refl [] s), Own.nil _ _ _ _⟩
  ·
    refine al_t (M + 1) fun r1 s2 hr1 b_1 c_2 z_3 => ?_
    have hO0 : Own s2 (some ⟨r1, 0, none⟩) 0 0 5 1 (bvs []) (M + 1) := b_1.own0 1
    have h_6 := hx.mv c_2 (tagn (by simp))
    refine app_bv u85 in5 hO0 h_6 (by omega) (by omega) fun s_7 a_4 k_5 o_8 c_9 => ?_
    have z_10 := c_9.size
    refine dSl_i ?_
    rw [Nat.zero_add]
    have ho := o_8
    rw [Nat.zero_add] at ho
    exact ret_t' (s' := remark s_7 (M + 1) τ) rfl ⟨_, _, rfl, remark_ch (((Ch.refl [] s).ch c_2 (by simp)).fr c_9 hM (by simp)) hM (by omega), ho.remark⟩
/-- slices.Clone[[]int,int] -/
theorem c_cloneI (τ : Nat) {xa : Option Addr} {xn : Nat} (xc : Nat) {l : List Int} {τx : Nat} {s : TH} (hx : Sl s xa (ivs l) τx) (hn : l.length = xn) (hb : xn ≤ 17592186044416) : TRet Tryz.prog 140 #[.slice xa xn xc] s fun v s' => ∃ a c', v = .slice a xn c' ∧ Ch [] s s' ∧ Own s' a xn c' 3 1 (ivs l) τ := by
  obtain ⟨M, hM, hM0, hMa, hMb, hMc, hMd, hMe, hMf⟩ := fresh6 s τx τ 0 0 0 0
  refine F140_calls _ _ _  ?_
  unfold F140
  refine sB_i (fun hsB1 => ?_) (fun hsB1 => ?_)
  ·
    have hxa : xa = none := by simpa using hsB1
    subst hxa
    have h0 := congrArg List.length hx.len0
    rw [ivs_len, List.length_nil] at h0
    have hl : l = [] := List.eq_nil_of_length_eq_zero h0
    subst hl
    obtain rfl : xn = 0 := by omega
    exact ret_t ⟨none, 0, rfl, (Ch.refl [] s), Own.nil _ _ _ _⟩
  ·
    refine al_t (M + 1) fun r1 s2 hr1 b_1 c_2 z_3 => ?_
    have hO0 : Own s2 (some ⟨r1, 0, none⟩) 0 0 3 1 (ivs []) (M + 1) := b_1.own0 1
    have h_6 := hx.mv c_2 (tagn (by simp))
    refine app_iv u45 in3 hO0 h_6 (by omega) (by omega) fun s_7 a_4 k_5 o_8 c_9 => ?_
    have z_10 := c_9.size
    refine dSl_i ?_
    rw [Nat.zero_add]
    have ho := o_8
    rw [Nat.zero_add] at ho
    exact ret_t' (s' := remark s_7 (M + 1) τ) rfl ⟨_, _, rfl, remark_ch (((Ch.refl [] s).ch c_2 (by simp)).fr c_9 hM (by simp)) hM (by omega), ho.remark⟩
theorem find_by {P : PatchM} (hn : (P.l.map (·.id)).Nodup) {x : PatM} (hx : x ∈ P.l) : P.find x.id = some x := by
  unfold PatchM.find
  obtain ⟨last, done, l⟩ := P
  simp only at *
  induction l with
  | nil => cases hx
  | cons y l ih =>
    rw [List.map_cons, List.nodup_cons] at hn
    rw [List.find?_cons]
    rcases List.mem_cons.1 hx with rfl | hx
    · simp
    · have : (y.id == x.id) = false := by
        simp only [beq_eq_false_iff_ne]
        intro e; exact hn.1 (by rw [e]; exact List.mem_map.2 ⟨x, hx, rfl⟩)
      rw [this]; exact ih hn.2 hx
def PatchM.step (P : PatchM) (d : List UInt8) (i : Int) : List UInt8 := match P.find i with
  | some x => overlay d x.off.toNat x.by_
  | none => d
def PatchM.over (P : PatchM) (d : List UInt8) (ids : List Int) : List UInt8 := ids.foldl P.step d
def PatchM.fstep (P : PatchM) (l : List Int) (i : Int) : List Int := match P.find i with
  | some x => if ((P.pend x.needs).all fun n => decide (n ∈ l)) = true then l ++ [i] else l
  | none => l
def PatchM.free (P : PatchM) (b : Int) : List Int := (P.of b).foldl P.fstep []
theorem foldl_take {α β : Type} (f : β → α → β) (z : β) {l : List α} {k : Nat} {x : α} (h : l[k]? = some x) : (l.take (k + 1)).foldl f z = f ((l.take k).foldl f z) x := by
  rw [List.take_add_one, h, List.foldl_append]; rfl
theorem of_sub {P : PatchM} {b i : Int} (h : i ∈ P.of b) : i ∈ P.all := by
  unfold PatchM.of at h
  obtain ⟨x, hx, rfl⟩ := List.mem_map.1 h
  exact List.mem_map.2 ⟨x, (List.mem_filter.1 hx).1, rfl⟩
theorem of_len {P : PatchM} (ok : POk P) (b : Int) : ((P.of b).length : Int) ≤ P.last := by
  have h1 : (P.of b).length ≤ P.l.length := by unfold PatchM.of; rw [List.length_map]; exact List.length_filter_le _ _
  have := ok.lenl; omega
theorem fstep_len (P : PatchM) (l : List Int) (i : Int) : (P.fstep l i).length ≤ l.length + 1 := by
  unfold PatchM.fstep
  split
  · split <;> simp
  · omega
theorem fsteps_len (P : PatchM) : ∀ (ids l : List Int), (ids.foldl P.fstep l).length ≤ l.length + ids.length
  | [], l => by simp
  | i :: ids, l => by
    have h1 := fsteps_len P ids (P.fstep l i)
    have h2 := fstep_len P l i
    simp only [List.foldl_cons, List.length_cons]; omega
theorem free_sub {P : PatchM} {b i : Int} (h : i ∈ P.free b) : i ∈ P.of b := by
  have : ∀ (ids l : List Int), i ∈ ids.foldl P.fstep l → i ∈ l ∨ i ∈ ids := fun ids => by
    induction ids with
    | nil => intro l h; exact .inl h
    | cons j ids ih =>
      intro l h
      rcases ih _ h with h1 | h1
      · unfold PatchM.fstep at h1
        split at h1
        · split at h1
          · rcases List.mem_append.1 h1 with h2 | h2
            · exact .inl h2
            · rw [List.mem_singleton] at h2; exact .inr (by simp [h2])
          · exact .inl h1
        · exact .inl h1
      · exact .inr (List.mem_cons_of_mem _ h1)
  exact (this _ [] h).resolve_left (by simp)
theorem free_len {P : PatchM} (ok : POk P) (b : Int) : ((P.free b).length : Int) ≤ P.last := by
  have h1 := fsteps_len P (P.of b) []
  have h2 := of_len ok b
  unfold PatchM.free
  simp at h1; omega
/-- (*bollard/patch.Set).Of$1 -/
theorem c_of1p (p T : Nat) (P : PatchM) (x b : Int) (r3 t1 t3 τ1 τ3 r0 : Nat) (s : TH) (hT : 10 ≤ T) (hp : PSet s p T P) (hb1 : Blk s r0 [.pointer (some ⟨p, 0, none⟩)] t1 τ1) (hb3 : Blk s r3 [.int .i64 b] t3 τ3) (hx : x ∈ P.all) : TRet Tryz.prog 193 #[.int .i64 x, .pointer (some ⟨r0, 0, none⟩), .pointer (some ⟨r3, 0, none⟩)] s fun v s' => v = .bool (!decide (x ∈ P.of b)) ∧ Ch [] s s' := by
  obtain ⟨⟨rd, rl, md, ml, hP⟩, ok⟩ := id hp
  have hpb := hP.blk
  have hpd := hP.dm
  have hpl := hP.lm
  have hpm := hP.pm
  have hlst := ok.lst
  refine F193_calls _ _ _  ?_
  unfold F193
  refine ld_t hb1 rfl ?_
  refine dPtr_i ?_
  refine nz_i ?_
  refine ld_t hpb rfl ?_
  refine dMap_i ?_
  refine ld_t hb3 rfl ?_
  refine dInt_i ?_
  obtain ⟨xsem1, hfxsem1⟩ := Option.isSome_iff_exists.1 (find_isSome.2 (hx))
  obtain ⟨wsem1, hvxsem1, ⟨baxsem1, bcxsem1, naxsem1, ncxsem1, rfl, sbxsem1, snxsem1⟩, hidxsem1, hmemxsem1⟩ := hpm.some_ hfxsem1
  have hinxsem1 := (POk.find_mem hfxsem1).1
  refine look_s keyI um216 z220 hpl x hvxsem1 ?_
  refine dA5 ?_
  refine ⟨?_, ?_⟩
  ·
    refine ld_t hb3 rfl ?_
    refine dInt_i ?_
    rfl
  ·
    refine dInt_i ?_
    refine ret_t ?_
    refine ⟨ret_b ?_, (Ch.refl [] s)⟩
    have hd := ok.nodup
    unfold PatchM.of
    by_cases e : xsem1.blk = b
    · rw [e, bne_self_eq_false, eq_comm, Bool.not_eq_false', decide_eq_true_iff]
      exact List.mem_map.2 ⟨xsem1, List.mem_filter.2 ⟨hinxsem1, by simpa using e⟩, hidxsem1⟩
    · rw [show (xsem1.blk != b) = true by simpa using e, eq_comm, Bool.not_eq_true', decide_eq_false_iff_not]
      intro h
      obtain ⟨y, hy, hye⟩ := List.mem_map.1 h
      have h2 := List.mem_filter.1 hy
      have : y = xsem1 := by
        have := find_by hd h2.1
        rw [hye] at this
        exact Option.some.inj (this.symm.trans hfxsem1)
      subst this
      exact e (by simpa using h2.2)
theorem of_filter {P : PatchM} (ok : POk P) (b : Int) : P.all.filter (fun y => !!decide (y ∈ P.of b)) = P.of b := by
  refine srt_ext (srt_filter ok.asrt _) ?_ fun x => ?_
  · unfold PatchM.of
    exact List.pairwise_map.2 (ok.srt.sublist List.filter_sublist)
  · rw [List.mem_filter]; simp; exact of_sub
/-- (*bollard/patch.Set).Of -/
theorem c_pof (p T : Nat) (P : PatchM) (τ : Nat) (b : Int) (s : TH) (hT : 10 ≤ T) (hp : PSet s p T P) : TRet Tryz.prog 170 #[.pointer (some ⟨p, 0, none⟩), .int .i64 b] s fun v s' => ∃ a c', v = .slice a (P.of b).length c' ∧ Ch [] s s' ∧ Own s' a (P.of b).length c' 3 1 (ivs (P.of b)) τ := by
  obtain ⟨⟨rd, rl, md, ml, hP⟩, ok⟩ := id hp
  have hpb := hP.blk
  have hpd := hP.dm
  have hpl := hP.lm
  have hpm := hP.pm
  have hlst := ok.lst
  obtain ⟨M, hM, hM0, hMa, hMb, hMc, hMd, hMe, hMf⟩ := fresh6 s (T + 10) τ 0 0 0 0
  refine F170_calls _ _  ?_
  unfold F170
  refine al_t (M + 1) fun r1 s2 hr1 b_1 c_2 z_3 => ?_
  refine al_t (M + 2) fun r3 s4 hr3 b_4 c_5 z_6 => ?_
  have h_7 := b_1.ch c_5 (by simp)
  refine ld_t h_7 rfl ?_
  refine dPtr_i ?_
  have h_8 := hp.mv (c_2.app c_5) (rngn (by simp))
  refine tcall (c_own _ _ _ _ (by omega) h_8) ?_
  rintro v_10 s_9 ⟨rfl, c_12⟩
  have z_13 := c_12.size
  refine dBl_i ?_
  refine sB_f (by rfl) ?_
  have h_14 := h_7.ch c_12 (by simp)
  refine ld_t h_14 rfl ?_
  refine dPtr_i ?_
  have h_15 := h_8.mv c_12 (rngn (by simp))
  refine tcall (c_pall _ _ _ (M + 3) _ (by omega) h_15) ?_
  rintro v_17 s_16 ⟨acall2, ccall2, rfl, c_19, call2a⟩
  have z_20 := c_19.size
  refine dSl_i ?_
  have hll := ok.lenl
  have h_21 := h_14.ch c_19 (by simp)
  have hr1f := h_21
  have h_22 := b_4.ch (c_12.app c_19) (by simp)
  have hr3f := h_22
  have h_23 := h_15.mv c_19 (rngn (by simp))
  have hPf := h_23
  refine tcall (c_dfInt _ (fun y => !decide (y ∈ P.of b)) call2a (by omega) (by kernel_rfl) (fun s1 x hx hc => c_of1p p T P x b r3 _ _ _ _ r1 s1 hT (hPf.mv hc (rngn (by simp <;> omega))) (hr1f.ch hc (by simp)) (hr3f.ch hc (by simp)) hx)) ?_
  rintro v_25 s_24 ⟨rfl, c_27, call3a⟩
  have z_28 := c_27.size
  refine dSl_i ?_
  have ho := call3a
  rw [of_filter ok] at ho ⊢
  exact ret_t' (s' := remark s_24 (M + 3) τ) rfl ⟨_, _, rfl, remark_ch ((((((Ch.refl [] s).ch c_2 (by simp)).ch c_5 (by simp)).ch c_12 (by simp)).ch c_19 (by simp)).fr c_27 hM (by simp)) hM (by omega), ho.remark⟩
/-- (*bollard/patch.Set).over -/
theorem c_pover (p T : Nat) (P : PatchM) (τ : Nat) {da : Option Addr} (dc : Nat) {d : List UInt8} {τd : Nat} {xa : Option Addr} {xn : Nat} (xc : Nat) {ids : List Int} {τx : Nat} (s : TH) (hT : 10 ≤ T) (hp : PSet s p T P) (hd : Sl s da (bvs d) τd) (hdn : d.length = 128) (hx : Sl s xa (ivs ids) τx) (hn : ids.length = xn) (hb : xn ≤ 17592186044000) (hall : ∀ i ∈ ids, i ∈ P.all) : TRet Tryz.prog 169 #[.pointer (some ⟨p, 0, none⟩), .slice da 128 dc, .slice xa xn xc] s fun v s' => ∃ a c', v = .slice a 128 c' ∧ Ch [] s s' ∧ Own s' a 128 c' 5 1 (bvs (P.over d ids)) τ := by
  obtain ⟨⟨rd, rl, md, ml, hP⟩, ok⟩ := id hp
  have hpb := hP.blk
  have hpd := hP.dm
  have hpl := hP.lm
  have hpm := hP.pm
  have hlst := ok.lst
  obtain ⟨M, hM, hM0, hMa, hMb, hMc, hMd, hMe, hMf⟩ := fresh6 s (T + 10) τd τx τ 0 0
  refine F169_calls _ _ _ _ _ _ _  ?_
  unfold F169
  refine tcall (c_cloneB (M + 1) _ hd (by omega) (by omega)) ?_
  rintro v_2 s_1 ⟨acall1, ccall1, rfl, c_4, call1a⟩
  have z_5 := c_4.size
  refine dSl_i ?_
  refine ⟨fun vs H' => ∃ s' : TH, s'.h = H' ∧ ∃ i, vs = [.int .i64 i] ∧ Ch [M + 1, M + 9] s_1 s' ∧ (∃ k : Nat, i = k ∧ k ≤ xn ∧ Own s' acall1 128 ccall1 5 1 (bvs (P.over d (ids.take k))) (M + 1)), fun vs H' => match vs with | [.int .i64 i] => ((xn : Int) - i).toNat | _ => 0, ⟨s_1, rfl, _, rfl, Ch.refl _ _, ?_⟩, ?_⟩
  ·
    exact ⟨0, rfl, by omega, call1a⟩
  ·
    intro i _ _ _ _ _ _ _ _ _ _ _ _ _ _ _ _ _ _ _ H_ hI_7
    obtain ⟨s_6, rfl, i_, hvs, c_8, k, rfl, hk, ho⟩ := hI_7
    cases hvs
    have z_9 := c_8.size
    refine sB_d (fun hsB1 => ?_) (fun hsB1 => ?_)
    ·
      have h_10 := hx.mv (c_4.app c_8) (tagn (by simp <;> omega))
      obtain ⟨a_11, rfl⟩ := h_10.ne_none (by simp [bvs_len, ivs_len]; omega)
      refine nz_i ?_
      refine ask_t (by omega) ?_
      refine ld_iv h_10 (by omega) (by omega) fun vel1 hel1 => ?_
      rw [Int.toNat_natCast] at hel1
      refine dInt_i ?_
      refine nz_i ?_
      have h_12 := hpb.ch (c_4.app c_8) (by simp <;> omega)
      refine ld_t h_12 rfl ?_
      refine dMap_i ?_
      have hm1 := hall _ (List.mem_of_getElem? hel1)
      obtain ⟨xsem1, hfxsem1⟩ := Option.isSome_iff_exists.1 (find_isSome.2 (hm1))
      have h_13 := hpm.mv (c_4.app c_8) (tagn (by simp <;> omega))
      obtain ⟨wsem1, hvxsem1, ⟨baxsem1, bcxsem1, naxsem1, ncxsem1, rfl, sbxsem1, snxsem1⟩, hidxsem1, hmemxsem1⟩ := h_13.some_ hfxsem1
      have hinxsem1 := (POk.find_mem hfxsem1).1
      have h_14 := hpl.ch (c_4.app c_8) (by simp <;> omega)
      refine look_s keyI um216 z220 h_14 vel1 hvxsem1 ?_
      refine dA5 ?_
      refine al_t (M + 9) fun r45 s46 hr45 b_15 c_16 z_17 => ?_
      refine st_t b_15 rfl (by simp) fun s47 b_18 c_19o z_20 => ?_
      have c_19 := on_ch b_15 c_19o
      refine st_t b_18 rfl (by simp) fun s48 b_21 c_22o z_23 => ?_
      have c_22 := on_ch b_18 c_22o
      refine st_t b_21 rfl (by simp) fun s49 b_24 c_25o z_26 => ?_
      have c_25 := on_ch b_21 c_25o
      refine st_t b_24 rfl (by simp) fun s50 b_27 c_28o z_29 => ?_
      have c_28 := on_ch b_24 c_28o
      refine st_t b_27 rfl (by simp) fun s51 b_30 c_31o z_32 => ?_
      have c_31 := on_ch b_27 c_31o
      refine ld_t b_30 rfl ?_
      refine dInt_i ?_
      have h_33 := ho.mv (((((c_16.app c_19).app c_22).app c_25).app c_28).app c_31) (tagn (by simp))
      refine ask_t (by have := ok.fit _ hinxsem1; have := h_33.le; omega) ?_
      refine ld_t b_30 rfl ?_
      have h_34 := sbxsem1.mv (((((c_16.app c_19).app c_22).app c_25).app c_28).app c_31) (tagn (by simp <;> omega))
      have sbxsem1 := h_34
      obtain ⟨a2, rfl⟩ := h_33.ne_none (by omega)
      refine dSl_i ?_
      have hft := ok.fit _ hinxsem1
      simp only [Int.toNat_natCast]
      refine copy_sl u85 in5 h_33 sbxsem1 rfl (by omega) (by omega) fun s_35 o_38 c_36 _ => ?_
      have z_37 := c_36.size
      refine dInt_i ?_
      refine wr_t (by omega) ?_
      refine ⟨⟨s_35, rfl, _, rfl, (((((((((Ch.refl [M + 1, M + 9] s_1).ch c_8 (by simp)).ch c_16 (by simp)).ch c_19 (by simp)).ch c_22 (by simp)).ch c_25 (by simp)).ch c_28 (by simp)).ch c_31 (by simp)).ch c_36 (by simp)), ?_⟩, ?_⟩
      ·
        refine ⟨k + 1, by omega, by omega, ?_⟩
        have ho := o_38
        rw [show P.over d (ids.take (k + 1)) = overlay (P.over d (ids.take k)) xsem1.off.toNat xsem1.by_ from by unfold PatchM.over; rw [foldl_take _ _ hel1]; unfold PatchM.step; rw [hfxsem1]]
        exact ho
      ·
        simp <;> omega
    ·
      have ho := ho
      rw [List.take_of_length_le (by omega)] at ho
      exact ret_t' (s' := remark s_6 (M + 1) τ) rfl ⟨_, _, rfl, remark_ch (((Ch.refl [] s).ch c_4 (by simp)).fr c_8 hM (by simp)) hM (by omega), ho.remark⟩
/-- (*bollard/patch.Set).Now -/
theorem c_pnow (p T : Nat) (P : PatchM) (τ : Nat) (b : Int) {da : Option Addr} (dc : Nat) {d : List UInt8} {τd : Nat} (s : TH) (hT : 10 ≤ T) (hp : PSet s p T P) (hd : Sl s da (bvs d) τd) (hdn : d.length = 128) : TRet Tryz.prog 126 #[.pointer (some ⟨p, 0, none⟩), .int .i64 b, .slice da 128 dc] s fun v s' => ∃ a c', v = .tuple #[.slice a 128 c', .int .i64 0] ∧ Ch [] s s' ∧ Own s' a 128 c' 5 1 (bvs (P.over d (P.of b))) τ := by
  obtain ⟨⟨rd, rl, md, ml, hP⟩, ok⟩ := id hp
  have hpb := hP.blk
  have hpd := hP.dm
  have hpl := hP.lm
  have hpm := hP.pm
  have hlst := ok.lst
  obtain ⟨M, hM, hM0, hMa, hMb, hMc, hMd, hMe, hMf⟩ := fresh6 s (T + 10) τd τ 0 0 0
  refine F126_calls _ _ _ _ _  ?_
  unfold F126
  refine tcall (c_own _ _ _ _ (by omega) hp) ?_
  rintro v_2 s_1 ⟨rfl, c_4⟩
  have z_5 := c_4.size
  refine dBl_i ?_
  refine sB_f (by rfl) ?_
  refine sB_f (by rfl) ?_
  have h_6 := hp.mv c_4 (rngn (by simp))
  refine tcall (c_pof _ _ _ (M + 1) _ _ (by omega) h_6) ?_
  rintro v_8 s_7 ⟨acall2, ccall2, rfl, c_10, call2a⟩
  have z_11 := c_10.size
  refine dSl_i ?_
  have hol := of_len ok b
  have h_12 := h_6.mv c_10 (rngn (by simp))
  have h_13 := hd.mv (c_4.app c_10) (tagn (by simp))
  refine tcall (c_pover p T P (τ := τ) dc _ _ hT h_12 h_13 hdn call2a.sl rfl (by omega) (fun i hi => of_sub hi)) ?_
  rintro v_15 s_14 ⟨acall3, ccall3, rfl, c_17, call3a⟩
  have z_18 := c_17.size
  refine dSl_i ?_
  refine ret_t ?_
  exact ⟨_, _, rfl, ((((Ch.refl [] s).ch c_4 (by simp)).ch c_10 (by simp)).ch c_17 (by simp)), call3a⟩
def PatchM.knows (P : PatchM) (i : Int) : Bool := decide (1 ≤ i ∧ i ≤ P.last)
def PatchM.closed (P : PatchM) (l : List Int) (i : Int) : Bool := match P.find i with
  | some x => (P.pend x.needs).all fun n => decide (n ∈ l)
  | none => true
theorem pend_sub {P : PatchM} {ids : List Int} {i : Int} (h : i ∈ P.pend ids) : i ∈ P.all ∧ i ∈ ids := by
  have := List.mem_filter.1 h; exact ⟨this.1, by simpa using this.2⟩
/-- the blocks that have patches, rising -/
def PatchM.blocks (P : PatchM) : List Int := cpt ((P.l.map (·.blk)).mergeSort fun x y => decide (x ≤ y))
theorem nodup_len_le : ∀ {l m : List Int}, l.Nodup → (∀ x ∈ l, x ∈ m) → l.length ≤ m.length
  | [], m, _, _ => by simp
  | x :: l, m, hn, hs => by
    rw [List.nodup_cons] at hn
    have hx := hs x (by simp)
    have := nodup_len_le (m := m.erase x) hn.2 fun y hy => (List.mem_erase_of_ne (fun e => hn.1 (by rw [← e]; exact hy))).2 (hs y (List.mem_cons_of_mem _ hy))
    rw [List.length_erase_of_mem hx] at this
    have := List.length_pos_of_mem hx
    rw [List.length_cons]; omega
theorem vis_len {P : PatchM} (ok : POk P) {vis : List Int} (hn : vis.Nodup) (hs : ∀ k ∈ vis, k ∈ P.all) : (vis.length : Int) ≤ P.last := by
  have h1 : vis.length ≤ P.all.length := nodup_len_le hn hs
  have h2 : P.all.length = P.l.length := by unfold PatchM.all; simp
  have := ok.lenl; omega
def ovx (b o n : Int) (x : PatM) : Bool := decide (ovl b o n x.blk x.off x.by_.length)
def PatchM.newP (P : PatchM) (b o : Int) (y : List UInt8) (needs : List Int) : PatM := ⟨P.last + 1, b, o, y, (P.l.filter fun x => decide (x.id ∈ needs) || ovx b o y.length x).map (·.id)⟩
def PatchM.add (P : PatchM) (b o : Int) (y : List UInt8) (needs : List Int) : PatchM × Int × Int :=
  if ¬ fitsP b o y.length then (P, 0, 1)
  else if (needs.any fun i => !P.knows i) = true then (P, 0, 70)
  else ({ P with last := P.last + 1, l := P.l ++ [P.newP b o y needs] }, P.last + 1, 0)
theorem POk.add {P : PatchM} (ok : POk P) {b o : Int} {y : List UInt8} {needs : List Int} (hf : fitsP b o y.length) (hl : P.last < 1000000) : POk { P with last := P.last + 1, l := P.l ++ [P.newP b o y needs] } where
  srt := List.pairwise_append.2 ⟨ok.srt, by simp, fun a ha c hc => by
    rw [List.mem_singleton] at hc; subst hc
    have := ok.rng a ha
    show a.id < P.last + 1
    omega⟩
  rng x hx := by
    rcases List.mem_append.1 hx with h | h
    · have := ok.rng x h; exact ⟨this.1, by show x.id ≤ P.last + 1; omega⟩
    · rw [List.mem_singleton] at h; subst h
      have := ok.lst
      exact ⟨by show 1 ≤ P.last + 1; omega, Int.le_refl _⟩
  fit x hx := by
    rcases List.mem_append.1 hx with h | h
    · exact ok.fit x h
    · rw [List.mem_singleton] at h; subst h
      unfold fitsP at hf
      exact ⟨hf.1, hf.2.1, by show 1 ≤ y.length; omega, by show o + (y.length : Int) ≤ 128; omega⟩
  nds x hx n hn := by
    rcases List.mem_append.1 hx with h | h
    · exact ok.nds x h n hn
    · rw [List.mem_singleton] at h; subst h
      obtain ⟨z, hz, rfl⟩ := List.mem_map.1 (show n ∈ (P.l.filter fun x => decide (x.id ∈ needs) || ovx b o y.length x).map (·.id) from hn)
      have := ok.rng z (List.mem_filter.1 hz).1
      exact ⟨this.1, by show z.id < P.last + 1; omega⟩
  nsr x hx := by
    rcases List.mem_append.1 hx with h | h
    · exact ok.nsr x h
    · rw [List.mem_singleton] at h; subst h
      exact List.pairwise_map.2 (ok.srt.sublist List.filter_sublist)
  dn i hi := by have := ok.dn i hi; exact ⟨this.1, by show i ≤ P.last + 1; omega⟩
  all i h1 h2 := by
    have h2 : i ≤ P.last + 1 := h2
    by_cases h3 : i ≤ P.last
    · rcases ok.all i h1 h3 with h | h
      · exact .inl h
      · right; show i ∈ (P.l ++ [P.newP b o y needs]).map PatM.id; rw [List.map_append]; exact List.mem_append_left _ h
    · right; show i ∈ (P.l ++ [P.newP b o y needs]).map PatM.id; rw [List.map_append]; exact List.mem_append_right _ (by rw [show i = P.last + 1 by omega]; exact List.mem_singleton.2 rfl)
  dis i hi h := by
    have h : i ∈ (P.l ++ [P.newP b o y needs]).map PatM.id := h
    rw [List.map_append] at h
    rcases List.mem_append.1 h with h | h
    · exact ok.dis i hi h
    · have := ok.dn i hi
      have h : i ∈ [P.last + 1] := h
      rw [List.mem_singleton] at h; omega
  lst := by have := ok.lst; show 0 ≤ P.last + 1 ∧ P.last + 1 ≤ 1000000; omega
theorem newP_needs {P : PatchM} (ok : POk P) {b o n : Int} {needs vis X : List Int} (hv : ∀ x ∈ P.l, x.id ∈ vis) (hX : ∀ i, i ∈ X ↔ i ∈ needs ∨ ∃ x ∈ P.l, x.id ∈ vis ∧ x.id = i ∧ ovl b o n x.blk x.off x.by_.length) :
    P.pend X = (P.l.filter fun x => decide (x.id ∈ needs) || ovx b o n x).map (·.id) := by
  unfold PatchM.pend PatchM.all
  rw [List.filter_map]
  congr 1
  apply List.filter_congr
  intro x hx
  apply Bool.eq_iff_iff.2
  simp only [Function.comp, decide_eq_true_eq, Bool.or_eq_true, ovx, hX]
  constructor
  · rintro (h | ⟨y, h1, h2, h3, h4⟩)
    · exact .inl h
    · have g1 := find_by ok.nodup h1
      have g2 := find_by ok.nodup hx
      rw [h3, g2] at g1
      cases Option.some.inj g1
      exact .inr h4
  · rintro (h | h)
    · exact .inl h
    · exact .inr ⟨x, hx, hv x hx, rfl, h⟩
/-- (*bollard/patch.Set).Add$1 -/
theorem c_add1 (p T : Nat) (P : PatchM) (x : Int) {r0 t1 τ1 : Nat} (s : TH) (hT : 10 ≤ T) (hp : PSet s p T P) (hb1 : Blk s r0 [.pointer (some ⟨p, 0, none⟩)] t1 τ1) : TRet Tryz.prog 137 #[.int .i64 x, .pointer (some ⟨r0, 0, none⟩)] s fun v s' => v = .bool (!P.knows x) ∧ Ch [] s s' := by
  refine F137_calls _ _  ?_
  unfold F137
  refine ld_t hb1 rfl ?_
  refine dPtr_i ?_
  refine tcall (c_known _ _ _ _ _ (by omega) hp) ?_
  rintro v_2 s_1 ⟨rfl, c_4⟩
  have z_5 := c_4.size
  refine dBl_i ?_
  refine ret_t ?_
  exact ⟨rfl, ((Ch.refl [] s).ch c_4 (by simp))⟩
set_option maxHeartbeats 4000000 in
/-- (*bollard/patch.Set).Add -/
theorem c_add (p T : Nat) (P : PatchM) (b o : Int) {xa : Option Addr} {xn : Nat} (xc : Nat) {y : List UInt8} {τx : Nat} {na : Option Addr} {nn : Nat} (nc : Nat) {needs : List Int} {τn : Nat} (s : TH) (hT : 10 ≤ T) (hp : PSet s p T P) (hx : Sl s xa (bvs y) τx) (hxn : y.length = xn) (hn : Sl s na (ivs needs) τn) (hnn : needs.length = nn) (hb : (nn : Int) + P.last ≤ 17592186044000) (hl : P.last < 1000000) : TRet Tryz.prog 76 #[.pointer (some ⟨p, 0, none⟩), .int .i64 b, .int .i64 o, .slice xa xn xc, .slice na nn nc] s fun v s' => v = .tuple #[.int .i64 (P.add b o y needs).2.1, .int .i64 (P.add b o y needs).2.2] ∧ Ch [T, T + 2] s s' ∧ PSet s' p T (P.add b o y needs).1 := by
  obtain ⟨⟨rd, rl, md, ml, hP⟩, ok⟩ := id hp
  have hpb := hP.blk
  have hpd := hP.dm
  have hpl := hP.lm
  have hpm := hP.pm
  have hlst := ok.lst
  obtain ⟨M, hM, hM0, hMa, hMb, hMc, hMd, hMe, hMf⟩ := fresh6 s (T + 10) τx τn 0 0 0
  refine F76_calls _ _ _ _ _ _ _ _ _  ?_
  unfold F76
  refine al_t (M + 1) fun r1 s2 hr1 b_1 c_2 z_3 => ?_
  refine ld_t b_1 rfl ?_
  refine dPtr_i ?_
  have h_4 := hp.mv c_2 (rngn (by simp))
  refine tcall (c_own _ _ _ _ (by omega) h_4) ?_
  rintro v_6 s_5 ⟨rfl, c_8⟩
  have z_9 := c_8.size
  refine dBl_i ?_
  refine sB_f (by rfl) ?_
  refine tcall (c_fits _ _ _ _ _ _) ?_
  rintro v_11 s_10 ⟨rfl, c_13⟩
  have z_14 := c_13.size
  refine dBl_i ?_
  refine sB_nd (fun hsB2 => ?_) (fun hsB2 => ?_)
  ·
    refine ret_t ?_
    have h_15 := h_4.mv (c_8.app c_13) (rngn (by simp))
    rw [show P.add b o y needs = (P, 0, 1) from by unfold PatchM.add; rw [if_pos (by subst hxn; assumption)]]
    exact ⟨rfl, ((((Ch.refl [T, T + 2] s).ch c_2 (by simp)).ch c_8 (by simp)).ch c_13 (by simp)), h_15⟩
  ·
    have h_16 := h_4.mv (c_8.app c_13) (rngn (by simp))
    have hPf := h_16
    have h_17 := b_1.ch (c_8.app c_13) (by simp)
    have hrf := h_17
    have h_18 := hn.mv ((c_2.app c_8).app c_13) (tagn (by simp))
    refine tcall (c_ctIntF _ (fun y => !P.knows y) h_18 hnn (by omega) (by kernel_rfl) (fun s1 y hy hc => c_add1 p T P y s1 hT (hPf.mv hc (rngn (by simp))) (hrf.ch hc (by simp)))) ?_
    rintro v_20 s_19 ⟨rfl, c_22⟩
    have z_23 := c_22.size
    refine dBl_i ?_
    refine sB_i (fun hsB3 => ?_) (fun hsB3 => ?_)
    ·
      refine ret_t ?_
      have h_24 := hPf.mv c_22 (rngn (by simp))
      rw [show P.add b o y needs = (P, 0, 70) from by unfold PatchM.add; rw [if_neg (by subst hxn; simpa using hsB2), if_pos (by assumption)]]
      exact ⟨rfl, (((((Ch.refl [T, T + 2] s).ch c_2 (by simp)).ch c_8 (by simp)).ch c_13 (by simp)).ch c_22 (by simp)), h_24⟩
    ·
      have h_25 := hrf.ch c_22 (by simp)
      refine ld_t h_25 rfl ?_
      refine dPtr_i ?_
      refine nz_i ?_
      have h_26 := hpb.ch (((c_2.app c_8).app c_13).app c_22) (by simp)
      refine ld_t h_26 rfl ?_
      refine dInt_i ?_
      refine wr_t (by omega) ?_
      refine ⟨?_, ?_⟩
      ·
        have hft : fitsP b o xn := by simpa using hsB2
        have h_27 := hx.mv (((c_2.app c_8).app c_13).app c_22) (tagn (by simp))
        refine tcall (c_cloneB (T + 3) _ h_27 hxn (by unfold fitsP at hft; omega)) ?_
        rintro v_29 s_28 ⟨acall4, ccall4, rfl, c_31, call4a⟩
        have z_32 := c_31.size
        refine dSl_i ?_
        refine ⟨?_, ?_⟩
        ·
          have h_33 := h_26.ch c_31 (by simp)
          refine ld_t h_33 rfl ?_
          refine dInt_i ?_
          rfl
        ·
          refine ⟨?_, ?_⟩
          ·
            have h_34 := h_25.ch c_31 (by simp)
            refine ld_t h_34 rfl ?_
            refine dPtr_i ?_
            rfl
          ·
            refine al_t (M + 2) fun r29 s30 hr29 b_35 c_36 z_37 => ?_
            refine ⟨?_, ?_⟩
            ·
              have h_38 := h_26.ch (c_31.app c_36) (by simp)
              refine ld_t h_38 rfl ?_
              refine dInt_i ?_
              rfl
            ·
              refine ⟨?_, ?_⟩
              ·
                have h_39 := h_25.ch (c_31.app c_36) (by simp)
                refine ld_t h_39 rfl ?_
                refine dPtr_i ?_
                rfl
              ·
                refine st_t b_35 rfl (by simp) fun s35 b_40 c_41o z_42 => ?_
                have c_41 := on_ch b_35 c_41o
                refine st_t b_40 rfl (by simp) fun s36 b_43 c_44o z_45 => ?_
                have c_44 := on_ch b_40 c_44o
                refine st_t b_43 rfl (by simp) fun s37 b_46 c_47o z_48 => ?_
                have c_47 := on_ch b_43 c_47o
                refine st_t b_46 rfl (by simp) fun s38 b_49 c_50o z_51 => ?_
                have c_50 := on_ch b_46 c_50o
                refine st_t b_49 rfl (by simp) fun s39 b_52 c_53o z_54 => ?_
                have c_53 := on_ch b_49 c_53o
                have h_55 := h_18.mv (((((((c_22.app c_31).app c_36).app c_41).app c_44).app c_47).app c_50).app c_53) (tagn (by simp <;> omega))
                refine tcall (c_cloneI (M + 4) _ h_55 (by omega) (by omega)) ?_
                rintro v_57 s_56 ⟨acall5, ccall5, rfl, c_59, call5a⟩
                have z_60 := c_59.size
                refine dSl_i ?_
                have h_61 := h_25.ch (((((((c_31.app c_36).app c_41).app c_44).app c_47).app c_50).app c_53).app c_59) (by simp)
                refine ld_t h_61 rfl ?_
                refine dPtr_i ?_
                refine nz_i ?_
                have h_62 := h_26.ch (((((((c_31.app c_36).app c_41).app c_44).app c_47).app c_50).app c_53).app c_59) (by simp <;> omega)
                refine ld_t h_62 rfl ?_
                refine dMap_i ?_
                have h_63 := hpl.ch (((((((((((c_2.app c_8).app c_13).app c_22).app c_31).app c_36).app c_41).app c_44).app c_47).app c_50).app c_53).app c_59) (by simp <;> omega)
                refine range_t (M + 7) um216 h_63 iinj fun s_64 qsem1 hqsem1 itsem1 c_66 => ?_
                have z_67 := c_66.size
                refine ⟨fun vs H' => ∃ s' : TH, s'.h = H' ∧ ∃ q qn qc, vs = [.slice q qn qc] ∧ Ch [M + 4, M + 7, M + 9] s_64 s' ∧ (∃ vis X, ItK (Value.int .i64) s' qsem1 rl ml vis (T + 2) (M + 7) ∧ Own s' q qn qc 3 1 (ivs X) (M + 4) ∧ qn ≤ nn + vis.length ∧ (∀ k ∈ vis, k ∈ P.all) ∧ ∀ i, i ∈ X ↔ i ∈ needs ∨ ∃ x ∈ P.l, x.id ∈ vis ∧ x.id = i ∧ ovl b o xn x.blk x.off x.by_.length), fun vs H' => match vs with | [.slice q qn qc] => leftH H' qsem1 rl | _ => 0, ⟨s_64, rfl, _, _, _, rfl, Ch.refl _ _, ?_⟩, ?_⟩
                ·
                  have h_68 := call5a.mv c_66 (tagn (by simp))
                  exact ⟨[], needs, itsem1, h_68, by simp, by simp, by simp⟩
                ·
                  intro q qn qc _ _ _ _ _ _ _ _ _ _ _ _ _ _ H_ hI_70
                  obtain ⟨s_69, rfl, q_, qn_, qc_, hvs, c_71, vis, X, hit, ho, hqn, hvis, hX⟩ := hI_70
                  cases hvs
                  have z_72 := c_71.size
                  have hvl := vis_len ok hit.sub hvis
                  have hXl : X.length = qn := by have := ho.1; rw [ivs_len] at this; omega
                  refine next_t hit iinj (fun s_73 ksem2 xsem2 hmksem2 hvksem2 it_74 c_75o zc_75 => ?_) (fun hallksem2 => ?_)
                  ·
                    refine dNx_t ?_
                    have c_75 : Ch [(M + 7)] s_69 s_73 := Chg.mono c_75o (fun j hj e => by subst e; rw [hit.tagq]; simp)
                    have h_76 := hpm.mv ((((((((((((((c_2.app c_8).app c_13).app c_22).app c_31).app c_36).app c_41).app c_44).app c_47).app c_50).app c_53).app c_59).app c_66).app c_71).app c_75) (tagn (by simp <;> omega))
                    obtain ⟨x1, hx1, hid1, bax, bcx, nax, ncx, hxv, sbx, snx⟩ := h_76.mem_ hmksem2
                    subst hxv
                    refine entry_t it_74 hmksem2 iinj ?_
                    refine dT2 ?_
                    refine dInt_i ?_
                    refine dA5 ?_
                    refine al_t (M + 9) fun r135 s136 hr135 b_77 c_78 z_79 => ?_
                    refine st_t b_77 rfl (by simp) fun s137 b_80 c_81o z_82 => ?_
                    have c_81 := on_ch b_77 c_81o
                    refine st_t b_80 rfl (by simp) fun s138 b_83 c_84o z_85 => ?_
                    have c_84 := on_ch b_80 c_84o
                    refine st_t b_83 rfl (by simp) fun s139 b_86 c_87o z_88 => ?_
                    have c_87 := on_ch b_83 c_87o
                    refine st_t b_86 rfl (by simp) fun s140 b_89 c_90o z_91 => ?_
                    have c_90 := on_ch b_86 c_90o
                    refine st_t b_89 rfl (by simp) fun s141 b_92 c_93o z_94 => ?_
                    have c_93 := on_ch b_89 c_93o
                    have h_95 := b_52.ch (((((((((c_59.app c_66).app c_71).app c_75).app c_78).app c_81).app c_84).app c_87).app c_90).app c_93) (by simp)
                    refine ld_t h_95 rfl ?_
                    refine ld_t h_95 rfl ?_
                    refine ld_t h_95 rfl ?_
                    refine ld_t h_95 rfl ?_
                    refine ld_t h_95 rfl ?_
                    refine ld_t b_92 rfl ?_
                    refine ld_t b_92 rfl ?_
                    refine ld_t b_92 rfl ?_
                    refine ld_t b_92 rfl ?_
                    refine ld_t b_92 rfl ?_
                    have hfx := ok.fit x1 hx1
                    have hft2 := hft
                    unfold fitsP at hft2
                    refine tcall (c_overlap _ _ _ _ _ _ _ _ _ _ _ _ _ _ _ _ _ _ _ (by omega) (by omega)) ?_
                    rintro v_97 s_96 ⟨rfl, c_99⟩
                    have z_100 := c_99.size
                    refine dBl_i ?_
                    refine sB_d (fun hsB4 => ?_) (fun hsB4 => ?_)
                    ·
                      refine al_t (M + 9) fun r155 s156 hr155 b_101 c_102 z_103 => ?_
                      have h_106 := ho.mv ((((((((c_75.app c_78).app c_81).app c_84).app c_87).app c_90).app c_93).app c_99).app c_102) (tagn (by simp))
                      refine app_i1 u45 in3 h_106 b_101 (by omega) fun s_107 a_104 k_105 o_108 c_109 => ?_
                      have z_110 := c_109.size
                      refine dSl_i ?_
                      refine ⟨⟨s_107, rfl, _, _, _, rfl, ((((((((((((Ch.refl [M + 4, M + 7, M + 9] s_64).ch c_71 (by simp)).ch c_75 (by simp)).ch c_78 (by simp)).ch c_81 (by simp)).ch c_84 (by simp)).ch c_87 (by simp)).ch c_90 (by simp)).ch c_93 (by simp)).ch c_99 (by simp)).ch c_102 (by simp)).ch c_109 (by simp)), ?_⟩, ?_⟩
                      ·
                        have h_111 := it_74.ch ((((((((c_78.app c_81).app c_84).app c_87).app c_90).app c_93).app c_99).app c_102).app c_109) (by simp <;> omega) (by simp <;> omega)
                        refine ⟨_, _, h_111, o_108, ?_, ?_, ?_⟩
                        · simp only [List.length_append, List.length_singleton]; omega
                        · intro k hk
                          rcases List.mem_append.1 hk with h | h
                          · exact hvis k h
                          · rw [List.mem_singleton] at h; subst h; rw [← hid1]; exact List.mem_map.2 ⟨x1, hx1, rfl⟩
                        · intro i
                          rw [List.mem_append, hX, List.mem_singleton]
                          constructor
                          · rintro ((h | ⟨x, h1, h2, h3⟩) | h)
                            · exact .inl h
                            · exact .inr ⟨x, h1, List.mem_append_left _ h2, h3⟩
                            · exact .inr ⟨x1, hx1, by rw [hid1]; simp, by rw [hid1, h], hsB4⟩
                          · rintro (h | ⟨x, h1, h2, h3, h4⟩)
                            · exact .inl (.inl h)
                            · rcases List.mem_append.1 h2 with h2 | h2
                              · exact .inl (.inr ⟨x, h1, h2, h3, h4⟩)
                              · rw [List.mem_singleton] at h2; right; rw [← h3, h2]
                      ·
                        have h_112 := it_74.ch ((((((((c_78.app c_81).app c_84).app c_87).app c_90).app c_93).app c_99).app c_102).app c_109) (by simp <;> omega) (by simp <;> omega)
                        exact it_less iinj hit h_112 hmksem2 hvksem2 (List.Sublist.refl _)
                    ·
                      refine ⟨⟨s_96, rfl, _, _, _, rfl, ((((((((((Ch.refl [M + 4, M + 7, M + 9] s_64).ch c_71 (by simp)).ch c_75 (by simp)).ch c_78 (by simp)).ch c_81 (by simp)).ch c_84 (by simp)).ch c_87 (by simp)).ch c_90 (by simp)).ch c_93 (by simp)).ch c_99 (by simp)), ?_⟩, ?_⟩
                      ·
                        have h_113 := it_74.ch ((((((c_78.app c_81).app c_84).app c_87).app c_90).app c_93).app c_99) (by simp <;> omega) (by simp <;> omega)
                        have h_114 := ho.mv (((((((c_75.app c_78).app c_81).app c_84).app c_87).app c_90).app c_93).app c_99) (tagn (by simp))
                        refine ⟨_, _, h_113, h_114, ?_, ?_, ?_⟩
                        · simp only [List.length_append, List.length_singleton]; omega
                        · intro k hk
                          rcases List.mem_append.1 hk with h | h
                          · exact hvis k h
                          · rw [List.mem_singleton] at h; subst h; rw [← hid1]; exact List.mem_map.2 ⟨x1, hx1, rfl⟩
                        · intro i
                          rw [hX]
                          constructor
                          · rintro (h | ⟨x, h1, h2, h3⟩)
                            · exact .inl h
                            · exact .inr ⟨x, h1, List.mem_append_left _ h2, h3⟩
                          · rintro (h | ⟨x, h1, h2, h3, h4⟩)
                            · exact .inl h
                            · rcases List.mem_append.1 h2 with h2 | h2
                              · exact .inr ⟨x, h1, h2, h3, h4⟩
                              · rw [List.mem_singleton] at h2
                                exfalso
                                have e : x = x1 := by
                                  have g1 := find_by ok.nodup h1
                                  have g2 := find_by ok.nodup hx1
                                  rw [h2, ← hid1, g2] at g1; exact (Option.some.inj g1).symm
                                subst e; exact hsB4 h4
                      ·
                        have h_115 := it_74.ch ((((((c_78.app c_81).app c_84).app c_87).app c_90).app c_93).app c_99) (by simp <;> omega) (by simp <;> omega)
                        exact it_less iinj hit h_115 hmksem2 hvksem2 (List.Sublist.refl _)
                  ·
                    refine dNx_f ?_
                    have h_116 := h_61.ch (c_66.app c_71) (by simp)
                    refine ld_t h_116 rfl ?_
                    refine dPtr_i ?_
                    have h_117 := hPf.mv ((((((((((c_22.app c_31).app c_36).app c_41).app c_44).app c_47).app c_50).app c_53).app c_59).app c_66).app c_71) (rngn (by simp <;> omega))
                    refine tcall (c_pending p T P (T + 3) _ _ hT h_117 ho.sl hXl (by omega)) ?_
                    rintro v_119 s_118 ⟨acall7, ccall7, rfl, c_121, call7a⟩
                    have z_122 := c_121.size
                    refine dSl_i ?_
                    have h_126 := b_52.ch (((c_59.app c_66).app c_71).app c_121) (by simp)
                    refine st_t h_126 rfl (by simp) fun s86 b_123 c_124o z_125 => ?_
                    have c_124 := on_ch h_126 c_124o
                    have h_127 := h_116.ch (c_121.app c_124) (by simp)
                    refine ld_t h_127 rfl ?_
                    refine dPtr_i ?_
                    refine nz_i ?_
                    have h_128 := h_62.ch (((c_66.app c_71).app c_121).app c_124) (by simp <;> omega)
                    refine ld_t h_128 rfl ?_
                    refine dInt_i ?_
                    refine wr_t (by omega) ?_
                    refine nz_i ?_
                    refine st_t h_128 rfl (by simp) fun s94 b_129 c_130o z_131 => ?_
                    have c_130 := on_ch h_128 c_130o
                    have h_132 := h_127.ch c_130 (by simp <;> omega)
                    refine ld_t h_132 rfl ?_
                    refine dPtr_i ?_
                    refine nz_i ?_
                    refine ld_t b_129 rfl ?_
                    refine dMap_i ?_
                    refine ld_t h_132 rfl ?_
                    refine dPtr_i ?_
                    refine nz_i ?_
                    refine ld_t b_129 rfl ?_
                    refine dInt_i ?_
                    have h_133 := b_123.ch c_130 (by simp <;> omega)
                    refine ld_t h_133 rfl ?_
                    refine ld_t h_133 rfl ?_
                    refine ld_t h_133 rfl ?_
                    refine ld_t h_133 rfl ?_
                    refine ld_t h_133 rfl ?_
                    have h_134 := h_63.ch ((((c_66.app c_71).app c_121).app c_124).app c_130) (by simp <;> omega)
                    refine upd_t keyI um216 h_134 (PatchM.last P + 1) (Value.agg #[Value.int IntKind.i64 (PatchM.last P + 1), Value.int IntKind.i64 b, Value.int IntKind.i64 o, Value.slice acall4 xn ccall4, Value.slice acall7 (List.length (PatchM.pend P X)) ccall7]) fun s_135 m_136 c_137o z_138 => ?_
                    have c_137 : Ch [T + 2] s94 s_135 := Chg.mono c_137o fun j _ e => by subst e; rw [h_134.tag]; simp
                    have h_139 := h_132.ch c_137 (by simp <;> omega)
                    refine ld_t h_139 rfl ?_
                    refine dPtr_i ?_
                    refine nz_i ?_
                    have h_140 := b_129.ch c_137 (by simp)
                    refine ld_t h_140 rfl ?_
                    refine dInt_i ?_
                    refine ret_t ?_
                    have h_141 := call4a.mv ((((((((((((c_36.app c_41).app c_44).app c_47).app c_50).app c_53).app c_59).app c_66).app c_71).app c_121).app c_124).app c_130).app c_137) (tagn (by simp <;> omega))
                    have h_142 := call7a.mv ((c_124.app c_130).app c_137) (tagn (by simp <;> omega))
                    have h_143 := hpd.ch (((((((((((((((((c_2.app c_8).app c_13).app c_22).app c_31).app c_36).app c_41).app c_44).app c_47).app c_50).app c_53).app c_59).app c_66).app c_71).app c_121).app c_124).app c_130).app c_137) (by simp <;> omega)
                    have h_144 := hpm.mv (((((((((((((((((c_2.app c_8).app c_13).app c_22).app c_31).app c_36).app c_41).app c_44).app c_47).app c_50).app c_53).app c_59).app c_66).app c_71).app c_121).app c_124).app c_130).app c_137) (tagn (by simp <;> omega))
                    have hv : ∀ x ∈ P.l, x.id ∈ vis := fun x hx => hallksem2 _ (by rw [hpm.keys]; exact List.mem_map.2 ⟨x, hx, rfl⟩)
                    have e := newP_needs ok hv hX
                    have hPV : PatV s_135 (T + 3) (.agg #[.int .i64 (P.last + 1), .int .i64 b, .int .i64 o, .slice acall4 xn ccall4, .slice acall7 (P.pend X).length ccall7]) (P.newP b o y needs) := by
                      subst hxn
                      refine ⟨acall4, ccall4, acall7, ccall7, ?_, h_141.sl, ?_⟩
                      · unfold PatchM.newP; simp only; rw [← e]
                      · unfold PatchM.newP; simp only; rw [← e]; exact h_142.sl
                    have hnew : (P.newP b o y needs).id ∉ P.l.map (·.id) := fun h => by
                      obtain ⟨x, hx, h2⟩ := List.mem_map.1 h
                      have h3 := ok.rng x hx
                      have h2 : x.id = P.last + 1 := h2
                      omega
                    rw [show P.add b o y needs = ({ P with last := P.last + 1, l := P.l ++ [P.newP b o y needs] }, P.last + 1, 0) from by
                      unfold PatchM.add
                      rw [if_neg (by subst hxn; simpa using hft), if_neg (by rw [hsB3]; simp)]]
                    exact ⟨rfl, (((((((((((((((((((Ch.refl [T, T + 2] s).ch c_2 (by simp)).ch c_8 (by simp)).ch c_13 (by simp)).ch c_22 (by simp)).ch c_31 (by simp)).ch c_36 (by simp)).fr c_41 hM (by simp)).fr c_44 hM (by simp)).fr c_47 hM (by simp)).fr c_50 hM (by simp)).fr c_53 hM (by simp)).ch c_59 (by simp)).ch c_66 (by simp)).fr c_71 hM (by simp)).ch c_121 (by simp)).fr c_124 hM (by simp)).ch c_130 (by simp)).ch c_137 (by simp)), ⟨⟨rd, rl, md, _, h_140, h_143, m_136, PMap.snoc hPV h_144 hnew, hP.dk, hP.dv⟩, ok.add (by subst hxn; exact hft) hl⟩⟩
      ·
        refine al_t (M + 2) fun r170 s171 hr170 b_145 c_146 z_147 => ?_
        refine ⟨?_, ?_⟩
        ·
          have h_148 := h_26.ch c_146 (by simp)
          refine ld_t h_148 rfl ?_
          refine dInt_i ?_
          rfl
        ·
          refine ⟨?_, ?_⟩
          ·
            have h_149 := h_25.ch c_146 (by simp)
            refine ld_t h_149 rfl ?_
            refine dPtr_i ?_
            rfl
          ·
            have hft : fitsP b o xn := by simpa using hsB2
            have h_150 := hx.mv ((((c_2.app c_8).app c_13).app c_22).app c_146) (tagn (by simp))
            refine tcall (c_cloneB (T + 3) _ h_150 hxn (by unfold fitsP at hft; omega)) ?_
            rintro v_152 s_151 ⟨acall8, ccall8, rfl, c_154, call8a⟩
            have z_155 := c_154.size
            refine dSl_i ?_
            refine ⟨?_, ?_⟩
            ·
              have h_156 := h_26.ch (c_146.app c_154) (by simp)
              refine ld_t h_156 rfl ?_
              refine dInt_i ?_
              rfl
            ·
              refine ⟨?_, ?_⟩
              ·
                have h_157 := h_25.ch (c_146.app c_154) (by simp)
                refine ld_t h_157 rfl ?_
                refine dPtr_i ?_
                rfl
              ·
                have h_161 := b_145.ch c_154 (by simp)
                refine st_t h_161 rfl (by simp) fun s185 b_158 c_159o z_160 => ?_
                have c_159 := on_ch h_161 c_159o
                refine st_t b_158 rfl (by simp) fun s186 b_162 c_163o z_164 => ?_
                have c_163 := on_ch b_158 c_163o
                refine st_t b_162 rfl (by simp) fun s187 b_165 c_166o z_167 => ?_
                have c_166 := on_ch b_162 c_166o
                refine st_t b_165 rfl (by simp) fun s188 b_168 c_169o z_170 => ?_
                have c_169 := on_ch b_165 c_169o
                refine st_t b_168 rfl (by simp) fun s189 b_171 c_172o z_173 => ?_
                have c_172 := on_ch b_168 c_172o
                have h_174 := h_18.mv (((((((c_22.app c_146).app c_154).app c_159).app c_163).app c_166).app c_169).app c_172) (tagn (by simp <;> omega))
                refine tcall (c_cloneI (M + 4) _ h_174 (by omega) (by omega)) ?_
                rintro v_176 s_175 ⟨acall9, ccall9, rfl, c_178, call9a⟩
                have z_179 := c_178.size
                refine dSl_i ?_
                have h_180 := h_25.ch (((((((c_146.app c_154).app c_159).app c_163).app c_166).app c_169).app c_172).app c_178) (by simp)
                refine ld_t h_180 rfl ?_
                refine dPtr_i ?_
                refine nz_i ?_
                have h_181 := h_26.ch (((((((c_146.app c_154).app c_159).app c_163).app c_166).app c_169).app c_172).app c_178) (by simp <;> omega)
                refine ld_t h_181 rfl ?_
                refine dMap_i ?_
                have h_182 := hpl.ch (((((((((((c_2.app c_8).app c_13).app c_22).app c_146).app c_154).app c_159).app c_163).app c_166).app c_169).app c_172).app c_178) (by simp <;> omega)
                refine range_t (M + 7) um216 h_182 iinj fun s_183 qsem6 hqsem6 itsem6 c_185 => ?_
                have z_186 := c_185.size
                refine ⟨fun vs H' => ∃ s' : TH, s'.h = H' ∧ ∃ q qn qc, vs = [.slice q qn qc] ∧ Ch [M + 4, M + 7, M + 9] s_183 s' ∧ (∃ vis X, ItK (Value.int .i64) s' qsem6 rl ml vis (T + 2) (M + 7) ∧ Own s' q qn qc 3 1 (ivs X) (M + 4) ∧ qn ≤ nn + vis.length ∧ (∀ k ∈ vis, k ∈ P.all) ∧ ∀ i, i ∈ X ↔ i ∈ needs ∨ ∃ x ∈ P.l, x.id ∈ vis ∧ x.id = i ∧ ovl b o xn x.blk x.off x.by_.length), fun vs H' => match vs with | [.slice q qn qc] => leftH H' qsem6 rl | _ => 0, ⟨s_183, rfl, _, _, _, rfl, Ch.refl _ _, ?_⟩, ?_⟩
                ·
                  have h_187 := call9a.mv c_185 (tagn (by simp))
                  exact ⟨[], needs, itsem6, h_187, by simp, by simp, by simp⟩
                ·
                  intro q qn qc _ _ _ _ _ _ _ _ _ _ _ _ _ _ H_ hI_189
                  obtain ⟨s_188, rfl, q_, qn_, qc_, hvs, c_190, vis, X, hit, ho, hqn, hvis, hX⟩ := hI_189
                  cases hvs
                  have z_191 := c_190.size
                  have hvl := vis_len ok hit.sub hvis
                  have hXl : X.length = qn := by have := ho.1; rw [ivs_len] at this; omega
                  refine next_t hit iinj (fun s_192 ksem7 xsem7 hmksem7 hvksem7 it_193 c_194o zc_194 => ?_) (fun hallksem7 => ?_)
                  ·
                    refine dNx_t ?_
                    have c_194 : Ch [(M + 7)] s_188 s_192 := Chg.mono c_194o (fun j hj e => by subst e; rw [hit.tagq]; simp)
                    have h_195 := hpm.mv ((((((((((((((c_2.app c_8).app c_13).app c_22).app c_146).app c_154).app c_159).app c_163).app c_166).app c_169).app c_172).app c_178).app c_185).app c_190).app c_194) (tagn (by simp <;> omega))
                    obtain ⟨x1, hx1, hid1, bax, bcx, nax, ncx, hxv, sbx, snx⟩ := h_195.mem_ hmksem7
                    subst hxv
                    refine entry_t it_193 hmksem7 iinj ?_
                    refine dT2 ?_
                    refine dInt_i ?_
                    refine dA5 ?_
                    refine al_t (M + 9) fun r285 s286 hr285 b_196 c_197 z_198 => ?_
                    refine st_t b_196 rfl (by simp) fun s287 b_199 c_200o z_201 => ?_
                    have c_200 := on_ch b_196 c_200o
                    refine st_t b_199 rfl (by simp) fun s288 b_202 c_203o z_204 => ?_
                    have c_203 := on_ch b_199 c_203o
                    refine st_t b_202 rfl (by simp) fun s289 b_205 c_206o z_207 => ?_
                    have c_206 := on_ch b_202 c_206o
                    refine st_t b_205 rfl (by simp) fun s290 b_208 c_209o z_210 => ?_
                    have c_209 := on_ch b_205 c_209o
                    refine st_t b_208 rfl (by simp) fun s291 b_211 c_212o z_213 => ?_
                    have c_212 := on_ch b_208 c_212o
                    have h_214 := b_171.ch (((((((((c_178.app c_185).app c_190).app c_194).app c_197).app c_200).app c_203).app c_206).app c_209).app c_212) (by simp)
                    refine ld_t h_214 rfl ?_
                    refine ld_t h_214 rfl ?_
                    refine ld_t h_214 rfl ?_
                    refine ld_t h_214 rfl ?_
                    refine ld_t h_214 rfl ?_
                    refine ld_t b_211 rfl ?_
                    refine ld_t b_211 rfl ?_
                    refine ld_t b_211 rfl ?_
                    refine ld_t b_211 rfl ?_
                    refine ld_t b_211 rfl ?_
                    have hfx := ok.fit x1 hx1
                    have hft2 := hft
                    unfold fitsP at hft2
                    refine tcall (c_overlap _ _ _ _ _ _ _ _ _ _ _ _ _ _ _ _ _ _ _ (by omega) (by omega)) ?_
                    rintro v_216 s_215 ⟨rfl, c_218⟩
                    have z_219 := c_218.size
                    refine dBl_i ?_
                    refine sB_d (fun hsB5 => ?_) (fun hsB5 => ?_)
                    ·
                      refine al_t (M + 9) fun r305 s306 hr305 b_220 c_221 z_222 => ?_
                      have h_225 := ho.mv ((((((((c_194.app c_197).app c_200).app c_203).app c_206).app c_209).app c_212).app c_218).app c_221) (tagn (by simp))
                      refine app_i1 u45 in3 h_225 b_220 (by omega) fun s_226 a_223 k_224 o_227 c_228 => ?_
                      have z_229 := c_228.size
                      refine dSl_i ?_
                      refine ⟨⟨s_226, rfl, _, _, _, rfl, ((((((((((((Ch.refl [M + 4, M + 7, M + 9] s_183).ch c_190 (by simp)).ch c_194 (by simp)).ch c_197 (by simp)).ch c_200 (by simp)).ch c_203 (by simp)).ch c_206 (by simp)).ch c_209 (by simp)).ch c_212 (by simp)).ch c_218 (by simp)).ch c_221 (by simp)).ch c_228 (by simp)), ?_⟩, ?_⟩
                      ·
                        have h_230 := it_193.ch ((((((((c_197.app c_200).app c_203).app c_206).app c_209).app c_212).app c_218).app c_221).app c_228) (by simp <;> omega) (by simp <;> omega)
                        refine ⟨_, _, h_230, o_227, ?_, ?_, ?_⟩
                        · simp only [List.length_append, List.length_singleton]; omega
                        · intro k hk
                          rcases List.mem_append.1 hk with h | h
                          · exact hvis k h
                          · rw [List.mem_singleton] at h; subst h; rw [← hid1]; exact List.mem_map.2 ⟨x1, hx1, rfl⟩
                        · intro i
                          rw [List.mem_append, hX, List.mem_singleton]
                          constructor
                          · rintro ((h | ⟨x, h1, h2, h3⟩) | h)
                            · exact .inl h
                            · exact .inr ⟨x, h1, List.mem_append_left _ h2, h3⟩
                            · exact .inr ⟨x1, hx1, by rw [hid1]; simp, by rw [hid1, h], hsB5⟩
                          · rintro (h | ⟨x, h1, h2, h3, h4⟩)
                            · exact .inl (.inl h)
                            · rcases List.mem_append.1 h2 with h2 | h2
                              · exact .inl (.inr ⟨x, h1, h2, h3, h4⟩)
                              · rw [List.mem_singleton] at h2; right; rw [← h3, h2]
                      ·
                        have h_231 := it_193.ch ((((((((c_197.app c_200).app c_203).app c_206).app c_209).app c_212).app c_218).app c_221).app c_228) (by simp <;> omega) (by simp <;> omega)
                        exact it_less iinj hit h_231 hmksem7 hvksem7 (List.Sublist.refl _)
                    ·
                      refine ⟨⟨s_215, rfl, _, _, _, rfl, ((((((((((Ch.refl [M + 4, M + 7, M + 9] s_183).ch c_190 (by simp)).ch c_194 (by simp)).ch c_197 (by simp)).ch c_200 (by simp)).ch c_203 (by simp)).ch c_206 (by simp)).ch c_209 (by simp)).ch c_212 (by simp)).ch c_218 (by simp)), ?_⟩, ?_⟩
                      ·
                        have h_232 := it_193.ch ((((((c_197.app c_200).app c_203).app c_206).app c_209).app c_212).app c_218) (by simp <;> omega) (by simp <;> omega)
                        have h_233 := ho.mv (((((((c_194.app c_197).app c_200).app c_203).app c_206).app c_209).app c_212).app c_218) (tagn (by simp))
                        refine ⟨_, _, h_232, h_233, ?_, ?_, ?_⟩
                        · simp only [List.length_append, List.length_singleton]; omega
                        · intro k hk
                          rcases List.mem_append.1 hk with h | h
                          · exact hvis k h
                          · rw [List.mem_singleton] at h; subst h; rw [← hid1]; exact List.mem_map.2 ⟨x1, hx1, rfl⟩
                        · intro i
                          rw [hX]
                          constructor
                          · rintro (h | ⟨x, h1, h2, h3⟩)
                            · exact .inl h
                            · exact .inr ⟨x, h1, List.mem_append_left _ h2, h3⟩
                          · rintro (h | ⟨x, h1, h2, h3, h4⟩)
                            · exact .inl h
                            · rcases List.mem_append.1 h2 with h2 | h2
                              · exact .inr ⟨x, h1, h2, h3, h4⟩
                              · rw [List.mem_singleton] at h2
                                exfalso
                                have e : x = x1 := by
                                  have g1 := find_by ok.nodup h1
                                  have g2 := find_by ok.nodup hx1
                                  rw [h2, ← hid1, g2] at g1; exact (Option.some.inj g1).symm
                                subst e; exact hsB5 h4
                      ·
                        have h_234 := it_193.ch ((((((c_197.app c_200).app c_203).app c_206).app c_209).app c_212).app c_218) (by simp <;> omega) (by simp <;> omega)
                        exact it_less iinj hit h_234 hmksem7 hvksem7 (List.Sublist.refl _)
                  ·
                    refine dNx_f ?_
                    have h_235 := h_180.ch (c_185.app c_190) (by simp)
                    refine ld_t h_235 rfl ?_
                    refine dPtr_i ?_
                    have h_236 := hPf.mv ((((((((((c_22.app c_146).app c_154).app c_159).app c_163).app c_166).app c_169).app c_172).app c_178).app c_185).app c_190) (rngn (by simp <;> omega))
                    refine tcall (c_pending p T P (T + 3) _ _ hT h_236 ho.sl hXl (by omega)) ?_
                    rintro v_238 s_237 ⟨acall11, ccall11, rfl, c_240, call11a⟩
                    have z_241 := c_240.size
                    refine dSl_i ?_
                    have h_245 := b_171.ch (((c_178.app c_185).app c_190).app c_240) (by simp)
                    refine st_t h_245 rfl (by simp) fun s236 b_242 c_243o z_244 => ?_
                    have c_243 := on_ch h_245 c_243o
                    have h_246 := h_235.ch (c_240.app c_243) (by simp)
                    refine ld_t h_246 rfl ?_
                    refine dPtr_i ?_
                    refine nz_i ?_
                    have h_247 := h_181.ch (((c_185.app c_190).app c_240).app c_243) (by simp <;> omega)
                    refine ld_t h_247 rfl ?_
                    refine dInt_i ?_
                    refine wr_t (by omega) ?_
                    refine nz_i ?_
                    refine st_t h_247 rfl (by simp) fun s244 b_248 c_249o z_250 => ?_
                    have c_249 := on_ch h_247 c_249o
                    have h_251 := h_246.ch c_249 (by simp <;> omega)
                    refine ld_t h_251 rfl ?_
                    refine dPtr_i ?_
                    refine nz_i ?_
                    refine ld_t b_248 rfl ?_
                    refine dMap_i ?_
                    refine ld_t h_251 rfl ?_
                    refine dPtr_i ?_
                    refine nz_i ?_
                    refine ld_t b_248 rfl ?_
                    refine dInt_i ?_
                    have h_252 := b_242.ch c_249 (by simp <;> omega)
                    refine ld_t h_252 rfl ?_
                    refine ld_t h_252 rfl ?_
                    refine ld_t h_252 rfl ?_
                    refine ld_t h_252 rfl ?_
                    refine ld_t h_252 rfl ?_
                    have h_253 := h_182.ch ((((c_185.app c_190).app c_240).app c_243).app c_249) (by simp <;> omega)
                    refine upd_t keyI um216 h_253 (PatchM.last P + 1) (Value.agg #[Value.int IntKind.i64 (PatchM.last P + 1), Value.int IntKind.i64 b, Value.int IntKind.i64 o, Value.slice acall8 xn ccall8, Value.slice acall11 (List.length (PatchM.pend P X)) ccall11]) fun s_254 m_255 c_256o z_257 => ?_
                    have c_256 : Ch [T + 2] s244 s_254 := Chg.mono c_256o fun j _ e => by subst e; rw [h_253.tag]; simp
                    have h_258 := h_251.ch c_256 (by simp <;> omega)
                    refine ld_t h_258 rfl ?_
                    refine dPtr_i ?_
                    refine nz_i ?_
                    have h_259 := b_248.ch c_256 (by simp)
                    refine ld_t h_259 rfl ?_
                    refine dInt_i ?_
                    refine ret_t ?_
                    have h_260 := call8a.mv (((((((((((c_159.app c_163).app c_166).app c_169).app c_172).app c_178).app c_185).app c_190).app c_240).app c_243).app c_249).app c_256) (tagn (by simp <;> omega))
                    have h_261 := call11a.mv ((c_243.app c_249).app c_256) (tagn (by simp <;> omega))
                    have h_262 := hpd.ch (((((((((((((((((c_2.app c_8).app c_13).app c_22).app c_146).app c_154).app c_159).app c_163).app c_166).app c_169).app c_172).app c_178).app c_185).app c_190).app c_240).app c_243).app c_249).app c_256) (by simp <;> omega)
                    have h_263 := hpm.mv (((((((((((((((((c_2.app c_8).app c_13).app c_22).app c_146).app c_154).app c_159).app c_163).app c_166).app c_169).app c_172).app c_178).app c_185).app c_190).app c_240).app c_243).app c_249).app c_256) (tagn (by simp <;> omega))
                    have hv : ∀ x ∈ P.l, x.id ∈ vis := fun x hx => hallksem7 _ (by rw [hpm.keys]; exact List.mem_map.2 ⟨x, hx, rfl⟩)
                    have e := newP_needs ok hv hX
                    have hPV : PatV s_254 (T + 3) (.agg #[.int .i64 (P.last + 1), .int .i64 b, .int .i64 o, .slice acall8 xn ccall8, .slice acall11 (P.pend X).length ccall11]) (P.newP b o y needs) := by
                      subst hxn
                      refine ⟨acall8, ccall8, acall11, ccall11, ?_, h_260.sl, ?_⟩
                      · unfold PatchM.newP; simp only; rw [← e]
                      · unfold PatchM.newP; simp only; rw [← e]; exact h_261.sl
                    have hnew : (P.newP b o y needs).id ∉ P.l.map (·.id) := fun h => by
                      obtain ⟨x, hx, h2⟩ := List.mem_map.1 h
                      have h3 := ok.rng x hx
                      have h2 : x.id = P.last + 1 := h2
                      omega
                    rw [show P.add b o y needs = ({ P with last := P.last + 1, l := P.l ++ [P.newP b o y needs] }, P.last + 1, 0) from by
                      unfold PatchM.add
                      rw [if_neg (by subst hxn; simpa using hft), if_neg (by rw [hsB3]; simp)]]
                    exact ⟨rfl, (((((((((((((((((((Ch.refl [T, T + 2] s).ch c_2 (by simp)).ch c_8 (by simp)).ch c_13 (by simp)).ch c_22 (by simp)).ch c_146 (by simp)).ch c_154 (by simp)).fr c_159 hM (by simp)).fr c_163 hM (by simp)).fr c_166 hM (by simp)).fr c_169 hM (by simp)).fr c_172 hM (by simp)).ch c_178 (by simp)).ch c_185 (by simp)).fr c_190 hM (by simp)).ch c_240 (by simp)).fr c_243 hM (by simp)).ch c_249 (by simp)).ch c_256 (by simp)), ⟨⟨rd, rl, md, _, h_259, h_262, m_255, PMap.snoc hPV h_263 hnew, hP.dk, hP.dv⟩, ok.add (by subst hxn; exact hft) hl⟩⟩
/-- what must be on the disk until some are -/
inductive PatchM.Reach (P : PatchM) (ids : List Int) : Int → Prop
  | base {i : Int} : i ∈ P.pend ids → PatchM.Reach P ids i
  | step {i n : Int} {x : PatM} : PatchM.Reach P ids i → P.find i = some x → n ∈ P.pend x.needs → PatchM.Reach P ids n
theorem PatchM.Reach.all {P : PatchM} {ids : List Int} {i : Int} (h : P.Reach ids i) : i ∈ P.all := by
  cases h with
  | base h => exact (pend_sub h).1
  | step h1 h2 h3 => exact (pend_sub h3).1
structure ClI (P : PatchM) (ids : List Int) (K O : List Int) : Prop where
  kr : ∀ i ∈ K, P.Reach ids i
  or_ : ∀ i ∈ O, P.Reach ids i
  pe : ∀ i ∈ P.pend ids, i ∈ K ∨ i ∈ O
  cl : ∀ i ∈ K, ∀ x, P.find i = some x → ∀ n ∈ P.pend x.needs, n ∈ K ∨ n ∈ O
  nd : K.Nodup
theorem ClI.done {P : PatchM} {ids K : List Int} (h : ClI P ids K []) (i : Int) : i ∈ K ↔ P.Reach ids i := by
  refine ⟨h.kr i, fun hr => ?_⟩
  induction hr with
  | base hi => exact (h.pe _ hi).resolve_right (by simp)
  | step h1 h2 h3 ih => exact (h.cl _ ih _ h2 _ h3).resolve_right (by simp)
theorem ClI.push {P : PatchM} {ids K O : List Int} {i : Int} {x : PatM} (h : ClI P ids K (O ++ [i])) (hi : i ∉ K) (hx : P.find i = some x) : ClI P ids (K ++ [i]) (O ++ P.pend x.needs) where
  kr j hj := (List.mem_append.1 hj).elim (h.kr j) fun h2 => by rw [List.mem_singleton] at h2; rw [h2]; exact h.or_ i (by simp)
  or_ j hj := (List.mem_append.1 hj).elim (fun h2 => h.or_ j (List.mem_append_left _ h2)) fun h2 => .step (h.or_ i (by simp)) hx h2
  pe j hj := (h.pe j hj).elim (fun h => .inl (List.mem_append_left _ h)) fun h => (List.mem_append.1 h).elim (fun h => .inr (List.mem_append_left _ h)) fun h => .inl (List.mem_append_right _ h)
  cl j hj y hy n hn := by
    rcases List.mem_append.1 hj with hj | hj
    · rcases h.cl j hj y hy n hn with h | h
      · exact .inl (List.mem_append_left _ h)
      · rcases List.mem_append.1 h with h | h
        · exact .inr (List.mem_append_left _ h)
        · exact .inl (List.mem_append_right _ h)
    · rw [List.mem_singleton] at hj; subst hj
      rw [hx] at hy; cases hy
      exact .inr (List.mem_append_right _ hn)
  nd := List.nodup_append.2 ⟨h.nd, by simp, fun a ha b hb e => by rw [List.mem_singleton] at hb; subst hb; subst e; exact hi ha⟩
end Go.Proofs.YtklppdodadkcnaaGreat.E
