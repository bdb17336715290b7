/- My own texts, joined. -/
import Derived.Test.YtklppdodadkcnaaGreatIG13
namespace Go.Proofs.YtklppdodadkcnaaGreat.E
open Go
set_option linter.unusedVariables false
section
variable {P : Program} {t t2 ty e : TypeId} {E : List PanicEntry → Heap → Prop}
theorem mid_get {α : Type} (A B : List α) (p : Nat) (hp : p ≤ A.length) (hB : p + B.length ≤ A.length) (i : Nat) :
  (A.take p ++ B ++ A.drop (p + B.length))[i]? = if i < p then A[i]? else if i < p + B.length then B[i - p]? else A[i]? := by
 have h1 : (A.take p).length = p := by simp; omega
 rw [List.append_assoc, List.getElem?_append, h1]
 by_cases h : i < p
 ·rw [if_pos h, if_pos h, List.getElem?_take, if_pos h]
 ·rw [if_neg h, if_neg h, List.getElem?_append]
  by_cases h2 : i < p + B.length
  ·rw [if_pos (by omega), if_pos h2]
  ·rw [if_neg (by omega), if_neg h2, List.getElem?_drop]
   congr 1; omega
theorem copy_gen {s : TH} {a : Addr} {n c p m : Nat} {l x : List UInt8} {τ : Nat} {src : Value} {K : Value → Heap → Prop}
  (ht : P.underlying t = some (.slice e)) (hi' : (P.info? e).map (fun i => (i.zero, i.size, i.bytes)) = some (some (.int .u8 0), 1, 1))
  (hO : Own s (some a) n c e 1 (bvs l) τ) (hp : p ≤ n) (hlen : ∀ w, (Builtin.lenOf src).run P w = .ok m w) (hx : x.length = min m (n - p))
  (hf : ∀ w : World, w.heap = s.h → (Builtin.firstCells 1 (min m (n - p)) src).run P w = .ok (bvs x).toArray w)
  (hk : ∀ s' : TH, Own s' (some a) n c e 1 (bvs (l.take p ++ x ++ l.drop (p + x.length))) τ → OnA (some a) s s' → s.h.size = s'.h.size → K (.int .i64 ((min m (n - p) : Nat) : Int)) s'.h) :
  semW P (Builtin.copy_ #[t, t2] ty #[.slice (slO (some a) 1 (p : Int) (c : Int)) (n - p) (c - p), src]) E s.h K := .mk fun w hw => by
 obtain ⟨i, hi, hz, hs, hby⟩ := info_of hi'
 have hln : l.length = n := by have := hO.1; rw [bvs_len] at this; omega
 rcases hO.2 with ⟨h0, _⟩ | ⟨g, o, L, h2, h3, h4, h5, h6, h7⟩
 ·cases h0
 cases h2
 have hfw := hf w hw
 by_cases hx0 : x = []
 ·subst hx0
  have hm0 : min m (n - p) = 0 := by simpa using hx.symm
  rw [hm0] at hfw hk
  have hr : (Builtin.copy_ #[t, t2] ty #[.slice (slO (some ⟨g, o, none⟩) 1 (p : Int) (c : Int)) (n - p) (c - p), src]).run P w = .ok (.int .i64 ((0 : Nat) : Int)) w := by
   simp [slO, Builtin.copy_, run_underlying ht, sizeOf, typeInfo, hi, hs, hlen, hm0, hfw, bvs, storeCells, goInt]
  rw [hr]
  refine ⟨?_, Like.refl w⟩
  rw [hw]
  exact hk s (by simpa using hO) ⟨Nat.le_refl _, fun _ _ => rfl, fun _ _ _ => rfl⟩ rfl
 ·have hxl : 0 < x.length := List.length_pos_iff.2 hx0
  have hsl : slO (some ⟨g, o, none⟩) 1 (p : Int) (c : Int) = some ⟨g, o + p, none⟩ := by rw [slA_mk, if_neg (by omega)]; simp
  have hst := run_storeCells_at P g (o + p) e (bvs x) 0 L.toArray w (by rw [hw]; exact h3.get) (by simp [bvs_len]; omega) (bvs_one _)
  simp only [Nat.add_zero, bvs_len] at hst
  have hr : (Builtin.copy_ #[t, t2] ty #[.slice (slO (some ⟨g, o, none⟩) 1 (p : Int) (c : Int)) (n - p) (c - p), src]).run P w = .ok (.int .i64 ((min m (n - p) : Nat) : Int)) (w.setRow g (L.take (o + p) ++ bvs x ++ L.drop (o + p + x.length)).toArray) := by
   rw [hsl]
   simp [Builtin.copy_, run_underlying ht, sizeOf, typeInfo, hi, hs, hlen, hfw, hst, goInt]
  rw [hr]
  have hset : (w.setRow g (L.take (o + p) ++ bvs x ++ L.drop (o + p + x.length)).toArray).heap[g]? = some (.cells (L.take (o + p) ++ bvs x ++ L.drop (o + p + x.length)).toArray e (0, 0)) := setRow_heap w g L.toArray _ e _ (by rw [hw]; exact h3.get)
  have hK := hk ⟨(w.setRow g (L.take (o + p) ++ bvs x ++ L.drop (o + p + x.length)).toArray).heap, s.g⟩ ⟨?_, .inr ⟨g, o, _, rfl, ⟨hset, h3.tag⟩, h4, h5, ?_, ?_⟩⟩ ⟨by simp [← hw], fun _ _ => rfl, fun j hj hn => ?_⟩ (by simp [← hw])
  ·exact ⟨hK, rfl, rfl, rfl⟩
  ·rw [bvs_len]; simp; omega
  ·simp only [List.length_append, List.length_take, List.length_drop, bvs_len]; omega
  ·apply List.ext_getElem?
   intro j
   have hLl : ∀ q, q < n → L[o + q]? = (bvs l)[q]? := fun q hq => by rw [← h7, List.getElem?_take, if_pos (by omega), List.getElem?_drop]
   have hb : bvs (l.take p ++ x ++ l.drop (p + x.length)) = (bvs l).take p ++ bvs x ++ (bvs l).drop (p + (bvs x).length) := by simp [bvs, List.map_take, List.map_drop]
   rw [hb, mid_get _ _ _ (by rw [bvs_len]; omega) (by rw [bvs_len, bvs_len]; omega), List.getElem?_take]
   have hmid := mid_get L (bvs x) (o + p) (by omega) (by rw [bvs_len]; omega) (o + j)
   rw [bvs_len] at hmid ⊢
   by_cases hj : j < n * 1
   ·rw [if_pos hj, List.getElem?_drop, hmid]
    by_cases h8 : j < p
    ·rw [if_pos (by omega), if_pos h8]; exact hLl j (by omega)
    ·rw [if_neg (by omega), if_neg h8]
     by_cases h9 : j < p + x.length
     ·rw [if_pos (by omega), if_pos h9]; congr 1; omega
     ·rw [if_neg (by omega), if_neg h9]; exact hLl j (by omega)
   ·rw [if_neg hj, if_neg (by omega), if_neg (by omega)]
    exact (List.getElem?_eq_none (by rw [bvs_len]; omega)).symm
  ·show (w.setRow g _).heap[j]? = _
   rw [setRow_other w g j _ (fun e => hn (by simp [e])), hw]
theorem copy_os {s : TH} {a : Addr} {n c p : Nat} {l : List UInt8} {τ : Nat} (d : Array UInt8) {K : Value → Heap → Prop}
  (ht : P.underlying t = some (.slice e)) (hi' : (P.info? e).map (fun i => (i.zero, i.size, i.bytes)) = some (some (.int .u8 0), 1, 1))
  (hO : Own s (some a) n c e 1 (bvs l) τ) (hp : p ≤ n)
  (hk : ∀ s' : TH, Own s' (some a) n c e 1 (bvs (l.take p ++ d.toList.take (n - p) ++ l.drop (p + (d.toList.take (n - p)).length))) τ → OnA (some a) s s' → s.h.size = s'.h.size → K (.int .i64 ((min d.size (n - p) : Nat) : Int)) s'.h) :
  semW P (Builtin.copy_ #[t, t2] ty #[.slice (slO (some a) 1 (p : Int) (c : Int)) (n - p) (c - p), .string ⟨d⟩]) E s.h K := by
 refine copy_gen (m := d.size) (x := d.toList.take (n - p)) ht hi' hO hp (fun w => rfl) (by simp; omega) (fun w hw => ?_) hk
 simp only [Builtin.firstCells]
 show Result.ok _ w = _
 congr 1
 apply Array.toList_inj.1
 simp only [bvs, Array.toList_map, ByteArray.data_extract, Array.toList_extract]
 apply List.ext_getElem?
 intro j
 simp [List.getElem?_take]
 by_cases h : j < d.size ∧ j < n - p
 ·simp [h.1, h.2]; exact ⟨by omega, rfl⟩
 ·by_cases h1 : j < n - p
  ·have : ¬ j < d.size := fun h2 => h ⟨h2, h1⟩
   simp [h1, this]
  ·simp [h1]; omega
end
end Go.Proofs.YtklppdodadkcnaaGreat.E
namespace Go.Proofs.YtklppdodadkcnaaGreat.E
open Go
set_option linter.unusedVariables false
set_option linter.unusedSimpArgs false
section
variable {s : TH} {a : Addr} {τ : Nat} {k : Value → Prop}
theorem ld_bv {l : List UInt8} {n : Int} (h : Sl s (some a) (bvs l) τ) (h0 : 0 ≤ n) (h1 : n < l.length) (hk : ∀ b : UInt8, l[n.toNat]? = some b → k (.int .u8 (b.toNat : Int))) : ld s.h (a.add (n.toNat * 1)) k := by
 have h2 : n.toNat < l.length := by omega
 refine ld_sl h (v := bv l[n.toNat]) ?_ (hk _ (by simp [h2]))
 rw [Nat.mul_one]; simp [bvs, h2]
theorem ld_iv {l : List Int} {n : Int} (h : Sl s (some a) (ivs l) τ) (h0 : 0 ≤ n) (h1 : n < l.length) (hk : ∀ x : Int, l[n.toNat]? = some x → k (.int .i64 x)) : ld s.h (a.add (n.toNat * 1)) k := by
 have h2 : n.toNat < l.length := by omega
 refine ld_sl h (v := .int .i64 l[n.toNat]) ?_ (hk _ (by simp [h2]))
 rw [Nat.mul_one]; simp [ivs, h2]
end
structure Rp (α : Type) where
 k : Nat
 r : TH → Nat → α → List Value → Prop
 len : ∀ {s τ x l}, r s τ x l → l.length = k
 one : ∀ {s τ x l}, r s τ x l → ∀ u ∈ l, u.oneCell' = true
 mv : ∀ {s s' : TH} {τ x l} {B : Nat → Prop}, r s τ x l → Chg B s s' → (∀ j, j < s.h.size → s.g j = τ → ¬ B j) → r s' τ x l
def RL {α : Type} (R : Rp α) (s : TH) (τ : Nat) : List α → List Value → Prop
 | [], l => l = []
 | x :: xs, l => ∃ c r, l = c ++ r ∧ R.r s τ x c ∧ RL R s τ xs r
section
variable {α : Type} {R : Rp α} {s s' : TH} {τ : Nat}
theorem RL.mv {B : Nat → Prop} : ∀ {xs : List α} {l : List Value}, RL R s τ xs l → Chg B s s' → (∀ j, j < s.h.size → s.g j = τ → ¬ B j) → RL R s' τ xs l
 | [], l, h, c, hn => h
 | x :: xs, l, ⟨c0, r, h1, h2, h3⟩, c, hn => ⟨c0, r, h1, R.mv h2 c hn, RL.mv h3 c hn⟩
theorem RL.len : ∀ {xs : List α} {l : List Value}, RL R s τ xs l → l.length = xs.length * R.k
 | [], l, h => by rw [show l = [] from h]; simp
 | x :: xs, l, ⟨c0, r, h1, h2, h3⟩ => by rw [h1, List.length_append, R.len h2, RL.len h3, List.length_cons, Nat.add_mul]; omega
theorem RL.one : ∀ {xs : List α} {l : List Value}, RL R s τ xs l → ∀ u ∈ l, u.oneCell' = true
 | [], l, h, u, hu => by rw [show l = [] from h] at hu; cases hu
 | x :: xs, l, ⟨c0, r, h1, h2, h3⟩, u, hu => by
  rw [h1] at hu
  rcases List.mem_append.1 hu with hu | hu
  ·exact R.one h2 u hu
  ·exact RL.one h3 u hu
theorem RL.app : ∀ {xs ys : List α} {l m : List Value}, RL R s τ xs l → RL R s τ ys m → RL R s τ (xs ++ ys) (l ++ m)
 | [], ys, l, m, h, k => by rw [show l = [] from h]; exact k
 | x :: xs, ys, l, m, ⟨c0, r, h1, h2, h3⟩, k => ⟨c0, r ++ m, by rw [h1, List.append_assoc], h2, RL.app h3 k⟩
theorem RL.get : ∀ {xs : List α} {l : List Value} {i : Nat} {x : α}, RL R s τ xs l → xs[i]? = some x → ∃ c, R.r s τ x c ∧ ∀ j, j < R.k → l[i * R.k + j]? = c[j]?
 | [], l, i, x, h, hx => by simp at hx
 | y :: xs, l, 0, x, ⟨c0, r, h1, h2, h3⟩, hx => by
  simp at hx; subst hx
  exact ⟨c0, h2, fun j hj => by rw [h1, Nat.zero_mul, Nat.zero_add, List.getElem?_append_left (by rw [R.len h2]; exact hj)]⟩
 | y :: xs, l, i + 1, x, ⟨c0, r, h1, h2, h3⟩, hx => by
  obtain ⟨c, h4, h5⟩ := RL.get h3 (by simpa using hx)
  refine ⟨c, h4, fun j hj => ?_⟩
  rw [h1, List.getElem?_append_right (by rw [R.len h2, Nat.add_mul]; omega), R.len h2, ← h5 j hj]
  congr 1; rw [Nat.add_mul]; omega
theorem RL.take : ∀ {xs : List α} {l : List Value} (i : Nat), RL R s τ xs l → RL R s τ (xs.take i) (l.take (i * R.k))
 | _, _, 0, _ => by simp [RL]
 | [], l, i + 1, h => by rw [show l = [] from h]; simp [RL]
 | x :: xs, l, i + 1, ⟨c0, r, h1, h2, h3⟩ => by
  refine ⟨c0, r.take (i * R.k), ?_, h2, RL.take i h3⟩
  rw [h1, Nat.add_mul, Nat.one_mul, List.take_append, R.len h2, List.take_of_length_le (by rw [R.len h2]; omega)]
  congr 2; omega
theorem RL.drop : ∀ {xs : List α} {l : List Value} (i : Nat), RL R s τ xs l → RL R s τ (xs.drop i) (l.drop (i * R.k))
 | _, _, 0, h => by simpa using h
 | [], l, i + 1, h => by rw [show l = [] from h]; simp [RL]
 | x :: xs, l, i + 1, ⟨c0, r, h1, h2, h3⟩ => by
  have e : List.drop (i * R.k + R.k) c0 = [] := List.drop_eq_nil_iff.2 (by rw [R.len h2]; omega)
  rw [h1, Nat.add_mul, Nat.one_mul, List.drop_append, R.len h2, e, List.nil_append, List.drop_succ_cons, show i * R.k + R.k - R.k = i * R.k by omega]
  exact RL.drop i h3
theorem RL.all {Q : α → Prop} (hQ : ∀ {x c}, R.r s τ x c → Q x) : ∀ {xs : List α} {l : List Value}, RL R s τ xs l → ∀ x ∈ xs, Q x
 | [], l, h, x, hx => by cases hx
 | y :: xs, l, ⟨c0, r, h1, h2, h3⟩, x, hx => by
  rcases List.mem_cons.1 hx with rfl | hx
  ·exact hQ h2
  ·exact RL.all hQ h3 x hx
end
end Go.Proofs.YtklppdodadkcnaaGreat.E
namespace Go.Proofs.YtklppdodadkcnaaGreat.E
open Go
set_option linter.unusedVariables false
set_option linter.unusedSimpArgs false
theorem fresh6 (s : TH) (a b c d e f : Nat) : ∃ M, (∀ j, j < s.h.size → s.g j < M) ∧ 10 ≤ M ∧ a < M ∧ b < M ∧ c < M ∧ d < M ∧ e < M ∧ f < M := by
 have h : ∀ n, ∃ m, ∀ j, j < n → s.g j < m := fun n => by
  induction n with
  | zero => exact ⟨0, fun j hj => by omega⟩
  | succ n ih =>
   obtain ⟨m, hm⟩ := ih
   refine ⟨m + s.g n + 1, fun j hj => ?_⟩
   by_cases e : j = n
   ·subst e; omega
   ·have := hm j (by omega); omega
 obtain ⟨m, hm⟩ := h s.h.size
 exact ⟨m + a + b + c + d + e + f + 10, fun j hj => by have := hm j hj; omega, by omega, by omega, by omega, by omega, by omega, by omega, by omega⟩
theorem Ch.fr {T T' : List Nat} {a b c : TH} {M : Nat} (h : Ch T a b) (k : Ch T' b c) (hM : ∀ j, j < a.h.size → a.g j < M) (hT : ∀ x ∈ T', x ∈ T ∨ M ≤ x) : Ch T a c :=
 Chg.trans h k fun j hj hB => by
  have hB : b.g j ∈ T' := hB
  rw [h.tag j hj] at hB
  rcases hT _ hB with h1 | h1
  ·exact h1
  ·have := hM j hj; omega
theorem Ch.app {T T' : List Nat} {a b c : TH} (h : Ch T a b) (k : Ch T' b c) : Ch (T ++ T') a c :=
 Chg.trans (h.less (T' := T ++ T') fun x hx => List.mem_append_left _ hx) k fun j hj hB => by
  have hB : b.g j ∈ T' := hB
  rw [h.tag j hj] at hB
  exact List.mem_append_right _ hB
def remark (s : TH) (μ τ : Nat) : TH := ⟨s.h, fun j => if s.g j = μ then τ else s.g j⟩
theorem ret_t' {Q : Value → TH → Prop} {v : Value} {s s' : TH} (hs : s'.h = s.h) (h : Q v s') : RT Q (.returned v) s.h := ⟨v, s', rfl, hs, h⟩
theorem remark_ch {T : List Nat} {s s' : TH} {M μ τ : Nat} (c : Ch T s s') (hM : ∀ j, j < s.h.size → s.g j < M) (hμ : M ≤ μ) : Ch T s (remark s' μ τ) :=
 ⟨c.size, fun j hj => by
  have h1 := c.tag j hj
  have h2 := hM j hj
  show (if s'.g j = μ then τ else s'.g j) = s.g j
  rw [h1, if_neg (by omega)], c.get⟩
theorem remark_chg {s : TH} {μ τ : Nat} {σ : Nat} (h : σ ≠ μ) : ∀ j, s.g j = σ → (remark s μ τ).g j = σ := fun j hj => by
 show (if s.g j = μ then τ else s.g j) = σ
 rw [hj, if_neg h]
theorem remark_to {s : TH} {μ τ : Nat} : ∀ j, s.g j = μ → (remark s μ τ).g j = τ := fun j hj => by
 show (if s.g j = μ then τ else s.g j) = τ
 rw [if_pos hj]
theorem Own.remark {s : TH} {a : Option Addr} {n c e k : Nat} {xs : List Value} {μ τ : Nat} (h : Own s a n c e k xs μ) : Own (remark s μ τ) a n c e k xs τ := by
 refine ⟨h.1, h.2.imp id ?_⟩
 rintro ⟨g, o, L, h1, h2, h3⟩
 exact ⟨g, o, L, h1, ⟨h2.get, remark_to g h2.tag⟩, h3⟩
theorem Sl.remark {s : TH} {a : Option Addr} {l : List Value} {μ τ : Nat} (h : Sl s a l μ) : Sl (remark s μ τ) a l τ := by
 refine h.imp id ?_
 rintro ⟨g, o, h1, h2, h3, h4⟩
 exact ⟨g, o, h1, h2, remark_to g h3, h4⟩
theorem Sl.keep {s : TH} {a : Option Addr} {l : List Value} {σ μ τ : Nat} (h : Sl s a l σ) (hn : σ ≠ μ) : Sl (E.remark s μ τ) a l σ := by
 refine h.imp id ?_
 rintro ⟨g, o, h1, h2, h3, h4⟩
 exact ⟨g, o, h1, h2, remark_chg hn g h3, h4⟩
theorem Own.keep {s : TH} {a : Option Addr} {n c e k : Nat} {xs : List Value} {σ μ τ : Nat} (h : Own s a n c e k xs σ) (hn : σ ≠ μ) : Own (E.remark s μ τ) a n c e k xs σ := by
 refine ⟨h.1, h.2.imp id ?_⟩
 rintro ⟨g, o, L, h1, h2, h3⟩
 exact ⟨g, o, L, h1, ⟨h2.get, remark_chg hn g h2.tag⟩, h3⟩
theorem Blk.remark {s : TH} {r : Nat} {l : List Value} {t μ τ : Nat} (h : Blk s r l t μ) : Blk (remark s μ τ) r l t τ := ⟨h.get, remark_to r h.tag⟩
theorem Blk.keep {s : TH} {r : Nat} {l : List Value} {t σ μ τ : Nat} (h : Blk s r l t σ) (hn : σ ≠ μ) : Blk (E.remark s μ τ) r l t σ := ⟨h.get, remark_chg hn r h.tag⟩
theorem MapK.remark {κ : Type} {kf : κ → Value} {s : TH} {r : Nat} {m : List (κ × Value)} {μ τ : Nat} (h : MapK kf s r m μ) : MapK kf (remark s μ τ) r m τ := ⟨h.get, remark_to r h.tag, h.nd⟩
theorem MapK.keep {κ : Type} {kf : κ → Value} {s : TH} {r : Nat} {m : List (κ × Value)} {σ μ τ : Nat} (h : MapK kf s r m σ) (hn : σ ≠ μ) : MapK kf (E.remark s μ τ) r m σ := ⟨h.get, remark_chg hn r h.tag, h.nd⟩
theorem Sl.len0 {s : TH} {l : List Value} {τ : Nat} (h : Sl s none l τ) : l = [] := by
 rcases h with h | ⟨g, o, h1, _⟩
 ·exact h
 ·cases h1
theorem st_iv {s : TH} {a : Addr} {n c e τ : Nat} {L : List Int} {i x : Int} {K : Heap → Prop} (h : Own s (some a) n c e 1 (ivs L) τ) (h0 : 0 ≤ i) (h1 : i < n)
  (hk : ∀ s' : TH, Own s' (some a) n c e 1 (ivs (L.set i.toNat x)) τ → Ch [τ] s s' → s.h.size = s'.h.size → K s'.h) : st s.h (a.add (i.toNat * 1)) (.int .i64 x) K :=
 Own.st h rfl (by omega) fun s' h2 h3 h4 => hk s' (by rw [Nat.mul_one] at h2; unfold ivs at *; rw [List.map_set]; exact h2) (Ch.on_tag (Ch.refl _ _) h3 h.tagOf (by simp)) h4
section
variable {P : Program} {t ty e : TypeId} {E : List PanicEntry → Heap → Prop} {s : TH} {a xa : Option Addr} {n c m mc : Nat} {τ τ' : Nat} {K : Value → Heap → Prop}
theorem app_iv {xs ys : List Int} (ht : P.underlying t = some (.slice e)) (hi : (P.info? e).map (fun i => (i.zero, i.size, i.bytes)) = some (some (.int .i64 0), 1, 8))
  (hO : Own s a n c e 1 (ivs xs) τ) (hx : Sl s xa (ivs ys) τ') (hm : ys.length = m) (hb : n + m ≤ 17592186044416)
  (hk : ∀ (s' : TH) (a' : Option Addr) (c' : Nat), Own s' a' (n + m) c' e 1 (ivs (xs ++ ys)) τ → Ch [τ] s s' → K (.slice a' (n + m) c') s'.h) :
  semW P (Builtin.append_ #[t, t] ty #[.slice a n c, .slice xa m mc]) E s.h K :=
 app_i ht hi rfl hO hx (by rw [ivs_len]; omega) (ivs_one _) (fun h => by subst h; have h0 := congrArg List.length hx.len0; rw [ivs_len, List.length_nil] at h0; omega) (by unfold maxLen; omega)
  fun s' a' c' h1 h2 _ => hk s' a' c' (by rw [ivs_app]; exact h1) (h2.ch hO (by simp))
theorem app_i1 {xs : List Int} {r tr : Nat} {x : Int} (ht : P.underlying t = some (.slice e)) (hi : (P.info? e).map (fun i => (i.zero, i.size, i.bytes)) = some (some (.int .i64 0), 1, 8))
  (hO : Own s a n c e 1 (ivs xs) τ) (hx : Blk s r [.int .i64 x] tr τ') (hb : n + 1 ≤ 17592186044416)
  (hk : ∀ (s' : TH) (a' : Option Addr) (c' : Nat), Own s' a' (n + 1) c' e 1 (ivs (xs ++ [x])) τ → Ch [τ] s s' → K (.slice a' (n + 1) c') s'.h) :
  semW P (Builtin.append_ #[t, t] ty #[.slice a n c, .slice (some ⟨r, 0, none⟩) 1 mc]) E s.h K :=
 app_iv (ys := [x]) ht hi hO hx.sl rfl hb hk
theorem app_bv {xs ys : List UInt8} (ht : P.underlying t = some (.slice e)) (hi : (P.info? e).map (fun i => (i.zero, i.size, i.bytes)) = some (some (.int .u8 0), 1, 1))
  (hO : Own s a n c e 1 (bvs xs) τ) (hx : Sl s xa (bvs ys) τ') (hm : ys.length = m) (hb : n + m ≤ 140737488355328)
  (hk : ∀ (s' : TH) (a' : Option Addr) (c' : Nat), Own s' a' (n + m) c' e 1 (bvs (xs ++ ys)) τ → Ch [τ] s s' → K (.slice a' (n + m) c') s'.h) :
  semW P (Builtin.append_ #[t, t] ty #[.slice a n c, .slice xa m mc]) E s.h K :=
 app_i ht hi rfl hO hx (by rw [bvs_len]; omega) (bvs_one _) (fun h => by subst h; have h0 := congrArg List.length hx.len0; rw [bvs_len, List.length_nil] at h0; omega) (by unfold maxLen; omega)
  fun s' a' c' h1 h2 _ => hk s' a' c' (by unfold bvs at *; rw [List.map_append]; exact h1) (h2.ch hO (by simp))
end
def overlay (l : List UInt8) (p : Nat) (x : List UInt8) : List UInt8 := l.take p ++ x ++ l.drop (p + x.length)
theorem overlay_len {l : List UInt8} {p : Nat} {x : List UInt8} (h : p + x.length ≤ l.length) : (overlay l p x).length = l.length := by
 unfold overlay; rw [List.length_append, List.length_append, List.length_take, List.length_drop]; omega
theorem overlay_get {l : List UInt8} {p : Nat} {x : List UInt8} (h : p + x.length ≤ l.length) (i : Nat) : (overlay l p x)[i]? = if p ≤ i ∧ i < p + x.length then x[i - p]? else l[i]? := by
 unfold overlay
 rw [List.append_assoc, List.getElem?_append, List.length_take, Nat.min_eq_left (by omega)]
 by_cases h1 : i < p
 ·rw [if_pos h1, if_neg (by omega), List.getElem?_take, if_pos h1]
 ·rw [if_neg h1, List.getElem?_append]
  by_cases h2 : i < p + x.length
  ·rw [if_pos (by omega), if_pos (by omega)]
  ·rw [if_neg (by omega), if_neg (by omega), List.getElem?_drop]; congr 1; omega
theorem copy_sl {P : Program} {t t2 ty e : TypeId} {E : List PanicEntry → Heap → Prop} {s : TH} {a : Addr} {xa : Option Addr} {n c m mc τ τx : Nat} {p : Int} {l x : List UInt8} {K : Value → Heap → Prop}
  (ht : P.underlying t = some (.slice e)) (hi' : (P.info? e).map (fun i => (i.zero, i.size, i.bytes)) = some (some (.int .u8 0), 1, 1))
  (hO : Own s (some a) n c e 1 (bvs l) τ) (hx : Sl s xa (bvs x) τx) (hm : x.length = m) (h0 : 0 ≤ p) (hp : p.toNat + m ≤ n)
  (hk : ∀ s' : TH, Own s' (some a) n c e 1 (bvs (overlay l p.toNat x)) τ → Ch [τ] s s' → s.h.size = s'.h.size → K (.int .i64 (m : Int)) s'.h) :
  semW P (Builtin.copy_ #[t, t2] ty #[.slice (slO (some a) 1 p (c : Int)) (n - p.toNat) (c - p.toNat), .slice xa m mc]) E s.h K := by
 have hmin : min m (n - p.toNat) = m := by omega
 have h := copy_gen (P := P) (t2 := t2) (ty := ty) (E := E) (m := m) (x := x) (p := p.toNat) (src := .slice xa m mc) (K := K) ht hi' hO (by omega) (fun w => rfl) (by omega) (fun w hw => by
  rw [hmin]
  cases xa with
  | none =>
   have := congrArg List.length hx.len0
   rw [bvs_len, List.length_nil] at this
   obtain rfl : m = 0 := by omega
   have : x = [] := List.eq_nil_of_length_eq_zero hm
   subst this
   rw [run_firstCells_none]; rfl
  | some b => exact run_firstCells_some (P := P) w 1 m b m mc _ (by rw [bvs_len]; omega) fun j u hu => hx.cells w hw j u hu)
  (fun s' h1 h2 h3 => by rw [hmin]; exact hk s' h1 (h2.ch hO (by simp)) h3)
 rw [Int.toNat_of_nonneg h0] at h
 exact h
end Go.Proofs.YtklppdodadkcnaaGreat.E
