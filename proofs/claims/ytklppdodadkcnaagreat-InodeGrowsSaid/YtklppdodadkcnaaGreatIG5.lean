/- My own texts, joined. -/
import Derived.KernelRfl
import Derived.Laws.AppendOwn
import Derived.Laws.Externs
import Derived.Laws.Rows
import Derived.Lib.MakeNoZero
import Derived.Test.YtklppdodadkcnaaGreatProg
import Derived.Test.YtklppdodadkcnaaGreatIG4
namespace Go.Proofs.YtklppdodadkcnaaGreat.E
open Go
set_option linter.unusedVariables false
set_option linter.unusedSimpArgs false
abbrev OnA (a : Option Addr) (s s' : TH) : Prop := Chg (fun j => a.map (·.block) = some j) s s'
def Sl (s : TH) (a : Option Addr) (l : List Value) (τ : Nat) : Prop :=
 l = [] ∨ ∃ g o, a = some ⟨g, o, none⟩ ∧ g < s.h.size ∧ s.g g = τ ∧ ∀ j v, l[j]? = some v → cellH s.h ⟨g, o + j, none⟩ = some v
theorem Sl.of {s : TH} {g o e τ : Nat} {L l : List Value} (h : Blk s g L e τ) (hl : (L.drop o).take l.length = l) : Sl s (some ⟨g, o, none⟩) l τ := by
 refine .inr ⟨g, o, rfl, h.lt, h.tag, fun j v hv => ?_⟩
 rw [h.cell]
 rw [← hl, List.getElem?_take] at hv
 split at hv
 ·rw [List.getElem?_drop] at hv; exact hv
 ·cases hv
def Own (s : TH) (a : Option Addr) (n c e k : Nat) (xs : List Value) (τ : Nat) : Prop :=
 xs.length = n * k ∧ ((a = none ∧ n = 0 ∧ c = 0) ∨ ∃ g o L, a = some ⟨g, o, none⟩ ∧ Blk s g L e τ ∧ n ≤ c ∧ c ≤ maxLen ∧ o + c * k ≤ L.length ∧ (L.drop o).take (n * k) = xs)
section
variable {s s' : TH} {a : Option Addr} {n c e k : Nat} {xs l : List Value} {τ : Nat} {B : Nat → Prop}
theorem Own.nil (s : TH) (e k τ : Nat) : Own s none 0 0 e k [] τ := ⟨by simp, .inl ⟨rfl, rfl, rfl⟩⟩
theorem Own.mv (h : Own s a n c e k xs τ) (C : Chg B s s') (hn : ∀ j, j < s.h.size → s.g j = τ → ¬ B j) : Own s' a n c e k xs τ := by
 refine ⟨h.1, h.2.imp id ?_⟩
 rintro ⟨g, o, L, h1, h2, h3⟩
 exact ⟨g, o, L, h1, h2.mv C (hn g h2.lt h2.tag), h3⟩
theorem Sl.mv (h : Sl s a l τ) (C : Chg B s s') (hn : ∀ j, j < s.h.size → s.g j = τ → ¬ B j) : Sl s' a l τ := by
 refine h.imp id ?_
 rintro ⟨g, o, h1, h2, h3, h4⟩
 exact ⟨g, o, h1, Nat.lt_of_lt_of_le h2 C.size, (C.tag g h2).trans h3, fun j v hv => by rw [cellH_of (C.get g h2 (hn g h2 h3))]; exact h4 j v hv⟩
theorem Own.sl (h : Own s a n c e k xs τ) : Sl s a xs τ := by
 rcases h.2 with ⟨_, rfl, _⟩ | ⟨g, o, L, h1, h2, _, _, _, h3⟩
 ·left; exact List.eq_nil_of_length_eq_zero (by simpa using h.1)
 ·subst h1; exact Sl.of h2 (by rw [h.1]; exact h3)
theorem Own.le (h : Own s a n c e k xs τ) : n ≤ c := by
 rcases h.2 with ⟨_, rfl, rfl⟩ | ⟨g, o, L, h1, h2, h3, _⟩ <;> omega
theorem Own.len (h : Own s a n c e k xs τ) : xs.length = n * k := h.1
theorem Own.none_iff (h : Own s a n c e k xs τ) : a = none → n = 0 := by
 intro ha
 rcases h.2 with ⟨_, h1, _⟩ | ⟨g, o, L, h1, _⟩
 ·exact h1
 ·rw [ha] at h1; cases h1
theorem OnA.ch {T : List Nat} (C : OnA a s s') (h : Own s a n c e k xs τ) (ht : τ ∈ T) : Ch T s s' := Chg.mono C fun j hj hB => by
 rcases h.2 with ⟨rfl, _⟩ | ⟨g, o, L, rfl, h2, _⟩
 ·simp at hB
 ·simp at hB; subst hB; rw [h2.tag]; exact ht
theorem OnA.toL {r o : Nat} (C : OnA a s s') (h : a = some ⟨r, o, none⟩) : ChL [] [r] s s' := Chg.mono C fun j hj hB => .inr (by subst h; simp at hB; simp [hB])
theorem Blk.sl {r t : Nat} (h : Blk s r l t τ) : Sl s (some ⟨r, 0, none⟩) l τ := Sl.of h (by simp)
theorem Blk.own0 {r t : Nat} (h : Blk s r [] t τ) (k : Nat) : Own s (some ⟨r, 0, none⟩) 0 0 t k [] τ := ⟨by simp, .inr ⟨r, 0, [], rfl, h, by simp, by simp, by simp, by simp⟩⟩
theorem Blk.own {r t : Nat} (h : Blk s r l t τ) (k : Nat) (hl : l.length = n * k) (hn : n ≤ maxLen) : Own s (some ⟨r, 0, none⟩) n n t k l τ := ⟨hl, .inr ⟨r, 0, l, rfl, h, Nat.le_refl _, hn, by omega, by simp [← hl]⟩⟩
theorem Sl.cells {b : Addr} (h : Sl s (some b) l τ) (w : World) (hw : w.heap = s.h) : ∀ j u, l[j]? = some u → w.cell? (b.add j) = some u := by
 intro j u hu
 rcases h with rfl | ⟨g, o, h1, h2, h3, h4⟩
 ·simp at hu
 ·cases h1
  have hadd : (⟨g, o, none⟩ : Addr).add j = ⟨g, o + j, none⟩ := by unfold Addr.add; split <;> simp_all
  rw [hadd, cell_eq, hw]
  exact h4 j u hu
end
section
variable {P : Program} {t ty e : TypeId} {i : TypeInfo} {E : List PanicEntry → Heap → Prop}
theorem run_append_none (w : World) (ht : P.underlying t = some (.slice e)) (hi : P.info? e = some i) (a xa : Option Addr) (n c mc : Nat) (hn : n ≤ c) :
  (Builtin.append_ #[t, t] ty #[.slice a n c, .slice xa 0 mc]).run P w = .ok (.slice a n c) w := by
 cases xa <;> cases a <;> simp [Builtin.append_, run_underlying ht, sizeOf, typeInfo, hi, Builtin.lenOf, hn, Builtin.firstCells, loadCells, loadCellsFrom, storeCells]
theorem run_append_room_o (w : World) (ht : P.underlying t = some (.slice e)) (hi : P.info? e = some i)
  (g o sLen sCap : Nat) (cur : Array Value) (hg : w.heap[g]? = some (.cells cur e (0, 0)))
  (a : Addr) (m c : Nat) (news : List Value) (hl : news.length = m * i.size) (hnews : ∀ j u, news[j]? = some u → w.cell? (a.add j) = some u) (h1 : ∀ u ∈ news, u.oneCell' = true)
  (hroom : sLen + m ≤ sCap) (hfit : o + sLen * i.size + news.length ≤ cur.size) :
  (Builtin.append_ #[t, t] ty #[.slice (some ⟨g, o, none⟩) sLen sCap, .slice (some a) m c]).run P w =
   .ok (.slice (some ⟨g, o, none⟩) (sLen + m) sCap) (w.setRow g (cur.toList.take (o + sLen * i.size) ++ news ++ cur.toList.drop (o + sLen * i.size + news.length)).toArray) := by
 have hf := run_firstCells_some (P := P) w i.size m a m c news hl hnews
 have hst := run_storeCells_at P g (o + sLen * i.size) e news 0 cur w hg (by simpa using hfit) h1
 simp only [Nat.add_zero] at hst
 have hadd : (⟨g, o, none⟩ : Addr).add (sLen * i.size) = ⟨g, o + sLen * i.size, none⟩ := by unfold Addr.add; split <;> simp_all
 simp [Builtin.append_, run_underlying ht, sizeOf, typeInfo, hi, Builtin.lenOf, hroom, hf, hadd, hst]
theorem app_t {s : TH} {a xa : Option Addr} {n c m mc bytes k : Nat} {xs news : List Value} {τ τ' : Nat} {z : Value} {K : Value → Heap → Prop}
  (ht : P.underlying t = some (.slice e)) (hi : P.info? e = some i) (hz : i.zero = some z) (hsize : i.size = k) (hby : i.bytes = bytes) (hzs : z.cells.size = k)
  (hO : Own s a n c e k xs τ) (hx : Sl s xa news τ') (hl : news.length = m * k) (h1 : ∀ u ∈ news, u.oneCell' = true) (hxa : xa = none → m = 0)
  (hb : (n + m) * bytes ≤ 140737488355328 ∧ n + m ≤ maxLen)
  (hk : ∀ (s' : TH) (a' : Option Addr) (c' : Nat), Own s' a' (n + m) c' e k (xs ++ news) τ → OnA a s s' → ((a' = none ↔ a = none ∧ m = 0) ∧ (n + m ≤ c → a' = a ∧ c' = c)) → K (.slice a' (n + m) c') s'.h) :
  semW P (Builtin.append_ #[t, t] ty #[.slice a n c, .slice xa m mc]) E s.h K := .mk fun w hw => by
 subst hsize hby
 by_cases hm : m = 0
 ·subst hm
  rw [run_append_none w ht hi a xa n c mc hO.le]
  have hn : news = [] := List.eq_nil_of_length_eq_zero (by simpa using hl)
  subst hn
  refine ⟨?_, Like.refl w⟩
  rw [hw]
  exact hk s a c (by simpa using hO) ⟨Nat.le_refl _, fun _ _ => rfl, fun _ _ _ => rfl⟩ ⟨by simp, fun _ => ⟨rfl, rfl⟩⟩
 obtain ⟨b, rfl⟩ : ∃ b, xa = some b := by
  cases xa with
  | none => exact absurd (hxa rfl) hm
  | some b => exact ⟨b, rfl⟩
 have hc := hx.cells w hw
 have h63 : ((n + m : Nat) : Int) ≤ 9223372036854775807 := by have := hb.2; unfold maxLen at this; omega
 have hlen : (xs ++ news).length = (n + m) * i.size := by rw [List.length_append, hO.1, hl, Nat.add_mul]
 -- a new block
 have grown : ∀ (old : Nat), ¬ n + m ≤ c → ∃ L : List Value, L.toArray = xs.toArray ++ news.toArray ++ Builtin.zeroCells z.cells (grownCap w (n + m) old e - (n + m)) ∧
   K (.slice (some ⟨w.heap.size, 0, none⟩) (n + m) (grownCap w (n + m) old e)) (w.heap.push (.cells L.toArray e)) := by
  intro old hno
  refine ⟨xs ++ news ++ (Builtin.zeroCells z.cells (grownCap w (n + m) old e - (n + m))).toList, by apply Array.toList_inj.1; simp, ?_⟩
  have hge := grownCap_ge w (n + m) old e
  have hcm : grownCap w (n + m) old e ≤ maxLen := grownCap_le_maxLen w (n + m) old e hb.2
  rw [hw]
  refine hk ⟨s.h.push (.cells (xs ++ news ++ (Builtin.zeroCells z.cells (grownCap w (n + m) old e - (n + m))).toList).toArray e), upd s.g s.h.size τ⟩ _ _ ⟨hlen, .inr ⟨s.h.size, 0, xs ++ news ++ (Builtin.zeroCells z.cells (grownCap w (n + m) old e - (n + m))).toList, rfl, ⟨by simp, by simp [upd]⟩, hge, hcm, ?_, ?_⟩⟩ ?_ ⟨by simp [hm], fun h => absurd h hno⟩
  ·have : (Builtin.zeroCells z.cells (grownCap w (n + m) old e - (n + m))).toList.length = (grownCap w (n + m) old e - (n + m)) * i.size := by
    simp [size_zeroCells, hzs]
   rw [List.length_append, hlen, this, ← Nat.add_mul]
   rw [show n + m + (grownCap w (n + m) old e - (n + m)) = grownCap w (n + m) old e by omega]; omega
  ·rw [← hlen, List.drop_zero]; exact List.take_left
  ·exact Chg.mono (pushed s _ τ) fun _ _ h => by simp at h
 rcases hO.2 with ⟨rfl, rfl, rfl⟩ | ⟨g, o, L, rfl, hB, hnc, hcm, hcs, htake⟩
 ·have hx0 : xs = [] := List.eq_nil_of_length_eq_zero (by simpa using hO.1)
  subst hx0
  have hr := run_append_nil (P := P) w t ty e i z ht hi hz b m mc news hl hc (by omega) (by omega) (by have := hb.1; simp only [Nat.zero_add] at this; omega)
  rw [hr]
  obtain ⟨L, hL, hK⟩ := grown 0 (by omega)
  simp only [Nat.zero_add, List.nil_append, Array.empty_append] at hL hK
  refine ⟨?_, rfl, rfl, rfl⟩
  rw [hL] at hK; exact hK
 ·by_cases hroom : n + m ≤ c
  ·have hfit : o + n * i.size + news.length ≤ L.toArray.size := by
    have := Nat.mul_le_mul_right i.size hroom
    rw [Nat.add_mul] at this
    simp only [List.size_toArray, hl]; omega
   have hr := run_append_room_o (P := P) (ty := ty) w ht hi g o n c L.toArray (by rw [hw]; exact hB.get) b m mc news hl hc h1 hroom hfit
   rw [hr]
   have hset : (w.setRow g (L.take (o + n * i.size) ++ news ++ L.drop (o + n * i.size + news.length)).toArray).heap[g]? = some (.cells (L.take (o + n * i.size) ++ news ++ L.drop (o + n * i.size + news.length)).toArray e (0, 0)) := setRow_heap w g L.toArray _ e _ (by rw [hw]; exact hB.get)
   have hK := hk ⟨(w.setRow g (L.take (o + n * i.size) ++ news ++ L.drop (o + n * i.size + news.length)).toArray).heap, s.g⟩ (some ⟨g, o, none⟩) c ⟨hlen, .inr ⟨g, o, _, rfl, ⟨hset, hB.tag⟩, hroom, hcm, ?_, ?_⟩⟩ ⟨by simp [← hw], fun _ _ => rfl, fun j hj hn => ?_⟩ ⟨by simp, fun _ => ⟨rfl, rfl⟩⟩
   ·exact ⟨hK, rfl, rfl, rfl⟩
   ·simp only [List.size_toArray] at hfit
    simp only [List.length_append, List.length_take, List.length_drop]; omega
   ·simp only [List.size_toArray] at hfit
    have e1 : (L.take (o + n * i.size) ++ news ++ L.drop (o + n * i.size + news.length)).drop o = (L.drop o).take (n * i.size) ++ news ++ L.drop (o + n * i.size + news.length) := by
     rw [List.append_assoc, List.drop_append_of_le_length (by simp; omega), List.drop_take, ← List.append_assoc]
     congr 2; congr 1; omega
    rw [e1, htake, ← hlen]; exact List.take_left
   ·show (w.setRow g _).heap[j]? = _
    rw [setRow_other w g j _ (fun e => hn (by simp [e])), hw]
  ·have hr := run_append_grow (P := P) w t ty e i z ht hi hz ⟨g, o, none⟩ n c xs hO.1 (by have := hO.sl.cells w hw; exact this) b m mc news hl hc (by omega) (by omega) (growslice_fits (by omega) hb.1)
   rw [hr]
   obtain ⟨L', hL, hK⟩ := grown c hroom
   refine ⟨?_, rfl, rfl, rfl⟩
   rw [hL] at hK; exact hK
end
theorem info_of {P : Program} {e : TypeId} {z : Value} {k b : Nat} (h : (P.info? e).map (fun i => (i.zero, i.size, i.bytes)) = some (some z, k, b)) : ∃ i, P.info? e = some i ∧ i.zero = some z ∧ i.size = k ∧ i.bytes = b := by
 cases hi : P.info? e with
 | none => rw [hi] at h; cases h
 | some i => rw [hi] at h; simp at h; exact ⟨i, rfl, h.1, h.2.1, h.2.2⟩
theorem app_i {P : Program} {t ty e : TypeId} {E : List PanicEntry → Heap → Prop} {s : TH} {a xa : Option Addr} {n c m mc bytes k : Nat} {xs news : List Value} {τ τ' : Nat} {z : Value} {K : Value → Heap → Prop}
  (ht : P.underlying t = some (.slice e)) (hi : (P.info? e).map (fun i => (i.zero, i.size, i.bytes)) = some (some z, k, bytes)) (hzs : z.cells.size = k)
  (hO : Own s a n c e k xs τ) (hx : Sl s xa news τ') (hl : news.length = m * k) (h1 : ∀ u ∈ news, u.oneCell' = true) (hxa : xa = none → m = 0)
  (hb : (n + m) * bytes ≤ 140737488355328 ∧ n + m ≤ maxLen)
  (hk : ∀ (s' : TH) (a' : Option Addr) (c' : Nat), Own s' a' (n + m) c' e k (xs ++ news) τ → OnA a s s' → ((a' = none ↔ a = none ∧ m = 0) ∧ (n + m ≤ c → a' = a ∧ c' = c)) → K (.slice a' (n + m) c') s'.h) :
  semW P (Builtin.append_ #[t, t] ty #[.slice a n c, .slice xa m mc]) E s.h K := by
 obtain ⟨i, h1', h2, h3, h4⟩ := info_of hi
 exact app_t ht h1' h2 h3 h4 hzs hO hx hl h1 hxa hb hk
def bv (b : UInt8) : Value := .int .u8 (b.toNat : Int)
def bvs (l : List UInt8) : List Value := l.map bv
theorem bvs_len (l : List UInt8) : (bvs l).length = l.length := by simp [bvs]
theorem bvs_one (l : List UInt8) : ∀ u ∈ bvs l, u.oneCell' = true := by intro u hu; simp [bvs] at hu; obtain ⟨b, _, rfl⟩ := hu; rfl
theorem slA_mk (g o k l m : Nat) : slO (some ⟨g, o, none⟩) k (l : Int) (m : Int) = some ⟨g, if m = l then o else o + l * k, none⟩ := by
 unfold slO slA
 simp only [Option.map_some, Int.toNat_natCast]
 split
 ·rfl
 ·unfold Addr.add; split <;> simp_all
theorem Own.pre {s : TH} {a : Option Addr} {n c e k : Nat} {xs : List Value} {τ : Nat} (h : Own s a n c e k xs τ) {m : Nat} (hm : m ≤ n) : Own s a m c e k (xs.take (m * k)) τ := by
 have hle : m * k ≤ n * k := Nat.mul_le_mul_right k hm
 refine ⟨by rw [List.length_take, h.1]; omega, ?_⟩
 rcases h.2 with ⟨h1, h2, h3⟩ | ⟨g, o, L, h1, h2, h3, h4, h5, h6⟩
 ·exact .inl ⟨h1, by omega, h3⟩
 ·refine .inr ⟨g, o, L, h1, h2, by omega, h4, h5, ?_⟩
  rw [← h6, List.take_take]; congr 1; omega
theorem Own.cut {s : TH} {a : Option Addr} {n c e k : Nat} {xs : List Value} {τ : Nat} (h : Own s a n c e k xs τ) {m : Nat} (hm : m ≤ n) : Sl s (slO a k (m : Int) (c : Int)) (xs.drop (m * k)) τ := by
 rcases h.2 with ⟨h1, h2, h3⟩ | ⟨g, o, L, h1, h2, h3, h4, h5, h6⟩
 ·left; rw [List.eq_nil_of_length_eq_zero (l := xs) (by rw [h.1, h2]; simp)]; simp
 ·by_cases hc : c = m
  ·left; apply List.eq_nil_of_length_eq_zero; rw [List.length_drop, h.1, show n = m by omega]; omega
  ·subst h1
   rw [slA_mk, if_neg hc]
   refine Sl.of h2 ?_
   rw [← h6, List.drop_take, List.drop_drop, List.length_take, List.length_drop]
   have h7 : n * k ≤ c * k := Nat.mul_le_mul_right k h3
   rw [Nat.min_eq_left (by omega)]
end Go.Proofs.YtklppdodadkcnaaGreat.E
namespace Go.Proofs.YtklppdodadkcnaaGreat.E
open Go
set_option linter.unusedVariables false
set_option linter.unusedSimpArgs false
theorem rngn {s : TH} {T : Nat} {L : List Nat} (h : ∀ τ ∈ L, τ < T ∨ T + 10 ≤ τ) : ∀ j, j < s.h.size → T ≤ s.g j → s.g j < T + 10 → ¬ s.g j ∈ L := fun j _ h1 h2 h3 => by have := h _ h3; omega
theorem rngO {s : TH} {T r : Nat} (h : s.g r < T ∨ T + 10 ≤ s.g r) : ∀ j, j < s.h.size → T ≤ s.g j → s.g j < T + 10 → ¬ j = r := fun j _ h1 h2 h3 => by subst h3; omega
theorem of_rng {s : TH} {T τ : Nat} {B : Nat → Prop} (hn : ∀ j, j < s.h.size → T ≤ s.g j → s.g j < T + 10 → ¬ B j) (h1 : T ≤ τ) (h2 : τ < T + 10) : ∀ j, j < s.h.size → s.g j = τ → ¬ B j := fun j hj e => hn j hj (by omega) (by omega)
section
variable {α : Type} {f : α → List Value} {k : Nat}
theorem fm_get (hf : ∀ x, (f x).length = k) : ∀ (l : List α) (i j : Nat) (x : α), l[i]? = some x → j < k → (l.flatMap f)[i * k + j]? = (f x)[j]?
 | [], i, j, x, h, _ => by simp at h
 | y :: l, 0, j, x, h, hj => by
  simp at h; subst h
  simp only [List.flatMap_cons, Nat.zero_mul, Nat.zero_add]
  rw [List.getElem?_append_left (by rw [hf]; exact hj)]
 | y :: l, i + 1, j, x, h, hj => by
  simp only [List.flatMap_cons, Nat.add_mul, Nat.one_mul]
  rw [List.getElem?_append_right (by rw [hf]; omega), hf, show i * k + k + j - k = i * k + j by omega]
  exact fm_get hf l i j x (by simpa using h) hj
end
section
variable {s : TH} {a : Addr} {l : List Value} {τ : Nat} {v : Value} {k : Value → Prop}
theorem Sl.get (h : Sl s (some a) l τ) {j : Nat} (hv : l[j]? = some v) : cellH s.h (a.add j) = some v := by
 rcases h with rfl | ⟨g, o, h1, h2, h3, h4⟩
 ·simp at hv
 ·cases h1
  have hadd : (⟨g, o, none⟩ : Addr).add j = ⟨g, o + j, none⟩ := by unfold Addr.add; split <;> simp_all
  rw [hadd]; exact h4 j v hv
theorem ld_sl {j : Nat} (h : Sl s (some a) l τ) (hv : l[j]? = some v) (hk : k v) : ld s.h (a.add j) k := ld_i (h.get hv) hk
theorem add_add {l : List Value} (h : Sl s (some a) l τ) {x y : Nat} (hv : l[x + y]? = some v) : (a.add x).add y = a.add (x + y) := by
 rcases h with rfl | ⟨g, o, h1, h2, h3⟩
 ·simp at hv
 ·cases h1
  unfold Addr.add
  by_cases hx : x = 0 <;> by_cases hy : y = 0 <;> simp [hx, hy] <;> omega
theorem ld_sl2 {x y : Nat} (h : Sl s (some a) l τ) (hv : l[x + y]? = some v) (hk : k v) : ld s.h ((a.add x).add y) k := by
 rw [add_add h hv]; exact ld_sl h hv hk
theorem Sl.some {a : Option Addr} {l : List Value} (h : Sl s a l τ) (hl : l ≠ []) : ∃ b, a = .some b := by
 rcases h with h | ⟨g, o, h1, h2, h3⟩
 ·exact absurd h hl
 ·exact ⟨_, h1⟩
end
theorem Own.st {s : TH} {a : Addr} {n c e k : Nat} {xs : List Value} {τ j : Nat} {v : Value} {K : Heap → Prop} (h : Own s (some a) n c e k xs τ) (h1 : oneC v = true) (hj : j < n * k)
  (hk : ∀ s' : TH, Own s' (some a) n c e k (xs.set j v) τ → On a.block s s' → s.h.size = s'.h.size → K s'.h) : st s.h (a.add j) v K := by
 rcases h.2 with ⟨h0, _⟩ | ⟨g, o, L, h2, h3, h4, h5, h6, h7⟩
 ·cases h0
 ·cases h2
  have hadd : (⟨g, o, none⟩ : Addr).add j = ⟨g, o + j, none⟩ := by unfold Addr.add; split <;> simp_all
  rw [hadd]
  have hck : n * k ≤ c * k := Nat.mul_le_mul_right k h4
  refine st_t h3 h1 (by omega) fun s' b1 b2 b3 => hk s' ⟨by rw [List.length_set]; exact h.1, .inr ⟨g, o, _, rfl, b1, h4, h5, by rw [List.length_set]; exact h6, ?_⟩⟩ b2 b3
  rw [← h7]
  apply List.ext_getElem?
  intro i
  rw [List.getElem?_take, List.getElem?_drop]
  by_cases hi : i < n * k
  ·rw [if_pos hi]
   by_cases hij : i = j
   ·subst hij
    rw [List.getElem?_set_self (by omega), List.getElem?_set_self (by rw [List.length_take, List.length_drop]; omega)]
   ·rw [List.getElem?_set_ne (by omega), List.getElem?_set_ne (by omega), List.getElem?_take, if_pos hi, List.getElem?_drop]
  ·rw [if_neg hi, List.getElem?_eq_none]
   rw [List.length_set, List.length_take]; omega
theorem Own.tagOf {s : TH} {a : Addr} {n c e k : Nat} {xs : List Value} {τ : Nat} (h : Own s (some a) n c e k xs τ) : s.g a.block = τ := by
 rcases h.2 with ⟨h0, _⟩ | ⟨g, o, L, h2, h3, _⟩
 ·cases h0
 ·cases h2; exact h3.tag
theorem slO_zero (a : Option Addr) (k : Nat) (m : Int) : slO a k 0 m = a := by
 cases a with
 | none => rfl
 | some a => simp [slO, slA, Addr.add]
theorem clear_t {P : Program} {t ty e : TypeId} {E : List PanicEntry → Heap → Prop} {s : TH} {a : Option Addr} {n m c mc bytes k : Nat} {xs : List Value} {τ : Nat} {z : Value} {K : Value → Heap → Prop}
  (ht : P.underlying t = some (.slice e)) (hi : (P.info? e).map (fun i => (i.zero, i.size, i.bytes)) = some (some z, k, bytes)) (hzs : z.cells.size = k) (hz1 : ∀ u ∈ z.cells.toList, u.oneCell' = true)
  (hO : Own s a n c e k xs τ) (hm : n ≤ m) (hmc : m ≤ c)
  (hk : ∀ s' : TH, Own s' a n c e k xs τ → OnA a s s' → s.h.size = s'.h.size → K (.tuple #[]) s'.h) :
  semW P (Builtin.clear_ #[t] ty #[.slice (slO a k (n : Int) (c : Int)) (m - n) mc]) E s.h K := .mk fun w hw => by
 obtain ⟨i, hi1, hi2, hi3, hi4⟩ := info_of hi
 by_cases h0 : m - n = 0
 ·have hr : (Builtin.clear_ #[t] ty #[.slice (slO a k (n : Int) (c : Int)) (m - n) mc]).run P w = .ok (.tuple #[]) w := by
   rw [h0]
   cases slO a k (n : Int) (c : Int) <;> simp [Builtin.clear_, run_under ht]
  rw [hr]
  exact ⟨by rw [hw]; exact hk s hO ⟨Nat.le_refl _, fun _ _ => rfl, fun _ _ _ => rfl⟩ rfl, Like.refl w⟩
 rcases hO.2 with ⟨_, h2, h3⟩ | ⟨g, o, L, rfl, h2, h3, h4, h5, h6⟩
 ·omega
 ·rw [slA_mk, if_neg (by omega)]
  obtain ⟨d, hd⟩ : ∃ d, m - n = d + 1 := ⟨m - n - 1, by omega⟩
  have hzl : (Builtin.zeroCells z.cells (m - n)).toList.length = (m - n) * k := by simp [size_zeroCells, hzs]
  have hck : n * k + (m - n) * k ≤ c * k := by rw [← Nat.add_mul]; exact Nat.mul_le_mul_right k (by omega)
  have hst := run_storeCells_at P g (o + n * k) e (Builtin.zeroCells z.cells (m - n)).toList 0 L.toArray w (by rw [hw]; exact h2.get) (by rw [hzl]; simp; omega) (by
   intro u hu
   simp only [Builtin.zeroCells, Array.toList_map, List.mem_map, Array.toList_range] at hu
   obtain ⟨j, hj, rfl⟩ := hu
   have hj : j < (m - n) * z.cells.size := by simpa using hj
   have hp : 0 < z.cells.size := by
    rcases Nat.eq_zero_or_pos z.cells.size with h | h
    ·rw [h] at hj; omega
    ·exact h
   apply hz1
   rw [getElem!_pos z.cells (j % z.cells.size) (Nat.mod_lt _ hp)]
   simp)
  simp only [Nat.add_zero] at hst
  have hr : (Builtin.clear_ #[t] ty #[.slice (some ⟨g, o + n * k, none⟩) (m - n) mc]).run P w = .ok (.tuple #[]) (w.setRow g ((L.toArray.toList.take (o + n * k)) ++ (Builtin.zeroCells z.cells (m - n)).toList ++ L.toArray.toList.drop (o + n * k + (Builtin.zeroCells z.cells (m - n)).toList.length)).toArray) := by
   rw [hd] at hst ⊢
   simp only [Builtin.clear_, Sem.run_bind, run_under ht]
   simp [run_under ht, zeroValue, run_typeInfo hi1, hi2, hst]
  rw [hr]
  simp only [List.toList_toArray, hzl]
  have hset := setRow_heap w g L.toArray (L.take (o + n * k) ++ (Builtin.zeroCells z.cells (m - n)).toList ++ L.drop (o + n * k + (m - n) * k)).toArray e (0, 0) (by rw [hw]; exact h2.get)
  have hK := hk ⟨(w.setRow g (L.take (o + n * k) ++ (Builtin.zeroCells z.cells (m - n)).toList ++ L.drop (o + n * k + (m - n) * k)).toArray).heap, s.g⟩ ⟨hO.1, .inr ⟨g, o, _, rfl, ⟨hset, h2.tag⟩, h3, h4, ?_, ?_⟩⟩ ⟨by simp [← hw], fun _ _ => rfl, fun j hj hn => ?_⟩ (by simp [← hw])
  ·exact ⟨hK, rfl, rfl, rfl⟩
  ·simp only [List.length_append, List.length_take, List.length_drop, hzl]; omega
  ·rw [← h6, List.append_assoc, List.drop_append_of_le_length (by simp; omega), List.drop_take, List.take_append_of_le_length (by simp; omega), List.take_take]
   congr 1; omega
  ·show (w.setRow g _).heap[j]? = _
   rw [setRow_other w g j _ (fun e => hn (by simp [e])), hw]
end Go.Proofs.YtklppdodadkcnaaGreat.E
namespace Go.Proofs.YtklppdodadkcnaaGreat.E
open Go
set_option linter.unusedVariables false
set_option linter.unusedSimpArgs false
theorem min_i {P : Program} {ats : Array TypeId} {ty : TypeId} {E : List PanicEntry → Heap → Prop} {H : Heap} {K : Value → Heap → Prop} {a b : Int} (hk : K (.int .i64 (min a b)) H) :
  semW P (Builtin.min_ ats ty #[.int .i64 a, .int .i64 b]) E H K := .mk fun w hw => by
 have hr : (Builtin.min_ ats ty #[.int .i64 a, .int .i64 b]).run P w = .ok (.int .i64 (min a b)) w := by
  have he : (if b < a then b else a) = min a b := by split <;> omega
  simp [Builtin.min_, Builtin.min2, he]
 rw [hr]
 exact ⟨by rw [hw]; exact hk, Like.refl w⟩
theorem wrap_u64 (x : Int) : IntKind.u64.wrap x = x % 18446744073709551616 := rfl
def ivs (l : List Int) : List Value := l.map (Value.int .i64)
theorem ivs_len (l : List Int) : (ivs l).length = l.length := by simp [ivs]
theorem ivs_one (l : List Int) : ∀ u ∈ ivs l, u.oneCell' = true := by intro u hu; simp [ivs] at hu; obtain ⟨b, _, rfl⟩ := hu; rfl
theorem ivs_get {l : List Int} {k : Nat} {x : Int} (h : l[k]? = some x) : (ivs l)[k]? = some (.int .i64 x) := by simp [ivs, h]
theorem ivs_take (l : List Int) (n : Nat) : (ivs l).take n = ivs (l.take n) := by simp [ivs]
theorem ivs_drop (l : List Int) (n : Nat) : (ivs l).drop n = ivs (l.drop n) := by simp [ivs]
theorem ivs_app (l m : List Int) : ivs (l ++ m) = ivs l ++ ivs m := by simp [ivs]
theorem Own.ne_none {s : TH} {a : Option Addr} {n c e k : Nat} {xs : List Value} {τ : Nat} (h : Own s a n c e k xs τ) (hn : 0 < n) : ∃ b, a = some b := by
 cases a with
 | none => have := h.none_iff rfl; omega
 | some b => exact ⟨b, rfl⟩
theorem Sl.ne_none {s : TH} {a : Option Addr} {xs : List Value} {τ : Nat} (h : Sl s a xs τ) (hn : 0 < xs.length) : ∃ b, a = .some b := h.some (fun e => by rw [e] at hn; cases hn)
end Go.Proofs.YtklppdodadkcnaaGreat.E
namespace Go.Proofs.YtklppdodadkcnaaGreat.E
open Go Go.Proofs
set_option linter.unusedVariables false
set_option linter.unusedSimpArgs false
theorem u48 : Tryz.prog.underlying 48 = some (.map 3 3) := by kernel_rfl
theorem u232 : Tryz.prog.underlying 232 = some (.map 3 244) := by kernel_rfl
theorem z3 (w : World) : (zeroValue 3).run Tryz.prog w = .ok (.int .i64 0) w := by kernel_rfl
theorem z4 (w : World) : (zeroValue 4).run Tryz.prog w = .ok (.bool false) w := by kernel_rfl
theorem z5 (w : World) : (zeroValue 5).run Tryz.prog w = .ok (.int .u8 0) w := by kernel_rfl
theorem u3 : Tryz.prog.underlying 3 = some (.int .i64) := by kernel_rfl
theorem u5 : Tryz.prog.underlying 5 = some (.int .u8) := by kernel_rfl
theorem z27 (w : World) : (zeroValue 27).run Tryz.prog w = .ok (.pointer none) w := by kernel_rfl
theorem u45 : Tryz.prog.underlying 45 = some (.slice 3) := by kernel_rfl
theorem z45 (w : World) : (zeroValue 45).run Tryz.prog w = .ok (.slice none 0 0) w := by kernel_rfl
theorem u49 : Tryz.prog.underlying 49 = some (.slice 85) := by kernel_rfl
theorem z70 (w : World) : (zeroValue 70).run Tryz.prog w = .ok (.pointer none) w := by kernel_rfl
theorem u77 : Tryz.prog.underlying 77 = some (.slice 36) := by kernel_rfl
theorem z77 (w : World) : (zeroValue 77).run Tryz.prog w = .ok (.slice none 0 0) w := by kernel_rfl
theorem u85 : Tryz.prog.underlying 85 = some (.slice 5) := by kernel_rfl
theorem z85 (w : World) : (zeroValue 85).run Tryz.prog w = .ok (.slice none 0 0) w := by kernel_rfl
theorem u148 : Tryz.prog.underlying 148 = some (.slice 147) := by kernel_rfl
theorem u160 : Tryz.prog.underlying 160 = some (.slice 326) := by kernel_rfl
theorem z244 (w : World) : (zeroValue 244).run Tryz.prog w = .ok (.pointer none) w := by kernel_rfl
theorem in5 : (Tryz.prog.info? 5).map (fun i => (i.zero, i.size, i.bytes)) = some (some (.int .u8 0), 1, 1) := by kernel_rfl
theorem in3 : (Tryz.prog.info? 3).map (fun i => (i.zero, i.size, i.bytes)) = some (some (.int .i64 0), 1, 8) := by kernel_rfl
theorem in85 : (Tryz.prog.info? 85).map (fun i => (i.zero, i.size, i.bytes)) = some (some (.slice none 0 0), 1, 24) := by kernel_rfl
theorem keyI : KeyOk Tryz.prog 3 (Value.int .i64) := keyInt u3
end Go.Proofs.YtklppdodadkcnaaGreat.E
namespace Go.Proofs.YtklppdodadkcnaaGreat.E
open Go Go.Proofs
set_option linter.unusedVariables false
set_option linter.unusedSimpArgs false
structure SentM where
 id : Int
 blk : Int
 by_ : List UInt8
structure DiskM where
 blocks : List (List UInt8)
 queue : List SentM
 fails : Int → Int
 last : Int
def DiskM.has (D : DiskM) (b : Int) : Prop := 0 ≤ b ∧ b < D.blocks.length
instance (D : DiskM) (b : Int) : Decidable (D.has b) := by unfold DiskM.has; infer_instance
abbrev Hd := Option Addr × Nat
def hv (n : Nat) (p : Hd) : Value := .slice p.1 n p.2
def hd1 (p : Hd) : List Value := [.slice p.1 128 p.2]
def qv (q : Int × Int × Hd) : List Value := [.int .i64 q.1, .int .i64 q.2.1, .slice q.2.2.1 128 q.2.2.2]
theorem hd1_len (p : Hd) : (hd1 p).length = 1 := rfl
structure ByAt (s : TH) (τ : Nat) (p : Hd) (b : List UInt8) : Prop where
 sl : Sl s p.1 (bvs b) τ
 len : b.length = 128
theorem ByAt.mv {s s' : TH} {τ : Nat} {p : Hd} {b : List UInt8} {C : Nat → Prop} (h : ByAt s τ p b) (c : Chg C s s') (hn : ∀ j, j < s.h.size → s.g j = τ → ¬ C j) : ByAt s' τ p b := ⟨h.sl.mv c hn, h.len⟩
theorem ByAt.ne {s : TH} {τ : Nat} {p : Hd} {b : List UInt8} (h : ByAt s τ p b) : ∃ a, p.1 = some a := h.sl.some fun e => by have := congrArg List.length e; rw [bvs_len, h.len] at this; cases this
structure BRel (s : TH) (τ : Nat) (hs : List Hd) (bs : List (List UInt8)) : Prop where
 len : hs.length = bs.length
 at_ : ∀ (i : Nat) (p : Hd) (b : List UInt8), hs[i]? = some p → bs[i]? = some b → ByAt s τ p b
structure QRel (s : TH) (τ : Nat) (qs : List (Int × Int × Hd)) (q : List SentM) : Prop where
 len : qs.length = q.length
 at_ : ∀ (i : Nat) (x : Int × Int × Hd) (m : SentM), qs[i]? = some x → q[i]? = some m → x.1 = m.id ∧ x.2.1 = m.blk ∧ ByAt s τ x.2.2 m.by_
theorem BRel.mv {s s' : TH} {τ : Nat} {hs : List Hd} {bs : List (List UInt8)} {C : Nat → Prop} (h : BRel s τ hs bs) (c : Chg C s s') (hn : ∀ j, j < s.h.size → s.g j = τ → ¬ C j) : BRel s' τ hs bs := ⟨h.len, fun i p b h1 h2 => (h.at_ i p b h1 h2).mv c hn⟩
theorem QRel.mv {s s' : TH} {τ : Nat} {hs : List (Int × Int × Hd)} {bs : List SentM} {C : Nat → Prop} (h : QRel s τ hs bs) (c : Chg C s s') (hn : ∀ j, j < s.h.size → s.g j = τ → ¬ C j) : QRel s' τ hs bs := ⟨h.len, fun i p b h1 h2 => ⟨(h.at_ i p b h1 h2).1, (h.at_ i p b h1 h2).2.1, (h.at_ i p b h1 h2).2.2.mv c hn⟩⟩
theorem bcell {hs : List Hd} {m : Nat} {x : Hd} (h : hs[m]? = some x) : (hs.flatMap hd1)[m]? = some (.slice x.1 128 x.2) := by
 have := fm_get hd1_len hs m 0 x h (by omega); simpa [hd1] using this
def ixr {α : Type} (p : α → Bool) : List α → Nat → Int
 | [], _ => -1
 | x :: l, i => if p x = true then (i : Int) else ixr p l (i + 1)
def ixf {α : Type} (p : α → Bool) (l : List α) : Int := ixr p l 0
theorem ixr_some {α : Type} {p : α → Bool} : ∀ (l : List α) (i k : Nat) (x : α), l[k]? = some x → p x = true → (∀ (j : Nat) (y : α), j < k → l[j]? = some y → p y = false) → ixr p l i = ((i + k : Nat) : Int)
 | [], i, k, x, h, _, _ => by simp at h
 | y :: l, i, 0, x, h, hp, _ => by simp at h; subst h; simp [ixr, hp]
 | y :: l, i, k + 1, x, h, hp, ha => by
  have := ha 0 y (by omega) (by simp)
  rw [ixr, if_neg (by simp [this]), ixr_some l (i + 1) k x (by simpa using h) hp (fun j z hj hz => ha (j + 1) z (by omega) (by simpa using hz))]
  omega
theorem ixr_none {α : Type} {p : α → Bool} : ∀ (l : List α) (i : Nat), (∀ (j : Nat) (y : α), j < l.length → l[j]? = some y → p y = false) → ixr p l i = -1
 | [], i, _ => rfl
 | y :: l, i, ha => by
  have := ha 0 y (by simp) (by simp)
  rw [ixr, if_neg (by simp [this])]
  exact ixr_none l (i + 1) fun j z hj hz => ha (j + 1) z (by simpa using hj) (by simpa using hz)
theorem ixf_some {α : Type} {p : α → Bool} {l : List α} {k : Nat} {x : α} (h : l[k]? = some x) (hp : p x = true) (ha : ∀ (j : Nat) (y : α), j < k → l[j]? = some y → p y = false) : ixf p l = (k : Int) := by
 have := ixr_some l 0 k x h hp ha; simpa [ixf] using this
theorem ixf_none {α : Type} {p : α → Bool} {l : List α} (ha : ∀ (j : Nat) (y : α), j < l.length → l[j]? = some y → p y = false) : ixf p l = -1 := ixr_none l 0 ha
theorem ixf_cases {α : Type} (p : α → Bool) : ∀ (l : List α), (ixf p l = -1 ∧ ∀ x ∈ l, p x = false) ∨ ∃ (k : Nat) (x : α), ixf p l = k ∧ l[k]? = some x ∧ p x = true := by
 intro l
 by_cases h : ∀ x ∈ l, p x = false
 ·left; exact ⟨ixf_none fun j y hj hy => h y (List.mem_of_getElem? hy), h⟩
 ·right
  have : ∃ k x, l[k]? = some x ∧ p x = true ∧ ∀ (j : Nat) (y : α), j < k → l[j]? = some y → p y = false := by
   induction l with
   | nil => simp at h
   | cons y l ih =>
    by_cases hy : p y = true
    ·exact ⟨0, y, by simp, hy, fun j z hj => by omega⟩
    ·obtain ⟨k, x, h1, h2, h3⟩ := ih (by intro h'; apply h; intro x hx; rcases List.mem_cons.1 hx with rfl | hx <;> first | exact h' _ hx | simpa using hy)
     refine ⟨k + 1, x, by simpa using h1, h2, fun j z hj hz => ?_⟩
     cases j with
     | zero => simp at hz; subst hz; simpa using hy
     | succ j => exact h3 j z (by omega) (by simpa using hz)
  obtain ⟨k, x, h1, h2, h3⟩ := this
  exact ⟨k, x, ixf_some h1 h2 h3, h1, h2⟩
def DiskM.write (D : DiskM) (b : Int) (x : List UInt8) : DiskM × Int × Int :=
 if ¬ D.has b then (D, 0, 1)
 else if x.length ≠ 128 then (D, 0, 1)
 else if ixf (fun m : SentM => m.blk == b) D.queue ≥ 0 then (D, 0, 21)
 else if 64 ≤ D.queue.length then (D, 0, 3)
 else ({ D with queue := D.queue ++ [⟨D.last + 1, b, x⟩], last := D.last + 1 }, D.last + 1, 0)
theorem fm_set1 (hs : List Hd) (j : Nat) (p : Hd) : (hs.flatMap hd1).set j (.slice p.1 128 p.2) = (hs.set j p).flatMap hd1 := by
 have e : ∀ l : List Hd, l.flatMap hd1 = l.map fun p => .slice p.1 128 p.2 := fun l => by induction l with | nil => rfl | cons x l ih => simp [hd1, ih]
 rw [e, e, List.map_set]
theorem BRel.set {s : TH} {τ : Nat} {hs : List Hd} {bs : List (List UInt8)} (h : BRel s τ hs bs) (j : Nat) {p : Hd} {b : List UInt8} (hp : ByAt s τ p b) : BRel s τ (hs.set j p) (bs.set j b) := by
 refine ⟨by simp [h.len], fun i x y hx hy => ?_⟩
 rw [List.getElem?_set] at hx hy
 by_cases hij : j = i
 ·subst hij
  rw [if_pos rfl] at hx hy
  split at hx
  ·split at hy
   ·cases hx; cases hy; exact hp
   ·cases hy
  ·cases hx
 ·rw [if_neg hij] at hx hy; exact h.at_ i x y hx hy
theorem QRel.erase {s : TH} {τ : Nat} {qs : List (Int × Int × Hd)} {q : List SentM} (h : QRel s τ qs q) (i : Nat) : QRel s τ (qs.eraseIdx i) (q.eraseIdx i) := by
 refine ⟨by simp [List.length_eraseIdx, h.len], fun j y n hy hn => ?_⟩
 rw [List.getElem?_eraseIdx] at hy hn
 split at hy
 ·rename_i hj; rw [if_pos hj] at hn; exact h.at_ j y n hy hn
 ·rename_i hj; rw [if_neg hj] at hn; exact h.at_ (j + 1) y n hy hn
theorem QRel.snoc {s : TH} {τ : Nat} {qs : List (Int × Int × Hd)} {q : List SentM} (h : QRel s τ qs q) {x : Int × Int × Hd} {m : SentM} (hx : x.1 = m.id ∧ x.2.1 = m.blk ∧ ByAt s τ x.2.2 m.by_) : QRel s τ (qs ++ [x]) (q ++ [m]) := by
 refine ⟨by simp [h.len], fun i y n hy hn => ?_⟩
 by_cases hi : i < q.length
 ·rw [List.getElem?_append_left (by rw [h.len]; exact hi)] at hy
  rw [List.getElem?_append_left hi] at hn
  exact h.at_ i y n hy hn
 ·rw [List.getElem?_append_right (by rw [h.len]; omega)] at hy
  rw [List.getElem?_append_right (by omega)] at hn
  rw [h.len] at hy
  cases hd : i - q.length with
  | zero => rw [hd] at hy hn; simp at hy hn; subst hy hn; exact hx
  | succ k => rw [hd] at hy; simp at hy
def FailsOk (fm : List (Int × Value)) (f : Int → Int) : Prop := ∀ b, (mget b fm).getD (.int .i64 0) = .int .i64 (f b)
structure DiskP (s : TH) (d T : Nat) (D : DiskM) (pa : Option Addr) (pc : Nat) (qa : Option Addr) (qc : Nat) (hs : List Hd) (qs : List (Int × Int × Hd)) (fr : Nat) (fm : List (Int × Value)) : Prop where
 blk : Blk s d [.slice pa D.blocks.length pc, .slice qa D.queue.length qc, .map (some fr), .int .i64 D.last] 192 T
 rows : Own s pa D.blocks.length pc 85 1 (hs.flatMap hd1) (T + 1)
 brel : BRel s (T + 3) hs D.blocks
 que : Own s qa D.queue.length qc 328 3 (qs.flatMap qv) (T + 2)
 qrel : QRel s (T + 3) qs D.queue
 fails : MapK (Value.int .i64) s fr fm (T + 4)
 fok : FailsOk fm D.fails
 nb : 1 ≤ D.blocks.length ∧ D.blocks.length ≤ 2048
 nq : D.queue.length ≤ 64
 qin : ∀ m ∈ D.queue, 0 ≤ m.blk ∧ m.blk < D.blocks.length
def Disk (s : TH) (d T : Nat) (D : DiskM) : Prop := ∃ pa pc qa qc hs qs fr fm, DiskP s d T D pa pc qa qc hs qs fr fm
theorem DiskP.mv {s s' : TH} {d T : Nat} {D : DiskM} {pa : Option Addr} {pc : Nat} {qa : Option Addr} {qc : Nat} {hs : List Hd} {qs : List (Int × Int × Hd)} {fr : Nat} {fm : List (Int × Value)} {C : Nat → Prop}
  (h : DiskP s d T D pa pc qa qc hs qs fr fm) (c : Chg C s s') (hn : ∀ j, j < s.h.size → T ≤ s.g j → s.g j < T + 10 → ¬ C j) : DiskP s' d T D pa pc qa qc hs qs fr fm :=
 ⟨h.blk.mv c (of_rng hn (Nat.le_refl _) (by omega) d h.blk.lt h.blk.tag), h.rows.mv c (of_rng hn (by omega) (by omega)), h.brel.mv c (of_rng hn (by omega) (by omega)), h.que.mv c (of_rng hn (by omega) (by omega)), h.qrel.mv c (of_rng hn (by omega) (by omega)),
  h.fails.mv c (of_rng hn (by omega) (by omega) fr h.fails.lt h.fails.tag), h.fok, h.nb, h.nq, h.qin⟩
theorem Disk.mv {s s' : TH} {d T : Nat} {D : DiskM} {C : Nat → Prop} (h : Disk s d T D) (c : Chg C s s') (hn : ∀ j, j < s.h.size → T ≤ s.g j → s.g j < T + 10 → ¬ C j) : Disk s' d T D := by
 obtain ⟨pa, pc, qa, qc, hs, qs, fr, fm, h⟩ := h
 exact ⟨pa, pc, qa, qc, hs, qs, fr, fm, h.mv c hn⟩
end Go.Proofs.YtklppdodadkcnaaGreat.E
