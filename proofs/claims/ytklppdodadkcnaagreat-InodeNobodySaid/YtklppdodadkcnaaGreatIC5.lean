/- My own texts, joined. -/
import Derived.KernelRfl
import Derived.Laws.AppendOwn
import Derived.Laws.Externs
import Derived.Laws.Rows
import Derived.Lib.MakeNoZero
import Derived.Test.YtklppdodadkcnaaGreatProg
import Derived.Test.YtklppdodadkcnaaGreatIC4
namespace Go.Proofs.YtklppdodadkcnaaGreat.E
open Go
set_option linter.unusedVariables false
set_option linter.unusedSimpArgs false
abbrev OnA (a : Option Addr) (s s' : TH) : Prop := Chg (fun j => a.map (·.block) = some j) s s'
def Sl (s : TH) (a : Option Addr) (l : List Value) (τ : Nat) : Prop :=
 l = [] ∨ ∃ g o, a = some ⟨g, o, none⟩ ∧ g < s.h.size ∧ s.g g = τ ∧ ∀ j v, l[j]? = some v → cellH s.h ⟨g, o + j, none⟩ = some v
theorem Sl.of {s : TH} {g o e τ : Nat} {L l : List Value} (h : Blk s g L e τ) (hl : (L.drop o).take l.length = l) : Sl s (some ⟨g, o, none⟩) l τ := by
 refine .inr ⟨g, o, rfl, h.lt, h.tag, fun j v hv => ?_⟩
 rw [h.cell]
 rw [← hl, List.getElem?_take] at hv
 split at hv
 ·rw [List.getElem?_drop] at hv; exact hv
 ·cases hv
def Own (s : TH) (a : Option Addr) (n c e k : Nat) (xs : List Value) (τ : Nat) : Prop :=
 xs.length = n * k ∧ ((a = none ∧ n = 0 ∧ c = 0) ∨ ∃ g o L, a = some ⟨g, o, none⟩ ∧ Blk s g L e τ ∧ n ≤ c ∧ c ≤ maxLen ∧ o + c * k ≤ L.length ∧ (L.drop o).take (n * k) = xs)
section
variable {s s' : TH} {a : Option Addr} {n c e k : Nat} {xs l : List Value} {τ : Nat} {B : Nat → Prop}
theorem Own.nil (s : TH) (e k τ : Nat) : Own s none 0 0 e k [] τ := ⟨by simp, .inl ⟨rfl, rfl, rfl⟩⟩
theorem Own.mv (h : Own s a n c e k xs τ) (C : Chg B s s') (hn : ∀ j, j < s.h.size → s.g j = τ → ¬ B j) : Own s' a n c e k xs τ := by
 refine ⟨h.1, h.2.imp id ?_⟩
 rintro ⟨g, o, L, h1, h2, h3⟩
 exact ⟨g, o, L, h1, h2.mv C (hn g h2.lt h2.tag), h3⟩
theorem Sl.mv (h : Sl s a l τ) (C : Chg B s s') (hn : ∀ j, j < s.h.size → s.g j = τ → ¬ B j) : Sl s' a l τ := by
 refine h.imp id ?_
 rintro ⟨g, o, h1, h2, h3, h4⟩
 exact ⟨g, o, h1, Nat.lt_of_lt_of_le h2 C.size, (C.tag g h2).trans h3, fun j v hv => by rw [cellH_of (C.get g h2 (hn g h2 h3))]; exact h4 j v hv⟩
theorem Own.sl (h : Own s a n c e k xs τ) : Sl s a xs τ := by
 rcases h.2 with ⟨_, rfl, _⟩ | ⟨g, o, L, h1, h2, _, _, _, h3⟩
 ·left; exact List.eq_nil_of_length_eq_zero (by simpa using h.1)
 ·subst h1; exact Sl.of h2 (by rw [h.1]; exact h3)
theorem Own.le (h : Own s a n c e k xs τ) : n ≤ c := by
 rcases h.2 with ⟨_, rfl, rfl⟩ | ⟨g, o, L, h1, h2, h3, _⟩ <;> omega
theorem Own.len (h : Own s a n c e k xs τ) : xs.length = n * k := h.1
theorem Own.none_iff (h : Own s a n c e k xs τ) : a = none → n = 0 := by
 intro ha
 rcases h.2 with ⟨_, h1, _⟩ | ⟨g, o, L, h1, _⟩
 ·exact h1
 ·rw [ha] at h1; cases h1
theorem OnA.ch {T : List Nat} (C : OnA a s s') (h : Own s a n c e k xs τ) (ht : τ ∈ T) : Ch T s s' := Chg.mono C fun j hj hB => by
 rcases h.2 with ⟨rfl, _⟩ | ⟨g, o, L, rfl, h2, _⟩
 ·simp at hB
 ·simp at hB; subst hB; rw [h2.tag]; exact ht
theorem OnA.toL {r o : Nat} (C : OnA a s s') (h : a = some ⟨r, o, none⟩) : ChL [] [r] s s' := Chg.mono C fun j hj hB => .inr (by subst h; simp at hB; simp [hB])
theorem Blk.sl {r t : Nat} (h : Blk s r l t τ) : Sl s (some ⟨r, 0, none⟩) l τ := Sl.of h (by simp)
theorem Blk.own0 {r t : Nat} (h : Blk s r [] t τ) (k : Nat) : Own s (some ⟨r, 0, none⟩) 0 0 t k [] τ := ⟨by simp, .inr ⟨r, 0, [], rfl, h, by simp, by simp, by simp, by simp⟩⟩
theorem Blk.own {r t : Nat} (h : Blk s r l t τ) (k : Nat) (hl : l.length = n * k) (hn : n ≤ maxLen) : Own s (some ⟨r, 0, none⟩) n n t k l τ := ⟨hl, .inr ⟨r, 0, l, rfl, h, Nat.le_refl _, hn, by omega, by simp [← hl]⟩⟩
theorem Sl.cells {b : Addr} (h : Sl s (some b) l τ) (w : World) (hw : w.heap = s.h) : ∀ j u, l[j]? = some u → w.cell? (b.add j) = some u := by
 intro j u hu
 rcases h with rfl | ⟨g, o, h1, h2, h3, h4⟩
 ·simp at hu
 ·cases h1
  have hadd : (⟨g, o, none⟩ : Addr).add j = ⟨g, o + j, none⟩ := by unfold Addr.add; split <;> simp_all
  rw [hadd, cell_eq, hw]
  exact h4 j u hu
end
section
variable {P : Program} {t ty e : TypeId} {i : TypeInfo} {E : List PanicEntry → Heap → Prop}
theorem run_append_none (w : World) (ht : P.underlying t = some (.slice e)) (hi : P.info? e = some i) (a xa : Option Addr) (n c mc : Nat) (hn : n ≤ c) :
  (Builtin.append_ #[t, t] ty #[.slice a n c, .slice xa 0 mc]).run P w = .ok (.slice a n c) w := by
 cases xa <;> cases a <;> simp [Builtin.append_, run_underlying ht, sizeOf, typeInfo, hi, Builtin.lenOf, hn, Builtin.firstCells, loadCells, loadCellsFrom, storeCells]
theorem run_append_room_o (w : World) (ht : P.underlying t = some (.slice e)) (hi : P.info? e = some i)
  (g o sLen sCap : Nat) (cur : Array Value) (hg : w.heap[g]? = some (.cells cur e (0, 0)))
  (a : Addr) (m c : Nat) (news : List Value) (hl : news.length = m * i.size) (hnews : ∀ j u, news[j]? = some u → w.cell? (a.add j) = some u) (h1 : ∀ u ∈ news, u.oneCell' = true)
  (hroom : sLen + m ≤ sCap) (hfit : o + sLen * i.size + news.length ≤ cur.size) :
  (Builtin.append_ #[t, t] ty #[.slice (some ⟨g, o, none⟩) sLen sCap, .slice (some a) m c]).run P w =
   .ok (.slice (some ⟨g, o, none⟩) (sLen + m) sCap) (w.setRow g (cur.toList.take (o + sLen * i.size) ++ news ++ cur.toList.drop (o + sLen * i.size + news.length)).toArray) := by
 have hf := run_firstCells_some (P := P) w i.size m a m c news hl hnews
 have hst := run_storeCells_at P g (o + sLen * i.size) e news 0 cur w hg (by simpa using hfit) h1
 simp only [Nat.add_zero] at hst
 have hadd : (⟨g, o, none⟩ : Addr).add (sLen * i.size) = ⟨g, o + sLen * i.size, none⟩ := by unfold Addr.add; split <;> simp_all
 simp [Builtin.append_, run_underlying ht, sizeOf, typeInfo, hi, Builtin.lenOf, hroom, hf, hadd, hst]
theorem app_t {s : TH} {a xa : Option Addr} {n c m mc bytes k : Nat} {xs news : List Value} {τ τ' : Nat} {z : Value} {K : Value → Heap → Prop}
  (ht : P.underlying t = some (.slice e)) (hi : P.info? e = some i) (hz : i.zero = some z) (hsize : i.size = k) (hby : i.bytes = bytes) (hzs : z.cells.size = k)
  (hO : Own s a n c e k xs τ) (hx : Sl s xa news τ') (hl : news.length = m * k) (h1 : ∀ u ∈ news, u.oneCell' = true) (hxa : xa = none → m = 0)
  (hb : (n + m) * bytes ≤ 140737488355328 ∧ n + m ≤ maxLen)
  (hk : ∀ (s' : TH) (a' : Option Addr) (c' : Nat), Own s' a' (n + m) c' e k (xs ++ news) τ → OnA a s s' → ((a' = none ↔ a = none ∧ m = 0) ∧ (n + m ≤ c → a' = a ∧ c' = c)) → K (.slice a' (n + m) c') s'.h) :
  semW P (Builtin.append_ #[t, t] ty #[.slice a n c, .slice xa m mc]) E s.h K := .mk fun w hw => by
 subst hsize hby
 by_cases hm : m = 0
 ·subst hm
  rw [run_append_none w ht hi a xa n c mc hO.le]
  have hn : news = [] := List.eq_nil_of_length_eq_zero (by simpa using hl)
  subst hn
  refine ⟨?_, Like.refl w⟩
  rw [hw]
  exact hk s a c (by simpa using hO) ⟨Nat.le_refl _, fun _ _ => rfl, fun _ _ _ => rfl⟩ ⟨by simp, fun _ => ⟨rfl, rfl⟩⟩
 obtain ⟨b, rfl⟩ : ∃ b, xa = some b := by
  cases xa with
  | none => exact absurd (hxa rfl) hm
  | some b => exact ⟨b, rfl⟩
 have hc := hx.cells w hw
 have h63 : ((n + m : Nat) : Int) ≤ 9223372036854775807 := by have := hb.2; unfold maxLen at this; omega
 have hlen : (xs ++ news).length = (n + m) * i.size := by rw [List.length_append, hO.1, hl, Nat.add_mul]
 -- a new block
 have grown : ∀ (old : Nat), ¬ n + m ≤ c → ∃ L : List Value, L.toArray = xs.toArray ++ news.toArray ++ Builtin.zeroCells z.cells (grownCap w (n + m) old e - (n + m)) ∧
   K (.slice (some ⟨w.heap.size, 0, none⟩) (n + m) (grownCap w (n + m) old e)) (w.heap.push (.cells L.toArray e)) := by
  intro old hno
  refine ⟨xs ++ news ++ (Builtin.zeroCells z.cells (grownCap w (n + m) old e - (n + m))).toList, by apply Array.toList_inj.1; simp, ?_⟩
  have hge := grownCap_ge w (n + m) old e
  have hcm : grownCap w (n + m) old e ≤ maxLen := grownCap_le_maxLen w (n + m) old e hb.2
  rw [hw]
  refine hk ⟨s.h.push (.cells (xs ++ news ++ (Builtin.zeroCells z.cells (grownCap w (n + m) old e - (n + m))).toList).toArray e), upd s.g s.h.size τ⟩ _ _ ⟨hlen, .inr ⟨s.h.size, 0, xs ++ news ++ (Builtin.zeroCells z.cells (grownCap w (n + m) old e - (n + m))).toList, rfl, ⟨by simp, by simp [upd]⟩, hge, hcm, ?_, ?_⟩⟩ ?_ ⟨by simp [hm], fun h => absurd h hno⟩
  ·have : (Builtin.zeroCells z.cells (grownCap w (n + m) old e - (n + m))).toList.length = (grownCap w (n + m) old e - (n + m)) * i.size := by
    simp [size_zeroCells, hzs]
   rw [List.length_append, hlen, this, ← Nat.add_mul]
   rw [show n + m + (grownCap w (n + m) old e - (n + m)) = grownCap w (n + m) old e by omega]; omega
  ·rw [← hlen, List.drop_zero]; exact List.take_left
  ·exact Chg.mono (pushed s _ τ) fun _ _ h => by simp at h
 rcases hO.2 with ⟨rfl, rfl, rfl⟩ | ⟨g, o, L, rfl, hB, hnc, hcm, hcs, htake⟩
 ·have hx0 : xs = [] := List.eq_nil_of_length_eq_zero (by simpa using hO.1)
  subst hx0
  have hr := run_append_nil (P := P) w t ty e i z ht hi hz b m mc news hl hc (by omega) (by omega) (by have := hb.1; simp only [Nat.zero_add] at this; omega)
  rw [hr]
  obtain ⟨L, hL, hK⟩ := grown 0 (by omega)
  simp only [Nat.zero_add, List.nil_append, Array.empty_append] at hL hK
  refine ⟨?_, rfl, rfl, rfl⟩
  rw [hL] at hK; exact hK
 ·by_cases hroom : n + m ≤ c
  ·have hfit : o + n * i.size + news.length ≤ L.toArray.size := by
    have := Nat.mul_le_mul_right i.size hroom
    rw [Nat.add_mul] at this
    simp only [List.size_toArray, hl]; omega
   have hr := run_append_room_o (P := P) (ty := ty) w ht hi g o n c L.toArray (by rw [hw]; exact hB.get) b m mc news hl hc h1 hroom hfit
   rw [hr]
   have hset : (w.setRow g (L.take (o + n * i.size) ++ news ++ L.drop (o + n * i.size + news.length)).toArray).heap[g]? = some (.cells (L.take (o + n * i.size) ++ news ++ L.drop (o + n * i.size + news.length)).toArray e (0, 0)) := setRow_heap w g L.toArray _ e _ (by rw [hw]; exact hB.get)
   have hK := hk ⟨(w.setRow g (L.take (o + n * i.size) ++ news ++ L.drop (o + n * i.size + news.length)).toArray).heap, s.g⟩ (some ⟨g, o, none⟩) c ⟨hlen, .inr ⟨g, o, _, rfl, ⟨hset, hB.tag⟩, hroom, hcm, ?_, ?_⟩⟩ ⟨by simp [← hw], fun _ _ => rfl, fun j hj hn => ?_⟩ ⟨by simp, fun _ => ⟨rfl, rfl⟩⟩
   ·exact ⟨hK, rfl, rfl, rfl⟩
   ·simp only [List.size_toArray] at hfit
    simp only [List.length_append, List.length_take, List.length_drop]; omega
   ·simp only [List.size_toArray] at hfit
    have e1 : (L.take (o + n * i.size) ++ news ++ L.drop (o + n * i.size + news.length)).drop o = (L.drop o).take (n * i.size) ++ news ++ L.drop (o + n * i.size + news.length) := by
     rw [List.append_assoc, List.drop_append_of_le_length (by simp; omega), List.drop_take, ← List.append_assoc]
     congr 2; congr 1; omega
    rw [e1, htake, ← hlen]; exact List.take_left
   ·show (w.setRow g _).heap[j]? = _
    rw [setRow_other w g j _ (fun e => hn (by simp [e])), hw]
  ·have hr := run_append_grow (P := P) w t ty e i z ht hi hz ⟨g, o, none⟩ n c xs hO.1 (by have := hO.sl.cells w hw; exact this) b m mc news hl hc (by omega) (by omega) (growslice_fits (by omega) hb.1)
   rw [hr]
   obtain ⟨L', hL, hK⟩ := grown c hroom
   refine ⟨?_, rfl, rfl, rfl⟩
   rw [hL] at hK; exact hK
end
theorem info_of {P : Program} {e : TypeId} {z : Value} {k b : Nat} (h : (P.info? e).map (fun i => (i.zero, i.size, i.bytes)) = some (some z, k, b)) : ∃ i, P.info? e = some i ∧ i.zero = some z ∧ i.size = k ∧ i.bytes = b := by
 cases hi : P.info? e with
 | none => rw [hi] at h; cases h
 | some i => rw [hi] at h; simp at h; exact ⟨i, rfl, h.1, h.2.1, h.2.2⟩
theorem app_i {P : Program} {t ty e : TypeId} {E : List PanicEntry → Heap → Prop} {s : TH} {a xa : Option Addr} {n c m mc bytes k : Nat} {xs news : List Value} {τ τ' : Nat} {z : Value} {K : Value → Heap → Prop}
  (ht : P.underlying t = some (.slice e)) (hi : (P.info? e).map (fun i => (i.zero, i.size, i.bytes)) = some (some z, k, bytes)) (hzs : z.cells.size = k)
  (hO : Own s a n c e k xs τ) (hx : Sl s xa news τ') (hl : news.length = m * k) (h1 : ∀ u ∈ news, u.oneCell' = true) (hxa : xa = none → m = 0)
  (hb : (n + m) * bytes ≤ 140737488355328 ∧ n + m ≤ maxLen)
  (hk : ∀ (s' : TH) (a' : Option Addr) (c' : Nat), Own s' a' (n + m) c' e k (xs ++ news) τ → OnA a s s' → ((a' = none ↔ a = none ∧ m = 0) ∧ (n + m ≤ c → a' = a ∧ c' = c)) → K (.slice a' (n + m) c') s'.h) :
  semW P (Builtin.append_ #[t, t] ty #[.slice a n c, .slice xa m mc]) E s.h K := by
 obtain ⟨i, h1', h2, h3, h4⟩ := info_of hi
 exact app_t ht h1' h2 h3 h4 hzs hO hx hl h1 hxa hb hk
def bv (b : UInt8) : Value := .int .u8 (b.toNat : Int)
def bvs (l : List UInt8) : List Value := l.map bv
theorem bvs_len (l : List UInt8) : (bvs l).length = l.length := by simp [bvs]
theorem bvs_one (l : List UInt8) : ∀ u ∈ bvs l, u.oneCell' = true := by intro u hu; simp [bvs] at hu; obtain ⟨b, _, rfl⟩ := hu; rfl
theorem slA_mk (g o k l m : Nat) : slO (some ⟨g, o, none⟩) k (l : Int) (m : Int) = some ⟨g, if m = l then o else o + l * k, none⟩ := by
 unfold slO slA
 simp only [Option.map_some, Int.toNat_natCast]
 split
 ·rfl
 ·unfold Addr.add; split <;> simp_all
theorem Own.pre {s : TH} {a : Option Addr} {n c e k : Nat} {xs : List Value} {τ : Nat} (h : Own s a n c e k xs τ) {m : Nat} (hm : m ≤ n) : Own s a m c e k (xs.take (m * k)) τ := by
 have hle : m * k ≤ n * k := Nat.mul_le_mul_right k hm
 refine ⟨by rw [List.length_take, h.1]; omega, ?_⟩
 rcases h.2 with ⟨h1, h2, h3⟩ | ⟨g, o, L, h1, h2, h3, h4, h5, h6⟩
 ·exact .inl ⟨h1, by omega, h3⟩
 ·refine .inr ⟨g, o, L, h1, h2, by omega, h4, h5, ?_⟩
  rw [← h6, List.take_take]; congr 1; omega
theorem Own.cut {s : TH} {a : Option Addr} {n c e k : Nat} {xs : List Value} {τ : Nat} (h : Own s a n c e k xs τ) {m : Nat} (hm : m ≤ n) : Sl s (slO a k (m : Int) (c : Int)) (xs.drop (m * k)) τ := by
 rcases h.2 with ⟨h1, h2, h3⟩ | ⟨g, o, L, h1, h2, h3, h4, h5, h6⟩
 ·left; rw [List.eq_nil_of_length_eq_zero (l := xs) (by rw [h.1, h2]; simp)]; simp
 ·by_cases hc : c = m
  ·left; apply List.eq_nil_of_length_eq_zero; rw [List.length_drop, h.1, show n = m by omega]; omega
  ·subst h1
   rw [slA_mk, if_neg hc]
   refine Sl.of h2 ?_
   rw [← h6, List.drop_take, List.drop_drop, List.length_take, List.length_drop]
   have h7 : n * k ≤ c * k := Nat.mul_le_mul_right k h3
   rw [Nat.min_eq_left (by omega)]
end Go.Proofs.YtklppdodadkcnaaGreat.E
namespace Go.Proofs.YtklppdodadkcnaaGreat.E
open Go
set_option linter.unusedVariables false
set_option linter.unusedSimpArgs false
theorem rngn {s : TH} {T : Nat} {L : List Nat} (h : ∀ τ ∈ L, τ < T ∨ T + 10 ≤ τ) : ∀ j, j < s.h.size → T ≤ s.g j → s.g j < T + 10 → ¬ s.g j ∈ L := fun j _ h1 h2 h3 => by have := h _ h3; omega
theorem rngO {s : TH} {T r : Nat} (h : s.g r < T ∨ T + 10 ≤ s.g r) : ∀ j, j < s.h.size → T ≤ s.g j → s.g j < T + 10 → ¬ j = r := fun j _ h1 h2 h3 => by subst h3; omega
theorem of_rng {s : TH} {T τ : Nat} {B : Nat → Prop} (hn : ∀ j, j < s.h.size → T ≤ s.g j → s.g j < T + 10 → ¬ B j) (h1 : T ≤ τ) (h2 : τ < T + 10) : ∀ j, j < s.h.size → s.g j = τ → ¬ B j := fun j hj e => hn j hj (by omega) (by omega)
section
variable {α : Type} {f : α → List Value} {k : Nat}
theorem fm_get (hf : ∀ x, (f x).length = k) : ∀ (l : List α) (i j : Nat) (x : α), l[i]? = some x → j < k → (l.flatMap f)[i * k + j]? = (f x)[j]?
 | [], i, j, x, h, _ => by simp at h
 | y :: l, 0, j, x, h, hj => by
  simp at h; subst h
  simp only [List.flatMap_cons, Nat.zero_mul, Nat.zero_add]
  rw [List.getElem?_append_left (by rw [hf]; exact hj)]
 | y :: l, i + 1, j, x, h, hj => by
  simp only [List.flatMap_cons, Nat.add_mul, Nat.one_mul]
  rw [List.getElem?_append_right (by rw [hf]; omega), hf, show i * k + k + j - k = i * k + j by omega]
  exact fm_get hf l i j x (by simpa using h) hj
end
section
variable {s : TH} {a : Addr} {l : List Value} {τ : Nat} {v : Value} {k : Value → Prop}
theorem Sl.get (h : Sl s (some a) l τ) {j : Nat} (hv : l[j]? = some v) : cellH s.h (a.add j) = some v := by
 rcases h with rfl | ⟨g, o, h1, h2, h3, h4⟩
 ·simp at hv
 ·cases h1
  have hadd : (⟨g, o, none⟩ : Addr).add j = ⟨g, o + j, none⟩ := by unfold Addr.add; split <;> simp_all
  rw [hadd]; exact h4 j v hv
theorem ld_sl {j : Nat} (h : Sl s (some a) l τ) (hv : l[j]? = some v) (hk : k v) : ld s.h (a.add j) k := ld_i (h.get hv) hk
theorem add_add {l : List Value} (h : Sl s (some a) l τ) {x y : Nat} (hv : l[x + y]? = some v) : (a.add x).add y = a.add (x + y) := by
 rcases h with rfl | ⟨g, o, h1, h2, h3⟩
 ·simp at hv
 ·cases h1
  unfold Addr.add
  by_cases hx : x = 0 <;> by_cases hy : y = 0 <;> simp [hx, hy] <;> omega
theorem ld_sl2 {x y : Nat} (h : Sl s (some a) l τ) (hv : l[x + y]? = some v) (hk : k v) : ld s.h ((a.add x).add y) k := by
 rw [add_add h hv]; exact ld_sl h hv hk
theorem Sl.some {a : Option Addr} {l : List Value} (h : Sl s a l τ) (hl : l ≠ []) : ∃ b, a = .some b := by
 rcases h with h | ⟨g, o, h1, h2, h3⟩
 ·exact absurd h hl
 ·exact ⟨_, h1⟩
end
theorem Own.st {s : TH} {a : Addr} {n c e k : Nat} {xs : List Value} {τ j : Nat} {v : Value} {K : Heap → Prop} (h : Own s (some a) n c e k xs τ) (h1 : oneC v = true) (hj : j < n * k)
  (hk : ∀ s' : TH, Own s' (some a) n c e k (xs.set j v) τ → On a.block s s' → s.h.size = s'.h.size → K s'.h) : st s.h (a.add j) v K := by
 rcases h.2 with ⟨h0, _⟩ | ⟨g, o, L, h2, h3, h4, h5, h6, h7⟩
 ·cases h0
 ·cases h2
  have hadd : (⟨g, o, none⟩ : Addr).add j = ⟨g, o + j, none⟩ := by unfold Addr.add; split <;> simp_all
  rw [hadd]
  have hck : n * k ≤ c * k := Nat.mul_le_mul_right k h4
  refine st_t h3 h1 (by omega) fun s' b1 b2 b3 => hk s' ⟨by rw [List.length_set]; exact h.1, .inr ⟨g, o, _, rfl, b1, h4, h5, by rw [List.length_set]; exact h6, ?_⟩⟩ b2 b3
  rw [← h7]
  apply List.ext_getElem?
  intro i
  rw [List.getElem?_take, List.getElem?_drop]
  by_cases hi : i < n * k
  ·rw [if_pos hi]
   by_cases hij : i = j
   ·subst hij
    rw [List.getElem?_set_self (by omega), List.getElem?_set_self (by rw [List.length_take, List.length_drop]; omega)]
   ·rw [List.getElem?_set_ne (by omega), List.getElem?_set_ne (by omega), List.getElem?_take, if_pos hi, List.getElem?_drop]
  ·rw [if_neg hi, List.getElem?_eq_none]
   rw [List.length_set, List.length_take]; omega
theorem Own.tagOf {s : TH} {a : Addr} {n c e k : Nat} {xs : List Value} {τ : Nat} (h : Own s (some a) n c e k xs τ) : s.g a.block = τ := by
 rcases h.2 with ⟨h0, _⟩ | ⟨g, o, L, h2, h3, _⟩
 ·cases h0
 ·cases h2; exact h3.tag
theorem slO_zero (a : Option Addr) (k : Nat) (m : Int) : slO a k 0 m = a := by
 cases a with
 | none => rfl
 | some a => simp [slO, slA, Addr.add]
theorem clear_t {P : Program} {t ty e : TypeId} {E : List PanicEntry → Heap → Prop} {s : TH} {a : Option Addr} {n m c mc bytes k : Nat} {xs : List Value} {τ : Nat} {z : Value} {K : Value → Heap → Prop}
  (ht : P.underlying t = some (.slice e)) (hi : (P.info? e).map (fun i => (i.zero, i.size, i.bytes)) = some (some z, k, bytes)) (hzs : z.cells.size = k) (hz1 : ∀ u ∈ z.cells.toList, u.oneCell' = true)
  (hO : Own s a n c e k xs τ) (hm : n ≤ m) (hmc : m ≤ c)
  (hk : ∀ s' : TH, Own s' a n c e k xs τ → OnA a s s' → s.h.size = s'.h.size → K (.tuple #[]) s'.h) :
  semW P (Builtin.clear_ #[t] ty #[.slice (slO a k (n : Int) (c : Int)) (m - n) mc]) E s.h K := .mk fun w hw => by
 obtain ⟨i, hi1, hi2, hi3, hi4⟩ := info_of hi
 by_cases h0 : m - n = 0
 ·have hr : (Builtin.clear_ #[t] ty #[.slice (slO a k (n : Int) (c : Int)) (m - n) mc]).run P w = .ok (.tuple #[]) w := by
   rw [h0]
   cases slO a k (n : Int) (c : Int) <;> simp [Builtin.clear_, run_under ht]
  rw [hr]
  exact ⟨by rw [hw]; exact hk s hO ⟨Nat.le_refl _, fun _ _ => rfl, fun _ _ _ => rfl⟩ rfl, Like.refl w⟩
 rcases hO.2 with ⟨_, h2, h3⟩ | ⟨g, o, L, rfl, h2, h3, h4, h5, h6⟩
 ·omega
 ·rw [slA_mk, if_neg (by omega)]
  obtain ⟨d, hd⟩ : ∃ d, m - n = d + 1 := ⟨m - n - 1, by omega⟩
  have hzl : (Builtin.zeroCells z.cells (m - n)).toList.length = (m - n) * k := by simp [size_zeroCells, hzs]
  have hck : n * k + (m - n) * k ≤ c * k := by rw [← Nat.add_mul]; exact Nat.mul_le_mul_right k (by omega)
  have hst := run_storeCells_at P g (o + n * k) e (Builtin.zeroCells z.cells (m - n)).toList 0 L.toArray w (by rw [hw]; exact h2.get) (by rw [hzl]; simp; omega) (by
   intro u hu
   simp only [Builtin.zeroCells, Array.toList_map, List.mem_map, Array.toList_range] at hu
   obtain ⟨j, hj, rfl⟩ := hu
   have hj : j < (m - n) * z.cells.size := by simpa using hj
   have hp : 0 < z.cells.size := by
    rcases Nat.eq_zero_or_pos z.cells.size with h | h
    ·rw [h] at hj; omega
    ·exact h
   apply hz1
   rw [getElem!_pos z.cells (j % z.cells.size) (Nat.mod_lt _ hp)]
   simp)
  simp only [Nat.add_zero] at hst
  have hr : (Builtin.clear_ #[t] ty #[.slice (some ⟨g, o + n * k, none⟩) (m - n) mc]).run P w = .ok (.tuple #[]) (w.setRow g ((L.toArray.toList.take (o + n * k)) ++ (Builtin.zeroCells z.cells (m - n)).toList ++ L.toArray.toList.drop (o + n * k + (Builtin.zeroCells z.cells (m - n)).toList.length)).toArray) := by
   rw [hd] at hst ⊢
   simp only [Builtin.clear_, Sem.run_bind, run_under ht]
   simp [run_under ht, zeroValue, run_typeInfo hi1, hi2, hst]
  rw [hr]
  simp only [List.toList_toArray, hzl]
  have hset := setRow_heap w g L.toArray (L.take (o + n * k) ++ (Builtin.zeroCells z.cells (m - n)).toList ++ L.drop (o + n * k + (m - n) * k)).toArray e (0, 0) (by rw [hw]; exact h2.get)
  have hK := hk ⟨(w.setRow g (L.take (o + n * k) ++ (Builtin.zeroCells z.cells (m - n)).toList ++ L.drop (o + n * k + (m - n) * k)).toArray).heap, s.g⟩ ⟨hO.1, .inr ⟨g, o, _, rfl, ⟨hset, h2.tag⟩, h3, h4, ?_, ?_⟩⟩ ⟨by simp [← hw], fun _ _ => rfl, fun j hj hn => ?_⟩ (by simp [← hw])
  ·exact ⟨hK, rfl, rfl, rfl⟩
  ·simp only [List.length_append, List.length_take, List.length_drop, hzl]; omega
  ·rw [← h6, List.append_assoc, List.drop_append_of_le_length (by simp; omega), List.drop_take, List.take_append_of_le_length (by simp; omega), List.take_take]
   congr 1; omega
  ·show (w.setRow g _).heap[j]? = _
   rw [setRow_other w g j _ (fun e => hn (by simp [e])), hw]
end Go.Proofs.YtklppdodadkcnaaGreat.E
namespace Go.Proofs.YtklppdodadkcnaaGreat.E
open Go
set_option linter.unusedVariables false
set_option linter.unusedSimpArgs false
theorem min_i {P : Program} {ats : Array TypeId} {ty : TypeId} {E : List PanicEntry → Heap → Prop} {H : Heap} {K : Value → Heap → Prop} {a b : Int} (hk : K (.int .i64 (min a b)) H) :
  semW P (Builtin.min_ ats ty #[.int .i64 a, .int .i64 b]) E H K := .mk fun w hw => by
 have hr : (Builtin.min_ ats ty #[.int .i64 a, .int .i64 b]).run P w = .ok (.int .i64 (min a b)) w := by
  have he : (if b < a then b else a) = min a b := by split <;> omega
  simp [Builtin.min_, Builtin.min2, he]
 rw [hr]
 exact ⟨by rw [hw]; exact hk, Like.refl w⟩
theorem wrap_u64 (x : Int) : IntKind.u64.wrap x = x % 18446744073709551616 := rfl
def ivs (l : List Int) : List Value := l.map (Value.int .i64)
theorem ivs_len (l : List Int) : (ivs l).length = l.length := by simp [ivs]
theorem ivs_one (l : List Int) : ∀ u ∈ ivs l, u.oneCell' = true := by intro u hu; simp [ivs] at hu; obtain ⟨b, _, rfl⟩ := hu; rfl
theorem ivs_get {l : List Int} {k : Nat} {x : Int} (h : l[k]? = some x) : (ivs l)[k]? = some (.int .i64 x) := by simp [ivs, h]
theorem ivs_take (l : List Int) (n : Nat) : (ivs l).take n = ivs (l.take n) := by simp [ivs]
theorem ivs_drop (l : List Int) (n : Nat) : (ivs l).drop n = ivs (l.drop n) := by simp [ivs]
theorem ivs_app (l m : List Int) : ivs (l ++ m) = ivs l ++ ivs m := by simp [ivs]
theorem Own.ne_none {s : TH} {a : Option Addr} {n c e k : Nat} {xs : List Value} {τ : Nat} (h : Own s a n c e k xs τ) (hn : 0 < n) : ∃ b, a = some b := by
 cases a with
 | none => have := h.none_iff rfl; omega
 | some b => exact ⟨b, rfl⟩
theorem Sl.ne_none {s : TH} {a : Option Addr} {xs : List Value} {τ : Nat} (h : Sl s a xs τ) (hn : 0 < xs.length) : ∃ b, a = .some b := h.some (fun e => by rw [e] at hn; cases hn)
end Go.Proofs.YtklppdodadkcnaaGreat.E
namespace Go.Proofs.YtklppdodadkcnaaGreat.E
open Go Go.Proofs
set_option linter.unusedVariables false
set_option linter.unusedSimpArgs false
theorem u48 : Tryz.prog.underlying 48 = some (.map 3 3) := by kernel_rfl
theorem u232 : Tryz.prog.underlying 232 = some (.map 3 244) := by kernel_rfl
theorem z3 (w : World) : (zeroValue 3).run Tryz.prog w = .ok (.int .i64 0) w := by kernel_rfl
theorem z4 (w : World) : (zeroValue 4).run Tryz.prog w = .ok (.bool false) w := by kernel_rfl
theorem z5 (w : World) : (zeroValue 5).run Tryz.prog w = .ok (.int .u8 0) w := by kernel_rfl
theorem u3 : Tryz.prog.underlying 3 = some (.int .i64) := by kernel_rfl
theorem u5 : Tryz.prog.underlying 5 = some (.int .u8) := by kernel_rfl
theorem z27 (w : World) : (zeroValue 27).run Tryz.prog w = .ok (.pointer none) w := by kernel_rfl
theorem u45 : Tryz.prog.underlying 45 = some (.slice 3) := by kernel_rfl
theorem z45 (w : World) : (zeroValue 45).run Tryz.prog w = .ok (.slice none 0 0) w := by kernel_rfl
theorem u49 : Tryz.prog.underlying 49 = some (.slice 85) := by kernel_rfl
theorem z70 (w : World) : (zeroValue 70).run Tryz.prog w = .ok (.pointer none) w := by kernel_rfl
theorem u77 : Tryz.prog.underlying 77 = some (.slice 36) := by kernel_rfl
theorem z77 (w : World) : (zeroValue 77).run Tryz.prog w = .ok (.slice none 0 0) w := by kernel_rfl
theorem u85 : Tryz.prog.underlying 85 = some (.slice 5) := by kernel_rfl
theorem z85 (w : World) : (zeroValue 85).run Tryz.prog w = .ok (.slice none 0 0) w := by kernel_rfl
theorem u148 : Tryz.prog.underlying 148 = some (.slice 147) := by kernel_rfl
theorem u160 : Tryz.prog.underlying 160 = some (.slice 326) := by kernel_rfl
theorem z244 (w : World) : (zeroValue 244).run Tryz.prog w = .ok (.pointer none) w := by kernel_rfl
theorem in5 : (Tryz.prog.info? 5).map (fun i => (i.zero, i.size, i.bytes)) = some (some (.int .u8 0), 1, 1) := by kernel_rfl
theorem in3 : (Tryz.prog.info? 3).map (fun i => (i.zero, i.size, i.bytes)) = some (some (.int .i64 0), 1, 8) := by kernel_rfl
theorem in85 : (Tryz.prog.info? 85).map (fun i => (i.zero, i.size, i.bytes)) = some (some (.slice none 0 0), 1, 24) := by kernel_rfl
theorem keyI : KeyOk Tryz.prog 3 (Value.int .i64) := keyInt u3
end Go.Proofs.YtklppdodadkcnaaGreat.E
namespace Go.Proofs.YtklppdodadkcnaaGreat.E
open Go Go.Proofs
set_option linter.unusedVariables false
set_option linter.unusedSimpArgs false
structure SentM where
 id : Int
 blk : Int
 by_ : List UInt8
structure DiskM where
 blocks : List (List UInt8)
 queue : List SentM
 fails : Int → Int
 last : Int
def DiskM.has (D : DiskM) (b : Int) : Prop := 0 ≤ b ∧ b < D.blocks.length
instance (D : DiskM) (b : Int) : Decidable (D.has b) := by unfold DiskM.has; infer_instance
abbrev Hd := Option Addr × Nat
def hv (n : Nat) (p : Hd) : Value := .slice p.1 n p.2
def hd1 (p : Hd) : List Value := [.slice p.1 128 p.2]
def qv (q : Int × Int × Hd) : List Value := [.int .i64 q.1, .int .i64 q.2.1, .slice q.2.2.1 128 q.2.2.2]
theorem hd1_len (p : Hd) : (hd1 p).length = 1 := rfl
structure ByAt (s : TH) (τ : Nat) (p : Hd) (b : List UInt8) : Prop where
 sl : Sl s p.1 (bvs b) τ
 len : b.length = 128
theorem ByAt.mv {s s' : TH} {τ : Nat} {p : Hd} {b : List UInt8} {C : Nat → Prop} (h : ByAt s τ p b) (c : Chg C s s') (hn : ∀ j, j < s.h.size → s.g j = τ → ¬ C j) : ByAt s' τ p b := ⟨h.sl.mv c hn, h.len⟩
theorem ByAt.ne {s : TH} {τ : Nat} {p : Hd} {b : List UInt8} (h : ByAt s τ p b) : ∃ a, p.1 = some a := h.sl.some fun e => by have := congrArg List.length e; rw [bvs_len, h.len] at this; cases this
structure BRel (s : TH) (τ : Nat) (hs : List Hd) (bs : List (List UInt8)) : Prop where
 len : hs.length = bs.length
 at_ : ∀ (i : Nat) (p : Hd) (b : List UInt8), hs[i]? = some p → bs[i]? = some b → ByAt s τ p b
structure QRel (s : TH) (τ : Nat) (qs : List (Int × Int × Hd)) (q : List SentM) : Prop where
 len : qs.length = q.length
 at_ : ∀ (i : Nat) (x : Int × Int × Hd) (m : SentM), qs[i]? = some x → q[i]? = some m → x.1 = m.id ∧ x.2.1 = m.blk ∧ ByAt s τ x.2.2 m.by_
theorem BRel.mv {s s' : TH} {τ : Nat} {hs : List Hd} {bs : List (List UInt8)} {C : Nat → Prop} (h : BRel s τ hs bs) (c : Chg C s s') (hn : ∀ j, j < s.h.size → s.g j = τ → ¬ C j) : BRel s' τ hs bs := ⟨h.len, fun i p b h1 h2 => (h.at_ i p b h1 h2).mv c hn⟩
theorem QRel.mv {s s' : TH} {τ : Nat} {hs : List (Int × Int × Hd)} {bs : List SentM} {C : Nat → Prop} (h : QRel s τ hs bs) (c : Chg C s s') (hn : ∀ j, j < s.h.size → s.g j = τ → ¬ C j) : QRel s' τ hs bs := ⟨h.len, fun i p b h1 h2 => ⟨(h.at_ i p b h1 h2).1, (h.at_ i p b h1 h2).2.1, (h.at_ i p b h1 h2).2.2.mv c hn⟩⟩
theorem bcell {hs : List Hd} {m : Nat} {x : Hd} (h : hs[m]? = some x) : (hs.flatMap hd1)[m]? = some (.slice x.1 128 x.2) := by
 have := fm_get hd1_len hs m 0 x h (by omega); simpa [hd1] using this
def ixr {α : Type} (p : α → Bool) : List α → Nat → Int
 | [], _ => -1
 | x :: l, i => if p x = true then (i : Int) else ixr p l (i + 1)
def ixf {α : Type} (p : α → Bool) (l : List α) : Int := ixr p l 0
theorem ixr_some {α : Type} {p : α → Bool} : ∀ (l : List α) (i k : Nat) (x : α), l[k]? = some x → p x = true → (∀ (j : Nat) (y : α), j < k → l[j]? = some y → p y = false) → ixr p l i = ((i + k : Nat) : Int)
 | [], i, k, x, h, _, _ => by simp at h
 | y :: l, i, 0, x, h, hp, _ => by simp at h; subst h; simp [ixr, hp]
 | y :: l, i, k + 1, x, h, hp, ha => by
  have := ha 0 y (by omega) (by simp)
  rw [ixr, if_neg (by simp [this]), ixr_some l (i + 1) k x (by simpa using h) hp (fun j z hj hz => ha (j + 1) z (by omega) (by simpa using hz))]
  omega
theorem ixr_none {α : Type} {p : α → Bool} : ∀ (l : List α) (i : Nat), (∀ (j : Nat) (y : α), j < l.length → l[j]? = some y → p y = false) → ixr p l i = -1
 | [], i, _ => rfl
 | y :: l, i, ha => by
  have := ha 0 y (by simp) (by simp)
  rw [ixr, if_neg (by simp [this])]
  exact ixr_none l (i + 1) fun j z hj hz => ha (j + 1) z (by simpa using hj) (by simpa using hz)
theorem ixf_some {α : Type} {p : α → Bool} {l : List α} {k : Nat} {x : α} (h : l[k]? = some x) (hp : p x = true) (ha : ∀ (j : Nat) (y : α), j < k → l[j]? = some y → p y = false) : ixf p l = (k : Int) := by
 have := ixr_some l 0 k x h hp ha; simpa [ixf] using this
theorem ixf_none {α : Type} {p : α → Bool} {l : List α} (ha : ∀ (j : Nat) (y : α), j < l.length → l[j]? = some y → p y = false) : ixf p l = -1 := ixr_none l 0 ha
theorem ixf_cases {α : Type} (p : α → Bool) : ∀ (l : List α), (ixf p l = -1 ∧ ∀ x ∈ l, p x = false) ∨ ∃ (k : Nat) (x : α), ixf p l = k ∧ l[k]? = some x ∧ p x = true := by
 intro l
 by_cases h : ∀ x ∈ l, p x = false
 ·left; exact ⟨ixf_none fun j y hj hy => h y (List.mem_of_getElem? hy), h⟩
 ·right
  have : ∃ k x, l[k]? = some x ∧ p x = true ∧ ∀ (j : Nat) (y : α), j < k → l[j]? = some y → p y = false := by
   induction l with
   | nil => simp at h
   | cons y l ih =>
    by_cases hy : p y = true
    ·exact ⟨0, y, by simp, hy, fun j z hj => by omega⟩
    ·obtain ⟨k, x, h1, h2, h3⟩ := ih (by intro h'; apply h; intro x hx; rcases List.mem_cons.1 hx with rfl | hx <;> first | exact h' _ hx | simpa using hy)
     refine ⟨k + 1, x, by simpa using h1, h2, fun j z hj hz => ?_⟩
     cases j with
     | zero => simp at hz; subst hz; simpa using hy
     | succ j => exact h3 j z (by omega) (by simpa using hz)
  obtain ⟨k, x, h1, h2, h3⟩ := this
  exact ⟨k, x, ixf_some h1 h2 h3, h1, h2⟩
def DiskM.write (D : DiskM) (b : Int) (x : List UInt8) : DiskM × Int × Int :=
 if ¬ D.has b then (D, 0, 1)
 else if x.length ≠ 128 then (D, 0, 1)
 else if ixf (fun m : SentM => m.blk == b) D.queue ≥ 0 then (D, 0, 21)
 else if 64 ≤ D.queue.length then (D, 0, 3)
 else ({ D with queue := D.queue ++ [⟨D.last + 1, b, x⟩], last := D.last + 1 }, D.last + 1, 0)
theorem fm_set1 (hs : List Hd) (j : Nat) (p : Hd) : (hs.flatMap hd1).set j (.slice p.1 128 p.2) = (hs.set j p).flatMap hd1 := by
 have e : ∀ l : List Hd, l.flatMap hd1 = l.map fun p => .slice p.1 128 p.2 := fun l => by induction l with | nil => rfl | cons x l ih => simp [hd1, ih]
 rw [e, e, List.map_set]
theorem BRel.set {s : TH} {τ : Nat} {hs : List Hd} {bs : List (List UInt8)} (h : BRel s τ hs bs) (j : Nat) {p : Hd} {b : List UInt8} (hp : ByAt s τ p b) : BRel s τ (hs.set j p) (bs.set j b) := by
 refine ⟨by simp [h.len], fun i x y hx hy => ?_⟩
 rw [List.getElem?_set] at hx hy
 by_cases hij : j = i
 ·subst hij
  rw [if_pos rfl] at hx hy
  split at hx
  ·split at hy
   ·cases hx; cases hy; exact hp
   ·cases hy
  ·cases hx
 ·rw [if_neg hij] at hx hy; exact h.at_ i x y hx hy
theorem QRel.erase {s : TH} {τ : Nat} {qs : List (Int × Int × Hd)} {q : List SentM} (h : QRel s τ qs q) (i : Nat) : QRel s τ (qs.eraseIdx i) (q.eraseIdx i) := by
 refine ⟨by simp [List.length_eraseIdx, h.len], fun j y n hy hn => ?_⟩
 rw [List.getElem?_eraseIdx] at hy hn
 split at hy
 ·rename_i hj; rw [if_pos hj] at hn; exact h.at_ j y n hy hn
 ·rename_i hj; rw [if_neg hj] at hn; exact h.at_ (j + 1) y n hy hn
theorem QRel.snoc {s : TH} {τ : Nat} {qs : List (Int × Int × Hd)} {q : List SentM} (h : QRel s τ qs q) {x : Int × Int × Hd} {m : SentM} (hx : x.1 = m.id ∧ x.2.1 = m.blk ∧ ByAt s τ x.2.2 m.by_) : QRel s τ (qs ++ [x]) (q ++ [m]) := by
 refine ⟨by simp [h.len], fun i y n hy hn => ?_⟩
 by_cases hi : i < q.length
 ·rw [List.getElem?_append_left (by rw [h.len]; exact hi)] at hy
  rw [List.getElem?_append_left hi] at hn
  exact h.at_ i y n hy hn
 ·rw [List.getElem?_append_right (by rw [h.len]; omega)] at hy
  rw [List.getElem?_append_right (by omega)] at hn
  rw [h.len] at hy
  cases hd : i - q.length with
  | zero => rw [hd] at hy hn; simp at hy hn; subst hy hn; exact hx
  | succ k => rw [hd] at hy; simp at hy
def FailsOk (fm : List (Int × Value)) (f : Int → Int) : Prop := ∀ b, (mget b fm).getD (.int .i64 0) = .int .i64 (f b)
structure DiskP (s : TH) (d T : Nat) (D : DiskM) (pa : Option Addr) (pc : Nat) (qa : Option Addr) (qc : Nat) (hs : List Hd) (qs : List (Int × Int × Hd)) (fr : Nat) (fm : List (Int × Value)) : Prop where
 blk : Blk s d [.slice pa D.blocks.length pc, .slice qa D.queue.length qc, .map (some fr), .int .i64 D.last] 192 T
 rows : Own s pa D.blocks.length pc 85 1 (hs.flatMap hd1) (T + 1)
 brel : BRel s (T + 3) hs D.blocks
 que : Own s qa D.queue.length qc 328 3 (qs.flatMap qv) (T + 2)
 qrel : QRel s (T + 3) qs D.queue
 fails : MapK (Value.int .i64) s fr fm (T + 4)
 fok : FailsOk fm D.fails
 nb : 1 ≤ D.blocks.length ∧ D.blocks.length ≤ 2048
 nq : D.queue.length ≤ 64
 qin : ∀ m ∈ D.queue, 0 ≤ m.blk ∧ m.blk < D.blocks.length
def Disk (s : TH) (d T : Nat) (D : DiskM) : Prop := ∃ pa pc qa qc hs qs fr fm, DiskP s d T D pa pc qa qc hs qs fr fm
theorem DiskP.mv {s s' : TH} {d T : Nat} {D : DiskM} {pa : Option Addr} {pc : Nat} {qa : Option Addr} {qc : Nat} {hs : List Hd} {qs : List (Int × Int × Hd)} {fr : Nat} {fm : List (Int × Value)} {C : Nat → Prop}
  (h : DiskP s d T D pa pc qa qc hs qs fr fm) (c : Chg C s s') (hn : ∀ j, j < s.h.size → T ≤ s.g j → s.g j < T + 10 → ¬ C j) : DiskP s' d T D pa pc qa qc hs qs fr fm :=
 ⟨h.blk.mv c (of_rng hn (Nat.le_refl _) (by omega) d h.blk.lt h.blk.tag), h.rows.mv c (of_rng hn (by omega) (by omega)), h.brel.mv c (of_rng hn (by omega) (by omega)), h.que.mv c (of_rng hn (by omega) (by omega)), h.qrel.mv c (of_rng hn (by omega) (by omega)),
  h.fails.mv c (of_rng hn (by omega) (by omega) fr h.fails.lt h.fails.tag), h.fok, h.nb, h.nq, h.qin⟩
theorem Disk.mv {s s' : TH} {d T : Nat} {D : DiskM} {C : Nat → Prop} (h : Disk s d T D) (c : Chg C s s') (hn : ∀ j, j < s.h.size → T ≤ s.g j → s.g j < T + 10 → ¬ C j) : Disk s' d T D := by
 obtain ⟨pa, pc, qa, qc, hs, qs, fr, fm, h⟩ := h
 exact ⟨pa, pc, qa, qc, hs, qs, fr, fm, h.mv c hn⟩
end Go.Proofs.YtklppdodadkcnaaGreat.E
namespace Go.Proofs.YtklppdodadkcnaaGreat.E
open Go Go.Proofs
set_option linter.unusedVariables false
set_option maxRecDepth 100000
def F5 (aL aM aN : Value) (gO : Option Addr) (aH hq : Nat) (R : zE) (H : Heap) : Prop :=
 al H (.cells #[aL, aM, aN] 23) fun c H2 => zl3 H2 c fun v3 v4 v5 => HCalls Tryz.prog 7 #[.agg #[v3, v4, v5]] H2 (Sp.retK (fun v6 H7 => dT 3 v6 fun v8 v9 gP => dPtr v8 fun v => dA 3 v9 fun gQ gR gS => dBl gP fun gT => zs3 H7 c gQ gR gS fun C => sB (!gT) (R (.returned (.bool false)) C) (nz v fun gW => ld C (Addr.add gW 1) fun gX => dPtr gX fun gY => zl3 C c fun gZ g0 g1 => HCalls Tryz.prog 18 #[.pointer gY, .agg #[gZ, g0, g1]] C (Sp.retK (fun g2 aq => dT 3 g2 fun g3 g4 g5 => dInt .i64 g3 fun aI => dInt .i64 g4 fun aJ => dInt .i64 g5 fun hr => zl3 aq c fun g6 g7 g8 => HCalls Tryz.prog 11 #[.pointer v, .agg #[g6, g7, g8]] aq (Sp.retK (fun g9 aK => dT 2 g9 fun ha hb => dInt .i64 ha fun u => dBl hb fun hc => sB (u == 0) (R (.returned (.bool hc)) aK) (jn (α := VFH 0) (fun D => ∀ _ _ _ _ _ _ _ _ _ _ _ _ _ _ _ _ _ _ _ _ _ _ _ _ _ _ _ _ _ _ _ _ _ _ _ _ _ _ _ _ _ _ _ _ _ _ _ _ _ _ _ _ _ _ _ _ _ _ : Value, nz v fun aO => ld D (Addr.add aO 1) fun aP => dPtr aP fun aQ => zl3 D c fun aR aS aT => HCalls Tryz.prog 19 #[.pointer aQ, .agg #[aR, aS, aT], .int .i64 u, .slice none 0 0] D (Sp.retK (fun aU y => dT 2 aU fun aV aW => dInt .i64 aV fun hd => dInt .i64 aW fun aX => sB (aX != 0) (R (.returned (.bool false)) y) (nz v fun aY => ld y (Addr.add aY 1) fun aZ => dPtr aZ fun a0 => zl3 y c fun a1 a2 a3 => HCalls Tryz.prog 18 #[.pointer a0, .agg #[a1, a2, a3]] y (Sp.retK (fun a4 z => dT 3 a4 fun a5 a6 a7 => dInt .i64 a5 fun ar => dInt .i64 a6 fun au => dInt .i64 a7 fun av => nz v fun aw => ld z
 (Addr.add aw 1) fun a8 => dPtr a8 fun E => zl3 z c fun F G I => (HCalls Tryz.prog 8 #[.pointer E, .agg #[F, G, I], .int .i64 u] z (Sp.retK (fun a9 ba => dT 2 a9 fun bb bc => dA 9 bb fun bd be bf bg bh bi bj bk bl => dInt .i64 bc fun bm => al ba (.cells #[.int .i64 0, .int .i64 0, .int .i64 0, .int .i64 0, .int .i64 0, .int .i64 0, .int .i64 0, .int .i64 0, .int .i64 0] 26) fun d bn => zs9 bn d bd be bf bg bh bi bj bk bl fun p => sB (av == 0) (sB (bm == 0) (sB (ar == aI) (sB (au == aJ) (zl9 p d fun bw bx bz bA bB bC bD bE bF => semW Tryz.prog (eqSem BinOp.eql 26 (Operand.tmp 151) (Operand.tmp 152) (.agg #[bw, bx, bz, bA, bB, bC, bD, bE, bF]) (.agg #[.int .i64 0, .int .i64 0, .int .i64 0, .int .i64 0, .int .i64 0, .int .i64 0, .int .i64 0, .int .i64 0, .int .i64 0])) (pnR R) p fun bG bH => dBl bG fun bI => R (.returned (.bool bI)) bH) (R (.returned (.bool false)) p)) (R (.returned (.bool false)) p)) (R (.returned (.bool false)) p)) (R (.returned (.bool false)) p)) nopR)) ∧ al z (.cells #[.int .i64 0, .int .i64 0, .int .i64 0, .int .i64 0, .int .i64 0, .int .i64 0, .int .i64 0, .int .i64 0, .int .i64 0] 26) fun e A => (zl3 A c fun bJ bK bL => (Value.agg #[bJ, bK, bL]) = (Value.agg #[F, G, I])) ∧ (ld A (Addr.add aw 1) fun bM => dPtr bM fun bN => (Value.pointer bN) = (Value.pointer E)) ∧ HCalls Tryz.prog 8 #[.pointer E, .agg #[F, G, I], .int .i64 u] A (Sp.retK (fun bO bP => dT 2 bO fun bQ bR => dA 9 bQ fun bS bT bU bV bW bX bY bZ b0 => dInt .i64 bR fun b1 => zs9 bP e bS bT bU bV
 bW bX bY bZ b0 fun q => sB (av == 0) (sB (b1 == 0) (sB (ar == aI) (sB (au == aJ) (zl9 q e fun ca cb cc cd ce cf cg ch ci => semW Tryz.prog (eqSem BinOp.eql 26 (Operand.tmp 151) (Operand.tmp 152) (.agg #[ca, cb, cc, cd, ce, cf, cg, ch, ci]) (.agg #[.int .i64 0, .int .i64 0, .int .i64 0, .int .i64 0, .int .i64 0, .int .i64 0, .int .i64 0, .int .i64 0, .int .i64 0])) (pnR R) q fun cj ck => dBl cj fun cl => R (.returned (.bool cl)) ck) (R (.returned (.bool false)) q)) (R (.returned (.bool false)) q)) (R (.returned (.bool false)) q)) (R (.returned (.bool false)) q)) nopR)) nopR))) nopR)) fun ax => ∃ J : List Value → Heap → Prop, ∃ ay : List Value → Heap → Nat, (J ([.int .i64 0]) aK) ∧ ∀ w : Int, ∀ _ _ _ _ _ _ _ _ _ _ _ _ _ _ _ _ _ _ _ _ _ _ _ _ _ _ _ _ _ _ _ _ _ _ _ _ _ _ _ _ _ _ _ _ _ _ _ _ _ _ _ _ _ _ _ : Value, ∀ t : Heap, (J ([.int .i64 w]) t) → sB (decide (w < (↑aH : Int))) (jn (α := VFH 0) (fun az => ∀ _ _ _ _ _ _ _ _ _ _ _ _ _ _ _ _ _ _ _ _ _ _ _ _ _ _ _ _ _ _ _ _ _ _ _ _ _ _ _ _ _ _ _ _ _ _ _ _ _ _ _ _ _ : Value, wr .i64 (w + 1) fun aA => (J ([.int .i64 aA]) az) ∧ (ay [.int .i64 aA] az) < (ay [.int .i64 w] t)) fun x => nz gO fun cm => ask (0 ≤ w ∧ w < (↑aH : Int)) (ld t (Addr.add cm (Int.toNat w * 1)) fun cn => dInt .i64 cn fun aB => sB (decide (w > 20)) (ax t) (nz v fun aC => ld t (Addr.add aC 1) fun co => dPtr co fun K => zl3 t c fun L M N => (HCalls Tryz.prog 8 #[.pointer K, .agg #[L, M, N], .int .i64 u] t (Sp.retK (fun cp cq => dT 2 cp fun cr cs => dA 9 cr fun ct cu
 cv cw cx cy cz cA cB => dInt .i64 cs fun cC => al cq (.cells #[.int .i64 0, .int .i64 0, .int .i64 0, .int .i64 0, .int .i64 0, .int .i64 0, .int .i64 0, .int .i64 0, .int .i64 0] 26) fun a cD => zs9 cD a ct cu cv cw cx cy cz cA cB fun j => sB (cC != 0) (R (.returned (.bool false)) j) (nz v fun aD => ld j (Addr.add aD 1) fun cM => dPtr cM fun O => zl3 j c fun P Q S => zl9 j a fun T U V W X Y Z aa ab => wr .u64 aB fun cN => ask ((4164 : Int) ≠ (0 : Int)) (nm (Int.tmod cN 4164) fun cO => wr .i64 cO fun aE => (HCalls Tryz.prog 13 #[.pointer O, .agg #[P, Q, S], .int .i64 u, .agg #[T, U, V, W, X, Y, Z, aa, ab], .int .i64 aE] j (Sp.retK (fun cP cQ => dT 4 cP fun cR cS cT cU => dInt .i64 cR fun he => dA 9 cS fun cV cW cX cY cZ c0 c1 c2 c3 => dSl cT fun c4 c5 c6 => dInt .i64 cU fun c7 => al cQ (.cells #[.int .i64 0, .int .i64 0, .int .i64 0, .int .i64 0, .int .i64 0, .int .i64 0, .int .i64 0, .int .i64 0, .int .i64 0] 26) fun f c8 => zs9 c8 f cV cW cX cY cZ c0 c1 c2 c3 fun l => sB (c7 == 0) (nz v fun dh => ld l (Addr.add dh 1) fun di => dPtr di fun dj => zl3 l c fun dk dl dm => zl9 l f fun dn dp dq dr ds dt du dv dw => HCalls Tryz.prog 9 #[.pointer dj, .agg #[dk, dl, dm], .int .i64 u, .agg #[dn, dp, dq, dr, ds, dt, du, dv, dw], .slice c4 c5 c6] l (Sp.retK (fun dx dy => dT 2 dx fun dz dB => dInt .i64 dz fun hf => dInt .i64 dB fun hg => x dy) nopR)) (x l)) nopR)) ∧ al j (.cells #[.int .i64 0, .int .i64 0, .int .i64 0, .int .i64 0, .int .i64 0, .int .i64 0, .int .i64 0, .int .i64 0,
 .int .i64 0] 26) fun g r => (zl9 r a fun dC dD dE dF dG dH dI dJ dK => (Value.agg #[dC, dD, dE, dF, dG, dH, dI, dJ, dK]) = (Value.agg #[T, U, V, W, X, Y, Z, aa, ab])) ∧ (zl3 r c fun dL dM dN => (Value.agg #[dL, dM, dN]) = (Value.agg #[P, Q, S])) ∧ (ld r (Addr.add aD 1) fun dO => dPtr dO fun dP => (Value.pointer dP) = (Value.pointer O)) ∧ HCalls Tryz.prog 13 #[.pointer O, .agg #[P, Q, S], .int .i64 u, .agg #[T, U, V, W, X, Y, Z, aa, ab], .int .i64 aE] r (Sp.retK (fun dQ dR => dT 4 dQ fun dS dU dV dW => dInt .i64 dS fun hh => dA 9 dU fun dX dY dZ d0 d1 d2 d3 d4 d5 => dSl dV fun d6 d7 d8 => dInt .i64 dW fun d9 => zs9 dR g dX dY dZ d0 d1 d2 d3 d4 d5 fun m => sB (d9 == 0) (nz v fun ei => ld m (Addr.add ei 1) fun ej => dPtr ej fun ek => zl3 m c fun el em en => zl9 m g fun eo ep eq er es et eu ev ew => HCalls Tryz.prog 9 #[.pointer ek, .agg #[el, em, en], .int .i64 u, .agg #[eo, ep, eq, er, es, et, eu, ev, ew], .slice d6 d7 d8] m (Sp.retK (fun ex ey => dT 2 ex fun ez eA => dInt .i64 ez fun hi => dInt .i64 eA fun hj => x ey) nopR)) (x m)) nopR)))) nopR)) ∧ al t (.cells #[.int .i64 0, .int .i64 0, .int .i64 0, .int .i64 0, .int .i64 0, .int .i64 0, .int .i64 0, .int .i64 0, .int .i64 0] 26) fun b B => (zl3 B c fun eB eC eD => (Value.agg #[eB, eC, eD]) = (Value.agg #[L, M, N])) ∧ (ld B (Addr.add aC 1) fun eE => dPtr eE fun eF => (Value.pointer eF) = (Value.pointer K)) ∧ HCalls Tryz.prog 8 #[.pointer K, .agg #[L, M, N], .int .i64 u] B (Sp.retK (fun eG eH => dT 2 eG fun eI eJ => dA 9
 eI fun eK eL eM eN eO eP eQ eR eS => dInt .i64 eJ fun eT => zs9 eH b eK eL eM eN eO eP eQ eR eS fun k => sB (eT != 0) (R (.returned (.bool false)) k) (nz v fun aF => ld k (Addr.add aF 1) fun e2 => dPtr e2 fun ac => zl3 k c fun ad ae af => zl9 k b fun ag ah ai aj ak am an ao ap => wr .u64 aB fun e3 => ask ((4164 : Int) ≠ (0 : Int)) (nm (Int.tmod e3 4164) fun e4 => wr .i64 e4 fun aG => (HCalls Tryz.prog 13 #[.pointer ac, .agg #[ad, ae, af], .int .i64 u, .agg #[ag, ah, ai, aj, ak, am, an, ao, ap], .int .i64 aG] k (Sp.retK (fun e5 e6 => dT 4 e5 fun e7 e8 e9 fa => dInt .i64 e7 fun hk => dA 9 e8 fun fb fc fd fe ff fg fh fi fj => dSl e9 fun fk fl fm => dInt .i64 fa fun fn => al e6 (.cells #[.int .i64 0, .int .i64 0, .int .i64 0, .int .i64 0, .int .i64 0, .int .i64 0, .int .i64 0, .int .i64 0, .int .i64 0] 26) fun h fo => zs9 fo h fb fc fd fe ff fg fh fi fj fun n => sB (fn == 0) (nz v fun fx => ld n (Addr.add fx 1) fun fy => dPtr fy fun fz => zl3 n c fun fA fB fC => zl9 n h fun fD fE fF fG fH fI fJ fK fL => HCalls Tryz.prog 9 #[.pointer fz, .agg #[fA, fB, fC], .int .i64 u, .agg #[fD, fE, fF, fG, fH, fI, fJ, fK, fL], .slice fk fl fm] n (Sp.retK (fun fM fN => dT 2 fM fun fO fP => dInt .i64 fO fun hl => dInt .i64 fP fun hm => x fN) nopR)) (x n)) nopR)) ∧ al k (.cells #[.int .i64 0, .int .i64 0, .int .i64 0, .int .i64 0, .int .i64 0, .int .i64 0, .int .i64 0, .int .i64 0, .int .i64 0] 26) fun i s => (zl9 s b fun fQ fR fS fT fU fV fW fX fY => (Value.agg #[fQ, fR, fS, fT, fU, fV, fW, fX,
 fY]) = (Value.agg #[ag, ah, ai, aj, ak, am, an, ao, ap])) ∧ (zl3 s c fun fZ f0 f1 => (Value.agg #[fZ, f0, f1]) = (Value.agg #[ad, ae, af])) ∧ (ld s (Addr.add aF 1) fun f2 => dPtr f2 fun f3 => (Value.pointer f3) = (Value.pointer ac)) ∧ HCalls Tryz.prog 13 #[.pointer ac, .agg #[ad, ae, af], .int .i64 u, .agg #[ag, ah, ai, aj, ak, am, an, ao, ap], .int .i64 aG] s (Sp.retK (fun f4 f5 => dT 4 f4 fun f6 f7 f8 f9 => dInt .i64 f6 fun hn => dA 9 f7 fun ga gb gc gd ge gf gg gh gi => dSl f8 fun gj gk gl => dInt .i64 f9 fun gm => zs9 f5 i ga gb gc gd ge gf gg gh gi fun o => sB (gm == 0) (nz v fun gv => ld o (Addr.add gv 1) fun gw => dPtr gw fun gx => zl3 o c fun gy gz gA => zl9 o i fun gB gC gD gE gF gG gH gI gJ => HCalls Tryz.prog 9 #[.pointer gx, .agg #[gy, gz, gA], .int .i64 u, .agg #[gB, gC, gD, gE, gF, gG, gH, gI, gJ], .slice gj gk gl] o (Sp.retK (fun gK gL => dT 2 gK fun gM gN => dInt .i64 gM fun ho => dInt .i64 gN fun hp => x gL) nopR)) (x o)) nopR)))) nopR)))) (ax t))) (pnR R))) nopR))) (pnR R))
theorem F5_calls {R : zE} {H : Heap} (a b c : Value) (d : Option Addr) (e f : Nat) (h : F5 a b c d e f R H) : HCalls Tryz.prog 5 #[.agg #[a, b, c], .slice d e f] H R :=
 calls_by (.node none .leaf (.node none .leaf (.node none .leaf (.node none .leaf (.node none .leaf (.node none .leaf (.node (some ⟨[], [4, 11, 12, 13, 14, 15, 16, 17, 52, 53, 54, 55, 56, 57, 58, 59, 60, 61, 62, 63, 64, 65, 66, 67, 68, 69, 70, 71, 72, 73, 74, 75, 76, 77, 78, 79, 80, 81, 82, 83, 84, 85, 86, 87, 88, 89, 90, 91, 92, 93, 94, 95, 96, 97, 98, 99, 100, 101]⟩) (.node none .leaf (.node none (.node (some ⟨[(54, 3)], [4, 11, 12, 13, 14, 15, 16, 17, 55, 56, 57, 58, 59, 60, 61, 62, 63, 64, 65, 66, 67, 68, 69, 70, 71, 72, 73, 74, 75, 76, 77, 78, 79, 80, 81, 82, 83, 84, 85, 86, 87, 88, 89, 90, 91, 92, 93, 94, 95, 96, 97, 98, 99, 100, 101]⟩) (.node none .leaf (.node none .leaf (.node (some ⟨[], [4, 11, 12, 13, 14, 15, 16, 17, 56, 57, 58, 59, 60, 61, 62, 63, 64, 65, 66, 67, 68, 69, 70, 71, 72, 73, 74, 75, 76, 77, 78, 79, 80, 81, 82, 83, 84, 85, 86, 87, 88, 89, 90, 91, 92, 93, 94, 95, 96, 97, 98, 99, 100]⟩) .leaf .leaf))) .leaf) .leaf)) .leaf))))))) Tryz.func5 rfl (by kernel_rfl) h
def F6 (s t u : Value) (r x2 : Int) (R : zE) (H : Heap) : Prop :=
 al H (.cells #[s, t, u] 23) fun c H2 => al H2 (.cells #[.int .i32 0, .int .u32 0, .pointer none, .pointer none, .pointer none, .map none, .bool false, .bool false, .int .i64 0, .map none] 76) fun r3 H4 => al H4 (.cells #[.pointer none, .pointer (some ⟨r3, 0, none⟩)] 36) fun r5 H6 => ∃ v : List Value → Heap → Prop, ∃ I8 : List Value → Heap → Nat, (v ([.int .i64 0]) H6) ∧ ∀ m : Int, ∀ _ _ _ _ _ _ _ _ _ _ _ _ _ _ _ _ _ _ _ _ _ _ _ _ _ _ _ _ _ _ _ _ _ _ _ _ _ _ _ _ _ _ _ _ _ _ _ _ _ _ _ _ _ _ _ _ _ _ _ _ _ _ _ _ _ _ _ _ _ _ _ _ _ _ _ _ _ _ _ _ _ _ _ _ : Value, ∀ f : Heap, (v ([.int .i64 m]) f) → sB (decide (m < 2)) (ask (0 ≤ m ∧ m < (2 : Int)) (ld f (Addr.add ⟨r5, 0, none⟩ (Int.toNat m * 1)) fun bd => dPtr bd fun g => zl3 f c fun be bf w => HCalls Tryz.prog 8 #[.pointer g, .agg #[be, bf, w], .int .i64 r] f (Sp.retK (fun x y => dT 2 x fun z A => dA 9 z fun B C D E F G I J K => dInt .i64 A fun L => al y (.cells #[.int .i64 0, .int .i64 0, .int .i64 0, .int .i64 0, .int .i64 0, .int .i64 0, .int .i64 0, .int .i64 0, .int .i64 0] 26) fun a M => zs9 M a B C D E F G I J K fun h => zl3 h c fun W X Y => HCalls Tryz.prog 9 #[.pointer g, .agg #[W, X, Y], .int .i64 r, .agg #[.int .i64 0, .int .i64 0, .int .i64 0, .int .i64 0, .int .i64 0, .int .i64 0, .int .i64 0, .int .i64 0, .int .i64 0], .slice none 0 0] h (Sp.retK (fun Z i => dT 2 Z fun aa ab => dInt .i64 aa fun bg => dInt .i64 ab fun ac => zl3 i c fun ad ae af => HCalls Tryz.prog 15 #[.pointer g, .agg #[ad, ae, af], .agg #[.int .i64
 0, .int .i64 0, .int .i64 0, .int .i64 0, .int .i64 0, .int .i64 0, .int .i64 0, .int .i64 0, .int .i64 0], .int .i64 x2] i (Sp.retK (fun ag j => dT 2 ag fun ah ai => dInt .i64 ah fun bh => dInt .i64 ai fun aj => zl3 j c fun ak am an => HCalls Tryz.prog 16 #[.pointer g, .agg #[ak, am, an], .agg #[.int .i64 0, .int .i64 0, .int .i64 0, .int .i64 0, .int .i64 0, .int .i64 0, .int .i64 0, .int .i64 0, .int .i64 0]] j (Sp.retK (fun ao k => dT 2 ao fun ap aq => dSl ap fun bi bj bk => dInt .i64 aq fun ar => zl3 k c fun au av aw => HCalls Tryz.prog 13 #[.pointer g, .agg #[au, av, aw], .int .i64 r, .agg #[.int .i64 0, .int .i64 0, .int .i64 0, .int .i64 0, .int .i64 0, .int .i64 0, .int .i64 0, .int .i64 0, .int .i64 0], .int .i64 x2] k (Sp.retK (fun ax ay => dT 4 ax fun az aA aB aC => dInt .i64 az fun bl => dA 9 aA fun aD aE aF aG aH aI aJ aK aL => dSl aB fun bm bn bo => dInt .i64 aC fun aM => al ay (.cells #[.int .i64 0, .int .i64 0, .int .i64 0, .int .i64 0, .int .i64 0, .int .i64 0, .int .i64 0, .int .i64 0, .int .i64 0] 26) fun b aN => zs9 aN b aD aE aF aG aH aI aJ aK aL fun l => zl3 l c fun aW aX aY => HCalls Tryz.prog 19 #[.pointer g, .agg #[aW, aX, aY], .int .i64 r, .slice none 0 0] l (Sp.retK (fun aZ a0 => dT 2 aZ fun a1 a2 => dInt .i64 a1 fun bp => dInt .i64 a2 fun a3 => al a0 (.cells #[.int .i64 L, .int .i64 ac, .int .i64 aj, .int .i64 ar, .int .i64 aM, .int .i64 a3] 32) fun a4 a5 => ∃ n : List Value → Heap → Prop, ∃ o : List Value → Heap → Nat, (n ([.int .i64 0]) a5) ∧
 ∀ e : Int, ∀ _ _ _ _ _ _ _ _ : Value, ∀ d : Heap, (n ([.int .i64 e]) d) → sB (decide (e < 6)) (ask (0 ≤ e ∧ e < (6 : Int)) (ld d (Addr.add ⟨a4, 0, none⟩ (Int.toNat e * 1)) fun a6 => dInt .i64 a6 fun a7 => sB (a7 != 2) (R (.returned (.bool false)) d) (wr .i64 (e + 1) fun p => (n ([.int .i64 p]) d) ∧ (o [.int .i64 p] d) < (o [.int .i64 e] d)))) (wr .i64 (m + 1) fun q => (v ([.int .i64 q]) d) ∧ (I8 [.int .i64 q] d) < (I8 [.int .i64 m] f))) (pnR R))) (pnR R))) (pnR R))) (pnR R))) (pnR R))) (pnR R)))) (al f (.cells #[.int .i64 0, .int .i64 5] 3) fun a8 a9 => HCalls Tryz.prog 5 #[.agg #[.int .i64 1, .int .i64 32, .int .i64 8], .slice (some ⟨a8, 0, none⟩) 2 2] a9 (Sp.retK (fun ba bb => dBl ba fun bc => R (.returned (.bool bc)) bb) (pnR R)))
theorem F6_calls {R : zE} {H : Heap} (a b c : Value) (d e : Int) (h : F6 a b c d e R H) : HCalls Tryz.prog 6 #[.agg #[a, b, c], .int .i64 d, .int .i64 e] H R :=
 calls_by (.node none .leaf (.node none (.node none .leaf (.node none (.node (some ⟨[(29, 3)], [6, 8, 9, 10, 11, 12, 13, 14, 15, 16, 17, 18, 19, 20, 21, 22, 24, 30, 31, 32, 33, 34, 35, 36, 37, 38, 39, 40, 41, 42, 43, 44, 45, 46, 47, 48, 49, 50, 51, 52, 53, 54, 55, 56, 57, 58, 59, 60, 61, 62, 63, 64, 65, 66, 67, 68, 69, 70, 71, 72, 73, 74, 75, 76, 77, 78, 79, 80, 81, 82, 83, 84, 85, 86, 87, 88, 89, 90, 91, 92, 93, 94, 95, 96]⟩) (.node none .leaf (.node none .leaf (.node none (.node none (.node none .leaf (.node none .leaf (.node none .leaf (.node none .leaf (.node none .leaf (.node none .leaf (.node none .leaf (.node none .leaf (.node none (.node (some ⟨[(89, 3)], [6, 24, 90, 91, 92, 93, 94, 95]⟩) .leaf .leaf) .leaf))))))))) .leaf) .leaf))) .leaf) .leaf)) .leaf)) Tryz.func6 rfl (by kernel_rfl) h
def F7 (n o p : Value) (R : zE) (H : Heap) : Prop :=
 al H (.cells #[n, o, p] 23) fun b H2 => al H2 (.cells #[.int .i64 0, .int .i64 0, .int .i64 0] 23) fun a l => zl3 l b fun v5 v6 v7 => HCalls Tryz.prog 20 #[.agg #[v5, v6, v7]] l (Sp.retK (fun v8 q => dT 2 v8 fun r s => dSl r fun t u v => dInt .i64 s fun w => jn (α := VFH 1) (fun x y => ∀ _ _ _ _ _ _ _ _ : Value, dSl x fun z A B => HCalls Tryz.prog 21 #[.slice z A B, .int .i64 64] y (Sp.retK (fun C c => dT 2 C fun D E => dPtr D fun d => dBl E fun F => zl3 c b fun e f g => sB F (((zl3 c b fun G I J => (Value.agg #[G, I, J]) = (Value.agg #[e, f, g])) ∧ zs3 c a e f g fun h => zl3 h a fun M N O => R (.returned (.tuple #[.pointer d, .agg #[M, N, O], .bool !Option.isNone d])) h) ∧ zs3 c a e f g fun i => zl3 i a fun S T U => R (.returned (.tuple #[.pointer d, .agg #[S, T, U], .bool !Option.isNone d])) i) (zs3 c a e f g fun j => zl3 j a fun X Y Z => R (.returned (.tuple #[.pointer d, .agg #[X, Y, Z], .bool false])) j)) (pnR R))) fun m => sB (w != 0) (zs3 q b (.int .i64 1) (.int .i64 8) (.int .i64 4) fun k => zl3 k b fun ac ad ae => HCalls Tryz.prog 20 #[.agg #[ac, ad, ae]] k (Sp.retK (fun af ag => dT 2 af fun ah ai => dSl ah fun aj ak am => dInt .i64 ai fun an => m (.slice aj ak am) ag) (pnR R))) (m (.slice t u v) q)) (pnR R))
theorem F7_calls {R : zE} {H : Heap} (a b c : Value) (h : F7 a b c R H) : HCalls Tryz.prog 7 #[.agg #[a, b, c]] H R :=
 calls_by (.node none .leaf (.node none .leaf (.node (some ⟨[(5, 49)], [14, 15, 16, 17, 18, 19, 20, 21]⟩) .leaf .leaf))) Tryz.func7 rfl (by kernel_rfl) h
def F8 (p : Option Addr) (l m n : Value) (x2 : Int) (R : zE) (H : Heap) : Prop :=
 al H (.cells #[l, m, n] 23) fun o H2 => al H2 (.cells #[.int .i64 0, .int .i64 0, .int .i64 0, .int .i64 0, .int .i64 0, .int .i64 0, .int .i64 0, .int .i64 0, .int .i64 0] 26) fun a h => zl3 h o fun v5 v6 v7 => HCalls Tryz.prog 22 #[.pointer p, .agg #[v5, v6, v7], .int .i64 x2] h (Sp.retK (fun v8 q => dT 3 v8 fun r s t => dInt .i64 r fun u => dInt .i64 s fun e => dInt .i64 t fun i => sB (i != 0) (zs9 q a (.int .i64 0) (.int .i64 0) (.int .i64 0) (.int .i64 0) (.int .i64 0) (.int .i64 0) (.int .i64 0) (.int .i64 0) (.int .i64 0) fun b => zl9 b a fun D E F G I J K L M => R (.returned (.tuple #[.agg #[D, E, F, G, I, J, K, L, M], .int .i64 i])) b) (HCalls Tryz.prog 23 #[.pointer p, .int .i64 u] q (Sp.retK (fun N j => dT 2 N fun O P => dSl O fun Q aR f => dInt .i64 P fun k => sB (k != 0) (zs9 j a (.int .i64 0) (.int .i64 0) (.int .i64 0) (.int .i64 0) (.int .i64 0) (.int .i64 0) (.int .i64 0) (.int .i64 0) (.int .i64 0) fun c => zl9 c a fun aa ab ac ad ae af ag ah ai => R (.returned (.tuple #[.agg #[aa, ab, ac, ad, ae, af, ag, ah, ai], .int .i64 k])) c) (wr .i64 (e + 32) fun g => ask (0 ≤ e ∧ e ≤ g ∧ g ≤ (↑f : Int) ∧ (↑f : Int) ≤ (↑f : Int)) (HCalls Tryz.prog 24 #[.slice (slO Q 1 e (↑f : Int)) (Int.toNat g - Int.toNat e) (Int.toNat (↑f : Int) - Int.toNat e)] j (Sp.retK (fun aj ak => dT 2 aj fun am an => dA 9 am fun ao ap aq ar au av aw ax ay => dInt .i64 an fun az => zs9 ak a ao ap aq ar au av aw ax ay fun d => zl9 d a fun aI aJ aK aL aM aN aO aP aQ => R (.returned (.tuple
 #[.agg #[aI, aJ, aK, aL, aM, aN, aO, aP, aQ], .int .i64 az])) d) (pnR R))))) (pnR R)))) (pnR R))
theorem F8_calls {R : zE} {H : Heap} (d : Option Addr) (a b c : Value) (e : Int) (h : F8 d a b c e R H) : HCalls Tryz.prog 8 #[.pointer d, .agg #[a, b, c], .int .i64 e] H R :=
 calls_by .leaf Tryz.func8 rfl (by kernel_rfl) h
def F9 (t : Option Addr) (g h i : Value) (Z : Int) (j k l m n o p q r : Value) (u : Option Addr) (v w : Nat) (R : zE) (H : Heap) : Prop :=
 al H (.cells #[g, h, i] 23) fun s H2 => al H2 (.cells #[j, k, l, m, n, o, p, q, r] 26) fun b c => zl3 c s fun v5 v6 v7 => HCalls Tryz.prog 22 #[.pointer t, .agg #[v5, v6, v7], .int .i64 Z] c (Sp.retK (fun v8 a => dT 3 v8 fun x y z => dInt .i64 x fun A => dInt .i64 y fun B => dInt .i64 z fun d => sB (d != 0) (R (.returned (.tuple #[.int .i64 0, .int .i64 d])) a) (zl9 a b fun C D E F G I J K L => HCalls Tryz.prog 25 #[.agg #[C, D, E, F, G, I, J, K, L]] a (Sp.retK (fun M e => dT 2 M fun N O => dSl N fun P Q S => dInt .i64 O fun f => sB (f != 0) (R (.returned (.tuple #[.int .i64 0, .int .i64 f])) e) (HCalls Tryz.prog 26 #[.pointer t, .int .i64 A, .int .i64 B, .slice P Q S, .slice u v w] e (Sp.retK (fun T U => dT 2 T fun V W => dInt .i64 V fun X => dInt .i64 W fun Y => R (.returned (.tuple #[.int .i64 X, .int .i64 Y])) U) (pnR R)))) (pnR R)))) (pnR R))
theorem F9_calls {R : zE} {H : Heap} (q : Option Addr) (a b c : Value) (r : Int) (d e f g i j k l m : Value) (n : Option Addr) (o p : Nat) (h : F9 q a b c r d e f g i j k l m n o p R H) : HCalls Tryz.prog 9 #[.pointer q, .agg #[a, b, c], .int .i64 r, .agg #[d, e, f, g, i, j, k, l, m], .slice n o p] H R :=
 calls_by .leaf Tryz.func9 rfl (by kernel_rfl) h
def F11 (o : Option Addr) (l m n : Value) (R : zE) (H : Heap) : Prop :=
 al H (.cells #[l, m, n] 23) fun b d => nz o fun F => ld d (Addr.add F 1) fun G => dPtr G fun I => zl3 d b fun J K L => HCalls Tryz.prog 31 #[.pointer I, .agg #[J, K, L], .int .i64 0, .bool false] d (Sp.retK (fun M a => dT 3 M fun p q r => dInt .i64 p fun e => dInt .i64 q fun s => dInt .i64 r fun f => sB (f != 0) (R (.returned (.tuple #[.int .i64 0, .bool (f == 5)])) a) (nz o fun g => ld a (Addr.add g 1) fun t => dPtr t fun h => zl3 a b fun i j k => al a (.cells #[.int .i64 s] 3) fun u c => (zl3 c b fun v w x => (Value.agg #[v, w, x]) = (Value.agg #[i, j, k])) ∧ (ld c (Addr.add g 1) fun y => dPtr y fun z => (Value.pointer z) = (Value.pointer h)) ∧ HCalls Tryz.prog 9 #[.pointer h, .agg #[i, j, k], .int .i64 e, .agg #[.int .i64 1, .int .i64 1, .int .i64 0, .int .i64 0, .int .i64 0, .int .i64 0, .int .i64 0, .int .i64 0, .int .i64 0], .slice (some ⟨u, 0, none⟩) 1 1] c (Sp.retK (fun A B => dT 2 A fun C D => dInt .i64 C fun N => dInt .i64 D fun E => R (.returned (.tuple #[.int .i64 e, .bool (E == 0)])) B) nopR))) nopR)
theorem F11_calls {R : zE} {H : Heap} (d : Option Addr) (a b c : Value) (h : F11 d a b c R H) : HCalls Tryz.prog 11 #[.pointer d, .agg #[a, b, c]] H R :=
 calls_by .leaf Tryz.func11 rfl (by kernel_rfl) h
end Go.Proofs.YtklppdodadkcnaaGreat.E
