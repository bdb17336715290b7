/- Slices, in states with marks. -/
import Derived.Test.YtngploohhmfaiaaGreatLib4
import Derived.Laws.AppendOwn
import Derived.Laws.Rows
namespace Go.Proofs.YtngploohhmfaiaaGreat.E
open Go
set_option linter.unusedVariables false
set_option linter.unusedSimpArgs false

/-- only the block of a slice may have turned -/
abbrev OnA (a : Option Addr) (s s' : TH) : Prop := Chg (fun j => a.map (·.block) = some j) s s'
/-- the cells that a slice shows -/
def Sl (s : TH) (a : Option Addr) (l : List Value) (τ : Nat) : Prop :=
  l = [] ∨ ∃ g o, a = some ⟨g, o, none⟩ ∧ g < s.h.size ∧ s.g g = τ ∧ ∀ j v, l[j]? = some v → cellH s.h ⟨g, o + j, none⟩ = some v
theorem Sl.of {s : TH} {g o e τ : Nat} {L l : List Value} (h : Blk s g L e τ) (hl : (L.drop o).take l.length = l) : Sl s (some ⟨g, o, none⟩) l τ := by
  refine .inr ⟨g, o, rfl, h.lt, h.tag, fun j v hv => ?_⟩
  rw [h.cell]
  rw [← hl, List.getElem?_take] at hv
  split at hv
  · rw [List.getElem?_drop] at hv; exact hv
  · cases hv
/-- a slice of n elements of k cells, whose block is its own up to the slice's capacity -/
def Own (s : TH) (a : Option Addr) (n c e k : Nat) (xs : List Value) (τ : Nat) : Prop :=
  xs.length = n * k ∧ ((a = none ∧ n = 0 ∧ c = 0) ∨ ∃ g o L, a = some ⟨g, o, none⟩ ∧ Blk s g L e τ ∧ n ≤ c ∧ c ≤ maxLen ∧ o + c * k ≤ L.length ∧ (L.drop o).take (n * k) = xs)
section
variable {s s' : TH} {a : Option Addr} {n c e k : Nat} {xs l : List Value} {τ : Nat} {B : Nat → Prop}
theorem Own.nil (s : TH) (e k τ : Nat) : Own s none 0 0 e k [] τ := ⟨by simp, .inl ⟨rfl, rfl, rfl⟩⟩
theorem Own.mv (h : Own s a n c e k xs τ) (C : Chg B s s') (hn : ∀ j, j < s.h.size → s.g j = τ → ¬ B j) : Own s' a n c e k xs τ := by
  refine ⟨h.1, h.2.imp id ?_⟩
  rintro ⟨g, o, L, h1, h2, h3⟩
  exact ⟨g, o, L, h1, h2.mv C (hn g h2.lt h2.tag), h3⟩
theorem Sl.mv (h : Sl s a l τ) (C : Chg B s s') (hn : ∀ j, j < s.h.size → s.g j = τ → ¬ B j) : Sl s' a l τ := by
  refine h.imp id ?_
  rintro ⟨g, o, h1, h2, h3, h4⟩
  exact ⟨g, o, h1, Nat.lt_of_lt_of_le h2 C.size, (C.tag g h2).trans h3, fun j v hv => by rw [cellH_of (C.get g h2 (hn g h2 h3))]; exact h4 j v hv⟩
theorem Own.sl (h : Own s a n c e k xs τ) : Sl s a xs τ := by
  rcases h.2 with ⟨_, rfl, _⟩ | ⟨g, o, L, h1, h2, _, _, _, h3⟩
  · left; exact List.eq_nil_of_length_eq_zero (by simpa using h.1)
  · subst h1; exact Sl.of h2 (by rw [h.1]; exact h3)
theorem Own.le (h : Own s a n c e k xs τ) : n ≤ c := by
  rcases h.2 with ⟨_, rfl, rfl⟩ | ⟨g, o, L, h1, h2, h3, _⟩ <;> omega
theorem Own.len (h : Own s a n c e k xs τ) : xs.length = n * k := h.1
theorem Own.none_iff (h : Own s a n c e k xs τ) : a = none → n = 0 := by
  intro ha
  rcases h.2 with ⟨_, h1, _⟩ | ⟨g, o, L, h1, _⟩
  · exact h1
  · rw [ha] at h1; cases h1
theorem OnA.ch {T : List Nat} (C : OnA a s s') (h : Own s a n c e k xs τ) (ht : τ ∈ T) : Ch T s s' := Chg.mono C fun j hj hB => by
  rcases h.2 with ⟨rfl, _⟩ | ⟨g, o, L, rfl, h2, _⟩
  · simp at hB
  · simp at hB; subst hB; rw [h2.tag]; exact ht
theorem OnA.toL {r o : Nat} (C : OnA a s s') (h : a = some ⟨r, o, none⟩) : ChL [] [r] s s' := Chg.mono C fun j hj hB => .inr (by subst h; simp at hB; simp [hB])
theorem OnA.toN (C : OnA a s s') (h : a = none) : Ch [] s s' := Chg.mono C fun j hj hB => by subst h; simp at hB
/-- a block that the call itself has made, shown as a slice -/
theorem Blk.sl {r t : Nat} (h : Blk s r l t τ) : Sl s (some ⟨r, 0, none⟩) l τ := Sl.of h (by simp)
theorem Blk.own0 {r t : Nat} (h : Blk s r [] t τ) (k : Nat) : Own s (some ⟨r, 0, none⟩) 0 0 t k [] τ := ⟨by simp, .inr ⟨r, 0, [], rfl, h, by simp, by simp, by simp, by simp⟩⟩
theorem Blk.own {r t : Nat} (h : Blk s r l t τ) (k : Nat) (hl : l.length = n * k) (hn : n ≤ maxLen) : Own s (some ⟨r, 0, none⟩) n n t k l τ := ⟨hl, .inr ⟨r, 0, l, rfl, h, Nat.le_refl _, hn, by omega, by simp [← hl]⟩⟩
theorem Sl.cells {b : Addr} (h : Sl s (some b) l τ) (w : World) (hw : w.heap = s.h) : ∀ j u, l[j]? = some u → w.cell? (b.add j) = some u := by
  intro j u hu
  rcases h with rfl | ⟨g, o, h1, h2, h3, h4⟩
  · simp at hu
  · cases h1
    have hadd : (⟨g, o, none⟩ : Addr).add j = ⟨g, o + j, none⟩ := by unfold Addr.add; split <;> simp_all
    rw [hadd, cell_eq, hw]
    exact h4 j u hu
end
section
variable {P : Program} {t ty e : TypeId} {i : TypeInfo} {E : List PanicEntry → Heap → Prop}
theorem run_append_none (w : World) (ht : P.underlying t = some (.slice e)) (hi : P.info? e = some i) (a xa : Option Addr) (n c mc : Nat) (hn : n ≤ c) :
    (Builtin.append_ #[t, t] ty #[.slice a n c, .slice xa 0 mc]).run P w = .ok (.slice a n c) w := by
  cases xa <;> cases a <;> simp [Builtin.append_, run_underlying ht, sizeOf, typeInfo, hi, Builtin.lenOf, hn, Builtin.firstCells, loadCells, loadCellsFrom, storeCells]
theorem run_append_room_o (w : World) (ht : P.underlying t = some (.slice e)) (hi : P.info? e = some i)
    (g o sLen sCap : Nat) (cur : Array Value) (hg : w.heap[g]? = some (.cells cur e (0, 0)))
    (a : Addr) (m c : Nat) (news : List Value) (hl : news.length = m * i.size) (hnews : ∀ j u, news[j]? = some u → w.cell? (a.add j) = some u) (h1 : ∀ u ∈ news, u.oneCell' = true)
    (hroom : sLen + m ≤ sCap) (hfit : o + sLen * i.size + news.length ≤ cur.size) :
    (Builtin.append_ #[t, t] ty #[.slice (some ⟨g, o, none⟩) sLen sCap, .slice (some a) m c]).run P w =
      .ok (.slice (some ⟨g, o, none⟩) (sLen + m) sCap) (w.setRow g (cur.toList.take (o + sLen * i.size) ++ news ++ cur.toList.drop (o + sLen * i.size + news.length)).toArray) := by
  have hf := run_firstCells_some (P := P) w i.size m a m c news hl hnews
  have hst := run_storeCells_at P g (o + sLen * i.size) e news 0 cur w hg (by simpa using hfit) h1
  simp only [Nat.add_zero] at hst
  have hadd : (⟨g, o, none⟩ : Addr).add (sLen * i.size) = ⟨g, o + sLen * i.size, none⟩ := by unfold Addr.add; split <;> simp_all
  simp [Builtin.append_, run_underlying ht, sizeOf, typeInfo, hi, Builtin.lenOf, hroom, hf, hadd, hst]
theorem app_t {s : TH} {a xa : Option Addr} {n c m mc bytes k : Nat} {xs news : List Value} {τ τ' : Nat} {z : Value} {K : Value → Heap → Prop}
    (ht : P.underlying t = some (.slice e)) (hi : P.info? e = some i) (hz : i.zero = some z) (hsize : i.size = k) (hby : i.bytes = bytes) (hzs : z.cells.size = k)
    (hO : Own s a n c e k xs τ) (hx : Sl s xa news τ') (hl : news.length = m * k) (h1 : ∀ u ∈ news, u.oneCell' = true) (hxa : xa = none → m = 0)
    (hb : (n + m) * bytes ≤ 140737488355328 ∧ n + m ≤ maxLen)
    (hk : ∀ (s' : TH) (a' : Option Addr) (c' : Nat), Own s' a' (n + m) c' e k (xs ++ news) τ → OnA a s s' → ((a' = none ↔ a = none ∧ m = 0) ∧ (n + m ≤ c → a' = a ∧ c' = c)) → K (.slice a' (n + m) c') s'.h) :
    semW P (Builtin.append_ #[t, t] ty #[.slice a n c, .slice xa m mc]) E s.h K := .mk fun w hw => by
  subst hsize hby
  by_cases hm : m = 0
  · subst hm
    rw [run_append_none w ht hi a xa n c mc hO.le]
    have hn : news = [] := List.eq_nil_of_length_eq_zero (by simpa using hl)
    subst hn
    refine ⟨?_, Like.refl w⟩
    rw [hw]
    exact hk s a c (by simpa using hO) ⟨Nat.le_refl _, fun _ _ => rfl, fun _ _ _ => rfl⟩ ⟨by simp, fun _ => ⟨rfl, rfl⟩⟩
  obtain ⟨b, rfl⟩ : ∃ b, xa = some b := by
    cases xa with
    | none => exact absurd (hxa rfl) hm
    | some b => exact ⟨b, rfl⟩
  have hc := hx.cells w hw
  have h63 : ((n + m : Nat) : Int) ≤ 9223372036854775807 := by have := hb.2; unfold maxLen at this; omega
  have hlen : (xs ++ news).length = (n + m) * i.size := by rw [List.length_append, hO.1, hl, Nat.add_mul]
  -- a new block
  have grown : ∀ (old : Nat), ¬ n + m ≤ c → ∃ L : List Value, L.toArray = xs.toArray ++ news.toArray ++ Builtin.zeroCells z.cells (grownCap w (n + m) old e - (n + m)) ∧
      K (.slice (some ⟨w.heap.size, 0, none⟩) (n + m) (grownCap w (n + m) old e)) (w.heap.push (.cells L.toArray e)) := by
    intro old hno
    refine ⟨xs ++ news ++ (Builtin.zeroCells z.cells (grownCap w (n + m) old e - (n + m))).toList, by apply Array.toList_inj.1; simp, ?_⟩
    have hge := grownCap_ge w (n + m) old e
    have hcm : grownCap w (n + m) old e ≤ maxLen := grownCap_le_maxLen w (n + m) old e hb.2
    rw [hw]
    refine hk ⟨s.h.push (.cells (xs ++ news ++ (Builtin.zeroCells z.cells (grownCap w (n + m) old e - (n + m))).toList).toArray e), upd s.g s.h.size τ⟩ _ _ ⟨hlen, .inr ⟨s.h.size, 0, xs ++ news ++ (Builtin.zeroCells z.cells (grownCap w (n + m) old e - (n + m))).toList, rfl, ⟨by simp, by simp [upd]⟩, hge, hcm, ?_, ?_⟩⟩ ?_ ⟨by simp [hm], fun h => absurd h hno⟩
    · have : (Builtin.zeroCells z.cells (grownCap w (n + m) old e - (n + m))).toList.length = (grownCap w (n + m) old e - (n + m)) * i.size := by
        simp [size_zeroCells, hzs]
      rw [List.length_append, hlen, this, ← Nat.add_mul]
      rw [show n + m + (grownCap w (n + m) old e - (n + m)) = grownCap w (n + m) old e by omega]; omega
    · rw [← hlen, List.drop_zero]; exact List.take_left
    · exact Chg.mono (pushed s _ τ) fun _ _ h => by simp at h
  rcases hO.2 with ⟨rfl, rfl, rfl⟩ | ⟨g, o, L, rfl, hB, hnc, hcm, hcs, htake⟩
  · have hx0 : xs = [] := List.eq_nil_of_length_eq_zero (by simpa using hO.1)
    subst hx0
    have hr := run_append_nil (P := P) w t ty e i z ht hi hz b m mc news hl hc (by omega) (by omega) (by have := hb.1; simp only [Nat.zero_add] at this; omega)
    rw [hr]
    obtain ⟨L, hL, hK⟩ := grown 0 (by omega)
    simp only [Nat.zero_add, List.nil_append, Array.empty_append] at hL hK
    refine ⟨?_, rfl, rfl, rfl⟩
    rw [hL] at hK; exact hK
  · by_cases hroom : n + m ≤ c
    · have hfit : o + n * i.size + news.length ≤ L.toArray.size := by
        have := Nat.mul_le_mul_right i.size hroom
        rw [Nat.add_mul] at this
        simp only [List.size_toArray, hl]; omega
      have hr := run_append_room_o (P := P) (ty := ty) w ht hi g o n c L.toArray (by rw [hw]; exact hB.get) b m mc news hl hc h1 hroom hfit
      rw [hr]
      have hset : (w.setRow g (L.take (o + n * i.size) ++ news ++ L.drop (o + n * i.size + news.length)).toArray).heap[g]? = some (.cells (L.take (o + n * i.size) ++ news ++ L.drop (o + n * i.size + news.length)).toArray e (0, 0)) := setRow_heap w g L.toArray _ e _ (by rw [hw]; exact hB.get)
      have hK := hk ⟨(w.setRow g (L.take (o + n * i.size) ++ news ++ L.drop (o + n * i.size + news.length)).toArray).heap, s.g⟩ (some ⟨g, o, none⟩) c ⟨hlen, .inr ⟨g, o, _, rfl, ⟨hset, hB.tag⟩, hroom, hcm, ?_, ?_⟩⟩ ⟨by simp [← hw], fun _ _ => rfl, fun j hj hn => ?_⟩ ⟨by simp, fun _ => ⟨rfl, rfl⟩⟩
      · exact ⟨hK, rfl, rfl, rfl⟩
      · simp only [List.size_toArray] at hfit
        simp only [List.length_append, List.length_take, List.length_drop]; omega
      · simp only [List.size_toArray] at hfit
        have e1 : (L.take (o + n * i.size) ++ news ++ L.drop (o + n * i.size + news.length)).drop o = (L.drop o).take (n * i.size) ++ news ++ L.drop (o + n * i.size + news.length) := by
          rw [List.append_assoc, List.drop_append_of_le_length (by simp; omega), List.drop_take, ← List.append_assoc]
          congr 2; congr 1; omega
        rw [e1, htake, ← hlen]; exact List.take_left
      · show (w.setRow g _).heap[j]? = _
        rw [setRow_other w g j _ (fun e => hn (by simp [e])), hw]
    · have hr := run_append_grow (P := P) w t ty e i z ht hi hz ⟨g, o, none⟩ n c xs hO.1 (by have := hO.sl.cells w hw; exact this) b m mc news hl hc (by omega) (by omega) (growslice_fits (by omega) hb.1)
      rw [hr]
      obtain ⟨L', hL, hK⟩ := grown c hroom
      refine ⟨?_, rfl, rfl, rfl⟩
      rw [hL] at hK; exact hK
end

/-! ### bytes; what is cut off a slice -/
theorem info_of {P : Program} {e : TypeId} {z : Value} {k b : Nat} (h : (P.info? e).map (fun i => (i.zero, i.size, i.bytes)) = some (some z, k, b)) : ∃ i, P.info? e = some i ∧ i.zero = some z ∧ i.size = k ∧ i.bytes = b := by
  cases hi : P.info? e with
  | none => rw [hi] at h; cases h
  | some i => rw [hi] at h; simp at h; exact ⟨i, rfl, h.1, h.2.1, h.2.2⟩
theorem app_i {P : Program} {t ty e : TypeId} {E : List PanicEntry → Heap → Prop} {s : TH} {a xa : Option Addr} {n c m mc bytes k : Nat} {xs news : List Value} {τ τ' : Nat} {z : Value} {K : Value → Heap → Prop}
    (ht : P.underlying t = some (.slice e)) (hi : (P.info? e).map (fun i => (i.zero, i.size, i.bytes)) = some (some z, k, bytes)) (hzs : z.cells.size = k)
    (hO : Own s a n c e k xs τ) (hx : Sl s xa news τ') (hl : news.length = m * k) (h1 : ∀ u ∈ news, u.oneCell' = true) (hxa : xa = none → m = 0)
    (hb : (n + m) * bytes ≤ 140737488355328 ∧ n + m ≤ maxLen)
    (hk : ∀ (s' : TH) (a' : Option Addr) (c' : Nat), Own s' a' (n + m) c' e k (xs ++ news) τ → OnA a s s' → ((a' = none ↔ a = none ∧ m = 0) ∧ (n + m ≤ c → a' = a ∧ c' = c)) → K (.slice a' (n + m) c') s'.h) :
    semW P (Builtin.append_ #[t, t] ty #[.slice a n c, .slice xa m mc]) E s.h K := by
  obtain ⟨i, h1', h2, h3, h4⟩ := info_of hi
  exact app_t ht h1' h2 h3 h4 hzs hO hx hl h1 hxa hb hk
def bv (b : UInt8) : Value := .int .u8 (b.toNat : Int)
def bvs (l : List UInt8) : List Value := l.map bv
theorem bvs_len (l : List UInt8) : (bvs l).length = l.length := by simp [bvs]
theorem bvs_one (l : List UInt8) : ∀ u ∈ bvs l, u.oneCell' = true := by intro u hu; simp [bvs] at hu; obtain ⟨b, _, rfl⟩ := hu; rfl
theorem bv_inj {a b : UInt8} (h : bv a = bv b) : a = b := by unfold bv at h; simp at h; exact UInt8.toNat_inj.1 (by omega)
theorem bvs_inj : ∀ {a b : List UInt8}, bvs a = bvs b → a = b
  | [], [], _ => rfl
  | [], _ :: _, h => by simp [bvs] at h
  | _ :: _, [], h => by simp [bvs] at h
  | x :: a, y :: b, h => by
    simp only [bvs, List.map_cons, List.cons.injEq] at h
    rw [bv_inj h.1, bvs_inj (a := a) (b := b) h.2]
theorem slA_mk (g o k l m : Nat) : slO (some ⟨g, o, none⟩) k (l : Int) (m : Int) = some ⟨g, if m = l then o else o + l * k, none⟩ := by
  unfold slO slA
  simp only [Option.map_some, Int.toNat_natCast]
  split
  · rfl
  · unfold Addr.add; split <;> simp_all
theorem nz_slO {p : Option Addr} {k : Nat} {l m : Int} {q : Addr → Prop} {a : Addr} (hp : p = some a) (h : q (slA k a l m)) : nz (slO p k l m) q := by subst hp; exact h
/-- a slice's beginning -/
theorem Own.pre {s : TH} {a : Option Addr} {n c e k : Nat} {xs : List Value} {τ : Nat} (h : Own s a n c e k xs τ) {m : Nat} (hm : m ≤ n) : Own s a m c e k (xs.take (m * k)) τ := by
  have hle : m * k ≤ n * k := Nat.mul_le_mul_right k hm
  refine ⟨by rw [List.length_take, h.1]; omega, ?_⟩
  rcases h.2 with ⟨h1, h2, h3⟩ | ⟨g, o, L, h1, h2, h3, h4, h5, h6⟩
  · exact .inl ⟨h1, by omega, h3⟩
  · refine .inr ⟨g, o, L, h1, h2, by omega, h4, h5, ?_⟩
    rw [← h6, List.take_take]; congr 1; omega
/-- what a slice shows from a place on -/
theorem Own.cut {s : TH} {a : Option Addr} {n c e k : Nat} {xs : List Value} {τ : Nat} (h : Own s a n c e k xs τ) {m : Nat} (hm : m ≤ n) : Sl s (slO a k (m : Int) (c : Int)) (xs.drop (m * k)) τ := by
  rcases h.2 with ⟨h1, h2, h3⟩ | ⟨g, o, L, h1, h2, h3, h4, h5, h6⟩
  · left; rw [List.eq_nil_of_length_eq_zero (l := xs) (by rw [h.1, h2]; simp)]; simp
  · by_cases hc : c = m
    · left; apply List.eq_nil_of_length_eq_zero; rw [List.length_drop, h.1, show n = m by omega]; omega
    · subst h1
      rw [slA_mk, if_neg hc]
      refine Sl.of h2 ?_
      rw [← h6, List.drop_take, List.drop_drop, List.length_take, List.length_drop]
      have h7 : n * k ≤ c * k := Nat.mul_le_mul_right k h3
      rw [Nat.min_eq_left (by omega)]
end Go.Proofs.YtngploohhmfaiaaGreat.E
