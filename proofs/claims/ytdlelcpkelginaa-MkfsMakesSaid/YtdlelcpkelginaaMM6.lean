/- My own texts, joined. -/
import Derived.KernelRfl
import Derived.Laws.StructEq
import Derived.Lib.AppendStr
import Derived.Recover
import Derived.Tactics2
import Derived.Test.YtdlelcpkelginaaProg
import Derived.WalkKit
import Derived.Test.YtdlelcpkelginaaMM5
/- Contracts of functions. -/
namespace Go.Proofs.Ytdlelcpkelginaa.E
open Go Go.Proofs Go.RowKit
set_option linter.unusedVariables false
set_option linter.unusedSimpArgs false
/-- the marks of a state, turned by a function -/
def remarkF (s : TH) (φ : Nat → Nat) : TH := ⟨s.h, fun j => φ (s.g j)⟩
theorem remarkF_ch {T : List Nat} {s s' : TH} {M : Nat} {φ : Nat → Nat} (c : Ch T s s') (hM : ∀ j, j < s.h.size → s.g j < M) (hφ : ∀ m, m < M → φ m = m) : Ch T s (remarkF s' φ) :=
  ⟨c.size, fun j hj => by show φ (s'.g j) = s.g j; rw [c.tag j hj]; exact hφ _ (hM j hj), c.get⟩
section
variable {s : TH} {φ : Nat → Nat}
theorem Blk.rf {r : Nat} {l : List Value} {t τ : Nat} (h : Blk s r l t τ) : Blk (remarkF s φ) r l t (φ τ) := ⟨h.get, congrArg φ h.tag⟩
theorem Sl.rf {a : Option Addr} {l : List Value} {τ : Nat} (h : Sl s a l τ) : Sl (remarkF s φ) a l (φ τ) := by
  rcases h with h | ⟨g, o, h1, h2, h3, h4⟩
  · exact .inl h
  · exact .inr ⟨g, o, h1, h2, congrArg φ h3, h4⟩
theorem Own.rf {a : Option Addr} {n c e k : Nat} {xs : List Value} {τ : Nat} (h : Own s a n c e k xs τ) : Own (remarkF s φ) a n c e k xs (φ τ) := by
  refine ⟨h.1, h.2.imp id ?_⟩
  rintro ⟨g, o, L, h1, h2, h3⟩
  exact ⟨g, o, L, h1, h2.rf, h3⟩
theorem ByAt.rf {τ : Nat} {p : Hd} {b : List UInt8} (h : ByAt s τ p b) : ByAt (remarkF s φ) (φ τ) p b := ⟨h.sl.rf, h.len⟩
theorem BRel.rf {τ : Nat} {hs : List Hd} {bs : List (List UInt8)} (h : BRel s τ hs bs) : BRel (remarkF s φ) (φ τ) hs bs := ⟨h.len, fun i p b h1 h2 => (h.at_ i p b h1 h2).rf⟩
end
/-- rows of bytes: the third with a mark of its own, and owned -/
structure B2 (s : TH) (τa τb : Nat) (hs : List Hd) (bs : List (List UInt8)) : Prop where
  len : hs.length = bs.length
  at_ : ∀ (i : Nat) (p : Hd) (b : List UInt8), i ≠ 2 → hs[i]? = some p → bs[i]? = some b → ByAt s τb p b
  two : ∀ (p : Hd) (b : List UInt8), hs[2]? = some p → bs[2]? = some b → b.length = 128 ∧ Own s p.1 128 p.2 5 1 (bvs b) τa
theorem B2.ch {s s' : TH} {τa τb : Nat} {hs : List Hd} {bs : List (List UInt8)} {T : List Nat} (h : B2 s τa τb hs bs) (c : Ch T s s') (ha : τa ∉ T) (hb : τb ∉ T) : B2 s' τa τb hs bs :=
  ⟨h.len, fun i p b h0 h1 h2 => (h.at_ i p b h0 h1 h2).mv c (tagn hb), fun p b h1 h2 => ⟨(h.two p b h1 h2).1, (h.two p b h1 h2).2.mv c (tagn ha)⟩⟩
theorem B2.rf {s : TH} {φ : Nat → Nat} {τa τb : Nat} {hs : List Hd} {bs : List (List UInt8)} (h : B2 s τa τb hs bs) : B2 (remarkF s φ) (φ τa) (φ τb) hs bs :=
  ⟨h.len, fun i p b h0 h1 h2 => (h.at_ i p b h0 h1 h2).rf, fun p b h1 h2 => ⟨(h.two p b h1 h2).1, (h.two p b h1 h2).2.rf⟩⟩
theorem B2.brel {s : TH} {τ : Nat} {hs : List Hd} {bs : List (List UInt8)} (h : B2 s τ τ hs bs) : BRel s τ hs bs := ⟨h.len, fun i p b h1 h2 => by
  by_cases e : i = 2
  · subst e; exact ⟨(h.two p b h1 h2).2.sl, (h.two p b h1 h2).1⟩
  · exact h.at_ i p b e h1 h2⟩
theorem B2.snoc {s : TH} {τa τb : Nat} {hs : List Hd} {bs : List (List UInt8)} (h : B2 s τa τb hs bs) {p : Hd} {b : List UInt8} (hl : b.length = 128) (ho : Own s p.1 128 p.2 5 1 (bvs b) (if hs.length = 2 then τa else τb)) : B2 s τa τb (hs ++ [p]) (bs ++ [b]) := by
  have e := h.len
  refine ⟨by simp [e], fun i q x h0 h1 h2 => ?_, fun q x h1 h2 => ?_⟩
  · rcases Nat.lt_trichotomy i hs.length with h3 | h3 | h3
    · rw [List.getElem?_append_left h3] at h1; rw [List.getElem?_append_left (by omega)] at h2; exact h.at_ i q x h0 h1 h2
    · subst h3
      rw [if_neg h0] at ho
      rw [List.getElem?_append_right (Nat.le_refl _), Nat.sub_self] at h1
      rw [List.getElem?_append_right (by omega), e, Nat.sub_self] at h2
      simp at h1 h2; subst h1 h2; exact ⟨ho.sl, hl⟩
    · rw [List.getElem?_eq_none (by simp; omega)] at h1; cases h1
  · rcases Nat.lt_trichotomy 2 hs.length with h3 | h3 | h3
    · rw [List.getElem?_append_left h3] at h1; rw [List.getElem?_append_left (by omega)] at h2; exact h.two q x h1 h2
    · rw [if_pos h3.symm] at ho
      rw [List.getElem?_append_right (by omega), ← h3, Nat.sub_self] at h1
      rw [List.getElem?_append_right (by omega), ← e, ← h3, Nat.sub_self] at h2
      simp at h1 h2; subst h1 h2; exact ⟨hl, ho⟩
    · rw [List.getElem?_eq_none (by simp; omega)] at h1; cases h1
theorem B2.app {s : TH} {τa τb : Nat} {hs hs' : List Hd} {bs bs' : List (List UInt8)} (h : B2 s τa τb hs bs) (k : BRel s τb hs' bs') (h3 : 3 ≤ hs.length) : B2 s τa τb (hs ++ hs') (bs ++ bs') := by
  have e := h.len
  refine ⟨by simp [e, k.len], fun i q x h0 h1 h2 => ?_, fun q x h1 h2 => ?_⟩
  · by_cases h4 : i < hs.length
    · rw [List.getElem?_append_left h4] at h1; rw [List.getElem?_append_left (by omega)] at h2; exact h.at_ i q x h0 h1 h2
    · rw [List.getElem?_append_right (by omega)] at h1; rw [List.getElem?_append_right (by omega), ← e] at h2; exact k.at_ _ q x h1 h2
  · rw [List.getElem?_append_left (by omega)] at h1; rw [List.getElem?_append_left (by omega)] at h2; exact h.two q x h1 h2
theorem B2.setN {s : TH} {τa τb : Nat} {hs : List Hd} {bs : List (List UInt8)} (h : B2 s τa τb hs bs) (j : Nat) (hj : j ≠ 2) {p : Hd} {b : List UInt8} (hp : ByAt s τb p b) : B2 s τa τb (hs.set j p) (bs.set j b) := by
  refine ⟨by simp [h.len], fun i q x h0 h1 h2 => ?_, fun q x h1 h2 => ?_⟩
  · by_cases e : j = i
    · subst e
      have hl : j < hs.length := by rcases Nat.lt_or_ge j hs.length with h3 | h3; exact h3; rw [List.getElem?_eq_none (by simp; omega)] at h1; cases h1
      rw [List.getElem?_set_self hl] at h1
      rw [List.getElem?_set_self (by rw [← h.len]; exact hl)] at h2
      cases h1; cases h2; exact hp
    · rw [List.getElem?_set_ne e] at h1 h2; exact h.at_ i q x h0 h1 h2
  · rw [List.getElem?_set_ne hj] at h1 h2; exact h.two q x h1 h2
theorem copy_blk {P : Program} {t t2 ty e : TypeId} {E : List PanicEntry → Heap → Prop} {s : TH} {r o n c mc tb : Nat} {xa : Option Addr} {L : List Value} {x : List UInt8} {τ τx : Nat} {K : Value → Heap → Prop}
    (ht : P.underlying t = some (.slice e)) (hi' : (P.info? e).map (fun i => (i.zero, i.size, i.bytes)) = some (some (.int .u8 0), 1, 1))
    (hB : Blk s r L tb τ) (hx : Sl s xa (bvs x) τx) (hm : x.length = n) (hn : 0 < n) (ho : o + n ≤ L.length)
    (hk : ∀ s' : TH, Blk s' r (L.take o ++ bvs x ++ L.drop (o + n)) tb τ → On r s s' → s.h.size = s'.h.size → K (.int .i64 (n : Int)) s'.h) :
    semW P (Builtin.copy_ #[t, t2] ty #[.slice (some ⟨r, o, none⟩) n c, .slice xa n mc]) E s.h K := .mk fun w hw => by
  obtain ⟨i, hi, hz, hs, hby⟩ := info_of hi'
  obtain ⟨b, rfl⟩ := hx.some (fun h => by have := congrArg List.length h; rw [bvs_len, List.length_nil] at this; omega)
  have hfw := run_firstCells_some (P := P) w 1 n b n mc (bvs x) (by rw [bvs_len]; omega) fun j u hu => hx.cells w hw j u hu
  have hst := run_storeCells_at P r o tb (bvs x) 0 L.toArray w (by rw [hw]; exact hB.get) (by simp [bvs_len]; omega) (bvs_one _)
  simp only [Nat.add_zero, bvs_len] at hst
  have hr : (Builtin.copy_ #[t, t2] ty #[.slice (some ⟨r, o, none⟩) n c, .slice (some b) n mc]).run P w = .ok (.int .i64 (n : Int)) (w.setRow r (L.take o ++ bvs x ++ L.drop (o + n)).toArray) := by
    simp [Builtin.copy_, run_underlying ht, sizeOf, typeInfo, hi, hs, hfw, hst, goInt, Builtin.lenOf, hm]
  rw [hr]
  have hset : (w.setRow r (L.take o ++ bvs x ++ L.drop (o + n)).toArray).heap[r]? = some (.cells (L.take o ++ bvs x ++ L.drop (o + n)).toArray tb (0, 0)) := setRow_heap w r L.toArray _ tb _ (by rw [hw]; exact hB.get)
  have hK := hk ⟨(w.setRow r (L.take o ++ bvs x ++ L.drop (o + n)).toArray).heap, s.g⟩ ⟨hset, hB.tag⟩ ⟨by simp [← hw], fun _ _ => rfl, fun j hj hn => ?_⟩ (by simp [← hw])
  · exact ⟨hK, rfl, rfl, rfl⟩
  · show (w.setRow r _).heap[j]? = _
    rw [setRow_other w r j _ (fun e => hn (by simp [e])), hw]
theorem st_same {s : TH} {r i t τ : Nat} {l : List Value} {v : Value} {k : Heap → Prop} (h : Blk s r l t τ) (h1 : oneC v = true) (hv : l[i]? = some v) (hk : ∀ s' : TH, Blk s' r l t τ → On r s s' → s.h.size = s'.h.size → k s'.h) : st s.h ⟨r, i, none⟩ v k := by
  obtain ⟨hi, hg⟩ := List.getElem?_eq_some_iff.1 hv
  refine st_t h h1 hi fun s' b c z => hk s' ?_ c z
  rw [← hg, List.set_getElem_self] at b
  exact b
/-- a group's header, as it lies in memory -/
def gv (n : Int) (il bl : List UInt8) : List Value := .int .i64 n :: (bvs il ++ bvs bl)
def hdL (n : Nat) (il bl : List UInt8) : List UInt8 := [104, 100, UInt8.ofNat n, 0] ++ il ++ bl ++ List.replicate 84 0
theorem hdL_len (n : Nat) {il bl : List UInt8} (h1 : il.length = 8) (h2 : bl.length = 32) : (hdL n il bl).length = 128 := by simp [hdL, h1, h2]
theorem gv_bits {n : Int} {il bl x : List UInt8} (h1 : il.length = 8) (h2 : bl.length = 32) : (gv n il bl).take 9 ++ bvs x ++ (gv n il bl).drop (9 + 32) = gv n il x := by
  have e1 : (bvs il).length = 8 := by rw [bvs_len, h1]
  have e2 : (bvs bl).length = 32 := by rw [bvs_len, h2]
  unfold gv
  rw [show (9 : Nat) = 8 + 1 from rfl, List.take_succ_cons, show 8 + 1 + 32 = 40 + 1 from rfl, List.drop_succ_cons, List.take_append_of_le_length (by omega), List.take_of_length_le (by omega), List.drop_eq_nil_of_le (by simp [e1, e2])]
  simp
theorem gv_len {n : Int} {il bl : List UInt8} (h1 : il.length = 8) (h2 : bl.length = 32) : (gv n il bl).length = 41 := by simp [gv, bvs_len, h1, h2]
theorem gv_slB {s : TH} {r t τ : Nat} {n : Int} {il bl : List UInt8} (h : Blk s r (gv n il bl) t τ) (h1 : il.length = 8) (h2 : bl.length = 32) : Sl s (some ⟨r, 9, none⟩) (bvs bl) τ := Sl.of h (by
  have e1 : (bvs il).length = 8 := by rw [bvs_len, h1]
  have e2 : (bvs bl).length = 32 := by rw [bvs_len, h2]
  unfold gv
  rw [show (9 : Nat) = 8 + 1 from rfl, List.drop_succ_cons, List.drop_append_of_le_length (by omega), List.drop_eq_nil_of_le (by omega)]
  simp)
theorem gv_slI {s : TH} {r t τ : Nat} {n : Int} {il bl : List UInt8} (h : Blk s r (gv n il bl) t τ) (h1 : il.length = 8) (h2 : bl.length = 32) : Sl s (some ⟨r, 1, none⟩) (bvs il) τ := Sl.of h (by
  have e1 : (bvs il).length = 8 := by rw [bvs_len, h1]
  unfold gv
  rw [show (1 : Nat) = 0 + 1 from rfl, List.drop_succ_cons, List.drop_zero, List.take_append_of_le_length (by omega), List.take_of_length_le (by omega)])
/-- the first bits of a row are set -/
def setsB (l : List UInt8) : Nat → List UInt8
  | 0 => l
  | k + 1 => setB (setsB l k) k
theorem setsB_len (l : List UInt8) (k : Nat) : (setsB l k).length = l.length := by
  induction k with
  | zero => rfl
  | succ k ih => rw [setsB, setB_len, ih]
def zB32 : List UInt8 := List.replicate 32 0
theorem sets32 (k : Nat) : (setsB zB32 k).length = 32 := setsB_len _ _
def iL (n : Nat) : List UInt8 := [if n = 0 then 7 else 0, 0, 0, 0, 0, 0, 0, 0]
def nB (n N : Nat) : Nat := 2 + N / 4 + if n = 0 then 1 else 0
def zB128 : List UInt8 := List.replicate 128 0
theorem zB128_len : zB128.length = 128 := List.length_replicate
/-- a new group's blocks -/
def grpL (G B N n : Nat) : List (List UInt8) := [superL G B N 0, hdL n (iL n) (setsB zB32 (nB n N))] ++ List.replicate (B - 2) zB128
theorem grpL_len {G B N n : Nat} (h : 2 ≤ B) : (grpL G B N n).length = B := by simp [grpL]; omega
theorem B2.two2 {s : TH} {τa τb : Nat} {a1 a2 : Option Addr} {c1 c2 : Nat} {l1 l2 : List UInt8} (h1 : Own s a1 128 c1 5 1 (bvs l1) τb) (h2 : Own s a2 128 c2 5 1 (bvs l2) τb) (e1 : l1.length = 128) (e2 : l2.length = 128) : B2 s τa τb [(a1, c1), (a2, c2)] [l1, l2] := by
  refine ⟨rfl, fun i p b h0 g1 g2 => ?_, fun p b g1 g2 => by simp at g1⟩
  rcases i with _ | _ | i
  · simp at g1 g2; subst g1 g2; exact ⟨h1.sl, e1⟩
  · simp at g1 g2; subst g1 g2; exact ⟨h2.sl, e2⟩
  · simp at g1
theorem u8n {n : Nat} (h : n ≤ 200) : IntKind.u8.wrap (n : Int) = ((UInt8.ofNat n).toNat : Int) := by
  have e : IntKind.u8.wrap (n : Int) = (n : Int) % 256 := rfl
  have e2 : (UInt8.ofNat n).toNat = n % 256 := rfl
  rw [e, e2]; omega
theorem rowz (k : Nat) : rowZ [.int .u8 0] k = bvs (List.replicate k 0) := by
  induction k with
  | zero => rfl
  | succ k ih => rw [List.replicate_succ, bvs, List.map_cons, ← bvs, ← ih]; rfl
theorem len32 {l : List UInt8} (h0 : l.length = 32) : ∃ b0 b1 b2 b3 b4 b5 b6 b7 b8 b9 b10 b11 b12 b13 b14 b15 b16 b17 b18 b19 b20 b21 b22 b23 b24 b25 b26 b27 b28 b29 b30 b31 : UInt8, l = [b0, b1, b2, b3, b4, b5, b6, b7, b8, b9, b10, b11, b12, b13, b14, b15, b16, b17, b18, b19, b20, b21, b22, b23, b24, b25, b26, b27, b28, b29, b30, b31] := by
  obtain ⟨b0, l, rfl⟩ := List.exists_cons_of_length_eq_add_one (n := 31) (by exact h0)
  have h1 : l.length = 31 := by simpa using h0
  obtain ⟨b1, l, rfl⟩ := List.exists_cons_of_length_eq_add_one (n := 30) (by exact h1)
  have h2 : l.length = 30 := by simpa using h1
  obtain ⟨b2, l, rfl⟩ := List.exists_cons_of_length_eq_add_one (n := 29) (by exact h2)
  have h3 : l.length = 29 := by simpa using h2
  obtain ⟨b3, l, rfl⟩ := List.exists_cons_of_length_eq_add_one (n := 28) (by exact h3)
  have h4 : l.length = 28 := by simpa using h3
  obtain ⟨b4, l, rfl⟩ := List.exists_cons_of_length_eq_add_one (n := 27) (by exact h4)
  have h5 : l.length = 27 := by simpa using h4
  obtain ⟨b5, l, rfl⟩ := List.exists_cons_of_length_eq_add_one (n := 26) (by exact h5)
  have h6 : l.length = 26 := by simpa using h5
  obtain ⟨b6, l, rfl⟩ := List.exists_cons_of_length_eq_add_one (n := 25) (by exact h6)
  have h7 : l.length = 25 := by simpa using h6
  obtain ⟨b7, l, rfl⟩ := List.exists_cons_of_length_eq_add_one (n := 24) (by exact h7)
  have h8 : l.length = 24 := by simpa using h7
  obtain ⟨b8, l, rfl⟩ := List.exists_cons_of_length_eq_add_one (n := 23) (by exact h8)
  have h9 : l.length = 23 := by simpa using h8
  obtain ⟨b9, l, rfl⟩ := List.exists_cons_of_length_eq_add_one (n := 22) (by exact h9)
  have h10 : l.length = 22 := by simpa using h9
  obtain ⟨b10, l, rfl⟩ := List.exists_cons_of_length_eq_add_one (n := 21) (by exact h10)
  have h11 : l.length = 21 := by simpa using h10
  obtain ⟨b11, l, rfl⟩ := List.exists_cons_of_length_eq_add_one (n := 20) (by exact h11)
  have h12 : l.length = 20 := by simpa using h11
  obtain ⟨b12, l, rfl⟩ := List.exists_cons_of_length_eq_add_one (n := 19) (by exact h12)
  have h13 : l.length = 19 := by simpa using h12
  obtain ⟨b13, l, rfl⟩ := List.exists_cons_of_length_eq_add_one (n := 18) (by exact h13)
  have h14 : l.length = 18 := by simpa using h13
  obtain ⟨b14, l, rfl⟩ := List.exists_cons_of_length_eq_add_one (n := 17) (by exact h14)
  have h15 : l.length = 17 := by simpa using h14
  obtain ⟨b15, l, rfl⟩ := List.exists_cons_of_length_eq_add_one (n := 16) (by exact h15)
  have h16 : l.length = 16 := by simpa using h15
  obtain ⟨b16, l, rfl⟩ := List.exists_cons_of_length_eq_add_one (n := 15) (by exact h16)
  have h17 : l.length = 15 := by simpa using h16
  obtain ⟨b17, l, rfl⟩ := List.exists_cons_of_length_eq_add_one (n := 14) (by exact h17)
  have h18 : l.length = 14 := by simpa using h17
  obtain ⟨b18, l, rfl⟩ := List.exists_cons_of_length_eq_add_one (n := 13) (by exact h18)
  have h19 : l.length = 13 := by simpa using h18
  obtain ⟨b19, l, rfl⟩ := List.exists_cons_of_length_eq_add_one (n := 12) (by exact h19)
  have h20 : l.length = 12 := by simpa using h19
  obtain ⟨b20, l, rfl⟩ := List.exists_cons_of_length_eq_add_one (n := 11) (by exact h20)
  have h21 : l.length = 11 := by simpa using h20
  obtain ⟨b21, l, rfl⟩ := List.exists_cons_of_length_eq_add_one (n := 10) (by exact h21)
  have h22 : l.length = 10 := by simpa using h21
  obtain ⟨b22, l, rfl⟩ := List.exists_cons_of_length_eq_add_one (n := 9) (by exact h22)
  have h23 : l.length = 9 := by simpa using h22
  obtain ⟨b23, l, rfl⟩ := List.exists_cons_of_length_eq_add_one (n := 8) (by exact h23)
  have h24 : l.length = 8 := by simpa using h23
  obtain ⟨b24, l, rfl⟩ := List.exists_cons_of_length_eq_add_one (n := 7) (by exact h24)
  have h25 : l.length = 7 := by simpa using h24
  obtain ⟨b25, l, rfl⟩ := List.exists_cons_of_length_eq_add_one (n := 6) (by exact h25)
  have h26 : l.length = 6 := by simpa using h25
  obtain ⟨b26, l, rfl⟩ := List.exists_cons_of_length_eq_add_one (n := 5) (by exact h26)
  have h27 : l.length = 5 := by simpa using h26
  obtain ⟨b27, l, rfl⟩ := List.exists_cons_of_length_eq_add_one (n := 4) (by exact h27)
  have h28 : l.length = 4 := by simpa using h27
  obtain ⟨b28, l, rfl⟩ := List.exists_cons_of_length_eq_add_one (n := 3) (by exact h28)
  have h29 : l.length = 3 := by simpa using h28
  obtain ⟨b29, l, rfl⟩ := List.exists_cons_of_length_eq_add_one (n := 2) (by exact h29)
  have h30 : l.length = 2 := by simpa using h29
  obtain ⟨b30, l, rfl⟩ := List.exists_cons_of_length_eq_add_one (n := 1) (by exact h30)
  have h31 : l.length = 1 := by simpa using h30
  obtain ⟨b31, l, rfl⟩ := List.exists_cons_of_length_eq_add_one (n := 0) (by exact h31)
  have h32 : l.length = 0 := by simpa using h31
  obtain rfl := List.eq_nil_of_length_eq_zero h32
  exact ⟨b0, b1, b2, b3, b4, b5, b6, b7, b8, b9, b10, b11, b12, b13, b14, b15, b16, b17, b18, b19, b20, b21, b22, b23, b24, b25, b26, b27, b28, b29, b30, b31, rfl⟩
/-- bollard/bollardref03.EncodeGroup -/
theorem c_encGroup (τ n : Nat) (i0 i1 i2 i3 i4 i5 i6 i7 b0 b1 b2 b3 b4 b5 b6 b7 b8 b9 b10 b11 b12 b13 b14 b15 b16 b17 b18 b19 b20 b21 b22 b23 b24 b25 b26 b27 b28 b29 b30 b31 : UInt8) (s : TH) (hn : n ≤ 7) : TRet Try.prog 41 #[.agg (gv (n : Int) [i0, i1, i2, i3, i4, i5, i6, i7] [b0, b1, b2, b3, b4, b5, b6, b7, b8, b9, b10, b11, b12, b13, b14, b15, b16, b17, b18, b19, b20, b21, b22, b23, b24, b25, b26, b27, b28, b29, b30, b31]).toArray] s fun v s' => ∃ a' c', v = .tuple #[.slice a' 128 c', .int .i64 0] ∧ Ch [] s s' ∧ Own s' a' 128 c' 5 1 (bvs (hdL n [i0, i1, i2, i3, i4, i5, i6, i7] [b0, b1, b2, b3, b4, b5, b6, b7, b8, b9, b10, b11, b12, b13, b14, b15, b16, b17, b18, b19, b20, b21, b22, b23, b24, b25, b26, b27, b28, b29, b30, b31])) τ := by
  obtain ⟨M, hM, hM0, hMa, hMb, hMc, hMd, hMe, hMf⟩ := fresh6 s τ 0 0 0 0 0
  refine F41_calls _ _ _ _ _ _ _ _ _ _ _ _ _ _ _ _ _ _ _ _ _ _ _ _ _ _ _ _ _ _ _ _ _ _ _ _ _ _ _ _ _  ?_
  unfold F41
  refine al_t (M + 1) fun r1 s2 hr1 b_1 c_2 z_3 => ?_
  have hg1 : Blk s2 r1 (gv (n : Int) [i0, i1, i2, i3, i4, i5, i6, i7] [b0, b1, b2, b3, b4, b5, b6, b7, b8, b9, b10, b11, b12, b13, b14, b15, b16, b17, b18, b19, b20, b21, b22, b23, b24, b25, b26, b27, b28, b29, b30, b31]) 43 (M + 1) := b_1
  clear b_1
  refine jn_u ?_
  refine ld_t hg1 rfl ?_
  refine dInt_i ?_
  refine sB_d (fun hsB1 => by exfalso; omega) (fun hsB1 => ?_)
  refine ld_t hg1 rfl ?_
  refine dInt_i ?_
  intro _
  intros
  refine dBl_i ?_
  refine sB_d (fun hsB2 => by exfalso; omega) (fun hsB2 => ?_)
  refine al_t (M + 2) fun r13 s14 hr13 b_4 c_5 z_6 => ?_
  refine conv_lit u32 u5 (show Blk _ _ (bvs [104, 100]) _ _ from b_4) rfl fun s_7 lit_10 c_8o hsz => ?_
  have c_8 := on_ch b_4 c_8o
  have z_9 := c_8.size
  refine dSl_i ?_
  have h_11 := hg1.ch (c_5.app c_8) (by simp)
  refine ld_t h_11 rfl ?_
  refine dInt_i ?_
  refine wr_a fun n24 hn24 => ?_
  refine al_t (M + 3) fun r25 s26 hr25 b_12 c_13 z_14 => ?_
  have h_15 := lit_10.mv c_13 (tagn (by simp))
  refine app_g (x := [UInt8.ofNat n, 0]) (M + 4) u32 in5 h_15 rfl (by have h := (b_12).sl; rw [hn24, u8n (by omega)] at h; exact h) rfl (by omega) (by omega) fun s_16 a2 c2 o_19 c_17 hne => ?_
  have z_18 := c_17.size
  refine dSl_i ?_
  refine ask_t (by omega) ?_
  refine ask_t (by omega) ?_
  rw [slO_zero]
  have h_20 := h_11.ch (c_13.app c_17) (by simp)
  refine app_bv u32 in5 o_19 (gv_slI h_20 rfl rfl) rfl (by omega) fun s_21 a3 c3 o_24 c_22 => ?_
  have z_23 := c_22.size
  refine dSl_i ?_
  rw [slO_zero]
  have h_25 := h_20.ch c_22 (by simp)
  refine app_bv u32 in5 o_24 (gv_slB h_25 rfl rfl) rfl (by omega) fun s_26 a4 c4 o_29 c_27 => ?_
  have z_28 := c_27.size
  refine dSl_i ?_
  refine appz_i (m := 84) u32 u3 in5 o_29 (by obtain ⟨b, rfl⟩ := Own.ne_none o_29 (by omega); simp) (by omega) (by omega) fun s_30 a5 c5 o_33 c_31o => ?_
  have c_31 := c_31o.ch o_29 (T := [M + 4]) (by simp)
  have z_32 := c_31.size
  refine dSl_i ?_
  have ho := o_33
  refine ret_t' (s' := remarkF s_30 fun m => if m = M + 4 then τ else m) rfl ⟨_, _, rfl, remarkF_ch (((((((((Ch.refl [] s).ch c_2 (by simp)).ch c_5 (by simp)).fr c_8 hM (by simp)).ch c_13 (by simp)).ch c_17 (by simp)).fr c_22 hM (by simp)).fr c_27 hM (by simp)).fr c_31 hM (by simp)) hM (fun m hm => if_neg (by omega)), ?_⟩
  have h2 := ho.rf (φ := fun m => if m = M + 4 then τ else m)
  rw [if_pos rfl] at h2
  exact h2
/-- bollard/bollardref17.group -/
theorem c_group (τo τa τb : Nat) (G B N n : Nat) (s : TH) (hv : GeoOk G B N) (hn : n < G) : TRet Try.prog 19 #[.agg #[.int .i64 (G : Int), .int .i64 (B : Int), .int .i64 (N : Int)], .int .i64 (n : Int)] s fun v s' => ∃ a' c' hs, v = .slice a' B c' ∧ Ch [] s s' ∧ Own s' a' B c' 32 1 (hs.flatMap hd1) τo ∧ B2 s' τa τb hs (grpL G B N n) := by
  have hv2 := hv
  unfold GeoOk at hv2
  obtain ⟨M, hM, hM0, hMa, hMb, hMc, hMd, hMe, hMf⟩ := fresh6 s τo τa τb 0 0 0
  refine F19_calls _ _ _ _  ?_
  unfold F19
  refine al_t (M + 1) fun r1 s2 hr1 b_1 c_2 z_3 => ?_
  refine ld_t b_1 rfl ?_
  refine ld_t b_1 rfl ?_
  refine ld_t b_1 rfl ?_
  refine tcall (c_encSuper (M + 6) G B N 0 (by omega) hv (by decide)) ?_
  rintro v_5 s_4 ⟨acall1, ccall1, rfl, c_7, call1a⟩
  have z_8 := c_7.size
  refine dT2 ?_
  refine dSl_i ?_
  refine dInt_i ?_
  refine al_t (M + 2) fun r14 s15 hr14 b_9 c_10 z_11 => ?_
  have hg0 : Blk s15 r14 (gv 0 [0, 0, 0, 0, 0, 0, 0, 0] (setsB zB32 0)) 43 (M + 2) := b_9
  refine st_t hg0 rfl (by decide) fun s16 b_12 c_13o z_14 => ?_
  have c_13 := on_ch hg0 c_13o
  have hg1 : Blk s16 r14 (gv (n : Int) [0, 0, 0, 0, 0, 0, 0, 0] (setsB zB32 0)) 43 (M + 2) := b_12
  refine st_same hg1 rfl rfl fun s17 b_15 c_16o z_17 => ?_
  have c_16 := on_ch hg1 c_16o
  refine st_same b_15 rfl rfl fun s18 b_18 c_19o z_20 => ?_
  have c_19 := on_ch b_15 c_19o
  refine st_same b_18 rfl rfl fun s19 b_21 c_22o z_23 => ?_
  have c_22 := on_ch b_18 c_22o
  refine st_same b_21 rfl rfl fun s20 b_24 c_25o z_26 => ?_
  have c_25 := on_ch b_21 c_25o
  refine st_same b_24 rfl rfl fun s21 b_27 c_28o z_29 => ?_
  have c_28 := on_ch b_24 c_28o
  refine st_same b_27 rfl rfl fun s22 b_30 c_31o z_32 => ?_
  have c_31 := on_ch b_27 c_31o
  refine st_same b_30 rfl rfl fun s23 b_33 c_34o z_35 => ?_
  have c_34 := on_ch b_30 c_34o
  refine st_same b_33 rfl rfl fun s24 b_36 c_37o z_38 => ?_
  have c_37 := on_ch b_33 c_37o
  refine st_same b_36 rfl rfl fun s25 b_39 c_40o z_41 => ?_
  have c_40 := on_ch b_36 c_40o
  refine st_same b_39 rfl rfl fun s26 b_42 c_43o z_44 => ?_
  have c_43 := on_ch b_39 c_43o
  refine st_same b_42 rfl rfl fun s27 b_45 c_46o z_47 => ?_
  have c_46 := on_ch b_42 c_46o
  refine st_same b_45 rfl rfl fun s28 b_48 c_49o z_50 => ?_
  have c_49 := on_ch b_45 c_49o
  refine st_same b_48 rfl rfl fun s29 b_51 c_52o z_53 => ?_
  have c_52 := on_ch b_48 c_52o
  refine st_same b_51 rfl rfl fun s30 b_54 c_55o z_56 => ?_
  have c_55 := on_ch b_51 c_55o
  refine st_same b_54 rfl rfl fun s31 b_57 c_58o z_59 => ?_
  have c_58 := on_ch b_54 c_58o
  refine st_same b_57 rfl rfl fun s32 b_60 c_61o z_62 => ?_
  have c_61 := on_ch b_57 c_61o
  refine st_same b_60 rfl rfl fun s33 b_63 c_64o z_65 => ?_
  have c_64 := on_ch b_60 c_64o
  refine st_same b_63 rfl rfl fun s34 b_66 c_67o z_68 => ?_
  have c_67 := on_ch b_63 c_67o
  refine st_same b_66 rfl rfl fun s35 b_69 c_70o z_71 => ?_
  have c_70 := on_ch b_66 c_70o
  refine st_same b_69 rfl rfl fun s36 b_72 c_73o z_74 => ?_
  have c_73 := on_ch b_69 c_73o
  refine st_same b_72 rfl rfl fun s37 b_75 c_76o z_77 => ?_
  have c_76 := on_ch b_72 c_76o
  refine st_same b_75 rfl rfl fun s38 b_78 c_79o z_80 => ?_
  have c_79 := on_ch b_75 c_79o
  refine st_same b_78 rfl rfl fun s39 b_81 c_82o z_83 => ?_
  have c_82 := on_ch b_78 c_82o
  refine st_same b_81 rfl rfl fun s40 b_84 c_85o z_86 => ?_
  have c_85 := on_ch b_81 c_85o
  refine st_same b_84 rfl rfl fun s41 b_87 c_88o z_89 => ?_
  have c_88 := on_ch b_84 c_88o
  refine st_same b_87 rfl rfl fun s42 b_90 c_91o z_92 => ?_
  have c_91 := on_ch b_87 c_91o
  refine st_same b_90 rfl rfl fun s43 b_93 c_94o z_95 => ?_
  have c_94 := on_ch b_90 c_94o
  refine st_same b_93 rfl rfl fun s44 b_96 c_97o z_98 => ?_
  have c_97 := on_ch b_93 c_97o
  refine st_same b_96 rfl rfl fun s45 b_99 c_100o z_101 => ?_
  have c_100 := on_ch b_96 c_100o
  refine st_same b_99 rfl rfl fun s46 b_102 c_103o z_104 => ?_
  have c_103 := on_ch b_99 c_103o
  refine st_same b_102 rfl rfl fun s47 b_105 c_106o z_107 => ?_
  have c_106 := on_ch b_102 c_106o
  refine st_same b_105 rfl rfl fun s48 b_108 c_109o z_110 => ?_
  have c_109 := on_ch b_105 c_109o
  refine st_same b_108 rfl rfl fun s49 b_111 c_112o z_113 => ?_
  have c_112 := on_ch b_108 c_112o
  refine st_same b_111 rfl rfl fun s50 b_114 c_115o z_116 => ?_
  have c_115 := on_ch b_111 c_115o
  refine st_same b_114 rfl rfl fun s51 b_117 c_118o z_119 => ?_
  have c_118 := on_ch b_114 c_118o
  refine st_same b_117 rfl rfl fun s52 b_120 c_121o z_122 => ?_
  have c_121 := on_ch b_117 c_121o
  refine st_same b_120 rfl rfl fun s53 b_123 c_124o z_125 => ?_
  have c_124 := on_ch b_120 c_124o
  refine st_same b_123 rfl rfl fun s54 b_126 c_127o z_128 => ?_
  have c_127 := on_ch b_123 c_127o
  refine st_same b_126 rfl rfl fun s55 b_129 c_130o z_131 => ?_
  have c_130 := on_ch b_126 c_130o
  refine st_same b_129 rfl rfl fun s56 b_132 c_133o z_134 => ?_
  have c_133 := on_ch b_129 c_133o
  have h_135 := b_1.ch ((((((((((((((((((((((((((((((((((((((((((c_7.app c_10).app c_13).app c_16).app c_19).app c_22).app c_25).app c_28).app c_31).app c_34).app c_37).app c_40).app c_43).app c_46).app c_49).app c_52).app c_55).app c_58).app c_61).app c_64).app c_67).app c_70).app c_73).app c_76).app c_79).app c_82).app c_85).app c_88).app c_91).app c_94).app c_97).app c_100).app c_103).app c_106).app c_109).app c_112).app c_115).app c_118).app c_121).app c_124).app c_127).app c_130).app c_133) (by simp)
  refine ld_t h_135 rfl ?_
  refine dInt_i ?_
  refine ask_t (by omega) ?_
  have hq4 : Int.tdiv (N : Int) 4 = ((N / 4 : Nat) : Int) := by rw [Int.tdiv_eq_ediv_of_nonneg (by omega)]; omega
  rw [hq4]
  refine wr_t (by omega) ?_
  refine wr_t (by omega) ?_
  refine ⟨fun vs H' => ∃ s' : TH, s'.h = H' ∧ ∃ i, vs = [.int .i64 i] ∧ Ch [M + 2, M + 10] s56 s' ∧ (∃ k : Nat, i = k ∧ k ≤ 2 + N / 4 ∧ Blk s' r14 (gv (n : Int) [0, 0, 0, 0, 0, 0, 0, 0] (setsB zB32 k)) 43 (M + 2)), fun vs H' => match vs with | [.int .i64 i] => (((2 + N / 4 : Nat) : Int) - i).toNat | _ => 0, ⟨s56, rfl, _, rfl, Ch.refl _ _, ?_⟩, ?_⟩
  ·
    exact ⟨0, rfl, by omega, b_132⟩
  ·
    intro i _ _ _ _ _ _ _ _ _ _ _ _ _ _ _ _ _ H_ hI_137
    obtain ⟨s_136, rfl, i_, hvs, c_138, k, rfl, hk, hb⟩ := hI_137
    cases hvs
    have z_139 := c_138.size
    refine sB_d (fun hsB1 => ?_) (fun hsB1 => ?_)
    ·
      refine ask_t (by omega) ?_
      rw [slO_zero]
      refine tcall (c_rwith (M + 10) 32 (gv_slB hb rfl (sets32 _)) (sets32 _) (fun h => by cases h) (by decide) k (by omega) (by omega)) ?_
      rintro v_141 s_140 ⟨acall2, ccall2, rfl, c_143, call2a⟩
      have z_144 := c_143.size
      refine dT2 ?_
      refine dSl_i ?_
      refine dInt_i ?_
      refine ask_t (by omega) ?_
      have h_145 := hb.ch c_143 (by simp)
      refine copy_blk (n := 32) u32 in5 h_145 (call2a).sl (by rw [setB_len, sets32]) (by decide) (by rw [gv_len rfl (sets32 _)]; decide) fun s_146 r14_149 c_147o _ => ?_
      have c_147 := on_ch h_145 c_147o
      have z_148 := c_147.size
      refine dInt_i ?_
      refine wr_t (by omega) ?_
      refine ⟨⟨s_146, rfl, _, rfl, ((((Ch.refl [M + 2, M + 10] s56).ch c_138 (by simp)).ch c_143 (by simp)).ch c_147 (by simp)), ?_⟩, ?_⟩
      ·
        exact ⟨k + 1, by omega, by omega, by have h := r14_149; rw [gv_bits rfl (sets32 _)] at h; exact h⟩
      ·
        simp only []; omega
    ·
      refine jn0 (fun s' => Ch [M + 2, M + 10] s_136 s' ∧ (Blk s' r14 (gv (n : Int) (iL n) (setsB zB32 (nB n N))) 43 (M + 2))) ?_ ?_
      ·
        rintro  s_150 ⟨c_151, hb⟩
        have z_152 := c_151.size
        obtain ⟨b0, b1, b2, b3, b4, b5, b6, b7, b8, b9, b10, b11, b12, b13, b14, b15, b16, b17, b18, b19, b20, b21, b22, b23, b24, b25, b26, b27, b28, b29, b30, b31, hbb⟩ := len32 (sets32 (nB n N))
        have hg7 := hb
        rw [hbb] at hg7
        intro _
        intros
        refine ld_t hg7 rfl ?_
        refine ld_t hg7 rfl ?_
        refine ld_t hg7 rfl ?_
        refine ld_t hg7 rfl ?_
        refine ld_t hg7 rfl ?_
        refine ld_t hg7 rfl ?_
        refine ld_t hg7 rfl ?_
        refine ld_t hg7 rfl ?_
        refine ld_t hg7 rfl ?_
        refine ld_t hg7 rfl ?_
        refine ld_t hg7 rfl ?_
        refine ld_t hg7 rfl ?_
        refine ld_t hg7 rfl ?_
        refine ld_t hg7 rfl ?_
        refine ld_t hg7 rfl ?_
        refine ld_t hg7 rfl ?_
        refine ld_t hg7 rfl ?_
        refine ld_t hg7 rfl ?_
        refine ld_t hg7 rfl ?_
        refine ld_t hg7 rfl ?_
        refine ld_t hg7 rfl ?_
        refine ld_t hg7 rfl ?_
        refine ld_t hg7 rfl ?_
        refine ld_t hg7 rfl ?_
        refine ld_t hg7 rfl ?_
        refine ld_t hg7 rfl ?_
        refine ld_t hg7 rfl ?_
        refine ld_t hg7 rfl ?_
        refine ld_t hg7 rfl ?_
        refine ld_t hg7 rfl ?_
        refine ld_t hg7 rfl ?_
        refine ld_t hg7 rfl ?_
        refine ld_t hg7 rfl ?_
        refine ld_t hg7 rfl ?_
        refine ld_t hg7 rfl ?_
        refine ld_t hg7 rfl ?_
        refine ld_t hg7 rfl ?_
        refine ld_t hg7 rfl ?_
        refine ld_t hg7 rfl ?_
        refine ld_t hg7 rfl ?_
        refine ld_t hg7 rfl ?_
        refine tcall (c_encGroup (M + 6) n (if n = 0 then 7 else 0) 0 0 0 0 0 0 0 b0 b1 b2 b3 b4 b5 b6 b7 b8 b9 b10 b11 b12 b13 b14 b15 b16 b17 b18 b19 b20 b21 b22 b23 b24 b25 b26 b27 b28 b29 b30 b31 _ (by omega)) ?_
        rintro v_154 s_153 ⟨acall3, ccall3, rfl, c_156, call3a⟩
        have z_157 := c_156.size
        rw [show [if n = 0 then 7 else 0, 0, 0, 0, 0, 0, 0, 0] = iL n from rfl, ← hbb] at call3a
        refine dT2 ?_
        refine dSl_i ?_
        refine dInt_i ?_
        refine al_t (M + 5) fun r169 s170 hr169 b_158 c_159 z_160 => ?_
        refine ⟨fun vs H' => ∃ s' : TH, s'.h = H' ∧ ∃ pa pn pc, vs = [.slice pa pn pc] ∧ Ch [M + 5] s170 s' ∧ (∃ hs : List Hd, hs.length = pn ∧ 2 ≤ pn ∧ pn ≤ B ∧ Own s' pa pn pc 32 1 (hs.flatMap hd1) (M + 5) ∧ B2 s' (M + 8) (M + 6) hs ([superL G B N 0, hdL n (iL n) (setsB zB32 (nB n N))] ++ List.replicate (pn - 2) zB128)), fun vs H' => match vs with | [.slice pa pn pc] => B - pn | _ => 0, ⟨s170, rfl, _, _, _, rfl, Ch.refl _ _, ?_⟩, ?_⟩
        ·
          have h_161 := call1a.mv (((((((((((((((((((((((((((((((((((((((((((((c_10.app c_13).app c_16).app c_19).app c_22).app c_25).app c_28).app c_31).app c_34).app c_37).app c_40).app c_43).app c_46).app c_49).app c_52).app c_55).app c_58).app c_61).app c_64).app c_67).app c_70).app c_73).app c_76).app c_79).app c_82).app c_85).app c_88).app c_91).app c_94).app c_97).app c_100).app c_103).app c_106).app c_109).app c_112).app c_115).app c_118).app c_121).app c_124).app c_127).app c_130).app c_133).app c_138).app c_151).app c_156).app c_159) (tagn (by simp))
          have h_162 := call3a.mv c_159 (tagn (by simp))
          exact ⟨[(acall1, ccall1), (acall3, ccall3)], rfl, by omega, by omega, (b_158).own 1 rfl (by unfold maxLen; omega), B2.two2 h_161 h_162 (superL_len _ _ _ _) (hdL_len _ rfl (sets32 _))⟩
        ·
          intro pa pn pc _ _ _ _ _ _ _ _ _ H_ hI_164
          obtain ⟨s_163, rfl, pa_, pn_, pc_, hvs, c_165, hs, hl, hk1, hk2, ho, hb2⟩ := hI_164
          cases hvs
          have z_166 := c_165.size
          obtain ⟨μ, hμ, hμ2⟩ : ∃ μ, μ = (if pn = 2 then M + 8 else M + 6) ∧ M + 6 ≤ μ := ⟨_, rfl, by split <;> omega⟩
          have h_167 := h_135.ch ((((c_138.app c_151).app c_156).app c_159).app c_165) (by simp)
          refine ld_t h_167 rfl ?_
          refine dInt_i ?_
          refine sB_d (fun hsB2 => ?_) (fun hsB2 => ?_)
          ·
            refine ask_t (by omega) ?_
            refine al_t μ fun r189 s190 hr189 b_168 c_169 z_170 => ?_
            refine al_t (M + 9) fun r191 s192 hr191 b_171 c_172 z_173 => ?_
            have h_174 := ho.mv (c_169.app c_172) (tagn (by simp))
            refine app_i u24 in32 rfl h_174 (b_171).sl (m := 1) (k := 1) rfl (by intro u hu; simp at hu; subst hu; rfl) (by simp) (by unfold maxLen; omega) fun s_175 pa2 pc2 o_178 c_176o _ => ?_
            have c_176 := c_176o.ch h_174 (T := [M + 5]) (by simp)
            have z_177 := c_176.size
            refine dSl_i ?_
            refine ⟨⟨s_175, rfl, _, _, _, rfl, (((((Ch.refl [M + 5] s170).ch c_165 (by simp)).ch c_169 (by simp)).ch c_172 (by simp)).ch c_176 (by simp)), ?_⟩, ?_⟩
            ·
              have h_179 := b_168.ch (c_172.app c_176) (by simp <;> omega)
              have h_180 := hb2.ch ((c_169.app c_172).app c_176) (by simp <;> omega) (by simp <;> omega)
              have ho2 := (h_179).own (n := 128) 1 (by rw [show Int.toNat 128 = 128 from rfl, rowz, bvs_len]; rfl) (by unfold maxLen; omega)
              rw [show Int.toNat 128 = 128 from rfl, rowz, hμ, ← hl] at ho2
              exact ⟨hs ++ [(some ⟨r189, 0, none⟩, 128)], by simp [hl], by omega, by omega, by have h := o_178; simpa [hd1] using h, by rw [show pn + 1 - 2 = (pn - 2) + 1 by omega, List.replicate_succ', ← List.append_assoc]; exact (h_180).snoc zB128_len ho2⟩
            ·
              simp only []; omega
          ·
            obtain rfl : pn = B := by omega
            obtain ⟨φ, hφ⟩ : ∃ φ : Nat → Nat, φ = fun m => if m = M + 5 then τo else if m = M + 6 then τb else if m = M + 8 then τa else m := ⟨_, rfl⟩
            have f5 : φ (M + 5) = τo := by subst hφ; exact if_pos rfl
            have f6 : φ (M + 6) = τb := by subst hφ; simp
            have f8 : φ (M + 8) = τa := by subst hφ; simp
            have h1 := (ho).rf (φ := φ)
            have h2 := (hb2).rf (φ := φ)
            rw [f5] at h1
            rw [f6, f8] at h2
            exact ret_t' (s' := remarkF s_163 φ) rfl ⟨_, _, _, rfl, remarkF_ch ((((((((((((((((((((((((((((((((((((((((((((((((((Ch.refl [] s).ch c_2 (by simp)).fr c_7 hM (by simp)).ch c_10 (by simp)).fr c_13 hM (by simp)).fr c_16 hM (by simp)).fr c_19 hM (by simp)).fr c_22 hM (by simp)).fr c_25 hM (by simp)).fr c_28 hM (by simp)).fr c_31 hM (by simp)).fr c_34 hM (by simp)).fr c_37 hM (by simp)).fr c_40 hM (by simp)).fr c_43 hM (by simp)).fr c_46 hM (by simp)).fr c_49 hM (by simp)).fr c_52 hM (by simp)).fr c_55 hM (by simp)).fr c_58 hM (by simp)).fr c_61 hM (by simp)).fr c_64 hM (by simp)).fr c_67 hM (by simp)).fr c_70 hM (by simp)).fr c_73 hM (by simp)).fr c_76 hM (by simp)).fr c_79 hM (by simp)).fr c_82 hM (by simp)).fr c_85 hM (by simp)).fr c_88 hM (by simp)).fr c_91 hM (by simp)).fr c_94 hM (by simp)).fr c_97 hM (by simp)).fr c_100 hM (by simp)).fr c_103 hM (by simp)).fr c_106 hM (by simp)).fr c_109 hM (by simp)).fr c_112 hM (by simp)).fr c_115 hM (by simp)).fr c_118 hM (by simp)).fr c_121 hM (by simp)).fr c_124 hM (by simp)).fr c_127 hM (by simp)).fr c_130 hM (by simp)).fr c_133 hM (by simp)).fr c_138 hM (by simp)).fr c_151 hM (by simp)).ch c_156 (by simp)).ch c_159 (by simp)).fr c_165 hM (by simp)) hM (fun m hm => by subst hφ; simp only; rw [if_neg (by omega), if_neg (by omega), if_neg (by omega)]), h1, h2⟩
      ·
        intro K_181 hK_181
        refine sB_d (fun hsB3 => ?_) (fun hsB3 => ?_)
        ·
          refine ask_t (by omega) ?_
          have h_182 := h_135.ch c_138 (by simp)
          refine ld_t h_182 rfl ?_
          refine dInt_i ?_
          refine ask_t (by omega) ?_
          refine wr_t (by omega) ?_
          refine wr_t (by omega) ?_
          rw [slO_zero]
          obtain rfl : n = 0 := by omega
          rw [hq4, show (2 + ((N / 4 : Nat) : Int)) = ((2 + N / 4 : Nat) : Int) by omega]
          obtain rfl : k = 2 + N / 4 := by omega
          refine tcall (c_rwith (M + 10) 32 (gv_slB hb rfl (sets32 _)) (sets32 _) (fun h => by cases h) (by decide) (2 + N / 4) (by omega) (by omega)) ?_
          rintro v_184 s_183 ⟨acall4, ccall4, rfl, c_186, call4a⟩
          have z_187 := c_186.size
          refine dT2 ?_
          refine dSl_i ?_
          refine dInt_i ?_
          refine ask_t (by omega) ?_
          have h_188 := hb.ch c_186 (by simp)
          refine copy_blk (n := 32) u32 in5 h_188 (call4a).sl (by rw [setB_len, sets32]) (by decide) (by rw [gv_len rfl (sets32 _)]; decide) fun s_189 r14_192 c_190o _ => ?_
          have c_190 := on_ch h_188 c_190o
          have z_191 := c_190.size
          have hg5 := r14_192
          rw [gv_bits rfl (sets32 _)] at hg5
          refine dInt_i ?_
          refine ask_t (by omega) ?_
          refine st_t (r := r14) (i := 1) hg5 rfl (by rw [gv_len rfl (by rw [setB_len, sets32])]; decide) fun s220 b_193 c_194o z_195 => ?_
          have c_194 := on_ch hg5 c_194o
          refine hK_181 _ ⟨((((Ch.refl [M + 2, M + 10] s_136).ch c_186 (by simp)).ch c_190 (by simp)).ch c_194 (by simp)), ?_⟩
          exact b_193
        ·
          refine hK_181 _ ⟨(Ch.refl [M + 2, M + 10] s_136), ?_⟩
          have hn0 : n ≠ 0 := by omega
          obtain rfl : k = 2 + N / 4 := by omega
          have h := hb
          rw [show iL n = [0, 0, 0, 0, 0, 0, 0, 0] from by unfold iL; rw [if_neg hn0], show nB n N = 2 + N / 4 from by unfold nB; rw [if_neg hn0]; rfl]
          exact h
/-- the blocks of a volume's first groups, as they are made first -/
def mkL (G B N : Nat) : Nat → List (List UInt8)
  | 0 => []
  | k + 1 => mkL G B N k ++ grpL G B N k
theorem mkL_len {G B N : Nat} (h : 2 ≤ B) : ∀ k, (mkL G B N k).length = k * B
  | 0 => by simp [mkL]
  | k + 1 => by rw [mkL, List.length_append, mkL_len h k, grpL_len h, Nat.succ_mul]
theorem mkL_two {G B N : Nat} (h : 3 ≤ B) : ∀ {k : Nat}, 1 ≤ k → (mkL G B N k)[2]? = some zB128
  | 1, _ => by
    rw [mkL, mkL, List.nil_append, grpL, List.getElem?_append_right (by simp)]
    show (List.replicate (B - 2) zB128)[0]? = _
    rw [List.getElem?_replicate, if_pos (by omega)]
  | k + 2, _ => by
    rw [mkL, List.getElem?_append_left, mkL_two h (by omega)]
    rw [mkL_len (by omega)]
    have : 1 * 3 ≤ (k + 1) * B := Nat.mul_le_mul (by omega) h
    omega
def dots : List (Nat × ByteArray) := [(2, ⟨#[46]⟩), (2, ⟨#[46, 46]⟩)]
def rootL (N : Nat) : List UInt8 := overlay zB128 64 (dinL 2 2 128 (2 + N / 4) 0 0 0 0 0)
/-- a new volume's blocks -/
def makeL (G B N : Nat) : List (List UInt8) := ((mkL G B N G).set 2 (rootL N)).set (2 + N / 4) (dirsL dots)
theorem makeL_len {G B N : Nat} (h : 2 ≤ B) : (makeL G B N).length = G * B := by simp [makeL, mkL_len h]
theorem dots_nc (i j : Nat) (e f : Nat × ByteArray) (h : j < i) (h1 : dots[i]? = some e) (h2 : dots[j]? = some f) : ¬ (e.1 ≠ 0 ∧ f.1 ≠ 0 ∧ e.2.toList = f.2.toList) := by
  rcases i with _ | _ | i
  · omega
  · obtain rfl : j = 0 := by omega
    cases h1; cases h2
    exact fun h => by have h := congrArg List.length h.2.2; simp at h
  · cases h1
theorem dots_ok : ∀ e ∈ dots, Dot e.2 ∧ 1 ≤ e.1 ∧ e.1 ≤ 511 := by
  intro e he
  simp only [dots, List.mem_cons, List.not_mem_nil, or_false] at he
  rcases he with rfl | rfl
  · exact ⟨.inl rfl, by decide, by decide⟩
  · exact ⟨.inr rfl, by decide, by decide⟩
theorem dots_len : (dirsL dots).length = 128 := by unfold dirsL; rw [List.length_append, entsL_len]; rfl
theorem hd1_one (hs : List Hd) : ∀ u ∈ hs.flatMap hd1, u.oneCell' = true := by
  intro u hu
  obtain ⟨p, _, hp⟩ := List.mem_flatMap.1 hu
  simp [hd1] at hp; subst hp; rfl
theorem B2.cp {s s' : TH} {τa τb : Nat} {hs : List Hd} {bs : List (List UInt8)} (h : B2 s τa τb hs bs) (c : Ch [τa] s s') (hne : τa ≠ τb) {p : Hd} {b : List UInt8} (hp : hs[2]? = some p) (hl : b.length = 128) (ho : Own s' p.1 128 p.2 5 1 (bvs b) τa) : B2 s' τa τb hs (bs.set 2 b) := by
  refine ⟨by simp [h.len], fun i q x h0 h1 h2 => ?_, fun q x h1 h2 => ?_⟩
  · rw [List.getElem?_set_ne (by omega)] at h2; exact (h.at_ i q x h0 h1 h2).mv c (tagn (by simp; exact fun e => hne e.symm))
  · rw [hp] at h1; cases h1
    have h3 : 2 < bs.length := by rw [← h.len]; exact (List.getElem?_eq_some_iff.1 hp).1
    rw [List.getElem?_set_self h3] at h2; cases h2
    exact ⟨hl, ho⟩
/-- bollard/bollardref17.Make -/
theorem c_make (τo τb : Nat) (G B N : Nat) (s : TH) (hv : GeoOk G B N) : TRet Try.prog 5 #[.agg #[.int .i64 (G : Int), .int .i64 (B : Int), .int .i64 (N : Int)]] s fun v s' => ∃ a' c' hs, v = .tuple #[.slice a' (G * B) c', .int .i64 0] ∧ Ch [] s s' ∧ Own s' a' (G * B) c' 32 1 (hs.flatMap hd1) τo ∧ BRel s' τb hs (makeL G B N) := by
  have hv2 := hv
  unfold GeoOk at hv2
  have hcan : canG (G : Int) (B : Int) (N : Int) := by unfold canG; omega
  have hGB : 1 * 8 ≤ G * B := Nat.mul_le_mul (by omega) (by omega)
  have hBG : 1 * B ≤ G * B := Nat.mul_le_mul (by omega) (Nat.le_refl _)
  obtain ⟨M, hM, hM0, hMa, hMb, hMc, hMd, hMe, hMf⟩ := fresh6 s τo τb 0 0 0 0
  refine F5_calls _ _ _  ?_
  unfold F5
  refine al_t (M + 1) fun r1 s2 hr1 b_1 c_2 z_3 => ?_
  refine ld_t b_1 rfl ?_
  refine ld_t b_1 rfl ?_
  refine ld_t b_1 rfl ?_
  refine tcall (gc_rcan (G : Int) (B : Int) (N : Int) _) ?_
  rintro v_5 s_4 ⟨rfl, c_7⟩
  have z_8 := c_7.size
  rw [if_pos hcan]
  refine dInt_i ?_
  refine sB_f (by rfl) ?_
  have h_9 := b_1.ch c_7 (by simp)
  refine ld_t h_9 rfl ?_
  refine dInt_i ?_
  refine ⟨fun vs H' => ∃ s' : TH, s'.h = H' ∧ ∃ pa pn pc i, vs = [.slice pa pn pc, .int .i64 i] ∧ Ch [M + 5] s_4 s' ∧ (∃ (k : Nat) (hs : List Hd), i = k ∧ k ≤ G ∧ pn = k * B ∧ Own s' pa pn pc 32 1 (hs.flatMap hd1) (M + 5) ∧ B2 s' (M + 8) (M + 6) hs (mkL G B N k)), fun vs H' => match vs with | [.slice pa pn pc, .int .i64 i] => ((G : Int) - i).toNat | _ => 0, ⟨s_4, rfl, _, _, _, _, rfl, Ch.refl _ _, ?_⟩, ?_⟩
  ·
    exact ⟨0, [], rfl, by omega, by simp, Own.nil _ _ _ _, ⟨rfl, fun i p b _ h _ => by simp at h, fun p b h _ => by simp at h⟩⟩
  ·
    intro pa pn pc i _ _ _ _ _ _ _ _ _ H_ hI_11
    obtain ⟨s_10, rfl, pa_, pn_, pc_, i_, hvs, c_12, k, hs, rfl, hk, hpn, ho, hb2⟩ := hI_11
    cases hvs
    have z_13 := c_12.size
    obtain ⟨μ, hμ, hμ2⟩ : ∃ μ, μ = (if k = 0 then M + 8 else M + 6) ∧ M + 6 ≤ μ := ⟨_, rfl, by split <;> omega⟩
    have hkB : k * B ≤ 8 * 256 := Nat.mul_le_mul (by omega) (by omega)
    have hhl := hb2.len
    rw [mkL_len (by omega)] at hhl
    refine sB_d (fun hsB2 => ?_) (fun hsB2 => ?_)
    ·
      have h_14 := h_9.ch c_12 (by simp)
      refine ld_t h_14 rfl ?_
      refine ld_t h_14 rfl ?_
      refine ld_t h_14 rfl ?_
      refine tcall (c_group (M + 10) μ (M + 6) G B N k _ hv (by omega)) ?_
      rintro v_16 s_15 ⟨acall2, ccall2, hscall2, rfl, c_18, call2a, call2b⟩
      have z_19 := c_18.size
      refine dSl_i ?_
      have h_20 := ho.mv c_18 (tagn (by simp))
      refine app_i u24 in32 rfl h_20 (call2a).sl (m := B) (k := 1) ((call2a).1) (hd1_one _) (call2a).none_iff (by unfold maxLen; omega) fun s_21 pa2 pc2 o_24 c_22o _ => ?_
      have c_22 := c_22o.ch h_20 (T := [M + 5]) (by simp)
      have z_23 := c_22.size
      refine dSl_i ?_
      refine wr_t (by omega) ?_
      refine ⟨⟨s_21, rfl, _, _, _, _, rfl, ((((Ch.refl [M + 5] s_4).ch c_12 (by simp)).ch c_18 (by simp)).ch c_22 (by simp)), ?_⟩, ?_⟩
      ·
        have h_25 := call2b.ch c_22 (by simp <;> omega) (by simp <;> omega)
        have h_26 := hb2.ch (c_18.app c_22) (by simp <;> omega) (by simp <;> omega)
        have hb3 : B2 s_21 μ (M + 6) hscall2 (grpL G B N k) := h_25
        have hb4 : B2 s_21 (M + 8) (M + 6) hs (mkL G B N k) := h_26
        refine ⟨k + 1, hs ++ hscall2, by omega, by omega, by rw [hpn, Nat.succ_mul], by have h := o_24; simpa [List.flatMap_append] using h, ?_⟩
        by_cases hk0 : k = 0
        · subst hk0
          have he : hs = [] := List.eq_nil_of_length_eq_zero (by rw [hhl]; simp)
          subst he
          rw [if_pos rfl] at hμ; subst hμ
          exact hb3
        · rw [if_neg hk0] at hμ; subst hμ
          have h1B : 1 * 8 ≤ k * B := Nat.mul_le_mul (by omega) (by omega)
          exact hb4.app hb3.brel (by omega)
      ·
        simp only []; omega
    ·
      have h_27 := h_9.ch c_12 (by simp)
      refine ld_t h_27 rfl ?_
      refine dInt_i ?_
      refine ask_t (by omega) ?_
      refine wr_t (by simp <;> omega) ?_
      refine wr_t (by simp <;> omega) ?_
      have hq4 : Int.tdiv (N : Int) 4 = ((N / 4 : Nat) : Int) := by rw [Int.tdiv_eq_ediv_of_nonneg (by omega)]; omega
      obtain rfl : k = G := by omega
      rw [hq4, show (2 + ((N / 4 : Nat) : Int)) = ((2 + N / 4 : Nat) : Int) by omega]
      refine tcall (c_encDin (M + 12) 2 2 128 (2 + N / 4) 0 0 0 0 0 (by omega) (by unfold DinOk; omega)) ?_
      rintro v_29 s_28 ⟨acall3, ccall3, rfl, c_31, call3a⟩
      have z_32 := c_31.size
      obtain ⟨⟨a2, c2⟩, hx2⟩ : ∃ x, hs[2]? = some x := ⟨hs[2]'(by omega), by simp⟩
      have h_33 := hb2.ch c_31 (by simp <;> omega) (by simp <;> omega)
      have hb0 := h_33
      have ho2 := (hb0.two _ _ hx2 (mkL_two (by omega) (by omega))).2
      obtain ⟨ax, hax⟩ := ho2.ne_none (by omega)
      simp only at hax
      subst hax
      have ho5 : Own s_28 (some ax) 128 c2 5 1 (bvs zB128) (M + 8) := ho2
      have hc2 : 128 ≤ c2 := ho5.le
      refine dT2 ?_
      refine dSl_i ?_
      refine dInt_i ?_
      have h_34 := ho.mv c_31 (tagn (by simp))
      obtain ⟨a_35, rfl⟩ := h_34.ne_none (by omega)
      refine nz_i ?_
      refine ask_t (by omega) ?_
      refine ld_sl (v := .slice (some ax) 128 c2) (h_34).sl (bcell hx2) ?_
      refine dSl_i ?_
      refine ask_t (by omega) ?_
      refine copy_sl (p := 64) (n := 128) u32 in5 ho5 (call3a).sl (dinL_len _ _ _ _ _ _ _ _ _) (by decide) (by decide) fun s_36 ho3 c_37 _ => ?_
      have z_38 := c_37.size
      have hb5 := hb0.cp c_37 (by omega) hx2 (by rw [overlay_len (by rw [dinL_len, zB128_len]; decide)]; exact zB128_len) ho3
      refine dInt_i ?_
      refine al_t (M + 9) fun r68 s69 hr68 b_39 c_40 z_41 => ?_
      refine tcall (c_encDirs (M + 14) 2 (es := dots) (show Sl _ _ (dots.flatMap ev) _ from (b_39).sl) rfl (by omega) (by omega) dots_nc (by omega) (by omega) (by omega) (by omega) dots_ok) ?_
      rintro v_43 s_42 ⟨acall4, ccall4, rfl, c_45, call4a⟩
      have z_46 := c_45.size
      refine dT2 ?_
      refine dSl_i ?_
      refine dInt_i ?_
      refine nz_i ?_
      refine ask_t (by omega) ?_
      have h_50 := h_34.mv ((c_37.app c_40).app c_45) (tagn (by simp))
      refine Own.st h_50 rfl (by rw [Nat.mul_one, Int.toNat_natCast]; omega) fun s79 b_47 c_48o z_49 => ?_
      have c_48 := Ch.on_tag (T := [M + 5]) (Ch.refl _ _) c_48o h_50.tagOf (by simp)
      have h_51 := hb5.ch ((c_40.app c_45).app c_48) (by simp <;> omega) (by simp <;> omega)
      have h_52 := call4a.mv c_48 (tagn (by simp))
      obtain ⟨φ, hφ⟩ : ∃ φ : Nat → Nat, φ = fun m => if m = M + 5 then τo else if m = M + 6 then τb else if m = M + 8 then τb else if m = M + 14 then τb else m := ⟨_, rfl⟩
      have f5 : φ (M + 5) = τo := by subst hφ; exact if_pos rfl
      have f6 : φ (M + 6) = τb := by subst hφ; simp
      have f8 : φ (M + 8) = τb := by subst hφ; simp
      have f14 : φ (M + 14) = τb := by subst hφ; simp
      have h1 := (b_47).rf (φ := φ)
      have h2 := (h_51).rf (φ := φ)
      have h3 := (h_52).rf (φ := φ)
      rw [Int.toNat_natCast, Nat.mul_one, fm_set1 _ _ (acall4, ccall4), f5, hpn] at h1
      rw [f6, f8] at h2
      rw [f14] at h3
      rw [hpn]
      exact ret_t' (s' := remarkF s79 φ) rfl ⟨_, _, _, rfl, remarkF_ch (((((((((Ch.refl [] s).ch c_2 (by simp)).ch c_7 (by simp)).fr c_12 hM (by simp)).fr c_31 hM (by simp)).fr c_37 hM (by simp)).ch c_40 (by simp)).fr c_45 hM (by simp <;> omega)).fr c_48 hM (by simp)) hM (fun m hm => by subst hφ; simp only; rw [if_neg (by omega), if_neg (by omega), if_neg (by omega), if_neg (by omega)]), h1, (h2.brel).set (2 + N / 4) ⟨h3.sl, dots_len⟩⟩
/-- bollard/bollardref17.Make -/
theorem c_makeN (a b c : Int) (s : TH) (hv : ¬ canG a b c) : TRet Try.prog 5 #[.agg #[.int .i64 a, .int .i64 b, .int .i64 c]] s fun v s' => v = .tuple #[.slice none 0 0, .int .i64 170] ∧ Ch [] s s' := by
  obtain ⟨M, hM, hM0, hMa, hMb, hMc, hMd, hMe, hMf⟩ := fresh6 s 0 0 0 0 0 0
  refine F5_calls _ _ _  ?_
  unfold F5
  refine al_t (M + 1) fun r1 s2 hr1 b_1 c_2 z_3 => ?_
  refine ld_t b_1 rfl ?_
  refine ld_t b_1 rfl ?_
  refine ld_t b_1 rfl ?_
  refine tcall (gc_rcan a b c _) ?_
  rintro v_5 s_4 ⟨rfl, c_7⟩
  have z_8 := c_7.size
  rw [if_neg hv]
  refine dInt_i ?_
  refine sB_t (by rfl) ?_
  refine ret_t ?_
  exact ⟨rfl, (((Ch.refl [] s).ch c_2 (by simp)).ch c_7 (by simp))⟩
theorem fdv (n k : Nat) (hk : k ≤ 4) : Int.fdiv (n : Int) (2 ^ min (Int.toNat (8 * (k : Int))) 64) = ((n / 256 ^ k : Nat) : Int) := by
  have e : ((2 : Int) ^ min (Int.toNat (8 * (k : Int))) 64) = ((256 ^ k : Nat) : Int) := by
    rcases (by omega : k = 0 ∨ k = 1 ∨ k = 2 ∨ k = 3 ∨ k = 4) with rfl | rfl | rfl | rfl | rfl <;> decide
  rw [e, Int.fdiv_eq_ediv_of_nonneg _ (Int.natCast_nonneg _)]
  exact (Int.natCast_ediv n (256 ^ k)).symm
theorem u8r (q : Nat) : IntKind.u8.wrap (q : Int) = ((UInt8.ofNat (q % 256)).toNat : Int) := by
  have e : IntKind.u8.wrap (q : Int) = (q : Int) % 256 := rfl
  have e2 : (UInt8.ofNat (q % 256)).toNat = (q % 256) % 256 := rfl
  rw [e, e2]; omega
theorem shl16 (q : Nat) (h : q < 65521) : IntKind.i64.wrap ((q : Int) * 2 ^ min (Int.toNat 16) 64) = (q : Int) * 65536 := by
  have e : ((2 : Int) ^ min (Int.toNat 16) 64) = 65536 := by decide
  rw [e]; exact wrap_id (by omega) (by omega)
theorem div_zero {n k : Nat} (h : n < 256 ^ k) : n / 256 ^ k = 0 := Nat.div_eq_of_lt h
/-- bollard/word.there -/
theorem c_wthere {xa : Option Addr} {xn : Nat} (xc : Nat) (p w : Nat) (s : TH) (hw : 1 ≤ w ∧ w ≤ 4) (hp : p + w ≤ xn) (hb : xn ≤ 1000000000) : TRet Try.prog 59 #[.slice xa xn xc, .int .i64 (p : Int), .int .i64 (w : Int)] s fun v s' => v = .int .i64 0 ∧ Ch [] s s' := by
  refine F59_calls _ _ _ _ _  ?_
  unfold F59
  refine jn_u ?_
  refine sB_d (fun hsB1 => by exfalso; omega) (fun hsB1 => ?_)
  refine sB_d (fun hsB2 => by exfalso; omega) (fun hsB2 => ?_)
  intro _
  intros
  refine dBl_i ?_
  refine sB_d (fun hsB3 => by exfalso; omega) (fun hsB3 => ?_)
  refine jn_u ?_
  refine sB_d (fun hsB4 => by exfalso; omega) (fun hsB4 => ?_)
  refine wr_t (by omega) ?_
  intro _
  intros
  refine dBl_i ?_
  refine sB_d (fun hsB5 => by exfalso; omega) (fun hsB5 => ?_)
  refine ret_t ?_
  exact ⟨rfl, (Ch.refl [] s)⟩
/-- bollard/word.Put -/
theorem c_wput (τ : Nat) {xa : Option Addr} {xn : Nat} (xc : Nat) {l : List UInt8} {τx : Nat} {s : TH} (hx : Sl s xa (bvs l) τx) (hn : l.length = xn) (hb : xn ≤ 1000000000) (p w n : Nat) (hw : 1 ≤ w ∧ w ≤ 4) (hp : p + w ≤ xn) (hN : n < 256 ^ w) (hN2 : n < 4294967296) : TRet Try.prog 47 #[.slice xa xn xc, .int .i64 (p : Int), .int .i64 (w : Int), .int .i64 (n : Int)] s fun v s' => ∃ a' c', v = .tuple #[.slice a' xn c', .int .i64 0] ∧ Ch [] s s' ∧ Own s' a' xn c' 5 1 (bvs (wrL l p w n)) τ := by
  obtain ⟨M, hM, hM0, hMa, hMb, hMc, hMd, hMe, hMf⟩ := fresh6 s τx τ 0 0 0 0
  refine F47_calls _ _ _ _ _ _  ?_
  unfold F47
  refine tcall (c_wthere xc p w _ hw hp hb) ?_
  rintro v_2 s_1 ⟨rfl, c_4⟩
  have z_5 := c_4.size
  refine dInt_i ?_
  refine jn_u ?_
  refine jn_u ?_
  refine sB_t (by rfl) ?_
  refine sB_d (fun hsB2 => by exfalso; omega) (fun hsB2 => ?_)
  refine wr_t (by omega) ?_
  refine ask_t (by omega) ?_
  refine nm_a fun qn hqn => ?_
  rw [fdv _ _ hw.2, div_zero hN] at hqn
  intro _
  intros
  refine dBl_i ?_
  refine sB_nd (fun hsB3 => by exfalso; omega) (fun hsB3 => ?_)
  intro _
  intros
  refine dInt_i ?_
  refine sB_f (by rfl) ?_
  have h_6 := hx.mv c_4 (tagn (by simp))
  refine app_bv (xs := []) u32 in5 (Own.nil _ _ _ (M + 5)) h_6 hn (by omega) fun s_7 a1 c1 o_10 c_8 => ?_
  have z_9 := c_8.size
  have ho0 := o_10
  rw [List.nil_append, Nat.zero_add] at ho0
  simp only [Nat.zero_add]
  refine dSl_i ?_
  refine ⟨fun vs H' => ∃ s' : TH, s'.h = H' ∧ ∃ j, vs = [.int .i64 j] ∧ Ch [M + 5] s_7 s' ∧ (∃ k : Nat, j = k ∧ k ≤ w ∧ Own s' a1 xn c1 5 1 (bvs (wrL l p k n)) (M + 5)), fun vs H' => match vs with | [.int .i64 j] => ((w : Int) - j).toNat | _ => 0, ⟨s_7, rfl, _, rfl, Ch.refl _ _, ?_⟩, ?_⟩
  ·
    exact ⟨0, rfl, by omega, ho0⟩
  ·
    intro j _ _ _ _ _ _ _ _ _ _ _ _ _ _ H_ hI_12
    obtain ⟨s_11, rfl, j_, hvs, c_13, k, rfl, hk, ho⟩ := hI_12
    cases hvs
    have z_14 := c_13.size
    refine sB_d (fun hsB5 => ?_) (fun hsB5 => ?_)
    ·
      refine wr_t (by omega) ?_
      refine wr_t (by omega) ?_
      refine ask_t (by omega) ?_
      rw [fdv _ _ (by omega)]
      refine nm_t rfl ?_
      refine wr_a fun bn hbn => ?_
      rw [u8r] at hbn
      subst hbn
      obtain ⟨a_15, rfl⟩ := ho.ne_none (by omega)
      refine nz_i ?_
      refine ask_t (by omega) ?_
      refine Own.st ho rfl (by omega) fun s51 b_16 c_17o z_18 => ?_
      have c_17 := Ch.on_tag (T := [M + 5]) (Ch.refl _ _) c_17o ho.tagOf (by simp)
      refine wr_t (by omega) ?_
      refine ⟨⟨s51, rfl, _, rfl, (((Ch.refl [M + 5] s_7).ch c_13 (by simp)).ch c_17 (by simp)), ?_⟩, ?_⟩
      ·
        have ho := b_16
        rw [show Int.toNat ((p : Int) + (k : Int)) * 1 = p + k by omega, bvs_set] at ho
        exact ⟨k + 1, by omega, by omega, ho⟩
      ·
        simp only []; omega
    ·
      obtain rfl : k = w := by omega
      exact ret_t' (s' := remark s_11 (M + 5) τ) rfl ⟨_, _, rfl, remark_ch ((((Ch.refl [] s).ch c_4 (by simp)).fr c_8 hM (by simp)).fr c_13 hM (by simp)) hM (by omega), (ho).remark⟩
/-- bollard/word.Sum -/
theorem c_wsum {xa : Option Addr} {xn : Nat} (xc : Nat) {l : List UInt8} {τx : Nat} {s : TH} (hx : Sl s xa (bvs l) τx) (hn : l.length = xn) (hb : xn ≤ 1000000000) : TRet Try.prog 48 #[.slice xa xn xc] s fun v s' => v = .int .i64 (sumN l : Int) ∧ Ch [] s s' := by
  refine F48_calls _ _ _  ?_
  unfold F48
  refine ⟨fun vs H' => ∃ s' : TH, s'.h = H' ∧ ∃ x1 y1 m, vs = [.int .i64 x1, .int .i64 y1, .int .i64 m] ∧ Ch [] s s' ∧ (∃ k : Nat, m = k ∧ k ≤ xn ∧ x1 = ((sumS (l.take k)).1 : Int) ∧ y1 = ((sumS (l.take k)).2 : Int)), fun vs H' => match vs with | [.int .i64 x1, .int .i64 y1, .int .i64 m] => ((xn : Int) - m).toNat | _ => 0, ⟨s, rfl, _, _, _, rfl, Ch.refl _ _, ?_⟩, ?_⟩
  ·
    exact ⟨0, rfl, by omega, rfl, rfl⟩
  ·
    intro x1 y1 m _ _ _ _ _ _ _ _ _ _ _ _ _ _ H_ hI_2
    obtain ⟨s_1, rfl, x1_, y1_, m_, hvs, c_3, k, rfl, hk, rfl, rfl⟩ := hI_2
    cases hvs
    have z_4 := c_3.size
    have hlt := sumS_lt (l.take k)
    refine sB_d (fun hsB1 => ?_) (fun hsB1 => ?_)
    ·
      obtain ⟨b, hbk⟩ : ∃ b, l[k]? = some b := ⟨l[k]'(by omega), by simp⟩
      obtain ⟨ad, rfl⟩ := hx.some (fun e => by have := bvs_get hbk; rw [e] at this; simp at this)
      have hb8 := b.toNat_lt
      refine nz_i ?_
      refine ask_t (by omega) ?_
      have h_5 := hx.mv c_3 (tagn (by simp))
      refine ld_sl h_5 (by rw [Int.toNat_natCast, Nat.mul_one]; exact bvs_get hbk) ?_
      refine dInt_i ?_
      refine wr_t (by omega) ?_
      refine wr_t (by omega) ?_
      refine ask_t (by omega) ?_
      refine nm_a fun n27 hn27 => ?_
      rw [Int.tmod_eq_emod_of_nonneg (by omega)] at hn27
      refine wr_t (by omega) ?_
      refine ask_t (by omega) ?_
      refine nm_a fun n29 hn29 => ?_
      rw [Int.tmod_eq_emod_of_nonneg (by omega)] at hn29
      refine wr_t (by omega) ?_
      refine ⟨⟨s_1, rfl, _, _, _, rfl, ((Ch.refl [] s).ch c_3 (by simp)), ?_⟩, ?_⟩
      ·
        have hs := sumS_snoc (l.take k) b
        rw [show l.take k ++ [b] = l.take (k + 1) by rw [List.take_add_one, hbk]; rfl] at hs
        exact ⟨k + 1, by omega, by omega, by rw [hs]; simp only []; omega, by rw [hs]; simp only []; omega⟩
      ·
        simp only []; omega
    ·
      refine ask_t (by omega) ?_
      rw [shl16 _ hlt.2]
      refine nm_t rfl ?_
      refine wr_t (by omega) ?_
      refine ret_t ?_
      obtain rfl : k = xn := by omega
      rw [List.take_of_length_le (by omega)]
      exact ⟨ret_i (by unfold sumN; omega), ((Ch.refl [] s).ch c_3 (by simp))⟩
/-- bollard/word.Seal -/
theorem c_wseal (τ : Nat) {xa : Option Addr} {xn : Nat} (xc : Nat) {l : List UInt8} {τx : Nat} {s : TH} (hx : Sl s xa (bvs l) τx) (hn : l.length = xn) (hb : xn ≤ 1000000000) (hc : xn ≤ xc) (h4 : 4 ≤ xn) : TRet Try.prog 30 #[.slice xa xn xc] s fun v s' => ∃ a' c', v = .tuple #[.slice a' xn c', .int .i64 0] ∧ Ch [] s s' ∧ Own s' a' xn c' 5 1 (bvs (sealL l)) τ := by
  refine F30_calls _ _ _  ?_
  unfold F30
  refine wr_t (by omega) ?_
  rw [show ((xn : Int) - 4) = ((xn - 4 : Nat) : Int) by omega]
  refine sB_d (fun hsB1 => by exfalso; omega) (fun hsB1 => ?_)
  refine ask_t (by omega) ?_
  simp only [slO_zero, Int.toNat_zero, Nat.sub_zero, Int.toNat_natCast]
  refine tcall (c_wsum (xn := xn - 4) xc (hx.takeB (xn - 4)) (by simp; omega) (by omega)) ?_
  rintro v_2 s_1 ⟨rfl, c_4⟩
  have z_5 := c_4.size
  refine dInt_i ?_
  have h_6 := hx.mv c_4 (tagn (by simp))
  refine tcall (c_wput τ xc h_6 hn hb (xn - 4) 4 (sumN (l.take (xn - 4))) (by omega) (by omega) (sumN_lt _) (Nat.lt_of_lt_of_le (sumN_lt _) (by decide))) ?_
  rintro v_8 s_7 ⟨acall2, ccall2, rfl, c_10, call2a⟩
  have z_11 := c_10.size
  refine dT2 ?_
  refine dSl_i ?_
  refine dInt_i ?_
  refine ret_t ?_
  exact ⟨_, _, rfl, (((Ch.refl [] s).ch c_4 (by simp)).ch c_10 (by simp)), by unfold sealL; rw [hn]; exact call2a⟩
/-- a field of a structure: its width, what it is at most, its number -/
structure FldM where
  w : Nat
  m : Nat
  n : Nat
def fc (f : FldM) : List Value := [.int .i64 (f.w : Int), .int .i64 (f.m : Int), .int .i64 (f.n : Int)]
theorem fc_len (f : FldM) : (fc f).length = 3 := rfl
theorem fcell (n : Nat) (hn : n < 3) {ls : List FldM} {k : Nat} {x : FldM} (h : ls[k]? = some x) : (ls.flatMap fc)[k * 3 + n]? = (fc x)[n]? := fm_get fc_len ls k n x h hn
def numL (n : Nat) : Nat → List UInt8
  | 0 => []
  | k + 1 => numL n k ++ [UInt8.ofNat (n / 256 ^ k % 256)]
theorem numL_len (n : Nat) : ∀ k, (numL n k).length = k
  | 0 => rfl
  | k + 1 => by rw [numL, List.length_append, numL_len n k]; rfl
def fldsL (fs : List FldM) : List UInt8 := fs.flatMap fun f => numL f.n f.w
theorem fldsL_snoc {fs : List FldM} {k : Nat} {f : FldM} (h : fs[k]? = some f) : fldsL (fs.take (k + 1)) = fldsL (fs.take k) ++ numL f.n f.w := by
  unfold fldsL
  rw [List.take_add_one, h]
  simp
theorem fldsL_le {fs : List FldM} : ∀ k, (fldsL (fs.take k)).length ≤ (fldsL fs).length := fun k => by
  have e : fldsL fs = fldsL (fs.take k) ++ fldsL (fs.drop k) := by unfold fldsL; rw [← List.flatMap_append, List.take_append_drop]
  rw [e, List.length_append]; omega
/-- bollard/layout.fit -/
theorem c_lfit {fa : Option Addr} {fn : Nat} (fk : Nat) {fs : List FldM} {τf : Nat} (s : TH) (hf : Sl s fa (fs.flatMap fc) τf) (hfn : fs.length = fn) (hf0 : fa = none → fn = 0) (hfb : fn ≤ 1000) (hfl : ∀ f ∈ fs, f.n ≤ f.m) : TRet Try.prog 29 #[.slice fa fn fk] s fun v s' => v = .bool true ∧ Ch [] s s' := by
  obtain ⟨M, hM, hM0, hMa, hMb, hMc, hMd, hMe, hMf⟩ := fresh6 s τf 0 0 0 0 0
  refine F29_calls _ _ _  ?_
  unfold F29
  refine ⟨fun vs H' => ∃ s' : TH, s'.h = H' ∧ ∃ i, vs = [.int .i64 i] ∧ Ch [M + 9] s s' ∧ (∃ k : Nat, i = k ∧ k ≤ fn), fun vs H' => match vs with | [.int .i64 i] => ((fn : Int) - i).toNat | _ => 0, ⟨s, rfl, _, rfl, Ch.refl _ _, ?_⟩, ?_⟩
  ·
    exact ⟨0, rfl, by omega⟩
  ·
    intro i _ _ _ _ _ _ _ _ _ _ _ _ _ _ _ _ H_ hI_2
    obtain ⟨s_1, rfl, i_, hvs, c_3, k, rfl, hk⟩ := hI_2
    cases hvs
    have z_4 := c_3.size
    refine sB_d (fun hsB1 => ?_) (fun hsB1 => ?_)
    ·
      obtain ⟨f, hxe⟩ : ∃ f, fs[k]? = some f := ⟨fs[k]'(by omega), by simp⟩
      have hff := hfl f (List.mem_of_getElem? hxe)
      obtain ⟨a, rfl⟩ := Option.ne_none_iff_exists'.1 (fun e => absurd (hf0 e) (by omega))
      refine nz_i ?_
      refine ask_t (by omega) ?_
      have h_5 := hf.mv c_3 (tagn (by simp <;> omega))
      refine ld_sl h_5 (by rw [Int.toNat_natCast]; exact fcell 0 (by omega) hxe) ?_
      refine ld_sl2 h_5 (by rw [Int.toNat_natCast]; exact fcell 1 (by omega) hxe) ?_
      refine ld_sl2 h_5 (by rw [Int.toNat_natCast]; exact fcell 2 (by omega) hxe) ?_
      refine al_t (M + 9) fun r26 s27 hr26 b_6 c_7 z_8 => ?_
      refine st_t b_6 rfl (by simp) fun s28 b_9 c_10o z_11 => ?_
      have c_10 := on_ch b_6 c_10o
      refine st_t b_9 rfl (by simp) fun s29 b_12 c_13o z_14 => ?_
      have c_13 := on_ch b_9 c_13o
      refine st_t b_12 rfl (by simp) fun s30 b_15 c_16o z_17 => ?_
      have c_16 := on_ch b_12 c_16o
      refine jn_u ?_
      refine ld_t b_15 rfl ?_
      refine dInt_i ?_
      refine sB_d (fun hsB2 => by exfalso; omega) (fun hsB2 => ?_)
      refine ld_t b_15 rfl ?_
      refine dInt_i ?_
      refine ld_t b_15 rfl ?_
      refine dInt_i ?_
      intro _
      intros
      refine dBl_i ?_
      refine sB_d (fun hsB3 => by exfalso; omega) (fun hsB3 => ?_)
      refine wr_t (by omega) ?_
      refine ⟨⟨s30, rfl, _, rfl, ((((((Ch.refl [M + 9] s).ch c_3 (by simp)).ch c_7 (by simp)).ch c_10 (by simp)).ch c_13 (by simp)).ch c_16 (by simp)), ?_⟩, ?_⟩
      ·
        exact ⟨k + 1, by omega, by omega⟩
      ·
        simp only []; omega
    ·
      refine ret_t ?_
      exact ⟨rfl, ((Ch.refl [] s).fr c_3 hM (by simp))⟩
/-- what bytes are appended to: a row of its own, or a full one -/
structure AppB (s : TH) (pa : Option Addr) (pn pc : Nat) (l : List UInt8) (τ0 τ : Nat) : Prop where
  or_ : Own s pa pn pc 5 1 (bvs l) τ ∨ ∃ a, pa = some a ∧ pc = pn ∧ l.length = pn ∧ Sl s (some a) (bvs l) τ0
theorem AppB.ch {s s' : TH} {pa : Option Addr} {pn pc : Nat} {l : List UInt8} {τ0 τ : Nat} {T : List Nat} (h : AppB s pa pn pc l τ0 τ) (c : Ch T s s') (h0 : τ0 ∉ T) (h1 : τ ∉ T) : AppB s' pa pn pc l τ0 τ := by
  rcases h.or_ with h | ⟨a, e1, e2, e3, h⟩
  · exact ⟨.inl (h.mv c (fun j hj e hB => h1 (by have hB2 : s.g j ∈ T := hB; rw [e] at hB2; exact hB2)))⟩
  · exact ⟨.inr ⟨a, e1, e2, e3, h.mv c (fun j hj e hB => h0 (by have hB2 : s.g j ∈ T := hB; rw [e] at hB2; exact hB2))⟩⟩
theorem AppB.sl {s : TH} {pa : Option Addr} {pn pc : Nat} {l : List UInt8} {τ0 τ : Nat} (h : AppB s pa pn pc l τ0 τ) : ∃ σ, Sl s pa (bvs l) σ ∧ l.length = pn := by
  rcases h.or_ with h | ⟨a, rfl, e2, e3, h⟩
  · exact ⟨τ, h.sl, by have := h.1; rw [bvs_len] at this; omega⟩
  · exact ⟨τ0, h, e3⟩
theorem AppB.app {E : List PanicEntry → Heap → Prop} {s : TH} {pa : Option Addr} {pn pc m mc τ0 τ τx : Nat} {b : Addr} {l x : List UInt8} {K : Value → Heap → Prop} (h : AppB s pa pn pc l τ0 τ) (hy : Sl s (some b) (bvs x) τx) (hxl : x.length = m) (hm : 0 < m) (hb : pn ≤ 1000000000 ∧ m ≤ 1000000000)
    (hk : ∀ (s' : TH) (a' : Option Addr) (c' : Nat), Own s' a' (pn + m) c' 5 1 (bvs (l ++ x)) τ → Ch [τ] s s' → K (.slice a' (pn + m) c') s'.h) :
    semW Try.prog (Builtin.append_ #[32, 32] 32 #[.slice pa pn pc, .slice (some b) m mc]) E s.h K := by
  rcases h.or_ with h | ⟨a, rfl, rfl, e3, h⟩
  · exact app_bv u32 in5 h hy hxl (by omega) fun s' a' c' o c => hk s' a' c' o c
  · exact app_g τ u32 in5 h e3 hy hxl hm hb fun s' a' c' o c _ => hk s' a' c' o (c.mono (by simp))
/-- bollard/layout.fields -/
theorem c_lfields {pa : Option Addr} {pn pc τ0 τ : Nat} {l : List UInt8} {fa : Option Addr} {fn : Nat} (fk : Nat) {fs : List FldM} {τf : Nat} (s : TH) (hb : AppB s pa pn pc l τ0 τ) (hf : Sl s fa (fs.flatMap fc) τf) (hfn : fs.length = fn) (hf0 : fa = none → fn = 0) (hfb : fn ≤ 1000) (hτ : τf ≠ τ) (hτ2 : τ0 ≠ τ) (hfl : ∀ f ∈ fs, f.w ≤ 4 ∧ f.n < 4294967296) (hmx : pn + (fldsL fs).length ≤ 1000) : TRet Try.prog 32 #[.slice pa pn pc, .slice fa fn fk] s fun v s' => ∃ a' c', v = .slice a' (pn + (fldsL fs).length) c' ∧ Ch [τ] s s' ∧ AppB s' a' (pn + (fldsL fs).length) c' (l ++ fldsL fs) τ0 τ := by
  obtain ⟨M, hM, hM0, hMa, hMb, hMc, hMd, hMe, hMf⟩ := fresh6 s τ0 τ τf 0 0 0
  refine F32_calls _ _ _ _ _ _  ?_
  unfold F32
  refine ⟨fun vs H' => ∃ s' : TH, s'.h = H' ∧ ∃ qa qn qc i, vs = [.slice qa qn qc, .int .i64 i] ∧ Ch [τ, M + 9] s s' ∧ (∃ k : Nat, i = k ∧ k ≤ fn ∧ qn = pn + (fldsL (fs.take k)).length ∧ AppB s' qa qn qc (l ++ fldsL (fs.take k)) τ0 τ), fun vs H' => match vs with | [.slice qa qn qc, .int .i64 i] => ((fn : Int) - i).toNat | _ => 0, ⟨s, rfl, _, _, _, _, rfl, Ch.refl _ _, ?_⟩, ?_⟩
  ·
    exact ⟨0, rfl, by omega, rfl, by rw [List.take_zero]; show AppB _ _ _ _ (l ++ []) _ _; rw [List.append_nil]; exact hb⟩
  ·
    intro qa qn qc i _ _ _ _ _ _ _ _ _ _ _ _ _ _ _ _ _ _ _ _ _ H_ hI_2
    obtain ⟨s_1, rfl, qa_, qn_, qc_, i_, hvs, c_3, k, rfl, hk, hqn, ho⟩ := hI_2
    cases hvs
    have z_4 := c_3.size
    have hle := fldsL_le (fs := fs) k
    refine sB_d (fun hsB1 => ?_) (fun hsB1 => ?_)
    ·
      obtain ⟨f, hxe⟩ : ∃ f, fs[k]? = some f := ⟨fs[k]'(by omega), by simp⟩
      have hff := hfl f (List.mem_of_getElem? hxe)
      obtain ⟨a, rfl⟩ := Option.ne_none_iff_exists'.1 (fun e => absurd (hf0 e) (by omega))
      refine nz_i ?_
      refine ask_t (by omega) ?_
      have h_5 := hf.mv c_3 (tagn (by simp <;> omega))
      refine ld_sl h_5 (by rw [Int.toNat_natCast]; exact fcell 0 (by omega) hxe) ?_
      refine ld_sl2 h_5 (by rw [Int.toNat_natCast]; exact fcell 1 (by omega) hxe) ?_
      refine ld_sl2 h_5 (by rw [Int.toNat_natCast]; exact fcell 2 (by omega) hxe) ?_
      refine al_t (M + 9) fun r34 s35 hr34 b_6 c_7 z_8 => ?_
      refine st_t b_6 rfl (by simp) fun s36 b_9 c_10o z_11 => ?_
      have c_10 := on_ch b_6 c_10o
      refine st_t b_9 rfl (by simp) fun s37 b_12 c_13o z_14 => ?_
      have c_13 := on_ch b_9 c_13o
      refine st_t b_12 rfl (by simp) fun s38 b_15 c_16o z_17 => ?_
      have c_16 := on_ch b_12 c_16o
      refine ld_t b_15 rfl ?_
      refine dInt_i ?_
      refine ⟨fun vs H' => ∃ s' : TH, s'.h = H' ∧ ∃ ra rn rc j, vs = [.slice ra rn rc, .int .i64 j] ∧ Ch [τ] s38 s' ∧ (∃ kj : Nat, j = kj ∧ kj ≤ f.w ∧ rn = qn + kj ∧ AppB s' ra rn rc (l ++ fldsL (fs.take k) ++ numL f.n kj) τ0 τ), fun vs H' => match vs with | [.slice ra rn rc, .int .i64 j] => ((f.w : Int) - j).toNat | _ => 0, ⟨s38, rfl, _, _, _, _, rfl, Ch.refl _ _, ?_⟩, ?_⟩
      ·
        have h_18 := ho.ch (((c_7.app c_10).app c_13).app c_16) (by simp <;> omega) (by simp <;> omega)
        exact ⟨0, rfl, by omega, rfl, by show AppB _ _ _ _ (l ++ fldsL (fs.take k) ++ []) _ _; rw [List.append_nil]; exact h_18⟩
      ·
        intro ra rn rc j _ _ _ _ _ _ _ _ _ _ _ _ _ H_ hI_20
        obtain ⟨s_19, rfl, ra_, rn_, rc_, j_, hvs, c_21, kj, rfl, hkj, hrn, ho2⟩ := hI_20
        cases hvs
        have z_22 := c_21.size
        refine sB_d (fun hsB2 => ?_) (fun hsB2 => ?_)
        ·
          have h_23 := b_15.ch c_21 (by simp <;> omega)
          refine ld_t h_23 rfl ?_
          refine dInt_i ?_
          refine wr_t (by omega) ?_
          refine ask_t (by omega) ?_
          rw [fdv _ _ (by omega)]
          refine nm_t rfl ?_
          refine wr_a fun bn hbn => ?_
          rw [u8r] at hbn
          subst hbn
          refine al_t (M + 9) fun r67 s68 hr67 b_24 c_25 z_26 => ?_
          have hb1 : Sl s68 (some ⟨r67, 0, none⟩) (bvs [UInt8.ofNat (f.n / 256 ^ kj % 256)]) (M + 9) := (b_24).sl
          have h_27 := ho2.ch c_25 (by simp <;> omega) (by simp <;> omega)
          refine AppB.app h_27 hb1 rfl (by omega) (by omega) fun s_28 pa2 pc2 w_31 c_29 => ?_
          have z_30 := c_29.size
          refine dSl_i ?_
          refine wr_t (by omega) ?_
          refine ⟨⟨s_28, rfl, _, _, _, _, rfl, ((((Ch.refl [τ] s38).ch c_21 (by simp)).ch c_25 (by simp)).ch c_29 (by simp)), ?_⟩, ?_⟩
          ·
            exact ⟨kj + 1, by omega, by omega, by omega, by have h := w_31; rw [List.append_assoc] at h; exact ⟨.inl h⟩⟩
          ·
            simp only []; omega
        ·
          refine wr_t (by omega) ?_
          refine ⟨⟨s_19, rfl, _, _, _, _, rfl, (((((((Ch.refl [τ, M + 9] s).ch c_3 (by simp)).ch c_7 (by simp)).ch c_10 (by simp)).ch c_13 (by simp)).ch c_16 (by simp)).ch c_21 (by simp)), ?_⟩, ?_⟩
          ·
            obtain rfl : kj = f.w := by omega
            exact ⟨k + 1, by omega, by omega, by rw [fldsL_snoc hxe, List.length_append, numL_len]; omega, by rw [fldsL_snoc hxe, ← List.append_assoc]; exact ho2⟩
          ·
            simp only []; omega
    ·
      refine ret_t ?_
      obtain rfl : k = fn := by omega
      rw [List.take_of_length_le (by omega)] at hqn ho
      subst hqn
      exact ⟨_, _, rfl, ((Ch.refl [τ] s).fr c_3 hM (by simp)), ho⟩
theorem copy_blkm {P : Program} {t t2 ty e : TypeId} {E : List PanicEntry → Heap → Prop} {s : TH} {r o n m c mc tb : Nat} {xa : Option Addr} {L : List Value} {x : List UInt8} {τ τx : Nat} {K : Value → Heap → Prop}
    (ht : P.underlying t = some (.slice e)) (hi' : (P.info? e).map (fun i => (i.zero, i.size, i.bytes)) = some (some (.int .u8 0), 1, 1))
    (hB : Blk s r L tb τ) (hx : Sl s xa (bvs x) τx) (hm : x.length = m) (hn : 0 < m) (hmn : m ≤ n) (ho : o + n ≤ L.length)
    (hk : ∀ s' : TH, Blk s' r (L.take o ++ bvs x ++ L.drop (o + m)) tb τ → On r s s' → s.h.size = s'.h.size → K (.int .i64 (m : Int)) s'.h) :
    semW P (Builtin.copy_ #[t, t2] ty #[.slice (some ⟨r, o, none⟩) n c, .slice xa m mc]) E s.h K := .mk fun w hw => by
  obtain ⟨i, hi, hz, hs, hby⟩ := info_of hi'
  obtain ⟨b, rfl⟩ := hx.some (fun h => by have := congrArg List.length h; rw [bvs_len, List.length_nil] at this; omega)
  have hmin : min m n = m := by omega
  have hfw := run_firstCells_some (P := P) w 1 m b m mc (bvs x) (by rw [bvs_len]; omega) fun j u hu => hx.cells w hw j u hu
  have hst := run_storeCells_at P r o tb (bvs x) 0 L.toArray w (by rw [hw]; exact hB.get) (by simp [bvs_len]; omega) (bvs_one _)
  simp only [Nat.add_zero, bvs_len] at hst
  have hr : (Builtin.copy_ #[t, t2] ty #[.slice (some ⟨r, o, none⟩) n c, .slice (some b) m mc]).run P w = .ok (.int .i64 (m : Int)) (w.setRow r (L.take o ++ bvs x ++ L.drop (o + m)).toArray) := by
    simp [Builtin.copy_, run_underlying ht, sizeOf, typeInfo, hi, hs, hfw, hst, goInt, Builtin.lenOf, hm, hmin]
  rw [hr]
  have hset : (w.setRow r (L.take o ++ bvs x ++ L.drop (o + m)).toArray).heap[r]? = some (.cells (L.take o ++ bvs x ++ L.drop (o + m)).toArray tb (0, 0)) := setRow_heap w r L.toArray _ tb _ (by rw [hw]; exact hB.get)
  have hK := hk ⟨(w.setRow r (L.take o ++ bvs x ++ L.drop (o + m)).toArray).heap, s.g⟩ ⟨hset, hB.tag⟩ ⟨by simp [← hw], fun _ _ => rfl, fun j hj hn => ?_⟩ (by simp [← hw])
  · exact ⟨hK, rfl, rfl, rfl⟩
  · show (w.setRow r _).heap[j]? = _
    rw [setRow_other w r j _ (fun e => hn (by simp [e])), hw]
/-- bollard/layout.mayGeom -/
theorem c_lmayg (g b n : Nat) (s : TH) (hv : GeoOk g b n) : TRet Try.prog 28 #[.agg #[.int .i64 (g : Int), .int .i64 (b : Int), .int .i64 (n : Int)]] s fun v s' => v = .bool true ∧ Ch [] s s' := by
  have hv2 := hv
  unfold GeoOk at hv2
  obtain ⟨M, hM, hM0, hMa, hMb, hMc, hMd, hMe, hMf⟩ := fresh6 s 0 0 0 0 0 0
  refine F28_calls _ _ _  ?_
  unfold F28
  refine al_t (M + 1) fun r1 s2 hr1 b_1 c_2 z_3 => ?_
  refine ld_t b_1 rfl ?_
  refine dInt_i ?_
  refine sB_d (fun hsB1 => ?_) (fun hsB1 => by exfalso; omega)
  refine ld_t b_1 rfl ?_
  refine dInt_i ?_
  refine sB_d (fun hsB2 => ?_) (fun hsB2 => by exfalso; omega)
  refine ld_t b_1 rfl ?_
  refine dInt_i ?_
  refine sB_d (fun hsB3 => ?_) (fun hsB3 => by exfalso; omega)
  refine ld_t b_1 rfl ?_
  refine dInt_i ?_
  refine sB_d (fun hsB4 => ?_) (fun hsB4 => by exfalso; omega)
  refine ld_t b_1 rfl ?_
  refine dInt_i ?_
  refine sB_d (fun hsB5 => ?_) (fun hsB5 => by exfalso; omega)
  refine ld_t b_1 rfl ?_
  refine dInt_i ?_
  refine sB_d (fun hsB6 => ?_) (fun hsB6 => by exfalso; omega)
  refine ld_t b_1 rfl ?_
  refine dInt_i ?_
  refine ask_t (by omega) ?_
  refine nm_a fun n17 hn17 => ?_
  rw [Int.tmod_eq_emod_of_nonneg (by omega)] at hn17
  refine sB_d (fun hsB7 => ?_) (fun hsB7 => by exfalso; omega)
  refine ld_t b_1 rfl ?_
  refine dInt_i ?_
  refine ld_t b_1 rfl ?_
  refine dInt_i ?_
  refine ask_t (by omega) ?_
  rw [Int.tdiv_eq_ediv_of_nonneg (by omega)]
  refine wr_t (by omega) ?_
  refine wr_t (by omega) ?_
  refine ret_t ?_
  exact ⟨ret_b (by simp; omega), ((Ch.refl [] s).ch c_2 (by simp))⟩
/-- bollard/layout.full -/
theorem c_lfull (τ : Nat) {xa : Option Addr} {xn : Nat} (xc : Nat) {l : List UInt8} {τx : Nat} {s : TH} (hx : Sl s xa (bvs l) τx) (hn : l.length = xn) (n : Nat) (h0 : 0 < xn ∧ xn ≤ n ∧ n ≤ 100000) : TRet Try.prog 31 #[.slice xa xn xc, .int .i64 (n : Int)] s fun v s' => ∃ a c, v = .slice a n c ∧ Ch [] s s' ∧ Own s' a n c 5 1 (bvs (l ++ List.replicate (n - xn) 0)) τ := by
  obtain ⟨M, hM, hM0, hMa, hMb, hMc, hMd, hMe, hMf⟩ := fresh6 s τx τ 0 0 0 0
  refine F31_calls _ _ _ _  ?_
  unfold F31
  refine ask_t (by omega) ?_
  refine al_t (M + 1) fun r1 s2 hr1 b_1 c_2 z_3 => ?_
  have hz := b_1
  rw [rowz, Int.toNat_natCast] at hz
  rw [Int.toNat_natCast]
  have h_4 := hx.mv c_2 (tagn (by simp))
  refine copy_blkm u32 in5 hz h_4 hn (by omega) (by omega) (by rw [bvs_len, List.length_replicate]; omega) fun s_5 r1_8 c_6o _ => ?_
  have c_6 := on_ch hz c_6o
  have z_7 := c_6.size
  refine dInt_i ?_
  refine ask_t (by omega) ?_
  have h1 := r1_8
  have e1 : (bvs (List.replicate n 0)).take 0 ++ bvs l ++ (bvs (List.replicate n 0)).drop (0 + xn) = bvs (l ++ List.replicate (n - xn) 0) := by
    unfold bvs
    rw [List.take_zero, List.nil_append, Nat.zero_add, ← List.map_drop, List.drop_replicate, ← List.map_append]
  rw [e1] at h1
  have h2 := h1.own (n := n) 1 (by rw [bvs_len, List.length_append, List.length_replicate, hn]; omega) (by unfold maxLen; omega)
  simp only [slO_zero, Int.toNat_natCast, Int.toNat_zero, Nat.sub_zero]
  exact ret_t' (s' := remark s_5 (M + 1) τ) rfl ⟨_, _, rfl, remark_ch (((Ch.refl [] s).ch c_2 (by simp)).fr c_6 hM (by simp)) hM (by omega), h2.remark⟩
def supF (g b n m : Nat) : List FldM := [⟨1, 255, g⟩, ⟨1, 255, b - 1⟩, ⟨1, 255, n⟩, ⟨1, 0, 0⟩, ⟨4, 4294967295, m⟩]
set_option maxRecDepth 100000 in
theorem sup_eq (g b n m : Nat) : [98, 111, 108, 108] ++ fldsL (supF g b n m) ++ List.replicate (128 - 12) 0 = wrL (wrL (wrL (wrL superBase 4 1 g) 5 1 (b - 1)) 6 1 n) 8 4 m := rfl
theorem sup_flds (g b n m : Nat) : (fldsL (supF g b n m)).length = 8 := rfl
/-- bollard/layout.EncodeSuper -/
theorem c_lencSuper (τ : Nat) (g b n m : Nat) (s : TH) (hv : GeoOk g b n) (hm : m < 4294967296) : TRet Try.prog 10 #[.agg #[.int .i64 (g : Int), .int .i64 (b : Int), .int .i64 (n : Int), .int .i64 (m : Int)]] s fun v s' => ∃ a' c', v = .tuple #[.slice a' 128 c', .int .i64 0] ∧ Ch [] s s' ∧ Own s' a' 128 c' 5 1 (bvs (superL g b n m)) τ := by
  have hv2 := hv
  unfold GeoOk at hv2
  obtain ⟨M, hM, hM0, hMa, hMb, hMc, hMd, hMe, hMf⟩ := fresh6 s τ 0 0 0 0 0
  refine F10_calls _ _ _ _  ?_
  unfold F10
  refine al_t (M + 1) fun r1 s2 hr1 b_1 c_2 z_3 => ?_
  refine ld_t b_1 rfl ?_
  refine dInt_i ?_
  refine ld_t b_1 rfl ?_
  refine dInt_i ?_
  refine wr_t (by omega) ?_
  rw [show ((b : Int) - 1) = ((b - 1 : Nat) : Int) by omega]
  refine ld_t b_1 rfl ?_
  refine dInt_i ?_
  refine ld_t b_1 rfl ?_
  refine dInt_i ?_
  refine al_t (M + 2) fun r12 s13 hr12 b_4 c_5 z_6 => ?_
  have hf1 : Sl s13 (some ⟨r12, 0, none⟩) ((supF g b n m).flatMap fc) (M + 2) := (b_4).sl
  refine jn1 (fun fv s' => Ch [] s13 s' ∧ (fv = .bool false)) ?_ ?_
  ·
    rintro fv s_7 ⟨c_8, rfl⟩
    have z_9 := c_8.size
    intro _
    intros
    refine dBl_i ?_
    refine sB_f (by rfl) ?_
    refine al_t (M + 3) fun r25 s26 hr25 b_10 c_11 z_12 => ?_
    refine conv_lit u32 u5 (show Blk _ _ (bvs [98, 111, 108, 108]) _ _ from b_10) rfl fun s_13 lit_16 c_14o hsz => ?_
    have c_14 := on_ch b_10 c_14o
    have z_15 := c_14.size
    have hap : AppB s_13 (some ⟨r25, 0, none⟩) 4 4 [98, 111, 108, 108] (M + 3) (M + 4) := ⟨.inr ⟨_, rfl, rfl, rfl, lit_16⟩⟩
    refine dSl_i ?_
    have h_17 := hf1.mv ((c_8.app c_11).app c_14) (tagn (by simp))
    refine tcall (c_lfields 5 _ hap h_17 rfl (fun h => by cases h) (by omega) (by omega) (by omega) (by intro f hf; simp only [supF, List.mem_cons, List.not_mem_nil, or_false] at hf; rcases hf with rfl | rfl | rfl | rfl | rfl <;> simp only [] <;> omega) (by rw [sup_flds]; omega)) ?_
    rintro v_19 s_18 ⟨acall1, ccall1, rfl, c_21, call1a⟩
    have z_22 := c_21.size
    rw [sup_flds]
    obtain ⟨σ, hsl, hsn⟩ := AppB.sl call1a
    refine dSl_i ?_
    refine tcall (c_lfull (M + 10) _ hsl (by rw [hsn, sup_flds]) 128 (by omega)) ?_
    rintro v_24 s_23 ⟨acall2, ccall2, rfl, c_26, call2a⟩
    have z_27 := c_26.size
    rw [sup_eq] at call2a
    refine dSl_i ?_
    refine tcall (c_wseal τ _ (call2a).sl (by simp [wrL_len, superBase]) (by omega) (call2a).le (by omega)) ?_
    rintro v_29 s_28 ⟨acall3, ccall3, rfl, c_31, call3a⟩
    have z_32 := c_31.size
    refine dT2 ?_
    refine dSl_i ?_
    refine dInt_i ?_
    refine ret_t ?_
    exact ⟨_, _, rfl, (((((((((Ch.refl [] s).ch c_2 (by simp)).ch c_5 (by simp)).ch c_8 (by simp)).ch c_11 (by simp)).fr c_14 hM (by simp)).fr c_21 hM (by simp)).ch c_26 (by simp)).ch c_31 (by simp)), call3a⟩
  ·
    intro K_33 hK_33
    have h_34 := b_1.ch c_5 (by simp)
    refine ld_t h_34 rfl ?_
    refine ld_t h_34 rfl ?_
    refine ld_t h_34 rfl ?_
    refine tcall (c_lmayg g b n _ hv) ?_
    rintro v_36 s_35 ⟨rfl, c_38⟩
    have z_39 := c_38.size
    refine dBl_i ?_
    refine sB_f (by rfl) ?_
    have h_40 := hf1.mv c_38 (tagn (by simp))
    refine tcall (c_lfit 5 _ h_40 rfl (fun h => by cases h) (by omega) (by intro f hf; simp only [supF, List.mem_cons, List.not_mem_nil, or_false] at hf; rcases hf with rfl | rfl | rfl | rfl | rfl <;> simp only [] <;> omega)) ?_
    rintro v_42 s_41 ⟨rfl, c_44⟩
    have z_45 := c_44.size
    refine dBl_i ?_
    refine hK_33 _ _ ⟨(((Ch.refl [] s13).ch c_38 (by simp)).ch c_44 (by simp)), ?_⟩
    exact rfl
theorem len8 {l : List UInt8} (h0 : l.length = 8) : ∃ i0 i1 i2 i3 i4 i5 i6 i7 : UInt8, l = [i0, i1, i2, i3, i4, i5, i6, i7] := by
  obtain ⟨i0, l, rfl⟩ := List.exists_cons_of_length_eq_add_one (n := 7) h0
  have h1 : l.length = 7 := by simpa using h0
  obtain ⟨i1, l, rfl⟩ := List.exists_cons_of_length_eq_add_one (n := 6) h1
  have h2 : l.length = 6 := by simpa using h1
  obtain ⟨i2, l, rfl⟩ := List.exists_cons_of_length_eq_add_one (n := 5) h2
  have h3 : l.length = 5 := by simpa using h2
  obtain ⟨i3, l, rfl⟩ := List.exists_cons_of_length_eq_add_one (n := 4) h3
  have h4 : l.length = 4 := by simpa using h3
  obtain ⟨i4, l, rfl⟩ := List.exists_cons_of_length_eq_add_one (n := 3) h4
  have h5 : l.length = 3 := by simpa using h4
  obtain ⟨i5, l, rfl⟩ := List.exists_cons_of_length_eq_add_one (n := 2) h5
  have h6 : l.length = 2 := by simpa using h5
  obtain ⟨i6, l, rfl⟩ := List.exists_cons_of_length_eq_add_one (n := 1) h6
  have h7 : l.length = 1 := by simpa using h6
  obtain ⟨i7, l, rfl⟩ := List.exists_cons_of_length_eq_add_one (n := 0) h7
  have h8 : l.length = 0 := by simpa using h7
  obtain rfl := List.eq_nil_of_length_eq_zero h8
  exact ⟨i0, i1, i2, i3, i4, i5, i6, i7, rfl⟩
set_option maxRecDepth 20000 in
theorem dA41 {v0 v1 v2 v3 v4 v5 v6 v7 v8 v9 v10 v11 v12 v13 v14 v15 v16 v17 v18 v19 v20 v21 v22 v23 v24 v25 v26 v27 v28 v29 v30 v31 v32 v33 v34 v35 v36 v37 v38 v39 v40 : Value} {k : VF 41} (h : (k : Value → Value → Value → Value → Value → Value → Value → Value → Value → Value → Value → Value → Value → Value → Value → Value → Value → Value → Value → Value → Value → Value → Value → Value → Value → Value → Value → Value → Value → Value → Value → Value → Value → Value → Value → Value → Value → Value → Value → Value → Value → Prop) v0 v1 v2 v3 v4 v5 v6 v7 v8 v9 v10 v11 v12 v13 v14 v15 v16 v17 v18 v19 v20 v21 v22 v23 v24 v25 v26 v27 v28 v29 v30 v31 v32 v33 v34 v35 v36 v37 v38 v39 v40) : dA 41 (.agg ([v0, v1, v2, v3, v4, v5, v6, v7, v8, v9, v10, v11, v12, v13, v14, v15, v16, v17, v18, v19, v20, v21, v22, v23, v24, v25, v26, v27, v28, v29, v30, v31, v32, v33, v34, v35, v36, v37, v38, v39, v40] : List Value).toArray) k := h
set_option maxRecDepth 20000 in
theorem ld41 {s : TH} {r t τ : Nat} {w0 w1 w2 w3 w4 w5 w6 w7 w8 w9 w10 w11 w12 w13 w14 w15 w16 w17 w18 w19 w20 w21 w22 w23 w24 w25 w26 w27 w28 w29 w30 w31 w32 w33 w34 w35 w36 w37 w38 w39 w40 : Value} {k : Value → Value → Value → Value → Value → Value → Value → Value → Value → Value → Value → Value → Value → Value → Value → Value → Value → Value → Value → Value → Value → Value → Value → Value → Value → Value → Value → Value → Value → Value → Value → Value → Value → Value → Value → Value → Value → Value → Value → Value → Value → Prop} (h : Blk s r [w0, w1, w2, w3, w4, w5, w6, w7, w8, w9, w10, w11, w12, w13, w14, w15, w16, w17, w18, w19, w20, w21, w22, w23, w24, w25, w26, w27, w28, w29, w30, w31, w32, w33, w34, w35, w36, w37, w38, w39, w40] t τ) (hk : k w0 w1 w2 w3 w4 w5 w6 w7 w8 w9 w10 w11 w12 w13 w14 w15 w16 w17 w18 w19 w20 w21 w22 w23 w24 w25 w26 w27 w28 w29 w30 w31 w32 w33 w34 w35 w36 w37 w38 w39 w40) : ld s.h ⟨r, 0, none⟩ fun v0 => ld s.h ⟨r, 1, none⟩ fun v1 => ld s.h ⟨r, 2, none⟩ fun v2 => ld s.h ⟨r, 3, none⟩ fun v3 => ld s.h ⟨r, 4, none⟩ fun v4 => ld s.h ⟨r, 5, none⟩ fun v5 => ld s.h ⟨r, 6, none⟩ fun v6 => ld s.h ⟨r, 7, none⟩ fun v7 => ld s.h ⟨r, 8, none⟩ fun v8 => ld s.h ⟨r, 9, none⟩ fun v9 => ld s.h ⟨r, 10, none⟩ fun v10 => ld s.h ⟨r, 11, none⟩ fun v11 => ld s.h ⟨r, 12, none⟩ fun v12 => ld s.h ⟨r, 13, none⟩ fun v13 => ld s.h ⟨r, 14, none⟩ fun v14 => ld s.h ⟨r, 15, none⟩ fun v15 => ld s.h ⟨r, 16, none⟩ fun v16 => ld s.h ⟨r, 17, none⟩ fun v17 => ld s.h ⟨r, 18, none⟩ fun v18 => ld s.h ⟨r, 19, none⟩ fun v19 => ld s.h ⟨r, 20, none⟩ fun v20 => ld s.h ⟨r, 21, none⟩ fun v21 => ld s.h ⟨r, 22, none⟩ fun v22 => ld s.h ⟨r, 23, none⟩ fun v23 => ld s.h ⟨r, 24, none⟩ fun v24 => ld s.h ⟨r, 25, none⟩ fun v25 => ld s.h ⟨r, 26, none⟩ fun v26 => ld s.h ⟨r, 27, none⟩ fun v27 => ld s.h ⟨r, 28, none⟩ fun v28 => ld s.h ⟨r, 29, none⟩ fun v29 => ld s.h ⟨r, 30, none⟩ fun v30 => ld s.h ⟨r, 31, none⟩ fun v31 => ld s.h ⟨r, 32, none⟩ fun v32 => ld s.h ⟨r, 33, none⟩ fun v33 => ld s.h ⟨r, 34, none⟩ fun v34 => ld s.h ⟨r, 35, none⟩ fun v35 => ld s.h ⟨r, 36, none⟩ fun v36 => ld s.h ⟨r, 37, none⟩ fun v37 => ld s.h ⟨r, 38, none⟩ fun v38 => ld s.h ⟨r, 39, none⟩ fun v39 => ld s.h ⟨r, 40, none⟩ fun v40 => k v0 v1 v2 v3 v4 v5 v6 v7 v8 v9 v10 v11 v12 v13 v14 v15 v16 v17 v18 v19 v20 v21 v22 v23 v24 v25 v26 v27 v28 v29 v30 v31 v32 v33 v34 v35 v36 v37 v38 v39 v40 := by
  refine ld_t h rfl ?_
  refine ld_t h rfl ?_
  refine ld_t h rfl ?_
  refine ld_t h rfl ?_
  refine ld_t h rfl ?_
  refine ld_t h rfl ?_
  refine ld_t h rfl ?_
  refine ld_t h rfl ?_
  refine ld_t h rfl ?_
  refine ld_t h rfl ?_
  refine ld_t h rfl ?_
  refine ld_t h rfl ?_
  refine ld_t h rfl ?_
  refine ld_t h rfl ?_
  refine ld_t h rfl ?_
  refine ld_t h rfl ?_
  refine ld_t h rfl ?_
  refine ld_t h rfl ?_
  refine ld_t h rfl ?_
  refine ld_t h rfl ?_
  refine ld_t h rfl ?_
  refine ld_t h rfl ?_
  refine ld_t h rfl ?_
  refine ld_t h rfl ?_
  refine ld_t h rfl ?_
  refine ld_t h rfl ?_
  refine ld_t h rfl ?_
  refine ld_t h rfl ?_
  refine ld_t h rfl ?_
  refine ld_t h rfl ?_
  refine ld_t h rfl ?_
  refine ld_t h rfl ?_
  refine ld_t h rfl ?_
  refine ld_t h rfl ?_
  refine ld_t h rfl ?_
  refine ld_t h rfl ?_
  refine ld_t h rfl ?_
  refine ld_t h rfl ?_
  refine ld_t h rfl ?_
  refine ld_t h rfl ?_
  refine ld_t h rfl ?_
  exact hk
/-- cells stored one behind another -/
def stsL (H : Heap) (r : Nat) : Nat → List Value → (Heap → Prop) → Prop
  | _, [], k => k H
  | i, v :: vs, k => st H ⟨r, i, none⟩ v fun H' => stsL H' r (i + 1) vs k
theorem stsL_t {r t τ : Nat} {k : Heap → Prop} : ∀ (vs : List Value) (i : Nat) (l : List Value) (s : TH), Blk s r l t τ → l.length = i + vs.length → (∀ v ∈ vs, oneC v = true) →
    (∀ s' : TH, Blk s' r (l.take i ++ vs) t τ → On r s s' → s.h.size = s'.h.size → k s'.h) → stsL s.h r i vs k
  | [], i, l, s, h, hl, h1, hk => by
    refine hk s ?_ ⟨Nat.le_refl _, fun _ _ => rfl, fun _ _ _ => rfl⟩ rfl
    rw [List.take_of_length_le (by simp at hl; omega), List.append_nil]; exact h
  | v :: vs, i, l, s, h, hl, h1, hk => by
    rw [List.length_cons] at hl
    refine st_t h (h1 v (by simp)) (by omega) fun s' b c z => ?_
    refine stsL_t vs (i + 1) (l.set i v) s' b (by rw [List.length_set]; omega) (fun u hu => h1 u (by simp [hu])) fun s2 b2 c2 z2 => hk s2 ?_ (c.trans c2 fun _ _ h => h) (z.trans z2)
    have e : (l.set i v).take (i + 1) ++ vs = l.take i ++ v :: vs := by
      rw [List.take_add_one, List.getElem?_set_self (by omega), List.take_set_of_le (Nat.le_refl _)]
      simp
    rw [← e]; exact b2
theorem gv_one (n : Int) (il bl : List UInt8) : ∀ v ∈ gv n il bl, oneC v = true := by
  intro v hv
  unfold gv at hv
  rcases List.mem_cons.1 hv with rfl | hv
  · rfl
  · rcases List.mem_append.1 hv with hv | hv <;> (unfold bvs at hv; obtain ⟨b, _, rfl⟩ := List.mem_map.1 hv; rfl)
set_option maxRecDepth 20000 in
/-- all cells of a header are stored -/
theorem stG {s : TH} {r t τ : Nat} {l : List Value} {k : Heap → Prop} (n : Int) {il bl : List UInt8} (h8 : il.length = 8) (h32 : bl.length = 32) {v0 v1 v2 v3 v4 v5 v6 v7 v8 v9 v10 v11 v12 v13 v14 v15 v16 v17 v18 v19 v20 v21 v22 v23 v24 v25 v26 v27 v28 v29 v30 v31 v32 v33 v34 v35 v36 v37 v38 v39 v40 : Value} (he : gv n il bl = [v0, v1, v2, v3, v4, v5, v6, v7, v8, v9, v10, v11, v12, v13, v14, v15, v16, v17, v18, v19, v20, v21, v22, v23, v24, v25, v26, v27, v28, v29, v30, v31, v32, v33, v34, v35, v36, v37, v38, v39, v40]) (h : Blk s r l t τ) (hl : l.length = 41)
    (hk : ∀ s' : TH, Blk s' r (gv n il bl) t τ → On r s s' → s.h.size = s'.h.size → k s'.h) : st s.h ⟨r, 0, none⟩ v0 fun H0 => st H0 ⟨r, 1, none⟩ v1 fun H1 => st H1 ⟨r, 2, none⟩ v2 fun H2 => st H2 ⟨r, 3, none⟩ v3 fun H3 => st H3 ⟨r, 4, none⟩ v4 fun H4 => st H4 ⟨r, 5, none⟩ v5 fun H5 => st H5 ⟨r, 6, none⟩ v6 fun H6 => st H6 ⟨r, 7, none⟩ v7 fun H7 => st H7 ⟨r, 8, none⟩ v8 fun H8 => st H8 ⟨r, 9, none⟩ v9 fun H9 => st H9 ⟨r, 10, none⟩ v10 fun H10 => st H10 ⟨r, 11, none⟩ v11 fun H11 => st H11 ⟨r, 12, none⟩ v12 fun H12 => st H12 ⟨r, 13, none⟩ v13 fun H13 => st H13 ⟨r, 14, none⟩ v14 fun H14 => st H14 ⟨r, 15, none⟩ v15 fun H15 => st H15 ⟨r, 16, none⟩ v16 fun H16 => st H16 ⟨r, 17, none⟩ v17 fun H17 => st H17 ⟨r, 18, none⟩ v18 fun H18 => st H18 ⟨r, 19, none⟩ v19 fun H19 => st H19 ⟨r, 20, none⟩ v20 fun H20 => st H20 ⟨r, 21, none⟩ v21 fun H21 => st H21 ⟨r, 22, none⟩ v22 fun H22 => st H22 ⟨r, 23, none⟩ v23 fun H23 => st H23 ⟨r, 24, none⟩ v24 fun H24 => st H24 ⟨r, 25, none⟩ v25 fun H25 => st H25 ⟨r, 26, none⟩ v26 fun H26 => st H26 ⟨r, 27, none⟩ v27 fun H27 => st H27 ⟨r, 28, none⟩ v28 fun H28 => st H28 ⟨r, 29, none⟩ v29 fun H29 => st H29 ⟨r, 30, none⟩ v30 fun H30 => st H30 ⟨r, 31, none⟩ v31 fun H31 => st H31 ⟨r, 32, none⟩ v32 fun H32 => st H32 ⟨r, 33, none⟩ v33 fun H33 => st H33 ⟨r, 34, none⟩ v34 fun H34 => st H34 ⟨r, 35, none⟩ v35 fun H35 => st H35 ⟨r, 36, none⟩ v36 fun H36 => st H36 ⟨r, 37, none⟩ v37 fun H37 => st H37 ⟨r, 38, none⟩ v38 fun H38 => st H38 ⟨r, 39, none⟩ v39 fun H39 => st H39 ⟨r, 40, none⟩ v40 fun H40 => k H40 := by
  have h0 := stsL_t (k := k) (gv n il bl) 0 l s h (by rw [gv_len h8 h32, hl]) (gv_one n il bl) fun s' b c z => hk s' (by simpa using b) c z
  rw [he] at h0
  exact h0
/-- bollard/layout.EncodeGroup -/
theorem c_lencGroup (τ n : Nat) (i0 i1 i2 i3 i4 i5 i6 i7 b0 b1 b2 b3 b4 b5 b6 b7 b8 b9 b10 b11 b12 b13 b14 b15 b16 b17 b18 b19 b20 b21 b22 b23 b24 b25 b26 b27 b28 b29 b30 b31 : UInt8) (s : TH) (hn : n ≤ 7) : TRet Try.prog 12 #[.agg (gv (n : Int) [i0, i1, i2, i3, i4, i5, i6, i7] [b0, b1, b2, b3, b4, b5, b6, b7, b8, b9, b10, b11, b12, b13, b14, b15, b16, b17, b18, b19, b20, b21, b22, b23, b24, b25, b26, b27, b28, b29, b30, b31]).toArray] s fun v s' => ∃ a' c', v = .tuple #[.slice a' 128 c', .int .i64 0] ∧ Ch [] s s' ∧ Own s' a' 128 c' 5 1 (bvs (hdL n [i0, i1, i2, i3, i4, i5, i6, i7] [b0, b1, b2, b3, b4, b5, b6, b7, b8, b9, b10, b11, b12, b13, b14, b15, b16, b17, b18, b19, b20, b21, b22, b23, b24, b25, b26, b27, b28, b29, b30, b31])) τ := by
  obtain ⟨M, hM, hM0, hMa, hMb, hMc, hMd, hMe, hMf⟩ := fresh6 s τ 0 0 0 0 0
  refine F12_calls _ _ _ _ _ _ _ _ _ _ _ _ _ _ _ _ _ _ _ _ _ _ _ _ _ _ _ _ _ _ _ _ _ _ _ _ _ _ _ _ _  ?_
  unfold F12
  refine al_t (M + 1) fun r1 s2 hr1 b_1 c_2 z_3 => ?_
  have hg1 : Blk s2 r1 (gv (n : Int) [i0, i1, i2, i3, i4, i5, i6, i7] [b0, b1, b2, b3, b4, b5, b6, b7, b8, b9, b10, b11, b12, b13, b14, b15, b16, b17, b18, b19, b20, b21, b22, b23, b24, b25, b26, b27, b28, b29, b30, b31]) 43 (M + 1) := b_1
  clear b_1
  refine jn_u ?_
  refine ld_t hg1 rfl ?_
  refine dInt_i ?_
  refine sB_d (fun hsB1 => by exfalso; omega) (fun hsB1 => ?_)
  refine ld_t hg1 rfl ?_
  refine dInt_i ?_
  intro _
  intros
  refine dBl_i ?_
  refine sB_d (fun hsB2 => by exfalso; omega) (fun hsB2 => ?_)
  refine al_t (M + 2) fun r13 s14 hr13 b_4 c_5 z_6 => ?_
  refine conv_lit u32 u5 (show Blk _ _ (bvs [104, 100]) _ _ from b_4) rfl fun s_7 lit_10 c_8o hsz => ?_
  have c_8 := on_ch b_4 c_8o
  have z_9 := c_8.size
  refine dSl_i ?_
  have h_11 := hg1.ch (c_5.app c_8) (by simp)
  refine ld_t h_11 rfl ?_
  refine dInt_i ?_
  refine wr_a fun n24 hn24 => ?_
  refine al_t (M + 3) fun r25 s26 hr25 b_12 c_13 z_14 => ?_
  have h_15 := lit_10.mv c_13 (tagn (by simp))
  refine app_g (x := [UInt8.ofNat n, 0]) (M + 4) u32 in5 h_15 rfl (by have h := (b_12).sl; rw [hn24, u8n (by omega)] at h; exact h) rfl (by omega) (by omega) fun s_16 a2 c2 o_19 c_17 hne => ?_
  have z_18 := c_17.size
  refine dSl_i ?_
  refine ask_t (by omega) ?_
  rw [slO_zero]
  have h_20 := h_11.ch (c_13.app c_17) (by simp)
  refine app_bv u32 in5 o_19 (gv_slI h_20 rfl rfl) rfl (by omega) fun s_21 a3 c3 o_24 c_22 => ?_
  have z_23 := c_22.size
  refine dSl_i ?_
  refine ask_t (by omega) ?_
  rw [slO_zero]
  have h_25 := h_20.ch c_22 (by simp)
  refine app_bv u32 in5 o_24 (gv_slB h_25 rfl rfl) rfl (by omega) fun s_26 a4 c4 o_29 c_27 => ?_
  have z_28 := c_27.size
  refine dSl_i ?_
  refine tcall (c_lfull τ (xn := 44) _ (o_29).sl rfl 128 (by omega)) ?_
  rintro v_31 s_30 ⟨acall1, ccall1, rfl, c_33, call1a⟩
  have z_34 := c_33.size
  refine dSl_i ?_
  refine ret_t ?_
  exact ⟨_, _, rfl, (((((((((Ch.refl [] s).ch c_2 (by simp)).ch c_5 (by simp)).fr c_8 hM (by simp)).ch c_13 (by simp)).ch c_17 (by simp)).fr c_22 hM (by simp)).fr c_27 hM (by simp)).ch c_33 (by simp)), call1a⟩
theorem hasB_tb (l : List UInt8) (i : Nat) : hasB l i = (l.getD (i / 8) 0).toNat.testBit (i % 8) := by unfold hasB; rw [Nat.testBit_eq_decide_div_mod_eq]; rfl
def clrB (b : UInt8) (k : Nat) : UInt8 := UInt8.ofBitVec (b.toBitVec &&& ~~~BitVec.ofNat 8 (2 ^ k))
def orB (b : UInt8) (k : Nat) : UInt8 := UInt8.ofBitVec (b.toBitVec ||| BitVec.ofNat 8 (2 ^ k))
theorem bvi (b : UInt8) : BitVec.ofInt 8 (b.toNat : Int) = b.toBitVec := by rw [BitVec.ofInt_natCast]; simp
theorem clr8 (b : UInt8) (k : Nat) : IntKind.u8.wrap (BitVec.toNat (BitVec.ofInt 8 (b.toNat : Int) &&& ~~~BitVec.ofInt 8 ((2 ^ k : Nat) : Int)) : Int) = ((clrB b k).toNat : Int) := by
  have e2 : BitVec.ofInt 8 ((2 ^ k : Nat) : Int) = BitVec.ofNat 8 (2 ^ k) := BitVec.ofInt_natCast 8 (2 ^ k)
  rw [bvi, e2]
  show (_ : Int) % 256 = _
  have := (b.toBitVec &&& ~~~BitVec.ofNat 8 (2 ^ k)).isLt
  unfold clrB
  show ((BitVec.toNat (b.toBitVec &&& ~~~BitVec.ofNat 8 (2 ^ k)) : Nat) : Int) % 256 = ((BitVec.toNat (b.toBitVec &&& ~~~BitVec.ofNat 8 (2 ^ k)) : Nat) : Int)
  omega
theorem or8 (b : UInt8) (k : Nat) : IntKind.u8.wrap (BitVec.toNat (BitVec.ofInt 8 (b.toNat : Int) ||| BitVec.ofInt 8 ((2 ^ k : Nat) : Int)) : Int) = ((orB b k).toNat : Int) := by
  have e2 : BitVec.ofInt 8 ((2 ^ k : Nat) : Int) = BitVec.ofNat 8 (2 ^ k) := BitVec.ofInt_natCast 8 (2 ^ k)
  rw [bvi, e2]
  show (_ : Int) % 256 = _
  have := (b.toBitVec ||| BitVec.ofNat 8 (2 ^ k)).isLt
  unfold orB
  show ((BitVec.toNat (b.toBitVec ||| BitVec.ofNat 8 (2 ^ k)) : Nat) : Int) % 256 = ((BitVec.toNat (b.toBitVec ||| BitVec.ofNat 8 (2 ^ k)) : Nat) : Int)
  omega
def setTo (b : UInt8) (k : Nat) (on : Bool) : UInt8 := if on = true then orB (clrB b k) k else clrB b k
theorem clrB_tb (b : UInt8) {k m : Nat} (hm : m < 8) : (clrB b k).toNat.testBit m = (b.toNat.testBit m && !decide (k = m)) := by
  show (b.toBitVec &&& ~~~BitVec.ofNat 8 (2 ^ k)).toNat.testBit m = _
  rw [BitVec.testBit_toNat, BitVec.getLsbD_and, BitVec.getLsbD_not, BitVec.getLsbD_ofNat, Nat.testBit_two_pow]
  simp [hm]
  rfl
theorem orB_tb (b : UInt8) {k m : Nat} (hm : m < 8) : (orB b k).toNat.testBit m = (b.toNat.testBit m || decide (k = m)) := by
  show (b.toBitVec ||| BitVec.ofNat 8 (2 ^ k)).toNat.testBit m = _
  rw [BitVec.testBit_toNat, BitVec.getLsbD_or, BitVec.getLsbD_ofNat, Nat.testBit_two_pow]
  simp [hm]
  rfl
theorem setTo_tb (b : UInt8) {k m : Nat} (on : Bool) (hm : m < 8) : (setTo b k on).toNat.testBit m = if m = k then on else b.toNat.testBit m := by
  unfold setTo
  cases on
  · rw [if_neg (by simp), clrB_tb b hm]
    by_cases e : m = k
    · rw [if_pos e, decide_eq_true e.symm]; simp
    · rw [if_neg e, decide_eq_false (fun h => e h.symm)]; simp
  · rw [if_pos rfl, orB_tb _ hm, clrB_tb b hm]
    by_cases e : m = k
    · rw [if_pos e, decide_eq_true e.symm]; simp
    · rw [if_neg e, decide_eq_false (fun h => e h.symm)]; simp
/-- a row with a bit set, or not -/
def withB (l : List UInt8) (i : Nat) (on : Bool) : List UInt8 := l.set (i / 8) (setTo (l.getD (i / 8) 0) (i % 8) on)
theorem withB_len (l : List UInt8) (i : Nat) (on : Bool) : (withB l i on).length = l.length := by simp [withB]
theorem first_dm {G B N n : Nat} (hg : GeoOk G B N) : ((n : Int) * (B : Int) + (2 + (N : Int) / 4)) / (B : Int) = (n : Int) ∧ ((n : Int) * (B : Int) + (2 + (N : Int) / 4)) % (B : Int) = ((2 + N / 4 : Nat) : Int) := by
  have hg2 := hg
  unfold GeoOk at hg2
  have e : (2 + (N : Int) / 4) = ((2 + N / 4 : Nat) : Int) := by omega
  rw [e]
  constructor
  · rw [Int.add_comm, Int.add_mul_ediv_right _ _ (by omega), Int.ediv_eq_zero_of_lt (by omega) (by omega), Int.zero_add]
  · rw [Int.add_comm, Int.add_mul_emod_self_right, Int.emod_eq_of_lt (by omega) (by omega)]
theorem first_rng {G B N n : Nat} (hg : GeoOk G B N) (hn : n < G) : 0 ≤ (n : Int) * (B : Int) + (2 + (N : Int) / 4) ∧ (n : Int) * (B : Int) + (2 + (N : Int) / 4) < (G : Int) * (B : Int) := by
  have h1 : (n + 1) * B ≤ G * B := Nat.mul_le_mul_right B hn
  have h2 : (n : Int) * (B : Int) = ((n * B : Nat) : Int) := (Int.natCast_mul n B).symm
  have h3 : (G : Int) * (B : Int) = ((G * B : Nat) : Int) := (Int.natCast_mul G B).symm
  rw [Nat.succ_mul] at h1
  unfold GeoOk at hg
  rw [h2, h3]; omega
/-- bollard/bits.With -/
theorem c_bwith (τ : Nat) {xa : Option Addr} {xn : Nat} (xc : Nat) {l : List UInt8} {τx : Nat} {s : TH} (hx : Sl s xa (bvs l) τx) (hn : l.length = xn) (hb : xn ≤ 1000000000) (i : Nat) (hi : i / 8 < xn) (on : Bool) : TRet Try.prog 50 #[.slice xa xn xc, .int .i64 (i : Int), .bool on] s fun v s' => ∃ a' c', v = .tuple #[.slice a' xn c', .int .i64 0] ∧ Ch [] s s' ∧ Own s' a' xn c' 5 1 (bvs (withB l i on)) τ := by
  obtain ⟨b, hbk⟩ : ∃ b, l[i / 8]? = some b := ⟨l[i / 8]'(by omega), by simp⟩
  have hgd : l.getD (i / 8) 0 = b := by rw [List.getD_eq_getElem?_getD, hbk]; rfl
  obtain ⟨M, hM, hM0, hMa, hMb, hMc, hMd, hMe, hMf⟩ := fresh6 s τx τ 0 0 0 0
  refine F50_calls _ _ _ _ _  ?_
  unfold F50
  refine jn_u ?_
  refine sB_d (fun hsB1 => by exfalso; omega) (fun hsB1 => ?_)
  refine ask_t (by omega) ?_
  try rw [td8]
  refine wr_t (by omega) ?_
  intro _
  intros
  refine dBl_i ?_
  refine sB_d (fun hsB2 => by exfalso; omega) (fun hsB2 => ?_)
  refine app_bv (xs := []) u32 in5 (Own.nil _ _ _ (M + 5)) hx hn (by omega) fun s_1 a1 c1 o_4 c_2 => ?_
  have z_3 := c_2.size
  have ho0 := o_4
  rw [List.nil_append, Nat.zero_add] at ho0
  simp only [Nat.zero_add]
  refine dSl_i ?_
  refine ask_t (by omega) ?_
  try rw [td8]
  refine wr_t (by omega) ?_
  obtain ⟨a_5, rfl⟩ := ho0.ne_none (by omega)
  refine nz_i ?_
  refine ask_t (by omega) ?_
  refine ld_sl (ho0).sl (by rw [Int.toNat_natCast, Nat.mul_one]; exact bvs_get hbk) ?_
  refine dInt_i ?_
  refine ask_t (by omega) ?_
  rw [tm8]
  refine nm_t rfl ?_
  refine ask_t (by omega) ?_
  rw [shl8 _ (by omega)]
  refine nm_t rfl ?_
  rw [clr8]
  refine nm_t rfl ?_
  refine nz_i ?_
  refine ask_t (by omega) ?_
  refine Own.st ho0 rfl (by rw [Int.toNat_natCast]; omega) fun s27 b_6 c_7o z_8 => ?_
  have c_7 := Ch.on_tag (T := [M + 5]) (Ch.refl _ _) c_7o ho0.tagOf (by simp)
  have ho1 := b_6
  rw [Int.toNat_natCast, Nat.mul_one, bvs_set] at ho1
  have hbk2 : (l.set (i / 8) (clrB b (i % 8)))[i / 8]? = some (clrB b (i % 8)) := List.getElem?_set_self (by omega)
  refine jn_u ?_
  refine sB_i (fun hsB3 => ?_) (fun hsB3 => ?_)
  ·
    refine ask_t (by omega) ?_
    try rw [td8]
    refine wr_t (by omega) ?_
    refine nz_i ?_
    refine ask_t (by omega) ?_
    refine ld_sl (ho1).sl (by rw [Int.toNat_natCast, Nat.mul_one]; exact bvs_get hbk2) ?_
    refine dInt_i ?_
    refine ask_t (by omega) ?_
    try rw [tm8]
    refine nm_t rfl ?_
    refine ask_t (by omega) ?_
    try rw [shl8 _ (by omega)]
    refine nm_t rfl ?_
    rw [or8]
    refine nm_t rfl ?_
    refine nz_i ?_
    refine ask_t (by omega) ?_
    refine Own.st ho1 rfl (by rw [Int.toNat_natCast]; omega) fun s49 b_9 c_10o z_11 => ?_
    have c_10 := Ch.on_tag (T := [M + 5]) (Ch.refl _ _) c_10o ho1.tagOf (by simp)
    have ho2 := b_9
    rw [Int.toNat_natCast, Nat.mul_one, bvs_set, List.set_set] at ho2
    intro _
    intros
    have e : withB l i on = l.set (i / 8) (orB (clrB b (i % 8)) (i % 8)) := by unfold withB setTo; rw [if_pos hsB3, hgd]
    rw [e]
    exact ret_t' (s' := remark s49 (M + 5) τ) rfl ⟨_, _, rfl, remark_ch ((((Ch.refl [] s).fr c_2 hM (by simp)).fr c_7 hM (by simp)).fr c_10 hM (by simp)) hM (by omega), (ho2).remark⟩
  ·
    intro _
    intros
    have e : withB l i on = l.set (i / 8) (clrB b (i % 8)) := by unfold withB setTo; rw [if_neg (by simp [hsB3]), hgd]
    rw [e]
    exact ret_t' (s' := remark s27 (M + 5) τ) rfl ⟨_, _, rfl, remark_ch (((Ch.refl [] s).fr c_2 hM (by simp)).fr c_7 hM (by simp)) hM (by omega), (ho1).remark⟩
end Go.Proofs.Ytdlelcpkelginaa.E
