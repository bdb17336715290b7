/- My own texts, joined. -/
import Derived.KernelRfl
import Derived.Test.YtklppdodadkcnaaGreatProg
import Derived.Test.YtklppdodadkcnaaGreatIC18
namespace Go.Proofs.YtklppdodadkcnaaGreat.E
open Go Go.Proofs Go.RowKit Go.Maps Go.Shelf Go.Sort
set_option linter.unusedVariables false
set_option linter.unusedSimpArgs false
def remarkF (s : TH) (φ : Nat → Nat) : TH := ⟨s.h, fun j => φ (s.g j)⟩
theorem remarkF_ch {T : List Nat} {s s' : TH} {M : Nat} {φ : Nat → Nat} (c : Ch T s s') (hM : ∀ j, j < s.h.size → s.g j < M) (hφ : ∀ m, m < M → φ m = m) : Ch T s (remarkF s' φ) :=
 ⟨c.size, fun j hj => by show φ (s'.g j) = s.g j; rw [c.tag j hj]; exact hφ _ (hM j hj), c.get⟩
section
variable {s : TH} {φ : Nat → Nat}
theorem Blk.rf {r : Nat} {l : List Value} {t τ : Nat} (h : Blk s r l t τ) : Blk (remarkF s φ) r l t (φ τ) := ⟨h.get, congrArg φ h.tag⟩
theorem Sl.rf {a : Option Addr} {l : List Value} {τ : Nat} (h : Sl s a l τ) : Sl (remarkF s φ) a l (φ τ) := by
 rcases h with h | ⟨g, o, h1, h2, h3, h4⟩
 ·exact .inl h
 ·exact .inr ⟨g, o, h1, h2, congrArg φ h3, h4⟩
theorem Own.rf {a : Option Addr} {n c e k : Nat} {xs : List Value} {τ : Nat} (h : Own s a n c e k xs τ) : Own (remarkF s φ) a n c e k xs (φ τ) := by
 refine ⟨h.1, h.2.imp id ?_⟩
 rintro ⟨g, o, L, h1, h2, h3⟩
 exact ⟨g, o, L, h1, h2.rf, h3⟩
theorem ByAt.rf {τ : Nat} {p : Hd} {b : List UInt8} (h : ByAt s τ p b) : ByAt (remarkF s φ) (φ τ) p b := ⟨h.sl.rf, h.len⟩
theorem BRel.rf {τ : Nat} {hs : List Hd} {bs : List (List UInt8)} (h : BRel s τ hs bs) : BRel (remarkF s φ) (φ τ) hs bs := ⟨h.len, fun i p b h1 h2 => (h.at_ i p b h1 h2).rf⟩
end
structure B2 (s : TH) (τa τb : Nat) (hs : List Hd) (bs : List (List UInt8)) : Prop where
 len : hs.length = bs.length
 at_ : ∀ (i : Nat) (p : Hd) (b : List UInt8), i ≠ 2 → hs[i]? = some p → bs[i]? = some b → ByAt s τb p b
 two : ∀ (p : Hd) (b : List UInt8), hs[2]? = some p → bs[2]? = some b → b.length = 128 ∧ Own s p.1 128 p.2 5 1 (bvs b) τa
theorem B2.ch {s s' : TH} {τa τb : Nat} {hs : List Hd} {bs : List (List UInt8)} {T : List Nat} (h : B2 s τa τb hs bs) (c : Ch T s s') (ha : τa ∉ T) (hb : τb ∉ T) : B2 s' τa τb hs bs :=
 ⟨h.len, fun i p b h0 h1 h2 => (h.at_ i p b h0 h1 h2).mv c (tagn hb), fun p b h1 h2 => ⟨(h.two p b h1 h2).1, (h.two p b h1 h2).2.mv c (tagn ha)⟩⟩
theorem B2.rf {s : TH} {φ : Nat → Nat} {τa τb : Nat} {hs : List Hd} {bs : List (List UInt8)} (h : B2 s τa τb hs bs) : B2 (remarkF s φ) (φ τa) (φ τb) hs bs :=
 ⟨h.len, fun i p b h0 h1 h2 => (h.at_ i p b h0 h1 h2).rf, fun p b h1 h2 => ⟨(h.two p b h1 h2).1, (h.two p b h1 h2).2.rf⟩⟩
theorem B2.brel {s : TH} {τ : Nat} {hs : List Hd} {bs : List (List UInt8)} (h : B2 s τ τ hs bs) : BRel s τ hs bs := ⟨h.len, fun i p b h1 h2 => by
 by_cases e : i = 2
 ·subst e; exact ⟨(h.two p b h1 h2).2.sl, (h.two p b h1 h2).1⟩
 ·exact h.at_ i p b e h1 h2⟩
theorem B2.snoc {s : TH} {τa τb : Nat} {hs : List Hd} {bs : List (List UInt8)} (h : B2 s τa τb hs bs) {p : Hd} {b : List UInt8} (hl : b.length = 128) (ho : Own s p.1 128 p.2 5 1 (bvs b) (if hs.length = 2 then τa else τb)) : B2 s τa τb (hs ++ [p]) (bs ++ [b]) := by
 have e := h.len
 refine ⟨by simp [e], fun i q x h0 h1 h2 => ?_, fun q x h1 h2 => ?_⟩
 ·rcases Nat.lt_trichotomy i hs.length with h3 | h3 | h3
  ·rw [List.getElem?_append_left h3] at h1; rw [List.getElem?_append_left (by omega)] at h2; exact h.at_ i q x h0 h1 h2
  ·subst h3
   rw [if_neg h0] at ho
   rw [List.getElem?_append_right (Nat.le_refl _), Nat.sub_self] at h1
   rw [List.getElem?_append_right (by omega), e, Nat.sub_self] at h2
   simp at h1 h2; subst h1 h2; exact ⟨ho.sl, hl⟩
  ·rw [List.getElem?_eq_none (by simp; omega)] at h1; cases h1
 ·rcases Nat.lt_trichotomy 2 hs.length with h3 | h3 | h3
  ·rw [List.getElem?_append_left h3] at h1; rw [List.getElem?_append_left (by omega)] at h2; exact h.two q x h1 h2
  ·rw [if_pos h3.symm] at ho
   rw [List.getElem?_append_right (by omega), ← h3, Nat.sub_self] at h1
   rw [List.getElem?_append_right (by omega), ← e, ← h3, Nat.sub_self] at h2
   simp at h1 h2; subst h1 h2; exact ⟨hl, ho⟩
  ·rw [List.getElem?_eq_none (by simp; omega)] at h1; cases h1
theorem B2.app {s : TH} {τa τb : Nat} {hs hs' : List Hd} {bs bs' : List (List UInt8)} (h : B2 s τa τb hs bs) (k : BRel s τb hs' bs') (h3 : 3 ≤ hs.length) : B2 s τa τb (hs ++ hs') (bs ++ bs') := by
 have e := h.len
 refine ⟨by simp [e, k.len], fun i q x h0 h1 h2 => ?_, fun q x h1 h2 => ?_⟩
 ·by_cases h4 : i < hs.length
  ·rw [List.getElem?_append_left h4] at h1; rw [List.getElem?_append_left (by omega)] at h2; exact h.at_ i q x h0 h1 h2
  ·rw [List.getElem?_append_right (by omega)] at h1; rw [List.getElem?_append_right (by omega), ← e] at h2; exact k.at_ _ q x h1 h2
 ·rw [List.getElem?_append_left (by omega)] at h1; rw [List.getElem?_append_left (by omega)] at h2; exact h.two q x h1 h2
theorem copy_blk {P : Program} {t t2 ty e : TypeId} {E : List PanicEntry → Heap → Prop} {s : TH} {r o n c mc tb : Nat} {xa : Option Addr} {L : List Value} {x : List UInt8} {τ τx : Nat} {K : Value → Heap → Prop}
  (ht : P.underlying t = some (.slice e)) (hi' : (P.info? e).map (fun i => (i.zero, i.size, i.bytes)) = some (some (.int .u8 0), 1, 1))
  (hB : Blk s r L tb τ) (hx : Sl s xa (bvs x) τx) (hm : x.length = n) (hn : 0 < n) (ho : o + n ≤ L.length)
  (hk : ∀ s' : TH, Blk s' r (L.take o ++ bvs x ++ L.drop (o + n)) tb τ → On r s s' → s.h.size = s'.h.size → K (.int .i64 (n : Int)) s'.h) :
  semW P (Builtin.copy_ #[t, t2] ty #[.slice (some ⟨r, o, none⟩) n c, .slice xa n mc]) E s.h K := .mk fun w hw => by
 obtain ⟨i, hi, hz, hs, hby⟩ := info_of hi'
 obtain ⟨b, rfl⟩ := hx.some (fun h => by have := congrArg List.length h; rw [bvs_len, List.length_nil] at this; omega)
 have hfw := run_firstCells_some (P := P) w 1 n b n mc (bvs x) (by rw [bvs_len]; omega) fun j u hu => hx.cells w hw j u hu
 have hst := run_storeCells_at P r o tb (bvs x) 0 L.toArray w (by rw [hw]; exact hB.get) (by simp [bvs_len]; omega) (bvs_one _)
 simp only [Nat.add_zero, bvs_len] at hst
 have hr : (Builtin.copy_ #[t, t2] ty #[.slice (some ⟨r, o, none⟩) n c, .slice (some b) n mc]).run P w = .ok (.int .i64 (n : Int)) (w.setRow r (L.take o ++ bvs x ++ L.drop (o + n)).toArray) := by
  simp [Builtin.copy_, run_underlying ht, sizeOf, typeInfo, hi, hs, hfw, hst, goInt, Builtin.lenOf, hm]
 rw [hr]
 have hset : (w.setRow r (L.take o ++ bvs x ++ L.drop (o + n)).toArray).heap[r]? = some (.cells (L.take o ++ bvs x ++ L.drop (o + n)).toArray tb (0, 0)) := setRow_heap w r L.toArray _ tb _ (by rw [hw]; exact hB.get)
 have hK := hk ⟨(w.setRow r (L.take o ++ bvs x ++ L.drop (o + n)).toArray).heap, s.g⟩ ⟨hset, hB.tag⟩ ⟨by simp [← hw], fun _ _ => rfl, fun j hj hn => ?_⟩ (by simp [← hw])
 ·exact ⟨hK, rfl, rfl, rfl⟩
 ·show (w.setRow r _).heap[j]? = _
  rw [setRow_other w r j _ (fun e => hn (by simp [e])), hw]
theorem st_same {s : TH} {r i t τ : Nat} {l : List Value} {v : Value} {k : Heap → Prop} (h : Blk s r l t τ) (h1 : oneC v = true) (hv : l[i]? = some v) (hk : ∀ s' : TH, Blk s' r l t τ → On r s s' → s.h.size = s'.h.size → k s'.h) : st s.h ⟨r, i, none⟩ v k := by
 obtain ⟨hi, hg⟩ := List.getElem?_eq_some_iff.1 hv
 refine st_t h h1 hi fun s' b c z => hk s' ?_ c z
 rw [← hg, List.set_getElem_self] at b
 exact b
def gv (n : Int) (il bl : List UInt8) : List Value := .int .i64 n :: (bvs il ++ bvs bl)
def hdL (n : Nat) (il bl : List UInt8) : List UInt8 := [104, 100, UInt8.ofNat n, 0] ++ il ++ bl ++ List.replicate 84 0
theorem hdL_len (n : Nat) {il bl : List UInt8} (h1 : il.length = 8) (h2 : bl.length = 32) : (hdL n il bl).length = 128 := by simp [hdL, h1, h2]
theorem gv_bits {n : Int} {il bl x : List UInt8} (h1 : il.length = 8) (h2 : bl.length = 32) : (gv n il bl).take 9 ++ bvs x ++ (gv n il bl).drop (9 + 32) = gv n il x := by
 have e1 : (bvs il).length = 8 := by rw [bvs_len, h1]
 have e2 : (bvs bl).length = 32 := by rw [bvs_len, h2]
 unfold gv
 rw [show (9 : Nat) = 8 + 1 from rfl, List.take_succ_cons, show 8 + 1 + 32 = 40 + 1 from rfl, List.drop_succ_cons, List.take_append_of_le_length (by omega), List.take_of_length_le (by omega), List.drop_eq_nil_of_le (by simp [e1, e2])]
 simp
theorem gv_len {n : Int} {il bl : List UInt8} (h1 : il.length = 8) (h2 : bl.length = 32) : (gv n il bl).length = 41 := by simp [gv, bvs_len, h1, h2]
theorem gv_slB {s : TH} {r t τ : Nat} {n : Int} {il bl : List UInt8} (h : Blk s r (gv n il bl) t τ) (h1 : il.length = 8) (h2 : bl.length = 32) : Sl s (some ⟨r, 9, none⟩) (bvs bl) τ := Sl.of h (by
 have e1 : (bvs il).length = 8 := by rw [bvs_len, h1]
 have e2 : (bvs bl).length = 32 := by rw [bvs_len, h2]
 unfold gv
 rw [show (9 : Nat) = 8 + 1 from rfl, List.drop_succ_cons, List.drop_append_of_le_length (by omega), List.drop_eq_nil_of_le (by omega)]
 simp)
theorem gv_slI {s : TH} {r t τ : Nat} {n : Int} {il bl : List UInt8} (h : Blk s r (gv n il bl) t τ) (h1 : il.length = 8) (h2 : bl.length = 32) : Sl s (some ⟨r, 1, none⟩) (bvs il) τ := Sl.of h (by
 have e1 : (bvs il).length = 8 := by rw [bvs_len, h1]
 unfold gv
 rw [show (1 : Nat) = 0 + 1 from rfl, List.drop_succ_cons, List.drop_zero, List.take_append_of_le_length (by omega), List.take_of_length_le (by omega)])
def setsB (l : List UInt8) : Nat → List UInt8
 | 0 => l
 | k + 1 => setB (setsB l k) k
theorem setsB_len (l : List UInt8) (k : Nat) : (setsB l k).length = l.length := by
 induction k with
 | zero => rfl
 | succ k ih => rw [setsB, setB_len, ih]
def zB32 : List UInt8 := List.replicate 32 0
theorem sets32 (k : Nat) : (setsB zB32 k).length = 32 := setsB_len _ _
def iL (n : Nat) : List UInt8 := [if n = 0 then 7 else 0, 0, 0, 0, 0, 0, 0, 0]
def nB (n N : Nat) : Nat := 2 + N / 4 + if n = 0 then 1 else 0
def zB128 : List UInt8 := List.replicate 128 0
theorem zB128_len : zB128.length = 128 := List.length_replicate
def grpL (G B N n : Nat) : List (List UInt8) := [superL G B N 0, hdL n (iL n) (setsB zB32 (nB n N))] ++ List.replicate (B - 2) zB128
theorem grpL_len {G B N n : Nat} (h : 2 ≤ B) : (grpL G B N n).length = B := by simp [grpL]; omega
theorem B2.two2 {s : TH} {τa τb : Nat} {a1 a2 : Option Addr} {c1 c2 : Nat} {l1 l2 : List UInt8} (h1 : Own s a1 128 c1 5 1 (bvs l1) τb) (h2 : Own s a2 128 c2 5 1 (bvs l2) τb) (e1 : l1.length = 128) (e2 : l2.length = 128) : B2 s τa τb [(a1, c1), (a2, c2)] [l1, l2] := by
 refine ⟨rfl, fun i p b h0 g1 g2 => ?_, fun p b g1 g2 => by simp at g1⟩
 rcases i with _ | _ | i
 ·simp at g1 g2; subst g1 g2; exact ⟨h1.sl, e1⟩
 ·simp at g1 g2; subst g1 g2; exact ⟨h2.sl, e2⟩
 ·simp at g1
theorem u8n {n : Nat} (h : n ≤ 200) : IntKind.u8.wrap (n : Int) = ((UInt8.ofNat n).toNat : Int) := by
 have e : IntKind.u8.wrap (n : Int) = (n : Int) % 256 := rfl
 have e2 : (UInt8.ofNat n).toNat = n % 256 := rfl
 rw [e, e2]; omega
theorem rowz (k : Nat) : rowZ [.int .u8 0] k = bvs (List.replicate k 0) := by
 induction k with
 | zero => rfl
 | succ k ih => rw [List.replicate_succ, bvs, List.map_cons, ← bvs, ← ih]; rfl
theorem len32 {l : List UInt8} (h0 : l.length = 32) : ∃ b0 b1 b2 b3 b4 b5 b6 b7 b8 b9 b10 b11 b12 b13 b14 b15 b16 b17 b18 b19 b20 b21 b22 b23 b24 b25 b26 b27 b28 b29 b30 b31 : UInt8, l = [b0, b1, b2, b3, b4, b5, b6, b7, b8, b9, b10, b11, b12, b13, b14, b15, b16, b17, b18, b19, b20, b21, b22, b23, b24, b25, b26, b27, b28, b29, b30, b31] := by
 obtain ⟨b0, l, rfl⟩ := List.exists_cons_of_length_eq_add_one (n := 31) (by exact h0)
 have h1 : l.length = 31 := by simpa using h0
 obtain ⟨b1, l, rfl⟩ := List.exists_cons_of_length_eq_add_one (n := 30) (by exact h1)
 have h2 : l.length = 30 := by simpa using h1
 obtain ⟨b2, l, rfl⟩ := List.exists_cons_of_length_eq_add_one (n := 29) (by exact h2)
 have h3 : l.length = 29 := by simpa using h2
 obtain ⟨b3, l, rfl⟩ := List.exists_cons_of_length_eq_add_one (n := 28) (by exact h3)
 have h4 : l.length = 28 := by simpa using h3
 obtain ⟨b4, l, rfl⟩ := List.exists_cons_of_length_eq_add_one (n := 27) (by exact h4)
 have h5 : l.length = 27 := by simpa using h4
 obtain ⟨b5, l, rfl⟩ := List.exists_cons_of_length_eq_add_one (n := 26) (by exact h5)
 have h6 : l.length = 26 := by simpa using h5
 obtain ⟨b6, l, rfl⟩ := List.exists_cons_of_length_eq_add_one (n := 25) (by exact h6)
 have h7 : l.length = 25 := by simpa using h6
 obtain ⟨b7, l, rfl⟩ := List.exists_cons_of_length_eq_add_one (n := 24) (by exact h7)
 have h8 : l.length = 24 := by simpa using h7
 obtain ⟨b8, l, rfl⟩ := List.exists_cons_of_length_eq_add_one (n := 23) (by exact h8)
 have h9 : l.length = 23 := by simpa using h8
 obtain ⟨b9, l, rfl⟩ := List.exists_cons_of_length_eq_add_one (n := 22) (by exact h9)
 have h10 : l.length = 22 := by simpa using h9
 obtain ⟨b10, l, rfl⟩ := List.exists_cons_of_length_eq_add_one (n := 21) (by exact h10)
 have h11 : l.length = 21 := by simpa using h10
 obtain ⟨b11, l, rfl⟩ := List.exists_cons_of_length_eq_add_one (n := 20) (by exact h11)
 have h12 : l.length = 20 := by simpa using h11
 obtain ⟨b12, l, rfl⟩ := List.exists_cons_of_length_eq_add_one (n := 19) (by exact h12)
 have h13 : l.length = 19 := by simpa using h12
 obtain ⟨b13, l, rfl⟩ := List.exists_cons_of_length_eq_add_one (n := 18) (by exact h13)
 have h14 : l.length = 18 := by simpa using h13
 obtain ⟨b14, l, rfl⟩ := List.exists_cons_of_length_eq_add_one (n := 17) (by exact h14)
 have h15 : l.length = 17 := by simpa using h14
 obtain ⟨b15, l, rfl⟩ := List.exists_cons_of_length_eq_add_one (n := 16) (by exact h15)
 have h16 : l.length = 16 := by simpa using h15
 obtain ⟨b16, l, rfl⟩ := List.exists_cons_of_length_eq_add_one (n := 15) (by exact h16)
 have h17 : l.length = 15 := by simpa using h16
 obtain ⟨b17, l, rfl⟩ := List.exists_cons_of_length_eq_add_one (n := 14) (by exact h17)
 have h18 : l.length = 14 := by simpa using h17
 obtain ⟨b18, l, rfl⟩ := List.exists_cons_of_length_eq_add_one (n := 13) (by exact h18)
 have h19 : l.length = 13 := by simpa using h18
 obtain ⟨b19, l, rfl⟩ := List.exists_cons_of_length_eq_add_one (n := 12) (by exact h19)
 have h20 : l.length = 12 := by simpa using h19
 obtain ⟨b20, l, rfl⟩ := List.exists_cons_of_length_eq_add_one (n := 11) (by exact h20)
 have h21 : l.length = 11 := by simpa using h20
 obtain ⟨b21, l, rfl⟩ := List.exists_cons_of_length_eq_add_one (n := 10) (by exact h21)
 have h22 : l.length = 10 := by simpa using h21
 obtain ⟨b22, l, rfl⟩ := List.exists_cons_of_length_eq_add_one (n := 9) (by exact h22)
 have h23 : l.length = 9 := by simpa using h22
 obtain ⟨b23, l, rfl⟩ := List.exists_cons_of_length_eq_add_one (n := 8) (by exact h23)
 have h24 : l.length = 8 := by simpa using h23
 obtain ⟨b24, l, rfl⟩ := List.exists_cons_of_length_eq_add_one (n := 7) (by exact h24)
 have h25 : l.length = 7 := by simpa using h24
 obtain ⟨b25, l, rfl⟩ := List.exists_cons_of_length_eq_add_one (n := 6) (by exact h25)
 have h26 : l.length = 6 := by simpa using h25
 obtain ⟨b26, l, rfl⟩ := List.exists_cons_of_length_eq_add_one (n := 5) (by exact h26)
 have h27 : l.length = 5 := by simpa using h26
 obtain ⟨b27, l, rfl⟩ := List.exists_cons_of_length_eq_add_one (n := 4) (by exact h27)
 have h28 : l.length = 4 := by simpa using h27
 obtain ⟨b28, l, rfl⟩ := List.exists_cons_of_length_eq_add_one (n := 3) (by exact h28)
 have h29 : l.length = 3 := by simpa using h28
 obtain ⟨b29, l, rfl⟩ := List.exists_cons_of_length_eq_add_one (n := 2) (by exact h29)
 have h30 : l.length = 2 := by simpa using h29
 obtain ⟨b30, l, rfl⟩ := List.exists_cons_of_length_eq_add_one (n := 1) (by exact h30)
 have h31 : l.length = 1 := by simpa using h30
 obtain ⟨b31, l, rfl⟩ := List.exists_cons_of_length_eq_add_one (n := 0) (by exact h31)
 have h32 : l.length = 0 := by simpa using h31
 obtain rfl := List.eq_nil_of_length_eq_zero h32
 exact ⟨b0, b1, b2, b3, b4, b5, b6, b7, b8, b9, b10, b11, b12, b13, b14, b15, b16, b17, b18, b19, b20, b21, b22, b23, b24, b25, b26, b27, b28, b29, b30, b31, rfl⟩
theorem c_encGroup (τ n : Nat) (i0 i1 i2 i3 i4 i5 i6 i7 b0 b1 b2 b3 b4 b5 b6 b7 b8 b9 f g i j k l o p q r t u w y z A B C D E F G : UInt8) (s : TH) (hn : n ≤ 7) : TRet Tryz.prog 112 #[.agg (gv (n : Int) [i0, i1, i2, i3, i4, i5, i6, i7] [b0, b1, b2, b3, b4, b5, b6, b7, b8, b9, f, g, i, j, k, l, o, p, q, r, t, u, w, y, z, A, B, C, D, E, F, G]).toArray] s fun v s' => ∃ a' c', v = .tuple #[.slice a' 128 c', .int .i64 0] ∧ Ch [] s s' ∧ Own s' a' 128 c' 5 1 (bvs (hdL n [i0, i1, i2, i3, i4, i5, i6, i7] [b0, b1, b2, b3, b4, b5, b6, b7, b8, b9, f, g, i, j, k, l, o, p, q, r, t, u, w, y, z, A, B, C, D, E, F, G])) τ := by
 obtain ⟨M, hM, hM0, hMa, hMb, hMc, hMd, hMe, hMf⟩ := fresh6 s τ 0 0 0 0 0
 refine F112_calls _ _ _ _ _ _ _ _ _ _ _ _ _ _ _ _ _ _ _ _ _ _ _ _ _ _ _ _ _ _ _ _ _ _ _ _ _ _ _ _ _  ?_
 unfold F112
 refine al_t (M + 1) fun r1 s2 ao P ad ap => ?_
 have hg1 : Blk s2 r1 (gv (n : Int) [i0, i1, i2, i3, i4, i5, i6, i7] [b0, b1, b2, b3, b4, b5, b6, b7, b8, b9, f, g, i, j, k, l, o, p, q, r, t, u, w, y, z, A, B, C, D, E, F, G]) 118 (M + 1) := P
 clear P
 refine jn_u ?_
 refine ld_t hg1 rfl (dInt_i ?_)
 refine sB_d (fun S => by exfalso; omega) (fun S => ?_)
 refine ld_t hg1 rfl (dInt_i ?_)
 intro _
 intros
 refine dBl_i ?_
 refine sB_d (fun U => by exfalso; omega) (fun U => ?_)
 refine al_t (M + 2) fun aq ar ae Q R au => ?_
 refine conv_lit u85 u5 (show Blk _ _ (bvs [104, 100]) _ _ from Q) rfl fun av H V hsz => ?_
 have I := on_ch Q V
 have aw := I.size
 refine dSl_i ?_
 have J := hg1.ch (R.app I) (by simp)
 refine ld_t J rfl (dInt_i ?_)
 refine wr_a fun ax hn24 => ?_
 refine al_t (M + 3) fun ay az af W a ag => ?_
 have X := H.mv a (tagn (by simp))
 refine app_g (x := [UInt8.ofNat n, 0]) (M + 4) u85 in5 X rfl (by have h := (W).sl; rw [hn24, u8n (by omega)] at h; exact h) rfl (by omega) (by omega) fun ah a2 c2 Y c hne => ?_
 have ai := c.size
 refine dSl_i (ask_t (by omega) (ask_t (by omega) ?_))
 rw [slO_zero]
 have K := J.ch (a.app c) (by simp)
 refine app_bv u85 in5 Y (gv_slI K rfl rfl) rfl (by omega) fun aj a3 c3 Z d => ?_
 have ak := d.size
 refine dSl_i ?_
 rw [slO_zero]
 have aa := K.ch d (by simp)
 refine app_bv u85 in5 Z (gv_slB aa rfl rfl) rfl (by omega) fun al a4 c4 e L => ?_
 have am := L.size
 refine dSl_i ?_
 refine appz_i (m := 84) u85 u3 in5 e (by obtain ⟨b, rfl⟩ := Own.ne_none e (by omega); simp) (by omega) (by omega) fun ab a5 c5 ac O => ?_
 have N := O.ch e (T := [M + 4]) (by simp)
 have an := N.size
 refine dSl_i ?_
 have ho := ac
 refine ret_t' (s' := remarkF ab fun m => if m = M + 4 then τ else m) rfl ⟨_, _, rfl, remarkF_ch (((((((((Ch.refl [] s).ch ad (by simp)).ch R (by simp)).fr I hM (by simp)).ch a (by simp)).ch c (by simp)).fr d hM (by simp)).fr L hM (by simp)).fr N hM (by simp)) hM (fun m hm => if_neg (by omega)), ?_⟩
 have h2 := ho.rf (φ := fun m => if m = M + 4 then τ else m)
 rw [if_pos rfl] at h2
 exact h2
theorem c_group (τo τa τb : Nat) (G B N n : Nat) (s : TH) (hv : GeoOk G B N) (hn : n < G) : TRet Tryz.prog 53 #[.agg #[.int .i64 (G : Int), .int .i64 (B : Int), .int .i64 (N : Int)], .int .i64 (n : Int)] s fun v s' => ∃ a' c' hs, v = .slice a' B c' ∧ Ch [] s s' ∧ Own s' a' B c' 85 1 (hs.flatMap hd1) τo ∧ B2 s' τa τb hs (grpL G B N n) := by
 have hv2 := hv
 unfold GeoOk at hv2
 obtain ⟨M, hM, hM0, hMa, hMb, hMc, hMd, hMe, hMf⟩ := fresh6 s τo τa τb 0 0 0
 refine F53_calls _ _ _ _  ?_
 unfold F53
 refine al_t (M + 1) fun r1 s2 ep av cK eq => ?_
 refine ld_t av rfl (ld_t av rfl (ld_t av rfl ?_))
 refine tcall (c_encSuper (M + 6) G B N 0 (by omega) hv (by decide)) ?_
 rintro er es ⟨aL, aM, rfl, aN, aO⟩
 have et := aN.size
 refine dT2 (dSl_i (dInt_i ?_))
 refine al_t (M + 2) fun J cL dP cM L dQ => ?_
 have hg0 : Blk cL J (gv 0 [0, 0, 0, 0, 0, 0, 0, 0] (setsB zB32 0)) 118 (M + 2) := cM
 refine st_t hg0 rfl (by decide) fun cN cF bE dR => ?_
 have O := on_ch hg0 bE
 have hg1 : Blk cN J (gv (n : Int) [0, 0, 0, 0, 0, 0, 0, 0] (setsB zB32 0)) 118 (M + 2) := cF
 refine st_same hg1 rfl rfl fun eu aP bF dS => ?_
 have P := on_ch hg1 bF
 refine st_same aP rfl rfl fun ev aQ bG dT => ?_
 have Q := on_ch aP bG
 refine st_same aQ rfl rfl fun ew aR bH dU => ?_
 have R := on_ch aQ bH
 refine st_same aR rfl rfl fun ex aS bI dV => ?_
 have S := on_ch aR bI
 refine st_same aS rfl rfl fun ey aT bJ dW => ?_
 have U := on_ch aS bJ
 refine st_same aT rfl rfl fun ez aU bK dX => ?_
 have V := on_ch aT bK
 refine st_same aU rfl rfl fun eA aV bL dY => ?_
 have W := on_ch aU bL
 refine st_same aV rfl rfl fun eB aW bM dZ => ?_
 have X := on_ch aV bM
 refine st_same aW rfl rfl fun eC aX bN d0 => ?_
 have Y := on_ch aW bN
 refine st_same aX rfl rfl fun eD aY bO d1 => ?_
 have Z := on_ch aX bO
 refine st_same aY rfl rfl fun eE aZ bP d2 => ?_
 have aa := on_ch aY bP
 refine st_same aZ rfl rfl fun eF a0 bQ d3 => ?_
 have ab := on_ch aZ bQ
 refine st_same a0 rfl rfl fun eG a1 bR d4 => ?_
 have ac := on_ch a0 bR
 refine st_same a1 rfl rfl fun eH a2 bS d5 => ?_
 have ad := on_ch a1 bS
 refine st_same a2 rfl rfl fun eI a3 bT d6 => ?_
 have ae := on_ch a2 bT
 refine st_same a3 rfl rfl fun eJ a4 bU d7 => ?_
 have af := on_ch a3 bU
 refine st_same a4 rfl rfl fun eK a5 bV d8 => ?_
 have ag := on_ch a4 bV
 refine st_same a5 rfl rfl fun eL a6 bW d9 => ?_
 have ah := on_ch a5 bW
 refine st_same a6 rfl rfl fun eM a7 bX ea => ?_
 have ai := on_ch a6 bX
 refine st_same a7 rfl rfl fun eN a8 bY eb => ?_
 have aj := on_ch a7 bY
 refine st_same a8 rfl rfl fun eO a9 bZ ec => ?_
 have ak := on_ch a8 bZ
 refine st_same a9 rfl rfl fun eP ba ca ed => ?_
 have al := on_ch a9 ca
 refine st_same ba rfl rfl fun eQ bb cb ee => ?_
 have am := on_ch ba cb
 refine st_same bb rfl rfl fun eR bc cc ef => ?_
 have an := on_ch bb cc
 refine st_same bc rfl rfl fun eS bd cd eg => ?_
 have ao := on_ch bc cd
 refine st_same bd rfl rfl fun eT be ce eh => ?_
 have ap := on_ch bd ce
 refine st_same be rfl rfl fun eU bf cf ei => ?_
 have aq := on_ch be cf
 refine st_same bf rfl rfl fun eV bg cg ej => ?_
 have ar := on_ch bf cg
 refine st_same bg rfl rfl fun eW bh bi de => ?_
 have j := on_ch bg bi
 refine st_same bh rfl rfl fun eX aw bj df => ?_
 have l := on_ch bh bj
 refine st_same aw rfl rfl fun eY ax bk dg => ?_
 have o := on_ch aw bk
 refine st_same ax rfl rfl fun eZ ay bl dh => ?_
 have p := on_ch ax bl
 refine st_same ay rfl rfl fun e0 az bm di => ?_
 have q := on_ch ay bm
 refine st_same az rfl rfl fun e1 aA bn dj => ?_
 have t := on_ch az bn
 refine st_same aA rfl rfl fun e2 aB bo dk => ?_
 have w := on_ch aA bo
 refine st_same aB rfl rfl fun e3 aC bp dl => ?_
 have x := on_ch aB bp
 refine st_same aC rfl rfl fun e4 aD bq dm => ?_
 have y := on_ch aC bq
 refine st_same aD rfl rfl fun e5 aE br dn => ?_
 have z := on_ch aD br
 refine st_same aE rfl rfl fun e6 aF bs dp => ?_
 have A := on_ch aE bs
 refine st_same aF rfl rfl fun bt ci bu dq => ?_
 have C := on_ch aF bu
 have cj := ((((((((((((((((((((((((((((((((((((((((((aN.app L).app O).app P).app Q).app R).app S).app U).app V).app W).app X).app Y).app Z).app aa).app ab).app ac).app ad).app ae).app af).app ag).app ah).app ai).app aj).app ak).app al).app am).app an).app ao).app ap).app aq).app ar).app j).app l).app o).app p).app q).app t).app w).app x).app y).app z).app A).app C)
 have D := av.ch cj (by simp)
 refine ld_t D rfl (dInt_i (ask_t (by omega) ?_))
 have hq4 : Int.tdiv (N : Int) 4 = ((N / 4 : Nat) : Int) := by rw [Int.tdiv_eq_ediv_of_nonneg (by omega)]; omega
 rw [hq4]
 refine wr_t (by omega) (wr_t (by omega) ?_)
 refine ⟨fun vs H' => ∃ s' : TH, s'.h = H' ∧ ∃ i, vs = [.int .i64 i] ∧ Ch [M + 2, M + 10] bt s' ∧ (∃ k : Nat, i = k ∧ k ≤ 2 + N / 4 ∧ Blk s' J (gv (n : Int) [0, 0, 0, 0, 0, 0, 0, 0] (setsB zB32 k)) 118 (M + 2)), fun vs H' => match vs with | [.int .i64 i] => (((2 + N / 4 : Nat) : Int) - i).toNat | _ => 0, ⟨bt, rfl, _, rfl, Ch.refl _ _, ?_⟩, ?_⟩
 ·
  exact ⟨0, rfl, by omega, ci⟩
 ·
  intro i _ _ _ _ _ _ _ _ _ _ _ _ _ _ _ _ _ H_ hI_138
  obtain ⟨E, rfl, i_, hvs, a, k, rfl, hk, hb⟩ := hI_138
  cases hvs
  have dr := a.size
  refine sB_d (fun cG => ?_) (fun cG => ?_)
  ·
   refine ask_t (by omega) ?_
   rw [slO_zero]
   refine tcall (c_rwith (M + 10) 32 (gv_slB hb rfl (sets32 _)) (sets32 _) (fun h => by cases h) (by decide) k (by omega) (by omega)) ?_
   rintro ds dt ⟨cO, cP, rfl, F, bv⟩
   have du := F.size
   refine dT2 (dSl_i (dInt_i (ask_t (by omega) ?_)))
   have aG := hb.ch F (by simp)
   refine copy_blk (n := 32) u85 in5 aG (bv).sl (by rw [setB_len, sets32]) (by decide) (by rw [gv_len rfl (sets32 _)]; decide) fun ck r14_150 bw _ => ?_
   have aH := on_ch aG bw
   have dv := aH.size
   refine dInt_i (wr_t (by omega) ?_)
   have cl := ((a.app F).app aH)
   refine ⟨⟨ck, rfl, _, rfl, ((Ch.refl [M + 2, M + 10] bt).ch cl (by simp)), ?_⟩, ?_⟩
   ·
    exact ⟨k + 1, by omega, by omega, by have h := r14_150; rw [gv_bits rfl (sets32 _)] at h; exact h⟩
   ·
    simp only []; omega
  ·
   refine jn0 (fun s' => Ch [M + 2, M + 10] E s' ∧ (Blk s' J (gv (n : Int) (iL n) (setsB zB32 (nB n N))) 118 (M + 2))) ?_ ?_
   ·
    rintro  dw ⟨b, hb⟩
    have dx := b.size
    obtain ⟨b0, b1, b2, b3, b4, b5, b6, b7, b8, b9, cQ, cR, cS, cT, cU, cV, cW, cX, cY, cZ, c0, c1, c2, c3, c4, c5, c6, c7, c8, c9, da, db, hbb⟩ := len32 (sets32 (nB n N))
    have hg7 := hb
    rw [hbb] at hg7
    intro _
    intros
    refine ld_t hg7 rfl (ld_t hg7 rfl (ld_t hg7 rfl (ld_t hg7 rfl (ld_t hg7 rfl (ld_t hg7 rfl (ld_t hg7 rfl (ld_t hg7 rfl ?_)))))))
    refine ld_t hg7 rfl (ld_t hg7 rfl (ld_t hg7 rfl (ld_t hg7 rfl (ld_t hg7 rfl (ld_t hg7 rfl (ld_t hg7 rfl (ld_t hg7 rfl ?_)))))))
    refine ld_t hg7 rfl (ld_t hg7 rfl (ld_t hg7 rfl (ld_t hg7 rfl (ld_t hg7 rfl (ld_t hg7 rfl (ld_t hg7 rfl (ld_t hg7 rfl ?_)))))))
    refine ld_t hg7 rfl (ld_t hg7 rfl (ld_t hg7 rfl (ld_t hg7 rfl (ld_t hg7 rfl (ld_t hg7 rfl (ld_t hg7 rfl (ld_t hg7 rfl ?_)))))))
    refine ld_t hg7 rfl (ld_t hg7 rfl (ld_t hg7 rfl (ld_t hg7 rfl (ld_t hg7 rfl (ld_t hg7 rfl (ld_t hg7 rfl (ld_t hg7 rfl ?_)))))))
    refine ld_t hg7 rfl ?_
    refine tcall (c_encGroup (M + 6) n (if n = 0 then 7 else 0) 0 0 0 0 0 0 0 b0 b1 b2 b3 b4 b5 b6 b7 b8 b9 cQ cR cS cT cU cV cW cX cY cZ c0 c1 c2 c3 c4 c5 c6 c7 c8 c9 da db _ (by omega)) ?_
    rintro dy dz ⟨bx, bz, rfl, c, K⟩
    have dA := c.size
    rw [show [if n = 0 then 7 else 0, 0, 0, 0, 0, 0, 0, 0] = iL n from rfl, ← hbb] at K
    refine dT2 (dSl_i (dInt_i ?_))
    refine al_t (M + 5) fun ek au dB cm d dC => ?_
    refine ⟨fun vs H' => ∃ s' : TH, s'.h = H' ∧ ∃ pa pn pc, vs = [.slice pa pn pc] ∧ Ch [M + 5] au s' ∧ (∃ hs : List Hd, hs.length = pn ∧ 2 ≤ pn ∧ pn ≤ B ∧ Own s' pa pn pc 85 1 (hs.flatMap hd1) (M + 5) ∧ B2 s' (M + 8) (M + 6) hs ([superL G B N 0, hdL n (iL n) (setsB zB32 (nB n N))] ++ List.replicate (pn - 2) zB128)), fun vs H' => match vs with | [.slice pa pn pc] => B - pn | _ => 0, ⟨au, rfl, _, _, _, rfl, Ch.refl _ _, ?_⟩, ?_⟩
    ·
     have cn := (((((((((((((((((((((((((((((((((((((((((((((L.app O).app P).app Q).app R).app S).app U).app V).app W).app X).app Y).app Z).app aa).app ab).app ac).app ad).app ae).app af).app ag).app ah).app ai).app aj).app ak).app al).app am).app an).app ao).app ap).app aq).app ar).app j).app l).app o).app p).app q).app t).app w).app x).app y).app z).app A).app C).app a).app b).app c).app d)
     have co := aO.mv cn (tagn (by simp))
     have cp := K.mv d (tagn (by simp))
     exact ⟨[(aL, aM), (bx, bz)], rfl, by omega, by omega, (cm).own 1 rfl (by unfold maxLen; omega), B2.two2 co cp (superL_len _ _ _ _) (hdL_len _ rfl (sets32 _))⟩
    ·
     intro pa pn pc _ _ _ _ _ _ _ _ _ H_ hI_167
     obtain ⟨cq, rfl, pa_, pn_, pc_, hvs, e, hs, hl, hk1, hk2, ho, hb2⟩ := hI_167
     cases hvs
     have dD := e.size
     obtain ⟨μ, hμ, hμ2⟩ : ∃ μ, μ = (if pn = 2 then M + 8 else M + 6) ∧ M + 6 ≤ μ := ⟨_, rfl, by split <;> omega⟩
     have cr := ((((a.app b).app c).app d).app e)
     have cs := D.ch cr (by simp)
     refine ld_t cs rfl (dInt_i ?_)
     refine sB_d (fun cH => ?_) (fun cH => ?_)
     ·
      refine ask_t (by omega) ?_
      refine al_t μ fun cI el dE ct H dF => ?_
      refine al_t (M + 9) fun em en dG cu f dH => ?_
      have aI := ho.mv (H.app f) (tagn (by simp))
      refine app_i u49 in85 rfl aI (cu).sl (m := 1) (k := 1) rfl (by intro u hu; simp at hu; subst hu; rfl) (by simp) (by unfold maxLen; omega) fun cv pa2 pc2 cw bA _ => ?_
      have g := bA.ch aI (T := [M + 5]) (by simp)
      have dI := g.size
      refine dSl_i ?_
      have cx := (((e.app H).app f).app g)
      refine ⟨⟨cv, rfl, _, _, _, rfl, ((Ch.refl [M + 5] au).ch cx (by simp)), ?_⟩, ?_⟩
      ·
       have cy := ct.ch (f.app g) (by simp <;> omega)
       have cz := ((H.app f).app g)
       have cA := hb2.ch cz (by simp <;> omega) (by simp <;> omega)
       have ho2 := (cy).own (n := 128) 1 (by rw [show Int.toNat 128 = 128 from rfl, rowz, bvs_len]; rfl) (by unfold maxLen; omega)
       rw [show Int.toNat 128 = 128 from rfl, rowz, hμ, ← hl] at ho2
       exact ⟨hs ++ [(some ⟨cI, 0, none⟩, 128)], by simp [hl], by omega, by omega, by have h := cw; simpa [hd1] using h, by rw [show pn + 1 - 2 = (pn - 2) + 1 by omega, List.replicate_succ', ← List.append_assoc]; exact (cA).snoc zB128_len ho2⟩
      ·
       simp only []; omega
     ·
      obtain rfl : pn = B := by omega
      obtain ⟨φ, hφ⟩ : ∃ φ : Nat → Nat, φ = fun m => if m = M + 5 then τo else if m = M + 6 then τb else if m = M + 8 then τa else m := ⟨_, rfl⟩
      have f5 : φ (M + 5) = τo := by subst hφ; exact if_pos rfl
      have f6 : φ (M + 6) = τb := by subst hφ; simp
      have f8 : φ (M + 8) = τa := by subst hφ; simp
      have h1 := (ho).rf (φ := φ)
      have h2 := (hb2).rf (φ := φ)
      rw [f5] at h1
      rw [f6, f8] at h2
      exact ret_t' (s' := remarkF cq φ) rfl ⟨_, _, _, rfl, remarkF_ch ((((((((((((((((((((((((((((((((((((((((((((((((((Ch.refl [] s).ch cK (by simp)).fr aN hM (by simp)).ch L (by simp)).fr O hM (by simp)).fr P hM (by simp)).fr Q hM (by simp)).fr R hM (by simp)).fr S hM (by simp)).fr U hM (by simp)).fr V hM (by simp)).fr W hM (by simp)).fr X hM (by simp)).fr Y hM (by simp)).fr Z hM (by simp)).fr aa hM (by simp)).fr ab hM (by simp)).fr ac hM (by simp)).fr ad hM (by simp)).fr ae hM (by simp)).fr af hM (by simp)).fr ag hM (by simp)).fr ah hM (by simp)).fr ai hM (by simp)).fr aj hM (by simp)).fr ak hM (by simp)).fr al hM (by simp)).fr am hM (by simp)).fr an hM (by simp)).fr ao hM (by simp)).fr ap hM (by simp)).fr aq hM (by simp)).fr ar hM (by simp)).fr j hM (by simp)).fr l hM (by simp)).fr o hM (by simp)).fr p hM (by simp)).fr q hM (by simp)).fr t hM (by simp)).fr w hM (by simp)).fr x hM (by simp)).fr y hM (by simp)).fr z hM (by simp)).fr A hM (by simp)).fr C hM (by simp)).fr a hM (by simp)).fr b hM (by simp)).ch c (by simp)).ch d (by simp)).fr e hM (by simp)) hM (fun m hm => by subst hφ; simp only; rw [if_neg (by omega), if_neg (by omega), if_neg (by omega)]), h1, h2⟩
   ·
    intro K_187 hK_187
    refine sB_d (fun cJ => ?_) (fun cJ => ?_)
    ·
     refine ask_t (by omega) ?_
     have cB := D.ch a (by simp)
     refine ld_t cB rfl (dInt_i (ask_t (by omega) (wr_t (by omega) (wr_t (by omega) ?_))))
     rw [slO_zero]
     obtain rfl : n = 0 := by omega
     rw [hq4, show (2 + ((N / 4 : Nat) : Int)) = ((2 + N / 4 : Nat) : Int) by omega]
     obtain rfl : k = 2 + N / 4 := by omega
     refine tcall (c_rwith (M + 10) 32 (gv_slB hb rfl (sets32 _)) (sets32 _) (fun h => by cases h) (by decide) (2 + N / 4) (by omega) (by omega)) ?_
     rintro dJ dK ⟨dc, dd, rfl, I, bB⟩
     have dL := I.size
     refine dT2 (dSl_i (dInt_i (ask_t (by omega) ?_)))
     have aJ := hb.ch I (by simp)
     refine copy_blk (n := 32) u85 in5 aJ (bB).sl (by rw [setB_len, sets32]) (by decide) (by rw [gv_len rfl (sets32 _)]; decide) fun dM r14_198 bC _ => ?_
     have aK := on_ch aJ bC
     have dN := aK.size
     have hg5 := r14_198
     rw [gv_bits rfl (sets32 _)] at hg5
     refine dInt_i (ask_t (by omega) ?_)
     refine st_t (r := J) (i := 1) hg5 rfl (by rw [gv_len rfl (by rw [setB_len, sets32])]; decide) fun eo cC bD dO => ?_
     have cD := on_ch hg5 bD
     have cE := ((I.app aK).app cD)
     refine hK_187 _ ⟨((Ch.refl [M + 2, M + 10] E).ch cE (by simp)), ?_⟩
     exact cC
    ·
     refine hK_187 _ ⟨(Ch.refl [M + 2, M + 10] E), ?_⟩
     have hn0 : n ≠ 0 := by omega
     obtain rfl : k = 2 + N / 4 := by omega
     have h := hb
     rw [show iL n = [0, 0, 0, 0, 0, 0, 0, 0] from by unfold iL; rw [if_neg hn0], show nB n N = 2 + N / 4 from by unfold nB; rw [if_neg hn0]; rfl]
     exact h
def mkL (G B N : Nat) : Nat → List (List UInt8)
 | 0 => []
 | k + 1 => mkL G B N k ++ grpL G B N k
theorem mkL_len {G B N : Nat} (h : 2 ≤ B) : ∀ k, (mkL G B N k).length = k * B
 | 0 => by simp [mkL]
 | k + 1 => by rw [mkL, List.length_append, mkL_len h k, grpL_len h, Nat.succ_mul]
theorem mkL_two {G B N : Nat} (h : 3 ≤ B) : ∀ {k : Nat}, 1 ≤ k → (mkL G B N k)[2]? = some zB128
 | 1, _ => by
  rw [mkL, mkL, List.nil_append, grpL, List.getElem?_append_right (by simp)]
  show (List.replicate (B - 2) zB128)[0]? = _
  rw [List.getElem?_replicate, if_pos (by omega)]
 | k + 2, _ => by
  rw [mkL, List.getElem?_append_left, mkL_two h (by omega)]
  rw [mkL_len (by omega)]
  have : 1 * 3 ≤ (k + 1) * B := Nat.mul_le_mul (by omega) h
  omega
def dots : List (Nat × ByteArray) := [(2, ⟨#[46]⟩), (2, ⟨#[46, 46]⟩)]
def rootL (N : Nat) : List UInt8 := overlay zB128 64 (dinL 2 2 128 (2 + N / 4) 0 0 0 0 0)
def makeL (G B N : Nat) : List (List UInt8) := ((mkL G B N G).set 2 (rootL N)).set (2 + N / 4) (dirsL dots)
theorem makeL_len {G B N : Nat} (h : 2 ≤ B) : (makeL G B N).length = G * B := by simp [makeL, mkL_len h]
theorem dots_nc (i j : Nat) (e f : Nat × ByteArray) (h : j < i) (h1 : dots[i]? = some e) (h2 : dots[j]? = some f) : ¬ (e.1 ≠ 0 ∧ f.1 ≠ 0 ∧ e.2.toList = f.2.toList) := by
 rcases i with _ | _ | i
 ·omega
 ·obtain rfl : j = 0 := by omega
  cases h1; cases h2
  exact fun h => by have h := congrArg List.length h.2.2; simp at h
 ·cases h1
theorem dots_ok : ∀ e ∈ dots, Dot e.2 ∧ 1 ≤ e.1 ∧ e.1 ≤ 511 := by
 intro e he
 simp only [dots, List.mem_cons, List.not_mem_nil, or_false] at he
 rcases he with rfl | rfl
 ·exact ⟨.inl rfl, by decide, by decide⟩
 ·exact ⟨.inr rfl, by decide, by decide⟩
theorem dots_len : (dirsL dots).length = 128 := by unfold dirsL; rw [List.length_append, entsL_len]; rfl
theorem hd1_one (hs : List Hd) : ∀ u ∈ hs.flatMap hd1, u.oneCell' = true := by
 intro u hu
 obtain ⟨p, _, hp⟩ := List.mem_flatMap.1 hu
 simp [hd1] at hp; subst hp; rfl
theorem B2.cp {s s' : TH} {τa τb : Nat} {hs : List Hd} {bs : List (List UInt8)} (h : B2 s τa τb hs bs) (c : Ch [τa] s s') (hne : τa ≠ τb) {p : Hd} {b : List UInt8} (hp : hs[2]? = some p) (hl : b.length = 128) (ho : Own s' p.1 128 p.2 5 1 (bvs b) τa) : B2 s' τa τb hs (bs.set 2 b) := by
 refine ⟨by simp [h.len], fun i q x h0 h1 h2 => ?_, fun q x h1 h2 => ?_⟩
 ·rw [List.getElem?_set_ne (by omega)] at h2; exact (h.at_ i q x h0 h1 h2).mv c (tagn (by simp; exact fun e => hne e.symm))
 ·rw [hp] at h1; cases h1
  have h3 : 2 < bs.length := by rw [← h.len]; exact (List.getElem?_eq_some_iff.1 hp).1
  rw [List.getElem?_set_self h3] at h2; cases h2
  exact ⟨hl, ho⟩
theorem c_make (τo τb : Nat) (G B N : Nat) (s : TH) (hv : GeoOk G B N) : TRet Tryz.prog 20 #[.agg #[.int .i64 (G : Int), .int .i64 (B : Int), .int .i64 (N : Int)]] s fun v s' => ∃ a' c' hs, v = .tuple #[.slice a' (G * B) c', .int .i64 0] ∧ Ch [] s s' ∧ Own s' a' (G * B) c' 85 1 (hs.flatMap hd1) τo ∧ BRel s' τb hs (makeL G B N) := by
 have hv2 := hv
 unfold GeoOk at hv2
 have hcan : canG (G : Int) (B : Int) (N : Int) := by unfold canG; omega
 have hGB : 1 * 8 ≤ G * B := Nat.mul_le_mul (by omega) (by omega)
 have hBG : 1 * B ≤ G * B := Nat.mul_le_mul (by omega) (Nat.le_refl _)
 obtain ⟨M, hM, hM0, hMa, hMb, hMc, hMd, hMe, hMf⟩ := fresh6 s τo τb 0 0 0 0
 refine F20_calls _ _ _  ?_
 unfold F20
 refine al_t (M + 1) fun r1 s2 aD w ad aE => ?_
 refine ld_t w rfl (ld_t w rfl (ld_t w rfl ?_))
 refine tcall (gc_rcan (G : Int) (B : Int) (N : Int) _) ?_
 rintro aF y ⟨rfl, z⟩
 have aG := z.size
 rw [if_pos hcan]
 refine dInt_i (sB_f (by rfl) ?_)
 have A := w.ch z (by simp)
 refine ld_t A rfl (dInt_i ?_)
 refine ⟨fun vs H' => ∃ s' : TH, s'.h = H' ∧ ∃ pa pn pc i, vs = [.slice pa pn pc, .int .i64 i] ∧ Ch [M + 5] y s' ∧ (∃ (k : Nat) (hs : List Hd), i = k ∧ k ≤ G ∧ pn = k * B ∧ Own s' pa pn pc 85 1 (hs.flatMap hd1) (M + 5) ∧ B2 s' (M + 8) (M + 6) hs (mkL G B N k)), fun vs H' => match vs with | [.slice pa pn pc, .int .i64 i] => ((G : Int) - i).toNat | _ => 0, ⟨y, rfl, _, _, _, _, rfl, Ch.refl _ _, ?_⟩, ?_⟩
 ·
  exact ⟨0, [], rfl, by omega, by simp, Own.nil _ _ _ _, ⟨rfl, fun i p b _ h _ => by simp at h, fun p b h _ => by simp at h⟩⟩
 ·
  intro pa pn pc i _ _ _ _ _ _ _ _ _ H_ hI_11
  obtain ⟨aj, rfl, pa_, pn_, pc_, i_, hvs, a, k, hs, rfl, hk, hpn, ho, hb2⟩ := hI_11
  cases hvs
  have ak := a.size
  obtain ⟨μ, hμ, hμ2⟩ : ∃ μ, μ = (if k = 0 then M + 8 else M + 6) ∧ M + 6 ≤ μ := ⟨_, rfl, by split <;> omega⟩
  have hkB : k * B ≤ 8 * 256 := Nat.mul_le_mul (by omega) (by omega)
  have hhl := hb2.len
  rw [mkL_len (by omega)] at hhl
  refine sB_d (fun O => ?_) (fun O => ?_)
  ·
   have o := A.ch a (by simp)
   refine ld_t o rfl (ld_t o rfl (ld_t o rfl ?_))
   refine tcall (c_group (M + 10) μ (M + 6) G B N k _ hv (by omega)) ?_
   rintro al am ⟨ae, af, d, rfl, e, c, C⟩
   have an := e.size
   refine dSl_i ?_
   have D := ho.mv e (tagn (by simp))
   refine app_i u49 in85 rfl D (c).sl (m := B) (k := 1) ((c).1) (hd1_one _) (c).none_iff (by unfold maxLen; omega) fun q pa2 pc2 P K _ => ?_
   have f := K.ch D (T := [M + 5]) (by simp)
   have ao := f.size
   refine dSl_i (wr_t (by omega) ?_)
   have Q := ((a.app e).app f)
   refine ⟨⟨q, rfl, _, _, _, _, rfl, ((Ch.refl [M + 5] y).ch Q (by simp)), ?_⟩, ?_⟩
   ·
    have R := C.ch f (by simp <;> omega) (by simp <;> omega)
    have S := hb2.ch (e.app f) (by simp <;> omega) (by simp <;> omega)
    have hb3 : B2 q μ (M + 6) d (grpL G B N k) := R
    have hb4 : B2 q (M + 8) (M + 6) hs (mkL G B N k) := S
    refine ⟨k + 1, hs ++ d, by omega, by omega, by rw [hpn, Nat.succ_mul], by have h := P; simpa [List.flatMap_append] using h, ?_⟩
    by_cases hk0 : k = 0
    ·subst hk0
     have he : hs = [] := List.eq_nil_of_length_eq_zero (by rw [hhl]; simp)
     subst he
     rw [if_pos rfl] at hμ; subst hμ
     exact hb3
    ·rw [if_neg hk0] at hμ; subst hμ
     have h1B : 1 * 8 ≤ k * B := Nat.mul_le_mul (by omega) (by omega)
     exact hb4.app hb3.brel (by omega)
   ·
    simp only []; omega
  ·
   have U := A.ch a (by simp)
   refine ld_t U rfl (dInt_i (ask_t (by omega) ?_))
   refine wr_t (by simp <;> omega) ?_
   refine wr_t (by simp <;> omega) ?_
   have hq4 : Int.tdiv (N : Int) 4 = ((N / 4 : Nat) : Int) := by rw [Int.tdiv_eq_ediv_of_nonneg (by omega)]; omega
   obtain rfl : k = G := by omega
   rw [hq4, show (2 + ((N / 4 : Nat) : Int)) = ((2 + N / 4 : Nat) : Int) by omega]
   refine tcall (c_encDin (M + 12) 2 2 128 (2 + N / 4) 0 0 0 0 0 (by omega) (by unfold DinOk; omega)) ?_
   rintro ap V ⟨ag, ah, rfl, g, E⟩
   have aq := g.size
   obtain ⟨⟨a2, c2⟩, hx2⟩ : ∃ x, hs[2]? = some x := ⟨hs[2]'(by omega), by simp⟩
   have W := hb2.ch g (by simp <;> omega) (by simp <;> omega)
   have hb0 := W
   have ho2 := (hb0.two _ _ hx2 (mkL_two (by omega) (by omega))).2
   obtain ⟨ax, hax⟩ := ho2.ne_none (by omega)
   simp only at hax
   subst hax
   have ho5 : Own V (some ax) 128 c2 5 1 (bvs zB128) (M + 8) := ho2
   have hc2 : 128 ≤ c2 := ho5.le
   refine dT2 (dSl_i (dInt_i ?_))
   have r := ho.mv g (tagn (by simp))
   obtain ⟨ar, rfl⟩ := r.ne_none (by omega)
   refine nz_i (ask_t (by omega) ?_)
   refine ld_sl (v := .slice (some ax) 128 c2) (r).sl (bcell hx2) ?_
   refine dSl_i (ask_t (by omega) ?_)
   refine copy_sl (p := 64) (n := 128) u85 in5 ho5 (E).sl (dinL_len _ _ _ _ _ _ _ _ _) (by decide) (by decide) fun au ho3 j _ => ?_
   have av := j.size
   have hb5 := hb0.cp j (by omega) hx2 (by rw [overlay_len (by rw [dinL_len, zB128_len]; decide)]; exact zB128_len) ho3
   refine dInt_i ?_
   refine al_t (M + 9) fun aH aI aw X t ay => ?_
   refine tcall (c_encDirs (M + 14) 2 (es := dots) (show Sl _ _ (dots.flatMap ev) _ from (X).sl) rfl (by omega) (by omega) dots_nc (by omega) (by omega) (by omega) (by omega) dots_ok) ?_
   rintro az aA ⟨F, H, rfl, l, I⟩
   have aB := l.size
   refine dT2 (dSl_i (dInt_i (nz_i (ask_t (by omega) ?_))))
   have Y := ((j.app t).app l)
   have J := r.mv Y (tagn (by simp))
   refine Own.st J rfl (by rw [Nat.mul_one, Int.toNat_natCast]; omega) fun ai Z L aC => ?_
   have u := Ch.on_tag (T := [M + 5]) (Ch.refl _ _) L J.tagOf (by simp)
   have aa := ((t.app l).app u)
   have ab := hb5.ch aa (by simp <;> omega) (by simp <;> omega)
   have ac := I.mv u (tagn (by simp))
   obtain ⟨φ, hφ⟩ : ∃ φ : Nat → Nat, φ = fun m => if m = M + 5 then τo else if m = M + 6 then τb else if m = M + 8 then τb else if m = M + 14 then τb else m := ⟨_, rfl⟩
   have f5 : φ (M + 5) = τo := by subst hφ; exact if_pos rfl
   have f6 : φ (M + 6) = τb := by subst hφ; simp
   have f8 : φ (M + 8) = τb := by subst hφ; simp
   have f14 : φ (M + 14) = τb := by subst hφ; simp
   have h1 := (Z).rf (φ := φ)
   have h2 := (ab).rf (φ := φ)
   have h3 := (ac).rf (φ := φ)
   rw [Int.toNat_natCast, Nat.mul_one, fm_set1 _ _ (F, H), f5, hpn] at h1
   rw [f6, f8] at h2
   rw [f14] at h3
   rw [hpn]
   exact ret_t' (s' := remarkF ai φ) rfl ⟨_, _, _, rfl, remarkF_ch (((((((((Ch.refl [] s).ch ad (by simp)).ch z (by simp)).fr a hM (by simp)).fr g hM (by simp)).fr j hM (by simp)).ch t (by simp)).fr l hM (by simp <;> omega)).fr u hM (by simp)) hM (fun m hm => by subst hφ; simp only; rw [if_neg (by omega), if_neg (by omega), if_neg (by omega), if_neg (by omega)]), h1, (h2.brel).set (2 + N / 4) ⟨h3.sl, dots_len⟩⟩
theorem c_makeN (a b c : Int) (s : TH) (hv : ¬ canG a b c) : TRet Tryz.prog 20 #[.agg #[.int .i64 a, .int .i64 b, .int .i64 c]] s fun v s' => v = .tuple #[.slice none 0 0, .int .i64 170] ∧ Ch [] s s' := by
 obtain ⟨M, hM, hM0, hMa, hMb, hMc, hMd, hMe, hMf⟩ := fresh6 s 0 0 0 0 0 0
 refine F20_calls _ _ _  ?_
 unfold F20
 refine al_t (M + 1) fun r1 s2 g d f h => ?_
 refine ld_t d rfl (ld_t d rfl (ld_t d rfl ?_))
 refine tcall (gc_rcan a b c _) ?_
 rintro i j ⟨rfl, e⟩
 have k := e.size
 rw [if_neg hv]
 refine dInt_i (sB_t (by rfl) ?_)
 refine ret_t ?_
 exact ⟨rfl, (((Ch.refl [] s).ch f (by simp)).ch e (by simp))⟩
theorem c_pimage (τo τr : Nat) {xa : Option Addr} {n : Nat} (xc : Nat) {hs : List Hd} {bs : List (List UInt8)} {τx τb : Nat} {s : TH} (hq : Sl s xa (hs.flatMap hd1) τx) (hb : BRel s τb hs bs) (hn : hs.length = n) (hn2 : 1 ≤ n ∧ n ≤ 2048) : TRet Tryz.prog 56 #[.slice xa n xc] s fun v s' => ∃ a c hs', v = .slice a n c ∧ Ch [] s s' ∧ Own s' a n c 85 1 (hs'.flatMap hd1) τo ∧ BRel s' τr hs' bs := by
 obtain ⟨M, hM, hM0, hMa, hMb, hMc, hMd, hMe, hMf⟩ := fresh6 s τx τb τo τr 0 0
 refine F56_calls _ _ _  ?_
 unfold F56
 refine ⟨fun vs H' => ∃ s' : TH, s'.h = H' ∧ ∃ pa pn pc i, vs = [.slice pa pn pc, .int .i64 i] ∧ Ch [M + 5] s s' ∧ (∃ (kk : Nat) (hs' : List Hd), i = kk ∧ kk ≤ n ∧ pn = kk ∧ Own s' pa pn pc 85 1 (hs'.flatMap hd1) (M + 5) ∧ BRel s' (M + 6) hs' (bs.take kk)), fun vs H' => match vs with | [.slice pa pn pc, .int .i64 i] => ((n : Int) - i).toNat | _ => 0, ⟨s, rfl, _, _, _, _, rfl, Ch.refl _ _, ?_⟩, ?_⟩
 ·
  exact ⟨0, [], rfl, by omega, rfl, Own.nil _ _ _ _, BRel.nil _ _⟩
 ·
  intro pa pn pc i _ _ _ _ _ _ _ _ _ _ H_ hI_2
  obtain ⟨H, rfl, pa_, pn_, pc_, i_, hvs, g, kk, hs', rfl, hk, rfl, ho, hb2⟩ := hI_2
  cases hvs
  have P := g.size
  refine sB_d (fun w => ?_) (fun w => ?_)
  ·
   have hk2 : pn < n := by omega
   obtain ⟨x, hx⟩ : ∃ x, hs[pn]? = some x := ⟨hs[pn]'(by omega), by simp⟩
   obtain ⟨y, hy⟩ : ∃ y, bs[pn]? = some y := ⟨bs[pn]'(by rw [← hb.len]; omega), by simp⟩
   obtain ⟨ax, rfl⟩ := hq.some (fun e => by have := bcell hx; rw [e] at this; simp at this)
   refine nz_i (ask_t (by omega) ?_)
   have I := hq.mv g (tagn (by simp <;> omega))
   refine ld_sl (v := .slice x.1 128 x.2) I (by rw [Int.toNat_natCast, Nat.mul_one]; exact bcell hx) ?_
   refine dSl_i ?_
   have j := hb.mv g (tagn (by simp <;> omega))
   refine tcall (c_clone (M + 6) _ ((j).at_ _ _ _ hx hy).sl ((j).at_ _ _ _ hx hy).len (fun h => by obtain ⟨z, hz⟩ := ((j).at_ _ _ _ hx hy).ne; rw [h] at hz; cases hz) (by omega)) ?_
   rintro Q R ⟨l, o, rfl, b, p, J⟩
   have K := b.size
   refine dSl_i ?_
   refine al_t (M + 9) fun S U L A d N => ?_
   have q := ho.mv (b.app d) (tagn (by simp))
   refine app_i u49 in85 rfl q (A).sl (m := 1) (k := 1) rfl (by intro u hu; simp at hu; subst hu; rfl) (by simp) (by unfold maxLen; omega) fun B pa2 pc2 C t _ => ?_
   have f := t.ch q (T := [M + 5]) (by simp)
   have O := f.size
   refine dSl_i (wr_t (by omega) ?_)
   have D := (((g.app b).app d).app f)
   refine ⟨⟨B, rfl, _, _, _, _, rfl, ((Ch.refl [M + 5] s).ch D (by simp)), ?_⟩, ?_⟩
   ·
    have r := ((b.app d).app f)
    have E := hb2.mv r (tagn (by simp))
    have F := p.mv (d.app f) (tagn (by simp))
    have G := j.mv r (tagn (by simp <;> omega))
    exact ⟨pn + 1, hs' ++ [(l, o)], by omega, by omega, rfl, by have h := C; simpa [hd1] using h, by rw [List.take_add_one, hy]; exact (E).snoc ⟨(F).sl, ((G).at_ _ _ _ hx hy).len⟩⟩
   ·
    simp only []; omega
  ·
   obtain rfl : pn = n := by omega
   obtain ⟨φ, hφ⟩ : ∃ φ : Nat → Nat, φ = fun m => if m = M + 5 then τo else if m = M + 6 then τr else m := ⟨_, rfl⟩
   have f5 : φ (M + 5) = τo := by subst hφ; exact if_pos rfl
   have f6 : φ (M + 6) = τr := by subst hφ; simp
   have h1 := (ho).rf (φ := φ)
   have h2 := (hb2).rf (φ := φ)
   rw [f5] at h1
   rw [f6, List.take_of_length_le (by rw [← hb.len]; omega)] at h2
   exact ret_t' (s' := remarkF H φ) rfl ⟨_, _, _, rfl, remarkF_ch ((Ch.refl [] s).fr g hM (by simp)) hM (fun m hm => by subst hφ; simp only; rw [if_neg (by omega), if_neg (by omega)]), h1, h2⟩
theorem c_copied {xa : Option Addr} {xn : Nat} (xc : Nat) {l : List UInt8} {τx : Nat} {s : TH} (hx : Sl s xa (bvs l) τx) (hn : l.length = xn) (hb : xn ≤ 1000000000) : TRet Tryz.prog 119 #[.slice xa xn xc] s fun v s' => ∃ a c, v = .slice a xn c ∧ Ch [] s s' := by
 obtain ⟨M, hM, hM0, hMa, hMb, hMc, hMd, hMe, hMf⟩ := fresh6 s τx 0 0 0 0 0
 refine F119_calls _ _ _  ?_
 unfold F119
 refine al_t (M + 1) fun r1 s2 g e b h => ?_
 have f := hx.mv b (tagn (by simp))
 refine app_bv (xs := []) u85 in5 ((e).own0 1) f hn (by omega) fun i a1 c1 j d => ?_
 have k := d.size
 refine dSl_i ?_
 refine ret_t ?_
 exact ⟨_, _, by rw [Nat.zero_add], (((Ch.refl [] s).ch b (by simp)).fr d hM (by simp))⟩
theorem c_rof {xa : Option Addr} {n : Nat} (xc : Nat) {hs : List Hd} {bs : List (List UInt8)} {τx τb : Nat} {s : TH} (hq : Sl s xa (hs.flatMap hd1) τx) (hb : BRel s τb hs bs) (hn : hs.length = n) (hn2 : 1 ≤ n ∧ n ≤ 2048) : TRet Tryz.prog 57 #[.slice xa n xc] s fun v s' => ∃ d, v = .tuple #[.pointer (some ⟨d, 0, none⟩), .int .i64 0] ∧ Ch [] s s' := by
 obtain ⟨M, hM, hM0, hMa, hMb, hMc, hMd, hMe, hMf⟩ := fresh6 s τx τb 0 0 0 0
 refine F57_calls _ _ _  ?_
 unfold F57
 refine jn_u ?_
 refine sB_d (fun C => by exfalso; omega) (fun C => ?_)
 intro _
 intros
 refine dBl_i ?_
 refine sB_d (fun D => by exfalso; omega) (fun D => ?_)
 refine ask_t (by omega) ?_
 refine al_t (M + 1) fun P af U ag A ah => ?_
 refine al_t (M + 2) fun Q g V R B ai => ?_
 refine ⟨fun vs H' => ∃ s' : TH, s'.h = H' ∧ ∃ i, vs = [.int .i64 i] ∧ Ch [M + 2, M + 5] g s' ∧ (∃ (kk : Nat) (hs' : List Hd) (pa : Option Addr) (pc : Nat), i = kk ∧ kk ≤ n ∧ Blk s' Q [.slice pa kk pc, .slice none 0 0, .slice (some ⟨P, 0, none⟩) n n, .int .i64 0] 195 (M + 2) ∧ Own s' pa kk pc 85 1 (hs'.flatMap hd1) (M + 5)), fun vs H' => match vs with | [.int .i64 i] => ((n : Int) - i).toNat | _ => 0, ⟨g, rfl, _, rfl, Ch.refl _ _, ?_⟩, ?_⟩
 ·
  exact ⟨0, [], none, 0, rfl, by omega, R, Own.nil _ _ _ _⟩
 ·
  intro i _ _ _ _ _ _ _ _ _ _ _ _ _ _ _ _ _ _ _ _ _ H_ hI_8
  obtain ⟨aj, rfl, i_, hvs, f, kk, hs', pa, pc, rfl, hk, hr, ho⟩ := hI_8
  cases hvs
  have W := f.size
  refine sB_d (fun E => ?_) (fun E => ?_)
  ·
   have hk2 : kk < n := by omega
   obtain ⟨x, hx⟩ : ∃ x, hs[kk]? = some x := ⟨hs[kk]'(by omega), by simp⟩
   obtain ⟨y, hy⟩ : ∃ y, bs[kk]? = some y := ⟨bs[kk]'(by rw [← hb.len]; omega), by simp⟩
   obtain ⟨ax, rfl⟩ := hq.some (fun e => by have := bcell hx; rw [e] at this; simp at this)
   refine nz_i (ask_t (by omega) ?_)
   have j := ((A.app B).app f)
   have F := hq.mv j (tagn (by simp <;> omega))
   refine ld_sl (v := .slice x.1 128 x.2) F (by rw [Int.toNat_natCast, Nat.mul_one]; exact bcell hx) ?_
   refine dSl_i (sB_f (by rfl) (ld_t hr rfl (dSl_i ?_)))
   have l := hb.mv j (tagn (by simp <;> omega))
   refine tcall (c_copied _ ((l).at_ _ _ _ hx hy).sl ((l).at_ _ _ _ hx hy).len (by omega)) ?_
   rintro X Y ⟨o, p, rfl, a⟩
   have Z := a.size
   refine dSl_i ?_
   refine ⟨?_, ?_⟩
   ·
    have G := hr.ch a (by simp)
    refine ld_t G rfl (dSl_i ?_)
    rfl
   ·
    refine al_t (M + 9) fun ak al aa H b ab => ?_
    refine ⟨?_, ?_⟩
    ·
     have I := hr.ch (a.app b) (by simp)
     refine ld_t I rfl (dSl_i ?_)
     rfl
    ·
     have q := ho.mv (a.app b) (tagn (by simp))
     refine app_i u49 in85 rfl q (H).sl (m := 1) (k := 1) rfl (by intro u hu; simp at hu; subst hu; rfl) (by simp) (by unfold maxLen; omega) fun ac pa2 pc2 J w _ => ?_
     have c := w.ch q (T := [M + 5]) (by simp)
     have ad := c.size
     refine dSl_i ?_
     have K := ((a.app b).app c)
     have r := hr.ch K (by simp)
     refine st_t r rfl (by simp) fun S L z ae => ?_
     have t := on_ch r z
     refine wr_t (by omega) ?_
     have N := ((((f.app a).app b).app c).app t)
     refine ⟨⟨S, rfl, _, rfl, ((Ch.refl [M + 2, M + 5] g).ch N (by simp)), ?_⟩, ?_⟩
     ·
      have O := J.mv t (tagn (by simp))
      exact ⟨kk + 1, hs' ++ [(o, p)], _, _, by omega, by omega, L, by have h := O; simpa [hd1] using h⟩
     ·
      simp only []; omega
  ·
   refine ret_t ?_
   exact ⟨_, rfl, ((((Ch.refl [] s).ch A (by simp)).ch B (by simp)).fr f hM (by simp))⟩
theorem c_r6new (d : Nat) (b : Int) (s : TH) (hb : 1 ≤ b ∧ b ≤ 64) : TRet Tryz.prog 122 #[.pointer (some ⟨d, 0, none⟩), .int .i64 b] s fun v s' => ∃ c, v = .tuple #[.pointer (some ⟨c, 0, none⟩), .int .i64 0] ∧ Ch [] s s' := by
 obtain ⟨M, hM, hM0, hMa, hMb, hMc, hMd, hMe, hMf⟩ := fresh6 s 0 0 0 0 0 0
 refine F122_calls _ _  ?_
 unfold F122
 refine sB_f (by rfl) ?_
 refine jn_u ?_
 refine sB_d (fun a => by exfalso; omega) (fun a => ?_)
 intro _
 intros
 refine dBl_i ?_
 refine sB_d (fun e => by exfalso; omega) (fun e => ?_)
 refine al_t (M + 1) fun r9 g h i f j => ?_
 refine ret_t ?_
 exact ⟨_, rfl, ((Ch.refl [] s).ch f (by simp))⟩
theorem c_r9open (d : Nat) (b : Int) (s : TH) (hb : 1 ≤ b ∧ b ≤ 64) : TRet Tryz.prog 59 #[.pointer (some ⟨d, 0, none⟩), .int .i64 b] s fun v s' => ∃ c, v = .tuple #[.pointer (some ⟨c, 0, none⟩), .int .i64 0] ∧ Ch [] s s' := by
 obtain ⟨M, hM, hM0, hMa, hMb, hMc, hMd, hMe, hMf⟩ := fresh6 s 0 0 0 0 0 0
 refine F59_calls _ _  ?_
 unfold F59
 refine sB_f (by rfl) ?_
 refine tcall (c_r6new d b _ hb) ?_
 rintro j k ⟨g, rfl, a⟩
 have l := a.size
 refine dT2 (dPtr_i (dInt_i (sB_f (by rfl) ?_)))
 refine al_t (M + 1) fun r7 s8 m n h o => ?_
 refine al_t (M + 2) fun r9 p q r e i => ?_
 refine ret_t ?_
 have f := ((a.app h).app e)
 exact ⟨_, rfl, ((Ch.refl [] s).ch f (by simp))⟩
end Go.Proofs.YtklppdodadkcnaaGreat.E
