/- My own texts, joined. -/
import Derived.KernelRfl
import Derived.Test.YtklppdodadkcnaaGreatProg
import Derived.Test.YtklppdodadkcnaaGreatIC21
namespace Go.Proofs.YtklppdodadkcnaaGreat.E
open Go Go.Proofs Go.RowKit Go.Maps Go.Shelf Go.Sort
set_option linter.unusedVariables false
set_option linter.unusedSimpArgs false
def AL (G B N : Nat) (A : Nat → List UInt8 × List UInt8) (x : Nat) : Prop := ∃ n i, n < G ∧ 2 + N / 4 ≤ i ∧ i < B ∧ x = n * B + i ∧ hasB (A n).2 i = true
theorem dm_eq {B n i m j : Nat} (hi : i < B) (hj : j < B) (e : n * B + i = m * B + j) : n = m ∧ i = j := by
 rcases Nat.lt_trichotomy n m with h | h | h
 ·have := Nat.mul_le_mul_right B (show n + 1 ≤ m from h); rw [Nat.succ_mul] at this; omega
 ·subst h; exact ⟨rfl, by omega⟩
 ·have := Nat.mul_le_mul_right B (show m + 1 ≤ n from h); rw [Nat.succ_mul] at this; omega
theorem dm_lt {G B n i : Nat} (hn : n < G) (hi : i < B) : n * B + i < G * B := by
 have := Nat.mul_le_mul_right B (show n + 1 ≤ G from hn); rw [Nat.succ_mul] at this; omega
theorem AL.lt {G B N : Nat} {A : Nat → List UInt8 × List UInt8} {x : Nat} (h : AL G B N A x) : x < G * B := by obtain ⟨n, i, hn, _, hi, rfl, _⟩ := h; exact dm_lt hn hi
theorem AL.nz {G B N : Nat} {A : Nat → List UInt8 × List UInt8} {x : Nat} (h : AL G B N A x) : x ≠ 0 := by obtain ⟨n, i, hn, h2, hi, rfl, _⟩ := h; omega
theorem AL.nh {G B N : Nat} {A : Nat → List UInt8 × List UInt8} {x : Nat} (h : AL G B N A x) (m : Nat) : x ≠ m * B + 1 := by
 obtain ⟨n, i, hn, h2, hi, rfl, _⟩ := h
 intro e; have := dm_eq hi (show 1 < B by omega) e; omega
theorem AL.ni {G B N : Nat} {A : Nat → List UInt8 × List UInt8} {x : Nat} (h : AL G B N A x) (m j : Nat) (hj : j < 2 + N / 4) : x ≠ m * B + j := by
 obtain ⟨n, i, hn, h2, hi, rfl, _⟩ := h
 intro e; have := dm_eq hi (show j < B by omega) e; omega
theorem now_len {V : VolM} (ok : VOk V) (pok : POk V.P) {b : Int} (h : V.D.has b) : (V.now b).length = 128 := by
 unfold VolM.now
 rw [over_of pok]
 exact ovL_len (blk_len ok h) fun x hx => pok.fitX (List.mem_filter.1 hx).1
structure VExt (V V' : VolM) (j k : Nat) : Prop where
 D : V'.D = V.D
 way : V'.way = V.way
 done : V'.P.done = V.P.done
 last : V.P.last ≤ V'.P.last ∧ V'.P.last ≤ V.P.last + (j : Int)
 n : V.n ≤ V'.n ∧ V'.n ≤ V.n + (k : Int)
 old : V.old.on = false → V'.old = V.old
 l : ∃ ps : List PatM, V'.P.l = V.P.l ++ ps ∧ ∀ p ∈ ps, V.P.last < p.id
theorem VExt.tk (V : VolM) (k : Nat) : VExt V (V.tk (k : Int)) 0 k := ⟨rfl, rfl, rfl, ⟨Int.le_refl _, by show V.P.last ≤ _; omega⟩, ⟨by show V.n ≤ V.n + _; omega, Int.le_refl _⟩, fun _ => rfl, [], by rw [List.append_nil]; rfl, fun p hp => by cases hp⟩
theorem VExt.trans {V V' V'' : VolM} {j k j' k' : Nat} (h : VExt V V' j k) (h' : VExt V' V'' j' k') : VExt V V'' (j + j') (k + k') := by
 obtain ⟨ps, e1, e2⟩ := h.l
 obtain ⟨qs, e3, e4⟩ := h'.l
 refine ⟨h'.D.trans h.D, h'.way.trans h.way, h'.done.trans h.done, ⟨Int.le_trans h.last.1 h'.last.1, by have := h.last.2; have := h'.last.2; omega⟩, ⟨Int.le_trans h.n.1 h'.n.1, by have := h.n.2; have := h'.n.2; omega⟩, fun e => ?_, ps ++ qs, by rw [e3, e1, List.append_assoc], fun p hp => ?_⟩
 ·have h1 := h.old e
  rw [h'.old (by rw [h1]; exact e), h1]
 ·rcases List.mem_append.1 hp with hp | hp
  ·exact e2 p hp
  ·have := e4 p hp; have := h.last.1; omega
theorem VExt.le {V V' : VolM} {j k j' k' : Nat} (h : VExt V V' j k) (hj : j ≤ j') (hk : k ≤ k') : VExt V V' j' k' := ⟨h.D, h.way, h.done, ⟨h.last.1, by have := h.last.2; omega⟩, ⟨h.n.1, by have := h.n.2; omega⟩, h.old, h.l⟩
theorem keep_off {V : VolM} (b : Int) (h : V.old.on = false) : V.keep b = V.old := by
 unfold VolM.keep VolM.first; simp [h]
theorem VExt.ch {V V' : VolM} {b o : Int} {y : List UInt8} (c : ChT V b o y V') : VExt V V' 1 1 := by
 obtain ⟨p, e1, e2⟩ := c.l
 refine ⟨c.D, c.way, c.done, by rw [c.last]; omega, by rw [c.n]; unfold VolM.ticks; split <;> omega, fun e => by rw [c.old]; exact keep_off b e, [p], e1, fun q hq => ?_⟩
 rw [List.mem_singleton] at hq; subst hq; omega
theorem VExt.undo {V V' : VolM} {j k : Nat} (h : VExt V V' j k) (ok : POk V.P) : V'.P.undo V.P.last = (V.P, 0) := by
 have hl := ok.lst
 obtain ⟨ps, e1, e2⟩ := h.l
 unfold PatchM.undo
 rw [if_neg (by have := h.last.1; omega), if_neg (by
  intro hh
  rw [h.done] at hh
  obtain ⟨j, hj, h2⟩ := List.any_eq_true.1 hh
  have := ok.dn j hj
  simp at h2; omega)]
 have f1 : V.P.l.filter (fun x => decide (x.id ≤ V.P.last)) = V.P.l := List.filter_eq_self.2 fun x hx => by have := ok.rng x hx; simpa using this.2
 have f2 : ps.filter (fun x => decide (x.id ≤ V.P.last)) = [] := List.filter_eq_nil_iff.2 fun x hx => by have := e2 x hx; simp; omega
 rw [e1, List.filter_append, f1, f2, List.append_nil, h.done]
theorem VExt.now {V V' : VolM} {j k : Nat} (h : VExt V V' j k) (b : Int) : ({ V' with P := V.P } : VolM).now b = V.now b := by
 unfold VolM.now VolM.blk
 show V.P.over (V'.D.blocks.getD b.toNat []) _ = _
 rw [h.D]
structure Fr2 (G B N : Nat) (A A' : Nat → List UInt8 × List UInt8) (V V' : VolM) (b : Nat) : Prop where
 hds : AS G B V' A'
 al : ∀ x, AL G B N A' x ↔ AL G B N A x ∨ x = b
 new : ¬ AL G B N A b
 dat : ∃ n i, n < G ∧ 2 + N / 4 ≤ i ∧ i < B ∧ b = n * B + i
 z : nowN V' b = zB128
 ne : ∀ x, x ≠ b → (∀ m, m < G → x ≠ m * B + 1) → nowN V' x = nowN V x
 ext : VExt V V' 2 10
 row : ∀ m, (A' m).1 = (A m).1
 low : ∀ n i, n < G → i < 2 + N / 4 → hasB (A' n).2 i = hasB (A n).2 i
def InoF (G B N : Nat) (V V' : VolM) : Prop := ∀ n i, n < G → 2 ≤ i → i < 2 + N / 4 → nowN V' (n * B + i) = nowN V (n * B + i)
theorem InoF.trans {G B N : Nat} {V V' V'' : VolM} (h : InoF G B N V V') (h' : InoF G B N V' V'') : InoF G B N V V'' := fun n i h1 h2 h3 => (h' n i h1 h2 h3).trans (h n i h1 h2 h3)
theorem Fr2.nz {G B N : Nat} {A A' : Nat → List UInt8 × List UInt8} {V V' : VolM} {b : Nat} (h : Fr2 G B N A A' V V' b) : b ≠ 0 := by obtain ⟨n, i, _, _, _, rfl⟩ := h.dat; omega
theorem Fr2.lt {G B N : Nat} {A A' : Nat → List UInt8 × List UInt8} {V V' : VolM} {b : Nat} (h : Fr2 G B N A A' V V' b) (hg : GeoOk G B N) : b < 2048 ∧ b < G * B := by
 obtain ⟨n, i, hn, _, hi, rfl⟩ := h.dat
 have h1 := dm_lt (G := G) hn hi
 unfold GeoOk at hg
 have : G * B ≤ 8 * 256 := Nat.mul_le_mul (by omega) (by omega)
 omega
theorem fr2_mk {G B N : Nat} (hg : GeoOk G B N) {A : Nat → List UInt8 × List UInt8} {V V1 V2 : VolM} (hA : AS G B V A) {n i k : Nat} (hn : n < G) (h2 : 2 + N / 4 ≤ i) (hi : i < B) (hf : hasB (A n).2 i = false) (hk : k ≤ 8)
  (c1 : ChT (V.tk k) (hB n B) (12 + ((i / 8 : Nat) : Int)) [setTo ((A n).2.getD (i / 8) 0) (i % 8) true] V1) (h128 : (V1.now ((n * B + i : Nat) : Int)).length = 128) (c2 : ChT V1 ((n * B + i : Nat) : Int) 0 zB128 V2) :
  Fr2 G B N A (updA A n (withB (A n).2 i true)) V V2 (n * B + i) := by
 have hg2 := hg
 unfold GeoOk at hg2
 have hA1 : AS G B V1 (updA A n (withB (A n).2 i true)) := (hA.tk k).up (by omega) hn (by omega) c1
 have hh : ∀ m, hB m B ≠ ((n * B + i : Nat) : Int) := fun m e => by
  rw [hB_nat] at e
  have := dm_eq hi (show 1 < B by omega) (Int.ofNat_inj.1 e).symm; omega
 have hrow : ∀ m j, j < B → hasB ((updA A n (withB (A n).2 i true)) m).2 j = if m = n ∧ j = i then true else hasB (A m).2 j := fun m j hj => by
  unfold updA
  by_cases e : m = n
  ·subst e; rw [if_pos rfl, hasB_with (by rw [hA.l32 m hn]; omega)]
   by_cases e2 : j = i
   ·rw [if_pos e2, if_pos ⟨rfl, e2⟩]
   ·rw [if_neg e2, if_neg (fun h => e2 h.2)]
  ·rw [if_neg e, if_neg (fun h => e h.1)]
 refine ⟨⟨by rw [c2.D]; exact hA1.len, hA1.l8, hA1.l32, fun m hm => by rw [c2.ne _ (hh m)]; exact hA1.now m hm⟩, fun x => ?_, ?_, ⟨n, i, hn, h2, hi, rfl⟩, ?_, fun x hx hm => ?_, ?_, fun m => ?_, fun m j hm hj => ?_⟩
 ·constructor
  ·rintro ⟨m, j, hm, hj2, hj, rfl, hb⟩
   rw [hrow m j hj] at hb
   by_cases e : m = n ∧ j = i
   ·exact .inr (by rw [e.1, e.2])
   ·rw [if_neg e] at hb; exact .inl ⟨m, j, hm, hj2, hj, rfl, hb⟩
  ·rintro (⟨m, j, hm, hj2, hj, rfl, hb⟩ | rfl)
   ·exact ⟨m, j, hm, hj2, hj, rfl, by rw [hrow m j hj]; split <;> first | rfl | exact hb⟩
   ·exact ⟨n, i, hn, h2, hi, rfl, by rw [hrow n i hi, if_pos ⟨rfl, rfl⟩]⟩
 ·rintro ⟨m, j, hm, hj2, hj, e, hb⟩
  obtain ⟨rfl, rfl⟩ := dm_eq hi hj e
  rw [hf] at hb; cases hb
 ·show V2.now _ = _
  rw [c2.now]
  unfold overlay
  rw [show (0 : Int).toNat = 0 from rfl, List.take_zero, List.nil_append, Nat.zero_add, zB128_len, List.drop_eq_nil_of_le, List.append_nil]
  exact Nat.le_of_eq h128
 ·show V2.now _ = V.now _
  rw [c2.ne _ (fun e => hx (Int.ofNat_inj.1 e)), c1.ne _ (fun e => by rw [hB_nat] at e; exact hm n hn (Int.ofNat_inj.1 e))]; rfl
 ·exact (((VExt.tk V k).trans (VExt.ch c1)).trans (VExt.ch c2)).le (by omega) (by omega)
 ·unfold updA; split
  ·rename_i e; rw [e]
  ·rfl
 ·rw [hrow m j (by omega), if_neg (fun h => by omega)]
theorem Fr2.ino {G B N : Nat} {A A' : Nat → List UInt8 × List UInt8} {V V' : VolM} {b : Nat} (h : Fr2 G B N A A' V V' b) : InoF G B N V V' := fun n i h1 h2 h3 => by
 obtain ⟨n2, i2, g1, g2, g3, g4⟩ := h.dat
 refine h.ne _ (fun e => ?_) fun m _ e => ?_
 ·rw [g4] at e; have := dm_eq (by omega) g3 e; omega
 ·have := dm_eq (by omega) (by omega) e; omega
structure Stp (G B N : Nat) (A A' : Nat → List UInt8 × List UInt8) (V V' : VolM) (D D' : DinM) (j k : Nat) : Prop where
 hds : AS G B V' A'
 tree : TreeOk (nowN V') D' (AL G B N A')
 keep : ∀ q, q.ok → slot (nowN V) D q ≠ 0 → slot (nowN V') D' q = slot (nowN V) D q
 alm : ∀ x, AL G B N A x → AL G B N A' x
 aln : ∀ x, AL G B N A' x → AL G B N A x ∨ ∃ q, Pos.ok q ∧ slot (nowN V') D' q = x
 newn : ∀ q, q.ok → slot (nowN V) D q = 0 → slot (nowN V') D' q ≠ 0 → ¬ AL G B N A (slot (nowN V') D' q)
 zer : ∀ q, q.ok → ¬ q.fan → slot (nowN V) D q = 0 → slot (nowN V') D' q ≠ 0 → nowN V' (slot (nowN V') D' q) = zB128
 oth : ∀ x, AL G B N A x → (∀ q, q.ok → q.fan → slot (nowN V) D q ≠ x) → nowN V' x = nowN V x
 low : ∀ n i, n < G → i < 2 + N / 4 → hasB (A' n).2 i = hasB (A n).2 i
 row : ∀ m, (A' m).1 = (A m).1
 ext : VExt V V' j k
 dm : D'.m = D.m ∧ D'.l = D.l ∧ D'.z = D.z
theorem Stp.tk {G B N : Nat} {A : Nat → List UInt8 × List UInt8} {V : VolM} {D : DinM} (hA : AS G B V A) (ht : TreeOk (nowN V) D (AL G B N A)) (k : Nat) : Stp G B N A A V (V.tk (k : Int)) D D 0 k :=
 ⟨hA.tk k, ht, fun _ _ _ => rfl, fun _ h => h, fun _ h => .inl h, fun q _ e h => absurd e h, fun q _ _ e h => absurd e h, fun _ _ _ => rfl, fun _ _ _ _ => rfl, fun _ => rfl, VExt.tk V k, rfl, rfl, rfl⟩
theorem Stp.le {G B N : Nat} {A A' : Nat → List UInt8 × List UInt8} {V V' : VolM} {D D' : DinM} {j k j' k' : Nat} (h : Stp G B N A A' V V' D D' j k) (hj : j ≤ j') (hk : k ≤ k') : Stp G B N A A' V V' D D' j' k' :=
 ⟨h.hds, h.tree, h.keep, h.alm, h.aln, h.newn, h.zer, h.oth, h.low, h.row, h.ext.le hj hk, h.dm⟩
theorem Stp.trans {G B N : Nat} {A A' A'' : Nat → List UInt8 × List UInt8} {V V' V'' : VolM} {D D' D'' : DinM} {j k j' k' : Nat} (ht : TreeOk (nowN V) D (AL G B N A)) (h : Stp G B N A A' V V' D D' j k) (h' : Stp G B N A' A'' V' V'' D' D'' j' k') : Stp G B N A A'' V V'' D D'' (j + j') (k + k') := by
 have hk2 : ∀ q, q.ok → slot (nowN V) D q ≠ 0 → slot (nowN V'') D'' q = slot (nowN V) D q := fun q hq h0 => by
  have h1 := h.keep q hq h0
  rw [h'.keep q hq (by rw [h1]; exact h0), h1]
 refine ⟨h'.hds, h'.tree, hk2, fun x hx => h'.alm x (h.alm x hx), fun x hx => ?_, fun q hq h0 h2 => ?_, fun q hq hf h0 h2 => ?_, fun x hx hn => ?_, fun n i h1 h2 => (h'.low n i h1 h2).trans (h.low n i h1 h2), fun m => (h'.row m).trans (h.row m), h.ext.trans h'.ext, h'.dm.1.trans h.dm.1, h'.dm.2.1.trans h.dm.2.1, h'.dm.2.2.trans h.dm.2.2⟩
 ·rcases h'.aln x hx with h1 | h1
  ·rcases h.aln x h1 with h2 | ⟨q, hq, e⟩
   ·exact .inl h2
   ·exact .inr ⟨q, hq, by rw [h'.keep q hq (by rw [e]; exact h1.nz), e]⟩
  ·exact .inr h1
 ·by_cases e : slot (nowN V') D' q = 0
  ·intro hx; exact h'.newn q hq e h2 (h.alm _ hx)
  ·rw [h'.keep q hq e]; exact h.newn q hq h0 e
 ·by_cases e : slot (nowN V') D' q = 0
  ·exact h'.zer q hq hf e h2
  ·rw [h'.keep q hq e, h'.oth _ (h.tree.alc q hq e) fun p hp hpf e2 => by
    have := h.tree.inj p q hp hq (by rw [e2]; exact e) e2
    subst this; exact hf hpf]
   exact h.zer q hq hf h0 e
 ·rw [h'.oth x (h.alm x hx) fun q hq hf e => ?_]
  ·exact h.oth x hx hn
  ·by_cases e0 : slot (nowN V) D q = 0
   ·exact h.newn q hq e0 (by rw [e]; exact hx.nz) (by rw [e]; exact hx)
   ·rw [h.keep q hq e0] at e; exact hn q hq hf e
theorem stp_top {G B N : Nat} {A A' : Nat → List UInt8 × List UInt8} {V V' : VolM} {D : DinM} {b k : Nat} (ht : TreeOk (nowN V) D (AL G B N A)) (h : Fr2 G B N A A' V V' b) (hk : k < 6) (h0 : D.top k = 0) : Stp G B N A A' V V' D (D.put k b) 2 10 := by
 have hne : ∀ x, AL G B N A x → nowN V' x = nowN V x := fun x hx => h.ne x (fun e => h.new (e ▸ hx)) fun m _ => hx.nh m
 have hs := link_top ht hk h0 h.nz h.z hne
 have ha : ∀ x, AL G B N A x → AL G B N A' x := fun x hx => (h.al x).2 (.inl hx)
 refine ⟨h.hds, tree_top ht hk h0 h.nz h.new h.z ha ((h.al b).2 (.inr rfl)) hne, fun q hq hq0 => ?_, ha, fun x hx => ?_, fun q hq e0 e1 => ?_, fun q hq hf e0 e1 => ?_, fun x hx _ => hne x hx, h.low, h.row, h.ext, ?_⟩
 ·rw [hs q hq, if_neg]
  intro e; subst e; exact hq0 h0
 ·rcases (h.al x).1 hx with h1 | rfl
  ·exact .inl h1
  ·exact .inr ⟨.top k, hk, by rw [hs (.top k) hk, if_pos rfl]⟩
 ·rw [hs q hq] at e1 ⊢
  by_cases e : q = .top k
  ·rw [if_pos e]; exact h.new
  ·rw [if_neg e] at e1; exact absurd e0 e1
 ·rw [hs q hq] at e1 ⊢
  by_cases e : q = .top k
  ·rw [if_pos e]; exact h.z
  ·rw [if_neg e] at e1; exact absurd e0 e1
 ·unfold DinM.put; split <;> exact ⟨rfl, rfl, rfl⟩
theorem stp_in {G B N : Nat} (hg : GeoOk G B N) {A A' : Nat → List UInt8 × List UInt8} {V V1 V' : VolM} {D : DinM} {b : Nat} {p : Pos} (ht : TreeOk (nowN V) D (AL G B N A)) (h : Fr2 G B N A A' V V1 b) (hp : p.ok) (hi : p.inner) (h0 : slot (nowN V) D p = 0) (hpar : slot (nowN V) D p.par ≠ 0)
  (c : ChT V1 ((slot (nowN V) D p.par : Nat) : Int) ((2 * p.ix : Nat) : Int) (adr2 b) V') : Stp G B N A A' V V' D D 3 11 ∧ slot (nowN V') D p = b := by
 have hal := ht.alc p.par (Pos.par_ok hp hi) hpar
 have hbp : b ≠ slot (nowN V) D p.par := fun e => h.new (e ▸ hal)
 have hne1 : ∀ x, AL G B N A x → nowN V1 x = nowN V x := fun x hx => h.ne x (fun e => h.new (e ▸ hx)) fun m _ => hx.nh m
 have hc : ∀ x, x ≠ slot (nowN V) D p.par → nowN V' x = nowN V1 x := fun x hx => c.ne _ fun e => hx (Int.ofNat_inj.1 e)
 have hz : nowN V' b = zB128 := (hc b hbp).trans h.z
 have ho : nowN V' (slot (nowN V) D p.par) = overlay (nowN V (slot (nowN V) D p.par)) (2 * p.ix) (adr2 b) := by
  rw [← hne1 _ hal]; exact c.now
 have hs' : ∀ x, AL G B N A x → x ≠ slot (nowN V) D p.par → nowN V' x = nowN V x := fun x hx hn => (hc x hn).trans (hne1 x hx)
 have hb := h.lt hg
 have hs := link_in ht hp hi h0 hpar h.nz hb.1 hz ho hs'
 have ha : ∀ x, AL G B N A x → AL G B N A' x := fun x hx => (h.al x).2 (.inl hx)
 refine ⟨?_, by rw [hs p hp, if_pos rfl]⟩
 refine ⟨⟨by rw [c.D]; exact h.hds.len, h.hds.l8, h.hds.l32, fun m hm => ?_⟩, tree_in ht hp hi h0 hpar h.nz hb.1 h.new hz ha ((h.al b).2 (.inr rfl)) ho hs', fun q hq hq0 => ?_, ha, fun x hx => ?_, fun q hq e0 e1 => ?_, fun q hq hf e0 e1 => ?_, fun x hx hn => ?_, h.low, h.row, (h.ext.trans (VExt.ch c)).le (by omega) (by omega), rfl, rfl, rfl⟩
 ·rw [c.ne _ (fun e => by rw [hB_nat] at e; exact hal.nh m (Int.ofNat_inj.1 e).symm)]; exact h.hds.now m hm
 ·rw [hs q hq, if_neg]
  intro e; subst e; exact hq0 h0
 ·rcases (h.al x).1 hx with h1 | rfl
  ·exact .inl h1
  ·exact .inr ⟨p, hp, by rw [hs _ hp, if_pos rfl]⟩
 ·rw [hs q hq] at e1 ⊢
  by_cases e : q = p
  ·rw [if_pos e]; exact h.new
  ·rw [if_neg e] at e1; exact absurd e0 e1
 ·rw [hs q hq] at e1 ⊢
  by_cases e : q = p
  ·rw [if_pos e]; exact hz
  ·rw [if_neg e] at e1; exact absurd e0 e1
 ·exact hs' x hx fun e => hn p.par (Pos.par_ok hp hi) (Pos.par_fan hi) e.symm
theorem ino_in {G B N : Nat} {A A' : Nat → List UInt8 × List UInt8} {V V1 V' : VolM} {b t : Nat} {o : Int} {y : List UInt8} (h : Fr2 G B N A A' V V1 b) (ht : AL G B N A t) (c : ChT V1 (t : Int) o y V') : InoF G B N V V' :=
 h.ino.trans fun n i h1 h2 h3 => c.ne _ fun e => ht.ni n i h3 (Int.ofNat_inj.1 e).symm
theorem stp_ino {G B N : Nat} {A : Nat → List UInt8 × List UInt8} {V V' : VolM} {D : DinM} {n i : Nat} {o : Int} {y : List UInt8} (hA : AS G B V A) (ht : TreeOk (nowN V) D (AL G B N A)) (hn : n < G) (h2 : 2 ≤ i) (hi : i < 2 + N / 4) (hB : i < B) (c : ChT V ((n * B + i : Nat) : Int) o y V') : Stp G B N A A V V' D D 1 1 := by
 have hs : ∀ x, AL G B N A x → nowN V' x = nowN V x := fun x hx => c.ne _ fun e => hx.ni n i hi (Int.ofNat_inj.1 e)
 have hsl := slot_same (now' := nowN V') ht hs
 refine ⟨⟨by rw [c.D]; exact hA.len, hA.l8, hA.l32, fun m hm => ?_⟩, ht.same hs fun _ h => h, fun q hq _ => hsl q hq, fun _ h => h, fun _ h => .inl h, fun q hq e h => absurd ((hsl q hq).trans e) h, fun q hq _ e h => absurd ((hsl q hq).trans e) h, fun x hx _ => hs x hx, fun _ _ _ _ => rfl, fun _ => rfl, VExt.ch c, rfl, rfl, rfl⟩
 rw [c.ne _ (fun e => by rw [hB_nat] at e; have := dm_eq (show 1 < B by omega) hB (Int.ofNat_inj.1 e); omega)]; exact hA.now m hm
def posW (i j : Nat) : Pos := if j = 0 then .top (stK i) else if i < 68 then .one (i - 4) else if j = 1 then .two ((i - 68) / 64) else .thr ((i - 68) / 64) ((i - 68) % 64)
theorem stW_len {i : Nat} : (stW i).length ≤ 2 := by unfold stW; split <;> (try split) <;> simp
theorem posW_end {i : Nat} : posW i (stW i).length = leafP i := by
 unfold posW leafP
 by_cases h1 : i < 4
 ·rw [(st1 h1).2, (st1 h1).1, if_pos h1]; rfl
 ·by_cases h2 : i < 68
  ·rw [(st2 h1 h2).2, if_neg h1, if_pos h2, if_pos h2]; rfl
  ·rw [(st3 h2).2, if_neg h1, if_neg h2, if_neg h2]; rfl
theorem posW_ok {i j : Nat} (hi : i < 4164) (hj : j ≤ (stW i).length) : (posW i j).ok := by
 unfold posW
 split
 ·show stK i < 6
  unfold stK; split <;> (try split) <;> omega
 ·split
  ·show i - 4 < 64; omega
  ·split
   ·show (i - 68) / 64 < 64; omega
   ·exact ⟨by omega, by omega⟩
theorem posW_s {i j x : Nat} (hi : i < 4164) (hj : (stW i)[j]? = some x) : (posW i (j + 1)).inner ∧ (posW i (j + 1)).par = posW i j ∧ (posW i (j + 1)).ix = x ∧ (posW i j).fan ∧ j < 2 ∧ x < 64 := by
 by_cases h1 : i < 4
 ·rw [(st1 h1).2] at hj; simp at hj
 ·by_cases h2 : i < 68
  ·rw [(st2 h1 h2).2] at hj
   cases j with
   | zero =>
    simp at hj; subst hj
    unfold posW
    rw [if_neg (by omega), if_pos h2, if_pos rfl, (st2 h1 h2).1]
    exact ⟨trivial, rfl, rfl, Nat.le_refl 4, by omega, by omega⟩
   | succ j => simp at hj
  ·rw [(st3 h2).2] at hj
   match j, hj with
   | 0, hj =>
    simp at hj; subst hj
    unfold posW
    rw [if_neg (by omega), if_neg h2, if_pos rfl, if_pos rfl, (st3 h2).1]
    exact ⟨trivial, rfl, rfl, (show 4 ≤ 5 by decide), by omega, by omega⟩
   | 1, hj =>
    simp at hj; subst hj
    unfold posW
    rw [if_neg (by omega), if_neg h2, if_neg (by omega), if_neg (by omega), if_neg h2, if_pos rfl]
    exact ⟨trivial, rfl, rfl, trivial, by omega, by omega⟩
   | (n + 2), hj => simp at hj
structure RelS (G B N : Nat) (A A' : Nat → List UInt8 × List UInt8) (V V' : VolM) (l : List Nat) (j k : Nat) : Prop where
 hds : AS G B V' A'
 has : ∀ n i, n < G → i < B → hasB (A' n).2 i = (hasB (A n).2 i && decide (n * B + i ∉ l))
 row : ∀ m, (A' m).1 = (A m).1
 fr : ∀ x, (∀ m, m < G → x ≠ m * B + 1) → nowN V' x = nowN V x
 ext : VExt V V' j k
theorem RelS.nil {G B N : Nat} {A : Nat → List UInt8 × List UInt8} {V : VolM} (h : AS G B V A) : RelS G B N A A V V [] 0 0 :=
 ⟨h, fun n i _ _ => by simp, fun _ => rfl, fun _ _ => rfl, by have := VExt.tk V 0; rw [show ((0 : Nat) : Int) = 0 from rfl, tk_zero] at this; exact this⟩
theorem RelS.give {G B N : Nat} (hg : GeoOk G B N) {A A' : Nat → List UInt8 × List UInt8} {V V' V'' : VolM} {l : List Nat} {j k n i : Nat} {e : Int} (h : RelS G B N A A' V V' l j k) (hn : n < G) (hi : i < B) (hr : GivR B n i (A' n).2 V' V'' e) :
  (e = 0 ∨ e = 110) ∧ ∃ A'', RelS G B N A A'' V V'' (l ++ [n * B + i]) (j + 1) (k + 2) := by
 have hg2 := hg
 unfold GeoOk at hg2
 rcases hr.or_ with ⟨he, hf, rfl⟩ | ⟨he, hf, c⟩
 ·refine ⟨.inr he, A', ⟨h.hds.tk 1, fun m q hm hq => ?_, h.row, h.fr, (h.ext.trans (VExt.tk V' 1)).le (by omega) (by omega)⟩⟩
  rw [h.has m q hm hq]
  by_cases e : m = n ∧ q = i
  ·rw [e.1, e.2]
   have := h.has n i hn hi
   rw [hf] at this
   rw [← this]
   have h2 : (hasB (A n).2 i && decide (n * B + i ∉ l ++ [n * B + i])) = false := by simp
   rw [h2]
  ·have : (m * B + q ∉ l ++ [n * B + i]) ↔ m * B + q ∉ l := by
    rw [List.mem_append, List.mem_singleton, not_or]
    exact ⟨fun h => h.1, fun h => ⟨h, fun e2 => e (dm_eq hq hi e2)⟩⟩
   rw [decide_eq_decide.2 this]
 ·refine ⟨.inl he, updA A' n (withB (A' n).2 i false), ⟨(h.hds.tk 1).up (by omega) hn (by omega) c, fun m q hm hq => ?_, fun m => ?_, fun x hx => ?_, ((h.ext.trans (VExt.tk V' 1)).trans (VExt.ch c)).le (by omega) (by omega)⟩⟩
  ·unfold updA
   by_cases e : m = n
   ·subst e
    rw [if_pos rfl]
    show hasB (withB (A' m).2 i false) q = _
    rw [hasB_with (by rw [h.hds.l32 m hm]; omega)]
    by_cases e2 : q = i
    ·rw [if_pos e2, e2]; simp
    ·rw [if_neg e2, h.has m q hm hq]
     have : (m * B + q ∉ l ++ [m * B + i]) ↔ m * B + q ∉ l := by
      rw [List.mem_append, List.mem_singleton, not_or]
      exact ⟨fun h => h.1, fun h => ⟨h, fun e3 => e2 (dm_eq hq hi e3).2⟩⟩
     rw [decide_eq_decide.2 this]
   ·rw [if_neg e, h.has m q hm hq]
    have : (m * B + q ∉ l ++ [n * B + i]) ↔ m * B + q ∉ l := by
     rw [List.mem_append, List.mem_singleton, not_or]
     exact ⟨fun h => h.1, fun h => ⟨h, fun e3 => e (dm_eq hq hi e3).1⟩⟩
    rw [decide_eq_decide.2 this]
  ·rw [← h.row m]; unfold updA; split
   ·rename_i e; rw [e]
   ·rfl
  ·rw [← h.fr x hx]
   show V''.now _ = V'.now _
   rw [c.ne _ (fun e => by rw [hB_nat] at e; exact hx n hn (Int.ofNat_inj.1 e))]; rfl
def dinW (D : DinM) : List Value := [.int .i64 (D.m : Int), .int .i64 (D.l : Int), .int .i64 (D.z : Int), .int .i64 (D.d0 : Int), .int .i64 (D.d1 : Int), .int .i64 (D.d2 : Int), .int .i64 (D.d3 : Int), .int .i64 (D.e1 : Int), .int .i64 (D.e2 : Int)]
theorem on_tr {a b c : TH} {r : Nat} (h : On r a b) (k : On r b c) (e : a.h.size = b.h.size) : On r a c := ⟨Nat.le_trans h.size k.size, fun j hj => (k.tag j (by omega)).trans (h.tag j hj), fun j hj hn => (k.get j (by omega) hn).trans (h.get j hj hn)⟩
theorem ld9 {s : TH} {r T τ : Nat} {l : List Value} {v0 v1 v2 v3 v4 v5 v6 v7 v8 : Value} {k : Value → Value → Value → Value → Value → Value → Value → Value → Value → Prop} (h : Blk s r l T τ) (e : l = [v0, v1, v2, v3, v4, v5, v6, v7, v8]) (hk : k v0 v1 v2 v3 v4 v5 v6 v7 v8) : ld s.h ⟨r, 0, none⟩ fun v0 => ld s.h ⟨r, 1, none⟩ fun v1 => ld s.h ⟨r, 2, none⟩ fun v2 => ld s.h ⟨r, 3, none⟩ fun v3 => ld s.h ⟨r, 4, none⟩ fun v4 => ld s.h ⟨r, 5, none⟩ fun v5 => ld s.h ⟨r, 6, none⟩ fun v6 => ld s.h ⟨r, 7, none⟩ fun v7 => ld s.h ⟨r, 8, none⟩ fun v8 => k v0 v1 v2 v3 v4 v5 v6 v7 v8 := by
 subst e
 refine ld_t h rfl ?_
 refine ld_t h rfl ?_
 refine ld_t h rfl ?_
 refine ld_t h rfl ?_
 refine ld_t h rfl ?_
 refine ld_t h rfl ?_
 refine ld_t h rfl ?_
 refine ld_t h rfl ?_
 refine ld_t h rfl ?_
 exact hk
theorem st9 {s : TH} {r T τ : Nat} {l : List Value} {v0 v1 v2 v3 v4 v5 v6 v7 v8 : Value} {k : Heap → Prop} (h : Blk s r l T τ) (hl : l.length = 9) (hv : [v0, v1, v2, v3, v4, v5, v6, v7, v8].all oneC = true) (hk : ∀ s' : TH, Blk s' r [v0, v1, v2, v3, v4, v5, v6, v7, v8] T τ → On r s s' → s.h.size = s'.h.size → k s'.h) : st s.h ⟨r, 0, none⟩ v0 fun H0 => st H0 ⟨r, 1, none⟩ v1 fun H1 => st H1 ⟨r, 2, none⟩ v2 fun H2 => st H2 ⟨r, 3, none⟩ v3 fun H3 => st H3 ⟨r, 4, none⟩ v4 fun H4 => st H4 ⟨r, 5, none⟩ v5 fun H5 => st H5 ⟨r, 6, none⟩ v6 fun H6 => st H6 ⟨r, 7, none⟩ v7 fun H7 => st H7 ⟨r, 8, none⟩ v8 fun H8 => k H8 := by
 simp only [List.all_cons, List.all_nil, Bool.and_true, Bool.and_eq_true] at hv
 obtain ⟨h0, h1, h2, h3, h4, h5, h6, h7, h8⟩ := hv
 match l, hl with
 | [a0, a1, a2, a3, a4, a5, a6, a7, a8], _ =>
  refine st_t h h0 (by simp) fun s0 b0 o0 z0 => ?_
  refine st_t b0 h1 (by simp) fun s1 b1 o1 z1 => ?_
  refine st_t b1 h2 (by simp) fun s2 b2 o2 z2 => ?_
  refine st_t b2 h3 (by simp) fun s3 b3 o3 z3 => ?_
  refine st_t b3 h4 (by simp) fun s4 b4 o4 z4 => ?_
  refine st_t b4 h5 (by simp) fun s5 b5 o5 z5 => ?_
  refine st_t b5 h6 (by simp) fun s6 b6 o6 z6 => ?_
  refine st_t b6 h7 (by simp) fun s7 b7 o7 z7 => ?_
  refine st_t b7 h8 (by simp) fun s8 b8 o8 z8 => ?_
  exact hk s8 b8 (on_tr (on_tr (on_tr (on_tr (on_tr (on_tr (on_tr (on_tr o0 o1 (by omega)) o2 (by omega)) o3 (by omega)) o4 (by omega)) o5 (by omega)) o6 (by omega)) o7 (by omega)) o8 (by omega)) (by omega)
theorem al_has {G B N : Nat} {A : Nat → List UInt8 × List UInt8} {V : VolM} {x : Nat} (hA : AS G B V A) (h : AL G B N A x) : V.D.has (x : Int) := by
 have := h.lt
 unfold DiskM.has; rw [hA.len]; omega
theorem fan_at {G B N : Nat} {A : Nat → List UInt8 × List UInt8} {V : VolM} {D : DinM} (hA : AS G B V A) (ht : TreeOk (nowN V) D (AL G B N A)) {q : Pos} (hq : q.ok) (hf : q.fan) : slot (nowN V) D q ≠ 0 → V.D.has ((slot (nowN V) D q : Nat) : Int) ∧ FanOk (nowN V (slot (nowN V) D q)) := fun h => ⟨al_has hA (ht.alc q hq h), ht.fan q hq hf h⟩
theorem fanT_of {G B N : Nat} {A : Nat → List UInt8 × List UInt8} {V : VolM} {D : DinM} (hA : AS G B V A) (ht : TreeOk (nowN V) D (AL G B N A)) {k : Nat} (hk : k < 6) : FanT V (k - 3) (D.top k) := by
 by_cases h4 : k < 4
 ·rw [show k - 3 = 0 by omega]; trivial
 ·by_cases h5 : k = 4
  ·subst h5
   intro h0
   exact ⟨(fan_at hA ht (q := .top 4) hk (Nat.le_refl 4) h0).1, (fan_at hA ht (q := .top 4) hk (Nat.le_refl 4) h0).2, fun j _ => trivial⟩
  ·obtain rfl : k = 5 := by omega
   intro h0
   refine ⟨(fan_at hA ht (q := .top 5) hk (show 4 ≤ 5 by decide) h0).1, (fan_at hA ht (q := .top 5) hk (show 4 ≤ 5 by decide) h0).2, fun j hj => ?_⟩
   have e : w16 (nowN V (D.top 5)) j = slot (nowN V) D (.two j) := by show _ = in16 _ _ _; unfold in16; rw [if_neg h0]
   rw [e]
   intro h1
   exact ⟨(fan_at hA ht (q := .two j) hj trivial h1).1, (fan_at hA ht (q := .two j) hj trivial h1).2, fun i _ => trivial⟩
theorem slot_s {now : Nat → List UInt8} {D : DinM} {i j x : Nat} (hi : i < 4164) (h : (stW i)[j]? = some x) : slot now D (posW i (j + 1)) = in16 now (slot now D (posW i j)) x := by
 obtain ⟨h1, h2, h3, _⟩ := posW_s hi h
 rw [slot_par _ h1, h2, h3]
theorem nd_app {l l' : List Int} {a b : Int} (h : ∀ m ∈ l, 1 ≤ m ∧ m ≤ a) (hab : a ≤ b) (h' : ∀ m ∈ l', 1 ≤ m ∧ m ≤ b) : ∀ m ∈ l ++ l', 1 ≤ m ∧ m ≤ b := fun m hm => by
 rcases List.mem_append.1 hm with hm | hm
 ·have := h m hm; omega
 ·exact h' m hm
theorem nd_one {x b : Int} (h : 1 ≤ x ∧ x ≤ b) : ∀ m ∈ [x], 1 ≤ m ∧ m ≤ b := fun m hm => by rw [List.mem_singleton] at hm; subst hm; exact h
theorem stK_lt (i : Nat) : stK i < 6 := by unfold stK; split <;> (try split) <;> omega
theorem c_iaddr (vp d U : Nat) (V : VolM) (G B N : Nat) (i : Nat) (A : Nat → List UInt8 × List UInt8) (D : DinM) (s : TH) (hv : VolL s vp d U V 0) (hU : 10 ≤ U) (hg : GeoOk G B N)  (hvn : V.n < 100000000) (hA : AS G B V A) (ht : TreeOk (nowN V) D (AL G B N A)) (hi : i < 4164) : TRet Tryz.prog 15 #[.pointer (some ⟨vp, 0, none⟩), .agg #[.int .i64 (G : Int), .int .i64 (B : Int), .int .i64 (N : Int)], .agg #[.int .i64 (D.m : Int), .int .i64 (D.l : Int), .int .i64 (D.z : Int), .int .i64 (D.d0 : Int), .int .i64 (D.d1 : Int), .int .i64 (D.d2 : Int), .int .i64 (D.d3 : Int), .int .i64 (D.e1 : Int), .int .i64 (D.e2 : Int)], .int .i64 (i : Int)] s fun v s' => ∃ k : Nat, v = .tuple #[.int .i64 (slot (nowN V) D (leafP i) : Int), .int .i64 0] ∧ Ch [U, U + 20, U + 21, U + 22, U + 23] s s' ∧ VolL s' vp d U (V.tk k) 0 ∧ k ≤ 2 := by
 have hcan := hg.can
 have hg2 := hg
 unfold GeoOk at hg2
 have hgb := hg.gb
 have hgbI : (G : Int) * (B : Int) = ((G * B : Nat) : Int) := (Int.natCast_mul G B).symm
 have hgnI : (G : Int) * (N : Int) = ((G * N : Nat) : Int) := (Int.natCast_mul G N).symm
 have hl := hA.len
 have hpl0 := hv.pokk.lst
 have hwl := stW_len (i := i)
 have hk6 := stK_lt i
 obtain ⟨M, hM, hM0, hMa, hMb, hMc, hMd, hMe, hMf⟩ := fresh6 s (U + 60) 0 0 0 0 0
 refine F15_calls _ _ _ _ _ _ _ _ _ _ _ _ _ _  ?_
 unfold F15
 refine al_t (M + 1) fun r1 s2 an R F ao => ?_
 refine al_t (M + 2) fun r3 s4 ap S p aq => ?_
 have r := R.ch p (by simp)
 refine ld_t r rfl (ld_t r rfl (ld_t r rfl ?_))
 have T := hv.mv (F.app p) (rngn50 (by simp))
 refine tcall (c_ifine vp d U V G B N _ T hU hg hl (by omega)) ?_
 rintro ab ar ⟨rfl, g, t⟩
 have ac := g.size
 refine dInt_i (sB_f (by rfl) ?_)
 refine jn_u ?_
 refine sB_d (fun H => by exfalso; omega) (fun H => ?_)
 intro _
 intros
 refine dBl_i ?_
 refine sB_d (fun I => by exfalso; omega) (fun I => ?_)
 refine tcall (c_isteps (M + 10) i _ hi) ?_
 rintro ae af ⟨W, X, rfl, b, u⟩
 have ag := b.size
 refine dT2 (dInt_i (dSl_i ?_))
 refine tcall (c_icell r3 (stK i) _ hk6) ?_
 rintro ah o ⟨rfl, a⟩
 have ai := a.size
 refine dPtr_i (nz_i ?_)
 have J := ((g.app b).app a)
 have K := S.ch J (by simp <;> omega)
 refine ld_t K (top_cell D hk6) ?_
 refine dInt_i ?_
 refine ⟨fun vs H' => ∃ s' : TH, s'.h = H' ∧ ∃ bb q, vs = [.int .i64 bb, .int .i64 q] ∧ Ch [U, U + 20, U + 21, U + 22, U + 23, M + 9] o s' ∧ (∃ (j kk : Nat), q = j ∧ j ≤ (stW i).length ∧ bb = ((slot (nowN V) D (posW i j) : Nat) : Int) ∧ kk ≤ j ∧ VolL s' vp d U (V.tk kk) 0), fun vs H' => match vs with | [.int .i64 bb, .int .i64 q] => (((stW i).length : Int) - q).toNat | _ => 0, ⟨o, rfl, _, _, rfl, Ch.refl _ _, ?_⟩, ?_⟩
 ·
  have L := t.mv (b.app a) (rngn50 (by simp))
  exact ⟨0, 0, rfl, by omega, rfl, by omega, by rw [show ((0 : Nat) : Int) = 0 from rfl, tk_zero]; exact L⟩
 ·
  intro bb q _ _ _ _ _ _ _ _ _ _ _ _ _ _ _ _ _ _ _ _ _ _ H_ hI_28
  obtain ⟨aj, rfl, bb_, q_, hvs, c, j, kk, rfl, hj, rfl, hkk, hv2⟩ := hI_28
  cases hvs
  have ak := c.size
  refine sB_d (fun O => ?_) (fun O => ?_)
  ·
   have w := u.mv (a.app c) (tagn (by simp <;> omega))
   obtain ⟨x, hxx⟩ : ∃ x, (stW i)[j]? = some x := ⟨(stW i)[j]'(by omega), by simp⟩
   obtain ⟨hpi, hpp, hpx, hpf, hj2, hx64⟩ := posW_s hi hxx
   obtain ⟨ad, rfl⟩ := (w).some (fun e => by have := ivs_get (nI_get hxx); rw [e] at this; simp at this)
   refine nz_i (ask_t (by omega) ?_)
   refine ld_sl (v := .int .i64 (x : Int)) (w) (by rw [Int.toNat_natCast, Nat.mul_one]; exact ivs_get (nI_get hxx)) ?_
   refine dInt_i ?_
   refine tcall (c_ifan vp d U (V.tk kk) (M + 11) (slot (nowN V) D (posW i j)) _ hv2 hU (by show V.n + _ < _; omega) (fan_at hA ht (posW_ok hi hj) hpf) (by omega)) ?_
   rintro al P ⟨Y, Z, y, rfl, C, E, aa, f⟩
   have am := C.size
   refine dT2 (dSl_i (dInt_i (sB_f (by rfl) ?_)))
   obtain ⟨ad2, rfl⟩ := (f).some (fun e => by have := congrArg List.length e; rw [ivs_len, nI_len, fanL_len] at this; cases this)
   refine nz_i (ask_t (by omega) ?_)
   refine ld_sl (v := .int .i64 ((in16 (nowN V) (slot (nowN V) D (posW i j)) x : Nat) : Int)) (f) (by rw [Int.toNat_natCast, Nat.mul_one]; exact ivs_get (nI_get (fanL_get _ _ hx64))) ?_
   refine dInt_i (wr_t (by omega) ?_)
   refine ⟨⟨P, rfl, _, _, rfl, (((Ch.refl [U, U + 20, U + 21, U + 22, U + 23, M + 9] o).ch c (by simp)).ch C (by simp)), ?_⟩, ?_⟩
   ·
    exact ⟨j + 1, kk + y, by omega, by omega, by rw [slot_s hi hxx], by omega, by have h := E; rw [tk_tk] at h; rw [Int.natCast_add]; exact h⟩
   ·
    simp only []; omega
  ·
   refine ret_t ?_
   have Q := ((((F.app p).app g).app b).app a)
   obtain rfl : j = (stW i).length := by omega
   rw [posW_end]
   exact ⟨kk, rfl, (((Ch.refl [U, U + 20, U + 21, U + 22, U + 23] s).ch Q (by simp)).fr c hM (by simp)), hv2, by omega⟩
theorem c_walkd (vp d U : Nat) (V : VolM) (dd b : Nat) (r τw τo : Nat) {pa : Option Addr} {pn pc : Nat} {xs : List Nat} (s : TH) (hv : VolL s vp d U V 0) (hU : 10 ≤ U) (hvn : V.n < 10000000000) (hdd : dd ≤ 2) (hf : FanT V dd b) (hr : Blk s r [.slice pa pn pc] 112 τw) (ho : Own s pa pn pc 3 1 (ivs (nI xs)) τo) (hne : τw ≠ τo) (hpn : pn ≤ 20000) (hτ : (τw < U ∨ U + 50 ≤ τw) ∧ (τo < U ∨ U + 50 ≤ τo)) :
  TRet Tryz.prog 43 #[.pointer (some ⟨vp, 0, none⟩), .int .i64 (b : Int), .int .i64 (dd : Int), .iface 110 (.pointer (some ⟨r, 0, none⟩))] s fun v s' => ∃ pa' pc' k, v = .int .i64 0 ∧ Ch [U, U + 20, U + 21, U + 22, U + 23, τw, τo] s s' ∧ VolL s' vp d U (V.tk (k : Nat)) 0 ∧ k ≤ 65 ∧ Blk s' r [.slice pa' (pn + (belowM (nowN V) dd b).length) pc'] 112 τw ∧ Own s' pa' (pn + (belowM (nowN V) dd b).length) pc' 3 1 (ivs (nI (xs ++ belowM (nowN V) dd b))) τo := by
 rcases (by omega : dd = 0 ∨ dd = 1 ∨ dd = 2) with rfl | rfl | rfl
 ·exact (c_walk0 vp d U V b r τw τo s hv hU (by omega) hf hr ho hne (by omega) hτ).mono fun v s' ⟨pa', pc', k, h1, h2, h3, h4, h5, h6⟩ => ⟨pa', pc', k, h1, h2, h3, by omega, h5, h6⟩
 ·exact (c_walk1 vp d U V b r τw τo s hv hU (by omega) hf hr ho hne (by omega) hτ).mono fun v s' ⟨pa', pc', k, h1, h2, h3, h4, h5, h6⟩ => ⟨pa', pc', k, h1, h2, h3, by omega, h5, h6⟩
 ·exact (c_walk2 vp d U V b r τw τo s hv hU (by omega) hf hr ho hne (by omega) hτ).mono fun v s' ⟨pa', pc', k, h1, h2, h3, h4, h5, h6⟩ => ⟨pa', pc', k, h1, h2, h3, by omega, h5, h6⟩
def spK (now : Nat → List UInt8) (D : DinM) (k : Nat) : List Nat := (List.range k).flatMap fun k => belowM now (k - 3) (D.top k)
theorem spK_s (now : Nat → List UInt8) (D : DinM) (k : Nat) : spK now D (k + 1) = spK now D k ++ belowM now (k - 3) (D.top k) := by unfold spK; rw [List.range_succ, List.flatMap_append]; simp
theorem spK_len (now : Nat → List UInt8) (D : DinM) : ∀ k, k ≤ 5 → (spK now D k).length ≤ k * 65
 | 0, _ => Nat.le_refl _
 | k + 1, h => by
  rw [spK_s, List.length_append]
  have h1 := spK_len now D k (by omega)
  have h2 : (belowM now (k - 3) (D.top k)).length ≤ 65 := by
   rcases (by omega : k - 3 = 0 ∨ k - 3 = 1) with e | e
   ·rw [e]; have := below_len0 now (D.top k); omega
   ·rw [e]; exact below_len1 now _
  omega
theorem c_ispan (vp d U : Nat) (V : VolM) (G B N : Nat) (τ : Nat) (A : Nat → List UInt8 × List UInt8) (D : DinM) (s : TH) (hv : VolL s vp d U V 0) (hU : 10 ≤ U) (hg : GeoOk G B N)  (hvn : V.n < 100000000) (hA : AS G B V A) (ht : TreeOk (nowN V) D (AL G B N A)) (hτ : τ < U ∨ U + 50 ≤ τ) : TRet Tryz.prog 16 #[.pointer (some ⟨vp, 0, none⟩), .agg #[.int .i64 (G : Int), .int .i64 (B : Int), .int .i64 (N : Int)], .agg #[.int .i64 (D.m : Int), .int .i64 (D.l : Int), .int .i64 (D.z : Int), .int .i64 (D.d0 : Int), .int .i64 (D.d1 : Int), .int .i64 (D.d2 : Int), .int .i64 (D.d3 : Int), .int .i64 (D.e1 : Int), .int .i64 (D.e2 : Int)]] s fun v s' => ∃ (k : Nat) (a : Option Addr) (c : Nat), v = .tuple #[.slice a (spanM (nowN V) D).length c, .int .i64 0] ∧ Ch [U, U + 20, U + 21, U + 22, U + 23] s s' ∧ VolL s' vp d U (V.tk k) 0 ∧ k ≤ 400 ∧ Own s' a (spanM (nowN V) D).length c 3 1 (ivs (nI (spanM (nowN V) D))) τ := by
 have hcan := hg.can
 have hg2 := hg
 unfold GeoOk at hg2
 have hgb := hg.gb
 have hgbI : (G : Int) * (B : Int) = ((G * B : Nat) : Int) := (Int.natCast_mul G B).symm
 have hgnI : (G : Int) * (N : Int) = ((G * N : Nat) : Int) := (Int.natCast_mul G N).symm
 have hl := hA.len
 have hpl0 := hv.pokk.lst
 obtain ⟨M, hM, hM0, hMa, hMb, hMc, hMd, hMe, hMf⟩ := fresh6 s (U + 60) τ 0 0 0 0
 refine F16_calls _ _ _ _ _ _ _ _ _ _ _ _ _  ?_
 unfold F16
 refine al_t (M + 1) fun r1 s2 am Y y an => ?_
 refine al_t (M + 2) fun r3 s4 ao Z i ap => ?_
 have o := Y.ch i (by simp)
 refine ld_t o rfl (ld_t o rfl (ld_t o rfl ?_))
 have aa := hv.mv (y.app i) (rngn50 (by simp))
 refine tcall (c_ifine vp d U V G B N _ aa hU hg hl (by omega)) ?_
 rintro ac aq ⟨rfl, f, p⟩
 have ad := f.size
 refine dInt_i (sB_f (by rfl) ?_)
 refine al_t (M + 3) fun C r ae F g af => ?_
 refine ⟨fun vs H' => ∃ s' : TH, s'.h = H' ∧ ∃ q, vs = [.int .i64 q] ∧ Ch [U, U + 20, U + 21, U + 22, U + 23, M + 3, M + 9, M + 10] r s' ∧ (∃ (j tt : Nat) (qa : Option Addr) (qc : Nat), q = j ∧ j ≤ 6 ∧ tt ≤ j * 65 ∧ VolL s' vp d U (V.tk tt) 0 ∧ Blk s' C [.slice qa (spK (nowN V) D j).length qc] 112 (M + 3) ∧ Own s' qa (spK (nowN V) D j).length qc 3 1 (ivs (nI (spK (nowN V) D j))) (M + 10)), fun vs H' => match vs with | [.int .i64 q] => (6 - q).toNat | _ => 0, ⟨r, rfl, _, rfl, Ch.refl _ _, ?_⟩, ?_⟩
 ·
  have H := p.mv g (rngn50 (by simp))
  exact ⟨0, 0, none, 0, rfl, by omega, by omega, by rw [show ((0 : Nat) : Int) = 0 from rfl, tk_zero]; exact H, F, Own.nil _ _ _ _⟩
 ·
  intro q _ _ _ _ _ _ _ _ _ _ _ _ _ _ _ _ _ _ _ _ _ _ H_ hI_19
  obtain ⟨I, rfl, q_, hvs, e, j, tt, qa, qc, rfl, hj, htt, hv2, E, ho2⟩ := hI_19
  cases hvs
  have ag := e.size
  have hln : j ≤ 5 → _ := spK_len (nowN V) D j
  refine sB_d (fun J => ?_) (fun J => ?_)
  ·
   have hln5 := hln (by omega)
   refine tcall (c_icell r3 j _ (by omega)) ?_
   rintro ah ai ⟨rfl, b⟩
   have aj := b.size
   refine dPtr_i (nz_i ?_)
   have K := (((f.app g).app e).app b)
   have L := Z.ch K (by simp <;> omega)
   refine ld_t L (top_cell D (show j < 6 by omega)) ?_
   refine dInt_i (wr_t (by omega) (wr_t (by omega) ?_))
   refine max_i ?_
   rw [show max (0 : Int) ((j : Int) - 4 + 1) = ((j - 3 : Nat) : Int) by omega]
   refine dInt_i ?_
   have O := hv2.mv b (rngn50 (by simp))
   have P := E.ch b (by simp)
   have Q := ho2.mv b (tagn (by simp))
   refine tcall (c_walkd vp d U (V.tk tt) (j - 3) (D.top j) C (M + 3) (M + 10) _ O hU (by show V.n + _ < _; omega) (by omega) ((fanT_of hA ht (show j < 6 by omega)).tk _) P Q (by omega) (by omega) (by omega)) ?_
   rintro ak R ⟨W, X, t3, rfl, t, u, ab, w, x⟩
   have al := t.size
   refine dInt_i (sB_f (by rfl) (wr_t (by omega) ?_))
   have S := ((e.app b).app t)
   refine ⟨⟨R, rfl, _, rfl, ((Ch.refl [U, U + 20, U + 21, U + 22, U + 23, M + 3, M + 9, M + 10] r).ch S (by simp)), ?_⟩, ?_⟩
   ·
    exact ⟨j + 1, tt + t3, _, _, by omega, by omega, by omega, by have h := u; rw [tk_tk] at h; rw [Int.natCast_add]; exact h, by have h := w; rw [spK_s, List.length_append]; exact h, by have h := x; rw [spK_s, List.length_append]; exact h⟩
   ·
    simp only []; omega
  ·
   refine ld_t E rfl (dSl_i ?_)
   have T := (((y.app i).app f).app g)
   obtain rfl : j = 6 := by omega
   exact ret_t' (s' := remark I (M + 10) τ) rfl ⟨tt, _, _, rfl, remark_ch (((Ch.refl [U, U + 20, U + 21, U + 22, U + 23] s).ch T (by simp)).fr e hM (by simp)) hM (by omega), (hv2).keep (by omega), by omega, (ho2).remark⟩
theorem c_gfresh (vp d U : Nat) (V : VolM) (G B N : Nat) (τ : Nat) (r τw gr : Nat) {aa : Option Addr} {an ac : Nat}  (A : Nat → List UInt8 × List UInt8) (s : TH) (hv : VolL s vp d U V 0) (hU : 10 ≤ U) (hg : GeoOk G B N) (hvn : V.n < 10000000) (hlp : V.P.last < 100000) (hA : AS G B V A) (hr : Blk s r [.pointer (some ⟨vp, 0, none⟩), .int .i64 (G : Int), .int .i64 (B : Int), .int .i64 (N : Int), .int .i64 (gr : Int), .slice aa an ac] 98 τw) (hgr : gr < G) (hτ : (τ < U ∨ U + 50 ≤ τ) ∧ (τw < U ∨ U + 50 ≤ τw)) : TRet Tryz.prog 93 #[.pointer (some ⟨r, 0, none⟩)] s fun v s' => ∃ V' x a n c e ids, v = .tuple #[.int .i64 x, .slice a n c, .int .i64 e] ∧ Ch [U, U + 3, U + 20, U + 21, U + 22, U + 23, U + 30, U + 32] s s' ∧ VolL s' vp d U V' 0 ∧ Sl s' a (ivs ids) τ ∧ ids.length = n ∧ n ≤ 2 ∧ (∀ k ∈ ids, 1 ≤ k ∧ k ≤ V'.P.last) ∧ ((e = 5 ∧ x = 0 ∧ VExt V V' 2 10) ∨ (e = 0 ∧ ∃ (b : Nat) (A' : Nat → List UInt8 × List UInt8), x = (b : Int) ∧ Fr2 G B N A A' V V' b)) := by
 have hcan := hg.can
 have hg2 := hg
 unfold GeoOk at hg2
 have hgb := hg.gb
 have hgbI : (G : Int) * (B : Int) = ((G * B : Nat) : Int) := (Int.natCast_mul G B).symm
 have hgnI : (G : Int) * (N : Int) = ((G * N : Nat) : Int) := (Int.natCast_mul G N).symm
 have hl := hA.len
 have hpl0 := hv.pokk.lst
 obtain ⟨M, hM, hM0, hMa, hMb, hMc, hMd, hMe, hMf⟩ := fresh6 s (U + 60) τw τ 0 0 0
 refine F93_calls _  ?_
 unfold F93
 refine nz_i (ld_t hr rfl (dPtr_i (nz_i (ld_t hr rfl (ld_t hr rfl (ld_t hr rfl (nz_i ?_)))))))
 refine ld_t hr rfl (dInt_i ?_)
 refine tcall (c_ablock vp d U V G B N gr A _ hv hU hg (by omega) (by omega) hA hgr) ?_
 rintro aP aQ ⟨f, al, am, ao, rfl, t, g, j, u⟩
 have aR := t.size
 refine dT3 (dInt_i (dInt_i (dInt_i ?_)))
 refine sB_nd (fun R => ?_) (fun R => ?_)
 ·
  refine ret_t ?_
  obtain ⟨he5, _, k, hk, hVt⟩ := j.or_.resolve_right (fun h => by omega)
  subst hVt
  subst he5
  exact ⟨_, _, _, _, _, _, [], rfl, ((Ch.refl [U, U + 3, U + 20, U + 21, U + 22, U + 23, U + 30, U + 32] s).ch t (by simp)), g, .inl rfl, rfl, by omega, by (intro m hm; cases hm), .inl ⟨rfl, rfl, (VExt.tk V k).le (by omega) (by omega)⟩⟩
 ·
  refine nz_i ?_
  have w := hr.ch t (by simp <;> omega)
  refine ld_t w rfl (dPtr_i ?_)
  refine ⟨?_, ?_⟩
  ·
   refine ask_t (by omega) ?_
   refine al_t (M + 1) fun ap aS ay aq E aT => ?_
   refine ⟨?_, ?_⟩
   ·
    have S := w.ch E (by simp)
    refine ld_t S rfl (dPtr_i ?_)
    rfl
   ·
    refine al_t (M + 2) fun ar O az T l aA => ?_
    refine ⟨?_, ?_⟩
    ·
     have W := w.ch (E.app l) (by simp)
     refine ld_t W rfl (dPtr_i ?_)
     rfl
    ·
     obtain ⟨he0, n, i, kk, k, hn, hkk, hne, hfull, h2i, hiB, hf, hx, hk, hc1⟩ := j.or_.resolve_left (fun h => by omega)
     rw [← Int.natCast_mul, ← Int.natCast_add] at hx
     subst hx
     have hy1 := u he0
     subst hy1
     have hD1 : f.D = V.D := hc1.D
     have hla1 : f.P.last = V.P.last + 1 := hc1.last
     have hdl := dm_lt (G := G) hn hiB
     have hhas : f.D.has ((n * B + i : Nat) : Int) := by unfold DiskM.has; rw [hD1, hl]; omega
     have z := g.mv (E.app l) (rngn50 (by simp))
     have hpk1 := (z).pokk
     have hok1 := (z).ok
     have hp1 := hpk1.lst
     have hnV := (VExt.ch hc1).n
     have hnV2 : (V.tk k).n = V.n + k := rfl
     have hch := change_t (V := f) (b := ((n * B + i : Nat) : Int)) (o := 0) (y := zB128) (needs := [V.P.last + 1]) hpk1 hhas ⟨hhas.1, by omega, by rw [zB128_len]; omega, by omega, by rw [zB128_len]; omega⟩ (by intro m hm; rw [List.mem_singleton] at hm; omega) (by omega)
     have X := aq.ch l (by simp)
     have hz : Sl O (some ⟨ap, 0, none⟩) (bvs zB128) (M + 1) := by have h := (X).sl; rw [show Int.toNat 128 = 128 from rfl, rowZ_by] at h; exact h
     have hns : Sl O (some ⟨ar, 0, none⟩) (ivs [V.P.last + 1]) (M + 2) := (T).sl
     refine tcall (c_VChange _ _ _ _ _ _ _ _ _ (by omega) z hz zB128_len hns rfl (by omega) (by omega) (by omega) (by omega)) ?_
     rintro aB aC ⟨rfl, F, H⟩
     have aD := F.size
     rw [hch.1, hch.2.1]
     refine dT2 (dInt_i (dInt_i (sB_f (by rfl) ?_)))
     refine al_t (M + 5) fun aU au aE Y I aF => ?_
     have Z := ((((t.app E).app l).app F).app I)
     have ab := H.mv I (rngn50 (by simp))
     have hf2 := fr2_mk hg hA hn h2i hiB hf hk hc1 (now_len hok1 hpk1 hhas) hch.2.2
     have hla2 := hch.2.2.last
     exact ret_t' (s' := remark au (M + 5) τ) rfl ⟨_, _, _, _, _, _, [V.P.last + 1, f.P.last + 1], rfl, remark_ch ((Ch.refl [U, U + 3, U + 20, U + 21, U + 22, U + 23, U + 30, U + 32] s).ch Z (by simp)) hM (by omega), (ab).keep (by omega), (show Sl _ _ (ivs [V.P.last + 1, f.P.last + 1]) (M + 5) from (Y).sl).remark, rfl, by omega, by (intro m hm; simp only [List.mem_cons, List.not_mem_nil, or_false] at hm; omega), .inr ⟨rfl, n * B + i, _, rfl, hf2⟩⟩
  ·
   refine al_t (M + 1) fun av aV aG ad p aH => ?_
   refine ⟨?_, ?_⟩
   ·
    have ae := w.ch p (by simp)
    refine ld_t ae rfl (dPtr_i ?_)
    rfl
   ·
    refine ask_t (by omega) ?_
    refine al_t (M + 2) fun aw Q aI af q aJ => ?_
    refine ⟨?_, ?_⟩
    ·
     have ag := w.ch (p.app q) (by simp)
     refine ld_t ag rfl (dPtr_i ?_)
     rfl
    ·
     obtain ⟨he0, n, i, kk, k, hn, hkk, hne, hfull, h2i, hiB, hf, hx, hk, hc1⟩ := j.or_.resolve_left (fun h => by omega)
     rw [← Int.natCast_mul, ← Int.natCast_add] at hx
     subst hx
     have hy1 := u he0
     subst hy1
     have hD1 : f.D = V.D := hc1.D
     have hla1 : f.P.last = V.P.last + 1 := hc1.last
     have hdl := dm_lt (G := G) hn hiB
     have hhas : f.D.has ((n * B + i : Nat) : Int) := by unfold DiskM.has; rw [hD1, hl]; omega
     have C := g.mv (p.app q) (rngn50 (by simp))
     have hpk1 := (C).pokk
     have hok1 := (C).ok
     have hp1 := hpk1.lst
     have hnV := (VExt.ch hc1).n
     have hnV2 : (V.tk k).n = V.n + k := rfl
     have hch := change_t (V := f) (b := ((n * B + i : Nat) : Int)) (o := 0) (y := zB128) (needs := [V.P.last + 1]) hpk1 hhas ⟨hhas.1, by omega, by rw [zB128_len]; omega, by omega, by rw [zB128_len]; omega⟩ (by intro m hm; rw [List.mem_singleton] at hm; omega) (by omega)
     have hz : Sl Q (some ⟨aw, 0, none⟩) (bvs zB128) (M + 2) := by have h := (af).sl; rw [show Int.toNat 128 = 128 from rfl, rowZ_by] at h; exact h
     have ah := ad.ch q (by simp)
     have hns : Sl Q (some ⟨av, 0, none⟩) (ivs [V.P.last + 1]) (M + 1) := (ah).sl
     refine tcall (c_VChange _ _ _ _ _ _ _ _ _ (by omega) C hz zB128_len hns rfl (by omega) (by omega) (by omega) (by omega)) ?_
     rintro aK aL ⟨rfl, J, K⟩
     have aM := J.size
     rw [hch.1, hch.2.1]
     refine dT2 (dInt_i (dInt_i (sB_f (by rfl) ?_)))
     refine al_t (M + 5) fun aW ax aN ai L aO => ?_
     have aj := ((((t.app p).app q).app J).app L)
     have ak := K.mv L (rngn50 (by simp))
     have hf2 := fr2_mk hg hA hn h2i hiB hf hk hc1 (now_len hok1 hpk1 hhas) hch.2.2
     have hla2 := hch.2.2.last
     exact ret_t' (s' := remark ax (M + 5) τ) rfl ⟨_, _, _, _, _, _, [V.P.last + 1, f.P.last + 1], rfl, remark_ch ((Ch.refl [U, U + 3, U + 20, U + 21, U + 22, U + 23, U + 30, U + 32] s).ch aj (by simp)) hM (by omega), (ak).keep (by omega), (show Sl _ _ (ivs [V.P.last + 1, f.P.last + 1]) (M + 5) from (ai).sl).remark, rfl, by omega, by (intro m hm; simp only [List.mem_cons, List.not_mem_nil, or_false] at hm; omega), .inr ⟨rfl, n * B + i, _, rfl, hf2⟩⟩
theorem wrL_adr (b : Nat) : wrL [0, 0] 0 2 b = adr2 b := by simp [wrL, adr2]
theorem c_ginner (vp d U : Nat) (V : VolM) (G B N : Nat) (r τw τo gr : Nat) {aa : Option Addr} {an ac : Nat} {needs : List Int} (A : Nat → List UInt8 × List UInt8) (D : DinM) (p : Pos) (s : TH) (hv : VolL s vp d U V 0) (hU : 10 ≤ U) (hg : GeoOk G B N) (hvn : V.n < 9000000) (hlp : V.P.last < 90000) (hA : AS G B V A) (ht : TreeOk (nowN V) D (AL G B N A)) (hr : Blk s r [.pointer (some ⟨vp, 0, none⟩), .int .i64 (G : Int), .int .i64 (B : Int), .int .i64 (N : Int), .int .i64 (gr : Int), .slice aa an ac] 98 τw) (ho : Own s aa an ac 3 1 (ivs needs) τo) (hnl : needs.length = an) (han : an ≤ 20) (hnd : (∀ k ∈ needs, 1 ≤ k ∧ k ≤ V.P.last)) (hgr : gr < G) (hp : p.ok) (hpi : p.inner) (hpar : slot (nowN V) D p.par ≠ 0) (hne : τw ≠ τo) (hτ : (τw < U ∨ U + 50 ≤ τw) ∧ (τo < U ∨ U + 50 ≤ τo)) : TRet Tryz.prog 94 #[.pointer (some ⟨r, 0, none⟩), .int .i64 ((slot (nowN V) D p.par : Nat) : Int), .int .i64 (p.ix : Int)] s fun v s' => ∃ V' x e aa' an' ac' needs', v = .tuple #[.int .i64 x, .int .i64 e] ∧ Ch [U, U + 3, U + 20, U + 21, U + 22, U + 23, U + 30, U + 32, τw, τo] s s' ∧ VolL s' vp d U V' 0 ∧ Blk s' r [.pointer (some ⟨vp, 0, none⟩), .int .i64 (G : Int), .int .i64 (B : Int), .int .i64 (N : Int), .int .i64 (gr : Int), .slice aa' an' ac'] 98 τw ∧ Own s' aa' an' ac' 3 1 (ivs needs') τo ∧ needs'.length = an' ∧ an' ≤ an + 1 ∧ (∀ k ∈ needs', 1 ≤ k ∧ k ≤ V'.P.last) ∧ ((e = 5 ∧ VExt V V' 3 12) ∨ (e = 0 ∧ ∃ A', x = ((slot (nowN V') D p : Nat) : Int) ∧ slot (nowN V') D p ≠ 0 ∧ Stp G B N A A' V V' D D 3 12 ∧ InoF G B N V V')) := by
 have hcan := hg.can
 have hg2 := hg
 unfold GeoOk at hg2
 have hgb := hg.gb
 have hgbI : (G : Int) * (B : Int) = ((G * B : Nat) : Int) := (Int.natCast_mul G B).symm
 have hgnI : (G : Int) * (N : Int) = ((G * N : Nat) : Int) := (Int.natCast_mul G N).symm
 have hl := hA.len
 have hpl0 := hv.pokk.lst
 have hix := Pos.ix_lt hp hpi
 have hsp := slot_par (now := nowN V) (D := D) p hpi
 have hfp := Pos.par_fan hpi
 have hop := Pos.par_ok hp hpi
 have halp := ht.alc p.par hop hpar
 obtain ⟨M, hM, hM0, hMa, hMb, hMc, hMd, hMe, hMf⟩ := fresh6 s (U + 60) τw τo 0 0 0
 refine F94_calls _ _ _  ?_
 unfold F94
 refine nz_i (ld_t hr rfl (dPtr_i ?_))
 refine tcall (c_ifan vp d U V (M + 10) (slot (nowN V) D p.par) _ hv hU (by omega) (fan_at hA ht hop hfp) (by omega)) ?_
 rintro aS aT ⟨ap, aq, a, rfl, f, u, ar, g⟩
 have aU := f.size
 refine dT2 (dSl_i (dInt_i (sB_f (by rfl) ?_)))
 obtain ⟨ad2, rfl⟩ := (g).some (fun e => by have := congrArg List.length e; rw [ivs_len, nI_len, fanL_len] at this; cases this)
 refine nz_i (ask_t (by omega) ?_)
 refine ld_sl (v := .int .i64 ((slot (nowN V) D p : Nat) : Int)) (g) (by rw [Int.toNat_natCast, Nat.mul_one, hsp]; exact ivs_get (nI_get (fanL_get _ _ hix))) ?_
 refine dInt_i ?_
 refine sB_nd (fun Y => ?_) (fun Y => ?_)
 ·
  refine nz_i (ask_t (by omega) ?_)
  refine ld_sl (v := .int .i64 ((slot (nowN V) D p : Nat) : Int)) (g) (by rw [Int.toNat_natCast, Nat.mul_one, hsp]; exact ivs_get (nI_get (fanL_get _ _ hix))) ?_
  refine dInt_i ?_
  refine ret_t ?_
  have au := hr.ch f (by simp <;> omega)
  have av := ho.mv f (tagn (by simp <;> omega))
  exact ⟨_, _, _, _, _, _, _, rfl, ((Ch.refl [U, U + 3, U + 20, U + 21, U + 22, U + 23, U + 30, U + 32, τw, τo] s).ch f (by simp)), u, au, av, hnl, by omega, hnd, .inr ⟨rfl, A, rfl, by show slot (nowN V) D p ≠ 0; omega, (Stp.tk hA ht a).le (by omega) (by omega), fun _ _ _ _ _ => rfl⟩⟩
 ·
  have h0p : slot (nowN V) D p = 0 := by omega
  have H := hr.ch f (by simp <;> omega)
  refine tcall (c_gfresh vp d U (V.tk a) G B N (M + 12) r τw gr A _ u hU hg (by show V.n + _ < _; omega) (by show V.P.last < _; omega) (hA.tk _) H hgr (by omega)) ?_
  rintro aB aV ⟨j, x2, a2, n2, c2_, e2, ids2, rfl, c, w, I, J, aw, K, L⟩
  have aC := c.size
  rcases L with ⟨he5, hx0, hext⟩ | ⟨he0, b, A2, hxb, hfr⟩
  ·
   subst x2
   try subst e2
   refine dT3 (dInt_i (dSl_i (dInt_i (sB_t (by rfl) ?_))))
   refine ret_t ?_
   have Z := H.ch c (by simp <;> omega)
   have ab := ho.mv (f.app c) (tagn (by simp <;> omega))
   exact ⟨_, _, _, _, _, _, _, rfl, (((Ch.refl [U, U + 3, U + 20, U + 21, U + 22, U + 23, U + 30, U + 32, τw, τo] s).ch f (by simp)).ch c (by simp)), w, Z, ab, hnl, by omega, fun m hm => by (have h1 := hnd m hm; have h2 := hext.last; have h3 : (V.tk a).P.last = V.P.last := rfl; omega), .inl ⟨rfl, ((VExt.tk V a).trans hext).le (by omega) (by omega)⟩⟩
  ·
   subst x2
   try subst e2
   refine dT3 (dInt_i (dSl_i (dInt_i (sB_f (by rfl) (ask_t (by omega) ?_)))))
   refine al_t (M + 1) fun ax ay aD ad q aE => ?_
   have hb2 := hfr.lt hg
   have hz2 : Sl ay (some ⟨ax, 0, none⟩) (bvs [0, 0]) (M + 1) := by
    have h := (ad).sl
    rw [show Int.toNat 2 = 2 from rfl, rowZ_by] at h
    exact h
   refine tcall (c_wput (M + 13) (Int.toNat 2) hz2 rfl (by decide) 0 2 b ⟨by decide, by decide⟩ (by decide) (by show b < 65536; omega) (by omega)) ?_
   rintro aF aG ⟨az, aA, rfl, l, z⟩
   have aH := l.size
   rw [wrL_adr] at z
   refine dT2 (dSl_i (dInt_i (sB_f (by rfl) (nz_i ?_))))
   have ae := ((c.app q).app l)
   have O := H.ch ae (by simp <;> omega)
   refine ld_t O rfl (dPtr_i ?_)
   rw [show 2 * ((p.ix : Nat) : Int) = ((2 * p.ix : Nat) : Int) by omega]
   refine wr_t (by omega) ?_
   have hD2 : j.D = V.D := hfr.ext.D
   have hhas : j.D.has ((slot (nowN V) D p.par : Nat) : Int) := by rw [hD2]; exact al_has hA halp
   have Q := w.mv (q.app l) (rngn50 (by simp))
   have hpk2 := (Q).pokk
   have hla2 := hfr.ext.last
   have hla3 : (V.tk a).P.last = V.P.last := rfl
   have hn2 := hfr.ext.n
   have hn3 : (V.tk a).n = V.n + a := rfl
   have h2l : (adr2 b).length = 2 := rfl
   have hch := change_t (V := j) (b := ((slot (nowN V) D p.par : Nat) : Int)) (o := ((2 * p.ix : Nat) : Int)) (y := adr2 b) (needs := ids2) hpk2 hhas ⟨hhas.1, by omega, by rw [h2l]; omega, by omega, by rw [h2l]; omega⟩ K (by omega)
   have af := I.mv (q.app l) (tagn (by simp))
   refine tcall (c_VChange _ _ _ _ _ _ _ _ _ (by omega) Q (z).sl rfl af J (by omega) (by omega) (by omega) (by omega)) ?_
   rintro aI aJ ⟨rfl, C, R⟩
   have aK := C.size
   rw [hch.1, hch.2.1]
   refine dT2 (dInt_i (dInt_i (sB_f (by rfl) (nz_i ?_))))
   have S := O.ch C (by simp <;> omega)
   refine ld_t S rfl (dSl_i ?_)
   refine al_t (M + 2) fun aW aX aL ag E aM => ?_
   have T := (((((f.app c).app q).app l).app C).app E)
   have ah := ho.mv T (tagn (by simp <;> omega))
   refine app_i1 u45 in3 ah ag (by omega) fun aN aO aP ai t => ?_
   have aQ := t.size
   refine dSl_i (nz_i ?_)
   have W := S.ch (E.app t) (by simp <;> omega)
   refine st_t (r := r) (i := 5) W rfl (by simp) fun aY aj X aR => ?_
   have F := on_ch W X
   refine ret_t ?_
   have ak := ((T.app t).app F)
   have al := ((E.app t).app F)
   have am := R.mv al (rngn50 (by simp <;> omega))
   have ao := ai.mv F (tagn (by simp <;> omega))
   have hlc := hch.2.2.last
   have hsi := stp_in hg (V := V.tk a) ht hfr hp hpi h0p hpar hch.2.2
   exact ⟨_, _, _, _, _, _, _, rfl, ((Ch.refl [U, U + 3, U + 20, U + 21, U + 22, U + 23, U + 30, U + 32, τw, τo] s).ch ak (by simp)), am, aj, ao, by rw [List.length_append, hnl]; rfl, by omega, nd_app hnd (by omega) (nd_one (by omega)), .inr ⟨rfl, A2, by rw [hsi.2], by rw [hsi.2]; exact hfr.nz, ((Stp.tk hA ht a).trans ht hsi.1).le (by omega) (by omega), fun n i h1 h2 h3 => ino_in (V := V.tk a) hfr halp hch.2.2 n i h1 h2 h3⟩⟩
theorem din_set (D : DinM) {k b : Nat} (hk : k < 6) : (dinW D).set (3 + k) (.int .i64 (b : Int)) = dinW (D.put k b) := by
 rcases (by omega : k = 0 ∨ k = 1 ∨ k = 2 ∨ k = 3 ∨ k = 4 ∨ k = 5) with rfl | rfl | rfl | rfl | rfl | rfl <;> rfl
structure SameV (V V' : VolM) (k : Nat) : Prop where
 P : V'.P = V.P
 D : V'.D = V.D
 way : V'.way = V.way
 n : V.n ≤ V'.n ∧ V'.n ≤ V.n + (k : Int)
 old : V.old.on = false → V'.old = V.old
theorem SameV.now {V V' : VolM} {k : Nat} (h : SameV V V' k) (b : Int) : V'.now b = V.now b := by
 unfold VolM.now VolM.blk; rw [h.P, h.D]
theorem VExt.same {V V' : VolM} {j k : Nat} (h : VExt V V' j k) : SameV V { V' with P := V.P } k := ⟨rfl, h.D, h.way, h.n, h.old⟩
theorem AS.same {G B : Nat} {V V' : VolM} {A : Nat → List UInt8 × List UInt8} {k : Nat} (h : AS G B V A) (hs : SameV V V' k) : AS G B V' A := ⟨by rw [hs.D]; exact h.len, h.l8, h.l32, fun n hn => by rw [hs.now]; exact h.now n hn⟩
theorem SameV.nowN {V V' : VolM} {k : Nat} (h : SameV V V' k) : nowN V' = nowN V := funext fun b => h.now (b : Int)
theorem c_ggrow (vp d U : Nat) (V : VolM) (G B N : Nat) (i : Nat) (r τw τo gr : Nat) {aa : Option Addr} {an ac : Nat} {needs : List Int} (rd τd : Nat) (A : Nat → List UInt8 × List UInt8) (D : DinM) (s : TH) (hv : VolL s vp d U V 0) (hU : 10 ≤ U) (hg : GeoOk G B N) (hvn : V.n < 8000000) (hlp : V.P.last < 80000) (hA : AS G B V A) (ht : TreeOk (nowN V) D (AL G B N A)) (hr : Blk s r [.pointer (some ⟨vp, 0, none⟩), .int .i64 (G : Int), .int .i64 (B : Int), .int .i64 (N : Int), .int .i64 (gr : Int), .slice aa an ac] 98 τw) (ho : Own s aa an ac 3 1 (ivs needs) τo) (hnl : needs.length = an) (han : an = 0) (hnd : (∀ k ∈ needs, 1 ≤ k ∧ k ≤ V.P.last)) (hd : Blk s rd (dinW D) 26 τd) (hgr : gr < G) (hi : i < 4164) (hne : τw ≠ τo ∧ τw ≠ τd ∧ τo ≠ τd) (hτ : (τw < U ∨ U + 50 ≤ τw) ∧ (τo < U ∨ U + 50 ≤ τo) ∧ (τd < U ∨ U + 50 ≤ τd)) : TRet Tryz.prog 35 #[.pointer (some ⟨r, 0, none⟩), .pointer (some ⟨rd, 0, none⟩), .int .i64 (i : Int)] s fun v s' => ∃ V' D' x e aa2 an2 ac2 needs2, v = .tuple #[.int .i64 x, .int .i64 e] ∧ Ch [U, U + 3, U + 20, U + 21, U + 22, U + 23, U + 30, U + 32, τw, τo, τd] s s' ∧ VolL s' vp d U V' 0 ∧ Blk s' r [.pointer (some ⟨vp, 0, none⟩), .int .i64 (G : Int), .int .i64 (B : Int), .int .i64 (N : Int), .int .i64 (gr : Int), .slice aa2 an2 ac2] 98 τw ∧ Own s' aa2 an2 ac2 3 1 (ivs needs2) τo ∧ Blk s' rd (dinW D') 26 τd ∧ needs2.length = an2 ∧ an2 ≤ 4 ∧ (∀ k ∈ needs2, 1 ≤ k ∧ k ≤ V'.P.last) ∧ ((e = 5 ∧ x = 0 ∧ VExt V V' 8 50) ∨ (e = 0 ∧ ∃ A', x = ((slot (nowN V') D' (leafP i) : Nat) : Int) ∧ slot (nowN V') D' (leafP i) ≠ 0 ∧ Stp G B N A A' V V' D D' (8) (50) ∧ InoF G B N V V')) := by
 have hcan := hg.can
 have hg2 := hg
 unfold GeoOk at hg2
 have hgb := hg.gb
 have hgbI : (G : Int) * (B : Int) = ((G * B : Nat) : Int) := (Int.natCast_mul G B).symm
 have hgnI : (G : Int) * (N : Int) = ((G * N : Nat) : Int) := (Int.natCast_mul G N).symm
 have hl := hA.len
 have hpl0 := hv.pokk.lst
 have hwl := stW_len (i := i)
 have hk6 := stK_lt i
 obtain ⟨M, hM, hM0, hMa, hMb, hMc, hMd, hMe, hMf⟩ := fresh6 s (U + 60) τw τo τd 0 0
 refine F35_calls _ _ _  ?_
 unfold F35
 refine tcall (c_isteps (M + 10) i _ hi) ?_
 rintro a6 a7 ⟨aH, aI, rfl, b, J⟩
 have a8 := b.size
 refine dT2 (dInt_i (dSl_i ?_))
 refine tcall (c_icell rd (stK i) _ hk6) ?_
 rintro a9 K ⟨rfl, a⟩
 have aP := a.size
 refine dPtr_i ?_
 refine jn0 (fun s' => Ch [U, U + 3, U + 20, U + 21, U + 22, U + 23, U + 30, U + 32, τw, τo, τd] K s' ∧ (∃ V' A' D' aa2 an2 ac2 needs2, VolL s' vp d U V' 0 ∧ Blk s' r [.pointer (some ⟨vp, 0, none⟩), .int .i64 (G : Int), .int .i64 (B : Int), .int .i64 (N : Int), .int .i64 (gr : Int), .slice aa2 an2 ac2] 98 τw ∧ Own s' aa2 an2 ac2 3 1 (ivs needs2) τo ∧ Blk s' rd (dinW D') 26 τd ∧ needs2.length = an2 ∧ an2 ≤ 2 ∧ (∀ k ∈ needs2, 1 ≤ k ∧ k ≤ V'.P.last) ∧ D'.top (stK i) ≠ 0 ∧ Stp G B N A A' V V' D D' (2) (10) ∧ InoF G B N V V')) ?_ ?_
 ·
  rintro  H ⟨p, V1, A1, D1, aa2, an2, ac2, needs2, hv2, aJ, ho2, hd2, hnl2, han2, hnd2, htop, hst, hif⟩
  have aQ := p.size
  intro _
  intros
  refine nz_i ?_
  refine ld_t hd2 (top_cell D1 hk6) ?_
  refine dInt_i ?_
  refine ⟨fun vs H' => ∃ s' : TH, s'.h = H' ∧ ∃ bb q, vs = [.int .i64 bb, .int .i64 q] ∧ Ch [U, U + 3, U + 20, U + 21, U + 22, U + 23, U + 30, U + 32, τw, τo, M + 9] H s' ∧ (∃ (j : Nat), ∃ V' A' aa2 an2 ac2 needs2, q = j ∧ j ≤ (stW i).length ∧ bb = ((slot (nowN V') D1 (posW i j) : Nat) : Int) ∧ slot (nowN V') D1 (posW i j) ≠ 0 ∧ VolL s' vp d U V' 0 ∧ Blk s' r [.pointer (some ⟨vp, 0, none⟩), .int .i64 (G : Int), .int .i64 (B : Int), .int .i64 (N : Int), .int .i64 (gr : Int), .slice aa2 an2 ac2] 98 τw ∧ Own s' aa2 an2 ac2 3 1 (ivs needs2) τo ∧ Blk s' rd (dinW D1) 26 τd ∧ needs2.length = an2 ∧ an2 ≤ 2 + j ∧ (∀ k ∈ needs2, 1 ≤ k ∧ k ≤ V'.P.last) ∧ Stp G B N A A' V V' D D1 (2 + 3 * j) (10 + 12 * j) ∧ InoF G B N V V'), fun vs H' => match vs with | [.int .i64 bb, .int .i64 q] => (((stW i).length : Int) - q).toNat | _ => 0, ⟨H, rfl, _, _, rfl, Ch.refl _ _, ?_⟩, ?_⟩
  ·
   exact ⟨0, V1, A1, _, _, _, _, rfl, by omega, rfl, htop, hv2, aJ, ho2, hd2, hnl2, by omega, hnd2, hst, hif⟩
  ·
   intro bb q _ _ _ _ _ _ _ _ _ _ _ _ _ _ _ _ _ _ _ _ H_ hI_15
   obtain ⟨aR, rfl, bb_, q_, hvs, f, j, V2, A2, aa2, an2, ac2, needs2, rfl, hj, rfl, hs0, hv3, ab, ho3, hd3, hnl3, han3, hnd3, hst3, hif3⟩ := hI_15
   cases hvs
   have aS := f.size
   refine sB_d (fun ae => ?_) (fun ae => ?_)
   ·
    have af := ((a.app p).app f)
    have L := J.mv af (tagn (by simp <;> omega))
    obtain ⟨x, hxx⟩ : ∃ x, (stW i)[j]? = some x := ⟨(stW i)[j]'(by omega), by simp⟩
    obtain ⟨hpi, hpp, hpx, hpf, hj2, hx64⟩ := posW_s hi hxx
    obtain ⟨ad, rfl⟩ := (L).some (fun e => by have := ivs_get (nI_get hxx); rw [e] at this; simp at this)
    refine nz_i (ask_t (by omega) ?_)
    refine ld_sl (v := .int .i64 (x : Int)) (L) (by rw [Int.toNat_natCast, Nat.mul_one]; exact ivs_get (nI_get hxx)) ?_
    refine dInt_i ?_
    have hl3 := hst3.ext.last
    have hn3 := hst3.ext.n
    have h0q := hs0
    rw [← hpp] at h0q
    rw [← hpp, ← hpx]
    refine tcall (c_ginner vp d U V2 G B N r τw τo gr A2 D1 (posW i (j + 1)) _ hv3 hU hg (by omega) (by omega) hst3.hds hst3.tree ab ho3 hnl3 (by omega) hnd3 hgr (posW_ok hi (by omega)) hpi h0q (by omega) (by omega)) ?_
    rintro aT ag ⟨V4, x4, e4, aa4, an4, ac4, needs4, rfl, g, w, y, z, C, aK, E, O⟩
    have aU := g.size
    rcases O with ⟨rfl, hext4⟩ | ⟨rfl, A4, rfl, hs4, hst4, hif4⟩
    ·
     refine dT2 (dInt_i (dInt_i (sB_t (by rfl) ?_)))
     refine ret_t ?_
     have ah := ((b.app a).app p)
     have ai := hd3.ch g (by simp <;> omega)
     exact ⟨_, D1, _, _, _, _, _, _, rfl, ((((Ch.refl [U, U + 3, U + 20, U + 21, U + 22, U + 23, U + 30, U + 32, τw, τo, τd] s).ch ah (by simp)).fr f hM (by simp)).ch g (by simp)), w, y, z, ai, C, by omega, E, .inl ⟨rfl, rfl, (hst3.ext.trans hext4).le (by omega) (by omega)⟩⟩
    ·
     refine dT2 (dInt_i (dInt_i (sB_f (by rfl) (wr_t (by omega) ?_))))
     refine ⟨⟨ag, rfl, _, _, rfl, (((Ch.refl [U, U + 3, U + 20, U + 21, U + 22, U + 23, U + 30, U + 32, τw, τo, M + 9] H).ch f (by simp)).ch g (by simp)), ?_⟩, ?_⟩
     ·
      have aj := hd3.ch g (by simp <;> omega)
      exact ⟨j + 1, V4, A4, _, _, _, _, by omega, by omega, rfl, hs4, w, y, z, aj, C, by omega, E, (hst3.trans ht hst4).le (by omega) (by omega), hif3.trans hif4⟩
     ·
      simp only []; omega
   ·
    refine ret_t ?_
    have ak := ((b.app a).app p)
    obtain rfl : j = (stW i).length := by omega
    rw [posW_end] at hs0 ⊢
    exact ⟨_, D1, _, _, _, _, _, _, rfl, (((Ch.refl [U, U + 3, U + 20, U + 21, U + 22, U + 23, U + 30, U + 32, τw, τo, τd] s).ch ak (by simp)).fr f hM (by simp)), hv3, ab, ho3, hd3, hnl3, by omega, hnd3, .inr ⟨rfl, A2, rfl, hs0, hst3.le (by omega) (by omega), hif3⟩⟩
 ·
  intro K_29 hK_29
  refine nz_i ?_
  have t := hd.ch (b.app a) (by simp)
  refine ld_t t (top_cell D hk6) ?_
  refine dInt_i ?_
  refine sB_d (fun al => ?_) (fun al => ?_)
  ·
   have am := hv.mv (b.app a) (rngn50 (by simp))
   have I := hr.ch (b.app a) (by simp)
   refine tcall (c_gfresh vp d U V G B N (M + 11) r τw gr A _ am hU hg (by omega) (by omega) hA I hgr (by omega)) ?_
   rintro aV aW ⟨V5, x2, a2, n2, c2_, e2, ids2, rfl, c, F, Q, aL, aM, aN, R⟩
   have aX := c.size
   rcases R with ⟨rfl, rfl, hext⟩ | ⟨rfl, b5, A5, rfl, hfr⟩
   ·
    refine dT3 (dInt_i (dSl_i (dInt_i (sB_t (by rfl) ?_))))
    refine ret_t ?_
    have S := ((b.app a).app c)
    have ao := I.ch c (by simp <;> omega)
    have ap := ho.mv S (tagn (by simp <;> omega))
    have aq := t.ch c (by simp <;> omega)
    exact ⟨_, D, _, _, _, _, _, _, rfl, ((Ch.refl [U, U + 3, U + 20, U + 21, U + 22, U + 23, U + 30, U + 32, τw, τo, τd] s).ch S (by simp)), F, ao, ap, aq, hnl, by omega, fun m hm => by (have h1 := hnd m hm; have h2 := hext.last; omega), .inl ⟨rfl, rfl, hext.le (by omega) (by omega)⟩⟩
   ·
    refine dT3 (dInt_i (dSl_i (dInt_i (sB_f (by rfl) (nz_i ?_)))))
    have T := t.ch c (by simp <;> omega)
    refine st_t (r := rd) (i := 3 + stK i) T rfl (by show 3 + stK i < 9; omega) fun aO ar Y aY => ?_
    have l := on_ch T Y
    have hdq : Blk aO rd (dinW (D.put (stK i) b5)) 26 τd := by have h := ar; rw [din_set D hk6] at h; exact h
    refine nz_i ?_
    have W := I.ch (c.app l) (by simp <;> omega)
    refine ld_t W rfl (dSl_i ?_)
    have au := (((b.app a).app c).app l)
    have av := ho.mv au (tagn (by simp <;> omega))
    have aw := Q.mv l (tagn (by simp <;> omega))
    refine app_iv u45 in3 av aw (by omega) (by omega) fun aZ a0 a1 ax o => ?_
    have a3 := o.size
    refine dSl_i (nz_i ?_)
    have X := W.ch o (by simp <;> omega)
    refine st_t (r := r) (i := 5) X rfl (by simp) fun a4 ay Z a5 => ?_
    have u := on_ch X Z
    have az := (((c.app l).app o).app u)
    refine hK_29 _ ⟨((Ch.refl [U, U + 3, U + 20, U + 21, U + 22, U + 23, U + 30, U + 32, τw, τo, τd] K).ch az (by simp)), ?_⟩
    have aA := ((l.app o).app u)
    have aB := F.mv aA (rngn50 (by simp <;> omega))
    have aC := ax.mv u (tagn (by simp <;> omega))
    have aD := hdq.ch (o.app u) (by simp <;> omega)
    exact ⟨_, A5, D.put (stK i) b5, _, _, _, _, aB, ay, aC, aD, by rw [List.length_append]; omega, by omega, nd_app hnd (by have := hfr.ext.last; omega) (by assumption), by rw [DinM.top_put D b5 hk6 hk6, if_pos rfl]; exact hfr.nz, stp_top ht hfr hk6 (by omega), hfr.ino⟩
  ·
   refine hK_29 _ ⟨(Ch.refl [U, U + 3, U + 20, U + 21, U + 22, U + 23, U + 30, U + 32, τw, τo, τd] K), ?_⟩
   have aE := hv.mv (b.app a) (rngn50 (by simp))
   have aF := hr.ch (b.app a) (by simp)
   have aG := ho.mv (b.app a) (tagn (by simp))
   exact ⟨V, A, D, _, _, _, _, aE, aF, aG, t, hnl, by omega, hnd, by omega, by (have h := Stp.tk hA ht 0); rw [show ((0 : Nat) : Int) = 0 from rfl, tk_zero] at h; exact h.le (by omega) (by omega), fun _ _ _ _ _ => rfl⟩
def zD : DinM := ⟨0, 0, 0, 0, 0, 0, 0, 0, 0⟩
theorem c_iGrow (vp d U : Nat) (V : VolM) (G B N : Nat) (τ ino i : Nat) (A : Nat → List UInt8 × List UInt8) (D : DinM) (s : TH) (hv : VolL s vp d U V 0) (hU : 10 ≤ U) (hg : GeoOk G B N) (hvn : V.n < 7000000) (hlp : V.P.last < 70000) (hA : AS G B V A) (ht : TreeOk (nowN V) D (AL G B N A)) (hino : ino < G * N) (hi : i < 4164) (hτ : τ < U ∨ U + 50 ≤ τ) : TRet Tryz.prog 13 #[.pointer (some ⟨vp, 0, none⟩), .agg #[.int .i64 (G : Int), .int .i64 (B : Int), .int .i64 (N : Int)], .int .i64 (ino : Int), .agg #[.int .i64 (D.m : Int), .int .i64 (D.l : Int), .int .i64 (D.z : Int), .int .i64 (D.d0 : Int), .int .i64 (D.d1 : Int), .int .i64 (D.d2 : Int), .int .i64 (D.d3 : Int), .int .i64 (D.e1 : Int), .int .i64 (D.e2 : Int)], .int .i64 (i : Int)] s fun v s' => ∃ V' D' x e a n c needs, v = .tuple #[.int .i64 x, .agg #[.int .i64 (D'.m : Int), .int .i64 (D'.l : Int), .int .i64 (D'.z : Int), .int .i64 (D'.d0 : Int), .int .i64 (D'.d1 : Int), .int .i64 (D'.d2 : Int), .int .i64 (D'.d3 : Int), .int .i64 (D'.e1 : Int), .int .i64 (D'.e2 : Int)], .slice a n c, .int .i64 e] ∧ Ch [U, U + 3, U + 20, U + 21, U + 22, U + 23, U + 30, U + 32] s s' ∧ VolL s' vp d U V' 0 ∧ Own s' a n c 3 1 (ivs needs) τ ∧ needs.length = n ∧ n ≤ 4 ∧ (∀ k ∈ needs, 1 ≤ k ∧ k ≤ V'.P.last) ∧ ((e = 5 ∧ SameV V V' 60) ∨ (e = 0 ∧ ∃ A', x = ((slot (nowN V') D' (leafP i) : Nat) : Int) ∧ slot (nowN V') D' (leafP i) ≠ 0 ∧ Stp G B N A A' V V' D D' 8 60 ∧ InoF G B N V V' ∧ (slot (nowN V) D (leafP i) ≠ 0 → D' = D))) := by
 have hcan := hg.can
 have hg2 := hg
 unfold GeoOk at hg2
 have hgb := hg.gb
 have hgbI : (G : Int) * (B : Int) = ((G * B : Nat) : Int) := (Int.natCast_mul G B).symm
 have hgnI : (G : Int) * (N : Int) = ((G * N : Nat) : Int) := (Int.natCast_mul G N).symm
 have hl := hA.len
 have hpl0 := hv.pokk.lst
 obtain ⟨M, hM, hM0, hMa, hMb, hMc, hMd, hMe, hMf⟩ := fresh6 s (U + 60) τ 0 0 0 0
 refine F13_calls _ _ _ _ _ _ _ _ _ _ _ _ _ _ _  ?_
 unfold F13
 refine al_t (M + 1) fun r1 s2 bq aW R br => ?_
 refine al_t (M + 2) fun r3 s4 bs aX H bt => ?_
 refine al_t (M + 3) fun r5 s6 bu S u bv => ?_
 refine al_t (M + 4) fun r7 s8 bw T j a1 => ?_
 refine st9 T rfl (by rfl) fun s9 am ai a2 => ?_
 have o := on_ch T ai
 have an := (((H.app u).app j).app o)
 have w := aW.ch an (by simp)
 refine ld_t w rfl (ld_t w rfl (ld_t w rfl ?_))
 have ao := ((((R.app H).app u).app j).app o)
 have ap := hv.mv ao (rngn50 (by simp <;> omega))
 refine tcall (c_iplace vp d U V G B N ino _ ap hU hg hl (by omega) hino) ?_
 rintro a3 a4 ⟨rfl, f, W⟩
 have a5 := f.size
 refine dT3 (dInt_i (dInt_i (dInt_i (sB_f (by rfl) ?_))))
 have y := w.ch f (by simp <;> omega)
 refine ld_t y rfl (ld_t y rfl (ld_t y rfl ?_))
 have aq := (((u.app j).app o).app f)
 have O := aX.ch aq (by simp <;> omega)
 refine ld9 O rfl ?_
 refine tcall (c_iaddr vp d U V G B N i A D _ W hU hg (by omega) hA ht hi) ?_
 rintro a6 a7 ⟨g, rfl, b, I, aY⟩
 have a8 := b.size
 refine dT2 (dInt_i (dInt_i (sB_f (by rfl) ?_)))
 refine sB_nd (fun ar => ?_) (fun ar => ?_)
 ·
  have au := O.ch b (by simp <;> omega)
  refine ld9 au rfl ?_
  have av := (((j.app o).app f).app b)
  have X := S.ch av (by simp <;> omega)
  refine st9 X rfl (by rfl) fun aw ax aj a9 => ?_
  have Y := on_ch X aj
  refine ld9 ax rfl ?_
  have ay := (((R.app H).app u).app j)
  have az := I.mv Y (rngn50 (by simp <;> omega))
  exact ret_t' (s' := remark aw (M + 8) τ) rfl ⟨_, D, _, _, _, _, _, [], rfl, remark_ch ((((((Ch.refl [U, U + 3, U + 20, U + 21, U + 22, U + 23, U + 30, U + 32] s).ch ay (by simp)).fr o hM (by simp)).ch f (by simp)).ch b (by simp)).fr Y hM (by simp)) hM (by omega), (az).keep (by omega), Own.nil _ _ _ _, rfl, by omega, (by intro m hm; cases hm), .inr ⟨rfl, A, rfl, by show slot (nowN V) D (leafP i) ≠ 0; omega, (Stp.tk hA ht g).le (by omega) (by omega), fun _ _ _ _ _ => rfl, fun _ => rfl⟩⟩
 ·
  have C := y.ch b (by simp <;> omega)
  refine ld_t C rfl (ld_t C rfl (ld_t C rfl ?_))
  have h0s : slot (nowN V) D (leafP i) = 0 := by omega
  have hgr : ino / N < G := (ib_lt hg hino).1
  refine tcall (gc_owner (G : Int) (B : Int) (N : Int) (ino : Int) hcan (by rw [hgnI]; omega) _) ?_
  rintro ba bb ⟨rfl, p⟩
  have bc := p.size
  rw [show (ino : Int) / (N : Int) = ((ino / N : Nat) : Int) from (Int.natCast_ediv ino N).symm]
  refine dT3 (dInt_i (dInt_i (dBl_i ?_)))
  have aA := I.mv p (rngn50 (by simp))
  refine tcall (c_VLast _ _ _ _ _ (by omega) aA) ?_
  rintro bd be ⟨rfl, q, Z⟩
  have bf := q.size
  refine dInt_i ?_
  have Q := C.ch (p.app q) (by simp <;> omega)
  refine ld_t Q rfl (ld_t Q rfl (ld_t Q rfl ?_))
  refine al_t (M + 5) fun aB bg a0 aC r bh => ?_
  have aD := Z.mv r (rngn50 (by simp))
  have aE := (((b.app p).app q).app r)
  have aF := O.ch aE (by simp <;> omega)
  refine tcall (c_ggrow (needs := []) vp d U (V.tk g) G B N i aB (M + 5) (M + 6) (ino / N) r3 (M + 2) A D _ aD hU hg (by show V.n + _ < _; omega) (by show V.P.last < _; omega) (hA.tk _) ht aC (Own.nil _ _ _ _) rfl rfl (by intro m hm; cases hm) aF hgr hi (by omega) (by omega)) ?_
  rintro bi bj ⟨V5, D5, x5, e5, aa5, an5, ac5, nd5, rfl, t, J, K, aa, ab, ac, aZ, ad, ae⟩
  have bk := t.size
  rcases ae with ⟨rfl, rfl, hext⟩ | ⟨rfl, A5, rfl, hs5, hst5, hif5⟩
  ·
   refine dT2 (dInt_i (dInt_i (sB_t (by rfl) ?_)))
   have hu : V5.P.undo (V.tk g).P.last = (V.P, 0) := hext.undo (V := V.tk g) hv.pokk
   refine tcall (c_VUndo _ _ _ _ _ _ (by omega) J) ?_
   rintro bl bm ⟨rfl, E, L⟩
   have bn := E.size
   rw [hu] at L ⊢
   refine dInt_i ?_
   have aG := ((((((f.app b).app p).app q).app r).app t).app E)
   have aH := am.ch aG (by simp <;> omega)
   refine ld9 aH rfl ?_
   have aI := ((((((((j.app o).app f).app b).app p).app q).app r).app t).app E)
   have af := S.ch aI (by simp <;> omega)
   refine st9 af rfl (by rfl) fun aJ aK ak bo => ?_
   have ag := on_ch af ak
   refine ld9 aK rfl ?_
   have aL := (((R.app H).app u).app j)
   have aM := ((((f.app b).app p).app q).app r)
   have aN := L.mv ag (rngn50 (by simp <;> omega))
   exact ret_t' (s' := remark aJ (M + 8) τ) rfl ⟨_, zD, _, _, _, _, _, [], rfl, remark_ch (((((((Ch.refl [U, U + 3, U + 20, U + 21, U + 22, U + 23, U + 30, U + 32] s).ch aL (by simp)).fr o hM (by simp)).ch aM (by simp)).fr t hM (by simp)).ch E (by simp)).fr ag hM (by simp)) hM (by omega), (aN).keep (by omega), Own.nil _ _ _ _, rfl, by omega, (by intro m hm; cases hm), .inl ⟨rfl, (((VExt.tk V g).trans hext).le (j' := 8) (k' := 60) (by omega) (by omega)).same⟩⟩
  ·
   refine dT2 (dInt_i (dInt_i (sB_f (by rfl) (ld9 ab rfl (ld_t K rfl (dSl_i ?_))))))
   have aO := (((((((j.app o).app f).app b).app p).app q).app r).app t)
   have ah := S.ch aO (by simp <;> omega)
   refine st9 ah rfl (by rfl) fun aP aQ al bp => ?_
   have F := on_ch ah al
   refine ⟨?_, ?_⟩
   ·
    have aR := K.ch F (by simp)
    refine ld_t aR rfl (dSl_i ?_)
    rfl
   ·
    refine ld9 aQ rfl ?_
    have aS := (((R.app H).app u).app j)
    have aT := ((((f.app b).app p).app q).app r)
    have aU := J.mv F (rngn50 (by simp <;> omega))
    have aV := aa.mv F (tagn (by simp))
    exact ret_t' (s' := remark aP (M + 6) τ) rfl ⟨_, D5, _, _, _, _, _, nd5, rfl, remark_ch ((((((Ch.refl [U, U + 3, U + 20, U + 21, U + 22, U + 23, U + 30, U + 32] s).ch aS (by simp)).fr o hM (by simp)).ch aT (by simp)).fr t hM (by simp)).fr F hM (by simp)) hM (by omega), (aU).keep (by omega), (aV).remark, ac, by omega, ad, .inr ⟨rfl, A5, rfl, hs5, ((Stp.tk hA ht g).trans ht hst5).le (by omega) (by omega), fun n i h1 h2 h3 => hif5 n i h1 h2 h3, fun h => absurd h0s h⟩⟩
def fileD : DinM := ⟨1, 1, 0, 0, 0, 0, 0, 0, 0⟩
theorem slot_zero {now : Nat → List UInt8} {D : DinM} (h : ∀ k, k < 6 → D.top k = 0) : ∀ q, Pos.ok q → slot now D q = 0 := by
 intro q hq
 have h4 := h 4 (by decide)
 have h5 := h 5 (by decide)
 cases q with
 | top k => exact h k hq
 | one j => show in16 now (D.top 4) j = 0; rw [h4]; rfl
 | two j => show in16 now (D.top 5) j = 0; rw [h5]; rfl
 | thr j k => show in16 now (in16 now (D.top 5) j) k = 0; rw [h5]; rfl
theorem tree_zero {now : Nat → List UInt8} {D : DinM} {al : Nat → Prop} (h : ∀ k, k < 6 → D.top k = 0) : TreeOk now D al :=
 ⟨fun p q hp _ h0 _ => absurd (slot_zero h p hp) h0, fun p hp h0 => absurd (slot_zero h p hp) h0, fun p hp _ h0 => absurd (slot_zero h p hp) h0⟩
theorem fileD_top : ∀ k, k < 6 → fileD.top k = 0 := by
 intro k hk
 rcases (by omega : k = 0 ∨ k = 1 ∨ k = 2 ∨ k = 3 ∨ k = 4 ∨ k = 5) with rfl | rfl | rfl | rfl | rfl | rfl <;> rfl
def DkOk (D : DinM) : Prop := D.m = 1 ∧ D.l ≤ 1000 ∧ D.z ≤ 532992
theorem dok_of {G B N : Nat} {A : Nat → List UInt8 × List UInt8} {now : Nat → List UInt8} {D : DinM} (hg : GeoOk G B N) (hk : DkOk D) (ht : TreeOk now D (AL G B N A)) : D.ok := by
 have h : ∀ k, k < 6 → D.top k < 2048 := fun k hk => by
  by_cases e : D.top k = 0
  ·omega
  ·have h1 := (ht.alc (.top k) hk e).lt
   unfold GeoOk at hg
   have : G * B ≤ 8 * 256 := Nat.mul_le_mul (by omega) (by omega)
   have h2 : slot now D (.top k) = D.top k := rfl
   omega
 refine .inr ⟨.inl hk.1, hk.2.1, hk.2.2, h 0 (by decide), h 1 (by decide), h 2 (by decide), h 3 (by decide), h 4 (by decide), h 5 (by decide), fun e => ?_⟩
 rw [hk.1] at e; cases e
theorem DkOk.stp {G B N : Nat} {A A' : Nat → List UInt8 × List UInt8} {V V' : VolM} {D D' : DinM} {j k : Nat} (h : DkOk D) (s : Stp G B N A A' V V' D D' j k) : DkOk D' := ⟨s.dm.1.trans h.1, by rw [s.dm.2.1]; exact h.2.1, by rw [s.dm.2.2]; exact h.2.2⟩
def inoB (B N ino : Nat) (V : VolM) : List UInt8 := ((V.now (ibN B N ino : Int)).drop (iaN N ino)).take 32
theorem ib_form {G B N ino : Nat} (hg : GeoOk G B N) (hi : ino < G * N) : ibN B N ino = ino / N * B + (2 + ino % N / 4) ∧ ino / N < G ∧ 2 + ino % N / 4 < 2 + N / 4 ∧ 2 + ino % N / 4 < B := by
 have h := ib_lt (B := B) hg hi
 unfold GeoOk at hg
 exact ⟨rfl, h.1, h.2.1, by omega⟩
theorem ino_put {G B N ino : Nat} {A : Nat → List UInt8 × List UInt8} {V V' : VolM} {D D2 : DinM} (hg : GeoOk G B N) (hi : ino < G * N) (hA : AS G B V A) (ht : TreeOk (nowN V) D (AL G B N A)) (h128 : (V.now (ibN B N ino : Int)).length = 128) (c : ChT V (ibN B N ino : Int) (iaN N ino : Int) (dinB D2) V') :
  Stp G B N A A V V' D D 1 1 ∧ inoB B N ino V' = dinB D2 := by
 obtain ⟨e, h1, h2, h3⟩ := ib_form hg hi
 refine ⟨stp_ino hA ht h1 (by omega) h2 h3 (by rw [e] at c; exact c), ?_⟩
 have a0 := ia_le N ino
 unfold inoB
 rw [c.now, Int.toNat_natCast, cut_over h128 (dinB_len _) a0 a0 (.inl rfl), if_pos rfl]
theorem blk_inode {G B N ino : Nat} {V : VolM} (hg : GeoOk G B N) (hi : ino < G * N) (ok : VOk V) (pok : POk V.P) (hl : V.D.blocks.length = G * B) : (V.now (ibN B N ino : Int)).length = 128 := now_len ok pok (has_ib hg hl hi)
structure GI (G B N ino : Nat) (V : VolM) (A : Nat → List UInt8 × List UInt8) (D : DinM) (mk : List (Int × Value)) (kk : Nat) : Prop where
 hds : AS G B V A
 tree : TreeOk (nowN V) D (AL G B N A)
 dk : DkOk D
 ino : inoB B N ino V = dinB D
 lst : V.P.last ≤ 10 + (kk : Int) * 10
 n : V.n ≤ 10000 + (kk : Int) * 10000
 len : mk.length ≤ kk
 mem : ∀ k v, mget k mk = some v → ∃ n : Nat, n < 4164 ∧ k = (n : Int) ∧ v = .int .i64 ((slot (nowN V) D (leafP n) : Nat) : Int) ∧ slot (nowN V) D (leafP n) ≠ 0
theorem mset_le {k : Int} {x : Value} : ∀ {m : List (Int × Value)}, (mset k x m).length ≤ m.length + 1
 | [] => Nat.le_refl _
 | (k', v) :: r => by
  unfold mset
  by_cases e : k = k'
  ·rw [if_pos e]; simp
  ·rw [if_neg e, List.length_cons, List.length_cons]; have := mset_le (k := k) (x := x) (m := r); omega
theorem GI.tk {G B N ino kk : Nat} {V : VolM} {A : Nat → List UInt8 × List UInt8} {D : DinM} {mk : List (Int × Value)} (h : GI G B N ino V A D mk kk) (t : Nat) (ht : (t : Int) + V.n ≤ 10000 + ((kk + 1 : Nat) : Int) * 10000) : GI G B N ino (V.tk t) A D mk (kk + 1) :=
 ⟨h.hds.tk t, h.tree, h.dk, h.ino, by have := h.lst; show V.P.last ≤ _; omega, by show V.n + _ ≤ _; omega, by have := h.len; omega, h.mem⟩
theorem GI.same {G B N ino kk j : Nat} {V V' : VolM} {A : Nat → List UInt8 × List UInt8} {D : DinM} {mk : List (Int × Value)} (h : GI G B N ino V A D mk kk) (s : SameV V V' j) (hj : V'.n ≤ 10000 + ((kk + 1 : Nat) : Int) * 10000) : GI G B N ino V' A D mk (kk + 1) :=
 ⟨h.hds.same s, by rw [s.nowN]; exact h.tree, h.dk, by unfold inoB; rw [s.now]; exact h.ino, by rw [s.P]; have := h.lst; omega, hj, by have := h.len; omega, by rw [s.nowN]; exact h.mem⟩
structure GJ (G B N ino : Nat) (V : VolM) (A : Nat → List UInt8 × List UInt8) (D : DinM) (mk : List (Int × Value)) (kk : Nat) : Prop where
 hds : AS G B V A
 tree : TreeOk (nowN V) D (AL G B N A)
 dk : DkOk D
 ino : inoB B N ino V = dinB D
 lst : V.P.last ≤ 10 + ((kk + 1 : Nat) : Int) * 10
 len : mk.length ≤ kk + 1
 mem : ∀ k v, mget k mk = some v → ∃ n : Nat, n < 4164 ∧ k = (n : Int) ∧ v = .int .i64 ((slot (nowN V) D (leafP n) : Nat) : Int) ∧ slot (nowN V) D (leafP n) ≠ 0
theorem GJ.gi {G B N ino kk : Nat} {V : VolM} {A : Nat → List UInt8 × List UInt8} {D : DinM} {mk : List (Int × Value)} (h : GJ G B N ino V A D mk kk) (t : Nat) (ht : V.n + (t : Int) ≤ 10000 + ((kk + 1 : Nat) : Int) * 10000) : GI G B N ino (V.tk t) A D mk (kk + 1) :=
 ⟨h.hds.tk t, h.tree, h.dk, h.ino, h.lst, ht, h.len, h.mem⟩
theorem GI.up {G B N ino kk n0 t : Nat} {V V' V'' : VolM} {A A' : Nat → List UInt8 × List UInt8} {D D' : DinM} {mk : List (Int × Value)} (hg : GeoOk G B N) (hi : ino < G * N) (h : GI G B N ino V A D mk kk) (st : Stp G B N A A' (V.tk t) V' D D' 8 60) (h0 : n0 < 4164) (hs : slot (nowN V') D' (leafP n0) ≠ 0) (h128 : (V'.now (ibN B N ino : Int)).length = 128) (c : ChT V' (ibN B N ino : Int) (iaN N ino : Int) (dinB D') V'') :
  GJ G B N ino V'' A' D' (mset (n0 : Int) (.int .i64 ((slot (nowN V') D' (leafP n0) : Nat) : Int)) mk) kk ∧ slot (nowN V'') D' (leafP n0) = slot (nowN V') D' (leafP n0) := by
 obtain ⟨s2, e2⟩ := ino_put (D := D') hg hi st.hds st.tree h128 c
 have hk : ∀ n, n < 4164 → slot (nowN V') D' (leafP n) ≠ 0 → slot (nowN V'') D' (leafP n) = slot (nowN V') D' (leafP n) := fun n hn h => s2.keep _ (leafP_ok hn) h
 refine ⟨⟨s2.hds, s2.tree, h.dk.stp st, e2, ?_, ?_, fun k v hv => ?_⟩, hk n0 h0 hs⟩
 ·have h1 := h.lst
  have h2 := st.ext.last.2
  have h3 := s2.ext.last.2
  have h4 : (V.tk t).P.last = V.P.last := rfl
  omega
 ·have := h.len; have := mset_le (k := (n0 : Int)) (x := .int .i64 ((slot (nowN V') D' (leafP n0) : Nat) : Int)) (m := mk); omega
 ·rw [mget_mset] at hv
  by_cases e : k = (n0 : Int)
  ·rw [if_pos e] at hv; cases hv
   exact ⟨n0, h0, e, by rw [hk n0 h0 hs], by rw [hk n0 h0 hs]; exact hs⟩
  ·rw [if_neg e] at hv
   obtain ⟨n, hn, h1, h2, h3⟩ := h.mem k v hv
   have h4 : slot (nowN V') D' (leafP n) = slot (nowN V) D (leafP n) := st.keep _ (leafP_ok hn) h3
   have h5 := hk n hn (by rw [h4]; exact h3)
   exact ⟨n, hn, h1, by rw [h5, h4]; exact h2, by rw [h5, h4]; exact h3⟩
theorem c_iplc (p vp d U : Nat) (vd vx vy : Value) (V : VolM) (G B N τp : Nat) (A : Nat → List UInt8 × List UInt8) (s : TH) (hv : VolL s vp d U V 0) (hU : 10 ≤ U) (hg : GeoOk G B N) (hvn : V.n < 5000000) (hlp : V.P.last < 50000) (hA : AS G B V A) (hp : Blk s p [vd, .pointer (some ⟨vp, 0, none⟩), vx, vy] 40 τp) (hτ : τp < U ∨ U + 50 ≤ τp) : TRet Tryz.prog 11 #[.pointer (some ⟨p, 0, none⟩), .agg #[.int .i64 (G : Int), .int .i64 (B : Int), .int .i64 (N : Int)]] s fun v s' => ∃ V' x, v = .tuple #[.int .i64 x, .bool true] ∧ Ch [U, U + 3, U + 20, U + 21, U + 22, U + 23, U + 30, U + 32] s s' ∧ VolL s' vp d U V' 0 ∧ (x = 0 ∨ (∃ n i k V1, n < G ∧ i < N ∧ hasB (rowI n (A n).1) i = false ∧ x = ((n * N + i : Nat) : Int) ∧ k ≤ 16 ∧ ChT (V.tk (k : Nat)) (hB n B) (4 + ((i / 8 : Nat) : Int)) [setTo ((A n).1.getD (i / 8) 0) (i % 8) true] V1 ∧ (V1.now (ibN B N (n * N + i) : Int)).length = 128 ∧ ChT V1 (ibN B N (n * N + i) : Int) (iaN N (n * N + i) : Int) (dinB fileD) V')) := by
 have hcan := hg.can
 have hg2 := hg
 unfold GeoOk at hg2
 have hgb := hg.gb
 have hgbI : (G : Int) * (B : Int) = ((G * B : Nat) : Int) := (Int.natCast_mul G B).symm
 have hgnI : (G : Int) * (N : Int) = ((G * N : Nat) : Int) := (Int.natCast_mul G N).symm
 have hl := hA.len
 have hpl0 := hv.pokk.lst
 obtain ⟨M, hM, hM0, hMa, hMb, hMc, hMd, hMe, hMf⟩ := fresh6 s (U + 60) τp 0 0 0 0
 refine F11_calls _ _ _ _  ?_
 unfold F11
 refine al_t (M + 1) fun r1 s2 W l m X => ?_
 refine nz_i ?_
 have w := hp.ch m (by simp)
 refine ld_t w rfl (dPtr_i (ld_t l rfl (ld_t l rfl (ld_t l rfl ?_))))
 have H := hv.mv m (rngn50 (by simp))
 refine tcall (c_aInodeF vp d U V G B N 0 A _ H hU hg (by omega) (by omega) hA (by omega)) ?_
 rintro Y Z ⟨V1, xi, yi, ei, rfl, c, e, f, o⟩
 have L := c.size
 refine dT3 (dInt_i (dInt_i (dInt_i ?_)))
 refine sB_nd (fun y => ?_) (fun y => ?_)
 ·
  refine ret_t ?_
  obtain ⟨he5, _⟩ := f.or_.resolve_right (fun h => by omega)
  exact ⟨_, _, by rw [he5]; rfl, (((Ch.refl [U, U + 3, U + 20, U + 21, U + 22, U + 23, U + 30, U + 32] s).ch m (by simp)).ch c (by simp)), e, .inl rfl⟩
 ·
  refine nz_i ?_
  have q := w.ch c (by simp <;> omega)
  refine ld_t q rfl (dPtr_i ?_)
  have a := l.ch c (by simp <;> omega)
  refine ld_t a rfl (ld_t a rfl (ld_t a rfl ?_))
  refine al_t (M + 2) fun I J O z b Q => ?_
  refine ⟨?_, ?_⟩
  ·
   have g := a.ch b (by simp)
   refine ld_t g rfl (ld_t g rfl (ld_t g rfl ?_))
   rfl
  ·
   refine ⟨?_, ?_⟩
   ·
    have C := q.ch b (by simp)
    refine ld_t C rfl (dPtr_i ?_)
    rfl
   ·
    obtain ⟨he0, n, i, k, hn, hi, hf, hx, hk, hc1⟩ := f.or_.resolve_left (fun h => by omega)
    rw [← Int.natCast_mul, ← Int.natCast_add] at hx
    subst hx
    have hy1 := o he0
    subst hy1
    have hD1 : V1.D = V.D := hc1.D
    have hla1 : V1.P.last = V.P.last + 1 := hc1.last
    have hnV := (VExt.ch hc1).n
    have hnV2 : (V.tk k).n = V.n + k := rfl
    have hino : n * N + i < G * N := dm_lt hn hi
    have j := e.mv b (rngn50 (by simp))
    have E := blk_inode hg hino (j).ok (j).pokk (by rw [hD1]; exact hl)
    have hns : Sl J (some ⟨I, 0, none⟩) (ivs [V.P.last + 1]) (M + 2) := (z).sl
    refine tcall (c_iput vp d U V1 G B N (n * N + i) 1 1 0 0 0 0 0 0 0 1 _ j hU hg (by rw [hD1]; exact hl) (by omega) hino (by omega) (show DinM.ok fileD from dok_of hg ⟨rfl, by decide, by decide⟩ (tree_zero (now := nowN V) (al := AL G B N A) fileD_top)) hns rfl (by omega) (nd_one (by omega)) (by omega)) ?_
    rintro R S ⟨K, rfl, r, t, u⟩
    have T := r.size
    refine dT2 (dInt_i (dInt_i ?_))
    refine ret_t ?_
    have F := (((m.app c).app b).app r)
    exact ⟨_, _, rfl, ((Ch.refl [U, U + 3, U + 20, U + 21, U + 22, U + 23, U + 30, U + 32] s).ch F (by simp)), u, .inr ⟨n, i, k, V1, hn, hi, hf, rfl, hk, hc1, E, t⟩⟩
theorem dT4 {a b c d : Value} {k : VF 4} (h : (k : Value → Value → Value → Value → Prop) a b c d) : dT 4 (.tuple #[a, b, c, d]) k := h
structure CV (c : Int) (s : Nat) : Prop where
 or_ : c = 0 ∨ (c = (s : Int) ∧ s ≠ 0)
theorem GI.val {G B N ino kk : Nat} {V : VolM} {A : Nat → List UInt8 × List UInt8} {D : DinM} {mk : List (Int × Value)} (h : GI G B N ino V A D mk kk) (n0 : Nat) : ∃ c : Int, (mget (n0 : Int) mk).getD (.int .i64 0) = .int .i64 c ∧ CV c (slot (nowN V) D (leafP n0)) := by
 cases e : mget (n0 : Int) mk with
 | none => exact ⟨0, rfl, ⟨.inl rfl⟩⟩
 | some v =>
  obtain ⟨n, h1, h2, rfl, h4⟩ := h.mem _ _ e
  obtain rfl : n0 = n := Int.ofNat_inj.1 h2
  exact ⟨_, rfl, ⟨.inr ⟨rfl, h4⟩⟩⟩
theorem gi_start {G B N n i k : Nat} {V V1 V' : VolM} {A : Nat → List UInt8 × List UInt8} (hg : GeoOk G B N) (hA : AS G B V A) (hl : V.P.last ≤ 5) (hnn : V.n ≤ 5000) (hn : n < G) (hi : i < N) (hk : k ≤ 16)
  (c1 : ChT (V.tk (k : Nat)) (hB n B) (4 + ((i / 8 : Nat) : Int)) [setTo ((A n).1.getD (i / 8) 0) (i % 8) true] V1) (h128 : (V1.now (ibN B N (n * N + i) : Int)).length = 128)
  (c2 : ChT V1 (ibN B N (n * N + i) : Int) (iaN N (n * N + i) : Int) (dinB fileD) V') : GI G B N (n * N + i) V' (updI A n (withB (A n).1 i true)) fileD [] 0 := by
 have hg2 := hg
 unfold GeoOk at hg2
 have hA1 : AS G B V1 (updI A n (withB (A n).1 i true)) := (hA.tk k).upI (by omega) hn (by omega) c1
 have h := ino_put (D := fileD) hg (dm_lt hn hi) hA1 (tree_zero fileD_top) h128 c2
 have e1 := (VExt.ch c1).last.2
 have e2 := (VExt.ch c2).last.2
 have e3 := (VExt.ch c1).n.2
 have e4 := (VExt.ch c2).n.2
 have e5 : (V.tk (k : Nat)).P.last = V.P.last := rfl
 have e6 : (V.tk (k : Nat)).n = V.n + (k : Int) := rfl
 exact ⟨h.1.hds, h.1.tree, ⟨rfl, by decide, by decide⟩, h.2, by omega, by omega, Nat.le_refl _, fun k v h => by cases h⟩
theorem SameV.tks {V V5 : VolM} {t j : Nat} (h : SameV (V.tk (t : Nat)) V5 j) (k : Nat) : SameV V (V5.tk (k : Nat)) (t + j + k) := by
 have hn := h.n
 have e : (V.tk (t : Nat)).n = V.n + (t : Int) := rfl
 have e2 : (V5.tk (k : Nat)).n = V5.n + (k : Int) := rfl
 exact ⟨h.P, h.D, h.way, by omega, h.old⟩
theorem span_len (now : Nat → List UInt8) (D : DinM) : (spanM now D).length ≤ 5000 := by
 show (spK now D 6).length ≤ 5000
 rw [spK_s, List.length_append]
 have h1 := spK_len now D 5 (Nat.le_refl _)
 have h2 := below_len2 now (D.top 5)
 show _ + (belowM now 2 (D.top 5)).length ≤ _
 omega
theorem SameV.ext {V V' : VolM} {k : Nat} (h : SameV V V' k) : VExt V V' 0 k := ⟨h.D, h.way, by rw [h.P], by rw [h.P]; omega, h.n, h.old, [], by rw [h.P, List.append_nil], fun p hp => by cases hp⟩
theorem samev_stp {G B N : Nat} {A : Nat → List UInt8 × List UInt8} {V V' : VolM} {D : DinM} {k : Nat} (hA : AS G B V A) (ht : TreeOk (nowN V) D (AL G B N A)) (h : SameV V V' k) : Stp G B N A A V V' D D 0 k :=
 ⟨hA.same h, by rw [h.nowN]; exact ht, fun q _ _ => by rw [h.nowN], fun _ h => h, fun _ h => .inl h, fun q _ e h2 => by rw [h.nowN] at h2; exact absurd e h2, fun q _ _ e h2 => by rw [h.nowN] at h2; exact absurd e h2, fun x _ _ => by rw [h.nowN], fun _ _ _ _ => rfl, fun _ => rfl, h.ext, rfl, rfl, rfl⟩
structure ClrR (G B N n i : Nat) (A A' : Nat → List UInt8 × List UInt8) (V V' : VolM) (l : List Nat) : Prop where
 hds : AS G B V' A'
 has : ∀ m j, m < G → j < B → hasB (A' m).2 j = (hasB (A m).2 j && decide (m * B + j ∉ l))
 row : ∀ m j, m < G → j < N → hasB (A' m).1 j = (hasB (A m).1 j && decide (¬ (m = n ∧ j = i)))
 ino : inoB B N (n * N + i) V' = dinB zeroD
 ext : VExt V V' (l.length + 2) (2 * l.length + 4)
 fr : ∀ x, (∀ m, m < G → x ≠ m * B + 1) → x ≠ ibN B N (n * N + i) → nowN V' x = nowN V x
theorem clr_mk {G B N n i : Nat} {A A2 : Nat → List UInt8 × List UInt8} {V V1 V2 V' : VolM} {l : List Nat} {e : Int} (hg : GeoOk G B N) (hn : n < G) (hi : i < N) (hA : AS G B V A) (h128 : (V.now (ibN B N (n * N + i) : Int)).length = 128)
  (c : ChT V (ibN B N (n * N + i) : Int) (iaN N (n * N + i) : Int) (dinB zeroD) V1) (hR : RelS G B N A A2 V1 V2 l l.length (2 * l.length)) (hf : GivI B n i (A2 n).1 V2 V' e) : ∃ A', ClrR G B N n i A A' V V' l := by
 have hg2 := hg
 unfold GeoOk at hg2
 have hino := dm_lt (G := G) hn hi
 have hp := ino_put (D := zeroD) hg hino hA (tree_zero (now := nowN V) (al := AL G B N A) (fun k hk => by rcases (by omega : k = 0 ∨ k = 1 ∨ k = 2 ∨ k = 3 ∨ k = 4 ∨ k = 5) with rfl | rfl | rfl | rfl | rfl | rfl <;> rfl)) h128 c
 obtain ⟨eb, e1, e2, e3⟩ := ib_form hg hino
 have hbh : ∀ m, m < G → ibN B N (n * N + i) ≠ m * B + 1 := fun m _ h => by
  rw [eb] at h; have := dm_eq e3 (show 1 < B by omega) h; omega
 have fr1 : ∀ x, x ≠ ibN B N (n * N + i) → nowN V1 x = nowN V x := fun x hx => c.ne _ fun h => hx (Int.ofNat_inj.1 h)
 rcases hf.or_ with ⟨he, hb, rfl⟩ | ⟨he, hb, c2⟩
 ·refine ⟨A2, hR.hds.tk 1, hR.has, fun m j hm hj => ?_, ?_, (((VExt.ch c).trans hR.ext).trans (VExt.tk V2 1)).le (by omega) (by omega), fun x hx hx2 => (hR.fr x hx).trans (fr1 x hx2)⟩
  ·rw [hR.row m]
   by_cases e : m = n ∧ j = i
   ·rw [hR.row n] at hb
    rw [e.1, e.2, hb]; rfl
   ·simp [e]
  ·rw [← hp.2]
   unfold inoB
   show (List.drop _ (nowN V2 (ibN B N (n * N + i)))).take 32 = _
   rw [hR.fr _ hbh]; rfl
 ·have hA3 : AS G B V' (updI A2 n (withB (A2 n).1 i false)) := (hR.hds.tk 1).upI (by omega) hn (by omega) c2
  have fr3 : ∀ x, (∀ m, m < G → x ≠ m * B + 1) → nowN V' x = nowN V2 x := fun x hx => c2.ne _ fun h => by rw [hB_nat] at h; exact hx n hn (Int.ofNat_inj.1 h)
  refine ⟨_, hA3, fun m j hm hj => ?_, fun m j hm hj => ?_, ?_, ((((VExt.ch c).trans hR.ext).trans (VExt.tk V2 1)).trans (VExt.ch c2)).le (by omega) (by omega), fun x hx hx2 => ((fr3 x hx).trans (hR.fr x hx)).trans (fr1 x hx2)⟩
  ·rw [← hR.has m j hm hj]; unfold updI; split
   ·rename_i e; rw [e]
   ·rfl
  ·unfold updI
   by_cases e : m = n
   ·rw [if_pos e]
    show hasB (withB (A2 n).1 i false) j = _
    rw [hasB_with (by rw [hR.hds.l8 n hn]; omega), hR.row n]
    by_cases e2 : j = i
    ·rw [if_pos e2]; simp [e, e2]
    ·rw [if_neg e2, e]; simp [e2]
   ·rw [if_neg e, hR.row m]; simp [e]
  ·rw [← hp.2]
   unfold inoB
   show (List.drop _ (nowN V' (ibN B N (n * N + i)))).take 32 = _
   rw [fr3 _ hbh, hR.fr _ hbh]; rfl
theorem take_s {l : List Nat} {k x : Nat} (h : l[k]? = some x) : l.take (k + 1) = l.take k ++ [x] := by rw [List.take_add_one, h]; rfl
theorem c_ipassed (e : Int) (s : TH) (he : e = 0 ∨ e = 110) : TRet Tryz.prog 108 #[.int .i64 e] s fun v s' => v = .bool true ∧ Ch [] s s' := by
 refine F108_calls _  ?_
 unfold F108
 refine sB_d (fun a => ?_) (fun a => ?_)
 ·
  refine ret_t ?_
  exact ⟨rfl, (Ch.refl [] s)⟩
 ·
  refine sB_d (fun b => by exfalso; omega) (fun b => ?_)
  refine ret_t ?_
  exact ⟨ret_b (by simp; omega), (Ch.refl [] s)⟩
theorem c_irelease (vp d U : Nat) (V : VolM) (G B N : Nat) (n i : Nat) (A : Nat → List UInt8 × List UInt8) {la : Option Addr} {ln : Nat} (lc : Nat) {l : List Nat} {τl : Nat} {na : Option Addr} {nn : Nat} (nc : Nat) {needs : List Int} {τn : Nat} (s : TH) (hv : VolL s vp d U V 0) (hU : 10 ≤ U) (hg : GeoOk G B N) (hvn : V.n < 10000000) (hlp : V.P.last < 100000) (hA : AS G B V A) (hn : n < G) (hi3 : 3 ≤ n * N + i) (hiN : i < N) (hL : Sl s la (ivs (nI l)) τl) (hll : l.length = ln) (hlm : ln ≤ 5000) (hla : ∀ x ∈ l, AL G B N A x) (hN : Sl s na (ivs needs) τn) (hnn : needs.length = nn) (hnl : nn ≤ 1000) (hnd : ∀ n ∈ needs, 1 ≤ n ∧ n ≤ V.P.last) (hτn : τn < U ∨ U + 50 ≤ τn) (hτl : τl < U ∨ U + 50 ≤ τl) : TRet Tryz.prog 51 #[.pointer (some ⟨vp, 0, none⟩), .agg #[.int .i64 (G : Int), .int .i64 (B : Int), .int .i64 (N : Int)], .int .i64 ((n * N + i : Nat) : Int), .slice la ln lc, .slice na nn nc] s fun v s' => ∃ V' x A', v = .tuple #[.int .i64 x, .int .i64 0] ∧ Ch [U, U + 3, U + 20, U + 21, U + 22, U + 23, U + 30, U + 32] s s' ∧ VolL s' vp d U V' 0 ∧ ClrR G B N n i A A' V V' l := by
 have hcan := hg.can
 have hg2 := hg
 unfold GeoOk at hg2
 have hgb := hg.gb
 have hgbI : (G : Int) * (B : Int) = ((G * B : Nat) : Int) := (Int.natCast_mul G B).symm
 have hgnI : (G : Int) * (N : Int) = ((G * N : Nat) : Int) := (Int.natCast_mul G N).symm
 have hl := hA.len
 have hpl0 := hv.pokk.lst
 have hino : n * N + i < G * N := dm_lt hn hiN
 have z := blk_inode hg hino hv.ok hv.pokk hl
 obtain ⟨M, hM, hM0, hMa, hMb, hMc, hMd, hMe, hMf⟩ := fresh6 s (U + 60) τl τn 0 0 0
 refine F51_calls _ _ _ _ _ _ _ _ _ _ _  ?_
 unfold F51
 refine al_t (M + 1) fun r1 s2 az g o aA => ?_
 refine ld_t g rfl (ld_t g rfl (ld_t g rfl ?_))
 have ag := hv.mv o (rngn50 (by simp))
 have ah := hN.mv o (tagn (by simp))
 refine tcall (c_iput vp d U V G B N (n * N + i) 0 0 0 0 0 0 0 0 0 nc _ ag hU hg hl (by omega) hino (by omega) zeroD_ok ah hnn hnl hnd hτn) ?_
 rintro aB aC ⟨V1, rfl, f, c, C⟩
 have ak := f.size
 have hx1 := (VExt.ch c).last
 have hx2 := (VExt.ch c).n
 have hc1 : ChT V (ibN B N (n * N + i) : Int) (iaN N (n * N + i) : Int) (dinB zeroD) V1 := c
 have hx3 := hc1.last
 obtain ⟨eb, eb1, eb2, eb3⟩ := ib_form hg hino
 have hA1 : AS G B V1 A := (ino_put (D := zeroD) hg hino hA (tree_zero (now := nowN V) (al := AL G B N A) (fun k hk => by rcases (by omega : k = 0 ∨ k = 1 ∨ k = 2 ∨ k = 3 ∨ k = 4 ∨ k = 5) with rfl | rfl | rfl | rfl | rfl | rfl <;> rfl)) z hc1).1.hds
 refine dT2 (dInt_i (dInt_i (sB_f (by rfl) ?_)))
 refine al_t (M + 2) fun L E am F b an => ?_
 refine ⟨fun vs H' => ∃ s' : TH, s'.h = H' ∧ ∃ q, vs = [.int .i64 q] ∧ Ch [U, U + 3, U + 20, U + 21, U + 22, U + 23, U + 30, U + 32, M + 9] E s' ∧ (∃ (k : Nat) (V2 : VolM) (A2 : Nat → List UInt8 × List UInt8), q = k ∧ k ≤ ln ∧ VolL s' vp d U V2 0 ∧ RelS G B N A A2 V1 V2 (l.take k) k (2 * k)), fun vs H' => match vs with | [.int .i64 q] => ((ln : Int) - q).toNat | _ => 0, ⟨E, rfl, _, rfl, Ch.refl _ _, ?_⟩, ?_⟩
 ·
  have O := C.mv b (rngn50 (by simp))
  exact ⟨0, V1, A, rfl, by omega, O, RelS.nil hA1⟩
 ·
  intro q _ _ _ _ _ _ _ _ _ _ _ _ _ _ _ _ _ _ _ _ _ H_ hI_16
  obtain ⟨H, rfl, q_, hvs, a, k, V2, A2, rfl, hk, hv2, hR⟩ := hI_16
  cases hvs
  have ao := a.size
  have hRl := hR.ext.last
  have hRn := hR.ext.n
  refine sB_d (fun Q => ?_) (fun Q => ?_)
  ·
   obtain ⟨x, hxx⟩ : ∃ x, l[k]? = some x := ⟨l[k]'(by omega), by simp⟩
   obtain ⟨ad, rfl⟩ := hL.some (fun e => by have := ivs_get (nI_get hxx); rw [e] at this; simp at this)
   obtain ⟨m, j, hm, hj2, hjB, hxe, hjb⟩ := hla x (List.mem_of_getElem? hxx)
   refine nz_i (ask_t (by omega) ?_)
   have R := (((o.app f).app b).app a)
   have S := hL.mv R (tagn (by simp <;> omega))
   refine ld_sl (v := .int .i64 (x : Int)) S (by rw [Int.toNat_natCast, Nat.mul_one]; exact ivs_get (nI_get hxx)) ?_
   refine dInt_i ?_
   have T := ((f.app b).app a)
   have t := g.ch T (by simp <;> omega)
   refine ld_t t rfl (ld_t t rfl (ld_t t rfl ?_))
   subst hxe
   have W := F.ch a (by simp <;> omega)
   have hns : Sl H (some ⟨L, 0, none⟩) (ivs [V.P.last + 1]) (M + 2) := (W).sl
   refine tcall (c_freeblk vp d U V2 G B N m j A2 1 _ hv2 hU hg (by omega) (by omega) hR.hds hm hj2 hjB hns rfl (by omega) (nd_one (by omega)) (by omega)) ?_
   rintro ap aq ⟨V3, x3, e3, rfl, I, J, K, ai⟩
   have ar := I.size
   obtain ⟨he3, A3, hR3⟩ := hR.give hg hm hjB K
   refine dT2 (dInt_i (dInt_i ?_))
   refine tcall (c_ipassed e3 _ he3) ?_
   rintro au X ⟨rfl, u⟩
   have av := u.size
   refine dBl_i (sB_f (by rfl) (wr_t (by omega) ?_))
   have Y := ((a.app I).app u)
   refine ⟨⟨X, rfl, _, rfl, ((Ch.refl [U, U + 3, U + 20, U + 21, U + 22, U + 23, U + 30, U + 32, M + 9] E).ch Y (by simp)), ?_⟩, ?_⟩
   ·
    have Z := J.mv u (rngn50 (by simp))
    exact ⟨k + 1, V3, A3, by omega, by omega, Z, by rw [take_s hxx, Nat.mul_add]; exact hR3⟩
   ·
    simp only []; omega
  ·
   have aa := ((f.app b).app a)
   have w := g.ch aa (by simp <;> omega)
   refine ld_t w rfl (ld_t w rfl (ld_t w rfl ?_))
   obtain rfl : k = ln := by omega
   rw [List.take_of_length_le (by omega)] at hR
   have ab := F.ch a (by simp <;> omega)
   have hns : Sl H (some ⟨L, 0, none⟩) (ivs [V.P.last + 1]) (M + 2) := (ab).sl
   refine tcall (c_freeino vp d U V2 G B N n i A2 1 _ hv2 hU hg (by omega) (by omega) hR.hds hn hi3 hiN hns rfl (by omega) (nd_one (by omega)) (by omega)) ?_
   rintro aw ax ⟨V3, x3, e3, rfl, y, p, r, aj⟩
   have ay := y.size
   rw [← hll] at hR
   have hgv := r
   obtain ⟨A3, hC⟩ := clr_mk hg hn hiN hA z hc1 hR r
   refine dT2 (dInt_i (dInt_i ?_))
   refine sB_d (fun ac => ?_) (fun ac => ?_)
   ·
    refine ret_t ?_
    have ae := ((o.app f).app b)
    exact ⟨_, _, A3, rfl, ((((Ch.refl [U, U + 3, U + 20, U + 21, U + 22, U + 23, U + 30, U + 32] s).ch ae (by simp)).fr a hM (by simp)).ch y (by simp)), p, hC⟩
   ·
    refine ret_t ?_
    have af := ((o.app f).app b)
    obtain ⟨h5, _, _⟩ | ⟨h5, _, _⟩ := hgv.or_
    ·exfalso; omega
    ·subst h5; exact ⟨_, _, A3, rfl, ((((Ch.refl [U, U + 3, U + 20, U + 21, U + 22, U + 23, U + 30, U + 32] s).ch af (by simp)).fr a hM (by simp)).ch y (by simp)), p, hC⟩
theorem c_iClear (vp d U : Nat) (V : VolM) (G B N : Nat) (n i : Nat) (A : Nat → List UInt8 × List UInt8) (D : DinM) {na : Option Addr} {nn : Nat} (nc : Nat) {needs : List Int} {τn : Nat} (s : TH) (hv : VolL s vp d U V 0) (hU : 10 ≤ U) (hg : GeoOk G B N) (hvn : V.n < 9000000) (hlp : V.P.last < 90000) (hA : AS G B V A) (ht : TreeOk (nowN V) D (AL G B N A)) (hd : D.ok) (hb : inoB B N (n * N + i) V = dinB D) (hn : n < G) (hi3 : 3 ≤ n * N + i) (hiN : i < N) (hN : Sl s na (ivs needs) τn) (hnn : needs.length = nn) (hnl : nn ≤ 1000) (hnd : ∀ n ∈ needs, 1 ≤ n ∧ n ≤ V.P.last) (hτn : τn < U ∨ U + 50 ≤ τn) : TRet Tryz.prog 19 #[.pointer (some ⟨vp, 0, none⟩), .agg #[.int .i64 (G : Int), .int .i64 (B : Int), .int .i64 (N : Int)], .int .i64 ((n * N + i : Nat) : Int), .slice na nn nc] s fun v s' => ∃ V' x A', ∃ t : Nat, v = .tuple #[.int .i64 x, .int .i64 0] ∧ Ch [U, U + 3, U + 20, U + 21, U + 22, U + 23, U + 30, U + 32] s s' ∧ VolL s' vp d U V' 0 ∧ t ≤ 500 ∧ ClrR G B N n i A A' (V.tk t) V' (spanM (nowN V) D) := by
 have hcan := hg.can
 have hg2 := hg
 unfold GeoOk at hg2
 have hgb := hg.gb
 have hgbI : (G : Int) * (B : Int) = ((G * B : Nat) : Int) := (Int.natCast_mul G B).symm
 have hgnI : (G : Int) * (N : Int) = ((G * N : Nat) : Int) := (Int.natCast_mul G N).symm
 have hl := hA.len
 have hpl0 := hv.pokk.lst
 have hino : n * N + i < G * N := dm_lt hn hiN
 obtain ⟨M, hM, hM0, hMa, hMb, hMc, hMd, hMe, hMf⟩ := fresh6 s (U + 60) τn 0 0 0 0
 refine F19_calls _ _ _ _ _ _ _ _  ?_
 unfold F19
 refine al_t (M + 1) fun r1 s2 au p u av => ?_
 refine ld_t p rfl (ld_t p rfl (ld_t p rfl ?_))
 have ac := hv.mv u (rngn50 (by simp))
 refine tcall (c_iplace vp d U V G B N (n * N + i) _ ac hU hg hl (by omega) hino) ?_
 rintro aw ax ⟨rfl, r, w⟩
 have ay := r.size
 refine dT3 (dInt_i (dInt_i (dInt_i (sB_f (by rfl) ?_))))
 refine sB_d (fun O => by exfalso; omega) (fun O => ?_)
 have b := p.ch r (by simp <;> omega)
 refine ld_t b rfl (ld_t b rfl (ld_t b rfl ?_))
 refine tcall (c_iget vp d U V G B N (n * N + i) D.m D.l D.z D.d0 D.d1 D.d2 D.d3 D.e1 D.e2 _ w hU hg hl (by omega) hino hd hb) ?_
 rintro af Q ⟨rfl, c, y⟩
 have ag := c.size
 have hv1 : VolL Q vp d U (V.tk ((1 : Nat) : Int)) 0 := y
 refine dT2 (dA9 (dInt_i ?_))
 refine al_t (M + 2) fun az aA ah C f ai => ?_
 refine st9 C rfl (by rfl) fun aB R L aj => ?_
 have g := on_ch C L
 refine sB_f (by rfl) ?_
 have S := ((c.app f).app g)
 have j := b.ch S (by simp <;> omega)
 refine ld_t j rfl (ld_t j rfl (ld_t j rfl (ld9 R rfl ?_)))
 have T := hv1.mv (f.app g) (rngn50 (by simp <;> omega))
 refine tcall (c_ispan vp d U (V.tk ((1 : Nat) : Int)) G B N (M + 20) A D _ T hU hg (by show V.n + _ < _; omega) (hA.tk _) ht (by omega)) ?_
 rintro ak W ⟨t3, a3, c3_, rfl, k, E, ad, F⟩
 have al := k.size
 have hv2 : VolL W vp d U (V.tk ((1 + t3 : Nat) : Int)) 0 := by have h := E; rw [tk_tk] at h; rw [Int.natCast_add]; exact h
 refine dT2 (dSl_i (dInt_i (sB_f (by rfl) ?_)))
 refine tcall (c_VLast _ _ _ _ _ (by omega) hv2) ?_
 rintro am an ⟨rfl, a, H⟩
 have ao := a.size
 refine dInt_i ?_
 have o := j.ch (k.app a) (by simp <;> omega)
 refine ld_t o rfl (ld_t o rfl (ld_t o rfl ?_))
 have hspl := span_len (nowN (V.tk ((1 : Nat) : Int))) D
 have X := F.mv a (tagn (by simp <;> omega))
 have Y := ((((((u.app r).app c).app f).app g).app k).app a)
 have Z := hN.mv Y (tagn (by simp <;> omega))
 refine tcall (c_irelease vp d U (V.tk ((1 + t3 : Nat) : Int)) G B N n i A c3_ nc _ H hU hg (by show V.n + _ < _; omega) (by show V.P.last < _; omega) (hA.tk _) hn hi3 hiN (X).sl rfl hspl (fun x hx => by obtain ⟨h0, q, hq, e⟩ := mem_span.1 hx; subst e; exact ht.alc q hq h0) Z hnn hnl hnd hτn (by omega)) ?_
 rintro ap aq ⟨V6, ae, A6, rfl, I, J, K⟩
 have ar := I.size
 refine dT2 (dInt_i (dInt_i (sB_f (by rfl) ?_)))
 refine ret_t ?_
 have aa := (((u.app r).app c).app f)
 have ab := ((k.app a).app I)
 exact ⟨_, _, A6, 1 + t3, rfl, ((((Ch.refl [U, U + 3, U + 20, U + 21, U + 22, U + 23, U + 30, U + 32] s).ch aa (by simp)).fr g hM (by simp)).ch ab (by simp)), J, by omega, K⟩
end Go.Proofs.YtklppdodadkcnaaGreat.E
