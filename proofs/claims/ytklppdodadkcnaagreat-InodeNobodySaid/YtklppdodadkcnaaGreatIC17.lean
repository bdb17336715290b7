/- My own texts, joined. -/
import Derived.KernelRfl
import Derived.Laws.StructEq
import Derived.Test.YtklppdodadkcnaaGreatProg
import Derived.Test.YtklppdodadkcnaaGreatIC16
namespace Go.Proofs.YtklppdodadkcnaaGreat.E
open Go Go.Proofs Go.RowKit Go.Maps Go.Shelf Go.Sort
set_option linter.unusedVariables false
set_option linter.unusedSimpArgs false
def ovL (d : List UInt8) (xs : List PatM) : List UInt8 := xs.foldl (fun d x => overlay d x.off.toNat x.by_) d
def cov (j : Nat) (x : PatM) : Bool := decide (x.off.toNat ≤ j ∧ j < x.off.toNat + x.by_.length)
def fitX (x : PatM) : Prop := 0 ≤ x.off ∧ x.off + x.by_.length ≤ 128
theorem ovL_len {xs : List PatM} : ∀ {d : List UInt8}, d.length = 128 → (∀ x ∈ xs, fitX x) → (ovL d xs).length = 128 := by
 induction xs with
 | nil => intro d h _; exact h
 | cons x xs ih =>
  intro d h hf
  have := hf x (by simp)
  unfold fitX at this
  exact ih (by rw [overlay_len (by omega)]; exact h) fun y hy => hf y (List.mem_cons_of_mem _ hy)
theorem ovL_snoc (d : List UInt8) (xs : List PatM) (x : PatM) : ovL d (xs ++ [x]) = overlay (ovL d xs) x.off.toNat x.by_ := by unfold ovL; rw [List.foldl_append]; rfl
def POv (P : PatchM) : Prop := ∀ x ∈ P.l, ∀ y ∈ P.l, x.id < y.id → x.blk = y.blk → (∃ j, cov j x = true ∧ cov j y = true) → x.id ∈ y.needs
theorem POk.fitX {P : PatchM} (ok : POk P) {x : PatM} (hx : x ∈ P.l) : fitX x := by have := ok.fit x hx; exact ⟨this.2.1, this.2.2.2⟩
theorem over_ovL {P : PatchM} (ok : POk P) : ∀ {xs : List PatM} {d : List UInt8}, (∀ x ∈ xs, x ∈ P.l) → P.over d (xs.map (·.id)) = ovL d xs := by
 intro xs
 induction xs with
 | nil => intro d _; rfl
 | cons x xs ih =>
  intro d h
  show P.over (P.step d x.id) (xs.map (·.id)) = ovL (overlay d x.off.toNat x.by_) xs
  have : P.step d x.id = overlay d x.off.toNat x.by_ := by unfold PatchM.step; rw [find_by ok.nodup (h x (by simp))]
  rw [this]
  exact ih fun y hy => h y (List.mem_cons_of_mem _ hy)
theorem over_of {P : PatchM} (ok : POk P) (b : Int) (d : List UInt8) : P.over d (P.of b) = ovL d (P.l.filter fun x => x.blk == b) := over_ovL ok fun x hx => (List.mem_filter.1 hx).1
theorem POv.undo {P : PatchM} (h : POv P) (i : Int) : POv { P with last := i, l := P.l.filter fun x => decide (x.id ≤ i) } := fun x hx y hy => h x (List.mem_filter.1 hx).1 y (List.mem_filter.1 hy).1
theorem POv.add {P : PatchM} (ok : POk P) (h : POv P) {b o : Int} {y : List UInt8} {needs : List Int} (hf : fitsP b o y.length) : POv { P with last := P.last + 1, l := P.l ++ [P.newP b o y needs] } := fun x hx z hz hlt hb hc => by
 unfold fitsP at hf
 rcases List.mem_append.1 (show x ∈ P.l ++ [_] from hx) with h1 | h1 <;> rcases List.mem_append.1 (show z ∈ P.l ++ [_] from hz) with h2 | h2
 ·exact h x h1 z h2 hlt hb hc
 ·rw [List.mem_singleton] at h2; subst h2
  refine List.mem_map.2 ⟨x, List.mem_filter.2 ⟨h1, ?_⟩, rfl⟩
  obtain ⟨j, c1, c2⟩ := hc
  have hfx := ok.fit x h1
  unfold cov at c1 c2
  simp only [decide_eq_true_eq] at c1 c2
  have c2 : o.toNat ≤ j ∧ j < o.toNat + y.length := c2
  have hb : x.blk = b := hb
  rw [Bool.or_eq_true]; right
  unfold ovx ovl
  exact decide_eq_true ⟨hb.symm, by omega, by omega⟩
 ·rw [List.mem_singleton] at h1; subst h1
  have := ok.rng z h2
  have hlt : P.last + 1 < z.id := hlt
  omega
 ·rw [List.mem_singleton] at h1 h2; subst h1 h2
  exact absurd hlt (Int.lt_irrefl _)
theorem add_of_ne {P : PatchM} {b o : Int} {y : List UInt8} {needs : List Int} {c : Int} (hc : c ≠ b) : (P.l ++ [P.newP b o y needs]).filter (fun x => x.blk == c) = P.l.filter fun x => x.blk == c := by
 rw [List.filter_append, show ([P.newP b o y needs].filter fun x => x.blk == c) = [] from by
  rw [List.filter_cons]; rw [show ((P.newP b o y needs).blk == c) = false from by show (b == c) = false; simpa using fun e => hc e.symm]; rfl, List.append_nil]
theorem add_of {P : PatchM} {b o : Int} {y : List UInt8} {needs : List Int} : (P.l ++ [P.newP b o y needs]).filter (fun x => x.blk == b) = (P.l.filter fun x => x.blk == b) ++ [P.newP b o y needs] := by
 rw [List.filter_append, show ([P.newP b o y needs].filter fun x => x.blk == b) = [P.newP b o y needs] from by
  rw [List.filter_cons]; rw [show ((P.newP b o y needs).blk == b) = true from by show (b == b) = true; simp]; rfl]
theorem newCache {s : TH} {c T d r : Nat} {b : Int} (h1 : Blk s c [.pointer (some ⟨d, 0, none⟩), .int .i64 b, .map (some r), .int .i64 0, .int .i64 0, .int .i64 0] 234 T) (h2 : MapK (Value.int .i64) s r [] (T + 1)) (hb : 1 ≤ b ∧ b ≤ 64) : Cache s c T d ⟨[], b, 0, 0, 0⟩ :=
 ⟨⟨r, [], fun _ => 0, fun _ => (none, 0), h1, h2, ⟨fun x h => (List.not_mem_nil h).elim⟩, ⟨fun x h => (List.not_mem_nil h).elim⟩, ⟨List.Perm.refl _, fun x h => (List.not_mem_nil h).elim, fun x h => (List.not_mem_nil h).elim, List.nodup_nil, fun x h => (List.not_mem_nil h).elim⟩, hb, by simp; omega⟩,
  ⟨List.Pairwise.nil, fun x h => (List.not_mem_nil h).elim, by simp, by simp, fun x h => (List.not_mem_nil h).elim⟩⟩
def VolM.fresh (bs : List (List UInt8)) : VolM := ⟨diskOf bs, ⟨0, [], []⟩, [], ⟨false, false, 0, []⟩, 0⟩
theorem VOk.fresh {bs : List (List UInt8)} (h : ∀ y ∈ bs, y.length = 128) : VOk (VolM.fresh bs) :=
 ⟨rfl, fun p hp => (List.not_mem_nil hp).elim, List.Pairwise.nil, ⟨Int.le_refl _, Int.le_refl _⟩, ⟨Int.le_refl _, (by decide : (0 : Int) ≤ 1000000000000000000)⟩, fun _ => Int.le_refl _, h, (by decide : 0 ≤ 64), fun p hp => (List.not_mem_nil hp).elim⟩
theorem newPSet {s : TH} {p T r1 r2 : Nat} (h : Blk s p [.int .i64 0, .map (some r1), .map (some r2), .bool true] 218 T) (h1 : MapK (Value.int .i64) s r1 [] (T + 1)) (h2 : MapK (Value.int .i64) s r2 [] (T + 2)) : PSet s p T ⟨0, [], []⟩ :=
 ⟨⟨r1, r2, [], [], h, h1, h2, trivial, rfl, fun e he => (List.not_mem_nil he).elim⟩, ⟨List.Pairwise.nil, fun x hx => (List.not_mem_nil hx).elim, fun x hx => (List.not_mem_nil hx).elim, fun x hx => (List.not_mem_nil hx).elim, fun x hx => (List.not_mem_nil hx).elim, fun x hx => (List.not_mem_nil hx).elim, fun i h1 h2 => absurd (Int.le_trans h1 h2) (by show ¬ (1 : Int) ≤ 0; decide), fun x hx => (List.not_mem_nil hx).elim, (by decide : (0 : Int) ≤ 0 ∧ (0 : Int) ≤ 1000000)⟩⟩
theorem c_vopen2 (U d : Nat) (bs : List (List UInt8)) (b : Int) (s : TH) (hU : 10 ≤ U) (hd : Disk s d (U + 10) (diskOf bs)) (hl : ∀ y ∈ bs, y.length = 128) (hb : 1 ≤ b ∧ b ≤ 64) : TRet Tryz.prog 58 #[.pointer (some ⟨d, 0, none⟩), .int .i64 b] s fun v s' => ∃ r, v = .tuple #[.pointer (some ⟨r, 0, none⟩), .int .i64 0] ∧ Ch [] s s' ∧ VolL s' r d U (VolM.fresh bs) 0 := by
 refine F58_calls _ _  ?_
 unfold F58
 refine tcall (c_cnew (U + 10) d (diskOf bs) (U + 20) b _ (by omega) hd hb) ?_
 rintro K L ⟨C, D, rfl, n, e, f⟩
 have M := n.size
 refine dT2 (dPtr_i (dInt_i (sB_f (by rfl) ?_)))
 refine tcall (c_pnew (U + 30) _) ?_
 rintro N O ⟨E, r1call2, r2call2, rfl, g, i, j, k⟩
 have F := g.size
 refine dPtr_i ?_
 refine alm_t (Value.int .i64) (U + 1) fun P Q G o c H => ?_
 refine al_t U fun R S I p a J => ?_
 refine ret_t ?_
 have l := (((n.app g).app c).app a)
 have q := o.ch a (by simp)
 have t := hd.mv l (rngn (by simp))
 have m := ((g.app c).app a)
 have u := e.ch m (by simp)
 have w := f.ch m (by simp)
 have z := i.ch (c.app a) (by simp)
 have A := j.ch (c.app a) (by simp)
 have B := k.ch (c.app a) (by simp)
 exact ⟨_, rfl, ((Ch.refl [] s).ch l (by simp)), ⟨⟨_, _, _, none, [], [], p, q, trivial, (fun h => by cases h), OMap.nil _ _, trivial, t, ⟨_, newCache u w hb, ⟨fun x hx => (List.not_mem_nil hx).elim, fun x hx => (List.not_mem_nil hx).elim⟩, Int.le_refl _, Int.le_refl _, Int.le_refl _⟩, newPSet z A B⟩, VOk.fresh hl⟩⟩
structure DoV where
 op : Int
 b : Int
 off : Int
 n : Int
 ba : Option Addr
 bn : Nat
 bc : Nat
 na : Option Addr
 nn : Nat
 nc : Nat
 by_ : List UInt8
 ns : List Int
structure DoIn (s : TH) (τ : Nat) (x : DoV) : Prop where
 bs : Sl s x.ba (bvs x.by_) τ
 bl : x.by_.length = x.bn
 bo : x.ba = none → x.bn = 0
 bm : x.bn ≤ x.bc ∧ x.bn ≤ 140737488351232
 ns : Sl s x.na (ivs x.ns) τ
 nl : x.ns.length = x.nn
 no : x.na = none → x.nn = 0
 nm : x.nn ≤ x.nc ∧ x.nn ≤ 17592186043904
theorem DoIn.mv {s s' : TH} {τ : Nat} {x : DoV} {B : Nat → Prop} (h : DoIn s τ x) (c : Chg B s s') (hn : ∀ j, j < s.h.size → s.g j = τ → ¬ B j) : DoIn s' τ x := ⟨h.bs.mv c hn, h.bl, h.bo, h.bm, h.ns.mv c hn, h.nl, h.no, h.nm⟩
structure Dos (s : TH) (τ : Nat) (l : List DoV) : Prop where
 at_ : ∀ x ∈ l, DoIn s τ x
theorem Dos.mv {s s' : TH} {τ : Nat} {l : List DoV} {B : Nat → Prop} (h : Dos s τ l) (c : Chg B s s') (hn : ∀ j, j < s.h.size → s.g j = τ → ¬ B j) : Dos s' τ l := ⟨fun x hx => (h.at_ x hx).mv c hn⟩
structure Chd (V V' : VolM) : Prop where
 ex : ∃ b o y needs, V.D.has b ∧ fitsP b o y.length ∧ (∀ n ∈ needs, 1 ≤ n ∧ n ≤ V.P.last) ∧ V' = { V with n := V.ticks b, P := (V.P.add b o y needs).1, old := V.keep b } ∧ (V.P.add b o y needs).1 = { V.P with last := V.P.last + 1, l := V.P.l ++ [V.P.newP b o y needs] }
theorem add_ok {P : PatchM} {b o : Int} {y : List UInt8} {needs : List Int} (h1 : fitsP b o y.length) (h2 : ∀ n ∈ needs, 1 ≤ n ∧ n ≤ P.last) : P.add b o y needs = ({ P with last := P.last + 1, l := P.l ++ [P.newP b o y needs] }, P.last + 1, 0) := by
 unfold PatchM.add
 rw [if_neg (by simpa using h1), if_neg (by simpa [PatchM.knows] using h2)]
theorem change_ok {V : VolM} {b o : Int} {y : List UInt8} {needs : List Int} (hb : V.D.has b) (h1 : fitsP b o y.length) (h2 : ∀ n ∈ needs, 1 ≤ n ∧ n ≤ V.P.last) :
  (V.change b o y needs).2.1 = V.P.last + 1 ∧ (V.change b o y needs).2.2 = 0 ∧ (V.change b o y needs).1.P.last = V.P.last + 1 ∧ Chd V (V.change b o y needs).1 := by
 have e := add_ok (P := V.P) h1 h2
 unfold VolM.change
 rw [if_neg (by simpa using hb), if_neg (by rw [e]; simp)]
 refine ⟨by rw [e], rfl, by show (V.P.add b o y needs).1.last = _; rw [e], ⟨b, o, y, needs, hb, h1, h2, rfl, by rw [e]⟩⟩
theorem Sl.pre0 {s : TH} {a : Option Addr} {xs : List Value} {τ : Nat} (h : Sl s a xs τ) (m c : Nat) : Sl s (slO a 1 0 (c : Int)) (xs.take m) τ := by
 rcases h with rfl | ⟨g, o, rfl, h1, h2, h3⟩
 ·left; simp
 ·right
  refine ⟨g, o, ?_, h1, h2, fun j v hv => ?_⟩
  ·have := slA_mk g o 1 0 c
   rw [show ((0 : Nat) : Int) = 0 from rfl] at this
   rw [this]; simp
  ·rw [List.getElem?_take] at hv
   split at hv
   ·exact h3 j v hv
   ·cases hv
theorem tmod_rng {a b n : Int} (ha : 0 ≤ a) (hb : 0 < b) (h : n = Int.tmod a b) : 0 ≤ n ∧ n < b := by
 subst h
 rw [Int.tmod_eq_emod_of_nonneg ha]
 exact ⟨Int.emod_nonneg a (by omega), Int.emod_lt_of_pos a hb⟩
end Go.Proofs.YtklppdodadkcnaaGreat.E
namespace Go.Proofs.YtklppdodadkcnaaGreat.E
open Go Go.Proofs
set_option linter.unusedVariables false
set_option linter.unusedSimpArgs false
theorem bvs_set (l : List UInt8) (i : Nat) (b : UInt8) : (bvs l).set i (.int .u8 (b.toNat : Int)) = bvs (l.set i b) := by unfold bvs; rw [List.map_set]; rfl
def wrL (l : List UInt8) (p : Nat) : Nat → Nat → List UInt8
 | 0, _ => l
 | k + 1, n => (wrL l p k n).set (p + k) (UInt8.ofNat (n / 256 ^ k % 256))
theorem wrL_len (l : List UInt8) (p k n : Nat) : (wrL l p k n).length = l.length := by
 induction k with
 | zero => rfl
 | succ k ih => rw [wrL, List.length_set, ih]
theorem u8q (q : Nat) : IntKind.u8.wrap ((q % 256 : Nat) : Int) = ((UInt8.ofNat (q % 256)).toNat : Int) := by
 have e : IntKind.u8.wrap ((q % 256 : Nat) : Int) = ((q % 256 : Nat) : Int) % 256 := rfl
 have e2 : (UInt8.ofNat (q % 256)).toNat = (q % 256) % 256 := rfl
 rw [e, e2]; omega
theorem tm256 (q : Nat) : Int.tmod (q : Int) 256 = ((q % 256 : Nat) : Int) := by
 rw [Int.tmod_eq_emod_of_nonneg (by omega)]; omega
theorem td256 (n k : Nat) : Int.tdiv ((n / 256 ^ k : Nat) : Int) 256 = ((n / 256 ^ (k + 1) : Nat) : Int) := by
 rw [Int.tdiv_eq_ediv_of_nonneg (Int.natCast_nonneg _), Nat.pow_succ, ← Nat.div_div_eq_div_mul]
 generalize n / 256 ^ k = q
 omega
theorem pow_w (w : Nat) (h : 1 ≤ w ∧ w ≤ 4) : IntKind.i64.wrap (1 * 2 ^ min (Int.toNat (8 * (w : Int))) 64) = ((256 ^ w : Nat) : Int) ∧ 256 ^ w ≤ 4294967296 := by
 rcases (by omega : w = 1 ∨ w = 2 ∨ w = 3 ∨ w = 4) with rfl | rfl | rfl | rfl <;> exact ⟨by decide, by decide⟩
def sumS (l : List UInt8) : Nat × Nat := l.foldl (fun z b => ((z.1 + b.toNat) % 65521, (z.2 + (z.1 + b.toNat) % 65521) % 65521)) (1, 0)
def sumN (l : List UInt8) : Nat := (sumS l).2 * 65536 + (sumS l).1
theorem sumS_snoc (l : List UInt8) (b : UInt8) : sumS (l ++ [b]) = (((sumS l).1 + b.toNat) % 65521, ((sumS l).2 + ((sumS l).1 + b.toNat) % 65521) % 65521) := by unfold sumS; rw [List.foldl_append]; rfl
theorem sumS_lt (l : List UInt8) : (sumS l).1 < 65521 ∧ (sumS l).2 < 65521 := by
 rcases List.eq_nil_or_concat l with rfl | ⟨m, b, rfl⟩
 ·exact ⟨by decide, by decide⟩
 ·rw [List.concat_eq_append, sumS_snoc]; exact ⟨Nat.mod_lt _ (by decide), Nat.mod_lt _ (by decide)⟩
theorem bvs_get {l : List UInt8} {k : Nat} {b : UInt8} (h : l[k]? = some b) : (bvs l)[k]? = some (.int .u8 (b.toNat : Int)) := by unfold bvs; rw [List.getElem?_map, h]; rfl
theorem c_rput (τ : Nat) {xa : Option Addr} {xn : Nat} (xc : Nat) {l : List UInt8} {τx : Nat} {s : TH} (hx : Sl s xa (bvs l) τx) (hn : l.length = xn) (h0 : xa = none → xn = 0) (hb : xn ≤ 1000000000) (p w n : Nat) (hw : 1 ≤ w ∧ w ≤ 4) (hp : p + w ≤ xn) (hN : n < 256 ^ w) : TRet Tryz.prog 145 #[.slice xa xn xc, .int .i64 (p : Int), .int .i64 (w : Int), .int .i64 (n : Int)] s fun v s' => ∃ a' c', v = .tuple #[.slice a' xn c', .int .i64 0] ∧ Ch [τ] s s' ∧ Own s' a' xn c' 5 1 (bvs (wrL l p w n)) τ := by
 obtain ⟨M, hM⟩ : ∃ M : Nat, M = 256 ^ w := ⟨_, rfl⟩
 have hpw := pow_w w hw
 rw [← hM] at hN hpw
 refine F145_calls _ _ _ _ _ _  ?_
 unfold F145
 refine jn_u ?_
 refine sB_d (fun g => by exfalso; omega) (fun g => ?_)
 refine sB_d (fun i => by exfalso; omega) (fun i => ?_)
 refine sB_d (fun o => by exfalso; omega) (fun o => ?_)
 refine sB_d (fun r => by exfalso; omega) (fun r => ?_)
 refine wr_t (by omega) (ask_t (by omega) ?_)
 refine nm_a fun H hn63 => ?_
 rw [hpw.1] at hn63
 intro _ _ _ _ _ _ _ _ _ _ _ _ _ _ _ _ _ _ _ _
 refine dBl_i ?_
 refine sB_d (fun t => by exfalso; omega) (fun t => ?_)
 refine wr_t (by omega) ?_
 refine sB_d (fun u => by exfalso; omega) (fun u => ?_)
 refine al_t τ fun I J F C d K => ?_
 have D := hx.mv d (tagn (by simp))
 refine app_i u85 in5 rfl (C.own0 1) D (by rw [bvs_len]; omega) (bvs_one l) h0 (by unfold maxLen; omega) fun b a1 c1 e x hnil => ?_
 have f := x.toL rfl
 have L := f.size
 rw [Nat.zero_add, List.nil_append] at e
 simp only [Nat.zero_add]
 refine dSl_i ?_
 refine ⟨fun vs H' => ∃ s' : TH, s'.h = H' ∧ ∃ m j, vs = [.int .i64 m, .int .i64 j] ∧ ChL [τ] [] b s' ∧ (∃ k : Nat, j = k ∧ k ≤ w ∧ m = ((n / 256 ^ k : Nat) : Int) ∧ Own s' a1 xn c1 5 1 (bvs (wrL l p k n)) τ), fun vs H' => match vs with | [.int .i64 m, .int .i64 j] => ((w : Int) - j).toNat | _ => 0, ⟨b, rfl, _, _, rfl, ChL.refl _ _ _, ?_⟩, ?_⟩
 ·
  exact ⟨0, rfl, by omega, by simp, e⟩
 ·
  intro m j _ _ _ _ _ _ _ _ _ _ _ _ _ _ N hI
  obtain ⟨O, rfl, m_, j_, hvs, c, k, rfl, hk, rfl, a⟩ := hI
  cases hvs
  have P := c.size
  refine sB_d (fun y => ?_) (fun y => ?_)
  ·
   refine wr_t (by omega) (ask_t (by omega) ?_)
   rw [tm256]
   refine nm_a fun Q hn55 => ?_
   subst hn55
   refine wr_a fun R hn56 => ?_
   rw [u8q] at hn56
   subst hn56
   obtain ⟨ad, rfl⟩ := Own.ne_none a (by omega)
   refine nz_i (ask_t (by omega) ?_)
   refine Own.st a rfl (by omega) fun E z A G => ?_
   have B := Ch.on_tag (T := [τ]) (Ch.refl _ _) A a.tagOf (by simp)
   refine ask_t (by omega) ?_
   have hle : n / 256 ^ (k + 1) ≤ n := Nat.div_le_self _ _
   obtain ⟨q, hq⟩ : ∃ q, q = n / 256 ^ (k + 1) := ⟨_, rfl⟩
   rw [td256, ← hq]
   rw [← hq] at hle
   refine wr_t (by omega) (wr_t (by omega) ?_)
   refine ⟨⟨E, rfl, _, _, rfl, (((ChL.refl [τ] [] b).chl c (by simp) (by simp <;> omega)).ch B (by simp)), ?_⟩, ?_⟩
   ·
    have ho := z
    rw [show Int.toNat ((p : Int) + (k : Int)) * 1 = p + k by omega, bvs_set] at ho
    exact ⟨k + 1, by omega, by omega, by rw [hq], ho⟩
   ·
    simp only []; omega
  ·
   refine ret_t ?_
   obtain rfl : k = w := by omega
   exact ⟨a1, c1, rfl, ((((Ch.refl [τ] s).ch d (by simp)).chl f (by simp) (by simp <;> omega)).chl c (by simp) (by simp <;> omega)), a⟩
theorem c_rnum (τ : Nat) {xa : Option Addr} {xn : Nat} (xc : Nat) {l : List UInt8} {τx : Nat} {s : TH} (hx : Sl s xa (bvs l) τx) (hn : l.length = xn) (h0 : xa = none → xn = 0) (hb : xn ≤ 1000000000) (p w n : Nat) (hw : 1 ≤ w ∧ w ≤ 4) (hp : p + w ≤ xn) (hN : n < 256 ^ w) : TRet Tryz.prog 81 #[.slice xa xn xc, .int .i64 (p : Int), .int .i64 (w : Int), .int .i64 (n : Int)] s fun v s' => ∃ a' c', v = .slice a' xn c' ∧ Ch [τ] s s' ∧ Own s' a' xn c' 5 1 (bvs (wrL l p w n)) τ := by
 refine F81_calls _ _ _ _ _ _  ?_
 unfold F81
 refine tcall (c_rput τ xc hx hn h0 hb p w n hw hp hN) ?_
 rintro _ s2 ⟨a', c', rfl, a, b⟩
 have c := a.size
 refine dT2 (dSl_i (dInt_i ?_))
 refine ret_t ?_
 exact ⟨a', c', rfl, ((Ch.refl [τ] s).ch a (by simp)), b⟩
theorem c_rsum {xa : Option Addr} {xn : Nat} (xc : Nat) {l : List UInt8} {τx : Nat} {s : TH} (hx : Sl s xa (bvs l) τx) (hn : l.length = xn) (hb : xn ≤ 1000000000) : TRet Tryz.prog 146 #[.slice xa xn xc] s fun v s' => v = .int .i64 (sumN l : Int) ∧ Ch [] s s' := by
 refine F146_calls _ _ _  ?_
 unfold F146
 refine ⟨fun vs H' => ∃ s' : TH, s'.h = H' ∧ ∃ x1 y1 m, vs = [.int .i64 x1, .int .i64 y1, .int .i64 m] ∧ ChL [] [] s s' ∧ (∃ k : Nat, m = k ∧ k ≤ xn ∧ x1 = ((sumS (l.take k)).1 : Int) ∧ y1 = ((sumS (l.take k)).2 : Int)), fun vs H' => match vs with | [.int .i64 x1, .int .i64 y1, .int .i64 m] => ((xn : Int) - m).toNat | _ => 0, ⟨s, rfl, _, _, _, rfl, ChL.refl _ _ _, ?_⟩, ?_⟩
 ·
  exact ⟨0, rfl, by omega, rfl, rfl⟩
 ·
  intro x1 y1 m _ _ _ _ _ _ _ _ _ _ _ _ _ _ g hI
  obtain ⟨d, rfl, x1_, y1_, m_, hvs, a, k, rfl, hk, rfl, rfl⟩ := hI
  cases hvs
  have i := a.size
  refine sB_d (fun c => ?_) (fun c => ?_)
  ·
   have hk2 : k < xn := by omega
   obtain ⟨b, hbk⟩ : ∃ b, l[k]? = some b := ⟨l[k]'(by omega), by simp⟩
   obtain ⟨ad, rfl⟩ := hx.some (fun e => by have := bvs_get hbk; rw [e] at this; simp at this)
   have hlt := sumS_lt (l.take k)
   have hb8 := b.toNat_lt
   refine nz_i (ask_t (by omega) ?_)
   have f := hx.mv a (tagL (by simp <;> omega) (by simp))
   refine ld_sl f (by rw [Int.toNat_natCast, Nat.mul_one]; exact bvs_get hbk) ?_
   refine dInt_i (wr_t (by omega) (wr_t (by omega) (ask_t (by omega) ?_)))
   refine nm_a fun j hn27 => ?_
   rw [Int.tmod_eq_emod_of_nonneg (by omega)] at hn27
   refine wr_t (by omega) (ask_t (by omega) ?_)
   refine nm_a fun n hn29 => ?_
   rw [Int.tmod_eq_emod_of_nonneg (by omega)] at hn29
   refine wr_t (by omega) ?_
   refine ⟨⟨d, rfl, _, _, _, rfl, ((ChL.refl [] [] s).chl a (by simp) (by simp <;> omega)), ?_⟩, ?_⟩
   ·
    have hs := sumS_snoc (l.take k) b
    rw [show l.take k ++ [b] = l.take (k + 1) by rw [List.take_add_one, hbk]; rfl] at hs
    exact ⟨k + 1, by omega, by omega, by rw [hs]; simp only []; omega, by rw [hs]; simp only []; omega⟩
   ·
    simp only []; omega
  ·
   have hlt := sumS_lt (l.take k)
   refine wr_t (by omega) (wr_t (by omega) ?_)
   refine ret_t ?_
   obtain rfl : k = xn := by omega
   rw [List.take_of_length_le (by omega)]
   exact ⟨ret_i (by unfold sumN; omega), ((Ch.refl [] s).chl a (by simp) (by simp <;> omega))⟩
theorem Sl.takeB {s : TH} {a : Option Addr} {l : List UInt8} {τ : Nat} (h : Sl s a (bvs l) τ) (k : Nat) : Sl s a (bvs (l.take k)) τ := by
 rcases h with h | ⟨g, o, h1, h2, h3, h4⟩
 ·left
  have : l = [] := by simpa [bvs] using h
  subst this; simp [bvs]
 ·refine .inr ⟨g, o, h1, h2, h3, fun j v hv => h4 j v ?_⟩
  unfold bvs at hv ⊢
  rw [List.map_take, List.getElem?_take] at hv
  split at hv
  ·exact hv
  ·cases hv
def sealL (l : List UInt8) : List UInt8 := wrL l (l.length - 4) 4 (sumN (l.take (l.length - 4)))
theorem sealL_len (l : List UInt8) : (sealL l).length = l.length := wrL_len _ _ _ _
theorem sumN_lt (l : List UInt8) : sumN l < 256 ^ 4 := by
 have := sumS_lt l
 unfold sumN
 omega
def superBase : List UInt8 := [98, 111, 108, 108] ++ List.replicate 124 0
def superL (g b n m : Nat) : List UInt8 := sealL (wrL (wrL (wrL (wrL superBase 4 1 g) 5 1 (b - 1)) 6 1 n) 8 4 m)
theorem superL_len (g b n m : Nat) : (superL g b n m).length = 128 := by unfold superL; rw [sealL_len, wrL_len, wrL_len, wrL_len, wrL_len]; rfl
def GeoOk (g b n : Nat) : Prop := 1 ≤ g ∧ g ≤ 8 ∧ 8 ≤ b ∧ b ≤ 256 ∧ 4 ≤ n ∧ n ≤ 64 ∧ n % 4 = 0 ∧ 3 + n / 4 ≤ b
theorem c_rseal (τ : Nat) {xa : Option Addr} {xn : Nat} (xc : Nat) {l : List UInt8} {τx : Nat} {s : TH} (hx : Sl s xa (bvs l) τx) (hn : l.length = xn) (h0 : xa = none → xn = 0) (hb : xn ≤ 1000000000) (hc : xn ≤ xc) (h4 : 4 ≤ xn) : TRet Tryz.prog 82 #[.slice xa xn xc] s fun v s' => ∃ a' c', v = .tuple #[.slice a' xn c', .int .i64 0] ∧ Ch [τ] s s' ∧ Own s' a' xn c' 5 1 (bvs (sealL l)) τ := by
 refine F82_calls _ _ _  ?_
 unfold F82
 refine sB_d (fun c => by exfalso; omega) (fun c => ?_)
 refine wr_t (by omega) ?_
 rw [show ((xn : Int) - 4) = ((xn - 4 : Nat) : Int) by omega]
 refine wr_t (by omega) (ask_t (by omega) ?_)
 simp only [slO_zero, Int.toNat_zero, Nat.sub_zero, Int.toNat_natCast]
 refine tcall (c_rsum (xn := xn - 4) xc (hx.takeB (xn - 4)) (by simp; omega) (by omega)) ?_
 rintro _ s4 ⟨rfl, a⟩
 have f := a.size
 refine dInt_i ?_
 have d := hx.mv a (tagn (by simp))
 refine tcall (c_rput τ xc d hn h0 hb (xn - 4) 4 (sumN (l.take (xn - 4))) (by omega) (by omega) (sumN_lt _)) ?_
 rintro _ s7 ⟨a', c', rfl, b, e⟩
 have g := b.size
 refine dT2 (dSl_i (dInt_i ?_))
 refine ret_t ?_
 exact ⟨a', c', rfl, (((Ch.refl [τ] s).ch a (by simp)).ch b (by simp)), by unfold sealL; rw [hn]; exact e⟩
theorem c_rmay (g b n : Nat) {s : TH} (hv : GeoOk g b n) : TRet Tryz.prog 158 #[.agg #[.int .i64 (g : Int), .int .i64 (b : Int), .int .i64 (n : Int)]] s fun v s' => v = .bool true ∧ Ch [] s s' := by
 have hv2 := hv
 unfold GeoOk at hv2
 refine F158_calls _ _ _  ?_
 unfold F158
 refine al_t 0 fun r1 s2 l a k m => ?_
 refine ld_t a rfl (dInt_i ?_)
 refine sB_d (fun c => ?_) (fun c => by exfalso; omega)
 refine ld_t a rfl (dInt_i ?_)
 refine sB_d (fun d => ?_) (fun d => by exfalso; omega)
 refine ld_t a rfl (dInt_i ?_)
 refine sB_d (fun e => ?_) (fun e => by exfalso; omega)
 refine ld_t a rfl (dInt_i ?_)
 refine sB_d (fun f => ?_) (fun f => by exfalso; omega)
 refine ld_t a rfl (dInt_i ?_)
 refine sB_d (fun h => ?_) (fun h => by exfalso; omega)
 refine ld_t a rfl (dInt_i ?_)
 refine sB_d (fun i => ?_) (fun i => by exfalso; omega)
 refine ld_t a rfl (dInt_i (ask_t (by omega) ?_))
 refine nm_a fun o hn17 => ?_
 rw [Int.tmod_eq_emod_of_nonneg (by omega)] at hn17
 refine sB_eq (fun j => ?_) (fun j => by exfalso; omega)
 refine ld_t a rfl (dInt_i (ld_t a rfl (dInt_i (ask_t (by omega) ?_))))
 rw [Int.tdiv_eq_ediv_of_nonneg (by omega)]
 refine wr_t (by omega) (wr_t (by omega) ?_)
 refine ret_t ?_
 exact ⟨ret_b (by simp; omega), ((Ch.refl [] s).ch k (by simp))⟩
theorem c_encSuper (τ : Nat) (g b n m : Nat) {s : TH} (hτ : τ ≠ 0) (hv : GeoOk g b n) (hm : m < 4294967296) : TRet Tryz.prog 110 #[.agg #[.int .i64 (g : Int), .int .i64 (b : Int), .int .i64 (n : Int), .int .i64 (m : Int)]] s fun v s' => ∃ a' c', v = .tuple #[.slice a' 128 c', .int .i64 0] ∧ Ch [τ] s s' ∧ Own s' a' 128 c' 5 1 (bvs (superL g b n m)) τ := by
 have hv2 := hv
 unfold GeoOk at hv2
 refine F110_calls _ _ _ _  ?_
 unfold F110
 refine al_t 0 fun r1 s2 S j A T => ?_
 refine jn_u ?_
 refine ld_t j rfl (ld_t j rfl (ld_t j rfl ?_))
 refine tcall (c_rmay g b n hv) ?_
 rintro _ U ⟨rfl, k⟩
 have V := k.size
 refine dBl_i (sB_f (by rfl) ?_)
 have r1_6 := j.ch k (by simp)
 refine ld_t r1_6 rfl (dInt_i ?_)
 refine sB_d (fun x => by exfalso; omega) (fun x => ?_)
 refine ld_t r1_6 rfl (dInt_i ?_)
 intro _ _ _ _ _ _ _ _ _ _ _ _ _
 refine dBl_i ?_
 refine sB_d (fun y => by exfalso; omega) (fun y => ?_)
 refine al_t 0 fun W X K B w Y => ?_
 refine conv_lit u85 u5 (show Blk _ _ (bvs [98, 111, 108, 108]) _ _ from B) rfl fun Z l a hsz => ?_
 have L := a.size
 refine dSl_i ?_
 refine appz_g (m := 124) τ u85 u3 in5 l rfl (by omega) (by omega) fun aa a2 c2 o c hne => ?_
 have M := c.size
 refine dSl_i ?_
 have r1_16 := r1_6.ch w (by simp)
 have r1_17 := r1_16.on a (by omega)
 have r1_18 := r1_17.ch c (by simp)
 refine ld_t r1_18 rfl (dInt_i ?_)
 refine tcall (c_rnum τ _ o.sl (by simp [wrL_len, superBase]) o.none_iff (by omega) 4 1 g (by omega) (by omega) (by unfold GeoOk at hv; omega)) ?_
 rintro _ ab ⟨C, D, rfl, d, p⟩
 have N := d.size
 refine dSl_i ?_
 have r1_22 := r1_18.ch d (by intro h; simp only [List.mem_cons, List.not_mem_nil, or_false] at h <;> omega)
 refine ld_t r1_22 rfl (dInt_i (wr_t (by omega) ?_))
 rw [show ((b : Int) - 1) = ((b - 1 : Nat) : Int) by omega]
 refine tcall (c_rnum τ _ p.sl (by simp [wrL_len, superBase]) p.none_iff (by omega) 5 1 (b - 1) (by omega) (by omega) (by unfold GeoOk at hv; omega)) ?_
 rintro _ ac ⟨E, F, rfl, e, q⟩
 have O := e.size
 refine dSl_i ?_
 have r1_26 := r1_22.ch e (by intro h; simp only [List.mem_cons, List.not_mem_nil, or_false] at h <;> omega)
 refine ld_t r1_26 rfl (dInt_i ?_)
 refine tcall (c_rnum τ _ q.sl (by simp [wrL_len, superBase]) q.none_iff (by omega) 6 1 n (by omega) (by omega) (by unfold GeoOk at hv; omega)) ?_
 rintro _ ad ⟨G, H, rfl, f, r⟩
 have P := f.size
 refine dSl_i ?_
 have r1_30 := r1_26.ch f (by intro h; simp only [List.mem_cons, List.not_mem_nil, or_false] at h <;> omega)
 refine ld_t r1_30 rfl (dInt_i ?_)
 refine tcall (c_rnum τ _ r.sl (by simp [wrL_len, superBase]) r.none_iff (by omega) 8 4 m (by omega) (by omega) (by omega)) ?_
 rintro _ ae ⟨I, J, rfl, t, i⟩
 have Q := t.size
 refine dSl_i ?_
 refine tcall (c_rseal τ _ i.sl (by simp [wrL_len, superBase]) i.none_iff (by omega) i.le (by omega)) ?_
 rintro _ af ⟨a6, c6, rfl, u, z⟩
 have R := u.size
 refine dT2 (dSl_i (dInt_i ?_))
 refine ret_t ?_
 exact ⟨a6, c6, rfl, (((((((((((Ch.refl [τ] s).ch A (by simp)).ch k (by simp)).ch w (by simp)).on_new a (by omega)).ch c (by simp)).ch d (by simp)).ch e (by simp)).ch f (by simp)).ch t (by simp)).ch u (by simp)), z⟩
end Go.Proofs.YtklppdodadkcnaaGreat.E
namespace Go.Proofs.YtklppdodadkcnaaGreat.E
open Go Go.Proofs
set_option linter.unusedVariables false
set_option linter.unusedSimpArgs false
def hasB (l : List UInt8) (i : Nat) : Bool := ((l.getD (i / 8) 0).toNat / 2 ^ (i % 8)) % 2 == 1
def xorB (b : UInt8) (k : Nat) : UInt8 := UInt8.ofBitVec (b.toBitVec ^^^ BitVec.ofNat 8 (2 ^ k))
def setB (l : List UInt8) (i : Nat) : List UInt8 := if hasB l i = true then l else l.set (i / 8) (xorB (l.getD (i / 8) 0) (i % 8))
theorem setB_len (l : List UInt8) (i : Nat) : (setB l i).length = l.length := by unfold setB; split <;> simp
theorem td8 (i : Nat) : Int.tdiv (i : Int) 8 = ((i / 8 : Nat) : Int) := by rw [Int.tdiv_eq_ediv_of_nonneg (by omega)]; omega
theorem tm8 (i : Nat) : Int.tmod (i : Int) 8 = ((i % 8 : Nat) : Int) := by rw [Int.tmod_eq_emod_of_nonneg (by omega)]; omega
theorem shr8 (b k : Nat) (hk : k < 8) : Int.fdiv (b : Int) (2 ^ min (Int.toNat (k : Int)) 8) = ((b / 2 ^ k : Nat) : Int) := by
 rw [Int.toNat_natCast, Nat.min_eq_left (by omega), Int.fdiv_eq_ediv_of_nonneg _ (by exact Int.le_of_lt (Int.pow_pos (by omega)))]
 rw [Int.natCast_ediv, Int.natCast_pow]; rfl
theorem tm2 (q : Nat) : Int.tmod (q : Int) 2 = ((q % 2 : Nat) : Int) := by rw [Int.tmod_eq_emod_of_nonneg (by omega)]; omega
theorem shl8 (k : Nat) (hk : k < 8) : IntKind.u8.wrap (1 * 2 ^ min (Int.toNat (k : Int)) 8) = ((2 ^ k : Nat) : Int) := by
 rcases (by omega : k = 0 ∨ k = 1 ∨ k = 2 ∨ k = 3 ∨ k = 4 ∨ k = 5 ∨ k = 6 ∨ k = 7) with rfl | rfl | rfl | rfl | rfl | rfl | rfl | rfl <;> decide
theorem xor8 (b : UInt8) (k : Nat) : IntKind.u8.wrap (BitVec.toNat (BitVec.ofInt 8 (b.toNat : Int) ^^^ BitVec.ofInt 8 ((2 ^ k : Nat) : Int)) : Int) = ((xorB b k).toNat : Int) := by
 have e1 : BitVec.ofInt 8 (b.toNat : Int) = b.toBitVec := by
  rw [BitVec.ofInt_natCast]; simp
 have e2 : BitVec.ofInt 8 ((2 ^ k : Nat) : Int) = BitVec.ofNat 8 (2 ^ k) := BitVec.ofInt_natCast 8 (2 ^ k)
 rw [e1, e2]
 show (_ : Int) % 256 = _
 have := (b.toBitVec ^^^ BitVec.ofNat 8 (2 ^ k)).isLt
 unfold xorB
 show ((BitVec.toNat (b.toBitVec ^^^ BitVec.ofNat 8 (2 ^ k)) : Nat) : Int) % 256 = ((BitVec.toNat (b.toBitVec ^^^ BitVec.ofNat 8 (2 ^ k)) : Nat) : Int)
 omega
theorem c_rhasb {xa : Option Addr} {xn : Nat} (xc : Nat) {l : List UInt8} {τx : Nat} {s : TH} (hx : Sl s xa (bvs l) τx) (hn : l.length = xn) (i : Nat) (hi : i ≤ 100000000000) : TRet Tryz.prog 159 #[.slice xa xn xc, .int .i64 (i : Int)] s fun v s' => v = .bool (hasB l i) ∧ Ch [] s s' := by
 refine F159_calls _ _ _ _  ?_
 unfold F159
 refine sB_d (fun a => ?_) (fun a => by exfalso; omega)
 refine ask_t (by omega) ?_
 try rw [td8]
 refine wr_t (by omega) ?_
 refine sB_d (fun c => ?_) (fun c => ?_)
 ·
  refine ask_t (by omega) ?_
  try rw [td8]
  refine wr_t (by omega) ?_
  obtain ⟨b, hbk⟩ : ∃ b, l[i / 8]? = some b := ⟨l[i / 8]'(by omega), by simp⟩
  have hgd : l.getD (i / 8) 0 = b := by rw [List.getD_eq_getElem?_getD, hbk]; rfl
  obtain ⟨ad, rfl⟩ := hx.some (fun e => by have := bvs_get hbk; rw [e] at this; simp at this)
  refine nz_i (ask_t (by omega) ?_)
  refine ld_sl hx (by rw [Int.toNat_natCast, Nat.mul_one]; exact bvs_get hbk) ?_
  refine dInt_i (ask_t (by omega) ?_)
  rw [tm8]
  refine nm_t rfl ?_
  refine ask_t (by omega) ?_
  rw [shr8 _ _ (by omega)]
  refine nm_t rfl ?_
  refine ask_t (by omega) ?_
  rw [tm2]
  refine nm_t rfl ?_
  refine ret_t ?_
  exact ⟨ret_b (by unfold hasB; rw [hgd]; apply Bool.eq_iff_iff.2; simp only [beq_iff_eq]; omega), (Ch.refl [] s)⟩
 ·
  refine ret_t ?_
  exact ⟨ret_b (by unfold hasB; rw [List.getD_eq_getElem?_getD, List.getElem?_eq_none (by omega)]; simp), (Ch.refl [] s)⟩
theorem c_rwith (τ : Nat) {xa : Option Addr} {xn : Nat} (xc : Nat) {l : List UInt8} {τx : Nat} {s : TH} (hx : Sl s xa (bvs l) τx) (hn : l.length = xn) (h0 : xa = none → xn = 0) (hb : xn ≤ 1000000000) (i : Nat) (hi : i / 8 < xn) (hne : τx ≠ τ) : TRet Tryz.prog 111 #[.slice xa xn xc, .int .i64 (i : Int), .bool true] s fun v s' => ∃ a' c', v = .tuple #[.slice a' xn c', .int .i64 0] ∧ Ch [τ] s s' ∧ Own s' a' xn c' 5 1 (bvs (setB l i)) τ := by
 refine F111_calls _ _ _ _ _  ?_
 unfold F111
 refine jn_u ?_
 refine sB_d (fun k => by exfalso; omega) (fun k => ?_)
 refine ask_t (by omega) ?_
 try rw [td8]
 refine wr_t (by omega) ?_
 intro _ _ _ _ _ _ _ _
 refine dBl_i ?_
 refine sB_d (fun m => by exfalso; omega) (fun m => ?_)
 refine al_t τ fun z A w h f B => ?_
 have j := hx.mv f (tagn (by simp))
 refine app_i u85 in5 rfl (h.own0 1) j (by rw [bvs_len]; omega) (bvs_one l) h0 (by unfold maxLen; omega) fun C a1 c1 g n hnil => ?_
 have e := n.toL rfl
 have D := e.size
 rw [Nat.zero_add, List.nil_append] at g
 simp only [Nat.zero_add]
 refine dSl_i ?_
 refine jn_u ?_
 have u := j.mv e (tagL (by simp <;> omega) (by intro r hr; simp only [List.mem_cons, List.not_mem_nil, or_false] at hr; rcases hr with rfl <;> first | (rw [h.tag]; simp <;> omega)))
 refine tcall (c_rhasb xc u hn i (by omega)) ?_
 rintro _ E ⟨rfl, d⟩
 have x := d.size
 refine dBl_i ?_
 first | refine sB_d (fun a => ?_) (fun a => ?_) | refine sB_nd (fun a => ?_) (fun a => ?_) | refine sB_n (fun a => ?_) (fun a => ?_) | refine sB_i (fun a => ?_) (fun a => ?_)
 ·
  refine ask_t (by omega) ?_
  try rw [td8]
  refine wr_t (by omega) (ask_t (by omega) ?_)
  try rw [td8]
  refine wr_t (by omega) ?_
  have c := g.mv d (tagn (by simp))
  have hnh : hasB l i = false := by simpa using a
  obtain ⟨b, hbk⟩ : ∃ b, l[i / 8]? = some b := ⟨l[i / 8]'(by omega), by simp⟩
  have hgd : l.getD (i / 8) 0 = b := by rw [List.getD_eq_getElem?_getD, hbk]; rfl
  obtain ⟨ad, rfl⟩ := Own.ne_none c (by omega)
  refine nz_i (ask_t (by omega) ?_)
  refine ld_sl (c.sl) (by rw [Int.toNat_natCast, Nat.mul_one]; exact bvs_get hbk) ?_
  refine dInt_i (ask_t (by omega) ?_)
  rw [tm8]
  refine nm_t rfl ?_
  refine ask_t (by omega) ?_
  rw [shl8 _ (by omega)]
  refine nm_t rfl ?_
  rw [xor8]
  refine nm_t rfl ?_
  refine nz_i (ask_t (by omega) ?_)
  refine Own.st c rfl (by omega) fun F o p y => ?_
  have q := Ch.on_tag (T := [τ]) (Ch.refl _ _) p c.tagOf (by simp)
  intro _ _ _ _ _ _ _ _ _ _ _ _ _ _ _ _ _ _
  refine ret_t ?_
  have ho := o
  rw [show Int.toNat ((i / 8 : Nat) : Int) * 1 = i / 8 by omega, bvs_set] at ho
  exact ⟨_, c1, rfl, (((((Ch.refl [τ] s).ch f (by simp)).chl e (by simp) (by simp <;> omega)).ch d (by simp)).ch q (by simp)), by unfold setB; rw [if_neg (by simp [hnh]), hgd]; exact ho⟩
 ·
  intro _ _ _ _ _ _ _ _ _ _ _ _ _ _ _ _ _ _
  refine ret_t ?_
  have t := g.mv d (tagn (by simp))
  have hh : hasB l i = true := by simpa using a
  exact ⟨a1, c1, rfl, ((((Ch.refl [τ] s).ch f (by simp)).chl e (by simp) (by simp <;> omega)).ch d (by simp)), by unfold setB; rw [if_pos hh]; exact t⟩
end Go.Proofs.YtklppdodadkcnaaGreat.E
namespace Go.Proofs.YtklppdodadkcnaaGreat.E
open Go Go.Proofs
set_option linter.unusedVariables false
set_option linter.unusedSimpArgs false
theorem rowZ_by (n : Nat) : rowZ [.int .u8 0] n = bvs (List.replicate n 0) := by
 induction n with
 | zero => rfl
 | succ n ih => rw [List.replicate_succ, bvs, List.map_cons, ← bvs, ← ih]; rfl
def DinOk (m l z : Nat) (d0 d1 d2 d3 e1 e2 : Nat) : Prop := (m = 1 ∨ m = 2) ∧ l ≤ 1000 ∧ z ≤ 532992 ∧ d0 < 2048 ∧ d1 < 2048 ∧ d2 < 2048 ∧ d3 < 2048 ∧ e1 < 2048 ∧ e2 < 2048 ∧ (m = 2 → z % 128 = 0)
def dirL (l : List UInt8) (d : List Nat) : Nat → List UInt8
 | 0 => l
 | k + 1 => wrL (dirL l d k) (8 + 2 * k) 2 (d.getD k 0)
theorem dirL_len (l : List UInt8) (d : List Nat) (k : Nat) : (dirL l d k).length = l.length := by
 induction k with
 | zero => rfl
 | succ k ih => rw [dirL, wrL_len, ih]
def dinL (m l z d0 d1 d2 d3 e1 e2 : Nat) : List UInt8 :=
 sealL (wrL (wrL (dirL (wrL (wrL (wrL (List.replicate 32 0) 0 1 m) 2 2 l) 4 4 z) [d0, d1, d2, d3] 4) 16 2 e1) 18 2 e2)
theorem dinL_len (m l z d0 d1 d2 d3 e1 e2 : Nat) : (dinL m l z d0 d1 d2 d3 e1 e2).length = 32 := by unfold dinL; rw [sealL_len, wrL_len, wrL_len, dirL_len, wrL_len, wrL_len, wrL_len]; simp
theorem c_raddr (n : Nat) {s : TH} : TRet Tryz.prog 144 #[.int .i64 (n : Int)] s fun v s' => v = .bool (decide (n < 2048)) ∧ Ch [] s s' := by
 refine F144_calls _  ?_
 unfold F144
 refine sB_d (fun a => ?_) (fun a => by exfalso; omega)
 refine ret_t ?_
 exact ⟨ret_b (by apply Bool.eq_iff_iff.2; simp only [decide_eq_true_eq]; omega), (Ch.refl [] s)⟩
theorem c_rmayd (m l z d0 d1 d2 d3 e1 e2 : Nat) {s : TH} (hv : DinOk m l z d0 d1 d2 d3 e1 e2) : TRet Tryz.prog 80 #[.agg #[.int .i64 (m : Int), .int .i64 (l : Int), .int .i64 (z : Int), .int .i64 (d0 : Int), .int .i64 (d1 : Int), .int .i64 (d2 : Int), .int .i64 (d3 : Int), .int .i64 (e1 : Int), .int .i64 (e2 : Int)]] s fun v s' => v = .bool true ∧ Ch [] s s' := by
 have hv2 := hv
 unfold DinOk at hv2
 refine F80_calls _ _ _ _ _ _ _ _ _  ?_
 unfold F80
 refine al_t 0 fun r1 s2 F a q G => ?_
 refine ld_t a rfl (dInt_i ?_)
 refine sB_eq (fun u => by exfalso; omega) (fun u => ?_)
 refine jn1 (fun r s' => ChL [] [] s2 s' ∧ (r = Value.bool false)) ?_ ?_
 ·
  rintro r f ⟨e, rfl⟩
  have H := e.size
  intro _ _ _ _ _ _ _ _ _ _ _ _ _ _ _ _ _ _ _ _ _ _ _ _ _ _ _
  refine dBl_i (sB_f (by rfl) ?_)
  have r1_6 := a.chl e (by simp <;> omega) (by simp <;> omega)
  refine ld_t r1_6 rfl (ld_t r1_6 rfl (ld_t r1_6 rfl (ld_t r1_6 rfl ?_)))
  refine ⟨fun vs H' => ∃ s' : TH, s'.h = H' ∧ ∃ i0, vs = [.int .i64 i0] ∧ ChL [] [] f s' ∧ (∃ k : Nat, i0 = k ∧ k ≤ 4), fun vs H' => match vs with | [.int .i64 i0] => (4 - i0).toNat | _ => 0, ⟨f, rfl, _, rfl, ChL.refl _ _ _, ?_⟩, ?_⟩
  ·
   exact ⟨0, rfl, by omega⟩
  ·
   intro i0 _ _ _ _ _ _ _ _ I hI
   obtain ⟨J, rfl, i0_, hvs, d, k, rfl, hk⟩ := hI
   cases hvs
   have K := d.size
   refine sB_d (fun w => ?_) (fun w => ?_)
   ·
    refine ask_t (by omega) ?_
    obtain ⟨dk, hdk, hgk, hdl⟩ : ∃ dk : Nat, ([Value.int .i64 (d0 : Int), .int .i64 (d1 : Int), .int .i64 (d2 : Int), .int .i64 (d3 : Int)] : List Value)[Int.toNat (k : Int) * 1]? = some (.int .i64 (dk : Int)) ∧ [d0, d1, d2, d3].getD k 0 = dk ∧ dk < 2048 := by rcases (by omega : k = 0 ∨ k = 1 ∨ k = 2 ∨ k = 3) with rfl | rfl | rfl | rfl <;> first | exact ⟨d0, rfl, rfl, by omega⟩ | exact ⟨d1, rfl, rfl, by omega⟩ | exact ⟨d2, rfl, rfl, by omega⟩ | exact ⟨d3, rfl, rfl, by omega⟩
    refine oV_i hdk ?_
    refine dInt_i ?_
    refine tcall (c_raddr dk) ?_
    rintro _ B ⟨rfl, t⟩
    have C := t.size
    refine dBl_i ?_
    refine sB_f (by simp [hdl]) ?_
    refine wr_t (by omega) ?_
    refine ⟨⟨B, rfl, _, rfl, (((ChL.refl [] [] f).chl d (by simp) (by simp <;> omega)).ch t (by simp)), ?_⟩, ?_⟩
    ·
     exact ⟨k + 1, by omega, by omega⟩
    ·
     simp only []; omega
   ·
    have r1_11 := r1_6.chl d (by simp <;> omega) (by simp <;> omega)
    refine ld_t r1_11 rfl (dInt_i ?_)
    refine tcall (c_raddr e1) ?_
    rintro _ L ⟨rfl, b⟩
    have D := b.size
    refine dBl_i ?_
    refine sB_t (by simp; omega) ?_
    have r1_14 := r1_11.ch b (by simp)
    refine ld_t r1_14 rfl (dInt_i ?_)
    refine tcall (c_raddr e2) ?_
    rintro _ M ⟨rfl, c⟩
    have E := c.size
    refine dBl_i ?_
    refine sB_t (by simp; omega) ?_
    have r1_17 := r1_14.ch c (by simp)
    refine ld_t r1_17 rfl (dInt_i ?_)
    refine sB_ne (fun x => ?_) (fun x => ?_)
    ·
     refine ret_t ?_
     exact ⟨ret_b (by first | rfl | (have hz := hv2.2.2.2.2.2.2.2.2.2 (by omega); exact beq_iff_eq.2 (by omega))), ((((((Ch.refl [] s).ch q (by simp)).chl e (by simp) (by simp <;> omega)).chl d (by simp) (by simp <;> omega)).ch b (by simp)).ch c (by simp))⟩
    ·
     refine ld_t r1_17 rfl (dInt_i (ask_t (by omega) ?_))
     refine nm_a fun N hn88 => ?_
     rw [Int.tmod_eq_emod_of_nonneg (by omega)] at hn88
     refine ret_t ?_
     exact ⟨ret_b (by first | rfl | (have hz := hv2.2.2.2.2.2.2.2.2.2 (by omega); exact beq_iff_eq.2 (by omega))), ((((((Ch.refl [] s).ch q (by simp)).chl e (by simp) (by simp <;> omega)).chl d (by simp) (by simp <;> omega)).ch b (by simp)).ch c (by simp))⟩
 ·
  intro k93 hk93
  refine ld_t a rfl (dInt_i ?_)
  refine sB_ne (fun y => ?_) (fun y => ?_)
  ·
   refine ld_t a rfl (dInt_i ?_)
   refine sB_ne (fun A => by exfalso; omega) (fun A => ?_)
   refine ld_t a rfl (dInt_i ?_)
   refine sB_d (fun g => by exfalso; omega) (fun g => ?_)
   refine ld_t a rfl (dInt_i ?_)
   refine sB_d (fun i => by exfalso; omega) (fun i => ?_)
   refine ld_t a rfl (dInt_i ?_)
   refine sB_d (fun j => by exfalso; omega) (fun j => ?_)
   refine ld_t a rfl (dInt_i ?_)
   refine hk93 _ _ ⟨(ChL.refl [] [] s2), ?_⟩
   exact congrArg Value.bool (by simp; omega)
  ·
   refine ld_t a rfl (dInt_i ?_)
   refine sB_d (fun n => by exfalso; omega) (fun n => ?_)
   refine ld_t a rfl (dInt_i ?_)
   refine sB_d (fun o => by exfalso; omega) (fun o => ?_)
   refine ld_t a rfl (dInt_i ?_)
   refine sB_d (fun p => by exfalso; omega) (fun p => ?_)
   refine ld_t a rfl (dInt_i ?_)
   refine hk93 _ _ ⟨(ChL.refl [] [] s2), ?_⟩
   exact congrArg Value.bool (by simp; omega)
theorem c_encDin (τ : Nat) (m l z d0 d1 d2 d3 e1 e2 : Nat) {s : TH} (hτ : τ ≠ 0) (hv : DinOk m l z d0 d1 d2 d3 e1 e2) : TRet Tryz.prog 29 #[.agg #[.int .i64 (m : Int), .int .i64 (l : Int), .int .i64 (z : Int), .int .i64 (d0 : Int), .int .i64 (d1 : Int), .int .i64 (d2 : Int), .int .i64 (d3 : Int), .int .i64 (e1 : Int), .int .i64 (e2 : Int)]] s fun v s' => ∃ a' c', v = .tuple #[.slice a' 32 c', .int .i64 0] ∧ Ch [τ] s s' ∧ Own s' a' 32 c' 5 1 (bvs (dinL m l z d0 d1 d2 d3 e1 e2)) τ := by
 have hv2 := hv
 unfold DinOk at hv2
 refine F29_calls _ _ _ _ _ _ _ _ _  ?_
 unfold F29
 refine al_t 0 fun r1 s2 ab a D ac => ?_
 refine ld_t a rfl (ld_t a rfl (ld_t a rfl (ld_t a rfl (ld_t a rfl (ld_t a rfl (ld_t a rfl (ld_t a rfl ?_)))))))
 refine ld_t a rfl ?_
 refine tcall (c_rmayd _ _ _ _ _ _ _ _ _ hv) ?_
 rintro _ ad ⟨rfl, j⟩
 have ae := j.size
 refine dBl_i (sB_f (by rfl) (ask_t (by omega) ?_))
 refine al_t 0 fun af ag S E w ah => ?_
 have hz0 := E.sl
 rw [rowZ_by] at hz0
 have r1_9 := a.ch j (by simp)
 have r1_10 := r1_9.ch w (by simp)
 refine ld_t r1_10 rfl (dInt_i ?_)
 refine sB_eq (fun x => by exfalso; omega) (fun x => ?_)
 refine ld_t r1_10 rfl (dInt_i ?_)
 refine tcall (c_rnum τ _ hz0 (by simp) (by intro h; cases h) (by omega) 0 1 m (by omega) (by omega) (by omega)) ?_
 rintro _ ai ⟨F, G, rfl, d, n⟩
 have T := d.size
 refine dSl_i ?_
 have r1_14 := r1_10.ch d (by intro h; simp only [List.mem_cons, List.not_mem_nil, or_false] at h <;> omega)
 refine ld_t r1_14 rfl (dInt_i ?_)
 refine tcall (c_rnum τ _ n.sl (by simp [wrL_len, dirL_len]) n.none_iff (by omega) 2 2 l (by omega) (by omega) (by omega)) ?_
 rintro _ aj ⟨H, I, rfl, e, o⟩
 have U := e.size
 refine dSl_i ?_
 have r1_18 := r1_14.ch e (by intro h; simp only [List.mem_cons, List.not_mem_nil, or_false] at h <;> omega)
 refine ld_t r1_18 rfl (dInt_i ?_)
 refine tcall (c_rnum τ _ o.sl (by simp [wrL_len, dirL_len]) o.none_iff (by omega) 4 4 z (by omega) (by omega) (by omega)) ?_
 rintro _ p ⟨J, K, rfl, f, y⟩
 have V := f.size
 refine dSl_i ?_
 have r1_22 := r1_18.ch f (by intro h; simp only [List.mem_cons, List.not_mem_nil, or_false] at h <;> omega)
 refine ld_t r1_22 rfl (ld_t r1_22 rfl (ld_t r1_22 rfl (ld_t r1_22 rfl ?_)))
 refine ⟨fun vs H' => ∃ s' : TH, s'.h = H' ∧ ∃ pa pn pc i0, vs = [.slice pa pn pc, .int .i64 i0] ∧ ChL [τ] [] p s' ∧ (∃ k : Nat, i0 = k ∧ k ≤ 4 ∧ pn = 32 ∧ Own s' pa 32 pc 5 1 (bvs (dirL (wrL (wrL (wrL (List.replicate 32 0) 0 1 m) 2 2 l) 4 4 z) [d0, d1, d2, d3] k)) τ), fun vs H' => match vs with | [.slice pa pn pc, .int .i64 i0] => (4 - i0).toNat | _ => 0, ⟨p, rfl, _, _, _, _, rfl, ChL.refl _ _ _, ?_⟩, ?_⟩
 ·
  exact ⟨0, rfl, by omega, rfl, y⟩
 ·
  intro pa pn pc i0 _ _ _ _ _ _ _ _ _ _ _ _ ak hI
  obtain ⟨al, rfl, pa_, pn_, pc_, i0_, hvs, b, k, rfl, hk, rfl, c⟩ := hI
  cases hvs
  have W := b.size
  refine sB_d (fun A => ?_) (fun A => ?_)
  ·
   refine ask_t (by omega) ?_
   obtain ⟨dk, hdk, hgk, hdl⟩ : ∃ dk : Nat, ([Value.int .i64 (d0 : Int), .int .i64 (d1 : Int), .int .i64 (d2 : Int), .int .i64 (d3 : Int)] : List Value)[Int.toNat (k : Int) * 1]? = some (.int .i64 (dk : Int)) ∧ [d0, d1, d2, d3].getD k 0 = dk ∧ dk < 2048 := by rcases (by omega : k = 0 ∨ k = 1 ∨ k = 2 ∨ k = 3) with rfl | rfl | rfl | rfl <;> first | exact ⟨d0, rfl, rfl, by omega⟩ | exact ⟨d1, rfl, rfl, by omega⟩ | exact ⟨d2, rfl, rfl, by omega⟩ | exact ⟨d3, rfl, rfl, by omega⟩
   refine oV_i hdk ?_
   refine dInt_i (wr_t (by omega) (wr_t (by omega) ?_))
   rw [show (8 + 2 * (k : Int)) = ((8 + 2 * k : Nat) : Int) by omega]
   refine tcall (c_rnum τ _ c.sl (by simp [wrL_len, dirL_len]) c.none_iff (by omega) (8 + 2 * k) 2 dk (by omega) (by omega) (by omega)) ?_
   rintro _ L ⟨M, N, rfl, q, B⟩
   have X := q.size
   refine dSl_i (wr_t (by omega) ?_)
   refine ⟨⟨L, rfl, _, _, _, _, rfl, (((ChL.refl [τ] [] p).chl b (by simp) (by simp <;> omega)).ch q (by simp)), ?_⟩, ?_⟩
   ·
    exact ⟨k + 1, by omega, by omega, rfl, by have ho := B; rw [dirL, hgk]; exact ho⟩
   ·
    simp only []; omega
  ·
   have r1_29 := r1_22.chl b (by simp <;> omega) (by simp <;> omega)
   refine ld_t r1_29 rfl (dInt_i ?_)
   obtain rfl : k = 4 := by omega
   refine tcall (c_rnum τ _ c.sl (by simp [wrL_len, dirL_len]) c.none_iff (by omega) 16 2 e1 (by omega) (by omega) (by omega)) ?_
   rintro _ am ⟨O, P, rfl, g, r⟩
   have Y := g.size
   refine dSl_i ?_
   have r1_33 := r1_29.ch g (by intro h; simp only [List.mem_cons, List.not_mem_nil, or_false] at h <;> omega)
   refine ld_t r1_33 rfl (dInt_i ?_)
   refine tcall (c_rnum τ _ r.sl (by simp [wrL_len, dirL_len]) r.none_iff (by omega) 18 2 e2 (by omega) (by omega) (by omega)) ?_
   rintro _ an ⟨Q, R, rfl, t, i⟩
   have Z := t.size
   refine dSl_i ?_
   refine tcall (c_rseal τ _ i.sl (by simp [wrL_len, dirL_len]) i.none_iff (by omega) i.le (by omega)) ?_
   rintro _ ao ⟨a8, c8, rfl, u, C⟩
   have aa := u.size
   refine dT2 (dSl_i (dInt_i ?_))
   refine ret_t ?_
   exact ⟨a8, c8, rfl, (((((((((((Ch.refl [τ] s).ch D (by simp)).ch j (by simp)).ch w (by simp)).ch d (by simp)).ch e (by simp)).ch f (by simp)).chl b (by simp) (by simp <;> omega)).ch g (by simp)).ch t (by simp)).ch u (by simp)), C⟩
end Go.Proofs.YtklppdodadkcnaaGreat.E
namespace Go.Proofs.YtklppdodadkcnaaGreat.E
open Go Go.Proofs
set_option linter.unusedVariables false
set_option linter.unusedSimpArgs false
theorem eqf_last {P : Program} {d : Nat} {xs ys : Array Value} {f : Field} {a b : Value} {r : Bool} {w : World} (hn : (f.name == "_") = false) (ha : (part f.type xs f.offset).run P w = .ok a w) (hb : (part f.type ys f.offset).run P w = .ok b w) (he : (Op.equalIn d f.type a b).run P w = .ok r w) : (Op.eqFields d xs ys [f]).run P w = .ok r w := by
 have hn' : f.name ≠ "_" := by simpa using hn
 simp only [Op.eqFields, if_pos hn', Sem.run_bind, ha, hb, he, Result.andThen_ok]
 cases r <;> simp
theorem eqf_cons {P : Program} {d : Nat} {xs ys : Array Value} {f : Field} {fs : List Field} {a b : Value} {r s : Bool} {w : World} (hn : (f.name == "_") = false) (ha : (part f.type xs f.offset).run P w = .ok a w) (hb : (part f.type ys f.offset).run P w = .ok b w) (he : (Op.equalIn d f.type a b).run P w = .ok r w) (hr : (Op.eqFields d xs ys fs).run P w = .ok s w) : (Op.eqFields d xs ys (f :: fs)).run P w = .ok (r && s) w := by
 have hn' : f.name ≠ "_" := by simpa using hn
 rw [Op.eqFields]
 simp only [if_pos hn', Sem.run_bind, ha, hb, he, Result.andThen_ok]
 cases r
 ·simp
 ·simpa using hr
theorem ent_fields : Tryz.prog.fieldsOf 129 = #[{ name := "Ino", type := 3, offset := 0, embedded := false, tag := "", pkgPath := "", byteOffset := 0 }, { name := "Name", type := 9, offset := 1, embedded := false, tag := "", pkgPath := "", byteOffset := 8 }] := by kernel_rfl
theorem eq_ent {E : List PanicEntry → Heap → Prop} {s : TH} {a b : Int} {c d : ByteArray} {x y : Operand} {K : Value → Heap → Prop} (hk : K (.bool (a == b && c == d)) s.h) :
  semW Tryz.prog (eqSem .eql 129 x y (.agg #[.int .i64 a, .string c]) (.agg #[.int .i64 b, .string d])) E s.h K := .mk fun w hw => by
 have hgt : Tryz.prog.eqGuardType Tryz.prog.depth 129 = false := by kernel_rfl
 have hs : Tryz.prog.stoodInHeld 129 = false := by kernel_rfl
 have hu : Tryz.prog.underlying 129 = some (.struct (Tryz.prog.fieldsOf 129)) := by kernel_rfl
 have hf : ∀ n, (Op.eqFields (n + 1) #[.int .i64 a, .string c] #[.int .i64 b, .string d] (Tryz.prog.fieldsOf 129).toList).run Tryz.prog w = .ok (a == b && c == d) w := by
  intro n
  rw [ent_fields]
  refine eqf_cons (a := .int .i64 a) (b := .int .i64 b) (by decide) ?_ ?_ ?_ (eqf_last (a := .string c) (b := .string d) (by decide) ?_ ?_ ?_)
  ·simp [part, Tryz.sizeOf3, Tryz.isAgg3]
  ·simp [part, Tryz.sizeOf3, Tryz.isAgg3]
  ·simp [Op.equalIn, Tryz.runUnderlying3]
  ·simp [part, Tryz.sizeOf9, Tryz.isAgg9]
  ·simp [part, Tryz.sizeOf9, Tryz.isAgg9]
  ·simp [Op.equalIn, Tryz.runUnderlying9]
 have hr : (eqSem .eql 129 x y (.agg #[.int .i64 a, .string c]) (.agg #[.int .i64 b, .string d])).run Tryz.prog w = .ok (.bool (a == b && c == d)) w := by
  have he : (Op.equalIn Op.maxDepth 129 (.agg #[.int .i64 a, .string c]) (.agg #[.int .i64 b, .string d])).run Tryz.prog w = .ok (a == b && c == d) w := by
   show (Op.equalIn (9999 + 1) 129 _ _).run _ w = _
   rw [run_equalIn_struct (P := Tryz.prog) w 9999 129 _ _ hu hs]
   exact hf 9998
  simp [eqSem, eqGuard, hgt, binOp, Op.equal, he]
 rw [hr]; exact ⟨by rw [hw]; exact hk, Like.refl w⟩
def entL (i : Nat) (d : List UInt8) : List UInt8 :=
 (wrL (wrL (List.replicate 16 0) 0 2 i) 2 1 d.length).take 3 ++ d.take 13 ++ (wrL (wrL (List.replicate 16 0) 0 2 i) 2 1 d.length).drop (3 + (d.take 13).length)
theorem entL_len (i : Nat) (d : List UInt8) : (entL i d).length = 16 := by unfold entL; simp [wrL_len]; omega
theorem c_nameD1 {s : TH} : TRet Tryz.prog 160 #[.string ⟨#[46]⟩] s fun v s' => v = .bool false ∧ Ch [] s s' := by
 refine F160_calls _  ?_
 unfold F160
 refine jn_u ?_
 refine sB_f (by simp [ByteArray.toList_mk]) ?_
 refine sB_f (by rfl) ?_
 refine sB_t (by simp [ByteArray.toList_mk]) ?_
 intro _ _ _ _ _ _ _ _ _ _ _ _ _ _
 refine dBl_i (sB_t (by rfl) ?_)
 refine ret_t ?_
 exact ⟨rfl, (Ch.refl [] s)⟩
theorem c_encEnt1 (τ i : Nat) {s : TH} (hτ : τ ≠ 0) (hi : 1 ≤ i ∧ i ≤ 511) : TRet Tryz.prog 114 #[.agg #[.int .i64 (i : Int), .string ⟨#[46]⟩]] s fun v s' => ∃ a' c', v = .tuple #[.slice a' 16 c', .int .i64 0] ∧ Ch [τ] s s' ∧ Own s' a' 16 c' 5 1 (bvs (entL i (#[46] : Array UInt8).toList)) τ := by
 refine F114_calls _ _  ?_
 unfold F114
 refine al_t 0 fun r1 s2 w n o x => ?_
 refine ask_t (by omega) ?_
 refine al_t 0 fun r3 s4 y q j z => ?_
 have hz0 := q.sl
 rw [rowZ_by] at hz0
 have r1_7 := n.ch j (by simp)
 refine ld_t r1_7 rfl (ld_t r1_7 rfl ?_)
 refine eq_ent ?_
 refine dBl_i ?_
 refine sB_f (by simp; omega) ?_
 refine jn_u ?_
 refine ld_t r1_7 rfl (dInt_i ?_)
 refine sB_d (fun k => by exfalso; omega) (fun k => ?_)
 refine ld_t r1_7 rfl (dInt_i ?_)
 refine sB_d (fun l => by exfalso; omega) (fun l => ?_)
 refine ld_t r1_7 rfl (dStr_i ?_)
 refine tcall (c_nameD1) ?_
 rintro _ A ⟨rfl, d⟩
 have B := d.size
 refine dBl_i (sB_t (by rfl) ?_)
 have r1_10 := r1_7.ch d (by simp)
 refine ld_t r1_10 rfl (dStr_i ?_)
 refine sB_f (by simp [ByteArray.toList_mk]) ?_
 intro _ _ _ _ _ _ _ _ _ _ _ _ _ _ _ _ _ _ _ _ _ _ _
 refine dBl_i (sB_f (by rfl) (ld_t r1_10 rfl (dInt_i ?_)))
 have m := hz0.mv d (tagn (by simp))
 refine tcall (c_rnum τ _ m (by simp) (by intro h; cases h) (by omega) 0 2 i (by omega) (by omega) (by omega)) ?_
 rintro _ C ⟨a2, c2, rfl, b, e⟩
 have r := b.size
 refine dSl_i ?_
 have r1_15 := r1_10.ch b (by intro h; simp only [List.mem_cons, List.not_mem_nil, or_false] at h <;> omega)
 refine ld_t r1_15 rfl (dStr_i ?_)
 refine tcall (c_rnum τ _ e.sl (by simp [wrL_len]) e.none_iff (by omega) 2 1 (ByteArray.size ⟨#[46]⟩) (by omega) (by omega) (by decide)) ?_
 rintro _ D ⟨a3, c3, rfl, c, a⟩
 have t := c.size
 refine dSl_i ?_
 refine ask_t (by have := (a).le; omega) ?_
 have r1_19 := r1_15.ch c (by intro h; simp only [List.mem_cons, List.not_mem_nil, or_false] at h <;> omega)
 refine ld_t r1_19 rfl (dStr_i ?_)
 obtain ⟨ad, rfl⟩ := Own.ne_none a (by omega)
 simp only [Int.toNat_natCast]
 rw [show Int.toNat 3 = 3 from rfl]
 refine copy_os (p := 3) #[46] u85 in5 a (by omega) fun E o2_22 g hsz => ?_
 have f := g.ch (T := [τ]) a (by simp)
 have u := f.size
 refine dInt_i ?_
 refine ret_t ?_
 exact ⟨_, _, rfl, (((((((Ch.refl [τ] s).ch o (by simp)).ch j (by simp)).ch d (by simp)).ch b (by simp)).ch c (by simp)).ch f (by simp)), o2_22⟩
theorem c_nameD2 {s : TH} : TRet Tryz.prog 160 #[.string ⟨#[46, 46]⟩] s fun v s' => v = .bool false ∧ Ch [] s s' := by
 refine F160_calls _  ?_
 unfold F160
 refine jn_u ?_
 refine sB_f (by simp [ByteArray.toList_mk]) ?_
 refine sB_f (by rfl) ?_
 refine sB_f (by simp [ByteArray.toList_mk]) ?_
 intro _ _ _ _ _ _ _ _ _ _ _ _ _ _
 refine dBl_i ?_
 refine sB_t (by simp [ByteArray.toList_mk]) ?_
 refine ret_t ?_
 exact ⟨rfl, (Ch.refl [] s)⟩
theorem c_encEnt2 (τ i : Nat) {s : TH} (hτ : τ ≠ 0) (hi : 1 ≤ i ∧ i ≤ 511) : TRet Tryz.prog 114 #[.agg #[.int .i64 (i : Int), .string ⟨#[46, 46]⟩]] s fun v s' => ∃ a' c', v = .tuple #[.slice a' 16 c', .int .i64 0] ∧ Ch [τ] s s' ∧ Own s' a' 16 c' 5 1 (bvs (entL i (#[46, 46] : Array UInt8).toList)) τ := by
 refine F114_calls _ _  ?_
 unfold F114
 refine al_t 0 fun r1 s2 w n o x => ?_
 refine ask_t (by omega) ?_
 refine al_t 0 fun r3 s4 y q j z => ?_
 have hz0 := q.sl
 rw [rowZ_by] at hz0
 have r1_7 := n.ch j (by simp)
 refine ld_t r1_7 rfl (ld_t r1_7 rfl ?_)
 refine eq_ent ?_
 refine dBl_i ?_
 refine sB_f (by simp; omega) ?_
 refine jn_u ?_
 refine ld_t r1_7 rfl (dInt_i ?_)
 refine sB_d (fun k => by exfalso; omega) (fun k => ?_)
 refine ld_t r1_7 rfl (dInt_i ?_)
 refine sB_d (fun l => by exfalso; omega) (fun l => ?_)
 refine ld_t r1_7 rfl (dStr_i ?_)
 refine tcall (c_nameD2) ?_
 rintro _ A ⟨rfl, d⟩
 have B := d.size
 refine dBl_i (sB_t (by rfl) ?_)
 have r1_10 := r1_7.ch d (by simp)
 refine ld_t r1_10 rfl (dStr_i ?_)
 refine sB_t (by simp [ByteArray.toList_mk]) ?_
 refine ld_t r1_10 rfl (dStr_i ?_)
 intro _ _ _ _ _ _ _ _ _ _ _ _ _ _ _ _ _ _ _ _ _ _ _
 refine dBl_i ?_
 refine sB_f (by simp [ByteArray.toList_mk]) ?_
 refine ld_t r1_10 rfl (dInt_i ?_)
 have m := hz0.mv d (tagn (by simp))
 refine tcall (c_rnum τ _ m (by simp) (by intro h; cases h) (by omega) 0 2 i (by omega) (by omega) (by omega)) ?_
 rintro _ C ⟨a2, c2, rfl, b, e⟩
 have r := b.size
 refine dSl_i ?_
 have r1_15 := r1_10.ch b (by intro h; simp only [List.mem_cons, List.not_mem_nil, or_false] at h <;> omega)
 refine ld_t r1_15 rfl (dStr_i ?_)
 refine tcall (c_rnum τ _ e.sl (by simp [wrL_len]) e.none_iff (by omega) 2 1 (ByteArray.size ⟨#[46, 46]⟩) (by omega) (by omega) (by decide)) ?_
 rintro _ D ⟨a3, c3, rfl, c, a⟩
 have t := c.size
 refine dSl_i ?_
 refine ask_t (by have := (a).le; omega) ?_
 have r1_19 := r1_15.ch c (by intro h; simp only [List.mem_cons, List.not_mem_nil, or_false] at h <;> omega)
 refine ld_t r1_19 rfl (dStr_i ?_)
 obtain ⟨ad, rfl⟩ := Own.ne_none a (by omega)
 simp only [Int.toNat_natCast]
 rw [show Int.toNat 3 = 3 from rfl]
 refine copy_os (p := 3) #[46, 46] u85 in5 a (by omega) fun E o2_22 g hsz => ?_
 have f := g.ch (T := [τ]) a (by simp)
 have u := f.size
 refine dInt_i ?_
 refine ret_t ?_
 exact ⟨_, _, rfl, (((((((Ch.refl [τ] s).ch o (by simp)).ch j (by simp)).ch d (by simp)).ch b (by simp)).ch c (by simp)).ch f (by simp)), o2_22⟩
end Go.Proofs.YtklppdodadkcnaaGreat.E
