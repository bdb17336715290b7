/- My own texts, joined. -/
import Derived.KernelRfl
import Derived.Laws.StructEq
import Derived.Lib.SlBytesConst
import Derived.Test.YtdlelcpkelginaaProg
import Derived.Test.YtdlelcpkelginaaMM4
/- A constant text's bytes; appending to what is full. -/
namespace Go.Proofs.Ytdlelcpkelginaa.E
open Go
set_option linter.unusedVariables false
section
variable {P : Program} {t tn ty e : TypeId} {E : List PanicEntry → Heap → Prop}
theorem freezeH_get {H : Heap} {r n : Nat} {c : Array Value} {e : TypeId} (h : H[r]? = some (.cells c e (0, 0))) : (freezeH H ⟨r, n, none⟩ 1)[r]? = some (.cells c e (n, n + 1)) := by
  unfold freezeH World.freeze
  rw [if_neg (by decide)]
  show (H.modify r _)[r]? = _
  rw [modify_get, if_pos rfl, h]
  rfl
theorem freezeH_other {H : Heap} {r n j : Nat} (h : j ≠ r) : (freezeH H ⟨r, n, none⟩ 1)[j]? = H[j]? := by
  unfold freezeH World.freeze
  rw [if_neg (by decide)]
  show (H.modify r _)[j]? = _
  rw [modify_get, if_neg (fun e => h e.symm)]
theorem freezeH_size {H : Heap} {r n : Nat} : (freezeH H ⟨r, n, none⟩ 1).size = H.size := by
  unfold freezeH World.freeze
  rw [if_neg (by decide)]
  show (H.modify r _).size = _
  simp
theorem conv_lit {s : TH} {r n τ : Nat} {l : List Value} {K : Value → Heap → Prop} (ht : P.underlying t = some (.slice e)) (he : P.underlying e = some (.int .u8)) (h : Blk s r l e τ) (hn : l.length = n)
    (hk : ∀ s' : TH, Sl s' (some ⟨r, 0, none⟩) l τ → On r s s' → s.h.size = s'.h.size → K (.slice (some ⟨r, 0, none⟩) n n) s'.h) :
    semW P (convert t t (.slice (some ⟨r, 0, none⟩) n n)) E s.h K := .mk fun w hw => by
  have hsh : w.shape? r = some (e, n) := by rw [shape_eq, hw]; simp [shapeH, h.get, hn]
  have hrun : (convert t t (.slice (some ⟨r, 0, none⟩) n n)).run P w = .ok (.slice (some ⟨r, 0, none⟩) n n) (w.freeze ⟨r, n, none⟩ 1) := by
    simp [convert, run_underlying ht, run_underlying he, markStringish, hsh]
  rw [hrun]
  have hg := freezeH_get (n := n) h.get
  refine ⟨?_, ?_⟩
  · show K _ (w.freeze ⟨r, n, none⟩ 1).heap
    rw [freeze_eq, hw]
    refine hk ⟨freezeH s.h ⟨r, n, none⟩ 1, s.g⟩ (.inr ⟨r, 0, rfl, by show r < (freezeH _ _ _).size; rw [freezeH_size]; exact h.lt, h.tag, fun j v hv => ?_⟩) ⟨by show _ ≤ (freezeH _ _ _).size; rw [freezeH_size]; exact Nat.le_refl _, fun _ _ => rfl, fun j hj hne => freezeH_other hne⟩ (by show _ = (freezeH _ _ _).size; rw [freezeH_size])
    show cellH (freezeH s.h ⟨r, n, none⟩ 1) ⟨r, 0 + j, none⟩ = some v
    simp [cellH, hg, hv]
  · unfold World.freeze
    split <;> exact ⟨rfl, rfl, rfl⟩
/-- what a new row of so many bytes is -/
theorem new_own {s : TH} {L : List UInt8} {rest : Nat} {e τ cap : Nat} (hcap : L.length + rest = cap) (hc : cap ≤ maxLen) :
    Own ⟨s.h.push (.cells (bvs L ++ bvs (List.replicate rest 0)).toArray e), upd s.g s.h.size τ⟩ (some ⟨s.h.size, 0, none⟩) L.length cap e 1 (bvs L) τ := by
  refine ⟨by rw [bvs_len]; omega, .inr ⟨s.h.size, 0, _, rfl, ⟨Array.getElem?_push_size .., by simp [upd]⟩, by omega, hc, ?_, ?_⟩⟩
  · rw [List.length_append, bvs_len, bvs_len, List.length_replicate]; omega
  · rw [List.drop_zero, show L.length * 1 = (bvs L).length by rw [bvs_len]; omega]; exact List.take_left
theorem appz_g {s : TH} {a : Addr} {n m : Nat} {kn : IntKind} {l : List UInt8} {τ : Nat} (τ' : Nat) {K : Value → Heap → Prop}
    (ht : P.underlying t = some (.slice e)) (htn : P.underlying tn = some (.int kn)) (hi' : (P.info? e).map (fun i => (i.zero, i.size, i.bytes)) = some (some (.int .u8 0), 1, 1))
    (hx : Sl s (some a) (bvs l) τ) (hl : l.length = n) (hm : 0 < m) (hb : n ≤ 1000000000 ∧ m ≤ 1000000000)
    (hk : ∀ (s' : TH) (a' : Option Addr) (c' : Nat), Own s' a' (n + m) c' e 1 (bvs (l ++ List.replicate m 0)) τ' → Ch [] s s' → a' ≠ none → K (.slice a' (n + m) c') s'.h) :
    semW P (Builtin.append_ #[t, tn] ty #[.slice (some a) n n, .int .i64 (m : Int)]) E s.h K := .mk fun w hw => by
  obtain ⟨i, hi, hz, hs, hby⟩ := info_of hi'
  have hold : (Builtin.firstCells i.size n (.slice (some a) n n)).run P w.drew = .ok (bvs l).toArray w.drew :=
    run_firstCells_some (P := P) w.drew i.size n a n n (bvs l) (by rw [hs, bvs_len]; omega) (hx.cells w.drew (by exact hw))
  have hr := Go.Lib.run_append_grow_zeros (P := P) w t tn ty e i (.int .u8 0) .i64 kn ht htn hi hz (some a) n n (bvs l) hold m hm (by omega) (by omega) (by omega) (by rw [hby]; omega) (growslice_fits (by omega) (by rw [hby]; omega))
  rw [hr]
  have hge := grownCap_ge w (n + m) n e
  have hcm : grownCap w (n + m) n e ≤ maxLen := grownCap_le_maxLen w (n + m) n e (by unfold maxLen; omega)
  have hL : (bvs l).toArray ++ Builtin.zeroCells (Value.int .u8 0).cells m ++ Builtin.zeroCells (Value.int .u8 0).cells (grownCap w (n + m) n e - (n + m)) = (bvs (l ++ List.replicate m 0) ++ bvs (List.replicate (grownCap w (n + m) n e - (n + m)) 0)).toArray := by
    apply Array.toList_inj.1
    simp only [Array.toList_append, zeroB]
    simp [bvs]
  rw [hL]
  refine ⟨?_, rfl, rfl, rfl⟩
  have hh : (w.drew.alloc (.cells (bvs (l ++ List.replicate m 0) ++ bvs (List.replicate (grownCap w (n + m) n e - (n + m)) 0)).toArray e)).heap = s.h.push (.cells (bvs (l ++ List.replicate m 0) ++ bvs (List.replicate (grownCap w (n + m) n e - (n + m)) 0)).toArray e) := by rw [← hw]; rfl
  rw [hh, show w.heap.size = s.h.size by rw [hw]]
  have ho := new_own (s := s) (L := l ++ List.replicate m 0) (rest := grownCap w (n + m) n e - (n + m)) (e := e) (τ := τ') (cap := grownCap w (n + m) n e) (by simp; omega) hcm
  rw [show (l ++ List.replicate m (0 : UInt8)).length = n + m by simp [hl]] at ho
  exact hk _ _ _ ho (pushed s _ τ') (by simp)
theorem app_g {s : TH} {a b : Addr} {n m mc : Nat} {l x : List UInt8} {τ τx : Nat} (τ' : Nat) {K : Value → Heap → Prop}
    (ht : P.underlying t = some (.slice e)) (hi' : (P.info? e).map (fun i => (i.zero, i.size, i.bytes)) = some (some (.int .u8 0), 1, 1))
    (hx : Sl s (some a) (bvs l) τ) (hl : l.length = n) (hy : Sl s (some b) (bvs x) τx) (hxl : x.length = m) (hm : 0 < m) (hb : n ≤ 1000000000 ∧ m ≤ 1000000000)
    (hk : ∀ (s' : TH) (a' : Option Addr) (c' : Nat), Own s' a' (n + m) c' e 1 (bvs (l ++ x)) τ' → Ch [] s s' → a' ≠ none → K (.slice a' (n + m) c') s'.h) :
    semW P (Builtin.append_ #[t, t] ty #[.slice (some a) n n, .slice (some b) m mc]) E s.h K := .mk fun w hw => by
  obtain ⟨i, hi, hz, hs, hby⟩ := info_of hi'
  have hr := run_append_grow (P := P) w t ty e i (.int .u8 0) ht hi hz a n n (bvs l) (by rw [hs, bvs_len]; omega) (hx.cells w hw) b m mc (bvs x) (by rw [hs, bvs_len]; omega) (hy.cells w hw) (by omega) (by omega) (growslice_fits (by omega) (by rw [hby]; omega))
  rw [hr]
  have hge := grownCap_ge w (n + m) n e
  have hcm : grownCap w (n + m) n e ≤ maxLen := grownCap_le_maxLen w (n + m) n e (by unfold maxLen; omega)
  have hL : (bvs l).toArray ++ (bvs x).toArray ++ Builtin.zeroCells (Value.int .u8 0).cells (grownCap w (n + m) n e - (n + m)) = (bvs (l ++ x) ++ bvs (List.replicate (grownCap w (n + m) n e - (n + m)) 0)).toArray := by
    apply Array.toList_inj.1
    simp only [Array.toList_append, zeroB]
    simp [bvs]
  rw [hL]
  refine ⟨?_, rfl, rfl, rfl⟩
  have hh : (w.drew.alloc (.cells (bvs (l ++ x) ++ bvs (List.replicate (grownCap w (n + m) n e - (n + m)) 0)).toArray e)).heap = s.h.push (.cells (bvs (l ++ x) ++ bvs (List.replicate (grownCap w (n + m) n e - (n + m)) 0)).toArray e) := by rw [← hw]; rfl
  rw [hh, show w.heap.size = s.h.size by rw [hw]]
  have ho := new_own (s := s) (L := l ++ x) (rest := grownCap w (n + m) n e - (n + m)) (e := e) (τ := τ') (cap := grownCap w (n + m) n e) (by simp; omega) hcm
  rw [show (l ++ x).length = n + m by simp [hl, hxl]] at ho
  exact hk _ _ _ ho (pushed s _ τ') (by simp)
end
end Go.Proofs.Ytdlelcpkelginaa.E
/- Contracts of functions. -/
namespace Go.Proofs.Ytdlelcpkelginaa.E
open Go Go.Proofs
set_option linter.unusedVariables false
set_option linter.unusedSimpArgs false
theorem bvs_set (l : List UInt8) (i : Nat) (b : UInt8) : (bvs l).set i (.int .u8 (b.toNat : Int)) = bvs (l.set i b) := by unfold bvs; rw [List.map_set]; rfl
/-- a number's bytes written at a place -/
def wrL (l : List UInt8) (p : Nat) : Nat → Nat → List UInt8
  | 0, _ => l
  | k + 1, n => (wrL l p k n).set (p + k) (UInt8.ofNat (n / 256 ^ k % 256))
theorem wrL_len (l : List UInt8) (p k n : Nat) : (wrL l p k n).length = l.length := by
  induction k with
  | zero => rfl
  | succ k ih => rw [wrL, List.length_set, ih]
theorem u8q (q : Nat) : IntKind.u8.wrap ((q % 256 : Nat) : Int) = ((UInt8.ofNat (q % 256)).toNat : Int) := by
  have e : IntKind.u8.wrap ((q % 256 : Nat) : Int) = ((q % 256 : Nat) : Int) % 256 := rfl
  have e2 : (UInt8.ofNat (q % 256)).toNat = (q % 256) % 256 := rfl
  rw [e, e2]; omega
theorem tm256 (q : Nat) : Int.tmod (q : Int) 256 = ((q % 256 : Nat) : Int) := by
  rw [Int.tmod_eq_emod_of_nonneg (by omega)]; omega
theorem td256 (n k : Nat) : Int.tdiv ((n / 256 ^ k : Nat) : Int) 256 = ((n / 256 ^ (k + 1) : Nat) : Int) := by
  rw [Int.tdiv_eq_ediv_of_nonneg (Int.natCast_nonneg _), Nat.pow_succ, ← Nat.div_div_eq_div_mul]
  generalize n / 256 ^ k = q
  omega
theorem pow_w (w : Nat) (h : 1 ≤ w ∧ w ≤ 4) : IntKind.i64.wrap (1 * 2 ^ min (Int.toNat (8 * (w : Int))) 64) = ((256 ^ w : Nat) : Int) ∧ 256 ^ w ≤ 4294967296 := by
  rcases (by omega : w = 1 ∨ w = 2 ∨ w = 3 ∨ w = 4) with rfl | rfl | rfl | rfl <;> exact ⟨by decide, by decide⟩
/-- the check sum -/
def sumS (l : List UInt8) : Nat × Nat := l.foldl (fun z b => ((z.1 + b.toNat) % 65521, (z.2 + (z.1 + b.toNat) % 65521) % 65521)) (1, 0)
def sumN (l : List UInt8) : Nat := (sumS l).2 * 65536 + (sumS l).1
theorem sumS_snoc (l : List UInt8) (b : UInt8) : sumS (l ++ [b]) = (((sumS l).1 + b.toNat) % 65521, ((sumS l).2 + ((sumS l).1 + b.toNat) % 65521) % 65521) := by unfold sumS; rw [List.foldl_append]; rfl
theorem sumS_lt (l : List UInt8) : (sumS l).1 < 65521 ∧ (sumS l).2 < 65521 := by
  rcases List.eq_nil_or_concat l with rfl | ⟨m, b, rfl⟩
  · exact ⟨by decide, by decide⟩
  · rw [List.concat_eq_append, sumS_snoc]; exact ⟨Nat.mod_lt _ (by decide), Nat.mod_lt _ (by decide)⟩
theorem bvs_get {l : List UInt8} {k : Nat} {b : UInt8} (h : l[k]? = some b) : (bvs l)[k]? = some (.int .u8 (b.toNat : Int)) := by unfold bvs; rw [List.getElem?_map, h]; rfl
/-- bollard/bollardref01.Put -/
theorem c_rput (τ : Nat) {xa : Option Addr} {xn : Nat} (xc : Nat) {l : List UInt8} {τx : Nat} {s : TH} (hx : Sl s xa (bvs l) τx) (hn : l.length = xn) (h0 : xa = none → xn = 0) (hb : xn ≤ 1000000000) (p w n : Nat) (hw : 1 ≤ w ∧ w ≤ 4) (hp : p + w ≤ xn) (hN : n < 256 ^ w) : TRet Try.prog 56 #[.slice xa xn xc, .int .i64 (p : Int), .int .i64 (w : Int), .int .i64 (n : Int)] s fun v s' => ∃ a' c', v = .tuple #[.slice a' xn c', .int .i64 0] ∧ Ch [τ] s s' ∧ Own s' a' xn c' 5 1 (bvs (wrL l p w n)) τ := by
  obtain ⟨M, hM⟩ : ∃ M : Nat, M = 256 ^ w := ⟨_, rfl⟩
  have hpw := pow_w w hw
  rw [← hM] at hN hpw
  refine F56_calls _ _ _ _ _ _  ?_
  unfold F56
  refine jn_u ?_
  refine sB_d (fun hsB1 => by exfalso; omega) (fun hsB1 => ?_)
  refine sB_d (fun hsB2 => by exfalso; omega) (fun hsB2 => ?_)
  refine sB_d (fun hsB3 => by exfalso; omega) (fun hsB3 => ?_)
  refine sB_d (fun hsB4 => by exfalso; omega) (fun hsB4 => ?_)
  refine wr_t (by omega) ?_
  refine ask_t (by omega) ?_
  refine nm_a fun n63 hn63 => ?_
  rw [hpw.1] at hn63
  intro _ _ _ _ _ _ _ _ _ _ _ _ _ _ _ _ _ _ _ _
  refine dBl_i ?_
  refine sB_d (fun hsB5 => by exfalso; omega) (fun hsB5 => ?_)
  refine wr_t (by omega) ?_
  refine sB_d (fun hsB6 => by exfalso; omega) (fun hsB6 => ?_)
  refine al_t τ fun r25 s26 hr25 b_1 c_2 z_3 => ?_
  have x_4 := hx.mv c_2 (tagn (by simp))
  refine app_i u32 in5 rfl (b_1.own0 1) x_4 (by rw [bvs_len]; omega) (bvs_one l) h0 (by unfold maxLen; omega) fun s30 a1 c1 o_7 c_50 hnil => ?_
  have c_5 := c_50.toL rfl
  have z_6 := c_5.size
  rw [Nat.zero_add, List.nil_append] at o_7
  simp only [Nat.zero_add]
  refine dSl_i ?_
  refine ⟨fun vs H' => ∃ s' : TH, s'.h = H' ∧ ∃ m j, vs = [.int .i64 m, .int .i64 j] ∧ ChL [τ] [] s30 s' ∧ (∃ k : Nat, j = k ∧ k ≤ w ∧ m = ((n / 256 ^ k : Nat) : Int) ∧ Own s' a1 xn c1 5 1 (bvs (wrL l p k n)) τ), fun vs H' => match vs with | [.int .i64 m, .int .i64 j] => ((w : Int) - j).toNat | _ => 0, ⟨s30, rfl, _, _, rfl, ChL.refl _ _ _, ?_⟩, ?_⟩
  ·
    exact ⟨0, rfl, by omega, by simp, o_7⟩
  ·
    intro m j _ _ _ _ _ _ _ _ _ _ _ _ _ _ H52 hI
    obtain ⟨s52, rfl, m_, j_, hvs, c_8, k, rfl, hk, rfl, o_10⟩ := hI
    cases hvs
    have z_9 := c_8.size
    refine sB_d (fun hsB7 => ?_) (fun hsB7 => ?_)
    ·
      refine wr_t (by omega) ?_
      refine ask_t (by omega) ?_
      rw [tm256]
      refine nm_a fun n55 hn55 => ?_
      subst hn55
      refine wr_a fun n56 hn56 => ?_
      rw [u8q] at hn56
      subst hn56
      obtain ⟨ad, rfl⟩ := Own.ne_none o_10 (by omega)
      refine nz_i ?_
      refine ask_t (by omega) ?_
      refine Own.st o_10 rfl (by omega) fun s58 b_11 c_12 z_13 => ?_
      have c_14 := Ch.on_tag (T := [τ]) (Ch.refl _ _) c_12 o_10.tagOf (by simp)
      refine ask_t (by omega) ?_
      have hle : n / 256 ^ (k + 1) ≤ n := Nat.div_le_self _ _
      obtain ⟨q, hq⟩ : ∃ q, q = n / 256 ^ (k + 1) := ⟨_, rfl⟩
      rw [td256, ← hq]
      rw [← hq] at hle
      refine wr_t (by omega) ?_
      refine wr_t (by omega) ?_
      refine ⟨⟨s58, rfl, _, _, rfl, (((ChL.refl [τ] [] s30).chl c_8 (by simp) (by simp <;> omega)).ch c_14 (by simp)), ?_⟩, ?_⟩
      ·
        have ho := b_11
        rw [show Int.toNat ((p : Int) + (k : Int)) * 1 = p + k by omega, bvs_set] at ho
        exact ⟨k + 1, by omega, by omega, by rw [hq], ho⟩
      ·
        simp only []; omega
    ·
      refine ret_t ?_
      obtain rfl : k = w := by omega
      exact ⟨a1, c1, rfl, ((((Ch.refl [τ] s).ch c_2 (by simp)).chl c_5 (by simp) (by simp <;> omega)).chl c_8 (by simp) (by simp <;> omega)), o_10⟩
/-- bollard/bollardref03.number -/
theorem c_rnum (τ : Nat) {xa : Option Addr} {xn : Nat} (xc : Nat) {l : List UInt8} {τx : Nat} {s : TH} (hx : Sl s xa (bvs l) τx) (hn : l.length = xn) (h0 : xa = none → xn = 0) (hb : xn ≤ 1000000000) (p w n : Nat) (hw : 1 ≤ w ∧ w ≤ 4) (hp : p + w ≤ xn) (hN : n < 256 ^ w) : TRet Try.prog 43 #[.slice xa xn xc, .int .i64 (p : Int), .int .i64 (w : Int), .int .i64 (n : Int)] s fun v s' => ∃ a' c', v = .slice a' xn c' ∧ Ch [τ] s s' ∧ Own s' a' xn c' 5 1 (bvs (wrL l p w n)) τ := by
  refine F43_calls _ _ _ _ _ _  ?_
  unfold F43
  refine tcall (c_rput τ xc hx hn h0 hb p w n hw hp hN) ?_
  rintro _ s2 ⟨a', c', rfl, c_1, o_3⟩
  have z_2 := c_1.size
  refine dT2 ?_
  refine dSl_i ?_
  refine dInt_i ?_
  refine ret_t ?_
  exact ⟨a', c', rfl, ((Ch.refl [τ] s).ch c_1 (by simp)), o_3⟩
/-- bollard/bollardref01.Sum -/
theorem c_rsum {xa : Option Addr} {xn : Nat} (xc : Nat) {l : List UInt8} {τx : Nat} {s : TH} (hx : Sl s xa (bvs l) τx) (hn : l.length = xn) (hb : xn ≤ 1000000000) : TRet Try.prog 57 #[.slice xa xn xc] s fun v s' => v = .int .i64 (sumN l : Int) ∧ Ch [] s s' := by
  refine F57_calls _ _ _  ?_
  unfold F57
  refine ⟨fun vs H' => ∃ s' : TH, s'.h = H' ∧ ∃ x1 y1 m, vs = [.int .i64 x1, .int .i64 y1, .int .i64 m] ∧ ChL [] [] s s' ∧ (∃ k : Nat, m = k ∧ k ≤ xn ∧ x1 = ((sumS (l.take k)).1 : Int) ∧ y1 = ((sumS (l.take k)).2 : Int)), fun vs H' => match vs with | [.int .i64 x1, .int .i64 y1, .int .i64 m] => ((xn : Int) - m).toNat | _ => 0, ⟨s, rfl, _, _, _, rfl, ChL.refl _ _ _, ?_⟩, ?_⟩
  ·
    exact ⟨0, rfl, by omega, rfl, rfl⟩
  ·
    intro x1 y1 m _ _ _ _ _ _ _ _ _ _ _ _ _ _ H20 hI
    obtain ⟨s20, rfl, x1_, y1_, m_, hvs, c_1, k, rfl, hk, rfl, rfl⟩ := hI
    cases hvs
    have z_2 := c_1.size
    refine sB_d (fun hsB1 => ?_) (fun hsB1 => ?_)
    ·
      have hk2 : k < xn := by omega
      obtain ⟨b, hbk⟩ : ∃ b, l[k]? = some b := ⟨l[k]'(by omega), by simp⟩
      obtain ⟨ad, rfl⟩ := hx.some (fun e => by have := bvs_get hbk; rw [e] at this; simp at this)
      have hlt := sumS_lt (l.take k)
      have hb8 := b.toNat_lt
      refine nz_i ?_
      refine ask_t (by omega) ?_
      have x_3 := hx.mv c_1 (tagL (by simp <;> omega) (by simp))
      refine ld_sl x_3 (by rw [Int.toNat_natCast, Nat.mul_one]; exact bvs_get hbk) ?_
      refine dInt_i ?_
      refine wr_t (by omega) ?_
      refine wr_t (by omega) ?_
      refine ask_t (by omega) ?_
      refine nm_a fun n27 hn27 => ?_
      rw [Int.tmod_eq_emod_of_nonneg (by omega)] at hn27
      refine wr_t (by omega) ?_
      refine ask_t (by omega) ?_
      refine nm_a fun n29 hn29 => ?_
      rw [Int.tmod_eq_emod_of_nonneg (by omega)] at hn29
      refine wr_t (by omega) ?_
      refine ⟨⟨s20, rfl, _, _, _, rfl, ((ChL.refl [] [] s).chl c_1 (by simp) (by simp <;> omega)), ?_⟩, ?_⟩
      ·
        have hs := sumS_snoc (l.take k) b
        rw [show l.take k ++ [b] = l.take (k + 1) by rw [List.take_add_one, hbk]; rfl] at hs
        exact ⟨k + 1, by omega, by omega, by rw [hs]; simp only []; omega, by rw [hs]; simp only []; omega⟩
      ·
        simp only []; omega
    ·
      have hlt := sumS_lt (l.take k)
      refine wr_t (by omega) ?_
      refine wr_t (by omega) ?_
      refine ret_t ?_
      obtain rfl : k = xn := by omega
      rw [List.take_of_length_le (by omega)]
      exact ⟨ret_i (by unfold sumN; omega), ((Ch.refl [] s).chl c_1 (by simp) (by simp <;> omega))⟩
theorem Sl.takeB {s : TH} {a : Option Addr} {l : List UInt8} {τ : Nat} (h : Sl s a (bvs l) τ) (k : Nat) : Sl s a (bvs (l.take k)) τ := by
  rcases h with h | ⟨g, o, h1, h2, h3, h4⟩
  · left
    have : l = [] := by simpa [bvs] using h
    subst this; simp [bvs]
  · refine .inr ⟨g, o, h1, h2, h3, fun j v hv => h4 j v ?_⟩
    unfold bvs at hv ⊢
    rw [List.map_take, List.getElem?_take] at hv
    split at hv
    · exact hv
    · cases hv
def sealL (l : List UInt8) : List UInt8 := wrL l (l.length - 4) 4 (sumN (l.take (l.length - 4)))
theorem sealL_len (l : List UInt8) : (sealL l).length = l.length := wrL_len _ _ _ _
theorem sumN_lt (l : List UInt8) : sumN l < 256 ^ 4 := by
  have := sumS_lt l
  unfold sumN
  omega
def superBase : List UInt8 := [98, 111, 108, 108] ++ List.replicate 124 0
def superL (g b n m : Nat) : List UInt8 := sealL (wrL (wrL (wrL (wrL superBase 4 1 g) 5 1 (b - 1)) 6 1 n) 8 4 m)
theorem superL_len (g b n m : Nat) : (superL g b n m).length = 128 := by unfold superL; rw [sealL_len, wrL_len, wrL_len, wrL_len, wrL_len]; rfl
def GeoOk (g b n : Nat) : Prop := 1 ≤ g ∧ g ≤ 8 ∧ 8 ≤ b ∧ b ≤ 256 ∧ 4 ≤ n ∧ n ≤ 64 ∧ n % 4 = 0 ∧ 3 + n / 4 ≤ b
/-- bollard/bollardref01.Seal -/
theorem c_rseal (τ : Nat) {xa : Option Addr} {xn : Nat} (xc : Nat) {l : List UInt8} {τx : Nat} {s : TH} (hx : Sl s xa (bvs l) τx) (hn : l.length = xn) (h0 : xa = none → xn = 0) (hb : xn ≤ 1000000000) (hc : xn ≤ xc) (h4 : 4 ≤ xn) : TRet Try.prog 44 #[.slice xa xn xc] s fun v s' => ∃ a' c', v = .tuple #[.slice a' xn c', .int .i64 0] ∧ Ch [τ] s s' ∧ Own s' a' xn c' 5 1 (bvs (sealL l)) τ := by
  refine F44_calls _ _ _  ?_
  unfold F44
  refine sB_d (fun hsB1 => by exfalso; omega) (fun hsB1 => ?_)
  refine wr_t (by omega) ?_
  rw [show ((xn : Int) - 4) = ((xn - 4 : Nat) : Int) by omega]
  refine wr_t (by omega) ?_
  refine ask_t (by omega) ?_
  simp only [slO_zero, Int.toNat_zero, Nat.sub_zero, Int.toNat_natCast]
  refine tcall (c_rsum (xn := xn - 4) xc (hx.takeB (xn - 4)) (by simp; omega) (by omega)) ?_
  rintro _ s4 ⟨rfl, c_1⟩
  have z_2 := c_1.size
  refine dInt_i ?_
  have x_3 := hx.mv c_1 (tagn (by simp))
  refine tcall (c_rput τ xc x_3 hn h0 hb (xn - 4) 4 (sumN (l.take (xn - 4))) (by omega) (by omega) (sumN_lt _)) ?_
  rintro _ s7 ⟨a', c', rfl, c_4, o_6⟩
  have z_5 := c_4.size
  refine dT2 ?_
  refine dSl_i ?_
  refine dInt_i ?_
  refine ret_t ?_
  exact ⟨a', c', rfl, (((Ch.refl [τ] s).ch c_1 (by simp)).ch c_4 (by simp)), by unfold sealL; rw [hn]; exact o_6⟩
/-- bollard/bollardref03.may -/
theorem c_rmay (g b n : Nat) {s : TH} (hv : GeoOk g b n) : TRet Try.prog 53 #[.agg #[.int .i64 (g : Int), .int .i64 (b : Int), .int .i64 (n : Int)]] s fun v s' => v = .bool true ∧ Ch [] s s' := by
  have hv2 := hv
  unfold GeoOk at hv2
  refine F53_calls _ _ _  ?_
  unfold F53
  refine al_t 0 fun r1 s2 hr1 b_1 c_2 z_3 => ?_
  refine ld_t b_1 rfl ?_
  refine dInt_i ?_
  refine sB_d (fun hsB1 => ?_) (fun hsB1 => by exfalso; omega)
  refine ld_t b_1 rfl ?_
  refine dInt_i ?_
  refine sB_d (fun hsB2 => ?_) (fun hsB2 => by exfalso; omega)
  refine ld_t b_1 rfl ?_
  refine dInt_i ?_
  refine sB_d (fun hsB3 => ?_) (fun hsB3 => by exfalso; omega)
  refine ld_t b_1 rfl ?_
  refine dInt_i ?_
  refine sB_d (fun hsB4 => ?_) (fun hsB4 => by exfalso; omega)
  refine ld_t b_1 rfl ?_
  refine dInt_i ?_
  refine sB_d (fun hsB5 => ?_) (fun hsB5 => by exfalso; omega)
  refine ld_t b_1 rfl ?_
  refine dInt_i ?_
  refine sB_d (fun hsB6 => ?_) (fun hsB6 => by exfalso; omega)
  refine ld_t b_1 rfl ?_
  refine dInt_i ?_
  refine ask_t (by omega) ?_
  refine nm_a fun n17 hn17 => ?_
  rw [Int.tmod_eq_emod_of_nonneg (by omega)] at hn17
  refine sB_eq (fun hsB7 => ?_) (fun hsB7 => by exfalso; omega)
  refine ld_t b_1 rfl ?_
  refine dInt_i ?_
  refine ld_t b_1 rfl ?_
  refine dInt_i ?_
  refine ask_t (by omega) ?_
  rw [Int.tdiv_eq_ediv_of_nonneg (by omega)]
  refine wr_t (by omega) ?_
  refine wr_t (by omega) ?_
  refine ret_t ?_
  exact ⟨ret_b (by simp; omega), ((Ch.refl [] s).ch c_2 (by simp))⟩
/-- bollard/bollardref03.EncodeSuper -/
theorem c_encSuper (τ : Nat) (g b n m : Nat) {s : TH} (hτ : τ ≠ 0) (hv : GeoOk g b n) (hm : m < 4294967296) : TRet Try.prog 39 #[.agg #[.int .i64 (g : Int), .int .i64 (b : Int), .int .i64 (n : Int), .int .i64 (m : Int)]] s fun v s' => ∃ a' c', v = .tuple #[.slice a' 128 c', .int .i64 0] ∧ Ch [τ] s s' ∧ Own s' a' 128 c' 5 1 (bvs (superL g b n m)) τ := by
  have hv2 := hv
  unfold GeoOk at hv2
  refine F39_calls _ _ _ _  ?_
  unfold F39
  refine al_t 0 fun r1 s2 hr1 b_1 c_2 z_3 => ?_
  refine jn_u ?_
  refine ld_t b_1 rfl ?_
  refine ld_t b_1 rfl ?_
  refine ld_t b_1 rfl ?_
  refine tcall (c_rmay g b n hv) ?_
  rintro _ s87 ⟨rfl, c_4⟩
  have z_5 := c_4.size
  refine dBl_i ?_
  refine sB_f (by rfl) ?_
  have r1_6 := b_1.ch c_4 (by simp)
  refine ld_t r1_6 rfl ?_
  refine dInt_i ?_
  refine sB_d (fun hsB2 => by exfalso; omega) (fun hsB2 => ?_)
  refine ld_t r1_6 rfl ?_
  refine dInt_i ?_
  intro _ _ _ _ _ _ _ _ _ _ _ _ _
  refine dBl_i ?_
  refine sB_d (fun hsB3 => by exfalso; omega) (fun hsB3 => ?_)
  refine al_t 0 fun r19 s20 hr19 b_7 c_8 z_9 => ?_
  refine conv_lit u32 u5 (show Blk _ _ (bvs [98, 111, 108, 108]) _ _ from b_7) rfl fun s24 lit_12 c_10 hsz => ?_
  have z_11 := c_10.size
  refine dSl_i ?_
  refine appz_g (m := 124) τ u32 u3 in5 lit_12 rfl (by omega) (by omega) fun s31 a2 c2 o_15 c_13 hne => ?_
  have z_14 := c_13.size
  refine dSl_i ?_
  have r1_16 := r1_6.ch c_8 (by simp)
  have r1_17 := r1_16.on c_10 (by omega)
  have r1_18 := r1_17.ch c_13 (by simp)
  refine ld_t r1_18 rfl ?_
  refine dInt_i ?_
  refine tcall (c_rnum τ _ o_15.sl (by simp [wrL_len, superBase]) o_15.none_iff (by omega) 4 1 g (by omega) (by omega) (by unfold GeoOk at hv; omega)) ?_
  rintro _ s38 ⟨acall2, ccall2, rfl, c_19, o_21⟩
  have z_20 := c_19.size
  refine dSl_i ?_
  have r1_22 := r1_18.ch c_19 (by intro h; simp only [List.mem_cons, List.not_mem_nil, or_false] at h <;> omega)
  refine ld_t r1_22 rfl ?_
  refine dInt_i ?_
  refine wr_t (by omega) ?_
  rw [show ((b : Int) - 1) = ((b - 1 : Nat) : Int) by omega]
  refine tcall (c_rnum τ _ o_21.sl (by simp [wrL_len, superBase]) o_21.none_iff (by omega) 5 1 (b - 1) (by omega) (by omega) (by unfold GeoOk at hv; omega)) ?_
  rintro _ s46 ⟨acall3, ccall3, rfl, c_23, o_25⟩
  have z_24 := c_23.size
  refine dSl_i ?_
  have r1_26 := r1_22.ch c_23 (by intro h; simp only [List.mem_cons, List.not_mem_nil, or_false] at h <;> omega)
  refine ld_t r1_26 rfl ?_
  refine dInt_i ?_
  refine tcall (c_rnum τ _ o_25.sl (by simp [wrL_len, superBase]) o_25.none_iff (by omega) 6 1 n (by omega) (by omega) (by unfold GeoOk at hv; omega)) ?_
  rintro _ s53 ⟨acall4, ccall4, rfl, c_27, o_29⟩
  have z_28 := c_27.size
  refine dSl_i ?_
  have r1_30 := r1_26.ch c_27 (by intro h; simp only [List.mem_cons, List.not_mem_nil, or_false] at h <;> omega)
  refine ld_t r1_30 rfl ?_
  refine dInt_i ?_
  refine tcall (c_rnum τ _ o_29.sl (by simp [wrL_len, superBase]) o_29.none_iff (by omega) 8 4 m (by omega) (by omega) (by omega)) ?_
  rintro _ s60 ⟨acall5, ccall5, rfl, c_31, o_33⟩
  have z_32 := c_31.size
  refine dSl_i ?_
  refine tcall (c_rseal τ _ o_33.sl (by simp [wrL_len, superBase]) o_33.none_iff (by omega) o_33.le (by omega)) ?_
  rintro _ s65 ⟨a6, c6, rfl, c_34, o_36⟩
  have z_35 := c_34.size
  refine dT2 ?_
  refine dSl_i ?_
  refine dInt_i ?_
  refine ret_t ?_
  exact ⟨a6, c6, rfl, (((((((((((Ch.refl [τ] s).ch c_2 (by simp)).ch c_4 (by simp)).ch c_8 (by simp)).on_new c_10 (by omega)).ch c_13 (by simp)).ch c_19 (by simp)).ch c_23 (by simp)).ch c_27 (by simp)).ch c_31 (by simp)).ch c_34 (by simp)), o_36⟩
end Go.Proofs.Ytdlelcpkelginaa.E
/- Contracts of functions. -/
namespace Go.Proofs.Ytdlelcpkelginaa.E
open Go Go.Proofs
set_option linter.unusedVariables false
set_option linter.unusedSimpArgs false
/-- a bit of a row -/
def hasB (l : List UInt8) (i : Nat) : Bool := ((l.getD (i / 8) 0).toNat / 2 ^ (i % 8)) % 2 == 1
def xorB (b : UInt8) (k : Nat) : UInt8 := UInt8.ofBitVec (b.toBitVec ^^^ BitVec.ofNat 8 (2 ^ k))
def setB (l : List UInt8) (i : Nat) : List UInt8 := if hasB l i = true then l else l.set (i / 8) (xorB (l.getD (i / 8) 0) (i % 8))
theorem setB_len (l : List UInt8) (i : Nat) : (setB l i).length = l.length := by unfold setB; split <;> simp
theorem td8 (i : Nat) : Int.tdiv (i : Int) 8 = ((i / 8 : Nat) : Int) := by rw [Int.tdiv_eq_ediv_of_nonneg (by omega)]; omega
theorem tm8 (i : Nat) : Int.tmod (i : Int) 8 = ((i % 8 : Nat) : Int) := by rw [Int.tmod_eq_emod_of_nonneg (by omega)]; omega
theorem shr8 (b k : Nat) (hk : k < 8) : Int.fdiv (b : Int) (2 ^ min (Int.toNat (k : Int)) 8) = ((b / 2 ^ k : Nat) : Int) := by
  rw [Int.toNat_natCast, Nat.min_eq_left (by omega), Int.fdiv_eq_ediv_of_nonneg _ (by exact Int.le_of_lt (Int.pow_pos (by omega)))]
  rw [Int.natCast_ediv, Int.natCast_pow]; rfl
theorem tm2 (q : Nat) : Int.tmod (q : Int) 2 = ((q % 2 : Nat) : Int) := by rw [Int.tmod_eq_emod_of_nonneg (by omega)]; omega
theorem shl8 (k : Nat) (hk : k < 8) : IntKind.u8.wrap (1 * 2 ^ min (Int.toNat (k : Int)) 8) = ((2 ^ k : Nat) : Int) := by
  rcases (by omega : k = 0 ∨ k = 1 ∨ k = 2 ∨ k = 3 ∨ k = 4 ∨ k = 5 ∨ k = 6 ∨ k = 7) with rfl | rfl | rfl | rfl | rfl | rfl | rfl | rfl <;> decide
theorem xor8 (b : UInt8) (k : Nat) : IntKind.u8.wrap (BitVec.toNat (BitVec.ofInt 8 (b.toNat : Int) ^^^ BitVec.ofInt 8 ((2 ^ k : Nat) : Int)) : Int) = ((xorB b k).toNat : Int) := by
  have e1 : BitVec.ofInt 8 (b.toNat : Int) = b.toBitVec := by
    rw [BitVec.ofInt_natCast]; simp
  have e2 : BitVec.ofInt 8 ((2 ^ k : Nat) : Int) = BitVec.ofNat 8 (2 ^ k) := BitVec.ofInt_natCast 8 (2 ^ k)
  rw [e1, e2]
  show (_ : Int) % 256 = _
  have := (b.toBitVec ^^^ BitVec.ofNat 8 (2 ^ k)).isLt
  unfold xorB
  show ((BitVec.toNat (b.toBitVec ^^^ BitVec.ofNat 8 (2 ^ k)) : Nat) : Int) % 256 = ((BitVec.toNat (b.toBitVec ^^^ BitVec.ofNat 8 (2 ^ k)) : Nat) : Int)
  omega
/-- bollard/bollardref05.Has -/
theorem c_rhasb {xa : Option Addr} {xn : Nat} (xc : Nat) {l : List UInt8} {τx : Nat} {s : TH} (hx : Sl s xa (bvs l) τx) (hn : l.length = xn) (i : Nat) (hi : i ≤ 100000000000) : TRet Try.prog 54 #[.slice xa xn xc, .int .i64 (i : Int)] s fun v s' => v = .bool (hasB l i) ∧ Ch [] s s' := by
  refine F54_calls _ _ _ _  ?_
  unfold F54
  refine sB_d (fun hsB1 => ?_) (fun hsB1 => by exfalso; omega)
  refine ask_t (by omega) ?_
  try rw [td8]
  refine wr_t (by omega) ?_
  refine sB_d (fun hsB2 => ?_) (fun hsB2 => ?_)
  ·
    refine ask_t (by omega) ?_
    try rw [td8]
    refine wr_t (by omega) ?_
    obtain ⟨b, hbk⟩ : ∃ b, l[i / 8]? = some b := ⟨l[i / 8]'(by omega), by simp⟩
    have hgd : l.getD (i / 8) 0 = b := by rw [List.getD_eq_getElem?_getD, hbk]; rfl
    obtain ⟨ad, rfl⟩ := hx.some (fun e => by have := bvs_get hbk; rw [e] at this; simp at this)
    refine nz_i ?_
    refine ask_t (by omega) ?_
    refine ld_sl hx (by rw [Int.toNat_natCast, Nat.mul_one]; exact bvs_get hbk) ?_
    refine dInt_i ?_
    refine ask_t (by omega) ?_
    rw [tm8]
    refine nm_t rfl ?_
    refine ask_t (by omega) ?_
    rw [shr8 _ _ (by omega)]
    refine nm_t rfl ?_
    refine ask_t (by omega) ?_
    rw [tm2]
    refine nm_t rfl ?_
    refine ret_t ?_
    exact ⟨ret_b (by unfold hasB; rw [hgd]; apply Bool.eq_iff_iff.2; simp only [beq_iff_eq]; omega), (Ch.refl [] s)⟩
  ·
    refine ret_t ?_
    exact ⟨ret_b (by unfold hasB; rw [List.getD_eq_getElem?_getD, List.getElem?_eq_none (by omega)]; simp), (Ch.refl [] s)⟩
/-- bollard/bollardref05.With -/
theorem c_rwith (τ : Nat) {xa : Option Addr} {xn : Nat} (xc : Nat) {l : List UInt8} {τx : Nat} {s : TH} (hx : Sl s xa (bvs l) τx) (hn : l.length = xn) (h0 : xa = none → xn = 0) (hb : xn ≤ 1000000000) (i : Nat) (hi : i / 8 < xn) (hne : τx ≠ τ) : TRet Try.prog 40 #[.slice xa xn xc, .int .i64 (i : Int), .bool true] s fun v s' => ∃ a' c', v = .tuple #[.slice a' xn c', .int .i64 0] ∧ Ch [τ] s s' ∧ Own s' a' xn c' 5 1 (bvs (setB l i)) τ := by
  refine F40_calls _ _ _ _ _  ?_
  unfold F40
  refine jn_u ?_
  refine sB_d (fun hsB1 => by exfalso; omega) (fun hsB1 => ?_)
  refine ask_t (by omega) ?_
  try rw [td8]
  refine wr_t (by omega) ?_
  intro _ _ _ _ _ _ _ _
  refine dBl_i ?_
  refine sB_d (fun hsB2 => by exfalso; omega) (fun hsB2 => ?_)
  refine al_t τ fun r12 s13 hr12 b_1 c_2 z_3 => ?_
  have x_4 := hx.mv c_2 (tagn (by simp))
  refine app_i u32 in5 rfl (b_1.own0 1) x_4 (by rw [bvs_len]; omega) (bvs_one l) h0 (by unfold maxLen; omega) fun s17 a1 c1 o_7 c_50 hnil => ?_
  have c_5 := c_50.toL rfl
  have z_6 := c_5.size
  rw [Nat.zero_add, List.nil_append] at o_7
  simp only [Nat.zero_add]
  refine dSl_i ?_
  refine jn_u ?_
  have x_8 := x_4.mv c_5 (tagL (by simp <;> omega) (by intro r hr; simp only [List.mem_cons, List.not_mem_nil, or_false] at hr; rcases hr with rfl <;> first | (rw [b_1.tag]; simp <;> omega)))
  refine tcall (c_rhasb xc x_8 hn i (by omega)) ?_
  rintro _ s42 ⟨rfl, c_9⟩
  have z_10 := c_9.size
  refine dBl_i ?_
  first | refine sB_d (fun hsB3 => ?_) (fun hsB3 => ?_) | refine sB_nd (fun hsB3 => ?_) (fun hsB3 => ?_) | refine sB_n (fun hsB3 => ?_) (fun hsB3 => ?_) | refine sB_i (fun hsB3 => ?_) (fun hsB3 => ?_)
  ·
    refine ask_t (by omega) ?_
    try rw [td8]
    refine wr_t (by omega) ?_
    refine ask_t (by omega) ?_
    try rw [td8]
    refine wr_t (by omega) ?_
    have o_11 := o_7.mv c_9 (tagn (by simp))
    have hnh : hasB l i = false := by simpa using hsB3
    obtain ⟨b, hbk⟩ : ∃ b, l[i / 8]? = some b := ⟨l[i / 8]'(by omega), by simp⟩
    have hgd : l.getD (i / 8) 0 = b := by rw [List.getD_eq_getElem?_getD, hbk]; rfl
    obtain ⟨ad, rfl⟩ := Own.ne_none o_11 (by omega)
    refine nz_i ?_
    refine ask_t (by omega) ?_
    refine ld_sl (o_11.sl) (by rw [Int.toNat_natCast, Nat.mul_one]; exact bvs_get hbk) ?_
    refine dInt_i ?_
    refine ask_t (by omega) ?_
    rw [tm8]
    refine nm_t rfl ?_
    refine ask_t (by omega) ?_
    rw [shl8 _ (by omega)]
    refine nm_t rfl ?_
    rw [xor8]
    refine nm_t rfl ?_
    refine nz_i ?_
    refine ask_t (by omega) ?_
    refine Own.st o_11 rfl (by omega) fun s53 b_12 c_13 z_14 => ?_
    have c_15 := Ch.on_tag (T := [τ]) (Ch.refl _ _) c_13 o_11.tagOf (by simp)
    intro _ _ _ _ _ _ _ _ _ _ _ _ _ _ _ _ _ _
    refine ret_t ?_
    have ho := b_12
    rw [show Int.toNat ((i / 8 : Nat) : Int) * 1 = i / 8 by omega, bvs_set] at ho
    exact ⟨_, c1, rfl, (((((Ch.refl [τ] s).ch c_2 (by simp)).chl c_5 (by simp) (by simp <;> omega)).ch c_9 (by simp)).ch c_15 (by simp)), by unfold setB; rw [if_neg (by simp [hnh]), hgd]; exact ho⟩
  ·
    intro _ _ _ _ _ _ _ _ _ _ _ _ _ _ _ _ _ _
    refine ret_t ?_
    have o_16 := o_7.mv c_9 (tagn (by simp))
    have hh : hasB l i = true := by simpa using hsB3
    exact ⟨a1, c1, rfl, ((((Ch.refl [τ] s).ch c_2 (by simp)).chl c_5 (by simp) (by simp <;> omega)).ch c_9 (by simp)), by unfold setB; rw [if_pos hh]; exact o_16⟩
end Go.Proofs.Ytdlelcpkelginaa.E
/- Contracts of functions. -/
namespace Go.Proofs.Ytdlelcpkelginaa.E
open Go Go.Proofs
set_option linter.unusedVariables false
set_option linter.unusedSimpArgs false
theorem rowZ_by (n : Nat) : rowZ [.int .u8 0] n = bvs (List.replicate n 0) := by
  induction n with
  | zero => rfl
  | succ n ih => rw [List.replicate_succ, bvs, List.map_cons, ← bvs, ← ih]; rfl
/-- an inode that may be -/
def DinOk (m l z : Nat) (d0 d1 d2 d3 e1 e2 : Nat) : Prop := (m = 1 ∨ m = 2) ∧ l ≤ 1000 ∧ z ≤ 532992 ∧ d0 < 2048 ∧ d1 < 2048 ∧ d2 < 2048 ∧ d3 < 2048 ∧ e1 < 2048 ∧ e2 < 2048 ∧ (m = 2 → z % 128 = 0)
def dirL (l : List UInt8) (d : List Nat) : Nat → List UInt8
  | 0 => l
  | k + 1 => wrL (dirL l d k) (8 + 2 * k) 2 (d.getD k 0)
theorem dirL_len (l : List UInt8) (d : List Nat) (k : Nat) : (dirL l d k).length = l.length := by
  induction k with
  | zero => rfl
  | succ k ih => rw [dirL, wrL_len, ih]
def dinL (m l z d0 d1 d2 d3 e1 e2 : Nat) : List UInt8 :=
  sealL (wrL (wrL (dirL (wrL (wrL (wrL (List.replicate 32 0) 0 1 m) 2 2 l) 4 4 z) [d0, d1, d2, d3] 4) 16 2 e1) 18 2 e2)
theorem dinL_len (m l z d0 d1 d2 d3 e1 e2 : Nat) : (dinL m l z d0 d1 d2 d3 e1 e2).length = 32 := by unfold dinL; rw [sealL_len, wrL_len, wrL_len, dirL_len, wrL_len, wrL_len, wrL_len]; simp
/-- bollard/bollardref03.address -/
theorem c_raddr (n : Nat) {s : TH} : TRet Try.prog 55 #[.int .i64 (n : Int)] s fun v s' => v = .bool (decide (n < 2048)) ∧ Ch [] s s' := by
  refine F55_calls _  ?_
  unfold F55
  refine sB_d (fun hsB1 => ?_) (fun hsB1 => by exfalso; omega)
  refine ret_t ?_
  exact ⟨ret_b (by apply Bool.eq_iff_iff.2; simp only [decide_eq_true_eq]; omega), (Ch.refl [] s)⟩
/-- bollard/bollardref03.mayDinode -/
theorem c_rmayd (m l z d0 d1 d2 d3 e1 e2 : Nat) {s : TH} (hv : DinOk m l z d0 d1 d2 d3 e1 e2) : TRet Try.prog 42 #[.agg #[.int .i64 (m : Int), .int .i64 (l : Int), .int .i64 (z : Int), .int .i64 (d0 : Int), .int .i64 (d1 : Int), .int .i64 (d2 : Int), .int .i64 (d3 : Int), .int .i64 (e1 : Int), .int .i64 (e2 : Int)]] s fun v s' => v = .bool true ∧ Ch [] s s' := by
  have hv2 := hv
  unfold DinOk at hv2
  refine F42_calls _ _ _ _ _ _ _ _ _  ?_
  unfold F42
  refine al_t 0 fun r1 s2 hr1 b_1 c_2 z_3 => ?_
  refine ld_t b_1 rfl ?_
  refine dInt_i ?_
  refine sB_eq (fun hsB1 => by exfalso; omega) (fun hsB1 => ?_)
  refine jn1 (fun v19 s' => ChL [] [] s2 s' ∧ (v19 = Value.bool false)) ?_ ?_
  ·
    rintro v19 s20 ⟨c_4, rfl⟩
    have z_5 := c_4.size
    intro _ _ _ _ _ _ _ _ _ _ _ _ _ _ _ _ _ _ _ _ _ _ _ _ _ _ _
    refine dBl_i ?_
    refine sB_f (by rfl) ?_
    have r1_6 := b_1.chl c_4 (by simp <;> omega) (by simp <;> omega)
    refine ld_t r1_6 rfl ?_
    refine ld_t r1_6 rfl ?_
    refine ld_t r1_6 rfl ?_
    refine ld_t r1_6 rfl ?_
    refine ⟨fun vs H' => ∃ s' : TH, s'.h = H' ∧ ∃ i0, vs = [.int .i64 i0] ∧ ChL [] [] s20 s' ∧ (∃ k : Nat, i0 = k ∧ k ≤ 4), fun vs H' => match vs with | [.int .i64 i0] => (4 - i0).toNat | _ => 0, ⟨s20, rfl, _, rfl, ChL.refl _ _ _, ?_⟩, ?_⟩
    ·
      exact ⟨0, rfl, by omega⟩
    ·
      intro i0 _ _ _ _ _ _ _ _ H64 hI
      obtain ⟨s64, rfl, i0_, hvs, c_7, k, rfl, hk⟩ := hI
      cases hvs
      have z_8 := c_7.size
      refine sB_d (fun hsB3 => ?_) (fun hsB3 => ?_)
      ·
        refine ask_t (by omega) ?_
        obtain ⟨dk, hdk, hgk, hdl⟩ : ∃ dk : Nat, ([Value.int .i64 (d0 : Int), .int .i64 (d1 : Int), .int .i64 (d2 : Int), .int .i64 (d3 : Int)] : List Value)[Int.toNat (k : Int) * 1]? = some (.int .i64 (dk : Int)) ∧ [d0, d1, d2, d3].getD k 0 = dk ∧ dk < 2048 := by rcases (by omega : k = 0 ∨ k = 1 ∨ k = 2 ∨ k = 3) with rfl | rfl | rfl | rfl <;> first | exact ⟨d0, rfl, rfl, by omega⟩ | exact ⟨d1, rfl, rfl, by omega⟩ | exact ⟨d2, rfl, rfl, by omega⟩ | exact ⟨d3, rfl, rfl, by omega⟩
        refine oV_i hdk ?_
        refine dInt_i ?_
        refine tcall (c_raddr dk) ?_
        rintro _ s69 ⟨rfl, c_9⟩
        have z_10 := c_9.size
        refine dBl_i ?_
        refine sB_f (by simp [hdl]) ?_
        refine wr_t (by omega) ?_
        refine ⟨⟨s69, rfl, _, rfl, (((ChL.refl [] [] s20).chl c_7 (by simp) (by simp <;> omega)).ch c_9 (by simp)), ?_⟩, ?_⟩
        ·
          exact ⟨k + 1, by omega, by omega⟩
        ·
          simp only []; omega
      ·
        have r1_11 := r1_6.chl c_7 (by simp <;> omega) (by simp <;> omega)
        refine ld_t r1_11 rfl ?_
        refine dInt_i ?_
        refine tcall (c_raddr e1) ?_
        rintro _ s77 ⟨rfl, c_12⟩
        have z_13 := c_12.size
        refine dBl_i ?_
        refine sB_t (by simp; omega) ?_
        have r1_14 := r1_11.ch c_12 (by simp)
        refine ld_t r1_14 rfl ?_
        refine dInt_i ?_
        refine tcall (c_raddr e2) ?_
        rintro _ s82 ⟨rfl, c_15⟩
        have z_16 := c_15.size
        refine dBl_i ?_
        refine sB_t (by simp; omega) ?_
        have r1_17 := r1_14.ch c_15 (by simp)
        refine ld_t r1_17 rfl ?_
        refine dInt_i ?_
        refine sB_ne (fun hsB7 => ?_) (fun hsB7 => ?_)
        ·
          refine ret_t ?_
          exact ⟨ret_b (by first | rfl | (have hz := hv2.2.2.2.2.2.2.2.2.2 (by omega); exact beq_iff_eq.2 (by omega))), ((((((Ch.refl [] s).ch c_2 (by simp)).chl c_4 (by simp) (by simp <;> omega)).chl c_7 (by simp) (by simp <;> omega)).ch c_12 (by simp)).ch c_15 (by simp))⟩
        ·
          refine ld_t r1_17 rfl ?_
          refine dInt_i ?_
          refine ask_t (by omega) ?_
          refine nm_a fun n88 hn88 => ?_
          rw [Int.tmod_eq_emod_of_nonneg (by omega)] at hn88
          refine ret_t ?_
          exact ⟨ret_b (by first | rfl | (have hz := hv2.2.2.2.2.2.2.2.2.2 (by omega); exact beq_iff_eq.2 (by omega))), ((((((Ch.refl [] s).ch c_2 (by simp)).chl c_4 (by simp) (by simp <;> omega)).chl c_7 (by simp) (by simp <;> omega)).ch c_12 (by simp)).ch c_15 (by simp))⟩
  ·
    intro k93 hk93
    refine ld_t b_1 rfl ?_
    refine dInt_i ?_
    refine sB_ne (fun hsB8 => ?_) (fun hsB8 => ?_)
    ·
      refine ld_t b_1 rfl ?_
      refine dInt_i ?_
      refine sB_ne (fun hsB9 => by exfalso; omega) (fun hsB9 => ?_)
      refine ld_t b_1 rfl ?_
      refine dInt_i ?_
      refine sB_d (fun hsB10 => by exfalso; omega) (fun hsB10 => ?_)
      refine ld_t b_1 rfl ?_
      refine dInt_i ?_
      refine sB_d (fun hsB11 => by exfalso; omega) (fun hsB11 => ?_)
      refine ld_t b_1 rfl ?_
      refine dInt_i ?_
      refine sB_d (fun hsB12 => by exfalso; omega) (fun hsB12 => ?_)
      refine ld_t b_1 rfl ?_
      refine dInt_i ?_
      refine hk93 _ _ ⟨(ChL.refl [] [] s2), ?_⟩
      exact congrArg Value.bool (by simp; omega)
    ·
      refine ld_t b_1 rfl ?_
      refine dInt_i ?_
      refine sB_d (fun hsB13 => by exfalso; omega) (fun hsB13 => ?_)
      refine ld_t b_1 rfl ?_
      refine dInt_i ?_
      refine sB_d (fun hsB14 => by exfalso; omega) (fun hsB14 => ?_)
      refine ld_t b_1 rfl ?_
      refine dInt_i ?_
      refine sB_d (fun hsB15 => by exfalso; omega) (fun hsB15 => ?_)
      refine ld_t b_1 rfl ?_
      refine dInt_i ?_
      refine hk93 _ _ ⟨(ChL.refl [] [] s2), ?_⟩
      exact congrArg Value.bool (by simp; omega)
/-- bollard/bollardref03.EncodeDinode -/
theorem c_encDin (τ : Nat) (m l z d0 d1 d2 d3 e1 e2 : Nat) {s : TH} (hτ : τ ≠ 0) (hv : DinOk m l z d0 d1 d2 d3 e1 e2) : TRet Try.prog 20 #[.agg #[.int .i64 (m : Int), .int .i64 (l : Int), .int .i64 (z : Int), .int .i64 (d0 : Int), .int .i64 (d1 : Int), .int .i64 (d2 : Int), .int .i64 (d3 : Int), .int .i64 (e1 : Int), .int .i64 (e2 : Int)]] s fun v s' => ∃ a' c', v = .tuple #[.slice a' 32 c', .int .i64 0] ∧ Ch [τ] s s' ∧ Own s' a' 32 c' 5 1 (bvs (dinL m l z d0 d1 d2 d3 e1 e2)) τ := by
  have hv2 := hv
  unfold DinOk at hv2
  refine F20_calls _ _ _ _ _ _ _ _ _  ?_
  unfold F20
  refine al_t 0 fun r1 s2 hr1 b_1 c_2 z_3 => ?_
  refine ld_t b_1 rfl ?_
  refine ld_t b_1 rfl ?_
  refine ld_t b_1 rfl ?_
  refine ld_t b_1 rfl ?_
  refine ld_t b_1 rfl ?_
  refine ld_t b_1 rfl ?_
  refine ld_t b_1 rfl ?_
  refine ld_t b_1 rfl ?_
  refine ld_t b_1 rfl ?_
  refine tcall (c_rmayd _ _ _ _ _ _ _ _ _ hv) ?_
  rintro _ s13 ⟨rfl, c_4⟩
  have z_5 := c_4.size
  refine dBl_i ?_
  refine sB_f (by rfl) ?_
  refine ask_t (by omega) ?_
  refine al_t 0 fun r15 s16 hr15 b_6 c_7 z_8 => ?_
  have hz0 := b_6.sl
  rw [rowZ_by] at hz0
  have r1_9 := b_1.ch c_4 (by simp)
  have r1_10 := r1_9.ch c_7 (by simp)
  refine ld_t r1_10 rfl ?_
  refine dInt_i ?_
  refine sB_eq (fun hsB2 => by exfalso; omega) (fun hsB2 => ?_)
  refine ld_t r1_10 rfl ?_
  refine dInt_i ?_
  refine tcall (c_rnum τ _ hz0 (by simp) (by intro h; cases h) (by omega) 0 1 m (by omega) (by omega) (by omega)) ?_
  rintro _ s22 ⟨acall2, ccall2, rfl, c_11, o_13⟩
  have z_12 := c_11.size
  refine dSl_i ?_
  have r1_14 := r1_10.ch c_11 (by intro h; simp only [List.mem_cons, List.not_mem_nil, or_false] at h <;> omega)
  refine ld_t r1_14 rfl ?_
  refine dInt_i ?_
  refine tcall (c_rnum τ _ o_13.sl (by simp [wrL_len, dirL_len]) o_13.none_iff (by omega) 2 2 l (by omega) (by omega) (by omega)) ?_
  rintro _ s29 ⟨acall3, ccall3, rfl, c_15, o_17⟩
  have z_16 := c_15.size
  refine dSl_i ?_
  have r1_18 := r1_14.ch c_15 (by intro h; simp only [List.mem_cons, List.not_mem_nil, or_false] at h <;> omega)
  refine ld_t r1_18 rfl ?_
  refine dInt_i ?_
  refine tcall (c_rnum τ _ o_17.sl (by simp [wrL_len, dirL_len]) o_17.none_iff (by omega) 4 4 z (by omega) (by omega) (by omega)) ?_
  rintro _ s36 ⟨acall4, ccall4, rfl, c_19, o_21⟩
  have z_20 := c_19.size
  refine dSl_i ?_
  have r1_22 := r1_18.ch c_19 (by intro h; simp only [List.mem_cons, List.not_mem_nil, or_false] at h <;> omega)
  refine ld_t r1_22 rfl ?_
  refine ld_t r1_22 rfl ?_
  refine ld_t r1_22 rfl ?_
  refine ld_t r1_22 rfl ?_
  refine ⟨fun vs H' => ∃ s' : TH, s'.h = H' ∧ ∃ pa pn pc i0, vs = [.slice pa pn pc, .int .i64 i0] ∧ ChL [τ] [] s36 s' ∧ (∃ k : Nat, i0 = k ∧ k ≤ 4 ∧ pn = 32 ∧ Own s' pa 32 pc 5 1 (bvs (dirL (wrL (wrL (wrL (List.replicate 32 0) 0 1 m) 2 2 l) 4 4 z) [d0, d1, d2, d3] k)) τ), fun vs H' => match vs with | [.slice pa pn pc, .int .i64 i0] => (4 - i0).toNat | _ => 0, ⟨s36, rfl, _, _, _, _, rfl, ChL.refl _ _ _, ?_⟩, ?_⟩
  ·
    exact ⟨0, rfl, by omega, rfl, o_21⟩
  ·
    intro pa pn pc i0 _ _ _ _ _ _ _ _ _ _ _ _ H62 hI
    obtain ⟨s62, rfl, pa_, pn_, pc_, i0_, hvs, c_23, k, rfl, hk, rfl, o_25⟩ := hI
    cases hvs
    have z_24 := c_23.size
    refine sB_d (fun hsB3 => ?_) (fun hsB3 => ?_)
    ·
      refine ask_t (by omega) ?_
      obtain ⟨dk, hdk, hgk, hdl⟩ : ∃ dk : Nat, ([Value.int .i64 (d0 : Int), .int .i64 (d1 : Int), .int .i64 (d2 : Int), .int .i64 (d3 : Int)] : List Value)[Int.toNat (k : Int) * 1]? = some (.int .i64 (dk : Int)) ∧ [d0, d1, d2, d3].getD k 0 = dk ∧ dk < 2048 := by rcases (by omega : k = 0 ∨ k = 1 ∨ k = 2 ∨ k = 3) with rfl | rfl | rfl | rfl <;> first | exact ⟨d0, rfl, rfl, by omega⟩ | exact ⟨d1, rfl, rfl, by omega⟩ | exact ⟨d2, rfl, rfl, by omega⟩ | exact ⟨d3, rfl, rfl, by omega⟩
      refine oV_i hdk ?_
      refine dInt_i ?_
      refine wr_t (by omega) ?_
      refine wr_t (by omega) ?_
      rw [show (8 + 2 * (k : Int)) = ((8 + 2 * k : Nat) : Int) by omega]
      refine tcall (c_rnum τ _ o_25.sl (by simp [wrL_len, dirL_len]) o_25.none_iff (by omega) (8 + 2 * k) 2 dk (by omega) (by omega) (by omega)) ?_
      rintro _ s69 ⟨acall5, ccall5, rfl, c_26, o_28⟩
      have z_27 := c_26.size
      refine dSl_i ?_
      refine wr_t (by omega) ?_
      refine ⟨⟨s69, rfl, _, _, _, _, rfl, (((ChL.refl [τ] [] s36).chl c_23 (by simp) (by simp <;> omega)).ch c_26 (by simp)), ?_⟩, ?_⟩
      ·
        exact ⟨k + 1, by omega, by omega, rfl, by have ho := o_28; rw [dirL, hgk]; exact ho⟩
      ·
        simp only []; omega
    ·
      have r1_29 := r1_22.chl c_23 (by simp <;> omega) (by simp <;> omega)
      refine ld_t r1_29 rfl ?_
      refine dInt_i ?_
      obtain rfl : k = 4 := by omega
      refine tcall (c_rnum τ _ o_25.sl (by simp [wrL_len, dirL_len]) o_25.none_iff (by omega) 16 2 e1 (by omega) (by omega) (by omega)) ?_
      rintro _ s79 ⟨acall6, ccall6, rfl, c_30, o_32⟩
      have z_31 := c_30.size
      refine dSl_i ?_
      have r1_33 := r1_29.ch c_30 (by intro h; simp only [List.mem_cons, List.not_mem_nil, or_false] at h <;> omega)
      refine ld_t r1_33 rfl ?_
      refine dInt_i ?_
      refine tcall (c_rnum τ _ o_32.sl (by simp [wrL_len, dirL_len]) o_32.none_iff (by omega) 18 2 e2 (by omega) (by omega) (by omega)) ?_
      rintro _ s86 ⟨acall7, ccall7, rfl, c_34, o_36⟩
      have z_35 := c_34.size
      refine dSl_i ?_
      refine tcall (c_rseal τ _ o_36.sl (by simp [wrL_len, dirL_len]) o_36.none_iff (by omega) o_36.le (by omega)) ?_
      rintro _ s91 ⟨a8, c8, rfl, c_37, o_39⟩
      have z_38 := c_37.size
      refine dT2 ?_
      refine dSl_i ?_
      refine dInt_i ?_
      refine ret_t ?_
      exact ⟨a8, c8, rfl, (((((((((((Ch.refl [τ] s).ch c_2 (by simp)).ch c_4 (by simp)).ch c_7 (by simp)).ch c_11 (by simp)).ch c_15 (by simp)).ch c_19 (by simp)).chl c_23 (by simp) (by simp <;> omega)).ch c_30 (by simp)).ch c_34 (by simp)).ch c_37 (by simp)), o_39⟩
end Go.Proofs.Ytdlelcpkelginaa.E
/- Copying bytes, or a text's, into a part of a slice of its own. -/
namespace Go.Proofs.Ytdlelcpkelginaa.E
open Go
set_option linter.unusedVariables false
section
variable {P : Program} {t t2 ty e : TypeId} {E : List PanicEntry → Heap → Prop}
theorem mid_get {α : Type} (A B : List α) (p : Nat) (hp : p ≤ A.length) (hB : p + B.length ≤ A.length) (i : Nat) :
    (A.take p ++ B ++ A.drop (p + B.length))[i]? = if i < p then A[i]? else if i < p + B.length then B[i - p]? else A[i]? := by
  have h1 : (A.take p).length = p := by simp; omega
  rw [List.append_assoc, List.getElem?_append, h1]
  by_cases h : i < p
  · rw [if_pos h, if_pos h, List.getElem?_take, if_pos h]
  · rw [if_neg h, if_neg h, List.getElem?_append]
    by_cases h2 : i < p + B.length
    · rw [if_pos (by omega), if_pos h2]
    · rw [if_neg (by omega), if_neg h2, List.getElem?_drop]
      congr 1; omega
theorem copy_gen {s : TH} {a : Addr} {n c p m : Nat} {l x : List UInt8} {τ : Nat} {src : Value} {K : Value → Heap → Prop}
    (ht : P.underlying t = some (.slice e)) (hi' : (P.info? e).map (fun i => (i.zero, i.size, i.bytes)) = some (some (.int .u8 0), 1, 1))
    (hO : Own s (some a) n c e 1 (bvs l) τ) (hp : p ≤ n) (hlen : ∀ w, (Builtin.lenOf src).run P w = .ok m w) (hx : x.length = min m (n - p))
    (hf : ∀ w : World, w.heap = s.h → (Builtin.firstCells 1 (min m (n - p)) src).run P w = .ok (bvs x).toArray w)
    (hk : ∀ s' : TH, Own s' (some a) n c e 1 (bvs (l.take p ++ x ++ l.drop (p + x.length))) τ → OnA (some a) s s' → s.h.size = s'.h.size → K (.int .i64 ((min m (n - p) : Nat) : Int)) s'.h) :
    semW P (Builtin.copy_ #[t, t2] ty #[.slice (slO (some a) 1 (p : Int) (c : Int)) (n - p) (c - p), src]) E s.h K := .mk fun w hw => by
  obtain ⟨i, hi, hz, hs, hby⟩ := info_of hi'
  have hln : l.length = n := by have := hO.1; rw [bvs_len] at this; omega
  rcases hO.2 with ⟨h0, _⟩ | ⟨g, o, L, h2, h3, h4, h5, h6, h7⟩
  · cases h0
  cases h2
  have hfw := hf w hw
  by_cases hx0 : x = []
  · subst hx0
    have hm0 : min m (n - p) = 0 := by simpa using hx.symm
    rw [hm0] at hfw hk
    have hr : (Builtin.copy_ #[t, t2] ty #[.slice (slO (some ⟨g, o, none⟩) 1 (p : Int) (c : Int)) (n - p) (c - p), src]).run P w = .ok (.int .i64 ((0 : Nat) : Int)) w := by
      simp [slO, Builtin.copy_, run_underlying ht, sizeOf, typeInfo, hi, hs, hlen, hm0, hfw, bvs, storeCells, goInt]
    rw [hr]
    refine ⟨?_, Like.refl w⟩
    rw [hw]
    exact hk s (by simpa using hO) ⟨Nat.le_refl _, fun _ _ => rfl, fun _ _ _ => rfl⟩ rfl
  · have hxl : 0 < x.length := List.length_pos_iff.2 hx0
    have hsl : slO (some ⟨g, o, none⟩) 1 (p : Int) (c : Int) = some ⟨g, o + p, none⟩ := by rw [slA_mk, if_neg (by omega)]; simp
    have hst := run_storeCells_at P g (o + p) e (bvs x) 0 L.toArray w (by rw [hw]; exact h3.get) (by simp [bvs_len]; omega) (bvs_one _)
    simp only [Nat.add_zero, bvs_len] at hst
    have hr : (Builtin.copy_ #[t, t2] ty #[.slice (slO (some ⟨g, o, none⟩) 1 (p : Int) (c : Int)) (n - p) (c - p), src]).run P w = .ok (.int .i64 ((min m (n - p) : Nat) : Int)) (w.setRow g (L.take (o + p) ++ bvs x ++ L.drop (o + p + x.length)).toArray) := by
      rw [hsl]
      simp [Builtin.copy_, run_underlying ht, sizeOf, typeInfo, hi, hs, hlen, hfw, hst, goInt]
    rw [hr]
    have hset : (w.setRow g (L.take (o + p) ++ bvs x ++ L.drop (o + p + x.length)).toArray).heap[g]? = some (.cells (L.take (o + p) ++ bvs x ++ L.drop (o + p + x.length)).toArray e (0, 0)) := setRow_heap w g L.toArray _ e _ (by rw [hw]; exact h3.get)
    have hK := hk ⟨(w.setRow g (L.take (o + p) ++ bvs x ++ L.drop (o + p + x.length)).toArray).heap, s.g⟩ ⟨?_, .inr ⟨g, o, _, rfl, ⟨hset, h3.tag⟩, h4, h5, ?_, ?_⟩⟩ ⟨by simp [← hw], fun _ _ => rfl, fun j hj hn => ?_⟩ (by simp [← hw])
    · exact ⟨hK, rfl, rfl, rfl⟩
    · rw [bvs_len]; simp; omega
    · simp only [List.length_append, List.length_take, List.length_drop, bvs_len]; omega
    · apply List.ext_getElem?
      intro j
      have hLl : ∀ q, q < n → L[o + q]? = (bvs l)[q]? := fun q hq => by rw [← h7, List.getElem?_take, if_pos (by omega), List.getElem?_drop]
      have hb : bvs (l.take p ++ x ++ l.drop (p + x.length)) = (bvs l).take p ++ bvs x ++ (bvs l).drop (p + (bvs x).length) := by simp [bvs, List.map_take, List.map_drop]
      rw [hb, mid_get _ _ _ (by rw [bvs_len]; omega) (by rw [bvs_len, bvs_len]; omega), List.getElem?_take]
      have hmid := mid_get L (bvs x) (o + p) (by omega) (by rw [bvs_len]; omega) (o + j)
      rw [bvs_len] at hmid ⊢
      by_cases hj : j < n * 1
      · rw [if_pos hj, List.getElem?_drop, hmid]
        by_cases h8 : j < p
        · rw [if_pos (by omega), if_pos h8]; exact hLl j (by omega)
        · rw [if_neg (by omega), if_neg h8]
          by_cases h9 : j < p + x.length
          · rw [if_pos (by omega), if_pos h9]; congr 1; omega
          · rw [if_neg (by omega), if_neg h9]; exact hLl j (by omega)
      · rw [if_neg hj, if_neg (by omega), if_neg (by omega)]
        exact (List.getElem?_eq_none (by rw [bvs_len]; omega)).symm
    · show (w.setRow g _).heap[j]? = _
      rw [setRow_other w g j _ (fun e => hn (by simp [e])), hw]
theorem copy_os {s : TH} {a : Addr} {n c p : Nat} {l : List UInt8} {τ : Nat} (d : Array UInt8) {K : Value → Heap → Prop}
    (ht : P.underlying t = some (.slice e)) (hi' : (P.info? e).map (fun i => (i.zero, i.size, i.bytes)) = some (some (.int .u8 0), 1, 1))
    (hO : Own s (some a) n c e 1 (bvs l) τ) (hp : p ≤ n)
    (hk : ∀ s' : TH, Own s' (some a) n c e 1 (bvs (l.take p ++ d.toList.take (n - p) ++ l.drop (p + (d.toList.take (n - p)).length))) τ → OnA (some a) s s' → s.h.size = s'.h.size → K (.int .i64 ((min d.size (n - p) : Nat) : Int)) s'.h) :
    semW P (Builtin.copy_ #[t, t2] ty #[.slice (slO (some a) 1 (p : Int) (c : Int)) (n - p) (c - p), .string ⟨d⟩]) E s.h K := by
  refine copy_gen (m := d.size) (x := d.toList.take (n - p)) ht hi' hO hp (fun w => rfl) (by simp; omega) (fun w hw => ?_) hk
  simp only [Builtin.firstCells]
  show Result.ok _ w = _
  congr 1
  apply Array.toList_inj.1
  simp only [bvs, Array.toList_map, ByteArray.data_extract, Array.toList_extract]
  apply List.ext_getElem?
  intro j
  simp [List.getElem?_take]
  by_cases h : j < d.size ∧ j < n - p
  · simp [h.1, h.2]; exact ⟨by omega, rfl⟩
  · by_cases h1 : j < n - p
    · have : ¬ j < d.size := fun h2 => h ⟨h2, h1⟩
      simp [h1, this]
    · simp [h1]; omega
end
end Go.Proofs.Ytdlelcpkelginaa.E
/- Contracts of functions. -/
namespace Go.Proofs.Ytdlelcpkelginaa.E
open Go Go.Proofs
set_option linter.unusedVariables false
set_option linter.unusedSimpArgs false
theorem eqf_last {P : Program} {d : Nat} {xs ys : Array Value} {f : Field} {a b : Value} {r : Bool} {w : World} (hn : (f.name == "_") = false) (ha : (part f.type xs f.offset).run P w = .ok a w) (hb : (part f.type ys f.offset).run P w = .ok b w) (he : (Op.equalIn d f.type a b).run P w = .ok r w) : (Op.eqFields d xs ys [f]).run P w = .ok r w := by
  have hn' : f.name ≠ "_" := by simpa using hn
  simp only [Op.eqFields, if_pos hn', Sem.run_bind, ha, hb, he, Result.andThen_ok]
  cases r <;> simp
theorem eqf_cons {P : Program} {d : Nat} {xs ys : Array Value} {f : Field} {fs : List Field} {a b : Value} {r s : Bool} {w : World} (hn : (f.name == "_") = false) (ha : (part f.type xs f.offset).run P w = .ok a w) (hb : (part f.type ys f.offset).run P w = .ok b w) (he : (Op.equalIn d f.type a b).run P w = .ok r w) (hr : (Op.eqFields d xs ys fs).run P w = .ok s w) : (Op.eqFields d xs ys (f :: fs)).run P w = .ok (r && s) w := by
  have hn' : f.name ≠ "_" := by simpa using hn
  rw [Op.eqFields]
  simp only [if_pos hn', Sem.run_bind, ha, hb, he, Result.andThen_ok]
  cases r
  · simp
  · simpa using hr
theorem ent_fields : Try.prog.fieldsOf 53 = #[{ name := "Ino", type := 3, offset := 0, embedded := false, tag := "", pkgPath := "", byteOffset := 0 }, { name := "Name", type := 9, offset := 1, embedded := false, tag := "", pkgPath := "", byteOffset := 8 }] := by kernel_rfl
theorem eq_ent {E : List PanicEntry → Heap → Prop} {s : TH} {a b : Int} {c d : ByteArray} {x y : Operand} {K : Value → Heap → Prop} (hk : K (.bool (a == b && c == d)) s.h) :
    semW Try.prog (eqSem .eql 53 x y (.agg #[.int .i64 a, .string c]) (.agg #[.int .i64 b, .string d])) E s.h K := .mk fun w hw => by
  have hgt : Try.prog.eqGuardType Try.prog.depth 53 = false := by kernel_rfl
  have hs : Try.prog.stoodInHeld 53 = false := by kernel_rfl
  have hu : Try.prog.underlying 53 = some (.struct (Try.prog.fieldsOf 53)) := by kernel_rfl
  have hf : ∀ n, (Op.eqFields (n + 1) #[.int .i64 a, .string c] #[.int .i64 b, .string d] (Try.prog.fieldsOf 53).toList).run Try.prog w = .ok (a == b && c == d) w := by
    intro n
    rw [ent_fields]
    refine eqf_cons (a := .int .i64 a) (b := .int .i64 b) (by decide) ?_ ?_ ?_ (eqf_last (a := .string c) (b := .string d) (by decide) ?_ ?_ ?_)
    · simp [part, Try.sizeOf3, Try.isAgg3]
    · simp [part, Try.sizeOf3, Try.isAgg3]
    · simp [Op.equalIn, Try.runUnderlying3]
    · simp [part, Try.sizeOf9, Try.isAgg9]
    · simp [part, Try.sizeOf9, Try.isAgg9]
    · simp [Op.equalIn, Try.runUnderlying9]
  have hr : (eqSem .eql 53 x y (.agg #[.int .i64 a, .string c]) (.agg #[.int .i64 b, .string d])).run Try.prog w = .ok (.bool (a == b && c == d)) w := by
    have he : (Op.equalIn Op.maxDepth 53 (.agg #[.int .i64 a, .string c]) (.agg #[.int .i64 b, .string d])).run Try.prog w = .ok (a == b && c == d) w := by
      show (Op.equalIn (9999 + 1) 53 _ _).run _ w = _
      rw [run_equalIn_struct (P := Try.prog) w 9999 53 _ _ hu hs]
      exact hf 9998
    simp [eqSem, eqGuard, hgt, binOp, Op.equal, he]
  rw [hr]; exact ⟨by rw [hw]; exact hk, Like.refl w⟩
def entL (i : Nat) (d : List UInt8) : List UInt8 :=
  (wrL (wrL (List.replicate 16 0) 0 2 i) 2 1 d.length).take 3 ++ d.take 13 ++ (wrL (wrL (List.replicate 16 0) 0 2 i) 2 1 d.length).drop (3 + (d.take 13).length)
theorem entL_len (i : Nat) (d : List UInt8) : (entL i d).length = 16 := by unfold entL; simp [wrL_len]; omega
/-- bollard/bollardref03.IsName -/
theorem c_nameD1 {s : TH} : TRet Try.prog 58 #[.string ⟨#[46]⟩] s fun v s' => v = .bool false ∧ Ch [] s s' := by
  refine F58_calls _  ?_
  unfold F58
  refine jn_u ?_
  refine sB_f (by simp [ByteArray.toList_mk]) ?_
  refine sB_f (by rfl) ?_
  refine sB_t (by simp [ByteArray.toList_mk]) ?_
  intro _ _ _ _ _ _ _ _ _ _ _ _ _ _
  refine dBl_i ?_
  refine sB_t (by rfl) ?_
  refine ret_t ?_
  exact ⟨rfl, (Ch.refl [] s)⟩
/-- bollard/bollardref03.EncodeEntry -/
theorem c_encEnt1 (τ i : Nat) {s : TH} (hτ : τ ≠ 0) (hi : 1 ≤ i ∧ i ≤ 511) : TRet Try.prog 46 #[.agg #[.int .i64 (i : Int), .string ⟨#[46]⟩]] s fun v s' => ∃ a' c', v = .tuple #[.slice a' 16 c', .int .i64 0] ∧ Ch [τ] s s' ∧ Own s' a' 16 c' 5 1 (bvs (entL i (#[46] : Array UInt8).toList)) τ := by
  refine F46_calls _ _  ?_
  unfold F46
  refine al_t 0 fun r1 s2 hr1 b_1 c_2 z_3 => ?_
  refine ask_t (by omega) ?_
  refine al_t 0 fun r3 s4 hr3 b_4 c_5 z_6 => ?_
  have hz0 := b_4.sl
  rw [rowZ_by] at hz0
  have r1_7 := b_1.ch c_5 (by simp)
  refine ld_t r1_7 rfl ?_
  refine ld_t r1_7 rfl ?_
  refine eq_ent ?_
  refine dBl_i ?_
  refine sB_f (by simp; omega) ?_
  refine jn_u ?_
  refine ld_t r1_7 rfl ?_
  refine dInt_i ?_
  refine sB_d (fun hsB2 => by exfalso; omega) (fun hsB2 => ?_)
  refine ld_t r1_7 rfl ?_
  refine dInt_i ?_
  refine sB_d (fun hsB3 => by exfalso; omega) (fun hsB3 => ?_)
  refine ld_t r1_7 rfl ?_
  refine dStr_i ?_
  refine tcall (c_nameD1) ?_
  rintro _ s71 ⟨rfl, c_8⟩
  have z_9 := c_8.size
  refine dBl_i ?_
  refine sB_t (by rfl) ?_
  have r1_10 := r1_7.ch c_8 (by simp)
  refine ld_t r1_10 rfl ?_
  refine dStr_i ?_
  refine sB_f (by simp [ByteArray.toList_mk]) ?_
  intro _ _ _ _ _ _ _ _ _ _ _ _ _ _ _ _ _ _ _ _ _ _ _
  refine dBl_i ?_
  refine sB_f (by rfl) ?_
  refine ld_t r1_10 rfl ?_
  refine dInt_i ?_
  have z_11 := hz0.mv c_8 (tagn (by simp))
  refine tcall (c_rnum τ _ z_11 (by simp) (by intro h; cases h) (by omega) 0 2 i (by omega) (by omega) (by omega)) ?_
  rintro _ s41 ⟨a2, c2, rfl, c_12, o_14⟩
  have z_13 := c_12.size
  refine dSl_i ?_
  have r1_15 := r1_10.ch c_12 (by intro h; simp only [List.mem_cons, List.not_mem_nil, or_false] at h <;> omega)
  refine ld_t r1_15 rfl ?_
  refine dStr_i ?_
  refine tcall (c_rnum τ _ o_14.sl (by simp [wrL_len]) o_14.none_iff (by omega) 2 1 (ByteArray.size ⟨#[46]⟩) (by omega) (by omega) (by decide)) ?_
  rintro _ s48 ⟨a3, c3, rfl, c_16, o_18⟩
  have z_17 := c_16.size
  refine dSl_i ?_
  refine ask_t (by have := (o_18).le; omega) ?_
  have r1_19 := r1_15.ch c_16 (by intro h; simp only [List.mem_cons, List.not_mem_nil, or_false] at h <;> omega)
  refine ld_t r1_19 rfl ?_
  refine dStr_i ?_
  obtain ⟨ad, rfl⟩ := Own.ne_none o_18 (by omega)
  simp only [Int.toNat_natCast]
  rw [show Int.toNat 3 = 3 from rfl]
  refine copy_os (p := 3) #[46] u32 in5 o_18 (by omega) fun s57 o2_22 c_200 hsz => ?_
  have c_20 := c_200.ch (T := [τ]) o_18 (by simp)
  have z_21 := c_20.size
  refine dInt_i ?_
  refine ret_t ?_
  exact ⟨_, _, rfl, (((((((Ch.refl [τ] s).ch c_2 (by simp)).ch c_5 (by simp)).ch c_8 (by simp)).ch c_12 (by simp)).ch c_16 (by simp)).ch c_20 (by simp)), o2_22⟩
/-- bollard/bollardref03.IsName -/
theorem c_nameD2 {s : TH} : TRet Try.prog 58 #[.string ⟨#[46, 46]⟩] s fun v s' => v = .bool false ∧ Ch [] s s' := by
  refine F58_calls _  ?_
  unfold F58
  refine jn_u ?_
  refine sB_f (by simp [ByteArray.toList_mk]) ?_
  refine sB_f (by rfl) ?_
  refine sB_f (by simp [ByteArray.toList_mk]) ?_
  intro _ _ _ _ _ _ _ _ _ _ _ _ _ _
  refine dBl_i ?_
  refine sB_t (by simp [ByteArray.toList_mk]) ?_
  refine ret_t ?_
  exact ⟨rfl, (Ch.refl [] s)⟩
/-- bollard/bollardref03.EncodeEntry -/
theorem c_encEnt2 (τ i : Nat) {s : TH} (hτ : τ ≠ 0) (hi : 1 ≤ i ∧ i ≤ 511) : TRet Try.prog 46 #[.agg #[.int .i64 (i : Int), .string ⟨#[46, 46]⟩]] s fun v s' => ∃ a' c', v = .tuple #[.slice a' 16 c', .int .i64 0] ∧ Ch [τ] s s' ∧ Own s' a' 16 c' 5 1 (bvs (entL i (#[46, 46] : Array UInt8).toList)) τ := by
  refine F46_calls _ _  ?_
  unfold F46
  refine al_t 0 fun r1 s2 hr1 b_1 c_2 z_3 => ?_
  refine ask_t (by omega) ?_
  refine al_t 0 fun r3 s4 hr3 b_4 c_5 z_6 => ?_
  have hz0 := b_4.sl
  rw [rowZ_by] at hz0
  have r1_7 := b_1.ch c_5 (by simp)
  refine ld_t r1_7 rfl ?_
  refine ld_t r1_7 rfl ?_
  refine eq_ent ?_
  refine dBl_i ?_
  refine sB_f (by simp; omega) ?_
  refine jn_u ?_
  refine ld_t r1_7 rfl ?_
  refine dInt_i ?_
  refine sB_d (fun hsB2 => by exfalso; omega) (fun hsB2 => ?_)
  refine ld_t r1_7 rfl ?_
  refine dInt_i ?_
  refine sB_d (fun hsB3 => by exfalso; omega) (fun hsB3 => ?_)
  refine ld_t r1_7 rfl ?_
  refine dStr_i ?_
  refine tcall (c_nameD2) ?_
  rintro _ s71 ⟨rfl, c_8⟩
  have z_9 := c_8.size
  refine dBl_i ?_
  refine sB_t (by rfl) ?_
  have r1_10 := r1_7.ch c_8 (by simp)
  refine ld_t r1_10 rfl ?_
  refine dStr_i ?_
  refine sB_t (by simp [ByteArray.toList_mk]) ?_
  refine ld_t r1_10 rfl ?_
  refine dStr_i ?_
  intro _ _ _ _ _ _ _ _ _ _ _ _ _ _ _ _ _ _ _ _ _ _ _
  refine dBl_i ?_
  refine sB_f (by simp [ByteArray.toList_mk]) ?_
  refine ld_t r1_10 rfl ?_
  refine dInt_i ?_
  have z_11 := hz0.mv c_8 (tagn (by simp))
  refine tcall (c_rnum τ _ z_11 (by simp) (by intro h; cases h) (by omega) 0 2 i (by omega) (by omega) (by omega)) ?_
  rintro _ s41 ⟨a2, c2, rfl, c_12, o_14⟩
  have z_13 := c_12.size
  refine dSl_i ?_
  have r1_15 := r1_10.ch c_12 (by intro h; simp only [List.mem_cons, List.not_mem_nil, or_false] at h <;> omega)
  refine ld_t r1_15 rfl ?_
  refine dStr_i ?_
  refine tcall (c_rnum τ _ o_14.sl (by simp [wrL_len]) o_14.none_iff (by omega) 2 1 (ByteArray.size ⟨#[46, 46]⟩) (by omega) (by omega) (by decide)) ?_
  rintro _ s48 ⟨a3, c3, rfl, c_16, o_18⟩
  have z_17 := c_16.size
  refine dSl_i ?_
  refine ask_t (by have := (o_18).le; omega) ?_
  have r1_19 := r1_15.ch c_16 (by intro h; simp only [List.mem_cons, List.not_mem_nil, or_false] at h <;> omega)
  refine ld_t r1_19 rfl ?_
  refine dStr_i ?_
  obtain ⟨ad, rfl⟩ := Own.ne_none o_18 (by omega)
  simp only [Int.toNat_natCast]
  rw [show Int.toNat 3 = 3 from rfl]
  refine copy_os (p := 3) #[46, 46] u32 in5 o_18 (by omega) fun s57 o2_22 c_200 hsz => ?_
  have c_20 := c_200.ch (T := [τ]) o_18 (by simp)
  have z_21 := c_20.size
  refine dInt_i ?_
  refine ret_t ?_
  exact ⟨_, _, rfl, (((((((Ch.refl [τ] s).ch c_2 (by simp)).ch c_5 (by simp)).ch c_8 (by simp)).ch c_12 (by simp)).ch c_16 (by simp)).ch c_20 (by simp)), o2_22⟩
end Go.Proofs.Ytdlelcpkelginaa.E
/- Contracts of functions. -/
namespace Go.Proofs.Ytdlelcpkelginaa.E
open Go Go.Proofs
set_option linter.unusedVariables false
set_option linter.unusedSimpArgs false
/-- an entry, as it lies in memory -/
def ev (e : Nat × ByteArray) : List Value := [.int .i64 (e.1 : Int), .string e.2]
theorem ev_len (e : Nat × ByteArray) : (ev e).length = 2 := rfl
theorem ecell0 {es : List (Nat × ByteArray)} {k : Nat} {e : Nat × ByteArray} (h : es[k]? = some e) : (es.flatMap ev)[k * 2]? = some (.int .i64 (e.1 : Int)) := fm_get ev_len es k 0 e h (by omega)
theorem ecell1 {es : List (Nat × ByteArray)} {k : Nat} {e : Nat × ByteArray} (h : es[k]? = some e) : (es.flatMap ev)[k * 2 + 1]? = some (.string e.2) := fm_get ev_len es k 1 e h (by omega)
def Dot (d : ByteArray) : Prop := d = ⟨#[46]⟩ ∨ d = ⟨#[46, 46]⟩
theorem c_encEntD (τ i : Nat) (d : ByteArray) {s : TH} (hτ : τ ≠ 0) (hi : 1 ≤ i ∧ i ≤ 511) (hd : Dot d) : TRet Try.prog 46 #[.agg #[.int .i64 (i : Int), .string d]] s fun v s' => ∃ a' c', v = .tuple #[.slice a' 16 c', .int .i64 0] ∧ Ch [τ] s s' ∧ Own s' a' 16 c' 5 1 (bvs (entL i d.data.toList)) τ := by
  rcases hd with rfl | rfl
  · exact c_encEnt1 τ i hτ hi
  · exact c_encEnt2 τ i hτ hi
def entsL : List (Nat × ByteArray) → List UInt8
  | [] => []
  | e :: es => entL e.1 e.2.data.toList ++ entsL es
theorem entsL_snoc (es : List (Nat × ByteArray)) (e : Nat × ByteArray) : entsL (es ++ [e]) = entsL es ++ entL e.1 e.2.data.toList := by
  induction es with
  | nil => simp [entsL]
  | cons x es ih => simp [entsL, ih]
theorem entsL_len (es : List (Nat × ByteArray)) : (entsL es).length = 16 * es.length := by
  induction es with
  | nil => rfl
  | cons x es ih => simp [entsL, ih, entL_len]; omega
def dirsL (es : List (Nat × ByteArray)) : List UInt8 := entsL es ++ List.replicate (128 - 16 * es.length) 0
/-- bollard/bollardref12.clash -/
theorem c_clash {xa : Option Addr} {n : Nat} (xc : Nat) {es : List (Nat × ByteArray)} {τx : Nat} {s : TH} (hx : Sl s xa (es.flatMap ev) τx) (hn : es.length = n) (hc : n ≤ xc) (hb : n ≤ 8) (hnc : ∀ (i j : Nat) (e f : Nat × ByteArray), j < i → es[i]? = some e → es[j]? = some f → ¬ (e.1 ≠ 0 ∧ f.1 ≠ 0 ∧ e.2.toList = f.2.toList)) : TRet Try.prog 45 #[.slice xa n xc] s fun v s' => v = .bool false ∧ Ch [] s s' := by
  refine F45_calls _ _ _  ?_
  unfold F45
  refine ⟨fun vs H' => ∃ s' : TH, s'.h = H' ∧ ∃ m, vs = [.int .i64 m] ∧ ChL [] [] s s' ∧ (∃ k : Nat, m = k ∧ k ≤ n), fun vs H' => match vs with | [.int .i64 m] => ((n : Int) - m).toNat | _ => 0, ⟨s, rfl, _, rfl, ChL.refl _ _ _, ?_⟩, ?_⟩
  ·
    exact ⟨0, rfl, by omega⟩
  ·
    intro m _ _ _ _ _ _ _ _ _ _ _ _ _ _ _ _ _ _ _ _ _ _ _ _ _ _ _ _ _ _ _ _ _ H37 hI
    obtain ⟨s37, rfl, m_, hvs, c_1, k, rfl, hk⟩ := hI
    cases hvs
    have z_2 := c_1.size
    refine sB_d (fun hsB1 => ?_) (fun hsB1 => ?_)
    ·
      have hk2 : k < n := by omega
      obtain ⟨e, he⟩ : ∃ e, es[k]? = some e := ⟨es[k]'(by omega), by simp⟩
      obtain ⟨a, rfl⟩ := hx.some (fun h => by have := ecell0 he; rw [h] at this; simp at this)
      refine nz_i ?_
      refine ask_t (by omega) ?_
      have x_3 := hx.mv c_1 (tagL (by simp <;> omega) (by simp))
      refine ld_sl x_3 (by rw [Int.toNat_natCast]; exact ecell0 he) ?_
      refine ld_sl2 x_3 (by rw [Int.toNat_natCast]; exact ecell1 he) ?_
      refine al_t (τx + 1) fun r42 s43 hr42 b_4 c_5 z_6 => ?_
      refine st_t b_4 rfl (by simp) fun s44 b_7 c_8 z_9 => ?_
      refine st_t b_7 rfl (by simp) fun s45 b_10 c_11 z_12 => ?_
      refine ask_t (by omega) ?_
      refine ⟨fun vs H' => ∃ s' : TH, s'.h = H' ∧ ∃ q, vs = [.int .i64 q] ∧ ChL [] [] s45 s' ∧ (∃ j : Nat, q = j ∧ j ≤ k), fun vs H' => match vs with | [.int .i64 q] => ((k : Int) - q).toNat | _ => 0, ⟨s45, rfl, _, rfl, ChL.refl _ _ _, ?_⟩, ?_⟩
      ·
        exact ⟨0, rfl, by omega⟩
      ·
        intro q _ _ _ _ _ _ _ _ _ _ _ _ _ _ _ _ _ _ _ _ _ H70 hI
        obtain ⟨s70, rfl, q_, hvs, c_13, j, rfl, hj⟩ := hI
        cases hvs
        have z_14 := c_13.size
        refine sB_d (fun hsB2 => ?_) (fun hsB2 => ?_)
        ·
          rw [slO_zero]
          have hj2 : j < k := by omega
          obtain ⟨f, hf⟩ : ∃ f, es[j]? = some f := ⟨es[j]'(by omega), by simp⟩
          refine nz_i ?_
          refine ask_t (by omega) ?_
          have x_15 := x_3.mv c_5 (tagn (by simp))
          have x_16 := x_15.mv c_8 (onn (by rw [b_4.tag]; omega))
          have x_17 := x_16.mv c_11 (onn (by rw [b_7.tag]; omega))
          have x_18 := x_17.mv c_13 (tagL (by simp <;> omega) (by simp))
          refine ld_sl x_18 (by rw [Int.toNat_natCast]; exact ecell0 hf) ?_
          refine ld_sl2 x_18 (by rw [Int.toNat_natCast]; exact ecell1 hf) ?_
          refine al_t (τx + 1) fun r75 s76 hr75 b_19 c_20 z_21 => ?_
          refine st_t b_19 rfl (by simp) fun s77 b_22 c_23 z_24 => ?_
          refine st_t b_22 rfl (by simp) fun s78 b_25 c_26 z_27 => ?_
          refine jn_u ?_
          have r42_28 := b_10.chl c_13 (by simp <;> omega) (by simp <;> omega)
          have r42_29 := r42_28.ch c_20 (by simp)
          have r42_30 := r42_29.on c_23 (by omega)
          have r42_31 := r42_30.on c_26 (by omega)
          refine ld_t r42_31 rfl ?_
          refine dInt_i ?_
          refine sB_ne (fun hsB3 => ?_) (fun hsB3 => ?_)
          ·
            refine ld_t b_25 rfl ?_
            refine dInt_i ?_
            refine sB_ne (fun hsB4 => ?_) (fun hsB4 => ?_)
            ·
              refine ld_t r42_31 rfl ?_
              refine dStr_i ?_
              refine ld_t b_25 rfl ?_
              refine dStr_i ?_
              intro _ _ _ _ _ _ _ _ _ _ _ _ _ _
              refine dBl_i ?_
              refine sB_f (by have := hnc k j e f hj2 he hf; simp only [beq_eq_false_iff_ne]; intro h; exact this ⟨by omega, by omega, h⟩) ?_
              refine wr_t (by omega) ?_
              refine ⟨⟨s78, rfl, _, rfl, (((((ChL.refl [] [] s45).chl c_13 (by simp) (by simp <;> omega)).ch c_20 (by simp)).on_new c_23 (by omega)).on_new c_26 (by omega)), ?_⟩, ?_⟩
              ·
                exact ⟨j + 1, by omega, by omega⟩
              ·
                simp only []; omega
            ·
              intro _ _ _ _ _ _ _ _ _ _ _ _ _ _
              refine dBl_i ?_
              refine sB_f (by rfl) ?_
              refine wr_t (by omega) ?_
              refine ⟨⟨s78, rfl, _, rfl, (((((ChL.refl [] [] s45).chl c_13 (by simp) (by simp <;> omega)).ch c_20 (by simp)).on_new c_23 (by omega)).on_new c_26 (by omega)), ?_⟩, ?_⟩
              ·
                exact ⟨j + 1, by omega, by omega⟩
              ·
                simp only []; omega
          ·
            intro _ _ _ _ _ _ _ _ _ _ _ _ _ _
            refine dBl_i ?_
            refine sB_f (by rfl) ?_
            refine wr_t (by omega) ?_
            refine ⟨⟨s78, rfl, _, rfl, (((((ChL.refl [] [] s45).chl c_13 (by simp) (by simp <;> omega)).ch c_20 (by simp)).on_new c_23 (by omega)).on_new c_26 (by omega)), ?_⟩, ?_⟩
            ·
              exact ⟨j + 1, by omega, by omega⟩
            ·
              simp only []; omega
        ·
          refine wr_t (by omega) ?_
          refine ⟨⟨s70, rfl, _, rfl, ((((((ChL.refl [] [] s).chl c_1 (by simp) (by simp <;> omega)).ch c_5 (by simp)).on_new c_8 (by omega)).on_new c_11 (by omega)).chl c_13 (by simp) (by simp <;> omega)), ?_⟩, ?_⟩
          ·
            exact ⟨k + 1, by omega, by omega⟩
          ·
            simp only []; omega
    ·
      refine ret_t ?_
      exact ⟨rfl, ((Ch.refl [] s).chl c_1 (by simp) (by simp <;> omega))⟩
/-- bollard/bollardref12.Encode -/
theorem c_encDirs (τ : Nat) {xa : Option Addr} {n : Nat} (xc : Nat) {es : List (Nat × ByteArray)} {τx : Nat} {s : TH} (hx : Sl s xa (es.flatMap ev) τx) (hn : es.length = n) (hc : n ≤ xc) (hb : n ≤ 8) (hnc : ∀ (i j : Nat) (e f : Nat × ByteArray), j < i → es[i]? = some e → es[j]? = some f → ¬ (e.1 ≠ 0 ∧ f.1 ≠ 0 ∧ e.2.toList = f.2.toList)) (hτ : τ ≠ 0) (hτx : τx ≠ τ) (hτ2 : τx ≠ τ + 1) (h1 : 1 ≤ n ∧ n < 8) (hd : ∀ e ∈ es, Dot e.2 ∧ 1 ≤ e.1 ∧ e.1 ≤ 511) : TRet Try.prog 21 #[.slice xa n xc] s fun v s' => ∃ a' c', v = .tuple #[.slice a' 128 c', .int .i64 0] ∧ Ch [τ, τ + 1] s s' ∧ Own s' a' 128 c' 5 1 (bvs (dirsL es)) τ := by
  refine F21_calls _ _ _  ?_
  unfold F21
  refine jn_u ?_
  refine sB_d (fun hsB1 => by exfalso; omega) (fun hsB1 => ?_)
  refine tcall (c_clash xc hx hn hc hb hnc) ?_
  rintro _ s74 ⟨rfl, c_1⟩
  have z_2 := c_1.size
  refine dBl_i ?_
  intro _ _ _ _ _ _
  refine dBl_i ?_
  refine sB_f (by rfl) ?_
  refine ⟨fun vs H' => ∃ s' : TH, s'.h = H' ∧ ∃ pa pn pc m, vs = [.slice pa pn pc, .int .i64 m] ∧ ChL [τ, τ + 1] [] s74 s' ∧ (∃ k : Nat, m = k ∧ k ≤ n ∧ pn = 16 * k ∧ Own s' pa (16 * k) pc 5 1 (bvs (entsL (es.take k))) τ), fun vs H' => match vs with | [.slice pa pn pc, .int .i64 m] => ((n : Int) - m).toNat | _ => 0, ⟨s74, rfl, _, _, _, _, rfl, ChL.refl _ _ _, ?_⟩, ?_⟩
  ·
    exact ⟨0, rfl, by omega, rfl, Own.nil _ _ _ _⟩
  ·
    intro pa pn pc m _ _ _ _ _ _ _ _ _ _ _ _ _ _ _ _ _ _ _ H35 hI
    obtain ⟨s35, rfl, pa_, pn_, pc_, m_, hvs, c_3, k, rfl, hk, rfl, o_5⟩ := hI
    cases hvs
    have z_4 := c_3.size
    refine sB_d (fun hsB3 => ?_) (fun hsB3 => ?_)
    ·
      have hk2 : k < n := by omega
      obtain ⟨e, he⟩ : ∃ e, es[k]? = some e := ⟨es[k]'(by omega), by simp⟩
      obtain ⟨a, rfl⟩ := hx.some (fun h => by have := ecell0 he; rw [h] at this; simp at this)
      refine nz_i ?_
      refine ask_t (by omega) ?_
      have x_6 := hx.mv c_1 (tagn (by simp))
      have x_7 := x_6.mv c_3 (tagL (by simp <;> omega) (by simp))
      refine ld_sl x_7 (by rw [Int.toNat_natCast]; exact ecell0 he) ?_
      refine ld_sl2 x_7 (by rw [Int.toNat_natCast]; exact ecell1 he) ?_
      refine al_t 0 fun r40 s41 hr40 b_8 c_9 z_10 => ?_
      refine st_t b_8 rfl (by simp) fun s42 b_11 c_12 z_13 => ?_
      refine st_t b_11 rfl (by simp) fun s43 b_14 c_15 z_16 => ?_
      refine ld_t b_14 rfl ?_
      refine ld_t b_14 rfl ?_
      have hde := hd e (List.mem_of_getElem? he)
      refine tcall (c_encEntD (τ + 1) e.1 e.2 (by omega) hde.2 hde.1) ?_
      rintro _ s47 ⟨a2, c2, rfl, c_17, en_19⟩
      have z_18 := c_17.size
      refine dT2 ?_
      refine dSl_i ?_
      refine dInt_i ?_
      refine sB_f (by rfl) ?_
      have o_20 := o_5.mv c_9 (tagn (by simp))
      have o_21 := o_20.mv c_12 (onn (by rw [b_8.tag]; omega))
      have o_22 := o_21.mv c_15 (onn (by rw [b_11.tag]; omega))
      have o_23 := o_22.mv c_17 (tagn (by intro h; simp only [List.mem_cons, List.not_mem_nil, or_false] at h <;> omega))
      refine app_i u32 in5 rfl o_23 en_19.sl (m := 16) (by rw [bvs_len, entL_len]) (bvs_one _) (fun h => by have := en_19.none_iff h; omega) (by unfold maxLen; omega) fun s57 pa2 pc2 o_26 c_240 _ => ?_
      have c_24 := c_240.ch (T := [τ]) o_23 (by simp)
      have z_25 := c_24.size
      refine dSl_i ?_
      refine wr_t (by omega) ?_
      refine ⟨⟨s57, rfl, _, _, _, _, rfl, (((((((ChL.refl [τ, τ + 1] [] s74).chl c_3 (by simp) (by simp <;> omega)).ch c_9 (by simp)).on_new c_12 (by omega)).on_new c_15 (by omega)).ch c_17 (by simp)).ch c_24 (by simp)), ?_⟩, ?_⟩
      ·
        exact ⟨k + 1, by omega, by omega, by omega, by have ho := o_26; rw [show 16 * k + 16 = 16 * (k + 1) by omega] at ho; rw [List.take_add_one, he]; show Own _ _ _ _ _ _ (bvs (entsL (es.take k ++ [e]))) _; rw [entsL_snoc]; simpa [bvs] using ho⟩
      ·
        simp only []; omega
    ·
      obtain rfl : k = n := by omega
      refine wr_t (by omega) ?_
      rw [show (128 - ((16 * k : Nat) : Int)) = ((128 - 16 * k : Nat) : Int) by omega]
      refine appz_i u32 u3 in5 o_5 (by obtain ⟨b, rfl⟩ := Own.ne_none o_5 (by omega); simp) (by omega) (by omega) fun s68 pa3 pc3 o_29 c_270 => ?_
      have c_27 := c_270.ch (T := [τ]) o_5 (by simp)
      have z_28 := c_27.size
      refine dSl_i ?_
      refine ret_t ?_
      have ho := o_29
      rw [show 16 * k + (128 - 16 * k) = 128 by omega, List.take_of_length_le (by omega)] at ho
      exact ⟨pa3, pc3, by rw [show 16 * k + (128 - 16 * k) = 128 by omega], ((((Ch.refl [τ, τ + 1] s).ch c_1 (by simp)).chl c_3 (by simp) (by simp <;> omega)).ch c_27 (by simp)), by unfold dirsL; rw [hn]; exact ho⟩
end Go.Proofs.Ytdlelcpkelginaa.E
/- Contracts of functions. -/
namespace Go.Proofs.Ytdlelcpkelginaa.E
open Go Go.Proofs
set_option linter.unusedVariables false
set_option linter.unusedSimpArgs false
/-- a geometry that may be -/
def canG (a b c : Int) : Prop := (1 ≤ a ∧ a ≤ 8) ∧ (8 ≤ b ∧ b ≤ 256) ∧ (4 ≤ c ∧ c ≤ 64) ∧ c % 4 = 0 ∧ 3 + c / 4 ≤ b
instance (a b c : Int) : Decidable (canG a b c) := by unfold canG; infer_instance
theorem tdiv4 {c : Int} (h : 0 ≤ c) : c.tdiv 4 = c / 4 := Int.tdiv_eq_ediv_of_nonneg h
theorem tmod4 {c : Int} (h : 0 ≤ c) : c.tmod 4 = c % 4 := Int.tmod_eq_emod_of_nonneg h
theorem wr_tq {a b m : Int} {k : Int → Prop} (h : a.tdiv b = m) (hm : -9223372036854775808 ≤ m ∧ m ≤ 9223372036854775807) (hk : k m) : wr .i64 (a.tdiv b) k := wr_t (by rw [h]; exact hm) (by rw [h]; exact hk)
theorem mul_le {a b c d : Int} (h0 : 0 ≤ a) (h1 : a ≤ c) (h2 : 0 ≤ b) (h3 : b ≤ d) : 0 ≤ a * b ∧ a * b ≤ c * d :=
  ⟨Int.mul_nonneg h0 h2, Int.mul_le_mul h1 h3 h2 (Int.le_trans h0 h1)⟩
/-- bollard/geom.between -/
theorem gc_between (n l m : Int) (s : TH) : TRet Try.prog 24 #[.int .i64 n, .int .i64 l, .int .i64 m] s fun v s' => v = .bool (decide (l ≤ n ∧ n ≤ m)) ∧ Ch [] s s' := by
  refine F24_calls _ _ _  ?_
  unfold F24
  refine sB_d (fun hsB1 => ?_) (fun hsB1 => ?_)
  ·
    refine ret_t ?_
    exact ⟨ret_b (by simp <;> omega), (Ch.refl [] s)⟩
  ·
    refine ret_t ?_
    exact ⟨ret_b (by simp <;> omega), (Ch.refl [] s)⟩
/-- bollard/geom.front -/
theorem gc_front (a b c : Int) (hc : 0 ≤ c ∧ c ≤ 1000) (s : TH) : TRet Try.prog 25 #[.agg #[.int .i64 a, .int .i64 b, .int .i64 c]] s fun v s' => v = .int .i64 (2 + c / 4) ∧ Ch [] s s' := by
  refine F25_calls _ _ _  ?_
  unfold F25
  refine al_t 0 fun r1 s2 hr1 b_1 c_2 z_3 => ?_
  refine ld_t b_1 rfl ?_
  refine dInt_i ?_
  refine ask_t (by decide) ?_
  refine wr_tq (tdiv4 hc.1) (by omega) ?_
  refine wr_t (by omega) ?_
  refine ret_t ?_
  exact ⟨rfl, ((Ch.refl [] s).ch c_2 (by simp))⟩
/-- bollard/geom.Can -/
theorem gc_can (a b c : Int)  (s : TH) : TRet Try.prog 7 #[.agg #[.int .i64 a, .int .i64 b, .int .i64 c]] s fun v s' => v = .int .i64 (if canG a b c then 0 else 170) ∧ Ch [] s s' := by
  refine F7_calls _ _ _  ?_
  unfold F7
  refine al_t 0 fun r1 s2 hr1 b_1 c_2 z_3 => ?_
  refine jn_u ?_
  refine ld_t b_1 rfl ?_
  refine dInt_i ?_
  refine tcall (gc_between _ _ _ _) ?_
  rintro _ s58 ⟨rfl, c_4⟩
  have z_5 := c_4.size
  refine dBl_i ?_
  first | refine sB_d (fun hsB1 => ?_) (fun hsB1 => ?_) | refine sB_nd (fun hsB1 => ?_) (fun hsB1 => ?_) | refine sB_n (fun hsB1 => ?_) (fun hsB1 => ?_) | refine sB_i (fun hsB1 => ?_) (fun hsB1 => ?_)
  ·
    have r1_6 := b_1.ch c_4 (by simp)
    refine ld_t r1_6 rfl ?_
    refine dInt_i ?_
    refine tcall (gc_between _ _ _ _) ?_
    rintro _ s63 ⟨rfl, c_7⟩
    have z_8 := c_7.size
    refine dBl_i ?_
    first | refine sB_d (fun hsB2 => ?_) (fun hsB2 => ?_) | refine sB_nd (fun hsB2 => ?_) (fun hsB2 => ?_) | refine sB_n (fun hsB2 => ?_) (fun hsB2 => ?_) | refine sB_i (fun hsB2 => ?_) (fun hsB2 => ?_)
    ·
      have r1_9 := r1_6.ch c_7 (by simp)
      refine ld_t r1_9 rfl ?_
      refine dInt_i ?_
      refine tcall (gc_between _ _ _ _) ?_
      rintro _ s68 ⟨rfl, c_10⟩
      have z_11 := c_10.size
      refine dBl_i ?_
      intro _ _ _ _ _ _ _ _ _ _ _ _ _
      refine dBl_i ?_
      refine jn_u ?_
      first | refine sB_d (fun hsB3 => ?_) (fun hsB3 => ?_) | refine sB_nd (fun hsB3 => ?_) (fun hsB3 => ?_) | refine sB_n (fun hsB3 => ?_) (fun hsB3 => ?_) | refine sB_i (fun hsB3 => ?_) (fun hsB3 => ?_)
      ·
        intro _ _ _ _ _ _ _ _ _ _ _ _ _ _ _
        refine dBl_i ?_
        refine sB_t (by rfl) ?_
        refine ret_t ?_
        exact ⟨ret_i (by first | rw [if_pos (by unfold canG; omega)] | rw [if_neg (by unfold canG; omega)]), (((((Ch.refl [] s).ch c_2 (by simp)).ch c_4 (by simp)).ch c_7 (by simp)).ch c_10 (by simp))⟩
      ·
        have r1_12 := r1_9.ch c_10 (by simp)
        refine ld_t r1_12 rfl ?_
        refine dInt_i ?_
        refine ask_t (by decide) ?_
        refine nm_t (tmod4 (by omega)) ?_
        refine sB_ne (fun hsB5 => ?_) (fun hsB5 => ?_)
        ·
          intro _ _ _ _ _ _ _ _ _ _ _ _ _ _ _
          refine dBl_i ?_
          refine sB_t (by rfl) ?_
          refine ret_t ?_
          exact ⟨ret_i (by first | rw [if_pos (by unfold canG; omega)] | rw [if_neg (by unfold canG; omega)]), (((((Ch.refl [] s).ch c_2 (by simp)).ch c_4 (by simp)).ch c_7 (by simp)).ch c_10 (by simp))⟩
        ·
          refine ld_t r1_12 rfl ?_
          refine dInt_i ?_
          refine ld_t r1_12 rfl ?_
          refine ld_t r1_12 rfl ?_
          refine ld_t r1_12 rfl ?_
          refine tcall (gc_front _ _ _ (by omega) _) ?_
          rintro _ s47 ⟨rfl, c_13⟩
          have z_14 := c_13.size
          refine dInt_i ?_
          refine ⟨?_, ?_⟩
          ·
            have r1_15 := r1_12.ch c_13 (by simp)
            refine ld_t r1_15 rfl ?_
            refine dInt_i ?_
            rfl
          ·
            refine wr_t (by omega) ?_
            intro _ _ _ _ _ _ _ _ _ _ _ _ _ _ _
            refine dBl_i ?_
            refine sB_d (fun hsB7 => ?_) (fun hsB7 => ?_)
            ·
              refine ret_t ?_
              exact ⟨ret_i (by first | rw [if_pos (by unfold canG; omega)] | rw [if_neg (by unfold canG; omega)]), ((((((Ch.refl [] s).ch c_2 (by simp)).ch c_4 (by simp)).ch c_7 (by simp)).ch c_10 (by simp)).ch c_13 (by simp))⟩
            ·
              refine ret_t ?_
              exact ⟨ret_i (by first | rw [if_pos (by unfold canG; omega)] | rw [if_neg (by unfold canG; omega)]), ((((((Ch.refl [] s).ch c_2 (by simp)).ch c_4 (by simp)).ch c_7 (by simp)).ch c_10 (by simp)).ch c_13 (by simp))⟩
    ·
      intro _ _ _ _ _ _ _ _ _ _ _ _ _
      refine dBl_i ?_
      refine jn_u ?_
      refine sB_t (by rfl) ?_
      intro _ _ _ _ _ _ _ _ _ _ _ _ _ _ _
      refine dBl_i ?_
      refine sB_t (by rfl) ?_
      refine ret_t ?_
      exact ⟨ret_i (by first | rw [if_pos (by unfold canG; omega)] | rw [if_neg (by unfold canG; omega)]), ((((Ch.refl [] s).ch c_2 (by simp)).ch c_4 (by simp)).ch c_7 (by simp))⟩
  ·
    intro _ _ _ _ _ _ _ _ _ _ _ _ _
    refine dBl_i ?_
    refine jn_u ?_
    refine sB_t (by rfl) ?_
    intro _ _ _ _ _ _ _ _ _ _ _ _ _ _ _
    refine dBl_i ?_
    refine sB_t (by rfl) ?_
    refine ret_t ?_
    exact ⟨ret_i (by first | rw [if_pos (by unfold canG; omega)] | rw [if_neg (by unfold canG; omega)]), (((Ch.refl [] s).ch c_2 (by simp)).ch c_4 (by simp))⟩
/-- bollard/bollardref04.Can -/
theorem gc_rcan (a b c : Int)  (s : TH) : TRet Try.prog 18 #[.agg #[.int .i64 a, .int .i64 b, .int .i64 c]] s fun v s' => v = .int .i64 (if canG a b c then 0 else 170) ∧ Ch [] s s' := by
  refine F18_calls _ _ _  ?_
  unfold F18
  refine al_t 0 fun r1 s2 hr1 b_1 c_2 z_3 => ?_
  refine jn_u ?_
  refine ld_t b_1 rfl ?_
  refine dInt_i ?_
  refine sB_d (fun hsB1 => ?_) (fun hsB1 => ?_)
  ·
    intro _ _ _ _ _ _ _ _ _ _ _ _ _ _ _ _ _ _ _ _ _ _ _ _ _ _ _ _ _ _ _ _ _ _ _ _ _ _ _ _ _ _
    refine dBl_i ?_
    refine sB_t (by rfl) ?_
    refine ret_t ?_
    exact ⟨ret_i (by first | rw [if_pos (by unfold canG; omega)] | rw [if_neg (by unfold canG; omega)]), ((Ch.refl [] s).ch c_2 (by simp))⟩
  ·
    refine ld_t b_1 rfl ?_
    refine dInt_i ?_
    refine sB_d (fun hsB3 => ?_) (fun hsB3 => ?_)
    ·
      intro _ _ _ _ _ _ _ _ _ _ _ _ _ _ _ _ _ _ _ _ _ _ _ _ _ _ _ _ _ _ _ _ _ _ _ _ _ _ _ _ _ _
      refine dBl_i ?_
      refine sB_t (by rfl) ?_
      refine ret_t ?_
      exact ⟨ret_i (by first | rw [if_pos (by unfold canG; omega)] | rw [if_neg (by unfold canG; omega)]), ((Ch.refl [] s).ch c_2 (by simp))⟩
    ·
      refine ld_t b_1 rfl ?_
      refine dInt_i ?_
      refine sB_d (fun hsB5 => ?_) (fun hsB5 => ?_)
      ·
        intro _ _ _ _ _ _ _ _ _ _ _ _ _ _ _ _ _ _ _ _ _ _ _ _ _ _ _ _ _ _ _ _ _ _ _ _ _ _ _ _ _ _
        refine dBl_i ?_
        refine sB_t (by rfl) ?_
        refine ret_t ?_
        exact ⟨ret_i (by first | rw [if_pos (by unfold canG; omega)] | rw [if_neg (by unfold canG; omega)]), ((Ch.refl [] s).ch c_2 (by simp))⟩
      ·
        refine ld_t b_1 rfl ?_
        refine dInt_i ?_
        refine sB_d (fun hsB7 => ?_) (fun hsB7 => ?_)
        ·
          intro _ _ _ _ _ _ _ _ _ _ _ _ _ _ _ _ _ _ _ _ _ _ _ _ _ _ _ _ _ _ _ _ _ _ _ _ _ _ _ _ _ _
          refine dBl_i ?_
          refine sB_t (by rfl) ?_
          refine ret_t ?_
          exact ⟨ret_i (by first | rw [if_pos (by unfold canG; omega)] | rw [if_neg (by unfold canG; omega)]), ((Ch.refl [] s).ch c_2 (by simp))⟩
        ·
          refine ld_t b_1 rfl ?_
          refine dInt_i ?_
          refine sB_d (fun hsB9 => ?_) (fun hsB9 => ?_)
          ·
            intro _ _ _ _ _ _ _ _ _ _ _ _ _ _ _ _ _ _ _ _ _ _ _ _ _ _ _ _ _ _ _ _ _ _ _ _ _ _ _ _ _ _
            refine dBl_i ?_
            refine sB_t (by rfl) ?_
            refine ret_t ?_
            exact ⟨ret_i (by first | rw [if_pos (by unfold canG; omega)] | rw [if_neg (by unfold canG; omega)]), ((Ch.refl [] s).ch c_2 (by simp))⟩
          ·
            refine ld_t b_1 rfl ?_
            refine dInt_i ?_
            refine sB_d (fun hsB11 => ?_) (fun hsB11 => ?_)
            ·
              intro _ _ _ _ _ _ _ _ _ _ _ _ _ _ _ _ _ _ _ _ _ _ _ _ _ _ _ _ _ _ _ _ _ _ _ _ _ _ _ _ _ _
              refine dBl_i ?_
              refine sB_t (by rfl) ?_
              refine ret_t ?_
              exact ⟨ret_i (by first | rw [if_pos (by unfold canG; omega)] | rw [if_neg (by unfold canG; omega)]), ((Ch.refl [] s).ch c_2 (by simp))⟩
            ·
              refine ld_t b_1 rfl ?_
              refine dInt_i ?_
              refine ask_t (by decide) ?_
              refine nm_t (tmod4 (by omega)) ?_
              refine sB_ne (fun hsB13 => ?_) (fun hsB13 => ?_)
              ·
                intro _ _ _ _ _ _ _ _ _ _ _ _ _ _ _ _ _ _ _ _ _ _ _ _ _ _ _ _ _ _ _ _ _ _ _ _ _ _ _ _ _ _
                refine dBl_i ?_
                refine sB_t (by rfl) ?_
                refine ret_t ?_
                exact ⟨ret_i (by first | rw [if_pos (by unfold canG; omega)] | rw [if_neg (by unfold canG; omega)]), ((Ch.refl [] s).ch c_2 (by simp))⟩
              ·
                refine ld_t b_1 rfl ?_
                refine dInt_i ?_
                refine ld_t b_1 rfl ?_
                refine dInt_i ?_
                refine ask_t (by decide) ?_
                refine wr_tq (tdiv4 (by omega)) (by omega) ?_
                refine wr_t (by omega) ?_
                intro _ _ _ _ _ _ _ _ _ _ _ _ _ _ _ _ _ _ _ _ _ _ _ _ _ _ _ _ _ _ _ _ _ _ _ _ _ _ _ _ _ _
                refine dBl_i ?_
                refine sB_d (fun hsB15 => ?_) (fun hsB15 => ?_)
                ·
                  refine ret_t ?_
                  exact ⟨ret_i (by first | rw [if_pos (by unfold canG; omega)] | rw [if_neg (by unfold canG; omega)]), ((Ch.refl [] s).ch c_2 (by simp))⟩
                ·
                  refine ret_t ?_
                  exact ⟨ret_i (by first | rw [if_pos (by unfold canG; omega)] | rw [if_neg (by unfold canG; omega)]), ((Ch.refl [] s).ch c_2 (by simp))⟩
/-- bollard/geom.all -/
theorem gc_all (a b c : Int) (e : Int) (hv : canG a b c) (he : 0 ≤ e ∧ e ≤ 10000) (s : TH) : TRet Try.prog 26 #[.agg #[.int .i64 a, .int .i64 b, .int .i64 c], .int .i64 e] s fun v s' => v = .int .i64 (a * e) ∧ Ch [] s s' := by
  refine F26_calls _ _ _ _  ?_
  unfold F26
  refine al_t 0 fun r1 s2 hr1 b_1 c_2 z_3 => ?_
  refine ld_t b_1 rfl ?_
  refine ld_t b_1 rfl ?_
  refine ld_t b_1 rfl ?_
  refine tcall (gc_can _ _ _ _) ?_
  rintro _ s7 ⟨rfl, c_4⟩
  have z_5 := c_4.size
  rw [if_pos hv]
  refine dInt_i ?_
  refine sB_f rfl ?_
  have r1_6 := b_1.ch c_4 (by simp)
  refine ld_t r1_6 rfl ?_
  refine dInt_i ?_
  refine wr_t (by unfold canG at hv; have := mul_le (a := a) (b := e) (c := 8) (d := 10000) (by omega) (by omega) he.1 he.2; omega) ?_
  refine ret_t ?_
  exact ⟨rfl, (((Ch.refl [] s).ch c_2 (by simp)).ch c_4 (by simp))⟩
/-- bollard/geom.at -/
theorem gc_at (a b c : Int) (n p : Int) (hv : canG a b c) (hn : 0 ≤ n ∧ n < a) (hp : 0 ≤ p ∧ p ≤ 10000) (s : TH) : TRet Try.prog 27 #[.agg #[.int .i64 a, .int .i64 b, .int .i64 c], .int .i64 n, .int .i64 p] s fun v s' => v = .tuple #[.int .i64 (n * b + p), .bool true] ∧ Ch [] s s' := by
  have hm := mul_le (a := n) (b := b) (c := 8) (d := 256) (by omega) (by unfold canG at hv; omega) (by unfold canG at hv; omega) (by unfold canG at hv; omega)
  refine F27_calls _ _ _ _ _  ?_
  unfold F27
  refine al_t 0 fun r1 s2 hr1 b_1 c_2 z_3 => ?_
  refine jn_u ?_
  refine ld_t b_1 rfl ?_
  refine ld_t b_1 rfl ?_
  refine ld_t b_1 rfl ?_
  refine tcall (gc_can _ _ _ _) ?_
  rintro _ s25 ⟨rfl, c_4⟩
  have z_5 := c_4.size
  rw [if_pos hv]
  refine dInt_i ?_
  refine sB_f rfl ?_
  have r1_6 := b_1.ch c_4 (by simp)
  refine ld_t r1_6 rfl ?_
  refine dInt_i ?_
  refine wr_t (by unfold canG at hv; omega) ?_
  refine tcall (gc_between _ _ _ _) ?_
  rintro _ s31 ⟨rfl, c_7⟩
  have z_8 := c_7.size
  refine dBl_i ?_
  intro _ _ _ _ _ _ _ _ _ _
  refine dBl_i ?_
  first | refine sB_d (fun hsB2 => by exfalso; omega) (fun hsB2 => ?_) | refine sB_nd (fun hsB2 => by exfalso; omega) (fun hsB2 => ?_)
  have r1_9 := r1_6.ch c_7 (by simp)
  refine ld_t r1_9 rfl ?_
  refine dInt_i ?_
  refine wr_t (by omega) ?_
  refine wr_t (by omega) ?_
  refine ret_t ?_
  exact ⟨rfl, ((((Ch.refl [] s).ch c_2 (by simp)).ch c_4 (by simp)).ch c_7 (by simp))⟩
/-- bollard/geom.Blocks -/
theorem gc_blocks (a b c : Int) (hv : canG a b c)  (s : TH) : TRet Try.prog 8 #[.agg #[.int .i64 a, .int .i64 b, .int .i64 c]] s fun v s' => v = .int .i64 (a * b) ∧ Ch [] s s' := by
  refine F8_calls _ _ _  ?_
  unfold F8
  refine al_t 0 fun r1 s2 hr1 b_1 c_2 z_3 => ?_
  refine ld_t b_1 rfl ?_
  refine ld_t b_1 rfl ?_
  refine ld_t b_1 rfl ?_
  refine ld_t b_1 rfl ?_
  refine dInt_i ?_
  refine tcall (gc_all _ _ _ _ hv (by first | omega | (unfold canG at hv; omega)) _) ?_
  rintro _ s9 ⟨rfl, c_4⟩
  have z_5 := c_4.size
  refine dInt_i ?_
  refine ret_t ?_
  exact ⟨rfl, (((Ch.refl [] s).ch c_2 (by simp)).ch c_4 (by simp))⟩
/-- bollard/geom.Inodes -/
theorem gc_inodes (a b c : Int) (hv : canG a b c)  (s : TH) : TRet Try.prog 51 #[.agg #[.int .i64 a, .int .i64 b, .int .i64 c]] s fun v s' => v = .int .i64 (a * c) ∧ Ch [] s s' := by
  refine F51_calls _ _ _  ?_
  unfold F51
  refine al_t 0 fun r1 s2 hr1 b_1 c_2 z_3 => ?_
  refine ld_t b_1 rfl ?_
  refine ld_t b_1 rfl ?_
  refine ld_t b_1 rfl ?_
  refine ld_t b_1 rfl ?_
  refine dInt_i ?_
  refine tcall (gc_all _ _ _ _ hv (by first | omega | (unfold canG at hv; omega)) _) ?_
  rintro _ s9 ⟨rfl, c_4⟩
  have z_5 := c_4.size
  refine dInt_i ?_
  refine ret_t ?_
  exact ⟨rfl, (((Ch.refl [] s).ch c_2 (by simp)).ch c_4 (by simp))⟩
/-- bollard/geom.Super -/
theorem gc_super (a b c : Int) (n : Int) (hv : canG a b c) (hn : 0 ≤ n ∧ n < a) (s : TH) : TRet Try.prog 9 #[.agg #[.int .i64 a, .int .i64 b, .int .i64 c], .int .i64 n] s fun v s' => v = .tuple #[.int .i64 (n * b + 0), .bool true] ∧ Ch [] s s' := by
  refine F9_calls _ _ _ _  ?_
  unfold F9
  refine al_t 0 fun r1 s2 hr1 b_1 c_2 z_3 => ?_
  refine ld_t b_1 rfl ?_
  refine ld_t b_1 rfl ?_
  refine ld_t b_1 rfl ?_
  refine tcall (gc_at _ _ _ _ _ hv (by omega) (by first | omega | (unfold canG at hv; omega)) _) ?_
  rintro _ s7 ⟨rfl, c_4⟩
  have z_5 := c_4.size
  refine dT2 ?_
  refine dInt_i ?_
  refine dBl_i ?_
  refine ret_t ?_
  exact ⟨rfl, (((Ch.refl [] s).ch c_2 (by simp)).ch c_4 (by simp))⟩
/-- bollard/geom.Header -/
theorem gc_header (a b c : Int) (n : Int) (hv : canG a b c) (hn : 0 ≤ n ∧ n < a) (s : TH) : TRet Try.prog 11 #[.agg #[.int .i64 a, .int .i64 b, .int .i64 c], .int .i64 n] s fun v s' => v = .tuple #[.int .i64 (n * b + 1), .bool true] ∧ Ch [] s s' := by
  refine F11_calls _ _ _ _  ?_
  unfold F11
  refine al_t 0 fun r1 s2 hr1 b_1 c_2 z_3 => ?_
  refine ld_t b_1 rfl ?_
  refine ld_t b_1 rfl ?_
  refine ld_t b_1 rfl ?_
  refine tcall (gc_at _ _ _ _ _ hv (by omega) (by first | omega | (unfold canG at hv; omega)) _) ?_
  rintro _ s7 ⟨rfl, c_4⟩
  have z_5 := c_4.size
  refine dT2 ?_
  refine dInt_i ?_
  refine dBl_i ?_
  refine ret_t ?_
  exact ⟨rfl, (((Ch.refl [] s).ch c_2 (by simp)).ch c_4 (by simp))⟩
/-- bollard/geom.Data -/
theorem gc_data (a b c : Int) (n : Int) (hv : canG a b c) (hn : 0 ≤ n ∧ n < a) (s : TH) : TRet Try.prog 14 #[.agg #[.int .i64 a, .int .i64 b, .int .i64 c], .int .i64 n] s fun v s' => v = .tuple #[.int .i64 (n * b + (2 + c / 4)), .int .i64 (b - (2 + c / 4)), .bool true] ∧ Ch [] s s' := by
  refine F14_calls _ _ _ _  ?_
  unfold F14
  refine al_t 0 fun r1 s2 hr1 b_1 c_2 z_3 => ?_
  refine ld_t b_1 rfl ?_
  refine ld_t b_1 rfl ?_
  refine ld_t b_1 rfl ?_
  refine ld_t b_1 rfl ?_
  refine ld_t b_1 rfl ?_
  refine ld_t b_1 rfl ?_
  refine tcall (gc_front _ _ _ (by unfold canG at hv; omega) _) ?_
  rintro _ s10 ⟨rfl, c_4⟩
  have z_5 := c_4.size
  refine dInt_i ?_
  refine ⟨?_, ?_⟩
  ·
    have r1_6 := b_1.ch c_4 (by simp)
    refine ld_t r1_6 rfl ?_
    refine ld_t r1_6 rfl ?_
    refine ld_t r1_6 rfl ?_
    rfl
  ·
    refine tcall (gc_at _ _ _ _ _ hv (by omega) (by first | omega | (unfold canG at hv; omega)) _) ?_
    rintro _ s16 ⟨rfl, c_7⟩
    have z_8 := c_7.size
    refine dT2 ?_
    refine dInt_i ?_
    refine dBl_i ?_
    refine sB_f rfl ?_
    have r1_9 := b_1.ch c_4 (by simp)
    have r1_10 := r1_9.ch c_7 (by simp)
    refine ld_t r1_10 rfl ?_
    refine dInt_i ?_
    refine ld_t r1_10 rfl ?_
    refine ld_t r1_10 rfl ?_
    refine ld_t r1_10 rfl ?_
    refine tcall (gc_front _ _ _ (by unfold canG at hv; omega) _) ?_
    rintro _ s27 ⟨rfl, c_11⟩
    have z_12 := c_11.size
    refine dInt_i ?_
    refine ⟨?_, ?_⟩
    ·
      have r1_13 := r1_10.ch c_11 (by simp)
      refine ld_t r1_13 rfl ?_
      refine dInt_i ?_
      rfl
    ·
      refine wr_t (by unfold canG at hv; omega) ?_
      refine ret_t ?_
      exact ⟨rfl, (((((Ch.refl [] s).ch c_2 (by simp)).ch c_4 (by simp)).ch c_7 (by simp)).ch c_11 (by simp))⟩
/-- bollard/geom.split -/
theorem gc_split (n e t : Int) (hn : 0 ≤ n ∧ n < t) (he : 0 < e) (ht : t ≤ 1000000) (s : TH) : TRet Try.prog 49 #[.int .i64 n, .int .i64 e, .int .i64 t] s fun v s' => v = .tuple #[.int .i64 (n / e), .int .i64 (n % e), .bool true] ∧ Ch [] s s' := by
  have h1 := Int.tdiv_eq_ediv_of_nonneg (b := e) hn.1
  have h2 := Int.tmod_eq_emod_of_nonneg (b := e) hn.1
  have h3 : 0 ≤ n / e ∧ n / e ≤ n := ⟨Int.ediv_nonneg hn.1 (by omega), Int.ediv_le_self _ hn.1⟩
  refine F49_calls _ _ _  ?_
  unfold F49
  refine wr_t (by omega) ?_
  refine tcall (gc_between _ _ _ _) ?_
  rintro _ s3 ⟨rfl, c_1⟩
  have z_2 := c_1.size
  refine dBl_i ?_
  first | refine sB_d (fun hsB1 => by exfalso; omega) (fun hsB1 => ?_) | refine sB_nd (fun hsB1 => by exfalso; omega) (fun hsB1 => ?_)
  refine ask_t (by omega) ?_
  refine wr_tq h1 (by omega) ?_
  refine ask_t (by omega) ?_
  refine nm_t h2 ?_
  refine ret_t ?_
  exact ⟨rfl, ((Ch.refl [] s).ch c_1 (by simp))⟩
/-- bollard/geom.Owner -/
theorem gc_owner (a b c : Int) (n : Int) (hv : canG a b c) (hn : 0 ≤ n ∧ n < a * c) (s : TH) : TRet Try.prog 36 #[.agg #[.int .i64 a, .int .i64 b, .int .i64 c], .int .i64 n] s fun v s' => v = .tuple #[.int .i64 (n / c), .int .i64 (n % c), .bool true] ∧ Ch [] s s' := by
  have hac := mul_le (a := a) (b := c) (c := 8) (d := 64) (by unfold canG at hv; omega) (by unfold canG at hv; omega) (by unfold canG at hv; omega) (by unfold canG at hv; omega)
  refine F36_calls _ _ _ _  ?_
  unfold F36
  refine al_t 0 fun r1 s2 hr1 b_1 c_2 z_3 => ?_
  refine ld_t b_1 rfl ?_
  refine dInt_i ?_
  refine ld_t b_1 rfl ?_
  refine ld_t b_1 rfl ?_
  refine ld_t b_1 rfl ?_
  refine tcall (gc_inodes _ _ _ hv _) ?_
  rintro _ s9 ⟨rfl, c_4⟩
  have z_5 := c_4.size
  refine dInt_i ?_
  refine ⟨?_, ?_⟩
  ·
    have r1_6 := b_1.ch c_4 (by simp)
    refine ld_t r1_6 rfl ?_
    refine dInt_i ?_
    rfl
  ·
    refine tcall (gc_split _ _ _ (by omega) (by first | omega | (unfold canG at hv; omega)) (by first | omega | (unfold canG at hv; omega)) _) ?_
    rintro _ s14 ⟨rfl, c_7⟩
    have z_8 := c_7.size
    refine dT3 ?_
    refine dInt_i ?_
    refine dInt_i ?_
    refine dBl_i ?_
    refine ret_t ?_
    exact ⟨rfl, ((((Ch.refl [] s).ch c_2 (by simp)).ch c_4 (by simp)).ch c_7 (by simp))⟩
/-- bollard/geom.Group -/
theorem gc_group (a b c : Int) (n : Int) (hv : canG a b c) (hn : 0 ≤ n ∧ n < a * b) (s : TH) : TRet Try.prog 33 #[.agg #[.int .i64 a, .int .i64 b, .int .i64 c], .int .i64 n] s fun v s' => v = .tuple #[.int .i64 (n / b), .int .i64 (n % b), .bool true] ∧ Ch [] s s' := by
  have hab := mul_le (a := a) (b := b) (c := 8) (d := 256) (by unfold canG at hv; omega) (by unfold canG at hv; omega) (by unfold canG at hv; omega) (by unfold canG at hv; omega)
  refine F33_calls _ _ _ _  ?_
  unfold F33
  refine al_t 0 fun r1 s2 hr1 b_1 c_2 z_3 => ?_
  refine ld_t b_1 rfl ?_
  refine dInt_i ?_
  refine ld_t b_1 rfl ?_
  refine ld_t b_1 rfl ?_
  refine ld_t b_1 rfl ?_
  refine tcall (gc_blocks _ _ _ hv _) ?_
  rintro _ s9 ⟨rfl, c_4⟩
  have z_5 := c_4.size
  refine dInt_i ?_
  refine ⟨?_, ?_⟩
  ·
    have r1_6 := b_1.ch c_4 (by simp)
    refine ld_t r1_6 rfl ?_
    refine dInt_i ?_
    rfl
  ·
    refine tcall (gc_split _ _ _ (by omega) (by first | omega | (unfold canG at hv; omega)) (by first | omega | (unfold canG at hv; omega)) _) ?_
    rintro _ s14 ⟨rfl, c_7⟩
    have z_8 := c_7.size
    refine dT3 ?_
    refine dInt_i ?_
    refine dInt_i ?_
    refine dBl_i ?_
    refine ret_t ?_
    exact ⟨rfl, ((((Ch.refl [] s).ch c_2 (by simp)).ch c_4 (by simp)).ch c_7 (by simp))⟩
/-- bollard/geom.Inode -/
theorem gc_inode (a b c : Int) (n : Int) (hv : canG a b c) (hn : 0 ≤ n ∧ n < a * c) (s : TH) : TRet Try.prog 16 #[.agg #[.int .i64 a, .int .i64 b, .int .i64 c], .int .i64 n] s fun v s' => v = .tuple #[.int .i64 (n / c * b + (2 + n % c / 4)), .int .i64 (n % c % 4 * 32), .bool true] ∧ Ch [] s s' := by
  have hac := mul_le (a := a) (b := c) (c := 8) (d := 64) (by unfold canG at hv; omega) (by unfold canG at hv; omega) (by unfold canG at hv; omega) (by unfold canG at hv; omega)
  have hdm : 0 ≤ n % c ∧ n % c < c ∧ 0 ≤ n / c ∧ n / c < a := ⟨Int.emod_nonneg _ (by unfold canG at hv; omega), Int.emod_lt_of_pos _ (by unfold canG at hv; omega), Int.ediv_nonneg hn.1 (by unfold canG at hv; omega), Int.ediv_lt_of_lt_mul (by unfold canG at hv; omega) hn.2⟩
  refine F16_calls _ _ _ _  ?_
  unfold F16
  refine al_t 0 fun r1 s2 hr1 b_1 c_2 z_3 => ?_
  refine ld_t b_1 rfl ?_
  refine ld_t b_1 rfl ?_
  refine ld_t b_1 rfl ?_
  refine tcall (gc_owner _ _ _ _ hv (by omega) _) ?_
  rintro _ s7 ⟨rfl, c_4⟩
  have z_5 := c_4.size
  refine dT3 ?_
  refine dInt_i ?_
  refine dInt_i ?_
  refine dBl_i ?_
  refine sB_f rfl ?_
  have r1_6 := b_1.ch c_4 (by simp)
  refine ld_t r1_6 rfl ?_
  refine ld_t r1_6 rfl ?_
  refine ld_t r1_6 rfl ?_
  refine ask_t (by decide) ?_
  refine wr_tq (tdiv4 hdm.1) (by unfold canG at hv; omega) ?_
  refine wr_t (by unfold canG at hv; omega) ?_
  refine tcall (gc_at _ _ _ _ _ hv (by omega) (by first | omega | (unfold canG at hv; omega)) _) ?_
  rintro _ s20 ⟨rfl, c_7⟩
  have z_8 := c_7.size
  refine dT2 ?_
  refine dInt_i ?_
  refine dBl_i ?_
  refine ask_t (by decide) ?_
  refine nm_t (tmod4 hdm.1) ?_
  refine wr_t (by unfold canG at hv; omega) ?_
  refine ret_t ?_
  exact ⟨rfl, ((((Ch.refl [] s).ch c_2 (by simp)).ch c_4 (by simp)).ch c_7 (by simp))⟩
-- no form: bollard/geom.IsData
-- no form: bollard/bollardref04.Blocks
-- no form: bollard/bollardref04.Group
-- no form: bollard/bollardref04.IsData
end Go.Proofs.Ytdlelcpkelginaa.E
/- Contracts of functions. -/
namespace Go.Proofs.Ytdlelcpkelginaa.E
open Go Go.Proofs
set_option linter.unusedVariables false
set_option linter.unusedSimpArgs false
/-- a write on its way -/
structure SentM where
  id : Int
  blk : Int
  by_ : List UInt8
/-- what a disk is -/
structure DiskM where
  blocks : List (List UInt8)
  queue : List SentM
  fails : Int → Int
  last : Int
def DiskM.has (D : DiskM) (b : Int) : Prop := 0 ≤ b ∧ b < D.blocks.length
instance (D : DiskM) (b : Int) : Decidable (D.has b) := by unfold DiskM.has; infer_instance
/-- a slice's value: address, length, capacity -/
abbrev Hd := Option Addr × Nat
def hv (n : Nat) (p : Hd) : Value := .slice p.1 n p.2
def hd1 (p : Hd) : List Value := [.slice p.1 128 p.2]
def qv (q : Int × Int × Hd) : List Value := [.int .i64 q.1, .int .i64 q.2.1, .slice q.2.2.1 128 q.2.2.2]
theorem hd1_len (p : Hd) : (hd1 p).length = 1 := rfl
/-- so many bytes lie behind a slice's value -/
structure ByAt (s : TH) (τ : Nat) (p : Hd) (b : List UInt8) : Prop where
  sl : Sl s p.1 (bvs b) τ
  len : b.length = 128
theorem ByAt.mv {s s' : TH} {τ : Nat} {p : Hd} {b : List UInt8} {C : Nat → Prop} (h : ByAt s τ p b) (c : Chg C s s') (hn : ∀ j, j < s.h.size → s.g j = τ → ¬ C j) : ByAt s' τ p b := ⟨h.sl.mv c hn, h.len⟩
theorem ByAt.ne {s : TH} {τ : Nat} {p : Hd} {b : List UInt8} (h : ByAt s τ p b) : ∃ a, p.1 = some a := h.sl.some fun e => by have := congrArg List.length e; rw [bvs_len, h.len] at this; cases this
/-- rows of bytes -/
structure BRel (s : TH) (τ : Nat) (hs : List Hd) (bs : List (List UInt8)) : Prop where
  len : hs.length = bs.length
  at_ : ∀ (i : Nat) (p : Hd) (b : List UInt8), hs[i]? = some p → bs[i]? = some b → ByAt s τ p b
structure QRel (s : TH) (τ : Nat) (qs : List (Int × Int × Hd)) (q : List SentM) : Prop where
  len : qs.length = q.length
  at_ : ∀ (i : Nat) (x : Int × Int × Hd) (m : SentM), qs[i]? = some x → q[i]? = some m → x.1 = m.id ∧ x.2.1 = m.blk ∧ ByAt s τ x.2.2 m.by_
theorem BRel.mv {s s' : TH} {τ : Nat} {hs : List Hd} {bs : List (List UInt8)} {C : Nat → Prop} (h : BRel s τ hs bs) (c : Chg C s s') (hn : ∀ j, j < s.h.size → s.g j = τ → ¬ C j) : BRel s' τ hs bs := ⟨h.len, fun i p b h1 h2 => (h.at_ i p b h1 h2).mv c hn⟩
theorem QRel.mv {s s' : TH} {τ : Nat} {hs : List (Int × Int × Hd)} {bs : List SentM} {C : Nat → Prop} (h : QRel s τ hs bs) (c : Chg C s s') (hn : ∀ j, j < s.h.size → s.g j = τ → ¬ C j) : QRel s' τ hs bs := ⟨h.len, fun i p b h1 h2 => ⟨(h.at_ i p b h1 h2).1, (h.at_ i p b h1 h2).2.1, (h.at_ i p b h1 h2).2.2.mv c hn⟩⟩
theorem bcell {hs : List Hd} {m : Nat} {x : Hd} (h : hs[m]? = some x) : (hs.flatMap hd1)[m]? = some (.slice x.1 128 x.2) := by
  have := fm_get hd1_len hs m 0 x h (by omega); simpa [hd1] using this
theorem fm_set1 (hs : List Hd) (j : Nat) (p : Hd) : (hs.flatMap hd1).set j (.slice p.1 128 p.2) = (hs.set j p).flatMap hd1 := by
  have e : ∀ l : List Hd, l.flatMap hd1 = l.map fun p => .slice p.1 128 p.2 := fun l => by induction l with | nil => rfl | cons x l ih => simp [hd1, ih]
  rw [e, e, List.map_set]
theorem BRel.set {s : TH} {τ : Nat} {hs : List Hd} {bs : List (List UInt8)} (h : BRel s τ hs bs) (j : Nat) {p : Hd} {b : List UInt8} (hp : ByAt s τ p b) : BRel s τ (hs.set j p) (bs.set j b) := by
  refine ⟨by simp [h.len], fun i x y hx hy => ?_⟩
  rw [List.getElem?_set] at hx hy
  by_cases hij : j = i
  · subst hij
    rw [if_pos rfl] at hx hy
    split at hx
    · split at hy
      · cases hx; cases hy; exact hp
      · cases hy
    · cases hx
  · rw [if_neg hij] at hx hy; exact h.at_ i x y hx hy
theorem QRel.snoc {s : TH} {τ : Nat} {qs : List (Int × Int × Hd)} {q : List SentM} (h : QRel s τ qs q) {x : Int × Int × Hd} {m : SentM} (hx : x.1 = m.id ∧ x.2.1 = m.blk ∧ ByAt s τ x.2.2 m.by_) : QRel s τ (qs ++ [x]) (q ++ [m]) := by
  refine ⟨by simp [h.len], fun i y n hy hn => ?_⟩
  by_cases hi : i < q.length
  · rw [List.getElem?_append_left (by rw [h.len]; exact hi)] at hy
    rw [List.getElem?_append_left hi] at hn
    exact h.at_ i y n hy hn
  · rw [List.getElem?_append_right (by rw [h.len]; omega)] at hy
    rw [List.getElem?_append_right (by omega)] at hn
    rw [h.len] at hy
    cases hd : i - q.length with
    | zero => rw [hd] at hy hn; simp at hy hn; subst hy hn; exact hx
    | succ k => rw [hd] at hy; simp at hy
/-- of a block how many of its reads fail -/
def FailsOk (fm : List (Int × Value)) (f : Int → Int) : Prop := ∀ b, (mget b fm).getD (.int .i64 0) = .int .i64 (f b)
/-- a disk of the program in memory, its parts -/
structure DiskP (s : TH) (d T : Nat) (D : DiskM) (pa : Option Addr) (pc : Nat) (qa : Option Addr) (qc : Nat) (hs : List Hd) (qs : List (Int × Int × Hd)) (fr : Nat) (fm : List (Int × Value)) : Prop where
  blk : Blk s d [.slice pa D.blocks.length pc, .slice qa D.queue.length qc, .map (some fr), .int .i64 D.last] 99999 T
  rows : Own s pa D.blocks.length pc 32 1 (hs.flatMap hd1) (T + 1)
  brel : BRel s (T + 3) hs D.blocks
  que : Own s qa D.queue.length qc 99999 3 (qs.flatMap qv) (T + 2)
  qrel : QRel s (T + 3) qs D.queue
  fails : MapK (Value.int .i64) s fr fm (T + 4)
  fok : FailsOk fm D.fails
  nb : 1 ≤ D.blocks.length ∧ D.blocks.length ≤ 2048
  nq : D.queue.length ≤ 64
  qin : ∀ m ∈ D.queue, 0 ≤ m.blk ∧ m.blk < D.blocks.length
def Disk (s : TH) (d T : Nat) (D : DiskM) : Prop := ∃ pa pc qa qc hs qs fr fm, DiskP s d T D pa pc qa qc hs qs fr fm
theorem DiskP.mv {s s' : TH} {d T : Nat} {D : DiskM} {pa : Option Addr} {pc : Nat} {qa : Option Addr} {qc : Nat} {hs : List Hd} {qs : List (Int × Int × Hd)} {fr : Nat} {fm : List (Int × Value)} {C : Nat → Prop}
    (h : DiskP s d T D pa pc qa qc hs qs fr fm) (c : Chg C s s') (hn : ∀ j, j < s.h.size → T ≤ s.g j → s.g j < T + 10 → ¬ C j) : DiskP s' d T D pa pc qa qc hs qs fr fm :=
  ⟨h.blk.mv c (of_rng hn (Nat.le_refl _) (by omega) d h.blk.lt h.blk.tag), h.rows.mv c (of_rng hn (by omega) (by omega)), h.brel.mv c (of_rng hn (by omega) (by omega)), h.que.mv c (of_rng hn (by omega) (by omega)), h.qrel.mv c (of_rng hn (by omega) (by omega)),
    h.fails.mv c (of_rng hn (by omega) (by omega) fr h.fails.lt h.fails.tag), h.fok, h.nb, h.nq, h.qin⟩
theorem Disk.mv {s s' : TH} {d T : Nat} {D : DiskM} {C : Nat → Prop} (h : Disk s d T D) (c : Chg C s s') (hn : ∀ j, j < s.h.size → T ≤ s.g j → s.g j < T + 10 → ¬ C j) : Disk s' d T D := by
  obtain ⟨pa, pc, qa, qc, hs, qs, fr, fm, h⟩ := h
  exact ⟨pa, pc, qa, qc, hs, qs, fr, fm, h.mv c hn⟩
end Go.Proofs.Ytdlelcpkelginaa.E
/- Loads out of rows of bytes and numbers; rows of records of any kind. -/
namespace Go.Proofs.Ytdlelcpkelginaa.E
open Go
set_option linter.unusedVariables false
set_option linter.unusedSimpArgs false
section
variable {s : TH} {a : Addr} {τ : Nat} {k : Value → Prop}
end
/-- rows of records: each so many cells -/
structure Rp (α : Type) where
  k : Nat
  r : TH → Nat → α → List Value → Prop
  len : ∀ {s τ x l}, r s τ x l → l.length = k
  one : ∀ {s τ x l}, r s τ x l → ∀ u ∈ l, u.oneCell' = true
  mv : ∀ {s s' : TH} {τ x l} {B : Nat → Prop}, r s τ x l → Chg B s s' → (∀ j, j < s.h.size → s.g j = τ → ¬ B j) → r s' τ x l
def RL {α : Type} (R : Rp α) (s : TH) (τ : Nat) : List α → List Value → Prop
  | [], l => l = []
  | x :: xs, l => ∃ c r, l = c ++ r ∧ R.r s τ x c ∧ RL R s τ xs r
section
variable {α : Type} {R : Rp α} {s s' : TH} {τ : Nat}
theorem RL.mv {B : Nat → Prop} : ∀ {xs : List α} {l : List Value}, RL R s τ xs l → Chg B s s' → (∀ j, j < s.h.size → s.g j = τ → ¬ B j) → RL R s' τ xs l
  | [], l, h, c, hn => h
  | x :: xs, l, ⟨c0, r, h1, h2, h3⟩, c, hn => ⟨c0, r, h1, R.mv h2 c hn, RL.mv h3 c hn⟩
theorem RL.len : ∀ {xs : List α} {l : List Value}, RL R s τ xs l → l.length = xs.length * R.k
  | [], l, h => by rw [show l = [] from h]; simp
  | x :: xs, l, ⟨c0, r, h1, h2, h3⟩ => by rw [h1, List.length_append, R.len h2, RL.len h3, List.length_cons, Nat.add_mul]; omega
theorem RL.one : ∀ {xs : List α} {l : List Value}, RL R s τ xs l → ∀ u ∈ l, u.oneCell' = true
  | [], l, h, u, hu => by rw [show l = [] from h] at hu; cases hu
  | x :: xs, l, ⟨c0, r, h1, h2, h3⟩, u, hu => by
    rw [h1] at hu
    rcases List.mem_append.1 hu with hu | hu
    · exact R.one h2 u hu
    · exact RL.one h3 u hu
theorem RL.app : ∀ {xs ys : List α} {l m : List Value}, RL R s τ xs l → RL R s τ ys m → RL R s τ (xs ++ ys) (l ++ m)
  | [], ys, l, m, h, k => by rw [show l = [] from h]; exact k
  | x :: xs, ys, l, m, ⟨c0, r, h1, h2, h3⟩, k => ⟨c0, r ++ m, by rw [h1, List.append_assoc], h2, RL.app h3 k⟩
theorem RL.get : ∀ {xs : List α} {l : List Value} {i : Nat} {x : α}, RL R s τ xs l → xs[i]? = some x → ∃ c, R.r s τ x c ∧ ∀ j, j < R.k → l[i * R.k + j]? = c[j]?
  | [], l, i, x, h, hx => by simp at hx
  | y :: xs, l, 0, x, ⟨c0, r, h1, h2, h3⟩, hx => by
    simp at hx; subst hx
    exact ⟨c0, h2, fun j hj => by rw [h1, Nat.zero_mul, Nat.zero_add, List.getElem?_append_left (by rw [R.len h2]; exact hj)]⟩
  | y :: xs, l, i + 1, x, ⟨c0, r, h1, h2, h3⟩, hx => by
    obtain ⟨c, h4, h5⟩ := RL.get h3 (by simpa using hx)
    refine ⟨c, h4, fun j hj => ?_⟩
    rw [h1, List.getElem?_append_right (by rw [R.len h2, Nat.add_mul]; omega), R.len h2, ← h5 j hj]
    congr 1; rw [Nat.add_mul]; omega
theorem RL.take : ∀ {xs : List α} {l : List Value} (i : Nat), RL R s τ xs l → RL R s τ (xs.take i) (l.take (i * R.k))
  | _, _, 0, _ => by simp [RL]
  | [], l, i + 1, h => by rw [show l = [] from h]; simp [RL]
  | x :: xs, l, i + 1, ⟨c0, r, h1, h2, h3⟩ => by
    refine ⟨c0, r.take (i * R.k), ?_, h2, RL.take i h3⟩
    rw [h1, Nat.add_mul, Nat.one_mul, List.take_append, R.len h2, List.take_of_length_le (by rw [R.len h2]; omega)]
    congr 2; omega
theorem RL.drop : ∀ {xs : List α} {l : List Value} (i : Nat), RL R s τ xs l → RL R s τ (xs.drop i) (l.drop (i * R.k))
  | _, _, 0, h => by simpa using h
  | [], l, i + 1, h => by rw [show l = [] from h]; simp [RL]
  | x :: xs, l, i + 1, ⟨c0, r, h1, h2, h3⟩ => by
    have e : List.drop (i * R.k + R.k) c0 = [] := List.drop_eq_nil_iff.2 (by rw [R.len h2]; omega)
    rw [h1, Nat.add_mul, Nat.one_mul, List.drop_append, R.len h2, e, List.nil_append, List.drop_succ_cons, show i * R.k + R.k - R.k = i * R.k by omega]
    exact RL.drop i h3
theorem RL.all {Q : α → Prop} (hQ : ∀ {x c}, R.r s τ x c → Q x) : ∀ {xs : List α} {l : List Value}, RL R s τ xs l → ∀ x ∈ xs, Q x
  | [], l, h, x, hx => by cases hx
  | y :: xs, l, ⟨c0, r, h1, h2, h3⟩, x, hx => by
    rcases List.mem_cons.1 hx with rfl | hx
    · exact hQ h2
    · exact RL.all hQ h3 x hx
end
end Go.Proofs.Ytdlelcpkelginaa.E
/- Marks that no old block has; appends of numbers and bytes. -/
namespace Go.Proofs.Ytdlelcpkelginaa.E
open Go
set_option linter.unusedVariables false
set_option linter.unusedSimpArgs false
theorem fresh6 (s : TH) (a b c d e f : Nat) : ∃ M, (∀ j, j < s.h.size → s.g j < M) ∧ 10 ≤ M ∧ a < M ∧ b < M ∧ c < M ∧ d < M ∧ e < M ∧ f < M := by
  have h : ∀ n, ∃ m, ∀ j, j < n → s.g j < m := fun n => by
    induction n with
    | zero => exact ⟨0, fun j hj => by omega⟩
    | succ n ih =>
      obtain ⟨m, hm⟩ := ih
      refine ⟨m + s.g n + 1, fun j hj => ?_⟩
      by_cases e : j = n
      · subst e; omega
      · have := hm j (by omega); omega
  obtain ⟨m, hm⟩ := h s.h.size
  exact ⟨m + a + b + c + d + e + f + 10, fun j hj => by have := hm j hj; omega, by omega, by omega, by omega, by omega, by omega, by omega, by omega⟩
theorem Ch.fr {T T' : List Nat} {a b c : TH} {M : Nat} (h : Ch T a b) (k : Ch T' b c) (hM : ∀ j, j < a.h.size → a.g j < M) (hT : ∀ x ∈ T', x ∈ T ∨ M ≤ x) : Ch T a c :=
  Chg.trans h k fun j hj hB => by
    have hB : b.g j ∈ T' := hB
    rw [h.tag j hj] at hB
    rcases hT _ hB with h1 | h1
    · exact h1
    · have := hM j hj; omega
theorem Ch.app {T T' : List Nat} {a b c : TH} (h : Ch T a b) (k : Ch T' b c) : Ch (T ++ T') a c :=
  Chg.trans (h.less (T' := T ++ T') fun x hx => List.mem_append_left _ hx) k fun j hj hB => by
    have hB : b.g j ∈ T' := hB
    rw [h.tag j hj] at hB
    exact List.mem_append_right _ hB
/-- a result's blocks get another mark -/
def remark (s : TH) (μ τ : Nat) : TH := ⟨s.h, fun j => if s.g j = μ then τ else s.g j⟩
theorem ret_t' {Q : Value → TH → Prop} {v : Value} {s s' : TH} (hs : s'.h = s.h) (h : Q v s') : RT Q (.returned v) s.h := ⟨v, s', rfl, hs, h⟩
theorem remark_ch {T : List Nat} {s s' : TH} {M μ τ : Nat} (c : Ch T s s') (hM : ∀ j, j < s.h.size → s.g j < M) (hμ : M ≤ μ) : Ch T s (remark s' μ τ) :=
  ⟨c.size, fun j hj => by
    have h1 := c.tag j hj
    have h2 := hM j hj
    show (if s'.g j = μ then τ else s'.g j) = s.g j
    rw [h1, if_neg (by omega)], c.get⟩
theorem remark_to {s : TH} {μ τ : Nat} : ∀ j, s.g j = μ → (remark s μ τ).g j = τ := fun j hj => by
  show (if s.g j = μ then τ else s.g j) = τ
  rw [if_pos hj]
theorem Own.remark {s : TH} {a : Option Addr} {n c e k : Nat} {xs : List Value} {μ τ : Nat} (h : Own s a n c e k xs μ) : Own (remark s μ τ) a n c e k xs τ := by
  refine ⟨h.1, h.2.imp id ?_⟩
  rintro ⟨g, o, L, h1, h2, h3⟩
  exact ⟨g, o, L, h1, ⟨h2.get, remark_to g h2.tag⟩, h3⟩
theorem Sl.remark {s : TH} {a : Option Addr} {l : List Value} {μ τ : Nat} (h : Sl s a l μ) : Sl (remark s μ τ) a l τ := by
  refine h.imp id ?_
  rintro ⟨g, o, h1, h2, h3, h4⟩
  exact ⟨g, o, h1, h2, remark_to g h3, h4⟩
theorem Blk.remark {s : TH} {r : Nat} {l : List Value} {t μ τ : Nat} (h : Blk s r l t μ) : Blk (remark s μ τ) r l t τ := ⟨h.get, remark_to r h.tag⟩
theorem MapK.remark {κ : Type} {kf : κ → Value} {s : TH} {r : Nat} {m : List (κ × Value)} {μ τ : Nat} (h : MapK kf s r m μ) : MapK kf (remark s μ τ) r m τ := ⟨h.get, remark_to r h.tag, h.nd⟩
theorem Sl.len0 {s : TH} {l : List Value} {τ : Nat} (h : Sl s none l τ) : l = [] := by
  rcases h with h | ⟨g, o, h1, _⟩
  · exact h
  · cases h1
section
variable {P : Program} {t ty e : TypeId} {E : List PanicEntry → Heap → Prop} {s : TH} {a xa : Option Addr} {n c m mc : Nat} {τ τ' : Nat} {K : Value → Heap → Prop}
theorem app_bv {xs ys : List UInt8} (ht : P.underlying t = some (.slice e)) (hi : (P.info? e).map (fun i => (i.zero, i.size, i.bytes)) = some (some (.int .u8 0), 1, 1))
    (hO : Own s a n c e 1 (bvs xs) τ) (hx : Sl s xa (bvs ys) τ') (hm : ys.length = m) (hb : n + m ≤ 140737488355328)
    (hk : ∀ (s' : TH) (a' : Option Addr) (c' : Nat), Own s' a' (n + m) c' e 1 (bvs (xs ++ ys)) τ → Ch [τ] s s' → K (.slice a' (n + m) c') s'.h) :
    semW P (Builtin.append_ #[t, t] ty #[.slice a n c, .slice xa m mc]) E s.h K :=
  app_i ht hi rfl hO hx (by rw [bvs_len]; omega) (bvs_one _) (fun h => by subst h; have h0 := congrArg List.length hx.len0; rw [bvs_len, List.length_nil] at h0; omega) (by unfold maxLen; omega)
    fun s' a' c' h1 h2 _ => hk s' a' c' (by unfold bvs at *; rw [List.map_append]; exact h1) (h2.ch hO (by simp))
end
/-- bytes, with others over them from a place on -/
def overlay (l : List UInt8) (p : Nat) (x : List UInt8) : List UInt8 := l.take p ++ x ++ l.drop (p + x.length)
theorem overlay_len {l : List UInt8} {p : Nat} {x : List UInt8} (h : p + x.length ≤ l.length) : (overlay l p x).length = l.length := by
  unfold overlay; rw [List.length_append, List.length_append, List.length_take, List.length_drop]; omega
theorem copy_sl {P : Program} {t t2 ty e : TypeId} {E : List PanicEntry → Heap → Prop} {s : TH} {a : Addr} {xa : Option Addr} {n c m mc τ τx : Nat} {p : Int} {l x : List UInt8} {K : Value → Heap → Prop}
    (ht : P.underlying t = some (.slice e)) (hi' : (P.info? e).map (fun i => (i.zero, i.size, i.bytes)) = some (some (.int .u8 0), 1, 1))
    (hO : Own s (some a) n c e 1 (bvs l) τ) (hx : Sl s xa (bvs x) τx) (hm : x.length = m) (h0 : 0 ≤ p) (hp : p.toNat + m ≤ n)
    (hk : ∀ s' : TH, Own s' (some a) n c e 1 (bvs (overlay l p.toNat x)) τ → Ch [τ] s s' → s.h.size = s'.h.size → K (.int .i64 (m : Int)) s'.h) :
    semW P (Builtin.copy_ #[t, t2] ty #[.slice (slO (some a) 1 p (c : Int)) (n - p.toNat) (c - p.toNat), .slice xa m mc]) E s.h K := by
  have hmin : min m (n - p.toNat) = m := by omega
  have h := copy_gen (P := P) (t2 := t2) (ty := ty) (E := E) (m := m) (x := x) (p := p.toNat) (src := .slice xa m mc) (K := K) ht hi' hO (by omega) (fun w => rfl) (by omega) (fun w hw => by
    rw [hmin]
    cases xa with
    | none =>
      have := congrArg List.length hx.len0
      rw [bvs_len, List.length_nil] at this
      obtain rfl : m = 0 := by omega
      have : x = [] := List.eq_nil_of_length_eq_zero hm
      subst this
      rw [run_firstCells_none]; rfl
    | some b => exact run_firstCells_some (P := P) w 1 m b m mc _ (by rw [bvs_len]; omega) fun j u hu => hx.cells w hw j u hu)
    (fun s' h1 h2 h3 => by rw [hmin]; exact hk s' h1 (h2.ch hO (by simp)) h3)
  rw [Int.toNat_of_nonneg h0] at h
  exact h
end Go.Proofs.Ytdlelcpkelginaa.E
