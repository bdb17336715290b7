/- My own texts, joined. -/
import Derived.DeepKeys
import Derived.KernelRfl
import Derived.Laws.StructEq
import Derived.Recover
import Derived.Tactics2
import Derived.Test.YtklppdodadkcnaaGreatProg
import Derived.WalkKit
import Derived.Test.YtklppdodadkcnaaGreatIP11
/- Contracts of functions. -/
namespace Go.Proofs.YtklppdodadkcnaaGreat.E
open Go Go.Proofs Go.RowKit Go.Maps Go.Shelf Go.Sort
set_option linter.unusedVariables false
set_option linter.unusedSimpArgs false
def clrB (b : UInt8) (k : Nat) : UInt8 := UInt8.ofBitVec (b.toBitVec &&& ~~~BitVec.ofNat 8 (2 ^ k))
def orB (b : UInt8) (k : Nat) : UInt8 := UInt8.ofBitVec (b.toBitVec ||| BitVec.ofNat 8 (2 ^ k))
def setTo (b : UInt8) (k : Nat) (on : Bool) : UInt8 := if on = true then orB (clrB b k) k else clrB b k
/-- a row with a bit set, or not -/
def withB (l : List UInt8) (i : Nat) (on : Bool) : List UInt8 := l.set (i / 8) (setTo (l.getD (i / 8) 0) (i % 8) on)
theorem max_i {P : Program} {ats : Array TypeId} {ty : TypeId} {E : List PanicEntry → Heap → Prop} {H : Heap} {K : Value → Heap → Prop} {a b : Int} (hk : K (.int .i64 (max a b)) H) :
    semW P (Builtin.max_ ats ty #[.int .i64 a, .int .i64 b]) E H K := .mk fun w hw => by
  have hr : (Builtin.max_ ats ty #[.int .i64 a, .int .i64 b]).run P w = .ok (.int .i64 (max a b)) w := by
    have he : (if b > a then b else a) = max a b := by split <;> omega
    simp [Builtin.max_, Builtin.max2, he]
  rw [hr]
  exact ⟨by rw [hw]; exact hk, Like.refl w⟩
theorem copy_blkm {P : Program} {t t2 ty e : TypeId} {E : List PanicEntry → Heap → Prop} {s : TH} {r o n m c mc tb : Nat} {xa : Option Addr} {L : List Value} {x : List UInt8} {τ τx : Nat} {K : Value → Heap → Prop}
    (ht : P.underlying t = some (.slice e)) (hi' : (P.info? e).map (fun i => (i.zero, i.size, i.bytes)) = some (some (.int .u8 0), 1, 1))
    (hB : Blk s r L tb τ) (hx : Sl s xa (bvs x) τx) (hm : x.length = m) (hn : 0 < m) (hmn : m ≤ n) (ho : o + n ≤ L.length)
    (hk : ∀ s' : TH, Blk s' r (L.take o ++ bvs x ++ L.drop (o + m)) tb τ → On r s s' → s.h.size = s'.h.size → K (.int .i64 (m : Int)) s'.h) :
    semW P (Builtin.copy_ #[t, t2] ty #[.slice (some ⟨r, o, none⟩) n c, .slice xa m mc]) E s.h K := .mk fun w hw => by
  obtain ⟨i, hi, hz, hs, hby⟩ := info_of hi'
  obtain ⟨b, rfl⟩ := hx.some (fun h => by have := congrArg List.length h; rw [bvs_len, List.length_nil] at this; omega)
  have hmin : min m n = m := by omega
  have hfw := run_firstCells_some (P := P) w 1 m b m mc (bvs x) (by rw [bvs_len]; omega) fun j u hu => hx.cells w hw j u hu
  have hst := run_storeCells_at P r o tb (bvs x) 0 L.toArray w (by rw [hw]; exact hB.get) (by simp [bvs_len]; omega) (bvs_one _)
  simp only [Nat.add_zero, bvs_len] at hst
  have hr : (Builtin.copy_ #[t, t2] ty #[.slice (some ⟨r, o, none⟩) n c, .slice (some b) m mc]).run P w = .ok (.int .i64 (m : Int)) (w.setRow r (L.take o ++ bvs x ++ L.drop (o + m)).toArray) := by
    simp [Builtin.copy_, run_underlying ht, sizeOf, typeInfo, hi, hs, hfw, hst, goInt, Builtin.lenOf, hm, hmin]
  rw [hr]
  have hset : (w.setRow r (L.take o ++ bvs x ++ L.drop (o + m)).toArray).heap[r]? = some (.cells (L.take o ++ bvs x ++ L.drop (o + m)).toArray tb (0, 0)) := setRow_heap w r L.toArray _ tb _ (by rw [hw]; exact hB.get)
  have hK := hk ⟨(w.setRow r (L.take o ++ bvs x ++ L.drop (o + m)).toArray).heap, s.g⟩ ⟨hset, hB.tag⟩ ⟨by simp [← hw], fun _ _ => rfl, fun j hj hn => ?_⟩ (by simp [← hw])
  · exact ⟨hK, rfl, rfl, rfl⟩
  · show (w.setRow r _).heap[j]? = _
    rw [setRow_other w r j _ (fun e => hn (by simp [e])), hw]
/-- bollard/layout.same -/
theorem c_lsame {xa : Option Addr} {xn : Nat} (xc : Nat) {l : List UInt8} {τx : Nat} {ya : Option Addr} {yn : Nat} (yc : Nat) {m : List UInt8} {τy : Nat} {s : TH} (hx : Sl s xa (bvs l) τx) (hn : l.length = xn) (h0 : xa = none → xn = 0) (hy : Sl s ya (bvs m) τy) (hm : m.length = yn) (g0 : ya = none → yn = 0) : TRet Tryz.prog 69 #[.slice xa xn xc, .slice ya yn yc] s fun v s' => v = .bool (decide (l = m)) ∧ Ch [] s s' := by
  refine F69_calls _ _ _ _ _ _  ?_
  unfold F69
  refine conv_bs u85 u5 (by kernel_rfl) hx hn h0 ?_
  refine dStr_i ?_
  refine conv_bs u85 u5 (by kernel_rfl) hy hm g0 ?_
  refine dStr_i ?_
  refine ret_t ?_
  exact ⟨ret_b (by simp only [ByteArray.toList_mk]; by_cases h : l = m <;> simp [h]), (Ch.refl [] s)⟩
theorem sl_cutB {s : TH} {xa : Option Addr} {l : List UInt8} {τ : Nat} (h : Sl s xa (bvs l) τ) (p c : Nat) (hp : p < l.length) (hpc : c ≠ p) : ∃ g o, slO xa 1 (p : Int) (c : Int) = some ⟨g, o, none⟩ ∧ Sl s (some ⟨g, o, none⟩) (bvs (l.drop p)) τ := by
  rcases h with h | ⟨g, o, rfl, h1, h2, h3⟩
  · have := congrArg List.length h; rw [bvs_len, List.length_nil] at this; omega
  · refine ⟨g, o + p, by rw [slA_mk, if_neg hpc, Nat.mul_one], .inr ⟨g, o + p, rfl, h1, h2, fun j v hv => ?_⟩⟩
    rw [Nat.add_assoc]
    refine h3 (p + j) v ?_
    unfold bvs at hv ⊢
    rw [List.map_drop, List.getElem?_drop] at hv; exact hv
theorem fdv (n k : Nat) (hk : k ≤ 4) : Int.fdiv (n : Int) (2 ^ min (Int.toNat (8 * (k : Int))) 64) = ((n / 256 ^ k : Nat) : Int) := by
  have e : ((2 : Int) ^ min (Int.toNat (8 * (k : Int))) 64) = ((256 ^ k : Nat) : Int) := by
    rcases (by omega : k = 0 ∨ k = 1 ∨ k = 2 ∨ k = 3 ∨ k = 4) with rfl | rfl | rfl | rfl | rfl <;> decide
  rw [e, Int.fdiv_eq_ediv_of_nonneg _ (Int.natCast_nonneg _)]
  exact (Int.natCast_ediv n (256 ^ k)).symm
theorem u8r (q : Nat) : IntKind.u8.wrap (q : Int) = ((UInt8.ofNat (q % 256)).toNat : Int) := by
  have e : IntKind.u8.wrap (q : Int) = (q : Int) % 256 := rfl
  have e2 : (UInt8.ofNat (q % 256)).toNat = (q % 256) % 256 := rfl
  rw [e, e2]; omega
theorem shl16 (q : Nat) (h : q < 65521) : IntKind.i64.wrap ((q : Int) * 2 ^ min (Int.toNat 16) 64) = (q : Int) * 65536 := by
  have e : ((2 : Int) ^ min (Int.toNat 16) 64) = 65536 := by decide
  rw [e]; exact wrap_id (by omega) (by omega)
theorem div_zero {n k : Nat} (h : n < 256 ^ k) : n / 256 ^ k = 0 := Nat.div_eq_of_lt h
/-- bollard/word.there -/
theorem c_wthere {xa : Option Addr} {xn : Nat} (xc : Nat) (p w : Nat) (s : TH) (hw : 1 ≤ w ∧ w ≤ 4) (hp : p + w ≤ xn) (hb : xn ≤ 1000000000) : TRet Tryz.prog 171 #[.slice xa xn xc, .int .i64 (p : Int), .int .i64 (w : Int)] s fun v s' => v = .int .i64 0 ∧ Ch [] s s' := by
  refine F171_calls _ _ _ _ _  ?_
  unfold F171
  refine jn_u ?_
  refine sB_d (fun hsB1 => by exfalso; omega) (fun hsB1 => ?_)
  refine sB_d (fun hsB2 => by exfalso; omega) (fun hsB2 => ?_)
  intro _
  intros
  refine dBl_i ?_
  refine sB_d (fun hsB3 => by exfalso; omega) (fun hsB3 => ?_)
  refine jn_u ?_
  refine sB_d (fun hsB4 => by exfalso; omega) (fun hsB4 => ?_)
  refine wr_t (by omega) ?_
  intro _
  intros
  refine dBl_i ?_
  refine sB_d (fun hsB5 => by exfalso; omega) (fun hsB5 => ?_)
  refine ret_t ?_
  exact ⟨rfl, (Ch.refl [] s)⟩
/-- bollard/word.Put -/
theorem c_wput (τ : Nat) {xa : Option Addr} {xn : Nat} (xc : Nat) {l : List UInt8} {τx : Nat} {s : TH} (hx : Sl s xa (bvs l) τx) (hn : l.length = xn) (hb : xn ≤ 1000000000) (p w n : Nat) (hw : 1 ≤ w ∧ w ≤ 4) (hp : p + w ≤ xn) (hN : n < 256 ^ w) (hN2 : n < 4294967296) : TRet Tryz.prog 133 #[.slice xa xn xc, .int .i64 (p : Int), .int .i64 (w : Int), .int .i64 (n : Int)] s fun v s' => ∃ a' c', v = .tuple #[.slice a' xn c', .int .i64 0] ∧ Ch [] s s' ∧ Own s' a' xn c' 5 1 (bvs (wrL l p w n)) τ := by
  obtain ⟨M, hM, hM0, hMa, hMb, hMc, hMd, hMe, hMf⟩ := fresh6 s τx τ 0 0 0 0
  refine F133_calls _ _ _ _ _ _  ?_
  unfold F133
  refine tcall (c_wthere xc p w _ hw hp hb) ?_
  rintro v_2 s_1 ⟨rfl, c_4⟩
  have z_5 := c_4.size
  refine dInt_i ?_
  refine jn_u ?_
  refine jn_u ?_
  refine sB_t (by rfl) ?_
  refine sB_d (fun hsB2 => by exfalso; omega) (fun hsB2 => ?_)
  refine wr_t (by omega) ?_
  refine ask_t (by omega) ?_
  refine nm_a fun qn hqn => ?_
  rw [fdv _ _ hw.2, div_zero hN] at hqn
  intro _
  intros
  refine dBl_i ?_
  refine sB_nd (fun hsB3 => by exfalso; omega) (fun hsB3 => ?_)
  intro _
  intros
  refine dInt_i ?_
  refine sB_f (by rfl) ?_
  have h_6 := hx.mv c_4 (tagn (by simp))
  refine app_bv (xs := []) u85 in5 (Own.nil _ _ _ (M + 5)) h_6 hn (by omega) fun s_7 a1 c1 o_10 c_8 => ?_
  have z_9 := c_8.size
  have ho0 := o_10
  rw [List.nil_append, Nat.zero_add] at ho0
  simp only [Nat.zero_add]
  refine dSl_i ?_
  refine ⟨fun vs H' => ∃ s' : TH, s'.h = H' ∧ ∃ j, vs = [.int .i64 j] ∧ Ch [M + 5] s_7 s' ∧ (∃ k : Nat, j = k ∧ k ≤ w ∧ Own s' a1 xn c1 5 1 (bvs (wrL l p k n)) (M + 5)), fun vs H' => match vs with | [.int .i64 j] => ((w : Int) - j).toNat | _ => 0, ⟨s_7, rfl, _, rfl, Ch.refl _ _, ?_⟩, ?_⟩
  ·
    exact ⟨0, rfl, by omega, ho0⟩
  ·
    intro j _ _ _ _ _ _ _ _ _ _ _ _ _ _ H_ hI_12
    obtain ⟨s_11, rfl, j_, hvs, c_13, k, rfl, hk, ho⟩ := hI_12
    cases hvs
    have z_14 := c_13.size
    refine sB_d (fun hsB5 => ?_) (fun hsB5 => ?_)
    ·
      refine wr_t (by omega) ?_
      refine wr_t (by omega) ?_
      refine ask_t (by omega) ?_
      rw [fdv _ _ (by omega)]
      refine nm_t rfl ?_
      refine wr_a fun bn hbn => ?_
      rw [u8r] at hbn
      subst hbn
      obtain ⟨a_15, rfl⟩ := ho.ne_none (by omega)
      refine nz_i ?_
      refine ask_t (by omega) ?_
      refine Own.st ho rfl (by omega) fun s51 b_16 c_17o z_18 => ?_
      have c_17 := Ch.on_tag (T := [M + 5]) (Ch.refl _ _) c_17o ho.tagOf (by simp)
      refine wr_t (by omega) ?_
      refine ⟨⟨s51, rfl, _, rfl, (((Ch.refl [M + 5] s_7).ch c_13 (by simp)).ch c_17 (by simp)), ?_⟩, ?_⟩
      ·
        have ho := b_16
        rw [show Int.toNat ((p : Int) + (k : Int)) * 1 = p + k by omega, bvs_set] at ho
        exact ⟨k + 1, by omega, by omega, ho⟩
      ·
        simp only []; omega
    ·
      obtain rfl : k = w := by omega
      exact ret_t' (s' := remark s_11 (M + 5) τ) rfl ⟨_, _, rfl, remark_ch ((((Ch.refl [] s).ch c_4 (by simp)).fr c_8 hM (by simp)).fr c_13 hM (by simp)) hM (by omega), (ho).remark⟩
/-- bollard/word.Sum -/
theorem c_wsum {xa : Option Addr} {xn : Nat} (xc : Nat) {l : List UInt8} {τx : Nat} {s : TH} (hx : Sl s xa (bvs l) τx) (hn : l.length = xn) (hb : xn ≤ 1000000000) : TRet Tryz.prog 128 #[.slice xa xn xc] s fun v s' => v = .int .i64 (sumN l : Int) ∧ Ch [] s s' := by
  refine F128_calls _ _ _  ?_
  unfold F128
  refine ⟨fun vs H' => ∃ s' : TH, s'.h = H' ∧ ∃ x1 y1 m, vs = [.int .i64 x1, .int .i64 y1, .int .i64 m] ∧ Ch [] s s' ∧ (∃ k : Nat, m = k ∧ k ≤ xn ∧ x1 = ((sumS (l.take k)).1 : Int) ∧ y1 = ((sumS (l.take k)).2 : Int)), fun vs H' => match vs with | [.int .i64 x1, .int .i64 y1, .int .i64 m] => ((xn : Int) - m).toNat | _ => 0, ⟨s, rfl, _, _, _, rfl, Ch.refl _ _, ?_⟩, ?_⟩
  ·
    exact ⟨0, rfl, by omega, rfl, rfl⟩
  ·
    intro x1 y1 m _ _ _ _ _ _ _ _ _ _ _ _ _ _ H_ hI_2
    obtain ⟨s_1, rfl, x1_, y1_, m_, hvs, c_3, k, rfl, hk, rfl, rfl⟩ := hI_2
    cases hvs
    have z_4 := c_3.size
    have hlt := sumS_lt (l.take k)
    refine sB_d (fun hsB1 => ?_) (fun hsB1 => ?_)
    ·
      obtain ⟨b, hbk⟩ : ∃ b, l[k]? = some b := ⟨l[k]'(by omega), by simp⟩
      obtain ⟨ad, rfl⟩ := hx.some (fun e => by have := bvs_get hbk; rw [e] at this; simp at this)
      have hb8 := b.toNat_lt
      refine nz_i ?_
      refine ask_t (by omega) ?_
      have h_5 := hx.mv c_3 (tagn (by simp))
      refine ld_sl h_5 (by rw [Int.toNat_natCast, Nat.mul_one]; exact bvs_get hbk) ?_
      refine dInt_i ?_
      refine wr_t (by omega) ?_
      refine wr_t (by omega) ?_
      refine ask_t (by omega) ?_
      refine nm_a fun n27 hn27 => ?_
      rw [Int.tmod_eq_emod_of_nonneg (by omega)] at hn27
      refine wr_t (by omega) ?_
      refine ask_t (by omega) ?_
      refine nm_a fun n29 hn29 => ?_
      rw [Int.tmod_eq_emod_of_nonneg (by omega)] at hn29
      refine wr_t (by omega) ?_
      refine ⟨⟨s_1, rfl, _, _, _, rfl, ((Ch.refl [] s).ch c_3 (by simp)), ?_⟩, ?_⟩
      ·
        have hs := sumS_snoc (l.take k) b
        rw [show l.take k ++ [b] = l.take (k + 1) by rw [List.take_add_one, hbk]; rfl] at hs
        exact ⟨k + 1, by omega, by omega, by rw [hs]; simp only []; omega, by rw [hs]; simp only []; omega⟩
      ·
        simp only []; omega
    ·
      refine ask_t (by omega) ?_
      rw [shl16 _ hlt.2]
      refine nm_t rfl ?_
      refine wr_t (by omega) ?_
      refine ret_t ?_
      obtain rfl : k = xn := by omega
      rw [List.take_of_length_le (by omega)]
      exact ⟨ret_i (by unfold sumN; omega), ((Ch.refl [] s).ch c_3 (by simp))⟩
/-- bollard/word.Seal -/
theorem c_wseal (τ : Nat) {xa : Option Addr} {xn : Nat} (xc : Nat) {l : List UInt8} {τx : Nat} {s : TH} (hx : Sl s xa (bvs l) τx) (hn : l.length = xn) (hb : xn ≤ 1000000000) (hc : xn ≤ xc) (h4 : 4 ≤ xn) : TRet Tryz.prog 74 #[.slice xa xn xc] s fun v s' => ∃ a' c', v = .tuple #[.slice a' xn c', .int .i64 0] ∧ Ch [] s s' ∧ Own s' a' xn c' 5 1 (bvs (sealL l)) τ := by
  refine F74_calls _ _ _  ?_
  unfold F74
  refine wr_t (by omega) ?_
  rw [show ((xn : Int) - 4) = ((xn - 4 : Nat) : Int) by omega]
  refine sB_d (fun hsB1 => by exfalso; omega) (fun hsB1 => ?_)
  refine ask_t (by omega) ?_
  simp only [slO_zero, Int.toNat_zero, Nat.sub_zero, Int.toNat_natCast]
  refine tcall (c_wsum (xn := xn - 4) xc (hx.takeB (xn - 4)) (by simp; omega) (by omega)) ?_
  rintro v_2 s_1 ⟨rfl, c_4⟩
  have z_5 := c_4.size
  refine dInt_i ?_
  have h_6 := hx.mv c_4 (tagn (by simp))
  refine tcall (c_wput τ xc h_6 hn hb (xn - 4) 4 (sumN (l.take (xn - 4))) (by omega) (by omega) (sumN_lt _) (Nat.lt_of_lt_of_le (sumN_lt _) (by decide))) ?_
  rintro v_8 s_7 ⟨acall2, ccall2, rfl, c_10, call2a⟩
  have z_11 := c_10.size
  refine dT2 ?_
  refine dSl_i ?_
  refine dInt_i ?_
  refine ret_t ?_
  exact ⟨_, _, rfl, (((Ch.refl [] s).ch c_4 (by simp)).ch c_10 (by simp)), by unfold sealL; rw [hn]; exact call2a⟩
/-- a field of a structure: its width, what it is at most, its number -/
structure FldM where
  w : Nat
  m : Nat
  n : Nat
def fc (f : FldM) : List Value := [.int .i64 (f.w : Int), .int .i64 (f.m : Int), .int .i64 (f.n : Int)]
theorem fc_len (f : FldM) : (fc f).length = 3 := rfl
theorem fcell (n : Nat) (hn : n < 3) {ls : List FldM} {k : Nat} {x : FldM} (h : ls[k]? = some x) : (ls.flatMap fc)[k * 3 + n]? = (fc x)[n]? := fm_get fc_len ls k n x h hn
def numL (n : Nat) : Nat → List UInt8
  | 0 => []
  | k + 1 => numL n k ++ [UInt8.ofNat (n / 256 ^ k % 256)]
theorem numL_len (n : Nat) : ∀ k, (numL n k).length = k
  | 0 => rfl
  | k + 1 => by rw [numL, List.length_append, numL_len n k]; rfl
def fldsL (fs : List FldM) : List UInt8 := fs.flatMap fun f => numL f.n f.w
theorem fldsL_snoc {fs : List FldM} {k : Nat} {f : FldM} (h : fs[k]? = some f) : fldsL (fs.take (k + 1)) = fldsL (fs.take k) ++ numL f.n f.w := by
  unfold fldsL
  rw [List.take_add_one, h]
  simp
theorem fldsL_le {fs : List FldM} : ∀ k, (fldsL (fs.take k)).length ≤ (fldsL fs).length := fun k => by
  have e : fldsL fs = fldsL (fs.take k) ++ fldsL (fs.drop k) := by unfold fldsL; rw [← List.flatMap_append, List.take_append_drop]
  rw [e, List.length_append]; omega
/-- bollard/layout.fit -/
theorem c_lfit {fa : Option Addr} {fn : Nat} (fk : Nat) {fs : List FldM} {τf : Nat} (s : TH) (hf : Sl s fa (fs.flatMap fc) τf) (hfn : fs.length = fn) (hf0 : fa = none → fn = 0) (hfb : fn ≤ 1000) (hfl : ∀ f ∈ fs, f.n ≤ f.m) : TRet Tryz.prog 71 #[.slice fa fn fk] s fun v s' => v = .bool true ∧ Ch [] s s' := by
  obtain ⟨M, hM, hM0, hMa, hMb, hMc, hMd, hMe, hMf⟩ := fresh6 s τf 0 0 0 0 0
  refine F71_calls _ _ _  ?_
  unfold F71
  refine ⟨fun vs H' => ∃ s' : TH, s'.h = H' ∧ ∃ i, vs = [.int .i64 i] ∧ Ch [M + 9] s s' ∧ (∃ k : Nat, i = k ∧ k ≤ fn), fun vs H' => match vs with | [.int .i64 i] => ((fn : Int) - i).toNat | _ => 0, ⟨s, rfl, _, rfl, Ch.refl _ _, ?_⟩, ?_⟩
  ·
    exact ⟨0, rfl, by omega⟩
  ·
    intro i _ _ _ _ _ _ _ _ _ _ _ _ _ _ _ _ H_ hI_2
    obtain ⟨s_1, rfl, i_, hvs, c_3, k, rfl, hk⟩ := hI_2
    cases hvs
    have z_4 := c_3.size
    refine sB_d (fun hsB1 => ?_) (fun hsB1 => ?_)
    ·
      obtain ⟨f, hxe⟩ : ∃ f, fs[k]? = some f := ⟨fs[k]'(by omega), by simp⟩
      have hff := hfl f (List.mem_of_getElem? hxe)
      obtain ⟨a, rfl⟩ := Option.ne_none_iff_exists'.1 (fun e => absurd (hf0 e) (by omega))
      refine nz_i ?_
      refine ask_t (by omega) ?_
      have h_5 := hf.mv c_3 (tagn (by simp <;> omega))
      refine ld_sl h_5 (by rw [Int.toNat_natCast]; exact fcell 0 (by omega) hxe) ?_
      refine ld_sl2 h_5 (by rw [Int.toNat_natCast]; exact fcell 1 (by omega) hxe) ?_
      refine ld_sl2 h_5 (by rw [Int.toNat_natCast]; exact fcell 2 (by omega) hxe) ?_
      refine al_t (M + 9) fun r26 s27 hr26 b_6 c_7 z_8 => ?_
      refine st_t b_6 rfl (by simp) fun s28 b_9 c_10o z_11 => ?_
      have c_10 := on_ch b_6 c_10o
      refine st_t b_9 rfl (by simp) fun s29 b_12 c_13o z_14 => ?_
      have c_13 := on_ch b_9 c_13o
      refine st_t b_12 rfl (by simp) fun s30 b_15 c_16o z_17 => ?_
      have c_16 := on_ch b_12 c_16o
      refine jn_u ?_
      refine ld_t b_15 rfl ?_
      refine dInt_i ?_
      refine sB_d (fun hsB2 => by exfalso; omega) (fun hsB2 => ?_)
      refine ld_t b_15 rfl ?_
      refine dInt_i ?_
      refine ld_t b_15 rfl ?_
      refine dInt_i ?_
      intro _
      intros
      refine dBl_i ?_
      refine sB_d (fun hsB3 => by exfalso; omega) (fun hsB3 => ?_)
      refine wr_t (by omega) ?_
      refine ⟨⟨s30, rfl, _, rfl, ((((((Ch.refl [M + 9] s).ch c_3 (by simp)).ch c_7 (by simp)).ch c_10 (by simp)).ch c_13 (by simp)).ch c_16 (by simp)), ?_⟩, ?_⟩
      ·
        exact ⟨k + 1, by omega, by omega⟩
      ·
        simp only []; omega
    ·
      refine ret_t ?_
      exact ⟨rfl, ((Ch.refl [] s).fr c_3 hM (by simp))⟩
/-- what bytes are appended to: a row of its own, or a full one -/
structure AppB (s : TH) (pa : Option Addr) (pn pc : Nat) (l : List UInt8) (τ0 τ : Nat) : Prop where
  or_ : Own s pa pn pc 5 1 (bvs l) τ ∨ ∃ a, pa = some a ∧ pc = pn ∧ l.length = pn ∧ Sl s (some a) (bvs l) τ0
theorem AppB.ch {s s' : TH} {pa : Option Addr} {pn pc : Nat} {l : List UInt8} {τ0 τ : Nat} {T : List Nat} (h : AppB s pa pn pc l τ0 τ) (c : Ch T s s') (h0 : τ0 ∉ T) (h1 : τ ∉ T) : AppB s' pa pn pc l τ0 τ := by
  rcases h.or_ with h | ⟨a, e1, e2, e3, h⟩
  · exact ⟨.inl (h.mv c (fun j hj e hB => h1 (by have hB2 : s.g j ∈ T := hB; rw [e] at hB2; exact hB2)))⟩
  · exact ⟨.inr ⟨a, e1, e2, e3, h.mv c (fun j hj e hB => h0 (by have hB2 : s.g j ∈ T := hB; rw [e] at hB2; exact hB2))⟩⟩
theorem AppB.sl {s : TH} {pa : Option Addr} {pn pc : Nat} {l : List UInt8} {τ0 τ : Nat} (h : AppB s pa pn pc l τ0 τ) : ∃ σ, Sl s pa (bvs l) σ ∧ l.length = pn := by
  rcases h.or_ with h | ⟨a, rfl, e2, e3, h⟩
  · exact ⟨τ, h.sl, by have := h.1; rw [bvs_len] at this; omega⟩
  · exact ⟨τ0, h, e3⟩
theorem AppB.app {E : List PanicEntry → Heap → Prop} {s : TH} {pa : Option Addr} {pn pc m mc τ0 τ τx : Nat} {b : Addr} {l x : List UInt8} {K : Value → Heap → Prop} (h : AppB s pa pn pc l τ0 τ) (hy : Sl s (some b) (bvs x) τx) (hxl : x.length = m) (hm : 0 < m) (hb : pn ≤ 1000000000 ∧ m ≤ 1000000000)
    (hk : ∀ (s' : TH) (a' : Option Addr) (c' : Nat), Own s' a' (pn + m) c' 5 1 (bvs (l ++ x)) τ → Ch [τ] s s' → K (.slice a' (pn + m) c') s'.h) :
    semW Tryz.prog (Builtin.append_ #[85, 85] 85 #[.slice pa pn pc, .slice (some b) m mc]) E s.h K := by
  rcases h.or_ with h | ⟨a, rfl, rfl, e3, h⟩
  · exact app_bv u85 in5 h hy hxl (by omega) fun s' a' c' o c => hk s' a' c' o c
  · exact app_g τ u85 in5 h e3 hy hxl hm hb fun s' a' c' o c _ => hk s' a' c' o (c.mono (by simp))
/-- bollard/layout.fields -/
theorem c_lfields {pa : Option Addr} {pn pc τ0 τ : Nat} {l : List UInt8} {fa : Option Addr} {fn : Nat} (fk : Nat) {fs : List FldM} {τf : Nat} (s : TH) (hb : AppB s pa pn pc l τ0 τ) (hf : Sl s fa (fs.flatMap fc) τf) (hfn : fs.length = fn) (hf0 : fa = none → fn = 0) (hfb : fn ≤ 1000) (hτ : τf ≠ τ) (hτ2 : τ0 ≠ τ) (hfl : ∀ f ∈ fs, f.w ≤ 4 ∧ f.n < 4294967296) (hmx : pn + (fldsL fs).length ≤ 1000) : TRet Tryz.prog 73 #[.slice pa pn pc, .slice fa fn fk] s fun v s' => ∃ a' c', v = .slice a' (pn + (fldsL fs).length) c' ∧ Ch [τ] s s' ∧ AppB s' a' (pn + (fldsL fs).length) c' (l ++ fldsL fs) τ0 τ := by
  obtain ⟨M, hM, hM0, hMa, hMb, hMc, hMd, hMe, hMf⟩ := fresh6 s τ0 τ τf 0 0 0
  refine F73_calls _ _ _ _ _ _  ?_
  unfold F73
  refine ⟨fun vs H' => ∃ s' : TH, s'.h = H' ∧ ∃ qa qn qc i, vs = [.slice qa qn qc, .int .i64 i] ∧ Ch [τ, M + 9] s s' ∧ (∃ k : Nat, i = k ∧ k ≤ fn ∧ qn = pn + (fldsL (fs.take k)).length ∧ AppB s' qa qn qc (l ++ fldsL (fs.take k)) τ0 τ), fun vs H' => match vs with | [.slice qa qn qc, .int .i64 i] => ((fn : Int) - i).toNat | _ => 0, ⟨s, rfl, _, _, _, _, rfl, Ch.refl _ _, ?_⟩, ?_⟩
  ·
    exact ⟨0, rfl, by omega, rfl, by rw [List.take_zero]; show AppB _ _ _ _ (l ++ []) _ _; rw [List.append_nil]; exact hb⟩
  ·
    intro qa qn qc i _ _ _ _ _ _ _ _ _ _ _ _ _ _ _ _ _ _ _ _ _ H_ hI_2
    obtain ⟨s_1, rfl, qa_, qn_, qc_, i_, hvs, c_3, k, rfl, hk, hqn, ho⟩ := hI_2
    cases hvs
    have z_4 := c_3.size
    have hle := fldsL_le (fs := fs) k
    refine sB_d (fun hsB1 => ?_) (fun hsB1 => ?_)
    ·
      obtain ⟨f, hxe⟩ : ∃ f, fs[k]? = some f := ⟨fs[k]'(by omega), by simp⟩
      have hff := hfl f (List.mem_of_getElem? hxe)
      obtain ⟨a, rfl⟩ := Option.ne_none_iff_exists'.1 (fun e => absurd (hf0 e) (by omega))
      refine nz_i ?_
      refine ask_t (by omega) ?_
      have h_5 := hf.mv c_3 (tagn (by simp <;> omega))
      refine ld_sl h_5 (by rw [Int.toNat_natCast]; exact fcell 0 (by omega) hxe) ?_
      refine ld_sl2 h_5 (by rw [Int.toNat_natCast]; exact fcell 1 (by omega) hxe) ?_
      refine ld_sl2 h_5 (by rw [Int.toNat_natCast]; exact fcell 2 (by omega) hxe) ?_
      refine al_t (M + 9) fun r34 s35 hr34 b_6 c_7 z_8 => ?_
      refine st_t b_6 rfl (by simp) fun s36 b_9 c_10o z_11 => ?_
      have c_10 := on_ch b_6 c_10o
      refine st_t b_9 rfl (by simp) fun s37 b_12 c_13o z_14 => ?_
      have c_13 := on_ch b_9 c_13o
      refine st_t b_12 rfl (by simp) fun s38 b_15 c_16o z_17 => ?_
      have c_16 := on_ch b_12 c_16o
      refine ld_t b_15 rfl ?_
      refine dInt_i ?_
      refine ⟨fun vs H' => ∃ s' : TH, s'.h = H' ∧ ∃ ra rn rc j, vs = [.slice ra rn rc, .int .i64 j] ∧ Ch [τ] s38 s' ∧ (∃ kj : Nat, j = kj ∧ kj ≤ f.w ∧ rn = qn + kj ∧ AppB s' ra rn rc (l ++ fldsL (fs.take k) ++ numL f.n kj) τ0 τ), fun vs H' => match vs with | [.slice ra rn rc, .int .i64 j] => ((f.w : Int) - j).toNat | _ => 0, ⟨s38, rfl, _, _, _, _, rfl, Ch.refl _ _, ?_⟩, ?_⟩
      ·
        have h_18 := ho.ch (((c_7.app c_10).app c_13).app c_16) (by simp <;> omega) (by simp <;> omega)
        exact ⟨0, rfl, by omega, rfl, by show AppB _ _ _ _ (l ++ fldsL (fs.take k) ++ []) _ _; rw [List.append_nil]; exact h_18⟩
      ·
        intro ra rn rc j _ _ _ _ _ _ _ _ _ _ _ _ _ H_ hI_20
        obtain ⟨s_19, rfl, ra_, rn_, rc_, j_, hvs, c_21, kj, rfl, hkj, hrn, ho2⟩ := hI_20
        cases hvs
        have z_22 := c_21.size
        refine sB_d (fun hsB2 => ?_) (fun hsB2 => ?_)
        ·
          have h_23 := b_15.ch c_21 (by simp <;> omega)
          refine ld_t h_23 rfl ?_
          refine dInt_i ?_
          refine wr_t (by omega) ?_
          refine ask_t (by omega) ?_
          rw [fdv _ _ (by omega)]
          refine nm_t rfl ?_
          refine wr_a fun bn hbn => ?_
          rw [u8r] at hbn
          subst hbn
          refine al_t (M + 9) fun r67 s68 hr67 b_24 c_25 z_26 => ?_
          have hb1 : Sl s68 (some ⟨r67, 0, none⟩) (bvs [UInt8.ofNat (f.n / 256 ^ kj % 256)]) (M + 9) := (b_24).sl
          have h_27 := ho2.ch c_25 (by simp <;> omega) (by simp <;> omega)
          refine AppB.app h_27 hb1 rfl (by omega) (by omega) fun s_28 pa2 pc2 w_31 c_29 => ?_
          have z_30 := c_29.size
          refine dSl_i ?_
          refine wr_t (by omega) ?_
          refine ⟨⟨s_28, rfl, _, _, _, _, rfl, ((((Ch.refl [τ] s38).ch c_21 (by simp)).ch c_25 (by simp)).ch c_29 (by simp)), ?_⟩, ?_⟩
          ·
            exact ⟨kj + 1, by omega, by omega, by omega, by have h := w_31; rw [List.append_assoc] at h; exact ⟨.inl h⟩⟩
          ·
            simp only []; omega
        ·
          refine wr_t (by omega) ?_
          refine ⟨⟨s_19, rfl, _, _, _, _, rfl, (((((((Ch.refl [τ, M + 9] s).ch c_3 (by simp)).ch c_7 (by simp)).ch c_10 (by simp)).ch c_13 (by simp)).ch c_16 (by simp)).ch c_21 (by simp)), ?_⟩, ?_⟩
          ·
            obtain rfl : kj = f.w := by omega
            exact ⟨k + 1, by omega, by omega, by rw [fldsL_snoc hxe, List.length_append, numL_len]; omega, by rw [fldsL_snoc hxe, ← List.append_assoc]; exact ho2⟩
          ·
            simp only []; omega
    ·
      refine ret_t ?_
      obtain rfl : k = fn := by omega
      rw [List.take_of_length_le (by omega)] at hqn ho
      subst hqn
      exact ⟨_, _, rfl, ((Ch.refl [τ] s).fr c_3 hM (by simp)), ho⟩
/-- bollard/layout.full -/
theorem c_lfull (τ : Nat) {xa : Option Addr} {xn : Nat} (xc : Nat) {l : List UInt8} {τx : Nat} {s : TH} (hx : Sl s xa (bvs l) τx) (hn : l.length = xn) (n : Nat) (h0 : 0 < xn ∧ xn ≤ n ∧ n ≤ 100000) : TRet Tryz.prog 72 #[.slice xa xn xc, .int .i64 (n : Int)] s fun v s' => ∃ a c, v = .slice a n c ∧ Ch [] s s' ∧ Own s' a n c 5 1 (bvs (l ++ List.replicate (n - xn) 0)) τ := by
  obtain ⟨M, hM, hM0, hMa, hMb, hMc, hMd, hMe, hMf⟩ := fresh6 s τx τ 0 0 0 0
  refine F72_calls _ _ _ _  ?_
  unfold F72
  refine ask_t (by omega) ?_
  refine al_t (M + 1) fun r1 s2 hr1 b_1 c_2 z_3 => ?_
  have hz := b_1
  rw [rowz, Int.toNat_natCast] at hz
  rw [Int.toNat_natCast]
  have h_4 := hx.mv c_2 (tagn (by simp))
  refine copy_blkm u85 in5 hz h_4 hn (by omega) (by omega) (by rw [bvs_len, List.length_replicate]; omega) fun s_5 r1_8 c_6o _ => ?_
  have c_6 := on_ch hz c_6o
  have z_7 := c_6.size
  refine dInt_i ?_
  refine ask_t (by omega) ?_
  have h1 := r1_8
  have e1 : (bvs (List.replicate n 0)).take 0 ++ bvs l ++ (bvs (List.replicate n 0)).drop (0 + xn) = bvs (l ++ List.replicate (n - xn) 0) := by
    unfold bvs
    rw [List.take_zero, List.nil_append, Nat.zero_add, ← List.map_drop, List.drop_replicate, ← List.map_append]
  rw [e1] at h1
  have h2 := h1.own (n := n) 1 (by rw [bvs_len, List.length_append, List.length_replicate, hn]; omega) (by unfold maxLen; omega)
  simp only [slO_zero, Int.toNat_natCast, Int.toNat_zero, Nat.sub_zero]
  exact ret_t' (s' := remark s_5 (M + 1) τ) rfl ⟨_, _, rfl, remark_ch (((Ch.refl [] s).ch c_2 (by simp)).fr c_6 hM (by simp)) hM (by omega), h2.remark⟩
theorem eqi_cons {P : Program} {d : Nat} {e : TypeId} {n : Nat} {xs ys : Array Value} {i : Nat} {is : List Nat} {a b : Value} {r q : Bool} {w : World} (ha : (part e xs (i * n)).run P w = .ok a w) (hb : (part e ys (i * n)).run P w = .ok b w) (he : (Op.equalIn d e a b).run P w = .ok r w) (hr : (Op.eqItems d e n xs ys is).run P w = .ok q w) : (Op.eqItems d e n xs ys (i :: is)).run P w = .ok (r && q) w := by
  rw [Op.eqItems]
  simp only [Sem.run_bind, ha, hb, he, Result.andThen_ok]
  cases r
  · simp
  · simpa using hr
theorem eq_int1 {w : World} {a b : Int} (n : Nat) : (Op.equalIn (n + 1) 3 (.int .i64 a) (.int .i64 b)).run Tryz.prog w = .ok (a == b) w := by simp [Op.equalIn, Tryz.runUnderlying3]
theorem pa4_0 {w : World} {a b c d : Int} : (part 3 #[.int .i64 a, .int .i64 b, .int .i64 c, .int .i64 d] (0 * 1)).run Tryz.prog w = .ok (.int .i64 a) w := by kernel_rfl
theorem pa4_1 {w : World} {a b c d : Int} : (part 3 #[.int .i64 a, .int .i64 b, .int .i64 c, .int .i64 d] (1 * 1)).run Tryz.prog w = .ok (.int .i64 b) w := by kernel_rfl
theorem pa4_2 {w : World} {a b c d : Int} : (part 3 #[.int .i64 a, .int .i64 b, .int .i64 c, .int .i64 d] (2 * 1)).run Tryz.prog w = .ok (.int .i64 c) w := by kernel_rfl
theorem pa4_3 {w : World} {a b c d : Int} : (part 3 #[.int .i64 a, .int .i64 b, .int .i64 c, .int .i64 d] (3 * 1)).run Tryz.prog w = .ok (.int .i64 d) w := by kernel_rfl
theorem eqi_nil {P : Program} {d : Nat} {e : TypeId} {n : Nat} {xs ys : Array Value} {w : World} : (Op.eqItems d e n xs ys []).run P w = .ok true w := by simp [Op.eqItems]
theorem eq_it4 {w : World} {a3 a4 a5 a6 b3 b4 b5 b6 : Int} (n : Nat) : (Op.eqItems (n + 1) 3 1 #[.int .i64 a3, .int .i64 a4, .int .i64 a5, .int .i64 a6] #[.int .i64 b3, .int .i64 b4, .int .i64 b5, .int .i64 b6] [0, 1, 2, 3]).run Tryz.prog w = .ok (a3 == b3 && (a4 == b4 && (a5 == b5 && (a6 == b6 && true)))) w :=
  eqi_cons pa4_0 pa4_0 (eq_int1 n) (eqi_cons pa4_1 pa4_1 (eq_int1 n) (eqi_cons pa4_2 pa4_2 (eq_int1 n) (eqi_cons pa4_3 pa4_3 (eq_int1 n) eqi_nil)))
theorem cells3 : Tryz.prog.cellsOf 3 = 1 := by kernel_rfl
theorem und_ar : Tryz.prog.underlying 24 = some (.array 4 3) := by kernel_rfl
theorem eq_arr4 {w : World} {a3 a4 a5 a6 b3 b4 b5 b6 : Int} (n : Nat) : (Op.equalIn (n + 2) 24 (.agg #[.int .i64 a3, .int .i64 a4, .int .i64 a5, .int .i64 a6]) (.agg #[.int .i64 b3, .int .i64 b4, .int .i64 b5, .int .i64 b6])).run Tryz.prog w = .ok (a3 == b3 && (a4 == b4 && (a5 == b5 && a6 == b6))) w := by
  obtain ⟨i, hi⟩ : ∃ i, Tryz.prog.info? 3 = some i := Option.isSome_iff_exists.1 (by kernel_rfl)
  have h := eq_it4 (w := w) (a3 := a3) (a4 := a4) (a5 := a5) (a6 := a6) (b3 := b3) (b4 := b4) (b5 := b5) (b6 := b6) n
  rw [Bool.and_true] at h
  refine (run_equalIn_array (P := Tryz.prog) w (n + 1) _ _ und_ar hi).trans ?_
  rw [cells3]
  exact h
set_option maxRecDepth 100000 in
theorem eqD_run {w : World} {a0 a1 a2 a3 a4 a5 a6 a7 a8 b0 b1 b2 b3 b4 b5 b6 b7 b8 : Int} : (Op.equalIn Op.maxDepth 26 (.agg #[.int .i64 a0, .int .i64 a1, .int .i64 a2, .int .i64 a3, .int .i64 a4, .int .i64 a5, .int .i64 a6, .int .i64 a7, .int .i64 a8]) (.agg #[.int .i64 b0, .int .i64 b1, .int .i64 b2, .int .i64 b3, .int .i64 b4, .int .i64 b5, .int .i64 b6, .int .i64 b7, .int .i64 b8])).run Tryz.prog w = .ok (a0 == b0 && (a1 == b1 && (a2 == b2 && ((a3 == b3 && (a4 == b4 && (a5 == b5 && a6 == b6))) && (a7 == b7 && a8 == b8))))) w := by
  have hs : Tryz.prog.stoodInHeld 26 = false := by kernel_rfl
  have hu : Tryz.prog.underlying 26 = some (.struct (Tryz.prog.fieldsOf 26)) := by kernel_rfl
  have hF : (Tryz.prog.fieldsOf 26).toList.map (fun f => (f.name, f.type, f.offset)) = [("Mode", 3, 0), ("Links", 3, 1), ("Size", 3, 2), ("Direct", 24, 3), ("Single", 3, 7), ("Double", 3, 8)] := by kernel_rfl
  show (Op.equalIn (9999 + 1) 26 _ _).run _ w = _
  rw [run_equalIn_struct (P := Tryz.prog) w 9999 26 _ _ hu hs]
  obtain ⟨fl, hfl⟩ : ∃ l, (Tryz.prog.fieldsOf 26).toList = l := ⟨_, rfl⟩
  rw [hfl] at hF ⊢
  match fl, hF with
  | [f0, f1, f2, f3, f4, f5], hF =>
    simp only [List.map_cons, List.map_nil, List.cons.injEq, Prod.mk.injEq, and_true] at hF
    obtain ⟨⟨n0, t0, o0⟩, ⟨n1, t1, o1⟩, ⟨n2, t2, o2⟩, ⟨n3, t3, o3⟩, ⟨n4, t4, o4⟩, ⟨n5, t5, o5⟩⟩ := hF
    refine eqf_cons (a := .int .i64 a0) (b := .int .i64 b0) (by rw [n0]; rfl) (by rw [t0, o0]; kernel_rfl) (by rw [t0, o0]; kernel_rfl) (by rw [t0]; exact eq_int1 _) (eqf_cons (a := .int .i64 a1) (b := .int .i64 b1) (by rw [n1]; rfl) (by rw [t1, o1]; kernel_rfl) (by rw [t1, o1]; kernel_rfl) (by rw [t1]; exact eq_int1 _) (eqf_cons (a := .int .i64 a2) (b := .int .i64 b2) (by rw [n2]; rfl) (by rw [t2, o2]; kernel_rfl) (by rw [t2, o2]; kernel_rfl) (by rw [t2]; exact eq_int1 _) (eqf_cons (a := .agg #[.int .i64 a3, .int .i64 a4, .int .i64 a5, .int .i64 a6]) (b := .agg #[.int .i64 b3, .int .i64 b4, .int .i64 b5, .int .i64 b6]) (by rw [n3]; rfl) (by rw [t3, o3]; kernel_rfl) (by rw [t3, o3]; kernel_rfl) (by rw [t3]; exact eq_arr4 _) (eqf_cons (a := .int .i64 a7) (b := .int .i64 b7) (by rw [n4]; rfl) (by rw [t4, o4]; kernel_rfl) (by rw [t4, o4]; kernel_rfl) (by rw [t4]; exact eq_int1 _) (eqf_last (a := .int .i64 a8) (b := .int .i64 b8) (by rw [n5]; rfl) (by rw [t5, o5]; kernel_rfl) (by rw [t5, o5]; kernel_rfl) (by rw [t5]; exact eq_int1 _))))))
theorem eq_din {E : List PanicEntry → Heap → Prop} {s : TH} {a0 a1 a2 a3 a4 a5 a6 a7 a8 b0 b1 b2 b3 b4 b5 b6 b7 b8 : Int} {x y : Operand} {K : Value → Heap → Prop} (hk : K (.bool (a0 == b0 && (a1 == b1 && (a2 == b2 && ((a3 == b3 && (a4 == b4 && (a5 == b5 && a6 == b6))) && (a7 == b7 && a8 == b8)))))) s.h) : semW Tryz.prog (eqSem .eql 26 x y (.agg #[.int .i64 a0, .int .i64 a1, .int .i64 a2, .int .i64 a3, .int .i64 a4, .int .i64 a5, .int .i64 a6, .int .i64 a7, .int .i64 a8]) (.agg #[.int .i64 b0, .int .i64 b1, .int .i64 b2, .int .i64 b3, .int .i64 b4, .int .i64 b5, .int .i64 b6, .int .i64 b7, .int .i64 b8])) E s.h K := .mk fun w hw => by
  have hgt : Tryz.prog.eqGuardType Tryz.prog.depth 26 = false := by kernel_rfl
  have hr : (eqSem .eql 26 x y (.agg #[.int .i64 a0, .int .i64 a1, .int .i64 a2, .int .i64 a3, .int .i64 a4, .int .i64 a5, .int .i64 a6, .int .i64 a7, .int .i64 a8]) (.agg #[.int .i64 b0, .int .i64 b1, .int .i64 b2, .int .i64 b3, .int .i64 b4, .int .i64 b5, .int .i64 b6, .int .i64 b7, .int .i64 b8])).run Tryz.prog w = .ok (.bool (a0 == b0 && (a1 == b1 && (a2 == b2 && ((a3 == b3 && (a4 == b4 && (a5 == b5 && a6 == b6))) && (a7 == b7 && a8 == b8)))))) w := by
    simp [eqSem, eqGuard, hgt, binOp, Op.equal, eqD_run]
  rw [hr]; exact ⟨by rw [hw]; exact hk, Like.refl w⟩
theorem ne_din {E : List PanicEntry → Heap → Prop} {s : TH} {a0 a1 a2 a3 a4 a5 a6 a7 a8 b0 b1 b2 b3 b4 b5 b6 b7 b8 : Int} {x y : Operand} {K : Value → Heap → Prop} (hk : K (.bool (!(a0 == b0 && (a1 == b1 && (a2 == b2 && ((a3 == b3 && (a4 == b4 && (a5 == b5 && a6 == b6))) && (a7 == b7 && a8 == b8))))))) s.h) : semW Tryz.prog (eqSem .neq 26 x y (.agg #[.int .i64 a0, .int .i64 a1, .int .i64 a2, .int .i64 a3, .int .i64 a4, .int .i64 a5, .int .i64 a6, .int .i64 a7, .int .i64 a8]) (.agg #[.int .i64 b0, .int .i64 b1, .int .i64 b2, .int .i64 b3, .int .i64 b4, .int .i64 b5, .int .i64 b6, .int .i64 b7, .int .i64 b8])) E s.h K := .mk fun w hw => by
  have hgt : Tryz.prog.eqGuardType Tryz.prog.depth 26 = false := by kernel_rfl
  have hr : (eqSem .neq 26 x y (.agg #[.int .i64 a0, .int .i64 a1, .int .i64 a2, .int .i64 a3, .int .i64 a4, .int .i64 a5, .int .i64 a6, .int .i64 a7, .int .i64 a8]) (.agg #[.int .i64 b0, .int .i64 b1, .int .i64 b2, .int .i64 b3, .int .i64 b4, .int .i64 b5, .int .i64 b6, .int .i64 b7, .int .i64 b8])).run Tryz.prog w = .ok (.bool (!(a0 == b0 && (a1 == b1 && (a2 == b2 && ((a3 == b3 && (a4 == b4 && (a5 == b5 && a6 == b6))) && (a7 == b7 && a8 == b8))))))) w := by
    simp [eqSem, eqGuard, hgt, binOp, Op.equal, eqD_run]
  rw [hr]; exact ⟨by rw [hw]; exact hk, Like.refl w⟩
def dinF (m l z d0 d1 d2 d3 e1 e2 : Nat) (k : Nat) : List FldM := [⟨1, 2, m⟩, ⟨1, 0, 0⟩, ⟨2, 1000, l⟩, ⟨4, 532992, z⟩] ++ ([⟨2, 2047, d0⟩, ⟨2, 2047, d1⟩, ⟨2, 2047, d2⟩, ⟨2, 2047, d3⟩] : List FldM).take k
def dinG (m l z d0 d1 d2 d3 e1 e2 : Nat) : List FldM := [⟨1, 2, m⟩, ⟨1, 0, 0⟩, ⟨2, 1000, l⟩, ⟨4, 532992, z⟩, ⟨2, 2047, d0⟩, ⟨2, 2047, d1⟩, ⟨2, 2047, d2⟩, ⟨2, 2047, d3⟩, ⟨2, 2047, e1⟩, ⟨2, 2047, e2⟩]
def DinB (m l z d0 d1 d2 d3 e1 e2 : Nat) : Prop := m ≤ 2 ∧ l ≤ 1000 ∧ z ≤ 532992 ∧ d0 < 2048 ∧ d1 < 2048 ∧ d2 < 2048 ∧ d3 < 2048 ∧ e1 < 2048 ∧ e2 < 2048
theorem DinOk.b {m l z d0 d1 d2 d3 e1 e2 : Nat} (hv : DinOk m l z d0 d1 d2 d3 e1 e2) : DinB m l z d0 d1 d2 d3 e1 e2 := by unfold DinOk at hv; unfold DinB; omega
theorem dinG_ok {m l z d0 d1 d2 d3 e1 e2 : Nat} (hv : DinB m l z d0 d1 d2 d3 e1 e2) : ∀ f ∈ dinG m l z d0 d1 d2 d3 e1 e2, f.n ≤ f.m ∧ f.w ≤ 4 ∧ f.n < 4294967296 := by
  intro f hf
  unfold DinB at hv
  simp only [dinG, List.mem_cons, List.not_mem_nil, or_false] at hf
  rcases hf with rfl | rfl | rfl | rfl | rfl | rfl | rfl | rfl | rfl | rfl <;> simp only [] <;> omega
def dinR (m l z d0 d1 d2 d3 e1 e2 : Nat) : List UInt8 := wrL (wrL (dirL (wrL (wrL (wrL (List.replicate 32 0) 0 1 m) 2 2 l) 4 4 z) [d0, d1, d2, d3] 4) 16 2 e1) 18 2 e2
set_option maxRecDepth 100000 in
theorem din_eq (m l z d0 d1 d2 d3 e1 e2 : Nat) : [] ++ fldsL (dinG m l z d0 d1 d2 d3 e1 e2) ++ List.replicate (32 - 20) 0 = dinR m l z d0 d1 d2 d3 e1 e2 := by kernel_rfl
theorem dinR_len (m l z d0 d1 d2 d3 e1 e2 : Nat) : (dinR m l z d0 d1 d2 d3 e1 e2).length = 32 := by unfold dinR; simp [wrL_len, dirL_len]
theorem din_flds (m l z d0 d1 d2 d3 e1 e2 : Nat) : (fldsL (dinG m l z d0 d1 d2 d3 e1 e2)).length = 20 := rfl
theorem dinF_s (m l z d0 d1 d2 d3 e1 e2 : Nat) {k dk : Nat} (hk : k < 4) (h : [d0, d1, d2, d3].getD k 0 = dk) : (dinF m l z d0 d1 d2 d3 e1 e2 (k + 1)).flatMap fc = (dinF m l z d0 d1 d2 d3 e1 e2 k).flatMap fc ++ fc ⟨2, 2047, dk⟩ := by
  subst h
  rcases (by omega : k = 0 ∨ k = 1 ∨ k = 2 ∨ k = 3) with rfl | rfl | rfl | rfl <;> rfl
set_option maxRecDepth 100000 in
theorem dinR_zero : dinR 0 0 0 0 0 0 0 0 0 = List.replicate 32 0 := by decide
theorem in147 : (Tryz.prog.info? 147).map (fun i => (i.zero, i.size, i.bytes)) = some (some (.agg #[.int .i64 0, .int .i64 0, .int .i64 0]), 3, 24) := by kernel_rfl
/-- bollard/layout.mayDinode -/
theorem c_lmayd (m l z d0 d1 d2 d3 e1 e2 : Nat) (s : TH) (hv : DinOk m l z d0 d1 d2 d3 e1 e2) : TRet Tryz.prog 70 #[.agg #[.int .i64 (m : Int), .int .i64 (l : Int), .int .i64 (z : Int), .int .i64 (d0 : Int), .int .i64 (d1 : Int), .int .i64 (d2 : Int), .int .i64 (d3 : Int), .int .i64 (e1 : Int), .int .i64 (e2 : Int)]] s fun v s' => v = .bool true ∧ Ch [] s s' := by
  have hv2 := hv
  unfold DinOk at hv2
  obtain ⟨M, hM, hM0, hMa, hMb, hMc, hMd, hMe, hMf⟩ := fresh6 s 0 0 0 0 0 0
  refine F70_calls _ _ _ _ _ _ _ _ _  ?_
  unfold F70
  refine al_t (M + 1) fun r1 s2 hr1 b_1 c_2 z_3 => ?_
  refine ld_t b_1 rfl ?_
  refine dInt_i ?_
  refine sB_d (fun hsB1 => by exfalso; omega) (fun hsB1 => ?_)
  refine sB_d (fun hsB2 => ?_) (fun hsB2 => ?_)
  ·
    refine ret_t ?_
    exact ⟨rfl, ((Ch.refl [] s).ch c_2 (by simp))⟩
  ·
    refine sB_d (fun hsB3 => ?_) (fun hsB3 => by exfalso; omega)
    refine ld_t b_1 rfl ?_
    refine dInt_i ?_
    refine ask_t (by omega) ?_
    refine nm_a fun nz hnz => ?_
    rw [Int.tmod_eq_emod_of_nonneg (by omega)] at hnz
    refine ret_t ?_
    exact ⟨ret_b (by first | rfl | (apply beq_iff_eq.2; omega) | (simp; omega)), ((Ch.refl [] s).ch c_2 (by simp))⟩
/-- bollard/layout.mayDinode -/
theorem c_lmayd0 (s : TH) : TRet Tryz.prog 70 #[.agg #[.int .i64 0, .int .i64 0, .int .i64 0, .int .i64 0, .int .i64 0, .int .i64 0, .int .i64 0, .int .i64 0, .int .i64 0]] s fun v s' => v = .bool true ∧ Ch [] s s' := by
  obtain ⟨M, hM, hM0, hMa, hMb, hMc, hMd, hMe, hMf⟩ := fresh6 s 0 0 0 0 0 0
  refine F70_calls _ _ _ _ _ _ _ _ _  ?_
  unfold F70
  refine al_t (M + 1) fun r1 s2 hr1 b_1 c_2 z_3 => ?_
  refine ld_t b_1 rfl ?_
  refine dInt_i ?_
  refine sB_t (by rfl) ?_
  refine ld_t b_1 rfl ?_
  refine ld_t b_1 rfl ?_
  refine ld_t b_1 rfl ?_
  refine ld_t b_1 rfl ?_
  refine ld_t b_1 rfl ?_
  refine ld_t b_1 rfl ?_
  refine ld_t b_1 rfl ?_
  refine ld_t b_1 rfl ?_
  refine ld_t b_1 rfl ?_
  refine eq_din ?_
  refine dBl_i ?_
  refine ret_t ?_
  exact ⟨rfl, ((Ch.refl [] s).ch c_2 (by simp))⟩
/-- bollard/layout.EncodeDinode -/
theorem c_lencDin (τ : Nat) (m l z d0 d1 d2 d3 e1 e2 : Nat) (s : TH) (hv : DinOk m l z d0 d1 d2 d3 e1 e2) : TRet Tryz.prog 25 #[.agg #[.int .i64 (m : Int), .int .i64 (l : Int), .int .i64 (z : Int), .int .i64 (d0 : Int), .int .i64 (d1 : Int), .int .i64 (d2 : Int), .int .i64 (d3 : Int), .int .i64 (e1 : Int), .int .i64 (e2 : Int)]] s fun v s' => ∃ a' c', v = .tuple #[.slice a' 32 c', .int .i64 0] ∧ Ch [] s s' ∧ Own s' a' 32 c' 5 1 (bvs (dinL m l z d0 d1 d2 d3 e1 e2)) τ := by
  have hvb := hv.b
  have hv2 := hv
  unfold DinOk at hv2
  obtain ⟨M, hM, hM0, hMa, hMb, hMc, hMd, hMe, hMf⟩ := fresh6 s τ 0 0 0 0 0
  refine F25_calls _ _ _ _ _ _ _ _ _  ?_
  unfold F25
  refine al_t (M + 1) fun r1 s2 hr1 b_1 c_2 z_3 => ?_
  refine ld_t b_1 rfl ?_
  refine dInt_i ?_
  refine ld_t b_1 rfl ?_
  refine dInt_i ?_
  refine ld_t b_1 rfl ?_
  refine dInt_i ?_
  refine al_t (M + 2) fun r9 s10 hr9 b_4 c_5 z_6 => ?_
  have hf0 : Own s10 (some ⟨r9, 0, none⟩) 4 4 147 3 ((dinF m l z d0 d1 d2 d3 e1 e2 0).flatMap fc) (M + 2) := (b_4).own (n := 4) 3 rfl (by unfold maxLen; omega)
  have h_7 := b_1.ch c_5 (by simp)
  refine ld_t h_7 rfl ?_
  refine ld_t h_7 rfl ?_
  refine ld_t h_7 rfl ?_
  refine ld_t h_7 rfl ?_
  refine ⟨fun vs H' => ∃ s' : TH, s'.h = H' ∧ ∃ pa pn pc i, vs = [.slice pa pn pc, .int .i64 i] ∧ Ch [M + 2] s10 s' ∧ (∃ k : Nat, i = k ∧ k ≤ 4 ∧ pn = 4 + k ∧ Own s' pa pn pc 147 3 ((dinF m l z d0 d1 d2 d3 e1 e2 k).flatMap fc) (M + 2)), fun vs H' => match vs with | [.slice pa pn pc, .int .i64 i] => (4 - i).toNat | _ => 0, ⟨s10, rfl, _, _, _, _, rfl, Ch.refl _ _, ?_⟩, ?_⟩
  ·
    exact ⟨0, rfl, by omega, rfl, hf0⟩
  ·
    intro pa pn pc i _ _ _ _ _ _ _ _ _ H_ hI_9
    obtain ⟨s_8, rfl, pa_, pn_, pc_, i_, hvs, c_10, k, rfl, hk, rfl, ho⟩ := hI_9
    cases hvs
    have z_11 := c_10.size
    refine sB_d (fun hsB1 => ?_) (fun hsB1 => ?_)
    ·
      refine ask_t (by omega) ?_
      refine oV_i (v := .int .i64 (([d0, d1, d2, d3].getD k 0 : Nat) : Int)) (by rcases (by omega : k = 0 ∨ k = 1 ∨ k = 2 ∨ k = 3) with rfl | rfl | rfl | rfl <;> rfl) ?_
      refine dInt_i ?_
      refine al_t (M + 9) fun r34 s35 hr34 b_12 c_13 z_14 => ?_
      have h_15 := ho.mv c_13 (tagn (by simp))
      refine app_i u148 in147 rfl h_15 (b_12).sl (m := 1) (k := 3) rfl (by intro u hu; simp only [List.mem_cons, List.not_mem_nil, or_false] at hu; rcases hu with rfl | rfl | rfl <;> rfl) (by simp) (by unfold maxLen; omega) fun s_16 pa2 pc2 o_19 c_17o _ => ?_
      have c_17 := c_17o.ch h_15 (T := [M + 2]) (by simp)
      have z_18 := c_17.size
      refine dSl_i ?_
      refine wr_t (by omega) ?_
      refine ⟨⟨s_16, rfl, _, _, _, _, rfl, ((((Ch.refl [M + 2] s10).ch c_10 (by simp)).ch c_13 (by simp)).ch c_17 (by simp)), ?_⟩, ?_⟩
      ·
        exact ⟨k + 1, by omega, by omega, by omega, by rw [dinF_s _ _ _ _ _ _ _ _ _ (by omega) rfl]; exact o_19⟩
      ·
        simp only []; omega
    ·
      have h_20 := h_7.ch c_10 (by simp)
      refine ld_t h_20 rfl ?_
      refine dInt_i ?_
      refine ld_t h_20 rfl ?_
      refine dInt_i ?_
      refine al_t (M + 9) fun r48 s49 hr48 b_21 c_22 z_23 => ?_
      have h_24 := ho.mv c_22 (tagn (by simp))
      refine app_i u148 in147 rfl h_24 (b_21).sl (m := 2) (k := 3) rfl (by intro u hu; simp only [List.mem_cons, List.not_mem_nil, or_false] at hu; rcases hu with rfl | rfl | rfl | rfl | rfl | rfl <;> rfl) (by simp) (by unfold maxLen; omega) fun s_25 pa2 pc2 o_28 c_26o _ => ?_
      have c_26 := c_26o.ch h_24 (T := [M + 2]) (by simp)
      have z_27 := c_26.size
      obtain rfl : k = 4 := by omega
      have hG : Own s_25 pa2 (4 + 4 + 2) pc2 147 3 ((dinG m l z d0 d1 d2 d3 e1 e2).flatMap fc) (M + 2) := o_28
      refine dSl_i ?_
      refine jn1 (fun fv s' => Ch [] s_25 s' ∧ (fv = .bool false)) ?_ ?_
      ·
        rintro fv s_29 ⟨c_30, rfl⟩
        have z_31 := c_30.size
        intro _
        intros
        refine dBl_i ?_
        refine sB_f (by rfl) ?_
        have hap : AppB s_29 none 0 0 [] (M + 3) (M + 4) := ⟨.inl (Own.nil _ _ _ _)⟩
        have h_32 := hG.mv c_30 (tagn (by simp))
        refine tcall (c_lfields _ _ hap (h_32).sl rfl (fun h => absurd ((h_32).none_iff h) (by omega)) (by omega) (by omega) (by omega) (fun f hf => (dinG_ok hvb f hf).2) (by rw [din_flds]; omega)) ?_
        rintro v_34 s_33 ⟨acall1, ccall1, rfl, c_36, call1a⟩
        have z_37 := c_36.size
        rw [din_flds]
        obtain ⟨σ, hsl, hsn⟩ := AppB.sl call1a
        refine dSl_i ?_
        refine tcall (c_lfull (M + 10) _ hsl (by rw [hsn, din_flds]) 32 (by omega)) ?_
        rintro v_39 s_38 ⟨acall2, ccall2, rfl, c_41, call2a⟩
        have z_42 := c_41.size
        rw [din_eq] at call2a
        refine dSl_i ?_
        have h_43 := h_20.ch ((((c_22.app c_26).app c_30).app c_36).app c_41) (by simp)
        refine ld_t h_43 rfl ?_
        refine dInt_i ?_
        refine sB_d (fun hsB3 => by exfalso; omega) (fun hsB3 => ?_)
        refine tcall (c_wseal τ _ (call2a).sl (dinR_len m l z d0 d1 d2 d3 e1 e2) (by omega) (call2a).le (by omega)) ?_
        rintro v_45 s_44 ⟨acall3, ccall3, rfl, c_47, call3a⟩
        have z_48 := c_47.size
        refine dT2 ?_
        refine dSl_i ?_
        refine dInt_i ?_
        refine ret_t ?_
        exact ⟨_, _, rfl, ((((((((((Ch.refl [] s).ch c_2 (by simp)).ch c_5 (by simp)).fr c_10 hM (by simp)).ch c_22 (by simp)).fr c_26 hM (by simp)).ch c_30 (by simp)).fr c_36 hM (by simp)).ch c_41 (by simp)).ch c_47 (by simp)), call3a⟩
      ·
        intro K_49 hK_49
        have h_50 := h_20.ch (c_22.app c_26) (by simp)
        refine ld_t h_50 rfl ?_
        refine ld_t h_50 rfl ?_
        refine ld_t h_50 rfl ?_
        refine ld_t h_50 rfl ?_
        refine ld_t h_50 rfl ?_
        refine ld_t h_50 rfl ?_
        refine ld_t h_50 rfl ?_
        refine ld_t h_50 rfl ?_
        refine ld_t h_50 rfl ?_
        refine tcall (c_lmayd m l z d0 d1 d2 d3 e1 e2 _ hv) ?_
        rintro v_52 s_51 ⟨rfl, c_54⟩
        have z_55 := c_54.size
        refine dBl_i ?_
        refine sB_f (by rfl) ?_
        have h_56 := hG.mv c_54 (tagn (by simp))
        refine tcall (c_lfit _ _ (h_56).sl rfl (fun h => absurd ((h_56).none_iff h) (by omega)) (by omega) (fun f hf => (dinG_ok hvb f hf).1)) ?_
        rintro v_58 s_57 ⟨rfl, c_60⟩
        have z_61 := c_60.size
        refine dBl_i ?_
        refine hK_49 _ _ ⟨(((Ch.refl [] s_25).ch c_54 (by simp)).ch c_60 (by simp)), ?_⟩
        exact rfl
/-- bollard/layout.EncodeDinode -/
theorem c_lencDin0 (τ : Nat) (s : TH) : TRet Tryz.prog 25 #[.agg #[.int .i64 0, .int .i64 0, .int .i64 0, .int .i64 0, .int .i64 0, .int .i64 0, .int .i64 0, .int .i64 0, .int .i64 0]] s fun v s' => ∃ a' c', v = .tuple #[.slice a' 32 c', .int .i64 0] ∧ Ch [] s s' ∧ Own s' a' 32 c' 5 1 (bvs (List.replicate 32 0)) τ := by
  have hvb : DinB 0 0 0 0 0 0 0 0 0 := by unfold DinB; omega
  obtain ⟨M, hM, hM0, hMa, hMb, hMc, hMd, hMe, hMf⟩ := fresh6 s τ 0 0 0 0 0
  refine F25_calls _ _ _ _ _ _ _ _ _  ?_
  unfold F25
  refine al_t (M + 1) fun r1 s2 hr1 b_1 c_2 z_3 => ?_
  refine ld_t b_1 rfl ?_
  refine dInt_i ?_
  refine ld_t b_1 rfl ?_
  refine dInt_i ?_
  refine ld_t b_1 rfl ?_
  refine dInt_i ?_
  refine al_t (M + 2) fun r9 s10 hr9 b_4 c_5 z_6 => ?_
  have hf0 : Own s10 (some ⟨r9, 0, none⟩) 4 4 147 3 ((dinF 0 0 0 0 0 0 0 0 0 0).flatMap fc) (M + 2) := (b_4).own (n := 4) 3 rfl (by unfold maxLen; omega)
  have h_7 := b_1.ch c_5 (by simp)
  refine ld_t h_7 rfl ?_
  refine ld_t h_7 rfl ?_
  refine ld_t h_7 rfl ?_
  refine ld_t h_7 rfl ?_
  refine ⟨fun vs H' => ∃ s' : TH, s'.h = H' ∧ ∃ pa pn pc i, vs = [.slice pa pn pc, .int .i64 i] ∧ Ch [M + 2] s10 s' ∧ (∃ k : Nat, i = k ∧ k ≤ 4 ∧ pn = 4 + k ∧ Own s' pa pn pc 147 3 ((dinF 0 0 0 0 0 0 0 0 0 k).flatMap fc) (M + 2)), fun vs H' => match vs with | [.slice pa pn pc, .int .i64 i] => (4 - i).toNat | _ => 0, ⟨s10, rfl, _, _, _, _, rfl, Ch.refl _ _, ?_⟩, ?_⟩
  ·
    exact ⟨0, rfl, by omega, rfl, hf0⟩
  ·
    intro pa pn pc i _ _ _ _ _ _ _ _ _ H_ hI_9
    obtain ⟨s_8, rfl, pa_, pn_, pc_, i_, hvs, c_10, k, rfl, hk, rfl, ho⟩ := hI_9
    cases hvs
    have z_11 := c_10.size
    refine sB_d (fun hsB1 => ?_) (fun hsB1 => ?_)
    ·
      refine ask_t (by omega) ?_
      refine oV_i (v := .int .i64 0) (by rcases (by omega : k = 0 ∨ k = 1 ∨ k = 2 ∨ k = 3) with rfl | rfl | rfl | rfl <;> rfl) ?_
      refine dInt_i ?_
      refine al_t (M + 9) fun r34 s35 hr34 b_12 c_13 z_14 => ?_
      have h_15 := ho.mv c_13 (tagn (by simp))
      refine app_i u148 in147 rfl h_15 (b_12).sl (m := 1) (k := 3) rfl (by intro u hu; simp only [List.mem_cons, List.not_mem_nil, or_false] at hu; rcases hu with rfl | rfl | rfl <;> rfl) (by simp) (by unfold maxLen; omega) fun s_16 pa2 pc2 o_19 c_17o _ => ?_
      have c_17 := c_17o.ch h_15 (T := [M + 2]) (by simp)
      have z_18 := c_17.size
      refine dSl_i ?_
      refine wr_t (by omega) ?_
      refine ⟨⟨s_16, rfl, _, _, _, _, rfl, ((((Ch.refl [M + 2] s10).ch c_10 (by simp)).ch c_13 (by simp)).ch c_17 (by simp)), ?_⟩, ?_⟩
      ·
        exact ⟨k + 1, by omega, by omega, by omega, by rw [dinF_s _ _ _ _ _ _ _ _ _ (dk := 0) (by omega) (by rcases (by omega : k = 0 ∨ k = 1 ∨ k = 2 ∨ k = 3) with rfl | rfl | rfl | rfl <;> rfl)]; exact o_19⟩
      ·
        simp only []; omega
    ·
      have h_20 := h_7.ch c_10 (by simp)
      refine ld_t h_20 rfl ?_
      refine dInt_i ?_
      refine ld_t h_20 rfl ?_
      refine dInt_i ?_
      refine al_t (M + 9) fun r48 s49 hr48 b_21 c_22 z_23 => ?_
      have h_24 := ho.mv c_22 (tagn (by simp))
      refine app_i u148 in147 rfl h_24 (b_21).sl (m := 2) (k := 3) rfl (by intro u hu; simp only [List.mem_cons, List.not_mem_nil, or_false] at hu; rcases hu with rfl | rfl | rfl | rfl | rfl | rfl <;> rfl) (by simp) (by unfold maxLen; omega) fun s_25 pa2 pc2 o_28 c_26o _ => ?_
      have c_26 := c_26o.ch h_24 (T := [M + 2]) (by simp)
      have z_27 := c_26.size
      obtain rfl : k = 4 := by omega
      have hG : Own s_25 pa2 (4 + 4 + 2) pc2 147 3 ((dinG 0 0 0 0 0 0 0 0 0).flatMap fc) (M + 2) := o_28
      refine dSl_i ?_
      refine jn1 (fun fv s' => Ch [] s_25 s' ∧ (fv = .bool false)) ?_ ?_
      ·
        rintro fv s_29 ⟨c_30, rfl⟩
        have z_31 := c_30.size
        intro _
        intros
        refine dBl_i ?_
        refine sB_f (by rfl) ?_
        have hap : AppB s_29 none 0 0 [] (M + 3) (M + 4) := ⟨.inl (Own.nil _ _ _ _)⟩
        have h_32 := hG.mv c_30 (tagn (by simp))
        refine tcall (c_lfields _ _ hap (h_32).sl rfl (fun h => absurd ((h_32).none_iff h) (by omega)) (by omega) (by omega) (by omega) (fun f hf => (dinG_ok hvb f hf).2) (by rw [din_flds]; omega)) ?_
        rintro v_34 s_33 ⟨acall1, ccall1, rfl, c_36, call1a⟩
        have z_37 := c_36.size
        rw [din_flds]
        obtain ⟨σ, hsl, hsn⟩ := AppB.sl call1a
        refine dSl_i ?_
        refine tcall (c_lfull τ _ hsl (by rw [hsn, din_flds]) 32 (by omega)) ?_
        rintro v_39 s_38 ⟨acall2, ccall2, rfl, c_41, call2a⟩
        have z_42 := c_41.size
        rw [din_eq] at call2a
        refine dSl_i ?_
        have h_43 := h_20.ch ((((c_22.app c_26).app c_30).app c_36).app c_41) (by simp)
        refine ld_t h_43 rfl ?_
        refine dInt_i ?_
        refine sB_t (by rfl) ?_
        refine ret_t ?_
        exact ⟨_, _, rfl, (((((((((Ch.refl [] s).ch c_2 (by simp)).ch c_5 (by simp)).fr c_10 hM (by simp)).ch c_22 (by simp)).fr c_26 hM (by simp)).ch c_30 (by simp)).fr c_36 hM (by simp)).ch c_41 (by simp)), by have h := call2a; rw [dinR_zero] at h; exact h⟩
      ·
        intro K_44 hK_44
        have h_45 := h_20.ch (c_22.app c_26) (by simp)
        refine ld_t h_45 rfl ?_
        refine ld_t h_45 rfl ?_
        refine ld_t h_45 rfl ?_
        refine ld_t h_45 rfl ?_
        refine ld_t h_45 rfl ?_
        refine ld_t h_45 rfl ?_
        refine ld_t h_45 rfl ?_
        refine ld_t h_45 rfl ?_
        refine ld_t h_45 rfl ?_
        refine tcall (c_lmayd0 _) ?_
        rintro v_47 s_46 ⟨rfl, c_49⟩
        have z_50 := c_49.size
        refine dBl_i ?_
        refine sB_f (by rfl) ?_
        have h_51 := hG.mv c_49 (tagn (by simp))
        refine tcall (c_lfit _ _ (h_51).sl rfl (fun h => absurd ((h_51).none_iff h) (by omega)) (by omega) (fun f hf => (dinG_ok hvb f hf).1)) ?_
        rintro v_53 s_52 ⟨rfl, c_55⟩
        have z_56 := c_55.size
        refine dBl_i ?_
        refine hK_44 _ _ ⟨(((Ch.refl [] s_25).ch c_49 (by simp)).ch c_55 (by simp)), ?_⟩
        exact rfl
theorem dA9 {x0 x1 x2 x3 x4 x5 x6 x7 x8 : Value} {k : VF 9} (h : (k : Value → Value → Value → Value → Value → Value → Value → Value → Value → Prop) x0 x1 x2 x3 x4 x5 x6 x7 x8) : dA 9 (.agg #[x0, x1, x2, x3, x4, x5, x6, x7, x8]) k := h
theorem rec_idle (p : Addr) (w : World) : CallsD Tryz.prog 172 #[.pointer (some p)] .returning w fun e u' w' => e = .returned (.tuple #[]) ∧ u' = .returning ∧ w' = w := by
  have hta : ∀ w : World, (Instr.typeAssert .nilIface 20 32 true).run Tryz.prog w = .ok (.tuple #[.int .i64 0, .bool false]) w := fun w => by kernel_rfl
  have hne : ∀ w : World, (binOp .neq 20 .nilIface .nilIface).run Tryz.prog w = .ok (.bool false) w := fun w => by kernel_rfl
  refine callsD_of_wpS Tryz.func172 rfl fun c₀ cs hu => ?_
  apply wpS_seq
  apply wpS_region
  simp [wpOpsS, go_sem, recoverD, hu, Tryz.ntmps172, Exit.thenS]
  apply wpS_seq
  apply wpS_region
  simp [wpOpsS, go_sem, hta, Exit.thenS]
  refine wpS_of_wp (wp_block (wp_seq ?_))
  refine wp_region_list ?_
  simp [wpList, go_sem, Exit.then]
  repeat (refine Or.inl ?_)
  refine (wp_cond_false (P := Tryz.prog) (c := .tmp 10) ?_ ?_)
  · simp [Act.eval, Array.replicate]
  refine wp_seq ?_
  refine wp_region_list ?_
  simp [wpList, go_sem, hne, Exit.then]
  repeat (refine Or.inl ?_)
  refine wp_cond_false (P := Tryz.prog) (c := .tmp 16) ?_ ?_
  · simp [Act.eval, Array.replicate]
  refine wp_skip ?_
  cases c₀
  simp_all [bodyPostS, results, Tryz.results172, Exit.inBlock]
theorem d_idle {p : Addr} {H : Heap} {K : Ending → FrameMode → Heap → Prop} (hk : K (.returned (.tuple #[])) .returning H) : HCallsD Tryz.prog 172 #[.pointer (some p)] .returning H K := fun w hw =>
  Go.CallsD.mono (rec_idle p w) fun e u' w' ⟨h1, h2, h3⟩ => by subst h1 h2 h3; exact ⟨by rw [hw]; exact hk, Like.refl _⟩
theorem sl_cutT {s : TH} {xa : Option Addr} {l : List UInt8} {τ : Nat} (h : Sl s xa (bvs l) τ) (p c k : Nat) (hp : p < l.length) (hpc : c ≠ p) : Sl s (slO xa 1 (p : Int) (c : Int)) (bvs ((l.drop p).take k)) τ := by
  obtain ⟨g, o, e, h2⟩ := sl_cutB h p c hp hpc
  rw [e]; exact h2.takeB k
def getN (l : List UInt8) (p : Nat) : Nat → Nat
  | 0 => 0
  | k + 1 => getN l p k + (l.getD (p + k) 0).toNat * 256 ^ k
theorem getN_lt (l : List UInt8) (p : Nat) : ∀ k, getN l p k < 256 ^ k
  | 0 => by simp [getN]
  | k + 1 => by
    have h1 := getN_lt l p k
    have h2 := (l.getD (p + k) 0).toNat_lt
    have h3 : (l.getD (p + k) 0).toNat * 256 ^ k ≤ 255 * 256 ^ k := Nat.mul_le_mul_right _ (by omega)
    rw [getN, Nat.pow_succ]; omega
theorem getN_cut (l : List UInt8) (p w : Nat) : ∀ k, k ≤ w → getN ((l.drop p).take w) 0 k = getN l p k
  | 0, _ => rfl
  | k + 1, h => by
    rw [getN, getN, getN_cut l p w k (by omega)]
    congr 2
    rw [Nat.zero_add, List.getD_eq_getElem?_getD, List.getD_eq_getElem?_getD, List.getElem?_take, if_pos (by omega), List.getElem?_drop]
theorem shlN {b k : Nat} (hb : b < 256) (hk : k ≤ 3) : IntKind.i64.wrap ((b : Int) * 2 ^ min (Int.toNat (8 * (k : Int))) 64) = ((b * 256 ^ k : Nat) : Int) := by
  rcases (by omega : k = 0 ∨ k = 1 ∨ k = 2 ∨ k = 3) with rfl | rfl | rfl | rfl
  · rw [show ((2 : Int) ^ min (Int.toNat (8 * ((0 : Nat) : Int))) 64) = 1 from by decide, show (256 : Nat) ^ 0 = 1 from rfl]; rw [wrap_id (by omega) (by omega)]; omega
  · rw [show ((2 : Int) ^ min (Int.toNat (8 * ((1 : Nat) : Int))) 64) = 256 from by decide, show (256 : Nat) ^ 1 = 256 from rfl]; rw [wrap_id (by omega) (by omega)]; omega
  · rw [show ((2 : Int) ^ min (Int.toNat (8 * ((2 : Nat) : Int))) 64) = 65536 from by decide, show (256 : Nat) ^ 2 = 65536 from rfl]; rw [wrap_id (by omega) (by omega)]; omega
  · rw [show ((2 : Int) ^ min (Int.toNat (8 * ((3 : Nat) : Int))) 64) = 16777216 from by decide, show (256 : Nat) ^ 3 = 16777216 from rfl]; rw [wrap_id (by omega) (by omega)]; omega
theorem orN {a b k : Nat} (ha : a < 256 ^ k) (hb : b < 256) (hk : k ≤ 3) : IntKind.i64.wrap ((BitVec.toNat (BitVec.ofInt 64 (a : Int) ||| BitVec.ofInt 64 ((b * 256 ^ k : Nat) : Int)) : Nat) : Int) = ((a + b * 256 ^ k : Nat) : Int) := by
  have h1 : 256 ^ k ≤ 256 ^ 3 := Nat.pow_le_pow_right (by decide) hk
  have h2 : b * 256 ^ k ≤ 255 * 256 ^ 3 := Nat.mul_le_mul (by omega) h1
  have h3 : (256 : Nat) ^ 3 = 16777216 := rfl
  have e : a ||| b * 256 ^ k = a + b * 256 ^ k := by
    have e1 : (256 : Nat) ^ k = 2 ^ (8 * k) := by rw [Nat.pow_mul]
    rw [e1, Nat.or_comm, Nat.mul_comm b, ← Nat.two_pow_add_eq_or_of_lt (by rw [← e1]; exact ha), Nat.add_comm]
  rw [BitVec.ofInt_natCast, BitVec.ofInt_natCast, BitVec.toNat_or, BitVec.toNat_ofNat, BitVec.toNat_ofNat, Nat.mod_eq_of_lt (by omega), Nat.mod_eq_of_lt (by omega), e]
  exact wrap_id (by omega) (by omega)
/-- bollard/word.Over -/
theorem c_wover (τ : Nat) {xa : Option Addr} {xn : Nat} (xc : Nat) {l : List UInt8} {τx : Nat} {s : TH} (hx : Sl s xa (bvs l) τx) (hn : l.length = xn) (hb : xn ≤ 1000000000) : TRet Tryz.prog 66 #[.slice xa xn xc] s fun v s' => ∃ r a c, v = .pointer (some ⟨r, 0, none⟩) ∧ Ch [] s s' ∧ Blk s' r [.slice a xn c, .int .i64 0, .int .i64 0, .bool true] 209 τ ∧ Sl s' a (bvs l) (τ + 1) ∧ xn ≤ c := by
  obtain ⟨M, hM, hM0, hMa, hMb, hMc, hMd, hMe, hMf⟩ := fresh6 s τx (τ + 1) 0 0 0 0
  refine F66_calls _ _ _  ?_
  unfold F66
  refine app_bv (xs := []) u85 in5 (Own.nil _ _ _ (M + 5)) hx hn (by omega) fun s_1 a1 c1 o_4 c_2 => ?_
  have z_3 := c_2.size
  simp only [Nat.zero_add]
  refine dSl_i ?_
  refine al_t (M + 1) fun r8 s9 hr8 b_5 c_6 z_7 => ?_
  have h_8 := o_4.mv c_6 (tagn (by simp))
  obtain ⟨φ, hφ⟩ : ∃ φ : Nat → Nat, φ = fun m => if m = M + 1 then τ else if m = M + 5 then τ + 1 else m := ⟨_, rfl⟩
  have f1 : φ (M + 1) = τ := by subst hφ; exact if_pos rfl
  have f5 : φ (M + 5) = τ + 1 := by subst hφ; simp
  have h1 := (b_5).rf (φ := φ)
  have ho0 := h_8
  rw [List.nil_append, Nat.zero_add] at ho0
  have h2 := ho0.rf (φ := φ)
  rw [f1] at h1
  rw [f5] at h2
  exact ret_t' (s' := remarkF s9 φ) rfl ⟨_, _, _, rfl, remarkF_ch (((Ch.refl [] s).fr c_2 hM (by simp)).ch c_6 (by simp)) hM (fun m hm => by subst hφ; simp only; rw [if_neg (by omega), if_neg (by omega)]), h1, h2.sl, h2.le⟩
/-- bollard/word.Get -/
theorem c_wget {xa : Option Addr} {xn : Nat} (xc : Nat) (p w : Nat) {l : List UInt8} {τx : Nat} {s : TH} (hx : Sl s xa (bvs l) τx) (hn : l.length = xn) (hb : xn ≤ 1000000000) (hw : 1 ≤ w ∧ w ≤ 4) (hp : p + w ≤ xn) : TRet Tryz.prog 127 #[.slice xa xn xc, .int .i64 (p : Int), .int .i64 (w : Int)] s fun v s' => v = .tuple #[.int .i64 (getN l p w : Int), .int .i64 0] ∧ Ch [] s s' := by
  refine F127_calls _ _ _ _ _  ?_
  unfold F127
  refine tcall (c_wthere xc p w _ hw hp hb) ?_
  rintro v_2 s_1 ⟨rfl, c_4⟩
  have z_5 := c_4.size
  refine dInt_i ?_
  refine sB_f (by rfl) ?_
  refine ⟨fun vs H' => ∃ s' : TH, s'.h = H' ∧ ∃ n j, vs = [.int .i64 n, .int .i64 j] ∧ Ch [] s_1 s' ∧ (∃ k : Nat, j = k ∧ k ≤ w ∧ n = (getN l p k : Int)), fun vs H' => match vs with | [.int .i64 n, .int .i64 j] => ((w : Int) - j).toNat | _ => 0, ⟨s_1, rfl, _, _, rfl, Ch.refl _ _, ?_⟩, ?_⟩
  ·
    exact ⟨0, rfl, by omega, rfl⟩
  ·
    intro n j _ _ _ _ _ _ _ _ _ _ _ _ _ _ _ _ H_ hI_7
    obtain ⟨s_6, rfl, n_, j_, hvs, c_8, k, rfl, hk, rfl⟩ := hI_7
    cases hvs
    have z_9 := c_8.size
    have hlt := getN_lt l p k
    refine sB_d (fun hsB2 => ?_) (fun hsB2 => ?_)
    ·
      refine wr_t (by omega) ?_
      obtain ⟨b, hbk⟩ : ∃ b, l[p + k]? = some b := ⟨l[p + k]'(by omega), by simp⟩
      obtain ⟨ad, rfl⟩ := hx.some (fun e => by have := bvs_get hbk; rw [e] at this; simp at this)
      have hb8 := b.toNat_lt
      refine nz_i ?_
      refine ask_t (by omega) ?_
      have h_10 := hx.mv (c_4.app c_8) (tagn (by simp))
      refine ld_sl h_10 (by rw [show Int.toNat ((p : Int) + (k : Int)) * 1 = p + k by omega]; exact bvs_get hbk) ?_
      refine dInt_i ?_
      refine wr_t (by omega) ?_
      refine wr_t (by omega) ?_
      refine ask_t (by omega) ?_
      rw [shlN hb8 (by omega)]
      refine nm_t rfl ?_
      rw [orN hlt hb8 (by omega)]
      refine nm_t rfl ?_
      refine wr_t (by omega) ?_
      refine ⟨⟨s_6, rfl, _, _, rfl, ((Ch.refl [] s_1).ch c_8 (by simp)), ?_⟩, ?_⟩
      ·
        exact ⟨k + 1, by omega, by omega, by rw [getN, List.getD_eq_getElem?_getD, hbk]; rfl⟩
      ·
        simp only []; omega
    ·
      refine ret_t ?_
      obtain rfl : k = w := by omega
      exact ⟨rfl, (((Ch.refl [] s).ch c_4 (by simp)).ch c_8 (by simp))⟩
/-- (*bollard/word.Reader).next -/
theorem c_wnext (r xc at_ w : Nat) {xa : Option Addr} {xn : Nat} {l : List UInt8} {τ τx : Nat} (s : TH) (hr : Blk s r [.slice xa xn xc, .int .i64 (at_ : Int), .int .i64 0, .bool true] 209 τ) (hx : Sl s xa (bvs l) τx) (hn : l.length = xn) (hc : xn ≤ xc) (hb : xn ≤ 1000000000) (hτx : τ ≠ τx) (hw : 1 ≤ w) (hat : at_ + w ≤ xn) : TRet Tryz.prog 131 #[.pointer (some ⟨r, 0, none⟩), .int .i64 (w : Int), .bool true] s fun v s' => ∃ a' c', v = .slice a' w c' ∧ Ch [τ] s s' ∧ Blk s' r [.slice xa xn xc, .int .i64 ((at_ + w : Nat) : Int), .int .i64 0, .bool true] 209 τ ∧ Sl s' a' (bvs ((l.drop at_).take w)) τx := by
  refine F131_calls _ _ _  ?_
  unfold F131
  refine jn_u ?_
  refine jn_u ?_
  refine sB_d (fun hsB1 => by exfalso; omega) (fun hsB1 => ?_)
  intro _
  intros
  refine dBl_i ?_
  refine sB_f (by rfl) ?_
  intro _
  intros
  refine jn_u ?_
  refine nz_i ?_
  refine ld_t hr rfl ?_
  refine dSl_i ?_
  refine nz_i ?_
  refine ld_t hr rfl ?_
  refine dInt_i ?_
  refine ⟨?_, ?_⟩
  ·
    refine ld_t hr rfl ?_
    refine dInt_i ?_
    rfl
  ·
    refine wr_t (by omega) ?_
    refine sB_d (fun hsB3 => by exfalso; omega) (fun hsB3 => ?_)
    intro _
    intros
    refine nz_i ?_
    refine ld_t hr rfl ?_
    refine dInt_i ?_
    refine wr_t (by omega) ?_
    refine nz_i ?_
    refine st_t (r := r) (i := 1) hr rfl (by simp) fun s28 b_1 c_2o z_3 => ?_
    have c_2 := on_ch hr c_2o
    refine nz_i ?_
    refine ld_t b_1 rfl ?_
    refine dSl_i ?_
    refine nz_i ?_
    refine ld_t b_1 rfl ?_
    refine dInt_i ?_
    refine wr_t (by omega) ?_
    refine nz_i ?_
    refine ld_t b_1 rfl ?_
    refine dInt_i ?_
    refine ask_t (by omega) ?_
    refine ret_t ?_
    have h_4 := hx.mv c_2 (tagn (by simp <;> omega))
    have hs := sl_cutT h_4 at_ xc w (by omega) (by omega)
    have e1 : ((at_ : Int) + (w : Int) - (w : Int)) = (at_ : Int) := by omega
    rw [e1]
    exact ⟨_, _, by rw [show Int.toNat ((at_ : Int) + (w : Int)) - Int.toNat (at_ : Int) = w by omega], ((Ch.refl [τ] s).ch c_2 (by simp)), by rw [Int.natCast_add]; exact b_1, hs⟩
/-- (*bollard/word.Reader).Take$1 -/
theorem c_wtakeC (c1 c2 c3 : Nat) (r xc at_ w : Nat) {xa : Option Addr} {xn : Nat} {l : List UInt8} {τ τx : Nat} {τ1 τ2 τ3 : Nat} (s : TH) (hr : Blk s r [.slice xa xn xc, .int .i64 (at_ : Int), .int .i64 0, .bool true] 209 τ) (hx : Sl s xa (bvs l) τx) (hn : l.length = xn) (hc : xn ≤ xc) (hb : xn ≤ 1000000000) (hτx : τ ≠ τx) (hw : 1 ≤ w) (hat : at_ + w ≤ xn) (h1 : Blk s c1 [.pointer (some ⟨r, 0, none⟩)] 142 τ1) (h2 : Blk s c2 [.int .i64 (w : Int)] 3 τ2) (h3 : Blk s c3 [.int .i64 0] 3 τ3) (hw4 : w ≤ 4) (hne : τ ≠ τ1 ∧ τ ≠ τ2 ∧ τ ≠ τ3) : TRet Tryz.prog 130 #[.pointer (some ⟨c1, 0, none⟩), .pointer (some ⟨c2, 0, none⟩), .pointer (some ⟨c3, 0, none⟩)] s fun v s' => v = .tuple #[] ∧ Ch [τ, τ3] s s' ∧ Blk s' r [.slice xa xn xc, .int .i64 ((at_ + w : Nat) : Int), .int .i64 0, .bool true] 209 τ ∧ Blk s' c3 [.int .i64 (getN l at_ w : Int)] 3 τ3 := by
  refine F130_calls _ _ _  ?_
  unfold F130
  refine ld_t h1 rfl ?_
  refine dPtr_i ?_
  refine ld_t h2 rfl ?_
  refine dInt_i ?_
  refine ld_t h2 rfl ?_
  refine dInt_i ?_
  refine sB_d (fun hsB1 => ?_) (fun hsB1 => by exfalso; omega)
  refine ld_t h2 rfl ?_
  refine dInt_i ?_
  refine ld_t h2 rfl ?_
  refine dInt_i ?_
  try rw [show decide ((w : Int) ≤ 4) = true from decide_eq_true (by omega)]
  refine tcall (c_wnext r xc at_ w _ hr hx hn hc hb hτx hw hat) ?_
  rintro v_2 s_1 ⟨acall1, ccall1, rfl, c_4, call1a, call1b⟩
  have z_5 := c_4.size
  have hlw : ((l.drop at_).take w).length = w := by rw [List.length_take, List.length_drop]; omega
  refine dSl_i ?_
  refine ⟨?_, ?_⟩
  ·
    have h_6 := h2.ch c_4 (by simp <;> omega)
    refine ld_t h_6 rfl ?_
    refine dInt_i ?_
    rfl
  ·
    refine tcall (c_wget _ 0 w call1b hlw (by omega) (by omega) (by omega)) ?_
    rintro v_8 s_7 ⟨rfl, c_10⟩
    have z_11 := c_10.size
    rw [getN_cut l at_ w w (Nat.le_refl _)]
    refine dT2 ?_
    refine dInt_i ?_
    refine dInt_i ?_
    have h_15 := h3.ch (c_4.app c_10) (by simp <;> omega)
    refine st_t h_15 rfl (by simp) fun s24 b_12 c_13o z_14 => ?_
    have c_13 := on_ch h_15 c_13o
    refine ret_t ?_
    have h_16 := call1a.ch (c_10.app c_13) (by simp <;> omega)
    exact ⟨rfl, ((((Ch.refl [τ, τ3] s).ch c_4 (by simp)).ch c_10 (by simp)).ch c_13 (by simp)), h_16, b_12⟩
/-- (*bollard/word.Reader).Skip$1 -/
theorem c_wskipC (c1 c2 : Nat) (r xc at_ w : Nat) {xa : Option Addr} {xn : Nat} {l : List UInt8} {τ τx : Nat} {τ1 τ2 : Nat} (s : TH) (hr : Blk s r [.slice xa xn xc, .int .i64 (at_ : Int), .int .i64 0, .bool true] 209 τ) (hx : Sl s xa (bvs l) τx) (hn : l.length = xn) (hc : xn ≤ xc) (hb : xn ≤ 1000000000) (hτx : τ ≠ τx) (hw : 1 ≤ w) (hat : at_ + w ≤ xn) (h1 : Blk s c1 [.pointer (some ⟨r, 0, none⟩)] 142 τ1) (h2 : Blk s c2 [.int .i64 (w : Int)] 3 τ2) (hne : τ ≠ τ1 ∧ τ ≠ τ2) : TRet Tryz.prog 132 #[.pointer (some ⟨c1, 0, none⟩), .pointer (some ⟨c2, 0, none⟩)] s fun v s' => v = .tuple #[] ∧ Ch [τ] s s' ∧ Blk s' r [.slice xa xn xc, .int .i64 ((at_ + w : Nat) : Int), .int .i64 0, .bool true] 209 τ := by
  refine F132_calls _ _  ?_
  unfold F132
  refine ld_t h1 rfl ?_
  refine dPtr_i ?_
  refine ld_t h2 rfl ?_
  refine dInt_i ?_
  refine tcall (c_wnext r xc at_ w _ hr hx hn hc hb hτx hw hat) ?_
  rintro v_2 s_1 ⟨acall1, ccall1, rfl, c_4, call1a, call1b⟩
  have z_5 := c_4.size
  refine dSl_i ?_
  refine ret_t ?_
  exact ⟨rfl, ((Ch.refl [τ] s).ch c_4 (by simp)), call1a⟩
set_option maxRecDepth 100000 in
/-- (*bollard/word.Reader).do -/
theorem c_wdoT (c1 c2 c3 : Nat) (r xc at_ w : Nat) {xa : Option Addr} {xn : Nat} {l : List UInt8} {τ τx : Nat} {τ1 τ2 τ3 : Nat} (s : TH) (hr : Blk s r [.slice xa xn xc, .int .i64 (at_ : Int), .int .i64 0, .bool true] 209 τ) (hx : Sl s xa (bvs l) τx) (hn : l.length = xn) (hc : xn ≤ xc) (hb : xn ≤ 1000000000) (hτx : τ ≠ τx) (hw : 1 ≤ w) (hat : at_ + w ≤ xn) (h1 : Blk s c1 [.pointer (some ⟨r, 0, none⟩)] 142 τ1) (h2 : Blk s c2 [.int .i64 (w : Int)] 3 τ2) (h3 : Blk s c3 [.int .i64 0] 3 τ3) (hw4 : w ≤ 4) (hne : τ ≠ τ1 ∧ τ ≠ τ2 ∧ τ ≠ τ3) : TRet Tryz.prog 129 #[.pointer (some ⟨r, 0, none⟩), .func (.func 130) #[] #[.pointer (some ⟨c1, 0, none⟩), .pointer (some ⟨c2, 0, none⟩), .pointer (some ⟨c3, 0, none⟩)]] s fun v s' => v = .tuple #[] ∧ Ch [τ, τ3] s s' ∧ Blk s' r [.slice xa xn xc, .int .i64 ((at_ + w : Nat) : Int), .int .i64 0, .bool true] 209 τ ∧ Blk s' c3 [.int .i64 (getN l at_ w : Int)] 3 τ3 := by
  obtain ⟨M, hM, hM0, hMa, hMb, hMc, hMd, hMe, hMf⟩ := fresh6 s τ τx τ1 τ2 τ3 0
  refine F129_calls _ _ _ _  ?_
  unfold F129
  refine al_t (M + 1) fun r1 s2 hr1 b_1 c_2 z_3 => ?_
  refine jn_u ?_
  refine ld_t b_1 rfl ?_
  refine dPtr_i ?_
  refine sB_f (by rfl) ?_
  refine ld_t b_1 rfl ?_
  refine dPtr_i ?_
  refine nz_i ?_
  have h_4 := hr.ch c_2 (by simp)
  refine ld_t h_4 rfl ?_
  refine dBl_i ?_
  refine sB_f (by rfl) ?_
  refine ld_t b_1 rfl ?_
  refine dPtr_i ?_
  refine nz_i ?_
  refine ld_t h_4 rfl ?_
  refine dInt_i ?_
  intro _
  intros
  refine dBl_i ?_
  refine sB_nd (fun hsB3 => by exfalso; omega) (fun hsB3 => ?_)
  refine gB_i rfl ?_
  simp only [argsOf, List.nil_append, List.append_nil]
  have h_5 := hx.mv c_2 (tagn (by simp))
  have h_6 := h1.ch c_2 (by simp)
  have h_7 := h2.ch c_2 (by simp)
  have h_8 := h3.ch c_2 (by simp)
  refine tcall (c_wtakeC c1 c2 c3 r xc at_ w _ h_4 h_5 hn hc hb hτx hw hat h_6 h_7 h_8 hw4 hne) ?_
  rintro v_10 s_9 ⟨rfl, c_12, call1a, call1b⟩
  have z_13 := c_12.size
  refine d_idle ?_
  show RT _ _ _
  refine ret_t ?_
  exact ⟨rfl, (((Ch.refl [τ, τ3] s).ch c_2 (by simp)).ch c_12 (by simp)), call1a, call1b⟩
set_option maxRecDepth 100000 in
/-- (*bollard/word.Reader).do -/
theorem c_wdoS (c1 c2 : Nat) (r xc at_ w : Nat) {xa : Option Addr} {xn : Nat} {l : List UInt8} {τ τx : Nat} {τ1 τ2 : Nat} (s : TH) (hr : Blk s r [.slice xa xn xc, .int .i64 (at_ : Int), .int .i64 0, .bool true] 209 τ) (hx : Sl s xa (bvs l) τx) (hn : l.length = xn) (hc : xn ≤ xc) (hb : xn ≤ 1000000000) (hτx : τ ≠ τx) (hw : 1 ≤ w) (hat : at_ + w ≤ xn) (h1 : Blk s c1 [.pointer (some ⟨r, 0, none⟩)] 142 τ1) (h2 : Blk s c2 [.int .i64 (w : Int)] 3 τ2) (hne : τ ≠ τ1 ∧ τ ≠ τ2) : TRet Tryz.prog 129 #[.pointer (some ⟨r, 0, none⟩), .func (.func 132) #[] #[.pointer (some ⟨c1, 0, none⟩), .pointer (some ⟨c2, 0, none⟩)]] s fun v s' => v = .tuple #[] ∧ Ch [τ] s s' ∧ Blk s' r [.slice xa xn xc, .int .i64 ((at_ + w : Nat) : Int), .int .i64 0, .bool true] 209 τ := by
  obtain ⟨M, hM, hM0, hMa, hMb, hMc, hMd, hMe, hMf⟩ := fresh6 s τ τx τ1 τ2 0 0
  refine F129_calls _ _ _ _  ?_
  unfold F129
  refine al_t (M + 1) fun r1 s2 hr1 b_1 c_2 z_3 => ?_
  refine jn_u ?_
  refine ld_t b_1 rfl ?_
  refine dPtr_i ?_
  refine sB_f (by rfl) ?_
  refine ld_t b_1 rfl ?_
  refine dPtr_i ?_
  refine nz_i ?_
  have h_4 := hr.ch c_2 (by simp)
  refine ld_t h_4 rfl ?_
  refine dBl_i ?_
  refine sB_f (by rfl) ?_
  refine ld_t b_1 rfl ?_
  refine dPtr_i ?_
  refine nz_i ?_
  refine ld_t h_4 rfl ?_
  refine dInt_i ?_
  intro _
  intros
  refine dBl_i ?_
  refine sB_nd (fun hsB3 => by exfalso; omega) (fun hsB3 => ?_)
  refine gB_i rfl ?_
  simp only [argsOf, List.nil_append, List.append_nil]
  have h_5 := hx.mv c_2 (tagn (by simp))
  have h_6 := h1.ch c_2 (by simp)
  have h_7 := h2.ch c_2 (by simp)
  refine tcall (c_wskipC c1 c2 r xc at_ w _ h_4 h_5 hn hc hb hτx hw hat h_6 h_7 hne) ?_
  rintro v_9 s_8 ⟨rfl, c_11, call1a⟩
  have z_12 := c_11.size
  refine d_idle ?_
  show RT _ _ _
  refine ret_t ?_
  exact ⟨rfl, (((Ch.refl [τ] s).ch c_2 (by simp)).ch c_11 (by simp)), call1a⟩
/-- (*bollard/word.Reader).Take -/
theorem c_wtake (r xc at_ w : Nat) {xa : Option Addr} {xn : Nat} {l : List UInt8} {τ τx : Nat} (s : TH) (hr : Blk s r [.slice xa xn xc, .int .i64 (at_ : Int), .int .i64 0, .bool true] 209 τ) (hx : Sl s xa (bvs l) τx) (hn : l.length = xn) (hc : xn ≤ xc) (hb : xn ≤ 1000000000) (hτx : τ ≠ τx) (hw : 1 ≤ w) (hat : at_ + w ≤ xn) (hw4 : w ≤ 4) : TRet Tryz.prog 67 #[.pointer (some ⟨r, 0, none⟩), .int .i64 (w : Int)] s fun v s' => v = .int .i64 (getN l at_ w : Int) ∧ Ch [τ] s s' ∧ Blk s' r [.slice xa xn xc, .int .i64 ((at_ + w : Nat) : Int), .int .i64 0, .bool true] 209 τ := by
  obtain ⟨M, hM, hM0, hMa, hMb, hMc, hMd, hMe, hMf⟩ := fresh6 s τ τx 0 0 0 0
  refine F67_calls _ _  ?_
  unfold F67
  refine al_t (M + 1) fun r1 s2 hr1 b_1 c_2 z_3 => ?_
  refine al_t (M + 2) fun r3 s4 hr3 b_4 c_5 z_6 => ?_
  refine al_t (M + 3) fun r5 s6 hr5 b_7 c_8 z_9 => ?_
  refine st_t b_7 rfl (by simp) fun s7 b_10 c_11o z_12 => ?_
  have c_11 := on_ch b_7 c_11o
  have h_13 := b_1.ch ((c_5.app c_8).app c_11) (by simp)
  refine ld_t h_13 rfl ?_
  refine dPtr_i ?_
  have h_14 := hr.ch (((c_2.app c_5).app c_8).app c_11) (by simp <;> omega)
  have h_15 := hx.mv (((c_2.app c_5).app c_8).app c_11) (tagn (by simp <;> omega))
  have h_16 := b_4.ch (c_8.app c_11) (by simp)
  refine tcall (c_wdoT r1 r3 r5 r xc at_ w _ h_14 h_15 hn hc hb hτx hw hat h_13 h_16 b_10 hw4 (by omega)) ?_
  rintro v_18 s_17 ⟨rfl, c_20, call1a, call1b⟩
  have z_21 := c_20.size
  refine ld_t call1b rfl ?_
  refine dInt_i ?_
  refine ret_t ?_
  exact ⟨rfl, ((((((Ch.refl [τ] s).ch c_2 (by simp)).ch c_5 (by simp)).ch c_8 (by simp)).fr c_11 hM (by simp)).fr c_20 hM (by simp)), call1a⟩
/-- (*bollard/word.Reader).Skip -/
theorem c_wskip (r xc at_ w : Nat) {xa : Option Addr} {xn : Nat} {l : List UInt8} {τ τx : Nat} (s : TH) (hr : Blk s r [.slice xa xn xc, .int .i64 (at_ : Int), .int .i64 0, .bool true] 209 τ) (hx : Sl s xa (bvs l) τx) (hn : l.length = xn) (hc : xn ≤ xc) (hb : xn ≤ 1000000000) (hτx : τ ≠ τx) (hw : 1 ≤ w) (hat : at_ + w ≤ xn) : TRet Tryz.prog 68 #[.pointer (some ⟨r, 0, none⟩), .int .i64 (w : Int)] s fun v s' => v = .tuple #[] ∧ Ch [τ] s s' ∧ Blk s' r [.slice xa xn xc, .int .i64 ((at_ + w : Nat) : Int), .int .i64 0, .bool true] 209 τ := by
  obtain ⟨M, hM, hM0, hMa, hMb, hMc, hMd, hMe, hMf⟩ := fresh6 s τ τx 0 0 0 0
  refine F68_calls _ _  ?_
  unfold F68
  refine al_t (M + 1) fun r1 s2 hr1 b_1 c_2 z_3 => ?_
  refine al_t (M + 2) fun r3 s4 hr3 b_4 c_5 z_6 => ?_
  have h_7 := b_1.ch c_5 (by simp)
  refine ld_t h_7 rfl ?_
  refine dPtr_i ?_
  have h_8 := hr.ch (c_2.app c_5) (by simp)
  have h_9 := hx.mv (c_2.app c_5) (tagn (by simp))
  refine tcall (c_wdoS r1 r3 r xc at_ w _ h_8 h_9 hn hc hb hτx hw hat h_7 b_4 (by omega)) ?_
  rintro v_11 s_10 ⟨rfl, c_13, call1a⟩
  have z_14 := c_13.size
  refine ret_t ?_
  exact ⟨rfl, ((((Ch.refl [τ] s).ch c_2 (by simp)).ch c_5 (by simp)).ch c_13 (by simp)), call1a⟩
theorem wrL_getD (l : List UInt8) (p n i : Nat) : ∀ k, p + k ≤ l.length → (wrL l p k n).getD i 0 = if p ≤ i ∧ i < p + k then UInt8.ofNat (n / 256 ^ (i - p) % 256) else l.getD i 0
  | 0, _ => by rw [if_neg (by omega)]; rfl
  | k + 1, h => by
    have hl := wrL_len l p k n
    rw [wrL]
    by_cases e : p + k = i
    · subst e
      rw [List.getD_eq_getElem?_getD, List.getElem?_set_self (by omega), if_pos (by omega), Nat.add_sub_cancel_left]; rfl
    · rw [List.getD_eq_getElem?_getD, List.getElem?_set_ne e, ← List.getD_eq_getElem?_getD, wrL_getD l p n i k (by omega)]
      by_cases e2 : p ≤ i ∧ i < p + k
      · rw [if_pos e2, if_pos (by omega)]
      · rw [if_neg e2, if_neg (by omega)]
theorem getN_congr {l m : List UInt8} {p q : Nat} : ∀ k, (∀ j, j < k → l.getD (p + j) 0 = m.getD (q + j) 0) → getN l p k = getN m q k
  | 0, _ => rfl
  | k + 1, h => by rw [getN, getN, getN_congr k (fun j hj => h j (by omega)), h k (by omega)]
theorem getN_wrO {l : List UInt8} {p w n q k : Nat} (hp : p + w ≤ l.length) (h : q + k ≤ p ∨ p + w ≤ q) : getN (wrL l p w n) q k = getN l q k :=
  getN_congr k fun j hj => by rw [wrL_getD _ _ _ _ _ hp, if_neg (by omega)]
theorem getN_wr {l : List UInt8} {p w n : Nat} (hp : p + w ≤ l.length) : ∀ k, k ≤ w → getN (wrL l p w n) p k = n % 256 ^ k
  | 0, _ => by rw [getN, Nat.pow_zero, Nat.mod_one]
  | k + 1, h => by
    have e : (UInt8.ofNat (n / 256 ^ k % 256)).toNat = n / 256 ^ k % 256 := by show n / 256 ^ k % 256 % 256 = _; omega
    rw [getN, getN_wr hp k (by omega), wrL_getD _ _ _ _ _ hp, if_pos (by omega), Nat.add_sub_cancel_left, e, Nat.mod_pow_succ, Nat.mul_comm]
theorem sealL_take (l : List UInt8) (h : 4 ≤ l.length) : (sealL l).take (l.length - 4) = l.take (l.length - 4) := by
  apply List.ext_getElem?
  intro j
  rw [List.getElem?_take, List.getElem?_take]
  split
  · have h1 := wrL_getD l (l.length - 4) (sumN (l.take (l.length - 4))) j 4 (by omega)
    rw [if_neg (by omega), List.getD_eq_getElem?_getD, List.getD_eq_getElem?_getD] at h1
    have hl : (sealL l).length = l.length := sealL_len l
    rw [show wrL l (l.length - 4) 4 (sumN (l.take (l.length - 4))) = sealL l from rfl, List.getElem?_eq_getElem (by omega), List.getElem?_eq_getElem (by omega)] at h1
    rw [List.getElem?_eq_getElem (by omega), List.getElem?_eq_getElem (by omega)]
    exact congrArg some h1
  · rfl
theorem sealL_num (l : List UInt8) (h : 4 ≤ l.length) : getN (sealL l) (l.length - 4) 4 = sumN (l.take (l.length - 4)) := by
  unfold sealL
  rw [getN_wr (by omega) 4 (Nat.le_refl _)]
  exact Nat.mod_eq_of_lt (sumN_lt _)
theorem dinL_ex (m l z d0 d1 d2 d3 e1 e2 : Nat) : ∃ σ, (dinL m l z d0 d1 d2 d3 e1 e2) = wrL (wrL (wrL (wrL (wrL (wrL (wrL (wrL (wrL (wrL (List.replicate 32 0) 0 1 m) 2 2 l) 4 4 z) 8 2 d0) 10 2 d1) 12 2 d2) 14 2 d3) 16 2 e1) 18 2 e2) 28 4 σ := by
  unfold dinL sealL
  rw [show (wrL (wrL (dirL (wrL (wrL (wrL (List.replicate 32 0) 0 1 m) 2 2 l) 4 4 z) [d0, d1, d2, d3] 4) 16 2 e1) 18 2 e2).length = 32 from by rw [wrL_len, wrL_len, dirL_len, wrL_len, wrL_len, wrL_len]; simp]
  exact ⟨_, rfl⟩
theorem dinL_num {m l z d0 d1 d2 d3 e1 e2 : Nat} (hv : DinOk m l z d0 d1 d2 d3 e1 e2) : getN (dinL m l z d0 d1 d2 d3 e1 e2) 0 1 = m ∧ getN (dinL m l z d0 d1 d2 d3 e1 e2) (0 + 1 + 1) 2 = l ∧ getN (dinL m l z d0 d1 d2 d3 e1 e2) (0 + 1 + 1 + 2) 4 = z ∧ (∀ k, k < 4 → getN (dinL m l z d0 d1 d2 d3 e1 e2) (8 + 2 * k) 2 = [d0, d1, d2, d3].getD k 0) ∧ getN (dinL m l z d0 d1 d2 d3 e1 e2) (8 + 2 * 4) 2 = e1 ∧ getN (dinL m l z d0 d1 d2 d3 e1 e2) (8 + 2 * 4 + 2) 2 = e2 := by
  unfold DinOk at hv
  obtain ⟨σ, e⟩ := dinL_ex m l z d0 d1 d2 d3 e1 e2
  rw [e]
  have o : ∀ {l : List UInt8} {p w n q k : Nat}, l.length = 32 ∧ p + w ≤ 32 → (q + k ≤ p ∨ p + w ≤ q) → getN (wrL l p w n) q k = getN l q k := fun h1 h2 => getN_wrO (by omega) h2
  have s : ∀ {l : List UInt8} {p w n : Nat}, l.length = 32 ∧ p + w ≤ 32 → getN (wrL l p w n) p w = n % 256 ^ w := fun {l p w n} h1 => getN_wr (by omega) w (Nat.le_refl _)
  refine ⟨?_, ?_, ?_, ?_, ?_, ?_⟩
  · repeat rw [o ⟨by simp only [wrL_len, List.length_replicate], by decide⟩ (by omega)]
    rw [s ⟨by simp only [wrL_len, List.length_replicate], by decide⟩]; omega
  · repeat rw [o ⟨by simp only [wrL_len, List.length_replicate], by decide⟩ (by omega)]
    rw [s ⟨by simp only [wrL_len, List.length_replicate], by decide⟩]; omega
  · repeat rw [o ⟨by simp only [wrL_len, List.length_replicate], by decide⟩ (by omega)]
    rw [s ⟨by simp only [wrL_len, List.length_replicate], by decide⟩]; omega
  · intro k hk
    rcases (by omega : k = 0 ∨ k = 1 ∨ k = 2 ∨ k = 3) with rfl | rfl | rfl | rfl <;>
    · repeat rw [o ⟨by simp only [wrL_len, List.length_replicate], by decide⟩ (by omega)]
      simp only [Nat.mul_zero, Nat.add_zero, Nat.reduceMul, Nat.reduceAdd]
      rw [s ⟨by simp only [wrL_len, List.length_replicate], by decide⟩]
      exact Nat.mod_eq_of_lt (show _ < 65536 by omega)
  · repeat rw [o ⟨by simp only [wrL_len, List.length_replicate], by decide⟩ (by omega)]
    simp only [Nat.reduceMul, Nat.reduceAdd]
    rw [s ⟨by simp only [wrL_len, List.length_replicate], by decide⟩]; omega
  · repeat rw [o ⟨by simp only [wrL_len, List.length_replicate], by decide⟩ (by omega)]
    simp only [Nat.reduceMul, Nat.reduceAdd]
    rw [s ⟨by simp only [wrL_len, List.length_replicate], by decide⟩]; omega
theorem dinL_some {m l z d0 d1 d2 d3 e1 e2 : Nat} (hv : DinOk m l z d0 d1 d2 d3 e1 e2) : ¬ ∀ b ∈ (dinL m l z d0 d1 d2 d3 e1 e2), b = 0 := by
  intro h
  have h1 := (dinL_num hv).1
  have h2 : (dinL m l z d0 d1 d2 d3 e1 e2).length = 32 := dinL_len _ _ _ _ _ _ _ _ _
  rw [getN, getN, List.getD_eq_getElem?_getD, List.getElem?_eq_getElem (by omega), Option.getD_some, h _ (List.getElem_mem _)] at h1
  unfold DinOk at hv
  simp at h1; omega
/-- bollard/layout.zero -/
theorem c_lzero {xa : Option Addr} {xn : Nat} (xc : Nat) {l : List UInt8} {τx : Nat} {s : TH} (hx : Sl s xa (bvs l) τx) (hn : l.length = xn) (hb : xn ≤ 1000000) : TRet Tryz.prog 64 #[.slice xa xn xc] s fun v s' => ∃ b, v = .bool b ∧ Ch [] s s' ∧ (b = true ↔ ∀ c ∈ l, c = 0) := by
  refine F64_calls _ _ _  ?_
  unfold F64
  refine ⟨fun vs H' => ∃ s' : TH, s'.h = H' ∧ ∃ i, vs = [.int .i64 i] ∧ Ch [] s s' ∧ (∃ k : Nat, i = k ∧ k ≤ xn ∧ ∀ c ∈ l.take k, c = 0), fun vs H' => match vs with | [.int .i64 i] => ((xn : Int) - i).toNat | _ => 0, ⟨s, rfl, _, rfl, Ch.refl _ _, ?_⟩, ?_⟩
  ·
    exact ⟨0, rfl, by omega, by simp⟩
  ·
    intro i _ _ _ _ _ _ _ _ H_ hI_2
    obtain ⟨s_1, rfl, i_, hvs, c_3, k, rfl, hk, hz⟩ := hI_2
    cases hvs
    have z_4 := c_3.size
    refine sB_d (fun hsB1 => ?_) (fun hsB1 => ?_)
    ·
      have h_5 := hx.mv c_3 (tagn (by simp))
      obtain ⟨a_6, rfl⟩ := h_5.ne_none (by simp [bvs_len, ivs_len]; omega)
      refine nz_i ?_
      refine ask_t (by omega) ?_
      refine ld_bv h_5 (by omega) (by omega) fun vel1 hel1 => ?_
      rw [Int.toNat_natCast] at hel1
      refine dInt_i ?_
      refine sB_nd (fun hsB2 => ?_) (fun hsB2 => ?_)
      ·
        refine ret_t ?_
        have hmem := List.mem_of_getElem? hel1
        exact ⟨false, rfl, ((Ch.refl [] s).ch c_3 (by simp)), ⟨fun h => (by cases h), fun h => by have h2 := h vel1 hmem; subst h2; exact absurd rfl hsB2⟩⟩
      ·
        refine wr_t (by omega) ?_
        refine ⟨⟨s_1, rfl, _, rfl, ((Ch.refl [] s).ch c_3 (by simp)), ?_⟩, ?_⟩
        ·
          have hb0 : vel1 = 0 := UInt8.toNat.inj (by rw [show (0 : UInt8).toNat = 0 from rfl]; omega)
          exact ⟨k + 1, by omega, by omega, fun c hc => by
            rw [List.take_add_one, hel1] at hc
            rcases List.mem_append.1 hc with hc | hc
            · exact hz c hc
            · simp at hc; rw [hc]; exact hb0⟩
        ·
          simp only []; omega
    ·
      refine ret_t ?_
      exact ⟨true, rfl, ((Ch.refl [] s).ch c_3 (by simp)), ⟨fun _ => by rw [List.take_of_length_le (by omega)] at hz; exact hz, fun _ => rfl⟩⟩
/-- bollard/word.Sealed -/
theorem c_wsealed {xa : Option Addr} {xn : Nat} (xc : Nat) {m : List UInt8} {τx : Nat} {s : TH} (hx : Sl s xa (bvs (sealL m)) τx) (hn : m.length = xn) (hc : xn ≤ xc) (h4 : 4 ≤ xn) (hb : xn ≤ 1000000000) : TRet Tryz.prog 65 #[.slice xa xn xc] s fun v s' => v = .bool true ∧ Ch [] s s' := by
  have hsl : (sealL m).length = xn := by rw [sealL_len]; exact hn
  have hnum := sealL_num m (by omega)
  have htk := sealL_take m (by omega)
  rw [hn] at hnum htk
  refine F65_calls _ _ _  ?_
  unfold F65
  refine wr_t (by omega) ?_
  refine max_i ?_
  rw [show max ((xn : Int) - 4) 0 = ((xn - 4 : Nat) : Int) by omega]
  refine dInt_i ?_
  refine tcall (c_wget xc (xn - 4) 4 hx hsl hb (by omega) (by omega)) ?_
  rintro v_2 s_1 ⟨rfl, c_4⟩
  have z_5 := c_4.size
  rw [hnum]
  refine dT2 ?_
  refine dInt_i ?_
  refine dInt_i ?_
  refine sB_t (by rfl) ?_
  refine wr_t (by omega) ?_
  refine ask_t (by omega) ?_
  rw [show ((xn : Int) - 4) = ((xn - 4 : Nat) : Int) by omega]
  simp only [slO_zero, Int.toNat_zero, Nat.sub_zero, Int.toNat_natCast]
  have h_6 := hx.mv c_4 (tagn (by simp))
  refine tcall (c_wsum (xn := xn - 4) xc (h_6.takeB (xn - 4)) (by simp; omega) (by omega)) ?_
  rintro v_8 s_7 ⟨rfl, c_10⟩
  have z_11 := c_10.size
  rw [htk]
  refine dInt_i ?_
  refine ret_t ?_
  exact ⟨ret_b (by simp), (((Ch.refl [] s).ch c_4 (by simp)).ch c_10 (by simp))⟩
/-- bollard/layout.DecodeDinode -/
theorem c_ldecDinV (m l z d0 d1 d2 d3 e1 e2 : Nat) {xa : Option Addr} (xc : Nat) {τx : Nat} {s : TH} (hx : Sl s xa (bvs (dinL m l z d0 d1 d2 d3 e1 e2)) τx) (hne : xa ≠ none) (hc : 32 ≤ xc) (hv : DinOk m l z d0 d1 d2 d3 e1 e2) : TRet Tryz.prog 24 #[.slice xa 32 xc] s fun v s' => v = .tuple #[.agg #[.int .i64 (m : Int), .int .i64 (l : Int), .int .i64 (z : Int), .int .i64 (d0 : Int), .int .i64 (d1 : Int), .int .i64 (d2 : Int), .int .i64 (d3 : Int), .int .i64 (e1 : Int), .int .i64 (e2 : Int)], .int .i64 0] ∧ Ch [] s s' := by
  have hxl : (dinL m l z d0 d1 d2 d3 e1 e2).length = 32 := dinL_len _ _ _ _ _ _ _ _ _
  have hnum := dinL_num hv
  have hsome := dinL_some hv
  obtain ⟨M, hM, hM0, hMa, hMb, hMc, hMd, hMe, hMf⟩ := fresh6 s τx 0 0 0 0 0
  refine F24_calls _ _ _  ?_
  unfold F24
  refine al_t (M + 1) fun r1 s2 hr1 b_1 c_2 z_3 => ?_
  refine sB_f (by rfl) ?_
  have h_4 := hx.mv c_2 (tagn (by simp))
  refine tcall (c_lzero (xn := 32) xc h_4 hxl (by omega)) ?_
  rintro v_6 s_5 ⟨bcall1, rfl, c_8, call1a⟩
  have z_9 := c_8.size
  obtain rfl : bcall1 = false := by
    cases bcall1
    · rfl
    · exact absurd (call1a.1 rfl) hsome
  refine dBl_i ?_
  refine sB_f (by rfl) ?_
  have h_10 := h_4.mv c_8 (tagn (by simp))
  refine tcall (c_wsealed xc h_10 (by have h := hxl; unfold dinL at h; rw [sealL_len] at h; exact h) hc (by omega) (by omega)) ?_
  rintro v_12 s_11 ⟨rfl, c_14⟩
  have z_15 := c_14.size
  refine dBl_i ?_
  refine sB_f (by rfl) ?_
  have h_16 := h_10.mv c_14 (tagn (by simp))
  refine tcall (c_wover (M + 10) xc h_16 hxl (by omega)) ?_
  rintro v_18 s_17 ⟨rcall3, acall3, ccall3, rfl, c_20, call3a, call3b, call3c⟩
  have z_21 := c_20.size
  refine dPtr_i ?_
  refine tcall (c_wtake rcall3 ccall3 (0) 1 _ call3a call3b hxl call3c (by omega) (by omega) (by omega) (by omega) (by omega)) ?_
  rintro v_23 s_22 ⟨rfl, c_25, call4a⟩
  have z_26 := c_25.size
  rw [hnum.1]
  refine dInt_i ?_
  refine al_t (M + 2) fun r69 s70 hr69 b_27 c_28 z_29 => ?_
  refine st_t b_27 rfl (by simp) fun s71 b_30 c_31o z_32 => ?_
  have c_31 := on_ch b_27 c_31o
  refine st_t b_30 rfl (by simp) fun s72 b_33 c_34o z_35 => ?_
  have c_34 := on_ch b_30 c_34o
  refine st_t b_33 rfl (by simp) fun s73 b_36 c_37o z_38 => ?_
  have c_37 := on_ch b_33 c_37o
  refine st_t b_36 rfl (by simp) fun s74 b_39 c_40o z_41 => ?_
  have c_40 := on_ch b_36 c_40o
  refine st_t b_39 rfl (by simp) fun s75 b_42 c_43o z_44 => ?_
  have c_43 := on_ch b_39 c_43o
  refine st_t b_42 rfl (by simp) fun s76 b_45 c_46o z_47 => ?_
  have c_46 := on_ch b_42 c_46o
  refine st_t b_45 rfl (by simp) fun s77 b_48 c_49o z_50 => ?_
  have c_49 := on_ch b_45 c_49o
  refine st_t b_48 rfl (by simp) fun s78 b_51 c_52o z_53 => ?_
  have c_52 := on_ch b_48 c_52o
  refine st_t b_51 rfl (by simp) fun s79 b_54 c_55o z_56 => ?_
  have c_55 := on_ch b_51 c_55o
  have h_57 := call4a.ch (((((((((c_28.app c_31).app c_34).app c_37).app c_40).app c_43).app c_46).app c_49).app c_52).app c_55) (by simp)
  have h_58 := call3b.mv ((((((((((c_25.app c_28).app c_31).app c_34).app c_37).app c_40).app c_43).app c_46).app c_49).app c_52).app c_55) (tagn (by simp))
  refine tcall (c_wskip rcall3 ccall3 (0 + 1) 1 _ h_57 h_58 hxl call3c (by omega) (by omega) (by omega) (by omega)) ?_
  rintro v_60 s_59 ⟨rfl, c_62, call5a⟩
  have z_63 := c_62.size
  have h_64 := h_58.mv c_62 (tagn (by simp))
  refine tcall (c_wtake rcall3 ccall3 (0 + 1 + 1) 2 _ call5a h_64 hxl call3c (by omega) (by omega) (by omega) (by omega) (by omega)) ?_
  rintro v_66 s_65 ⟨rfl, c_68, call6a⟩
  have z_69 := c_68.size
  rw [hnum.2.1]
  refine dInt_i ?_
  have h_70 := h_64.mv c_68 (tagn (by simp))
  refine tcall (c_wtake rcall3 ccall3 (0 + 1 + 1 + 2) 4 _ call6a h_70 hxl call3c (by omega) (by omega) (by omega) (by omega) (by omega)) ?_
  rintro v_72 s_71 ⟨rfl, c_74, call7a⟩
  have z_75 := c_74.size
  rw [hnum.2.2.1]
  refine dInt_i ?_
  have h_79 := b_54.ch ((c_62.app c_68).app c_74) (by simp)
  refine st_t h_79 rfl (by simp) fun s88 b_76 c_77o z_78 => ?_
  have c_77 := on_ch h_79 c_77o
  refine st_t b_76 rfl (by simp) fun s89 b_80 c_81o z_82 => ?_
  have c_81 := on_ch b_76 c_81o
  refine ⟨fun vs H' => ∃ s' : TH, s'.h = H' ∧ ∃ i, vs = [.int .i64 i] ∧ Ch [M + 2, M + 10] s89 s' ∧ (∃ k : Nat, i = k ∧ k ≤ 4 ∧ Blk s' r69 [.int .i64 (m : Int), .int .i64 (l : Int), .int .i64 (z : Int), .int .i64 ((if 0 < k then d0 else 0 : Nat) : Int), .int .i64 ((if 1 < k then d1 else 0 : Nat) : Int), .int .i64 ((if 2 < k then d2 else 0 : Nat) : Int), .int .i64 ((if 3 < k then d3 else 0 : Nat) : Int), .int .i64 0, .int .i64 0] 26 (M + 2) ∧ Blk s' rcall3 [.slice acall3 32 ccall3, .int .i64 ((8 + 2 * k : Nat) : Int), .int .i64 0, .bool true] 209 (M + 10)), fun vs H' => match vs with | [.int .i64 i] => (4 - i).toNat | _ => 0, ⟨s89, rfl, _, rfl, Ch.refl _ _, ?_⟩, ?_⟩
  ·
    have h_83 := call7a.ch (c_77.app c_81) (by simp)
    exact ⟨0, rfl, by omega, b_80, h_83⟩
  ·
    intro i _ _ _ _ _ _ _ _ _ H_ hI_85
    obtain ⟨s_84, rfl, i_, hvs, c_86, k, rfl, hk, hb1, hb2⟩ := hI_85
    cases hvs
    have z_87 := c_86.size
    refine sB_d (fun hsB4 => ?_) (fun hsB4 => ?_)
    ·
      have h_88 := h_70.mv (((c_74.app c_77).app c_81).app c_86) (tagn (by simp))
      refine tcall (c_wtake rcall3 ccall3 (8 + 2 * k) 2 _ hb2 h_88 hxl call3c (by omega) (by omega) (by omega) (by omega) (by omega)) ?_
      rintro v_90 s_89 ⟨rfl, c_92, call8a⟩
      have z_93 := c_92.size
      rw [hnum.2.2.2.1 k (by omega)]
      have ea : Addr.add (Addr.mk r69 3 none) (Int.toNat (k : Int) * 1) = ⟨r69, 3 + k, none⟩ := by simp [Addr.add]
      simp only [ea]
      refine dInt_i ?_
      refine ask_t (by omega) ?_
      have h_97 := hb1.ch c_92 (by simp)
      refine st_t h_97 rfl (by simp; omega) fun s107 b_94 c_95o z_96 => ?_
      have c_95 := on_ch h_97 c_95o
      refine wr_t (by omega) ?_
      refine ⟨⟨s107, rfl, _, rfl, ((((Ch.refl [M + 2, M + 10] s89).ch c_86 (by simp)).ch c_92 (by simp)).ch c_95 (by simp)), ?_⟩, ?_⟩
      ·
        have h_98 := call8a.ch c_95 (by simp)
        have hb3 := b_94
        exact ⟨k + 1, by omega, by omega, by rcases (by omega : k = 0 ∨ k = 1 ∨ k = 2 ∨ k = 3) with rfl | rfl | rfl | rfl <;> exact hb3, h_98⟩
      ·
        simp <;> omega
    ·
      obtain rfl : k = 4 := by omega
      have h_99 := h_70.mv (((c_74.app c_77).app c_81).app c_86) (tagn (by simp))
      refine tcall (c_wtake rcall3 ccall3 (8 + 2 * 4) 2 _ hb2 h_99 hxl call3c (by omega) (by omega) (by omega) (by omega) (by omega)) ?_
      rintro v_101 s_100 ⟨rfl, c_103, call9a⟩
      have z_104 := c_103.size
      rw [hnum.2.2.2.2.1]
      refine dInt_i ?_
      have h_105 := h_99.mv c_103 (tagn (by simp))
      refine tcall (c_wtake rcall3 ccall3 (8 + 2 * 4 + 2) 2 _ call9a h_105 hxl call3c (by omega) (by omega) (by omega) (by omega) (by omega)) ?_
      rintro v_107 s_106 ⟨rfl, c_109, call10a⟩
      have z_110 := c_109.size
      rw [hnum.2.2.2.2.2]
      refine dInt_i ?_
      have h_114 := hb1.ch (c_103.app c_109) (by simp)
      refine st_t h_114 rfl (by simp) fun s117 b_111 c_112o z_113 => ?_
      have c_112 := on_ch h_114 c_112o
      refine st_t b_111 rfl (by simp) fun s118 b_115 c_116o z_117 => ?_
      have c_116 := on_ch b_111 c_116o
      refine ld_t b_115 rfl ?_
      refine ld_t b_115 rfl ?_
      refine ld_t b_115 rfl ?_
      refine ld_t b_115 rfl ?_
      refine ld_t b_115 rfl ?_
      refine ld_t b_115 rfl ?_
      refine ld_t b_115 rfl ?_
      refine ld_t b_115 rfl ?_
      refine ld_t b_115 rfl ?_
      refine tcall (c_lencDin (M + 10) m l z d0 d1 d2 d3 e1 e2 _ hv) ?_
      rintro v_119 s_118 ⟨acall11, ccall11, rfl, c_121, call11a⟩
      have z_122 := c_121.size
      refine dT2 ?_
      refine dSl_i ?_
      refine dInt_i ?_
      refine jn_u ?_
      refine sB_f (by rfl) ?_
      have h_123 := h_16.mv ((((((((((((((((((((((c_20.app c_25).app c_28).app c_31).app c_34).app c_37).app c_40).app c_43).app c_46).app c_49).app c_52).app c_55).app c_62).app c_68).app c_74).app c_77).app c_81).app c_86).app c_103).app c_109).app c_112).app c_116).app c_121) (tagn (by simp <;> omega))
      refine tcall (c_lsame _ _ (call11a).sl hxl (fun h => by have := (call11a).none_iff h; omega) h_123 hxl (fun h => absurd h hne)) ?_
      rintro v_125 s_124 ⟨rfl, c_127⟩
      have z_128 := c_127.size
      rw [decide_eq_true rfl]
      refine dBl_i ?_
      intro _
      intros
      refine dBl_i ?_
      refine sB_f (by rfl) ?_
      have h_129 := b_115.ch (c_121.app c_127) (by simp)
      refine ld_t h_129 rfl ?_
      refine ld_t h_129 rfl ?_
      refine ld_t h_129 rfl ?_
      refine ld_t h_129 rfl ?_
      refine ld_t h_129 rfl ?_
      refine ld_t h_129 rfl ?_
      refine ld_t h_129 rfl ?_
      refine ld_t h_129 rfl ?_
      refine ld_t h_129 rfl ?_
      have h_133 := b_1.ch (((((((((((((((((((((((((c_8.app c_14).app c_20).app c_25).app c_28).app c_31).app c_34).app c_37).app c_40).app c_43).app c_46).app c_49).app c_52).app c_55).app c_62).app c_68).app c_74).app c_77).app c_81).app c_86).app c_103).app c_109).app c_112).app c_116).app c_121).app c_127) (by simp)
      refine st_t h_133 rfl (by simp) fun s173 b_130 c_131o z_132 => ?_
      have c_131 := on_ch h_133 c_131o
      refine st_t b_130 rfl (by simp) fun s174 b_134 c_135o z_136 => ?_
      have c_135 := on_ch b_130 c_135o
      refine st_t b_134 rfl (by simp) fun s175 b_137 c_138o z_139 => ?_
      have c_138 := on_ch b_134 c_138o
      refine st_t b_137 rfl (by simp) fun s176 b_140 c_141o z_142 => ?_
      have c_141 := on_ch b_137 c_141o
      refine st_t b_140 rfl (by simp) fun s177 b_143 c_144o z_145 => ?_
      have c_144 := on_ch b_140 c_144o
      refine st_t b_143 rfl (by simp) fun s178 b_146 c_147o z_148 => ?_
      have c_147 := on_ch b_143 c_147o
      refine st_t b_146 rfl (by simp) fun s179 b_149 c_150o z_151 => ?_
      have c_150 := on_ch b_146 c_150o
      refine st_t b_149 rfl (by simp) fun s180 b_152 c_153o z_154 => ?_
      have c_153 := on_ch b_149 c_153o
      refine st_t b_152 rfl (by simp) fun s181 b_155 c_156o z_157 => ?_
      have c_156 := on_ch b_152 c_156o
      refine ld_t b_155 rfl ?_
      refine ld_t b_155 rfl ?_
      refine ld_t b_155 rfl ?_
      refine ld_t b_155 rfl ?_
      refine ld_t b_155 rfl ?_
      refine ld_t b_155 rfl ?_
      refine ld_t b_155 rfl ?_
      refine ld_t b_155 rfl ?_
      refine ld_t b_155 rfl ?_
      refine ret_t ?_
      exact ⟨rfl, (((((((((((((((((((((((((((((((((((((Ch.refl [] s).ch c_2 (by simp)).ch c_8 (by simp)).ch c_14 (by simp)).ch c_20 (by simp)).fr c_25 hM (by simp)).ch c_28 (by simp)).fr c_31 hM (by simp)).fr c_34 hM (by simp)).fr c_37 hM (by simp)).fr c_40 hM (by simp)).fr c_43 hM (by simp)).fr c_46 hM (by simp)).fr c_49 hM (by simp)).fr c_52 hM (by simp)).fr c_55 hM (by simp)).fr c_62 hM (by simp)).fr c_68 hM (by simp)).fr c_74 hM (by simp)).fr c_77 hM (by simp)).fr c_81 hM (by simp)).fr c_86 hM (by simp)).fr c_103 hM (by simp)).fr c_109 hM (by simp)).fr c_112 hM (by simp)).fr c_116 hM (by simp)).ch c_121 (by simp)).ch c_127 (by simp)).fr c_131 hM (by simp)).fr c_135 hM (by simp)).fr c_138 hM (by simp)).fr c_141 hM (by simp)).fr c_144 hM (by simp)).fr c_147 hM (by simp)).fr c_150 hM (by simp)).fr c_153 hM (by simp)).fr c_156 hM (by simp))⟩
/-- a word of two bytes -/
def w16 (l : List UInt8) (k : Nat) : Nat := (l.getD (2 * k) 0).toNat + 256 * (l.getD (2 * k + 1) 0).toNat
theorem w16_zero (k : Nat) : w16 zB128 k = 0 := by
  unfold w16 zB128
  have h : ∀ j : Nat, (List.replicate 128 (0 : UInt8)).getD j 0 = 0 := fun j => by
    rw [List.getD_eq_getElem?_getD, List.getElem?_replicate]
    split <;> rfl
  rw [h, h]; rfl
/-- an inode -/
structure DinM where
  m : Nat
  l : Nat
  z : Nat
  d0 : Nat
  d1 : Nat
  d2 : Nat
  d3 : Nat
  e1 : Nat
  e2 : Nat
def DinM.top (D : DinM) : Nat → Nat
  | 0 => D.d0
  | 1 => D.d1
  | 2 => D.d2
  | 3 => D.d3
  | 4 => D.e1
  | _ => D.e2
def DinM.put (D : DinM) (k b : Nat) : DinM := match k with
  | 0 => { D with d0 := b }
  | 1 => { D with d1 := b }
  | 2 => { D with d2 := b }
  | 3 => { D with d3 := b }
  | 4 => { D with e1 := b }
  | _ => { D with e2 := b }
/-- an address in an indirect block; 0 of none -/
def in16 (now : Nat → List UInt8) (b k : Nat) : Nat := if b = 0 then 0 else w16 (now b) k
inductive Pos where
  | top (k : Nat)
  | one (j : Nat)
  | two (j : Nat)
  | thr (j k : Nat)
  deriving DecidableEq
def Pos.ok : Pos → Prop
  | .top k => k < 6
  | .one j => j < 64
  | .two j => j < 64
  | .thr j k => j < 64 ∧ k < 64
def slot (now : Nat → List UInt8) (D : DinM) : Pos → Nat
  | .top k => D.top k
  | .one j => in16 now (D.top 4) j
  | .two j => in16 now (D.top 5) j
  | .thr j k => in16 now (in16 now (D.top 5) j) k
/-- does a place hold an indirect block's address? -/
def Pos.fan : Pos → Prop
  | .top k => 4 ≤ k
  | .two _ => True
  | _ => False
def FanOk (l : List UInt8) : Prop := l.length = 128 ∧ ∀ k, k < 64 → w16 l k < 2048
theorem FanOk.zero : FanOk zB128 := ⟨zB128_len, fun k _ => by rw [w16_zero]; decide⟩
structure TreeOk (now : Nat → List UInt8) (D : DinM) (al : Nat → Prop) : Prop where
  inj : ∀ p q, Pos.ok p → Pos.ok q → slot now D p ≠ 0 → slot now D p = slot now D q → p = q
  alc : ∀ p, Pos.ok p → slot now D p ≠ 0 → al (slot now D p)
  fan : ∀ p, Pos.ok p → p.fan → slot now D p ≠ 0 → FanOk (now (slot now D p))
section
variable {now now' : Nat → List UInt8} {D : DinM} {al : Nat → Prop}
theorem in16_same {b k : Nat} (h : b ≠ 0 → now' b = now b) : in16 now' b k = in16 now b k := by
  unfold in16
  by_cases e : b = 0
  · rw [if_pos e, if_pos e]
  · rw [if_neg e, if_neg e, h e]
/-- nothing of the tree has turned -/
theorem slot_same (h : TreeOk now D al) (hs : ∀ x, al x → now' x = now x) : ∀ q, q.ok → slot now' D q = slot now D q := by
  have hE1 : D.top 4 ≠ 0 → now' (D.top 4) = now (D.top 4) := fun e => hs _ (h.alc (.top 4) (show 4 < 6 by decide) e)
  have hE2 : D.top 5 ≠ 0 → now' (D.top 5) = now (D.top 5) := fun e => hs _ (h.alc (.top 5) (show 5 < 6 by decide) e)
  intro q hq
  cases q with
  | top k => rfl
  | one j => exact in16_same hE1
  | two j => exact in16_same hE2
  | thr j k =>
    show in16 now' (in16 now' (D.top 5) j) k = in16 now (in16 now (D.top 5) j) k
    rw [in16_same hE2]
    exact in16_same fun e => hs _ (h.alc (.two j) hq.1 e)
theorem TreeOk.same (h : TreeOk now D al) {al' : Nat → Prop} (hs : ∀ x, al x → now' x = now x) (ha : ∀ x, al x → al' x) : TreeOk now' D al' where
  inj p q hp hq h0 he := by rw [slot_same h hs p hp] at h0 he; rw [slot_same h hs q hq] at he; exact h.inj p q hp hq h0 he
  alc p hp h0 := by rw [slot_same h hs p hp] at h0 ⊢; exact ha _ (h.alc p hp h0)
  fan p hp hf h0 := by rw [slot_same h hs p hp] at h0 ⊢; rw [hs _ (h.alc p hp h0)]; exact h.fan p hp hf h0
end
def zB32b : List UInt8 := List.replicate 32 0
/-- an inode's bytes -/
def dinB (D : DinM) : List UInt8 := if D.m = 0 then zB32b else dinL D.m D.l D.z D.d0 D.d1 D.d2 D.d3 D.e1 D.e2
def DinM.ok (D : DinM) : Prop := D = ⟨0, 0, 0, 0, 0, 0, 0, 0, 0⟩ ∨ DinOk D.m D.l D.z D.d0 D.d1 D.d2 D.d3 D.e1 D.e2
theorem dinB_len (D : DinM) : (dinB D).length = 32 := by unfold dinB; split; exact List.length_replicate; exact dinL_len _ _ _ _ _ _ _ _ _
theorem cut_over {l x : List UInt8} {p q : Nat} (hl : l.length = 128) (hx : x.length = 32) (hp : p + 32 ≤ 128) (hq : q + 32 ≤ 128) (hpq : p = q ∨ p + 32 ≤ q ∨ q + 32 ≤ p) : ((overlay l p x).drop q).take 32 = if p = q then x else (l.drop q).take 32 := by
  apply List.ext_getElem?
  intro j
  rw [List.getElem?_take]
  by_cases hj : j < 32
  · rw [if_pos hj, List.getElem?_drop, overlay_get (by rw [hx, hl]; exact hp), hx]
    by_cases e : p = q
    · subst e; rw [if_pos ⟨by omega, by omega⟩, if_pos rfl, Nat.add_sub_cancel_left]
    · rw [if_neg (by omega), if_neg e, List.getElem?_take, if_pos hj, List.getElem?_drop]
  · rw [if_neg hj]
    split
    · rw [List.getElem?_eq_none (by omega)]
    · rw [List.getElem?_take, if_neg hj]
/-- bollard/layout.DecodeDinode -/
theorem c_ldecDin0 {xa : Option Addr} (xc : Nat) {l : List UInt8} {τx : Nat} {s : TH} (hx : Sl s xa (bvs l) τx) (hn : l.length = 32) (h0 : ∀ b ∈ l, b = 0) : TRet Tryz.prog 24 #[.slice xa 32 xc] s fun v s' => v = .tuple #[.agg #[.int .i64 0, .int .i64 0, .int .i64 0, .int .i64 0, .int .i64 0, .int .i64 0, .int .i64 0, .int .i64 0, .int .i64 0], .int .i64 0] ∧ Ch [] s s' := by
  obtain ⟨M, hM, hM0, hMa, hMb, hMc, hMd, hMe, hMf⟩ := fresh6 s τx 0 0 0 0 0
  refine F24_calls _ _ _  ?_
  unfold F24
  refine al_t (M + 1) fun r1 s2 hr1 b_1 c_2 z_3 => ?_
  refine sB_f (by rfl) ?_
  have h_4 := hx.mv c_2 (tagn (by simp))
  refine tcall (c_lzero (xn := 32) xc h_4 hn (by omega)) ?_
  rintro v_6 s_5 ⟨bcall1, rfl, c_8, call1a⟩
  have z_9 := c_8.size
  obtain rfl := call1a.2 h0
  refine dBl_i ?_
  refine sB_t (by rfl) ?_
  have h_13 := b_1.ch c_8 (by simp)
  refine st_t h_13 rfl (by simp) fun s24 b_10 c_11o z_12 => ?_
  have c_11 := on_ch h_13 c_11o
  refine st_t b_10 rfl (by simp) fun s25 b_14 c_15o z_16 => ?_
  have c_15 := on_ch b_10 c_15o
  refine st_t b_14 rfl (by simp) fun s26 b_17 c_18o z_19 => ?_
  have c_18 := on_ch b_14 c_18o
  refine st_t b_17 rfl (by simp) fun s27 b_20 c_21o z_22 => ?_
  have c_21 := on_ch b_17 c_21o
  refine st_t b_20 rfl (by simp) fun s28 b_23 c_24o z_25 => ?_
  have c_24 := on_ch b_20 c_24o
  refine st_t b_23 rfl (by simp) fun s29 b_26 c_27o z_28 => ?_
  have c_27 := on_ch b_23 c_27o
  refine st_t b_26 rfl (by simp) fun s30 b_29 c_30o z_31 => ?_
  have c_30 := on_ch b_26 c_30o
  refine st_t b_29 rfl (by simp) fun s31 b_32 c_33o z_34 => ?_
  have c_33 := on_ch b_29 c_33o
  refine st_t b_32 rfl (by simp) fun s32 b_35 c_36o z_37 => ?_
  have c_36 := on_ch b_32 c_36o
  refine ld_t b_35 rfl ?_
  refine ld_t b_35 rfl ?_
  refine ld_t b_35 rfl ?_
  refine ld_t b_35 rfl ?_
  refine ld_t b_35 rfl ?_
  refine ld_t b_35 rfl ?_
  refine ld_t b_35 rfl ?_
  refine ld_t b_35 rfl ?_
  refine ld_t b_35 rfl ?_
  refine ret_t ?_
  exact ⟨rfl, ((((((((((((Ch.refl [] s).ch c_2 (by simp)).ch c_8 (by simp)).fr c_11 hM (by simp)).fr c_15 hM (by simp)).fr c_18 hM (by simp)).fr c_21 hM (by simp)).fr c_24 hM (by simp)).fr c_27 hM (by simp)).fr c_30 hM (by simp)).fr c_33 hM (by simp)).fr c_36 hM (by simp))⟩
theorem dinB_ok {m l z d0 d1 d2 d3 e1 e2 : Nat} (h : DinOk m l z d0 d1 d2 d3 e1 e2) : dinB ⟨m, l, z, d0, d1, d2, d3, e1, e2⟩ = (dinL m l z d0 d1 d2 d3 e1 e2) := by
  have h2 := h
  unfold DinOk at h2
  unfold dinB
  exact if_neg (by show m ≠ 0; omega)
theorem zB32b_zero : ∀ b ∈ zB32b, b = 0 := fun b hb => (List.mem_replicate.1 hb).2
theorem c_ldecDin (m l z d0 d1 d2 d3 e1 e2 : Nat) {xa : Option Addr} (xc : Nat) {τx : Nat} {s : TH} (hx : Sl s xa (bvs (dinB ⟨m, l, z, d0, d1, d2, d3, e1, e2⟩)) τx) (hne : xa ≠ none) (hc : 32 ≤ xc) (hD : DinM.ok ⟨m, l, z, d0, d1, d2, d3, e1, e2⟩) : TRet Tryz.prog 24 #[.slice xa 32 xc] s (fun v s' => v = .tuple #[.agg #[.int .i64 (m : Int), .int .i64 (l : Int), .int .i64 (z : Int), .int .i64 (d0 : Int), .int .i64 (d1 : Int), .int .i64 (d2 : Int), .int .i64 (d3 : Int), .int .i64 (e1 : Int), .int .i64 (e2 : Int)], .int .i64 0] ∧ Ch [] s s') := by
  rcases hD with hD | hD
  · injection hD with e0 e1 e2 e3 e4 e5 e6 e7 e8
    subst e0 e1 e2 e3 e4 e5 e6 e7 e8
    exact c_ldecDin0 xc hx List.length_replicate zB32b_zero
  · rw [dinB_ok hD] at hx
    exact c_ldecDinV m l z d0 d1 d2 d3 e1 e2 xc hx hne hc hD
theorem c_lencDinB (τ m l z d0 d1 d2 d3 e1 e2 : Nat) (s : TH) (hD : DinM.ok ⟨m, l, z, d0, d1, d2, d3, e1, e2⟩) : TRet Tryz.prog 25 #[.agg #[.int .i64 (m : Int), .int .i64 (l : Int), .int .i64 (z : Int), .int .i64 (d0 : Int), .int .i64 (d1 : Int), .int .i64 (d2 : Int), .int .i64 (d3 : Int), .int .i64 (e1 : Int), .int .i64 (e2 : Int)]] s (fun v s' => ∃ a' c', v = .tuple #[.slice a' 32 c', .int .i64 0] ∧ Ch [] s s' ∧ Own s' a' 32 c' 5 1 (bvs (dinB ⟨m, l, z, d0, d1, d2, d3, e1, e2⟩)) τ) := by
  rcases hD with hD | hD
  · injection hD with e0 e1 e2 e3 e4 e5 e6 e7 e8
    subst e0 e1 e2 e3 e4 e5 e6 e7 e8
    exact c_lencDin0 τ s
  · rw [dinB_ok hD]
    exact c_lencDin τ m l z d0 d1 d2 d3 e1 e2 s hD
/-- where an inode lies -/
def ibN (B N i : Nat) : Nat := i / N * B + (2 + i % N / 4)
def iaN (N i : Nat) : Nat := i % N % 4 * 32
theorem ib_eq (B N i : Nat) : (i : Int) / (N : Int) * (B : Int) + (2 + (i : Int) % (N : Int) / 4) = ((ibN B N i : Nat) : Int) := by
  unfold ibN
  rw [Int.natCast_add, Int.natCast_mul, Int.natCast_ediv, Int.natCast_add, Int.natCast_ediv, Int.natCast_emod]; rfl
theorem ia_eq (N i : Nat) : (i : Int) % (N : Int) % 4 * 32 = ((iaN N i : Nat) : Int) := by
  unfold iaN
  rw [Int.natCast_mul, Int.natCast_emod, Int.natCast_emod]; rfl
theorem ia_le (N i : Nat) : iaN N i + 32 ≤ 128 := by unfold iaN; have := Nat.mod_lt (i % N) (show 0 < 4 by decide); omega
theorem ib_lt {G B N i : Nat} (hg : GeoOk G B N) (hi : i < G * N) : i / N < G ∧ 2 + i % N / 4 < 2 + N / 4 ∧ ibN B N i < G * B := by
  unfold GeoOk at hg
  have h1 : i / N < G := Nat.div_lt_of_lt_mul (by rw [Nat.mul_comm]; exact hi)
  have h2 : i % N < N := Nat.mod_lt _ (by omega)
  have h3 : (i / N + 1) * B ≤ G * B := Nat.mul_le_mul_right B h1
  rw [Nat.succ_mul] at h3
  unfold ibN
  omega
theorem has_ib {V : VolM} {G B N i : Nat} (hg : GeoOk G B N) (hl : V.D.blocks.length = G * B) (hi : i < G * N) : V.D.has ((ibN B N i : Nat) : Int) := by
  have := (ib_lt hg hi).2.2
  unfold DiskM.has
  rw [hl]; omega
theorem cut_none {s : TH} {xa : Option Addr} {l : List UInt8} {τ : Nat} (h : Sl s xa (bvs l) τ) (p c : Nat) (hp : p < l.length) (hpc : c ≠ p) {Q : Prop} (e : slO xa 1 (p : Int) (c : Int) = none) : Q := by
  obtain ⟨g, o, e2, h2⟩ := sl_cutB h p c hp hpc
  rw [e2] at e; cases e
/-- bollard/inode.fine -/
theorem c_ifine (vp d U : Nat) (V : VolM) (G B N : Nat) (s : TH) (hv : VolL s vp d U V 0) (hU : 10 ≤ U) (hg : GeoOk G B N) (hl : V.D.blocks.length = G * B) (hvn : V.n < 1000000000000) : TRet Tryz.prog 39 #[.pointer (some ⟨vp, 0, none⟩), .agg #[.int .i64 (G : Int), .int .i64 (B : Int), .int .i64 (N : Int)]] s fun v s' => v = .int .i64 0 ∧ Ch [U] s s' ∧ VolL s' vp d U V 0 := by
  have hcan := hg.can
  have hg2 := hg
  unfold GeoOk at hg2
  have hgb := hg.gb
  have hgbI : (G : Int) * (B : Int) = ((G * B : Nat) : Int) := (Int.natCast_mul G B).symm
  have hgnI : (G : Int) * (N : Int) = ((G * N : Nat) : Int) := (Int.natCast_mul G N).symm
  obtain ⟨M, hM, hM0, hMa, hMb, hMc, hMd, hMe, hMf⟩ := fresh6 s (U + 50) 0 0 0 0 0
  refine F39_calls _ _ _ _  ?_
  unfold F39
  refine al_t (M + 1) fun r1 s2 hr1 b_1 c_2 z_3 => ?_
  have h_4 := hv.mv c_2 (rngn50 (by simp))
  refine tcall (c_VBlocks2 _ _ _ _ _ (by omega) h_4) ?_
  rintro v_6 s_5 ⟨rfl, c_8, call1a⟩
  have z_9 := c_8.size
  refine dInt_i ?_
  refine sB_d (fun hsB1 => by exfalso; omega) (fun hsB1 => ?_)
  refine jn_u ?_
  have h_10 := b_1.ch c_8 (by simp <;> omega)
  refine ld_t h_10 rfl ?_
  refine ld_t h_10 rfl ?_
  refine ld_t h_10 rfl ?_
  refine tcall (gc_can (G : Int) (B : Int) (N : Int) _) ?_
  rintro v_12 s_11 ⟨rfl, c_14⟩
  have z_15 := c_14.size
  rw [if_pos hcan]
  refine dInt_i ?_
  refine sB_f (by rfl) ?_
  have h_16 := h_10.ch c_14 (by simp)
  refine ld_t h_16 rfl ?_
  refine ld_t h_16 rfl ?_
  refine ld_t h_16 rfl ?_
  have h_17 := call1a.mv c_14 (rngn50 (by simp))
  refine tcall (c_VBlocks2 _ _ _ _ _ (by omega) h_17) ?_
  rintro v_19 s_18 ⟨rfl, c_21, call3a⟩
  have z_22 := c_21.size
  refine dInt_i ?_
  refine ⟨?_, ?_⟩
  ·
    have h_23 := h_16.ch c_21 (by simp <;> omega)
    refine ld_t h_23 rfl ?_
    refine ld_t h_23 rfl ?_
    refine ld_t h_23 rfl ?_
    rfl
  ·
    refine tcall (gc_blocks (G : Int) (B : Int) (N : Int) hcan _) ?_
    rintro v_25 s_24 ⟨rfl, c_27⟩
    have z_28 := c_27.size
    refine dInt_i ?_
    intro _
    intros
    refine dBl_i ?_
    refine sB_d (fun hsB3 => by exfalso; omega) (fun hsB3 => ?_)
    refine ret_t ?_
    have h_29 := call3a.mv c_27 (rngn50 (by simp))
    exact ⟨rfl, ((((((Ch.refl [U] s).ch c_2 (by simp)).ch c_8 (by simp)).ch c_14 (by simp)).ch c_21 (by simp)).ch c_27 (by simp)), h_29⟩
/-- bollard/inode.place -/
theorem c_iplace (vp d U : Nat) (V : VolM) (G B N : Nat) (i : Nat) (s : TH) (hv : VolL s vp d U V 0) (hU : 10 ≤ U) (hg : GeoOk G B N) (hl : V.D.blocks.length = G * B) (hvn : V.n < 1000000000000) (hi : i < G * N) : TRet Tryz.prog 22 #[.pointer (some ⟨vp, 0, none⟩), .agg #[.int .i64 (G : Int), .int .i64 (B : Int), .int .i64 (N : Int)], .int .i64 (i : Int)] s fun v s' => v = .tuple #[.int .i64 (ibN B N i : Int), .int .i64 (iaN N i : Int), .int .i64 0] ∧ Ch [U] s s' ∧ VolL s' vp d U V 0 := by
  have hcan := hg.can
  have hg2 := hg
  unfold GeoOk at hg2
  have hgb := hg.gb
  have hgbI : (G : Int) * (B : Int) = ((G * B : Nat) : Int) := (Int.natCast_mul G B).symm
  have hgnI : (G : Int) * (N : Int) = ((G * N : Nat) : Int) := (Int.natCast_mul G N).symm
  obtain ⟨M, hM, hM0, hMa, hMb, hMc, hMd, hMe, hMf⟩ := fresh6 s (U + 50) 0 0 0 0 0
  refine F22_calls _ _ _ _ _  ?_
  unfold F22
  refine al_t (M + 1) fun r1 s2 hr1 b_1 c_2 z_3 => ?_
  refine ld_t b_1 rfl ?_
  refine ld_t b_1 rfl ?_
  refine ld_t b_1 rfl ?_
  have h_4 := hv.mv c_2 (rngn50 (by simp))
  refine tcall (c_ifine vp d U V G B N _ h_4 hU hg hl hvn) ?_
  rintro v_6 s_5 ⟨rfl, c_8, call1a⟩
  have z_9 := c_8.size
  refine dInt_i ?_
  refine sB_f (by rfl) ?_
  have h_10 := b_1.ch c_8 (by simp <;> omega)
  refine ld_t h_10 rfl ?_
  refine ld_t h_10 rfl ?_
  refine ld_t h_10 rfl ?_
  refine tcall (gc_inode (G : Int) (B : Int) (N : Int) (i : Int) hcan (by rw [hgnI]; omega) _) ?_
  rintro v_12 s_11 ⟨rfl, c_14⟩
  have z_15 := c_14.size
  rw [ib_eq, ia_eq]
  refine dT3 ?_
  refine dInt_i ?_
  refine dInt_i ?_
  refine dBl_i ?_
  refine sB_f (by rfl) ?_
  refine ret_t ?_
  have h_16 := call1a.mv c_14 (rngn50 (by simp))
  exact ⟨rfl, ((((Ch.refl [U] s).ch c_2 (by simp)).ch c_8 (by simp)).ch c_14 (by simp)), h_16⟩
/-- bollard/inode.Get -/
theorem c_iget (vp d U : Nat) (V : VolM) (G B N : Nat) (i : Nat) (m l z d0 d1 d2 d3 e1 e2 : Nat) (s : TH) (hv : VolL s vp d U V 0) (hU : 10 ≤ U) (hg : GeoOk G B N) (hl : V.D.blocks.length = G * B) (hvn : V.n < 1000000000000) (hi : i < G * N) (hD : DinM.ok ⟨m, l, z, d0, d1, d2, d3, e1, e2⟩) (hnow : ((V.now (ibN B N i : Int)).drop (iaN N i)).take 32 = dinB ⟨m, l, z, d0, d1, d2, d3, e1, e2⟩) : TRet Tryz.prog 8 #[.pointer (some ⟨vp, 0, none⟩), .agg #[.int .i64 (G : Int), .int .i64 (B : Int), .int .i64 (N : Int)], .int .i64 (i : Int)] s fun v s' => v = .tuple #[.agg #[.int .i64 (m : Int), .int .i64 (l : Int), .int .i64 (z : Int), .int .i64 (d0 : Int), .int .i64 (d1 : Int), .int .i64 (d2 : Int), .int .i64 (d3 : Int), .int .i64 (e1 : Int), .int .i64 (e2 : Int)], .int .i64 0] ∧ Ch [U, U + 20, U + 21, U + 22, U + 23] s s' ∧ VolL s' vp d U V.tick 0 := by
  have hcan := hg.can
  have hg2 := hg
  unfold GeoOk at hg2
  have hgb := hg.gb
  have hgbI : (G : Int) * (B : Int) = ((G * B : Nat) : Int) := (Int.natCast_mul G B).symm
  have hgnI : (G : Int) * (N : Int) = ((G * N : Nat) : Int) := (Int.natCast_mul G N).symm
  have hhas := has_ib hg hl hi
  have hal := ia_le N i
  obtain ⟨M, hM, hM0, hMa, hMb, hMc, hMd, hMe, hMf⟩ := fresh6 s (U + 50) 0 0 0 0 0
  refine F8_calls _ _ _ _ _  ?_
  unfold F8
  refine al_t (M + 1) fun r1 s2 hr1 b_1 c_2 z_3 => ?_
  refine al_t (M + 2) fun r3 s4 hr3 b_4 c_5 z_6 => ?_
  have h_7 := b_1.ch c_5 (by simp)
  refine ld_t h_7 rfl ?_
  refine ld_t h_7 rfl ?_
  refine ld_t h_7 rfl ?_
  have h_8 := hv.mv (c_2.app c_5) (rngn50 (by simp))
  refine tcall (c_iplace vp d U V G B N i _ h_8 hU hg hl hvn hi) ?_
  rintro v_10 s_9 ⟨rfl, c_12, call1a⟩
  have z_13 := c_12.size
  refine dT3 ?_
  refine dInt_i ?_
  refine dInt_i ?_
  refine dInt_i ?_
  refine sB_f (by rfl) ?_
  refine tcall (c_VRead _ _ _ _ (M + 10) _ _ (by omega) call1a (by omega) hhas (by omega)) ?_
  rintro v_15 s_14 ⟨acall2, ccall2, rfl, c_17, call2a, call2b⟩
  have z_18 := c_17.size
  have hln : (V.now (ibN B N i : Int)).length = 128 := by have := (call2a).1; rw [bvs_len] at this; exact this
  have hcc := (call2a).le
  have hcut := sl_cutT (call2a).sl (iaN N i) ccall2 32 (by omega) (by omega)
  rw [hnow] at hcut
  refine dT2 ?_
  refine dSl_i ?_
  refine dInt_i ?_
  refine sB_f (by rfl) ?_
  refine wr_t (by omega) ?_
  refine ask_t (by omega) ?_
  rw [show Int.toNat ((iaN N i : Int) + 32) - Int.toNat (iaN N i : Int) = 32 by omega]
  refine tcall (c_ldecDin m l z d0 d1 d2 d3 e1 e2 _ hcut (fun e => cut_none (call2a).sl (iaN N i) ccall2 (by omega) (by omega) e) (by omega) hD) ?_
  rintro v_20 s_19 ⟨rfl, c_22⟩
  have z_23 := c_22.size
  refine dT2 ?_
  refine dA9 ?_
  refine dInt_i ?_
  have h_27 := b_4.ch ((c_12.app c_17).app c_22) (by simp <;> omega)
  refine st_t h_27 rfl (by simp) fun s75 b_24 c_25o z_26 => ?_
  have c_25 := on_ch h_27 c_25o
  refine st_t b_24 rfl (by simp) fun s76 b_28 c_29o z_30 => ?_
  have c_29 := on_ch b_24 c_29o
  refine st_t b_28 rfl (by simp) fun s77 b_31 c_32o z_33 => ?_
  have c_32 := on_ch b_28 c_32o
  refine st_t b_31 rfl (by simp) fun s78 b_34 c_35o z_36 => ?_
  have c_35 := on_ch b_31 c_35o
  refine st_t b_34 rfl (by simp) fun s79 b_37 c_38o z_39 => ?_
  have c_38 := on_ch b_34 c_38o
  refine st_t b_37 rfl (by simp) fun s80 b_40 c_41o z_42 => ?_
  have c_41 := on_ch b_37 c_41o
  refine st_t b_40 rfl (by simp) fun s81 b_43 c_44o z_45 => ?_
  have c_44 := on_ch b_40 c_44o
  refine st_t b_43 rfl (by simp) fun s82 b_46 c_47o z_48 => ?_
  have c_47 := on_ch b_43 c_47o
  refine st_t b_46 rfl (by simp) fun s83 b_49 c_50o z_51 => ?_
  have c_50 := on_ch b_46 c_50o
  refine ld_t b_49 rfl ?_
  refine ld_t b_49 rfl ?_
  refine ld_t b_49 rfl ?_
  refine ld_t b_49 rfl ?_
  refine ld_t b_49 rfl ?_
  refine ld_t b_49 rfl ?_
  refine ld_t b_49 rfl ?_
  refine ld_t b_49 rfl ?_
  refine ld_t b_49 rfl ?_
  refine ret_t ?_
  have h_52 := call2b.mv (((((((((c_22.app c_25).app c_29).app c_32).app c_35).app c_38).app c_41).app c_44).app c_47).app c_50) (rngn50 (by simp <;> omega))
  exact ⟨rfl, (((((((((((((((Ch.refl [U, U + 20, U + 21, U + 22, U + 23] s).ch c_2 (by simp)).ch c_5 (by simp)).ch c_12 (by simp)).ch c_17 (by simp)).ch c_22 (by simp)).fr c_25 hM (by simp)).fr c_29 hM (by simp)).fr c_32 hM (by simp)).fr c_35 hM (by simp)).fr c_38 hM (by simp)).fr c_41 hM (by simp)).fr c_44 hM (by simp)).fr c_47 hM (by simp)).fr c_50 hM (by simp)), h_52⟩
/-- bollard/inode.Put -/
theorem c_iput (vp d U : Nat) (V : VolM) (G B N : Nat) (i : Nat) (m l z d0 d1 d2 d3 e1 e2 : Nat) {na : Option Addr} {nn : Nat} (nc : Nat) {needs : List Int} {τn : Nat} (s : TH) (hv : VolL s vp d U V 0) (hU : 10 ≤ U) (hg : GeoOk G B N) (hl : V.D.blocks.length = G * B) (hvn : V.n < 1000000000000) (hi : i < G * N) (hlp : V.P.last < 900000) (hD : DinM.ok ⟨m, l, z, d0, d1, d2, d3, e1, e2⟩) (hN : Sl s na (ivs needs) τn) (hnn : needs.length = nn) (hnl : nn ≤ 1000) (hnd : ∀ n ∈ needs, 1 ≤ n ∧ n ≤ V.P.last) (hτn : τn < U ∨ U + 50 ≤ τn) : TRet Tryz.prog 9 #[.pointer (some ⟨vp, 0, none⟩), .agg #[.int .i64 (G : Int), .int .i64 (B : Int), .int .i64 (N : Int)], .int .i64 (i : Int), .agg #[.int .i64 (m : Int), .int .i64 (l : Int), .int .i64 (z : Int), .int .i64 (d0 : Int), .int .i64 (d1 : Int), .int .i64 (d2 : Int), .int .i64 (d3 : Int), .int .i64 (e1 : Int), .int .i64 (e2 : Int)], .slice na nn nc] s fun v s' => ∃ V', v = .tuple #[.int .i64 (V.P.last + 1), .int .i64 0] ∧ Ch [U, U + 3, U + 20, U + 21, U + 22, U + 23, U + 30, U + 32] s s' ∧ ChT V (ibN B N i : Int) (iaN N i : Int) (dinB ⟨m, l, z, d0, d1, d2, d3, e1, e2⟩) V' ∧ VolL s' vp d U V' 0 := by
  have hcan := hg.can
  have hg2 := hg
  unfold GeoOk at hg2
  have hgb := hg.gb
  have hgbI : (G : Int) * (B : Int) = ((G * B : Nat) : Int) := (Int.natCast_mul G B).symm
  have hgnI : (G : Int) * (N : Int) = ((G * N : Nat) : Int) := (Int.natCast_mul G N).symm
  have hhas := has_ib hg hl hi
  have hal := ia_le N i
  have hpk := hv.pokk
  have hp0 := hpk.lst
  have hch := change_t (V := V) (b := (ibN B N i : Int)) (o := (iaN N i : Int)) (y := dinB ⟨m, l, z, d0, d1, d2, d3, e1, e2⟩) (needs := needs) hpk hhas ⟨hhas.1, by omega, by rw [dinB_len]; omega, by omega, by rw [dinB_len]; omega⟩ hnd (by omega)
  obtain ⟨M, hM, hM0, hMa, hMb, hMc, hMd, hMe, hMf⟩ := fresh6 s (U + 50) τn 0 0 0 0
  refine F9_calls _ _ _ _ _ _ _ _ _ _ _ _ _ _ _ _ _  ?_
  unfold F9
  refine al_t (M + 1) fun r1 s2 hr1 b_1 c_2 z_3 => ?_
  refine al_t (M + 2) fun r3 s4 hr3 b_4 c_5 z_6 => ?_
  have h_7 := b_1.ch c_5 (by simp)
  refine ld_t h_7 rfl ?_
  refine ld_t h_7 rfl ?_
  refine ld_t h_7 rfl ?_
  have h_8 := hv.mv (c_2.app c_5) (rngn50 (by simp))
  refine tcall (c_iplace vp d U V G B N i _ h_8 hU hg hl hvn hi) ?_
  rintro v_10 s_9 ⟨rfl, c_12, call1a⟩
  have z_13 := c_12.size
  refine dT3 ?_
  refine dInt_i ?_
  refine dInt_i ?_
  refine dInt_i ?_
  refine sB_f (by rfl) ?_
  have h_14 := b_4.ch c_12 (by simp <;> omega)
  refine ld_t h_14 rfl ?_
  refine ld_t h_14 rfl ?_
  refine ld_t h_14 rfl ?_
  refine ld_t h_14 rfl ?_
  refine ld_t h_14 rfl ?_
  refine ld_t h_14 rfl ?_
  refine ld_t h_14 rfl ?_
  refine ld_t h_14 rfl ?_
  refine ld_t h_14 rfl ?_
  refine tcall (c_lencDinB (M + 10) m l z d0 d1 d2 d3 e1 e2 _ hD) ?_
  rintro v_16 s_15 ⟨acall2, ccall2, rfl, c_18, call2a⟩
  have z_19 := c_18.size
  refine dT2 ?_
  refine dSl_i ?_
  refine dInt_i ?_
  refine sB_f (by rfl) ?_
  have h_20 := hN.mv (((c_2.app c_5).app c_12).app c_18) (tagn (by simp <;> omega))
  have h_21 := call1a.mv c_18 (rngn50 (by simp))
  refine tcall (c_VChange _ _ _ _ _ _ _ _ _ (by omega) h_21 (call2a).sl (dinB_len _) h_20 hnn (by omega) (by omega) (by omega) (by omega)) ?_
  rintro v_23 s_22 ⟨rfl, c_25, call3a⟩
  have z_26 := c_25.size
  rw [hch.1, hch.2.1]
  refine dT2 ?_
  refine dInt_i ?_
  refine dInt_i ?_
  refine ret_t ?_
  exact ⟨_, rfl, ((((((Ch.refl [U, U + 3, U + 20, U + 21, U + 22, U + 23, U + 30, U + 32] s).ch c_2 (by simp)).ch c_5 (by simp)).ch c_12 (by simp)).ch c_18 (by simp)).ch c_25 (by simp)), hch.2.2, call3a⟩
/-- where a group's header lies -/
def hB (n B : Nat) : Int := (n : Int) * (B : Int) + 1
def VolM.tk (V : VolM) (k : Int) : VolM := { V with n := V.n + k }
theorem tk_tick (V : VolM) (k : Int) : (V.tk k).tick = V.tk (k + 1) := by unfold VolM.tk VolM.tick; simp only; rw [Int.add_assoc]
theorem tk_zero (V : VolM) : V.tk 0 = V := by unfold VolM.tk; rw [Int.add_zero]
/-- the groups' headers of a volume -/
structure AS (G B : Nat) (V : VolM) (A : Nat → List UInt8 × List UInt8) : Prop where
  len : V.D.blocks.length = G * B
  l8 : ∀ n, n < G → (A n).1.length = 8
  l32 : ∀ n, n < G → (A n).2.length = 32
  now : ∀ n, n < G → V.now (hB n B) = hdL n (A n).1 (A n).2
theorem AS.tk {G B : Nat} {V : VolM} {A : Nat → List UInt8 × List UInt8} (h : AS G B V A) (k : Int) : AS G B (V.tk k) A := ⟨h.len, h.l8, h.l32, h.now⟩
theorem fresh_now (bs : List (List UInt8)) (b : Int) : (VolM.fresh bs).now b = bs.getD b.toNat [] := rfl
def zeroD : DinM := ⟨0, 0, 0, 0, 0, 0, 0, 0, 0⟩
def rootD (N : Nat) : DinM := ⟨2, 2, 128, 2 + N / 4, 0, 0, 0, 0, 0⟩
/-- a new volume's inodes -/
def frD (N i : Nat) : DinM := if i = 2 then rootD N else zeroD
theorem zeroD_ok : zeroD.ok := .inl rfl
theorem frD_ok {G B N : Nat} (hg : GeoOk G B N) (i : Nat) : (frD N i).ok := by
  unfold GeoOk at hg
  unfold frD
  split
  · refine .inr ?_
    show DinOk 2 2 128 (2 + N / 4) 0 0 0 0 0
    unfold DinOk; omega
  · exact zeroD_ok
theorem mkL_dat {G B N : Nat} (h : 2 ≤ B) : ∀ (k : Nat) {n j : Nat}, n < k → 2 + j < B → (mkL G B N k)[n * B + (2 + j)]? = some zB128
  | 0, n, j, hn, _ => by omega
  | k + 1, n, j, hn, hj => by
    have hl := mkL_len (G := G) (N := N) h k
    by_cases e : n = k
    · subst e
      rw [mkL, List.getElem?_append_right (by omega), hl, Nat.add_sub_cancel_left, grpL, List.getElem?_append_right (by simp)]
      show (List.replicate (B - 2) zB128)[2 + j - 2]? = _
      rw [List.getElem?_replicate, if_pos (by omega)]
    · have h1 : (n + 1) * B ≤ k * B := Nat.mul_le_mul_right B (by omega)
      rw [Nat.succ_mul] at h1
      rw [mkL, List.getElem?_append_left (by omega)]
      exact mkL_dat h k (by omega) hj
theorem zcut (q : Nat) (hq : q + 32 ≤ 128) : (zB128.drop q).take 32 = zB32b := by
  unfold zB128 zB32b
  rw [List.drop_replicate, List.take_replicate, Nat.min_eq_left (by omega)]
theorem fresh_ino {G B N : Nat} (hg : GeoOk G B N) {i : Nat} (hi : i < G * N) : (((VolM.fresh (makeL G B N)).now (ibN B N i : Int)).drop (iaN N i)).take 32 = dinB (frD N i) := by
  have hib := ib_lt hg hi
  have hal := ia_le N i
  have hg2 := hg
  unfold GeoOk at hg2
  have h1 : i / N = 0 ∨ 1 * B ≤ i / N * B := by
    by_cases e : i / N = 0
    · exact .inl e
    · exact .inr (Nat.mul_le_mul_right B (Nat.pos_of_ne_zero e))
  have hmod : i % N < N := Nat.mod_lt _ (by omega)
  have hdm := Nat.div_add_mod i N
  have e2 : ibN B N i ≠ 2 + N / 4 := by
    unfold ibN
    rcases h1 with h1 | h1
    · rw [h1]; omega
    · omega
  have hmk : (mkL G B N G)[ibN B N i]? = some zB128 := by unfold ibN; exact mkL_dat (by omega) G hib.1 (by omega)
  rw [fresh_now, Int.toNat_natCast, List.getD_eq_getElem?_getD]
  unfold makeL
  rw [List.getElem?_set_ne (fun h => e2 h.symm)]
  by_cases e : ibN B N i = 2
  · have hq : i / N = 0 ∧ i % N / 4 = 0 := by
      unfold ibN at e
      rcases h1 with h1 | h1
      · rw [h1] at e; omega
      · omega
    have hi4 : i < 4 ∧ i % N = i := by rw [hq.1, Nat.mul_zero] at hdm; omega
    have hia : iaN N i = i * 32 := by unfold iaN; rw [hi4.2]; omega
    rw [e, List.getElem?_set_self (by rw [mkL_len (by omega)]; have := hib.2.2; rw [e] at this; exact this), Option.getD_some]
    unfold rootL
    rw [cut_over zB128_len (dinL_len _ _ _ _ _ _ _ _ _) (by omega) hal (by rw [hia]; omega), hia]
    by_cases e3 : i = 2
    · subst e3; rw [if_pos rfl]; rfl
    · rw [if_neg (by omega), zcut _ (by omega)]
      unfold frD; rw [if_neg e3]; rfl
  · rw [List.getElem?_set_ne (fun h => e h.symm), hmk, Option.getD_some, zcut _ hal]
    have e3 : i ≠ 2 := by
      intro h; subst h
      apply e
      unfold ibN
      rw [Nat.div_eq_of_lt (by omega), Nat.mod_eq_of_lt (by omega)]; omega
    unfold frD; rw [if_neg e3]; rfl
/-- the inodes' row, the first two set -/
def rk (l : List UInt8) : Nat → List UInt8
  | 0 => l
  | k + 1 => withB (rk l k) k true
def stK (i : Nat) : Nat := if i < 4 then i else if i < 68 then 4 else 5
def stW (i : Nat) : List Nat := if i < 4 then [] else if i < 68 then [i - 4] else [(i - 68) / 64, (i - 68) % 64]
theorem st2 {i : Nat} (h : ¬ i < 4) (h2 : i < 68) : stK i = 4 ∧ stW i = [i - 4] := by unfold stK stW; rw [if_neg h, if_neg h, if_pos h2, if_pos h2]; exact ⟨rfl, rfl⟩
def nowN (V : VolM) : Nat → List UInt8 := fun b => V.now (b : Int)
/-- what is read below an address can be read -/
def FanT (V : VolM) : Nat → Nat → Prop
  | 0, _ => True
  | d + 1, b => b ≠ 0 → V.D.has (b : Int) ∧ FanOk (nowN V b) ∧ ∀ k, k < 64 → FanT V d (w16 (nowN V b) k)
theorem FanT.tk {V : VolM} (t : Int) : ∀ {d b : Nat}, FanT V d b → FanT (V.tk t) d b
  | 0, _, _ => trivial
  | d + 1, b, h => fun h0 => ⟨(h h0).1, (h h0).2.1, fun k hk => FanT.tk t ((h h0).2.2 k hk)⟩
end Go.Proofs.YtklppdodadkcnaaGreat.E
