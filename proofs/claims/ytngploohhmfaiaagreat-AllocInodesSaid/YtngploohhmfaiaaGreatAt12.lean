/- My own texts, joined. -/
import Derived.ChangeArms
import Derived.DataReads
import Derived.Handed
import Derived.KernelRfl
import Derived.ProofKit
import Derived.Test.YtngploohhmfaiaaGreatProg
import Derived.WalkKit
import Derived.WideShapes
import Derived.Test.YtngploohhmfaiaaGreatAt11
/- Contracts of functions. -/
namespace Go.Proofs.YtngploohhmfaiaaGreat.E
open Go Go.Proofs Go.RowKit Go.Maps Go.Shelf Go.Sort
set_option linter.unusedVariables false
set_option linter.unusedSimpArgs false
theorem hasB_tb (l : List UInt8) (i : Nat) : hasB l i = (l.getD (i / 8) 0).toNat.testBit (i % 8) := by unfold hasB; rw [Nat.testBit_eq_decide_div_mod_eq]; rfl
theorem and1 (q : Nat) (h : q < 256) : IntKind.u8.wrap (BitVec.toNat (BitVec.ofInt 8 (q : Int) &&& BitVec.ofInt 8 1) : Int) = ((q % 2 : Nat) : Int) := by
  rw [BitVec.ofInt_natCast, show BitVec.ofInt 8 1 = BitVec.ofNat 8 1 from rfl, BitVec.toNat_and, BitVec.toNat_ofNat, BitVec.toNat_ofNat, Nat.mod_eq_of_lt (show q < 2 ^ 8 from h), show 1 % 2 ^ 8 = 1 from rfl, Nat.and_one_is_mod]
  show (((q % 2 : Nat)) : Int) % 256 = _
  omega
def clrB (b : UInt8) (k : Nat) : UInt8 := UInt8.ofBitVec (b.toBitVec &&& ~~~BitVec.ofNat 8 (2 ^ k))
def orB (b : UInt8) (k : Nat) : UInt8 := UInt8.ofBitVec (b.toBitVec ||| BitVec.ofNat 8 (2 ^ k))
theorem bvi (b : UInt8) : BitVec.ofInt 8 (b.toNat : Int) = b.toBitVec := by rw [BitVec.ofInt_natCast]; simp
theorem clr8 (b : UInt8) (k : Nat) : IntKind.u8.wrap (BitVec.toNat (BitVec.ofInt 8 (b.toNat : Int) &&& ~~~BitVec.ofInt 8 ((2 ^ k : Nat) : Int)) : Int) = ((clrB b k).toNat : Int) := by
  have e2 : BitVec.ofInt 8 ((2 ^ k : Nat) : Int) = BitVec.ofNat 8 (2 ^ k) := BitVec.ofInt_natCast 8 (2 ^ k)
  rw [bvi, e2]
  show (_ : Int) % 256 = _
  have := (b.toBitVec &&& ~~~BitVec.ofNat 8 (2 ^ k)).isLt
  unfold clrB
  show ((BitVec.toNat (b.toBitVec &&& ~~~BitVec.ofNat 8 (2 ^ k)) : Nat) : Int) % 256 = ((BitVec.toNat (b.toBitVec &&& ~~~BitVec.ofNat 8 (2 ^ k)) : Nat) : Int)
  omega
theorem or8 (b : UInt8) (k : Nat) : IntKind.u8.wrap (BitVec.toNat (BitVec.ofInt 8 (b.toNat : Int) ||| BitVec.ofInt 8 ((2 ^ k : Nat) : Int)) : Int) = ((orB b k).toNat : Int) := by
  have e2 : BitVec.ofInt 8 ((2 ^ k : Nat) : Int) = BitVec.ofNat 8 (2 ^ k) := BitVec.ofInt_natCast 8 (2 ^ k)
  rw [bvi, e2]
  show (_ : Int) % 256 = _
  have := (b.toBitVec ||| BitVec.ofNat 8 (2 ^ k)).isLt
  unfold orB
  show ((BitVec.toNat (b.toBitVec ||| BitVec.ofNat 8 (2 ^ k)) : Nat) : Int) % 256 = ((BitVec.toNat (b.toBitVec ||| BitVec.ofNat 8 (2 ^ k)) : Nat) : Int)
  omega
def setTo (b : UInt8) (k : Nat) (on : Bool) : UInt8 := if on = true then orB (clrB b k) k else clrB b k
theorem clrB_tb (b : UInt8) {k m : Nat} (hm : m < 8) : (clrB b k).toNat.testBit m = (b.toNat.testBit m && !decide (k = m)) := by
  show (b.toBitVec &&& ~~~BitVec.ofNat 8 (2 ^ k)).toNat.testBit m = _
  rw [BitVec.testBit_toNat, BitVec.getLsbD_and, BitVec.getLsbD_not, BitVec.getLsbD_ofNat, Nat.testBit_two_pow]
  simp [hm]
  rfl
theorem orB_tb (b : UInt8) {k m : Nat} (hm : m < 8) : (orB b k).toNat.testBit m = (b.toNat.testBit m || decide (k = m)) := by
  show (b.toBitVec ||| BitVec.ofNat 8 (2 ^ k)).toNat.testBit m = _
  rw [BitVec.testBit_toNat, BitVec.getLsbD_or, BitVec.getLsbD_ofNat, Nat.testBit_two_pow]
  simp [hm]
  rfl
theorem setTo_tb (b : UInt8) {k m : Nat} (on : Bool) (hm : m < 8) : (setTo b k on).toNat.testBit m = if m = k then on else b.toNat.testBit m := by
  unfold setTo
  cases on
  · rw [if_neg (by simp), clrB_tb b hm]
    by_cases e : m = k
    · rw [if_pos e, decide_eq_true e.symm]; simp
    · rw [if_neg e, decide_eq_false (fun h => e h.symm)]; simp
  · rw [if_pos rfl, orB_tb _ hm, clrB_tb b hm]
    by_cases e : m = k
    · rw [if_pos e, decide_eq_true e.symm]; simp
    · rw [if_neg e, decide_eq_false (fun h => e h.symm)]; simp
/-- a row with a bit set, or not -/
def withB (l : List UInt8) (i : Nat) (on : Bool) : List UInt8 := l.set (i / 8) (setTo (l.getD (i / 8) 0) (i % 8) on)
theorem withB_len (l : List UInt8) (i : Nat) (on : Bool) : (withB l i on).length = l.length := by simp [withB]
theorem hasB_with {l : List UInt8} {i : Nat} (h : i / 8 < l.length) (on : Bool) (j : Nat) : hasB (withB l i on) j = if j = i then on else hasB l j := by
  rw [hasB_tb, hasB_tb]
  unfold withB
  by_cases e : j / 8 = i / 8
  · rw [e, List.getD_eq_getElem?_getD, List.getElem?_set_self h, Option.getD_some, setTo_tb _ _ (Nat.mod_lt _ (by decide))]
    by_cases e2 : j = i
    · subst e2; rw [if_pos rfl, if_pos rfl]
    · rw [if_neg e2, if_neg (by omega)]
  · rw [List.getD_eq_getElem?_getD, List.getElem?_set_ne (by omega), ← List.getD_eq_getElem?_getD, if_neg (by intro h2; subst h2; exact e rfl)]
theorem max_i {P : Program} {ats : Array TypeId} {ty : TypeId} {E : List PanicEntry → Heap → Prop} {H : Heap} {K : Value → Heap → Prop} {a b : Int} (hk : K (.int .i64 (max a b)) H) :
    semW P (Builtin.max_ ats ty #[.int .i64 a, .int .i64 b]) E H K := .mk fun w hw => by
  have hr : (Builtin.max_ ats ty #[.int .i64 a, .int .i64 b]).run P w = .ok (.int .i64 (max a b)) w := by
    have he : (if b > a then b else a) = max a b := by split <;> omega
    simp [Builtin.max_, Builtin.max2, he]
  rw [hr]
  exact ⟨by rw [hw]; exact hk, Like.refl w⟩
/-- how many of the first bits are set -/
def cntB (l : List UInt8) : Nat → Nat
  | 0 => 0
  | n + 1 => cntB l n + if hasB l n = true then 1 else 0
theorem cntB_le (l : List UInt8) : ∀ n, cntB l n ≤ n
  | 0 => Nat.le_refl _
  | n + 1 => by have := cntB_le l n; unfold cntB; split <;> omega
/-- bollard/bits.Has -/
theorem c_bhas {xa : Option Addr} {xn : Nat} (xc : Nat) {l : List UInt8} {τx : Nat} {s : TH} (hx : Sl s xa (bvs l) τx) (hn : l.length = xn) (i : Nat) (hi : i ≤ 100000000000) : TRet Tryz.prog 152 #[.slice xa xn xc, .int .i64 (i : Int)] s fun v s' => v = .bool (hasB l i) ∧ Ch [] s s' := by
  refine F152_calls _ _ _ _  ?_
  unfold F152
  refine sB_d (fun hsB1 => ?_) (fun hsB1 => by exfalso; omega)
  refine ask_t (by omega) ?_
  try rw [td8]
  refine wr_t (by omega) ?_
  refine sB_d (fun hsB2 => ?_) (fun hsB2 => ?_)
  ·
    refine ask_t (by omega) ?_
    try rw [td8]
    refine wr_t (by omega) ?_
    obtain ⟨b, hbk⟩ : ∃ b, l[i / 8]? = some b := ⟨l[i / 8]'(by omega), by simp⟩
    have hgd : l.getD (i / 8) 0 = b := by rw [List.getD_eq_getElem?_getD, hbk]; rfl
    obtain ⟨ad, rfl⟩ := hx.some (fun e => by have := bvs_get hbk; rw [e] at this; simp at this)
    have hb8 := b.toNat_lt
    refine nz_i ?_
    refine ask_t (by omega) ?_
    refine ld_sl hx (by rw [Int.toNat_natCast, Nat.mul_one]; exact bvs_get hbk) ?_
    refine dInt_i ?_
    refine ask_t (by omega) ?_
    rw [tm8]
    refine nm_t rfl ?_
    refine ask_t (by omega) ?_
    rw [shr8 _ _ (by omega)]
    refine nm_t rfl ?_
    rw [and1 _ (Nat.lt_of_le_of_lt (Nat.div_le_self _ _) hb8)]
    refine nm_t rfl ?_
    refine ret_t ?_
    exact ⟨ret_b (by unfold hasB; rw [hgd]; apply Bool.eq_iff_iff.2; simp only [beq_iff_eq]; omega), (Ch.refl [] s)⟩
  ·
    refine ret_t ?_
    exact ⟨ret_b (by unfold hasB; rw [List.getD_eq_getElem?_getD, List.getElem?_eq_none (by omega)]; simp), (Ch.refl [] s)⟩
/-- bollard/bits.many -/
theorem c_many (n : Int) (s : TH) (hn : 0 ≤ n ∧ n ≤ 65536) : TRet Tryz.prog 151 #[.int .i64 n] s fun v s' => v = .int .i64 n ∧ Ch [] s s' := by
  refine F151_calls _  ?_
  unfold F151
  refine min_i ?_
  refine dInt_i ?_
  refine max_i ?_
  refine dInt_i ?_
  refine ret_t ?_
  exact ⟨ret_i (by omega), (Ch.refl [] s)⟩
/-- bollard/bits.Count -/
theorem c_count {xa : Option Addr} {xn : Nat} (xc : Nat) {l : List UInt8} {τx : Nat} {s : TH} (hx : Sl s xa (bvs l) τx) (hn : l.length = xn) (n : Nat) (hm : n ≤ 65536) : TRet Tryz.prog 92 #[.slice xa xn xc, .int .i64 (n : Int)] s fun v s' => v = .int .i64 (cntB l n : Int) ∧ Ch [] s s' := by
  refine F92_calls _ _ _ _  ?_
  unfold F92
  refine tcall (c_many n _ (by omega)) ?_
  rintro v_2 s_1 ⟨rfl, c_4⟩
  have z_5 := c_4.size
  refine dInt_i ?_
  refine ⟨fun vs H' => ∃ s' : TH, s'.h = H' ∧ ∃ c i, vs = [.int .i64 c, .int .i64 i] ∧ Ch [] s_1 s' ∧ (∃ k : Nat, i = k ∧ k ≤ n ∧ c = (cntB l k : Int)), fun vs H' => match vs with | [.int .i64 c, .int .i64 i] => ((n : Int) - i).toNat | _ => 0, ⟨s_1, rfl, _, _, rfl, Ch.refl _ _, ?_⟩, ?_⟩
  ·
    exact ⟨0, rfl, by omega, rfl⟩
  ·
    intro c i _ _ _ _ _ _ _ _ _ H_ hI_7
    obtain ⟨s_6, rfl, c_, i_, hvs, c_8, k, rfl, hk, rfl⟩ := hI_7
    cases hvs
    have z_9 := c_8.size
    have hck := cntB_le l k
    refine sB_d (fun hsB1 => ?_) (fun hsB1 => ?_)
    ·
      refine jn_u ?_
      have h_10 := hx.mv (c_4.app c_8) (tagn (by simp))
      refine tcall (c_bhas xc h_10 hn k (by omega)) ?_
      rintro v_12 s_11 ⟨rfl, c_14⟩
      have z_15 := c_14.size
      refine dBl_i ?_
      refine sB_i (fun hsB2 => ?_) (fun hsB2 => ?_)
      ·
        refine wr_t (by omega) ?_
        intro _
        intros
        refine dInt_i ?_
        refine wr_t (by omega) ?_
        refine ⟨⟨s_11, rfl, _, _, rfl, (((Ch.refl [] s_1).ch c_8 (by simp)).ch c_14 (by simp)), ?_⟩, ?_⟩
        ·
          exact ⟨k + 1, by omega, by omega, by show _ = ((cntB l k + if hasB l k = true then 1 else 0 : Nat) : Int); first | (rw [if_pos hsB2]; omega) | (rw [if_neg (by simp [hsB2])]; omega)⟩
        ·
          simp only []; omega
      ·
        intro _
        intros
        refine dInt_i ?_
        refine wr_t (by omega) ?_
        refine ⟨⟨s_11, rfl, _, _, rfl, (((Ch.refl [] s_1).ch c_8 (by simp)).ch c_14 (by simp)), ?_⟩, ?_⟩
        ·
          exact ⟨k + 1, by omega, by omega, by show _ = ((cntB l k + if hasB l k = true then 1 else 0 : Nat) : Int); first | (rw [if_pos hsB2]; omega) | (rw [if_neg (by simp [hsB2])]; omega)⟩
        ·
          simp only []; omega
    ·
      refine ret_t ?_
      obtain rfl : k = n := by omega
      exact ⟨rfl, (((Ch.refl [] s).ch c_4 (by simp)).ch c_8 (by simp))⟩
/-- bollard/bits.First -/
theorem c_first {xa : Option Addr} {xn : Nat} (xc : Nat) {l : List UInt8} {τx : Nat} {s : TH} (hx : Sl s xa (bvs l) τx) (hn : l.length = xn) (n from_ : Nat) (hm : n ≤ 65536) (hf : from_ < n) : TRet Tryz.prog 138 #[.slice xa xn xc, .int .i64 (n : Int), .int .i64 (from_ : Int)] s fun v s' => ∃ (i : Nat) (ok : Bool), v = .tuple #[.int .i64 (i : Int), .bool ok] ∧ Ch [] s s' ∧ (ok = true → i < n ∧ hasB l i = false ∧ ∀ j, from_ ≤ j → j < (if i < from_ then n else i) → hasB l j = true) ∧ (ok = false → ∀ j, from_ ≤ j → j < n → hasB l j = true) ∧ (ok = false → ∀ j, j < n → hasB l j = true) := by
  refine F138_calls _ _ _ _ _  ?_
  unfold F138
  refine tcall (c_many n _ (by omega)) ?_
  rintro v_2 s_1 ⟨rfl, c_4⟩
  have z_5 := c_4.size
  refine dInt_i ?_
  refine jn_u ?_
  refine jn_u ?_
  refine sB_d (fun hsB1 => by exfalso; omega) (fun hsB1 => ?_)
  intro _
  intros
  refine dBl_i ?_
  refine sB_d (fun hsB2 => by exfalso; omega) (fun hsB2 => ?_)
  intro _
  intros
  refine dInt_i ?_
  refine ⟨fun vs H' => ∃ s' : TH, s'.h = H' ∧ ∃ i, vs = [.int .i64 i] ∧ Ch [] s_1 s' ∧ (∃ k : Nat, i = k ∧ k ≤ n ∧ ∀ q, q < k → hasB l (if from_ + q < n then from_ + q else from_ + q - n) = true), fun vs H' => match vs with | [.int .i64 i] => ((n : Int) - i).toNat | _ => 0, ⟨s_1, rfl, _, rfl, Ch.refl _ _, ?_⟩, ?_⟩
  ·
    exact ⟨0, rfl, by omega, fun q h => by omega⟩
  ·
    intro i _ _ _ _ _ _ _ _ _ _ _ _ _ _ _ _ _ _ _ _ _ H_ hI_7
    obtain ⟨s_6, rfl, i_, hvs, c_8, k, rfl, hk, hall⟩ := hI_7
    cases hvs
    have z_9 := c_8.size
    refine sB_d (fun hsB3 => ?_) (fun hsB3 => ?_)
    ·
      refine wr_t (by omega) ?_
      refine jn1 (fun fv s' => Ch [] s_6 s' ∧ (fv = .int .i64 ((if from_ + k < n then from_ + k else from_ + k - n : Nat) : Int))) ?_ ?_
      ·
        rintro fv s_10 ⟨c_11, rfl⟩
        have z_12 := c_11.size
        intro _
        intros
        refine dInt_i ?_
        obtain ⟨w_, hw_⟩ : ∃ w : Nat, w = (if from_ + k < n then from_ + k else from_ + k - n) := ⟨_, rfl⟩
        rw [← hw_]
        have hwn : w_ < n := by subst hw_; split <;> omega
        have h_13 := hx.mv ((c_4.app c_8).app c_11) (tagn (by simp))
        refine tcall (c_bhas xc h_13 hn w_ (by omega)) ?_
        rintro v_15 s_14 ⟨rfl, c_17⟩
        have z_18 := c_17.size
        refine dBl_i ?_
        refine sB_n (fun hsB4 => ?_) (fun hsB4 => ?_)
        ·
          refine ret_t ?_
          have hb0 : hasB l w_ = false := by assumption
          refine ⟨w_, true, rfl, (((((Ch.refl [] s).ch c_4 (by simp)).ch c_8 (by simp)).ch c_11 (by simp)).ch c_17 (by simp)), fun _ => ⟨hwn, hb0, fun j h1 h2 => ?_⟩, fun h => (by cases h), fun h => (by cases h)⟩
          have hq : j - from_ < k := by
            by_cases e : from_ + k < n
            · rw [if_pos e] at hw_; rw [if_neg (by omega)] at h2; omega
            · rw [if_neg e] at hw_; rw [if_pos (by omega)] at h2; omega
          have hjn : j < n := by
            split at h2 <;> omega
          have h3 := hall (j - from_) hq
          rw [show from_ + (j - from_) = j by omega, if_pos hjn] at h3
          exact h3
        ·
          refine wr_t (by omega) ?_
          refine ⟨⟨s_14, rfl, _, rfl, ((((Ch.refl [] s_1).ch c_8 (by simp)).ch c_11 (by simp)).ch c_17 (by simp)), ?_⟩, ?_⟩
          ·
            refine ⟨k + 1, by omega, by omega, fun q hq => ?_⟩
            by_cases e : q = k
            · subst e; rw [← hw_]; assumption
            · exact hall q (by omega)
          ·
            simp only []; omega
      ·
        intro K_19 hK_19
        refine sB_d (fun hsB5 => ?_) (fun hsB5 => ?_)
        ·
          refine wr_t (by omega) ?_
          refine hK_19 _ _ ⟨(Ch.refl [] s_6), ?_⟩
          rw [if_neg (by omega)]; exact congrArg (Value.int .i64) (by omega)
        ·
          refine hK_19 _ _ ⟨(Ch.refl [] s_6), ?_⟩
          rw [if_pos (by omega)]; exact congrArg (Value.int .i64) (by omega)
    ·
      refine ret_t ?_
      have hkn : k = n := by omega
      have hA : ∀ j, j < n → hasB l j = true := fun j hj => by
        by_cases h : from_ ≤ j
        · have := hall (j - from_) (by omega)
          rw [if_pos (by omega), show from_ + (j - from_) = j by omega] at this; exact this
        · have := hall (j + n - from_) (by omega)
          rw [if_neg (by omega), show from_ + (j + n - from_) - n = j by omega] at this; exact this
      exact ⟨0, false, rfl, (((Ch.refl [] s).ch c_4 (by simp)).ch c_8 (by simp)), fun h => (by cases h), fun _ j _ hj => hA j hj, fun _ j hj => hA j hj⟩
/-- bollard/alloc.around -/
theorem c_around (τ : Nat) (G near : Nat) (b c : Int) (s : TH) (hG : 1 ≤ G ∧ G ≤ 8) (hn : near < G) : TRet Tryz.prog 76 #[.agg #[.int .i64 (G : Int), .int .i64 b, .int .i64 c], .int .i64 (near : Int)] s fun v s' => ∃ a cc, v = .slice a G cc ∧ Ch [] s s' ∧ Own s' a G cc 3 1 (ivs ((List.range G).map fun (k : Nat) => (((near + k) % G : Nat) : Int))) τ := by
  obtain ⟨M, hM, hM0, hMa, hMb, hMc, hMd, hMe, hMf⟩ := fresh6 s τ 0 0 0 0 0
  refine F76_calls _ _ _ _  ?_
  unfold F76
  refine al_t (M + 1) fun r1 s2 hr1 b_1 c_2 z_3 => ?_
  refine ld_t b_1 rfl ?_
  refine dInt_i ?_
  refine ⟨fun vs H' => ∃ s' : TH, s'.h = H' ∧ ∃ pa pn pc i, vs = [.slice pa pn pc, .int .i64 i] ∧ Ch [M + 5] s2 s' ∧ (∃ k : Nat, i = k ∧ pn = k ∧ k ≤ G ∧ Own s' pa pn pc 3 1 (ivs ((List.range k).map fun (k : Nat) => (((near + k) % G : Nat) : Int))) (M + 5)), fun vs H' => match vs with | [.slice pa pn pc, .int .i64 i] => ((G : Int) - i).toNat | _ => 0, ⟨s2, rfl, _, _, _, _, rfl, Ch.refl _ _, ?_⟩, ?_⟩
  ·
    exact ⟨0, rfl, rfl, by omega, Own.nil _ _ _ _⟩
  ·
    intro pa pn pc i _ _ _ _ _ _ _ _ _ _ _ _ _ H_ hI_5
    obtain ⟨s_4, rfl, pa_, pn_, pc_, i_, hvs, c_6, k, rfl, rfl, hk, ho⟩ := hI_5
    cases hvs
    have z_7 := c_6.size
    refine sB_d (fun hsB1 => ?_) (fun hsB1 => ?_)
    ·
      refine wr_t (by omega) ?_
      have h_8 := b_1.ch c_6 (by simp)
      refine ld_t h_8 rfl ?_
      refine dInt_i ?_
      refine ask_t (by omega) ?_
      rw [show Int.tmod ((near : Int) + (pn : Int)) (G : Int) = (((near + pn) % G : Nat) : Int) from by rw [Int.tmod_eq_emod_of_nonneg (by omega)]; exact (Int.natCast_emod (near + pn) G).symm]
      refine nm_t rfl ?_
      refine al_t (M + 9) fun r30 s31 hr30 b_9 c_10 z_11 => ?_
      have h_14 := ho.mv c_10 (tagn (by simp))
      refine app_i1 u73 in3 h_14 b_9 (by omega) fun s_15 a_12 k_13 o_16 c_17 => ?_
      have z_18 := c_17.size
      refine dSl_i ?_
      refine wr_t (by omega) ?_
      refine ⟨⟨s_15, rfl, _, _, _, _, rfl, ((((Ch.refl [M + 5] s2).ch c_6 (by simp)).ch c_10 (by simp)).ch c_17 (by simp)), ?_⟩, ?_⟩
      ·
        exact ⟨pn + 1, by omega, rfl, by omega, by rw [List.range_succ, List.map_append]; exact o_16⟩
      ·
        simp only []; omega
    ·
      obtain rfl : pn = G := by omega
      refine ret_t' (s' := remark s_4 (M + 5) τ) rfl ⟨_, _, rfl, remark_ch (((Ch.refl [] s).ch c_2 (by simp)).fr c_6 hM (by simp)) hM (by omega), (ho).remark⟩
theorem undo_last {P : PatchM} (ok : POk P) : P.undo P.last = (P, 0) := by
  have hl := ok.lst
  unfold PatchM.undo
  rw [if_neg (by omega), if_neg (by
    intro hh
    obtain ⟨j, hj, h2⟩ := List.any_eq_true.1 hh
    have := ok.dn j hj
    simp at h2; omega)]
  have : P.l.filter (fun x => decide (x.id ≤ P.last)) = P.l := List.filter_eq_self.2 fun x hx => by have := ok.rng x hx; simpa using this.2
  simp [this]
/-- bollard/alloc.ready -/
theorem c_readyA (vp d U : Nat) (V : VolM) (a b c : Int) (s : TH) (hv : VolL s vp d U V 0) (hU : 10 ≤ U) (hc : canG a b c) (hb : a * b ≤ V.D.blocks.length) : TRet Tryz.prog 74 #[.pointer (some ⟨vp, 0, none⟩), .agg #[.int .i64 a, .int .i64 b, .int .i64 c]] s fun v s' => v = .int .i64 0 ∧ Ch [U, U + 30, U + 32] s s' ∧ VolL s' vp d U V 0 := by
  have hab : 1 * 8 ≤ a * b := Int.mul_le_mul (by unfold canG at hc; omega) (by unfold canG at hc; omega) (by omega) (by unfold canG at hc; omega)
  obtain ⟨M, hM, hM0, hMa, hMb, hMc, hMd, hMe, hMf⟩ := fresh6 s (U + 50) 0 0 0 0 0
  refine F74_calls _ _ _ _  ?_
  unfold F74
  refine al_t (M + 1) fun r1 s2 hr1 b_1 c_2 z_3 => ?_
  have h_4 := hv.mv c_2 (rngn50 (by simp))
  refine tcall (c_VLast _ _ _ _ _ (by omega) h_4) ?_
  rintro v_6 s_5 ⟨rfl, c_8, call1a⟩
  have z_9 := c_8.size
  refine dInt_i ?_
  refine tcall (c_VUndo _ _ _ _ _ _ (by omega) call1a) ?_
  rintro v_11 s_10 ⟨rfl, c_13, call2a⟩
  have z_14 := c_13.size
  rw [undo_last hv.pokk] at call2a ⊢
  refine dInt_i ?_
  refine sB_f (by rfl) ?_
  have h_15 := b_1.ch (c_8.app c_13) (by simp <;> omega)
  refine ld_t h_15 rfl ?_
  refine ld_t h_15 rfl ?_
  refine ld_t h_15 rfl ?_
  refine tcall (gc_can a b c _) ?_
  rintro v_17 s_16 ⟨rfl, c_19⟩
  have z_20 := c_19.size
  rw [if_pos hc]
  refine dInt_i ?_
  refine jn_u ?_
  refine jn_u ?_
  refine sB_t (by rfl) ?_
  have h_21 := h_15.ch c_19 (by simp)
  refine ld_t h_21 rfl ?_
  refine ld_t h_21 rfl ?_
  refine ld_t h_21 rfl ?_
  have h_22 := call2a.mv c_19 (rngn50 (by simp))
  refine tcall (c_VBlocks2 _ _ _ _ _ (by omega) h_22) ?_
  rintro v_24 s_23 ⟨rfl, c_26, call4a⟩
  have z_27 := c_26.size
  refine dInt_i ?_
  refine ⟨?_, ?_⟩
  ·
    have h_28 := h_21.ch c_26 (by simp <;> omega)
    refine ld_t h_28 rfl ?_
    refine ld_t h_28 rfl ?_
    refine ld_t h_28 rfl ?_
    rfl
  ·
    refine tcall (gc_blocks a b c hc _) ?_
    rintro v_30 s_29 ⟨rfl, c_32⟩
    have z_33 := c_32.size
    refine dInt_i ?_
    intro _
    intros
    refine dBl_i ?_
    refine sB_d (fun hsB3 => ?_) (fun hsB3 => ?_)
    ·
      intro _
      intros
      refine dInt_i ?_
      refine ret_t ?_
      have h_34 := call4a.mv c_32 (rngn50 (by simp))
      exfalso; simp_all; omega
    ·
      intro _
      intros
      refine dInt_i ?_
      refine ret_t ?_
      have h_35 := call4a.mv c_32 (rngn50 (by simp))
      exact ⟨rfl, (((((((Ch.refl [U, U + 30, U + 32] s).ch c_2 (by simp)).ch c_8 (by simp)).ch c_13 (by simp)).ch c_19 (by simp)).ch c_26 (by simp)).ch c_32 (by simp)), h_35⟩
theorem len8 {l : List UInt8} (h0 : l.length = 8) : ∃ i0 i1 i2 i3 i4 i5 i6 i7 : UInt8, l = [i0, i1, i2, i3, i4, i5, i6, i7] := by
  obtain ⟨i0, l, rfl⟩ := List.exists_cons_of_length_eq_add_one (n := 7) h0
  have h1 : l.length = 7 := by simpa using h0
  obtain ⟨i1, l, rfl⟩ := List.exists_cons_of_length_eq_add_one (n := 6) h1
  have h2 : l.length = 6 := by simpa using h1
  obtain ⟨i2, l, rfl⟩ := List.exists_cons_of_length_eq_add_one (n := 5) h2
  have h3 : l.length = 5 := by simpa using h2
  obtain ⟨i3, l, rfl⟩ := List.exists_cons_of_length_eq_add_one (n := 4) h3
  have h4 : l.length = 4 := by simpa using h3
  obtain ⟨i4, l, rfl⟩ := List.exists_cons_of_length_eq_add_one (n := 3) h4
  have h5 : l.length = 3 := by simpa using h4
  obtain ⟨i5, l, rfl⟩ := List.exists_cons_of_length_eq_add_one (n := 2) h5
  have h6 : l.length = 2 := by simpa using h5
  obtain ⟨i6, l, rfl⟩ := List.exists_cons_of_length_eq_add_one (n := 1) h6
  have h7 : l.length = 1 := by simpa using h6
  obtain ⟨i7, l, rfl⟩ := List.exists_cons_of_length_eq_add_one (n := 0) h7
  have h8 : l.length = 0 := by simpa using h7
  obtain rfl := List.eq_nil_of_length_eq_zero h8
  exact ⟨i0, i1, i2, i3, i4, i5, i6, i7, rfl⟩
set_option maxRecDepth 20000 in
theorem dA41 {v0 v1 v2 v3 v4 v5 v6 v7 v8 v9 v10 v11 v12 v13 v14 v15 v16 v17 v18 v19 v20 v21 v22 v23 v24 v25 v26 v27 v28 v29 v30 v31 v32 v33 v34 v35 v36 v37 v38 v39 v40 : Value} {k : VF 41} (h : (k : Value → Value → Value → Value → Value → Value → Value → Value → Value → Value → Value → Value → Value → Value → Value → Value → Value → Value → Value → Value → Value → Value → Value → Value → Value → Value → Value → Value → Value → Value → Value → Value → Value → Value → Value → Value → Value → Value → Value → Value → Value → Prop) v0 v1 v2 v3 v4 v5 v6 v7 v8 v9 v10 v11 v12 v13 v14 v15 v16 v17 v18 v19 v20 v21 v22 v23 v24 v25 v26 v27 v28 v29 v30 v31 v32 v33 v34 v35 v36 v37 v38 v39 v40) : dA 41 (.agg ([v0, v1, v2, v3, v4, v5, v6, v7, v8, v9, v10, v11, v12, v13, v14, v15, v16, v17, v18, v19, v20, v21, v22, v23, v24, v25, v26, v27, v28, v29, v30, v31, v32, v33, v34, v35, v36, v37, v38, v39, v40] : List Value).toArray) k := h
set_option maxRecDepth 20000 in
theorem ld41 {s : TH} {r t τ : Nat} {w0 w1 w2 w3 w4 w5 w6 w7 w8 w9 w10 w11 w12 w13 w14 w15 w16 w17 w18 w19 w20 w21 w22 w23 w24 w25 w26 w27 w28 w29 w30 w31 w32 w33 w34 w35 w36 w37 w38 w39 w40 : Value} {k : Value → Value → Value → Value → Value → Value → Value → Value → Value → Value → Value → Value → Value → Value → Value → Value → Value → Value → Value → Value → Value → Value → Value → Value → Value → Value → Value → Value → Value → Value → Value → Value → Value → Value → Value → Value → Value → Value → Value → Value → Value → Prop} (h : Blk s r [w0, w1, w2, w3, w4, w5, w6, w7, w8, w9, w10, w11, w12, w13, w14, w15, w16, w17, w18, w19, w20, w21, w22, w23, w24, w25, w26, w27, w28, w29, w30, w31, w32, w33, w34, w35, w36, w37, w38, w39, w40] t τ) (hk : k w0 w1 w2 w3 w4 w5 w6 w7 w8 w9 w10 w11 w12 w13 w14 w15 w16 w17 w18 w19 w20 w21 w22 w23 w24 w25 w26 w27 w28 w29 w30 w31 w32 w33 w34 w35 w36 w37 w38 w39 w40) : ld s.h ⟨r, 0, none⟩ fun v0 => ld s.h ⟨r, 1, none⟩ fun v1 => ld s.h ⟨r, 2, none⟩ fun v2 => ld s.h ⟨r, 3, none⟩ fun v3 => ld s.h ⟨r, 4, none⟩ fun v4 => ld s.h ⟨r, 5, none⟩ fun v5 => ld s.h ⟨r, 6, none⟩ fun v6 => ld s.h ⟨r, 7, none⟩ fun v7 => ld s.h ⟨r, 8, none⟩ fun v8 => ld s.h ⟨r, 9, none⟩ fun v9 => ld s.h ⟨r, 10, none⟩ fun v10 => ld s.h ⟨r, 11, none⟩ fun v11 => ld s.h ⟨r, 12, none⟩ fun v12 => ld s.h ⟨r, 13, none⟩ fun v13 => ld s.h ⟨r, 14, none⟩ fun v14 => ld s.h ⟨r, 15, none⟩ fun v15 => ld s.h ⟨r, 16, none⟩ fun v16 => ld s.h ⟨r, 17, none⟩ fun v17 => ld s.h ⟨r, 18, none⟩ fun v18 => ld s.h ⟨r, 19, none⟩ fun v19 => ld s.h ⟨r, 20, none⟩ fun v20 => ld s.h ⟨r, 21, none⟩ fun v21 => ld s.h ⟨r, 22, none⟩ fun v22 => ld s.h ⟨r, 23, none⟩ fun v23 => ld s.h ⟨r, 24, none⟩ fun v24 => ld s.h ⟨r, 25, none⟩ fun v25 => ld s.h ⟨r, 26, none⟩ fun v26 => ld s.h ⟨r, 27, none⟩ fun v27 => ld s.h ⟨r, 28, none⟩ fun v28 => ld s.h ⟨r, 29, none⟩ fun v29 => ld s.h ⟨r, 30, none⟩ fun v30 => ld s.h ⟨r, 31, none⟩ fun v31 => ld s.h ⟨r, 32, none⟩ fun v32 => ld s.h ⟨r, 33, none⟩ fun v33 => ld s.h ⟨r, 34, none⟩ fun v34 => ld s.h ⟨r, 35, none⟩ fun v35 => ld s.h ⟨r, 36, none⟩ fun v36 => ld s.h ⟨r, 37, none⟩ fun v37 => ld s.h ⟨r, 38, none⟩ fun v38 => ld s.h ⟨r, 39, none⟩ fun v39 => ld s.h ⟨r, 40, none⟩ fun v40 => k v0 v1 v2 v3 v4 v5 v6 v7 v8 v9 v10 v11 v12 v13 v14 v15 v16 v17 v18 v19 v20 v21 v22 v23 v24 v25 v26 v27 v28 v29 v30 v31 v32 v33 v34 v35 v36 v37 v38 v39 v40 := by
  refine ld_t h rfl ?_
  refine ld_t h rfl ?_
  refine ld_t h rfl ?_
  refine ld_t h rfl ?_
  refine ld_t h rfl ?_
  refine ld_t h rfl ?_
  refine ld_t h rfl ?_
  refine ld_t h rfl ?_
  refine ld_t h rfl ?_
  refine ld_t h rfl ?_
  refine ld_t h rfl ?_
  refine ld_t h rfl ?_
  refine ld_t h rfl ?_
  refine ld_t h rfl ?_
  refine ld_t h rfl ?_
  refine ld_t h rfl ?_
  refine ld_t h rfl ?_
  refine ld_t h rfl ?_
  refine ld_t h rfl ?_
  refine ld_t h rfl ?_
  refine ld_t h rfl ?_
  refine ld_t h rfl ?_
  refine ld_t h rfl ?_
  refine ld_t h rfl ?_
  refine ld_t h rfl ?_
  refine ld_t h rfl ?_
  refine ld_t h rfl ?_
  refine ld_t h rfl ?_
  refine ld_t h rfl ?_
  refine ld_t h rfl ?_
  refine ld_t h rfl ?_
  refine ld_t h rfl ?_
  refine ld_t h rfl ?_
  refine ld_t h rfl ?_
  refine ld_t h rfl ?_
  refine ld_t h rfl ?_
  refine ld_t h rfl ?_
  refine ld_t h rfl ?_
  refine ld_t h rfl ?_
  refine ld_t h rfl ?_
  refine ld_t h rfl ?_
  exact hk
/-- cells stored one behind another -/
def stsL (H : Heap) (r : Nat) : Nat → List Value → (Heap → Prop) → Prop
  | _, [], k => k H
  | i, v :: vs, k => st H ⟨r, i, none⟩ v fun H' => stsL H' r (i + 1) vs k
theorem stsL_t {r t τ : Nat} {k : Heap → Prop} : ∀ (vs : List Value) (i : Nat) (l : List Value) (s : TH), Blk s r l t τ → l.length = i + vs.length → (∀ v ∈ vs, oneC v = true) →
    (∀ s' : TH, Blk s' r (l.take i ++ vs) t τ → On r s s' → s.h.size = s'.h.size → k s'.h) → stsL s.h r i vs k
  | [], i, l, s, h, hl, h1, hk => by
    refine hk s ?_ ⟨Nat.le_refl _, fun _ _ => rfl, fun _ _ _ => rfl⟩ rfl
    rw [List.take_of_length_le (by simp at hl; omega), List.append_nil]; exact h
  | v :: vs, i, l, s, h, hl, h1, hk => by
    rw [List.length_cons] at hl
    refine st_t h (h1 v (by simp)) (by omega) fun s' b c z => ?_
    refine stsL_t vs (i + 1) (l.set i v) s' b (by rw [List.length_set]; omega) (fun u hu => h1 u (by simp [hu])) fun s2 b2 c2 z2 => hk s2 ?_ (c.trans c2 fun _ _ h => h) (z.trans z2)
    have e : (l.set i v).take (i + 1) ++ vs = l.take i ++ v :: vs := by
      rw [List.take_add_one, List.getElem?_set_self (by omega), List.take_set_of_le (Nat.le_refl _)]
      simp
    rw [← e]; exact b2
theorem gv_one (n : Int) (il bl : List UInt8) : ∀ v ∈ gv n il bl, oneC v = true := by
  intro v hv
  unfold gv at hv
  rcases List.mem_cons.1 hv with rfl | hv
  · rfl
  · rcases List.mem_append.1 hv with hv | hv <;> (unfold bvs at hv; obtain ⟨b, _, rfl⟩ := List.mem_map.1 hv; rfl)
set_option maxRecDepth 20000 in
/-- all cells of a header are stored -/
theorem stG {s : TH} {r t τ : Nat} {l : List Value} {k : Heap → Prop} (n : Int) {il bl : List UInt8} (h8 : il.length = 8) (h32 : bl.length = 32) {v0 v1 v2 v3 v4 v5 v6 v7 v8 v9 v10 v11 v12 v13 v14 v15 v16 v17 v18 v19 v20 v21 v22 v23 v24 v25 v26 v27 v28 v29 v30 v31 v32 v33 v34 v35 v36 v37 v38 v39 v40 : Value} (he : gv n il bl = [v0, v1, v2, v3, v4, v5, v6, v7, v8, v9, v10, v11, v12, v13, v14, v15, v16, v17, v18, v19, v20, v21, v22, v23, v24, v25, v26, v27, v28, v29, v30, v31, v32, v33, v34, v35, v36, v37, v38, v39, v40]) (h : Blk s r l t τ) (hl : l.length = 41)
    (hk : ∀ s' : TH, Blk s' r (gv n il bl) t τ → On r s s' → s.h.size = s'.h.size → k s'.h) : st s.h ⟨r, 0, none⟩ v0 fun H0 => st H0 ⟨r, 1, none⟩ v1 fun H1 => st H1 ⟨r, 2, none⟩ v2 fun H2 => st H2 ⟨r, 3, none⟩ v3 fun H3 => st H3 ⟨r, 4, none⟩ v4 fun H4 => st H4 ⟨r, 5, none⟩ v5 fun H5 => st H5 ⟨r, 6, none⟩ v6 fun H6 => st H6 ⟨r, 7, none⟩ v7 fun H7 => st H7 ⟨r, 8, none⟩ v8 fun H8 => st H8 ⟨r, 9, none⟩ v9 fun H9 => st H9 ⟨r, 10, none⟩ v10 fun H10 => st H10 ⟨r, 11, none⟩ v11 fun H11 => st H11 ⟨r, 12, none⟩ v12 fun H12 => st H12 ⟨r, 13, none⟩ v13 fun H13 => st H13 ⟨r, 14, none⟩ v14 fun H14 => st H14 ⟨r, 15, none⟩ v15 fun H15 => st H15 ⟨r, 16, none⟩ v16 fun H16 => st H16 ⟨r, 17, none⟩ v17 fun H17 => st H17 ⟨r, 18, none⟩ v18 fun H18 => st H18 ⟨r, 19, none⟩ v19 fun H19 => st H19 ⟨r, 20, none⟩ v20 fun H20 => st H20 ⟨r, 21, none⟩ v21 fun H21 => st H21 ⟨r, 22, none⟩ v22 fun H22 => st H22 ⟨r, 23, none⟩ v23 fun H23 => st H23 ⟨r, 24, none⟩ v24 fun H24 => st H24 ⟨r, 25, none⟩ v25 fun H25 => st H25 ⟨r, 26, none⟩ v26 fun H26 => st H26 ⟨r, 27, none⟩ v27 fun H27 => st H27 ⟨r, 28, none⟩ v28 fun H28 => st H28 ⟨r, 29, none⟩ v29 fun H29 => st H29 ⟨r, 30, none⟩ v30 fun H30 => st H30 ⟨r, 31, none⟩ v31 fun H31 => st H31 ⟨r, 32, none⟩ v32 fun H32 => st H32 ⟨r, 33, none⟩ v33 fun H33 => st H33 ⟨r, 34, none⟩ v34 fun H34 => st H34 ⟨r, 35, none⟩ v35 fun H35 => st H35 ⟨r, 36, none⟩ v36 fun H36 => st H36 ⟨r, 37, none⟩ v37 fun H37 => st H37 ⟨r, 38, none⟩ v38 fun H38 => st H38 ⟨r, 39, none⟩ v39 fun H39 => st H39 ⟨r, 40, none⟩ v40 fun H40 => k H40 := by
  have h0 := stsL_t (k := k) (gv n il bl) 0 l s h (by rw [gv_len h8 h32, hl]) (gv_one n il bl) fun s' b c z => hk s' (by simpa using b) c z
  rw [he] at h0
  exact h0
theorem copy_blkm {P : Program} {t t2 ty e : TypeId} {E : List PanicEntry → Heap → Prop} {s : TH} {r o n m c mc tb : Nat} {xa : Option Addr} {L : List Value} {x : List UInt8} {τ τx : Nat} {K : Value → Heap → Prop}
    (ht : P.underlying t = some (.slice e)) (hi' : (P.info? e).map (fun i => (i.zero, i.size, i.bytes)) = some (some (.int .u8 0), 1, 1))
    (hB : Blk s r L tb τ) (hx : Sl s xa (bvs x) τx) (hm : x.length = m) (hn : 0 < m) (hmn : m ≤ n) (ho : o + n ≤ L.length)
    (hk : ∀ s' : TH, Blk s' r (L.take o ++ bvs x ++ L.drop (o + m)) tb τ → On r s s' → s.h.size = s'.h.size → K (.int .i64 (m : Int)) s'.h) :
    semW P (Builtin.copy_ #[t, t2] ty #[.slice (some ⟨r, o, none⟩) n c, .slice xa m mc]) E s.h K := .mk fun w hw => by
  obtain ⟨i, hi, hz, hs, hby⟩ := info_of hi'
  obtain ⟨b, rfl⟩ := hx.some (fun h => by have := congrArg List.length h; rw [bvs_len, List.length_nil] at this; omega)
  have hmin : min m n = m := by omega
  have hfw := run_firstCells_some (P := P) w 1 m b m mc (bvs x) (by rw [bvs_len]; omega) fun j u hu => hx.cells w hw j u hu
  have hst := run_storeCells_at P r o tb (bvs x) 0 L.toArray w (by rw [hw]; exact hB.get) (by simp [bvs_len]; omega) (bvs_one _)
  simp only [Nat.add_zero, bvs_len] at hst
  have hr : (Builtin.copy_ #[t, t2] ty #[.slice (some ⟨r, o, none⟩) n c, .slice (some b) m mc]).run P w = .ok (.int .i64 (m : Int)) (w.setRow r (L.take o ++ bvs x ++ L.drop (o + m)).toArray) := by
    simp [Builtin.copy_, run_underlying ht, sizeOf, typeInfo, hi, hs, hfw, hst, goInt, Builtin.lenOf, hm, hmin]
  rw [hr]
  have hset : (w.setRow r (L.take o ++ bvs x ++ L.drop (o + m)).toArray).heap[r]? = some (.cells (L.take o ++ bvs x ++ L.drop (o + m)).toArray tb (0, 0)) := setRow_heap w r L.toArray _ tb _ (by rw [hw]; exact hB.get)
  have hK := hk ⟨(w.setRow r (L.take o ++ bvs x ++ L.drop (o + m)).toArray).heap, s.g⟩ ⟨hset, hB.tag⟩ ⟨by simp [← hw], fun _ _ => rfl, fun j hj hn => ?_⟩ (by simp [← hw])
  · exact ⟨hK, rfl, rfl, rfl⟩
  · show (w.setRow r _).heap[j]? = _
    rw [setRow_other w r j _ (fun e => hn (by simp [e])), hw]
/-- bollard/layout.full -/
theorem c_full (τ : Nat) {xa : Option Addr} {xn : Nat} (xc : Nat) {l : List UInt8} {τx : Nat} {s : TH} (hx : Sl s xa (bvs l) τx) (hn : l.length = xn) (n : Nat) (h0 : 0 < xn ∧ xn ≤ n ∧ n ≤ 100000) : TRet Tryz.prog 232 #[.slice xa xn xc, .int .i64 (n : Int)] s fun v s' => ∃ a c, v = .slice a n c ∧ Ch [] s s' ∧ Own s' a n c 5 1 (bvs (l ++ List.replicate (n - xn) 0)) τ := by
  obtain ⟨M, hM, hM0, hMa, hMb, hMc, hMd, hMe, hMf⟩ := fresh6 s τx τ 0 0 0 0
  refine F232_calls _ _ _ _  ?_
  unfold F232
  refine ask_t (by omega) ?_
  refine al_t (M + 1) fun r1 s2 hr1 b_1 c_2 z_3 => ?_
  have hz := b_1
  rw [rowz, Int.toNat_natCast] at hz
  rw [Int.toNat_natCast]
  have h_4 := hx.mv c_2 (tagn (by simp))
  refine copy_blkm u38 in5 hz h_4 hn (by omega) (by omega) (by rw [bvs_len, List.length_replicate]; omega) fun s_5 r1_8 c_6o _ => ?_
  have c_6 := on_ch hz c_6o
  have z_7 := c_6.size
  refine dInt_i ?_
  refine ask_t (by omega) ?_
  have h1 := r1_8
  have e1 : (bvs (List.replicate n 0)).take 0 ++ bvs l ++ (bvs (List.replicate n 0)).drop (0 + xn) = bvs (l ++ List.replicate (n - xn) 0) := by
    unfold bvs
    rw [List.take_zero, List.nil_append, Nat.zero_add, ← List.map_drop, List.drop_replicate, ← List.map_append]
  rw [e1] at h1
  have h2 := h1.own (n := n) 1 (by rw [bvs_len, List.length_append, List.length_replicate, hn]; omega) (by unfold maxLen; omega)
  simp only [slO_zero, Int.toNat_natCast, Int.toNat_zero, Nat.sub_zero]
  exact ret_t' (s' := remark s_5 (M + 1) τ) rfl ⟨_, _, rfl, remark_ch (((Ch.refl [] s).ch c_2 (by simp)).fr c_6 hM (by simp)) hM (by omega), h2.remark⟩
/-- bollard/layout.same -/
theorem c_lsame {xa : Option Addr} {xn : Nat} (xc : Nat) {l : List UInt8} {τx : Nat} {ya : Option Addr} {yn : Nat} (yc : Nat) {m : List UInt8} {τy : Nat} {s : TH} (hx : Sl s xa (bvs l) τx) (hn : l.length = xn) (h0 : xa = none → xn = 0) (hy : Sl s ya (bvs m) τy) (hm : m.length = yn) (g0 : ya = none → yn = 0) : TRet Tryz.prog 191 #[.slice xa xn xc, .slice ya yn yc] s fun v s' => v = .bool (decide (l = m)) ∧ Ch [] s s' := by
  refine F191_calls _ _ _ _ _ _  ?_
  unfold F191
  refine conv_bs u38 u5 (by kernel_rfl) hx hn h0 ?_
  refine dStr_i ?_
  refine conv_bs u38 u5 (by kernel_rfl) hy hm g0 ?_
  refine dStr_i ?_
  refine ret_t ?_
  exact ⟨ret_b (by simp only [ByteArray.toList_mk]; by_cases h : l = m <;> simp [h]), (Ch.refl [] s)⟩
/-- bollard/layout.EncodeGroup -/
theorem c_lencGroup (τ n : Nat) (i0 i1 i2 i3 i4 i5 i6 i7 b0 b1 b2 b3 b4 b5 b6 b7 b8 b9 b10 b11 b12 b13 b14 b15 b16 b17 b18 b19 b20 b21 b22 b23 b24 b25 b26 b27 b28 b29 b30 b31 : UInt8) (s : TH) (hn : n ≤ 7) : TRet Tryz.prog 190 #[.agg (gv (n : Int) [i0, i1, i2, i3, i4, i5, i6, i7] [b0, b1, b2, b3, b4, b5, b6, b7, b8, b9, b10, b11, b12, b13, b14, b15, b16, b17, b18, b19, b20, b21, b22, b23, b24, b25, b26, b27, b28, b29, b30, b31]).toArray] s fun v s' => ∃ a' c', v = .tuple #[.slice a' 128 c', .int .i64 0] ∧ Ch [] s s' ∧ Own s' a' 128 c' 5 1 (bvs (hdL n [i0, i1, i2, i3, i4, i5, i6, i7] [b0, b1, b2, b3, b4, b5, b6, b7, b8, b9, b10, b11, b12, b13, b14, b15, b16, b17, b18, b19, b20, b21, b22, b23, b24, b25, b26, b27, b28, b29, b30, b31])) τ := by
  obtain ⟨M, hM, hM0, hMa, hMb, hMc, hMd, hMe, hMf⟩ := fresh6 s τ 0 0 0 0 0
  refine F190_calls _ _ _ _ _ _ _ _ _ _ _ _ _ _ _ _ _ _ _ _ _ _ _ _ _ _ _ _ _ _ _ _ _ _ _ _ _ _ _ _ _  ?_
  unfold F190
  refine al_t (M + 1) fun r1 s2 hr1 b_1 c_2 z_3 => ?_
  have hg1 : Blk s2 r1 (gv (n : Int) [i0, i1, i2, i3, i4, i5, i6, i7] [b0, b1, b2, b3, b4, b5, b6, b7, b8, b9, b10, b11, b12, b13, b14, b15, b16, b17, b18, b19, b20, b21, b22, b23, b24, b25, b26, b27, b28, b29, b30, b31]) 77 (M + 1) := b_1
  clear b_1
  refine jn_u ?_
  refine ld_t hg1 rfl ?_
  refine dInt_i ?_
  refine sB_d (fun hsB1 => by exfalso; omega) (fun hsB1 => ?_)
  refine ld_t hg1 rfl ?_
  refine dInt_i ?_
  intro _
  intros
  refine dBl_i ?_
  refine sB_d (fun hsB2 => by exfalso; omega) (fun hsB2 => ?_)
  refine al_t (M + 2) fun r13 s14 hr13 b_4 c_5 z_6 => ?_
  refine conv_lit u38 u5 (show Blk _ _ (bvs [104, 100]) _ _ from b_4) rfl fun s_7 lit_10 c_8o hsz => ?_
  have c_8 := on_ch b_4 c_8o
  have z_9 := c_8.size
  refine dSl_i ?_
  have h_11 := hg1.ch (c_5.app c_8) (by simp)
  refine ld_t h_11 rfl ?_
  refine dInt_i ?_
  refine wr_a fun n24 hn24 => ?_
  refine al_t (M + 3) fun r25 s26 hr25 b_12 c_13 z_14 => ?_
  have h_15 := lit_10.mv c_13 (tagn (by simp))
  refine app_g (x := [UInt8.ofNat n, 0]) (M + 4) u38 in5 h_15 rfl (by have h := (b_12).sl; rw [hn24, u8n (by omega)] at h; exact h) rfl (by omega) (by omega) fun s_16 a2 c2 o_19 c_17 hne => ?_
  have z_18 := c_17.size
  refine dSl_i ?_
  refine ask_t (by omega) ?_
  rw [slO_zero]
  have h_20 := h_11.ch (c_13.app c_17) (by simp)
  refine app_bv u38 in5 o_19 (gv_slI h_20 rfl rfl) rfl (by omega) fun s_21 a3 c3 o_24 c_22 => ?_
  have z_23 := c_22.size
  refine dSl_i ?_
  refine ask_t (by omega) ?_
  rw [slO_zero]
  have h_25 := h_20.ch c_22 (by simp)
  refine app_bv u38 in5 o_24 (gv_slB h_25 rfl rfl) rfl (by omega) fun s_26 a4 c4 o_29 c_27 => ?_
  have z_28 := c_27.size
  refine dSl_i ?_
  refine tcall (c_full τ (xn := 44) _ (o_29).sl rfl 128 (by omega)) ?_
  rintro v_31 s_30 ⟨acall1, ccall1, rfl, c_33, call1a⟩
  have z_34 := c_33.size
  refine dSl_i ?_
  refine ret_t ?_
  exact ⟨_, _, rfl, (((((((((Ch.refl [] s).ch c_2 (by simp)).ch c_5 (by simp)).fr c_8 hM (by simp)).ch c_13 (by simp)).ch c_17 (by simp)).fr c_22 hM (by simp)).fr c_27 hM (by simp)).ch c_33 (by simp)), call1a⟩
theorem sl_cutB {s : TH} {xa : Option Addr} {l : List UInt8} {τ : Nat} (h : Sl s xa (bvs l) τ) (p c : Nat) (hp : p < l.length) (hpc : c ≠ p) : ∃ g o, slO xa 1 (p : Int) (c : Int) = some ⟨g, o, none⟩ ∧ Sl s (some ⟨g, o, none⟩) (bvs (l.drop p)) τ := by
  rcases h with h | ⟨g, o, rfl, h1, h2, h3⟩
  · have := congrArg List.length h; rw [bvs_len, List.length_nil] at this; omega
  · refine ⟨g, o + p, by rw [slA_mk, if_neg hpc, Nat.mul_one], .inr ⟨g, o + p, rfl, h1, h2, fun j v hv => ?_⟩⟩
    rw [Nat.add_assoc]
    refine h3 (p + j) v ?_
    unfold bvs at hv ⊢
    rw [List.map_drop, List.getElem?_drop] at hv; exact hv
set_option maxRecDepth 100000 in
/-- bollard/layout.DecodeGroup -/
theorem c_ldecGroup (n : Nat) (i0 i1 i2 i3 i4 i5 i6 i7 b0 b1 b2 b3 b4 b5 b6 b7 b8 b9 b10 b11 b12 b13 b14 b15 b16 b17 b18 b19 b20 b21 b22 b23 b24 b25 b26 b27 b28 b29 b30 b31 : UInt8) {xa : Option Addr} {xc : Nat} {τx : Nat} {s : TH} (hx : Sl s xa (bvs (hdL n [i0, i1, i2, i3, i4, i5, i6, i7] [b0, b1, b2, b3, b4, b5, b6, b7, b8, b9, b10, b11, b12, b13, b14, b15, b16, b17, b18, b19, b20, b21, b22, b23, b24, b25, b26, b27, b28, b29, b30, b31])) τx) (hn : n ≤ 7) (hc : 128 ≤ xc) : TRet Tryz.prog 135 #[.slice xa 128 xc] s fun v s' => v = .tuple #[.agg (gv (n : Int) [i0, i1, i2, i3, i4, i5, i6, i7] [b0, b1, b2, b3, b4, b5, b6, b7, b8, b9, b10, b11, b12, b13, b14, b15, b16, b17, b18, b19, b20, b21, b22, b23, b24, b25, b26, b27, b28, b29, b30, b31]).toArray, .int .i64 0] ∧ Ch [] s s' := by
  have he8 : ((UInt8.ofNat n).toNat : Int) = (n : Int) := by rw [← u8n (by omega)]; exact (show (n : Int) % 256 = (n : Int) from by omega)
  obtain ⟨g4, o4, he4, hs4⟩ := sl_cutB hx 4 xc (by rw [hdL_len n rfl rfl]; decide) (by omega)
  obtain ⟨g12, o12, he12, hs12⟩ := sl_cutB hx 12 xc (by rw [hdL_len n rfl rfl]; decide) (by omega)
  have hs0 : Sl s (slO xa 1 0 (xc : Int)) (bvs [104, 100]) τx := hx.pre0 2 xc
  have hxl : (hdL n [i0, i1, i2, i3, i4, i5, i6, i7] [b0, b1, b2, b3, b4, b5, b6, b7, b8, b9, b10, b11, b12, b13, b14, b15, b16, b17, b18, b19, b20, b21, b22, b23, b24, b25, b26, b27, b28, b29, b30, b31]).length = 128 := hdL_len n rfl rfl
  obtain ⟨ax, rfl⟩ := hx.some (fun e => by have := congrArg List.length e; rw [bvs_len, hxl] at this; cases this)
  have hx0 := hx
  obtain ⟨M, hM, hM0, hMa, hMb, hMc, hMd, hMe, hMf⟩ := fresh6 s τx 0 0 0 0 0
  refine F135_calls _ _ _  ?_
  unfold F135
  refine al_t (M + 1) fun r1 s2 hr1 b_1 c_2 z_3 => ?_
  refine sB_f (by rfl) ?_
  refine ask_t (by omega) ?_
  have h_4 := hs0.mv c_2 (tagn (by simp))
  refine conv_bs (l := [104, 100]) u38 u5 (by kernel_rfl) h_4 rfl (fun h => by cases h) ?_
  refine dStr_i ?_
  refine sB_f (by simp only [ByteArray.toList_mk]; rfl) ?_
  refine nz_i ?_
  refine ask_t (by omega) ?_
  have h_5 := hx0.mv c_2 (tagn (by simp))
  refine ld_sl (j := 2) h_5 rfl ?_
  refine dInt_i ?_
  rw [he8]
  refine wr_t (by omega) ?_
  refine ask_t (by omega) ?_
  refine ask_t (by omega) ?_
  rw [show ((4 : Int)) = ((4 : Nat) : Int) from rfl, he4]
  refine nz_i ?_
  have h_6 := hs4.mv c_2 (tagn (by simp))
  refine ld_sl (j := 0) h_6 rfl ?_
  refine ld_sl h_6 rfl ?_
  refine ld_sl h_6 rfl ?_
  refine ld_sl h_6 rfl ?_
  refine ld_sl h_6 rfl ?_
  refine ld_sl h_6 rfl ?_
  refine ld_sl h_6 rfl ?_
  refine ld_sl h_6 rfl ?_
  refine ask_t (by omega) ?_
  refine ask_t (by omega) ?_
  rw [show ((12 : Int)) = ((12 : Nat) : Int) from rfl, he12]
  refine nz_i ?_
  have h_7 := hs12.mv c_2 (tagn (by simp))
  refine ld_sl (j := 0) h_7 rfl ?_
  refine ld_sl h_7 rfl ?_
  refine ld_sl h_7 rfl ?_
  refine ld_sl h_7 rfl ?_
  refine ld_sl h_7 rfl ?_
  refine ld_sl h_7 rfl ?_
  refine ld_sl h_7 rfl ?_
  refine ld_sl h_7 rfl ?_
  refine ld_sl h_7 rfl ?_
  refine ld_sl h_7 rfl ?_
  refine ld_sl h_7 rfl ?_
  refine ld_sl h_7 rfl ?_
  refine ld_sl h_7 rfl ?_
  refine ld_sl h_7 rfl ?_
  refine ld_sl h_7 rfl ?_
  refine ld_sl h_7 rfl ?_
  refine ld_sl h_7 rfl ?_
  refine ld_sl h_7 rfl ?_
  refine ld_sl h_7 rfl ?_
  refine ld_sl h_7 rfl ?_
  refine ld_sl h_7 rfl ?_
  refine ld_sl h_7 rfl ?_
  refine ld_sl h_7 rfl ?_
  refine ld_sl h_7 rfl ?_
  refine ld_sl h_7 rfl ?_
  refine ld_sl h_7 rfl ?_
  refine ld_sl h_7 rfl ?_
  refine ld_sl h_7 rfl ?_
  refine ld_sl h_7 rfl ?_
  refine ld_sl h_7 rfl ?_
  refine ld_sl h_7 rfl ?_
  refine ld_sl h_7 rfl ?_
  refine al_t (M + 2) fun r218 s219 hr218 b_8 c_9 z_10 => ?_
  refine ⟨?_, ?_⟩
  ·
    try rw [show ((12 : Int)) = ((12 : Nat) : Int) from rfl, he12]
    refine nz_i ?_
    have h_11 := h_6.mv c_9 (tagn (by simp))
    have h_12 := h_7.mv c_9 (tagn (by simp))
    refine ld_sl (j := 0) h_12 rfl ?_
    refine ld_sl h_12 rfl ?_
    refine ld_sl h_12 rfl ?_
    refine ld_sl h_12 rfl ?_
    refine ld_sl h_12 rfl ?_
    refine ld_sl h_12 rfl ?_
    refine ld_sl h_12 rfl ?_
    refine ld_sl h_12 rfl ?_
    refine ld_sl h_12 rfl ?_
    refine ld_sl h_12 rfl ?_
    refine ld_sl h_12 rfl ?_
    refine ld_sl h_12 rfl ?_
    refine ld_sl h_12 rfl ?_
    refine ld_sl h_12 rfl ?_
    refine ld_sl h_12 rfl ?_
    refine ld_sl h_12 rfl ?_
    refine ld_sl h_12 rfl ?_
    refine ld_sl h_12 rfl ?_
    refine ld_sl h_12 rfl ?_
    refine ld_sl h_12 rfl ?_
    refine ld_sl h_12 rfl ?_
    refine ld_sl h_12 rfl ?_
    refine ld_sl h_12 rfl ?_
    refine ld_sl h_12 rfl ?_
    refine ld_sl h_12 rfl ?_
    refine ld_sl h_12 rfl ?_
    refine ld_sl h_12 rfl ?_
    refine ld_sl h_12 rfl ?_
    refine ld_sl h_12 rfl ?_
    refine ld_sl h_12 rfl ?_
    refine ld_sl h_12 rfl ?_
    refine ld_sl h_12 rfl ?_
    first | rfl | exact congrArg (Value.int .u8) he8 | exact (congrArg (Value.int .u8) he8).symm
  ·
    refine ⟨?_, ?_⟩
    ·
      try rw [show ((4 : Int)) = ((4 : Nat) : Int) from rfl, he4]
      refine nz_i ?_
      have h_13 := h_6.mv c_9 (tagn (by simp))
      refine ld_sl (j := 0) h_13 rfl ?_
      refine ld_sl h_13 rfl ?_
      refine ld_sl h_13 rfl ?_
      refine ld_sl h_13 rfl ?_
      refine ld_sl h_13 rfl ?_
      refine ld_sl h_13 rfl ?_
      refine ld_sl h_13 rfl ?_
      refine ld_sl h_13 rfl ?_
      first | rfl | exact congrArg (Value.int .u8) he8 | exact (congrArg (Value.int .u8) he8).symm
    ·
      refine ⟨?_, ?_⟩
      ·
        have h_14 := h_5.mv c_9 (tagn (by simp))
        refine ld_sl (j := 2) h_14 rfl ?_
        refine dInt_i ?_
        first | rfl | exact congrArg (Value.int .u8) he8 | exact (congrArg (Value.int .u8) he8).symm
      ·
        refine stG (n : Int) (il := [i0, i1, i2, i3, i4, i5, i6, i7]) (bl := [b0, b1, b2, b3, b4, b5, b6, b7, b8, b9, b10, b11, b12, b13, b14, b15, b16, b17, b18, b19, b20, b21, b22, b23, b24, b25, b26, b27, b28, b29, b30, b31]) rfl rfl rfl b_8 (by rfl) fun s264 b_15 c_16o z_17 => ?_
        have c_16 := on_ch b_8 c_16o
        refine ld41 b_15 ?_
        refine tcall (c_lencGroup (M + 10) n i0 i1 i2 i3 i4 i5 i6 i7 b0 b1 b2 b3 b4 b5 b6 b7 b8 b9 b10 b11 b12 b13 b14 b15 b16 b17 b18 b19 b20 b21 b22 b23 b24 b25 b26 b27 b28 b29 b30 b31 _ (by omega)) ?_
        rintro v_19 s_18 ⟨acall1, ccall1, rfl, c_21, call1a⟩
        have z_22 := c_21.size
        refine dT2 ?_
        refine dSl_i ?_
        refine dInt_i ?_
        refine jn_u ?_
        refine sB_f (by rfl) ?_
        have h_23 := h_5.mv ((c_9.app c_16).app c_21) (tagn (by simp <;> omega))
        refine tcall (c_lsame _ _ (call1a).sl hxl (fun h => by have := (call1a).none_iff h; omega) h_23 hxl (fun h => by cases h)) ?_
        rintro v_25 s_24 ⟨rfl, c_27⟩
        have z_28 := c_27.size
        rw [decide_eq_true rfl]
        refine dBl_i ?_
        intro _
        intros
        refine dBl_i ?_
        refine sB_f (by rfl) ?_
        have h_29 := b_15.ch (c_21.app c_27) (by simp)
        refine ld41 h_29 ?_
        have h_33 := b_1.ch (((c_9.app c_16).app c_21).app c_27) (by simp)
        refine stG (n : Int) (il := [i0, i1, i2, i3, i4, i5, i6, i7]) (bl := [b0, b1, b2, b3, b4, b5, b6, b7, b8, b9, b10, b11, b12, b13, b14, b15, b16, b17, b18, b19, b20, b21, b22, b23, b24, b25, b26, b27, b28, b29, b30, b31]) rfl rfl rfl h_33 (by rfl) fun s487 b_30 c_31o z_32 => ?_
        have c_31 := on_ch h_33 c_31o
        refine ld41 b_30 ?_
        refine ret_t ?_
        exact ⟨rfl, (((((((Ch.refl [] s).ch c_2 (by simp)).ch c_9 (by simp)).fr c_16 hM (by simp)).ch c_21 (by simp)).ch c_27 (by simp)).fr c_31 hM (by simp))⟩
/-- where a group's header lies -/
def hB (n B : Nat) : Int := (n : Int) * (B : Int) + 1
theorem has_hd {V : VolM} {G B N n : Nat} (hg : GeoOk G B N) (hl : V.D.blocks.length = G * B) (hn : n < G) : V.D.has (hB n B) := by
  have h1 : (n + 1) * B ≤ G * B := Nat.mul_le_mul_right B hn
  have h2 : (n : Int) * (B : Int) = ((n * B : Nat) : Int) := (Int.natCast_mul n B).symm
  rw [Nat.succ_mul] at h1
  unfold GeoOk at hg
  unfold hB DiskM.has
  rw [h2, hl]
  omega
theorem hB_inj {n m B : Nat} (hB1 : 2 ≤ B) (h : hB n B = hB m B) : n = m := by
  unfold hB at h
  have h2 : (n : Int) * (B : Int) = (m : Int) * (B : Int) := by omega
  exact Int.natCast_inj.1 (Int.eq_of_mul_eq_mul_right (by omega) h2)
set_option maxRecDepth 100000 in
/-- bollard/alloc.header -/
theorem c_aheader (vp d U : Nat) (V : VolM) (G B N : Nat) (n : Nat) (i0 i1 i2 i3 i4 i5 i6 i7 b0 b1 b2 b3 b4 b5 b6 b7 b8 b9 b10 b11 b12 b13 b14 b15 b16 b17 b18 b19 b20 b21 b22 b23 b24 b25 b26 b27 b28 b29 b30 b31 : UInt8) (s : TH) (hv : VolL s vp d U V 0) (hU : 10 ≤ U) (hg : GeoOk G B N) (hl : V.D.blocks.length = G * B) (hvn : V.n < 1000000000000000) (hn : n < G) (hnow : V.now (hB n B) = hdL n [i0, i1, i2, i3, i4, i5, i6, i7] [b0, b1, b2, b3, b4, b5, b6, b7, b8, b9, b10, b11, b12, b13, b14, b15, b16, b17, b18, b19, b20, b21, b22, b23, b24, b25, b26, b27, b28, b29, b30, b31]) : TRet Tryz.prog 75 #[.pointer (some ⟨vp, 0, none⟩), .agg #[.int .i64 (G : Int), .int .i64 (B : Int), .int .i64 (N : Int)], .int .i64 (n : Int)] s fun v s' => v = .tuple #[.agg (gv (n : Int) [i0, i1, i2, i3, i4, i5, i6, i7] [b0, b1, b2, b3, b4, b5, b6, b7, b8, b9, b10, b11, b12, b13, b14, b15, b16, b17, b18, b19, b20, b21, b22, b23, b24, b25, b26, b27, b28, b29, b30, b31]).toArray, .int .i64 0] ∧ Ch [U, U + 20, U + 21, U + 22, U + 23] s s' ∧ VolL s' vp d U V.tick 0 := by
  have hcan := hg.can
  have hg2 := hg
  unfold GeoOk at hg2
  have hgb := hg.gb
  have hhas := has_hd hg hl hn
  obtain ⟨M, hM, hM0, hMa, hMb, hMc, hMd, hMe, hMf⟩ := fresh6 s (U + 50) 0 0 0 0 0
  refine F75_calls _ _ _ _ _  ?_
  unfold F75
  refine al_t (M + 1) fun r1 s2 hr1 b_1 c_2 z_3 => ?_
  refine al_t (M + 2) fun r3 s4 hr3 b_4 c_5 z_6 => ?_
  have h_7 := b_1.ch c_5 (by simp)
  refine ld_t h_7 rfl ?_
  refine ld_t h_7 rfl ?_
  refine ld_t h_7 rfl ?_
  refine tcall (gc_header (G : Int) (B : Int) (N : Int) (n : Int) hcan (by omega) _) ?_
  rintro v_9 s_8 ⟨rfl, c_11⟩
  have z_12 := c_11.size
  rw [show (n : Int) * (B : Int) + 1 = hB n B from rfl]
  refine dT2 ?_
  refine dInt_i ?_
  refine dBl_i ?_
  refine sB_f (by rfl) ?_
  have h_13 := hv.mv ((c_2.app c_5).app c_11) (rngn50 (by simp))
  refine tcall (c_VRead _ _ _ _ (M + 10) _ _ (by omega) h_13 (by omega) hhas (by omega)) ?_
  rintro v_15 s_14 ⟨acall2, ccall2, rfl, c_17, call2a, call2b⟩
  have z_18 := c_17.size
  rw [hnow] at call2a
  refine dT2 ?_
  refine dSl_i ?_
  refine dInt_i ?_
  refine sB_f (by rfl) ?_
  refine tcall (c_ldecGroup n i0 i1 i2 i3 i4 i5 i6 i7 b0 b1 b2 b3 b4 b5 b6 b7 b8 b9 b10 b11 b12 b13 b14 b15 b16 b17 b18 b19 b20 b21 b22 b23 b24 b25 b26 b27 b28 b29 b30 b31 (call2a).sl (by omega) (call2a).le) ?_
  rintro v_20 s_19 ⟨rfl, c_22⟩
  have z_23 := c_22.size
  refine dT2 ?_
  refine dA41 ?_
  refine dInt_i ?_
  refine al_t (M + 3) fun r232 s233 hr232 b_24 c_25 z_26 => ?_
  refine stG (n : Int) (il := [i0, i1, i2, i3, i4, i5, i6, i7]) (bl := [b0, b1, b2, b3, b4, b5, b6, b7, b8, b9, b10, b11, b12, b13, b14, b15, b16, b17, b18, b19, b20, b21, b22, b23, b24, b25, b26, b27, b28, b29, b30, b31]) rfl rfl rfl b_24 (by rfl) fun s234 b_27 c_28o z_29 => ?_
  have c_28 := on_ch b_24 c_28o
  refine jn_u ?_
  refine jn_u ?_
  refine sB_t (by rfl) ?_
  refine ld_t b_27 rfl ?_
  refine dInt_i ?_
  intro _
  intros
  refine dBl_i ?_
  refine sB_nd (fun hsB4 => by exfalso; omega) (fun hsB4 => ?_)
  intro _
  intros
  refine dInt_i ?_
  refine sB_f (by rfl) ?_
  refine ld41 b_27 ?_
  have h_33 := b_4.ch ((((c_11.app c_17).app c_22).app c_25).app c_28) (by simp <;> omega)
  refine stG (n : Int) (il := [i0, i1, i2, i3, i4, i5, i6, i7]) (bl := [b0, b1, b2, b3, b4, b5, b6, b7, b8, b9, b10, b11, b12, b13, b14, b15, b16, b17, b18, b19, b20, b21, b22, b23, b24, b25, b26, b27, b28, b29, b30, b31]) rfl rfl rfl h_33 (by rfl) fun s409 b_30 c_31o z_32 => ?_
  have c_31 := on_ch h_33 c_31o
  refine ld41 b_30 ?_
  refine ret_t ?_
  have h_34 := call2b.mv (((c_22.app c_25).app c_28).app c_31) (rngn50 (by simp <;> omega))
  exact ⟨rfl, (((((((((Ch.refl [U, U + 20, U + 21, U + 22, U + 23] s).ch c_2 (by simp)).ch c_5 (by simp)).ch c_11 (by simp)).ch c_17 (by simp)).ch c_22 (by simp)).ch c_25 (by simp)).fr c_28 hM (by simp)).fr c_31 hM (by simp)), h_34⟩
def VolM.tk (V : VolM) (k : Int) : VolM := { V with n := V.n + k }
theorem tk_tick (V : VolM) (k : Int) : (V.tk k).tick = V.tk (k + 1) := by unfold VolM.tk VolM.tick; simp only; rw [Int.add_assoc]
theorem tk_zero (V : VolM) : V.tk 0 = V := by unfold VolM.tk; rw [Int.add_zero]
theorem tk_tk (V : VolM) (j k : Int) : (V.tk j).tk k = V.tk (j + k) := by unfold VolM.tk; simp only; rw [Int.add_assoc]
/-- the groups' headers of a volume -/
structure AS (G B : Nat) (V : VolM) (A : Nat → List UInt8 × List UInt8) : Prop where
  len : V.D.blocks.length = G * B
  l8 : ∀ n, n < G → (A n).1.length = 8
  l32 : ∀ n, n < G → (A n).2.length = 32
  now : ∀ n, n < G → V.now (hB n B) = hdL n (A n).1 (A n).2
theorem AS.tk {G B : Nat} {V : VolM} {A : Nat → List UInt8 × List UInt8} (h : AS G B V A) (k : Int) : AS G B (V.tk k) A := ⟨h.len, h.l8, h.l32, h.now⟩
theorem overlay1 (l : List UInt8) (p : Nat) (x : UInt8) (h : p < l.length) : overlay l p [x] = l.set p x := by
  unfold overlay
  rw [List.set_eq_take_append_cons_drop, if_pos h]
  simp
def updA (A : Nat → List UInt8 × List UInt8) (n : Nat) (bl : List UInt8) : Nat → List UInt8 × List UInt8 := fun m => if m = n then ((A n).1, bl) else A m
/-- bollard/bits.With -/
theorem c_bwith (τ : Nat) {xa : Option Addr} {xn : Nat} (xc : Nat) {l : List UInt8} {τx : Nat} {s : TH} (hx : Sl s xa (bvs l) τx) (hn : l.length = xn) (hb : xn ≤ 1000000000) (i : Nat) (hi : i / 8 < xn) (on : Bool) : TRet Tryz.prog 139 #[.slice xa xn xc, .int .i64 (i : Int), .bool on] s fun v s' => ∃ a' c', v = .tuple #[.slice a' xn c', .int .i64 0] ∧ Ch [] s s' ∧ Own s' a' xn c' 5 1 (bvs (withB l i on)) τ := by
  obtain ⟨b, hbk⟩ : ∃ b, l[i / 8]? = some b := ⟨l[i / 8]'(by omega), by simp⟩
  have hgd : l.getD (i / 8) 0 = b := by rw [List.getD_eq_getElem?_getD, hbk]; rfl
  obtain ⟨M, hM, hM0, hMa, hMb, hMc, hMd, hMe, hMf⟩ := fresh6 s τx τ 0 0 0 0
  refine F139_calls _ _ _ _ _  ?_
  unfold F139
  refine jn_u ?_
  refine sB_d (fun hsB1 => by exfalso; omega) (fun hsB1 => ?_)
  refine ask_t (by omega) ?_
  try rw [td8]
  refine wr_t (by omega) ?_
  intro _
  intros
  refine dBl_i ?_
  refine sB_d (fun hsB2 => by exfalso; omega) (fun hsB2 => ?_)
  refine app_bv (xs := []) u38 in5 (Own.nil _ _ _ (M + 5)) hx hn (by omega) fun s_1 a1 c1 o_4 c_2 => ?_
  have z_3 := c_2.size
  have ho0 := o_4
  rw [List.nil_append, Nat.zero_add] at ho0
  simp only [Nat.zero_add]
  refine dSl_i ?_
  refine ask_t (by omega) ?_
  try rw [td8]
  refine wr_t (by omega) ?_
  obtain ⟨a_5, rfl⟩ := ho0.ne_none (by omega)
  refine nz_i ?_
  refine ask_t (by omega) ?_
  refine ld_sl (ho0).sl (by rw [Int.toNat_natCast, Nat.mul_one]; exact bvs_get hbk) ?_
  refine dInt_i ?_
  refine ask_t (by omega) ?_
  rw [tm8]
  refine nm_t rfl ?_
  refine ask_t (by omega) ?_
  rw [shl8 _ (by omega)]
  refine nm_t rfl ?_
  rw [clr8]
  refine nm_t rfl ?_
  refine nz_i ?_
  refine ask_t (by omega) ?_
  refine Own.st ho0 rfl (by rw [Int.toNat_natCast]; omega) fun s27 b_6 c_7o z_8 => ?_
  have c_7 := Ch.on_tag (T := [M + 5]) (Ch.refl _ _) c_7o ho0.tagOf (by simp)
  have ho1 := b_6
  rw [Int.toNat_natCast, Nat.mul_one, bvs_set] at ho1
  have hbk2 : (l.set (i / 8) (clrB b (i % 8)))[i / 8]? = some (clrB b (i % 8)) := List.getElem?_set_self (by omega)
  refine jn_u ?_
  refine sB_i (fun hsB3 => ?_) (fun hsB3 => ?_)
  ·
    refine ask_t (by omega) ?_
    try rw [td8]
    refine wr_t (by omega) ?_
    refine nz_i ?_
    refine ask_t (by omega) ?_
    refine ld_sl (ho1).sl (by rw [Int.toNat_natCast, Nat.mul_one]; exact bvs_get hbk2) ?_
    refine dInt_i ?_
    refine ask_t (by omega) ?_
    try rw [tm8]
    refine nm_t rfl ?_
    refine ask_t (by omega) ?_
    try rw [shl8 _ (by omega)]
    refine nm_t rfl ?_
    rw [or8]
    refine nm_t rfl ?_
    refine nz_i ?_
    refine ask_t (by omega) ?_
    refine Own.st ho1 rfl (by rw [Int.toNat_natCast]; omega) fun s49 b_9 c_10o z_11 => ?_
    have c_10 := Ch.on_tag (T := [M + 5]) (Ch.refl _ _) c_10o ho1.tagOf (by simp)
    have ho2 := b_9
    rw [Int.toNat_natCast, Nat.mul_one, bvs_set, List.set_set] at ho2
    intro _
    intros
    have e : withB l i on = l.set (i / 8) (orB (clrB b (i % 8)) (i % 8)) := by unfold withB setTo; rw [if_pos hsB3, hgd]
    rw [e]
    exact ret_t' (s' := remark s49 (M + 5) τ) rfl ⟨_, _, rfl, remark_ch ((((Ch.refl [] s).fr c_2 hM (by simp)).fr c_7 hM (by simp)).fr c_10 hM (by simp)) hM (by omega), (ho2).remark⟩
  ·
    intro _
    intros
    have e : withB l i on = l.set (i / 8) (clrB b (i % 8)) := by unfold withB setTo; rw [if_neg (by simp [hsB3]), hgd]
    rw [e]
    exact ret_t' (s' := remark s27 (M + 5) τ) rfl ⟨_, _, rfl, remark_ch (((Ch.refl [] s).fr c_2 hM (by simp)).fr c_7 hM (by simp)) hM (by omega), (ho1).remark⟩
theorem fits1 {b o : Int} {x : UInt8} (hb : 0 ≤ b) (h0 : 0 ≤ o) (h1 : o < 128) : fitsP b o (([x] : List UInt8).length : Int) := ⟨hb, h0, by simp, by omega, by simp; omega⟩
theorem arnd_get {G : Nat} (f : Nat → Int) {k : Nat} (h : k < G) : ((List.range G).map f)[k]? = some (f k) := by rw [List.getElem?_map, List.getElem?_range h]; rfl
theorem first_dm {G B N n : Nat} (hg : GeoOk G B N) : ((n : Int) * (B : Int) + (2 + (N : Int) / 4)) / (B : Int) = (n : Int) ∧ ((n : Int) * (B : Int) + (2 + (N : Int) / 4)) % (B : Int) = ((2 + N / 4 : Nat) : Int) := by
  have hg2 := hg
  unfold GeoOk at hg2
  have e : (2 + (N : Int) / 4) = ((2 + N / 4 : Nat) : Int) := by omega
  rw [e]
  constructor
  · rw [Int.add_comm, Int.add_mul_ediv_right _ _ (by omega), Int.ediv_eq_zero_of_lt (by omega) (by omega), Int.zero_add]
  · rw [Int.add_comm, Int.add_mul_emod_self_right, Int.emod_eq_of_lt (by omega) (by omega)]
theorem first_rng {G B N n : Nat} (hg : GeoOk G B N) (hn : n < G) : 0 ≤ (n : Int) * (B : Int) + (2 + (N : Int) / 4) ∧ (n : Int) * (B : Int) + (2 + (N : Int) / 4) < (G : Int) * (B : Int) := by
  have h1 : (n + 1) * B ≤ G * B := Nat.mul_le_mul_right B hn
  have h2 : (n : Int) * (B : Int) = ((n * B : Nat) : Int) := (Int.natCast_mul n B).symm
  have h3 : (G : Int) * (B : Int) = ((G * B : Nat) : Int) := (Int.natCast_mul G B).symm
  rw [Nat.succ_mul] at h1
  unfold GeoOk at hg
  rw [h2, h3]; omega
theorem arnd_all {G near : Nat} {Q : Nat → Prop} (hn : near < G) (h : ∀ q, q < G → Q ((near + q) % G)) : ∀ m, m < G → Q m := by
  intro m hm
  by_cases e : near ≤ m
  · have := h (m - near) (by omega)
    rw [show near + (m - near) = m by omega, Nat.mod_eq_of_lt hm] at this; exact this
  · have := h (m + G - near) (by omega)
    rw [show near + (m + G - near) = m + G by omega, Nat.add_mod_right, Nat.mod_eq_of_lt hm] at this; exact this
end Go.Proofs.YtngploohhmfaiaaGreat.E
/- What a law's arguments are: rows of cells that read as values of a type; slices of them, in states with marks. -/
namespace Go.Proofs.YtngploohhmfaiaaGreat.E
open Go Go.WideShapes
set_option linter.unusedVariables false
/-- a row of cells that reads as a value of a type -/
def Rd {H : Type} (enc : TypeId × Value → H) (P : Program) (W : World) (t : TypeId) (row : List Value) : Prop := ∃ fuel y, DataW.trod enc P W 0 (fun _ => true) true fuel t row = some y
section
variable {H : Type} {enc : TypeId × Value → H} {P : Program} {W : World} {t e : TypeId} {row : List Value}
end
end Go.Proofs.YtngploohhmfaiaaGreat.E
/- What a law's arguments are, with the form's own reach: no slice takes more bytes than a process has. -/
namespace Go.Proofs.YtngploohhmfaiaaGreat.E
open Go Go.WideShapes Go.ChangeShapes
set_option linter.unusedVariables false
section
variable {H : Type} {enc : TypeId × Value → H} {P : Program} {W : World} {t e : TypeId} {row : List Value}
/-- a row of cells that reads as a value of a type, nothing in it too large -/
def Rdw {H : Type} (enc : TypeId × Value → H) (P : Program) (W : World) (t : TypeId) (row : List Value) : Prop := ∃ fuel y, DataW.trod enc P W 0 (fun _ => true) true fuel t row = some y ∧ ∀ x ∈ y.1.weights P t, x ≤ reachBytes
theorem Rdw.rd (h : Rdw enc P W t row) : Rd enc P W t row := by obtain ⟨f, y, h, _⟩ := h; exact ⟨f, y, h⟩
end
end Go.Proofs.YtngploohhmfaiaaGreat.E
/- From a contract in states with marks to the kit's walk of a law. -/
namespace Go.Proofs.YtngploohhmfaiaaGreat.E
open Go Go.RowKit
set_option linter.unusedVariables false
theorem walkB {P : Program} {f : FuncId} {args : Array Value} {W : World}
    (h : TRet P f args ⟨W.heap, fun _ => 0⟩ fun v s' => v = .bool true ∧ Ch [] ⟨W.heap, fun _ => 0⟩ s') :
    Calls P f args W fun e W' => e = .returned (.bool true) ∧ Below W.heap.size W W' :=
  (h W rfl).mono fun e w' ⟨⟨v, s', he, hs, hv, hc⟩, hl⟩ =>
    ⟨by rw [he, hv], ⟨hl.os, hl.tape, hl.output, by rw [← hs]; exact hc.size, fun k hk => by rw [← hs]; exact hc.get k hk (by simp)⟩⟩
theorem walkT {P : Program} {f : FuncId} {args : Array Value} {W : World} {T : List Nat} (hT : 0 ∉ T)
    (h : TRet P f args ⟨W.heap, fun _ => 0⟩ fun v s' => v = .bool true ∧ Ch T ⟨W.heap, fun _ => 0⟩ s') :
    Calls P f args W fun e W' => e = .returned (.bool true) ∧ Below W.heap.size W W' :=
  walkB (h.mono fun v s' ⟨h1, h2⟩ => ⟨h1, Chg.mono h2 fun j _ hB => absurd hB hT⟩)
end Go.Proofs.YtngploohhmfaiaaGreat.E
/- Contracts of functions. -/
namespace Go.Proofs.YtngploohhmfaiaaGreat.E
open Go Go.Proofs Go.RowKit Go.Maps Go.Shelf Go.Sort
set_option linter.unusedVariables false
set_option linter.unusedSimpArgs false
theorem mkL_hd {G B N : Nat} (h : 2 ≤ B) : ∀ (k : Nat) {n : Nat}, n < k → (mkL G B N k)[n * B + 1]? = some (hdL n (iL n) (setsB z32 (nB n N)))
  | 0, n, hn => by omega
  | k + 1, n, hn => by
    have hl := mkL_len (G := G) (N := N) h k
    by_cases e : n = k
    · subst e
      rw [mkL, List.getElem?_append_right (by omega), hl, Nat.add_sub_cancel_left]
      rfl
    · have h1 : (n + 1) * B ≤ k * B := Nat.mul_le_mul_right B (by omega)
      rw [Nat.succ_mul] at h1
      rw [mkL, List.getElem?_append_left (by omega)]
      exact mkL_hd h k (by omega)
theorem hB_nat (n B : Nat) : hB n B = ((n * B + 1 : Nat) : Int) := by unfold hB; rw [← Int.natCast_mul]; omega
def A0 (N : Nat) : Nat → List UInt8 × List UInt8 := fun n => (iL n, setsB z32 (nB n N))
theorem fresh_now (bs : List (List UInt8)) (b : Int) : (VolM.fresh bs).now b = bs.getD b.toNat [] := rfl
theorem AS.start {G B N : Nat} (hg : GeoOk G B N) : AS G B (VolM.fresh (makeL G B N)) (A0 N) := by
  have hg2 := hg
  unfold GeoOk at hg2
  refine ⟨fresh_len hg, fun n hn => rfl, fun n hn => sets32 _, fun n hn => ?_⟩
  rw [fresh_now, hB_nat, Int.toNat_natCast, List.getD_eq_getElem?_getD]
  have h1 : n = 0 ∨ 1 * B ≤ n * B := by
    by_cases e : n = 0
    · exact .inl e
    · exact .inr (Nat.mul_le_mul_right B (by omega))
  have e1 : n * B + 1 ≠ 2 := by rcases h1 with rfl | h1 <;> omega
  have e2 : n * B + 1 ≠ 2 + N / 4 := by rcases h1 with rfl | h1 <;> omega
  unfold makeL
  rw [List.getElem?_set_ne (fun h => e2 h.symm), List.getElem?_set_ne (fun h => e1 h.symm), mkL_hd (by omega) G hn]
  rfl
theorem ticks_le (V : VolM) (b : Int) : V.ticks b ≤ V.n + 1 := by unfold VolM.ticks; split <;> omega
theorem tk_n (V : VolM) (k : Int) : (V.tk k).n = V.n + k := rfl
theorem tk_last (V : VolM) (k : Int) : (V.tk k).P.last = V.P.last := rfl
def T2 (q p kq jq : Nat) : Nat := if kq = q ∧ p < jq then 1 else 0
end Go.Proofs.YtngploohhmfaiaaGreat.E
/- Contracts of functions. -/
namespace Go.Proofs.YtngploohhmfaiaaGreat.E
open Go Go.Proofs Go.RowKit Go.Maps Go.Shelf Go.Sort
set_option linter.unusedVariables false
set_option linter.unusedSimpArgs false
theorem cntB_all {l : List UInt8} : ∀ {n : Nat}, (∀ j, j < n → hasB l j = true) → cntB l n = n
  | 0, _ => rfl
  | n + 1, h => by rw [cntB, cntB_all (fun j hj => h j (by omega)), if_pos (h n (by omega))]
theorem cntB_mono {l : List UInt8} {a : Nat} : ∀ (d : Nat), cntB l a ≤ cntB l (a + d) ∧ cntB l (a + d) ≤ cntB l a + d
  | 0 => ⟨Nat.le_refl _, Nat.le_refl _⟩
  | d + 1 => by
    have h := cntB_mono (l := l) (a := a) d
    rw [← Nat.add_assoc, cntB]
    split <;> omega
theorem cntB_with {l : List UInt8} {i : Nat} (h : i / 8 < l.length) (hb : hasB l i = false) : ∀ n, cntB (withB l i true) n = cntB l n + if i < n then 1 else 0
  | 0 => rfl
  | n + 1 => by
    rw [cntB, cntB, cntB_with h hb n, hasB_with h]
    by_cases e : n = i
    · subst e; simp [hb]
    · simp only [if_neg e]
      by_cases e2 : i < n
      · rw [if_pos e2, if_pos (show i < n + 1 by omega)]; omega
      · rw [if_neg e2, if_neg (show ¬ i < n + 1 by omega)]; omega
/-- the inodes' row, the first two set -/
def rk (l : List UInt8) : Nat → List UInt8
  | 0 => l
  | k + 1 => withB (rk l k) k true
theorem rk_len (l : List UInt8) : ∀ k, (rk l k).length = l.length
  | 0 => rfl
  | k + 1 => by rw [rk, withB_len, rk_len]
def rowI (n : Nat) (l : List UInt8) : List UInt8 := if n = 0 then rk l 2 else l
theorem rowI_len (n : Nat) (l : List UInt8) : (rowI n l).length = l.length := by unfold rowI; split <;> simp [rk_len]
theorem rk_has {l : List UInt8} {k : Nat} (hk : k ≤ 8 * l.length) (j : Nat) : hasB (rk l k) j = if j < k then true else hasB l j := by
  induction k with
  | zero => rw [if_neg (by omega)]; rfl
  | succ k ih =>
    rw [rk, hasB_with (by rw [rk_len]; omega), ih (by omega)]
    by_cases e : j = k
    · subst e; rw [if_pos rfl, if_pos (by omega)]
    · rw [if_neg e]
      by_cases e2 : j < k
      · rw [if_pos e2, if_pos (by omega)]
      · rw [if_neg e2, if_neg (by omega)]
theorem rowI_eq {l : List UInt8} {n k : Nat} (h : (k = 2 ∧ n = 0) ∨ (k = 0 ∧ n ≠ 0)) : rk l k = rowI n l := by
  unfold rowI
  rcases h with ⟨rfl, h⟩ | ⟨rfl, h⟩
  · rw [if_pos h]
  · rw [if_neg h]; rfl
/-- how many of a group's inodes may be given -/
def spN (N n : Nat) (l : List UInt8) : Int := (N : Int) - (cntB (rowI n l) N : Int)
theorem spN_zero {N n : Nat} {l : List UInt8} (h : ∀ j, j < N → hasB (rowI n l) j = true) : spN N n l = 0 := by unfold spN; rw [cntB_all h]; omega
theorem spN_rng (N n : Nat) (l : List UInt8) : 0 ≤ spN N n l ∧ spN N n l ≤ N := by have := cntB_le (rowI n l) N; unfold spN; omega
/-- how many of a group's blocks are free -/
def frN (B N : Nat) (l : List UInt8) : Int := (B : Int) - ((2 + N / 4 : Nat) : Int) - (cntB l B : Int) + (cntB l (2 + N / 4) : Int)
theorem frN_rng {B N : Nat} (h : 2 + N / 4 ≤ B) (l : List UInt8) : 0 ≤ frN B N l ∧ frN B N l ≤ B := by
  obtain ⟨d, rfl⟩ : ∃ d, B = 2 + N / 4 + d := ⟨B - (2 + N / 4), by omega⟩
  have := cntB_mono (l := l) (a := 2 + N / 4) d
  unfold frN; omega
def roomB (B N : Nat) (A : Nat → List UInt8 × List UInt8) : Nat → Int
  | 0 => 0
  | k + 1 => roomB B N A k + frN B N (A k).2
def roomI (N : Nat) (A : Nat → List UInt8 × List UInt8) : Nat → Int
  | 0 => 0
  | k + 1 => roomI N A k + spN N k (A k).1
theorem roomB_s {B N n : Nat} {A : Nat → List UInt8 × List UInt8} {l : List UInt8} (e : (A n).2 = l) : roomB B N A n + ((B : Int) - (2 + (N : Int) / 4) - (cntB l B : Int) + (cntB l (2 + N / 4) : Int)) = roomB B N A (n + 1) := by
  rw [roomB, e]; unfold frN; omega
theorem roomI_s {N n : Nat} {A : Nat → List UInt8 × List UInt8} {l : List UInt8} (e : (A n).1 = l) : roomI N A n + spN N n l = roomI N A (n + 1) := by rw [roomI, e]
theorem roomB_rng {B N : Nat} (h : 2 + N / 4 ≤ B) (A : Nat → List UInt8 × List UInt8) : ∀ k, 0 ≤ roomB B N A k ∧ roomB B N A k ≤ k * B
  | 0 => by unfold roomB; omega
  | k + 1 => by
    have h1 := roomB_rng h A k
    have h2 := frN_rng (B := B) (N := N) h (A k).2
    have h3 : ((k + 1 : Nat) : Int) * (B : Int) = (k : Int) * B + B := by rw [Int.natCast_add, Int.add_mul, Int.natCast_one, Int.one_mul]
    rw [roomB, h3]; omega
theorem roomI_rng (N : Nat) (A : Nat → List UInt8 × List UInt8) : ∀ k, 0 ≤ roomI N A k ∧ roomI N A k ≤ k * N
  | 0 => by unfold roomI; omega
  | k + 1 => by
    have h1 := roomI_rng N A k
    have h2 := spN_rng N k (A k).1
    have h3 : ((k + 1 : Nat) : Int) * (N : Int) = (k : Int) * N + N := by rw [Int.natCast_add, Int.add_mul, Int.natCast_one, Int.one_mul]
    rw [roomI, h3]; omega
/-- bollard/alloc.spare -/
theorem c_spare (a b : Int) (N n : Nat) (i0 i1 i2 i3 i4 i5 i6 i7 b0 b1 b2 b3 b4 b5 b6 b7 b8 b9 b10 b11 b12 b13 b14 b15 b16 b17 b18 b19 b20 b21 b22 b23 b24 b25 b26 b27 b28 b29 b30 b31 : UInt8) (s : TH) (hN : 1 ≤ N ∧ N ≤ 64) (hn : n ≤ 7) : TRet Tryz.prog 93 #[.agg #[.int .i64 a, .int .i64 b, .int .i64 (N : Int)], .agg (gv (n : Int) [i0, i1, i2, i3, i4, i5, i6, i7] [b0, b1, b2, b3, b4, b5, b6, b7, b8, b9, b10, b11, b12, b13, b14, b15, b16, b17, b18, b19, b20, b21, b22, b23, b24, b25, b26, b27, b28, b29, b30, b31]).toArray] s fun v s' => ∃ i : Nat, v = .tuple #[.int .i64 (i : Int), .int .i64 (spN N n [i0, i1, i2, i3, i4, i5, i6, i7])] ∧ Ch [] s s' ∧ (0 < spN N n [i0, i1, i2, i3, i4, i5, i6, i7] → i < N ∧ hasB (rowI n [i0, i1, i2, i3, i4, i5, i6, i7]) i = false) := by
  obtain ⟨M, hM, hM0, hMa, hMb, hMc, hMd, hMe, hMf⟩ := fresh6 s 0 0 0 0 0 0
  refine F93_calls _ _ _ _ _ _ _ _ _ _ _ _ _ _ _ _ _ _ _ _ _ _ _ _ _ _ _ _ _ _ _ _ _ _ _ _ _ _ _ _ _ _ _ _  ?_
  unfold F93
  refine al_t (M + 1) fun r1 s2 hr1 b_1 c_2 z_3 => ?_
  refine al_t (M + 2) fun r3 s4 hr3 b_4 c_5 z_6 => ?_
  have hg1 : Blk s4 r3 (gv (n : Int) [i0, i1, i2, i3, i4, i5, i6, i7] [b0, b1, b2, b3, b4, b5, b6, b7, b8, b9, b10, b11, b12, b13, b14, b15, b16, b17, b18, b19, b20, b21, b22, b23, b24, b25, b26, b27, b28, b29, b30, b31]) 77 (M + 2) := b_4
  have hq0 : Sl s4 (some ⟨r3, 1, none⟩) (bvs [i0, i1, i2, i3, i4, i5, i6, i7]) (M + 2) := gv_slI hg1 rfl rfl
  try rw [slO_zero]
  refine ask_t (by omega) ?_
  refine ⟨fun vs H' => ∃ s' : TH, s'.h = H' ∧ ∃ pa pn pc i, vs = [.slice pa pn pc, .int .i64 i] ∧ Ch [] s4 s' ∧ (∃ k τq : Nat, i = k ∧ k ≤ 2 ∧ (n = 0 ∨ k = 0) ∧ pn = 8 ∧ Sl s' pa (bvs (rk [i0, i1, i2, i3, i4, i5, i6, i7] k)) τq), fun vs H' => match vs with | [.slice pa pn pc, .int .i64 i] => (2 - i).toNat | _ => 0, ⟨s4, rfl, _, _, _, _, rfl, Ch.refl _ _, ?_⟩, ?_⟩
  ·
    exact ⟨0, M + 2, rfl, by omega, .inr rfl, rfl, hq0⟩
  ·
    intro pa pn pc i _ _ _ _ _ _ _ _ _ _ _ _ _ _ _ H_ hI_8
    obtain ⟨s_7, rfl, pa_, pn_, pc_, i_, hvs, c_9, k, τq, rfl, hk, hn0, rfl, hq⟩ := hI_8
    cases hvs
    have z_10 := c_9.size
    have hlk : (rk [i0, i1, i2, i3, i4, i5, i6, i7] k).length = 8 := rk_len _ k
    refine jn_u ?_
    refine sB_d (fun hsB1 => ?_) (fun hsB1 => ?_)
    ·
      have h_11 := hg1.ch c_9 (by simp)
      refine ld_t h_11 rfl ?_
      refine dInt_i ?_
      intro _
      intros
      refine dBl_i ?_
      refine sB_d (fun hsB2 => ?_) (fun hsB2 => ?_)
      ·
        refine tcall (c_bwith (xn := 8) (M + 10) pc hq hlk (by omega) k (by omega) true) ?_
        rintro v_13 s_12 ⟨acall1, ccall1, rfl, c_15, call1a⟩
        have z_16 := c_15.size
        refine dT2 ?_
        refine dSl_i ?_
        refine dInt_i ?_
        refine wr_t (by omega) ?_
        refine ⟨⟨s_12, rfl, _, _, _, _, rfl, (((Ch.refl [] s4).ch c_9 (by simp)).ch c_15 (by simp)), ?_⟩, ?_⟩
        ·
          exact ⟨k + 1, _, by omega, by omega, by omega, rfl, (call1a).sl⟩
        ·
          simp only []; omega
      ·
        have h_17 := b_1.ch (c_5.app c_9) (by simp)
        refine ld_t h_17 rfl ?_
        refine dInt_i ?_
        have hrow : rk [i0, i1, i2, i3, i4, i5, i6, i7] k = rowI n [i0, i1, i2, i3, i4, i5, i6, i7] := rowI_eq (by first | (left; constructor <;> omega) | (right; constructor <;> omega))
        rw [hrow] at hq hlk
        refine tcall (c_first (xn := 8) pc hq hlk N 0 (by omega) (by omega)) ?_
        rintro v_19 s_18 ⟨icall2, okcall2, rfl, c_21, call2a, call2b, call2c⟩
        have z_22 := c_21.size
        refine dT2 ?_
        refine dInt_i ?_
        refine dBl_i ?_
        refine sB_n (fun hsB3 => ?_) (fun hsB3 => ?_)
        ·
          refine ret_t ?_
          exact ⟨0, by rw [spN_zero (call2c (by assumption))]; rfl, (((((Ch.refl [] s).ch c_2 (by simp)).ch c_5 (by simp)).ch c_9 (by simp)).ch c_21 (by simp)), fun h => by (exfalso; rw [spN_zero (call2c (by assumption))] at h; omega)⟩
        ·
          have h_23 := h_17.ch c_21 (by simp)
          refine ld_t h_23 rfl ?_
          refine dInt_i ?_
          refine ld_t h_23 rfl ?_
          refine dInt_i ?_
          have h_24 := hq.mv c_21 (tagn (by simp))
          refine tcall (c_count (xn := 8) pc h_24 hlk N (by omega)) ?_
          rintro v_26 s_25 ⟨rfl, c_28⟩
          have z_29 := c_28.size
          have hcl := cntB_le (rowI n [i0, i1, i2, i3, i4, i5, i6, i7]) N
          refine dInt_i ?_
          refine ⟨?_, ?_⟩
          ·
            have h_30 := h_23.ch c_28 (by simp)
            refine ld_t h_30 rfl ?_
            refine dInt_i ?_
            rfl
          ·
            refine wr_t (by omega) ?_
            refine ret_t ?_
            exact ⟨_, rfl, ((((((Ch.refl [] s).ch c_2 (by simp)).ch c_5 (by simp)).ch c_9 (by simp)).ch c_21 (by simp)).ch c_28 (by simp)), fun _ => ⟨(call2a (by assumption)).1, (call2a (by assumption)).2.1⟩⟩
    ·
      intro _
      intros
      refine dBl_i ?_
      refine sB_f (by rfl) ?_
      have h_31 := b_1.ch (c_5.app c_9) (by simp)
      refine ld_t h_31 rfl ?_
      refine dInt_i ?_
      have hrow : rk [i0, i1, i2, i3, i4, i5, i6, i7] k = rowI n [i0, i1, i2, i3, i4, i5, i6, i7] := rowI_eq (by first | (left; constructor <;> omega) | (right; constructor <;> omega))
      rw [hrow] at hq hlk
      refine tcall (c_first (xn := 8) pc hq hlk N 0 (by omega) (by omega)) ?_
      rintro v_33 s_32 ⟨icall4, okcall4, rfl, c_35, call4a, call4b, call4c⟩
      have z_36 := c_35.size
      refine dT2 ?_
      refine dInt_i ?_
      refine dBl_i ?_
      refine sB_n (fun hsB5 => ?_) (fun hsB5 => ?_)
      ·
        refine ret_t ?_
        exact ⟨0, by rw [spN_zero (call4c (by assumption))]; rfl, (((((Ch.refl [] s).ch c_2 (by simp)).ch c_5 (by simp)).ch c_9 (by simp)).ch c_35 (by simp)), fun h => by (exfalso; rw [spN_zero (call4c (by assumption))] at h; omega)⟩
      ·
        have h_37 := h_31.ch c_35 (by simp)
        refine ld_t h_37 rfl ?_
        refine dInt_i ?_
        refine ld_t h_37 rfl ?_
        refine dInt_i ?_
        have h_38 := hq.mv c_35 (tagn (by simp))
        refine tcall (c_count (xn := 8) pc h_38 hlk N (by omega)) ?_
        rintro v_40 s_39 ⟨rfl, c_42⟩
        have z_43 := c_42.size
        have hcl := cntB_le (rowI n [i0, i1, i2, i3, i4, i5, i6, i7]) N
        refine dInt_i ?_
        refine ⟨?_, ?_⟩
        ·
          have h_44 := h_37.ch c_42 (by simp)
          refine ld_t h_44 rfl ?_
          refine dInt_i ?_
          rfl
        ·
          refine wr_t (by omega) ?_
          refine ret_t ?_
          exact ⟨_, rfl, ((((((Ch.refl [] s).ch c_2 (by simp)).ch c_5 (by simp)).ch c_9 (by simp)).ch c_35 (by simp)).ch c_42 (by simp)), fun _ => ⟨(call4a (by assumption)).1, (call4a (by assumption)).2.1⟩⟩
set_option maxRecDepth 100000 in
/-- bollard/alloc.Room -/
theorem c_room (vp d U : Nat) (V : VolM) (G B N : Nat) (A : Nat → List UInt8 × List UInt8) (s : TH) (hv : VolL s vp d U V 0) (hU : 10 ≤ U) (hg : GeoOk G B N) (hvn : V.n < 100000000) (hlp : V.P.last < 900000) (hA : AS G B V A) : TRet Tryz.prog 39 #[.pointer (some ⟨vp, 0, none⟩), .agg #[.int .i64 (G : Int), .int .i64 (B : Int), .int .i64 (N : Int)]] s fun v s' => v = .tuple #[.int .i64 (roomB B N A G), .int .i64 (roomI N A G), .int .i64 0] ∧ Ch [U, U + 3, U + 20, U + 21, U + 22, U + 23, U + 30, U + 32] s s' ∧ VolL s' vp d U (V.tk G) 0 := by
  have hcan := hg.can
  have hg2 := hg
  unfold GeoOk at hg2
  have hgb := hg.gb
  have hpk := hv.pokk
  have hp0 := hpk.lst
  have hl := hA.len
  have hgbI : (G : Int) * (B : Int) = ((G * B : Nat) : Int) := (Int.natCast_mul G B).symm
  obtain ⟨M, hM, hM0, hMa, hMb, hMc, hMd, hMe, hMf⟩ := fresh6 s (U + 50) 0 0 0 0 0
  refine F39_calls _ _ _ _  ?_
  unfold F39
  refine al_t (M + 1) fun r1 s2 hr1 b_1 c_2 z_3 => ?_
  refine ld_t b_1 rfl ?_
  refine ld_t b_1 rfl ?_
  refine ld_t b_1 rfl ?_
  have h_4 := hv.mv c_2 (rngn50 (by simp))
  refine tcall (c_readyA vp d U V _ _ _ _ h_4 hU hcan (by rw [hl, hgbI]; omega)) ?_
  rintro v_6 s_5 ⟨rfl, c_8, call1a⟩
  have z_9 := c_8.size
  refine dInt_i ?_
  refine sB_f (by rfl) ?_
  have h_10 := b_1.ch c_8 (by simp <;> omega)
  refine ld_t h_10 rfl ?_
  refine dInt_i ?_
  refine ⟨fun vs H' => ∃ s' : TH, s'.h = H' ∧ ∃ xb xi i, vs = [.int .i64 xb, .int .i64 xi, .int .i64 i] ∧ Ch [U, U + 20, U + 21, U + 22, U + 23, M + 9] s_5 s' ∧ (∃ n : Nat, i = n ∧ n ≤ G ∧ xb = roomB B N A n ∧ xi = roomI N A n ∧ VolL s' vp d U (V.tk n) 0), fun vs H' => match vs with | [.int .i64 xb, .int .i64 xi, .int .i64 i] => ((G : Int) - i).toNat | _ => 0, ⟨s_5, rfl, _, _, _, rfl, Ch.refl _ _, ?_⟩, ?_⟩
  ·
    exact ⟨0, rfl, by omega, rfl, rfl, by rw [show ((0 : Nat) : Int) = 0 from rfl, tk_zero]; exact call1a⟩
  ·
    intro xb xi i _ _ _ _ _ _ _ _ _ _ _ _ _ _ _ _ _ _ _ _ _ _ _ _ _ _ _ _ _ _ _ _ _ _ _ _ _ _ _ _ _ _ _ _ _ _ _ _ _ _ _ _ _ _ _ _ _ _ _ _ _ _ _ _ _ H_ hI_12
    obtain ⟨s_11, rfl, xb_, xi_, i_, hvs, c_13, n, rfl, hk, rfl, rfl, hv2⟩ := hI_12
    cases hvs
    have z_14 := c_13.size
    have hr1 := roomB_rng (B := B) (N := N) (by omega) A n
    have hr2 := roomI_rng N A n
    have hm1 : n * B ≤ 8 * 256 := Nat.mul_le_mul (by omega) (by omega)
    have hm2 : n * N ≤ 8 * 64 := Nat.mul_le_mul (by omega) (by omega)
    rw [← Int.natCast_mul] at hr1 hr2
    refine sB_d (fun hsB2 => ?_) (fun hsB2 => ?_)
    ·
      have h_15 := h_10.ch c_13 (by simp <;> omega)
      refine ld_t h_15 rfl ?_
      refine ld_t h_15 rfl ?_
      refine ld_t h_15 rfl ?_
      have hnG : n < G := by omega
      obtain ⟨i0, i1, i2, i3, i4, i5, i6, i7, hil⟩ := len8 (hA.l8 n hnG)
      obtain ⟨b0, b1, b2, b3, b4, b5, b6, b7, b8, b9, b10, b11, b12, b13, b14, b15, b16, b17, b18, b19, b20, b21, b22, b23, b24, b25, b26, b27, b28, b29, b30, b31, hbl⟩ := len32 (hA.l32 n hnG)
      have hnow : (V.tk (n : Int)).now (hB n B) = hdL n [i0, i1, i2, i3, i4, i5, i6, i7] [b0, b1, b2, b3, b4, b5, b6, b7, b8, b9, b10, b11, b12, b13, b14, b15, b16, b17, b18, b19, b20, b21, b22, b23, b24, b25, b26, b27, b28, b29, b30, b31] := by rw [← hil, ← hbl]; exact (hA.tk _).now n hnG
      refine tcall (c_aheader vp d U (V.tk n) G B N n i0 i1 i2 i3 i4 i5 i6 i7 b0 b1 b2 b3 b4 b5 b6 b7 b8 b9 b10 b11 b12 b13 b14 b15 b16 b17 b18 b19 b20 b21 b22 b23 b24 b25 b26 b27 b28 b29 b30 b31 _ hv2 hU hg hl (by show V.n + _ < _; omega) hnG hnow) ?_
      rintro v_17 s_16 ⟨rfl, c_19, call2a⟩
      have z_20 := c_19.size
      have hv4 : VolL s_16 vp d U (V.tk ((n : Int) + 1)) 0 := by rw [← tk_tick]; exact call2a
      refine dT2 ?_
      refine dA41 ?_
      refine dInt_i ?_
      refine al_t (M + 9) fun r132 s133 hr132 b_21 c_22 z_23 => ?_
      refine stG (n : Int) (il := [i0, i1, i2, i3, i4, i5, i6, i7]) (bl := [b0, b1, b2, b3, b4, b5, b6, b7, b8, b9, b10, b11, b12, b13, b14, b15, b16, b17, b18, b19, b20, b21, b22, b23, b24, b25, b26, b27, b28, b29, b30, b31]) rfl rfl rfl b_21 (by rfl) fun s134 b_24 c_25o z_26 => ?_
      have c_25 := on_ch b_21 c_25o
      refine sB_f (by rfl) ?_
      have h_27 := h_15.ch ((c_19.app c_22).app c_25) (by simp <;> omega)
      refine ld_t h_27 rfl ?_
      refine ld_t h_27 rfl ?_
      refine ld_t h_27 rfl ?_
      refine tcall (gc_data (G : Int) (B : Int) (N : Int) (n : Int) hcan (by omega) _) ?_
      rintro v_29 s_28 ⟨rfl, c_31⟩
      have z_32 := c_31.size
      refine dT3 ?_
      refine dInt_i ?_
      refine dInt_i ?_
      refine dBl_i ?_
      have h_33 := h_27.ch c_31 (by simp)
      refine ld_t h_33 rfl ?_
      refine ld_t h_33 rfl ?_
      refine ld_t h_33 rfl ?_
      have hfr := first_rng hg hnG
      have hdm := first_dm (n := n) hg
      refine tcall (gc_group (G : Int) (B : Int) (N : Int) _ hcan hfr _) ?_
      rintro v_35 s_34 ⟨rfl, c_37⟩
      have z_38 := c_37.size
      rw [hdm.1, hdm.2]
      refine dT3 ?_
      refine dInt_i ?_
      refine dInt_i ?_
      refine dBl_i ?_
      refine ask_t (by omega) ?_
      refine wr_t (by omega) ?_
      refine ask_t (by omega) ?_
      try rw [slO_zero]
      rw [show ((2 + N / 4 : Nat) : Int) + ((B : Int) - (2 + (N : Int) / 4)) = (B : Int) by omega]
      have h_39 := b_24.ch (c_31.app c_37) (by simp)
      refine tcall (c_count (xn := 32) 32 (gv_slB h_39 rfl rfl) rfl B (by omega)) ?_
      rintro v_41 s_40 ⟨rfl, c_43⟩
      have z_44 := c_43.size
      have hc1 := cntB_le [b0, b1, b2, b3, b4, b5, b6, b7, b8, b9, b10, b11, b12, b13, b14, b15, b16, b17, b18, b19, b20, b21, b22, b23, b24, b25, b26, b27, b28, b29, b30, b31] B
      refine dInt_i ?_
      refine wr_t (by omega) ?_
      try rw [slO_zero]
      have h_45 := h_39.ch c_43 (by simp)
      refine tcall (c_count (xn := 32) 32 (gv_slB h_45 rfl rfl) rfl (2 + N / 4) (by omega)) ?_
      rintro v_47 s_46 ⟨rfl, c_49⟩
      have z_50 := c_49.size
      have hc2 := cntB_le [b0, b1, b2, b3, b4, b5, b6, b7, b8, b9, b10, b11, b12, b13, b14, b15, b16, b17, b18, b19, b20, b21, b22, b23, b24, b25, b26, b27, b28, b29, b30, b31] (2 + N / 4)
      refine dInt_i ?_
      refine wr_t (by omega) ?_
      refine wr_t (by omega) ?_
      have h_51 := h_33.ch ((c_37.app c_43).app c_49) (by simp)
      refine ld_t h_51 rfl ?_
      refine ld_t h_51 rfl ?_
      refine ld_t h_51 rfl ?_
      have h_52 := h_45.ch c_49 (by simp)
      refine ld41 h_52 ?_
      refine tcall (c_spare (G : Int) (B : Int) N n i0 i1 i2 i3 i4 i5 i6 i7 b0 b1 b2 b3 b4 b5 b6 b7 b8 b9 b10 b11 b12 b13 b14 b15 b16 b17 b18 b19 b20 b21 b22 b23 b24 b25 b26 b27 b28 b29 b30 b31 _ (by omega) (by omega)) ?_
      rintro v_54 s_53 ⟨icall7, rfl, c_56, call7a⟩
      have z_57 := c_56.size
      have hs2 := spN_rng N n [i0, i1, i2, i3, i4, i5, i6, i7]
      refine dT2 ?_
      refine dInt_i ?_
      refine dInt_i ?_
      refine wr_t (by omega) ?_
      refine wr_t (by omega) ?_
      refine ⟨⟨s_53, rfl, _, _, _, rfl, ((((((((((Ch.refl [U, U + 20, U + 21, U + 22, U + 23, M + 9] s_5).ch c_13 (by simp)).ch c_19 (by simp)).ch c_22 (by simp)).ch c_25 (by simp)).ch c_31 (by simp)).ch c_37 (by simp)).ch c_43 (by simp)).ch c_49 (by simp)).ch c_56 (by simp)), ?_⟩, ?_⟩
      ·
        have h_58 := hv4.mv ((((((c_22.app c_25).app c_31).app c_37).app c_43).app c_49).app c_56) (rngn50 (by simp <;> omega))
        exact ⟨n + 1, by omega, by omega, roomB_s hbl, roomI_s hil, by rw [show ((n + 1 : Nat) : Int) = (n : Int) + 1 by omega]; exact h_58⟩
      ·
        simp only []; omega
    ·
      refine ret_t ?_
      obtain rfl : n = G := by omega
      exact ⟨rfl, ((((Ch.refl [U, U + 3, U + 20, U + 21, U + 22, U + 23, U + 30, U + 32] s).ch c_2 (by simp)).ch c_8 (by simp)).fr c_13 hM (by simp)), hv2⟩
theorem abk_dm {B n i : Nat} (hi : i < B) : (((n * B + i : Nat) : Int)) / (B : Int) = (n : Int) ∧ (((n * B + i : Nat) : Int)) % (B : Int) = (i : Int) := by
  rw [← Int.natCast_ediv, ← Int.natCast_emod, Nat.mul_comm n B, Nat.mul_add_div (by omega), Nat.mul_add_mod, Nat.div_eq_of_lt hi, Nat.mod_eq_of_lt hi, Nat.add_zero]
  exact ⟨rfl, rfl⟩
theorem updA_same {A : Nat → List UInt8 × List UInt8} {n : Nat} {l : List UInt8} : updA A n l n = ((A n).1, l) := by unfold updA; rw [if_pos rfl]
theorem updA_ne {A : Nat → List UInt8 × List UInt8} {n m : Nat} {l : List UInt8} (h : m ≠ n) : updA A n l m = A m := by unfold updA; rw [if_neg h]
/-- what was given is allocated -/
structure GvI (G B N : Nat) (A : Nat → List UInt8 × List UInt8) (mk : List (Int × Value)) : Prop where
  at_ : ∀ b v, mget b mk = some v → v = .bool true ∧ ∃ n i : Nat, n < G ∧ 2 + N / 4 ≤ i ∧ i < B ∧ b = ((n * B + i : Nat) : Int) ∧ hasB (A n).2 i = true
theorem blk_inj {B n m i j : Nat} (hi : i < B) (hj : j < B) (h : ((n * B + i : Nat) : Int) = ((m * B + j : Nat) : Int)) : n = m ∧ i = j := by
  have h1 := abk_dm (n := n) hi
  have h2 := abk_dm (n := m) hj
  rw [h] at h1
  constructor
  · exact Int.natCast_inj.1 (h1.1.symm.trans h2.1)
  · exact Int.natCast_inj.1 (h1.2.symm.trans h2.2)
theorem GvI.new {G B N n i : Nat} {A : Nat → List UInt8 × List UInt8} {mk : List (Int × Value)} (h : GvI G B N A mk) (hi : i < B) (hb : hasB (A n).2 i = false) : mget ((n * B + i : Nat) : Int) mk = none := by
  cases e : mget ((n * B + i : Nat) : Int) mk with
  | none => rfl
  | some v =>
    obtain ⟨_, m, j, h1, h2, h3, h4, h5⟩ := h.at_ _ _ e
    obtain ⟨rfl, rfl⟩ := blk_inj hi h3 h4
    rw [hb] at h5; cases h5
theorem GvI.put {G B N n i : Nat} {A : Nat → List UInt8 × List UInt8} {mk : List (Int × Value)} (h : GvI G B N A mk) (h32 : (A n).2.length = 32) (hB : B ≤ 256) (hn : n < G) (hi0 : 2 + N / 4 ≤ i) (hi : i < B) : GvI G B N (updA A n (withB (A n).2 i true)) (mset ((n * B + i : Nat) : Int) (.bool true) mk) := by
  refine ⟨fun b v hv => ?_⟩
  rw [mget_mset] at hv
  by_cases e : b = ((n * B + i : Nat) : Int)
  · rw [if_pos e] at hv
    cases hv
    exact ⟨rfl, n, i, hn, hi0, hi, e, by rw [updA_same]; show hasB (withB (A n).2 i true) i = true; rw [hasB_with (by omega), if_pos rfl]⟩
  · rw [if_neg e] at hv
    obtain ⟨hv, m, j, h1, h2, h3, h4, h5⟩ := h.at_ _ _ hv
    refine ⟨hv, m, j, h1, h2, h3, h4, ?_⟩
    by_cases e2 : m = n
    · subst e2
      rw [updA_same]
      show hasB (withB (A m).2 i true) j = true
      rw [hasB_with (by omega)]
      split
      · rfl
      · exact h5
    · rw [updA_ne e2]; exact h5
theorem GvI.del {G B N n i : Nat} {A : Nat → List UInt8 × List UInt8} {mk : List (Int × Value)} (hnd : (mk.map (·.1)).Nodup) (h : GvI G B N A mk) (h32 : (A n).2.length = 32) (hB : B ≤ 256) (hi : i < B) : GvI G B N (updA A n (withB (A n).2 i false)) (mdel ((n * B + i : Nat) : Int) mk) := by
  refine ⟨fun b v hv => ?_⟩
  rw [mget_mdel hnd] at hv
  by_cases e : b = ((n * B + i : Nat) : Int)
  · rw [if_pos e] at hv; cases hv
  · rw [if_neg e] at hv
    obtain ⟨hv, m, j, h1, h2, h3, h4, h5⟩ := h.at_ _ _ hv
    refine ⟨hv, m, j, h1, h2, h3, h4, ?_⟩
    by_cases e2 : m = n
    · subst e2
      rw [updA_same]
      show hasB (withB (A m).2 i false) j = true
      rw [hasB_with (by omega), if_neg (fun e3 => e (by rw [h4, e3])), h5]
    · rw [updA_ne e2]; exact h5
theorem GvI.nil {G B N : Nat} {A : Nat → List UInt8 × List UInt8} : GvI G B N A [] := ⟨fun b v h => by cases h⟩
end Go.Proofs.YtngploohhmfaiaaGreat.E
