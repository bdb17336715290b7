/- My own texts, joined. -/
import Derived.DeepKeys
import Derived.KernelRfl
import Derived.Laws.StructEq
import Derived.Recover
import Derived.Tactics2
import Derived.Test.YtklppdodadkcnaaGreatProg
import Derived.WalkKit
import Derived.Test.YtklppdodadkcnaaGreatIC20
namespace Go.Proofs.YtklppdodadkcnaaGreat.E
open Go Go.Proofs Go.RowKit Go.Maps Go.Shelf Go.Sort
set_option linter.unusedVariables false
set_option linter.unusedSimpArgs false
theorem o_ifine (a b c : Int) (p : Option Addr) (τ : Nat) {s : TH} (h : NoV s p τ) : TRet Tryz.prog 39 #[.pointer p, .agg #[.int .i64 a, .int .i64 b, .int .i64 c]] s fun v s' => v = .int .i64 2 ∧ Ch [] s s' := by
 obtain ⟨M, hM, hM0, hMa, hMb, hMc, hMd, hMe, hMf⟩ := fresh6 s τ 0 0 0 0 0
 refine F39_calls _ _ _ _  ?_
 unfold F39
 refine al_t (M + 1) fun r1 s2 g i d j => ?_
 have f := h.mv d (tagn (by simp))
 refine tcall (o_VBlocks p τ f) ?_
 rintro k l ⟨rfl, e⟩
 have m := e.size
 refine dInt_i (sB_t (by rfl) ?_)
 refine ret_t ?_
 exact ⟨rfl, (((Ch.refl [] s).ch d (by simp)).ch e (by simp))⟩
theorem o_iplace (a b c : Int) (n : Int) (p : Option Addr) (τ : Nat) {s : TH} (h : NoV s p τ) : TRet Tryz.prog 22 #[.pointer p, .agg #[.int .i64 a, .int .i64 b, .int .i64 c], .int .i64 n] s fun v s' => v = .tuple #[.int .i64 0, .int .i64 0, .int .i64 2] ∧ Ch [] s s' := by
 obtain ⟨M, hM, hM0, hMa, hMb, hMc, hMd, hMe, hMf⟩ := fresh6 s τ 0 0 0 0 0
 refine F22_calls _ _ _ _ _  ?_
 unfold F22
 refine al_t (M + 1) fun r1 s2 i d e j => ?_
 refine ld_t d rfl (ld_t d rfl (ld_t d rfl ?_))
 have g := h.mv e (tagn (by simp))
 refine tcall (o_ifine _ _ _ _ _ g) ?_
 rintro k l ⟨rfl, f⟩
 have m := f.size
 refine dInt_i (sB_t (by rfl) ?_)
 refine ret_t ?_
 exact ⟨rfl, (((Ch.refl [] s).ch e (by simp)).ch f (by simp))⟩
theorem o_iGet (a b c : Int) (n : Int) (p : Option Addr) (τ : Nat) {s : TH} (h : NoV s p τ) : TRet Tryz.prog 8 #[.pointer p, .agg #[.int .i64 a, .int .i64 b, .int .i64 c], .int .i64 n] s fun v s' => v = .tuple #[.agg #[.int .i64 0, .int .i64 0, .int .i64 0, .int .i64 0, .int .i64 0, .int .i64 0, .int .i64 0, .int .i64 0, .int .i64 0], .int .i64 2] ∧ Ch [] s s' := by
 obtain ⟨M, hM, hM0, hMa, hMb, hMc, hMd, hMe, hMf⟩ := fresh6 s τ 0 0 0 0 0
 refine F8_calls _ _ _ _ _  ?_
 unfold F8
 refine al_t (M + 1) fun r1 s2 ae Q E af => ?_
 refine al_t (M + 2) fun r3 s4 ag R f ah => ?_
 have g := Q.ch f (by simp)
 refine ld_t g rfl (ld_t g rfl (ld_t g rfl ?_))
 have S := h.mv (E.app f) (tagn (by simp))
 refine tcall (o_iplace _ _ _ _ _ _ S) ?_
 rintro T ai ⟨rfl, e⟩
 have U := e.size
 refine dT3 (dInt_i (dInt_i (dInt_i (sB_t (by rfl) ?_))))
 have i := R.ch e (by simp)
 refine st_t i rfl (by simp) fun aj j u V => ?_
 have F := on_ch i u
 refine st_t j rfl (by simp) fun ak k w W => ?_
 have G := on_ch j w
 refine st_t k rfl (by simp) fun al l x X => ?_
 have H := on_ch k x
 refine st_t l rfl (by simp) fun am m y Y => ?_
 have I := on_ch l y
 refine st_t m rfl (by simp) fun an o z Z => ?_
 have J := on_ch m z
 refine st_t o rfl (by simp) fun ao q A aa => ?_
 have K := on_ch o A
 refine st_t q rfl (by simp) fun ap r B ab => ?_
 have L := on_ch q B
 refine st_t r rfl (by simp) fun aq t C ac => ?_
 have N := on_ch r C
 refine st_t t rfl (by simp) fun ar d D ad => ?_
 have O := on_ch t D
 refine ld_t d rfl (ld_t d rfl (ld_t d rfl (ld_t d rfl (ld_t d rfl (ld_t d rfl (ld_t d rfl (ld_t d rfl ?_)))))))
 refine ld_t d rfl ?_
 refine ret_t ?_
 have P := ((E.app f).app e)
 exact ⟨rfl, (((((((((((Ch.refl [] s).ch P (by simp)).fr F hM (by simp)).fr G hM (by simp)).fr H hM (by simp)).fr I hM (by simp)).fr J hM (by simp)).fr K hM (by simp)).fr L hM (by simp)).fr N hM (by simp)).fr O hM (by simp))⟩
theorem o_iPut (a b c : Int) (n : Int) (p : Option Addr) (τ : Nat) {s : TH} (h : NoV s p τ) : TRet Tryz.prog 9 #[.pointer p, .agg #[.int .i64 a, .int .i64 b, .int .i64 c], .int .i64 n, .agg #[.int .i64 0, .int .i64 0, .int .i64 0, .int .i64 0, .int .i64 0, .int .i64 0, .int .i64 0, .int .i64 0, .int .i64 0], .slice none 0 0] s fun v s' => v = .tuple #[.int .i64 0, .int .i64 2] ∧ Ch [] s s' := by
 obtain ⟨M, hM, hM0, hMa, hMb, hMc, hMd, hMe, hMf⟩ := fresh6 s τ 0 0 0 0 0
 refine F9_calls _ _ _ _ _ _ _ _ _ _ _ _ _ _ _ _ _  ?_
 unfold F9
 refine al_t (M + 1) fun r1 s2 o j g q => ?_
 refine al_t (M + 2) fun r3 s4 r t d u => ?_
 have e := j.ch d (by simp)
 refine ld_t e rfl (ld_t e rfl (ld_t e rfl ?_))
 have k := h.mv (g.app d) (tagn (by simp))
 refine tcall (o_iplace _ _ _ _ _ _ k) ?_
 rintro l w ⟨rfl, f⟩
 have m := f.size
 refine dT3 (dInt_i (dInt_i (dInt_i (sB_t (by rfl) ?_))))
 refine ret_t ?_
 have i := ((g.app d).app f)
 exact ⟨rfl, ((Ch.refl [] s).ch i (by simp))⟩
theorem o_iAddr (a b c : Int) (n : Int) (p : Option Addr) (τ : Nat) {s : TH} (h : NoV s p τ) : TRet Tryz.prog 15 #[.pointer p, .agg #[.int .i64 a, .int .i64 b, .int .i64 c], .agg #[.int .i64 0, .int .i64 0, .int .i64 0, .int .i64 0, .int .i64 0, .int .i64 0, .int .i64 0, .int .i64 0, .int .i64 0], .int .i64 n] s fun v s' => v = .tuple #[.int .i64 0, .int .i64 2] ∧ Ch [] s s' := by
 obtain ⟨M, hM, hM0, hMa, hMb, hMc, hMd, hMe, hMf⟩ := fresh6 s τ 0 0 0 0 0
 refine F15_calls _ _ _ _ _ _ _ _ _ _ _ _ _ _  ?_
 unfold F15
 refine al_t (M + 1) fun r1 s2 o j g q => ?_
 refine al_t (M + 2) fun r3 s4 r t d u => ?_
 have e := j.ch d (by simp)
 refine ld_t e rfl (ld_t e rfl (ld_t e rfl ?_))
 have k := h.mv (g.app d) (tagn (by simp))
 refine tcall (o_ifine _ _ _ _ _ k) ?_
 rintro l w ⟨rfl, f⟩
 have m := f.size
 refine dInt_i (sB_t (by rfl) ?_)
 refine ret_t ?_
 have i := ((g.app d).app f)
 exact ⟨rfl, ((Ch.refl [] s).ch i (by simp))⟩
theorem o_iSpan (a b c : Int) (p : Option Addr) (τ : Nat) {s : TH} (h : NoV s p τ) : TRet Tryz.prog 16 #[.pointer p, .agg #[.int .i64 a, .int .i64 b, .int .i64 c], .agg #[.int .i64 0, .int .i64 0, .int .i64 0, .int .i64 0, .int .i64 0, .int .i64 0, .int .i64 0, .int .i64 0, .int .i64 0]] s fun v s' => v = .tuple #[.slice none 0 0, .int .i64 2] ∧ Ch [] s s' := by
 obtain ⟨M, hM, hM0, hMa, hMb, hMc, hMd, hMe, hMf⟩ := fresh6 s τ 0 0 0 0 0
 refine F16_calls _ _ _ _ _ _ _ _ _ _ _ _ _  ?_
 unfold F16
 refine al_t (M + 1) fun r1 s2 n j g o => ?_
 refine al_t (M + 2) fun r3 s4 q r d t => ?_
 have e := j.ch d (by simp)
 refine ld_t e rfl (ld_t e rfl (ld_t e rfl ?_))
 have k := h.mv (g.app d) (tagn (by simp))
 refine tcall (o_ifine _ _ _ _ _ k) ?_
 rintro l u ⟨rfl, f⟩
 have m := f.size
 refine dInt_i (sB_t (by rfl) ?_)
 refine ret_t ?_
 have i := ((g.app d).app f)
 exact ⟨rfl, ((Ch.refl [] s).ch i (by simp))⟩
theorem o_iGrow (a b c : Int) (n i : Int) (p : Option Addr) (τ : Nat) {s : TH} (h : NoV s p τ) : TRet Tryz.prog 13 #[.pointer p, .agg #[.int .i64 a, .int .i64 b, .int .i64 c], .int .i64 n, .agg #[.int .i64 0, .int .i64 0, .int .i64 0, .int .i64 0, .int .i64 0, .int .i64 0, .int .i64 0, .int .i64 0, .int .i64 0], .int .i64 i] s fun v s' => v = .tuple #[.int .i64 0, .agg #[.int .i64 0, .int .i64 0, .int .i64 0, .int .i64 0, .int .i64 0, .int .i64 0, .int .i64 0, .int .i64 0, .int .i64 0], .slice none 0 0, .int .i64 2] ∧ Ch [] s s' := by
 obtain ⟨M, hM, hM0, hMa, hMb, hMc, hMd, hMe, hMf⟩ := fresh6 s τ 0 0 0 0 0
 refine F13_calls _ _ _ _ _ _ _ _ _ _ _ _ _ _ _  ?_
 unfold F13
 refine al_t (M + 1) fun r1 s2 a0 aC ak a1 => ?_
 refine al_t (M + 2) fun r3 s4 a2 a3 x a4 => ?_
 refine al_t (M + 3) fun r5 s6 a5 aD y a6 => ?_
 refine al_t (M + 4) fun r7 s8 a7 z f aE => ?_
 refine st_t z rfl (by simp) fun s9 A S aF => ?_
 have g := on_ch z S
 refine st_t A rfl (by simp) fun a8 B T aG => ?_
 have j := on_ch A T
 refine st_t B rfl (by simp) fun a9 C U aH => ?_
 have k := on_ch B U
 refine st_t C rfl (by simp) fun ba D V aI => ?_
 have l := on_ch C V
 refine st_t D rfl (by simp) fun bb E W aJ => ?_
 have m := on_ch D W
 refine st_t E rfl (by simp) fun bc F X aK => ?_
 have o := on_ch E X
 refine st_t F rfl (by simp) fun bd G Y aL => ?_
 have q := on_ch F Y
 refine st_t G rfl (by simp) fun be H Z aM => ?_
 have r := on_ch G Z
 refine st_t H rfl (by simp) fun bf al aa aN => ?_
 have t := on_ch H aa
 have am := (((((((((((x.app y).app f).app g).app j).app k).app l).app m).app o).app q).app r).app t)
 have w := aC.ch am (by simp)
 refine ld_t w rfl (ld_t w rfl (ld_t w rfl ?_))
 have an := ((((((((((((ak.app x).app y).app f).app g).app j).app k).app l).app m).app o).app q).app r).app t)
 have ao := h.mv an (tagn (by simp <;> omega))
 refine tcall (o_iplace _ _ _ _ _ _ ao) ?_
 rintro aO aP ⟨rfl, u⟩
 have aQ := u.size
 refine dT3 (dInt_i (dInt_i (dInt_i (sB_t (by rfl) ?_))))
 have d := al.ch u (by simp)
 refine ld_t d rfl (ld_t d rfl (ld_t d rfl (ld_t d rfl (ld_t d rfl (ld_t d rfl (ld_t d rfl (ld_t d rfl ?_)))))))
 refine ld_t d rfl ?_
 have ap := ((((((((((f.app g).app j).app k).app l).app m).app o).app q).app r).app t).app u)
 have I := aD.ch ap (by simp)
 refine st_t I rfl (by simp) fun bg J ab aR => ?_
 have aq := on_ch I ab
 refine st_t J rfl (by simp) fun bh K ac aS => ?_
 have ar := on_ch J ac
 refine st_t K rfl (by simp) fun bi L ad aT => ?_
 have au := on_ch K ad
 refine st_t L rfl (by simp) fun bj N ae aU => ?_
 have av := on_ch L ae
 refine st_t N rfl (by simp) fun bk O af aV => ?_
 have aw := on_ch N af
 refine st_t O rfl (by simp) fun bl P ag aW => ?_
 have ax := on_ch O ag
 refine st_t P rfl (by simp) fun bm Q ah aX => ?_
 have ay := on_ch P ah
 refine st_t Q rfl (by simp) fun bn R ai aY => ?_
 have az := on_ch Q ai
 refine st_t R rfl (by simp) fun bo e aj aZ => ?_
 have aA := on_ch R aj
 refine ld_t e rfl (ld_t e rfl (ld_t e rfl (ld_t e rfl (ld_t e rfl (ld_t e rfl (ld_t e rfl (ld_t e rfl ?_)))))))
 refine ld_t e rfl ?_
 refine ret_t ?_
 have aB := (((ak.app x).app y).app f)
 exact ⟨rfl, (((((((((((((((((((((Ch.refl [] s).ch aB (by simp)).fr g hM (by simp)).fr j hM (by simp)).fr k hM (by simp)).fr l hM (by simp)).fr m hM (by simp)).fr o hM (by simp)).fr q hM (by simp)).fr r hM (by simp)).fr t hM (by simp)).ch u (by simp)).fr aq hM (by simp)).fr ar hM (by simp)).fr au hM (by simp)).fr av hM (by simp)).fr aw hM (by simp)).fr ax hM (by simp)).fr ay hM (by simp)).fr az hM (by simp)).fr aA hM (by simp))⟩
theorem o_iClear (a b c : Int) (n : Int) (p : Option Addr) (τ : Nat) {s : TH} (h : NoV s p τ) : TRet Tryz.prog 19 #[.pointer p, .agg #[.int .i64 a, .int .i64 b, .int .i64 c], .int .i64 n, .slice none 0 0] s fun v s' => v = .tuple #[.int .i64 0, .int .i64 2] ∧ Ch [] s s' := by
 obtain ⟨M, hM, hM0, hMa, hMb, hMc, hMd, hMe, hMf⟩ := fresh6 s τ 0 0 0 0 0
 refine F19_calls _ _ _ _ _ _ _ _  ?_
 unfold F19
 refine al_t (M + 1) fun r1 s2 i d e j => ?_
 refine ld_t d rfl (ld_t d rfl (ld_t d rfl ?_))
 have g := h.mv e (tagn (by simp))
 refine tcall (o_iplace _ _ _ _ _ _ g) ?_
 rintro k l ⟨rfl, f⟩
 have m := f.size
 refine dT3 (dInt_i (dInt_i (dInt_i (sB_t (by rfl) ?_))))
 refine ret_t ?_
 exact ⟨rfl, (((Ch.refl [] s).ch e (by simp)).ch f (by simp))⟩
theorem hasB_tb (l : List UInt8) (i : Nat) : hasB l i = (l.getD (i / 8) 0).toNat.testBit (i % 8) := by unfold hasB; rw [Nat.testBit_eq_decide_div_mod_eq]; rfl
theorem and1 (q : Nat) (h : q < 256) : IntKind.u8.wrap (BitVec.toNat (BitVec.ofInt 8 (q : Int) &&& BitVec.ofInt 8 1) : Int) = ((q % 2 : Nat) : Int) := by
 rw [BitVec.ofInt_natCast, show BitVec.ofInt 8 1 = BitVec.ofNat 8 1 from rfl, BitVec.toNat_and, BitVec.toNat_ofNat, BitVec.toNat_ofNat, Nat.mod_eq_of_lt (show q < 2 ^ 8 from h), show 1 % 2 ^ 8 = 1 from rfl, Nat.and_one_is_mod]
 show (((q % 2 : Nat)) : Int) % 256 = _
 omega
def clrB (b : UInt8) (k : Nat) : UInt8 := UInt8.ofBitVec (b.toBitVec &&& ~~~BitVec.ofNat 8 (2 ^ k))
def orB (b : UInt8) (k : Nat) : UInt8 := UInt8.ofBitVec (b.toBitVec ||| BitVec.ofNat 8 (2 ^ k))
theorem bvi (b : UInt8) : BitVec.ofInt 8 (b.toNat : Int) = b.toBitVec := by rw [BitVec.ofInt_natCast]; simp
theorem clr8 (b : UInt8) (k : Nat) : IntKind.u8.wrap (BitVec.toNat (BitVec.ofInt 8 (b.toNat : Int) &&& ~~~BitVec.ofInt 8 ((2 ^ k : Nat) : Int)) : Int) = ((clrB b k).toNat : Int) := by
 have e2 : BitVec.ofInt 8 ((2 ^ k : Nat) : Int) = BitVec.ofNat 8 (2 ^ k) := BitVec.ofInt_natCast 8 (2 ^ k)
 rw [bvi, e2]
 show (_ : Int) % 256 = _
 have := (b.toBitVec &&& ~~~BitVec.ofNat 8 (2 ^ k)).isLt
 unfold clrB
 show ((BitVec.toNat (b.toBitVec &&& ~~~BitVec.ofNat 8 (2 ^ k)) : Nat) : Int) % 256 = ((BitVec.toNat (b.toBitVec &&& ~~~BitVec.ofNat 8 (2 ^ k)) : Nat) : Int)
 omega
theorem or8 (b : UInt8) (k : Nat) : IntKind.u8.wrap (BitVec.toNat (BitVec.ofInt 8 (b.toNat : Int) ||| BitVec.ofInt 8 ((2 ^ k : Nat) : Int)) : Int) = ((orB b k).toNat : Int) := by
 have e2 : BitVec.ofInt 8 ((2 ^ k : Nat) : Int) = BitVec.ofNat 8 (2 ^ k) := BitVec.ofInt_natCast 8 (2 ^ k)
 rw [bvi, e2]
 show (_ : Int) % 256 = _
 have := (b.toBitVec ||| BitVec.ofNat 8 (2 ^ k)).isLt
 unfold orB
 show ((BitVec.toNat (b.toBitVec ||| BitVec.ofNat 8 (2 ^ k)) : Nat) : Int) % 256 = ((BitVec.toNat (b.toBitVec ||| BitVec.ofNat 8 (2 ^ k)) : Nat) : Int)
 omega
def setTo (b : UInt8) (k : Nat) (on : Bool) : UInt8 := if on = true then orB (clrB b k) k else clrB b k
theorem clrB_tb (b : UInt8) {k m : Nat} (hm : m < 8) : (clrB b k).toNat.testBit m = (b.toNat.testBit m && !decide (k = m)) := by
 show (b.toBitVec &&& ~~~BitVec.ofNat 8 (2 ^ k)).toNat.testBit m = _
 rw [BitVec.testBit_toNat, BitVec.getLsbD_and, BitVec.getLsbD_not, BitVec.getLsbD_ofNat, Nat.testBit_two_pow]
 simp [hm]
 rfl
theorem orB_tb (b : UInt8) {k m : Nat} (hm : m < 8) : (orB b k).toNat.testBit m = (b.toNat.testBit m || decide (k = m)) := by
 show (b.toBitVec ||| BitVec.ofNat 8 (2 ^ k)).toNat.testBit m = _
 rw [BitVec.testBit_toNat, BitVec.getLsbD_or, BitVec.getLsbD_ofNat, Nat.testBit_two_pow]
 simp [hm]
 rfl
theorem setTo_tb (b : UInt8) {k m : Nat} (on : Bool) (hm : m < 8) : (setTo b k on).toNat.testBit m = if m = k then on else b.toNat.testBit m := by
 unfold setTo
 cases on
 ·rw [if_neg (by simp), clrB_tb b hm]
  by_cases e : m = k
  ·rw [if_pos e, decide_eq_true e.symm]; simp
  ·rw [if_neg e, decide_eq_false (fun h => e h.symm)]; simp
 ·rw [if_pos rfl, orB_tb _ hm, clrB_tb b hm]
  by_cases e : m = k
  ·rw [if_pos e, decide_eq_true e.symm]; simp
  ·rw [if_neg e, decide_eq_false (fun h => e h.symm)]; simp
def withB (l : List UInt8) (i : Nat) (on : Bool) : List UInt8 := l.set (i / 8) (setTo (l.getD (i / 8) 0) (i % 8) on)
theorem withB_len (l : List UInt8) (i : Nat) (on : Bool) : (withB l i on).length = l.length := by simp [withB]
theorem hasB_with {l : List UInt8} {i : Nat} (h : i / 8 < l.length) (on : Bool) (j : Nat) : hasB (withB l i on) j = if j = i then on else hasB l j := by
 rw [hasB_tb, hasB_tb]
 unfold withB
 by_cases e : j / 8 = i / 8
 ·rw [e, List.getD_eq_getElem?_getD, List.getElem?_set_self h, Option.getD_some, setTo_tb _ _ (Nat.mod_lt _ (by decide))]
  by_cases e2 : j = i
  ·subst e2; rw [if_pos rfl, if_pos rfl]
  ·rw [if_neg e2, if_neg (by omega)]
 ·rw [List.getD_eq_getElem?_getD, List.getElem?_set_ne (by omega), ← List.getD_eq_getElem?_getD, if_neg (by intro h2; subst h2; exact e rfl)]
theorem max_i {P : Program} {ats : Array TypeId} {ty : TypeId} {E : List PanicEntry → Heap → Prop} {H : Heap} {K : Value → Heap → Prop} {a b : Int} (hk : K (.int .i64 (max a b)) H) :
  semW P (Builtin.max_ ats ty #[.int .i64 a, .int .i64 b]) E H K := .mk fun w hw => by
 have hr : (Builtin.max_ ats ty #[.int .i64 a, .int .i64 b]).run P w = .ok (.int .i64 (max a b)) w := by
  have he : (if b > a then b else a) = max a b := by split <;> omega
  simp [Builtin.max_, Builtin.max2, he]
 rw [hr]
 exact ⟨by rw [hw]; exact hk, Like.refl w⟩
def cntB (l : List UInt8) : Nat → Nat
 | 0 => 0
 | n + 1 => cntB l n + if hasB l n = true then 1 else 0
theorem cntB_le (l : List UInt8) : ∀ n, cntB l n ≤ n
 | 0 => Nat.le_refl _
 | n + 1 => by have := cntB_le l n; unfold cntB; split <;> omega
theorem c_bhas {xa : Option Addr} {xn : Nat} (xc : Nat) {l : List UInt8} {τx : Nat} {s : TH} (hx : Sl s xa (bvs l) τx) (hn : l.length = xn) (i : Nat) (hi : i ≤ 100000000000) : TRet Tryz.prog 104 #[.slice xa xn xc, .int .i64 (i : Int)] s fun v s' => v = .bool (hasB l i) ∧ Ch [] s s' := by
 refine F104_calls _ _ _ _  ?_
 unfold F104
 refine sB_d (fun a => ?_) (fun a => by exfalso; omega)
 refine ask_t (by omega) ?_
 try rw [td8]
 refine wr_t (by omega) ?_
 refine sB_d (fun c => ?_) (fun c => ?_)
 ·
  refine ask_t (by omega) ?_
  try rw [td8]
  refine wr_t (by omega) ?_
  obtain ⟨b, hbk⟩ : ∃ b, l[i / 8]? = some b := ⟨l[i / 8]'(by omega), by simp⟩
  have hgd : l.getD (i / 8) 0 = b := by rw [List.getD_eq_getElem?_getD, hbk]; rfl
  obtain ⟨ad, rfl⟩ := hx.some (fun e => by have := bvs_get hbk; rw [e] at this; simp at this)
  have hb8 := b.toNat_lt
  refine nz_i (ask_t (by omega) ?_)
  refine ld_sl hx (by rw [Int.toNat_natCast, Nat.mul_one]; exact bvs_get hbk) ?_
  refine dInt_i (ask_t (by omega) ?_)
  rw [tm8]
  refine nm_t rfl ?_
  refine ask_t (by omega) ?_
  rw [shr8 _ _ (by omega)]
  refine nm_t rfl ?_
  rw [and1 _ (Nat.lt_of_le_of_lt (Nat.div_le_self _ _) hb8)]
  refine nm_t rfl ?_
  refine ret_t ?_
  exact ⟨ret_b (by unfold hasB; rw [hgd]; apply Bool.eq_iff_iff.2; simp only [beq_iff_eq]; omega), (Ch.refl [] s)⟩
 ·
  refine ret_t ?_
  exact ⟨ret_b (by unfold hasB; rw [List.getD_eq_getElem?_getD, List.getElem?_eq_none (by omega)]; simp), (Ch.refl [] s)⟩
theorem c_many (n : Int) (s : TH) (hn : 0 ≤ n ∧ n ≤ 65536) : TRet Tryz.prog 103 #[.int .i64 n] s fun v s' => v = .int .i64 n ∧ Ch [] s s' := by
 refine F103_calls _  ?_
 unfold F103
 refine min_i ?_
 refine dInt_i ?_
 refine max_i ?_
 refine dInt_i ?_
 refine ret_t ?_
 exact ⟨ret_i (by omega), (Ch.refl [] s)⟩
theorem c_count {xa : Option Addr} {xn : Nat} (xc : Nat) {l : List UInt8} {τx : Nat} {s : TH} (hx : Sl s xa (bvs l) τx) (hn : l.length = xn) (n : Nat) (hm : n ≤ 65536) : TRet Tryz.prog 49 #[.slice xa xn xc, .int .i64 (n : Int)] s fun v s' => v = .int .i64 (cntB l n : Int) ∧ Ch [] s s' := by
 refine F49_calls _ _ _ _  ?_
 unfold F49
 refine tcall (c_many n _ (by omega)) ?_
 rintro q e ⟨rfl, f⟩
 have r := f.size
 refine dInt_i ?_
 refine ⟨fun vs H' => ∃ s' : TH, s'.h = H' ∧ ∃ c i, vs = [.int .i64 c, .int .i64 i] ∧ Ch [] e s' ∧ (∃ k : Nat, i = k ∧ k ≤ n ∧ c = (cntB l k : Int)), fun vs H' => match vs with | [.int .i64 c, .int .i64 i] => ((n : Int) - i).toNat | _ => 0, ⟨e, rfl, _, _, rfl, Ch.refl _ _, ?_⟩, ?_⟩
 ·
  exact ⟨0, rfl, by omega, rfl⟩
 ·
  intro c i _ _ _ _ _ _ _ _ _ H_ hI_7
  obtain ⟨t, rfl, c_, i_, hvs, b, k, rfl, hk, rfl⟩ := hI_7
  cases hvs
  have u := b.size
  have hck := cntB_le l k
  refine sB_d (fun j => ?_) (fun j => ?_)
  ·
   refine jn_u ?_
   have m := hx.mv (f.app b) (tagn (by simp))
   refine tcall (c_bhas xc m hn k (by omega)) ?_
   rintro o g ⟨rfl, d⟩
   have p := d.size
   refine dBl_i ?_
   refine sB_i (fun a => ?_) (fun a => ?_)
   ·
    refine wr_t (by omega) ?_
    intro _
    intros
    refine dInt_i (wr_t (by omega) ?_)
    refine ⟨⟨g, rfl, _, _, rfl, (((Ch.refl [] e).ch b (by simp)).ch d (by simp)), ?_⟩, ?_⟩
    ·
     exact ⟨k + 1, by omega, by omega, by show _ = ((cntB l k + if hasB l k = true then 1 else 0 : Nat) : Int); first | (rw [if_pos a]; omega) | (rw [if_neg (by simp [a])]; omega)⟩
    ·
     simp only []; omega
   ·
    intro _
    intros
    refine dInt_i (wr_t (by omega) ?_)
    refine ⟨⟨g, rfl, _, _, rfl, (((Ch.refl [] e).ch b (by simp)).ch d (by simp)), ?_⟩, ?_⟩
    ·
     exact ⟨k + 1, by omega, by omega, by show _ = ((cntB l k + if hasB l k = true then 1 else 0 : Nat) : Int); first | (rw [if_pos a]; omega) | (rw [if_neg (by simp [a])]; omega)⟩
    ·
     simp only []; omega
  ·
   refine ret_t ?_
   obtain rfl : k = n := by omega
   exact ⟨rfl, (((Ch.refl [] s).ch f (by simp)).ch b (by simp))⟩
theorem c_first {xa : Option Addr} {xn : Nat} (xc : Nat) {l : List UInt8} {τx : Nat} {s : TH} (hx : Sl s xa (bvs l) τx) (hn : l.length = xn) (n from_ : Nat) (hm : n ≤ 65536) (hf : from_ < n) : TRet Tryz.prog 106 #[.slice xa xn xc, .int .i64 (n : Int), .int .i64 (from_ : Int)] s fun v s' => ∃ (i : Nat) (ok : Bool), v = .tuple #[.int .i64 (i : Int), .bool ok] ∧ Ch [] s s' ∧ (ok = true → i < n ∧ hasB l i = false ∧ ∀ j, from_ ≤ j → j < (if i < from_ then n else i) → hasB l j = true) ∧ (ok = false → ∀ j, from_ ≤ j → j < n → hasB l j = true) ∧ (ok = false → ∀ j, j < n → hasB l j = true) := by
 refine F106_calls _ _ _ _ _  ?_
 unfold F106
 refine tcall (c_many n _ (by omega)) ?_
 rintro F f ⟨rfl, d⟩
 have G := d.size
 refine dInt_i ?_
 refine jn_u ?_
 refine jn_u ?_
 refine sB_d (fun m => by exfalso; omega) (fun m => ?_)
 intro _
 intros
 refine dBl_i ?_
 refine sB_d (fun o => by exfalso; omega) (fun o => ?_)
 intro _
 intros
 refine dInt_i ?_
 refine ⟨fun vs H' => ∃ s' : TH, s'.h = H' ∧ ∃ i, vs = [.int .i64 i] ∧ Ch [] f s' ∧ (∃ k : Nat, i = k ∧ k ≤ n ∧ ∀ q, q < k → hasB l (if from_ + q < n then from_ + q else from_ + q - n) = true), fun vs H' => match vs with | [.int .i64 i] => ((n : Int) - i).toNat | _ => 0, ⟨f, rfl, _, rfl, Ch.refl _ _, ?_⟩, ?_⟩
 ·
  exact ⟨0, rfl, by omega, fun q h => by omega⟩
 ·
  intro i _ _ _ _ _ _ _ _ _ _ _ _ _ _ _ _ _ _ _ _ _ H_ hI_7
  obtain ⟨g, rfl, i_, hvs, b, k, rfl, hk, hall⟩ := hI_7
  cases hvs
  have H := b.size
  refine sB_d (fun p => ?_) (fun p => ?_)
  ·
   refine wr_t (by omega) ?_
   refine jn1 (fun fv s' => Ch [] g s' ∧ (fv = .int .i64 ((if from_ + k < n then from_ + k else from_ + k - n : Nat) : Int))) ?_ ?_
   ·
    rintro fv B ⟨a, rfl⟩
    have C := a.size
    intro _
    intros
    refine dInt_i ?_
    obtain ⟨w_, hw_⟩ : ∃ w : Nat, w = (if from_ + k < n then from_ + k else from_ + k - n) := ⟨_, rfl⟩
    rw [← hw_]
    have hwn : w_ < n := by subst hw_; split <;> omega
    have r := ((d.app b).app a)
    have t := hx.mv r (tagn (by simp))
    refine tcall (c_bhas xc t hn w_ (by omega)) ?_
    rintro D u ⟨rfl, c⟩
    have E := c.size
    refine dBl_i ?_
    refine sB_n (fun x => ?_) (fun x => ?_)
    ·
     refine ret_t ?_
     have y := ((b.app a).app c)
     have hb0 : hasB l w_ = false := by assumption
     refine ⟨w_, true, rfl, (((Ch.refl [] s).ch d (by simp)).ch y (by simp)), fun _ => ⟨hwn, hb0, fun j h1 h2 => ?_⟩, fun h => (by cases h), fun h => (by cases h)⟩
     have hq : j - from_ < k := by
      by_cases e : from_ + k < n
      ·rw [if_pos e] at hw_; rw [if_neg (by omega)] at h2; omega
      ·rw [if_neg e] at hw_; rw [if_pos (by omega)] at h2; omega
     have hjn : j < n := by
      split at h2 <;> omega
     have h3 := hall (j - from_) hq
     rw [show from_ + (j - from_) = j by omega, if_pos hjn] at h3
     exact h3
    ·
     refine wr_t (by omega) ?_
     have z := ((b.app a).app c)
     refine ⟨⟨u, rfl, _, rfl, ((Ch.refl [] f).ch z (by simp)), ?_⟩, ?_⟩
     ·
      refine ⟨k + 1, by omega, by omega, fun q hq => ?_⟩
      by_cases e : q = k
      ·subst e; rw [← hw_]; assumption
      ·exact hall q (by omega)
     ·
      simp only []; omega
   ·
    intro K_22 hK_22
    refine sB_d (fun A => ?_) (fun A => ?_)
    ·
     refine wr_t (by omega) ?_
     refine hK_22 _ _ ⟨(Ch.refl [] g), ?_⟩
     rw [if_neg (by omega)]; exact congrArg (Value.int .i64) (by omega)
    ·
     refine hK_22 _ _ ⟨(Ch.refl [] g), ?_⟩
     rw [if_pos (by omega)]; exact congrArg (Value.int .i64) (by omega)
  ·
   refine ret_t ?_
   have hkn : k = n := by omega
   have hA : ∀ j, j < n → hasB l j = true := fun j hj => by
    by_cases h : from_ ≤ j
    ·have := hall (j - from_) (by omega)
     rw [if_pos (by omega), show from_ + (j - from_) = j by omega] at this; exact this
    ·have := hall (j + n - from_) (by omega)
     rw [if_neg (by omega), show from_ + (j + n - from_) - n = j by omega] at this; exact this
   exact ⟨0, false, rfl, (((Ch.refl [] s).ch d (by simp)).ch b (by simp)), fun h => (by cases h), fun _ j _ hj => hA j hj, fun _ j hj => hA j hj⟩
theorem c_free {xa : Option Addr} {xn : Nat} (xc : Nat) {l : List UInt8} {τx : Nat} {s : TH} (hx : Sl s xa (bvs l) τx) (hn : l.length = xn) (from_ n : Nat) (hm : n ≤ 65536) (hf : from_ < n) : TRet Tryz.prog 182 #[.slice xa xn xc, .int .i64 (from_ : Int), .int .i64 (n : Int)] s fun v s' => ∃ (i : Nat) (ok : Bool), v = .tuple #[.int .i64 (i : Int), .bool ok] ∧ Ch [] s s' ∧ (ok = true → from_ ≤ i ∧ i < n ∧ hasB l i = false) ∧ (ok = false → ∀ j, from_ ≤ j → j < n → hasB l j = true) := by
 refine F182_calls _ _ _ _ _  ?_
 unfold F182
 refine tcall (c_first xc hx hn n from_ hm hf) ?_
 rintro m o ⟨g, f, rfl, c, b, d, k⟩
 have p := c.size
 refine dT2 (dInt_i (dBl_i ?_))
 refine sB_i (fun a => ?_) (fun a => ?_)
 ·
  refine sB_d (fun e => ?_) (fun e => ?_)
  ·
   refine ret_t ?_
   have h := b a
   exact ⟨_, true, by rw [decide_eq_true (by omega)], ((Ch.refl [] s).ch c (by simp)), fun _ => ⟨by omega, h.1, h.2.1⟩, fun h => (by cases h)⟩
  ·
   refine ret_t ?_
   have h := b a
   exact ⟨_, false, rfl, ((Ch.refl [] s).ch c (by simp)), fun h => (by cases h), fun _ j h1 h2 => h.2.2 j h1 (by rw [if_pos (by omega)]; exact h2)⟩
 ·
  refine ret_t ?_
  exact ⟨_, false, rfl, ((Ch.refl [] s).ch c (by simp)), fun h => (by cases h), fun _ => d (by simpa using a)⟩
theorem c_around (τ : Nat) (G near : Nat) (b c : Int) (s : TH) (hG : 1 ≤ G ∧ G ≤ 8) (hn : near < G) : TRet Tryz.prog 87 #[.agg #[.int .i64 (G : Int), .int .i64 b, .int .i64 c], .int .i64 (near : Int)] s fun v s' => ∃ a cc, v = .slice a G cc ∧ Ch [] s s' ∧ Own s' a G cc 3 1 (ivs ((List.range G).map fun (k : Nat) => (((near + k) % G : Nat) : Int))) τ := by
 obtain ⟨M, hM, hM0, hMa, hMb, hMc, hMd, hMe, hMf⟩ := fresh6 s τ 0 0 0 0 0
 refine F87_calls _ _ _ _  ?_
 unfold F87
 refine al_t (M + 1) fun r1 s2 A g p B => ?_
 refine ld_t g rfl (dInt_i ?_)
 refine ⟨fun vs H' => ∃ s' : TH, s'.h = H' ∧ ∃ pa pn pc i, vs = [.slice pa pn pc, .int .i64 i] ∧ Ch [M + 5] s2 s' ∧ (∃ k : Nat, i = k ∧ pn = k ∧ k ≤ G ∧ Own s' pa pn pc 3 1 (ivs ((List.range k).map fun (k : Nat) => (((near + k) % G : Nat) : Int))) (M + 5)), fun vs H' => match vs with | [.slice pa pn pc, .int .i64 i] => ((G : Int) - i).toNat | _ => 0, ⟨s2, rfl, _, _, _, _, rfl, Ch.refl _ _, ?_⟩, ?_⟩
 ·
  exact ⟨0, rfl, rfl, by omega, Own.nil _ _ _ _⟩
 ·
  intro pa pn pc i _ _ _ _ _ _ _ _ _ _ _ _ _ H_ hI_5
  obtain ⟨q, rfl, pa_, pn_, pc_, i_, hvs, d, k, rfl, rfl, hk, ho⟩ := hI_5
  cases hvs
  have C := d.size
  refine sB_d (fun j => ?_) (fun j => ?_)
  ·
   refine wr_t (by omega) ?_
   have r := g.ch d (by simp)
   refine ld_t r rfl (dInt_i (ask_t (by omega) ?_))
   rw [show Int.tmod ((near : Int) + (pn : Int)) (G : Int) = (((near + pn) % G : Nat) : Int) from by rw [Int.tmod_eq_emod_of_nonneg (by omega)]; exact (Int.natCast_emod (near + pn) G).symm]
   refine nm_t rfl ?_
   refine al_t (M + 9) fun D E u t e w => ?_
   have l := ho.mv e (tagn (by simp))
   refine app_i1 u45 in3 l t (by omega) fun m x y n f => ?_
   have z := f.size
   refine dSl_i (wr_t (by omega) ?_)
   have o := ((d.app e).app f)
   refine ⟨⟨m, rfl, _, _, _, _, rfl, ((Ch.refl [M + 5] s2).ch o (by simp)), ?_⟩, ?_⟩
   ·
    exact ⟨pn + 1, by omega, rfl, by omega, by rw [List.range_succ, List.map_append]; exact n⟩
   ·
    simp only []; omega
  ·
   obtain rfl : pn = G := by omega
   refine ret_t' (s' := remark q (M + 5) τ) rfl ⟨_, _, rfl, remark_ch (((Ch.refl [] s).ch p (by simp)).fr d hM (by simp)) hM (by omega), (ho).remark⟩
theorem undo_last {P : PatchM} (ok : POk P) : P.undo P.last = (P, 0) := by
 have hl := ok.lst
 unfold PatchM.undo
 rw [if_neg (by omega), if_neg (by
  intro hh
  obtain ⟨j, hj, h2⟩ := List.any_eq_true.1 hh
  have := ok.dn j hj
  simp at h2; omega)]
 have : P.l.filter (fun x => decide (x.id ≤ P.last)) = P.l := List.filter_eq_self.2 fun x hx => by have := ok.rng x hx; simpa using this.2
 simp [this]
theorem c_readyA (vp d U : Nat) (V : VolM) (a b c : Int) (s : TH) (hv : VolL s vp d U V 0) (hU : 10 ≤ U) (hc : canG a b c) (hb : a * b ≤ V.D.blocks.length) : TRet Tryz.prog 45 #[.pointer (some ⟨vp, 0, none⟩), .agg #[.int .i64 a, .int .i64 b, .int .i64 c]] s fun v s' => v = .int .i64 0 ∧ Ch [U, U + 30, U + 32] s s' ∧ VolL s' vp d U V 0 := by
 have hab : 1 * 8 ≤ a * b := Int.mul_le_mul (by unfold canG at hc; omega) (by unfold canG at hc; omega) (by omega) (by unfold canG at hc; omega)
 obtain ⟨M, hM, hM0, hMa, hMb, hMc, hMd, hMe, hMf⟩ := fresh6 s (U + 50) 0 0 0 0 0
 refine F45_calls _ _ _ _  ?_
 unfold F45
 refine al_t (M + 1) fun r1 s2 O w o P => ?_
 have x := hv.mv o (rngn50 (by simp))
 refine tcall (c_VLast _ _ _ _ _ (by omega) x) ?_
 rintro Q R ⟨rfl, n, p⟩
 have S := n.size
 refine dInt_i ?_
 refine tcall (c_VUndo _ _ _ _ _ _ (by omega) p) ?_
 rintro y z ⟨rfl, g, k⟩
 have A := g.size
 rw [undo_last hv.pokk] at k ⊢
 refine dInt_i (sB_f (by rfl) ?_)
 have h := w.ch (n.app g) (by simp <;> omega)
 refine ld_t h rfl (ld_t h rfl (ld_t h rfl ?_))
 refine tcall (gc_can a b c _) ?_
 rintro B C ⟨rfl, e⟩
 have E := e.size
 rw [if_pos hc]
 refine dInt_i ?_
 refine jn_u ?_
 refine jn_u ?_
 refine sB_t (by rfl) ?_
 have i := h.ch e (by simp)
 refine ld_t i rfl (ld_t i rfl (ld_t i rfl ?_))
 have q := k.mv e (rngn50 (by simp))
 refine tcall (c_VBlocks2 _ _ _ _ _ (by omega) q) ?_
 rintro F G ⟨rfl, j, l⟩
 have H := j.size
 refine dInt_i ?_
 refine ⟨?_, ?_⟩
 ·
  have m := i.ch j (by simp <;> omega)
  refine ld_t m rfl (ld_t m rfl (ld_t m rfl ?_))
  rfl
 ·
  refine tcall (gc_blocks a b c hc _) ?_
  rintro I J ⟨rfl, f⟩
  have K := f.size
  refine dInt_i ?_
  intro _
  intros
  refine dBl_i ?_
  refine sB_d (fun r => ?_) (fun r => ?_)
  ·
   intro _
   intros
   refine dInt_i ?_
   refine ret_t ?_
   have L := (((((o.app n).app g).app e).app j).app f)
   have N := l.mv f (rngn50 (by simp))
   exfalso; simp_all; omega
  ·
   intro _
   intros
   refine dInt_i ?_
   refine ret_t ?_
   have t := (((((o.app n).app g).app e).app j).app f)
   have u := l.mv f (rngn50 (by simp))
   exact ⟨rfl, ((Ch.refl [U, U + 30, U + 32] s).ch t (by simp)), u⟩
theorem len8 {l : List UInt8} (h0 : l.length = 8) : ∃ i0 i1 i2 i3 i4 i5 i6 i7 : UInt8, l = [i0, i1, i2, i3, i4, i5, i6, i7] := by
 obtain ⟨i0, l, rfl⟩ := List.exists_cons_of_length_eq_add_one (n := 7) h0
 have h1 : l.length = 7 := by simpa using h0
 obtain ⟨i1, l, rfl⟩ := List.exists_cons_of_length_eq_add_one (n := 6) h1
 have h2 : l.length = 6 := by simpa using h1
 obtain ⟨i2, l, rfl⟩ := List.exists_cons_of_length_eq_add_one (n := 5) h2
 have h3 : l.length = 5 := by simpa using h2
 obtain ⟨i3, l, rfl⟩ := List.exists_cons_of_length_eq_add_one (n := 4) h3
 have h4 : l.length = 4 := by simpa using h3
 obtain ⟨i4, l, rfl⟩ := List.exists_cons_of_length_eq_add_one (n := 3) h4
 have h5 : l.length = 3 := by simpa using h4
 obtain ⟨i5, l, rfl⟩ := List.exists_cons_of_length_eq_add_one (n := 2) h5
 have h6 : l.length = 2 := by simpa using h5
 obtain ⟨i6, l, rfl⟩ := List.exists_cons_of_length_eq_add_one (n := 1) h6
 have h7 : l.length = 1 := by simpa using h6
 obtain ⟨i7, l, rfl⟩ := List.exists_cons_of_length_eq_add_one (n := 0) h7
 have h8 : l.length = 0 := by simpa using h7
 obtain rfl := List.eq_nil_of_length_eq_zero h8
 exact ⟨i0, i1, i2, i3, i4, i5, i6, i7, rfl⟩
set_option maxRecDepth 20000 in
theorem dA41 {v0 v1 v2 v3 v4 v5 v6 v7 v8 v9 v10 v11 v12 v13 v14 v15 v16 v17 v18 v19 v20 v21 v22 v23 v24 v25 v26 v27 v28 v29 v30 v31 v32 v33 v34 v35 v36 v37 v38 v39 v40 : Value} {k : VF 41} (h : (k : Value → Value → Value → Value → Value → Value → Value → Value → Value → Value → Value → Value → Value → Value → Value → Value → Value → Value → Value → Value → Value → Value → Value → Value → Value → Value → Value → Value → Value → Value → Value → Value → Value → Value → Value → Value → Value → Value → Value → Value → Value → Prop) v0 v1 v2 v3 v4 v5 v6 v7 v8 v9 v10 v11 v12 v13 v14 v15 v16 v17 v18 v19 v20 v21 v22 v23 v24 v25 v26 v27 v28 v29 v30 v31 v32 v33 v34 v35 v36 v37 v38 v39 v40) : dA 41 (.agg ([v0, v1, v2, v3, v4, v5, v6, v7, v8, v9, v10, v11, v12, v13, v14, v15, v16, v17, v18, v19, v20, v21, v22, v23, v24, v25, v26, v27, v28, v29, v30, v31, v32, v33, v34, v35, v36, v37, v38, v39, v40] : List Value).toArray) k := h
set_option maxRecDepth 20000 in
theorem ld41 {s : TH} {r t τ : Nat} {w0 w1 w2 w3 w4 w5 w6 w7 w8 w9 w10 w11 w12 w13 w14 w15 w16 w17 w18 w19 w20 w21 w22 w23 w24 w25 w26 w27 w28 w29 w30 w31 w32 w33 w34 w35 w36 w37 w38 w39 w40 : Value} {k : Value → Value → Value → Value → Value → Value → Value → Value → Value → Value → Value → Value → Value → Value → Value → Value → Value → Value → Value → Value → Value → Value → Value → Value → Value → Value → Value → Value → Value → Value → Value → Value → Value → Value → Value → Value → Value → Value → Value → Value → Value → Prop} (h : Blk s r [w0, w1, w2, w3, w4, w5, w6, w7, w8, w9, w10, w11, w12, w13, w14, w15, w16, w17, w18, w19, w20, w21, w22, w23, w24, w25, w26, w27, w28, w29, w30, w31, w32, w33, w34, w35, w36, w37, w38, w39, w40] t τ) (hk : k w0 w1 w2 w3 w4 w5 w6 w7 w8 w9 w10 w11 w12 w13 w14 w15 w16 w17 w18 w19 w20 w21 w22 w23 w24 w25 w26 w27 w28 w29 w30 w31 w32 w33 w34 w35 w36 w37 w38 w39 w40) : ld s.h ⟨r, 0, none⟩ fun v0 => ld s.h ⟨r, 1, none⟩ fun v1 => ld s.h ⟨r, 2, none⟩ fun v2 => ld s.h ⟨r, 3, none⟩ fun v3 => ld s.h ⟨r, 4, none⟩ fun v4 => ld s.h ⟨r, 5, none⟩ fun v5 => ld s.h ⟨r, 6, none⟩ fun v6 => ld s.h ⟨r, 7, none⟩ fun v7 => ld s.h ⟨r, 8, none⟩ fun v8 => ld s.h ⟨r, 9, none⟩ fun v9 => ld s.h ⟨r, 10, none⟩ fun v10 => ld s.h ⟨r, 11, none⟩ fun v11 => ld s.h ⟨r, 12, none⟩ fun v12 => ld s.h ⟨r, 13, none⟩ fun v13 => ld s.h ⟨r, 14, none⟩ fun v14 => ld s.h ⟨r, 15, none⟩ fun v15 => ld s.h ⟨r, 16, none⟩ fun v16 => ld s.h ⟨r, 17, none⟩ fun v17 => ld s.h ⟨r, 18, none⟩ fun v18 => ld s.h ⟨r, 19, none⟩ fun v19 => ld s.h ⟨r, 20, none⟩ fun v20 => ld s.h ⟨r, 21, none⟩ fun v21 => ld s.h ⟨r, 22, none⟩ fun v22 => ld s.h ⟨r, 23, none⟩ fun v23 => ld s.h ⟨r, 24, none⟩ fun v24 => ld s.h ⟨r, 25, none⟩ fun v25 => ld s.h ⟨r, 26, none⟩ fun v26 => ld s.h ⟨r, 27, none⟩ fun v27 => ld s.h ⟨r, 28, none⟩ fun v28 => ld s.h ⟨r, 29, none⟩ fun v29 => ld s.h ⟨r, 30, none⟩ fun v30 => ld s.h ⟨r, 31, none⟩ fun v31 => ld s.h ⟨r, 32, none⟩ fun v32 => ld s.h ⟨r, 33, none⟩ fun v33 => ld s.h ⟨r, 34, none⟩ fun v34 => ld s.h ⟨r, 35, none⟩ fun v35 => ld s.h ⟨r, 36, none⟩ fun v36 => ld s.h ⟨r, 37, none⟩ fun v37 => ld s.h ⟨r, 38, none⟩ fun v38 => ld s.h ⟨r, 39, none⟩ fun v39 => ld s.h ⟨r, 40, none⟩ fun v40 => k v0 v1 v2 v3 v4 v5 v6 v7 v8 v9 v10 v11 v12 v13 v14 v15 v16 v17 v18 v19 v20 v21 v22 v23 v24 v25 v26 v27 v28 v29 v30 v31 v32 v33 v34 v35 v36 v37 v38 v39 v40 := by
 refine ld_t h rfl ?_
 refine ld_t h rfl ?_
 refine ld_t h rfl ?_
 refine ld_t h rfl ?_
 refine ld_t h rfl ?_
 refine ld_t h rfl ?_
 refine ld_t h rfl ?_
 refine ld_t h rfl ?_
 refine ld_t h rfl ?_
 refine ld_t h rfl ?_
 refine ld_t h rfl ?_
 refine ld_t h rfl ?_
 refine ld_t h rfl ?_
 refine ld_t h rfl ?_
 refine ld_t h rfl ?_
 refine ld_t h rfl ?_
 refine ld_t h rfl ?_
 refine ld_t h rfl ?_
 refine ld_t h rfl ?_
 refine ld_t h rfl ?_
 refine ld_t h rfl ?_
 refine ld_t h rfl ?_
 refine ld_t h rfl ?_
 refine ld_t h rfl ?_
 refine ld_t h rfl ?_
 refine ld_t h rfl ?_
 refine ld_t h rfl ?_
 refine ld_t h rfl ?_
 refine ld_t h rfl ?_
 refine ld_t h rfl ?_
 refine ld_t h rfl ?_
 refine ld_t h rfl ?_
 refine ld_t h rfl ?_
 refine ld_t h rfl ?_
 refine ld_t h rfl ?_
 refine ld_t h rfl ?_
 refine ld_t h rfl ?_
 refine ld_t h rfl ?_
 refine ld_t h rfl ?_
 refine ld_t h rfl ?_
 refine ld_t h rfl ?_
 exact hk
def stsL (H : Heap) (r : Nat) : Nat → List Value → (Heap → Prop) → Prop
 | _, [], k => k H
 | i, v :: vs, k => st H ⟨r, i, none⟩ v fun H' => stsL H' r (i + 1) vs k
theorem stsL_t {r t τ : Nat} {k : Heap → Prop} : ∀ (vs : List Value) (i : Nat) (l : List Value) (s : TH), Blk s r l t τ → l.length = i + vs.length → (∀ v ∈ vs, oneC v = true) →
  (∀ s' : TH, Blk s' r (l.take i ++ vs) t τ → On r s s' → s.h.size = s'.h.size → k s'.h) → stsL s.h r i vs k
 | [], i, l, s, h, hl, h1, hk => by
  refine hk s ?_ ⟨Nat.le_refl _, fun _ _ => rfl, fun _ _ _ => rfl⟩ rfl
  rw [List.take_of_length_le (by simp at hl; omega), List.append_nil]; exact h
 | v :: vs, i, l, s, h, hl, h1, hk => by
  rw [List.length_cons] at hl
  refine st_t h (h1 v (by simp)) (by omega) fun s' b c z => ?_
  refine stsL_t vs (i + 1) (l.set i v) s' b (by rw [List.length_set]; omega) (fun u hu => h1 u (by simp [hu])) fun s2 b2 c2 z2 => hk s2 ?_ (c.trans c2 fun _ _ h => h) (z.trans z2)
  have e : (l.set i v).take (i + 1) ++ vs = l.take i ++ v :: vs := by
   rw [List.take_add_one, List.getElem?_set_self (by omega), List.take_set_of_le (Nat.le_refl _)]
   simp
  rw [← e]; exact b2
theorem gv_one (n : Int) (il bl : List UInt8) : ∀ v ∈ gv n il bl, oneC v = true := by
 intro v hv
 unfold gv at hv
 rcases List.mem_cons.1 hv with rfl | hv
 ·rfl
 ·rcases List.mem_append.1 hv with hv | hv <;> (unfold bvs at hv; obtain ⟨b, _, rfl⟩ := List.mem_map.1 hv; rfl)
set_option maxRecDepth 20000 in
/-- all cells of a header are stored -/
theorem stG {s : TH} {r t τ : Nat} {l : List Value} {k : Heap → Prop} (n : Int) {il bl : List UInt8} (h8 : il.length = 8) (h32 : bl.length = 32) {v0 v1 v2 v3 v4 v5 v6 v7 v8 v9 v10 v11 v12 v13 v14 v15 v16 v17 v18 v19 v20 v21 v22 v23 v24 v25 v26 v27 v28 v29 v30 v31 v32 v33 v34 v35 v36 v37 v38 v39 v40 : Value} (he : gv n il bl = [v0, v1, v2, v3, v4, v5, v6, v7, v8, v9, v10, v11, v12, v13, v14, v15, v16, v17, v18, v19, v20, v21, v22, v23, v24, v25, v26, v27, v28, v29, v30, v31, v32, v33, v34, v35, v36, v37, v38, v39, v40]) (h : Blk s r l t τ) (hl : l.length = 41)
  (hk : ∀ s' : TH, Blk s' r (gv n il bl) t τ → On r s s' → s.h.size = s'.h.size → k s'.h) : st s.h ⟨r, 0, none⟩ v0 fun H0 => st H0 ⟨r, 1, none⟩ v1 fun H1 => st H1 ⟨r, 2, none⟩ v2 fun H2 => st H2 ⟨r, 3, none⟩ v3 fun H3 => st H3 ⟨r, 4, none⟩ v4 fun H4 => st H4 ⟨r, 5, none⟩ v5 fun H5 => st H5 ⟨r, 6, none⟩ v6 fun H6 => st H6 ⟨r, 7, none⟩ v7 fun H7 => st H7 ⟨r, 8, none⟩ v8 fun H8 => st H8 ⟨r, 9, none⟩ v9 fun H9 => st H9 ⟨r, 10, none⟩ v10 fun H10 => st H10 ⟨r, 11, none⟩ v11 fun H11 => st H11 ⟨r, 12, none⟩ v12 fun H12 => st H12 ⟨r, 13, none⟩ v13 fun H13 => st H13 ⟨r, 14, none⟩ v14 fun H14 => st H14 ⟨r, 15, none⟩ v15 fun H15 => st H15 ⟨r, 16, none⟩ v16 fun H16 => st H16 ⟨r, 17, none⟩ v17 fun H17 => st H17 ⟨r, 18, none⟩ v18 fun H18 => st H18 ⟨r, 19, none⟩ v19 fun H19 => st H19 ⟨r, 20, none⟩ v20 fun H20 => st H20 ⟨r, 21, none⟩ v21 fun H21 => st H21 ⟨r, 22, none⟩ v22 fun H22 => st H22 ⟨r, 23, none⟩ v23 fun H23 => st H23 ⟨r, 24, none⟩ v24 fun H24 => st H24 ⟨r, 25, none⟩ v25 fun H25 => st H25 ⟨r, 26, none⟩ v26 fun H26 => st H26 ⟨r, 27, none⟩ v27 fun H27 => st H27 ⟨r, 28, none⟩ v28 fun H28 => st H28 ⟨r, 29, none⟩ v29 fun H29 => st H29 ⟨r, 30, none⟩ v30 fun H30 => st H30 ⟨r, 31, none⟩ v31 fun H31 => st H31 ⟨r, 32, none⟩ v32 fun H32 => st H32 ⟨r, 33, none⟩ v33 fun H33 => st H33 ⟨r, 34, none⟩ v34 fun H34 => st H34 ⟨r, 35, none⟩ v35 fun H35 => st H35 ⟨r, 36, none⟩ v36 fun H36 => st H36 ⟨r, 37, none⟩ v37 fun H37 => st H37 ⟨r, 38, none⟩ v38 fun H38 => st H38 ⟨r, 39, none⟩ v39 fun H39 => st H39 ⟨r, 40, none⟩ v40 fun H40 => k H40 := by
 have h0 := stsL_t (k := k) (gv n il bl) 0 l s h (by rw [gv_len h8 h32, hl]) (gv_one n il bl) fun s' b c z => hk s' (by simpa using b) c z
 rw [he] at h0
 exact h0
theorem copy_blkm {P : Program} {t t2 ty e : TypeId} {E : List PanicEntry → Heap → Prop} {s : TH} {r o n m c mc tb : Nat} {xa : Option Addr} {L : List Value} {x : List UInt8} {τ τx : Nat} {K : Value → Heap → Prop}
  (ht : P.underlying t = some (.slice e)) (hi' : (P.info? e).map (fun i => (i.zero, i.size, i.bytes)) = some (some (.int .u8 0), 1, 1))
  (hB : Blk s r L tb τ) (hx : Sl s xa (bvs x) τx) (hm : x.length = m) (hn : 0 < m) (hmn : m ≤ n) (ho : o + n ≤ L.length)
  (hk : ∀ s' : TH, Blk s' r (L.take o ++ bvs x ++ L.drop (o + m)) tb τ → On r s s' → s.h.size = s'.h.size → K (.int .i64 (m : Int)) s'.h) :
  semW P (Builtin.copy_ #[t, t2] ty #[.slice (some ⟨r, o, none⟩) n c, .slice xa m mc]) E s.h K := .mk fun w hw => by
 obtain ⟨i, hi, hz, hs, hby⟩ := info_of hi'
 obtain ⟨b, rfl⟩ := hx.some (fun h => by have := congrArg List.length h; rw [bvs_len, List.length_nil] at this; omega)
 have hmin : min m n = m := by omega
 have hfw := run_firstCells_some (P := P) w 1 m b m mc (bvs x) (by rw [bvs_len]; omega) fun j u hu => hx.cells w hw j u hu
 have hst := run_storeCells_at P r o tb (bvs x) 0 L.toArray w (by rw [hw]; exact hB.get) (by simp [bvs_len]; omega) (bvs_one _)
 simp only [Nat.add_zero, bvs_len] at hst
 have hr : (Builtin.copy_ #[t, t2] ty #[.slice (some ⟨r, o, none⟩) n c, .slice (some b) m mc]).run P w = .ok (.int .i64 (m : Int)) (w.setRow r (L.take o ++ bvs x ++ L.drop (o + m)).toArray) := by
  simp [Builtin.copy_, run_underlying ht, sizeOf, typeInfo, hi, hs, hfw, hst, goInt, Builtin.lenOf, hm, hmin]
 rw [hr]
 have hset : (w.setRow r (L.take o ++ bvs x ++ L.drop (o + m)).toArray).heap[r]? = some (.cells (L.take o ++ bvs x ++ L.drop (o + m)).toArray tb (0, 0)) := setRow_heap w r L.toArray _ tb _ (by rw [hw]; exact hB.get)
 have hK := hk ⟨(w.setRow r (L.take o ++ bvs x ++ L.drop (o + m)).toArray).heap, s.g⟩ ⟨hset, hB.tag⟩ ⟨by simp [← hw], fun _ _ => rfl, fun j hj hn => ?_⟩ (by simp [← hw])
 ·exact ⟨hK, rfl, rfl, rfl⟩
 ·show (w.setRow r _).heap[j]? = _
  rw [setRow_other w r j _ (fun e => hn (by simp [e])), hw]
theorem c_full (τ : Nat) {xa : Option Addr} {xn : Nat} (xc : Nat) {l : List UInt8} {τx : Nat} {s : TH} (hx : Sl s xa (bvs l) τx) (hn : l.length = xn) (n : Nat) (h0 : 0 < xn ∧ xn ≤ n ∧ n ≤ 100000) : TRet Tryz.prog 72 #[.slice xa xn xc, .int .i64 (n : Int)] s fun v s' => ∃ a c, v = .slice a n c ∧ Ch [] s s' ∧ Own s' a n c 5 1 (bvs (l ++ List.replicate (n - xn) 0)) τ := by
 obtain ⟨M, hM, hM0, hMa, hMb, hMc, hMd, hMe, hMf⟩ := fresh6 s τx τ 0 0 0 0
 refine F72_calls _ _ _ _  ?_
 unfold F72
 refine ask_t (by omega) ?_
 refine al_t (M + 1) fun r1 s2 i f b j => ?_
 have hz := f
 rw [rowz, Int.toNat_natCast] at hz
 rw [Int.toNat_natCast]
 have g := hx.mv b (tagn (by simp))
 refine copy_blkm u85 in5 hz g hn (by omega) (by omega) (by rw [bvs_len, List.length_replicate]; omega) fun h r1_8 e _ => ?_
 have d := on_ch hz e
 have k := d.size
 refine dInt_i (ask_t (by omega) ?_)
 have h1 := r1_8
 have e1 : (bvs (List.replicate n 0)).take 0 ++ bvs l ++ (bvs (List.replicate n 0)).drop (0 + xn) = bvs (l ++ List.replicate (n - xn) 0) := by
  unfold bvs
  rw [List.take_zero, List.nil_append, Nat.zero_add, ← List.map_drop, List.drop_replicate, ← List.map_append]
 rw [e1] at h1
 have h2 := h1.own (n := n) 1 (by rw [bvs_len, List.length_append, List.length_replicate, hn]; omega) (by unfold maxLen; omega)
 simp only [slO_zero, Int.toNat_natCast, Int.toNat_zero, Nat.sub_zero]
 exact ret_t' (s' := remark h (M + 1) τ) rfl ⟨_, _, rfl, remark_ch (((Ch.refl [] s).ch b (by simp)).fr d hM (by simp)) hM (by omega), h2.remark⟩
theorem c_lsame {xa : Option Addr} {xn : Nat} (xc : Nat) {l : List UInt8} {τx : Nat} {ya : Option Addr} {yn : Nat} (yc : Nat) {m : List UInt8} {τy : Nat} {s : TH} (hx : Sl s xa (bvs l) τx) (hn : l.length = xn) (h0 : xa = none → xn = 0) (hy : Sl s ya (bvs m) τy) (hm : m.length = yn) (g0 : ya = none → yn = 0) : TRet Tryz.prog 69 #[.slice xa xn xc, .slice ya yn yc] s fun v s' => v = .bool (decide (l = m)) ∧ Ch [] s s' := by
 refine F69_calls _ _ _ _ _ _  ?_
 unfold F69
 refine conv_bs u85 u5 (by kernel_rfl) hx hn h0 ?_
 refine dStr_i ?_
 refine conv_bs u85 u5 (by kernel_rfl) hy hm g0 ?_
 refine dStr_i ?_
 refine ret_t ?_
 exact ⟨ret_b (by simp only [ByteArray.toList_mk]; by_cases h : l = m <;> simp [h]), (Ch.refl [] s)⟩
theorem c_lencGroup (τ n : Nat) (i0 i1 i2 i3 i4 i5 i6 i7 b0 b1 b2 b3 b4 b5 b6 b7 b8 b9 d e f g i j k l m o p q r t u w y z A B C D : UInt8) (s : TH) (hn : n ≤ 7) : TRet Tryz.prog 155 #[.agg (gv (n : Int) [i0, i1, i2, i3, i4, i5, i6, i7] [b0, b1, b2, b3, b4, b5, b6, b7, b8, b9, d, e, f, g, i, j, k, l, m, o, p, q, r, t, u, w, y, z, A, B, C, D]).toArray] s fun v s' => ∃ a' c', v = .tuple #[.slice a' 128 c', .int .i64 0] ∧ Ch [] s s' ∧ Own s' a' 128 c' 5 1 (bvs (hdL n [i0, i1, i2, i3, i4, i5, i6, i7] [b0, b1, b2, b3, b4, b5, b6, b7, b8, b9, d, e, f, g, i, j, k, l, m, o, p, q, r, t, u, w, y, z, A, B, C, D])) τ := by
 obtain ⟨M, hM, hM0, hMa, hMb, hMc, hMd, hMe, hMf⟩ := fresh6 s τ 0 0 0 0 0
 refine F155_calls _ _ _ _ _ _ _ _ _ _ _ _ _ _ _ _ _ _ _ _ _ _ _ _ _ _ _ _ _ _ _ _ _ _ _ _ _ _ _ _ _  ?_
 unfold F155
 refine al_t (M + 1) fun r1 s2 an L Y ao => ?_
 have hg1 : Blk s2 r1 (gv (n : Int) [i0, i1, i2, i3, i4, i5, i6, i7] [b0, b1, b2, b3, b4, b5, b6, b7, b8, b9, d, e, f, g, i, j, k, l, m, o, p, q, r, t, u, w, y, z, A, B, C, D]) 118 (M + 1) := L
 clear L
 refine jn_u ?_
 refine ld_t hg1 rfl (dInt_i ?_)
 refine sB_d (fun P => by exfalso; omega) (fun P => ?_)
 refine ld_t hg1 rfl (dInt_i ?_)
 intro _
 intros
 refine dBl_i ?_
 refine sB_d (fun Q => by exfalso; omega) (fun Q => ?_)
 refine al_t (M + 2) fun ap aq ab N O ar => ?_
 refine conv_lit u85 u5 (show Blk _ _ (bvs [104, 100]) _ _ from N) rfl fun au E R hsz => ?_
 have F := on_ch N R
 have av := F.size
 refine dSl_i ?_
 have G := hg1.ch (O.app F) (by simp)
 refine ld_t G rfl (dInt_i ?_)
 refine wr_a fun aw hn24 => ?_
 refine al_t (M + 3) fun ax ay ac S a ad => ?_
 have T := E.mv a (tagn (by simp))
 refine app_g (x := [UInt8.ofNat n, 0]) (M + 4) u85 in5 T rfl (by have h := (S).sl; rw [hn24, u8n (by omega)] at h; exact h) rfl (by omega) (by omega) fun ae a2 c2 U b hne => ?_
 have af := b.size
 refine dSl_i (ask_t (by omega) ?_)
 rw [slO_zero]
 have H := G.ch (a.app b) (by simp)
 refine app_bv u85 in5 U (gv_slI H rfl rfl) rfl (by omega) fun ag a3 c3 V c => ?_
 have ah := c.size
 refine dSl_i (ask_t (by omega) ?_)
 rw [slO_zero]
 have W := H.ch c (by simp)
 refine app_bv u85 in5 V (gv_slB W rfl rfl) rfl (by omega) fun ai a4 c4 X I => ?_
 have aj := I.size
 refine dSl_i ?_
 refine tcall (c_full τ (xn := 44) _ (X).sl rfl 128 (by omega)) ?_
 rintro ak al ⟨Z, aa, rfl, J, K⟩
 have am := J.size
 refine dSl_i ?_
 refine ret_t ?_
 exact ⟨_, _, rfl, (((((((((Ch.refl [] s).ch Y (by simp)).ch O (by simp)).fr F hM (by simp)).ch a (by simp)).ch b (by simp)).fr c hM (by simp)).fr I hM (by simp)).ch J (by simp)), K⟩
theorem sl_cutB {s : TH} {xa : Option Addr} {l : List UInt8} {τ : Nat} (h : Sl s xa (bvs l) τ) (p c : Nat) (hp : p < l.length) (hpc : c ≠ p) : ∃ g o, slO xa 1 (p : Int) (c : Int) = some ⟨g, o, none⟩ ∧ Sl s (some ⟨g, o, none⟩) (bvs (l.drop p)) τ := by
 rcases h with h | ⟨g, o, rfl, h1, h2, h3⟩
 ·have := congrArg List.length h; rw [bvs_len, List.length_nil] at this; omega
 ·refine ⟨g, o + p, by rw [slA_mk, if_neg hpc, Nat.mul_one], .inr ⟨g, o + p, rfl, h1, h2, fun j v hv => ?_⟩⟩
  rw [Nat.add_assoc]
  refine h3 (p + j) v ?_
  unfold bvs at hv ⊢
  rw [List.map_drop, List.getElem?_drop] at hv; exact hv
set_option maxRecDepth 100000 in
/-- bollard/layout.DecodeGroup -/
theorem c_ldecGroup (n : Nat) (i0 i1 i2 i3 i4 i5 i6 i7 b0 b1 b2 b3 b4 b5 b6 b7 b8 b9 f g i k m o p q r t u w x y z A B C D E F G : UInt8) {xa : Option Addr} {xc : Nat} {τx : Nat} {s : TH} (hx : Sl s xa (bvs (hdL n [i0, i1, i2, i3, i4, i5, i6, i7] [b0, b1, b2, b3, b4, b5, b6, b7, b8, b9, f, g, i, k, m, o, p, q, r, t, u, w, x, y, z, A, B, C, D, E, F, G])) τx) (hn : n ≤ 7) (hc : 128 ≤ xc) : TRet Tryz.prog 100 #[.slice xa 128 xc] s fun v s' => v = .tuple #[.agg (gv (n : Int) [i0, i1, i2, i3, i4, i5, i6, i7] [b0, b1, b2, b3, b4, b5, b6, b7, b8, b9, f, g, i, k, m, o, p, q, r, t, u, w, x, y, z, A, B, C, D, E, F, G]).toArray, .int .i64 0] ∧ Ch [] s s' := by
 have he8 : ((UInt8.ofNat n).toNat : Int) = (n : Int) := by rw [← u8n (by omega)]; exact (show (n : Int) % 256 = (n : Int) from by omega)
 obtain ⟨g4, o4, he4, hs4⟩ := sl_cutB hx 4 xc (by rw [hdL_len n rfl rfl]; decide) (by omega)
 obtain ⟨g12, o12, he12, hs12⟩ := sl_cutB hx 12 xc (by rw [hdL_len n rfl rfl]; decide) (by omega)
 have hs0 : Sl s (slO xa 1 0 (xc : Int)) (bvs [104, 100]) τx := hx.pre0 2 xc
 have hxl : (hdL n [i0, i1, i2, i3, i4, i5, i6, i7] [b0, b1, b2, b3, b4, b5, b6, b7, b8, b9, f, g, i, k, m, o, p, q, r, t, u, w, x, y, z, A, B, C, D, E, F, G]).length = 128 := hdL_len n rfl rfl
 obtain ⟨ax, rfl⟩ := hx.some (fun e => by have := congrArg List.length e; rw [bvs_len, hxl] at this; cases this)
 have hx0 := hx
 obtain ⟨M, hM, hM0, hMa, hMb, hMc, hMd, hMe, hMf⟩ := fresh6 s τx 0 0 0 0 0
 refine F100_calls _ _ _  ?_
 unfold F100
 refine al_t (M + 1) fun r1 s2 av aa K aw => ?_
 refine sB_f (by rfl) (ask_t (by omega) ?_)
 have ab := hs0.mv K (tagn (by simp))
 refine conv_bs (l := [104, 100]) u85 u5 (by kernel_rfl) ab rfl (fun h => by cases h) ?_
 refine dStr_i ?_
 refine sB_f (by simp only [ByteArray.toList_mk]; rfl) ?_
 refine nz_i (ask_t (by omega) ?_)
 have N := hx0.mv K (tagn (by simp))
 refine ld_sl (j := 2) N rfl ?_
 refine dInt_i ?_
 rw [he8]
 refine wr_t (by omega) (ask_t (by omega) (ask_t (by omega) ?_))
 rw [show ((4 : Int)) = ((4 : Nat) : Int) from rfl, he4]
 refine nz_i ?_
 have d := hs4.mv K (tagn (by simp))
 refine ld_sl (j := 0) d rfl ?_
 refine ld_sl d rfl ?_
 refine ld_sl d rfl ?_
 refine ld_sl d rfl ?_
 refine ld_sl d rfl ?_
 refine ld_sl d rfl ?_
 refine ld_sl d rfl ?_
 refine ld_sl d rfl ?_
 refine ask_t (by omega) (ask_t (by omega) ?_)
 rw [show ((12 : Int)) = ((12 : Nat) : Int) from rfl, he12]
 refine nz_i ?_
 have b := hs12.mv K (tagn (by simp))
 refine ld_sl (j := 0) b rfl ?_
 refine ld_sl b rfl ?_
 refine ld_sl b rfl ?_
 refine ld_sl b rfl ?_
 refine ld_sl b rfl ?_
 refine ld_sl b rfl ?_
 refine ld_sl b rfl ?_
 refine ld_sl b rfl ?_
 refine ld_sl b rfl ?_
 refine ld_sl b rfl ?_
 refine ld_sl b rfl ?_
 refine ld_sl b rfl ?_
 refine ld_sl b rfl ?_
 refine ld_sl b rfl ?_
 refine ld_sl b rfl ?_
 refine ld_sl b rfl ?_
 refine ld_sl b rfl ?_
 refine ld_sl b rfl ?_
 refine ld_sl b rfl ?_
 refine ld_sl b rfl ?_
 refine ld_sl b rfl ?_
 refine ld_sl b rfl ?_
 refine ld_sl b rfl ?_
 refine ld_sl b rfl ?_
 refine ld_sl b rfl ?_
 refine ld_sl b rfl ?_
 refine ld_sl b rfl ?_
 refine ld_sl b rfl ?_
 refine ld_sl b rfl ?_
 refine ld_sl b rfl ?_
 refine ld_sl b rfl ?_
 refine ld_sl b rfl ?_
 refine al_t (M + 2) fun af ag ae U H ah => ?_
 refine ⟨?_, ?_⟩
 ·
  try rw [show ((12 : Int)) = ((12 : Nat) : Int) from rfl, he12]
  refine nz_i ?_
  have ai := d.mv H (tagn (by simp))
  have a := b.mv H (tagn (by simp))
  refine ld_sl (j := 0) a rfl ?_
  refine ld_sl a rfl ?_
  refine ld_sl a rfl ?_
  refine ld_sl a rfl ?_
  refine ld_sl a rfl ?_
  refine ld_sl a rfl ?_
  refine ld_sl a rfl ?_
  refine ld_sl a rfl ?_
  refine ld_sl a rfl ?_
  refine ld_sl a rfl ?_
  refine ld_sl a rfl ?_
  refine ld_sl a rfl ?_
  refine ld_sl a rfl ?_
  refine ld_sl a rfl ?_
  refine ld_sl a rfl ?_
  refine ld_sl a rfl ?_
  refine ld_sl a rfl ?_
  refine ld_sl a rfl ?_
  refine ld_sl a rfl ?_
  refine ld_sl a rfl ?_
  refine ld_sl a rfl ?_
  refine ld_sl a rfl ?_
  refine ld_sl a rfl ?_
  refine ld_sl a rfl ?_
  refine ld_sl a rfl ?_
  refine ld_sl a rfl ?_
  refine ld_sl a rfl ?_
  refine ld_sl a rfl ?_
  refine ld_sl a rfl ?_
  refine ld_sl a rfl ?_
  refine ld_sl a rfl ?_
  refine ld_sl a rfl ?_
  first | rfl | exact congrArg (Value.int .u8) he8 | exact (congrArg (Value.int .u8) he8).symm
 ·
  refine ⟨?_, ?_⟩
  ·
   try rw [show ((4 : Int)) = ((4 : Nat) : Int) from rfl, he4]
   refine nz_i ?_
   have c := d.mv H (tagn (by simp))
   refine ld_sl (j := 0) c rfl ?_
   refine ld_sl c rfl ?_
   refine ld_sl c rfl ?_
   refine ld_sl c rfl ?_
   refine ld_sl c rfl ?_
   refine ld_sl c rfl ?_
   refine ld_sl c rfl ?_
   refine ld_sl c rfl ?_
   first | rfl | exact congrArg (Value.int .u8) he8 | exact (congrArg (Value.int .u8) he8).symm
  ·
   refine ⟨?_, ?_⟩
   ·
    have V := N.mv H (tagn (by simp))
    refine ld_sl (j := 2) V rfl ?_
    refine dInt_i ?_
    first | rfl | exact congrArg (Value.int .u8) he8 | exact (congrArg (Value.int .u8) he8).symm
   ·
    refine stG (n : Int) (il := [i0, i1, i2, i3, i4, i5, i6, i7]) (bl := [b0, b1, b2, b3, b4, b5, b6, b7, b8, b9, f, g, i, k, m, o, p, q, r, t, u, w, x, y, z, A, B, C, D, E, F, G]) rfl rfl rfl U (by rfl) fun aj O S ak => ?_
    have P := on_ch U S
    refine ld41 O ?_
    refine tcall (c_lencGroup (M + 10) n i0 i1 i2 i3 i4 i5 i6 i7 b0 b1 b2 b3 b4 b5 b6 b7 b8 b9 f g i k m o p q r t u w x y z A B C D E F G _ (by omega)) ?_
    rintro al am ⟨ac, ad, rfl, I, L⟩
    have an := I.size
    refine dT2 (dSl_i (dInt_i ?_))
    refine jn_u ?_
    refine sB_f (by rfl) ?_
    have Q := ((H.app P).app I)
    have W := N.mv Q (tagn (by simp <;> omega))
    refine tcall (c_lsame _ _ (L).sl hxl (fun h => by have := (L).none_iff h; omega) W hxl (fun h => by cases h)) ?_
    rintro ao ap ⟨rfl, J⟩
    have aq := J.size
    rw [decide_eq_true rfl]
    refine dBl_i ?_
    intro _
    intros
    refine dBl_i (sB_f (by rfl) ?_)
    have X := O.ch (I.app J) (by simp)
    refine ld41 X ?_
    have R := aa.ch (Q.app J) (by simp)
    refine stG (n : Int) (il := [i0, i1, i2, i3, i4, i5, i6, i7]) (bl := [b0, b1, b2, b3, b4, b5, b6, b7, b8, b9, f, g, i, k, m, o, p, q, r, t, u, w, x, y, z, A, B, C, D, E, F, G]) rfl rfl rfl R (by rfl) fun ar Y T au => ?_
    have Z := on_ch R T
    refine ld41 Y ?_
    refine ret_t ?_
    exact ⟨rfl, (((((((Ch.refl [] s).ch K (by simp)).ch H (by simp)).fr P hM (by simp)).ch I (by simp)).ch J (by simp)).fr Z hM (by simp))⟩
theorem fdv (n k : Nat) (hk : k ≤ 4) : Int.fdiv (n : Int) (2 ^ min (Int.toNat (8 * (k : Int))) 64) = ((n / 256 ^ k : Nat) : Int) := by
 have e : ((2 : Int) ^ min (Int.toNat (8 * (k : Int))) 64) = ((256 ^ k : Nat) : Int) := by
  rcases (by omega : k = 0 ∨ k = 1 ∨ k = 2 ∨ k = 3 ∨ k = 4) with rfl | rfl | rfl | rfl | rfl <;> decide
 rw [e, Int.fdiv_eq_ediv_of_nonneg _ (Int.natCast_nonneg _)]
 exact (Int.natCast_ediv n (256 ^ k)).symm
theorem u8r (q : Nat) : IntKind.u8.wrap (q : Int) = ((UInt8.ofNat (q % 256)).toNat : Int) := by
 have e : IntKind.u8.wrap (q : Int) = (q : Int) % 256 := rfl
 have e2 : (UInt8.ofNat (q % 256)).toNat = (q % 256) % 256 := rfl
 rw [e, e2]; omega
theorem shl16 (q : Nat) (h : q < 65521) : IntKind.i64.wrap ((q : Int) * 2 ^ min (Int.toNat 16) 64) = (q : Int) * 65536 := by
 have e : ((2 : Int) ^ min (Int.toNat 16) 64) = 65536 := by decide
 rw [e]; exact wrap_id (by omega) (by omega)
theorem div_zero {n k : Nat} (h : n < 256 ^ k) : n / 256 ^ k = 0 := Nat.div_eq_of_lt h
theorem c_wthere {xa : Option Addr} {xn : Nat} (xc : Nat) (p w : Nat) (s : TH) (hw : 1 ≤ w ∧ w ≤ 4) (hp : p + w ≤ xn) (hb : xn ≤ 1000000000) : TRet Tryz.prog 171 #[.slice xa xn xc, .int .i64 (p : Int), .int .i64 (w : Int)] s fun v s' => v = .int .i64 0 ∧ Ch [] s s' := by
 refine F171_calls _ _ _ _ _  ?_
 unfold F171
 refine jn_u ?_
 refine sB_d (fun a => by exfalso; omega) (fun a => ?_)
 refine sB_d (fun b => by exfalso; omega) (fun b => ?_)
 intro _
 intros
 refine dBl_i ?_
 refine sB_d (fun c => by exfalso; omega) (fun c => ?_)
 refine jn_u ?_
 refine sB_d (fun d => by exfalso; omega) (fun d => ?_)
 refine wr_t (by omega) ?_
 intro _
 intros
 refine dBl_i ?_
 refine sB_d (fun e => by exfalso; omega) (fun e => ?_)
 refine ret_t ?_
 exact ⟨rfl, (Ch.refl [] s)⟩
theorem c_wput (τ : Nat) {xa : Option Addr} {xn : Nat} (xc : Nat) {l : List UInt8} {τx : Nat} {s : TH} (hx : Sl s xa (bvs l) τx) (hn : l.length = xn) (hb : xn ≤ 1000000000) (p w n : Nat) (hw : 1 ≤ w ∧ w ≤ 4) (hp : p + w ≤ xn) (hN : n < 256 ^ w) (hN2 : n < 4294967296) : TRet Tryz.prog 133 #[.slice xa xn xc, .int .i64 (p : Int), .int .i64 (w : Int), .int .i64 (n : Int)] s fun v s' => ∃ a' c', v = .tuple #[.slice a' xn c', .int .i64 0] ∧ Ch [] s s' ∧ Own s' a' xn c' 5 1 (bvs (wrL l p w n)) τ := by
 obtain ⟨M, hM, hM0, hMa, hMb, hMc, hMd, hMe, hMf⟩ := fresh6 s τx τ 0 0 0 0
 refine F133_calls _ _ _ _ _ _  ?_
 unfold F133
 refine tcall (c_wthere xc p w _ hw hp hb) ?_
 rintro A B ⟨rfl, b⟩
 have C := b.size
 refine dInt_i ?_
 refine jn_u ?_
 refine jn_u ?_
 refine sB_t (by rfl) ?_
 refine sB_d (fun f => by exfalso; omega) (fun f => ?_)
 refine wr_t (by omega) (ask_t (by omega) ?_)
 refine nm_a fun qn hqn => ?_
 rw [fdv _ _ hw.2, div_zero hN] at hqn
 intro _
 intros
 refine dBl_i ?_
 refine sB_nd (fun g => by exfalso; omega) (fun g => ?_)
 intro _
 intros
 refine dInt_i (sB_f (by rfl) ?_)
 have t := hx.mv b (tagn (by simp))
 refine app_bv (xs := []) u85 in5 (Own.nil _ _ _ (M + 5)) t hn (by omega) fun c a1 c1 i e => ?_
 have D := e.size
 have ho0 := i
 rw [List.nil_append, Nat.zero_add] at ho0
 simp only [Nat.zero_add]
 refine dSl_i ?_
 refine ⟨fun vs H' => ∃ s' : TH, s'.h = H' ∧ ∃ j, vs = [.int .i64 j] ∧ Ch [M + 5] c s' ∧ (∃ k : Nat, j = k ∧ k ≤ w ∧ Own s' a1 xn c1 5 1 (bvs (wrL l p k n)) (M + 5)), fun vs H' => match vs with | [.int .i64 j] => ((w : Int) - j).toNat | _ => 0, ⟨c, rfl, _, rfl, Ch.refl _ _, ?_⟩, ?_⟩
 ·
  exact ⟨0, rfl, by omega, ho0⟩
 ·
  intro j _ _ _ _ _ _ _ _ _ _ _ _ _ _ H_ hI_12
  obtain ⟨m, rfl, j_, hvs, a, k, rfl, hk, ho⟩ := hI_12
  cases hvs
  have x := a.size
  refine sB_d (fun o => ?_) (fun o => ?_)
  ·
   refine wr_t (by omega) (wr_t (by omega) (ask_t (by omega) ?_))
   rw [fdv _ _ (by omega)]
   refine nm_t rfl ?_
   refine wr_a fun bn hbn => ?_
   rw [u8r] at hbn
   subst hbn
   obtain ⟨y, rfl⟩ := ho.ne_none (by omega)
   refine nz_i (ask_t (by omega) ?_)
   refine Own.st ho rfl (by omega) fun u q d z => ?_
   have r := Ch.on_tag (T := [M + 5]) (Ch.refl _ _) d ho.tagOf (by simp)
   refine wr_t (by omega) ?_
   refine ⟨⟨u, rfl, _, rfl, (((Ch.refl [M + 5] c).ch a (by simp)).ch r (by simp)), ?_⟩, ?_⟩
   ·
    have ho := q
    rw [show Int.toNat ((p : Int) + (k : Int)) * 1 = p + k by omega, bvs_set] at ho
    exact ⟨k + 1, by omega, by omega, ho⟩
   ·
    simp only []; omega
  ·
   obtain rfl : k = w := by omega
   exact ret_t' (s' := remark m (M + 5) τ) rfl ⟨_, _, rfl, remark_ch ((((Ch.refl [] s).ch b (by simp)).fr e hM (by simp)).fr a hM (by simp)) hM (by omega), (ho).remark⟩
theorem c_wsum {xa : Option Addr} {xn : Nat} (xc : Nat) {l : List UInt8} {τx : Nat} {s : TH} (hx : Sl s xa (bvs l) τx) (hn : l.length = xn) (hb : xn ≤ 1000000000) : TRet Tryz.prog 128 #[.slice xa xn xc] s fun v s' => v = .int .i64 (sumN l : Int) ∧ Ch [] s s' := by
 refine F128_calls _ _ _  ?_
 unfold F128
 refine ⟨fun vs H' => ∃ s' : TH, s'.h = H' ∧ ∃ x1 y1 m, vs = [.int .i64 x1, .int .i64 y1, .int .i64 m] ∧ Ch [] s s' ∧ (∃ k : Nat, m = k ∧ k ≤ xn ∧ x1 = ((sumS (l.take k)).1 : Int) ∧ y1 = ((sumS (l.take k)).2 : Int)), fun vs H' => match vs with | [.int .i64 x1, .int .i64 y1, .int .i64 m] => ((xn : Int) - m).toNat | _ => 0, ⟨s, rfl, _, _, _, rfl, Ch.refl _ _, ?_⟩, ?_⟩
 ·
  exact ⟨0, rfl, by omega, rfl, rfl⟩
 ·
  intro x1 y1 m _ _ _ _ _ _ _ _ _ _ _ _ _ _ H_ hI_2
  obtain ⟨d, rfl, x1_, y1_, m_, hvs, a, k, rfl, hk, rfl, rfl⟩ := hI_2
  cases hvs
  have g := a.size
  have hlt := sumS_lt (l.take k)
  refine sB_d (fun c => ?_) (fun c => ?_)
  ·
   obtain ⟨b, hbk⟩ : ∃ b, l[k]? = some b := ⟨l[k]'(by omega), by simp⟩
   obtain ⟨ad, rfl⟩ := hx.some (fun e => by have := bvs_get hbk; rw [e] at this; simp at this)
   have hb8 := b.toNat_lt
   refine nz_i (ask_t (by omega) ?_)
   have f := hx.mv a (tagn (by simp))
   refine ld_sl f (by rw [Int.toNat_natCast, Nat.mul_one]; exact bvs_get hbk) ?_
   refine dInt_i (wr_t (by omega) (wr_t (by omega) (ask_t (by omega) ?_)))
   refine nm_a fun i hn27 => ?_
   rw [Int.tmod_eq_emod_of_nonneg (by omega)] at hn27
   refine wr_t (by omega) (ask_t (by omega) ?_)
   refine nm_a fun j hn29 => ?_
   rw [Int.tmod_eq_emod_of_nonneg (by omega)] at hn29
   refine wr_t (by omega) ?_
   refine ⟨⟨d, rfl, _, _, _, rfl, ((Ch.refl [] s).ch a (by simp)), ?_⟩, ?_⟩
   ·
    have hs := sumS_snoc (l.take k) b
    rw [show l.take k ++ [b] = l.take (k + 1) by rw [List.take_add_one, hbk]; rfl] at hs
    exact ⟨k + 1, by omega, by omega, by rw [hs]; simp only []; omega, by rw [hs]; simp only []; omega⟩
   ·
    simp only []; omega
  ·
   refine ask_t (by omega) ?_
   rw [shl16 _ hlt.2]
   refine nm_t rfl ?_
   refine wr_t (by omega) ?_
   refine ret_t ?_
   obtain rfl : k = xn := by omega
   rw [List.take_of_length_le (by omega)]
   exact ⟨ret_i (by unfold sumN; omega), ((Ch.refl [] s).ch a (by simp))⟩
theorem c_wseal (τ : Nat) {xa : Option Addr} {xn : Nat} (xc : Nat) {l : List UInt8} {τx : Nat} {s : TH} (hx : Sl s xa (bvs l) τx) (hn : l.length = xn) (hb : xn ≤ 1000000000) (hc : xn ≤ xc) (h4 : 4 ≤ xn) : TRet Tryz.prog 74 #[.slice xa xn xc] s fun v s' => ∃ a' c', v = .tuple #[.slice a' xn c', .int .i64 0] ∧ Ch [] s s' ∧ Own s' a' xn c' 5 1 (bvs (sealL l)) τ := by
 refine F74_calls _ _ _  ?_
 unfold F74
 refine wr_t (by omega) ?_
 rw [show ((xn : Int) - 4) = ((xn - 4 : Nat) : Int) by omega]
 refine sB_d (fun d => by exfalso; omega) (fun d => ?_)
 refine ask_t (by omega) ?_
 simp only [slO_zero, Int.toNat_zero, Nat.sub_zero, Int.toNat_natCast]
 refine tcall (c_wsum (xn := xn - 4) xc (hx.takeB (xn - 4)) (by simp; omega) (by omega)) ?_
 rintro i j ⟨rfl, a⟩
 have k := a.size
 refine dInt_i ?_
 have e := hx.mv a (tagn (by simp))
 refine tcall (c_wput τ xc e hn hb (xn - 4) 4 (sumN (l.take (xn - 4))) (by omega) (by omega) (sumN_lt _) (Nat.lt_of_lt_of_le (sumN_lt _) (by decide))) ?_
 rintro m n ⟨f, g, rfl, b, c⟩
 have h := b.size
 refine dT2 (dSl_i (dInt_i ?_))
 refine ret_t ?_
 exact ⟨_, _, rfl, (((Ch.refl [] s).ch a (by simp)).ch b (by simp)), by unfold sealL; rw [hn]; exact c⟩
structure FldM where
 w : Nat
 m : Nat
 n : Nat
def fc (f : FldM) : List Value := [.int .i64 (f.w : Int), .int .i64 (f.m : Int), .int .i64 (f.n : Int)]
theorem fc_len (f : FldM) : (fc f).length = 3 := rfl
theorem fcell (n : Nat) (hn : n < 3) {ls : List FldM} {k : Nat} {x : FldM} (h : ls[k]? = some x) : (ls.flatMap fc)[k * 3 + n]? = (fc x)[n]? := fm_get fc_len ls k n x h hn
def numL (n : Nat) : Nat → List UInt8
 | 0 => []
 | k + 1 => numL n k ++ [UInt8.ofNat (n / 256 ^ k % 256)]
theorem numL_len (n : Nat) : ∀ k, (numL n k).length = k
 | 0 => rfl
 | k + 1 => by rw [numL, List.length_append, numL_len n k]; rfl
def fldsL (fs : List FldM) : List UInt8 := fs.flatMap fun f => numL f.n f.w
theorem fldsL_snoc {fs : List FldM} {k : Nat} {f : FldM} (h : fs[k]? = some f) : fldsL (fs.take (k + 1)) = fldsL (fs.take k) ++ numL f.n f.w := by
 unfold fldsL
 rw [List.take_add_one, h]
 simp
theorem fldsL_le {fs : List FldM} : ∀ k, (fldsL (fs.take k)).length ≤ (fldsL fs).length := fun k => by
 have e : fldsL fs = fldsL (fs.take k) ++ fldsL (fs.drop k) := by unfold fldsL; rw [← List.flatMap_append, List.take_append_drop]
 rw [e, List.length_append]; omega
theorem c_lfit {fa : Option Addr} {fn : Nat} (fk : Nat) {fs : List FldM} {τf : Nat} (s : TH) (hf : Sl s fa (fs.flatMap fc) τf) (hfn : fs.length = fn) (hf0 : fa = none → fn = 0) (hfb : fn ≤ 1000) (hfl : ∀ f ∈ fs, f.n ≤ f.m) : TRet Tryz.prog 71 #[.slice fa fn fk] s fun v s' => v = .bool true ∧ Ch [] s s' := by
 obtain ⟨M, hM, hM0, hMa, hMb, hMc, hMd, hMe, hMf⟩ := fresh6 s τf 0 0 0 0 0
 refine F71_calls _ _ _  ?_
 unfold F71
 refine ⟨fun vs H' => ∃ s' : TH, s'.h = H' ∧ ∃ i, vs = [.int .i64 i] ∧ Ch [M + 9] s s' ∧ (∃ k : Nat, i = k ∧ k ≤ fn), fun vs H' => match vs with | [.int .i64 i] => ((fn : Int) - i).toNat | _ => 0, ⟨s, rfl, _, rfl, Ch.refl _ _, ?_⟩, ?_⟩
 ·
  exact ⟨0, rfl, by omega⟩
 ·
  intro i _ _ _ _ _ _ _ _ _ _ _ _ _ _ _ _ H_ hI_2
  obtain ⟨G, rfl, i_, hvs, c, k, rfl, hk⟩ := hI_2
  cases hvs
  have H := c.size
  refine sB_d (fun r => ?_) (fun r => ?_)
  ·
   obtain ⟨f, hxe⟩ : ∃ f, fs[k]? = some f := ⟨fs[k]'(by omega), by simp⟩
   have hff := hfl f (List.mem_of_getElem? hxe)
   obtain ⟨a, rfl⟩ := Option.ne_none_iff_exists'.1 (fun e => absurd (hf0 e) (by omega))
   refine nz_i (ask_t (by omega) ?_)
   have d := hf.mv c (tagn (by simp <;> omega))
   refine ld_sl d (by rw [Int.toNat_natCast]; exact fcell 0 (by omega) hxe) ?_
   refine ld_sl2 d (by rw [Int.toNat_natCast]; exact fcell 1 (by omega) hxe) ?_
   refine ld_sl2 d (by rw [Int.toNat_natCast]; exact fcell 2 (by omega) hxe) ?_
   refine al_t (M + 9) fun I J C p A K => ?_
   refine st_t p rfl (by simp) fun L q j D => ?_
   have t := on_ch p j
   refine st_t q rfl (by simp) fun N g l E => ?_
   have u := on_ch q l
   refine st_t g rfl (by simp) fun B b o F => ?_
   have w := on_ch g o
   refine jn_u ?_
   refine ld_t b rfl (dInt_i ?_)
   refine sB_d (fun x => by exfalso; omega) (fun x => ?_)
   refine ld_t b rfl (dInt_i (ld_t b rfl (dInt_i ?_)))
   intro _
   intros
   refine dBl_i ?_
   refine sB_d (fun y => by exfalso; omega) (fun y => ?_)
   refine wr_t (by omega) ?_
   have z := ((((c.app A).app t).app u).app w)
   refine ⟨⟨B, rfl, _, rfl, ((Ch.refl [M + 9] s).ch z (by simp)), ?_⟩, ?_⟩
   ·
    exact ⟨k + 1, by omega, by omega⟩
   ·
    simp only []; omega
  ·
   refine ret_t ?_
   exact ⟨rfl, ((Ch.refl [] s).fr c hM (by simp))⟩
structure AppB (s : TH) (pa : Option Addr) (pn pc : Nat) (l : List UInt8) (τ0 τ : Nat) : Prop where
 or_ : Own s pa pn pc 5 1 (bvs l) τ ∨ ∃ a, pa = some a ∧ pc = pn ∧ l.length = pn ∧ Sl s (some a) (bvs l) τ0
theorem AppB.ch {s s' : TH} {pa : Option Addr} {pn pc : Nat} {l : List UInt8} {τ0 τ : Nat} {T : List Nat} (h : AppB s pa pn pc l τ0 τ) (c : Ch T s s') (h0 : τ0 ∉ T) (h1 : τ ∉ T) : AppB s' pa pn pc l τ0 τ := by
 rcases h.or_ with h | ⟨a, e1, e2, e3, h⟩
 ·exact ⟨.inl (h.mv c (fun j hj e hB => h1 (by have hB2 : s.g j ∈ T := hB; rw [e] at hB2; exact hB2)))⟩
 ·exact ⟨.inr ⟨a, e1, e2, e3, h.mv c (fun j hj e hB => h0 (by have hB2 : s.g j ∈ T := hB; rw [e] at hB2; exact hB2))⟩⟩
theorem AppB.sl {s : TH} {pa : Option Addr} {pn pc : Nat} {l : List UInt8} {τ0 τ : Nat} (h : AppB s pa pn pc l τ0 τ) : ∃ σ, Sl s pa (bvs l) σ ∧ l.length = pn := by
 rcases h.or_ with h | ⟨a, rfl, e2, e3, h⟩
 ·exact ⟨τ, h.sl, by have := h.1; rw [bvs_len] at this; omega⟩
 ·exact ⟨τ0, h, e3⟩
theorem AppB.app {E : List PanicEntry → Heap → Prop} {s : TH} {pa : Option Addr} {pn pc m mc τ0 τ τx : Nat} {b : Addr} {l x : List UInt8} {K : Value → Heap → Prop} (h : AppB s pa pn pc l τ0 τ) (hy : Sl s (some b) (bvs x) τx) (hxl : x.length = m) (hm : 0 < m) (hb : pn ≤ 1000000000 ∧ m ≤ 1000000000)
  (hk : ∀ (s' : TH) (a' : Option Addr) (c' : Nat), Own s' a' (pn + m) c' 5 1 (bvs (l ++ x)) τ → Ch [τ] s s' → K (.slice a' (pn + m) c') s'.h) :
  semW Tryz.prog (Builtin.append_ #[85, 85] 85 #[.slice pa pn pc, .slice (some b) m mc]) E s.h K := by
 rcases h.or_ with h | ⟨a, rfl, rfl, e3, h⟩
 ·exact app_bv u85 in5 h hy hxl (by omega) fun s' a' c' o c => hk s' a' c' o c
 ·exact app_g τ u85 in5 h e3 hy hxl hm hb fun s' a' c' o c _ => hk s' a' c' o (c.mono (by simp))
theorem c_lfields {pa : Option Addr} {pn pc τ0 τ : Nat} {l : List UInt8} {fa : Option Addr} {fn : Nat} (fk : Nat) {fs : List FldM} {τf : Nat} (s : TH) (hb : AppB s pa pn pc l τ0 τ) (hf : Sl s fa (fs.flatMap fc) τf) (hfn : fs.length = fn) (hf0 : fa = none → fn = 0) (hfb : fn ≤ 1000) (hτ : τf ≠ τ) (hτ2 : τ0 ≠ τ) (hfl : ∀ f ∈ fs, f.w ≤ 4 ∧ f.n < 4294967296) (hmx : pn + (fldsL fs).length ≤ 1000) : TRet Tryz.prog 73 #[.slice pa pn pc, .slice fa fn fk] s fun v s' => ∃ a' c', v = .slice a' (pn + (fldsL fs).length) c' ∧ Ch [τ] s s' ∧ AppB s' a' (pn + (fldsL fs).length) c' (l ++ fldsL fs) τ0 τ := by
 obtain ⟨M, hM, hM0, hMa, hMb, hMc, hMd, hMe, hMf⟩ := fresh6 s τ0 τ τf 0 0 0
 refine F73_calls _ _ _ _ _ _  ?_
 unfold F73
 refine ⟨fun vs H' => ∃ s' : TH, s'.h = H' ∧ ∃ qa qn qc i, vs = [.slice qa qn qc, .int .i64 i] ∧ Ch [τ, M + 9] s s' ∧ (∃ k : Nat, i = k ∧ k ≤ fn ∧ qn = pn + (fldsL (fs.take k)).length ∧ AppB s' qa qn qc (l ++ fldsL (fs.take k)) τ0 τ), fun vs H' => match vs with | [.slice qa qn qc, .int .i64 i] => ((fn : Int) - i).toNat | _ => 0, ⟨s, rfl, _, _, _, _, rfl, Ch.refl _ _, ?_⟩, ?_⟩
 ·
  exact ⟨0, rfl, by omega, rfl, by rw [List.take_zero]; show AppB _ _ _ _ (l ++ []) _ _; rw [List.append_nil]; exact hb⟩
 ·
  intro qa qn qc i _ _ _ _ _ _ _ _ _ _ _ _ _ _ _ _ _ _ _ _ _ H_ hI_2
  obtain ⟨aa, rfl, qa_, qn_, qc_, i_, hvs, c, k, rfl, hk, hqn, ho⟩ := hI_2
  cases hvs
  have ab := c.size
  have hle := fldsL_le (fs := fs) k
  refine sB_d (fun D => ?_) (fun D => ?_)
  ·
   obtain ⟨f, hxe⟩ : ∃ f, fs[k]? = some f := ⟨fs[k]'(by omega), by simp⟩
   have hff := hfl f (List.mem_of_getElem? hxe)
   obtain ⟨a, rfl⟩ := Option.ne_none_iff_exists'.1 (fun e => absurd (hf0 e) (by omega))
   refine nz_i (ask_t (by omega) ?_)
   have d := hf.mv c (tagn (by simp <;> omega))
   refine ld_sl d (by rw [Int.toNat_natCast]; exact fcell 0 (by omega) hxe) ?_
   refine ld_sl2 d (by rw [Int.toNat_natCast]; exact fcell 1 (by omega) hxe) ?_
   refine ld_sl2 d (by rw [Int.toNat_natCast]; exact fcell 2 (by omega) hxe) ?_
   refine al_t (M + 9) fun ac ad S A B ae => ?_
   refine st_t A rfl (by simp) fun af C x T => ?_
   have g := on_ch A x
   refine st_t C rfl (by simp) fun ag m y U => ?_
   have o := on_ch C y
   refine st_t m rfl (by simp) fun p q z V => ?_
   have r := on_ch m z
   refine ld_t q rfl (dInt_i ?_)
   refine ⟨fun vs H' => ∃ s' : TH, s'.h = H' ∧ ∃ ra rn rc j, vs = [.slice ra rn rc, .int .i64 j] ∧ Ch [τ] p s' ∧ (∃ kj : Nat, j = kj ∧ kj ≤ f.w ∧ rn = qn + kj ∧ AppB s' ra rn rc (l ++ fldsL (fs.take k) ++ numL f.n kj) τ0 τ), fun vs H' => match vs with | [.slice ra rn rc, .int .i64 j] => ((f.w : Int) - j).toNat | _ => 0, ⟨p, rfl, _, _, _, _, rfl, Ch.refl _ _, ?_⟩, ?_⟩
   ·
    have E := (((B.app g).app o).app r)
    have F := ho.ch E (by simp <;> omega) (by simp <;> omega)
    exact ⟨0, rfl, by omega, rfl, by show AppB _ _ _ _ (l ++ fldsL (fs.take k) ++ []) _ _; rw [List.append_nil]; exact F⟩
   ·
    intro ra rn rc j _ _ _ _ _ _ _ _ _ _ _ _ _ H_ hI_21
    obtain ⟨G, rfl, ra_, rn_, rc_, j_, hvs, b, kj, rfl, hkj, hrn, ho2⟩ := hI_21
    cases hvs
    have W := b.size
    refine sB_d (fun H => ?_) (fun H => ?_)
    ·
     have I := q.ch b (by simp <;> omega)
     refine ld_t I rfl (dInt_i (wr_t (by omega) (ask_t (by omega) ?_)))
     rw [fdv _ _ (by omega)]
     refine nm_t rfl ?_
     refine wr_a fun bn hbn => ?_
     rw [u8r] at hbn
     subst hbn
     refine al_t (M + 9) fun Q R X J t Y => ?_
     have hb1 : Sl R (some ⟨Q, 0, none⟩) (bvs [UInt8.ofNat (f.n / 256 ^ kj % 256)]) (M + 9) := (J).sl
     have K := ho2.ch t (by simp <;> omega) (by simp <;> omega)
     refine AppB.app K hb1 rfl (by omega) (by omega) fun L pa2 pc2 N u => ?_
     have Z := u.size
     refine dSl_i (wr_t (by omega) ?_)
     have O := ((b.app t).app u)
     refine ⟨⟨L, rfl, _, _, _, _, rfl, ((Ch.refl [τ] p).ch O (by simp)), ?_⟩, ?_⟩
     ·
      exact ⟨kj + 1, by omega, by omega, by omega, by have h := N; rw [List.append_assoc] at h; exact ⟨.inl h⟩⟩
     ·
      simp only []; omega
    ·
     refine wr_t (by omega) ?_
     have P := (((((c.app B).app g).app o).app r).app b)
     refine ⟨⟨G, rfl, _, _, _, _, rfl, ((Ch.refl [τ, M + 9] s).ch P (by simp)), ?_⟩, ?_⟩
     ·
      obtain rfl : kj = f.w := by omega
      exact ⟨k + 1, by omega, by omega, by rw [fldsL_snoc hxe, List.length_append, numL_len]; omega, by rw [fldsL_snoc hxe, ← List.append_assoc]; exact ho2⟩
     ·
      simp only []; omega
  ·
   refine ret_t ?_
   obtain rfl : k = fn := by omega
   rw [List.take_of_length_le (by omega)] at hqn ho
   subst hqn
   exact ⟨_, _, rfl, ((Ch.refl [τ] s).fr c hM (by simp)), ho⟩
theorem c_lfull (τ : Nat) {xa : Option Addr} {xn : Nat} (xc : Nat) {l : List UInt8} {τx : Nat} {s : TH} (hx : Sl s xa (bvs l) τx) (hn : l.length = xn) (n : Nat) (h0 : 0 < xn ∧ xn ≤ n ∧ n ≤ 100000) : TRet Tryz.prog 72 #[.slice xa xn xc, .int .i64 (n : Int)] s fun v s' => ∃ a c, v = .slice a n c ∧ Ch [] s s' ∧ Own s' a n c 5 1 (bvs (l ++ List.replicate (n - xn) 0)) τ := by
 obtain ⟨M, hM, hM0, hMa, hMb, hMc, hMd, hMe, hMf⟩ := fresh6 s τx τ 0 0 0 0
 refine F72_calls _ _ _ _  ?_
 unfold F72
 refine ask_t (by omega) ?_
 refine al_t (M + 1) fun r1 s2 i f b j => ?_
 have hz := f
 rw [rowz, Int.toNat_natCast] at hz
 rw [Int.toNat_natCast]
 have g := hx.mv b (tagn (by simp))
 refine copy_blkm u85 in5 hz g hn (by omega) (by omega) (by rw [bvs_len, List.length_replicate]; omega) fun h r1_8 e _ => ?_
 have d := on_ch hz e
 have k := d.size
 refine dInt_i (ask_t (by omega) ?_)
 have h1 := r1_8
 have e1 : (bvs (List.replicate n 0)).take 0 ++ bvs l ++ (bvs (List.replicate n 0)).drop (0 + xn) = bvs (l ++ List.replicate (n - xn) 0) := by
  unfold bvs
  rw [List.take_zero, List.nil_append, Nat.zero_add, ← List.map_drop, List.drop_replicate, ← List.map_append]
 rw [e1] at h1
 have h2 := h1.own (n := n) 1 (by rw [bvs_len, List.length_append, List.length_replicate, hn]; omega) (by unfold maxLen; omega)
 simp only [slO_zero, Int.toNat_natCast, Int.toNat_zero, Nat.sub_zero]
 exact ret_t' (s' := remark h (M + 1) τ) rfl ⟨_, _, rfl, remark_ch (((Ch.refl [] s).ch b (by simp)).fr d hM (by simp)) hM (by omega), h2.remark⟩
theorem eqi_cons {P : Program} {d : Nat} {e : TypeId} {n : Nat} {xs ys : Array Value} {i : Nat} {is : List Nat} {a b : Value} {r q : Bool} {w : World} (ha : (part e xs (i * n)).run P w = .ok a w) (hb : (part e ys (i * n)).run P w = .ok b w) (he : (Op.equalIn d e a b).run P w = .ok r w) (hr : (Op.eqItems d e n xs ys is).run P w = .ok q w) : (Op.eqItems d e n xs ys (i :: is)).run P w = .ok (r && q) w := by
 rw [Op.eqItems]
 simp only [Sem.run_bind, ha, hb, he, Result.andThen_ok]
 cases r
 ·simp
 ·simpa using hr
theorem eq_int1 {w : World} {a b : Int} (n : Nat) : (Op.equalIn (n + 1) 3 (.int .i64 a) (.int .i64 b)).run Tryz.prog w = .ok (a == b) w := by simp [Op.equalIn, Tryz.runUnderlying3]
theorem pa4_0 {w : World} {a b c d : Int} : (part 3 #[.int .i64 a, .int .i64 b, .int .i64 c, .int .i64 d] (0 * 1)).run Tryz.prog w = .ok (.int .i64 a) w := by kernel_rfl
theorem pa4_1 {w : World} {a b c d : Int} : (part 3 #[.int .i64 a, .int .i64 b, .int .i64 c, .int .i64 d] (1 * 1)).run Tryz.prog w = .ok (.int .i64 b) w := by kernel_rfl
theorem pa4_2 {w : World} {a b c d : Int} : (part 3 #[.int .i64 a, .int .i64 b, .int .i64 c, .int .i64 d] (2 * 1)).run Tryz.prog w = .ok (.int .i64 c) w := by kernel_rfl
theorem pa4_3 {w : World} {a b c d : Int} : (part 3 #[.int .i64 a, .int .i64 b, .int .i64 c, .int .i64 d] (3 * 1)).run Tryz.prog w = .ok (.int .i64 d) w := by kernel_rfl
theorem eqi_nil {P : Program} {d : Nat} {e : TypeId} {n : Nat} {xs ys : Array Value} {w : World} : (Op.eqItems d e n xs ys []).run P w = .ok true w := by simp [Op.eqItems]
theorem eq_it4 {w : World} {a3 a4 a5 a6 b3 b4 b5 b6 : Int} (n : Nat) : (Op.eqItems (n + 1) 3 1 #[.int .i64 a3, .int .i64 a4, .int .i64 a5, .int .i64 a6] #[.int .i64 b3, .int .i64 b4, .int .i64 b5, .int .i64 b6] [0, 1, 2, 3]).run Tryz.prog w = .ok (a3 == b3 && (a4 == b4 && (a5 == b5 && (a6 == b6 && true)))) w :=
 eqi_cons pa4_0 pa4_0 (eq_int1 n) (eqi_cons pa4_1 pa4_1 (eq_int1 n) (eqi_cons pa4_2 pa4_2 (eq_int1 n) (eqi_cons pa4_3 pa4_3 (eq_int1 n) eqi_nil)))
theorem cells3 : Tryz.prog.cellsOf 3 = 1 := by kernel_rfl
theorem und_ar : Tryz.prog.underlying 24 = some (.array 4 3) := by kernel_rfl
theorem eq_arr4 {w : World} {a3 a4 a5 a6 b3 b4 b5 b6 : Int} (n : Nat) : (Op.equalIn (n + 2) 24 (.agg #[.int .i64 a3, .int .i64 a4, .int .i64 a5, .int .i64 a6]) (.agg #[.int .i64 b3, .int .i64 b4, .int .i64 b5, .int .i64 b6])).run Tryz.prog w = .ok (a3 == b3 && (a4 == b4 && (a5 == b5 && a6 == b6))) w := by
 obtain ⟨i, hi⟩ : ∃ i, Tryz.prog.info? 3 = some i := Option.isSome_iff_exists.1 (by kernel_rfl)
 have h := eq_it4 (w := w) (a3 := a3) (a4 := a4) (a5 := a5) (a6 := a6) (b3 := b3) (b4 := b4) (b5 := b5) (b6 := b6) n
 rw [Bool.and_true] at h
 refine (run_equalIn_array (P := Tryz.prog) w (n + 1) _ _ und_ar hi).trans ?_
 rw [cells3]
 exact h
set_option maxRecDepth 100000 in
theorem eqD_run {w : World} {a0 a1 a2 a3 a4 a5 a6 a7 a8 b0 b1 b2 b3 b4 b5 b6 b7 b8 : Int} : (Op.equalIn Op.maxDepth 26 (.agg #[.int .i64 a0, .int .i64 a1, .int .i64 a2, .int .i64 a3, .int .i64 a4, .int .i64 a5, .int .i64 a6, .int .i64 a7, .int .i64 a8]) (.agg #[.int .i64 b0, .int .i64 b1, .int .i64 b2, .int .i64 b3, .int .i64 b4, .int .i64 b5, .int .i64 b6, .int .i64 b7, .int .i64 b8])).run Tryz.prog w = .ok (a0 == b0 && (a1 == b1 && (a2 == b2 && ((a3 == b3 && (a4 == b4 && (a5 == b5 && a6 == b6))) && (a7 == b7 && a8 == b8))))) w := by
 have hs : Tryz.prog.stoodInHeld 26 = false := by kernel_rfl
 have hu : Tryz.prog.underlying 26 = some (.struct (Tryz.prog.fieldsOf 26)) := by kernel_rfl
 have hF : (Tryz.prog.fieldsOf 26).toList.map (fun f => (f.name, f.type, f.offset)) = [("Mode", 3, 0), ("Links", 3, 1), ("Size", 3, 2), ("Direct", 24, 3), ("Single", 3, 7), ("Double", 3, 8)] := by kernel_rfl
 show (Op.equalIn (9999 + 1) 26 _ _).run _ w = _
 rw [run_equalIn_struct (P := Tryz.prog) w 9999 26 _ _ hu hs]
 obtain ⟨fl, hfl⟩ : ∃ l, (Tryz.prog.fieldsOf 26).toList = l := ⟨_, rfl⟩
 rw [hfl] at hF ⊢
 match fl, hF with
 | [f0, f1, f2, f3, f4, f5], hF =>
  simp only [List.map_cons, List.map_nil, List.cons.injEq, Prod.mk.injEq, and_true] at hF
  obtain ⟨⟨n0, t0, o0⟩, ⟨n1, t1, o1⟩, ⟨n2, t2, o2⟩, ⟨n3, t3, o3⟩, ⟨n4, t4, o4⟩, ⟨n5, t5, o5⟩⟩ := hF
  refine eqf_cons (a := .int .i64 a0) (b := .int .i64 b0) (by rw [n0]; rfl) (by rw [t0, o0]; kernel_rfl) (by rw [t0, o0]; kernel_rfl) (by rw [t0]; exact eq_int1 _) (eqf_cons (a := .int .i64 a1) (b := .int .i64 b1) (by rw [n1]; rfl) (by rw [t1, o1]; kernel_rfl) (by rw [t1, o1]; kernel_rfl) (by rw [t1]; exact eq_int1 _) (eqf_cons (a := .int .i64 a2) (b := .int .i64 b2) (by rw [n2]; rfl) (by rw [t2, o2]; kernel_rfl) (by rw [t2, o2]; kernel_rfl) (by rw [t2]; exact eq_int1 _) (eqf_cons (a := .agg #[.int .i64 a3, .int .i64 a4, .int .i64 a5, .int .i64 a6]) (b := .agg #[.int .i64 b3, .int .i64 b4, .int .i64 b5, .int .i64 b6]) (by rw [n3]; rfl) (by rw [t3, o3]; kernel_rfl) (by rw [t3, o3]; kernel_rfl) (by rw [t3]; exact eq_arr4 _) (eqf_cons (a := .int .i64 a7) (b := .int .i64 b7) (by rw [n4]; rfl) (by rw [t4, o4]; kernel_rfl) (by rw [t4, o4]; kernel_rfl) (by rw [t4]; exact eq_int1 _) (eqf_last (a := .int .i64 a8) (b := .int .i64 b8) (by rw [n5]; rfl) (by rw [t5, o5]; kernel_rfl) (by rw [t5, o5]; kernel_rfl) (by rw [t5]; exact eq_int1 _))))))
theorem eq_din {E : List PanicEntry → Heap → Prop} {s : TH} {a0 a1 a2 a3 a4 a5 a6 a7 a8 b0 b1 b2 b3 b4 b5 b6 b7 b8 : Int} {x y : Operand} {K : Value → Heap → Prop} (hk : K (.bool (a0 == b0 && (a1 == b1 && (a2 == b2 && ((a3 == b3 && (a4 == b4 && (a5 == b5 && a6 == b6))) && (a7 == b7 && a8 == b8)))))) s.h) : semW Tryz.prog (eqSem .eql 26 x y (.agg #[.int .i64 a0, .int .i64 a1, .int .i64 a2, .int .i64 a3, .int .i64 a4, .int .i64 a5, .int .i64 a6, .int .i64 a7, .int .i64 a8]) (.agg #[.int .i64 b0, .int .i64 b1, .int .i64 b2, .int .i64 b3, .int .i64 b4, .int .i64 b5, .int .i64 b6, .int .i64 b7, .int .i64 b8])) E s.h K := .mk fun w hw => by
 have hgt : Tryz.prog.eqGuardType Tryz.prog.depth 26 = false := by kernel_rfl
 have hr : (eqSem .eql 26 x y (.agg #[.int .i64 a0, .int .i64 a1, .int .i64 a2, .int .i64 a3, .int .i64 a4, .int .i64 a5, .int .i64 a6, .int .i64 a7, .int .i64 a8]) (.agg #[.int .i64 b0, .int .i64 b1, .int .i64 b2, .int .i64 b3, .int .i64 b4, .int .i64 b5, .int .i64 b6, .int .i64 b7, .int .i64 b8])).run Tryz.prog w = .ok (.bool (a0 == b0 && (a1 == b1 && (a2 == b2 && ((a3 == b3 && (a4 == b4 && (a5 == b5 && a6 == b6))) && (a7 == b7 && a8 == b8)))))) w := by
  simp [eqSem, eqGuard, hgt, binOp, Op.equal, eqD_run]
 rw [hr]; exact ⟨by rw [hw]; exact hk, Like.refl w⟩
def dinF (m l z d0 d1 d2 d3 e1 e2 : Nat) (k : Nat) : List FldM := [⟨1, 2, m⟩, ⟨1, 0, 0⟩, ⟨2, 1000, l⟩, ⟨4, 532992, z⟩] ++ ([⟨2, 2047, d0⟩, ⟨2, 2047, d1⟩, ⟨2, 2047, d2⟩, ⟨2, 2047, d3⟩] : List FldM).take k
def dinG (m l z d0 d1 d2 d3 e1 e2 : Nat) : List FldM := [⟨1, 2, m⟩, ⟨1, 0, 0⟩, ⟨2, 1000, l⟩, ⟨4, 532992, z⟩, ⟨2, 2047, d0⟩, ⟨2, 2047, d1⟩, ⟨2, 2047, d2⟩, ⟨2, 2047, d3⟩, ⟨2, 2047, e1⟩, ⟨2, 2047, e2⟩]
def DinB (m l z d0 d1 d2 d3 e1 e2 : Nat) : Prop := m ≤ 2 ∧ l ≤ 1000 ∧ z ≤ 532992 ∧ d0 < 2048 ∧ d1 < 2048 ∧ d2 < 2048 ∧ d3 < 2048 ∧ e1 < 2048 ∧ e2 < 2048
theorem DinOk.b {m l z d0 d1 d2 d3 e1 e2 : Nat} (hv : DinOk m l z d0 d1 d2 d3 e1 e2) : DinB m l z d0 d1 d2 d3 e1 e2 := by unfold DinOk at hv; unfold DinB; omega
theorem dinG_ok {m l z d0 d1 d2 d3 e1 e2 : Nat} (hv : DinB m l z d0 d1 d2 d3 e1 e2) : ∀ f ∈ dinG m l z d0 d1 d2 d3 e1 e2, f.n ≤ f.m ∧ f.w ≤ 4 ∧ f.n < 4294967296 := by
 intro f hf
 unfold DinB at hv
 simp only [dinG, List.mem_cons, List.not_mem_nil, or_false] at hf
 rcases hf with rfl | rfl | rfl | rfl | rfl | rfl | rfl | rfl | rfl | rfl <;> simp only [] <;> omega
def dinR (m l z d0 d1 d2 d3 e1 e2 : Nat) : List UInt8 := wrL (wrL (dirL (wrL (wrL (wrL (List.replicate 32 0) 0 1 m) 2 2 l) 4 4 z) [d0, d1, d2, d3] 4) 16 2 e1) 18 2 e2
set_option maxRecDepth 100000 in
theorem din_eq (m l z d0 d1 d2 d3 e1 e2 : Nat) : [] ++ fldsL (dinG m l z d0 d1 d2 d3 e1 e2) ++ List.replicate (32 - 20) 0 = dinR m l z d0 d1 d2 d3 e1 e2 := by kernel_rfl
theorem dinR_len (m l z d0 d1 d2 d3 e1 e2 : Nat) : (dinR m l z d0 d1 d2 d3 e1 e2).length = 32 := by unfold dinR; simp [wrL_len, dirL_len]
theorem din_flds (m l z d0 d1 d2 d3 e1 e2 : Nat) : (fldsL (dinG m l z d0 d1 d2 d3 e1 e2)).length = 20 := rfl
theorem dinF_s (m l z d0 d1 d2 d3 e1 e2 : Nat) {k dk : Nat} (hk : k < 4) (h : [d0, d1, d2, d3].getD k 0 = dk) : (dinF m l z d0 d1 d2 d3 e1 e2 (k + 1)).flatMap fc = (dinF m l z d0 d1 d2 d3 e1 e2 k).flatMap fc ++ fc ⟨2, 2047, dk⟩ := by
 subst h
 rcases (by omega : k = 0 ∨ k = 1 ∨ k = 2 ∨ k = 3) with rfl | rfl | rfl | rfl <;> rfl
set_option maxRecDepth 100000 in
theorem dinR_zero : dinR 0 0 0 0 0 0 0 0 0 = List.replicate 32 0 := by decide
theorem in147 : (Tryz.prog.info? 147).map (fun i => (i.zero, i.size, i.bytes)) = some (some (.agg #[.int .i64 0, .int .i64 0, .int .i64 0]), 3, 24) := by kernel_rfl
theorem c_lmayd (m l z d0 d1 d2 d3 e1 e2 : Nat) (s : TH) (hv : DinOk m l z d0 d1 d2 d3 e1 e2) : TRet Tryz.prog 70 #[.agg #[.int .i64 (m : Int), .int .i64 (l : Int), .int .i64 (z : Int), .int .i64 (d0 : Int), .int .i64 (d1 : Int), .int .i64 (d2 : Int), .int .i64 (d3 : Int), .int .i64 (e1 : Int), .int .i64 (e2 : Int)]] s fun v s' => v = .bool true ∧ Ch [] s s' := by
 have hv2 := hv
 unfold DinOk at hv2
 obtain ⟨M, hM, hM0, hMa, hMb, hMc, hMd, hMe, hMf⟩ := fresh6 s 0 0 0 0 0 0
 refine F70_calls _ _ _ _ _ _ _ _ _  ?_
 unfold F70
 refine al_t (M + 1) fun r1 s2 f a b g => ?_
 refine ld_t a rfl (dInt_i ?_)
 refine sB_d (fun c => by exfalso; omega) (fun c => ?_)
 refine sB_d (fun d => ?_) (fun d => ?_)
 ·
  refine ret_t ?_
  exact ⟨rfl, ((Ch.refl [] s).ch b (by simp))⟩
 ·
  refine sB_d (fun e => ?_) (fun e => by exfalso; omega)
  refine ld_t a rfl (dInt_i (ask_t (by omega) ?_))
  refine nm_a fun nz hnz => ?_
  rw [Int.tmod_eq_emod_of_nonneg (by omega)] at hnz
  refine ret_t ?_
  exact ⟨ret_b (by first | rfl | (apply beq_iff_eq.2; omega) | (simp; omega)), ((Ch.refl [] s).ch b (by simp))⟩
theorem c_lmayd0 (s : TH) : TRet Tryz.prog 70 #[.agg #[.int .i64 0, .int .i64 0, .int .i64 0, .int .i64 0, .int .i64 0, .int .i64 0, .int .i64 0, .int .i64 0, .int .i64 0]] s fun v s' => v = .bool true ∧ Ch [] s s' := by
 obtain ⟨M, hM, hM0, hMa, hMb, hMc, hMd, hMe, hMf⟩ := fresh6 s 0 0 0 0 0 0
 refine F70_calls _ _ _ _ _ _ _ _ _  ?_
 unfold F70
 refine al_t (M + 1) fun r1 s2 c a b d => ?_
 refine ld_t a rfl (dInt_i (sB_t (by rfl) (ld_t a rfl (ld_t a rfl (ld_t a rfl (ld_t a rfl (ld_t a rfl ?_)))))))
 refine ld_t a rfl (ld_t a rfl (ld_t a rfl (ld_t a rfl ?_)))
 refine eq_din ?_
 refine dBl_i ?_
 refine ret_t ?_
 exact ⟨rfl, ((Ch.refl [] s).ch b (by simp))⟩
theorem c_lencDin (τ : Nat) (m l z d0 d1 d2 d3 e1 e2 : Nat) (s : TH) (hv : DinOk m l z d0 d1 d2 d3 e1 e2) : TRet Tryz.prog 25 #[.agg #[.int .i64 (m : Int), .int .i64 (l : Int), .int .i64 (z : Int), .int .i64 (d0 : Int), .int .i64 (d1 : Int), .int .i64 (d2 : Int), .int .i64 (d3 : Int), .int .i64 (e1 : Int), .int .i64 (e2 : Int)]] s fun v s' => ∃ a' c', v = .tuple #[.slice a' 32 c', .int .i64 0] ∧ Ch [] s s' ∧ Own s' a' 32 c' 5 1 (bvs (dinL m l z d0 d1 d2 d3 e1 e2)) τ := by
 have hvb := hv.b
 have hv2 := hv
 unfold DinOk at hv2
 obtain ⟨M, hM, hM0, hMa, hMb, hMc, hMd, hMe, hMf⟩ := fresh6 s τ 0 0 0 0 0
 refine F25_calls _ _ _ _ _ _ _ _ _  ?_
 unfold F25
 refine al_t (M + 1) fun r1 s2 aH x aa aI => ?_
 refine ld_t x rfl (dInt_i (ld_t x rfl (dInt_i (ld_t x rfl (dInt_i ?_)))))
 refine al_t (M + 2) fun r9 y aJ ab N aK => ?_
 have hf0 : Own y (some ⟨r9, 0, none⟩) 4 4 147 3 ((dinF m l z d0 d1 d2 d3 e1 e2 0).flatMap fc) (M + 2) := (ab).own (n := 4) 3 rfl (by unfold maxLen; omega)
 have p := x.ch N (by simp)
 refine ld_t p rfl (ld_t p rfl (ld_t p rfl (ld_t p rfl ?_)))
 refine ⟨fun vs H' => ∃ s' : TH, s'.h = H' ∧ ∃ pa pn pc i, vs = [.slice pa pn pc, .int .i64 i] ∧ Ch [M + 2] y s' ∧ (∃ k : Nat, i = k ∧ k ≤ 4 ∧ pn = 4 + k ∧ Own s' pa pn pc 147 3 ((dinF m l z d0 d1 d2 d3 e1 e2 k).flatMap fc) (M + 2)), fun vs H' => match vs with | [.slice pa pn pc, .int .i64 i] => (4 - i).toNat | _ => 0, ⟨y, rfl, _, _, _, _, rfl, Ch.refl _ _, ?_⟩, ?_⟩
 ·
  exact ⟨0, rfl, by omega, rfl, hf0⟩
 ·
  intro pa pn pc i _ _ _ _ _ _ _ _ _ H_ hI_9
  obtain ⟨aL, rfl, pa_, pn_, pc_, i_, hvs, d, k, rfl, hk, rfl, ho⟩ := hI_9
  cases hvs
  have ai := d.size
  refine sB_d (fun O => ?_) (fun O => ?_)
  ·
   refine ask_t (by omega) ?_
   refine oV_i (v := .int .i64 (([d0, d1, d2, d3].getD k 0 : Nat) : Int)) (by rcases (by omega : k = 0 ∨ k = 1 ∨ k = 2 ∨ k = 3) with rfl | rfl | rfl | rfl <;> rfl) ?_
   refine dInt_i ?_
   refine al_t (M + 9) fun aM aN aj P A ak => ?_
   have B := ho.mv A (tagn (by simp))
   refine app_i u148 in147 rfl B (P).sl (m := 1) (k := 3) rfl (by intro u hu; simp only [List.mem_cons, List.not_mem_nil, or_false] at hu; rcases hu with rfl | rfl | rfl <;> rfl) (by simp) (by unfold maxLen; omega) fun Q pa2 pc2 R K _ => ?_
   have C := K.ch B (T := [M + 2]) (by simp)
   have al := C.size
   refine dSl_i (wr_t (by omega) ?_)
   have S := ((d.app A).app C)
   refine ⟨⟨Q, rfl, _, _, _, _, rfl, ((Ch.refl [M + 2] y).ch S (by simp)), ?_⟩, ?_⟩
   ·
    exact ⟨k + 1, by omega, by omega, by omega, by rw [dinF_s _ _ _ _ _ _ _ _ _ (by omega) rfl]; exact R⟩
   ·
    simp only []; omega
  ·
   have e := p.ch d (by simp)
   refine ld_t e rfl (dInt_i (ld_t e rfl (dInt_i ?_)))
   refine al_t (M + 9) fun aO aP am U g an => ?_
   have D := ho.mv g (tagn (by simp))
   refine app_i u148 in147 rfl D (U).sl (m := 2) (k := 3) rfl (by intro u hu; simp only [List.mem_cons, List.not_mem_nil, or_false] at hu; rcases hu with rfl | rfl | rfl | rfl | rfl | rfl <;> rfl) (by simp) (by unfold maxLen; omega) fun q pa2 pc2 V L _ => ?_
   have j := L.ch D (T := [M + 2]) (by simp)
   have ao := j.size
   obtain rfl : k = 4 := by omega
   have hG : Own q pa2 (4 + 4 + 2) pc2 147 3 ((dinG m l z d0 d1 d2 d3 e1 e2).flatMap fc) (M + 2) := V
   refine dSl_i ?_
   refine jn1 (fun fv s' => Ch [] q s' ∧ (fv = .bool false)) ?_ ?_
   ·
    rintro fv W ⟨o, rfl⟩
    have ap := o.size
    intro _
    intros
    refine dBl_i (sB_f (by rfl) ?_)
    have hap : AppB W none 0 0 [] (M + 3) (M + 4) := ⟨.inl (Own.nil _ _ _ _)⟩
    have E := hG.mv o (tagn (by simp))
    refine tcall (c_lfields _ _ hap (E).sl rfl (fun h => absurd ((E).none_iff h) (by omega)) (by omega) (by omega) (by omega) (fun f hf => (dinG_ok hvb f hf).2) (by rw [din_flds]; omega)) ?_
    rintro aq ar ⟨ac, ad, rfl, r, F⟩
    have au := r.size
    rw [din_flds]
    obtain ⟨σ, hsl, hsn⟩ := AppB.sl F
    refine dSl_i ?_
    refine tcall (c_lfull (M + 10) _ hsl (by rw [hsn, din_flds]) 32 (by omega)) ?_
    rintro av aw ⟨ae, af, rfl, t, c⟩
    have ax := t.size
    rw [din_eq] at c
    refine dSl_i ?_
    have X := ((((g.app j).app o).app r).app t)
    have Y := e.ch X (by simp)
    refine ld_t Y rfl (dInt_i ?_)
    refine sB_d (fun Z => by exfalso; omega) (fun Z => ?_)
    refine tcall (c_wseal τ _ (c).sl (dinR_len m l z d0 d1 d2 d3 e1 e2) (by omega) (c).le (by omega)) ?_
    rintro ay az ⟨ag, ah, rfl, G, H⟩
    have aA := G.size
    refine dT2 (dSl_i (dInt_i ?_))
    refine ret_t ?_
    exact ⟨_, _, rfl, ((((((((((Ch.refl [] s).ch aa (by simp)).ch N (by simp)).fr d hM (by simp)).ch g (by simp)).fr j hM (by simp)).ch o (by simp)).fr r hM (by simp)).ch t (by simp)).ch G (by simp)), H⟩
   ·
    intro K_51 hK_51
    have a := e.ch (g.app j) (by simp)
    refine ld_t a rfl (ld_t a rfl (ld_t a rfl (ld_t a rfl (ld_t a rfl (ld_t a rfl (ld_t a rfl (ld_t a rfl ?_)))))))
    refine ld_t a rfl ?_
    refine tcall (c_lmayd m l z d0 d1 d2 d3 e1 e2 _ hv) ?_
    rintro aB aC ⟨rfl, w⟩
    have aD := w.size
    refine dBl_i (sB_f (by rfl) ?_)
    have I := hG.mv w (tagn (by simp))
    refine tcall (c_lfit _ _ (I).sl rfl (fun h => absurd ((I).none_iff h) (by omega)) (by omega) (fun f hf => (dinG_ok hvb f hf).1)) ?_
    rintro aE aF ⟨rfl, J⟩
    have aG := J.size
    refine dBl_i ?_
    refine hK_51 _ _ ⟨(((Ch.refl [] q).ch w (by simp)).ch J (by simp)), ?_⟩
    exact rfl
theorem c_lencDin0 (τ : Nat) (s : TH) : TRet Tryz.prog 25 #[.agg #[.int .i64 0, .int .i64 0, .int .i64 0, .int .i64 0, .int .i64 0, .int .i64 0, .int .i64 0, .int .i64 0, .int .i64 0]] s fun v s' => ∃ a' c', v = .tuple #[.slice a' 32 c', .int .i64 0] ∧ Ch [] s s' ∧ Own s' a' 32 c' 5 1 (bvs (List.replicate 32 0)) τ := by
 have hvb : DinB 0 0 0 0 0 0 0 0 0 := by unfold DinB; omega
 obtain ⟨M, hM, hM0, hMa, hMb, hMc, hMd, hMe, hMf⟩ := fresh6 s τ 0 0 0 0 0
 refine F25_calls _ _ _ _ _ _ _ _ _  ?_
 unfold F25
 refine al_t (M + 1) fun r1 s2 aw t U ax => ?_
 refine ld_t t rfl (dInt_i (ld_t t rfl (dInt_i (ld_t t rfl (dInt_i ?_)))))
 refine al_t (M + 2) fun r9 w ay V H az => ?_
 have hf0 : Own w (some ⟨r9, 0, none⟩) 4 4 147 3 ((dinF 0 0 0 0 0 0 0 0 0 0).flatMap fc) (M + 2) := (V).own (n := 4) 3 rfl (by unfold maxLen; omega)
 have j := t.ch H (by simp)
 refine ld_t j rfl (ld_t j rfl (ld_t j rfl (ld_t j rfl ?_)))
 refine ⟨fun vs H' => ∃ s' : TH, s'.h = H' ∧ ∃ pa pn pc i, vs = [.slice pa pn pc, .int .i64 i] ∧ Ch [M + 2] w s' ∧ (∃ k : Nat, i = k ∧ k ≤ 4 ∧ pn = 4 + k ∧ Own s' pa pn pc 147 3 ((dinF 0 0 0 0 0 0 0 0 0 k).flatMap fc) (M + 2)), fun vs H' => match vs with | [.slice pa pn pc, .int .i64 i] => (4 - i).toNat | _ => 0, ⟨w, rfl, _, _, _, _, rfl, Ch.refl _ _, ?_⟩, ?_⟩
 ·
  exact ⟨0, rfl, by omega, rfl, hf0⟩
 ·
  intro pa pn pc i _ _ _ _ _ _ _ _ _ H_ hI_9
  obtain ⟨aA, rfl, pa_, pn_, pc_, i_, hvs, b, k, rfl, hk, rfl, ho⟩ := hI_9
  cases hvs
  have aa := b.size
  refine sB_d (fun I => ?_) (fun I => ?_)
  ·
   refine ask_t (by omega) ?_
   refine oV_i (v := .int .i64 0) (by rcases (by omega : k = 0 ∨ k = 1 ∨ k = 2 ∨ k = 3) with rfl | rfl | rfl | rfl <;> rfl) ?_
   refine dInt_i ?_
   refine al_t (M + 9) fun aB aC ab J x ac => ?_
   have y := ho.mv x (tagn (by simp))
   refine app_i u148 in147 rfl y (J).sl (m := 1) (k := 3) rfl (by intro u hu; simp only [List.mem_cons, List.not_mem_nil, or_false] at hu; rcases hu with rfl | rfl | rfl <;> rfl) (by simp) (by unfold maxLen; omega) fun K pa2 pc2 L F _ => ?_
   have z := F.ch y (T := [M + 2]) (by simp)
   have ad := z.size
   refine dSl_i (wr_t (by omega) ?_)
   have N := ((b.app x).app z)
   refine ⟨⟨K, rfl, _, _, _, _, rfl, ((Ch.refl [M + 2] w).ch N (by simp)), ?_⟩, ?_⟩
   ·
    exact ⟨k + 1, by omega, by omega, by omega, by rw [dinF_s _ _ _ _ _ _ _ _ _ (dk := 0) (by omega) (by rcases (by omega : k = 0 ∨ k = 1 ∨ k = 2 ∨ k = 3) with rfl | rfl | rfl | rfl <;> rfl)]; exact L⟩
   ·
    simp only []; omega
  ·
   have c := j.ch b (by simp)
   refine ld_t c rfl (dInt_i (ld_t c rfl (dInt_i ?_)))
   refine al_t (M + 9) fun aD aE ae O d af => ?_
   have A := ho.mv d (tagn (by simp))
   refine app_i u148 in147 rfl A (O).sl (m := 2) (k := 3) rfl (by intro u hu; simp only [List.mem_cons, List.not_mem_nil, or_false] at hu; rcases hu with rfl | rfl | rfl | rfl | rfl | rfl <;> rfl) (by simp) (by unfold maxLen; omega) fun o pa2 pc2 P G _ => ?_
   have e := G.ch A (T := [M + 2]) (by simp)
   have ag := e.size
   obtain rfl : k = 4 := by omega
   have hG : Own o pa2 (4 + 4 + 2) pc2 147 3 ((dinG 0 0 0 0 0 0 0 0 0).flatMap fc) (M + 2) := P
   refine dSl_i ?_
   refine jn1 (fun fv s' => Ch [] o s' ∧ (fv = .bool false)) ?_ ?_
   ·
    rintro fv Q ⟨g, rfl⟩
    have ah := g.size
    intro _
    intros
    refine dBl_i (sB_f (by rfl) ?_)
    have hap : AppB Q none 0 0 [] (M + 3) (M + 4) := ⟨.inl (Own.nil _ _ _ _)⟩
    have B := hG.mv g (tagn (by simp))
    refine tcall (c_lfields _ _ hap (B).sl rfl (fun h => absurd ((B).none_iff h) (by omega)) (by omega) (by omega) (by omega) (fun f hf => (dinG_ok hvb f hf).2) (by rw [din_flds]; omega)) ?_
    rintro ai aj ⟨W, X, rfl, p, C⟩
    have ak := p.size
    rw [din_flds]
    obtain ⟨σ, hsl, hsn⟩ := AppB.sl C
    refine dSl_i ?_
    refine tcall (c_lfull τ _ hsl (by rw [hsn, din_flds]) 32 (by omega)) ?_
    rintro al am ⟨Y, Z, rfl, q, l⟩
    have an := q.size
    rw [din_eq] at l
    refine dSl_i ?_
    have R := ((((d.app e).app g).app p).app q)
    have S := c.ch R (by simp)
    refine ld_t S rfl (dInt_i (sB_t (by rfl) ?_))
    refine ret_t ?_
    exact ⟨_, _, rfl, (((((((((Ch.refl [] s).ch U (by simp)).ch H (by simp)).fr b hM (by simp)).ch d (by simp)).fr e hM (by simp)).ch g (by simp)).fr p hM (by simp)).ch q (by simp)), by have h := l; rw [dinR_zero] at h; exact h⟩
   ·
    intro K_46 hK_46
    have a := c.ch (d.app e) (by simp)
    refine ld_t a rfl (ld_t a rfl (ld_t a rfl (ld_t a rfl (ld_t a rfl (ld_t a rfl (ld_t a rfl (ld_t a rfl ?_)))))))
    refine ld_t a rfl ?_
    refine tcall (c_lmayd0 _) ?_
    rintro ao ap ⟨rfl, r⟩
    have aq := r.size
    refine dBl_i (sB_f (by rfl) ?_)
    have D := hG.mv r (tagn (by simp))
    refine tcall (c_lfit _ _ (D).sl rfl (fun h => absurd ((D).none_iff h) (by omega)) (by omega) (fun f hf => (dinG_ok hvb f hf).1)) ?_
    rintro ar au ⟨rfl, E⟩
    have av := E.size
    refine dBl_i ?_
    refine hK_46 _ _ ⟨(((Ch.refl [] o).ch r (by simp)).ch E (by simp)), ?_⟩
    exact rfl
theorem dA9 {x0 x1 x2 x3 x4 x5 x6 x7 x8 : Value} {k : VF 9} (h : (k : Value → Value → Value → Value → Value → Value → Value → Value → Value → Prop) x0 x1 x2 x3 x4 x5 x6 x7 x8) : dA 9 (.agg #[x0, x1, x2, x3, x4, x5, x6, x7, x8]) k := h
theorem rec_idle (p : Addr) (w : World) : CallsD Tryz.prog 172 #[.pointer (some p)] .returning w fun e u' w' => e = .returned (.tuple #[]) ∧ u' = .returning ∧ w' = w := by
 have hta : ∀ w : World, (Instr.typeAssert .nilIface 20 32 true).run Tryz.prog w = .ok (.tuple #[.int .i64 0, .bool false]) w := fun w => by kernel_rfl
 have hne : ∀ w : World, (binOp .neq 20 .nilIface .nilIface).run Tryz.prog w = .ok (.bool false) w := fun w => by kernel_rfl
 refine callsD_of_wpS Tryz.func172 rfl fun c₀ cs hu => ?_
 apply wpS_seq
 apply wpS_region
 simp [wpOpsS, go_sem, recoverD, hu, Tryz.ntmps172, Exit.thenS]
 apply wpS_seq
 apply wpS_region
 simp [wpOpsS, go_sem, hta, Exit.thenS]
 refine wpS_of_wp (wp_block (wp_seq ?_))
 refine wp_region_list ?_
 simp [wpList, go_sem, Exit.then]
 repeat (refine Or.inl ?_)
 refine (wp_cond_false (P := Tryz.prog) (c := .tmp 10) ?_ ?_)
 ·simp [Act.eval, Array.replicate]
 refine wp_seq ?_
 refine wp_region_list ?_
 simp [wpList, go_sem, hne, Exit.then]
 repeat (refine Or.inl ?_)
 refine wp_cond_false (P := Tryz.prog) (c := .tmp 16) ?_ ?_
 ·simp [Act.eval, Array.replicate]
 refine wp_skip ?_
 cases c₀
 simp_all [bodyPostS, results, Tryz.results172, Exit.inBlock]
theorem d_idle {p : Addr} {H : Heap} {K : Ending → FrameMode → Heap → Prop} (hk : K (.returned (.tuple #[])) .returning H) : HCallsD Tryz.prog 172 #[.pointer (some p)] .returning H K := fun w hw =>
 Go.CallsD.mono (rec_idle p w) fun e u' w' ⟨h1, h2, h3⟩ => by subst h1 h2 h3; exact ⟨by rw [hw]; exact hk, Like.refl _⟩
theorem sl_cutT {s : TH} {xa : Option Addr} {l : List UInt8} {τ : Nat} (h : Sl s xa (bvs l) τ) (p c k : Nat) (hp : p < l.length) (hpc : c ≠ p) : Sl s (slO xa 1 (p : Int) (c : Int)) (bvs ((l.drop p).take k)) τ := by
 obtain ⟨g, o, e, h2⟩ := sl_cutB h p c hp hpc
 rw [e]; exact h2.takeB k
def getN (l : List UInt8) (p : Nat) : Nat → Nat
 | 0 => 0
 | k + 1 => getN l p k + (l.getD (p + k) 0).toNat * 256 ^ k
theorem getN_lt (l : List UInt8) (p : Nat) : ∀ k, getN l p k < 256 ^ k
 | 0 => by simp [getN]
 | k + 1 => by
  have h1 := getN_lt l p k
  have h2 := (l.getD (p + k) 0).toNat_lt
  have h3 : (l.getD (p + k) 0).toNat * 256 ^ k ≤ 255 * 256 ^ k := Nat.mul_le_mul_right _ (by omega)
  rw [getN, Nat.pow_succ]; omega
theorem getN_cut (l : List UInt8) (p w : Nat) : ∀ k, k ≤ w → getN ((l.drop p).take w) 0 k = getN l p k
 | 0, _ => rfl
 | k + 1, h => by
  rw [getN, getN, getN_cut l p w k (by omega)]
  congr 2
  rw [Nat.zero_add, List.getD_eq_getElem?_getD, List.getD_eq_getElem?_getD, List.getElem?_take, if_pos (by omega), List.getElem?_drop]
theorem shlN {b k : Nat} (hb : b < 256) (hk : k ≤ 3) : IntKind.i64.wrap ((b : Int) * 2 ^ min (Int.toNat (8 * (k : Int))) 64) = ((b * 256 ^ k : Nat) : Int) := by
 rcases (by omega : k = 0 ∨ k = 1 ∨ k = 2 ∨ k = 3) with rfl | rfl | rfl | rfl
 ·rw [show ((2 : Int) ^ min (Int.toNat (8 * ((0 : Nat) : Int))) 64) = 1 from by decide, show (256 : Nat) ^ 0 = 1 from rfl]; rw [wrap_id (by omega) (by omega)]; omega
 ·rw [show ((2 : Int) ^ min (Int.toNat (8 * ((1 : Nat) : Int))) 64) = 256 from by decide, show (256 : Nat) ^ 1 = 256 from rfl]; rw [wrap_id (by omega) (by omega)]; omega
 ·rw [show ((2 : Int) ^ min (Int.toNat (8 * ((2 : Nat) : Int))) 64) = 65536 from by decide, show (256 : Nat) ^ 2 = 65536 from rfl]; rw [wrap_id (by omega) (by omega)]; omega
 ·rw [show ((2 : Int) ^ min (Int.toNat (8 * ((3 : Nat) : Int))) 64) = 16777216 from by decide, show (256 : Nat) ^ 3 = 16777216 from rfl]; rw [wrap_id (by omega) (by omega)]; omega
theorem orN {a b k : Nat} (ha : a < 256 ^ k) (hb : b < 256) (hk : k ≤ 3) : IntKind.i64.wrap ((BitVec.toNat (BitVec.ofInt 64 (a : Int) ||| BitVec.ofInt 64 ((b * 256 ^ k : Nat) : Int)) : Nat) : Int) = ((a + b * 256 ^ k : Nat) : Int) := by
 have h1 : 256 ^ k ≤ 256 ^ 3 := Nat.pow_le_pow_right (by decide) hk
 have h2 : b * 256 ^ k ≤ 255 * 256 ^ 3 := Nat.mul_le_mul (by omega) h1
 have h3 : (256 : Nat) ^ 3 = 16777216 := rfl
 have e : a ||| b * 256 ^ k = a + b * 256 ^ k := by
  have e1 : (256 : Nat) ^ k = 2 ^ (8 * k) := by rw [Nat.pow_mul]
  rw [e1, Nat.or_comm, Nat.mul_comm b, ← Nat.two_pow_add_eq_or_of_lt (by rw [← e1]; exact ha), Nat.add_comm]
 rw [BitVec.ofInt_natCast, BitVec.ofInt_natCast, BitVec.toNat_or, BitVec.toNat_ofNat, BitVec.toNat_ofNat, Nat.mod_eq_of_lt (by omega), Nat.mod_eq_of_lt (by omega), e]
 exact wrap_id (by omega) (by omega)
theorem c_wover (τ : Nat) {xa : Option Addr} {xn : Nat} (xc : Nat) {l : List UInt8} {τx : Nat} {s : TH} (hx : Sl s xa (bvs l) τx) (hn : l.length = xn) (hb : xn ≤ 1000000000) : TRet Tryz.prog 66 #[.slice xa xn xc] s fun v s' => ∃ r a c, v = .pointer (some ⟨r, 0, none⟩) ∧ Ch [] s s' ∧ Blk s' r [.slice a xn c, .int .i64 0, .int .i64 0, .bool true] 209 τ ∧ Sl s' a (bvs l) (τ + 1) ∧ xn ≤ c := by
 obtain ⟨M, hM, hM0, hMa, hMb, hMc, hMd, hMe, hMf⟩ := fresh6 s τx (τ + 1) 0 0 0 0
 refine F66_calls _ _ _  ?_
 unfold F66
 refine app_bv (xs := []) u85 in5 (Own.nil _ _ _ (M + 5)) hx hn (by omega) fun h a1 c1 e b => ?_
 have i := b.size
 simp only [Nat.zero_add]
 refine dSl_i ?_
 refine al_t (M + 1) fun r8 s9 j f d k => ?_
 have g := e.mv d (tagn (by simp))
 obtain ⟨φ, hφ⟩ : ∃ φ : Nat → Nat, φ = fun m => if m = M + 1 then τ else if m = M + 5 then τ + 1 else m := ⟨_, rfl⟩
 have f1 : φ (M + 1) = τ := by subst hφ; exact if_pos rfl
 have f5 : φ (M + 5) = τ + 1 := by subst hφ; simp
 have h1 := (f).rf (φ := φ)
 have ho0 := g
 rw [List.nil_append, Nat.zero_add] at ho0
 have h2 := ho0.rf (φ := φ)
 rw [f1] at h1
 rw [f5] at h2
 exact ret_t' (s' := remarkF s9 φ) rfl ⟨_, _, _, rfl, remarkF_ch (((Ch.refl [] s).fr b hM (by simp)).ch d (by simp)) hM (fun m hm => by subst hφ; simp only; rw [if_neg (by omega), if_neg (by omega)]), h1, h2.sl, h2.le⟩
theorem c_wget {xa : Option Addr} {xn : Nat} (xc : Nat) (p w : Nat) {l : List UInt8} {τx : Nat} {s : TH} (hx : Sl s xa (bvs l) τx) (hn : l.length = xn) (hb : xn ≤ 1000000000) (hw : 1 ≤ w ∧ w ≤ 4) (hp : p + w ≤ xn) : TRet Tryz.prog 127 #[.slice xa xn xc, .int .i64 (p : Int), .int .i64 (w : Int)] s fun v s' => v = .tuple #[.int .i64 (getN l p w : Int), .int .i64 0] ∧ Ch [] s s' := by
 refine F127_calls _ _ _ _ _  ?_
 unfold F127
 refine tcall (c_wthere xc p w _ hw hp hb) ?_
 rintro m c ⟨rfl, d⟩
 have o := d.size
 refine dInt_i (sB_f (by rfl) ?_)
 refine ⟨fun vs H' => ∃ s' : TH, s'.h = H' ∧ ∃ n j, vs = [.int .i64 n, .int .i64 j] ∧ Ch [] c s' ∧ (∃ k : Nat, j = k ∧ k ≤ w ∧ n = (getN l p k : Int)), fun vs H' => match vs with | [.int .i64 n, .int .i64 j] => ((w : Int) - j).toNat | _ => 0, ⟨c, rfl, _, _, rfl, Ch.refl _ _, ?_⟩, ?_⟩
 ·
  exact ⟨0, rfl, by omega, rfl⟩
 ·
  intro n j _ _ _ _ _ _ _ _ _ _ _ _ _ _ _ _ H_ hI_7
  obtain ⟨i, rfl, n_, j_, hvs, a, k, rfl, hk, rfl⟩ := hI_7
  cases hvs
  have q := a.size
  have hlt := getN_lt l p k
  refine sB_d (fun f => ?_) (fun f => ?_)
  ·
   refine wr_t (by omega) ?_
   obtain ⟨b, hbk⟩ : ∃ b, l[p + k]? = some b := ⟨l[p + k]'(by omega), by simp⟩
   obtain ⟨ad, rfl⟩ := hx.some (fun e => by have := bvs_get hbk; rw [e] at this; simp at this)
   have hb8 := b.toNat_lt
   refine nz_i (ask_t (by omega) ?_)
   have g := hx.mv (d.app a) (tagn (by simp))
   refine ld_sl g (by rw [show Int.toNat ((p : Int) + (k : Int)) * 1 = p + k by omega]; exact bvs_get hbk) ?_
   refine dInt_i (wr_t (by omega) (wr_t (by omega) (ask_t (by omega) ?_)))
   rw [shlN hb8 (by omega)]
   refine nm_t rfl ?_
   rw [orN hlt hb8 (by omega)]
   refine nm_t rfl ?_
   refine wr_t (by omega) ?_
   refine ⟨⟨i, rfl, _, _, rfl, ((Ch.refl [] c).ch a (by simp)), ?_⟩, ?_⟩
   ·
    exact ⟨k + 1, by omega, by omega, by rw [getN, List.getD_eq_getElem?_getD, hbk]; rfl⟩
   ·
    simp only []; omega
  ·
   refine ret_t ?_
   obtain rfl : k = w := by omega
   exact ⟨rfl, (((Ch.refl [] s).ch d (by simp)).ch a (by simp))⟩
theorem c_wnext (r xc at_ w : Nat) {xa : Option Addr} {xn : Nat} {l : List UInt8} {τ τx : Nat} (s : TH) (hr : Blk s r [.slice xa xn xc, .int .i64 (at_ : Int), .int .i64 0, .bool true] 209 τ) (hx : Sl s xa (bvs l) τx) (hn : l.length = xn) (hc : xn ≤ xc) (hb : xn ≤ 1000000000) (hτx : τ ≠ τx) (hw : 1 ≤ w) (hat : at_ + w ≤ xn) : TRet Tryz.prog 131 #[.pointer (some ⟨r, 0, none⟩), .int .i64 (w : Int), .bool true] s fun v s' => ∃ a' c', v = .slice a' w c' ∧ Ch [τ] s s' ∧ Blk s' r [.slice xa xn xc, .int .i64 ((at_ + w : Nat) : Int), .int .i64 0, .bool true] 209 τ ∧ Sl s' a' (bvs ((l.drop at_).take w)) τx := by
 refine F131_calls _ _ _  ?_
 unfold F131
 refine jn_u ?_
 refine jn_u ?_
 refine sB_d (fun c => by exfalso; omega) (fun c => ?_)
 intro _
 intros
 refine dBl_i (sB_f (by rfl) ?_)
 intro _
 intros
 refine jn_u ?_
 refine nz_i (ld_t hr rfl (dSl_i (nz_i (ld_t hr rfl (dInt_i ?_)))))
 refine ⟨?_, ?_⟩
 ·
  refine ld_t hr rfl (dInt_i ?_)
  rfl
 ·
  refine wr_t (by omega) ?_
  refine sB_d (fun d => by exfalso; omega) (fun d => ?_)
  intro _
  intros
  refine nz_i (ld_t hr rfl (dInt_i (wr_t (by omega) (nz_i ?_))))
  refine st_t (r := r) (i := 1) hr rfl (by simp) fun g a e h => ?_
  have b := on_ch hr e
  refine nz_i (ld_t a rfl (dSl_i (nz_i (ld_t a rfl (dInt_i (wr_t (by omega) (nz_i ?_)))))))
  refine ld_t a rfl (dInt_i (ask_t (by omega) ?_))
  refine ret_t ?_
  have f := hx.mv b (tagn (by simp <;> omega))
  have hs := sl_cutT f at_ xc w (by omega) (by omega)
  have e1 : ((at_ : Int) + (w : Int) - (w : Int)) = (at_ : Int) := by omega
  rw [e1]
  exact ⟨_, _, by rw [show Int.toNat ((at_ : Int) + (w : Int)) - Int.toNat (at_ : Int) = w by omega], ((Ch.refl [τ] s).ch b (by simp)), by rw [Int.natCast_add]; exact a, hs⟩
theorem c_wtakeC (c1 c2 c3 : Nat) (r xc at_ w : Nat) {xa : Option Addr} {xn : Nat} {l : List UInt8} {τ τx : Nat} {τ1 τ2 τ3 : Nat} (s : TH) (hr : Blk s r [.slice xa xn xc, .int .i64 (at_ : Int), .int .i64 0, .bool true] 209 τ) (hx : Sl s xa (bvs l) τx) (hn : l.length = xn) (hc : xn ≤ xc) (hb : xn ≤ 1000000000) (hτx : τ ≠ τx) (hw : 1 ≤ w) (hat : at_ + w ≤ xn) (h1 : Blk s c1 [.pointer (some ⟨r, 0, none⟩)] 142 τ1) (h2 : Blk s c2 [.int .i64 (w : Int)] 3 τ2) (h3 : Blk s c3 [.int .i64 0] 3 τ3) (hw4 : w ≤ 4) (hne : τ ≠ τ1 ∧ τ ≠ τ2 ∧ τ ≠ τ3) : TRet Tryz.prog 130 #[.pointer (some ⟨c1, 0, none⟩), .pointer (some ⟨c2, 0, none⟩), .pointer (some ⟨c3, 0, none⟩)] s fun v s' => v = .tuple #[] ∧ Ch [τ, τ3] s s' ∧ Blk s' r [.slice xa xn xc, .int .i64 ((at_ + w : Nat) : Int), .int .i64 0, .bool true] 209 τ ∧ Blk s' c3 [.int .i64 (getN l at_ w : Int)] 3 τ3 := by
 refine F130_calls _ _ _  ?_
 unfold F130
 refine ld_t h1 rfl (dPtr_i (ld_t h2 rfl (dInt_i (ld_t h2 rfl (dInt_i ?_)))))
 refine sB_d (fun h => ?_) (fun h => by exfalso; omega)
 refine ld_t h2 rfl (dInt_i (ld_t h2 rfl (dInt_i ?_)))
 try rw [show decide ((w : Int) ≤ 4) = true from decide_eq_true (by omega)]
 refine tcall (c_wnext r xc at_ w _ hr hx hn hc hb hτx hw hat) ?_
 rintro t u ⟨m, n, rfl, b, c, d⟩
 have x := b.size
 have hlw : ((l.drop at_).take w).length = w := by rw [List.length_take, List.length_drop]; omega
 refine dSl_i ?_
 refine ⟨?_, ?_⟩
 ·
  have o := h2.ch b (by simp <;> omega)
  refine ld_t o rfl (dInt_i ?_)
  rfl
 ·
  refine tcall (c_wget _ 0 w d hlw (by omega) (by omega) (by omega)) ?_
  rintro y z ⟨rfl, a⟩
  have p := a.size
  rw [getN_cut l at_ w w (Nat.le_refl _)]
  refine dT2 (dInt_i (dInt_i ?_))
  have e := h3.ch (b.app a) (by simp <;> omega)
  refine st_t e rfl (by simp) fun A i g q => ?_
  have f := on_ch e g
  refine ret_t ?_
  have j := ((b.app a).app f)
  have k := c.ch (a.app f) (by simp <;> omega)
  exact ⟨rfl, ((Ch.refl [τ, τ3] s).ch j (by simp)), k, i⟩
theorem c_wskipC (c1 c2 : Nat) (r xc at_ w : Nat) {xa : Option Addr} {xn : Nat} {l : List UInt8} {τ τx : Nat} {τ1 τ2 : Nat} (s : TH) (hr : Blk s r [.slice xa xn xc, .int .i64 (at_ : Int), .int .i64 0, .bool true] 209 τ) (hx : Sl s xa (bvs l) τx) (hn : l.length = xn) (hc : xn ≤ xc) (hb : xn ≤ 1000000000) (hτx : τ ≠ τx) (hw : 1 ≤ w) (hat : at_ + w ≤ xn) (h1 : Blk s c1 [.pointer (some ⟨r, 0, none⟩)] 142 τ1) (h2 : Blk s c2 [.int .i64 (w : Int)] 3 τ2) (hne : τ ≠ τ1 ∧ τ ≠ τ2) : TRet Tryz.prog 132 #[.pointer (some ⟨c1, 0, none⟩), .pointer (some ⟨c2, 0, none⟩)] s fun v s' => v = .tuple #[] ∧ Ch [τ] s s' ∧ Blk s' r [.slice xa xn xc, .int .i64 ((at_ + w : Nat) : Int), .int .i64 0, .bool true] 209 τ := by
 refine F132_calls _ _  ?_
 unfold F132
 refine ld_t h1 rfl (dPtr_i (ld_t h2 rfl (dInt_i ?_)))
 refine tcall (c_wnext r xc at_ w _ hr hx hn hc hb hτx hw hat) ?_
 rintro f g ⟨c, d, rfl, b, a, e⟩
 have h := b.size
 refine dSl_i ?_
 refine ret_t ?_
 exact ⟨rfl, ((Ch.refl [τ] s).ch b (by simp)), a⟩
set_option maxRecDepth 100000 in
/-- (*bollard/word.Reader).do -/
theorem c_wdoT (c1 c2 c3 : Nat) (r xc at_ w : Nat) {xa : Option Addr} {xn : Nat} {l : List UInt8} {τ τx : Nat} {τ1 τ2 τ3 : Nat} (s : TH) (hr : Blk s r [.slice xa xn xc, .int .i64 (at_ : Int), .int .i64 0, .bool true] 209 τ) (hx : Sl s xa (bvs l) τx) (hn : l.length = xn) (hc : xn ≤ xc) (hb : xn ≤ 1000000000) (hτx : τ ≠ τx) (hw : 1 ≤ w) (hat : at_ + w ≤ xn) (h1 : Blk s c1 [.pointer (some ⟨r, 0, none⟩)] 142 τ1) (h2 : Blk s c2 [.int .i64 (w : Int)] 3 τ2) (h3 : Blk s c3 [.int .i64 0] 3 τ3) (hw4 : w ≤ 4) (hne : τ ≠ τ1 ∧ τ ≠ τ2 ∧ τ ≠ τ3) : TRet Tryz.prog 129 #[.pointer (some ⟨r, 0, none⟩), .func (.func 130) #[] #[.pointer (some ⟨c1, 0, none⟩), .pointer (some ⟨c2, 0, none⟩), .pointer (some ⟨c3, 0, none⟩)]] s fun v s' => v = .tuple #[] ∧ Ch [τ, τ3] s s' ∧ Blk s' r [.slice xa xn xc, .int .i64 ((at_ + w : Nat) : Int), .int .i64 0, .bool true] 209 τ ∧ Blk s' c3 [.int .i64 (getN l at_ w : Int)] 3 τ3 := by
 obtain ⟨M, hM, hM0, hMa, hMb, hMc, hMd, hMe, hMf⟩ := fresh6 s τ τx τ1 τ2 τ3 0
 refine F129_calls _ _ _ _  ?_
 unfold F129
 refine al_t (M + 1) fun r1 s2 o b a p => ?_
 refine jn_u ?_
 refine ld_t b rfl (dPtr_i (sB_f (by rfl) (ld_t b rfl (dPtr_i (nz_i ?_)))))
 have c := hr.ch a (by simp)
 refine ld_t c rfl (dBl_i (sB_f (by rfl) (ld_t b rfl (dPtr_i (nz_i (ld_t c rfl (dInt_i ?_)))))))
 intro _
 intros
 refine dBl_i ?_
 refine sB_nd (fun g => by exfalso; omega) (fun g => ?_)
 refine gB_i rfl ?_
 simp only [argsOf, List.nil_append, List.append_nil]
 have h := hx.mv a (tagn (by simp))
 have i := h1.ch a (by simp)
 have j := h2.ch a (by simp)
 have k := h3.ch a (by simp)
 refine tcall (c_wtakeC c1 c2 c3 r xc at_ w _ c h hn hc hb hτx hw hat i j k hw4 hne) ?_
 rintro m q ⟨rfl, d, e, f⟩
 have n := d.size
 refine d_idle ?_
 show RT _ _ _
 refine ret_t ?_
 exact ⟨rfl, (((Ch.refl [τ, τ3] s).ch a (by simp)).ch d (by simp)), e, f⟩
set_option maxRecDepth 100000 in
/-- (*bollard/word.Reader).do -/
theorem c_wdoS (c1 c2 : Nat) (r xc at_ w : Nat) {xa : Option Addr} {xn : Nat} {l : List UInt8} {τ τx : Nat} {τ1 τ2 : Nat} (s : TH) (hr : Blk s r [.slice xa xn xc, .int .i64 (at_ : Int), .int .i64 0, .bool true] 209 τ) (hx : Sl s xa (bvs l) τx) (hn : l.length = xn) (hc : xn ≤ xc) (hb : xn ≤ 1000000000) (hτx : τ ≠ τx) (hw : 1 ≤ w) (hat : at_ + w ≤ xn) (h1 : Blk s c1 [.pointer (some ⟨r, 0, none⟩)] 142 τ1) (h2 : Blk s c2 [.int .i64 (w : Int)] 3 τ2) (hne : τ ≠ τ1 ∧ τ ≠ τ2) : TRet Tryz.prog 129 #[.pointer (some ⟨r, 0, none⟩), .func (.func 132) #[] #[.pointer (some ⟨c1, 0, none⟩), .pointer (some ⟨c2, 0, none⟩)]] s fun v s' => v = .tuple #[] ∧ Ch [τ] s s' ∧ Blk s' r [.slice xa xn xc, .int .i64 ((at_ + w : Nat) : Int), .int .i64 0, .bool true] 209 τ := by
 obtain ⟨M, hM, hM0, hMa, hMb, hMc, hMd, hMe, hMf⟩ := fresh6 s τ τx τ1 τ2 0 0
 refine F129_calls _ _ _ _  ?_
 unfold F129
 refine al_t (M + 1) fun r1 s2 k b a m => ?_
 refine jn_u ?_
 refine ld_t b rfl (dPtr_i (sB_f (by rfl) (ld_t b rfl (dPtr_i (nz_i ?_)))))
 have c := hr.ch a (by simp)
 refine ld_t c rfl (dBl_i (sB_f (by rfl) (ld_t b rfl (dPtr_i (nz_i (ld_t c rfl (dInt_i ?_)))))))
 intro _
 intros
 refine dBl_i ?_
 refine sB_nd (fun f => by exfalso; omega) (fun f => ?_)
 refine gB_i rfl ?_
 simp only [argsOf, List.nil_append, List.append_nil]
 have g := hx.mv a (tagn (by simp))
 have h := h1.ch a (by simp)
 have i := h2.ch a (by simp)
 refine tcall (c_wskipC c1 c2 r xc at_ w _ c g hn hc hb hτx hw hat h i hne) ?_
 rintro n o ⟨rfl, d, e⟩
 have j := d.size
 refine d_idle ?_
 show RT _ _ _
 refine ret_t ?_
 exact ⟨rfl, (((Ch.refl [τ] s).ch a (by simp)).ch d (by simp)), e⟩
theorem c_wtake (r xc at_ w : Nat) {xa : Option Addr} {xn : Nat} {l : List UInt8} {τ τx : Nat} (s : TH) (hr : Blk s r [.slice xa xn xc, .int .i64 (at_ : Int), .int .i64 0, .bool true] 209 τ) (hx : Sl s xa (bvs l) τx) (hn : l.length = xn) (hc : xn ≤ xc) (hb : xn ≤ 1000000000) (hτx : τ ≠ τx) (hw : 1 ≤ w) (hat : at_ + w ≤ xn) (hw4 : w ≤ 4) : TRet Tryz.prog 67 #[.pointer (some ⟨r, 0, none⟩), .int .i64 (w : Int)] s fun v s' => v = .int .i64 (getN l at_ w : Int) ∧ Ch [τ] s s' ∧ Blk s' r [.slice xa xn xc, .int .i64 ((at_ + w : Nat) : Int), .int .i64 0, .bool true] 209 τ := by
 obtain ⟨M, hM, hM0, hMa, hMb, hMc, hMd, hMe, hMf⟩ := fresh6 s τ τx 0 0 0 0
 refine F67_calls _ _  ?_
 unfold F67
 refine al_t (M + 1) fun r1 s2 C u j D => ?_
 refine al_t (M + 2) fun r3 s4 E x c F => ?_
 refine al_t (M + 3) fun r5 s6 G k b H => ?_
 refine st_t k rfl (by simp) fun s7 m i y => ?_
 have a := on_ch k i
 have n := ((c.app b).app a)
 have d := u.ch n (by simp)
 refine ld_t d rfl (dPtr_i ?_)
 have e := (((j.app c).app b).app a)
 have o := hr.ch e (by simp <;> omega)
 have p := hx.mv e (tagn (by simp <;> omega))
 have q := x.ch (b.app a) (by simp)
 refine tcall (c_wdoT r1 r3 r5 r xc at_ w _ o p hn hc hb hτx hw hat d q m hw4 (by omega)) ?_
 rintro z A ⟨rfl, f, g, h⟩
 have B := f.size
 refine ld_t h rfl (dInt_i ?_)
 refine ret_t ?_
 have t := ((j.app c).app b)
 exact ⟨rfl, ((((Ch.refl [τ] s).ch t (by simp)).fr a hM (by simp)).fr f hM (by simp)), g⟩
theorem c_wskip (r xc at_ w : Nat) {xa : Option Addr} {xn : Nat} {l : List UInt8} {τ τx : Nat} (s : TH) (hr : Blk s r [.slice xa xn xc, .int .i64 (at_ : Int), .int .i64 0, .bool true] 209 τ) (hx : Sl s xa (bvs l) τx) (hn : l.length = xn) (hc : xn ≤ xc) (hb : xn ≤ 1000000000) (hτx : τ ≠ τx) (hw : 1 ≤ w) (hat : at_ + w ≤ xn) : TRet Tryz.prog 68 #[.pointer (some ⟨r, 0, none⟩), .int .i64 (w : Int)] s fun v s' => v = .tuple #[] ∧ Ch [τ] s s' ∧ Blk s' r [.slice xa xn xc, .int .i64 ((at_ + w : Nat) : Int), .int .i64 0, .bool true] 209 τ := by
 obtain ⟨M, hM, hM0, hMa, hMb, hMc, hMd, hMe, hMf⟩ := fresh6 s τ τx 0 0 0 0
 refine F68_calls _ _  ?_
 unfold F68
 refine al_t (M + 1) fun r1 s2 o g b p => ?_
 refine al_t (M + 2) fun r3 s4 q h a t => ?_
 have e := g.ch a (by simp)
 refine ld_t e rfl (dPtr_i ?_)
 have i := hr.ch (b.app a) (by simp)
 have j := hx.mv (b.app a) (tagn (by simp))
 refine tcall (c_wdoS r1 r3 r xc at_ w _ i j hn hc hb hτx hw hat e h (by omega)) ?_
 rintro k m ⟨rfl, c, d⟩
 have n := c.size
 refine ret_t ?_
 have f := ((b.app a).app c)
 exact ⟨rfl, ((Ch.refl [τ] s).ch f (by simp)), d⟩
theorem wrL_getD (l : List UInt8) (p n i : Nat) : ∀ k, p + k ≤ l.length → (wrL l p k n).getD i 0 = if p ≤ i ∧ i < p + k then UInt8.ofNat (n / 256 ^ (i - p) % 256) else l.getD i 0
 | 0, _ => by rw [if_neg (by omega)]; rfl
 | k + 1, h => by
  have hl := wrL_len l p k n
  rw [wrL]
  by_cases e : p + k = i
  ·subst e
   rw [List.getD_eq_getElem?_getD, List.getElem?_set_self (by omega), if_pos (by omega), Nat.add_sub_cancel_left]; rfl
  ·rw [List.getD_eq_getElem?_getD, List.getElem?_set_ne e, ← List.getD_eq_getElem?_getD, wrL_getD l p n i k (by omega)]
   by_cases e2 : p ≤ i ∧ i < p + k
   ·rw [if_pos e2, if_pos (by omega)]
   ·rw [if_neg e2, if_neg (by omega)]
theorem getN_congr {l m : List UInt8} {p q : Nat} : ∀ k, (∀ j, j < k → l.getD (p + j) 0 = m.getD (q + j) 0) → getN l p k = getN m q k
 | 0, _ => rfl
 | k + 1, h => by rw [getN, getN, getN_congr k (fun j hj => h j (by omega)), h k (by omega)]
theorem getN_wrO {l : List UInt8} {p w n q k : Nat} (hp : p + w ≤ l.length) (h : q + k ≤ p ∨ p + w ≤ q) : getN (wrL l p w n) q k = getN l q k :=
 getN_congr k fun j hj => by rw [wrL_getD _ _ _ _ _ hp, if_neg (by omega)]
theorem getN_wr {l : List UInt8} {p w n : Nat} (hp : p + w ≤ l.length) : ∀ k, k ≤ w → getN (wrL l p w n) p k = n % 256 ^ k
 | 0, _ => by rw [getN, Nat.pow_zero, Nat.mod_one]
 | k + 1, h => by
  have e : (UInt8.ofNat (n / 256 ^ k % 256)).toNat = n / 256 ^ k % 256 := by show n / 256 ^ k % 256 % 256 = _; omega
  rw [getN, getN_wr hp k (by omega), wrL_getD _ _ _ _ _ hp, if_pos (by omega), Nat.add_sub_cancel_left, e, Nat.mod_pow_succ, Nat.mul_comm]
theorem sealL_take (l : List UInt8) (h : 4 ≤ l.length) : (sealL l).take (l.length - 4) = l.take (l.length - 4) := by
 apply List.ext_getElem?
 intro j
 rw [List.getElem?_take, List.getElem?_take]
 split
 ·have h1 := wrL_getD l (l.length - 4) (sumN (l.take (l.length - 4))) j 4 (by omega)
  rw [if_neg (by omega), List.getD_eq_getElem?_getD, List.getD_eq_getElem?_getD] at h1
  have hl : (sealL l).length = l.length := sealL_len l
  rw [show wrL l (l.length - 4) 4 (sumN (l.take (l.length - 4))) = sealL l from rfl, List.getElem?_eq_getElem (by omega), List.getElem?_eq_getElem (by omega)] at h1
  rw [List.getElem?_eq_getElem (by omega), List.getElem?_eq_getElem (by omega)]
  exact congrArg some h1
 ·rfl
theorem sealL_num (l : List UInt8) (h : 4 ≤ l.length) : getN (sealL l) (l.length - 4) 4 = sumN (l.take (l.length - 4)) := by
 unfold sealL
 rw [getN_wr (by omega) 4 (Nat.le_refl _)]
 exact Nat.mod_eq_of_lt (sumN_lt _)
theorem dinL_ex (m l z d0 d1 d2 d3 e1 e2 : Nat) : ∃ σ, (dinL m l z d0 d1 d2 d3 e1 e2) = wrL (wrL (wrL (wrL (wrL (wrL (wrL (wrL (wrL (wrL (List.replicate 32 0) 0 1 m) 2 2 l) 4 4 z) 8 2 d0) 10 2 d1) 12 2 d2) 14 2 d3) 16 2 e1) 18 2 e2) 28 4 σ := by
 unfold dinL sealL
 rw [show (wrL (wrL (dirL (wrL (wrL (wrL (List.replicate 32 0) 0 1 m) 2 2 l) 4 4 z) [d0, d1, d2, d3] 4) 16 2 e1) 18 2 e2).length = 32 from by rw [wrL_len, wrL_len, dirL_len, wrL_len, wrL_len, wrL_len]; simp]
 exact ⟨_, rfl⟩
theorem dinL_num {m l z d0 d1 d2 d3 e1 e2 : Nat} (hv : DinOk m l z d0 d1 d2 d3 e1 e2) : getN (dinL m l z d0 d1 d2 d3 e1 e2) 0 1 = m ∧ getN (dinL m l z d0 d1 d2 d3 e1 e2) (0 + 1 + 1) 2 = l ∧ getN (dinL m l z d0 d1 d2 d3 e1 e2) (0 + 1 + 1 + 2) 4 = z ∧ (∀ k, k < 4 → getN (dinL m l z d0 d1 d2 d3 e1 e2) (8 + 2 * k) 2 = [d0, d1, d2, d3].getD k 0) ∧ getN (dinL m l z d0 d1 d2 d3 e1 e2) (8 + 2 * 4) 2 = e1 ∧ getN (dinL m l z d0 d1 d2 d3 e1 e2) (8 + 2 * 4 + 2) 2 = e2 := by
 unfold DinOk at hv
 obtain ⟨σ, e⟩ := dinL_ex m l z d0 d1 d2 d3 e1 e2
 rw [e]
 have o : ∀ {l : List UInt8} {p w n q k : Nat}, l.length = 32 ∧ p + w ≤ 32 → (q + k ≤ p ∨ p + w ≤ q) → getN (wrL l p w n) q k = getN l q k := fun h1 h2 => getN_wrO (by omega) h2
 have s : ∀ {l : List UInt8} {p w n : Nat}, l.length = 32 ∧ p + w ≤ 32 → getN (wrL l p w n) p w = n % 256 ^ w := fun {l p w n} h1 => getN_wr (by omega) w (Nat.le_refl _)
 refine ⟨?_, ?_, ?_, ?_, ?_, ?_⟩
 ·repeat rw [o ⟨by simp only [wrL_len, List.length_replicate], by decide⟩ (by omega)]
  rw [s ⟨by simp only [wrL_len, List.length_replicate], by decide⟩]; omega
 ·repeat rw [o ⟨by simp only [wrL_len, List.length_replicate], by decide⟩ (by omega)]
  rw [s ⟨by simp only [wrL_len, List.length_replicate], by decide⟩]; omega
 ·repeat rw [o ⟨by simp only [wrL_len, List.length_replicate], by decide⟩ (by omega)]
  rw [s ⟨by simp only [wrL_len, List.length_replicate], by decide⟩]; omega
 ·intro k hk
  rcases (by omega : k = 0 ∨ k = 1 ∨ k = 2 ∨ k = 3) with rfl | rfl | rfl | rfl <;>
  ·repeat rw [o ⟨by simp only [wrL_len, List.length_replicate], by decide⟩ (by omega)]
   simp only [Nat.mul_zero, Nat.add_zero, Nat.reduceMul, Nat.reduceAdd]
   rw [s ⟨by simp only [wrL_len, List.length_replicate], by decide⟩]
   exact Nat.mod_eq_of_lt (show _ < 65536 by omega)
 ·repeat rw [o ⟨by simp only [wrL_len, List.length_replicate], by decide⟩ (by omega)]
  simp only [Nat.reduceMul, Nat.reduceAdd]
  rw [s ⟨by simp only [wrL_len, List.length_replicate], by decide⟩]; omega
 ·repeat rw [o ⟨by simp only [wrL_len, List.length_replicate], by decide⟩ (by omega)]
  simp only [Nat.reduceMul, Nat.reduceAdd]
  rw [s ⟨by simp only [wrL_len, List.length_replicate], by decide⟩]; omega
theorem dinL_some {m l z d0 d1 d2 d3 e1 e2 : Nat} (hv : DinOk m l z d0 d1 d2 d3 e1 e2) : ¬ ∀ b ∈ (dinL m l z d0 d1 d2 d3 e1 e2), b = 0 := by
 intro h
 have h1 := (dinL_num hv).1
 have h2 : (dinL m l z d0 d1 d2 d3 e1 e2).length = 32 := dinL_len _ _ _ _ _ _ _ _ _
 rw [getN, getN, List.getD_eq_getElem?_getD, List.getElem?_eq_getElem (by omega), Option.getD_some, h _ (List.getElem_mem _)] at h1
 unfold DinOk at hv
 simp at h1; omega
theorem c_lzero {xa : Option Addr} {xn : Nat} (xc : Nat) {l : List UInt8} {τx : Nat} {s : TH} (hx : Sl s xa (bvs l) τx) (hn : l.length = xn) (hb : xn ≤ 1000000) : TRet Tryz.prog 64 #[.slice xa xn xc] s fun v s' => ∃ b, v = .bool b ∧ Ch [] s s' ∧ (b = true ↔ ∀ c ∈ l, c = 0) := by
 refine F64_calls _ _ _  ?_
 unfold F64
 refine ⟨fun vs H' => ∃ s' : TH, s'.h = H' ∧ ∃ i, vs = [.int .i64 i] ∧ Ch [] s s' ∧ (∃ k : Nat, i = k ∧ k ≤ xn ∧ ∀ c ∈ l.take k, c = 0), fun vs H' => match vs with | [.int .i64 i] => ((xn : Int) - i).toNat | _ => 0, ⟨s, rfl, _, rfl, Ch.refl _ _, ?_⟩, ?_⟩
 ·
  exact ⟨0, rfl, by omega, by simp⟩
 ·
  intro i _ _ _ _ _ _ _ _ H_ hI_2
  obtain ⟨m, rfl, i_, hvs, a, k, rfl, hk, hz⟩ := hI_2
  cases hvs
  have n := a.size
  refine sB_d (fun j => ?_) (fun j => ?_)
  ·
   have g := hx.mv a (tagn (by simp))
   obtain ⟨o, rfl⟩ := g.ne_none (by simp [bvs_len, ivs_len]; omega)
   refine nz_i (ask_t (by omega) ?_)
   refine ld_bv g (by omega) (by omega) fun e d => ?_
   rw [Int.toNat_natCast] at d
   refine dInt_i ?_
   refine sB_nd (fun f => ?_) (fun f => ?_)
   ·
    refine ret_t ?_
    have hmem := List.mem_of_getElem? d
    exact ⟨false, rfl, ((Ch.refl [] s).ch a (by simp)), ⟨fun h => (by cases h), fun h => by have h2 := h e hmem; subst h2; exact absurd rfl f⟩⟩
   ·
    refine wr_t (by omega) ?_
    refine ⟨⟨m, rfl, _, rfl, ((Ch.refl [] s).ch a (by simp)), ?_⟩, ?_⟩
    ·
     have hb0 : e = 0 := UInt8.toNat.inj (by rw [show (0 : UInt8).toNat = 0 from rfl]; omega)
     exact ⟨k + 1, by omega, by omega, fun c hc => by
      rw [List.take_add_one, d] at hc
      rcases List.mem_append.1 hc with hc | hc
      ·exact hz c hc
      ·simp at hc; rw [hc]; exact hb0⟩
    ·
     simp only []; omega
  ·
   refine ret_t ?_
   exact ⟨true, rfl, ((Ch.refl [] s).ch a (by simp)), ⟨fun _ => by rw [List.take_of_length_le (by omega)] at hz; exact hz, fun _ => rfl⟩⟩
theorem c_wsealed {xa : Option Addr} {xn : Nat} (xc : Nat) {m : List UInt8} {τx : Nat} {s : TH} (hx : Sl s xa (bvs (sealL m)) τx) (hn : m.length = xn) (hc : xn ≤ xc) (h4 : 4 ≤ xn) (hb : xn ≤ 1000000000) : TRet Tryz.prog 65 #[.slice xa xn xc] s fun v s' => v = .bool true ∧ Ch [] s s' := by
 have hsl : (sealL m).length = xn := by rw [sealL_len]; exact hn
 have hnum := sealL_num m (by omega)
 have htk := sealL_take m (by omega)
 rw [hn] at hnum htk
 refine F65_calls _ _ _  ?_
 unfold F65
 refine wr_t (by omega) ?_
 refine max_i ?_
 rw [show max ((xn : Int) - 4) 0 = ((xn - 4 : Nat) : Int) by omega]
 refine dInt_i ?_
 refine tcall (c_wget xc (xn - 4) 4 hx hsl hb (by omega) (by omega)) ?_
 rintro e f ⟨rfl, a⟩
 have g := a.size
 rw [hnum]
 refine dT2 (dInt_i (dInt_i (sB_t (by rfl) (wr_t (by omega) (ask_t (by omega) ?_)))))
 rw [show ((xn : Int) - 4) = ((xn - 4 : Nat) : Int) by omega]
 simp only [slO_zero, Int.toNat_zero, Nat.sub_zero, Int.toNat_natCast]
 have c := hx.mv a (tagn (by simp))
 refine tcall (c_wsum (xn := xn - 4) xc (c.takeB (xn - 4)) (by simp; omega) (by omega)) ?_
 rintro h i ⟨rfl, b⟩
 have d := b.size
 rw [htk]
 refine dInt_i ?_
 refine ret_t ?_
 exact ⟨ret_b (by simp), (((Ch.refl [] s).ch a (by simp)).ch b (by simp))⟩
theorem c_ldecDinV (m l z d0 d1 d2 d3 e1 e2 : Nat) {xa : Option Addr} (xc : Nat) {τx : Nat} {s : TH} (hx : Sl s xa (bvs (dinL m l z d0 d1 d2 d3 e1 e2)) τx) (hne : xa ≠ none) (hc : 32 ≤ xc) (hv : DinOk m l z d0 d1 d2 d3 e1 e2) : TRet Tryz.prog 24 #[.slice xa 32 xc] s fun v s' => v = .tuple #[.agg #[.int .i64 (m : Int), .int .i64 (l : Int), .int .i64 (z : Int), .int .i64 (d0 : Int), .int .i64 (d1 : Int), .int .i64 (d2 : Int), .int .i64 (d3 : Int), .int .i64 (e1 : Int), .int .i64 (e2 : Int)], .int .i64 0] ∧ Ch [] s s' := by
 have hxl : (dinL m l z d0 d1 d2 d3 e1 e2).length = 32 := dinL_len _ _ _ _ _ _ _ _ _
 have hnum := dinL_num hv
 have hsome := dinL_some hv
 obtain ⟨M, hM, hM0, hMa, hMb, hMc, hMd, hMe, hMf⟩ := fresh6 s τx 0 0 0 0 0
 refine F24_calls _ _ _  ?_
 unfold F24
 refine al_t (M + 1) fun r1 s2 cR bG bo cS => ?_
 refine sB_f (by rfl) ?_
 have bp := hx.mv bo (tagn (by simp))
 refine tcall (c_lzero (xn := 32) xc bp hxl (by omega)) ?_
 rintro cT cU ⟨P, rfl, T, ah⟩
 have cV := T.size
 obtain rfl : P = false := by
  cases P
  ·rfl
  ·exact absurd (ah.1 rfl) hsome
 refine dBl_i (sB_f (by rfl) ?_)
 have ai := bp.mv T (tagn (by simp))
 refine tcall (c_wsealed xc ai (by have h := hxl; unfold dinL at h; rw [sealL_len] at h; exact h) hc (by omega) (by omega)) ?_
 rintro b5 b6 ⟨rfl, K⟩
 have b7 := K.size
 refine dBl_i (sB_f (by rfl) ?_)
 have aj := ai.mv K (tagn (by simp))
 refine tcall (c_wover (M + 10) xc aj hxl (by omega)) ?_
 rintro b8 b9 ⟨b, ak, c, rfl, L, al, Q, f⟩
 have ca := L.size
 refine dPtr_i ?_
 refine tcall (c_wtake b c (0) 1 _ al Q hxl f (by omega) (by omega) (by omega) (by omega) (by omega)) ?_
 rintro cb cc ⟨rfl, x, am⟩
 have cd := x.size
 rw [hnum.1]
 refine dInt_i ?_
 refine al_t (M + 2) fun an cW ce ao y cf => ?_
 refine st_t ao rfl (by simp) fun cX ap aV cg => ?_
 have A := on_ch ao aV
 refine st_t ap rfl (by simp) fun cY aq aW ci => ?_
 have B := on_ch ap aW
 refine st_t aq rfl (by simp) fun cZ ar aX cj => ?_
 have C := on_ch aq aX
 refine st_t ar rfl (by simp) fun c0 au aY ck => ?_
 have D := on_ch ar aY
 refine st_t au rfl (by simp) fun c1 av aZ cl => ?_
 have E := on_ch au aZ
 refine st_t av rfl (by simp) fun c2 aw a0 cm => ?_
 have F := on_ch av a0
 refine st_t aw rfl (by simp) fun c3 ax a1 cn => ?_
 have G := on_ch aw a1
 refine st_t ax rfl (by simp) fun c4 ay a2 co => ?_
 have H := on_ch ax a2
 refine st_t ay rfl (by simp) fun c5 bq a3 cp => ?_
 have I := on_ch ay a3
 have br := (((((((((y.app A).app B).app C).app D).app E).app F).app G).app H).app I)
 have bs := am.ch br (by simp)
 have bt := ((((((((((x.app y).app A).app B).app C).app D).app E).app F).app G).app H).app I)
 have az := Q.mv bt (tagn (by simp))
 refine tcall (c_wskip b c (0 + 1) 1 _ bs az hxl f (by omega) (by omega) (by omega) (by omega)) ?_
 rintro cq cr ⟨rfl, q, aA⟩
 have cs := q.size
 have aB := az.mv q (tagn (by simp))
 refine tcall (c_wtake b c (0 + 1 + 1) 2 _ aA aB hxl f (by omega) (by omega) (by omega) (by omega) (by omega)) ?_
 rintro ct cu ⟨rfl, r, aC⟩
 have cv := r.size
 rw [hnum.2.1]
 refine dInt_i ?_
 have R := aB.mv r (tagn (by simp))
 refine tcall (c_wtake b c (0 + 1 + 1 + 2) 4 _ aC R hxl f (by omega) (by omega) (by omega) (by omega) (by omega)) ?_
 rintro cw cx ⟨rfl, j, aD⟩
 have cy := j.size
 rw [hnum.2.2.1]
 refine dInt_i ?_
 have bu := ((q.app r).app j)
 have aE := bq.ch bu (by simp)
 refine st_t aE rfl (by simp) fun c6 aF a4 cz => ?_
 have t := on_ch aE a4
 refine st_t aF rfl (by simp) fun aG bv a5 cA => ?_
 have u := on_ch aF a5
 refine ⟨fun vs H' => ∃ s' : TH, s'.h = H' ∧ ∃ i, vs = [.int .i64 i] ∧ Ch [M + 2, M + 10] aG s' ∧ (∃ k : Nat, i = k ∧ k ≤ 4 ∧ Blk s' an [.int .i64 (m : Int), .int .i64 (l : Int), .int .i64 (z : Int), .int .i64 ((if 0 < k then d0 else 0 : Nat) : Int), .int .i64 ((if 1 < k then d1 else 0 : Nat) : Int), .int .i64 ((if 2 < k then d2 else 0 : Nat) : Int), .int .i64 ((if 3 < k then d3 else 0 : Nat) : Int), .int .i64 0, .int .i64 0] 26 (M + 2) ∧ Blk s' b [.slice ak 32 c, .int .i64 ((8 + 2 * k : Nat) : Int), .int .i64 0, .bool true] 209 (M + 10)), fun vs H' => match vs with | [.int .i64 i] => (4 - i).toNat | _ => 0, ⟨aG, rfl, _, rfl, Ch.refl _ _, ?_⟩, ?_⟩
 ·
  have bw := aD.ch (t.app u) (by simp)
  exact ⟨0, rfl, by omega, bv, bw⟩
 ·
  intro i _ _ _ _ _ _ _ _ _ H_ hI_88
  obtain ⟨cB, rfl, i_, hvs, n, k, rfl, hk, hb1, hb2⟩ := hI_88
  cases hvs
  have cC := n.size
  refine sB_d (fun bx => ?_) (fun bx => ?_)
  ·
   have bz := (((j.app t).app u).app n)
   have bA := R.mv bz (tagn (by simp))
   refine tcall (c_wtake b c (8 + 2 * k) 2 _ hb2 bA hxl f (by omega) (by omega) (by omega) (by omega) (by omega)) ?_
   rintro cD cE ⟨rfl, S, aH⟩
   have cF := S.size
   rw [hnum.2.2.2.1 k (by omega)]
   have ea : Addr.add (Addr.mk an 3 none) (Int.toNat (k : Int) * 1) = ⟨an, 3 + k, none⟩ := by simp [Addr.add]
   simp only [ea]
   refine dInt_i (ask_t (by omega) ?_)
   have U := hb1.ch S (by simp)
   refine st_t U rfl (by simp; omega) fun bB bC a6 bH => ?_
   have aI := on_ch U a6
   refine wr_t (by omega) ?_
   have a7 := ((n.app S).app aI)
   refine ⟨⟨bB, rfl, _, rfl, ((Ch.refl [M + 2, M + 10] aG).ch a7 (by simp)), ?_⟩, ?_⟩
   ·
    have a8 := aH.ch aI (by simp)
    have hb3 := bC
    exact ⟨k + 1, by omega, by omega, by rcases (by omega : k = 0 ∨ k = 1 ∨ k = 2 ∨ k = 3) with rfl | rfl | rfl | rfl <;> exact hb3, a8⟩
   ·
    simp <;> omega
  ·
   obtain rfl : k = 4 := by omega
   have a9 := (((j.app t).app u).app n)
   have V := R.mv a9 (tagn (by simp))
   refine tcall (c_wtake b c (8 + 2 * 4) 2 _ hb2 V hxl f (by omega) (by omega) (by omega) (by omega) (by omega)) ?_
   rintro bI bJ ⟨rfl, g, aJ⟩
   have bK := g.size
   rw [hnum.2.2.2.2.1]
   refine dInt_i ?_
   have ba := V.mv g (tagn (by simp))
   refine tcall (c_wtake b c (8 + 2 * 4 + 2) 2 _ aJ ba hxl f (by omega) (by omega) (by omega) (by omega) (by omega)) ?_
   rintro bL bM ⟨rfl, o, bD⟩
   have bN := o.size
   rw [hnum.2.2.2.2.2]
   refine dInt_i ?_
   have W := hb1.ch (g.app o) (by simp)
   refine st_t W rfl (by simp) fun cG X aK bO => ?_
   have N := on_ch W aK
   refine st_t X rfl (by simp) fun cH a aL bP => ?_
   have O := on_ch X aL
   refine ld_t a rfl (ld_t a rfl (ld_t a rfl (ld_t a rfl (ld_t a rfl (ld_t a rfl (ld_t a rfl (ld_t a rfl ?_)))))))
   refine ld_t a rfl ?_
   refine tcall (c_lencDin (M + 10) m l z d0 d1 d2 d3 e1 e2 _ hv) ?_
   rintro bQ bR ⟨bE, bF, rfl, p, J⟩
   have bS := p.size
   refine dT2 (dSl_i (dInt_i ?_))
   refine jn_u ?_
   refine sB_f (by rfl) ?_
   have bb := ((((((((((((((((((((((L.app x).app y).app A).app B).app C).app D).app E).app F).app G).app H).app I).app q).app r).app j).app t).app u).app n).app g).app o).app N).app O).app p)
   have bc := aj.mv bb (tagn (by simp <;> omega))
   refine tcall (c_lsame _ _ (J).sl hxl (fun h => by have := (J).none_iff h; omega) bc hxl (fun h => absurd h hne)) ?_
   rintro bT bU ⟨rfl, w⟩
   have bV := w.size
   rw [decide_eq_true rfl]
   refine dBl_i ?_
   intro _
   intros
   refine dBl_i (sB_f (by rfl) ?_)
   have d := a.ch (p.app w) (by simp)
   refine ld_t d rfl (ld_t d rfl (ld_t d rfl (ld_t d rfl (ld_t d rfl (ld_t d rfl (ld_t d rfl (ld_t d rfl ?_)))))))
   refine ld_t d rfl ?_
   have bd := (((((((((((((((((((((((((T.app K).app L).app x).app y).app A).app B).app C).app D).app E).app F).app G).app H).app I).app q).app r).app j).app t).app u).app n).app g).app o).app N).app O).app p).app w)
   have Y := bG.ch bd (by simp)
   refine st_t Y rfl (by simp) fun cI Z aM bW => ?_
   have be := on_ch Y aM
   refine st_t Z rfl (by simp) fun cJ aa aN bX => ?_
   have bf := on_ch Z aN
   refine st_t aa rfl (by simp) fun cK ab aO bY => ?_
   have bg := on_ch aa aO
   refine st_t ab rfl (by simp) fun cL ac aP bZ => ?_
   have bh := on_ch ab aP
   refine st_t ac rfl (by simp) fun cM ad aQ b0 => ?_
   have bi := on_ch ac aQ
   refine st_t ad rfl (by simp) fun cN ae aR b1 => ?_
   have bj := on_ch ad aR
   refine st_t ae rfl (by simp) fun cO af aS b2 => ?_
   have bk := on_ch ae aS
   refine st_t af rfl (by simp) fun cP ag aT b3 => ?_
   have bl := on_ch af aT
   refine st_t ag rfl (by simp) fun cQ e aU b4 => ?_
   have bm := on_ch ag aU
   refine ld_t e rfl (ld_t e rfl (ld_t e rfl (ld_t e rfl (ld_t e rfl (ld_t e rfl (ld_t e rfl (ld_t e rfl ?_)))))))
   refine ld_t e rfl ?_
   refine ret_t ?_
   have bn := (((bo.app T).app K).app L)
   exact ⟨rfl, ((((((((((((((((((((((((((((((((((Ch.refl [] s).ch bn (by simp)).fr x hM (by simp)).ch y (by simp)).fr A hM (by simp)).fr B hM (by simp)).fr C hM (by simp)).fr D hM (by simp)).fr E hM (by simp)).fr F hM (by simp)).fr G hM (by simp)).fr H hM (by simp)).fr I hM (by simp)).fr q hM (by simp)).fr r hM (by simp)).fr j hM (by simp)).fr t hM (by simp)).fr u hM (by simp)).fr n hM (by simp)).fr g hM (by simp)).fr o hM (by simp)).fr N hM (by simp)).fr O hM (by simp)).ch p (by simp)).ch w (by simp)).fr be hM (by simp)).fr bf hM (by simp)).fr bg hM (by simp)).fr bh hM (by simp)).fr bi hM (by simp)).fr bj hM (by simp)).fr bk hM (by simp)).fr bl hM (by simp)).fr bm hM (by simp))⟩
def w16 (l : List UInt8) (k : Nat) : Nat := (l.getD (2 * k) 0).toNat + 256 * (l.getD (2 * k + 1) 0).toNat
theorem w16_zero (k : Nat) : w16 zB128 k = 0 := by
 unfold w16 zB128
 have h : ∀ j : Nat, (List.replicate 128 (0 : UInt8)).getD j 0 = 0 := fun j => by
  rw [List.getD_eq_getElem?_getD, List.getElem?_replicate]
  split <;> rfl
 rw [h, h]; rfl
def adr2 (b : Nat) : List UInt8 := [UInt8.ofNat (b % 256), UInt8.ofNat (b / 256 % 256)]
theorem w16_over {l : List UInt8} {j : Nat} (hl : l.length = 128) (hj : j < 64) {b : Nat} (hb : b < 65536) (k : Nat) : w16 (overlay l (2 * j) (adr2 b)) k = if k = j then b else w16 l k := by
 have hx : (adr2 b).length = 2 := rfl
 have g : ∀ i, (overlay l (2 * j) (adr2 b)).getD i 0 = if 2 * j ≤ i ∧ i < 2 * j + 2 then (adr2 b).getD (i - 2 * j) 0 else l.getD i 0 := fun i => by
  rw [List.getD_eq_getElem?_getD, overlay_get (by rw [hx, hl]; omega), hx]
  split <;> rw [← List.getD_eq_getElem?_getD]
 unfold w16
 rw [g, g]
 by_cases e : k = j
 ·subst e
  rw [if_pos ⟨by omega, by omega⟩, if_pos ⟨by omega, by omega⟩, if_pos rfl, show 2 * k - 2 * k = 0 by omega, show 2 * k + 1 - 2 * k = 1 by omega]
  show (UInt8.ofNat (b % 256)).toNat + 256 * (UInt8.ofNat (b / 256 % 256)).toNat = b
  have e1 : (UInt8.ofNat (b % 256)).toNat = b % 256 := by show b % 256 % 256 = _; omega
  have e2 : (UInt8.ofNat (b / 256 % 256)).toNat = b / 256 := by show b / 256 % 256 % 256 = _; omega
  rw [e1, e2]; omega
 ·rw [if_neg (by omega), if_neg (by omega), if_neg e]
structure DinM where
 m : Nat
 l : Nat
 z : Nat
 d0 : Nat
 d1 : Nat
 d2 : Nat
 d3 : Nat
 e1 : Nat
 e2 : Nat
def DinM.top (D : DinM) : Nat → Nat
 | 0 => D.d0
 | 1 => D.d1
 | 2 => D.d2
 | 3 => D.d3
 | 4 => D.e1
 | _ => D.e2
def DinM.put (D : DinM) (k b : Nat) : DinM := match k with
 | 0 => { D with d0 := b }
 | 1 => { D with d1 := b }
 | 2 => { D with d2 := b }
 | 3 => { D with d3 := b }
 | 4 => { D with e1 := b }
 | _ => { D with e2 := b }
theorem DinM.top_put (D : DinM) {k j : Nat} (b : Nat) (hk : k < 6) (hj : j < 6) : (D.put k b).top j = if j = k then b else D.top j := by
 rcases (by omega : k = 0 ∨ k = 1 ∨ k = 2 ∨ k = 3 ∨ k = 4 ∨ k = 5) with rfl | rfl | rfl | rfl | rfl | rfl <;>
  rcases (by omega : j = 0 ∨ j = 1 ∨ j = 2 ∨ j = 3 ∨ j = 4 ∨ j = 5) with rfl | rfl | rfl | rfl | rfl | rfl <;> rfl
def in16 (now : Nat → List UInt8) (b k : Nat) : Nat := if b = 0 then 0 else w16 (now b) k
theorem in16_zero (now : Nat → List UInt8) (k : Nat) : in16 now 0 k = 0 := rfl
inductive Pos where
 | top (k : Nat)
 | one (j : Nat)
 | two (j : Nat)
 | thr (j k : Nat)
 deriving DecidableEq
def Pos.ok : Pos → Prop
 | .top k => k < 6
 | .one j => j < 64
 | .two j => j < 64
 | .thr j k => j < 64 ∧ k < 64
def slot (now : Nat → List UInt8) (D : DinM) : Pos → Nat
 | .top k => D.top k
 | .one j => in16 now (D.top 4) j
 | .two j => in16 now (D.top 5) j
 | .thr j k => in16 now (in16 now (D.top 5) j) k
def Pos.fan : Pos → Prop
 | .top k => 4 ≤ k
 | .two _ => True
 | _ => False
def FanOk (l : List UInt8) : Prop := l.length = 128 ∧ ∀ k, k < 64 → w16 l k < 2048
theorem FanOk.zero : FanOk zB128 := ⟨zB128_len, fun k _ => by rw [w16_zero]; decide⟩
structure TreeOk (now : Nat → List UInt8) (D : DinM) (al : Nat → Prop) : Prop where
 inj : ∀ p q, Pos.ok p → Pos.ok q → slot now D p ≠ 0 → slot now D p = slot now D q → p = q
 alc : ∀ p, Pos.ok p → slot now D p ≠ 0 → al (slot now D p)
 fan : ∀ p, Pos.ok p → p.fan → slot now D p ≠ 0 → FanOk (now (slot now D p))
section
variable {now now' : Nat → List UInt8} {D : DinM} {al : Nat → Prop}
theorem in16_same {b k : Nat} (h : b ≠ 0 → now' b = now b) : in16 now' b k = in16 now b k := by
 unfold in16
 by_cases e : b = 0
 ·rw [if_pos e, if_pos e]
 ·rw [if_neg e, if_neg e, h e]
theorem in16_new {b k : Nat} (h : now' b = zB128) : in16 now' b k = 0 := by
 unfold in16
 rw [h, w16_zero]; split <;> rfl
theorem in16_over {t j b k : Nat} (ht : t ≠ 0) (hl : (now t).length = 128) (hj : j < 64) (hb : b < 65536) (h : now' t = overlay (now t) (2 * j) (adr2 b)) : in16 now' t k = if k = j then b else in16 now t k := by
 unfold in16
 rw [if_neg ht, if_neg ht, h, w16_over hl hj hb]
theorem slot_same (h : TreeOk now D al) (hs : ∀ x, al x → now' x = now x) : ∀ q, q.ok → slot now' D q = slot now D q := by
 have hE1 : D.top 4 ≠ 0 → now' (D.top 4) = now (D.top 4) := fun e => hs _ (h.alc (.top 4) (show 4 < 6 by decide) e)
 have hE2 : D.top 5 ≠ 0 → now' (D.top 5) = now (D.top 5) := fun e => hs _ (h.alc (.top 5) (show 5 < 6 by decide) e)
 intro q hq
 cases q with
 | top k => rfl
 | one j => exact in16_same hE1
 | two j => exact in16_same hE2
 | thr j k =>
  show in16 now' (in16 now' (D.top 5) j) k = in16 now (in16 now (D.top 5) j) k
  rw [in16_same hE2]
  exact in16_same fun e => hs _ (h.alc (.two j) hq.1 e)
theorem TreeOk.same (h : TreeOk now D al) {al' : Nat → Prop} (hs : ∀ x, al x → now' x = now x) (ha : ∀ x, al x → al' x) : TreeOk now' D al' where
 inj p q hp hq h0 he := by rw [slot_same h hs p hp] at h0 he; rw [slot_same h hs q hq] at he; exact h.inj p q hp hq h0 he
 alc p hp h0 := by rw [slot_same h hs p hp] at h0 ⊢; exact ha _ (h.alc p hp h0)
 fan p hp hf h0 := by rw [slot_same h hs p hp] at h0 ⊢; rw [hs _ (h.alc p hp h0)]; exact h.fan p hp hf h0
theorem tree_new {D' : DinM} {al' : Nat → Prop} {p0 : Pos} {b : Nat} (h : TreeOk now D al) (hb0 : b ≠ 0) (hbn : ¬ al b) (hz : now' b = zB128) (ha : ∀ x, al x → al' x) (hab : al' b)
  (hs : ∀ q, q.ok → slot now' D' q = if q = p0 then b else slot now D q)
  (hf : ∀ q, q.ok → q.fan → q ≠ p0 → slot now D q ≠ 0 → FanOk (now' (slot now D q))) : TreeOk now' D' al' where
 inj p q hp hq h0 he := by
  rw [hs p hp] at h0 he
  rw [hs q hq] at he
  by_cases e1 : p = p0
  ·rw [if_pos e1] at h0 he
   by_cases e2 : q = p0
   ·rw [e1, e2]
   ·rw [if_neg e2] at he
    exact absurd (he ▸ h.alc q hq (he ▸ hb0)) hbn
  ·rw [if_neg e1] at h0 he
   by_cases e2 : q = p0
   ·rw [if_pos e2] at he
    exact absurd (he ▸ h.alc p hp h0) hbn
   ·rw [if_neg e2] at he
    exact h.inj p q hp hq h0 he
 alc p hp h0 := by
  rw [hs p hp] at h0 ⊢
  by_cases e : p = p0
  ·rw [if_pos e]; exact hab
  ·rw [if_neg e] at h0 ⊢; exact ha _ (h.alc p hp h0)
 fan p hp hfn h0 := by
  rw [hs p hp] at h0 ⊢
  by_cases e : p = p0
  ·rw [if_pos e, hz]; exact FanOk.zero
  ·rw [if_neg e] at h0 ⊢; exact hf p hp hfn e h0
theorem link_top (h : TreeOk now D al) {k b : Nat} (hk : k < 6) (h0 : D.top k = 0) (hb0 : b ≠ 0) (hz : now' b = zB128) (hs : ∀ x, al x → now' x = now x) :
  ∀ q, q.ok → slot now' (D.put k b) q = if q = Pos.top k then b else slot now D q := by
 have hE : ∀ m, 4 ≤ m → m < 6 → ∀ j, in16 now' ((D.put k b).top m) j = in16 now (D.top m) j := fun m h4 h6 j => by
  rw [DinM.top_put D b hk h6]
  by_cases e : m = k
  ·subst e; rw [if_pos rfl, in16_new hz, h0, in16_zero]
  ·rw [if_neg e]; exact in16_same fun e2 => hs _ (h.alc (.top m) h6 e2)
 intro q hq
 cases q with
 | top j =>
  show (D.put k b).top j = _
  rw [DinM.top_put D b hk hq]
  by_cases e : j = k
  ·rw [if_pos e, if_pos (by rw [e])]
  ·rw [if_neg e, if_neg (fun e2 => e (by cases e2; rfl))]; rfl
 | one j => rw [if_neg (fun e => by cases e)]; exact hE 4 (by decide) (by decide) j
 | two j => rw [if_neg (fun e => by cases e)]; exact hE 5 (by decide) (by decide) j
 | thr j j2 =>
  rw [if_neg (fun e => by cases e)]
  show in16 now' (in16 now' ((D.put k b).top 5) j) j2 = in16 now (in16 now (D.top 5) j) j2
  rw [hE 5 (by decide) (by decide) j]
  exact in16_same fun e => hs _ (h.alc (.two j) hq.1 e)
def Pos.par : Pos → Pos
 | .one _ => .top 4
 | .two _ => .top 5
 | .thr j _ => .two j
 | p => p
def Pos.ix : Pos → Nat
 | .one j => j
 | .two j => j
 | .thr _ k => k
 | .top k => k
def Pos.inner : Pos → Prop
 | .top _ => False
 | _ => True
theorem Pos.par_fan {p : Pos} (h : p.inner) : p.par.fan := by
 cases p <;> first | exact h.elim | exact Nat.le_refl 4 | exact (show 4 ≤ 5 by decide) | trivial
theorem Pos.par_ok {p : Pos} (h : p.ok) (hi : p.inner) : p.par.ok := by
 cases p <;> first | exact hi.elim | exact (show 4 < 6 by decide) | exact (show 5 < 6 by decide) | exact h.1
theorem Pos.ix_lt {p : Pos} (h : p.ok) (hi : p.inner) : p.ix < 64 := by
 cases p <;> first | exact hi.elim | exact h | exact h.2
theorem slot_par (p : Pos) (hi : p.inner) : slot now D p = in16 now (slot now D p.par) p.ix := by
 cases p <;> first | exact hi.elim | rfl
theorem link_in (h : TreeOk now D al) {p : Pos} {b : Nat} (hp : p.ok) (hi : p.inner) (h0 : slot now D p = 0) (ht : slot now D p.par ≠ 0) (hb0 : b ≠ 0) (hb : b < 2048) (hz : now' b = zB128)
  (ho : now' (slot now D p.par) = overlay (now (slot now D p.par)) (2 * p.ix) (adr2 b)) (hs : ∀ x, al x → x ≠ slot now D p.par → now' x = now x) :
  ∀ q, q.ok → slot now' D q = if q = p then b else slot now D q := by
 have hix := Pos.ix_lt hp hi
 have hln := (h.fan _ (Pos.par_ok hp hi) (Pos.par_fan hi) ht).1
 -- at an indirect block that stood there
 have key : ∀ r : Pos, r.ok → r ≠ p.par → ∀ k, in16 now' (slot now D r) k = in16 now (slot now D r) k := fun r hr hne k =>
  in16_same fun e => hs _ (h.alc r hr e) fun e2 => hne (h.inj r p.par hr (Pos.par_ok hp hi) e e2)
 have keyt : ∀ k, in16 now' (slot now D p.par) k = if k = p.ix then b else in16 now (slot now D p.par) k := fun k => in16_over ht hln hix (by omega) ho
 have all1 : ∀ r : Pos, r.ok → ∀ k, in16 now' (slot now D r) k = if r = p.par ∧ k = p.ix then b else in16 now (slot now D r) k := fun r hr k => by
  by_cases e : r = p.par
  ·rw [e, keyt]
   by_cases e2 : k = p.ix
   ·rw [if_pos e2, if_pos ⟨rfl, e2⟩]
   ·rw [if_neg e2, if_neg (fun h => e2 h.2)]
  ·rw [key r hr e, if_neg (fun h => e h.1)]
 intro q hq
 cases q with
 | top j => rw [if_neg (fun e => by rw [← e] at hi; exact hi)]; rfl
 | one j =>
  show in16 now' (slot now D (.top 4)) j = _
  rw [all1 (.top 4) (show 4 < 6 by decide)]
  by_cases e : Pos.one j = p
  ·rw [if_pos e]; subst e; rw [if_pos ⟨rfl, rfl⟩]
  ·rw [if_neg e, if_neg (fun hh => e (by cases p <;> first | exact hi.elim | (obtain ⟨h1, h2⟩ := hh; simp [Pos.par, Pos.ix] at h1 h2; try rw [h2]) | skip))]; rfl
 | two j =>
  show in16 now' (slot now D (.top 5)) j = _
  rw [all1 (.top 5) (show 5 < 6 by decide)]
  by_cases e : Pos.two j = p
  ·rw [if_pos e]; subst e; rw [if_pos ⟨rfl, rfl⟩]
  ·rw [if_neg e, if_neg (fun hh => e (by cases p <;> first | exact hi.elim | (obtain ⟨h1, h2⟩ := hh; simp [Pos.par, Pos.ix] at h1 h2; try rw [h2]) | skip))]; rfl
 | thr j k =>
  show in16 now' (in16 now' (slot now D (.top 5)) j) k = _
  rw [all1 (.top 5) (show 5 < 6 by decide)]
  by_cases e : Pos.top 5 = p.par ∧ j = p.ix
  ·-- its indirect block is the new one
   have e3 : p = .two j := by cases p <;> first | exact hi.elim | (obtain ⟨h1, h2⟩ := e; simp [Pos.par, Pos.ix] at h1 h2; try rw [h2]) | skip
   rw [if_pos e, in16_new hz, if_neg (fun e2 => by rw [e3] at e2; cases e2)]
   show 0 = in16 now (slot now D (.two j)) k
   rw [← e3, h0, in16_zero]
  ·rw [if_neg e]
   show in16 now' (slot now D (.two j)) k = _
   rw [all1 (.two j) hq.1]
   by_cases e2 : Pos.thr j k = p
   ·rw [if_pos e2]; subst e2; rw [if_pos ⟨rfl, rfl⟩]
   ·rw [if_neg e2, if_neg (fun hh => e2 (by cases p <;> first | exact hi.elim | (obtain ⟨h1, h2⟩ := hh; simp [Pos.par, Pos.ix] at h1 h2; try rw [h1, h2]) | skip))]; rfl
theorem tree_in {al' : Nat → Prop} (h : TreeOk now D al) {p : Pos} {b : Nat} (hp : p.ok) (hi : p.inner) (h0 : slot now D p = 0) (ht : slot now D p.par ≠ 0) (hb0 : b ≠ 0) (hb : b < 2048) (hbn : ¬ al b) (hz : now' b = zB128) (ha : ∀ x, al x → al' x) (hab : al' b)
  (ho : now' (slot now D p.par) = overlay (now (slot now D p.par)) (2 * p.ix) (adr2 b)) (hs : ∀ x, al x → x ≠ slot now D p.par → now' x = now x) : TreeOk now' D al' :=
 tree_new (p0 := p) h hb0 hbn hz ha hab (link_in h hp hi h0 ht hb0 hb hz ho hs) fun q hq hf hne h1 => by
  by_cases e : slot now D q = slot now D p.par
  ·have hF := h.fan _ (Pos.par_ok hp hi) (Pos.par_fan hi) ht
   rw [e, ho]
   refine ⟨by rw [overlay_len (by show 2 * p.ix + 2 ≤ _; rw [hF.1]; have := Pos.ix_lt hp hi; omega)]; exact hF.1, fun k hk => ?_⟩
   rw [w16_over hF.1 (Pos.ix_lt hp hi) (by omega)]
   split
   ·exact hb
   ·exact hF.2 k hk
  ·rw [hs _ (h.alc q hq h1) e]; exact h.fan q hq hf h1
theorem tree_top {al' : Nat → Prop} (h : TreeOk now D al) {k b : Nat} (hk : k < 6) (h0 : D.top k = 0) (hb0 : b ≠ 0) (hbn : ¬ al b) (hz : now' b = zB128) (ha : ∀ x, al x → al' x) (hab : al' b) (hs : ∀ x, al x → now' x = now x) : TreeOk now' (D.put k b) al' :=
 tree_new (p0 := .top k) h hb0 hbn hz ha hab (link_top h hk h0 hb0 hz hs) fun q hq hf hne h1 => by rw [hs _ (h.alc q hq h1)]; exact h.fan q hq hf h1
def leafP (i : Nat) : Pos := if i < 4 then .top i else if i < 68 then .one (i - 4) else .thr ((i - 68) / 64) ((i - 68) % 64)
theorem leafP_ok {i : Nat} (h : i < 4164) : (leafP i).ok := by
 unfold leafP
 split
 ·show i < 6; omega
 ·split
  ·show i - 4 < 64; omega
  ·exact ⟨by omega, by omega⟩
def belowM (now : Nat → List UInt8) : Nat → Nat → List Nat
 | 0, b => if b = 0 then [] else [b]
 | d + 1, b => if b = 0 then [] else b :: (List.range 64).flatMap fun k => belowM now d (w16 (now b) k)
def spanM (now : Nat → List UInt8) (D : DinM) : List Nat := (List.range 6).flatMap fun k => belowM now (k - 3) (D.top k)
theorem mem_below0 {b x : Nat} : x ∈ belowM now 0 b ↔ x = b ∧ x ≠ 0 := by
 unfold belowM
 by_cases e : b = 0
 ·rw [if_pos e]; simp; omega
 ·rw [if_neg e]; simp; omega
theorem mem_belowS {d b x : Nat} : x ∈ belowM now (d + 1) b ↔ b ≠ 0 ∧ (x = b ∨ ∃ k, k < 64 ∧ x ∈ belowM now d (w16 (now b) k)) := by
 rw [belowM]
 by_cases e : b = 0
 ·rw [if_pos e]; simp [e]
 ·rw [if_neg e]; simp [e]
theorem mem_span {x : Nat} : x ∈ spanM now D ↔ x ≠ 0 ∧ ∃ p, Pos.ok p ∧ slot now D p = x := by
 unfold spanM
 rw [List.mem_flatMap]
 constructor
 ·rintro ⟨k, hk, hx⟩
  rw [List.mem_range] at hk
  by_cases h4 : k < 4
  ·rw [show k - 3 = 0 by omega, mem_below0] at hx
   exact ⟨hx.2, .top k, hk, hx.1.symm⟩
  ·by_cases h5 : k = 4
   ·subst h5
    rw [show 4 - 3 = 0 + 1 from rfl, mem_belowS] at hx
    obtain ⟨h0, rfl | ⟨j, hj, h2⟩⟩ := hx
    ·exact ⟨h0, .top 4, (by decide : 4 < 6), rfl⟩
    ·rw [mem_below0] at h2
     exact ⟨h2.2, .one j, hj, by show in16 now (D.top 4) j = _; unfold in16; rw [if_neg h0]; exact h2.1.symm⟩
   ·obtain rfl : k = 5 := by omega
    rw [show 5 - 3 = 1 + 1 from rfl, mem_belowS] at hx
    obtain ⟨h0, rfl | ⟨j, hj, h2⟩⟩ := hx
    ·exact ⟨h0, .top 5, (by decide : 5 < 6), rfl⟩
    ·have e : in16 now (D.top 5) j = w16 (now (D.top 5)) j := by unfold in16; rw [if_neg h0]
     rw [show (1 : Nat) = 0 + 1 from rfl, mem_belowS, ← e] at h2
     obtain ⟨h3, rfl | ⟨i, hi, h4⟩⟩ := h2
     ·exact ⟨h3, .two j, hj, rfl⟩
     ·rw [mem_below0] at h4
      exact ⟨h4.2, .thr j i, ⟨hj, hi⟩, by show in16 now (in16 now (D.top 5) j) i = _; unfold in16 at h3 h4 ⊢; rw [if_neg h3]; exact h4.1.symm⟩
 ·rintro ⟨h0, p, hp, rfl⟩
  have nz : ∀ {b k : Nat}, in16 now b k ≠ 0 → b ≠ 0 ∧ in16 now b k = w16 (now b) k := fun {b k} h => by
   unfold in16 at h ⊢
   by_cases e : b = 0
   ·rw [if_pos e] at h; exact absurd rfl h
   ·exact ⟨e, if_neg e⟩
  cases p with
  | top k =>
   refine ⟨k, List.mem_range.2 hp, ?_⟩
   by_cases h4 : k < 4
   ·rw [show k - 3 = 0 by omega, mem_below0]; exact ⟨rfl, h0⟩
   ·obtain ⟨d, hd⟩ : ∃ d, k - 3 = d + 1 := ⟨k - 4, by omega⟩
    rw [hd, mem_belowS]; exact ⟨h0, .inl rfl⟩
  | one j =>
   obtain ⟨h1, h2⟩ := nz h0
   refine ⟨4, List.mem_range.2 (by decide), ?_⟩
   rw [show 4 - 3 = 0 + 1 from rfl, mem_belowS]
   exact ⟨h1, .inr ⟨j, hp, by rw [mem_below0]; exact ⟨h2, h0⟩⟩⟩
  | two j =>
   obtain ⟨h1, h2⟩ := nz h0
   refine ⟨5, List.mem_range.2 (by decide), ?_⟩
   rw [show 5 - 3 = 1 + 1 from rfl, mem_belowS]
   refine ⟨h1, .inr ⟨j, hp, ?_⟩⟩
   rw [show (1 : Nat) = 0 + 1 from rfl, mem_belowS]
   exact ⟨by rw [← h2]; exact h0, .inl h2⟩
  | thr j k =>
   obtain ⟨h3, h4⟩ := nz h0
   obtain ⟨h1, h2⟩ := nz h3
   refine ⟨5, List.mem_range.2 (by decide), ?_⟩
   rw [show 5 - 3 = 1 + 1 from rfl, mem_belowS]
   refine ⟨h1, .inr ⟨j, hp.1, ?_⟩⟩
   rw [show (1 : Nat) = 0 + 1 from rfl, mem_belowS, ← h2]
   exact ⟨h3, .inr ⟨k, hp.2, by rw [mem_below0]; exact ⟨h4, h0⟩⟩⟩
end
def zB32b : List UInt8 := List.replicate 32 0
def dinB (D : DinM) : List UInt8 := if D.m = 0 then zB32b else dinL D.m D.l D.z D.d0 D.d1 D.d2 D.d3 D.e1 D.e2
def DinM.ok (D : DinM) : Prop := D = ⟨0, 0, 0, 0, 0, 0, 0, 0, 0⟩ ∨ DinOk D.m D.l D.z D.d0 D.d1 D.d2 D.d3 D.e1 D.e2
theorem dinB_len (D : DinM) : (dinB D).length = 32 := by unfold dinB; split; exact List.length_replicate; exact dinL_len _ _ _ _ _ _ _ _ _
theorem cut_over {l x : List UInt8} {p q : Nat} (hl : l.length = 128) (hx : x.length = 32) (hp : p + 32 ≤ 128) (hq : q + 32 ≤ 128) (hpq : p = q ∨ p + 32 ≤ q ∨ q + 32 ≤ p) : ((overlay l p x).drop q).take 32 = if p = q then x else (l.drop q).take 32 := by
 apply List.ext_getElem?
 intro j
 rw [List.getElem?_take]
 by_cases hj : j < 32
 ·rw [if_pos hj, List.getElem?_drop, overlay_get (by rw [hx, hl]; exact hp), hx]
  by_cases e : p = q
  ·subst e; rw [if_pos ⟨by omega, by omega⟩, if_pos rfl, Nat.add_sub_cancel_left]
  ·rw [if_neg (by omega), if_neg e, List.getElem?_take, if_pos hj, List.getElem?_drop]
 ·rw [if_neg hj]
  split
  ·rw [List.getElem?_eq_none (by omega)]
  ·rw [List.getElem?_take, if_neg hj]
theorem c_ldecDin0 {xa : Option Addr} (xc : Nat) {l : List UInt8} {τx : Nat} {s : TH} (hx : Sl s xa (bvs l) τx) (hn : l.length = 32) (h0 : ∀ b ∈ l, b = 0) : TRet Tryz.prog 24 #[.slice xa 32 xc] s fun v s' => v = .tuple #[.agg #[.int .i64 0, .int .i64 0, .int .i64 0, .int .i64 0, .int .i64 0, .int .i64 0, .int .i64 0, .int .i64 0, .int .i64 0], .int .i64 0] ∧ Ch [] s s' := by
 obtain ⟨M, hM, hM0, hMa, hMb, hMc, hMd, hMe, hMf⟩ := fresh6 s τx 0 0 0 0 0
 refine F24_calls _ _ _  ?_
 unfold F24
 refine al_t (M + 1) fun r1 s2 W J z X => ?_
 refine sB_f (by rfl) ?_
 have K := hx.mv z (tagn (by simp))
 refine tcall (c_lzero (xn := 32) xc K hn (by omega)) ?_
 rintro Y Z ⟨L, rfl, c, d⟩
 have aa := c.size
 obtain rfl := d.2 h0
 refine dBl_i (sB_t (by rfl) ?_)
 have e := J.ch c (by simp)
 refine st_t e rfl (by simp) fun ab f o N => ?_
 have A := on_ch e o
 refine st_t f rfl (by simp) fun ac g p O => ?_
 have B := on_ch f p
 refine st_t g rfl (by simp) fun ad h q P => ?_
 have C := on_ch g q
 refine st_t h rfl (by simp) fun ae i r Q => ?_
 have D := on_ch h r
 refine st_t i rfl (by simp) fun af j t R => ?_
 have E := on_ch i t
 refine st_t j rfl (by simp) fun ag k u S => ?_
 have F := on_ch j u
 refine st_t k rfl (by simp) fun ah m w T => ?_
 have G := on_ch k w
 refine st_t m rfl (by simp) fun ai n x U => ?_
 have H := on_ch m x
 refine st_t n rfl (by simp) fun aj a y V => ?_
 have I := on_ch n y
 refine ld_t a rfl (ld_t a rfl (ld_t a rfl (ld_t a rfl (ld_t a rfl (ld_t a rfl (ld_t a rfl (ld_t a rfl ?_)))))))
 refine ld_t a rfl ?_
 refine ret_t ?_
 exact ⟨rfl, ((((((((((((Ch.refl [] s).ch z (by simp)).ch c (by simp)).fr A hM (by simp)).fr B hM (by simp)).fr C hM (by simp)).fr D hM (by simp)).fr E hM (by simp)).fr F hM (by simp)).fr G hM (by simp)).fr H hM (by simp)).fr I hM (by simp))⟩
theorem dinB_ok {m l z d0 d1 d2 d3 e1 e2 : Nat} (h : DinOk m l z d0 d1 d2 d3 e1 e2) : dinB ⟨m, l, z, d0, d1, d2, d3, e1, e2⟩ = (dinL m l z d0 d1 d2 d3 e1 e2) := by
 have h2 := h
 unfold DinOk at h2
 unfold dinB
 exact if_neg (by show m ≠ 0; omega)
theorem zB32b_zero : ∀ b ∈ zB32b, b = 0 := fun b hb => (List.mem_replicate.1 hb).2
theorem c_ldecDin (m l z d0 d1 d2 d3 e1 e2 : Nat) {xa : Option Addr} (xc : Nat) {τx : Nat} {s : TH} (hx : Sl s xa (bvs (dinB ⟨m, l, z, d0, d1, d2, d3, e1, e2⟩)) τx) (hne : xa ≠ none) (hc : 32 ≤ xc) (hD : DinM.ok ⟨m, l, z, d0, d1, d2, d3, e1, e2⟩) : TRet Tryz.prog 24 #[.slice xa 32 xc] s (fun v s' => v = .tuple #[.agg #[.int .i64 (m : Int), .int .i64 (l : Int), .int .i64 (z : Int), .int .i64 (d0 : Int), .int .i64 (d1 : Int), .int .i64 (d2 : Int), .int .i64 (d3 : Int), .int .i64 (e1 : Int), .int .i64 (e2 : Int)], .int .i64 0] ∧ Ch [] s s') := by
 rcases hD with hD | hD
 ·injection hD with e0 e1 e2 e3 e4 e5 e6 e7 e8
  subst e0 e1 e2 e3 e4 e5 e6 e7 e8
  exact c_ldecDin0 xc hx List.length_replicate zB32b_zero
 ·rw [dinB_ok hD] at hx
  exact c_ldecDinV m l z d0 d1 d2 d3 e1 e2 xc hx hne hc hD
theorem c_lencDinB (τ m l z d0 d1 d2 d3 e1 e2 : Nat) (s : TH) (hD : DinM.ok ⟨m, l, z, d0, d1, d2, d3, e1, e2⟩) : TRet Tryz.prog 25 #[.agg #[.int .i64 (m : Int), .int .i64 (l : Int), .int .i64 (z : Int), .int .i64 (d0 : Int), .int .i64 (d1 : Int), .int .i64 (d2 : Int), .int .i64 (d3 : Int), .int .i64 (e1 : Int), .int .i64 (e2 : Int)]] s (fun v s' => ∃ a' c', v = .tuple #[.slice a' 32 c', .int .i64 0] ∧ Ch [] s s' ∧ Own s' a' 32 c' 5 1 (bvs (dinB ⟨m, l, z, d0, d1, d2, d3, e1, e2⟩)) τ) := by
 rcases hD with hD | hD
 ·injection hD with e0 e1 e2 e3 e4 e5 e6 e7 e8
  subst e0 e1 e2 e3 e4 e5 e6 e7 e8
  exact c_lencDin0 τ s
 ·rw [dinB_ok hD]
  exact c_lencDin τ m l z d0 d1 d2 d3 e1 e2 s hD
def ibN (B N i : Nat) : Nat := i / N * B + (2 + i % N / 4)
def iaN (N i : Nat) : Nat := i % N % 4 * 32
theorem ib_eq (B N i : Nat) : (i : Int) / (N : Int) * (B : Int) + (2 + (i : Int) % (N : Int) / 4) = ((ibN B N i : Nat) : Int) := by
 unfold ibN
 rw [Int.natCast_add, Int.natCast_mul, Int.natCast_ediv, Int.natCast_add, Int.natCast_ediv, Int.natCast_emod]; rfl
theorem ia_eq (N i : Nat) : (i : Int) % (N : Int) % 4 * 32 = ((iaN N i : Nat) : Int) := by
 unfold iaN
 rw [Int.natCast_mul, Int.natCast_emod, Int.natCast_emod]; rfl
theorem ia_le (N i : Nat) : iaN N i + 32 ≤ 128 := by unfold iaN; have := Nat.mod_lt (i % N) (show 0 < 4 by decide); omega
theorem ib_lt {G B N i : Nat} (hg : GeoOk G B N) (hi : i < G * N) : i / N < G ∧ 2 + i % N / 4 < 2 + N / 4 ∧ ibN B N i < G * B := by
 unfold GeoOk at hg
 have h1 : i / N < G := Nat.div_lt_of_lt_mul (by rw [Nat.mul_comm]; exact hi)
 have h2 : i % N < N := Nat.mod_lt _ (by omega)
 have h3 : (i / N + 1) * B ≤ G * B := Nat.mul_le_mul_right B h1
 rw [Nat.succ_mul] at h3
 unfold ibN
 omega
theorem has_ib {V : VolM} {G B N i : Nat} (hg : GeoOk G B N) (hl : V.D.blocks.length = G * B) (hi : i < G * N) : V.D.has ((ibN B N i : Nat) : Int) := by
 have := (ib_lt hg hi).2.2
 unfold DiskM.has
 rw [hl]; omega
theorem cut_none {s : TH} {xa : Option Addr} {l : List UInt8} {τ : Nat} (h : Sl s xa (bvs l) τ) (p c : Nat) (hp : p < l.length) (hpc : c ≠ p) {Q : Prop} (e : slO xa 1 (p : Int) (c : Int) = none) : Q := by
 obtain ⟨g, o, e2, h2⟩ := sl_cutB h p c hp hpc
 rw [e2] at e; cases e
theorem c_ifine (vp d U : Nat) (V : VolM) (G B N : Nat) (s : TH) (hv : VolL s vp d U V 0) (hU : 10 ≤ U) (hg : GeoOk G B N) (hl : V.D.blocks.length = G * B) (hvn : V.n < 1000000000000) : TRet Tryz.prog 39 #[.pointer (some ⟨vp, 0, none⟩), .agg #[.int .i64 (G : Int), .int .i64 (B : Int), .int .i64 (N : Int)]] s fun v s' => v = .int .i64 0 ∧ Ch [U] s s' ∧ VolL s' vp d U V 0 := by
 have hcan := hg.can
 have hg2 := hg
 unfold GeoOk at hg2
 have hgb := hg.gb
 have hgbI : (G : Int) * (B : Int) = ((G * B : Nat) : Int) := (Int.natCast_mul G B).symm
 have hgnI : (G : Int) * (N : Int) = ((G * N : Nat) : Int) := (Int.natCast_mul G N).symm
 obtain ⟨M, hM, hM0, hMa, hMb, hMc, hMd, hMe, hMf⟩ := fresh6 s (U + 50) 0 0 0 0 0
 refine F39_calls _ _ _ _  ?_
 unfold F39
 refine al_t (M + 1) fun r1 s2 H r k I => ?_
 have t := hv.mv k (rngn50 (by simp))
 refine tcall (c_VBlocks2 _ _ _ _ _ (by omega) t) ?_
 rintro J K ⟨rfl, h, i⟩
 have L := h.size
 refine dInt_i ?_
 refine sB_d (fun l => by exfalso; omega) (fun l => ?_)
 refine jn_u ?_
 have a := r.ch h (by simp <;> omega)
 refine ld_t a rfl (ld_t a rfl (ld_t a rfl ?_))
 refine tcall (gc_can (G : Int) (B : Int) (N : Int) _) ?_
 rintro u w ⟨rfl, b⟩
 have x := b.size
 rw [if_pos hcan]
 refine dInt_i (sB_f (by rfl) ?_)
 have c := a.ch b (by simp)
 refine ld_t c rfl (ld_t c rfl (ld_t c rfl ?_))
 have m := i.mv b (rngn50 (by simp))
 refine tcall (c_VBlocks2 _ _ _ _ _ (by omega) m) ?_
 rintro y z ⟨rfl, e, j⟩
 have A := e.size
 refine dInt_i ?_
 refine ⟨?_, ?_⟩
 ·
  have f := c.ch e (by simp <;> omega)
  refine ld_t f rfl (ld_t f rfl (ld_t f rfl ?_))
  rfl
 ·
  refine tcall (gc_blocks (G : Int) (B : Int) (N : Int) hcan _) ?_
  rintro C E ⟨rfl, g⟩
  have F := g.size
  refine dInt_i ?_
  intro _
  intros
  refine dBl_i ?_
  refine sB_d (fun o => by exfalso; omega) (fun o => ?_)
  refine ret_t ?_
  have p := ((((k.app h).app b).app e).app g)
  have q := j.mv g (rngn50 (by simp))
  exact ⟨rfl, ((Ch.refl [U] s).ch p (by simp)), q⟩
theorem c_iplace (vp d U : Nat) (V : VolM) (G B N : Nat) (i : Nat) (s : TH) (hv : VolL s vp d U V 0) (hU : 10 ≤ U) (hg : GeoOk G B N) (hl : V.D.blocks.length = G * B) (hvn : V.n < 1000000000000) (hi : i < G * N) : TRet Tryz.prog 22 #[.pointer (some ⟨vp, 0, none⟩), .agg #[.int .i64 (G : Int), .int .i64 (B : Int), .int .i64 (N : Int)], .int .i64 (i : Int)] s fun v s' => v = .tuple #[.int .i64 (ibN B N i : Int), .int .i64 (iaN N i : Int), .int .i64 0] ∧ Ch [U] s s' ∧ VolL s' vp d U V 0 := by
 have hcan := hg.can
 have hg2 := hg
 unfold GeoOk at hg2
 have hgb := hg.gb
 have hgbI : (G : Int) * (B : Int) = ((G * B : Nat) : Int) := (Int.natCast_mul G B).symm
 have hgnI : (G : Int) * (N : Int) = ((G * N : Nat) : Int) := (Int.natCast_mul G N).symm
 obtain ⟨M, hM, hM0, hMa, hMb, hMc, hMd, hMe, hMf⟩ := fresh6 s (U + 50) 0 0 0 0 0
 refine F22_calls _ _ _ _ _  ?_
 unfold F22
 refine al_t (M + 1) fun r1 s2 p c g q => ?_
 refine ld_t c rfl (ld_t c rfl (ld_t c rfl ?_))
 have k := hv.mv g (rngn50 (by simp))
 refine tcall (c_ifine vp d U V G B N _ k hU hg hl hvn) ?_
 rintro r t ⟨rfl, e, f⟩
 have u := e.size
 refine dInt_i (sB_f (by rfl) ?_)
 have a := c.ch e (by simp <;> omega)
 refine ld_t a rfl (ld_t a rfl (ld_t a rfl ?_))
 refine tcall (gc_inode (G : Int) (B : Int) (N : Int) (i : Int) hcan (by rw [hgnI]; omega) _) ?_
 rintro l m ⟨rfl, b⟩
 have o := b.size
 rw [ib_eq, ia_eq]
 refine dT3 (dInt_i (dInt_i (dBl_i (sB_f (by rfl) ?_))))
 refine ret_t ?_
 have h := ((g.app e).app b)
 have j := f.mv b (rngn50 (by simp))
 exact ⟨rfl, ((Ch.refl [U] s).ch h (by simp)), j⟩
theorem c_iget (vp d U : Nat) (V : VolM) (G B N : Nat) (i : Nat) (m l z d0 d1 d2 d3 e1 e2 : Nat) (s : TH) (hv : VolL s vp d U V 0) (hU : 10 ≤ U) (hg : GeoOk G B N) (hl : V.D.blocks.length = G * B) (hvn : V.n < 1000000000000) (hi : i < G * N) (hD : DinM.ok ⟨m, l, z, d0, d1, d2, d3, e1, e2⟩) (hnow : ((V.now (ibN B N i : Int)).drop (iaN N i)).take 32 = dinB ⟨m, l, z, d0, d1, d2, d3, e1, e2⟩) : TRet Tryz.prog 8 #[.pointer (some ⟨vp, 0, none⟩), .agg #[.int .i64 (G : Int), .int .i64 (B : Int), .int .i64 (N : Int)], .int .i64 (i : Int)] s fun v s' => v = .tuple #[.agg #[.int .i64 (m : Int), .int .i64 (l : Int), .int .i64 (z : Int), .int .i64 (d0 : Int), .int .i64 (d1 : Int), .int .i64 (d2 : Int), .int .i64 (d3 : Int), .int .i64 (e1 : Int), .int .i64 (e2 : Int)], .int .i64 0] ∧ Ch [U, U + 20, U + 21, U + 22, U + 23] s s' ∧ VolL s' vp d U V.tick 0 := by
 have hcan := hg.can
 have hg2 := hg
 unfold GeoOk at hg2
 have hgb := hg.gb
 have hgbI : (G : Int) * (B : Int) = ((G * B : Nat) : Int) := (Int.natCast_mul G B).symm
 have hgnI : (G : Int) * (N : Int) = ((G * N : Nat) : Int) := (Int.natCast_mul G N).symm
 have hhas := has_ib hg hl hi
 have hal := ia_le N i
 obtain ⟨M, hM, hM0, hMa, hMb, hMc, hMd, hMe, hMf⟩ := fresh6 s (U + 50) 0 0 0 0 0
 refine F8_calls _ _ _ _ _  ?_
 unfold F8
 refine al_t (M + 1) fun r1 s2 aD ag ab aE => ?_
 refine al_t (M + 2) fun r3 s4 aF ah j aG => ?_
 have k := ag.ch j (by simp)
 refine ld_t k rfl (ld_t k rfl (ld_t k rfl ?_))
 have ai := hv.mv (ab.app j) (rngn50 (by simp))
 refine tcall (c_iplace vp d U V G B N i _ ai hU hg hl hvn hi) ?_
 rintro ak aH ⟨rfl, g, o⟩
 have al := g.size
 refine dT3 (dInt_i (dInt_i (dInt_i (sB_f (by rfl) ?_))))
 refine tcall (c_VRead _ _ _ _ (M + 10) _ _ (by omega) o (by omega) hhas (by omega)) ?_
 rintro am an ⟨aj, f, rfl, h, b, p⟩
 have ao := h.size
 have hln : (V.now (ibN B N i : Int)).length = 128 := by have := (b).1; rw [bvs_len] at this; exact this
 have hcc := (b).le
 have hcut := sl_cutT (b).sl (iaN N i) f 32 (by omega) (by omega)
 rw [hnow] at hcut
 refine dT2 (dSl_i (dInt_i (sB_f (by rfl) (wr_t (by omega) (ask_t (by omega) ?_)))))
 rw [show Int.toNat ((iaN N i : Int) + 32) - Int.toNat (iaN N i : Int) = 32 by omega]
 refine tcall (c_ldecDin m l z d0 d1 d2 d3 e1 e2 _ hcut (fun e => cut_none (b).sl (iaN N i) f (by omega) (by omega) e) (by omega) hD) ?_
 rintro ap aq ⟨rfl, c⟩
 have ar := c.size
 refine dT2 (dA9 (dInt_i ?_))
 have ac := ((g.app h).app c)
 have q := ah.ch ac (by simp <;> omega)
 refine st_t q rfl (by simp) fun aI r Q au => ?_
 have t := on_ch q Q
 refine st_t r rfl (by simp) fun aJ u R av => ?_
 have w := on_ch r R
 refine st_t u rfl (by simp) fun aK x S aw => ?_
 have y := on_ch u S
 refine st_t x rfl (by simp) fun aL A T ax => ?_
 have C := on_ch x T
 refine st_t A rfl (by simp) fun aM E W ay => ?_
 have F := on_ch A W
 refine st_t E rfl (by simp) fun aN H X az => ?_
 have I := on_ch E X
 refine st_t H rfl (by simp) fun aO J Y aA => ?_
 have K := on_ch H Y
 refine st_t J rfl (by simp) fun aP L Z aB => ?_
 have O := on_ch J Z
 refine st_t L rfl (by simp) fun aQ a aa aC => ?_
 have P := on_ch L aa
 refine ld_t a rfl (ld_t a rfl (ld_t a rfl (ld_t a rfl (ld_t a rfl (ld_t a rfl (ld_t a rfl (ld_t a rfl ?_)))))))
 refine ld_t a rfl ?_
 refine ret_t ?_
 have ad := ((((ab.app j).app g).app h).app c)
 have ae := (((((((((c.app t).app w).app y).app C).app F).app I).app K).app O).app P)
 have af := p.mv ae (rngn50 (by simp <;> omega))
 exact ⟨rfl, (((((((((((Ch.refl [U, U + 20, U + 21, U + 22, U + 23] s).ch ad (by simp)).fr t hM (by simp)).fr w hM (by simp)).fr y hM (by simp)).fr C hM (by simp)).fr F hM (by simp)).fr I hM (by simp)).fr K hM (by simp)).fr O hM (by simp)).fr P hM (by simp)), af⟩
theorem c_iput (vp d U : Nat) (V : VolM) (G B N : Nat) (i : Nat) (m l z d0 d1 d2 d3 e1 e2 : Nat) {na : Option Addr} {nn : Nat} (nc : Nat) {needs : List Int} {τn : Nat} (s : TH) (hv : VolL s vp d U V 0) (hU : 10 ≤ U) (hg : GeoOk G B N) (hl : V.D.blocks.length = G * B) (hvn : V.n < 1000000000000) (hi : i < G * N) (hlp : V.P.last < 900000) (hD : DinM.ok ⟨m, l, z, d0, d1, d2, d3, e1, e2⟩) (hN : Sl s na (ivs needs) τn) (hnn : needs.length = nn) (hnl : nn ≤ 1000) (hnd : ∀ n ∈ needs, 1 ≤ n ∧ n ≤ V.P.last) (hτn : τn < U ∨ U + 50 ≤ τn) : TRet Tryz.prog 9 #[.pointer (some ⟨vp, 0, none⟩), .agg #[.int .i64 (G : Int), .int .i64 (B : Int), .int .i64 (N : Int)], .int .i64 (i : Int), .agg #[.int .i64 (m : Int), .int .i64 (l : Int), .int .i64 (z : Int), .int .i64 (d0 : Int), .int .i64 (d1 : Int), .int .i64 (d2 : Int), .int .i64 (d3 : Int), .int .i64 (e1 : Int), .int .i64 (e2 : Int)], .slice na nn nc] s fun v s' => ∃ V', v = .tuple #[.int .i64 (V.P.last + 1), .int .i64 0] ∧ Ch [U, U + 3, U + 20, U + 21, U + 22, U + 23, U + 30, U + 32] s s' ∧ ChT V (ibN B N i : Int) (iaN N i : Int) (dinB ⟨m, l, z, d0, d1, d2, d3, e1, e2⟩) V' ∧ VolL s' vp d U V' 0 := by
 have hcan := hg.can
 have hg2 := hg
 unfold GeoOk at hg2
 have hgb := hg.gb
 have hgbI : (G : Int) * (B : Int) = ((G * B : Nat) : Int) := (Int.natCast_mul G B).symm
 have hgnI : (G : Int) * (N : Int) = ((G * N : Nat) : Int) := (Int.natCast_mul G N).symm
 have hhas := has_ib hg hl hi
 have hal := ia_le N i
 have hpk := hv.pokk
 have hp0 := hpk.lst
 have hch := change_t (V := V) (b := (ibN B N i : Int)) (o := (iaN N i : Int)) (y := dinB ⟨m, l, z, d0, d1, d2, d3, e1, e2⟩) (needs := needs) hpk hhas ⟨hhas.1, by omega, by rw [dinB_len]; omega, by omega, by rw [dinB_len]; omega⟩ hnd (by omega)
 obtain ⟨M, hM, hM0, hMa, hMb, hMc, hMd, hMe, hMf⟩ := fresh6 s (U + 50) τn 0 0 0 0
 refine F9_calls _ _ _ _ _ _ _ _ _ _ _ _ _ _ _ _ _  ?_
 unfold F9
 refine al_t (M + 1) fun r1 s2 S x g T => ?_
 refine al_t (M + 2) fun r3 s4 W A f X => ?_
 have h := x.ch f (by simp)
 refine ld_t h rfl (ld_t h rfl (ld_t h rfl ?_))
 have C := hv.mv (g.app f) (rngn50 (by simp))
 refine tcall (c_iplace vp d U V G B N i _ C hU hg hl hvn hi) ?_
 rintro H Y ⟨rfl, c, j⟩
 have I := c.size
 refine dT3 (dInt_i (dInt_i (dInt_i (sB_f (by rfl) ?_))))
 have a := A.ch c (by simp <;> omega)
 refine ld_t a rfl (ld_t a rfl (ld_t a rfl (ld_t a rfl (ld_t a rfl (ld_t a rfl (ld_t a rfl (ld_t a rfl ?_)))))))
 refine ld_t a rfl ?_
 refine tcall (c_lencDinB (M + 10) m l z d0 d1 d2 d3 e1 e2 _ hD) ?_
 rintro J K ⟨E, F, rfl, e, k⟩
 have L := e.size
 refine dT2 (dSl_i (dInt_i (sB_f (by rfl) ?_)))
 have r := (((g.app f).app c).app e)
 have t := hN.mv r (tagn (by simp <;> omega))
 have u := j.mv e (rngn50 (by simp))
 refine tcall (c_VChange _ _ _ _ _ _ _ _ _ (by omega) u (k).sl (dinB_len _) t hnn (by omega) (by omega) (by omega) (by omega)) ?_
 rintro O Q ⟨rfl, p, q⟩
 have R := p.size
 rw [hch.1, hch.2.1]
 refine dT2 (dInt_i (dInt_i ?_))
 refine ret_t ?_
 have w := (((f.app c).app e).app p)
 exact ⟨_, rfl, (((Ch.refl [U, U + 3, U + 20, U + 21, U + 22, U + 23, U + 30, U + 32] s).ch g (by simp)).ch w (by simp)), hch.2.2, q⟩
def hB (n B : Nat) : Int := (n : Int) * (B : Int) + 1
theorem has_hd {V : VolM} {G B N n : Nat} (hg : GeoOk G B N) (hl : V.D.blocks.length = G * B) (hn : n < G) : V.D.has (hB n B) := by
 have h1 : (n + 1) * B ≤ G * B := Nat.mul_le_mul_right B hn
 have h2 : (n : Int) * (B : Int) = ((n * B : Nat) : Int) := (Int.natCast_mul n B).symm
 rw [Nat.succ_mul] at h1
 unfold GeoOk at hg
 unfold hB DiskM.has
 rw [h2, hl]
 omega
theorem hB_inj {n m B : Nat} (hB1 : 2 ≤ B) (h : hB n B = hB m B) : n = m := by
 unfold hB at h
 have h2 : (n : Int) * (B : Int) = (m : Int) * (B : Int) := by omega
 exact Int.natCast_inj.1 (Int.eq_of_mul_eq_mul_right (by omega) h2)
set_option maxRecDepth 100000 in
/-- bollard/alloc.header -/
theorem c_aheader (vp d U : Nat) (V : VolM) (G B N : Nat) (n : Nat) (i0 i1 i2 i3 i4 i5 i6 i7 b0 b1 b2 b3 b4 b5 b6 b7 b8 b9 c e f g h i j k l m o p q r t u w x y z A C : UInt8) (s : TH) (hv : VolL s vp d U V 0) (hU : 10 ≤ U) (hg : GeoOk G B N) (hl : V.D.blocks.length = G * B) (hvn : V.n < 1000000000000000) (hn : n < G) (hnow : V.now (hB n B) = hdL n [i0, i1, i2, i3, i4, i5, i6, i7] [b0, b1, b2, b3, b4, b5, b6, b7, b8, b9, c, e, f, g, h, i, j, k, l, m, o, p, q, r, t, u, w, x, y, z, A, C]) : TRet Tryz.prog 46 #[.pointer (some ⟨vp, 0, none⟩), .agg #[.int .i64 (G : Int), .int .i64 (B : Int), .int .i64 (N : Int)], .int .i64 (n : Int)] s fun v s' => v = .tuple #[.agg (gv (n : Int) [i0, i1, i2, i3, i4, i5, i6, i7] [b0, b1, b2, b3, b4, b5, b6, b7, b8, b9, c, e, f, g, h, i, j, k, l, m, o, p, q, r, t, u, w, x, y, z, A, C]).toArray, .int .i64 0] ∧ Ch [U, U + 20, U + 21, U + 22, U + 23] s s' ∧ VolL s' vp d U V.tick 0 := by
 have hcan := hg.can
 have hg2 := hg
 unfold GeoOk at hg2
 have hgb := hg.gb
 have hhas := has_hd hg hl hn
 obtain ⟨M, hM, hM0, hMa, hMb, hMc, hMd, hMe, hMf⟩ := fresh6 s (U + 50) 0 0 0 0 0
 refine F46_calls _ _ _ _ _  ?_
 unfold F46
 refine al_t (M + 1) fun r1 s2 aA ae af aB => ?_
 refine al_t (M + 2) fun r3 s4 aC ag W aD => ?_
 have J := ae.ch W (by simp)
 refine ld_t J rfl (ld_t J rfl (ld_t J rfl ?_))
 refine tcall (gc_header (G : Int) (B : Int) (N : Int) (n : Int) hcan (by omega) _) ?_
 rintro aE aF ⟨rfl, E⟩
 have ak := E.size
 rw [show (n : Int) * (B : Int) + 1 = hB n B from rfl]
 refine dT2 (dInt_i (dBl_i (sB_f (by rfl) ?_)))
 have K := ((af.app W).app E)
 have X := hv.mv K (rngn50 (by simp))
 refine tcall (c_VRead _ _ _ _ (M + 10) _ _ (by omega) X (by omega) hhas (by omega)) ?_
 rintro al am ⟨ah, ai, rfl, F, a, L⟩
 have an := F.size
 rw [hnow] at a
 refine dT2 (dSl_i (dInt_i (sB_f (by rfl) ?_)))
 refine tcall (c_ldecGroup n i0 i1 i2 i3 i4 i5 i6 i7 b0 b1 b2 b3 b4 b5 b6 b7 b8 b9 c e f g h i j k l m o p q r t u w x y z A C (a).sl (by omega) (a).le) ?_
 rintro ao ap ⟨rfl, b⟩
 have aq := b.size
 refine dT2 (dA41 (dInt_i ?_))
 refine al_t (M + 3) fun ar au aj O H av => ?_
 refine stG (n : Int) (il := [i0, i1, i2, i3, i4, i5, i6, i7]) (bl := [b0, b1, b2, b3, b4, b5, b6, b7, b8, b9, c, e, f, g, h, i, j, k, l, m, o, p, q, r, t, u, w, x, y, z, A, C]) rfl rfl rfl O (by rfl) fun aw P S ax => ?_
 have I := on_ch O S
 refine jn_u ?_
 refine jn_u ?_
 refine sB_t (by rfl) (ld_t P rfl (dInt_i ?_))
 intro _
 intros
 refine dBl_i ?_
 refine sB_nd (fun Y => by exfalso; omega) (fun Y => ?_)
 intro _
 intros
 refine dInt_i (sB_f (by rfl) ?_)
 refine ld41 P ?_
 have Z := ((((E.app F).app b).app H).app I)
 have Q := ag.ch Z (by simp <;> omega)
 refine stG (n : Int) (il := [i0, i1, i2, i3, i4, i5, i6, i7]) (bl := [b0, b1, b2, b3, b4, b5, b6, b7, b8, b9, c, e, f, g, h, i, j, k, l, m, o, p, q, r, t, u, w, x, y, z, A, C]) rfl rfl rfl Q (by rfl) fun ay aa T az => ?_
 have R := on_ch Q T
 refine ld41 aa ?_
 refine ret_t ?_
 have ab := (((K.app F).app b).app H)
 have ac := (((b.app H).app I).app R)
 have ad := L.mv ac (rngn50 (by simp <;> omega))
 exact ⟨rfl, ((((Ch.refl [U, U + 20, U + 21, U + 22, U + 23] s).ch ab (by simp)).fr I hM (by simp)).fr R hM (by simp)), ad⟩
def VolM.tk (V : VolM) (k : Int) : VolM := { V with n := V.n + k }
theorem tk_tick (V : VolM) (k : Int) : (V.tk k).tick = V.tk (k + 1) := by unfold VolM.tk VolM.tick; simp only; rw [Int.add_assoc]
theorem tk_zero (V : VolM) : V.tk 0 = V := by unfold VolM.tk; rw [Int.add_zero]
theorem tk_tk (V : VolM) (j k : Int) : (V.tk j).tk k = V.tk (j + k) := by unfold VolM.tk; simp only; rw [Int.add_assoc]
structure AS (G B : Nat) (V : VolM) (A : Nat → List UInt8 × List UInt8) : Prop where
 len : V.D.blocks.length = G * B
 l8 : ∀ n, n < G → (A n).1.length = 8
 l32 : ∀ n, n < G → (A n).2.length = 32
 now : ∀ n, n < G → V.now (hB n B) = hdL n (A n).1 (A n).2
theorem AS.tk {G B : Nat} {V : VolM} {A : Nat → List UInt8 × List UInt8} (h : AS G B V A) (k : Int) : AS G B (V.tk k) A := ⟨h.len, h.l8, h.l32, h.now⟩
theorem overlay1 (l : List UInt8) (p : Nat) (x : UInt8) (h : p < l.length) : overlay l p [x] = l.set p x := by
 unfold overlay
 rw [List.set_eq_take_append_cons_drop, if_pos h]
 simp
theorem hdL_setB {n : Nat} {il bl : List UInt8} (h8 : il.length = 8) (h32 : bl.length = 32) {q : Nat} (hq : q < 32) (x : UInt8) : overlay (hdL n il bl) ((12 + (q : Int)).toNat) [x] = hdL n il (bl.set q x) := by
 have e : (12 + (q : Int)).toNat = 12 + q := by omega
 rw [e, overlay1 _ _ _ (by rw [hdL_len n h8 h32]; omega)]
 unfold hdL
 have e4 : ([104, 100, UInt8.ofNat n, 0] ++ il : List UInt8).length = 12 := by simp [h8]
 rw [List.append_assoc ([104, 100, UInt8.ofNat n, 0] ++ il) bl, List.set_append, if_neg (by rw [e4]; omega), e4, Nat.add_sub_cancel_left, List.set_append, if_pos (by omega), ← List.append_assoc]
def updA (A : Nat → List UInt8 × List UInt8) (n : Nat) (bl : List UInt8) : Nat → List UInt8 × List UInt8 := fun m => if m = n then ((A n).1, bl) else A m
theorem AS.up {G B : Nat} {V V' : VolM} {A : Nat → List UInt8 × List UInt8} (h : AS G B V A) (hB2 : 2 ≤ B) {n q : Nat} (hn : n < G) (hq : q < 32) {x : UInt8} (c : ChT V (hB n B) (12 + (q : Int)) [x] V') : AS G B V' (updA A n ((A n).2.set q x)) := by
 refine ⟨by rw [c.D]; exact h.len, fun m hm => ?_, fun m hm => ?_, fun m hm => ?_⟩
 ·unfold updA; split
  ·exact h.l8 n hn
  ·exact h.l8 m hm
 ·unfold updA; split
  ·rw [List.length_set]; exact h.l32 n hn
  ·exact h.l32 m hm
 ·unfold updA
  by_cases e : m = n
  ·subst e; rw [if_pos rfl, c.now, h.now m hn, hdL_setB (h.l8 m hn) (h.l32 m hn) hq]
  ·rw [if_neg e, c.ne _ (fun h2 => e (hB_inj hB2 h2))]; exact h.now m hm
theorem c_bwith (τ : Nat) {xa : Option Addr} {xn : Nat} (xc : Nat) {l : List UInt8} {τx : Nat} {s : TH} (hx : Sl s xa (bvs l) τx) (hn : l.length = xn) (hb : xn ≤ 1000000000) (i : Nat) (hi : i / 8 < xn) (on : Bool) : TRet Tryz.prog 105 #[.slice xa xn xc, .int .i64 (i : Int), .bool on] s fun v s' => ∃ a' c', v = .tuple #[.slice a' xn c', .int .i64 0] ∧ Ch [] s s' ∧ Own s' a' xn c' 5 1 (bvs (withB l i on)) τ := by
 obtain ⟨b, hbk⟩ : ∃ b, l[i / 8]? = some b := ⟨l[i / 8]'(by omega), by simp⟩
 have hgd : l.getD (i / 8) 0 = b := by rw [List.getD_eq_getElem?_getD, hbk]; rfl
 obtain ⟨M, hM, hM0, hMa, hMb, hMc, hMd, hMe, hMf⟩ := fresh6 s τx τ 0 0 0 0
 refine F105_calls _ _ _ _ _  ?_
 unfold F105
 refine jn_u ?_
 refine sB_d (fun g => by exfalso; omega) (fun g => ?_)
 refine ask_t (by omega) ?_
 try rw [td8]
 refine wr_t (by omega) ?_
 intro _
 intros
 refine dBl_i ?_
 refine sB_d (fun h => by exfalso; omega) (fun h => ?_)
 refine app_bv (xs := []) u85 in5 (Own.nil _ _ _ (M + 5)) hx hn (by omega) fun t a1 c1 m c => ?_
 have u := c.size
 have ho0 := m
 rw [List.nil_append, Nat.zero_add] at ho0
 simp only [Nat.zero_add]
 refine dSl_i (ask_t (by omega) ?_)
 try rw [td8]
 refine wr_t (by omega) ?_
 obtain ⟨w, rfl⟩ := ho0.ne_none (by omega)
 refine nz_i (ask_t (by omega) ?_)
 refine ld_sl (ho0).sl (by rw [Int.toNat_natCast, Nat.mul_one]; exact bvs_get hbk) ?_
 refine dInt_i (ask_t (by omega) ?_)
 rw [tm8]
 refine nm_t rfl ?_
 refine ask_t (by omega) ?_
 rw [shl8 _ (by omega)]
 refine nm_t rfl ?_
 rw [clr8]
 refine nm_t rfl ?_
 refine nz_i (ask_t (by omega) ?_)
 refine Own.st ho0 rfl (by rw [Int.toNat_natCast]; omega) fun n o j x => ?_
 have f := Ch.on_tag (T := [M + 5]) (Ch.refl _ _) j ho0.tagOf (by simp)
 have ho1 := o
 rw [Int.toNat_natCast, Nat.mul_one, bvs_set] at ho1
 have hbk2 : (l.set (i / 8) (clrB b (i % 8)))[i / 8]? = some (clrB b (i % 8)) := List.getElem?_set_self (by omega)
 refine jn_u ?_
 refine sB_i (fun a => ?_) (fun a => ?_)
 ·
  refine ask_t (by omega) ?_
  try rw [td8]
  refine wr_t (by omega) (nz_i (ask_t (by omega) ?_))
  refine ld_sl (ho1).sl (by rw [Int.toNat_natCast, Nat.mul_one]; exact bvs_get hbk2) ?_
  refine dInt_i (ask_t (by omega) ?_)
  try rw [tm8]
  refine nm_t rfl ?_
  refine ask_t (by omega) ?_
  try rw [shl8 _ (by omega)]
  refine nm_t rfl ?_
  rw [or8]
  refine nm_t rfl ?_
  refine nz_i (ask_t (by omega) ?_)
  refine Own.st ho1 rfl (by rw [Int.toNat_natCast]; omega) fun p q d r => ?_
  have k := Ch.on_tag (T := [M + 5]) (Ch.refl _ _) d ho1.tagOf (by simp)
  have ho2 := q
  rw [Int.toNat_natCast, Nat.mul_one, bvs_set, List.set_set] at ho2
  intro _
  intros
  have e : withB l i on = l.set (i / 8) (orB (clrB b (i % 8)) (i % 8)) := by unfold withB setTo; rw [if_pos a, hgd]
  rw [e]
  exact ret_t' (s' := remark p (M + 5) τ) rfl ⟨_, _, rfl, remark_ch ((((Ch.refl [] s).fr c hM (by simp)).fr f hM (by simp)).fr k hM (by simp)) hM (by omega), (ho2).remark⟩
 ·
  intro _
  intros
  have e : withB l i on = l.set (i / 8) (clrB b (i % 8)) := by unfold withB setTo; rw [if_neg (by simp [a]), hgd]
  rw [e]
  exact ret_t' (s' := remark n (M + 5) τ) rfl ⟨_, _, rfl, remark_ch (((Ch.refl [] s).fr c hM (by simp)).fr f hM (by simp)) hM (by omega), (ho1).remark⟩
theorem mkL_hd {G B N : Nat} (h : 2 ≤ B) : ∀ (k : Nat) {n : Nat}, n < k → (mkL G B N k)[n * B + 1]? = some (hdL n (iL n) (setsB zB32 (nB n N)))
 | 0, n, hn => by omega
 | k + 1, n, hn => by
  have hl := mkL_len (G := G) (N := N) h k
  by_cases e : n = k
  ·subst e
   rw [mkL, List.getElem?_append_right (by omega), hl, Nat.add_sub_cancel_left]
   rfl
  ·have h1 : (n + 1) * B ≤ k * B := Nat.mul_le_mul_right B (by omega)
   rw [Nat.succ_mul] at h1
   rw [mkL, List.getElem?_append_left (by omega)]
   exact mkL_hd h k (by omega)
theorem hB_nat (n B : Nat) : hB n B = ((n * B + 1 : Nat) : Int) := by unfold hB; rw [← Int.natCast_mul]; omega
def A0 (N : Nat) : Nat → List UInt8 × List UInt8 := fun n => (iL n, setsB zB32 (nB n N))
theorem fresh_now (bs : List (List UInt8)) (b : Int) : (VolM.fresh bs).now b = bs.getD b.toNat [] := rfl
theorem AS.start {G B N : Nat} (hg : GeoOk G B N) : AS G B (VolM.fresh (makeL G B N)) (A0 N) := by
 have hg2 := hg
 unfold GeoOk at hg2
 refine ⟨fresh_len hg, fun n hn => rfl, fun n hn => sets32 _, fun n hn => ?_⟩
 rw [fresh_now, hB_nat, Int.toNat_natCast, List.getD_eq_getElem?_getD]
 have h1 : n = 0 ∨ 1 * B ≤ n * B := by
  by_cases e : n = 0
  ·exact .inl e
  ·exact .inr (Nat.mul_le_mul_right B (by omega))
 have e1 : n * B + 1 ≠ 2 := by rcases h1 with rfl | h1 <;> omega
 have e2 : n * B + 1 ≠ 2 + N / 4 := by rcases h1 with rfl | h1 <;> omega
 unfold makeL
 rw [List.getElem?_set_ne (fun h => e2 h.symm), List.getElem?_set_ne (fun h => e1 h.symm), mkL_hd (by omega) G hn]
 rfl
def zeroD : DinM := ⟨0, 0, 0, 0, 0, 0, 0, 0, 0⟩
theorem zeroD_ok : zeroD.ok := .inl rfl
theorem fits1 {b o : Int} {x : UInt8} (hb : 0 ≤ b) (h0 : 0 ≤ o) (h1 : o < 128) : fitsP b o (([x] : List UInt8).length : Int) := ⟨hb, h0, by simp, by omega, by simp; omega⟩
theorem c_turn (vp d U : Nat) (V : VolM) (G B N : Nat) (n bit : Nat) (on : Bool) (i0 i1 i2 i3 i4 i5 i6 i7 b0 b1 b2 b3 b4 b5 b6 b7 b8 b9 c e f g h i j k l m p q r t u w z A C E F H : UInt8) {na : Option Addr} {nn : Nat} (nc : Nat) {needs : List Int} {τn : Nat} (s : TH) (hv : VolL s vp d U V 0) (hU : 10 ≤ U) (hg : GeoOk G B N) (hvn : V.n < 1000000000000) (hlp : V.P.last < 900000) (hl : V.D.blocks.length = G * B) (hn : n < G) (hbit : bit < 256) (hN : Sl s na (ivs needs) τn) (hnn : needs.length = nn) (hnl : nn ≤ 1000) (hnd : ∀ n ∈ needs, 1 ≤ n ∧ n ≤ V.P.last) (hτn : τn < U ∨ U + 50 ≤ τn) : TRet Tryz.prog 88 #[.pointer (some ⟨vp, 0, none⟩), .agg #[.int .i64 (G : Int), .int .i64 (B : Int), .int .i64 (N : Int)], .agg (gv (n : Int) [i0, i1, i2, i3, i4, i5, i6, i7] [b0, b1, b2, b3, b4, b5, b6, b7, b8, b9, c, e, f, g, h, i, j, k, l, m, p, q, r, t, u, w, z, A, C, E, F, H]).toArray, .int .i64 12, .int .i64 (bit : Int), .bool on, .slice na nn nc] s fun v s' => ∃ V', v = .tuple #[.int .i64 (V.P.last + 1), .int .i64 0] ∧ Ch [U, U + 3, U + 20, U + 21, U + 22, U + 23, U + 30, U + 32] s s' ∧ ChT V (hB n B) (12 + ((bit / 8 : Nat) : Int)) [setTo ([b0, b1, b2, b3, b4, b5, b6, b7, b8, b9, c, e, f, g, h, i, j, k, l, m, p, q, r, t, u, w, z, A, C, E, F, H].getD (bit / 8) 0) (bit % 8) on] V' ∧ VolL s' vp d U V' 0 := by
 have hcan := hg.can
 have hg2 := hg
 unfold GeoOk at hg2
 have hgb := hg.gb
 have hpk := hv.pokk
 have hp0 := hpk.lst
 have hhas := has_hd hg hl hn
 obtain ⟨bx, hbx⟩ : ∃ x, x = setTo ([b0, b1, b2, b3, b4, b5, b6, b7, b8, b9, c, e, f, g, h, i, j, k, l, m, p, q, r, t, u, w, z, A, C, E, F, H].getD (bit / 8) 0) (bit % 8) on := ⟨_, rfl⟩
 rw [← hbx]
 have hwb : (withB [b0, b1, b2, b3, b4, b5, b6, b7, b8, b9, c, e, f, g, h, i, j, k, l, m, p, q, r, t, u, w, z, A, C, E, F, H] bit on)[bit / 8]? = some bx := by rw [hbx]; unfold withB; rw [List.getElem?_set_self (by show bit / 8 < 32; omega)]
 have hch := change_t (V := V) (o := 12 + ((bit / 8 : Nat) : Int)) (y := [bx]) (needs := needs) hpk hhas (fits1 hhas.1 (by omega) (by omega)) hnd (by omega)
 obtain ⟨M, hM, hM0, hMa, hMb, hMc, hMd, hMe, hMf⟩ := fresh6 s (U + 50) τn 0 0 0 0
 refine F88_calls _ _ _ _ _ _ _ _ _ _ _ _ _ _ _ _ _ _ _ _ _ _ _ _ _ _ _ _ _ _ _ _ _ _ _ _ _ _ _ _ _ _ _ _ _ _ _ _ _ _ _  ?_
 unfold F88
 refine al_t (M + 1) fun r1 s2 ar ab T au => ?_
 refine al_t (M + 2) fun r3 s4 av ac J aw => ?_
 have hg1 : Blk s4 r3 (gv (n : Int) [i0, i1, i2, i3, i4, i5, i6, i7] [b0, b1, b2, b3, b4, b5, b6, b7, b8, b9, c, e, f, g, h, i, j, k, l, m, p, q, r, t, u, w, z, A, C, E, F, H]) 118 (M + 2) := ac
 refine ask_t (by omega) ?_
 refine jn_u ?_
 refine sB_f (by rfl) ?_
 intro _
 intros
 refine dSl_i ?_
 try rw [slO_zero]
 refine tcall (c_bwith (xn := 32) (M + 10) 32 (gv_slB hg1 rfl rfl) rfl (by omega) bit (by omega) on) ?_
 rintro ax ay ⟨ad, ae, rfl, a, K⟩
 have ah := a.size
 refine dT2 (dSl_i (dInt_i (sB_f (by rfl) ?_)))
 have I := ab.ch (J.app a) (by simp)
 refine ld_t I rfl (ld_t I rfl (ld_t I rfl ?_))
 have W := hg1.ch a (by simp)
 refine ld_t W rfl (dInt_i ?_)
 refine tcall (gc_header (G : Int) (B : Int) (N : Int) (n : Int) hcan (by omega) _) ?_
 rintro ai aj ⟨rfl, b⟩
 have ak := b.size
 rw [show (n : Int) * (B : Int) + 1 = hB n B from rfl]
 refine dT2 (dInt_i (dBl_i (ask_t (by omega) ?_)))
 try rw [td8]
 refine wr_t (by omega) (wr_t (by omega) (ask_t (by omega) ?_))
 try rw [td8]
 refine wr_t (by omega) ?_
 have L := K.mv b (tagn (by simp))
 obtain ⟨al, rfl⟩ := L.ne_none (by omega)
 refine nz_i (ask_t (by omega) ?_)
 refine ld_sl (L).sl (by rw [Int.toNat_natCast, Nat.mul_one]; exact bvs_get hwb) ?_
 refine dInt_i ?_
 refine al_t (M + 3) fun af ag am X O an => ?_
 have hy8 : Sl ag (some ⟨af, 0, none⟩) (bvs [bx]) (M + 3) := (X).sl
 have Q := ((((T.app J).app a).app b).app O)
 have Y := hN.mv Q (tagn (by simp))
 have Z := hv.mv Q (rngn50 (by simp))
 refine tcall (c_VChange _ _ _ _ _ _ _ _ _ (by omega) Z hy8 rfl Y hnn (by omega) (by omega) (by omega) (by omega)) ?_
 rintro ao ap ⟨rfl, R, S⟩
 have aq := R.size
 rw [hch.1, hch.2.1]
 refine dT2 (dInt_i (dInt_i ?_))
 refine ret_t ?_
 have aa := ((((J.app a).app b).app O).app R)
 exact ⟨_, rfl, (((Ch.refl [U, U + 3, U + 20, U + 21, U + 22, U + 23, U + 30, U + 32] s).ch T (by simp)).ch aa (by simp)), hch.2.2, S⟩
def FullG (B N : Nat) (p : List UInt8 × List UInt8) : Prop := ∀ j, 2 + N / 4 ≤ j → j < B → hasB p.2 j = true
theorem arnd_get {G : Nat} (f : Nat → Int) {k : Nat} (h : k < G) : ((List.range G).map f)[k]? = some (f k) := by rw [List.getElem?_map, List.getElem?_range h]; rfl
theorem first_dm {G B N n : Nat} (hg : GeoOk G B N) : ((n : Int) * (B : Int) + (2 + (N : Int) / 4)) / (B : Int) = (n : Int) ∧ ((n : Int) * (B : Int) + (2 + (N : Int) / 4)) % (B : Int) = ((2 + N / 4 : Nat) : Int) := by
 have hg2 := hg
 unfold GeoOk at hg2
 have e : (2 + (N : Int) / 4) = ((2 + N / 4 : Nat) : Int) := by omega
 rw [e]
 constructor
 ·rw [Int.add_comm, Int.add_mul_ediv_right _ _ (by omega), Int.ediv_eq_zero_of_lt (by omega) (by omega), Int.zero_add]
 ·rw [Int.add_comm, Int.add_mul_emod_self_right, Int.emod_eq_of_lt (by omega) (by omega)]
theorem first_rng {G B N n : Nat} (hg : GeoOk G B N) (hn : n < G) : 0 ≤ (n : Int) * (B : Int) + (2 + (N : Int) / 4) ∧ (n : Int) * (B : Int) + (2 + (N : Int) / 4) < (G : Int) * (B : Int) := by
 have h1 : (n + 1) * B ≤ G * B := Nat.mul_le_mul_right B hn
 have h2 : (n : Int) * (B : Int) = ((n * B : Nat) : Int) := (Int.natCast_mul n B).symm
 have h3 : (G : Int) * (B : Int) = ((G * B : Nat) : Int) := (Int.natCast_mul G B).symm
 rw [Nat.succ_mul] at h1
 unfold GeoOk at hg
 rw [h2, h3]; omega
theorem arnd_all {G near : Nat} {Q : Nat → Prop} (hn : near < G) (h : ∀ q, q < G → Q ((near + q) % G)) : ∀ m, m < G → Q m := by
 intro m hm
 by_cases e : near ≤ m
 ·have := h (m - near) (by omega)
  rw [show near + (m - near) = m by omega, Nat.mod_eq_of_lt hm] at this; exact this
 ·have := h (m + G - near) (by omega)
  rw [show near + (m + G - near) = m + G by omega, Nat.add_mod_right, Nat.mod_eq_of_lt hm] at this; exact this
structure BlkR (G B N near : Nat) (A : Nat → List UInt8 × List UInt8) (V V' : VolM) (x e : Int) : Prop where
 or_ : (e = 5 ∧ (∀ n, n < G → FullG B N (A n)) ∧ ∃ k : Nat, k ≤ 8 ∧ V' = V.tk k) ∨
  (e = 0 ∧ ∃ n i kk k : Nat, n < G ∧ kk < G ∧ n = (near + kk) % G ∧ (∀ q, q < kk → FullG B N (A ((near + q) % G))) ∧ 2 + N / 4 ≤ i ∧ i < B ∧ hasB (A n).2 i = false ∧ x = (n : Int) * (B : Int) + (i : Int) ∧ k ≤ 8 ∧ ChT (V.tk k) (hB n B) (12 + ((i / 8 : Nat) : Int)) [setTo ((A n).2.getD (i / 8) 0) (i % 8) true] V')
set_option maxRecDepth 100000 in
/-- bollard/alloc.Block -/
theorem c_ablock (vp d U : Nat) (V : VolM) (G B N : Nat) (near : Nat) (A : Nat → List UInt8 × List UInt8) (s : TH) (hv : VolL s vp d U V 0) (hU : 10 ≤ U) (hg : GeoOk G B N) (hvn : V.n < 100000000) (hlp : V.P.last < 900000) (hA : AS G B V A) (hnr : near < G) : TRet Tryz.prog 153 #[.pointer (some ⟨vp, 0, none⟩), .agg #[.int .i64 (G : Int), .int .i64 (B : Int), .int .i64 (N : Int)], .int .i64 (near : Int), .slice none 0 0] s fun v s' => ∃ V' x y e, v = .tuple #[.int .i64 x, .int .i64 y, .int .i64 e] ∧ Ch [U, U + 3, U + 20, U + 21, U + 22, U + 23, U + 30, U + 32] s s' ∧ VolL s' vp d U V' 0 ∧ BlkR G B N near A V V' x e ∧ (e = 0 → y = V.P.last + 1) := by
 have hcan := hg.can
 have hg2 := hg
 unfold GeoOk at hg2
 have hgb := hg.gb
 have hpk := hv.pokk
 have hp0 := hpk.lst
 have hl := hA.len
 have hgbI : (G : Int) * (B : Int) = ((G * B : Nat) : Int) := (Int.natCast_mul G B).symm
 obtain ⟨M, hM, hM0, hMa, hMb, hMc, hMd, hMe, hMf⟩ := fresh6 s (U + 50) 0 0 0 0 0
 refine F153_calls _ _ _ _ _ _ _ _  ?_
 unfold F153
 refine al_t (M + 1) fun r1 s2 bh D ah bi => ?_
 refine ld_t D rfl (ld_t D rfl (ld_t D rfl ?_))
 have aQ := hv.mv ah (rngn50 (by simp))
 refine tcall (c_readyA vp d U V _ _ _ _ aQ hU hcan (by rw [hl, hgbI]; omega)) ?_
 rintro bj bk ⟨rfl, E, ai⟩
 have bm := E.size
 refine dInt_i (sB_f (by rfl) ?_)
 refine jn_u ?_
 refine sB_d (fun av => by exfalso; omega) (fun av => ?_)
 have g := D.ch E (by simp <;> omega)
 refine ld_t g rfl (dInt_i ?_)
 intro _
 intros
 refine dBl_i ?_
 refine sB_d (fun aw => by exfalso; omega) (fun aw => ?_)
 refine ld_t g rfl (ld_t g rfl (ld_t g rfl ?_))
 refine tcall (c_around (M + 10) G near (B : Int) (N : Int) _ (by omega) hnr) ?_
 rintro aU z ⟨aR, aO, rfl, k, aj⟩
 have aV := k.size
 refine dSl_i ?_
 refine ⟨fun vs H' => ∃ s' : TH, s'.h = H' ∧ ∃ i, vs = [.int .i64 i] ∧ Ch [U, U + 20, U + 21, U + 22, U + 23, M + 9] z s' ∧ (∃ kk : Nat, i = kk ∧ kk ≤ G ∧ VolL s' vp d U (V.tk kk) 0 ∧ ∀ q, q < kk → FullG B N (A ((near + q) % G))), fun vs H' => match vs with | [.int .i64 i] => ((G : Int) - i).toNat | _ => 0, ⟨z, rfl, _, rfl, Ch.refl _ _, ?_⟩, ?_⟩
 ·
  have ax := ai.mv k (rngn50 (by simp))
  exact ⟨0, rfl, by omega, by rw [show ((0 : Nat) : Int) = 0 from rfl, tk_zero]; exact ax, fun q h => by omega⟩
 ·
  intro i _ _ _ _ _ _ _ _ _ _ _ _ _ _ _ _ _ _ _ _ _ _ _ _ _ _ _ _ _ _ _ _ _ _ _ _ _ _ _ _ _ _ _ _ _ _ _ _ _ _ _ _ _ _ _ _ _ _ _ _ _ _ _ _ _ _ _ _ _ _ _ _ _ _ H_ hI_18
  obtain ⟨aW, rfl, i_, hvs, f, kk, rfl, hk, hv2, hfull⟩ := hI_18
  cases hvs
  have aX := f.size
  refine sB_d (fun ay => ?_) (fun ay => ?_)
  ·
   have ak := aj.mv f (tagn (by simp <;> omega))
   obtain ⟨aY, rfl⟩ := ak.ne_none (by omega)
   refine nz_i (ask_t (by omega) ?_)
   refine ld_sl (ak).sl (by rw [Int.toNat_natCast, Nat.mul_one]; exact ivs_get (arnd_get _ (by omega))) ?_
   refine dInt_i ?_
   have o := g.ch (k.app f) (by simp <;> omega)
   refine ld_t o rfl (ld_t o rfl (ld_t o rfl ?_))
   obtain ⟨n, hne⟩ : ∃ n, n = (near + kk) % G := ⟨_, rfl⟩
   rw [← hne]
   have hnG : n < G := by rw [hne]; exact Nat.mod_lt _ (by omega)
   obtain ⟨i0, i1, i2, i3, i4, i5, i6, i7, hil⟩ := len8 (hA.l8 n hnG)
   obtain ⟨b0, b1, b2, b3, b4, b5, b6, b7, b8, b9, F, H, I, J, K, L, O, Q, R, S, T, W, X, Y, Z, aa, ab, ac, ad, ae, af, ag, hbl⟩ := len32 (hA.l32 n hnG)
   have hnow : (V.tk kk).now (hB n B) = hdL n [i0, i1, i2, i3, i4, i5, i6, i7] [b0, b1, b2, b3, b4, b5, b6, b7, b8, b9, F, H, I, J, K, L, O, Q, R, S, T, W, X, Y, Z, aa, ab, ac, ad, ae, af, ag] := by rw [← hil, ← hbl]; exact (hA.tk _).now n hnG
   refine tcall (c_aheader vp d U (V.tk kk) G B N n i0 i1 i2 i3 i4 i5 i6 i7 b0 b1 b2 b3 b4 b5 b6 b7 b8 b9 F H I J K L O Q R S T W X Y Z aa ab ac ad ae af ag _ hv2 hU hg hl (by show V.n + _ < _; omega) hnG hnow) ?_
   rintro aZ az ⟨rfl, p, al⟩
   have a0 := p.size
   have hv4 : VolL az vp d U (V.tk ((kk : Int) + 1)) 0 := by rw [← tk_tick]; exact al
   refine dT2 (dA41 (dInt_i ?_))
   refine al_t (M + 9) fun a1 a2 aT am l a3 => ?_
   refine stG (n : Int) (il := [i0, i1, i2, i3, i4, i5, i6, i7]) (bl := [b0, b1, b2, b3, b4, b5, b6, b7, b8, b9, F, H, I, J, K, L, O, Q, R, S, T, W, X, Y, Z, aa, ab, ac, ad, ae, af, ag]) rfl rfl rfl am (by rfl) fun a4 aA au a5 => ?_
   have m := on_ch am au
   refine sB_f (by rfl) ?_
   have aB := ((p.app l).app m)
   have r := o.ch aB (by simp <;> omega)
   refine ld_t r rfl (ld_t r rfl (ld_t r rfl ?_))
   refine tcall (gc_data (G : Int) (B : Int) (N : Int) (n : Int) hcan (by omega) _) ?_
   rintro a6 a7 ⟨rfl, a⟩
   have a8 := a.size
   refine dT3 (dInt_i (dInt_i (dBl_i ?_)))
   have t := r.ch a (by simp)
   refine ld_t t rfl (ld_t t rfl (ld_t t rfl ?_))
   have hfr := first_rng hg hnG
   have hdm := first_dm (n := n) hg
   refine tcall (gc_group (G : Int) (B : Int) (N : Int) _ hcan hfr _) ?_
   rintro a9 ba ⟨rfl, b⟩
   have bb := b.size
   rw [hdm.1, hdm.2]
   refine dT3 (dInt_i (dInt_i (dBl_i (ask_t (by omega) (wr_t (by omega) ?_)))))
   try rw [slO_zero]
   rw [show ((2 + N / 4 : Nat) : Int) + ((B : Int) - (2 + (N : Int) / 4)) = (B : Int) by omega]
   have an := aA.ch (a.app b) (by simp)
   refine tcall (c_free (xn := 32) 32 (gv_slB an rfl rfl) rfl (2 + N / 4) B (by omega) (by omega)) ?_
   rintro bc aC ⟨w, aP, rfl, c, ao, ap⟩
   have bd := c.size
   refine dT2 (dInt_i (dBl_i ?_))
   refine sB_n (fun aD => ?_) (fun aD => ?_)
   ·
    refine wr_t (by omega) ?_
    have aE := ((((((f.app p).app l).app m).app a).app b).app c)
    refine ⟨⟨aC, rfl, _, rfl, ((Ch.refl [U, U + 20, U + 21, U + 22, U + 23, M + 9] z).ch aE (by simp)), ?_⟩, ?_⟩
    ·
     have aF := ((((l.app m).app a).app b).app c)
     have aG := hv4.mv aF (rngn50 (by simp <;> omega))
     exact ⟨kk + 1, by omega, by omega, by rw [show ((kk + 1 : Nat) : Int) = (kk : Int) + 1 by omega]; exact aG, fun q hq => by
      by_cases e : q = kk
      ·subst e; rw [← hne]; intro j h1 h2; rw [hbl]; exact ap (by assumption) j h1 h2
      ·exact hfull q (by omega)⟩
    ·
     simp only []; omega
   ·
    have u := t.ch (b.app c) (by simp)
    refine ld_t u rfl (ld_t u rfl (ld_t u rfl ?_))
    have aH := an.ch c (by simp)
    refine ld41 aH ?_
    have h6 := ao (by assumption)
    have h6b := h6.2.1
    have h6a := h6.1
    have aI := ((((l.app m).app a).app b).app c)
    have aJ := hv4.mv aI (rngn50 (by simp <;> omega))
    refine tcall (c_turn vp d U (V.tk ((kk : Int) + 1)) G B N n w true i0 i1 i2 i3 i4 i5 i6 i7 b0 b1 b2 b3 b4 b5 b6 b7 b8 b9 F H I J K L O Q R S T W X Y Z aa ab ac ad ae af ag 0 _ aJ hU hg (by show V.n + _ < _; omega) hlp hl hnG (by omega) (sl_nil _ (U + 60)) rfl (by omega) (fun n hn => by cases hn) (by omega)) ?_
    rintro be bf ⟨aS, rfl, C, aq, ar⟩
    have bg := C.size
    refine dT2 (dInt_i (dInt_i (sB_f (by rfl) ?_)))
    have aK := u.ch C (by simp <;> omega)
    refine ld_t aK rfl (dInt_i (wr_t (by omega) (wr_t (by omega) ?_)))
    refine ret_t ?_
    have aL := ((ah.app E).app k)
    have aM := (((a.app b).app c).app C)
    exact ⟨_, _, _, _, rfl, (((((((Ch.refl [U, U + 3, U + 20, U + 21, U + 22, U + 23, U + 30, U + 32] s).ch aL (by simp)).fr f hM (by simp)).ch p (by simp)).ch l (by simp)).fr m hM (by simp)).ch aM (by simp)), ar, ⟨.inr ⟨rfl, n, w, kk, kk + 1, hnG, by omega, hne, hfull, h6.1, h6.2.1, by rw [hbl]; exact h6.2.2, rfl, by omega, by rw [hbl]; exact aq⟩⟩, fun _ => rfl⟩
  ·
   refine ret_t ?_
   have aN := ((ah.app E).app k)
   exact ⟨_, _, _, _, rfl, (((Ch.refl [U, U + 3, U + 20, U + 21, U + 22, U + 23, U + 30, U + 32] s).ch aN (by simp)).fr f hM (by simp)), hv2, ⟨.inl ⟨rfl, arnd_all hnr (fun q hq => hfull q (by omega)), kk, by omega, rfl⟩⟩, fun h => by omega⟩
theorem cntB_all {l : List UInt8} : ∀ {n : Nat}, (∀ j, j < n → hasB l j = true) → cntB l n = n
 | 0, _ => rfl
 | n + 1, h => by rw [cntB, cntB_all (fun j hj => h j (by omega)), if_pos (h n (by omega))]
theorem cntB_mono {l : List UInt8} {a : Nat} : ∀ (d : Nat), cntB l a ≤ cntB l (a + d) ∧ cntB l (a + d) ≤ cntB l a + d
 | 0 => ⟨Nat.le_refl _, Nat.le_refl _⟩
 | d + 1 => by
  have h := cntB_mono (l := l) (a := a) d
  rw [← Nat.add_assoc, cntB]
  split <;> omega
def rk (l : List UInt8) : Nat → List UInt8
 | 0 => l
 | k + 1 => withB (rk l k) k true
theorem rk_len (l : List UInt8) : ∀ k, (rk l k).length = l.length
 | 0 => rfl
 | k + 1 => by rw [rk, withB_len, rk_len]
def rowI (n : Nat) (l : List UInt8) : List UInt8 := if n = 0 then rk l 2 else l
theorem rk_has {l : List UInt8} {k : Nat} (hk : k ≤ 8 * l.length) (j : Nat) : hasB (rk l k) j = if j < k then true else hasB l j := by
 induction k with
 | zero => rw [if_neg (by omega)]; rfl
 | succ k ih =>
  rw [rk, hasB_with (by rw [rk_len]; omega), ih (by omega)]
  by_cases e : j = k
  ·subst e; rw [if_pos rfl, if_pos (by omega)]
  ·rw [if_neg e]
   by_cases e2 : j < k
   ·rw [if_pos e2, if_pos (by omega)]
   ·rw [if_neg e2, if_neg (by omega)]
theorem rowI_eq {l : List UInt8} {n k : Nat} (h : (k = 2 ∧ n = 0) ∨ (k = 0 ∧ n ≠ 0)) : rk l k = rowI n l := by
 unfold rowI
 rcases h with ⟨rfl, h⟩ | ⟨rfl, h⟩
 ·rw [if_pos h]
 ·rw [if_neg h]; rfl
def spN (N n : Nat) (l : List UInt8) : Int := (N : Int) - (cntB (rowI n l) N : Int)
theorem spN_zero {N n : Nat} {l : List UInt8} (h : ∀ j, j < N → hasB (rowI n l) j = true) : spN N n l = 0 := by unfold spN; rw [cntB_all h]; omega
theorem spN_rng (N n : Nat) (l : List UInt8) : 0 ≤ spN N n l ∧ spN N n l ≤ N := by have := cntB_le (rowI n l) N; unfold spN; omega
def frN (B N : Nat) (l : List UInt8) : Int := (B : Int) - ((2 + N / 4 : Nat) : Int) - (cntB l B : Int) + (cntB l (2 + N / 4) : Int)
theorem frN_rng {B N : Nat} (h : 2 + N / 4 ≤ B) (l : List UInt8) : 0 ≤ frN B N l ∧ frN B N l ≤ B := by
 obtain ⟨d, rfl⟩ : ∃ d, B = 2 + N / 4 + d := ⟨B - (2 + N / 4), by omega⟩
 have := cntB_mono (l := l) (a := 2 + N / 4) d
 unfold frN; omega
def roomB (B N : Nat) (A : Nat → List UInt8 × List UInt8) : Nat → Int
 | 0 => 0
 | k + 1 => roomB B N A k + frN B N (A k).2
def roomI (N : Nat) (A : Nat → List UInt8 × List UInt8) : Nat → Int
 | 0 => 0
 | k + 1 => roomI N A k + spN N k (A k).1
theorem roomB_s {B N n : Nat} {A : Nat → List UInt8 × List UInt8} {l : List UInt8} (e : (A n).2 = l) : roomB B N A n + ((B : Int) - (2 + (N : Int) / 4) - (cntB l B : Int) + (cntB l (2 + N / 4) : Int)) = roomB B N A (n + 1) := by
 rw [roomB, e]; unfold frN; omega
theorem roomI_s {N n : Nat} {A : Nat → List UInt8 × List UInt8} {l : List UInt8} (e : (A n).1 = l) : roomI N A n + spN N n l = roomI N A (n + 1) := by rw [roomI, e]
theorem roomB_rng {B N : Nat} (h : 2 + N / 4 ≤ B) (A : Nat → List UInt8 × List UInt8) : ∀ k, 0 ≤ roomB B N A k ∧ roomB B N A k ≤ k * B
 | 0 => by unfold roomB; omega
 | k + 1 => by
  have h1 := roomB_rng h A k
  have h2 := frN_rng (B := B) (N := N) h (A k).2
  have h3 : ((k + 1 : Nat) : Int) * (B : Int) = (k : Int) * B + B := by rw [Int.natCast_add, Int.add_mul, Int.natCast_one, Int.one_mul]
  rw [roomB, h3]; omega
theorem roomI_rng (N : Nat) (A : Nat → List UInt8 × List UInt8) : ∀ k, 0 ≤ roomI N A k ∧ roomI N A k ≤ k * N
 | 0 => by unfold roomI; omega
 | k + 1 => by
  have h1 := roomI_rng N A k
  have h2 := spN_rng N k (A k).1
  have h3 : ((k + 1 : Nat) : Int) * (N : Int) = (k : Int) * N + N := by rw [Int.natCast_add, Int.add_mul, Int.natCast_one, Int.one_mul]
  rw [roomI, h3]; omega
theorem c_spare (a b : Int) (N n : Nat) (i0 i1 i2 i3 i4 i5 i6 i7 b0 b1 b2 b3 b4 b5 b6 b7 b8 b9 z A B C D E F G H I J K L O P Q R S T U V W : UInt8) (s : TH) (hN : 1 ≤ N ∧ N ≤ 64) (hn : n ≤ 7) : TRet Tryz.prog 50 #[.agg #[.int .i64 a, .int .i64 b, .int .i64 (N : Int)], .agg (gv (n : Int) [i0, i1, i2, i3, i4, i5, i6, i7] [b0, b1, b2, b3, b4, b5, b6, b7, b8, b9, z, A, B, C, D, E, F, G, H, I, J, K, L, O, P, Q, R, S, T, U, V, W]).toArray] s fun v s' => ∃ i : Nat, v = .tuple #[.int .i64 (i : Int), .int .i64 (spN N n [i0, i1, i2, i3, i4, i5, i6, i7])] ∧ Ch [] s s' ∧ (0 < spN N n [i0, i1, i2, i3, i4, i5, i6, i7] → i < N ∧ hasB (rowI n [i0, i1, i2, i3, i4, i5, i6, i7]) i = false) := by
 obtain ⟨M, hM, hM0, hMa, hMb, hMc, hMd, hMe, hMf⟩ := fresh6 s 0 0 0 0 0 0
 refine F50_calls _ _ _ _ _ _ _ _ _ _ _ _ _ _ _ _ _ _ _ _ _ _ _ _ _ _ _ _ _ _ _ _ _ _ _ _ _ _ _ _ _ _ _ _  ?_
 unfold F50
 refine al_t (M + 1) fun r1 s2 aM X t aN => ?_
 refine al_t (M + 2) fun r3 s4 aO ao f aP => ?_
 have hg1 : Blk s4 r3 (gv (n : Int) [i0, i1, i2, i3, i4, i5, i6, i7] [b0, b1, b2, b3, b4, b5, b6, b7, b8, b9, z, A, B, C, D, E, F, G, H, I, J, K, L, O, P, Q, R, S, T, U, V, W]) 118 (M + 2) := ao
 have hq0 : Sl s4 (some ⟨r3, 1, none⟩) (bvs [i0, i1, i2, i3, i4, i5, i6, i7]) (M + 2) := gv_slI hg1 rfl rfl
 try rw [slO_zero]
 refine ask_t (by omega) ?_
 refine ⟨fun vs H' => ∃ s' : TH, s'.h = H' ∧ ∃ pa pn pc i, vs = [.slice pa pn pc, .int .i64 i] ∧ Ch [] s4 s' ∧ (∃ k τq : Nat, i = k ∧ k ≤ 2 ∧ (n = 0 ∨ k = 0) ∧ pn = 8 ∧ Sl s' pa (bvs (rk [i0, i1, i2, i3, i4, i5, i6, i7] k)) τq), fun vs H' => match vs with | [.slice pa pn pc, .int .i64 i] => (2 - i).toNat | _ => 0, ⟨s4, rfl, _, _, _, _, rfl, Ch.refl _ _, ?_⟩, ?_⟩
 ·
  exact ⟨0, M + 2, rfl, by omega, .inr rfl, rfl, hq0⟩
 ·
  intro pa pn pc i _ _ _ _ _ _ _ _ _ _ _ _ _ _ _ H_ hI_8
  obtain ⟨aQ, rfl, pa_, pn_, pc_, i_, hvs, c, k, τq, rfl, hk, hn0, rfl, hq⟩ := hI_8
  cases hvs
  have ax := c.size
  have hlk : (rk [i0, i1, i2, i3, i4, i5, i6, i7] k).length = 8 := rk_len _ k
  refine jn_u ?_
  refine sB_d (fun Y => ?_) (fun Y => ?_)
  ·
   have Z := hg1.ch c (by simp)
   refine ld_t Z rfl (dInt_i ?_)
   intro _
   intros
   refine dBl_i ?_
   refine sB_d (fun aa => ?_) (fun aa => ?_)
   ·
    refine tcall (c_bwith (xn := 8) (M + 10) pc hq hlk (by omega) k (by omega) true) ?_
    rintro ay ab ⟨ap, aq, rfl, u, w⟩
    have az := u.size
    refine dT2 (dSl_i (dInt_i (wr_t (by omega) ?_)))
    refine ⟨⟨ab, rfl, _, _, _, _, rfl, (((Ch.refl [] s4).ch c (by simp)).ch u (by simp)), ?_⟩, ?_⟩
    ·
     exact ⟨k + 1, _, by omega, by omega, by omega, rfl, (w).sl⟩
    ·
     simp only []; omega
   ·
    have x := X.ch (f.app c) (by simp)
    refine ld_t x rfl (dInt_i ?_)
    have hrow : rk [i0, i1, i2, i3, i4, i5, i6, i7] k = rowI n [i0, i1, i2, i3, i4, i5, i6, i7] := rowI_eq (by first | (left; constructor <;> omega) | (right; constructor <;> omega))
    rw [hrow] at hq hlk
    refine tcall (c_first (xn := 8) pc hq hlk N 0 (by omega) (by omega)) ?_
    rintro aA aB ⟨ar, am, rfl, d, g, au, j⟩
    have aC := d.size
    refine dT2 (dInt_i (dBl_i ?_))
    refine sB_n (fun ac => ?_) (fun ac => ?_)
    ·
     refine ret_t ?_
     have ad := (((t.app f).app c).app d)
     exact ⟨0, by rw [spN_zero (j (by assumption))]; rfl, ((Ch.refl [] s).ch ad (by simp)), fun h => by (exfalso; rw [spN_zero (j (by assumption))] at h; omega)⟩
    ·
     have o := x.ch d (by simp)
     refine ld_t o rfl (dInt_i (ld_t o rfl (dInt_i ?_)))
     have ae := hq.mv d (tagn (by simp))
     refine tcall (c_count (xn := 8) pc ae hlk N (by omega)) ?_
     rintro aD aE ⟨rfl, p⟩
     have aF := p.size
     have hcl := cntB_le (rowI n [i0, i1, i2, i3, i4, i5, i6, i7]) N
     refine dInt_i ?_
     refine ⟨?_, ?_⟩
     ·
      have af := o.ch p (by simp)
      refine ld_t af rfl (dInt_i ?_)
      rfl
     ·
      refine wr_t (by omega) ?_
      refine ret_t ?_
      have ag := ((((t.app f).app c).app d).app p)
      exact ⟨_, rfl, ((Ch.refl [] s).ch ag (by simp)), fun _ => ⟨(g (by assumption)).1, (g (by assumption)).2.1⟩⟩
  ·
   intro _
   intros
   refine dBl_i (sB_f (by rfl) ?_)
   have y := X.ch (f.app c) (by simp)
   refine ld_t y rfl (dInt_i ?_)
   have hrow : rk [i0, i1, i2, i3, i4, i5, i6, i7] k = rowI n [i0, i1, i2, i3, i4, i5, i6, i7] := rowI_eq (by first | (left; constructor <;> omega) | (right; constructor <;> omega))
   rw [hrow] at hq hlk
   refine tcall (c_first (xn := 8) pc hq hlk N 0 (by omega) (by omega)) ?_
   rintro aG aH ⟨av, an, rfl, e, l, aw, m⟩
   have aI := e.size
   refine dT2 (dInt_i (dBl_i ?_))
   refine sB_n (fun ah => ?_) (fun ah => ?_)
   ·
    refine ret_t ?_
    have ai := (((t.app f).app c).app e)
    exact ⟨0, by rw [spN_zero (m (by assumption))]; rfl, ((Ch.refl [] s).ch ai (by simp)), fun h => by (exfalso; rw [spN_zero (m (by assumption))] at h; omega)⟩
   ·
    have q := y.ch e (by simp)
    refine ld_t q rfl (dInt_i (ld_t q rfl (dInt_i ?_)))
    have aj := hq.mv e (tagn (by simp))
    refine tcall (c_count (xn := 8) pc aj hlk N (by omega)) ?_
    rintro aJ aK ⟨rfl, r⟩
    have aL := r.size
    have hcl := cntB_le (rowI n [i0, i1, i2, i3, i4, i5, i6, i7]) N
    refine dInt_i ?_
    refine ⟨?_, ?_⟩
    ·
     have ak := q.ch r (by simp)
     refine ld_t ak rfl (dInt_i ?_)
     rfl
    ·
     refine wr_t (by omega) ?_
     refine ret_t ?_
     have al := ((((t.app f).app c).app e).app r)
     exact ⟨_, rfl, ((Ch.refl [] s).ch al (by simp)), fun _ => ⟨(l (by assumption)).1, (l (by assumption)).2.1⟩⟩
set_option maxRecDepth 100000 in
/-- bollard/alloc.Room -/
theorem c_room (vp d U : Nat) (V : VolM) (G B N : Nat) (A : Nat → List UInt8 × List UInt8) (s : TH) (hv : VolL s vp d U V 0) (hU : 10 ≤ U) (hg : GeoOk G B N) (hvn : V.n < 100000000) (hlp : V.P.last < 900000) (hA : AS G B V A) : TRet Tryz.prog 18 #[.pointer (some ⟨vp, 0, none⟩), .agg #[.int .i64 (G : Int), .int .i64 (B : Int), .int .i64 (N : Int)]] s fun v s' => v = .tuple #[.int .i64 (roomB B N A G), .int .i64 (roomI N A G), .int .i64 0] ∧ Ch [U, U + 3, U + 20, U + 21, U + 22, U + 23, U + 30, U + 32] s s' ∧ VolL s' vp d U (V.tk G) 0 := by
 have hcan := hg.can
 have hg2 := hg
 unfold GeoOk at hg2
 have hgb := hg.gb
 have hpk := hv.pokk
 have hp0 := hpk.lst
 have hl := hA.len
 have hgbI : (G : Int) * (B : Int) = ((G * B : Nat) : Int) := (Int.natCast_mul G B).symm
 obtain ⟨M, hM, hM0, hMa, hMb, hMc, hMd, hMe, hMf⟩ := fresh6 s (U + 50) 0 0 0 0 0
 refine F18_calls _ _ _ _  ?_
 unfold F18
 refine al_t (M + 1) fun r1 s2 ah X ai aX => ?_
 refine ld_t X rfl (ld_t X rfl (ld_t X rfl ?_))
 have av := hv.mv ai (rngn50 (by simp))
 refine tcall (c_readyA vp d U V _ _ _ _ av hU hcan (by rw [hl, hgbI]; omega)) ?_
 rintro aY Y ⟨rfl, Z, aa⟩
 have aZ := Z.size
 refine dInt_i (sB_f (by rfl) ?_)
 have ab := X.ch Z (by simp <;> omega)
 refine ld_t ab rfl (dInt_i ?_)
 refine ⟨fun vs H' => ∃ s' : TH, s'.h = H' ∧ ∃ xb xi i, vs = [.int .i64 xb, .int .i64 xi, .int .i64 i] ∧ Ch [U, U + 20, U + 21, U + 22, U + 23, M + 9] Y s' ∧ (∃ n : Nat, i = n ∧ n ≤ G ∧ xb = roomB B N A n ∧ xi = roomI N A n ∧ VolL s' vp d U (V.tk n) 0), fun vs H' => match vs with | [.int .i64 xb, .int .i64 xi, .int .i64 i] => ((G : Int) - i).toNat | _ => 0, ⟨Y, rfl, _, _, _, rfl, Ch.refl _ _, ?_⟩, ?_⟩
 ·
  exact ⟨0, rfl, by omega, rfl, rfl, by rw [show ((0 : Nat) : Int) = 0 from rfl, tk_zero]; exact aa⟩
 ·
  intro xb xi i _ _ _ _ _ _ _ _ _ _ _ _ _ _ _ _ _ _ _ _ _ _ _ _ _ _ _ _ _ _ _ _ _ _ _ _ _ _ _ _ _ _ _ _ _ _ _ _ _ _ _ _ _ _ _ _ _ _ _ _ _ _ _ _ _ H_ hI_12
  obtain ⟨aA, rfl, xb_, xi_, i_, hvs, J, n, rfl, hk, rfl, rfl, hv2⟩ := hI_12
  cases hvs
  have aB := J.size
  have ah := roomB_rng (B := B) (N := N) (by omega) A n
  have aw := roomI_rng N A n
  have hm1 : n * B ≤ 8 * 256 := Nat.mul_le_mul (by omega) (by omega)
  have hm2 : n * N ≤ 8 * 64 := Nat.mul_le_mul (by omega) (by omega)
  rw [← Int.natCast_mul] at ah aw
  refine sB_d (fun aj => ?_) (fun aj => ?_)
  ·
   have K := ab.ch J (by simp <;> omega)
   refine ld_t K rfl (ld_t K rfl (ld_t K rfl ?_))
   have hnG : n < G := by omega
   obtain ⟨i0, i1, i2, i3, i4, i5, i6, i7, hil⟩ := len8 (hA.l8 n hnG)
   obtain ⟨b0, b1, b2, b3, b4, b5, b6, b7, b8, b9, f, g, j, k, l, m, o, p, q, r, t, u, w, x, y, z, C, D, E, F, H, I, hbl⟩ := len32 (hA.l32 n hnG)
   have hnow : (V.tk (n : Int)).now (hB n B) = hdL n [i0, i1, i2, i3, i4, i5, i6, i7] [b0, b1, b2, b3, b4, b5, b6, b7, b8, b9, f, g, j, k, l, m, o, p, q, r, t, u, w, x, y, z, C, D, E, F, H, I] := by rw [← hil, ← hbl]; exact (hA.tk _).now n hnG
   refine tcall (c_aheader vp d U (V.tk n) G B N n i0 i1 i2 i3 i4 i5 i6 i7 b0 b1 b2 b3 b4 b5 b6 b7 b8 b9 f g j k l m o p q r t u w x y z C D E F H I _ hv2 hU hg hl (by show V.n + _ < _; omega) hnG hnow) ?_
   rintro aC ak ⟨rfl, Q, ac⟩
   have aD := Q.size
   have hv4 : VolL ak vp d U (V.tk ((n : Int) + 1)) 0 := by rw [← tk_tick]; exact ac
   refine dT2 (dA41 (dInt_i ?_))
   refine al_t (M + 9) fun aE aF az ad R aG => ?_
   refine stG (n : Int) (il := [i0, i1, i2, i3, i4, i5, i6, i7]) (bl := [b0, b1, b2, b3, b4, b5, b6, b7, b8, b9, f, g, j, k, l, m, o, p, q, r, t, u, w, x, y, z, C, D, E, F, H, I]) rfl rfl rfl ad (by rfl) fun aH al ag aI => ?_
   have S := on_ch ad ag
   refine sB_f (by rfl) ?_
   have am := ((Q.app R).app S)
   have L := K.ch am (by simp <;> omega)
   refine ld_t L rfl (ld_t L rfl (ld_t L rfl ?_))
   refine tcall (gc_data (G : Int) (B : Int) (N : Int) (n : Int) hcan (by omega) _) ?_
   rintro aJ aK ⟨rfl, a⟩
   have aL := a.size
   refine dT3 (dInt_i (dInt_i (dBl_i ?_)))
   have O := L.ch a (by simp)
   refine ld_t O rfl (ld_t O rfl (ld_t O rfl ?_))
   have hfr := first_rng hg hnG
   have hdm := first_dm (n := n) hg
   refine tcall (gc_group (G : Int) (B : Int) (N : Int) _ hcan hfr _) ?_
   rintro aM aN ⟨rfl, b⟩
   have aO := b.size
   rw [hdm.1, hdm.2]
   refine dT3 (dInt_i (dInt_i (dBl_i (ask_t (by omega) (wr_t (by omega) (ask_t (by omega) ?_))))))
   try rw [slO_zero]
   rw [show ((2 + N / 4 : Nat) : Int) + ((B : Int) - (2 + (N : Int) / 4)) = (B : Int) by omega]
   have ae := al.ch (a.app b) (by simp)
   refine tcall (c_count (xn := 32) 32 (gv_slB ae rfl rfl) rfl B (by omega)) ?_
   rintro aP aQ ⟨rfl, c⟩
   have aR := c.size
   have hc1 := cntB_le [b0, b1, b2, b3, b4, b5, b6, b7, b8, b9, f, g, j, k, l, m, o, p, q, r, t, u, w, x, y, z, C, D, E, F, H, I] B
   refine dInt_i (wr_t (by omega) ?_)
   try rw [slO_zero]
   have af := ae.ch c (by simp)
   refine tcall (c_count (xn := 32) 32 (gv_slB af rfl rfl) rfl (2 + N / 4) (by omega)) ?_
   rintro aS aT ⟨rfl, e⟩
   have aU := e.size
   have hc2 := cntB_le [b0, b1, b2, b3, b4, b5, b6, b7, b8, b9, f, g, j, k, l, m, o, p, q, r, t, u, w, x, y, z, C, D, E, F, H, I] (2 + N / 4)
   refine dInt_i (wr_t (by omega) (wr_t (by omega) ?_))
   have an := ((b.app c).app e)
   have T := O.ch an (by simp)
   refine ld_t T rfl (ld_t T rfl (ld_t T rfl ?_))
   have ao := af.ch e (by simp)
   refine ld41 ao ?_
   refine tcall (c_spare (G : Int) (B : Int) N n i0 i1 i2 i3 i4 i5 i6 i7 b0 b1 b2 b3 b4 b5 b6 b7 b8 b9 f g j k l m o p q r t u w x y z C D E F H I _ (by omega) (by omega)) ?_
   rintro aV ap ⟨ax, rfl, W, ay⟩
   have aW := W.size
   have hs2 := spN_rng N n [i0, i1, i2, i3, i4, i5, i6, i7]
   refine dT2 (dInt_i (dInt_i (wr_t (by omega) (wr_t (by omega) ?_))))
   have aq := ((((((((J.app Q).app R).app S).app a).app b).app c).app e).app W)
   refine ⟨⟨ap, rfl, _, _, _, rfl, ((Ch.refl [U, U + 20, U + 21, U + 22, U + 23, M + 9] Y).ch aq (by simp)), ?_⟩, ?_⟩
   ·
    have ar := ((((((R.app S).app a).app b).app c).app e).app W)
    have au := hv4.mv ar (rngn50 (by simp <;> omega))
    exact ⟨n + 1, by omega, by omega, roomB_s hbl, roomI_s hil, by rw [show ((n + 1 : Nat) : Int) = (n : Int) + 1 by omega]; exact au⟩
   ·
    simp only []; omega
  ·
   refine ret_t ?_
   obtain rfl : n = G := by omega
   exact ⟨rfl, ((((Ch.refl [U, U + 3, U + 20, U + 21, U + 22, U + 23, U + 30, U + 32] s).ch ai (by simp)).ch Z (by simp)).fr J hM (by simp)), hv2⟩
set_option maxRecDepth 100000 in
/-- bollard/alloc.place -/
theorem c_place12 (vp d U : Nat) (V : VolM) (G B N : Nat) (n bit : Nat) (i0 i1 i2 i3 i4 i5 i6 i7 b0 b1 b2 b3 b4 b5 b6 b7 b8 b9 b c e f g h i j k l m o p q r t u w x y z A : UInt8) (s : TH) (hv : VolL s vp d U V 0) (hU : 10 ≤ U) (hg : GeoOk G B N) (hl : V.D.blocks.length = G * B) (hvn : V.n < 1000000000000) (hn : n < G) (hbit : bit < 256) (hnow : V.now (hB n B) = hdL n [i0, i1, i2, i3, i4, i5, i6, i7] [b0, b1, b2, b3, b4, b5, b6, b7, b8, b9, b, c, e, f, g, h, i, j, k, l, m, o, p, q, r, t, u, w, x, y, z, A]) : TRet Tryz.prog 183 #[.pointer (some ⟨vp, 0, none⟩), .agg #[.int .i64 (G : Int), .int .i64 (B : Int), .int .i64 (N : Int)], .int .i64 (n : Int), .int .i64 (bit : Int), .int .i64 12] s fun v s' => v = .tuple #[.agg (gv (n : Int) [i0, i1, i2, i3, i4, i5, i6, i7] [b0, b1, b2, b3, b4, b5, b6, b7, b8, b9, b, c, e, f, g, h, i, j, k, l, m, o, p, q, r, t, u, w, x, y, z, A]).toArray, .bool (hasB [b0, b1, b2, b3, b4, b5, b6, b7, b8, b9, b, c, e, f, g, h, i, j, k, l, m, o, p, q, r, t, u, w, x, y, z, A] bit), .int .i64 0] ∧ Ch [U, U + 20, U + 21, U + 22, U + 23] s s' ∧ VolL s' vp d U V.tick 0 := by
 have hcan := hg.can
 have hg2 := hg
 unfold GeoOk at hg2
 have hgb := hg.gb
 obtain ⟨M, hM, hM0, hMa, hMb, hMc, hMd, hMe, hMf⟩ := fresh6 s (U + 50) 0 0 0 0 0
 refine F183_calls _ _ _ _ _ _ _  ?_
 unfold F183
 refine al_t (M + 1) fun r1 s2 ao ab S ap => ?_
 refine al_t (M + 2) fun r3 s4 aq ac I ar => ?_
 have J := ab.ch I (by simp)
 refine ld_t J rfl (ld_t J rfl (ld_t J rfl ?_))
 have ad := hv.mv (S.app I) (rngn50 (by simp))
 refine tcall (c_aheader vp d U V G B N n i0 i1 i2 i3 i4 i5 i6 i7 b0 b1 b2 b3 b4 b5 b6 b7 b8 b9 b c e f g h i j k l m o p q r t u w x y z A _ ad hU hg hl (by omega) hn hnow) ?_
 rintro ae au ⟨rfl, C, K⟩
 have af := C.size
 refine dT2 (dA41 (dInt_i ?_))
 refine al_t (M + 3) fun av aw ag L E ah => ?_
 refine stG (n : Int) (il := [i0, i1, i2, i3, i4, i5, i6, i7]) (bl := [b0, b1, b2, b3, b4, b5, b6, b7, b8, b9, b, c, e, f, g, h, i, j, k, l, m, o, p, q, r, t, u, w, x, y, z, A]) rfl rfl rfl L (by rfl) fun ax F Q ai => ?_
 have H := on_ch L Q
 refine sB_f (by rfl) (sB_f (by rfl) ?_)
 refine ld41 F ?_
 refine ask_t (by omega) ?_
 try rw [slO_zero]
 refine tcall (c_bhas (xn := 32) 32 (gv_slB F rfl rfl) rfl bit (by omega)) ?_
 rintro aj ak ⟨rfl, a⟩
 have al := a.size
 refine dBl_i ?_
 refine ⟨?_, ?_⟩
 ·
  have T := F.ch a (by simp)
  refine ld41 T ?_
  rfl
 ·
  have W := (((C.app E).app H).app a)
  have O := ac.ch W (by simp <;> omega)
  refine stG (n : Int) (il := [i0, i1, i2, i3, i4, i5, i6, i7]) (bl := [b0, b1, b2, b3, b4, b5, b6, b7, b8, b9, b, c, e, f, g, h, i, j, k, l, m, o, p, q, r, t, u, w, x, y, z, A]) rfl rfl rfl O (by rfl) fun am X R an => ?_
  have P := on_ch O R
  refine ld41 X ?_
  refine ret_t ?_
  have Y := (((S.app I).app C).app E)
  have Z := (((E.app H).app a).app P)
  have aa := K.mv Z (rngn50 (by simp <;> omega))
  exact ⟨rfl, (((((Ch.refl [U, U + 20, U + 21, U + 22, U + 23] s).ch Y (by simp)).fr H hM (by simp)).ch a (by simp)).fr P hM (by simp)), aa⟩
structure GivR (B n bit : Nat) (l : List UInt8) (V V' : VolM) (e : Int) : Prop where
 or_ : (e = 110 ∧ hasB l bit = false ∧ V' = V.tick) ∨ (e = 0 ∧ hasB l bit = true ∧ ChT V.tick (hB n B) (12 + ((bit / 8 : Nat) : Int)) [setTo (l.getD (bit / 8) 0) (bit % 8) false] V')
set_option maxRecDepth 100000 in
/-- bollard/alloc.give -/
theorem c_give12 (vp d U : Nat) (V : VolM) (G B N : Nat) (n bit : Nat) (i0 i1 i2 i3 i4 i5 i6 i7 b0 b1 b2 b3 b4 b5 b6 b7 b8 b9 c f g i j k l m o p q r t u w y z A C E F H : UInt8) {na : Option Addr} {nn : Nat} (nc : Nat) {needs : List Int} {τn : Nat} (s : TH) (hv : VolL s vp d U V 0) (hU : 10 ≤ U) (hg : GeoOk G B N) (hl : V.D.blocks.length = G * B) (hvn : V.n < 100000000000) (hlp : V.P.last < 900000) (hn : n < G) (hbit : bit < 256) (hnow : V.now (hB n B) = hdL n [i0, i1, i2, i3, i4, i5, i6, i7] [b0, b1, b2, b3, b4, b5, b6, b7, b8, b9, c, f, g, i, j, k, l, m, o, p, q, r, t, u, w, y, z, A, C, E, F, H]) (hN : Sl s na (ivs needs) τn) (hnn : needs.length = nn) (hnl : nn ≤ 1000) (hnd : ∀ n ∈ needs, 1 ≤ n ∧ n ≤ V.P.last) (hτn : τn < U ∨ U + 50 ≤ τn) : TRet Tryz.prog 157 #[.pointer (some ⟨vp, 0, none⟩), .agg #[.int .i64 (G : Int), .int .i64 (B : Int), .int .i64 (N : Int)], .int .i64 (n : Int), .int .i64 (bit : Int), .int .i64 12, .slice na nn nc] s fun v s' => ∃ V' x e, v = .tuple #[.int .i64 x, .int .i64 e] ∧ Ch [U, U + 3, U + 20, U + 21, U + 22, U + 23, U + 30, U + 32] s s' ∧ VolL s' vp d U V' 0 ∧ GivR B n bit [b0, b1, b2, b3, b4, b5, b6, b7, b8, b9, c, f, g, i, j, k, l, m, o, p, q, r, t, u, w, y, z, A, C, E, F, H] V V' e ∧ (e = 0 → x = V.P.last + 1) := by
 have hcan := hg.can
 have hg2 := hg
 unfold GeoOk at hg2
 have hgb := hg.gb
 have hpk := hv.pokk
 have hp0 := hpk.lst
 obtain ⟨M, hM, hM0, hMa, hMb, hMc, hMd, hMe, hMf⟩ := fresh6 s (U + 50) τn 0 0 0 0
 refine F157_calls _ _ _ _ _ _ _ _ _ _  ?_
 unfold F157
 refine al_t (M + 1) fun r1 s2 ao L O ap => ?_
 refine ld_t L rfl (ld_t L rfl (ld_t L rfl ?_))
 have ag := hv.mv O (rngn50 (by simp))
 refine tcall (c_place12 vp d U V G B N n bit i0 i1 i2 i3 i4 i5 i6 i7 b0 b1 b2 b3 b4 b5 b6 b7 b8 b9 c f g i j k l m o p q r t u w y z A C E F H _ ag hU hg hl (by omega) hn hbit hnow) ?_
 rintro aq ar ⟨rfl, I, J⟩
 have au := I.size
 refine dT3 (dA41 (dBl_i (dInt_i ?_)))
 refine al_t (M + 2) fun av aw ai Q a aj => ?_
 refine stG (n : Int) (il := [i0, i1, i2, i3, i4, i5, i6, i7]) (bl := [b0, b1, b2, b3, b4, b5, b6, b7, b8, b9, c, f, g, i, j, k, l, m, o, p, q, r, t, u, w, y, z, A, C, E, F, H]) rfl rfl rfl Q (by rfl) fun ax X W ak => ?_
 have b := on_ch Q W
 refine sB_f (by rfl) ?_
 refine sB_n (fun Y => ?_) (fun Y => ?_)
 ·
  refine ret_t ?_
  have Z := ((O.app I).app a)
  have aa := J.mv (a.app b) (rngn50 (by simp <;> omega))
  exact ⟨_, _, _, rfl, (((Ch.refl [U, U + 3, U + 20, U + 21, U + 22, U + 23, U + 30, U + 32] s).ch Z (by simp)).fr b hM (by simp)), aa, ⟨.inl ⟨rfl, by (first | assumption | simp_all), rfl⟩⟩, fun h => by omega⟩
 ·
  have ab := ((I.app a).app b)
  have K := L.ch ab (by simp <;> omega)
  refine ld_t K rfl (ld_t K rfl (ld_t K rfl ?_))
  refine ld41 X ?_
  have ac := J.mv (a.app b) (rngn50 (by simp <;> omega))
  have ad := (((O.app I).app a).app b)
  have ae := hN.mv ad (tagn (by simp <;> omega))
  refine tcall (c_turn vp d U V.tick G B N n bit false i0 i1 i2 i3 i4 i5 i6 i7 b0 b1 b2 b3 b4 b5 b6 b7 b8 b9 c f g i j k l m o p q r t u w y z A C E F H nc _ ac hU hg (by show V.n + 1 < _; omega) hlp hl hn hbit ae hnn hnl hnd hτn) ?_
  rintro al am ⟨ah, rfl, R, S, T⟩
  have an := R.size
  refine dT2 (dInt_i (dInt_i ?_))
  refine ret_t ?_
  have af := ((O.app I).app a)
  exact ⟨_, _, _, rfl, ((((Ch.refl [U, U + 3, U + 20, U + 21, U + 22, U + 23, U + 30, U + 32] s).ch af (by simp)).fr b hM (by simp)).ch R (by simp)), T, ⟨.inr ⟨rfl, by (first | assumption | simp_all), S⟩⟩, fun _ => rfl⟩
theorem abk_dm {B n i : Nat} (hi : i < B) : (((n * B + i : Nat) : Int)) / (B : Int) = (n : Int) ∧ (((n * B + i : Nat) : Int)) % (B : Int) = (i : Int) := by
 rw [← Int.natCast_ediv, ← Int.natCast_emod, Nat.mul_comm n B, Nat.mul_add_div (by omega), Nat.mul_add_mod, Nat.div_eq_of_lt hi, Nat.mod_eq_of_lt hi, Nat.add_zero]
 exact ⟨rfl, rfl⟩
theorem abk_rng {G B n i : Nat} (hn : n < G) (hi : i < B) : 0 ≤ ((n * B + i : Nat) : Int) ∧ ((n * B + i : Nat) : Int) < (G : Int) * (B : Int) := by
 have h1 : (n + 1) * B ≤ G * B := Nat.mul_le_mul_right B hn
 have h3 : (G : Int) * (B : Int) = ((G * B : Nat) : Int) := (Int.natCast_mul G B).symm
 rw [Nat.succ_mul] at h1
 rw [h3]; omega
theorem c_freeblk (vp d U : Nat) (V : VolM) (G B N : Nat) (n i : Nat) (A : Nat → List UInt8 × List UInt8) {na : Option Addr} {nn : Nat} (nc : Nat) {needs : List Int} {τn : Nat} (s : TH) (hv : VolL s vp d U V 0) (hU : 10 ≤ U) (hg : GeoOk G B N) (hvn : V.n < 100000000) (hlp : V.P.last < 900000) (hA : AS G B V A) (hn : n < G) (hi : 2 + N / 4 ≤ i) (hiB : i < B) (hN : Sl s na (ivs needs) τn) (hnn : needs.length = nn) (hnl : nn ≤ 1000) (hnd : ∀ n ∈ needs, 1 ≤ n ∧ n ≤ V.P.last) (hτn : τn < U ∨ U + 50 ≤ τn) : TRet Tryz.prog 107 #[.pointer (some ⟨vp, 0, none⟩), .agg #[.int .i64 (G : Int), .int .i64 (B : Int), .int .i64 (N : Int)], .int .i64 ((n * B + i : Nat) : Int), .slice na nn nc] s fun v s' => ∃ V' x e, v = .tuple #[.int .i64 x, .int .i64 e] ∧ Ch [U, U + 3, U + 20, U + 21, U + 22, U + 23, U + 30, U + 32] s s' ∧ VolL s' vp d U V' 0 ∧ GivR B n i (A n).2 V V' e ∧ (e = 0 → x = V.P.last + 1) := by
 have hcan := hg.can
 have hg2 := hg
 unfold GeoOk at hg2
 have hgb := hg.gb
 have hpk := hv.pokk
 have hp0 := hpk.lst
 have hl := hA.len
 have hgbI : (G : Int) * (B : Int) = ((G * B : Nat) : Int) := (Int.natCast_mul G B).symm
 have hfr := abk_rng hn hiB
 have hdm := abk_dm (n := n) hiB
 obtain ⟨i0, i1, i2, i3, i4, i5, i6, i7, hil⟩ := len8 (hA.l8 n hn)
 obtain ⟨b0, b1, b2, b3, b4, b5, b6, b7, b8, b9, r, t, u, w, y, z, C, D, E, F, H, I, J, K, L, O, Q, R, S, T, W, X, hbl⟩ := len32 (hA.l32 n hn)
 have hnow : V.now (hB n B) = hdL n [i0, i1, i2, i3, i4, i5, i6, i7] [b0, b1, b2, b3, b4, b5, b6, b7, b8, b9, r, t, u, w, y, z, C, D, E, F, H, I, J, K, L, O, Q, R, S, T, W, X] := by rw [← hil, ← hbl]; exact hA.now n hn
 obtain ⟨M, hM, hM0, hMa, hMb, hMc, hMd, hMe, hMf⟩ := fresh6 s (U + 50) τn 0 0 0 0
 refine F107_calls _ _ _ _ _ _ _ _  ?_
 unfold F107
 refine al_t (M + 1) fun r1 s2 aq h k ar => ?_
 refine ld_t h rfl (ld_t h rfl (ld_t h rfl ?_))
 have ad := hv.mv k (rngn50 (by simp))
 refine tcall (c_readyA vp d U V _ _ _ _ ad hU hcan (by rw [hl, hgbI]; omega)) ?_
 rintro au av ⟨rfl, j, l⟩
 have aw := j.size
 refine dInt_i (sB_f (by rfl) ?_)
 have c := h.ch j (by simp <;> omega)
 refine ld_t c rfl (ld_t c rfl (ld_t c rfl ?_))
 refine tcall (gc_isdata (G : Int) (B : Int) (N : Int) _ hcan hfr _) ?_
 rintro ah ai ⟨rfl, a⟩
 have aj := a.size
 rw [hdm.2]
 refine dBl_i ?_
 refine sB_nd (fun Y => by exfalso; omega) (fun Y => ?_)
 have f := c.ch a (by simp)
 refine ld_t f rfl (ld_t f rfl (ld_t f rfl ?_))
 refine tcall (gc_group (G : Int) (B : Int) (N : Int) _ hcan hfr _) ?_
 rintro ak al ⟨rfl, b⟩
 have am := b.size
 rw [hdm.1, hdm.2]
 refine dT3 (dInt_i (dInt_i (dBl_i ?_)))
 have g := f.ch b (by simp)
 refine ld_t g rfl (ld_t g rfl (ld_t g rfl ?_))
 have Z := l.mv (a.app b) (rngn50 (by simp))
 have aa := (((k.app j).app a).app b)
 have ab := hN.mv aa (tagn (by simp <;> omega))
 refine tcall (c_give12 vp d U V G B N n i i0 i1 i2 i3 i4 i5 i6 i7 b0 b1 b2 b3 b4 b5 b6 b7 b8 b9 r t u w y z C D E F H I J K L O Q R S T W X nc _ Z hU hg hl (by omega) hlp hn (by omega) hnow ab hnn hnl hnd hτn) ?_
 rintro an ao ⟨ae, af, ag, rfl, m, o, p, q⟩
 have ap := m.size
 refine dT2 (dInt_i (dInt_i ?_))
 refine ret_t ?_
 have ac := (((j.app a).app b).app m)
 exact ⟨_, _, _, rfl, (((Ch.refl [U, U + 3, U + 20, U + 21, U + 22, U + 23, U + 30, U + 32] s).ch k (by simp)).ch ac (by simp)), o, by rw [hbl]; exact p, q⟩
set_option maxRecDepth 100000 in
/-- bollard/alloc.place -/
theorem c_place4 (vp d U : Nat) (V : VolM) (G B N : Nat) (n bit : Nat) (i0 i1 i2 i3 i4 i5 i6 i7 b0 b1 b2 b3 b4 b5 b6 b7 b8 b9 b c e f g h i j k l m o p q r t u w x y z A : UInt8) (s : TH) (hv : VolL s vp d U V 0) (hU : 10 ≤ U) (hg : GeoOk G B N) (hl : V.D.blocks.length = G * B) (hvn : V.n < 1000000000000) (hn : n < G) (hbit : bit < 64) (hnow : V.now (hB n B) = hdL n [i0, i1, i2, i3, i4, i5, i6, i7] [b0, b1, b2, b3, b4, b5, b6, b7, b8, b9, b, c, e, f, g, h, i, j, k, l, m, o, p, q, r, t, u, w, x, y, z, A]) : TRet Tryz.prog 183 #[.pointer (some ⟨vp, 0, none⟩), .agg #[.int .i64 (G : Int), .int .i64 (B : Int), .int .i64 (N : Int)], .int .i64 (n : Int), .int .i64 (bit : Int), .int .i64 4] s fun v s' => v = .tuple #[.agg (gv (n : Int) [i0, i1, i2, i3, i4, i5, i6, i7] [b0, b1, b2, b3, b4, b5, b6, b7, b8, b9, b, c, e, f, g, h, i, j, k, l, m, o, p, q, r, t, u, w, x, y, z, A]).toArray, .bool (hasB [i0, i1, i2, i3, i4, i5, i6, i7] bit), .int .i64 0] ∧ Ch [U, U + 20, U + 21, U + 22, U + 23] s s' ∧ VolL s' vp d U V.tick 0 := by
 have hcan := hg.can
 have hg2 := hg
 unfold GeoOk at hg2
 have hgb := hg.gb
 obtain ⟨M, hM, hM0, hMa, hMb, hMc, hMd, hMe, hMf⟩ := fresh6 s (U + 50) 0 0 0 0 0
 refine F183_calls _ _ _ _ _ _ _  ?_
 unfold F183
 refine al_t (M + 1) fun r1 s2 ao ab S ap => ?_
 refine al_t (M + 2) fun r3 s4 aq ac I ar => ?_
 have J := ab.ch I (by simp)
 refine ld_t J rfl (ld_t J rfl (ld_t J rfl ?_))
 have ad := hv.mv (S.app I) (rngn50 (by simp))
 refine tcall (c_aheader vp d U V G B N n i0 i1 i2 i3 i4 i5 i6 i7 b0 b1 b2 b3 b4 b5 b6 b7 b8 b9 b c e f g h i j k l m o p q r t u w x y z A _ ad hU hg hl (by omega) hn hnow) ?_
 rintro ae au ⟨rfl, C, K⟩
 have af := C.size
 refine dT2 (dA41 (dInt_i ?_))
 refine al_t (M + 3) fun av aw ag L E ah => ?_
 refine stG (n : Int) (il := [i0, i1, i2, i3, i4, i5, i6, i7]) (bl := [b0, b1, b2, b3, b4, b5, b6, b7, b8, b9, b, c, e, f, g, h, i, j, k, l, m, o, p, q, r, t, u, w, x, y, z, A]) rfl rfl rfl L (by rfl) fun ax F Q ai => ?_
 have H := on_ch L Q
 refine sB_f (by rfl) (sB_t (by rfl) ?_)
 refine ld41 F ?_
 refine ask_t (by omega) ?_
 try rw [slO_zero]
 refine tcall (c_bhas (xn := 8) 8 (gv_slI F rfl rfl) rfl bit (by omega)) ?_
 rintro aj ak ⟨rfl, a⟩
 have al := a.size
 refine dBl_i ?_
 refine ⟨?_, ?_⟩
 ·
  have T := F.ch a (by simp)
  refine ld41 T ?_
  rfl
 ·
  have W := (((C.app E).app H).app a)
  have O := ac.ch W (by simp <;> omega)
  refine stG (n : Int) (il := [i0, i1, i2, i3, i4, i5, i6, i7]) (bl := [b0, b1, b2, b3, b4, b5, b6, b7, b8, b9, b, c, e, f, g, h, i, j, k, l, m, o, p, q, r, t, u, w, x, y, z, A]) rfl rfl rfl O (by rfl) fun am X R an => ?_
  have P := on_ch O R
  refine ld41 X ?_
  refine ret_t ?_
  have Y := (((S.app I).app C).app E)
  have Z := (((E.app H).app a).app P)
  have aa := K.mv Z (rngn50 (by simp <;> omega))
  exact ⟨rfl, (((((Ch.refl [U, U + 20, U + 21, U + 22, U + 23] s).ch Y (by simp)).fr H hM (by simp)).ch a (by simp)).fr P hM (by simp)), aa⟩
theorem hdL_setI {n : Nat} {il bl : List UInt8} (h8 : il.length = 8) (h32 : bl.length = 32) {q : Nat} (hq : q < 8) (x : UInt8) : overlay (hdL n il bl) ((4 + (q : Int)).toNat) [x] = hdL n (il.set q x) bl := by
 have e : (4 + (q : Int)).toNat = 4 + q := by omega
 rw [e, overlay1 _ _ _ (by rw [hdL_len n h8 h32]; omega)]
 unfold hdL
 rw [List.append_assoc, List.append_assoc, List.append_assoc, List.append_assoc, List.set_append, if_neg (by simp), List.length_cons, List.length_cons, List.length_cons, List.length_cons, List.length_nil, Nat.add_sub_cancel_left, List.set_append, if_pos (by omega)]
def updI (A : Nat → List UInt8 × List UInt8) (n : Nat) (il : List UInt8) : Nat → List UInt8 × List UInt8 := fun m => if m = n then (il, (A n).2) else A m
theorem AS.upI {G B : Nat} {V V' : VolM} {A : Nat → List UInt8 × List UInt8} (h : AS G B V A) (hB2 : 2 ≤ B) {n q : Nat} (hn : n < G) (hq : q < 8) {x : UInt8} (c : ChT V (hB n B) (4 + (q : Int)) [x] V') : AS G B V' (updI A n ((A n).1.set q x)) := by
 refine ⟨by rw [c.D]; exact h.len, fun m hm => ?_, fun m hm => ?_, fun m hm => ?_⟩
 ·unfold updI; split
  ·rw [List.length_set]; exact h.l8 n hn
  ·exact h.l8 m hm
 ·unfold updI; split
  ·exact h.l32 n hn
  ·exact h.l32 m hm
 ·unfold updI
  by_cases e : m = n
  ·subst e; rw [if_pos rfl, c.now, h.now m hn, hdL_setI (h.l8 m hn) (h.l32 m hn) hq]
  ·rw [if_neg e, c.ne _ (fun h2 => e (hB_inj hB2 h2))]; exact h.now m hm
theorem cntB_congr {l l' : List UInt8} : ∀ {n : Nat}, (∀ j, j < n → hasB l j = hasB l' j) → cntB l n = cntB l' n
 | 0, _ => rfl
 | n + 1, h => by rw [cntB, cntB, cntB_congr (fun j hj => h j (by omega)), h n (by omega)]
theorem rowI_has {n : Nat} {l : List UInt8} (h8 : l.length = 8) (j : Nat) : hasB (rowI n l) j = if n = 0 ∧ j < 2 then true else hasB l j := by
 unfold rowI
 by_cases e : n = 0
 ·rw [if_pos e, rk_has (by omega)]
  by_cases e2 : j < 2
  ·rw [if_pos e2, if_pos ⟨e, e2⟩]
  ·rw [if_neg e2, if_neg (fun h => e2 h.2)]
 ·rw [if_neg e, if_neg (fun h => e h.1)]
theorem rowI_false {n i : Nat} {l : List UInt8} (h8 : l.length = 8) (h : hasB (rowI n l) i = false) : hasB l i = false ∧ ¬ (n = 0 ∧ i < 2) := by
 rw [rowI_has h8] at h
 by_cases e : n = 0 ∧ i < 2
 ·rw [if_pos e] at h; cases h
 ·rw [if_neg e] at h; exact ⟨h, e⟩
set_option maxRecDepth 20000 in
theorem ld41e {s : TH} {r t τ j : Nat} {L : List Value} {w0 w1 w2 w3 w4 w5 w6 w7 w8 w9 w10 w11 w12 w13 w14 w15 w16 w17 w18 w19 w20 w21 w22 w23 w24 w25 w26 w27 w28 w29 w30 w31 w32 w33 w34 w35 w36 w37 w38 w39 w40 : Value} {k : Value → Value → Value → Value → Value → Value → Value → Value → Value → Value → Value → Value → Value → Value → Value → Value → Value → Value → Value → Value → Value → Value → Value → Value → Value → Value → Value → Value → Value → Value → Value → Value → Value → Value → Value → Value → Value → Value → Value → Value → Value → Prop} (h : Blk s r L t τ) (hw : ∀ y, y < 41 → L[j * 41 + y]? = ([w0, w1, w2, w3, w4, w5, w6, w7, w8, w9, w10, w11, w12, w13, w14, w15, w16, w17, w18, w19, w20, w21, w22, w23, w24, w25, w26, w27, w28, w29, w30, w31, w32, w33, w34, w35, w36, w37, w38, w39, w40] : List Value)[y]?) (hk : k w0 w1 w2 w3 w4 w5 w6 w7 w8 w9 w10 w11 w12 w13 w14 w15 w16 w17 w18 w19 w20 w21 w22 w23 w24 w25 w26 w27 w28 w29 w30 w31 w32 w33 w34 w35 w36 w37 w38 w39 w40) : ld s.h (Addr.add (Addr.mk r 0 none) (Int.toNat (j : Int) * 41)) fun v0 => ld s.h (Addr.add (Addr.add (Addr.mk r 0 none) (Int.toNat (j : Int) * 41)) 1) fun v1 => ld s.h (Addr.add (Addr.add (Addr.mk r 0 none) (Int.toNat (j : Int) * 41)) 2) fun v2 => ld s.h (Addr.add (Addr.add (Addr.mk r 0 none) (Int.toNat (j : Int) * 41)) 3) fun v3 => ld s.h (Addr.add (Addr.add (Addr.mk r 0 none) (Int.toNat (j : Int) * 41)) 4) fun v4 => ld s.h (Addr.add (Addr.add (Addr.mk r 0 none) (Int.toNat (j : Int) * 41)) 5) fun v5 => ld s.h (Addr.add (Addr.add (Addr.mk r 0 none) (Int.toNat (j : Int) * 41)) 6) fun v6 => ld s.h (Addr.add (Addr.add (Addr.mk r 0 none) (Int.toNat (j : Int) * 41)) 7) fun v7 => ld s.h (Addr.add (Addr.add (Addr.mk r 0 none) (Int.toNat (j : Int) * 41)) 8) fun v8 => ld s.h (Addr.add (Addr.add (Addr.mk r 0 none) (Int.toNat (j : Int) * 41)) 9) fun v9 => ld s.h (Addr.add (Addr.add (Addr.mk r 0 none) (Int.toNat (j : Int) * 41)) 10) fun v10 => ld s.h (Addr.add (Addr.add (Addr.mk r 0 none) (Int.toNat (j : Int) * 41)) 11) fun v11 => ld s.h (Addr.add (Addr.add (Addr.mk r 0 none) (Int.toNat (j : Int) * 41)) 12) fun v12 => ld s.h (Addr.add (Addr.add (Addr.mk r 0 none) (Int.toNat (j : Int) * 41)) 13) fun v13 => ld s.h (Addr.add (Addr.add (Addr.mk r 0 none) (Int.toNat (j : Int) * 41)) 14) fun v14 => ld s.h (Addr.add (Addr.add (Addr.mk r 0 none) (Int.toNat (j : Int) * 41)) 15) fun v15 => ld s.h (Addr.add (Addr.add (Addr.mk r 0 none) (Int.toNat (j : Int) * 41)) 16) fun v16 => ld s.h (Addr.add (Addr.add (Addr.mk r 0 none) (Int.toNat (j : Int) * 41)) 17) fun v17 => ld s.h (Addr.add (Addr.add (Addr.mk r 0 none) (Int.toNat (j : Int) * 41)) 18) fun v18 => ld s.h (Addr.add (Addr.add (Addr.mk r 0 none) (Int.toNat (j : Int) * 41)) 19) fun v19 => ld s.h (Addr.add (Addr.add (Addr.mk r 0 none) (Int.toNat (j : Int) * 41)) 20) fun v20 => ld s.h (Addr.add (Addr.add (Addr.mk r 0 none) (Int.toNat (j : Int) * 41)) 21) fun v21 => ld s.h (Addr.add (Addr.add (Addr.mk r 0 none) (Int.toNat (j : Int) * 41)) 22) fun v22 => ld s.h (Addr.add (Addr.add (Addr.mk r 0 none) (Int.toNat (j : Int) * 41)) 23) fun v23 => ld s.h (Addr.add (Addr.add (Addr.mk r 0 none) (Int.toNat (j : Int) * 41)) 24) fun v24 => ld s.h (Addr.add (Addr.add (Addr.mk r 0 none) (Int.toNat (j : Int) * 41)) 25) fun v25 => ld s.h (Addr.add (Addr.add (Addr.mk r 0 none) (Int.toNat (j : Int) * 41)) 26) fun v26 => ld s.h (Addr.add (Addr.add (Addr.mk r 0 none) (Int.toNat (j : Int) * 41)) 27) fun v27 => ld s.h (Addr.add (Addr.add (Addr.mk r 0 none) (Int.toNat (j : Int) * 41)) 28) fun v28 => ld s.h (Addr.add (Addr.add (Addr.mk r 0 none) (Int.toNat (j : Int) * 41)) 29) fun v29 => ld s.h (Addr.add (Addr.add (Addr.mk r 0 none) (Int.toNat (j : Int) * 41)) 30) fun v30 => ld s.h (Addr.add (Addr.add (Addr.mk r 0 none) (Int.toNat (j : Int) * 41)) 31) fun v31 => ld s.h (Addr.add (Addr.add (Addr.mk r 0 none) (Int.toNat (j : Int) * 41)) 32) fun v32 => ld s.h (Addr.add (Addr.add (Addr.mk r 0 none) (Int.toNat (j : Int) * 41)) 33) fun v33 => ld s.h (Addr.add (Addr.add (Addr.mk r 0 none) (Int.toNat (j : Int) * 41)) 34) fun v34 => ld s.h (Addr.add (Addr.add (Addr.mk r 0 none) (Int.toNat (j : Int) * 41)) 35) fun v35 => ld s.h (Addr.add (Addr.add (Addr.mk r 0 none) (Int.toNat (j : Int) * 41)) 36) fun v36 => ld s.h (Addr.add (Addr.add (Addr.mk r 0 none) (Int.toNat (j : Int) * 41)) 37) fun v37 => ld s.h (Addr.add (Addr.add (Addr.mk r 0 none) (Int.toNat (j : Int) * 41)) 38) fun v38 => ld s.h (Addr.add (Addr.add (Addr.mk r 0 none) (Int.toNat (j : Int) * 41)) 39) fun v39 => ld s.h (Addr.add (Addr.add (Addr.mk r 0 none) (Int.toNat (j : Int) * 41)) 40) fun v40 => k v0 v1 v2 v3 v4 v5 v6 v7 v8 v9 v10 v11 v12 v13 v14 v15 v16 v17 v18 v19 v20 v21 v22 v23 v24 v25 v26 v27 v28 v29 v30 v31 v32 v33 v34 v35 v36 v37 v38 v39 v40 := by
 refine ld_sl h.sl (hw 0 (by omega)) ?_
 refine ld_sl2 h.sl (hw 1 (by omega)) ?_
 refine ld_sl2 h.sl (hw 2 (by omega)) ?_
 refine ld_sl2 h.sl (hw 3 (by omega)) ?_
 refine ld_sl2 h.sl (hw 4 (by omega)) ?_
 refine ld_sl2 h.sl (hw 5 (by omega)) ?_
 refine ld_sl2 h.sl (hw 6 (by omega)) ?_
 refine ld_sl2 h.sl (hw 7 (by omega)) ?_
 refine ld_sl2 h.sl (hw 8 (by omega)) ?_
 refine ld_sl2 h.sl (hw 9 (by omega)) ?_
 refine ld_sl2 h.sl (hw 10 (by omega)) ?_
 refine ld_sl2 h.sl (hw 11 (by omega)) ?_
 refine ld_sl2 h.sl (hw 12 (by omega)) ?_
 refine ld_sl2 h.sl (hw 13 (by omega)) ?_
 refine ld_sl2 h.sl (hw 14 (by omega)) ?_
 refine ld_sl2 h.sl (hw 15 (by omega)) ?_
 refine ld_sl2 h.sl (hw 16 (by omega)) ?_
 refine ld_sl2 h.sl (hw 17 (by omega)) ?_
 refine ld_sl2 h.sl (hw 18 (by omega)) ?_
 refine ld_sl2 h.sl (hw 19 (by omega)) ?_
 refine ld_sl2 h.sl (hw 20 (by omega)) ?_
 refine ld_sl2 h.sl (hw 21 (by omega)) ?_
 refine ld_sl2 h.sl (hw 22 (by omega)) ?_
 refine ld_sl2 h.sl (hw 23 (by omega)) ?_
 refine ld_sl2 h.sl (hw 24 (by omega)) ?_
 refine ld_sl2 h.sl (hw 25 (by omega)) ?_
 refine ld_sl2 h.sl (hw 26 (by omega)) ?_
 refine ld_sl2 h.sl (hw 27 (by omega)) ?_
 refine ld_sl2 h.sl (hw 28 (by omega)) ?_
 refine ld_sl2 h.sl (hw 29 (by omega)) ?_
 refine ld_sl2 h.sl (hw 30 (by omega)) ?_
 refine ld_sl2 h.sl (hw 31 (by omega)) ?_
 refine ld_sl2 h.sl (hw 32 (by omega)) ?_
 refine ld_sl2 h.sl (hw 33 (by omega)) ?_
 refine ld_sl2 h.sl (hw 34 (by omega)) ?_
 refine ld_sl2 h.sl (hw 35 (by omega)) ?_
 refine ld_sl2 h.sl (hw 36 (by omega)) ?_
 refine ld_sl2 h.sl (hw 37 (by omega)) ?_
 refine ld_sl2 h.sl (hw 38 (by omega)) ?_
 refine ld_sl2 h.sl (hw 39 (by omega)) ?_
 refine ld_sl2 h.sl (hw 40 (by omega)) ?_
 exact hk
theorem c_turnI (vp d U : Nat) (V : VolM) (G B N : Nat) (n bit : Nat) (on : Bool) (i0 i1 i2 i3 i4 i5 i6 i7 b0 b1 b2 b3 b4 b5 b6 b7 b8 b9 l m p q r t u w z A C E F H I J K L O Q R S : UInt8) {na : Option Addr} {nn : Nat} (nc : Nat) {needs : List Int} {τn : Nat} (s : TH) (hv : VolL s vp d U V 0) (hU : 10 ≤ U) (hg : GeoOk G B N) (hvn : V.n < 1000000000000) (hlp : V.P.last < 900000) (hl : V.D.blocks.length = G * B) (hn : n < G) (hbit : bit < 64) (hN : Sl s na (ivs needs) τn) (hnn : needs.length = nn) (hnl : nn ≤ 1000) (hnd : ∀ n ∈ needs, 1 ≤ n ∧ n ≤ V.P.last) (hτn : τn < U ∨ U + 50 ≤ τn) : TRet Tryz.prog 88 #[.pointer (some ⟨vp, 0, none⟩), .agg #[.int .i64 (G : Int), .int .i64 (B : Int), .int .i64 (N : Int)], .agg (gv (n : Int) [i0, i1, i2, i3, i4, i5, i6, i7] [b0, b1, b2, b3, b4, b5, b6, b7, b8, b9, l, m, p, q, r, t, u, w, z, A, C, E, F, H, I, J, K, L, O, Q, R, S]).toArray, .int .i64 4, .int .i64 (bit : Int), .bool on, .slice na nn nc] s fun v s' => ∃ V', v = .tuple #[.int .i64 (V.P.last + 1), .int .i64 0] ∧ Ch [U, U + 3, U + 20, U + 21, U + 22, U + 23, U + 30, U + 32] s s' ∧ ChT V (hB n B) (4 + ((bit / 8 : Nat) : Int)) [setTo ([i0, i1, i2, i3, i4, i5, i6, i7].getD (bit / 8) 0) (bit % 8) on] V' ∧ VolL s' vp d U V' 0 := by
 have hcan := hg.can
 have hg2 := hg
 unfold GeoOk at hg2
 have hgb := hg.gb
 have hpk := hv.pokk
 have hp0 := hpk.lst
 have hhas := has_hd hg hl hn
 obtain ⟨bx, hbx⟩ : ∃ x, x = setTo ([i0, i1, i2, i3, i4, i5, i6, i7].getD (bit / 8) 0) (bit % 8) on := ⟨_, rfl⟩
 rw [← hbx]
 have hwb : (withB [i0, i1, i2, i3, i4, i5, i6, i7] bit on)[bit / 8]? = some bx := by rw [hbx]; unfold withB; rw [List.getElem?_set_self (by show bit / 8 < 8; omega)]
 have hch := change_t (V := V) (o := 4 + ((bit / 8 : Nat) : Int)) (y := [bx]) (needs := needs) hpk hhas (fits1 hhas.1 (by omega) (by omega)) hnd (by omega)
 obtain ⟨M, hM, hM0, hMa, hMb, hMc, hMd, hMe, hMf⟩ := fresh6 s (U + 50) τn 0 0 0 0
 refine F88_calls _ _ _ _ _ _ _ _ _ _ _ _ _ _ _ _ _ _ _ _ _ _ _ _ _ _ _ _ _ _ _ _ _ _ _ _ _ _ _ _ _ _ _ _ _ _ _ _ _ _ _  ?_
 unfold F88
 refine al_t (M + 1) fun r1 s2 ar ab T au => ?_
 refine al_t (M + 2) fun r3 s4 av ac e aw => ?_
 have hg1 : Blk s4 r3 (gv (n : Int) [i0, i1, i2, i3, i4, i5, i6, i7] [b0, b1, b2, b3, b4, b5, b6, b7, b8, b9, l, m, p, q, r, t, u, w, z, A, C, E, F, H, I, J, K, L, O, Q, R, S]) 118 (M + 2) := ac
 refine ask_t (by omega) ?_
 refine jn_u ?_
 refine sB_t (by rfl) (ask_t (by omega) ?_)
 intro _
 intros
 refine dSl_i ?_
 try rw [slO_zero]
 refine tcall (c_bwith (xn := 8) (M + 10) 8 (gv_slI hg1 rfl rfl) rfl (by omega) bit (by omega) on) ?_
 rintro ax ay ⟨ad, ae, rfl, a, f⟩
 have ah := a.size
 refine dT2 (dSl_i (dInt_i (sB_f (by rfl) ?_)))
 have c := ab.ch (e.app a) (by simp)
 refine ld_t c rfl (ld_t c rfl (ld_t c rfl ?_))
 have W := hg1.ch a (by simp)
 refine ld_t W rfl (dInt_i ?_)
 refine tcall (gc_header (G : Int) (B : Int) (N : Int) (n : Int) hcan (by omega) _) ?_
 rintro ai aj ⟨rfl, b⟩
 have ak := b.size
 rw [show (n : Int) * (B : Int) + 1 = hB n B from rfl]
 refine dT2 (dInt_i (dBl_i (ask_t (by omega) ?_)))
 try rw [td8]
 refine wr_t (by omega) ?_
 try rw [td8]
 refine wr_t (by omega) (ask_t (by omega) ?_)
 try rw [td8]
 refine wr_t (by omega) ?_
 have g := f.mv b (tagn (by simp))
 obtain ⟨al, rfl⟩ := g.ne_none (by omega)
 refine nz_i (ask_t (by omega) ?_)
 refine ld_sl (g).sl (by rw [Int.toNat_natCast, Nat.mul_one]; exact bvs_get hwb) ?_
 refine dInt_i ?_
 refine al_t (M + 3) fun af ag am X h an => ?_
 have hy8 : Sl ag (some ⟨af, 0, none⟩) (bvs [bx]) (M + 3) := (X).sl
 have i := ((((T.app e).app a).app b).app h)
 have Y := hN.mv i (tagn (by simp))
 have Z := hv.mv i (rngn50 (by simp))
 refine tcall (c_VChange _ _ _ _ _ _ _ _ _ (by omega) Z hy8 rfl Y hnn (by omega) (by omega) (by omega) (by omega)) ?_
 rintro ao ap ⟨rfl, j, k⟩
 have aq := j.size
 rw [hch.1, hch.2.1]
 refine dT2 (dInt_i (dInt_i ?_))
 refine ret_t ?_
 have aa := ((((e.app a).app b).app h).app j)
 exact ⟨_, rfl, (((Ch.refl [U, U + 3, U + 20, U + 21, U + 22, U + 23, U + 30, U + 32] s).ch T (by simp)).ch aa (by simp)), hch.2.2, k⟩
structure InoR (G B N : Nat) (A : Nat → List UInt8 × List UInt8) (V V' : VolM) (x e : Int) : Prop where
 or_ : (e = 5 ∧ (∀ n, n < G → spN N n (A n).1 = 0) ∧ ∃ k : Nat, k ≤ 16 ∧ V' = V.tk k) ∨
  (e = 0 ∧ ∃ n i k : Nat, n < G ∧ i < N ∧ hasB (rowI n (A n).1) i = false ∧ x = (n : Int) * (N : Int) + (i : Int) ∧ k ≤ 16 ∧ ChT (V.tk k) (hB n B) (4 + ((i / 8 : Nat) : Int)) [setTo ((A n).1.getD (i / 8) 0) (i % 8) true] V')
def gvz : List Value := gv 0 [0, 0, 0, 0, 0, 0, 0, 0] [0, 0, 0, 0, 0, 0, 0, 0, 0, 0, 0, 0, 0, 0, 0, 0, 0, 0, 0, 0, 0, 0, 0, 0, 0, 0, 0, 0, 0, 0, 0, 0]
theorem rowZ_gvz (G : Nat) {q y : Nat} (hq : q < G) (hy : y < 41) : (rowZ gvz G)[q * 41 + y]? = gvz[y]? := by
 have hl : gvz.length = 41 := rfl
 rw [rowZ_get gvz G (q * 41 + y) (by rw [hl]; have : (q + 1) * 41 ≤ G * 41 := Nat.mul_le_mul_right 41 hq; omega), hl]
 congr 1; omega
set_option maxRecDepth 100000 in
/-- bollard/alloc.Inode -/
theorem c_aInodeF (vp d U : Nat) (V : VolM) (G B N : Nat) (near : Nat) (A : Nat → List UInt8 × List UInt8) (s : TH) (hv : VolL s vp d U V 0) (hU : 10 ≤ U) (hg : GeoOk G B N) (hvn : V.n < 100000000) (hlp : V.P.last < 900000) (hA : AS G B V A) (hnr : near < G) : TRet Tryz.prog 31 #[.pointer (some ⟨vp, 0, none⟩), .agg #[.int .i64 (G : Int), .int .i64 (B : Int), .int .i64 (N : Int)], .int .i64 (near : Int), .bool false] s fun v s' => ∃ V' x y e, v = .tuple #[.int .i64 x, .int .i64 y, .int .i64 e] ∧ Ch [U, U + 3, U + 20, U + 21, U + 22, U + 23, U + 30, U + 32] s s' ∧ VolL s' vp d U V' 0 ∧ InoR G B N A V V' x e ∧ (e = 0 → y = V.P.last + 1) := by
 have hcan := hg.can
 have hg2 := hg
 unfold GeoOk at hg2
 have hgb := hg.gb
 have hpk := hv.pokk
 have hp0 := hpk.lst
 have hl := hA.len
 have hgbI : (G : Int) * (B : Int) = ((G * B : Nat) : Int) := (Int.natCast_mul G B).symm
 obtain ⟨M, hM, hM0, hMa, hMb, hMc, hMd, hMe, hMf⟩ := fresh6 s (U + 50) 0 0 0 0 0
 refine F31_calls _ _ _ _ _ _  ?_
 unfold F31
 refine al_t (M + 1) fun r1 s2 bW ao aq bX => ?_
 refine ld_t ao rfl (ld_t ao rfl (ld_t ao rfl ?_))
 have bh := hv.mv aq (rngn50 (by simp))
 refine tcall (c_readyA vp d U V _ _ _ _ bh hU hcan (by rw [hl, hgbI]; omega)) ?_
 rintro bY bZ ⟨rfl, ap, ar⟩
 have ca := ap.size
 refine dInt_i (sB_f (by rfl) ?_)
 refine jn_u ?_
 refine sB_d (fun aO => by exfalso; omega) (fun aO => ?_)
 have aa := ao.ch ap (by simp <;> omega)
 refine ld_t aa rfl (dInt_i ?_)
 intro _
 intros
 refine dBl_i ?_
 refine sB_d (fun aP => by exfalso; omega) (fun aP => ?_)
 refine ld_t aa rfl (dInt_i (ask_t (by omega) ?_))
 refine al_t (M + 2) fun bi au bq aQ ab br => ?_
 have zL : Blk au bi (rowZ gvz G) 118 (M + 2) := aQ
 refine ⟨fun vs H' => ∃ s' : TH, s'.h = H' ∧ ∃ g, vs = [.int .i64 g] ∧ Ch [] au s' ∧ (g = 0), fun vs H' => match vs with | [.int .i64 g] => 0 | _ => 0, ⟨au, rfl, _, rfl, Ch.refl _ _, ?_⟩, ?_⟩
 ·
  exact rfl
 ·
  intro g _ _ _ _ _ _ _ _ _ _ _ _ _ _ _ _ _ _ _ _ _ _ _ _ _ _ H_ hI_15
  obtain ⟨bs, rfl, g_, hvs, f, rfl⟩ := hI_15
  cases hvs
  have bt := f.size
  refine jn_u ?_
  refine sB_f (by rfl) ?_
  intro _
  intros
  refine dBl_i (sB_f (by rfl) ?_)
  refine al_t (M + 3) fun av ac bo aR o bu => ?_
  have zB : Blk ac av (gv 0 [0, 0, 0, 0, 0, 0, 0, 0] [0, 0, 0, 0, 0, 0, 0, 0, 0, 0, 0, 0, 0, 0, 0, 0, 0, 0, 0, 0, 0, 0, 0, 0, 0, 0, 0, 0, 0, 0, 0, 0]) 118 (M + 3) := aR
  refine jn1 (fun fv s' => Ch [U, U + 20, U + 21, U + 22, U + 23, M + 3, M + 9] ac s' ∧ (∃ (m : Int) (nb kt : Nat) (il bl : List UInt8), fv = .int .i64 m ∧ kt ≤ 16 ∧ VolL s' vp d U (V.tk kt) 0 ∧ Blk s' av (gv (nb : Int) il bl) 118 (M + 3) ∧ il.length = 8 ∧ bl.length = 32 ∧ ((m = 0 ∧ ∀ q, q < G → spN N ((near + q) % G) (A ((near + q) % G)).1 = 0) ∨ (0 < m ∧ nb < G ∧ (A nb).1 = il ∧ (A nb).2 = bl ∧ m = spN N nb il)))) ?_ ?_
  ·
   rintro fv bv ⟨ad, m, nb, kt, il, bl, rfl, hkt, hv2, hbst, hl8, hl32, hdis⟩
   have bw := ad.size
   obtain ⟨j0, j1, j2, j3, j4, j5, j6, j7, rfl⟩ := len8 hl8
   obtain ⟨c0, c1, c2, c3, c4, c5, c6, c7, c8, c9, c10, c11, c12, c13, c14, c15, c16, c17, c18, c19, c20, c21, c22, c23, c24, c25, c26, c27, c28, c29, c30, c31, rfl⟩ := len32 hl32
   intro _
   intros
   refine dInt_i ?_
   refine sB_d (fun aS => ?_) (fun aS => ?_)
   ·
    refine ret_t ?_
    have aT := ((((aq.app ap).app ab).app f).app o)
    exact ⟨_, _, _, _, rfl, (((Ch.refl [U, U + 3, U + 20, U + 21, U + 22, U + 23, U + 30, U + 32] s).ch aT (by simp)).fr ad hM (by simp)), hv2, ⟨.inl ⟨rfl, arnd_all (Q := fun n => spN N n (A n).1 = 0) hnr (hdis.resolve_right (fun h => by omega)).2, kt, hkt, rfl⟩⟩, fun h => by omega⟩
   ·
    have aU := (((ab.app f).app o).app ad)
    have ae := aa.ch aU (by simp <;> omega)
    refine ld_t ae rfl (ld_t ae rfl (ld_t ae rfl ?_))
    refine ld41 hbst ?_
    obtain ⟨hm0, hnb, hjl, hcl, hms⟩ := hdis.resolve_left (fun h => by omega)
    refine tcall (c_spare (G : Int) (B : Int) N nb j0 j1 j2 j3 j4 j5 j6 j7 c0 c1 c2 c3 c4 c5 c6 c7 c8 c9 c10 c11 c12 c13 c14 c15 c16 c17 c18 c19 c20 c21 c22 c23 c24 c25 c26 c27 c28 c29 c30 c31 _ (by omega) (by omega)) ?_
    rintro bx bz ⟨al, rfl, p, aw⟩
    have bA := p.size
    obtain ⟨hiN, hrow⟩ := aw (by omega)
    have hnN : nb * N ≤ 8 * 64 := Nat.mul_le_mul (by omega) (by omega)
    have hqI : (nb : Int) * (N : Int) = ((nb * N : Nat) : Int) := (Int.natCast_mul nb N).symm
    refine dT2 (dInt_i (dInt_i ?_))
    have af := ae.ch p (by simp)
    refine ld_t af rfl (ld_t af rfl (ld_t af rfl ?_))
    have ax := hbst.ch p (by simp)
    refine ld41 ax ?_
    have aV := hv2.mv p (rngn50 (by simp))
    refine tcall (c_turnI vp d U (V.tk kt) G B N nb al true j0 j1 j2 j3 j4 j5 j6 j7 c0 c1 c2 c3 c4 c5 c6 c7 c8 c9 c10 c11 c12 c13 c14 c15 c16 c17 c18 c19 c20 c21 c22 c23 c24 c25 c26 c27 c28 c29 c30 c31 0 _ aV hU hg (by show V.n + _ < _; omega) hlp hl hnb (by omega) (sl_nil _ (U + 60)) rfl (by omega) (fun n hn => by cases hn) (by omega)) ?_
    rintro bB bC ⟨bj, rfl, ag, ay, az⟩
    have bD := ag.size
    refine dT2 (dInt_i (dInt_i (sB_f (by rfl) ?_)))
    have aW := ax.ch ag (by simp <;> omega)
    refine ld_t aW rfl (dInt_i ?_)
    have aX := af.ch ag (by simp <;> omega)
    refine ld_t aX rfl (dInt_i (wr_t (by omega) (wr_t (by omega) ?_)))
    refine ret_t ?_
    have aY := ((((aq.app ap).app ab).app f).app o)
    exact ⟨_, _, _, _, rfl, (((((Ch.refl [U, U + 3, U + 20, U + 21, U + 22, U + 23, U + 30, U + 32] s).ch aY (by simp)).fr ad hM (by simp)).ch p (by simp)).ch ag (by simp)), az, ⟨.inr ⟨rfl, nb, al, kt, hnb, hiN, by rw [hjl]; exact hrow, rfl, hkt, by rw [hjl]; exact ay⟩⟩, fun _ => rfl⟩
  ·
   intro K_43 hK_43
   have aA := ((ab.app f).app o)
   have ah := aa.ch aA (by simp)
   refine ld_t ah rfl (ld_t ah rfl (ld_t ah rfl ?_))
   refine tcall (c_around (M + 10) G near (B : Int) (N : Int) _ (by omega) hnr) ?_
   rintro bE am ⟨bk, bg, rfl, b, aB⟩
   have bF := b.size
   refine dSl_i ?_
   refine ⟨fun vs H' => ∃ s' : TH, s'.h = H' ∧ ∃ m i, vs = [.int .i64 m, .int .i64 i] ∧ Ch [U, U + 20, U + 21, U + 22, U + 23, M + 9] am s' ∧ (∃ kk : Nat, i = kk ∧ kk ≤ G ∧ m = 0 ∧ VolL s' vp d U (V.tk kk) 0 ∧ (∀ q, q < kk → spN N ((near + q) % G) (A ((near + q) % G)).1 = 0)), fun vs H' => match vs with | [.int .i64 m, .int .i64 i] => ((G : Int) - i).toNat | _ => 0, ⟨am, rfl, _, _, rfl, Ch.refl _ _, ?_⟩, ?_⟩
   ·
    have aZ := ar.mv (aA.app b) (rngn50 (by simp))
    exact ⟨0, rfl, by omega, rfl, by rw [show ((0 : Nat) : Int) = 0 from rfl, tk_zero]; exact aZ, fun q h => by omega⟩
   ·
    intro m i _ _ _ _ _ _ _ _ _ _ _ _ _ _ _ _ _ _ _ _ _ _ _ _ _ _ _ _ _ _ _ _ _ _ _ _ _ _ _ _ _ H_ hI_53
    obtain ⟨bG, rfl, m_, i_, hvs, a, kk, rfl, hk, rfl, hv2, hall⟩ := hI_53
    cases hvs
    have bH := a.size
    refine sB_d (fun a0 => ?_) (fun a0 => ?_)
    ·
     refine jn_u ?_
     have aC := aB.mv a (tagn (by simp <;> omega))
     obtain ⟨bI, rfl⟩ := aC.ne_none (by omega)
     refine nz_i (ask_t (by omega) ?_)
     obtain ⟨n, hne⟩ : ∃ n, n = (near + kk) % G := ⟨_, rfl⟩
     have hnG : n < G := by rw [hne]; exact Nat.mod_lt _ (by omega)
     refine ld_sl (v := .int .i64 (n : Int)) (aC).sl (by rw [Int.toNat_natCast, Nat.mul_one, hne]; exact ivs_get (arnd_get _ (by omega))) ?_
     refine dInt_i (ask_t (by omega) ?_)
     have a1 := (((f.app o).app b).app a)
     have a2 := zL.ch a1 (by simp <;> omega)
     refine ld41e (j := n) a2 (fun y hy => rowZ_gvz G hnG hy) ?_
     refine al_t (M + 9) fun bJ bK bp aD ai bL => ?_
     refine stG 0 (il := [0, 0, 0, 0, 0, 0, 0, 0]) (bl := [0, 0, 0, 0, 0, 0, 0, 0, 0, 0, 0, 0, 0, 0, 0, 0, 0, 0, 0, 0, 0, 0, 0, 0, 0, 0, 0, 0, 0, 0, 0, 0]) rfl rfl rfl aD (by rfl) fun bM a3 aK bN => ?_
     have aj := on_ch aD aK
     refine jn_u ?_
     refine sB_t (by rfl) ?_
     have aE := (((b.app a).app ai).app aj)
     have ak := ah.ch aE (by simp <;> omega)
     refine ld_t ak rfl (ld_t ak rfl (ld_t ak rfl ?_))
     obtain ⟨i0, i1, i2, i3, i4, i5, i6, i7, hil⟩ := len8 (hA.l8 n hnG)
     obtain ⟨b0, b1, b2, b3, b4, b5, b6, b7, b8, b9, r, t, u, w, z, C, D, E, F, H, I, J, K, L, O, R, S, T, W, X, Y, Z, hbl⟩ := len32 (hA.l32 n hnG)
     have hnow : (V.tk kk).now (hB n B) = hdL n [i0, i1, i2, i3, i4, i5, i6, i7] [b0, b1, b2, b3, b4, b5, b6, b7, b8, b9, r, t, u, w, z, C, D, E, F, H, I, J, K, L, O, R, S, T, W, X, Y, Z] := by rw [← hil, ← hbl]; exact (hA.tk _).now n hnG
     have a4 := hv2.mv (ai.app aj) (rngn50 (by simp <;> omega))
     refine tcall (c_aheader vp d U (V.tk kk) G B N n i0 i1 i2 i3 i4 i5 i6 i7 b0 b1 b2 b3 b4 b5 b6 b7 b8 b9 r t u w z C D E F H I J K L O R S T W X Y Z _ a4 hU hg hl (by show V.n + _ < _; omega) hnG hnow) ?_
     rintro bO a5 ⟨rfl, k, aF⟩
     have bP := k.size
     have hv4 : VolL a5 vp d U (V.tk ((kk + 1 : Nat) : Int)) 0 := by rw [show ((kk + 1 : Nat) : Int) = (kk : Int) + 1 by omega, ← tk_tick]; exact aF
     refine dT2 (dA41 (dInt_i ?_))
     have aG := a3.ch k (by simp <;> omega)
     refine stG (n : Int) (il := [i0, i1, i2, i3, i4, i5, i6, i7]) (bl := [b0, b1, b2, b3, b4, b5, b6, b7, b8, b9, r, t, u, w, z, C, D, E, F, H, I, J, K, L, O, R, S, T, W, X, Y, Z]) rfl rfl rfl aG (by rfl) fun bQ aH aL bR => ?_
     have l := on_ch aG aL
     refine sB_f (by rfl) ?_
     intro _
     intros
     have an := ak.ch (k.app l) (by simp <;> omega)
     refine ld_t an rfl (ld_t an rfl (ld_t an rfl ?_))
     refine ld41 aH ?_
     refine tcall (c_spare (G : Int) (B : Int) N n i0 i1 i2 i3 i4 i5 i6 i7 b0 b1 b2 b3 b4 b5 b6 b7 b8 b9 r t u w z C D E F H I J K L O R S T W X Y Z _ (by omega) (by omega)) ?_
     rintro bS a6 ⟨bm, rfl, c, bn⟩
     have bT := c.size
     have hs2 := spN_rng N n [i0, i1, i2, i3, i4, i5, i6, i7]
     refine dT2 (dInt_i (dInt_i ?_))
     refine sB_d (fun aM => ?_) (fun aM => ?_)
     ·
      have a7 := aH.ch c (by simp)
      refine ld41 a7 ?_
      have a8 := (((aE.app k).app l).app c)
      have aI := zB.ch a8 (by simp <;> omega)
      refine stG (n : Int) (il := [i0, i1, i2, i3, i4, i5, i6, i7]) (bl := [b0, b1, b2, b3, b4, b5, b6, b7, b8, b9, r, t, u, w, z, C, D, E, F, H, I, J, K, L, O, R, S, T, W, X, Y, Z]) rfl rfl rfl aI (by rfl) fun bU a9 aN bV => ?_
      have aJ := on_ch aI aN
      refine sB_t (by rfl) ?_
      have ba := ((((((a.app ai).app aj).app k).app l).app c).app aJ)
      refine hK_43 _ _ ⟨(((Ch.refl [U, U + 20, U + 21, U + 22, U + 23, M + 3, M + 9] ac).ch b (by simp)).ch ba (by simp)), ?_⟩
      have bb := ((l.app c).app aJ)
      have bc := hv4.mv bb (rngn50 (by simp <;> omega))
      exact ⟨spN N n [i0, i1, i2, i3, i4, i5, i6, i7], n, kk + 1, [i0, i1, i2, i3, i4, i5, i6, i7], [b0, b1, b2, b3, b4, b5, b6, b7, b8, b9, r, t, u, w, z, C, D, E, F, H, I, J, K, L, O, R, S, T, W, X, Y, Z], rfl, by omega, bc, a9, rfl, rfl, .inr ⟨by omega, hnG, hil, hbl, rfl⟩⟩
     ·
      intro _
      intros
      refine dInt_i (wr_t (by omega) ?_)
      have bd := (((((a.app ai).app aj).app k).app l).app c)
      refine ⟨⟨a6, rfl, _, _, rfl, ((Ch.refl [U, U + 20, U + 21, U + 22, U + 23, M + 9] am).ch bd (by simp)), ?_⟩, ?_⟩
      ·
       have be := hv4.mv (l.app c) (rngn50 (by simp <;> omega))
       refine ⟨kk + 1, by omega, by omega, rfl, be, fun q hq => ?_⟩
       by_cases e : q = kk
       ·subst e; rw [← hne, hil]; omega
       ·exact hall q (by omega)
      ·
       simp only []; omega
    ·
     refine hK_43 _ _ ⟨(((Ch.refl [U, U + 20, U + 21, U + 22, U + 23, M + 3, M + 9] ac).ch b (by simp)).ch a (by simp)), ?_⟩
     have bf := zB.ch (b.app a) (by simp <;> omega)
     exact ⟨0, 0, kk, [0, 0, 0, 0, 0, 0, 0, 0], [0, 0, 0, 0, 0, 0, 0, 0, 0, 0, 0, 0, 0, 0, 0, 0, 0, 0, 0, 0, 0, 0, 0, 0, 0, 0, 0, 0, 0, 0, 0, 0], rfl, by omega, hv2, bf, rfl, rfl, .inl ⟨rfl, by (obtain rfl : kk = G := by omega); exact hall⟩⟩
structure GivI (B n bit : Nat) (l : List UInt8) (V V' : VolM) (e : Int) : Prop where
 or_ : (e = 110 ∧ hasB l bit = false ∧ V' = V.tick) ∨ (e = 0 ∧ hasB l bit = true ∧ ChT V.tick (hB n B) (4 + ((bit / 8 : Nat) : Int)) [setTo (l.getD (bit / 8) 0) (bit % 8) false] V')
set_option maxRecDepth 100000 in
/-- bollard/alloc.give -/
theorem c_give4 (vp d U : Nat) (V : VolM) (G B N : Nat) (n bit : Nat) (i0 i1 i2 i3 i4 i5 i6 i7 b0 b1 b2 b3 b4 b5 b6 b7 b8 b9 i j k l m o p q r t u w y z A C E F H I J K : UInt8) {na : Option Addr} {nn : Nat} (nc : Nat) {needs : List Int} {τn : Nat} (s : TH) (hv : VolL s vp d U V 0) (hU : 10 ≤ U) (hg : GeoOk G B N) (hl : V.D.blocks.length = G * B) (hvn : V.n < 100000000000) (hlp : V.P.last < 900000) (hn : n < G) (hbit : bit < 64) (hnow : V.now (hB n B) = hdL n [i0, i1, i2, i3, i4, i5, i6, i7] [b0, b1, b2, b3, b4, b5, b6, b7, b8, b9, i, j, k, l, m, o, p, q, r, t, u, w, y, z, A, C, E, F, H, I, J, K]) (hN : Sl s na (ivs needs) τn) (hnn : needs.length = nn) (hnl : nn ≤ 1000) (hnd : ∀ n ∈ needs, 1 ≤ n ∧ n ≤ V.P.last) (hτn : τn < U ∨ U + 50 ≤ τn) : TRet Tryz.prog 157 #[.pointer (some ⟨vp, 0, none⟩), .agg #[.int .i64 (G : Int), .int .i64 (B : Int), .int .i64 (N : Int)], .int .i64 (n : Int), .int .i64 (bit : Int), .int .i64 4, .slice na nn nc] s fun v s' => ∃ V' x e, v = .tuple #[.int .i64 x, .int .i64 e] ∧ Ch [U, U + 3, U + 20, U + 21, U + 22, U + 23, U + 30, U + 32] s s' ∧ VolL s' vp d U V' 0 ∧ GivI B n bit [i0, i1, i2, i3, i4, i5, i6, i7] V V' e ∧ (e = 0 → x = V.P.last + 1) := by
 have hcan := hg.can
 have hg2 := hg
 unfold GeoOk at hg2
 have hgb := hg.gb
 have hpk := hv.pokk
 have hp0 := hpk.lst
 obtain ⟨M, hM, hM0, hMa, hMb, hMc, hMd, hMe, hMf⟩ := fresh6 s (U + 50) τn 0 0 0 0
 refine F157_calls _ _ _ _ _ _ _ _ _ _  ?_
 unfold F157
 refine al_t (M + 1) fun r1 s2 ao L O ap => ?_
 refine ld_t L rfl (ld_t L rfl (ld_t L rfl ?_))
 have ag := hv.mv O (rngn50 (by simp))
 refine tcall (c_place4 vp d U V G B N n bit i0 i1 i2 i3 i4 i5 i6 i7 b0 b1 b2 b3 b4 b5 b6 b7 b8 b9 i j k l m o p q r t u w y z A C E F H I J K _ ag hU hg hl (by omega) hn hbit hnow) ?_
 rintro aq ar ⟨rfl, c, f⟩
 have au := c.size
 refine dT3 (dA41 (dBl_i (dInt_i ?_)))
 refine al_t (M + 2) fun av aw ai Q a aj => ?_
 refine stG (n : Int) (il := [i0, i1, i2, i3, i4, i5, i6, i7]) (bl := [b0, b1, b2, b3, b4, b5, b6, b7, b8, b9, i, j, k, l, m, o, p, q, r, t, u, w, y, z, A, C, E, F, H, I, J, K]) rfl rfl rfl Q (by rfl) fun ax X W ak => ?_
 have b := on_ch Q W
 refine sB_f (by rfl) ?_
 refine sB_n (fun Y => ?_) (fun Y => ?_)
 ·
  refine ret_t ?_
  have Z := ((O.app c).app a)
  have aa := f.mv (a.app b) (rngn50 (by simp <;> omega))
  exact ⟨_, _, _, rfl, (((Ch.refl [U, U + 3, U + 20, U + 21, U + 22, U + 23, U + 30, U + 32] s).ch Z (by simp)).fr b hM (by simp)), aa, ⟨.inl ⟨rfl, by (first | assumption | simp_all), rfl⟩⟩, fun h => by omega⟩
 ·
  have ab := ((c.app a).app b)
  have g := L.ch ab (by simp <;> omega)
  refine ld_t g rfl (ld_t g rfl (ld_t g rfl ?_))
  refine ld41 X ?_
  have ac := f.mv (a.app b) (rngn50 (by simp <;> omega))
  have ad := (((O.app c).app a).app b)
  have ae := hN.mv ad (tagn (by simp <;> omega))
  refine tcall (c_turnI vp d U V.tick G B N n bit false i0 i1 i2 i3 i4 i5 i6 i7 b0 b1 b2 b3 b4 b5 b6 b7 b8 b9 i j k l m o p q r t u w y z A C E F H I J K nc _ ac hU hg (by show V.n + 1 < _; omega) hlp hl hn hbit ae hnn hnl hnd hτn) ?_
  rintro al am ⟨ah, rfl, R, S, T⟩
  have an := R.size
  refine dT2 (dInt_i (dInt_i ?_))
  refine ret_t ?_
  have af := ((O.app c).app a)
  exact ⟨_, _, _, rfl, ((((Ch.refl [U, U + 3, U + 20, U + 21, U + 22, U + 23, U + 30, U + 32] s).ch af (by simp)).fr b hM (by simp)).ch R (by simp)), T, ⟨.inr ⟨rfl, by (first | assumption | simp_all), S⟩⟩, fun _ => rfl⟩
theorem ink_dm {N n i : Nat} (hi : i < N) : (((n * N + i : Nat) : Int)) / (N : Int) = (n : Int) ∧ (((n * N + i : Nat) : Int)) % (N : Int) = (i : Int) := abk_dm hi
theorem c_freeino (vp d U : Nat) (V : VolM) (G B N : Nat) (n i : Nat) (A : Nat → List UInt8 × List UInt8) {na : Option Addr} {nn : Nat} (nc : Nat) {needs : List Int} {τn : Nat} (s : TH) (hv : VolL s vp d U V 0) (hU : 10 ≤ U) (hg : GeoOk G B N) (hvn : V.n < 100000000) (hlp : V.P.last < 900000) (hA : AS G B V A) (hn : n < G) (hi3 : 3 ≤ n * N + i) (hiN : i < N) (hN : Sl s na (ivs needs) τn) (hnn : needs.length = nn) (hnl : nn ≤ 1000) (hnd : ∀ n ∈ needs, 1 ≤ n ∧ n ≤ V.P.last) (hτn : τn < U ∨ U + 50 ≤ τn) : TRet Tryz.prog 109 #[.pointer (some ⟨vp, 0, none⟩), .agg #[.int .i64 (G : Int), .int .i64 (B : Int), .int .i64 (N : Int)], .int .i64 ((n * N + i : Nat) : Int), .slice na nn nc] s fun v s' => ∃ V' x e, v = .tuple #[.int .i64 x, .int .i64 e] ∧ Ch [U, U + 3, U + 20, U + 21, U + 22, U + 23, U + 30, U + 32] s s' ∧ VolL s' vp d U V' 0 ∧ GivI B n i (A n).1 V V' e ∧ (e = 0 → x = V.P.last + 1) := by
 have hcan := hg.can
 have hg2 := hg
 unfold GeoOk at hg2
 have hgb := hg.gb
 have hpk := hv.pokk
 have hp0 := hpk.lst
 have hl := hA.len
 have hgbI : (G : Int) * (B : Int) = ((G * B : Nat) : Int) := (Int.natCast_mul G B).symm
 have hfr := abk_rng hn hiN
 have hdm := ink_dm (n := n) hiN
 have hgnI : (G : Int) * (N : Int) = ((G * N : Nat) : Int) := (Int.natCast_mul G N).symm
 obtain ⟨i0, i1, i2, i3, i4, i5, i6, i7, hil⟩ := len8 (hA.l8 n hn)
 obtain ⟨b0, b1, b2, b3, b4, b5, b6, b7, b8, b9, r, t, u, w, y, z, C, D, E, F, H, I, J, K, L, O, Q, R, S, T, W, X, hbl⟩ := len32 (hA.l32 n hn)
 have hnow : V.now (hB n B) = hdL n [i0, i1, i2, i3, i4, i5, i6, i7] [b0, b1, b2, b3, b4, b5, b6, b7, b8, b9, r, t, u, w, y, z, C, D, E, F, H, I, J, K, L, O, Q, R, S, T, W, X] := by rw [← hil, ← hbl]; exact hA.now n hn
 obtain ⟨M, hM, hM0, hMa, hMb, hMc, hMd, hMe, hMf⟩ := fresh6 s (U + 50) τn 0 0 0 0
 refine F109_calls _ _ _ _ _ _ _ _  ?_
 unfold F109
 refine al_t (M + 1) fun r1 s2 ar h k au => ?_
 refine ld_t h rfl (ld_t h rfl (ld_t h rfl ?_))
 have ae := hv.mv k (rngn50 (by simp))
 refine tcall (c_readyA vp d U V _ _ _ _ ae hU hcan (by rw [hl, hgbI]; omega)) ?_
 rintro av aw ⟨rfl, j, l⟩
 have ax := j.size
 refine dInt_i (sB_f (by rfl) ?_)
 refine jn_u ?_
 refine sB_d (fun Y => by exfalso; omega) (fun Y => ?_)
 have c := h.ch j (by simp <;> omega)
 refine ld_t c rfl (ld_t c rfl (ld_t c rfl ?_))
 refine tcall (gc_inodes (G : Int) (B : Int) (N : Int) hcan _) ?_
 rintro ai aj ⟨rfl, a⟩
 have ak := a.size
 rw [hgnI] at hfr ⊢
 refine dInt_i ?_
 intro _
 intros
 refine dBl_i ?_
 refine sB_d (fun Z => by exfalso; omega) (fun Z => ?_)
 have f := c.ch a (by simp)
 refine ld_t f rfl (ld_t f rfl (ld_t f rfl ?_))
 refine tcall (gc_owner (G : Int) (B : Int) (N : Int) _ hcan (by rw [hgnI]; omega) _) ?_
 rintro al am ⟨rfl, b⟩
 have an := b.size
 rw [hdm.1, hdm.2]
 refine dT3 (dInt_i (dInt_i (dBl_i ?_)))
 have g := f.ch b (by simp)
 refine ld_t g rfl (ld_t g rfl (ld_t g rfl ?_))
 have aa := l.mv (a.app b) (rngn50 (by simp))
 have ab := (((k.app j).app a).app b)
 have ac := hN.mv ab (tagn (by simp <;> omega))
 refine tcall (c_give4 vp d U V G B N n i i0 i1 i2 i3 i4 i5 i6 i7 b0 b1 b2 b3 b4 b5 b6 b7 b8 b9 r t u w y z C D E F H I J K L O Q R S T W X nc _ aa hU hg hl (by omega) hlp hn (by omega) hnow ac hnn hnl hnd hτn) ?_
 rintro ao ap ⟨af, ag, ah, rfl, m, o, p, q⟩
 have aq := m.size
 refine dT2 (dInt_i (dInt_i ?_))
 refine ret_t ?_
 have ad := (((j.app a).app b).app m)
 exact ⟨_, _, _, rfl, (((Ch.refl [U, U + 3, U + 20, U + 21, U + 22, U + 23, U + 30, U + 32] s).ch k (by simp)).ch ad (by simp)), o, by rw [hil]; exact p, q⟩
def nI (xs : List Nat) : List Int := xs.map fun (n : Nat) => (n : Int)
theorem nI_get {xs : List Nat} {i x : Nat} (h : xs[i]? = some x) : (nI xs)[i]? = some (x : Int) := by unfold nI; rw [List.getElem?_map, h]; rfl
theorem nI_len (xs : List Nat) : (nI xs).length = xs.length := List.length_map ..
theorem nI_snoc (xs : List Nat) (x : Nat) : nI xs ++ [(x : Int)] = nI (xs ++ [x]) := by simp [nI]
def stK (i : Nat) : Nat := if i < 4 then i else if i < 68 then 4 else 5
def stW (i : Nat) : List Nat := if i < 4 then [] else if i < 68 then [i - 4] else [(i - 68) / 64, (i - 68) % 64]
theorem st1 {i : Nat} (h : i < 4) : stK i = i ∧ stW i = [] := by unfold stK stW; rw [if_pos h, if_pos h]; exact ⟨rfl, rfl⟩
theorem st2 {i : Nat} (h : ¬ i < 4) (h2 : i < 68) : stK i = 4 ∧ stW i = [i - 4] := by unfold stK stW; rw [if_neg h, if_neg h, if_pos h2, if_pos h2]; exact ⟨rfl, rfl⟩
theorem st3 {i : Nat} (h2 : ¬ i < 68) : stK i = 5 ∧ stW i = [(i - 68) / 64, (i - 68) % 64] := by unfold stK stW; exact ⟨by rw [if_neg (show ¬ i < 4 by omega), if_neg h2], by rw [if_neg (show ¬ i < 4 by omega), if_neg h2]⟩
def nowN (V : VolM) : Nat → List UInt8 := fun b => V.now (b : Int)
def FanT (V : VolM) : Nat → Nat → Prop
 | 0, _ => True
 | d + 1, b => b ≠ 0 → V.D.has (b : Int) ∧ FanOk (nowN V b) ∧ ∀ k, k < 64 → FanT V d (w16 (nowN V b) k)
theorem FanT.tk {V : VolM} (t : Int) : ∀ {d b : Nat}, FanT V d b → FanT (V.tk t) d b
 | 0, _, _ => trivial
 | d + 1, b, h => fun h0 => ⟨(h h0).1, (h h0).2.1, fun k hk => FanT.tk t ((h h0).2.2 k hk)⟩
theorem flat_le {α : Type} {f : α → List Nat} {m : Nat} : ∀ {l : List α}, (∀ x ∈ l, (f x).length ≤ m) → (l.flatMap f).length ≤ l.length * m
 | [], _ => by simp
 | x :: l, h => by
  have h1 := h x (by simp)
  have h2 := flat_le (f := f) (m := m) (l := l) fun y hy => h y (by simp [hy])
  rw [List.flatMap_cons, List.length_append, List.length_cons, Nat.succ_mul]; omega
theorem below_len0 (now : Nat → List UInt8) (b : Nat) : (belowM now 0 b).length ≤ 1 := by unfold belowM; split <;> simp
theorem below_len1 (now : Nat → List UInt8) (b : Nat) : (belowM now 1 b).length ≤ 65 := by
 unfold belowM; split
 ·simp
 ·have := flat_le (f := fun k => belowM now 0 (w16 (now b) k)) (m := 1) (l := List.range 64) fun k _ => below_len0 _ _
  rw [List.length_range] at this
  rw [List.length_cons]; omega
theorem below_len2 (now : Nat → List UInt8) (b : Nat) : (belowM now 2 b).length ≤ 4161 := by
 unfold belowM; split
 ·simp
 ·have := flat_le (f := fun k => belowM now 1 (w16 (now b) k)) (m := 65) (l := List.range 64) fun k _ => below_len1 _ _
  rw [List.length_range] at this
  rw [List.length_cons]; omega
def lvl (now : Nat → List UInt8) (d b k : Nat) : List Nat := b :: (List.range k).flatMap fun j => belowM now d (w16 (now b) j)
theorem lvl_s (now : Nat → List UInt8) (d b k : Nat) : lvl now d b (k + 1) = lvl now d b k ++ belowM now d (w16 (now b) k) := by unfold lvl; rw [List.range_succ, List.flatMap_append]; simp
theorem lvl_end (now : Nat → List UInt8) (d : Nat) {b : Nat} (h : b ≠ 0) : lvl now d b 64 = belowM now (d + 1) b := by rw [belowM, if_neg h]; rfl
theorem lvl_len (now : Nat → List UInt8) {d m : Nat} (b k : Nat) (h : ∀ b, (belowM now d b).length ≤ m) : (lvl now d b k).length ≤ 1 + k * m := by
 unfold lvl
 have := flat_le (f := fun j => belowM now d (w16 (now b) j)) (m := m) (l := List.range k) fun j _ => h _
 rw [List.length_range] at this
 rw [List.length_cons]; omega
def fanL (now : Nat → List UInt8) (b : Nat) : List Nat := (List.range 64).map fun j => in16 now b j
theorem fanL_get (now : Nat → List UInt8) (b : Nat) {k : Nat} (h : k < 64) : (fanL now b)[k]? = some (in16 now b k) := by unfold fanL; rw [List.getElem?_map, List.getElem?_range h]; rfl
theorem fanL_len (now : Nat → List UInt8) (b : Nat) : (fanL now b).length = 64 := by unfold fanL; rw [List.length_map, List.length_range]
theorem fanL_nz {now : Nat → List UInt8} {b : Nat} (h : b ≠ 0) : fanL now b = (List.range 64).map fun j => w16 (now b) j := by unfold fanL in16; simp only [if_neg h]
set_option maxRecDepth 100000 in
theorem fanL_z (now : Nat → List UInt8) : rowZ [.int .i64 0] 64 = ivs (nI (fanL now 0)) := rfl
theorem top_cell {x0 x1 x2 : Value} (D : DinM) {k : Nat} (h : k < 6) : ([x0, x1, x2, .int .i64 (D.d0 : Int), .int .i64 (D.d1 : Int), .int .i64 (D.d2 : Int), .int .i64 (D.d3 : Int), .int .i64 (D.e1 : Int), .int .i64 (D.e2 : Int)] : List Value)[3 + k]? = some (.int .i64 (D.top k : Int)) := by
 rcases (by omega : k = 0 ∨ k = 1 ∨ k = 2 ∨ k = 3 ∨ k = 4 ∨ k = 5) with rfl | rfl | rfl | rfl | rfl | rfl <;> rfl
theorem meth_blk {E : List PanicEntry → Heap → Prop} {s : TH} {p : Option Addr} {K : Value → Heap → Prop} (hk : K (.func (.func 267) #[.pointer p] #[]) s.h) : semW Tryz.prog (methV (.iface 110 (.pointer p)) "bollard/inode.block") E s.h K := .mk fun w hw => by
 have hr : (methV (.iface 110 (.pointer p)) "bollard/inode.block").run Tryz.prog w = .ok (.func (.func 267) #[.pointer p] #[]) w := by kernel_rfl
 rw [hr]; exact ⟨by rw [hw]; exact hk, Like.refl w⟩
def fanF (xs : List Nat) : List FldM := xs.map fun (x : Nat) => (⟨2, 2047, x⟩ : FldM)
theorem fanF_len (xs : List Nat) : (fanF xs).length = xs.length := List.length_map ..
theorem fanF_snoc (xs : List Nat) (x : Nat) : (fanF (xs ++ [x])).flatMap fc = (fanF xs).flatMap fc ++ fc ⟨2, 2047, x⟩ := by unfold fanF; rw [List.map_append, List.flatMap_append]; simp
theorem fan_flds (xs : List Nat) : (fldsL (fanF xs)).length = 2 * xs.length := by
 induction xs with
 | nil => rfl
 | cons x xs ih =>
  have e : fldsL (fanF (x :: xs)) = numL x 2 ++ fldsL (fanF xs) := rfl
  rw [e, List.length_append, numL_len, ih, List.length_cons]; omega
theorem getN_w16 (l : List UInt8) (k : Nat) : getN l (2 * k) 2 = w16 l k := by
 unfold w16
 rw [getN, getN, getN, Nat.add_zero, Nat.pow_zero, Nat.pow_one]; omega
theorem range_snoc (f : Nat → Nat) (k : Nat) : (List.range k).map f ++ [f k] = (List.range (k + 1)).map f := by rw [List.range_succ, List.map_append]; rfl
theorem c_lencFan {xa : Option Addr} (xc : Nat) {xs : List Nat} {τx : Nat} (s : TH) (hx : Sl s xa (ivs (nI xs)) τx) (hn : xs.length = 64) (hl : ∀ x ∈ xs, x < 2048) : TRet Tryz.prog 154 #[.slice xa 64 xc] s fun v s' => ∃ a n c, v = .tuple #[.slice a n c, .int .i64 0] ∧ Ch [] s s' := by
 obtain ⟨M, hM, hM0, hMa, hMb, hMc, hMd, hMe, hMf⟩ := fresh6 s τx 0 0 0 0 0
 refine F154_calls _ _ _  ?_
 unfold F154
 refine sB_f (by rfl) ?_
 refine ⟨fun vs H' => ∃ s' : TH, s'.h = H' ∧ ∃ pa pn pc i, vs = [.slice pa pn pc, .int .i64 i] ∧ Ch [M + 2] s s' ∧ (∃ k : Nat, i = k ∧ k ≤ 64 ∧ pn = k ∧ Own s' pa pn pc 147 3 ((fanF (xs.take k)).flatMap fc) (M + 2)), fun vs H' => match vs with | [.slice pa pn pc, .int .i64 i] => (64 - i).toNat | _ => 0, ⟨s, rfl, _, _, _, _, rfl, Ch.refl _ _, ?_⟩, ?_⟩
 ·
  exact ⟨0, rfl, by omega, rfl, Own.nil _ _ _ _⟩
 ·
  intro pa pn pc i _ _ _ _ _ _ _ _ _ _ H_ hI_2
  obtain ⟨O, rfl, pa_, pn_, pc_, i_, hvs, d, k, rfl, hk, hpn, ho⟩ := hI_2
  cases hvs
  have P := d.size
  refine sB_d (fun r => ?_) (fun r => ?_)
  ·
   obtain ⟨x, hxx⟩ : ∃ x, xs[k]? = some x := ⟨xs[k]'(by omega), by simp⟩
   obtain ⟨ad, rfl⟩ := hx.some (fun e => by have := ivs_get (nI_get hxx); rw [e] at this; simp at this)
   refine nz_i (ask_t (by omega) ?_)
   have B := hx.mv d (tagn (by simp <;> omega))
   refine ld_sl B (by rw [Int.toNat_natCast, Nat.mul_one]; exact ivs_get (nI_get hxx)) ?_
   refine dInt_i ?_
   refine al_t (M + 9) fun Q R G C p S => ?_
   have q := ho.mv p (tagn (by simp))
   refine app_i u148 in147 rfl q (C).sl (m := 1) (k := 3) rfl (by intro u hu; simp only [List.mem_cons, List.not_mem_nil, or_false] at hu; rcases hu with rfl | rfl | rfl <;> rfl) (by simp) (by unfold maxLen; omega) fun t pa2 pc2 y o _ => ?_
   have g := o.ch q (T := [M + 2]) (by simp)
   have H := g.size
   refine dSl_i (wr_t (by omega) ?_)
   have z := ((d.app p).app g)
   refine ⟨⟨t, rfl, _, _, _, _, rfl, ((Ch.refl [M + 2] s).ch z (by simp)), ?_⟩, ?_⟩
   ·
    exact ⟨k + 1, by omega, by omega, by omega, by rw [List.take_add_one, hxx, Option.toList_some, fanF_snoc]; exact y⟩
   ·
    simp only []; omega
  ·
   obtain rfl : k = 64 := by omega
   rw [List.take_of_length_le (by omega)] at *
   have hff : ∀ f ∈ fanF xs, f.n ≤ f.m ∧ f.w ≤ 4 ∧ f.n < 4294967296 := by
    intro f hf
    obtain ⟨x, hx2, rfl⟩ := List.mem_map.1 hf
    have := hl x hx2
    exact ⟨by show x ≤ 2047; omega, by show 2 ≤ 4; omega, by show x < 4294967296; omega⟩
   have hfl := fanF_len xs
   refine tcall (c_lfit _ _ (ho).sl (by omega) (fun h => absurd ((ho).none_iff h) (by omega)) (by omega) (fun f hf => (hff f hf).1)) ?_
   rintro I A ⟨rfl, b⟩
   have J := b.size
   refine dBl_i (sB_f (by rfl) ?_)
   have hap : AppB A none 0 0 [] (M + 3) (M + 4) := ⟨.inl (Own.nil _ _ _ _)⟩
   have j := ho.mv b (tagn (by simp))
   refine tcall (c_lfields _ _ hap (j).sl (by omega) (fun h => absurd ((j).none_iff h) (by omega)) (by omega) (by omega) (by omega) (fun f hf => (hff f hf).2) (by rw [fan_flds]; omega)) ?_
   rintro K L ⟨D, E, rfl, l, F⟩
   have N := l.size
   refine dSl_i ?_
   refine ret_t ?_
   exact ⟨_, _, _, rfl, ((((Ch.refl [] s).fr d hM (by simp)).ch b (by simp)).fr l hM (by simp))⟩
theorem c_ldecFan (τ : Nat) {xa : Option Addr} (xc : Nat) {l : List UInt8} {τx : Nat} {s : TH} (hx : Sl s xa (bvs l) τx) (hf : FanOk l) : TRet Tryz.prog 98 #[.slice xa 128 xc] s fun v s' => ∃ a c, v = .tuple #[.slice a 64 c, .int .i64 0] ∧ Ch [] s s' ∧ Own s' a 64 c 3 1 (ivs (nI ((List.range 64).map fun k => w16 l k))) τ := by
 have hxl := hf.1
 obtain ⟨M, hM, hM0, hMa, hMb, hMc, hMd, hMe, hMf⟩ := fresh6 s τx τ 0 0 0 0
 refine F98_calls _ _ _  ?_
 unfold F98
 refine sB_f (by rfl) ?_
 refine tcall (c_wover (M + 10) xc hx hxl (by omega)) ?_
 rintro W o ⟨b, p, d, rfl, w, q, r, t⟩
 have X := w.size
 refine dPtr_i ?_
 refine ⟨fun vs H' => ∃ s' : TH, s'.h = H' ∧ ∃ pa pn pc i, vs = [.slice pa pn pc, .int .i64 i] ∧ Ch [M + 2, M + 10] o s' ∧ (∃ k : Nat, i = k ∧ k ≤ 64 ∧ pn = k ∧ Own s' pa pn pc 3 1 (ivs (nI ((List.range k).map fun j => w16 l j))) (M + 2) ∧ Blk s' b [.slice p 128 d, .int .i64 ((2 * k : Nat) : Int), .int .i64 0, .bool true] 209 (M + 10)), fun vs H' => match vs with | [.slice pa pn pc, .int .i64 i] => (64 - i).toNat | _ => 0, ⟨o, rfl, _, _, _, _, rfl, Ch.refl _ _, ?_⟩, ?_⟩
 ·
  exact ⟨0, rfl, by omega, rfl, Own.nil _ _ _ _, q⟩
 ·
  intro pa pn pc i _ _ _ _ _ _ _ H_ hI_7
  obtain ⟨Y, rfl, pa_, pn_, pc_, i_, hvs, n, k, rfl, hk, hpn, ho, hb1⟩ := hI_7
  cases hvs
  have Z := n.size
  refine sB_d (fun y => ?_) (fun y => ?_)
  ·
   have z := r.mv n (tagn (by simp))
   refine tcall (c_wtake b d (2 * k) 2 _ hb1 z hxl t (by omega) (by omega) (by omega) (by omega) (by omega)) ?_
   rintro L N ⟨rfl, e, u⟩
   have O := e.size
   rw [getN_w16]
   refine dInt_i ?_
   refine al_t (M + 9) fun aa ab P A f Q => ?_
   have B := ho.mv (e.app f) (tagn (by simp))
   refine app_i1 u45 in3 B A (by omega) fun C R S D g => ?_
   have T := g.size
   refine dSl_i (wr_t (by omega) ?_)
   have E := (((n.app e).app f).app g)
   refine ⟨⟨C, rfl, _, _, _, _, rfl, ((Ch.refl [M + 2, M + 10] o).ch E (by simp)), ?_⟩, ?_⟩
   ·
    have F := u.ch (f.app g) (by simp)
    exact ⟨k + 1, by omega, by omega, by omega, by have h := D; rw [nI_snoc, range_snoc] at h; exact h, F⟩
   ·
    simp only []; omega
  ·
   obtain rfl : k = 64 := by omega
   obtain rfl : pn = 64 := by omega
   refine tcall (c_lencFan _ _ (ho).sl (by rw [List.length_map, List.length_range]) (by intro x hx2; obtain ⟨j, hj, rfl⟩ := List.mem_map.1 hx2; exact hf.2 j (List.mem_range.1 hj))) ?_
   rintro U G ⟨I, J, K, rfl, m⟩
   have V := m.size
   refine dT2 (dSl_i (dInt_i (sB_f (by rfl) ?_)))
   have H := ho.mv m (tagn (by simp))
   exact ret_t' (s' := remark G (M + 2) τ) rfl ⟨_, _, rfl, remark_ch ((((Ch.refl [] s).ch w (by simp)).fr n hM (by simp)).ch m (by simp)) hM (by omega), (H).remark⟩
theorem c_isteps (τ i : Nat) (s : TH) (hi : i < 4164) : TRet Tryz.prog 40 #[.int .i64 (i : Int)] s fun v s' => ∃ a c, v = .tuple #[.int .i64 (stK i : Int), .slice a (stW i).length c] ∧ Ch [] s s' ∧ Sl s' a (ivs (nI (stW i))) τ := by
 obtain ⟨M, hM, hM0, hMa, hMb, hMc, hMd, hMe, hMf⟩ := fresh6 s τ 0 0 0 0 0
 refine F40_calls _  ?_
 unfold F40
 refine sB_d (fun b => ?_) (fun b => ?_)
 ·
  refine ret_t ?_
  rw [(st1 (i := i) (by omega)).1, (st1 (i := i) (by omega)).2]
  exact ⟨none, 0, rfl, (Ch.refl [] s), .inl rfl⟩
 ·
  refine sB_d (fun d => ?_) (fun d => ?_)
  ·
   refine wr_t (by omega) ?_
   rw [show ((i : Int) - 4) = ((i - 4 : Nat) : Int) by omega]
   refine al_t (M + 1) fun r2 s3 j e f k => ?_
   rw [(st2 (i := i) (by omega) (by omega)).1, (st2 (i := i) (by omega) (by omega)).2]
   exact ret_t' (s' := remark s3 (M + 1) τ) rfl ⟨_, _, rfl, remark_ch ((Ch.refl [] s).ch f (by simp)) hM (by omega), (show Sl _ _ (ivs (nI [i - 4])) _ from (e).sl).remark⟩
  ·
   refine wr_t (by omega) ?_
   rw [show ((i : Int) - 68) = ((i - 68 : Nat) : Int) by omega]
   refine ask_t (by omega) ?_
   rw [show Int.tdiv ((i - 68 : Nat) : Int) 64 = (((i - 68) / 64 : Nat) : Int) from by rw [Int.tdiv_eq_ediv_of_nonneg (by omega)]; exact (Int.natCast_ediv (i - 68) 64).symm]
   refine wr_t (by omega) (ask_t (by omega) ?_)
   rw [show Int.tmod ((i - 68 : Nat) : Int) 64 = (((i - 68) % 64 : Nat) : Int) from by rw [Int.tmod_eq_emod_of_nonneg (by omega)]; exact (Int.natCast_emod (i - 68) 64).symm]
   refine nm_t rfl ?_
   refine al_t (M + 1) fun r7 s8 l g h m => ?_
   rw [(st3 (i := i) (by omega)).1, (st3 (i := i) (by omega)).2]
   exact ret_t' (s' := remark s8 (M + 1) τ) rfl ⟨_, _, rfl, remark_ch ((Ch.refl [] s).ch h (by simp)) hM (by omega), (show Sl _ _ (ivs (nI [(i - 68) / 64, (i - 68) % 64])) _ from (g).sl).remark⟩
theorem c_icell (r k : Nat) (s : TH) (hk : k < 6) : TRet Tryz.prog 41 #[.pointer (some ⟨r, 0, none⟩), .int .i64 (k : Int)] s fun v s' => v = .pointer (some ⟨r, 3 + k, none⟩) ∧ Ch [] s s' := by
 refine F41_calls _ _  ?_
 unfold F41
 refine sB_d (fun a => ?_) (fun a => ?_)
 ·
  refine nz_i ?_
  refine ret_t ?_
  obtain rfl : k = 4 := by omega
  exact ⟨rfl, (Ch.refl [] s)⟩
 ·
  refine sB_d (fun b => ?_) (fun b => ?_)
  ·
   refine nz_i ?_
   refine ret_t ?_
   obtain rfl : k = 5 := by omega
   exact ⟨rfl, (Ch.refl [] s)⟩
  ·
   refine nz_i (ask_t (by omega) ?_)
   refine ret_t ?_
   exact ⟨by simp [Addr.add], (Ch.refl [] s)⟩
theorem c_ifan (vp d U : Nat) (V : VolM) (τ b : Nat) (s : TH) (hv : VolL s vp d U V 0) (hU : 10 ≤ U) (hvn : V.n < 1000000000000) (hb : b ≠ 0 → V.D.has (b : Int) ∧ FanOk (nowN V b)) (hτ : τ < U ∨ U + 50 ≤ τ) : TRet Tryz.prog 42 #[.pointer (some ⟨vp, 0, none⟩), .int .i64 (b : Int)] s fun v s' => ∃ a c k, v = .tuple #[.slice a 64 c, .int .i64 0] ∧ Ch [U, U + 20, U + 21, U + 22, U + 23] s s' ∧ VolL s' vp d U (V.tk (k : Nat)) 0 ∧ k ≤ 1 ∧ Sl s' a (ivs (nI (fanL (nowN V) b))) τ := by
 obtain ⟨M, hM, hM0, hMa, hMb, hMc, hMd, hMe, hMf⟩ := fresh6 s (U + 60) τ 0 0 0 0
 refine F42_calls _ _  ?_
 unfold F42
 refine sB_d (fun m => ?_) (fun m => ?_)
 ·
  refine ask_t (by omega) ?_
  refine al_t (M + 1) fun r1 s2 A p j B => ?_
  have q := hv.mv j (rngn50 (by simp))
  obtain rfl : b = 0 := by omega
  have h := (p).sl
  rw [show Int.toNat 64 = 64 from rfl, fanL_z (nowN V)] at h
  exact ret_t' (s' := remark s2 (M + 1) τ) rfl ⟨_, _, 0, rfl, remark_ch ((Ch.refl [U, U + 20, U + 21, U + 22, U + 23] s).ch j (by simp)) hM (by omega), by rw [show ((0 : Nat) : Int) = 0 from rfl, tk_zero]; exact (q).keep (by omega), by omega, h.remark⟩
 ·
  have hb0 : b ≠ 0 := by omega
  obtain ⟨hhas, hfan⟩ := hb hb0
  refine tcall (c_VRead _ _ _ _ (M + 10) _ _ (by omega) hv (by omega) hhas (by omega)) ?_
  rintro C E ⟨r, t, rfl, l, f, g⟩
  have F := l.size
  refine dT2 (dSl_i (dInt_i (sB_f (by rfl) ?_)))
  refine tcall (c_ldecFan τ _ (f).sl hfan) ?_
  rintro x y ⟨u, w, rfl, e, i⟩
  have z := e.size
  refine dT2 (dSl_i (dInt_i ?_))
  refine ret_t ?_
  have o := g.mv e (rngn50 (by simp))
  exact ⟨_, _, 1, rfl, (((Ch.refl [U, U + 20, U + 21, U + 22, U + 23] s).ch l (by simp)).ch e (by simp)), o, by omega, by rw [fanL_nz hb0]; exact (i).sl⟩
theorem c_lblock (r τw τo : Nat) {pa : Option Addr} {pn pc : Nat} {xs : List Nat} (b : Nat) (s : TH) (hr : Blk s r [.slice pa pn pc] 112 τw) (ho : Own s pa pn pc 3 1 (ivs (nI xs)) τo) (hne : τw ≠ τo) (hpn : pn ≤ 100000) : TRet Tryz.prog 267 #[.pointer (some ⟨r, 0, none⟩), .int .i64 (b : Int)] s fun v s' => ∃ pa' pc', v = .tuple #[] ∧ Ch [τw, τo] s s' ∧ Blk s' r [.slice pa' (pn + 1) pc'] 112 τw ∧ Own s' pa' (pn + 1) pc' 3 1 (ivs (nI (xs ++ [b]))) τo := by
 obtain ⟨M, hM, hM0, hMa, hMb, hMc, hMd, hMe, hMf⟩ := fresh6 s τw τo 0 0 0 0
 refine F267_calls _ _  ?_
 unfold F267
 refine nz_i (ld_t hr rfl (dSl_i ?_))
 refine al_t (M + 1) fun r6 s7 o j a p => ?_
 have k := ho.mv a (tagn (by simp))
 refine app_i1 u45 in3 k j (by omega) fun q t u l c => ?_
 have m := c.size
 refine dSl_i (nz_i ?_)
 have d := hr.ch (a.app c) (by simp <;> omega)
 refine st_t d rfl (by simp) fun w g f n => ?_
 have e := on_ch d f
 refine ret_t ?_
 have h := ((a.app c).app e)
 have i := l.mv e (tagn (by simp <;> omega))
 exact ⟨_, _, rfl, ((Ch.refl [τw, τo] s).ch h (by simp)), g, by rw [← nI_snoc]; exact i⟩
set_option maxRecDepth 100000 in
/-- bollard/inode.walk -/
theorem c_walk0 (vp d U : Nat) (V : VolM) (b : Nat) (r τw τo : Nat) {pa : Option Addr} {pn pc : Nat} {xs : List Nat} (s : TH) (hv : VolL s vp d U V 0) (hU : 10 ≤ U) (hvn : V.n < 100002000000) (hf : FanT V 0 b) (hr : Blk s r [.slice pa pn pc] 112 τw) (ho : Own s pa pn pc 3 1 (ivs (nI xs)) τo) (hne : τw ≠ τo) (hpn : pn ≤ 60000) (hτ : (τw < U ∨ U + 50 ≤ τw) ∧ (τo < U ∨ U + 50 ≤ τo)) : TRet Tryz.prog 43 #[.pointer (some ⟨vp, 0, none⟩), .int .i64 (b : Int), .int .i64 0, .iface 110 (.pointer (some ⟨r, 0, none⟩))] s fun v s' => ∃ pa' pc' k, v = .int .i64 0 ∧ Ch [U, U + 20, U + 21, U + 22, U + 23, τw, τo] s s' ∧ VolL s' vp d U (V.tk (k : Nat)) 0 ∧ k ≤ 0 ∧ Blk s' r [.slice pa' (pn + (belowM (nowN V) 0 b).length) pc'] 112 τw ∧ Own s' pa' (pn + (belowM (nowN V) 0 b).length) pc' 3 1 (ivs (nI (xs ++ (belowM (nowN V) 0 b)))) τo := by
 refine F43_calls _ _ _ _  ?_
 unfold F43
 refine sB_d (fun f => ?_) (fun f => ?_)
 ·
  refine ret_t ?_
  obtain rfl : b = 0 := by omega
  rw [show belowM (nowN V) 0 0 = [] from by unfold belowM; rfl]
  exact ⟨_, _, 0, rfl, (Ch.refl [U, U + 20, U + 21, U + 22, U + 23, τw, τo] s), by rw [show ((0 : Nat) : Int) = 0 from rfl, tk_zero]; exact hv, by omega, hr, by rw [List.append_nil]; exact ho⟩
 ·
  refine meth_blk ?_
  refine dFn_i ?_
  refine gB_i rfl ?_
  have hb0 : b ≠ 0 := by omega
  refine tcall (c_lblock r τw τo b _ hr ho hne (by omega)) ?_
  rintro j l ⟨g, h, rfl, a, c, e⟩
  have m := a.size
  refine sB_t (by rfl) ?_
  refine ret_t ?_
  have i := hv.mv a (rngn50 (by simp <;> omega))
  rw [show belowM (nowN V) 0 b = [b] from by unfold belowM; rw [if_neg hb0]]
  exact ⟨_, _, 0, rfl, ((Ch.refl [U, U + 20, U + 21, U + 22, U + 23, τw, τo] s).ch a (by simp)), by rw [show ((0 : Nat) : Int) = 0 from rfl, tk_zero]; exact i, by omega, c, e⟩
set_option maxRecDepth 100000 in
/-- bollard/inode.walk -/
theorem c_walk1 (vp d U : Nat) (V : VolM) (b : Nat) (r τw τo : Nat) {pa : Option Addr} {pn pc : Nat} {xs : List Nat} (s : TH) (hv : VolL s vp d U V 0) (hU : 10 ≤ U) (hvn : V.n < 100001000000) (hf : FanT V 1 b) (hr : Blk s r [.slice pa pn pc] 112 τw) (ho : Own s pa pn pc 3 1 (ivs (nI xs)) τo) (hne : τw ≠ τo) (hpn : pn ≤ 40000) (hτ : (τw < U ∨ U + 50 ≤ τw) ∧ (τo < U ∨ U + 50 ≤ τo)) : TRet Tryz.prog 43 #[.pointer (some ⟨vp, 0, none⟩), .int .i64 (b : Int), .int .i64 1, .iface 110 (.pointer (some ⟨r, 0, none⟩))] s fun v s' => ∃ pa' pc' k, v = .int .i64 0 ∧ Ch [U, U + 20, U + 21, U + 22, U + 23, τw, τo] s s' ∧ VolL s' vp d U (V.tk (k : Nat)) 0 ∧ k ≤ 1 ∧ Blk s' r [.slice pa' (pn + (belowM (nowN V) 1 b).length) pc'] 112 τw ∧ Own s' pa' (pn + (belowM (nowN V) 1 b).length) pc' 3 1 (ivs (nI (xs ++ (belowM (nowN V) 1 b)))) τo := by
 obtain ⟨M, hM, hM0, hMa, hMb, hMc, hMd, hMe, hMf⟩ := fresh6 s (U + 60) τw τo 0 0 0
 refine F43_calls _ _ _ _  ?_
 unfold F43
 refine sB_d (fun A => ?_) (fun A => ?_)
 ·
  refine ret_t ?_
  obtain rfl : b = 0 := by omega
  rw [show belowM (nowN V) 1 0 = [] from by unfold belowM; rfl]
  exact ⟨_, _, 0, rfl, (Ch.refl [U, U + 20, U + 21, U + 22, U + 23, τw, τo] s), by rw [show ((0 : Nat) : Int) = 0 from rfl, tk_zero]; exact hv, by omega, hr, by rw [List.append_nil]; exact ho⟩
 ·
  refine meth_blk ?_
  refine dFn_i ?_
  refine gB_i rfl ?_
  have hb0 : b ≠ 0 := by omega
  refine tcall (c_lblock r τw τo b _ hr ho hne (by omega)) ?_
  rintro X Y ⟨G, H, rfl, f, g, j⟩
  have Z := f.size
  refine sB_f (by rfl) ?_
  have K := hv.mv f (rngn50 (by simp <;> omega))
  refine tcall (c_ifan vp d U V (M + 10) b _ K hU (by omega) (fun _ => ⟨(hf hb0).1, (hf hb0).2.1⟩) (by omega)) ?_
  rintro aa l ⟨L, N, o, rfl, a, p, O, q⟩
  have Q := a.size
  refine dT2 (dSl_i (dInt_i (sB_f (by rfl) ?_)))
  refine ⟨fun vs H' => ∃ s' : TH, s'.h = H' ∧ ∃ i, vs = [.int .i64 i] ∧ Ch [U, U + 20, U + 21, U + 22, U + 23, τw, τo] l s' ∧ (∃ (k tt : Nat) (qa : Option Addr) (qc : Nat), i = k ∧ k ≤ 64 ∧ tt ≤ 1 + k * 0 ∧ VolL s' vp d U (V.tk tt) 0 ∧ Blk s' r [.slice qa (pn + (lvl (nowN V) 0 b k).length) qc] 112 τw ∧ Own s' qa (pn + (lvl (nowN V) 0 b k).length) qc 3 1 (ivs (nI (xs ++ (lvl (nowN V) 0 b k)))) τo), fun vs H' => match vs with | [.int .i64 i] => (64 - i).toNat | _ => 0, ⟨l, rfl, _, rfl, Ch.refl _ _, ?_⟩, ?_⟩
  ·
   have B := g.ch a (by simp <;> omega)
   have C := j.mv a (tagn (by simp <;> omega))
   exact ⟨0, o, _, _, rfl, by omega, by omega, p, B, C⟩
  ·
   intro i _ _ _ _ _ _ _ _ _ _ _ _ _ _ _ _ H_ hI_15
   obtain ⟨R, rfl, i_, hvs, c, k, tt, qa, qc, rfl, hk, htt, hv2, z, ho2⟩ := hI_15
   cases hvs
   have S := c.size
   have hln := lvl_len (nowN V) (d := 0) (m := 1) b k (below_len0 _)
   have hkm : k * 1 ≤ 64 * 1 := Nat.mul_le_mul_right _ hk
   refine sB_d (fun D => ?_) (fun D => ?_)
   ·
    have t := q.mv c (tagn (by simp <;> omega))
    obtain ⟨ad, rfl⟩ := (t).some (fun e => by have := congrArg List.length e; rw [ivs_len, nI_len, fanL_len] at this; cases this)
    refine nz_i (ask_t (by omega) ?_)
    have hk64 : k < 64 := by omega
    refine ld_sl (v := .int .i64 (w16 (nowN V b) k : Int)) (t) (by rw [Int.toNat_natCast, Nat.mul_one, fanL_nz hb0]; exact ivs_get (nI_get (by rw [List.getElem?_map, List.getElem?_range hk64]; rfl))) ?_
    refine dInt_i (wr_t (by omega) ?_)
    refine tcall (c_walk0 vp d U (V.tk tt) (w16 (nowN V b) k) r τw τo _ hv2 hU (by show V.n + _ < _; omega) (((hf hb0).2.2 k (by omega)).tk _) z ho2 hne (by omega) hτ) ?_
    rintro T E ⟨I, J, t3, rfl, u, w, P, x, y⟩
    have W := u.size
    refine dInt_i (sB_f (by rfl) (wr_t (by omega) ?_))
    refine ⟨⟨E, rfl, _, rfl, (((Ch.refl [U, U + 20, U + 21, U + 22, U + 23, τw, τo] l).ch c (by simp)).ch u (by simp)), ?_⟩, ?_⟩
    ·
     exact ⟨k + 1, tt + t3, _, _, by omega, by omega, by omega, by have h := w; rw [tk_tk] at h; rw [Int.natCast_add]; exact h, by have h := x; rw [lvl_s, List.length_append, ← Nat.add_assoc]; exact h, by have h := y; rw [lvl_s, List.length_append, ← Nat.add_assoc, ← List.append_assoc]; exact h⟩
    ·
     simp only []; omega
   ·
    refine ret_t ?_
    have F := ((f.app a).app c)
    obtain rfl : k = 64 := by omega
    rw [lvl_end _ _ hb0] at *
    exact ⟨_, _, tt, rfl, ((Ch.refl [U, U + 20, U + 21, U + 22, U + 23, τw, τo] s).ch F (by simp)), hv2, by omega, z, ho2⟩
set_option maxRecDepth 100000 in
/-- bollard/inode.walk -/
theorem c_walk2 (vp d U : Nat) (V : VolM) (b : Nat) (r τw τo : Nat) {pa : Option Addr} {pn pc : Nat} {xs : List Nat} (s : TH) (hv : VolL s vp d U V 0) (hU : 10 ≤ U) (hvn : V.n < 100000000000) (hf : FanT V 2 b) (hr : Blk s r [.slice pa pn pc] 112 τw) (ho : Own s pa pn pc 3 1 (ivs (nI xs)) τo) (hne : τw ≠ τo) (hpn : pn ≤ 20000) (hτ : (τw < U ∨ U + 50 ≤ τw) ∧ (τo < U ∨ U + 50 ≤ τo)) : TRet Tryz.prog 43 #[.pointer (some ⟨vp, 0, none⟩), .int .i64 (b : Int), .int .i64 2, .iface 110 (.pointer (some ⟨r, 0, none⟩))] s fun v s' => ∃ pa' pc' k, v = .int .i64 0 ∧ Ch [U, U + 20, U + 21, U + 22, U + 23, τw, τo] s s' ∧ VolL s' vp d U (V.tk (k : Nat)) 0 ∧ k ≤ 65 ∧ Blk s' r [.slice pa' (pn + (belowM (nowN V) 2 b).length) pc'] 112 τw ∧ Own s' pa' (pn + (belowM (nowN V) 2 b).length) pc' 3 1 (ivs (nI (xs ++ (belowM (nowN V) 2 b)))) τo := by
 obtain ⟨M, hM, hM0, hMa, hMb, hMc, hMd, hMe, hMf⟩ := fresh6 s (U + 60) τw τo 0 0 0
 refine F43_calls _ _ _ _  ?_
 unfold F43
 refine sB_d (fun A => ?_) (fun A => ?_)
 ·
  refine ret_t ?_
  obtain rfl : b = 0 := by omega
  rw [show belowM (nowN V) 2 0 = [] from by unfold belowM; rfl]
  exact ⟨_, _, 0, rfl, (Ch.refl [U, U + 20, U + 21, U + 22, U + 23, τw, τo] s), by rw [show ((0 : Nat) : Int) = 0 from rfl, tk_zero]; exact hv, by omega, hr, by rw [List.append_nil]; exact ho⟩
 ·
  refine meth_blk ?_
  refine dFn_i ?_
  refine gB_i rfl ?_
  have hb0 : b ≠ 0 := by omega
  refine tcall (c_lblock r τw τo b _ hr ho hne (by omega)) ?_
  rintro X Y ⟨G, H, rfl, f, g, j⟩
  have Z := f.size
  refine sB_f (by rfl) ?_
  have K := hv.mv f (rngn50 (by simp <;> omega))
  refine tcall (c_ifan vp d U V (M + 10) b _ K hU (by omega) (fun _ => ⟨(hf hb0).1, (hf hb0).2.1⟩) (by omega)) ?_
  rintro aa l ⟨L, N, o, rfl, a, p, O, q⟩
  have Q := a.size
  refine dT2 (dSl_i (dInt_i (sB_f (by rfl) ?_)))
  refine ⟨fun vs H' => ∃ s' : TH, s'.h = H' ∧ ∃ i, vs = [.int .i64 i] ∧ Ch [U, U + 20, U + 21, U + 22, U + 23, τw, τo] l s' ∧ (∃ (k tt : Nat) (qa : Option Addr) (qc : Nat), i = k ∧ k ≤ 64 ∧ tt ≤ 1 + k * 1 ∧ VolL s' vp d U (V.tk tt) 0 ∧ Blk s' r [.slice qa (pn + (lvl (nowN V) 1 b k).length) qc] 112 τw ∧ Own s' qa (pn + (lvl (nowN V) 1 b k).length) qc 3 1 (ivs (nI (xs ++ (lvl (nowN V) 1 b k)))) τo), fun vs H' => match vs with | [.int .i64 i] => (64 - i).toNat | _ => 0, ⟨l, rfl, _, rfl, Ch.refl _ _, ?_⟩, ?_⟩
  ·
   have B := g.ch a (by simp <;> omega)
   have C := j.mv a (tagn (by simp <;> omega))
   exact ⟨0, o, _, _, rfl, by omega, by omega, p, B, C⟩
  ·
   intro i _ _ _ _ _ _ _ _ _ _ _ _ _ _ _ _ H_ hI_15
   obtain ⟨R, rfl, i_, hvs, c, k, tt, qa, qc, rfl, hk, htt, hv2, z, ho2⟩ := hI_15
   cases hvs
   have S := c.size
   have hln := lvl_len (nowN V) (d := 1) (m := 65) b k (below_len1 _)
   have hkm : k * 65 ≤ 64 * 65 := Nat.mul_le_mul_right _ hk
   refine sB_d (fun D => ?_) (fun D => ?_)
   ·
    have t := q.mv c (tagn (by simp <;> omega))
    obtain ⟨ad, rfl⟩ := (t).some (fun e => by have := congrArg List.length e; rw [ivs_len, nI_len, fanL_len] at this; cases this)
    refine nz_i (ask_t (by omega) ?_)
    have hk64 : k < 64 := by omega
    refine ld_sl (v := .int .i64 (w16 (nowN V b) k : Int)) (t) (by rw [Int.toNat_natCast, Nat.mul_one, fanL_nz hb0]; exact ivs_get (nI_get (by rw [List.getElem?_map, List.getElem?_range hk64]; rfl))) ?_
    refine dInt_i (wr_t (by omega) ?_)
    refine tcall (c_walk1 vp d U (V.tk tt) (w16 (nowN V b) k) r τw τo _ hv2 hU (by show V.n + _ < _; omega) (((hf hb0).2.2 k (by omega)).tk _) z ho2 hne (by omega) hτ) ?_
    rintro T E ⟨I, J, t3, rfl, u, w, P, x, y⟩
    have W := u.size
    refine dInt_i (sB_f (by rfl) (wr_t (by omega) ?_))
    refine ⟨⟨E, rfl, _, rfl, (((Ch.refl [U, U + 20, U + 21, U + 22, U + 23, τw, τo] l).ch c (by simp)).ch u (by simp)), ?_⟩, ?_⟩
    ·
     exact ⟨k + 1, tt + t3, _, _, by omega, by omega, by omega, by have h := w; rw [tk_tk] at h; rw [Int.natCast_add]; exact h, by have h := x; rw [lvl_s, List.length_append, ← Nat.add_assoc]; exact h, by have h := y; rw [lvl_s, List.length_append, ← Nat.add_assoc, ← List.append_assoc]; exact h⟩
    ·
     simp only []; omega
   ·
    refine ret_t ?_
    have F := ((f.app a).app c)
    obtain rfl : k = 64 := by omega
    rw [lvl_end _ _ hb0] at *
    exact ⟨_, _, tt, rfl, ((Ch.refl [U, U + 20, U + 21, U + 22, U + 23, τw, τo] s).ch F (by simp)), hv2, by omega, z, ho2⟩
end Go.Proofs.YtklppdodadkcnaaGreat.E
