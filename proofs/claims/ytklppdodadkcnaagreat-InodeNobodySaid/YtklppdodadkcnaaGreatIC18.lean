/- My own texts, joined. -/
import Derived.KernelRfl
import Derived.Test.YtklppdodadkcnaaGreatProg
import Derived.Test.YtklppdodadkcnaaGreatIC17
namespace Go.Proofs.YtklppdodadkcnaaGreat.E
open Go Go.Proofs
set_option linter.unusedVariables false
set_option linter.unusedSimpArgs false
def ev (e : Nat × ByteArray) : List Value := [.int .i64 (e.1 : Int), .string e.2]
theorem ev_len (e : Nat × ByteArray) : (ev e).length = 2 := rfl
theorem ecell0 {es : List (Nat × ByteArray)} {k : Nat} {e : Nat × ByteArray} (h : es[k]? = some e) : (es.flatMap ev)[k * 2]? = some (.int .i64 (e.1 : Int)) := fm_get ev_len es k 0 e h (by omega)
theorem ecell1 {es : List (Nat × ByteArray)} {k : Nat} {e : Nat × ByteArray} (h : es[k]? = some e) : (es.flatMap ev)[k * 2 + 1]? = some (.string e.2) := fm_get ev_len es k 1 e h (by omega)
def Dot (d : ByteArray) : Prop := d = ⟨#[46]⟩ ∨ d = ⟨#[46, 46]⟩
theorem c_encEntD (τ i : Nat) (d : ByteArray) {s : TH} (hτ : τ ≠ 0) (hi : 1 ≤ i ∧ i ≤ 511) (hd : Dot d) : TRet Tryz.prog 114 #[.agg #[.int .i64 (i : Int), .string d]] s fun v s' => ∃ a' c', v = .tuple #[.slice a' 16 c', .int .i64 0] ∧ Ch [τ] s s' ∧ Own s' a' 16 c' 5 1 (bvs (entL i d.data.toList)) τ := by
 rcases hd with rfl | rfl
 ·exact c_encEnt1 τ i hτ hi
 ·exact c_encEnt2 τ i hτ hi
def entsL : List (Nat × ByteArray) → List UInt8
 | [] => []
 | e :: es => entL e.1 e.2.data.toList ++ entsL es
theorem entsL_snoc (es : List (Nat × ByteArray)) (e : Nat × ByteArray) : entsL (es ++ [e]) = entsL es ++ entL e.1 e.2.data.toList := by
 induction es with
 | nil => simp [entsL]
 | cons x es ih => simp [entsL, ih]
theorem entsL_len (es : List (Nat × ByteArray)) : (entsL es).length = 16 * es.length := by
 induction es with
 | nil => rfl
 | cons x es ih => simp [entsL, ih, entL_len]; omega
def dirsL (es : List (Nat × ByteArray)) : List UInt8 := entsL es ++ List.replicate (128 - 16 * es.length) 0
theorem c_clash {xa : Option Addr} {n : Nat} (xc : Nat) {es : List (Nat × ByteArray)} {τx : Nat} {s : TH} (hx : Sl s xa (es.flatMap ev) τx) (hn : es.length = n) (hc : n ≤ xc) (hb : n ≤ 8) (hnc : ∀ (i j : Nat) (e f : Nat × ByteArray), j < i → es[i]? = some e → es[j]? = some f → ¬ (e.1 ≠ 0 ∧ f.1 ≠ 0 ∧ e.2.toList = f.2.toList)) : TRet Tryz.prog 113 #[.slice xa n xc] s fun v s' => v = .bool false ∧ Ch [] s s' := by
 refine F113_calls _ _ _  ?_
 unfold F113
 refine ⟨fun vs H' => ∃ s' : TH, s'.h = H' ∧ ∃ m, vs = [.int .i64 m] ∧ ChL [] [] s s' ∧ (∃ k : Nat, m = k ∧ k ≤ n), fun vs H' => match vs with | [.int .i64 m] => ((n : Int) - m).toNat | _ => 0, ⟨s, rfl, _, rfl, ChL.refl _ _ _, ?_⟩, ?_⟩
 ·
  exact ⟨0, rfl, by omega⟩
 ·
  intro m _ _ _ _ _ _ _ _ _ _ _ _ _ _ _ _ _ _ _ _ _ _ _ _ _ _ _ _ _ _ _ _ _ T hI
  obtain ⟨U, rfl, m_, hvs, o, k, rfl, hk⟩ := hI
  cases hvs
  have V := o.size
  refine sB_d (fun B => ?_) (fun B => ?_)
  ·
   have hk2 : k < n := by omega
   obtain ⟨e, he⟩ : ∃ e, es[k]? = some e := ⟨es[k]'(by omega), by simp⟩
   obtain ⟨a, rfl⟩ := hx.some (fun h => by have := ecell0 he; rw [h] at this; simp at this)
   refine nz_i (ask_t (by omega) ?_)
   have p := hx.mv o (tagL (by simp <;> omega) (by simp))
   refine ld_sl p (by rw [Int.toNat_natCast]; exact ecell0 he) ?_
   refine ld_sl2 p (by rw [Int.toNat_natCast]; exact ecell1 he) ?_
   refine al_t (τx + 1) fun W X M x y Y => ?_
   refine st_t x rfl (by simp) fun Z z A aa => ?_
   refine st_t z rfl (by simp) fun l C r N => ?_
   refine ask_t (by omega) ?_
   refine ⟨fun vs H' => ∃ s' : TH, s'.h = H' ∧ ∃ q, vs = [.int .i64 q] ∧ ChL [] [] l s' ∧ (∃ j : Nat, q = j ∧ j ≤ k), fun vs H' => match vs with | [.int .i64 q] => ((k : Int) - q).toNat | _ => 0, ⟨l, rfl, _, rfl, ChL.refl _ _ _, ?_⟩, ?_⟩
   ·
    exact ⟨0, rfl, by omega⟩
   ·
    intro q _ _ _ _ _ _ _ _ _ _ _ _ _ _ _ _ _ _ _ _ _ ab hI
    obtain ⟨L, rfl, q_, hvs, b, j, rfl, hj⟩ := hI
    cases hvs
    have O := b.size
    refine sB_d (fun D => ?_) (fun D => ?_)
    ·
     rw [slO_zero]
     have hj2 : j < k := by omega
     obtain ⟨f, hf⟩ : ∃ f, es[j]? = some f := ⟨es[j]'(by omega), by simp⟩
     refine nz_i (ask_t (by omega) ?_)
     have E := p.mv y (tagn (by simp))
     have F := E.mv A (onn (by rw [x.tag]; omega))
     have G := F.mv r (onn (by rw [z.tag]; omega))
     have t := G.mv b (tagL (by simp <;> omega) (by simp))
     refine ld_sl t (by rw [Int.toNat_natCast]; exact ecell0 hf) ?_
     refine ld_sl2 t (by rw [Int.toNat_natCast]; exact ecell1 hf) ?_
     refine al_t (τx + 1) fun ac ad P H c Q => ?_
     refine st_t H rfl (by simp) fun ae I d R => ?_
     refine st_t I rfl (by simp) fun u w g S => ?_
     refine jn_u ?_
     have r42_28 := C.chl b (by simp <;> omega) (by simp <;> omega)
     have r42_29 := r42_28.ch c (by simp)
     have r42_30 := r42_29.on d (by omega)
     have r42_31 := r42_30.on g (by omega)
     refine ld_t r42_31 rfl (dInt_i ?_)
     refine sB_ne (fun J => ?_) (fun J => ?_)
     ·
      refine ld_t w rfl (dInt_i ?_)
      refine sB_ne (fun K => ?_) (fun K => ?_)
      ·
       refine ld_t r42_31 rfl (dStr_i (ld_t w rfl (dStr_i ?_)))
       intro _ _ _ _ _ _ _ _ _ _ _ _ _ _
       refine dBl_i ?_
       refine sB_f (by have := hnc k j e f hj2 he hf; simp only [beq_eq_false_iff_ne]; intro h; exact this ⟨by omega, by omega, h⟩) ?_
       refine wr_t (by omega) ?_
       refine ⟨⟨u, rfl, _, rfl, (((((ChL.refl [] [] l).chl b (by simp) (by simp <;> omega)).ch c (by simp)).on_new d (by omega)).on_new g (by omega)), ?_⟩, ?_⟩
       ·
        exact ⟨j + 1, by omega, by omega⟩
       ·
        simp only []; omega
      ·
       intro _ _ _ _ _ _ _ _ _ _ _ _ _ _
       refine dBl_i (sB_f (by rfl) (wr_t (by omega) ?_))
       refine ⟨⟨u, rfl, _, rfl, (((((ChL.refl [] [] l).chl b (by simp) (by simp <;> omega)).ch c (by simp)).on_new d (by omega)).on_new g (by omega)), ?_⟩, ?_⟩
       ·
        exact ⟨j + 1, by omega, by omega⟩
       ·
        simp only []; omega
     ·
      intro _ _ _ _ _ _ _ _ _ _ _ _ _ _
      refine dBl_i (sB_f (by rfl) (wr_t (by omega) ?_))
      refine ⟨⟨u, rfl, _, rfl, (((((ChL.refl [] [] l).chl b (by simp) (by simp <;> omega)).ch c (by simp)).on_new d (by omega)).on_new g (by omega)), ?_⟩, ?_⟩
      ·
       exact ⟨j + 1, by omega, by omega⟩
      ·
       simp only []; omega
    ·
     refine wr_t (by omega) ?_
     refine ⟨⟨L, rfl, _, rfl, ((((((ChL.refl [] [] s).chl o (by simp) (by simp <;> omega)).ch y (by simp)).on_new A (by omega)).on_new r (by omega)).chl b (by simp) (by simp <;> omega)), ?_⟩, ?_⟩
     ·
      exact ⟨k + 1, by omega, by omega⟩
     ·
      simp only []; omega
  ·
   refine ret_t ?_
   exact ⟨rfl, ((Ch.refl [] s).chl o (by simp) (by simp <;> omega))⟩
theorem c_encDirs (τ : Nat) {xa : Option Addr} {n : Nat} (xc : Nat) {es : List (Nat × ByteArray)} {τx : Nat} {s : TH} (hx : Sl s xa (es.flatMap ev) τx) (hn : es.length = n) (hc : n ≤ xc) (hb : n ≤ 8) (hnc : ∀ (i j : Nat) (e f : Nat × ByteArray), j < i → es[i]? = some e → es[j]? = some f → ¬ (e.1 ≠ 0 ∧ f.1 ≠ 0 ∧ e.2.toList = f.2.toList)) (hτ : τ ≠ 0) (hτx : τx ≠ τ) (hτ2 : τx ≠ τ + 1) (h1 : 1 ≤ n ∧ n < 8) (hd : ∀ e ∈ es, Dot e.2 ∧ 1 ≤ e.1 ∧ e.1 ≤ 511) : TRet Tryz.prog 54 #[.slice xa n xc] s fun v s' => ∃ a' c', v = .tuple #[.slice a' 128 c', .int .i64 0] ∧ Ch [τ, τ + 1] s s' ∧ Own s' a' 128 c' 5 1 (bvs (dirsL es)) τ := by
 refine F54_calls _ _ _  ?_
 unfold F54
 refine jn_u ?_
 refine sB_d (fun E => by exfalso; omega) (fun E => ?_)
 refine tcall (c_clash xc hx hn hc hb hnc) ?_
 rintro _ o ⟨rfl, p⟩
 have V := p.size
 refine dBl_i ?_
 intro _ _ _ _ _ _
 refine dBl_i (sB_f (by rfl) ?_)
 refine ⟨fun vs H' => ∃ s' : TH, s'.h = H' ∧ ∃ pa pn pc m, vs = [.slice pa pn pc, .int .i64 m] ∧ ChL [τ, τ + 1] [] o s' ∧ (∃ k : Nat, m = k ∧ k ≤ n ∧ pn = 16 * k ∧ Own s' pa (16 * k) pc 5 1 (bvs (entsL (es.take k))) τ), fun vs H' => match vs with | [.slice pa pn pc, .int .i64 m] => ((n : Int) - m).toNat | _ => 0, ⟨o, rfl, _, _, _, _, rfl, ChL.refl _ _ _, ?_⟩, ?_⟩
 ·
  exact ⟨0, rfl, by omega, rfl, Own.nil _ _ _ _⟩
 ·
  intro pa pn pc m _ _ _ _ _ _ _ _ _ _ _ _ _ _ _ _ _ _ _ W hI
  obtain ⟨X, rfl, pa_, pn_, pc_, m_, hvs, d, k, rfl, hk, rfl, g⟩ := hI
  cases hvs
  have Y := d.size
  refine sB_d (fun F => ?_) (fun F => ?_)
  ·
   have hk2 : k < n := by omega
   obtain ⟨e, he⟩ : ∃ e, es[k]? = some e := ⟨es[k]'(by omega), by simp⟩
   obtain ⟨a, rfl⟩ := hx.some (fun h => by have := ecell0 he; rw [h] at this; simp at this)
   refine nz_i (ask_t (by omega) ?_)
   have L := hx.mv p (tagn (by simp))
   have B := L.mv d (tagL (by simp <;> omega) (by simp))
   refine ld_sl B (by rw [Int.toNat_natCast]; exact ecell0 he) ?_
   refine ld_sl2 B (by rw [Int.toNat_natCast]; exact ecell1 he) ?_
   refine al_t 0 fun Z aa N C D O => ?_
   refine st_t C rfl (by simp) fun ab q r P => ?_
   refine st_t q rfl (by simp) fun ac t u Q => ?_
   refine ld_t t rfl (ld_t t rfl ?_)
   have hde := hd e (List.mem_of_getElem? he)
   refine tcall (c_encEntD (τ + 1) e.1 e.2 (by omega) hde.2 hde.1) ?_
   rintro _ ad ⟨a2, c2, rfl, c, l⟩
   have R := c.size
   refine dT2 (dSl_i (dInt_i (sB_f (by rfl) ?_)))
   have G := g.mv D (tagn (by simp))
   have H := G.mv r (onn (by rw [C.tag]; omega))
   have I := H.mv u (onn (by rw [q.tag]; omega))
   have w := I.mv c (tagn (by intro h; simp only [List.mem_cons, List.not_mem_nil, or_false] at h <;> omega))
   refine app_i u85 in5 rfl w l.sl (m := 16) (by rw [bvs_len, entL_len]) (bvs_one _) (fun h => by have := l.none_iff h; omega) (by unfold maxLen; omega) fun M pa2 pc2 J z _ => ?_
   have x := z.ch (T := [τ]) w (by simp)
   have S := x.size
   refine dSl_i (wr_t (by omega) ?_)
   refine ⟨⟨M, rfl, _, _, _, _, rfl, (((((((ChL.refl [τ, τ + 1] [] o).chl d (by simp) (by simp <;> omega)).ch D (by simp)).on_new r (by omega)).on_new u (by omega)).ch c (by simp)).ch x (by simp)), ?_⟩, ?_⟩
   ·
    exact ⟨k + 1, by omega, by omega, by omega, by have ho := J; rw [show 16 * k + 16 = 16 * (k + 1) by omega] at ho; rw [List.take_add_one, he]; show Own _ _ _ _ _ _ (bvs (entsL (es.take k ++ [e]))) _; rw [entsL_snoc]; simpa [bvs] using ho⟩
   ·
    simp only []; omega
  ·
   obtain rfl : k = n := by omega
   refine wr_t (by omega) ?_
   rw [show (128 - ((16 * k : Nat) : Int)) = ((128 - 16 * k : Nat) : Int) by omega]
   refine appz_i u85 u3 in5 g (by obtain ⟨b, rfl⟩ := Own.ne_none g (by omega); simp) (by omega) (by omega) fun ae pa3 pc3 K A => ?_
   have y := A.ch (T := [τ]) g (by simp)
   have U := y.size
   refine dSl_i ?_
   refine ret_t ?_
   have ho := K
   rw [show 16 * k + (128 - 16 * k) = 128 by omega, List.take_of_length_le (by omega)] at ho
   exact ⟨pa3, pc3, by rw [show 16 * k + (128 - 16 * k) = 128 by omega], ((((Ch.refl [τ, τ + 1] s).ch p (by simp)).chl d (by simp) (by simp <;> omega)).ch y (by simp)), by unfold dirsL; rw [hn]; exact ho⟩
end Go.Proofs.YtklppdodadkcnaaGreat.E
namespace Go.Proofs.YtklppdodadkcnaaGreat.E
open Go Go.Proofs
set_option linter.unusedVariables false
set_option linter.unusedSimpArgs false
def canG (a b c : Int) : Prop := (1 ≤ a ∧ a ≤ 8) ∧ (8 ≤ b ∧ b ≤ 256) ∧ (4 ≤ c ∧ c ≤ 64) ∧ c % 4 = 0 ∧ 3 + c / 4 ≤ b
instance (a b c : Int) : Decidable (canG a b c) := by unfold canG; infer_instance
theorem tdiv4 {c : Int} (h : 0 ≤ c) : c.tdiv 4 = c / 4 := Int.tdiv_eq_ediv_of_nonneg h
theorem tmod4 {c : Int} (h : 0 ≤ c) : c.tmod 4 = c % 4 := Int.tmod_eq_emod_of_nonneg h
theorem wr_tq {a b m : Int} {k : Int → Prop} (h : a.tdiv b = m) (hm : -9223372036854775808 ≤ m ∧ m ≤ 9223372036854775807) (hk : k m) : wr .i64 (a.tdiv b) k := wr_t (by rw [h]; exact hm) (by rw [h]; exact hk)
theorem mul_le {a b c d : Int} (h0 : 0 ≤ a) (h1 : a ≤ c) (h2 : 0 ≤ b) (h3 : b ≤ d) : 0 ≤ a * b ∧ a * b ≤ c * d :=
 ⟨Int.mul_nonneg h0 h2, Int.mul_le_mul h1 h3 h2 (Int.le_trans h0 h1)⟩
theorem gc_between (n l m : Int) (s : TH) : TRet Tryz.prog 151 #[.int .i64 n, .int .i64 l, .int .i64 m] s fun v s' => v = .bool (decide (l ≤ n ∧ n ≤ m)) ∧ Ch [] s s' := by
 refine F151_calls _ _ _  ?_
 unfold F151
 refine sB_d (fun hsB1 => ?_) (fun hsB1 => ?_)
 ·
  refine ret_t ?_
  exact ⟨ret_b (by simp <;> omega), (Ch.refl [] s)⟩
 ·
  refine ret_t ?_
  exact ⟨ret_b (by simp <;> omega), (Ch.refl [] s)⟩
theorem gc_front (a b c : Int) (hc : 0 ≤ c ∧ c ≤ 1000) (s : TH) : TRet Tryz.prog 102 #[.agg #[.int .i64 a, .int .i64 b, .int .i64 c]] s fun v s' => v = .int .i64 (2 + c / 4) ∧ Ch [] s s' := by
 refine F102_calls _ _ _  ?_
 unfold F102
 refine al_t 0 fun r1 s2 hr1 b_1 c_2 z_3 => ?_
 refine ld_t b_1 rfl ?_
 refine dInt_i ?_
 refine ask_t (by decide) ?_
 refine wr_tq (tdiv4 hc.1) (by omega) ?_
 refine wr_t (by omega) ?_
 refine ret_t ?_
 exact ⟨rfl, ((Ch.refl [] s).ch c_2 (by simp))⟩
theorem gc_can (a b c : Int)  (s : TH) : TRet Tryz.prog 96 #[.agg #[.int .i64 a, .int .i64 b, .int .i64 c]] s fun v s' => v = .int .i64 (if canG a b c then 0 else 170) ∧ Ch [] s s' := by
 refine F96_calls _ _ _  ?_
 unfold F96
 refine al_t 0 fun r1 s2 hr1 b_1 c_2 z_3 => ?_
 refine jn_u ?_
 refine ld_t b_1 rfl ?_
 refine dInt_i ?_
 refine tcall (gc_between _ _ _ _) ?_
 rintro _ s58 ⟨rfl, c_4⟩
 have z_5 := c_4.size
 refine dBl_i ?_
 first | refine sB_d (fun hsB1 => ?_) (fun hsB1 => ?_) | refine sB_nd (fun hsB1 => ?_) (fun hsB1 => ?_) | refine sB_n (fun hsB1 => ?_) (fun hsB1 => ?_) | refine sB_i (fun hsB1 => ?_) (fun hsB1 => ?_)
 ·
  have r1_6 := b_1.ch c_4 (by simp)
  refine ld_t r1_6 rfl ?_
  refine dInt_i ?_
  refine tcall (gc_between _ _ _ _) ?_
  rintro _ s63 ⟨rfl, c_7⟩
  have z_8 := c_7.size
  refine dBl_i ?_
  first | refine sB_d (fun hsB2 => ?_) (fun hsB2 => ?_) | refine sB_nd (fun hsB2 => ?_) (fun hsB2 => ?_) | refine sB_n (fun hsB2 => ?_) (fun hsB2 => ?_) | refine sB_i (fun hsB2 => ?_) (fun hsB2 => ?_)
  ·
   have r1_9 := r1_6.ch c_7 (by simp)
   refine ld_t r1_9 rfl ?_
   refine dInt_i ?_
   refine tcall (gc_between _ _ _ _) ?_
   rintro _ s68 ⟨rfl, c_10⟩
   have z_11 := c_10.size
   refine dBl_i ?_
   intro _ _ _ _ _ _ _ _ _ _ _ _ _
   refine dBl_i ?_
   refine jn_u ?_
   first | refine sB_d (fun hsB3 => ?_) (fun hsB3 => ?_) | refine sB_nd (fun hsB3 => ?_) (fun hsB3 => ?_) | refine sB_n (fun hsB3 => ?_) (fun hsB3 => ?_) | refine sB_i (fun hsB3 => ?_) (fun hsB3 => ?_)
   ·
    intro _ _ _ _ _ _ _ _ _ _ _ _ _ _ _
    refine dBl_i ?_
    refine sB_t (by rfl) ?_
    refine ret_t ?_
    exact ⟨ret_i (by first | rw [if_pos (by unfold canG; omega)] | rw [if_neg (by unfold canG; omega)]), (((((Ch.refl [] s).ch c_2 (by simp)).ch c_4 (by simp)).ch c_7 (by simp)).ch c_10 (by simp))⟩
   ·
    have r1_12 := r1_9.ch c_10 (by simp)
    refine ld_t r1_12 rfl ?_
    refine dInt_i ?_
    refine ask_t (by decide) ?_
    refine nm_t (tmod4 (by omega)) ?_
    refine sB_ne (fun hsB5 => ?_) (fun hsB5 => ?_)
    ·
     intro _ _ _ _ _ _ _ _ _ _ _ _ _ _ _
     refine dBl_i ?_
     refine sB_t (by rfl) ?_
     refine ret_t ?_
     exact ⟨ret_i (by first | rw [if_pos (by unfold canG; omega)] | rw [if_neg (by unfold canG; omega)]), (((((Ch.refl [] s).ch c_2 (by simp)).ch c_4 (by simp)).ch c_7 (by simp)).ch c_10 (by simp))⟩
    ·
     refine ld_t r1_12 rfl ?_
     refine dInt_i ?_
     refine ld_t r1_12 rfl ?_
     refine ld_t r1_12 rfl ?_
     refine ld_t r1_12 rfl ?_
     refine tcall (gc_front _ _ _ (by omega) _) ?_
     rintro _ s47 ⟨rfl, c_13⟩
     have z_14 := c_13.size
     refine dInt_i ?_
     refine ⟨?_, ?_⟩
     ·
      have r1_15 := r1_12.ch c_13 (by simp)
      refine ld_t r1_15 rfl ?_
      refine dInt_i ?_
      rfl
     ·
      refine wr_t (by omega) ?_
      intro _ _ _ _ _ _ _ _ _ _ _ _ _ _ _
      refine dBl_i ?_
      refine sB_d (fun hsB7 => ?_) (fun hsB7 => ?_)
      ·
       refine ret_t ?_
       exact ⟨ret_i (by first | rw [if_pos (by unfold canG; omega)] | rw [if_neg (by unfold canG; omega)]), ((((((Ch.refl [] s).ch c_2 (by simp)).ch c_4 (by simp)).ch c_7 (by simp)).ch c_10 (by simp)).ch c_13 (by simp))⟩
      ·
       refine ret_t ?_
       exact ⟨ret_i (by first | rw [if_pos (by unfold canG; omega)] | rw [if_neg (by unfold canG; omega)]), ((((((Ch.refl [] s).ch c_2 (by simp)).ch c_4 (by simp)).ch c_7 (by simp)).ch c_10 (by simp)).ch c_13 (by simp))⟩
  ·
   intro _ _ _ _ _ _ _ _ _ _ _ _ _
   refine dBl_i ?_
   refine jn_u ?_
   refine sB_t (by rfl) ?_
   intro _ _ _ _ _ _ _ _ _ _ _ _ _ _ _
   refine dBl_i ?_
   refine sB_t (by rfl) ?_
   refine ret_t ?_
   exact ⟨ret_i (by first | rw [if_pos (by unfold canG; omega)] | rw [if_neg (by unfold canG; omega)]), ((((Ch.refl [] s).ch c_2 (by simp)).ch c_4 (by simp)).ch c_7 (by simp))⟩
 ·
  intro _ _ _ _ _ _ _ _ _ _ _ _ _
  refine dBl_i ?_
  refine jn_u ?_
  refine sB_t (by rfl) ?_
  intro _ _ _ _ _ _ _ _ _ _ _ _ _ _ _
  refine dBl_i ?_
  refine sB_t (by rfl) ?_
  refine ret_t ?_
  exact ⟨ret_i (by first | rw [if_pos (by unfold canG; omega)] | rw [if_neg (by unfold canG; omega)]), (((Ch.refl [] s).ch c_2 (by simp)).ch c_4 (by simp))⟩
theorem gc_rcan (a b c : Int)  (s : TH) : TRet Tryz.prog 52 #[.agg #[.int .i64 a, .int .i64 b, .int .i64 c]] s fun v s' => v = .int .i64 (if canG a b c then 0 else 170) ∧ Ch [] s s' := by
 refine F52_calls _ _ _  ?_
 unfold F52
 refine al_t 0 fun r1 s2 hr1 b_1 c_2 z_3 => ?_
 refine jn_u ?_
 refine ld_t b_1 rfl ?_
 refine dInt_i ?_
 refine sB_d (fun hsB1 => ?_) (fun hsB1 => ?_)
 ·
  intro _ _ _ _ _ _ _ _ _ _ _ _ _ _ _ _ _ _ _ _ _ _ _ _ _ _ _ _ _ _ _ _ _ _ _ _ _ _ _ _ _ _
  refine dBl_i ?_
  refine sB_t (by rfl) ?_
  refine ret_t ?_
  exact ⟨ret_i (by first | rw [if_pos (by unfold canG; omega)] | rw [if_neg (by unfold canG; omega)]), ((Ch.refl [] s).ch c_2 (by simp))⟩
 ·
  refine ld_t b_1 rfl ?_
  refine dInt_i ?_
  refine sB_d (fun hsB3 => ?_) (fun hsB3 => ?_)
  ·
   intro _ _ _ _ _ _ _ _ _ _ _ _ _ _ _ _ _ _ _ _ _ _ _ _ _ _ _ _ _ _ _ _ _ _ _ _ _ _ _ _ _ _
   refine dBl_i ?_
   refine sB_t (by rfl) ?_
   refine ret_t ?_
   exact ⟨ret_i (by first | rw [if_pos (by unfold canG; omega)] | rw [if_neg (by unfold canG; omega)]), ((Ch.refl [] s).ch c_2 (by simp))⟩
  ·
   refine ld_t b_1 rfl ?_
   refine dInt_i ?_
   refine sB_d (fun hsB5 => ?_) (fun hsB5 => ?_)
   ·
    intro _ _ _ _ _ _ _ _ _ _ _ _ _ _ _ _ _ _ _ _ _ _ _ _ _ _ _ _ _ _ _ _ _ _ _ _ _ _ _ _ _ _
    refine dBl_i ?_
    refine sB_t (by rfl) ?_
    refine ret_t ?_
    exact ⟨ret_i (by first | rw [if_pos (by unfold canG; omega)] | rw [if_neg (by unfold canG; omega)]), ((Ch.refl [] s).ch c_2 (by simp))⟩
   ·
    refine ld_t b_1 rfl ?_
    refine dInt_i ?_
    refine sB_d (fun hsB7 => ?_) (fun hsB7 => ?_)
    ·
     intro _ _ _ _ _ _ _ _ _ _ _ _ _ _ _ _ _ _ _ _ _ _ _ _ _ _ _ _ _ _ _ _ _ _ _ _ _ _ _ _ _ _
     refine dBl_i ?_
     refine sB_t (by rfl) ?_
     refine ret_t ?_
     exact ⟨ret_i (by first | rw [if_pos (by unfold canG; omega)] | rw [if_neg (by unfold canG; omega)]), ((Ch.refl [] s).ch c_2 (by simp))⟩
    ·
     refine ld_t b_1 rfl ?_
     refine dInt_i ?_
     refine sB_d (fun hsB9 => ?_) (fun hsB9 => ?_)
     ·
      intro _ _ _ _ _ _ _ _ _ _ _ _ _ _ _ _ _ _ _ _ _ _ _ _ _ _ _ _ _ _ _ _ _ _ _ _ _ _ _ _ _ _
      refine dBl_i ?_
      refine sB_t (by rfl) ?_
      refine ret_t ?_
      exact ⟨ret_i (by first | rw [if_pos (by unfold canG; omega)] | rw [if_neg (by unfold canG; omega)]), ((Ch.refl [] s).ch c_2 (by simp))⟩
     ·
      refine ld_t b_1 rfl ?_
      refine dInt_i ?_
      refine sB_d (fun hsB11 => ?_) (fun hsB11 => ?_)
      ·
       intro _ _ _ _ _ _ _ _ _ _ _ _ _ _ _ _ _ _ _ _ _ _ _ _ _ _ _ _ _ _ _ _ _ _ _ _ _ _ _ _ _ _
       refine dBl_i ?_
       refine sB_t (by rfl) ?_
       refine ret_t ?_
       exact ⟨ret_i (by first | rw [if_pos (by unfold canG; omega)] | rw [if_neg (by unfold canG; omega)]), ((Ch.refl [] s).ch c_2 (by simp))⟩
      ·
       refine ld_t b_1 rfl ?_
       refine dInt_i ?_
       refine ask_t (by decide) ?_
       refine nm_t (tmod4 (by omega)) ?_
       refine sB_ne (fun hsB13 => ?_) (fun hsB13 => ?_)
       ·
        intro _ _ _ _ _ _ _ _ _ _ _ _ _ _ _ _ _ _ _ _ _ _ _ _ _ _ _ _ _ _ _ _ _ _ _ _ _ _ _ _ _ _
        refine dBl_i ?_
        refine sB_t (by rfl) ?_
        refine ret_t ?_
        exact ⟨ret_i (by first | rw [if_pos (by unfold canG; omega)] | rw [if_neg (by unfold canG; omega)]), ((Ch.refl [] s).ch c_2 (by simp))⟩
       ·
        refine ld_t b_1 rfl ?_
        refine dInt_i ?_
        refine ld_t b_1 rfl ?_
        refine dInt_i ?_
        refine ask_t (by decide) ?_
        refine wr_tq (tdiv4 (by omega)) (by omega) ?_
        refine wr_t (by omega) ?_
        intro _ _ _ _ _ _ _ _ _ _ _ _ _ _ _ _ _ _ _ _ _ _ _ _ _ _ _ _ _ _ _ _ _ _ _ _ _ _ _ _ _ _
        refine dBl_i ?_
        refine sB_d (fun hsB15 => ?_) (fun hsB15 => ?_)
        ·
         refine ret_t ?_
         exact ⟨ret_i (by first | rw [if_pos (by unfold canG; omega)] | rw [if_neg (by unfold canG; omega)]), ((Ch.refl [] s).ch c_2 (by simp))⟩
        ·
         refine ret_t ?_
         exact ⟨ret_i (by first | rw [if_pos (by unfold canG; omega)] | rw [if_neg (by unfold canG; omega)]), ((Ch.refl [] s).ch c_2 (by simp))⟩
theorem gc_all (a b c : Int) (e : Int) (hv : canG a b c) (he : 0 ≤ e ∧ e ≤ 10000) (s : TH) : TRet Tryz.prog 152 #[.agg #[.int .i64 a, .int .i64 b, .int .i64 c], .int .i64 e] s fun v s' => v = .int .i64 (a * e) ∧ Ch [] s s' := by
 refine F152_calls _ _ _ _  ?_
 unfold F152
 refine al_t 0 fun r1 s2 hr1 b_1 c_2 z_3 => ?_
 refine ld_t b_1 rfl ?_
 refine ld_t b_1 rfl ?_
 refine ld_t b_1 rfl ?_
 refine tcall (gc_can _ _ _ _) ?_
 rintro _ s7 ⟨rfl, c_4⟩
 have z_5 := c_4.size
 rw [if_pos hv]
 refine dInt_i ?_
 refine sB_f rfl ?_
 have r1_6 := b_1.ch c_4 (by simp)
 refine ld_t r1_6 rfl ?_
 refine dInt_i ?_
 refine wr_t (by unfold canG at hv; have := mul_le (a := a) (b := e) (c := 8) (d := 10000) (by omega) (by omega) he.1 he.2; omega) ?_
 refine ret_t ?_
 exact ⟨rfl, (((Ch.refl [] s).ch c_2 (by simp)).ch c_4 (by simp))⟩
theorem gc_at (a b c : Int) (n p : Int) (hv : canG a b c) (hn : 0 ≤ n ∧ n < a) (hp : 0 ≤ p ∧ p ≤ 10000) (s : TH) : TRet Tryz.prog 101 #[.agg #[.int .i64 a, .int .i64 b, .int .i64 c], .int .i64 n, .int .i64 p] s fun v s' => v = .tuple #[.int .i64 (n * b + p), .bool true] ∧ Ch [] s s' := by
 have hm := mul_le (a := n) (b := b) (c := 8) (d := 256) (by omega) (by unfold canG at hv; omega) (by unfold canG at hv; omega) (by unfold canG at hv; omega)
 refine F101_calls _ _ _ _ _  ?_
 unfold F101
 refine al_t 0 fun r1 s2 hr1 b_1 c_2 z_3 => ?_
 refine jn_u ?_
 refine ld_t b_1 rfl ?_
 refine ld_t b_1 rfl ?_
 refine ld_t b_1 rfl ?_
 refine tcall (gc_can _ _ _ _) ?_
 rintro _ s25 ⟨rfl, c_4⟩
 have z_5 := c_4.size
 rw [if_pos hv]
 refine dInt_i ?_
 refine sB_f rfl ?_
 have r1_6 := b_1.ch c_4 (by simp)
 refine ld_t r1_6 rfl ?_
 refine dInt_i ?_
 refine wr_t (by unfold canG at hv; omega) ?_
 refine tcall (gc_between _ _ _ _) ?_
 rintro _ s31 ⟨rfl, c_7⟩
 have z_8 := c_7.size
 refine dBl_i ?_
 intro _ _ _ _ _ _ _ _ _ _
 refine dBl_i ?_
 first | refine sB_d (fun hsB2 => by exfalso; omega) (fun hsB2 => ?_) | refine sB_nd (fun hsB2 => by exfalso; omega) (fun hsB2 => ?_)
 have r1_9 := r1_6.ch c_7 (by simp)
 refine ld_t r1_9 rfl ?_
 refine dInt_i ?_
 refine wr_t (by omega) ?_
 refine wr_t (by omega) ?_
 refine ret_t ?_
 exact ⟨rfl, ((((Ch.refl [] s).ch c_2 (by simp)).ch c_4 (by simp)).ch c_7 (by simp))⟩
theorem gc_blocks (a b c : Int) (hv : canG a b c)  (s : TH) : TRet Tryz.prog 97 #[.agg #[.int .i64 a, .int .i64 b, .int .i64 c]] s fun v s' => v = .int .i64 (a * b) ∧ Ch [] s s' := by
 refine F97_calls _ _ _  ?_
 unfold F97
 refine al_t 0 fun r1 s2 hr1 b_1 c_2 z_3 => ?_
 refine ld_t b_1 rfl ?_
 refine ld_t b_1 rfl ?_
 refine ld_t b_1 rfl ?_
 refine ld_t b_1 rfl ?_
 refine dInt_i ?_
 refine tcall (gc_all _ _ _ _ hv (by first | omega | (unfold canG at hv; omega)) _) ?_
 rintro _ s9 ⟨rfl, c_4⟩
 have z_5 := c_4.size
 refine dInt_i ?_
 refine ret_t ?_
 exact ⟨rfl, (((Ch.refl [] s).ch c_2 (by simp)).ch c_4 (by simp))⟩
theorem gc_inodes (a b c : Int) (hv : canG a b c)  (s : TH) : TRet Tryz.prog 91 #[.agg #[.int .i64 a, .int .i64 b, .int .i64 c]] s fun v s' => v = .int .i64 (a * c) ∧ Ch [] s s' := by
 refine F91_calls _ _ _  ?_
 unfold F91
 refine al_t 0 fun r1 s2 hr1 b_1 c_2 z_3 => ?_
 refine ld_t b_1 rfl ?_
 refine ld_t b_1 rfl ?_
 refine ld_t b_1 rfl ?_
 refine ld_t b_1 rfl ?_
 refine dInt_i ?_
 refine tcall (gc_all _ _ _ _ hv (by first | omega | (unfold canG at hv; omega)) _) ?_
 rintro _ s9 ⟨rfl, c_4⟩
 have z_5 := c_4.size
 refine dInt_i ?_
 refine ret_t ?_
 exact ⟨rfl, (((Ch.refl [] s).ch c_2 (by simp)).ch c_4 (by simp))⟩
-- no form: bollard/geom.Super
theorem gc_header (a b c : Int) (n : Int) (hv : canG a b c) (hn : 0 ≤ n ∧ n < a) (s : TH) : TRet Tryz.prog 99 #[.agg #[.int .i64 a, .int .i64 b, .int .i64 c], .int .i64 n] s fun v s' => v = .tuple #[.int .i64 (n * b + 1), .bool true] ∧ Ch [] s s' := by
 refine F99_calls _ _ _ _  ?_
 unfold F99
 refine al_t 0 fun r1 s2 hr1 b_1 c_2 z_3 => ?_
 refine ld_t b_1 rfl ?_
 refine ld_t b_1 rfl ?_
 refine ld_t b_1 rfl ?_
 refine tcall (gc_at _ _ _ _ _ hv (by omega) (by first | omega | (unfold canG at hv; omega)) _) ?_
 rintro _ s7 ⟨rfl, c_4⟩
 have z_5 := c_4.size
 refine dT2 ?_
 refine dInt_i ?_
 refine dBl_i ?_
 refine ret_t ?_
 exact ⟨rfl, (((Ch.refl [] s).ch c_2 (by simp)).ch c_4 (by simp))⟩
theorem gc_data (a b c : Int) (n : Int) (hv : canG a b c) (hn : 0 ≤ n ∧ n < a) (s : TH) : TRet Tryz.prog 47 #[.agg #[.int .i64 a, .int .i64 b, .int .i64 c], .int .i64 n] s fun v s' => v = .tuple #[.int .i64 (n * b + (2 + c / 4)), .int .i64 (b - (2 + c / 4)), .bool true] ∧ Ch [] s s' := by
 refine F47_calls _ _ _ _  ?_
 unfold F47
 refine al_t 0 fun r1 s2 hr1 b_1 c_2 z_3 => ?_
 refine ld_t b_1 rfl ?_
 refine ld_t b_1 rfl ?_
 refine ld_t b_1 rfl ?_
 refine ld_t b_1 rfl ?_
 refine ld_t b_1 rfl ?_
 refine ld_t b_1 rfl ?_
 refine tcall (gc_front _ _ _ (by unfold canG at hv; omega) _) ?_
 rintro _ s10 ⟨rfl, c_4⟩
 have z_5 := c_4.size
 refine dInt_i ?_
 refine ⟨?_, ?_⟩
 ·
  have r1_6 := b_1.ch c_4 (by simp)
  refine ld_t r1_6 rfl ?_
  refine ld_t r1_6 rfl ?_
  refine ld_t r1_6 rfl ?_
  rfl
 ·
  refine tcall (gc_at _ _ _ _ _ hv (by omega) (by first | omega | (unfold canG at hv; omega)) _) ?_
  rintro _ s16 ⟨rfl, c_7⟩
  have z_8 := c_7.size
  refine dT2 ?_
  refine dInt_i ?_
  refine dBl_i ?_
  refine sB_f rfl ?_
  have r1_9 := b_1.ch c_4 (by simp)
  have r1_10 := r1_9.ch c_7 (by simp)
  refine ld_t r1_10 rfl ?_
  refine dInt_i ?_
  refine ld_t r1_10 rfl ?_
  refine ld_t r1_10 rfl ?_
  refine ld_t r1_10 rfl ?_
  refine tcall (gc_front _ _ _ (by unfold canG at hv; omega) _) ?_
  rintro _ s27 ⟨rfl, c_11⟩
  have z_12 := c_11.size
  refine dInt_i ?_
  refine ⟨?_, ?_⟩
  ·
   have r1_13 := r1_10.ch c_11 (by simp)
   refine ld_t r1_13 rfl ?_
   refine dInt_i ?_
   rfl
  ·
   refine wr_t (by unfold canG at hv; omega) ?_
   refine ret_t ?_
   exact ⟨rfl, (((((Ch.refl [] s).ch c_2 (by simp)).ch c_4 (by simp)).ch c_7 (by simp)).ch c_11 (by simp))⟩
theorem gc_split (n e t : Int) (hn : 0 ≤ n ∧ n < t) (he : 0 < e) (ht : t ≤ 1000000) (s : TH) : TRet Tryz.prog 90 #[.int .i64 n, .int .i64 e, .int .i64 t] s fun v s' => v = .tuple #[.int .i64 (n / e), .int .i64 (n % e), .bool true] ∧ Ch [] s s' := by
 have h1 := Int.tdiv_eq_ediv_of_nonneg (b := e) hn.1
 have h2 := Int.tmod_eq_emod_of_nonneg (b := e) hn.1
 have h3 : 0 ≤ n / e ∧ n / e ≤ n := ⟨Int.ediv_nonneg hn.1 (by omega), Int.ediv_le_self _ hn.1⟩
 refine F90_calls _ _ _  ?_
 unfold F90
 refine wr_t (by omega) ?_
 refine tcall (gc_between _ _ _ _) ?_
 rintro _ s3 ⟨rfl, c_1⟩
 have z_2 := c_1.size
 refine dBl_i ?_
 first | refine sB_d (fun hsB1 => by exfalso; omega) (fun hsB1 => ?_) | refine sB_nd (fun hsB1 => by exfalso; omega) (fun hsB1 => ?_)
 refine ask_t (by omega) ?_
 refine wr_tq h1 (by omega) ?_
 refine ask_t (by omega) ?_
 refine nm_t h2 ?_
 refine ret_t ?_
 exact ⟨rfl, ((Ch.refl [] s).ch c_1 (by simp))⟩
theorem gc_owner (a b c : Int) (n : Int) (hv : canG a b c) (hn : 0 ≤ n ∧ n < a * c) (s : TH) : TRet Tryz.prog 33 #[.agg #[.int .i64 a, .int .i64 b, .int .i64 c], .int .i64 n] s fun v s' => v = .tuple #[.int .i64 (n / c), .int .i64 (n % c), .bool true] ∧ Ch [] s s' := by
 have hac := mul_le (a := a) (b := c) (c := 8) (d := 64) (by unfold canG at hv; omega) (by unfold canG at hv; omega) (by unfold canG at hv; omega) (by unfold canG at hv; omega)
 refine F33_calls _ _ _ _  ?_
 unfold F33
 refine al_t 0 fun r1 s2 hr1 b_1 c_2 z_3 => ?_
 refine ld_t b_1 rfl ?_
 refine dInt_i ?_
 refine ld_t b_1 rfl ?_
 refine ld_t b_1 rfl ?_
 refine ld_t b_1 rfl ?_
 refine tcall (gc_inodes _ _ _ hv _) ?_
 rintro _ s9 ⟨rfl, c_4⟩
 have z_5 := c_4.size
 refine dInt_i ?_
 refine ⟨?_, ?_⟩
 ·
  have r1_6 := b_1.ch c_4 (by simp)
  refine ld_t r1_6 rfl ?_
  refine dInt_i ?_
  rfl
 ·
  refine tcall (gc_split _ _ _ (by omega) (by first | omega | (unfold canG at hv; omega)) (by first | omega | (unfold canG at hv; omega)) _) ?_
  rintro _ s14 ⟨rfl, c_7⟩
  have z_8 := c_7.size
  refine dT3 ?_
  refine dInt_i ?_
  refine dInt_i ?_
  refine dBl_i ?_
  refine ret_t ?_
  exact ⟨rfl, ((((Ch.refl [] s).ch c_2 (by simp)).ch c_4 (by simp)).ch c_7 (by simp))⟩
theorem gc_group (a b c : Int) (n : Int) (hv : canG a b c) (hn : 0 ≤ n ∧ n < a * b) (s : TH) : TRet Tryz.prog 48 #[.agg #[.int .i64 a, .int .i64 b, .int .i64 c], .int .i64 n] s fun v s' => v = .tuple #[.int .i64 (n / b), .int .i64 (n % b), .bool true] ∧ Ch [] s s' := by
 have hab := mul_le (a := a) (b := b) (c := 8) (d := 256) (by unfold canG at hv; omega) (by unfold canG at hv; omega) (by unfold canG at hv; omega) (by unfold canG at hv; omega)
 refine F48_calls _ _ _ _  ?_
 unfold F48
 refine al_t 0 fun r1 s2 hr1 b_1 c_2 z_3 => ?_
 refine ld_t b_1 rfl ?_
 refine dInt_i ?_
 refine ld_t b_1 rfl ?_
 refine ld_t b_1 rfl ?_
 refine ld_t b_1 rfl ?_
 refine tcall (gc_blocks _ _ _ hv _) ?_
 rintro _ s9 ⟨rfl, c_4⟩
 have z_5 := c_4.size
 refine dInt_i ?_
 refine ⟨?_, ?_⟩
 ·
  have r1_6 := b_1.ch c_4 (by simp)
  refine ld_t r1_6 rfl ?_
  refine dInt_i ?_
  rfl
 ·
  refine tcall (gc_split _ _ _ (by omega) (by first | omega | (unfold canG at hv; omega)) (by first | omega | (unfold canG at hv; omega)) _) ?_
  rintro _ s14 ⟨rfl, c_7⟩
  have z_8 := c_7.size
  refine dT3 ?_
  refine dInt_i ?_
  refine dInt_i ?_
  refine dBl_i ?_
  refine ret_t ?_
  exact ⟨rfl, ((((Ch.refl [] s).ch c_2 (by simp)).ch c_4 (by simp)).ch c_7 (by simp))⟩
theorem gc_inode (a b c : Int) (n : Int) (hv : canG a b c) (hn : 0 ≤ n ∧ n < a * c) (s : TH) : TRet Tryz.prog 60 #[.agg #[.int .i64 a, .int .i64 b, .int .i64 c], .int .i64 n] s fun v s' => v = .tuple #[.int .i64 (n / c * b + (2 + n % c / 4)), .int .i64 (n % c % 4 * 32), .bool true] ∧ Ch [] s s' := by
 have hac := mul_le (a := a) (b := c) (c := 8) (d := 64) (by unfold canG at hv; omega) (by unfold canG at hv; omega) (by unfold canG at hv; omega) (by unfold canG at hv; omega)
 have hdm : 0 ≤ n % c ∧ n % c < c ∧ 0 ≤ n / c ∧ n / c < a := ⟨Int.emod_nonneg _ (by unfold canG at hv; omega), Int.emod_lt_of_pos _ (by unfold canG at hv; omega), Int.ediv_nonneg hn.1 (by unfold canG at hv; omega), Int.ediv_lt_of_lt_mul (by unfold canG at hv; omega) hn.2⟩
 refine F60_calls _ _ _ _  ?_
 unfold F60
 refine al_t 0 fun r1 s2 hr1 b_1 c_2 z_3 => ?_
 refine ld_t b_1 rfl ?_
 refine ld_t b_1 rfl ?_
 refine ld_t b_1 rfl ?_
 refine tcall (gc_owner _ _ _ _ hv (by omega) _) ?_
 rintro _ s7 ⟨rfl, c_4⟩
 have z_5 := c_4.size
 refine dT3 ?_
 refine dInt_i ?_
 refine dInt_i ?_
 refine dBl_i ?_
 refine sB_f rfl ?_
 have r1_6 := b_1.ch c_4 (by simp)
 refine ld_t r1_6 rfl ?_
 refine ld_t r1_6 rfl ?_
 refine ld_t r1_6 rfl ?_
 refine ask_t (by decide) ?_
 refine wr_tq (tdiv4 hdm.1) (by unfold canG at hv; omega) ?_
 refine wr_t (by unfold canG at hv; omega) ?_
 refine tcall (gc_at _ _ _ _ _ hv (by omega) (by first | omega | (unfold canG at hv; omega)) _) ?_
 rintro _ s20 ⟨rfl, c_7⟩
 have z_8 := c_7.size
 refine dT2 ?_
 refine dInt_i ?_
 refine dBl_i ?_
 refine ask_t (by decide) ?_
 refine nm_t (tmod4 hdm.1) ?_
 refine wr_t (by unfold canG at hv; omega) ?_
 refine ret_t ?_
 exact ⟨rfl, ((((Ch.refl [] s).ch c_2 (by simp)).ch c_4 (by simp)).ch c_7 (by simp))⟩
theorem gc_isdata (a b c : Int) (n : Int) (hv : canG a b c) (hn : 0 ≤ n ∧ n < a * b) (s : TH) : TRet Tryz.prog 156 #[.agg #[.int .i64 a, .int .i64 b, .int .i64 c], .int .i64 n] s fun v s' => v = .bool (decide (n % b ≥ 2 + c / 4)) ∧ Ch [] s s' := by
 have hab := mul_le (a := a) (b := b) (c := 8) (d := 256) (by unfold canG at hv; omega) (by unfold canG at hv; omega) (by unfold canG at hv; omega) (by unfold canG at hv; omega)
 have hdm : 0 ≤ n % b ∧ n % b < b ∧ 0 ≤ n / b ∧ n / b < a := ⟨Int.emod_nonneg _ (by unfold canG at hv; omega), Int.emod_lt_of_pos _ (by unfold canG at hv; omega), Int.ediv_nonneg hn.1 (by unfold canG at hv; omega), Int.ediv_lt_of_lt_mul (by unfold canG at hv; omega) hn.2⟩
 refine F156_calls _ _ _ _  ?_
 unfold F156
 refine al_t 0 fun r1 s2 hr1 b_1 c_2 z_3 => ?_
 refine ld_t b_1 rfl ?_
 refine ld_t b_1 rfl ?_
 refine ld_t b_1 rfl ?_
 refine tcall (gc_group _ _ _ _ hv (by omega) _) ?_
 rintro _ s7 ⟨rfl, c_4⟩
 have z_5 := c_4.size
 refine dT3 ?_
 refine dInt_i ?_
 refine dInt_i ?_
 refine dBl_i ?_
 refine sB_t rfl ?_
 have r1_6 := b_1.ch c_4 (by simp)
 refine ld_t r1_6 rfl ?_
 refine ld_t r1_6 rfl ?_
 refine ld_t r1_6 rfl ?_
 refine tcall (gc_front _ _ _ (by unfold canG at hv; omega) _) ?_
 rintro _ s18 ⟨rfl, c_7⟩
 have z_8 := c_7.size
 refine dInt_i ?_
 refine ret_t ?_
 exact ⟨rfl, ((((Ch.refl [] s).ch c_2 (by simp)).ch c_4 (by simp)).ch c_7 (by simp))⟩
-- no form: bollard/bollardref04.Group
-- no form: bollard/bollardref04.IsData
end Go.Proofs.YtklppdodadkcnaaGreat.E
