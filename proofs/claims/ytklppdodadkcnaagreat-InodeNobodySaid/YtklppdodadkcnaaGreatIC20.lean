/- My own texts, joined. -/
import Derived.KernelRfl
import Derived.Test.YtklppdodadkcnaaGreatProg
import Derived.Test.YtklppdodadkcnaaGreatIC19
namespace Go.Proofs.YtklppdodadkcnaaGreat.E
open Go Go.Proofs Go.RowKit Go.Maps Go.Shelf Go.Sort
set_option linter.unusedVariables false
set_option linter.unusedSimpArgs false
theorem BRel.l128 {s : TH} {τ : Nat} {hs : List Hd} {bs : List (List UInt8)} (h : BRel s τ hs bs) : ∀ y ∈ bs, y.length = 128 := by
 intro y hy
 obtain ⟨i, hi⟩ := List.getElem?_of_mem hy
 have hl : i < bs.length := (List.getElem?_eq_some_iff.1 hi).1
 exact (h.at_ i (hs[i]'(by rw [h.len]; exact hl)) y (by simp) hi).len
theorem c_plof (U τp : Nat) {xa : Option Addr} {n : Nat} (xc : Nat) {hs : List Hd} {bs : List (List UInt8)} {τx τb : Nat} {s : TH} (hU : 10 ≤ U) (hq : Sl s xa (hs.flatMap hd1) τx) (hb : BRel s τb hs bs) (hn : hs.length = n) (hn2 : 1 ≤ n ∧ n ≤ 2048) (hτ : (τx < U ∨ U + 50 ≤ τx) ∧ (τb < U ∨ U + 50 ≤ τb) ∧ (τp < U ∨ U + 50 ≤ τp)) : TRet Tryz.prog 21 #[.slice xa n xc, .int .i64 64] s fun v s' => ∃ p vp d x y, v = .tuple #[.pointer (some ⟨p, 0, none⟩), .bool true] ∧ Ch [U + 11] s s' ∧ Blk s' p [.pointer (some ⟨d, 0, none⟩), .pointer (some ⟨vp, 0, none⟩), .pointer (some ⟨x, 0, none⟩), .pointer (some ⟨y, 0, none⟩)] 40 τp ∧ VolL s' vp d U (VolM.fresh bs) 0 := by
 have hl128 := hb.l128
 obtain ⟨M, hM, hM0, hMa, hMb, hMc, hMd, hMe, hMf⟩ := fresh6 s τx τb (U + 60) τp 0 0
 refine F21_calls _ _ _ _  ?_
 unfold F21
 refine al_t (M + 1) fun r1 s2 ap R h aq => ?_
 have F := hq.mv h (tagn (by simp))
 have G := hb.mv h (tagn (by simp))
 refine tcall (c_pimage (M + 10) (M + 12) xc F G hn hn2) ?_
 rintro ar au ⟨S, T, Q, rfl, e, i, f⟩
 have Y := e.size
 refine dSl_i ?_
 have hln := (f).len
 have hlb := hb.len
 refine tcall (c_of (U + 10) _ (by omega) (i).sl f (by rw [hln, ← hlb]; exact hn) hn2 (by omega) (by omega)) ?_
 rintro Z aa ⟨j, rfl, a, k⟩
 have ab := a.size
 refine dT2 (dPtr_i (dInt_i ?_))
 have H := F.mv (e.app a) (tagn (by simp <;> omega))
 have I := G.mv (e.app a) (tagn (by simp <;> omega))
 refine tcall (c_rof xc H I hn hn2) ?_
 rintro ac ad ⟨l, rfl, b⟩
 have ae := b.size
 refine dT2 (dPtr_i (dInt_i ?_))
 refine jn_u ?_
 refine sB_f (by rfl) (sB_f (by rfl) ?_)
 intro _
 intros
 refine dBl_i (sB_f (by rfl) ?_)
 have J := k.mv b (rngn (by simp))
 refine tcall (c_vopen2 U j bs 64 _ hU J hl128 (by omega)) ?_
 rintro af ag ⟨V, rfl, g, m⟩
 have ah := g.size
 refine dT2 (dPtr_i (dInt_i ?_))
 refine tcall (c_r9open l 64 _ (by omega)) ?_
 rintro ai aj ⟨W, rfl, c⟩
 have ak := c.size
 refine dT2 (dPtr_i (dInt_i ?_))
 refine jn_u ?_
 refine sB_f (by rfl) ?_
 intro _
 intros
 refine dBl_i (sB_f (by rfl) (sB_f (by rfl) ?_))
 have K := ((((e.app a).app b).app g).app c)
 have o := R.ch K (by simp <;> omega)
 refine st_t o rfl (by simp) fun av q B al => ?_
 have r := on_ch o B
 refine st_t q rfl (by simp) fun aw t C am => ?_
 have u := on_ch q C
 refine st_t t rfl (by simp) fun ax w D an => ?_
 have z := on_ch t D
 refine st_t w rfl (by simp) fun X L E ao => ?_
 have A := on_ch w E
 have N := ((b.app g).app c)
 have O := ((((c.app r).app u).app z).app A)
 have P := m.mv O (rngn50 (by simp <;> omega))
 refine ret_t' (s' := remark X (M + 1) τp) rfl ⟨_, _, _, _, _, rfl, remark_ch (((((((((Ch.refl [U + 11] s).ch h (by simp)).ch e (by simp)).fr a hM (by simp <;> omega)).ch N (by simp)).fr r hM (by simp)).fr u hM (by simp)).fr z hM (by simp)).fr A hM (by simp)) hM (by omega), (L).remark, (P).keep (by omega)⟩
theorem c_freshA (U τp : Nat) (G B N : Nat) (s : TH) (hU : 10 ≤ U) (hv : GeoOk G B N) (hτ : τp < U ∨ U + 50 ≤ τp) : TRet Tryz.prog 7 #[.agg #[.int .i64 (G : Int), .int .i64 (B : Int), .int .i64 (N : Int)]] s fun v s' => ∃ p vp d x y, v = .tuple #[.pointer (some ⟨p, 0, none⟩), .agg #[.int .i64 (G : Int), .int .i64 (B : Int), .int .i64 (N : Int)], .bool true] ∧ Ch [U + 11] s s' ∧ Blk s' p [.pointer (some ⟨d, 0, none⟩), .pointer (some ⟨vp, 0, none⟩), .pointer (some ⟨x, 0, none⟩), .pointer (some ⟨y, 0, none⟩)] 40 τp ∧ VolL s' vp d U (VolM.fresh (makeL G B N)) 0 := by
 have hv2 := hv
 unfold GeoOk at hv2
 obtain ⟨M, hM, hM0, hMa, hMb, hMc, hMd, hMe, hMf⟩ := fresh6 s (U + 60) τp 0 0 0 0
 refine F7_calls _ _ _  ?_
 unfold F7
 refine al_t (M + 1) fun r1 s2 ar aa P au => ?_
 refine al_t (M + 2) fun r3 s4 av Q k aw => ?_
 have j := aa.ch k (by simp)
 refine ld_t j rfl (ld_t j rfl (ld_t j rfl ?_))
 refine tcall (c_make (M + 10) (M + 12) G B N _ hv) ?_
 rintro ax ay ⟨ab, ac, Y, rfl, a, l, e⟩
 have ah := a.size
 refine dT2 (dSl_i (dInt_i ?_))
 refine jn_u ?_
 refine sB_f (by rfl) ?_
 intro _
 intros
 refine dSl_i ?_
 have hgb : 1 * 8 ≤ G * B ∧ G * B ≤ 8 * 256 := ⟨Nat.mul_le_mul (by omega) (by omega), Nat.mul_le_mul (by omega) (by omega)⟩
 have hrl := (e).len
 rw [makeL_len (by omega)] at hrl
 refine tcall (c_plof U τp _ hU (l).sl e hrl (by omega) (by omega)) ?_
 rintro ai aj ⟨ad, Z, ae, af, ag, rfl, b, f, g⟩
 have ak := b.size
 refine dT2 (dPtr_i (dBl_i ?_))
 have c := j.ch (a.app b) (by simp <;> omega)
 refine ld_t c rfl (ld_t c rfl (ld_t c rfl (sB_t (by rfl) ?_)))
 refine ⟨?_, ?_⟩
 ·
  refine ⟨?_, ?_⟩
  ·
   refine ld_t c rfl (ld_t c rfl (ld_t c rfl ?_))
   rfl
  ·
   have m := Q.ch (a.app b) (by simp <;> omega)
   refine st_t m rfl (by simp) fun az n H al => ?_
   have o := on_ch m H
   refine st_t n rfl (by simp) fun aA q I am => ?_
   have r := on_ch n I
   refine st_t q rfl (by simp) fun aB h J an => ?_
   have t := on_ch q J
   refine ld_t h rfl (ld_t h rfl (ld_t h rfl ?_))
   refine ret_t ?_
   have R := (((P.app k).app a).app b)
   have u := ((o.app r).app t)
   have S := f.ch u (by simp <;> omega)
   have T := g.mv u (rngn50 (by simp <;> omega))
   exact ⟨_, _, _, _, _, rfl, (((((Ch.refl [U + 11] s).ch R (by simp)).fr o hM (by simp)).fr r hM (by simp)).fr t hM (by simp)), S, T⟩
 ·
  have w := Q.ch (a.app b) (by simp <;> omega)
  refine st_t w rfl (by simp) fun aC z K ao => ?_
  have A := on_ch w K
  refine st_t z rfl (by simp) fun aD C L ap => ?_
  have D := on_ch z L
  refine st_t C rfl (by simp) fun aE i O aq => ?_
  have E := on_ch C O
  refine ld_t i rfl (ld_t i rfl (ld_t i rfl ?_))
  refine ret_t ?_
  have V := (((P.app k).app a).app b)
  have F := ((A.app D).app E)
  have W := f.ch F (by simp <;> omega)
  have X := g.mv F (rngn50 (by simp <;> omega))
  exact ⟨_, _, _, _, _, rfl, (((((Ch.refl [U + 11] s).ch V (by simp)).fr A hM (by simp)).fr D hM (by simp)).fr E hM (by simp)), W, X⟩
theorem c_freshB (U τp : Nat) (a b c : Int) (s : TH) (hU : 10 ≤ U) (hv : ¬ canG a b c) (hτ : τp < U ∨ U + 50 ≤ τp) : TRet Tryz.prog 7 #[.agg #[.int .i64 a, .int .i64 b, .int .i64 c]] s fun v s' => ∃ p vp d x y, v = .tuple #[.pointer (some ⟨p, 0, none⟩), .agg #[.int .i64 1, .int .i64 8, .int .i64 4], .bool true] ∧ Ch [U + 11] s s' ∧ Blk s' p [.pointer (some ⟨d, 0, none⟩), .pointer (some ⟨vp, 0, none⟩), .pointer (some ⟨x, 0, none⟩), .pointer (some ⟨y, 0, none⟩)] 40 τp ∧ VolL s' vp d U (VolM.fresh (makeL 1 8 4)) 0 := by
 have hv1 : GeoOk 1 8 4 := by unfold GeoOk; omega
 obtain ⟨M, hM, hM0, hMa, hMb, hMc, hMd, hMe, hMf⟩ := fresh6 s (U + 60) τp 0 0 0 0
 refine F7_calls _ _ _  ?_
 unfold F7
 refine al_t (M + 1) fun r1 s2 aM an ab aN => ?_
 refine al_t (M + 2) fun r3 s4 aO ac u aP => ?_
 have t := an.ch u (by simp)
 refine ld_t t rfl (ld_t t rfl (ld_t t rfl ?_))
 refine tcall (c_makeN a b c _ hv) ?_
 rintro aQ aR ⟨rfl, e⟩
 have aw := e.size
 refine dT2 (dSl_i (dInt_i ?_))
 refine jn_u ?_
 refine sB_t (by rfl) ?_
 have w := t.ch e (by simp)
 refine st_t w rfl (by simp) fun aS z R ax => ?_
 have i := on_ch w R
 refine st_t z rfl (by simp) fun aT A S ay => ?_
 have j := on_ch z S
 refine st_t A rfl (by simp) fun aU k T az => ?_
 have l := on_ch A T
 refine ld_t k rfl (ld_t k rfl (ld_t k rfl ?_))
 refine tcall (c_make (M + 10) (M + 12) 1 8 4 _ hv1) ?_
 rintro aA aB ⟨ao, ap, al, rfl, f, B, m⟩
 have aC := f.size
 refine dT2 (dSl_i (dInt_i ?_))
 intro _
 intros
 refine dSl_i ?_
 have hgb : 1 * 8 ≤ 1 * 8 ∧ 1 * 8 ≤ 8 * 256 := ⟨Nat.mul_le_mul (by omega) (by omega), Nat.mul_le_mul (by omega) (by omega)⟩
 have hrl := (m).len
 rw [makeL_len (by omega)] at hrl
 refine tcall (c_plof U τp _ hU (B).sl m hrl (by omega) (by omega)) ?_
 rintro aD aE ⟨aq, am, ar, au, av, rfl, g, n, o⟩
 have aF := g.size
 refine dT2 (dPtr_i (dBl_i ?_))
 have h := k.ch (f.app g) (by simp <;> omega)
 refine ld_t h rfl (ld_t h rfl (ld_t h rfl (sB_t (by rfl) ?_)))
 refine ⟨?_, ?_⟩
 ·
  refine ⟨?_, ?_⟩
  ·
   refine ld_t h rfl (ld_t h rfl (ld_t h rfl ?_))
   rfl
  ·
   have ad := (((((e.app i).app j).app l).app f).app g)
   have C := ac.ch ad (by simp <;> omega)
   refine st_t C rfl (by simp) fun aV D V aG => ?_
   have E := on_ch C V
   refine st_t D rfl (by simp) fun aW F W aH => ?_
   have G := on_ch D W
   refine st_t F rfl (by simp) fun aX q X aI => ?_
   have H := on_ch F X
   refine ld_t q rfl (ld_t q rfl (ld_t q rfl ?_))
   refine ret_t ?_
   have ae := ((ab.app u).app e)
   have I := ((E.app G).app H)
   have af := n.ch I (by simp <;> omega)
   have ag := o.mv I (rngn50 (by simp <;> omega))
   exact ⟨_, _, _, _, _, rfl, ((((((((((Ch.refl [U + 11] s).ch ae (by simp)).fr i hM (by simp)).fr j hM (by simp)).fr l hM (by simp)).ch f (by simp)).ch g (by simp)).fr E hM (by simp)).fr G hM (by simp)).fr H hM (by simp)), af, ag⟩
 ·
  have ah := (((((e.app i).app j).app l).app f).app g)
  have J := ac.ch ah (by simp <;> omega)
  refine st_t J rfl (by simp) fun aY K Y aJ => ?_
  have L := on_ch J Y
  refine st_t K rfl (by simp) fun aZ N Z aK => ?_
  have O := on_ch K Z
  refine st_t N rfl (by simp) fun a0 r aa aL => ?_
  have P := on_ch N aa
  refine ld_t r rfl (ld_t r rfl (ld_t r rfl ?_))
  refine ret_t ?_
  have ai := ((ab.app u).app e)
  have Q := ((L.app O).app P)
  have aj := n.ch Q (by simp <;> omega)
  have ak := o.mv Q (rngn50 (by simp <;> omega))
  exact ⟨_, _, _, _, _, rfl, ((((((((((Ch.refl [U + 11] s).ch ai (by simp)).fr i hM (by simp)).fr j hM (by simp)).fr l hM (by simp)).ch f (by simp)).ch g (by simp)).fr L hM (by simp)).fr O hM (by simp)).fr P hM (by simp)), aj, ak⟩
theorem now_nx {V V' : VolM} {b o : Int} {y : List UInt8} {needs : List Int} (pok : POk V.P) (pok2 : POk V'.P) (hD : V'.D = V.D) (e : V'.P.l = V.P.l ++ [V.P.newP b o y needs]) {c : Int} (hc : c ≠ b) : V'.now c = V.now c := by
 unfold VolM.now
 rw [over_of pok2, over_of pok, e, add_of_ne hc]
 unfold VolM.blk; rw [hD]
structure ChT (V : VolM) (b o : Int) (y : List UInt8) (V' : VolM) : Prop where
 now : V'.now b = overlay (V.now b) o.toNat y
 ne : ∀ c, c ≠ b → V'.now c = V.now c
 D : V'.D = V.D
 old : V'.old = V.keep b
 last : V'.P.last = V.P.last + 1
 n : V'.n = V.ticks b
 way : V'.way = V.way
 done : V'.P.done = V.P.done
 l : ∃ p : PatM, V'.P.l = V.P.l ++ [p] ∧ p.id = V.P.last + 1
theorem change_t {V : VolM} {b o : Int} {y : List UInt8} {needs : List Int} (pok : POk V.P) (hb : V.D.has b) (h1 : fitsP b o y.length) (h2 : ∀ n ∈ needs, 1 ≤ n ∧ n ≤ V.P.last) (hl : V.P.last < 1000000) :
  (V.change b o y needs).2.1 = V.P.last + 1 ∧ (V.change b o y needs).2.2 = 0 ∧ ChT V b o y (V.change b o y needs).1 := by
 have hc := change_ok (V := V) hb h1 h2
 have e := add_ok (P := V.P) h1 h2
 have pok2 : POk (V.P.add b o y needs).1 := by rw [e]; exact pok.add h1 hl
 have hV : (V.change b o y needs).1 = { V with n := V.ticks b, P := (V.P.add b o y needs).1, old := V.keep b } := by
  unfold VolM.change
  rw [if_neg (by simpa using hb), if_neg (by rw [e]; simp)]
 refine ⟨hc.1, hc.2.1, ?_⟩
 rw [hV]
 refine ⟨?_, fun c hcb => ?_, rfl, rfl, by show (V.P.add b o y needs).1.last = _; rw [e], rfl, rfl, by show (V.P.add b o y needs).1.done = _; rw [e], ⟨V.P.newP b o y needs, by show (V.P.add b o y needs).1.l = _; rw [e], rfl⟩⟩
 ·show (V.P.add b o y needs).1.over (V.blk b) ((V.P.add b o y needs).1.of b) = _
  rw [over_of pok2]
  have el : (V.P.add b o y needs).1.l = V.P.l ++ [V.P.newP b o y needs] := by rw [e]
  rw [el, add_of, ovL_snoc]
  unfold VolM.now
  rw [over_of pok]
  rfl
 ·exact now_nx (V := V) (V' := { V with n := V.ticks b, P := (V.P.add b o y needs).1, old := V.keep b }) (b := b) (o := o) (y := y) (needs := needs) pok pok2 rfl (by show (V.P.add b o y needs).1.l = _; rw [e]) hcb
theorem VolL.pokk {s : TH} {v d U : Nat} {V : VolM} {lk : Int} (h : VolL s v d U V lk) : POk V.P := by obtain ⟨⟨c, p, rw_, rk, mw, mk, h⟩, ok⟩ := h; exact h.ps.ok
theorem sl_nil (s : TH) (τ : Nat) : Sl s none (ivs []) τ := .inl rfl
theorem c_fresh (U τp : Nat) (a b c : Int) (s : TH) (hU : 10 ≤ U) (hτ : τp < U ∨ U + 50 ≤ τp) : TRet Tryz.prog 7 #[.agg #[.int .i64 a, .int .i64 b, .int .i64 c]] s fun v s' => ∃ (p vp d x y G B N : Nat), v = .tuple #[.pointer (some ⟨p, 0, none⟩), .agg #[.int .i64 (G : Int), .int .i64 (B : Int), .int .i64 (N : Int)], .bool true] ∧ Ch [U + 11] s s' ∧ GeoOk G B N ∧ (canG a b c → (G : Int) = a ∧ (B : Int) = b ∧ (N : Int) = c) ∧ Blk s' p [.pointer (some ⟨d, 0, none⟩), .pointer (some ⟨vp, 0, none⟩), .pointer (some ⟨x, 0, none⟩), .pointer (some ⟨y, 0, none⟩)] 40 τp ∧ VolL s' vp d U (VolM.fresh (makeL G B N)) 0 := by
 by_cases hc : canG a b c
 ·have hc2 := hc
  unfold canG at hc2
  obtain ⟨G, rfl⟩ := Int.eq_ofNat_of_zero_le (a := a) (by omega)
  obtain ⟨B, rfl⟩ := Int.eq_ofNat_of_zero_le (a := b) (by omega)
  obtain ⟨N, rfl⟩ := Int.eq_ofNat_of_zero_le (a := c) (by omega)
  have hv : GeoOk G B N := by unfold GeoOk; omega
  refine (c_freshA U τp G B N s hU hv hτ).mono ?_
  rintro v s' ⟨p, vp, d, x, y, rfl, h1, h2, h3⟩
  exact ⟨p, vp, d, x, y, G, B, N, rfl, h1, hv, fun _ => ⟨rfl, rfl, rfl⟩, h2, h3⟩
 ·refine (c_freshB U τp a b c s hU hc hτ).mono ?_
  rintro v s' ⟨p, vp, d, x, y, rfl, h1, h2, h3⟩
  exact ⟨p, vp, d, x, y, 1, 8, 4, rfl, h1, by unfold GeoOk; omega, fun h => absurd h hc, h2, h3⟩
theorem GeoOk.can {G B N : Nat} (h : GeoOk G B N) : canG (G : Int) (B : Int) (N : Int) := by unfold GeoOk at h; unfold canG; omega
theorem GeoOk.gb {G B N : Nat} (h : GeoOk G B N) : 8 ≤ G * B ∧ G * B ≤ 2048 := by
 unfold GeoOk at h
 have h1 : 1 * 8 ≤ G * B := Nat.mul_le_mul (by omega) (by omega)
 have h2 : G * B ≤ 8 * 256 := Nat.mul_le_mul (by omega) (by omega)
 omega
theorem fresh_len {G B N : Nat} (h : GeoOk G B N) : (VolM.fresh (makeL G B N)).D.blocks.length = G * B := makeL_len (by unfold GeoOk at h; omega)
end Go.Proofs.YtklppdodadkcnaaGreat.E
