/- Contracts of functions. -/
import Derived.Test.YtngploohhmfaiaaGreatProg
import Derived.KernelRfl
import Derived.Test.YtngploohhmfaiaaGreatLib2
import Derived.Test.YtngploohhmfaiaaGreatDk
import Derived.Test.YtngploohhmfaiaaGreatF14
import Derived.Test.YtngploohhmfaiaaGreatFm0
import Derived.Test.YtngploohhmfaiaaGreatFm1
import Derived.Test.YtngploohhmfaiaaGreatFm10
import Derived.Test.YtngploohhmfaiaaGreatFm11
import Derived.Test.YtngploohhmfaiaaGreatFm12
import Derived.Test.YtngploohhmfaiaaGreatFm2
import Derived.Test.YtngploohhmfaiaaGreatFm3
import Derived.Test.YtngploohhmfaiaaGreatFm4
import Derived.Test.YtngploohhmfaiaaGreatFm5
import Derived.Test.YtngploohhmfaiaaGreatFm6
import Derived.Test.YtngploohhmfaiaaGreatFm7
import Derived.Test.YtngploohhmfaiaaGreatFm8
import Derived.Test.YtngploohhmfaiaaGreatFm9
namespace Go.Proofs.YtngploohhmfaiaaGreat.E
open Go Go.Proofs
set_option linter.unusedVariables false
/-- bollard/disk.Of$1 -/
theorem c_of1 (p : Hd) (s : TH) : TRet Tryz.prog 153 #[.slice p.1 128 p.2] s fun v s' => v = .bool false ∧ Ch [] s s' := by
  refine F153_calls _ _ _  ?_
  unfold F153
  refine ret_t ?_
  exact ⟨rfl, (Ch.refl [] s)⟩

/-- slices.IndexFunc[[][]byte,[]byte] -/
theorem c_ixRow {a : Option Addr} {n : Nat} (c : Nat) {hs : List Hd} {τ : Nat} {s : TH} (hq : Sl s a (hs.flatMap hd1) τ) (hn : hs.length = n) (hn2 : n ≤ 1000000) {g : Nat} {xf xc : Array Value} (hg : plainFn Tryz.prog g = true) (hp : ∀ (s1 : TH) (x : Hd), TRet Tryz.prog g (argsOf xf [.slice x.1 128 x.2] xc) s1 fun v s2 => v = .bool false ∧ Ch [] s1 s2) : TRet Tryz.prog 199 #[.slice a n c, .func (.func g) xf xc] s fun v s' => v = .int .i64 (-1) ∧ Ch [] s s' := by
  refine F199_calls _ _ _ _ _ _  ?_
  unfold F199
  refine ⟨fun vs H' => ∃ s' : TH, s'.h = H' ∧ ∃ m, vs = [.int .i64 m] ∧ ChL [] [] s s' ∧ (∃ k : Nat, m = k ∧ k ≤ n), fun vs H' => match vs with | [.int .i64 m] => ((n : Int) - m).toNat | _ => 0, ⟨s, rfl, _, rfl, ChL.refl _ _ _, ?_⟩, ?_⟩
  ·
    exact ⟨0, rfl, by omega⟩
  ·
    intro m _ _ _ _ _ _ _ _ _ _ _ _ H16 hI
    obtain ⟨s16, rfl, m_, hvs, c_1, k, rfl, hk⟩ := hI
    cases hvs
    have z_2 := c_1.size
    refine sB_d (fun hsB1 => ?_) (fun hsB1 => ?_)
    ·
      have hk2 : k < n := by omega
      obtain ⟨x, hx⟩ : ∃ x, hs[k]? = some x := ⟨hs[k], by simp [hn, hk2]⟩
      obtain ⟨a, rfl⟩ := hq.some (fun e => by have := bcell hx; rw [e] at this; simp at this)
      refine nz_i ?_
      refine ask_t (by omega) ?_
      have q_3 := hq.mv c_1 (tagL (by simp <;> omega) (by simp))
      refine ld_sl q_3 (by rw [Int.toNat_natCast, Nat.mul_one]; exact bcell hx) ?_
      set_option maxRecDepth 4000 in
      refine dSl_i (a := x.1) (n := 128) (c := x.2) ?_
      rw [gB_eq hg]
      refine tcall (hp _ x) ?_
      rintro _ s24 ⟨rfl, c_4⟩
      have z_5 := c_4.size
      refine dBl_i ?_
      refine sB_f (by rfl) ?_
      refine wr_t (by omega) ?_
      refine ⟨⟨s24, rfl, _, rfl, (((ChL.refl [] [] s).chl c_1 (by simp) (by simp <;> omega)).ch c_4 (by simp)), ?_⟩, ?_⟩
      ·
        exact ⟨k + 1, by omega, by omega⟩
      ·
        simp only []; omega
    ·
      refine ret_t ?_
      exact ⟨rfl, ((Ch.refl [] s).chl c_1 (by simp) (by simp <;> omega))⟩

/-- slices.ContainsFunc[[][]byte,[]byte] -/
theorem c_ctRow {a : Option Addr} {n : Nat} (c : Nat) {hs : List Hd} {τ : Nat} {s : TH} (hq : Sl s a (hs.flatMap hd1) τ) (hn : hs.length = n) (hn2 : n ≤ 1000000) : TRet Tryz.prog 154 #[.slice a n c, .func (.func 153) #[] #[]] s fun v s' => v = .bool false ∧ Ch [] s s' := by
  refine F154_calls _ _ _ _ _ _  ?_
  unfold F154
  refine tcall (c_ixRow c hq hn hn2 (by kernel_rfl) (fun s1 x => c_of1 x s1)) ?_
  rintro _ s2 ⟨rfl, c_1⟩
  have z_2 := c_1.size
  refine dInt_i ?_
  refine ret_t ?_
  exact ⟨rfl, ((Ch.refl [] s).ch c_1 (by simp))⟩

/-- bollard/disk.image -/
theorem c_image (T : Nat) {a : Option Addr} {n : Nat} (c : Nat) {hs : List Hd} {bs : List (List UInt8)} {τ τb : Nat} {s : TH} (hq : Sl s a (hs.flatMap hd1) τ) (hb : BRel s τb hs bs) (hn : hs.length = n) (hn2 : n ≤ 2048) (h1 : τ ≠ T + 1) (h2 : τb ≠ T + 1) : TRet Tryz.prog 91 #[.slice a n c] s fun v s' => ∃ pa pc hs', v = .slice pa n pc ∧ Ch [T + 1] s s' ∧ Own s' pa n pc 38 1 (hs'.flatMap hd1) (T + 1) ∧ BRel s' (T + 3) hs' bs := by
  refine F91_calls _ _ _  ?_
  unfold F91
  refine ⟨fun vs H' => ∃ s' : TH, s'.h = H' ∧ ∃ pa pn pc m, vs = [.slice pa pn pc, .int .i64 m] ∧ ChL [T + 1] [] s s' ∧ (∃ (k : Nat) (hs' : List Hd), m = k ∧ pn = k ∧ k ≤ n ∧ Own s' pa k pc 38 1 (hs'.flatMap hd1) (T + 1) ∧ BRel s' (T + 3) hs' (bs.take k)), fun vs H' => match vs with | [.slice pa pn pc, .int .i64 m] => ((n : Int) - m).toNat | _ => 0, ⟨s, rfl, _, _, _, _, rfl, ChL.refl _ _ _, ?_⟩, ?_⟩
  ·
    exact ⟨0, [], rfl, rfl, by omega, Own.nil _ _ _ _, BRel.nil _ _⟩
  ·
    intro pa pn pc m _ _ _ _ _ _ _ _ _ _ H17 hI
    obtain ⟨s17, rfl, pa_, pn_, pc_, m_, hvs, c_1, k, hs', rfl, rfl, hk, rows_3, brel_4⟩ := hI
    cases hvs
    have z_2 := c_1.size
    refine sB_d (fun hsB1 => ?_) (fun hsB1 => ?_)
    ·
      have hk2 : pn < n := by omega
      obtain ⟨x, hx⟩ : ∃ x, hs[pn]? = some x := ⟨hs[pn], by simp [hn, hk2]⟩
      obtain ⟨b, hbk⟩ : ∃ b, bs[pn]? = some b := ⟨bs[pn]'(by rw [← hb.len, hn]; exact hk2), by simp⟩
      obtain ⟨a, rfl⟩ := hq.some (fun e => by have := bcell hx; rw [e] at this; simp at this)
      refine nz_i ?_
      refine ask_t (by omega) ?_
      have q_5 := hq.mv c_1 (tagL (by simp <;> omega) (by simp))
      refine ld_sl q_5 (by rw [Int.toNat_natCast, Nat.mul_one]; exact bcell hx) ?_
      refine dSl_i ?_
      have qb_6 := hb.mv c_1 (tagL (by simp <;> omega) (by simp))
      refine tcall (c_clone (T + 3) _ (qb_6.at_ _ _ _ hx hbk).sl (qb_6.at_ _ _ _ hx hbk).len (fun h => by obtain ⟨y, hy⟩ := (hb.at_ _ _ _ hx hbk).ne; rw [h] at hy; cases hy) (by omega)) ?_
      rintro _ s25 ⟨xa2, xc2, rfl, c_7, nx_9, hxn⟩
      have z_8 := c_7.size
      refine dSl_i ?_
      refine al_t 0 fun r29 s30 hr29 b_10 c_11 z_12 => ?_
      have rows_13 := rows_3.mv c_7 (tagn (by simp))
      have rows_14 := rows_13.mv c_11 (tagn (by simp))
      refine app_i u42 in38 rfl rows_14 b_10.sl (m := 1) (k := 1) rfl (by intro u hu; simp at hu; subst hu; rfl) (by simp) (by unfold maxLen; omega) fun s34 pa2 pc2 rows_17 c_150 _ => ?_
      have c_15 := c_150.ch (T := [T + 1]) rows_14 (by simp)
      have z_16 := c_15.size
      refine dSl_i ?_
      refine wr_t (by omega) ?_
      refine ⟨⟨s34, rfl, _, _, _, _, rfl, (((((ChL.refl [T + 1] [] s).chl c_1 (by simp) (by simp <;> omega)).ch c_7 (by simp)).ch c_11 (by simp)).ch c_15 (by simp)), ?_⟩, ?_⟩
      ·
        have brel_18 := brel_4.mv c_7 (tagn (by simp))
        have brel_19 := brel_18.mv c_11 (tagn (by simp))
        have brel_20 := brel_19.mv c_15 (tagn (by intro h; simp only [List.mem_cons, List.not_mem_nil, or_false] at h <;> omega))
        have nx_21 := nx_9.mv c_11 (tagn (by simp))
        have nx_22 := nx_21.mv c_15 (tagn (by intro h; simp only [List.mem_cons, List.not_mem_nil, or_false] at h <;> omega))
        exact ⟨pn + 1, hs' ++ [(xa2, xc2)], by omega, by omega, by omega, by simpa [hd1] using rows_17, by rw [List.take_add_one, hbk]; exact brel_20.snoc ⟨nx_22.sl, (hb.at_ _ _ _ hx hbk).len⟩⟩
      ·
        simp only []; omega
    ·
      refine ret_t ?_
      obtain rfl : pn = n := by omega
      exact ⟨pa, pc, hs', rfl, ((Ch.refl [T + 1] s).chl c_1 (by simp) (by simp <;> omega)), rows_3, by have h := brel_4; rw [List.take_of_length_le (by rw [← hb.len, hn]; omega)] at h; exact h⟩


def diskOf (bs : List (List UInt8)) : DiskM := ⟨bs, [], fun _ => 0, 0⟩

/-- bollard/disk.Of -/
theorem c_of (T : Nat) {a : Option Addr} {n : Nat} (c : Nat) {hs : List Hd} {bs : List (List UInt8)} {τ τb : Nat} {s : TH} (hT : 10 ≤ T) (hq : Sl s a (hs.flatMap hd1) τ) (hb : BRel s τb hs bs) (hn : hs.length = n) (hn2 : 1 ≤ n ∧ n ≤ 2048) (h1 : τ ≠ T + 1) (h2 : τb ≠ T + 1) : TRet Tryz.prog 97 #[.slice a n c] s fun v s' => ∃ d, v = .tuple #[.pointer (some ⟨d, 0, none⟩), .int .i64 0] ∧ Ch [T + 1] s s' ∧ Disk s' d T (diskOf bs) := by
  refine F97_calls _ _ _  ?_
  unfold F97
  refine jn_u ?_
  refine sB_d (fun hsB1 => by exfalso; omega) (fun hsB1 => ?_)
  refine sB_d (fun hsB2 => by exfalso; omega) (fun hsB2 => ?_)
  refine tcall (c_ctRow c hq hn (by omega)) ?_
  rintro _ s29 ⟨rfl, c_1⟩
  have z_2 := c_1.size
  refine dBl_i ?_
  intro _ _ _ _ _ _ _ _ _ _ _ _
  refine dBl_i ?_
  refine sB_f (by rfl) ?_
  have q_3 := hq.mv c_1 (tagn (by simp))
  have qb_4 := hb.mv c_1 (tagn (by simp))
  refine tcall (c_image T c q_3 qb_4 hn hn2.2 h1 h2) ?_
  rintro _ s17 ⟨pa, pc, hs', rfl, c_5, rows_7, brel_8⟩
  have z_6 := c_5.size
  refine dSl_i ?_
  refine alm_t (Value.int .i64) (T + 4) fun r21 s22 hr21 m_9 c_10 z_11 => ?_
  refine al_t T fun r23 s24 hr23 b_12 c_13 z_14 => ?_
  refine ret_t ?_
  have rows_15 := rows_7.mv c_10 (tagn (by simp))
  have rows_16 := rows_15.mv c_13 (tagn (by simp))
  have brel_17 := brel_8.mv c_10 (tagn (by simp))
  have brel_18 := brel_17.mv c_13 (tagn (by simp))
  have r21_19 := m_9.ch c_13 (by simp)
  have hl : bs.length = n := by rw [← hb.len, hn]
  subst hl
  exact ⟨r23, rfl, (((((Ch.refl [T + 1] s).ch c_1 (by simp)).ch c_5 (by simp)).ch c_10 (by simp)).ch c_13 (by simp)), pa, pc, none, 0, hs', [], r21, [], ⟨by simpa [diskOf] using b_12, by simpa [diskOf] using rows_16, brel_18, Own.nil _ _ _ _, QRel.nil _ _, r21_19, fun b => rfl, by simp [diskOf]; omega, by simp [diskOf], fun m hm => by simp [diskOf] at hm⟩⟩


def imgs (n : Nat) : List (List UInt8) := (List.range n).map fun k => List.replicate 128 (UInt8.ofNat (k + 1))
def nblk8 (x : Int) : Nat := 1 + ((IntKind.u64.wrap x) % 8).toNat
theorem nblk8_le (x : Int) : 1 ≤ nblk8 x ∧ nblk8 x ≤ 8 := by unfold nblk8; omega
theorem wrap8 (k : Nat) (h : k + 1 ≤ 200) : IntKind.u8.wrap ((k : Int) + 1) = ((UInt8.ofNat (k + 1)).toNat : Int) := by
  have e : IntKind.u8.wrap ((k : Int) + 1) = ((k : Int) + 1) % 256 := rfl
  have e2 : (UInt8.ofNat (k + 1)).toNat = (k + 1) % 256 := rfl
  rw [e, e2]
  omega

/-- bollard/bollardlaw09.blocks -/
theorem c_vblocks (T : Nat) (x : Int) (s : TH) : TRet Tryz.prog 98 #[.int .i64 x] s fun v s' => ∃ a c hs, v = .slice a (nblk8 x) c ∧ Ch [T + 1] s s' ∧ Own s' a (nblk8 x) c 38 1 (hs.flatMap hd1) (T + 1) ∧ BRel s' (T + 3) hs (imgs (nblk8 x)) := by
  refine F98_calls _  ?_
  unfold F98
  refine wr_a fun n1 hn1 => ?_
  refine ask_t (by omega) ?_
  refine nm_a fun n2 hn2 => ?_
  rw [wrap_u64] at hn1
  rw [Int.tmod_eq_emod_of_nonneg (by omega)] at hn2
  refine wr_t (by omega) ?_
  refine wr_t (by omega) ?_
  obtain ⟨n, hn, he⟩ : ∃ n : Nat, n = nblk8 x ∧ 1 + n2 = (n : Int) := ⟨nblk8 x, rfl, by unfold nblk8; rw [wrap_u64]; omega⟩
  simp only [he]
  have hnn := nblk8_le x
  rw [← hn] at hnn
  rw [← hn]
  refine ⟨fun vs H' => ∃ s' : TH, s'.h = H' ∧ ∃ pa pn pc m, vs = [.slice pa pn pc, .int .i64 m] ∧ ChL [T + 1] [] s s' ∧ (∃ (k : Nat) (hs : List Hd), m = k ∧ pn = k ∧ k ≤ n ∧ Own s' pa k pc 38 1 (hs.flatMap hd1) (T + 1) ∧ BRel s' (T + 3) hs (imgs k)), fun vs H' => match vs with | [.slice pa pn pc, .int .i64 m] => ((n : Int) - m).toNat | _ => 0, ⟨s, rfl, _, _, _, _, rfl, ChL.refl _ _ _, ?_⟩, ?_⟩
  ·
    exact ⟨0, [], rfl, rfl, by omega, Own.nil _ _ _ _, BRel.nil _ _⟩
  ·
    intro pa pn pc m _ _ _ _ _ _ _ _ _ _ _ _ H23 hI
    obtain ⟨s23, rfl, pa_, pn_, pc_, m_, hvs, c_1, k, hs, rfl, rfl, hk, rows_3, brel_4⟩ := hI
    cases hvs
    have z_2 := c_1.size
    refine sB_d (fun hsB1 => ?_) (fun hsB1 => ?_)
    ·
      refine wr_t (by omega) ?_
      refine wr_a fun n26 hn26 => ?_
      rw [wrap8 pn (by omega)] at hn26
      subst hn26
      refine al_t 0 fun r27 s28 hr27 b_5 c_6 z_7 => ?_
      refine tcall (c_rep (T + 3) (b := UInt8.ofNat (pn + 1)) b_5.sl) ?_
      rintro _ s30 ⟨ri, rfl, c_8, im_10⟩
      have z_9 := c_8.size
      refine dSl_i ?_
      refine al_t 0 fun r34 s35 hr34 b_11 c_12 z_13 => ?_
      have rows_14 := rows_3.mv c_6 (tagn (by simp))
      have rows_15 := rows_14.mv c_8 (tagn (by simp))
      have rows_16 := rows_15.mv c_12 (tagn (by simp))
      refine app_i u42 in38 rfl rows_16 b_11.sl (m := 1) (k := 1) rfl (by intro u hu; simp at hu; subst hu; rfl) (by simp) (by unfold maxLen; omega) fun s39 pa2 pc2 rows_19 c_170 _ => ?_
      have c_17 := c_170.ch (T := [T + 1]) rows_16 (by simp)
      have z_18 := c_17.size
      refine dSl_i ?_
      refine wr_t (by omega) ?_
      refine ⟨⟨s39, rfl, _, _, _, _, rfl, ((((((ChL.refl [T + 1] [] s).chl c_1 (by simp) (by simp <;> omega)).ch c_6 (by simp)).ch c_8 (by simp)).ch c_12 (by simp)).ch c_17 (by simp)), ?_⟩, ?_⟩
      ·
        have brel_20 := brel_4.mv c_6 (tagn (by simp))
        have brel_21 := brel_20.mv c_8 (tagn (by simp))
        have brel_22 := brel_21.mv c_12 (tagn (by simp))
        have brel_23 := brel_22.mv c_17 (tagn (by intro h; simp only [List.mem_cons, List.not_mem_nil, or_false] at h <;> omega))
        have im_24 := im_10.mv c_12 (tagn (by simp))
        have im_25 := im_24.mv c_17 (tagn (by intro h; simp only [List.mem_cons, List.not_mem_nil, or_false] at h <;> omega))
        exact ⟨pn + 1, hs ++ [(some ⟨ri, 0, none⟩, 128)], by omega, by omega, by omega, by simpa [hd1] using rows_19, by unfold imgs; rw [List.range_succ, List.map_append]; exact brel_23.snoc ⟨im_25, by simp⟩⟩
      ·
        simp only []; omega
    ·
      refine ret_t ?_
      obtain rfl : pn = n := by omega
      exact ⟨pa, pc, hs, rfl, ((Ch.refl [T + 1] s).chl c_1 (by simp) (by simp <;> omega)), rows_3, brel_4⟩

end Go.Proofs.YtngploohhmfaiaaGreat.E
