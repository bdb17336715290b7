/- My own texts, joined. -/
import Derived.Conc.MuLib
import Derived.KernelRfl
import Derived.Test.YtngploohhmfaiaaGreatProg
import Derived.Test.YtngploohhmfaiaaGreatAt7
/- Contracts of functions. -/
namespace Go.Proofs.YtngploohhmfaiaaGreat.E
open Go Go.Proofs
set_option linter.unusedVariables false
/-- bollard/disk.Of$1 -/
theorem c_of1 (p : Hd) (s : TH) : TRet Tryz.prog 153 #[.slice p.1 128 p.2] s fun v s' => v = .bool false ∧ Ch [] s s' := by
  refine F153_calls _ _ _  ?_
  unfold F153
  refine ret_t ?_
  exact ⟨rfl, (Ch.refl [] s)⟩
/-- slices.IndexFunc[[][]byte,[]byte] -/
theorem c_ixRow {a : Option Addr} {n : Nat} (c : Nat) {hs : List Hd} {τ : Nat} {s : TH} (hq : Sl s a (hs.flatMap hd1) τ) (hn : hs.length = n) (hn2 : n ≤ 1000000) {g : Nat} {xf xc : Array Value} (hg : plainFn Tryz.prog g = true) (hp : ∀ (s1 : TH) (x : Hd), TRet Tryz.prog g (argsOf xf [.slice x.1 128 x.2] xc) s1 fun v s2 => v = .bool false ∧ Ch [] s1 s2) : TRet Tryz.prog 199 #[.slice a n c, .func (.func g) xf xc] s fun v s' => v = .int .i64 (-1) ∧ Ch [] s s' := by
  refine F199_calls _ _ _ _ _ _  ?_
  unfold F199
  refine ⟨fun vs H' => ∃ s' : TH, s'.h = H' ∧ ∃ m, vs = [.int .i64 m] ∧ ChL [] [] s s' ∧ (∃ k : Nat, m = k ∧ k ≤ n), fun vs H' => match vs with | [.int .i64 m] => ((n : Int) - m).toNat | _ => 0, ⟨s, rfl, _, rfl, ChL.refl _ _ _, ?_⟩, ?_⟩
  ·
    exact ⟨0, rfl, by omega⟩
  ·
    intro m _ _ _ _ _ _ _ _ _ _ _ _ H16 hI
    obtain ⟨s16, rfl, m_, hvs, c_1, k, rfl, hk⟩ := hI
    cases hvs
    have z_2 := c_1.size
    refine sB_d (fun hsB1 => ?_) (fun hsB1 => ?_)
    ·
      have hk2 : k < n := by omega
      obtain ⟨x, hx⟩ : ∃ x, hs[k]? = some x := ⟨hs[k], by simp [hn, hk2]⟩
      obtain ⟨a, rfl⟩ := hq.some (fun e => by have := bcell hx; rw [e] at this; simp at this)
      refine nz_i ?_
      refine ask_t (by omega) ?_
      have q_3 := hq.mv c_1 (tagL (by simp <;> omega) (by simp))
      refine ld_sl q_3 (by rw [Int.toNat_natCast, Nat.mul_one]; exact bcell hx) ?_
      set_option maxRecDepth 4000 in
      refine dSl_i (a := x.1) (n := 128) (c := x.2) ?_
      rw [gB_eq hg]
      refine tcall (hp _ x) ?_
      rintro _ s24 ⟨rfl, c_4⟩
      have z_5 := c_4.size
      refine dBl_i ?_
      refine sB_f (by rfl) ?_
      refine wr_t (by omega) ?_
      refine ⟨⟨s24, rfl, _, rfl, (((ChL.refl [] [] s).chl c_1 (by simp) (by simp <;> omega)).ch c_4 (by simp)), ?_⟩, ?_⟩
      ·
        exact ⟨k + 1, by omega, by omega⟩
      ·
        simp only []; omega
    ·
      refine ret_t ?_
      exact ⟨rfl, ((Ch.refl [] s).chl c_1 (by simp) (by simp <;> omega))⟩
/-- slices.ContainsFunc[[][]byte,[]byte] -/
theorem c_ctRow {a : Option Addr} {n : Nat} (c : Nat) {hs : List Hd} {τ : Nat} {s : TH} (hq : Sl s a (hs.flatMap hd1) τ) (hn : hs.length = n) (hn2 : n ≤ 1000000) : TRet Tryz.prog 154 #[.slice a n c, .func (.func 153) #[] #[]] s fun v s' => v = .bool false ∧ Ch [] s s' := by
  refine F154_calls _ _ _ _ _ _  ?_
  unfold F154
  refine tcall (c_ixRow c hq hn hn2 (by kernel_rfl) (fun s1 x => c_of1 x s1)) ?_
  rintro _ s2 ⟨rfl, c_1⟩
  have z_2 := c_1.size
  refine dInt_i ?_
  refine ret_t ?_
  exact ⟨rfl, ((Ch.refl [] s).ch c_1 (by simp))⟩
/-- bollard/disk.image -/
theorem c_image (T : Nat) {a : Option Addr} {n : Nat} (c : Nat) {hs : List Hd} {bs : List (List UInt8)} {τ τb : Nat} {s : TH} (hq : Sl s a (hs.flatMap hd1) τ) (hb : BRel s τb hs bs) (hn : hs.length = n) (hn2 : n ≤ 2048) (h1 : τ ≠ T + 1) (h2 : τb ≠ T + 1) : TRet Tryz.prog 91 #[.slice a n c] s fun v s' => ∃ pa pc hs', v = .slice pa n pc ∧ Ch [T + 1] s s' ∧ Own s' pa n pc 38 1 (hs'.flatMap hd1) (T + 1) ∧ BRel s' (T + 3) hs' bs := by
  refine F91_calls _ _ _  ?_
  unfold F91
  refine ⟨fun vs H' => ∃ s' : TH, s'.h = H' ∧ ∃ pa pn pc m, vs = [.slice pa pn pc, .int .i64 m] ∧ ChL [T + 1] [] s s' ∧ (∃ (k : Nat) (hs' : List Hd), m = k ∧ pn = k ∧ k ≤ n ∧ Own s' pa k pc 38 1 (hs'.flatMap hd1) (T + 1) ∧ BRel s' (T + 3) hs' (bs.take k)), fun vs H' => match vs with | [.slice pa pn pc, .int .i64 m] => ((n : Int) - m).toNat | _ => 0, ⟨s, rfl, _, _, _, _, rfl, ChL.refl _ _ _, ?_⟩, ?_⟩
  ·
    exact ⟨0, [], rfl, rfl, by omega, Own.nil _ _ _ _, BRel.nil _ _⟩
  ·
    intro pa pn pc m _ _ _ _ _ _ _ _ _ _ H17 hI
    obtain ⟨s17, rfl, pa_, pn_, pc_, m_, hvs, c_1, k, hs', rfl, rfl, hk, rows_3, brel_4⟩ := hI
    cases hvs
    have z_2 := c_1.size
    refine sB_d (fun hsB1 => ?_) (fun hsB1 => ?_)
    ·
      have hk2 : pn < n := by omega
      obtain ⟨x, hx⟩ : ∃ x, hs[pn]? = some x := ⟨hs[pn], by simp [hn, hk2]⟩
      obtain ⟨b, hbk⟩ : ∃ b, bs[pn]? = some b := ⟨bs[pn]'(by rw [← hb.len, hn]; exact hk2), by simp⟩
      obtain ⟨a, rfl⟩ := hq.some (fun e => by have := bcell hx; rw [e] at this; simp at this)
      refine nz_i ?_
      refine ask_t (by omega) ?_
      have q_5 := hq.mv c_1 (tagL (by simp <;> omega) (by simp))
      refine ld_sl q_5 (by rw [Int.toNat_natCast, Nat.mul_one]; exact bcell hx) ?_
      refine dSl_i ?_
      have qb_6 := hb.mv c_1 (tagL (by simp <;> omega) (by simp))
      refine tcall (c_clone (T + 3) _ (qb_6.at_ _ _ _ hx hbk).sl (qb_6.at_ _ _ _ hx hbk).len (fun h => by obtain ⟨y, hy⟩ := (hb.at_ _ _ _ hx hbk).ne; rw [h] at hy; cases hy) (by omega)) ?_
      rintro _ s25 ⟨xa2, xc2, rfl, c_7, nx_9, hxn⟩
      have z_8 := c_7.size
      refine dSl_i ?_
      refine al_t 0 fun r29 s30 hr29 b_10 c_11 z_12 => ?_
      have rows_13 := rows_3.mv c_7 (tagn (by simp))
      have rows_14 := rows_13.mv c_11 (tagn (by simp))
      refine app_i u42 in38 rfl rows_14 b_10.sl (m := 1) (k := 1) rfl (by intro u hu; simp at hu; subst hu; rfl) (by simp) (by unfold maxLen; omega) fun s34 pa2 pc2 rows_17 c_150 _ => ?_
      have c_15 := c_150.ch (T := [T + 1]) rows_14 (by simp)
      have z_16 := c_15.size
      refine dSl_i ?_
      refine wr_t (by omega) ?_
      refine ⟨⟨s34, rfl, _, _, _, _, rfl, (((((ChL.refl [T + 1] [] s).chl c_1 (by simp) (by simp <;> omega)).ch c_7 (by simp)).ch c_11 (by simp)).ch c_15 (by simp)), ?_⟩, ?_⟩
      ·
        have brel_18 := brel_4.mv c_7 (tagn (by simp))
        have brel_19 := brel_18.mv c_11 (tagn (by simp))
        have brel_20 := brel_19.mv c_15 (tagn (by intro h; simp only [List.mem_cons, List.not_mem_nil, or_false] at h <;> omega))
        have nx_21 := nx_9.mv c_11 (tagn (by simp))
        have nx_22 := nx_21.mv c_15 (tagn (by intro h; simp only [List.mem_cons, List.not_mem_nil, or_false] at h <;> omega))
        exact ⟨pn + 1, hs' ++ [(xa2, xc2)], by omega, by omega, by omega, by simpa [hd1] using rows_17, by rw [List.take_add_one, hbk]; exact brel_20.snoc ⟨nx_22.sl, (hb.at_ _ _ _ hx hbk).len⟩⟩
      ·
        simp only []; omega
    ·
      refine ret_t ?_
      obtain rfl : pn = n := by omega
      exact ⟨pa, pc, hs', rfl, ((Ch.refl [T + 1] s).chl c_1 (by simp) (by simp <;> omega)), rows_3, by have h := brel_4; rw [List.take_of_length_le (by rw [← hb.len, hn]; omega)] at h; exact h⟩
def diskOf (bs : List (List UInt8)) : DiskM := ⟨bs, [], fun _ => 0, 0⟩
/-- bollard/disk.Of -/
theorem c_of (T : Nat) {a : Option Addr} {n : Nat} (c : Nat) {hs : List Hd} {bs : List (List UInt8)} {τ τb : Nat} {s : TH} (hT : 10 ≤ T) (hq : Sl s a (hs.flatMap hd1) τ) (hb : BRel s τb hs bs) (hn : hs.length = n) (hn2 : 1 ≤ n ∧ n ≤ 2048) (h1 : τ ≠ T + 1) (h2 : τb ≠ T + 1) : TRet Tryz.prog 97 #[.slice a n c] s fun v s' => ∃ d, v = .tuple #[.pointer (some ⟨d, 0, none⟩), .int .i64 0] ∧ Ch [T + 1] s s' ∧ Disk s' d T (diskOf bs) := by
  refine F97_calls _ _ _  ?_
  unfold F97
  refine jn_u ?_
  refine sB_d (fun hsB1 => by exfalso; omega) (fun hsB1 => ?_)
  refine sB_d (fun hsB2 => by exfalso; omega) (fun hsB2 => ?_)
  refine tcall (c_ctRow c hq hn (by omega)) ?_
  rintro _ s29 ⟨rfl, c_1⟩
  have z_2 := c_1.size
  refine dBl_i ?_
  intro _ _ _ _ _ _ _ _ _ _ _ _
  refine dBl_i ?_
  refine sB_f (by rfl) ?_
  have q_3 := hq.mv c_1 (tagn (by simp))
  have qb_4 := hb.mv c_1 (tagn (by simp))
  refine tcall (c_image T c q_3 qb_4 hn hn2.2 h1 h2) ?_
  rintro _ s17 ⟨pa, pc, hs', rfl, c_5, rows_7, brel_8⟩
  have z_6 := c_5.size
  refine dSl_i ?_
  refine alm_t (Value.int .i64) (T + 4) fun r21 s22 hr21 m_9 c_10 z_11 => ?_
  refine al_t T fun r23 s24 hr23 b_12 c_13 z_14 => ?_
  refine ret_t ?_
  have rows_15 := rows_7.mv c_10 (tagn (by simp))
  have rows_16 := rows_15.mv c_13 (tagn (by simp))
  have brel_17 := brel_8.mv c_10 (tagn (by simp))
  have brel_18 := brel_17.mv c_13 (tagn (by simp))
  have r21_19 := m_9.ch c_13 (by simp)
  have hl : bs.length = n := by rw [← hb.len, hn]
  subst hl
  exact ⟨r23, rfl, (((((Ch.refl [T + 1] s).ch c_1 (by simp)).ch c_5 (by simp)).ch c_10 (by simp)).ch c_13 (by simp)), pa, pc, none, 0, hs', [], r21, [], ⟨by simpa [diskOf] using b_12, by simpa [diskOf] using rows_16, brel_18, Own.nil _ _ _ _, QRel.nil _ _, r21_19, fun b => rfl, by simp [diskOf]; omega, by simp [diskOf], fun m hm => by simp [diskOf] at hm⟩⟩
end Go.Proofs.YtngploohhmfaiaaGreat.E
/- The numbers under which this program holds sync.Mutex's texts, and that it holds them. -/
namespace Go.Proofs
abbrev Tryz.muLink : Go.Conc.Locks.MuLink := { lock := 113, unlock := 69, ilock := 172, iunlock := 124, lockSlow := 222, unlockSlow := 186, disable := 184, enable := 187, acquire := 221, relMerge := 183, cas32 := 220, add32 := 185, tMutex := 29, tIMutex := 27, tPMutex := 186, tPIMutex := 248, tPI32 := 252, tUP := 250, tNoCopy := 24, tU32 := 25 }
theorem Tryz.muLib : Go.Conc.Locks.MuLib Tryz.prog Tryz.muLink :=
  ⟨Tryz.func113, Tryz.func69, Tryz.func172, Tryz.func124, Tryz.func184, Tryz.func187, Tryz.func221, Tryz.func183, Tryz.func220, Tryz.func185, Tryz.underlying27, Tryz.runUnderlying27, Tryz.sizeOf27, Tryz.isAgg27, Tryz.zeroValue27, Tryz.underlying29, Tryz.runUnderlying29, Tryz.sizeOf29, Tryz.isAgg29, Tryz.zeroValue29, Tryz.underlying186, Tryz.runUnderlying186, Tryz.sizeOf186, Tryz.isAgg186, Tryz.zeroValue186, Tryz.underlying248, Tryz.runUnderlying248, Tryz.sizeOf248, Tryz.isAgg248, Tryz.zeroValue248, Tryz.underlying252, Tryz.runUnderlying252, Tryz.sizeOf252, Tryz.isAgg252, Tryz.zeroValue252, Tryz.underlying250, Tryz.runUnderlying250, Tryz.sizeOf250, Tryz.isAgg250, Tryz.zeroValue250, Tryz.underlying24, Tryz.runUnderlying24, Tryz.sizeOf24, Tryz.isAgg24, Tryz.zeroValue24, Tryz.underlying21, Tryz.runUnderlying21, Tryz.sizeOf21, Tryz.isAgg21, Tryz.zeroValue21, (by kernel_rfl)⟩
end Go.Proofs
/- Contracts of functions. -/
namespace Go.Proofs.YtngploohhmfaiaaGreat.E
open Go Go.Proofs
set_option linter.unusedVariables false
/-- a volume that no call made -/
structure NoV (s : TH) (p : Option Addr) (τ : Nat) : Prop where
  h : p = none ∨ ∃ c, p = some ⟨c, 0, none⟩ ∧ Blk s c [.int .i32 0, .int .u32 0, .pointer none, .pointer none, .pointer none, .map none, .bool false, .bool false, .int .i64 0, .map none] 57 τ
theorem NoV.mv {s s' : TH} {p : Option Addr} {τ : Nat} {B : Nat → Prop} (h : NoV s p τ) (c : Chg B s s') (hn : ∀ j, j < s.h.size → s.g j = τ → ¬ B j) : NoV s' p τ := by
  rcases h.h with h | ⟨r, h1, h2⟩
  · exact ⟨.inl h⟩
  · exact ⟨.inr ⟨r, h1, h2.mv c (hn r h2.lt h2.tag)⟩⟩
end Go.Proofs.YtngploohhmfaiaaGreat.E
/- Contracts of functions. -/
namespace Go.Proofs.YtngploohhmfaiaaGreat.E
open Go Go.Proofs
set_option linter.unusedVariables false
/-- bollard/cache.New -/
theorem c_cnew (T d : Nat) (D : DiskM) (T2 : Nat) (b : Int) (s : TH) (hT : 10 ≤ T) (hd : Disk s d T D) (hb : 1 ≤ b ∧ b ≤ 64) : TRet Tryz.prog 81 #[.pointer (some ⟨d, 0, none⟩), .int .i64 b] s fun v s' => ∃ c r, v = .tuple #[.pointer (some ⟨c, 0, none⟩), .int .i64 0] ∧ Ch [] s s' ∧ Blk s' c [.pointer (some ⟨d, 0, none⟩), .int .i64 b, .map (some r), .int .i64 0, .int .i64 0, .int .i64 0] 203 T2 ∧ MapK (Value.int .i64) s' r [] (T2 + 1) := by
  have hnb : 1 ≤ D.blocks.length := by obtain ⟨_, _, _, _, _, _, _, _, h⟩ := id hd; exact h.nb.1
  refine F81_calls _ _  ?_
  unfold F81
  refine tcall (c_blocks _ _ _ _ hT hd) ?_
  rintro _ s2 ⟨rfl, c_1⟩
  have z_2 := c_1.size
  refine dInt_i ?_
  refine sB_eq (fun hsB1 => ?_) (fun hsB1 => ?_)
  ·
    refine ret_t ?_
    omega
  ·
    refine jn_u ?_
    refine sB_d (fun hsB2 => by exfalso; omega) (fun hsB2 => ?_)
    intro _ _ _ _ _
    refine dBl_i ?_
    first | refine sB_d (fun hsB3 => ?_) (fun hsB3 => ?_) | refine sB_nd (fun hsB3 => ?_) (fun hsB3 => ?_) | refine sB_n (fun hsB3 => ?_) (fun hsB3 => ?_) | refine sB_i (fun hsB3 => ?_) (fun hsB3 => ?_)
    ·
      refine ret_t ?_
      simp at hsB3; omega
    ·
      refine alm_t (Value.int .i64) (T2 + 1) fun r12 s13 hr12 m_3 c_4 z_5 => ?_
      refine al_t T2 fun r14 s15 hr14 b_6 c_7 z_8 => ?_
      refine ret_t ?_
      have r12_9 := m_3.ch c_7 (by simp)
      exact ⟨r14, r12, rfl, ((((Ch.refl [] s).ch c_1 (by simp)).ch c_4 (by simp)).ch c_7 (by simp)), b_6, r12_9⟩
/-- bollard/patch.New -/
theorem c_pnew (T : Nat) (s : TH) : TRet Tryz.prog 82 #[] s fun v s' => ∃ p r1 r2, v = .pointer (some ⟨p, 0, none⟩) ∧ Ch [] s s' ∧ Blk s' p [.int .i64 0, .map (some r1), .map (some r2), .bool true] 192 T ∧ MapK (Value.int .i64) s' r1 [] (T + 1) ∧ MapK (Value.int .i64) s' r2 [] (T + 2) := by
  refine F82_calls  ?_
  unfold F82
  refine alm_t (Value.int .i64) (T + 1) fun r1 s2 hr1 m_1 c_2 z_3 => ?_
  refine alm_t (Value.int .i64) (T + 2) fun r3 s4 hr3 m_4 c_5 z_6 => ?_
  refine al_t T fun r5 s6 hr5 b_7 c_8 z_9 => ?_
  refine ret_t ?_
  have r1_10 := m_1.ch c_5 (by simp)
  have r1_11 := r1_10.ch c_8 (by simp)
  have r3_12 := m_4.ch c_8 (by simp)
  exact ⟨r5, r1, r3, rfl, ((((Ch.refl [] s).ch c_2 (by simp)).ch c_5 (by simp)).ch c_8 (by simp)), b_7, r1_11, r3_12⟩
/-- a disk that no call made -/
structure NoD (s : TH) (p : Option Addr) (τ : Nat) : Prop where
  h : p = none ∨ ∃ c, p = some ⟨c, 0, none⟩ ∧ Blk s c [.slice none 0 0, .slice none 0 0, .map none, .int .i64 0] 133 τ
theorem NoD.mv {s s' : TH} {p : Option Addr} {τ : Nat} {B : Nat → Prop} (h : NoD s p τ) (c : Chg B s s') (hn : ∀ j, j < s.h.size → s.g j = τ → ¬ B j) : NoD s' p τ := by
  rcases h.h with h | ⟨r, h1, h2⟩
  · exact ⟨.inl h⟩
  · exact ⟨.inr ⟨r, h1, h2.mv c (hn r h2.lt h2.tag)⟩⟩
/-- (*bollard/volume.Volume).held -/
theorem c_vheld (r τ : Nat) {d : Addr} {v3 v4 v5 v6 v7 v8 v9 : Value} {s : TH} (hr : Blk s r [.int .i32 0, .int .u32 0, .pointer (some d), v3, v4, v5, v6, v7, v8, v9] 57 τ) : TRet Tryz.prog 68 #[.pointer (some ⟨r, 0, none⟩)] s fun v s' => v = .bool true ∧ Ch [τ] s s' ∧ Blk s' r [.int .i32 1, .int .u32 0, .pointer (some d), v3, v4, v5, v6, v7, v8, v9] 57 τ := by
  refine F68_calls _  ?_
  unfold F68
  refine sB_f (by rfl) ?_
  refine nz_i ?_
  refine tcall (c_mlock Tryz.muLib hr rfl) ?_
  rintro _ s3 ⟨rfl, c_1, v_3⟩
  have z_2 := c_1.size
  refine nz_i ?_
  refine ld_t v_3 rfl ?_
  refine dPtr_i ?_
  refine sB_f (by rfl) ?_
  refine ret_t ?_
  exact ⟨rfl, ((Ch.refl [τ] s).ch c_1 (by simp)), v_3⟩
end Go.Proofs.YtngploohhmfaiaaGreat.E
/- Contracts of functions. -/
namespace Go.Proofs.YtngploohhmfaiaaGreat.E
open Go Go.Proofs Go.RowKit Go.Maps Go.Shelf Go.Sort
set_option linter.unusedVariables false
set_option linter.unusedSimpArgs false
/-- what a cache without pins holds is what the disk has -/
structure Coh (C : CacheM) (bs : List (List UInt8)) : Prop where
  eq : ∀ x ∈ C.l, bs[x.blk.toNat]? = some x.by_
  pin : ∀ x ∈ C.l, x.pins = 0
structure CacheV (s : TH) (c T d : Nat) (bs : List (List UInt8)) (n : Int) : Prop where
  p : ∃ C, Cache s c T d C ∧ Coh C bs ∧ C.clock ≤ n ∧ C.hits ≤ n ∧ C.misses ≤ n
theorem CacheV.mv {s s' : TH} {c T d : Nat} {bs : List (List UInt8)} {n : Int} {B : Nat → Prop} (h : CacheV s c T d bs n) (k : Chg B s s') (hn : ∀ j, j < s.h.size → T ≤ s.g j → s.g j < T + 10 → ¬ B j) : CacheV s' c T d bs n := by
  obtain ⟨C, h1, h2⟩ := h
  exact ⟨C, h1.mv k hn, h2⟩
theorem Coh.free {C : CacheM} {bs : List (List UInt8)} (h : Coh C bs) (hb : 1 ≤ C.bound) : ∃ l, C.room = some l ∧ l.Sublist C.l := by
  have : C.room ≠ none := by
    unfold CacheM.room
    by_cases hl : (C.l.length : Int) < C.bound
    · rw [if_pos hl]; simp
    · rw [if_neg hl]
      have hne : C.l ≠ [] := fun e => by rw [e] at hl; simp at hl; omega
      obtain ⟨x, l, e⟩ := List.exists_cons_of_ne_nil hne
      unfold freeB
      rw [e, List.find?_cons, show (x.pins == 0) = true by rw [h.pin x (by rw [e]; simp)]; rfl]
      simp
  cases hr : C.room with
  | none => exact absurd hr this
  | some l => exact ⟨l, rfl, room_mem hr⟩
theorem Coh.get {C : CacheM} {bs : List (List UInt8)} {b : Int} {y : List UInt8} (h : Coh C bs) (hb : 1 ≤ C.bound) (hy : bs[b.toNat]? = some y) :
    (C.get bs b).2 = 0 ∧ Coh (C.get bs b).1 bs ∧ (C.get bs b).1.clock = C.clock + 1 ∧ (C.get bs b).1.hits ≤ C.hits + 1 ∧ (C.get bs b).1.misses ≤ C.misses + 1 := by
  cases hf : C.find b with
  | some x =>
    obtain ⟨hx, rfl⟩ := find_mem hf
    rw [get_hit hf]
    refine ⟨rfl, ⟨fun z hz => ?_, fun z hz => ?_⟩, rfl, Int.le_refl _, by show C.misses ≤ C.misses + 1; omega⟩
    · rcases List.mem_append.1 hz with hz | hz
      · exact h.eq z (rmB_mem.1 hz).1
      · rw [List.mem_singleton] at hz; subst hz; exact h.eq x hx
    · rcases List.mem_append.1 hz with hz | hz
      · exact h.pin z (rmB_mem.1 hz).1
      · rw [List.mem_singleton] at hz; subst hz; exact h.pin x hx
  | none =>
    obtain ⟨l, hr, hs⟩ := h.free hb
    rw [get_load hf hr hy]
    refine ⟨rfl, ⟨fun z hz => ?_, fun z hz => ?_⟩, rfl, by show C.hits ≤ C.hits + 1; omega, Int.le_refl _⟩
    · rcases List.mem_append.1 hz with hz | hz
      · exact h.eq z (hs.subset hz)
      · rw [List.mem_singleton] at hz; subst hz; exact hy
    · rcases List.mem_append.1 hz with hz | hz
      · exact h.pin z (hs.subset hz)
      · rw [List.mem_singleton] at hz; subst hz; rfl
theorem Coh.held {C : CacheM} {bs : List (List UInt8)} {b : Int} {y : List UInt8} (h : Coh C bs) (hb : 1 ≤ C.bound) (hy : bs[b.toNat]? = some y) : (C.get bs b).1.bytes b = y := by
  have h1 := (h.get hb hy).2.1
  unfold CacheM.bytes
  have hfd : ∃ x, (C.get bs b).1.find b = some x := by
    cases hf : C.find b with
    | some x =>
      obtain ⟨hx, rfl⟩ := find_mem hf
      rw [get_hit hf]
      have : ((rmB C.l x.blk ++ [{ x with used := C.clock + 1 }] : List BufM).find? fun z : BufM => z.blk == x.blk).isSome = true := List.find?_isSome.2 ⟨({ x with used := C.clock + 1 } : BufM), by simp, by simp⟩
      exact Option.isSome_iff_exists.1 this
    | none =>
      obtain ⟨l, hr, hs⟩ := h.free hb
      rw [get_load hf hr hy]
      have : ((l ++ [⟨b, y, 0, C.clock + 1⟩] : List BufM).find? fun z : BufM => z.blk == b).isSome = true := List.find?_isSome.2 ⟨(⟨b, y, 0, C.clock + 1⟩ : BufM), by simp, by simp⟩
      exact Option.isSome_iff_exists.1 this
  obtain ⟨x, hx⟩ := hfd
  rw [hx]
  obtain ⟨hm, hb2⟩ := find_mem hx
  have h2 := h1.eq x hm
  rw [hb2, hy] at h2
  exact (Option.some.inj h2).symm
theorem CacheP.bnd' {s : TH} {c T d : Nat} {C : CacheM} (h : Cache s c T d C) : 1 ≤ C.bound := by
  obtain ⟨⟨r, m, bp, bh, hp⟩, ok⟩ := h; exact hp.bnd.1
theorem c_vcGet (τ : Nat) {c T d Td : Nat} {D : DiskM} {b n : Int} {l : List UInt8} {s : TH} (hT : 10 ≤ T) (hTd : 10 ≤ Td) (hTT : T + 10 ≤ Td ∨ Td + 10 ≤ T) (hc : CacheV s c T d D.blocks n) (hd : Disk s d Td D) (hb : D.has b) (hl : D.blocks[b.toNat]? = some l) (hf : D.fails b ≤ 0) (hn : n < 9000000000000000000) :
    TRet Tryz.prog 125 #[.pointer (some ⟨c, 0, none⟩), .int .i64 b] s fun v s' => ∃ a cc, v = .tuple #[.slice a 128 cc, .int .i64 0] ∧ Ch [T, T + 1, T + 2, T + 3] s s' ∧ CacheV s' c T d D.blocks (n + 1) ∧ Own s' a 128 cc 5 1 (bvs l) τ := by
  obtain ⟨C, h1, h2, h3, h4, h5⟩ := hc
  have hbd := CacheP.bnd' h1
  refine (c_Get c T d Td C D b τ s hT hTd hTT h1 hd (fun _ => ⟨l, hl⟩) hf (by omega)).mono ?_
  rintro v s' ⟨a, k, cc, e, rfl, hch, hres⟩
  rcases hres with ⟨g1, _⟩ | ⟨g1, g2, g3, g4⟩
  · exact absurd hb g1
  · have g5 := h2.get hbd hl
    rw [g5.1] at g2
    subst g2
    obtain ⟨rfl, g6, g7⟩ := g4 rfl
    rw [h2.held hbd hl] at g6
    exact ⟨a, cc, rfl, hch, ⟨_, g3, g5.2.1, by rw [g5.2.2.1]; omega, by have := g5.2.2.2.1; omega, by have := g5.2.2.2.2; omega⟩, g6⟩
theorem Coh.put {C : CacheM} {bs : List (List UInt8)} {b : Int} {y : List UInt8} (h : Coh C bs) (h0 : 0 ≤ b) (hb : b < bs.length) (hr : ∀ x ∈ C.l, 0 ≤ x.blk) : Coh (C.put b y) (bs.set b.toNat y) := by
  refine ⟨fun x hx => ?_, fun x hx => ?_⟩
  · obtain ⟨z, hz, ⟨h1, rfl⟩ | ⟨h1, rfl⟩⟩ := updB_mem hx
    · have := hr _ hz
      rw [List.getElem?_set_ne (by omega)]; exact h.eq _ hz
    · show (bs.set b.toNat y)[z.blk.toNat]? = some y
      rw [h1, List.getElem?_set_self (by omega)]
  · obtain ⟨z, hz, ⟨h1, rfl⟩ | ⟨h1, rfl⟩⟩ := updB_mem hx
    · exact h.pin _ hz
    · exact h.pin z hz
/-- a write on the way -/
structure WayM where
  blk : Int
  by_ : List UInt8
  ids : List Int
structure OldM where
  on : Bool
  broken : Bool
  room : Int
  kept : List (Int × List UInt8)
structure VolM where
  D : DiskM
  P : PatchM
  way : List (Int × WayM)
  old : OldM
  n : Int
def WayV (s : TH) (τ : Nat) (v : Value) (w : WayM) : Prop := ∃ ba bc ia ic, v = .agg #[.int .i64 w.blk, .slice ba 128 bc, .slice ia w.ids.length ic] ∧ Sl s ba (bvs w.by_) τ ∧ Sl s ia (ivs w.ids) τ ∧ w.by_.length = 128
theorem WayV.mv {s s' : TH} {τ : Nat} {v : Value} {w : WayM} {B : Nat → Prop} (h : WayV s τ v w) (c : Chg B s s') (hn : ∀ j, j < s.h.size → s.g j = τ → ¬ B j) : WayV s' τ v w := by
  obtain ⟨ba, bc, ia, ic, h1, h2, h3, h4⟩ := h
  exact ⟨ba, bc, ia, ic, h1, h2.mv c hn, h3.mv c hn, h4⟩
def WMap (s : TH) (τ : Nat) : List (Int × Value) → List (Int × WayM) → Prop
  | [], [] => True
  | e :: m, p :: l => e.1 = p.1 ∧ WayV s τ e.2 p.2 ∧ WMap s τ m l
  | _, _ => False
theorem WMap.mv {s s' : TH} {τ : Nat} {B : Nat → Prop} : ∀ {m : List (Int × Value)} {l : List (Int × WayM)}, WMap s τ m l → Chg B s s' → (∀ j, j < s.h.size → s.g j = τ → ¬ B j) → WMap s' τ m l
  | [], [], h, c, hn => trivial
  | e :: m, p :: l, h, c, hn => ⟨h.1, h.2.1.mv c hn, WMap.mv h.2.2 c hn⟩
  | [], _ :: _, h, _, _ => h.elim
  | _ :: _, [], h, _, _ => h.elim
theorem WMap.keys {s : TH} {τ : Nat} : ∀ {m : List (Int × Value)} {l : List (Int × WayM)}, WMap s τ m l → m.map (·.1) = l.map (·.1)
  | [], [], _ => rfl
  | e :: m, p :: l, h => by rw [List.map_cons, List.map_cons, h.1, WMap.keys h.2.2]
  | [], _ :: _, h => h.elim
  | _ :: _, [], h => h.elim
theorem WMap.mem_ {s : TH} {τ : Nat} : ∀ {m : List (Int × Value)} {l : List (Int × WayM)} {k : Int} {v : Value}, WMap s τ m l → (k, v) ∈ m → ∃ p ∈ l, p.1 = k ∧ WayV s τ v p.2
  | [], [], k, v, h, hm => by cases hm
  | e :: m, q :: l, k, v, h, hm => by
    rcases List.mem_cons.1 hm with rfl | hm
    · exact ⟨q, by simp, h.1.symm, h.2.1⟩
    · obtain ⟨p, h1, h2⟩ := WMap.mem_ h.2.2 hm
      exact ⟨p, List.mem_cons_of_mem _ h1, h2⟩
  | [], _ :: _, _, _, h, _ => h.elim
  | _ :: _, [], _, _, h, _ => h.elim
theorem WMap.get {s : TH} {τ : Nat} : ∀ {m : List (Int × Value)} {l : List (Int × WayM)} {k : Nat} {p : Int × WayM}, WMap s τ m l → (l.map (·.1)).Nodup → l[k]? = some p → ∃ v, mget p.1 m = some v ∧ WayV s τ v p.2
  | [], [], k, p, h, hn, hp => by simp at hp
  | e :: m, q :: l, k, p, h, hn, hp => by
    obtain ⟨ek, ev⟩ := e
    have hk : ek = q.1 := h.1
    rw [List.map_cons, List.nodup_cons] at hn
    cases k with
    | zero => simp at hp; subst hp; exact ⟨ev, by rw [mget, if_pos hk.symm], h.2.1⟩
    | succ k =>
      have hp : l[k]? = some p := by simpa using hp
      obtain ⟨v, h1, h2⟩ := WMap.get h.2.2 hn.2 hp
      have hne : p.1 ≠ ek := fun e => hn.1 (by rw [← hk, ← e]; exact List.mem_map.2 ⟨p, List.mem_of_getElem? hp, rfl⟩)
      exact ⟨v, by rw [mget, if_neg hne]; exact h1, h2⟩
  | [], _ :: _, _, _, h, _, _ => h.elim
  | _ :: _, [], _, _, h, _, _ => h.elim
theorem WMap.snoc {s : TH} {τ : Nat} {v : Value} {p : Int × WayM} (hv : WayV s τ v p.2) : ∀ {m : List (Int × Value)} {l : List (Int × WayM)}, WMap s τ m l → p.1 ∉ l.map (·.1) → WMap s τ (mset p.1 v m) (l ++ [p])
  | [], [], h, _ => ⟨rfl, hv, trivial⟩
  | e :: m, q :: l, h, hn => by
    obtain ⟨k, x⟩ := e
    have hk : k = q.1 := h.1
    rw [List.map_cons, List.mem_cons, not_or] at hn
    show WMap s τ (if p.1 = k then (p.1, v) :: m else (k, x) :: mset p.1 v m) (q :: (l ++ [p]))
    rw [if_neg (by rw [hk]; exact hn.1)]
    exact ⟨h.1, h.2.1, WMap.snoc hv h.2.2 hn.2⟩
  | [], _ :: _, h, _ => h.elim
  | _ :: _, [], h, _ => h.elim
theorem WMap.del {s : TH} {τ : Nat} : ∀ {m : List (Int × Value)} {l : List (Int × WayM)} {k : Nat} {p : Int × WayM}, WMap s τ m l → (l.map (·.1)).Nodup → l[k]? = some p → WMap s τ (mdel p.1 m) (l.eraseIdx k)
  | [], [], k, p, h, hn, hp => by simp at hp
  | e :: m, q :: l, k, p, h, hn, hp => by
    obtain ⟨ek, ev⟩ := e
    have hk : ek = q.1 := h.1
    rw [List.map_cons, List.nodup_cons] at hn
    show WMap s τ (if p.1 = ek then m else (ek, ev) :: mdel p.1 m) _
    cases k with
    | zero => simp at hp; subst hp; rw [if_pos hk.symm]; exact h.2.2
    | succ k =>
      have hp : l[k]? = some p := by simpa using hp
      have hne : p.1 ≠ ek := fun e => hn.1 (by rw [← hk, ← e]; exact List.mem_map.2 ⟨p, List.mem_of_getElem? hp, rfl⟩)
      rw [if_neg hne]
      exact ⟨h.1, h.2.1, WMap.del h.2.2 hn.2 hp⟩
  | [], _ :: _, _, _, h, _, _ => h.elim
  | _ :: _, [], _, _, h, _, _ => h.elim
def KMap (s : TH) (τ : Nat) : List (Int × Value) → List (Int × List UInt8) → Prop
  | [], [] => True
  | e :: m, p :: l => e.1 = p.1 ∧ (∃ a c, e.2 = .slice a 128 c ∧ Sl s a (bvs p.2) τ ∧ p.2.length = 128) ∧ KMap s τ m l
  | _, _ => False
theorem KMap.mv {s s' : TH} {τ : Nat} {B : Nat → Prop} : ∀ {m : List (Int × Value)} {l : List (Int × List UInt8)}, KMap s τ m l → Chg B s s' → (∀ j, j < s.h.size → s.g j = τ → ¬ B j) → KMap s' τ m l
  | [], [], h, c, hn => trivial
  | e :: m, p :: l, ⟨h1, ⟨a, c0, h2, h3, h4⟩, h5⟩, c, hn => ⟨h1, ⟨a, c0, h2, h3.mv c hn, h4⟩, KMap.mv h5 c hn⟩
  | [], _ :: _, h, _, _ => h.elim
  | _ :: _, [], h, _, _ => h.elim
theorem KMap.keys {s : TH} {τ : Nat} : ∀ {m : List (Int × Value)} {l : List (Int × List UInt8)}, KMap s τ m l → m.map (·.1) = l.map (·.1)
  | [], [], _ => rfl
  | e :: m, p :: l, h => by rw [List.map_cons, List.map_cons, h.1, KMap.keys h.2.2]
  | [], _ :: _, h => h.elim
  | _ :: _, [], h => h.elim
def kfind (l : List (Int × List UInt8)) (b : Int) : Option (List UInt8) := (l.find? fun e => e.1 == b).map (·.2)
theorem KMap.get {s : TH} {τ : Nat} {b : Int} : ∀ {m : List (Int × Value)} {l : List (Int × List UInt8)}, KMap s τ m l →
    match kfind l b with
    | some y => ∃ a c, mget b m = some (.slice a 128 c) ∧ Sl s a (bvs y) τ ∧ y.length = 128
    | none => mget b m = none
  | [], [], h => by simp [kfind, mget]
  | e :: m, q :: l, h => by
    obtain ⟨ek, ev⟩ := e
    have hk : ek = q.1 := h.1
    obtain ⟨_, ⟨a, c, h2, h3, h4⟩, h5⟩ := h
    have ih := KMap.get (b := b) h5
    unfold kfind at ih ⊢
    rw [List.find?_cons]
    by_cases hq : q.1 = b
    · rw [show (q.1 == b) = true by simpa using hq]
      simp only [Option.map_some]
      exact ⟨a, c, by rw [mget, if_pos (by rw [hk, hq])]; exact congrArg some h2, h3, h4⟩
    · rw [show (q.1 == b) = false by simpa using hq]
      simp only [mget, if_neg (show ¬ b = ek by rw [hk]; exact fun e => hq e.symm)]
      exact ih
  | [], _ :: _, h => h.elim
  | _ :: _, [], h => h.elim
theorem KMap.snoc {s : TH} {τ : Nat} {a : Option Addr} {c : Nat} {b : Int} {y : List UInt8} (hv : Sl s a (bvs y) τ) (hy : y.length = 128) : ∀ {m : List (Int × Value)} {l : List (Int × List UInt8)}, KMap s τ m l → kfind l b = none → KMap s τ (mset b (.slice a 128 c) m) (l ++ [(b, y)])
  | [], [], h, _ => ⟨rfl, ⟨a, c, rfl, hv, hy⟩, trivial⟩
  | e :: m, q :: l, h, hn => by
    obtain ⟨k, x⟩ := e
    have hk : k = q.1 := h.1
    unfold kfind at hn
    rw [List.find?_cons] at hn
    by_cases hq : q.1 = b
    · rw [show (q.1 == b) = true by simpa using hq] at hn; simp at hn
    · rw [show (q.1 == b) = false by simpa using hq] at hn
      show KMap s τ (if b = k then (b, _) :: m else (k, x) :: mset b _ m) (q :: (l ++ [(b, y)]))
      rw [if_neg (by rw [hk]; exact fun e => hq e.symm)]
      exact ⟨h.1, h.2.1, KMap.snoc hv hy h.2.2 hn⟩
  | [], _ :: _, h, _ => h.elim
  | _ :: _, [], h, _ => h.elim
structure OMap (s : TH) (rk : Option Nat) (mk : List (Int × Value)) (τ : Nat) : Prop where
  at_ : ∀ r, rk = some r → MapK (Value.int .i64) s r mk τ
  no : rk = none → mk = []
theorem OMap.mv {s s' : TH} {rk : Option Nat} {mk : List (Int × Value)} {τ : Nat} {B : Nat → Prop} (h : OMap s rk mk τ) (c : Chg B s s') (hn : ∀ j, j < s.h.size → s.g j = τ → ¬ B j) : OMap s' rk mk τ :=
  ⟨fun r hr => (h.at_ r hr).mv c (hn r (h.at_ r hr).lt (h.at_ r hr).tag), h.no⟩
theorem olook_n {P : Program} {E : List PanicEntry → Heap → Prop} {T Kt Et : TypeId} {s : TH} {rk : Option Nat} {mk : List (Int × Value)} {τ : Nat} {z : Value} {b : Int} {K : Value → Heap → Prop} (ko : KeyOk P Kt (Value.int .i64)) (hT : P.underlying T = some (.map Kt Et)) (hz : ∀ w, (zeroValue Et).run P w = .ok z w) (h : OMap s rk mk τ) (hm : mget b mk = none) (hk : K (.tuple #[z, .bool false]) s.h) :
    semW P (Instr.lookup T (.map rk) (.int .i64 b) true) E s.h K := by
  cases rk with
  | none => exact lookn_ok ko hT hz b hk
  | some r => exact look_okn ko hT hz (h.at_ r rfl) b hm hk
theorem olook_s {P : Program} {E : List PanicEntry → Heap → Prop} {T Kt Et : TypeId} {s : TH} {rk : Option Nat} {mk : List (Int × Value)} {τ : Nat} {z v : Value} {b : Int} {K : Value → Heap → Prop} (ko : KeyOk P Kt (Value.int .i64)) (hT : P.underlying T = some (.map Kt Et)) (hz : ∀ w, (zeroValue Et).run P w = .ok z w) (h : OMap s rk mk τ) (hm : mget b mk = some v) (hk : K (.tuple #[v, .bool true]) s.h) :
    semW P (Instr.lookup T (.map rk) (.int .i64 b) true) E s.h K := by
  cases rk with
  | none => rw [h.no rfl] at hm; cases hm
  | some r => exact look_oks ko hT hz (h.at_ r rfl) b hm hk
theorem OMap.of {s : TH} {r : Nat} {mk : List (Int × Value)} {τ : Nat} (h : MapK (Value.int .i64) s r mk τ) : OMap s (some r) mk τ := ⟨fun r' e => by cases e; exact h, fun e => by cases e⟩
def sentOf (p : Int × WayM) : SentM := ⟨p.1, p.2.blk, p.2.by_⟩
structure VOk (V : VolM) : Prop where
  que : V.D.queue = V.way.map sentOf
  wid : ∀ p ∈ V.way, 1 ≤ p.1 ∧ p.1 ≤ V.D.last
  wsr : V.way.Pairwise fun x y => x.1 < y.1
  lst : 0 ≤ V.D.last ∧ V.D.last ≤ V.n
  n0 : 0 ≤ V.n ∧ V.n ≤ 1000000000000000000
  nof : ∀ b, V.D.fails b ≤ 0
  len : ∀ y ∈ V.D.blocks, y.length = 128
  wlen : V.way.length ≤ 64
  wids : ∀ p ∈ V.way, (p.2.ids.length : Int) ≤ 1000000
structure VolP (s : TH) (v d U : Nat) (V : VolM) (lk : Int) (c p rw : Nat) (rk : Option Nat) (mw mk : List (Int × Value)) : Prop where
  blk : Blk s v [.int .i32 lk, .int .u32 0, .pointer (some ⟨d, 0, none⟩), .pointer (some ⟨c, 0, none⟩), .pointer (some ⟨p, 0, none⟩), .map (some rw), .bool V.old.on, .bool V.old.broken, .int .i64 V.old.room, .map rk] 57 U
  wm : MapK (Value.int .i64) s rw mw (U + 1)
  wv : WMap s (U + 2) mw V.way
  kn : V.old.on = true → rk.isSome = true
  om : OMap s rk mk (U + 3)
  kv : KMap s (U + 4) mk V.old.kept
  dk : Disk s d (U + 10) V.D
  ca : CacheV s c (U + 20) d V.D.blocks V.n
  ps : PSet s p (U + 30) V.P
/-- a volume; one that is locked -/
structure VolL (s : TH) (v d U : Nat) (V : VolM) (lk : Int) : Prop where
  p : ∃ c p rw rk mw mk, VolP s v d U V lk c p rw rk mw mk
  ok : VOk V
theorem of_rng50 {s : TH} {T T' : Nat} {B : Nat → Prop} (hn : ∀ j, j < s.h.size → T ≤ s.g j → s.g j < T + 50 → ¬ B j) (h1 : T ≤ T') (h2 : T' + 10 ≤ T + 50) : ∀ j, j < s.h.size → T' ≤ s.g j → s.g j < T' + 10 → ¬ B j := fun j hj h3 h4 => hn j hj (by omega) (by omega)
theorem of_t50 {s : TH} {T τ : Nat} {B : Nat → Prop} (hn : ∀ j, j < s.h.size → T ≤ s.g j → s.g j < T + 50 → ¬ B j) (h1 : T ≤ τ) (h2 : τ < T + 50) : ∀ j, j < s.h.size → s.g j = τ → ¬ B j := fun j hj e => hn j hj (by omega) (by omega)
theorem rngn50 {s : TH} {T : Nat} {L : List Nat} (h : ∀ τ ∈ L, τ < T ∨ T + 50 ≤ τ) : ∀ j, j < s.h.size → T ≤ s.g j → s.g j < T + 50 → ¬ s.g j ∈ L := fun j _ h1 h2 h3 => by have := h _ h3; omega
theorem VolP.mv {s s' : TH} {v d U : Nat} {V : VolM} {lk : Int} {c p rw : Nat} {rk : Option Nat} {mw mk : List (Int × Value)} {B : Nat → Prop} (h : VolP s v d U V lk c p rw rk mw mk) (k : Chg B s s') (hn : ∀ j, j < s.h.size → U ≤ s.g j → s.g j < U + 50 → ¬ B j) : VolP s' v d U V lk c p rw rk mw mk :=
  ⟨h.blk.mv k (of_t50 hn (by omega) (by omega) v h.blk.lt h.blk.tag), h.wm.mv k (of_t50 hn (by omega) (by omega) rw h.wm.lt h.wm.tag), h.wv.mv k (of_t50 hn (by omega) (by omega)), h.kn, h.om.mv k (of_t50 hn (by omega) (by omega)), h.kv.mv k (of_t50 hn (by omega) (by omega)),
    h.dk.mv k (of_rng50 hn (by omega) (by omega)), h.ca.mv k (of_rng50 hn (by omega) (by omega)), h.ps.mv k (of_rng50 hn (by omega) (by omega))⟩
theorem VolL.mv {s s' : TH} {v d U : Nat} {V : VolM} {lk : Int} {B : Nat → Prop} (h : VolL s v d U V lk) (k : Chg B s s') (hn : ∀ j, j < s.h.size → U ≤ s.g j → s.g j < U + 50 → ¬ B j) : VolL s' v d U V lk := by
  obtain ⟨⟨c, p, rw, rk, mw, mk, hp⟩, ok⟩ := h
  exact ⟨⟨c, p, rw, rk, mw, mk, hp.mv k hn⟩, ok⟩
theorem rowLen {V : VolM} (ok : VOk V) {b : Int} {l : List UInt8} (h : V.D.blocks[b.toNat]? = some l) : l.length = 128 := ok.len l (List.mem_of_getElem? h)
def VolM.blk (V : VolM) (b : Int) : List UInt8 := V.D.blocks.getD b.toNat []
theorem blk_get {V : VolM} {b : Int} (h : V.D.has b) : V.D.blocks[b.toNat]? = some (V.blk b) := by
  unfold DiskM.has at h
  unfold VolM.blk
  rw [List.getD_eq_getElem?_getD, List.getElem?_eq_getElem (by omega)]; rfl
theorem blk_len {V : VolM} (ok : VOk V) {b : Int} (h : V.D.has b) : (V.blk b).length = 128 := rowLen ok (blk_get h)
/-- a block's bytes now -/
def VolM.now (V : VolM) (b : Int) : List UInt8 := V.P.over (V.blk b) (V.P.of b)
def VolM.tick (V : VolM) : VolM := { V with n := V.n + 1 }
theorem VOk.tick {V : VolM} (ok : VOk V) (h : V.n < 1000000000000000000) : VOk V.tick := ⟨ok.que, ok.wid, ok.wsr, by have := ok.lst; exact ⟨this.1, by show V.D.last ≤ V.n + 1; omega⟩, by have := ok.n0; exact ⟨by show 0 ≤ V.n + 1; omega, by show V.n + 1 ≤ _; omega⟩, ok.nof, ok.len, ok.wlen, ok.wids⟩
theorem um53 : Tryz.prog.underlying 53 = some (.map 3 38) := by kernel_rfl
/-- (*bollard/volume.Volume).has -/
theorem c_vhas (vp d U : Nat) (V : VolM) (lk : Int) (b : Int) (s : TH) (hU : 10 ≤ U) (hv : VolL s vp d U V lk) : TRet Tryz.prog 71 #[.pointer (some ⟨vp, 0, none⟩), .int .i64 b] s fun v s' => v = .bool (decide (V.D.has b)) ∧ Ch [] s s' := by
  obtain ⟨⟨c, p, rw_, rk, mw, mk, hV⟩, ok⟩ := id hv
  have hvb := hV.blk
  have hvw := hV.wm
  have hvv := hV.wv
  have hvo := hV.om
  have hvk := hV.kv
  have hvD := hV.dk
  have hvC := hV.ca
  have hvP := hV.ps
  have hn0 := ok.n0
  have hpok := hV.ps.ok
  have hplst := hV.ps.ok.lst
  have hnb := hV.dk.nb
  refine F71_calls _ _  ?_
  unfold F71
  refine sB_d (fun hsB1 => ?_) (fun hsB1 => ?_)
  ·
    refine nz_i ?_
    refine ld_t hvb rfl ?_
    refine dPtr_i ?_
    refine tcall (c_blocks _ _ _ _ (by omega) hvD) ?_
    rintro v_2 s_1 ⟨rfl, c_4⟩
    have z_5 := c_4.size
    refine dInt_i ?_
    refine ret_t ?_
    exact ⟨ret_b (by unfold DiskM.has; first | exact (decide_eq_false (by omega)).symm | exact (decide_eq_true (by omega)).symm | exact decide_eq_decide.2 (by omega)), ((Ch.refl [] s).ch c_4 (by simp))⟩
  ·
    refine ret_t ?_
    exact ⟨ret_b (by unfold DiskM.has; first | exact (decide_eq_false (by omega)).symm | exact (decide_eq_true (by omega)).symm | exact decide_eq_decide.2 (by omega)), (Ch.refl [] s)⟩
/-- (*bollard/volume.Volume).read -/
theorem c_vread (vp d U : Nat) (V : VolM) (lk : Int) (τ : Nat) (b : Int) (s : TH) (hU : 10 ≤ U) (hv : VolL s vp d U V lk) (hn : V.n < 1000000000000000000) : TRet Tryz.prog 72 #[.pointer (some ⟨vp, 0, none⟩), .int .i64 b] s fun v s' => Ch [U + 20, U + 21, U + 22, U + 23] s s' ∧ ((v = .tuple #[.slice none 0 0, .int .i64 90] ∧ ¬ V.D.has b ∧ VolL s' vp d U V lk) ∨ (∃ a c, v = .tuple #[.slice a 128 c, .int .i64 0] ∧ V.D.has b ∧ VolL s' vp d U V.tick lk ∧ Own s' a 128 c 5 1 (bvs (V.now b)) τ)) := by
  obtain ⟨⟨c, p, rw_, rk, mw, mk, hV⟩, ok⟩ := id hv
  have hvb := hV.blk
  have hvw := hV.wm
  have hvv := hV.wv
  have hvo := hV.om
  have hvk := hV.kv
  have hvD := hV.dk
  have hvC := hV.ca
  have hvP := hV.ps
  have hn0 := ok.n0
  have hpok := hV.ps.ok
  have hplst := hV.ps.ok.lst
  have hnb := hV.dk.nb
  obtain ⟨M, hM, hM0, hMa, hMb, hMc, hMd, hMe, hMf⟩ := fresh6 s (U + 50) τ 0 0 0 0
  refine F72_calls _ _  ?_
  unfold F72
  refine tcall (c_vhas _ _ _ _ _ _ _ (by omega) hv) ?_
  rintro v_2 s_1 ⟨rfl, c_4⟩
  have z_5 := c_4.size
  refine dBl_i ?_
  refine sB_nd (fun hsB1 => ?_) (fun hsB1 => ?_)
  ·
    refine ret_t ?_
    have h_6 := hv.mv c_4 (rngn50 (by simp))
    exact ⟨((Ch.refl [U + 20, U + 21, U + 22, U + 23] s).ch c_4 (by simp)), .inl ⟨rfl, by simpa using hsB1, h_6⟩⟩
  ·
    refine nz_i ?_
    have h_7 := hvb.ch c_4 (by simp)
    refine ld_t h_7 rfl ?_
    refine dPtr_i ?_
    have hh : V.D.has b := by simpa using hsB1
    have h_8 := hvC.mv c_4 (rngn (by simp))
    have h_9 := hvD.mv c_4 (rngn (by simp))
    refine tcall (c_vcGet (M + 5) (by omega) (by omega) (by omega) h_8 h_9 hh (blk_get hh) (ok.nof b) (by omega)) ?_
    rintro v_11 s_10 ⟨acall2, cccall2, rfl, c_13, call2a, call2b⟩
    have z_14 := c_13.size
    refine dT2 ?_
    refine dSl_i ?_
    refine dInt_i ?_
    refine sB_f (by rfl) ?_
    refine nz_i ?_
    have h_15 := h_7.ch c_13 (by simp <;> omega)
    refine ld_t h_15 rfl ?_
    refine dPtr_i ?_
    have h_16 := hvP.mv (c_4.app c_13) (rngn (by simp))
    refine tcall (c_pnow p (U + 30) V.P (τ := τ) (b := b) _ _ (by omega) h_16 call2b.sl (blk_len ok hh)) ?_
    rintro v_18 s_17 ⟨acall3, ccall3, rfl, c_20, call3a⟩
    have z_21 := c_20.size
    refine dT2 ?_
    refine dSl_i ?_
    refine dInt_i ?_
    refine ret_t ?_
    have h_22 := h_15.ch c_20 (by simp)
    have h_23 := hvw.ch ((c_4.app c_13).app c_20) (by simp)
    have h_24 := hvv.mv ((c_4.app c_13).app c_20) (tagn (by simp))
    have h_25 := hvo.mv ((c_4.app c_13).app c_20) (tagn (by simp))
    have h_26 := hvk.mv ((c_4.app c_13).app c_20) (tagn (by simp))
    have h_27 := h_9.mv (c_13.app c_20) (rngn (by simp))
    have h_28 := call2a.mv c_20 (rngn (by simp))
    have h_29 := h_16.mv c_20 (rngn (by simp))
    exact ⟨((((Ch.refl [U + 20, U + 21, U + 22, U + 23] s).ch c_4 (by simp)).fr c_13 hM (by simp <;> omega)).ch c_20 (by simp)), .inr ⟨_, _, rfl, hh, ⟨⟨_, _, _, _, _, _, h_22, h_23, h_24, hV.kn, h_25, h_26, h_27, h_28, h_29⟩, ok.tick hn⟩, call3a⟩⟩
theorem dA3 {a b c : Value} {k : VF 3} (h : (k : Value → Value → Value → Prop) a b c) : dA 3 (.agg #[a, b, c]) k := h
def VolM.going (V : VolM) (b : Int) : Bool := V.way.any fun p => p.2.blk == b
def VolM.ready (V : VolM) : List Int := V.P.blocks.filter fun b => !((V.P.free b).isEmpty || V.going b)
def VolM.plan (V : VolM) (b : Int) : List UInt8 := V.P.over (V.blk b) (V.P.free b)
def VolM.sent (V : VolM) (b : Int) : VolM := { V with n := V.n + 1, D := { V.D with queue := V.D.queue ++ [⟨V.D.last + 1, b, V.plan b⟩], last := V.D.last + 1 }, way := V.way ++ [(V.D.last + 1, ⟨b, V.plan b, V.P.free b⟩)] }
def VolM.write (V : VolM) (b : Int) : VolM × Int :=
  if ¬ V.D.has b then (V, 90)
  else if V.going b = true then (V, 3)
  else if V.P.free b = [] then (V, 71)
  else if 64 ≤ V.way.length then (V.tick, 3)
  else (V.sent b, 0)
theorem VOk.sent {V : VolM} (ok : VOk V) (pok : POk V.P) {b : Int} (h : V.D.has b) (hw : ¬ 64 ≤ V.way.length) (hn : V.n < 1000000000000000000) : VOk (V.sent b) where
  que := by
    show V.D.queue ++ [_] = (V.way ++ [_]).map sentOf
    rw [List.map_append, ok.que]; rfl
  wid p hp := by
    have hl := ok.lst
    rcases List.mem_append.1 (show p ∈ V.way ++ [_] from hp) with h | h
    · have := ok.wid p h; exact ⟨this.1, by show p.1 ≤ V.D.last + 1; omega⟩
    · rw [List.mem_singleton] at h; subst h; exact ⟨by show 1 ≤ V.D.last + 1; omega, Int.le_refl _⟩
  wsr := List.pairwise_append.2 ⟨ok.wsr, by simp, fun a ha c hc => by
    rw [List.mem_singleton] at hc; subst hc
    have := ok.wid a ha
    show a.1 < V.D.last + 1
    omega⟩
  lst := by have := ok.lst; exact ⟨by show 0 ≤ V.D.last + 1; omega, by show V.D.last + 1 ≤ V.n + 1; omega⟩
  n0 := by have := ok.n0; exact ⟨by show 0 ≤ V.n + 1; omega, by show V.n + 1 ≤ _; omega⟩
  nof := ok.nof
  len := ok.len
  wlen := by show (V.way ++ [_]).length ≤ 64; rw [List.length_append, List.length_singleton]; omega
  wids p hp := by
    rcases List.mem_append.1 (show p ∈ V.way ++ [_] from hp) with h | h
    · exact ok.wids p h
    · rw [List.mem_singleton] at h; subst h
      have h1 := free_len pok b
      have h2 := pok.lst
      show ((V.P.free b).length : Int) ≤ 1000000
      omega
theorem QRel.keep {s : TH} {σ μ τ : Nat} {hs : List (Int × Int × Hd)} {q : List SentM} (h : QRel s σ hs q) (hn : σ ≠ μ) : QRel (remark s μ τ) σ hs q := ⟨h.len, fun i p b h1 h2 => ⟨(h.at_ i p b h1 h2).1, (h.at_ i p b h1 h2).2.1, ⟨(h.at_ i p b h1 h2).2.2.sl.keep hn, (h.at_ i p b h1 h2).2.2.len⟩⟩⟩
theorem BRel.keep {s : TH} {σ μ τ : Nat} {hs : List Hd} {q : List (List UInt8)} (h : BRel s σ hs q) (hn : σ ≠ μ) : BRel (remark s μ τ) σ hs q := ⟨h.len, fun i p b h1 h2 => ⟨(h.at_ i p b h1 h2).sl.keep hn, (h.at_ i p b h1 h2).len⟩⟩
theorem ByAt.nn {s : TH} {τ : Nat} {p : Hd} {b : List UInt8} (h : ByAt s τ p b) : p.1 = none → 128 = 0 := fun e => by obtain ⟨a, ha⟩ := h.ne; rw [e] at ha; cases ha
theorem VolP.relock {s s' : TH} {v d U : Nat} {V : VolM} {lk lk' : Int} {c p rw : Nat} {rk : Option Nat} {mw mk : List (Int × Value)} (h : VolP s v d U V lk c p rw rk mw mk) (k : Ch [U] s s')
    (hb : Blk s' v [.int .i32 lk', .int .u32 0, .pointer (some ⟨d, 0, none⟩), .pointer (some ⟨c, 0, none⟩), .pointer (some ⟨p, 0, none⟩), .map (some rw), .bool V.old.on, .bool V.old.broken, .int .i64 V.old.room, .map rk] 57 U) : VolP s' v d U V lk' c p rw rk mw mk :=
  ⟨hb, h.wm.ch k (by simp), h.wv.mv k (tagn (by simp)), h.kn, h.om.mv k (tagn (by simp)), h.kv.mv k (tagn (by simp)), h.dk.mv k (rngn (by simp <;> omega)), h.ca.mv k (rngn (by simp <;> omega)), h.ps.mv k (rngn (by simp <;> omega))⟩
/-- (*bollard/volume.Volume).Last -/
theorem c_VLast (vp d U : Nat) (V : VolM)  (s : TH) (hU : 10 ≤ U) (hv : VolL s vp d U V 0) : TRet Tryz.prog 52 #[.pointer (some ⟨vp, 0, none⟩)] s fun v s' => v = .int .i64 V.P.last ∧ Ch [U] s s' ∧ VolL s' vp d U V 0 := by
  obtain ⟨⟨c, p, rw_, rk, mw, mk, hV⟩, ok⟩ := id hv
  have hvb := hV.blk
  have hvw := hV.wm
  have hvv := hV.wv
  have hvo := hV.om
  have hvk := hV.kv
  have hvD := hV.dk
  have hvC := hV.ca
  have hvP := hV.ps
  have hn0 := ok.n0
  have hpok := hV.ps.ok
  have hplst := hV.ps.ok.lst
  have hnb := hV.dk.nb
  refine F52_calls _  ?_
  unfold F52
  refine tcall (c_vheld _ _ hvb) ?_
  rintro v_2 s_1 ⟨rfl, c_4, call1a⟩
  have z_5 := c_4.size
  have hV1 := hV.relock c_4 call1a
  have hv1 : VolL s_1 vp d U V 1 := ⟨⟨_, _, _, _, _, _, hV1⟩, ok⟩
  refine dBl_i ?_
  refine sB_f (by rfl) ?_
  refine nz_i ?_
  refine nz_i ?_
  refine ld_t call1a rfl ?_
  refine dPtr_i ?_
  have h_6 := hvP.mv c_4 (rngn (by simp))
  refine tcall (c_plast _ _ _ _ (by omega) h_6) ?_
  rintro v_8 s_7 ⟨rfl, c_10⟩
  have z_11 := c_10.size
  refine dInt_i ?_
  have h_12 := call1a.ch c_10 (by simp)
  refine c_door Tryz.muLib h_12 (by rfl) (fun _ => by rfl) fun s_13 b_14 c_15 z_16 => ?_
  have c_15t := on_ch h_12 c_15
  refine ret_t ?_
  have h_17 := hvw.ch ((c_4.app c_10).app c_15t) (by simp)
  have h_18 := hvv.mv ((c_4.app c_10).app c_15t) (tagn (by simp))
  have h_19 := hvo.mv ((c_4.app c_10).app c_15t) (tagn (by simp))
  have h_20 := hvk.mv ((c_4.app c_10).app c_15t) (tagn (by simp))
  have h_21 := hvD.mv ((c_4.app c_10).app c_15t) (rngn (by simp))
  have h_22 := hvC.mv ((c_4.app c_10).app c_15t) (rngn (by simp))
  have h_23 := h_6.mv (c_10.app c_15t) (rngn (by simp))
  exact ⟨rfl, ((((Ch.refl [U] s).ch c_4 (by simp)).ch c_10 (by simp)).ch c_15t (by simp)), ⟨⟨_, _, _, _, _, _, b_14, h_17, h_18, hV.kn, h_19, h_20, h_21, h_22, h_23⟩, ok⟩⟩
/-- (*bollard/volume.Volume).Blocks -/
theorem c_VBlocks2 (vp d U : Nat) (V : VolM)  (s : TH) (hU : 10 ≤ U) (hv : VolL s vp d U V 0) : TRet Tryz.prog 24 #[.pointer (some ⟨vp, 0, none⟩)] s fun v s' => v = .int .i64 V.D.blocks.length ∧ Ch [U] s s' ∧ VolL s' vp d U V 0 := by
  obtain ⟨⟨c, p, rw_, rk, mw, mk, hV⟩, ok⟩ := id hv
  have hvb := hV.blk
  have hvw := hV.wm
  have hvv := hV.wv
  have hvo := hV.om
  have hvk := hV.kv
  have hvD := hV.dk
  have hvC := hV.ca
  have hvP := hV.ps
  have hn0 := ok.n0
  have hpok := hV.ps.ok
  have hplst := hV.ps.ok.lst
  have hnb := hV.dk.nb
  refine F24_calls _  ?_
  unfold F24
  refine tcall (c_vheld _ _ hvb) ?_
  rintro v_2 s_1 ⟨rfl, c_4, call1a⟩
  have z_5 := c_4.size
  have hV1 := hV.relock c_4 call1a
  have hv1 : VolL s_1 vp d U V 1 := ⟨⟨_, _, _, _, _, _, hV1⟩, ok⟩
  refine dBl_i ?_
  refine sB_f (by rfl) ?_
  refine nz_i ?_
  refine nz_i ?_
  refine ld_t call1a rfl ?_
  refine dPtr_i ?_
  have h_6 := hvD.mv c_4 (rngn (by simp))
  refine tcall (c_blocks _ _ _ _ (by omega) h_6) ?_
  rintro v_8 s_7 ⟨rfl, c_10⟩
  have z_11 := c_10.size
  refine dInt_i ?_
  have h_12 := call1a.ch c_10 (by simp)
  refine c_door Tryz.muLib h_12 (by rfl) (fun _ => by rfl) fun s_13 b_14 c_15 z_16 => ?_
  have c_15t := on_ch h_12 c_15
  refine ret_t ?_
  have h_17 := hvw.ch ((c_4.app c_10).app c_15t) (by simp)
  have h_18 := hvv.mv ((c_4.app c_10).app c_15t) (tagn (by simp))
  have h_19 := hvo.mv ((c_4.app c_10).app c_15t) (tagn (by simp))
  have h_20 := hvk.mv ((c_4.app c_10).app c_15t) (tagn (by simp))
  have h_21 := h_6.mv (c_10.app c_15t) (rngn (by simp))
  have h_22 := hvC.mv ((c_4.app c_10).app c_15t) (rngn (by simp))
  have h_23 := hvP.mv ((c_4.app c_10).app c_15t) (rngn (by simp))
  exact ⟨rfl, ((((Ch.refl [U] s).ch c_4 (by simp)).ch c_10 (by simp)).ch c_15t (by simp)), ⟨⟨_, _, _, _, _, _, b_14, h_17, h_18, hV.kn, h_19, h_20, h_21, h_22, h_23⟩, ok⟩⟩
/-- (*bollard/volume.Volume).Undo -/
theorem c_VUndo (vp d U : Nat) (V : VolM) (i : Int) (s : TH) (hU : 10 ≤ U) (hv : VolL s vp d U V 0) : TRet Tryz.prog 54 #[.pointer (some ⟨vp, 0, none⟩), .int .i64 i] s fun v s' => v = .int .i64 (V.P.undo i).2 ∧ Ch [U, U + 30, U + 32] s s' ∧ VolL s' vp d U { V with P := (V.P.undo i).1 } 0 := by
  obtain ⟨⟨c, p, rw_, rk, mw, mk, hV⟩, ok⟩ := id hv
  have hvb := hV.blk
  have hvw := hV.wm
  have hvv := hV.wv
  have hvo := hV.om
  have hvk := hV.kv
  have hvD := hV.dk
  have hvC := hV.ca
  have hvP := hV.ps
  have hn0 := ok.n0
  have hpok := hV.ps.ok
  have hplst := hV.ps.ok.lst
  have hnb := hV.dk.nb
  obtain ⟨M, hM, hM0, hMa, hMb, hMc, hMd, hMe, hMf⟩ := fresh6 s (U + 50) 0 0 0 0 0
  refine F54_calls _ _  ?_
  unfold F54
  refine tcall (c_vheld _ _ hvb) ?_
  rintro v_2 s_1 ⟨rfl, c_4, call1a⟩
  have z_5 := c_4.size
  have hV1 := hV.relock c_4 call1a
  have hv1 : VolL s_1 vp d U V 1 := ⟨⟨_, _, _, _, _, _, hV1⟩, ok⟩
  refine dBl_i ?_
  refine sB_f (by rfl) ?_
  refine nz_i ?_
  refine nz_i ?_
  refine ld_t call1a rfl ?_
  refine dPtr_i ?_
  have h_6 := hvP.mv c_4 (rngn (by simp))
  refine tcall (c_undo _ _ _ _ _ (by omega) h_6) ?_
  rintro v_8 s_7 ⟨rfl, c_10, call2a⟩
  have z_11 := c_10.size
  refine dInt_i ?_
  have h_12 := call1a.ch c_10 (by simp <;> omega)
  refine c_door Tryz.muLib h_12 (by rfl) (fun _ => by rfl) fun s_13 b_14 c_15 z_16 => ?_
  have c_15t := on_ch h_12 c_15
  refine ret_t ?_
  have h_17 := hvw.ch ((c_4.app c_10).app c_15t) (by simp)
  have h_18 := hvv.mv ((c_4.app c_10).app c_15t) (tagn (by simp))
  have h_19 := hvo.mv ((c_4.app c_10).app c_15t) (tagn (by simp))
  have h_20 := hvk.mv ((c_4.app c_10).app c_15t) (tagn (by simp))
  have h_21 := hvD.mv ((c_4.app c_10).app c_15t) (rngn (by simp))
  have h_22 := hvC.mv ((c_4.app c_10).app c_15t) (rngn (by simp))
  have h_23 := call2a.mv c_15t (rngn (by simp))
  exact ⟨rfl, ((((Ch.refl [U, U + 30, U + 32] s).ch c_4 (by simp)).fr c_10 hM (by simp <;> omega)).ch c_15t (by simp)), ⟨⟨_, _, _, _, _, _, b_14, h_17, h_18, hV.kn, h_19, h_20, h_21, h_22, h_23⟩, ⟨ok.que, ok.wid, ok.wsr, ok.lst, ok.n0, ok.nof, ok.len, ok.wlen, ok.wids⟩⟩⟩
/-- (*bollard/volume.Volume).Read -/
theorem c_VRead (vp d U : Nat) (V : VolM) (τ : Nat) (b : Int) (s : TH) (hU : 10 ≤ U) (hv : VolL s vp d U V 0) (hn : V.n < 1000000000000000000) (hb : V.D.has b) (hτ : τ < U ∨ U + 50 ≤ τ) : TRet Tryz.prog 26 #[.pointer (some ⟨vp, 0, none⟩), .int .i64 b] s fun v s' => ∃ a c, v = .tuple #[.slice a 128 c, .int .i64 0] ∧ Ch [U, U + 20, U + 21, U + 22, U + 23] s s' ∧ Own s' a 128 c 5 1 (bvs (V.now b)) τ ∧ VolL s' vp d U V.tick 0 := by
  obtain ⟨⟨c, p, rw_, rk, mw, mk, hV⟩, ok⟩ := id hv
  have hvb := hV.blk
  have hvw := hV.wm
  have hvv := hV.wv
  have hvo := hV.om
  have hvk := hV.kv
  have hvD := hV.dk
  have hvC := hV.ca
  have hvP := hV.ps
  have hn0 := ok.n0
  have hpok := hV.ps.ok
  have hplst := hV.ps.ok.lst
  have hnb := hV.dk.nb
  refine F26_calls _ _  ?_
  unfold F26
  refine tcall (c_vheld _ _ hvb) ?_
  rintro v_2 s_1 ⟨rfl, c_4, call1a⟩
  have z_5 := c_4.size
  have hV1 := hV.relock c_4 call1a
  have hv1 : VolL s_1 vp d U V 1 := ⟨⟨_, _, _, _, _, _, hV1⟩, ok⟩
  refine dBl_i ?_
  refine sB_f (by rfl) ?_
  refine nz_i ?_
  refine tcall (c_vread _ _ _ _ _ τ _ _ (by omega) hv1 (by omega)) ?_
  rintro v_7 s_6 ⟨c_9, call2a⟩
  have z_10 := c_9.size
  rcases call2a with ⟨rfl, hnb2, hv2⟩ | ⟨a2, c2_, rfl, hh, hv2, ho2⟩
  ·
    exact absurd hb hnb2
  ·
    have hvx := hv2
    obtain ⟨⟨c2, p2, rw2, rk2, mw2, mk2, hV2⟩, ok2⟩ := id hvx
    have hvb2 := hV2.blk
    refine dT2 ?_
    refine dSl_i ?_
    refine dInt_i ?_
    refine c_door Tryz.muLib hvb2 (by rfl) (fun _ => by rfl) fun s_11 b_12 c_13 z_14 => ?_
    have c_13t := on_ch hvb2 c_13
    refine ret_t ?_
    have h_15 := ho2.mv c_13t (tagn (by simp <;> omega))
    exact ⟨_, _, rfl, ((((Ch.refl [U, U + 20, U + 21, U + 22, U + 23] s).ch c_4 (by simp)).ch c_9 (by simp)).ch c_13t (by simp)), h_15, ⟨⟨_, _, _, _, _, _, hV2.relock c_13t b_12⟩, ok2⟩⟩
def VolM.first (V : VolM) (b : Int) : Bool := V.old.on && !V.old.broken && (kfind V.old.kept b).isNone
def VolM.keep (V : VolM) (b : Int) : OldM := if V.first b = true then (if (V.old.kept.length : Int) < V.old.room then { V.old with kept := V.old.kept ++ [(b, V.now b)] } else { V.old with broken := true }) else V.old
def VolM.ticks (V : VolM) (b : Int) : Int := if V.first b = true then V.n + 1 else V.n
def VolM.change (V : VolM) (b o : Int) (y : List UInt8) (needs : List Int) : VolM × Int × Int :=
  if ¬ V.D.has b then (V, 0, 90)
  else if (V.P.add b o y needs).2.2 ≠ 0 then ({ V with n := V.ticks b }, 0, (V.P.add b o y needs).2.2)
  else ({ V with n := V.ticks b, P := (V.P.add b o y needs).1, old := V.keep b }, (V.P.add b o y needs).2.1, 0)
theorem olook_k {P : Program} {E : List PanicEntry → Heap → Prop} {T Kt Et : TypeId} {s : TH} {rk : Option Nat} {mk : List (Int × Value)} {l : List (Int × List UInt8)} {τ τ' : Nat} {b : Int} {K : Value → Heap → Prop} (ko : KeyOk P Kt (Value.int .i64)) (hT : P.underlying T = some (.map Kt Et)) (hz : ∀ w, (zeroValue Et).run P w = .ok (.slice none 0 0) w) (h : OMap s rk mk τ) (hv : KMap s τ' mk l)
    (hk : ∀ a n c, K (.tuple #[.slice a n c, .bool (kfind l b).isSome]) s.h) : semW P (Instr.lookup T (.map rk) (.int .i64 b) true) E s.h K := by
  have hg := KMap.get (b := b) hv
  cases hf : kfind l b with
  | none => rw [hf] at hg hk; exact olook_n ko hT hz h hg (hk _ _ _)
  | some y => rw [hf] at hg hk; obtain ⟨a, c, h1, _⟩ := hg; exact olook_s ko hT hz h h1 (hk _ _ _)
theorem add_err {P : PatchM} {b o : Int} {y : List UInt8} {needs : List Int} (h : (P.add b o y needs).2.2 ≠ 0) : (P.add b o y needs).1 = P := by
  unfold PatchM.add at h ⊢
  split
  · rfl
  · split
    · rfl
    · rename_i h1 h2
      rw [if_neg h1, if_neg h2] at h; exact absurd rfl h
theorem VOk.with {V : VolM} (ok : VOk V) {n : Int} (P : PatchM) (o : OldM) (hn : V.n ≤ n ∧ n ≤ 1000000000000000000) : VOk { V with n := n, P := P, old := o } :=
  ⟨ok.que, ok.wid, ok.wsr, by have := ok.lst; exact ⟨this.1, by show V.D.last ≤ n; omega⟩, by have := ok.n0; exact ⟨by show 0 ≤ n; omega, hn.2⟩, ok.nof, ok.len, ok.wlen, ok.wids⟩
/-- (*bollard/volume.Volume).Change -/
theorem c_VChange (vp d U : Nat) (V : VolM) (b o : Int) {xa : Option Addr} {xn : Nat} (xc : Nat) {y : List UInt8} {τx : Nat} {na : Option Addr} {nn : Nat} (nc : Nat) {needs : List Int} {τn : Nat} (s : TH) (hU : 10 ≤ U) (hv : VolL s vp d U V 0) (hx : Sl s xa (bvs y) τx) (hxn : y.length = xn) (hn : Sl s na (ivs needs) τn) (hnn : needs.length = nn) (hb : (nn : Int) + V.P.last ≤ 17592186044000) (hl : V.P.last < 1000000) (hk : V.n < 1000000000000000000) (hτ : (τx < U ∨ U + 50 ≤ τx) ∧ (τn < U ∨ U + 50 ≤ τn)) : TRet Tryz.prog 25 #[.pointer (some ⟨vp, 0, none⟩), .int .i64 b, .int .i64 o, .slice xa xn xc, .slice na nn nc] s fun v s' => v = .tuple #[.int .i64 (V.change b o y needs).2.1, .int .i64 (V.change b o y needs).2.2] ∧ Ch [U, U + 3, U + 20, U + 21, U + 22, U + 23, U + 30, U + 32] s s' ∧ VolL s' vp d U (V.change b o y needs).1 0 := by
  obtain ⟨⟨c, p, rw_, rk, mw, mk, hV⟩, ok⟩ := id hv
  have hvb := hV.blk
  have hvw := hV.wm
  have hvv := hV.wv
  have hvo := hV.om
  have hvk := hV.kv
  have hvD := hV.dk
  have hvC := hV.ca
  have hvP := hV.ps
  have hn0 := ok.n0
  have hpok := hV.ps.ok
  have hplst := hV.ps.ok.lst
  have hnb := hV.dk.nb
  obtain ⟨M, hM, hM0, hMa, hMb, hMc, hMd, hMe, hMf⟩ := fresh6 s (U + 50) τx τn 0 0 0
  refine F25_calls _ _ _ _ _ _ _ _ _  ?_
  unfold F25
  refine tcall (c_vheld _ _ hvb) ?_
  rintro v_2 s_1 ⟨rfl, c_4, call1a⟩
  have z_5 := c_4.size
  have hV1 := hV.relock c_4 call1a
  have hv1 : VolL s_1 vp d U V 1 := ⟨⟨_, _, _, _, _, _, hV1⟩, ok⟩
  refine dBl_i ?_
  refine sB_f (by rfl) ?_
  refine nz_i ?_
  refine tcall (c_vhas _ _ _ _ _ _ _ (by omega) hv1) ?_
  rintro v_7 s_6 ⟨rfl, c_9⟩
  have z_10 := c_9.size
  refine dBl_i ?_
  refine sB_nd (fun hsB2 => ?_) (fun hsB2 => ?_)
  ·
    have h_11 := call1a.ch c_9 (by simp)
    refine c_door Tryz.muLib h_11 (by rfl) (fun _ => by rfl) fun s_12 b_13 c_14 z_15 => ?_
    have c_14t := on_ch h_11 c_14
    refine ret_t ?_
    have h_16 := hvw.ch ((c_4.app c_9).app c_14t) (by simp)
    have h_17 := hvv.mv ((c_4.app c_9).app c_14t) (tagn (by simp))
    have h_18 := hvo.mv ((c_4.app c_9).app c_14t) (tagn (by simp))
    have h_19 := hvk.mv ((c_4.app c_9).app c_14t) (tagn (by simp))
    have h_20 := hvD.mv ((c_4.app c_9).app c_14t) (rngn (by simp))
    have h_21 := hvC.mv ((c_4.app c_9).app c_14t) (rngn (by simp))
    have h_22 := hvP.mv ((c_4.app c_9).app c_14t) (rngn (by simp))
    rw [show V.change b o y needs = (V, 0, 90) from by unfold VolM.change; rw [if_pos (by simpa using hsB2)]]
    exact ⟨rfl, ((((Ch.refl [U, U + 3, U + 20, U + 21, U + 22, U + 23, U + 30, U + 32] s).ch c_4 (by simp)).ch c_9 (by simp)).ch c_14t (by simp)), ⟨⟨_, _, _, _, _, _, b_13, h_16, h_17, hV.kn, h_18, h_19, h_20, h_21, h_22⟩, ok⟩⟩
  ·
    refine nz_i ?_
    have h_23 := call1a.ch c_9 (by simp)
    refine ld_t h_23 rfl ?_
    refine dMap_i ?_
    have h_24 := hvo.mv (c_4.app c_9) (tagn (by simp))
    have h_25 := hvk.mv (c_4.app c_9) (tagn (by simp))
    refine olook_k keyI um53 z38 h_24 h_25 fun ka kn kc => ?_
    refine dT2 ?_
    refine dSl_i ?_
    refine dBl_i ?_
    refine jn1 (fun fv s' => Ch [] s_6 s' ∧ (fv = .bool (V.first b))) ?_ ?_
    ·
      rintro fv s_26 ⟨c_27, rfl⟩
      have z_28 := c_27.size
      intro _
      intros
      refine dBl_i ?_
      refine jn_u ?_
      refine sB_i (fun hsB3 => ?_) (fun hsB3 => ?_)
      ·
        have hfirst : V.first b = true := by assumption
        have hhas : V.D.has b := by simpa using hsB2
        have hf2 := hfirst
        unfold VolM.first at hf2
        simp only [Bool.and_eq_true, Bool.not_eq_true', Option.isNone_iff_eq_none] at hf2
        have h_29 := hv1.mv (c_9.app c_27) (rngn50 (by simp))
        refine tcall (c_vread _ _ _ _ _ (U + 4) _ _ (by omega) h_29 (by omega)) ?_
        rintro v_31 s_30 ⟨c_33, call3a⟩
        have z_34 := c_33.size
        rcases call3a with ⟨rfl, hnb2, hv2⟩ | ⟨a2, c2_, rfl, hh, hv2, ho2⟩
        ·
          exact absurd hhas hnb2
        ·
          obtain ⟨⟨c2, p2, rw2, rk2, mw2, mk2, hV2⟩, ok2⟩ := id hv2
          obtain ⟨kr, hkr⟩ := Option.isSome_iff_exists.1 (hV2.kn hf2.1.1)
          subst hkr
          have hvb2 : Blk s_30 vp [.int .i32 1, .int .u32 0, .pointer (some ⟨d, 0, none⟩), .pointer (some ⟨c2, 0, none⟩), .pointer (some ⟨p2, 0, none⟩), .map (some rw2), .bool V.old.on, .bool V.old.broken, .int .i64 V.old.room, .map (some kr)] 57 U := hV2.blk
          have hvw2 := hV2.wm
          have hvv2 : WMap s_30 (U + 2) mw2 V.way := hV2.wv
          have hvo2 : OMap s_30 (some kr) mk2 (U + 3) := hV2.om
          have hvk2 : KMap s_30 (U + 4) mk2 V.old.kept := hV2.kv
          have hvD2 : Disk s_30 d (U + 10) V.D := hV2.dk
          have hvC2 : CacheV s_30 c2 (U + 20) d V.D.blocks (V.n + 1) := hV2.ca
          have hvP2 : PSet s_30 p2 (U + 30) V.P := hV2.ps
          have hkm := hvo2.at_ _ rfl
          have hkl : mk2.length = V.old.kept.length := by have := congrArg List.length hvk2.keys; simpa using this
          refine dT2 ?_
          refine dSl_i ?_
          refine dInt_i ?_
          refine sB_f (by rfl) ?_
          intro _
          intros
          refine dSl_i ?_
          refine nz_i ?_
          refine ld_t hvb2 rfl ?_
          refine dPtr_i ?_
          have h_35 := hx.mv (((c_4.app c_9).app c_27).app c_33) (tagn (by simp <;> omega))
          have h_36 := hn.mv (((c_4.app c_9).app c_27).app c_33) (tagn (by simp <;> omega))
          refine tcall (c_add _ _ _ _ _ _ _ _ (by omega) hvP2 h_35 hxn h_36 hnn hb hl) ?_
          rintro v_38 s_37 ⟨rfl, c_40, call4a⟩
          have z_41 := c_40.size
          refine dT2 ?_
          refine dInt_i ?_
          refine dInt_i ?_
          refine sB_nd (fun hsB5 => ?_) (fun hsB5 => ?_)
          ·
            have h_42 := hvb2.ch c_40 (by simp <;> omega)
            refine c_door Tryz.muLib h_42 (by rfl) (fun _ => by rfl) fun s_43 b_44 c_45 z_46 => ?_
            have c_45t := on_ch h_42 c_45
            refine ret_t ?_
            have h_47 := call4a.mv c_45t (rngn (by simp))
            have h_48 := hvw2.ch (c_40.app c_45t) (by simp)
            have h_49 := hvv2.mv (c_40.app c_45t) (tagn (by simp))
            have h_50 := hvo2.mv (c_40.app c_45t) (tagn (by simp))
            have h_51 := hvk2.mv (c_40.app c_45t) (tagn (by simp))
            have h_52 := hvD2.mv (c_40.app c_45t) (rngn (by simp))
            have h_53 := hvC2.mv (c_40.app c_45t) (rngn (by simp))
            have ht : V.ticks b = V.n + 1 := by unfold VolM.ticks; rw [if_pos hfirst]
            have hc : V.change b o y needs = ({ V with n := V.ticks b }, 0, (V.P.add b o y needs).2.2) := by unfold VolM.change; rw [if_neg (by simpa using hsB2), if_pos hsB5]
            rw [hc]
            have hP := h_47
            rw [add_err hsB5] at hP
            exact ⟨rfl, (((((((Ch.refl [U, U + 3, U + 20, U + 21, U + 22, U + 23, U + 30, U + 32] s).ch c_4 (by simp)).ch c_9 (by simp)).ch c_27 (by simp)).ch c_33 (by simp)).fr c_40 hM (by simp <;> omega)).ch c_45t (by simp)), ⟨⟨_, _, _, _, _, _, b_44, h_48, h_49, hV2.kn, h_50, h_51, h_52, by rw [ht]; exact h_53, hP⟩, ok.with V.P V.old (by rw [ht]; omega)⟩⟩
          ·
            refine jn_u ?_
            refine jn_u ?_
            refine sB_t (by assumption) ?_
            refine nz_i ?_
            have h_54 := hvb2.ch c_40 (by simp <;> omega)
            refine ld_t h_54 rfl ?_
            refine dMap_i ?_
            refine nz_i ?_
            refine ld_t h_54 rfl ?_
            refine dInt_i ?_
            have h_55 := hkm.ch c_40 (by simp)
            refine mlen_t um53 h_55 ?_
            refine dInt_i ?_
            refine ⟨?_, ?_⟩
            ·
              refine ld_t h_54 rfl ?_
              refine dInt_i ?_
              rfl
            ·
              intro _
              intros
              refine dBl_i ?_
              refine sB_d (fun hsB7 => ?_) (fun hsB7 => ?_)
              ·
                refine nz_i ?_
                refine ld_t h_54 rfl ?_
                refine dMap_i ?_
                refine upd_t keyI um53 h_55 b (Value.slice a2 128 c2_) fun s_60 m_61 c_62o z_63 => ?_
                have c_62 : Ch [U + 3] s_37 s_60 := Chg.mono c_62o fun j _ e => by subst e; rw [h_55.tag]; simp
                intro _
                intros
                have h_64 := h_54.ch c_62 (by simp)
                refine c_door Tryz.muLib h_64 (by rfl) (fun _ => by rfl) fun s_65 b_66 c_67 z_68 => ?_
                have c_67t := on_ch h_64 c_67
                refine ret_t ?_
                have h_69 := hvw2.ch ((c_40.app c_62).app c_67t) (by simp)
                have h_70 := hvv2.mv ((c_40.app c_62).app c_67t) (tagn (by simp))
                have h_71 := m_61.ch c_67t (by simp)
                have h_72 := ho2.mv ((c_40.app c_62).app c_67t) (tagn (by simp))
                have h_73 := hvk2.mv ((c_40.app c_62).app c_67t) (tagn (by simp))
                have h_74 := hvD2.mv ((c_40.app c_62).app c_67t) (rngn (by simp))
                have h_75 := hvC2.mv ((c_40.app c_62).app c_67t) (rngn (by simp))
                have h_76 := call4a.mv (c_62.app c_67t) (rngn (by simp))
                have ht : V.ticks b = V.n + 1 := by unfold VolM.ticks; rw [if_pos hfirst]
                have hkp : V.keep b = { V.old with kept := V.old.kept ++ [(b, V.now b)] } := by unfold VolM.keep; rw [if_pos hfirst, if_pos (by omega)]
                have hc : V.change b o y needs = ({ V with n := V.ticks b, P := (V.P.add b o y needs).1, old := V.keep b }, (V.P.add b o y needs).2.1, 0) := by unfold VolM.change; rw [if_neg (by simpa using hsB2), if_neg (by simpa using hsB5)]
                rw [hc]
                rw [hkp]
                exact ⟨rfl, ((((((((Ch.refl [U, U + 3, U + 20, U + 21, U + 22, U + 23, U + 30, U + 32] s).ch c_4 (by simp)).ch c_9 (by simp)).ch c_27 (by simp)).ch c_33 (by simp)).fr c_40 hM (by simp <;> omega)).ch c_62 (by simp)).ch c_67t (by simp)), ⟨⟨_, _, _, _, _, _, b_66, h_69, h_70, fun _ => rfl, OMap.of h_71, KMap.snoc h_72.sl (by have := h_72.1; rw [bvs_len] at this; omega) h_73 hf2.2, h_74, by rw [ht]; exact h_75, h_76⟩, ok.with _ _ (by rw [ht]; omega)⟩⟩
              ·
                refine sB_t (by assumption) ?_
                refine nz_i ?_
                refine st_t (r := vp) (i := 7) h_54 rfl (by simp) fun s142 b_77 c_78o z_79 => ?_
                have c_78 := on_ch h_54 c_78o
                intro _
                intros
                refine c_door Tryz.muLib b_77 (by rfl) (fun _ => by rfl) fun s_80 b_81 c_82 z_83 => ?_
                have c_82t := on_ch b_77 c_82
                refine ret_t ?_
                have h_84 := hvw2.ch ((c_40.app c_78).app c_82t) (by simp)
                have h_85 := hvv2.mv ((c_40.app c_78).app c_82t) (tagn (by simp))
                have h_86 := hvo2.mv ((c_40.app c_78).app c_82t) (tagn (by simp))
                have h_87 := hvk2.mv ((c_40.app c_78).app c_82t) (tagn (by simp))
                have h_88 := hvD2.mv ((c_40.app c_78).app c_82t) (rngn (by simp))
                have h_89 := hvC2.mv ((c_40.app c_78).app c_82t) (rngn (by simp))
                have h_90 := call4a.mv (c_78.app c_82t) (rngn (by simp))
                have ht : V.ticks b = V.n + 1 := by unfold VolM.ticks; rw [if_pos hfirst]
                have hkp : V.keep b = { V.old with broken := true } := by unfold VolM.keep; rw [if_pos hfirst, if_neg (by omega)]
                have hc : V.change b o y needs = ({ V with n := V.ticks b, P := (V.P.add b o y needs).1, old := V.keep b }, (V.P.add b o y needs).2.1, 0) := by unfold VolM.change; rw [if_neg (by simpa using hsB2), if_neg (by simpa using hsB5)]
                rw [hc]
                rw [hkp]
                exact ⟨rfl, ((((((((Ch.refl [U, U + 3, U + 20, U + 21, U + 22, U + 23, U + 30, U + 32] s).ch c_4 (by simp)).ch c_9 (by simp)).ch c_27 (by simp)).ch c_33 (by simp)).fr c_40 hM (by simp <;> omega)).ch c_78 (by simp)).ch c_82t (by simp)), ⟨⟨_, _, _, _, _, _, b_81, h_84, h_85, fun _ => rfl, h_86, h_87, h_88, by rw [ht]; exact h_89, h_90⟩, ok.with _ _ (by rw [ht]; omega)⟩⟩
      ·
        intro _
        intros
        refine dSl_i ?_
        refine nz_i ?_
        have h_91 := h_23.ch c_27 (by simp)
        refine ld_t h_91 rfl ?_
        refine dPtr_i ?_
        have h_92 := hvP.mv ((c_4.app c_9).app c_27) (rngn (by simp))
        have h_93 := hx.mv ((c_4.app c_9).app c_27) (tagn (by simp <;> omega))
        have h_94 := hn.mv ((c_4.app c_9).app c_27) (tagn (by simp <;> omega))
        refine tcall (c_add _ _ _ _ _ _ _ _ (by omega) h_92 h_93 hxn h_94 hnn hb hl) ?_
        rintro v_96 s_95 ⟨rfl, c_98, call5a⟩
        have z_99 := c_98.size
        refine dT2 ?_
        refine dInt_i ?_
        refine dInt_i ?_
        refine sB_nd (fun hsB9 => ?_) (fun hsB9 => ?_)
        ·
          have h_100 := h_91.ch c_98 (by simp <;> omega)
          refine c_door Tryz.muLib h_100 (by rfl) (fun _ => by rfl) fun s_101 b_102 c_103 z_104 => ?_
          have c_103t := on_ch h_100 c_103
          refine ret_t ?_
          have h_105 := call5a.mv c_103t (rngn (by simp))
          have h_106 := hvw.ch ((((c_4.app c_9).app c_27).app c_98).app c_103t) (by simp)
          have h_107 := hvv.mv ((((c_4.app c_9).app c_27).app c_98).app c_103t) (tagn (by simp))
          have h_108 := h_24.mv ((c_27.app c_98).app c_103t) (tagn (by simp))
          have h_109 := h_25.mv ((c_27.app c_98).app c_103t) (tagn (by simp))
          have h_110 := hvD.mv ((((c_4.app c_9).app c_27).app c_98).app c_103t) (rngn (by simp))
          have h_111 := hvC.mv ((((c_4.app c_9).app c_27).app c_98).app c_103t) (rngn (by simp))
          have ht : V.ticks b = V.n := by unfold VolM.ticks; rw [if_neg (by simpa using hsB3)]
          have hc : V.change b o y needs = ({ V with n := V.ticks b }, 0, (V.P.add b o y needs).2.2) := by unfold VolM.change; rw [if_neg (by simpa using hsB2), if_pos hsB9]
          rw [hc]
          have hP := h_105
          rw [add_err hsB9] at hP
          exact ⟨rfl, ((((((Ch.refl [U, U + 3, U + 20, U + 21, U + 22, U + 23, U + 30, U + 32] s).ch c_4 (by simp)).ch c_9 (by simp)).ch c_27 (by simp)).fr c_98 hM (by simp <;> omega)).ch c_103t (by simp)), ⟨⟨_, _, _, _, _, _, b_102, h_106, h_107, hV.kn, h_108, h_109, h_110, by rw [ht]; exact h_111, hP⟩, ok.with V.P V.old (by rw [ht]; omega)⟩⟩
        ·
          refine jn_u ?_
          refine jn_u ?_
          refine sB_f (by assumption) ?_
          intro _
          intros
          refine dBl_i ?_
          refine sB_f (by rfl) ?_
          refine sB_f (by assumption) ?_
          intro _
          intros
          have h_112 := h_91.ch c_98 (by simp <;> omega)
          refine c_door Tryz.muLib h_112 (by rfl) (fun _ => by rfl) fun s_113 b_114 c_115 z_116 => ?_
          have c_115t := on_ch h_112 c_115
          refine ret_t ?_
          have h_117 := hvw.ch ((((c_4.app c_9).app c_27).app c_98).app c_115t) (by simp)
          have h_118 := hvv.mv ((((c_4.app c_9).app c_27).app c_98).app c_115t) (tagn (by simp))
          have h_119 := h_24.mv ((c_27.app c_98).app c_115t) (tagn (by simp))
          have h_120 := h_25.mv ((c_27.app c_98).app c_115t) (tagn (by simp))
          have h_121 := hvD.mv ((((c_4.app c_9).app c_27).app c_98).app c_115t) (rngn (by simp))
          have h_122 := hvC.mv ((((c_4.app c_9).app c_27).app c_98).app c_115t) (rngn (by simp))
          have h_123 := call5a.mv c_115t (rngn (by simp))
          have ht : V.ticks b = V.n := by unfold VolM.ticks; rw [if_neg (by simpa using hsB3)]
          have hkp : V.keep b = V.old := by unfold VolM.keep; rw [if_neg (by simpa using hsB3)]
          have hc : V.change b o y needs = ({ V with n := V.ticks b, P := (V.P.add b o y needs).1, old := V.keep b }, (V.P.add b o y needs).2.1, 0) := by unfold VolM.change; rw [if_neg (by simpa using hsB2), if_neg (by simpa using hsB9)]
          rw [hc]
          rw [hkp]
          exact ⟨rfl, ((((((Ch.refl [U, U + 3, U + 20, U + 21, U + 22, U + 23, U + 30, U + 32] s).ch c_4 (by simp)).ch c_9 (by simp)).ch c_27 (by simp)).fr c_98 hM (by simp <;> omega)).ch c_115t (by simp)), ⟨⟨_, _, _, _, _, _, b_114, h_117, h_118, hV.kn, h_119, h_120, h_121, by rw [ht]; exact h_122, h_123⟩, ok.with _ _ (by rw [ht]; omega)⟩⟩
    ·
      intro K_124 hK_124
      refine nz_i ?_
      refine ld_t h_23 rfl ?_
      refine dBl_i ?_
      refine sB_i (fun hsB13 => ?_) (fun hsB13 => ?_)
      ·
        refine nz_i ?_
        refine ld_t h_23 rfl ?_
        refine dBl_i ?_
        refine sB_n (fun hsB14 => ?_) (fun hsB14 => ?_)
        ·
          refine hK_124 _ _ ⟨(Ch.refl [] s_6), ?_⟩
          first | rfl | (unfold VolM.first; simp [*])
        ·
          refine hK_124 _ _ ⟨(Ch.refl [] s_6), ?_⟩
          first | rfl | (unfold VolM.first; simp [*])
      ·
        refine hK_124 _ _ ⟨(Ch.refl [] s_6), ?_⟩
        first | rfl | (unfold VolM.first; simp [*])
def VolM.freeze (V : VolM) (room : Int) : VolM × Int :=
  if V.old.on = true then (V, 3) else if room < 0 ∨ room > 65536 then (V, 1) else ({ V with old := ⟨true, false, room, []⟩ }, 0)
theorem OMap.nil (s : TH) (τ : Nat) : OMap s none [] τ := ⟨fun r e => (by cases e), fun _ => rfl⟩
theorem OMap.keep {s : TH} {rk : Option Nat} {mk : List (Int × Value)} {σ μ τ : Nat} (h : OMap s rk mk σ) (hn : σ ≠ μ) : OMap (remark s μ τ) rk mk σ := ⟨fun r e => (h.at_ r e).keep hn, h.no⟩
theorem WMap.keep {s : TH} {σ μ τ : Nat} (hn : σ ≠ μ) : ∀ {m : List (Int × Value)} {l : List (Int × WayM)}, WMap s σ m l → WMap (remark s μ τ) σ m l
  | [], [], h => trivial
  | e :: m, p :: l, h => by
    obtain ⟨h1, ⟨ba, bc, ia, ic, g1, g2, g3, g4⟩, h2⟩ := h
    exact ⟨h1, ⟨ba, bc, ia, ic, g1, g2.keep hn, g3.keep hn, g4⟩, WMap.keep hn h2⟩
  | [], _ :: _, h => h.elim
  | _ :: _, [], h => h.elim
theorem KMap.keep {s : TH} {σ μ τ : Nat} (hn : σ ≠ μ) : ∀ {m : List (Int × Value)} {l : List (Int × List UInt8)}, KMap s σ m l → KMap (remark s μ τ) σ m l
  | [], [], h => trivial
  | e :: m, p :: l, ⟨h1, ⟨a, c, g1, g2, g3⟩, h2⟩ => ⟨h1, ⟨a, c, g1, g2.keep hn, g3⟩, KMap.keep hn h2⟩
  | [], _ :: _, h => h.elim
  | _ :: _, [], h => h.elim
theorem PMap.keep {s : TH} {σ μ τ : Nat} (hn : σ ≠ μ) : ∀ {m : List (Int × Value)} {l : List PatM}, PMap s σ m l → PMap (remark s μ τ) σ m l
  | [], [], h => trivial
  | e :: m, p :: l, h => by
    obtain ⟨h1, ⟨ba, bc, na, nc, g1, g2, g3⟩, h2⟩ := h
    exact ⟨h1, ⟨ba, bc, na, nc, g1, g2.keep hn, g3.keep hn⟩, PMap.keep hn h2⟩
  | [], _ :: _, h => h.elim
  | _ :: _, [], h => h.elim
theorem PSet.keep {s : TH} {p T μ τ : Nat} {P : PatchM} (h : PSet s p T P) (hn : μ < T ∨ T + 10 ≤ μ) : PSet (remark s μ τ) p T P := by
  obtain ⟨⟨r1, r2, m1, m2, hp⟩, ok⟩ := h
  exact ⟨⟨r1, r2, m1, m2, hp.blk.keep (by omega), hp.dm.keep (by omega), hp.lm.keep (by omega), PMap.keep (by omega) hp.pm, hp.dk, hp.dv⟩, ok⟩
theorem Disk.keep {s : TH} {d T μ τ : Nat} {D : DiskM} (h : Disk s d T D) (hn : μ < T ∨ T + 10 ≤ μ) : Disk (remark s μ τ) d T D := by
  obtain ⟨pa, pc, qa, qc, hs, qs, fr, fm, h⟩ := h
  exact ⟨pa, pc, qa, qc, hs, qs, fr, fm, h.blk.keep (by omega), h.rows.keep (by omega), h.brel.keep (by omega), h.que.keep (by omega), h.qrel.keep (by omega), h.fails.keep (by omega), h.fok, h.nb, h.nq, h.qin⟩
theorem CacheV.keep {s : TH} {c T d μ τ : Nat} {bs : List (List UInt8)} {n : Int} (h : CacheV s c T d bs n) (hn : μ < T ∨ T + 10 ≤ μ) : CacheV (remark s μ τ) c T d bs n := by
  obtain ⟨C, ⟨⟨r, m, bp, bh, hp⟩, ok⟩, h2⟩ := h
  exact ⟨C, ⟨⟨r, m, bp, bh, hp.blk.keep (by omega), hp.map.keep (by omega), ⟨fun x hx => (hp.bufs.at_ x hx).keep (by omega)⟩, ⟨fun x hx => ⟨(hp.bufy.at_ x hx).sl.keep (by omega), (hp.bufy.at_ x hx).len⟩⟩, hp.mo, hp.bnd, hp.len⟩, ok⟩, h2⟩
theorem VolL.keep {s : TH} {v d U μ τ : Nat} {V : VolM} {lk : Int} (h : VolL s v d U V lk) (hn : μ < U ∨ U + 50 ≤ μ) : VolL (remark s μ τ) v d U V lk := by
  obtain ⟨⟨c, p, rw, rk, mw, mk, h⟩, ok⟩ := h
  exact ⟨⟨c, p, rw, rk, mw, mk, h.blk.keep (by omega), h.wm.keep (by omega), WMap.keep (by omega) h.wv, h.kn, h.om.keep (by omega), KMap.keep (by omega) h.kv, h.dk.keep (by omega), h.ca.keep (by omega), h.ps.keep (by omega)⟩, ok⟩
def wrStep (cl : List Int) (r : VolM × Bool) (b : Int) : VolM × Bool :=
  if ((r.1.P.of b).any fun i => decide (i ∈ cl)) = true ∧ r.1.way.length < 64 then ((r.1.write b).1, r.2 && ((r.1.write b).2 == 0)) else r
theorem write_P {V : VolM} {b : Int} : (V.write b).1.P = V.P := by
  unfold VolM.write
  split
  · rfl
  · split
    · rfl
    · split
      · rfl
      · split <;> rfl
structure WrI (V : VolM) (r : VolM × Bool) : Prop where
  P : r.1.P = V.P
  w : ∀ p ∈ r.1.way, ∃ i ∈ p.2.ids, i ∈ V.P.all
theorem WrI.step {V : VolM} {cl : List Int} {r : VolM × Bool} {b : Int} (h : WrI V r) : WrI V (wrStep cl r b) := by
  unfold wrStep
  split
  · refine ⟨write_P.trans h.P, fun p hp => ?_⟩
    unfold VolM.write at hp
    split at hp
    · exact h.w p hp
    · split at hp
      · exact h.w p hp
      · split at hp
        · exact h.w p hp
        · rename_i hf
          split at hp
          · exact h.w p hp
          · rcases List.mem_append.1 (show p ∈ r.1.way ++ [_] from hp) with h1 | h1
            · exact h.w p h1
            · rw [List.mem_singleton] at h1; subst h1
              obtain ⟨i, l, e⟩ := List.exists_cons_of_ne_nil hf
              refine ⟨i, by show i ∈ r.1.P.free b; rw [e]; simp, ?_⟩
              have : i ∈ r.1.P.free b := by rw [e]; simp
              rw [← h.P]; exact of_sub (free_sub this)
  · exact h
end Go.Proofs.YtngploohhmfaiaaGreat.E
/- Contracts of functions. -/
namespace Go.Proofs.YtngploohhmfaiaaGreat.E
open Go Go.Proofs Go.RowKit Go.Maps Go.Shelf Go.Sort
set_option linter.unusedVariables false
set_option linter.unusedSimpArgs false
/-- patches over bytes, one behind another -/
def ovL (d : List UInt8) (xs : List PatM) : List UInt8 := xs.foldl (fun d x => overlay d x.off.toNat x.by_) d
def cov (j : Nat) (x : PatM) : Bool := decide (x.off.toNat ≤ j ∧ j < x.off.toNat + x.by_.length)
theorem ovL_snoc (d : List UInt8) (xs : List PatM) (x : PatM) : ovL d (xs ++ [x]) = overlay (ovL d xs) x.off.toNat x.by_ := by unfold ovL; rw [List.foldl_append]; rfl
/-- of two patches that overlap the later one needs the earlier one -/
def POv (P : PatchM) : Prop := ∀ x ∈ P.l, ∀ y ∈ P.l, x.id < y.id → x.blk = y.blk → (∃ j, cov j x = true ∧ cov j y = true) → x.id ∈ y.needs
theorem over_ovL {P : PatchM} (ok : POk P) : ∀ {xs : List PatM} {d : List UInt8}, (∀ x ∈ xs, x ∈ P.l) → P.over d (xs.map (·.id)) = ovL d xs := by
  intro xs
  induction xs with
  | nil => intro d _; rfl
  | cons x xs ih =>
    intro d h
    show P.over (P.step d x.id) (xs.map (·.id)) = ovL (overlay d x.off.toNat x.by_) xs
    have : P.step d x.id = overlay d x.off.toNat x.by_ := by unfold PatchM.step; rw [find_by ok.nodup (h x (by simp))]
    rw [this]
    exact ih fun y hy => h y (List.mem_cons_of_mem _ hy)
theorem over_of {P : PatchM} (ok : POk P) (b : Int) (d : List UInt8) : P.over d (P.of b) = ovL d (P.l.filter fun x => x.blk == b) := over_ovL ok fun x hx => (List.mem_filter.1 hx).1
theorem POv.undo {P : PatchM} (h : POv P) (i : Int) : POv { P with last := i, l := P.l.filter fun x => decide (x.id ≤ i) } := fun x hx y hy => h x (List.mem_filter.1 hx).1 y (List.mem_filter.1 hy).1
theorem POv.add {P : PatchM} (ok : POk P) (h : POv P) {b o : Int} {y : List UInt8} {needs : List Int} (hf : fitsP b o y.length) : POv { P with last := P.last + 1, l := P.l ++ [P.newP b o y needs] } := fun x hx z hz hlt hb hc => by
  unfold fitsP at hf
  rcases List.mem_append.1 (show x ∈ P.l ++ [_] from hx) with h1 | h1 <;> rcases List.mem_append.1 (show z ∈ P.l ++ [_] from hz) with h2 | h2
  · exact h x h1 z h2 hlt hb hc
  · rw [List.mem_singleton] at h2; subst h2
    refine List.mem_map.2 ⟨x, List.mem_filter.2 ⟨h1, ?_⟩, rfl⟩
    obtain ⟨j, c1, c2⟩ := hc
    have hfx := ok.fit x h1
    unfold cov at c1 c2
    simp only [decide_eq_true_eq] at c1 c2
    have c2 : o.toNat ≤ j ∧ j < o.toNat + y.length := c2
    have hb : x.blk = b := hb
    rw [Bool.or_eq_true]; right
    unfold ovx ovl
    exact decide_eq_true ⟨hb.symm, by omega, by omega⟩
  · rw [List.mem_singleton] at h1; subst h1
    have := ok.rng z h2
    have hlt : P.last + 1 < z.id := hlt
    omega
  · rw [List.mem_singleton] at h1 h2; subst h1 h2
    exact absurd hlt (Int.lt_irrefl _)
theorem add_of_ne {P : PatchM} {b o : Int} {y : List UInt8} {needs : List Int} {c : Int} (hc : c ≠ b) : (P.l ++ [P.newP b o y needs]).filter (fun x => x.blk == c) = P.l.filter fun x => x.blk == c := by
  rw [List.filter_append, show ([P.newP b o y needs].filter fun x => x.blk == c) = [] from by
    rw [List.filter_cons]; rw [show ((P.newP b o y needs).blk == c) = false from by show (b == c) = false; simpa using fun e => hc e.symm]; rfl, List.append_nil]
theorem add_of {P : PatchM} {b o : Int} {y : List UInt8} {needs : List Int} : (P.l ++ [P.newP b o y needs]).filter (fun x => x.blk == b) = (P.l.filter fun x => x.blk == b) ++ [P.newP b o y needs] := by
  rw [List.filter_append, show ([P.newP b o y needs].filter fun x => x.blk == b) = [P.newP b o y needs] from by
    rw [List.filter_cons]; rw [show ((P.newP b o y needs).blk == b) = true from by show (b == b) = true; simp]; rfl]
theorem newCache {s : TH} {c T d r : Nat} {b : Int} (h1 : Blk s c [.pointer (some ⟨d, 0, none⟩), .int .i64 b, .map (some r), .int .i64 0, .int .i64 0, .int .i64 0] 203 T) (h2 : MapK (Value.int .i64) s r [] (T + 1)) (hb : 1 ≤ b ∧ b ≤ 64) : Cache s c T d ⟨[], b, 0, 0, 0⟩ :=
  ⟨⟨r, [], fun _ => 0, fun _ => (none, 0), h1, h2, ⟨fun x h => (List.not_mem_nil h).elim⟩, ⟨fun x h => (List.not_mem_nil h).elim⟩, ⟨List.Perm.refl _, fun x h => (List.not_mem_nil h).elim, fun x h => (List.not_mem_nil h).elim, List.nodup_nil, fun x h => (List.not_mem_nil h).elim⟩, hb, by simp; omega⟩,
    ⟨List.Pairwise.nil, fun x h => (List.not_mem_nil h).elim, by simp, by simp, fun x h => (List.not_mem_nil h).elim⟩⟩
/-- a volume that was opened -/
def VolM.fresh (bs : List (List UInt8)) : VolM := ⟨diskOf bs, ⟨0, [], []⟩, [], ⟨false, false, 0, []⟩, 0⟩
theorem VOk.fresh {bs : List (List UInt8)} (h : ∀ y ∈ bs, y.length = 128) : VOk (VolM.fresh bs) :=
  ⟨rfl, fun p hp => (List.not_mem_nil hp).elim, List.Pairwise.nil, ⟨Int.le_refl _, Int.le_refl _⟩, ⟨Int.le_refl _, (by decide : (0 : Int) ≤ 1000000000000000000)⟩, fun _ => Int.le_refl _, h, (by decide : 0 ≤ 64), fun p hp => (List.not_mem_nil hp).elim⟩
theorem newPSet {s : TH} {p T r1 r2 : Nat} (h : Blk s p [.int .i64 0, .map (some r1), .map (some r2), .bool true] 192 T) (h1 : MapK (Value.int .i64) s r1 [] (T + 1)) (h2 : MapK (Value.int .i64) s r2 [] (T + 2)) : PSet s p T ⟨0, [], []⟩ :=
  ⟨⟨r1, r2, [], [], h, h1, h2, trivial, rfl, fun e he => (List.not_mem_nil he).elim⟩, ⟨List.Pairwise.nil, fun x hx => (List.not_mem_nil hx).elim, fun x hx => (List.not_mem_nil hx).elim, fun x hx => (List.not_mem_nil hx).elim, fun x hx => (List.not_mem_nil hx).elim, fun x hx => (List.not_mem_nil hx).elim, fun i h1 h2 => absurd (Int.le_trans h1 h2) (by show ¬ (1 : Int) ≤ 0; decide), fun x hx => (List.not_mem_nil hx).elim, (by decide : (0 : Int) ≤ 0 ∧ (0 : Int) ≤ 1000000)⟩⟩
/-- bollard/volume.Open -/
theorem c_vopen2 (U d : Nat) (bs : List (List UInt8)) (b : Int) (s : TH) (hU : 10 ≤ U) (hd : Disk s d (U + 10) (diskOf bs)) (hl : ∀ y ∈ bs, y.length = 128) (hb : 1 ≤ b ∧ b ≤ 64) : TRet Tryz.prog 31 #[.pointer (some ⟨d, 0, none⟩), .int .i64 b] s fun v s' => ∃ r, v = .tuple #[.pointer (some ⟨r, 0, none⟩), .int .i64 0] ∧ Ch [] s s' ∧ VolL s' r d U (VolM.fresh bs) 0 := by
  refine F31_calls _ _  ?_
  unfold F31
  refine tcall (c_cnew (U + 10) d (diskOf bs) (U + 20) b _ (by omega) hd hb) ?_
  rintro v_2 s_1 ⟨ccall1, rcall1, rfl, c_4, call1a, call1b⟩
  have z_5 := c_4.size
  refine dT2 ?_
  refine dPtr_i ?_
  refine dInt_i ?_
  refine sB_f (by rfl) ?_
  refine tcall (c_pnew (U + 30) _) ?_
  rintro v_7 s_6 ⟨pcall2, r1call2, r2call2, rfl, c_9, call2a, call2b, call2c⟩
  have z_10 := c_9.size
  refine dPtr_i ?_
  refine alm_t (Value.int .i64) (U + 1) fun r10 s11 hr10 b_11 c_12 z_13 => ?_
  refine al_t U fun r12 s13 hr12 b_14 c_15 z_16 => ?_
  refine ret_t ?_
  have h_17 := b_11.ch c_15 (by simp)
  have h_18 := hd.mv (((c_4.app c_9).app c_12).app c_15) (rngn (by simp))
  have h_19 := call1a.ch ((c_9.app c_12).app c_15) (by simp)
  have h_20 := call1b.ch ((c_9.app c_12).app c_15) (by simp)
  have h_21 := call2a.ch (c_12.app c_15) (by simp)
  have h_22 := call2b.ch (c_12.app c_15) (by simp)
  have h_23 := call2c.ch (c_12.app c_15) (by simp)
  exact ⟨_, rfl, (((((Ch.refl [] s).ch c_4 (by simp)).ch c_9 (by simp)).ch c_12 (by simp)).ch c_15 (by simp)), ⟨⟨_, _, _, none, [], [], b_14, h_17, trivial, (fun h => by cases h), OMap.nil _ _, trivial, h_18, ⟨_, newCache h_19 h_20 hb, ⟨fun x hx => (List.not_mem_nil hx).elim, fun x hx => (List.not_mem_nil hx).elim⟩, Int.le_refl _, Int.le_refl _, Int.le_refl _⟩, newPSet h_21 h_22 h_23⟩, VOk.fresh hl⟩⟩
structure DoV where
  op : Int
  b : Int
  off : Int
  n : Int
  ba : Option Addr
  bn : Nat
  bc : Nat
  na : Option Addr
  nn : Nat
  nc : Nat
  by_ : List UInt8
  ns : List Int
structure DoIn (s : TH) (τ : Nat) (x : DoV) : Prop where
  bs : Sl s x.ba (bvs x.by_) τ
  bl : x.by_.length = x.bn
  bo : x.ba = none → x.bn = 0
  bm : x.bn ≤ x.bc ∧ x.bn ≤ 140737488351232
  ns : Sl s x.na (ivs x.ns) τ
  nl : x.ns.length = x.nn
  no : x.na = none → x.nn = 0
  nm : x.nn ≤ x.nc ∧ x.nn ≤ 17592186043904
theorem DoIn.mv {s s' : TH} {τ : Nat} {x : DoV} {B : Nat → Prop} (h : DoIn s τ x) (c : Chg B s s') (hn : ∀ j, j < s.h.size → s.g j = τ → ¬ B j) : DoIn s' τ x := ⟨h.bs.mv c hn, h.bl, h.bo, h.bm, h.ns.mv c hn, h.nl, h.no, h.nm⟩
structure Dos (s : TH) (τ : Nat) (l : List DoV) : Prop where
  at_ : ∀ x ∈ l, DoIn s τ x
theorem Dos.mv {s s' : TH} {τ : Nat} {l : List DoV} {B : Nat → Prop} (h : Dos s τ l) (c : Chg B s s') (hn : ∀ j, j < s.h.size → s.g j = τ → ¬ B j) : Dos s' τ l := ⟨fun x hx => (h.at_ x hx).mv c hn⟩
/-- behind a change that was taken -/
structure Chd (V V' : VolM) : Prop where
  ex : ∃ b o y needs, V.D.has b ∧ fitsP b o y.length ∧ (∀ n ∈ needs, 1 ≤ n ∧ n ≤ V.P.last) ∧ V' = { V with n := V.ticks b, P := (V.P.add b o y needs).1, old := V.keep b } ∧ (V.P.add b o y needs).1 = { V.P with last := V.P.last + 1, l := V.P.l ++ [V.P.newP b o y needs] }
theorem add_ok {P : PatchM} {b o : Int} {y : List UInt8} {needs : List Int} (h1 : fitsP b o y.length) (h2 : ∀ n ∈ needs, 1 ≤ n ∧ n ≤ P.last) : P.add b o y needs = ({ P with last := P.last + 1, l := P.l ++ [P.newP b o y needs] }, P.last + 1, 0) := by
  unfold PatchM.add
  rw [if_neg (by simpa using h1), if_neg (by simpa [PatchM.knows] using h2)]
theorem change_ok {V : VolM} {b o : Int} {y : List UInt8} {needs : List Int} (hb : V.D.has b) (h1 : fitsP b o y.length) (h2 : ∀ n ∈ needs, 1 ≤ n ∧ n ≤ V.P.last) :
    (V.change b o y needs).2.1 = V.P.last + 1 ∧ (V.change b o y needs).2.2 = 0 ∧ (V.change b o y needs).1.P.last = V.P.last + 1 ∧ Chd V (V.change b o y needs).1 := by
  have e := add_ok (P := V.P) h1 h2
  unfold VolM.change
  rw [if_neg (by simpa using hb), if_neg (by rw [e]; simp)]
  refine ⟨by rw [e], rfl, by show (V.P.add b o y needs).1.last = _; rw [e], ⟨b, o, y, needs, hb, h1, h2, rfl, by rw [e]⟩⟩
theorem Sl.pre0 {s : TH} {a : Option Addr} {xs : List Value} {τ : Nat} (h : Sl s a xs τ) (m c : Nat) : Sl s (slO a 1 0 (c : Int)) (xs.take m) τ := by
  rcases h with rfl | ⟨g, o, rfl, h1, h2, h3⟩
  · left; simp
  · right
    refine ⟨g, o, ?_, h1, h2, fun j v hv => ?_⟩
    · have := slA_mk g o 1 0 c
      rw [show ((0 : Nat) : Int) = 0 from rfl] at this
      rw [this]; simp
    · rw [List.getElem?_take] at hv
      split at hv
      · exact h3 j v hv
      · cases hv
theorem tmod_rng {a b n : Int} (ha : 0 ≤ a) (hb : 0 < b) (h : n = Int.tmod a b) : 0 ≤ n ∧ n < b := by
  subst h
  rw [Int.tmod_eq_emod_of_nonneg ha]
  exact ⟨Int.emod_nonneg a (by omega), Int.emod_lt_of_pos a hb⟩
end Go.Proofs.YtngploohhmfaiaaGreat.E
/- The functions' forms in the engine's words, printed by my own program. -/
namespace Go.Proofs.YtngploohhmfaiaaGreat.E
open Go Go.Proofs
set_option linter.unusedVariables false
/-- bollard/bollardref17.Make -/
def F66 (x0_0 : Value) (x0_1 : Value) (x0_2 : Value) (R : Ending → Heap → Prop) (H : Heap) : Prop :=
  al H (Obj.cells #[x0_0, x0_1, x0_2] 32) (fun r1 H2 =>
  ld H2 (Addr.mk r1 0 none) (fun v3 =>
  ld H2 (Addr.mk r1 1 none) (fun v4 =>
  ld H2 (Addr.mk r1 2 none) (fun v5 =>
  HCalls Tryz.prog 117 #[Value.agg #[v3, v4, v5]] H2 (Sp.retK (fun v6 H7 =>
  dInt IntKind.i64 v6 (fun n8 =>
  sB (n8 != 0) (R (Ending.returned (Value.tuple #[Value.slice none 0 0, Value.int IntKind.i64 170])) H7) (ld H7 (Addr.mk r1 0 none) (fun v9 =>
  dInt IntKind.i64 v9 (fun n10 =>
  ∃ I11 : List Value → Heap → Prop,
  ∃ I12 : List Value → Heap → Nat,
  (I11 ([Value.slice none 0 0, Value.int IntKind.i64 0]) H7) ∧
  ∀ p13 : Option Addr,
  ∀ r14 : Nat,
  ∀ r15 : Nat,
  ∀ n16 : Int,
  ∀ v17 v18 v19 v20 v21 v22 v23 v24 v25 : Value,
  ∀ H26 : Heap,
  (I11 ([Value.slice p13 r14 r15, Value.int IntKind.i64 n16]) H26) →
  sB (decide (n16 < n10)) (ld H26 (Addr.mk r1 0 none) (fun v28 =>
  ld H26 (Addr.mk r1 1 none) (fun v29 =>
  ld H26 (Addr.mk r1 2 none) (fun v30 =>
  HCalls Tryz.prog 118 #[Value.agg #[v28, v29, v30], Value.int IntKind.i64 n16] H26 (Sp.retK (fun v31 H32 =>
  dSl v31 (fun p33 r34 r35 =>
  semW Tryz.prog (Builtin.append_ #[42, 42] 42 #[Value.slice p13 r14 r15, Value.slice p33 r34 r35]) (pnR R) H32 (fun v38 H39 =>
  dSl v38 (fun p40 r41 r42 =>
  wr IntKind.i64 (n16 + 1) (fun n43 =>
  (I11 ([Value.slice p40 r41 r42, Value.int IntKind.i64 n43]) H39) ∧
  (I12 [Value.slice p40 r41 r42, Value.int IntKind.i64 n43] H39) < (I12 [Value.slice p13 r14 r15, Value.int IntKind.i64 n16] H26)))))) (pnR R)))))) (ld H26 (Addr.mk r1 2 none) (fun v46 =>
  dInt IntKind.i64 v46 (fun n47 =>
  ask ((4 : Int) ≠ (0 : Int)) (wr IntKind.i64 (Int.tdiv n47 4) (fun n48 =>
  wr IntKind.i64 (2 + n48) (fun n49 =>
  HCalls Tryz.prog 119 #[Value.agg #[Value.int IntKind.i64 2, Value.int IntKind.i64 2, Value.int IntKind.i64 128, Value.int IntKind.i64 n49, Value.int IntKind.i64 0, Value.int IntKind.i64 0, Value.int IntKind.i64 0, Value.int IntKind.i64 0, Value.int IntKind.i64 0]] H26 (Sp.retK (fun v50 H51 =>
  dT 2 v50 (fun v52 v53 =>
  dSl v52 (fun p54 r55 r56 =>
  dInt IntKind.i64 v53 (fun n57 =>
  nz p13 (fun a58 =>
  ask ((0 : Int) ≤ (2 : Int) ∧ (2 : Int) < (↑r14 : Int)) (ld H51 (Addr.add a58 (Int.toNat 2 * 1)) (fun v59 =>
  dSl v59 (fun p60 r61 r62 =>
  ask ((0 : Int) ≤ (64 : Int) ∧ (64 : Int) ≤ (↑r61 : Int) ∧ (↑r61 : Int) ≤ (↑r62 : Int) ∧ (↑r62 : Int) ≤ (↑r62 : Int)) (semW Tryz.prog (Builtin.copy_ #[38, 38] 3 #[Value.slice (slO p60 1 64 (↑r62 : Int)) (Int.toNat (↑r61 : Int) - Int.toNat 64) (Int.toNat (↑r62 : Int) - Int.toNat 64), Value.slice p54 r55 r56]) (pnR R) H51 (fun v65 H66 =>
  dInt IntKind.i64 v65 (fun n67 =>
  al H66 (Obj.cells #[Value.int IntKind.i64 2, Value.string (ByteArray.mk #[UInt8.ofBitVec 46#8]), Value.int IntKind.i64 2, Value.string (ByteArray.mk #[UInt8.ofBitVec 46#8, UInt8.ofBitVec 46#8])] 180) (fun r68 H69 =>
  HCalls Tryz.prog 120 #[Value.slice (some (Addr.mk r68 0 none)) 2 2] H69 (Sp.retK (fun v70 H71 =>
  dT 2 v70 (fun v72 v73 =>
  dSl v72 (fun p74 r75 r76 =>
  dInt IntKind.i64 v73 (fun n77 =>
  nz p13 (fun a78 =>
  ask ((0 : Int) ≤ n49 ∧ n49 < (↑r14 : Int)) (st H71 (Addr.add a78 (Int.toNat n49 * 1)) (Value.slice p74 r75 r76) (fun H79 =>
  R (Ending.returned (Value.tuple #[Value.slice p13 r14 r15, Value.int IntKind.i64 0])) H79))))))) (pnR R)))))))))))))) (pnR R))))))))))))) (pnR R))))))
theorem F66_eq (x0_0 : Value) (x0_1 : Value) (x0_2 : Value) (R : Ending → Heap → Prop) (H : Heap) : F66 x0_0 x0_1 x0_2 R H = vc Tryz.prog (codeOf Tryz.f66) (.node none .leaf (.node none .leaf (.node none .leaf (.node none (.node none .leaf (.node none (.node (some ⟨[(4, 42), (16, 3)], [5, 17, 18, 19, 20, 21, 22, 23, 24]⟩) .leaf .leaf) .leaf)) .leaf)))) (postV Tryz.prog Tryz.f66 R) ⟨#[Value.agg #[x0_0, x0_1, x0_2]] ++ Array.replicate (Tryz.f66.ntmps - 1) undef, []⟩ H := by kernel_rfl
theorem F66_calls {R : Ending → Heap → Prop} {H : Heap} (x0_0 : Value) (x0_1 : Value) (x0_2 : Value) (h : F66 x0_0 x0_1 x0_2 R H) : HCalls Tryz.prog 66 #[Value.agg #[x0_0, x0_1, x0_2]] H R :=
  calls_by (F := F66 x0_0 x0_1 x0_2 R H) (.node none .leaf (.node none .leaf (.node none .leaf (.node none (.node none .leaf (.node none (.node (some ⟨[(4, 42), (16, 3)], [5, 17, 18, 19, 20, 21, 22, 23, 24]⟩) .leaf .leaf) .leaf)) .leaf)))) Tryz.func66 rfl (F66_eq x0_0 x0_1 x0_2 R H) h
/-- bollard/bollardref03.EncodeDinode -/
def F119 (x0_0 : Value) (x0_1 : Value) (x0_2 : Value) (x0_3 : Value) (x0_4 : Value) (x0_5 : Value) (x0_6 : Value) (x0_7 : Value) (x0_8 : Value) (R : Ending → Heap → Prop) (H : Heap) : Prop :=
  al H (Obj.cells #[x0_0, x0_1, x0_2, x0_3, x0_4, x0_5, x0_6, x0_7, x0_8] 177) (fun r1 H2 =>
  ld H2 (Addr.mk r1 0 none) (fun v3 =>
  ld H2 (Addr.mk r1 1 none) (fun v4 =>
  ld H2 (Addr.mk r1 2 none) (fun v5 =>
  ld H2 (Addr.mk r1 3 none) (fun v6 =>
  ld H2 (Addr.mk r1 4 none) (fun v7 =>
  ld H2 (Addr.mk r1 5 none) (fun v8 =>
  ld H2 (Addr.mk r1 6 none) (fun v9 =>
  ld H2 (Addr.mk r1 7 none) (fun v10 =>
  ld H2 (Addr.mk r1 8 none) (fun v11 =>
  HCalls Tryz.prog 176 #[Value.agg #[v3, v4, v5, v6, v7, v8, v9, v10, v11]] H2 (Sp.retK (fun v12 H13 =>
  dBl v12 (fun b14 =>
  sB (!b14) (R (Ending.returned (Value.tuple #[Value.slice none 0 0, Value.int IntKind.i64 1])) H13) (ask ((0 : Int) ≤ (32 : Int) ∧ (32 : Int) ≤ (32 : Int) ∧ (32 : Int) ≤ (281474976710656 : Int) ∧ (32 : Int) ≤ (9223372036854775807 : Int)) (al H13 (Obj.cells (List.toArray (rowZ [Value.int IntKind.u8 0] (Int.toNat 32))) 5) (fun r15 H16 =>
  ld H16 (Addr.mk r1 0 none) (fun v17 =>
  dInt IntKind.i64 v17 (fun n18 =>
  sB (n18 == 0) (R (Ending.returned (Value.tuple #[Value.slice (some (Addr.mk r15 0 none)) (Int.toNat 32) (Int.toNat 32), Value.int IntKind.i64 0])) H16) (ld H16 (Addr.mk r1 0 none) (fun v19 =>
  dInt IntKind.i64 v19 (fun n20 =>
  HCalls Tryz.prog 177 #[Value.slice (some (Addr.mk r15 0 none)) (Int.toNat 32) (Int.toNat 32), Value.int IntKind.i64 0, Value.int IntKind.i64 1, Value.int IntKind.i64 n20] H16 (Sp.retK (fun v21 H22 =>
  dSl v21 (fun p23 r24 r25 =>
  ld H22 (Addr.mk r1 1 none) (fun v26 =>
  dInt IntKind.i64 v26 (fun n27 =>
  HCalls Tryz.prog 177 #[Value.slice p23 r24 r25, Value.int IntKind.i64 2, Value.int IntKind.i64 2, Value.int IntKind.i64 n27] H22 (Sp.retK (fun v28 H29 =>
  dSl v28 (fun p30 r31 r32 =>
  ld H29 (Addr.mk r1 2 none) (fun v33 =>
  dInt IntKind.i64 v33 (fun n34 =>
  HCalls Tryz.prog 177 #[Value.slice p30 r31 r32, Value.int IntKind.i64 4, Value.int IntKind.i64 4, Value.int IntKind.i64 n34] H29 (Sp.retK (fun v35 H36 =>
  dSl v35 (fun p37 r38 r39 =>
  ld H36 (Addr.mk r1 3 none) (fun v40 =>
  ld H36 (Addr.mk r1 4 none) (fun v41 =>
  ld H36 (Addr.mk r1 5 none) (fun v42 =>
  ld H36 (Addr.mk r1 6 none) (fun v43 =>
  ∃ I44 : List Value → Heap → Prop,
  ∃ I45 : List Value → Heap → Nat,
  (I44 ([Value.slice p37 r38 r39, Value.int IntKind.i64 0]) H36) ∧
  ∀ p46 : Option Addr,
  ∀ r47 : Nat,
  ∀ r48 : Nat,
  ∀ n49 : Int,
  ∀ v50 v51 v52 v53 v54 v55 v56 v57 v58 v59 v60 v61 : Value,
  ∀ H62 : Heap,
  (I44 ([Value.slice p46 r47 r48, Value.int IntKind.i64 n49]) H62) →
  sB (decide (n49 < 4)) (ask ((0 : Int) ≤ n49 ∧ n49 < (4 : Int)) (oV ([v40, v41, v42, v43][Int.toNat n49 * 1]?) (fun v64 =>
  dInt IntKind.i64 v64 (fun n65 =>
  wr IntKind.i64 (2 * n49) (fun n66 =>
  wr IntKind.i64 (8 + n66) (fun n67 =>
  HCalls Tryz.prog 177 #[Value.slice p46 r47 r48, Value.int IntKind.i64 n67, Value.int IntKind.i64 2, Value.int IntKind.i64 n65] H62 (Sp.retK (fun v68 H69 =>
  dSl v68 (fun p70 r71 r72 =>
  wr IntKind.i64 (n49 + 1) (fun n73 =>
  (I44 ([Value.slice p70 r71 r72, Value.int IntKind.i64 n73]) H69) ∧
  (I45 [Value.slice p70 r71 r72, Value.int IntKind.i64 n73] H69) < (I45 [Value.slice p46 r47 r48, Value.int IntKind.i64 n49] H62)))) (pnR R)))))))) (ld H62 (Addr.mk r1 7 none) (fun v76 =>
  dInt IntKind.i64 v76 (fun n77 =>
  HCalls Tryz.prog 177 #[Value.slice p46 r47 r48, Value.int IntKind.i64 16, Value.int IntKind.i64 2, Value.int IntKind.i64 n77] H62 (Sp.retK (fun v78 H79 =>
  dSl v78 (fun p80 r81 r82 =>
  ld H79 (Addr.mk r1 8 none) (fun v83 =>
  dInt IntKind.i64 v83 (fun n84 =>
  HCalls Tryz.prog 177 #[Value.slice p80 r81 r82, Value.int IntKind.i64 18, Value.int IntKind.i64 2, Value.int IntKind.i64 n84] H79 (Sp.retK (fun v85 H86 =>
  dSl v85 (fun p87 r88 r89 =>
  HCalls Tryz.prog 178 #[Value.slice p87 r88 r89] H86 (Sp.retK (fun v90 H91 =>
  dT 2 v90 (fun v92 v93 =>
  dSl v92 (fun p94 r95 r96 =>
  dInt IntKind.i64 v93 (fun n97 =>
  R (Ending.returned (Value.tuple #[Value.slice p94 r95 r96, Value.int IntKind.i64 n97])) H91)))) (pnR R)))) (pnR R)))))) (pnR R))))))))))) (pnR R)))))) (pnR R)))))) (pnR R)))))))))))) (pnR R))))))))))))
theorem F119_eq (x0_0 : Value) (x0_1 : Value) (x0_2 : Value) (x0_3 : Value) (x0_4 : Value) (x0_5 : Value) (x0_6 : Value) (x0_7 : Value) (x0_8 : Value) (R : Ending → Heap → Prop) (H : Heap) : F119 x0_0 x0_1 x0_2 x0_3 x0_4 x0_5 x0_6 x0_7 x0_8 R H = vc Tryz.prog (codeOf Tryz.f119) (.node none .leaf (.node none .leaf (.node none .leaf (.node none .leaf (.node none .leaf (.node none .leaf (.node none .leaf (.node none (.node none .leaf (.node none (.node (some ⟨[(4, 38), (29, 3)], [5, 6, 30, 31, 32, 33, 34, 35, 36, 37, 38, 39]⟩) .leaf .leaf) .leaf)) .leaf)))))))) (postV Tryz.prog Tryz.f119 R) ⟨#[Value.agg #[x0_0, x0_1, x0_2, x0_3, x0_4, x0_5, x0_6, x0_7, x0_8]] ++ Array.replicate (Tryz.f119.ntmps - 1) undef, []⟩ H := by kernel_rfl
theorem F119_calls {R : Ending → Heap → Prop} {H : Heap} (x0_0 : Value) (x0_1 : Value) (x0_2 : Value) (x0_3 : Value) (x0_4 : Value) (x0_5 : Value) (x0_6 : Value) (x0_7 : Value) (x0_8 : Value) (h : F119 x0_0 x0_1 x0_2 x0_3 x0_4 x0_5 x0_6 x0_7 x0_8 R H) : HCalls Tryz.prog 119 #[Value.agg #[x0_0, x0_1, x0_2, x0_3, x0_4, x0_5, x0_6, x0_7, x0_8]] H R :=
  calls_by (F := F119 x0_0 x0_1 x0_2 x0_3 x0_4 x0_5 x0_6 x0_7 x0_8 R H) (.node none .leaf (.node none .leaf (.node none .leaf (.node none .leaf (.node none .leaf (.node none .leaf (.node none .leaf (.node none (.node none .leaf (.node none (.node (some ⟨[(4, 38), (29, 3)], [5, 6, 30, 31, 32, 33, 34, 35, 36, 37, 38, 39]⟩) .leaf .leaf) .leaf)) .leaf)))))))) Tryz.func119 rfl (F119_eq x0_0 x0_1 x0_2 x0_3 x0_4 x0_5 x0_6 x0_7 x0_8 R H) h
/-- bollard/bollardref12.Encode -/
def F120 (x0a : Option Addr) (x0n : Nat) (x0c : Nat) (R : Ending → Heap → Prop) (H : Heap) : Prop :=
  jn (α := VFH 1) (fun v1 H2 =>
  ∀ v3 v4 v5 v6 v7 v8 : Value,
  dBl v1 (fun b9 =>
  sB b9 (R (Ending.returned (Value.tuple #[Value.slice none 0 0, Value.int IntKind.i64 1])) H2) (∃ I10 : List Value → Heap → Prop,
  ∃ I11 : List Value → Heap → Nat,
  (I10 ([Value.slice none 0 0, Value.int IntKind.i64 0]) H2) ∧
  ∀ p12 : Option Addr,
  ∀ r13 : Nat,
  ∀ r14 : Nat,
  ∀ n15 : Int,
  ∀ v16 v17 v18 v19 v20 v21 v22 v23 v24 v25 v26 v27 v28 v29 v30 v31 v32 v33 v34 : Value,
  ∀ H35 : Heap,
  (I10 ([Value.slice p12 r13 r14, Value.int IntKind.i64 n15]) H35) →
  sB (decide (n15 < (↑x0n : Int))) (nz x0a (fun a37 =>
  ask ((0 : Int) ≤ n15 ∧ n15 < (↑x0n : Int)) (ld H35 (Addr.add a37 (Int.toNat n15 * 2)) (fun v38 =>
  ld H35 (Addr.add (Addr.add a37 (Int.toNat n15 * 2)) 1) (fun v39 =>
  al H35 (Obj.cells #[Value.int IntKind.i64 0, Value.string (ByteArray.mk #[])] 180) (fun r40 H41 =>
  st H41 (Addr.mk r40 0 none) v38 (fun H42 =>
  st H42 (Addr.mk r40 1 none) v39 (fun H43 =>
  ld H43 (Addr.mk r40 0 none) (fun v44 =>
  ld H43 (Addr.mk r40 1 none) (fun v45 =>
  HCalls Tryz.prog 180 #[Value.agg #[v44, v45]] H43 (Sp.retK (fun v46 H47 =>
  dT 2 v46 (fun v48 v49 =>
  dSl v48 (fun p50 r51 r52 =>
  dInt IntKind.i64 v49 (fun n53 =>
  sB (n53 != 0) (R (Ending.returned (Value.tuple #[Value.slice none 0 0, Value.int IntKind.i64 1])) H47) (semW Tryz.prog (Builtin.append_ #[38, 38] 38 #[Value.slice p12 r13 r14, Value.slice p50 r51 r52]) (pnR R) H47 (fun v56 H57 =>
  dSl v56 (fun p58 r59 r60 =>
  wr IntKind.i64 (n15 + 1) (fun n61 =>
  (I10 ([Value.slice p58 r59 r60, Value.int IntKind.i64 n61]) H57) ∧
  (I11 [Value.slice p58 r59 r60, Value.int IntKind.i64 n61] H57) < (I11 [Value.slice p12 r13 r14, Value.int IntKind.i64 n15] H35))))))))) (pnR R)))))))))))) (wr IntKind.i64 (128 - (↑r13 : Int)) (fun n64 =>
  semW Tryz.prog (Builtin.append_ #[38, 3] 38 #[Value.slice p12 r13 r14, Value.int IntKind.i64 n64]) (pnR R) H35 (fun v67 H68 =>
  dSl v67 (fun p69 r70 r71 =>
  R (Ending.returned (Value.tuple #[Value.slice p69 r70 r71, Value.int IntKind.i64 0])) H68))))))) (fun k72 =>
  sB (decide ((↑x0n : Int) > 8)) (k72 (Value.bool true) H) (HCalls Tryz.prog 179 #[Value.slice x0a x0n x0c] H (Sp.retK (fun v73 H74 =>
  dBl v73 (fun b75 =>
  k72 (Value.bool b75) H74)) (pnR R))))
theorem F120_eq (x0a : Option Addr) (x0n : Nat) (x0c : Nat) (R : Ending → Heap → Prop) (H : Heap) : F120 x0a x0n x0c R H = vc Tryz.prog (codeOf Tryz.f120) (.node none .leaf (.node none (.node (some ⟨[(15, 4)], [9, 10, 11, 12, 13, 14]⟩) .leaf .leaf) (.node none .leaf (.node none (.node none .leaf (.node none (.node (some ⟨[(4, 38), (18, 3)], [2, 3, 6, 7, 8, 19, 20, 21, 22, 23, 24, 25, 26, 27, 28, 29, 30, 31, 32]⟩) .leaf .leaf) .leaf)) .leaf)))) (postV Tryz.prog Tryz.f120 R) ⟨#[Value.slice x0a x0n x0c] ++ Array.replicate (Tryz.f120.ntmps - 1) undef, []⟩ H := by kernel_rfl
theorem F120_calls {R : Ending → Heap → Prop} {H : Heap} (x0a : Option Addr) (x0n : Nat) (x0c : Nat) (h : F120 x0a x0n x0c R H) : HCalls Tryz.prog 120 #[Value.slice x0a x0n x0c] H R :=
  calls_by (F := F120 x0a x0n x0c R H) (.node none .leaf (.node none (.node (some ⟨[(15, 4)], [9, 10, 11, 12, 13, 14]⟩) .leaf .leaf) (.node none .leaf (.node none (.node none .leaf (.node none (.node (some ⟨[(4, 38), (18, 3)], [2, 3, 6, 7, 8, 19, 20, 21, 22, 23, 24, 25, 26, 27, 28, 29, 30, 31, 32]⟩) .leaf .leaf) .leaf)) .leaf)))) Tryz.func120 rfl (F120_eq x0a x0n x0c R H) h
/-- bollard/bollardref03.EncodeSuper -/
def F173 (x0_0 : Value) (x0_1 : Value) (x0_2 : Value) (x0_3 : Value) (R : Ending → Heap → Prop) (H : Heap) : Prop :=
  al H (Obj.cells #[x0_0, x0_1, x0_2, x0_3] 234) (fun r1 H2 =>
  jn (α := VFH 1) (fun v3 H4 =>
  ∀ v5 v6 v7 v8 v9 v10 v11 v12 v13 v14 v15 v16 v17 : Value,
  dBl v3 (fun b18 =>
  sB b18 (R (Ending.returned (Value.tuple #[Value.slice none 0 0, Value.int IntKind.i64 1])) H4) (al H4 (Obj.cells #[Value.int IntKind.u8 98, Value.int IntKind.u8 111, Value.int IntKind.u8 108, Value.int IntKind.u8 108] 5) (fun r19 H20 =>
  semW Tryz.prog (convert 38 38 (Value.slice (some (Addr.mk r19 0 none)) 4 4)) (pnR R) H20 (fun v23 H24 =>
  dSl v23 (fun p25 r26 r27 =>
  semW Tryz.prog (Builtin.append_ #[38, 3] 38 #[Value.slice p25 r26 r27, Value.int IntKind.i64 124]) (pnR R) H24 (fun v30 H31 =>
  dSl v30 (fun p32 r33 r34 =>
  ld H31 (Addr.mk r1 0 none) (fun v35 =>
  dInt IntKind.i64 v35 (fun n36 =>
  HCalls Tryz.prog 177 #[Value.slice p32 r33 r34, Value.int IntKind.i64 4, Value.int IntKind.i64 1, Value.int IntKind.i64 n36] H31 (Sp.retK (fun v37 H38 =>
  dSl v37 (fun p39 r40 r41 =>
  ld H38 (Addr.mk r1 1 none) (fun v42 =>
  dInt IntKind.i64 v42 (fun n43 =>
  wr IntKind.i64 (n43 - 1) (fun n44 =>
  HCalls Tryz.prog 177 #[Value.slice p39 r40 r41, Value.int IntKind.i64 5, Value.int IntKind.i64 1, Value.int IntKind.i64 n44] H38 (Sp.retK (fun v45 H46 =>
  dSl v45 (fun p47 r48 r49 =>
  ld H46 (Addr.mk r1 2 none) (fun v50 =>
  dInt IntKind.i64 v50 (fun n51 =>
  HCalls Tryz.prog 177 #[Value.slice p47 r48 r49, Value.int IntKind.i64 6, Value.int IntKind.i64 1, Value.int IntKind.i64 n51] H46 (Sp.retK (fun v52 H53 =>
  dSl v52 (fun p54 r55 r56 =>
  ld H53 (Addr.mk r1 3 none) (fun v57 =>
  dInt IntKind.i64 v57 (fun n58 =>
  HCalls Tryz.prog 177 #[Value.slice p54 r55 r56, Value.int IntKind.i64 8, Value.int IntKind.i64 4, Value.int IntKind.i64 n58] H53 (Sp.retK (fun v59 H60 =>
  dSl v59 (fun p61 r62 r63 =>
  HCalls Tryz.prog 178 #[Value.slice p61 r62 r63] H60 (Sp.retK (fun v64 H65 =>
  dT 2 v64 (fun v66 v67 =>
  dSl v66 (fun p68 r69 r70 =>
  dInt IntKind.i64 v67 (fun n71 =>
  R (Ending.returned (Value.tuple #[Value.slice p68 r69 r70, Value.int IntKind.i64 n71])) H65)))) (pnR R)))) (pnR R)))))) (pnR R)))))) (pnR R))))))) (pnR R)))))))))))) (fun k82 =>
  ld H2 (Addr.mk r1 0 none) (fun v83 =>
  ld H2 (Addr.mk r1 1 none) (fun v84 =>
  ld H2 (Addr.mk r1 2 none) (fun v85 =>
  HCalls Tryz.prog 223 #[Value.agg #[v83, v84, v85]] H2 (Sp.retK (fun v86 H87 =>
  dBl v86 (fun b88 =>
  sB (!b88) (k82 (Value.bool true) H87) (ld H87 (Addr.mk r1 3 none) (fun v89 =>
  dInt IntKind.i64 v89 (fun n90 =>
  sB (decide (n90 < 0)) (k82 (Value.bool true) H87) (ld H87 (Addr.mk r1 3 none) (fun v91 =>
  dInt IntKind.i64 v91 (fun n92 =>
  k82 (Value.bool (decide (n92 ≥ 4294967296))) H87)))))))) (pnR R)))))))
theorem F173_eq (x0_0 : Value) (x0_1 : Value) (x0_2 : Value) (x0_3 : Value) (R : Ending → Heap → Prop) (H : Heap) : F173 x0_0 x0_1 x0_2 x0_3 R H = vc Tryz.prog (codeOf Tryz.f173) (.node none .leaf (.node none (.node (some ⟨[(18, 4)], [5, 6, 7, 8, 9, 10, 11, 12, 13, 14, 15, 16, 17]⟩) .leaf .leaf) .leaf)) (postV Tryz.prog Tryz.f173 R) ⟨#[Value.agg #[x0_0, x0_1, x0_2, x0_3]] ++ Array.replicate (Tryz.f173.ntmps - 1) undef, []⟩ H := by kernel_rfl
theorem F173_calls {R : Ending → Heap → Prop} {H : Heap} (x0_0 : Value) (x0_1 : Value) (x0_2 : Value) (x0_3 : Value) (h : F173 x0_0 x0_1 x0_2 x0_3 R H) : HCalls Tryz.prog 173 #[Value.agg #[x0_0, x0_1, x0_2, x0_3]] H R :=
  calls_by (F := F173 x0_0 x0_1 x0_2 x0_3 R H) (.node none .leaf (.node none (.node (some ⟨[(18, 4)], [5, 6, 7, 8, 9, 10, 11, 12, 13, 14, 15, 16, 17]⟩) .leaf .leaf) .leaf)) Tryz.func173 rfl (F173_eq x0_0 x0_1 x0_2 x0_3 R H) h
/-- bollard/bollardref03.EncodeGroup -/
def F175 (x0_0 : Value) (x0_1 : Value) (x0_2 : Value) (x0_3 : Value) (x0_4 : Value) (x0_5 : Value) (x0_6 : Value) (x0_7 : Value) (x0_8 : Value) (x0_9 : Value) (x0_10 : Value) (x0_11 : Value) (x0_12 : Value) (x0_13 : Value) (x0_14 : Value) (x0_15 : Value) (x0_16 : Value) (x0_17 : Value) (x0_18 : Value) (x0_19 : Value) (x0_20 : Value) (x0_21 : Value) (x0_22 : Value) (x0_23 : Value) (x0_24 : Value) (x0_25 : Value) (x0_26 : Value) (x0_27 : Value) (x0_28 : Value) (x0_29 : Value) (x0_30 : Value) (x0_31 : Value) (x0_32 : Value) (x0_33 : Value) (x0_34 : Value) (x0_35 : Value) (x0_36 : Value) (x0_37 : Value) (x0_38 : Value) (x0_39 : Value) (x0_40 : Value) (R : Ending → Heap → Prop) (H : Heap) : Prop :=
  al H (Obj.cells #[x0_0, x0_1, x0_2, x0_3, x0_4, x0_5, x0_6, x0_7, x0_8, x0_9, x0_10, x0_11, x0_12, x0_13, x0_14, x0_15, x0_16, x0_17, x0_18, x0_19, x0_20, x0_21, x0_22, x0_23, x0_24, x0_25, x0_26, x0_27, x0_28, x0_29, x0_30, x0_31, x0_32, x0_33, x0_34, x0_35, x0_36, x0_37, x0_38, x0_39, x0_40] 77) (fun r1 H2 =>
  jn (α := VFH 1) (fun v3 H4 =>
  ∀ v5 v6 v7 v8 v9 v10 v11 : Value,
  dBl v3 (fun b12 =>
  sB b12 (R (Ending.returned (Value.tuple #[Value.slice none 0 0, Value.int IntKind.i64 1])) H4) (al H4 (Obj.cells #[Value.int IntKind.u8 104, Value.int IntKind.u8 100] 5) (fun r13 H14 =>
  semW Tryz.prog (convert 38 38 (Value.slice (some (Addr.mk r13 0 none)) 2 2)) (pnR R) H14 (fun v17 H18 =>
  dSl v17 (fun p19 r20 r21 =>
  ld H18 (Addr.mk r1 0 none) (fun v22 =>
  dInt IntKind.i64 v22 (fun n23 =>
  wr IntKind.u8 n23 (fun n24 =>
  al H18 (Obj.cells #[Value.int IntKind.u8 n24, Value.int IntKind.u8 0] 5) (fun r25 H26 =>
  semW Tryz.prog (Builtin.append_ #[38, 38] 38 #[Value.slice p19 r20 r21, Value.slice (some (Addr.mk r25 0 none)) 2 2]) (pnR R) H26 (fun v29 H30 =>
  dSl v29 (fun p31 r32 r33 =>
  ask ((0 : Int) ≤ (0 : Int) ∧ (0 : Int) ≤ (8 : Int) ∧ (8 : Int) ≤ (8 : Int) ∧ (8 : Int) ≤ (8 : Int)) (ask ((0 : Int) ≤ (0 : Int) ∧ (0 : Int) ≤ (32 : Int) ∧ (32 : Int) ≤ (32 : Int) ∧ (32 : Int) ≤ (32 : Int)) (semW Tryz.prog (Builtin.append_ #[38, 38] 38 #[Value.slice p31 r32 r33, Value.slice (slO (some (Addr.mk r1 1 none)) 1 0 8) (Int.toNat 8 - Int.toNat 0) (Int.toNat 8 - Int.toNat 0)]) nopR H30 (fun v36 H37 =>
  dSl v36 (fun p38 r39 r40 =>
  semW Tryz.prog (Builtin.append_ #[38, 38] 38 #[Value.slice p38 r39 r40, Value.slice (slO (some (Addr.mk r1 9 none)) 1 0 32) (Int.toNat 32 - Int.toNat 0) (Int.toNat 32 - Int.toNat 0)]) nopR H37 (fun v43 H44 =>
  dSl v43 (fun p45 r46 r47 =>
  semW Tryz.prog (Builtin.append_ #[38, 3] 38 #[Value.slice p45 r46 r47, Value.int IntKind.i64 84]) (pnR R) H44 (fun v50 H51 =>
  dSl v50 (fun p52 r53 r54 =>
  R (Ending.returned (Value.tuple #[Value.slice p52 r53 r54, Value.int IntKind.i64 0])) H51)))))))))))))))))))) (fun k55 =>
  ld H2 (Addr.mk r1 0 none) (fun v56 =>
  dInt IntKind.i64 v56 (fun n57 =>
  sB (decide (n57 < 0)) (k55 (Value.bool true) H2) (ld H2 (Addr.mk r1 0 none) (fun v58 =>
  dInt IntKind.i64 v58 (fun n59 =>
  k55 (Value.bool (decide (n59 > 7))) H2)))))))
theorem F175_eq (x0_0 : Value) (x0_1 : Value) (x0_2 : Value) (x0_3 : Value) (x0_4 : Value) (x0_5 : Value) (x0_6 : Value) (x0_7 : Value) (x0_8 : Value) (x0_9 : Value) (x0_10 : Value) (x0_11 : Value) (x0_12 : Value) (x0_13 : Value) (x0_14 : Value) (x0_15 : Value) (x0_16 : Value) (x0_17 : Value) (x0_18 : Value) (x0_19 : Value) (x0_20 : Value) (x0_21 : Value) (x0_22 : Value) (x0_23 : Value) (x0_24 : Value) (x0_25 : Value) (x0_26 : Value) (x0_27 : Value) (x0_28 : Value) (x0_29 : Value) (x0_30 : Value) (x0_31 : Value) (x0_32 : Value) (x0_33 : Value) (x0_34 : Value) (x0_35 : Value) (x0_36 : Value) (x0_37 : Value) (x0_38 : Value) (x0_39 : Value) (x0_40 : Value) (R : Ending → Heap → Prop) (H : Heap) : F175 x0_0 x0_1 x0_2 x0_3 x0_4 x0_5 x0_6 x0_7 x0_8 x0_9 x0_10 x0_11 x0_12 x0_13 x0_14 x0_15 x0_16 x0_17 x0_18 x0_19 x0_20 x0_21 x0_22 x0_23 x0_24 x0_25 x0_26 x0_27 x0_28 x0_29 x0_30 x0_31 x0_32 x0_33 x0_34 x0_35 x0_36 x0_37 x0_38 x0_39 x0_40 R H = vc Tryz.prog (codeOf Tryz.f175) (.node none .leaf (.node none (.node (some ⟨[(12, 4)], [5, 6, 7, 8, 9, 10, 11]⟩) .leaf .leaf) .leaf)) (postV Tryz.prog Tryz.f175 R) ⟨#[Value.agg #[x0_0, x0_1, x0_2, x0_3, x0_4, x0_5, x0_6, x0_7, x0_8, x0_9, x0_10, x0_11, x0_12, x0_13, x0_14, x0_15, x0_16, x0_17, x0_18, x0_19, x0_20, x0_21, x0_22, x0_23, x0_24, x0_25, x0_26, x0_27, x0_28, x0_29, x0_30, x0_31, x0_32, x0_33, x0_34, x0_35, x0_36, x0_37, x0_38, x0_39, x0_40]] ++ Array.replicate (Tryz.f175.ntmps - 1) undef, []⟩ H := by kernel_rfl
theorem F175_calls {R : Ending → Heap → Prop} {H : Heap} (x0_0 : Value) (x0_1 : Value) (x0_2 : Value) (x0_3 : Value) (x0_4 : Value) (x0_5 : Value) (x0_6 : Value) (x0_7 : Value) (x0_8 : Value) (x0_9 : Value) (x0_10 : Value) (x0_11 : Value) (x0_12 : Value) (x0_13 : Value) (x0_14 : Value) (x0_15 : Value) (x0_16 : Value) (x0_17 : Value) (x0_18 : Value) (x0_19 : Value) (x0_20 : Value) (x0_21 : Value) (x0_22 : Value) (x0_23 : Value) (x0_24 : Value) (x0_25 : Value) (x0_26 : Value) (x0_27 : Value) (x0_28 : Value) (x0_29 : Value) (x0_30 : Value) (x0_31 : Value) (x0_32 : Value) (x0_33 : Value) (x0_34 : Value) (x0_35 : Value) (x0_36 : Value) (x0_37 : Value) (x0_38 : Value) (x0_39 : Value) (x0_40 : Value) (h : F175 x0_0 x0_1 x0_2 x0_3 x0_4 x0_5 x0_6 x0_7 x0_8 x0_9 x0_10 x0_11 x0_12 x0_13 x0_14 x0_15 x0_16 x0_17 x0_18 x0_19 x0_20 x0_21 x0_22 x0_23 x0_24 x0_25 x0_26 x0_27 x0_28 x0_29 x0_30 x0_31 x0_32 x0_33 x0_34 x0_35 x0_36 x0_37 x0_38 x0_39 x0_40 R H) : HCalls Tryz.prog 175 #[Value.agg #[x0_0, x0_1, x0_2, x0_3, x0_4, x0_5, x0_6, x0_7, x0_8, x0_9, x0_10, x0_11, x0_12, x0_13, x0_14, x0_15, x0_16, x0_17, x0_18, x0_19, x0_20, x0_21, x0_22, x0_23, x0_24, x0_25, x0_26, x0_27, x0_28, x0_29, x0_30, x0_31, x0_32, x0_33, x0_34, x0_35, x0_36, x0_37, x0_38, x0_39, x0_40]] H R :=
  calls_by (F := F175 x0_0 x0_1 x0_2 x0_3 x0_4 x0_5 x0_6 x0_7 x0_8 x0_9 x0_10 x0_11 x0_12 x0_13 x0_14 x0_15 x0_16 x0_17 x0_18 x0_19 x0_20 x0_21 x0_22 x0_23 x0_24 x0_25 x0_26 x0_27 x0_28 x0_29 x0_30 x0_31 x0_32 x0_33 x0_34 x0_35 x0_36 x0_37 x0_38 x0_39 x0_40 R H) (.node none .leaf (.node none (.node (some ⟨[(12, 4)], [5, 6, 7, 8, 9, 10, 11]⟩) .leaf .leaf) .leaf)) Tryz.func175 rfl (F175_eq x0_0 x0_1 x0_2 x0_3 x0_4 x0_5 x0_6 x0_7 x0_8 x0_9 x0_10 x0_11 x0_12 x0_13 x0_14 x0_15 x0_16 x0_17 x0_18 x0_19 x0_20 x0_21 x0_22 x0_23 x0_24 x0_25 x0_26 x0_27 x0_28 x0_29 x0_30 x0_31 x0_32 x0_33 x0_34 x0_35 x0_36 x0_37 x0_38 x0_39 x0_40 R H) h
end Go.Proofs.YtngploohhmfaiaaGreat.E
