/- My own texts, joined. -/
import Derived.Conc.MuLib
import Derived.KernelRfl
import Derived.Test.YtklppdodadkcnaaGreatProg
import Derived.Test.YtklppdodadkcnaaGreatIP8
/- Contracts of functions. -/
namespace Go.Proofs.YtklppdodadkcnaaGreat.E
open Go Go.Proofs
set_option linter.unusedVariables false
set_option linter.unusedSimpArgs false
/-- bollard/disk.Of$1 -/
theorem c_of1 (p : Hd) (s : TH) : TRet Tryz.prog 115 #[.slice p.1 128 p.2] s fun v s' => v = .bool false ∧ Ch [] s s' := by
  refine F115_calls _ _ _  ?_
  unfold F115
  refine ret_t ?_
  exact ⟨rfl, (Ch.refl [] s)⟩
/-- slices.IndexFunc[[][]byte,[]byte] -/
theorem c_ixRow {a : Option Addr} {n : Nat} (c : Nat) {hs : List Hd} {τ : Nat} {s : TH} (hq : Sl s a (hs.flatMap hd1) τ) (hn : hs.length = n) (hn2 : n ≤ 1000000) {g : Nat} {xf xc : Array Value} (hg : plainFn Tryz.prog g = true) (hp : ∀ (s1 : TH) (x : Hd), TRet Tryz.prog g (argsOf xf [.slice x.1 128 x.2] xc) s1 fun v s2 => v = .bool false ∧ Ch [] s1 s2) : TRet Tryz.prog 161 #[.slice a n c, .func (.func g) xf xc] s fun v s' => v = .int .i64 (-1) ∧ Ch [] s s' := by
  refine F161_calls _ _ _ _ _ _  ?_
  unfold F161
  refine ⟨fun vs H' => ∃ s' : TH, s'.h = H' ∧ ∃ m, vs = [.int .i64 m] ∧ ChL [] [] s s' ∧ (∃ k : Nat, m = k ∧ k ≤ n), fun vs H' => match vs with | [.int .i64 m] => ((n : Int) - m).toNat | _ => 0, ⟨s, rfl, _, rfl, ChL.refl _ _ _, ?_⟩, ?_⟩
  ·
    exact ⟨0, rfl, by omega⟩
  ·
    intro m _ _ _ _ _ _ _ _ _ _ _ _ H16 hI
    obtain ⟨s16, rfl, m_, hvs, c_1, k, rfl, hk⟩ := hI
    cases hvs
    have z_2 := c_1.size
    refine sB_d (fun hsB1 => ?_) (fun hsB1 => ?_)
    ·
      have hk2 : k < n := by omega
      obtain ⟨x, hx⟩ : ∃ x, hs[k]? = some x := ⟨hs[k], by simp [hn, hk2]⟩
      obtain ⟨a, rfl⟩ := hq.some (fun e => by have := bcell hx; rw [e] at this; simp at this)
      refine nz_i ?_
      refine ask_t (by omega) ?_
      have q_3 := hq.mv c_1 (tagL (by simp <;> omega) (by simp))
      refine ld_sl q_3 (by rw [Int.toNat_natCast, Nat.mul_one]; exact bcell hx) ?_
      set_option maxRecDepth 4000 in
      refine dSl_i (a := x.1) (n := 128) (c := x.2) ?_
      rw [gB_eq hg]
      refine tcall (hp _ x) ?_
      rintro _ s24 ⟨rfl, c_4⟩
      have z_5 := c_4.size
      refine dBl_i ?_
      refine sB_f (by rfl) ?_
      refine wr_t (by omega) ?_
      refine ⟨⟨s24, rfl, _, rfl, (((ChL.refl [] [] s).chl c_1 (by simp) (by simp <;> omega)).ch c_4 (by simp)), ?_⟩, ?_⟩
      ·
        exact ⟨k + 1, by omega, by omega⟩
      ·
        simp only []; omega
    ·
      refine ret_t ?_
      exact ⟨rfl, ((Ch.refl [] s).chl c_1 (by simp) (by simp <;> omega))⟩
/-- slices.ContainsFunc[[][]byte,[]byte] -/
theorem c_ctRow {a : Option Addr} {n : Nat} (c : Nat) {hs : List Hd} {τ : Nat} {s : TH} (hq : Sl s a (hs.flatMap hd1) τ) (hn : hs.length = n) (hn2 : n ≤ 1000000) : TRet Tryz.prog 116 #[.slice a n c, .func (.func 115) #[] #[]] s fun v s' => v = .bool false ∧ Ch [] s s' := by
  refine F116_calls _ _ _ _ _ _  ?_
  unfold F116
  refine tcall (c_ixRow c hq hn hn2 (by kernel_rfl) (fun s1 x => c_of1 x s1)) ?_
  rintro _ s2 ⟨rfl, c_1⟩
  have z_2 := c_1.size
  refine dInt_i ?_
  refine ret_t ?_
  exact ⟨rfl, ((Ch.refl [] s).ch c_1 (by simp))⟩
/-- bollard/disk.image -/
theorem c_image (T : Nat) {a : Option Addr} {n : Nat} (c : Nat) {hs : List Hd} {bs : List (List UInt8)} {τ τb : Nat} {s : TH} (hq : Sl s a (hs.flatMap hd1) τ) (hb : BRel s τb hs bs) (hn : hs.length = n) (hn2 : n ≤ 2048) (h1 : τ ≠ T + 1) (h2 : τb ≠ T + 1) : TRet Tryz.prog 117 #[.slice a n c] s fun v s' => ∃ pa pc hs', v = .slice pa n pc ∧ Ch [T + 1] s s' ∧ Own s' pa n pc 85 1 (hs'.flatMap hd1) (T + 1) ∧ BRel s' (T + 3) hs' bs := by
  refine F117_calls _ _ _  ?_
  unfold F117
  refine ⟨fun vs H' => ∃ s' : TH, s'.h = H' ∧ ∃ pa pn pc m, vs = [.slice pa pn pc, .int .i64 m] ∧ ChL [T + 1] [] s s' ∧ (∃ (k : Nat) (hs' : List Hd), m = k ∧ pn = k ∧ k ≤ n ∧ Own s' pa k pc 85 1 (hs'.flatMap hd1) (T + 1) ∧ BRel s' (T + 3) hs' (bs.take k)), fun vs H' => match vs with | [.slice pa pn pc, .int .i64 m] => ((n : Int) - m).toNat | _ => 0, ⟨s, rfl, _, _, _, _, rfl, ChL.refl _ _ _, ?_⟩, ?_⟩
  ·
    exact ⟨0, [], rfl, rfl, by omega, Own.nil _ _ _ _, BRel.nil _ _⟩
  ·
    intro pa pn pc m _ _ _ _ _ _ _ _ _ _ H17 hI
    obtain ⟨s17, rfl, pa_, pn_, pc_, m_, hvs, c_1, k, hs', rfl, rfl, hk, rows_3, brel_4⟩ := hI
    cases hvs
    have z_2 := c_1.size
    refine sB_d (fun hsB1 => ?_) (fun hsB1 => ?_)
    ·
      have hk2 : pn < n := by omega
      obtain ⟨x, hx⟩ : ∃ x, hs[pn]? = some x := ⟨hs[pn], by simp [hn, hk2]⟩
      obtain ⟨b, hbk⟩ : ∃ b, bs[pn]? = some b := ⟨bs[pn]'(by rw [← hb.len, hn]; exact hk2), by simp⟩
      obtain ⟨a, rfl⟩ := hq.some (fun e => by have := bcell hx; rw [e] at this; simp at this)
      refine nz_i ?_
      refine ask_t (by omega) ?_
      have q_5 := hq.mv c_1 (tagL (by simp <;> omega) (by simp))
      refine ld_sl q_5 (by rw [Int.toNat_natCast, Nat.mul_one]; exact bcell hx) ?_
      refine dSl_i ?_
      have qb_6 := hb.mv c_1 (tagL (by simp <;> omega) (by simp))
      refine tcall (c_clone (T + 3) _ (qb_6.at_ _ _ _ hx hbk).sl (qb_6.at_ _ _ _ hx hbk).len (fun h => by obtain ⟨y, hy⟩ := (hb.at_ _ _ _ hx hbk).ne; rw [h] at hy; cases hy) (by omega)) ?_
      rintro _ s25 ⟨xa2, xc2, rfl, c_7, nx_9, hxn⟩
      have z_8 := c_7.size
      refine dSl_i ?_
      refine al_t 0 fun r29 s30 hr29 b_10 c_11 z_12 => ?_
      have rows_13 := rows_3.mv c_7 (tagn (by simp))
      have rows_14 := rows_13.mv c_11 (tagn (by simp))
      refine app_i u49 in85 rfl rows_14 b_10.sl (m := 1) (k := 1) rfl (by intro u hu; simp at hu; subst hu; rfl) (by simp) (by unfold maxLen; omega) fun s34 pa2 pc2 rows_17 c_150 _ => ?_
      have c_15 := c_150.ch (T := [T + 1]) rows_14 (by simp)
      have z_16 := c_15.size
      refine dSl_i ?_
      refine wr_t (by omega) ?_
      refine ⟨⟨s34, rfl, _, _, _, _, rfl, (((((ChL.refl [T + 1] [] s).chl c_1 (by simp) (by simp <;> omega)).ch c_7 (by simp)).ch c_11 (by simp)).ch c_15 (by simp)), ?_⟩, ?_⟩
      ·
        have brel_18 := brel_4.mv c_7 (tagn (by simp))
        have brel_19 := brel_18.mv c_11 (tagn (by simp))
        have brel_20 := brel_19.mv c_15 (tagn (by intro h; simp only [List.mem_cons, List.not_mem_nil, or_false] at h <;> omega))
        have nx_21 := nx_9.mv c_11 (tagn (by simp))
        have nx_22 := nx_21.mv c_15 (tagn (by intro h; simp only [List.mem_cons, List.not_mem_nil, or_false] at h <;> omega))
        exact ⟨pn + 1, hs' ++ [(xa2, xc2)], by omega, by omega, by omega, by simpa [hd1] using rows_17, by rw [List.take_add_one, hbk]; exact brel_20.snoc ⟨nx_22.sl, (hb.at_ _ _ _ hx hbk).len⟩⟩
      ·
        simp only []; omega
    ·
      refine ret_t ?_
      obtain rfl : pn = n := by omega
      exact ⟨pa, pc, hs', rfl, ((Ch.refl [T + 1] s).chl c_1 (by simp) (by simp <;> omega)), rows_3, by have h := brel_4; rw [List.take_of_length_le (by rw [← hb.len, hn]; omega)] at h; exact h⟩
def diskOf (bs : List (List UInt8)) : DiskM := ⟨bs, [], fun _ => 0, 0⟩
/-- bollard/disk.Of -/
theorem c_of (T : Nat) {a : Option Addr} {n : Nat} (c : Nat) {hs : List Hd} {bs : List (List UInt8)} {τ τb : Nat} {s : TH} (hT : 10 ≤ T) (hq : Sl s a (hs.flatMap hd1) τ) (hb : BRel s τb hs bs) (hn : hs.length = n) (hn2 : 1 ≤ n ∧ n ≤ 2048) (h1 : τ ≠ T + 1) (h2 : τb ≠ T + 1) : TRet Tryz.prog 55 #[.slice a n c] s fun v s' => ∃ d, v = .tuple #[.pointer (some ⟨d, 0, none⟩), .int .i64 0] ∧ Ch [T + 1] s s' ∧ Disk s' d T (diskOf bs) := by
  refine F55_calls _ _ _  ?_
  unfold F55
  refine jn_u ?_
  refine sB_d (fun hsB1 => by exfalso; omega) (fun hsB1 => ?_)
  refine sB_d (fun hsB2 => by exfalso; omega) (fun hsB2 => ?_)
  refine tcall (c_ctRow c hq hn (by omega)) ?_
  rintro _ s29 ⟨rfl, c_1⟩
  have z_2 := c_1.size
  refine dBl_i ?_
  intro _ _ _ _ _ _ _ _ _ _ _ _
  refine dBl_i ?_
  refine sB_f (by rfl) ?_
  have q_3 := hq.mv c_1 (tagn (by simp))
  have qb_4 := hb.mv c_1 (tagn (by simp))
  refine tcall (c_image T c q_3 qb_4 hn hn2.2 h1 h2) ?_
  rintro _ s17 ⟨pa, pc, hs', rfl, c_5, rows_7, brel_8⟩
  have z_6 := c_5.size
  refine dSl_i ?_
  refine alm_t (Value.int .i64) (T + 4) fun r21 s22 hr21 m_9 c_10 z_11 => ?_
  refine al_t T fun r23 s24 hr23 b_12 c_13 z_14 => ?_
  refine ret_t ?_
  have rows_15 := rows_7.mv c_10 (tagn (by simp))
  have rows_16 := rows_15.mv c_13 (tagn (by simp))
  have brel_17 := brel_8.mv c_10 (tagn (by simp))
  have brel_18 := brel_17.mv c_13 (tagn (by simp))
  have r21_19 := m_9.ch c_13 (by simp)
  have hl : bs.length = n := by rw [← hb.len, hn]
  subst hl
  exact ⟨r23, rfl, (((((Ch.refl [T + 1] s).ch c_1 (by simp)).ch c_5 (by simp)).ch c_10 (by simp)).ch c_13 (by simp)), pa, pc, none, 0, hs', [], r21, [], ⟨by simpa [diskOf] using b_12, by simpa [diskOf] using rows_16, brel_18, Own.nil _ _ _ _, QRel.nil _ _, r21_19, fun b => rfl, by simp [diskOf]; omega, by simp [diskOf], fun m hm => by simp [diskOf] at hm⟩⟩
end Go.Proofs.YtklppdodadkcnaaGreat.E
/- The numbers under which this program holds sync.Mutex's texts, and that it holds them. -/
namespace Go.Proofs
abbrev Tryz.muLink : Go.Conc.Locks.MuLink := { lock := 123, unlock := 62, ilock := 162, iunlock := 124, lockSlow := 186, unlockSlow := 166, disable := 164, enable := 167, acquire := 185, relMerge := 163, cas32 := 184, add32 := 165, tMutex := 68, tIMutex := 66, tPMutex := 204, tPIMutex := 238, tPI32 := 242, tUP := 240, tNoCopy := 63, tU32 := 64 }
theorem Tryz.muLib : Go.Conc.Locks.MuLib Tryz.prog Tryz.muLink :=
  ⟨Tryz.func123, Tryz.func62, Tryz.func162, Tryz.func124, Tryz.func164, Tryz.func167, Tryz.func185, Tryz.func163, Tryz.func184, Tryz.func165, Tryz.underlying66, Tryz.runUnderlying66, Tryz.sizeOf66, Tryz.isAgg66, Tryz.zeroValue66, Tryz.underlying68, Tryz.runUnderlying68, Tryz.sizeOf68, Tryz.isAgg68, Tryz.zeroValue68, Tryz.underlying204, Tryz.runUnderlying204, Tryz.sizeOf204, Tryz.isAgg204, Tryz.zeroValue204, Tryz.underlying238, Tryz.runUnderlying238, Tryz.sizeOf238, Tryz.isAgg238, Tryz.zeroValue238, Tryz.underlying242, Tryz.runUnderlying242, Tryz.sizeOf242, Tryz.isAgg242, Tryz.zeroValue242, Tryz.underlying240, Tryz.runUnderlying240, Tryz.sizeOf240, Tryz.isAgg240, Tryz.zeroValue240, Tryz.underlying63, Tryz.runUnderlying63, Tryz.sizeOf63, Tryz.isAgg63, Tryz.zeroValue63, Tryz.underlying21, Tryz.runUnderlying21, Tryz.sizeOf21, Tryz.isAgg21, Tryz.zeroValue21, (by kernel_rfl)⟩
end Go.Proofs
/- Contracts of functions. -/
namespace Go.Proofs.YtklppdodadkcnaaGreat.E
open Go Go.Proofs
set_option linter.unusedVariables false
set_option linter.unusedSimpArgs false
/-- a volume that no call made -/
structure NoV (s : TH) (p : Option Addr) (τ : Nat) : Prop where
  h : p = none ∨ ∃ c, p = some ⟨c, 0, none⟩ ∧ Blk s c [.int .i32 0, .int .u32 0, .pointer none, .pointer none, .pointer none, .map none, .bool false, .bool false, .int .i64 0, .map none] 76 τ
theorem NoV.mv {s s' : TH} {p : Option Addr} {τ : Nat} {B : Nat → Prop} (h : NoV s p τ) (c : Chg B s s') (hn : ∀ j, j < s.h.size → s.g j = τ → ¬ B j) : NoV s' p τ := by
  rcases h.h with h | ⟨r, h1, h2⟩
  · exact ⟨.inl h⟩
  · exact ⟨.inr ⟨r, h1, h2.mv c (hn r h2.lt h2.tag)⟩⟩
-- no form: (*bollard/volume.Volume).Old
-- no form: (*bollard/volume.Volume).Write
-- no form: (*bollard/volume.Volume).Complete
-- no form: (*bollard/volume.Volume).Sync
-- no form: (*bollard/volume.Volume).Freeze
-- no form: (*bollard/volume.Volume).Thaw
-- no form: (*bollard/volume.Volume).IsDone
-- no form: (*bollard/volume.Volume).Broken
-- no form: (*bollard/volume.Volume).Kept
-- no form: (*bollard/volume.Volume).Dirty
-- no form: (*bollard/volume.Volume).Pending
-- no form: (*bollard/volume.Volume).Ready
-- no form: (*bollard/volume.Volume).Way
end Go.Proofs.YtklppdodadkcnaaGreat.E
/- Contracts of functions. -/
namespace Go.Proofs.YtklppdodadkcnaaGreat.E
open Go Go.Proofs
set_option linter.unusedVariables false
set_option linter.unusedSimpArgs false
/-- bollard/cache.New -/
theorem c_cnew (T d : Nat) (D : DiskM) (T2 : Nat) (b : Int) (s : TH) (hT : 10 ≤ T) (hd : Disk s d T D) (hb : 1 ≤ b ∧ b ≤ 64) : TRet Tryz.prog 120 #[.pointer (some ⟨d, 0, none⟩), .int .i64 b] s fun v s' => ∃ c r, v = .tuple #[.pointer (some ⟨c, 0, none⟩), .int .i64 0] ∧ Ch [] s s' ∧ Blk s' c [.pointer (some ⟨d, 0, none⟩), .int .i64 b, .map (some r), .int .i64 0, .int .i64 0, .int .i64 0] 234 T2 ∧ MapK (Value.int .i64) s' r [] (T2 + 1) := by
  have hnb : 1 ≤ D.blocks.length := by obtain ⟨_, _, _, _, _, _, _, _, h⟩ := id hd; exact h.nb.1
  refine F120_calls _ _  ?_
  unfold F120
  refine tcall (c_blocks _ _ _ _ hT hd) ?_
  rintro _ s2 ⟨rfl, c_1⟩
  have z_2 := c_1.size
  refine dInt_i ?_
  refine sB_eq (fun hsB1 => ?_) (fun hsB1 => ?_)
  ·
    refine ret_t ?_
    omega
  ·
    refine jn_u ?_
    refine sB_d (fun hsB2 => by exfalso; omega) (fun hsB2 => ?_)
    intro _ _ _ _ _
    refine dBl_i ?_
    first | refine sB_d (fun hsB3 => ?_) (fun hsB3 => ?_) | refine sB_nd (fun hsB3 => ?_) (fun hsB3 => ?_) | refine sB_n (fun hsB3 => ?_) (fun hsB3 => ?_) | refine sB_i (fun hsB3 => ?_) (fun hsB3 => ?_)
    ·
      refine ret_t ?_
      simp at hsB3; omega
    ·
      refine alm_t (Value.int .i64) (T2 + 1) fun r12 s13 hr12 m_3 c_4 z_5 => ?_
      refine al_t T2 fun r14 s15 hr14 b_6 c_7 z_8 => ?_
      refine ret_t ?_
      have r12_9 := m_3.ch c_7 (by simp)
      exact ⟨r14, r12, rfl, ((((Ch.refl [] s).ch c_1 (by simp)).ch c_4 (by simp)).ch c_7 (by simp)), b_6, r12_9⟩
/-- bollard/patch.New -/
theorem c_pnew (T : Nat) (s : TH) : TRet Tryz.prog 121 #[] s fun v s' => ∃ p r1 r2, v = .pointer (some ⟨p, 0, none⟩) ∧ Ch [] s s' ∧ Blk s' p [.int .i64 0, .map (some r1), .map (some r2), .bool true] 218 T ∧ MapK (Value.int .i64) s' r1 [] (T + 1) ∧ MapK (Value.int .i64) s' r2 [] (T + 2) := by
  refine F121_calls  ?_
  unfold F121
  refine alm_t (Value.int .i64) (T + 1) fun r1 s2 hr1 m_1 c_2 z_3 => ?_
  refine alm_t (Value.int .i64) (T + 2) fun r3 s4 hr3 m_4 c_5 z_6 => ?_
  refine al_t T fun r5 s6 hr5 b_7 c_8 z_9 => ?_
  refine ret_t ?_
  have r1_10 := m_1.ch c_5 (by simp)
  have r1_11 := r1_10.ch c_8 (by simp)
  have r3_12 := m_4.ch c_8 (by simp)
  exact ⟨r5, r1, r3, rfl, ((((Ch.refl [] s).ch c_2 (by simp)).ch c_5 (by simp)).ch c_8 (by simp)), b_7, r1_11, r3_12⟩
/-- a disk that no call made -/
structure NoD (s : TH) (p : Option Addr) (τ : Nat) : Prop where
  h : p = none ∨ ∃ c, p = some ⟨c, 0, none⟩ ∧ Blk s c [.slice none 0 0, .slice none 0 0, .map none, .int .i64 0] 192 τ
theorem NoD.mv {s s' : TH} {p : Option Addr} {τ : Nat} {B : Nat → Prop} (h : NoD s p τ) (c : Chg B s s') (hn : ∀ j, j < s.h.size → s.g j = τ → ¬ B j) : NoD s' p τ := by
  rcases h.h with h | ⟨r, h1, h2⟩
  · exact ⟨.inl h⟩
  · exact ⟨.inr ⟨r, h1, h2.mv c (hn r h2.lt h2.tag)⟩⟩
/-- (*bollard/volume.Volume).held -/
theorem c_vheld (r τ : Nat) {d : Addr} {v3 v4 v5 v6 v7 v8 v9 : Value} {s : TH} (hr : Blk s r [.int .i32 0, .int .u32 0, .pointer (some d), v3, v4, v5, v6, v7, v8, v9] 76 τ) : TRet Tryz.prog 61 #[.pointer (some ⟨r, 0, none⟩)] s fun v s' => v = .bool true ∧ Ch [τ] s s' ∧ Blk s' r [.int .i32 1, .int .u32 0, .pointer (some d), v3, v4, v5, v6, v7, v8, v9] 76 τ := by
  refine F61_calls _  ?_
  unfold F61
  refine sB_f (by rfl) ?_
  refine nz_i ?_
  refine tcall (c_mlock Tryz.muLib hr rfl) ?_
  rintro _ s3 ⟨rfl, c_1, v_3⟩
  have z_2 := c_1.size
  refine nz_i ?_
  refine ld_t v_3 rfl ?_
  refine dPtr_i ?_
  refine sB_f (by rfl) ?_
  refine ret_t ?_
  exact ⟨rfl, ((Ch.refl [τ] s).ch c_1 (by simp)), v_3⟩
-- no form: bollard/bollardlaw09.begun
end Go.Proofs.YtklppdodadkcnaaGreat.E
/- Contracts of functions. -/
namespace Go.Proofs.YtklppdodadkcnaaGreat.E
open Go Go.Proofs Go.RowKit Go.Maps Go.Shelf Go.Sort
set_option linter.unusedVariables false
set_option linter.unusedSimpArgs false
/-- what a cache without pins holds is what the disk has -/
structure Coh (C : CacheM) (bs : List (List UInt8)) : Prop where
  eq : ∀ x ∈ C.l, bs[x.blk.toNat]? = some x.by_
  pin : ∀ x ∈ C.l, x.pins = 0
structure CacheV (s : TH) (c T d : Nat) (bs : List (List UInt8)) (n : Int) : Prop where
  p : ∃ C, Cache s c T d C ∧ Coh C bs ∧ C.clock ≤ n ∧ C.hits ≤ n ∧ C.misses ≤ n
theorem CacheV.mv {s s' : TH} {c T d : Nat} {bs : List (List UInt8)} {n : Int} {B : Nat → Prop} (h : CacheV s c T d bs n) (k : Chg B s s') (hn : ∀ j, j < s.h.size → T ≤ s.g j → s.g j < T + 10 → ¬ B j) : CacheV s' c T d bs n := by
  obtain ⟨C, h1, h2⟩ := h
  exact ⟨C, h1.mv k hn, h2⟩
theorem Coh.free {C : CacheM} {bs : List (List UInt8)} (h : Coh C bs) (hb : 1 ≤ C.bound) : ∃ l, C.room = some l ∧ l.Sublist C.l := by
  have : C.room ≠ none := by
    unfold CacheM.room
    by_cases hl : (C.l.length : Int) < C.bound
    · rw [if_pos hl]; simp
    · rw [if_neg hl]
      have hne : C.l ≠ [] := fun e => by rw [e] at hl; simp at hl; omega
      obtain ⟨x, l, e⟩ := List.exists_cons_of_ne_nil hne
      unfold freeB
      rw [e, List.find?_cons, show (x.pins == 0) = true by rw [h.pin x (by rw [e]; simp)]; rfl]
      simp
  cases hr : C.room with
  | none => exact absurd hr this
  | some l => exact ⟨l, rfl, room_mem hr⟩
theorem Coh.get {C : CacheM} {bs : List (List UInt8)} {b : Int} {y : List UInt8} (h : Coh C bs) (hb : 1 ≤ C.bound) (hy : bs[b.toNat]? = some y) :
    (C.get bs b).2 = 0 ∧ Coh (C.get bs b).1 bs ∧ (C.get bs b).1.clock = C.clock + 1 ∧ (C.get bs b).1.hits ≤ C.hits + 1 ∧ (C.get bs b).1.misses ≤ C.misses + 1 := by
  cases hf : C.find b with
  | some x =>
    obtain ⟨hx, rfl⟩ := find_mem hf
    rw [get_hit hf]
    refine ⟨rfl, ⟨fun z hz => ?_, fun z hz => ?_⟩, rfl, Int.le_refl _, by show C.misses ≤ C.misses + 1; omega⟩
    · rcases List.mem_append.1 hz with hz | hz
      · exact h.eq z (rmB_mem.1 hz).1
      · rw [List.mem_singleton] at hz; subst hz; exact h.eq x hx
    · rcases List.mem_append.1 hz with hz | hz
      · exact h.pin z (rmB_mem.1 hz).1
      · rw [List.mem_singleton] at hz; subst hz; exact h.pin x hx
  | none =>
    obtain ⟨l, hr, hs⟩ := h.free hb
    rw [get_load hf hr hy]
    refine ⟨rfl, ⟨fun z hz => ?_, fun z hz => ?_⟩, rfl, by show C.hits ≤ C.hits + 1; omega, Int.le_refl _⟩
    · rcases List.mem_append.1 hz with hz | hz
      · exact h.eq z (hs.subset hz)
      · rw [List.mem_singleton] at hz; subst hz; exact hy
    · rcases List.mem_append.1 hz with hz | hz
      · exact h.pin z (hs.subset hz)
      · rw [List.mem_singleton] at hz; subst hz; rfl
theorem Coh.held {C : CacheM} {bs : List (List UInt8)} {b : Int} {y : List UInt8} (h : Coh C bs) (hb : 1 ≤ C.bound) (hy : bs[b.toNat]? = some y) : (C.get bs b).1.bytes b = y := by
  have h1 := (h.get hb hy).2.1
  unfold CacheM.bytes
  have hfd : ∃ x, (C.get bs b).1.find b = some x := by
    cases hf : C.find b with
    | some x =>
      obtain ⟨hx, rfl⟩ := find_mem hf
      rw [get_hit hf]
      have : ((rmB C.l x.blk ++ [{ x with used := C.clock + 1 }] : List BufM).find? fun z : BufM => z.blk == x.blk).isSome = true := List.find?_isSome.2 ⟨({ x with used := C.clock + 1 } : BufM), by simp, by simp⟩
      exact Option.isSome_iff_exists.1 this
    | none =>
      obtain ⟨l, hr, hs⟩ := h.free hb
      rw [get_load hf hr hy]
      have : ((l ++ [⟨b, y, 0, C.clock + 1⟩] : List BufM).find? fun z : BufM => z.blk == b).isSome = true := List.find?_isSome.2 ⟨(⟨b, y, 0, C.clock + 1⟩ : BufM), by simp, by simp⟩
      exact Option.isSome_iff_exists.1 this
  obtain ⟨x, hx⟩ := hfd
  rw [hx]
  obtain ⟨hm, hb2⟩ := find_mem hx
  have h2 := h1.eq x hm
  rw [hb2, hy] at h2
  exact (Option.some.inj h2).symm
theorem CacheP.bnd' {s : TH} {c T d : Nat} {C : CacheM} (h : Cache s c T d C) : 1 ≤ C.bound := by
  obtain ⟨⟨r, m, bp, bh, hp⟩, ok⟩ := h; exact hp.bnd.1
theorem c_vcGet (τ : Nat) {c T d Td : Nat} {D : DiskM} {b n : Int} {l : List UInt8} {s : TH} (hT : 10 ≤ T) (hTd : 10 ≤ Td) (hTT : T + 10 ≤ Td ∨ Td + 10 ≤ T) (hc : CacheV s c T d D.blocks n) (hd : Disk s d Td D) (hb : D.has b) (hl : D.blocks[b.toNat]? = some l) (hf : D.fails b ≤ 0) (hn : n < 9000000000000000000) :
    TRet Tryz.prog 125 #[.pointer (some ⟨c, 0, none⟩), .int .i64 b] s fun v s' => ∃ a cc, v = .tuple #[.slice a 128 cc, .int .i64 0] ∧ Ch [T, T + 1, T + 2, T + 3] s s' ∧ CacheV s' c T d D.blocks (n + 1) ∧ Own s' a 128 cc 5 1 (bvs l) τ := by
  obtain ⟨C, h1, h2, h3, h4, h5⟩ := hc
  have hbd := CacheP.bnd' h1
  refine (c_Get c T d Td C D b τ s hT hTd hTT h1 hd (fun _ => ⟨l, hl⟩) hf (by omega)).mono ?_
  rintro v s' ⟨a, k, cc, e, rfl, hch, hres⟩
  rcases hres with ⟨g1, _⟩ | ⟨g1, g2, g3, g4⟩
  · exact absurd hb g1
  · have g5 := h2.get hbd hl
    rw [g5.1] at g2
    subst g2
    obtain ⟨rfl, g6, g7⟩ := g4 rfl
    rw [h2.held hbd hl] at g6
    exact ⟨a, cc, rfl, hch, ⟨_, g3, g5.2.1, by rw [g5.2.2.1]; omega, by have := g5.2.2.2.1; omega, by have := g5.2.2.2.2; omega⟩, g6⟩
theorem Coh.put {C : CacheM} {bs : List (List UInt8)} {b : Int} {y : List UInt8} (h : Coh C bs) (h0 : 0 ≤ b) (hb : b < bs.length) (hr : ∀ x ∈ C.l, 0 ≤ x.blk) : Coh (C.put b y) (bs.set b.toNat y) := by
  refine ⟨fun x hx => ?_, fun x hx => ?_⟩
  · obtain ⟨z, hz, ⟨h1, rfl⟩ | ⟨h1, rfl⟩⟩ := updB_mem hx
    · have := hr _ hz
      rw [List.getElem?_set_ne (by omega)]; exact h.eq _ hz
    · show (bs.set b.toNat y)[z.blk.toNat]? = some y
      rw [h1, List.getElem?_set_self (by omega)]
  · obtain ⟨z, hz, ⟨h1, rfl⟩ | ⟨h1, rfl⟩⟩ := updB_mem hx
    · exact h.pin _ hz
    · exact h.pin z hz
/-- a write on the way -/
structure WayM where
  blk : Int
  by_ : List UInt8
  ids : List Int
structure OldM where
  on : Bool
  broken : Bool
  room : Int
  kept : List (Int × List UInt8)
structure VolM where
  D : DiskM
  P : PatchM
  way : List (Int × WayM)
  old : OldM
  n : Int
def WayV (s : TH) (τ : Nat) (v : Value) (w : WayM) : Prop := ∃ ba bc ia ic, v = .agg #[.int .i64 w.blk, .slice ba 128 bc, .slice ia w.ids.length ic] ∧ Sl s ba (bvs w.by_) τ ∧ Sl s ia (ivs w.ids) τ ∧ w.by_.length = 128
theorem WayV.mv {s s' : TH} {τ : Nat} {v : Value} {w : WayM} {B : Nat → Prop} (h : WayV s τ v w) (c : Chg B s s') (hn : ∀ j, j < s.h.size → s.g j = τ → ¬ B j) : WayV s' τ v w := by
  obtain ⟨ba, bc, ia, ic, h1, h2, h3, h4⟩ := h
  exact ⟨ba, bc, ia, ic, h1, h2.mv c hn, h3.mv c hn, h4⟩
def WMap (s : TH) (τ : Nat) : List (Int × Value) → List (Int × WayM) → Prop
  | [], [] => True
  | e :: m, p :: l => e.1 = p.1 ∧ WayV s τ e.2 p.2 ∧ WMap s τ m l
  | _, _ => False
theorem WMap.mv {s s' : TH} {τ : Nat} {B : Nat → Prop} : ∀ {m : List (Int × Value)} {l : List (Int × WayM)}, WMap s τ m l → Chg B s s' → (∀ j, j < s.h.size → s.g j = τ → ¬ B j) → WMap s' τ m l
  | [], [], h, c, hn => trivial
  | e :: m, p :: l, h, c, hn => ⟨h.1, h.2.1.mv c hn, WMap.mv h.2.2 c hn⟩
  | [], _ :: _, h, _, _ => h.elim
  | _ :: _, [], h, _, _ => h.elim
theorem WMap.keys {s : TH} {τ : Nat} : ∀ {m : List (Int × Value)} {l : List (Int × WayM)}, WMap s τ m l → m.map (·.1) = l.map (·.1)
  | [], [], _ => rfl
  | e :: m, p :: l, h => by rw [List.map_cons, List.map_cons, h.1, WMap.keys h.2.2]
  | [], _ :: _, h => h.elim
  | _ :: _, [], h => h.elim
theorem WMap.mem_ {s : TH} {τ : Nat} : ∀ {m : List (Int × Value)} {l : List (Int × WayM)} {k : Int} {v : Value}, WMap s τ m l → (k, v) ∈ m → ∃ p ∈ l, p.1 = k ∧ WayV s τ v p.2
  | [], [], k, v, h, hm => by cases hm
  | e :: m, q :: l, k, v, h, hm => by
    rcases List.mem_cons.1 hm with rfl | hm
    · exact ⟨q, by simp, h.1.symm, h.2.1⟩
    · obtain ⟨p, h1, h2⟩ := WMap.mem_ h.2.2 hm
      exact ⟨p, List.mem_cons_of_mem _ h1, h2⟩
  | [], _ :: _, _, _, h, _ => h.elim
  | _ :: _, [], _, _, h, _ => h.elim
theorem WMap.get {s : TH} {τ : Nat} : ∀ {m : List (Int × Value)} {l : List (Int × WayM)} {k : Nat} {p : Int × WayM}, WMap s τ m l → (l.map (·.1)).Nodup → l[k]? = some p → ∃ v, mget p.1 m = some v ∧ WayV s τ v p.2
  | [], [], k, p, h, hn, hp => by simp at hp
  | e :: m, q :: l, k, p, h, hn, hp => by
    obtain ⟨ek, ev⟩ := e
    have hk : ek = q.1 := h.1
    rw [List.map_cons, List.nodup_cons] at hn
    cases k with
    | zero => simp at hp; subst hp; exact ⟨ev, by rw [mget, if_pos hk.symm], h.2.1⟩
    | succ k =>
      have hp : l[k]? = some p := by simpa using hp
      obtain ⟨v, h1, h2⟩ := WMap.get h.2.2 hn.2 hp
      have hne : p.1 ≠ ek := fun e => hn.1 (by rw [← hk, ← e]; exact List.mem_map.2 ⟨p, List.mem_of_getElem? hp, rfl⟩)
      exact ⟨v, by rw [mget, if_neg hne]; exact h1, h2⟩
  | [], _ :: _, _, _, h, _, _ => h.elim
  | _ :: _, [], _, _, h, _, _ => h.elim
theorem WMap.snoc {s : TH} {τ : Nat} {v : Value} {p : Int × WayM} (hv : WayV s τ v p.2) : ∀ {m : List (Int × Value)} {l : List (Int × WayM)}, WMap s τ m l → p.1 ∉ l.map (·.1) → WMap s τ (mset p.1 v m) (l ++ [p])
  | [], [], h, _ => ⟨rfl, hv, trivial⟩
  | e :: m, q :: l, h, hn => by
    obtain ⟨k, x⟩ := e
    have hk : k = q.1 := h.1
    rw [List.map_cons, List.mem_cons, not_or] at hn
    show WMap s τ (if p.1 = k then (p.1, v) :: m else (k, x) :: mset p.1 v m) (q :: (l ++ [p]))
    rw [if_neg (by rw [hk]; exact hn.1)]
    exact ⟨h.1, h.2.1, WMap.snoc hv h.2.2 hn.2⟩
  | [], _ :: _, h, _ => h.elim
  | _ :: _, [], h, _ => h.elim
theorem WMap.del {s : TH} {τ : Nat} : ∀ {m : List (Int × Value)} {l : List (Int × WayM)} {k : Nat} {p : Int × WayM}, WMap s τ m l → (l.map (·.1)).Nodup → l[k]? = some p → WMap s τ (mdel p.1 m) (l.eraseIdx k)
  | [], [], k, p, h, hn, hp => by simp at hp
  | e :: m, q :: l, k, p, h, hn, hp => by
    obtain ⟨ek, ev⟩ := e
    have hk : ek = q.1 := h.1
    rw [List.map_cons, List.nodup_cons] at hn
    show WMap s τ (if p.1 = ek then m else (ek, ev) :: mdel p.1 m) _
    cases k with
    | zero => simp at hp; subst hp; rw [if_pos hk.symm]; exact h.2.2
    | succ k =>
      have hp : l[k]? = some p := by simpa using hp
      have hne : p.1 ≠ ek := fun e => hn.1 (by rw [← hk, ← e]; exact List.mem_map.2 ⟨p, List.mem_of_getElem? hp, rfl⟩)
      rw [if_neg hne]
      exact ⟨h.1, h.2.1, WMap.del h.2.2 hn.2 hp⟩
  | [], _ :: _, _, _, h, _, _ => h.elim
  | _ :: _, [], _, _, h, _, _ => h.elim
def KMap (s : TH) (τ : Nat) : List (Int × Value) → List (Int × List UInt8) → Prop
  | [], [] => True
  | e :: m, p :: l => e.1 = p.1 ∧ (∃ a c, e.2 = .slice a 128 c ∧ Sl s a (bvs p.2) τ ∧ p.2.length = 128) ∧ KMap s τ m l
  | _, _ => False
theorem KMap.mv {s s' : TH} {τ : Nat} {B : Nat → Prop} : ∀ {m : List (Int × Value)} {l : List (Int × List UInt8)}, KMap s τ m l → Chg B s s' → (∀ j, j < s.h.size → s.g j = τ → ¬ B j) → KMap s' τ m l
  | [], [], h, c, hn => trivial
  | e :: m, p :: l, ⟨h1, ⟨a, c0, h2, h3, h4⟩, h5⟩, c, hn => ⟨h1, ⟨a, c0, h2, h3.mv c hn, h4⟩, KMap.mv h5 c hn⟩
  | [], _ :: _, h, _, _ => h.elim
  | _ :: _, [], h, _, _ => h.elim
theorem KMap.keys {s : TH} {τ : Nat} : ∀ {m : List (Int × Value)} {l : List (Int × List UInt8)}, KMap s τ m l → m.map (·.1) = l.map (·.1)
  | [], [], _ => rfl
  | e :: m, p :: l, h => by rw [List.map_cons, List.map_cons, h.1, KMap.keys h.2.2]
  | [], _ :: _, h => h.elim
  | _ :: _, [], h => h.elim
def kfind (l : List (Int × List UInt8)) (b : Int) : Option (List UInt8) := (l.find? fun e => e.1 == b).map (·.2)
theorem KMap.get {s : TH} {τ : Nat} {b : Int} : ∀ {m : List (Int × Value)} {l : List (Int × List UInt8)}, KMap s τ m l →
    match kfind l b with
    | some y => ∃ a c, mget b m = some (.slice a 128 c) ∧ Sl s a (bvs y) τ ∧ y.length = 128
    | none => mget b m = none
  | [], [], h => by simp [kfind, mget]
  | e :: m, q :: l, h => by
    obtain ⟨ek, ev⟩ := e
    have hk : ek = q.1 := h.1
    obtain ⟨_, ⟨a, c, h2, h3, h4⟩, h5⟩ := h
    have ih := KMap.get (b := b) h5
    unfold kfind at ih ⊢
    rw [List.find?_cons]
    by_cases hq : q.1 = b
    · rw [show (q.1 == b) = true by simpa using hq]
      simp only [Option.map_some]
      exact ⟨a, c, by rw [mget, if_pos (by rw [hk, hq])]; exact congrArg some h2, h3, h4⟩
    · rw [show (q.1 == b) = false by simpa using hq]
      simp only [mget, if_neg (show ¬ b = ek by rw [hk]; exact fun e => hq e.symm)]
      exact ih
  | [], _ :: _, h => h.elim
  | _ :: _, [], h => h.elim
theorem KMap.snoc {s : TH} {τ : Nat} {a : Option Addr} {c : Nat} {b : Int} {y : List UInt8} (hv : Sl s a (bvs y) τ) (hy : y.length = 128) : ∀ {m : List (Int × Value)} {l : List (Int × List UInt8)}, KMap s τ m l → kfind l b = none → KMap s τ (mset b (.slice a 128 c) m) (l ++ [(b, y)])
  | [], [], h, _ => ⟨rfl, ⟨a, c, rfl, hv, hy⟩, trivial⟩
  | e :: m, q :: l, h, hn => by
    obtain ⟨k, x⟩ := e
    have hk : k = q.1 := h.1
    unfold kfind at hn
    rw [List.find?_cons] at hn
    by_cases hq : q.1 = b
    · rw [show (q.1 == b) = true by simpa using hq] at hn; simp at hn
    · rw [show (q.1 == b) = false by simpa using hq] at hn
      show KMap s τ (if b = k then (b, _) :: m else (k, x) :: mset b _ m) (q :: (l ++ [(b, y)]))
      rw [if_neg (by rw [hk]; exact fun e => hq e.symm)]
      exact ⟨h.1, h.2.1, KMap.snoc hv hy h.2.2 hn⟩
  | [], _ :: _, h, _ => h.elim
  | _ :: _, [], h, _ => h.elim
structure OMap (s : TH) (rk : Option Nat) (mk : List (Int × Value)) (τ : Nat) : Prop where
  at_ : ∀ r, rk = some r → MapK (Value.int .i64) s r mk τ
  no : rk = none → mk = []
theorem OMap.mv {s s' : TH} {rk : Option Nat} {mk : List (Int × Value)} {τ : Nat} {B : Nat → Prop} (h : OMap s rk mk τ) (c : Chg B s s') (hn : ∀ j, j < s.h.size → s.g j = τ → ¬ B j) : OMap s' rk mk τ :=
  ⟨fun r hr => (h.at_ r hr).mv c (hn r (h.at_ r hr).lt (h.at_ r hr).tag), h.no⟩
theorem olook_n {P : Program} {E : List PanicEntry → Heap → Prop} {T Kt Et : TypeId} {s : TH} {rk : Option Nat} {mk : List (Int × Value)} {τ : Nat} {z : Value} {b : Int} {K : Value → Heap → Prop} (ko : KeyOk P Kt (Value.int .i64)) (hT : P.underlying T = some (.map Kt Et)) (hz : ∀ w, (zeroValue Et).run P w = .ok z w) (h : OMap s rk mk τ) (hm : mget b mk = none) (hk : K (.tuple #[z, .bool false]) s.h) :
    semW P (Instr.lookup T (.map rk) (.int .i64 b) true) E s.h K := by
  cases rk with
  | none => exact lookn_ok ko hT hz b hk
  | some r => exact look_okn ko hT hz (h.at_ r rfl) b hm hk
theorem olook_s {P : Program} {E : List PanicEntry → Heap → Prop} {T Kt Et : TypeId} {s : TH} {rk : Option Nat} {mk : List (Int × Value)} {τ : Nat} {z v : Value} {b : Int} {K : Value → Heap → Prop} (ko : KeyOk P Kt (Value.int .i64)) (hT : P.underlying T = some (.map Kt Et)) (hz : ∀ w, (zeroValue Et).run P w = .ok z w) (h : OMap s rk mk τ) (hm : mget b mk = some v) (hk : K (.tuple #[v, .bool true]) s.h) :
    semW P (Instr.lookup T (.map rk) (.int .i64 b) true) E s.h K := by
  cases rk with
  | none => rw [h.no rfl] at hm; cases hm
  | some r => exact look_oks ko hT hz (h.at_ r rfl) b hm hk
theorem OMap.of {s : TH} {r : Nat} {mk : List (Int × Value)} {τ : Nat} (h : MapK (Value.int .i64) s r mk τ) : OMap s (some r) mk τ := ⟨fun r' e => by cases e; exact h, fun e => by cases e⟩
def sentOf (p : Int × WayM) : SentM := ⟨p.1, p.2.blk, p.2.by_⟩
structure VOk (V : VolM) : Prop where
  que : V.D.queue = V.way.map sentOf
  wid : ∀ p ∈ V.way, 1 ≤ p.1 ∧ p.1 ≤ V.D.last
  wsr : V.way.Pairwise fun x y => x.1 < y.1
  lst : 0 ≤ V.D.last ∧ V.D.last ≤ V.n
  n0 : 0 ≤ V.n ∧ V.n ≤ 1000000000000000000
  nof : ∀ b, V.D.fails b ≤ 0
  len : ∀ y ∈ V.D.blocks, y.length = 128
  wlen : V.way.length ≤ 64
  wids : ∀ p ∈ V.way, (p.2.ids.length : Int) ≤ 1000000
structure VolP (s : TH) (v d U : Nat) (V : VolM) (lk : Int) (c p rw : Nat) (rk : Option Nat) (mw mk : List (Int × Value)) : Prop where
  blk : Blk s v [.int .i32 lk, .int .u32 0, .pointer (some ⟨d, 0, none⟩), .pointer (some ⟨c, 0, none⟩), .pointer (some ⟨p, 0, none⟩), .map (some rw), .bool V.old.on, .bool V.old.broken, .int .i64 V.old.room, .map rk] 76 U
  wm : MapK (Value.int .i64) s rw mw (U + 1)
  wv : WMap s (U + 2) mw V.way
  kn : V.old.on = true → rk.isSome = true
  om : OMap s rk mk (U + 3)
  kv : KMap s (U + 4) mk V.old.kept
  dk : Disk s d (U + 10) V.D
  ca : CacheV s c (U + 20) d V.D.blocks V.n
  ps : PSet s p (U + 30) V.P
/-- a volume; one that is locked -/
structure VolL (s : TH) (v d U : Nat) (V : VolM) (lk : Int) : Prop where
  p : ∃ c p rw rk mw mk, VolP s v d U V lk c p rw rk mw mk
  ok : VOk V
theorem of_rng50 {s : TH} {T T' : Nat} {B : Nat → Prop} (hn : ∀ j, j < s.h.size → T ≤ s.g j → s.g j < T + 50 → ¬ B j) (h1 : T ≤ T') (h2 : T' + 10 ≤ T + 50) : ∀ j, j < s.h.size → T' ≤ s.g j → s.g j < T' + 10 → ¬ B j := fun j hj h3 h4 => hn j hj (by omega) (by omega)
theorem of_t50 {s : TH} {T τ : Nat} {B : Nat → Prop} (hn : ∀ j, j < s.h.size → T ≤ s.g j → s.g j < T + 50 → ¬ B j) (h1 : T ≤ τ) (h2 : τ < T + 50) : ∀ j, j < s.h.size → s.g j = τ → ¬ B j := fun j hj e => hn j hj (by omega) (by omega)
theorem rngn50 {s : TH} {T : Nat} {L : List Nat} (h : ∀ τ ∈ L, τ < T ∨ T + 50 ≤ τ) : ∀ j, j < s.h.size → T ≤ s.g j → s.g j < T + 50 → ¬ s.g j ∈ L := fun j _ h1 h2 h3 => by have := h _ h3; omega
theorem VolP.mv {s s' : TH} {v d U : Nat} {V : VolM} {lk : Int} {c p rw : Nat} {rk : Option Nat} {mw mk : List (Int × Value)} {B : Nat → Prop} (h : VolP s v d U V lk c p rw rk mw mk) (k : Chg B s s') (hn : ∀ j, j < s.h.size → U ≤ s.g j → s.g j < U + 50 → ¬ B j) : VolP s' v d U V lk c p rw rk mw mk :=
  ⟨h.blk.mv k (of_t50 hn (by omega) (by omega) v h.blk.lt h.blk.tag), h.wm.mv k (of_t50 hn (by omega) (by omega) rw h.wm.lt h.wm.tag), h.wv.mv k (of_t50 hn (by omega) (by omega)), h.kn, h.om.mv k (of_t50 hn (by omega) (by omega)), h.kv.mv k (of_t50 hn (by omega) (by omega)),
    h.dk.mv k (of_rng50 hn (by omega) (by omega)), h.ca.mv k (of_rng50 hn (by omega) (by omega)), h.ps.mv k (of_rng50 hn (by omega) (by omega))⟩
theorem VolL.mv {s s' : TH} {v d U : Nat} {V : VolM} {lk : Int} {B : Nat → Prop} (h : VolL s v d U V lk) (k : Chg B s s') (hn : ∀ j, j < s.h.size → U ≤ s.g j → s.g j < U + 50 → ¬ B j) : VolL s' v d U V lk := by
  obtain ⟨⟨c, p, rw, rk, mw, mk, hp⟩, ok⟩ := h
  exact ⟨⟨c, p, rw, rk, mw, mk, hp.mv k hn⟩, ok⟩
theorem rowLen {V : VolM} (ok : VOk V) {b : Int} {l : List UInt8} (h : V.D.blocks[b.toNat]? = some l) : l.length = 128 := ok.len l (List.mem_of_getElem? h)
def VolM.blk (V : VolM) (b : Int) : List UInt8 := V.D.blocks.getD b.toNat []
theorem blk_get {V : VolM} {b : Int} (h : V.D.has b) : V.D.blocks[b.toNat]? = some (V.blk b) := by
  unfold DiskM.has at h
  unfold VolM.blk
  rw [List.getD_eq_getElem?_getD, List.getElem?_eq_getElem (by omega)]; rfl
theorem blk_len {V : VolM} (ok : VOk V) {b : Int} (h : V.D.has b) : (V.blk b).length = 128 := rowLen ok (blk_get h)
/-- a block's bytes now -/
def VolM.now (V : VolM) (b : Int) : List UInt8 := V.P.over (V.blk b) (V.P.of b)
def VolM.tick (V : VolM) : VolM := { V with n := V.n + 1 }
theorem VOk.tick {V : VolM} (ok : VOk V) (h : V.n < 1000000000000000000) : VOk V.tick := ⟨ok.que, ok.wid, ok.wsr, by have := ok.lst; exact ⟨this.1, by show V.D.last ≤ V.n + 1; omega⟩, by have := ok.n0; exact ⟨by show 0 ≤ V.n + 1; omega, by show V.n + 1 ≤ _; omega⟩, ok.nof, ok.len, ok.wlen, ok.wids⟩
theorem um72 : Tryz.prog.underlying 72 = some (.map 3 85) := by kernel_rfl
/-- (*bollard/volume.Volume).has -/
theorem c_vhas (vp d U : Nat) (V : VolM) (lk : Int) (b : Int) (s : TH) (hU : 10 ≤ U) (hv : VolL s vp d U V lk) : TRet Tryz.prog 75 #[.pointer (some ⟨vp, 0, none⟩), .int .i64 b] s fun v s' => v = .bool (decide (V.D.has b)) ∧ Ch [] s s' := by
  obtain ⟨⟨c, p, rw_, rk, mw, mk, hV⟩, ok⟩ := id hv
  have hvb := hV.blk
  have hvw := hV.wm
  have hvv := hV.wv
  have hvo := hV.om
  have hvk := hV.kv
  have hvD := hV.dk
  have hvC := hV.ca
  have hvP := hV.ps
  have hn0 := ok.n0
  have hpok := hV.ps.ok
  have hplst := hV.ps.ok.lst
  have hnb := hV.dk.nb
  refine F75_calls _ _  ?_
  unfold F75
  refine sB_d (fun hsB1 => ?_) (fun hsB1 => ?_)
  ·
    refine nz_i ?_
    refine ld_t hvb rfl ?_
    refine dPtr_i ?_
    refine tcall (c_blocks _ _ _ _ (by omega) hvD) ?_
    rintro v_2 s_1 ⟨rfl, c_4⟩
    have z_5 := c_4.size
    refine dInt_i ?_
    refine ret_t ?_
    exact ⟨ret_b (by unfold DiskM.has; first | exact (decide_eq_false (by omega)).symm | exact (decide_eq_true (by omega)).symm | exact decide_eq_decide.2 (by omega)), ((Ch.refl [] s).ch c_4 (by simp))⟩
  ·
    refine ret_t ?_
    exact ⟨ret_b (by unfold DiskM.has; first | exact (decide_eq_false (by omega)).symm | exact (decide_eq_true (by omega)).symm | exact decide_eq_decide.2 (by omega)), (Ch.refl [] s)⟩
/-- (*bollard/volume.Volume).read -/
theorem c_vread (vp d U : Nat) (V : VolM) (lk : Int) (τ : Nat) (b : Int) (s : TH) (hU : 10 ≤ U) (hv : VolL s vp d U V lk) (hn : V.n < 1000000000000000000) : TRet Tryz.prog 63 #[.pointer (some ⟨vp, 0, none⟩), .int .i64 b] s fun v s' => Ch [U + 20, U + 21, U + 22, U + 23] s s' ∧ ((v = .tuple #[.slice none 0 0, .int .i64 90] ∧ ¬ V.D.has b ∧ VolL s' vp d U V lk) ∨ (∃ a c, v = .tuple #[.slice a 128 c, .int .i64 0] ∧ V.D.has b ∧ VolL s' vp d U V.tick lk ∧ Own s' a 128 c 5 1 (bvs (V.now b)) τ)) := by
  obtain ⟨⟨c, p, rw_, rk, mw, mk, hV⟩, ok⟩ := id hv
  have hvb := hV.blk
  have hvw := hV.wm
  have hvv := hV.wv
  have hvo := hV.om
  have hvk := hV.kv
  have hvD := hV.dk
  have hvC := hV.ca
  have hvP := hV.ps
  have hn0 := ok.n0
  have hpok := hV.ps.ok
  have hplst := hV.ps.ok.lst
  have hnb := hV.dk.nb
  obtain ⟨M, hM, hM0, hMa, hMb, hMc, hMd, hMe, hMf⟩ := fresh6 s (U + 50) τ 0 0 0 0
  refine F63_calls _ _  ?_
  unfold F63
  refine tcall (c_vhas _ _ _ _ _ _ _ (by omega) hv) ?_
  rintro v_2 s_1 ⟨rfl, c_4⟩
  have z_5 := c_4.size
  refine dBl_i ?_
  refine sB_nd (fun hsB1 => ?_) (fun hsB1 => ?_)
  ·
    refine ret_t ?_
    have h_6 := hv.mv c_4 (rngn50 (by simp))
    exact ⟨((Ch.refl [U + 20, U + 21, U + 22, U + 23] s).ch c_4 (by simp)), .inl ⟨rfl, by simpa using hsB1, h_6⟩⟩
  ·
    refine nz_i ?_
    have h_7 := hvb.ch c_4 (by simp)
    refine ld_t h_7 rfl ?_
    refine dPtr_i ?_
    have hh : V.D.has b := by simpa using hsB1
    have h_8 := hvC.mv c_4 (rngn (by simp))
    have h_9 := hvD.mv c_4 (rngn (by simp))
    refine tcall (c_vcGet (M + 5) (by omega) (by omega) (by omega) h_8 h_9 hh (blk_get hh) (ok.nof b) (by omega)) ?_
    rintro v_11 s_10 ⟨acall2, cccall2, rfl, c_13, call2a, call2b⟩
    have z_14 := c_13.size
    refine dT2 ?_
    refine dSl_i ?_
    refine dInt_i ?_
    refine sB_f (by rfl) ?_
    refine nz_i ?_
    have h_15 := h_7.ch c_13 (by simp <;> omega)
    refine ld_t h_15 rfl ?_
    refine dPtr_i ?_
    have h_16 := hvP.mv (c_4.app c_13) (rngn (by simp))
    refine tcall (c_pnow p (U + 30) V.P (τ := τ) (b := b) _ _ (by omega) h_16 call2b.sl (blk_len ok hh)) ?_
    rintro v_18 s_17 ⟨acall3, ccall3, rfl, c_20, call3a⟩
    have z_21 := c_20.size
    refine dT2 ?_
    refine dSl_i ?_
    refine dInt_i ?_
    refine ret_t ?_
    have h_22 := h_15.ch c_20 (by simp)
    have h_23 := hvw.ch ((c_4.app c_13).app c_20) (by simp)
    have h_24 := hvv.mv ((c_4.app c_13).app c_20) (tagn (by simp))
    have h_25 := hvo.mv ((c_4.app c_13).app c_20) (tagn (by simp))
    have h_26 := hvk.mv ((c_4.app c_13).app c_20) (tagn (by simp))
    have h_27 := h_9.mv (c_13.app c_20) (rngn (by simp))
    have h_28 := call2a.mv c_20 (rngn (by simp))
    have h_29 := h_16.mv c_20 (rngn (by simp))
    exact ⟨((((Ch.refl [U + 20, U + 21, U + 22, U + 23] s).ch c_4 (by simp)).fr c_13 hM (by simp <;> omega)).ch c_20 (by simp)), .inr ⟨_, _, rfl, hh, ⟨⟨_, _, _, _, _, _, h_22, h_23, h_24, hV.kn, h_25, h_26, h_27, h_28, h_29⟩, ok.tick hn⟩, call3a⟩⟩
theorem dA3 {a b c : Value} {k : VF 3} (h : (k : Value → Value → Value → Prop) a b c) : dA 3 (.agg #[a, b, c]) k := h
def VolM.going (V : VolM) (b : Int) : Bool := V.way.any fun p => p.2.blk == b
def VolM.ready (V : VolM) : List Int := V.P.blocks.filter fun b => !((V.P.free b).isEmpty || V.going b)
def VolM.plan (V : VolM) (b : Int) : List UInt8 := V.P.over (V.blk b) (V.P.free b)
def VolM.sent (V : VolM) (b : Int) : VolM := { V with n := V.n + 1, D := { V.D with queue := V.D.queue ++ [⟨V.D.last + 1, b, V.plan b⟩], last := V.D.last + 1 }, way := V.way ++ [(V.D.last + 1, ⟨b, V.plan b, V.P.free b⟩)] }
def VolM.write (V : VolM) (b : Int) : VolM × Int :=
  if ¬ V.D.has b then (V, 90)
  else if V.going b = true then (V, 3)
  else if V.P.free b = [] then (V, 71)
  else if 64 ≤ V.way.length then (V.tick, 3)
  else (V.sent b, 0)
theorem VOk.sent {V : VolM} (ok : VOk V) (pok : POk V.P) {b : Int} (h : V.D.has b) (hw : ¬ 64 ≤ V.way.length) (hn : V.n < 1000000000000000000) : VOk (V.sent b) where
  que := by
    show V.D.queue ++ [_] = (V.way ++ [_]).map sentOf
    rw [List.map_append, ok.que]; rfl
  wid p hp := by
    have hl := ok.lst
    rcases List.mem_append.1 (show p ∈ V.way ++ [_] from hp) with h | h
    · have := ok.wid p h; exact ⟨this.1, by show p.1 ≤ V.D.last + 1; omega⟩
    · rw [List.mem_singleton] at h; subst h; exact ⟨by show 1 ≤ V.D.last + 1; omega, Int.le_refl _⟩
  wsr := List.pairwise_append.2 ⟨ok.wsr, by simp, fun a ha c hc => by
    rw [List.mem_singleton] at hc; subst hc
    have := ok.wid a ha
    show a.1 < V.D.last + 1
    omega⟩
  lst := by have := ok.lst; exact ⟨by show 0 ≤ V.D.last + 1; omega, by show V.D.last + 1 ≤ V.n + 1; omega⟩
  n0 := by have := ok.n0; exact ⟨by show 0 ≤ V.n + 1; omega, by show V.n + 1 ≤ _; omega⟩
  nof := ok.nof
  len := ok.len
  wlen := by show (V.way ++ [_]).length ≤ 64; rw [List.length_append, List.length_singleton]; omega
  wids p hp := by
    rcases List.mem_append.1 (show p ∈ V.way ++ [_] from hp) with h | h
    · exact ok.wids p h
    · rw [List.mem_singleton] at h; subst h
      have h1 := free_len pok b
      have h2 := pok.lst
      show ((V.P.free b).length : Int) ≤ 1000000
      omega
theorem QRel.keep {s : TH} {σ μ τ : Nat} {hs : List (Int × Int × Hd)} {q : List SentM} (h : QRel s σ hs q) (hn : σ ≠ μ) : QRel (remark s μ τ) σ hs q := ⟨h.len, fun i p b h1 h2 => ⟨(h.at_ i p b h1 h2).1, (h.at_ i p b h1 h2).2.1, ⟨(h.at_ i p b h1 h2).2.2.sl.keep hn, (h.at_ i p b h1 h2).2.2.len⟩⟩⟩
theorem BRel.keep {s : TH} {σ μ τ : Nat} {hs : List Hd} {q : List (List UInt8)} (h : BRel s σ hs q) (hn : σ ≠ μ) : BRel (remark s μ τ) σ hs q := ⟨h.len, fun i p b h1 h2 => ⟨(h.at_ i p b h1 h2).sl.keep hn, (h.at_ i p b h1 h2).len⟩⟩
theorem ByAt.nn {s : TH} {τ : Nat} {p : Hd} {b : List UInt8} (h : ByAt s τ p b) : p.1 = none → 128 = 0 := fun e => by obtain ⟨a, ha⟩ := h.ne; rw [e] at ha; cases ha
theorem VolP.relock {s s' : TH} {v d U : Nat} {V : VolM} {lk lk' : Int} {c p rw : Nat} {rk : Option Nat} {mw mk : List (Int × Value)} (h : VolP s v d U V lk c p rw rk mw mk) (k : Ch [U] s s')
    (hb : Blk s' v [.int .i32 lk', .int .u32 0, .pointer (some ⟨d, 0, none⟩), .pointer (some ⟨c, 0, none⟩), .pointer (some ⟨p, 0, none⟩), .map (some rw), .bool V.old.on, .bool V.old.broken, .int .i64 V.old.room, .map rk] 76 U) : VolP s' v d U V lk' c p rw rk mw mk :=
  ⟨hb, h.wm.ch k (by simp), h.wv.mv k (tagn (by simp)), h.kn, h.om.mv k (tagn (by simp)), h.kv.mv k (tagn (by simp)), h.dk.mv k (rngn (by simp <;> omega)), h.ca.mv k (rngn (by simp <;> omega)), h.ps.mv k (rngn (by simp <;> omega))⟩
/-- (*bollard/volume.Volume).Blocks -/
theorem c_VBlocks2 (vp d U : Nat) (V : VolM)  (s : TH) (hU : 10 ≤ U) (hv : VolL s vp d U V 0) : TRet Tryz.prog 32 #[.pointer (some ⟨vp, 0, none⟩)] s fun v s' => v = .int .i64 V.D.blocks.length ∧ Ch [U] s s' ∧ VolL s' vp d U V 0 := by
  obtain ⟨⟨c, p, rw_, rk, mw, mk, hV⟩, ok⟩ := id hv
  have hvb := hV.blk
  have hvw := hV.wm
  have hvv := hV.wv
  have hvo := hV.om
  have hvk := hV.kv
  have hvD := hV.dk
  have hvC := hV.ca
  have hvP := hV.ps
  have hn0 := ok.n0
  have hpok := hV.ps.ok
  have hplst := hV.ps.ok.lst
  have hnb := hV.dk.nb
  refine F32_calls _  ?_
  unfold F32
  refine tcall (c_vheld _ _ hvb) ?_
  rintro v_2 s_1 ⟨rfl, c_4, call1a⟩
  have z_5 := c_4.size
  have hV1 := hV.relock c_4 call1a
  have hv1 : VolL s_1 vp d U V 1 := ⟨⟨_, _, _, _, _, _, hV1⟩, ok⟩
  refine dBl_i ?_
  refine sB_f (by rfl) ?_
  refine nz_i ?_
  refine nz_i ?_
  refine ld_t call1a rfl ?_
  refine dPtr_i ?_
  have h_6 := hvD.mv c_4 (rngn (by simp))
  refine tcall (c_blocks _ _ _ _ (by omega) h_6) ?_
  rintro v_8 s_7 ⟨rfl, c_10⟩
  have z_11 := c_10.size
  refine dInt_i ?_
  have h_12 := call1a.ch c_10 (by simp)
  refine c_door Tryz.muLib h_12 (by rfl) (fun _ => by rfl) fun s_13 b_14 c_15 z_16 => ?_
  have c_15t := on_ch h_12 c_15
  refine ret_t ?_
  have h_17 := hvw.ch ((c_4.app c_10).app c_15t) (by simp)
  have h_18 := hvv.mv ((c_4.app c_10).app c_15t) (tagn (by simp))
  have h_19 := hvo.mv ((c_4.app c_10).app c_15t) (tagn (by simp))
  have h_20 := hvk.mv ((c_4.app c_10).app c_15t) (tagn (by simp))
  have h_21 := h_6.mv (c_10.app c_15t) (rngn (by simp))
  have h_22 := hvC.mv ((c_4.app c_10).app c_15t) (rngn (by simp))
  have h_23 := hvP.mv ((c_4.app c_10).app c_15t) (rngn (by simp))
  exact ⟨rfl, ((((Ch.refl [U] s).ch c_4 (by simp)).ch c_10 (by simp)).ch c_15t (by simp)), ⟨⟨_, _, _, _, _, _, b_14, h_17, h_18, hV.kn, h_19, h_20, h_21, h_22, h_23⟩, ok⟩⟩
/-- (*bollard/volume.Volume).Read -/
theorem c_VRead (vp d U : Nat) (V : VolM) (τ : Nat) (b : Int) (s : TH) (hU : 10 ≤ U) (hv : VolL s vp d U V 0) (hn : V.n < 1000000000000000000) (hb : V.D.has b) (hτ : τ < U ∨ U + 50 ≤ τ) : TRet Tryz.prog 23 #[.pointer (some ⟨vp, 0, none⟩), .int .i64 b] s fun v s' => ∃ a c, v = .tuple #[.slice a 128 c, .int .i64 0] ∧ Ch [U, U + 20, U + 21, U + 22, U + 23] s s' ∧ Own s' a 128 c 5 1 (bvs (V.now b)) τ ∧ VolL s' vp d U V.tick 0 := by
  obtain ⟨⟨c, p, rw_, rk, mw, mk, hV⟩, ok⟩ := id hv
  have hvb := hV.blk
  have hvw := hV.wm
  have hvv := hV.wv
  have hvo := hV.om
  have hvk := hV.kv
  have hvD := hV.dk
  have hvC := hV.ca
  have hvP := hV.ps
  have hn0 := ok.n0
  have hpok := hV.ps.ok
  have hplst := hV.ps.ok.lst
  have hnb := hV.dk.nb
  refine F23_calls _ _  ?_
  unfold F23
  refine tcall (c_vheld _ _ hvb) ?_
  rintro v_2 s_1 ⟨rfl, c_4, call1a⟩
  have z_5 := c_4.size
  have hV1 := hV.relock c_4 call1a
  have hv1 : VolL s_1 vp d U V 1 := ⟨⟨_, _, _, _, _, _, hV1⟩, ok⟩
  refine dBl_i ?_
  refine sB_f (by rfl) ?_
  refine nz_i ?_
  refine tcall (c_vread _ _ _ _ _ τ _ _ (by omega) hv1 (by omega)) ?_
  rintro v_7 s_6 ⟨c_9, call2a⟩
  have z_10 := c_9.size
  rcases call2a with ⟨rfl, hnb2, hv2⟩ | ⟨a2, c2_, rfl, hh, hv2, ho2⟩
  ·
    exact absurd hb hnb2
  ·
    have hvx := hv2
    obtain ⟨⟨c2, p2, rw2, rk2, mw2, mk2, hV2⟩, ok2⟩ := id hvx
    have hvb2 := hV2.blk
    refine dT2 ?_
    refine dSl_i ?_
    refine dInt_i ?_
    refine c_door Tryz.muLib hvb2 (by rfl) (fun _ => by rfl) fun s_11 b_12 c_13 z_14 => ?_
    have c_13t := on_ch hvb2 c_13
    refine ret_t ?_
    have h_15 := ho2.mv c_13t (tagn (by simp <;> omega))
    exact ⟨_, _, rfl, ((((Ch.refl [U, U + 20, U + 21, U + 22, U + 23] s).ch c_4 (by simp)).ch c_9 (by simp)).ch c_13t (by simp)), h_15, ⟨⟨_, _, _, _, _, _, hV2.relock c_13t b_12⟩, ok2⟩⟩
def VolM.first (V : VolM) (b : Int) : Bool := V.old.on && !V.old.broken && (kfind V.old.kept b).isNone
def VolM.keep (V : VolM) (b : Int) : OldM := if V.first b = true then (if (V.old.kept.length : Int) < V.old.room then { V.old with kept := V.old.kept ++ [(b, V.now b)] } else { V.old with broken := true }) else V.old
def VolM.ticks (V : VolM) (b : Int) : Int := if V.first b = true then V.n + 1 else V.n
def VolM.change (V : VolM) (b o : Int) (y : List UInt8) (needs : List Int) : VolM × Int × Int :=
  if ¬ V.D.has b then (V, 0, 90)
  else if (V.P.add b o y needs).2.2 ≠ 0 then ({ V with n := V.ticks b }, 0, (V.P.add b o y needs).2.2)
  else ({ V with n := V.ticks b, P := (V.P.add b o y needs).1, old := V.keep b }, (V.P.add b o y needs).2.1, 0)
theorem olook_k {P : Program} {E : List PanicEntry → Heap → Prop} {T Kt Et : TypeId} {s : TH} {rk : Option Nat} {mk : List (Int × Value)} {l : List (Int × List UInt8)} {τ τ' : Nat} {b : Int} {K : Value → Heap → Prop} (ko : KeyOk P Kt (Value.int .i64)) (hT : P.underlying T = some (.map Kt Et)) (hz : ∀ w, (zeroValue Et).run P w = .ok (.slice none 0 0) w) (h : OMap s rk mk τ) (hv : KMap s τ' mk l)
    (hk : ∀ a n c, K (.tuple #[.slice a n c, .bool (kfind l b).isSome]) s.h) : semW P (Instr.lookup T (.map rk) (.int .i64 b) true) E s.h K := by
  have hg := KMap.get (b := b) hv
  cases hf : kfind l b with
  | none => rw [hf] at hg hk; exact olook_n ko hT hz h hg (hk _ _ _)
  | some y => rw [hf] at hg hk; obtain ⟨a, c, h1, _⟩ := hg; exact olook_s ko hT hz h h1 (hk _ _ _)
theorem add_err {P : PatchM} {b o : Int} {y : List UInt8} {needs : List Int} (h : (P.add b o y needs).2.2 ≠ 0) : (P.add b o y needs).1 = P := by
  unfold PatchM.add at h ⊢
  split
  · rfl
  · split
    · rfl
    · rename_i h1 h2
      rw [if_neg h1, if_neg h2] at h; exact absurd rfl h
theorem VOk.with {V : VolM} (ok : VOk V) {n : Int} (P : PatchM) (o : OldM) (hn : V.n ≤ n ∧ n ≤ 1000000000000000000) : VOk { V with n := n, P := P, old := o } :=
  ⟨ok.que, ok.wid, ok.wsr, by have := ok.lst; exact ⟨this.1, by show V.D.last ≤ n; omega⟩, by have := ok.n0; exact ⟨by show 0 ≤ n; omega, hn.2⟩, ok.nof, ok.len, ok.wlen, ok.wids⟩
/-- (*bollard/volume.Volume).Change -/
theorem c_VChange (vp d U : Nat) (V : VolM) (b o : Int) {xa : Option Addr} {xn : Nat} (xc : Nat) {y : List UInt8} {τx : Nat} {na : Option Addr} {nn : Nat} (nc : Nat) {needs : List Int} {τn : Nat} (s : TH) (hU : 10 ≤ U) (hv : VolL s vp d U V 0) (hx : Sl s xa (bvs y) τx) (hxn : y.length = xn) (hn : Sl s na (ivs needs) τn) (hnn : needs.length = nn) (hb : (nn : Int) + V.P.last ≤ 17592186044000) (hl : V.P.last < 1000000) (hk : V.n < 1000000000000000000) (hτ : (τx < U ∨ U + 50 ≤ τx) ∧ (τn < U ∨ U + 50 ≤ τn)) : TRet Tryz.prog 26 #[.pointer (some ⟨vp, 0, none⟩), .int .i64 b, .int .i64 o, .slice xa xn xc, .slice na nn nc] s fun v s' => v = .tuple #[.int .i64 (V.change b o y needs).2.1, .int .i64 (V.change b o y needs).2.2] ∧ Ch [U, U + 3, U + 20, U + 21, U + 22, U + 23, U + 30, U + 32] s s' ∧ VolL s' vp d U (V.change b o y needs).1 0 := by
  obtain ⟨⟨c, p, rw_, rk, mw, mk, hV⟩, ok⟩ := id hv
  have hvb := hV.blk
  have hvw := hV.wm
  have hvv := hV.wv
  have hvo := hV.om
  have hvk := hV.kv
  have hvD := hV.dk
  have hvC := hV.ca
  have hvP := hV.ps
  have hn0 := ok.n0
  have hpok := hV.ps.ok
  have hplst := hV.ps.ok.lst
  have hnb := hV.dk.nb
  obtain ⟨M, hM, hM0, hMa, hMb, hMc, hMd, hMe, hMf⟩ := fresh6 s (U + 50) τx τn 0 0 0
  refine F26_calls _ _ _ _ _ _ _ _ _  ?_
  unfold F26
  refine tcall (c_vheld _ _ hvb) ?_
  rintro v_2 s_1 ⟨rfl, c_4, call1a⟩
  have z_5 := c_4.size
  have hV1 := hV.relock c_4 call1a
  have hv1 : VolL s_1 vp d U V 1 := ⟨⟨_, _, _, _, _, _, hV1⟩, ok⟩
  refine dBl_i ?_
  refine sB_f (by rfl) ?_
  refine nz_i ?_
  refine tcall (c_vhas _ _ _ _ _ _ _ (by omega) hv1) ?_
  rintro v_7 s_6 ⟨rfl, c_9⟩
  have z_10 := c_9.size
  refine dBl_i ?_
  refine sB_nd (fun hsB2 => ?_) (fun hsB2 => ?_)
  ·
    have h_11 := call1a.ch c_9 (by simp)
    refine c_door Tryz.muLib h_11 (by rfl) (fun _ => by rfl) fun s_12 b_13 c_14 z_15 => ?_
    have c_14t := on_ch h_11 c_14
    refine ret_t ?_
    have h_16 := hvw.ch ((c_4.app c_9).app c_14t) (by simp)
    have h_17 := hvv.mv ((c_4.app c_9).app c_14t) (tagn (by simp))
    have h_18 := hvo.mv ((c_4.app c_9).app c_14t) (tagn (by simp))
    have h_19 := hvk.mv ((c_4.app c_9).app c_14t) (tagn (by simp))
    have h_20 := hvD.mv ((c_4.app c_9).app c_14t) (rngn (by simp))
    have h_21 := hvC.mv ((c_4.app c_9).app c_14t) (rngn (by simp))
    have h_22 := hvP.mv ((c_4.app c_9).app c_14t) (rngn (by simp))
    rw [show V.change b o y needs = (V, 0, 90) from by unfold VolM.change; rw [if_pos (by simpa using hsB2)]]
    exact ⟨rfl, ((((Ch.refl [U, U + 3, U + 20, U + 21, U + 22, U + 23, U + 30, U + 32] s).ch c_4 (by simp)).ch c_9 (by simp)).ch c_14t (by simp)), ⟨⟨_, _, _, _, _, _, b_13, h_16, h_17, hV.kn, h_18, h_19, h_20, h_21, h_22⟩, ok⟩⟩
  ·
    refine nz_i ?_
    have h_23 := call1a.ch c_9 (by simp)
    refine ld_t h_23 rfl ?_
    refine dMap_i ?_
    have h_24 := hvo.mv (c_4.app c_9) (tagn (by simp))
    have h_25 := hvk.mv (c_4.app c_9) (tagn (by simp))
    refine olook_k keyI um72 z85 h_24 h_25 fun ka kn kc => ?_
    refine dT2 ?_
    refine dSl_i ?_
    refine dBl_i ?_
    refine jn1 (fun fv s' => Ch [] s_6 s' ∧ (fv = .bool (V.first b))) ?_ ?_
    ·
      rintro fv s_26 ⟨c_27, rfl⟩
      have z_28 := c_27.size
      intro _
      intros
      refine dBl_i ?_
      refine jn_u ?_
      refine sB_i (fun hsB3 => ?_) (fun hsB3 => ?_)
      ·
        have hfirst : V.first b = true := by assumption
        have hhas : V.D.has b := by simpa using hsB2
        have hf2 := hfirst
        unfold VolM.first at hf2
        simp only [Bool.and_eq_true, Bool.not_eq_true', Option.isNone_iff_eq_none] at hf2
        have h_29 := hv1.mv (c_9.app c_27) (rngn50 (by simp))
        refine tcall (c_vread _ _ _ _ _ (U + 4) _ _ (by omega) h_29 (by omega)) ?_
        rintro v_31 s_30 ⟨c_33, call3a⟩
        have z_34 := c_33.size
        rcases call3a with ⟨rfl, hnb2, hv2⟩ | ⟨a2, c2_, rfl, hh, hv2, ho2⟩
        ·
          exact absurd hhas hnb2
        ·
          obtain ⟨⟨c2, p2, rw2, rk2, mw2, mk2, hV2⟩, ok2⟩ := id hv2
          obtain ⟨kr, hkr⟩ := Option.isSome_iff_exists.1 (hV2.kn hf2.1.1)
          subst hkr
          have hvb2 : Blk s_30 vp [.int .i32 1, .int .u32 0, .pointer (some ⟨d, 0, none⟩), .pointer (some ⟨c2, 0, none⟩), .pointer (some ⟨p2, 0, none⟩), .map (some rw2), .bool V.old.on, .bool V.old.broken, .int .i64 V.old.room, .map (some kr)] 76 U := hV2.blk
          have hvw2 := hV2.wm
          have hvv2 : WMap s_30 (U + 2) mw2 V.way := hV2.wv
          have hvo2 : OMap s_30 (some kr) mk2 (U + 3) := hV2.om
          have hvk2 : KMap s_30 (U + 4) mk2 V.old.kept := hV2.kv
          have hvD2 : Disk s_30 d (U + 10) V.D := hV2.dk
          have hvC2 : CacheV s_30 c2 (U + 20) d V.D.blocks (V.n + 1) := hV2.ca
          have hvP2 : PSet s_30 p2 (U + 30) V.P := hV2.ps
          have hkm := hvo2.at_ _ rfl
          have hkl : mk2.length = V.old.kept.length := by have := congrArg List.length hvk2.keys; simpa using this
          refine dT2 ?_
          refine dSl_i ?_
          refine dInt_i ?_
          refine sB_f (by rfl) ?_
          intro _
          intros
          refine dSl_i ?_
          refine nz_i ?_
          refine ld_t hvb2 rfl ?_
          refine dPtr_i ?_
          have h_35 := hx.mv (((c_4.app c_9).app c_27).app c_33) (tagn (by simp <;> omega))
          have h_36 := hn.mv (((c_4.app c_9).app c_27).app c_33) (tagn (by simp <;> omega))
          refine tcall (c_add _ _ _ _ _ _ _ _ (by omega) hvP2 h_35 hxn h_36 hnn hb hl) ?_
          rintro v_38 s_37 ⟨rfl, c_40, call4a⟩
          have z_41 := c_40.size
          refine dT2 ?_
          refine dInt_i ?_
          refine dInt_i ?_
          refine sB_nd (fun hsB5 => ?_) (fun hsB5 => ?_)
          ·
            have h_42 := hvb2.ch c_40 (by simp <;> omega)
            refine c_door Tryz.muLib h_42 (by rfl) (fun _ => by rfl) fun s_43 b_44 c_45 z_46 => ?_
            have c_45t := on_ch h_42 c_45
            refine ret_t ?_
            have h_47 := call4a.mv c_45t (rngn (by simp))
            have h_48 := hvw2.ch (c_40.app c_45t) (by simp)
            have h_49 := hvv2.mv (c_40.app c_45t) (tagn (by simp))
            have h_50 := hvo2.mv (c_40.app c_45t) (tagn (by simp))
            have h_51 := hvk2.mv (c_40.app c_45t) (tagn (by simp))
            have h_52 := hvD2.mv (c_40.app c_45t) (rngn (by simp))
            have h_53 := hvC2.mv (c_40.app c_45t) (rngn (by simp))
            have ht : V.ticks b = V.n + 1 := by unfold VolM.ticks; rw [if_pos hfirst]
            have hc : V.change b o y needs = ({ V with n := V.ticks b }, 0, (V.P.add b o y needs).2.2) := by unfold VolM.change; rw [if_neg (by simpa using hsB2), if_pos hsB5]
            rw [hc]
            have hP := h_47
            rw [add_err hsB5] at hP
            exact ⟨rfl, (((((((Ch.refl [U, U + 3, U + 20, U + 21, U + 22, U + 23, U + 30, U + 32] s).ch c_4 (by simp)).ch c_9 (by simp)).ch c_27 (by simp)).ch c_33 (by simp)).fr c_40 hM (by simp <;> omega)).ch c_45t (by simp)), ⟨⟨_, _, _, _, _, _, b_44, h_48, h_49, hV2.kn, h_50, h_51, h_52, by rw [ht]; exact h_53, hP⟩, ok.with V.P V.old (by rw [ht]; omega)⟩⟩
          ·
            refine jn_u ?_
            refine jn_u ?_
            refine sB_t (by assumption) ?_
            refine nz_i ?_
            have h_54 := hvb2.ch c_40 (by simp <;> omega)
            refine ld_t h_54 rfl ?_
            refine dMap_i ?_
            refine nz_i ?_
            refine ld_t h_54 rfl ?_
            refine dInt_i ?_
            have h_55 := hkm.ch c_40 (by simp)
            refine mlen_t um72 h_55 ?_
            refine dInt_i ?_
            refine ⟨?_, ?_⟩
            ·
              refine ld_t h_54 rfl ?_
              refine dInt_i ?_
              rfl
            ·
              intro _
              intros
              refine dBl_i ?_
              refine sB_d (fun hsB7 => ?_) (fun hsB7 => ?_)
              ·
                refine nz_i ?_
                refine ld_t h_54 rfl ?_
                refine dMap_i ?_
                refine upd_t keyI um72 h_55 b (Value.slice a2 128 c2_) fun s_60 m_61 c_62o z_63 => ?_
                have c_62 : Ch [U + 3] s_37 s_60 := Chg.mono c_62o fun j _ e => by subst e; rw [h_55.tag]; simp
                intro _
                intros
                have h_64 := h_54.ch c_62 (by simp)
                refine c_door Tryz.muLib h_64 (by rfl) (fun _ => by rfl) fun s_65 b_66 c_67 z_68 => ?_
                have c_67t := on_ch h_64 c_67
                refine ret_t ?_
                have h_69 := hvw2.ch ((c_40.app c_62).app c_67t) (by simp)
                have h_70 := hvv2.mv ((c_40.app c_62).app c_67t) (tagn (by simp))
                have h_71 := m_61.ch c_67t (by simp)
                have h_72 := ho2.mv ((c_40.app c_62).app c_67t) (tagn (by simp))
                have h_73 := hvk2.mv ((c_40.app c_62).app c_67t) (tagn (by simp))
                have h_74 := hvD2.mv ((c_40.app c_62).app c_67t) (rngn (by simp))
                have h_75 := hvC2.mv ((c_40.app c_62).app c_67t) (rngn (by simp))
                have h_76 := call4a.mv (c_62.app c_67t) (rngn (by simp))
                have ht : V.ticks b = V.n + 1 := by unfold VolM.ticks; rw [if_pos hfirst]
                have hkp : V.keep b = { V.old with kept := V.old.kept ++ [(b, V.now b)] } := by unfold VolM.keep; rw [if_pos hfirst, if_pos (by omega)]
                have hc : V.change b o y needs = ({ V with n := V.ticks b, P := (V.P.add b o y needs).1, old := V.keep b }, (V.P.add b o y needs).2.1, 0) := by unfold VolM.change; rw [if_neg (by simpa using hsB2), if_neg (by simpa using hsB5)]
                rw [hc]
                rw [hkp]
                exact ⟨rfl, ((((((((Ch.refl [U, U + 3, U + 20, U + 21, U + 22, U + 23, U + 30, U + 32] s).ch c_4 (by simp)).ch c_9 (by simp)).ch c_27 (by simp)).ch c_33 (by simp)).fr c_40 hM (by simp <;> omega)).ch c_62 (by simp)).ch c_67t (by simp)), ⟨⟨_, _, _, _, _, _, b_66, h_69, h_70, fun _ => rfl, OMap.of h_71, KMap.snoc h_72.sl (by have := h_72.1; rw [bvs_len] at this; omega) h_73 hf2.2, h_74, by rw [ht]; exact h_75, h_76⟩, ok.with _ _ (by rw [ht]; omega)⟩⟩
              ·
                refine sB_t (by assumption) ?_
                refine nz_i ?_
                refine st_t (r := vp) (i := 7) h_54 rfl (by simp) fun s142 b_77 c_78o z_79 => ?_
                have c_78 := on_ch h_54 c_78o
                intro _
                intros
                refine c_door Tryz.muLib b_77 (by rfl) (fun _ => by rfl) fun s_80 b_81 c_82 z_83 => ?_
                have c_82t := on_ch b_77 c_82
                refine ret_t ?_
                have h_84 := hvw2.ch ((c_40.app c_78).app c_82t) (by simp)
                have h_85 := hvv2.mv ((c_40.app c_78).app c_82t) (tagn (by simp))
                have h_86 := hvo2.mv ((c_40.app c_78).app c_82t) (tagn (by simp))
                have h_87 := hvk2.mv ((c_40.app c_78).app c_82t) (tagn (by simp))
                have h_88 := hvD2.mv ((c_40.app c_78).app c_82t) (rngn (by simp))
                have h_89 := hvC2.mv ((c_40.app c_78).app c_82t) (rngn (by simp))
                have h_90 := call4a.mv (c_78.app c_82t) (rngn (by simp))
                have ht : V.ticks b = V.n + 1 := by unfold VolM.ticks; rw [if_pos hfirst]
                have hkp : V.keep b = { V.old with broken := true } := by unfold VolM.keep; rw [if_pos hfirst, if_neg (by omega)]
                have hc : V.change b o y needs = ({ V with n := V.ticks b, P := (V.P.add b o y needs).1, old := V.keep b }, (V.P.add b o y needs).2.1, 0) := by unfold VolM.change; rw [if_neg (by simpa using hsB2), if_neg (by simpa using hsB5)]
                rw [hc]
                rw [hkp]
                exact ⟨rfl, ((((((((Ch.refl [U, U + 3, U + 20, U + 21, U + 22, U + 23, U + 30, U + 32] s).ch c_4 (by simp)).ch c_9 (by simp)).ch c_27 (by simp)).ch c_33 (by simp)).fr c_40 hM (by simp <;> omega)).ch c_78 (by simp)).ch c_82t (by simp)), ⟨⟨_, _, _, _, _, _, b_81, h_84, h_85, fun _ => rfl, h_86, h_87, h_88, by rw [ht]; exact h_89, h_90⟩, ok.with _ _ (by rw [ht]; omega)⟩⟩
      ·
        intro _
        intros
        refine dSl_i ?_
        refine nz_i ?_
        have h_91 := h_23.ch c_27 (by simp)
        refine ld_t h_91 rfl ?_
        refine dPtr_i ?_
        have h_92 := hvP.mv ((c_4.app c_9).app c_27) (rngn (by simp))
        have h_93 := hx.mv ((c_4.app c_9).app c_27) (tagn (by simp <;> omega))
        have h_94 := hn.mv ((c_4.app c_9).app c_27) (tagn (by simp <;> omega))
        refine tcall (c_add _ _ _ _ _ _ _ _ (by omega) h_92 h_93 hxn h_94 hnn hb hl) ?_
        rintro v_96 s_95 ⟨rfl, c_98, call5a⟩
        have z_99 := c_98.size
        refine dT2 ?_
        refine dInt_i ?_
        refine dInt_i ?_
        refine sB_nd (fun hsB9 => ?_) (fun hsB9 => ?_)
        ·
          have h_100 := h_91.ch c_98 (by simp <;> omega)
          refine c_door Tryz.muLib h_100 (by rfl) (fun _ => by rfl) fun s_101 b_102 c_103 z_104 => ?_
          have c_103t := on_ch h_100 c_103
          refine ret_t ?_
          have h_105 := call5a.mv c_103t (rngn (by simp))
          have h_106 := hvw.ch ((((c_4.app c_9).app c_27).app c_98).app c_103t) (by simp)
          have h_107 := hvv.mv ((((c_4.app c_9).app c_27).app c_98).app c_103t) (tagn (by simp))
          have h_108 := h_24.mv ((c_27.app c_98).app c_103t) (tagn (by simp))
          have h_109 := h_25.mv ((c_27.app c_98).app c_103t) (tagn (by simp))
          have h_110 := hvD.mv ((((c_4.app c_9).app c_27).app c_98).app c_103t) (rngn (by simp))
          have h_111 := hvC.mv ((((c_4.app c_9).app c_27).app c_98).app c_103t) (rngn (by simp))
          have ht : V.ticks b = V.n := by unfold VolM.ticks; rw [if_neg (by simpa using hsB3)]
          have hc : V.change b o y needs = ({ V with n := V.ticks b }, 0, (V.P.add b o y needs).2.2) := by unfold VolM.change; rw [if_neg (by simpa using hsB2), if_pos hsB9]
          rw [hc]
          have hP := h_105
          rw [add_err hsB9] at hP
          exact ⟨rfl, ((((((Ch.refl [U, U + 3, U + 20, U + 21, U + 22, U + 23, U + 30, U + 32] s).ch c_4 (by simp)).ch c_9 (by simp)).ch c_27 (by simp)).fr c_98 hM (by simp <;> omega)).ch c_103t (by simp)), ⟨⟨_, _, _, _, _, _, b_102, h_106, h_107, hV.kn, h_108, h_109, h_110, by rw [ht]; exact h_111, hP⟩, ok.with V.P V.old (by rw [ht]; omega)⟩⟩
        ·
          refine jn_u ?_
          refine jn_u ?_
          refine sB_f (by assumption) ?_
          intro _
          intros
          refine dBl_i ?_
          refine sB_f (by rfl) ?_
          refine sB_f (by assumption) ?_
          intro _
          intros
          have h_112 := h_91.ch c_98 (by simp <;> omega)
          refine c_door Tryz.muLib h_112 (by rfl) (fun _ => by rfl) fun s_113 b_114 c_115 z_116 => ?_
          have c_115t := on_ch h_112 c_115
          refine ret_t ?_
          have h_117 := hvw.ch ((((c_4.app c_9).app c_27).app c_98).app c_115t) (by simp)
          have h_118 := hvv.mv ((((c_4.app c_9).app c_27).app c_98).app c_115t) (tagn (by simp))
          have h_119 := h_24.mv ((c_27.app c_98).app c_115t) (tagn (by simp))
          have h_120 := h_25.mv ((c_27.app c_98).app c_115t) (tagn (by simp))
          have h_121 := hvD.mv ((((c_4.app c_9).app c_27).app c_98).app c_115t) (rngn (by simp))
          have h_122 := hvC.mv ((((c_4.app c_9).app c_27).app c_98).app c_115t) (rngn (by simp))
          have h_123 := call5a.mv c_115t (rngn (by simp))
          have ht : V.ticks b = V.n := by unfold VolM.ticks; rw [if_neg (by simpa using hsB3)]
          have hkp : V.keep b = V.old := by unfold VolM.keep; rw [if_neg (by simpa using hsB3)]
          have hc : V.change b o y needs = ({ V with n := V.ticks b, P := (V.P.add b o y needs).1, old := V.keep b }, (V.P.add b o y needs).2.1, 0) := by unfold VolM.change; rw [if_neg (by simpa using hsB2), if_neg (by simpa using hsB9)]
          rw [hc]
          rw [hkp]
          exact ⟨rfl, ((((((Ch.refl [U, U + 3, U + 20, U + 21, U + 22, U + 23, U + 30, U + 32] s).ch c_4 (by simp)).ch c_9 (by simp)).ch c_27 (by simp)).fr c_98 hM (by simp <;> omega)).ch c_115t (by simp)), ⟨⟨_, _, _, _, _, _, b_114, h_117, h_118, hV.kn, h_119, h_120, h_121, by rw [ht]; exact h_122, h_123⟩, ok.with _ _ (by rw [ht]; omega)⟩⟩
    ·
      intro K_124 hK_124
      refine nz_i ?_
      refine ld_t h_23 rfl ?_
      refine dBl_i ?_
      refine sB_i (fun hsB13 => ?_) (fun hsB13 => ?_)
      ·
        refine nz_i ?_
        refine ld_t h_23 rfl ?_
        refine dBl_i ?_
        refine sB_n (fun hsB14 => ?_) (fun hsB14 => ?_)
        ·
          refine hK_124 _ _ ⟨(Ch.refl [] s_6), ?_⟩
          first | rfl | (unfold VolM.first; simp [*])
        ·
          refine hK_124 _ _ ⟨(Ch.refl [] s_6), ?_⟩
          first | rfl | (unfold VolM.first; simp [*])
      ·
        refine hK_124 _ _ ⟨(Ch.refl [] s_6), ?_⟩
        first | rfl | (unfold VolM.first; simp [*])
def VolM.freeze (V : VolM) (room : Int) : VolM × Int :=
  if V.old.on = true then (V, 3) else if room < 0 ∨ room > 65536 then (V, 1) else ({ V with old := ⟨true, false, room, []⟩ }, 0)
theorem OMap.nil (s : TH) (τ : Nat) : OMap s none [] τ := ⟨fun r e => (by cases e), fun _ => rfl⟩
theorem OMap.keep {s : TH} {rk : Option Nat} {mk : List (Int × Value)} {σ μ τ : Nat} (h : OMap s rk mk σ) (hn : σ ≠ μ) : OMap (remark s μ τ) rk mk σ := ⟨fun r e => (h.at_ r e).keep hn, h.no⟩
theorem WMap.keep {s : TH} {σ μ τ : Nat} (hn : σ ≠ μ) : ∀ {m : List (Int × Value)} {l : List (Int × WayM)}, WMap s σ m l → WMap (remark s μ τ) σ m l
  | [], [], h => trivial
  | e :: m, p :: l, h => by
    obtain ⟨h1, ⟨ba, bc, ia, ic, g1, g2, g3, g4⟩, h2⟩ := h
    exact ⟨h1, ⟨ba, bc, ia, ic, g1, g2.keep hn, g3.keep hn, g4⟩, WMap.keep hn h2⟩
  | [], _ :: _, h => h.elim
  | _ :: _, [], h => h.elim
theorem KMap.keep {s : TH} {σ μ τ : Nat} (hn : σ ≠ μ) : ∀ {m : List (Int × Value)} {l : List (Int × List UInt8)}, KMap s σ m l → KMap (remark s μ τ) σ m l
  | [], [], h => trivial
  | e :: m, p :: l, ⟨h1, ⟨a, c, g1, g2, g3⟩, h2⟩ => ⟨h1, ⟨a, c, g1, g2.keep hn, g3⟩, KMap.keep hn h2⟩
  | [], _ :: _, h => h.elim
  | _ :: _, [], h => h.elim
theorem PMap.keep {s : TH} {σ μ τ : Nat} (hn : σ ≠ μ) : ∀ {m : List (Int × Value)} {l : List PatM}, PMap s σ m l → PMap (remark s μ τ) σ m l
  | [], [], h => trivial
  | e :: m, p :: l, h => by
    obtain ⟨h1, ⟨ba, bc, na, nc, g1, g2, g3⟩, h2⟩ := h
    exact ⟨h1, ⟨ba, bc, na, nc, g1, g2.keep hn, g3.keep hn⟩, PMap.keep hn h2⟩
  | [], _ :: _, h => h.elim
  | _ :: _, [], h => h.elim
theorem PSet.keep {s : TH} {p T μ τ : Nat} {P : PatchM} (h : PSet s p T P) (hn : μ < T ∨ T + 10 ≤ μ) : PSet (remark s μ τ) p T P := by
  obtain ⟨⟨r1, r2, m1, m2, hp⟩, ok⟩ := h
  exact ⟨⟨r1, r2, m1, m2, hp.blk.keep (by omega), hp.dm.keep (by omega), hp.lm.keep (by omega), PMap.keep (by omega) hp.pm, hp.dk, hp.dv⟩, ok⟩
theorem Disk.keep {s : TH} {d T μ τ : Nat} {D : DiskM} (h : Disk s d T D) (hn : μ < T ∨ T + 10 ≤ μ) : Disk (remark s μ τ) d T D := by
  obtain ⟨pa, pc, qa, qc, hs, qs, fr, fm, h⟩ := h
  exact ⟨pa, pc, qa, qc, hs, qs, fr, fm, h.blk.keep (by omega), h.rows.keep (by omega), h.brel.keep (by omega), h.que.keep (by omega), h.qrel.keep (by omega), h.fails.keep (by omega), h.fok, h.nb, h.nq, h.qin⟩
theorem CacheV.keep {s : TH} {c T d μ τ : Nat} {bs : List (List UInt8)} {n : Int} (h : CacheV s c T d bs n) (hn : μ < T ∨ T + 10 ≤ μ) : CacheV (remark s μ τ) c T d bs n := by
  obtain ⟨C, ⟨⟨r, m, bp, bh, hp⟩, ok⟩, h2⟩ := h
  exact ⟨C, ⟨⟨r, m, bp, bh, hp.blk.keep (by omega), hp.map.keep (by omega), ⟨fun x hx => (hp.bufs.at_ x hx).keep (by omega)⟩, ⟨fun x hx => ⟨(hp.bufy.at_ x hx).sl.keep (by omega), (hp.bufy.at_ x hx).len⟩⟩, hp.mo, hp.bnd, hp.len⟩, ok⟩, h2⟩
theorem VolL.keep {s : TH} {v d U μ τ : Nat} {V : VolM} {lk : Int} (h : VolL s v d U V lk) (hn : μ < U ∨ U + 50 ≤ μ) : VolL (remark s μ τ) v d U V lk := by
  obtain ⟨⟨c, p, rw, rk, mw, mk, h⟩, ok⟩ := h
  exact ⟨⟨c, p, rw, rk, mw, mk, h.blk.keep (by omega), h.wm.keep (by omega), WMap.keep (by omega) h.wv, h.kn, h.om.keep (by omega), KMap.keep (by omega) h.kv, h.dk.keep (by omega), h.ca.keep (by omega), h.ps.keep (by omega)⟩, ok⟩
def wrStep (cl : List Int) (r : VolM × Bool) (b : Int) : VolM × Bool :=
  if ((r.1.P.of b).any fun i => decide (i ∈ cl)) = true ∧ r.1.way.length < 64 then ((r.1.write b).1, r.2 && ((r.1.write b).2 == 0)) else r
theorem write_P {V : VolM} {b : Int} : (V.write b).1.P = V.P := by
  unfold VolM.write
  split
  · rfl
  · split
    · rfl
    · split
      · rfl
      · split <;> rfl
structure WrI (V : VolM) (r : VolM × Bool) : Prop where
  P : r.1.P = V.P
  w : ∀ p ∈ r.1.way, ∃ i ∈ p.2.ids, i ∈ V.P.all
theorem WrI.step {V : VolM} {cl : List Int} {r : VolM × Bool} {b : Int} (h : WrI V r) : WrI V (wrStep cl r b) := by
  unfold wrStep
  split
  · refine ⟨write_P.trans h.P, fun p hp => ?_⟩
    unfold VolM.write at hp
    split at hp
    · exact h.w p hp
    · split at hp
      · exact h.w p hp
      · split at hp
        · exact h.w p hp
        · rename_i hf
          split at hp
          · exact h.w p hp
          · rcases List.mem_append.1 (show p ∈ r.1.way ++ [_] from hp) with h1 | h1
            · exact h.w p h1
            · rw [List.mem_singleton] at h1; subst h1
              obtain ⟨i, l, e⟩ := List.exists_cons_of_ne_nil hf
              refine ⟨i, by show i ∈ r.1.P.free b; rw [e]; simp, ?_⟩
              have : i ∈ r.1.P.free b := by rw [e]; simp
              rw [← h.P]; exact of_sub (free_sub this)
  · exact h
end Go.Proofs.YtklppdodadkcnaaGreat.E
/- Contracts of functions. -/
namespace Go.Proofs.YtklppdodadkcnaaGreat.E
open Go Go.Proofs Go.RowKit Go.Maps Go.Shelf Go.Sort
set_option linter.unusedVariables false
set_option linter.unusedSimpArgs false
/-- patches over bytes, one behind another -/
def ovL (d : List UInt8) (xs : List PatM) : List UInt8 := xs.foldl (fun d x => overlay d x.off.toNat x.by_) d
def cov (j : Nat) (x : PatM) : Bool := decide (x.off.toNat ≤ j ∧ j < x.off.toNat + x.by_.length)
theorem ovL_snoc (d : List UInt8) (xs : List PatM) (x : PatM) : ovL d (xs ++ [x]) = overlay (ovL d xs) x.off.toNat x.by_ := by unfold ovL; rw [List.foldl_append]; rfl
/-- of two patches that overlap the later one needs the earlier one -/
def POv (P : PatchM) : Prop := ∀ x ∈ P.l, ∀ y ∈ P.l, x.id < y.id → x.blk = y.blk → (∃ j, cov j x = true ∧ cov j y = true) → x.id ∈ y.needs
theorem over_ovL {P : PatchM} (ok : POk P) : ∀ {xs : List PatM} {d : List UInt8}, (∀ x ∈ xs, x ∈ P.l) → P.over d (xs.map (·.id)) = ovL d xs := by
  intro xs
  induction xs with
  | nil => intro d _; rfl
  | cons x xs ih =>
    intro d h
    show P.over (P.step d x.id) (xs.map (·.id)) = ovL (overlay d x.off.toNat x.by_) xs
    have : P.step d x.id = overlay d x.off.toNat x.by_ := by unfold PatchM.step; rw [find_by ok.nodup (h x (by simp))]
    rw [this]
    exact ih fun y hy => h y (List.mem_cons_of_mem _ hy)
theorem over_of {P : PatchM} (ok : POk P) (b : Int) (d : List UInt8) : P.over d (P.of b) = ovL d (P.l.filter fun x => x.blk == b) := over_ovL ok fun x hx => (List.mem_filter.1 hx).1
theorem POv.add {P : PatchM} (ok : POk P) (h : POv P) {b o : Int} {y : List UInt8} {needs : List Int} (hf : fitsP b o y.length) : POv { P with last := P.last + 1, l := P.l ++ [P.newP b o y needs] } := fun x hx z hz hlt hb hc => by
  unfold fitsP at hf
  rcases List.mem_append.1 (show x ∈ P.l ++ [_] from hx) with h1 | h1 <;> rcases List.mem_append.1 (show z ∈ P.l ++ [_] from hz) with h2 | h2
  · exact h x h1 z h2 hlt hb hc
  · rw [List.mem_singleton] at h2; subst h2
    refine List.mem_map.2 ⟨x, List.mem_filter.2 ⟨h1, ?_⟩, rfl⟩
    obtain ⟨j, c1, c2⟩ := hc
    have hfx := ok.fit x h1
    unfold cov at c1 c2
    simp only [decide_eq_true_eq] at c1 c2
    have c2 : o.toNat ≤ j ∧ j < o.toNat + y.length := c2
    have hb : x.blk = b := hb
    rw [Bool.or_eq_true]; right
    unfold ovx ovl
    exact decide_eq_true ⟨hb.symm, by omega, by omega⟩
  · rw [List.mem_singleton] at h1; subst h1
    have := ok.rng z h2
    have hlt : P.last + 1 < z.id := hlt
    omega
  · rw [List.mem_singleton] at h1 h2; subst h1 h2
    exact absurd hlt (Int.lt_irrefl _)
theorem add_of_ne {P : PatchM} {b o : Int} {y : List UInt8} {needs : List Int} {c : Int} (hc : c ≠ b) : (P.l ++ [P.newP b o y needs]).filter (fun x => x.blk == c) = P.l.filter fun x => x.blk == c := by
  rw [List.filter_append, show ([P.newP b o y needs].filter fun x => x.blk == c) = [] from by
    rw [List.filter_cons]; rw [show ((P.newP b o y needs).blk == c) = false from by show (b == c) = false; simpa using fun e => hc e.symm]; rfl, List.append_nil]
theorem add_of {P : PatchM} {b o : Int} {y : List UInt8} {needs : List Int} : (P.l ++ [P.newP b o y needs]).filter (fun x => x.blk == b) = (P.l.filter fun x => x.blk == b) ++ [P.newP b o y needs] := by
  rw [List.filter_append, show ([P.newP b o y needs].filter fun x => x.blk == b) = [P.newP b o y needs] from by
    rw [List.filter_cons]; rw [show ((P.newP b o y needs).blk == b) = true from by show (b == b) = true; simp]; rfl]
theorem newCache {s : TH} {c T d r : Nat} {b : Int} (h1 : Blk s c [.pointer (some ⟨d, 0, none⟩), .int .i64 b, .map (some r), .int .i64 0, .int .i64 0, .int .i64 0] 234 T) (h2 : MapK (Value.int .i64) s r [] (T + 1)) (hb : 1 ≤ b ∧ b ≤ 64) : Cache s c T d ⟨[], b, 0, 0, 0⟩ :=
  ⟨⟨r, [], fun _ => 0, fun _ => (none, 0), h1, h2, ⟨fun x h => (List.not_mem_nil h).elim⟩, ⟨fun x h => (List.not_mem_nil h).elim⟩, ⟨List.Perm.refl _, fun x h => (List.not_mem_nil h).elim, fun x h => (List.not_mem_nil h).elim, List.nodup_nil, fun x h => (List.not_mem_nil h).elim⟩, hb, by simp; omega⟩,
    ⟨List.Pairwise.nil, fun x h => (List.not_mem_nil h).elim, by simp, by simp, fun x h => (List.not_mem_nil h).elim⟩⟩
/-- a volume that was opened -/
def VolM.fresh (bs : List (List UInt8)) : VolM := ⟨diskOf bs, ⟨0, [], []⟩, [], ⟨false, false, 0, []⟩, 0⟩
theorem VOk.fresh {bs : List (List UInt8)} (h : ∀ y ∈ bs, y.length = 128) : VOk (VolM.fresh bs) :=
  ⟨rfl, fun p hp => (List.not_mem_nil hp).elim, List.Pairwise.nil, ⟨Int.le_refl _, Int.le_refl _⟩, ⟨Int.le_refl _, (by decide : (0 : Int) ≤ 1000000000000000000)⟩, fun _ => Int.le_refl _, h, (by decide : 0 ≤ 64), fun p hp => (List.not_mem_nil hp).elim⟩
theorem newPSet {s : TH} {p T r1 r2 : Nat} (h : Blk s p [.int .i64 0, .map (some r1), .map (some r2), .bool true] 218 T) (h1 : MapK (Value.int .i64) s r1 [] (T + 1)) (h2 : MapK (Value.int .i64) s r2 [] (T + 2)) : PSet s p T ⟨0, [], []⟩ :=
  ⟨⟨r1, r2, [], [], h, h1, h2, trivial, rfl, fun e he => (List.not_mem_nil he).elim⟩, ⟨List.Pairwise.nil, fun x hx => (List.not_mem_nil hx).elim, fun x hx => (List.not_mem_nil hx).elim, fun x hx => (List.not_mem_nil hx).elim, fun x hx => (List.not_mem_nil hx).elim, fun x hx => (List.not_mem_nil hx).elim, fun i h1 h2 => absurd (Int.le_trans h1 h2) (by show ¬ (1 : Int) ≤ 0; decide), fun x hx => (List.not_mem_nil hx).elim, (by decide : (0 : Int) ≤ 0 ∧ (0 : Int) ≤ 1000000)⟩⟩
/-- bollard/volume.Open -/
theorem c_vopen2 (U d : Nat) (bs : List (List UInt8)) (b : Int) (s : TH) (hU : 10 ≤ U) (hd : Disk s d (U + 10) (diskOf bs)) (hl : ∀ y ∈ bs, y.length = 128) (hb : 1 ≤ b ∧ b ≤ 64) : TRet Tryz.prog 58 #[.pointer (some ⟨d, 0, none⟩), .int .i64 b] s fun v s' => ∃ r, v = .tuple #[.pointer (some ⟨r, 0, none⟩), .int .i64 0] ∧ Ch [] s s' ∧ VolL s' r d U (VolM.fresh bs) 0 := by
  refine F58_calls _ _  ?_
  unfold F58
  refine tcall (c_cnew (U + 10) d (diskOf bs) (U + 20) b _ (by omega) hd hb) ?_
  rintro v_2 s_1 ⟨ccall1, rcall1, rfl, c_4, call1a, call1b⟩
  have z_5 := c_4.size
  refine dT2 ?_
  refine dPtr_i ?_
  refine dInt_i ?_
  refine sB_f (by rfl) ?_
  refine tcall (c_pnew (U + 30) _) ?_
  rintro v_7 s_6 ⟨pcall2, r1call2, r2call2, rfl, c_9, call2a, call2b, call2c⟩
  have z_10 := c_9.size
  refine dPtr_i ?_
  refine alm_t (Value.int .i64) (U + 1) fun r10 s11 hr10 b_11 c_12 z_13 => ?_
  refine al_t U fun r12 s13 hr12 b_14 c_15 z_16 => ?_
  refine ret_t ?_
  have h_17 := b_11.ch c_15 (by simp)
  have h_18 := hd.mv (((c_4.app c_9).app c_12).app c_15) (rngn (by simp))
  have h_19 := call1a.ch ((c_9.app c_12).app c_15) (by simp)
  have h_20 := call1b.ch ((c_9.app c_12).app c_15) (by simp)
  have h_21 := call2a.ch (c_12.app c_15) (by simp)
  have h_22 := call2b.ch (c_12.app c_15) (by simp)
  have h_23 := call2c.ch (c_12.app c_15) (by simp)
  exact ⟨_, rfl, (((((Ch.refl [] s).ch c_4 (by simp)).ch c_9 (by simp)).ch c_12 (by simp)).ch c_15 (by simp)), ⟨⟨_, _, _, none, [], [], b_14, h_17, trivial, (fun h => by cases h), OMap.nil _ _, trivial, h_18, ⟨_, newCache h_19 h_20 hb, ⟨fun x hx => (List.not_mem_nil hx).elim, fun x hx => (List.not_mem_nil hx).elim⟩, Int.le_refl _, Int.le_refl _, Int.le_refl _⟩, newPSet h_21 h_22 h_23⟩, VOk.fresh hl⟩⟩
structure DoV where
  op : Int
  b : Int
  off : Int
  n : Int
  ba : Option Addr
  bn : Nat
  bc : Nat
  na : Option Addr
  nn : Nat
  nc : Nat
  by_ : List UInt8
  ns : List Int
structure DoIn (s : TH) (τ : Nat) (x : DoV) : Prop where
  bs : Sl s x.ba (bvs x.by_) τ
  bl : x.by_.length = x.bn
  bo : x.ba = none → x.bn = 0
  bm : x.bn ≤ x.bc ∧ x.bn ≤ 140737488351232
  ns : Sl s x.na (ivs x.ns) τ
  nl : x.ns.length = x.nn
  no : x.na = none → x.nn = 0
  nm : x.nn ≤ x.nc ∧ x.nn ≤ 17592186043904
theorem DoIn.mv {s s' : TH} {τ : Nat} {x : DoV} {B : Nat → Prop} (h : DoIn s τ x) (c : Chg B s s') (hn : ∀ j, j < s.h.size → s.g j = τ → ¬ B j) : DoIn s' τ x := ⟨h.bs.mv c hn, h.bl, h.bo, h.bm, h.ns.mv c hn, h.nl, h.no, h.nm⟩
structure Dos (s : TH) (τ : Nat) (l : List DoV) : Prop where
  at_ : ∀ x ∈ l, DoIn s τ x
theorem Dos.mv {s s' : TH} {τ : Nat} {l : List DoV} {B : Nat → Prop} (h : Dos s τ l) (c : Chg B s s') (hn : ∀ j, j < s.h.size → s.g j = τ → ¬ B j) : Dos s' τ l := ⟨fun x hx => (h.at_ x hx).mv c hn⟩
/-- behind a change that was taken -/
structure Chd (V V' : VolM) : Prop where
  ex : ∃ b o y needs, V.D.has b ∧ fitsP b o y.length ∧ (∀ n ∈ needs, 1 ≤ n ∧ n ≤ V.P.last) ∧ V' = { V with n := V.ticks b, P := (V.P.add b o y needs).1, old := V.keep b } ∧ (V.P.add b o y needs).1 = { V.P with last := V.P.last + 1, l := V.P.l ++ [V.P.newP b o y needs] }
theorem add_ok {P : PatchM} {b o : Int} {y : List UInt8} {needs : List Int} (h1 : fitsP b o y.length) (h2 : ∀ n ∈ needs, 1 ≤ n ∧ n ≤ P.last) : P.add b o y needs = ({ P with last := P.last + 1, l := P.l ++ [P.newP b o y needs] }, P.last + 1, 0) := by
  unfold PatchM.add
  rw [if_neg (by simpa using h1), if_neg (by simpa [PatchM.knows] using h2)]
theorem change_ok {V : VolM} {b o : Int} {y : List UInt8} {needs : List Int} (hb : V.D.has b) (h1 : fitsP b o y.length) (h2 : ∀ n ∈ needs, 1 ≤ n ∧ n ≤ V.P.last) :
    (V.change b o y needs).2.1 = V.P.last + 1 ∧ (V.change b o y needs).2.2 = 0 ∧ (V.change b o y needs).1.P.last = V.P.last + 1 ∧ Chd V (V.change b o y needs).1 := by
  have e := add_ok (P := V.P) h1 h2
  unfold VolM.change
  rw [if_neg (by simpa using hb), if_neg (by rw [e]; simp)]
  refine ⟨by rw [e], rfl, by show (V.P.add b o y needs).1.last = _; rw [e], ⟨b, o, y, needs, hb, h1, h2, rfl, by rw [e]⟩⟩
theorem tmod_rng {a b n : Int} (ha : 0 ≤ a) (hb : 0 < b) (h : n = Int.tmod a b) : 0 ≤ n ∧ n < b := by
  subst h
  rw [Int.tmod_eq_emod_of_nonneg ha]
  exact ⟨Int.emod_nonneg a (by omega), Int.emod_lt_of_pos a hb⟩
end Go.Proofs.YtklppdodadkcnaaGreat.E
/- Contracts of functions. -/
namespace Go.Proofs.YtklppdodadkcnaaGreat.E
open Go Go.Proofs
set_option linter.unusedVariables false
set_option linter.unusedSimpArgs false
theorem bvs_set (l : List UInt8) (i : Nat) (b : UInt8) : (bvs l).set i (.int .u8 (b.toNat : Int)) = bvs (l.set i b) := by unfold bvs; rw [List.map_set]; rfl
/-- a number's bytes written at a place -/
def wrL (l : List UInt8) (p : Nat) : Nat → Nat → List UInt8
  | 0, _ => l
  | k + 1, n => (wrL l p k n).set (p + k) (UInt8.ofNat (n / 256 ^ k % 256))
theorem wrL_len (l : List UInt8) (p k n : Nat) : (wrL l p k n).length = l.length := by
  induction k with
  | zero => rfl
  | succ k ih => rw [wrL, List.length_set, ih]
theorem u8q (q : Nat) : IntKind.u8.wrap ((q % 256 : Nat) : Int) = ((UInt8.ofNat (q % 256)).toNat : Int) := by
  have e : IntKind.u8.wrap ((q % 256 : Nat) : Int) = ((q % 256 : Nat) : Int) % 256 := rfl
  have e2 : (UInt8.ofNat (q % 256)).toNat = (q % 256) % 256 := rfl
  rw [e, e2]; omega
theorem tm256 (q : Nat) : Int.tmod (q : Int) 256 = ((q % 256 : Nat) : Int) := by
  rw [Int.tmod_eq_emod_of_nonneg (by omega)]; omega
theorem td256 (n k : Nat) : Int.tdiv ((n / 256 ^ k : Nat) : Int) 256 = ((n / 256 ^ (k + 1) : Nat) : Int) := by
  rw [Int.tdiv_eq_ediv_of_nonneg (Int.natCast_nonneg _), Nat.pow_succ, ← Nat.div_div_eq_div_mul]
  generalize n / 256 ^ k = q
  omega
theorem pow_w (w : Nat) (h : 1 ≤ w ∧ w ≤ 4) : IntKind.i64.wrap (1 * 2 ^ min (Int.toNat (8 * (w : Int))) 64) = ((256 ^ w : Nat) : Int) ∧ 256 ^ w ≤ 4294967296 := by
  rcases (by omega : w = 1 ∨ w = 2 ∨ w = 3 ∨ w = 4) with rfl | rfl | rfl | rfl <;> exact ⟨by decide, by decide⟩
/-- the check sum -/
def sumS (l : List UInt8) : Nat × Nat := l.foldl (fun z b => ((z.1 + b.toNat) % 65521, (z.2 + (z.1 + b.toNat) % 65521) % 65521)) (1, 0)
def sumN (l : List UInt8) : Nat := (sumS l).2 * 65536 + (sumS l).1
theorem sumS_snoc (l : List UInt8) (b : UInt8) : sumS (l ++ [b]) = (((sumS l).1 + b.toNat) % 65521, ((sumS l).2 + ((sumS l).1 + b.toNat) % 65521) % 65521) := by unfold sumS; rw [List.foldl_append]; rfl
theorem sumS_lt (l : List UInt8) : (sumS l).1 < 65521 ∧ (sumS l).2 < 65521 := by
  rcases List.eq_nil_or_concat l with rfl | ⟨m, b, rfl⟩
  · exact ⟨by decide, by decide⟩
  · rw [List.concat_eq_append, sumS_snoc]; exact ⟨Nat.mod_lt _ (by decide), Nat.mod_lt _ (by decide)⟩
theorem bvs_get {l : List UInt8} {k : Nat} {b : UInt8} (h : l[k]? = some b) : (bvs l)[k]? = some (.int .u8 (b.toNat : Int)) := by unfold bvs; rw [List.getElem?_map, h]; rfl
/-- bollard/bollardref01.Put -/
theorem c_rput (τ : Nat) {xa : Option Addr} {xn : Nat} (xc : Nat) {l : List UInt8} {τx : Nat} {s : TH} (hx : Sl s xa (bvs l) τx) (hn : l.length = xn) (h0 : xa = none → xn = 0) (hb : xn ≤ 1000000000) (p w n : Nat) (hw : 1 ≤ w ∧ w ≤ 4) (hp : p + w ≤ xn) (hN : n < 256 ^ w) : TRet Tryz.prog 145 #[.slice xa xn xc, .int .i64 (p : Int), .int .i64 (w : Int), .int .i64 (n : Int)] s fun v s' => ∃ a' c', v = .tuple #[.slice a' xn c', .int .i64 0] ∧ Ch [τ] s s' ∧ Own s' a' xn c' 5 1 (bvs (wrL l p w n)) τ := by
  obtain ⟨M, hM⟩ : ∃ M : Nat, M = 256 ^ w := ⟨_, rfl⟩
  have hpw := pow_w w hw
  rw [← hM] at hN hpw
  refine F145_calls _ _ _ _ _ _  ?_
  unfold F145
  refine jn_u ?_
  refine sB_d (fun hsB1 => by exfalso; omega) (fun hsB1 => ?_)
  refine sB_d (fun hsB2 => by exfalso; omega) (fun hsB2 => ?_)
  refine sB_d (fun hsB3 => by exfalso; omega) (fun hsB3 => ?_)
  refine sB_d (fun hsB4 => by exfalso; omega) (fun hsB4 => ?_)
  refine wr_t (by omega) ?_
  refine ask_t (by omega) ?_
  refine nm_a fun n63 hn63 => ?_
  rw [hpw.1] at hn63
  intro _ _ _ _ _ _ _ _ _ _ _ _ _ _ _ _ _ _ _ _
  refine dBl_i ?_
  refine sB_d (fun hsB5 => by exfalso; omega) (fun hsB5 => ?_)
  refine wr_t (by omega) ?_
  refine sB_d (fun hsB6 => by exfalso; omega) (fun hsB6 => ?_)
  refine al_t τ fun r25 s26 hr25 b_1 c_2 z_3 => ?_
  have x_4 := hx.mv c_2 (tagn (by simp))
  refine app_i u85 in5 rfl (b_1.own0 1) x_4 (by rw [bvs_len]; omega) (bvs_one l) h0 (by unfold maxLen; omega) fun s30 a1 c1 o_7 c_50 hnil => ?_
  have c_5 := c_50.toL rfl
  have z_6 := c_5.size
  rw [Nat.zero_add, List.nil_append] at o_7
  simp only [Nat.zero_add]
  refine dSl_i ?_
  refine ⟨fun vs H' => ∃ s' : TH, s'.h = H' ∧ ∃ m j, vs = [.int .i64 m, .int .i64 j] ∧ ChL [τ] [] s30 s' ∧ (∃ k : Nat, j = k ∧ k ≤ w ∧ m = ((n / 256 ^ k : Nat) : Int) ∧ Own s' a1 xn c1 5 1 (bvs (wrL l p k n)) τ), fun vs H' => match vs with | [.int .i64 m, .int .i64 j] => ((w : Int) - j).toNat | _ => 0, ⟨s30, rfl, _, _, rfl, ChL.refl _ _ _, ?_⟩, ?_⟩
  ·
    exact ⟨0, rfl, by omega, by simp, o_7⟩
  ·
    intro m j _ _ _ _ _ _ _ _ _ _ _ _ _ _ H52 hI
    obtain ⟨s52, rfl, m_, j_, hvs, c_8, k, rfl, hk, rfl, o_10⟩ := hI
    cases hvs
    have z_9 := c_8.size
    refine sB_d (fun hsB7 => ?_) (fun hsB7 => ?_)
    ·
      refine wr_t (by omega) ?_
      refine ask_t (by omega) ?_
      rw [tm256]
      refine nm_a fun n55 hn55 => ?_
      subst hn55
      refine wr_a fun n56 hn56 => ?_
      rw [u8q] at hn56
      subst hn56
      obtain ⟨ad, rfl⟩ := Own.ne_none o_10 (by omega)
      refine nz_i ?_
      refine ask_t (by omega) ?_
      refine Own.st o_10 rfl (by omega) fun s58 b_11 c_12 z_13 => ?_
      have c_14 := Ch.on_tag (T := [τ]) (Ch.refl _ _) c_12 o_10.tagOf (by simp)
      refine ask_t (by omega) ?_
      have hle : n / 256 ^ (k + 1) ≤ n := Nat.div_le_self _ _
      obtain ⟨q, hq⟩ : ∃ q, q = n / 256 ^ (k + 1) := ⟨_, rfl⟩
      rw [td256, ← hq]
      rw [← hq] at hle
      refine wr_t (by omega) ?_
      refine wr_t (by omega) ?_
      refine ⟨⟨s58, rfl, _, _, rfl, (((ChL.refl [τ] [] s30).chl c_8 (by simp) (by simp <;> omega)).ch c_14 (by simp)), ?_⟩, ?_⟩
      ·
        have ho := b_11
        rw [show Int.toNat ((p : Int) + (k : Int)) * 1 = p + k by omega, bvs_set] at ho
        exact ⟨k + 1, by omega, by omega, by rw [hq], ho⟩
      ·
        simp only []; omega
    ·
      refine ret_t ?_
      obtain rfl : k = w := by omega
      exact ⟨a1, c1, rfl, ((((Ch.refl [τ] s).ch c_2 (by simp)).chl c_5 (by simp) (by simp <;> omega)).chl c_8 (by simp) (by simp <;> omega)), o_10⟩
/-- bollard/bollardref03.number -/
theorem c_rnum (τ : Nat) {xa : Option Addr} {xn : Nat} (xc : Nat) {l : List UInt8} {τx : Nat} {s : TH} (hx : Sl s xa (bvs l) τx) (hn : l.length = xn) (h0 : xa = none → xn = 0) (hb : xn ≤ 1000000000) (p w n : Nat) (hw : 1 ≤ w ∧ w ≤ 4) (hp : p + w ≤ xn) (hN : n < 256 ^ w) : TRet Tryz.prog 81 #[.slice xa xn xc, .int .i64 (p : Int), .int .i64 (w : Int), .int .i64 (n : Int)] s fun v s' => ∃ a' c', v = .slice a' xn c' ∧ Ch [τ] s s' ∧ Own s' a' xn c' 5 1 (bvs (wrL l p w n)) τ := by
  refine F81_calls _ _ _ _ _ _  ?_
  unfold F81
  refine tcall (c_rput τ xc hx hn h0 hb p w n hw hp hN) ?_
  rintro _ s2 ⟨a', c', rfl, c_1, o_3⟩
  have z_2 := c_1.size
  refine dT2 ?_
  refine dSl_i ?_
  refine dInt_i ?_
  refine ret_t ?_
  exact ⟨a', c', rfl, ((Ch.refl [τ] s).ch c_1 (by simp)), o_3⟩
/-- bollard/bollardref01.Sum -/
theorem c_rsum {xa : Option Addr} {xn : Nat} (xc : Nat) {l : List UInt8} {τx : Nat} {s : TH} (hx : Sl s xa (bvs l) τx) (hn : l.length = xn) (hb : xn ≤ 1000000000) : TRet Tryz.prog 146 #[.slice xa xn xc] s fun v s' => v = .int .i64 (sumN l : Int) ∧ Ch [] s s' := by
  refine F146_calls _ _ _  ?_
  unfold F146
  refine ⟨fun vs H' => ∃ s' : TH, s'.h = H' ∧ ∃ x1 y1 m, vs = [.int .i64 x1, .int .i64 y1, .int .i64 m] ∧ ChL [] [] s s' ∧ (∃ k : Nat, m = k ∧ k ≤ xn ∧ x1 = ((sumS (l.take k)).1 : Int) ∧ y1 = ((sumS (l.take k)).2 : Int)), fun vs H' => match vs with | [.int .i64 x1, .int .i64 y1, .int .i64 m] => ((xn : Int) - m).toNat | _ => 0, ⟨s, rfl, _, _, _, rfl, ChL.refl _ _ _, ?_⟩, ?_⟩
  ·
    exact ⟨0, rfl, by omega, rfl, rfl⟩
  ·
    intro x1 y1 m _ _ _ _ _ _ _ _ _ _ _ _ _ _ H20 hI
    obtain ⟨s20, rfl, x1_, y1_, m_, hvs, c_1, k, rfl, hk, rfl, rfl⟩ := hI
    cases hvs
    have z_2 := c_1.size
    refine sB_d (fun hsB1 => ?_) (fun hsB1 => ?_)
    ·
      have hk2 : k < xn := by omega
      obtain ⟨b, hbk⟩ : ∃ b, l[k]? = some b := ⟨l[k]'(by omega), by simp⟩
      obtain ⟨ad, rfl⟩ := hx.some (fun e => by have := bvs_get hbk; rw [e] at this; simp at this)
      have hlt := sumS_lt (l.take k)
      have hb8 := b.toNat_lt
      refine nz_i ?_
      refine ask_t (by omega) ?_
      have x_3 := hx.mv c_1 (tagL (by simp <;> omega) (by simp))
      refine ld_sl x_3 (by rw [Int.toNat_natCast, Nat.mul_one]; exact bvs_get hbk) ?_
      refine dInt_i ?_
      refine wr_t (by omega) ?_
      refine wr_t (by omega) ?_
      refine ask_t (by omega) ?_
      refine nm_a fun n27 hn27 => ?_
      rw [Int.tmod_eq_emod_of_nonneg (by omega)] at hn27
      refine wr_t (by omega) ?_
      refine ask_t (by omega) ?_
      refine nm_a fun n29 hn29 => ?_
      rw [Int.tmod_eq_emod_of_nonneg (by omega)] at hn29
      refine wr_t (by omega) ?_
      refine ⟨⟨s20, rfl, _, _, _, rfl, ((ChL.refl [] [] s).chl c_1 (by simp) (by simp <;> omega)), ?_⟩, ?_⟩
      ·
        have hs := sumS_snoc (l.take k) b
        rw [show l.take k ++ [b] = l.take (k + 1) by rw [List.take_add_one, hbk]; rfl] at hs
        exact ⟨k + 1, by omega, by omega, by rw [hs]; simp only []; omega, by rw [hs]; simp only []; omega⟩
      ·
        simp only []; omega
    ·
      have hlt := sumS_lt (l.take k)
      refine wr_t (by omega) ?_
      refine wr_t (by omega) ?_
      refine ret_t ?_
      obtain rfl : k = xn := by omega
      rw [List.take_of_length_le (by omega)]
      exact ⟨ret_i (by unfold sumN; omega), ((Ch.refl [] s).chl c_1 (by simp) (by simp <;> omega))⟩
theorem Sl.takeB {s : TH} {a : Option Addr} {l : List UInt8} {τ : Nat} (h : Sl s a (bvs l) τ) (k : Nat) : Sl s a (bvs (l.take k)) τ := by
  rcases h with h | ⟨g, o, h1, h2, h3, h4⟩
  · left
    have : l = [] := by simpa [bvs] using h
    subst this; simp [bvs]
  · refine .inr ⟨g, o, h1, h2, h3, fun j v hv => h4 j v ?_⟩
    unfold bvs at hv ⊢
    rw [List.map_take, List.getElem?_take] at hv
    split at hv
    · exact hv
    · cases hv
def sealL (l : List UInt8) : List UInt8 := wrL l (l.length - 4) 4 (sumN (l.take (l.length - 4)))
theorem sealL_len (l : List UInt8) : (sealL l).length = l.length := wrL_len _ _ _ _
theorem sumN_lt (l : List UInt8) : sumN l < 256 ^ 4 := by
  have := sumS_lt l
  unfold sumN
  omega
def superBase : List UInt8 := [98, 111, 108, 108] ++ List.replicate 124 0
def superL (g b n m : Nat) : List UInt8 := sealL (wrL (wrL (wrL (wrL superBase 4 1 g) 5 1 (b - 1)) 6 1 n) 8 4 m)
theorem superL_len (g b n m : Nat) : (superL g b n m).length = 128 := by unfold superL; rw [sealL_len, wrL_len, wrL_len, wrL_len, wrL_len]; rfl
def GeoOk (g b n : Nat) : Prop := 1 ≤ g ∧ g ≤ 8 ∧ 8 ≤ b ∧ b ≤ 256 ∧ 4 ≤ n ∧ n ≤ 64 ∧ n % 4 = 0 ∧ 3 + n / 4 ≤ b
/-- bollard/bollardref01.Seal -/
theorem c_rseal (τ : Nat) {xa : Option Addr} {xn : Nat} (xc : Nat) {l : List UInt8} {τx : Nat} {s : TH} (hx : Sl s xa (bvs l) τx) (hn : l.length = xn) (h0 : xa = none → xn = 0) (hb : xn ≤ 1000000000) (hc : xn ≤ xc) (h4 : 4 ≤ xn) : TRet Tryz.prog 82 #[.slice xa xn xc] s fun v s' => ∃ a' c', v = .tuple #[.slice a' xn c', .int .i64 0] ∧ Ch [τ] s s' ∧ Own s' a' xn c' 5 1 (bvs (sealL l)) τ := by
  refine F82_calls _ _ _  ?_
  unfold F82
  refine sB_d (fun hsB1 => by exfalso; omega) (fun hsB1 => ?_)
  refine wr_t (by omega) ?_
  rw [show ((xn : Int) - 4) = ((xn - 4 : Nat) : Int) by omega]
  refine wr_t (by omega) ?_
  refine ask_t (by omega) ?_
  simp only [slO_zero, Int.toNat_zero, Nat.sub_zero, Int.toNat_natCast]
  refine tcall (c_rsum (xn := xn - 4) xc (hx.takeB (xn - 4)) (by simp; omega) (by omega)) ?_
  rintro _ s4 ⟨rfl, c_1⟩
  have z_2 := c_1.size
  refine dInt_i ?_
  have x_3 := hx.mv c_1 (tagn (by simp))
  refine tcall (c_rput τ xc x_3 hn h0 hb (xn - 4) 4 (sumN (l.take (xn - 4))) (by omega) (by omega) (sumN_lt _)) ?_
  rintro _ s7 ⟨a', c', rfl, c_4, o_6⟩
  have z_5 := c_4.size
  refine dT2 ?_
  refine dSl_i ?_
  refine dInt_i ?_
  refine ret_t ?_
  exact ⟨a', c', rfl, (((Ch.refl [τ] s).ch c_1 (by simp)).ch c_4 (by simp)), by unfold sealL; rw [hn]; exact o_6⟩
/-- bollard/bollardref03.may -/
theorem c_rmay (g b n : Nat) {s : TH} (hv : GeoOk g b n) : TRet Tryz.prog 158 #[.agg #[.int .i64 (g : Int), .int .i64 (b : Int), .int .i64 (n : Int)]] s fun v s' => v = .bool true ∧ Ch [] s s' := by
  have hv2 := hv
  unfold GeoOk at hv2
  refine F158_calls _ _ _  ?_
  unfold F158
  refine al_t 0 fun r1 s2 hr1 b_1 c_2 z_3 => ?_
  refine ld_t b_1 rfl ?_
  refine dInt_i ?_
  refine sB_d (fun hsB1 => ?_) (fun hsB1 => by exfalso; omega)
  refine ld_t b_1 rfl ?_
  refine dInt_i ?_
  refine sB_d (fun hsB2 => ?_) (fun hsB2 => by exfalso; omega)
  refine ld_t b_1 rfl ?_
  refine dInt_i ?_
  refine sB_d (fun hsB3 => ?_) (fun hsB3 => by exfalso; omega)
  refine ld_t b_1 rfl ?_
  refine dInt_i ?_
  refine sB_d (fun hsB4 => ?_) (fun hsB4 => by exfalso; omega)
  refine ld_t b_1 rfl ?_
  refine dInt_i ?_
  refine sB_d (fun hsB5 => ?_) (fun hsB5 => by exfalso; omega)
  refine ld_t b_1 rfl ?_
  refine dInt_i ?_
  refine sB_d (fun hsB6 => ?_) (fun hsB6 => by exfalso; omega)
  refine ld_t b_1 rfl ?_
  refine dInt_i ?_
  refine ask_t (by omega) ?_
  refine nm_a fun n17 hn17 => ?_
  rw [Int.tmod_eq_emod_of_nonneg (by omega)] at hn17
  refine sB_eq (fun hsB7 => ?_) (fun hsB7 => by exfalso; omega)
  refine ld_t b_1 rfl ?_
  refine dInt_i ?_
  refine ld_t b_1 rfl ?_
  refine dInt_i ?_
  refine ask_t (by omega) ?_
  rw [Int.tdiv_eq_ediv_of_nonneg (by omega)]
  refine wr_t (by omega) ?_
  refine wr_t (by omega) ?_
  refine ret_t ?_
  exact ⟨ret_b (by simp; omega), ((Ch.refl [] s).ch c_2 (by simp))⟩
/-- bollard/bollardref03.EncodeSuper -/
theorem c_encSuper (τ : Nat) (g b n m : Nat) {s : TH} (hτ : τ ≠ 0) (hv : GeoOk g b n) (hm : m < 4294967296) : TRet Tryz.prog 110 #[.agg #[.int .i64 (g : Int), .int .i64 (b : Int), .int .i64 (n : Int), .int .i64 (m : Int)]] s fun v s' => ∃ a' c', v = .tuple #[.slice a' 128 c', .int .i64 0] ∧ Ch [τ] s s' ∧ Own s' a' 128 c' 5 1 (bvs (superL g b n m)) τ := by
  have hv2 := hv
  unfold GeoOk at hv2
  refine F110_calls _ _ _ _  ?_
  unfold F110
  refine al_t 0 fun r1 s2 hr1 b_1 c_2 z_3 => ?_
  refine jn_u ?_
  refine ld_t b_1 rfl ?_
  refine ld_t b_1 rfl ?_
  refine ld_t b_1 rfl ?_
  refine tcall (c_rmay g b n hv) ?_
  rintro _ s87 ⟨rfl, c_4⟩
  have z_5 := c_4.size
  refine dBl_i ?_
  refine sB_f (by rfl) ?_
  have r1_6 := b_1.ch c_4 (by simp)
  refine ld_t r1_6 rfl ?_
  refine dInt_i ?_
  refine sB_d (fun hsB2 => by exfalso; omega) (fun hsB2 => ?_)
  refine ld_t r1_6 rfl ?_
  refine dInt_i ?_
  intro _ _ _ _ _ _ _ _ _ _ _ _ _
  refine dBl_i ?_
  refine sB_d (fun hsB3 => by exfalso; omega) (fun hsB3 => ?_)
  refine al_t 0 fun r19 s20 hr19 b_7 c_8 z_9 => ?_
  refine conv_lit u85 u5 (show Blk _ _ (bvs [98, 111, 108, 108]) _ _ from b_7) rfl fun s24 lit_12 c_10 hsz => ?_
  have z_11 := c_10.size
  refine dSl_i ?_
  refine appz_g (m := 124) τ u85 u3 in5 lit_12 rfl (by omega) (by omega) fun s31 a2 c2 o_15 c_13 hne => ?_
  have z_14 := c_13.size
  refine dSl_i ?_
  have r1_16 := r1_6.ch c_8 (by simp)
  have r1_17 := r1_16.on c_10 (by omega)
  have r1_18 := r1_17.ch c_13 (by simp)
  refine ld_t r1_18 rfl ?_
  refine dInt_i ?_
  refine tcall (c_rnum τ _ o_15.sl (by simp [wrL_len, superBase]) o_15.none_iff (by omega) 4 1 g (by omega) (by omega) (by unfold GeoOk at hv; omega)) ?_
  rintro _ s38 ⟨acall2, ccall2, rfl, c_19, o_21⟩
  have z_20 := c_19.size
  refine dSl_i ?_
  have r1_22 := r1_18.ch c_19 (by intro h; simp only [List.mem_cons, List.not_mem_nil, or_false] at h <;> omega)
  refine ld_t r1_22 rfl ?_
  refine dInt_i ?_
  refine wr_t (by omega) ?_
  rw [show ((b : Int) - 1) = ((b - 1 : Nat) : Int) by omega]
  refine tcall (c_rnum τ _ o_21.sl (by simp [wrL_len, superBase]) o_21.none_iff (by omega) 5 1 (b - 1) (by omega) (by omega) (by unfold GeoOk at hv; omega)) ?_
  rintro _ s46 ⟨acall3, ccall3, rfl, c_23, o_25⟩
  have z_24 := c_23.size
  refine dSl_i ?_
  have r1_26 := r1_22.ch c_23 (by intro h; simp only [List.mem_cons, List.not_mem_nil, or_false] at h <;> omega)
  refine ld_t r1_26 rfl ?_
  refine dInt_i ?_
  refine tcall (c_rnum τ _ o_25.sl (by simp [wrL_len, superBase]) o_25.none_iff (by omega) 6 1 n (by omega) (by omega) (by unfold GeoOk at hv; omega)) ?_
  rintro _ s53 ⟨acall4, ccall4, rfl, c_27, o_29⟩
  have z_28 := c_27.size
  refine dSl_i ?_
  have r1_30 := r1_26.ch c_27 (by intro h; simp only [List.mem_cons, List.not_mem_nil, or_false] at h <;> omega)
  refine ld_t r1_30 rfl ?_
  refine dInt_i ?_
  refine tcall (c_rnum τ _ o_29.sl (by simp [wrL_len, superBase]) o_29.none_iff (by omega) 8 4 m (by omega) (by omega) (by omega)) ?_
  rintro _ s60 ⟨acall5, ccall5, rfl, c_31, o_33⟩
  have z_32 := c_31.size
  refine dSl_i ?_
  refine tcall (c_rseal τ _ o_33.sl (by simp [wrL_len, superBase]) o_33.none_iff (by omega) o_33.le (by omega)) ?_
  rintro _ s65 ⟨a6, c6, rfl, c_34, o_36⟩
  have z_35 := c_34.size
  refine dT2 ?_
  refine dSl_i ?_
  refine dInt_i ?_
  refine ret_t ?_
  exact ⟨a6, c6, rfl, (((((((((((Ch.refl [τ] s).ch c_2 (by simp)).ch c_4 (by simp)).ch c_8 (by simp)).on_new c_10 (by omega)).ch c_13 (by simp)).ch c_19 (by simp)).ch c_23 (by simp)).ch c_27 (by simp)).ch c_31 (by simp)).ch c_34 (by simp)), o_36⟩
end Go.Proofs.YtklppdodadkcnaaGreat.E
/- Contracts of functions. -/
namespace Go.Proofs.YtklppdodadkcnaaGreat.E
open Go Go.Proofs
set_option linter.unusedVariables false
set_option linter.unusedSimpArgs false
/-- a bit of a row -/
def hasB (l : List UInt8) (i : Nat) : Bool := ((l.getD (i / 8) 0).toNat / 2 ^ (i % 8)) % 2 == 1
def xorB (b : UInt8) (k : Nat) : UInt8 := UInt8.ofBitVec (b.toBitVec ^^^ BitVec.ofNat 8 (2 ^ k))
def setB (l : List UInt8) (i : Nat) : List UInt8 := if hasB l i = true then l else l.set (i / 8) (xorB (l.getD (i / 8) 0) (i % 8))
theorem setB_len (l : List UInt8) (i : Nat) : (setB l i).length = l.length := by unfold setB; split <;> simp
theorem td8 (i : Nat) : Int.tdiv (i : Int) 8 = ((i / 8 : Nat) : Int) := by rw [Int.tdiv_eq_ediv_of_nonneg (by omega)]; omega
theorem tm8 (i : Nat) : Int.tmod (i : Int) 8 = ((i % 8 : Nat) : Int) := by rw [Int.tmod_eq_emod_of_nonneg (by omega)]; omega
theorem shr8 (b k : Nat) (hk : k < 8) : Int.fdiv (b : Int) (2 ^ min (Int.toNat (k : Int)) 8) = ((b / 2 ^ k : Nat) : Int) := by
  rw [Int.toNat_natCast, Nat.min_eq_left (by omega), Int.fdiv_eq_ediv_of_nonneg _ (by exact Int.le_of_lt (Int.pow_pos (by omega)))]
  rw [Int.natCast_ediv, Int.natCast_pow]; rfl
theorem tm2 (q : Nat) : Int.tmod (q : Int) 2 = ((q % 2 : Nat) : Int) := by rw [Int.tmod_eq_emod_of_nonneg (by omega)]; omega
theorem shl8 (k : Nat) (hk : k < 8) : IntKind.u8.wrap (1 * 2 ^ min (Int.toNat (k : Int)) 8) = ((2 ^ k : Nat) : Int) := by
  rcases (by omega : k = 0 ∨ k = 1 ∨ k = 2 ∨ k = 3 ∨ k = 4 ∨ k = 5 ∨ k = 6 ∨ k = 7) with rfl | rfl | rfl | rfl | rfl | rfl | rfl | rfl <;> decide
theorem xor8 (b : UInt8) (k : Nat) : IntKind.u8.wrap (BitVec.toNat (BitVec.ofInt 8 (b.toNat : Int) ^^^ BitVec.ofInt 8 ((2 ^ k : Nat) : Int)) : Int) = ((xorB b k).toNat : Int) := by
  have e1 : BitVec.ofInt 8 (b.toNat : Int) = b.toBitVec := by
    rw [BitVec.ofInt_natCast]; simp
  have e2 : BitVec.ofInt 8 ((2 ^ k : Nat) : Int) = BitVec.ofNat 8 (2 ^ k) := BitVec.ofInt_natCast 8 (2 ^ k)
  rw [e1, e2]
  show (_ : Int) % 256 = _
  have := (b.toBitVec ^^^ BitVec.ofNat 8 (2 ^ k)).isLt
  unfold xorB
  show ((BitVec.toNat (b.toBitVec ^^^ BitVec.ofNat 8 (2 ^ k)) : Nat) : Int) % 256 = ((BitVec.toNat (b.toBitVec ^^^ BitVec.ofNat 8 (2 ^ k)) : Nat) : Int)
  omega
/-- bollard/bollardref05.Has -/
theorem c_rhasb {xa : Option Addr} {xn : Nat} (xc : Nat) {l : List UInt8} {τx : Nat} {s : TH} (hx : Sl s xa (bvs l) τx) (hn : l.length = xn) (i : Nat) (hi : i ≤ 100000000000) : TRet Tryz.prog 159 #[.slice xa xn xc, .int .i64 (i : Int)] s fun v s' => v = .bool (hasB l i) ∧ Ch [] s s' := by
  refine F159_calls _ _ _ _  ?_
  unfold F159
  refine sB_d (fun hsB1 => ?_) (fun hsB1 => by exfalso; omega)
  refine ask_t (by omega) ?_
  try rw [td8]
  refine wr_t (by omega) ?_
  refine sB_d (fun hsB2 => ?_) (fun hsB2 => ?_)
  ·
    refine ask_t (by omega) ?_
    try rw [td8]
    refine wr_t (by omega) ?_
    obtain ⟨b, hbk⟩ : ∃ b, l[i / 8]? = some b := ⟨l[i / 8]'(by omega), by simp⟩
    have hgd : l.getD (i / 8) 0 = b := by rw [List.getD_eq_getElem?_getD, hbk]; rfl
    obtain ⟨ad, rfl⟩ := hx.some (fun e => by have := bvs_get hbk; rw [e] at this; simp at this)
    refine nz_i ?_
    refine ask_t (by omega) ?_
    refine ld_sl hx (by rw [Int.toNat_natCast, Nat.mul_one]; exact bvs_get hbk) ?_
    refine dInt_i ?_
    refine ask_t (by omega) ?_
    rw [tm8]
    refine nm_t rfl ?_
    refine ask_t (by omega) ?_
    rw [shr8 _ _ (by omega)]
    refine nm_t rfl ?_
    refine ask_t (by omega) ?_
    rw [tm2]
    refine nm_t rfl ?_
    refine ret_t ?_
    exact ⟨ret_b (by unfold hasB; rw [hgd]; apply Bool.eq_iff_iff.2; simp only [beq_iff_eq]; omega), (Ch.refl [] s)⟩
  ·
    refine ret_t ?_
    exact ⟨ret_b (by unfold hasB; rw [List.getD_eq_getElem?_getD, List.getElem?_eq_none (by omega)]; simp), (Ch.refl [] s)⟩
/-- bollard/bollardref05.With -/
theorem c_rwith (τ : Nat) {xa : Option Addr} {xn : Nat} (xc : Nat) {l : List UInt8} {τx : Nat} {s : TH} (hx : Sl s xa (bvs l) τx) (hn : l.length = xn) (h0 : xa = none → xn = 0) (hb : xn ≤ 1000000000) (i : Nat) (hi : i / 8 < xn) (hne : τx ≠ τ) : TRet Tryz.prog 111 #[.slice xa xn xc, .int .i64 (i : Int), .bool true] s fun v s' => ∃ a' c', v = .tuple #[.slice a' xn c', .int .i64 0] ∧ Ch [τ] s s' ∧ Own s' a' xn c' 5 1 (bvs (setB l i)) τ := by
  refine F111_calls _ _ _ _ _  ?_
  unfold F111
  refine jn_u ?_
  refine sB_d (fun hsB1 => by exfalso; omega) (fun hsB1 => ?_)
  refine ask_t (by omega) ?_
  try rw [td8]
  refine wr_t (by omega) ?_
  intro _ _ _ _ _ _ _ _
  refine dBl_i ?_
  refine sB_d (fun hsB2 => by exfalso; omega) (fun hsB2 => ?_)
  refine al_t τ fun r12 s13 hr12 b_1 c_2 z_3 => ?_
  have x_4 := hx.mv c_2 (tagn (by simp))
  refine app_i u85 in5 rfl (b_1.own0 1) x_4 (by rw [bvs_len]; omega) (bvs_one l) h0 (by unfold maxLen; omega) fun s17 a1 c1 o_7 c_50 hnil => ?_
  have c_5 := c_50.toL rfl
  have z_6 := c_5.size
  rw [Nat.zero_add, List.nil_append] at o_7
  simp only [Nat.zero_add]
  refine dSl_i ?_
  refine jn_u ?_
  have x_8 := x_4.mv c_5 (tagL (by simp <;> omega) (by intro r hr; simp only [List.mem_cons, List.not_mem_nil, or_false] at hr; rcases hr with rfl <;> first | (rw [b_1.tag]; simp <;> omega)))
  refine tcall (c_rhasb xc x_8 hn i (by omega)) ?_
  rintro _ s42 ⟨rfl, c_9⟩
  have z_10 := c_9.size
  refine dBl_i ?_
  first | refine sB_d (fun hsB3 => ?_) (fun hsB3 => ?_) | refine sB_nd (fun hsB3 => ?_) (fun hsB3 => ?_) | refine sB_n (fun hsB3 => ?_) (fun hsB3 => ?_) | refine sB_i (fun hsB3 => ?_) (fun hsB3 => ?_)
  ·
    refine ask_t (by omega) ?_
    try rw [td8]
    refine wr_t (by omega) ?_
    refine ask_t (by omega) ?_
    try rw [td8]
    refine wr_t (by omega) ?_
    have o_11 := o_7.mv c_9 (tagn (by simp))
    have hnh : hasB l i = false := by simpa using hsB3
    obtain ⟨b, hbk⟩ : ∃ b, l[i / 8]? = some b := ⟨l[i / 8]'(by omega), by simp⟩
    have hgd : l.getD (i / 8) 0 = b := by rw [List.getD_eq_getElem?_getD, hbk]; rfl
    obtain ⟨ad, rfl⟩ := Own.ne_none o_11 (by omega)
    refine nz_i ?_
    refine ask_t (by omega) ?_
    refine ld_sl (o_11.sl) (by rw [Int.toNat_natCast, Nat.mul_one]; exact bvs_get hbk) ?_
    refine dInt_i ?_
    refine ask_t (by omega) ?_
    rw [tm8]
    refine nm_t rfl ?_
    refine ask_t (by omega) ?_
    rw [shl8 _ (by omega)]
    refine nm_t rfl ?_
    rw [xor8]
    refine nm_t rfl ?_
    refine nz_i ?_
    refine ask_t (by omega) ?_
    refine Own.st o_11 rfl (by omega) fun s53 b_12 c_13 z_14 => ?_
    have c_15 := Ch.on_tag (T := [τ]) (Ch.refl _ _) c_13 o_11.tagOf (by simp)
    intro _ _ _ _ _ _ _ _ _ _ _ _ _ _ _ _ _ _
    refine ret_t ?_
    have ho := b_12
    rw [show Int.toNat ((i / 8 : Nat) : Int) * 1 = i / 8 by omega, bvs_set] at ho
    exact ⟨_, c1, rfl, (((((Ch.refl [τ] s).ch c_2 (by simp)).chl c_5 (by simp) (by simp <;> omega)).ch c_9 (by simp)).ch c_15 (by simp)), by unfold setB; rw [if_neg (by simp [hnh]), hgd]; exact ho⟩
  ·
    intro _ _ _ _ _ _ _ _ _ _ _ _ _ _ _ _ _ _
    refine ret_t ?_
    have o_16 := o_7.mv c_9 (tagn (by simp))
    have hh : hasB l i = true := by simpa using hsB3
    exact ⟨a1, c1, rfl, ((((Ch.refl [τ] s).ch c_2 (by simp)).chl c_5 (by simp) (by simp <;> omega)).ch c_9 (by simp)), by unfold setB; rw [if_pos hh]; exact o_16⟩
end Go.Proofs.YtklppdodadkcnaaGreat.E
/- Contracts of functions. -/
namespace Go.Proofs.YtklppdodadkcnaaGreat.E
open Go Go.Proofs
set_option linter.unusedVariables false
set_option linter.unusedSimpArgs false
theorem rowZ_by (n : Nat) : rowZ [.int .u8 0] n = bvs (List.replicate n 0) := by
  induction n with
  | zero => rfl
  | succ n ih => rw [List.replicate_succ, bvs, List.map_cons, ← bvs, ← ih]; rfl
/-- an inode that may be -/
def DinOk (m l z : Nat) (d0 d1 d2 d3 e1 e2 : Nat) : Prop := (m = 1 ∨ m = 2) ∧ l ≤ 1000 ∧ z ≤ 532992 ∧ d0 < 2048 ∧ d1 < 2048 ∧ d2 < 2048 ∧ d3 < 2048 ∧ e1 < 2048 ∧ e2 < 2048 ∧ (m = 2 → z % 128 = 0)
def dirL (l : List UInt8) (d : List Nat) : Nat → List UInt8
  | 0 => l
  | k + 1 => wrL (dirL l d k) (8 + 2 * k) 2 (d.getD k 0)
theorem dirL_len (l : List UInt8) (d : List Nat) (k : Nat) : (dirL l d k).length = l.length := by
  induction k with
  | zero => rfl
  | succ k ih => rw [dirL, wrL_len, ih]
def dinL (m l z d0 d1 d2 d3 e1 e2 : Nat) : List UInt8 :=
  sealL (wrL (wrL (dirL (wrL (wrL (wrL (List.replicate 32 0) 0 1 m) 2 2 l) 4 4 z) [d0, d1, d2, d3] 4) 16 2 e1) 18 2 e2)
theorem dinL_len (m l z d0 d1 d2 d3 e1 e2 : Nat) : (dinL m l z d0 d1 d2 d3 e1 e2).length = 32 := by unfold dinL; rw [sealL_len, wrL_len, wrL_len, dirL_len, wrL_len, wrL_len, wrL_len]; simp
/-- bollard/bollardref03.address -/
theorem c_raddr (n : Nat) {s : TH} : TRet Tryz.prog 144 #[.int .i64 (n : Int)] s fun v s' => v = .bool (decide (n < 2048)) ∧ Ch [] s s' := by
  refine F144_calls _  ?_
  unfold F144
  refine sB_d (fun hsB1 => ?_) (fun hsB1 => by exfalso; omega)
  refine ret_t ?_
  exact ⟨ret_b (by apply Bool.eq_iff_iff.2; simp only [decide_eq_true_eq]; omega), (Ch.refl [] s)⟩
/-- bollard/bollardref03.mayDinode -/
theorem c_rmayd (m l z d0 d1 d2 d3 e1 e2 : Nat) {s : TH} (hv : DinOk m l z d0 d1 d2 d3 e1 e2) : TRet Tryz.prog 80 #[.agg #[.int .i64 (m : Int), .int .i64 (l : Int), .int .i64 (z : Int), .int .i64 (d0 : Int), .int .i64 (d1 : Int), .int .i64 (d2 : Int), .int .i64 (d3 : Int), .int .i64 (e1 : Int), .int .i64 (e2 : Int)]] s fun v s' => v = .bool true ∧ Ch [] s s' := by
  have hv2 := hv
  unfold DinOk at hv2
  refine F80_calls _ _ _ _ _ _ _ _ _  ?_
  unfold F80
  refine al_t 0 fun r1 s2 hr1 b_1 c_2 z_3 => ?_
  refine ld_t b_1 rfl ?_
  refine dInt_i ?_
  refine sB_eq (fun hsB1 => by exfalso; omega) (fun hsB1 => ?_)
  refine jn1 (fun v19 s' => ChL [] [] s2 s' ∧ (v19 = Value.bool false)) ?_ ?_
  ·
    rintro v19 s20 ⟨c_4, rfl⟩
    have z_5 := c_4.size
    intro _ _ _ _ _ _ _ _ _ _ _ _ _ _ _ _ _ _ _ _ _ _ _ _ _ _ _
    refine dBl_i ?_
    refine sB_f (by rfl) ?_
    have r1_6 := b_1.chl c_4 (by simp <;> omega) (by simp <;> omega)
    refine ld_t r1_6 rfl ?_
    refine ld_t r1_6 rfl ?_
    refine ld_t r1_6 rfl ?_
    refine ld_t r1_6 rfl ?_
    refine ⟨fun vs H' => ∃ s' : TH, s'.h = H' ∧ ∃ i0, vs = [.int .i64 i0] ∧ ChL [] [] s20 s' ∧ (∃ k : Nat, i0 = k ∧ k ≤ 4), fun vs H' => match vs with | [.int .i64 i0] => (4 - i0).toNat | _ => 0, ⟨s20, rfl, _, rfl, ChL.refl _ _ _, ?_⟩, ?_⟩
    ·
      exact ⟨0, rfl, by omega⟩
    ·
      intro i0 _ _ _ _ _ _ _ _ H64 hI
      obtain ⟨s64, rfl, i0_, hvs, c_7, k, rfl, hk⟩ := hI
      cases hvs
      have z_8 := c_7.size
      refine sB_d (fun hsB3 => ?_) (fun hsB3 => ?_)
      ·
        refine ask_t (by omega) ?_
        obtain ⟨dk, hdk, hgk, hdl⟩ : ∃ dk : Nat, ([Value.int .i64 (d0 : Int), .int .i64 (d1 : Int), .int .i64 (d2 : Int), .int .i64 (d3 : Int)] : List Value)[Int.toNat (k : Int) * 1]? = some (.int .i64 (dk : Int)) ∧ [d0, d1, d2, d3].getD k 0 = dk ∧ dk < 2048 := by rcases (by omega : k = 0 ∨ k = 1 ∨ k = 2 ∨ k = 3) with rfl | rfl | rfl | rfl <;> first | exact ⟨d0, rfl, rfl, by omega⟩ | exact ⟨d1, rfl, rfl, by omega⟩ | exact ⟨d2, rfl, rfl, by omega⟩ | exact ⟨d3, rfl, rfl, by omega⟩
        refine oV_i hdk ?_
        refine dInt_i ?_
        refine tcall (c_raddr dk) ?_
        rintro _ s69 ⟨rfl, c_9⟩
        have z_10 := c_9.size
        refine dBl_i ?_
        refine sB_f (by simp [hdl]) ?_
        refine wr_t (by omega) ?_
        refine ⟨⟨s69, rfl, _, rfl, (((ChL.refl [] [] s20).chl c_7 (by simp) (by simp <;> omega)).ch c_9 (by simp)), ?_⟩, ?_⟩
        ·
          exact ⟨k + 1, by omega, by omega⟩
        ·
          simp only []; omega
      ·
        have r1_11 := r1_6.chl c_7 (by simp <;> omega) (by simp <;> omega)
        refine ld_t r1_11 rfl ?_
        refine dInt_i ?_
        refine tcall (c_raddr e1) ?_
        rintro _ s77 ⟨rfl, c_12⟩
        have z_13 := c_12.size
        refine dBl_i ?_
        refine sB_t (by simp; omega) ?_
        have r1_14 := r1_11.ch c_12 (by simp)
        refine ld_t r1_14 rfl ?_
        refine dInt_i ?_
        refine tcall (c_raddr e2) ?_
        rintro _ s82 ⟨rfl, c_15⟩
        have z_16 := c_15.size
        refine dBl_i ?_
        refine sB_t (by simp; omega) ?_
        have r1_17 := r1_14.ch c_15 (by simp)
        refine ld_t r1_17 rfl ?_
        refine dInt_i ?_
        refine sB_ne (fun hsB7 => ?_) (fun hsB7 => ?_)
        ·
          refine ret_t ?_
          exact ⟨ret_b (by first | rfl | (have hz := hv2.2.2.2.2.2.2.2.2.2 (by omega); exact beq_iff_eq.2 (by omega))), ((((((Ch.refl [] s).ch c_2 (by simp)).chl c_4 (by simp) (by simp <;> omega)).chl c_7 (by simp) (by simp <;> omega)).ch c_12 (by simp)).ch c_15 (by simp))⟩
        ·
          refine ld_t r1_17 rfl ?_
          refine dInt_i ?_
          refine ask_t (by omega) ?_
          refine nm_a fun n88 hn88 => ?_
          rw [Int.tmod_eq_emod_of_nonneg (by omega)] at hn88
          refine ret_t ?_
          exact ⟨ret_b (by first | rfl | (have hz := hv2.2.2.2.2.2.2.2.2.2 (by omega); exact beq_iff_eq.2 (by omega))), ((((((Ch.refl [] s).ch c_2 (by simp)).chl c_4 (by simp) (by simp <;> omega)).chl c_7 (by simp) (by simp <;> omega)).ch c_12 (by simp)).ch c_15 (by simp))⟩
  ·
    intro k93 hk93
    refine ld_t b_1 rfl ?_
    refine dInt_i ?_
    refine sB_ne (fun hsB8 => ?_) (fun hsB8 => ?_)
    ·
      refine ld_t b_1 rfl ?_
      refine dInt_i ?_
      refine sB_ne (fun hsB9 => by exfalso; omega) (fun hsB9 => ?_)
      refine ld_t b_1 rfl ?_
      refine dInt_i ?_
      refine sB_d (fun hsB10 => by exfalso; omega) (fun hsB10 => ?_)
      refine ld_t b_1 rfl ?_
      refine dInt_i ?_
      refine sB_d (fun hsB11 => by exfalso; omega) (fun hsB11 => ?_)
      refine ld_t b_1 rfl ?_
      refine dInt_i ?_
      refine sB_d (fun hsB12 => by exfalso; omega) (fun hsB12 => ?_)
      refine ld_t b_1 rfl ?_
      refine dInt_i ?_
      refine hk93 _ _ ⟨(ChL.refl [] [] s2), ?_⟩
      exact congrArg Value.bool (by simp; omega)
    ·
      refine ld_t b_1 rfl ?_
      refine dInt_i ?_
      refine sB_d (fun hsB13 => by exfalso; omega) (fun hsB13 => ?_)
      refine ld_t b_1 rfl ?_
      refine dInt_i ?_
      refine sB_d (fun hsB14 => by exfalso; omega) (fun hsB14 => ?_)
      refine ld_t b_1 rfl ?_
      refine dInt_i ?_
      refine sB_d (fun hsB15 => by exfalso; omega) (fun hsB15 => ?_)
      refine ld_t b_1 rfl ?_
      refine dInt_i ?_
      refine hk93 _ _ ⟨(ChL.refl [] [] s2), ?_⟩
      exact congrArg Value.bool (by simp; omega)
/-- bollard/bollardref03.EncodeDinode -/
theorem c_encDin (τ : Nat) (m l z d0 d1 d2 d3 e1 e2 : Nat) {s : TH} (hτ : τ ≠ 0) (hv : DinOk m l z d0 d1 d2 d3 e1 e2) : TRet Tryz.prog 29 #[.agg #[.int .i64 (m : Int), .int .i64 (l : Int), .int .i64 (z : Int), .int .i64 (d0 : Int), .int .i64 (d1 : Int), .int .i64 (d2 : Int), .int .i64 (d3 : Int), .int .i64 (e1 : Int), .int .i64 (e2 : Int)]] s fun v s' => ∃ a' c', v = .tuple #[.slice a' 32 c', .int .i64 0] ∧ Ch [τ] s s' ∧ Own s' a' 32 c' 5 1 (bvs (dinL m l z d0 d1 d2 d3 e1 e2)) τ := by
  have hv2 := hv
  unfold DinOk at hv2
  refine F29_calls _ _ _ _ _ _ _ _ _  ?_
  unfold F29
  refine al_t 0 fun r1 s2 hr1 b_1 c_2 z_3 => ?_
  refine ld_t b_1 rfl ?_
  refine ld_t b_1 rfl ?_
  refine ld_t b_1 rfl ?_
  refine ld_t b_1 rfl ?_
  refine ld_t b_1 rfl ?_
  refine ld_t b_1 rfl ?_
  refine ld_t b_1 rfl ?_
  refine ld_t b_1 rfl ?_
  refine ld_t b_1 rfl ?_
  refine tcall (c_rmayd _ _ _ _ _ _ _ _ _ hv) ?_
  rintro _ s13 ⟨rfl, c_4⟩
  have z_5 := c_4.size
  refine dBl_i ?_
  refine sB_f (by rfl) ?_
  refine ask_t (by omega) ?_
  refine al_t 0 fun r15 s16 hr15 b_6 c_7 z_8 => ?_
  have hz0 := b_6.sl
  rw [rowZ_by] at hz0
  have r1_9 := b_1.ch c_4 (by simp)
  have r1_10 := r1_9.ch c_7 (by simp)
  refine ld_t r1_10 rfl ?_
  refine dInt_i ?_
  refine sB_eq (fun hsB2 => by exfalso; omega) (fun hsB2 => ?_)
  refine ld_t r1_10 rfl ?_
  refine dInt_i ?_
  refine tcall (c_rnum τ _ hz0 (by simp) (by intro h; cases h) (by omega) 0 1 m (by omega) (by omega) (by omega)) ?_
  rintro _ s22 ⟨acall2, ccall2, rfl, c_11, o_13⟩
  have z_12 := c_11.size
  refine dSl_i ?_
  have r1_14 := r1_10.ch c_11 (by intro h; simp only [List.mem_cons, List.not_mem_nil, or_false] at h <;> omega)
  refine ld_t r1_14 rfl ?_
  refine dInt_i ?_
  refine tcall (c_rnum τ _ o_13.sl (by simp [wrL_len, dirL_len]) o_13.none_iff (by omega) 2 2 l (by omega) (by omega) (by omega)) ?_
  rintro _ s29 ⟨acall3, ccall3, rfl, c_15, o_17⟩
  have z_16 := c_15.size
  refine dSl_i ?_
  have r1_18 := r1_14.ch c_15 (by intro h; simp only [List.mem_cons, List.not_mem_nil, or_false] at h <;> omega)
  refine ld_t r1_18 rfl ?_
  refine dInt_i ?_
  refine tcall (c_rnum τ _ o_17.sl (by simp [wrL_len, dirL_len]) o_17.none_iff (by omega) 4 4 z (by omega) (by omega) (by omega)) ?_
  rintro _ s36 ⟨acall4, ccall4, rfl, c_19, o_21⟩
  have z_20 := c_19.size
  refine dSl_i ?_
  have r1_22 := r1_18.ch c_19 (by intro h; simp only [List.mem_cons, List.not_mem_nil, or_false] at h <;> omega)
  refine ld_t r1_22 rfl ?_
  refine ld_t r1_22 rfl ?_
  refine ld_t r1_22 rfl ?_
  refine ld_t r1_22 rfl ?_
  refine ⟨fun vs H' => ∃ s' : TH, s'.h = H' ∧ ∃ pa pn pc i0, vs = [.slice pa pn pc, .int .i64 i0] ∧ ChL [τ] [] s36 s' ∧ (∃ k : Nat, i0 = k ∧ k ≤ 4 ∧ pn = 32 ∧ Own s' pa 32 pc 5 1 (bvs (dirL (wrL (wrL (wrL (List.replicate 32 0) 0 1 m) 2 2 l) 4 4 z) [d0, d1, d2, d3] k)) τ), fun vs H' => match vs with | [.slice pa pn pc, .int .i64 i0] => (4 - i0).toNat | _ => 0, ⟨s36, rfl, _, _, _, _, rfl, ChL.refl _ _ _, ?_⟩, ?_⟩
  ·
    exact ⟨0, rfl, by omega, rfl, o_21⟩
  ·
    intro pa pn pc i0 _ _ _ _ _ _ _ _ _ _ _ _ H62 hI
    obtain ⟨s62, rfl, pa_, pn_, pc_, i0_, hvs, c_23, k, rfl, hk, rfl, o_25⟩ := hI
    cases hvs
    have z_24 := c_23.size
    refine sB_d (fun hsB3 => ?_) (fun hsB3 => ?_)
    ·
      refine ask_t (by omega) ?_
      obtain ⟨dk, hdk, hgk, hdl⟩ : ∃ dk : Nat, ([Value.int .i64 (d0 : Int), .int .i64 (d1 : Int), .int .i64 (d2 : Int), .int .i64 (d3 : Int)] : List Value)[Int.toNat (k : Int) * 1]? = some (.int .i64 (dk : Int)) ∧ [d0, d1, d2, d3].getD k 0 = dk ∧ dk < 2048 := by rcases (by omega : k = 0 ∨ k = 1 ∨ k = 2 ∨ k = 3) with rfl | rfl | rfl | rfl <;> first | exact ⟨d0, rfl, rfl, by omega⟩ | exact ⟨d1, rfl, rfl, by omega⟩ | exact ⟨d2, rfl, rfl, by omega⟩ | exact ⟨d3, rfl, rfl, by omega⟩
      refine oV_i hdk ?_
      refine dInt_i ?_
      refine wr_t (by omega) ?_
      refine wr_t (by omega) ?_
      rw [show (8 + 2 * (k : Int)) = ((8 + 2 * k : Nat) : Int) by omega]
      refine tcall (c_rnum τ _ o_25.sl (by simp [wrL_len, dirL_len]) o_25.none_iff (by omega) (8 + 2 * k) 2 dk (by omega) (by omega) (by omega)) ?_
      rintro _ s69 ⟨acall5, ccall5, rfl, c_26, o_28⟩
      have z_27 := c_26.size
      refine dSl_i ?_
      refine wr_t (by omega) ?_
      refine ⟨⟨s69, rfl, _, _, _, _, rfl, (((ChL.refl [τ] [] s36).chl c_23 (by simp) (by simp <;> omega)).ch c_26 (by simp)), ?_⟩, ?_⟩
      ·
        exact ⟨k + 1, by omega, by omega, rfl, by have ho := o_28; rw [dirL, hgk]; exact ho⟩
      ·
        simp only []; omega
    ·
      have r1_29 := r1_22.chl c_23 (by simp <;> omega) (by simp <;> omega)
      refine ld_t r1_29 rfl ?_
      refine dInt_i ?_
      obtain rfl : k = 4 := by omega
      refine tcall (c_rnum τ _ o_25.sl (by simp [wrL_len, dirL_len]) o_25.none_iff (by omega) 16 2 e1 (by omega) (by omega) (by omega)) ?_
      rintro _ s79 ⟨acall6, ccall6, rfl, c_30, o_32⟩
      have z_31 := c_30.size
      refine dSl_i ?_
      have r1_33 := r1_29.ch c_30 (by intro h; simp only [List.mem_cons, List.not_mem_nil, or_false] at h <;> omega)
      refine ld_t r1_33 rfl ?_
      refine dInt_i ?_
      refine tcall (c_rnum τ _ o_32.sl (by simp [wrL_len, dirL_len]) o_32.none_iff (by omega) 18 2 e2 (by omega) (by omega) (by omega)) ?_
      rintro _ s86 ⟨acall7, ccall7, rfl, c_34, o_36⟩
      have z_35 := c_34.size
      refine dSl_i ?_
      refine tcall (c_rseal τ _ o_36.sl (by simp [wrL_len, dirL_len]) o_36.none_iff (by omega) o_36.le (by omega)) ?_
      rintro _ s91 ⟨a8, c8, rfl, c_37, o_39⟩
      have z_38 := c_37.size
      refine dT2 ?_
      refine dSl_i ?_
      refine dInt_i ?_
      refine ret_t ?_
      exact ⟨a8, c8, rfl, (((((((((((Ch.refl [τ] s).ch c_2 (by simp)).ch c_4 (by simp)).ch c_7 (by simp)).ch c_11 (by simp)).ch c_15 (by simp)).ch c_19 (by simp)).chl c_23 (by simp) (by simp <;> omega)).ch c_30 (by simp)).ch c_34 (by simp)).ch c_37 (by simp)), o_39⟩
end Go.Proofs.YtklppdodadkcnaaGreat.E
