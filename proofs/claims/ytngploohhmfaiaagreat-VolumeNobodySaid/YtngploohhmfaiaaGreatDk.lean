/- Contracts of functions. -/
import Derived.Test.YtngploohhmfaiaaGreatProg
import Derived.KernelRfl
import Derived.Test.YtngploohhmfaiaaGreatLib2
import Derived.Test.YtngploohhmfaiaaGreatDr
import Derived.Test.YtngploohhmfaiaaGreatLb
import Derived.Test.YtngploohhmfaiaaGreatF14
import Derived.Test.YtngploohhmfaiaaGreatFm0
import Derived.Test.YtngploohhmfaiaaGreatFm1
import Derived.Test.YtngploohhmfaiaaGreatFm10
import Derived.Test.YtngploohhmfaiaaGreatFm11
import Derived.Test.YtngploohhmfaiaaGreatFm12
import Derived.Test.YtngploohhmfaiaaGreatFm2
import Derived.Test.YtngploohhmfaiaaGreatFm3
import Derived.Test.YtngploohhmfaiaaGreatFm4
import Derived.Test.YtngploohhmfaiaaGreatFm5
import Derived.Test.YtngploohhmfaiaaGreatFm6
import Derived.Test.YtngploohhmfaiaaGreatFm7
import Derived.Test.YtngploohhmfaiaaGreatFm8
import Derived.Test.YtngploohhmfaiaaGreatFm9
namespace Go.Proofs.YtngploohhmfaiaaGreat.E
open Go Go.Proofs
set_option linter.unusedVariables false
/-- (*bollard/disk.Disk).made -/
theorem c_made (d T : Nat) (D : DiskM) (s : TH) (hT : 10 ≤ T) (hd : Disk s d T D) : TRet Tryz.prog 87 #[.pointer (some ⟨d, 0, none⟩)] s fun v s' => v = .bool true ∧ Ch [] s s' := by
  obtain ⟨pa, pc, qa, qc, hs, qs, fr, fm, hD⟩ := id hd
  have hblk := hD.blk
  have hrows := hD.rows
  have hbrel := hD.brel
  have hque := hD.que
  have hqrel := hD.qrel
  have hfails := hD.fails
  refine F87_calls _  ?_
  unfold F87
  refine sB_t (by rfl) ?_
  refine nz_i ?_
  refine ld_t hblk rfl ?_
  refine dSl_i ?_
  refine ret_t ?_
  exact ⟨ret_b (by have := hD.nb; simp; omega), (Ch.refl [] s)⟩

/-- (*bollard/disk.Disk).Blocks -/
theorem c_blocks (d T : Nat) (D : DiskM) (s : TH) (hT : 10 ≤ T) (hd : Disk s d T D) : TRet Tryz.prog 70 #[.pointer (some ⟨d, 0, none⟩)] s fun v s' => v = .int .i64 (D.blocks.length : Int) ∧ Ch [] s s' := by
  obtain ⟨pa, pc, qa, qc, hs, qs, fr, fm, hD⟩ := id hd
  have hblk := hD.blk
  have hrows := hD.rows
  have hbrel := hD.brel
  have hque := hD.que
  have hqrel := hD.qrel
  have hfails := hD.fails
  refine F70_calls _  ?_
  unfold F70
  refine sB_f (by rfl) ?_
  refine nz_i ?_
  refine ld_t hblk rfl ?_
  refine dSl_i ?_
  refine ret_t ?_
  exact ⟨rfl, (Ch.refl [] s)⟩

/-- (*bollard/disk.Disk).look -/
theorem c_look (d T : Nat) (D : DiskM) (b : Int) (s : TH) (hT : 10 ≤ T) (hd : Disk s d T D) : TRet Tryz.prog 193 #[.pointer (some ⟨d, 0, none⟩), .int .i64 b] s fun v s' => v = .int .i64 (if D.has b then 0 else 1) ∧ Ch [] s s' := by
  obtain ⟨pa, pc, qa, qc, hs, qs, fr, fm, hD⟩ := id hd
  have hblk := hD.blk
  have hrows := hD.rows
  have hbrel := hD.brel
  have hque := hD.que
  have hqrel := hD.qrel
  have hfails := hD.fails
  refine F193_calls _ _  ?_
  unfold F193
  refine tcall (c_made _ _ _ _ hT hd) ?_
  rintro _ s2 ⟨rfl, c_1⟩
  have z_2 := c_1.size
  refine dBl_i ?_
  refine sB_f (by rfl) ?_
  refine jn_u ?_
  refine sB_d (fun hsB2 => ?_) (fun hsB2 => ?_)
  ·
    intro _ _ _ _ _ _ _ _ _ _
    refine dBl_i ?_
    refine sB_t (by rfl) ?_
    refine ret_t ?_
    exact ⟨ret_i (by first | rw [if_pos (by unfold DiskM.has; omega)] | rw [if_neg (by unfold DiskM.has; omega)]), ((Ch.refl [] s).ch c_1 (by simp))⟩
  ·
    refine nz_i ?_
    have blk_3 := hblk.ch c_1 (by simp)
    refine ld_t blk_3 rfl ?_
    refine dSl_i ?_
    intro _ _ _ _ _ _ _ _ _ _
    refine dBl_i ?_
    refine sB_d (fun hsB4 => ?_) (fun hsB4 => ?_)
    ·
      refine ret_t ?_
      exact ⟨ret_i (by first | rw [if_pos (by unfold DiskM.has; omega)] | rw [if_neg (by unfold DiskM.has; omega)]), ((Ch.refl [] s).ch c_1 (by simp))⟩
    ·
      refine ret_t ?_
      exact ⟨ret_i (by first | rw [if_pos (by unfold DiskM.has; omega)] | rw [if_neg (by unfold DiskM.has; omega)]), ((Ch.refl [] s).ch c_1 (by simp))⟩

/-- slices.IndexFunc[[]bollard/api.Sent,bollard/api.Sent] -/
theorem c_ixSent {qa : Option Addr} {n : Nat} (qc : Nat) {g : Nat} {xf xc : Array Value} {qs : List (Int × Int × Hd)} {τ : Nat} {s : TH} (p : Int × Int × Hd → Bool) (hq : Sl s qa (qs.flatMap qv) τ) (hn : qs.length = n) (hn2 : n ≤ 1000000) (hg : plainFn Tryz.prog g = true) (hp : ∀ (s1 : TH) (x : Int × Int × Hd), Ch [] s s1 → TRet Tryz.prog g (argsOf xf [.agg #[.int .i64 x.1, .int .i64 x.2.1, .slice x.2.2.1 128 x.2.2.2]] xc) s1 fun v s2 => v = .bool (p x) ∧ Ch [] s1 s2) : TRet Tryz.prog 149 #[.slice qa n qc, .func (.func g) xf xc] s fun v s' => v = .int .i64 (ixf p qs) ∧ Ch [] s s' := by
  refine F149_calls _ _ _ _ _ _  ?_
  unfold F149
  refine ⟨fun vs H' => ∃ s' : TH, s'.h = H' ∧ ∃ m, vs = [.int .i64 m] ∧ ChL [] [] s s' ∧ (∃ k : Nat, m = k ∧ k ≤ n ∧ ∀ j x, j < k → qs[j]? = some x → p x = false), fun vs H' => match vs with | [.int .i64 m] => ((n : Int) - m).toNat | _ => 0, ⟨s, rfl, _, rfl, ChL.refl _ _ _, ?_⟩, ?_⟩
  ·
    exact ⟨0, rfl, by omega, fun j x h => by omega⟩
  ·
    intro m _ _ _ _ _ _ _ _ _ _ _ _ H16 hI
    obtain ⟨s16, rfl, m_, hvs, c_1, k, rfl, hk, hall⟩ := hI
    cases hvs
    have z_2 := c_1.size
    refine sB_d (fun hsB1 => ?_) (fun hsB1 => ?_)
    ·
      have hk2 : k < n := by omega
      obtain ⟨x, hx⟩ : ∃ x, qs[k]? = some x := ⟨qs[k], by simp [hn, hk2]⟩
      obtain ⟨a, rfl⟩ := hq.some (fun e => by have := qcell0 hx; rw [e] at this; simp at this)
      refine nz_i ?_
      refine ask_t (by omega) ?_
      have q_3 := hq.mv c_1 (tagL (by simp <;> omega) (by simp))
      refine ld_sl q_3 (by rw [Int.toNat_natCast]; exact qcell0 hx) ?_
      refine ld_sl2 q_3 (by rw [Int.toNat_natCast]; exact qcell1 hx) ?_
      refine ld_sl2 q_3 (by rw [Int.toNat_natCast]; exact qcell2 hx) ?_
      rw [gB_eq hg]
      refine tcall (hp _ x ((Ch.refl [] s).chl c_1 (by simp) (by simp <;> omega))) ?_
      rintro _ s23 ⟨rfl, c_4⟩
      have z_5 := c_4.size
      refine dBl_i ?_
      first | refine sB_d (fun hsB2 => ?_) (fun hsB2 => ?_) | refine sB_nd (fun hsB2 => ?_) (fun hsB2 => ?_) | refine sB_n (fun hsB2 => ?_) (fun hsB2 => ?_) | refine sB_i (fun hsB2 => ?_) (fun hsB2 => ?_)
      ·
        refine ret_t ?_
        exact ⟨ret_i (ixf_some hx hsB2 hall).symm, (((Ch.refl [] s).chl c_1 (by simp) (by simp <;> omega)).ch c_4 (by simp))⟩
      ·
        refine wr_t (by omega) ?_
        refine ⟨⟨s23, rfl, _, rfl, (((ChL.refl [] [] s).chl c_1 (by simp) (by simp <;> omega)).ch c_4 (by simp)), ?_⟩, ?_⟩
        ·
          refine ⟨k + 1, by omega, by omega, fun j y hj hy => ?_⟩
          by_cases e : j = k
          · subst e; rw [hx] at hy; cases hy; exact hsB2
          · exact hall j y (by omega) hy
        ·
          simp only []; omega
    ·
      refine ret_t ?_
      exact ⟨ret_i (ixf_none fun j y hj hy => hall j y (by omega) hy).symm, ((Ch.refl [] s).chl c_1 (by simp) (by simp <;> omega))⟩

/-- slices.ContainsFunc[[]bollard/api.Sent,bollard/api.Sent] -/
theorem c_ctSent {qa : Option Addr} {n : Nat} (qc : Nat) {g : Nat} {xf xc : Array Value} {qs : List (Int × Int × Hd)} {τ : Nat} {s : TH} (p : Int × Int × Hd → Bool) (hq : Sl s qa (qs.flatMap qv) τ) (hn : qs.length = n) (hn2 : n ≤ 1000000) (hg : plainFn Tryz.prog g = true) (hp : ∀ (s1 : TH) (x : Int × Int × Hd), Ch [] s s1 → TRet Tryz.prog g (argsOf xf [.agg #[.int .i64 x.1, .int .i64 x.2.1, .slice x.2.2.1 128 x.2.2.2]] xc) s1 fun v s2 => v = .bool (p x) ∧ Ch [] s1 s2) : TRet Tryz.prog 194 #[.slice qa n qc, .func (.func g) xf xc] s fun v s' => v = .bool (decide (ixf p qs ≥ 0)) ∧ Ch [] s s' := by
  refine F194_calls _ _ _ _ _ _  ?_
  unfold F194
  refine tcall (c_ixSent qc p hq hn hn2 hg hp) ?_
  rintro _ s2 ⟨rfl, c_1⟩
  have z_2 := c_1.size
  refine dInt_i ?_
  refine ret_t ?_
  exact ⟨rfl, ((Ch.refl [] s).ch c_1 (by simp))⟩

/-- (*bollard/disk.Disk).Write$1 -/
theorem c_w1 (b i k : Int) (p : Hd) (r t : Nat) {s : TH} (hr : Blk s r [.int .i64 b] t 0) : TRet Tryz.prog 195 #[.agg #[.int .i64 i, .int .i64 k, .slice p.1 128 p.2], .pointer (some ⟨r, 0, none⟩)] s fun v s' => v = .bool (k == b) ∧ Ch [] s s' := by
  refine F195_calls _ _ _ _  ?_
  unfold F195
  refine al_t 0 fun r1 s2 hr1 b_1 c_2 z_3 => ?_
  refine ld_t b_1 rfl ?_
  refine dInt_i ?_
  have r_4 := hr.ch c_2 (by simp)
  refine ld_t r_4 rfl ?_
  refine dInt_i ?_
  refine ret_t ?_
  exact ⟨rfl, ((Ch.refl [] s).ch c_2 (by simp))⟩

/-- (*bollard/disk.Disk).place$1 -/
theorem c_p1 (b i k : Int) (p : Hd) (r t : Nat) {s : TH} (hr : Blk s r [.int .i64 b] t 0) : TRet Tryz.prog 150 #[.agg #[.int .i64 i, .int .i64 k, .slice p.1 128 p.2], .pointer (some ⟨r, 0, none⟩)] s fun v s' => v = .bool (i == b) ∧ Ch [] s s' := by
  refine F150_calls _ _ _ _  ?_
  unfold F150
  refine al_t 0 fun r1 s2 hr1 b_1 c_2 z_3 => ?_
  refine ld_t b_1 rfl ?_
  refine dInt_i ?_
  have r_4 := hr.ch c_2 (by simp)
  refine ld_t r_4 rfl ?_
  refine dInt_i ?_
  refine ret_t ?_
  exact ⟨rfl, ((Ch.refl [] s).ch c_2 (by simp))⟩

/-- (*bollard/disk.Disk).place -/
theorem c_place (d T : Nat) (D : DiskM) (b : Int) (s : TH) (hT : 10 ≤ T) (hd : Disk s d T D) : TRet Tryz.prog 90 #[.pointer (some ⟨d, 0, none⟩), .int .i64 b] s fun v s' => ∃ k : Int, v = .int .i64 k ∧ (k = ixf (fun x : SentM => x.id == b) D.queue) ∧ Ch [] s s' := by
  obtain ⟨pa, pc, qa, qc, hs, qs, fr, fm, hD⟩ := id hd
  have hblk := hD.blk
  have hrows := hD.rows
  have hbrel := hD.brel
  have hque := hD.que
  have hqrel := hD.qrel
  have hfails := hD.fails
  refine F90_calls _ _  ?_
  unfold F90
  refine al_t 0 fun r1 s2 hr1 b_1 c_2 z_3 => ?_
  refine nz_i ?_
  have blk_4 := hblk.ch c_2 (by simp)
  refine ld_t blk_4 rfl ?_
  refine dSl_i ?_
  have que_5 := hque.mv c_2 (tagn (by simp))
  refine tcall (c_ixSent _ (fun x => x.1 == b) que_5.sl (by rw [hD.qrel.len]) (by have := hD.nq; omega) (by kernel_rfl) (fun s1 x c1 => c_p1 b x.1 x.2.1 x.2.2 r1 _ (b_1.ch c1 (by simp)))) ?_
  rintro _ s9 ⟨rfl, c_6⟩
  have z_7 := c_6.size
  refine dInt_i ?_
  refine ret_t ?_
  exact ⟨_, rfl, ixf_qrel hD.qrel (fun x => x.1 == b) (fun x => x.id == b) (fun x m h1 h2 => by rw [h1]), (((Ch.refl [] s).ch c_2 (by simp)).ch c_6 (by simp))⟩

/-- slices.Delete[[]bollard/api.Sent,bollard/api.Sent] -/
theorem c_delSent {a : Option Addr} {n c : Nat} (i : Nat) {qs : List (Int × Int × Hd)} {τ : Nat} {s : TH} (hq : Own s a n c 96 3 (qs.flatMap qv) τ) (hi : i < n) (hn : n ≤ 1000) : TRet Tryz.prog 196 #[.slice a n c, .int .i64 (i : Int), .int .i64 ((i : Int) + 1)] s fun v s' => ∃ a' c', v = .slice a' (n - 1) c' ∧ Ch [τ] s s' ∧ Own s' a' (n - 1) c' 96 3 ((qs.eraseIdx i).flatMap qv) τ := by
  rw [show ((i : Int) + 1) = ((i + 1 : Nat) : Int) from by omega]
  have hle := hq.le
  refine F196_calls _ _ _ _ _  ?_
  unfold F196
  refine ask_t (by omega) ?_
  refine sB_eq (fun hsB1 => by exfalso; omega) (fun hsB1 => ?_)
  refine ask_t (by omega) ?_
  refine ask_t (by omega) ?_
  simp only [Int.toNat_natCast, Int.toNat_zero, Nat.sub_zero, slO_zero]
  refine app_i u93 in96 rfl (hq.pre (m := i) (by omega)) (hq.cut (m := i + 1) (by omega)) (by rw [List.length_drop, hq.len, ← Nat.sub_mul]) (one_fm _ _) (by intro h; have := hq.none_iff; cases ha : a with | none => have := this ha; omega | some b => (rw [ha] at h; cases h)) (by unfold maxLen; omega) fun s4 a2 c2 q2_3 c_10 hnil => ?_
  have c_1 := c_10.ch (T := [τ]) hq (by simp)
  have z_2 := c_1.size
  refine dSl_i ?_
  refine ask_t (by omega) ?_
  obtain ⟨rfl, rfl⟩ := hnil.2 (by omega)
  try simp only [Int.toNat_natCast]
  have hin : i + (n - (i + 1)) = n - 1 := by omega
  rw [hin] at q2_3 ⊢
  rw [fm_erase qv_len] at q2_3
  refine clear_t u93 in96 rfl (by intro u hu; simp [Value.cells] at hu; rcases hu with rfl | rfl | rfl <;> rfl) q2_3 (m := n) (by omega) (by omega) fun s11 q3_6 c_40 _ => ?_
  have c_4 := c_40.ch (T := [τ]) q2_3 (by simp)
  have z_5 := c_4.size
  refine ret_t ?_
  exact ⟨_, _, rfl, (((Ch.refl [τ] s).ch c_1 (by simp)).ch c_4 (by simp)), q3_6⟩

/-- (*bollard/disk.Disk).Write -/
theorem c_write (d T : Nat) (D : DiskM) (b : Int) {xa : Option Addr} (xn xc : Nat) {l : List UInt8} {τx : Nat} (s : TH) (hT : 10 ≤ T) (hd : Disk s d T D) (hx : Sl s xa (bvs l) τx) (hxl : l.length = xn) (hx1 : xn ≤ 1000000) (hx2 : τx ≠ T) (hlast : 0 ≤ D.last ∧ D.last ≤ 1000000000000000000) : TRet Tryz.prog 144 #[.pointer (some ⟨d, 0, none⟩), .int .i64 b, .slice xa xn xc] s fun v s' => v = .tuple #[.int .i64 (D.write b l).2.1, .int .i64 (D.write b l).2.2] ∧ Ch [T, T + 1, T + 2, T + 3, T + 4] s s' ∧ Disk s' d T (D.write b l).1 := by
  obtain ⟨pa, pc, qa, qc, hs, qs, fr, fm, hD⟩ := id hd
  have hblk := hD.blk
  have hrows := hD.rows
  have hbrel := hD.brel
  have hque := hD.que
  have hqrel := hD.qrel
  have hfails := hD.fails
  refine F144_calls _ _ _ _ _  ?_
  unfold F144
  refine al_t 0 fun r1 s2 hr1 b_1 c_2 z_3 => ?_
  refine ld_t b_1 rfl ?_
  refine dInt_i ?_
  have D_4 := hd.mv c_2 (rngn (by simp <;> omega))
  refine tcall (c_look _ _ _ _ _ hT D_4) ?_
  rintro _ s6 ⟨rfl, c_5⟩
  have z_6 := c_5.size
  refine dInt_i ?_
  refine sB_ne (fun hsB1 => ?_) (fun hsB1 => ?_)
  ·
    refine ret_t ?_
    have D_7 := D_4.mv c_5 (rngn (by simp <;> omega))
    have hn : ¬ D.has b := fun h => hsB1 (if_pos h)
    rw [write_1 (.inl hn), if_neg hn]
    exact ⟨rfl, (((Ch.refl [T, T + 1, T + 2, T + 3, T + 4] s).ch c_2 (by simp)).ch c_5 (by simp)), D_7⟩
  ·
    refine sB_ne (fun hsB2 => ?_) (fun hsB2 => ?_)
    ·
      refine ret_t ?_
      have D_8 := D_4.mv c_5 (rngn (by simp <;> omega))
      rw [write_1 (.inr (by omega))]
      exact ⟨rfl, (((Ch.refl [T, T + 1, T + 2, T + 3, T + 4] s).ch c_2 (by simp)).ch c_5 (by simp)), D_8⟩
    ·
      obtain rfl : xn = 128 := by omega
      have hh : D.has b := by
        by_cases h : D.has b
        · exact h
        · rw [if_neg h] at hsB1; cases hsB1
      refine nz_i ?_
      have blk_9 := hblk.ch c_2 (by simp)
      have blk_10 := blk_9.ch c_5 (by simp)
      refine ld_t blk_10 rfl ?_
      refine dSl_i ?_
      have que_11 := hque.mv c_2 (tagn (by simp))
      have que_12 := que_11.mv c_5 (tagn (by simp))
      have r1_13 := b_1.ch c_5 (by simp)
      refine tcall (c_ctSent _ (fun x => x.2.1 == b) que_12.sl (by rw [hD.qrel.len]) (by have := hD.nq; omega) (by kernel_rfl) (fun s1 x c1 => c_w1 b x.1 x.2.1 x.2.2 r1 _ (r1_13.ch c1 (by simp)))) ?_
      rintro _ s14 ⟨rfl, c_14⟩
      have z_15 := c_14.size
      refine dBl_i ?_
      first | refine sB_d (fun hsB3 => ?_) (fun hsB3 => ?_) | refine sB_nd (fun hsB3 => ?_) (fun hsB3 => ?_) | refine sB_n (fun hsB3 => ?_) (fun hsB3 => ?_) | refine sB_i (fun hsB3 => ?_) (fun hsB3 => ?_)
      ·
        refine ret_t ?_
        have D_16 := D_4.mv c_5 (rngn (by simp <;> omega))
        have D_17 := D_16.mv c_14 (rngn (by simp <;> omega))
        rw [ixf_qrel hD.qrel (fun x => x.2.1 == b) (fun m => m.blk == b) (fun x m _ h2 => by rw [h2])] at hsB3
        rw [write_2 hh hxl hsB3]
        exact ⟨rfl, ((((Ch.refl [T, T + 1, T + 2, T + 3, T + 4] s).ch c_2 (by simp)).ch c_5 (by simp)).ch c_14 (by simp)), D_17⟩
      ·
        rw [ixf_qrel hD.qrel (fun x => x.2.1 == b) (fun m => m.blk == b) (fun x m _ h2 => by rw [h2])] at hsB3
        refine nz_i ?_
        have blk_18 := blk_10.ch c_14 (by simp)
        refine ld_t blk_18 rfl ?_
        refine dSl_i ?_
        refine sB_d (fun hsB4 => ?_) (fun hsB4 => ?_)
        ·
          refine ret_t ?_
          have D_19 := D_4.mv c_5 (rngn (by simp <;> omega))
          have D_20 := D_19.mv c_14 (rngn (by simp <;> omega))
          rw [write_3 hh hxl hsB3 (by omega)]
          exact ⟨rfl, ((((Ch.refl [T, T + 1, T + 2, T + 3, T + 4] s).ch c_2 (by simp)).ch c_5 (by simp)).ch c_14 (by simp)), D_20⟩
        ·
          refine nz_i ?_
          refine ld_t blk_18 rfl ?_
          refine dInt_i ?_
          refine wr_t (by omega) ?_
          refine nz_i ?_
          refine st_t blk_18 rfl (by simp) fun s26 b_21 c_22 z_23 => ?_
          refine nz_i ?_
          refine ld_t b_21 rfl ?_
          refine dSl_i ?_
          refine nz_i ?_
          refine ld_t b_21 rfl ?_
          refine dInt_i ?_
          have r1_24 := r1_13.ch c_14 (by simp)
          have r1_25 := r1_24.on c_22 (by intro he; have h1 := r1_24.tag; have h2 := blk_18.tag; rw [he] at h1; rw [h1] at h2; revert h2; simp <;> omega)
          refine ld_t r1_25 rfl ?_
          refine dInt_i ?_
          have x_26 := hx.mv c_2 (tagn (by simp))
          have x_27 := x_26.mv c_5 (tagn (by simp))
          have x_28 := x_27.mv c_14 (tagn (by simp))
          have x_29 := x_28.mv c_22 (onn (by rw [blk_18.tag]; omega))
          refine tcall (c_clone (T + 3) _ x_29 hxl (fun h => by obtain ⟨y, hy⟩ := hx.some (fun e => by have := congrArg List.length e; simp only [bvs_len, List.length_nil] at this; omega); rw [h] at hy; cases hy) (by omega)) ?_
          rintro _ s38 ⟨xa2, xc2, rfl, c_30, nx_32, hxn⟩
          have z_31 := c_30.size
          refine dSl_i ?_
          refine ⟨?_, ?_⟩
          ·
            have r1_33 := r1_25.ch c_30 (by simp)
            refine ld_t r1_33 rfl ?_
            refine dInt_i ?_
            rfl
          ·
            refine ⟨?_, ?_⟩
            ·
              have blk_34 := b_21.ch c_30 (by simp)
              refine ld_t blk_34 rfl ?_
              refine dInt_i ?_
              rfl
            ·
              refine ⟨?_, ?_⟩
              ·
                have blk_35 := b_21.ch c_30 (by simp)
                refine ld_t blk_35 rfl ?_
                refine dSl_i ?_
                rfl
              ·
                refine al_t 0 fun r50 s51 hr50 b_36 c_37 z_38 => ?_
                refine ⟨?_, ?_⟩
                ·
                  have blk_39 := b_21.ch c_30 (by simp)
                  have blk_40 := blk_39.ch c_37 (by simp)
                  refine ld_t blk_40 rfl ?_
                  refine dSl_i ?_
                  rfl
                ·
                  have que_41 := que_12.mv c_14 (tagn (by simp))
                  have que_42 := que_41.mv c_22 (onn (by rw [blk_18.tag]; omega))
                  have que_43 := que_42.mv c_30 (tagn (by simp))
                  have que_44 := que_43.mv c_37 (tagn (by simp))
                  refine app_i u93 in96 rfl que_44 b_36.sl (m := 1) (k := 3) rfl (by intro u hu; simp at hu; rcases hu with rfl | rfl | rfl <;> rfl) (by simp) (by have := hD.nq; unfold maxLen; omega) fun s59 qa2 qc2 que_47 c_450 _ => ?_
                  have c_45 := c_450.ch (T := [T + 2]) que_44 (by simp)
                  have z_46 := c_45.size
                  refine dSl_i ?_
                  refine nz_i ?_
                  have blk_48 := b_21.ch c_30 (by simp)
                  have blk_49 := blk_48.ch c_37 (by simp)
                  have blk_50 := blk_49.ch c_45 (by intro h; simp only [List.mem_cons, List.not_mem_nil, or_false] at h <;> omega)
                  refine st_t blk_50 rfl (by simp) fun s64 b_51 c_52 z_53 => ?_
                  refine nz_i ?_
                  refine ld_t b_51 rfl ?_
                  refine dInt_i ?_
                  refine ret_t ?_
                  have rows_54 := hrows.mv c_2 (tagn (by simp))
                  have rows_55 := rows_54.mv c_5 (tagn (by simp))
                  have rows_56 := rows_55.mv c_14 (tagn (by simp))
                  have rows_57 := rows_56.mv c_22 (onn (by rw [blk_18.tag]; omega))
                  have rows_58 := rows_57.mv c_30 (tagn (by simp))
                  have rows_59 := rows_58.mv c_37 (tagn (by simp))
                  have rows_60 := rows_59.mv c_45 (tagn (by intro h; simp only [List.mem_cons, List.not_mem_nil, or_false] at h <;> omega))
                  have rows_61 := rows_60.mv c_52 (onn (by rw [blk_50.tag]; omega))
                  have brel_62 := hbrel.mv c_2 (tagn (by simp))
                  have brel_63 := brel_62.mv c_5 (tagn (by simp))
                  have brel_64 := brel_63.mv c_14 (tagn (by simp))
                  have brel_65 := brel_64.mv c_22 (onn (by rw [blk_18.tag]; omega))
                  have brel_66 := brel_65.mv c_30 (tagn (by simp))
                  have brel_67 := brel_66.mv c_37 (tagn (by simp))
                  have brel_68 := brel_67.mv c_45 (tagn (by intro h; simp only [List.mem_cons, List.not_mem_nil, or_false] at h <;> omega))
                  have brel_69 := brel_68.mv c_52 (onn (by rw [blk_50.tag]; omega))
                  have que_70 := que_47.mv c_52 (onn (by rw [blk_50.tag]; omega))
                  have qrel_71 := hqrel.mv c_2 (tagn (by simp))
                  have qrel_72 := qrel_71.mv c_5 (tagn (by simp))
                  have qrel_73 := qrel_72.mv c_14 (tagn (by simp))
                  have qrel_74 := qrel_73.mv c_22 (onn (by rw [blk_18.tag]; omega))
                  have qrel_75 := qrel_74.mv c_30 (tagn (by simp))
                  have qrel_76 := qrel_75.mv c_37 (tagn (by simp))
                  have qrel_77 := qrel_76.mv c_45 (tagn (by intro h; simp only [List.mem_cons, List.not_mem_nil, or_false] at h <;> omega))
                  have qrel_78 := qrel_77.mv c_52 (onn (by rw [blk_50.tag]; omega))
                  have nx_79 := nx_32.mv c_37 (tagn (by simp))
                  have nx_80 := nx_79.mv c_45 (tagn (by intro h; simp only [List.mem_cons, List.not_mem_nil, or_false] at h <;> omega))
                  have nx_81 := nx_80.mv c_52 (onn (by rw [blk_50.tag]; omega))
                  have fails_82 := hfails.ch c_2 (by simp)
                  have fails_83 := fails_82.ch c_5 (by simp)
                  have fails_84 := fails_83.ch c_14 (by simp)
                  have fails_85 := fails_84.on c_22 (by intro he; have h1 := fails_84.tag; have h2 := blk_18.tag; rw [he] at h1; rw [h1] at h2; revert h2; simp <;> omega)
                  have fails_86 := fails_85.ch c_30 (by simp)
                  have fails_87 := fails_86.ch c_37 (by simp)
                  have fails_88 := fails_87.ch c_45 (by intro h; simp only [List.mem_cons, List.not_mem_nil, or_false] at h <;> omega)
                  have fails_89 := fails_88.on c_52 (by intro he; have h1 := fails_88.tag; have h2 := blk_50.tag; rw [he] at h1; rw [h1] at h2; revert h2; simp <;> omega)
                  rw [write_4 hh hxl hsB3 (by omega)]
                  exact ⟨rfl, (((((((((Ch.refl [T, T + 1, T + 2, T + 3, T + 4] s).ch c_2 (by simp)).ch c_5 (by simp)).ch c_14 (by simp)).on_tag c_22 blk_18.tag (by simp)).ch c_30 (by simp)).ch c_37 (by simp)).ch c_45 (by simp)).on_tag c_52 blk_50.tag (by simp)), pa, pc, qa2, qc2, hs, qs ++ [(D.last + 1, b, (xa2, xc2))], fr, fm, ⟨by simpa using b_51, rows_61, brel_69, by simpa [qv] using que_70, qrel_78.snoc ⟨rfl, rfl, ⟨nx_81.sl, hxl⟩⟩, fails_89, hD.fok, hD.nb, by simp; omega, fun m hm => by rcases List.mem_append.1 hm with hm | hm <;> first | exact hD.qin m hm | (simp at hm; subst hm; unfold DiskM.has at hh; exact hh)⟩⟩

/-- (*bollard/disk.Disk).Complete -/
theorem c_complete (d T : Nat) (D : DiskM) (n0 : Int) (ok : Bool) (s : TH) (hT : 10 ≤ T) (hd : Disk s d T D) : TRet Tryz.prog 145 #[.pointer (some ⟨d, 0, none⟩), .int .i64 n0, .bool ok] s fun v s' => v = .int .i64 (D.complete n0 ok).2 ∧ Ch [T, T + 1, T + 2, T + 3, T + 4] s s' ∧ Disk s' d T (D.complete n0 ok).1 := by
  obtain ⟨pa, pc, qa, qc, hs, qs, fr, fm, hD⟩ := id hd
  have hblk := hD.blk
  have hrows := hD.rows
  have hbrel := hD.brel
  have hque := hD.que
  have hqrel := hD.qrel
  have hfails := hD.fails
  refine F145_calls _ _ _  ?_
  unfold F145
  refine tcall (c_made _ _ _ _ hT hd) ?_
  rintro _ s2 ⟨rfl, c_1⟩
  have z_2 := c_1.size
  refine dBl_i ?_
  refine sB_f (by rfl) ?_
  have D_3 := hd.mv c_1 (rngn (by simp <;> omega))
  refine tcall (c_place _ _ _ _ _ hT D_3) ?_
  rintro _ s5 ⟨k, rfl, hk, c_4⟩
  have z_5 := c_4.size
  refine dInt_i ?_
  refine sB_d (fun hsB2 => ?_) (fun hsB2 => ?_)
  ·
    refine ret_t ?_
    have D_6 := D_3.mv c_4 (rngn (by simp <;> omega))
    rw [compl_1 (by omega)]
    exact ⟨rfl, (((Ch.refl [T, T + 1, T + 2, T + 3, T + 4] s).ch c_1 (by simp)).ch c_4 (by simp)), D_6⟩
  ·
    refine nz_i ?_
    have blk_7 := hblk.ch c_1 (by simp)
    have blk_8 := blk_7.ch c_4 (by simp)
    refine ld_t blk_8 rfl ?_
    refine dSl_i ?_
    rcases ixf_cases (fun x : SentM => x.id == n0) D.queue with ⟨h1, _⟩ | ⟨i, m, h1, hm, _⟩
    · omega
    obtain rfl : k = i := by omega
    have hi : i < D.queue.length := (List.getElem?_eq_some_iff.1 hm).1
    obtain ⟨x, hx⟩ : ∃ x, qs[i]? = some x := ⟨qs[i]'(by rw [hD.qrel.len]; exact hi), by simp [hD.qrel.len, hi]⟩
    have hQ := hD.qrel.at_ i x m hx hm
    have hin := hD.qin m (List.mem_of_getElem? hm)
    obtain ⟨aq, rfl⟩ := hD.que.sl.some (fun e => by have := qcell0 hx; rw [e] at this; simp at this)
    refine nz_i ?_
    refine ask_t (by omega) ?_
    have que_9 := hque.mv c_1 (tagn (by simp))
    have que_10 := que_9.mv c_4 (tagn (by simp))
    refine ld_sl que_10.sl (by rw [Int.toNat_natCast]; exact qcell0 hx) ?_
    refine ld_sl2 que_10.sl (by rw [Int.toNat_natCast]; exact qcell1 hx) ?_
    refine ld_sl2 que_10.sl (by rw [Int.toNat_natCast]; exact qcell2 hx) ?_
    refine al_t 0 fun r16 s17 hr16 b_11 c_12 z_13 => ?_
    refine st_t b_11 rfl (by simp) fun s18 b_14 c_15 z_16 => ?_
    refine st_t b_14 rfl (by simp) fun s19 b_17 c_18 z_19 => ?_
    refine st_t b_17 rfl (by simp) fun s20 b_20 c_21 z_22 => ?_
    refine nz_i ?_
    have blk_23 := blk_8.ch c_12 (by simp)
    have blk_24 := blk_23.on c_15 (by intro he; have h1 := blk_23.tag; have h2 := b_11.tag; rw [he] at h1; rw [h1] at h2; revert h2; simp <;> omega)
    have blk_25 := blk_24.on c_18 (by intro he; have h1 := blk_24.tag; have h2 := b_14.tag; rw [he] at h1; rw [h1] at h2; revert h2; simp <;> omega)
    have blk_26 := blk_25.on c_21 (by intro he; have h1 := blk_25.tag; have h2 := b_17.tag; rw [he] at h1; rw [h1] at h2; revert h2; simp <;> omega)
    refine ld_t blk_26 rfl ?_
    refine dSl_i ?_
    refine wr_t (by have := hD.nq; omega) ?_
    have que_27 := que_10.mv c_12 (tagn (by simp))
    have que_28 := que_27.mv c_15 (onn (by rw [b_11.tag]; omega))
    have que_29 := que_28.mv c_18 (onn (by rw [b_14.tag]; omega))
    have que_30 := que_29.mv c_21 (onn (by rw [b_17.tag]; omega))
    refine tcall (c_delSent i que_30 (by omega) (by have := hD.nq; omega)) ?_
    rintro _ s28 ⟨qa2, qc2, rfl, c_31, que_33⟩
    have z_32 := c_31.size
    refine dSl_i ?_
    refine nz_i ?_
    have blk_34 := blk_26.ch c_31 (by intro h; simp only [List.mem_cons, List.not_mem_nil, or_false] at h <;> omega)
    refine st_t blk_34 rfl (by simp) fun s33 b_35 c_36 z_37 => ?_
    refine sB_n (fun hsB3 => ?_) (fun hsB3 => ?_)
    ·
      refine ret_t ?_
      have que_38 := que_33.mv c_36 (onn (by rw [blk_34.tag]; omega))
      have rows_39 := hrows.mv c_1 (tagn (by simp))
      have rows_40 := rows_39.mv c_4 (tagn (by simp))
      have rows_41 := rows_40.mv c_12 (tagn (by simp))
      have rows_42 := rows_41.mv c_15 (onn (by rw [b_11.tag]; omega))
      have rows_43 := rows_42.mv c_18 (onn (by rw [b_14.tag]; omega))
      have rows_44 := rows_43.mv c_21 (onn (by rw [b_17.tag]; omega))
      have rows_45 := rows_44.mv c_31 (tagn (by intro h; simp only [List.mem_cons, List.not_mem_nil, or_false] at h <;> omega))
      have rows_46 := rows_45.mv c_36 (onn (by rw [blk_34.tag]; omega))
      have brel_47 := hbrel.mv c_1 (tagn (by simp))
      have brel_48 := brel_47.mv c_4 (tagn (by simp))
      have brel_49 := brel_48.mv c_12 (tagn (by simp))
      have brel_50 := brel_49.mv c_15 (onn (by rw [b_11.tag]; omega))
      have brel_51 := brel_50.mv c_18 (onn (by rw [b_14.tag]; omega))
      have brel_52 := brel_51.mv c_21 (onn (by rw [b_17.tag]; omega))
      have brel_53 := brel_52.mv c_31 (tagn (by intro h; simp only [List.mem_cons, List.not_mem_nil, or_false] at h <;> omega))
      have brel_54 := brel_53.mv c_36 (onn (by rw [blk_34.tag]; omega))
      have qrel_55 := hqrel.mv c_1 (tagn (by simp))
      have qrel_56 := qrel_55.mv c_4 (tagn (by simp))
      have qrel_57 := qrel_56.mv c_12 (tagn (by simp))
      have qrel_58 := qrel_57.mv c_15 (onn (by rw [b_11.tag]; omega))
      have qrel_59 := qrel_58.mv c_18 (onn (by rw [b_14.tag]; omega))
      have qrel_60 := qrel_59.mv c_21 (onn (by rw [b_17.tag]; omega))
      have qrel_61 := qrel_60.mv c_31 (tagn (by intro h; simp only [List.mem_cons, List.not_mem_nil, or_false] at h <;> omega))
      have qrel_62 := qrel_61.mv c_36 (onn (by rw [blk_34.tag]; omega))
      have fails_63 := hfails.ch c_1 (by simp)
      have fails_64 := fails_63.ch c_4 (by simp)
      have fails_65 := fails_64.ch c_12 (by simp)
      have fails_66 := fails_65.on c_15 (by intro he; have h1 := fails_65.tag; have h2 := b_11.tag; rw [he] at h1; rw [h1] at h2; revert h2; simp <;> omega)
      have fails_67 := fails_66.on c_18 (by intro he; have h1 := fails_66.tag; have h2 := b_14.tag; rw [he] at h1; rw [h1] at h2; revert h2; simp <;> omega)
      have fails_68 := fails_67.on c_21 (by intro he; have h1 := fails_67.tag; have h2 := b_17.tag; rw [he] at h1; rw [h1] at h2; revert h2; simp <;> omega)
      have fails_69 := fails_68.ch c_31 (by intro h; simp only [List.mem_cons, List.not_mem_nil, or_false] at h <;> omega)
      have fails_70 := fails_69.on c_36 (by intro he; have h1 := fails_69.tag; have h2 := blk_34.tag; rw [he] at h1; rw [h1] at h2; revert h2; simp <;> omega)
      subst hsB3
      rw [compl_2 h1 hm]
      have hle : (D.queue.eraseIdx i).length = D.queue.length - 1 := by rw [List.length_eraseIdx, if_pos hi]
      have hb := b_35
      have hq := que_38
      exact ⟨rfl, (((((((((Ch.refl [T, T + 1, T + 2, T + 3, T + 4] s).ch c_1 (by simp)).ch c_4 (by simp)).ch c_12 (by simp)).on_new c_15 (by omega)).on_new c_18 (by omega)).on_new c_21 (by omega)).ch c_31 (by simp)).on_tag c_36 blk_34.tag (by simp)), pa, pc, qa2, qc2, hs, qs.eraseIdx i, fr, fm, ⟨by simpa [hle] using hb, rows_46, brel_54, by simp only [hle]; exact hq, qrel_62.erase i, fails_70, hD.fok, hD.nb, by simp only [hle]; have := hD.nq; omega, fun m hm => hD.qin m (List.mem_of_mem_eraseIdx hm)⟩⟩
    ·
      refine nz_i ?_
      refine ld_t b_35 rfl ?_
      refine dSl_i ?_
      have r16_71 := b_20.ch c_31 (by intro h; simp only [List.mem_cons, List.not_mem_nil, or_false] at h <;> omega)
      have r16_72 := r16_71.on c_36 (by intro he; have h1 := r16_71.tag; have h2 := blk_34.tag; rw [he] at h1; rw [h1] at h2; revert h2; simp <;> omega)
      refine ld_t r16_72 rfl ?_
      refine dInt_i ?_
      refine ld_t r16_72 rfl ?_
      refine dSl_i ?_
      obtain ⟨ap, rfl⟩ : ∃ ap, pa = some ap := by
        have h0 := hD.nb
        rcases hD.rows.2 with ⟨_, h2, _⟩ | ⟨g, o, L, h2, _⟩
        · omega
        · exact ⟨_, h2⟩
      refine nz_i ?_
      refine ask_t (by rw [hQ.2.1]; omega) ?_
      have rows_73 := hrows.mv c_1 (tagn (by simp))
      have rows_74 := rows_73.mv c_4 (tagn (by simp))
      have rows_75 := rows_74.mv c_12 (tagn (by simp))
      have rows_76 := rows_75.mv c_15 (onn (by rw [b_11.tag]; omega))
      have rows_77 := rows_76.mv c_18 (onn (by rw [b_14.tag]; omega))
      have rows_78 := rows_77.mv c_21 (onn (by rw [b_17.tag]; omega))
      have rows_79 := rows_78.mv c_31 (tagn (by intro h; simp only [List.mem_cons, List.not_mem_nil, or_false] at h <;> omega))
      have rows_80 := rows_79.mv c_36 (onn (by rw [blk_34.tag]; omega))
      refine Own.st rows_80 rfl (by have := hin; rw [hQ.2.1]; omega) fun s46 b_81 c_82 z_83 => ?_
      have c_84 := Ch.on_tag (T := [T + 1]) (Ch.refl _ _) c_82 rows_80.tagOf (by simp)
      refine ret_t ?_
      have blk_85 := b_35.ch c_84 (by intro h; simp only [List.mem_cons, List.not_mem_nil, or_false] at h <;> omega)
      have que_86 := que_33.mv c_36 (onn (by rw [blk_34.tag]; omega))
      have que_87 := que_86.mv c_84 (tagn (by intro h; simp only [List.mem_cons, List.not_mem_nil, or_false] at h <;> omega))
      have qrel_88 := hqrel.mv c_1 (tagn (by simp))
      have qrel_89 := qrel_88.mv c_4 (tagn (by simp))
      have qrel_90 := qrel_89.mv c_12 (tagn (by simp))
      have qrel_91 := qrel_90.mv c_15 (onn (by rw [b_11.tag]; omega))
      have qrel_92 := qrel_91.mv c_18 (onn (by rw [b_14.tag]; omega))
      have qrel_93 := qrel_92.mv c_21 (onn (by rw [b_17.tag]; omega))
      have qrel_94 := qrel_93.mv c_31 (tagn (by intro h; simp only [List.mem_cons, List.not_mem_nil, or_false] at h <;> omega))
      have qrel_95 := qrel_94.mv c_36 (onn (by rw [blk_34.tag]; omega))
      have qrel_96 := qrel_95.mv c_84 (tagn (by intro h; simp only [List.mem_cons, List.not_mem_nil, or_false] at h <;> omega))
      have brel_97 := hbrel.mv c_1 (tagn (by simp))
      have brel_98 := brel_97.mv c_4 (tagn (by simp))
      have brel_99 := brel_98.mv c_12 (tagn (by simp))
      have brel_100 := brel_99.mv c_15 (onn (by rw [b_11.tag]; omega))
      have brel_101 := brel_100.mv c_18 (onn (by rw [b_14.tag]; omega))
      have brel_102 := brel_101.mv c_21 (onn (by rw [b_17.tag]; omega))
      have brel_103 := brel_102.mv c_31 (tagn (by intro h; simp only [List.mem_cons, List.not_mem_nil, or_false] at h <;> omega))
      have brel_104 := brel_103.mv c_36 (onn (by rw [blk_34.tag]; omega))
      have brel_105 := brel_104.mv c_84 (tagn (by intro h; simp only [List.mem_cons, List.not_mem_nil, or_false] at h <;> omega))
      have fails_106 := hfails.ch c_1 (by simp)
      have fails_107 := fails_106.ch c_4 (by simp)
      have fails_108 := fails_107.ch c_12 (by simp)
      have fails_109 := fails_108.on c_15 (by intro he; have h1 := fails_108.tag; have h2 := b_11.tag; rw [he] at h1; rw [h1] at h2; revert h2; simp <;> omega)
      have fails_110 := fails_109.on c_18 (by intro he; have h1 := fails_109.tag; have h2 := b_14.tag; rw [he] at h1; rw [h1] at h2; revert h2; simp <;> omega)
      have fails_111 := fails_110.on c_21 (by intro he; have h1 := fails_110.tag; have h2 := b_17.tag; rw [he] at h1; rw [h1] at h2; revert h2; simp <;> omega)
      have fails_112 := fails_111.ch c_31 (by intro h; simp only [List.mem_cons, List.not_mem_nil, or_false] at h <;> omega)
      have fails_113 := fails_112.on c_36 (by intro he; have h1 := fails_112.tag; have h2 := blk_34.tag; rw [he] at h1; rw [h1] at h2; revert h2; simp <;> omega)
      have fails_114 := fails_113.ch c_84 (by intro h; simp only [List.mem_cons, List.not_mem_nil, or_false] at h <;> omega)
      subst hsB3
      rw [compl_3 h1 hm]
      have hle : (D.queue.eraseIdx i).length = D.queue.length - 1 := by rw [List.length_eraseIdx, if_pos hi]
      have hb := blk_85
      have hq := que_87
      have hr := b_81
      rw [Nat.mul_one, fm_set1, hQ.2.1] at hr
      have hbb : ByAt s46 (T + 3) x.2.2 m.by_ := (qrel_96.at_ i x m hx hm).2.2
      exact ⟨rfl, ((((((((((Ch.refl [T, T + 1, T + 2, T + 3, T + 4] s).ch c_1 (by simp)).ch c_4 (by simp)).ch c_12 (by simp)).on_new c_15 (by omega)).on_new c_18 (by omega)).on_new c_21 (by omega)).ch c_31 (by simp)).on_tag c_36 blk_34.tag (by simp)).ch c_84 (by simp)), some ap, pc, qa2, qc2, hs.set m.blk.toNat x.2.2, qs.eraseIdx i, fr, fm, ⟨by simpa [hle] using hb, by simpa using hr, brel_105.set _ hbb, by simp only [hle]; exact hq, qrel_96.erase i, fails_114, hD.fok, by simpa using hD.nb, by simp only [hle]; have := hD.nq; omega, fun m hm => by simpa using hD.qin m (List.mem_of_mem_eraseIdx hm)⟩⟩


theorem rowZ_bvs (n : Nat) : rowZ [.int .u8 0] n = bvs (List.replicate n 0) := by
  induction n with
  | zero => rfl
  | succ n ih => rw [List.replicate_succ, bvs, List.map_cons, ← bvs, ← ih]; rfl
theorem BRel.snoc {s : TH} {τ : Nat} {hs : List Hd} {bs : List (List UInt8)} (h : BRel s τ hs bs) {p : Hd} {b : List UInt8} (hp : ByAt s τ p b) : BRel s τ (hs ++ [p]) (bs ++ [b]) := by
  refine ⟨by simp [h.len], fun i x y hx hy => ?_⟩
  by_cases hi : i < bs.length
  · rw [List.getElem?_append_left (by rw [h.len]; exact hi)] at hx
    rw [List.getElem?_append_left hi] at hy
    exact h.at_ i x y hx hy
  · rw [List.getElem?_append_right (by rw [h.len]; omega)] at hx
    rw [List.getElem?_append_right (by omega)] at hy
    rw [h.len] at hx
    cases hd : i - bs.length with
    | zero => rw [hd] at hx hy; simp at hx hy; subst hx hy; exact hp
    | succ k => rw [hd] at hx; simp at hx
theorem BRel.nil (s : TH) (τ : Nat) : BRel s τ [] [] := ⟨rfl, fun i p b h _ => by simp at h⟩
theorem QRel.nil (s : TH) (τ : Nat) : QRel s τ [] [] := ⟨rfl, fun i p b h _ => by simp at h⟩
def newDisk (n : Nat) : DiskM := ⟨List.replicate n (List.replicate 128 0), [], fun _ => 0, 0⟩

/-- bollard/disk.New -/
theorem c_dnew (T n : Nat) (s : TH) (hT : 10 ≤ T) (hn : 1 ≤ n ∧ n ≤ 2048) : TRet Tryz.prog 30 #[.int .i64 (n : Int)] s fun v s' => ∃ d, v = .tuple #[.pointer (some ⟨d, 0, none⟩), .int .i64 0] ∧ Ch [T + 1] s s' ∧ Disk s' d T (newDisk n) := by
  refine F30_calls _  ?_
  unfold F30
  refine jn_u ?_
  refine sB_d (fun hsB1 => by exfalso; omega) (fun hsB1 => ?_)
  intro _ _ _ _ _
  refine dBl_i ?_
  first | refine sB_d (fun hsB2 => ?_) (fun hsB2 => ?_) | refine sB_nd (fun hsB2 => ?_) (fun hsB2 => ?_) | refine sB_n (fun hsB2 => ?_) (fun hsB2 => ?_) | refine sB_i (fun hsB2 => ?_) (fun hsB2 => ?_)
  ·
    refine ret_t ?_
    simp at hsB2; omega
  ·
    refine alm_t (Value.int .i64) (T + 4) fun r9 s10 hr9 m_1 c_2 z_3 => ?_
    refine al_t T fun r11 s12 hr11 b_4 c_5 z_6 => ?_
    refine ⟨fun vs H' => ∃ s' : TH, s'.h = H' ∧ ∃ m, vs = [.int .i64 m] ∧ ChL [T + 1] [r11] s12 s' ∧ (∃ (k : Nat) (pa : Option Addr) (pc : Nat) (hs : List Hd), m = k ∧ k ≤ n ∧ Blk s' r11 [.slice pa k pc, .slice none 0 0, .map (some r9), .int .i64 0] 133 T ∧ Own s' pa k pc 38 1 (hs.flatMap hd1) (T + 1) ∧ BRel s' (T + 3) hs (List.replicate k (List.replicate 128 0))), fun vs H' => match vs with | [.int .i64 m] => (n - m).toNat | _ => 0, ⟨s12, rfl, _, rfl, ChL.refl _ _ _, ?_⟩, ?_⟩
    ·
      exact ⟨0, none, 0, [], rfl, by omega, b_4, Own.nil _ _ _ _, BRel.nil _ _⟩
    ·
      intro m _ _ _ _ _ _ _ _ _ _ _ _ H28 hI
      obtain ⟨s28, rfl, m_, hvs, c_7, k, pa, pc, hs, rfl, hk, r11_9, rows_10, brel_11⟩ := hI
      cases hvs
      have z_8 := c_7.size
      refine sB_d (fun hsB3 => ?_) (fun hsB3 => ?_)
      ·
        refine ld_t r11_9 rfl ?_
        refine dSl_i ?_
        refine ask_t (by omega) ?_
        refine al_t (T + 3) fun r34 s35 hr34 b_12 c_13 z_14 => ?_
        refine ⟨?_, ?_⟩
        ·
          have r11_15 := r11_9.ch c_13 (by simp)
          refine ld_t r11_15 rfl ?_
          refine dSl_i ?_
          rfl
        ·
          refine al_t 0 fun r40 s41 hr40 b_16 c_17 z_18 => ?_
          refine ⟨?_, ?_⟩
          ·
            have r11_19 := r11_9.ch c_13 (by simp)
            have r11_20 := r11_19.ch c_17 (by simp)
            refine ld_t r11_20 rfl ?_
            refine dSl_i ?_
            rfl
          ·
            have rows_21 := rows_10.mv c_13 (tagn (by simp))
            have rows_22 := rows_21.mv c_17 (tagn (by simp))
            refine app_i u42 in38 rfl rows_22 b_16.sl (m := 1) (k := 1) rfl (by intro u hu; simp at hu; subst hu; rfl) (by simp) (by unfold maxLen; omega) fun s49 pa2 pc2 rows_25 c_230 _ => ?_
            have c_23 := c_230.ch (T := [T + 1]) rows_22 (by simp)
            have z_24 := c_23.size
            refine dSl_i ?_
            have r11_26 := r11_9.ch c_13 (by simp)
            have r11_27 := r11_26.ch c_17 (by simp)
            have r11_28 := r11_27.ch c_23 (by intro h; simp only [List.mem_cons, List.not_mem_nil, or_false] at h <;> omega)
            refine st_t r11_28 rfl (by simp) fun s53 b_29 c_30 z_31 => ?_
            refine wr_t (by omega) ?_
            refine ⟨⟨s53, rfl, _, rfl, ((((((ChL.refl [T + 1] [r11] s12).chl c_7 (by simp) (by simp <;> omega)).ch c_13 (by simp)).ch c_17 (by simp)).ch c_23 (by simp)).on c_30 (by simp)), ?_⟩, ?_⟩
            ·
              have r34_32 := b_12.ch c_17 (by simp)
              have r34_33 := r34_32.ch c_23 (by intro h; simp only [List.mem_cons, List.not_mem_nil, or_false] at h <;> omega)
              have r34_34 := r34_33.on c_30 (by omega)
              have rows_35 := rows_25.mv c_30 (onn (by rw [r11_28.tag]; omega))
              have brel_36 := brel_11.mv c_13 (tagn (by simp))
              have brel_37 := brel_36.mv c_17 (tagn (by simp))
              have brel_38 := brel_37.mv c_23 (tagn (by intro h; simp only [List.mem_cons, List.not_mem_nil, or_false] at h <;> omega))
              have brel_39 := brel_38.mv c_30 (onn (by rw [r11_28.tag]; omega))
              have hb : ByAt s53 (T + 3) (some ⟨r34, 0, none⟩, 128) (List.replicate 128 0) := ⟨by have h := r34_34.sl; rw [rowZ_bvs] at h; exact h, by simp⟩
              exact ⟨k + 1, pa2, pc2, hs ++ [(some ⟨r34, 0, none⟩, 128)], by omega, by omega, by simpa using b_29, by simpa [hd1] using rows_35, by rw [List.replicate_succ']; exact brel_39.snoc hb⟩
            ·
              simp <;> omega
      ·
        refine ret_t ?_
        have r9_40 := m_1.ch c_5 (by simp)
        have r9_41 := r9_40.chl c_7 (by simp <;> omega) (by simp <;> omega)
        obtain rfl : k = n := by omega
        exact ⟨r11, rfl, ((((Ch.refl [T + 1] s).ch c_2 (by simp)).ch c_5 (by simp)).chl c_7 (by simp) (by simp <;> omega)), pa, pc, none, 0, hs, [], r9, [], ⟨by simpa [newDisk] using r11_9, by simpa [newDisk] using rows_10, brel_11, Own.nil _ _ _ _, QRel.nil _ _, r9_41, fun b => rfl, by simp [newDisk]; omega, by simp [newDisk], fun m hm => by simp [newDisk] at hm⟩⟩

/-- (*bollard/disk.Disk).Read -/
theorem c_dread (d T τ : Nat) (D : DiskM) (b : Int) {l : List UInt8} (s : TH) (hT : 10 ≤ T) (hd : Disk s d T D) (hb : D.has b) (hl : D.blocks[b.toNat]? = some l) (hf : D.fails b ≤ 0) : TRet Tryz.prog 266 #[.pointer (some ⟨d, 0, none⟩), .int .i64 b] s fun v s' => ∃ a c, v = .tuple #[.slice a 128 c, .int .i64 0] ∧ Ch [] s s' ∧ Own s' a 128 c 5 1 (bvs l) τ := by
  obtain ⟨pa, pc, qa, qc, hs, qs, fr, fm, hD⟩ := id hd
  have hblk := hD.blk
  have hrows := hD.rows
  have hbrel := hD.brel
  have hque := hD.que
  have hqrel := hD.qrel
  have hfails := hD.fails
  refine F266_calls _ _  ?_
  unfold F266
  refine tcall (c_look _ _ _ _ _ hT hd) ?_
  rintro _ s2 ⟨rfl, c_1⟩
  have z_2 := c_1.size
  refine dInt_i ?_
  refine sB_ne (fun hsB1 => ?_) (fun hsB1 => ?_)
  ·
    refine ret_t ?_
    exact absurd (if_pos hb) hsB1
  ·
    have hb1 := hb; unfold DiskM.has at hb1
    obtain ⟨p, hp⟩ : ∃ p, hs[b.toNat]? = some p := ⟨hs[b.toNat]'(by rw [hD.brel.len]; omega), by simp⟩
    obtain ⟨ap, rfl⟩ : ∃ ap, pa = some ap := by
      have h0 := hD.nb
      rcases hD.rows.2 with ⟨_, h2, _⟩ | ⟨g, o, L, h2, _⟩
      · omega
      · exact ⟨_, h2⟩
    refine nz_i ?_
    have blk_3 := hblk.ch c_1 (by simp)
    refine ld_t blk_3 rfl ?_
    refine dMap_i ?_
    have fails_4 := hfails.ch c_1 (by simp)
    refine look_g keyI u131 z3 fails_4 b (hD.fok b) ?_
    refine dInt_i ?_
    refine sB_d (fun hsB2 => by exfalso; omega) (fun hsB2 => ?_)
    refine nz_i ?_
    refine ld_t blk_3 rfl ?_
    refine dSl_i ?_
    refine nz_i ?_
    refine ask_t (by omega) ?_
    have rows_5 := hrows.mv c_1 (tagn (by simp))
    refine ld_sl rows_5.sl (by rw [Nat.mul_one]; exact bcell hp) ?_
    refine dSl_i ?_
    have brel_6 := hbrel.mv c_1 (tagn (by simp))
    refine tcall (c_clone τ _ (brel_6.at_ _ _ _ hp hl).sl (brel_6.at_ _ _ _ hp hl).len (fun h => by obtain ⟨y, hy⟩ := (hD.brel.at_ _ _ _ hp hl).ne; rw [h] at hy; cases hy) (by omega)) ?_
    rintro _ s36 ⟨xa2, xc2, rfl, c_7, nx_9, hxn⟩
    have z_8 := c_7.size
    refine dSl_i ?_
    refine ret_t ?_
    exact ⟨xa2, xc2, rfl, (((Ch.refl [] s).ch c_1 (by simp)).ch c_7 (by simp)), nx_9⟩

end Go.Proofs.YtngploohhmfaiaaGreat.E
