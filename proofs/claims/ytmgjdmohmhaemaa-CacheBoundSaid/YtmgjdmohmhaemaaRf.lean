/- Contracts of functions. -/
import Derived.Test.YtmgjdmohmhaemaaProg
import Derived.KernelRfl
import Derived.Test.YtmgjdmohmhaemaaLib2
import Derived.Test.YtmgjdmohmhaemaaDk
namespace Go.Proofs.Ytmgjdmohmhaemaa.E
open Go Go.Proofs
set_option linter.unusedVariables false

/-- a disk of the document in memory -/
structure RDiskP (s : TH) (d T : Nat) (D : DiskM) (pa : Option Addr) (pc : Nat) (qa : Option Addr) (qc : Nat) (hs : List Hd) (qs : List (Int × Int × Hd)) (fa : Option Addr) (fc : Nat) (fl : List Int) : Prop where
  blk : Blk s d [.slice pa D.blocks.length pc, .slice qa D.queue.length qc, .slice fa D.blocks.length fc, .int .i64 D.last] 146 T
  rows : Own s pa D.blocks.length pc 48 1 (hs.flatMap hd1) (T + 1)
  brel : BRel s (T + 3) hs D.blocks
  que : Own s qa D.queue.length qc 149 3 (qs.flatMap qv) (T + 2)
  qrel : QRel s (T + 3) qs D.queue
  fails : Own s fa D.blocks.length fc 3 1 (fl.map (Value.int .i64)) (T + 4)
  fok : ∀ (i : Nat) (x : Int), fl[i]? = some x → x = D.fails i
  nb : 1 ≤ D.blocks.length ∧ D.blocks.length ≤ 2048
  nq : D.queue.length ≤ 64
  qin : ∀ m ∈ D.queue, 0 ≤ m.blk ∧ m.blk < D.blocks.length
def RDisk (s : TH) (d T : Nat) (D : DiskM) : Prop := ∃ pa pc qa qc hs qs fa fc fl, RDiskP s d T D pa pc qa qc hs qs fa fc fl
theorem RDisk.mv {s s' : TH} {d T : Nat} {D : DiskM} {C : Nat → Prop} (h : RDisk s d T D) (c : Chg C s s') (hn : ∀ j, j < s.h.size → T ≤ s.g j → s.g j < T + 10 → ¬ C j) : RDisk s' d T D := by
  obtain ⟨pa, pc, qa, qc, hs, qs, fa, fc, fl, h⟩ := h
  exact ⟨pa, pc, qa, qc, hs, qs, fa, fc, fl, h.blk.mv c (of_rng hn (Nat.le_refl _) (by omega) d h.blk.lt h.blk.tag), h.rows.mv c (of_rng hn (by omega) (by omega)), h.brel.mv c (of_rng hn (by omega) (by omega)), h.que.mv c (of_rng hn (by omega) (by omega)), h.qrel.mv c (of_rng hn (by omega) (by omega)), h.fails.mv c (of_rng hn (by omega) (by omega)), h.fok, h.nb, h.nq, h.qin⟩
theorem rowZ_int (n : Nat) : rowZ [.int .i64 0] n = (List.replicate n (0 : Int)).map (Value.int .i64) := by
  induction n with
  | zero => rfl
  | succ n ih => rw [List.replicate_succ, List.map_cons, ← ih]; rfl

/-- bollard/bollardref02.copied -/
theorem c_copied (τ : Nat) {xa : Option Addr} {xn : Nat} (xc : Nat) {l : List UInt8} {τx : Nat} {s : TH} (hx : Sl s xa (bvs l) τx) (hn : l.length = xn) (h0 : xa = none → xn = 0) (hb : xn ≤ 1000000000) : TRet Try.prog 97 #[.slice xa xn xc] s fun v s' => ∃ a' c', v = .slice a' xn c' ∧ Ch [] s s' ∧ Own s' a' xn c' 5 1 (bvs l) τ := by
  refine F97_calls _ _ _  ?_
  unfold F97
  refine al_t τ fun r1 s2 hr1 b_1 c_2 z_3 => ?_
  have x_4 := hx.mv c_2 (tagn (by simp))
  refine app_i u48 in5 rfl (b_1.own0 1) x_4 (by rw [bvs_len]; omega) (bvs_one l) h0 (by unfold maxLen; omega) fun s6 a1 c1 o_7 c_50 hnil => ?_
  have c_5 := c_50.toL rfl
  have z_6 := c_5.size
  refine dSl_i ?_
  refine ret_t ?_
  rw [Nat.zero_add, List.nil_append] at o_7
  simp only [Nat.zero_add]
  exact ⟨a1, c1, rfl, (((Ch.refl [] s).ch c_2 (by simp)).chl c_5 (by simp) (by simp <;> omega)), o_7⟩

/-- (*bollard/bollardref02.Disk).has -/
theorem c_rhas (d T : Nat) (D : DiskM) (b : Int) (s : TH) (hT : 10 ≤ T) (hd : RDisk s d T D) : TRet Try.prog 96 #[.pointer (some ⟨d, 0, none⟩), .int .i64 b] s fun v s' => v = .bool (decide (D.has b)) ∧ Ch [] s s' := by
  obtain ⟨pa, pc, qa, qc, hs, qs, fa, fc, fl, hD⟩ := id hd
  have hblk := hD.blk
  have hrows := hD.rows
  have hbrel := hD.brel
  have hque := hD.que
  have hqrel := hD.qrel
  have hfails := hD.fails
  refine F96_calls _ _  ?_
  unfold F96
  refine sB_d (fun hsB1 => ?_) (fun hsB1 => ?_)
  ·
    refine nz_i ?_
    refine ld_t hblk rfl ?_
    refine dSl_i ?_
    refine ret_t ?_
    exact ⟨ret_b (by first | exact decide_eq_decide.2 (by unfold DiskM.has; omega) | exact (decide_eq_false (by unfold DiskM.has; omega)).symm), (Ch.refl [] s)⟩
  ·
    refine ret_t ?_
    exact ⟨ret_b (by first | exact decide_eq_decide.2 (by unfold DiskM.has; omega) | exact (decide_eq_false (by unfold DiskM.has; omega)).symm), (Ch.refl [] s)⟩

/-- (*bollard/bollardref02.Disk).find -/
theorem c_rfind (d T : Nat) (D : DiskM) (b : Int) (s : TH) (hT : 10 ≤ T) (hd : RDisk s d T D) : TRet Try.prog 101 #[.pointer (some ⟨d, 0, none⟩), .int .i64 b] s fun v s' => ∃ k : Int, v = .int .i64 k ∧ k = ixf (fun x : SentM => x.id == b) D.queue ∧ Ch [] s s' := by
  obtain ⟨pa, pc, qa, qc, hs, qs, fa, fc, fl, hD⟩ := id hd
  have hblk := hD.blk
  have hrows := hD.rows
  have hbrel := hD.brel
  have hque := hD.que
  have hqrel := hD.qrel
  have hfails := hD.fails
  refine F101_calls _ _  ?_
  unfold F101
  refine nz_i ?_
  refine ld_t hblk rfl ?_
  refine dSl_i ?_
  refine ⟨fun vs H' => ∃ s' : TH, s'.h = H' ∧ ∃ m, vs = [.int .i64 m] ∧ ChL [] [] s s' ∧ (∃ k : Nat, m = k ∧ k ≤ D.queue.length ∧ ∀ j x, j < k → qs[j]? = some x → (x.1 == b) = false), fun vs H' => match vs with | [.int .i64 m] => (D.queue.length - m).toNat | _ => 0, ⟨s, rfl, _, rfl, ChL.refl _ _ _, ?_⟩, ?_⟩
  ·
    exact ⟨0, rfl, by omega, fun j x h => by omega⟩
  ·
    intro m _ _ _ _ _ _ _ _ _ _ _ _ _ H22 hI
    obtain ⟨s22, rfl, m_, hvs, c_1, k, rfl, hk, hall⟩ := hI
    cases hvs
    have z_2 := c_1.size
    refine sB_d (fun hsB1 => ?_) (fun hsB1 => ?_)
    ·
      have hk2 : k < qs.length := by rw [hD.qrel.len]; omega
      obtain ⟨x, hx⟩ : ∃ x, qs[k]? = some x := ⟨qs[k], by simp⟩
      obtain ⟨aq, rfl⟩ := hD.que.sl.some (fun e => by have := qcell0 hx; rw [e] at this; simp at this)
      refine nz_i ?_
      refine ask_t (by omega) ?_
      have que_3 := hque.mv c_1 (tagL (by simp <;> omega) (by simp))
      refine ld_sl que_3.sl (by rw [Int.toNat_natCast]; exact qcell0 hx) ?_
      refine ld_sl2 que_3.sl (by rw [Int.toNat_natCast]; exact qcell1 hx) ?_
      refine ld_sl2 que_3.sl (by rw [Int.toNat_natCast]; exact qcell2 hx) ?_
      refine al_t 0 fun r28 s29 hr28 b_4 c_5 z_6 => ?_
      refine st_t b_4 rfl (by simp) fun s30 b_7 c_8 z_9 => ?_
      refine st_t b_7 rfl (by simp) fun s31 b_10 c_11 z_12 => ?_
      refine st_t b_10 rfl (by simp) fun s32 b_13 c_14 z_15 => ?_
      refine ld_t b_13 rfl ?_
      refine dInt_i ?_
      refine sB_eq (fun hsB2 => ?_) (fun hsB2 => ?_)
      ·
        refine ret_t ?_
        exact ⟨_, rfl, by rw [← ixf_qrel hD.qrel (fun x => x.1 == b) (fun x => x.id == b) (fun x m h1 h2 => by rw [h1])]; exact (ixf_some hx (by simpa using hsB2) hall).symm, ((((((Ch.refl [] s).chl c_1 (by simp) (by simp <;> omega)).ch c_5 (by simp)).on_new c_8 (by omega)).on_new c_11 (by omega)).on_new c_14 (by omega))⟩
      ·
        refine wr_t (by have := hD.nq; omega) ?_
        refine ⟨⟨s32, rfl, _, rfl, ((((((ChL.refl [] [] s).chl c_1 (by simp) (by simp <;> omega)).ch c_5 (by simp)).on_new c_8 (by omega)).on_new c_11 (by omega)).on_new c_14 (by omega)), ?_⟩, ?_⟩
        ·
          refine ⟨k + 1, by omega, by omega, fun j y hj hy => ?_⟩
          by_cases e : j = k
          · subst e; rw [hx] at hy; cases hy; simpa using hsB2
          · exact hall j y (by omega) hy
        ·
          simp only []; omega
    ·
      refine ret_t ?_
      exact ⟨_, rfl, by rw [← ixf_qrel hD.qrel (fun x => x.1 == b) (fun x => x.id == b) (fun x m h1 h2 => by rw [h1])]; exact (ixf_none fun j y hj hy => hall j y (by rw [hD.qrel.len] at hj; omega) hy).symm, ((Ch.refl [] s).chl c_1 (by simp) (by simp <;> omega))⟩

/-- bollard/bollardref02.New -/
theorem c_rnew (T n : Nat) (s : TH) (hT : 10 ≤ T) (hn : 1 ≤ n ∧ n ≤ 2048) : TRet Try.prog 58 #[.int .i64 (n : Int)] s fun v s' => ∃ d, v = .tuple #[.pointer (some ⟨d, 0, none⟩), .int .i64 0] ∧ Ch [T + 1] s s' ∧ RDisk s' d T (newDisk n) := by
  refine F58_calls _  ?_
  unfold F58
  refine jn_u ?_
  refine sB_d (fun hsB1 => by exfalso; omega) (fun hsB1 => ?_)
  intro _ _ _ _ _
  refine dBl_i ?_
  first | refine sB_d (fun hsB2 => ?_) (fun hsB2 => ?_) | refine sB_nd (fun hsB2 => ?_) (fun hsB2 => ?_) | refine sB_n (fun hsB2 => ?_) (fun hsB2 => ?_) | refine sB_i (fun hsB2 => ?_) (fun hsB2 => ?_)
  ·
    refine ret_t ?_
    simp at hsB2; omega
  ·
    refine ask_t (by omega) ?_
    refine al_t (T + 4) fun r9 s10 hr9 b_1 c_2 z_3 => ?_
    refine al_t T fun r11 s12 hr11 b_4 c_5 z_6 => ?_
    refine ⟨fun vs H' => ∃ s' : TH, s'.h = H' ∧ ∃ m, vs = [.int .i64 m] ∧ ChL [T + 1] [r11] s12 s' ∧ (∃ (k : Nat) (pa : Option Addr) (pc : Nat) (hs : List Hd), m = k ∧ k ≤ n ∧ Blk s' r11 [.slice pa k pc, .slice none 0 0, .slice (some ⟨r9, 0, none⟩) n n, .int .i64 0] 146 T ∧ Own s' pa k pc 48 1 (hs.flatMap hd1) (T + 1) ∧ BRel s' (T + 3) hs (List.replicate k (List.replicate 128 0))), fun vs H' => match vs with | [.int .i64 m] => (n - m).toNat | _ => 0, ⟨s12, rfl, _, rfl, ChL.refl _ _ _, ?_⟩, ?_⟩
    ·
      exact ⟨0, none, 0, [], rfl, by omega, b_4, Own.nil _ _ _ _, BRel.nil _ _⟩
    ·
      intro m _ _ _ _ _ _ _ _ _ _ _ _ H28 hI
      obtain ⟨s28, rfl, m_, hvs, c_7, k, pa, pc, hs, rfl, hk, r11_9, rows_10, brel_11⟩ := hI
      cases hvs
      have z_8 := c_7.size
      refine sB_d (fun hsB3 => ?_) (fun hsB3 => ?_)
      ·
        refine ld_t r11_9 rfl ?_
        refine dSl_i ?_
        refine ask_t (by omega) ?_
        refine al_t (T + 3) fun r34 s35 hr34 b_12 c_13 z_14 => ?_
        refine ⟨?_, ?_⟩
        ·
          have r11_15 := r11_9.ch c_13 (by simp)
          refine ld_t r11_15 rfl ?_
          refine dSl_i ?_
          rfl
        ·
          refine al_t 0 fun r40 s41 hr40 b_16 c_17 z_18 => ?_
          refine ⟨?_, ?_⟩
          ·
            have r11_19 := r11_9.ch c_13 (by simp)
            have r11_20 := r11_19.ch c_17 (by simp)
            refine ld_t r11_20 rfl ?_
            refine dSl_i ?_
            rfl
          ·
            have rows_21 := rows_10.mv c_13 (tagn (by simp))
            have rows_22 := rows_21.mv c_17 (tagn (by simp))
            refine app_i u37 in48 rfl rows_22 b_16.sl (m := 1) (k := 1) rfl (by intro u hu; simp at hu; subst hu; rfl) (by simp) (by unfold maxLen; omega) fun s49 pa2 pc2 rows_25 c_230 _ => ?_
            have c_23 := c_230.ch (T := [T + 1]) rows_22 (by simp)
            have z_24 := c_23.size
            refine dSl_i ?_
            have r11_26 := r11_9.ch c_13 (by simp)
            have r11_27 := r11_26.ch c_17 (by simp)
            have r11_28 := r11_27.ch c_23 (by intro h; simp only [List.mem_cons, List.not_mem_nil, or_false] at h <;> omega)
            refine st_t r11_28 rfl (by simp) fun s53 b_29 c_30 z_31 => ?_
            refine wr_t (by omega) ?_
            refine ⟨⟨s53, rfl, _, rfl, ((((((ChL.refl [T + 1] [r11] s12).chl c_7 (by simp) (by simp <;> omega)).ch c_13 (by simp)).ch c_17 (by simp)).ch c_23 (by simp)).on c_30 (by simp)), ?_⟩, ?_⟩
            ·
              have r34_32 := b_12.ch c_17 (by simp)
              have r34_33 := r34_32.ch c_23 (by intro h; simp only [List.mem_cons, List.not_mem_nil, or_false] at h <;> omega)
              have r34_34 := r34_33.on c_30 (by omega)
              have rows_35 := rows_25.mv c_30 (onn (by rw [r11_28.tag]; omega))
              have brel_36 := brel_11.mv c_13 (tagn (by simp))
              have brel_37 := brel_36.mv c_17 (tagn (by simp))
              have brel_38 := brel_37.mv c_23 (tagn (by intro h; simp only [List.mem_cons, List.not_mem_nil, or_false] at h <;> omega))
              have brel_39 := brel_38.mv c_30 (onn (by rw [r11_28.tag]; omega))
              have hb : ByAt s53 (T + 3) (some ⟨r34, 0, none⟩, 128) (List.replicate 128 0) := ⟨by have h := r34_34.sl; rw [rowZ_bvs] at h; exact h, by simp⟩
              exact ⟨k + 1, pa2, pc2, hs ++ [(some ⟨r34, 0, none⟩, 128)], by omega, by omega, by simpa using b_29, by simpa [hd1] using rows_35, by rw [List.replicate_succ']; exact brel_39.snoc hb⟩
            ·
              simp <;> omega
      ·
        refine ret_t ?_
        have r9_40 := b_1.ch c_5 (by simp)
        have r9_41 := r9_40.chl c_7 (by simp <;> omega) (by simp <;> omega)
        obtain rfl : k = n := by omega
        have hf := r9_41
        rw [Int.toNat_natCast, rowZ_int] at hf
        exact ⟨r11, rfl, ((((Ch.refl [T + 1] s).ch c_2 (by simp)).ch c_5 (by simp)).chl c_7 (by simp) (by simp <;> omega)), pa, pc, none, 0, hs, [], some ⟨r9, 0, none⟩, k, List.replicate k 0, ⟨by simpa [newDisk] using r11_9, by simpa [newDisk] using rows_10, brel_11, Own.nil _ _ _ _, QRel.nil _ _, by simpa [newDisk] using hf.own 1 (n := k) (by simp) (by unfold maxLen; omega), fun i x hx => (List.eq_of_mem_replicate (List.mem_of_getElem? hx)), by simp [newDisk]; omega, by simp [newDisk], fun m hm => by simp [newDisk] at hm⟩⟩

/-- (*bollard/bollardref02.Disk).Write -/
theorem c_rwrite (d T : Nat) (D : DiskM) (b : Int) {xa : Option Addr} (xn xc : Nat) {l : List UInt8} {τx : Nat} (s : TH) (hT : 10 ≤ T) (hd : RDisk s d T D) (hx : Sl s xa (bvs l) τx) (hxl : l.length = xn) (hx1 : xn ≤ 1000000) (hx2 : τx ≠ T) (hlast : 0 ≤ D.last ∧ D.last ≤ 1000000000000000000) : TRet Try.prog 60 #[.pointer (some ⟨d, 0, none⟩), .int .i64 b, .slice xa xn xc] s fun v s' => v = .tuple #[.int .i64 (D.write b l).2.1, .int .i64 (D.write b l).2.2] ∧ Ch [T, T + 1, T + 2, T + 3, T + 4] s s' ∧ RDisk s' d T (D.write b l).1 := by
  obtain ⟨pa, pc, qa, qc, hs, qs, fa, fc, fl, hD⟩ := id hd
  have hblk := hD.blk
  have hrows := hD.rows
  have hbrel := hD.brel
  have hque := hD.que
  have hqrel := hD.qrel
  have hfails := hD.fails
  refine F60_calls _ _ _ _ _  ?_
  unfold F60
  refine jn_u ?_
  refine tcall (c_rhas _ _ _ _ _ hT hd) ?_
  rintro _ s97 ⟨rfl, c_1⟩
  have z_2 := c_1.size
  refine dBl_i ?_
  first | refine sB_d (fun hsB1 => ?_) (fun hsB1 => ?_) | refine sB_nd (fun hsB1 => ?_) (fun hsB1 => ?_) | refine sB_n (fun hsB1 => ?_) (fun hsB1 => ?_) | refine sB_i (fun hsB1 => ?_) (fun hsB1 => ?_)
  ·
    intro _ _ _ _ _ _ _ _
    refine dBl_i ?_
    refine sB_t (by rfl) ?_
    refine ret_t ?_
    have D_3 := hd.mv c_1 (rngn (by simp <;> omega))
    rw [write_1 (.inl (by simpa using hsB1))]
    exact ⟨rfl, ((Ch.refl [T, T + 1, T + 2, T + 3, T + 4] s).ch c_1 (by simp)), D_3⟩
  ·
    intro _ _ _ _ _ _ _ _
    refine dBl_i ?_
    refine sB_ne (fun hsB3 => ?_) (fun hsB3 => ?_)
    ·
      refine ret_t ?_
      have D_4 := hd.mv c_1 (rngn (by simp <;> omega))
      rw [write_1 (.inr (by omega))]
      exact ⟨rfl, ((Ch.refl [T, T + 1, T + 2, T + 3, T + 4] s).ch c_1 (by simp)), D_4⟩
    ·
      have hh : D.has b := by simpa using hsB1
      obtain rfl : xn = 128 := by omega
      refine nz_i ?_
      have blk_5 := hblk.ch c_1 (by simp)
      refine ld_t blk_5 rfl ?_
      refine dSl_i ?_
      refine ⟨fun vs H' => ∃ s' : TH, s'.h = H' ∧ ∃ m, vs = [.int .i64 m] ∧ ChL [] [] s97 s' ∧ (∃ k : Nat, m = k ∧ k ≤ D.queue.length ∧ ∀ j x, j < k → qs[j]? = some x → (x.2.1 == b) = false), fun vs H' => match vs with | [.int .i64 m] => (D.queue.length - m).toNat | _ => 0, ⟨s97, rfl, _, rfl, ChL.refl _ _ _, ?_⟩, ?_⟩
      ·
        exact ⟨0, rfl, by omega, fun j x h => by omega⟩
      ·
        intro m _ _ _ _ _ _ _ _ _ _ _ H31 hI
        obtain ⟨s31, rfl, m_, hvs, c_6, k, rfl, hk, hall⟩ := hI
        cases hvs
        have z_7 := c_6.size
        refine sB_d (fun hsB4 => ?_) (fun hsB4 => ?_)
        ·
          have hk2 : k < qs.length := by rw [hD.qrel.len]; omega
          obtain ⟨x, hx⟩ : ∃ x, qs[k]? = some x := ⟨qs[k], by simp⟩
          obtain ⟨aq, rfl⟩ := hD.que.sl.some (fun e => by have := qcell0 hx; rw [e] at this; simp at this)
          refine nz_i ?_
          refine ask_t (by omega) ?_
          have que_8 := hque.mv c_1 (tagn (by simp))
          have que_9 := que_8.mv c_6 (tagL (by simp <;> omega) (by simp))
          refine ld_sl que_9.sl (by rw [Int.toNat_natCast]; exact qcell0 hx) ?_
          refine ld_sl2 que_9.sl (by rw [Int.toNat_natCast]; exact qcell1 hx) ?_
          refine ld_sl2 que_9.sl (by rw [Int.toNat_natCast]; exact qcell2 hx) ?_
          refine al_t 0 fun r37 s38 hr37 b_10 c_11 z_12 => ?_
          refine st_t b_10 rfl (by simp) fun s39 b_13 c_14 z_15 => ?_
          refine st_t b_13 rfl (by simp) fun s40 b_16 c_17 z_18 => ?_
          refine st_t b_16 rfl (by simp) fun s41 b_19 c_20 z_21 => ?_
          refine ld_t b_19 rfl ?_
          refine dInt_i ?_
          refine sB_eq (fun hsB5 => ?_) (fun hsB5 => ?_)
          ·
            refine ret_t ?_
            have D_22 := hd.mv c_1 (rngn (by simp <;> omega))
            have D_23 := D_22.mv c_6 (rngL (by simp <;> omega) (by simp))
            have D_24 := D_23.mv c_11 (rngn (by simp <;> omega))
            have D_25 := D_24.mv c_14 (rngO (by rw [b_10.tag]; omega))
            have D_26 := D_25.mv c_17 (rngO (by rw [b_13.tag]; omega))
            have D_27 := D_26.mv c_20 (rngO (by rw [b_16.tag]; omega))
            have h3 : ixf (fun x : Int × Int × Hd => x.2.1 == b) qs = k := ixf_some hx (by simpa using hsB5) hall
            rw [ixf_qrel hD.qrel (fun x => x.2.1 == b) (fun m => m.blk == b) (fun x m _ h2 => by rw [h2])] at h3
            rw [write_2 hh hxl (by omega)]
            exact ⟨rfl, (((((((Ch.refl [T, T + 1, T + 2, T + 3, T + 4] s).ch c_1 (by simp)).chl c_6 (by simp) (by simp <;> omega)).ch c_11 (by simp)).on_new c_14 (by omega)).on_new c_17 (by omega)).on_new c_20 (by omega)), D_27⟩
          ·
            refine wr_t (by have := hD.nq; omega) ?_
            refine ⟨⟨s41, rfl, _, rfl, ((((((ChL.refl [] [] s97).chl c_6 (by simp) (by simp <;> omega)).ch c_11 (by simp)).on_new c_14 (by omega)).on_new c_17 (by omega)).on_new c_20 (by omega)), ?_⟩, ?_⟩
            ·
              refine ⟨k + 1, by omega, by omega, fun j y hj hy => ?_⟩
              by_cases e : j = k
              · subst e; rw [hx] at hy; cases hy; simpa using hsB5
              · exact hall j y (by omega) hy
            ·
              simp only []; omega
        ·
          have h3 : ixf (fun x : Int × Int × Hd => x.2.1 == b) qs = -1 := ixf_none fun j y hj hy => hall j y (by rw [hD.qrel.len] at hj; omega) hy
          rw [ixf_qrel hD.qrel (fun x => x.2.1 == b) (fun m => m.blk == b) (fun x m _ h2 => by rw [h2])] at h3
          refine nz_i ?_
          have blk_28 := blk_5.chl c_6 (by simp <;> omega) (by simp <;> omega)
          refine ld_t blk_28 rfl ?_
          refine dSl_i ?_
          refine sB_d (fun hsB6 => ?_) (fun hsB6 => ?_)
          ·
            refine ret_t ?_
            have D_29 := hd.mv c_1 (rngn (by simp <;> omega))
            have D_30 := D_29.mv c_6 (rngL (by simp <;> omega) (by simp))
            rw [write_3 hh hxl (by omega) (by omega)]
            exact ⟨rfl, (((Ch.refl [T, T + 1, T + 2, T + 3, T + 4] s).ch c_1 (by simp)).chl c_6 (by simp) (by simp <;> omega)), D_30⟩
          ·
            refine nz_i ?_
            refine ld_t blk_28 rfl ?_
            refine dInt_i ?_
            refine wr_t (by omega) ?_
            refine nz_i ?_
            refine st_t blk_28 rfl (by simp) fun s55 b_31 c_32 z_33 => ?_
            refine nz_i ?_
            refine ld_t b_31 rfl ?_
            refine dSl_i ?_
            refine nz_i ?_
            refine ld_t b_31 rfl ?_
            refine dInt_i ?_
            have x_34 := hx.mv c_1 (tagn (by simp))
            have x_35 := x_34.mv c_6 (tagL (by simp <;> omega) (by simp))
            have x_36 := x_35.mv c_32 (onn (by rw [blk_28.tag]; omega))
            refine tcall (c_copied (T + 3) _ x_36 hxl (fun h => by obtain ⟨y, hy⟩ := hx.some (fun e => by have := congrArg List.length e; simp only [bvs_len, List.length_nil] at this; omega); rw [h] at hy; cases hy) (by omega)) ?_
            rintro _ s65 ⟨xa2, xc2, rfl, c_37, nx_39⟩
            have z_38 := c_37.size
            refine dSl_i ?_
            refine ⟨?_, ?_⟩
            ·
              have blk_40 := b_31.ch c_37 (by simp)
              refine ld_t blk_40 rfl ?_
              refine dInt_i ?_
              rfl
            ·
              refine ⟨?_, ?_⟩
              ·
                have blk_41 := b_31.ch c_37 (by simp)
                refine ld_t blk_41 rfl ?_
                refine dSl_i ?_
                rfl
              ·
                refine al_t 0 fun r75 s76 hr75 b_42 c_43 z_44 => ?_
                refine ⟨?_, ?_⟩
                ·
                  have blk_45 := b_31.ch c_37 (by simp)
                  have blk_46 := blk_45.ch c_43 (by simp)
                  refine ld_t blk_46 rfl ?_
                  refine dSl_i ?_
                  rfl
                ·
                  have que_47 := hque.mv c_1 (tagn (by simp))
                  have que_48 := que_47.mv c_6 (tagL (by simp <;> omega) (by simp))
                  have que_49 := que_48.mv c_32 (onn (by rw [blk_28.tag]; omega))
                  have que_50 := que_49.mv c_37 (tagn (by simp))
                  have que_51 := que_50.mv c_43 (tagn (by simp))
                  refine app_i u74 in149 rfl que_51 b_42.sl (m := 1) (k := 3) rfl (by intro u hu; simp at hu; rcases hu with rfl | rfl | rfl <;> rfl) (by simp) (by have := hD.nq; unfold maxLen; omega) fun s84 qa2 qc2 que_54 c_520 _ => ?_
                  have c_52 := c_520.ch (T := [T + 2]) que_51 (by simp)
                  have z_53 := c_52.size
                  refine dSl_i ?_
                  refine nz_i ?_
                  have blk_55 := b_31.ch c_37 (by simp)
                  have blk_56 := blk_55.ch c_43 (by simp)
                  have blk_57 := blk_56.ch c_52 (by intro h; simp only [List.mem_cons, List.not_mem_nil, or_false] at h <;> omega)
                  refine st_t blk_57 rfl (by simp) fun s89 b_58 c_59 z_60 => ?_
                  refine nz_i ?_
                  refine ld_t b_58 rfl ?_
                  refine dInt_i ?_
                  refine ret_t ?_
                  have rows_61 := hrows.mv c_1 (tagn (by simp))
                  have rows_62 := rows_61.mv c_6 (tagL (by simp <;> omega) (by simp))
                  have rows_63 := rows_62.mv c_32 (onn (by rw [blk_28.tag]; omega))
                  have rows_64 := rows_63.mv c_37 (tagn (by simp))
                  have rows_65 := rows_64.mv c_43 (tagn (by simp))
                  have rows_66 := rows_65.mv c_52 (tagn (by intro h; simp only [List.mem_cons, List.not_mem_nil, or_false] at h <;> omega))
                  have rows_67 := rows_66.mv c_59 (onn (by rw [blk_57.tag]; omega))
                  have brel_68 := hbrel.mv c_1 (tagn (by simp))
                  have brel_69 := brel_68.mv c_6 (tagL (by simp <;> omega) (by simp))
                  have brel_70 := brel_69.mv c_32 (onn (by rw [blk_28.tag]; omega))
                  have brel_71 := brel_70.mv c_37 (tagn (by simp))
                  have brel_72 := brel_71.mv c_43 (tagn (by simp))
                  have brel_73 := brel_72.mv c_52 (tagn (by intro h; simp only [List.mem_cons, List.not_mem_nil, or_false] at h <;> omega))
                  have brel_74 := brel_73.mv c_59 (onn (by rw [blk_57.tag]; omega))
                  have que_75 := que_54.mv c_59 (onn (by rw [blk_57.tag]; omega))
                  have qrel_76 := hqrel.mv c_1 (tagn (by simp))
                  have qrel_77 := qrel_76.mv c_6 (tagL (by simp <;> omega) (by simp))
                  have qrel_78 := qrel_77.mv c_32 (onn (by rw [blk_28.tag]; omega))
                  have qrel_79 := qrel_78.mv c_37 (tagn (by simp))
                  have qrel_80 := qrel_79.mv c_43 (tagn (by simp))
                  have qrel_81 := qrel_80.mv c_52 (tagn (by intro h; simp only [List.mem_cons, List.not_mem_nil, or_false] at h <;> omega))
                  have qrel_82 := qrel_81.mv c_59 (onn (by rw [blk_57.tag]; omega))
                  have nx_83 := nx_39.mv c_43 (tagn (by simp))
                  have nx_84 := nx_83.mv c_52 (tagn (by intro h; simp only [List.mem_cons, List.not_mem_nil, or_false] at h <;> omega))
                  have nx_85 := nx_84.mv c_59 (onn (by rw [blk_57.tag]; omega))
                  have fails_86 := hfails.mv c_1 (tagn (by simp))
                  have fails_87 := fails_86.mv c_6 (tagL (by simp <;> omega) (by simp))
                  have fails_88 := fails_87.mv c_32 (onn (by rw [blk_28.tag]; omega))
                  have fails_89 := fails_88.mv c_37 (tagn (by simp))
                  have fails_90 := fails_89.mv c_43 (tagn (by simp))
                  have fails_91 := fails_90.mv c_52 (tagn (by intro h; simp only [List.mem_cons, List.not_mem_nil, or_false] at h <;> omega))
                  have fails_92 := fails_91.mv c_59 (onn (by rw [blk_57.tag]; omega))
                  rw [write_4 hh hxl (by omega) (by omega)]
                  exact ⟨rfl, ((((((((Ch.refl [T, T + 1, T + 2, T + 3, T + 4] s).ch c_1 (by simp)).chl c_6 (by simp) (by simp <;> omega)).on_tag c_32 blk_28.tag (by simp)).ch c_37 (by simp)).ch c_43 (by simp)).ch c_52 (by simp)).on_tag c_59 blk_57.tag (by simp)), pa, pc, qa2, qc2, hs, qs ++ [(D.last + 1, b, (xa2, xc2))], fa, fc, fl, ⟨by simpa using b_58, rows_67, brel_74, by simpa [qv] using que_75, qrel_82.snoc ⟨rfl, rfl, ⟨nx_85.sl, hxl⟩⟩, fails_92, hD.fok, hD.nb, by simp; omega, fun m hm => by rcases List.mem_append.1 hm with hm | hm <;> first | exact hD.qin m hm | (simp at hm; subst hm; unfold DiskM.has at hh; exact hh)⟩⟩


theorem sl_keep {s s' : TH} {a : Option Addr} {l : List Value} {τ : Nat} {B : Nat → Prop} (h : Sl s a l τ) (C : Chg B s s') (hn : ∀ b, a = some b → ¬ B b.block) : Sl s' a l τ := by
  rcases h with h | ⟨g, o, h1, h2, h3, h4⟩
  · exact .inl h
  · exact .inr ⟨g, o, h1, Nat.lt_of_lt_of_le h2 C.size, (C.tag g h2).trans h3, fun j v hv => by rw [cellH_of (C.get g h2 (hn _ h1))]; exact h4 j v hv⟩
theorem slO_block {a : Addr} {k : Nat} {i m : Int} {b : Addr} (h : slO (some a) k i m = some b) : b.block = a.block := by
  unfold slO slA Addr.add at h
  simp only [Option.map_some, Option.some.injEq] at h
  subst h
  split <;> (try split) <;> rfl
theorem Own.blt {s : TH} {a : Addr} {n c e k : Nat} {xs : List Value} {τ : Nat} (h : Own s (some a) n c e k xs τ) : a.block < s.h.size := by
  rcases h.2 with ⟨h0, _⟩ | ⟨g, o, L, h2, h3, _⟩
  · cases h0
  · cases h2; exact h3.lt

/-- (*bollard/bollardref02.Disk).Complete -/
theorem c_rcomplete (d T : Nat) (D : DiskM) (n0 : Int) (ok : Bool) (s : TH) (hT : 10 ≤ T) (hd : RDisk s d T D) : TRet Try.prog 62 #[.pointer (some ⟨d, 0, none⟩), .int .i64 n0, .bool ok] s fun v s' => v = .int .i64 (D.complete n0 ok).2 ∧ Ch [T, T + 1, T + 2, T + 3, T + 4] s s' ∧ RDisk s' d T (D.complete n0 ok).1 := by
  obtain ⟨pa, pc, qa, qc, hs, qs, fa, fc, fl, hD⟩ := id hd
  have hblk := hD.blk
  have hrows := hD.rows
  have hbrel := hD.brel
  have hque := hD.que
  have hqrel := hD.qrel
  have hfails := hD.fails
  refine F62_calls _ _ _  ?_
  unfold F62
  refine tcall (c_rfind _ _ _ _ _ hT hd) ?_
  rintro _ s2 ⟨k, rfl, hk, c_1⟩
  have z_2 := c_1.size
  refine dInt_i ?_
  refine sB_d (fun hsB1 => ?_) (fun hsB1 => ?_)
  ·
    refine ret_t ?_
    have D_3 := hd.mv c_1 (rngn (by simp <;> omega))
    rw [compl_1 (by omega)]
    exact ⟨rfl, ((Ch.refl [T, T + 1, T + 2, T + 3, T + 4] s).ch c_1 (by simp)), D_3⟩
  ·
    rcases ixf_cases (fun x : SentM => x.id == n0) D.queue with ⟨h1, _⟩ | ⟨i, m, h1, hm, _⟩
    · omega
    obtain rfl : k = i := by omega
    have hi : i < D.queue.length := (List.getElem?_eq_some_iff.1 hm).1
    obtain ⟨x, hx⟩ : ∃ x, qs[i]? = some x := ⟨qs[i]'(by rw [hD.qrel.len]; exact hi), by simp [hD.qrel.len, hi]⟩
    have hQ := hD.qrel.at_ i x m hx hm
    have hin := hD.qin m (List.mem_of_getElem? hm)
    obtain ⟨aq, rfl⟩ := hD.que.sl.some (fun e => by have := qcell0 hx; rw [e] at this; simp at this)
    have hql := hD.que.le
    have haq := hD.que.blt
    have hnq := hD.nq
    refine nz_i ?_
    have blk_4 := hblk.ch c_1 (by simp)
    refine ld_t blk_4 rfl ?_
    refine dSl_i ?_
    refine nz_i ?_
    refine ask_t (by omega) ?_
    have que_5 := hque.mv c_1 (tagn (by simp))
    refine ld_sl que_5.sl (by rw [Int.toNat_natCast]; exact qcell0 hx) ?_
    refine ld_sl2 que_5.sl (by rw [Int.toNat_natCast]; exact qcell1 hx) ?_
    refine ld_sl2 que_5.sl (by rw [Int.toNat_natCast]; exact qcell2 hx) ?_
    refine al_t 0 fun r13 s14 hr13 b_6 c_7 z_8 => ?_
    refine st_t b_6 rfl (by simp) fun s15 b_9 c_10 z_11 => ?_
    refine st_t b_9 rfl (by simp) fun s16 b_12 c_13 z_14 => ?_
    refine st_t b_12 rfl (by simp) fun s17 b_15 c_16 z_17 => ?_
    refine nz_i ?_
    have blk_18 := blk_4.ch c_7 (by simp)
    have blk_19 := blk_18.on c_10 (by intro he; have h1 := blk_18.tag; have h2 := b_6.tag; rw [he] at h1; rw [h1] at h2; revert h2; simp <;> omega)
    have blk_20 := blk_19.on c_13 (by intro he; have h1 := blk_19.tag; have h2 := b_9.tag; rw [he] at h1; rw [h1] at h2; revert h2; simp <;> omega)
    have blk_21 := blk_20.on c_16 (by intro he; have h1 := blk_20.tag; have h2 := b_12.tag; rw [he] at h1; rw [h1] at h2; revert h2; simp <;> omega)
    refine ld_t blk_21 rfl ?_
    refine dSl_i ?_
    refine ask_t (by omega) ?_
    refine nz_i ?_
    refine ld_t blk_21 rfl ?_
    refine dSl_i ?_
    refine wr_t (by omega) ?_
    refine ask_t (by omega) ?_
    refine al_t (T + 2) fun r29 s30 hr29 b_22 c_23 z_24 => ?_
    refine ⟨?_, ?_⟩
    ·
      have blk_25 := blk_21.ch c_23 (by simp)
      refine ld_t blk_25 rfl ?_
      refine dSl_i ?_
      rfl
    ·
      refine ⟨?_, ?_⟩
      ·
        have blk_26 := blk_21.ch c_23 (by simp)
        refine ld_t blk_26 rfl ?_
        refine dSl_i ?_
        rfl
      ·
        have que_27 := que_5.mv c_7 (tagn (by simp))
        have que_28 := que_27.mv c_10 (onn (by rw [b_6.tag]; omega))
        have que_29 := que_28.mv c_13 (onn (by rw [b_9.tag]; omega))
        have que_30 := que_29.mv c_16 (onn (by rw [b_12.tag]; omega))
        have que_31 := que_30.mv c_23 (tagn (by simp))
        have hcut := que_31.cut (m := i + 1) (by omega)
        simp only [Int.toNat_natCast, Int.toNat_zero, Nat.sub_zero, slO_zero]
        refine app_i u74 in149 rfl (b_22.own0 3) (que_31.pre (m := i) (by omega)).sl (que_31.pre (m := i) (by omega)).len (fun u hu => one_fm qs 0 u (by rw [List.drop_zero]; exact List.mem_of_mem_take hu)) (fun h => by cases h) (by unfold maxLen; omega) fun s42 a1 c1 o_34 c_320 hnil => ?_
        have c_32 := c_320.ch (T := [T + 2]) (b_22.own0 3) (by simp); have hcut2 := sl_keep hcut c_320 (fun b hb => by rw [slO_block hb]; simp only [Option.map_some, Option.some.injEq]; omega)
        have z_33 := c_32.size
        rw [Nat.zero_add, List.nil_append] at o_34
        simp only [Nat.zero_add]
        refine dSl_i ?_
        refine ⟨?_, ?_⟩
        ·
          have blk_35 := blk_21.ch c_23 (by simp)
          have blk_36 := blk_35.ch c_32 (by intro h; simp only [List.mem_cons, List.not_mem_nil, or_false] at h <;> omega)
          refine ld_t blk_36 rfl ?_
          refine dSl_i ?_
          rfl
        ·
          rw [show ((i : Int) + 1) = ((i + 1 : Nat) : Int) from by omega]
          simp only [Int.toNat_natCast]
          refine app_i u74 in149 rfl o_34 hcut2 (m := D.queue.length - (i + 1)) (k := 3) (by rw [List.length_drop, hD.que.len, ← Nat.sub_mul]) (one_fm qs _) (by intro h; rcases Nat.lt_or_ge (i + 1) D.queue.length with h2 | h2 <;> first | (exfalso; cases hs' : slO (some aq) 3 ((i + 1 : Nat) : Int) (qc : Int) <;> simp_all [slO]) | omega) (by unfold maxLen; omega) fun s53 qa2 qc2 que_39 c_370 _ => ?_
          have c_37 := c_370.ch (T := [T + 2]) o_34 (by simp)
          have z_38 := c_37.size
          refine dSl_i ?_
          refine nz_i ?_
          have blk_40 := blk_21.ch c_23 (by simp)
          have blk_41 := blk_40.ch c_32 (by intro h; simp only [List.mem_cons, List.not_mem_nil, or_false] at h <;> omega)
          have blk_42 := blk_41.ch c_37 (by intro h; simp only [List.mem_cons, List.not_mem_nil, or_false] at h <;> omega)
          refine st_t blk_42 rfl (by simp) fun s58 b_43 c_44 z_45 => ?_
          refine sB_n (fun hsB2 => ?_) (fun hsB2 => ?_)
          ·
            refine ret_t ?_
            have que_46 := que_39.mv c_44 (onn (by rw [blk_42.tag]; omega))
            have rows_47 := hrows.mv c_1 (tagn (by simp))
            have rows_48 := rows_47.mv c_7 (tagn (by simp))
            have rows_49 := rows_48.mv c_10 (onn (by rw [b_6.tag]; omega))
            have rows_50 := rows_49.mv c_13 (onn (by rw [b_9.tag]; omega))
            have rows_51 := rows_50.mv c_16 (onn (by rw [b_12.tag]; omega))
            have rows_52 := rows_51.mv c_23 (tagn (by simp))
            have rows_53 := rows_52.mv c_32 (tagn (by intro h; simp only [List.mem_cons, List.not_mem_nil, or_false] at h <;> omega))
            have rows_54 := rows_53.mv c_37 (tagn (by intro h; simp only [List.mem_cons, List.not_mem_nil, or_false] at h <;> omega))
            have rows_55 := rows_54.mv c_44 (onn (by rw [blk_42.tag]; omega))
            have brel_56 := hbrel.mv c_1 (tagn (by simp))
            have brel_57 := brel_56.mv c_7 (tagn (by simp))
            have brel_58 := brel_57.mv c_10 (onn (by rw [b_6.tag]; omega))
            have brel_59 := brel_58.mv c_13 (onn (by rw [b_9.tag]; omega))
            have brel_60 := brel_59.mv c_16 (onn (by rw [b_12.tag]; omega))
            have brel_61 := brel_60.mv c_23 (tagn (by simp))
            have brel_62 := brel_61.mv c_32 (tagn (by intro h; simp only [List.mem_cons, List.not_mem_nil, or_false] at h <;> omega))
            have brel_63 := brel_62.mv c_37 (tagn (by intro h; simp only [List.mem_cons, List.not_mem_nil, or_false] at h <;> omega))
            have brel_64 := brel_63.mv c_44 (onn (by rw [blk_42.tag]; omega))
            have qrel_65 := hqrel.mv c_1 (tagn (by simp))
            have qrel_66 := qrel_65.mv c_7 (tagn (by simp))
            have qrel_67 := qrel_66.mv c_10 (onn (by rw [b_6.tag]; omega))
            have qrel_68 := qrel_67.mv c_13 (onn (by rw [b_9.tag]; omega))
            have qrel_69 := qrel_68.mv c_16 (onn (by rw [b_12.tag]; omega))
            have qrel_70 := qrel_69.mv c_23 (tagn (by simp))
            have qrel_71 := qrel_70.mv c_32 (tagn (by intro h; simp only [List.mem_cons, List.not_mem_nil, or_false] at h <;> omega))
            have qrel_72 := qrel_71.mv c_37 (tagn (by intro h; simp only [List.mem_cons, List.not_mem_nil, or_false] at h <;> omega))
            have qrel_73 := qrel_72.mv c_44 (onn (by rw [blk_42.tag]; omega))
            have fails_74 := hfails.mv c_1 (tagn (by simp))
            have fails_75 := fails_74.mv c_7 (tagn (by simp))
            have fails_76 := fails_75.mv c_10 (onn (by rw [b_6.tag]; omega))
            have fails_77 := fails_76.mv c_13 (onn (by rw [b_9.tag]; omega))
            have fails_78 := fails_77.mv c_16 (onn (by rw [b_12.tag]; omega))
            have fails_79 := fails_78.mv c_23 (tagn (by simp))
            have fails_80 := fails_79.mv c_32 (tagn (by intro h; simp only [List.mem_cons, List.not_mem_nil, or_false] at h <;> omega))
            have fails_81 := fails_80.mv c_37 (tagn (by intro h; simp only [List.mem_cons, List.not_mem_nil, or_false] at h <;> omega))
            have fails_82 := fails_81.mv c_44 (onn (by rw [blk_42.tag]; omega))
            subst hsB2
            rw [compl_2 h1 hm]
            have hle : (D.queue.eraseIdx i).length = i + (D.queue.length - (i + 1)) := by rw [List.length_eraseIdx, if_pos hi]; omega
            have hb := b_43
            have hq := que_46
            rw [fm_erase qv_len] at hq
            exact ⟨rfl, ((((((((((Ch.refl [T, T + 1, T + 2, T + 3, T + 4] s).ch c_1 (by simp)).ch c_7 (by simp)).on_new c_10 (by omega)).on_new c_13 (by omega)).on_new c_16 (by omega)).ch c_23 (by simp)).ch c_32 (by simp)).ch c_37 (by simp)).on_tag c_44 blk_42.tag (by simp)), pa, pc, qa2, qc2, hs, qs.eraseIdx i, fa, fc, fl, ⟨by simpa [hle] using hb, rows_55, brel_64, by simp only [hle]; exact hq, qrel_73.erase i, fails_82, hD.fok, hD.nb, by simp only [hle]; omega, fun m hm => hD.qin m (List.mem_of_mem_eraseIdx hm)⟩⟩
          ·
            obtain ⟨ap, rfl⟩ : ∃ ap, pa = some ap := by
              have h0 := hD.nb
              rcases hD.rows.2 with ⟨_, h2, _⟩ | ⟨g, o, L, h2, _⟩
              · omega
              · exact ⟨_, h2⟩
            refine nz_i ?_
            refine ld_t b_43 rfl ?_
            refine dSl_i ?_
            have r13_83 := b_15.ch c_23 (by simp)
            have r13_84 := r13_83.ch c_32 (by intro h; simp only [List.mem_cons, List.not_mem_nil, or_false] at h <;> omega)
            have r13_85 := r13_84.ch c_37 (by intro h; simp only [List.mem_cons, List.not_mem_nil, or_false] at h <;> omega)
            have r13_86 := r13_85.on c_44 (by intro he; have h1 := r13_85.tag; have h2 := blk_42.tag; rw [he] at h1; rw [h1] at h2; revert h2; simp <;> omega)
            refine ld_t r13_86 rfl ?_
            refine dInt_i ?_
            refine ld_t r13_86 rfl ?_
            refine dSl_i ?_
            have qrel_87 := hqrel.mv c_1 (tagn (by simp))
            have qrel_88 := qrel_87.mv c_7 (tagn (by simp))
            have qrel_89 := qrel_88.mv c_10 (onn (by rw [b_6.tag]; omega))
            have qrel_90 := qrel_89.mv c_13 (onn (by rw [b_9.tag]; omega))
            have qrel_91 := qrel_90.mv c_16 (onn (by rw [b_12.tag]; omega))
            have qrel_92 := qrel_91.mv c_23 (tagn (by simp))
            have qrel_93 := qrel_92.mv c_32 (tagn (by intro h; simp only [List.mem_cons, List.not_mem_nil, or_false] at h <;> omega))
            have qrel_94 := qrel_93.mv c_37 (tagn (by intro h; simp only [List.mem_cons, List.not_mem_nil, or_false] at h <;> omega))
            have qrel_95 := qrel_94.mv c_44 (onn (by rw [blk_42.tag]; omega))
            refine tcall (c_copied (T + 3) _ (qrel_95.at_ i x m hx hm).2.2.sl (qrel_95.at_ i x m hx hm).2.2.len (fun h => by obtain ⟨y, hy⟩ := hQ.2.2.ne; rw [h] at hy; cases hy) (by omega)) ?_
            rintro _ s71 ⟨xa2, xc2, rfl, c_96, nx_98⟩
            have z_97 := c_96.size
            refine dSl_i ?_
            refine ⟨?_, ?_⟩
            ·
              have r13_99 := r13_86.ch c_96 (by simp)
              refine ld_t r13_99 rfl ?_
              refine dInt_i ?_
              rfl
            ·
              refine ⟨?_, ?_⟩
              ·
                have blk_100 := b_43.ch c_96 (by simp)
                refine ld_t blk_100 rfl ?_
                refine dSl_i ?_
                rfl
              ·
                refine nz_i ?_
                refine ask_t (by rw [hQ.2.1]; omega) ?_
                have rows_101 := hrows.mv c_1 (tagn (by simp))
                have rows_102 := rows_101.mv c_7 (tagn (by simp))
                have rows_103 := rows_102.mv c_10 (onn (by rw [b_6.tag]; omega))
                have rows_104 := rows_103.mv c_13 (onn (by rw [b_9.tag]; omega))
                have rows_105 := rows_104.mv c_16 (onn (by rw [b_12.tag]; omega))
                have rows_106 := rows_105.mv c_23 (tagn (by simp))
                have rows_107 := rows_106.mv c_32 (tagn (by intro h; simp only [List.mem_cons, List.not_mem_nil, or_false] at h <;> omega))
                have rows_108 := rows_107.mv c_37 (tagn (by intro h; simp only [List.mem_cons, List.not_mem_nil, or_false] at h <;> omega))
                have rows_109 := rows_108.mv c_44 (onn (by rw [blk_42.tag]; omega))
                have rows_110 := rows_109.mv c_96 (tagn (by simp))
                refine Own.st rows_110 rfl (by have := hin; rw [hQ.2.1]; omega) fun s82 b_111 c_112 z_113 => ?_
                have c_114 := Ch.on_tag (T := [T + 1]) (Ch.refl _ _) c_112 rows_110.tagOf (by simp)
                refine ret_t ?_
                have blk_115 := b_43.ch c_96 (by simp)
                have blk_116 := blk_115.ch c_114 (by intro h; simp only [List.mem_cons, List.not_mem_nil, or_false] at h <;> omega)
                have que_117 := que_39.mv c_44 (onn (by rw [blk_42.tag]; omega))
                have que_118 := que_117.mv c_96 (tagn (by simp))
                have que_119 := que_118.mv c_114 (tagn (by intro h; simp only [List.mem_cons, List.not_mem_nil, or_false] at h <;> omega))
                have nx_120 := nx_98.mv c_114 (tagn (by intro h; simp only [List.mem_cons, List.not_mem_nil, or_false] at h <;> omega))
                have brel_121 := hbrel.mv c_1 (tagn (by simp))
                have brel_122 := brel_121.mv c_7 (tagn (by simp))
                have brel_123 := brel_122.mv c_10 (onn (by rw [b_6.tag]; omega))
                have brel_124 := brel_123.mv c_13 (onn (by rw [b_9.tag]; omega))
                have brel_125 := brel_124.mv c_16 (onn (by rw [b_12.tag]; omega))
                have brel_126 := brel_125.mv c_23 (tagn (by simp))
                have brel_127 := brel_126.mv c_32 (tagn (by intro h; simp only [List.mem_cons, List.not_mem_nil, or_false] at h <;> omega))
                have brel_128 := brel_127.mv c_37 (tagn (by intro h; simp only [List.mem_cons, List.not_mem_nil, or_false] at h <;> omega))
                have brel_129 := brel_128.mv c_44 (onn (by rw [blk_42.tag]; omega))
                have brel_130 := brel_129.mv c_96 (tagn (by simp))
                have brel_131 := brel_130.mv c_114 (tagn (by intro h; simp only [List.mem_cons, List.not_mem_nil, or_false] at h <;> omega))
                have qrel_132 := qrel_95.mv c_96 (tagn (by simp))
                have qrel_133 := qrel_132.mv c_114 (tagn (by intro h; simp only [List.mem_cons, List.not_mem_nil, or_false] at h <;> omega))
                have fails_134 := hfails.mv c_1 (tagn (by simp))
                have fails_135 := fails_134.mv c_7 (tagn (by simp))
                have fails_136 := fails_135.mv c_10 (onn (by rw [b_6.tag]; omega))
                have fails_137 := fails_136.mv c_13 (onn (by rw [b_9.tag]; omega))
                have fails_138 := fails_137.mv c_16 (onn (by rw [b_12.tag]; omega))
                have fails_139 := fails_138.mv c_23 (tagn (by simp))
                have fails_140 := fails_139.mv c_32 (tagn (by intro h; simp only [List.mem_cons, List.not_mem_nil, or_false] at h <;> omega))
                have fails_141 := fails_140.mv c_37 (tagn (by intro h; simp only [List.mem_cons, List.not_mem_nil, or_false] at h <;> omega))
                have fails_142 := fails_141.mv c_44 (onn (by rw [blk_42.tag]; omega))
                have fails_143 := fails_142.mv c_96 (tagn (by simp))
                have fails_144 := fails_143.mv c_114 (tagn (by intro h; simp only [List.mem_cons, List.not_mem_nil, or_false] at h <;> omega))
                subst hsB2
                rw [compl_3 h1 hm]
                have hle : (D.queue.eraseIdx i).length = i + (D.queue.length - (i + 1)) := by rw [List.length_eraseIdx, if_pos hi]; omega
                have hb := blk_116
                have hq := que_119
                rw [fm_erase qv_len] at hq
                have hr := b_111
                rw [Nat.mul_one, show (hs.flatMap hd1).set x.2.1.toNat (.slice xa2 128 xc2) = _ from fm_set1 hs x.2.1.toNat (xa2, xc2), hQ.2.1] at hr
                have hbb : ByAt s82 (T + 3) (xa2, xc2) m.by_ := ⟨nx_120.sl, hQ.2.2.len⟩
                exact ⟨rfl, ((((((((((((Ch.refl [T, T + 1, T + 2, T + 3, T + 4] s).ch c_1 (by simp)).ch c_7 (by simp)).on_new c_10 (by omega)).on_new c_13 (by omega)).on_new c_16 (by omega)).ch c_23 (by simp)).ch c_32 (by simp)).ch c_37 (by simp)).on_tag c_44 blk_42.tag (by simp)).ch c_96 (by simp)).ch c_114 (by simp)), some ap, pc, qa2, qc2, hs.set m.blk.toNat (xa2, xc2), qs.eraseIdx i, fa, fc, fl, ⟨by simpa [hle] using hb, by simpa using hr, brel_131.set _ hbb, by simp only [hle]; exact hq, qrel_133.erase i, by simpa using fails_144, hD.fok, by simpa using hD.nb, by simp only [hle]; omega, fun m hm => by simpa using hD.qin m (List.mem_of_mem_eraseIdx hm)⟩⟩

end Go.Proofs.Ytmgjdmohmhaemaa.E
