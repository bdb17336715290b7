/- Contracts of functions. -/
import Derived.Test.YtmgjdmohmhaemaaProg
import Derived.KernelRfl
import Derived.Test.YtmgjdmohmhaemaaLib2
import Derived.Test.YtmgjdmohmhaemaaLt
import Derived.Test.YtmgjdmohmhaemaaI2
namespace Go.Proofs.Ytmgjdmohmhaemaa.E
open Go Go.Proofs Go.RowKit Go.Maps Go.Shelf Go.Sort
set_option linter.unusedVariables false

theorem max_i {P : Program} {ats : Array TypeId} {ty : TypeId} {E : List PanicEntry → Heap → Prop} {H : Heap} {K : Value → Heap → Prop} {a b : Int} (hk : K (.int .i64 (max a b)) H) :
    semW P (Builtin.max_ ats ty #[.int .i64 a, .int .i64 b]) E H K := .mk fun w hw => by
  have hr : (Builtin.max_ ats ty #[.int .i64 a, .int .i64 b]).run P w = .ok (.int .i64 (max a b)) w := by
    have he : (if b > a then b else a) = max a b := by split <;> omega
    simp [Builtin.max_, Builtin.max2, he]
  rw [hr]
  exact ⟨by rw [hw]; exact hk, Like.refl w⟩
theorem FailsOk.set {m : List (Int × Value)} {f : Int → Int} (h : FailsOk m f) (b n : Int) : FailsOk (mset b (.int .i64 n) m) (fun k => if k = b then n else f k) := fun k => by
  rw [mget_mset]
  by_cases hk : k = b
  · simp only [if_pos hk, Option.getD_some]
  · simp only [if_neg hk]; exact h k
structure PinB (C : CacheM) (pf : Int → Int) (D : DiskM) : Prop where
  eq : ∀ x ∈ C.l, x.pins = pf x.blk
  pos : ∀ k, pf k ≠ 0 → k ∈ C.l.map (·.blk)
  nn : ∀ k, 0 ≤ pf k ∧ pf k ≤ 100
  has : ∀ x ∈ C.l, D.has x.blk
theorem get_keep {C : CacheM} {bs : List (List UInt8)} {b : Int} (hn : (C.l.map (·.blk)).Nodup) {y : BufM} (hy : y ∈ C.l) (hp : y.pins ≠ 0) : ∃ x ∈ (C.get bs b).1.l, x.blk = y.blk := by
  cases hf : C.find b with
  | some z =>
    obtain ⟨hz, rfl⟩ := find_mem hf
    rw [get_hit hf]
    by_cases e : y.blk = z.blk
    · exact ⟨_, List.mem_append_right _ (List.mem_singleton.2 rfl), e.symm⟩
    · exact ⟨y, List.mem_append_left _ (rmB_mem.2 ⟨hy, e⟩), rfl⟩
  | none =>
    cases hr : C.room with
    | none => rw [get_full hf hr]; exact ⟨y, hy, rfl⟩
    | some l =>
      have hg : C.get bs b = ({ C with l := l ++ [⟨b, (bs[b.toNat]?).getD [], 0, C.clock + 1⟩], clock := C.clock + 1, misses := C.misses + 1 }, 0) := by unfold CacheM.get; rw [hf]; simp only; rw [hr]
      rw [hg]
      refine ⟨y, List.mem_append_left _ ?_, rfl⟩
      unfold CacheM.room at hr
      split at hr
      · cases hr; exact hy
      · cases hv : freeB C.l with
        | none => rw [hv] at hr; cases hr
        | some v =>
          rw [hv] at hr; cases hr
          obtain ⟨h1, h2⟩ := freeB_mem hv
          refine rmB_mem.2 ⟨hy, fun e => hp ?_⟩
          have h3 := find_nd hn hy
          rw [e, find_nd hn h1] at h3; cases h3; exact h2
theorem PinB.get {C : CacheM} {pf : Int → Int} {D : DiskM} {b : Int} (h : PinB C pf D) (hb : D.has b) (hn : (C.l.map (·.blk)).Nodup) : PinB (C.get D.blocks b).1 pf D := by
  refine ⟨fun x hx => ?_, fun k hk => ?_, h.nn, fun x hx => ?_⟩
  · rcases get_mem hx with ⟨y, hy, e1, _, e3⟩ | ⟨e1, e2, _, e4⟩
    · rw [← e3, ← e1]; exact h.eq y hy
    · rw [e4, e1]
      by_cases h0 : pf b = 0
      · exact h0.symm
      · exact absurd (h.pos b h0) (find_nmem e2)
  · obtain ⟨y, hy, rfl⟩ := List.mem_map.1 (h.pos k hk)
    obtain ⟨x, hx, e⟩ := get_keep (bs := D.blocks) (b := b) hn hy (by rw [h.eq y hy]; exact hk)
    exact List.mem_map.2 ⟨x, hx, e⟩
  · rcases get_mem hx with ⟨y, hy, e1, _, _⟩ | ⟨e1, _⟩
    · rw [← e1]; exact h.has y hy
    · rw [e1]; exact hb
theorem PinB.upd {C C' : CacheM} {pf : Int → Int} {D : DiskM} {b n : Int} {f : BufM → BufM} (h : PinB C pf D) (hl : C'.l = updB C.l b f) (hf : ∀ x, (f x).blk = x.blk) (hp : ∀ x ∈ C.l, x.blk = b → (f x).pins = n) (hb : b ∈ C.l.map (·.blk)) (hn : 0 ≤ n ∧ n ≤ 100) : PinB C' (fun k => if k = b then n else pf k) D := by
  have hk := updB_blk C.l b f hf
  refine ⟨fun x hx => ?_, fun k hk' => ?_, fun k => ?_, fun x hx => ?_⟩
  · rw [hl] at hx
    obtain ⟨z, hz, ⟨h1, rfl⟩ | ⟨h1, rfl⟩⟩ := updB_mem hx
    · simp only [if_neg h1]; exact h.eq x hz
    · rw [hf]; simp only [if_pos h1]; exact hp z hz h1
  · rw [hl, hk]
    by_cases e : k = b
    · rw [e]; exact hb
    · simp only [if_neg e] at hk'; exact h.pos k hk'
  · by_cases e : k = b
    · simp only [if_pos e]; exact hn
    · simp only [if_neg e]; exact h.nn k
  · rw [hl] at hx
    obtain ⟨z, hz, ⟨h1, rfl⟩ | ⟨h1, rfl⟩⟩ := updB_mem hx
    · exact h.has x hz
    · rw [hf]; exact h.has z hz
/-- behind a Pin -/
theorem PinB.pin {C : CacheM} {pf : Int → Int} {D : DiskM} {b : Int} (h : PinB C pf D) (hb : D.has b) (hn : (C.l.map (·.blk)).Nodup) (hn2 : ((C.get D.blocks b).1.l.map (·.blk)).Nodup) :
    ((C.pin D.blocks b).2 = 0 ∧ PinB (C.pin D.blocks b).1 (fun k => if k = b then pf b + 1 else pf k) D) ∨ ((C.pin D.blocks b).2 ≠ 0 ∧ PinB (C.pin D.blocks b).1 pf D) := by
  have hg := h.get hb hn
  unfold CacheM.pin
  by_cases h0 : (C.get D.blocks b).2 = 0
  · rw [if_pos h0]
    obtain ⟨x, hx, rfl⟩ := got_mem h0
    have hfx : (C.get D.blocks x.blk).1.find x.blk = some x := find_nd hn2 hx
    unfold CacheM.pin1
    rw [hfx]
    simp only
    by_cases h1 : x.pins ≥ 100
    · rw [if_pos h1]; exact .inr ⟨fun h => by simp at h, hg⟩
    · rw [if_neg h1]
      refine .inl ⟨rfl, hg.upd (b := x.blk) rfl (fun _ => rfl) (fun z hz e => ?_) (List.mem_map.2 ⟨x, hx, rfl⟩) ?_⟩
      · simp only; rw [hg.eq z hz, e]
      · have h2 := hg.eq x hx
        have h3 := hg.nn x.blk
        omega
  · rw [if_neg h0]; exact .inr ⟨h0, hg⟩
/-- behind an Unpin -/
theorem PinB.unpin {C : CacheM} {pf : Int → Int} {D : DiskM} {b : Int} (h : PinB C pf D) (hn : (C.l.map (·.blk)).Nodup) :
    (((if D.has b then (C.unpin b).2 else 1 : Int) == 0) = decide (pf b > 0)) ∧ PinB (if D.has b then (C.unpin b).1 else C) (fun k => if k = b then max 0 (pf b - 1) else pf k) D := by
  have same : pf b = 0 → (fun k => if k = b then max 0 (pf b - 1) else pf k) = pf := fun e => by
    funext k
    by_cases hk : k = b
    · simp only [if_pos hk]; rw [hk, e]; rfl
    · simp only [if_neg hk]
  by_cases h0 : pf b = 0
  · rw [same h0, decide_eq_false (by omega)]
    by_cases hb : D.has b
    · rw [if_pos hb, if_pos hb]
      have e : C.unpin b = (C, 3) := by
        unfold CacheM.unpin
        cases hf : C.find b with
        | none => rfl
        | some x =>
          obtain ⟨hx, rfl⟩ := find_mem hf
          simp only
          rw [if_pos (by rw [h.eq x hx]; exact h0)]
      rw [e]; exact ⟨rfl, h⟩
    · rw [if_neg hb, if_neg hb]; exact ⟨rfl, h⟩
  · obtain ⟨x, hx, rfl⟩ := List.mem_map.1 (h.pos b h0)
    have hb := h.has x hx
    have hf : C.find x.blk = some x := find_nd hn hx
    have h1 := h.nn x.blk
    have h2 := h.eq x hx
    have e : C.unpin x.blk = ({ C with l := updB C.l x.blk fun x => { x with pins := x.pins - 1 } }, 0) := by
      unfold CacheM.unpin; rw [hf]; simp only; rw [if_neg (by rw [h2]; exact h0)]
    rw [if_pos hb, if_pos hb, e, decide_eq_true (by omega)]
    refine ⟨rfl, h.upd (b := x.blk) rfl (fun _ => rfl) (fun z hz ez => ?_) (List.mem_map.2 ⟨x, hx, rfl⟩) (by omega)⟩
    simp only; rw [h.eq z hz, ez]; omega
theorem cpt_nodup {l : List Int} (h : l.Nodup) : cpt l = l := by
  induction l using snoc_ind with
  | h0 => rfl
  | h1 l x ih =>
    rw [List.nodup_append] at h
    rw [cpt_snoc, ih h.1]
    unfold cptS
    rw [if_neg]
    intro e
    exact h.2.2 x (List.mem_of_getLast? e) x (List.mem_singleton.2 rfl) rfl
structure Cnt (C C' : CacheM) : Prop where
  bound : C'.bound = C.bound
  c1 : C'.hits + C'.misses ≤ C.hits + C.misses + 1
  c2 : C'.clock ≤ C.clock + 1
theorem get_cnt (C : CacheM) (bs : List (List UInt8)) (b : Int) : Cnt C (C.get bs b).1 := by
  cases hf : C.find b with
  | some z => rw [get_hit hf]; exact ⟨rfl, by simp only; omega, Int.le_refl _⟩
  | none =>
    cases hr : C.room with
    | none => rw [get_full hf hr]; exact ⟨rfl, by simp only; omega, by simp only; omega⟩
    | some l =>
      have hg : C.get bs b = ({ C with l := l ++ [⟨b, (bs[b.toNat]?).getD [], 0, C.clock + 1⟩], clock := C.clock + 1, misses := C.misses + 1 }, 0) := by unfold CacheM.get; rw [hf]; simp only; rw [hr]
      rw [hg]; exact ⟨rfl, by simp only; omega, Int.le_refl _⟩
theorem pin_cnt (C : CacheM) (bs : List (List UInt8)) (b : Int) : Cnt C (C.pin bs b).1 := by
  have h := get_cnt C bs b
  unfold CacheM.pin
  split
  · unfold CacheM.pin1
    split
    · exact h
    · split
      · exact h
      · exact ⟨h.bound, h.c1, h.c2⟩
  · exact h
theorem unpin_cnt (C : CacheM) (b : Int) : Cnt C (C.unpin b).1 := by
  unfold CacheM.unpin
  split
  · exact ⟨rfl, by simp only; omega, by simp only; omega⟩
  · split
    · exact ⟨rfl, by simp only; omega, by simp only; omega⟩
    · exact ⟨rfl, by simp only; omega, by simp only; omega⟩
theorem get_nd {C : CacheM} {bs : List (List UInt8)} {b : Int} (hn : (C.l.map (·.blk)).Nodup) : ((C.get bs b).1.l.map (·.blk)).Nodup := by
  cases hf : C.find b with
  | some z =>
    obtain ⟨hz, rfl⟩ := find_mem hf
    rw [get_hit hf]; exact (touch_keys hn hz _).nodup_iff.2 hn
  | none =>
    cases hr : C.room with
    | none => rw [get_full hf hr]; exact hn
    | some l =>
      have hg : C.get bs b = ({ C with l := l ++ [⟨b, (bs[b.toNat]?).getD [], 0, C.clock + 1⟩], clock := C.clock + 1, misses := C.misses + 1 }, 0) := by unfold CacheM.get; rw [hf]; simp only; rw [hr]
      rw [hg]
      have hs := (room_mem hr).map (·.blk)
      simp only [List.map_append, List.map_cons, List.map_nil]
      rw [List.nodup_append]
      refine ⟨hn.sublist hs, by simp, fun a ha c hc e => ?_⟩
      rw [List.mem_singleton] at hc
      exact find_nmem hf (hs.subset (by rw [← hc, ← e]; exact ha))
theorem fok_mem {m : List (Int × Value)} {f : Int → Int} (h : FailsOk m f) (hn : (m.map (·.1)).Nodup) {k : Int} {v : Value} (hm : (k, v) ∈ m) : v = .int .i64 (f k) := by
  have h1 := h k
  rw [mget_of_mem hn hm] at h1
  exact h1
theorem full_or (n k : Nat) (b : Int) : (fullDisk n k).has b → ∃ l, (fullDisk n k).blocks[b.toNat]? = some l := full_at n k b

/-- bollard/bollardlaw06.CacheBound -/
theorem w_bound (x0 x1 : Int) {la : Option Addr} {ln : Nat} (lc : Nat) {ls : List DoM} (s : TH) (hl : Sl s la (ls.flatMap dov) 0) (hln : ls.length = ln) (hm : ln ≤ 9223372036854775807) : TRet Try.prog 8 #[.int .i64 x0, .int .i64 x1, .slice la ln lc] s fun v s' => v = .bool true ∧ Ch [10, 11, 12, 13, 14, 30, 31, 32, 33, 34, 50, 51, 52, 53, 70, 72, 80] s s' := by
  refine F8_calls _ _ _ _ _  ?_
  unfold F8
  refine wr_a fun n1 hn1 => ?_
  rw [wrap_u64] at hn1
  refine ask_t (by omega) ?_
  refine nm_a fun n2 hn2 => ?_
  rw [Int.tmod_eq_emod_of_nonneg (by omega)] at hn2
  refine wr_t (by omega) ?_
  refine wr_t (by omega) ?_
  generalize hn4 : 1 + n2 = n4
  refine tcall (c_both 10 30 50 x0 n4 _ (by omega) (by omega) (by omega) (by omega)) ?_
  rintro _ s6 ⟨c, r, y, d, x, rfl, c_1, D_3, _, cb_4, cm_5⟩
  have z_2 := c_1.size
  have hC0 : Cache s6 c 50 d ⟨[], n4, 0, 0, 0⟩ := newCache cb_4 cm_5 (by omega)
  refine dT5 ?_
  refine dPtr_i ?_
  refine dPtr_i ?_
  refine dPtr_i ?_
  refine dPtr_i ?_
  refine dBl_i ?_
  refine jn_u ?_
  refine sB_f (by rfl) ?_
  intro _ _ _ _ _
  refine dBl_i ?_
  refine sB_f (by rfl) ?_
  refine alm_t (Value.int .i64) 70 fun r25 s26 hr25 m_6 c_7 z_8 => ?_
  refine ⟨fun vs H' => ∃ s' : TH, s'.h = H' ∧ ∃ i, vs = [.int .i64 i] ∧ ChL [10, 11, 12, 13, 14, 30, 31, 32, 33, 34, 50, 51, 52, 53, 70, 72, 80] [r25] s26 s' ∧ (∃ (k : Nat) (C2 : CacheM) (pm2 : List (Int × Value)) (pf2 : Int → Int), i = k ∧ k ≤ ln ∧ Cache s' c 50 d C2 ∧ Disk s' d 10 (fullDisk (nblk x0) (nblk x0)) ∧ MapK (Value.int .i64) s' r25 pm2 70 ∧ FailsOk pm2 pf2 ∧ PinB C2 pf2 (fullDisk (nblk x0) (nblk x0)) ∧ C2.bound = n4 ∧ C2.hits + C2.misses ≤ k ∧ C2.clock ≤ k), fun vs H' => match vs with | [.int .i64 i] => ((ln : Int) - i).toNat | _ => 0, ⟨s26, rfl, _, rfl, ChL.refl _ _ _, ?_⟩, ?_⟩
  ·
    have K_9 := hC0.mv c_7 (rngn (by simp <;> omega))
    have D_10 := D_3.mv c_7 (rngn (by simp <;> omega))
    exact ⟨0, ⟨[], n4, 0, 0, 0⟩, [], fun _ => 0, rfl, by omega, K_9, D_10, m_6, fun b => rfl, ⟨fun x h => (List.not_mem_nil h).elim, fun k h => absurd rfl h, fun k => by omega, fun x h => (List.not_mem_nil h).elim⟩, rfl, by simp, by simp⟩
  ·
    intro i _ _ _ _ _ _ _ _ _ _ _ _ _ _ _ _ _ _ _ _ _ _ _ _ _ _ _ _ _ _ _ _ _ _ _ _ _ _ _ _ _ _ _ _ _ _ _ _ _ _ _ _ _ _ _ _ _ _ _ _ _ _ _ _ _ _ _ _ _ _ _ _ _ _ _ _ _ _ _ _ _ H111 hI
    obtain ⟨s111, rfl, i_, hvs, c_11, k, C, pm, pf, rfl, hk, K_13, D_14, pm_15, hpf, hB, hbd, hcnt, hclk⟩ := hI
    cases hvs
    have z_12 := c_11.size
    refine sB_d (fun hsB3 => ?_) (fun hsB3 => ?_)
    ·
      have l_16 := hl.mv c_1 (tagn (by intro h; simp only [List.mem_cons, List.not_mem_nil, or_false] at h <;> omega))
      have l_17 := l_16.mv c_7 (tagn (by simp))
      have l_18 := l_17.mv c_11 (tagL (by simp <;> omega) (by intro r hr; simp only [List.mem_cons, List.not_mem_nil, or_false] at hr; rcases hr with rfl <;> first | (rw [m_6.tag]; simp <;> omega)))
      have hk2 : k < ln := by omega
      obtain ⟨y1, hx0⟩ : ∃ y, ls[k]? = some y := ⟨ls[k], by simp [hln, hk2]⟩
      obtain ⟨a, rfl⟩ := l_18.ne_none (by rw [fm_len dov_len]; omega)
      refine nz_i ?_
      refine ask_t (by omega) ?_
      refine ld_sl l_18 (by rw [Int.toNat_natCast]; exact dcell0 hx0) ?_
      refine ld_sl2 l_18 (by rw [Int.toNat_natCast]; exact dcell1 hx0) ?_
      refine ld_sl2 l_18 (by rw [Int.toNat_natCast]; exact dcell2 hx0) ?_
      refine ld_sl2 l_18 (by rw [Int.toNat_natCast]; exact dcell3 hx0) ?_
      refine al_t 0 fun r118 s119 hr118 b_19 c_20 z_21 => ?_
      refine st_t b_19 rfl (by simp) fun s120 b_22 c_23 z_24 => ?_
      refine st_t b_22 rfl (by simp) fun s121 b_25 c_26 z_27 => ?_
      refine st_t b_25 rfl (by simp) fun s122 b_28 c_29 z_30 => ?_
      refine st_t b_28 rfl (by simp) fun s123 b_31 c_32 z_33 => ?_
      refine ld_t b_31 rfl ?_
      refine dInt_i ?_
      refine wr_a fun n126 hn126 => ?_
      rw [wrap_u64] at hn126
      refine ask_t (by omega) ?_
      refine nm_a fun n127 hn127 => ?_
      rw [Int.tmod_eq_emod_of_nonneg (by omega)] at hn127
      refine wr_t (by omega) ?_
      have pm_34 := pm_15.ch c_20 (by simp)
      have pm_35 := pm_34.on c_23 (by intro he; have h1 := pm_34.tag; have h2 := b_19.tag; rw [he] at h1; rw [h1] at h2; revert h2; simp <;> omega)
      have pm_36 := pm_35.on c_26 (by intro he; have h1 := pm_35.tag; have h2 := b_22.tag; rw [he] at h1; rw [h1] at h2; revert h2; simp <;> omega)
      have pm_37 := pm_36.on c_29 (by intro he; have h1 := pm_36.tag; have h2 := b_25.tag; rw [he] at h1; rw [h1] at h2; revert h2; simp <;> omega)
      have pm_38 := pm_37.on c_32 (by intro he; have h1 := pm_37.tag; have h2 := b_28.tag; rw [he] at h1; rw [h1] at h2; revert h2; simp <;> omega)
      refine jn0 (fun s' => ChL [50, 51, 52, 53, 70] [r25] s123 s' ∧ (∃ (C2 : CacheM) (pm2 : List (Int × Value)) (pf2 : Int → Int), Cache s' c 50 d C2 ∧ Disk s' d 10 (fullDisk (nblk x0) (nblk x0)) ∧ MapK (Value.int .i64) s' r25 pm2 70 ∧ FailsOk pm2 pf2 ∧ PinB C2 pf2 (fullDisk (nblk x0) (nblk x0)) ∧ C2.bound = n4 ∧ C2.hits + C2.misses ≤ k + 1 ∧ C2.clock ≤ k + 1)) ?_ ?_
      ·
        rintro  s129 ⟨c_39, C3, pm3, pf3, K_41, D_42, pm_43, hpf3, hB3, hbd3, hcnt3, hclk3⟩
        have z_40 := c_39.size
        intro _ _ _ _ _ _ _ _ _ _ _ _ _ _ _ _ _ _ _ _ _ _ _ _ _ _ _ _ _ _ _ _ _ _ _ _ _
        refine tcall (c_held c 50 d _ 80 _ (by omega) K_41) ?_
        rintro _ s168 ⟨ha, hc', rfl, c_44, h_46⟩
        have z_45 := c_44.size
        refine dSl_i ?_
        have K_47 := K_41.mv c_44 (rngn (by simp <;> omega))
        refine sB_f (decide_eq_false (by have := K_47.len; omega)) ?_
        have pm_48 := pm_43.ch c_44 (by simp)
        refine range_t 72 u75 pm_48 iinj fun s175 q hq it_51 c_49 => ?_
        have z_50 := c_49.size
        refine ⟨fun vs H' => ∃ s' : TH, s'.h = H' ∧ vs = [] ∧ ChL [72] [] s175 s' ∧ (∃ vis : List Int, ItK (Value.int .i64) s' q r25 pm3 vis 70 72), fun vs H' => match vs with | [] => leftH H' q r25 | _ => 0, ⟨s175, rfl, rfl, ChL.refl _ _ _, ?_⟩, ?_⟩
        ·
          exact ⟨[], it_51⟩
        ·
          intro  _ _ _ _ _ _ _ _ _ _ _ _ _ _ _ _ H194 hI
          obtain ⟨s194, rfl, hvs, c_52, vis, it_54⟩ := hI
          cases hvs
          have z_53 := c_52.size
          have hit0 := it_54
          refine next_t it_54 iinj (fun s199 p pv2 hmp hvp it_55 c_560 z_57 => ?_) (fun hallp => ?_)
          ·
            refine dNx_t ?_
            have c_56 : Ch [72] s194 s199 := Chg.mono c_560 (fun j hj e => by subst e; rw [it_54.tagq]; simp)
            obtain rfl := fok_mem hpf3 it_55.nd hmp
            refine entry_t it_55 hmp iinj ?_
            refine dT2 ?_
            refine dInt_i ?_
            refine dInt_i ?_
            refine jn_u ?_
            refine sB_d (fun hsB5 => ?_) (fun hsB5 => ?_)
            ·
              have h_58 := h_46.mv c_49 (tagn (by simp))
              have h_59 := h_58.mv c_52 (tagL (by simp <;> omega) (by simp))
              have h_60 := h_59.mv c_56 (tagn (by intro h; simp only [List.mem_cons, List.not_mem_nil, or_false] at h <;> omega))
              have K_61 := K_47.mv c_49 (rngn (by simp <;> omega))
              have K_62 := K_61.mv c_52 (rngL (by simp <;> omega) (by simp))
              have K_63 := K_62.mv c_56 (rngn (by simp <;> omega))
              refine tcall (c_ctInt _ p h_60.sl (by rw [List.length_map]) (by have := K_63.len; omega)) ?_
              rintro _ s241 ⟨rfl, c_64⟩
              have z_65 := c_64.size
              refine dBl_i ?_
              intro _ _ _ _ _ _ _
              refine dBl_i ?_
              refine sB_f (by rw [decide_eq_true (hB3.pos p (by omega))]; rfl) ?_
              refine ⟨⟨s241, rfl, rfl, ((((ChL.refl [72] [] s175).chl c_52 (by simp) (by simp <;> omega)).ch c_56 (by simp)).ch c_64 (by simp)), ?_⟩, ?_⟩
              ·
                have it_66 := it_55.ch c_64 (by simp) (by simp)
                exact ⟨vis ++ [p], it_66⟩
              ·
                have it_67 := it_55.ch c_64 (by simp) (by simp)
                exact it_less iinj hit0 it_67 hmp hvp (List.Sublist.refl _)
            ·
              intro _ _ _ _ _ _ _
              refine dBl_i ?_
              refine sB_f (by rfl) ?_
              refine ⟨⟨s199, rfl, rfl, (((ChL.refl [72] [] s175).chl c_52 (by simp) (by simp <;> omega)).ch c_56 (by simp)), ?_⟩, ?_⟩
              ·
                exact ⟨vis ++ [p], it_55⟩
              ·
                exact it_less iinj hit0 it_55 hmp hvp (List.Sublist.refl _)
          ·
            refine dNx_f ?_
            have h_68 := h_46.mv c_49 (tagn (by simp))
            have h_69 := h_68.mv c_52 (tagL (by simp <;> omega) (by simp))
            have K_70 := K_47.mv c_49 (rngn (by simp <;> omega))
            have K_71 := K_70.mv c_52 (rngL (by simp <;> omega) (by simp))
            refine tcall (c_sortInt h_69 (by have := K_71.len; omega)) ?_
            rintro _ s201 ⟨rfl, c_72, h_74⟩
            have z_73 := c_72.size
            have K_75 := K_71.mv c_72 (rngn (by simp <;> omega))
            refine tcall (c_compact h_74 (by have := K_75.len; omega)) ?_
            rintro _ s203 ⟨rfl, c_76, h_78⟩
            have z_77 := c_76.size
            refine dSl_i ?_
            have K_79 := K_75.mv c_76 (rngn (by simp <;> omega))
            refine tcall (c_held c 50 d _ 0 _ (by omega) K_79) ?_
            rintro _ s208 ⟨ha, hc', rfl, c_80, h_82⟩
            have z_81 := c_80.size
            refine dSl_i ?_
            have K_83 := K_79.mv c_80 (rngn (by simp <;> omega))
            refine sB_ne (fun hsB8 => (hsB8 (by rw [cpt_nodup ((List.mergeSort_perm _ _).nodup_iff.2 K_83.nd), List.length_mergeSort, List.length_map])).elim) (fun hsB8 => ?_)
            refine wr_t (by omega) ?_
            refine ⟨⟨s208, rfl, _, rfl, ((((((((((((((ChL.refl [10, 11, 12, 13, 14, 30, 31, 32, 33, 34, 50, 51, 52, 53, 70, 72, 80] [r25] s26).chl c_11 (by simp) (by simp <;> omega)).ch c_20 (by simp)).on_new c_23 (by omega)).on_new c_26 (by omega)).on_new c_29 (by omega)).on_new c_32 (by omega)).chl c_39 (by simp) (by simp <;> omega)).ch c_44 (by simp)).ch c_49 (by simp)).chl c_52 (by simp) (by simp <;> omega)).ch c_72 (by simp)).ch c_76 (by simp)).ch c_80 (by simp)), ?_⟩, ?_⟩
            ·
              have D_84 := D_42.mv c_44 (rngn (by simp <;> omega))
              have D_85 := D_84.mv c_49 (rngn (by simp <;> omega))
              have D_86 := D_85.mv c_52 (rngL (by simp <;> omega) (by simp))
              have D_87 := D_86.mv c_72 (rngn (by simp <;> omega))
              have D_88 := D_87.mv c_76 (rngn (by simp <;> omega))
              have D_89 := D_88.mv c_80 (rngn (by simp <;> omega))
              have pm_90 := pm_48.ch c_49 (by simp)
              have pm_91 := pm_90.chl c_52 (by simp <;> omega) (by simp <;> omega)
              have pm_92 := pm_91.ch c_72 (by intro h; simp only [List.mem_cons, List.not_mem_nil, or_false] at h <;> omega)
              have pm_93 := pm_92.ch c_76 (by intro h; simp only [List.mem_cons, List.not_mem_nil, or_false] at h <;> omega)
              have pm_94 := pm_93.ch c_80 (by simp)
              exact ⟨k + 1, C3, pm3, pf3, by omega, by omega, K_83, D_89, pm_94, hpf3, hB3, hbd3, by omega, by omega⟩
            ·
              first | omega | (simp only []; omega)
      ·
        intro k247 hk247
        refine ld_t b_31 rfl ?_
        refine dInt_i ?_
        refine wr_a fun n250 hn250 => ?_
        rw [wrap_u64] at hn250
        refine ask_t (by omega) ?_
        refine nm_a fun n251 hn251 => ?_
        rw [Int.tmod_eq_emod_of_nonneg (by omega)] at hn251
        refine wr_t (by omega) ?_
        refine sB_eq (fun hsB9 => ?_) (fun hsB9 => ?_)
        ·
          have K_95 := K_13.mv c_20 (rngn (by simp <;> omega))
          have K_96 := K_95.mv c_23 (rngO (by rw [b_19.tag]; omega))
          have K_97 := K_96.mv c_26 (rngO (by rw [b_22.tag]; omega))
          have K_98 := K_97.mv c_29 (rngO (by rw [b_25.tag]; omega))
          have K_99 := K_98.mv c_32 (rngO (by rw [b_28.tag]; omega))
          have hnd := K_99.nd
          have D_100 := D_14.mv c_20 (rngn (by simp <;> omega))
          have D_101 := D_100.mv c_23 (rngO (by rw [b_19.tag]; omega))
          have D_102 := D_101.mv c_26 (rngO (by rw [b_22.tag]; omega))
          have D_103 := D_102.mv c_29 (rngO (by rw [b_25.tag]; omega))
          have D_104 := D_103.mv c_32 (rngO (by rw [b_28.tag]; omega))
          refine tcall (c_Get c 50 d 10 C _ n127 0 _ (by omega) (by omega) (by omega) K_99 D_104 (full_at _ _ _) (by simp [fullDisk]) (by have := K_99.ok.cnt; have := K_99.ok.clk; omega)) ?_
          rintro _ s254 ⟨ga, gn, gc, ge, rfl, c_105, hres⟩
          have z_106 := c_105.size
          refine dT2 ?_
          refine dSl_i ?_
          refine dInt_i ?_
          refine hk247 _ ⟨((ChL.refl [50, 51, 52, 53, 70] [r25] s123).ch c_105 (by simp)), ?_⟩
          have D_107 := D_104.mv c_105 (rngn (by simp <;> omega))
          have pm_108 := pm_38.ch c_105 (by intro h; simp only [List.mem_cons, List.not_mem_nil, or_false] at h <;> omega)
          rcases hres with ⟨h1, _, hK2⟩ | ⟨h1, _, hK2, _⟩
          · exact ⟨C, pm, pf, hK2, D_107, pm_108, hpf, hB, hbd, by omega, by omega⟩
          · have CN := get_cnt C (fullDisk (nblk x0) (nblk x0)).blocks n127
            exact ⟨_, pm, pf, hK2, D_107, pm_108, hpf, hB.get h1 hnd, CN.bound.trans hbd, (by have h1 := CN.c1; have h2 := CN.c2; omega), (by have h1 := CN.c1; have h2 := CN.c2; omega)⟩
        ·
          refine sB_eq (fun hsB10 => ?_) (fun hsB10 => ?_)
          ·
            have K_109 := K_13.mv c_20 (rngn (by simp <;> omega))
            have K_110 := K_109.mv c_23 (rngO (by rw [b_19.tag]; omega))
            have K_111 := K_110.mv c_26 (rngO (by rw [b_22.tag]; omega))
            have K_112 := K_111.mv c_29 (rngO (by rw [b_25.tag]; omega))
            have K_113 := K_112.mv c_32 (rngO (by rw [b_28.tag]; omega))
            have hnd := K_113.nd
            have D_114 := D_14.mv c_20 (rngn (by simp <;> omega))
            have D_115 := D_114.mv c_23 (rngO (by rw [b_19.tag]; omega))
            have D_116 := D_115.mv c_26 (rngO (by rw [b_22.tag]; omega))
            have D_117 := D_116.mv c_29 (rngO (by rw [b_25.tag]; omega))
            have D_118 := D_117.mv c_32 (rngO (by rw [b_28.tag]; omega))
            refine tcall (c_Pin c 50 d 10 C _ n127 _ (by omega) (by omega) (by omega) K_113 D_118 (full_at _ _ _) (by simp [fullDisk]) (by have := K_113.ok.cnt; have := K_113.ok.clk; omega)) ?_
            rintro _ s264 ⟨rfl, c_119, K_121⟩
            have z_120 := c_119.size
            refine dInt_i ?_
            refine sB_eq (fun hsB11 => ?_) (fun hsB11 => ?_)
            ·
              have pm_122 := pm_38.ch c_119 (by intro h; simp only [List.mem_cons, List.not_mem_nil, or_false] at h <;> omega)
              refine look_g keyI u75 z3 pm_122 n127 (hpf n127) ?_
              refine dInt_i ?_
              refine wr_t (by have := hB.nn n127; omega) ?_
              refine upd_t keyI u75 pm_122 n127 (.int .i64 _) fun s275 pm_125 c_123 hsz => ?_
              have z_124 := c_123.size
              refine hk247 _ ⟨(((ChL.refl [50, 51, 52, 53, 70] [r25] s123).ch c_119 (by simp)).on c_123 (by simp)), ?_⟩
              have K_126 := K_121.mv c_123 (rngO (by rw [pm_122.tag]; omega))
              have D_127 := D_118.mv c_119 (rngn (by simp <;> omega))
              have D_128 := D_127.mv c_123 (rngO (by rw [pm_122.tag]; omega))
              have hhas : (fullDisk (nblk x0) (nblk x0)).has n127 := by
                by_cases h : (fullDisk (nblk x0) (nblk x0)).has n127
                · exact h
                · rw [if_neg h] at hsB11; cases hsB11
              rw [if_pos hhas] at hsB11
              have hK2 := K_126
              rw [if_pos hhas] at hK2
              have CN := pin_cnt C (fullDisk (nblk x0) (nblk x0)).blocks n127
              rcases hB.pin hhas hnd (get_nd hnd) with ⟨_, hB2⟩ | ⟨h, _⟩
              · exact ⟨_, _, _, hK2, D_128, pm_125, hpf.set n127 _, hB2, CN.bound.trans hbd, (by have h1 := CN.c1; have h2 := CN.c2; omega), (by have h1 := CN.c1; have h2 := CN.c2; omega)⟩
              · exact absurd hsB11 h
            ·
              refine hk247 _ ⟨((ChL.refl [50, 51, 52, 53, 70] [r25] s123).ch c_119 (by simp)), ?_⟩
              have D_129 := D_118.mv c_119 (rngn (by simp <;> omega))
              have pm_130 := pm_38.ch c_119 (by intro h; simp only [List.mem_cons, List.not_mem_nil, or_false] at h <;> omega)
              have hK2 := K_121
              by_cases hhas : (fullDisk (nblk x0) (nblk x0)).has n127
              · rw [if_pos hhas] at hsB11 hK2
                have CN := pin_cnt C (fullDisk (nblk x0) (nblk x0)).blocks n127
                rcases hB.pin hhas hnd (get_nd hnd) with ⟨h, _⟩ | ⟨_, hB2⟩
                · exact absurd h hsB11
                · exact ⟨_, pm, pf, hK2, D_129, pm_130, hpf, hB2, CN.bound.trans hbd, (by have h1 := CN.c1; have h2 := CN.c2; omega), (by have h1 := CN.c1; have h2 := CN.c2; omega)⟩
              · rw [if_neg hhas] at hK2
                exact ⟨C, pm, pf, hK2, D_129, pm_130, hpf, hB, hbd, by omega, by omega⟩
          ·
            refine ⟨?_, ?_⟩
            ·
              have K_131 := K_13.mv c_20 (rngn (by simp <;> omega))
              have K_132 := K_131.mv c_23 (rngO (by rw [b_19.tag]; omega))
              have K_133 := K_132.mv c_26 (rngO (by rw [b_22.tag]; omega))
              have K_134 := K_133.mv c_29 (rngO (by rw [b_25.tag]; omega))
              have K_135 := K_134.mv c_32 (rngO (by rw [b_28.tag]; omega))
              have hnd := K_135.nd
              have D_136 := D_14.mv c_20 (rngn (by simp <;> omega))
              have D_137 := D_136.mv c_23 (rngO (by rw [b_19.tag]; omega))
              have D_138 := D_137.mv c_26 (rngO (by rw [b_22.tag]; omega))
              have D_139 := D_138.mv c_29 (rngO (by rw [b_25.tag]; omega))
              have D_140 := D_139.mv c_32 (rngO (by rw [b_28.tag]; omega))
              refine tcall (c_Unpin c 50 d 10 C _ n127 _ (by omega) (by omega) (by omega) K_135 D_140) ?_
              rintro _ s279 ⟨rfl, c_141, K_143⟩
              have z_142 := c_141.size
              refine dInt_i ?_
              have pm_144 := pm_38.ch c_141 (by intro h; simp only [List.mem_cons, List.not_mem_nil, or_false] at h <;> omega)
              refine look_g keyI u75 z3 pm_144 n127 (hpf n127) ?_
              refine dInt_i ?_
              refine sB_f (by rw [(hB.unpin hnd).1]; simp) ?_
              refine look_g keyI u75 z3 pm_144 n127 (hpf n127) ?_
              refine dInt_i ?_
              refine wr_t (by have := hB.nn n127; omega) ?_
              refine max_i ?_
              refine dInt_i ?_
              refine upd_t keyI u75 pm_144 n127 (.int .i64 _) fun s300 pm_147 c_145 hsz => ?_
              have z_146 := c_145.size
              refine hk247 _ ⟨(((ChL.refl [50, 51, 52, 53, 70] [r25] s123).ch c_141 (by simp)).on c_145 (by simp)), ?_⟩
              have K_148 := K_143.mv c_145 (rngO (by rw [pm_144.tag]; omega))
              have D_149 := D_140.mv c_141 (rngn (by simp <;> omega))
              have D_150 := D_149.mv c_145 (rngO (by rw [pm_144.tag]; omega))
              have CN : Cnt C (if (fullDisk (nblk x0) (nblk x0)).has n127 then (C.unpin n127).1 else C) := by
                split
                · exact unpin_cnt C n127
                · exact ⟨rfl, by omega, by omega⟩
              exact ⟨_, _, _, K_148, D_150, pm_147, hpf.set n127 _, (hB.unpin hnd).2, CN.bound.trans hbd, (by have h1 := CN.c1; have h2 := CN.c2; omega), (by have h1 := CN.c1; have h2 := CN.c2; omega)⟩
            ·
              refine look_g keyI u75 z3 pm_38 n127 (hpf n127) ?_
              refine dInt_i ?_
              have K_151 := K_13.mv c_20 (rngn (by simp <;> omega))
              have K_152 := K_151.mv c_23 (rngO (by rw [b_19.tag]; omega))
              have K_153 := K_152.mv c_26 (rngO (by rw [b_22.tag]; omega))
              have K_154 := K_153.mv c_29 (rngO (by rw [b_25.tag]; omega))
              have K_155 := K_154.mv c_32 (rngO (by rw [b_28.tag]; omega))
              have hnd := K_155.nd
              have D_156 := D_14.mv c_20 (rngn (by simp <;> omega))
              have D_157 := D_156.mv c_23 (rngO (by rw [b_19.tag]; omega))
              have D_158 := D_157.mv c_26 (rngO (by rw [b_22.tag]; omega))
              have D_159 := D_158.mv c_29 (rngO (by rw [b_25.tag]; omega))
              have D_160 := D_159.mv c_32 (rngO (by rw [b_28.tag]; omega))
              refine tcall (c_Unpin c 50 d 10 C _ n127 _ (by omega) (by omega) (by omega) K_155 D_160) ?_
              rintro _ s309 ⟨rfl, c_161, K_163⟩
              have z_162 := c_161.size
              refine dInt_i ?_
              refine sB_f (by rw [(hB.unpin hnd).1]; simp) ?_
              have pm_164 := pm_38.ch c_161 (by intro h; simp only [List.mem_cons, List.not_mem_nil, or_false] at h <;> omega)
              refine look_g keyI u75 z3 pm_164 n127 (hpf n127) ?_
              refine dInt_i ?_
              refine wr_t (by have := hB.nn n127; omega) ?_
              refine max_i ?_
              refine dInt_i ?_
              refine upd_t keyI u75 pm_164 n127 (.int .i64 _) fun s325 pm_167 c_165 hsz => ?_
              have z_166 := c_165.size
              refine hk247 _ ⟨(((ChL.refl [50, 51, 52, 53, 70] [r25] s123).ch c_161 (by simp)).on c_165 (by simp)), ?_⟩
              have K_168 := K_163.mv c_165 (rngO (by rw [pm_164.tag]; omega))
              have D_169 := D_160.mv c_161 (rngn (by simp <;> omega))
              have D_170 := D_169.mv c_165 (rngO (by rw [pm_164.tag]; omega))
              have CN : Cnt C (if (fullDisk (nblk x0) (nblk x0)).has n127 then (C.unpin n127).1 else C) := by
                split
                · exact unpin_cnt C n127
                · exact ⟨rfl, by omega, by omega⟩
              exact ⟨_, _, _, K_168, D_170, pm_167, hpf.set n127 _, (hB.unpin hnd).2, CN.bound.trans hbd, (by have h1 := CN.c1; have h2 := CN.c2; omega), (by have h1 := CN.c1; have h2 := CN.c2; omega)⟩
    ·
      refine tcall (c_held c 50 d _ 0 _ (by omega) K_13) ?_
      rintro _ s329 ⟨ha, hc', rfl, c_171, h_173⟩
      have z_172 := c_171.size
      refine dSl_i ?_
      refine ret_t ?_
      have K_174 := K_13.mv c_171 (rngn (by simp <;> omega))
      exact ⟨ret_b (decide_eq_true (by have := K_174.len; omega)), (((((Ch.refl [10, 11, 12, 13, 14, 30, 31, 32, 33, 34, 50, 51, 52, 53, 70, 72, 80] s).ch c_1 (by simp)).ch c_7 (by simp)).chl c_11 (by simp) (by simp <;> omega)).ch c_171 (by simp))⟩

end Go.Proofs.Ytmgjdmohmhaemaa.E
