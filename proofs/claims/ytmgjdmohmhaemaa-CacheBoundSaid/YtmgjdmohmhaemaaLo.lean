/- Contracts of functions. -/
import Derived.Test.YtmgjdmohmhaemaaProg
import Derived.KernelRfl
import Derived.Test.YtmgjdmohmhaemaaLib2
import Derived.Test.YtmgjdmohmhaemaaCs
import Derived.Test.YtmgjdmohmhaemaaCa
import Derived.Test.YtmgjdmohmhaemaaIn
namespace Go.Proofs.Ytmgjdmohmhaemaa.E
open Go Go.Proofs Go.RowKit Go.Maps Go.Shelf Go.Sort
set_option linter.unusedVariables false
theorem dT5 {a b c d e : Value} {k : VF 5} (h : (k : Value → Value → Value → Value → Value → Prop) a b c d e) : dT 5 (.tuple #[a, b, c, d, e]) k := h
theorem newCache {s : TH} {c T d r : Nat} {b : Int} (h1 : Blk s c [.pointer (some ⟨d, 0, none⟩), .int .i64 b, .map (some r), .int .i64 0, .int .i64 0, .int .i64 0] 71 T) (h2 : MapK (Value.int .i64) s r [] (T + 1)) (hb : 1 ≤ b ∧ b ≤ 64) : Cache s c T d ⟨[], b, 0, 0, 0⟩ :=
  ⟨⟨r, [], fun _ => 0, fun _ => (none, 0), h1, h2, ⟨fun x h => (List.not_mem_nil h).elim⟩, ⟨fun x h => (List.not_mem_nil h).elim⟩, ⟨List.Perm.refl _, fun x h => (List.not_mem_nil h).elim, fun x h => (List.not_mem_nil h).elim, List.nodup_nil, fun x h => (List.not_mem_nil h).elim⟩, hb, by simp; omega⟩,
    ⟨List.Pairwise.nil, fun x h => (List.not_mem_nil h).elim, by simp, by simp, fun x h => (List.not_mem_nil h).elim⟩⟩
theorem full_has (n k : Nat) (b : Int) : (fullDisk n k).has b ↔ 0 ≤ b ∧ b < n := by unfold DiskM.has; simp only [fullDisk, fullB_len]
theorem full_at (n k : Nat) (b : Int) (h : (fullDisk n k).has b) : ∃ l, (fullDisk n k).blocks[b.toNat]? = some l := by
  rw [full_has] at h
  exact ⟨_, List.getElem?_eq_getElem (by simp only [fullDisk, fullB_len]; omega)⟩
def stepW (W : List Int) (b n : Int) : List Int := if ((W.erase b ++ [b]).length : Int) > n then (W.erase b ++ [b]).drop 1 else W.erase b ++ [b]
theorem erase_at {b : Int} : ∀ {W : List Int} {i : Nat}, W.Nodup → W[i]? = some b → W.eraseIdx i = W.erase b
  | [], _, _, h => by simp at h
  | x :: W, 0, _, h => by simp at h; subst h; simp
  | x :: W, i + 1, hn, h => by
    rw [List.nodup_cons] at hn
    have h' : W[i]? = some b := by simpa using h
    have hx : x ≠ b := fun e => hn.1 (e ▸ List.mem_of_getElem? h')
    rw [List.eraseIdx_cons_succ, List.erase_cons_tail (by simpa using hx), erase_at hn.2 h']
theorem stepW_in {W : List Int} {b n : Int} {i : Nat} (hn : W.Nodup) (h : W[i]? = some b) (hl : (W.length : Int) ≤ n) : W.eraseIdx i ++ [b] = stepW W b n := by
  have h1 := List.length_erase_of_mem (List.mem_of_getElem? h)
  have h2 := (List.getElem?_eq_some_iff.1 h).1
  unfold stepW
  rw [erase_at hn h, if_neg (by rw [List.length_append, h1, List.length_singleton]; omega)]
theorem stepW_out {W : List Int} {b n : Int} (h : b ∉ W) : stepW W b n = if ((W ++ [b]).length : Int) > n then (W ++ [b]).drop 1 else W ++ [b] := by
  unfold stepW; rw [List.erase_of_not_mem h]
theorem rmB_head {x : BufM} {l : List BufM} (h : ((x :: l).map (·.blk)).Nodup) : rmB (x :: l) x.blk = l := by
  rw [List.map_cons, List.nodup_cons] at h
  unfold rmB
  rw [List.filter_cons]
  simp only [beq_self_eq_true, Bool.not_true, Bool.false_eq_true, if_false]
  rw [List.filter_eq_self]
  intro y hy
  have : y.blk ≠ x.blk := fun e => h.1 (e ▸ List.mem_map.2 ⟨y, hy, rfl⟩)
  simpa using this
structure Old (C C' : CacheM) (b : Int) : Prop where
  pins : ∀ x ∈ C'.l, x.pins = 0
  bound : C'.bound = C.bound
  cnt : C'.hits + C'.misses = C.hits + C.misses + 1
  clk : C'.clock = C.clock + 1
  h0 : C.hits ≤ C'.hits ∧ C.misses ≤ C'.misses
  keys : C'.l.map (·.blk) = stepW (C.l.map (·.blk)) b C.bound
theorem old_step {C : CacheM} {bs : List (List UInt8)} {b : Int} (hn : (C.l.map (·.blk)).Nodup) (hp : ∀ x ∈ C.l, x.pins = 0) (hl : (C.l.length : Int) ≤ C.bound) (hb : 1 ≤ C.bound) : (C.get bs b).2 = 0 ∧ Old C (C.get bs b).1 b := by
  cases hf : C.find b with
  | some x =>
    obtain ⟨hx, rfl⟩ := find_mem hf
    rw [get_hit hf]
    refine ⟨rfl, ⟨fun y hy => ?_, rfl, by simp only; omega, rfl, by simp only; omega, ?_⟩⟩
    · rcases List.mem_append.1 hy with h | h
      · exact hp y (rmB_mem.1 h).1
      · rw [List.mem_singleton] at h; subst h; exact hp x hx
    · have hk := rmB_keys hn x.blk
      have hlen := rmB_len hn hx
      have hle : ((C.l.map (·.blk)).erase x.blk ++ [x.blk]).length = C.l.length := by rw [← hk]; simp; omega
      unfold stepW
      rw [if_neg (by rw [hle]; omega)]
      simp only [List.map_append, List.map_cons, List.map_nil, hk]
  | none =>
    have hnb := find_nmem hf
    have her : (C.l.map (·.blk)).erase b = C.l.map (·.blk) := List.erase_of_not_mem hnb
    by_cases hfull : (C.l.length : Int) < C.bound
    · have hr : C.room = some C.l := by unfold CacheM.room; rw [if_pos hfull]
      have hg : C.get bs b = ({ C with l := C.l ++ [⟨b, (bs[b.toNat]?).getD [], 0, C.clock + 1⟩], clock := C.clock + 1, misses := C.misses + 1 }, 0) := by unfold CacheM.get; rw [hf]; simp only; rw [hr]
      rw [hg]
      refine ⟨rfl, ⟨fun y hy => ?_, rfl, by simp only; omega, rfl, by simp only; omega, ?_⟩⟩
      · rcases List.mem_append.1 hy with h | h
        · exact hp y h
        · rw [List.mem_singleton] at h; subst h; rfl
      · unfold stepW
        rw [her, if_neg (by simp; omega)]
        simp
    · cases hl0 : C.l with
      | nil => rw [hl0] at hfull; simp at hfull; omega
      | cons x l =>
        have hx0 := hp x (by rw [hl0]; simp)
        have hr : C.room = some l := by
          unfold CacheM.room freeB
          rw [if_neg hfull, hl0, List.find?_cons]
          simp only [hx0, beq_self_eq_true, Option.map_some]
          rw [rmB_head (by rw [hl0] at hn; exact hn)]
        have hg : C.get bs b = ({ C with l := l ++ [⟨b, (bs[b.toNat]?).getD [], 0, C.clock + 1⟩], clock := C.clock + 1, misses := C.misses + 1 }, 0) := by unfold CacheM.get; rw [hf]; simp only; rw [hr]
        rw [hg]
        refine ⟨rfl, ⟨fun y hy => ?_, rfl, by simp only; omega, rfl, by simp only; omega, ?_⟩⟩
        · rcases List.mem_append.1 hy with h | h
          · exact hp y (by rw [hl0]; exact List.mem_cons_of_mem _ h)
          · rw [List.mem_singleton] at h; subst h; rfl
        · unfold stepW
          rw [her, if_pos (by rw [List.length_append, List.length_map, List.length_singleton]; omega), hl0]
          simp
theorem Cache.nd {s : TH} {c T d : Nat} {C : CacheM} (h : Cache s c T d C) : (C.l.map (·.blk)).Nodup := by obtain ⟨r, m, bp, bh, h⟩ := h.p; exact h.mo.nd
theorem Cache.len {s : TH} {c T d : Nat} {C : CacheM} (h : Cache s c T d C) : (C.l.length : Int) ≤ C.bound ∧ 1 ≤ C.bound ∧ C.bound ≤ 64 := by obtain ⟨r, m, bp, bh, h⟩ := h.p; exact ⟨h.len, h.bnd⟩

/-- bollard/bollardlaw06.CacheOldest -/
theorem w_oldest (x0 x1 : Int) {la : Option Addr} {ln : Nat} (lc : Nat) {ls : List Int} (s : TH) (hl : Sl s la (ivs ls) 0) (hln : ls.length = ln) (hm : ln ≤ 9223372036854775807) : TRet Try.prog 5 #[.int .i64 x0, .int .i64 x1, .slice la ln lc] s fun v s' => v = .bool true ∧ Ch [5, 10, 11, 12, 13, 14, 30, 31, 32, 33, 34, 50, 51, 52, 53] s s' := by
  refine F5_calls _ _ _ _ _  ?_
  unfold F5
  refine wr_a fun n1 hn1 => ?_
  rw [wrap_u64] at hn1
  refine ask_t (by omega) ?_
  refine nm_a fun n2 hn2 => ?_
  rw [Int.tmod_eq_emod_of_nonneg (by omega)] at hn2
  refine wr_t (by omega) ?_
  refine wr_t (by omega) ?_
  generalize hn4 : 1 + n2 = n4
  refine tcall (c_both 10 30 50 x0 n4 _ (by omega) (by omega) (by omega) (by omega)) ?_
  rintro _ s6 ⟨c, r, y, d, x, rfl, c_1, D_3, _, cb_4, cm_5⟩
  have z_2 := c_1.size
  have hC0 : Cache s6 c 50 d ⟨[], n4, 0, 0, 0⟩ := newCache cb_4 cm_5 (by omega)
  refine dT5 ?_
  refine dPtr_i ?_
  refine dPtr_i ?_
  refine dPtr_i ?_
  refine dPtr_i ?_
  refine dBl_i ?_
  refine jn_u ?_
  refine sB_f (by rfl) ?_
  intro _ _ _ _ _
  refine dBl_i ?_
  refine sB_f (by rfl) ?_
  refine ⟨fun vs H' => ∃ s' : TH, s'.h = H' ∧ ∃ wa wn wc i, vs = [.slice wa wn wc, .int .i64 i] ∧ ChL [5, 10, 11, 12, 13, 14, 30, 31, 32, 33, 34, 50, 51, 52, 53] [] s6 s' ∧ (∃ (k : Nat) (C : CacheM), i = k ∧ k ≤ ln ∧ Cache s' c 50 d C ∧ Disk s' d 10 (fullDisk (nblk x0) (nblk x0)) ∧ Own s' wa wn wc 3 1 (ivs (C.l.map (·.blk))) 5 ∧ C.bound = n4 ∧ (∀ x ∈ C.l, x.pins = 0) ∧ C.hits + C.misses = k ∧ C.clock = k), fun vs H' => match vs with | [.slice wa wn wc, .int .i64 i] => ((ln : Int) - i).toNat | _ => 0, ⟨s6, rfl, _, _, _, _, rfl, ChL.refl _ _ _, ?_⟩, ?_⟩
  ·
    exact ⟨0, ⟨[], n4, 0, 0, 0⟩, rfl, by omega, hC0, D_3, Own.nil _ _ _ _, rfl, (fun x h => by cases h), rfl, rfl⟩
  ·
    intro wa wn wc i _ _ _ _ _ _ _ _ _ _ _ _ _ _ _ _ _ _ _ _ _ _ _ _ _ _ _ _ _ _ _ _ _ _ _ _ _ _ _ _ _ _ _ _ _ _ _ _ _ _ _ _ _ H84 hI
    obtain ⟨s84, rfl, wa_, wn_, wc_, i_, hvs, c_6, k, C, rfl, hk, K_8, D_9, w_10, hbd, hpins, hcnt, hclk⟩ := hI
    cases hvs
    have z_7 := c_6.size
    refine sB_d (fun hsB3 => ?_) (fun hsB3 => ?_)
    ·
      have l_11 := hl.mv c_1 (tagn (by intro h; simp only [List.mem_cons, List.not_mem_nil, or_false] at h <;> omega))
      have l_12 := l_11.mv c_6 (tagL (by simp <;> omega) (by simp))
      have hk2 : k < ln := by omega
      obtain ⟨y1, hx0⟩ : ∃ y, ls[k]? = some y := ⟨ls[k], by simp [hln, hk2]⟩
      obtain ⟨a, rfl⟩ := l_12.ne_none (by rw [ivs_len]; omega)
      refine nz_i ?_
      refine ask_t (by omega) ?_
      refine ld_sl l_12 (by rw [Int.toNat_natCast, Nat.mul_one]; exact ivs_get hx0) ?_
      refine dInt_i ?_
      refine wr_a fun n89 hn89 => ?_
      rw [wrap_u64] at hn89
      refine wr_a fun n90 hn90 => ?_
      rw [wrap_u64] at hn90
      refine ask_t (by omega) ?_
      refine nm_a fun n91 hn91 => ?_
      rw [Int.tmod_eq_emod_of_nonneg (by omega)] at hn91
      refine wr_t (by omega) ?_
      refine wr_t (by omega) ?_
      refine wr_a fun n94 hn94 => ?_
      rw [wrap_u64] at hn94
      refine ask_t (by omega) ?_
      refine nm_a fun n95 hn95 => ?_
      rw [Int.tmod_eq_emod_of_nonneg (by omega)] at hn95
      have hn95l := Int.emod_nonneg n89 (by omega : n94 ≠ 0)
      have hn95u := Int.emod_lt_of_pos n89 (by omega : 0 < n94)
      refine wr_t (by omega) ?_
      have hnb : ((nblk x0 : Nat) : Int) = 1 + n91 := by unfold nblk; rw [wrap_u64]; omega
      have hhas : (fullDisk (nblk x0) (nblk x0)).has n95 := (full_has _ _ _).2 (by omega)
      have hlen := K_8.len
      obtain ⟨he0, hold⟩ := old_step (bs := (fullDisk (nblk x0) (nblk x0)).blocks) (b := n95) K_8.nd hpins hlen.1 hlen.2.1
      have hwl : C.l.length = wn := by have := w_10.len; rw [ivs_len, List.length_map] at this; omega
      have hkc := K_8.ok.cnt
      have hC0 := K_8
      refine tcall (c_Get c 50 d 10 C _ n95 0 _ (by omega) (by omega) (by omega) K_8 D_9 (full_at _ _ _) (by simp [fullDisk]) (by omega)) ?_
      rintro _ s98 ⟨ga, gn, gc, ge, rfl, c_13, hres⟩
      have z_14 := c_13.size
      rcases hres with ⟨h1, _⟩ | ⟨_, hge, hK2, hgb⟩
      · exact absurd hhas h1
      refine dT2 ?_
      refine dSl_i ?_
      refine dInt_i ?_
      refine sB_ne (fun hsB4 => (hsB4 (hge.trans he0)).elim) (fun hsB4 => ?_)
      refine jn_u ?_
      have w_15 := w_10.mv c_13 (tagn (by intro h; simp only [List.mem_cons, List.not_mem_nil, or_false] at h <;> omega))
      refine tcall (c_ixInt _ n95 w_15.sl (by rw [List.length_map]; exact hwl) (by omega)) ?_
      rintro _ s157 ⟨rfl, c_16⟩
      have z_17 := c_16.size
      refine dInt_i ?_
      refine sB_d (fun hsB5 => ?_) (fun hsB5 => ?_)
      ·
        rcases ixf_cases (fun x : Int => x == n95) (C.l.map (·.blk)) with ⟨h1, _⟩ | ⟨i, z, hi, hiz, hzb⟩
        · omega
        simp only [hi]
        have hil := (List.getElem?_eq_some_iff.1 hiz).1
        rw [List.length_map] at hil
        refine wr_t (by omega) ?_
        have w_18 := w_15.mv c_16 (tagn (by simp))
        refine tcall (c_delInt i w_18 (by omega) (by omega)) ?_
        rintro _ s161 ⟨wa1, wc1, rfl, c_19, w_21⟩
        have z_20 := c_19.size
        refine dSl_i ?_
        intro _ _ _ _ _ _ _ _ _ _ _
        refine dSl_i ?_
        refine al_t 0 fun r121 s122 hr121 b_22 c_23 z_24 => ?_
        have w_25 := w_21.mv c_23 (tagn (by simp))
        have hwl := w_25.len
        rw [ivs_len] at hwl
        refine app_i u26 in3 rfl w_25 b_22.sl (m := 1) (k := 1) rfl (by intro u hu; simp at hu; subst hu; rfl) (by simp) (by unfold maxLen; omega) fun s126 wa2 wc2 w_28 c_260 hwnil => ?_
        have c_26 := c_260.ch (T := [5]) w_25 (by simp)
        have z_27 := c_26.size
        refine dSl_i ?_
        refine jn_u ?_
        refine sB_d (fun hsB6 => by exfalso; omega) (fun hsB6 => ?_)
        intro _ _ _ _ _ _
        refine dSl_i ?_
        have K_29 := hK2.mv c_16 (rngn (by simp <;> omega))
        have K_30 := K_29.mv c_19 (rngn (by simp <;> omega))
        have K_31 := K_30.mv c_23 (rngn (by simp <;> omega))
        have K_32 := K_31.mv c_26 (rngn (by simp <;> omega))
        refine tcall (c_held c 50 d _ 0 _ (by omega) K_32) ?_
        rintro _ s142 ⟨ha, hc', rfl, c_33, h_35⟩
        have z_34 := c_33.size
        refine dSl_i ?_
        have w_36 := w_28.mv c_33 (tagn (by simp))
        have hO2 : Own s142 wa2 (wn - 1 + 1) wc2 3 1 (ivs (stepW (C.l.map (·.blk)) n95 C.bound)) 5 := by
          have h := w_36
          rw [← stepW_in hC0.nd (by rw [hiz]; simp at hzb; rw [hzb]) (by rw [List.length_map]; omega), ivs_app]
          exact h
        have K_37 := K_32.mv c_33 (rngn (by simp <;> omega))
        refine tcall (c_eqInt _ _ h_35.sl (by rw [List.length_map]) (by have := K_37.len; have := hold.bound; omega) hO2.sl (by have := hO2.len; rw [ivs_len, Nat.mul_one] at this; first | exact this | (rw [this]; simp))) ?_
        rintro _ s147 ⟨rfl, c_38⟩
        have z_39 := c_38.size
        refine dBl_i ?_
        refine sB_f (by rw [decide_eq_true hold.keys]; rfl) ?_
        refine wr_t (by omega) ?_
        refine ⟨⟨s147, rfl, _, _, _, _, rfl, (((((((((ChL.refl [5, 10, 11, 12, 13, 14, 30, 31, 32, 33, 34, 50, 51, 52, 53] [] s6).chl c_6 (by simp) (by simp <;> omega)).ch c_13 (by simp)).ch c_16 (by simp)).ch c_19 (by simp)).ch c_23 (by simp)).ch c_26 (by simp)).ch c_33 (by simp)).ch c_38 (by simp)), ?_⟩, ?_⟩
        ·
          have K_40 := K_37.mv c_38 (rngn (by simp <;> omega))
          have D_41 := D_9.mv c_13 (rngn (by simp <;> omega))
          have D_42 := D_41.mv c_16 (rngn (by simp <;> omega))
          have D_43 := D_42.mv c_19 (rngn (by simp <;> omega))
          have D_44 := D_43.mv c_23 (rngn (by simp <;> omega))
          have D_45 := D_44.mv c_26 (rngn (by simp <;> omega))
          have D_46 := D_45.mv c_33 (rngn (by simp <;> omega))
          have D_47 := D_46.mv c_38 (rngn (by simp <;> omega))
          have w_48 := hO2.mv c_38 (tagn (by simp))
          exact ⟨k + 1, (C.get (fullDisk (nblk x0) (nblk x0)).blocks n95).1, by omega, by omega, K_40, D_47, by rw [hold.keys]; exact w_48, hold.bound.trans hbd, hold.pins, by have := hold.cnt; omega, by have := hold.clk; omega⟩
        ·
          first | omega | (simp only []; omega)
      ·
        intro _ _ _ _ _ _ _ _ _ _ _
        refine dSl_i ?_
        refine al_t 0 fun r121 s122 hr121 b_49 c_50 z_51 => ?_
        have w_52 := w_15.mv c_16 (tagn (by simp))
        have w_53 := w_52.mv c_50 (tagn (by simp))
        have hwl := w_53.len
        rw [ivs_len] at hwl
        refine app_i u26 in3 rfl w_53 b_49.sl (m := 1) (k := 1) rfl (by intro u hu; simp at hu; subst hu; rfl) (by simp) (by unfold maxLen; omega) fun s126 wa2 wc2 w_56 c_540 hwnil => ?_
        have c_54 := c_540.ch (T := [5]) w_53 (by simp)
        have z_55 := c_54.size
        refine dSl_i ?_
        refine jn_u ?_
        refine sB_d (fun hsB8 => ?_) (fun hsB8 => ?_)
        ·
          refine ask_t (by have := w_56.le; omega) ?_
          intro _ _ _ _ _ _
          refine dSl_i ?_
          have hO := w_56.tail (m := 1) (by omega)
          have K_57 := hK2.mv c_16 (rngn (by simp <;> omega))
          have K_58 := K_57.mv c_50 (rngn (by simp <;> omega))
          have K_59 := K_58.mv c_54 (rngn (by simp <;> omega))
          refine tcall (c_held c 50 d _ 0 _ (by omega) K_59) ?_
          rintro _ s142 ⟨ha, hc', rfl, c_60, h_62⟩
          have z_61 := c_60.size
          refine dSl_i ?_
          have w_63 := hO.mv c_60 (tagn (by simp))
          have hO2 : Own s142 (slO wa2 1 1 (wc2 : Int)) (wn + 1 - 1) (wc2 - 1) 3 1 (ivs (stepW (C.l.map (·.blk)) n95 C.bound)) 5 := by
            have h := w_63
            rw [stepW_out (fun h => hsB5 (ixf_mem.2 h)), if_pos (by rw [List.length_append, List.length_map, List.length_singleton]; omega), ← ivs_drop, ivs_app]
            exact h
          have K_64 := K_59.mv c_60 (rngn (by simp <;> omega))
          refine tcall (c_eqInt _ _ h_62.sl (by rw [List.length_map]) (by have := K_64.len; have := hold.bound; omega) hO2.sl (by have := hO2.len; rw [ivs_len, Nat.mul_one] at this; first | exact this | (rw [this]; simp))) ?_
          rintro _ s147 ⟨rfl, c_65⟩
          have z_66 := c_65.size
          refine dBl_i ?_
          refine sB_f (by rw [decide_eq_true hold.keys]; rfl) ?_
          refine wr_t (by omega) ?_
          refine ⟨⟨s147, rfl, _, _, _, _, rfl, ((((((((ChL.refl [5, 10, 11, 12, 13, 14, 30, 31, 32, 33, 34, 50, 51, 52, 53] [] s6).chl c_6 (by simp) (by simp <;> omega)).ch c_13 (by simp)).ch c_16 (by simp)).ch c_50 (by simp)).ch c_54 (by simp)).ch c_60 (by simp)).ch c_65 (by simp)), ?_⟩, ?_⟩
          ·
            have K_67 := K_64.mv c_65 (rngn (by simp <;> omega))
            have D_68 := D_9.mv c_13 (rngn (by simp <;> omega))
            have D_69 := D_68.mv c_16 (rngn (by simp <;> omega))
            have D_70 := D_69.mv c_50 (rngn (by simp <;> omega))
            have D_71 := D_70.mv c_54 (rngn (by simp <;> omega))
            have D_72 := D_71.mv c_60 (rngn (by simp <;> omega))
            have D_73 := D_72.mv c_65 (rngn (by simp <;> omega))
            have w_74 := hO2.mv c_65 (tagn (by simp))
            exact ⟨k + 1, (C.get (fullDisk (nblk x0) (nblk x0)).blocks n95).1, by omega, by omega, K_67, D_73, by rw [hold.keys]; exact w_74, hold.bound.trans hbd, hold.pins, by have := hold.cnt; omega, by have := hold.clk; omega⟩
          ·
            first | omega | (simp only []; omega)
        ·
          intro _ _ _ _ _ _
          refine dSl_i ?_
          have K_75 := hK2.mv c_16 (rngn (by simp <;> omega))
          have K_76 := K_75.mv c_50 (rngn (by simp <;> omega))
          have K_77 := K_76.mv c_54 (rngn (by simp <;> omega))
          refine tcall (c_held c 50 d _ 0 _ (by omega) K_77) ?_
          rintro _ s142 ⟨ha, hc', rfl, c_78, h_80⟩
          have z_79 := c_78.size
          refine dSl_i ?_
          have w_81 := w_56.mv c_78 (tagn (by simp))
          have hO2 : Own s142 wa2 (wn + 1) wc2 3 1 (ivs (stepW (C.l.map (·.blk)) n95 C.bound)) 5 := by
            have h := w_81
            rw [stepW_out (fun h => hsB5 (ixf_mem.2 h)), if_neg (by rw [List.length_append, List.length_map, List.length_singleton]; omega), ivs_app]
            exact h
          have K_82 := K_77.mv c_78 (rngn (by simp <;> omega))
          refine tcall (c_eqInt _ _ h_80.sl (by rw [List.length_map]) (by have := K_82.len; have := hold.bound; omega) hO2.sl (by have := hO2.len; rw [ivs_len, Nat.mul_one] at this; first | exact this | (rw [this]; simp))) ?_
          rintro _ s147 ⟨rfl, c_83⟩
          have z_84 := c_83.size
          refine dBl_i ?_
          refine sB_f (by rw [decide_eq_true hold.keys]; rfl) ?_
          refine wr_t (by omega) ?_
          refine ⟨⟨s147, rfl, _, _, _, _, rfl, ((((((((ChL.refl [5, 10, 11, 12, 13, 14, 30, 31, 32, 33, 34, 50, 51, 52, 53] [] s6).chl c_6 (by simp) (by simp <;> omega)).ch c_13 (by simp)).ch c_16 (by simp)).ch c_50 (by simp)).ch c_54 (by simp)).ch c_78 (by simp)).ch c_83 (by simp)), ?_⟩, ?_⟩
          ·
            have K_85 := K_82.mv c_83 (rngn (by simp <;> omega))
            have D_86 := D_9.mv c_13 (rngn (by simp <;> omega))
            have D_87 := D_86.mv c_16 (rngn (by simp <;> omega))
            have D_88 := D_87.mv c_50 (rngn (by simp <;> omega))
            have D_89 := D_88.mv c_54 (rngn (by simp <;> omega))
            have D_90 := D_89.mv c_78 (rngn (by simp <;> omega))
            have D_91 := D_90.mv c_83 (rngn (by simp <;> omega))
            have w_92 := hO2.mv c_83 (tagn (by simp))
            exact ⟨k + 1, (C.get (fullDisk (nblk x0) (nblk x0)).blocks n95).1, by omega, by omega, K_85, D_91, by rw [hold.keys]; exact w_92, hold.bound.trans hbd, hold.pins, by have := hold.cnt; omega, by have := hold.clk; omega⟩
          ·
            first | omega | (simp only []; omega)
    ·
      refine tcall (c_Hits c 50 d C _ (by omega) K_8) ?_
      rintro _ s172 ⟨rfl, c_93⟩
      have z_94 := c_93.size
      refine dT2 ?_
      refine dInt_i ?_
      refine dInt_i ?_
      have K_95 := K_8.mv c_93 (rngn (by simp <;> omega))
      refine wr_t (by have := K_95.ok.cnt; omega) ?_
      refine ret_t ?_
      exact ⟨ret_b (by have : C.hits + C.misses = (ln : Int) := by omega
                       rw [this]; simp), ((((Ch.refl [5, 10, 11, 12, 13, 14, 30, 31, 32, 33, 34, 50, 51, 52, 53] s).ch c_1 (by simp)).chl c_6 (by simp) (by simp <;> omega)).ch c_93 (by simp))⟩

end Go.Proofs.Ytmgjdmohmhaemaa.E
