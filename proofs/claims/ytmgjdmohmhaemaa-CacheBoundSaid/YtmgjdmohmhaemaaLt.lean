/- Contracts of functions. -/
import Derived.Test.YtmgjdmohmhaemaaProg
import Derived.KernelRfl
import Derived.Test.YtmgjdmohmhaemaaLib2
import Derived.Test.YtmgjdmohmhaemaaLo
import Derived.Test.YtmgjdmohmhaemaaD6
namespace Go.Proofs.Ytmgjdmohmhaemaa.E
open Go Go.Proofs Go.RowKit Go.Maps Go.Shelf Go.Sort
set_option linter.unusedVariables false

/-- what was put, and the bytes behind it -/
structure PutR (s : TH) (τ : Nat) (pm : List (Int × Value)) (pb : Int → List UInt8) : Prop where
  at_ : ∀ k v, (k, v) ∈ pm → ∃ a c, v = .slice (some a) 128 c ∧ ByAt s τ (some a, c) (pb k)
theorem PutR.mv {s s' : TH} {τ : Nat} {pm : List (Int × Value)} {pb : Int → List UInt8} {B : Nat → Prop} (h : PutR s τ pm pb) (c : Chg B s s') (hn : ∀ j, j < s.h.size → s.g j = τ → ¬ B j) : PutR s' τ pm pb :=
  ⟨fun k v hv => by obtain ⟨a, c', h1, h2⟩ := h.at_ k v hv; exact ⟨a, c', h1, h2.mv c hn⟩⟩
theorem PutR.sub {s : TH} {τ : Nat} {pm pm' : List (Int × Value)} {pb : Int → List UInt8} (h : PutR s τ pm pb) (hs : pm'.Sublist pm) : PutR s τ pm' pb := ⟨fun k v hv => h.at_ k v (hs.subset hv)⟩
theorem mem_mset {m : List (Int × Value)} {k k' : Int} {v x : Value} (h : (k', v) ∈ mset k x m) : (k' = k ∧ v = x) ∨ (k' ≠ k ∧ (k', v) ∈ m) ∨ ((k', v) ∈ m ∧ k' ≠ k) ∨ (k' = k ∧ (k', v) ∈ m) := by
  induction m with
  | nil => simp [mset] at h; exact .inl h
  | cons p m ih =>
    rw [mset] at h
    by_cases hp : k = p.1
    · rw [if_pos hp] at h
      rcases List.mem_cons.1 h with h | h
      · cases h; exact .inl ⟨rfl, rfl⟩
      · by_cases hk : k' = k
        · exact .inr (.inr (.inr ⟨hk, List.mem_cons_of_mem _ h⟩))
        · exact .inr (.inl ⟨hk, List.mem_cons_of_mem _ h⟩)
    · rw [if_neg hp] at h
      rcases List.mem_cons.1 h with h | h
      · cases h; exact .inr (.inl ⟨fun e => hp e.symm, by simp⟩)
      · rcases ih h with h | h | h | h
        · exact .inl h
        · exact .inr (.inl ⟨h.1, List.mem_cons_of_mem _ h.2⟩)
        · exact .inr (.inl ⟨h.2, List.mem_cons_of_mem _ h.1⟩)
        · exact .inr (.inr (.inr ⟨h.1, List.mem_cons_of_mem _ h.2⟩))
theorem mget_of_mem {m : List (Int × Value)} (hn : (m.map (·.1)).Nodup) {k : Int} {v : Value} (h : (k, v) ∈ m) : mget k m = some v := by
  induction m with
  | nil => cases h
  | cons p m ih =>
    rw [List.map_cons, List.nodup_cons] at hn
    rw [mget]
    rcases List.mem_cons.1 h with h | h
    · subst h; simp
    · have : k ≠ p.1 := fun e => hn.1 (e ▸ List.mem_map.2 ⟨_, h, rfl⟩)
      rw [if_neg this]; exact ih hn.2 h
theorem mem_of_mget {m : List (Int × Value)} {k : Int} {v : Value} (h : mget k m = some v) : (k, v) ∈ m := by
  induction m with
  | nil => cases h
  | cons p m ih =>
    rw [mget] at h
    by_cases hk : k = p.1
    · rw [if_pos hk] at h; cases h; subst hk; simp
    · rw [if_neg hk] at h; exact List.mem_cons_of_mem _ (ih h)
theorem keys_mset {m : List (Int × Value)} {k : Int} {x : Value} (j : Int) : j ∈ (mset k x m).map (·.1) ↔ j = k ∨ j ∈ m.map (·.1) := by
  induction m with
  | nil => simp [mset]
  | cons p m ih =>
    rw [mset]
    by_cases hk : k = p.1
    · rw [if_pos hk]; simp [hk]
    · rw [if_neg hk, List.map_cons, List.mem_cons, ih, List.map_cons, List.mem_cons]
      constructor
      · rintro (h | h | h) <;> simp [h]
      · rintro (h | h | h) <;> simp [h]
/-- what a cache tells: what was put, else what the disk has -/
structure Tel (C : CacheM) (keys : List Int) (pb : Int → List UInt8) (bs : List (List UInt8)) : Prop where
  put : ∀ x ∈ C.l, x.blk ∈ keys → x.by_ = pb x.blk
  disk : ∀ x ∈ C.l, x.blk ∉ keys → x.by_ = (bs[x.blk.toNat]?).getD []
  held : ∀ k ∈ keys, k ∈ C.l.map (·.blk)
  pins : ∀ x ∈ C.l, x.pins = 0
theorem Tel.put1 {C : CacheM} {keys keys' : List Int} {pb : Int → List UInt8} {bs : List (List UInt8)} (h : Tel C keys pb bs) (b : Int) (y : List UInt8) (hb : b ∈ C.l.map (·.blk)) (hk : ∀ j, j ∈ keys' ↔ j = b ∨ j ∈ keys) : Tel (C.put b y) keys' (fun k => if k = b then y else pb k) bs := by
  refine ⟨fun x hx hxk => ?_, fun x hx hxk => ?_, fun k hk' => ?_, fun x hx => ?_⟩
  · obtain ⟨z, hz, ⟨h1, rfl⟩ | ⟨h1, rfl⟩⟩ := updB_mem hx
    · simp only [if_neg h1]; exact h.put x hz (((hk _).1 hxk).resolve_left h1)
    · simp only [h1, if_true]
  · obtain ⟨z, hz, ⟨h1, rfl⟩ | ⟨h1, rfl⟩⟩ := updB_mem hx
    · exact h.disk x hz fun e => hxk ((hk _).2 (.inr e))
    · exact absurd ((hk _).2 (.inl h1)) hxk
  · have e : (C.put b y).l.map (·.blk) = C.l.map (·.blk) := updB_blk _ _ _ fun _ => rfl
    rw [e]
    rcases (hk k).1 hk' with rfl | hk'
    · exact hb
    · exact h.held k hk'
  · obtain ⟨z, hz, ⟨h1, rfl⟩ | ⟨h1, rfl⟩⟩ := updB_mem hx
    · exact h.pins x hz
    · exact h.pins z hz
theorem put_none {C : CacheM} {b : Int} {y : List UInt8} (h : b ∉ C.l.map (·.blk)) : C.put b y = C := by
  unfold CacheM.put updB
  have : (C.l.map fun x => if x.blk = b then { x with by_ := y } else x) = C.l := by
    conv => rhs; rw [← List.map_id C.l]
    apply List.map_congr_left; intro z hz
    have : z.blk ≠ b := fun e => h (e ▸ List.mem_map.2 ⟨z, hz, rfl⟩)
    rw [if_neg this]; rfl
  rw [this]
/-- behind a Get: the bytes are as before; what is new is the disk's -/
theorem get_mem {C : CacheM} {bs : List (List UInt8)} {b : Int} {x : BufM} (h : x ∈ (C.get bs b).1.l) : (∃ y ∈ C.l, y.blk = x.blk ∧ y.by_ = x.by_ ∧ y.pins = x.pins) ∨ (x.blk = b ∧ C.find b = none ∧ x.by_ = (bs[b.toNat]?).getD [] ∧ x.pins = 0) := by
  cases hf : C.find b with
  | some z =>
    obtain ⟨hz, rfl⟩ := find_mem hf
    rw [get_hit hf] at h
    rcases List.mem_append.1 h with h | h
    · exact .inl ⟨x, (rmB_mem.1 h).1, rfl, rfl, rfl⟩
    · rw [List.mem_singleton] at h; subst h; exact .inl ⟨z, hz, rfl, rfl, rfl⟩
  | none =>
    cases hr : C.room with
    | none => rw [get_full hf hr] at h; exact .inl ⟨x, h, rfl, rfl, rfl⟩
    | some l =>
      have hg : C.get bs b = ({ C with l := l ++ [⟨b, (bs[b.toNat]?).getD [], 0, C.clock + 1⟩], clock := C.clock + 1, misses := C.misses + 1 }, 0) := by unfold CacheM.get; rw [hf]; simp only; rw [hr]
      rw [hg] at h
      rcases List.mem_append.1 h with h | h
      · exact .inl ⟨x, (room_mem hr).subset h, rfl, rfl, rfl⟩
      · rw [List.mem_singleton] at h; subst h; exact .inr ⟨rfl, rfl, rfl, rfl⟩
theorem Tel.get {C : CacheM} {keys keys' : List Int} {pb : Int → List UInt8} {bs : List (List UInt8)} {b : Int} (h : Tel C keys pb bs) (hk : ∀ j, j ∈ keys' → j ∈ keys ∧ j ∈ (C.get bs b).1.l.map (·.blk)) (hk2 : ∀ j ∈ keys, j ∈ (C.get bs b).1.l.map (·.blk) → j ∈ keys') : Tel (C.get bs b).1 keys' pb bs := by
  refine ⟨fun x hx hxk => ?_, fun x hx hxk => ?_, fun k hk' => (hk k hk').2, fun x hx => ?_⟩
  · rcases get_mem hx with ⟨y, hy, e1, e2, e3⟩ | ⟨e1, e2, e3⟩
    · rw [← e2, ← e1]; exact h.put y hy (by rw [e1]; exact (hk _ hxk).1)
    · have := h.held _ (hk _ hxk).1
      rw [e1] at this
      exact absurd this (find_nmem e2)
  · have hn : x.blk ∉ keys := fun e => hxk (hk2 _ e (List.mem_map.2 ⟨x, hx, rfl⟩))
    rcases get_mem hx with ⟨y, hy, e1, e2, e3⟩ | ⟨e1, e2, e3, e4⟩
    · rw [← e2, ← e1]; exact h.disk y hy (by rw [e1]; exact hn)
    · rw [e3, e1]
  · rcases get_mem hx with ⟨y, hy, e1, e2, e3⟩ | ⟨e1, e2, e3, e4⟩
    · rw [← e3]; exact h.pins y hy
    · exact e4
/-- a block that is got is held -/
theorem got_mem {C : CacheM} {bs : List (List UInt8)} {b : Int} (h : (C.get bs b).2 = 0) : ∃ x ∈ (C.get bs b).1.l, x.blk = b := by
  cases hf : C.find b with
  | some z =>
    obtain ⟨hz, rfl⟩ := find_mem hf
    rw [get_hit hf]; exact ⟨_, List.mem_append_right _ (List.mem_singleton.2 rfl), rfl⟩
  | none =>
    cases hr : C.room with
    | none => rw [get_full hf hr] at h; cases h
    | some l =>
      have hg : C.get bs b = ({ C with l := l ++ [⟨b, (bs[b.toNat]?).getD [], 0, C.clock + 1⟩], clock := C.clock + 1, misses := C.misses + 1 }, 0) := by unfold CacheM.get; rw [hf]; simp only; rw [hr]
      rw [hg]; exact ⟨_, List.mem_append_right _ (List.mem_singleton.2 rfl), rfl⟩
theorem PutR.put {s : TH} {τ : Nat} {pm : List (Int × Value)} {pb : Int → List UInt8} (h : PutR s τ pm pb) {b : Int} {a : Addr} {c : Nat} {y : List UInt8} (hn : ((mset b (.slice (some a) 128 c) pm).map (·.1)).Nodup) (hy : ByAt s τ (some a, c) y) :
    PutR s τ (mset b (.slice (some a) 128 c) pm) (fun j => if j = b then y else pb j) := by
  refine ⟨fun k v hv => ?_⟩
  have h1 := mget_of_mem hn hv
  rw [mget_mset] at h1
  by_cases hk : k = b
  · rw [if_pos hk] at h1; cases h1
    exact ⟨a, c, rfl, by simp only [if_pos hk]; exact hy⟩
  · rw [if_neg hk] at h1
    simp only [if_neg hk]
    exact h.at_ k v (mem_of_mget h1)
theorem Tel.tells {C : CacheM} {keys : List Int} {pb : Int → List UInt8} {bs : List (List UInt8)} {b : Int} (h : Tel C keys pb bs) (he : (C.get bs b).2 = 0) (hn : ((C.get bs b).1.l.map (·.blk)).Nodup) : (C.get bs b).1.bytes b = if b ∈ keys then pb b else (bs[b.toNat]?).getD [] := by
  obtain ⟨x, hx, hb⟩ := got_mem he
  have e := bytes_eq hn hx
  rw [hb] at e
  rw [e]
  rcases get_mem hx with ⟨y, hy, e1, e2, e3⟩ | ⟨e1, e2, e3, e4⟩
  · rw [← e2]
    split
    · rename_i hk; rw [← hb, ← e1]; exact h.put y hy (by rw [e1, hb]; exact hk)
    · rename_i hk; rw [h.disk y hy (by rw [e1, hb]; exact hk), e1, hb]
  · rw [if_neg (fun hk => find_nmem e2 (h.held b hk)), e3]
theorem u8_wrap {n x : Int} (h : n = IntKind.u8.wrap x) : ∃ u : UInt8, n = (u.toNat : Int) := by
  refine ⟨UInt8.ofNat (x % 256).toNat, ?_⟩
  have e1 : IntKind.u8.wrap x = x % 256 := rfl
  have e2 : (UInt8.ofNat (x % 256).toNat).toNat = (x % 256).toNat % 256 := rfl
  rw [h, e1, e2]; omega
theorem Tel.nil (bs : List (List UInt8)) (pb : Int → List UInt8) (b : Int) : Tel ⟨[], b, 0, 0, 0⟩ [] pb bs := ⟨fun x h => (List.not_mem_nil h).elim, fun x h => (List.not_mem_nil h).elim, fun x h => (List.not_mem_nil h).elim, fun x h => (List.not_mem_nil h).elim⟩
theorem ItK.ne {κ : Type} {kf : κ → Value} {s : TH} {q r τ τq : Nat} {m : List (κ × Value)} {vis : List κ} (h : ItK kf s q r m vis τ τq) : q ≠ r := fun e => by
  obtain ⟨es, ck, seen, h1, _, h2, _⟩ := h.ex
  rw [e, h1] at h2; cases h2
theorem keys_del {m : List (Int × Value)} (hn : (m.map (·.1)).Nodup) (k j : Int) : j ∈ (mdel k m).map (·.1) ↔ j ≠ k ∧ j ∈ m.map (·.1) := by
  rw [keys_mdel, hn.mem_erase_iff]

/-- bollard/bollardlaw06.CacheTells -/
theorem w_tells (x0 x1 : Int) {la : Option Addr} {ln : Nat} (lc : Nat) {ls : List DoM} (s : TH) (hl : Sl s la (ls.flatMap dov) 0) (hln : ls.length = ln) (hm : ln ≤ 9223372036854775807) : TRet Try.prog 6 #[.int .i64 x0, .int .i64 x1, .slice la ln lc] s fun v s' => v = .bool true ∧ Ch [10, 11, 12, 13, 14, 30, 31, 32, 33, 34, 50, 51, 52, 53, 70, 72] s s' := by
  refine F6_calls _ _ _ _ _  ?_
  unfold F6
  refine wr_a fun n1 hn1 => ?_
  rw [wrap_u64] at hn1
  refine ask_t (by omega) ?_
  refine nm_a fun n2 hn2 => ?_
  rw [Int.tmod_eq_emod_of_nonneg (by omega)] at hn2
  refine wr_t (by omega) ?_
  refine wr_t (by omega) ?_
  generalize hn4 : 1 + n2 = n4
  refine tcall (c_both 10 30 50 x0 n4 _ (by omega) (by omega) (by omega) (by omega)) ?_
  rintro _ s6 ⟨c, r, y, d, x, rfl, c_1, D_3, _, cb_4, cm_5⟩
  have z_2 := c_1.size
  have hC0 : Cache s6 c 50 d ⟨[], n4, 0, 0, 0⟩ := newCache cb_4 cm_5 (by omega)
  refine dT5 ?_
  refine dPtr_i ?_
  refine dPtr_i ?_
  refine dPtr_i ?_
  refine dPtr_i ?_
  refine dBl_i ?_
  refine jn_u ?_
  refine sB_f (by rfl) ?_
  intro _ _ _ _ _
  refine dBl_i ?_
  refine sB_f (by rfl) ?_
  refine alm_t (Value.int .i64) 70 fun r25 s26 hr25 m_6 c_7 z_8 => ?_
  refine ⟨fun vs H' => ∃ s' : TH, s'.h = H' ∧ ∃ i, vs = [.int .i64 i] ∧ ChL [10, 11, 12, 13, 14, 30, 31, 32, 33, 34, 50, 51, 52, 53, 70, 72] [r25] s26 s' ∧ (∃ (k : Nat) (C : CacheM) (pm : List (Int × Value)) (pb : Int → List UInt8), i = k ∧ k ≤ ln ∧ Cache s' c 50 d C ∧ Disk s' d 10 (fullDisk (nblk x0) (nblk x0)) ∧ MapK (Value.int .i64) s' r25 pm 70 ∧ PutR s' 71 pm pb ∧ C.bound = n4 ∧ Tel C (pm.map (·.1)) pb (fullDisk (nblk x0) (nblk x0)).blocks ∧ C.hits + C.misses ≤ k ∧ C.clock ≤ k), fun vs H' => match vs with | [.int .i64 i] => ((ln : Int) - i).toNat | _ => 0, ⟨s26, rfl, _, rfl, ChL.refl _ _ _, ?_⟩, ?_⟩
  ·
    have K_9 := hC0.mv c_7 (rngn (by simp <;> omega))
    have D_10 := D_3.mv c_7 (rngn (by simp <;> omega))
    exact ⟨0, ⟨[], n4, 0, 0, 0⟩, [], fun _ => [], rfl, by omega, K_9, D_10, m_6, ⟨fun k v h => (List.not_mem_nil h).elim⟩, rfl, Tel.nil _ _ _, by simp, by simp⟩
  ·
    intro i _ _ _ _ _ _ _ _ _ _ _ _ _ _ _ _ _ _ _ _ _ _ _ _ _ _ _ _ _ _ _ _ _ _ _ _ _ _ _ _ _ _ _ _ _ _ _ _ _ _ _ _ _ _ _ _ _ _ _ _ _ _ _ _ _ _ _ _ _ _ _ _ _ _ _ _ _ _ _ _ _ _ _ H113 hI
    obtain ⟨s113, rfl, i_, hvs, c_11, k, C, pm, pb, rfl, hk, K_13, D_14, pm_15, P_16, hbd, hT, hcnt, hclk⟩ := hI
    cases hvs
    have z_12 := c_11.size
    refine sB_d (fun hsB3 => ?_) (fun hsB3 => ?_)
    ·
      refine jn_u ?_
      have l_17 := hl.mv c_1 (tagn (by intro h; simp only [List.mem_cons, List.not_mem_nil, or_false] at h <;> omega))
      have l_18 := l_17.mv c_7 (tagn (by simp))
      have l_19 := l_18.mv c_11 (tagL (by simp <;> omega) (by intro r hr; simp only [List.mem_cons, List.not_mem_nil, or_false] at hr; rcases hr with rfl <;> first | (rw [m_6.tag]; simp <;> omega)))
      have hk2 : k < ln := by omega
      obtain ⟨y1, hx0⟩ : ∃ y, ls[k]? = some y := ⟨ls[k], by simp [hln, hk2]⟩
      obtain ⟨a, rfl⟩ := l_19.ne_none (by rw [fm_len dov_len]; omega)
      refine nz_i ?_
      refine ask_t (by omega) ?_
      refine ld_sl l_19 (by rw [Int.toNat_natCast]; exact dcell0 hx0) ?_
      refine ld_sl2 l_19 (by rw [Int.toNat_natCast]; exact dcell1 hx0) ?_
      refine ld_sl2 l_19 (by rw [Int.toNat_natCast]; exact dcell2 hx0) ?_
      refine ld_sl2 l_19 (by rw [Int.toNat_natCast]; exact dcell3 hx0) ?_
      refine al_t 0 fun r204 s205 hr204 b_20 c_21 z_22 => ?_
      refine st_t b_20 rfl (by simp) fun s206 b_23 c_24 z_25 => ?_
      refine st_t b_23 rfl (by simp) fun s207 b_26 c_27 z_28 => ?_
      refine st_t b_26 rfl (by simp) fun s208 b_29 c_30 z_31 => ?_
      refine st_t b_29 rfl (by simp) fun s209 b_32 c_33 z_34 => ?_
      refine ld_t b_32 rfl ?_
      refine dInt_i ?_
      refine wr_a fun n212 hn212 => ?_
      rw [wrap_u64] at hn212
      have D_35 := D_14.mv c_21 (rngn (by simp <;> omega))
      have D_36 := D_35.mv c_24 (rngO (by rw [b_20.tag]; omega))
      have D_37 := D_36.mv c_27 (rngO (by rw [b_23.tag]; omega))
      have D_38 := D_37.mv c_30 (rngO (by rw [b_26.tag]; omega))
      have D_39 := D_38.mv c_33 (rngO (by rw [b_29.tag]; omega))
      refine tcall (c_blocks d 10 _ _ (by omega) D_39) ?_
      rintro _ s214 ⟨rfl, c_40⟩
      have z_41 := c_40.size
      have hfl : (fullDisk (nblk x0) (nblk x0)).blocks.length = nblk x0 := fullB_len _ _
      have hnn := nblk_le x0
      refine dInt_i ?_
      refine ⟨?_, ?_⟩
      ·
        have r204_42 := b_32.ch c_40 (by simp)
        refine ld_t r204_42 rfl ?_
        refine dInt_i ?_
        rfl
      ·
        refine wr_a fun n218 hn218 => ?_
        rw [wrap_u64] at hn218
        refine ask_t (by omega) ?_
        refine nm_a fun n219 hn219 => ?_
        rw [Int.tmod_eq_emod_of_nonneg (by omega)] at hn219
        have hn219l := Int.emod_nonneg n212 (by omega : n218 ≠ 0)
        have hn219u := Int.emod_lt_of_pos n212 (by omega : 0 < n218)
        refine wr_t (by omega) ?_
        have r204_43 := b_32.ch c_40 (by simp)
        refine ld_t r204_43 rfl ?_
        refine dInt_i ?_
        refine ask_t (by omega) ?_
        refine nm_a fun n223 hn223 => ?_
        refine sB_eq (fun hsB4 => ?_) (fun hsB4 => ?_)
        ·
          refine ld_t r204_43 rfl ?_
          refine dInt_i ?_
          refine wr_a fun n226 hn226 => ?_
          obtain ⟨u, rfl⟩ := u8_wrap hn226
          refine al_t 0 fun r227 s228 hr227 b_44 c_45 z_46 => ?_
          refine tcall (c_rep 71 (b := u) b_44.sl) ?_
          rintro _ s230 ⟨rr, rfl, c_47, y_49⟩
          have z_48 := c_47.size
          refine dSl_i ?_
          have hhas : (fullDisk (nblk x0) (nblk x0)).has n219 := (full_has _ _ _).2 (by omega)
          have K_50 := K_13.mv c_21 (rngn (by simp <;> omega))
          have K_51 := K_50.mv c_24 (rngO (by rw [b_20.tag]; omega))
          have K_52 := K_51.mv c_27 (rngO (by rw [b_23.tag]; omega))
          have K_53 := K_52.mv c_30 (rngO (by rw [b_26.tag]; omega))
          have K_54 := K_53.mv c_33 (rngO (by rw [b_29.tag]; omega))
          have K_55 := K_54.mv c_40 (rngn (by simp <;> omega))
          have K_56 := K_55.mv c_45 (rngn (by simp <;> omega))
          have K_57 := K_56.mv c_47 (rngn (by simp <;> omega))
          have D_58 := D_39.mv c_40 (rngn (by simp <;> omega))
          have D_59 := D_58.mv c_45 (rngn (by simp <;> omega))
          have D_60 := D_59.mv c_47 (rngn (by simp <;> omega))
          refine tcall (c_Put c 50 d 10 C _ n219 128 _ (by omega) (by omega) (by omega) K_57 D_60 y_49 (by simp)) ?_
          rintro _ s235 ⟨rfl, c_61, K_63⟩
          have z_62 := c_61.size
          rw [if_pos hhas] at K_63
          refine dInt_i ?_
          refine sB_f (by rw [if_pos hhas]; rfl) ?_
          refine tcall (c_held c 50 d _ 0 _ (by omega) K_63) ?_
          rintro _ s238 ⟨ha, hc', rfl, c_64, h_66⟩
          have z_65 := c_64.size
          refine dSl_i ?_
          have K_67 := K_63.mv c_64 (rngn (by simp <;> omega))
          refine tcall (c_ctInt _ n219 h_66.sl (by rw [List.length_map]) (by have := K_67.len; omega)) ?_
          rintro _ s243 ⟨rfl, c_68⟩
          have z_69 := c_68.size
          refine dBl_i ?_
          refine sB_d (fun hsB6 => ?_) (fun hsB6 => ?_)
          ·
            have pm_70 := pm_15.ch c_21 (by simp)
            have pm_71 := pm_70.on c_24 (by intro he; have h1 := pm_70.tag; have h2 := b_20.tag; rw [he] at h1; rw [h1] at h2; revert h2; simp <;> omega)
            have pm_72 := pm_71.on c_27 (by intro he; have h1 := pm_71.tag; have h2 := b_23.tag; rw [he] at h1; rw [h1] at h2; revert h2; simp <;> omega)
            have pm_73 := pm_72.on c_30 (by intro he; have h1 := pm_72.tag; have h2 := b_26.tag; rw [he] at h1; rw [h1] at h2; revert h2; simp <;> omega)
            have pm_74 := pm_73.on c_33 (by intro he; have h1 := pm_73.tag; have h2 := b_29.tag; rw [he] at h1; rw [h1] at h2; revert h2; simp <;> omega)
            have pm_75 := pm_74.ch c_40 (by simp)
            have pm_76 := pm_75.ch c_45 (by simp)
            have pm_77 := pm_76.ch c_47 (by simp)
            have pm_78 := pm_77.ch c_61 (by intro h; simp only [List.mem_cons, List.not_mem_nil, or_false] at h <;> omega)
            have pm_79 := pm_78.ch c_64 (by simp)
            have pm_80 := pm_79.ch c_68 (by simp)
            refine upd_t keyI u59 pm_80 n219 (.slice (some ⟨rr, 0, none⟩) 128 128) fun s248 pm_83 c_81 hsz => ?_
            have z_82 := c_81.size
            intro _ _ _ _ _ _ _ _ _ _ _ _ _ _ _ _ _ _ _ _ _ _ _ _ _ _ _ _ _ _ _ _ _ _ _ _ _ _ _ _ _ _ _ _ _ _ _ _ _ _ _ _ _ _ _ _ _ _ _ _ _ _ _ _ _ _ _ _ _ _ _ _ _ _ _ _ _ _ _ _ _
            refine wr_t (by omega) ?_
            refine ⟨⟨s248, rfl, _, rfl, ((((((((((((((ChL.refl [10, 11, 12, 13, 14, 30, 31, 32, 33, 34, 50, 51, 52, 53, 70, 72] [r25] s26).chl c_11 (by simp) (by simp <;> omega)).ch c_21 (by simp)).on_new c_24 (by omega)).on_new c_27 (by omega)).on_new c_30 (by omega)).on_new c_33 (by omega)).ch c_40 (by simp)).ch c_45 (by simp)).ch c_47 (by simp)).ch c_61 (by simp)).ch c_64 (by simp)).ch c_68 (by simp)).on c_81 (by simp)), ?_⟩, ?_⟩
            ·
              have K_84 := K_67.mv c_68 (rngn (by simp <;> omega))
              have K_85 := K_84.mv c_81 (rngO (by rw [pm_80.tag]; omega))
              have D_86 := D_60.mv c_61 (rngn (by simp <;> omega))
              have D_87 := D_86.mv c_64 (rngn (by simp <;> omega))
              have D_88 := D_87.mv c_68 (rngn (by simp <;> omega))
              have D_89 := D_88.mv c_81 (rngO (by rw [pm_80.tag]; omega))
              have P_90 := P_16.mv c_21 (tagn (by simp))
              have P_91 := P_90.mv c_24 (onn (by rw [b_20.tag]; omega))
              have P_92 := P_91.mv c_27 (onn (by rw [b_23.tag]; omega))
              have P_93 := P_92.mv c_30 (onn (by rw [b_26.tag]; omega))
              have P_94 := P_93.mv c_33 (onn (by rw [b_29.tag]; omega))
              have P_95 := P_94.mv c_40 (tagn (by simp))
              have P_96 := P_95.mv c_45 (tagn (by simp))
              have P_97 := P_96.mv c_47 (tagn (by simp))
              have P_98 := P_97.mv c_61 (tagn (by intro h; simp only [List.mem_cons, List.not_mem_nil, or_false] at h <;> omega))
              have P_99 := P_98.mv c_64 (tagn (by simp))
              have P_100 := P_99.mv c_68 (tagn (by simp))
              have P_101 := P_100.mv c_81 (onn (by rw [pm_80.tag]; omega))
              have y_102 := y_49.mv c_61 (tagn (by intro h; simp only [List.mem_cons, List.not_mem_nil, or_false] at h <;> omega))
              have y_103 := y_102.mv c_64 (tagn (by simp))
              have y_104 := y_103.mv c_68 (tagn (by simp))
              have y_105 := y_104.mv c_81 (onn (by rw [pm_80.tag]; omega))
              have hin : n219 ∈ C.l.map (·.blk) := (by have e : (C.put n219 (List.replicate 128 u)).l.map (·.blk) = C.l.map (·.blk) := updB_blk _ _ _ (fun _ => rfl); rw [e] at hsB6; exact hsB6)
              exact ⟨k + 1, C.put n219 (List.replicate 128 u), _, _, by omega, by omega, K_85, D_89, pm_83, P_101.put pm_83.nd ⟨y_105, by simp⟩, hbd, hT.put1 n219 _ hin keys_mset, (by have h : (C.put n219 (List.replicate 128 u)).hits + (C.put n219 (List.replicate 128 u)).misses = C.hits + C.misses := rfl; omega), (by have h : (C.put n219 (List.replicate 128 u)).clock = C.clock := rfl; omega)⟩
            ·
              first | omega | (simp only []; omega)
          ·
            intro _ _ _ _ _ _ _ _ _ _ _ _ _ _ _ _ _ _ _ _ _ _ _ _ _ _ _ _ _ _ _ _ _ _ _ _ _ _ _ _ _ _ _ _ _ _ _ _ _ _ _ _ _ _ _ _ _ _ _ _ _ _ _ _ _ _ _ _ _ _ _ _ _ _ _ _ _ _ _ _ _
            refine wr_t (by omega) ?_
            refine ⟨⟨s243, rfl, _, rfl, (((((((((((((ChL.refl [10, 11, 12, 13, 14, 30, 31, 32, 33, 34, 50, 51, 52, 53, 70, 72] [r25] s26).chl c_11 (by simp) (by simp <;> omega)).ch c_21 (by simp)).on_new c_24 (by omega)).on_new c_27 (by omega)).on_new c_30 (by omega)).on_new c_33 (by omega)).ch c_40 (by simp)).ch c_45 (by simp)).ch c_47 (by simp)).ch c_61 (by simp)).ch c_64 (by simp)).ch c_68 (by simp)), ?_⟩, ?_⟩
            ·
              have K_106 := K_67.mv c_68 (rngn (by simp <;> omega))
              have D_107 := D_60.mv c_61 (rngn (by simp <;> omega))
              have D_108 := D_107.mv c_64 (rngn (by simp <;> omega))
              have D_109 := D_108.mv c_68 (rngn (by simp <;> omega))
              have pm_110 := pm_15.ch c_21 (by simp)
              have pm_111 := pm_110.on c_24 (by intro he; have h1 := pm_110.tag; have h2 := b_20.tag; rw [he] at h1; rw [h1] at h2; revert h2; simp <;> omega)
              have pm_112 := pm_111.on c_27 (by intro he; have h1 := pm_111.tag; have h2 := b_23.tag; rw [he] at h1; rw [h1] at h2; revert h2; simp <;> omega)
              have pm_113 := pm_112.on c_30 (by intro he; have h1 := pm_112.tag; have h2 := b_26.tag; rw [he] at h1; rw [h1] at h2; revert h2; simp <;> omega)
              have pm_114 := pm_113.on c_33 (by intro he; have h1 := pm_113.tag; have h2 := b_29.tag; rw [he] at h1; rw [h1] at h2; revert h2; simp <;> omega)
              have pm_115 := pm_114.ch c_40 (by simp)
              have pm_116 := pm_115.ch c_45 (by simp)
              have pm_117 := pm_116.ch c_47 (by simp)
              have pm_118 := pm_117.ch c_61 (by intro h; simp only [List.mem_cons, List.not_mem_nil, or_false] at h <;> omega)
              have pm_119 := pm_118.ch c_64 (by simp)
              have pm_120 := pm_119.ch c_68 (by simp)
              have P_121 := P_16.mv c_21 (tagn (by simp))
              have P_122 := P_121.mv c_24 (onn (by rw [b_20.tag]; omega))
              have P_123 := P_122.mv c_27 (onn (by rw [b_23.tag]; omega))
              have P_124 := P_123.mv c_30 (onn (by rw [b_26.tag]; omega))
              have P_125 := P_124.mv c_33 (onn (by rw [b_29.tag]; omega))
              have P_126 := P_125.mv c_40 (tagn (by simp))
              have P_127 := P_126.mv c_45 (tagn (by simp))
              have P_128 := P_127.mv c_47 (tagn (by simp))
              have P_129 := P_128.mv c_61 (tagn (by intro h; simp only [List.mem_cons, List.not_mem_nil, or_false] at h <;> omega))
              have P_130 := P_129.mv c_64 (tagn (by simp))
              have P_131 := P_130.mv c_68 (tagn (by simp))
              have hout : n219 ∉ C.l.map (·.blk) := (by have e : (C.put n219 (List.replicate 128 u)).l.map (·.blk) = C.l.map (·.blk) := updB_blk _ _ _ (fun _ => rfl); rw [e] at hsB6; exact hsB6)
              have hk4 := K_106
              rw [put_none hout] at hk4
              exact ⟨k + 1, C, pm, pb, by omega, by omega, hk4, D_109, pm_120, P_131, hbd, hT, by omega, by omega⟩
            ·
              first | omega | (simp only []; omega)
        ·
          have hhas : (fullDisk (nblk x0) (nblk x0)).has n219 := (full_has _ _ _).2 (by omega)
          have K_132 := K_13.mv c_21 (rngn (by simp <;> omega))
          have K_133 := K_132.mv c_24 (rngO (by rw [b_20.tag]; omega))
          have K_134 := K_133.mv c_27 (rngO (by rw [b_23.tag]; omega))
          have K_135 := K_134.mv c_30 (rngO (by rw [b_26.tag]; omega))
          have K_136 := K_135.mv c_33 (rngO (by rw [b_29.tag]; omega))
          have K_137 := K_136.mv c_40 (rngn (by simp <;> omega))
          have hlen := K_137.len
          obtain ⟨he0, hold⟩ := old_step (bs := (fullDisk (nblk x0) (nblk x0)).blocks) (b := n219) K_137.nd hT.pins hlen.1 hlen.2.1
          have hkc := K_137.ok.cnt
          have hkk := K_137.ok.clk
          have D_138 := D_39.mv c_40 (rngn (by simp <;> omega))
          refine tcall (c_Get c 50 d 10 C _ n219 0 _ (by omega) (by omega) (by omega) K_137 D_138 (full_at _ _ _) (by simp [fullDisk]) (by omega)) ?_
          rintro _ s258 ⟨ga, gn, gc, ge, rfl, c_139, hres⟩
          have z_140 := c_139.size
          rcases hres with ⟨h1, _⟩ | ⟨_, hge, hK2, hgb⟩
          · exact absurd hhas h1
          obtain ⟨rfl, hgo, hgl⟩ := hgb (hge.trans he0)
          have htell := hT.tells he0 hK2.nd
          have P_141 := P_16.mv c_21 (tagn (by simp))
          have P_142 := P_141.mv c_24 (onn (by rw [b_20.tag]; omega))
          have P_143 := P_142.mv c_27 (onn (by rw [b_23.tag]; omega))
          have P_144 := P_143.mv c_30 (onn (by rw [b_26.tag]; omega))
          have P_145 := P_144.mv c_33 (onn (by rw [b_29.tag]; omega))
          have P_146 := P_145.mv c_40 (tagn (by simp))
          have P_147 := P_146.mv c_139 (tagn (by intro h; simp only [List.mem_cons, List.not_mem_nil, or_false] at h <;> omega))
          have hP0 := P_147
          refine dT2 ?_
          refine dSl_i ?_
          refine dInt_i ?_
          rcases hpm : mget n219 pm with _ | pv
          ·
            have pm_148 := pm_15.ch c_21 (by simp)
            have pm_149 := pm_148.on c_24 (by intro he; have h1 := pm_148.tag; have h2 := b_20.tag; rw [he] at h1; rw [h1] at h2; revert h2; simp <;> omega)
            have pm_150 := pm_149.on c_27 (by intro he; have h1 := pm_149.tag; have h2 := b_23.tag; rw [he] at h1; rw [h1] at h2; revert h2; simp <;> omega)
            have pm_151 := pm_150.on c_30 (by intro he; have h1 := pm_150.tag; have h2 := b_26.tag; rw [he] at h1; rw [h1] at h2; revert h2; simp <;> omega)
            have pm_152 := pm_151.on c_33 (by intro he; have h1 := pm_151.tag; have h2 := b_29.tag; rw [he] at h1; rw [h1] at h2; revert h2; simp <;> omega)
            have pm_153 := pm_152.ch c_40 (by simp)
            have pm_154 := pm_153.ch c_139 (by intro h; simp only [List.mem_cons, List.not_mem_nil, or_false] at h <;> omega)
            refine look_okn keyI u59 z48 pm_154 n219 hpm ?_
            refine dT2 ?_
            refine dSl_i ?_
            refine dBl_i ?_
            refine jn_u ?_
            refine sB_t (by rfl) ?_
            obtain ⟨ll, hll⟩ := full_at _ _ _ hhas
            have D_155 := D_138.mv c_139 (rngn (by simp <;> omega))
            refine tcall (c_dread d 10 0 _ n219 _ (by omega) D_155 hhas hll (by simp [fullDisk])) ?_
            rintro _ s355 ⟨wa, wc, rfl, c_156, w_158⟩
            have z_157 := c_156.size
            refine dT2 ?_
            refine dSl_i ?_
            refine dInt_i ?_
            intro _ _ _ _ _ _ _ _
            refine dSl_i ?_
            refine jn_u ?_
            refine sB_f (by rw [hge.trans he0]; rfl) ?_
            have g_159 := hgo.mv c_156 (tagn (by simp))
            refine tcall (c_beq _ _ g_159.sl hgl (fun h => g_159.none_iff h) w_158.sl (by have := w_158.len; rw [bvs_len] at this; omega) (fun h => w_158.none_iff h)) ?_
            rintro _ s349 ⟨rfl, c_160⟩
            have z_161 := c_160.size
            refine dBl_i ?_
            intro _ _ _ _ _ _ _
            refine dBl_i ?_
            refine sB_f (by rw [decide_eq_true (by rw [htell, if_neg (fun h => by obtain ⟨v, hv⟩ := mget_isSome h; rw [hpm] at hv; cases hv), hll]; rfl)]; rfl) ?_
            have pm_162 := pm_154.ch c_156 (by simp)
            have pm_163 := pm_162.ch c_160 (by simp)
            refine range_t 72 u59 pm_163 iinj fun s301 q hq it_166 c_164 => ?_
            have z_165 := c_164.size
            refine ⟨fun vs H' => ∃ s' : TH, s'.h = H' ∧ vs = [] ∧ ChL [70, 72] [] s301 s' ∧ (∃ (vis : List Int) (pm2 : List (Int × Value)), ItK (Value.int .i64) s' q r25 pm2 vis 70 72 ∧ pm2.Sublist pm ∧ (∀ j ∈ vis, j ∈ pm2.map (·.1) → j ∈ (C.get (fullDisk (nblk x0) (nblk x0)).blocks n219).1.l.map (·.blk)) ∧ (∀ j ∈ pm.map (·.1), j ∈ (C.get (fullDisk (nblk x0) (nblk x0)).blocks n219).1.l.map (·.blk) → j ∈ pm2.map (·.1))), fun vs H' => match vs with | [] => leftH H' q r25 | _ => 0, ⟨s301, rfl, rfl, ChL.refl _ _ _, ?_⟩, ?_⟩
            ·
              exact ⟨[], pm, it_166, List.Sublist.refl _, (fun j hj => (List.not_mem_nil hj).elim), fun j hj _ => hj⟩
            ·
              intro  _ _ _ _ _ _ _ _ _ _ _ _ H316 hI
              obtain ⟨s316, rfl, hvs, c_167, vis, pm2, it_169, hsub, hc1, hc2⟩ := hI
              cases hvs
              have z_168 := c_167.size
              have hit0 := it_169
              refine next_t it_169 iinj (fun s321 p pv2 hmp hvp it_170 c_1710 z_172 => ?_) (fun hallp => ?_)
              ·
                refine dNx_t ?_
                have c_171 : Ch [72] s316 s321 := Chg.mono c_1710 (fun j hj e => by subst e; rw [it_169.tagq]; simp)
                refine entry_t it_170 hmp iinj ?_
                refine dT2 ?_
                refine dInt_i ?_
                have K_173 := hK2.mv c_156 (rngn (by simp <;> omega))
                have K_174 := K_173.mv c_160 (rngn (by simp <;> omega))
                have K_175 := K_174.mv c_164 (rngn (by simp <;> omega))
                have K_176 := K_175.mv c_167 (rngL (by simp <;> omega) (by simp))
                have K_177 := K_176.mv c_171 (rngn (by simp <;> omega))
                refine tcall (c_held c 50 d _ 0 _ (by omega) K_177) ?_
                rintro _ s332 ⟨ha, hc', rfl, c_178, h_180⟩
                have z_179 := c_178.size
                refine dSl_i ?_
                have K_181 := K_177.mv c_178 (rngn (by simp <;> omega))
                refine tcall (c_ctInt _ p h_180.sl (by rw [List.length_map]) (by have := K_181.len; omega)) ?_
                rintro _ s337 ⟨rfl, c_182⟩
                have z_183 := c_182.size
                refine dBl_i ?_
                first | refine sB_d (fun hsB10 => ?_) (fun hsB10 => ?_) | refine sB_nd (fun hsB10 => ?_) (fun hsB10 => ?_) | refine sB_n (fun hsB10 => ?_) (fun hsB10 => ?_) | refine sB_i (fun hsB10 => ?_) (fun hsB10 => ?_)
                ·
                  have it_184 := it_170.ch c_178 (by simp) (by simp)
                  have it_185 := it_184.ch c_182 (by simp) (by simp)
                  refine del_it keyI u59 it_185 hit0.ne p fun s342 it_188 c_186 hsz => ?_
                  have z_187 := c_186.size
                  refine ⟨⟨s342, rfl, rfl, ((((((ChL.refl [70, 72] [] s301).chl c_167 (by simp) (by simp <;> omega)).ch c_171 (by simp)).ch c_178 (by simp)).ch c_182 (by simp)).on_tag c_186 it_185.tag (by simp)), ?_⟩, ?_⟩
                  ·
                    first | exact ⟨vis ++ [p], mdel p pm2, it_188, (mdel_sub p pm2).trans hsub, (fun j hj hjm => by
                      rw [keys_del hit0.nd] at hjm
                      rcases List.mem_append.1 hj with h | h
                      · exact hc1 j h hjm.2
                      · exact absurd (List.mem_singleton.1 h) hjm.1), fun j hj hjc => by
                      rw [keys_del hit0.nd]
                      exact ⟨fun e => hsB10 (e ▸ hjc), hc2 j hj hjc⟩⟩ | exact ⟨vis ++ [p], pm2, it_188, hsub, (fun j hj hjm => by
                      rcases List.mem_append.1 hj with h | h
                      · exact hc1 j h hjm
                      · rw [List.mem_singleton.1 h]; exact hsB10), hc2⟩
                  ·
                    first | exact it_less iinj hit0 it_188 hmp hvp (mdel_sub _ _) | exact it_less iinj hit0 it_188 hmp hvp (List.Sublist.refl _)
                ·
                  refine ⟨⟨s337, rfl, rfl, (((((ChL.refl [70, 72] [] s301).chl c_167 (by simp) (by simp <;> omega)).ch c_171 (by simp)).ch c_178 (by simp)).ch c_182 (by simp)), ?_⟩, ?_⟩
                  ·
                    have it_189 := it_170.ch c_178 (by simp) (by simp)
                    have it_190 := it_189.ch c_182 (by simp) (by simp)
                    first | exact ⟨vis ++ [p], mdel p pm2, it_190, (mdel_sub p pm2).trans hsub, (fun j hj hjm => by
                      rw [keys_del hit0.nd] at hjm
                      rcases List.mem_append.1 hj with h | h
                      · exact hc1 j h hjm.2
                      · exact absurd (List.mem_singleton.1 h) hjm.1), fun j hj hjc => by
                      rw [keys_del hit0.nd]
                      exact ⟨fun e => hsB10 (e ▸ hjc), hc2 j hj hjc⟩⟩ | exact ⟨vis ++ [p], pm2, it_190, hsub, (fun j hj hjm => by
                      rcases List.mem_append.1 hj with h | h
                      · exact hc1 j h hjm
                      · rw [List.mem_singleton.1 h]; exact hsB10), hc2⟩
                  ·
                    have it_191 := it_170.ch c_178 (by simp) (by simp)
                    have it_192 := it_191.ch c_182 (by simp) (by simp)
                    first | exact it_less iinj hit0 it_192 hmp hvp (mdel_sub _ _) | exact it_less iinj hit0 it_192 hmp hvp (List.Sublist.refl _)
              ·
                refine dNx_f ?_
                intro _ _ _ _ _ _ _ _ _ _ _ _ _ _ _ _ _ _ _ _ _ _ _ _ _ _ _ _ _ _ _ _ _ _ _ _ _ _ _ _ _ _ _ _ _ _ _ _ _ _ _ _ _ _ _ _ _ _ _ _ _ _ _ _ _ _ _ _ _ _ _ _ _ _ _ _ _ _ _ _ _
                refine wr_t (by omega) ?_
                refine ⟨⟨s316, rfl, _, rfl, (((((((((((((ChL.refl [10, 11, 12, 13, 14, 30, 31, 32, 33, 34, 50, 51, 52, 53, 70, 72] [r25] s26).chl c_11 (by simp) (by simp <;> omega)).ch c_21 (by simp)).on_new c_24 (by omega)).on_new c_27 (by omega)).on_new c_30 (by omega)).on_new c_33 (by omega)).ch c_40 (by simp)).ch c_139 (by simp)).ch c_156 (by simp)).ch c_160 (by simp)).ch c_164 (by simp)).chl c_167 (by simp) (by simp <;> omega)), ?_⟩, ?_⟩
                ·
                  have K_193 := hK2.mv c_156 (rngn (by simp <;> omega))
                  have K_194 := K_193.mv c_160 (rngn (by simp <;> omega))
                  have K_195 := K_194.mv c_164 (rngn (by simp <;> omega))
                  have K_196 := K_195.mv c_167 (rngL (by simp <;> omega) (by simp))
                  have D_197 := D_155.mv c_156 (rngn (by simp <;> omega))
                  have D_198 := D_197.mv c_160 (rngn (by simp <;> omega))
                  have D_199 := D_198.mv c_164 (rngn (by simp <;> omega))
                  have D_200 := D_199.mv c_167 (rngL (by simp <;> omega) (by simp))
                  have P_201 := P_147.mv c_156 (tagn (by simp))
                  have P_202 := P_201.mv c_160 (tagn (by simp))
                  have P_203 := P_202.mv c_164 (tagn (by simp))
                  have P_204 := P_203.mv c_167 (tagL (by simp <;> omega) (by simp))
                  exact ⟨k + 1, (C.get (fullDisk (nblk x0) (nblk x0)).blocks n219).1, pm2, pb, by omega, by omega, K_196, D_200, it_169.map, P_204.sub hsub, hold.bound.trans hbd, hT.get (fun j hj => ⟨(hsub.map _).subset hj, hc1 j (hallp j hj) hj⟩) hc2, by have := hold.cnt; omega, by have := hold.clk; omega⟩
                ·
                  first | omega | (simp only []; omega)
          ·
            obtain ⟨wa0, wc0, rfl, hby⟩ := hP0.at_ _ _ (mem_of_mget hpm)
            have pm_205 := pm_15.ch c_21 (by simp)
            have pm_206 := pm_205.on c_24 (by intro he; have h1 := pm_205.tag; have h2 := b_20.tag; rw [he] at h1; rw [h1] at h2; revert h2; simp <;> omega)
            have pm_207 := pm_206.on c_27 (by intro he; have h1 := pm_206.tag; have h2 := b_23.tag; rw [he] at h1; rw [h1] at h2; revert h2; simp <;> omega)
            have pm_208 := pm_207.on c_30 (by intro he; have h1 := pm_207.tag; have h2 := b_26.tag; rw [he] at h1; rw [h1] at h2; revert h2; simp <;> omega)
            have pm_209 := pm_208.on c_33 (by intro he; have h1 := pm_208.tag; have h2 := b_29.tag; rw [he] at h1; rw [h1] at h2; revert h2; simp <;> omega)
            have pm_210 := pm_209.ch c_40 (by simp)
            have pm_211 := pm_210.ch c_139 (by intro h; simp only [List.mem_cons, List.not_mem_nil, or_false] at h <;> omega)
            refine look_oks keyI u59 z48 pm_211 n219 hpm ?_
            refine dT2 ?_
            refine dSl_i ?_
            refine dBl_i ?_
            refine jn_u ?_
            refine sB_f (by rfl) ?_
            intro _ _ _ _ _ _ _ _
            refine dSl_i ?_
            refine jn_u ?_
            refine sB_f (by rw [hge.trans he0]; rfl) ?_
            refine tcall (c_beq _ _ hgo.sl hgl (fun h => hgo.none_iff h) hby.sl hby.len (fun h => by cases h)) ?_
            rintro _ s349 ⟨rfl, c_212⟩
            have z_213 := c_212.size
            refine dBl_i ?_
            intro _ _ _ _ _ _ _
            refine dBl_i ?_
            refine sB_f (by rw [decide_eq_true (by rw [htell, if_pos (mget_mem hpm)])]; rfl) ?_
            have pm_214 := pm_211.ch c_212 (by simp)
            refine range_t 72 u59 pm_214 iinj fun s301 q hq it_217 c_215 => ?_
            have z_216 := c_215.size
            refine ⟨fun vs H' => ∃ s' : TH, s'.h = H' ∧ vs = [] ∧ ChL [70, 72] [] s301 s' ∧ (∃ (vis : List Int) (pm2 : List (Int × Value)), ItK (Value.int .i64) s' q r25 pm2 vis 70 72 ∧ pm2.Sublist pm ∧ (∀ j ∈ vis, j ∈ pm2.map (·.1) → j ∈ (C.get (fullDisk (nblk x0) (nblk x0)).blocks n219).1.l.map (·.blk)) ∧ (∀ j ∈ pm.map (·.1), j ∈ (C.get (fullDisk (nblk x0) (nblk x0)).blocks n219).1.l.map (·.blk) → j ∈ pm2.map (·.1))), fun vs H' => match vs with | [] => leftH H' q r25 | _ => 0, ⟨s301, rfl, rfl, ChL.refl _ _ _, ?_⟩, ?_⟩
            ·
              exact ⟨[], pm, it_217, List.Sublist.refl _, (fun j hj => (List.not_mem_nil hj).elim), fun j hj _ => hj⟩
            ·
              intro  _ _ _ _ _ _ _ _ _ _ _ _ H316 hI
              obtain ⟨s316, rfl, hvs, c_218, vis, pm2, it_220, hsub, hc1, hc2⟩ := hI
              cases hvs
              have z_219 := c_218.size
              have hit0 := it_220
              refine next_t it_220 iinj (fun s321 p pv2 hmp hvp it_221 c_2220 z_223 => ?_) (fun hallp => ?_)
              ·
                refine dNx_t ?_
                have c_222 : Ch [72] s316 s321 := Chg.mono c_2220 (fun j hj e => by subst e; rw [it_220.tagq]; simp)
                refine entry_t it_221 hmp iinj ?_
                refine dT2 ?_
                refine dInt_i ?_
                have K_224 := hK2.mv c_212 (rngn (by simp <;> omega))
                have K_225 := K_224.mv c_215 (rngn (by simp <;> omega))
                have K_226 := K_225.mv c_218 (rngL (by simp <;> omega) (by simp))
                have K_227 := K_226.mv c_222 (rngn (by simp <;> omega))
                refine tcall (c_held c 50 d _ 0 _ (by omega) K_227) ?_
                rintro _ s332 ⟨ha, hc', rfl, c_228, h_230⟩
                have z_229 := c_228.size
                refine dSl_i ?_
                have K_231 := K_227.mv c_228 (rngn (by simp <;> omega))
                refine tcall (c_ctInt _ p h_230.sl (by rw [List.length_map]) (by have := K_231.len; omega)) ?_
                rintro _ s337 ⟨rfl, c_232⟩
                have z_233 := c_232.size
                refine dBl_i ?_
                first | refine sB_d (fun hsB14 => ?_) (fun hsB14 => ?_) | refine sB_nd (fun hsB14 => ?_) (fun hsB14 => ?_) | refine sB_n (fun hsB14 => ?_) (fun hsB14 => ?_) | refine sB_i (fun hsB14 => ?_) (fun hsB14 => ?_)
                ·
                  have it_234 := it_221.ch c_228 (by simp) (by simp)
                  have it_235 := it_234.ch c_232 (by simp) (by simp)
                  refine del_it keyI u59 it_235 hit0.ne p fun s342 it_238 c_236 hsz => ?_
                  have z_237 := c_236.size
                  refine ⟨⟨s342, rfl, rfl, ((((((ChL.refl [70, 72] [] s301).chl c_218 (by simp) (by simp <;> omega)).ch c_222 (by simp)).ch c_228 (by simp)).ch c_232 (by simp)).on_tag c_236 it_235.tag (by simp)), ?_⟩, ?_⟩
                  ·
                    first | exact ⟨vis ++ [p], mdel p pm2, it_238, (mdel_sub p pm2).trans hsub, (fun j hj hjm => by
                      rw [keys_del hit0.nd] at hjm
                      rcases List.mem_append.1 hj with h | h
                      · exact hc1 j h hjm.2
                      · exact absurd (List.mem_singleton.1 h) hjm.1), fun j hj hjc => by
                      rw [keys_del hit0.nd]
                      exact ⟨fun e => hsB14 (e ▸ hjc), hc2 j hj hjc⟩⟩ | exact ⟨vis ++ [p], pm2, it_238, hsub, (fun j hj hjm => by
                      rcases List.mem_append.1 hj with h | h
                      · exact hc1 j h hjm
                      · rw [List.mem_singleton.1 h]; exact hsB14), hc2⟩
                  ·
                    first | exact it_less iinj hit0 it_238 hmp hvp (mdel_sub _ _) | exact it_less iinj hit0 it_238 hmp hvp (List.Sublist.refl _)
                ·
                  refine ⟨⟨s337, rfl, rfl, (((((ChL.refl [70, 72] [] s301).chl c_218 (by simp) (by simp <;> omega)).ch c_222 (by simp)).ch c_228 (by simp)).ch c_232 (by simp)), ?_⟩, ?_⟩
                  ·
                    have it_239 := it_221.ch c_228 (by simp) (by simp)
                    have it_240 := it_239.ch c_232 (by simp) (by simp)
                    first | exact ⟨vis ++ [p], mdel p pm2, it_240, (mdel_sub p pm2).trans hsub, (fun j hj hjm => by
                      rw [keys_del hit0.nd] at hjm
                      rcases List.mem_append.1 hj with h | h
                      · exact hc1 j h hjm.2
                      · exact absurd (List.mem_singleton.1 h) hjm.1), fun j hj hjc => by
                      rw [keys_del hit0.nd]
                      exact ⟨fun e => hsB14 (e ▸ hjc), hc2 j hj hjc⟩⟩ | exact ⟨vis ++ [p], pm2, it_240, hsub, (fun j hj hjm => by
                      rcases List.mem_append.1 hj with h | h
                      · exact hc1 j h hjm
                      · rw [List.mem_singleton.1 h]; exact hsB14), hc2⟩
                  ·
                    have it_241 := it_221.ch c_228 (by simp) (by simp)
                    have it_242 := it_241.ch c_232 (by simp) (by simp)
                    first | exact it_less iinj hit0 it_242 hmp hvp (mdel_sub _ _) | exact it_less iinj hit0 it_242 hmp hvp (List.Sublist.refl _)
              ·
                refine dNx_f ?_
                intro _ _ _ _ _ _ _ _ _ _ _ _ _ _ _ _ _ _ _ _ _ _ _ _ _ _ _ _ _ _ _ _ _ _ _ _ _ _ _ _ _ _ _ _ _ _ _ _ _ _ _ _ _ _ _ _ _ _ _ _ _ _ _ _ _ _ _ _ _ _ _ _ _ _ _ _ _ _ _ _ _
                refine wr_t (by omega) ?_
                refine ⟨⟨s316, rfl, _, rfl, ((((((((((((ChL.refl [10, 11, 12, 13, 14, 30, 31, 32, 33, 34, 50, 51, 52, 53, 70, 72] [r25] s26).chl c_11 (by simp) (by simp <;> omega)).ch c_21 (by simp)).on_new c_24 (by omega)).on_new c_27 (by omega)).on_new c_30 (by omega)).on_new c_33 (by omega)).ch c_40 (by simp)).ch c_139 (by simp)).ch c_212 (by simp)).ch c_215 (by simp)).chl c_218 (by simp) (by simp <;> omega)), ?_⟩, ?_⟩
                ·
                  have K_243 := hK2.mv c_212 (rngn (by simp <;> omega))
                  have K_244 := K_243.mv c_215 (rngn (by simp <;> omega))
                  have K_245 := K_244.mv c_218 (rngL (by simp <;> omega) (by simp))
                  have D_246 := D_138.mv c_139 (rngn (by simp <;> omega))
                  have D_247 := D_246.mv c_212 (rngn (by simp <;> omega))
                  have D_248 := D_247.mv c_215 (rngn (by simp <;> omega))
                  have D_249 := D_248.mv c_218 (rngL (by simp <;> omega) (by simp))
                  have P_250 := P_147.mv c_212 (tagn (by simp))
                  have P_251 := P_250.mv c_215 (tagn (by simp))
                  have P_252 := P_251.mv c_218 (tagL (by simp <;> omega) (by simp))
                  exact ⟨k + 1, (C.get (fullDisk (nblk x0) (nblk x0)).blocks n219).1, pm2, pb, by omega, by omega, K_245, D_249, it_220.map, P_252.sub hsub, hold.bound.trans hbd, hT.get (fun j hj => ⟨(hsub.map _).subset hj, hc1 j (hallp j hj) hj⟩) hc2, by have := hold.cnt; omega, by have := hold.clk; omega⟩
                ·
                  first | omega | (simp only []; omega)
    ·
      refine tcall (c_held c 50 d _ 0 _ (by omega) K_13) ?_
      rintro _ s369 ⟨ha, hc', rfl, c_253, h_255⟩
      have z_254 := c_253.size
      refine dSl_i ?_
      refine ret_t ?_
      have K_256 := K_13.mv c_253 (rngn (by simp <;> omega))
      exact ⟨ret_b (decide_eq_true (by have := K_256.len; omega)), (((((Ch.refl [10, 11, 12, 13, 14, 30, 31, 32, 33, 34, 50, 51, 52, 53, 70, 72] s).ch c_1 (by simp)).ch c_7 (by simp)).chl c_11 (by simp) (by simp <;> omega)).ch c_253 (by simp))⟩

end Go.Proofs.Ytmgjdmohmhaemaa.E
