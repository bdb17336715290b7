/- Contracts of functions. -/
import Derived.Test.YtmgjdmohmhaemaaProg
import Derived.KernelRfl
import Derived.Test.YtmgjdmohmhaemaaLib2
import Derived.Test.YtmgjdmohmhaemaaCp
namespace Go.Proofs.Ytmgjdmohmhaemaa.E
open Go Go.Proofs Go.RowKit Go.Maps Go.Shelf Go.Sort
set_option linter.unusedVariables false

theorem get_hit {C : CacheM} {bs : List (List UInt8)} {b : Int} {x : BufM} (h : C.find b = some x) : C.get bs b = ({ C with l := rmB C.l b ++ [{ x with used := C.clock + 1 }], clock := C.clock + 1, hits := C.hits + 1 }, 0) := by unfold CacheM.get; rw [h]
theorem get_full {C : CacheM} {bs : List (List UInt8)} {b : Int} (h : C.find b = none) (hr : C.room = none) : C.get bs b = ({ C with misses := C.misses + 1 }, 60) := by unfold CacheM.get; rw [h]; simp only; rw [hr]
theorem get_load {C : CacheM} {bs : List (List UInt8)} {b : Int} {l : List BufM} {y : List UInt8} (h : C.find b = none) (hr : C.room = some l) (hy : bs[b.toNat]? = some y) : C.get bs b = ({ C with l := l ++ [⟨b, y, 0, C.clock + 1⟩], clock := C.clock + 1, misses := C.misses + 1 }, 0) := by unfold CacheM.get; rw [h]; simp only; rw [hr, hy]; rfl
theorem room_mem {C : CacheM} {l : List BufM} (h : C.room = some l) : l.Sublist C.l := by
  unfold CacheM.room at h
  split at h
  · cases h; exact List.Sublist.refl _
  · cases hf : freeB C.l with
    | none => rw [hf] at h; cases h
    | some v => rw [hf] at h; cases h; exact rmB_sub _ _
theorem COk.push {C C' : CacheM} (ok : COk C) {l1 : List BufM} (hs : l1.Sublist C.l) {x : BufM} (hx : x.used = C.clock + 1) (hl : C'.l = l1 ++ [x]) (hk : C'.clock = C.clock + 1) (hb : C.clock + 1 ≤ 9223372036854775807) (hc : 0 ≤ C'.hits ∧ C'.hits ≤ 9223372036854775807 ∧ 0 ≤ C'.misses ∧ C'.misses ≤ 9223372036854775807) (hp : 0 ≤ x.pins ∧ x.pins ≤ 100) : COk C' := by
  have h0 := ok.clk
  refine ⟨?_, fun y hy => ?_, by omega, hc, fun y hy => ?_⟩
  · rw [hl, List.pairwise_append]
    refine ⟨ok.srt.sublist hs, List.pairwise_singleton _ _, fun a ha z hz => ?_⟩
    rw [List.mem_singleton] at hz; subst hz
    have := ok.rng a (hs.subset ha); omega
  · rw [hl, List.mem_append] at hy
    rcases hy with hy | hy
    · have := ok.rng y (hs.subset hy); omega
    · rw [List.mem_singleton] at hy; subst hy; omega
  · rw [hl, List.mem_append] at hy
    rcases hy with hy | hy
    · exact ok.pin y (hs.subset hy)
    · rw [List.mem_singleton] at hy; subst hy; exact hp
theorem Bufs.one {s2 s3 : TH} {τ : Nat} {l l' : List BufM} {bp : Int → Nat} {bh bh' : Int → Hd} {b pins used : Int} (h : Bufs s2 τ l bp bh) (hon : On (bp b) s2 s3) (hb : Blk s3 (bp b) (bufv (bh' b) pins used) 120 τ)
    (hl : ∀ y ∈ l', (y ∈ l ∧ bp y.blk ≠ bp b ∧ bh' y.blk = bh y.blk) ∨ (y.blk = b ∧ y.pins = pins ∧ y.used = used)) : Bufs s3 τ l' bp bh' :=
  ⟨fun y hy => by
    rcases hl y hy with ⟨h1, h2, h3⟩ | ⟨h1, h2, h3⟩
    · rw [h3]; exact (h.at_ y h1).on hon h2
    · rw [h1, h2, h3]; exact hb⟩
theorem MapOf.pne {m : List (Int × Value)} {l : List BufM} {bp : Int → Nat} (h : MapOf m l bp) {x y : BufM} (hx : x ∈ l) (hy : y ∈ l) (hn : y.blk ≠ x.blk) : bp y.blk ≠ bp x.blk := fun e => hn (h.inj y hy x hx e)
/-- a buffer that was used goes behind all others -/
theorem touch_keys {l : List BufM} (hn : (l.map (·.blk)).Nodup) {x : BufM} (hx : x ∈ l) (u : Int) : ((rmB l x.blk ++ [{ x with used := u }] : List BufM).map (·.blk)).Perm (l.map (·.blk)) := by
  rw [List.map_append, rmB_keys hn]
  have h : (l.map (·.blk)).Perm (x.blk :: (l.map (·.blk)).erase x.blk) := List.perm_cons_erase (List.mem_map.2 ⟨x, hx, rfl⟩)
  exact (List.perm_append_comm).trans h.symm
theorem rmB_add {l : List BufM} {x : BufM} (h : x.blk ∉ l.map (·.blk)) : rmB (l ++ [x]) x.blk = l := by
  unfold rmB
  rw [List.filter_append]
  simp only [List.filter_cons, beq_self_eq_true, Bool.not_true, Bool.false_eq_true, if_false, List.filter_nil, List.append_nil]
  rw [List.filter_eq_self]
  intro y hy
  have : y.blk ≠ x.blk := fun e => h (e ▸ List.mem_map.2 ⟨y, hy, rfl⟩)
  simpa using this
theorem touchP {s2 s3 : TH} {c T d r : Nat} {C1 C2 : CacheM} {m : List (Int × Value)} {bp : Int → Nat} {bh : Int → Hd} {x : BufM} {u : Int} (hblk : Blk s3 c [.pointer (some ⟨d, 0, none⟩), .int .i64 C2.bound, .map (some r), .int .i64 C2.clock, .int .i64 C2.hits, .int .i64 C2.misses] 71 T)
    (hmap : MapK (Value.int .i64) s3 r m (T + 1)) (hbu : Bufs s2 (T + 2) C1.l bp bh) (hy : BufY s3 (T + 3) C1.l bh) (mo : MapOf m C1.l bp) (hx : x ∈ C1.l) (hon : On (bp x.blk) s2 s3) (hb : Blk s3 (bp x.blk) (bufv (bh x.blk) x.pins u) 120 (T + 2))
    (hl : C2.l = rmB C1.l x.blk ++ [{ x with used := u }]) (bnd : 1 ≤ C2.bound ∧ C2.bound ≤ 64) (len : (C1.l.length : Int) ≤ C2.bound) : CacheP s3 c T d C2 r m bp bh := by
  have hp := touch_keys mo.nd hx u
  refine ⟨hblk, hmap, hbu.one hon hb fun y hy' => ?_, ⟨fun y hy' => ?_⟩, by rw [hl]; exact mo.again hp, bnd, by rw [hl]; have := hp.length_eq; simp only [List.length_map] at this; omega⟩
  · rw [hl, List.mem_append] at hy'
    rcases hy' with h | h
    · exact .inl ⟨(rmB_mem.1 h).1, mo.pne hx (rmB_mem.1 h).1 (rmB_mem.1 h).2, rfl⟩
    · rw [List.mem_singleton] at h; subst h; exact .inr ⟨rfl, rfl, rfl⟩
  · rw [hl, List.mem_append] at hy'
    rcases hy' with h | h
    · exact hy.at_ y (rmB_mem.1 h).1
    · rw [List.mem_singleton] at h; subst h; exact hy.at_ x hx

/-- (*bollard/cache.Cache).get -/
theorem c_get (c T d Td : Nat) (C : CacheM) (D : DiskM) (b : Int) (s : TH) (hT : 10 ≤ T) (hTd : 10 ≤ Td) (hTT : T + 10 ≤ Td ∨ Td + 10 ≤ T) (hc : Cache s c T d C) (hd : Disk s d Td D) (hl : D.has b → ∃ l, D.blocks[b.toNat]? = some l) (hf : D.fails b ≤ 0) (hk : C.clock < 9223372036854775807 ∧ C.hits < 9223372036854775807 ∧ C.misses < 9223372036854775807) : TRet Try.prog 64 #[.pointer (some ⟨c, 0, none⟩), .int .i64 b] s fun v s' => ∃ q e, v = .tuple #[.pointer q, .int .i64 e] ∧ Ch [T, T + 1, T + 2, T + 3] s s' ∧ ((¬ D.has b ∧ e = 1 ∧ Cache s' c T d C) ∨ (D.has b ∧ e = (C.get D.blocks b).2 ∧ Cache s' c T d (C.get D.blocks b).1 ∧ (e = 0 → ∃ r m bp bh, ∃ x : BufM, CacheP s' c T d (C.get D.blocks b).1 r m bp bh ∧ q = some ⟨bp b, 0, none⟩ ∧ x ∈ (C.get D.blocks b).1.l ∧ x.blk = b))) := by
  obtain ⟨⟨r, m, bp, bh, hP⟩, ok⟩ := id hc
  have hcb := hP.blk
  have hcm := hP.map
  have hbu := hP.bufs
  have hby := hP.bufy
  refine F64_calls _ _  ?_
  unfold F64
  refine tcall (c_clook c T d Td C D b _ hT hTd hTT hc hd) ?_
  rintro _ s2 ⟨rfl, c_1⟩
  have z_2 := c_1.size
  refine dInt_i ?_
  refine sB_ne (fun hsB1 => ?_) (fun hsB1 => ?_)
  ·
    refine ret_t ?_
    have c_3 := hc.mv c_1 (rngn (by simp <;> omega))
    have hn : ¬ D.has b := fun h => hsB1 (if_pos h)
    exact ⟨_, _, rfl, ((Ch.refl [T, T + 1, T + 2, T + 3] s).ch c_1 (by simp)), .inl ⟨hn, if_neg hn, c_3⟩⟩
  ·
    have hh : D.has b := by
      by_cases h : D.has b
      · exact h
      · rw [if_neg h] at hsB1; cases hsB1
    refine nz_i ?_
    have cb_4 := hcb.ch c_1 (by simp)
    first | refine ld_t cb_4 rfl ?_
    refine dMap_i ?_
    rcases hfd : C.find b with _ | x
    ·
      have cm_5 := hcm.ch c_1 (by simp)
      refine look_okn keyI u69 z115 cm_5 b (hP.mo.get_none hfd) ?_
      refine dT2 ?_
      refine dPtr_i ?_
      refine dBl_i ?_
      refine jn_u ?_
      refine sB_f (by rfl) ?_
      refine nz_i ?_
      first | refine ld_t cb_4 rfl ?_
      refine dInt_i ?_
      refine wr_t (by have := ok.cnt; have := ok.clk; omega) ?_
      refine nz_i ?_
      refine st_t cb_4 rfl (by simp) fun s70 b_6 c_7 z_8 => ?_
      obtain ⟨l0, hl0⟩ := hl hh
      have cm_9 := cm_5.on c_7 (by intro he; have h1 := cm_5.tag; have h2 := cb_4.tag; rw [he] at h1; rw [h1] at h2; revert h2; simp <;> omega)
      have bu_10 := hbu.mv c_1 (tagn (by simp))
      have bu_11 := bu_10.mv c_7 (onn (by rw [cb_4.tag]; omega))
      have by_12 := hby.mv c_1 (tagn (by simp))
      have by_13 := by_12.mv c_7 (onn (by rw [cb_4.tag]; omega))
      have hC1 : Cache s70 c T d { C with misses := C.misses + 1 } := ⟨⟨r, m, bp, bh, ⟨b_6, cm_9, bu_11, by_13, hP.mo, hP.bnd, hP.len⟩⟩, ⟨ok.srt, ok.rng, ok.clk, ⟨ok.cnt.1, ok.cnt.2.1, by have := ok.cnt; simp only; omega, by simp only; omega⟩, ok.pin⟩⟩
      have D_14 := hd.mv c_1 (rngn (by simp <;> omega))
      have D_15 := D_14.mv c_7 (rngO (by rw [cb_4.tag]; omega))
      refine tcall (c_load c T d Td _ D b _ hT hTd hTT hC1 D_15 hh hl0 hf hfd) ?_
      rintro _ s72 ⟨q, e, rfl, c_16, hres⟩
      have z_17 := c_16.size
      refine dT2 ?_
      refine dPtr_i ?_
      refine dInt_i ?_
      refine sB_ne (fun hsB3 => ?_) (fun hsB3 => ?_)
      ·
        refine ret_t ?_
        rcases hres with ⟨rfl, hr, rfl, hC2⟩ | ⟨h1, _⟩
        · rw [get_full hfd hr]; exact ⟨_, _, rfl, ((((Ch.refl [T, T + 1, T + 2, T + 3] s).ch c_1 (by simp)).on_tag c_7 cb_4.tag (by simp)).ch c_16 (by simp)), .inr ⟨hh, rfl, hC2, fun h => by cases h⟩⟩
        · exact absurd h1 hsB3
      ·
        intro _ _ _ _ _ _ _ _ _ _ _ _ _ _ _ _ _ _ _ _ _ _ _ _ _ _ _ _ _
        refine dPtr_i ?_
        rcases hres with ⟨h1, _⟩ | ⟨_, l2, r2, m2, bp2, bh2, hr, rfl, hP2⟩
        · rw [h1] at hsB3; cases hsB3
        have hcb2 : Blk s72 c [.pointer (some ⟨d, 0, none⟩), .int .i64 C.bound, .map (some r2), .int .i64 C.clock, .int .i64 C.hits, .int .i64 (C.misses + 1)] 71 T := hP2.blk
        have hcm2 := hP2.map
        have hbu2 := hP2.bufs
        have hby2 := hP2.bufy
        have hxm : (⟨b, l0, 0, 0⟩ : BufM) ∈ l2 ++ [⟨b, l0, 0, 0⟩] := by simp
        refine nz_i ?_
        first | refine ld_t hcb2 rfl ?_
        refine dInt_i ?_
        refine wr_t (by have := ok.cnt; have := ok.clk; omega) ?_
        refine nz_i ?_
        refine st_t hcb2 rfl (by simp) fun s52 b_18 c_19 z_20 => ?_
        refine nz_i ?_
        first | refine ld_t b_18 rfl ?_
        refine dInt_i ?_
        have bu_21 := hbu2.mv c_19 (onn (by rw [hcb2.tag]; omega))
        have hxb := (bu_21).at_ _ hxm
        have hbu3 := bu_21
        refine nz_i ?_
        refine st_t hxb rfl (by simp [bufv]) fun s57 b_22 c_23 z_24 => ?_
        refine ret_t ?_
        have cb_25 := b_18.on c_23 (by intro he; have h1 := b_18.tag; have h2 := hxb.tag; rw [he] at h1; rw [h1] at h2; revert h2; simp <;> omega)
        have cm_26 := hcm2.on c_19 (by intro he; have h1 := hcm2.tag; have h2 := hcb2.tag; rw [he] at h1; rw [h1] at h2; revert h2; simp <;> omega)
        have cm_27 := cm_26.on c_23 (by intro he; have h1 := cm_26.tag; have h2 := hxb.tag; rw [he] at h1; rw [h1] at h2; revert h2; simp <;> omega)
        have by_28 := hby2.mv c_19 (onn (by rw [hcb2.tag]; omega))
        have by_29 := by_28.mv c_23 (onn (by rw [hxb.tag]; omega))
        have hnb : b ∉ l2.map (·.blk) := fun h => find_nmem hfd (((room_mem hr).map _).subset h)
        rw [get_load hfd hr hl0]
        have hPP : CacheP s57 c T d { C with l := l2 ++ [⟨b, l0, 0, C.clock + 1⟩], clock := C.clock + 1, misses := C.misses + 1 } r2 m2 bp2 bh2 := touchP (C1 := { C with misses := C.misses + 1, l := l2 ++ [⟨b, l0, 0, 0⟩] }) cb_25 cm_27 hbu3 by_29 hP2.mo hxm c_23 b_22 (by rw [rmB_add (l := l2) (x := ⟨b, l0, 0, 0⟩) hnb]) hP.bnd hP2.len
        exact ⟨_, _, rfl, ((((((Ch.refl [T, T + 1, T + 2, T + 3] s).ch c_1 (by simp)).on_tag c_7 cb_4.tag (by simp)).ch c_16 (by simp)).on_tag c_19 hcb2.tag (by simp)).on_tag c_23 hxb.tag (by simp)), .inr ⟨hh, rfl, ⟨⟨_, _, _, _, hPP⟩, ok.push (room_mem hr) rfl rfl rfl (by omega) (by have := ok.cnt; simp only; omega) (by simp)⟩, fun _ => ⟨_, _, _, _, _, hPP, rfl, List.mem_append_right _ (List.mem_singleton.2 rfl), rfl⟩⟩⟩
    ·
      have cm_30 := hcm.ch c_1 (by simp)
      refine look_oks keyI u69 z115 cm_30 b (hP.mo.get_some hfd) ?_
      refine dT2 ?_
      refine dPtr_i ?_
      refine dBl_i ?_
      refine jn_u ?_
      refine sB_t (by rfl) ?_
      refine nz_i ?_
      first | refine ld_t cb_4 rfl ?_
      refine dInt_i ?_
      refine wr_t (by have := ok.cnt; have := ok.clk; omega) ?_
      refine nz_i ?_
      refine st_t cb_4 rfl (by simp) fun s64 b_31 c_32 z_33 => ?_
      intro _ _ _ _ _ _ _ _ _ _ _ _ _ _ _ _ _ _ _ _ _ _ _ _ _ _ _ _ _
      refine dPtr_i ?_
      refine nz_i ?_
      first | refine ld_t b_31 rfl ?_
      refine dInt_i ?_
      refine wr_t (by have := ok.cnt; have := ok.clk; omega) ?_
      refine nz_i ?_
      refine st_t b_31 rfl (by simp) fun s52 b_34 c_35 z_36 => ?_
      have bu_37 := hbu.mv c_1 (tagn (by simp))
      have bu_38 := bu_37.mv c_32 (onn (by rw [cb_4.tag]; omega))
      have bu_39 := bu_38.mv c_35 (onn (by rw [b_31.tag]; omega))
      obtain ⟨hxm, rfl⟩ := find_mem hfd
      have hxb := (bu_39).at_ x hxm
      have hbu2 := bu_39
      refine nz_i ?_
      first | refine ld_t b_34 rfl ?_
      refine dInt_i ?_
      refine nz_i ?_
      refine st_t hxb rfl (by simp [bufv]) fun s57 b_40 c_41 z_42 => ?_
      refine ret_t ?_
      have cb_43 := b_34.on c_41 (by intro he; have h1 := b_34.tag; have h2 := hxb.tag; rw [he] at h1; rw [h1] at h2; revert h2; simp <;> omega)
      have cm_44 := cm_30.on c_32 (by intro he; have h1 := cm_30.tag; have h2 := cb_4.tag; rw [he] at h1; rw [h1] at h2; revert h2; simp <;> omega)
      have cm_45 := cm_44.on c_35 (by intro he; have h1 := cm_44.tag; have h2 := b_31.tag; rw [he] at h1; rw [h1] at h2; revert h2; simp <;> omega)
      have cm_46 := cm_45.on c_41 (by intro he; have h1 := cm_45.tag; have h2 := hxb.tag; rw [he] at h1; rw [h1] at h2; revert h2; simp <;> omega)
      have by_47 := hby.mv c_1 (tagn (by simp))
      have by_48 := by_47.mv c_32 (onn (by rw [cb_4.tag]; omega))
      have by_49 := by_48.mv c_35 (onn (by rw [b_31.tag]; omega))
      have by_50 := by_49.mv c_41 (onn (by rw [hxb.tag]; omega))
      rw [get_hit hfd]
      have hPP : CacheP s57 c T d { C with l := rmB C.l x.blk ++ [{ x with used := C.clock + 1 }], clock := C.clock + 1, hits := C.hits + 1 } r m bp bh := touchP (C1 := C) cb_43 cm_46 hbu2 by_50 hP.mo hxm c_41 b_40 rfl hP.bnd hP.len
      exact ⟨_, _, rfl, (((((Ch.refl [T, T + 1, T + 2, T + 3] s).ch c_1 (by simp)).on_tag c_32 cb_4.tag (by simp)).on_tag c_35 b_31.tag (by simp)).on_tag c_41 hxb.tag (by simp)), .inr ⟨hh, rfl, ⟨⟨_, _, _, _, hPP⟩, ok.push (rmB_sub _ _) rfl rfl rfl (by omega) (by have := ok.cnt; simp only; omega) (ok.pin x hxm)⟩, fun _ => ⟨_, _, _, _, _, hPP, rfl, List.mem_append_right _ (List.mem_singleton.2 rfl), rfl⟩⟩⟩

end Go.Proofs.Ytmgjdmohmhaemaa.E
