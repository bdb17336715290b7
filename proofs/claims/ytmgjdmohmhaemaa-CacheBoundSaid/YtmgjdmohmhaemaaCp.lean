/- Contracts of functions. -/
import Derived.Test.YtmgjdmohmhaemaaProg
import Derived.KernelRfl
import Derived.Test.YtmgjdmohmhaemaaLib2
import Derived.Test.YtmgjdmohmhaemaaCo
namespace Go.Proofs.Ytmgjdmohmhaemaa.E
open Go Go.Proofs Go.RowKit Go.Maps Go.Shelf Go.Sort
set_option linter.unusedVariables false

theorem freeB_some {l : List BufM} {k : Nat} {x : BufM} (h : l[k]? = some x) (hp : x.pins = 0) (ha : ∀ j y, j < k → l[j]? = some y → y.pins ≠ 0) : freeB l = some x := by
  unfold freeB
  induction l generalizing k with
  | nil => simp at h
  | cons y l ih =>
    cases k with
    | zero => simp at h; subst h; simp [hp]
    | succ k =>
      rw [List.find?_cons]
      have := ha 0 y (by omega) (by simp)
      rw [show (y.pins == 0) = false by simpa using this]
      exact ih (by simpa using h) (fun j z hj hz => ha (j + 1) z (by omega) (by simpa using hz))
theorem freeB_none {l : List BufM} (ha : ∀ j y, j < l.length → l[j]? = some y → y.pins ≠ 0) : freeB l = none := by
  unfold freeB
  rw [List.find?_eq_none]
  intro x hx
  obtain ⟨j, hj, e⟩ := List.getElem_of_mem hx
  have := ha j x hj (by rw [List.getElem?_eq_getElem hj, e])
  simpa using this
theorem freeB_mem {l : List BufM} {x : BufM} (h : freeB l = some x) : x ∈ l ∧ x.pins = 0 := ⟨List.mem_of_find?_eq_some h, by simpa using List.find?_some h⟩


theorem Disk.nb {s : TH} {d T : Nat} {D : DiskM} (h : Disk s d T D) : 1 ≤ D.blocks.length ∧ D.blocks.length ≤ 2048 := by obtain ⟨_, _, _, _, _, _, _, _, h⟩ := h; exact h.nb
theorem find_nmem {l : List BufM} {b : Int} (h : (l.find? fun x => x.blk == b) = none) : b ∉ l.map (·.blk) := fun e => by
  obtain ⟨x, hx, e⟩ := List.mem_map.1 e
  have := List.find?_eq_none.1 h x hx
  simp [e] at this
theorem rmB_len {l : List BufM} (hn : (l.map (·.blk)).Nodup) {x : BufM} (hx : x ∈ l) : (rmB l x.blk).length + 1 = l.length := by
  have h1 : x.blk ∈ l.map (·.blk) := List.mem_map.2 ⟨x, hx, rfl⟩
  have h2 := congrArg List.length (rmB_keys hn x.blk)
  rw [List.length_map, List.length_erase_of_mem h1, List.length_map] at h2
  have := List.length_pos_of_mem hx
  omega
theorem Bufs.sub {s : TH} {τ : Nat} {l l' : List BufM} {bp : Int → Nat} {bh : Int → Hd} (h : Bufs s τ l bp bh) (hs : l'.Sublist l) : Bufs s τ l' bp bh := ⟨fun x hx => h.at_ x (hs.subset hx)⟩
theorem BufY.sub {s : TH} {τ : Nat} {l l' : List BufM} {bh : Int → Hd} (h : BufY s τ l bh) (hs : l'.Sublist l) : BufY s τ l' bh := ⟨fun x hx => h.at_ x (hs.subset hx)⟩
theorem addB {s : TH} {c T d r p : Nat} {C : CacheM} {m1 : List (Int × Value)} {l1 : List BufM} {bp : Int → Nat} {bh : Int → Hd} {xa : Option Addr} {xc : Nat} {b : Int} {l : List UInt8} (_ : 10 ≤ T)
    (hblk : Blk s c [.pointer (some ⟨d, 0, none⟩), .int .i64 C.bound, .map (some r), .int .i64 C.clock, .int .i64 C.hits, .int .i64 C.misses] 71 T) (hmap : MapK (Value.int .i64) s r (mset b (.pointer (some ⟨p, 0, none⟩)) m1) (T + 1))
    (hb : Bufs s (T + 2) l1 bp bh) (hy : BufY s (T + 3) l1 bh) (mo : MapOf m1 l1 bp) (hbn : b ∉ l1.map (·.blk)) (hrng : 0 ≤ b ∧ b < 2048) (hp : Blk s p (bufv (xa, xc) 0 0) 120 (T + 2)) (hpn : ∀ y ∈ l1, bp y.blk ≠ p)
    (hx : ByAt s (T + 3) (xa, xc) l) (bnd : 1 ≤ C.bound ∧ C.bound ≤ 64) (len : (l1.length : Int) + 1 ≤ C.bound) :
    CacheP s c T d { C with l := l1 ++ [⟨b, l, 0, 0⟩] } r (mset b (.pointer (some ⟨p, 0, none⟩)) m1) (fun k => if k = b then p else bp k) (fun k => if k = b then (xa, xc) else bh k) := by
  have hne : ∀ y ∈ l1, y.blk ≠ b := fun y hy e => hbn (e ▸ List.mem_map.2 ⟨y, hy, rfl⟩)
  refine ⟨hblk, hmap, ⟨fun y hy' => ?_⟩, ⟨fun y hy' => ?_⟩, mo.add ⟨b, l, 0, 0⟩ p hbn hrng hpn, bnd, by simpa using len⟩
  · rcases List.mem_append.1 hy' with h | h
    · simp only [if_neg (hne y h)]; exact hb.at_ y h
    · rw [List.mem_singleton] at h; subst h; simpa using hp
  · rcases List.mem_append.1 hy' with h | h
    · simp only [if_neg (hne y h)]; exact hy.at_ y h
    · rw [List.mem_singleton] at h; subst h; simpa using hx

/-- (*bollard/cache.Cache).victim -/
theorem c_victim (c T d : Nat) (C : CacheM) (s : TH) (hT : 10 ≤ T) (hc : Cache s c T d C) : TRet Try.prog 131 #[.pointer (some ⟨c, 0, none⟩)] s fun v s' => ∃ n b, v = .tuple #[.int .i64 n, .bool b] ∧ Ch [] s s' ∧ ((b = true ∧ ∃ x, freeB C.l = some x ∧ n = x.blk) ∨ (b = false ∧ freeB C.l = none)) := by
  obtain ⟨⟨r, m, bp, bh, hP⟩, ok⟩ := id hc
  have hcb := hP.blk
  have hcm := hP.map
  have hbu := hP.bufs
  have hby := hP.bufy
  refine F131_calls _  ?_
  unfold F131
  refine tcall (c_held c T d C 0 _ hT hc) ?_
  rintro _ s2 ⟨a2, c2, rfl, c_1, o_3⟩
  have z_2 := c_1.size
  refine dSl_i ?_
  refine ⟨fun vs H' => ∃ s' : TH, s'.h = H' ∧ ∃ i, vs = [.int .i64 i] ∧ ChL [] [] s2 s' ∧ (∃ k : Nat, i = k ∧ k ≤ C.l.length ∧ ∀ j y, j < k → C.l[j]? = some y → y.pins ≠ 0), fun vs H' => match vs with | [.int .i64 i] => ((C.l.length : Int) - i).toNat | _ => 0, ⟨s2, rfl, _, rfl, ChL.refl _ _ _, ?_⟩, ?_⟩
  ·
    exact ⟨0, rfl, by omega, fun j x h => by omega⟩
  ·
    intro i _ _ _ _ _ _ _ _ _ _ _ _ _ _ _ _ _ _ H27 hI
    obtain ⟨s27, rfl, i_, hvs, c_4, k, rfl, hk, hall⟩ := hI
    cases hvs
    have z_5 := c_4.size
    refine sB_d (fun hsB1 => ?_) (fun hsB1 => ?_)
    ·
      have o_6 := o_3.mv c_4 (tagL (by simp <;> omega) (by simp))
      have hk2 : k < C.l.length := by omega
      obtain ⟨x, hx⟩ : ∃ x, C.l[k]? = some x := ⟨C.l[k], by simp [hk2]⟩
      have hxm := List.mem_of_getElem? hx
      obtain ⟨a, rfl⟩ := o_6.ne_none (by omega)
      have hlen := hP.len
      have hbnd := hP.bnd
      refine nz_i ?_
      refine ask_t (by omega) ?_
      refine ld_sl o_6.sl (by rw [Int.toNat_natCast, Nat.mul_one]; show (ivs _)[k]? = some (.int .i64 x.blk); simp [ivs, hx]) ?_
      refine dInt_i ?_
      refine nz_i ?_
      have cb_7 := hcb.ch c_1 (by simp)
      have cb_8 := cb_7.chl c_4 (by simp <;> omega) (by simp <;> omega)
      first | refine ld_t cb_8 rfl ?_
      refine dMap_i ?_
      have cm_9 := hcm.ch c_1 (by simp)
      have cm_10 := cm_9.chl c_4 (by simp <;> omega) (by simp <;> omega)
      refine look_s keyI u69 z115 cm_10 x.blk (hP.mo.at_ x hxm) ?_
      refine dPtr_i ?_
      refine nz_i ?_
      have bu_11 := hbu.mv c_1 (tagn (by simp))
      have bu_12 := bu_11.mv c_4 (tagL (by simp <;> omega) (by simp))
      refine ld_t (bu_12.at_ x hxm) rfl ?_
      refine dInt_i ?_
      refine sB_eq (fun hsB2 => ?_) (fun hsB2 => ?_)
      ·
        refine ret_t ?_
        exact ⟨_, _, rfl, (((Ch.refl [] s).ch c_1 (by simp)).chl c_4 (by simp) (by simp <;> omega)), .inl ⟨rfl, x, freeB_some hx hsB2 hall, rfl⟩⟩
      ·
        refine wr_t (by omega) ?_
        refine ⟨⟨s27, rfl, _, rfl, ((ChL.refl [] [] s2).chl c_4 (by simp) (by simp <;> omega)), ?_⟩, ?_⟩
        ·
          refine ⟨k + 1, by omega, by omega, fun j y hj hy => ?_⟩
          by_cases e : j = k
          · subst e; rw [hx] at hy; cases hy; exact hsB2
          · exact hall j y (by omega) hy
        ·
          simp only []; omega
    ·
      refine ret_t ?_
      exact ⟨_, _, rfl, (((Ch.refl [] s).ch c_1 (by simp)).chl c_4 (by simp) (by simp <;> omega)), .inr ⟨rfl, freeB_none fun j y hj hy => hall j y (by omega) hy⟩⟩

/-- (*bollard/cache.Cache).load -/
theorem c_load (c T d Td : Nat) (C : CacheM) (D : DiskM) (b : Int) {l : List UInt8} (s : TH) (hT : 10 ≤ T) (hTd : 10 ≤ Td) (hTT : T + 10 ≤ Td ∨ Td + 10 ≤ T) (hc : Cache s c T d C) (hd : Disk s d Td D) (hb : D.has b) (hl : D.blocks[b.toNat]? = some l) (hf : D.fails b ≤ 0) (hnf : C.find b = none) : TRet Try.prog 102 #[.pointer (some ⟨c, 0, none⟩), .int .i64 b] s fun v s' => ∃ q e, v = .tuple #[.pointer q, .int .i64 e] ∧ Ch [T, T + 1, T + 2, T + 3] s s' ∧ ((e = 60 ∧ C.room = none ∧ q = none ∧ Cache s' c T d C) ∨ (e = 0 ∧ ∃ l' r' m' bp' bh', C.room = some l' ∧ q = some ⟨bp' b, 0, none⟩ ∧ CacheP s' c T d { C with l := l' ++ [⟨b, l, 0, 0⟩] } r' m' bp' bh')) := by
  obtain ⟨⟨r, m, bp, bh, hP⟩, ok⟩ := id hc
  have hcb := hP.blk
  have hcm := hP.map
  have hbu := hP.bufs
  have hby := hP.bufy
  refine F102_calls _ _  ?_
  unfold F102
  refine nz_i ?_
  first | refine ld_t hcb rfl ?_
  refine dMap_i ?_
  refine nz_i ?_
  first | refine ld_t hcb rfl ?_
  refine dInt_i ?_
  refine mlen_t u69 hcm ?_
  have hml : m.length = C.l.length := by have := hP.mo.keys.length_eq; simpa using this
  refine dInt_i ?_
  refine ⟨?_, ?_⟩
  ·
    first | refine ld_t hcb rfl ?_
    refine dInt_i ?_
    rfl
  ·
    refine tcall (c_victim c T d C _ hT hc) ?_
    rintro _ s15 ⟨vn, vb, rfl, c_1, hvic⟩
    have z_2 := c_1.size
    refine dT2 ?_
    refine dInt_i ?_
    refine dBl_i ?_
    refine jn_u ?_
    refine sB_d (fun hsB1 => ?_) (fun hsB1 => ?_)
    ·
      intro _ _ _ _
      refine dBl_i ?_
      refine sB_n (fun hsB2 => ?_) (fun hsB2 => ?_)
      ·
        refine ret_t ?_
        have c_3 := hc.mv c_1 (rngn (by simp <;> omega))
        refine ⟨_, _, rfl, ((Ch.refl [T, T + 1, T + 2, T + 3] s).ch c_1 (by simp)), .inl ⟨rfl, ?_, rfl, c_3⟩⟩
        rcases hvic with ⟨h1, _⟩ | ⟨_, h1⟩
        · rw [hsB2] at h1; cases h1
        · unfold CacheM.room; rw [if_neg (by omega), h1]; rfl
      ·
        rcases hvic with ⟨hv1, x, hx, rfl⟩ | ⟨hv1, _⟩
        rotate_left
        · rw [hv1] at hsB2; cases hsB2
        refine nz_i ?_
        have cb_4 := hcb.ch c_1 (by simp)
        first | refine ld_t cb_4 rfl ?_
        refine dPtr_i ?_
        have D_5 := hd.mv c_1 (rngn (by simp <;> omega))
        refine tcall (c_dread d Td (T + 3) D b _ hTd D_5 hb hl hf) ?_
        rintro _ s31 ⟨xa, xc, rfl, c_6, x_8⟩
        have z_7 := c_6.size
        refine dT2 ?_
        refine dSl_i ?_
        refine dInt_i ?_
        refine sB_f (by rfl) ?_
        refine jn_u ?_
        refine sB_d (fun hsB4 => ?_) (fun hsB4 => by exfalso; omega)
        refine nz_i ?_
        have cb_9 := cb_4.ch c_6 (by simp)
        first | refine ld_t cb_9 rfl ?_
        refine dMap_i ?_
        have cm_10 := hcm.ch c_1 (by simp)
        have cm_11 := cm_10.ch c_6 (by simp)
        refine del_t keyI u69 cm_11 x.blk fun s69 cm_14 c_12 hsz => ?_
        have z_13 := c_12.size
        intro _ _ _ _ _ _
        refine nz_i ?_
        have cb_15 := cb_9.on c_12 (by intro he; have h1 := cb_9.tag; have h2 := cm_11.tag; rw [he] at h1; rw [h1] at h2; revert h2; simp <;> omega)
        first | refine ld_t cb_15 rfl ?_
        refine dMap_i ?_
        refine al_t (T + 2) fun r48 s49 hr48 b_16 c_17 z_18 => ?_
        have cm_19 := cm_14.ch c_17 (by simp)
        refine upd_t keyI u69 cm_19 b (.pointer (some ⟨r48, 0, none⟩)) fun s53 cm_22 c_20 hsz2 => ?_
        have z_21 := c_20.size
        refine nz_i ?_
        have cb_23 := cb_15.ch c_17 (by simp)
        have cb_24 := cb_23.on c_20 (by intro he; have h1 := cb_23.tag; have h2 := cm_19.tag; rw [he] at h1; rw [h1] at h2; revert h2; simp <;> omega)
        first | refine ld_t cb_24 rfl ?_
        refine dMap_i ?_
        refine look_s keyI u69 z115 cm_22 b (by rw [mget_mset, if_pos rfl]) ?_
        refine dPtr_i ?_
        refine ret_t ?_
        have bu_25 := hbu.mv c_1 (tagn (by simp))
        have bu_26 := bu_25.mv c_6 (tagn (by simp))
        have bu_27 := bu_26.mv c_12 (onn (by rw [cm_11.tag]; omega))
        have bu_28 := bu_27.mv c_17 (tagn (by simp))
        have bu_29 := bu_28.mv c_20 (onn (by rw [cm_19.tag]; omega))
        have by_30 := hby.mv c_1 (tagn (by simp))
        have by_31 := by_30.mv c_6 (tagn (by simp))
        have by_32 := by_31.mv c_12 (onn (by rw [cm_11.tag]; omega))
        have by_33 := by_32.mv c_17 (tagn (by simp))
        have by_34 := by_33.mv c_20 (onn (by rw [cm_19.tag]; omega))
        have r48_35 := b_16.on c_20 (by intro he; have h1 := b_16.tag; have h2 := cm_19.tag; rw [he] at h1; rw [h1] at h2; revert h2; simp <;> omega)
        have x_36 := x_8.mv c_12 (onn (by rw [cm_11.tag]; omega))
        have x_37 := x_36.mv c_17 (tagn (by simp))
        have x_38 := x_37.mv c_20 (onn (by rw [cm_19.tag]; omega))
        have hbd : 0 ≤ b ∧ b < 2048 := by have h1 := hb; unfold DiskM.has at h1; have h2 := hd.nb; omega
        have hnb := find_nmem hnf
        have hnew : ∀ y ∈ rmB C.l x.blk, bp y.blk ≠ r48 := fun y hy => by have := (hbu.at_ y (rmB_mem.1 hy).1).lt; omega
        have hxm := freeB_mem hx
        have hlen := rmB_len hP.mo.nd hxm.1
        have hle := hP.len
        refine ⟨_, _, rfl, ((((((Ch.refl [T, T + 1, T + 2, T + 3] s).ch c_1 (by simp)).ch c_6 (by simp)).on_tag c_12 cm_11.tag (by simp)).ch c_17 (by simp)).on_tag c_20 cm_19.tag (by simp)), .inr ⟨rfl, _, _, _, _, _, ?_, ?_, addB hT cb_24 cm_22 (bu_29.sub (rmB_sub _ _)) (by_34.sub (rmB_sub _ _)) (hP.mo.del hP.map.nd x.blk) (fun h => hnb (((rmB_sub _ _).map _).subset h)) hbd r48_35 hnew ⟨x_38.sl, by have := x_38.1; rw [bvs_len] at this; omega⟩ hP.bnd (by omega)⟩⟩
        · unfold CacheM.room; rw [if_neg (by omega), hx]; rfl
        · simp
    ·
      intro _ _ _ _
      refine dBl_i ?_
      refine sB_f (by rfl) ?_
      refine nz_i ?_
      have cb_39 := hcb.ch c_1 (by simp)
      first | refine ld_t cb_39 rfl ?_
      refine dPtr_i ?_
      have D_40 := hd.mv c_1 (rngn (by simp <;> omega))
      refine tcall (c_dread d Td (T + 3) D b _ hTd D_40 hb hl hf) ?_
      rintro _ s31 ⟨xa, xc, rfl, c_41, x_43⟩
      have z_42 := c_41.size
      refine dT2 ?_
      refine dSl_i ?_
      refine dInt_i ?_
      refine sB_f (by rfl) ?_
      refine jn_u ?_
      refine sB_d (fun hsB7 => by exfalso; omega) (fun hsB7 => ?_)
      intro _ _ _ _ _ _
      refine nz_i ?_
      have cb_44 := cb_39.ch c_41 (by simp)
      first | refine ld_t cb_44 rfl ?_
      refine dMap_i ?_
      refine al_t (T + 2) fun r48 s49 hr48 b_45 c_46 z_47 => ?_
      have cm_48 := hcm.ch c_1 (by simp)
      have cm_49 := cm_48.ch c_41 (by simp)
      have cm_50 := cm_49.ch c_46 (by simp)
      refine upd_t keyI u69 cm_50 b (.pointer (some ⟨r48, 0, none⟩)) fun s53 cm_53 c_51 hsz2 => ?_
      have z_52 := c_51.size
      refine nz_i ?_
      have cb_54 := cb_44.ch c_46 (by simp)
      have cb_55 := cb_54.on c_51 (by intro he; have h1 := cb_54.tag; have h2 := cm_50.tag; rw [he] at h1; rw [h1] at h2; revert h2; simp <;> omega)
      first | refine ld_t cb_55 rfl ?_
      refine dMap_i ?_
      refine look_s keyI u69 z115 cm_53 b (by rw [mget_mset, if_pos rfl]) ?_
      refine dPtr_i ?_
      refine ret_t ?_
      have bu_56 := hbu.mv c_1 (tagn (by simp))
      have bu_57 := bu_56.mv c_41 (tagn (by simp))
      have bu_58 := bu_57.mv c_46 (tagn (by simp))
      have bu_59 := bu_58.mv c_51 (onn (by rw [cm_50.tag]; omega))
      have by_60 := hby.mv c_1 (tagn (by simp))
      have by_61 := by_60.mv c_41 (tagn (by simp))
      have by_62 := by_61.mv c_46 (tagn (by simp))
      have by_63 := by_62.mv c_51 (onn (by rw [cm_50.tag]; omega))
      have r48_64 := b_45.on c_51 (by intro he; have h1 := b_45.tag; have h2 := cm_50.tag; rw [he] at h1; rw [h1] at h2; revert h2; simp <;> omega)
      have x_65 := x_43.mv c_46 (tagn (by simp))
      have x_66 := x_65.mv c_51 (onn (by rw [cm_50.tag]; omega))
      have hbd : 0 ≤ b ∧ b < 2048 := by have h1 := hb; unfold DiskM.has at h1; have h2 := hd.nb; omega
      have hnb := find_nmem hnf
      have hnew : ∀ y ∈ C.l, bp y.blk ≠ r48 := fun y hy => by have := (hbu.at_ y hy).lt; omega
      refine ⟨_, _, rfl, (((((Ch.refl [T, T + 1, T + 2, T + 3] s).ch c_1 (by simp)).ch c_41 (by simp)).ch c_46 (by simp)).on_tag c_51 cm_50.tag (by simp)), .inr ⟨rfl, _, _, _, _, _, ?_, ?_, addB hT cb_55 cm_53 bu_59 by_63 hP.mo hnb hbd r48_64 hnew ⟨x_66.sl, by have := x_66.1; rw [bvs_len] at this; omega⟩ hP.bnd (by omega)⟩⟩
      · unfold CacheM.room; rw [if_pos (by omega)]
      · simp

end Go.Proofs.Ytmgjdmohmhaemaa.E
