/- Contracts of functions. -/
import Derived.Test.YtmgjdmohmhaemaaProg
import Derived.KernelRfl
import Derived.Test.YtmgjdmohmhaemaaLib2
import Derived.Test.YtmgjdmohmhaemaaCq
namespace Go.Proofs.Ytmgjdmohmhaemaa.E
open Go Go.Proofs Go.RowKit Go.Maps Go.Shelf Go.Sort
set_option linter.unusedVariables false

def CacheM.bytes (C : CacheM) (b : Int) : List UInt8 := ((C.find b).map (·.by_)).getD []
theorem bytes_eq {C : CacheM} (hn : (C.l.map (·.blk)).Nodup) {x : BufM} (hx : x ∈ C.l) : C.bytes x.blk = x.by_ := by unfold CacheM.bytes CacheM.find; rw [find_nd hn hx]; rfl
/-- a buffer is changed in its place -/
def updB (l : List BufM) (b : Int) (f : BufM → BufM) : List BufM := l.map fun x => if x.blk = b then f x else x
def CacheM.put (C : CacheM) (b : Int) (y : List UInt8) : CacheM := { C with l := updB C.l b fun x => { x with by_ := y } }
def CacheM.pin1 (C : CacheM) (b : Int) : CacheM × Int :=
  match C.find b with
  | none => (C, 3)
  | some x => if x.pins ≥ 100 then (C, 3) else ({ C with l := updB C.l b fun x => { x with pins := x.pins + 1 } }, 0)
def CacheM.pin (C : CacheM) (bs : List (List UInt8)) (b : Int) : CacheM × Int := if (C.get bs b).2 = 0 then (C.get bs b).1.pin1 b else C.get bs b
def CacheM.unpin (C : CacheM) (b : Int) : CacheM × Int :=
  match C.find b with
  | none => (C, 3)
  | some x => if x.pins = 0 then (C, 3) else ({ C with l := updB C.l b fun x => { x with pins := x.pins - 1 } }, 0)
theorem updB_blk (l : List BufM) (b : Int) (f : BufM → BufM) (hf : ∀ x, (f x).blk = x.blk) : (updB l b f).map (·.blk) = l.map (·.blk) := by
  unfold updB; rw [List.map_map]; apply List.map_congr_left; intro x _; simp only [Function.comp]; split <;> simp [hf]
theorem updB_none {l : List BufM} {b : Int} {f : BufM → BufM} (h : (l.find? fun x => x.blk == b) = none) : updB l b f = l := by
  have hn := find_nmem h
  unfold updB
  conv => rhs; rw [← List.map_id l]
  apply List.map_congr_left; intro z hz
  have : z.blk ≠ b := fun e => hn (List.mem_map.2 ⟨z, hz, e⟩)
  rw [if_neg this]; rfl
theorem updB_mem {l : List BufM} {b : Int} {f : BufM → BufM} {y : BufM} (h : y ∈ updB l b f) : ∃ x ∈ l, (x.blk ≠ b ∧ y = x) ∨ (x.blk = b ∧ y = f x) := by
  unfold updB at h
  obtain ⟨x, hx, e⟩ := List.mem_map.1 h
  refine ⟨x, hx, ?_⟩
  by_cases hb : x.blk = b
  · rw [if_pos hb] at e; exact .inr ⟨hb, e.symm⟩
  · rw [if_neg hb] at e; exact .inl ⟨hb, e.symm⟩
theorem COk.upd {C C' : CacheM} (ok : COk C) {b : Int} {f : BufM → BufM} (hl : C'.l = updB C.l b f) (hu : ∀ x, (f x).used = x.used) (hp : ∀ x ∈ C.l, x.blk = b → 0 ≤ (f x).pins ∧ (f x).pins ≤ 100) (h1 : C'.clock = C.clock) (h2 : C'.hits = C.hits) (h3 : C'.misses = C.misses) : COk C' := by
  have hk := ok.clk
  have hc := ok.cnt
  refine ⟨?_, fun y hy => ?_, by omega, by omega, fun y hy => ?_⟩
  · rw [hl]; unfold updB; rw [List.pairwise_map]
    refine ok.srt.imp fun {a z} h => ?_
    have e : ∀ x : BufM, (if x.blk = b then f x else x).used = x.used := fun x => by split <;> simp [hu]
    rw [e, e]; exact h
  · rw [hl] at hy
    obtain ⟨x, hx, ⟨_, rfl⟩ | ⟨_, rfl⟩⟩ := updB_mem hy
    · have := ok.rng y hx; omega
    · have := ok.rng x hx; rw [hu]; omega
  · rw [hl] at hy
    obtain ⟨x, hx, ⟨_, rfl⟩ | ⟨hb, rfl⟩⟩ := updB_mem hy
    · exact ok.pin y hx
    · exact hp x hx hb
theorem updP {s2 s3 : TH} {c T d r : Nat} {C1 C2 : CacheM} {m : List (Int × Value)} {bp : Int → Nat} {bh bh' : Int → Hd} {x : BufM} {f : BufM → BufM} (hblk : Blk s3 c [.pointer (some ⟨d, 0, none⟩), .int .i64 C2.bound, .map (some r), .int .i64 C2.clock, .int .i64 C2.hits, .int .i64 C2.misses] 71 T)
    (hmap : MapK (Value.int .i64) s3 r m (T + 1)) (hbu : Bufs s2 (T + 2) C1.l bp bh) (hy : BufY s3 (T + 3) C1.l bh) (mo : MapOf m C1.l bp) (hx : x ∈ C1.l) (hon : On (bp x.blk) s2 s3) (hb : Blk s3 (bp x.blk) (bufv (bh' x.blk) (f x).pins (f x).used) 120 (T + 2))
    (hl : C2.l = updB C1.l x.blk f) (hf : ∀ y, (f y).blk = y.blk) (hh : ∀ k, k ≠ x.blk → bh' k = bh k) (hyb : ByAt s3 (T + 3) (bh' x.blk) (f x).by_) (bnd : 1 ≤ C2.bound ∧ C2.bound ≤ 64) (len : (C1.l.length : Int) ≤ C2.bound) : CacheP s3 c T d C2 r m bp bh' := by
  have hk := updB_blk C1.l x.blk f hf
  have one : ∀ y ∈ C1.l, y.blk = x.blk → y = x := fun y hy e => by
    have h1 := find_nd mo.nd hy
    have h2 := find_nd mo.nd hx
    rw [e, h2] at h1; cases h1; rfl
  refine ⟨hblk, hmap, hbu.one hon hb fun y hy' => ?_, ⟨fun y hy' => ?_⟩, by rw [hl]; exact mo.again (by rw [hk]), bnd, by rw [hl]; have := congrArg List.length hk; simp only [List.length_map] at this; omega⟩
  · rw [hl] at hy'
    obtain ⟨z, hz, ⟨h1, rfl⟩ | ⟨h1, rfl⟩⟩ := updB_mem hy'
    · exact .inl ⟨hz, mo.pne hx hz h1, hh _ h1⟩
    · obtain rfl := one z hz h1; exact .inr ⟨by rw [hf], rfl, rfl⟩
  · rw [hl] at hy'
    obtain ⟨z, hz, ⟨h1, rfl⟩ | ⟨h1, rfl⟩⟩ := updB_mem hy'
    · rw [hh _ h1]; exact hy.at_ y hz
    · obtain rfl := one z hz h1; rw [hf]; exact hyb

/-- (*bollard/cache.Cache).Get -/
theorem c_Get (c T d Td : Nat) (C : CacheM) (D : DiskM) (b : Int) (τ : Nat) (s : TH) (hT : 10 ≤ T) (hTd : 10 ≤ Td) (hTT : T + 10 ≤ Td ∨ Td + 10 ≤ T) (hc : Cache s c T d C) (hd : Disk s d Td D) (hl : D.has b → ∃ l, D.blocks[b.toNat]? = some l) (hf : D.fails b ≤ 0) (hk : C.clock < 9223372036854775807 ∧ C.hits < 9223372036854775807 ∧ C.misses < 9223372036854775807) : TRet Try.prog 23 #[.pointer (some ⟨c, 0, none⟩), .int .i64 b] s fun v s' => ∃ a n cc e, v = .tuple #[.slice a n cc, .int .i64 e] ∧ Ch [T, T + 1, T + 2, T + 3] s s' ∧ ((¬ D.has b ∧ e = 1 ∧ Cache s' c T d C) ∨ (D.has b ∧ e = (C.get D.blocks b).2 ∧ Cache s' c T d (C.get D.blocks b).1 ∧ (e = 0 → n = 128 ∧ Own s' a 128 cc 5 1 (bvs ((C.get D.blocks b).1.bytes b)) τ ∧ ((C.get D.blocks b).1.bytes b).length = 128))) := by
  refine F23_calls _ _  ?_
  unfold F23
  refine tcall (c_get c T d Td C D b _ hT hTd hTT hc hd hl hf hk) ?_
  rintro _ s2 ⟨q, e, rfl, c_1, hres⟩
  have z_2 := c_1.size
  refine dT2 ?_
  refine dPtr_i ?_
  refine dInt_i ?_
  refine sB_ne (fun hsB1 => ?_) (fun hsB1 => ?_)
  ·
    refine ret_t ?_
    refine ⟨_, _, _, _, rfl, ((Ch.refl [T, T + 1, T + 2, T + 3] s).ch c_1 (by simp)), ?_⟩
    rcases hres with ⟨h1, h2, h3⟩ | ⟨h1, h2, h3, h4⟩
    · exact .inl ⟨h1, h2, h3⟩
    · exact .inr ⟨h1, h2, h3, fun h => absurd h hsB1⟩
  ·
    rcases hres with ⟨_, h1, _⟩ | ⟨hh, he, hC, hx⟩
    · rw [h1] at hsB1; cases hsB1
    obtain ⟨r, m, bp, bh, x, hP, rfl, hxm, rfl⟩ := hx hsB1
    have hxb := hP.bufs.at_ x hxm
    have hyb := hP.bufy.at_ x hxm
    have hPr := hP
    refine nz_i ?_
    first | refine ld_t hxb rfl ?_
    refine dSl_i ?_
    refine tcall (c_clone τ _ hyb.sl hyb.len (fun h => by obtain ⟨y, hy⟩ := hyb.ne; rw [h] at hy; cases hy) (by omega)) ?_
    rintro _ s13 ⟨ya, yc, rfl, c_3, ny_5, hyn⟩
    have z_4 := c_3.size
    refine dSl_i ?_
    refine ret_t ?_
    have P_6 := hPr.mv c_3 (rngn (by simp <;> omega))
    have hby := bytes_eq hP.mo.nd hxm
    exact ⟨_, _, _, _, rfl, (((Ch.refl [T, T + 1, T + 2, T + 3] s).ch c_1 (by simp)).ch c_3 (by simp)), .inr ⟨hh, by rw [← he, hsB1], ⟨⟨_, _, _, _, P_6⟩, hC.ok⟩, fun _ => ⟨rfl, by rw [hby]; exact ny_5, by rw [hby]; exact hyb.len⟩⟩⟩

/-- (*bollard/cache.Cache).Put -/
theorem c_Put (c T d Td : Nat) (C : CacheM) (D : DiskM) (b : Int) {xa : Option Addr} (xc : Nat) {y : List UInt8} {τx : Nat} (s : TH) (hT : 10 ≤ T) (hTd : 10 ≤ Td) (hTT : T + 10 ≤ Td ∨ Td + 10 ≤ T) (hc : Cache s c T d C) (hd : Disk s d Td D) (hx : Sl s xa (bvs y) τx) (hxl : y.length = 128) : TRet Try.prog 31 #[.pointer (some ⟨c, 0, none⟩), .int .i64 b, .slice xa 128 xc] s fun v s' => v = .int .i64 (if D.has b then 0 else 1) ∧ Ch [T, T + 1, T + 2, T + 3] s s' ∧ Cache s' c T d (if D.has b then C.put b y else C) := by
  obtain ⟨⟨r, m, bp, bh, hP⟩, ok⟩ := id hc
  have hcb := hP.blk
  have hcm := hP.map
  have hbu := hP.bufs
  have hby := hP.bufy
  refine F31_calls _ _ _ _ _  ?_
  unfold F31
  refine tcall (c_clook c T d Td C D b _ hT hTd hTT hc hd) ?_
  rintro _ s2 ⟨rfl, c_1⟩
  have z_2 := c_1.size
  refine dInt_i ?_
  refine sB_ne (fun hsB1 => ?_) (fun hsB1 => ?_)
  ·
    refine ret_t ?_
    have c_3 := hc.mv c_1 (rngn (by simp <;> omega))
    have hn : ¬ D.has b := fun h => hsB1 (if_pos h)
    rw [if_neg hn, if_neg hn]
    exact ⟨rfl, ((Ch.refl [T, T + 1, T + 2, T + 3] s).ch c_1 (by simp)), c_3⟩
  ·
    refine sB_f (by rfl) ?_
    refine jn_u ?_
    have hh : D.has b := by
      by_cases h : D.has b
      · exact h
      · rw [if_neg h] at hsB1; cases hsB1
    refine nz_i ?_
    have cb_4 := hcb.ch c_1 (by simp)
    first | refine ld_t cb_4 rfl ?_
    refine dMap_i ?_
    rcases hfd : C.find b with _ | x
    ·
      have cm_5 := hcm.ch c_1 (by simp)
      refine look_okn keyI u69 z115 cm_5 b (hP.mo.get_none hfd) ?_
      refine dT2 ?_
      refine dPtr_i ?_
      refine dBl_i ?_
      refine sB_f (by rfl) ?_
      intro _ _ _ _ _ _ _ _ _ _ _ _ _ _ _ _ _
      refine ret_t ?_
      have c_6 := hc.mv c_1 (rngn (by simp <;> omega))
      rw [if_pos hh, if_pos hh]
      have e : C.put b y = C := by unfold CacheM.put; rw [updB_none hfd]
      rw [e]
      exact ⟨rfl, ((Ch.refl [T, T + 1, T + 2, T + 3] s).ch c_1 (by simp)), c_6⟩
    ·
      have cm_7 := hcm.ch c_1 (by simp)
      refine look_oks keyI u69 z115 cm_7 b (hP.mo.get_some hfd) ?_
      refine dT2 ?_
      refine dPtr_i ?_
      refine dBl_i ?_
      refine sB_t (by rfl) ?_
      have x_8 := hx.mv c_1 (tagn (by simp))
      refine tcall (c_clone (T + 3) _ x_8 hxl (fun h => by obtain ⟨y, hy⟩ := hx.some (fun e => by have := congrArg List.length e; simp only [bvs_len, List.length_nil] at this; omega); rw [h] at hy; cases hy) (by omega)) ?_
      rintro _ s35 ⟨ya, yc, rfl, c_9, ny_11, hyn⟩
      have z_10 := c_9.size
      refine dSl_i ?_
      have bu_12 := hbu.mv c_1 (tagn (by simp))
      have bu_13 := bu_12.mv c_9 (tagn (by simp))
      obtain ⟨hxm, rfl⟩ := find_mem hfd
      have hxb := (bu_13).at_ x hxm
      have hbu2 := bu_13
      refine nz_i ?_
      refine st_t hxb rfl (by simp [bufv]) fun s40 b_14 c_15 z_16 => ?_
      intro _ _ _ _ _ _ _ _ _ _ _ _ _ _ _ _ _
      refine ret_t ?_
      have cb_17 := cb_4.ch c_9 (by simp)
      have cb_18 := cb_17.on c_15 (by intro he; have h1 := cb_17.tag; have h2 := hxb.tag; rw [he] at h1; rw [h1] at h2; revert h2; simp <;> omega)
      have cm_19 := cm_7.ch c_9 (by simp)
      have cm_20 := cm_19.on c_15 (by intro he; have h1 := cm_19.tag; have h2 := hxb.tag; rw [he] at h1; rw [h1] at h2; revert h2; simp <;> omega)
      have by_21 := hby.mv c_1 (tagn (by simp))
      have by_22 := by_21.mv c_9 (tagn (by simp))
      have by_23 := by_22.mv c_15 (onn (by rw [hxb.tag]; omega))
      have ny_24 := ny_11.mv c_15 (onn (by rw [hxb.tag]; omega))
      rw [if_pos hh, if_pos hh]
      have hPP : CacheP s40 c T d (C.put x.blk y) r m bp (fun k => if k = x.blk then (ya, yc) else bh k) := updP (C1 := C) (f := fun z => { z with by_ := y }) cb_18 cm_20 hbu2 by_23 hP.mo hxm c_15 (by simpa [bufv] using b_14) rfl (fun _ => rfl) (fun k hk => if_neg hk) (by rw [if_pos rfl]; exact ⟨ny_24.sl, hxl⟩) hP.bnd hP.len
      exact ⟨rfl, ((((Ch.refl [T, T + 1, T + 2, T + 3] s).ch c_1 (by simp)).ch c_9 (by simp)).on_tag c_15 hxb.tag (by simp)), ⟨⟨_, _, _, _, hPP⟩, ok.upd (b := x.blk) (f := fun z => { z with by_ := y }) rfl (fun _ => rfl) (fun z hz _ => ok.pin z hz) rfl rfl rfl⟩⟩

/-- (*bollard/cache.Cache).Unpin -/
theorem c_Unpin (c T d Td : Nat) (C : CacheM) (D : DiskM) (b : Int) (s : TH) (hT : 10 ≤ T) (hTd : 10 ≤ Td) (hTT : T + 10 ≤ Td ∨ Td + 10 ≤ T) (hc : Cache s c T d C) (hd : Disk s d Td D) : TRet Try.prog 37 #[.pointer (some ⟨c, 0, none⟩), .int .i64 b] s fun v s' => v = .int .i64 (if D.has b then (C.unpin b).2 else 1) ∧ Ch [T, T + 1, T + 2, T + 3] s s' ∧ Cache s' c T d (if D.has b then (C.unpin b).1 else C) := by
  obtain ⟨⟨r, m, bp, bh, hP⟩, ok⟩ := id hc
  have hcb := hP.blk
  have hcm := hP.map
  have hbu := hP.bufs
  have hby := hP.bufy
  refine F37_calls _ _  ?_
  unfold F37
  refine tcall (c_clook c T d Td C D b _ hT hTd hTT hc hd) ?_
  rintro _ s2 ⟨rfl, c_1⟩
  have z_2 := c_1.size
  refine dInt_i ?_
  refine sB_ne (fun hsB1 => ?_) (fun hsB1 => ?_)
  ·
    refine ret_t ?_
    have c_3 := hc.mv c_1 (rngn (by simp <;> omega))
    have hn : ¬ D.has b := fun h => hsB1 (if_pos h)
    simp only [if_neg hn]
    exact ⟨trivial, ((Ch.refl [T, T + 1, T + 2, T + 3] s).ch c_1 (by simp)), c_3⟩
  ·
    have hh : D.has b := by
      by_cases h : D.has b
      · exact h
      · rw [if_neg h] at hsB1; cases hsB1
    refine nz_i ?_
    have cb_4 := hcb.ch c_1 (by simp)
    first | refine ld_t cb_4 rfl ?_
    refine dMap_i ?_
    rcases hfd : C.find b with _ | x
    ·
      have cm_5 := hcm.ch c_1 (by simp)
      refine look_okn keyI u69 z115 cm_5 b (hP.mo.get_none hfd) ?_
      refine dT2 ?_
      refine dPtr_i ?_
      refine dBl_i ?_
      refine jn_u ?_
      refine sB_t (by rfl) ?_
      intro _ _ _ _ _ _ _ _
      refine dBl_i ?_
      refine sB_t (by rfl) ?_
      refine ret_t ?_
      have c_6 := hc.mv c_1 (rngn (by simp <;> omega))
      simp only [if_pos hh]
      have e : C.unpin b = (C, 3) := by unfold CacheM.unpin; rw [hfd]
      rw [e]
      exact ⟨rfl, ((Ch.refl [T, T + 1, T + 2, T + 3] s).ch c_1 (by simp)), c_6⟩
    ·
      have cm_7 := hcm.ch c_1 (by simp)
      refine look_oks keyI u69 z115 cm_7 b (hP.mo.get_some hfd) ?_
      refine dT2 ?_
      refine dPtr_i ?_
      refine dBl_i ?_
      refine jn_u ?_
      refine sB_f (by rfl) ?_
      have bu_8 := hbu.mv c_1 (tagn (by simp))
      obtain ⟨hxm, rfl⟩ := find_mem hfd
      have hxb := (bu_8).at_ x hxm
      have hbu2 := bu_8
      refine nz_i ?_
      first | refine ld_t hxb rfl ?_ | refine ld_t cb_4 rfl ?_
      refine dInt_i ?_
      intro _ _ _ _ _ _ _ _
      refine dBl_i ?_
      refine sB_eq (fun hsB5 => ?_) (fun hsB5 => ?_)
      ·
        refine ret_t ?_
        have c_9 := hc.mv c_1 (rngn (by simp <;> omega))
        simp only [if_pos hh]
        have e : C.unpin x.blk = (C, 3) := by unfold CacheM.unpin; rw [hfd]; simp only; rw [if_pos hsB5]
        rw [e]
        exact ⟨rfl, ((Ch.refl [T, T + 1, T + 2, T + 3] s).ch c_1 (by simp)), c_9⟩
      ·
        refine nz_i ?_
        first | refine ld_t hxb rfl ?_ | refine ld_t cb_4 rfl ?_
        refine dInt_i ?_
        have hpins := ok.pin x hxm
        refine wr_t (by omega) ?_
        refine nz_i ?_
        refine st_t hxb rfl (by simp [bufv]) fun s31 b_10 c_11 z_12 => ?_
        refine ret_t ?_
        have cb_13 := cb_4.on c_11 (by intro he; have h1 := cb_4.tag; have h2 := hxb.tag; rw [he] at h1; rw [h1] at h2; revert h2; simp <;> omega)
        have cm_14 := cm_7.on c_11 (by intro he; have h1 := cm_7.tag; have h2 := hxb.tag; rw [he] at h1; rw [h1] at h2; revert h2; simp <;> omega)
        have by_15 := hby.mv c_1 (tagn (by simp))
        have by_16 := by_15.mv c_11 (onn (by rw [hxb.tag]; omega))
        simp only [if_pos hh]
        have e : C.unpin x.blk = ({ C with l := updB C.l x.blk fun x => { x with pins := x.pins - 1 } }, 0) := by unfold CacheM.unpin; rw [hfd]; simp only; rw [if_neg hsB5]
        rw [e]
        have hPP : CacheP s31 c T d { C with l := updB C.l x.blk fun x => { x with pins := x.pins - 1 } } r m bp bh := updP (C1 := C) (f := fun z => { z with pins := z.pins - 1 }) cb_13 cm_14 hbu2 by_16 hP.mo hxm c_11 (by simpa [bufv] using b_10) rfl (fun _ => rfl) (fun k hk => rfl) (by_16.at_ x hxm) hP.bnd hP.len
        exact ⟨rfl, (((Ch.refl [T, T + 1, T + 2, T + 3] s).ch c_1 (by simp)).on_tag c_11 hxb.tag (by simp)), ⟨⟨_, _, _, _, hPP⟩, ok.upd (b := x.blk) (f := fun z => { z with pins := z.pins - 1 }) rfl (fun _ => rfl) (fun z hz hzb => by have h1 := find_nd hP.mo.nd hz; rw [hzb, find_nd hP.mo.nd hxm] at h1; cases h1; simp only; omega) rfl rfl rfl⟩⟩

/-- (*bollard/cache.Cache).Pin -/
theorem c_Pin (c T d Td : Nat) (C : CacheM) (D : DiskM) (b : Int) (s : TH) (hT : 10 ≤ T) (hTd : 10 ≤ Td) (hTT : T + 10 ≤ Td ∨ Td + 10 ≤ T) (hc : Cache s c T d C) (hd : Disk s d Td D) (hl : D.has b → ∃ l, D.blocks[b.toNat]? = some l) (hf : D.fails b ≤ 0) (hk : C.clock < 9223372036854775807 ∧ C.hits < 9223372036854775807 ∧ C.misses < 9223372036854775807) : TRet Try.prog 36 #[.pointer (some ⟨c, 0, none⟩), .int .i64 b] s fun v s' => v = .int .i64 (if D.has b then (C.pin D.blocks b).2 else 1) ∧ Ch [T, T + 1, T + 2, T + 3] s s' ∧ Cache s' c T d (if D.has b then (C.pin D.blocks b).1 else C) := by
  refine F36_calls _ _  ?_
  unfold F36
  refine tcall (c_get c T d Td C D b _ hT hTd hTT hc hd hl hf hk) ?_
  rintro _ s2 ⟨q, e, rfl, c_1, hres⟩
  have z_2 := c_1.size
  refine dT2 ?_
  refine dPtr_i ?_
  refine dInt_i ?_
  refine sB_ne (fun hsB1 => ?_) (fun hsB1 => ?_)
  ·
    refine ret_t ?_
    rcases hres with ⟨h1, h2, h3⟩ | ⟨h1, h2, h3, h4⟩
    · rw [if_neg h1, if_neg h1]; exact ⟨by rw [h2], ((Ch.refl [T, T + 1, T + 2, T + 3] s).ch c_1 (by simp)), h3⟩
    · rw [if_pos h1, if_pos h1]; unfold CacheM.pin; rw [if_neg (by omega)]; exact ⟨by rw [h2], ((Ch.refl [T, T + 1, T + 2, T + 3] s).ch c_1 (by simp)), h3⟩
  ·
    rcases hres with ⟨_, h1, _⟩ | ⟨hh, he, hC, hx⟩
    · rw [h1] at hsB1; cases hsB1
    obtain ⟨r, m, bp, bh, x, hP, rfl, hxm, rfl⟩ := hx hsB1
    have hxb := hP.bufs.at_ x hxm
    have hpb := hP.blk
    have hpm := hP.map
    have hpy := hP.bufy
    have hfx : (C.get D.blocks x.blk).1.find x.blk = some x := find_nd hP.mo.nd hxm
    refine nz_i ?_
    first | refine ld_t hxb rfl ?_
    refine dInt_i ?_
    refine sB_d (fun hsB2 => ?_) (fun hsB2 => ?_)
    ·
      refine ret_t ?_
      simp only [if_pos hh]
      have e : C.pin D.blocks x.blk = ((C.get D.blocks x.blk).1, 3) := by unfold CacheM.pin CacheM.pin1; rw [if_pos (by omega), hfx]; simp only; rw [if_pos hsB2]
      rw [e]
      exact ⟨rfl, ((Ch.refl [T, T + 1, T + 2, T + 3] s).ch c_1 (by simp)), hC⟩
    ·
      refine nz_i ?_
      first | refine ld_t hxb rfl ?_
      refine dInt_i ?_
      have hpins := hC.ok.pin x hxm
      refine wr_t (by omega) ?_
      refine nz_i ?_
      refine st_t hxb rfl (by simp [bufv]) fun s15 b_3 c_4 z_5 => ?_
      refine ret_t ?_
      have pb_6 := hpb.on c_4 (by intro he; have h1 := hpb.tag; have h2 := hxb.tag; rw [he] at h1; rw [h1] at h2; revert h2; simp <;> omega)
      have pm_7 := hpm.on c_4 (by intro he; have h1 := hpm.tag; have h2 := hxb.tag; rw [he] at h1; rw [h1] at h2; revert h2; simp <;> omega)
      have pY_8 := hpy.mv c_4 (onn (by rw [hxb.tag]; omega))
      simp only [if_pos hh]
      have e : C.pin D.blocks x.blk = ({ (C.get D.blocks x.blk).1 with l := updB (C.get D.blocks x.blk).1.l x.blk fun x => { x with pins := x.pins + 1 } }, 0) := by unfold CacheM.pin CacheM.pin1; rw [if_pos (by omega), hfx]; simp only; rw [if_neg hsB2]
      rw [e]
      have hPP : CacheP s15 c T d { (C.get D.blocks x.blk).1 with l := updB (C.get D.blocks x.blk).1.l x.blk fun x => { x with pins := x.pins + 1 } } r m bp bh := updP (C1 := (C.get D.blocks x.blk).1) (f := fun z => { z with pins := z.pins + 1 }) pb_6 pm_7 hP.bufs pY_8 hP.mo hxm c_4 (by simpa [bufv] using b_3) rfl (fun _ => rfl) (fun k hk => rfl) (pY_8.at_ x hxm) hP.bnd hP.len
      exact ⟨rfl, (((Ch.refl [T, T + 1, T + 2, T + 3] s).ch c_1 (by simp)).on_tag c_4 hxb.tag (by simp)), ⟨⟨_, _, _, _, hPP⟩, hC.ok.upd (b := x.blk) (f := fun z => { z with pins := z.pins + 1 }) rfl (fun _ => rfl) (fun z hz hzb => by have h1 := find_nd hP.mo.nd hz; rw [hzb, find_nd hP.mo.nd hxm] at h1; cases h1; simp only; omega) rfl rfl rfl⟩⟩

/-- (*bollard/cache.Cache).Hits -/
theorem c_Hits (c T d : Nat) (C : CacheM) (s : TH) (hT : 10 ≤ T) (hc : Cache s c T d C) : TRet Try.prog 28 #[.pointer (some ⟨c, 0, none⟩)] s fun v s' => v = .tuple #[.int .i64 C.hits, .int .i64 C.misses] ∧ Ch [] s s' := by
  obtain ⟨⟨r, m, bp, bh, hP⟩, ok⟩ := id hc
  have hcb := hP.blk
  have hcm := hP.map
  have hbu := hP.bufs
  have hby := hP.bufy
  refine F28_calls _  ?_
  unfold F28
  refine sB_f (by rfl) ?_
  refine nz_i ?_
  first | refine ld_t hcb rfl ?_
  refine dInt_i ?_
  refine nz_i ?_
  first | refine ld_t hcb rfl ?_
  refine dInt_i ?_
  refine ret_t ?_
  exact ⟨rfl, (Ch.refl [] s)⟩

end Go.Proofs.Ytmgjdmohmhaemaa.E
