/- My own texts, joined. -/
import Derived.KernelRfl
import Derived.Test.YtngploohhmfaiaaGreatProg
import Derived.Test.YtngploohhmfaiaaGreatQc8
/- Contracts of functions. -/
namespace Go.Proofs.YtngploohhmfaiaaGreat.E
open Go Go.Proofs Go.RowKit Go.Maps Go.Shelf Go.Sort
set_option linter.unusedVariables false
set_option linter.unusedSimpArgs false
/-- what a cache without pins holds is what the disk has -/
structure Coh (C : CacheM) (bs : List (List UInt8)) : Prop where
  eq : ∀ x ∈ C.l, bs[x.blk.toNat]? = some x.by_
  pin : ∀ x ∈ C.l, x.pins = 0
structure CacheV (s : TH) (c T d : Nat) (bs : List (List UInt8)) (n : Int) : Prop where
  p : ∃ C, Cache s c T d C ∧ Coh C bs ∧ C.clock ≤ n ∧ C.hits ≤ n ∧ C.misses ≤ n
theorem CacheV.mv {s s' : TH} {c T d : Nat} {bs : List (List UInt8)} {n : Int} {B : Nat → Prop} (h : CacheV s c T d bs n) (k : Chg B s s') (hn : ∀ j, j < s.h.size → T ≤ s.g j → s.g j < T + 10 → ¬ B j) : CacheV s' c T d bs n := by
  obtain ⟨C, h1, h2⟩ := h
  exact ⟨C, h1.mv k hn, h2⟩
theorem Coh.free {C : CacheM} {bs : List (List UInt8)} (h : Coh C bs) (hb : 1 ≤ C.bound) : ∃ l, C.room = some l ∧ l.Sublist C.l := by
  have : C.room ≠ none := by
    unfold CacheM.room
    by_cases hl : (C.l.length : Int) < C.bound
    · rw [if_pos hl]; simp
    · rw [if_neg hl]
      have hne : C.l ≠ [] := fun e => by rw [e] at hl; simp at hl; omega
      obtain ⟨x, l, e⟩ := List.exists_cons_of_ne_nil hne
      unfold freeB
      rw [e, List.find?_cons, show (x.pins == 0) = true by rw [h.pin x (by rw [e]; simp)]; rfl]
      simp
  cases hr : C.room with
  | none => exact absurd hr this
  | some l => exact ⟨l, rfl, room_mem hr⟩
theorem Coh.get {C : CacheM} {bs : List (List UInt8)} {b : Int} {y : List UInt8} (h : Coh C bs) (hb : 1 ≤ C.bound) (hy : bs[b.toNat]? = some y) :
    (C.get bs b).2 = 0 ∧ Coh (C.get bs b).1 bs ∧ (C.get bs b).1.clock = C.clock + 1 ∧ (C.get bs b).1.hits ≤ C.hits + 1 ∧ (C.get bs b).1.misses ≤ C.misses + 1 := by
  cases hf : C.find b with
  | some x =>
    obtain ⟨hx, rfl⟩ := find_mem hf
    rw [get_hit hf]
    refine ⟨rfl, ⟨fun z hz => ?_, fun z hz => ?_⟩, rfl, Int.le_refl _, by show C.misses ≤ C.misses + 1; omega⟩
    · rcases List.mem_append.1 hz with hz | hz
      · exact h.eq z (rmB_mem.1 hz).1
      · rw [List.mem_singleton] at hz; subst hz; exact h.eq x hx
    · rcases List.mem_append.1 hz with hz | hz
      · exact h.pin z (rmB_mem.1 hz).1
      · rw [List.mem_singleton] at hz; subst hz; exact h.pin x hx
  | none =>
    obtain ⟨l, hr, hs⟩ := h.free hb
    rw [get_load hf hr hy]
    refine ⟨rfl, ⟨fun z hz => ?_, fun z hz => ?_⟩, rfl, by show C.hits ≤ C.hits + 1; omega, Int.le_refl _⟩
    · rcases List.mem_append.1 hz with hz | hz
      · exact h.eq z (hs.subset hz)
      · rw [List.mem_singleton] at hz; subst hz; exact hy
    · rcases List.mem_append.1 hz with hz | hz
      · exact h.pin z (hs.subset hz)
      · rw [List.mem_singleton] at hz; subst hz; rfl
theorem Coh.held {C : CacheM} {bs : List (List UInt8)} {b : Int} {y : List UInt8} (h : Coh C bs) (hb : 1 ≤ C.bound) (hy : bs[b.toNat]? = some y) : (C.get bs b).1.bytes b = y := by
  have h1 := (h.get hb hy).2.1
  unfold CacheM.bytes
  have hfd : ∃ x, (C.get bs b).1.find b = some x := by
    cases hf : C.find b with
    | some x =>
      obtain ⟨hx, rfl⟩ := find_mem hf
      rw [get_hit hf]
      have : ((rmB C.l x.blk ++ [{ x with used := C.clock + 1 }] : List BufM).find? fun z : BufM => z.blk == x.blk).isSome = true := List.find?_isSome.2 ⟨({ x with used := C.clock + 1 } : BufM), by simp, by simp⟩
      exact Option.isSome_iff_exists.1 this
    | none =>
      obtain ⟨l, hr, hs⟩ := h.free hb
      rw [get_load hf hr hy]
      have : ((l ++ [⟨b, y, 0, C.clock + 1⟩] : List BufM).find? fun z : BufM => z.blk == b).isSome = true := List.find?_isSome.2 ⟨(⟨b, y, 0, C.clock + 1⟩ : BufM), by simp, by simp⟩
      exact Option.isSome_iff_exists.1 this
  obtain ⟨x, hx⟩ := hfd
  rw [hx]
  obtain ⟨hm, hb2⟩ := find_mem hx
  have h2 := h1.eq x hm
  rw [hb2, hy] at h2
  exact (Option.some.inj h2).symm
theorem CacheP.bnd' {s : TH} {c T d : Nat} {C : CacheM} (h : Cache s c T d C) : 1 ≤ C.bound := by
  obtain ⟨⟨r, m, bp, bh, hp⟩, ok⟩ := h; exact hp.bnd.1
theorem c_vcGet (τ : Nat) {c T d Td : Nat} {D : DiskM} {b n : Int} {l : List UInt8} {s : TH} (hT : 10 ≤ T) (hTd : 10 ≤ Td) (hTT : T + 10 ≤ Td ∨ Td + 10 ≤ T) (hc : CacheV s c T d D.blocks n) (hd : Disk s d Td D) (hb : D.has b) (hl : D.blocks[b.toNat]? = some l) (hf : D.fails b ≤ 0) (hn : n < 9000000000000000000) :
    TRet Tryz.prog 125 #[.pointer (some ⟨c, 0, none⟩), .int .i64 b] s fun v s' => ∃ a cc, v = .tuple #[.slice a 128 cc, .int .i64 0] ∧ Ch [T, T + 1, T + 2, T + 3] s s' ∧ CacheV s' c T d D.blocks (n + 1) ∧ Own s' a 128 cc 5 1 (bvs l) τ := by
  obtain ⟨C, h1, h2, h3, h4, h5⟩ := hc
  have hbd := CacheP.bnd' h1
  refine (c_Get c T d Td C D b τ s hT hTd hTT h1 hd (fun _ => ⟨l, hl⟩) hf (by omega)).mono ?_
  rintro v s' ⟨a, k, cc, e, rfl, hch, hres⟩
  rcases hres with ⟨g1, _⟩ | ⟨g1, g2, g3, g4⟩
  · exact absurd hb g1
  · have g5 := h2.get hbd hl
    rw [g5.1] at g2
    subst g2
    obtain ⟨rfl, g6, g7⟩ := g4 rfl
    rw [h2.held hbd hl] at g6
    exact ⟨a, cc, rfl, hch, ⟨_, g3, g5.2.1, by rw [g5.2.2.1]; omega, by have := g5.2.2.2.1; omega, by have := g5.2.2.2.2; omega⟩, g6⟩
theorem Coh.put {C : CacheM} {bs : List (List UInt8)} {b : Int} {y : List UInt8} (h : Coh C bs) (h0 : 0 ≤ b) (hb : b < bs.length) (hr : ∀ x ∈ C.l, 0 ≤ x.blk) : Coh (C.put b y) (bs.set b.toNat y) := by
  refine ⟨fun x hx => ?_, fun x hx => ?_⟩
  · obtain ⟨z, hz, ⟨h1, rfl⟩ | ⟨h1, rfl⟩⟩ := updB_mem hx
    · have := hr _ hz
      rw [List.getElem?_set_ne (by omega)]; exact h.eq _ hz
    · show (bs.set b.toNat y)[z.blk.toNat]? = some y
      rw [h1, List.getElem?_set_self (by omega)]
  · obtain ⟨z, hz, ⟨h1, rfl⟩ | ⟨h1, rfl⟩⟩ := updB_mem hx
    · exact h.pin _ hz
    · exact h.pin z hz
theorem c_vcPut {c T d Td : Nat} {D : DiskM} {b n : Int} {xa : Option Addr} (xc : Nat) {bs : List (List UInt8)} {y : List UInt8} {τx : Nat} {s : TH} (hT : 10 ≤ T) (hTd : 10 ≤ Td) (hTT : T + 10 ≤ Td ∨ Td + 10 ≤ T) (hc : CacheV s c T d bs n) (hd : Disk s d Td D) (hb : D.has b) (hbl : bs.length = D.blocks.length) (hx : Sl s xa (bvs y) τx) (hxl : y.length = 128) :
    TRet Tryz.prog 146 #[.pointer (some ⟨c, 0, none⟩), .int .i64 b, .slice xa 128 xc] s fun v s' => v = .int .i64 0 ∧ Ch [T, T + 1, T + 2, T + 3] s s' ∧ CacheV s' c T d (bs.set b.toNat y) n := by
  obtain ⟨C, h1, h2, h3, h4, h5⟩ := hc
  refine (c_Put c T d Td C D b xc s hT hTd hTT h1 hd hx hxl).mono ?_
  rintro v s' ⟨rfl, hch, hres⟩
  rw [if_pos hb] at hres ⊢
  have hb2 := hb
  unfold DiskM.has at hb2
  refine ⟨rfl, hch, ⟨_, hres, h2.put hb2.1 (by rw [hbl]; exact hb2.2) (fun x hx => ?_), h3, h4, h5⟩⟩
  obtain ⟨⟨r, m, bp, bh, hp⟩, ok⟩ := h1
  exact (hp.mo.rng x hx).1
/-- a write on the way -/
structure WayM where
  blk : Int
  by_ : List UInt8
  ids : List Int
structure OldM where
  on : Bool
  broken : Bool
  room : Int
  kept : List (Int × List UInt8)
structure VolM where
  D : DiskM
  P : PatchM
  way : List (Int × WayM)
  old : OldM
  n : Int
def WayV (s : TH) (τ : Nat) (v : Value) (w : WayM) : Prop := ∃ ba bc ia ic, v = .agg #[.int .i64 w.blk, .slice ba 128 bc, .slice ia w.ids.length ic] ∧ Sl s ba (bvs w.by_) τ ∧ Sl s ia (ivs w.ids) τ ∧ w.by_.length = 128
theorem WayV.mv {s s' : TH} {τ : Nat} {v : Value} {w : WayM} {B : Nat → Prop} (h : WayV s τ v w) (c : Chg B s s') (hn : ∀ j, j < s.h.size → s.g j = τ → ¬ B j) : WayV s' τ v w := by
  obtain ⟨ba, bc, ia, ic, h1, h2, h3, h4⟩ := h
  exact ⟨ba, bc, ia, ic, h1, h2.mv c hn, h3.mv c hn, h4⟩
def WMap (s : TH) (τ : Nat) : List (Int × Value) → List (Int × WayM) → Prop
  | [], [] => True
  | e :: m, p :: l => e.1 = p.1 ∧ WayV s τ e.2 p.2 ∧ WMap s τ m l
  | _, _ => False
theorem WMap.mv {s s' : TH} {τ : Nat} {B : Nat → Prop} : ∀ {m : List (Int × Value)} {l : List (Int × WayM)}, WMap s τ m l → Chg B s s' → (∀ j, j < s.h.size → s.g j = τ → ¬ B j) → WMap s' τ m l
  | [], [], h, c, hn => trivial
  | e :: m, p :: l, h, c, hn => ⟨h.1, h.2.1.mv c hn, WMap.mv h.2.2 c hn⟩
  | [], _ :: _, h, _, _ => h.elim
  | _ :: _, [], h, _, _ => h.elim
theorem WMap.keys {s : TH} {τ : Nat} : ∀ {m : List (Int × Value)} {l : List (Int × WayM)}, WMap s τ m l → m.map (·.1) = l.map (·.1)
  | [], [], _ => rfl
  | e :: m, p :: l, h => by rw [List.map_cons, List.map_cons, h.1, WMap.keys h.2.2]
  | [], _ :: _, h => h.elim
  | _ :: _, [], h => h.elim
theorem WMap.mem_ {s : TH} {τ : Nat} : ∀ {m : List (Int × Value)} {l : List (Int × WayM)} {k : Int} {v : Value}, WMap s τ m l → (k, v) ∈ m → ∃ p ∈ l, p.1 = k ∧ WayV s τ v p.2
  | [], [], k, v, h, hm => by cases hm
  | e :: m, q :: l, k, v, h, hm => by
    rcases List.mem_cons.1 hm with rfl | hm
    · exact ⟨q, by simp, h.1.symm, h.2.1⟩
    · obtain ⟨p, h1, h2⟩ := WMap.mem_ h.2.2 hm
      exact ⟨p, List.mem_cons_of_mem _ h1, h2⟩
  | [], _ :: _, _, _, h, _ => h.elim
  | _ :: _, [], _, _, h, _ => h.elim
theorem WMap.get {s : TH} {τ : Nat} : ∀ {m : List (Int × Value)} {l : List (Int × WayM)} {k : Nat} {p : Int × WayM}, WMap s τ m l → (l.map (·.1)).Nodup → l[k]? = some p → ∃ v, mget p.1 m = some v ∧ WayV s τ v p.2
  | [], [], k, p, h, hn, hp => by simp at hp
  | e :: m, q :: l, k, p, h, hn, hp => by
    obtain ⟨ek, ev⟩ := e
    have hk : ek = q.1 := h.1
    rw [List.map_cons, List.nodup_cons] at hn
    cases k with
    | zero => simp at hp; subst hp; exact ⟨ev, by rw [mget, if_pos hk.symm], h.2.1⟩
    | succ k =>
      have hp : l[k]? = some p := by simpa using hp
      obtain ⟨v, h1, h2⟩ := WMap.get h.2.2 hn.2 hp
      have hne : p.1 ≠ ek := fun e => hn.1 (by rw [← hk, ← e]; exact List.mem_map.2 ⟨p, List.mem_of_getElem? hp, rfl⟩)
      exact ⟨v, by rw [mget, if_neg hne]; exact h1, h2⟩
  | [], _ :: _, _, _, h, _, _ => h.elim
  | _ :: _, [], _, _, h, _, _ => h.elim
theorem WMap.snoc {s : TH} {τ : Nat} {v : Value} {p : Int × WayM} (hv : WayV s τ v p.2) : ∀ {m : List (Int × Value)} {l : List (Int × WayM)}, WMap s τ m l → p.1 ∉ l.map (·.1) → WMap s τ (mset p.1 v m) (l ++ [p])
  | [], [], h, _ => ⟨rfl, hv, trivial⟩
  | e :: m, q :: l, h, hn => by
    obtain ⟨k, x⟩ := e
    have hk : k = q.1 := h.1
    rw [List.map_cons, List.mem_cons, not_or] at hn
    show WMap s τ (if p.1 = k then (p.1, v) :: m else (k, x) :: mset p.1 v m) (q :: (l ++ [p]))
    rw [if_neg (by rw [hk]; exact hn.1)]
    exact ⟨h.1, h.2.1, WMap.snoc hv h.2.2 hn.2⟩
  | [], _ :: _, h, _ => h.elim
  | _ :: _, [], h, _ => h.elim
theorem WMap.del {s : TH} {τ : Nat} : ∀ {m : List (Int × Value)} {l : List (Int × WayM)} {k : Nat} {p : Int × WayM}, WMap s τ m l → (l.map (·.1)).Nodup → l[k]? = some p → WMap s τ (mdel p.1 m) (l.eraseIdx k)
  | [], [], k, p, h, hn, hp => by simp at hp
  | e :: m, q :: l, k, p, h, hn, hp => by
    obtain ⟨ek, ev⟩ := e
    have hk : ek = q.1 := h.1
    rw [List.map_cons, List.nodup_cons] at hn
    show WMap s τ (if p.1 = ek then m else (ek, ev) :: mdel p.1 m) _
    cases k with
    | zero => simp at hp; subst hp; rw [if_pos hk.symm]; exact h.2.2
    | succ k =>
      have hp : l[k]? = some p := by simpa using hp
      have hne : p.1 ≠ ek := fun e => hn.1 (by rw [← hk, ← e]; exact List.mem_map.2 ⟨p, List.mem_of_getElem? hp, rfl⟩)
      rw [if_neg hne]
      exact ⟨h.1, h.2.1, WMap.del h.2.2 hn.2 hp⟩
  | [], _ :: _, _, _, h, _, _ => h.elim
  | _ :: _, [], _, _, h, _, _ => h.elim
def KMap (s : TH) (τ : Nat) : List (Int × Value) → List (Int × List UInt8) → Prop
  | [], [] => True
  | e :: m, p :: l => e.1 = p.1 ∧ (∃ a c, e.2 = .slice a 128 c ∧ Sl s a (bvs p.2) τ ∧ p.2.length = 128) ∧ KMap s τ m l
  | _, _ => False
theorem KMap.mv {s s' : TH} {τ : Nat} {B : Nat → Prop} : ∀ {m : List (Int × Value)} {l : List (Int × List UInt8)}, KMap s τ m l → Chg B s s' → (∀ j, j < s.h.size → s.g j = τ → ¬ B j) → KMap s' τ m l
  | [], [], h, c, hn => trivial
  | e :: m, p :: l, ⟨h1, ⟨a, c0, h2, h3, h4⟩, h5⟩, c, hn => ⟨h1, ⟨a, c0, h2, h3.mv c hn, h4⟩, KMap.mv h5 c hn⟩
  | [], _ :: _, h, _, _ => h.elim
  | _ :: _, [], h, _, _ => h.elim
theorem KMap.keys {s : TH} {τ : Nat} : ∀ {m : List (Int × Value)} {l : List (Int × List UInt8)}, KMap s τ m l → m.map (·.1) = l.map (·.1)
  | [], [], _ => rfl
  | e :: m, p :: l, h => by rw [List.map_cons, List.map_cons, h.1, KMap.keys h.2.2]
  | [], _ :: _, h => h.elim
  | _ :: _, [], h => h.elim
def kfind (l : List (Int × List UInt8)) (b : Int) : Option (List UInt8) := (l.find? fun e => e.1 == b).map (·.2)
theorem KMap.get {s : TH} {τ : Nat} {b : Int} : ∀ {m : List (Int × Value)} {l : List (Int × List UInt8)}, KMap s τ m l →
    match kfind l b with
    | some y => ∃ a c, mget b m = some (.slice a 128 c) ∧ Sl s a (bvs y) τ ∧ y.length = 128
    | none => mget b m = none
  | [], [], h => by simp [kfind, mget]
  | e :: m, q :: l, h => by
    obtain ⟨ek, ev⟩ := e
    have hk : ek = q.1 := h.1
    obtain ⟨_, ⟨a, c, h2, h3, h4⟩, h5⟩ := h
    have ih := KMap.get (b := b) h5
    unfold kfind at ih ⊢
    rw [List.find?_cons]
    by_cases hq : q.1 = b
    · rw [show (q.1 == b) = true by simpa using hq]
      simp only [Option.map_some]
      exact ⟨a, c, by rw [mget, if_pos (by rw [hk, hq])]; exact congrArg some h2, h3, h4⟩
    · rw [show (q.1 == b) = false by simpa using hq]
      simp only [mget, if_neg (show ¬ b = ek by rw [hk]; exact fun e => hq e.symm)]
      exact ih
  | [], _ :: _, h => h.elim
  | _ :: _, [], h => h.elim
theorem KMap.snoc {s : TH} {τ : Nat} {a : Option Addr} {c : Nat} {b : Int} {y : List UInt8} (hv : Sl s a (bvs y) τ) (hy : y.length = 128) : ∀ {m : List (Int × Value)} {l : List (Int × List UInt8)}, KMap s τ m l → kfind l b = none → KMap s τ (mset b (.slice a 128 c) m) (l ++ [(b, y)])
  | [], [], h, _ => ⟨rfl, ⟨a, c, rfl, hv, hy⟩, trivial⟩
  | e :: m, q :: l, h, hn => by
    obtain ⟨k, x⟩ := e
    have hk : k = q.1 := h.1
    unfold kfind at hn
    rw [List.find?_cons] at hn
    by_cases hq : q.1 = b
    · rw [show (q.1 == b) = true by simpa using hq] at hn; simp at hn
    · rw [show (q.1 == b) = false by simpa using hq] at hn
      show KMap s τ (if b = k then (b, _) :: m else (k, x) :: mset b _ m) (q :: (l ++ [(b, y)]))
      rw [if_neg (by rw [hk]; exact fun e => hq e.symm)]
      exact ⟨h.1, h.2.1, KMap.snoc hv hy h.2.2 hn⟩
  | [], _ :: _, h, _ => h.elim
  | _ :: _, [], h, _ => h.elim
structure OMap (s : TH) (rk : Option Nat) (mk : List (Int × Value)) (τ : Nat) : Prop where
  at_ : ∀ r, rk = some r → MapK (Value.int .i64) s r mk τ
  no : rk = none → mk = []
theorem OMap.mv {s s' : TH} {rk : Option Nat} {mk : List (Int × Value)} {τ : Nat} {B : Nat → Prop} (h : OMap s rk mk τ) (c : Chg B s s') (hn : ∀ j, j < s.h.size → s.g j = τ → ¬ B j) : OMap s' rk mk τ :=
  ⟨fun r hr => (h.at_ r hr).mv c (hn r (h.at_ r hr).lt (h.at_ r hr).tag), h.no⟩
theorem olook_n {P : Program} {E : List PanicEntry → Heap → Prop} {T Kt Et : TypeId} {s : TH} {rk : Option Nat} {mk : List (Int × Value)} {τ : Nat} {z : Value} {b : Int} {K : Value → Heap → Prop} (ko : KeyOk P Kt (Value.int .i64)) (hT : P.underlying T = some (.map Kt Et)) (hz : ∀ w, (zeroValue Et).run P w = .ok z w) (h : OMap s rk mk τ) (hm : mget b mk = none) (hk : K (.tuple #[z, .bool false]) s.h) :
    semW P (Instr.lookup T (.map rk) (.int .i64 b) true) E s.h K := by
  cases rk with
  | none => exact lookn_ok ko hT hz b hk
  | some r => exact look_okn ko hT hz (h.at_ r rfl) b hm hk
theorem olook_s {P : Program} {E : List PanicEntry → Heap → Prop} {T Kt Et : TypeId} {s : TH} {rk : Option Nat} {mk : List (Int × Value)} {τ : Nat} {z v : Value} {b : Int} {K : Value → Heap → Prop} (ko : KeyOk P Kt (Value.int .i64)) (hT : P.underlying T = some (.map Kt Et)) (hz : ∀ w, (zeroValue Et).run P w = .ok z w) (h : OMap s rk mk τ) (hm : mget b mk = some v) (hk : K (.tuple #[v, .bool true]) s.h) :
    semW P (Instr.lookup T (.map rk) (.int .i64 b) true) E s.h K := by
  cases rk with
  | none => rw [h.no rfl] at hm; cases hm
  | some r => exact look_oks ko hT hz (h.at_ r rfl) b hm hk
theorem OMap.of {s : TH} {r : Nat} {mk : List (Int × Value)} {τ : Nat} (h : MapK (Value.int .i64) s r mk τ) : OMap s (some r) mk τ := ⟨fun r' e => by cases e; exact h, fun e => by cases e⟩
def sentOf (p : Int × WayM) : SentM := ⟨p.1, p.2.blk, p.2.by_⟩
structure VOk (V : VolM) : Prop where
  que : V.D.queue = V.way.map sentOf
  wid : ∀ p ∈ V.way, 1 ≤ p.1 ∧ p.1 ≤ V.D.last
  wsr : V.way.Pairwise fun x y => x.1 < y.1
  lst : 0 ≤ V.D.last ∧ V.D.last ≤ V.n
  n0 : 0 ≤ V.n ∧ V.n ≤ 1000000000000000000
  nof : ∀ b, V.D.fails b ≤ 0
  len : ∀ y ∈ V.D.blocks, y.length = 128
  wlen : V.way.length ≤ 64
  wids : ∀ p ∈ V.way, (p.2.ids.length : Int) ≤ 1000000
structure VolP (s : TH) (v d U : Nat) (V : VolM) (lk : Int) (c p rw : Nat) (rk : Option Nat) (mw mk : List (Int × Value)) : Prop where
  blk : Blk s v [.int .i32 lk, .int .u32 0, .pointer (some ⟨d, 0, none⟩), .pointer (some ⟨c, 0, none⟩), .pointer (some ⟨p, 0, none⟩), .map (some rw), .bool V.old.on, .bool V.old.broken, .int .i64 V.old.room, .map rk] 57 U
  wm : MapK (Value.int .i64) s rw mw (U + 1)
  wv : WMap s (U + 2) mw V.way
  kn : V.old.on = true → rk.isSome = true
  om : OMap s rk mk (U + 3)
  kv : KMap s (U + 4) mk V.old.kept
  dk : Disk s d (U + 10) V.D
  ca : CacheV s c (U + 20) d V.D.blocks V.n
  ps : PSet s p (U + 30) V.P
/-- a volume; one that is locked -/
structure VolL (s : TH) (v d U : Nat) (V : VolM) (lk : Int) : Prop where
  p : ∃ c p rw rk mw mk, VolP s v d U V lk c p rw rk mw mk
  ok : VOk V
theorem of_rng50 {s : TH} {T T' : Nat} {B : Nat → Prop} (hn : ∀ j, j < s.h.size → T ≤ s.g j → s.g j < T + 50 → ¬ B j) (h1 : T ≤ T') (h2 : T' + 10 ≤ T + 50) : ∀ j, j < s.h.size → T' ≤ s.g j → s.g j < T' + 10 → ¬ B j := fun j hj h3 h4 => hn j hj (by omega) (by omega)
theorem of_t50 {s : TH} {T τ : Nat} {B : Nat → Prop} (hn : ∀ j, j < s.h.size → T ≤ s.g j → s.g j < T + 50 → ¬ B j) (h1 : T ≤ τ) (h2 : τ < T + 50) : ∀ j, j < s.h.size → s.g j = τ → ¬ B j := fun j hj e => hn j hj (by omega) (by omega)
theorem rngn50 {s : TH} {T : Nat} {L : List Nat} (h : ∀ τ ∈ L, τ < T ∨ T + 50 ≤ τ) : ∀ j, j < s.h.size → T ≤ s.g j → s.g j < T + 50 → ¬ s.g j ∈ L := fun j _ h1 h2 h3 => by have := h _ h3; omega
theorem VolP.mv {s s' : TH} {v d U : Nat} {V : VolM} {lk : Int} {c p rw : Nat} {rk : Option Nat} {mw mk : List (Int × Value)} {B : Nat → Prop} (h : VolP s v d U V lk c p rw rk mw mk) (k : Chg B s s') (hn : ∀ j, j < s.h.size → U ≤ s.g j → s.g j < U + 50 → ¬ B j) : VolP s' v d U V lk c p rw rk mw mk :=
  ⟨h.blk.mv k (of_t50 hn (by omega) (by omega) v h.blk.lt h.blk.tag), h.wm.mv k (of_t50 hn (by omega) (by omega) rw h.wm.lt h.wm.tag), h.wv.mv k (of_t50 hn (by omega) (by omega)), h.kn, h.om.mv k (of_t50 hn (by omega) (by omega)), h.kv.mv k (of_t50 hn (by omega) (by omega)),
    h.dk.mv k (of_rng50 hn (by omega) (by omega)), h.ca.mv k (of_rng50 hn (by omega) (by omega)), h.ps.mv k (of_rng50 hn (by omega) (by omega))⟩
theorem VolL.mv {s s' : TH} {v d U : Nat} {V : VolM} {lk : Int} {B : Nat → Prop} (h : VolL s v d U V lk) (k : Chg B s s') (hn : ∀ j, j < s.h.size → U ≤ s.g j → s.g j < U + 50 → ¬ B j) : VolL s' v d U V lk := by
  obtain ⟨⟨c, p, rw, rk, mw, mk, hp⟩, ok⟩ := h
  exact ⟨⟨c, p, rw, rk, mw, mk, hp.mv k hn⟩, ok⟩
theorem rowLen {V : VolM} (ok : VOk V) {b : Int} {l : List UInt8} (h : V.D.blocks[b.toNat]? = some l) : l.length = 128 := ok.len l (List.mem_of_getElem? h)
def VolM.blk (V : VolM) (b : Int) : List UInt8 := V.D.blocks.getD b.toNat []
theorem blk_get {V : VolM} {b : Int} (h : V.D.has b) : V.D.blocks[b.toNat]? = some (V.blk b) := by
  unfold DiskM.has at h
  unfold VolM.blk
  rw [List.getD_eq_getElem?_getD, List.getElem?_eq_getElem (by omega)]; rfl
theorem blk_len {V : VolM} (ok : VOk V) {b : Int} (h : V.D.has b) : (V.blk b).length = 128 := rowLen ok (blk_get h)
/-- a block's bytes now -/
def VolM.now (V : VolM) (b : Int) : List UInt8 := V.P.over (V.blk b) (V.P.of b)
def VolM.tick (V : VolM) : VolM := { V with n := V.n + 1 }
theorem VOk.tick {V : VolM} (ok : VOk V) (h : V.n < 1000000000000000000) : VOk V.tick := ⟨ok.que, ok.wid, ok.wsr, by have := ok.lst; exact ⟨this.1, by show V.D.last ≤ V.n + 1; omega⟩, by have := ok.n0; exact ⟨by show 0 ≤ V.n + 1; omega, by show V.n + 1 ≤ _; omega⟩, ok.nof, ok.len, ok.wlen, ok.wids⟩
theorem VOk.wnd {V : VolM} (ok : VOk V) : (V.way.map (·.1)).Nodup := (List.pairwise_map.2 ok.wsr).imp fun {a b} h => by omega
theorem z153 (w : World) : (zeroValue 153).run Tryz.prog w = .ok (.agg #[.int .i64 0, .slice none 0 0, .slice none 0 0]) w := by kernel_rfl
theorem um52 : Tryz.prog.underlying 52 = some (.map 3 153) := by kernel_rfl
theorem um53 : Tryz.prog.underlying 53 = some (.map 3 38) := by kernel_rfl
/-- (*bollard/volume.Volume).has -/
theorem c_vhas (vp d U : Nat) (V : VolM) (lk : Int) (b : Int) (s : TH) (hU : 10 ≤ U) (hv : VolL s vp d U V lk) : TRet Tryz.prog 71 #[.pointer (some ⟨vp, 0, none⟩), .int .i64 b] s fun v s' => v = .bool (decide (V.D.has b)) ∧ Ch [] s s' := by
  obtain ⟨⟨c, p, rw_, rk, mw, mk, hV⟩, ok⟩ := id hv
  have hvb := hV.blk
  have hvw := hV.wm
  have hvv := hV.wv
  have hvo := hV.om
  have hvk := hV.kv
  have hvD := hV.dk
  have hvC := hV.ca
  have hvP := hV.ps
  have hn0 := ok.n0
  have hpok := hV.ps.ok
  have hplst := hV.ps.ok.lst
  have hnb := hV.dk.nb
  refine F71_calls _ _  ?_
  unfold F71
  refine sB_d (fun hsB1 => ?_) (fun hsB1 => ?_)
  ·
    refine nz_i ?_
    refine ld_t hvb rfl ?_
    refine dPtr_i ?_
    refine tcall (c_blocks _ _ _ _ (by omega) hvD) ?_
    rintro v_2 s_1 ⟨rfl, c_4⟩
    have z_5 := c_4.size
    refine dInt_i ?_
    refine ret_t ?_
    exact ⟨ret_b (by unfold DiskM.has; first | exact (decide_eq_false (by omega)).symm | exact (decide_eq_true (by omega)).symm | exact decide_eq_decide.2 (by omega)), ((Ch.refl [] s).ch c_4 (by simp))⟩
  ·
    refine ret_t ?_
    exact ⟨ret_b (by unfold DiskM.has; first | exact (decide_eq_false (by omega)).symm | exact (decide_eq_true (by omega)).symm | exact decide_eq_decide.2 (by omega)), (Ch.refl [] s)⟩
/-- (*bollard/volume.Volume).read -/
theorem c_vread (vp d U : Nat) (V : VolM) (lk : Int) (τ : Nat) (b : Int) (s : TH) (hU : 10 ≤ U) (hv : VolL s vp d U V lk) (hn : V.n < 1000000000000000000) : TRet Tryz.prog 72 #[.pointer (some ⟨vp, 0, none⟩), .int .i64 b] s fun v s' => Ch [U + 20, U + 21, U + 22, U + 23] s s' ∧ ((v = .tuple #[.slice none 0 0, .int .i64 90] ∧ ¬ V.D.has b ∧ VolL s' vp d U V lk) ∨ (∃ a c, v = .tuple #[.slice a 128 c, .int .i64 0] ∧ V.D.has b ∧ VolL s' vp d U V.tick lk ∧ Own s' a 128 c 5 1 (bvs (V.now b)) τ)) := by
  obtain ⟨⟨c, p, rw_, rk, mw, mk, hV⟩, ok⟩ := id hv
  have hvb := hV.blk
  have hvw := hV.wm
  have hvv := hV.wv
  have hvo := hV.om
  have hvk := hV.kv
  have hvD := hV.dk
  have hvC := hV.ca
  have hvP := hV.ps
  have hn0 := ok.n0
  have hpok := hV.ps.ok
  have hplst := hV.ps.ok.lst
  have hnb := hV.dk.nb
  obtain ⟨M, hM, hM0, hMa, hMb, hMc, hMd, hMe, hMf⟩ := fresh6 s (U + 50) τ 0 0 0 0
  refine F72_calls _ _  ?_
  unfold F72
  refine tcall (c_vhas _ _ _ _ _ _ _ (by omega) hv) ?_
  rintro v_2 s_1 ⟨rfl, c_4⟩
  have z_5 := c_4.size
  refine dBl_i ?_
  refine sB_nd (fun hsB1 => ?_) (fun hsB1 => ?_)
  ·
    refine ret_t ?_
    have h_6 := hv.mv c_4 (rngn50 (by simp))
    exact ⟨((Ch.refl [U + 20, U + 21, U + 22, U + 23] s).ch c_4 (by simp)), .inl ⟨rfl, by simpa using hsB1, h_6⟩⟩
  ·
    refine nz_i ?_
    have h_7 := hvb.ch c_4 (by simp)
    refine ld_t h_7 rfl ?_
    refine dPtr_i ?_
    have hh : V.D.has b := by simpa using hsB1
    have h_8 := hvC.mv c_4 (rngn (by simp))
    have h_9 := hvD.mv c_4 (rngn (by simp))
    refine tcall (c_vcGet (M + 5) (by omega) (by omega) (by omega) h_8 h_9 hh (blk_get hh) (ok.nof b) (by omega)) ?_
    rintro v_11 s_10 ⟨acall2, cccall2, rfl, c_13, call2a, call2b⟩
    have z_14 := c_13.size
    refine dT2 ?_
    refine dSl_i ?_
    refine dInt_i ?_
    refine sB_f (by rfl) ?_
    refine nz_i ?_
    have h_15 := h_7.ch c_13 (by simp <;> omega)
    refine ld_t h_15 rfl ?_
    refine dPtr_i ?_
    have h_16 := hvP.mv (c_4.app c_13) (rngn (by simp))
    refine tcall (c_pnow p (U + 30) V.P (τ := τ) (b := b) _ _ (by omega) h_16 call2b.sl (blk_len ok hh)) ?_
    rintro v_18 s_17 ⟨acall3, ccall3, rfl, c_20, call3a⟩
    have z_21 := c_20.size
    refine dT2 ?_
    refine dSl_i ?_
    refine dInt_i ?_
    refine ret_t ?_
    have h_22 := h_15.ch c_20 (by simp)
    have h_23 := hvw.ch ((c_4.app c_13).app c_20) (by simp)
    have h_24 := hvv.mv ((c_4.app c_13).app c_20) (tagn (by simp))
    have h_25 := hvo.mv ((c_4.app c_13).app c_20) (tagn (by simp))
    have h_26 := hvk.mv ((c_4.app c_13).app c_20) (tagn (by simp))
    have h_27 := h_9.mv (c_13.app c_20) (rngn (by simp))
    have h_28 := call2a.mv c_20 (rngn (by simp))
    have h_29 := h_16.mv c_20 (rngn (by simp))
    exact ⟨((((Ch.refl [U + 20, U + 21, U + 22, U + 23] s).ch c_4 (by simp)).fr c_13 hM (by simp)).ch c_20 (by simp)), .inr ⟨_, _, rfl, hh, ⟨⟨_, _, _, _, _, _, h_22, h_23, h_24, hV.kn, h_25, h_26, h_27, h_28, h_29⟩, ok.tick hn⟩, call3a⟩⟩
theorem dA3 {a b c : Value} {k : VF 3} (h : (k : Value → Value → Value → Prop) a b c) : dA 3 (.agg #[a, b, c]) k := h
theorem way_inj {V : VolM} (ok : VOk V) {p q : Int × WayM} (hp : p ∈ V.way) (hq : q ∈ V.way) (e : p.1 = q.1) : p = q := by
  obtain ⟨D, P, way, old, n⟩ := V
  have h := ok.wsr
  simp only at hp hq h
  clear ok
  induction way with
  | nil => cases hp
  | cons x l ih =>
    rw [List.pairwise_cons] at h
    rcases List.mem_cons.1 hp with hp1 | hp1 <;> rcases List.mem_cons.1 hq with hq1 | hq1
    · rw [hp1, hq1]
    · have := h.1 _ hq1; rw [hp1] at e; omega
    · have := h.1 _ hp1; rw [hq1] at e; omega
    · exact ih hp1 hq1 h.2
def VolM.going (V : VolM) (b : Int) : Bool := V.way.any fun p => p.2.blk == b
def VolM.ready (V : VolM) : List Int := V.P.blocks.filter fun b => !((V.P.free b).isEmpty || V.going b)
/-- (*bollard/volume.Volume).going -/
theorem c_vgoing (vp d U : Nat) (V : VolM) (lk : Int) (b : Int) (s : TH) (hU : 10 ≤ U) (hv : VolL s vp d U V lk) : TRet Tryz.prog 143 #[.pointer (some ⟨vp, 0, none⟩), .int .i64 b] s fun v s' => v = .bool (V.going b) ∧ Ch [] s s' := by
  obtain ⟨⟨c, p, rw_, rk, mw, mk, hV⟩, ok⟩ := id hv
  have hvb := hV.blk
  have hvw := hV.wm
  have hvv := hV.wv
  have hvo := hV.om
  have hvk := hV.kv
  have hvD := hV.dk
  have hvC := hV.ca
  have hvP := hV.ps
  have hn0 := ok.n0
  have hpok := hV.ps.ok
  have hplst := hV.ps.ok.lst
  have hnb := hV.dk.nb
  obtain ⟨M, hM, hM0, hMa, hMb, hMc, hMd, hMe, hMf⟩ := fresh6 s (U + 50) 0 0 0 0 0
  refine F143_calls _ _  ?_
  unfold F143
  refine nz_i ?_
  refine ld_t hvb rfl ?_
  refine dMap_i ?_
  refine range_t (M + 7) um52 hvw iinj fun s_1 qsem1 hqsem1 itsem1 c_3 => ?_
  have z_4 := c_3.size
  refine ⟨fun vs H' => ∃ s' : TH, s'.h = H' ∧ vs = [] ∧ Ch [M + 7, M + 9] s_1 s' ∧ (∃ vis, ItK (Value.int .i64) s' qsem1 rw_ mw vis (U + 1) (M + 7) ∧ ∀ p ∈ V.way, p.1 ∈ vis → p.2.blk ≠ b), fun vs H' => match vs with | [] => leftH H' qsem1 rw_ | _ => 0, ⟨s_1, rfl, rfl, Ch.refl _ _, ?_⟩, ?_⟩
  ·
    exact ⟨[], itsem1, by simp⟩
  ·
    intro  _ _ _ _ _ _ _ _ _ _ H_ hI_6
    obtain ⟨s_5, rfl, hvs, c_7, vis, hit, hvis⟩ := hI_6
    cases hvs
    have z_8 := c_7.size
    refine next_t hit iinj (fun s_9 ksem2 xsem2 hmksem2 hvksem2 it_10 c_11o zc_11 => ?_) (fun hallksem2 => ?_)
    ·
      refine dNx_t ?_
      have c_11 : Ch [(M + 7)] s_5 s_9 := Chg.mono c_11o (fun j hj e => by subst e; rw [hit.tagq]; simp)
      have h_12 := hvv.mv ((c_3.app c_7).app c_11) (tagn (by simp <;> omega))
      obtain ⟨p1, hp1, hid1, ba1, bc1, ia1, ic1, hxv, sb1, si1, hl1⟩ := h_12.mem_ hmksem2
      subst hxv
      refine entry_t it_10 hmksem2 iinj ?_
      refine dT2 ?_
      refine dA3 ?_
      refine al_t (M + 9) fun r37 s38 hr37 b_13 c_14 z_15 => ?_
      refine st_t b_13 rfl (by simp) fun s39 b_16 c_17o z_18 => ?_
      have c_17 := on_ch b_13 c_17o
      refine st_t b_16 rfl (by simp) fun s40 b_19 c_20o z_21 => ?_
      have c_20 := on_ch b_16 c_20o
      refine st_t b_19 rfl (by simp) fun s41 b_22 c_23o z_24 => ?_
      have c_23 := on_ch b_19 c_23o
      refine ld_t b_22 rfl ?_
      refine dInt_i ?_
      refine sB_d (fun hsB1 => ?_) (fun hsB1 => ?_)
      ·
        refine ret_t ?_
        exact ⟨ret_b (List.any_eq_true.2 ⟨p1, hp1, by simpa using hsB1⟩).symm, ((((((((Ch.refl [] s).ch c_3 (by simp)).fr c_7 hM (by simp)).fr c_11 hM (by simp)).ch c_14 (by simp)).fr c_17 hM (by simp)).fr c_20 hM (by simp)).fr c_23 hM (by simp))⟩
      ·
        refine ⟨⟨s41, rfl, rfl, (((((((Ch.refl [M + 7, M + 9] s_1).ch c_7 (by simp)).ch c_11 (by simp)).ch c_14 (by simp)).ch c_17 (by simp)).ch c_20 (by simp)).ch c_23 (by simp)), ?_⟩, ?_⟩
        ·
          have h_25 := it_10.ch (((c_14.app c_17).app c_20).app c_23) (by simp <;> omega) (by simp <;> omega)
          refine ⟨_, h_25, fun p hp hpv => ?_⟩
          rcases List.mem_append.1 hpv with h | h
          · exact hvis p hp h
          · rw [List.mem_singleton] at h
            have e : p = p1 := way_inj ok hp hp1 (by rw [h, hid1])
            subst e; exact hsB1
        ·
          have h_26 := it_10.ch (((c_14.app c_17).app c_20).app c_23) (by simp <;> omega) (by simp <;> omega)
          exact it_less iinj hit h_26 hmksem2 hvksem2 (List.Sublist.refl _)
    ·
      refine dNx_f ?_
      refine ret_t ?_
      exact ⟨ret_b (by
        rw [eq_comm]
        exact List.any_eq_false.2 fun p hp => by
          have := hvis p hp (hallksem2 _ (by rw [hvv.keys]; exact List.mem_map.2 ⟨p, hp, rfl⟩))
          simpa using this), (((Ch.refl [] s).ch c_3 (by simp)).fr c_7 hM (by simp))⟩
/-- (*bollard/volume.Volume).ready$1 -/
theorem c_vready1 (vp d U : Nat) (V : VolM) (lk : Int) (x : Int) {r0 r1 t0 t1 τ0 τ1 : Nat} {za : Option Addr} (zc : Nat) {τz : Nat} (s : TH) (hU : 10 ≤ U) (hv : VolL s vp d U V lk) (hr0 : Blk s r0 [.pointer (some ⟨vp, 0, none⟩)] t0 τ0) (hr1 : Blk s r1 [.slice za 128 zc] t1 τ1) (hz : Sl s za (bvs (List.replicate 128 0)) τz) : TRet Tryz.prog 141 #[.int .i64 x, .pointer (some ⟨r0, 0, none⟩), .pointer (some ⟨r1, 0, none⟩)] s fun v s' => v = .bool ((V.P.free x).isEmpty || V.going x) ∧ Ch [] s s' := by
  obtain ⟨⟨c, p, rw_, rk, mw, mk, hV⟩, ok⟩ := id hv
  have hvb := hV.blk
  have hvw := hV.wm
  have hvv := hV.wv
  have hvo := hV.om
  have hvk := hV.kv
  have hvD := hV.dk
  have hvC := hV.ca
  have hvP := hV.ps
  have hn0 := ok.n0
  have hpok := hV.ps.ok
  have hplst := hV.ps.ok.lst
  have hnb := hV.dk.nb
  obtain ⟨M, hM, hM0, hMa, hMb, hMc, hMd, hMe, hMf⟩ := fresh6 s (U + 50) τ0 τ1 τz 0 0
  refine F141_calls _ _ _  ?_
  unfold F141
  refine ld_t hr0 rfl ?_
  refine dPtr_i ?_
  refine nz_i ?_
  refine ld_t hvb rfl ?_
  refine dPtr_i ?_
  refine ld_t hr1 rfl ?_
  refine dSl_i ?_
  refine tcall (c_plan p (U + 30) V.P (M + 1) x _ _ (by omega) hvP hz (by simp)) ?_
  rintro v_2 s_1 ⟨c_4, call1a⟩
  have z_5 := c_4.size
  rcases call1a with ⟨rfl, hfe⟩ | ⟨a1, c1, a2, c2, rfl, hfe, ho1, ho2⟩
  ·
    refine dT3 ?_
    refine dSl_i ?_
    refine dSl_i ?_
    refine dInt_i ?_
    refine sB_t (by rfl) ?_
    refine ret_t ?_
    exact ⟨ret_b (by rw [hfe]; rfl), ((Ch.refl [] s).ch c_4 (by simp))⟩
  ·
    refine dT3 ?_
    refine dSl_i ?_
    refine dSl_i ?_
    refine dInt_i ?_
    refine sB_f (by rfl) ?_
    have h_6 := hr0.ch c_4 (by simp)
    refine ld_t h_6 rfl ?_
    refine dPtr_i ?_
    have h_7 := hv.mv c_4 (rngn50 (by simp))
    refine tcall (c_vgoing vp d U V lk x _ hU h_7) ?_
    rintro v_9 s_8 ⟨rfl, c_11⟩
    have z_12 := c_11.size
    refine dBl_i ?_
    refine ret_t ?_
    exact ⟨ret_b (by rw [show (V.P.free x).isEmpty = false by simpa using hfe, Bool.false_or]), (((Ch.refl [] s).ch c_4 (by simp)).ch c_11 (by simp))⟩
/-- (*bollard/volume.Volume).ready -/
theorem c_vready (vp d U : Nat) (V : VolM) (lk : Int) (τ : Nat) (s : TH) (hU : 10 ≤ U) (hv : VolL s vp d U V lk) : TRet Tryz.prog 83 #[.pointer (some ⟨vp, 0, none⟩)] s fun v s' => ∃ a c', v = .slice a V.ready.length c' ∧ Ch [] s s' ∧ Own s' a V.ready.length c' 3 1 (ivs V.ready) τ := by
  obtain ⟨⟨c, p, rw_, rk, mw, mk, hV⟩, ok⟩ := id hv
  have hvb := hV.blk
  have hvw := hV.wm
  have hvv := hV.wv
  have hvo := hV.om
  have hvk := hV.kv
  have hvD := hV.dk
  have hvC := hV.ca
  have hvP := hV.ps
  have hn0 := ok.n0
  have hpok := hV.ps.ok
  have hplst := hV.ps.ok.lst
  have hnb := hV.dk.nb
  obtain ⟨M, hM, hM0, hMa, hMb, hMc, hMd, hMe, hMf⟩ := fresh6 s (U + 50) τ 0 0 0 0
  refine F83_calls _  ?_
  unfold F83
  refine al_t (M + 1) fun r1 s2 hr1 b_1 c_2 z_3 => ?_
  refine ask_t (by omega) ?_
  refine al_t (M + 2) fun r3 s4 hr3 b_4 c_5 z_6 => ?_
  have hz0 : Sl s4 (some ⟨r3, 0, none⟩) (bvs (List.replicate 128 0)) (M + 2) := by have h := b_4.sl; rwa [show (Int.toNat 128) = 128 from rfl, rowZ_bvs] at h
  refine al_t (M + 3) fun r5 s6 hr5 b_7 c_8 z_9 => ?_
  refine st_t b_7 rfl (by simp) fun s7 b_10 c_11o z_12 => ?_
  have c_11 := on_ch b_7 c_11o
  have h_13 := b_1.ch ((c_5.app c_8).app c_11) (by simp)
  refine ld_t h_13 rfl ?_
  refine dPtr_i ?_
  refine nz_i ?_
  have h_14 := hvb.ch (((c_2.app c_5).app c_8).app c_11) (by simp <;> omega)
  refine ld_t h_14 rfl ?_
  refine dPtr_i ?_
  have h_15 := hvP.mv (((c_2.app c_5).app c_8).app c_11) (rngn (by simp <;> omega))
  refine tcall (c_pblocks _ _ _ (M + 5) _ (by omega) h_15) ?_
  rintro v_17 s_16 ⟨acall1, ccall1, rfl, c_19, call1a⟩
  have z_20 := c_19.size
  have hbl := blocks_len hpok
  refine dSl_i ?_
  have h_21 := hv.mv ((((c_2.app c_5).app c_8).app c_11).app c_19) (rngn50 (by simp <;> omega))
  have hVf := h_21
  have h_22 := h_13.ch c_19 (by simp)
  have hr1f := h_22
  have h_23 := b_10.ch c_19 (by simp)
  have hr5f := h_23
  have h_24 := hz0.mv ((c_8.app c_11).app c_19) (tagn (by simp))
  have hzf := h_24
  refine tcall (c_dfInt _ (fun y => (V.P.free y).isEmpty || V.going y) call1a (by omega) (by kernel_rfl) (fun s1 x hx hc => c_vready1 vp d U V lk x _ s1 hU (hVf.mv hc (rngn50 (by simp <;> omega))) (hr1f.ch hc (by simp)) (hr5f.ch hc (by simp)) (hzf.mv hc (tagn (by simp))))) ?_
  rintro v_26 s_25 ⟨rfl, c_28, call2a⟩
  have z_29 := c_28.size
  refine dSl_i ?_
  have ho := call2a
  exact ret_t' (s' := remark s_25 (M + 5) τ) rfl ⟨_, _, rfl, remark_ch (((((((Ch.refl [] s).ch c_2 (by simp)).ch c_5 (by simp)).ch c_8 (by simp)).fr c_11 hM (by simp)).ch c_19 (by simp)).fr c_28 hM (by simp)) hM (by omega), ho.remark⟩
def VolM.plan (V : VolM) (b : Int) : List UInt8 := V.P.over (V.blk b) (V.P.free b)
def VolM.sent (V : VolM) (b : Int) : VolM := { V with n := V.n + 1, D := { V.D with queue := V.D.queue ++ [⟨V.D.last + 1, b, V.plan b⟩], last := V.D.last + 1 }, way := V.way ++ [(V.D.last + 1, ⟨b, V.plan b, V.P.free b⟩)] }
def VolM.write (V : VolM) (b : Int) : VolM × Int :=
  if ¬ V.D.has b then (V, 90)
  else if V.going b = true then (V, 3)
  else if V.P.free b = [] then (V, 71)
  else if 64 ≤ V.way.length then (V.tick, 3)
  else (V.sent b, 0)
theorem going_ixf {V : VolM} (ok : VOk V) {b : Int} (h : V.going b = false) : ¬ ixf (fun m : SentM => m.blk == b) V.D.queue ≥ 0 := by
  intro h2
  rcases ixf_cases (fun m : SentM => m.blk == b) V.D.queue with ⟨h3, _⟩ | ⟨k, x, h3, h4, h5⟩
  · rw [h3] at h2; omega
  · have h6 := List.mem_of_getElem? h4
    rw [ok.que] at h6
    obtain ⟨p, hp, rfl⟩ := List.mem_map.1 h6
    have := List.any_eq_false.1 h p hp
    exact this h5
theorem wlen_q {V : VolM} (ok : VOk V) : V.D.queue.length = V.way.length := by rw [ok.que, List.length_map]
theorem plan_len {V : VolM} (ok : VOk V) (pok : POk V.P) {b : Int} (h : V.D.has b) : (V.plan b).length = 128 := over_len pok _ (blk_len ok h)
theorem VOk.sent {V : VolM} (ok : VOk V) (pok : POk V.P) {b : Int} (h : V.D.has b) (hw : ¬ 64 ≤ V.way.length) (hn : V.n < 1000000000000000000) : VOk (V.sent b) where
  que := by
    show V.D.queue ++ [_] = (V.way ++ [_]).map sentOf
    rw [List.map_append, ok.que]; rfl
  wid p hp := by
    have hl := ok.lst
    rcases List.mem_append.1 (show p ∈ V.way ++ [_] from hp) with h | h
    · have := ok.wid p h; exact ⟨this.1, by show p.1 ≤ V.D.last + 1; omega⟩
    · rw [List.mem_singleton] at h; subst h; exact ⟨by show 1 ≤ V.D.last + 1; omega, Int.le_refl _⟩
  wsr := List.pairwise_append.2 ⟨ok.wsr, by simp, fun a ha c hc => by
    rw [List.mem_singleton] at hc; subst hc
    have := ok.wid a ha
    show a.1 < V.D.last + 1
    omega⟩
  lst := by have := ok.lst; exact ⟨by show 0 ≤ V.D.last + 1; omega, by show V.D.last + 1 ≤ V.n + 1; omega⟩
  n0 := by have := ok.n0; exact ⟨by show 0 ≤ V.n + 1; omega, by show V.n + 1 ≤ _; omega⟩
  nof := ok.nof
  len := ok.len
  wlen := by show (V.way ++ [_]).length ≤ 64; rw [List.length_append, List.length_singleton]; omega
  wids p hp := by
    rcases List.mem_append.1 (show p ∈ V.way ++ [_] from hp) with h | h
    · exact ok.wids p h
    · rw [List.mem_singleton] at h; subst h
      have h1 := free_len pok b
      have h2 := pok.lst
      show ((V.P.free b).length : Int) ≤ 1000000
      omega
/-- (*bollard/volume.Volume).write -/
theorem c_vwrite (vp d U : Nat) (V : VolM) (lk : Int) (b : Int) (s : TH) (hU : 10 ≤ U) (hv : VolL s vp d U V lk) (hn : V.n < 1000000000000000000) : TRet Tryz.prog 84 #[.pointer (some ⟨vp, 0, none⟩), .int .i64 b] s fun v s' => v = .int .i64 (V.write b).2 ∧ Ch [U + 1, U + 10, U + 11, U + 12, U + 13, U + 14, U + 20, U + 21, U + 22, U + 23] s s' ∧ VolL s' vp d U (V.write b).1 lk := by
  obtain ⟨⟨c, p, rw_, rk, mw, mk, hV⟩, ok⟩ := id hv
  have hvb := hV.blk
  have hvw := hV.wm
  have hvv := hV.wv
  have hvo := hV.om
  have hvk := hV.kv
  have hvD := hV.dk
  have hvC := hV.ca
  have hvP := hV.ps
  have hn0 := ok.n0
  have hpok := hV.ps.ok
  have hplst := hV.ps.ok.lst
  have hnb := hV.dk.nb
  obtain ⟨M, hM, hM0, hMa, hMb, hMc, hMd, hMe, hMf⟩ := fresh6 s (U + 50) 0 0 0 0 0
  refine F84_calls _ _  ?_
  unfold F84
  refine tcall (c_vhas _ _ _ _ _ _ _ (by omega) hv) ?_
  rintro v_2 s_1 ⟨rfl, c_4⟩
  have z_5 := c_4.size
  refine dBl_i ?_
  refine sB_nd (fun hsB1 => ?_) (fun hsB1 => ?_)
  ·
    refine ret_t ?_
    have h_6 := hv.mv c_4 (rngn50 (by simp))
    rw [show V.write b = (V, 90) from by unfold VolM.write; rw [if_pos (by simpa using hsB1)]]
    exact ⟨rfl, ((Ch.refl [U + 1, U + 10, U + 11, U + 12, U + 13, U + 14, U + 20, U + 21, U + 22, U + 23] s).ch c_4 (by simp)), h_6⟩
  ·
    have h_7 := hv.mv c_4 (rngn50 (by simp))
    refine tcall (c_vgoing _ _ _ _ _ _ _ (by omega) h_7) ?_
    rintro v_9 s_8 ⟨rfl, c_11⟩
    have z_12 := c_11.size
    refine dBl_i ?_
    refine sB_i (fun hsB2 => ?_) (fun hsB2 => ?_)
    ·
      refine ret_t ?_
      have h_13 := h_7.mv c_11 (rngn50 (by simp))
      rw [show V.write b = (V, 3) from by unfold VolM.write; rw [if_neg (by simpa using hsB1), if_pos hsB2]]
      exact ⟨rfl, (((Ch.refl [U + 1, U + 10, U + 11, U + 12, U + 13, U + 14, U + 20, U + 21, U + 22, U + 23] s).ch c_4 (by simp)).ch c_11 (by simp)), h_13⟩
    ·
      refine nz_i ?_
      have h_14 := hvb.ch (c_4.app c_11) (by simp)
      refine ld_t h_14 rfl ?_
      refine dPtr_i ?_
      refine ask_t (by omega) ?_
      refine al_t (M + 1) fun r10 s11 hr10 b_15 c_16 z_17 => ?_
      have hz : Sl s11 (some ⟨r10, 0, none⟩) (bvs (List.replicate 128 0)) (M + 1) := by have h := b_15.sl; rwa [show (Int.toNat 128) = 128 from rfl, rowZ_bvs] at h
      refine ⟨?_, ?_⟩
      ·
        have h_18 := h_14.ch c_16 (by simp)
        refine ld_t h_18 rfl ?_
        refine dPtr_i ?_
        rfl
      ·
        have h_19 := hvP.mv ((c_4.app c_11).app c_16) (rngn (by simp))
        refine tcall (c_plan p (U + 30) V.P (M + 2) b _ _ (by omega) h_19 hz (by simp)) ?_
        rintro v_21 s_20 ⟨c_23, call3a⟩
        have z_24 := c_23.size
        rcases call3a with ⟨rfl, hfe⟩ | ⟨a1, c1, a2, c2, rfl, hfe, ho1, ho2⟩
        ·
          refine dT3 ?_
          refine dSl_i ?_
          refine dSl_i ?_
          refine dInt_i ?_
          refine sB_t (by rfl) ?_
          refine ret_t ?_
          have h_25 := h_7.mv ((c_11.app c_16).app c_23) (rngn50 (by simp))
          rw [show V.write b = (V, 71) from by unfold VolM.write; rw [if_neg (by simpa using hsB1), if_neg (by simp [hsB2]), if_pos hfe]]
          exact ⟨rfl, (((((Ch.refl [U + 1, U + 10, U + 11, U + 12, U + 13, U + 14, U + 20, U + 21, U + 22, U + 23] s).ch c_4 (by simp)).ch c_11 (by simp)).ch c_16 (by simp)).ch c_23 (by simp)), h_25⟩
        ·
          refine dT3 ?_
          refine dSl_i ?_
          refine dSl_i ?_
          refine dInt_i ?_
          refine sB_f (by rfl) ?_
          refine nz_i ?_
          have h_26 := h_14.ch (c_16.app c_23) (by simp)
          refine ld_t h_26 rfl ?_
          refine dPtr_i ?_
          have hh : V.D.has b := by simpa using hsB1
          have hbl := blk_len ok hh
          have h_27 := hvC.mv (((c_4.app c_11).app c_16).app c_23) (rngn (by simp))
          have h_28 := hvD.mv (((c_4.app c_11).app c_16).app c_23) (rngn (by simp))
          refine tcall (c_vcGet (M + 5) (by omega) (by omega) (by omega) h_27 h_28 hh (blk_get hh) (ok.nof b) (by omega)) ?_
          rintro v_30 s_29 ⟨acall4, cccall4, rfl, c_32, call4a, call4b⟩
          have z_33 := c_32.size
          refine dT2 ?_
          refine dSl_i ?_
          refine dInt_i ?_
          refine sB_f (by rfl) ?_
          refine nz_i ?_
          have h_34 := h_26.ch c_32 (by simp <;> omega)
          refine ld_t h_34 rfl ?_
          refine dPtr_i ?_
          have h_35 := h_19.mv (c_23.app c_32) (rngn (by simp))
          refine tcall (c_plan p (U + 30) V.P (U + 2) b _ _ (by omega) h_35 call4b.sl hbl) ?_
          rintro v_37 s_36 ⟨c_39, call5a⟩
          have z_40 := c_39.size
          rcases call5a with ⟨rfl, hfe2⟩ | ⟨a3, c3, a4, c4, rfl, hfe2, ho3, ho4⟩
          ·
            exact absurd hfe2 hfe
          ·
            refine dT3 ?_
            refine dSl_i ?_
            refine dSl_i ?_
            refine dInt_i ?_
            refine sB_f (by rfl) ?_
            refine nz_i ?_
            have h_41 := h_34.ch c_39 (by simp)
            refine ld_t h_41 rfl ?_
            refine dPtr_i ?_
            have hpl := plan_len ok hpok hh
            have hlst := ok.lst
            have h_42 := h_28.mv (c_32.app c_39) (rngn (by simp))
            refine tcall (c_write d (U + 10) V.D b 128 _ _ (by omega) h_42 ho3.sl hpl (by omega) (by omega) (by omega)) ?_
            rintro v_44 s_43 ⟨rfl, c_46, call6a⟩
            have z_47 := c_46.size
            have hwq := wlen_q ok
            have hgi := going_ixf ok hsB2
            refine dT2 ?_
            refine dInt_i ?_
            refine dInt_i ?_
            refine jn_u ?_
            refine sB_d (fun hsB7 => ?_) (fun hsB7 => ?_)
            ·
              refine nz_i ?_
              have h_48 := h_41.ch c_46 (by simp <;> omega)
              refine ld_t h_48 rfl ?_
              refine dMap_i ?_
              have h_49 := hvw.ch ((((((c_4.app c_11).app c_16).app c_23).app c_32).app c_39).app c_46) (by simp)
              refine upd_t keyI um52 h_49 (Prod.fst (Prod.snd (DiskM.write (VolM.D V) b (PatchM.over (VolM.P V) (VolM.blk V b) (PatchM.free (VolM.P V) b))))) (Value.agg #[Value.int IntKind.i64 b, Value.slice a3 128 c3, Value.slice a4 (List.length (PatchM.free (VolM.P V) b)) c4]) fun s_50 m_51 c_52o z_53 => ?_
              have c_52 : Ch [U + 1] s_43 s_50 := Chg.mono c_52o fun j _ e => by subst e; rw [h_49.tag]; simp
              intro _
              intros
              refine ret_t ?_
              have h_54 := call6a.mv c_52 (rngn (by simp))
              have h_55 := ho3.mv (c_46.app c_52) (tagn (by simp))
              have h_56 := ho4.mv (c_46.app c_52) (tagn (by simp))
              have h_57 := h_48.ch c_52 (by simp)
              have h_58 := hvv.mv (((((((c_4.app c_11).app c_16).app c_23).app c_32).app c_39).app c_46).app c_52) (tagn (by simp))
              have h_59 := hvo.mv (((((((c_4.app c_11).app c_16).app c_23).app c_32).app c_39).app c_46).app c_52) (tagn (by simp))
              have h_60 := hvk.mv (((((((c_4.app c_11).app c_16).app c_23).app c_32).app c_39).app c_46).app c_52) (tagn (by simp))
              have h_61 := call4a.mv ((c_39.app c_46).app c_52) (rngn (by simp))
              have h_62 := h_35.mv ((c_39.app c_46).app c_52) (rngn (by simp))
              have hw : ¬ 64 ≤ V.way.length := fun h => by
                have e := write_3 (x := V.plan b) hh hpl hgi (by omega)
                unfold VolM.plan at e
                rw [e] at hsB7; cases hsB7
              have e4 := write_4 (x := V.plan b) hh hpl hgi (by omega)
              have hD := h_54
              have hW := m_51
              have hfl := free_len hpok b
              unfold VolM.plan at e4
              rw [e4] at hD hW ⊢
              rw [show V.write b = (V.sent b, 0) from by unfold VolM.write; rw [if_neg (by simpa using hsB1), if_neg (by simp [hsB2]), if_neg hfe, if_neg hw]]
              have hWV : WayV s_50 (U + 2) (.agg #[.int .i64 b, .slice a3 128 c3, .slice a4 (V.P.free b).length c4]) ⟨b, V.plan b, V.P.free b⟩ := ⟨_, _, _, _, rfl, h_55.sl, h_56.sl, hpl⟩
              have hnk : V.D.last + 1 ∉ V.way.map (·.1) := fun h => by
                obtain ⟨p, hp, e⟩ := List.mem_map.1 h
                have := ok.wid p hp
                omega
              exact ⟨rfl, (((((((((Ch.refl [U + 1, U + 10, U + 11, U + 12, U + 13, U + 14, U + 20, U + 21, U + 22, U + 23] s).ch c_4 (by simp)).ch c_11 (by simp)).ch c_16 (by simp)).ch c_23 (by simp)).fr c_32 hM (by simp)).ch c_39 (by simp)).fr c_46 hM (by simp)).ch c_52 (by simp)), ⟨⟨_, _, _, _, _, _, h_57, hW, WMap.snoc (p := (V.D.last + 1, ⟨b, V.plan b, V.P.free b⟩)) hWV h_58 hnk, hV.kn, h_59, h_60, hD, h_61, h_62⟩, ok.sent hpok hh hw hn⟩⟩
            ·
              intro _
              intros
              refine ret_t ?_
              have h_63 := h_41.ch c_46 (by simp <;> omega)
              have h_64 := hvw.ch ((((((c_4.app c_11).app c_16).app c_23).app c_32).app c_39).app c_46) (by simp)
              have h_65 := hvv.mv ((((((c_4.app c_11).app c_16).app c_23).app c_32).app c_39).app c_46) (tagn (by simp))
              have h_66 := hvo.mv ((((((c_4.app c_11).app c_16).app c_23).app c_32).app c_39).app c_46) (tagn (by simp))
              have h_67 := hvk.mv ((((((c_4.app c_11).app c_16).app c_23).app c_32).app c_39).app c_46) (tagn (by simp))
              have h_68 := call4a.mv (c_39.app c_46) (rngn (by simp))
              have h_69 := h_35.mv (c_39.app c_46) (rngn (by simp))
              have hw : 64 ≤ V.way.length := by
                by_cases h : 64 ≤ V.way.length
                · exact h
                · exfalso
                  have e4 := write_4 (x := V.plan b) hh hpl hgi (by omega)
                  unfold VolM.plan at e4
                  rw [e4] at hsB7; exact hsB7 rfl
              have e3 := write_3 (x := V.plan b) hh hpl hgi (by omega)
              have hD := call6a
              unfold VolM.plan at e3
              rw [e3] at hD ⊢
              rw [show V.write b = (V.tick, 3) from by unfold VolM.write; rw [if_neg (by simpa using hsB1), if_neg (by simp [hsB2]), if_neg hfe, if_pos hw]]
              exact ⟨rfl, ((((((((Ch.refl [U + 1, U + 10, U + 11, U + 12, U + 13, U + 14, U + 20, U + 21, U + 22, U + 23] s).ch c_4 (by simp)).ch c_11 (by simp)).ch c_16 (by simp)).ch c_23 (by simp)).fr c_32 hM (by simp)).ch c_39 (by simp)).fr c_46 hM (by simp)), ⟨⟨_, _, _, _, _, _, h_63, h_64, h_65, hV.kn, h_66, h_67, hD, h_68, h_69⟩, ok.tick hn⟩⟩
theorem QRel.keep {s : TH} {σ μ τ : Nat} {hs : List (Int × Int × Hd)} {q : List SentM} (h : QRel s σ hs q) (hn : σ ≠ μ) : QRel (remark s μ τ) σ hs q := ⟨h.len, fun i p b h1 h2 => ⟨(h.at_ i p b h1 h2).1, (h.at_ i p b h1 h2).2.1, ⟨(h.at_ i p b h1 h2).2.2.sl.keep hn, (h.at_ i p b h1 h2).2.2.len⟩⟩⟩
theorem BRel.keep {s : TH} {σ μ τ : Nat} {hs : List Hd} {q : List (List UInt8)} (h : BRel s σ hs q) (hn : σ ≠ μ) : BRel (remark s μ τ) σ hs q := ⟨h.len, fun i p b h1 h2 => ⟨(h.at_ i p b h1 h2).sl.keep hn, (h.at_ i p b h1 h2).len⟩⟩
theorem ByAt.nn {s : TH} {τ : Nat} {p : Hd} {b : List UInt8} (h : ByAt s τ p b) : p.1 = none → 128 = 0 := fun e => by obtain ⟨a, ha⟩ := h.ne; rw [e] at ha; cases ha
/-- bollard/disk.sent -/
theorem c_qsent (τ : Nat) {xa : Option Addr} {xn : Nat} (xc : Nat) {qs : List (Int × Int × Hd)} {q : List SentM} {τx τb : Nat} (s : TH) (hx : Sl s xa (qs.flatMap qv) τx) (hq : QRel s τb qs q) (hn : qs.length = xn) (hn2 : xn ≤ 1000) : TRet Tryz.prog 86 #[.slice xa xn xc] s fun v s' => ∃ a c' qs', v = .slice a xn c' ∧ Ch [] s s' ∧ Own s' a xn c' 96 3 (qs'.flatMap qv) τ ∧ QRel s' τ qs' q := by
  obtain ⟨M, hM, hM0, hMa, hMb, hMc, hMd, hMe, hMf⟩ := fresh6 s τx τb τ 0 0 0
  refine F86_calls _ _ _  ?_
  unfold F86
  refine ⟨fun vs H' => ∃ s' : TH, s'.h = H' ∧ ∃ oa on oc i, vs = [.slice oa on oc, .int .i64 i] ∧ Ch [M + 1, M + 9] s s' ∧ (∃ (k : Nat) (qs2 : List (Int × Int × Hd)), i = k ∧ k ≤ xn ∧ on = k ∧ Own s' oa on oc 96 3 (qs2.flatMap qv) (M + 1) ∧ QRel s' τ qs2 (q.take k)), fun vs H' => match vs with | [.slice oa on oc, .int .i64 i] => ((xn : Int) - i).toNat | _ => 0, ⟨s, rfl, _, _, _, _, rfl, Ch.refl _ _, ?_⟩, ?_⟩
  ·
    exact ⟨0, [], rfl, by omega, rfl, Own.nil _ _ _ _, QRel.nil _ _⟩
  ·
    intro oa on oc i _ _ _ _ _ _ _ _ _ _ _ _ _ H_ hI_2
    obtain ⟨s_1, rfl, oa_, on_, oc_, i_, hvs, c_3, k, qs2, rfl, hk, hon, ho, hq2⟩ := hI_2
    cases hvs
    have z_4 := c_3.size
    refine sB_d (fun hsB1 => ?_) (fun hsB1 => ?_)
    ·
      have h_5 := hq.mv c_3 (tagn (by simp <;> omega))
      have hk2 : k < qs.length := by omega
      obtain ⟨y, hy⟩ : ∃ y, qs[k]? = some y := ⟨qs[k], by simp [hk2]⟩
      have hql := hq.len
      obtain ⟨m, hm⟩ : ∃ m, q[k]? = some m := ⟨q[k]'(by omega), by simp⟩
      obtain ⟨a, rfl⟩ := hx.some (fun e => by have := qcell0 hy; rw [e] at this; simp at this)
      have hqa := ((h_5).at_ k y m hy hm)
      have hyb := hqa.2.2
      refine nz_i ?_
      refine ask_t (by omega) ?_
      have h_6 := hx.mv c_3 (tagn (by simp <;> omega))
      refine ld_sl h_6 (by rw [Int.toNat_natCast]; exact qcell0 hy) ?_
      refine ld_sl2 h_6 (by rw [Int.toNat_natCast]; exact qcell1 hy) ?_
      refine ld_sl2 h_6 (by rw [Int.toNat_natCast]; exact qcell2 hy) ?_
      refine al_t (M + 9) fun r26 s27 hr26 b_7 c_8 z_9 => ?_
      refine st_t b_7 rfl (by simp) fun s28 b_10 c_11o z_12 => ?_
      have c_11 := on_ch b_7 c_11o
      refine st_t b_10 rfl (by simp) fun s29 b_13 c_14o z_15 => ?_
      have c_14 := on_ch b_10 c_14o
      refine st_t b_13 rfl (by simp) fun s30 b_16 c_17o z_18 => ?_
      have c_17 := on_ch b_13 c_17o
      refine ld_t b_16 rfl ?_
      refine dSl_i ?_
      have h_19 := hyb.mv (((c_8.app c_11).app c_14).app c_17) (tagn (by simp <;> omega))
      refine tcall (c_clone τ _ h_19.sl h_19.len h_19.nn (by omega)) ?_
      rintro v_21 s_20 ⟨acall1, ccall1, rfl, c_23, call1a, call1b⟩
      have z_24 := c_23.size
      refine dSl_i ?_
      have h_28 := b_16.ch c_23 (by simp)
      refine st_t h_28 rfl (by simp) fun s40 b_25 c_26o z_27 => ?_
      have c_26 := on_ch h_28 c_26o
      refine ld_t b_25 rfl ?_
      refine ld_t b_25 rfl ?_
      refine ld_t b_25 rfl ?_
      refine al_t (M + 9) fun r44 s45 hr44 b_29 c_30 z_31 => ?_
      have h_32 := ho.mv ((((((c_8.app c_11).app c_14).app c_17).app c_23).app c_26).app c_30) (tagn (by simp))
      refine app_i u93 in96 rfl h_32 b_29.sl (m := 1) (k := 3) rfl (by intro u hu; simp at hu; rcases hu with rfl | rfl | rfl <;> rfl) (by simp) (by unfold maxLen; omega) fun s_33 oa2 oc2 o_36 c_34o _ => ?_
      have c_34 := c_34o.ch h_32 (T := [M + 1]) (by simp)
      have z_35 := c_34.size
      refine dSl_i ?_
      refine wr_t (by omega) ?_
      refine ⟨⟨s_33, rfl, _, _, _, _, rfl, ((((((((((Ch.refl [M + 1, M + 9] s).ch c_3 (by simp)).ch c_8 (by simp)).ch c_11 (by simp)).ch c_14 (by simp)).ch c_17 (by simp)).ch c_23 (by simp)).ch c_26 (by simp)).ch c_30 (by simp)).ch c_34 (by simp)), ?_⟩, ?_⟩
      ·
        have h_37 := hq2.mv (((((((c_8.app c_11).app c_14).app c_17).app c_23).app c_26).app c_30).app c_34) (tagn (by simp <;> omega))
        have h_38 := call1a.mv ((c_26.app c_30).app c_34) (tagn (by simp <;> omega))
        refine ⟨k + 1, qs2 ++ [(y.1, y.2.1, (acall1, ccall1))], by omega, by omega, by omega, ?_, ?_⟩
        · rw [List.flatMap_append]; exact o_36
        · rw [show q.take (k + 1) = q.take k ++ [m] from by rw [List.take_add_one, hm]; rfl]
          exact QRel.snoc h_37 ⟨hqa.1, hqa.2.1, ⟨h_38.sl, hyb.len⟩⟩
      ·
        simp only []; omega
    ·
      obtain rfl : k = xn := by omega
      have hq3 := hq2
      have ho := ho
      rw [List.take_of_length_le (by have := hq.len; omega)] at hq3
      rw [hon] at ho ⊢
      exact ret_t' (s' := remark s_1 (M + 1) τ) rfl ⟨_, _, _, rfl, remark_ch ((Ch.refl [] s).fr c_3 hM (by simp)) hM (by omega), ho.remark, hq3.keep (by omega)⟩
/-- (*bollard/disk.Disk).Queue -/
theorem c_queue (τ d T : Nat) (D : DiskM) (s : TH) (hT : 10 ≤ T) (hd : Disk s d T D) : TRet Tryz.prog 36 #[.pointer (some ⟨d, 0, none⟩)] s fun v s' => ∃ a c' qs', v = .slice a D.queue.length c' ∧ Ch [] s s' ∧ Own s' a D.queue.length c' 96 3 (qs'.flatMap qv) τ ∧ QRel s' τ qs' D.queue := by
  obtain ⟨pa, pc, qa, qc, hs, qs, fr, fm, hD⟩ := id hd
  have hdb := hD.blk
  have hdq := hD.que
  have hdr := hD.qrel
  have hqn := hD.nq
  refine F36_calls _  ?_
  unfold F36
  refine sB_f (by rfl) ?_
  refine nz_i ?_
  refine ld_t hdb rfl ?_
  refine dSl_i ?_
  refine tcall (c_qsent τ _ _ hdq.sl hdr hD.qrel.len (by omega)) ?_
  rintro v_2 s_1 ⟨acall1, ccall1, qscall1, rfl, c_4, call1a, call1b⟩
  have z_5 := c_4.size
  refine dSl_i ?_
  refine ret_t ?_
  exact ⟨_, _, _, rfl, ((Ch.refl [] s).ch c_4 (by simp)), call1a, call1b⟩
def VolM.lost (V : VolM) (k : Nat) : VolM := { V with D := { V.D with queue := V.D.queue.eraseIdx k }, way := V.way.eraseIdx k }
def VolM.landed (V : VolM) (k : Nat) (w : WayM) : VolM := { V with D := { V.D with queue := V.D.queue.eraseIdx k, blocks := V.D.blocks.set w.blk.toNat w.by_ }, way := V.way.eraseIdx k, P := (V.P.doneP w.ids).1 }
def VolM.compl (V : VolM) (k : Int) (ok : Bool) : VolM × Int :=
  if k < 0 ∨ k ≥ V.way.length then (V, 1)
  else match V.way[k.toNat]? with
    | none => (V, 1)
    | some w => if ok = false then (V.lost k.toNat, 4) else (V.landed k.toNat w.2, (V.P.doneP w.2.ids).2)
theorem erase_map {α β : Type} (f : α → β) : ∀ (l : List α) (k : Nat), (l.map f).eraseIdx k = (l.eraseIdx k).map f
  | [], k => by simp
  | x :: l, 0 => rfl
  | x :: l, k + 1 => by simp [erase_map f l k]
theorem Disk.qin2 {s : TH} {d T : Nat} {D : DiskM} (h : Disk s d T D) {m : SentM} (hm : m ∈ D.queue) : 0 ≤ m.blk ∧ m.blk < D.blocks.length := by obtain ⟨_, _, _, _, _, _, _, _, h⟩ := h; exact h.qin m hm
theorem way_q {V : VolM} (ok : VOk V) {k : Nat} {p : Int × WayM} (h : V.way[k]? = some p) : V.D.queue[k]? = some (sentOf p) := by rw [ok.que, List.getElem?_map, h]; rfl
theorem way_ixf {V : VolM} (ok : VOk V) {k : Nat} {p : Int × WayM} (h : V.way[k]? = some p) : ixf (fun m : SentM => m.id == p.1) V.D.queue = (k : Int) := by
  refine ixf_some (x := sentOf p) (way_q ok h) (by simp [sentOf]) fun j y hj hy => ?_
  rw [ok.que, List.getElem?_map] at hy
  obtain ⟨z, hz, rfl⟩ := Option.map_eq_some_iff.1 hy
  have h1 := (List.getElem?_eq_some_iff.1 hz)
  have h2 := (List.getElem?_eq_some_iff.1 h)
  obtain ⟨a1, a2⟩ := h1
  obtain ⟨b1, b2⟩ := h2
  have := List.pairwise_iff_getElem.1 ok.wsr j k a1 b1 hj
  rw [a2, b2] at this
  simp only [sentOf, beq_eq_false_iff_ne]
  omega
theorem VOk.lost {V : VolM} (ok : VOk V) (k : Nat) : VOk (V.lost k) where
  que := by show V.D.queue.eraseIdx k = (V.way.eraseIdx k).map sentOf; rw [ok.que, erase_map]
  wid p hp := ok.wid p ((List.eraseIdx_sublist _ _).subset hp)
  wsr := ok.wsr.sublist (List.eraseIdx_sublist _ _)
  lst := ok.lst
  n0 := ok.n0
  nof := ok.nof
  len := ok.len
  wlen := Nat.le_trans (List.eraseIdx_sublist _ _).length_le ok.wlen
  wids p hp := ok.wids p ((List.eraseIdx_sublist _ _).subset hp)
theorem VOk.landed {V : VolM} (ok : VOk V) (k : Nat) {w : WayM} (hw : w.by_.length = 128) : VOk (V.landed k w) where
  que := by show V.D.queue.eraseIdx k = (V.way.eraseIdx k).map sentOf; rw [ok.que, erase_map]
  wid p hp := ok.wid p ((List.eraseIdx_sublist _ _).subset hp)
  wsr := ok.wsr.sublist (List.eraseIdx_sublist _ _)
  lst := ok.lst
  n0 := ok.n0
  nof := ok.nof
  len y hy := (List.mem_or_eq_of_mem_set (show y ∈ V.D.blocks.set _ _ from hy)).elim (ok.len y) fun e => e ▸ hw
  wlen := Nat.le_trans (List.eraseIdx_sublist _ _).length_le ok.wlen
  wids p hp := ok.wids p ((List.eraseIdx_sublist _ _).subset hp)
/-- (*bollard/volume.Volume).complete -/
theorem c_vcomplete (vp d U : Nat) (V : VolM) (lk : Int) (k : Int) (fok : Bool) (s : TH) (hU : 10 ≤ U) (hv : VolL s vp d U V lk) : TRet Tryz.prog 85 #[.pointer (some ⟨vp, 0, none⟩), .int .i64 k, .bool fok] s fun v s' => v = .int .i64 (V.compl k fok).2 ∧ Ch [U + 1, U + 10, U + 11, U + 12, U + 13, U + 14, U + 20, U + 21, U + 22, U + 23, U + 31, U + 32] s s' ∧ VolL s' vp d U (V.compl k fok).1 lk := by
  obtain ⟨⟨c, p, rw_, rk, mw, mk, hV⟩, ok⟩ := id hv
  have hvb := hV.blk
  have hvw := hV.wm
  have hvv := hV.wv
  have hvo := hV.om
  have hvk := hV.kv
  have hvD := hV.dk
  have hvC := hV.ca
  have hvP := hV.ps
  have hn0 := ok.n0
  have hpok := hV.ps.ok
  have hplst := hV.ps.ok.lst
  have hnb := hV.dk.nb
  obtain ⟨M, hM, hM0, hMa, hMb, hMc, hMd, hMe, hMf⟩ := fresh6 s (U + 50) 0 0 0 0 0
  refine F85_calls _ _ _  ?_
  unfold F85
  refine nz_i ?_
  refine ld_t hvb rfl ?_
  refine dPtr_i ?_
  refine tcall (c_queue (M + 6) d (U + 10) V.D _ (by omega) hvD) ?_
  rintro v_2 s_1 ⟨acall1, ccall1, qscall1, rfl, c_4, call1a, call1b⟩
  have z_5 := c_4.size
  have hwq0 := wlen_q ok
  refine dSl_i ?_
  refine jn_u ?_
  refine sB_d (fun hsB1 => ?_) (fun hsB1 => ?_)
  ·
    intro _
    intros
    refine dBl_i ?_
    refine sB_t (by rfl) ?_
    refine ret_t ?_
    have h_6 := hv.mv c_4 (rngn50 (by simp))
    rw [show V.compl k fok = (V, 1) from by unfold VolM.compl; rw [if_pos (by omega)]]
    exact ⟨rfl, ((Ch.refl [U + 1, U + 10, U + 11, U + 12, U + 13, U + 14, U + 20, U + 21, U + 22, U + 23, U + 31, U + 32] s).ch c_4 (by simp)), h_6⟩
  ·
    intro _
    intros
    refine dBl_i ?_
    refine sB_d (fun hsB3 => ?_) (fun hsB3 => ?_)
    ·
      refine ret_t ?_
      have h_7 := hv.mv c_4 (rngn50 (by simp))
      rw [show V.compl k fok = (V, 1) from by unfold VolM.compl; rw [if_pos (by omega)]]
      exact ⟨rfl, ((Ch.refl [U + 1, U + 10, U + 11, U + 12, U + 13, U + 14, U + 20, U + 21, U + 22, U + 23, U + 31, U + 32] s).ch c_4 (by simp)), h_7⟩
    ·
      have h_8 := hvv.mv c_4 (tagn (by simp))
      obtain ⟨kk, rfl⟩ : ∃ kk : Nat, k = kk := ⟨k.toNat, by omega⟩
      have hwq := wlen_q ok
      obtain ⟨pw, hpw⟩ : ∃ p, V.way[kk]? = some p := ⟨V.way[kk]'(by omega), by simp⟩
      have hpq := way_q ok hpw
      have hpx := way_ixf ok hpw
      have hql := (call1b).len
      obtain ⟨y, hy⟩ : ∃ y, qscall1[kk]? = some y := ⟨qscall1[kk]'(by omega), by simp⟩
      have hyi := ((call1b).at_ kk y _ hy hpq).1
      have hyi2 : y.1 = pw.1 := hyi
      obtain ⟨wv, hwv, ⟨ba1, bc1, ia1, ic1, hxv, sb1, si1, hl1⟩⟩ := WMap.get h_8 ok.wnd hpw
      subst hxv
      have hpm := List.mem_of_getElem? hpw
      have hwi := ok.wids pw hpm
      have hqin := hV.dk
      have hcm0 : V.compl kk fok = if fok = false then (V.lost kk, 4) else (V.landed kk pw.2, (V.P.doneP pw.2.ids).2) := by unfold VolM.compl; rw [if_neg (by omega), Int.toNat_natCast, hpw]
      refine nz_i ?_
      have h_9 := hvb.ch c_4 (by simp)
      refine ld_t h_9 rfl ?_
      refine dMap_i ?_
      obtain ⟨a_10, rfl⟩ := call1a.ne_none (by omega)
      refine nz_i ?_
      refine ask_t (by omega) ?_
      refine ld_sl (call1a).sl (by rw [Int.toNat_natCast]; exact qcell0 hy) ?_
      refine dInt_i ?_
      refine ⟨?_, ?_⟩
      ·
        have h_11 := hvw.ch c_4 (by simp)
        refine look_oks keyI um52 z153 h_11 y.1 (by rw [hyi2]; exact hwv) ?_
        refine dT2 ?_
        refine dA3 ?_
        refine dBl_i ?_
        refine al_t (M + 1) fun r35 s36 hr35 b_12 c_13 z_14 => ?_
        refine st_t b_12 rfl (by simp) fun s37 b_15 c_16o z_17 => ?_
        have c_16 := on_ch b_12 c_16o
        refine st_t b_15 rfl (by simp) fun s38 b_18 c_19o z_20 => ?_
        have c_19 := on_ch b_15 c_19o
        refine st_t b_18 rfl (by simp) fun s39 b_21 c_22o z_23 => ?_
        have c_22 := on_ch b_18 c_22o
        refine nz_i ?_
        have h_24 := h_9.ch (((c_13.app c_16).app c_19).app c_22) (by simp <;> omega)
        refine ld_t h_24 rfl ?_
        refine dMap_i ?_
        refine nz_i ?_
        refine ask_t (by omega) ?_
        have h_25 := call1a.mv (((c_13.app c_16).app c_19).app c_22) (tagn (by simp))
        refine ld_sl (h_25).sl (by rw [Int.toNat_natCast]; exact qcell0 hy) ?_
        refine dInt_i ?_
        have h_26 := h_11.ch (((c_13.app c_16).app c_19).app c_22) (by simp <;> omega)
        refine del_t keyI um52 h_26 (Prod.fst y) fun s_27 m_28 c_29o z_30 => ?_
        have c_29 : Ch [U + 1] s39 s_27 := Chg.mono c_29o fun j _ e => by subst e; rw [h_26.tag]; simp
        refine nz_i ?_
        have h_31 := h_24.ch c_29 (by simp)
        refine ld_t h_31 rfl ?_
        refine dPtr_i ?_
        refine nz_i ?_
        refine ask_t (by omega) ?_
        have h_32 := h_25.mv c_29 (tagn (by simp <;> omega))
        refine ld_sl (h_32).sl (by rw [Int.toNat_natCast]; exact qcell0 hy) ?_
        refine dInt_i ?_
        have h_33 := hvD.mv (((((c_4.app c_13).app c_16).app c_19).app c_22).app c_29) (rngn (by simp <;> omega))
        refine tcall (c_complete d (U + 10) V.D y.1 fok _ (by omega) h_33) ?_
        rintro v_35 s_34 ⟨rfl, c_37, call2a⟩
        have z_38 := c_37.size
        refine dInt_i ?_
        refine jn_u ?_
        refine sB_nd (fun hsB4 => ?_) (fun hsB4 => ?_)
        ·
          intro _
          intros
          refine dBl_i ?_
          refine sB_t (by rfl) ?_
          refine ret_t ?_
          have h_39 := m_28.ch c_37 (by simp)
          have h_40 := h_31.ch c_37 (by simp <;> omega)
          have h_41 := h_8.mv (((((c_13.app c_16).app c_19).app c_22).app c_29).app c_37) (tagn (by simp <;> omega))
          have h_42 := hvo.mv ((((((c_4.app c_13).app c_16).app c_19).app c_22).app c_29).app c_37) (tagn (by simp <;> omega))
          have h_43 := hvk.mv ((((((c_4.app c_13).app c_16).app c_19).app c_22).app c_29).app c_37) (tagn (by simp <;> omega))
          have h_44 := hvC.mv ((((((c_4.app c_13).app c_16).app c_19).app c_22).app c_29).app c_37) (rngn (by simp <;> omega))
          have h_45 := hvP.mv ((((((c_4.app c_13).app c_16).app c_19).app c_22).app c_29).app c_37) (rngn (by simp <;> omega))
          have hff : fok = false := by
            cases hfk : fok with
            | false => rfl
            | true => exfalso; rw [hyi2, hfk, compl_3 hpx hpq] at hsB4; exact hsB4 rfl
          have hW := h_39
          have hD := call2a
          rw [hyi2] at hW
          rw [hyi2, hff, compl_2 hpx hpq] at hD ⊢
          rw [hff] at hcm0
          rw [hcm0, if_pos rfl]
          exact ⟨rfl, ((((((((Ch.refl [U + 1, U + 10, U + 11, U + 12, U + 13, U + 14, U + 20, U + 21, U + 22, U + 23, U + 31, U + 32] s).ch c_4 (by simp)).ch c_13 (by simp)).fr c_16 hM (by simp)).fr c_19 hM (by simp)).fr c_22 hM (by simp)).ch c_29 (by simp)).fr c_37 hM (by simp)), ⟨⟨_, _, _, _, _, _, h_40, hW, WMap.del h_41 ok.wnd hpw, hV.kn, h_42, h_43, hD, h_44, h_45⟩, ok.lost kk⟩⟩
        ·
          refine sB_n (fun hsB6 => ?_) (fun hsB6 => ?_)
          ·
            intro _
            intros
            refine dBl_i ?_
            refine sB_t (by rfl) ?_
            refine ret_t ?_
            have h_46 := m_28.ch c_37 (by simp)
            have h_47 := h_31.ch c_37 (by simp <;> omega)
            have h_48 := h_8.mv (((((c_13.app c_16).app c_19).app c_22).app c_29).app c_37) (tagn (by simp <;> omega))
            have h_49 := hvo.mv ((((((c_4.app c_13).app c_16).app c_19).app c_22).app c_29).app c_37) (tagn (by simp <;> omega))
            have h_50 := hvk.mv ((((((c_4.app c_13).app c_16).app c_19).app c_22).app c_29).app c_37) (tagn (by simp <;> omega))
            have h_51 := hvC.mv ((((((c_4.app c_13).app c_16).app c_19).app c_22).app c_29).app c_37) (rngn (by simp <;> omega))
            have h_52 := hvP.mv ((((((c_4.app c_13).app c_16).app c_19).app c_22).app c_29).app c_37) (rngn (by simp <;> omega))
            have hW := h_46
            have hD := call2a
            rw [hyi2] at hW
            rw [hyi2, hsB6, compl_2 hpx hpq] at hD ⊢
            rw [hsB6] at hcm0
            rw [hcm0, if_pos rfl]
            exact ⟨rfl, ((((((((Ch.refl [U + 1, U + 10, U + 11, U + 12, U + 13, U + 14, U + 20, U + 21, U + 22, U + 23, U + 31, U + 32] s).ch c_4 (by simp)).ch c_13 (by simp)).fr c_16 hM (by simp)).fr c_19 hM (by simp)).fr c_22 hM (by simp)).ch c_29 (by simp)).fr c_37 hM (by simp)), ⟨⟨_, _, _, _, _, _, h_47, hW, WMap.del h_48 ok.wnd hpw, hV.kn, h_49, h_50, hD, h_51, h_52⟩, ok.lost kk⟩⟩
          ·
            intro _
            intros
            refine dBl_i ?_
            refine sB_f (by rfl) ?_
            refine nz_i ?_
            have h_53 := h_31.ch c_37 (by simp <;> omega)
            refine ld_t h_53 rfl ?_
            refine dPtr_i ?_
            have h_54 := b_21.ch (c_29.app c_37) (by simp <;> omega)
            refine ld_t h_54 rfl ?_
            refine dInt_i ?_
            refine ld_t h_54 rfl ?_
            refine dSl_i ?_
            have hbq := hV.dk.qin2 (List.mem_of_getElem? hpq)
            have e5 := compl_3 hpx hpq
            have hft : fok = true := by assumption
            have h_55 := hvC.mv ((((((c_4.app c_13).app c_16).app c_19).app c_22).app c_29).app c_37) (rngn (by simp <;> omega))
            have h_56 := sb1.mv (((((c_13.app c_16).app c_19).app c_22).app c_29).app c_37) (tagn (by simp <;> omega))
            refine tcall (c_vcPut (b := pw.2.blk) (D := (V.D.complete y.1 fok).1) _ (by omega) (by omega) (by omega) h_55 call2a (by rw [hyi2, hft, e5]; unfold DiskM.has; rw [List.length_set]; exact hbq) (by rw [hyi2, hft, e5, List.length_set]) h_56 hl1) ?_
            rintro v_58 s_57 ⟨rfl, c_60, call3a⟩
            have z_61 := c_60.size
            refine dInt_i ?_
            refine sB_f (by rfl) ?_
            refine nz_i ?_
            have h_62 := h_53.ch c_60 (by simp <;> omega)
            refine ld_t h_62 rfl ?_
            refine dPtr_i ?_
            have h_63 := h_54.ch c_60 (by simp <;> omega)
            refine ld_t h_63 rfl ?_
            refine dSl_i ?_
            have h_64 := hvP.mv (((((((c_4.app c_13).app c_16).app c_19).app c_22).app c_29).app c_37).app c_60) (rngn (by simp <;> omega))
            have h_65 := si1.mv ((((((c_13.app c_16).app c_19).app c_22).app c_29).app c_37).app c_60) (tagn (by simp <;> omega))
            refine tcall (c_pdone p (U + 30) V.P _ _ (by omega) h_64 h_65 rfl (by omega) (by omega)) ?_
            rintro v_67 s_66 ⟨rfl, c_69, call4a⟩
            have z_70 := c_69.size
            refine dInt_i ?_
            refine ret_t ?_
            have h_71 := m_28.ch ((c_37.app c_60).app c_69) (by simp)
            have h_72 := call2a.mv (c_60.app c_69) (rngn (by simp))
            have h_73 := h_62.ch c_69 (by simp <;> omega)
            have h_74 := h_8.mv (((((((c_13.app c_16).app c_19).app c_22).app c_29).app c_37).app c_60).app c_69) (tagn (by simp <;> omega))
            have h_75 := hvo.mv ((((((((c_4.app c_13).app c_16).app c_19).app c_22).app c_29).app c_37).app c_60).app c_69) (tagn (by simp <;> omega))
            have h_76 := hvk.mv ((((((((c_4.app c_13).app c_16).app c_19).app c_22).app c_29).app c_37).app c_60).app c_69) (tagn (by simp <;> omega))
            have h_77 := call3a.mv c_69 (rngn (by simp))
            have hW := h_71
            have hD := h_72
            rw [hyi2] at hW
            rw [hyi2, hft, compl_3 hpx hpq] at hD
            rw [hft] at hcm0 ⊢
            rw [hcm0, if_neg (by simp)]
            exact ⟨rfl, ((((((((((Ch.refl [U + 1, U + 10, U + 11, U + 12, U + 13, U + 14, U + 20, U + 21, U + 22, U + 23, U + 31, U + 32] s).ch c_4 (by simp)).ch c_13 (by simp)).fr c_16 hM (by simp)).fr c_19 hM (by simp)).fr c_22 hM (by simp)).ch c_29 (by simp)).fr c_37 hM (by simp)).fr c_60 hM (by simp)).fr c_69 hM (by simp)), ⟨⟨_, _, _, _, _, _, h_73, hW, WMap.del h_74 ok.wnd hpw, hV.kn, h_75, h_76, hD, h_77, call4a⟩, ok.landed kk hl1⟩⟩
      ·
        refine al_t (M + 1) fun r100 s101 hr100 b_78 c_79 z_80 => ?_
        refine ⟨?_, ?_⟩
        ·
          have h_81 := call1a.mv c_79 (tagn (by simp))
          refine ld_sl (h_81).sl (by rw [Int.toNat_natCast]; exact qcell0 hy) ?_
          refine dInt_i ?_
          rfl
        ·
          refine ⟨?_, ?_⟩
          ·
            have h_82 := h_9.ch c_79 (by simp)
            refine ld_t h_82 rfl ?_
            refine dMap_i ?_
            rfl
          ·
            have h_83 := hvw.ch (c_4.app c_79) (by simp)
            refine look_oks keyI um52 z153 h_83 y.1 (by rw [hyi2]; exact hwv) ?_
            refine dT2 ?_
            refine dA3 ?_
            refine dBl_i ?_
            refine st_t b_78 rfl (by simp) fun s116 b_84 c_85o z_86 => ?_
            have c_85 := on_ch b_78 c_85o
            refine st_t b_84 rfl (by simp) fun s117 b_87 c_88o z_89 => ?_
            have c_88 := on_ch b_84 c_88o
            refine st_t b_87 rfl (by simp) fun s118 b_90 c_91o z_92 => ?_
            have c_91 := on_ch b_87 c_91o
            refine nz_i ?_
            have h_93 := h_9.ch (((c_79.app c_85).app c_88).app c_91) (by simp <;> omega)
            refine ld_t h_93 rfl ?_
            refine dMap_i ?_
            refine nz_i ?_
            refine ask_t (by omega) ?_
            have h_94 := call1a.mv (((c_79.app c_85).app c_88).app c_91) (tagn (by simp))
            refine ld_sl (h_94).sl (by rw [Int.toNat_natCast]; exact qcell0 hy) ?_
            refine dInt_i ?_
            have h_95 := h_83.ch ((c_85.app c_88).app c_91) (by simp <;> omega)
            refine del_t keyI um52 h_95 (Prod.fst y) fun s_96 m_97 c_98o z_99 => ?_
            have c_98 : Ch [U + 1] s118 s_96 := Chg.mono c_98o fun j _ e => by subst e; rw [h_95.tag]; simp
            refine nz_i ?_
            have h_100 := h_93.ch c_98 (by simp)
            refine ld_t h_100 rfl ?_
            refine dPtr_i ?_
            refine nz_i ?_
            refine ask_t (by omega) ?_
            have h_101 := h_94.mv c_98 (tagn (by simp <;> omega))
            refine ld_sl (h_101).sl (by rw [Int.toNat_natCast]; exact qcell0 hy) ?_
            refine dInt_i ?_
            have h_102 := hvD.mv (((((c_4.app c_79).app c_85).app c_88).app c_91).app c_98) (rngn (by simp <;> omega))
            refine tcall (c_complete d (U + 10) V.D y.1 fok _ (by omega) h_102) ?_
            rintro v_104 s_103 ⟨rfl, c_106, call5a⟩
            have z_107 := c_106.size
            refine dInt_i ?_
            refine jn_u ?_
            refine sB_nd (fun hsB10 => ?_) (fun hsB10 => ?_)
            ·
              intro _
              intros
              refine dBl_i ?_
              refine sB_t (by rfl) ?_
              refine ret_t ?_
              have h_108 := m_97.ch c_106 (by simp)
              have h_109 := h_100.ch c_106 (by simp <;> omega)
              have h_110 := h_8.mv (((((c_79.app c_85).app c_88).app c_91).app c_98).app c_106) (tagn (by simp <;> omega))
              have h_111 := hvo.mv ((((((c_4.app c_79).app c_85).app c_88).app c_91).app c_98).app c_106) (tagn (by simp <;> omega))
              have h_112 := hvk.mv ((((((c_4.app c_79).app c_85).app c_88).app c_91).app c_98).app c_106) (tagn (by simp <;> omega))
              have h_113 := hvC.mv ((((((c_4.app c_79).app c_85).app c_88).app c_91).app c_98).app c_106) (rngn (by simp <;> omega))
              have h_114 := hvP.mv ((((((c_4.app c_79).app c_85).app c_88).app c_91).app c_98).app c_106) (rngn (by simp <;> omega))
              have hff : fok = false := by
                cases hfk : fok with
                | false => rfl
                | true => exfalso; rw [hyi2, hfk, compl_3 hpx hpq] at hsB10; exact hsB10 rfl
              have hW := h_108
              have hD := call5a
              rw [hyi2] at hW
              rw [hyi2, hff, compl_2 hpx hpq] at hD ⊢
              rw [hff] at hcm0
              rw [hcm0, if_pos rfl]
              exact ⟨rfl, ((((((((Ch.refl [U + 1, U + 10, U + 11, U + 12, U + 13, U + 14, U + 20, U + 21, U + 22, U + 23, U + 31, U + 32] s).ch c_4 (by simp)).ch c_79 (by simp)).fr c_85 hM (by simp)).fr c_88 hM (by simp)).fr c_91 hM (by simp)).ch c_98 (by simp)).fr c_106 hM (by simp)), ⟨⟨_, _, _, _, _, _, h_109, hW, WMap.del h_110 ok.wnd hpw, hV.kn, h_111, h_112, hD, h_113, h_114⟩, ok.lost kk⟩⟩
            ·
              refine sB_n (fun hsB12 => ?_) (fun hsB12 => ?_)
              ·
                intro _
                intros
                refine dBl_i ?_
                refine sB_t (by rfl) ?_
                refine ret_t ?_
                have h_115 := m_97.ch c_106 (by simp)
                have h_116 := h_100.ch c_106 (by simp <;> omega)
                have h_117 := h_8.mv (((((c_79.app c_85).app c_88).app c_91).app c_98).app c_106) (tagn (by simp <;> omega))
                have h_118 := hvo.mv ((((((c_4.app c_79).app c_85).app c_88).app c_91).app c_98).app c_106) (tagn (by simp <;> omega))
                have h_119 := hvk.mv ((((((c_4.app c_79).app c_85).app c_88).app c_91).app c_98).app c_106) (tagn (by simp <;> omega))
                have h_120 := hvC.mv ((((((c_4.app c_79).app c_85).app c_88).app c_91).app c_98).app c_106) (rngn (by simp <;> omega))
                have h_121 := hvP.mv ((((((c_4.app c_79).app c_85).app c_88).app c_91).app c_98).app c_106) (rngn (by simp <;> omega))
                have hW := h_115
                have hD := call5a
                rw [hyi2] at hW
                rw [hyi2, hsB12, compl_2 hpx hpq] at hD ⊢
                rw [hsB12] at hcm0
                rw [hcm0, if_pos rfl]
                exact ⟨rfl, ((((((((Ch.refl [U + 1, U + 10, U + 11, U + 12, U + 13, U + 14, U + 20, U + 21, U + 22, U + 23, U + 31, U + 32] s).ch c_4 (by simp)).ch c_79 (by simp)).fr c_85 hM (by simp)).fr c_88 hM (by simp)).fr c_91 hM (by simp)).ch c_98 (by simp)).fr c_106 hM (by simp)), ⟨⟨_, _, _, _, _, _, h_116, hW, WMap.del h_117 ok.wnd hpw, hV.kn, h_118, h_119, hD, h_120, h_121⟩, ok.lost kk⟩⟩
              ·
                intro _
                intros
                refine dBl_i ?_
                refine sB_f (by rfl) ?_
                refine nz_i ?_
                have h_122 := h_100.ch c_106 (by simp <;> omega)
                refine ld_t h_122 rfl ?_
                refine dPtr_i ?_
                have h_123 := b_90.ch (c_98.app c_106) (by simp <;> omega)
                refine ld_t h_123 rfl ?_
                refine dInt_i ?_
                refine ld_t h_123 rfl ?_
                refine dSl_i ?_
                have hbq := hV.dk.qin2 (List.mem_of_getElem? hpq)
                have e5 := compl_3 hpx hpq
                have hft : fok = true := by assumption
                have h_124 := hvC.mv ((((((c_4.app c_79).app c_85).app c_88).app c_91).app c_98).app c_106) (rngn (by simp <;> omega))
                have h_125 := sb1.mv (((((c_79.app c_85).app c_88).app c_91).app c_98).app c_106) (tagn (by simp <;> omega))
                refine tcall (c_vcPut (b := pw.2.blk) (D := (V.D.complete y.1 fok).1) _ (by omega) (by omega) (by omega) h_124 call5a (by rw [hyi2, hft, e5]; unfold DiskM.has; rw [List.length_set]; exact hbq) (by rw [hyi2, hft, e5, List.length_set]) h_125 hl1) ?_
                rintro v_127 s_126 ⟨rfl, c_129, call6a⟩
                have z_130 := c_129.size
                refine dInt_i ?_
                refine sB_f (by rfl) ?_
                refine nz_i ?_
                have h_131 := h_122.ch c_129 (by simp <;> omega)
                refine ld_t h_131 rfl ?_
                refine dPtr_i ?_
                have h_132 := h_123.ch c_129 (by simp <;> omega)
                refine ld_t h_132 rfl ?_
                refine dSl_i ?_
                have h_133 := hvP.mv (((((((c_4.app c_79).app c_85).app c_88).app c_91).app c_98).app c_106).app c_129) (rngn (by simp <;> omega))
                have h_134 := si1.mv ((((((c_79.app c_85).app c_88).app c_91).app c_98).app c_106).app c_129) (tagn (by simp <;> omega))
                refine tcall (c_pdone p (U + 30) V.P _ _ (by omega) h_133 h_134 rfl (by omega) (by omega)) ?_
                rintro v_136 s_135 ⟨rfl, c_138, call7a⟩
                have z_139 := c_138.size
                refine dInt_i ?_
                refine ret_t ?_
                have h_140 := m_97.ch ((c_106.app c_129).app c_138) (by simp)
                have h_141 := call5a.mv (c_129.app c_138) (rngn (by simp))
                have h_142 := h_131.ch c_138 (by simp <;> omega)
                have h_143 := h_8.mv (((((((c_79.app c_85).app c_88).app c_91).app c_98).app c_106).app c_129).app c_138) (tagn (by simp <;> omega))
                have h_144 := hvo.mv ((((((((c_4.app c_79).app c_85).app c_88).app c_91).app c_98).app c_106).app c_129).app c_138) (tagn (by simp <;> omega))
                have h_145 := hvk.mv ((((((((c_4.app c_79).app c_85).app c_88).app c_91).app c_98).app c_106).app c_129).app c_138) (tagn (by simp <;> omega))
                have h_146 := call6a.mv c_138 (rngn (by simp))
                have hW := h_140
                have hD := h_141
                rw [hyi2] at hW
                rw [hyi2, hft, compl_3 hpx hpq] at hD
                rw [hft] at hcm0 ⊢
                rw [hcm0, if_neg (by simp)]
                exact ⟨rfl, ((((((((((Ch.refl [U + 1, U + 10, U + 11, U + 12, U + 13, U + 14, U + 20, U + 21, U + 22, U + 23, U + 31, U + 32] s).ch c_4 (by simp)).ch c_79 (by simp)).fr c_85 hM (by simp)).fr c_88 hM (by simp)).fr c_91 hM (by simp)).ch c_98 (by simp)).fr c_106 hM (by simp)).fr c_129 hM (by simp)).fr c_138 hM (by simp)), ⟨⟨_, _, _, _, _, _, h_142, hW, WMap.del h_143 ok.wnd hpw, hV.kn, h_144, h_145, hD, h_146, call7a⟩, ok.landed kk hl1⟩⟩
end Go.Proofs.YtngploohhmfaiaaGreat.E
/- Contracts of functions. -/
namespace Go.Proofs.YtngploohhmfaiaaGreat.E
open Go Go.Proofs Go.RowKit Go.Maps Go.Shelf Go.Sort
set_option linter.unusedVariables false
set_option linter.unusedSimpArgs false
theorem VolP.relock {s s' : TH} {v d U : Nat} {V : VolM} {lk lk' : Int} {c p rw : Nat} {rk : Option Nat} {mw mk : List (Int × Value)} (h : VolP s v d U V lk c p rw rk mw mk) (k : Ch [U] s s')
    (hb : Blk s' v [.int .i32 lk', .int .u32 0, .pointer (some ⟨d, 0, none⟩), .pointer (some ⟨c, 0, none⟩), .pointer (some ⟨p, 0, none⟩), .map (some rw), .bool V.old.on, .bool V.old.broken, .int .i64 V.old.room, .map rk] 57 U) : VolP s' v d U V lk' c p rw rk mw mk :=
  ⟨hb, h.wm.ch k (by simp), h.wv.mv k (tagn (by simp)), h.kn, h.om.mv k (tagn (by simp)), h.kv.mv k (tagn (by simp)), h.dk.mv k (rngn (by simp <;> omega)), h.ca.mv k (rngn (by simp <;> omega)), h.ps.mv k (rngn (by simp <;> omega))⟩
/-- (*bollard/volume.Volume).Ready -/
theorem c_VReady (vp d U : Nat) (V : VolM) (τ : Nat) (s : TH) (hU : 10 ≤ U) (hv : VolL s vp d U V 0) (hτ : τ < U ∨ U + 50 ≤ τ) : TRet Tryz.prog 32 #[.pointer (some ⟨vp, 0, none⟩)] s fun v s' => ∃ a c, v = .slice a V.ready.length c ∧ Ch [U] s s' ∧ Own s' a V.ready.length c 3 1 (ivs V.ready) τ ∧ VolL s' vp d U V 0 := by
  obtain ⟨⟨c, p, rw_, rk, mw, mk, hV⟩, ok⟩ := id hv
  have hvb := hV.blk
  have hvw := hV.wm
  have hvv := hV.wv
  have hvo := hV.om
  have hvk := hV.kv
  have hvD := hV.dk
  have hvC := hV.ca
  have hvP := hV.ps
  have hn0 := ok.n0
  have hpok := hV.ps.ok
  have hplst := hV.ps.ok.lst
  have hnb := hV.dk.nb
  refine F32_calls _  ?_
  unfold F32
  refine tcall (c_vheld _ _ hvb) ?_
  rintro v_2 s_1 ⟨rfl, c_4, call1a⟩
  have z_5 := c_4.size
  have hV1 := hV.relock c_4 call1a
  have hv1 : VolL s_1 vp d U V 1 := ⟨⟨_, _, _, _, _, _, hV1⟩, ok⟩
  refine dBl_i ?_
  refine sB_f (by rfl) ?_
  refine nz_i ?_
  refine tcall (c_vready _ _ _ _ _ τ _ (by omega) hv1) ?_
  rintro v_7 s_6 ⟨acall2, ccall2, rfl, c_9, call2a⟩
  have z_10 := c_9.size
  refine dSl_i ?_
  have h_11 := call1a.ch c_9 (by simp)
  refine c_door Tryz.muLib h_11 (by rfl) (fun _ => by rfl) fun s_12 b_13 c_14 z_15 => ?_
  have c_14t := on_ch h_11 c_14
  refine ret_t ?_
  have h_16 := call2a.mv c_14t (tagn (by simp <;> omega))
  have h_17 := hvw.ch ((c_4.app c_9).app c_14t) (by simp)
  have h_18 := hvv.mv ((c_4.app c_9).app c_14t) (tagn (by simp))
  have h_19 := hvo.mv ((c_4.app c_9).app c_14t) (tagn (by simp))
  have h_20 := hvk.mv ((c_4.app c_9).app c_14t) (tagn (by simp))
  have h_21 := hvD.mv ((c_4.app c_9).app c_14t) (rngn (by simp))
  have h_22 := hvC.mv ((c_4.app c_9).app c_14t) (rngn (by simp))
  have h_23 := hvP.mv ((c_4.app c_9).app c_14t) (rngn (by simp))
  exact ⟨_, _, rfl, ((((Ch.refl [U] s).ch c_4 (by simp)).ch c_9 (by simp)).ch c_14t (by simp)), h_16, ⟨⟨_, _, _, _, _, _, b_13, h_17, h_18, hV.kn, h_19, h_20, h_21, h_22, h_23⟩, ok⟩⟩
/-- (*bollard/volume.Volume).Write -/
theorem c_VWrite (vp d U : Nat) (V : VolM) (b : Int) (s : TH) (hU : 10 ≤ U) (hv : VolL s vp d U V 0) (hn : V.n < 1000000000000000000) : TRet Tryz.prog 33 #[.pointer (some ⟨vp, 0, none⟩), .int .i64 b] s fun v s' => v = .int .i64 (V.write b).2 ∧ Ch [U, U + 1, U + 10, U + 11, U + 12, U + 13, U + 14, U + 20, U + 21, U + 22, U + 23] s s' ∧ VolL s' vp d U (V.write b).1 0 := by
  obtain ⟨⟨c, p, rw_, rk, mw, mk, hV⟩, ok⟩ := id hv
  have hvb := hV.blk
  have hvw := hV.wm
  have hvv := hV.wv
  have hvo := hV.om
  have hvk := hV.kv
  have hvD := hV.dk
  have hvC := hV.ca
  have hvP := hV.ps
  have hn0 := ok.n0
  have hpok := hV.ps.ok
  have hplst := hV.ps.ok.lst
  have hnb := hV.dk.nb
  refine F33_calls _ _  ?_
  unfold F33
  refine tcall (c_vheld _ _ hvb) ?_
  rintro v_2 s_1 ⟨rfl, c_4, call1a⟩
  have z_5 := c_4.size
  have hV1 := hV.relock c_4 call1a
  have hv1 : VolL s_1 vp d U V 1 := ⟨⟨_, _, _, _, _, _, hV1⟩, ok⟩
  refine dBl_i ?_
  refine sB_f (by rfl) ?_
  refine nz_i ?_
  refine tcall (c_vwrite _ _ _ _ _ _ _ (by omega) hv1 (by omega)) ?_
  rintro v_7 s_6 ⟨rfl, c_9, call2a⟩
  have z_10 := c_9.size
  have hvx := call2a
  obtain ⟨⟨c2, p2, rw2, rk2, mw2, mk2, hV2⟩, ok2⟩ := id hvx
  have hvb2 := hV2.blk
  refine dInt_i ?_
  refine c_door Tryz.muLib hvb2 (by rfl) (fun _ => by rfl) fun s_11 b_12 c_13 z_14 => ?_
  have c_13t := on_ch hvb2 c_13
  refine ret_t ?_
  exact ⟨rfl, ((((Ch.refl [U, U + 1, U + 10, U + 11, U + 12, U + 13, U + 14, U + 20, U + 21, U + 22, U + 23] s).ch c_4 (by simp)).ch c_9 (by simp)).ch c_13t (by simp)), ⟨⟨_, _, _, _, _, _, hV2.relock c_13t b_12⟩, ok2⟩⟩
/-- (*bollard/volume.Volume).Complete -/
theorem c_VComplete (vp d U : Nat) (V : VolM) (k : Int) (fok : Bool) (s : TH) (hU : 10 ≤ U) (hv : VolL s vp d U V 0) : TRet Tryz.prog 35 #[.pointer (some ⟨vp, 0, none⟩), .int .i64 k, .bool fok] s fun v s' => v = .int .i64 (V.compl k fok).2 ∧ Ch [U, U + 1, U + 10, U + 11, U + 12, U + 13, U + 14, U + 20, U + 21, U + 22, U + 23, U + 31, U + 32] s s' ∧ VolL s' vp d U (V.compl k fok).1 0 := by
  obtain ⟨⟨c, p, rw_, rk, mw, mk, hV⟩, ok⟩ := id hv
  have hvb := hV.blk
  have hvw := hV.wm
  have hvv := hV.wv
  have hvo := hV.om
  have hvk := hV.kv
  have hvD := hV.dk
  have hvC := hV.ca
  have hvP := hV.ps
  have hn0 := ok.n0
  have hpok := hV.ps.ok
  have hplst := hV.ps.ok.lst
  have hnb := hV.dk.nb
  refine F35_calls _ _ _  ?_
  unfold F35
  refine tcall (c_vheld _ _ hvb) ?_
  rintro v_2 s_1 ⟨rfl, c_4, call1a⟩
  have z_5 := c_4.size
  have hV1 := hV.relock c_4 call1a
  have hv1 : VolL s_1 vp d U V 1 := ⟨⟨_, _, _, _, _, _, hV1⟩, ok⟩
  refine dBl_i ?_
  refine sB_f (by rfl) ?_
  refine nz_i ?_
  refine tcall (c_vcomplete _ _ _ _ _ _ _ _ (by omega) hv1) ?_
  rintro v_7 s_6 ⟨rfl, c_9, call2a⟩
  have z_10 := c_9.size
  have hvx := call2a
  obtain ⟨⟨c2, p2, rw2, rk2, mw2, mk2, hV2⟩, ok2⟩ := id hvx
  have hvb2 := hV2.blk
  refine dInt_i ?_
  refine c_door Tryz.muLib hvb2 (by rfl) (fun _ => by rfl) fun s_11 b_12 c_13 z_14 => ?_
  have c_13t := on_ch hvb2 c_13
  refine ret_t ?_
  exact ⟨rfl, ((((Ch.refl [U, U + 1, U + 10, U + 11, U + 12, U + 13, U + 14, U + 20, U + 21, U + 22, U + 23, U + 31, U + 32] s).ch c_4 (by simp)).ch c_9 (by simp)).ch c_13t (by simp)), ⟨⟨_, _, _, _, _, _, hV2.relock c_13t b_12⟩, ok2⟩⟩
def VolM.first (V : VolM) (b : Int) : Bool := V.old.on && !V.old.broken && (kfind V.old.kept b).isNone
def VolM.keep (V : VolM) (b : Int) : OldM := if V.first b = true then (if (V.old.kept.length : Int) < V.old.room then { V.old with kept := V.old.kept ++ [(b, V.now b)] } else { V.old with broken := true }) else V.old
def VolM.ticks (V : VolM) (b : Int) : Int := if V.first b = true then V.n + 1 else V.n
def VolM.change (V : VolM) (b o : Int) (y : List UInt8) (needs : List Int) : VolM × Int × Int :=
  if ¬ V.D.has b then (V, 0, 90)
  else if (V.P.add b o y needs).2.2 ≠ 0 then ({ V with n := V.ticks b }, 0, (V.P.add b o y needs).2.2)
  else ({ V with n := V.ticks b, P := (V.P.add b o y needs).1, old := V.keep b }, (V.P.add b o y needs).2.1, 0)
theorem olook_k {P : Program} {E : List PanicEntry → Heap → Prop} {T Kt Et : TypeId} {s : TH} {rk : Option Nat} {mk : List (Int × Value)} {l : List (Int × List UInt8)} {τ τ' : Nat} {b : Int} {K : Value → Heap → Prop} (ko : KeyOk P Kt (Value.int .i64)) (hT : P.underlying T = some (.map Kt Et)) (hz : ∀ w, (zeroValue Et).run P w = .ok (.slice none 0 0) w) (h : OMap s rk mk τ) (hv : KMap s τ' mk l)
    (hk : ∀ a n c, K (.tuple #[.slice a n c, .bool (kfind l b).isSome]) s.h) : semW P (Instr.lookup T (.map rk) (.int .i64 b) true) E s.h K := by
  have hg := KMap.get (b := b) hv
  cases hf : kfind l b with
  | none => rw [hf] at hg hk; exact olook_n ko hT hz h hg (hk _ _ _)
  | some y => rw [hf] at hg hk; obtain ⟨a, c, h1, _⟩ := hg; exact olook_s ko hT hz h h1 (hk _ _ _)
theorem add_err {P : PatchM} {b o : Int} {y : List UInt8} {needs : List Int} (h : (P.add b o y needs).2.2 ≠ 0) : (P.add b o y needs).1 = P := by
  unfold PatchM.add at h ⊢
  split
  · rfl
  · split
    · rfl
    · rename_i h1 h2
      rw [if_neg h1, if_neg h2] at h; exact absurd rfl h
theorem VOk.with {V : VolM} (ok : VOk V) {n : Int} (P : PatchM) (o : OldM) (hn : V.n ≤ n ∧ n ≤ 1000000000000000000) : VOk { V with n := n, P := P, old := o } :=
  ⟨ok.que, ok.wid, ok.wsr, by have := ok.lst; exact ⟨this.1, by show V.D.last ≤ n; omega⟩, by have := ok.n0; exact ⟨by show 0 ≤ n; omega, hn.2⟩, ok.nof, ok.len, ok.wlen, ok.wids⟩
/-- (*bollard/volume.Volume).Change -/
theorem c_VChange (vp d U : Nat) (V : VolM) (b o : Int) {xa : Option Addr} {xn : Nat} (xc : Nat) {y : List UInt8} {τx : Nat} {na : Option Addr} {nn : Nat} (nc : Nat) {needs : List Int} {τn : Nat} (s : TH) (hU : 10 ≤ U) (hv : VolL s vp d U V 0) (hx : Sl s xa (bvs y) τx) (hxn : y.length = xn) (hn : Sl s na (ivs needs) τn) (hnn : needs.length = nn) (hb : (nn : Int) + V.P.last ≤ 17592186044000) (hl : V.P.last < 1000000) (hk : V.n < 1000000000000000000) (hτ : (τx < U ∨ U + 50 ≤ τx) ∧ (τn < U ∨ U + 50 ≤ τn)) : TRet Tryz.prog 25 #[.pointer (some ⟨vp, 0, none⟩), .int .i64 b, .int .i64 o, .slice xa xn xc, .slice na nn nc] s fun v s' => v = .tuple #[.int .i64 (V.change b o y needs).2.1, .int .i64 (V.change b o y needs).2.2] ∧ Ch [U, U + 3, U + 20, U + 21, U + 22, U + 23, U + 30, U + 32] s s' ∧ VolL s' vp d U (V.change b o y needs).1 0 := by
  obtain ⟨⟨c, p, rw_, rk, mw, mk, hV⟩, ok⟩ := id hv
  have hvb := hV.blk
  have hvw := hV.wm
  have hvv := hV.wv
  have hvo := hV.om
  have hvk := hV.kv
  have hvD := hV.dk
  have hvC := hV.ca
  have hvP := hV.ps
  have hn0 := ok.n0
  have hpok := hV.ps.ok
  have hplst := hV.ps.ok.lst
  have hnb := hV.dk.nb
  obtain ⟨M, hM, hM0, hMa, hMb, hMc, hMd, hMe, hMf⟩ := fresh6 s (U + 50) τx τn 0 0 0
  refine F25_calls _ _ _ _ _ _ _ _ _  ?_
  unfold F25
  refine tcall (c_vheld _ _ hvb) ?_
  rintro v_2 s_1 ⟨rfl, c_4, call1a⟩
  have z_5 := c_4.size
  have hV1 := hV.relock c_4 call1a
  have hv1 : VolL s_1 vp d U V 1 := ⟨⟨_, _, _, _, _, _, hV1⟩, ok⟩
  refine dBl_i ?_
  refine sB_f (by rfl) ?_
  refine nz_i ?_
  refine tcall (c_vhas _ _ _ _ _ _ _ (by omega) hv1) ?_
  rintro v_7 s_6 ⟨rfl, c_9⟩
  have z_10 := c_9.size
  refine dBl_i ?_
  refine sB_nd (fun hsB2 => ?_) (fun hsB2 => ?_)
  ·
    have h_11 := call1a.ch c_9 (by simp)
    refine c_door Tryz.muLib h_11 (by rfl) (fun _ => by rfl) fun s_12 b_13 c_14 z_15 => ?_
    have c_14t := on_ch h_11 c_14
    refine ret_t ?_
    have h_16 := hvw.ch ((c_4.app c_9).app c_14t) (by simp)
    have h_17 := hvv.mv ((c_4.app c_9).app c_14t) (tagn (by simp))
    have h_18 := hvo.mv ((c_4.app c_9).app c_14t) (tagn (by simp))
    have h_19 := hvk.mv ((c_4.app c_9).app c_14t) (tagn (by simp))
    have h_20 := hvD.mv ((c_4.app c_9).app c_14t) (rngn (by simp))
    have h_21 := hvC.mv ((c_4.app c_9).app c_14t) (rngn (by simp))
    have h_22 := hvP.mv ((c_4.app c_9).app c_14t) (rngn (by simp))
    rw [show V.change b o y needs = (V, 0, 90) from by unfold VolM.change; rw [if_pos (by simpa using hsB2)]]
    exact ⟨rfl, ((((Ch.refl [U, U + 3, U + 20, U + 21, U + 22, U + 23, U + 30, U + 32] s).ch c_4 (by simp)).ch c_9 (by simp)).ch c_14t (by simp)), ⟨⟨_, _, _, _, _, _, b_13, h_16, h_17, hV.kn, h_18, h_19, h_20, h_21, h_22⟩, ok⟩⟩
  ·
    refine nz_i ?_
    have h_23 := call1a.ch c_9 (by simp)
    refine ld_t h_23 rfl ?_
    refine dMap_i ?_
    have h_24 := hvo.mv (c_4.app c_9) (tagn (by simp))
    have h_25 := hvk.mv (c_4.app c_9) (tagn (by simp))
    refine olook_k keyI um53 z38 h_24 h_25 fun ka kn kc => ?_
    refine dT2 ?_
    refine dSl_i ?_
    refine dBl_i ?_
    refine jn1 (fun fv s' => Ch [] s_6 s' ∧ (fv = .bool (V.first b))) ?_ ?_
    ·
      rintro fv s_26 ⟨c_27, rfl⟩
      have z_28 := c_27.size
      intro _
      intros
      refine dBl_i ?_
      refine jn_u ?_
      refine sB_i (fun hsB3 => ?_) (fun hsB3 => ?_)
      ·
        have hfirst : V.first b = true := by assumption
        have hhas : V.D.has b := by simpa using hsB2
        have hf2 := hfirst
        unfold VolM.first at hf2
        simp only [Bool.and_eq_true, Bool.not_eq_true', Option.isNone_iff_eq_none] at hf2
        have h_29 := hv1.mv (c_9.app c_27) (rngn50 (by simp))
        refine tcall (c_vread _ _ _ _ _ (U + 4) _ _ (by omega) h_29 (by omega)) ?_
        rintro v_31 s_30 ⟨c_33, call3a⟩
        have z_34 := c_33.size
        rcases call3a with ⟨rfl, hnb2, hv2⟩ | ⟨a2, c2_, rfl, hh, hv2, ho2⟩
        ·
          exact absurd hhas hnb2
        ·
          obtain ⟨⟨c2, p2, rw2, rk2, mw2, mk2, hV2⟩, ok2⟩ := id hv2
          obtain ⟨kr, hkr⟩ := Option.isSome_iff_exists.1 (hV2.kn hf2.1.1)
          subst hkr
          have hvb2 : Blk s_30 vp [.int .i32 1, .int .u32 0, .pointer (some ⟨d, 0, none⟩), .pointer (some ⟨c2, 0, none⟩), .pointer (some ⟨p2, 0, none⟩), .map (some rw2), .bool V.old.on, .bool V.old.broken, .int .i64 V.old.room, .map (some kr)] 57 U := hV2.blk
          have hvw2 := hV2.wm
          have hvv2 : WMap s_30 (U + 2) mw2 V.way := hV2.wv
          have hvo2 : OMap s_30 (some kr) mk2 (U + 3) := hV2.om
          have hvk2 : KMap s_30 (U + 4) mk2 V.old.kept := hV2.kv
          have hvD2 : Disk s_30 d (U + 10) V.D := hV2.dk
          have hvC2 : CacheV s_30 c2 (U + 20) d V.D.blocks (V.n + 1) := hV2.ca
          have hvP2 : PSet s_30 p2 (U + 30) V.P := hV2.ps
          have hkm := hvo2.at_ _ rfl
          have hkl : mk2.length = V.old.kept.length := by have := congrArg List.length hvk2.keys; simpa using this
          refine dT2 ?_
          refine dSl_i ?_
          refine dInt_i ?_
          refine sB_f (by rfl) ?_
          intro _
          intros
          refine dSl_i ?_
          refine nz_i ?_
          refine ld_t hvb2 rfl ?_
          refine dPtr_i ?_
          have h_35 := hx.mv (((c_4.app c_9).app c_27).app c_33) (tagn (by simp <;> omega))
          have h_36 := hn.mv (((c_4.app c_9).app c_27).app c_33) (tagn (by simp <;> omega))
          refine tcall (c_add _ _ _ _ _ _ _ _ (by omega) hvP2 h_35 hxn h_36 hnn hb hl) ?_
          rintro v_38 s_37 ⟨rfl, c_40, call4a⟩
          have z_41 := c_40.size
          refine dT2 ?_
          refine dInt_i ?_
          refine dInt_i ?_
          refine sB_nd (fun hsB5 => ?_) (fun hsB5 => ?_)
          ·
            have h_42 := hvb2.ch c_40 (by simp <;> omega)
            refine c_door Tryz.muLib h_42 (by rfl) (fun _ => by rfl) fun s_43 b_44 c_45 z_46 => ?_
            have c_45t := on_ch h_42 c_45
            refine ret_t ?_
            have h_47 := call4a.mv c_45t (rngn (by simp))
            have h_48 := hvw2.ch (c_40.app c_45t) (by simp)
            have h_49 := hvv2.mv (c_40.app c_45t) (tagn (by simp))
            have h_50 := hvo2.mv (c_40.app c_45t) (tagn (by simp))
            have h_51 := hvk2.mv (c_40.app c_45t) (tagn (by simp))
            have h_52 := hvD2.mv (c_40.app c_45t) (rngn (by simp))
            have h_53 := hvC2.mv (c_40.app c_45t) (rngn (by simp))
            have ht : V.ticks b = V.n + 1 := by unfold VolM.ticks; rw [if_pos hfirst]
            have hc : V.change b o y needs = ({ V with n := V.ticks b }, 0, (V.P.add b o y needs).2.2) := by unfold VolM.change; rw [if_neg (by simpa using hsB2), if_pos hsB5]
            rw [hc]
            have hP := h_47
            rw [add_err hsB5] at hP
            exact ⟨rfl, (((((((Ch.refl [U, U + 3, U + 20, U + 21, U + 22, U + 23, U + 30, U + 32] s).ch c_4 (by simp)).ch c_9 (by simp)).ch c_27 (by simp)).ch c_33 (by simp)).fr c_40 hM (by simp)).ch c_45t (by simp)), ⟨⟨_, _, _, _, _, _, b_44, h_48, h_49, hV2.kn, h_50, h_51, h_52, by rw [ht]; exact h_53, hP⟩, ok.with V.P V.old (by rw [ht]; omega)⟩⟩
          ·
            refine jn_u ?_
            refine jn_u ?_
            refine sB_t (by assumption) ?_
            refine nz_i ?_
            have h_54 := hvb2.ch c_40 (by simp <;> omega)
            refine ld_t h_54 rfl ?_
            refine dMap_i ?_
            refine nz_i ?_
            refine ld_t h_54 rfl ?_
            refine dInt_i ?_
            have h_55 := hkm.ch c_40 (by simp)
            refine mlen_t um53 h_55 ?_
            refine dInt_i ?_
            refine ⟨?_, ?_⟩
            ·
              refine ld_t h_54 rfl ?_
              refine dInt_i ?_
              rfl
            ·
              intro _
              intros
              refine dBl_i ?_
              refine sB_d (fun hsB7 => ?_) (fun hsB7 => ?_)
              ·
                refine nz_i ?_
                refine ld_t h_54 rfl ?_
                refine dMap_i ?_
                refine upd_t keyI um53 h_55 b (Value.slice a2 128 c2_) fun s_60 m_61 c_62o z_63 => ?_
                have c_62 : Ch [U + 3] s_37 s_60 := Chg.mono c_62o fun j _ e => by subst e; rw [h_55.tag]; simp
                intro _
                intros
                have h_64 := h_54.ch c_62 (by simp)
                refine c_door Tryz.muLib h_64 (by rfl) (fun _ => by rfl) fun s_65 b_66 c_67 z_68 => ?_
                have c_67t := on_ch h_64 c_67
                refine ret_t ?_
                have h_69 := hvw2.ch ((c_40.app c_62).app c_67t) (by simp)
                have h_70 := hvv2.mv ((c_40.app c_62).app c_67t) (tagn (by simp))
                have h_71 := m_61.ch c_67t (by simp)
                have h_72 := ho2.mv ((c_40.app c_62).app c_67t) (tagn (by simp))
                have h_73 := hvk2.mv ((c_40.app c_62).app c_67t) (tagn (by simp))
                have h_74 := hvD2.mv ((c_40.app c_62).app c_67t) (rngn (by simp))
                have h_75 := hvC2.mv ((c_40.app c_62).app c_67t) (rngn (by simp))
                have h_76 := call4a.mv (c_62.app c_67t) (rngn (by simp))
                have ht : V.ticks b = V.n + 1 := by unfold VolM.ticks; rw [if_pos hfirst]
                have hkp : V.keep b = { V.old with kept := V.old.kept ++ [(b, V.now b)] } := by unfold VolM.keep; rw [if_pos hfirst, if_pos (by omega)]
                have hc : V.change b o y needs = ({ V with n := V.ticks b, P := (V.P.add b o y needs).1, old := V.keep b }, (V.P.add b o y needs).2.1, 0) := by unfold VolM.change; rw [if_neg (by simpa using hsB2), if_neg (by simpa using hsB5)]
                rw [hc]
                rw [hkp]
                exact ⟨rfl, ((((((((Ch.refl [U, U + 3, U + 20, U + 21, U + 22, U + 23, U + 30, U + 32] s).ch c_4 (by simp)).ch c_9 (by simp)).ch c_27 (by simp)).ch c_33 (by simp)).fr c_40 hM (by simp)).ch c_62 (by simp)).ch c_67t (by simp)), ⟨⟨_, _, _, _, _, _, b_66, h_69, h_70, fun _ => rfl, OMap.of h_71, KMap.snoc h_72.sl (by have := h_72.1; rw [bvs_len] at this; omega) h_73 hf2.2, h_74, by rw [ht]; exact h_75, h_76⟩, ok.with _ _ (by rw [ht]; omega)⟩⟩
              ·
                refine sB_t (by assumption) ?_
                refine nz_i ?_
                refine st_t (i := 7) h_54 rfl (by simp) fun s142 b_77 c_78o z_79 => ?_
                have c_78 := on_ch h_54 c_78o
                intro _
                intros
                refine c_door Tryz.muLib b_77 (by rfl) (fun _ => by rfl) fun s_80 b_81 c_82 z_83 => ?_
                have c_82t := on_ch b_77 c_82
                refine ret_t ?_
                have h_84 := hvw2.ch ((c_40.app c_78).app c_82t) (by simp)
                have h_85 := hvv2.mv ((c_40.app c_78).app c_82t) (tagn (by simp))
                have h_86 := hvo2.mv ((c_40.app c_78).app c_82t) (tagn (by simp))
                have h_87 := hvk2.mv ((c_40.app c_78).app c_82t) (tagn (by simp))
                have h_88 := hvD2.mv ((c_40.app c_78).app c_82t) (rngn (by simp))
                have h_89 := hvC2.mv ((c_40.app c_78).app c_82t) (rngn (by simp))
                have h_90 := call4a.mv (c_78.app c_82t) (rngn (by simp))
                have ht : V.ticks b = V.n + 1 := by unfold VolM.ticks; rw [if_pos hfirst]
                have hkp : V.keep b = { V.old with broken := true } := by unfold VolM.keep; rw [if_pos hfirst, if_neg (by omega)]
                have hc : V.change b o y needs = ({ V with n := V.ticks b, P := (V.P.add b o y needs).1, old := V.keep b }, (V.P.add b o y needs).2.1, 0) := by unfold VolM.change; rw [if_neg (by simpa using hsB2), if_neg (by simpa using hsB5)]
                rw [hc]
                rw [hkp]
                exact ⟨rfl, ((((((((Ch.refl [U, U + 3, U + 20, U + 21, U + 22, U + 23, U + 30, U + 32] s).ch c_4 (by simp)).ch c_9 (by simp)).ch c_27 (by simp)).ch c_33 (by simp)).fr c_40 hM (by simp)).ch c_78 (by simp)).ch c_82t (by simp)), ⟨⟨_, _, _, _, _, _, b_81, h_84, h_85, fun _ => rfl, h_86, h_87, h_88, by rw [ht]; exact h_89, h_90⟩, ok.with _ _ (by rw [ht]; omega)⟩⟩
      ·
        intro _
        intros
        refine dSl_i ?_
        refine nz_i ?_
        have h_91 := h_23.ch c_27 (by simp)
        refine ld_t h_91 rfl ?_
        refine dPtr_i ?_
        have h_92 := hvP.mv ((c_4.app c_9).app c_27) (rngn (by simp))
        have h_93 := hx.mv ((c_4.app c_9).app c_27) (tagn (by simp <;> omega))
        have h_94 := hn.mv ((c_4.app c_9).app c_27) (tagn (by simp <;> omega))
        refine tcall (c_add _ _ _ _ _ _ _ _ (by omega) h_92 h_93 hxn h_94 hnn hb hl) ?_
        rintro v_96 s_95 ⟨rfl, c_98, call5a⟩
        have z_99 := c_98.size
        refine dT2 ?_
        refine dInt_i ?_
        refine dInt_i ?_
        refine sB_nd (fun hsB9 => ?_) (fun hsB9 => ?_)
        ·
          have h_100 := h_91.ch c_98 (by simp <;> omega)
          refine c_door Tryz.muLib h_100 (by rfl) (fun _ => by rfl) fun s_101 b_102 c_103 z_104 => ?_
          have c_103t := on_ch h_100 c_103
          refine ret_t ?_
          have h_105 := call5a.mv c_103t (rngn (by simp))
          have h_106 := hvw.ch ((((c_4.app c_9).app c_27).app c_98).app c_103t) (by simp)
          have h_107 := hvv.mv ((((c_4.app c_9).app c_27).app c_98).app c_103t) (tagn (by simp))
          have h_108 := h_24.mv ((c_27.app c_98).app c_103t) (tagn (by simp))
          have h_109 := h_25.mv ((c_27.app c_98).app c_103t) (tagn (by simp))
          have h_110 := hvD.mv ((((c_4.app c_9).app c_27).app c_98).app c_103t) (rngn (by simp))
          have h_111 := hvC.mv ((((c_4.app c_9).app c_27).app c_98).app c_103t) (rngn (by simp))
          have ht : V.ticks b = V.n := by unfold VolM.ticks; rw [if_neg (by simpa using hsB3)]
          have hc : V.change b o y needs = ({ V with n := V.ticks b }, 0, (V.P.add b o y needs).2.2) := by unfold VolM.change; rw [if_neg (by simpa using hsB2), if_pos hsB9]
          rw [hc]
          have hP := h_105
          rw [add_err hsB9] at hP
          exact ⟨rfl, ((((((Ch.refl [U, U + 3, U + 20, U + 21, U + 22, U + 23, U + 30, U + 32] s).ch c_4 (by simp)).ch c_9 (by simp)).ch c_27 (by simp)).fr c_98 hM (by simp)).ch c_103t (by simp)), ⟨⟨_, _, _, _, _, _, b_102, h_106, h_107, hV.kn, h_108, h_109, h_110, by rw [ht]; exact h_111, hP⟩, ok.with V.P V.old (by rw [ht]; omega)⟩⟩
        ·
          refine jn_u ?_
          refine jn_u ?_
          refine sB_f (by assumption) ?_
          intro _
          intros
          refine dBl_i ?_
          refine sB_f (by rfl) ?_
          refine sB_f (by assumption) ?_
          intro _
          intros
          have h_112 := h_91.ch c_98 (by simp <;> omega)
          refine c_door Tryz.muLib h_112 (by rfl) (fun _ => by rfl) fun s_113 b_114 c_115 z_116 => ?_
          have c_115t := on_ch h_112 c_115
          refine ret_t ?_
          have h_117 := hvw.ch ((((c_4.app c_9).app c_27).app c_98).app c_115t) (by simp)
          have h_118 := hvv.mv ((((c_4.app c_9).app c_27).app c_98).app c_115t) (tagn (by simp))
          have h_119 := h_24.mv ((c_27.app c_98).app c_115t) (tagn (by simp))
          have h_120 := h_25.mv ((c_27.app c_98).app c_115t) (tagn (by simp))
          have h_121 := hvD.mv ((((c_4.app c_9).app c_27).app c_98).app c_115t) (rngn (by simp))
          have h_122 := hvC.mv ((((c_4.app c_9).app c_27).app c_98).app c_115t) (rngn (by simp))
          have h_123 := call5a.mv c_115t (rngn (by simp))
          have ht : V.ticks b = V.n := by unfold VolM.ticks; rw [if_neg (by simpa using hsB3)]
          have hkp : V.keep b = V.old := by unfold VolM.keep; rw [if_neg (by simpa using hsB3)]
          have hc : V.change b o y needs = ({ V with n := V.ticks b, P := (V.P.add b o y needs).1, old := V.keep b }, (V.P.add b o y needs).2.1, 0) := by unfold VolM.change; rw [if_neg (by simpa using hsB2), if_neg (by simpa using hsB9)]
          rw [hc]
          rw [hkp]
          exact ⟨rfl, ((((((Ch.refl [U, U + 3, U + 20, U + 21, U + 22, U + 23, U + 30, U + 32] s).ch c_4 (by simp)).ch c_9 (by simp)).ch c_27 (by simp)).fr c_98 hM (by simp)).ch c_115t (by simp)), ⟨⟨_, _, _, _, _, _, b_114, h_117, h_118, hV.kn, h_119, h_120, h_121, by rw [ht]; exact h_122, h_123⟩, ok.with _ _ (by rw [ht]; omega)⟩⟩
    ·
      intro K_124 hK_124
      refine nz_i ?_
      refine ld_t h_23 rfl ?_
      refine dBl_i ?_
      refine sB_i (fun hsB13 => ?_) (fun hsB13 => ?_)
      ·
        refine nz_i ?_
        refine ld_t h_23 rfl ?_
        refine dBl_i ?_
        refine sB_n (fun hsB14 => ?_) (fun hsB14 => ?_)
        ·
          refine hK_124 _ _ ⟨(Ch.refl [] s_6), ?_⟩
          first | rfl | (unfold VolM.first; simp [*])
        ·
          refine hK_124 _ _ ⟨(Ch.refl [] s_6), ?_⟩
          first | rfl | (unfold VolM.first; simp [*])
      ·
        refine hK_124 _ _ ⟨(Ch.refl [] s_6), ?_⟩
        first | rfl | (unfold VolM.first; simp [*])
def VolM.freeze (V : VolM) (room : Int) : VolM × Int :=
  if V.old.on = true then (V, 3) else if room < 0 ∨ room > 65536 then (V, 1) else ({ V with old := ⟨true, false, room, []⟩ }, 0)
def VolM.oldb (V : VolM) (b : Int) : List UInt8 := (kfind V.old.kept b).getD (V.now b)
theorem OMap.nil (s : TH) (τ : Nat) : OMap s none [] τ := ⟨fun r e => (by cases e), fun _ => rfl⟩
end Go.Proofs.YtngploohhmfaiaaGreat.E
