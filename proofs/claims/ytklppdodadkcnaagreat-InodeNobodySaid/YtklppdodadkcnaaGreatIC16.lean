/- My own texts, joined. -/
import Derived.KernelRfl
import Derived.Test.YtklppdodadkcnaaGreatProg
import Derived.Test.YtklppdodadkcnaaGreatIC15
namespace Go.Proofs.YtklppdodadkcnaaGreat.E
open Go Go.Proofs Go.RowKit Go.Maps Go.Shelf Go.Sort
set_option linter.unusedVariables false
set_option linter.unusedSimpArgs false
structure Coh (C : CacheM) (bs : List (List UInt8)) : Prop where
 eq : ∀ x ∈ C.l, bs[x.blk.toNat]? = some x.by_
 pin : ∀ x ∈ C.l, x.pins = 0
structure CacheV (s : TH) (c T d : Nat) (bs : List (List UInt8)) (n : Int) : Prop where
 p : ∃ C, Cache s c T d C ∧ Coh C bs ∧ C.clock ≤ n ∧ C.hits ≤ n ∧ C.misses ≤ n
theorem CacheV.mv {s s' : TH} {c T d : Nat} {bs : List (List UInt8)} {n : Int} {B : Nat → Prop} (h : CacheV s c T d bs n) (k : Chg B s s') (hn : ∀ j, j < s.h.size → T ≤ s.g j → s.g j < T + 10 → ¬ B j) : CacheV s' c T d bs n := by
 obtain ⟨C, h1, h2⟩ := h
 exact ⟨C, h1.mv k hn, h2⟩
theorem Coh.free {C : CacheM} {bs : List (List UInt8)} (h : Coh C bs) (hb : 1 ≤ C.bound) : ∃ l, C.room = some l ∧ l.Sublist C.l := by
 have : C.room ≠ none := by
  unfold CacheM.room
  by_cases hl : (C.l.length : Int) < C.bound
  ·rw [if_pos hl]; simp
  ·rw [if_neg hl]
   have hne : C.l ≠ [] := fun e => by rw [e] at hl; simp at hl; omega
   obtain ⟨x, l, e⟩ := List.exists_cons_of_ne_nil hne
   unfold freeB
   rw [e, List.find?_cons, show (x.pins == 0) = true by rw [h.pin x (by rw [e]; simp)]; rfl]
   simp
 cases hr : C.room with
 | none => exact absurd hr this
 | some l => exact ⟨l, rfl, room_mem hr⟩
theorem Coh.get {C : CacheM} {bs : List (List UInt8)} {b : Int} {y : List UInt8} (h : Coh C bs) (hb : 1 ≤ C.bound) (hy : bs[b.toNat]? = some y) :
  (C.get bs b).2 = 0 ∧ Coh (C.get bs b).1 bs ∧ (C.get bs b).1.clock = C.clock + 1 ∧ (C.get bs b).1.hits ≤ C.hits + 1 ∧ (C.get bs b).1.misses ≤ C.misses + 1 := by
 cases hf : C.find b with
 | some x =>
  obtain ⟨hx, rfl⟩ := find_mem hf
  rw [get_hit hf]
  refine ⟨rfl, ⟨fun z hz => ?_, fun z hz => ?_⟩, rfl, Int.le_refl _, by show C.misses ≤ C.misses + 1; omega⟩
  ·rcases List.mem_append.1 hz with hz | hz
   ·exact h.eq z (rmB_mem.1 hz).1
   ·rw [List.mem_singleton] at hz; subst hz; exact h.eq x hx
  ·rcases List.mem_append.1 hz with hz | hz
   ·exact h.pin z (rmB_mem.1 hz).1
   ·rw [List.mem_singleton] at hz; subst hz; exact h.pin x hx
 | none =>
  obtain ⟨l, hr, hs⟩ := h.free hb
  rw [get_load hf hr hy]
  refine ⟨rfl, ⟨fun z hz => ?_, fun z hz => ?_⟩, rfl, by show C.hits ≤ C.hits + 1; omega, Int.le_refl _⟩
  ·rcases List.mem_append.1 hz with hz | hz
   ·exact h.eq z (hs.subset hz)
   ·rw [List.mem_singleton] at hz; subst hz; exact hy
  ·rcases List.mem_append.1 hz with hz | hz
   ·exact h.pin z (hs.subset hz)
   ·rw [List.mem_singleton] at hz; subst hz; rfl
theorem Coh.held {C : CacheM} {bs : List (List UInt8)} {b : Int} {y : List UInt8} (h : Coh C bs) (hb : 1 ≤ C.bound) (hy : bs[b.toNat]? = some y) : (C.get bs b).1.bytes b = y := by
 have h1 := (h.get hb hy).2.1
 unfold CacheM.bytes
 have hfd : ∃ x, (C.get bs b).1.find b = some x := by
  cases hf : C.find b with
  | some x =>
   obtain ⟨hx, rfl⟩ := find_mem hf
   rw [get_hit hf]
   have : ((rmB C.l x.blk ++ [{ x with used := C.clock + 1 }] : List BufM).find? fun z : BufM => z.blk == x.blk).isSome = true := List.find?_isSome.2 ⟨({ x with used := C.clock + 1 } : BufM), by simp, by simp⟩
   exact Option.isSome_iff_exists.1 this
  | none =>
   obtain ⟨l, hr, hs⟩ := h.free hb
   rw [get_load hf hr hy]
   have : ((l ++ [⟨b, y, 0, C.clock + 1⟩] : List BufM).find? fun z : BufM => z.blk == b).isSome = true := List.find?_isSome.2 ⟨(⟨b, y, 0, C.clock + 1⟩ : BufM), by simp, by simp⟩
   exact Option.isSome_iff_exists.1 this
 obtain ⟨x, hx⟩ := hfd
 rw [hx]
 obtain ⟨hm, hb2⟩ := find_mem hx
 have h2 := h1.eq x hm
 rw [hb2, hy] at h2
 exact (Option.some.inj h2).symm
theorem CacheP.bnd' {s : TH} {c T d : Nat} {C : CacheM} (h : Cache s c T d C) : 1 ≤ C.bound := by
 obtain ⟨⟨r, m, bp, bh, hp⟩, ok⟩ := h; exact hp.bnd.1
theorem c_vcGet (τ : Nat) {c T d Td : Nat} {D : DiskM} {b n : Int} {l : List UInt8} {s : TH} (hT : 10 ≤ T) (hTd : 10 ≤ Td) (hTT : T + 10 ≤ Td ∨ Td + 10 ≤ T) (hc : CacheV s c T d D.blocks n) (hd : Disk s d Td D) (hb : D.has b) (hl : D.blocks[b.toNat]? = some l) (hf : D.fails b ≤ 0) (hn : n < 9000000000000000000) :
  TRet Tryz.prog 125 #[.pointer (some ⟨c, 0, none⟩), .int .i64 b] s fun v s' => ∃ a cc, v = .tuple #[.slice a 128 cc, .int .i64 0] ∧ Ch [T, T + 1, T + 2, T + 3] s s' ∧ CacheV s' c T d D.blocks (n + 1) ∧ Own s' a 128 cc 5 1 (bvs l) τ := by
 obtain ⟨C, h1, h2, h3, h4, h5⟩ := hc
 have hbd := CacheP.bnd' h1
 refine (c_Get c T d Td C D b τ s hT hTd hTT h1 hd (fun _ => ⟨l, hl⟩) hf (by omega)).mono ?_
 rintro v s' ⟨a, k, cc, e, rfl, hch, hres⟩
 rcases hres with ⟨g1, _⟩ | ⟨g1, g2, g3, g4⟩
 ·exact absurd hb g1
 ·have g5 := h2.get hbd hl
  rw [g5.1] at g2
  subst g2
  obtain ⟨rfl, g6, g7⟩ := g4 rfl
  rw [h2.held hbd hl] at g6
  exact ⟨a, cc, rfl, hch, ⟨_, g3, g5.2.1, by rw [g5.2.2.1]; omega, by have := g5.2.2.2.1; omega, by have := g5.2.2.2.2; omega⟩, g6⟩
theorem Coh.put {C : CacheM} {bs : List (List UInt8)} {b : Int} {y : List UInt8} (h : Coh C bs) (h0 : 0 ≤ b) (hb : b < bs.length) (hr : ∀ x ∈ C.l, 0 ≤ x.blk) : Coh (C.put b y) (bs.set b.toNat y) := by
 refine ⟨fun x hx => ?_, fun x hx => ?_⟩
 ·obtain ⟨z, hz, ⟨h1, rfl⟩ | ⟨h1, rfl⟩⟩ := updB_mem hx
  ·have := hr _ hz
   rw [List.getElem?_set_ne (by omega)]; exact h.eq _ hz
  ·show (bs.set b.toNat y)[z.blk.toNat]? = some y
   rw [h1, List.getElem?_set_self (by omega)]
 ·obtain ⟨z, hz, ⟨h1, rfl⟩ | ⟨h1, rfl⟩⟩ := updB_mem hx
  ·exact h.pin _ hz
  ·exact h.pin z hz
structure WayM where
 blk : Int
 by_ : List UInt8
 ids : List Int
structure OldM where
 on : Bool
 broken : Bool
 room : Int
 kept : List (Int × List UInt8)
structure VolM where
 D : DiskM
 P : PatchM
 way : List (Int × WayM)
 old : OldM
 n : Int
def WayV (s : TH) (τ : Nat) (v : Value) (w : WayM) : Prop := ∃ ba bc ia ic, v = .agg #[.int .i64 w.blk, .slice ba 128 bc, .slice ia w.ids.length ic] ∧ Sl s ba (bvs w.by_) τ ∧ Sl s ia (ivs w.ids) τ ∧ w.by_.length = 128
theorem WayV.mv {s s' : TH} {τ : Nat} {v : Value} {w : WayM} {B : Nat → Prop} (h : WayV s τ v w) (c : Chg B s s') (hn : ∀ j, j < s.h.size → s.g j = τ → ¬ B j) : WayV s' τ v w := by
 obtain ⟨ba, bc, ia, ic, h1, h2, h3, h4⟩ := h
 exact ⟨ba, bc, ia, ic, h1, h2.mv c hn, h3.mv c hn, h4⟩
def WMap (s : TH) (τ : Nat) : List (Int × Value) → List (Int × WayM) → Prop
 | [], [] => True
 | e :: m, p :: l => e.1 = p.1 ∧ WayV s τ e.2 p.2 ∧ WMap s τ m l
 | _, _ => False
theorem WMap.mv {s s' : TH} {τ : Nat} {B : Nat → Prop} : ∀ {m : List (Int × Value)} {l : List (Int × WayM)}, WMap s τ m l → Chg B s s' → (∀ j, j < s.h.size → s.g j = τ → ¬ B j) → WMap s' τ m l
 | [], [], h, c, hn => trivial
 | e :: m, p :: l, h, c, hn => ⟨h.1, h.2.1.mv c hn, WMap.mv h.2.2 c hn⟩
 | [], _ :: _, h, _, _ => h.elim
 | _ :: _, [], h, _, _ => h.elim
theorem WMap.keys {s : TH} {τ : Nat} : ∀ {m : List (Int × Value)} {l : List (Int × WayM)}, WMap s τ m l → m.map (·.1) = l.map (·.1)
 | [], [], _ => rfl
 | e :: m, p :: l, h => by rw [List.map_cons, List.map_cons, h.1, WMap.keys h.2.2]
 | [], _ :: _, h => h.elim
 | _ :: _, [], h => h.elim
theorem WMap.mem_ {s : TH} {τ : Nat} : ∀ {m : List (Int × Value)} {l : List (Int × WayM)} {k : Int} {v : Value}, WMap s τ m l → (k, v) ∈ m → ∃ p ∈ l, p.1 = k ∧ WayV s τ v p.2
 | [], [], k, v, h, hm => by cases hm
 | e :: m, q :: l, k, v, h, hm => by
  rcases List.mem_cons.1 hm with rfl | hm
  ·exact ⟨q, by simp, h.1.symm, h.2.1⟩
  ·obtain ⟨p, h1, h2⟩ := WMap.mem_ h.2.2 hm
   exact ⟨p, List.mem_cons_of_mem _ h1, h2⟩
 | [], _ :: _, _, _, h, _ => h.elim
 | _ :: _, [], _, _, h, _ => h.elim
theorem WMap.get {s : TH} {τ : Nat} : ∀ {m : List (Int × Value)} {l : List (Int × WayM)} {k : Nat} {p : Int × WayM}, WMap s τ m l → (l.map (·.1)).Nodup → l[k]? = some p → ∃ v, mget p.1 m = some v ∧ WayV s τ v p.2
 | [], [], k, p, h, hn, hp => by simp at hp
 | e :: m, q :: l, k, p, h, hn, hp => by
  obtain ⟨ek, ev⟩ := e
  have hk : ek = q.1 := h.1
  rw [List.map_cons, List.nodup_cons] at hn
  cases k with
  | zero => simp at hp; subst hp; exact ⟨ev, by rw [mget, if_pos hk.symm], h.2.1⟩
  | succ k =>
   have hp : l[k]? = some p := by simpa using hp
   obtain ⟨v, h1, h2⟩ := WMap.get h.2.2 hn.2 hp
   have hne : p.1 ≠ ek := fun e => hn.1 (by rw [← hk, ← e]; exact List.mem_map.2 ⟨p, List.mem_of_getElem? hp, rfl⟩)
   exact ⟨v, by rw [mget, if_neg hne]; exact h1, h2⟩
 | [], _ :: _, _, _, h, _, _ => h.elim
 | _ :: _, [], _, _, h, _, _ => h.elim
theorem WMap.snoc {s : TH} {τ : Nat} {v : Value} {p : Int × WayM} (hv : WayV s τ v p.2) : ∀ {m : List (Int × Value)} {l : List (Int × WayM)}, WMap s τ m l → p.1 ∉ l.map (·.1) → WMap s τ (mset p.1 v m) (l ++ [p])
 | [], [], h, _ => ⟨rfl, hv, trivial⟩
 | e :: m, q :: l, h, hn => by
  obtain ⟨k, x⟩ := e
  have hk : k = q.1 := h.1
  rw [List.map_cons, List.mem_cons, not_or] at hn
  show WMap s τ (if p.1 = k then (p.1, v) :: m else (k, x) :: mset p.1 v m) (q :: (l ++ [p]))
  rw [if_neg (by rw [hk]; exact hn.1)]
  exact ⟨h.1, h.2.1, WMap.snoc hv h.2.2 hn.2⟩
 | [], _ :: _, h, _ => h.elim
 | _ :: _, [], h, _ => h.elim
theorem WMap.del {s : TH} {τ : Nat} : ∀ {m : List (Int × Value)} {l : List (Int × WayM)} {k : Nat} {p : Int × WayM}, WMap s τ m l → (l.map (·.1)).Nodup → l[k]? = some p → WMap s τ (mdel p.1 m) (l.eraseIdx k)
 | [], [], k, p, h, hn, hp => by simp at hp
 | e :: m, q :: l, k, p, h, hn, hp => by
  obtain ⟨ek, ev⟩ := e
  have hk : ek = q.1 := h.1
  rw [List.map_cons, List.nodup_cons] at hn
  show WMap s τ (if p.1 = ek then m else (ek, ev) :: mdel p.1 m) _
  cases k with
  | zero => simp at hp; subst hp; rw [if_pos hk.symm]; exact h.2.2
  | succ k =>
   have hp : l[k]? = some p := by simpa using hp
   have hne : p.1 ≠ ek := fun e => hn.1 (by rw [← hk, ← e]; exact List.mem_map.2 ⟨p, List.mem_of_getElem? hp, rfl⟩)
   rw [if_neg hne]
   exact ⟨h.1, h.2.1, WMap.del h.2.2 hn.2 hp⟩
 | [], _ :: _, _, _, h, _, _ => h.elim
 | _ :: _, [], _, _, h, _, _ => h.elim
def KMap (s : TH) (τ : Nat) : List (Int × Value) → List (Int × List UInt8) → Prop
 | [], [] => True
 | e :: m, p :: l => e.1 = p.1 ∧ (∃ a c, e.2 = .slice a 128 c ∧ Sl s a (bvs p.2) τ ∧ p.2.length = 128) ∧ KMap s τ m l
 | _, _ => False
theorem KMap.mv {s s' : TH} {τ : Nat} {B : Nat → Prop} : ∀ {m : List (Int × Value)} {l : List (Int × List UInt8)}, KMap s τ m l → Chg B s s' → (∀ j, j < s.h.size → s.g j = τ → ¬ B j) → KMap s' τ m l
 | [], [], h, c, hn => trivial
 | e :: m, p :: l, ⟨h1, ⟨a, c0, h2, h3, h4⟩, h5⟩, c, hn => ⟨h1, ⟨a, c0, h2, h3.mv c hn, h4⟩, KMap.mv h5 c hn⟩
 | [], _ :: _, h, _, _ => h.elim
 | _ :: _, [], h, _, _ => h.elim
theorem KMap.keys {s : TH} {τ : Nat} : ∀ {m : List (Int × Value)} {l : List (Int × List UInt8)}, KMap s τ m l → m.map (·.1) = l.map (·.1)
 | [], [], _ => rfl
 | e :: m, p :: l, h => by rw [List.map_cons, List.map_cons, h.1, KMap.keys h.2.2]
 | [], _ :: _, h => h.elim
 | _ :: _, [], h => h.elim
def kfind (l : List (Int × List UInt8)) (b : Int) : Option (List UInt8) := (l.find? fun e => e.1 == b).map (·.2)
theorem KMap.get {s : TH} {τ : Nat} {b : Int} : ∀ {m : List (Int × Value)} {l : List (Int × List UInt8)}, KMap s τ m l →
  match kfind l b with
  | some y => ∃ a c, mget b m = some (.slice a 128 c) ∧ Sl s a (bvs y) τ ∧ y.length = 128
  | none => mget b m = none
 | [], [], h => by simp [kfind, mget]
 | e :: m, q :: l, h => by
  obtain ⟨ek, ev⟩ := e
  have hk : ek = q.1 := h.1
  obtain ⟨_, ⟨a, c, h2, h3, h4⟩, h5⟩ := h
  have ih := KMap.get (b := b) h5
  unfold kfind at ih ⊢
  rw [List.find?_cons]
  by_cases hq : q.1 = b
  ·rw [show (q.1 == b) = true by simpa using hq]
   simp only [Option.map_some]
   exact ⟨a, c, by rw [mget, if_pos (by rw [hk, hq])]; exact congrArg some h2, h3, h4⟩
  ·rw [show (q.1 == b) = false by simpa using hq]
   simp only [mget, if_neg (show ¬ b = ek by rw [hk]; exact fun e => hq e.symm)]
   exact ih
 | [], _ :: _, h => h.elim
 | _ :: _, [], h => h.elim
theorem KMap.snoc {s : TH} {τ : Nat} {a : Option Addr} {c : Nat} {b : Int} {y : List UInt8} (hv : Sl s a (bvs y) τ) (hy : y.length = 128) : ∀ {m : List (Int × Value)} {l : List (Int × List UInt8)}, KMap s τ m l → kfind l b = none → KMap s τ (mset b (.slice a 128 c) m) (l ++ [(b, y)])
 | [], [], h, _ => ⟨rfl, ⟨a, c, rfl, hv, hy⟩, trivial⟩
 | e :: m, q :: l, h, hn => by
  obtain ⟨k, x⟩ := e
  have hk : k = q.1 := h.1
  unfold kfind at hn
  rw [List.find?_cons] at hn
  by_cases hq : q.1 = b
  ·rw [show (q.1 == b) = true by simpa using hq] at hn; simp at hn
  ·rw [show (q.1 == b) = false by simpa using hq] at hn
   show KMap s τ (if b = k then (b, _) :: m else (k, x) :: mset b _ m) (q :: (l ++ [(b, y)]))
   rw [if_neg (by rw [hk]; exact fun e => hq e.symm)]
   exact ⟨h.1, h.2.1, KMap.snoc hv hy h.2.2 hn⟩
 | [], _ :: _, h, _ => h.elim
 | _ :: _, [], h, _ => h.elim
structure OMap (s : TH) (rk : Option Nat) (mk : List (Int × Value)) (τ : Nat) : Prop where
 at_ : ∀ r, rk = some r → MapK (Value.int .i64) s r mk τ
 no : rk = none → mk = []
theorem OMap.mv {s s' : TH} {rk : Option Nat} {mk : List (Int × Value)} {τ : Nat} {B : Nat → Prop} (h : OMap s rk mk τ) (c : Chg B s s') (hn : ∀ j, j < s.h.size → s.g j = τ → ¬ B j) : OMap s' rk mk τ :=
 ⟨fun r hr => (h.at_ r hr).mv c (hn r (h.at_ r hr).lt (h.at_ r hr).tag), h.no⟩
theorem olook_n {P : Program} {E : List PanicEntry → Heap → Prop} {T Kt Et : TypeId} {s : TH} {rk : Option Nat} {mk : List (Int × Value)} {τ : Nat} {z : Value} {b : Int} {K : Value → Heap → Prop} (ko : KeyOk P Kt (Value.int .i64)) (hT : P.underlying T = some (.map Kt Et)) (hz : ∀ w, (zeroValue Et).run P w = .ok z w) (h : OMap s rk mk τ) (hm : mget b mk = none) (hk : K (.tuple #[z, .bool false]) s.h) :
  semW P (Instr.lookup T (.map rk) (.int .i64 b) true) E s.h K := by
 cases rk with
 | none => exact lookn_ok ko hT hz b hk
 | some r => exact look_okn ko hT hz (h.at_ r rfl) b hm hk
theorem olook_s {P : Program} {E : List PanicEntry → Heap → Prop} {T Kt Et : TypeId} {s : TH} {rk : Option Nat} {mk : List (Int × Value)} {τ : Nat} {z v : Value} {b : Int} {K : Value → Heap → Prop} (ko : KeyOk P Kt (Value.int .i64)) (hT : P.underlying T = some (.map Kt Et)) (hz : ∀ w, (zeroValue Et).run P w = .ok z w) (h : OMap s rk mk τ) (hm : mget b mk = some v) (hk : K (.tuple #[v, .bool true]) s.h) :
  semW P (Instr.lookup T (.map rk) (.int .i64 b) true) E s.h K := by
 cases rk with
 | none => rw [h.no rfl] at hm; cases hm
 | some r => exact look_oks ko hT hz (h.at_ r rfl) b hm hk
theorem OMap.of {s : TH} {r : Nat} {mk : List (Int × Value)} {τ : Nat} (h : MapK (Value.int .i64) s r mk τ) : OMap s (some r) mk τ := ⟨fun r' e => by cases e; exact h, fun e => by cases e⟩
def sentOf (p : Int × WayM) : SentM := ⟨p.1, p.2.blk, p.2.by_⟩
structure VOk (V : VolM) : Prop where
 que : V.D.queue = V.way.map sentOf
 wid : ∀ p ∈ V.way, 1 ≤ p.1 ∧ p.1 ≤ V.D.last
 wsr : V.way.Pairwise fun x y => x.1 < y.1
 lst : 0 ≤ V.D.last ∧ V.D.last ≤ V.n
 n0 : 0 ≤ V.n ∧ V.n ≤ 1000000000000000000
 nof : ∀ b, V.D.fails b ≤ 0
 len : ∀ y ∈ V.D.blocks, y.length = 128
 wlen : V.way.length ≤ 64
 wids : ∀ p ∈ V.way, (p.2.ids.length : Int) ≤ 1000000
structure VolP (s : TH) (v d U : Nat) (V : VolM) (lk : Int) (c p rw : Nat) (rk : Option Nat) (mw mk : List (Int × Value)) : Prop where
 blk : Blk s v [.int .i32 lk, .int .u32 0, .pointer (some ⟨d, 0, none⟩), .pointer (some ⟨c, 0, none⟩), .pointer (some ⟨p, 0, none⟩), .map (some rw), .bool V.old.on, .bool V.old.broken, .int .i64 V.old.room, .map rk] 76 U
 wm : MapK (Value.int .i64) s rw mw (U + 1)
 wv : WMap s (U + 2) mw V.way
 kn : V.old.on = true → rk.isSome = true
 om : OMap s rk mk (U + 3)
 kv : KMap s (U + 4) mk V.old.kept
 dk : Disk s d (U + 10) V.D
 ca : CacheV s c (U + 20) d V.D.blocks V.n
 ps : PSet s p (U + 30) V.P
structure VolL (s : TH) (v d U : Nat) (V : VolM) (lk : Int) : Prop where
 p : ∃ c p rw rk mw mk, VolP s v d U V lk c p rw rk mw mk
 ok : VOk V
theorem of_rng50 {s : TH} {T T' : Nat} {B : Nat → Prop} (hn : ∀ j, j < s.h.size → T ≤ s.g j → s.g j < T + 50 → ¬ B j) (h1 : T ≤ T') (h2 : T' + 10 ≤ T + 50) : ∀ j, j < s.h.size → T' ≤ s.g j → s.g j < T' + 10 → ¬ B j := fun j hj h3 h4 => hn j hj (by omega) (by omega)
theorem of_t50 {s : TH} {T τ : Nat} {B : Nat → Prop} (hn : ∀ j, j < s.h.size → T ≤ s.g j → s.g j < T + 50 → ¬ B j) (h1 : T ≤ τ) (h2 : τ < T + 50) : ∀ j, j < s.h.size → s.g j = τ → ¬ B j := fun j hj e => hn j hj (by omega) (by omega)
theorem rngn50 {s : TH} {T : Nat} {L : List Nat} (h : ∀ τ ∈ L, τ < T ∨ T + 50 ≤ τ) : ∀ j, j < s.h.size → T ≤ s.g j → s.g j < T + 50 → ¬ s.g j ∈ L := fun j _ h1 h2 h3 => by have := h _ h3; omega
theorem VolP.mv {s s' : TH} {v d U : Nat} {V : VolM} {lk : Int} {c p rw : Nat} {rk : Option Nat} {mw mk : List (Int × Value)} {B : Nat → Prop} (h : VolP s v d U V lk c p rw rk mw mk) (k : Chg B s s') (hn : ∀ j, j < s.h.size → U ≤ s.g j → s.g j < U + 50 → ¬ B j) : VolP s' v d U V lk c p rw rk mw mk :=
 ⟨h.blk.mv k (of_t50 hn (by omega) (by omega) v h.blk.lt h.blk.tag), h.wm.mv k (of_t50 hn (by omega) (by omega) rw h.wm.lt h.wm.tag), h.wv.mv k (of_t50 hn (by omega) (by omega)), h.kn, h.om.mv k (of_t50 hn (by omega) (by omega)), h.kv.mv k (of_t50 hn (by omega) (by omega)),
  h.dk.mv k (of_rng50 hn (by omega) (by omega)), h.ca.mv k (of_rng50 hn (by omega) (by omega)), h.ps.mv k (of_rng50 hn (by omega) (by omega))⟩
theorem VolL.mv {s s' : TH} {v d U : Nat} {V : VolM} {lk : Int} {B : Nat → Prop} (h : VolL s v d U V lk) (k : Chg B s s') (hn : ∀ j, j < s.h.size → U ≤ s.g j → s.g j < U + 50 → ¬ B j) : VolL s' v d U V lk := by
 obtain ⟨⟨c, p, rw, rk, mw, mk, hp⟩, ok⟩ := h
 exact ⟨⟨c, p, rw, rk, mw, mk, hp.mv k hn⟩, ok⟩
theorem rowLen {V : VolM} (ok : VOk V) {b : Int} {l : List UInt8} (h : V.D.blocks[b.toNat]? = some l) : l.length = 128 := ok.len l (List.mem_of_getElem? h)
def VolM.blk (V : VolM) (b : Int) : List UInt8 := V.D.blocks.getD b.toNat []
theorem blk_get {V : VolM} {b : Int} (h : V.D.has b) : V.D.blocks[b.toNat]? = some (V.blk b) := by
 unfold DiskM.has at h
 unfold VolM.blk
 rw [List.getD_eq_getElem?_getD, List.getElem?_eq_getElem (by omega)]; rfl
theorem blk_len {V : VolM} (ok : VOk V) {b : Int} (h : V.D.has b) : (V.blk b).length = 128 := rowLen ok (blk_get h)
def VolM.now (V : VolM) (b : Int) : List UInt8 := V.P.over (V.blk b) (V.P.of b)
def VolM.tick (V : VolM) : VolM := { V with n := V.n + 1 }
theorem VOk.tick {V : VolM} (ok : VOk V) (h : V.n < 1000000000000000000) : VOk V.tick := ⟨ok.que, ok.wid, ok.wsr, by have := ok.lst; exact ⟨this.1, by show V.D.last ≤ V.n + 1; omega⟩, by have := ok.n0; exact ⟨by show 0 ≤ V.n + 1; omega, by show V.n + 1 ≤ _; omega⟩, ok.nof, ok.len, ok.wlen, ok.wids⟩
theorem um72 : Tryz.prog.underlying 72 = some (.map 3 85) := by kernel_rfl
theorem c_vhas (vp d U : Nat) (V : VolM) (lk : Int) (b : Int) (s : TH) (hU : 10 ≤ U) (hv : VolL s vp d U V lk) : TRet Tryz.prog 75 #[.pointer (some ⟨vp, 0, none⟩), .int .i64 b] s fun v s' => v = .bool (decide (V.D.has b)) ∧ Ch [] s s' := by
 obtain ⟨⟨c, p, rw_, rk, mw, mk, hV⟩, ok⟩ := id hv
 have hvb := hV.blk
 have hvw := hV.wm
 have hvv := hV.wv
 have hvo := hV.om
 have hvk := hV.kv
 have hvD := hV.dk
 have hvC := hV.ca
 have hvP := hV.ps
 have hn0 := ok.n0
 have hpok := hV.ps.ok
 have hplst := hV.ps.ok.lst
 have hnb := hV.dk.nb
 refine F75_calls _ _  ?_
 unfold F75
 refine sB_d (fun e => ?_) (fun e => ?_)
 ·
  refine nz_i (ld_t hvb rfl (dPtr_i ?_))
  refine tcall (c_blocks _ _ _ _ (by omega) hvD) ?_
  rintro f g ⟨rfl, a⟩
  have h := a.size
  refine dInt_i ?_
  refine ret_t ?_
  exact ⟨ret_b (by unfold DiskM.has; first | exact (decide_eq_false (by omega)).symm | exact (decide_eq_true (by omega)).symm | exact decide_eq_decide.2 (by omega)), ((Ch.refl [] s).ch a (by simp))⟩
 ·
  refine ret_t ?_
  exact ⟨ret_b (by unfold DiskM.has; first | exact (decide_eq_false (by omega)).symm | exact (decide_eq_true (by omega)).symm | exact decide_eq_decide.2 (by omega)), (Ch.refl [] s)⟩
theorem c_vread (vp d U : Nat) (V : VolM) (lk : Int) (τ : Nat) (b : Int) (s : TH) (hU : 10 ≤ U) (hv : VolL s vp d U V lk) (hn : V.n < 1000000000000000000) : TRet Tryz.prog 63 #[.pointer (some ⟨vp, 0, none⟩), .int .i64 b] s fun v s' => Ch [U + 20, U + 21, U + 22, U + 23] s s' ∧ ((v = .tuple #[.slice none 0 0, .int .i64 90] ∧ ¬ V.D.has b ∧ VolL s' vp d U V lk) ∨ (∃ a c, v = .tuple #[.slice a 128 c, .int .i64 0] ∧ V.D.has b ∧ VolL s' vp d U V.tick lk ∧ Own s' a 128 c 5 1 (bvs (V.now b)) τ)) := by
 obtain ⟨⟨c, p, rw_, rk, mw, mk, hV⟩, ok⟩ := id hv
 have hvb := hV.blk
 have hvw := hV.wm
 have hvv := hV.wv
 have hvo := hV.om
 have hvk := hV.kv
 have hvD := hV.dk
 have hvC := hV.ca
 have hvP := hV.ps
 have hn0 := ok.n0
 have hpok := hV.ps.ok
 have hplst := hV.ps.ok.lst
 have hnb := hV.dk.nb
 obtain ⟨M, hM, hM0, hMa, hMb, hMc, hMd, hMe, hMf⟩ := fresh6 s (U + 50) τ 0 0 0 0
 refine F63_calls _ _  ?_
 unfold F63
 refine tcall (c_vhas _ _ _ _ _ _ _ (by omega) hv) ?_
 rintro R S ⟨rfl, f⟩
 have T := f.size
 refine dBl_i ?_
 refine sB_nd (fun i => ?_) (fun i => ?_)
 ·
  refine ret_t ?_
  have E := hv.mv f (rngn50 (by simp))
  exact ⟨((Ch.refl [U + 20, U + 21, U + 22, U + 23] s).ch f (by simp)), .inl ⟨rfl, by simpa using i, E⟩⟩
 ·
  refine nz_i ?_
  have q := hvb.ch f (by simp)
  refine ld_t q rfl (dPtr_i ?_)
  have hh : V.D.has b := by simpa using i
  have F := hvC.mv f (rngn (by simp))
  have r := hvD.mv f (rngn (by simp))
  refine tcall (c_vcGet (M + 5) (by omega) (by omega) (by omega) F r hh (blk_get hh) (ok.nof b) (by omega)) ?_
  rintro J K ⟨G, C, rfl, g, j, k⟩
  have L := g.size
  refine dT2 (dSl_i (dInt_i (sB_f (by rfl) (nz_i ?_))))
  have l := q.ch g (by simp <;> omega)
  refine ld_t l rfl (dPtr_i ?_)
  have m := hvP.mv (f.app g) (rngn (by simp))
  refine tcall (c_pnow p (U + 30) V.P (τ := τ) (b := b) _ _ (by omega) m k.sl (blk_len ok hh)) ?_
  rintro N O ⟨H, I, rfl, e, o⟩
  have Q := e.size
  refine dT2 (dSl_i (dInt_i ?_))
  refine ret_t ?_
  have t := l.ch e (by simp)
  have h := ((f.app g).app e)
  have u := hvw.ch h (by simp)
  have w := hvv.mv h (tagn (by simp))
  have x := hvo.mv h (tagn (by simp))
  have y := hvk.mv h (tagn (by simp))
  have z := r.mv (g.app e) (rngn (by simp))
  have A := j.mv e (rngn (by simp))
  have B := m.mv e (rngn (by simp))
  exact ⟨((((Ch.refl [U + 20, U + 21, U + 22, U + 23] s).ch f (by simp)).fr g hM (by simp <;> omega)).ch e (by simp)), .inr ⟨_, _, rfl, hh, ⟨⟨_, _, _, _, _, _, t, u, w, hV.kn, x, y, z, A, B⟩, ok.tick hn⟩, o⟩⟩
theorem dA3 {a b c : Value} {k : VF 3} (h : (k : Value → Value → Value → Prop) a b c) : dA 3 (.agg #[a, b, c]) k := h
def VolM.going (V : VolM) (b : Int) : Bool := V.way.any fun p => p.2.blk == b
def VolM.ready (V : VolM) : List Int := V.P.blocks.filter fun b => !((V.P.free b).isEmpty || V.going b)
def VolM.plan (V : VolM) (b : Int) : List UInt8 := V.P.over (V.blk b) (V.P.free b)
def VolM.sent (V : VolM) (b : Int) : VolM := { V with n := V.n + 1, D := { V.D with queue := V.D.queue ++ [⟨V.D.last + 1, b, V.plan b⟩], last := V.D.last + 1 }, way := V.way ++ [(V.D.last + 1, ⟨b, V.plan b, V.P.free b⟩)] }
def VolM.write (V : VolM) (b : Int) : VolM × Int :=
 if ¬ V.D.has b then (V, 90)
 else if V.going b = true then (V, 3)
 else if V.P.free b = [] then (V, 71)
 else if 64 ≤ V.way.length then (V.tick, 3)
 else (V.sent b, 0)
theorem VOk.sent {V : VolM} (ok : VOk V) (pok : POk V.P) {b : Int} (h : V.D.has b) (hw : ¬ 64 ≤ V.way.length) (hn : V.n < 1000000000000000000) : VOk (V.sent b) where
 que := by
  show V.D.queue ++ [_] = (V.way ++ [_]).map sentOf
  rw [List.map_append, ok.que]; rfl
 wid p hp := by
  have hl := ok.lst
  rcases List.mem_append.1 (show p ∈ V.way ++ [_] from hp) with h | h
  ·have := ok.wid p h; exact ⟨this.1, by show p.1 ≤ V.D.last + 1; omega⟩
  ·rw [List.mem_singleton] at h; subst h; exact ⟨by show 1 ≤ V.D.last + 1; omega, Int.le_refl _⟩
 wsr := List.pairwise_append.2 ⟨ok.wsr, by simp, fun a ha c hc => by
  rw [List.mem_singleton] at hc; subst hc
  have := ok.wid a ha
  show a.1 < V.D.last + 1
  omega⟩
 lst := by have := ok.lst; exact ⟨by show 0 ≤ V.D.last + 1; omega, by show V.D.last + 1 ≤ V.n + 1; omega⟩
 n0 := by have := ok.n0; exact ⟨by show 0 ≤ V.n + 1; omega, by show V.n + 1 ≤ _; omega⟩
 nof := ok.nof
 len := ok.len
 wlen := by show (V.way ++ [_]).length ≤ 64; rw [List.length_append, List.length_singleton]; omega
 wids p hp := by
  rcases List.mem_append.1 (show p ∈ V.way ++ [_] from hp) with h | h
  ·exact ok.wids p h
  ·rw [List.mem_singleton] at h; subst h
   have h1 := free_len pok b
   have h2 := pok.lst
   show ((V.P.free b).length : Int) ≤ 1000000
   omega
theorem QRel.keep {s : TH} {σ μ τ : Nat} {hs : List (Int × Int × Hd)} {q : List SentM} (h : QRel s σ hs q) (hn : σ ≠ μ) : QRel (remark s μ τ) σ hs q := ⟨h.len, fun i p b h1 h2 => ⟨(h.at_ i p b h1 h2).1, (h.at_ i p b h1 h2).2.1, ⟨(h.at_ i p b h1 h2).2.2.sl.keep hn, (h.at_ i p b h1 h2).2.2.len⟩⟩⟩
theorem BRel.keep {s : TH} {σ μ τ : Nat} {hs : List Hd} {q : List (List UInt8)} (h : BRel s σ hs q) (hn : σ ≠ μ) : BRel (remark s μ τ) σ hs q := ⟨h.len, fun i p b h1 h2 => ⟨(h.at_ i p b h1 h2).sl.keep hn, (h.at_ i p b h1 h2).len⟩⟩
theorem ByAt.nn {s : TH} {τ : Nat} {p : Hd} {b : List UInt8} (h : ByAt s τ p b) : p.1 = none → 128 = 0 := fun e => by obtain ⟨a, ha⟩ := h.ne; rw [e] at ha; cases ha
theorem VolP.relock {s s' : TH} {v d U : Nat} {V : VolM} {lk lk' : Int} {c p rw : Nat} {rk : Option Nat} {mw mk : List (Int × Value)} (h : VolP s v d U V lk c p rw rk mw mk) (k : Ch [U] s s')
  (hb : Blk s' v [.int .i32 lk', .int .u32 0, .pointer (some ⟨d, 0, none⟩), .pointer (some ⟨c, 0, none⟩), .pointer (some ⟨p, 0, none⟩), .map (some rw), .bool V.old.on, .bool V.old.broken, .int .i64 V.old.room, .map rk] 76 U) : VolP s' v d U V lk' c p rw rk mw mk :=
 ⟨hb, h.wm.ch k (by simp), h.wv.mv k (tagn (by simp)), h.kn, h.om.mv k (tagn (by simp)), h.kv.mv k (tagn (by simp)), h.dk.mv k (rngn (by simp <;> omega)), h.ca.mv k (rngn (by simp <;> omega)), h.ps.mv k (rngn (by simp <;> omega))⟩
theorem c_VLast (vp d U : Nat) (V : VolM)  (s : TH) (hU : 10 ≤ U) (hv : VolL s vp d U V 0) : TRet Tryz.prog 34 #[.pointer (some ⟨vp, 0, none⟩)] s fun v s' => v = .int .i64 V.P.last ∧ Ch [U] s s' ∧ VolL s' vp d U V 0 := by
 obtain ⟨⟨c, p, rw_, rk, mw, mk, hV⟩, ok⟩ := id hv
 have hvb := hV.blk
 have hvw := hV.wm
 have hvv := hV.wv
 have hvo := hV.om
 have hvk := hV.kv
 have hvD := hV.dk
 have hvC := hV.ca
 have hvP := hV.ps
 have hn0 := ok.n0
 have hpok := hV.ps.ok
 have hplst := hV.ps.ok.lst
 have hnb := hV.dk.nb
 refine F34_calls _  ?_
 unfold F34
 refine tcall (c_vheld _ _ hvb) ?_
 rintro z u ⟨rfl, f, b⟩
 have A := f.size
 have hV1 := hV.relock f b
 have hv1 : VolL u vp d U V 1 := ⟨⟨_, _, _, _, _, _, hV1⟩, ok⟩
 refine dBl_i (sB_f (by rfl) (nz_i (nz_i (ld_t b rfl (dPtr_i ?_)))))
 have i := hvP.mv f (rngn (by simp))
 refine tcall (c_plast _ _ _ _ (by omega) i) ?_
 rintro B C ⟨rfl, e⟩
 have w := e.size
 refine dInt_i ?_
 have h := b.ch e (by simp)
 refine c_door Tryz.muLib h (by rfl) (fun _ => by rfl) fun x j k y => ?_
 have g := on_ch h k
 refine ret_t ?_
 have a := ((f.app e).app g)
 have l := hvw.ch a (by simp)
 have m := hvv.mv a (tagn (by simp))
 have n := hvo.mv a (tagn (by simp))
 have o := hvk.mv a (tagn (by simp))
 have q := hvD.mv a (rngn (by simp))
 have r := hvC.mv a (rngn (by simp))
 have t := i.mv (e.app g) (rngn (by simp))
 exact ⟨rfl, ((Ch.refl [U] s).ch a (by simp)), ⟨⟨_, _, _, _, _, _, j, l, m, hV.kn, n, o, q, r, t⟩, ok⟩⟩
theorem c_VBlocks2 (vp d U : Nat) (V : VolM)  (s : TH) (hU : 10 ≤ U) (hv : VolL s vp d U V 0) : TRet Tryz.prog 32 #[.pointer (some ⟨vp, 0, none⟩)] s fun v s' => v = .int .i64 V.D.blocks.length ∧ Ch [U] s s' ∧ VolL s' vp d U V 0 := by
 obtain ⟨⟨c, p, rw_, rk, mw, mk, hV⟩, ok⟩ := id hv
 have hvb := hV.blk
 have hvw := hV.wm
 have hvv := hV.wv
 have hvo := hV.om
 have hvk := hV.kv
 have hvD := hV.dk
 have hvC := hV.ca
 have hvP := hV.ps
 have hn0 := ok.n0
 have hpok := hV.ps.ok
 have hplst := hV.ps.ok.lst
 have hnb := hV.dk.nb
 refine F32_calls _  ?_
 unfold F32
 refine tcall (c_vheld _ _ hvb) ?_
 rintro z u ⟨rfl, f, b⟩
 have A := f.size
 have hV1 := hV.relock f b
 have hv1 : VolL u vp d U V 1 := ⟨⟨_, _, _, _, _, _, hV1⟩, ok⟩
 refine dBl_i (sB_f (by rfl) (nz_i (nz_i (ld_t b rfl (dPtr_i ?_)))))
 have i := hvD.mv f (rngn (by simp))
 refine tcall (c_blocks _ _ _ _ (by omega) i) ?_
 rintro B C ⟨rfl, e⟩
 have w := e.size
 refine dInt_i ?_
 have h := b.ch e (by simp)
 refine c_door Tryz.muLib h (by rfl) (fun _ => by rfl) fun x j k y => ?_
 have g := on_ch h k
 refine ret_t ?_
 have a := ((f.app e).app g)
 have l := hvw.ch a (by simp)
 have m := hvv.mv a (tagn (by simp))
 have n := hvo.mv a (tagn (by simp))
 have o := hvk.mv a (tagn (by simp))
 have q := i.mv (e.app g) (rngn (by simp))
 have r := hvC.mv a (rngn (by simp))
 have t := hvP.mv a (rngn (by simp))
 exact ⟨rfl, ((Ch.refl [U] s).ch a (by simp)), ⟨⟨_, _, _, _, _, _, j, l, m, hV.kn, n, o, q, r, t⟩, ok⟩⟩
theorem c_VUndo (vp d U : Nat) (V : VolM) (i : Int) (s : TH) (hU : 10 ≤ U) (hv : VolL s vp d U V 0) : TRet Tryz.prog 36 #[.pointer (some ⟨vp, 0, none⟩), .int .i64 i] s fun v s' => v = .int .i64 (V.P.undo i).2 ∧ Ch [U, U + 30, U + 32] s s' ∧ VolL s' vp d U { V with P := (V.P.undo i).1 } 0 := by
 obtain ⟨⟨c, p, rw_, rk, mw, mk, hV⟩, ok⟩ := id hv
 have hvb := hV.blk
 have hvw := hV.wm
 have hvv := hV.wv
 have hvo := hV.om
 have hvk := hV.kv
 have hvD := hV.dk
 have hvC := hV.ca
 have hvP := hV.ps
 have hn0 := ok.n0
 have hpok := hV.ps.ok
 have hplst := hV.ps.ok.lst
 have hnb := hV.dk.nb
 obtain ⟨M, hM, hM0, hMa, hMb, hMc, hMd, hMe, hMf⟩ := fresh6 s (U + 50) 0 0 0 0 0
 refine F36_calls _ _  ?_
 unfold F36
 refine tcall (c_vheld _ _ hvb) ?_
 rintro B w ⟨rfl, g, b⟩
 have C := g.size
 have hV1 := hV.relock g b
 have hv1 : VolL w vp d U V 1 := ⟨⟨_, _, _, _, _, _, hV1⟩, ok⟩
 refine dBl_i (sB_f (by rfl) (nz_i (nz_i (ld_t b rfl (dPtr_i ?_)))))
 have x := hvP.mv g (rngn (by simp))
 refine tcall (c_undo _ _ _ _ _ (by omega) x) ?_
 rintro D E ⟨rfl, e, h⟩
 have y := e.size
 refine dInt_i ?_
 have j := b.ch e (by simp <;> omega)
 refine c_door Tryz.muLib j (by rfl) (fun _ => by rfl) fun z k l A => ?_
 have f := on_ch j l
 refine ret_t ?_
 have a := ((g.app e).app f)
 have m := hvw.ch a (by simp)
 have n := hvv.mv a (tagn (by simp))
 have o := hvo.mv a (tagn (by simp))
 have q := hvk.mv a (tagn (by simp))
 have r := hvD.mv a (rngn (by simp))
 have t := hvC.mv a (rngn (by simp))
 have u := h.mv f (rngn (by simp))
 exact ⟨rfl, ((((Ch.refl [U, U + 30, U + 32] s).ch g (by simp)).fr e hM (by simp <;> omega)).ch f (by simp)), ⟨⟨_, _, _, _, _, _, k, m, n, hV.kn, o, q, r, t, u⟩, ⟨ok.que, ok.wid, ok.wsr, ok.lst, ok.n0, ok.nof, ok.len, ok.wlen, ok.wids⟩⟩⟩
theorem c_VRead (vp d U : Nat) (V : VolM) (τ : Nat) (b : Int) (s : TH) (hU : 10 ≤ U) (hv : VolL s vp d U V 0) (hn : V.n < 1000000000000000000) (hb : V.D.has b) (hτ : τ < U ∨ U + 50 ≤ τ) : TRet Tryz.prog 23 #[.pointer (some ⟨vp, 0, none⟩), .int .i64 b] s fun v s' => ∃ a c, v = .tuple #[.slice a 128 c, .int .i64 0] ∧ Ch [U, U + 20, U + 21, U + 22, U + 23] s s' ∧ Own s' a 128 c 5 1 (bvs (V.now b)) τ ∧ VolL s' vp d U V.tick 0 := by
 obtain ⟨⟨c, p, rw_, rk, mw, mk, hV⟩, ok⟩ := id hv
 have hvb := hV.blk
 have hvw := hV.wm
 have hvv := hV.wv
 have hvo := hV.om
 have hvk := hV.kv
 have hvD := hV.dk
 have hvC := hV.ca
 have hvP := hV.ps
 have hn0 := ok.n0
 have hpok := hV.ps.ok
 have hplst := hV.ps.ok.lst
 have hnb := hV.dk.nb
 refine F23_calls _ _  ?_
 unfold F23
 refine tcall (c_vheld _ _ hvb) ?_
 rintro u o ⟨rfl, f, g⟩
 have w := f.size
 have hV1 := hV.relock f g
 have hv1 : VolL o vp d U V 1 := ⟨⟨_, _, _, _, _, _, hV1⟩, ok⟩
 refine dBl_i (sB_f (by rfl) (nz_i ?_))
 refine tcall (c_vread _ _ _ _ _ τ _ _ (by omega) hv1 (by omega)) ?_
 rintro x y ⟨i, h⟩
 have q := i.size
 rcases h with ⟨rfl, hnb2, hv2⟩ | ⟨a2, c2_, rfl, hh, hv2, ho2⟩
 ·
  exact absurd hb hnb2
 ·
  have hvx := hv2
  obtain ⟨⟨c2, p2, rw2, rk2, mw2, mk2, hV2⟩, ok2⟩ := id hvx
  have hvb2 := hV2.blk
  refine dT2 (dSl_i (dInt_i ?_))
  refine c_door Tryz.muLib hvb2 (by rfl) (fun _ => by rfl) fun r j k t => ?_
  have e := on_ch hvb2 k
  refine ret_t ?_
  have l := ((f.app i).app e)
  have m := ho2.mv e (tagn (by simp <;> omega))
  exact ⟨_, _, rfl, ((Ch.refl [U, U + 20, U + 21, U + 22, U + 23] s).ch l (by simp)), m, ⟨⟨_, _, _, _, _, _, hV2.relock e j⟩, ok2⟩⟩
def VolM.first (V : VolM) (b : Int) : Bool := V.old.on && !V.old.broken && (kfind V.old.kept b).isNone
def VolM.keep (V : VolM) (b : Int) : OldM := if V.first b = true then (if (V.old.kept.length : Int) < V.old.room then { V.old with kept := V.old.kept ++ [(b, V.now b)] } else { V.old with broken := true }) else V.old
def VolM.ticks (V : VolM) (b : Int) : Int := if V.first b = true then V.n + 1 else V.n
def VolM.change (V : VolM) (b o : Int) (y : List UInt8) (needs : List Int) : VolM × Int × Int :=
 if ¬ V.D.has b then (V, 0, 90)
 else if (V.P.add b o y needs).2.2 ≠ 0 then ({ V with n := V.ticks b }, 0, (V.P.add b o y needs).2.2)
 else ({ V with n := V.ticks b, P := (V.P.add b o y needs).1, old := V.keep b }, (V.P.add b o y needs).2.1, 0)
theorem olook_k {P : Program} {E : List PanicEntry → Heap → Prop} {T Kt Et : TypeId} {s : TH} {rk : Option Nat} {mk : List (Int × Value)} {l : List (Int × List UInt8)} {τ τ' : Nat} {b : Int} {K : Value → Heap → Prop} (ko : KeyOk P Kt (Value.int .i64)) (hT : P.underlying T = some (.map Kt Et)) (hz : ∀ w, (zeroValue Et).run P w = .ok (.slice none 0 0) w) (h : OMap s rk mk τ) (hv : KMap s τ' mk l)
  (hk : ∀ a n c, K (.tuple #[.slice a n c, .bool (kfind l b).isSome]) s.h) : semW P (Instr.lookup T (.map rk) (.int .i64 b) true) E s.h K := by
 have hg := KMap.get (b := b) hv
 cases hf : kfind l b with
 | none => rw [hf] at hg hk; exact olook_n ko hT hz h hg (hk _ _ _)
 | some y => rw [hf] at hg hk; obtain ⟨a, c, h1, _⟩ := hg; exact olook_s ko hT hz h h1 (hk _ _ _)
theorem add_err {P : PatchM} {b o : Int} {y : List UInt8} {needs : List Int} (h : (P.add b o y needs).2.2 ≠ 0) : (P.add b o y needs).1 = P := by
 unfold PatchM.add at h ⊢
 split
 ·rfl
 ·split
  ·rfl
  ·rename_i h1 h2
   rw [if_neg h1, if_neg h2] at h; exact absurd rfl h
theorem VOk.with {V : VolM} (ok : VOk V) {n : Int} (P : PatchM) (o : OldM) (hn : V.n ≤ n ∧ n ≤ 1000000000000000000) : VOk { V with n := n, P := P, old := o } :=
 ⟨ok.que, ok.wid, ok.wsr, by have := ok.lst; exact ⟨this.1, by show V.D.last ≤ n; omega⟩, by have := ok.n0; exact ⟨by show 0 ≤ n; omega, hn.2⟩, ok.nof, ok.len, ok.wlen, ok.wids⟩
theorem CacheV.up {s : TH} {c T d : Nat} {bs : List (List UInt8)} {n m : Int} (h : CacheV s c T d bs n) (hm : n ≤ m) : CacheV s c T d bs m := by
 obtain ⟨C, h1, h2, h3, h4, h5⟩ := h
 exact ⟨C, h1, h2, by omega, by omega, by omega⟩
theorem c_VChange (vp d U : Nat) (V : VolM) (b o : Int) {xa : Option Addr} {xn : Nat} (xc : Nat) {y : List UInt8} {τx : Nat} {na : Option Addr} {nn : Nat} (nc : Nat) {needs : List Int} {τn : Nat} (s : TH) (hU : 10 ≤ U) (hv : VolL s vp d U V 0) (hx : Sl s xa (bvs y) τx) (hxn : y.length = xn) (hn : Sl s na (ivs needs) τn) (hnn : needs.length = nn) (hb : (nn : Int) + V.P.last ≤ 17592186044000) (hl : V.P.last < 1000000) (hk : V.n < 1000000000000000000) (hτ : (τx < U ∨ U + 50 ≤ τx) ∧ (τn < U ∨ U + 50 ≤ τn)) : TRet Tryz.prog 26 #[.pointer (some ⟨vp, 0, none⟩), .int .i64 b, .int .i64 o, .slice xa xn xc, .slice na nn nc] s fun v s' => v = .tuple #[.int .i64 (V.change b o y needs).2.1, .int .i64 (V.change b o y needs).2.2] ∧ Ch [U, U + 3, U + 20, U + 21, U + 22, U + 23, U + 30, U + 32] s s' ∧ VolL s' vp d U (V.change b o y needs).1 0 := by
 obtain ⟨⟨c, p, rw_, rk, mw, mk, hV⟩, ok⟩ := id hv
 have hvb := hV.blk
 have hvw := hV.wm
 have hvv := hV.wv
 have hvo := hV.om
 have hvk := hV.kv
 have hvD := hV.dk
 have hvC := hV.ca
 have hvP := hV.ps
 have hn0 := ok.n0
 have hpok := hV.ps.ok
 have hplst := hV.ps.ok.lst
 have hnb := hV.dk.nb
 obtain ⟨M, hM, hM0, hMa, hMb, hMc, hMd, hMe, hMf⟩ := fresh6 s (U + 50) τx τn 0 0 0
 refine F26_calls _ _ _ _ _ _ _ _ _  ?_
 unfold F26
 refine tcall (c_vheld _ _ hvb) ?_
 rintro bW bv ⟨rfl, F, G⟩
 have bX := F.size
 have hV1 := hV.relock F G
 have hv1 : VolL bv vp d U V 1 := ⟨⟨_, _, _, _, _, _, hV1⟩, ok⟩
 refine dBl_i (sB_f (by rfl) (nz_i ?_))
 refine tcall (c_vhas _ _ _ _ _ _ _ (by omega) hv1) ?_
 rintro bY Z ⟨rfl, u⟩
 have bE := u.size
 refine dBl_i ?_
 refine sB_nd (fun h => ?_) (fun h => ?_)
 ·
  have ae := G.ch u (by simp)
  refine c_door Tryz.muLib ae (by rfl) (fun _ => by rfl) fun bF aK aL bG => ?_
  have al := on_ch ae aL
  refine ret_t ?_
  have k := ((F.app u).app al)
  have aM := hvw.ch k (by simp)
  have aN := hvv.mv k (tagn (by simp))
  have aO := hvo.mv k (tagn (by simp))
  have aP := hvk.mv k (tagn (by simp))
  have aQ := hvD.mv k (rngn (by simp))
  have aR := hvC.mv k (rngn (by simp))
  have aS := hvP.mv k (rngn (by simp))
  rw [show V.change b o y needs = (V, 0, 90) from by unfold VolM.change; rw [if_pos (by simpa using h)]]
  exact ⟨rfl, ((Ch.refl [U, U + 3, U + 20, U + 21, U + 22, U + 23, U + 30, U + 32] s).ch k (by simp)), ⟨⟨_, _, _, _, _, _, aK, aM, aN, hV.kn, aO, aP, aQ, aR, aS⟩, ok⟩⟩
 ·
  refine nz_i ?_
  have K := G.ch u (by simp)
  refine ld_t K rfl (dMap_i ?_)
  have S := hvo.mv (F.app u) (tagn (by simp))
  have T := hvk.mv (F.app u) (tagn (by simp))
  refine olook_k keyI um72 z85 S T fun ka kn kc => ?_
  refine dT2 (dSl_i (dBl_i ?_))
  refine jn1 (fun fv s' => Ch [] Z s' ∧ (fv = .bool (V.first b))) ?_ ?_
  ·
   rintro fv bH ⟨l, rfl⟩
   have bI := l.size
   intro _
   intros
   refine dBl_i ?_
   refine jn_u ?_
   refine sB_i (fun L => ?_) (fun L => ?_)
   ·
    have hfirst : V.first b = true := by assumption
    have hhas : V.D.has b := by simpa using h
    have hf2 := hfirst
    unfold VolM.first at hf2
    simp only [Bool.and_eq_true, Bool.not_eq_true', Option.isNone_iff_eq_none] at hf2
    have aT := hv1.mv (u.app l) (rngn50 (by simp))
    refine tcall (c_vread _ _ _ _ _ (U + 4) _ _ (by omega) aT (by omega)) ?_
    rintro bJ m ⟨af, ag⟩
    have bK := af.size
    rcases ag with ⟨rfl, hnb2, hv2⟩ | ⟨a2, c2_, rfl, hh, hv2, ho2⟩
    ·
     exact absurd hhas hnb2
    ·
     obtain ⟨⟨c2, p2, rw2, rk2, mw2, mk2, hV2⟩, ok2⟩ := id hv2
     obtain ⟨kr, hkr⟩ := Option.isSome_iff_exists.1 (hV2.kn hf2.1.1)
     subst hkr
     have hvb2 : Blk m vp [.int .i32 1, .int .u32 0, .pointer (some ⟨d, 0, none⟩), .pointer (some ⟨c2, 0, none⟩), .pointer (some ⟨p2, 0, none⟩), .map (some rw2), .bool V.old.on, .bool V.old.broken, .int .i64 V.old.room, .map (some kr)] 76 U := hV2.blk
     have hvw2 := hV2.wm
     have hvv2 : WMap m (U + 2) mw2 V.way := hV2.wv
     have hvo2 : OMap m (some kr) mk2 (U + 3) := hV2.om
     have hvk2 : KMap m (U + 4) mk2 V.old.kept := hV2.kv
     have hvD2 : Disk m d (U + 10) V.D := hV2.dk
     have hvC2 : CacheV m c2 (U + 20) d V.D.blocks (V.n + 1) := hV2.ca
     have hvP2 : PSet m p2 (U + 30) V.P := hV2.ps
     have hkm := hvo2.at_ _ rfl
     have hkl : mk2.length = V.old.kept.length := by have := congrArg List.length hvk2.keys; simpa using this
     refine dT2 (dSl_i (dInt_i (sB_f (by rfl) ?_)))
     intro _
     intros
     refine dSl_i (nz_i (ld_t hvb2 rfl (dPtr_i ?_)))
     have H := (((F.app u).app l).app af)
     have aU := hx.mv H (tagn (by simp <;> omega))
     have aV := hn.mv H (tagn (by simp <;> omega))
     refine tcall (c_add _ _ _ _ _ _ _ _ (by omega) hvP2 aU hxn aV hnn hb hl) ?_
     rintro bL aW ⟨rfl, a, I⟩
     have bM := a.size
     refine dT2 (dInt_i (dInt_i ?_))
     refine sB_nd (fun J => ?_) (fun J => ?_)
     ·
      have ah := hvb2.ch a (by simp <;> omega)
      refine c_door Tryz.muLib ah (by rfl) (fun _ => by rfl) fun bN aX aY bO => ?_
      have g := on_ch ah aY
      refine ret_t ?_
      have aZ := I.mv g (rngn (by simp))
      have a0 := hvw2.ch (a.app g) (by simp)
      have a1 := hvv2.mv (a.app g) (tagn (by simp))
      have a3 := hvo2.mv (a.app g) (tagn (by simp))
      have a4 := hvk2.mv (a.app g) (tagn (by simp))
      have a5 := hvD2.mv (a.app g) (rngn (by simp))
      have a6 := hvC2.mv (a.app g) (rngn (by simp))
      have ht : V.ticks b = V.n + 1 := by unfold VolM.ticks; rw [if_pos hfirst]
      have hc : V.change b o y needs = ({ V with n := V.ticks b }, 0, (V.P.add b o y needs).2.2) := by unfold VolM.change; rw [if_neg (by simpa using h), if_pos J]
      rw [hc]
      have hP := aZ
      rw [add_err J] at hP
      exact ⟨rfl, ((((Ch.refl [U, U + 3, U + 20, U + 21, U + 22, U + 23, U + 30, U + 32] s).ch H (by simp)).fr a hM (by simp <;> omega)).ch g (by simp)), ⟨⟨_, _, _, _, _, _, aX, a0, a1, hV2.kn, a3, a4, a5, by rw [ht]; exact a6, hP⟩, ok.with V.P V.old (by rw [ht]; omega)⟩⟩
     ·
      refine jn_u ?_
      refine jn_u ?_
      refine sB_t (by assumption) ?_
      refine nz_i ?_
      have q := hvb2.ch a (by simp <;> omega)
      refine ld_t q rfl (dMap_i (nz_i (ld_t q rfl (dInt_i ?_))))
      have W := hkm.ch a (by simp)
      refine mlen_t um72 W ?_
      refine dInt_i ?_
      refine ⟨?_, ?_⟩
      ·
       refine ld_t q rfl (dInt_i ?_)
       rfl
      ·
       intro _
       intros
       refine dBl_i ?_
       refine sB_d (fun a7 => ?_) (fun a7 => ?_)
       ·
        refine nz_i (ld_t q rfl (dMap_i ?_))
        refine upd_t keyI um72 W b (Value.slice a2 128 c2_) fun a8 a9 am bP => ?_
        have N : Ch [U + 3] aW a8 := Chg.mono am fun j _ e => by subst e; rw [W.tag]; simp
        intro _
        intros
        have ai := q.ch N (by simp)
        refine c_door Tryz.muLib ai (by rfl) (fun _ => by rfl) fun bQ ba bb bR => ?_
        have B := on_ch ai bb
        refine ret_t ?_
        have z := ((a.app N).app B)
        have bc := hvw2.ch z (by simp)
        have bd := hvv2.mv z (tagn (by simp))
        have be := a9.ch B (by simp)
        have aj := ho2.mv z (tagn (by simp))
        have bf := hvk2.mv z (tagn (by simp))
        have bg := hvD2.mv z (rngn (by simp))
        have bh := hvC2.mv z (rngn (by simp))
        have bi := I.mv (N.app B) (rngn (by simp))
        have ht : V.ticks b = V.n + 1 := by unfold VolM.ticks; rw [if_pos hfirst]
        have hkp : V.keep b = { V.old with kept := V.old.kept ++ [(b, V.now b)] } := by unfold VolM.keep; rw [if_pos hfirst, if_pos (by omega)]
        have hc : V.change b o y needs = ({ V with n := V.ticks b, P := (V.P.add b o y needs).1, old := V.keep b }, (V.P.add b o y needs).2.1, 0) := by unfold VolM.change; rw [if_neg (by simpa using h), if_neg (by simpa using J)]
        rw [hc]
        rw [hkp]
        exact ⟨rfl, (((((Ch.refl [U, U + 3, U + 20, U + 21, U + 22, U + 23, U + 30, U + 32] s).ch H (by simp)).fr a hM (by simp <;> omega)).ch N (by simp)).ch B (by simp)), ⟨⟨_, _, _, _, _, _, ba, bc, bd, fun _ => rfl, OMap.of be, KMap.snoc aj.sl (by have := aj.1; rw [bvs_len] at this; omega) bf hf2.2, bg, by rw [ht]; exact bh, bi⟩, ok.with _ _ (by rw [ht]; omega)⟩⟩
       ·
        refine sB_t (by assumption) ?_
        refine nz_i ?_
        refine st_t (r := vp) (i := 7) q rfl (by simp) fun bS ak an bT => ?_
        have X := on_ch q an
        intro _
        intros
        refine c_door Tryz.muLib ak (by rfl) (fun _ => by rfl) fun bU bj bk bV => ?_
        have O := on_ch ak bk
        refine ret_t ?_
        have A := ((a.app X).app O)
        have bl := hvw2.ch A (by simp)
        have bm := hvv2.mv A (tagn (by simp))
        have bn := hvo2.mv A (tagn (by simp))
        have bo := hvk2.mv A (tagn (by simp))
        have bp := hvD2.mv A (rngn (by simp))
        have bq := hvC2.mv A (rngn (by simp))
        have br := I.mv (X.app O) (rngn (by simp))
        have ht : V.ticks b = V.n + 1 := by unfold VolM.ticks; rw [if_pos hfirst]
        have hkp : V.keep b = { V.old with broken := true } := by unfold VolM.keep; rw [if_pos hfirst, if_neg (by omega)]
        have hc : V.change b o y needs = ({ V with n := V.ticks b, P := (V.P.add b o y needs).1, old := V.keep b }, (V.P.add b o y needs).2.1, 0) := by unfold VolM.change; rw [if_neg (by simpa using h), if_neg (by simpa using J)]
        rw [hc]
        rw [hkp]
        exact ⟨rfl, (((((Ch.refl [U, U + 3, U + 20, U + 21, U + 22, U + 23, U + 30, U + 32] s).ch H (by simp)).fr a hM (by simp <;> omega)).ch X (by simp)).ch O (by simp)), ⟨⟨_, _, _, _, _, _, bj, bl, bm, fun _ => rfl, bn, bo, bp, by rw [ht]; exact bq, br⟩, ok.with _ _ (by rw [ht]; omega)⟩⟩
   ·
    intro _
    intros
    refine dSl_i (nz_i ?_)
    have Y := K.ch l (by simp)
    refine ld_t Y rfl (dPtr_i ?_)
    have t := ((F.app u).app l)
    have bs := hvP.mv t (rngn (by simp))
    have bt := hx.mv t (tagn (by simp <;> omega))
    have bu := hn.mv t (tagn (by simp <;> omega))
    refine tcall (c_add _ _ _ _ _ _ _ _ (by omega) bs bt hxn bu hnn hb hl) ?_
    rintro bw bx ⟨rfl, f, R⟩
    have bz := f.size
    refine dT2 (dInt_i (dInt_i ?_))
    refine sB_nd (fun Q => ?_) (fun Q => ?_)
    ·
     have aa := Y.ch f (by simp <;> omega)
     refine c_door Tryz.muLib aa (by rfl) (fun _ => by rfl) fun bA ao ap bB => ?_
     have w := on_ch aa ap
     refine ret_t ?_
     have aq := R.mv w (rngn (by simp))
     have C := ((t.app f).app w)
     have ar := hvw.ch C (by simp)
     have au := hvv.mv C (tagn (by simp))
     have ab := ((l.app f).app w)
     have av := S.mv ab (tagn (by simp))
     have aw := T.mv ab (tagn (by simp))
     have ax := hvD.mv C (rngn (by simp))
     have ay := hvC.mv C (rngn (by simp))
     have ht : V.ticks b = V.n := by unfold VolM.ticks; rw [if_neg (by simpa using L)]
     have hc : V.change b o y needs = ({ V with n := V.ticks b }, 0, (V.P.add b o y needs).2.2) := by unfold VolM.change; rw [if_neg (by simpa using h), if_pos Q]
     rw [hc]
     have hP := aq
     rw [add_err Q] at hP
     exact ⟨rfl, ((((Ch.refl [U, U + 3, U + 20, U + 21, U + 22, U + 23, U + 30, U + 32] s).ch t (by simp)).fr f hM (by simp <;> omega)).ch w (by simp)), ⟨⟨_, _, _, _, _, _, ao, ar, au, hV.kn, av, aw, ax, by rw [ht]; exact ay, hP⟩, ok.with V.P V.old (by rw [ht]; omega)⟩⟩
    ·
     refine jn_u ?_
     refine jn_u ?_
     refine sB_f (by assumption) ?_
     intro _
     intros
     refine dBl_i (sB_f (by rfl) ?_)
     refine sB_f (by assumption) ?_
     intro _
     intros
     have ac := Y.ch f (by simp <;> omega)
     refine c_door Tryz.muLib ac (by rfl) (fun _ => by rfl) fun bC az aA bD => ?_
     have x := on_ch ac aA
     refine ret_t ?_
     have E := ((t.app f).app x)
     have aB := hvw.ch E (by simp)
     have aC := hvv.mv E (tagn (by simp))
     have ad := ((l.app f).app x)
     have aD := S.mv ad (tagn (by simp))
     have aE := T.mv ad (tagn (by simp))
     have aF := hvD.mv E (rngn (by simp))
     have aG := hvC.mv E (rngn (by simp))
     have aH := R.mv x (rngn (by simp))
     have ht : V.ticks b = V.n := by unfold VolM.ticks; rw [if_neg (by simpa using L)]
     have hkp : V.keep b = V.old := by unfold VolM.keep; rw [if_neg (by simpa using L)]
     have hc : V.change b o y needs = ({ V with n := V.ticks b, P := (V.P.add b o y needs).1, old := V.keep b }, (V.P.add b o y needs).2.1, 0) := by unfold VolM.change; rw [if_neg (by simpa using h), if_neg (by simpa using Q)]
     rw [hc]
     rw [hkp]
     exact ⟨rfl, ((((Ch.refl [U, U + 3, U + 20, U + 21, U + 22, U + 23, U + 30, U + 32] s).ch t (by simp)).fr f hM (by simp <;> omega)).ch x (by simp)), ⟨⟨_, _, _, _, _, _, az, aB, aC, hV.kn, aD, aE, aF, by rw [ht]; exact aG, aH⟩, ok.with _ _ (by rw [ht]; omega)⟩⟩
  ·
   intro K_133 hK_133
   refine nz_i (ld_t K rfl (dBl_i ?_))
   refine sB_i (fun aI => ?_) (fun aI => ?_)
   ·
    refine nz_i (ld_t K rfl (dBl_i ?_))
    refine sB_n (fun aJ => ?_) (fun aJ => ?_)
    ·
     refine hK_133 _ _ ⟨(Ch.refl [] Z), ?_⟩
     first | rfl | (unfold VolM.first; simp [*])
    ·
     refine hK_133 _ _ ⟨(Ch.refl [] Z), ?_⟩
     first | rfl | (unfold VolM.first; simp [*])
   ·
    refine hK_133 _ _ ⟨(Ch.refl [] Z), ?_⟩
    first | rfl | (unfold VolM.first; simp [*])
def VolM.freeze (V : VolM) (room : Int) : VolM × Int :=
 if V.old.on = true then (V, 3) else if room < 0 ∨ room > 65536 then (V, 1) else ({ V with old := ⟨true, false, room, []⟩ }, 0)
theorem OMap.nil (s : TH) (τ : Nat) : OMap s none [] τ := ⟨fun r e => (by cases e), fun _ => rfl⟩
theorem OMap.keep {s : TH} {rk : Option Nat} {mk : List (Int × Value)} {σ μ τ : Nat} (h : OMap s rk mk σ) (hn : σ ≠ μ) : OMap (remark s μ τ) rk mk σ := ⟨fun r e => (h.at_ r e).keep hn, h.no⟩
theorem WMap.keep {s : TH} {σ μ τ : Nat} (hn : σ ≠ μ) : ∀ {m : List (Int × Value)} {l : List (Int × WayM)}, WMap s σ m l → WMap (remark s μ τ) σ m l
 | [], [], h => trivial
 | e :: m, p :: l, h => by
  obtain ⟨h1, ⟨ba, bc, ia, ic, g1, g2, g3, g4⟩, h2⟩ := h
  exact ⟨h1, ⟨ba, bc, ia, ic, g1, g2.keep hn, g3.keep hn, g4⟩, WMap.keep hn h2⟩
 | [], _ :: _, h => h.elim
 | _ :: _, [], h => h.elim
theorem KMap.keep {s : TH} {σ μ τ : Nat} (hn : σ ≠ μ) : ∀ {m : List (Int × Value)} {l : List (Int × List UInt8)}, KMap s σ m l → KMap (remark s μ τ) σ m l
 | [], [], h => trivial
 | e :: m, p :: l, ⟨h1, ⟨a, c, g1, g2, g3⟩, h2⟩ => ⟨h1, ⟨a, c, g1, g2.keep hn, g3⟩, KMap.keep hn h2⟩
 | [], _ :: _, h => h.elim
 | _ :: _, [], h => h.elim
theorem PMap.keep {s : TH} {σ μ τ : Nat} (hn : σ ≠ μ) : ∀ {m : List (Int × Value)} {l : List PatM}, PMap s σ m l → PMap (remark s μ τ) σ m l
 | [], [], h => trivial
 | e :: m, p :: l, h => by
  obtain ⟨h1, ⟨ba, bc, na, nc, g1, g2, g3⟩, h2⟩ := h
  exact ⟨h1, ⟨ba, bc, na, nc, g1, g2.keep hn, g3.keep hn⟩, PMap.keep hn h2⟩
 | [], _ :: _, h => h.elim
 | _ :: _, [], h => h.elim
theorem PSet.keep {s : TH} {p T μ τ : Nat} {P : PatchM} (h : PSet s p T P) (hn : μ < T ∨ T + 10 ≤ μ) : PSet (remark s μ τ) p T P := by
 obtain ⟨⟨r1, r2, m1, m2, hp⟩, ok⟩ := h
 exact ⟨⟨r1, r2, m1, m2, hp.blk.keep (by omega), hp.dm.keep (by omega), hp.lm.keep (by omega), PMap.keep (by omega) hp.pm, hp.dk, hp.dv⟩, ok⟩
theorem Disk.keep {s : TH} {d T μ τ : Nat} {D : DiskM} (h : Disk s d T D) (hn : μ < T ∨ T + 10 ≤ μ) : Disk (remark s μ τ) d T D := by
 obtain ⟨pa, pc, qa, qc, hs, qs, fr, fm, h⟩ := h
 exact ⟨pa, pc, qa, qc, hs, qs, fr, fm, h.blk.keep (by omega), h.rows.keep (by omega), h.brel.keep (by omega), h.que.keep (by omega), h.qrel.keep (by omega), h.fails.keep (by omega), h.fok, h.nb, h.nq, h.qin⟩
theorem CacheV.keep {s : TH} {c T d μ τ : Nat} {bs : List (List UInt8)} {n : Int} (h : CacheV s c T d bs n) (hn : μ < T ∨ T + 10 ≤ μ) : CacheV (remark s μ τ) c T d bs n := by
 obtain ⟨C, ⟨⟨r, m, bp, bh, hp⟩, ok⟩, h2⟩ := h
 exact ⟨C, ⟨⟨r, m, bp, bh, hp.blk.keep (by omega), hp.map.keep (by omega), ⟨fun x hx => (hp.bufs.at_ x hx).keep (by omega)⟩, ⟨fun x hx => ⟨(hp.bufy.at_ x hx).sl.keep (by omega), (hp.bufy.at_ x hx).len⟩⟩, hp.mo, hp.bnd, hp.len⟩, ok⟩, h2⟩
theorem VolL.keep {s : TH} {v d U μ τ : Nat} {V : VolM} {lk : Int} (h : VolL s v d U V lk) (hn : μ < U ∨ U + 50 ≤ μ) : VolL (remark s μ τ) v d U V lk := by
 obtain ⟨⟨c, p, rw, rk, mw, mk, h⟩, ok⟩ := h
 exact ⟨⟨c, p, rw, rk, mw, mk, h.blk.keep (by omega), h.wm.keep (by omega), WMap.keep (by omega) h.wv, h.kn, h.om.keep (by omega), KMap.keep (by omega) h.kv, h.dk.keep (by omega), h.ca.keep (by omega), h.ps.keep (by omega)⟩, ok⟩
def wrStep (cl : List Int) (r : VolM × Bool) (b : Int) : VolM × Bool :=
 if ((r.1.P.of b).any fun i => decide (i ∈ cl)) = true ∧ r.1.way.length < 64 then ((r.1.write b).1, r.2 && ((r.1.write b).2 == 0)) else r
theorem write_P {V : VolM} {b : Int} : (V.write b).1.P = V.P := by
 unfold VolM.write
 split
 ·rfl
 ·split
  ·rfl
  ·split
   ·rfl
   ·split <;> rfl
structure WrI (V : VolM) (r : VolM × Bool) : Prop where
 P : r.1.P = V.P
 w : ∀ p ∈ r.1.way, ∃ i ∈ p.2.ids, i ∈ V.P.all
theorem WrI.step {V : VolM} {cl : List Int} {r : VolM × Bool} {b : Int} (h : WrI V r) : WrI V (wrStep cl r b) := by
 unfold wrStep
 split
 ·refine ⟨write_P.trans h.P, fun p hp => ?_⟩
  unfold VolM.write at hp
  split at hp
  ·exact h.w p hp
  ·split at hp
   ·exact h.w p hp
   ·split at hp
    ·exact h.w p hp
    ·rename_i hf
     split at hp
     ·exact h.w p hp
     ·rcases List.mem_append.1 (show p ∈ r.1.way ++ [_] from hp) with h1 | h1
      ·exact h.w p h1
      ·rw [List.mem_singleton] at h1; subst h1
       obtain ⟨i, l, e⟩ := List.exists_cons_of_ne_nil hf
       refine ⟨i, by show i ∈ r.1.P.free b; rw [e]; simp, ?_⟩
       have : i ∈ r.1.P.free b := by rw [e]; simp
       rw [← h.P]; exact of_sub (free_sub this)
 ·exact h
end Go.Proofs.YtklppdodadkcnaaGreat.E
