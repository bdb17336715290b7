/- Contracts of functions. -/
import Derived.Test.YtmgjdmohmhaemaaProg
import Derived.KernelRfl
import Derived.Test.YtmgjdmohmhaemaaLib2
import Derived.Test.YtmgjdmohmhaemaaDk
import Derived.Test.YtmgjdmohmhaemaaHs
import Derived.Test.YtmgjdmohmhaemaaPlApart
namespace Go.Proofs.Ytmgjdmohmhaemaa.E
open Go Go.Proofs Go.RowKit Go.Maps Go.Shelf Go.Sort
set_option linter.unusedVariables false

theorem mget_mem {m : List (Int × Value)} {k : Int} {v : Value} (h : mget k m = some v) : k ∈ m.map (·.1) := by
  induction m with
  | nil => cases h
  | cons p m ih =>
    rw [mget] at h
    by_cases hk : k = p.1
    · simp [hk]
    · rw [if_neg hk] at h
      exact List.mem_cons_of_mem _ (ih h)
theorem mget_isSome {m : List (Int × Value)} {k : Int} (h : k ∈ m.map (·.1)) : ∃ v, mget k m = some v := by
  induction m with
  | nil => cases h
  | cons p m ih =>
    rw [mget]
    by_cases hk : k = p.1
    · exact ⟨p.2, by rw [if_pos hk]⟩
    · rw [if_neg hk]
      rw [List.map_cons, List.mem_cons] at h
      exact ih (h.resolve_left hk)
theorem mget_mdel {m : List (Int × Value)} (hn : (m.map (·.1)).Nodup) (k k' : Int) : mget k (mdel k' m) = if k = k' then none else mget k m := by
  induction m with
  | nil => simp [mdel, mget]
  | cons p m ih =>
    rw [List.map_cons, List.nodup_cons] at hn
    rw [mdel]
    by_cases h : k' = p.1
    · rw [if_pos h]
      by_cases hk : k = k'
      · rw [if_pos hk]
        exact mget_none (by rw [hk, h]; exact hn.1)
      · rw [if_neg hk, mget, if_neg (by omega)]
    · rw [if_neg h, mget, ih hn.2, mget]
      by_cases hk : k = p.1
      · rw [if_pos hk, if_pos hk, if_neg (by omega)]
      · rw [if_neg hk, if_neg hk]
theorem keys_mdel {m : List (Int × Value)} (k : Int) : (mdel k m).map (·.1) = (m.map (·.1)).erase k := by
  induction m with
  | nil => rfl
  | cons p m ih =>
    rw [mdel, List.map_cons, List.erase_cons]
    by_cases h : k = p.1
    · simp [h]
    · rw [if_neg h, if_neg (by simpa using fun e => h e.symm), List.map_cons, ih]
/-- a buffer; a cache -/
structure BufM where
  blk : Int
  by_ : List UInt8
  pins : Int
  used : Int
structure CacheM where
  l : List BufM
  bound : Int
  clock : Int
  hits : Int
  misses : Int
def rmB (l : List BufM) (b : Int) : List BufM := l.filter fun x => !(x.blk == b)
def freeB (l : List BufM) : Option BufM := l.find? fun x => x.pins == 0
def CacheM.room (C : CacheM) : Option (List BufM) := if (C.l.length : Int) < C.bound then some C.l else (freeB C.l).map fun v => rmB C.l v.blk
def CacheM.find (C : CacheM) (b : Int) : Option BufM := C.l.find? fun x => x.blk == b
def CacheM.get (C : CacheM) (bs : List (List UInt8)) (b : Int) : CacheM × Int :=
  match C.find b with
  | some x => ({ C with l := rmB C.l b ++ [{ x with used := C.clock + 1 }], clock := C.clock + 1, hits := C.hits + 1 }, 0)
  | none =>
    match C.room with
    | none => ({ C with misses := C.misses + 1 }, 60)
    | some l => ({ C with l := l ++ [⟨b, (bs[b.toNat]?).getD [], 0, C.clock + 1⟩], clock := C.clock + 1, misses := C.misses + 1 }, 0)
def bufv (p : Hd) (pins used : Int) : List Value := [.slice p.1 128 p.2, .int .i64 pins, .int .i64 used]
structure Bufs (s : TH) (τ : Nat) (l : List BufM) (bp : Int → Nat) (bh : Int → Hd) : Prop where
  at_ : ∀ x ∈ l, Blk s (bp x.blk) (bufv (bh x.blk) x.pins x.used) 120 τ
theorem Bufs.mv {s s' : TH} {τ : Nat} {l : List BufM} {bp : Int → Nat} {bh : Int → Hd} {B : Nat → Prop} (h : Bufs s τ l bp bh) (c : Chg B s s') (hn : ∀ j, j < s.h.size → s.g j = τ → ¬ B j) : Bufs s' τ l bp bh :=
  ⟨fun x hx => (h.at_ x hx).mv c (hn _ (h.at_ x hx).lt (h.at_ x hx).tag)⟩
structure BufY (s : TH) (τ : Nat) (l : List BufM) (bh : Int → Hd) : Prop where
  at_ : ∀ x ∈ l, ByAt s τ (bh x.blk) x.by_
theorem BufY.mv {s s' : TH} {τ : Nat} {l : List BufM} {bh : Int → Hd} {B : Nat → Prop} (h : BufY s τ l bh) (c : Chg B s s') (hn : ∀ j, j < s.h.size → s.g j = τ → ¬ B j) : BufY s' τ l bh := ⟨fun x hx => (h.at_ x hx).mv c hn⟩
structure MapOf (m : List (Int × Value)) (l : List BufM) (bp : Int → Nat) : Prop where
  keys : (m.map (·.1)).Perm (l.map (·.blk))
  at_ : ∀ x ∈ l, mget x.blk m = some (.pointer (some ⟨bp x.blk, 0, none⟩))
  inj : ∀ x ∈ l, ∀ y ∈ l, bp x.blk = bp y.blk → x.blk = y.blk
  nd : (l.map (·.blk)).Nodup
  rng : ∀ x ∈ l, 0 ≤ x.blk ∧ x.blk < 2048
structure CacheP (s : TH) (c T d : Nat) (C : CacheM) (r : Nat) (m : List (Int × Value)) (bp : Int → Nat) (bh : Int → Hd) : Prop where
  blk : Blk s c [.pointer (some ⟨d, 0, none⟩), .int .i64 C.bound, .map (some r), .int .i64 C.clock, .int .i64 C.hits, .int .i64 C.misses] 71 T
  map : MapK (Value.int .i64) s r m (T + 1)
  bufs : Bufs s (T + 2) C.l bp bh
  bufy : BufY s (T + 3) C.l bh
  mo : MapOf m C.l bp
  bnd : 1 ≤ C.bound ∧ C.bound ≤ 64
  len : (C.l.length : Int) ≤ C.bound
structure COk (C : CacheM) : Prop where
  srt : C.l.Pairwise fun x y => x.used < y.used
  rng : ∀ x ∈ C.l, 0 ≤ x.used ∧ x.used ≤ C.clock
  clk : 0 ≤ C.clock ∧ C.clock ≤ 9223372036854775807
  cnt : 0 ≤ C.hits ∧ C.hits ≤ 9223372036854775807 ∧ 0 ≤ C.misses ∧ C.misses ≤ 9223372036854775807
  pin : ∀ x ∈ C.l, 0 ≤ x.pins ∧ x.pins ≤ 100
/-- a cache over a disk, in memory -/
structure Cache (s : TH) (c T d : Nat) (C : CacheM) : Prop where
  p : ∃ r m bp bh, CacheP s c T d C r m bp bh
  ok : COk C
theorem CacheP.mv {s s' : TH} {c T d r : Nat} {C : CacheM} {m : List (Int × Value)} {bp : Int → Nat} {bh : Int → Hd} {B : Nat → Prop} (h : CacheP s c T d C r m bp bh) (k : Chg B s s') (hn : ∀ j, j < s.h.size → T ≤ s.g j → s.g j < T + 10 → ¬ B j) : CacheP s' c T d C r m bp bh :=
  ⟨h.blk.mv k (of_rng hn (Nat.le_refl _) (by omega) c h.blk.lt h.blk.tag), h.map.mv k (of_rng hn (by omega) (by omega) r h.map.lt h.map.tag), h.bufs.mv k (of_rng hn (by omega) (by omega)), h.bufy.mv k (of_rng hn (by omega) (by omega)), h.mo, h.bnd, h.len⟩
theorem Cache.mv {s s' : TH} {c T d : Nat} {C : CacheM} {B : Nat → Prop} (h : Cache s c T d C) (k : Chg B s s') (hn : ∀ j, j < s.h.size → T ≤ s.g j → s.g j < T + 10 → ¬ B j) : Cache s' c T d C := by
  obtain ⟨⟨r, m, bp, bh, hp⟩, ok⟩ := h
  exact ⟨⟨r, m, bp, bh, hp.mv k hn⟩, ok⟩
def usedOf (l : List BufM) (k : Int) : Int := ((l.find? fun x => x.blk == k).map (·.used)).getD 0
theorem find_nd {l : List BufM} (hn : (l.map (·.blk)).Nodup) {x : BufM} (hx : x ∈ l) : (l.find? fun y => y.blk == x.blk) = some x := by
  induction l with
  | nil => cases hx
  | cons y l ih =>
    rw [List.map_cons, List.nodup_cons] at hn
    rw [List.find?_cons]
    rcases List.mem_cons.1 hx with rfl | hx
    · simp
    · have : (y.blk == x.blk) = false := by
        simp only [beq_eq_false_iff_ne]
        intro e; exact hn.1 (by rw [e]; exact List.mem_map.2 ⟨x, hx, rfl⟩)
      rw [this]; exact ih hn.2 hx
theorem usedOf_eq {l : List BufM} (hn : (l.map (·.blk)).Nodup) {x : BufM} (hx : x ∈ l) : usedOf l x.blk = x.used := by unfold usedOf; rw [find_nd hn hx]; rfl
theorem used_ne {l : List BufM} (h : l.Pairwise fun x y => x.used < y.used) : ∀ x ∈ l, ∀ y ∈ l, x.used = y.used → x.blk = y.blk := by
  induction l with
  | nil => intro x hx; cases hx
  | cons z l ih =>
    rw [List.pairwise_cons] at h
    intro x hx y hy e
    rcases List.mem_cons.1 hx with hx1 | hx1 <;> rcases List.mem_cons.1 hy with hy1 | hy1
    · rw [hx1, hy1]
    · have := h.1 y hy1; rw [hx1] at e; omega
    · have := h.1 x hx1; rw [hy1] at e; omega
    · exact ih h.2 x hx1 y hy1 e
theorem CacheP.usedAt {s : TH} {c T d r : Nat} {C : CacheM} {m : List (Int × Value)} {bp : Int → Nat} {bh : Int → Hd} (h : CacheP s c T d C r m bp bh) (ok : COk C) : UsedAt s m (usedOf C.l) (T + 2) := by
  have hmem : ∀ k ∈ m.map (·.1), ∃ x ∈ C.l, x.blk = k := fun k hk => by
    have := h.mo.keys.mem_iff.1 hk
    obtain ⟨x, hx, e⟩ := List.mem_map.1 this
    exact ⟨x, hx, e⟩
  refine ⟨fun k hk => ?_, fun a ha b hb e => ?_⟩
  · obtain ⟨x, hx, rfl⟩ := hmem k hk
    have h1 := ok.rng x hx
    have h2 := ok.clk
    exact ⟨_, _, _, h.mo.at_ x hx, h.bufs.at_ x hx, by rw [usedOf_eq h.mo.nd hx]; rfl, by rw [usedOf_eq h.mo.nd hx]; omega, by rw [usedOf_eq h.mo.nd hx]; omega⟩
  · obtain ⟨x, hx, rfl⟩ := hmem a ha
    obtain ⟨y, hy, rfl⟩ := hmem b hb
    rw [usedOf_eq h.mo.nd hx, usedOf_eq h.mo.nd hy] at e
    exact used_ne ok.srt x hx y hy e
/-- the keys, sorted by when they were used, are the blocks in their order -/
theorem sorted_keys {l : List BufM} {ss : List Int} (hn : (l.map (·.blk)).Nodup) (hs : l.Pairwise fun x y => x.used < y.used) (hp : ss.Perm (l.map (·.blk))) : ss.mergeSort (leU (usedOf l)) = l.map (·.blk) := by
  have h1 : (ss.mergeSort (leU (usedOf l))).Perm (l.map (·.blk)) := (List.mergeSort_perm ss _).trans hp
  have htot : ∀ a b : Int, (leU (usedOf l) a b || leU (usedOf l) b a) = true := fun a b => by simp [leU]; omega
  have htr : ∀ a b c : Int, leU (usedOf l) a b = true → leU (usedOf l) b c = true → leU (usedOf l) a c = true := fun a b c h1 h2 => by simp [leU] at *; omega
  have h2 := List.pairwise_mergeSort htr htot ss
  have h3 : (l.map (·.blk)).Pairwise fun a b => leU (usedOf l) a b = true := by
    rw [List.pairwise_map]
    refine hs.imp_of_mem fun {a b} ha hb hab => ?_
    simp only [leU]
    rw [usedOf_eq hn ha, usedOf_eq hn hb]
    exact decide_eq_true (by omega)
  refine h1.eq_of_pairwise (le := fun a b => leU (usedOf l) a b = true) (fun a b ha hb h4 h5 => ?_) h2 h3
  have ha' := h1.mem_iff.1 ha
  obtain ⟨x, hx, rfl⟩ := List.mem_map.1 ha'
  obtain ⟨y, hy, rfl⟩ := List.mem_map.1 hb
  simp [leU] at h4 h5
  rw [usedOf_eq hn hx, usedOf_eq hn hy] at h4 h5
  exact used_ne hs x hx y hy (by omega)
theorem MapOf.get_none {m : List (Int × Value)} {l : List BufM} {bp : Int → Nat} (h : MapOf m l bp) {b : Int} (hf : (l.find? fun x => x.blk == b) = none) : mget b m = none := mget_none (fun hm => by
  have := h.keys.mem_iff.1 hm
  obtain ⟨x, hx, e⟩ := List.mem_map.1 this
  have := List.find?_eq_none.1 hf x hx
  simp [e] at this)
theorem find_mem {l : List BufM} {b : Int} {x : BufM} (hf : (l.find? fun x => x.blk == b) = some x) : x ∈ l ∧ x.blk = b := ⟨List.mem_of_find?_eq_some hf, by simpa using List.find?_some hf⟩
theorem MapOf.get_some {m : List (Int × Value)} {l : List BufM} {bp : Int → Nat} (h : MapOf m l bp) {b : Int} {x : BufM} (hf : (l.find? fun x => x.blk == b) = some x) : mget b m = some (.pointer (some ⟨bp b, 0, none⟩)) := by
  obtain ⟨h1, rfl⟩ := find_mem hf; exact h.at_ x h1
theorem rmB_mem {l : List BufM} {b : Int} {x : BufM} : x ∈ rmB l b ↔ x ∈ l ∧ x.blk ≠ b := by unfold rmB; simp
theorem rmB_sub (l : List BufM) (b : Int) : (rmB l b).Sublist l := List.filter_sublist
theorem rmB_keys {l : List BufM} (hn : (l.map (·.blk)).Nodup) (b : Int) : (rmB l b).map (·.blk) = (l.map (·.blk)).erase b := by
  rw [hn.erase_eq_filter, List.filter_map]
  unfold rmB
  congr 1
theorem MapOf.del {m : List (Int × Value)} {l : List BufM} {bp : Int → Nat} (h : MapOf m l bp) (hm : (m.map (·.1)).Nodup) (b : Int) : MapOf (mdel b m) (rmB l b) bp :=
  ⟨by rw [keys_mdel, rmB_keys h.nd]; exact h.keys.erase b, fun x hx => by rw [mget_mdel hm, if_neg (rmB_mem.1 hx).2]; exact h.at_ x (rmB_mem.1 hx).1,
    fun x hx y hy => h.inj x (rmB_mem.1 hx).1 y (rmB_mem.1 hy).1, h.nd.sublist ((rmB_sub l b).map _), fun x hx => h.rng x (rmB_mem.1 hx).1⟩
theorem MapOf.add {m : List (Int × Value)} {l : List BufM} {bp : Int → Nat} (h : MapOf m l bp) (x : BufM) (p : Nat) (hx : x.blk ∉ l.map (·.blk)) (hr : 0 ≤ x.blk ∧ x.blk < 2048) (hp : ∀ y ∈ l, bp y.blk ≠ p) :
    MapOf (mset x.blk (.pointer (some ⟨p, 0, none⟩)) m) (l ++ [x]) (fun k => if k = x.blk then p else bp k) := by
  have hk : x.blk ∉ m.map (·.1) := fun e => hx (h.keys.mem_iff.1 e)
  have hne : ∀ y ∈ l, y.blk ≠ x.blk := fun y hy e => hx (e ▸ List.mem_map.2 ⟨y, hy, rfl⟩)
  refine ⟨?_, fun y hy => ?_, fun y hy z hz e => ?_, ?_, fun y hy => ?_⟩
  · rw [mset_new hk]; simpa using h.keys.append_right [x.blk]
  · rw [mget_mset]
    rcases List.mem_append.1 hy with hy | hy
    · rw [if_neg (hne y hy)]; simp only [if_neg (hne y hy)]; exact h.at_ y hy
    · simp at hy; subst hy; simp
  · rcases List.mem_append.1 hy with hy1 | hy1 <;> rcases List.mem_append.1 hz with hz1 | hz1
    · simp only [if_neg (hne y hy1), if_neg (hne z hz1)] at e; exact h.inj y hy1 z hz1 e
    · rw [List.mem_singleton] at hz1; rw [hz1] at e
      simp only [if_neg (hne y hy1), if_true] at e
      exact absurd e (hp y hy1)
    · rw [List.mem_singleton] at hy1; rw [hy1] at e
      simp only [if_neg (hne z hz1), if_true] at e
      exact absurd e.symm (hp z hz1)
    · rw [List.mem_singleton] at hy1 hz1; rw [hy1, hz1]
  · rw [List.map_append, List.nodup_append]
    refine ⟨h.nd, by simp, fun a ha b hb e => ?_⟩
    simp at hb; subst hb; subst e; exact hx ha
  · rcases List.mem_append.1 hy with hy | hy
    · exact h.rng y hy
    · simp at hy; subst hy; exact hr
/-- another order, other counts: the map is the same -/
theorem MapOf.again {m : List (Int × Value)} {l l' : List BufM} {bp : Int → Nat} (h : MapOf m l bp) (hp : (l'.map (·.blk)).Perm (l.map (·.blk))) : MapOf m l' bp := by
  have hmem : ∀ x ∈ l', ∃ y ∈ l, y.blk = x.blk := fun x hx => by
    obtain ⟨y, hy, e⟩ := List.mem_map.1 (hp.mem_iff.1 (List.mem_map.2 ⟨x, hx, rfl⟩)); exact ⟨y, hy, e⟩
  refine ⟨h.keys.trans hp.symm, fun x hx => ?_, fun x hx y hy e => ?_, hp.nodup_iff.2 h.nd, fun x hx => ?_⟩
  · obtain ⟨y, hy, e⟩ := hmem x hx; rw [← e]; exact h.at_ y hy
  · obtain ⟨x', hx', ex⟩ := hmem x hx
    obtain ⟨y', hy', ey⟩ := hmem y hy
    rw [← ex, ← ey] at e ⊢; exact h.inj x' hx' y' hy' e
  · obtain ⟨y, hy, e⟩ := hmem x hx; rw [← e]; exact h.rng y hy

end Go.Proofs.Ytmgjdmohmhaemaa.E
