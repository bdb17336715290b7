/- My own texts, joined. -/
import Derived.Handed
import Derived.JoinedOf
import Derived.KernelRfl
import Derived.Test.YtngploohhmfaiaaGreatProg
import Derived.Test.YtngploohhmfaiaaGreatQb12
/- Contracts of functions. -/
namespace Go.Proofs.YtngploohhmfaiaaGreat.E
open Go Go.Proofs Go.RowKit Go.Maps Go.Shelf Go.Sort
set_option linter.unusedVariables false
set_option linter.unusedSimpArgs false
/-- patches over bytes, one behind another -/
def ovL (d : List UInt8) (xs : List PatM) : List UInt8 := xs.foldl (fun d x => overlay d x.off.toNat x.by_) d
def cov (j : Nat) (x : PatM) : Bool := decide (x.off.toNat ≤ j ∧ j < x.off.toNat + x.by_.length)
def fitX (x : PatM) : Prop := 0 ≤ x.off ∧ x.off + x.by_.length ≤ 128
theorem ovL_len {xs : List PatM} : ∀ {d : List UInt8}, d.length = 128 → (∀ x ∈ xs, fitX x) → (ovL d xs).length = 128 := by
  induction xs with
  | nil => intro d h _; exact h
  | cons x xs ih =>
    intro d h hf
    have := hf x (by simp)
    unfold fitX at this
    exact ih (by rw [overlay_len (by omega)]; exact h) fun y hy => hf y (List.mem_cons_of_mem _ hy)
theorem ovL_snoc (d : List UInt8) (xs : List PatM) (x : PatM) : ovL d (xs ++ [x]) = overlay (ovL d xs) x.off.toNat x.by_ := by unfold ovL; rw [List.foldl_append]; rfl
def lastC (j : Nat) (xs : List PatM) : Option PatM := xs.reverse.find? (cov j)
theorem lastC_snoc (j : Nat) (xs : List PatM) (x : PatM) : lastC j (xs ++ [x]) = if cov j x = true then some x else lastC j xs := by
  unfold lastC
  rw [List.reverse_append, List.reverse_singleton, List.singleton_append, List.find?_cons]
  cases cov j x <;> rfl
theorem snoc_indP {α : Type} {p : List α → Prop} (h0 : p []) (h1 : ∀ l x, p l → p (l ++ [x])) (l : List α) : p l := by
  rw [← l.reverse_reverse]
  induction l.reverse with
  | nil => exact h0
  | cons x t ih => rw [List.reverse_cons]; exact h1 _ x ih
theorem ovL_get {d : List UInt8} (hd : d.length = 128) (j : Nat) (xs : List PatM) : (∀ x ∈ xs, fitX x) → (ovL d xs)[j]? = match lastC j xs with
    | some x => x.by_[j - x.off.toNat]?
    | none => d[j]? := by
  refine snoc_indP (p := fun xs => (∀ x ∈ xs, fitX x) → (ovL d xs)[j]? = match lastC j xs with
    | some x => x.by_[j - x.off.toNat]?
    | none => d[j]?) (fun _ => rfl) (fun xs x ih hf => ?_) xs
  have hx := hf x (by simp)
  have hxs : ∀ y ∈ xs, fitX y := fun y hy => hf y (List.mem_append_left _ hy)
  have hl := ovL_len hd hxs
  unfold fitX at hx
  rw [ovL_snoc, overlay_get (by omega), lastC_snoc]
  unfold cov
  by_cases hc : x.off.toNat ≤ j ∧ j < x.off.toNat + x.by_.length
  · rw [if_pos hc, if_pos (decide_eq_true hc)]
  · rw [if_neg hc, if_neg (by simpa using hc)]; exact ih hxs
theorem lastC_mem {j : Nat} {xs : List PatM} {x : PatM} (h : lastC j xs = some x) : x ∈ xs ∧ cov j x = true := by
  have h1 := List.mem_of_find?_eq_some h
  have h2 := List.find?_some h
  exact ⟨by simpa using h1, h2⟩
theorem lastC_none {j : Nat} {xs : List PatM} : lastC j xs = none ↔ ∀ x ∈ xs, cov j x = false := by
  unfold lastC
  rw [List.find?_eq_none]
  constructor
  · intro h x hx; have := h x (by simpa using hx); simpa using this
  · intro h x hx; have := h x (by simpa using hx); simp [this]
/-- the last of a rising row that covers a place is the greatest -/
theorem lastC_max {j : Nat} {xs : List PatM} (hs : xs.Pairwise fun x y => x.id < y.id) {x : PatM} (h : lastC j xs = some x) : ∀ y ∈ xs, cov j y = true → y.id ≤ x.id := by
  revert hs h
  refine snoc_indP (p := fun xs => xs.Pairwise (fun x y => x.id < y.id) → lastC j xs = some x → ∀ y ∈ xs, cov j y = true → y.id ≤ x.id) (fun _ _ y hy => by cases hy) (fun xs z ih hs h y hy hc => ?_) xs
  rw [List.pairwise_append] at hs
  rw [lastC_snoc] at h
  by_cases hz : cov j z = true
  · rw [if_pos hz] at h
    cases h
    rcases List.mem_append.1 hy with hy | hy
    · exact Int.le_of_lt (hs.2.2 y hy x (by simp))
    · rw [List.mem_singleton] at hy; rw [hy]; exact Int.le_refl _
  · rw [if_neg hz] at h
    rcases List.mem_append.1 hy with hy | hy
    · exact ih hs.1 h y hy hc
    · rw [List.mem_singleton] at hy; subst hy; exact absurd hc hz
theorem lastC_ex {j : Nat} {xs : List PatM} {y : PatM} (hy : y ∈ xs) (hc : cov j y = true) : ∃ x, lastC j xs = some x := by
  cases h : lastC j xs with
  | some x => exact ⟨x, rfl⟩
  | none => have := lastC_none.1 h y hy; rw [hc] at this; cases this
/-- first some, then the others: it is all one, where of two that overlap the earlier is not left behind -/
theorem ovL_split {d : List UInt8} (hd : d.length = 128) {xs : List PatM} (hs : xs.Pairwise fun x y => x.id < y.id) (hf : ∀ x ∈ xs, fitX x) (q : PatM → Bool)
    (hq : ∀ x ∈ xs, ∀ y ∈ xs, x.id < y.id → (∃ j, cov j x = true ∧ cov j y = true) → q y = true → q x = true) :
    ovL (ovL d (xs.filter q)) (xs.filter fun x => !q x) = ovL d xs := by
  have f1 : ∀ x ∈ xs.filter q, fitX x := fun x hx => hf x (List.mem_filter.1 hx).1
  have f2 : ∀ x ∈ xs.filter (fun x => !q x), fitX x := fun x hx => hf x (List.mem_filter.1 hx).1
  apply List.ext_getElem?
  intro j
  rw [ovL_get (ovL_len hd f1) j _ f2, ovL_get hd j _ f1, ovL_get hd j _ hf]
  cases h : lastC j xs with
  | none =>
    have hn := lastC_none.1 h
    rw [lastC_none.2 fun x hx => hn x (List.mem_filter.1 hx).1, lastC_none.2 fun x hx => hn x (List.mem_filter.1 hx).1]
  | some x =>
    obtain ⟨hx, hc⟩ := lastC_mem h
    have hm := lastC_max hs h
    have uniq : ∀ y ∈ xs, y.id = x.id → y = x := fun y hy e => by
      obtain ⟨a, ha, rfl⟩ := List.getElem_of_mem hy
      obtain ⟨b, hb, rfl⟩ := List.getElem_of_mem hx
      have hp := List.pairwise_iff_getElem.1 hs
      rcases Nat.lt_trichotomy a b with h1 | h1 | h1
      · have := hp a b ha hb h1; omega
      · subst h1; rfl
      · have := hp b a hb ha h1; omega
    cases hqx : q x with
    | false =>
      have hx2 : x ∈ xs.filter fun x => !q x := List.mem_filter.2 ⟨hx, by rw [hqx]; rfl⟩
      obtain ⟨y, hy⟩ := lastC_ex hx2 hc
      rw [hy]
      have h1 := lastC_max (hs.sublist List.filter_sublist) hy x hx2 hc
      obtain ⟨h2, h3⟩ := lastC_mem hy
      have h4 := hm y (List.mem_filter.1 h2).1 h3
      rw [uniq y (List.mem_filter.1 h2).1 (by omega)]
    | true =>
      have hx1 : x ∈ xs.filter q := List.mem_filter.2 ⟨hx, hqx⟩
      have hn2 : lastC j (xs.filter fun x => !q x) = none := lastC_none.2 fun y hy => by
        obtain ⟨h1, h2⟩ := List.mem_filter.1 hy
        cases hcy : cov j y with
        | false => rfl
        | true =>
          exfalso
          have h4 := hm y h1 hcy
          by_cases e : y.id = x.id
          · have := uniq y h1 e; subst this; rw [hqx] at h2; cases h2
          · have := hq y h1 x hx (by omega) ⟨j, hcy, hc⟩ hqx
            rw [this] at h2; cases h2
      rw [hn2]
      simp only
      obtain ⟨y, hy⟩ := lastC_ex hx1 hc
      rw [hy]
      have h1 := lastC_max (hs.sublist List.filter_sublist) hy x hx1 hc
      obtain ⟨h2, h3⟩ := lastC_mem hy
      have h4 := hm y (List.mem_filter.1 h2).1 h3
      rw [uniq y (List.mem_filter.1 h2).1 (by omega)]
/-- of two patches that overlap the later one needs the earlier one -/
def POv (P : PatchM) : Prop := ∀ x ∈ P.l, ∀ y ∈ P.l, x.id < y.id → x.blk = y.blk → (∃ j, cov j x = true ∧ cov j y = true) → x.id ∈ y.needs
theorem POk.fitX {P : PatchM} (ok : POk P) {x : PatM} (hx : x ∈ P.l) : fitX x := by have := ok.fit x hx; exact ⟨this.2.1, this.2.2.2⟩
theorem over_ovL {P : PatchM} (ok : POk P) : ∀ {xs : List PatM} {d : List UInt8}, (∀ x ∈ xs, x ∈ P.l) → P.over d (xs.map (·.id)) = ovL d xs := by
  intro xs
  induction xs with
  | nil => intro d _; rfl
  | cons x xs ih =>
    intro d h
    show P.over (P.step d x.id) (xs.map (·.id)) = ovL (overlay d x.off.toNat x.by_) xs
    have : P.step d x.id = overlay d x.off.toNat x.by_ := by unfold PatchM.step; rw [find_by ok.nodup (h x (by simp))]
    rw [this]
    exact ih fun y hy => h y (List.mem_cons_of_mem _ hy)
theorem over_of {P : PatchM} (ok : POk P) (b : Int) (d : List UInt8) : P.over d (P.of b) = ovL d (P.l.filter fun x => x.blk == b) := over_ovL ok fun x hx => (List.mem_filter.1 hx).1
theorem fsteps_srt {P : PatchM} : ∀ (ids l : List Int), (l ++ ids).Pairwise (· < ·) → (ids.foldl P.fstep l).Pairwise (· < ·)
  | [], l, h => by simpa using h
  | i :: ids, l, h => by
    refine fsteps_srt ids (P.fstep l i) ?_
    unfold PatchM.fstep
    have h2 : (l ++ ids).Pairwise (· < ·) := h.sublist (List.Sublist.append_left (List.sublist_cons_self i ids) l)
    split
    · split
      · rw [List.append_assoc]; exact h
      · exact h2
    · exact h2
theorem of_srt {P : PatchM} (ok : POk P) (b : Int) : (P.of b).Pairwise (· < ·) := List.pairwise_map.2 (ok.srt.sublist List.filter_sublist)
theorem free_srt {P : PatchM} (ok : POk P) (b : Int) : (P.free b).Pairwise (· < ·) := fsteps_srt (P.of b) [] (by simpa using of_srt ok b)
theorem free_filter {P : PatchM} (ok : POk P) (b : Int) : P.free b = ((P.l.filter fun x => x.blk == b).filter fun x => decide (x.id ∈ P.free b)).map (·.id) := by
  refine srt_ext (free_srt ok b) (List.pairwise_map.2 ((ok.srt.sublist List.filter_sublist).sublist List.filter_sublist)) fun i => ?_
  constructor
  · intro h
    have h1 := free_sub h
    unfold PatchM.of at h1
    obtain ⟨x, hx, rfl⟩ := List.mem_map.1 h1
    exact List.mem_map.2 ⟨x, List.mem_filter.2 ⟨hx, by simpa using h⟩, rfl⟩
  · intro h
    obtain ⟨x, hx, rfl⟩ := List.mem_map.1 h
    simpa using (List.mem_filter.1 hx).2
theorem over_free {P : PatchM} (ok : POk P) (b : Int) (d : List UInt8) : P.over d (P.free b) = ovL d ((P.l.filter fun x => x.blk == b).filter fun x => decide (x.id ∈ P.free b)) := by
  conv => lhs; rw [free_filter ok b]
  exact over_ovL ok fun x hx => (List.mem_filter.1 (List.mem_filter.1 hx).1).1
/-- what may be written needs only what is done, or goes with it -/
theorem free_closed {P : PatchM} {b i : Int} {x : PatM} (hi : i ∈ P.free b) (hx : P.find i = some x) : ∀ n ∈ P.pend x.needs, n ∈ P.free b := by
  have key : ∀ (ids l : List Int), (∀ j ∈ l, ∀ y, P.find j = some y → ∀ n ∈ P.pend y.needs, n ∈ l) → ∀ j ∈ ids.foldl P.fstep l, ∀ y, P.find j = some y → ∀ n ∈ P.pend y.needs, n ∈ ids.foldl P.fstep l := fun ids => by
    induction ids with
    | nil => intro l h; exact h
    | cons k ids ih =>
      intro l h
      refine ih (P.fstep l k) fun j hj y hy n hn => ?_
      unfold PatchM.fstep at hj ⊢
      split at hj
      · rename_i z hz
        split at hj
        · rename_i hall
          rw [if_pos hall]
          rcases List.mem_append.1 hj with hj | hj
          · exact List.mem_append_left _ (h j hj y hy n hn)
          · rw [List.mem_singleton] at hj; subst hj
            rw [hz] at hy; cases hy
            have := List.all_eq_true.1 hall n hn
            exact List.mem_append_left _ (by simpa using this)
        · rename_i hall
          rw [if_neg hall]; exact h j hj y hy n hn
      · exact h j hj y hy n hn
  exact key (P.of b) [] (by simp) i hi x hx
theorem free_ovl {P : PatchM} (ok : POk P) (ov : POv P) {b : Int} {x y : PatM} (hx : x ∈ P.l) (hy : y ∈ P.l) (hb : x.blk = y.blk) (hlt : x.id < y.id) (hc : ∃ j, cov j x = true ∧ cov j y = true) (h : y.id ∈ P.free b) : x.id ∈ P.free b := by
  have h1 := ov x hx y hy hlt hb hc
  exact free_closed h (find_by ok.nodup hy) x.id (List.mem_filter.2 ⟨List.mem_map.2 ⟨x, hx, rfl⟩, by simpa using h1⟩)
theorem fin_of_ne {P : PatchM} {l : List Int} {b : Int} (h : ∀ i ∈ l, i ∈ P.of b) (ok : POk P) {c : Int} (hc : c ≠ b) : (P.fin l).l.filter (fun x => x.blk == c) = P.l.filter fun x => x.blk == c := by
  show (P.l.filter fun x => !decide (x.id ∈ l)).filter _ = _
  rw [List.filter_filter]
  apply List.filter_congr
  intro x hx
  by_cases hb : x.blk = c
  · have : x.id ∉ l := fun hm => by
      have h1 := h _ hm
      unfold PatchM.of at h1
      obtain ⟨y, hy, e⟩ := List.mem_map.1 h1
      have h2 := List.mem_filter.1 hy
      have g1 := find_by ok.nodup h2.1
      have g2 := find_by ok.nodup hx
      rw [e, g2] at g1
      cases Option.some.inj g1
      exact hc (by have := h2.2; simp at this; omega)
    simp [hb, this]
  · simp [show (x.blk == c) = false by simpa using hb]
/-- what is read does not hang on what was written -/
theorem now_fin {P : PatchM} (ok : POk P) (ov : POv P) (b : Int) {d : List UInt8} (hd : d.length = 128) : (P.fin (P.free b)).over (P.over d (P.free b)) ((P.fin (P.free b)).of b) = P.over d (P.of b) := by
  have ok2 := ok.fin (P.free b) (fun i hi => of_sub (free_sub hi))
  rw [over_of ok2, over_free ok, over_of ok]
  have e : (P.fin (P.free b)).l.filter (fun x => x.blk == b) = (P.l.filter fun x => x.blk == b).filter fun x => !decide (x.id ∈ P.free b) := by
    show (P.l.filter _).filter _ = _
    rw [List.filter_filter, List.filter_filter]
    apply List.filter_congr; intro x _; rw [Bool.and_comm]
  rw [e]
  refine ovL_split hd (ok.srt.sublist List.filter_sublist) (fun x hx => ok.fitX (List.mem_filter.1 hx).1) _ fun x hx y hy hlt hc hq => ?_
  obtain ⟨hx1, hx2⟩ := List.mem_filter.1 hx
  obtain ⟨hy1, hy2⟩ := List.mem_filter.1 hy
  have := free_ovl ok ov hx1 hy1 (by simp at hx2 hy2; omega) hlt hc (by simpa using hq)
  simpa using this
theorem now_fin_ne {P : PatchM} (ok : POk P) (b : Int) {c : Int} (hc : c ≠ b) (d : List UInt8) : (P.fin (P.free b)).over d ((P.fin (P.free b)).of c) = P.over d (P.of c) := by
  have ok2 := ok.fin (P.free b) (fun i hi => of_sub (free_sub hi))
  rw [over_of ok2, over_of ok, fin_of_ne (fun i hi => free_sub hi) ok hc]
theorem POv.fin {P : PatchM} (h : POv P) (l : List Int) : POv (P.fin l) := fun x hx y hy => h x (List.mem_filter.1 hx).1 y (List.mem_filter.1 hy).1
theorem POv.undo {P : PatchM} (h : POv P) (i : Int) : POv { P with last := i, l := P.l.filter fun x => decide (x.id ≤ i) } := fun x hx y hy => h x (List.mem_filter.1 hx).1 y (List.mem_filter.1 hy).1
theorem POv.add {P : PatchM} (ok : POk P) (h : POv P) {b o : Int} {y : List UInt8} {needs : List Int} (hf : fitsP b o y.length) : POv { P with last := P.last + 1, l := P.l ++ [P.newP b o y needs] } := fun x hx z hz hlt hb hc => by
  unfold fitsP at hf
  rcases List.mem_append.1 (show x ∈ P.l ++ [_] from hx) with h1 | h1 <;> rcases List.mem_append.1 (show z ∈ P.l ++ [_] from hz) with h2 | h2
  · exact h x h1 z h2 hlt hb hc
  · rw [List.mem_singleton] at h2; subst h2
    refine List.mem_map.2 ⟨x, List.mem_filter.2 ⟨h1, ?_⟩, rfl⟩
    obtain ⟨j, c1, c2⟩ := hc
    have hfx := ok.fit x h1
    unfold cov at c1 c2
    simp only [decide_eq_true_eq] at c1 c2
    have c2 : o.toNat ≤ j ∧ j < o.toNat + y.length := c2
    have hb : x.blk = b := hb
    rw [Bool.or_eq_true]; right
    unfold ovx ovl
    exact decide_eq_true ⟨hb.symm, by omega, by omega⟩
  · rw [List.mem_singleton] at h1; subst h1
    have := ok.rng z h2
    have hlt : P.last + 1 < z.id := hlt
    omega
  · rw [List.mem_singleton] at h1 h2; subst h1 h2
    exact absurd hlt (Int.lt_irrefl _)
theorem add_of_ne {P : PatchM} {b o : Int} {y : List UInt8} {needs : List Int} {c : Int} (hc : c ≠ b) : (P.l ++ [P.newP b o y needs]).filter (fun x => x.blk == c) = P.l.filter fun x => x.blk == c := by
  rw [List.filter_append, show ([P.newP b o y needs].filter fun x => x.blk == c) = [] from by
    rw [List.filter_cons]; rw [show ((P.newP b o y needs).blk == c) = false from by show (b == c) = false; simpa using fun e => hc e.symm]; rfl, List.append_nil]
theorem newCache {s : TH} {c T d r : Nat} {b : Int} (h1 : Blk s c [.pointer (some ⟨d, 0, none⟩), .int .i64 b, .map (some r), .int .i64 0, .int .i64 0, .int .i64 0] 203 T) (h2 : MapK (Value.int .i64) s r [] (T + 1)) (hb : 1 ≤ b ∧ b ≤ 64) : Cache s c T d ⟨[], b, 0, 0, 0⟩ :=
  ⟨⟨r, [], fun _ => 0, fun _ => (none, 0), h1, h2, ⟨fun x h => (List.not_mem_nil h).elim⟩, ⟨fun x h => (List.not_mem_nil h).elim⟩, ⟨List.Perm.refl _, fun x h => (List.not_mem_nil h).elim, fun x h => (List.not_mem_nil h).elim, List.nodup_nil, fun x h => (List.not_mem_nil h).elim⟩, hb, by simp; omega⟩,
    ⟨List.Pairwise.nil, fun x h => (List.not_mem_nil h).elim, by simp, by simp, fun x h => (List.not_mem_nil h).elim⟩⟩
/-- a volume that was opened -/
def VolM.fresh (bs : List (List UInt8)) : VolM := ⟨diskOf bs, ⟨0, [], []⟩, [], ⟨false, false, 0, []⟩, 0⟩
theorem VOk.fresh {bs : List (List UInt8)} (h : ∀ y ∈ bs, y.length = 128) : VOk (VolM.fresh bs) :=
  ⟨rfl, fun p hp => (List.not_mem_nil hp).elim, List.Pairwise.nil, ⟨Int.le_refl _, Int.le_refl _⟩, ⟨Int.le_refl _, (by decide : (0 : Int) ≤ 1000000000000000000)⟩, fun _ => Int.le_refl _, h, (by decide : 0 ≤ 64), fun p hp => (List.not_mem_nil hp).elim⟩
theorem newPSet {s : TH} {p T r1 r2 : Nat} (h : Blk s p [.int .i64 0, .map (some r1), .map (some r2), .bool true] 192 T) (h1 : MapK (Value.int .i64) s r1 [] (T + 1)) (h2 : MapK (Value.int .i64) s r2 [] (T + 2)) : PSet s p T ⟨0, [], []⟩ :=
  ⟨⟨r1, r2, [], [], h, h1, h2, trivial, rfl, fun e he => (List.not_mem_nil he).elim⟩, ⟨List.Pairwise.nil, fun x hx => (List.not_mem_nil hx).elim, fun x hx => (List.not_mem_nil hx).elim, fun x hx => (List.not_mem_nil hx).elim, fun x hx => (List.not_mem_nil hx).elim, fun x hx => (List.not_mem_nil hx).elim, fun i h1 h2 => absurd (Int.le_trans h1 h2) (by show ¬ (1 : Int) ≤ 0; decide), fun x hx => (List.not_mem_nil hx).elim, (by decide : (0 : Int) ≤ 0 ∧ (0 : Int) ≤ 1000000)⟩⟩
/-- bollard/volume.Open -/
theorem c_vopen2 (U d : Nat) (bs : List (List UInt8)) (b : Int) (s : TH) (hU : 10 ≤ U) (hd : Disk s d (U + 10) (diskOf bs)) (hl : ∀ y ∈ bs, y.length = 128) (hb : 1 ≤ b ∧ b ≤ 64) : TRet Tryz.prog 31 #[.pointer (some ⟨d, 0, none⟩), .int .i64 b] s fun v s' => ∃ r, v = .tuple #[.pointer (some ⟨r, 0, none⟩), .int .i64 0] ∧ Ch [] s s' ∧ VolL s' r d U (VolM.fresh bs) 0 := by
  refine F31_calls _ _  ?_
  unfold F31
  refine tcall (c_cnew (U + 10) d (diskOf bs) (U + 20) b _ (by omega) hd hb) ?_
  rintro v_2 s_1 ⟨ccall1, rcall1, rfl, c_4, call1a, call1b⟩
  have z_5 := c_4.size
  refine dT2 ?_
  refine dPtr_i ?_
  refine dInt_i ?_
  refine sB_f (by rfl) ?_
  refine tcall (c_pnew (U + 30) _) ?_
  rintro v_7 s_6 ⟨pcall2, r1call2, r2call2, rfl, c_9, call2a, call2b, call2c⟩
  have z_10 := c_9.size
  refine dPtr_i ?_
  refine alm_t (Value.int .i64) (U + 1) fun r10 s11 hr10 b_11 c_12 z_13 => ?_
  refine al_t U fun r12 s13 hr12 b_14 c_15 z_16 => ?_
  refine ret_t ?_
  have h_17 := b_11.ch c_15 (by simp)
  have h_18 := hd.mv (((c_4.app c_9).app c_12).app c_15) (rngn (by simp))
  have h_19 := call1a.ch ((c_9.app c_12).app c_15) (by simp)
  have h_20 := call1b.ch ((c_9.app c_12).app c_15) (by simp)
  have h_21 := call2a.ch (c_12.app c_15) (by simp)
  have h_22 := call2b.ch (c_12.app c_15) (by simp)
  have h_23 := call2c.ch (c_12.app c_15) (by simp)
  exact ⟨_, rfl, (((((Ch.refl [] s).ch c_4 (by simp)).ch c_9 (by simp)).ch c_12 (by simp)).ch c_15 (by simp)), ⟨⟨_, _, _, none, [], [], b_14, h_17, trivial, (fun h => by cases h), OMap.nil _ _, trivial, h_18, ⟨_, newCache h_19 h_20 hb, ⟨fun x hx => (List.not_mem_nil hx).elim, fun x hx => (List.not_mem_nil hx).elim⟩, Int.le_refl _, Int.le_refl _, Int.le_refl _⟩, newPSet h_21 h_22 h_23⟩, VOk.fresh hl⟩⟩
structure DoV where
  op : Int
  b : Int
  off : Int
  n : Int
  ba : Option Addr
  bn : Nat
  bc : Nat
  na : Option Addr
  nn : Nat
  nc : Nat
  by_ : List UInt8
  ns : List Int
def dov9 (x : DoV) : List Value := [.int .i64 x.op, .int .i64 x.b, .int .i64 x.off, .int .i64 x.n, .slice x.ba x.bn x.bc, .slice x.na x.nn x.nc]
theorem dov9_len (x : DoV) : (dov9 x).length = 6 := rfl
structure DoIn (s : TH) (τ : Nat) (x : DoV) : Prop where
  bs : Sl s x.ba (bvs x.by_) τ
  bl : x.by_.length = x.bn
  bo : x.ba = none → x.bn = 0
  bm : x.bn ≤ x.bc ∧ x.bn ≤ 140737488351232
  ns : Sl s x.na (ivs x.ns) τ
  nl : x.ns.length = x.nn
  no : x.na = none → x.nn = 0
  nm : x.nn ≤ x.nc ∧ x.nn ≤ 17592186043904
theorem DoIn.mv {s s' : TH} {τ : Nat} {x : DoV} {B : Nat → Prop} (h : DoIn s τ x) (c : Chg B s s') (hn : ∀ j, j < s.h.size → s.g j = τ → ¬ B j) : DoIn s' τ x := ⟨h.bs.mv c hn, h.bl, h.bo, h.bm, h.ns.mv c hn, h.nl, h.no, h.nm⟩
structure Dos (s : TH) (τ : Nat) (l : List DoV) : Prop where
  at_ : ∀ x ∈ l, DoIn s τ x
theorem Dos.mv {s s' : TH} {τ : Nat} {l : List DoV} {B : Nat → Prop} (h : Dos s τ l) (c : Chg B s s') (hn : ∀ j, j < s.h.size → s.g j = τ → ¬ B j) : Dos s' τ l := ⟨fun x hx => (h.at_ x hx).mv c hn⟩
theorem ecell (n : Nat) (hn : n < 6) {ls : List DoV} {k : Nat} {x : DoV} (h : ls[k]? = some x) : (ls.flatMap dov9)[k * 6 + n]? = (dov9 x)[n]? := fm_get dov9_len ls k n x h hn
/-- behind a change that was taken -/
structure Chd (V V' : VolM) : Prop where
  ex : ∃ b o y needs, V.D.has b ∧ fitsP b o y.length ∧ (∀ n ∈ needs, 1 ≤ n ∧ n ≤ V.P.last) ∧ V' = { V with n := V.ticks b, P := (V.P.add b o y needs).1, old := V.keep b } ∧ (V.P.add b o y needs).1 = { V.P with last := V.P.last + 1, l := V.P.l ++ [V.P.newP b o y needs] }
theorem add_ok {P : PatchM} {b o : Int} {y : List UInt8} {needs : List Int} (h1 : fitsP b o y.length) (h2 : ∀ n ∈ needs, 1 ≤ n ∧ n ≤ P.last) : P.add b o y needs = ({ P with last := P.last + 1, l := P.l ++ [P.newP b o y needs] }, P.last + 1, 0) := by
  unfold PatchM.add
  rw [if_neg (by simpa using h1), if_neg (by simpa [PatchM.knows] using h2)]
theorem change_ok {V : VolM} {b o : Int} {y : List UInt8} {needs : List Int} (hb : V.D.has b) (h1 : fitsP b o y.length) (h2 : ∀ n ∈ needs, 1 ≤ n ∧ n ≤ V.P.last) :
    (V.change b o y needs).2.1 = V.P.last + 1 ∧ (V.change b o y needs).2.2 = 0 ∧ (V.change b o y needs).1.P.last = V.P.last + 1 ∧ Chd V (V.change b o y needs).1 := by
  have e := add_ok (P := V.P) h1 h2
  unfold VolM.change
  rw [if_neg (by simpa using hb), if_neg (by rw [e]; simp)]
  refine ⟨by rw [e], rfl, by show (V.P.add b o y needs).1.last = _; rw [e], ⟨b, o, y, needs, hb, h1, h2, rfl, by rw [e]⟩⟩
theorem Sl.pre0 {s : TH} {a : Option Addr} {xs : List Value} {τ : Nat} (h : Sl s a xs τ) (m c : Nat) : Sl s (slO a 1 0 (c : Int)) (xs.take m) τ := by
  rcases h with rfl | ⟨g, o, rfl, h1, h2, h3⟩
  · left; simp
  · right
    refine ⟨g, o, ?_, h1, h2, fun j v hv => ?_⟩
    · have := slA_mk g o 1 0 c
      rw [show ((0 : Nat) : Int) = 0 from rfl] at this
      rw [this]; simp
    · rw [List.getElem?_take] at hv
      split at hv
      · exact h3 j v hv
      · cases hv
theorem tmod_rng {a b n : Int} (ha : 0 ≤ a) (hb : 0 < b) (h : n = Int.tmod a b) : 0 ≤ n ∧ n < b := by
  subst h
  rw [Int.tmod_eq_emod_of_nonneg ha]
  exact ⟨Int.emod_nonneg a (by omega), Int.emod_lt_of_pos a hb⟩
theorem bvs_take (l : List UInt8) (m : Nat) : (bvs l).take m = bvs (l.take m) := by simp [bvs]
theorem u8w (n : Int) : ∃ b : UInt8, IntKind.u8.wrap n = (b.toNat : Int) := by
  refine ⟨UInt8.ofNat (n % 256).toNat, ?_⟩
  have e2 : (UInt8.ofNat (n % 256).toNat).toNat = (n % 256).toNat % 256 := rfl
  have e : IntKind.u8.wrap n = n % 256 := rfl
  rw [e, e2]; omega
/-- bollard/bollardlaw09.change -/
theorem c_vlchange (vp d U : Nat) (V : VolM) (xop xb_ xoff xn_ : Int) (xba : Option Addr) (xbn xbc : Nat) (xna : Option Addr) (xnn xnc : Nat) (xby : List UInt8) (xns : List Int) (τ : Nat) (s : TH) (hU : 10 ≤ U) (hv : VolL s vp d U V 0) (hx : DoIn s τ ⟨xop, xb_, xoff, xn_, xba, xbn, xbc, xna, xnn, xnc, xby, xns⟩) (hτ : τ < U ∨ U + 50 ≤ τ) (hl : V.P.last < 90) (hn : V.n < 1000000) : TRet Tryz.prog 53 #[.pointer (some ⟨vp, 0, none⟩), .agg #[.int .i64 xop, .int .i64 xb_, .int .i64 xoff, .int .i64 xn_, .slice xba xbn xbc, .slice xna xnn xnc]] s fun v s' => ∃ V', v = .bool true ∧ Ch [U, U + 3, U + 20, U + 21, U + 22, U + 23, U + 30, U + 32] s s' ∧ Chd V V' ∧ VolL s' vp d U V' 0 := by
  have hnb := hv.p.choose_spec.choose_spec.choose_spec.choose_spec.choose_spec.choose_spec.dk.nb
  have hxl := hx.bl
  have hxm := hx.bm
  have hxo := hx.bo
  have hxnl := hx.nl
  have hxnm := hx.nm
  have hxno := hx.no
  simp only at hxl hxm hxo hxnl hxnm hxno
  have hxb : Sl s xba (bvs xby) τ := hx.bs
  have hxs : Sl s xna (ivs xns) τ := hx.ns
  obtain ⟨M, hM, hM0, hMa, hMb, hMc, hMd, hMe, hMf⟩ := fresh6 s (U + 50) τ 0 0 0 0
  refine F53_calls _ _ _ _ _ _ _  ?_
  unfold F53
  refine al_t (M + 1) fun r1 s2 hr1 b_1 c_2 z_3 => ?_
  refine ld_t b_1 rfl ?_
  refine dSl_i ?_
  refine ld_t b_1 rfl ?_
  refine dSl_i ?_
  refine min_i ?_
  refine dInt_i ?_
  refine ask_t (by omega) ?_
  refine jn1 (fun fv s' => Ch [] s2 s' ∧ (∃ pa pn pc y σ, fv = .slice pa pn pc ∧ Sl s' pa (bvs y) σ ∧ y.length = pn ∧ 1 ≤ pn ∧ pn ≤ 128 ∧ (σ = τ ∨ σ = M + 2))) ?_ ?_
  ·
    rintro fv s_4 ⟨c_5, pa, pn, pc, y, σ, rfl, hy, hyl, hp1, hp2, hσ⟩
    have z_6 := c_5.size
    intro _
    intros
    refine dSl_i ?_
    have h_7 := b_1.ch c_5 (by simp)
    refine ld_t h_7 rfl ?_
    refine dSl_i ?_
    refine ⟨fun vs H' => ∃ s' : TH, s'.h = H' ∧ ∃ qa qn qc i, vs = [.slice qa qn qc, .int .i64 i] ∧ Ch [U, M + 5, M + 9] s_4 s' ∧ (∃ (kk : Nat) (needs : List Int), i = kk ∧ kk ≤ xnn ∧ qn = needs.length ∧ needs.length ≤ kk ∧ (∀ n ∈ needs, 1 ≤ n ∧ n ≤ V.P.last) ∧ Own s' qa qn qc 3 1 (ivs needs) (M + 5) ∧ VolL s' vp d U V 0), fun vs H' => match vs with | [.slice qa qn qc, .int .i64 i] => ((xnn : Int) - i).toNat | _ => 0, ⟨s_4, rfl, _, _, _, _, rfl, Ch.refl _ _, ?_⟩, ?_⟩
    ·
      have h_8 := hv.mv (c_2.app c_5) (rngn50 (by simp))
      exact ⟨0, [], rfl, by omega, rfl, by simp, fun n hn => (List.not_mem_nil hn).elim, Own.nil _ _ _ _, h_8⟩
    ·
      intro qa qn qc i _ _ _ _ _ _ _ _ _ _ _ _ _ _ _ _ _ _ _ H_ hI_10
      obtain ⟨s_9, rfl, qa_, qn_, qc_, i_, hvs, c_11, kk, needs, rfl, hk, hq, hql, hnd, ho, hv2⟩ := hI_10
      cases hvs
      have z_12 := c_11.size
      refine sB_d (fun hsB1 => ?_) (fun hsB1 => ?_)
      ·
        refine jn_u ?_
        have h_13 := hxs.mv ((c_2.app c_5).app c_11) (tagn (by simp <;> omega))
        obtain ⟨a_14, rfl⟩ := h_13.ne_none (by simp [bvs_len, ivs_len]; omega)
        refine nz_i ?_
        refine ask_t (by omega) ?_
        refine ld_iv h_13 (by omega) (by omega) fun vel1 hel1 => ?_
        rw [Int.toNat_natCast] at hel1
        refine dInt_i ?_
        refine tcall (c_VLast _ _ _ _ _ (by omega) hv2) ?_
        rintro v_16 s_15 ⟨rfl, c_18, call1a⟩
        have z_19 := c_18.size
        refine dInt_i ?_
        refine sB_d (fun hsB2 => ?_) (fun hsB2 => ?_)
        ·
          refine wr_a fun n89 hn89 => ?_
          rw [wrap_u64] at hn89
          refine tcall (c_VLast _ _ _ _ _ (by omega) call1a) ?_
          rintro v_21 s_20 ⟨rfl, c_23, call2a⟩
          have z_24 := c_23.size
          refine dInt_i ?_
          refine wr_a fun n93 hn93 => ?_
          rw [wrap_u64] at hn93
          refine ask_t (by omega) ?_
          refine nm_a fun n94 hn94 => ?_
          have qn94 := tmod_rng (by omega) (by omega) hn94
          refine wr_t (by omega) ?_
          refine wr_t (by omega) ?_
          refine al_t (M + 9) fun r97 s98 hr97 b_25 c_26 z_27 => ?_
          have h_30 := ho.mv ((c_18.app c_23).app c_26) (tagn (by simp <;> omega))
          refine app_i1 u73 in3 h_30 b_25 (by omega) fun s_31 a_28 k_29 o_32 c_33 => ?_
          have z_34 := c_33.size
          refine dSl_i ?_
          intro _
          intros
          refine dSl_i ?_
          refine wr_t (by omega) ?_
          refine ⟨⟨s_31, rfl, _, _, _, _, rfl, ((((((Ch.refl [U, M + 5, M + 9] s_4).ch c_11 (by simp)).ch c_18 (by simp)).ch c_23 (by simp)).ch c_26 (by simp)).ch c_33 (by simp)), ?_⟩, ?_⟩
          ·
            have h_35 := call2a.mv (c_26.app c_33) (rngn50 (by simp <;> omega))
            exact ⟨kk + 1, needs ++ [1 + n94], by omega, by omega, by rw [List.length_append, hq]; rfl, by rw [List.length_append, List.length_singleton]; omega, fun n hn => by (rcases List.mem_append.1 hn with h | h; exact hnd n h; rw [List.mem_singleton] at h; omega), o_32, h_35⟩
          ·
            simp only []; omega
        ·
          intro _
          intros
          refine dSl_i ?_
          refine wr_t (by omega) ?_
          refine ⟨⟨s_15, rfl, _, _, _, _, rfl, (((Ch.refl [U, M + 5, M + 9] s_4).ch c_11 (by simp)).ch c_18 (by simp)), ?_⟩, ?_⟩
          ·
            have h_36 := ho.mv c_18 (tagn (by simp <;> omega))
            exact ⟨kk + 1, needs, by omega, by omega, hq, by omega, hnd, h_36, call1a⟩
          ·
            simp only []; omega
      ·
        have h_37 := h_7.ch c_11 (by simp <;> omega)
        refine ld_t h_37 rfl ?_
        refine dInt_i ?_
        refine wr_a fun n112 hn112 => ?_
        rw [wrap_u64] at hn112
        refine ld_t h_37 rfl ?_
        refine dInt_i ?_
        refine wr_a fun n115 hn115 => ?_
        rw [wrap_u64] at hn115
        refine ⟨?_, ?_⟩
        ·
          refine tcall (c_VBlocks2 _ _ _ _ _ (by omega) hv2) ?_
          rintro v_39 s_38 ⟨rfl, c_41, call3a⟩
          have z_42 := c_41.size
          refine dInt_i ?_
          refine ⟨?_, ?_⟩
          ·
            have h_43 := h_37.ch c_41 (by simp <;> omega)
            refine ld_t h_43 rfl ?_
            refine dInt_i ?_
            rfl
          ·
            refine ⟨?_, ?_⟩
            ·
              have h_44 := h_37.ch c_41 (by simp <;> omega)
              refine ld_t h_44 rfl ?_
              refine dInt_i ?_
              rfl
            ·
              refine wr_a fun n123 hn123 => ?_
              rw [wrap_u64] at hn123
              refine ask_t (by omega) ?_
              refine nm_a fun n124 hn124 => ?_
              have qn124 := tmod_rng (by omega) (by omega) hn124
              refine wr_t (by omega) ?_
              refine ⟨?_, ?_⟩
              ·
                have h_45 := h_37.ch c_41 (by simp <;> omega)
                refine ld_t h_45 rfl ?_
                refine dInt_i ?_
                rfl
              ·
                refine ⟨?_, ?_⟩
                ·
                  have h_46 := h_37.ch c_41 (by simp <;> omega)
                  refine ld_t h_46 rfl ?_
                  refine dInt_i ?_
                  rfl
                ·
                  refine wr_t (by omega) ?_
                  refine wr_a fun n131 hn131 => ?_
                  rw [wrap_u64] at hn131
                  refine ask_t (by omega) ?_
                  refine nm_a fun n132 hn132 => ?_
                  have qn132 := tmod_rng (by omega) (by omega) hn132
                  refine wr_t (by omega) ?_
                  have h_47 := hy.mv (c_11.app c_41) (tagn (by simp <;> omega))
                  have h_48 := ho.mv c_41 (tagn (by simp <;> omega))
                  refine tcall (c_VChange _ _ _ _ _ _ _ _ _ (by omega) call3a h_47 hyl (h_48).sl hq.symm (by omega) (by omega) (by omega) (by omega)) ?_
                  rintro v_50 s_49 ⟨rfl, c_52, call4a⟩
                  have z_53 := c_52.size
                  have hch := change_ok (V := V) (b := n124) (o := n132) (y := y) (needs := needs) ⟨by omega, by omega⟩ (by unfold fitsP; omega) hnd
                  rw [hch.1, hch.2.1]
                  refine dT2 ?_
                  refine dInt_i ?_
                  refine dInt_i ?_
                  refine sB_t (by rfl) ?_
                  refine tcall (c_VLast _ _ _ _ _ (by omega) call4a) ?_
                  rintro v_55 s_54 ⟨rfl, c_57, call5a⟩
                  have z_58 := c_57.size
                  refine dInt_i ?_
                  refine ret_t ?_
                  exact ⟨_, by rw [hch.2.2.1]; simp, (((((((Ch.refl [U, U + 3, U + 20, U + 21, U + 22, U + 23, U + 30, U + 32] s).ch c_2 (by simp)).ch c_5 (by simp)).fr c_11 hM (by simp)).ch c_41 (by simp)).ch c_52 (by simp)).ch c_57 (by simp)), hch.2.2.2, call5a⟩
        ·
          refine ⟨?_, ?_⟩
          ·
            refine ld_t h_37 rfl ?_
            refine dInt_i ?_
            rfl
          ·
            refine ⟨?_, ?_⟩
            ·
              refine ld_t h_37 rfl ?_
              refine dInt_i ?_
              rfl
            ·
              refine wr_t (by omega) ?_
              refine wr_a fun n154 hn154 => ?_
              rw [wrap_u64] at hn154
              refine ask_t (by omega) ?_
              refine nm_a fun n155 hn155 => ?_
              have qn155 := tmod_rng (by omega) (by omega) hn155
              refine wr_t (by omega) ?_
              refine tcall (c_VBlocks2 _ _ _ _ _ (by omega) hv2) ?_
              rintro v_60 s_59 ⟨rfl, c_62, call6a⟩
              have z_63 := c_62.size
              refine dInt_i ?_
              refine ⟨?_, ?_⟩
              ·
                have h_64 := h_37.ch c_62 (by simp <;> omega)
                refine ld_t h_64 rfl ?_
                refine dInt_i ?_
                rfl
              ·
                refine ⟨?_, ?_⟩
                ·
                  have h_65 := h_37.ch c_62 (by simp <;> omega)
                  refine ld_t h_65 rfl ?_
                  refine dInt_i ?_
                  rfl
                ·
                  refine wr_a fun n164 hn164 => ?_
                  rw [wrap_u64] at hn164
                  refine ask_t (by omega) ?_
                  refine nm_a fun n165 hn165 => ?_
                  have qn165 := tmod_rng (by omega) (by omega) hn165
                  refine wr_t (by omega) ?_
                  have h_66 := hy.mv (c_11.app c_62) (tagn (by simp <;> omega))
                  have h_67 := ho.mv c_62 (tagn (by simp <;> omega))
                  refine tcall (c_VChange _ _ _ _ _ _ _ _ _ (by omega) call6a h_66 hyl (h_67).sl hq.symm (by omega) (by omega) (by omega) (by omega)) ?_
                  rintro v_69 s_68 ⟨rfl, c_71, call7a⟩
                  have z_72 := c_71.size
                  have hch := change_ok (V := V) (b := n165) (o := n155) (y := y) (needs := needs) ⟨by omega, by omega⟩ (by unfold fitsP; omega) hnd
                  rw [hch.1, hch.2.1]
                  refine dT2 ?_
                  refine dInt_i ?_
                  refine dInt_i ?_
                  refine sB_t (by rfl) ?_
                  refine tcall (c_VLast _ _ _ _ _ (by omega) call7a) ?_
                  rintro v_74 s_73 ⟨rfl, c_76, call8a⟩
                  have z_77 := c_76.size
                  refine dInt_i ?_
                  refine ret_t ?_
                  exact ⟨_, by rw [hch.2.2.1]; simp, (((((((Ch.refl [U, U + 3, U + 20, U + 21, U + 22, U + 23, U + 30, U + 32] s).ch c_2 (by simp)).ch c_5 (by simp)).fr c_11 hM (by simp)).ch c_62 (by simp)).ch c_71 (by simp)).ch c_76 (by simp)), hch.2.2.2, call8a⟩
  ·
    intro K_78 hK_78
    refine sB_d (fun hsB5 => ?_) (fun hsB5 => ?_)
    ·
      refine ld_t b_1 rfl ?_
      refine dInt_i ?_
      refine wr_a fun n185 hn185 => ?_
      refine al_t (M + 2) fun r186 s187 hr186 b_79 c_80 z_81 => ?_
      refine hK_78 _ _ ⟨((Ch.refl [] s2).ch c_80 (by simp)), ?_⟩
      obtain ⟨b8, hb8⟩ := u8w xn_
      exact ⟨_, _, _, [b8], _, rfl, by (have h := (b_79).sl; rw [hn185, hb8] at h; exact h), rfl, by omega, by omega, .inr rfl⟩
    ·
      refine hK_78 _ _ ⟨(Ch.refl [] s2), ?_⟩
      have h_82 := hxb.mv c_2 (tagn (by simp))
      have hy := (h_82).pre0 (min xbn 128) xbc
      rw [bvs_take] at hy
      exact ⟨_, _, _, xby.take (min xbn 128), _, rfl, hy, by rw [List.length_take]; omega, by omega, by omega, .inl rfl⟩
structure BegI (V : VolM) (bs : List (List UInt8)) : Prop where
  D : V.D = diskOf bs
  way : V.way = []
  old : V.old = ⟨false, false, 0, []⟩
  n : V.n = 0
  don : V.P.done = []
  ov : POv V.P
  has : ∀ x ∈ V.P.l, V.D.has x.blk
theorem BegI.fresh (bs : List (List UInt8)) : BegI (VolM.fresh bs) bs := ⟨rfl, rfl, rfl, rfl, rfl, fun x hx => (List.not_mem_nil hx).elim, fun x hx => (List.not_mem_nil hx).elim⟩
theorem BegI.chd {V V' : VolM} {bs : List (List UInt8)} (h : BegI V bs) (ok : POk V.P) (c : Chd V V') : BegI V' bs ∧ V'.P.last = V.P.last + 1 := by
  obtain ⟨⟨b, o, y, needs, hb, hf, hk, rfl, e⟩⟩ := c
  have h1 : V.first b = false := by unfold VolM.first; rw [h.old]; rfl
  refine ⟨⟨h.D, h.way, ?_, ?_, ?_, ?_, ?_⟩, ?_⟩
  · show V.keep b = _; unfold VolM.keep; rw [if_neg (by rw [h1]; simp)]; exact h.old
  · show V.ticks b = 0; unfold VolM.ticks; rw [if_neg (by rw [h1]; simp)]; exact h.n
  · show (V.P.add b o y needs).1.done = []; rw [e]; exact h.don
  · show POv (V.P.add b o y needs).1; rw [e]; exact POv.add ok h.ov hf
  · intro x hx
    have hx : x ∈ (V.P.add b o y needs).1.l := hx
    rw [e] at hx
    rcases List.mem_append.1 hx with hx | hx
    · exact h.has x hx
    · rw [List.mem_singleton] at hx; subst hx; exact hb
  · show (V.P.add b o y needs).1.last = _; rw [e]
theorem VolL.pok {s : TH} {v d U : Nat} {V : VolM} {lk : Int} (h : VolL s v d U V lk) : POk V.P := by obtain ⟨⟨c, p, rw_, rk, mw, mk, h⟩, ok⟩ := h; exact h.ps.ok
theorem imgs_len {n : Nat} : ∀ y ∈ imgs n, y.length = 128 := fun y hy => by
  unfold imgs at hy
  obtain ⟨k, _, rfl⟩ := List.mem_map.1 hy
  simp
/-- bollard/bollardlaw09.begun -/
theorem c_begun (U : Nat) (x : Int) {a : Option Addr} {n : Nat} (c : Nat) {ls : List DoV} {τ : Nat} {s : TH} (hU : 10 ≤ U) (hq : Sl s a (ls.flatMap dov9) τ) (hd : Dos s τ ls) (hln : ls.length = n) (hn2 : n ≤ 17592186043904) (ha : a = none → n = 0) (hτ : τ < U ∨ U + 50 ≤ τ) : TRet Tryz.prog 43 #[.int .i64 x, .slice a n c] s fun v s' => ∃ r d V, v = .tuple #[.pointer (some ⟨r, 0, none⟩), .pointer (some ⟨d, 0, none⟩), .bool true] ∧ Ch [U, U + 3, U + 20, U + 21, U + 22, U + 23, U + 30, U + 32, U + 11] s s' ∧ BegI V (imgs (nblk8 x)) ∧ V.P.last ≤ 41 ∧ VolL s' r d U V 0 := by
  have hnb8 := nblk8_le x
  obtain ⟨M, hM, hM0, hMa, hMb, hMc, hMd, hMe, hMf⟩ := fresh6 s τ (U + 60) 0 0 0 0
  refine F43_calls _ _ _ _  ?_
  unfold F43
  refine tcall (c_vblocks M x _) ?_
  rintro v_2 s_1 ⟨acall1, ccall1, hscall1, rfl, c_4, call1a, call1b⟩
  have z_5 := c_4.size
  refine dSl_i ?_
  refine tcall (c_of (U + 10) ccall1 (by omega) call1a.sl call1b (by rw [BRel.len call1b]; simp [imgs]) (by omega) (by omega) (by omega)) ?_
  rintro v_7 s_6 ⟨dcall2, rfl, c_9, call2a⟩
  have z_10 := c_9.size
  refine dT2 ?_
  refine dPtr_i ?_
  refine dInt_i ?_
  refine tcall (c_vopen2 U _ _ 64 _ hU call2a imgs_len (by omega)) ?_
  rintro v_12 s_11 ⟨rcall3, rfl, c_14, call3a⟩
  have z_15 := c_14.size
  refine dT2 ?_
  refine dPtr_i ?_
  refine dInt_i ?_
  refine jn_u ?_
  refine sB_f (by rfl) ?_
  refine sB_f (by rfl) ?_
  intro _
  intros
  refine dBl_i ?_
  refine sB_f (by rfl) ?_
  refine jn_u ?_
  refine ⟨fun vs H' => ∃ s' : TH, s'.h = H' ∧ ∃ i, vs = [.int .i64 i] ∧ Ch [U, U + 3, U + 20, U + 21, U + 22, U + 23, U + 30, U + 32, M + 9] s_11 s' ∧ (∃ (kk : Nat) (V : VolM), i = kk ∧ kk ≤ n ∧ BegI V (imgs (nblk8 x)) ∧ V.P.last = kk ∧ kk ≤ 41 ∧ VolL s' rcall3 dcall2 U V 0), fun vs H' => match vs with | [.int .i64 i] => ((n : Int) - i).toNat | _ => 0, ⟨s_11, rfl, _, rfl, Ch.refl _ _, ?_⟩, ?_⟩
  ·
    exact ⟨0, _, rfl, by omega, BegI.fresh _, rfl, by omega, call3a⟩
  ·
    intro i _ _ _ _ _ _ _ _ _ _ _ _ _ _ _ _ H_ hI_17
    obtain ⟨s_16, rfl, i_, hvs, c_18, kk, V, rfl, hk, hB, hlast, hk41, hv⟩ := hI_17
    cases hvs
    have z_19 := c_18.size
    refine sB_d (fun hsB4 => ?_) (fun hsB4 => ?_)
    ·
      obtain ⟨xx, hx⟩ : ∃ xx, ls[kk]? = some xx := ⟨ls[kk]'(by omega), by simp⟩
      obtain ⟨a, rfl⟩ := Option.ne_none_iff_exists'.1 (fun e => absurd (ha e) (by omega))
      refine nz_i ?_
      refine ask_t (by omega) ?_
      have h_20 := hq.mv (((c_4.app c_9).app c_14).app c_18) (tagn (by simp <;> omega))
      refine ld_sl h_20 (by rw [Int.toNat_natCast]; exact ecell 0 (by omega) hx) ?_
      refine ld_sl2 h_20 (by rw [Int.toNat_natCast]; exact ecell 1 (by omega) hx) ?_
      refine ld_sl2 h_20 (by rw [Int.toNat_natCast]; exact ecell 2 (by omega) hx) ?_
      refine ld_sl2 h_20 (by rw [Int.toNat_natCast]; exact ecell 3 (by omega) hx) ?_
      refine ld_sl2 h_20 (by rw [Int.toNat_natCast]; exact ecell 4 (by omega) hx) ?_
      refine ld_sl2 h_20 (by rw [Int.toNat_natCast]; exact ecell 5 (by omega) hx) ?_
      refine al_t (M + 9) fun r79 s80 hr79 b_21 c_22 z_23 => ?_
      refine st_t b_21 rfl (by simp) fun s81 b_24 c_25o z_26 => ?_
      have c_25 := on_ch b_21 c_25o
      refine st_t b_24 rfl (by simp) fun s82 b_27 c_28o z_29 => ?_
      have c_28 := on_ch b_24 c_28o
      refine st_t b_27 rfl (by simp) fun s83 b_30 c_31o z_32 => ?_
      have c_31 := on_ch b_27 c_31o
      refine st_t b_30 rfl (by simp) fun s84 b_33 c_34o z_35 => ?_
      have c_34 := on_ch b_30 c_34o
      refine st_t b_33 rfl (by simp) fun s85 b_36 c_37o z_38 => ?_
      have c_37 := on_ch b_33 c_37o
      refine st_t b_36 rfl (by simp) fun s86 b_39 c_40o z_41 => ?_
      have c_40 := on_ch b_36 c_40o
      refine sB_d (fun hsB5 => ?_) (fun hsB5 => ?_)
      ·
        intro _
        intros
        refine ret_t ?_
        have h_42 := hv.mv ((((((c_22.app c_25).app c_28).app c_31).app c_34).app c_37).app c_40) (rngn50 (by simp <;> omega))
        exact ⟨_, _, V, rfl, ((((((((((((Ch.refl [U, U + 3, U + 20, U + 21, U + 22, U + 23, U + 30, U + 32, U + 11] s).fr c_4 hM (by simp)).fr c_9 hM (by simp)).ch c_14 (by simp)).fr c_18 hM (by simp)).ch c_22 (by simp)).fr c_25 hM (by simp)).fr c_28 hM (by simp)).fr c_31 hM (by simp)).fr c_34 hM (by simp)).fr c_37 hM (by simp)).fr c_40 hM (by simp)), hB, by omega, h_42⟩
      ·
        refine ld_t b_39 rfl ?_
        refine ld_t b_39 rfl ?_
        refine ld_t b_39 rfl ?_
        refine ld_t b_39 rfl ?_
        refine ld_t b_39 rfl ?_
        refine ld_t b_39 rfl ?_
        have h_43 := hd.mv ((((((((((c_4.app c_9).app c_14).app c_18).app c_22).app c_25).app c_28).app c_31).app c_34).app c_37).app c_40) (tagn (by simp <;> omega))
        have h_44 := hv.mv ((((((c_22.app c_25).app c_28).app c_31).app c_34).app c_37).app c_40) (rngn50 (by simp <;> omega))
        refine tcall (c_vlchange _ _ _ _ _ _ _ _ _ _ _ _ _ _ _ _ τ _ (by omega) h_44 ((h_43).at_ xx (List.mem_of_getElem? hx)) (by omega) (by omega) (by rw [hB.n]; omega)) ?_
        rintro v_46 s_45 ⟨Vcall4, rfl, c_48, call4a, call4b⟩
        have z_49 := c_48.size
        refine dBl_i ?_
        refine sB_f (by rfl) ?_
        refine wr_t (by omega) ?_
        refine ⟨⟨s_45, rfl, _, rfl, ((((((((((Ch.refl [U, U + 3, U + 20, U + 21, U + 22, U + 23, U + 30, U + 32, M + 9] s_11).ch c_18 (by simp)).ch c_22 (by simp)).ch c_25 (by simp)).ch c_28 (by simp)).ch c_31 (by simp)).ch c_34 (by simp)).ch c_37 (by simp)).ch c_40 (by simp)).ch c_48 (by simp)), ?_⟩, ?_⟩
        ·
          obtain ⟨hB2, hl2⟩ := hB.chd hv.pok call4a
          exact ⟨kk + 1, _, by omega, by omega, hB2, by omega, by omega, call4b⟩
        ·
          simp only []; omega
    ·
      intro _
      intros
      refine ret_t ?_
      exact ⟨_, _, V, rfl, (((((Ch.refl [U, U + 3, U + 20, U + 21, U + 22, U + 23, U + 30, U + 32, U + 11] s).fr c_4 hM (by simp)).fr c_9 hM (by simp)).ch c_14 (by simp)).fr c_18 hM (by simp)), hB, by omega, hv⟩
def VolM.ticksN (V : VolM) (k : Int) : VolM := { V with n := V.n + k }
theorem ticksN_succ (V : VolM) (k : Nat) : (V.ticksN k).tick = V.ticksN ((k + 1 : Nat) : Int) := by
  unfold VolM.ticksN VolM.tick
  simp only [VolM.mk.injEq, true_and]
  omega
def VolM.alls (V : VolM) : List (List UInt8) := (List.range V.D.blocks.length).map fun (k : Nat) => V.now (k : Int)
/-- bollard/bollardlaw09.all -/
theorem c_vall (vp d U : Nat) (V : VolM) (τr τb : Nat) (s : TH) (hU : 10 ≤ U) (hv : VolL s vp d U V 0) (hn : V.n < 10000000000) (hτ : (τr < U ∨ U + 50 ≤ τr) ∧ (τb < U ∨ U + 50 ≤ τb)) : TRet Tryz.prog 44 #[.pointer (some ⟨vp, 0, none⟩)] s fun v s' => ∃ a c hs, v = .slice a V.D.blocks.length c ∧ Ch [U, U + 20, U + 21, U + 22, U + 23] s s' ∧ Own s' a V.D.blocks.length c 38 1 (hs.flatMap hd1) τr ∧ BRel s' τb hs V.alls ∧ VolL s' vp d U (V.ticksN V.D.blocks.length) 0 := by
  have hnb := hv.p.choose_spec.choose_spec.choose_spec.choose_spec.choose_spec.choose_spec.dk.nb
  obtain ⟨M, hM, hM0, hMa, hMb, hMc, hMd, hMe, hMf⟩ := fresh6 s (U + 60) τr τb 0 0 0
  refine F44_calls _  ?_
  unfold F44
  refine tcall (c_VBlocks2 _ _ _ _ _ (by omega) hv) ?_
  rintro v_2 s_1 ⟨rfl, c_4, call1a⟩
  have z_5 := c_4.size
  refine dInt_i ?_
  refine ⟨fun vs H' => ∃ s' : TH, s'.h = H' ∧ ∃ pa pn pc i, vs = [.slice pa pn pc, .int .i64 i] ∧ Ch [U, U + 20, U + 21, U + 22, U + 23, M + 1, M + 9] s_1 s' ∧ (∃ (kk : Nat) (hs : List Hd), i = kk ∧ pn = kk ∧ kk ≤ V.D.blocks.length ∧ Own s' pa pn pc 38 1 (hs.flatMap hd1) (M + 1) ∧ BRel s' τb hs ((List.range kk).map fun (k : Nat) => V.now (k : Int)) ∧ VolL s' vp d U (V.ticksN kk) 0), fun vs H' => match vs with | [.slice pa pn pc, .int .i64 i] => ((V.D.blocks.length : Int) - i).toNat | _ => 0, ⟨s_1, rfl, _, _, _, _, rfl, Ch.refl _ _, ?_⟩, ?_⟩
  ·
    exact ⟨0, [], rfl, rfl, by omega, Own.nil _ _ _ _, BRel.nil _ _, by have h := call1a; unfold VolM.ticksN; simpa using h⟩
  ·
    intro pa pn pc i _ _ _ _ _ _ _ _ _ _ _ _ _ _ _ _ H_ hI_7
    obtain ⟨s_6, rfl, pa_, pn_, pc_, i_, hvs, c_8, kk, hs, rfl, rfl, hk, ho, hb, hv2⟩ := hI_7
    cases hvs
    have z_9 := c_8.size
    refine sB_d (fun hsB1 => ?_) (fun hsB1 => ?_)
    ·
      refine tcall (c_VRead _ _ _ _ τb _ _ (by omega) hv2 (by show V.n + _ < _; omega) (show V.D.has _ from ⟨by omega, by omega⟩) (by omega)) ?_
      rintro v_11 s_10 ⟨acall2, ccall2, rfl, c_13, call2a, call2b⟩
      have z_14 := c_13.size
      refine dT2 ?_
      refine dSl_i ?_
      refine dInt_i ?_
      refine al_t (M + 9) fun r36 s37 hr36 b_15 c_16 z_17 => ?_
      have h_18 := ho.mv (c_13.app c_16) (tagn (by simp <;> omega))
      refine app_i u42 in38 rfl h_18 (b_15).sl (m := 1) (k := 1) rfl (by intro u hu; simp at hu; subst hu; rfl) (by simp) (by unfold maxLen; omega) fun s_19 pa2 pc2 o_22 c_20o _ => ?_
      have c_20 := c_20o.ch h_18 (T := [M + 1]) (by simp)
      have z_21 := c_20.size
      refine dSl_i ?_
      refine wr_t (by omega) ?_
      refine ⟨⟨s_19, rfl, _, _, _, _, rfl, (((((Ch.refl [U, U + 20, U + 21, U + 22, U + 23, M + 1, M + 9] s_1).ch c_8 (by simp)).ch c_13 (by simp)).ch c_16 (by simp)).ch c_20 (by simp)), ?_⟩, ?_⟩
      ·
        have h_23 := hb.mv ((c_13.app c_16).app c_20) (tagn (by simp <;> omega))
        have h_24 := call2a.mv (c_16.app c_20) (tagn (by simp <;> omega))
        have h_25 := call2b.mv (c_16.app c_20) (rngn50 (by simp <;> omega))
        exact ⟨pn + 1, hs ++ [(acall2, ccall2)], by omega, by omega, by omega, by simpa [hd1] using o_22, by rw [List.range_succ, List.map_append]; exact (h_23).snoc ⟨(h_24).sl, by have := (h_24).1; rw [bvs_len] at this; exact this⟩, by rw [← ticksN_succ]; exact h_25⟩
      ·
        simp only []; omega
    ·
      obtain rfl : pn = V.D.blocks.length := by omega
      refine ret_t' (s' := remark s_6 (M + 1) τr) rfl ⟨_, _, _, rfl, remark_ch (((Ch.refl [U, U + 20, U + 21, U + 22, U + 23] s).ch c_4 (by simp)).fr c_8 hM (by simp)) hM (by omega), (ho).remark, (hb).keep (by omega), (hv2).keep (by omega)⟩
/-- bytes.Equal -/
theorem c_beq {xa : Option Addr} {xn : Nat} (xc : Nat) {l : List UInt8} {τx : Nat} {ya : Option Addr} {yn : Nat} (yc : Nat) {m : List UInt8} {τy : Nat} {s : TH} (hx : Sl s xa (bvs l) τx) (hn : l.length = xn) (h0 : xa = none → xn = 0) (hy : Sl s ya (bvs m) τy) (hm : m.length = yn) (g0 : ya = none → yn = 0) : TRet Tryz.prog 56 #[.slice xa xn xc, .slice ya yn yc] s fun v s' => v = .bool (decide (l = m)) ∧ Ch [] s s' := by
  refine F56_calls _ _ _ _ _ _  ?_
  unfold F56
  refine conv_bs u38 u5 (by kernel_rfl) hx hn h0 ?_
  refine dStr_i ?_
  refine conv_bs u38 u5 (by kernel_rfl) hy hm g0 ?_
  refine dStr_i ?_
  refine ret_t ?_
  exact ⟨ret_b (by simp only [ByteArray.toList_mk]; by_cases h : l = m <;> simp [h]), (Ch.refl [] s)⟩
set_option maxRecDepth 100000 in
/-- slices.EqualFunc[[][]byte,[][]byte,[]byte,[]byte] -/
theorem c_eqrows {xa : Option Addr} (xc : Nat) {hs : List Hd} {τx σx : Nat} {ya : Option Addr} (yc n : Nat) {gs : List Hd} {τy σy : Nat} {bs : List (List UInt8)} (s : TH) (hx : Sl s xa (hs.flatMap hd1) τx) (hy : Sl s ya (gs.flatMap hd1) τy) (hb : BRel s σx hs bs) (gb : BRel s σy gs bs) (hn : bs.length = n) (hn2 : n ≤ 2048) : TRet Tryz.prog 100 #[.slice xa n xc, .slice ya n yc, .func (.func 56) #[] #[]] s fun v s' => v = .bool true ∧ Ch [] s s' := by
  have hl1 := hb.len
  have hl2 := gb.len
  refine F100_calls _ _ _ _ _ _ _ _ _  ?_
  unfold F100
  refine sB_nd (fun hsB1 => by exfalso; omega) (fun hsB1 => ?_)
  refine ⟨fun vs H' => ∃ s' : TH, s'.h = H' ∧ ∃ i, vs = [.int .i64 i] ∧ Ch [] s s' ∧ (∃ kk : Nat, i = kk ∧ kk ≤ n), fun vs H' => match vs with | [.int .i64 i] => ((n : Int) - i).toNat | _ => 0, ⟨s, rfl, _, rfl, Ch.refl _ _, ?_⟩, ?_⟩
  ·
    exact ⟨0, rfl, by omega⟩
  ·
    intro i _ _ _ _ _ _ _ _ _ _ _ _ _ _ _ _ _ _ H_ hI_2
    obtain ⟨s_1, rfl, i_, hvs, c_3, kk, rfl, hk⟩ := hI_2
    cases hvs
    have z_4 := c_3.size
    refine sB_d (fun hsB2 => ?_) (fun hsB2 => ?_)
    ·
      obtain ⟨p, hp⟩ : ∃ p, hs[kk]? = some p := ⟨hs[kk]'(by omega), by simp⟩
      obtain ⟨q, hq⟩ : ∃ q, gs[kk]? = some q := ⟨gs[kk]'(by omega), by simp⟩
      obtain ⟨bb, hbb⟩ : ∃ b, bs[kk]? = some b := ⟨bs[kk]'(by omega), by simp⟩
      obtain ⟨a, rfl⟩ := hx.some (fun e => by have := bcell hp; rw [e] at this; simp at this)
      obtain ⟨a2, rfl⟩ := hy.some (fun e => by have := bcell hq; rw [e] at this; simp at this)
      refine nz_i ?_
      refine ask_t (by omega) ?_
      have h_5 := hx.mv c_3 (tagn (by simp))
      refine ld_sl h_5 (by rw [Int.toNat_natCast, Nat.mul_one]; exact bcell hp) ?_
      refine dSl_i ?_
      refine nz_i ?_
      refine ask_t (by omega) ?_
      have h_6 := hy.mv c_3 (tagn (by simp))
      refine ld_sl h_6 (by rw [Int.toNat_natCast, Nat.mul_one]; exact bcell hq) ?_
      refine dSl_i ?_
      refine gB_i rfl ?_
      have h_7 := hb.mv c_3 (tagn (by simp))
      have h_8 := gb.mv c_3 (tagn (by simp))
      refine tcall (c_beq _ _ ((h_7).at_ _ _ _ hp hbb).sl ((h_7).at_ _ _ _ hp hbb).len (fun h => by obtain ⟨y, hy⟩ := ((h_7).at_ _ _ _ hp hbb).ne; rw [h] at hy; cases hy) ((h_8).at_ _ _ _ hq hbb).sl ((h_8).at_ _ _ _ hq hbb).len (fun h => by obtain ⟨y, hy⟩ := ((h_8).at_ _ _ _ hq hbb).ne; rw [h] at hy; cases hy)) ?_
      rintro v_10 s_9 ⟨rfl, c_12⟩
      have z_13 := c_12.size
      refine dBl_i ?_
      refine sB_nd (fun hsB3 => ?_) (fun hsB3 => ?_)
      ·
        refine ret_t ?_
        exact absurd rfl hsB3
      ·
        refine wr_t (by omega) ?_
        refine ⟨⟨s_9, rfl, _, rfl, (((Ch.refl [] s).ch c_3 (by simp)).ch c_12 (by simp)), ?_⟩, ?_⟩
        ·
          exact ⟨kk + 1, by omega, by omega⟩
        ·
          simp only []; omega
    ·
      refine ret_t ?_
      exact ⟨rfl, ((Ch.refl [] s).ch c_3 (by simp))⟩
/-- bollard/bollardplain.SameImage -/
theorem c_same {xa : Option Addr} (xc : Nat) {hs : List Hd} {τx σx : Nat} {ya : Option Addr} (yc n m : Nat) {gs : List Hd} {τy σy : Nat} {bs : List (List UInt8)} (s : TH) (hx : Sl s xa (hs.flatMap hd1) τx) (hy : Sl s ya (gs.flatMap hd1) τy) (hb : BRel s σx hs bs) (gb : BRel s σy gs bs) (hn : bs.length = n) (hm : bs.length = m) (hn2 : n ≤ 2048) : TRet Tryz.prog 46 #[.slice xa n xc, .slice ya m yc] s fun v s' => v = .bool true ∧ Ch [] s s' := by
  subst hn
  subst hm
  refine F46_calls _ _ _ _ _ _  ?_
  unfold F46
  refine tcall (c_eqrows xc yc _ _ hx hy hb gb rfl hn2) ?_
  rintro v_2 s_1 ⟨rfl, c_4⟩
  have z_5 := c_4.size
  refine dBl_i ?_
  refine ret_t ?_
  exact ⟨rfl, ((Ch.refl [] s).ch c_4 (by simp))⟩
theorem pend_free {P : PatchM} (ok : POk P) (b : Int) : P.pend (P.free b) = P.free b :=
  srt_ext (ok.asrt.sublist List.filter_sublist) (free_srt ok b) fun i => by
    unfold PatchM.pend
    rw [List.mem_filter]
    constructor
    · intro h; simpa using h.2
    · intro h; exact ⟨of_sub (free_sub h), by simpa using h⟩
theorem doneP_free {P : PatchM} (ok : POk P) (b : Int) : P.doneP (P.free b) = (P.fin (P.free b), 0) := by
  unfold PatchM.doneP
  rw [pend_free ok b, if_neg, if_pos]
  · refine List.all_eq_true.2 fun i hi => ?_
    unfold PatchM.closed
    cases hx : P.find i with
    | none => rfl
    | some x => exact List.all_eq_true.2 fun n hn => by simpa using free_closed hi hx n hn
  · intro h
    obtain ⟨i, hi, h2⟩ := List.any_eq_true.1 h
    have h3 := of_sub (free_sub hi)
    unfold PatchM.all at h3
    obtain ⟨x, hx, rfl⟩ := List.mem_map.1 h3
    have := ok.rng x hx
    unfold PatchM.knows at h2
    simp at h2
    omega
theorem ready_has {V : VolM} (has : ∀ x ∈ V.P.l, V.D.has x.blk) {b : Int} (hb : b ∈ V.ready) : V.D.has b := by
  obtain ⟨x, hx, rfl⟩ := mem_blocks.1 (List.mem_filter.1 hb).1
  exact has x hx
theorem ready_free {V : VolM} {b : Int} (hb : b ∈ V.ready) : V.P.free b ≠ [] ∧ V.going b = false := by
  have h := (List.mem_filter.1 hb).2
  cases hg : V.going b with
  | true => rw [hg] at h; simp at h
  | false =>
    refine ⟨fun e => ?_, rfl⟩
    rw [e, hg] at h; cases h
theorem write_ready {V : VolM} (has : ∀ x ∈ V.P.l, V.D.has x.blk) {b : Int} (hb : b ∈ V.ready) (hw : V.way.length < 64) : V.write b = (V.sent b, 0) := by
  obtain ⟨h1, h2⟩ := ready_free hb
  unfold VolM.write
  rw [if_neg (by simpa using ready_has has hb), if_neg (by rw [h2]; simp), if_neg h1, if_neg (by omega)]
theorem compl_t {V : VolM} (pok : POk V.P) (hw : V.way = []) (b : Int) : (V.sent b).compl 0 true = ((V.sent b).landed 0 ⟨b, V.plan b, V.P.free b⟩, 0) := by
  have e : (V.sent b).way = [(V.D.last + 1, ⟨b, V.plan b, V.P.free b⟩)] := by show V.way ++ _ = _; rw [hw]; rfl
  unfold VolM.compl
  rw [if_neg (by rw [e]; simp), e]
  show (_, ((V.sent b).P.doneP (V.P.free b)).2) = _
  rw [show (V.sent b).P = V.P from rfl, doneP_free pok]
  rfl
theorem now_landed {V : VolM} (ok : VOk V) (pok : POk V.P) (ov : POv V.P) (k : Nat) {b c : Int} (hb : V.D.has b) (hc : V.D.has c) : ((V.sent b).landed k ⟨b, V.plan b, V.P.free b⟩).now c = V.now c := by
  have e1 : ((V.sent b).landed k ⟨b, V.plan b, V.P.free b⟩).P = V.P.fin (V.P.free b) := by show (V.P.doneP (V.P.free b)).1 = _; rw [doneP_free pok]
  have e2 : ((V.sent b).landed k ⟨b, V.plan b, V.P.free b⟩).blk c = (V.D.blocks.set b.toNat (V.plan b)).getD c.toNat [] := rfl
  unfold VolM.now
  rw [e1, e2]
  unfold DiskM.has at hb hc
  by_cases h : c = b
  · subst h
    rw [List.getD_eq_getElem?_getD, List.getElem?_set_self (by omega)]
    exact now_fin pok ov c (blk_len ok hb)
  · rw [List.getD_eq_getElem?_getD, List.getElem?_set_ne (by omega), ← List.getD_eq_getElem?_getD]
    exact now_fin_ne pok b h _
theorem landed_has {V : VolM} {k : Nat} {b c : Int} {w : WayM} : ((V.sent b).landed k w).D.has c ↔ V.D.has c := by
  show (0 ≤ c ∧ c < ((V.D.blocks.set w.blk.toNat w.by_).length : Int)) ↔ (0 ≤ c ∧ c < (V.D.blocks.length : Int))
  rw [List.length_set]
theorem landed_l {V : VolM} (pok : POk V.P) {k : Nat} {b : Int} : ((V.sent b).landed k ⟨b, V.plan b, V.P.free b⟩).P = V.P.fin (V.P.free b) := by show (V.P.doneP (V.P.free b)).1 = _; rw [doneP_free pok]
theorem fin_less {P : PatchM} {l : List Int} {i : Int} (h : i ∈ l) (ha : i ∈ P.all) : (P.fin l).l.length < P.l.length := by
  obtain ⟨x, hx, rfl⟩ := List.mem_map.1 ha
  show (P.l.filter _).length < P.l.length
  rcases Nat.lt_or_eq_of_le (List.length_filter_le (fun x => !decide (x.id ∈ l)) P.l) with h2 | h2
  · exact h2
  · have h3 := (List.length_filter_eq_length_iff.1 h2) x hx
    simp [h] at h3
theorem blocks_some {P : PatchM} : P.blocks = [] ↔ P.l = [] := by
  constructor
  · intro h
    cases e : P.l with
    | nil => rfl
    | cons x l =>
      have : x.blk ∈ P.blocks := mem_blocks.2 ⟨x, by rw [e]; simp, rfl⟩
      rw [h] at this; cases this
  · intro h
    cases e : P.blocks with
    | nil => rfl
    | cons b l =>
      obtain ⟨x, hx, _⟩ := mem_blocks.1 (show b ∈ P.blocks by rw [e]; simp)
      rw [h] at hx; cases hx
/-- one write behind another: what is read stays -/
structure NowI (V0 V : VolM) : Prop where
  way : V.way = []
  bl : V.D.blocks.length = V0.D.blocks.length
  ov : POv V.P
  has : ∀ x ∈ V.P.l, V.D.has x.blk
  now : ∀ b, V0.D.has b → V.now b = V0.now b
theorem has_len {V V' : VolM} (h : V.D.blocks.length = V'.D.blocks.length) {b : Int} : V.D.has b ↔ V'.D.has b := by unfold DiskM.has; rw [h]
theorem NowI.alls {V0 V : VolM} (h : NowI V0 V) : V.alls = V0.alls := by
  unfold VolM.alls
  rw [h.bl]
  refine List.map_congr_left fun k hk => h.now k ?_
  rw [List.mem_range] at hk
  exact ⟨by omega, by omega⟩
theorem NowI.ticks {V0 V : VolM} (h : NowI V0 V) (k : Int) : NowI V0 (V.ticksN k) := ⟨h.way, h.bl, h.ov, h.has, h.now⟩
theorem NowI.lost {V0 V : VolM} (h : NowI V0 V) (b k : Int) : NowI V0 (((V.sent b).ticksN k).lost 0) := ⟨by show (V.way ++ _).eraseIdx 0 = []; rw [h.way]; rfl, h.bl, h.ov, h.has, h.now⟩
theorem NowI.landed {V0 V : VolM} (h : NowI V0 V) (ok : VOk V) (pok : POk V.P) {b : Int} (hb : b ∈ V.ready) (k : Int) : NowI V0 (((V.sent b).ticksN k).landed 0 ⟨b, V.plan b, V.P.free b⟩) ∧ (((V.sent b).ticksN k).landed 0 ⟨b, V.plan b, V.P.free b⟩).P.l.length < V.P.l.length := by
  have e : ((V.sent b).landed 0 ⟨b, V.plan b, V.P.free b⟩).P = V.P.fin (V.P.free b) := landed_l pok
  refine ⟨⟨by show (V.way ++ _).eraseIdx 0 = []; rw [h.way]; rfl, ?_, ?_, ?_, ?_⟩, ?_⟩
  · show (V.D.blocks.set _ _).length = _; rw [List.length_set]; exact h.bl
  · show POv ((V.sent b).landed 0 ⟨b, V.plan b, V.P.free b⟩).P; rw [e]; exact h.ov.fin _
  · intro x hx
    have hx : x ∈ ((V.sent b).landed 0 ⟨b, V.plan b, V.P.free b⟩).P.l := hx
    rw [e] at hx
    exact landed_has.2 (h.has x (List.mem_filter.1 hx).1)
  · intro c hc
    exact (now_landed ok pok h.ov 0 (ready_has h.has hb) ((has_len h.bl).2 hc)).trans (h.now c hc)
  · show ((V.sent b).landed 0 ⟨b, V.plan b, V.P.free b⟩).P.l.length < _
    rw [e]
    obtain ⟨i, l, e2⟩ := List.exists_cons_of_ne_nil (ready_free hb).1
    have hi : i ∈ V.P.free b := by rw [e2]; simp
    exact fin_less hi (of_sub (free_sub hi))
theorem compl_tt {V : VolM} (pok : POk V.P) (hw : V.way = []) (b k : Int) : ((V.sent b).ticksN k).compl 0 true = (((V.sent b).ticksN k).landed 0 ⟨b, V.plan b, V.P.free b⟩, 0) := by
  have e : ((V.sent b).ticksN k).way = [(V.D.last + 1, ⟨b, V.plan b, V.P.free b⟩)] := by show V.way ++ _ = _; rw [hw]; rfl
  unfold VolM.compl
  rw [if_neg (by rw [e]; simp), e]
  show (_, ((V.sent b).P.doneP (V.P.free b)).2) = _
  rw [show (V.sent b).P = V.P from rfl, doneP_free pok]
  rfl
theorem compl_ff {V : VolM} (hw : V.way = []) (b k : Int) : ((V.sent b).ticksN k).compl 0 false = (((V.sent b).ticksN k).lost 0, 4) := by
  have e : ((V.sent b).ticksN k).way = [(V.D.last + 1, ⟨b, V.plan b, V.P.free b⟩)] := by show V.way ++ _ = _; rw [hw]; rfl
  unfold VolM.compl
  rw [if_neg (by rw [e]; simp), e]
  rfl
theorem VolL.vok {s : TH} {v d U : Nat} {V : VolM} {lk : Int} (h : VolL s v d U V lk) : VOk V := h.ok
theorem BegI.now {V : VolM} {bs : List (List UInt8)} (h : BegI V bs) : NowI V V := ⟨h.way, rfl, h.ov, h.has, fun _ _ => rfl⟩
theorem imgs_n {n : Nat} : (imgs n).length = n := by simp [imgs]
theorem BegI.len {V : VolM} {x : Int} (h : BegI V (imgs (nblk8 x))) : 1 ≤ V.D.blocks.length ∧ V.D.blocks.length ≤ 8 := by
  rw [h.D]; show 1 ≤ (imgs (nblk8 x)).length ∧ (imgs (nblk8 x)).length ≤ 8; rw [imgs_n]; exact nblk8_le x
theorem NowI.compl {V0 V : VolM} (h : NowI V0 V) (ok : VOk V) (pok : POk V.P) {b : Int} (hb : b ∈ V.ready) (k : Int) (f : Bool) :
    (((V.sent b).ticksN k).compl 0 (!f)).2 = (if f = true then 4 else 0) ∧ NowI V0 (((V.sent b).ticksN k).compl 0 (!f)).1 ∧ (((V.sent b).ticksN k).compl 0 (!f)).1.P.l.length ≤ V.P.l.length ∧ (f = false → (((V.sent b).ticksN k).compl 0 (!f)).1.P.l.length < V.P.l.length) ∧ (((V.sent b).ticksN k).compl 0 (!f)).1.n = V.n + 1 + k := by
  cases f with
  | true =>
    rw [show (!true) = false from rfl, compl_ff h.way]
    exact ⟨rfl, h.lost b k, Nat.le_refl _, (fun e => by cases e), rfl⟩
  | false =>
    rw [show (!false) = true from rfl, compl_tt pok h.way]
    have := h.landed ok pok hb k
    exact ⟨rfl, this.1, Nat.le_of_lt this.2, fun _ => this.2, rfl⟩
theorem alls_len (V : VolM) : V.alls.length = V.D.blocks.length := by simp [VolM.alls]
end Go.Proofs.YtngploohhmfaiaaGreat.E
/- Contracts of functions. -/
namespace Go.Proofs.YtngploohhmfaiaaGreat.E
open Go Go.Proofs Go.RowKit Go.Maps Go.Shelf Go.Sort
set_option linter.unusedVariables false
set_option linter.unusedSimpArgs false
theorem nodup_len {l : List Int} {n : Nat} (h : l.Nodup) (hr : ∀ x ∈ l, 0 ≤ x ∧ x < n) : l.length ≤ n := by
  have hp := List.mergeSort_perm l (fun x y => decide (x ≤ y))
  have h1 : (l.mergeSort fun x y => decide (x ≤ y)).Pairwise (· ≤ ·) := by
    have := List.pairwise_mergeSort (le := fun x y : Int => decide (x ≤ y)) (fun a b c h1 h2 => by simp at *; omega) (fun a b => by simp; omega) l
    exact this.imp fun h => by simpa using h
  have h2 : (l.mergeSort fun x y => decide (x ≤ y)).Nodup := hp.nodup_iff.2 h
  have h3 : (l.mergeSort fun x y => decide (x ≤ y)).Pairwise (· < ·) := (h1.and h2).imp fun ⟨a, b⟩ => by omega
  have h4 := rise_len _ 0 ((n : Int) - 1) h3 (fun x hx => by have := hr x (hp.mem_iff.1 hx); omega) (by omega)
  rw [hp.length_eq] at h4
  omega
theorem kfind_snoc (l : List (Int × List UInt8)) (b c : Int) (y : List UInt8) : kfind (l ++ [(b, y)]) c = match kfind l c with
    | some z => some z
    | none => if b = c then some y else none := by
  unfold kfind
  rw [List.find?_append]
  cases h : l.find? fun e => e.1 == c with
  | some z => rfl
  | none =>
    simp only [Option.none_or, Option.map_none]
    rw [List.find?_cons]
    by_cases hb : b = c
    · rw [show ((b, y).1 == c) = true by simpa using hb, if_pos hb]; rfl
    · rw [show ((b, y).1 == c) = false by simpa using hb, if_neg hb]; rfl
theorem kfind_none {l : List (Int × List UInt8)} {b : Int} (h : kfind l b = none) : b ∉ l.map (·.1) := fun hm => by
  obtain ⟨e, he, rfl⟩ := List.mem_map.1 hm
  unfold kfind at h
  rw [Option.map_eq_none_iff, List.find?_eq_none] at h
  exact h e he (by simp)
structure FrI (W : Int → List UInt8) (N : Nat) (V : VolM) : Prop where
  way : V.way = []
  on : V.old.on = true
  br : V.old.broken = false
  room : V.old.room = N
  kn : (V.old.kept.map (·.1)).Nodup
  kh : ∀ e ∈ V.old.kept, V.D.has e.1
  ov : POv V.P
  has : ∀ x ∈ V.P.l, V.D.has x.blk
  bl : V.D.blocks.length = N
  old : ∀ b, V.D.has b → V.oldb b = W b
theorem FrI.klen {W : Int → List UInt8} {N : Nat} {V : VolM} (h : FrI W N V) : V.old.kept.length ≤ N := by
  have := nodup_len h.kn (n := N) fun x hx => by
    obtain ⟨e, he, rfl⟩ := List.mem_map.1 hx
    have := h.kh e he
    unfold DiskM.has at this
    rw [h.bl] at this; exact this
  simpa using this
theorem FrI.ticks {W : Int → List UInt8} {N : Nat} {V : VolM} (h : FrI W N V) (k : Int) : FrI W N (V.ticksN k) := ⟨h.way, h.on, h.br, h.room, h.kn, h.kh, h.ov, h.has, h.bl, h.old⟩
theorem FrI.start {V : VolM} {bs : List (List UInt8)} (h : BegI V bs) (k : Int) (hl : V.D.blocks.length ≤ 8) : ((V.ticksN k).freeze (V.D.blocks.length : Int)).2 = 0 ∧ FrI V.now V.D.blocks.length ((V.ticksN k).freeze (V.D.blocks.length : Int)).1 ∧ ((V.ticksN k).freeze (V.D.blocks.length : Int)).1.n = k ∧ ((V.ticksN k).freeze (V.D.blocks.length : Int)).1.P = V.P := by
  have e : (V.ticksN k).freeze (V.D.blocks.length : Int) = ({ V.ticksN k with old := ⟨true, false, V.D.blocks.length, []⟩ }, 0) := by
    unfold VolM.freeze
    rw [if_neg (by show ¬ V.old.on = true; rw [h.old]; simp), if_neg (by omega)]
  rw [e]
  exact ⟨rfl, ⟨h.way, rfl, rfl, rfl, List.nodup_nil, fun e he => (List.not_mem_nil he).elim, h.ov, h.has, rfl, fun b hb => rfl⟩, by show V.n + k = k; rw [h.n]; omega, rfl⟩
theorem now_ne {V V' : VolM} {b o : Int} {y : List UInt8} {needs : List Int} (pok : POk V.P) (pok2 : POk V'.P) (hD : V'.D = V.D) (e : V'.P.l = V.P.l ++ [V.P.newP b o y needs]) {c : Int} (hc : c ≠ b) : V'.now c = V.now c := by
  unfold VolM.now
  rw [over_of pok2, over_of pok, e, add_of_ne hc]
  unfold VolM.blk; rw [hD]
theorem FrI.chd {W : Int → List UInt8} {N : Nat} {V V' : VolM} (h : FrI W N V) (pok : POk V.P) (hl : V.P.last < 1000000) (c : Chd V V') : FrI W N V' ∧ V'.P.last = V.P.last + 1 ∧ V'.n ≤ V.n + 1 ∧ (V'.P.undo V.P.last).2 = 0 ∧ FrI W N { V' with P := (V'.P.undo V.P.last).1 } ∧ (V'.P.undo V.P.last).1.last = V.P.last := by
  obtain ⟨⟨b, o, y, needs, hb, hf, hk, rfl, e⟩⟩ := c
  have pok2 : POk (V.P.add b o y needs).1 := by rw [e]; exact pok.add hf hl
  have hlst := pok.lst
  have hdn : ¬ ((V.P.done.any fun j => decide (j > V.P.last)) = true) := fun hh => by
    obtain ⟨j, hj, h2⟩ := List.any_eq_true.1 hh
    have := pok.dn j hj
    simp at h2; omega
  have hun : (V.P.add b o y needs).1.undo V.P.last = (V.P, 0) := by
    rw [e]
    unfold PatchM.undo
    rw [if_neg (by simp only []; omega), if_neg hdn]
    have : (V.P.l ++ [V.P.newP b o y needs]).filter (fun x => decide (x.id ≤ V.P.last)) = V.P.l := by
      rw [List.filter_append, List.filter_eq_self.2 fun x hx => by have := pok.rng x hx; simpa using this.2]
      rw [show ([V.P.newP b o y needs].filter fun x => decide (x.id ≤ V.P.last)) = [] from by
        rw [List.filter_cons, if_neg (by show ¬ decide (V.P.last + 1 ≤ V.P.last) = true; simp; omega)]; rfl, List.append_nil]
    simp only [this]
  have hfst : V.first b = (kfind V.old.kept b).isNone := by unfold VolM.first; rw [h.on, h.br]; rfl
  have hnow : ∀ n K c, c ≠ b → ({ V with n := n, P := (V.P.add b o y needs).1, old := K } : VolM).now c = V.now c := fun n K c hc => now_ne (V := V) (V' := { V with n := n, P := (V.P.add b o y needs).1, old := K }) (b := b) (o := o) (y := y) (needs := needs) pok pok2 rfl (by show (V.P.add b o y needs).1.l = _; rw [e]) hc
  have hov : POv (V.P.add b o y needs).1 := by rw [e]; exact POv.add pok h.ov hf
  have hhas : ∀ x ∈ (V.P.add b o y needs).1.l, V.D.has x.blk := fun x hx => by
    rw [e] at hx
    rcases List.mem_append.1 hx with hx | hx
    · exact h.has x hx
    · rw [List.mem_singleton] at hx; subst hx; exact hb
  have hlast : (V.P.add b o y needs).1.last = V.P.last + 1 := by rw [e]
  have hticks : V.ticks b ≤ V.n + 1 := by unfold VolM.ticks; split <;> omega
  -- the kept ones
  have key : (V.keep b).on = true ∧ (V.keep b).broken = false ∧ (V.keep b).room = N ∧ ((V.keep b).kept.map (·.1)).Nodup ∧ (∀ x ∈ (V.keep b).kept, V.D.has x.1) ∧ (∀ c, c ≠ b → kfind (V.keep b).kept c = kfind V.old.kept c) ∧ (∀ d, (kfind (V.keep b).kept b).getD d = V.oldb b) := by
    unfold VolM.keep
    cases hk2 : kfind V.old.kept b with
    | some z =>
      rw [if_neg (by rw [hfst, hk2]; simp)]
      exact ⟨h.on, h.br, h.room, h.kn, h.kh, fun _ _ => rfl, fun d => by unfold VolM.oldb; rw [hk2]; rfl⟩
    | none =>
      have hnd : (V.old.kept.map (·.1) ++ [b]).Nodup := List.nodup_append.2 ⟨h.kn, by simp, fun x hx y hy => by rw [List.mem_singleton] at hy; subst hy; exact fun e => kfind_none hk2 (e ▸ hx)⟩
      have hln := nodup_len hnd (n := N) fun x hx => by
        rcases List.mem_append.1 hx with hx | hx
        · obtain ⟨e, he, rfl⟩ := List.mem_map.1 hx
          have := h.kh e he
          unfold DiskM.has at this; rw [h.bl] at this; exact this
        · rw [List.mem_singleton] at hx; subst hx
          unfold DiskM.has at hb; rw [h.bl] at hb; exact hb
      rw [List.length_append, List.length_map, List.length_singleton] at hln
      rw [if_pos (by rw [hfst, hk2]; rfl), if_pos (by rw [h.room]; omega)]
      refine ⟨h.on, h.br, h.room, by rw [List.map_append]; exact hnd, fun x hx => ?_, fun c hc => ?_, fun d => ?_⟩
      · rcases List.mem_append.1 hx with hx | hx
        · exact h.kh x hx
        · rw [List.mem_singleton] at hx; subst hx; exact hb
      · show kfind (V.old.kept ++ [(b, V.now b)]) c = _
        rw [kfind_snoc]
        cases kfind V.old.kept c with
        | some z => rfl
        | none => show (if b = c then _ else _) = _; rw [if_neg fun e => hc e.symm]
      · show (kfind (V.old.kept ++ [(b, V.now b)]) b).getD d = _
        rw [kfind_snoc, hk2]
        simp only [if_true, Option.getD_some]
        unfold VolM.oldb; rw [hk2]; rfl
  obtain ⟨k1, k2, k3, k4, k5, k6, k7⟩ := key
  refine ⟨⟨h.way, k1, k2, k3, k4, k5, hov, hhas, h.bl, fun c hc => ?_⟩, hlast, hticks, by show ((V.P.add b o y needs).1.undo V.P.last).2 = 0; rw [hun], ?_, by show ((V.P.add b o y needs).1.undo V.P.last).1.last = _; rw [hun]⟩
  · rw [← h.old c hc]
    by_cases e : c = b
    · subst e; exact k7 _
    · show (kfind (V.keep b).kept c).getD _ = (kfind V.old.kept c).getD _
      rw [k6 c e, hnow _ _ c e]
  · show FrI W N { V with n := V.ticks b, P := ((V.P.add b o y needs).1.undo V.P.last).1, old := V.keep b }
    rw [hun]
    refine ⟨h.way, k1, k2, k3, k4, k5, h.ov, h.has, h.bl, fun c hc => ?_⟩
    rw [← h.old c hc]
    by_cases e : c = b
    · subst e; exact k7 _
    · show (kfind (V.keep b).kept c).getD _ = (kfind V.old.kept c).getD _
      rw [k6 c e]; rfl
theorem FrI.landed {W : Int → List UInt8} {N : Nat} {V : VolM} (h : FrI W N V) (ok : VOk V) (pok : POk V.P) {b : Int} (hb : b ∈ V.ready) : V.write b = (V.sent b, 0) ∧ ((V.sent b).compl 0 true).2 = 0 ∧ FrI W N ((V.sent b).compl 0 true).1 ∧ ((V.sent b).compl 0 true).1.P.last = V.P.last ∧ ((V.sent b).compl 0 true).1.n = V.n + 1 := by
  have e : ((V.sent b).landed 0 ⟨b, V.plan b, V.P.free b⟩).P = V.P.fin (V.P.free b) := landed_l pok
  rw [compl_t pok h.way]
  refine ⟨write_ready h.has hb (by rw [h.way]; decide), rfl, ⟨by show (V.way ++ _).eraseIdx 0 = []; rw [h.way]; rfl, h.on, h.br, h.room, h.kn, fun x hx => landed_has.2 (h.kh x hx), by show POv ((V.sent b).landed 0 _).P; rw [e]; exact h.ov.fin _, ?_, by show (V.D.blocks.set _ _).length = _; rw [List.length_set]; exact h.bl, fun c hc => ?_⟩, by show ((V.sent b).landed 0 _).P.last = _; rw [e]; rfl, rfl⟩
  · intro x hx
    have hx : x ∈ ((V.sent b).landed 0 ⟨b, V.plan b, V.P.free b⟩).P.l := hx
    rw [e] at hx
    exact landed_has.2 (h.has x (List.mem_filter.1 hx).1)
  · have hc2 := landed_has.1 hc
    rw [← h.old c hc2]
    show (kfind V.old.kept c).getD (((V.sent b).landed 0 ⟨b, V.plan b, V.P.free b⟩).now c) = _
    rw [now_landed ok pok h.ov 0 (ready_has h.has hb) hc2]; rfl
theorem alls_get {V : VolM} {k : Nat} (h : k < V.D.blocks.length) : V.alls[k]? = some (V.now k) := by unfold VolM.alls; simp [h]
/-- bollard/bollardlaw09.VolumeFrozen -/
theorem w_vfroz (U : Nat) (x : Int) {a : Option Addr} {n : Nat} (c : Nat) {ls : List DoV} {a2 : Option Addr} {n2 : Nat} (c2 : Nat) {ls2 : List DoV} {τ : Nat} {s : TH} (hU : 10 ≤ U) (hq : Sl s a (ls.flatMap dov9) τ) (hd : Dos s τ ls) (hln : ls.length = n) (hn : n ≤ 17592186043904) (ha : a = none → n = 0) (hq2 : Sl s a2 (ls2.flatMap dov9) τ) (hd2 : Dos s τ ls2) (hln2 : ls2.length = n2) (hn2 : n2 ≤ 17592186043904) (ha2 : a2 = none → n2 = 0) (hτ : τ < U ∨ U + 50 ≤ τ) : TRet Tryz.prog 12 #[.int .i64 x, .slice a n c, .slice a2 n2 c2] s fun v s' => v = .bool true ∧ Ch [U, U + 1, U + 3, U + 10, U + 11, U + 12, U + 13, U + 14, U + 20, U + 21, U + 22, U + 23, U + 30, U + 31, U + 32] s s' := by
  obtain ⟨M, hM, hM0, hMa, hMb, hMc, hMd, hMe, hMf⟩ := fresh6 s τ (U + 60) 0 0 0 0
  refine F12_calls _ _ _ _ _ _ _  ?_
  unfold F12
  refine tcall (c_begun U _ _ (by omega) hq hd (by omega) (by omega) ha (by omega)) ?_
  rintro v_2 s_1 ⟨rcall1, dcall1, Vcall1, rfl, c_4, call1a, call1b, call1c⟩
  have z_5 := c_4.size
  have hB := call1a
  have hl0 := hB.len
  have hpl := (call1c).pok.lenl
  refine dT3 ?_
  refine dPtr_i ?_
  refine dPtr_i ?_
  refine dBl_i ?_
  refine sB_f (by rfl) ?_
  refine tcall (c_vall _ _ _ _ (M + 1) (M + 2) _ (by omega) call1c (by rw [hB.n]; omega) (by omega)) ?_
  rintro v_7 s_6 ⟨acall2, ccall2, hscall2, rfl, c_9, call2a, call2b, call2c⟩
  have z_10 := c_9.size
  refine dSl_i ?_
  refine tcall (c_VBlocks2 _ _ _ _ _ (by omega) call2c) ?_
  rintro v_12 s_11 ⟨rfl, c_14, call3a⟩
  have z_15 := c_14.size
  refine dInt_i ?_
  refine tcall (c_VFreeze _ _ _ _ _ _ (by omega) call3a) ?_
  rintro v_17 s_16 ⟨rfl, c_19, call4a⟩
  have z_20 := c_19.size
  obtain ⟨hS1, hS2, hS3, hS4⟩ := FrI.start hB (Vcall1.D.blocks.length : Int) (by omega)
  rw [show (VolM.freeze (VolM.ticksN Vcall1 (Vcall1.D.blocks.length : Int)) ((VolM.ticksN Vcall1 (Vcall1.D.blocks.length : Int)).D.blocks.length : Int)).2 = 0 from hS1]
  refine dInt_i ?_
  refine sB_f (by rfl) ?_
  refine jn_u ?_
  refine ⟨fun vs H' => ∃ s' : TH, s'.h = H' ∧ ∃ i, vs = [.int .i64 i] ∧ Ch [U, U + 1, U + 3, U + 10, U + 11, U + 12, U + 13, U + 14, U + 20, U + 21, U + 22, U + 23, U + 30, U + 31, U + 32, M + 9] s_16 s' ∧ (∃ (kk : Nat) (V : VolM), i = kk ∧ kk ≤ 31 ∧ kk ≤ n2 ∧ FrI Vcall1.now Vcall1.D.blocks.length V ∧ V.P.last ≤ 41 + kk ∧ V.n ≤ 8 + 10 * kk ∧ VolL s' rcall1 dcall1 U V 0), fun vs H' => match vs with | [.int .i64 i] => ((n2 : Int) - i).toNat | _ => 0, ⟨s_16, rfl, _, rfl, Ch.refl _ _, ?_⟩, ?_⟩
  ·
    exact ⟨0, _, rfl, by omega, by omega, hS2, by rw [hS4]; omega, by rw [hS3]; omega, call4a⟩
  ·
    intro i _ _ _ _ _ _ _ _ _ _ _ _ _ _ _ _ _ _ _ _ _ _ _ _ _ _ _ _ _ _ _ _ _ _ _ _ _ _ _ _ _ _ _ _ _ _ _ _ _ _ _ _ _ _ _ _ _ _ _ _ _ _ _ _ _ _ _ _ _ _ _ _ _ _ _ _ _ _ _ H_ hI_22
    obtain ⟨s_21, rfl, i_, hvs, c_23, kk, V, rfl, hk, hkn, hF, hk2, hk3, hv⟩ := hI_22
    cases hvs
    have z_24 := c_23.size
    refine sB_d (fun hsB3 => ?_) (fun hsB3 => ?_)
    ·
      obtain ⟨xx, hx⟩ : ∃ xx, ls2[kk]? = some xx := ⟨ls2[kk]'(by omega), by simp⟩
      obtain ⟨a, rfl⟩ := Option.ne_none_iff_exists'.1 (fun e => absurd (ha2 e) (by omega))
      refine nz_i ?_
      refine ask_t (by omega) ?_
      have h_25 := hq2.mv ((((c_4.app c_9).app c_14).app c_19).app c_23) (tagn (by simp <;> omega))
      refine ld_sl h_25 (by rw [Int.toNat_natCast]; exact ecell 0 (by omega) hx) ?_
      refine ld_sl2 h_25 (by rw [Int.toNat_natCast]; exact ecell 1 (by omega) hx) ?_
      refine ld_sl2 h_25 (by rw [Int.toNat_natCast]; exact ecell 2 (by omega) hx) ?_
      refine ld_sl2 h_25 (by rw [Int.toNat_natCast]; exact ecell 3 (by omega) hx) ?_
      refine ld_sl2 h_25 (by rw [Int.toNat_natCast]; exact ecell 4 (by omega) hx) ?_
      refine ld_sl2 h_25 (by rw [Int.toNat_natCast]; exact ecell 5 (by omega) hx) ?_
      refine al_t (M + 9) fun r210 s211 hr210 b_26 c_27 z_28 => ?_
      refine st_t b_26 rfl (by simp) fun s212 b_29 c_30o z_31 => ?_
      have c_30 := on_ch b_26 c_30o
      refine st_t b_29 rfl (by simp) fun s213 b_32 c_33o z_34 => ?_
      have c_33 := on_ch b_29 c_33o
      refine st_t b_32 rfl (by simp) fun s214 b_35 c_36o z_37 => ?_
      have c_36 := on_ch b_32 c_36o
      refine st_t b_35 rfl (by simp) fun s215 b_38 c_39o z_40 => ?_
      have c_39 := on_ch b_35 c_39o
      refine st_t b_38 rfl (by simp) fun s216 b_41 c_42o z_43 => ?_
      have c_42 := on_ch b_38 c_42o
      refine st_t b_41 rfl (by simp) fun s217 b_44 c_45o z_46 => ?_
      have c_45 := on_ch b_41 c_45o
      refine sB_d (fun hsB4 => ?_) (fun hsB4 => ?_)
      ·
        intro _
        intros
        have h_47 := hv.mv ((((((c_27.app c_30).app c_33).app c_36).app c_39).app c_42).app c_45) (rngn50 (by simp <;> omega))
        refine tcall (c_VBroken _ _ _ _ _ (by omega) h_47) ?_
        rintro v_49 s_48 ⟨rfl, c_51, call5a⟩
        have z_52 := c_51.size
        refine dBl_i ?_
        refine sB_n (fun hsB5 => ?_) (fun hsB5 => ?_)
        ·
          refine tcall (c_VKept _ _ _ _ _ (by omega) call5a) ?_
          rintro v_54 s_53 ⟨rfl, c_56, call6a⟩
          have z_57 := c_56.size
          refine dInt_i ?_
          refine tcall (c_VBlocks2 _ _ _ _ _ (by omega) call6a) ?_
          rintro v_59 s_58 ⟨rfl, c_61, call7a⟩
          have z_62 := c_61.size
          refine dInt_i ?_
          refine ret_t ?_
          exact ⟨ret_b (decide_eq_true (by have h1 := hF.klen; have h2 := hF.bl; omega)), ((((((((((((((((Ch.refl [U, U + 1, U + 3, U + 10, U + 11, U + 12, U + 13, U + 14, U + 20, U + 21, U + 22, U + 23, U + 30, U + 31, U + 32] s).ch c_4 (by simp)).ch c_9 (by simp)).ch c_14 (by simp)).ch c_19 (by simp)).fr c_23 hM (by simp)).ch c_27 (by simp)).fr c_30 hM (by simp)).fr c_33 hM (by simp)).fr c_36 hM (by simp)).fr c_39 hM (by simp)).fr c_42 hM (by simp)).fr c_45 hM (by simp)).ch c_51 (by simp)).ch c_56 (by simp)).ch c_61 (by simp))⟩
        ·
          refine ret_t ?_
          exact absurd hF.br (by simp [*])
      ·
        have h_63 := hv.mv ((((((c_27.app c_30).app c_33).app c_36).app c_39).app c_42).app c_45) (rngn50 (by simp <;> omega))
        refine tcall (c_VLast _ _ _ _ _ (by omega) h_63) ?_
        rintro v_65 s_64 ⟨rfl, c_67, call8a⟩
        have z_68 := c_67.size
        refine dInt_i ?_
        refine jn0 (fun s' => Ch [U, U + 1, U + 3, U + 10, U + 11, U + 12, U + 13, U + 14, U + 20, U + 21, U + 22, U + 23, U + 30, U + 31, U + 32, M + 9] s_64 s' ∧ (∃ V2, FrI Vcall1.now Vcall1.D.blocks.length V2 ∧ V2.P.last ≤ 42 + kk ∧ V2.n ≤ 10 + 10 * kk ∧ VolL s' rcall1 dcall1 U V2 0)) ?_ ?_
        ·
          rintro  s_69 ⟨c_70, V2, hG, hg1, hg2, hv2⟩
          have z_71 := c_70.size
          intro _
          intros
          refine ⟨fun vs H' => ∃ s' : TH, s'.h = H' ∧ ∃ i, vs = [.int .i64 i] ∧ Ch [U, U + 20, U + 21, U + 22, U + 23] s_69 s' ∧ (∃ m : Nat, i = m ∧ m ≤ Vcall1.D.blocks.length ∧ VolL s' rcall1 dcall1 U (V2.ticksN m) 0), fun vs H' => match vs with | [.int .i64 i] => ((Vcall1.D.blocks.length : Int) - i).toNat | _ => 0, ⟨s_69, rfl, _, rfl, Ch.refl _ _, ?_⟩, ?_⟩
          ·
            exact ⟨0, rfl, by omega, by have h := hv2; unfold VolM.ticksN; simpa using h⟩
          ·
            intro i _ _ _ _ _ _ _ _ _ _ _ _ _ _ _ _ _ _ _ _ _ _ _ _ H_ hI_73
            obtain ⟨s_72, rfl, i_, hvs, c_74, m, rfl, hm, hv3⟩ := hI_73
            cases hvs
            have z_75 := c_74.size
            refine sB_d (fun hsB6 => ?_) (fun hsB6 => ?_)
            ·
              have h_76 := call2a.mv ((((((((((((c_14.app c_19).app c_23).app c_27).app c_30).app c_33).app c_36).app c_39).app c_42).app c_45).app c_67).app c_70).app c_74) (tagn (by simp <;> omega))
              obtain ⟨a_77, rfl⟩ := h_76.ne_none (by omega)
              refine nz_i ?_
              refine ask_t (by omega) ?_
              have h_78 := call2b.mv ((((((((((((c_14.app c_19).app c_23).app c_27).app c_30).app c_33).app c_36).app c_39).app c_42).app c_45).app c_67).app c_70).app c_74) (tagn (by simp <;> omega))
              have hwl := (h_78).len
              rw [alls_len] at hwl
              obtain ⟨p, hp⟩ : ∃ p, hscall2[m]? = some p := ⟨hscall2[m]'(by omega), by simp⟩
              have hbb := alls_get (V := Vcall1) (k := m) (by omega)
              have hhas : V2.D.has (m : Int) := ⟨by omega, by have := hG.bl; omega⟩
              refine ld_sl (h_76).sl (by rw [Int.toNat_natCast, Nat.mul_one]; exact bcell hp) ?_
              refine dSl_i ?_
              refine tcall (c_VOld _ _ _ _ (M + 5) _ _ (by omega) hv3 (by show V2.n + _ < _; omega) hhas (by omega)) ?_
              rintro v_80 s_79 ⟨c_82, call9a⟩
              have z_83 := c_82.size
              rcases call9a with ⟨hoff, rfl, hvo⟩ | ⟨oa2, oc2, hon2, hbr2, rfl, hvo, hoo⟩
              ·
                (rcases hoff with h | h; exact absurd (h.symm.trans hG.on) (by simp); exact absurd (h.symm.trans hG.br) (by simp))
              ·
                refine dT2 ?_
                refine dSl_i ?_
                refine dInt_i ?_
                refine jn_u ?_
                refine sB_f (by rfl) ?_
                have h_84 := h_78.mv c_82 (tagn (by simp <;> omega))
                refine tcall (c_beq _ _ ((h_84).at_ _ _ _ hp hbb).sl ((h_84).at_ _ _ _ hp hbb).len (fun h => by obtain ⟨y, hy⟩ := ((h_84).at_ _ _ _ hp hbb).ne; rw [h] at hy; cases hy) (hoo).sl (by have := (hoo).1; rw [bvs_len] at this; omega) (fun h => (hoo).none_iff h)) ?_
                rintro v_86 s_85 ⟨rfl, c_88⟩
                have z_89 := c_88.size
                have hdec : decide (Vcall1.now (m : Int) = (V2.ticksN (m : Int)).oldb (m : Int)) = true := decide_eq_true (hG.old _ hhas).symm
                rw [hdec]
                refine dBl_i ?_
                intro _
                intros
                refine dBl_i ?_
                refine sB_f (by rfl) ?_
                refine wr_t (by omega) ?_
                refine ⟨⟨s_85, rfl, _, rfl, ((((Ch.refl [U, U + 20, U + 21, U + 22, U + 23] s_69).ch c_74 (by simp)).ch c_82 (by simp)).ch c_88 (by simp)), ?_⟩, ?_⟩
                ·
                  have h_90 := hvo.mv c_88 (rngn50 (by simp))
                  exact ⟨m + 1, by omega, by omega, by rw [← ticksN_succ]; exact h_90⟩
                ·
                  simp only []; omega
            ·
              refine wr_t (by omega) ?_
              refine ⟨⟨s_72, rfl, _, rfl, ((((((((((((Ch.refl [U, U + 1, U + 3, U + 10, U + 11, U + 12, U + 13, U + 14, U + 20, U + 21, U + 22, U + 23, U + 30, U + 31, U + 32, M + 9] s_16).ch c_23 (by simp)).ch c_27 (by simp)).ch c_30 (by simp)).ch c_33 (by simp)).ch c_36 (by simp)).ch c_39 (by simp)).ch c_42 (by simp)).ch c_45 (by simp)).ch c_67 (by simp)).ch c_70 (by simp)).ch c_74 (by simp)), ?_⟩, ?_⟩
              ·
                exact ⟨kk + 1, _, by omega, by omega, by omega, hG.ticks _, by show V2.P.last ≤ _; omega, by show V2.n + _ ≤ _; omega, hv3⟩
              ·
                simp only []; omega
        ·
          intro K_91 hK_91
          have h_92 := b_44.ch c_67 (by simp <;> omega)
          refine ld_t h_92 rfl ?_
          refine dInt_i ?_
          refine wr_a fun n328 hn328 => ?_
          rw [wrap_u64] at hn328
          refine ask_t (by omega) ?_
          refine nm_a fun n329 hn329 => ?_
          have qn329 := tmod_rng (by omega) (by omega) hn329
          refine wr_t (by omega) ?_
          refine jn_u ?_
          refine sB_d (fun hsB9 => ?_) (fun hsB9 => ?_)
          ·
            intro _
            intros
            refine dBl_i ?_
            refine sB_d (fun hsB10 => ?_) (fun hsB10 => by exfalso; omega)
            refine ld_t h_92 rfl ?_
            refine ld_t h_92 rfl ?_
            refine ld_t h_92 rfl ?_
            refine ld_t h_92 rfl ?_
            refine ld_t h_92 rfl ?_
            refine ld_t h_92 rfl ?_
            have h_93 := hd2.mv ((((((((((((c_4.app c_9).app c_14).app c_19).app c_23).app c_27).app c_30).app c_33).app c_36).app c_39).app c_42).app c_45).app c_67) (tagn (by simp <;> omega))
            refine tcall (c_vlchange _ _ _ _ _ _ _ _ _ _ _ _ _ _ _ _ τ _ (by omega) call8a ((h_93).at_ xx (List.mem_of_getElem? hx)) (by omega) (by omega) (by omega)) ?_
            rintro v_95 s_94 ⟨Vcall11, rfl, c_97, call11a, call11b⟩
            have z_98 := c_97.size
            obtain ⟨hF1, hF2, hF3, hF4, hF5, hF6⟩ := hF.chd hv.pok (by omega) (by assumption)
            refine dBl_i ?_
            refine sB_f (by rfl) ?_
            refine hK_91 _ ⟨((Ch.refl [U, U + 1, U + 3, U + 10, U + 11, U + 12, U + 13, U + 14, U + 20, U + 21, U + 22, U + 23, U + 30, U + 31, U + 32, M + 9] s_64).ch c_97 (by simp)), ?_⟩
            exact ⟨_, hF1, by omega, by omega, call11b⟩
          ·
            intro _
            intros
            refine dBl_i ?_
            refine sB_d (fun hsB12 => ?_) (fun hsB12 => ?_)
            ·
              refine ld_t h_92 rfl ?_
              refine ld_t h_92 rfl ?_
              refine ld_t h_92 rfl ?_
              refine ld_t h_92 rfl ?_
              refine ld_t h_92 rfl ?_
              refine ld_t h_92 rfl ?_
              have h_99 := hd2.mv ((((((((((((c_4.app c_9).app c_14).app c_19).app c_23).app c_27).app c_30).app c_33).app c_36).app c_39).app c_42).app c_45).app c_67) (tagn (by simp <;> omega))
              refine tcall (c_vlchange _ _ _ _ _ _ _ _ _ _ _ _ _ _ _ _ τ _ (by omega) call8a ((h_99).at_ xx (List.mem_of_getElem? hx)) (by omega) (by omega) (by omega)) ?_
              rintro v_101 s_100 ⟨Vcall12, rfl, c_103, call12a, call12b⟩
              have z_104 := c_103.size
              obtain ⟨hF1, hF2, hF3, hF4, hF5, hF6⟩ := hF.chd hv.pok (by omega) (by assumption)
              refine dBl_i ?_
              refine sB_f (by rfl) ?_
              refine hK_91 _ ⟨((Ch.refl [U, U + 1, U + 3, U + 10, U + 11, U + 12, U + 13, U + 14, U + 20, U + 21, U + 22, U + 23, U + 30, U + 31, U + 32, M + 9] s_64).ch c_103 (by simp)), ?_⟩
              exact ⟨_, hF1, by omega, by omega, call12b⟩
            ·
              refine sB_d (fun hsB14 => ?_) (fun hsB14 => ?_)
              ·
                refine ld_t h_92 rfl ?_
                refine ld_t h_92 rfl ?_
                refine ld_t h_92 rfl ?_
                refine ld_t h_92 rfl ?_
                refine ld_t h_92 rfl ?_
                refine ld_t h_92 rfl ?_
                have h_105 := hd2.mv ((((((((((((c_4.app c_9).app c_14).app c_19).app c_23).app c_27).app c_30).app c_33).app c_36).app c_39).app c_42).app c_45).app c_67) (tagn (by simp <;> omega))
                refine tcall (c_vlchange _ _ _ _ _ _ _ _ _ _ _ _ _ _ _ _ τ _ (by omega) call8a ((h_105).at_ xx (List.mem_of_getElem? hx)) (by omega) (by omega) (by omega)) ?_
                rintro v_107 s_106 ⟨Vcall13, rfl, c_109, call13a, call13b⟩
                have z_110 := c_109.size
                obtain ⟨hF1, hF2, hF3, hF4, hF5, hF6⟩ := hF.chd hv.pok (by omega) (by assumption)
                refine dBl_i ?_
                refine tcall (c_VUndo _ _ _ _ _ _ (by omega) call13b) ?_
                rintro v_112 s_111 ⟨rfl, c_114, call14a⟩
                have z_115 := c_114.size
                rw [hF4]
                refine dInt_i ?_
                refine sB_f (by rfl) ?_
                refine hK_91 _ ⟨(((Ch.refl [U, U + 1, U + 3, U + 10, U + 11, U + 12, U + 13, U + 14, U + 20, U + 21, U + 22, U + 23, U + 30, U + 31, U + 32, M + 9] s_64).ch c_109 (by simp)).ch c_114 (by simp)), ?_⟩
                exact ⟨_, hF5, Int.le_trans (Int.le_of_eq (show _ = V.P.last from hF6)) (by omega), Int.le_trans (show _ ≤ V.n + 1 from hF3) (by omega), call14a⟩
              ·
                refine tcall (c_VReady _ _ _ _ τ _ (by omega) call8a (by omega)) ?_
                rintro v_117 s_116 ⟨acall15, ccall15, rfl, c_119, call15a, call15b⟩
                have z_120 := c_119.size
                refine dSl_i ?_
                refine jn_u ?_
                refine sB_d (fun hsB16 => ?_) (fun hsB16 => ?_)
                ·
                  obtain ⟨a_121, rfl⟩ := call15a.ne_none (by omega)
                  refine nz_i ?_
                  refine ask_t (by omega) ?_
                  refine ld_iv call15a.sl (by omega) (by omega) fun vel1 hel1 => ?_
                  refine dInt_i ?_
                  refine tcall (c_VWrite _ _ _ _ _ _ (by omega) call15b (by omega)) ?_
                  rintro v_123 s_122 ⟨rfl, c_125, call16a⟩
                  have z_126 := c_125.size
                  obtain ⟨hw1, hw2, hw3, hw4, hw5⟩ := hF.landed hv.vok hv.pok (List.mem_of_getElem? hel1)
                  have hv5 : VolL s_122 rcall1 dcall1 U (V.sent vel1) 0 := by have h := call16a; rw [hw1] at h; exact h
                  rw [hw1]
                  refine dInt_i ?_
                  refine sB_f (by rfl) ?_
                  refine tcall (c_VComplete _ _ _ _ _ _ _ (by omega) hv5) ?_
                  rintro v_128 s_127 ⟨rfl, c_130, call17a⟩
                  have z_131 := c_130.size
                  rw [hw2]
                  refine dInt_i ?_
                  intro _
                  intros
                  refine dBl_i ?_
                  refine sB_f (by rfl) ?_
                  refine hK_91 _ ⟨((((Ch.refl [U, U + 1, U + 3, U + 10, U + 11, U + 12, U + 13, U + 14, U + 20, U + 21, U + 22, U + 23, U + 30, U + 31, U + 32, M + 9] s_64).ch c_119 (by simp)).ch c_125 (by simp)).ch c_130 (by simp)), ?_⟩
                  exact ⟨_, hw3, by rw [hw4]; omega, by rw [hw5]; omega, call17a⟩
                ·
                  intro _
                  intros
                  refine dBl_i ?_
                  refine sB_f (by rfl) ?_
                  refine hK_91 _ ⟨((Ch.refl [U, U + 1, U + 3, U + 10, U + 11, U + 12, U + 13, U + 14, U + 20, U + 21, U + 22, U + 23, U + 30, U + 31, U + 32, M + 9] s_64).ch c_119 (by simp)), ?_⟩
                  exact ⟨_, hF, by omega, by omega, call15b⟩
    ·
      intro _
      intros
      refine tcall (c_VBroken _ _ _ _ _ (by omega) hv) ?_
      rintro v_133 s_132 ⟨rfl, c_135, call18a⟩
      have z_136 := c_135.size
      refine dBl_i ?_
      refine sB_n (fun hsB20 => ?_) (fun hsB20 => ?_)
      ·
        refine tcall (c_VKept _ _ _ _ _ (by omega) call18a) ?_
        rintro v_138 s_137 ⟨rfl, c_140, call19a⟩
        have z_141 := c_140.size
        refine dInt_i ?_
        refine tcall (c_VBlocks2 _ _ _ _ _ (by omega) call19a) ?_
        rintro v_143 s_142 ⟨rfl, c_145, call20a⟩
        have z_146 := c_145.size
        refine dInt_i ?_
        refine ret_t ?_
        exact ⟨ret_b (decide_eq_true (by have h1 := hF.klen; have h2 := hF.bl; omega)), (((((((((Ch.refl [U, U + 1, U + 3, U + 10, U + 11, U + 12, U + 13, U + 14, U + 20, U + 21, U + 22, U + 23, U + 30, U + 31, U + 32] s).ch c_4 (by simp)).ch c_9 (by simp)).ch c_14 (by simp)).ch c_19 (by simp)).fr c_23 hM (by simp)).ch c_135 (by simp)).ch c_140 (by simp)).ch c_145 (by simp))⟩
      ·
        refine ret_t ?_
        exact absurd hF.br (by simp [*])
end Go.Proofs.YtngploohhmfaiaaGreat.E
/- What a law's arguments are, with the form's own reach: no slice takes more bytes than a process has. -/
namespace Go.Proofs.YtngploohhmfaiaaGreat.E
open Go Go.WideShapes Go.ChangeShapes
set_option linter.unusedVariables false
section
variable {H : Type} {enc : TypeId × Value → H} {P : Program} {W : World} {t e : TypeId} {row : List Value}
theorem weightsEach_get {B : Nat} : ∀ {ts : List TypeId} {ds : List (DataW H)} {i : Nat} {t : TypeId} {d : DataW H}, ts[i]? = some t → ds[i]? = some d → (∀ x ∈ DataW.weightsEach P ts ds, x ≤ B) → ∀ x ∈ d.weights P t, x ≤ B
  | [], _, i, t, d, h1, _, _ => by simp at h1
  | t0 :: ts, [], i, t, d, _, h2, _ => by simp at h2
  | t0 :: ts, d0 :: ds, 0, t, d, h1, h2, h => by
    simp at h1 h2; subst h1 h2
    intro x hx; exact h x (by unfold DataW.weightsEach; exact List.mem_append_left _ hx)
  | t0 :: ts, d0 :: ds, i + 1, t, d, h1, h2, h => by
    simp at h1 h2
    exact weightsEach_get h1 h2 fun x hx => h x (by unfold DataW.weightsEach; exact List.mem_append_right _ hx)
theorem weightsAll_mem {B : Nat} : ∀ {ds : List (DataW H)} {d : DataW H}, d ∈ ds → (∀ x ∈ DataW.weightsAll P e ds, x ≤ B) → ∀ x ∈ d.weights P e, x ≤ B
  | d0 :: ds, d, hd, h => by
    rcases List.mem_cons.1 hd with rfl | hd
    · intro x hx; exact h x (by unfold DataW.weightsAll; exact List.mem_append_left _ hx)
    · exact weightsAll_mem hd fun x hx => h x (by unfold DataW.weightsAll; exact List.mem_append_right _ hx)
theorem weights_all {ts : List TypeId} {ds : List (DataW H)} (h : (DataW.weightsEach P ts ds).all (· ≤ reachBytes) = true) : ∀ x ∈ DataW.weightsEach P ts ds, x ≤ reachBytes := fun x hx => by
  have := List.all_eq_true.1 h x hx; simpa using this
/-- a row of cells that reads as a value of a type, nothing in it too large -/
def Rdw {H : Type} (enc : TypeId × Value → H) (P : Program) (W : World) (t : TypeId) (row : List Value) : Prop := ∃ fuel y, DataW.trod enc P W 0 (fun _ => true) true fuel t row = some y ∧ ∀ x ∈ y.1.weights P t, x ≤ reachBytes
theorem Rdw.rd (h : Rdw enc P W t row) : Rd enc P W t row := by obtain ⟨f, y, h, _⟩ := h; exact ⟨f, y, h⟩
theorem rdw_of {v : Value} {d : DataW H} {ps : List MemPlace} (h : DataW.Trod enc P W 0 (fun _ => true) true t v d ps) (hw : ∀ x ∈ d.weights P t, x ≤ reachBytes) : Rdw enc P W t v.cells.toList := by
  obtain ⟨f, h⟩ := h; exact ⟨f, _, h, hw⟩
theorem rdw_struct {fs : Array Field} (ht : P.underlying t = some (.struct fs)) (h : Rdw enc P W t row) : row.length = P.cellsOf t ∧ ∀ (i : Nat) (f : Field), fs[i]? = some f → Rdw enc P W f.type ((row.drop f.offset).take (P.cellsOf f.type)) := by
  obtain ⟨f, y, h, hw⟩ := h
  obtain ⟨xs, n, rfl, rfl, h1, h2, h3⟩ := DataW.trod_struct ht h
  refine ⟨h1, fun i f hf => ?_⟩
  have hi : i < xs.length := by rw [h2]; exact (Array.getElem?_eq_some_iff.1 hf).1
  refine ⟨n, xs[i], by rw [h3 i f hf]; simp [hi], ?_⟩
  unfold DataW.weights at hw
  rw [ht] at hw
  refine weightsEach_get (ts := fs.toList.map (·.type)) (ds := xs.map (·.1)) (i := i) ?_ (by simp [hi]) hw
  rw [List.getElem?_map, Array.getElem?_toList, hf]; rfl
theorem rdw_sl (ht : P.underlying t = some (.slice e)) (h : Rdw enc P W t row) : ∃ (a : Option Addr) (n c : Nat) (rows : List (List Value)), row = [.slice a n c] ∧ n ≤ c ∧ n * P.bytesOf e ≤ reachBytes ∧ (a = none → n = 0) ∧ rows.length = n ∧ (∀ r ∈ rows, r.length = P.cellsOf e ∧ Rdw enc P W e r) ∧ Sl ⟨W.heap, fun _ => 0⟩ a rows.flatten 0 := by
  obtain ⟨f, y, h, hw⟩ := h
  rcases DataW.trod_slice ht h with ⟨h0, _⟩ | ⟨a, len, cap, elems, rest, n, rfl, rfl, rfl, hb, hl, hm, hlen, hel, _⟩
  · exact ⟨none, 0, 0, [], h0, by omega, by simp, fun _ => rfl, rfl, fun r hr => (List.not_mem_nil hr).elim, .inl rfl⟩
  · unfold DataW.weights at hw
    rw [ht] at hw
    simp only [List.length_map] at hw
    have hbig : len * P.bytesOf e ≤ reachBytes := by
      have h1 := hw ((elems.length + rest.length) * P.bytesOf e) (by simp)
      have h2 : len * P.bytesOf e ≤ (elems.length + rest.length) * P.bytesOf e := Nat.mul_le_mul_right _ (by omega)
      omega
    have hrow : ∀ i, i < len → ∃ r, W.cells? 0 (a.add (i * P.cellsOf e)) (P.cellsOf e) = some r ∧ Rdw enc P W e r := fun i hi => by
      have h1 := hel i hi
      rw [List.getElem?_eq_getElem (by omega)] at h1
      obtain ⟨r, h2, h3⟩ := Option.bind_eq_some_iff.1 h1
      refine ⟨r, h2, n, _, h3, weightsAll_mem (ds := elems.map (·.1)) (List.mem_map.2 ⟨_, List.getElem_mem _, rfl⟩) fun x hx => hw x ?_⟩
      exact List.mem_cons_of_mem _ (List.mem_append_left _ hx)
    let rows := (List.range len).map fun i => (W.cells? 0 (a.add (i * P.cellsOf e)) (P.cellsOf e)).getD []
    have hget : ∀ i r, rows[i]? = some r → W.cells? 0 (a.add (i * P.cellsOf e)) (P.cellsOf e) = some r ∧ Rdw enc P W e r := fun i r hr => by
      have hi : i < len := by
        have := (List.getElem?_eq_some_iff.1 hr).1
        simpa [rows] using this
      obtain ⟨r', h1, h2⟩ := hrow i hi
      simp [rows, hi, h1] at hr
      subst hr; exact ⟨h1, h2⟩
    have hmem : ∀ r ∈ rows, r.length = P.cellsOf e ∧ Rdw enc P W e r := fun r hr => by
      obtain ⟨i, hi⟩ := List.getElem?_of_mem hr
      obtain ⟨h1, h2⟩ := hget i r hi
      exact ⟨(World.cells?_some h1).2.1, h2⟩
    exact ⟨some a, len, cap, rows, rfl, hl, hbig, (fun h => by cases h), by simp [rows], hmem, sl_rows (fun r hr => (hmem r hr).1) fun i r hr m hm => (World.cells?_some (hget i r hr).1).2.2 m hm⟩
theorem rdw_ints (ht : P.underlying t = some (.slice e)) (he : P.underlying e = some (.int .i64)) (h8 : P.bytesOf e = 8) (h : Rdw enc P W t row) : ∃ (a : Option Addr) (n c : Nat) (ls : List Int), row = [.slice a n c] ∧ n ≤ c ∧ n ≤ 17592186043904 ∧ (a = none → n = 0) ∧ ls.length = n ∧ Sl ⟨W.heap, fun _ => 0⟩ a (ivs ls) 0 := by
  obtain ⟨a, n, c, ls, h1, h2, _, h3, h4, h5, _⟩ := rd_ints ht he h.rd
  obtain ⟨a', n', c', _, g1, _, g3, _⟩ := rdw_sl ht h
  rw [h1] at g1
  cases g1
  rw [h8] at g3
  unfold reachBytes at g3
  exact ⟨a, n, c, ls, h1, h2, by omega, h3, h4, h5⟩
end
theorem rih_sized {H : Type} {enc : TypeId × Value → H} {a : Assume} {C : Checked} {os : Os} {f : FuncId} {fn : Func} {s : ChangeSpec} {conds : List PathCond} {apart fresh handsOn again : Bool}
    (own : ownKnob C.prog.godebug = none) (started : os.Started) (noInit : C.prog.inits.idxOf? f = none) (hfn : C.prog.funcs[f]? = some fn)
    (witness : ∃ (w : World) (tape : Tape) (i : Input), w.os = os ∧ (w.forCall tape i).Shaped C.prog ∧ i.vars = [] ∧ Input.okWide C.prog (w.forCall tape i) .any w.heap.size f i ∧
      s.pre6 enc C.prog fn conds apart (w.forCall tape i).memory i.args ∧ a.holds C.prog (lone (Frame.enter C.prog f i.args .normal) [] (w.forCall tape i)))
    (contract : ∀ (W : World) (base : Nat) (args : Array Value) (ds gs : List (DataW H)) (before : List MemPlace),
      (∀ (j : Nat) t v, fn.params[j]? = some t → args[j]? = some v → Value.okWide C.prog W .any base t v) →
      DataW.Whole enc C.prog fn.params.toList s.vars apart W args.toList ds gs before →
      (DataW.weightsEach C.prog (fn.params.toList ++ s.plain.varTypes C.prog) (ds ++ gs)).all (· ≤ reachBytes) = true →
      Calls C.prog f args W fun e W' => ∃ v, e = .returned v ∧ s.post enc C.prog fn apart fresh handsOn again W args v W') :
    ReturnsInHanded a C os f .any (s.pre6 enc C.prog fn conds apart) (s.post enc C.prog fn apart fresh handsOn again) := by
  refine returnsInHanded_of_calls own started noInit witness ?_
  intro w tape i _ _ _ hok hpre _
  obtain ⟨_, _, _, fn', hfn', _, _, _, _, hval⟩ := hok
  have e : fn' = fn := Option.some.inj (hfn'.symm.trans hfn)
  subst e
  obtain ⟨⟨ds, gs, before, hw, _⟩, hz⟩ := hpre
  have hw' := DataW.Whole.of_heap (w' := w.forCall tape i) (by rfl) hw
  refine (contract (w.forCall tape i) w.heap.size i.args ds gs before hval hw' (hz.weights hw)).mono fun e W' ⟨v, he, hp⟩ => ?_
  subst he
  exact ChangeSpec.post_blind hp
end Go.Proofs.YtngploohhmfaiaaGreat.E
/- The volume laws' arguments. -/
namespace Go.Proofs.YtngploohhmfaiaaGreat.E
open Go Go.WideShapes
set_option linter.unusedVariables false
set_option maxRecDepth 100000 in
theorem rdw_do {H : Type} {enc : TypeId × Value → H} {W : World} {row : List Value} (h : Rdw enc Tryz.prog W 125 row) : ∃ x : DoV, row = dov9 x ∧ DoIn ⟨W.heap, fun _ => 0⟩ 0 x := by
  obtain ⟨hl, hf⟩ := rdw_struct Tryz.underlying125 h
  have hc : Tryz.prog.cellsOf 125 = 6 := by kernel_rfl
  have c3 : Tryz.prog.cellsOf 3 = 1 := by kernel_rfl
  have cb : Tryz.prog.cellsOf 38 = 1 := by kernel_rfl
  have ci : Tryz.prog.cellsOf 73 = 1 := by kernel_rfl
  rw [hc] at hl
  match row, hl with
  | [v0, v1, v2, v3, v4, v5], _ =>
    have h0 : Rdw enc Tryz.prog W 3 (([v0, v1, v2, v3, v4, v5].drop 0).take (Tryz.prog.cellsOf 3)) := hf 0 _ rfl
    have h1 : Rdw enc Tryz.prog W 3 (([v0, v1, v2, v3, v4, v5].drop 1).take (Tryz.prog.cellsOf 3)) := hf 1 _ rfl
    have h2 : Rdw enc Tryz.prog W 3 (([v0, v1, v2, v3, v4, v5].drop 2).take (Tryz.prog.cellsOf 3)) := hf 2 _ rfl
    have h3 : Rdw enc Tryz.prog W 3 (([v0, v1, v2, v3, v4, v5].drop 3).take (Tryz.prog.cellsOf 3)) := hf 3 _ rfl
    have h4 : Rdw enc Tryz.prog W 38 (([v0, v1, v2, v3, v4, v5].drop 4).take (Tryz.prog.cellsOf 38)) := hf 4 _ rfl
    have h5 : Rdw enc Tryz.prog W 73 (([v0, v1, v2, v3, v4, v5].drop 5).take (Tryz.prog.cellsOf 73)) := hf 5 _ rfl
    rw [c3] at h0 h1 h2 h3
    rw [cb] at h4
    rw [ci] at h5
    obtain ⟨x0, e0, _⟩ := rd_int Tryz.underlying3 h0.rd
    obtain ⟨x1, e1, _⟩ := rd_int Tryz.underlying3 h1.rd
    obtain ⟨x2, e2, _⟩ := rd_int Tryz.underlying3 h2.rd
    obtain ⟨x3, e3, _⟩ := rd_int Tryz.underlying3 h3.rd
    obtain ⟨ba, bn, bc, by_, e4, b1, b2, b3, b4, b5⟩ := rd_bytes Tryz.underlying38 Tryz.underlying5 h4.rd
    obtain ⟨ba', bn', bc', _, e4', _, b6, _⟩ := rdw_sl Tryz.underlying38 h4
    obtain ⟨na, nn, nc, ns, e5, n1, n2, n3, n4, n5⟩ := rdw_ints Tryz.underlying73 Tryz.underlying3 (by kernel_rfl) h5
    rw [e4] at e4'
    cases e4'
    have h1b : Tryz.prog.bytesOf 5 = 1 := by kernel_rfl
    rw [h1b] at b6
    unfold reachBytes at b6
    have b7 : bn ≤ 140737488351232 := by omega
    simp at e0 e1 e2 e3 e4 e5
    subst e0 e1 e2 e3 e4 e5
    exact ⟨⟨x0, x1, x2, x3, ba, bn, bc, na, nn, nc, by_, ns⟩, rfl, b5, b4, b3, ⟨b1, b7⟩, n5, n4, n3, ⟨n1, n2⟩⟩
theorem rdw_dos {H : Type} {enc : TypeId × Value → H} {W : World} : ∀ {rows : List (List Value)}, (∀ r ∈ rows, r.length = Tryz.prog.cellsOf 125 ∧ Rdw enc Tryz.prog W 125 r) → ∃ ls : List DoV, ls.length = rows.length ∧ rows.flatten = ls.flatMap dov9 ∧ Dos ⟨W.heap, fun _ => 0⟩ 0 ls
  | [], _ => ⟨[], rfl, rfl, ⟨fun x hx => (List.not_mem_nil hx).elim⟩⟩
  | r :: rows, h => by
    obtain ⟨ls, h1, h2, h3⟩ := rdw_dos (rows := rows) fun r' h' => h r' (List.mem_cons_of_mem _ h')
    obtain ⟨x, rfl, hx⟩ := rdw_do (h r (by simp)).2
    refine ⟨x :: ls, by simp [h1], by simp [h2], ⟨fun y hy => ?_⟩⟩
    rcases List.mem_cons.1 hy with rfl | hy
    · exact hx
    · exact h3.at_ y hy
end Go.Proofs.YtngploohhmfaiaaGreat.E
/- The closed facts of a row, one by one. -/
namespace Go.Proofs.YtngploohhmfaiaaGreat.E
open Go
def kindsOf (P : Program) (fn : Func) (c : OpenClaim) : List (Option IntKind) := if c.domain.isEmpty then [] else fn.params.toList.map fun t => match P.underlying t with | some (.int k) => some k | _ => none
theorem andb {a b : Bool} (h : a = true) (k : b = true) : (a && b) = true := by rw [h, k]; rfl
theorem joined_of {P : Program} {f : FuncId} {fn : Func} {s : ChangeSpec} {c : OpenClaim}
    (j0 : (c.wf (OpenSpec.ofChange s)) = true)
    (j1 : (laidOutB P) = true)
    (j2 : (mapsRowed P) = true)
    (j3 : (fn.params.all (P.readableRec ·)) = true)
    (j4 : (namedTie P c.named s.vars) = true)
    (j5 : ((c.stops == [])) = true)
    (j6 : ((P.stops == [])) = true)
    (j7 : ((c.knobs == [])) = true)
    (j8 : ((P.stopKnobs == [])) = true)
    (j9 : ((c.inPlace == P.inPlace f)) = true)
    (j10 : ((c.unfollowed == P.unfollowed f)) = true)
    (j11 : ((c.recurses == P.recurses f)) = true)
    (j12 : ((c.named == P.varsNamed f)) = true)
    (j13 : ((c.maps == (fn.params.toList ++ s.plain.varTypes P).any (P.mapsRec ·))) = true)
    (j14 : ((c.ifaces == (fn.params.toList ++ s.plain.varTypes P).any (P.ifacesRec ·))) = true)
    (j15 : ((c.mapsOut == P.mapsAmong fn.resultTypes.toList)) = true)
    (j16 : ((c.loops == (fn.params.toList ++ s.plain.varTypes P).any (P.loopsFrom ·))) = true)
    (j17 : ((c.wideKeys == (fn.params.toList ++ s.plain.varTypes P ++ fn.resultTypes.toList).any (P.wideKeysFrom ·))) = true)
    (j18 : (s.vars.all (P.varReadable ·)) = true)
    (j19 : (fn.resultTypes.all (fun t => P.readableRec t && decide (t < P.types.size))) = true)
    (j20 : ((c.ifacesOut == fn.resultTypes.toList.any (P.ifacesRec ·))) = true)
    (j21 : ((c.loopsOut == fn.resultTypes.toList.any (P.loopsFrom ·))) = true)
    (j22 : ((c.plainKeys == P.plainKeys)) = true)
    (j23 : (c.shortTexts.isNone) = true)
    (j24 : (P.stopsHeard) = true)
    (j25 : (P.mayEnter) = true)
    (j26 : ((c.lifted == P.liftsFinal)) = true)
    (j27 : ((P.make == some c.make)) = true)
    (j28 : ((c.kinds == kindsOf P fn c)) = true)
    (j29 : ((c.pinned == c.pinnedBy)) = true)
    (j30 : ((c.veiled == (fn.params.toList ++ s.plain.varTypes P ++ fn.resultTypes.toList).any (P.veiledRec ·))) = true)
    (j31 : (c.veiledFits P fn.params.toList (fn.params.toList ++ s.plain.varTypes P ++ fn.resultTypes.toList)) = true)
    : joinedFacts P f fn s c = true := by
  unfold joinedFacts
  exact (andb (andb (andb (andb (andb (andb (andb (andb (andb (andb (andb (andb (andb (andb (andb (andb (andb (andb (andb (andb (andb (andb (andb (andb (andb (andb (andb (andb (andb (andb (andb j0 j1) j2) j3) j4) j5) j6) j7) j8) j9) j10) j11) j12) j13) j14) j15) j16) j17) j18) j19) j20) j21) j22) j23) j24) j25) j26) j27) j28) j29) j30) j31)
end Go.Proofs.YtngploohhmfaiaaGreat.E
