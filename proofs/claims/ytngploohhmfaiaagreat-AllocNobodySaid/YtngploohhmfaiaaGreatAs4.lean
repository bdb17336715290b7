/- My own texts, joined. -/
import Derived.Conc.MuLib
import Derived.Conc.MuLone
import Derived.KernelRfl
import Derived.Laws.BytesArg
import Derived.Laws.IdiomStrings
import Derived.Laws.Strings
import Derived.Lib.AppendZerosOnto
import Derived.Lib.SlBytesConst
import Derived.Maps.RangeRun
import Derived.Shelf.Slices.In.SortNone
import Derived.Shelf.Sort.Plain
import Derived.Test.YtngploohhmfaiaaGreatProg
import Derived.Test.YtngploohhmfaiaaGreatAs3
/- Contracts of functions. -/
namespace Go.Proofs.YtngploohhmfaiaaGreat.E
open Go Go.Proofs Go.RowKit Go.Maps Go.Shelf Go.Sort
set_option linter.unusedVariables false
set_option linter.unusedSimpArgs false
theorem get_hit {C : CacheM} {bs : List (List UInt8)} {b : Int} {x : BufM} (h : C.find b = some x) : C.get bs b = ({ C with l := rmB C.l b ++ [{ x with used := C.clock + 1 }], clock := C.clock + 1, hits := C.hits + 1 }, 0) := by unfold CacheM.get; rw [h]
theorem get_load {C : CacheM} {bs : List (List UInt8)} {b : Int} {l : List BufM} {y : List UInt8} (h : C.find b = none) (hr : C.room = some l) (hy : bs[b.toNat]? = some y) : C.get bs b = ({ C with l := l ++ [⟨b, y, 0, C.clock + 1⟩], clock := C.clock + 1, misses := C.misses + 1 }, 0) := by unfold CacheM.get; rw [h]; simp only; rw [hr, hy]; rfl
theorem room_mem {C : CacheM} {l : List BufM} (h : C.room = some l) : l.Sublist C.l := by
  unfold CacheM.room at h
  split at h
  · cases h; exact List.Sublist.refl _
  · cases hf : freeB C.l with
    | none => rw [hf] at h; cases h
    | some v => rw [hf] at h; cases h; exact rmB_sub _ _
theorem COk.push {C C' : CacheM} (ok : COk C) {l1 : List BufM} (hs : l1.Sublist C.l) {x : BufM} (hx : x.used = C.clock + 1) (hl : C'.l = l1 ++ [x]) (hk : C'.clock = C.clock + 1) (hb : C.clock + 1 ≤ 9223372036854775807) (hc : 0 ≤ C'.hits ∧ C'.hits ≤ 9223372036854775807 ∧ 0 ≤ C'.misses ∧ C'.misses ≤ 9223372036854775807) (hp : 0 ≤ x.pins ∧ x.pins ≤ 100) : COk C' := by
  have h0 := ok.clk
  refine ⟨?_, fun y hy => ?_, by omega, hc, fun y hy => ?_⟩
  · rw [hl, List.pairwise_append]
    refine ⟨ok.srt.sublist hs, List.pairwise_singleton _ _, fun a ha z hz => ?_⟩
    rw [List.mem_singleton] at hz; subst hz
    have := ok.rng a (hs.subset ha); omega
  · rw [hl, List.mem_append] at hy
    rcases hy with hy | hy
    · have := ok.rng y (hs.subset hy); omega
    · rw [List.mem_singleton] at hy; subst hy; omega
  · rw [hl, List.mem_append] at hy
    rcases hy with hy | hy
    · exact ok.pin y (hs.subset hy)
    · rw [List.mem_singleton] at hy; subst hy; exact hp
theorem Bufs.one {s2 s3 : TH} {τ : Nat} {l l' : List BufM} {bp : Int → Nat} {bh bh' : Int → Hd} {b pins used : Int} (h : Bufs s2 τ l bp bh) (hon : On (bp b) s2 s3) (hb : Blk s3 (bp b) (bufv (bh' b) pins used) 258 τ)
    (hl : ∀ y ∈ l', (y ∈ l ∧ bp y.blk ≠ bp b ∧ bh' y.blk = bh y.blk) ∨ (y.blk = b ∧ y.pins = pins ∧ y.used = used)) : Bufs s3 τ l' bp bh' :=
  ⟨fun y hy => by
    rcases hl y hy with ⟨h1, h2, h3⟩ | ⟨h1, h2, h3⟩
    · rw [h3]; exact (h.at_ y h1).on hon h2
    · rw [h1, h2, h3]; exact hb⟩
end Go.Proofs.YtngploohhmfaiaaGreat.E
/- Contracts of functions. -/
namespace Go.Proofs.YtngploohhmfaiaaGreat.E
open Go Go.Proofs Go.RowKit Go.Maps Go.Shelf Go.Sort
set_option linter.unusedVariables false
set_option linter.unusedSimpArgs false
def CacheM.bytes (C : CacheM) (b : Int) : List UInt8 := ((C.find b).map (·.by_)).getD []
/-- a buffer is changed in its place -/
def updB (l : List BufM) (b : Int) (f : BufM → BufM) : List BufM := l.map fun x => if x.blk = b then f x else x
def CacheM.put (C : CacheM) (b : Int) (y : List UInt8) : CacheM := { C with l := updB C.l b fun x => { x with by_ := y } }
def CacheM.pin1 (C : CacheM) (b : Int) : CacheM × Int :=
  match C.find b with
  | none => (C, 3)
  | some x => if x.pins ≥ 100 then (C, 3) else ({ C with l := updB C.l b fun x => { x with pins := x.pins + 1 } }, 0)
def CacheM.pin (C : CacheM) (bs : List (List UInt8)) (b : Int) : CacheM × Int := if (C.get bs b).2 = 0 then (C.get bs b).1.pin1 b else C.get bs b
theorem updB_mem {l : List BufM} {b : Int} {f : BufM → BufM} {y : BufM} (h : y ∈ updB l b f) : ∃ x ∈ l, (x.blk ≠ b ∧ y = x) ∨ (x.blk = b ∧ y = f x) := by
  unfold updB at h
  obtain ⟨x, hx, e⟩ := List.mem_map.1 h
  refine ⟨x, hx, ?_⟩
  by_cases hb : x.blk = b
  · rw [if_pos hb] at e; exact .inr ⟨hb, e.symm⟩
  · rw [if_neg hb] at e; exact .inl ⟨hb, e.symm⟩
theorem COk.upd {C C' : CacheM} (ok : COk C) {b : Int} {f : BufM → BufM} (hl : C'.l = updB C.l b f) (hu : ∀ x, (f x).used = x.used) (hp : ∀ x ∈ C.l, x.blk = b → 0 ≤ (f x).pins ∧ (f x).pins ≤ 100) (h1 : C'.clock = C.clock) (h2 : C'.hits = C.hits) (h3 : C'.misses = C.misses) : COk C' := by
  have hk := ok.clk
  have hc := ok.cnt
  refine ⟨?_, fun y hy => ?_, by omega, by omega, fun y hy => ?_⟩
  · rw [hl]; unfold updB; rw [List.pairwise_map]
    refine ok.srt.imp fun {a z} h => ?_
    have e : ∀ x : BufM, (if x.blk = b then f x else x).used = x.used := fun x => by split <;> simp [hu]
    rw [e, e]; exact h
  · rw [hl] at hy
    obtain ⟨x, hx, ⟨_, rfl⟩ | ⟨_, rfl⟩⟩ := updB_mem hy
    · have := ok.rng y hx; omega
    · have := ok.rng x hx; rw [hu]; omega
  · rw [hl] at hy
    obtain ⟨x, hx, ⟨_, rfl⟩ | ⟨hb, rfl⟩⟩ := updB_mem hy
    · exact ok.pin y hx
    · exact hp x hx hb
-- no form: (*bollard/cache.Cache).Unpin
-- no form: (*bollard/cache.Cache).Pin
-- no form: (*bollard/cache.Cache).Hits
end Go.Proofs.YtngploohhmfaiaaGreat.E
/- Contracts of functions. -/
namespace Go.Proofs.YtngploohhmfaiaaGreat.E
open Go Go.Proofs Go.RowKit Go.Maps Go.Shelf Go.Sort
set_option linter.unusedVariables false
set_option linter.unusedSimpArgs false
/-- neighbours that are the same become one -/
def cptS (acc : List Int) (x : Int) : List Int := if acc.getLast? = some x then acc else acc ++ [x]
def cpt (l : List Int) : List Int := l.foldl cptS []
end Go.Proofs.YtngploohhmfaiaaGreat.E
/- Going through a map, in states with marks. -/
namespace Go.Proofs.YtngploohhmfaiaaGreat.E
open Go Go.ChangeMaps
set_option linter.unusedVariables false
set_option linter.unusedSimpArgs false
theorem nodup_ix {α : Type} {l : List α} (h : l.Nodup) {i j : Nat} (hi : i < l.length) (hj : j < l.length) (e : l[i] = l[j]) : i = j := by
  have hp := List.pairwise_iff_getElem.1 h
  rcases Nat.lt_trichotomy i j with h1 | h1 | h1
  · exact absurd e (hp i j hi hj h1)
  · exact h1
  · exact absurd e.symm (hp j i hj hi h1)
/-- a map m, and an iterator over it that has told the keys 'vis' -/
structure ItK {κ : Type} (kf : κ → Value) (s : TH) (q r : Nat) (m : List (κ × Value)) (vis : List κ) (τ τq : Nat) : Prop where
  ex : ∃ (es : List MapEntry) (ck : Nat) (seen : Array Nat), s.h[r]? = some (.map es.toArray ck) ∧ Ents kf es ck m ∧ s.h[q]? = some (.mapIter (some r) ck seen ck) ∧
    (∀ e ∈ es, ∀ k, e.key = kf k → (seen.contains e.born = true ↔ k ∈ vis)) ∧ (∀ vis' k, vis = vis' ++ [k] → ∀ e ∈ es, e.key = kf k → seen.back? = some e.born)
  tag : s.g r = τ
  tagq : s.g q = τq
  nd : (m.map (·.1)).Nodup
  sub : vis.Nodup
def leftH (H : Heap) (q r : Nat) : Nat :=
  match H[r]?, H[q]? with
  | some (.map es _), some (.mapIter _ _ seen _) => (leftOf es seen).size
  | _, _ => 0
section
variable {κ : Type} {kf : κ → Value} {s s' : TH} {q r τ τq : Nat} {m : List (κ × Value)} {vis : List κ}
theorem ItK.map (h : ItK kf s q r m vis τ τq) : MapK kf s r m τ := by
  obtain ⟨es, ck, seen, h1, h2, _⟩ := h.ex
  exact ⟨⟨es, ck, h1, h2⟩, h.tag, h.nd⟩
theorem ItK.ltq (h : ItK kf s q r m vis τ τq) : q < s.h.size := by
  obtain ⟨es, ck, seen, _, _, h1, _⟩ := h.ex
  exact (Array.getElem?_eq_some_iff.1 h1).1
theorem ItK.mv {B : Nat → Prop} (h : ItK kf s q r m vis τ τq) (c : Chg B s s') (hr : ¬ B r) (hq : ¬ B q) : ItK kf s' q r m vis τ τq := by
  have l1 := h.map.lt
  have l2 := h.ltq
  obtain ⟨es, ck, seen, h1, h2, h3, h4⟩ := h.ex
  exact ⟨⟨es, ck, seen, (c.get r l1 hr).trans h1, h2, (c.get q l2 hq).trans h3, h4⟩, (c.tag r l1).trans h.tag, (c.tag q l2).trans h.tagq, h.nd, h.sub⟩
theorem ItK.ch {T : List Nat} (h : ItK kf s q r m vis τ τq) (c : Ch T s s') (hr : τ ∉ T) (hq : τq ∉ T) : ItK kf s' q r m vis τ τq :=
  h.mv c (by show s.g r ∉ T; rw [h.tag]; exact hr) (by show s.g q ∉ T; rw [h.tagq]; exact hq)
theorem ents_keys {es : List MapEntry} {ck : Nat} (he : Ents kf es ck m) {e : MapEntry} (h : e ∈ es) : ∃ p ∈ m, e.key = kf p.1 ∧ e.val = p.2 := by
  obtain ⟨i, hi, rfl⟩ := List.getElem_of_mem h
  have hl : es.length = m.length := by have := congrArg List.length he.key; simpa using this
  refine ⟨m[i]'(by omega), List.getElem_mem _, ?_, ?_⟩
  · have := congrArg (·[i]?) he.key
    simpa [hi, show i < m.length by omega] using this
  · have := congrArg (·[i]?) he.val
    simpa [hi, show i < m.length by omega] using this
theorem left_len [DecidableEq κ] (hinj : ∀ a b, kf a = kf b → a = b) : ∀ {es : List MapEntry} {m : List (κ × Value)} {seen : Array Nat} {vis : List κ}, es.map (·.key) = m.map (fun p => kf p.1) → (∀ e ∈ es, ∀ k, e.key = kf k → (seen.contains e.born = true ↔ k ∈ vis)) →
    (es.filter fun e => !seen.contains e.born).length = (m.filter fun p => !decide (p.1 ∈ vis)).length
  | [], [], _, _, _, _ => rfl
  | [], _ :: _, _, _, h, _ => by simp at h
  | _ :: _, [], _, _, h, _ => by simp at h
  | e :: es, p :: m, seen, vis, h, hs => by
    simp only [List.map_cons, List.cons.injEq] at h
    have h1 := hs e (by simp) p.1 h.1
    have h2 := left_len hinj (seen := seen) (vis := vis) h.2 (fun e' he' => hs e' (List.mem_cons_of_mem _ he'))
    rw [List.filter_cons, List.filter_cons]
    by_cases hp : p.1 ∈ vis
    · rw [h1.2 hp]; simp only [Bool.not_true, hp, decide_true, Bool.false_eq_true, if_false]; exact h2
    · have : seen.contains e.born = false := by rw [← Bool.not_eq_true]; exact fun h => hp (h1.1 h)
      rw [this]; simp only [Bool.not_false, hp, decide_false, if_true, List.length_cons]; rw [h2]
theorem ItK.left [DecidableEq κ] (hinj : ∀ a b, kf a = kf b → a = b) (h : ItK kf s q r m vis τ τq) : leftH s.h q r = (m.filter fun p => !decide (p.1 ∈ vis)).length := by
  obtain ⟨es, ck, seen, h1, h2, h3, h4, _⟩ := h.ex
  unfold leftH
  rw [h1, h3]
  show (leftOf es.toArray seen).size = _
  rw [← left_len hinj h2.key h4]
  unfold leftOf
  simp
end
section
variable {κ : Type} {kf : κ → Value} {P : Program} {T Kt Et : TypeId} {E : List PanicEntry → Heap → Prop} {s : TH} {q r τ : Nat} {m : List (κ × Value)} {vis : List κ}
theorem range_t (τq : Nat) {K : Value → Heap → Prop} (hT : P.underlying T = some (.map Kt Et)) (h : MapK kf s r m τ) (hinj : ∀ a b, kf a = kf b → a = b)
    (hk : ∀ (s' : TH) (q : Nat), q = s.h.size → ItK kf s' q r m [] τ τq → Ch [] s s' → K (.pointer (some ⟨q, 0, none⟩)) s'.h) :
    semW P (Instr.range T (.map (some r))) E s.h K := .mk fun w hw => by
  have hlt := h.lt
  obtain ⟨es, ck, hg, he⟩ := h.get
  have h1 : (getObj r).run P w = .ok (.map es.toArray ck) w := by
    show Sem.run P (.getObj r .pure) w = _
    simp only [Sem.run, hw, hg]
  have hr : (Instr.range T (.map (some r))).run P w = .ok (.pointer (some ⟨w.heap.size, 0, none⟩)) { w with heap := w.heap.push (.mapIter (some r) ck #[] ck) } := by
    simp only [Instr.range, Sem.run_bind, run_under hT, Result.andThen_ok, h1, Sem.run_pure]
    rfl
  rw [hr]
  refine ⟨?_, rfl, rfl, rfl⟩
  have := hk ⟨s.h.push (.mapIter (some r) ck #[] ck), upd s.g s.h.size τq⟩ s.h.size rfl ⟨⟨es, ck, #[], by
    show (s.h.push _)[r]? = _
    rw [Array.getElem?_push, if_neg (by omega)]; exact hg, he, by simp, fun e _ k _ => by simp, fun vis' k hv => by simp at hv⟩, by simp [upd, Nat.ne_of_lt hlt, h.tag], by simp [upd], h.nd, List.nodup_nil⟩ (pushed _ _ _)
  rw [← hw] at this
  exact this
theorem next_t {τq : Nat} {ty : TypeId} {K : Value → Heap → Prop} (h : ItK kf s q r m vis τ τq) (hinj : ∀ a b, kf a = kf b → a = b)
    (h1 : ∀ (s' : TH) (k : κ) (x : Value), (k, x) ∈ m → k ∉ vis → ItK kf s' q r m (vis ++ [k]) τ τq → On q s s' → s.h.size = s'.h.size → K (.tuple #[.bool true, kf k, x]) s'.h)
    (h2 : (∀ k ∈ m.map (·.1), k ∈ vis) → K (.tuple #[.bool false]) s.h) :
    semW P (Instr.next (.pointer (some ⟨q, 0, none⟩)) false ty) E s.h K := .mk fun w hw => by
  have l1 := h.map.lt
  have l2 := h.ltq
  obtain ⟨es, ck, seen, e1, e2, e3, e4, e5⟩ := h.ex
  rcases run_next_at (P := P) w ty q r ck ck seen es.toArray ck (by rw [hw]; exact e3) (by rw [hw]; exact e1) (by simpa using e2.old) (Nat.le_refl _) with ⟨h0, hr⟩ | ⟨e, he, w1, hw1, hr⟩
  · rw [hr]
    suffices hall : ∀ k ∈ m.map (·.1), k ∈ vis from ⟨by rw [hw]; exact h2 hall, Like.refl w⟩
    intro k hk
    obtain ⟨p, hp, rfl⟩ := List.mem_map.1 hk
    have : kf p.1 ∈ es.map (·.key) := by rw [e2.key]; exact List.mem_map.2 ⟨p, hp, rfl⟩
    obtain ⟨e, he, hek⟩ := List.mem_map.1 this
    rw [← e4 e he p.1 hek]
    have h0' : leftOf es.toArray seen = #[] := Array.eq_empty_of_size_eq_zero h0
    unfold leftOf at h0'
    rw [Array.filter_eq_empty_iff] at h0'
    have := h0' e (by simpa using he)
    simpa using this
  · rw [hr]
    unfold leftOf at he
    simp at he
    obtain ⟨he1, he2⟩ := he
    obtain ⟨p, hp, k1, k2⟩ := ents_keys e2 he1
    have hpv : p.1 ∉ vis := fun hv => by
      have := (e4 e he1 p.1 k1).2 hv
      simp at this
      exact he2 this
    have hone : ∀ e' ∈ es, e'.key = kf p.1 → e' = e := fun e' he' hk' => by
      obtain ⟨i, hi, rfl⟩ := List.getElem_of_mem he'
      obtain ⟨j, hj, rfl⟩ := List.getElem_of_mem he1
      have hl : es.length = m.length := by have := congrArg List.length e2.key; simpa using this
      have hki : kf (m[i]'(by omega)).1 = (es[i]).key := by
        have := congrArg (·[i]?) e2.key
        simpa [hi, show i < m.length by omega] using this.symm
      have hkj : kf (m[j]'(by omega)).1 = (es[j]).key := by
        have := congrArg (·[j]?) e2.key
        simpa [hj, show j < m.length by omega] using this.symm
      have hkk : (m[i]'(by omega)).1 = (m[j]'(by omega)).1 := hinj _ _ (by rw [hki, hkj, hk', k1])
      have hij : i = j := by
        have hn := h.nd
        exact nodup_ix hn (i := i) (j := j) (by simp; omega) (by simp; omega) (by simpa using hkk)
      subst hij; rfl
    have hsz : w1.heap = w.heap := by rcases hw1 with rfl | rfl <;> rfl
    have hb : (setBlock w1 q (.mapIter (some r) ck (seen.push e.born) ck)).heap = s.h.setIfInBounds q (.mapIter (some r) ck (seen.push e.born) ck) := by
      show (w1.heap.setIfInBounds q _) = _
      rw [hsz, hw]
    have hK := h1 ⟨s.h.setIfInBounds q (.mapIter (some r) ck (seen.push e.born) ck), s.g⟩ p.1 p.2 hp hpv ⟨⟨es, ck, seen.push e.born, ?_, e2, by simp [l2], fun e' he' k hk' => ?_, fun vis' k hv e' he' hk' => ?_⟩, h.tag, h.tagq, h.nd, ?_⟩ ⟨by simp, fun _ _ => rfl, fun j hj hn => ?_⟩ (by simp)
    · refine ⟨by rw [hb]; rw [k1, k2]; exact hK, ?_⟩
      rcases hw1 with rfl | rfl <;> exact ⟨rfl, rfl, rfl⟩
    · show (s.h.setIfInBounds q _)[r]? = _
      by_cases hqr : q = r
      · subst hqr; rw [e1] at e3; cases e3
      · rw [Array.getElem?_setIfInBounds_ne hqr]; exact e1
    · rw [List.mem_append, List.mem_singleton, ← e4 e' he' k hk']
      have hc : (seen.push e.born).contains e'.born = true ↔ (seen.contains e'.born = true ∨ e'.born = e.born) := by simp
      rw [hc]
      refine or_congr Iff.rfl ⟨fun hbn => ?_, fun hk => ?_⟩
      · have hee : e' = e := by
          have hn := e2.born
          obtain ⟨i, hi, rfl⟩ := List.getElem_of_mem he'
          obtain ⟨j, hj, rfl⟩ := List.getElem_of_mem he1
          have hij : i = j := nodup_ix hn (i := i) (j := j) (by simpa using hi) (by simpa using hj) (by simpa using hbn)
          subst hij; rfl
        subst hee
        exact hinj _ _ (hk'.symm.trans k1)
      · subst hk; rw [hone e' he' hk']
    · obtain ⟨h3, h4⟩ := List.append_inj' hv rfl
      simp at h4
      subst h4
      rw [hone e' he' hk']; simp
    · rw [List.nodup_append]
      exact ⟨h.sub, by simp, fun a ha b hb hab => by simp at hb; subst hb; subst hab; exact hpv ha⟩
    · show (s.h.setIfInBounds q _)[j]? = _
      rw [Array.getElem?_setIfInBounds_ne (fun e => hn e.symm)]
theorem entry_t {τq : Nat} {K : Value → Heap → Prop} {k : κ} {x : Value} (h : ItK kf s q r m (vis ++ [k]) τ τq) (hm : (k, x) ∈ m) (hinj : ∀ a b, kf a = kf b → a = b)
    (hk : K (.tuple #[kf k, x]) s.h) : semW P (Instr.entry (.pointer (some ⟨q, 0, none⟩))) E s.h K := .mk fun w hw => by
  obtain ⟨es, ck, seen, e1, e2, e3, e4, e5⟩ := h.ex
  have hr : (getObj q).run P w = .ok (.mapIter (some r) ck seen ck) w := by
    show Sem.run P (.getObj q .pure) w = _
    simp only [Sem.run, hw, e3]
  have hr2 : (getObj r).run P w = .ok (.map es.toArray ck) w := by
    show Sem.run P (.getObj r .pure) w = _
    simp only [Sem.run, hw, e1]
  have : kf k ∈ es.map (·.key) := by rw [e2.key]; exact List.mem_map.2 ⟨_, hm, rfl⟩
  obtain ⟨e, he, hek⟩ := List.mem_map.1 this
  have hb := e5 vis k rfl e he hek
  have hfind : es.toArray.find? (fun e' => e'.born == e.born) = some e := by
    rw [List.find?_toArray]
    have hn := e2.born
    clear e4 e5 e2 hr2 this
    revert he hn
    generalize es = l
    intro he hn
    induction l with
    | nil => cases he
    | cons y l ih =>
      rw [List.map_cons, List.nodup_cons] at hn
      rw [List.find?_cons]
      rcases List.mem_cons.1 he with rfl | he
      · simp
      · have : (y.born == e.born) = false := by
          simp only [beq_eq_false_iff_ne]; intro e'; exact hn.1 (by rw [e']; exact List.mem_map.2 ⟨e, he, rfl⟩)
        rw [this]; exact ih he hn.2
  have hval : e.val = x := by
    obtain ⟨p, hp, k1, k2⟩ := ents_keys e2 he
    have hpk : p.1 = k := hinj _ _ (k1.symm.trans hek)
    have hn := h.nd
    have : p = (k, x) := by
      obtain ⟨i, hi, rfl⟩ := List.getElem_of_mem hp
      obtain ⟨j, hj, hje⟩ := List.getElem_of_mem hm
      have hij : i = j := nodup_ix hn (i := i) (j := j) (by simpa using hi) (by simpa using hj) (by simp [hpk, hje])
      subst hij; exact hje
    rw [k2, this]
  have hrun : (Instr.entry (.pointer (some ⟨q, 0, none⟩))).run P w = .ok (.tuple #[kf k, x]) w := by
    simp [Instr.entry, hr, hr2, hb, hfind, hek, hval]
  rw [hrun]
  exact ⟨by rw [hw]; exact hk, Like.refl w⟩
/-- an entry is taken out while the map is gone through -/
theorem del_it [DecidableEq κ] {τq : Nat} {K : Value → Heap → Prop} {t t2 : TypeId} (ko : KeyOk P Kt kf) (hT : P.underlying T = some (.map Kt Et)) (h : ItK kf s q r m vis τ τq) (hqr : q ≠ r) (k : κ)
    (hk : ∀ s' : TH, ItK kf s' q r (mdel k m) vis τ τq → On r s s' → s.h.size = s'.h.size → K (.tuple #[]) s'.h) :
    semW P (Builtin.delete_ #[T, t] t2 #[.map (some r), kf k]) E s.h K := .mk fun w hw => by
  obtain ⟨es, ck, seen, hg, he, h3, h4, h5⟩ := h.ex
  have h1 : (getObj r).run P w = .ok (.map es.toArray ck) w := by
    show Sem.run P (.getObj r .pure) w = _
    simp only [Sem.run, hw, hg]
  have h2 := ko.find k es (m.map (·.1)) (by rw [he.key, List.map_map]; rfl) w
  have hlen : es.length = m.length := by have := congrArg List.length he.key; simpa using this
  have hlt := h.map.lt
  unfold Builtin.delete_
  simp [run_under hT, h1, ko.check, h2]
  cases hf : findL k es (m.map (·.1)) 0 with
  | none =>
    obtain ⟨_, k4, k5⟩ := findL_none k es m 0 hlen hf .nilIface
    obtain ⟨h8, h9⟩ := setmap_on h.map he h.nd
    simp only [Sem.run_map, run_setmap hg _ w hw]
    rw [k4] at hk
    have := hk ⟨s.h.setIfInBounds r (.map es.toArray ck), s.g⟩ ⟨⟨es, ck, seen, by simp [hlt], he, by
      show (s.h.setIfInBounds r _)[q]? = _
      rw [Array.getElem?_setIfInBounds_ne (fun e => hqr e.symm)]; exact h3, h4, h5⟩, h.tag, h.tagq, h.nd, h.sub⟩ h9 (by simp)
    exact ⟨by rw [hw]; exact this, rfl, rfl, rfl⟩
  | some p =>
    obtain ⟨j, v⟩ := p
    obtain ⟨_, a, b, v', ea, eb, e, k3, k4, k5, k6, k7⟩ := findL_some k es m 0 j v hf
    simp only [Nat.sub_zero] at k5 k6
    subst k3 k4
    have hkey := he.key
    have hval := he.val
    simp only [List.map_append, List.map_cons] at hkey hval
    obtain ⟨k1, k2⟩ := List.append_inj hkey (by simp [k5, k6])
    obtain ⟨v1, v2⟩ := List.append_inj hval (by simp [k5, k6])
    simp only [List.cons.injEq] at k2 v2
    have hmod : (ea ++ e :: eb).eraseIdx j = ea ++ eb := by rw [← k6]; exact erase_mid _ _ _
    have hsub : ∀ e' ∈ ea ++ eb, e' ∈ ea ++ e :: eb := fun e' hm => by
      rcases List.mem_append.1 hm with hm | hm <;> simp [hm]
    have hent : Ents kf (ea ++ eb) ck (a ++ b) := by
      refine ⟨by simp [k1, k2.2], by simp [v1, v2.2], ?_, fun e' hm => he.old e' (hsub e' hm)⟩
      have := he.born
      simp only [List.map_append, List.map_cons] at this ⊢
      exact this.sublist (List.Sublist.append_left (List.sublist_cons_self _ _) _)
    have hnd : ((a ++ b).map (·.1)).Nodup := by
      have := h.nd
      simp only [List.map_append, List.map_cons] at this ⊢
      exact this.sublist (List.Sublist.append_left (List.sublist_cons_self _ _) _)
    obtain ⟨h8, h9⟩ := setmap_on h.map hent hnd
    simp only [hmod, Sem.run_map, run_setmap hg _ w hw]
    rw [mdel_mid (v := v') (b := b) k7] at hk
    have := hk ⟨s.h.setIfInBounds r (.map (ea ++ eb).toArray ck), s.g⟩ ⟨⟨ea ++ eb, ck, seen, by simp [hlt], hent, by
      show (s.h.setIfInBounds r _)[q]? = _
      rw [Array.getElem?_setIfInBounds_ne (fun e => hqr e.symm)]; exact h3, fun e' hm => h4 e' (hsub e' hm), fun vis' k' hv e' hm => h5 vis' k' hv e' (hsub e' hm)⟩, h.tag, h.tagq, hnd, h.sub⟩ h9 (by simp)
    exact ⟨by rw [hw]; exact this, rfl, rfl, rfl⟩
end
theorem mdel_sub {κ : Type} [DecidableEq κ] (k : κ) : ∀ m : List (κ × Value), (mdel k m).Sublist m
  | [] => List.Sublist.refl _
  | (k', v) :: m => by
    rw [mdel]
    split
    · exact List.sublist_cons_self _ _
    · exact (mdel_sub k m).cons_cons _
theorem filt_less {κ : Type} [DecidableEq κ] {k : κ} {x : Value} {vis : List κ} {m : List (κ × Value)} (h : (k, x) ∈ m) (hv : k ∉ vis) : (m.filter fun p => !decide (p.1 ∈ vis ++ [k])).length < (m.filter fun p => !decide (p.1 ∈ vis)).length := by
  have step : ∀ (p : κ × Value) (m : List (κ × Value)), ∃ a b : Nat, ((p :: m).filter fun p => !decide (p.1 ∈ vis ++ [k])).length = a + (m.filter fun p => !decide (p.1 ∈ vis ++ [k])).length ∧ ((p :: m).filter fun p => !decide (p.1 ∈ vis)).length = b + (m.filter fun p => !decide (p.1 ∈ vis)).length ∧ a ≤ b ∧ (p.1 = k → a < b) := fun p m => by
    rw [List.filter_cons, List.filter_cons]
    by_cases h1 : p.1 ∈ vis
    · have h2 : p.1 ∈ vis ++ [k] := List.mem_append_left _ h1
      rw [decide_eq_true h1, decide_eq_true h2]
      exact ⟨0, 0, by simp, by simp, Nat.le_refl _, fun e => absurd (e ▸ h1) hv⟩
    · rw [decide_eq_false h1]
      by_cases h2 : p.1 = k
      · have h3 : p.1 ∈ vis ++ [k] := List.mem_append_right _ (List.mem_singleton.2 h2)
        rw [decide_eq_true h3]
        exact ⟨0, 1, by simp, by simp; omega, by omega, fun _ => by omega⟩
      · have h3 : p.1 ∉ vis ++ [k] := fun h => (List.mem_append.1 h).elim h1 fun h => h2 (List.mem_singleton.1 h)
        rw [decide_eq_false h3]
        exact ⟨1, 1, by simp; omega, by simp; omega, Nat.le_refl _, fun e => absurd e h2⟩
  have hle : ∀ m : List (κ × Value), (m.filter fun p => !decide (p.1 ∈ vis ++ [k])).length ≤ (m.filter fun p => !decide (p.1 ∈ vis)).length := fun m => by
    induction m with
    | nil => simp
    | cons p m ih =>
      obtain ⟨a, b, e1, e2, e3, _⟩ := step p m
      omega
  induction m with
  | nil => cases h
  | cons p m ih =>
    obtain ⟨a, b, e1, e2, e3, e4⟩ := step p m
    rcases List.mem_cons.1 h with h | h
    · have := e4 (by rw [← h])
      have := hle m
      omega
    · have := ih h
      omega
theorem it_less {κ : Type} [DecidableEq κ] {kf : κ → Value} (hinj : ∀ a b, kf a = kf b → a = b) {s s' : TH} {q r τ τq : Nat} {m m' : List (κ × Value)} {vis : List κ} {k : κ} {x : Value} (it : ItK kf s q r m vis τ τq) (it' : ItK kf s' q r m' (vis ++ [k]) τ τq)
    (hm : (k, x) ∈ m) (hv : k ∉ vis) (hs : m'.Sublist m) : leftH s'.h q r < leftH s.h q r := by
  rw [it.left hinj, it'.left hinj]
  exact Nat.lt_of_le_of_lt (hs.filter _).length_le (filt_less hm hv)
theorem dNx_f {x : Prop} {k : Value → Value → Prop} (h : x) : dNx (.tuple #[.bool false]) x k := h
theorem dNx_t {x : Prop} {k : Value → Value → Prop} {a b : Value} (h : k a b) : dNx (.tuple #[.bool true, a, b]) x k := h
theorem iinj : ∀ a b : Int, Value.int .i64 a = Value.int .i64 b → a = b := fun a b h => by simpa using h
end Go.Proofs.YtngploohhmfaiaaGreat.E
/- sync.Mutex, entered alone, on marked states; the door of a function with one call put off. -/
namespace Go.Proofs.YtngploohhmfaiaaGreat.E
open Go Go.Conc.Locks
set_option linter.unusedVariables false
theorem setcell_on {s : TH} {r : Nat} {l : List Value} {t τ i : Nat} {v : Value} (h : Blk s r l t τ) {w : World} (hw : w.heap = s.h) :
    (⟨setH s.h ⟨r, i, none⟩ v, s.g⟩ : TH).h = (w.setCell ⟨r, i, none⟩ v).heap := by rw [set_eq, hw]
theorem on_ch {s s' : TH} {r : Nat} {l : List Value} {t τ : Nat} (h : Blk s r l t τ) (c : On r s s') : Ch [τ] s s' := Chg.mono c fun j _ e => by subst e; rw [h.tag]; simp
theorem like_set (w : World) (a : Addr) (v : Value) : Like w (w.setCell a v) := ⟨rfl, rfl, rfl⟩
theorem c_mlock {P : Program} {L : MuLink} (M : MuLib P L) {s : TH} {r i : Nat} {l : List Value} {t τ : Nat} (h : Blk s r l t τ) (hi : l[i]? = some (.int .i32 0)) :
    TRet P L.lock #[.pointer (some ⟨r, i, none⟩)] s fun v s' => v = .tuple #[] ∧ Ch [τ] s s' ∧ Blk s' r (l.set i (.int .i32 1)) t τ := by
  intro w hw
  refine (Go.MuLone.lock_free M ⟨r, i, none⟩ w ?_ ?_).mono ?_
  · rw [cell_eq, hw, h.cell]; exact hi
  · rw [frozen_eq, hw]; exact h.frozen i
  rintro e w' ⟨rfl, rfl⟩
  have := set_on (i := i) (v := .int .i32 1) h
  exact ⟨⟨_, _, rfl, setcell_on h hw, rfl, on_ch h this.2, this.1⟩, like_set w _ _⟩
theorem c_munlock {P : Program} {L : MuLink} (M : MuLib P L) {s : TH} {r i : Nat} {l : List Value} {t τ : Nat} (h : Blk s r l t τ) (hi : l[i]? = some (.int .i32 1)) :
    TRet P L.unlock #[.pointer (some ⟨r, i, none⟩)] s fun v s' => v = .tuple #[] ∧ Ch [τ] s s' ∧ Blk s' r (l.set i (.int .i32 0)) t τ := by
  intro w hw
  refine (Go.MuLone.unlock_held M ⟨r, i, none⟩ w ?_ ?_).mono ?_
  · rw [cell_eq, hw, h.cell]; exact hi
  · rw [frozen_eq, hw]; exact h.frozen i
  rintro e w' ⟨rfl, rfl⟩
  have := set_on (i := i) (v := .int .i32 0) h
  exact ⟨⟨_, _, rfl, setcell_on h hw, rfl, on_ch h this.2, this.1⟩, like_set w _ _⟩
/-- the Unlock put off, and the function's end behind it -/
theorem c_door {P : Program} {L : MuLink} (M : MuLib P L) {s : TH} {r i : Nat} {l : List Value} {t τ : Nat} (h : Blk s r l t τ) (hi : l[i]? = some (.int .i32 1))
    {fn : Func} {tmps : Array Value} {R : Ending → Heap → Prop} {v : Value} {K2 : List PanicEntry → FrameMode → Heap → Prop} (he : ∀ H, resK P fn tmps R H = R (.returned v) H)
    (hk : ∀ s' : TH, Blk s' r (l.set i (.int .i32 0)) t τ → On r s s' → s.h.size = s'.h.size → R (.returned v) s'.h) :
    HCallsD P L.unlock #[.pointer (some ⟨r, i, none⟩)] .returning s.h (fun e u H' => match e with
      | .returned _ => leavesV P fn tmps R [] (settle u) H'
      | .panicked c => K2 c u H'
      | .outgrown => False) := by
  intro w hw
  refine (Go.MuLone.unlock_deferred M ⟨r, i, none⟩ .returning w ?_ ?_).mono ?_
  · rw [cell_eq, hw, h.cell]; exact hi
  · rw [frozen_eq, hw]; exact h.frozen i
  rintro e u w' ⟨rfl, rfl, rfl⟩
  have := set_on (i := i) (v := .int .i32 0) h
  refine ⟨?_, like_set w _ _⟩
  show resK P fn tmps R _
  rw [he, ← setcell_on h hw]
  exact hk _ this.1 this.2 (by simp [setH])
end Go.Proofs.YtngploohhmfaiaaGreat.E
/- Appending so many noughts to bytes. -/
namespace Go.Proofs.YtngploohhmfaiaaGreat.E
open Go
set_option linter.unusedVariables false
theorem zeroB (m : Nat) : (Builtin.zeroCells (Value.int .u8 0).cells m).toList = bvs (List.replicate m 0) := by
  apply List.ext_getElem
  · simp [Builtin.zeroCells, bvs, Value.cells]
  · intro i h1 h2
    simp [Builtin.zeroCells, bvs, Value.cells, bv, Nat.mod_one]
section
variable {P : Program} {t tn ty e : TypeId} {i : TypeInfo} {E : List PanicEntry → Heap → Prop}
theorem run_append_room_z (w : World) {kn kq : IntKind} (ht : P.underlying t = some (.slice e)) (htn : P.underlying tn = some (.int kn)) (hi : P.info? e = some i) (hz : i.zero = some (.int .u8 0)) (hs : i.size = 1) (hby : i.bytes = 1)
    (g o sLen sCap m : Nat) (cur : Array Value) (hg : w.heap[g]? = some (.cells cur e (0, 0))) (hm : 0 < m) (hm2 : m ≤ 1000000000)
    (hroom : sLen + m ≤ sCap) (hfit : o + sLen + m ≤ cur.size) :
    (Builtin.append_ #[t, tn] ty #[.slice (some ⟨g, o, none⟩) sLen sCap, .int kq m]).run P w =
      .ok (.slice (some ⟨g, o, none⟩) (sLen + m) sCap) (w.setRow g (cur.toList.take (o + sLen) ++ bvs (List.replicate m 0) ++ cur.toList.drop (o + sLen + m)).toArray) := by
  have hst := run_storeCells_at P g (o + sLen) e (bvs (List.replicate m 0)) 0 cur w hg (by simp [bvs_len]; omega) (bvs_one _)
  simp only [Nat.add_zero, bvs_len, List.length_replicate] at hst
  have hadd : (⟨g, o, none⟩ : Addr).add sLen = ⟨g, o + sLen, none⟩ := by unfold Addr.add; split <;> simp_all
  have hw : IntKind.i64.wrap (m : Int) = m := by rw [IntKind.wrap_i64]; omega
  have hneg : ¬ ((m : Int) < 0) := by omega
  have h48 : ¬ (281474976710656 < (m : Int)) := by omega
  have hm0 : ¬ (m = 0) := by omega
  simp [Builtin.append_, run_underlying ht, run_underlying htn, sizeOf, typeInfo, zeroValue, hi, hz, hs, hby, asInt, asIntOf, hw, hneg, h48, hm0, hroom, hadd, zeroB, hst]
theorem appz_i {s : TH} {a : Option Addr} {n c m : Nat} {kn : IntKind} {l : List UInt8} {τ : Nat} {K : Value → Heap → Prop}
    (ht : P.underlying t = some (.slice e)) (htn : P.underlying tn = some (.int kn)) (hi' : (P.info? e).map (fun i => (i.zero, i.size, i.bytes)) = some (some (.int .u8 0), 1, 1))
    (hO : Own s a n c e 1 (bvs l) τ) (ha : a ≠ none) (hm : 0 < m) (hb : n ≤ 1000000000 ∧ m ≤ 1000000000)
    (hk : ∀ (s' : TH) (a' : Option Addr) (c' : Nat), Own s' a' (n + m) c' e 1 (bvs (l ++ List.replicate m 0)) τ → OnA a s s' → K (.slice a' (n + m) c') s'.h) :
    semW P (Builtin.append_ #[t, tn] ty #[.slice a n c, .int .i64 (m : Int)]) E s.h K := .mk fun w hw => by
  obtain ⟨i, hi, hz, hs, hby⟩ := info_of hi'
  have hlen : (bvs (l ++ List.replicate m 0)).length = (n + m) * 1 := by
    have := hO.1; rw [bvs_len] at this ⊢; rw [List.length_append, List.length_replicate]; omega
  have hxl := hO.1
  rw [bvs_len] at hxl
  have happ : bvs (l ++ List.replicate m 0) = bvs l ++ bvs (List.replicate m 0) := by simp [bvs]
  rcases hO.2 with ⟨rfl, rfl, rfl⟩ | ⟨g, o, L, rfl, hB, hnc, hcm, hcs, htake⟩
  · exact absurd rfl ha
  · by_cases hroom : n + m ≤ c
    · have hr := run_append_room_z (P := P) (ty := ty) (kq := .i64) w ht htn hi hz hs hby g o n c m L.toArray (by rw [hw]; exact hB.get) hm hb.2 hroom (by simp; omega)
      rw [hr]
      have hset : (w.setRow g (L.take (o + n) ++ bvs (List.replicate m 0) ++ L.drop (o + n + m)).toArray).heap[g]? = some (.cells (L.take (o + n) ++ bvs (List.replicate m 0) ++ L.drop (o + n + m)).toArray e (0, 0)) := setRow_heap w g L.toArray _ e _ (by rw [hw]; exact hB.get)
      have hK := hk ⟨(w.setRow g (L.take (o + n) ++ bvs (List.replicate m 0) ++ L.drop (o + n + m)).toArray).heap, s.g⟩ (some ⟨g, o, none⟩) c ⟨hlen, .inr ⟨g, o, _, rfl, ⟨hset, hB.tag⟩, hroom, hcm, ?_, ?_⟩⟩ ⟨by simp [← hw], fun _ _ => rfl, fun j hj hn => ?_⟩
      · exact ⟨hK, rfl, rfl, rfl⟩
      · simp only [List.length_append, List.length_take, List.length_drop, bvs_len, List.length_replicate]; omega
      · have e1 : (L.take (o + n) ++ bvs (List.replicate m 0) ++ L.drop (o + n + m)).drop o = (L.drop o).take n ++ bvs (List.replicate m 0) ++ L.drop (o + n + m) := by
          rw [List.append_assoc, List.drop_append_of_le_length (by simp; omega), List.drop_take, ← List.append_assoc]
          congr 2; congr 1; omega
        rw [Nat.mul_one] at htake
        rw [e1, htake, ← happ, ← hlen]; exact List.take_left
      · show (w.setRow g _).heap[j]? = _
        rw [setRow_other w g j _ (fun e => hn (by simp [e])), hw]
    · have hold : (Builtin.firstCells i.size n (.slice (some ⟨g, o, none⟩) n c)).run P w.drew = .ok (bvs l).toArray w.drew := by
        have hcl := hO.sl.cells w.drew (by exact hw)
        exact run_firstCells_some (P := P) w.drew i.size n ⟨g, o, none⟩ n c (bvs l) (by rw [hs]; exact hO.1) hcl
      have hr := Go.Lib.run_append_grow_zeros (P := P) w t tn ty e i (.int .u8 0) .i64 kn ht htn hi hz (some ⟨g, o, none⟩) n c (bvs l) hold m hm (by omega) (by omega) (by omega) (by rw [hby]; omega) (growslice_fits (by omega) (by rw [hby]; omega))
      rw [hr]
      have hge := grownCap_ge w (n + m) c e
      have hcm' : grownCap w (n + m) c e ≤ maxLen := grownCap_le_maxLen w (n + m) c e (by unfold maxLen; omega)
      have hL : (bvs l).toArray ++ Builtin.zeroCells (Value.int .u8 0).cells m ++ Builtin.zeroCells (Value.int .u8 0).cells (grownCap w (n + m) c e - (n + m)) = (bvs (l ++ List.replicate m 0) ++ bvs (List.replicate (grownCap w (n + m) c e - (n + m)) 0)).toArray := by
        apply Array.toList_inj.1
        simp only [Array.toList_append, zeroB, happ]
      rw [hL]
      refine ⟨?_, rfl, rfl, rfl⟩
      have hh : (w.drew.alloc (.cells (bvs (l ++ List.replicate m 0) ++ bvs (List.replicate (grownCap w (n + m) c e - (n + m)) 0)).toArray e)).heap = s.h.push (.cells (bvs (l ++ List.replicate m 0) ++ bvs (List.replicate (grownCap w (n + m) c e - (n + m)) 0)).toArray e) := by rw [← hw]; rfl
      rw [hh]
      rw [show w.heap.size = s.h.size by rw [hw]]
      refine hk ⟨s.h.push (.cells (bvs (l ++ List.replicate m 0) ++ bvs (List.replicate (grownCap w (n + m) c e - (n + m)) 0)).toArray e), upd s.g s.h.size τ⟩ _ _ ⟨hlen, .inr ⟨s.h.size, 0, _, rfl, ⟨Array.getElem?_push_size .., by simp [upd]⟩, hge, hcm', ?_, ?_⟩⟩ ?_
      · rw [List.length_append, hlen, bvs_len, List.length_replicate]; omega
      · rw [← hlen, List.drop_zero]; exact List.take_left
      · exact Chg.mono (pushed s _ τ) fun _ _ h => by simp at h
end
end Go.Proofs.YtngploohhmfaiaaGreat.E
/- A constant text's bytes; appending to what is full. -/
namespace Go.Proofs.YtngploohhmfaiaaGreat.E
open Go
set_option linter.unusedVariables false
section
variable {P : Program} {t tn ty e : TypeId} {E : List PanicEntry → Heap → Prop}
theorem freezeH_get {H : Heap} {r n : Nat} {c : Array Value} {e : TypeId} (h : H[r]? = some (.cells c e (0, 0))) : (freezeH H ⟨r, n, none⟩ 1)[r]? = some (.cells c e (n, n + 1)) := by
  unfold freezeH World.freeze
  rw [if_neg (by decide)]
  show (H.modify r _)[r]? = _
  rw [modify_get, if_pos rfl, h]
  rfl
theorem freezeH_other {H : Heap} {r n j : Nat} (h : j ≠ r) : (freezeH H ⟨r, n, none⟩ 1)[j]? = H[j]? := by
  unfold freezeH World.freeze
  rw [if_neg (by decide)]
  show (H.modify r _)[j]? = _
  rw [modify_get, if_neg (fun e => h e.symm)]
theorem freezeH_size {H : Heap} {r n : Nat} : (freezeH H ⟨r, n, none⟩ 1).size = H.size := by
  unfold freezeH World.freeze
  rw [if_neg (by decide)]
  show (H.modify r _).size = _
  simp
theorem conv_lit {s : TH} {r n τ : Nat} {l : List Value} {K : Value → Heap → Prop} (ht : P.underlying t = some (.slice e)) (he : P.underlying e = some (.int .u8)) (h : Blk s r l e τ) (hn : l.length = n)
    (hk : ∀ s' : TH, Sl s' (some ⟨r, 0, none⟩) l τ → On r s s' → s.h.size = s'.h.size → K (.slice (some ⟨r, 0, none⟩) n n) s'.h) :
    semW P (convert t t (.slice (some ⟨r, 0, none⟩) n n)) E s.h K := .mk fun w hw => by
  have hsh : w.shape? r = some (e, n) := by rw [shape_eq, hw]; simp [shapeH, h.get, hn]
  have hrun : (convert t t (.slice (some ⟨r, 0, none⟩) n n)).run P w = .ok (.slice (some ⟨r, 0, none⟩) n n) (w.freeze ⟨r, n, none⟩ 1) := by
    simp [convert, run_underlying ht, run_underlying he, markStringish, hsh]
  rw [hrun]
  have hg := freezeH_get (n := n) h.get
  refine ⟨?_, ?_⟩
  · show K _ (w.freeze ⟨r, n, none⟩ 1).heap
    rw [freeze_eq, hw]
    refine hk ⟨freezeH s.h ⟨r, n, none⟩ 1, s.g⟩ (.inr ⟨r, 0, rfl, by show r < (freezeH _ _ _).size; rw [freezeH_size]; exact h.lt, h.tag, fun j v hv => ?_⟩) ⟨by show _ ≤ (freezeH _ _ _).size; rw [freezeH_size]; exact Nat.le_refl _, fun _ _ => rfl, fun j hj hne => freezeH_other hne⟩ (by show _ = (freezeH _ _ _).size; rw [freezeH_size])
    show cellH (freezeH s.h ⟨r, n, none⟩ 1) ⟨r, 0 + j, none⟩ = some v
    simp [cellH, hg, hv]
  · unfold World.freeze
    split <;> exact ⟨rfl, rfl, rfl⟩
/-- what a new row of so many bytes is -/
theorem new_own {s : TH} {L : List UInt8} {rest : Nat} {e τ cap : Nat} (hcap : L.length + rest = cap) (hc : cap ≤ maxLen) :
    Own ⟨s.h.push (.cells (bvs L ++ bvs (List.replicate rest 0)).toArray e), upd s.g s.h.size τ⟩ (some ⟨s.h.size, 0, none⟩) L.length cap e 1 (bvs L) τ := by
  refine ⟨by rw [bvs_len]; omega, .inr ⟨s.h.size, 0, _, rfl, ⟨Array.getElem?_push_size .., by simp [upd]⟩, by omega, hc, ?_, ?_⟩⟩
  · rw [List.length_append, bvs_len, bvs_len, List.length_replicate]; omega
  · rw [List.drop_zero, show L.length * 1 = (bvs L).length by rw [bvs_len]; omega]; exact List.take_left
theorem appz_g {s : TH} {a : Addr} {n m : Nat} {kn : IntKind} {l : List UInt8} {τ : Nat} (τ' : Nat) {K : Value → Heap → Prop}
    (ht : P.underlying t = some (.slice e)) (htn : P.underlying tn = some (.int kn)) (hi' : (P.info? e).map (fun i => (i.zero, i.size, i.bytes)) = some (some (.int .u8 0), 1, 1))
    (hx : Sl s (some a) (bvs l) τ) (hl : l.length = n) (hm : 0 < m) (hb : n ≤ 1000000000 ∧ m ≤ 1000000000)
    (hk : ∀ (s' : TH) (a' : Option Addr) (c' : Nat), Own s' a' (n + m) c' e 1 (bvs (l ++ List.replicate m 0)) τ' → Ch [] s s' → a' ≠ none → K (.slice a' (n + m) c') s'.h) :
    semW P (Builtin.append_ #[t, tn] ty #[.slice (some a) n n, .int .i64 (m : Int)]) E s.h K := .mk fun w hw => by
  obtain ⟨i, hi, hz, hs, hby⟩ := info_of hi'
  have hold : (Builtin.firstCells i.size n (.slice (some a) n n)).run P w.drew = .ok (bvs l).toArray w.drew :=
    run_firstCells_some (P := P) w.drew i.size n a n n (bvs l) (by rw [hs, bvs_len]; omega) (hx.cells w.drew (by exact hw))
  have hr := Go.Lib.run_append_grow_zeros (P := P) w t tn ty e i (.int .u8 0) .i64 kn ht htn hi hz (some a) n n (bvs l) hold m hm (by omega) (by omega) (by omega) (by rw [hby]; omega) (growslice_fits (by omega) (by rw [hby]; omega))
  rw [hr]
  have hge := grownCap_ge w (n + m) n e
  have hcm : grownCap w (n + m) n e ≤ maxLen := grownCap_le_maxLen w (n + m) n e (by unfold maxLen; omega)
  have hL : (bvs l).toArray ++ Builtin.zeroCells (Value.int .u8 0).cells m ++ Builtin.zeroCells (Value.int .u8 0).cells (grownCap w (n + m) n e - (n + m)) = (bvs (l ++ List.replicate m 0) ++ bvs (List.replicate (grownCap w (n + m) n e - (n + m)) 0)).toArray := by
    apply Array.toList_inj.1
    simp only [Array.toList_append, zeroB]
    simp [bvs]
  rw [hL]
  refine ⟨?_, rfl, rfl, rfl⟩
  have hh : (w.drew.alloc (.cells (bvs (l ++ List.replicate m 0) ++ bvs (List.replicate (grownCap w (n + m) n e - (n + m)) 0)).toArray e)).heap = s.h.push (.cells (bvs (l ++ List.replicate m 0) ++ bvs (List.replicate (grownCap w (n + m) n e - (n + m)) 0)).toArray e) := by rw [← hw]; rfl
  rw [hh, show w.heap.size = s.h.size by rw [hw]]
  have ho := new_own (s := s) (L := l ++ List.replicate m 0) (rest := grownCap w (n + m) n e - (n + m)) (e := e) (τ := τ') (cap := grownCap w (n + m) n e) (by simp; omega) hcm
  rw [show (l ++ List.replicate m (0 : UInt8)).length = n + m by simp [hl]] at ho
  exact hk _ _ _ ho (pushed s _ τ') (by simp)
theorem app_g {s : TH} {a b : Addr} {n m mc : Nat} {l x : List UInt8} {τ τx : Nat} (τ' : Nat) {K : Value → Heap → Prop}
    (ht : P.underlying t = some (.slice e)) (hi' : (P.info? e).map (fun i => (i.zero, i.size, i.bytes)) = some (some (.int .u8 0), 1, 1))
    (hx : Sl s (some a) (bvs l) τ) (hl : l.length = n) (hy : Sl s (some b) (bvs x) τx) (hxl : x.length = m) (hm : 0 < m) (hb : n ≤ 1000000000 ∧ m ≤ 1000000000)
    (hk : ∀ (s' : TH) (a' : Option Addr) (c' : Nat), Own s' a' (n + m) c' e 1 (bvs (l ++ x)) τ' → Ch [] s s' → a' ≠ none → K (.slice a' (n + m) c') s'.h) :
    semW P (Builtin.append_ #[t, t] ty #[.slice (some a) n n, .slice (some b) m mc]) E s.h K := .mk fun w hw => by
  obtain ⟨i, hi, hz, hs, hby⟩ := info_of hi'
  have hr := run_append_grow (P := P) w t ty e i (.int .u8 0) ht hi hz a n n (bvs l) (by rw [hs, bvs_len]; omega) (hx.cells w hw) b m mc (bvs x) (by rw [hs, bvs_len]; omega) (hy.cells w hw) (by omega) (by omega) (growslice_fits (by omega) (by rw [hby]; omega))
  rw [hr]
  have hge := grownCap_ge w (n + m) n e
  have hcm : grownCap w (n + m) n e ≤ maxLen := grownCap_le_maxLen w (n + m) n e (by unfold maxLen; omega)
  have hL : (bvs l).toArray ++ (bvs x).toArray ++ Builtin.zeroCells (Value.int .u8 0).cells (grownCap w (n + m) n e - (n + m)) = (bvs (l ++ x) ++ bvs (List.replicate (grownCap w (n + m) n e - (n + m)) 0)).toArray := by
    apply Array.toList_inj.1
    simp only [Array.toList_append, zeroB]
    simp [bvs]
  rw [hL]
  refine ⟨?_, rfl, rfl, rfl⟩
  have hh : (w.drew.alloc (.cells (bvs (l ++ x) ++ bvs (List.replicate (grownCap w (n + m) n e - (n + m)) 0)).toArray e)).heap = s.h.push (.cells (bvs (l ++ x) ++ bvs (List.replicate (grownCap w (n + m) n e - (n + m)) 0)).toArray e) := by rw [← hw]; rfl
  rw [hh, show w.heap.size = s.h.size by rw [hw]]
  have ho := new_own (s := s) (L := l ++ x) (rest := grownCap w (n + m) n e - (n + m)) (e := e) (τ := τ') (cap := grownCap w (n + m) n e) (by simp; omega) hcm
  rw [show (l ++ x).length = n + m by simp [hl, hxl]] at ho
  exact hk _ _ _ ho (pushed s _ τ') (by simp)
end
end Go.Proofs.YtngploohhmfaiaaGreat.E
/- Copying bytes, or a text's, into a part of a slice of its own. -/
namespace Go.Proofs.YtngploohhmfaiaaGreat.E
open Go
set_option linter.unusedVariables false
section
variable {P : Program} {t t2 ty e : TypeId} {E : List PanicEntry → Heap → Prop}
theorem mid_get {α : Type} (A B : List α) (p : Nat) (hp : p ≤ A.length) (hB : p + B.length ≤ A.length) (i : Nat) :
    (A.take p ++ B ++ A.drop (p + B.length))[i]? = if i < p then A[i]? else if i < p + B.length then B[i - p]? else A[i]? := by
  have h1 : (A.take p).length = p := by simp; omega
  rw [List.append_assoc, List.getElem?_append, h1]
  by_cases h : i < p
  · rw [if_pos h, if_pos h, List.getElem?_take, if_pos h]
  · rw [if_neg h, if_neg h, List.getElem?_append]
    by_cases h2 : i < p + B.length
    · rw [if_pos (by omega), if_pos h2]
    · rw [if_neg (by omega), if_neg h2, List.getElem?_drop]
      congr 1; omega
theorem copy_gen {s : TH} {a : Addr} {n c p m : Nat} {l x : List UInt8} {τ : Nat} {src : Value} {K : Value → Heap → Prop}
    (ht : P.underlying t = some (.slice e)) (hi' : (P.info? e).map (fun i => (i.zero, i.size, i.bytes)) = some (some (.int .u8 0), 1, 1))
    (hO : Own s (some a) n c e 1 (bvs l) τ) (hp : p ≤ n) (hlen : ∀ w, (Builtin.lenOf src).run P w = .ok m w) (hx : x.length = min m (n - p))
    (hf : ∀ w : World, w.heap = s.h → (Builtin.firstCells 1 (min m (n - p)) src).run P w = .ok (bvs x).toArray w)
    (hk : ∀ s' : TH, Own s' (some a) n c e 1 (bvs (l.take p ++ x ++ l.drop (p + x.length))) τ → OnA (some a) s s' → s.h.size = s'.h.size → K (.int .i64 ((min m (n - p) : Nat) : Int)) s'.h) :
    semW P (Builtin.copy_ #[t, t2] ty #[.slice (slO (some a) 1 (p : Int) (c : Int)) (n - p) (c - p), src]) E s.h K := .mk fun w hw => by
  obtain ⟨i, hi, hz, hs, hby⟩ := info_of hi'
  have hln : l.length = n := by have := hO.1; rw [bvs_len] at this; omega
  rcases hO.2 with ⟨h0, _⟩ | ⟨g, o, L, h2, h3, h4, h5, h6, h7⟩
  · cases h0
  cases h2
  have hfw := hf w hw
  by_cases hx0 : x = []
  · subst hx0
    have hm0 : min m (n - p) = 0 := by simpa using hx.symm
    rw [hm0] at hfw hk
    have hr : (Builtin.copy_ #[t, t2] ty #[.slice (slO (some ⟨g, o, none⟩) 1 (p : Int) (c : Int)) (n - p) (c - p), src]).run P w = .ok (.int .i64 ((0 : Nat) : Int)) w := by
      simp [slO, Builtin.copy_, run_underlying ht, sizeOf, typeInfo, hi, hs, hlen, hm0, hfw, bvs, storeCells, goInt]
    rw [hr]
    refine ⟨?_, Like.refl w⟩
    rw [hw]
    exact hk s (by simpa using hO) ⟨Nat.le_refl _, fun _ _ => rfl, fun _ _ _ => rfl⟩ rfl
  · have hxl : 0 < x.length := List.length_pos_iff.2 hx0
    have hsl : slO (some ⟨g, o, none⟩) 1 (p : Int) (c : Int) = some ⟨g, o + p, none⟩ := by rw [slA_mk, if_neg (by omega)]; simp
    have hst := run_storeCells_at P g (o + p) e (bvs x) 0 L.toArray w (by rw [hw]; exact h3.get) (by simp [bvs_len]; omega) (bvs_one _)
    simp only [Nat.add_zero, bvs_len] at hst
    have hr : (Builtin.copy_ #[t, t2] ty #[.slice (slO (some ⟨g, o, none⟩) 1 (p : Int) (c : Int)) (n - p) (c - p), src]).run P w = .ok (.int .i64 ((min m (n - p) : Nat) : Int)) (w.setRow g (L.take (o + p) ++ bvs x ++ L.drop (o + p + x.length)).toArray) := by
      rw [hsl]
      simp [Builtin.copy_, run_underlying ht, sizeOf, typeInfo, hi, hs, hlen, hfw, hst, goInt]
    rw [hr]
    have hset : (w.setRow g (L.take (o + p) ++ bvs x ++ L.drop (o + p + x.length)).toArray).heap[g]? = some (.cells (L.take (o + p) ++ bvs x ++ L.drop (o + p + x.length)).toArray e (0, 0)) := setRow_heap w g L.toArray _ e _ (by rw [hw]; exact h3.get)
    have hK := hk ⟨(w.setRow g (L.take (o + p) ++ bvs x ++ L.drop (o + p + x.length)).toArray).heap, s.g⟩ ⟨?_, .inr ⟨g, o, _, rfl, ⟨hset, h3.tag⟩, h4, h5, ?_, ?_⟩⟩ ⟨by simp [← hw], fun _ _ => rfl, fun j hj hn => ?_⟩ (by simp [← hw])
    · exact ⟨hK, rfl, rfl, rfl⟩
    · rw [bvs_len]; simp; omega
    · simp only [List.length_append, List.length_take, List.length_drop, bvs_len]; omega
    · apply List.ext_getElem?
      intro j
      have hLl : ∀ q, q < n → L[o + q]? = (bvs l)[q]? := fun q hq => by rw [← h7, List.getElem?_take, if_pos (by omega), List.getElem?_drop]
      have hb : bvs (l.take p ++ x ++ l.drop (p + x.length)) = (bvs l).take p ++ bvs x ++ (bvs l).drop (p + (bvs x).length) := by simp [bvs, List.map_take, List.map_drop]
      rw [hb, mid_get _ _ _ (by rw [bvs_len]; omega) (by rw [bvs_len, bvs_len]; omega), List.getElem?_take]
      have hmid := mid_get L (bvs x) (o + p) (by omega) (by rw [bvs_len]; omega) (o + j)
      rw [bvs_len] at hmid ⊢
      by_cases hj : j < n * 1
      · rw [if_pos hj, List.getElem?_drop, hmid]
        by_cases h8 : j < p
        · rw [if_pos (by omega), if_pos h8]; exact hLl j (by omega)
        · rw [if_neg (by omega), if_neg h8]
          by_cases h9 : j < p + x.length
          · rw [if_pos (by omega), if_pos h9]; congr 1; omega
          · rw [if_neg (by omega), if_neg h9]; exact hLl j (by omega)
      · rw [if_neg hj, if_neg (by omega), if_neg (by omega)]
        exact (List.getElem?_eq_none (by rw [bvs_len]; omega)).symm
    · show (w.setRow g _).heap[j]? = _
      rw [setRow_other w g j _ (fun e => hn (by simp [e])), hw]
theorem copy_os {s : TH} {a : Addr} {n c p : Nat} {l : List UInt8} {τ : Nat} (d : Array UInt8) {K : Value → Heap → Prop}
    (ht : P.underlying t = some (.slice e)) (hi' : (P.info? e).map (fun i => (i.zero, i.size, i.bytes)) = some (some (.int .u8 0), 1, 1))
    (hO : Own s (some a) n c e 1 (bvs l) τ) (hp : p ≤ n)
    (hk : ∀ s' : TH, Own s' (some a) n c e 1 (bvs (l.take p ++ d.toList.take (n - p) ++ l.drop (p + (d.toList.take (n - p)).length))) τ → OnA (some a) s s' → s.h.size = s'.h.size → K (.int .i64 ((min d.size (n - p) : Nat) : Int)) s'.h) :
    semW P (Builtin.copy_ #[t, t2] ty #[.slice (slO (some a) 1 (p : Int) (c : Int)) (n - p) (c - p), .string ⟨d⟩]) E s.h K := by
  refine copy_gen (m := d.size) (x := d.toList.take (n - p)) ht hi' hO hp (fun w => rfl) (by simp; omega) (fun w hw => ?_) hk
  simp only [Builtin.firstCells]
  show Result.ok _ w = _
  congr 1
  apply Array.toList_inj.1
  simp only [bvs, Array.toList_map, ByteArray.data_extract, Array.toList_extract]
  apply List.ext_getElem?
  intro j
  simp [List.getElem?_take]
  by_cases h : j < d.size ∧ j < n - p
  · simp [h.1, h.2]; exact ⟨by omega, rfl⟩
  · by_cases h1 : j < n - p
    · have : ¬ j < d.size := fun h2 => h ⟨h2, h1⟩
      simp [h1, this]
    · simp [h1]; omega
end
end Go.Proofs.YtngploohhmfaiaaGreat.E
/- Loads out of rows of bytes and numbers; rows of records of any kind. -/
namespace Go.Proofs.YtngploohhmfaiaaGreat.E
open Go
set_option linter.unusedVariables false
set_option linter.unusedSimpArgs false
section
variable {s : TH} {a : Addr} {τ : Nat} {k : Value → Prop}
end
/-- rows of records: each so many cells -/
structure Rp (α : Type) where
  k : Nat
  r : TH → Nat → α → List Value → Prop
  len : ∀ {s τ x l}, r s τ x l → l.length = k
  one : ∀ {s τ x l}, r s τ x l → ∀ u ∈ l, u.oneCell' = true
  mv : ∀ {s s' : TH} {τ x l} {B : Nat → Prop}, r s τ x l → Chg B s s' → (∀ j, j < s.h.size → s.g j = τ → ¬ B j) → r s' τ x l
def RL {α : Type} (R : Rp α) (s : TH) (τ : Nat) : List α → List Value → Prop
  | [], l => l = []
  | x :: xs, l => ∃ c r, l = c ++ r ∧ R.r s τ x c ∧ RL R s τ xs r
section
variable {α : Type} {R : Rp α} {s s' : TH} {τ : Nat}
theorem RL.mv {B : Nat → Prop} : ∀ {xs : List α} {l : List Value}, RL R s τ xs l → Chg B s s' → (∀ j, j < s.h.size → s.g j = τ → ¬ B j) → RL R s' τ xs l
  | [], l, h, c, hn => h
  | x :: xs, l, ⟨c0, r, h1, h2, h3⟩, c, hn => ⟨c0, r, h1, R.mv h2 c hn, RL.mv h3 c hn⟩
theorem RL.len : ∀ {xs : List α} {l : List Value}, RL R s τ xs l → l.length = xs.length * R.k
  | [], l, h => by rw [show l = [] from h]; simp
  | x :: xs, l, ⟨c0, r, h1, h2, h3⟩ => by rw [h1, List.length_append, R.len h2, RL.len h3, List.length_cons, Nat.add_mul]; omega
theorem RL.one : ∀ {xs : List α} {l : List Value}, RL R s τ xs l → ∀ u ∈ l, u.oneCell' = true
  | [], l, h, u, hu => by rw [show l = [] from h] at hu; cases hu
  | x :: xs, l, ⟨c0, r, h1, h2, h3⟩, u, hu => by
    rw [h1] at hu
    rcases List.mem_append.1 hu with hu | hu
    · exact R.one h2 u hu
    · exact RL.one h3 u hu
theorem RL.app : ∀ {xs ys : List α} {l m : List Value}, RL R s τ xs l → RL R s τ ys m → RL R s τ (xs ++ ys) (l ++ m)
  | [], ys, l, m, h, k => by rw [show l = [] from h]; exact k
  | x :: xs, ys, l, m, ⟨c0, r, h1, h2, h3⟩, k => ⟨c0, r ++ m, by rw [h1, List.append_assoc], h2, RL.app h3 k⟩
theorem RL.get : ∀ {xs : List α} {l : List Value} {i : Nat} {x : α}, RL R s τ xs l → xs[i]? = some x → ∃ c, R.r s τ x c ∧ ∀ j, j < R.k → l[i * R.k + j]? = c[j]?
  | [], l, i, x, h, hx => by simp at hx
  | y :: xs, l, 0, x, ⟨c0, r, h1, h2, h3⟩, hx => by
    simp at hx; subst hx
    exact ⟨c0, h2, fun j hj => by rw [h1, Nat.zero_mul, Nat.zero_add, List.getElem?_append_left (by rw [R.len h2]; exact hj)]⟩
  | y :: xs, l, i + 1, x, ⟨c0, r, h1, h2, h3⟩, hx => by
    obtain ⟨c, h4, h5⟩ := RL.get h3 (by simpa using hx)
    refine ⟨c, h4, fun j hj => ?_⟩
    rw [h1, List.getElem?_append_right (by rw [R.len h2, Nat.add_mul]; omega), R.len h2, ← h5 j hj]
    congr 1; rw [Nat.add_mul]; omega
theorem RL.take : ∀ {xs : List α} {l : List Value} (i : Nat), RL R s τ xs l → RL R s τ (xs.take i) (l.take (i * R.k))
  | _, _, 0, _ => by simp [RL]
  | [], l, i + 1, h => by rw [show l = [] from h]; simp [RL]
  | x :: xs, l, i + 1, ⟨c0, r, h1, h2, h3⟩ => by
    refine ⟨c0, r.take (i * R.k), ?_, h2, RL.take i h3⟩
    rw [h1, Nat.add_mul, Nat.one_mul, List.take_append, R.len h2, List.take_of_length_le (by rw [R.len h2]; omega)]
    congr 2; omega
theorem RL.drop : ∀ {xs : List α} {l : List Value} (i : Nat), RL R s τ xs l → RL R s τ (xs.drop i) (l.drop (i * R.k))
  | _, _, 0, h => by simpa using h
  | [], l, i + 1, h => by rw [show l = [] from h]; simp [RL]
  | x :: xs, l, i + 1, ⟨c0, r, h1, h2, h3⟩ => by
    have e : List.drop (i * R.k + R.k) c0 = [] := List.drop_eq_nil_iff.2 (by rw [R.len h2]; omega)
    rw [h1, Nat.add_mul, Nat.one_mul, List.drop_append, R.len h2, e, List.nil_append, List.drop_succ_cons, show i * R.k + R.k - R.k = i * R.k by omega]
    exact RL.drop i h3
theorem RL.all {Q : α → Prop} (hQ : ∀ {x c}, R.r s τ x c → Q x) : ∀ {xs : List α} {l : List Value}, RL R s τ xs l → ∀ x ∈ xs, Q x
  | [], l, h, x, hx => by cases hx
  | y :: xs, l, ⟨c0, r, h1, h2, h3⟩, x, hx => by
    rcases List.mem_cons.1 hx with rfl | hx
    · exact hQ h2
    · exact RL.all hQ h3 x hx
end
end Go.Proofs.YtngploohhmfaiaaGreat.E
/- Marks that no old block has; appends of numbers and bytes. -/
namespace Go.Proofs.YtngploohhmfaiaaGreat.E
open Go
set_option linter.unusedVariables false
set_option linter.unusedSimpArgs false
theorem fresh6 (s : TH) (a b c d e f : Nat) : ∃ M, (∀ j, j < s.h.size → s.g j < M) ∧ 10 ≤ M ∧ a < M ∧ b < M ∧ c < M ∧ d < M ∧ e < M ∧ f < M := by
  have h : ∀ n, ∃ m, ∀ j, j < n → s.g j < m := fun n => by
    induction n with
    | zero => exact ⟨0, fun j hj => by omega⟩
    | succ n ih =>
      obtain ⟨m, hm⟩ := ih
      refine ⟨m + s.g n + 1, fun j hj => ?_⟩
      by_cases e : j = n
      · subst e; omega
      · have := hm j (by omega); omega
  obtain ⟨m, hm⟩ := h s.h.size
  exact ⟨m + a + b + c + d + e + f + 10, fun j hj => by have := hm j hj; omega, by omega, by omega, by omega, by omega, by omega, by omega, by omega⟩
theorem Ch.fr {T T' : List Nat} {a b c : TH} {M : Nat} (h : Ch T a b) (k : Ch T' b c) (hM : ∀ j, j < a.h.size → a.g j < M) (hT : ∀ x ∈ T', x ∈ T ∨ M ≤ x) : Ch T a c :=
  Chg.trans h k fun j hj hB => by
    have hB : b.g j ∈ T' := hB
    rw [h.tag j hj] at hB
    rcases hT _ hB with h1 | h1
    · exact h1
    · have := hM j hj; omega
theorem Ch.app {T T' : List Nat} {a b c : TH} (h : Ch T a b) (k : Ch T' b c) : Ch (T ++ T') a c :=
  Chg.trans (h.less (T' := T ++ T') fun x hx => List.mem_append_left _ hx) k fun j hj hB => by
    have hB : b.g j ∈ T' := hB
    rw [h.tag j hj] at hB
    exact List.mem_append_right _ hB
/-- a result's blocks get another mark -/
def remark (s : TH) (μ τ : Nat) : TH := ⟨s.h, fun j => if s.g j = μ then τ else s.g j⟩
theorem ret_t' {Q : Value → TH → Prop} {v : Value} {s s' : TH} (hs : s'.h = s.h) (h : Q v s') : RT Q (.returned v) s.h := ⟨v, s', rfl, hs, h⟩
theorem remark_ch {T : List Nat} {s s' : TH} {M μ τ : Nat} (c : Ch T s s') (hM : ∀ j, j < s.h.size → s.g j < M) (hμ : M ≤ μ) : Ch T s (remark s' μ τ) :=
  ⟨c.size, fun j hj => by
    have h1 := c.tag j hj
    have h2 := hM j hj
    show (if s'.g j = μ then τ else s'.g j) = s.g j
    rw [h1, if_neg (by omega)], c.get⟩
theorem remark_chg {s : TH} {μ τ : Nat} {σ : Nat} (h : σ ≠ μ) : ∀ j, s.g j = σ → (remark s μ τ).g j = σ := fun j hj => by
  show (if s.g j = μ then τ else s.g j) = σ
  rw [hj, if_neg h]
theorem remark_to {s : TH} {μ τ : Nat} : ∀ j, s.g j = μ → (remark s μ τ).g j = τ := fun j hj => by
  show (if s.g j = μ then τ else s.g j) = τ
  rw [if_pos hj]
theorem Own.remark {s : TH} {a : Option Addr} {n c e k : Nat} {xs : List Value} {μ τ : Nat} (h : Own s a n c e k xs μ) : Own (remark s μ τ) a n c e k xs τ := by
  refine ⟨h.1, h.2.imp id ?_⟩
  rintro ⟨g, o, L, h1, h2, h3⟩
  exact ⟨g, o, L, h1, ⟨h2.get, remark_to g h2.tag⟩, h3⟩
theorem Sl.remark {s : TH} {a : Option Addr} {l : List Value} {μ τ : Nat} (h : Sl s a l μ) : Sl (remark s μ τ) a l τ := by
  refine h.imp id ?_
  rintro ⟨g, o, h1, h2, h3, h4⟩
  exact ⟨g, o, h1, h2, remark_to g h3, h4⟩
theorem Sl.keep {s : TH} {a : Option Addr} {l : List Value} {σ μ τ : Nat} (h : Sl s a l σ) (hn : σ ≠ μ) : Sl (E.remark s μ τ) a l σ := by
  refine h.imp id ?_
  rintro ⟨g, o, h1, h2, h3, h4⟩
  exact ⟨g, o, h1, h2, remark_chg hn g h3, h4⟩
theorem Own.keep {s : TH} {a : Option Addr} {n c e k : Nat} {xs : List Value} {σ μ τ : Nat} (h : Own s a n c e k xs σ) (hn : σ ≠ μ) : Own (E.remark s μ τ) a n c e k xs σ := by
  refine ⟨h.1, h.2.imp id ?_⟩
  rintro ⟨g, o, L, h1, h2, h3⟩
  exact ⟨g, o, L, h1, ⟨h2.get, remark_chg hn g h2.tag⟩, h3⟩
theorem Blk.remark {s : TH} {r : Nat} {l : List Value} {t μ τ : Nat} (h : Blk s r l t μ) : Blk (remark s μ τ) r l t τ := ⟨h.get, remark_to r h.tag⟩
theorem Blk.keep {s : TH} {r : Nat} {l : List Value} {t σ μ τ : Nat} (h : Blk s r l t σ) (hn : σ ≠ μ) : Blk (E.remark s μ τ) r l t σ := ⟨h.get, remark_chg hn r h.tag⟩
theorem MapK.remark {κ : Type} {kf : κ → Value} {s : TH} {r : Nat} {m : List (κ × Value)} {μ τ : Nat} (h : MapK kf s r m μ) : MapK kf (remark s μ τ) r m τ := ⟨h.get, remark_to r h.tag, h.nd⟩
theorem MapK.keep {κ : Type} {kf : κ → Value} {s : TH} {r : Nat} {m : List (κ × Value)} {σ μ τ : Nat} (h : MapK kf s r m σ) (hn : σ ≠ μ) : MapK kf (E.remark s μ τ) r m σ := ⟨h.get, remark_chg hn r h.tag, h.nd⟩
theorem Sl.len0 {s : TH} {l : List Value} {τ : Nat} (h : Sl s none l τ) : l = [] := by
  rcases h with h | ⟨g, o, h1, _⟩
  · exact h
  · cases h1
section
variable {P : Program} {t ty e : TypeId} {E : List PanicEntry → Heap → Prop} {s : TH} {a xa : Option Addr} {n c m mc : Nat} {τ τ' : Nat} {K : Value → Heap → Prop}
theorem app_bv {xs ys : List UInt8} (ht : P.underlying t = some (.slice e)) (hi : (P.info? e).map (fun i => (i.zero, i.size, i.bytes)) = some (some (.int .u8 0), 1, 1))
    (hO : Own s a n c e 1 (bvs xs) τ) (hx : Sl s xa (bvs ys) τ') (hm : ys.length = m) (hb : n + m ≤ 140737488355328)
    (hk : ∀ (s' : TH) (a' : Option Addr) (c' : Nat), Own s' a' (n + m) c' e 1 (bvs (xs ++ ys)) τ → Ch [τ] s s' → K (.slice a' (n + m) c') s'.h) :
    semW P (Builtin.append_ #[t, t] ty #[.slice a n c, .slice xa m mc]) E s.h K :=
  app_i ht hi rfl hO hx (by rw [bvs_len]; omega) (bvs_one _) (fun h => by subst h; have h0 := congrArg List.length hx.len0; rw [bvs_len, List.length_nil] at h0; omega) (by unfold maxLen; omega)
    fun s' a' c' h1 h2 _ => hk s' a' c' (by unfold bvs at *; rw [List.map_append]; exact h1) (h2.ch hO (by simp))
end
/-- bytes, with others over them from a place on -/
def overlay (l : List UInt8) (p : Nat) (x : List UInt8) : List UInt8 := l.take p ++ x ++ l.drop (p + x.length)
theorem overlay_len {l : List UInt8} {p : Nat} {x : List UInt8} (h : p + x.length ≤ l.length) : (overlay l p x).length = l.length := by
  unfold overlay; rw [List.length_append, List.length_append, List.length_take, List.length_drop]; omega
theorem copy_sl {P : Program} {t t2 ty e : TypeId} {E : List PanicEntry → Heap → Prop} {s : TH} {a : Addr} {xa : Option Addr} {n c m mc τ τx : Nat} {p : Int} {l x : List UInt8} {K : Value → Heap → Prop}
    (ht : P.underlying t = some (.slice e)) (hi' : (P.info? e).map (fun i => (i.zero, i.size, i.bytes)) = some (some (.int .u8 0), 1, 1))
    (hO : Own s (some a) n c e 1 (bvs l) τ) (hx : Sl s xa (bvs x) τx) (hm : x.length = m) (h0 : 0 ≤ p) (hp : p.toNat + m ≤ n)
    (hk : ∀ s' : TH, Own s' (some a) n c e 1 (bvs (overlay l p.toNat x)) τ → Ch [τ] s s' → s.h.size = s'.h.size → K (.int .i64 (m : Int)) s'.h) :
    semW P (Builtin.copy_ #[t, t2] ty #[.slice (slO (some a) 1 p (c : Int)) (n - p.toNat) (c - p.toNat), .slice xa m mc]) E s.h K := by
  have hmin : min m (n - p.toNat) = m := by omega
  have h := copy_gen (P := P) (t2 := t2) (ty := ty) (E := E) (m := m) (x := x) (p := p.toNat) (src := .slice xa m mc) (K := K) ht hi' hO (by omega) (fun w => rfl) (by omega) (fun w hw => by
    rw [hmin]
    cases xa with
    | none =>
      have := congrArg List.length hx.len0
      rw [bvs_len, List.length_nil] at this
      obtain rfl : m = 0 := by omega
      have : x = [] := List.eq_nil_of_length_eq_zero hm
      subst this
      rw [run_firstCells_none]; rfl
    | some b => exact run_firstCells_some (P := P) w 1 m b m mc _ (by rw [bvs_len]; omega) fun j u hu => hx.cells w hw j u hu)
    (fun s' h1 h2 h3 => by rw [hmin]; exact hk s' h1 (h2.ch hO (by simp)) h3)
  rw [Int.toNat_of_nonneg h0] at h
  exact h
end Go.Proofs.YtngploohhmfaiaaGreat.E
/- Contracts of functions. -/
namespace Go.Proofs.YtngploohhmfaiaaGreat.E
open Go Go.Proofs Go.RowKit Go.Maps Go.Shelf Go.Sort
set_option linter.unusedVariables false
set_option linter.unusedSimpArgs false
structure PatM where
  id : Int
  blk : Int
  off : Int
  by_ : List UInt8
  needs : List Int
structure PatchM where
  last : Int
  done : List Int
  l : List PatM
def PatV (s : TH) (τ : Nat) (v : Value) (p : PatM) : Prop := ∃ ba bc na nc, v = .agg #[.int .i64 p.id, .int .i64 p.blk, .int .i64 p.off, .slice ba p.by_.length bc, .slice na p.needs.length nc] ∧ Sl s ba (bvs p.by_) τ ∧ Sl s na (ivs p.needs) τ
theorem PatV.mv {s s' : TH} {τ : Nat} {v : Value} {p : PatM} {B : Nat → Prop} (h : PatV s τ v p) (c : Chg B s s') (hn : ∀ j, j < s.h.size → s.g j = τ → ¬ B j) : PatV s' τ v p := by
  obtain ⟨ba, bc, na, nc, h1, h2, h3⟩ := h
  exact ⟨ba, bc, na, nc, h1, h2.mv c hn, h3.mv c hn⟩
def PMap (s : TH) (τ : Nat) : List (Int × Value) → List PatM → Prop
  | [], [] => True
  | e :: m, p :: l => e.1 = p.id ∧ PatV s τ e.2 p ∧ PMap s τ m l
  | _, _ => False
theorem PMap.mv {s s' : TH} {τ : Nat} {B : Nat → Prop} : ∀ {m : List (Int × Value)} {l : List PatM}, PMap s τ m l → Chg B s s' → (∀ j, j < s.h.size → s.g j = τ → ¬ B j) → PMap s' τ m l
  | [], [], h, c, hn => trivial
  | e :: m, p :: l, h, c, hn => ⟨h.1, h.2.1.mv c hn, PMap.mv h.2.2 c hn⟩
  | [], _ :: _, h, _, _ => h.elim
  | _ :: _, [], h, _, _ => h.elim
theorem PMap.keys {s : TH} {τ : Nat} : ∀ {m : List (Int × Value)} {l : List PatM}, PMap s τ m l → m.map (·.1) = l.map (·.id)
  | [], [], _ => rfl
  | e :: m, p :: l, h => by rw [List.map_cons, List.map_cons, h.1, PMap.keys h.2.2]
  | [], _ :: _, h => h.elim
  | _ :: _, [], h => h.elim
def PatchM.find (P : PatchM) (i : Int) : Option PatM := P.l.find? fun p => p.id == i
def PatchM.all (P : PatchM) : List Int := P.l.map (·.id)
def PatchM.pend (P : PatchM) (ids : List Int) : List Int := P.all.filter fun i => decide (i ∈ ids)
def PatchM.of (P : PatchM) (b : Int) : List Int := (P.l.filter fun p => p.blk == b).map (·.id)
theorem PMap.snoc {s : TH} {τ : Nat} {v : Value} {p : PatM} (hv : PatV s τ v p) : ∀ {m : List (Int × Value)} {l : List PatM}, PMap s τ m l → p.id ∉ l.map (·.id) → PMap s τ (mset p.id v m) (l ++ [p])
  | [], [], h, _ => ⟨rfl, hv, trivial⟩
  | e :: m, q :: l, h, hn => by
    obtain ⟨k, x⟩ := e
    have hk : k = q.id := h.1
    rw [List.map_cons, List.mem_cons, not_or] at hn
    show PMap s τ (if p.id = k then (p.id, v) :: m else (k, x) :: mset p.id v m) (q :: (l ++ [p]))
    rw [if_neg (by rw [hk]; exact hn.1)]
    exact ⟨h.1, h.2.1, PMap.snoc hv h.2.2 hn.2⟩
  | [], _ :: _, h, _ => h.elim
  | _ :: _, [], h, _ => h.elim
theorem PMap.del {s : TH} {τ : Nat} {i : Int} : ∀ {m : List (Int × Value)} {l : List PatM}, PMap s τ m l → (l.map (·.id)).Nodup → PMap s τ (mdel i m) (l.filter fun p => !(p.id == i))
  | [], [], h, _ => trivial
  | e :: m, q :: l, h, hn => by
    obtain ⟨k, x⟩ := e
    have hk : k = q.id := h.1
    rw [List.map_cons, List.nodup_cons] at hn
    show PMap s τ (if i = k then m else (k, x) :: mdel i m) _
    rw [List.filter_cons]
    by_cases hq : q.id = i
    · rw [if_pos (by rw [hk, hq]), show (!(q.id == i)) = false by simpa using hq]
      simp only [Bool.false_eq_true, if_false]
      have : (l.filter fun p => !(p.id == i)) = l := List.filter_eq_self.2 fun p hp => by
        simp only [Bool.not_eq_true', beq_eq_false_iff_ne]
        intro e; exact hn.1 (by rw [hq, ← e]; exact List.mem_map.2 ⟨p, hp, rfl⟩)
      rw [this]; exact h.2.2
    · rw [if_neg (by rw [hk]; exact fun e => hq e.symm), show (!(q.id == i)) = true by simpa using hq]
      simp only [if_true]
      exact ⟨h.1, h.2.1, PMap.del h.2.2 hn.2⟩
  | [], _ :: _, h, _ => h.elim
  | _ :: _, [], h, _ => h.elim
structure POk (P : PatchM) : Prop where
  srt : P.l.Pairwise fun x y => x.id < y.id
  rng : ∀ x ∈ P.l, 1 ≤ x.id ∧ x.id ≤ P.last
  fit : ∀ x ∈ P.l, 0 ≤ x.blk ∧ 0 ≤ x.off ∧ 1 ≤ x.by_.length ∧ x.off + x.by_.length ≤ 128
  nds : ∀ x ∈ P.l, ∀ n ∈ x.needs, 1 ≤ n ∧ n < x.id
  nsr : ∀ x ∈ P.l, x.needs.Pairwise (· < ·)
  dn : ∀ i ∈ P.done, 1 ≤ i ∧ i ≤ P.last
  all : ∀ i, 1 ≤ i → i ≤ P.last → i ∈ P.done ∨ i ∈ P.l.map (·.id)
  dis : ∀ i ∈ P.done, i ∉ P.l.map (·.id)
  lst : 0 ≤ P.last ∧ P.last ≤ 1000000
structure PSetP (s : TH) (p T : Nat) (P : PatchM) (r1 r2 : Nat) (m1 m2 : List (Int × Value)) : Prop where
  blk : Blk s p [.int .i64 P.last, .map (some r1), .map (some r2), .bool true] 192 T
  dm : MapK (Value.int .i64) s r1 m1 (T + 1)
  lm : MapK (Value.int .i64) s r2 m2 (T + 2)
  pm : PMap s (T + 3) m2 P.l
  dk : m1.map (·.1) = P.done
  dv : ∀ e ∈ m1, e.2 = .agg #[]
/-- a set of patches -/
structure PSet (s : TH) (p T : Nat) (P : PatchM) : Prop where
  p : ∃ r1 r2 m1 m2, PSetP s p T P r1 r2 m1 m2
  ok : POk P
theorem PSetP.mv {s s' : TH} {p T r1 r2 : Nat} {P : PatchM} {m1 m2 : List (Int × Value)} {B : Nat → Prop} (h : PSetP s p T P r1 r2 m1 m2) (c : Chg B s s') (hn : ∀ j, j < s.h.size → T ≤ s.g j → s.g j < T + 10 → ¬ B j) : PSetP s' p T P r1 r2 m1 m2 :=
  ⟨h.blk.mv c (of_rng hn (Nat.le_refl _) (by omega) p h.blk.lt h.blk.tag), h.dm.mv c (of_rng hn (by omega) (by omega) r1 h.dm.lt h.dm.tag), h.lm.mv c (of_rng hn (by omega) (by omega) r2 h.lm.lt h.lm.tag), h.pm.mv c (of_rng hn (by omega) (by omega)), h.dk, h.dv⟩
theorem PSet.mv {s s' : TH} {p T : Nat} {P : PatchM} {B : Nat → Prop} (h : PSet s p T P) (c : Chg B s s') (hn : ∀ j, j < s.h.size → T ≤ s.g j → s.g j < T + 10 → ¬ B j) : PSet s' p T P := by
  obtain ⟨⟨r1, r2, m1, m2, hp⟩, ok⟩ := h
  exact ⟨⟨r1, r2, m1, m2, hp.mv c hn⟩, ok⟩
theorem POk.nodup {P : PatchM} (h : POk P) : (P.l.map (·.id)).Nodup := (List.pairwise_map.2 h.srt).imp fun {a b} hab => by omega
theorem POk.asrt {P : PatchM} (h : POk P) : P.all.Pairwise (· < ·) := List.pairwise_map.2 h.srt
theorem POk.find_mem {P : PatchM} {i : Int} {x : PatM} (hf : P.find i = some x) : x ∈ P.l ∧ x.id = i := ⟨List.mem_of_find?_eq_some hf, by simpa using List.find?_some hf⟩
/-- strictly rising numbers of a stretch -/
theorem rise_len : ∀ (l : List Int) (a b : Int), l.Pairwise (· < ·) → (∀ x ∈ l, a ≤ x ∧ x ≤ b) → a ≤ b + 1 → (l.length : Int) ≤ b - a + 1
  | [], a, b, _, _, hab => by simp; omega
  | x :: l, a, b, h, hr, hab => by
    rw [List.pairwise_cons] at h
    have hx := hr x (by simp)
    have := rise_len l (x + 1) b h.2 (fun y hy => ⟨by have := h.1 y hy; omega, (hr y (List.mem_cons_of_mem _ hy)).2⟩) (by omega)
    rw [List.length_cons]; omega
theorem POk.lenl {P : PatchM} (h : POk P) : (P.l.length : Int) ≤ P.last := by
  have := rise_len P.all 1 P.last h.asrt (fun x hx => by obtain ⟨p, hp, rfl⟩ := List.mem_map.1 hx; exact h.rng p hp) (by have := h.lst; omega)
  unfold PatchM.all at this; rw [List.length_map] at this; omega
theorem um190 : Tryz.prog.underlying 190 = some (.map 3 194) := by kernel_rfl
theorem um189 : Tryz.prog.underlying 189 = some (.map 3 23) := by kernel_rfl
/-- (*bollard/patch.Set).own -/
theorem c_own (p T : Nat) (P : PatchM)  (s : TH) (hT : 10 ≤ T) (hp : PSet s p T P) : TRet Tryz.prog 127 #[.pointer (some ⟨p, 0, none⟩)] s fun v s' => v = .bool true ∧ Ch [] s s' := by
  obtain ⟨⟨rd, rl, md, ml, hP⟩, ok⟩ := id hp
  have hpb := hP.blk
  have hpd := hP.dm
  have hpl := hP.lm
  have hpm := hP.pm
  have hlst := ok.lst
  refine F127_calls _  ?_
  unfold F127
  refine sB_t (by rfl) ?_
  refine nz_i ?_
  refine ld_t hpb rfl ?_
  refine dBl_i ?_
  refine ret_t ?_
  exact ⟨rfl, (Ch.refl [] s)⟩
def fitsP (b o n : Int) : Prop := 0 ≤ b ∧ 0 ≤ o ∧ 0 < n ∧ o ≤ 128 ∧ n ≤ 128 - o
instance (b o n : Int) : Decidable (fitsP b o n) := by unfold fitsP; infer_instance
def ovl (b o n b' o' n' : Int) : Prop := b = b' ∧ o < o' + n' ∧ o' < o + n
instance (b o n b' o' n' : Int) : Decidable (ovl b o n b' o' n') := by unfold ovl; infer_instance
def PatchM.step (P : PatchM) (d : List UInt8) (i : Int) : List UInt8 := match P.find i with
  | some x => overlay d x.off.toNat x.by_
  | none => d
def PatchM.over (P : PatchM) (d : List UInt8) (ids : List Int) : List UInt8 := ids.foldl P.step d
def PatchM.fstep (P : PatchM) (l : List Int) (i : Int) : List Int := match P.find i with
  | some x => if ((P.pend x.needs).all fun n => decide (n ∈ l)) = true then l ++ [i] else l
  | none => l
def PatchM.free (P : PatchM) (b : Int) : List Int := (P.of b).foldl P.fstep []
theorem of_sub {P : PatchM} {b i : Int} (h : i ∈ P.of b) : i ∈ P.all := by
  unfold PatchM.of at h
  obtain ⟨x, hx, rfl⟩ := List.mem_map.1 h
  exact List.mem_map.2 ⟨x, (List.mem_filter.1 hx).1, rfl⟩
theorem of_len {P : PatchM} (ok : POk P) (b : Int) : ((P.of b).length : Int) ≤ P.last := by
  have h1 : (P.of b).length ≤ P.l.length := by unfold PatchM.of; rw [List.length_map]; exact List.length_filter_le _ _
  have := ok.lenl; omega
theorem fstep_len (P : PatchM) (l : List Int) (i : Int) : (P.fstep l i).length ≤ l.length + 1 := by
  unfold PatchM.fstep
  split
  · split <;> simp
  · omega
theorem fsteps_len (P : PatchM) : ∀ (ids l : List Int), (ids.foldl P.fstep l).length ≤ l.length + ids.length
  | [], l => by simp
  | i :: ids, l => by
    have h1 := fsteps_len P ids (P.fstep l i)
    have h2 := fstep_len P l i
    simp only [List.foldl_cons, List.length_cons]; omega
theorem free_sub {P : PatchM} {b i : Int} (h : i ∈ P.free b) : i ∈ P.of b := by
  have : ∀ (ids l : List Int), i ∈ ids.foldl P.fstep l → i ∈ l ∨ i ∈ ids := fun ids => by
    induction ids with
    | nil => intro l h; exact .inl h
    | cons j ids ih =>
      intro l h
      rcases ih _ h with h1 | h1
      · unfold PatchM.fstep at h1
        split at h1
        · split at h1
          · rcases List.mem_append.1 h1 with h2 | h2
            · exact .inl h2
            · rw [List.mem_singleton] at h2; exact .inr (by simp [h2])
          · exact .inl h1
        · exact .inl h1
      · exact .inr (List.mem_cons_of_mem _ h1)
  exact (this _ [] h).resolve_left (by simp)
theorem free_len {P : PatchM} (ok : POk P) (b : Int) : ((P.free b).length : Int) ≤ P.last := by
  have h1 := fsteps_len P (P.of b) []
  have h2 := of_len ok b
  unfold PatchM.free
  simp at h1; omega
/-- (*bollard/patch.Set).Last -/
theorem c_plast (p T : Nat) (P : PatchM)  (s : TH) (hT : 10 ≤ T) (hp : PSet s p T P) : TRet Tryz.prog 105 #[.pointer (some ⟨p, 0, none⟩)] s fun v s' => v = .int .i64 P.last ∧ Ch [] s s' := by
  obtain ⟨⟨rd, rl, md, ml, hP⟩, ok⟩ := id hp
  have hpb := hP.blk
  have hpd := hP.dm
  have hpl := hP.lm
  have hpm := hP.pm
  have hlst := ok.lst
  refine F105_calls _  ?_
  unfold F105
  refine tcall (c_own _ _ _ _ (by omega) hp) ?_
  rintro v_2 s_1 ⟨rfl, c_4⟩
  have z_5 := c_4.size
  refine dBl_i ?_
  refine sB_f (by rfl) ?_
  refine nz_i ?_
  have h_6 := hpb.ch c_4 (by simp)
  refine ld_t h_6 rfl ?_
  refine dInt_i ?_
  refine ret_t ?_
  exact ⟨rfl, ((Ch.refl [] s).ch c_4 (by simp))⟩
def PatchM.knows (P : PatchM) (i : Int) : Bool := decide (1 ≤ i ∧ i ≤ P.last)
def PatchM.closed (P : PatchM) (l : List Int) (i : Int) : Bool := match P.find i with
  | some x => (P.pend x.needs).all fun n => decide (n ∈ l)
  | none => true
theorem pend_sub {P : PatchM} {ids : List Int} {i : Int} (h : i ∈ P.pend ids) : i ∈ P.all ∧ i ∈ ids := by
  have := List.mem_filter.1 h; exact ⟨this.1, by simpa using this.2⟩
def PatchM.undo (P : PatchM) (i : Int) : PatchM × Int :=
  if i < 0 ∨ i > P.last then (P, 1)
  else if (P.done.any fun j => decide (j > i)) = true then (P, 3)
  else ({ P with last := i, l := P.l.filter fun x => decide (x.id ≤ i) }, 0)
theorem POk.undo {P : PatchM} (ok : POk P) {i : Int} (h0 : 0 ≤ i) (h1 : i ≤ P.last) (hd : ∀ j ∈ P.done, j ≤ i) : POk { P with last := i, l := P.l.filter fun x => decide (x.id ≤ i) } where
  srt := ok.srt.sublist List.filter_sublist
  rng x hx := by
    have h := List.mem_filter.1 hx
    have h2 : x.id ≤ i := by simpa using h.2
    have := ok.rng x h.1
    show 1 ≤ x.id ∧ x.id ≤ i
    omega
  fit x hx := ok.fit x (List.mem_filter.1 hx).1
  nds x hx := ok.nds x (List.mem_filter.1 hx).1
  nsr x hx := ok.nsr x (List.mem_filter.1 hx).1
  dn j hj := ⟨(ok.dn j hj).1, hd j hj⟩
  all j hj1 hj2 := by
    have hj2 : j ≤ i := hj2
    rcases ok.all j hj1 (by omega) with h | h
    · exact .inl h
    · obtain ⟨x, hx, rfl⟩ := List.mem_map.1 h
      exact .inr (List.mem_map.2 ⟨x, List.mem_filter.2 ⟨hx, by simpa using hj2⟩, rfl⟩)
  dis j hj h := by
    obtain ⟨x, hx, rfl⟩ := List.mem_map.1 h
    exact ok.dis _ hj (List.mem_map.2 ⟨x, (List.mem_filter.1 hx).1, rfl⟩)
  lst := by have := ok.lst; exact ⟨h0, by show i ≤ _; omega⟩
def gone (vis : List Int) (i : Int) (x : PatM) : Bool := !(decide (x.id ∈ vis) && decide (x.id > i))
theorem gone_snoc (l : List PatM) (vis : List Int) (i k : Int) : l.filter (gone (vis ++ [k]) i) = if k > i then (l.filter (gone vis i)).filter (fun x => !(x.id == k)) else l.filter (gone vis i) := by
  by_cases h : k > i
  · rw [if_pos h, List.filter_filter]
    apply List.filter_congr
    intro x _
    unfold gone
    by_cases h1 : x.id = k <;> by_cases h2 : x.id ∈ vis <;> by_cases h3 : x.id > i <;> simp [h1, h2, h3] <;> (intros; omega)
  · rw [if_neg h]
    apply List.filter_congr
    intro x _
    unfold gone
    by_cases h1 : x.id = k <;> by_cases h2 : x.id ∈ vis <;> by_cases h3 : x.id > i <;> simp [h1, h2, h3] <;> (intros; omega)
theorem gone_all (l : List PatM) (vis : List Int) (i : Int) (h : ∀ x ∈ l.filter (gone vis i), x.id ∈ vis) : l.filter (gone vis i) = l.filter fun x => decide (x.id ≤ i) := by
  apply List.filter_congr
  intro x hx
  unfold gone
  by_cases h1 : x.id ≤ i
  · simp [h1] <;> (intros; omega)
  · by_cases h2 : x.id ∈ vis
    · simp [h1, h2] <;> (intros; omega)
    · exfalso; exact h2 (h x (List.mem_filter.2 ⟨hx, by unfold gone; simp [h2]⟩))
/-- (*bollard/patch.Set).Undo -/
theorem c_undo (p T : Nat) (P : PatchM) (i : Int) (s : TH) (hT : 10 ≤ T) (hp : PSet s p T P) : TRet Tryz.prog 106 #[.pointer (some ⟨p, 0, none⟩), .int .i64 i] s fun v s' => v = .int .i64 (P.undo i).2 ∧ Ch [T, T + 2] s s' ∧ PSet s' p T (P.undo i).1 := by
  obtain ⟨⟨rd, rl, md, ml, hP⟩, ok⟩ := id hp
  have hpb := hP.blk
  have hpd := hP.dm
  have hpl := hP.lm
  have hpm := hP.pm
  have hlst := ok.lst
  obtain ⟨M, hM, hM0, hMa, hMb, hMc, hMd, hMe, hMf⟩ := fresh6 s (T + 10) 0 0 0 0 0
  refine F106_calls _ _  ?_
  unfold F106
  refine tcall (c_own _ _ _ _ (by omega) hp) ?_
  rintro v_2 s_1 ⟨rfl, c_4⟩
  have z_5 := c_4.size
  refine dBl_i ?_
  refine sB_f (by rfl) ?_
  refine jn_u ?_
  refine sB_d (fun hsB2 => ?_) (fun hsB2 => ?_)
  ·
    intro _
    intros
    refine dBl_i ?_
    refine sB_t (by rfl) ?_
    refine ret_t ?_
    have h_6 := hp.mv c_4 (rngn (by simp))
    rw [show P.undo i = (P, 1) from by unfold PatchM.undo; rw [if_pos (by omega)]]
    exact ⟨rfl, ((Ch.refl [T, T + 2] s).ch c_4 (by simp)), h_6⟩
  ·
    refine nz_i ?_
    have h_7 := hpb.ch c_4 (by simp)
    refine ld_t h_7 rfl ?_
    refine dInt_i ?_
    intro _
    intros
    refine dBl_i ?_
    refine sB_d (fun hsB4 => ?_) (fun hsB4 => ?_)
    ·
      refine ret_t ?_
      have h_8 := hp.mv c_4 (rngn (by simp))
      rw [show P.undo i = (P, 1) from by unfold PatchM.undo; rw [if_pos (by omega)]]
      exact ⟨rfl, ((Ch.refl [T, T + 2] s).ch c_4 (by simp)), h_8⟩
    ·
      refine nz_i ?_
      refine ld_t h_7 rfl ?_
      refine dMap_i ?_
      have h_9 := hpd.ch c_4 (by simp)
      refine range_t (M + 7) um189 h_9 iinj fun s_10 qsem1 hqsem1 itsem1 c_12 => ?_
      have z_13 := c_12.size
      refine ⟨fun vs H' => ∃ s' : TH, s'.h = H' ∧ vs = [] ∧ Ch [M + 7] s_10 s' ∧ (∃ vis, ItK (Value.int .i64) s' qsem1 rd md vis (T + 1) (M + 7) ∧ ∀ k ∈ vis, k ≤ i), fun vs H' => match vs with | [] => leftH H' qsem1 rd | _ => 0, ⟨s_10, rfl, rfl, Ch.refl _ _, ?_⟩, ?_⟩
      ·
        exact ⟨[], itsem1, by simp⟩
      ·
        intro  _ _ _ _ _ _ _ _ _ H_ hI_15
        obtain ⟨s_14, rfl, hvs, c_16, vis, hit, hvis⟩ := hI_15
        cases hvs
        have z_17 := c_16.size
        refine next_t hit iinj (fun s_18 ksem2 xsem2 hmksem2 hvksem2 it_19 c_20o zc_20 => ?_) (fun hallksem2 => ?_)
        ·
          refine dNx_t ?_
          have c_20 : Ch [(M + 7)] s_14 s_18 := Chg.mono c_20o (fun j hj e => by subst e; rw [hit.tagq]; simp)
          refine entry_t it_19 hmksem2 iinj ?_
          refine dT2 ?_
          refine dInt_i ?_
          refine sB_d (fun hsB5 => ?_) (fun hsB5 => ?_)
          ·
            refine ret_t ?_
            have h_21 := hp.mv (((c_4.app c_12).app c_16).app c_20) (rngn (by simp <;> omega))
            rw [show P.undo i = (P, 3) from by
              unfold PatchM.undo
              rw [if_neg (by omega), if_pos]
              refine List.any_eq_true.2 ⟨ksem2, ?_, by simp; omega⟩
              rw [← hP.dk]; exact List.mem_map.2 ⟨_, hmksem2, rfl⟩]
            exact ⟨rfl, (((((Ch.refl [T, T + 2] s).ch c_4 (by simp)).ch c_12 (by simp)).fr c_16 hM (by simp)).fr c_20 hM (by simp)), h_21⟩
          ·
            refine ⟨⟨s_18, rfl, rfl, (((Ch.refl [M + 7] s_10).ch c_16 (by simp)).ch c_20 (by simp)), ?_⟩, ?_⟩
            ·
              refine ⟨_, it_19, fun k hk => ?_⟩
              rcases List.mem_append.1 hk with h | h
              · exact hvis k h
              · rw [List.mem_singleton] at h; omega
            ·
              exact it_less iinj hit it_19 hmksem2 hvksem2 (List.Sublist.refl _)
        ·
          refine dNx_f ?_
          refine nz_i ?_
          have h_22 := h_7.ch (c_12.app c_16) (by simp <;> omega)
          refine ld_t h_22 rfl ?_
          refine dMap_i ?_
          have h_23 := hpl.ch ((c_4.app c_12).app c_16) (by simp <;> omega)
          refine range_t (M + 8) um190 h_23 iinj fun s_24 qsem4 hqsem4 itsem4 c_26 => ?_
          have z_27 := c_26.size
          have hql : qsem4 ≠ rl := by have := hP.lm.lt; omega
          refine ⟨fun vs H' => ∃ s' : TH, s'.h = H' ∧ vs = [] ∧ Ch [T + 2, M + 8] s_24 s' ∧ (∃ vis m', ItK (Value.int .i64) s' qsem4 rl m' vis (T + 2) (M + 8) ∧ PMap s' (T + 3) m' (P.l.filter (gone vis i))), fun vs H' => match vs with | [] => leftH H' qsem4 rl | _ => 0, ⟨s_24, rfl, rfl, Ch.refl _ _, ?_⟩, ?_⟩
          ·
            have h_28 := hpm.mv (((c_4.app c_12).app c_16).app c_26) (tagn (by simp <;> omega))
            refine ⟨[], ml, itsem4, ?_⟩
            rw [List.filter_eq_self.2 (fun x _ => by unfold gone; simp)]
            exact h_28
          ·
            intro  _ _ _ _ _ _ _ _ _ _ _ _ _ H_ hI_30
            obtain ⟨s_29, rfl, hvs, c_31, vis2, m', hit2, hpm2⟩ := hI_30
            cases hvs
            have z_32 := c_31.size
            refine next_t hit2 iinj (fun s_33 ksem5 xsem5 hmksem5 hvksem5 it_34 c_35o zc_35 => ?_) (fun hallksem5 => ?_)
            ·
              refine dNx_t ?_
              have c_35 : Ch [(M + 8)] s_29 s_33 := Chg.mono c_35o (fun j hj e => by subst e; rw [hit2.tagq]; simp)
              refine entry_t it_34 hmksem5 iinj ?_
              refine dT2 ?_
              refine dInt_i ?_
              refine sB_d (fun hsB6 => ?_) (fun hsB6 => ?_)
              ·
                refine nz_i ?_
                have h_36 := h_22.ch ((c_26.app c_31).app c_35) (by simp <;> omega)
                refine ld_t h_36 rfl ?_
                refine dMap_i ?_
                have hitd := it_34
                refine del_it keyI um190 hitd hql ksem5 fun s_37 itsem4_40 c_38o _ => ?_
                have c_38 : Ch [T + 2] s_33 s_37 := Chg.mono c_38o fun j _ e => by subst e; rw [hitd.tag]; simp
                have z_39 := c_38.size
                refine ⟨⟨s_37, rfl, rfl, ((((Ch.refl [T + 2, M + 8] s_24).ch c_31 (by simp)).ch c_35 (by simp)).ch c_38 (by simp)), ?_⟩, ?_⟩
                ·
                  have h_41 := hpm2.mv (c_35.app c_38) (tagn (by simp <;> omega))
                  refine ⟨_, _, itsem4_40, ?_⟩
                  rw [gone_snoc, if_pos (by omega)]
                  exact PMap.del h_41 ((ok.nodup).sublist (List.filter_sublist.map _))
                ·
                  exact it_less iinj hit2 itsem4_40 hmksem5 hvksem5 (mdel_sub _ _)
              ·
                refine ⟨⟨s_33, rfl, rfl, (((Ch.refl [T + 2, M + 8] s_24).ch c_31 (by simp)).ch c_35 (by simp)), ?_⟩, ?_⟩
                ·
                  have h_42 := hpm2.mv c_35 (tagn (by simp <;> omega))
                  refine ⟨_, _, it_34, ?_⟩
                  rw [gone_snoc, if_neg (by omega)]
                  exact h_42
                ·
                  exact it_less iinj hit2 it_34 hmksem5 hvksem5 (List.Sublist.refl _)
            ·
              refine dNx_f ?_
              refine nz_i ?_
              have h_46 := h_22.ch (c_26.app c_31) (by simp <;> omega)
              refine st_t h_46 rfl (by simp) fun s70 b_43 c_44o z_45 => ?_
              have c_44 := on_ch h_46 c_44o
              refine ret_t ?_
              have h_47 := hpm2.mv c_44 (tagn (by simp))
              have h_48 := h_9.ch ((((c_12.app c_16).app c_26).app c_31).app c_44) (by simp <;> omega)
              have h_49 := hit2.ch c_44 (by simp <;> omega) (by simp <;> omega)
              have hd : ∀ j ∈ P.done, j ≤ i := fun j hj => hvis j (hallksem2 j (by rw [hP.dk]; exact hj))
              have hg := gone_all P.l vis2 i (fun x hx => hallksem5 _ (by rw [PMap.keys h_47]; exact List.mem_map.2 ⟨x, hx, rfl⟩))
              have hpm4 := h_47
              rw [hg] at hpm4
              rw [show P.undo i = ({ P with last := i, l := P.l.filter fun x => decide (x.id ≤ i) }, 0) from by
                unfold PatchM.undo
                rw [if_neg (by omega), if_neg]
                intro h
                obtain ⟨j, hj, h2⟩ := List.any_eq_true.1 h
                have := hd j hj
                simp at h2; omega]
              exact ⟨rfl, (((((((Ch.refl [T, T + 2] s).ch c_4 (by simp)).ch c_12 (by simp)).fr c_16 hM (by simp)).ch c_26 (by simp)).fr c_31 hM (by simp)).ch c_44 (by simp)), ⟨⟨rd, rl, md, m', b_43, h_48, (h_49).map, hpm4, hP.dk, hP.dv⟩, ok.undo (by omega) (by omega) hd⟩⟩
/-- the blocks that have patches, rising -/
def PatchM.blocks (P : PatchM) : List Int := cpt ((P.l.map (·.blk)).mergeSort fun x y => decide (x ≤ y))
def ovx (b o n : Int) (x : PatM) : Bool := decide (ovl b o n x.blk x.off x.by_.length)
def PatchM.newP (P : PatchM) (b o : Int) (y : List UInt8) (needs : List Int) : PatM := ⟨P.last + 1, b, o, y, (P.l.filter fun x => decide (x.id ∈ needs) || ovx b o y.length x).map (·.id)⟩
def PatchM.add (P : PatchM) (b o : Int) (y : List UInt8) (needs : List Int) : PatchM × Int × Int :=
  if ¬ fitsP b o y.length then (P, 0, 1)
  else if (needs.any fun i => !P.knows i) = true then (P, 0, 70)
  else ({ P with last := P.last + 1, l := P.l ++ [P.newP b o y needs] }, P.last + 1, 0)
theorem POk.add {P : PatchM} (ok : POk P) {b o : Int} {y : List UInt8} {needs : List Int} (hf : fitsP b o y.length) (hl : P.last < 1000000) : POk { P with last := P.last + 1, l := P.l ++ [P.newP b o y needs] } where
  srt := List.pairwise_append.2 ⟨ok.srt, by simp, fun a ha c hc => by
    rw [List.mem_singleton] at hc; subst hc
    have := ok.rng a ha
    show a.id < P.last + 1
    omega⟩
  rng x hx := by
    rcases List.mem_append.1 hx with h | h
    · have := ok.rng x h; exact ⟨this.1, by show x.id ≤ P.last + 1; omega⟩
    · rw [List.mem_singleton] at h; subst h
      have := ok.lst
      exact ⟨by show 1 ≤ P.last + 1; omega, Int.le_refl _⟩
  fit x hx := by
    rcases List.mem_append.1 hx with h | h
    · exact ok.fit x h
    · rw [List.mem_singleton] at h; subst h
      unfold fitsP at hf
      exact ⟨hf.1, hf.2.1, by show 1 ≤ y.length; omega, by show o + (y.length : Int) ≤ 128; omega⟩
  nds x hx n hn := by
    rcases List.mem_append.1 hx with h | h
    · exact ok.nds x h n hn
    · rw [List.mem_singleton] at h; subst h
      obtain ⟨z, hz, rfl⟩ := List.mem_map.1 (show n ∈ (P.l.filter fun x => decide (x.id ∈ needs) || ovx b o y.length x).map (·.id) from hn)
      have := ok.rng z (List.mem_filter.1 hz).1
      exact ⟨this.1, by show z.id < P.last + 1; omega⟩
  nsr x hx := by
    rcases List.mem_append.1 hx with h | h
    · exact ok.nsr x h
    · rw [List.mem_singleton] at h; subst h
      exact List.pairwise_map.2 (ok.srt.sublist List.filter_sublist)
  dn i hi := by have := ok.dn i hi; exact ⟨this.1, by show i ≤ P.last + 1; omega⟩
  all i h1 h2 := by
    have h2 : i ≤ P.last + 1 := h2
    by_cases h3 : i ≤ P.last
    · rcases ok.all i h1 h3 with h | h
      · exact .inl h
      · right; show i ∈ (P.l ++ [P.newP b o y needs]).map PatM.id; rw [List.map_append]; exact List.mem_append_left _ h
    · right; show i ∈ (P.l ++ [P.newP b o y needs]).map PatM.id; rw [List.map_append]; exact List.mem_append_right _ (by rw [show i = P.last + 1 by omega]; exact List.mem_singleton.2 rfl)
  dis i hi h := by
    have h : i ∈ (P.l ++ [P.newP b o y needs]).map PatM.id := h
    rw [List.map_append] at h
    rcases List.mem_append.1 h with h | h
    · exact ok.dis i hi h
    · have := ok.dn i hi
      have h : i ∈ [P.last + 1] := h
      rw [List.mem_singleton] at h; omega
  lst := by have := ok.lst; show 0 ≤ P.last + 1 ∧ P.last + 1 ≤ 1000000; omega
/-- what must be on the disk until some are -/
inductive PatchM.Reach (P : PatchM) (ids : List Int) : Int → Prop
  | base {i : Int} : i ∈ P.pend ids → PatchM.Reach P ids i
  | step {i n : Int} {x : PatM} : PatchM.Reach P ids i → P.find i = some x → n ∈ P.pend x.needs → PatchM.Reach P ids n
theorem PatchM.Reach.all {P : PatchM} {ids : List Int} {i : Int} (h : P.Reach ids i) : i ∈ P.all := by
  cases h with
  | base h => exact (pend_sub h).1
  | step h1 h2 h3 => exact (pend_sub h3).1
structure ClI (P : PatchM) (ids : List Int) (K O : List Int) : Prop where
  kr : ∀ i ∈ K, P.Reach ids i
  or_ : ∀ i ∈ O, P.Reach ids i
  pe : ∀ i ∈ P.pend ids, i ∈ K ∨ i ∈ O
  cl : ∀ i ∈ K, ∀ x, P.find i = some x → ∀ n ∈ P.pend x.needs, n ∈ K ∨ n ∈ O
  nd : K.Nodup
theorem ClI.done {P : PatchM} {ids K : List Int} (h : ClI P ids K []) (i : Int) : i ∈ K ↔ P.Reach ids i := by
  refine ⟨h.kr i, fun hr => ?_⟩
  induction hr with
  | base hi => exact (h.pe _ hi).resolve_right (by simp)
  | step h1 h2 h3 ih => exact (h.cl _ ih _ h2 _ h3).resolve_right (by simp)
theorem ClI.push {P : PatchM} {ids K O : List Int} {i : Int} {x : PatM} (h : ClI P ids K (O ++ [i])) (hi : i ∉ K) (hx : P.find i = some x) : ClI P ids (K ++ [i]) (O ++ P.pend x.needs) where
  kr j hj := (List.mem_append.1 hj).elim (h.kr j) fun h2 => by rw [List.mem_singleton] at h2; rw [h2]; exact h.or_ i (by simp)
  or_ j hj := (List.mem_append.1 hj).elim (fun h2 => h.or_ j (List.mem_append_left _ h2)) fun h2 => .step (h.or_ i (by simp)) hx h2
  pe j hj := (h.pe j hj).elim (fun h => .inl (List.mem_append_left _ h)) fun h => (List.mem_append.1 h).elim (fun h => .inr (List.mem_append_left _ h)) fun h => .inl (List.mem_append_right _ h)
  cl j hj y hy n hn := by
    rcases List.mem_append.1 hj with hj | hj
    · rcases h.cl j hj y hy n hn with h | h
      · exact .inl (List.mem_append_left _ h)
      · rcases List.mem_append.1 h with h | h
        · exact .inr (List.mem_append_left _ h)
        · exact .inl (List.mem_append_right _ h)
    · rw [List.mem_singleton] at hj; subst hj
      rw [hx] at hy; cases hy
      exact .inr (List.mem_append_right _ hn)
  nd := List.nodup_append.2 ⟨h.nd, by simp, fun a ha b hb e => by rw [List.mem_singleton] at hb; subst hb; subst e; exact hi ha⟩
end Go.Proofs.YtngploohhmfaiaaGreat.E
/- Contracts of functions. -/
namespace Go.Proofs.YtngploohhmfaiaaGreat.E
open Go Go.Proofs
set_option linter.unusedVariables false
/-- bollard/disk.Of$1 -/
theorem c_of1 (p : Hd) (s : TH) : TRet Tryz.prog 153 #[.slice p.1 128 p.2] s fun v s' => v = .bool false ∧ Ch [] s s' := by
  refine F153_calls _ _ _  ?_
  unfold F153
  refine ret_t ?_
  exact ⟨rfl, (Ch.refl [] s)⟩
/-- slices.IndexFunc[[][]byte,[]byte] -/
theorem c_ixRow {a : Option Addr} {n : Nat} (c : Nat) {hs : List Hd} {τ : Nat} {s : TH} (hq : Sl s a (hs.flatMap hd1) τ) (hn : hs.length = n) (hn2 : n ≤ 1000000) {g : Nat} {xf xc : Array Value} (hg : plainFn Tryz.prog g = true) (hp : ∀ (s1 : TH) (x : Hd), TRet Tryz.prog g (argsOf xf [.slice x.1 128 x.2] xc) s1 fun v s2 => v = .bool false ∧ Ch [] s1 s2) : TRet Tryz.prog 199 #[.slice a n c, .func (.func g) xf xc] s fun v s' => v = .int .i64 (-1) ∧ Ch [] s s' := by
  refine F199_calls _ _ _ _ _ _  ?_
  unfold F199
  refine ⟨fun vs H' => ∃ s' : TH, s'.h = H' ∧ ∃ m, vs = [.int .i64 m] ∧ ChL [] [] s s' ∧ (∃ k : Nat, m = k ∧ k ≤ n), fun vs H' => match vs with | [.int .i64 m] => ((n : Int) - m).toNat | _ => 0, ⟨s, rfl, _, rfl, ChL.refl _ _ _, ?_⟩, ?_⟩
  ·
    exact ⟨0, rfl, by omega⟩
  ·
    intro m _ _ _ _ _ _ _ _ _ _ _ _ H16 hI
    obtain ⟨s16, rfl, m_, hvs, c_1, k, rfl, hk⟩ := hI
    cases hvs
    have z_2 := c_1.size
    refine sB_d (fun hsB1 => ?_) (fun hsB1 => ?_)
    ·
      have hk2 : k < n := by omega
      obtain ⟨x, hx⟩ : ∃ x, hs[k]? = some x := ⟨hs[k], by simp [hn, hk2]⟩
      obtain ⟨a, rfl⟩ := hq.some (fun e => by have := bcell hx; rw [e] at this; simp at this)
      refine nz_i ?_
      refine ask_t (by omega) ?_
      have q_3 := hq.mv c_1 (tagL (by simp <;> omega) (by simp))
      refine ld_sl q_3 (by rw [Int.toNat_natCast, Nat.mul_one]; exact bcell hx) ?_
      set_option maxRecDepth 4000 in
      refine dSl_i (a := x.1) (n := 128) (c := x.2) ?_
      rw [gB_eq hg]
      refine tcall (hp _ x) ?_
      rintro _ s24 ⟨rfl, c_4⟩
      have z_5 := c_4.size
      refine dBl_i ?_
      refine sB_f (by rfl) ?_
      refine wr_t (by omega) ?_
      refine ⟨⟨s24, rfl, _, rfl, (((ChL.refl [] [] s).chl c_1 (by simp) (by simp <;> omega)).ch c_4 (by simp)), ?_⟩, ?_⟩
      ·
        exact ⟨k + 1, by omega, by omega⟩
      ·
        simp only []; omega
    ·
      refine ret_t ?_
      exact ⟨rfl, ((Ch.refl [] s).chl c_1 (by simp) (by simp <;> omega))⟩
/-- slices.ContainsFunc[[][]byte,[]byte] -/
theorem c_ctRow {a : Option Addr} {n : Nat} (c : Nat) {hs : List Hd} {τ : Nat} {s : TH} (hq : Sl s a (hs.flatMap hd1) τ) (hn : hs.length = n) (hn2 : n ≤ 1000000) : TRet Tryz.prog 154 #[.slice a n c, .func (.func 153) #[] #[]] s fun v s' => v = .bool false ∧ Ch [] s s' := by
  refine F154_calls _ _ _ _ _ _  ?_
  unfold F154
  refine tcall (c_ixRow c hq hn hn2 (by kernel_rfl) (fun s1 x => c_of1 x s1)) ?_
  rintro _ s2 ⟨rfl, c_1⟩
  have z_2 := c_1.size
  refine dInt_i ?_
  refine ret_t ?_
  exact ⟨rfl, ((Ch.refl [] s).ch c_1 (by simp))⟩
/-- bollard/disk.image -/
theorem c_image (T : Nat) {a : Option Addr} {n : Nat} (c : Nat) {hs : List Hd} {bs : List (List UInt8)} {τ τb : Nat} {s : TH} (hq : Sl s a (hs.flatMap hd1) τ) (hb : BRel s τb hs bs) (hn : hs.length = n) (hn2 : n ≤ 2048) (h1 : τ ≠ T + 1) (h2 : τb ≠ T + 1) : TRet Tryz.prog 91 #[.slice a n c] s fun v s' => ∃ pa pc hs', v = .slice pa n pc ∧ Ch [T + 1] s s' ∧ Own s' pa n pc 38 1 (hs'.flatMap hd1) (T + 1) ∧ BRel s' (T + 3) hs' bs := by
  refine F91_calls _ _ _  ?_
  unfold F91
  refine ⟨fun vs H' => ∃ s' : TH, s'.h = H' ∧ ∃ pa pn pc m, vs = [.slice pa pn pc, .int .i64 m] ∧ ChL [T + 1] [] s s' ∧ (∃ (k : Nat) (hs' : List Hd), m = k ∧ pn = k ∧ k ≤ n ∧ Own s' pa k pc 38 1 (hs'.flatMap hd1) (T + 1) ∧ BRel s' (T + 3) hs' (bs.take k)), fun vs H' => match vs with | [.slice pa pn pc, .int .i64 m] => ((n : Int) - m).toNat | _ => 0, ⟨s, rfl, _, _, _, _, rfl, ChL.refl _ _ _, ?_⟩, ?_⟩
  ·
    exact ⟨0, [], rfl, rfl, by omega, Own.nil _ _ _ _, BRel.nil _ _⟩
  ·
    intro pa pn pc m _ _ _ _ _ _ _ _ _ _ H17 hI
    obtain ⟨s17, rfl, pa_, pn_, pc_, m_, hvs, c_1, k, hs', rfl, rfl, hk, rows_3, brel_4⟩ := hI
    cases hvs
    have z_2 := c_1.size
    refine sB_d (fun hsB1 => ?_) (fun hsB1 => ?_)
    ·
      have hk2 : pn < n := by omega
      obtain ⟨x, hx⟩ : ∃ x, hs[pn]? = some x := ⟨hs[pn], by simp [hn, hk2]⟩
      obtain ⟨b, hbk⟩ : ∃ b, bs[pn]? = some b := ⟨bs[pn]'(by rw [← hb.len, hn]; exact hk2), by simp⟩
      obtain ⟨a, rfl⟩ := hq.some (fun e => by have := bcell hx; rw [e] at this; simp at this)
      refine nz_i ?_
      refine ask_t (by omega) ?_
      have q_5 := hq.mv c_1 (tagL (by simp <;> omega) (by simp))
      refine ld_sl q_5 (by rw [Int.toNat_natCast, Nat.mul_one]; exact bcell hx) ?_
      refine dSl_i ?_
      have qb_6 := hb.mv c_1 (tagL (by simp <;> omega) (by simp))
      refine tcall (c_clone (T + 3) _ (qb_6.at_ _ _ _ hx hbk).sl (qb_6.at_ _ _ _ hx hbk).len (fun h => by obtain ⟨y, hy⟩ := (hb.at_ _ _ _ hx hbk).ne; rw [h] at hy; cases hy) (by omega)) ?_
      rintro _ s25 ⟨xa2, xc2, rfl, c_7, nx_9, hxn⟩
      have z_8 := c_7.size
      refine dSl_i ?_
      refine al_t 0 fun r29 s30 hr29 b_10 c_11 z_12 => ?_
      have rows_13 := rows_3.mv c_7 (tagn (by simp))
      have rows_14 := rows_13.mv c_11 (tagn (by simp))
      refine app_i u42 in38 rfl rows_14 b_10.sl (m := 1) (k := 1) rfl (by intro u hu; simp at hu; subst hu; rfl) (by simp) (by unfold maxLen; omega) fun s34 pa2 pc2 rows_17 c_150 _ => ?_
      have c_15 := c_150.ch (T := [T + 1]) rows_14 (by simp)
      have z_16 := c_15.size
      refine dSl_i ?_
      refine wr_t (by omega) ?_
      refine ⟨⟨s34, rfl, _, _, _, _, rfl, (((((ChL.refl [T + 1] [] s).chl c_1 (by simp) (by simp <;> omega)).ch c_7 (by simp)).ch c_11 (by simp)).ch c_15 (by simp)), ?_⟩, ?_⟩
      ·
        have brel_18 := brel_4.mv c_7 (tagn (by simp))
        have brel_19 := brel_18.mv c_11 (tagn (by simp))
        have brel_20 := brel_19.mv c_15 (tagn (by intro h; simp only [List.mem_cons, List.not_mem_nil, or_false] at h <;> omega))
        have nx_21 := nx_9.mv c_11 (tagn (by simp))
        have nx_22 := nx_21.mv c_15 (tagn (by intro h; simp only [List.mem_cons, List.not_mem_nil, or_false] at h <;> omega))
        exact ⟨pn + 1, hs' ++ [(xa2, xc2)], by omega, by omega, by omega, by simpa [hd1] using rows_17, by rw [List.take_add_one, hbk]; exact brel_20.snoc ⟨nx_22.sl, (hb.at_ _ _ _ hx hbk).len⟩⟩
      ·
        simp only []; omega
    ·
      refine ret_t ?_
      obtain rfl : pn = n := by omega
      exact ⟨pa, pc, hs', rfl, ((Ch.refl [T + 1] s).chl c_1 (by simp) (by simp <;> omega)), rows_3, by have h := brel_4; rw [List.take_of_length_le (by rw [← hb.len, hn]; omega)] at h; exact h⟩
def diskOf (bs : List (List UInt8)) : DiskM := ⟨bs, [], fun _ => 0, 0⟩
/-- bollard/disk.Of -/
theorem c_of (T : Nat) {a : Option Addr} {n : Nat} (c : Nat) {hs : List Hd} {bs : List (List UInt8)} {τ τb : Nat} {s : TH} (hT : 10 ≤ T) (hq : Sl s a (hs.flatMap hd1) τ) (hb : BRel s τb hs bs) (hn : hs.length = n) (hn2 : 1 ≤ n ∧ n ≤ 2048) (h1 : τ ≠ T + 1) (h2 : τb ≠ T + 1) : TRet Tryz.prog 97 #[.slice a n c] s fun v s' => ∃ d, v = .tuple #[.pointer (some ⟨d, 0, none⟩), .int .i64 0] ∧ Ch [T + 1] s s' ∧ Disk s' d T (diskOf bs) := by
  refine F97_calls _ _ _  ?_
  unfold F97
  refine jn_u ?_
  refine sB_d (fun hsB1 => by exfalso; omega) (fun hsB1 => ?_)
  refine sB_d (fun hsB2 => by exfalso; omega) (fun hsB2 => ?_)
  refine tcall (c_ctRow c hq hn (by omega)) ?_
  rintro _ s29 ⟨rfl, c_1⟩
  have z_2 := c_1.size
  refine dBl_i ?_
  intro _ _ _ _ _ _ _ _ _ _ _ _
  refine dBl_i ?_
  refine sB_f (by rfl) ?_
  have q_3 := hq.mv c_1 (tagn (by simp))
  have qb_4 := hb.mv c_1 (tagn (by simp))
  refine tcall (c_image T c q_3 qb_4 hn hn2.2 h1 h2) ?_
  rintro _ s17 ⟨pa, pc, hs', rfl, c_5, rows_7, brel_8⟩
  have z_6 := c_5.size
  refine dSl_i ?_
  refine alm_t (Value.int .i64) (T + 4) fun r21 s22 hr21 m_9 c_10 z_11 => ?_
  refine al_t T fun r23 s24 hr23 b_12 c_13 z_14 => ?_
  refine ret_t ?_
  have rows_15 := rows_7.mv c_10 (tagn (by simp))
  have rows_16 := rows_15.mv c_13 (tagn (by simp))
  have brel_17 := brel_8.mv c_10 (tagn (by simp))
  have brel_18 := brel_17.mv c_13 (tagn (by simp))
  have r21_19 := m_9.ch c_13 (by simp)
  have hl : bs.length = n := by rw [← hb.len, hn]
  subst hl
  exact ⟨r23, rfl, (((((Ch.refl [T + 1] s).ch c_1 (by simp)).ch c_5 (by simp)).ch c_10 (by simp)).ch c_13 (by simp)), pa, pc, none, 0, hs', [], r21, [], ⟨by simpa [diskOf] using b_12, by simpa [diskOf] using rows_16, brel_18, Own.nil _ _ _ _, QRel.nil _ _, r21_19, fun b => rfl, by simp [diskOf]; omega, by simp [diskOf], fun m hm => by simp [diskOf] at hm⟩⟩
end Go.Proofs.YtngploohhmfaiaaGreat.E
/- The numbers under which this program holds sync.Mutex's texts, and that it holds them. -/
namespace Go.Proofs
abbrev Tryz.muLink : Go.Conc.Locks.MuLink := { lock := 113, unlock := 69, ilock := 172, iunlock := 124, lockSlow := 222, unlockSlow := 186, disable := 184, enable := 187, acquire := 221, relMerge := 183, cas32 := 220, add32 := 185, tMutex := 29, tIMutex := 27, tPMutex := 186, tPIMutex := 248, tPI32 := 252, tUP := 250, tNoCopy := 24, tU32 := 25 }
theorem Tryz.muLib : Go.Conc.Locks.MuLib Tryz.prog Tryz.muLink :=
  ⟨Tryz.func113, Tryz.func69, Tryz.func172, Tryz.func124, Tryz.func184, Tryz.func187, Tryz.func221, Tryz.func183, Tryz.func220, Tryz.func185, Tryz.underlying27, Tryz.runUnderlying27, Tryz.sizeOf27, Tryz.isAgg27, Tryz.zeroValue27, Tryz.underlying29, Tryz.runUnderlying29, Tryz.sizeOf29, Tryz.isAgg29, Tryz.zeroValue29, Tryz.underlying186, Tryz.runUnderlying186, Tryz.sizeOf186, Tryz.isAgg186, Tryz.zeroValue186, Tryz.underlying248, Tryz.runUnderlying248, Tryz.sizeOf248, Tryz.isAgg248, Tryz.zeroValue248, Tryz.underlying252, Tryz.runUnderlying252, Tryz.sizeOf252, Tryz.isAgg252, Tryz.zeroValue252, Tryz.underlying250, Tryz.runUnderlying250, Tryz.sizeOf250, Tryz.isAgg250, Tryz.zeroValue250, Tryz.underlying24, Tryz.runUnderlying24, Tryz.sizeOf24, Tryz.isAgg24, Tryz.zeroValue24, Tryz.underlying21, Tryz.runUnderlying21, Tryz.sizeOf21, Tryz.isAgg21, Tryz.zeroValue21, (by kernel_rfl)⟩
end Go.Proofs
/- Contracts of functions. -/
namespace Go.Proofs.YtngploohhmfaiaaGreat.E
open Go Go.Proofs
set_option linter.unusedVariables false
/-- (*bollard/volume.Volume).held -/
theorem o_vheldn (s : TH) : TRet Tryz.prog 68 #[.pointer none] s fun v s' => v = .bool false ∧ Ch [] s s' := by
  refine F68_calls _  ?_
  unfold F68
  refine sB_t (by rfl) ?_
  refine ret_t ?_
  exact ⟨rfl, (Ch.refl [] s)⟩
/-- (*bollard/volume.Volume).held -/
theorem o_vheldz (r τ : Nat) (s : TH) (hr : Blk s r [.int .i32 0, .int .u32 0, .pointer none, .pointer none, .pointer none, .map none, .bool false, .bool false, .int .i64 0, .map none] 57 τ) : TRet Tryz.prog 68 #[.pointer (some ⟨r, 0, none⟩)] s fun v s' => v = .bool false ∧ Ch [τ] s s' ∧ Blk s' r [.int .i32 0, .int .u32 0, .pointer none, .pointer none, .pointer none, .map none, .bool false, .bool false, .int .i64 0, .map none] 57 τ := by
  refine F68_calls _  ?_
  unfold F68
  refine sB_f (by rfl) ?_
  refine nz_i ?_
  refine tcall (c_mlock Tryz.muLib hr rfl) ?_
  rintro _ s3 ⟨rfl, c_1, v_3⟩
  have z_2 := c_1.size
  refine nz_i ?_
  refine ld_t v_3 rfl ?_
  refine dPtr_i ?_
  refine sB_t (by rfl) ?_
  refine nz_i ?_
  refine tcall (c_munlock Tryz.muLib v_3 rfl) ?_
  rintro _ s9 ⟨rfl, c_4, v_6⟩
  have z_5 := c_4.size
  refine ret_t ?_
  exact ⟨rfl, (((Ch.refl [τ] s).ch c_1 (by simp)).ch c_4 (by simp)), v_6⟩
/-- a volume that no call made -/
structure NoV (s : TH) (p : Option Addr) (τ : Nat) : Prop where
  h : p = none ∨ ∃ c, p = some ⟨c, 0, none⟩ ∧ Blk s c [.int .i32 0, .int .u32 0, .pointer none, .pointer none, .pointer none, .map none, .bool false, .bool false, .int .i64 0, .map none] 57 τ
theorem NoV.mv {s s' : TH} {p : Option Addr} {τ : Nat} {B : Nat → Prop} (h : NoV s p τ) (c : Chg B s s') (hn : ∀ j, j < s.h.size → s.g j = τ → ¬ B j) : NoV s' p τ := by
  rcases h.h with h | ⟨r, h1, h2⟩
  · exact ⟨.inl h⟩
  · exact ⟨.inr ⟨r, h1, h2.mv c (hn r h2.lt h2.tag)⟩⟩
theorem o_vheldb (r τ : Nat) {s : TH} (hr : Blk s r [.int .i32 0, .int .u32 0, .pointer none, .pointer none, .pointer none, .map none, .bool false, .bool false, .int .i64 0, .map none] 57 τ) : TRet Tryz.prog 68 #[.pointer (some ⟨r, 0, none⟩)] s fun v s' => v = .bool false ∧ Ch [] s s' := by
  have h := o_vheldz r 1 ⟨s.h, fun j => if j = r then 1 else 0⟩ ⟨hr.get, by simp⟩
  refine HCalls.mono h fun e H' ⟨v, s1, he, hs, hv, hc, hb⟩ => ⟨v, ⟨s1.h, s.g⟩, he, hs, hv, ⟨hc.size, fun _ _ => rfl, fun j hj _ => ?_⟩⟩
  by_cases e : j = r
  · subst e
    exact hb.get.trans hr.get.symm
  · exact hc.get j hj (by simp [e])
theorem o_vheld (p : Option Addr) (τ : Nat) {s : TH} (h : NoV s p τ) : TRet Tryz.prog 68 #[.pointer p] s fun v s' => v = .bool false ∧ Ch [] s s' := by
  rcases h.h with rfl | ⟨c, rfl, hb⟩
  · exact o_vheldn s
  · exact o_vheldb c τ hb
/-- (*bollard/volume.Volume).Undo -/
theorem o_VUndo (b : Int) (p : Option Addr) (τ : Nat) {s : TH} (h : NoV s p τ) : TRet Tryz.prog 54 #[.pointer p, .int .i64 b] s fun v s' => v = .int .i64 2 ∧ Ch [] s s' := by
  refine F54_calls _ _  ?_
  unfold F54
  refine tcall (o_vheld p τ h) ?_
  rintro _ s2 ⟨rfl, c_1⟩
  have z_2 := c_1.size
  refine dBl_i ?_
  refine sB_t (by rfl) ?_
  refine ret_t ?_
  exact ⟨rfl, ((Ch.refl [] s).ch c_1 (by simp))⟩
/-- (*bollard/volume.Volume).Last -/
theorem o_VLast  (p : Option Addr) (τ : Nat) {s : TH} (h : NoV s p τ) : TRet Tryz.prog 52 #[.pointer p] s fun v s' => v = .int .i64 0 ∧ Ch [] s s' := by
  refine F52_calls _  ?_
  unfold F52
  refine tcall (o_vheld p τ h) ?_
  rintro _ s2 ⟨rfl, c_1⟩
  have z_2 := c_1.size
  refine dBl_i ?_
  refine sB_t (by rfl) ?_
  refine ret_t ?_
  exact ⟨rfl, ((Ch.refl [] s).ch c_1 (by simp))⟩
end Go.Proofs.YtngploohhmfaiaaGreat.E
/- Contracts of functions. -/
namespace Go.Proofs.YtngploohhmfaiaaGreat.E
open Go Go.Proofs
set_option linter.unusedVariables false
/-- bollard/cache.New -/
theorem c_cnew (T d : Nat) (D : DiskM) (T2 : Nat) (b : Int) (s : TH) (hT : 10 ≤ T) (hd : Disk s d T D) (hb : 1 ≤ b ∧ b ≤ 64) : TRet Tryz.prog 81 #[.pointer (some ⟨d, 0, none⟩), .int .i64 b] s fun v s' => ∃ c r, v = .tuple #[.pointer (some ⟨c, 0, none⟩), .int .i64 0] ∧ Ch [] s s' ∧ Blk s' c [.pointer (some ⟨d, 0, none⟩), .int .i64 b, .map (some r), .int .i64 0, .int .i64 0, .int .i64 0] 203 T2 ∧ MapK (Value.int .i64) s' r [] (T2 + 1) := by
  have hnb : 1 ≤ D.blocks.length := by obtain ⟨_, _, _, _, _, _, _, _, h⟩ := id hd; exact h.nb.1
  refine F81_calls _ _  ?_
  unfold F81
  refine tcall (c_blocks _ _ _ _ hT hd) ?_
  rintro _ s2 ⟨rfl, c_1⟩
  have z_2 := c_1.size
  refine dInt_i ?_
  refine sB_eq (fun hsB1 => ?_) (fun hsB1 => ?_)
  ·
    refine ret_t ?_
    omega
  ·
    refine jn_u ?_
    refine sB_d (fun hsB2 => by exfalso; omega) (fun hsB2 => ?_)
    intro _ _ _ _ _
    refine dBl_i ?_
    first | refine sB_d (fun hsB3 => ?_) (fun hsB3 => ?_) | refine sB_nd (fun hsB3 => ?_) (fun hsB3 => ?_) | refine sB_n (fun hsB3 => ?_) (fun hsB3 => ?_) | refine sB_i (fun hsB3 => ?_) (fun hsB3 => ?_)
    ·
      refine ret_t ?_
      simp at hsB3; omega
    ·
      refine alm_t (Value.int .i64) (T2 + 1) fun r12 s13 hr12 m_3 c_4 z_5 => ?_
      refine al_t T2 fun r14 s15 hr14 b_6 c_7 z_8 => ?_
      refine ret_t ?_
      have r12_9 := m_3.ch c_7 (by simp)
      exact ⟨r14, r12, rfl, ((((Ch.refl [] s).ch c_1 (by simp)).ch c_4 (by simp)).ch c_7 (by simp)), b_6, r12_9⟩
/-- bollard/patch.New -/
theorem c_pnew (T : Nat) (s : TH) : TRet Tryz.prog 82 #[] s fun v s' => ∃ p r1 r2, v = .pointer (some ⟨p, 0, none⟩) ∧ Ch [] s s' ∧ Blk s' p [.int .i64 0, .map (some r1), .map (some r2), .bool true] 192 T ∧ MapK (Value.int .i64) s' r1 [] (T + 1) ∧ MapK (Value.int .i64) s' r2 [] (T + 2) := by
  refine F82_calls  ?_
  unfold F82
  refine alm_t (Value.int .i64) (T + 1) fun r1 s2 hr1 m_1 c_2 z_3 => ?_
  refine alm_t (Value.int .i64) (T + 2) fun r3 s4 hr3 m_4 c_5 z_6 => ?_
  refine al_t T fun r5 s6 hr5 b_7 c_8 z_9 => ?_
  refine ret_t ?_
  have r1_10 := m_1.ch c_5 (by simp)
  have r1_11 := r1_10.ch c_8 (by simp)
  have r3_12 := m_4.ch c_8 (by simp)
  exact ⟨r5, r1, r3, rfl, ((((Ch.refl [] s).ch c_2 (by simp)).ch c_5 (by simp)).ch c_8 (by simp)), b_7, r1_11, r3_12⟩
/-- a disk that no call made -/
structure NoD (s : TH) (p : Option Addr) (τ : Nat) : Prop where
  h : p = none ∨ ∃ c, p = some ⟨c, 0, none⟩ ∧ Blk s c [.slice none 0 0, .slice none 0 0, .map none, .int .i64 0] 133 τ
theorem NoD.mv {s s' : TH} {p : Option Addr} {τ : Nat} {B : Nat → Prop} (h : NoD s p τ) (c : Chg B s s') (hn : ∀ j, j < s.h.size → s.g j = τ → ¬ B j) : NoD s' p τ := by
  rcases h.h with h | ⟨r, h1, h2⟩
  · exact ⟨.inl h⟩
  · exact ⟨.inr ⟨r, h1, h2.mv c (hn r h2.lt h2.tag)⟩⟩
/-- (*bollard/volume.Volume).held -/
theorem c_vheld (r τ : Nat) {d : Addr} {v3 v4 v5 v6 v7 v8 v9 : Value} {s : TH} (hr : Blk s r [.int .i32 0, .int .u32 0, .pointer (some d), v3, v4, v5, v6, v7, v8, v9] 57 τ) : TRet Tryz.prog 68 #[.pointer (some ⟨r, 0, none⟩)] s fun v s' => v = .bool true ∧ Ch [τ] s s' ∧ Blk s' r [.int .i32 1, .int .u32 0, .pointer (some d), v3, v4, v5, v6, v7, v8, v9] 57 τ := by
  refine F68_calls _  ?_
  unfold F68
  refine sB_f (by rfl) ?_
  refine nz_i ?_
  refine tcall (c_mlock Tryz.muLib hr rfl) ?_
  rintro _ s3 ⟨rfl, c_1, v_3⟩
  have z_2 := c_1.size
  refine nz_i ?_
  refine ld_t v_3 rfl ?_
  refine dPtr_i ?_
  refine sB_f (by rfl) ?_
  refine ret_t ?_
  exact ⟨rfl, ((Ch.refl [τ] s).ch c_1 (by simp)), v_3⟩
end Go.Proofs.YtngploohhmfaiaaGreat.E
