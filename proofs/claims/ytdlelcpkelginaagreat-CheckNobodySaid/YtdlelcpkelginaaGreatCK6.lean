/- My own texts, joined. -/
import Derived.Conc.MuLone
import Derived.KernelRfl
import Derived.Laws.BytesArg
import Derived.Laws.IdiomStrings
import Derived.Laws.Strings
import Derived.Lib.AppendZerosOnto
import Derived.Lib.SlBytesConst
import Derived.Maps.RangeRun
import Derived.Shelf.Slices.In.SortNone
import Derived.Shelf.Sort.Plain
import Derived.Test.YtdlelcpkelginaaGreatProg
import Derived.Test.YtdlelcpkelginaaGreatCK5
/- The shelf's contracts, laid at this program, in plain words. -/
namespace Go.Proofs
open Go.Shelf
def Tryz.sortIA_ren : Go.Shelf.Ren := ⟨fun | 189 => 281 | 125 => 348 | 257 => 347 | 128 => 395 | 129 => 396 | 294 => 386 | 295 => 387 | 296 => 388 | 297 => 389 | 298 => 390 | 299 => 391 | 216 => 392 | 300 => 393 | 301 => 394 | 328 => 411 | 329 => 412 | 330 => 413 | 331 => 414 | 332 => 415 | 215 => 416 | 343 => 425 | n => n, fun | 28 => 74 | 3 => 3 | 46 => 30 | 0 => 0 | 51 => 90 | 53 => 443 | 4 => 4 | 183 => 435 | 182 => 434 | 131 => 75 | 5 => 5 | 9 => 9 | 218 => 449 | 222 => 185 | 228 => 458 | 229 => 200 | n => n, fun | n => n⟩
theorem Tryz.sortIA : Go.Proofs.Lays.n189 Tryz.prog Tryz.sortIA_ren :=
  { mixed := by kernel_rfl,
    f125 := Tryz.func348.trans (congrArg some (by kernel_rfl)),
    f128 := Tryz.func395.trans (congrArg some (by kernel_rfl)),
    f129 := Tryz.func396.trans (congrArg some (by kernel_rfl)),
    f189 := Tryz.func281.trans (congrArg some (by kernel_rfl)),
    f215 := Tryz.func416.trans (congrArg some (by kernel_rfl)),
    f216 := Tryz.func392.trans (congrArg some (by kernel_rfl)),
    f257 := Tryz.func347.trans (congrArg some (by kernel_rfl)),
    f294 := Tryz.func386.trans (congrArg some (by kernel_rfl)),
    f295 := Tryz.func387.trans (congrArg some (by kernel_rfl)),
    f296 := Tryz.func388.trans (congrArg some (by kernel_rfl)),
    f297 := Tryz.func389.trans (congrArg some (by kernel_rfl)),
    f298 := Tryz.func390.trans (congrArg some (by kernel_rfl)),
    f299 := Tryz.func391.trans (congrArg some (by kernel_rfl)),
    f300 := Tryz.func393.trans (congrArg some (by kernel_rfl)),
    f301 := Tryz.func394.trans (congrArg some (by kernel_rfl)),
    f328 := Tryz.func411.trans (congrArg some (by kernel_rfl)),
    f329 := Tryz.func412.trans (congrArg some (by kernel_rfl)),
    f330 := Tryz.func413.trans (congrArg some (by kernel_rfl)),
    f331 := Tryz.func414.trans (congrArg some (by kernel_rfl)),
    f332 := Tryz.func415.trans (congrArg some (by kernel_rfl)),
    f343 := Tryz.func425.trans (congrArg some (by kernel_rfl)),
    t0 := Tryz.underlying0,
    a0 := Tryz.isAgg0,
    z0 := Tryz.sizeOf0,
    v0 := Tryz.zeroValue0,
    t3 := Tryz.underlying3,
    a3 := Tryz.isAgg3,
    z3 := Tryz.sizeOf3,
    v3 := Tryz.zeroValue3,
    t4 := Tryz.underlying4,
    a4 := Tryz.isAgg4,
    z4 := Tryz.sizeOf4,
    v4 := Tryz.zeroValue4,
    t5 := Tryz.underlying5,
    a5 := Tryz.isAgg5,
    z5 := Tryz.sizeOf5,
    v5 := Tryz.zeroValue5,
    t9 := Tryz.underlying9,
    a9 := Tryz.isAgg9,
    z9 := Tryz.sizeOf9,
    v9 := Tryz.zeroValue9,
    t28 := Tryz.underlying74,
    a28 := Tryz.isAgg74,
    z28 := Tryz.sizeOf74,
    v28 := Tryz.zeroValue74,
    t46 := Tryz.underlying30,
    a46 := Tryz.isAgg30,
    z46 := Tryz.sizeOf30,
    v46 := Tryz.zeroValue30,
    t51 := Tryz.underlying90,
    a51 := Tryz.isAgg90,
    z51 := Tryz.sizeOf90,
    v51 := Tryz.zeroValue90,
    t53 := Tryz.underlying443,
    a53 := Tryz.isAgg443,
    z53 := Tryz.sizeOf443,
    v53 := Tryz.zeroValue443,
    t131 := Tryz.underlying75,
    a131 := Tryz.isAgg75,
    z131 := Tryz.sizeOf75,
    v131 := Tryz.zeroValue75,
    t182 := Tryz.underlying434,
    a182 := Tryz.isAgg434,
    z182 := Tryz.sizeOf434,
    v182 := Tryz.zeroValue434,
    t183 := Tryz.underlying435,
    a183 := Tryz.isAgg435,
    z183 := Tryz.sizeOf435,
    v183 := Tryz.zeroValue435,
    t218 := Tryz.underlying449,
    a218 := Tryz.isAgg449,
    z218 := Tryz.sizeOf449,
    v218 := Tryz.zeroValue449,
    t222 := Tryz.underlying185,
    a222 := Tryz.isAgg185,
    z222 := Tryz.sizeOf185,
    v222 := Tryz.zeroValue185,
    t228 := Tryz.underlying458,
    a228 := Tryz.isAgg458,
    z228 := Tryz.sizeOf458,
    v228 := Tryz.zeroValue458,
    t229 := Tryz.underlying200,
    a229 := Tryz.isAgg200,
    z229 := Tryz.sizeOf200,
    v229 := Tryz.zeroValue200 }
end Go.Proofs
/- Contracts of functions. -/
namespace Go.Proofs.YtdlelcpkelginaaGreat.E
open Go Go.Proofs Go.RowKit Go.Maps Go.Shelf Go.Sort
set_option linter.unusedVariables false
set_option linter.unusedSimpArgs false
theorem c_sortInt {a : Option Addr} {n c τ : Nat} {l : List Int} {s : TH} (hO : Own s a n c 3 1 (ivs l) τ) (hn : n ≤ 17592186044416) :
    TRet Tryz.prog 281 #[.slice a n c] s fun v s' => v = .tuple #[] ∧ Ch [τ] s s' ∧ Own s' a n c 3 1 (ivs (l.mergeSort fun x y => decide (x ≤ y))) τ := by
  have hl : l.length = n := by have := hO.1; rw [ivs_len] at this; omega
  by_cases h0 : n = 0
  · subst h0
    have hss : l = [] := List.eq_nil_of_length_eq_zero hl
    subst hss
    intro w hw
    refine (Any.slices_Sort_int_none Tryz.sortIA a c w).mono ?_
    rintro e w' ⟨rfl, rfl⟩
    exact ⟨⟨_, s, rfl, hw.symm, rfl, Ch.refl _ _, by simpa using hO⟩, Like.refl _⟩
  obtain ⟨g, o, rfl⟩ : ∃ g o, a = some ⟨g, o, none⟩ := by
    rcases hO.2 with ⟨_, h, _⟩ | ⟨g, o, L, h, _⟩
    · exact absurd h h0
    · exact ⟨g, o, h⟩
  have hgt : s.g g = τ := hO.tagOf
  intro w hw
  have hH : Go.Sort.Holds (Value.int .i64) w g o l.toArray := by
    intro j hj
    have hj' : j < l.length := by simpa using hj
    have hcell := hO.sl.cells w hw j (.int .i64 l.toArray[j]!) (by simp [ivs, hj'])
    rw [add_mk] at hcell
    refine ⟨hcell, ?_⟩
    rcases hO.2 with ⟨h, _⟩ | ⟨g', o', L, h, h1, _⟩
    · cases h
    · cases h
      rw [frozen_eq, hw]; exact h1.frozen _
  have hS := Any.slices_Sort_int Tryz.sortIA g o c l w hH (by rw [hw]; rcases hO.2 with ⟨h, _⟩ | ⟨g', o', L, h, h1, _⟩ <;> cases h; exact h1.lt) (by omega)
  rw [hl] at hS
  refine hS.mono ?_
  rintro e w' ⟨rfl, n', os, rfl⟩
  refine ⟨⟨_, ⟨_, s.g⟩, rfl, rfl, rfl, Chg.mono (sortW_on (enc := Value.int .i64) hw g o n' _ os) (fun j hj e => by subst e; show s.g j ∈ [τ]; rw [hgt]; simp), ?_⟩, rfl, rfl, rfl⟩
  have := sortW_own (enc := Value.int .i64) hw hO n' (l.mergeSort fun x y => decide (x ≤ y)).toArray (by simp [hl]) os
  exact this
/-- neighbours that are the same become one -/
def cptS (acc : List Int) (x : Int) : List Int := if acc.getLast? = some x then acc else acc ++ [x]
def cpt (l : List Int) : List Int := l.foldl cptS []
end Go.Proofs.YtdlelcpkelginaaGreat.E
/- Going through a map, in states with marks. -/
namespace Go.Proofs.YtdlelcpkelginaaGreat.E
open Go Go.ChangeMaps
set_option linter.unusedVariables false
set_option linter.unusedSimpArgs false
/-- a map m, and an iterator over it that has told the keys 'vis' -/
structure ItK {κ : Type} (kf : κ → Value) (s : TH) (q r : Nat) (m : List (κ × Value)) (vis : List κ) (τ τq : Nat) : Prop where
  ex : ∃ (es : List MapEntry) (ck : Nat) (seen : Array Nat), s.h[r]? = some (.map es.toArray ck) ∧ Ents kf es ck m ∧ s.h[q]? = some (.mapIter (some r) ck seen ck) ∧
    (∀ e ∈ es, ∀ k, e.key = kf k → (seen.contains e.born = true ↔ k ∈ vis)) ∧ (∀ vis' k, vis = vis' ++ [k] → ∀ e ∈ es, e.key = kf k → seen.back? = some e.born)
  tag : s.g r = τ
  tagq : s.g q = τq
  nd : (m.map (·.1)).Nodup
  sub : vis.Nodup
def leftH (H : Heap) (q r : Nat) : Nat :=
  match H[r]?, H[q]? with
  | some (.map es _), some (.mapIter _ _ seen _) => (leftOf es seen).size
  | _, _ => 0
section
variable {κ : Type} {kf : κ → Value} {s s' : TH} {q r τ τq : Nat} {m : List (κ × Value)} {vis : List κ}
theorem ItK.map (h : ItK kf s q r m vis τ τq) : MapK kf s r m τ := by
  obtain ⟨es, ck, seen, h1, h2, _⟩ := h.ex
  exact ⟨⟨es, ck, h1, h2⟩, h.tag, h.nd⟩
theorem ItK.ltq (h : ItK kf s q r m vis τ τq) : q < s.h.size := by
  obtain ⟨es, ck, seen, _, _, h1, _⟩ := h.ex
  exact (Array.getElem?_eq_some_iff.1 h1).1
theorem ItK.mv {B : Nat → Prop} (h : ItK kf s q r m vis τ τq) (c : Chg B s s') (hr : ¬ B r) (hq : ¬ B q) : ItK kf s' q r m vis τ τq := by
  have l1 := h.map.lt
  have l2 := h.ltq
  obtain ⟨es, ck, seen, h1, h2, h3, h4⟩ := h.ex
  exact ⟨⟨es, ck, seen, (c.get r l1 hr).trans h1, h2, (c.get q l2 hq).trans h3, h4⟩, (c.tag r l1).trans h.tag, (c.tag q l2).trans h.tagq, h.nd, h.sub⟩
theorem ItK.ch {T : List Nat} (h : ItK kf s q r m vis τ τq) (c : Ch T s s') (hr : τ ∉ T) (hq : τq ∉ T) : ItK kf s' q r m vis τ τq :=
  h.mv c (by show s.g r ∉ T; rw [h.tag]; exact hr) (by show s.g q ∉ T; rw [h.tagq]; exact hq)
theorem left_len [DecidableEq κ] (hinj : ∀ a b, kf a = kf b → a = b) : ∀ {es : List MapEntry} {m : List (κ × Value)} {seen : Array Nat} {vis : List κ}, es.map (·.key) = m.map (fun p => kf p.1) → (∀ e ∈ es, ∀ k, e.key = kf k → (seen.contains e.born = true ↔ k ∈ vis)) →
    (es.filter fun e => !seen.contains e.born).length = (m.filter fun p => !decide (p.1 ∈ vis)).length
  | [], [], _, _, _, _ => rfl
  | [], _ :: _, _, _, h, _ => by simp at h
  | _ :: _, [], _, _, h, _ => by simp at h
  | e :: es, p :: m, seen, vis, h, hs => by
    simp only [List.map_cons, List.cons.injEq] at h
    have h1 := hs e (by simp) p.1 h.1
    have h2 := left_len hinj (seen := seen) (vis := vis) h.2 (fun e' he' => hs e' (List.mem_cons_of_mem _ he'))
    rw [List.filter_cons, List.filter_cons]
    by_cases hp : p.1 ∈ vis
    · rw [h1.2 hp]; simp only [Bool.not_true, hp, decide_true, Bool.false_eq_true, if_false]; exact h2
    · have : seen.contains e.born = false := by rw [← Bool.not_eq_true]; exact fun h => hp (h1.1 h)
      rw [this]; simp only [Bool.not_false, hp, decide_false, if_true, List.length_cons]; rw [h2]
theorem ItK.left [DecidableEq κ] (hinj : ∀ a b, kf a = kf b → a = b) (h : ItK kf s q r m vis τ τq) : leftH s.h q r = (m.filter fun p => !decide (p.1 ∈ vis)).length := by
  obtain ⟨es, ck, seen, h1, h2, h3, h4, _⟩ := h.ex
  unfold leftH
  rw [h1, h3]
  show (leftOf es.toArray seen).size = _
  rw [← left_len hinj h2.key h4]
  unfold leftOf
  simp
end
section
variable {κ : Type} {kf : κ → Value} {P : Program} {T Kt Et : TypeId} {E : List PanicEntry → Heap → Prop} {s : TH} {q r τ : Nat} {m : List (κ × Value)} {vis : List κ}
end
end Go.Proofs.YtdlelcpkelginaaGreat.E
/- sync.Mutex, entered alone, on marked states; the door of a function with one call put off. -/
namespace Go.Proofs.YtdlelcpkelginaaGreat.E
open Go Go.Conc.Locks
set_option linter.unusedVariables false
theorem setcell_on {s : TH} {r : Nat} {l : List Value} {t τ i : Nat} {v : Value} (h : Blk s r l t τ) {w : World} (hw : w.heap = s.h) :
    (⟨setH s.h ⟨r, i, none⟩ v, s.g⟩ : TH).h = (w.setCell ⟨r, i, none⟩ v).heap := by rw [set_eq, hw]
theorem on_ch {s s' : TH} {r : Nat} {l : List Value} {t τ : Nat} (h : Blk s r l t τ) (c : On r s s') : Ch [τ] s s' := Chg.mono c fun j _ e => by subst e; rw [h.tag]; simp
theorem like_set (w : World) (a : Addr) (v : Value) : Like w (w.setCell a v) := ⟨rfl, rfl, rfl⟩
theorem c_mlock {P : Program} {L : MuLink} (M : MuLib P L) {s : TH} {r i : Nat} {l : List Value} {t τ : Nat} (h : Blk s r l t τ) (hi : l[i]? = some (.int .i32 0)) :
    TRet P L.lock #[.pointer (some ⟨r, i, none⟩)] s fun v s' => v = .tuple #[] ∧ Ch [τ] s s' ∧ Blk s' r (l.set i (.int .i32 1)) t τ := by
  intro w hw
  refine (Go.MuLone.lock_free M ⟨r, i, none⟩ w ?_ ?_).mono ?_
  · rw [cell_eq, hw, h.cell]; exact hi
  · rw [frozen_eq, hw]; exact h.frozen i
  rintro e w' ⟨rfl, rfl⟩
  have := set_on (i := i) (v := .int .i32 1) h
  exact ⟨⟨_, _, rfl, setcell_on h hw, rfl, on_ch h this.2, this.1⟩, like_set w _ _⟩
/-- the Unlock put off, and the function's end behind it -/
theorem c_door {P : Program} {L : MuLink} (M : MuLib P L) {s : TH} {r i : Nat} {l : List Value} {t τ : Nat} (h : Blk s r l t τ) (hi : l[i]? = some (.int .i32 1))
    {fn : Func} {tmps : Array Value} {R : Ending → Heap → Prop} {v : Value} {K2 : List PanicEntry → FrameMode → Heap → Prop} (he : ∀ H, resK P fn tmps R H = R (.returned v) H)
    (hk : ∀ s' : TH, Blk s' r (l.set i (.int .i32 0)) t τ → On r s s' → s.h.size = s'.h.size → R (.returned v) s'.h) :
    HCallsD P L.unlock #[.pointer (some ⟨r, i, none⟩)] .returning s.h (fun e u H' => match e with
      | .returned _ => leavesV P fn tmps R [] (settle u) H'
      | .panicked c => K2 c u H'
      | .outgrown => False) := by
  intro w hw
  refine (Go.MuLone.unlock_deferred M ⟨r, i, none⟩ .returning w ?_ ?_).mono ?_
  · rw [cell_eq, hw, h.cell]; exact hi
  · rw [frozen_eq, hw]; exact h.frozen i
  rintro e u w' ⟨rfl, rfl, rfl⟩
  have := set_on (i := i) (v := .int .i32 0) h
  refine ⟨?_, like_set w _ _⟩
  show resK P fn tmps R _
  rw [he, ← setcell_on h hw]
  exact hk _ this.1 this.2 (by simp [setH])
end Go.Proofs.YtdlelcpkelginaaGreat.E
/- Appending so many noughts to bytes. -/
namespace Go.Proofs.YtdlelcpkelginaaGreat.E
open Go
set_option linter.unusedVariables false
theorem zeroB (m : Nat) : (Builtin.zeroCells (Value.int .u8 0).cells m).toList = bvs (List.replicate m 0) := by
  apply List.ext_getElem
  · simp [Builtin.zeroCells, bvs, Value.cells]
  · intro i h1 h2
    simp [Builtin.zeroCells, bvs, Value.cells, bv, Nat.mod_one]
section
variable {P : Program} {t tn ty e : TypeId} {i : TypeInfo} {E : List PanicEntry → Heap → Prop}
theorem run_append_room_z (w : World) {kn kq : IntKind} (ht : P.underlying t = some (.slice e)) (htn : P.underlying tn = some (.int kn)) (hi : P.info? e = some i) (hz : i.zero = some (.int .u8 0)) (hs : i.size = 1) (hby : i.bytes = 1)
    (g o sLen sCap m : Nat) (cur : Array Value) (hg : w.heap[g]? = some (.cells cur e (0, 0))) (hm : 0 < m) (hm2 : m ≤ 1000000000)
    (hroom : sLen + m ≤ sCap) (hfit : o + sLen + m ≤ cur.size) :
    (Builtin.append_ #[t, tn] ty #[.slice (some ⟨g, o, none⟩) sLen sCap, .int kq m]).run P w =
      .ok (.slice (some ⟨g, o, none⟩) (sLen + m) sCap) (w.setRow g (cur.toList.take (o + sLen) ++ bvs (List.replicate m 0) ++ cur.toList.drop (o + sLen + m)).toArray) := by
  have hst := run_storeCells_at P g (o + sLen) e (bvs (List.replicate m 0)) 0 cur w hg (by simp [bvs_len]; omega) (bvs_one _)
  simp only [Nat.add_zero, bvs_len, List.length_replicate] at hst
  have hadd : (⟨g, o, none⟩ : Addr).add sLen = ⟨g, o + sLen, none⟩ := by unfold Addr.add; split <;> simp_all
  have hw : IntKind.i64.wrap (m : Int) = m := by rw [IntKind.wrap_i64]; omega
  have hneg : ¬ ((m : Int) < 0) := by omega
  have h48 : ¬ (281474976710656 < (m : Int)) := by omega
  have hm0 : ¬ (m = 0) := by omega
  simp [Builtin.append_, run_underlying ht, run_underlying htn, sizeOf, typeInfo, zeroValue, hi, hz, hs, hby, asInt, asIntOf, hw, hneg, h48, hm0, hroom, hadd, zeroB, hst]
theorem appz_i {s : TH} {a : Option Addr} {n c m : Nat} {kn : IntKind} {l : List UInt8} {τ : Nat} {K : Value → Heap → Prop}
    (ht : P.underlying t = some (.slice e)) (htn : P.underlying tn = some (.int kn)) (hi' : (P.info? e).map (fun i => (i.zero, i.size, i.bytes)) = some (some (.int .u8 0), 1, 1))
    (hO : Own s a n c e 1 (bvs l) τ) (ha : a ≠ none) (hm : 0 < m) (hb : n ≤ 1000000000 ∧ m ≤ 1000000000)
    (hk : ∀ (s' : TH) (a' : Option Addr) (c' : Nat), Own s' a' (n + m) c' e 1 (bvs (l ++ List.replicate m 0)) τ → OnA a s s' → K (.slice a' (n + m) c') s'.h) :
    semW P (Builtin.append_ #[t, tn] ty #[.slice a n c, .int .i64 (m : Int)]) E s.h K := .mk fun w hw => by
  obtain ⟨i, hi, hz, hs, hby⟩ := info_of hi'
  have hlen : (bvs (l ++ List.replicate m 0)).length = (n + m) * 1 := by
    have := hO.1; rw [bvs_len] at this ⊢; rw [List.length_append, List.length_replicate]; omega
  have hxl := hO.1
  rw [bvs_len] at hxl
  have happ : bvs (l ++ List.replicate m 0) = bvs l ++ bvs (List.replicate m 0) := by simp [bvs]
  rcases hO.2 with ⟨rfl, rfl, rfl⟩ | ⟨g, o, L, rfl, hB, hnc, hcm, hcs, htake⟩
  · exact absurd rfl ha
  · by_cases hroom : n + m ≤ c
    · have hr := run_append_room_z (P := P) (ty := ty) (kq := .i64) w ht htn hi hz hs hby g o n c m L.toArray (by rw [hw]; exact hB.get) hm hb.2 hroom (by simp; omega)
      rw [hr]
      have hset : (w.setRow g (L.take (o + n) ++ bvs (List.replicate m 0) ++ L.drop (o + n + m)).toArray).heap[g]? = some (.cells (L.take (o + n) ++ bvs (List.replicate m 0) ++ L.drop (o + n + m)).toArray e (0, 0)) := setRow_heap w g L.toArray _ e _ (by rw [hw]; exact hB.get)
      have hK := hk ⟨(w.setRow g (L.take (o + n) ++ bvs (List.replicate m 0) ++ L.drop (o + n + m)).toArray).heap, s.g⟩ (some ⟨g, o, none⟩) c ⟨hlen, .inr ⟨g, o, _, rfl, ⟨hset, hB.tag⟩, hroom, hcm, ?_, ?_⟩⟩ ⟨by simp [← hw], fun _ _ => rfl, fun j hj hn => ?_⟩
      · exact ⟨hK, rfl, rfl, rfl⟩
      · simp only [List.length_append, List.length_take, List.length_drop, bvs_len, List.length_replicate]; omega
      · have e1 : (L.take (o + n) ++ bvs (List.replicate m 0) ++ L.drop (o + n + m)).drop o = (L.drop o).take n ++ bvs (List.replicate m 0) ++ L.drop (o + n + m) := by
          rw [List.append_assoc, List.drop_append_of_le_length (by simp; omega), List.drop_take, ← List.append_assoc]
          congr 2; congr 1; omega
        rw [Nat.mul_one] at htake
        rw [e1, htake, ← happ, ← hlen]; exact List.take_left
      · show (w.setRow g _).heap[j]? = _
        rw [setRow_other w g j _ (fun e => hn (by simp [e])), hw]
    · have hold : (Builtin.firstCells i.size n (.slice (some ⟨g, o, none⟩) n c)).run P w.drew = .ok (bvs l).toArray w.drew := by
        have hcl := hO.sl.cells w.drew (by exact hw)
        exact run_firstCells_some (P := P) w.drew i.size n ⟨g, o, none⟩ n c (bvs l) (by rw [hs]; exact hO.1) hcl
      have hr := Go.Lib.run_append_grow_zeros (P := P) w t tn ty e i (.int .u8 0) .i64 kn ht htn hi hz (some ⟨g, o, none⟩) n c (bvs l) hold m hm (by omega) (by omega) (by omega) (by rw [hby]; omega) (growslice_fits (by omega) (by rw [hby]; omega))
      rw [hr]
      have hge := grownCap_ge w (n + m) c e
      have hcm' : grownCap w (n + m) c e ≤ maxLen := grownCap_le_maxLen w (n + m) c e (by unfold maxLen; omega)
      have hL : (bvs l).toArray ++ Builtin.zeroCells (Value.int .u8 0).cells m ++ Builtin.zeroCells (Value.int .u8 0).cells (grownCap w (n + m) c e - (n + m)) = (bvs (l ++ List.replicate m 0) ++ bvs (List.replicate (grownCap w (n + m) c e - (n + m)) 0)).toArray := by
        apply Array.toList_inj.1
        simp only [Array.toList_append, zeroB, happ]
      rw [hL]
      refine ⟨?_, rfl, rfl, rfl⟩
      have hh : (w.drew.alloc (.cells (bvs (l ++ List.replicate m 0) ++ bvs (List.replicate (grownCap w (n + m) c e - (n + m)) 0)).toArray e)).heap = s.h.push (.cells (bvs (l ++ List.replicate m 0) ++ bvs (List.replicate (grownCap w (n + m) c e - (n + m)) 0)).toArray e) := by rw [← hw]; rfl
      rw [hh]
      rw [show w.heap.size = s.h.size by rw [hw]]
      refine hk ⟨s.h.push (.cells (bvs (l ++ List.replicate m 0) ++ bvs (List.replicate (grownCap w (n + m) c e - (n + m)) 0)).toArray e), upd s.g s.h.size τ⟩ _ _ ⟨hlen, .inr ⟨s.h.size, 0, _, rfl, ⟨Array.getElem?_push_size .., by simp [upd]⟩, hge, hcm', ?_, ?_⟩⟩ ?_
      · rw [List.length_append, hlen, bvs_len, List.length_replicate]; omega
      · rw [← hlen, List.drop_zero]; exact List.take_left
      · exact Chg.mono (pushed s _ τ) fun _ _ h => by simp at h
end
end Go.Proofs.YtdlelcpkelginaaGreat.E
/- A constant text's bytes; appending to what is full. -/
namespace Go.Proofs.YtdlelcpkelginaaGreat.E
open Go
set_option linter.unusedVariables false
section
variable {P : Program} {t tn ty e : TypeId} {E : List PanicEntry → Heap → Prop}
theorem freezeH_get {H : Heap} {r n : Nat} {c : Array Value} {e : TypeId} (h : H[r]? = some (.cells c e (0, 0))) : (freezeH H ⟨r, n, none⟩ 1)[r]? = some (.cells c e (n, n + 1)) := by
  unfold freezeH World.freeze
  rw [if_neg (by decide)]
  show (H.modify r _)[r]? = _
  rw [modify_get, if_pos rfl, h]
  rfl
theorem freezeH_other {H : Heap} {r n j : Nat} (h : j ≠ r) : (freezeH H ⟨r, n, none⟩ 1)[j]? = H[j]? := by
  unfold freezeH World.freeze
  rw [if_neg (by decide)]
  show (H.modify r _)[j]? = _
  rw [modify_get, if_neg (fun e => h e.symm)]
theorem freezeH_size {H : Heap} {r n : Nat} : (freezeH H ⟨r, n, none⟩ 1).size = H.size := by
  unfold freezeH World.freeze
  rw [if_neg (by decide)]
  show (H.modify r _).size = _
  simp
theorem conv_lit {s : TH} {r n τ : Nat} {l : List Value} {K : Value → Heap → Prop} (ht : P.underlying t = some (.slice e)) (he : P.underlying e = some (.int .u8)) (h : Blk s r l e τ) (hn : l.length = n)
    (hk : ∀ s' : TH, Sl s' (some ⟨r, 0, none⟩) l τ → On r s s' → s.h.size = s'.h.size → K (.slice (some ⟨r, 0, none⟩) n n) s'.h) :
    semW P (convert t t (.slice (some ⟨r, 0, none⟩) n n)) E s.h K := .mk fun w hw => by
  have hsh : w.shape? r = some (e, n) := by rw [shape_eq, hw]; simp [shapeH, h.get, hn]
  have hrun : (convert t t (.slice (some ⟨r, 0, none⟩) n n)).run P w = .ok (.slice (some ⟨r, 0, none⟩) n n) (w.freeze ⟨r, n, none⟩ 1) := by
    simp [convert, run_underlying ht, run_underlying he, markStringish, hsh]
  rw [hrun]
  have hg := freezeH_get (n := n) h.get
  refine ⟨?_, ?_⟩
  · show K _ (w.freeze ⟨r, n, none⟩ 1).heap
    rw [freeze_eq, hw]
    refine hk ⟨freezeH s.h ⟨r, n, none⟩ 1, s.g⟩ (.inr ⟨r, 0, rfl, by show r < (freezeH _ _ _).size; rw [freezeH_size]; exact h.lt, h.tag, fun j v hv => ?_⟩) ⟨by show _ ≤ (freezeH _ _ _).size; rw [freezeH_size]; exact Nat.le_refl _, fun _ _ => rfl, fun j hj hne => freezeH_other hne⟩ (by show _ = (freezeH _ _ _).size; rw [freezeH_size])
    show cellH (freezeH s.h ⟨r, n, none⟩ 1) ⟨r, 0 + j, none⟩ = some v
    simp [cellH, hg, hv]
  · unfold World.freeze
    split <;> exact ⟨rfl, rfl, rfl⟩
/-- what a new row of so many bytes is -/
theorem new_own {s : TH} {L : List UInt8} {rest : Nat} {e τ cap : Nat} (hcap : L.length + rest = cap) (hc : cap ≤ maxLen) :
    Own ⟨s.h.push (.cells (bvs L ++ bvs (List.replicate rest 0)).toArray e), upd s.g s.h.size τ⟩ (some ⟨s.h.size, 0, none⟩) L.length cap e 1 (bvs L) τ := by
  refine ⟨by rw [bvs_len]; omega, .inr ⟨s.h.size, 0, _, rfl, ⟨Array.getElem?_push_size .., by simp [upd]⟩, by omega, hc, ?_, ?_⟩⟩
  · rw [List.length_append, bvs_len, bvs_len, List.length_replicate]; omega
  · rw [List.drop_zero, show L.length * 1 = (bvs L).length by rw [bvs_len]; omega]; exact List.take_left
theorem appz_g {s : TH} {a : Addr} {n m : Nat} {kn : IntKind} {l : List UInt8} {τ : Nat} (τ' : Nat) {K : Value → Heap → Prop}
    (ht : P.underlying t = some (.slice e)) (htn : P.underlying tn = some (.int kn)) (hi' : (P.info? e).map (fun i => (i.zero, i.size, i.bytes)) = some (some (.int .u8 0), 1, 1))
    (hx : Sl s (some a) (bvs l) τ) (hl : l.length = n) (hm : 0 < m) (hb : n ≤ 1000000000 ∧ m ≤ 1000000000)
    (hk : ∀ (s' : TH) (a' : Option Addr) (c' : Nat), Own s' a' (n + m) c' e 1 (bvs (l ++ List.replicate m 0)) τ' → Ch [] s s' → a' ≠ none → K (.slice a' (n + m) c') s'.h) :
    semW P (Builtin.append_ #[t, tn] ty #[.slice (some a) n n, .int .i64 (m : Int)]) E s.h K := .mk fun w hw => by
  obtain ⟨i, hi, hz, hs, hby⟩ := info_of hi'
  have hold : (Builtin.firstCells i.size n (.slice (some a) n n)).run P w.drew = .ok (bvs l).toArray w.drew :=
    run_firstCells_some (P := P) w.drew i.size n a n n (bvs l) (by rw [hs, bvs_len]; omega) (hx.cells w.drew (by exact hw))
  have hr := Go.Lib.run_append_grow_zeros (P := P) w t tn ty e i (.int .u8 0) .i64 kn ht htn hi hz (some a) n n (bvs l) hold m hm (by omega) (by omega) (by omega) (by rw [hby]; omega) (growslice_fits (by omega) (by rw [hby]; omega))
  rw [hr]
  have hge := grownCap_ge w (n + m) n e
  have hcm : grownCap w (n + m) n e ≤ maxLen := grownCap_le_maxLen w (n + m) n e (by unfold maxLen; omega)
  have hL : (bvs l).toArray ++ Builtin.zeroCells (Value.int .u8 0).cells m ++ Builtin.zeroCells (Value.int .u8 0).cells (grownCap w (n + m) n e - (n + m)) = (bvs (l ++ List.replicate m 0) ++ bvs (List.replicate (grownCap w (n + m) n e - (n + m)) 0)).toArray := by
    apply Array.toList_inj.1
    simp only [Array.toList_append, zeroB]
    simp [bvs]
  rw [hL]
  refine ⟨?_, rfl, rfl, rfl⟩
  have hh : (w.drew.alloc (.cells (bvs (l ++ List.replicate m 0) ++ bvs (List.replicate (grownCap w (n + m) n e - (n + m)) 0)).toArray e)).heap = s.h.push (.cells (bvs (l ++ List.replicate m 0) ++ bvs (List.replicate (grownCap w (n + m) n e - (n + m)) 0)).toArray e) := by rw [← hw]; rfl
  rw [hh, show w.heap.size = s.h.size by rw [hw]]
  have ho := new_own (s := s) (L := l ++ List.replicate m 0) (rest := grownCap w (n + m) n e - (n + m)) (e := e) (τ := τ') (cap := grownCap w (n + m) n e) (by simp; omega) hcm
  rw [show (l ++ List.replicate m (0 : UInt8)).length = n + m by simp [hl]] at ho
  exact hk _ _ _ ho (pushed s _ τ') (by simp)
theorem app_g {s : TH} {a b : Addr} {n m mc : Nat} {l x : List UInt8} {τ τx : Nat} (τ' : Nat) {K : Value → Heap → Prop}
    (ht : P.underlying t = some (.slice e)) (hi' : (P.info? e).map (fun i => (i.zero, i.size, i.bytes)) = some (some (.int .u8 0), 1, 1))
    (hx : Sl s (some a) (bvs l) τ) (hl : l.length = n) (hy : Sl s (some b) (bvs x) τx) (hxl : x.length = m) (hm : 0 < m) (hb : n ≤ 1000000000 ∧ m ≤ 1000000000)
    (hk : ∀ (s' : TH) (a' : Option Addr) (c' : Nat), Own s' a' (n + m) c' e 1 (bvs (l ++ x)) τ' → Ch [] s s' → a' ≠ none → K (.slice a' (n + m) c') s'.h) :
    semW P (Builtin.append_ #[t, t] ty #[.slice (some a) n n, .slice (some b) m mc]) E s.h K := .mk fun w hw => by
  obtain ⟨i, hi, hz, hs, hby⟩ := info_of hi'
  have hr := run_append_grow (P := P) w t ty e i (.int .u8 0) ht hi hz a n n (bvs l) (by rw [hs, bvs_len]; omega) (hx.cells w hw) b m mc (bvs x) (by rw [hs, bvs_len]; omega) (hy.cells w hw) (by omega) (by omega) (growslice_fits (by omega) (by rw [hby]; omega))
  rw [hr]
  have hge := grownCap_ge w (n + m) n e
  have hcm : grownCap w (n + m) n e ≤ maxLen := grownCap_le_maxLen w (n + m) n e (by unfold maxLen; omega)
  have hL : (bvs l).toArray ++ (bvs x).toArray ++ Builtin.zeroCells (Value.int .u8 0).cells (grownCap w (n + m) n e - (n + m)) = (bvs (l ++ x) ++ bvs (List.replicate (grownCap w (n + m) n e - (n + m)) 0)).toArray := by
    apply Array.toList_inj.1
    simp only [Array.toList_append, zeroB]
    simp [bvs]
  rw [hL]
  refine ⟨?_, rfl, rfl, rfl⟩
  have hh : (w.drew.alloc (.cells (bvs (l ++ x) ++ bvs (List.replicate (grownCap w (n + m) n e - (n + m)) 0)).toArray e)).heap = s.h.push (.cells (bvs (l ++ x) ++ bvs (List.replicate (grownCap w (n + m) n e - (n + m)) 0)).toArray e) := by rw [← hw]; rfl
  rw [hh, show w.heap.size = s.h.size by rw [hw]]
  have ho := new_own (s := s) (L := l ++ x) (rest := grownCap w (n + m) n e - (n + m)) (e := e) (τ := τ') (cap := grownCap w (n + m) n e) (by simp; omega) hcm
  rw [show (l ++ x).length = n + m by simp [hl, hxl]] at ho
  exact hk _ _ _ ho (pushed s _ τ') (by simp)
end
end Go.Proofs.YtdlelcpkelginaaGreat.E
/- Copying bytes, or a text's, into a part of a slice of its own. -/
namespace Go.Proofs.YtdlelcpkelginaaGreat.E
open Go
set_option linter.unusedVariables false
section
variable {P : Program} {t t2 ty e : TypeId} {E : List PanicEntry → Heap → Prop}
theorem mid_get {α : Type} (A B : List α) (p : Nat) (hp : p ≤ A.length) (hB : p + B.length ≤ A.length) (i : Nat) :
    (A.take p ++ B ++ A.drop (p + B.length))[i]? = if i < p then A[i]? else if i < p + B.length then B[i - p]? else A[i]? := by
  have h1 : (A.take p).length = p := by simp; omega
  rw [List.append_assoc, List.getElem?_append, h1]
  by_cases h : i < p
  · rw [if_pos h, if_pos h, List.getElem?_take, if_pos h]
  · rw [if_neg h, if_neg h, List.getElem?_append]
    by_cases h2 : i < p + B.length
    · rw [if_pos (by omega), if_pos h2]
    · rw [if_neg (by omega), if_neg h2, List.getElem?_drop]
      congr 1; omega
theorem copy_gen {s : TH} {a : Addr} {n c p m : Nat} {l x : List UInt8} {τ : Nat} {src : Value} {K : Value → Heap → Prop}
    (ht : P.underlying t = some (.slice e)) (hi' : (P.info? e).map (fun i => (i.zero, i.size, i.bytes)) = some (some (.int .u8 0), 1, 1))
    (hO : Own s (some a) n c e 1 (bvs l) τ) (hp : p ≤ n) (hlen : ∀ w, (Builtin.lenOf src).run P w = .ok m w) (hx : x.length = min m (n - p))
    (hf : ∀ w : World, w.heap = s.h → (Builtin.firstCells 1 (min m (n - p)) src).run P w = .ok (bvs x).toArray w)
    (hk : ∀ s' : TH, Own s' (some a) n c e 1 (bvs (l.take p ++ x ++ l.drop (p + x.length))) τ → OnA (some a) s s' → s.h.size = s'.h.size → K (.int .i64 ((min m (n - p) : Nat) : Int)) s'.h) :
    semW P (Builtin.copy_ #[t, t2] ty #[.slice (slO (some a) 1 (p : Int) (c : Int)) (n - p) (c - p), src]) E s.h K := .mk fun w hw => by
  obtain ⟨i, hi, hz, hs, hby⟩ := info_of hi'
  have hln : l.length = n := by have := hO.1; rw [bvs_len] at this; omega
  rcases hO.2 with ⟨h0, _⟩ | ⟨g, o, L, h2, h3, h4, h5, h6, h7⟩
  · cases h0
  cases h2
  have hfw := hf w hw
  by_cases hx0 : x = []
  · subst hx0
    have hm0 : min m (n - p) = 0 := by simpa using hx.symm
    rw [hm0] at hfw hk
    have hr : (Builtin.copy_ #[t, t2] ty #[.slice (slO (some ⟨g, o, none⟩) 1 (p : Int) (c : Int)) (n - p) (c - p), src]).run P w = .ok (.int .i64 ((0 : Nat) : Int)) w := by
      simp [slO, Builtin.copy_, run_underlying ht, sizeOf, typeInfo, hi, hs, hlen, hm0, hfw, bvs, storeCells, goInt]
    rw [hr]
    refine ⟨?_, Like.refl w⟩
    rw [hw]
    exact hk s (by simpa using hO) ⟨Nat.le_refl _, fun _ _ => rfl, fun _ _ _ => rfl⟩ rfl
  · have hxl : 0 < x.length := List.length_pos_iff.2 hx0
    have hsl : slO (some ⟨g, o, none⟩) 1 (p : Int) (c : Int) = some ⟨g, o + p, none⟩ := by rw [slA_mk, if_neg (by omega)]; simp
    have hst := run_storeCells_at P g (o + p) e (bvs x) 0 L.toArray w (by rw [hw]; exact h3.get) (by simp [bvs_len]; omega) (bvs_one _)
    simp only [Nat.add_zero, bvs_len] at hst
    have hr : (Builtin.copy_ #[t, t2] ty #[.slice (slO (some ⟨g, o, none⟩) 1 (p : Int) (c : Int)) (n - p) (c - p), src]).run P w = .ok (.int .i64 ((min m (n - p) : Nat) : Int)) (w.setRow g (L.take (o + p) ++ bvs x ++ L.drop (o + p + x.length)).toArray) := by
      rw [hsl]
      simp [Builtin.copy_, run_underlying ht, sizeOf, typeInfo, hi, hs, hlen, hfw, hst, goInt]
    rw [hr]
    have hset : (w.setRow g (L.take (o + p) ++ bvs x ++ L.drop (o + p + x.length)).toArray).heap[g]? = some (.cells (L.take (o + p) ++ bvs x ++ L.drop (o + p + x.length)).toArray e (0, 0)) := setRow_heap w g L.toArray _ e _ (by rw [hw]; exact h3.get)
    have hK := hk ⟨(w.setRow g (L.take (o + p) ++ bvs x ++ L.drop (o + p + x.length)).toArray).heap, s.g⟩ ⟨?_, .inr ⟨g, o, _, rfl, ⟨hset, h3.tag⟩, h4, h5, ?_, ?_⟩⟩ ⟨by simp [← hw], fun _ _ => rfl, fun j hj hn => ?_⟩ (by simp [← hw])
    · exact ⟨hK, rfl, rfl, rfl⟩
    · rw [bvs_len]; simp; omega
    · simp only [List.length_append, List.length_take, List.length_drop, bvs_len]; omega
    · apply List.ext_getElem?
      intro j
      have hLl : ∀ q, q < n → L[o + q]? = (bvs l)[q]? := fun q hq => by rw [← h7, List.getElem?_take, if_pos (by omega), List.getElem?_drop]
      have hb : bvs (l.take p ++ x ++ l.drop (p + x.length)) = (bvs l).take p ++ bvs x ++ (bvs l).drop (p + (bvs x).length) := by simp [bvs, List.map_take, List.map_drop]
      rw [hb, mid_get _ _ _ (by rw [bvs_len]; omega) (by rw [bvs_len, bvs_len]; omega), List.getElem?_take]
      have hmid := mid_get L (bvs x) (o + p) (by omega) (by rw [bvs_len]; omega) (o + j)
      rw [bvs_len] at hmid ⊢
      by_cases hj : j < n * 1
      · rw [if_pos hj, List.getElem?_drop, hmid]
        by_cases h8 : j < p
        · rw [if_pos (by omega), if_pos h8]; exact hLl j (by omega)
        · rw [if_neg (by omega), if_neg h8]
          by_cases h9 : j < p + x.length
          · rw [if_pos (by omega), if_pos h9]; congr 1; omega
          · rw [if_neg (by omega), if_neg h9]; exact hLl j (by omega)
      · rw [if_neg hj, if_neg (by omega), if_neg (by omega)]
        exact (List.getElem?_eq_none (by rw [bvs_len]; omega)).symm
    · show (w.setRow g _).heap[j]? = _
      rw [setRow_other w g j _ (fun e => hn (by simp [e])), hw]
theorem copy_os {s : TH} {a : Addr} {n c p : Nat} {l : List UInt8} {τ : Nat} (d : Array UInt8) {K : Value → Heap → Prop}
    (ht : P.underlying t = some (.slice e)) (hi' : (P.info? e).map (fun i => (i.zero, i.size, i.bytes)) = some (some (.int .u8 0), 1, 1))
    (hO : Own s (some a) n c e 1 (bvs l) τ) (hp : p ≤ n)
    (hk : ∀ s' : TH, Own s' (some a) n c e 1 (bvs (l.take p ++ d.toList.take (n - p) ++ l.drop (p + (d.toList.take (n - p)).length))) τ → OnA (some a) s s' → s.h.size = s'.h.size → K (.int .i64 ((min d.size (n - p) : Nat) : Int)) s'.h) :
    semW P (Builtin.copy_ #[t, t2] ty #[.slice (slO (some a) 1 (p : Int) (c : Int)) (n - p) (c - p), .string ⟨d⟩]) E s.h K := by
  refine copy_gen (m := d.size) (x := d.toList.take (n - p)) ht hi' hO hp (fun w => rfl) (by simp; omega) (fun w hw => ?_) hk
  simp only [Builtin.firstCells]
  show Result.ok _ w = _
  congr 1
  apply Array.toList_inj.1
  simp only [bvs, Array.toList_map, ByteArray.data_extract, Array.toList_extract]
  apply List.ext_getElem?
  intro j
  simp [List.getElem?_take]
  by_cases h : j < d.size ∧ j < n - p
  · simp [h.1, h.2]; exact ⟨by omega, rfl⟩
  · by_cases h1 : j < n - p
    · have : ¬ j < d.size := fun h2 => h ⟨h2, h1⟩
      simp [h1, this]
    · simp [h1]; omega
end
end Go.Proofs.YtdlelcpkelginaaGreat.E
/- Loads out of rows of bytes and numbers; rows of records of any kind. -/
namespace Go.Proofs.YtdlelcpkelginaaGreat.E
open Go
set_option linter.unusedVariables false
set_option linter.unusedSimpArgs false
section
variable {s : TH} {a : Addr} {τ : Nat} {k : Value → Prop}
theorem ld_iv {l : List Int} {n : Int} (h : Sl s (some a) (ivs l) τ) (h0 : 0 ≤ n) (h1 : n < l.length) (hk : ∀ x : Int, l[n.toNat]? = some x → k (.int .i64 x)) : ld s.h (a.add (n.toNat * 1)) k := by
  have h2 : n.toNat < l.length := by omega
  refine ld_sl h (v := .int .i64 l[n.toNat]) ?_ (hk _ (by simp [h2]))
  rw [Nat.mul_one]; simp [ivs, h2]
end
/-- rows of records: each so many cells -/
structure Rp (α : Type) where
  k : Nat
  r : TH → Nat → α → List Value → Prop
  len : ∀ {s τ x l}, r s τ x l → l.length = k
  one : ∀ {s τ x l}, r s τ x l → ∀ u ∈ l, u.oneCell' = true
  mv : ∀ {s s' : TH} {τ x l} {B : Nat → Prop}, r s τ x l → Chg B s s' → (∀ j, j < s.h.size → s.g j = τ → ¬ B j) → r s' τ x l
def RL {α : Type} (R : Rp α) (s : TH) (τ : Nat) : List α → List Value → Prop
  | [], l => l = []
  | x :: xs, l => ∃ c r, l = c ++ r ∧ R.r s τ x c ∧ RL R s τ xs r
section
variable {α : Type} {R : Rp α} {s s' : TH} {τ : Nat}
theorem RL.mv {B : Nat → Prop} : ∀ {xs : List α} {l : List Value}, RL R s τ xs l → Chg B s s' → (∀ j, j < s.h.size → s.g j = τ → ¬ B j) → RL R s' τ xs l
  | [], l, h, c, hn => h
  | x :: xs, l, ⟨c0, r, h1, h2, h3⟩, c, hn => ⟨c0, r, h1, R.mv h2 c hn, RL.mv h3 c hn⟩
theorem RL.len : ∀ {xs : List α} {l : List Value}, RL R s τ xs l → l.length = xs.length * R.k
  | [], l, h => by rw [show l = [] from h]; simp
  | x :: xs, l, ⟨c0, r, h1, h2, h3⟩ => by rw [h1, List.length_append, R.len h2, RL.len h3, List.length_cons, Nat.add_mul]; omega
theorem RL.one : ∀ {xs : List α} {l : List Value}, RL R s τ xs l → ∀ u ∈ l, u.oneCell' = true
  | [], l, h, u, hu => by rw [show l = [] from h] at hu; cases hu
  | x :: xs, l, ⟨c0, r, h1, h2, h3⟩, u, hu => by
    rw [h1] at hu
    rcases List.mem_append.1 hu with hu | hu
    · exact R.one h2 u hu
    · exact RL.one h3 u hu
theorem RL.app : ∀ {xs ys : List α} {l m : List Value}, RL R s τ xs l → RL R s τ ys m → RL R s τ (xs ++ ys) (l ++ m)
  | [], ys, l, m, h, k => by rw [show l = [] from h]; exact k
  | x :: xs, ys, l, m, ⟨c0, r, h1, h2, h3⟩, k => ⟨c0, r ++ m, by rw [h1, List.append_assoc], h2, RL.app h3 k⟩
theorem RL.get : ∀ {xs : List α} {l : List Value} {i : Nat} {x : α}, RL R s τ xs l → xs[i]? = some x → ∃ c, R.r s τ x c ∧ ∀ j, j < R.k → l[i * R.k + j]? = c[j]?
  | [], l, i, x, h, hx => by simp at hx
  | y :: xs, l, 0, x, ⟨c0, r, h1, h2, h3⟩, hx => by
    simp at hx; subst hx
    exact ⟨c0, h2, fun j hj => by rw [h1, Nat.zero_mul, Nat.zero_add, List.getElem?_append_left (by rw [R.len h2]; exact hj)]⟩
  | y :: xs, l, i + 1, x, ⟨c0, r, h1, h2, h3⟩, hx => by
    obtain ⟨c, h4, h5⟩ := RL.get h3 (by simpa using hx)
    refine ⟨c, h4, fun j hj => ?_⟩
    rw [h1, List.getElem?_append_right (by rw [R.len h2, Nat.add_mul]; omega), R.len h2, ← h5 j hj]
    congr 1; rw [Nat.add_mul]; omega
theorem RL.take : ∀ {xs : List α} {l : List Value} (i : Nat), RL R s τ xs l → RL R s τ (xs.take i) (l.take (i * R.k))
  | _, _, 0, _ => by simp [RL]
  | [], l, i + 1, h => by rw [show l = [] from h]; simp [RL]
  | x :: xs, l, i + 1, ⟨c0, r, h1, h2, h3⟩ => by
    refine ⟨c0, r.take (i * R.k), ?_, h2, RL.take i h3⟩
    rw [h1, Nat.add_mul, Nat.one_mul, List.take_append, R.len h2, List.take_of_length_le (by rw [R.len h2]; omega)]
    congr 2; omega
theorem RL.drop : ∀ {xs : List α} {l : List Value} (i : Nat), RL R s τ xs l → RL R s τ (xs.drop i) (l.drop (i * R.k))
  | _, _, 0, h => by simpa using h
  | [], l, i + 1, h => by rw [show l = [] from h]; simp [RL]
  | x :: xs, l, i + 1, ⟨c0, r, h1, h2, h3⟩ => by
    have e : List.drop (i * R.k + R.k) c0 = [] := List.drop_eq_nil_iff.2 (by rw [R.len h2]; omega)
    rw [h1, Nat.add_mul, Nat.one_mul, List.drop_append, R.len h2, e, List.nil_append, List.drop_succ_cons, show i * R.k + R.k - R.k = i * R.k by omega]
    exact RL.drop i h3
theorem RL.all {Q : α → Prop} (hQ : ∀ {x c}, R.r s τ x c → Q x) : ∀ {xs : List α} {l : List Value}, RL R s τ xs l → ∀ x ∈ xs, Q x
  | [], l, h, x, hx => by cases hx
  | y :: xs, l, ⟨c0, r, h1, h2, h3⟩, x, hx => by
    rcases List.mem_cons.1 hx with rfl | hx
    · exact hQ h2
    · exact RL.all hQ h3 x hx
end
end Go.Proofs.YtdlelcpkelginaaGreat.E
/- Marks that no old block has; appends of numbers and bytes. -/
namespace Go.Proofs.YtdlelcpkelginaaGreat.E
open Go
set_option linter.unusedVariables false
set_option linter.unusedSimpArgs false
theorem fresh6 (s : TH) (a b c d e f : Nat) : ∃ M, (∀ j, j < s.h.size → s.g j < M) ∧ 10 ≤ M ∧ a < M ∧ b < M ∧ c < M ∧ d < M ∧ e < M ∧ f < M := by
  have h : ∀ n, ∃ m, ∀ j, j < n → s.g j < m := fun n => by
    induction n with
    | zero => exact ⟨0, fun j hj => by omega⟩
    | succ n ih =>
      obtain ⟨m, hm⟩ := ih
      refine ⟨m + s.g n + 1, fun j hj => ?_⟩
      by_cases e : j = n
      · subst e; omega
      · have := hm j (by omega); omega
  obtain ⟨m, hm⟩ := h s.h.size
  exact ⟨m + a + b + c + d + e + f + 10, fun j hj => by have := hm j hj; omega, by omega, by omega, by omega, by omega, by omega, by omega, by omega⟩
theorem Ch.fr {T T' : List Nat} {a b c : TH} {M : Nat} (h : Ch T a b) (k : Ch T' b c) (hM : ∀ j, j < a.h.size → a.g j < M) (hT : ∀ x ∈ T', x ∈ T ∨ M ≤ x) : Ch T a c :=
  Chg.trans h k fun j hj hB => by
    have hB : b.g j ∈ T' := hB
    rw [h.tag j hj] at hB
    rcases hT _ hB with h1 | h1
    · exact h1
    · have := hM j hj; omega
theorem Ch.app {T T' : List Nat} {a b c : TH} (h : Ch T a b) (k : Ch T' b c) : Ch (T ++ T') a c :=
  Chg.trans (h.less (T' := T ++ T') fun x hx => List.mem_append_left _ hx) k fun j hj hB => by
    have hB : b.g j ∈ T' := hB
    rw [h.tag j hj] at hB
    exact List.mem_append_right _ hB
/-- a result's blocks get another mark -/
def remark (s : TH) (μ τ : Nat) : TH := ⟨s.h, fun j => if s.g j = μ then τ else s.g j⟩
theorem ret_t' {Q : Value → TH → Prop} {v : Value} {s s' : TH} (hs : s'.h = s.h) (h : Q v s') : RT Q (.returned v) s.h := ⟨v, s', rfl, hs, h⟩
theorem remark_ch {T : List Nat} {s s' : TH} {M μ τ : Nat} (c : Ch T s s') (hM : ∀ j, j < s.h.size → s.g j < M) (hμ : M ≤ μ) : Ch T s (remark s' μ τ) :=
  ⟨c.size, fun j hj => by
    have h1 := c.tag j hj
    have h2 := hM j hj
    show (if s'.g j = μ then τ else s'.g j) = s.g j
    rw [h1, if_neg (by omega)], c.get⟩
theorem remark_chg {s : TH} {μ τ : Nat} {σ : Nat} (h : σ ≠ μ) : ∀ j, s.g j = σ → (remark s μ τ).g j = σ := fun j hj => by
  show (if s.g j = μ then τ else s.g j) = σ
  rw [hj, if_neg h]
theorem remark_to {s : TH} {μ τ : Nat} : ∀ j, s.g j = μ → (remark s μ τ).g j = τ := fun j hj => by
  show (if s.g j = μ then τ else s.g j) = τ
  rw [if_pos hj]
theorem Own.remark {s : TH} {a : Option Addr} {n c e k : Nat} {xs : List Value} {μ τ : Nat} (h : Own s a n c e k xs μ) : Own (remark s μ τ) a n c e k xs τ := by
  refine ⟨h.1, h.2.imp id ?_⟩
  rintro ⟨g, o, L, h1, h2, h3⟩
  exact ⟨g, o, L, h1, ⟨h2.get, remark_to g h2.tag⟩, h3⟩
theorem Sl.remark {s : TH} {a : Option Addr} {l : List Value} {μ τ : Nat} (h : Sl s a l μ) : Sl (remark s μ τ) a l τ := by
  refine h.imp id ?_
  rintro ⟨g, o, h1, h2, h3, h4⟩
  exact ⟨g, o, h1, h2, remark_to g h3, h4⟩
theorem Sl.keep {s : TH} {a : Option Addr} {l : List Value} {σ μ τ : Nat} (h : Sl s a l σ) (hn : σ ≠ μ) : Sl (E.remark s μ τ) a l σ := by
  refine h.imp id ?_
  rintro ⟨g, o, h1, h2, h3, h4⟩
  exact ⟨g, o, h1, h2, remark_chg hn g h3, h4⟩
theorem Own.keep {s : TH} {a : Option Addr} {n c e k : Nat} {xs : List Value} {σ μ τ : Nat} (h : Own s a n c e k xs σ) (hn : σ ≠ μ) : Own (E.remark s μ τ) a n c e k xs σ := by
  refine ⟨h.1, h.2.imp id ?_⟩
  rintro ⟨g, o, L, h1, h2, h3⟩
  exact ⟨g, o, L, h1, ⟨h2.get, remark_chg hn g h2.tag⟩, h3⟩
theorem Blk.remark {s : TH} {r : Nat} {l : List Value} {t μ τ : Nat} (h : Blk s r l t μ) : Blk (remark s μ τ) r l t τ := ⟨h.get, remark_to r h.tag⟩
theorem Blk.keep {s : TH} {r : Nat} {l : List Value} {t σ μ τ : Nat} (h : Blk s r l t σ) (hn : σ ≠ μ) : Blk (E.remark s μ τ) r l t σ := ⟨h.get, remark_chg hn r h.tag⟩
theorem MapK.remark {κ : Type} {kf : κ → Value} {s : TH} {r : Nat} {m : List (κ × Value)} {μ τ : Nat} (h : MapK kf s r m μ) : MapK kf (remark s μ τ) r m τ := ⟨h.get, remark_to r h.tag, h.nd⟩
theorem MapK.keep {κ : Type} {kf : κ → Value} {s : TH} {r : Nat} {m : List (κ × Value)} {σ μ τ : Nat} (h : MapK kf s r m σ) (hn : σ ≠ μ) : MapK kf (E.remark s μ τ) r m σ := ⟨h.get, remark_chg hn r h.tag, h.nd⟩
theorem Sl.len0 {s : TH} {l : List Value} {τ : Nat} (h : Sl s none l τ) : l = [] := by
  rcases h with h | ⟨g, o, h1, _⟩
  · exact h
  · cases h1
theorem st_iv {s : TH} {a : Addr} {n c e τ : Nat} {L : List Int} {i x : Int} {K : Heap → Prop} (h : Own s (some a) n c e 1 (ivs L) τ) (h0 : 0 ≤ i) (h1 : i < n)
    (hk : ∀ s' : TH, Own s' (some a) n c e 1 (ivs (L.set i.toNat x)) τ → Ch [τ] s s' → s.h.size = s'.h.size → K s'.h) : st s.h (a.add (i.toNat * 1)) (.int .i64 x) K :=
  Own.st h rfl (by omega) fun s' h2 h3 h4 => hk s' (by rw [Nat.mul_one] at h2; unfold ivs at *; rw [List.map_set]; exact h2) (Ch.on_tag (Ch.refl _ _) h3 h.tagOf (by simp)) h4
section
variable {P : Program} {t ty e : TypeId} {E : List PanicEntry → Heap → Prop} {s : TH} {a xa : Option Addr} {n c m mc : Nat} {τ τ' : Nat} {K : Value → Heap → Prop}
theorem app_bv {xs ys : List UInt8} (ht : P.underlying t = some (.slice e)) (hi : (P.info? e).map (fun i => (i.zero, i.size, i.bytes)) = some (some (.int .u8 0), 1, 1))
    (hO : Own s a n c e 1 (bvs xs) τ) (hx : Sl s xa (bvs ys) τ') (hm : ys.length = m) (hb : n + m ≤ 140737488355328)
    (hk : ∀ (s' : TH) (a' : Option Addr) (c' : Nat), Own s' a' (n + m) c' e 1 (bvs (xs ++ ys)) τ → Ch [τ] s s' → K (.slice a' (n + m) c') s'.h) :
    semW P (Builtin.append_ #[t, t] ty #[.slice a n c, .slice xa m mc]) E s.h K :=
  app_i ht hi rfl hO hx (by rw [bvs_len]; omega) (bvs_one _) (fun h => by subst h; have h0 := congrArg List.length hx.len0; rw [bvs_len, List.length_nil] at h0; omega) (by unfold maxLen; omega)
    fun s' a' c' h1 h2 _ => hk s' a' c' (by unfold bvs at *; rw [List.map_append]; exact h1) (h2.ch hO (by simp))
end
/-- bytes, with others over them from a place on -/
def overlay (l : List UInt8) (p : Nat) (x : List UInt8) : List UInt8 := l.take p ++ x ++ l.drop (p + x.length)
theorem overlay_len {l : List UInt8} {p : Nat} {x : List UInt8} (h : p + x.length ≤ l.length) : (overlay l p x).length = l.length := by
  unfold overlay; rw [List.length_append, List.length_append, List.length_take, List.length_drop]; omega
theorem copy_sl {P : Program} {t t2 ty e : TypeId} {E : List PanicEntry → Heap → Prop} {s : TH} {a : Addr} {xa : Option Addr} {n c m mc τ τx : Nat} {p : Int} {l x : List UInt8} {K : Value → Heap → Prop}
    (ht : P.underlying t = some (.slice e)) (hi' : (P.info? e).map (fun i => (i.zero, i.size, i.bytes)) = some (some (.int .u8 0), 1, 1))
    (hO : Own s (some a) n c e 1 (bvs l) τ) (hx : Sl s xa (bvs x) τx) (hm : x.length = m) (h0 : 0 ≤ p) (hp : p.toNat + m ≤ n)
    (hk : ∀ s' : TH, Own s' (some a) n c e 1 (bvs (overlay l p.toNat x)) τ → Ch [τ] s s' → s.h.size = s'.h.size → K (.int .i64 (m : Int)) s'.h) :
    semW P (Builtin.copy_ #[t, t2] ty #[.slice (slO (some a) 1 p (c : Int)) (n - p.toNat) (c - p.toNat), .slice xa m mc]) E s.h K := by
  have hmin : min m (n - p.toNat) = m := by omega
  have h := copy_gen (P := P) (t2 := t2) (ty := ty) (E := E) (m := m) (x := x) (p := p.toNat) (src := .slice xa m mc) (K := K) ht hi' hO (by omega) (fun w => rfl) (by omega) (fun w hw => by
    rw [hmin]
    cases xa with
    | none =>
      have := congrArg List.length hx.len0
      rw [bvs_len, List.length_nil] at this
      obtain rfl : m = 0 := by omega
      have : x = [] := List.eq_nil_of_length_eq_zero hm
      subst this
      rw [run_firstCells_none]; rfl
    | some b => exact run_firstCells_some (P := P) w 1 m b m mc _ (by rw [bvs_len]; omega) fun j u hu => hx.cells w hw j u hu)
    (fun s' h1 h2 h3 => by rw [hmin]; exact hk s' h1 (h2.ch hO (by simp)) h3)
  rw [Int.toNat_of_nonneg h0] at h
  exact h
end Go.Proofs.YtdlelcpkelginaaGreat.E
/- Contracts of functions. -/
namespace Go.Proofs.YtdlelcpkelginaaGreat.E
open Go Go.Proofs Go.RowKit Go.Maps Go.Shelf Go.Sort
set_option linter.unusedVariables false
set_option linter.unusedSimpArgs false
structure PatM where
  id : Int
  blk : Int
  off : Int
  by_ : List UInt8
  needs : List Int
structure PatchM where
  last : Int
  done : List Int
  l : List PatM
def PatV (s : TH) (τ : Nat) (v : Value) (p : PatM) : Prop := ∃ ba bc na nc, v = .agg #[.int .i64 p.id, .int .i64 p.blk, .int .i64 p.off, .slice ba p.by_.length bc, .slice na p.needs.length nc] ∧ Sl s ba (bvs p.by_) τ ∧ Sl s na (ivs p.needs) τ
theorem PatV.mv {s s' : TH} {τ : Nat} {v : Value} {p : PatM} {B : Nat → Prop} (h : PatV s τ v p) (c : Chg B s s') (hn : ∀ j, j < s.h.size → s.g j = τ → ¬ B j) : PatV s' τ v p := by
  obtain ⟨ba, bc, na, nc, h1, h2, h3⟩ := h
  exact ⟨ba, bc, na, nc, h1, h2.mv c hn, h3.mv c hn⟩
def PMap (s : TH) (τ : Nat) : List (Int × Value) → List PatM → Prop
  | [], [] => True
  | e :: m, p :: l => e.1 = p.id ∧ PatV s τ e.2 p ∧ PMap s τ m l
  | _, _ => False
theorem PMap.mv {s s' : TH} {τ : Nat} {B : Nat → Prop} : ∀ {m : List (Int × Value)} {l : List PatM}, PMap s τ m l → Chg B s s' → (∀ j, j < s.h.size → s.g j = τ → ¬ B j) → PMap s' τ m l
  | [], [], h, c, hn => trivial
  | e :: m, p :: l, h, c, hn => ⟨h.1, h.2.1.mv c hn, PMap.mv h.2.2 c hn⟩
  | [], _ :: _, h, _, _ => h.elim
  | _ :: _, [], h, _, _ => h.elim
theorem PMap.keys {s : TH} {τ : Nat} : ∀ {m : List (Int × Value)} {l : List PatM}, PMap s τ m l → m.map (·.1) = l.map (·.id)
  | [], [], _ => rfl
  | e :: m, p :: l, h => by rw [List.map_cons, List.map_cons, h.1, PMap.keys h.2.2]
  | [], _ :: _, h => h.elim
  | _ :: _, [], h => h.elim
def PatchM.find (P : PatchM) (i : Int) : Option PatM := P.l.find? fun p => p.id == i
def PatchM.all (P : PatchM) : List Int := P.l.map (·.id)
def PatchM.pend (P : PatchM) (ids : List Int) : List Int := P.all.filter fun i => decide (i ∈ ids)
def PatchM.of (P : PatchM) (b : Int) : List Int := (P.l.filter fun p => p.blk == b).map (·.id)
theorem PMap.some_ {s : TH} {τ : Nat} : ∀ {m : List (Int × Value)} {l : List PatM} {i : Int} {p : PatM}, PMap s τ m l → (l.find? fun p => p.id == i) = some p → ∃ v, mget i m = some v ∧ PatV s τ v p ∧ p.id = i ∧ (i, v) ∈ m
  | [], [], i, p, h, hf => by simp at hf
  | e :: m, q :: l, i, p, h, hf => by
    obtain ⟨k, v⟩ := e
    rw [List.find?_cons] at hf
    have hk : k = q.id := h.1
    by_cases hq : q.id = i
    · rw [show (q.id == i) = true by simpa using hq] at hf
      simp at hf; subst hf
      exact ⟨v, by rw [mget, if_pos (by rw [hk, hq])], h.2.1, hq, by rw [← hq, ← hk]; simp⟩
    · rw [show (q.id == i) = false by simpa using hq] at hf
      obtain ⟨v', h1, h2, h3, h4⟩ := PMap.some_ h.2.2 hf
      exact ⟨v', by rw [mget, if_neg (by rw [hk]; exact fun e => hq e.symm)]; exact h1, h2, h3, List.mem_cons_of_mem _ h4⟩
  | [], _ :: _, _, _, h, _ => h.elim
  | _ :: _, [], _, _, h, _ => h.elim
theorem PMap.snoc {s : TH} {τ : Nat} {v : Value} {p : PatM} (hv : PatV s τ v p) : ∀ {m : List (Int × Value)} {l : List PatM}, PMap s τ m l → p.id ∉ l.map (·.id) → PMap s τ (mset p.id v m) (l ++ [p])
  | [], [], h, _ => ⟨rfl, hv, trivial⟩
  | e :: m, q :: l, h, hn => by
    obtain ⟨k, x⟩ := e
    have hk : k = q.id := h.1
    rw [List.map_cons, List.mem_cons, not_or] at hn
    show PMap s τ (if p.id = k then (p.id, v) :: m else (k, x) :: mset p.id v m) (q :: (l ++ [p]))
    rw [if_neg (by rw [hk]; exact hn.1)]
    exact ⟨h.1, h.2.1, PMap.snoc hv h.2.2 hn.2⟩
  | [], _ :: _, h, _ => h.elim
  | _ :: _, [], h, _ => h.elim
theorem PMap.del {s : TH} {τ : Nat} {i : Int} : ∀ {m : List (Int × Value)} {l : List PatM}, PMap s τ m l → (l.map (·.id)).Nodup → PMap s τ (mdel i m) (l.filter fun p => !(p.id == i))
  | [], [], h, _ => trivial
  | e :: m, q :: l, h, hn => by
    obtain ⟨k, x⟩ := e
    have hk : k = q.id := h.1
    rw [List.map_cons, List.nodup_cons] at hn
    show PMap s τ (if i = k then m else (k, x) :: mdel i m) _
    rw [List.filter_cons]
    by_cases hq : q.id = i
    · rw [if_pos (by rw [hk, hq]), show (!(q.id == i)) = false by simpa using hq]
      simp only [Bool.false_eq_true, if_false]
      have : (l.filter fun p => !(p.id == i)) = l := List.filter_eq_self.2 fun p hp => by
        simp only [Bool.not_eq_true', beq_eq_false_iff_ne]
        intro e; exact hn.1 (by rw [hq, ← e]; exact List.mem_map.2 ⟨p, hp, rfl⟩)
      rw [this]; exact h.2.2
    · rw [if_neg (by rw [hk]; exact fun e => hq e.symm), show (!(q.id == i)) = true by simpa using hq]
      simp only [if_true]
      exact ⟨h.1, h.2.1, PMap.del h.2.2 hn.2⟩
  | [], _ :: _, h, _ => h.elim
  | _ :: _, [], h, _ => h.elim
structure POk (P : PatchM) : Prop where
  srt : P.l.Pairwise fun x y => x.id < y.id
  rng : ∀ x ∈ P.l, 1 ≤ x.id ∧ x.id ≤ P.last
  fit : ∀ x ∈ P.l, 0 ≤ x.blk ∧ 0 ≤ x.off ∧ 1 ≤ x.by_.length ∧ x.off + x.by_.length ≤ 128
  nds : ∀ x ∈ P.l, ∀ n ∈ x.needs, 1 ≤ n ∧ n < x.id
  nsr : ∀ x ∈ P.l, x.needs.Pairwise (· < ·)
  dn : ∀ i ∈ P.done, 1 ≤ i ∧ i ≤ P.last
  all : ∀ i, 1 ≤ i → i ≤ P.last → i ∈ P.done ∨ i ∈ P.l.map (·.id)
  dis : ∀ i ∈ P.done, i ∉ P.l.map (·.id)
  lst : 0 ≤ P.last ∧ P.last ≤ 1000000
structure PSetP (s : TH) (p T : Nat) (P : PatchM) (r1 r2 : Nat) (m1 m2 : List (Int × Value)) : Prop where
  blk : Blk s p [.int .i64 P.last, .map (some r1), .map (some r2), .bool true] 260 T
  dm : MapK (Value.int .i64) s r1 m1 (T + 1)
  lm : MapK (Value.int .i64) s r2 m2 (T + 2)
  pm : PMap s (T + 3) m2 P.l
  dk : m1.map (·.1) = P.done
  dv : ∀ e ∈ m1, e.2 = .agg #[]
/-- a set of patches -/
structure PSet (s : TH) (p T : Nat) (P : PatchM) : Prop where
  p : ∃ r1 r2 m1 m2, PSetP s p T P r1 r2 m1 m2
  ok : POk P
theorem PSetP.mv {s s' : TH} {p T r1 r2 : Nat} {P : PatchM} {m1 m2 : List (Int × Value)} {B : Nat → Prop} (h : PSetP s p T P r1 r2 m1 m2) (c : Chg B s s') (hn : ∀ j, j < s.h.size → T ≤ s.g j → s.g j < T + 10 → ¬ B j) : PSetP s' p T P r1 r2 m1 m2 :=
  ⟨h.blk.mv c (of_rng hn (Nat.le_refl _) (by omega) p h.blk.lt h.blk.tag), h.dm.mv c (of_rng hn (by omega) (by omega) r1 h.dm.lt h.dm.tag), h.lm.mv c (of_rng hn (by omega) (by omega) r2 h.lm.lt h.lm.tag), h.pm.mv c (of_rng hn (by omega) (by omega)), h.dk, h.dv⟩
theorem PSet.mv {s s' : TH} {p T : Nat} {P : PatchM} {B : Nat → Prop} (h : PSet s p T P) (c : Chg B s s') (hn : ∀ j, j < s.h.size → T ≤ s.g j → s.g j < T + 10 → ¬ B j) : PSet s' p T P := by
  obtain ⟨⟨r1, r2, m1, m2, hp⟩, ok⟩ := h
  exact ⟨⟨r1, r2, m1, m2, hp.mv c hn⟩, ok⟩
theorem POk.nodup {P : PatchM} (h : POk P) : (P.l.map (·.id)).Nodup := (List.pairwise_map.2 h.srt).imp fun {a b} hab => by omega
theorem POk.asrt {P : PatchM} (h : POk P) : P.all.Pairwise (· < ·) := List.pairwise_map.2 h.srt
theorem POk.find_mem {P : PatchM} {i : Int} {x : PatM} (hf : P.find i = some x) : x ∈ P.l ∧ x.id = i := ⟨List.mem_of_find?_eq_some hf, by simpa using List.find?_some hf⟩
theorem find_isSome {P : PatchM} {i : Int} : (P.find i).isSome = true ↔ i ∈ P.all := by
  unfold PatchM.find PatchM.all
  rw [List.find?_isSome]
  constructor
  · rintro ⟨x, hx, e⟩; exact List.mem_map.2 ⟨x, hx, by simpa using e⟩
  · intro h; obtain ⟨x, hx, e⟩ := List.mem_map.1 h; exact ⟨x, hx, by simpa using e⟩
/-- strictly rising numbers of a stretch -/
theorem rise_len : ∀ (l : List Int) (a b : Int), l.Pairwise (· < ·) → (∀ x ∈ l, a ≤ x ∧ x ≤ b) → a ≤ b + 1 → (l.length : Int) ≤ b - a + 1
  | [], a, b, _, _, hab => by simp; omega
  | x :: l, a, b, h, hr, hab => by
    rw [List.pairwise_cons] at h
    have hx := hr x (by simp)
    have := rise_len l (x + 1) b h.2 (fun y hy => ⟨by have := h.1 y hy; omega, (hr y (List.mem_cons_of_mem _ hy)).2⟩) (by omega)
    rw [List.length_cons]; omega
theorem POk.lenl {P : PatchM} (h : POk P) : (P.l.length : Int) ≤ P.last := by
  have := rise_len P.all 1 P.last h.asrt (fun x hx => by obtain ⟨p, hp, rfl⟩ := List.mem_map.1 hx; exact h.rng p hp) (by have := h.lst; omega)
  unfold PatchM.all at this; rw [List.length_map] at this; omega
theorem dA5 {a b c d e : Value} {k : VF 5} (h : (k : Value → Value → Value → Value → Value → Prop) a b c d e) : dA 5 (.agg #[a, b, c, d, e]) k := h
theorem z262 (w : World) : (zeroValue 262).run Tryz.prog w = .ok (.agg #[.int .i64 0, .int .i64 0, .int .i64 0, .slice none 0 0, .slice none 0 0]) w := by kernel_rfl
theorem um258 : Tryz.prog.underlying 258 = some (.map 3 262) := by kernel_rfl
/-- (*bollard/patch.Set).own -/
theorem c_own (p T : Nat) (P : PatchM)  (s : TH) (hT : 10 ≤ T) (hp : PSet s p T P) : TRet Tryz.prog 172 #[.pointer (some ⟨p, 0, none⟩)] s fun v s' => v = .bool true ∧ Ch [] s s' := by
  obtain ⟨⟨rd, rl, md, ml, hP⟩, ok⟩ := id hp
  have hpb := hP.blk
  have hpd := hP.dm
  have hpl := hP.lm
  have hpm := hP.pm
  have hlst := ok.lst
  refine F172_calls _  ?_
  unfold F172
  refine sB_t (by rfl) ?_
  refine nz_i ?_
  refine ld_t hpb rfl ?_
  refine dBl_i ?_
  refine ret_t ?_
  exact ⟨rfl, (Ch.refl [] s)⟩
def fitsP (b o n : Int) : Prop := 0 ≤ b ∧ 0 ≤ o ∧ 0 < n ∧ o ≤ 128 ∧ n ≤ 128 - o
instance (b o n : Int) : Decidable (fitsP b o n) := by unfold fitsP; infer_instance
def ovl (b o n b' o' n' : Int) : Prop := b = b' ∧ o < o' + n' ∧ o' < o + n
instance (b o n b' o' n' : Int) : Decidable (ovl b o n b' o' n') := by unfold ovl; infer_instance
theorem srt_ext {l m : List Int} (hl : l.Pairwise (· < ·)) (hm : m.Pairwise (· < ·)) (h : ∀ x, x ∈ l ↔ x ∈ m) : l = m := by
  have nl : l.Nodup := hl.imp fun hab => by omega
  have nm : m.Nodup := hm.imp fun hab => by omega
  exact ((List.perm_ext_iff_of_nodup nl nm).2 h).eq_of_pairwise (le := (· < ·)) (fun a b _ _ h1 h2 => by omega) hl hm
theorem srtd (l : List Int) : (l.mergeSort fun x y => decide (x ≤ y)).Pairwise (· ≤ ·) := by
  have := List.pairwise_mergeSort (le := fun x y : Int => decide (x ≤ y)) (fun a b c h1 h2 => by simp at *; omega) (fun a b => by simp; omega) l
  exact this.imp fun h => by simpa using h
theorem srt_filter {l : List Int} (h : l.Pairwise (· < ·)) (q : Int → Bool) : (l.filter q).Pairwise (· < ·) := h.sublist List.filter_sublist
theorem take_get {α : Type} {l : List α} {k : Nat} {x : α} (h : l[k]? = some x) : l.take (k + 1) = l.take k ++ [x] := by
  rw [List.take_add_one, h]; rfl
theorem msort_perm {a b : List Int} (h : a.Perm b) : (a.mergeSort fun x y => decide (x ≤ y)) = b.mergeSort fun x y => decide (x ≤ y) :=
  ((List.mergeSort_perm a _).trans (h.trans (List.mergeSort_perm b _).symm)).eq_of_pairwise (le := (· ≤ ·)) (fun x y _ _ h1 h2 => by omega) (srtd a) (srtd b)
theorem srtd_id {a : List Int} (h : a.Pairwise (· < ·)) : (a.mergeSort fun x y => decide (x ≤ y)) = a :=
  (List.mergeSort_perm a _).eq_of_pairwise (le := (· ≤ ·)) (fun x y _ _ h1 h2 => by omega) (srtd a) (h.imp fun h => by omega)
theorem c_collectB (τ : Nat) {Bm r tb τb τm : Nat} {m : List (Int × Value)} {s : TH} (hB : Blk s Bm [.map (some r)] tb τb) (hm : MapK (Value.int .i64) s r m τm) (hn : m.length ≤ 17592186044416) (hk : ∀ k ∈ m.map (·.1), inI64 k) :
    TRet Tryz.prog 398 #[.func (.func 399) #[] #[.pointer (some ⟨Bm, 0, none⟩)]] s fun v s' => ∃ a c ss, v = .slice a m.length c ∧ Ch [] s s' ∧ ss.Perm (m.map (·.1)) ∧ Own s' a m.length c 3 1 (ivs ss) τ := by
  refine TRet.mono (Q := fun v s' => (∃ a c ss, v = .slice a m.length c ∧ ss.Perm (m.map (·.1)) ∧ Own s' a m.length c 3 1 (ivs ss) τ) ∧ Ch [] s s') (tret_new τ fun w hw => ?_) (fun v s' ⟨⟨a, c, ss, h1, h2, h3⟩, h4⟩ => ⟨a, c, ss, h1, h4, h2, h3⟩)
  have hm0 : w.cell? ⟨Bm, 0, none⟩ = some (.map (some r)) := by rw [cell_eq, hw]; exact hB.cell 0
  obtain ⟨D0, ho, hp, hsz⟩ := owns_of (P := Tryz.prog) (K := 3) (by kernel_rfl) hm w hw hn hk
  have hseq : SeqGives Fence.wide 4 Tryz.prog 399 #[.pointer (some ⟨Bm, 0, none⟩)] encZ (fun ss : List Int => ss.Perm (intKeys D0)) (Go.Maps.size D0) w :=
    AnyZI.keys_gives (ρ := Tryz.keysB_ren) { Tryz.keysB with } Fence.wide 4 trivial rfl (by omega) Bm r m.length D0 w (by rw [hw]; exact hB.lt) hm0 ho
  have h := AnyZI.collect_in (ρ := Tryz.collectA_ren) Tryz.collectA Fence.wide 6 trivial trivial rfl (by omega) 399 #[.pointer (some ⟨Bm, 0, none⟩)] trivial (enters_of Tryz.func399 (by kernel_rfl) rfl) _ (Go.Maps.size D0) (by rw [hsz]; unfold maxLen; omega) (by rw [hsz]; omega) w hseq
  refine ((callsIn_wide (n := 6)).1 h).mono ?_
  rintro e w' ⟨v, ss, rfl, hs, hrow, hv, hb⟩
  have hp2 := hs.trans hp
  have hl : ss.length = m.length := by rw [hp2.length_eq]; simp
  obtain ⟨a, c, rfl, hO, hnew⟩ := own_of_row (g := fun j => if j < s.h.size then s.g j else τ) (τ := τ) hrow (fun j hj => by rw [if_neg (by rw [← hw]; omega)])
  rw [hl] at hO ⊢
  exact ⟨_, rfl, hb, a, c, ss, rfl, hp2, hO⟩
/-- maps.Keys[map[int]bollard/api.Patch,int,bollard/api.Patch] -/
theorem c_keysB (τ r : Nat) (s : TH) : TRet Tryz.prog 351 #[.map (some r)] s fun v s' => ∃ B, v = .func (.func 399) #[] #[.pointer (some ⟨B, 0, none⟩)] ∧ Ch [] s s' ∧ Blk s' B [.map (some r)] 258 τ := by
  refine F351_calls _  ?_
  unfold F351
  refine al_t τ fun r1 s2 hr1 b_1 c_2 z_3 => ?_
  refine ret_t ?_
  exact ⟨_, rfl, ((Ch.refl [] s).ch c_2 (by simp)), b_1⟩
/-- slices.Sorted[int] -/
theorem c_sortedB (τ : Nat) {Bm r tb τb τm : Nat} {m : List (Int × Value)} (s : TH) (hB : Blk s Bm [.map (some r)] tb τb) (hm : MapK (Value.int .i64) s r m τm) (hn : m.length ≤ 17592186044416) (hk : ∀ k ∈ m.map (·.1), inI64 k) : TRet Tryz.prog 350 #[.func (.func 399) #[] #[.pointer (some ⟨Bm, 0, none⟩)]] s fun v s' => ∃ a c, v = .slice a m.length c ∧ Ch [] s s' ∧ Own s' a m.length c 3 1 (ivs ((m.map (·.1)).mergeSort fun x y => decide (x ≤ y))) τ := by
  obtain ⟨M, hM, hM0, hMa, hMb, hMc, hMd, hMe, hMf⟩ := fresh6 s τb τm τ 0 0 0
  refine F350_calls _ _ _  ?_
  unfold F350
  refine tcall (c_collectB (M + 1) hB hm (by omega) hk) ?_
  rintro v_2 s_1 ⟨acall1, ccall1, sscall1, rfl, c_4, call1a, call1b⟩
  have z_5 := c_4.size
  refine dSl_i ?_
  refine tcall (c_sortInt call1b (by omega)) ?_
  rintro v_7 s_6 ⟨rfl, c_9, call2a⟩
  have z_10 := c_9.size
  have ho := call2a
  rw [show (sscall1.mergeSort fun x y => decide (x ≤ y)) = (m.map (·.1)).mergeSort fun x y => decide (x ≤ y) from msort_perm call1a] at ho
  exact ret_t' (s' := remark s_6 (M + 1) τ) rfl ⟨_, _, rfl, remark_ch (((Ch.refl [] s).ch c_4 (by simp)).fr c_9 hM (by simp)) hM (by omega), ho.remark⟩
/-- (*bollard/patch.Set).all -/
theorem c_pall (p T : Nat) (P : PatchM) (τ : Nat) (s : TH) (hT : 10 ≤ T) (hp : PSet s p T P) : TRet Tryz.prog 292 #[.pointer (some ⟨p, 0, none⟩)] s fun v s' => ∃ a c', v = .slice a P.l.length c' ∧ Ch [] s s' ∧ Own s' a P.l.length c' 3 1 (ivs P.all) τ := by
  obtain ⟨⟨rd, rl, md, ml, hP⟩, ok⟩ := id hp
  have hpb := hP.blk
  have hpd := hP.dm
  have hpl := hP.lm
  have hpm := hP.pm
  have hlst := ok.lst
  obtain ⟨M, hM, hM0, hMa, hMb, hMc, hMd, hMe, hMf⟩ := fresh6 s (T + 10) τ 0 0 0 0
  refine F292_calls _  ?_
  unfold F292
  refine nz_i ?_
  refine ld_t hpb rfl ?_
  refine dMap_i ?_
  refine tcall (c_keysB (M + 1) _ _) ?_
  rintro v_2 s_1 ⟨Bcall1, rfl, c_4, call1a⟩
  have z_5 := c_4.size
  have hkm := hpm.keys
  have hml : ml.length = P.l.length := by have := congrArg List.length hkm; simpa using this
  have hll := ok.lenl
  have h_6 := hpl.ch c_4 (by simp)
  refine tcall (c_sortedB τ _ call1a h_6 (by omega) (fun k hk => by rw [hkm] at hk; obtain ⟨x, hx, rfl⟩ := List.mem_map.1 hk; have := ok.rng x hx; unfold inI64; omega)) ?_
  rintro v_8 s_7 ⟨acall2, ccall2, rfl, c_10, call2a⟩
  have z_11 := c_10.size
  refine dSl_i ?_
  refine ret_t ?_
  have ho := call2a
  rw [hkm, show (P.l.map (·.id)) = P.all from rfl, srtd_id ok.asrt, hml] at ho
  rw [hml]
  exact ⟨_, _, rfl, (((Ch.refl [] s).ch c_4 (by simp)).ch c_10 (by simp)), ho⟩
set_option maxRecDepth 100000 in
/-- slices.IndexFunc[[]int,int] -/
theorem c_ixIntF {a : Option Addr} {n : Nat} (c : Nat) {g : Nat} {xf xc : Array Value} {l : List Int} {τ : Nat} {s : TH} (q : Int → Bool) (hq : Sl s a (ivs l) τ) (hn : l.length = n) (hb : n ≤ 140737488355328) (hg : plainFn Tryz.prog g = true) (hp : ∀ (s1 : TH) (x : Int), x ∈ l → Ch [] s s1 → TRet Tryz.prog g (argsOf xf [.int .i64 x] xc) s1 fun v s2 => v = .bool (q x) ∧ Ch [] s1 s2) : TRet Tryz.prog 280 #[.slice a n c, .func (.func g) xf xc] s fun v s' => v = .int .i64 (ixf q l) ∧ Ch [] s s' := by
  refine F280_calls _ _ _ _ _ _  ?_
  unfold F280
  refine ⟨fun vs H' => ∃ s' : TH, s'.h = H' ∧ ∃ m, vs = [.int .i64 m] ∧ Ch [] s s' ∧ (∃ k : Nat, m = k ∧ k ≤ n ∧ ∀ j x, j < k → l[j]? = some x → q x = false), fun vs H' => match vs with | [.int .i64 m] => ((n : Int) - m).toNat | _ => 0, ⟨s, rfl, _, rfl, Ch.refl _ _, ?_⟩, ?_⟩
  ·
    exact ⟨0, rfl, by omega, fun j x h => by omega⟩
  ·
    intro m _ _ _ _ _ _ _ _ _ _ _ _ H_ hI_2
    obtain ⟨s_1, rfl, m_, hvs, c_3, k, rfl, hk, hall⟩ := hI_2
    cases hvs
    have z_4 := c_3.size
    refine sB_d (fun hsB1 => ?_) (fun hsB1 => ?_)
    ·
      have h_5 := hq.mv c_3 (tagn (by simp))
      obtain ⟨a_6, rfl⟩ := h_5.ne_none (by simp [bvs_len, ivs_len]; omega)
      refine nz_i ?_
      refine ask_t (by omega) ?_
      refine ld_iv h_5 (by omega) (by omega) fun vel1 hel1 => ?_
      rw [Int.toNat_natCast] at hel1
      refine dInt_i ?_
      refine gB_i hg ?_
      refine tcall (hp _ _ (List.mem_of_getElem? hel1) ((Ch.refl [] s).ch c_3 (by simp))) ?_
      rintro v_8 s_7 ⟨rfl, c_10⟩
      have z_11 := c_10.size
      refine dBl_i ?_
      refine sB_i (fun hsB2 => ?_) (fun hsB2 => ?_)
      ·
        refine ret_t ?_
        exact ⟨ret_i (ixf_some hel1 hsB2 hall).symm, (((Ch.refl [] s).ch c_3 (by simp)).ch c_10 (by simp))⟩
      ·
        refine wr_t (by omega) ?_
        refine ⟨⟨s_7, rfl, _, rfl, (((Ch.refl [] s).ch c_3 (by simp)).ch c_10 (by simp)), ?_⟩, ?_⟩
        ·
          refine ⟨k + 1, by omega, by omega, fun j y hj hy => ?_⟩
          by_cases e : j = k
          · subst e; rw [hel1] at hy; cases hy; exact hsB2
          · exact hall j y (by omega) hy
        ·
          simp only []; omega
    ·
      refine ret_t ?_
      exact ⟨ret_i (ixf_none fun j y hj hy => hall j y (by omega) hy).symm, ((Ch.refl [] s).ch c_3 (by simp))⟩
theorem set_take_snoc {l : List Int} {i : Nat} {x : Int} (h : i < l.length) : (l.set i x).take (i + 1) = l.take i ++ [x] := by
  rw [List.take_add_one, List.getElem?_set_self h, List.take_set_of_le (Nat.le_refl _)]; rfl
theorem filt_snoc {l : List Int} {k : Nat} {x : Int} (q : Int → Bool) (h : l[k]? = some x) : (l.take (k + 1)).filter (fun y => !q y) = if q x = true then (l.take k).filter (fun y => !q y) else (l.take k).filter (fun y => !q y) ++ [x] := by
  rw [take_get h, List.filter_append, List.filter_cons]
  cases hq : q x <;> simp
theorem ixf_take {l : List Int} {q : Int → Bool} {k : Nat} (h : ixf q l = (k : Int)) : ∃ x, l[k]? = some x ∧ q x = true ∧ (l.take k).filter (fun y => !q y) = l.take k := by
  have : ∀ (l : List Int) (i k : Nat), ixr q l i = ((i + k : Nat) : Int) → ∃ x, l[k]? = some x ∧ q x = true ∧ (l.take k).filter (fun y => !q y) = l.take k := fun l => by
    induction l with
    | nil => intro i k h; simp [ixr] at h; omega
    | cons y l ih =>
      intro i k h
      rw [ixr] at h
      cases hy : q y with
      | true =>
        rw [hy, if_pos rfl] at h
        obtain rfl : k = 0 := by omega
        exact ⟨y, rfl, hy, by simp⟩
      | false =>
        rw [hy, if_neg (by simp)] at h
        cases k with
        | zero =>
          exfalso
          have hr : ixr q l (i + 1) = -1 ∨ (i + 1 : Nat) ≤ ixr q l (i + 1) := by
            clear h ih hy
            generalize i + 1 = m
            induction l generalizing m with
            | nil => left; rfl
            | cons z l ih =>
              rw [ixr]
              cases q z with
              | true => right; simp
              | false => rcases ih (m + 1) with h | h <;> simp [h] <;> omega
          omega
        | succ k =>
          obtain ⟨x, h1, h2, h3⟩ := ih (i + 1) k (by rw [h]; congr 1; omega)
          exact ⟨x, by simpa using h1, h2, by rw [List.take_succ_cons, List.filter_cons, hy]; simp only [Bool.not_false, if_true]; rw [h3]⟩
  exact this l 0 k (by rw [show 0 + k = k by omega]; exact h)
set_option maxRecDepth 100000 in
/-- slices.DeleteFunc[[]int,int] -/
theorem c_dfInt {a : Option Addr} {n : Nat} (c : Nat) {g : Nat} {xf xc : Array Value} {l : List Int} {τ : Nat} {s : TH} (q : Int → Bool) (hO : Own s a n c 3 1 (ivs l) τ) (hb : n ≤ 17592186044416) (hg : plainFn Tryz.prog g = true) (hp : ∀ (s1 : TH) (x : Int), x ∈ l → Ch [τ] s s1 → TRet Tryz.prog g (argsOf xf [.int .i64 x] xc) s1 fun v s2 => v = .bool (q x) ∧ Ch [] s1 s2) : TRet Tryz.prog 234 #[.slice a n c, .func (.func g) xf xc] s fun v s' => v = .slice a (l.filter fun y => !q y).length c ∧ Ch [τ] s s' ∧ Own s' a (l.filter fun y => !q y).length c 3 1 (ivs (l.filter fun y => !q y)) τ := by
  have hl : l.length = n := by have := hO.1; rw [ivs_len] at this; omega
  have hle := hO.le
  refine F234_calls _ _ _ _ _ _  ?_
  unfold F234
  refine tcall (c_ixIntF c q hO.sl hl (by omega) hg (fun s1 x hx hc => hp s1 x hx (hc.less (by simp)))) ?_
  rintro v_2 s_1 ⟨rfl, c_4⟩
  have z_5 := c_4.size
  refine dInt_i ?_
  refine sB_i (fun hsB1 => ?_) (fun hsB1 => ?_)
  ·
    simp only [beq_iff_eq, beq_eq_false_iff_ne] at hsB1
    refine ret_t ?_
    have h_6 := hO.mv c_4 (tagn (by simp))
    rcases ixf_cases q l with ⟨h1, h2⟩ | ⟨k, x, h1, h2, h3⟩
    rotate_left
    · omega
    have e : (l.filter fun y => !q y) = l := List.filter_eq_self.2 fun x hx => by simp [h2 x hx]
    rw [e, hl]
    exact ⟨rfl, ((Ch.refl [τ] s).ch c_4 (by simp)), h_6⟩
  ·
    simp only [beq_iff_eq, beq_eq_false_iff_ne] at hsB1
    obtain ⟨k0, hk0⟩ : ∃ k : Nat, ixf q l = (k : Int) := by
      rcases ixf_cases q l with ⟨h1, h2⟩ | ⟨k, x, h1, h2, h3⟩
      · exact absurd h1 hsB1
      · exact ⟨k, h1⟩
    obtain ⟨x0, hx0, hq0, hf0⟩ := ixf_take hk0
    have hk0l := (List.getElem?_eq_some_iff.1 hx0).1
    rw [hk0]
    refine wr_t (by omega) ?_
    refine ⟨fun vs H' => ∃ s' : TH, s'.h = H' ∧ ∃ i1 j1, vs = [.int .i64 i1, .int .i64 j1] ∧ Ch [τ] s_1 s' ∧ (∃ (i j : Nat) (X : List Int), i1 = i ∧ j1 = j ∧ i < j ∧ j ≤ n ∧ Own s' a n c 3 1 (ivs X) τ ∧ X.drop j = l.drop j ∧ X.take i = (l.take j).filter fun y => !q y), fun vs H' => match vs with | [.int .i64 i1, .int .i64 j1] => ((n : Int) - j1).toNat | _ => 0, ⟨s_1, rfl, _, _, rfl, Ch.refl _ _, ?_⟩, ?_⟩
    ·
      have h_7 := hO.mv c_4 (tagn (by simp))
      refine ⟨k0, k0 + 1, l, rfl, by omega, by omega, by omega, h_7, rfl, ?_⟩
      rw [filt_snoc q hx0, if_pos hq0, hf0]
    ·
      intro i1 j1 _ _ _ _ _ _ _ _ _ _ _ _ _ _ _ _ _ _ _ _ _ H_ hI_9
      obtain ⟨s_8, rfl, i1_, j1_, hvs, c_10, i, j, X, rfl, rfl, hij, hj, ho, hX1, hX2⟩ := hI_9
      cases hvs
      have z_11 := c_10.size
      have hXn : X.length = n := by have := ho.1; rw [ivs_len] at this; omega
      refine sB_d (fun hsB2 => ?_) (fun hsB2 => ?_)
      ·
        refine jn_u ?_
        obtain ⟨a_12, rfl⟩ := ho.ne_none (by omega)
        refine nz_i ?_
        refine ask_t (by omega) ?_
        refine ld_iv ho.sl (by omega) (by omega) fun vel1 hel1 => ?_
        rw [Int.toNat_natCast] at hel1
        refine dInt_i ?_
        refine gB_i hg ?_
        have hlj : l[j]? = some vel1 := by have := congrArg (·[0]?) hX1; simp only [List.getElem?_drop, Nat.add_zero] at this; rw [← this]; exact hel1
        refine tcall (hp _ _ (List.mem_of_getElem? hlj) (((Ch.refl [τ] s).ch c_4 (by simp)).ch c_10 (by simp))) ?_
        rintro v_14 s_13 ⟨rfl, c_16⟩
        have z_17 := c_16.size
        refine dBl_i ?_
        refine sB_n (fun hsB3 => ?_) (fun hsB3 => ?_)
        ·
          refine nz_i ?_
          refine ask_t (by omega) ?_
          have h_21 := ho.mv c_16 (tagn (by simp))
          refine st_iv h_21 (by omega) (by omega) fun s59 b_18 c_19 z_20 => ?_
          refine wr_t (by omega) ?_
          intro _
          intros
          refine dInt_i ?_
          refine wr_t (by omega) ?_
          refine ⟨⟨s59, rfl, _, _, rfl, ((((Ch.refl [τ] s_1).ch c_10 (by simp)).ch c_16 (by simp)).ch c_19 (by simp)), ?_⟩, ?_⟩
          ·
            refine ⟨i + 1, j + 1, X.set i vel1, by omega, by omega, by omega, by omega, ?_, ?_, ?_⟩
            · have h := b_18; rw [Int.toNat_natCast] at h; exact h
            · rw [List.drop_set_of_lt (by omega), ← List.drop_drop, hX1, List.drop_drop]
            · rw [set_take_snoc (by omega), filt_snoc q hlj, if_neg (by simp [hsB3]), hX2]
          ·
            simp only []; omega
        ·
          intro _
          intros
          refine dInt_i ?_
          refine wr_t (by omega) ?_
          refine ⟨⟨s_13, rfl, _, _, rfl, (((Ch.refl [τ] s_1).ch c_10 (by simp)).ch c_16 (by simp)), ?_⟩, ?_⟩
          ·
            have h_22 := ho.mv c_16 (tagn (by simp))
            refine ⟨i, j + 1, X, by omega, by omega, by omega, by omega, h_22, ?_, ?_⟩
            · rw [← List.drop_drop, hX1, List.drop_drop]
            · rw [filt_snoc q hlj, if_pos (by simpa using hsB3), hX2]
          ·
            simp only []; omega
      ·
        refine ask_t (by omega) ?_
        simp only [Int.toNat_natCast]
        refine clear_t u74 in3 rfl (by intro u hu; simp [Value.cells] at hu; subst hu; rfl) (ho.pre (m := i) (by omega)) (m := n) (by omega) (by omega) fun s_23 o_26 c_24o _ => ?_
        have c_24 := c_24o.ch ho (T := [τ]) (by simp)
        have z_25 := c_24.size
        refine ask_t (by omega) ?_
        refine ret_t ?_
        have hjn : j = n := by omega
        rw [hjn, List.take_of_length_le (l := l) (by omega)] at hX2
        have hpl : (l.filter fun y => !q y).length = i := by rw [← hX2, List.length_take]; omega
        have hO2 := o_26
        rw [Nat.mul_one, ivs_take, hX2] at hO2
        rw [hpl]
        simp only [slO_zero, Int.toNat_zero, Int.toNat_natCast, Nat.sub_zero]
        exact ⟨trivial, ((((Ch.refl [τ] s).ch c_4 (by simp)).ch c_10 (by simp)).ch c_24 (by simp)), hO2⟩
/-- slices.Clone[[]byte,byte] -/
theorem c_cloneB (τ : Nat) {xa : Option Addr} {xn : Nat} (xc : Nat) {l : List UInt8} {τx : Nat} {s : TH} (hx : Sl s xa (bvs l) τx) (hn : l.length = xn) (hb : xn ≤ 140737488355328) : TRet Tryz.prog 177 #[.slice xa xn xc] s fun v s' => ∃ a c', v = .slice a xn c' ∧ Ch [] s s' ∧ Own s' a xn c' 5 1 (bvs l) τ := by
  obtain ⟨M, hM, hM0, hMa, hMb, hMc, hMd, hMe, hMf⟩ := fresh6 s τx τ 0 0 0 0
  refine F177_calls _ _ _  ?_
  unfold F177
  refine sB_i (fun hsB1 => ?_) (fun hsB1 => ?_)
  ·
    have hxa : xa = none := by simpa using hsB1
    subst hxa
    have h0 := congrArg List.length hx.len0
    rw [bvs_len, List.length_nil] at h0
    have hl : l = [] := List.eq_nil_of_length_eq_zero h0
    subst hl
    obtain rfl : xn = 0 := by omega
    exact ret_t ⟨none, 0, rfl, (Ch.refl [] s), Own.nil _ _ _ _⟩
  ·
    refine al_t (M + 1) fun r1 s2 hr1 b_1 c_2 z_3 => ?_
    have hO0 : Own s2 (some ⟨r1, 0, none⟩) 0 0 5 1 (bvs []) (M + 1) := b_1.own0 1
    have h_6 := hx.mv c_2 (tagn (by simp))
    refine app_bv u46 in5 hO0 h_6 (by omega) (by omega) fun s_7 a_4 k_5 o_8 c_9 => ?_
    have z_10 := c_9.size
    refine dSl_i ?_
    rw [Nat.zero_add]
    have ho := o_8
    rw [Nat.zero_add] at ho
    exact ret_t' (s' := remark s_7 (M + 1) τ) rfl ⟨_, _, rfl, remark_ch (((Ch.refl [] s).ch c_2 (by simp)).fr c_9 hM (by simp)) hM (by omega), ho.remark⟩
theorem find_by {P : PatchM} (hn : (P.l.map (·.id)).Nodup) {x : PatM} (hx : x ∈ P.l) : P.find x.id = some x := by
  unfold PatchM.find
  obtain ⟨last, done, l⟩ := P
  simp only at *
  induction l with
  | nil => cases hx
  | cons y l ih =>
    rw [List.map_cons, List.nodup_cons] at hn
    rw [List.find?_cons]
    rcases List.mem_cons.1 hx with rfl | hx
    · simp
    · have : (y.id == x.id) = false := by
        simp only [beq_eq_false_iff_ne]
        intro e; exact hn.1 (by rw [e]; exact List.mem_map.2 ⟨x, hx, rfl⟩)
      rw [this]; exact ih hn.2 hx
def PatchM.step (P : PatchM) (d : List UInt8) (i : Int) : List UInt8 := match P.find i with
  | some x => overlay d x.off.toNat x.by_
  | none => d
def PatchM.over (P : PatchM) (d : List UInt8) (ids : List Int) : List UInt8 := ids.foldl P.step d
def PatchM.fstep (P : PatchM) (l : List Int) (i : Int) : List Int := match P.find i with
  | some x => if ((P.pend x.needs).all fun n => decide (n ∈ l)) = true then l ++ [i] else l
  | none => l
def PatchM.free (P : PatchM) (b : Int) : List Int := (P.of b).foldl P.fstep []
theorem foldl_take {α β : Type} (f : β → α → β) (z : β) {l : List α} {k : Nat} {x : α} (h : l[k]? = some x) : (l.take (k + 1)).foldl f z = f ((l.take k).foldl f z) x := by
  rw [List.take_add_one, h, List.foldl_append]; rfl
theorem of_sub {P : PatchM} {b i : Int} (h : i ∈ P.of b) : i ∈ P.all := by
  unfold PatchM.of at h
  obtain ⟨x, hx, rfl⟩ := List.mem_map.1 h
  exact List.mem_map.2 ⟨x, (List.mem_filter.1 hx).1, rfl⟩
theorem of_len {P : PatchM} (ok : POk P) (b : Int) : ((P.of b).length : Int) ≤ P.last := by
  have h1 : (P.of b).length ≤ P.l.length := by unfold PatchM.of; rw [List.length_map]; exact List.length_filter_le _ _
  have := ok.lenl; omega
theorem fstep_len (P : PatchM) (l : List Int) (i : Int) : (P.fstep l i).length ≤ l.length + 1 := by
  unfold PatchM.fstep
  split
  · split <;> simp
  · omega
theorem fsteps_len (P : PatchM) : ∀ (ids l : List Int), (ids.foldl P.fstep l).length ≤ l.length + ids.length
  | [], l => by simp
  | i :: ids, l => by
    have h1 := fsteps_len P ids (P.fstep l i)
    have h2 := fstep_len P l i
    simp only [List.foldl_cons, List.length_cons]; omega
theorem free_sub {P : PatchM} {b i : Int} (h : i ∈ P.free b) : i ∈ P.of b := by
  have : ∀ (ids l : List Int), i ∈ ids.foldl P.fstep l → i ∈ l ∨ i ∈ ids := fun ids => by
    induction ids with
    | nil => intro l h; exact .inl h
    | cons j ids ih =>
      intro l h
      rcases ih _ h with h1 | h1
      · unfold PatchM.fstep at h1
        split at h1
        · split at h1
          · rcases List.mem_append.1 h1 with h2 | h2
            · exact .inl h2
            · rw [List.mem_singleton] at h2; exact .inr (by simp [h2])
          · exact .inl h1
        · exact .inl h1
      · exact .inr (List.mem_cons_of_mem _ h1)
  exact (this _ [] h).resolve_left (by simp)
theorem free_len {P : PatchM} (ok : POk P) (b : Int) : ((P.free b).length : Int) ≤ P.last := by
  have h1 := fsteps_len P (P.of b) []
  have h2 := of_len ok b
  unfold PatchM.free
  simp at h1; omega
/-- (*bollard/patch.Set).Of$1 -/
theorem c_of1p (p T : Nat) (P : PatchM) (x b : Int) (r3 t1 t3 τ1 τ3 r0 : Nat) (s : TH) (hT : 10 ≤ T) (hp : PSet s p T P) (hb1 : Blk s r0 [.pointer (some ⟨p, 0, none⟩)] t1 τ1) (hb3 : Blk s r3 [.int .i64 b] t3 τ3) (hx : x ∈ P.all) : TRet Tryz.prog 293 #[.int .i64 x, .pointer (some ⟨r0, 0, none⟩), .pointer (some ⟨r3, 0, none⟩)] s fun v s' => v = .bool (!decide (x ∈ P.of b)) ∧ Ch [] s s' := by
  obtain ⟨⟨rd, rl, md, ml, hP⟩, ok⟩ := id hp
  have hpb := hP.blk
  have hpd := hP.dm
  have hpl := hP.lm
  have hpm := hP.pm
  have hlst := ok.lst
  refine F293_calls _ _ _  ?_
  unfold F293
  refine ld_t hb1 rfl ?_
  refine dPtr_i ?_
  refine nz_i ?_
  refine ld_t hpb rfl ?_
  refine dMap_i ?_
  refine ld_t hb3 rfl ?_
  refine dInt_i ?_
  obtain ⟨xsem1, hfxsem1⟩ := Option.isSome_iff_exists.1 (find_isSome.2 (hx))
  obtain ⟨wsem1, hvxsem1, ⟨baxsem1, bcxsem1, naxsem1, ncxsem1, rfl, sbxsem1, snxsem1⟩, hidxsem1, hmemxsem1⟩ := hpm.some_ hfxsem1
  have hinxsem1 := (POk.find_mem hfxsem1).1
  refine look_s keyI um258 z262 hpl x hvxsem1 ?_
  refine dA5 ?_
  refine ⟨?_, ?_⟩
  ·
    refine ld_t hb3 rfl ?_
    refine dInt_i ?_
    rfl
  ·
    refine dInt_i ?_
    refine ret_t ?_
    refine ⟨ret_b ?_, (Ch.refl [] s)⟩
    have hd := ok.nodup
    unfold PatchM.of
    by_cases e : xsem1.blk = b
    · rw [e, bne_self_eq_false, eq_comm, Bool.not_eq_false', decide_eq_true_iff]
      exact List.mem_map.2 ⟨xsem1, List.mem_filter.2 ⟨hinxsem1, by simpa using e⟩, hidxsem1⟩
    · rw [show (xsem1.blk != b) = true by simpa using e, eq_comm, Bool.not_eq_true', decide_eq_false_iff_not]
      intro h
      obtain ⟨y, hy, hye⟩ := List.mem_map.1 h
      have h2 := List.mem_filter.1 hy
      have : y = xsem1 := by
        have := find_by hd h2.1
        rw [hye] at this
        exact Option.some.inj (this.symm.trans hfxsem1)
      subst this
      exact e (by simpa using h2.2)
theorem of_filter {P : PatchM} (ok : POk P) (b : Int) : P.all.filter (fun y => !!decide (y ∈ P.of b)) = P.of b := by
  refine srt_ext (srt_filter ok.asrt _) ?_ fun x => ?_
  · unfold PatchM.of
    exact List.pairwise_map.2 (ok.srt.sublist List.filter_sublist)
  · rw [List.mem_filter]; simp; exact of_sub
/-- (*bollard/patch.Set).Of -/
theorem c_pof (p T : Nat) (P : PatchM) (τ : Nat) (b : Int) (s : TH) (hT : 10 ≤ T) (hp : PSet s p T P) : TRet Tryz.prog 199 #[.pointer (some ⟨p, 0, none⟩), .int .i64 b] s fun v s' => ∃ a c', v = .slice a (P.of b).length c' ∧ Ch [] s s' ∧ Own s' a (P.of b).length c' 3 1 (ivs (P.of b)) τ := by
  obtain ⟨⟨rd, rl, md, ml, hP⟩, ok⟩ := id hp
  have hpb := hP.blk
  have hpd := hP.dm
  have hpl := hP.lm
  have hpm := hP.pm
  have hlst := ok.lst
  obtain ⟨M, hM, hM0, hMa, hMb, hMc, hMd, hMe, hMf⟩ := fresh6 s (T + 10) τ 0 0 0 0
  refine F199_calls _ _  ?_
  unfold F199
  refine al_t (M + 1) fun r1 s2 hr1 b_1 c_2 z_3 => ?_
  refine al_t (M + 2) fun r3 s4 hr3 b_4 c_5 z_6 => ?_
  have h_7 := b_1.ch c_5 (by simp)
  refine ld_t h_7 rfl ?_
  refine dPtr_i ?_
  have h_8 := hp.mv (c_2.app c_5) (rngn (by simp))
  refine tcall (c_own _ _ _ _ (by omega) h_8) ?_
  rintro v_10 s_9 ⟨rfl, c_12⟩
  have z_13 := c_12.size
  refine dBl_i ?_
  refine sB_f (by rfl) ?_
  have h_14 := h_7.ch c_12 (by simp)
  refine ld_t h_14 rfl ?_
  refine dPtr_i ?_
  have h_15 := h_8.mv c_12 (rngn (by simp))
  refine tcall (c_pall _ _ _ (M + 3) _ (by omega) h_15) ?_
  rintro v_17 s_16 ⟨acall2, ccall2, rfl, c_19, call2a⟩
  have z_20 := c_19.size
  refine dSl_i ?_
  have hll := ok.lenl
  have h_21 := h_14.ch c_19 (by simp)
  have hr1f := h_21
  have h_22 := b_4.ch (c_12.app c_19) (by simp)
  have hr3f := h_22
  have h_23 := h_15.mv c_19 (rngn (by simp))
  have hPf := h_23
  refine tcall (c_dfInt _ (fun y => !decide (y ∈ P.of b)) call2a (by omega) (by kernel_rfl) (fun s1 x hx hc => c_of1p p T P x b r3 _ _ _ _ r1 s1 hT (hPf.mv hc (rngn (by simp <;> omega))) (hr1f.ch hc (by simp)) (hr3f.ch hc (by simp)) hx)) ?_
  rintro v_25 s_24 ⟨rfl, c_27, call3a⟩
  have z_28 := c_27.size
  refine dSl_i ?_
  have ho := call3a
  rw [of_filter ok] at ho ⊢
  exact ret_t' (s' := remark s_24 (M + 3) τ) rfl ⟨_, _, rfl, remark_ch ((((((Ch.refl [] s).ch c_2 (by simp)).ch c_5 (by simp)).ch c_12 (by simp)).ch c_19 (by simp)).fr c_27 hM (by simp)) hM (by omega), ho.remark⟩
/-- (*bollard/patch.Set).over -/
theorem c_pover (p T : Nat) (P : PatchM) (τ : Nat) {da : Option Addr} (dc : Nat) {d : List UInt8} {τd : Nat} {xa : Option Addr} {xn : Nat} (xc : Nat) {ids : List Int} {τx : Nat} (s : TH) (hT : 10 ≤ T) (hp : PSet s p T P) (hd : Sl s da (bvs d) τd) (hdn : d.length = 128) (hx : Sl s xa (ivs ids) τx) (hn : ids.length = xn) (hb : xn ≤ 17592186044000) (hall : ∀ i ∈ ids, i ∈ P.all) : TRet Tryz.prog 279 #[.pointer (some ⟨p, 0, none⟩), .slice da 128 dc, .slice xa xn xc] s fun v s' => ∃ a c', v = .slice a 128 c' ∧ Ch [] s s' ∧ Own s' a 128 c' 5 1 (bvs (P.over d ids)) τ := by
  obtain ⟨⟨rd, rl, md, ml, hP⟩, ok⟩ := id hp
  have hpb := hP.blk
  have hpd := hP.dm
  have hpl := hP.lm
  have hpm := hP.pm
  have hlst := ok.lst
  obtain ⟨M, hM, hM0, hMa, hMb, hMc, hMd, hMe, hMf⟩ := fresh6 s (T + 10) τd τx τ 0 0
  refine F279_calls _ _ _ _ _ _ _  ?_
  unfold F279
  refine tcall (c_cloneB (M + 1) _ hd (by omega) (by omega)) ?_
  rintro v_2 s_1 ⟨acall1, ccall1, rfl, c_4, call1a⟩
  have z_5 := c_4.size
  refine dSl_i ?_
  refine ⟨fun vs H' => ∃ s' : TH, s'.h = H' ∧ ∃ i, vs = [.int .i64 i] ∧ Ch [M + 1, M + 9] s_1 s' ∧ (∃ k : Nat, i = k ∧ k ≤ xn ∧ Own s' acall1 128 ccall1 5 1 (bvs (P.over d (ids.take k))) (M + 1)), fun vs H' => match vs with | [.int .i64 i] => ((xn : Int) - i).toNat | _ => 0, ⟨s_1, rfl, _, rfl, Ch.refl _ _, ?_⟩, ?_⟩
  ·
    exact ⟨0, rfl, by omega, call1a⟩
  ·
    intro i _ _ _ _ _ _ _ _ _ _ _ _ _ _ _ _ _ _ _ H_ hI_7
    obtain ⟨s_6, rfl, i_, hvs, c_8, k, rfl, hk, ho⟩ := hI_7
    cases hvs
    have z_9 := c_8.size
    refine sB_d (fun hsB1 => ?_) (fun hsB1 => ?_)
    ·
      have h_10 := hx.mv (c_4.app c_8) (tagn (by simp <;> omega))
      obtain ⟨a_11, rfl⟩ := h_10.ne_none (by simp [bvs_len, ivs_len]; omega)
      refine nz_i ?_
      refine ask_t (by omega) ?_
      refine ld_iv h_10 (by omega) (by omega) fun vel1 hel1 => ?_
      rw [Int.toNat_natCast] at hel1
      refine dInt_i ?_
      refine nz_i ?_
      have h_12 := hpb.ch (c_4.app c_8) (by simp <;> omega)
      refine ld_t h_12 rfl ?_
      refine dMap_i ?_
      have hm1 := hall _ (List.mem_of_getElem? hel1)
      obtain ⟨xsem1, hfxsem1⟩ := Option.isSome_iff_exists.1 (find_isSome.2 (hm1))
      have h_13 := hpm.mv (c_4.app c_8) (tagn (by simp <;> omega))
      obtain ⟨wsem1, hvxsem1, ⟨baxsem1, bcxsem1, naxsem1, ncxsem1, rfl, sbxsem1, snxsem1⟩, hidxsem1, hmemxsem1⟩ := h_13.some_ hfxsem1
      have hinxsem1 := (POk.find_mem hfxsem1).1
      have h_14 := hpl.ch (c_4.app c_8) (by simp <;> omega)
      refine look_s keyI um258 z262 h_14 vel1 hvxsem1 ?_
      refine dA5 ?_
      refine al_t (M + 9) fun r45 s46 hr45 b_15 c_16 z_17 => ?_
      refine st_t b_15 rfl (by simp) fun s47 b_18 c_19o z_20 => ?_
      have c_19 := on_ch b_15 c_19o
      refine st_t b_18 rfl (by simp) fun s48 b_21 c_22o z_23 => ?_
      have c_22 := on_ch b_18 c_22o
      refine st_t b_21 rfl (by simp) fun s49 b_24 c_25o z_26 => ?_
      have c_25 := on_ch b_21 c_25o
      refine st_t b_24 rfl (by simp) fun s50 b_27 c_28o z_29 => ?_
      have c_28 := on_ch b_24 c_28o
      refine st_t b_27 rfl (by simp) fun s51 b_30 c_31o z_32 => ?_
      have c_31 := on_ch b_27 c_31o
      refine ld_t b_30 rfl ?_
      refine dInt_i ?_
      have h_33 := ho.mv (((((c_16.app c_19).app c_22).app c_25).app c_28).app c_31) (tagn (by simp))
      refine ask_t (by have := ok.fit _ hinxsem1; have := h_33.le; omega) ?_
      refine ld_t b_30 rfl ?_
      have h_34 := sbxsem1.mv (((((c_16.app c_19).app c_22).app c_25).app c_28).app c_31) (tagn (by simp <;> omega))
      have sbxsem1 := h_34
      obtain ⟨a2, rfl⟩ := h_33.ne_none (by omega)
      refine dSl_i ?_
      have hft := ok.fit _ hinxsem1
      simp only [Int.toNat_natCast]
      refine copy_sl u46 in5 h_33 sbxsem1 rfl (by omega) (by omega) fun s_35 o_38 c_36 _ => ?_
      have z_37 := c_36.size
      refine dInt_i ?_
      refine wr_t (by omega) ?_
      refine ⟨⟨s_35, rfl, _, rfl, (((((((((Ch.refl [M + 1, M + 9] s_1).ch c_8 (by simp)).ch c_16 (by simp)).ch c_19 (by simp)).ch c_22 (by simp)).ch c_25 (by simp)).ch c_28 (by simp)).ch c_31 (by simp)).ch c_36 (by simp)), ?_⟩, ?_⟩
      ·
        refine ⟨k + 1, by omega, by omega, ?_⟩
        have ho := o_38
        rw [show P.over d (ids.take (k + 1)) = overlay (P.over d (ids.take k)) xsem1.off.toNat xsem1.by_ from by unfold PatchM.over; rw [foldl_take _ _ hel1]; unfold PatchM.step; rw [hfxsem1]]
        exact ho
      ·
        simp <;> omega
    ·
      have ho := ho
      rw [List.take_of_length_le (by omega)] at ho
      exact ret_t' (s' := remark s_6 (M + 1) τ) rfl ⟨_, _, rfl, remark_ch (((Ch.refl [] s).ch c_4 (by simp)).fr c_8 hM (by simp)) hM (by omega), ho.remark⟩
/-- (*bollard/patch.Set).Now -/
theorem c_pnow (p T : Nat) (P : PatchM) (τ : Nat) (b : Int) {da : Option Addr} (dc : Nat) {d : List UInt8} {τd : Nat} (s : TH) (hT : 10 ≤ T) (hp : PSet s p T P) (hd : Sl s da (bvs d) τd) (hdn : d.length = 128) : TRet Tryz.prog 171 #[.pointer (some ⟨p, 0, none⟩), .int .i64 b, .slice da 128 dc] s fun v s' => ∃ a c', v = .tuple #[.slice a 128 c', .int .i64 0] ∧ Ch [] s s' ∧ Own s' a 128 c' 5 1 (bvs (P.over d (P.of b))) τ := by
  obtain ⟨⟨rd, rl, md, ml, hP⟩, ok⟩ := id hp
  have hpb := hP.blk
  have hpd := hP.dm
  have hpl := hP.lm
  have hpm := hP.pm
  have hlst := ok.lst
  obtain ⟨M, hM, hM0, hMa, hMb, hMc, hMd, hMe, hMf⟩ := fresh6 s (T + 10) τd τ 0 0 0
  refine F171_calls _ _ _ _ _  ?_
  unfold F171
  refine tcall (c_own _ _ _ _ (by omega) hp) ?_
  rintro v_2 s_1 ⟨rfl, c_4⟩
  have z_5 := c_4.size
  refine dBl_i ?_
  refine sB_f (by rfl) ?_
  refine sB_f (by rfl) ?_
  have h_6 := hp.mv c_4 (rngn (by simp))
  refine tcall (c_pof _ _ _ (M + 1) _ _ (by omega) h_6) ?_
  rintro v_8 s_7 ⟨acall2, ccall2, rfl, c_10, call2a⟩
  have z_11 := c_10.size
  refine dSl_i ?_
  have hol := of_len ok b
  have h_12 := h_6.mv c_10 (rngn (by simp))
  have h_13 := hd.mv (c_4.app c_10) (tagn (by simp))
  refine tcall (c_pover p T P (τ := τ) dc _ _ hT h_12 h_13 hdn call2a.sl rfl (by omega) (fun i hi => of_sub hi)) ?_
  rintro v_15 s_14 ⟨acall3, ccall3, rfl, c_17, call3a⟩
  have z_18 := c_17.size
  refine dSl_i ?_
  refine ret_t ?_
  exact ⟨_, _, rfl, ((((Ch.refl [] s).ch c_4 (by simp)).ch c_10 (by simp)).ch c_17 (by simp)), call3a⟩
def PatchM.knows (P : PatchM) (i : Int) : Bool := decide (1 ≤ i ∧ i ≤ P.last)
def PatchM.closed (P : PatchM) (l : List Int) (i : Int) : Bool := match P.find i with
  | some x => (P.pend x.needs).all fun n => decide (n ∈ l)
  | none => true
theorem pend_sub {P : PatchM} {ids : List Int} {i : Int} (h : i ∈ P.pend ids) : i ∈ P.all ∧ i ∈ ids := by
  have := List.mem_filter.1 h; exact ⟨this.1, by simpa using this.2⟩
def gone (vis : List Int) (i : Int) (x : PatM) : Bool := !(decide (x.id ∈ vis) && decide (x.id > i))
/-- the blocks that have patches, rising -/
def PatchM.blocks (P : PatchM) : List Int := cpt ((P.l.map (·.blk)).mergeSort fun x y => decide (x ≤ y))
def ovx (b o n : Int) (x : PatM) : Bool := decide (ovl b o n x.blk x.off x.by_.length)
def PatchM.newP (P : PatchM) (b o : Int) (y : List UInt8) (needs : List Int) : PatM := ⟨P.last + 1, b, o, y, (P.l.filter fun x => decide (x.id ∈ needs) || ovx b o y.length x).map (·.id)⟩
def PatchM.add (P : PatchM) (b o : Int) (y : List UInt8) (needs : List Int) : PatchM × Int × Int :=
  if ¬ fitsP b o y.length then (P, 0, 1)
  else if (needs.any fun i => !P.knows i) = true then (P, 0, 70)
  else ({ P with last := P.last + 1, l := P.l ++ [P.newP b o y needs] }, P.last + 1, 0)
theorem POk.add {P : PatchM} (ok : POk P) {b o : Int} {y : List UInt8} {needs : List Int} (hf : fitsP b o y.length) (hl : P.last < 1000000) : POk { P with last := P.last + 1, l := P.l ++ [P.newP b o y needs] } where
  srt := List.pairwise_append.2 ⟨ok.srt, by simp, fun a ha c hc => by
    rw [List.mem_singleton] at hc; subst hc
    have := ok.rng a ha
    show a.id < P.last + 1
    omega⟩
  rng x hx := by
    rcases List.mem_append.1 hx with h | h
    · have := ok.rng x h; exact ⟨this.1, by show x.id ≤ P.last + 1; omega⟩
    · rw [List.mem_singleton] at h; subst h
      have := ok.lst
      exact ⟨by show 1 ≤ P.last + 1; omega, Int.le_refl _⟩
  fit x hx := by
    rcases List.mem_append.1 hx with h | h
    · exact ok.fit x h
    · rw [List.mem_singleton] at h; subst h
      unfold fitsP at hf
      exact ⟨hf.1, hf.2.1, by show 1 ≤ y.length; omega, by show o + (y.length : Int) ≤ 128; omega⟩
  nds x hx n hn := by
    rcases List.mem_append.1 hx with h | h
    · exact ok.nds x h n hn
    · rw [List.mem_singleton] at h; subst h
      obtain ⟨z, hz, rfl⟩ := List.mem_map.1 (show n ∈ (P.l.filter fun x => decide (x.id ∈ needs) || ovx b o y.length x).map (·.id) from hn)
      have := ok.rng z (List.mem_filter.1 hz).1
      exact ⟨this.1, by show z.id < P.last + 1; omega⟩
  nsr x hx := by
    rcases List.mem_append.1 hx with h | h
    · exact ok.nsr x h
    · rw [List.mem_singleton] at h; subst h
      exact List.pairwise_map.2 (ok.srt.sublist List.filter_sublist)
  dn i hi := by have := ok.dn i hi; exact ⟨this.1, by show i ≤ P.last + 1; omega⟩
  all i h1 h2 := by
    have h2 : i ≤ P.last + 1 := h2
    by_cases h3 : i ≤ P.last
    · rcases ok.all i h1 h3 with h | h
      · exact .inl h
      · right; show i ∈ (P.l ++ [P.newP b o y needs]).map PatM.id; rw [List.map_append]; exact List.mem_append_left _ h
    · right; show i ∈ (P.l ++ [P.newP b o y needs]).map PatM.id; rw [List.map_append]; exact List.mem_append_right _ (by rw [show i = P.last + 1 by omega]; exact List.mem_singleton.2 rfl)
  dis i hi h := by
    have h : i ∈ (P.l ++ [P.newP b o y needs]).map PatM.id := h
    rw [List.map_append] at h
    rcases List.mem_append.1 h with h | h
    · exact ok.dis i hi h
    · have := ok.dn i hi
      have h : i ∈ [P.last + 1] := h
      rw [List.mem_singleton] at h; omega
  lst := by have := ok.lst; show 0 ≤ P.last + 1 ∧ P.last + 1 ≤ 1000000; omega
/-- what must be on the disk until some are -/
inductive PatchM.Reach (P : PatchM) (ids : List Int) : Int → Prop
  | base {i : Int} : i ∈ P.pend ids → PatchM.Reach P ids i
  | step {i n : Int} {x : PatM} : PatchM.Reach P ids i → P.find i = some x → n ∈ P.pend x.needs → PatchM.Reach P ids n
theorem PatchM.Reach.all {P : PatchM} {ids : List Int} {i : Int} (h : P.Reach ids i) : i ∈ P.all := by
  cases h with
  | base h => exact (pend_sub h).1
  | step h1 h2 h3 => exact (pend_sub h3).1
structure ClI (P : PatchM) (ids : List Int) (K O : List Int) : Prop where
  kr : ∀ i ∈ K, P.Reach ids i
  or_ : ∀ i ∈ O, P.Reach ids i
  pe : ∀ i ∈ P.pend ids, i ∈ K ∨ i ∈ O
  cl : ∀ i ∈ K, ∀ x, P.find i = some x → ∀ n ∈ P.pend x.needs, n ∈ K ∨ n ∈ O
  nd : K.Nodup
theorem ClI.done {P : PatchM} {ids K : List Int} (h : ClI P ids K []) (i : Int) : i ∈ K ↔ P.Reach ids i := by
  refine ⟨h.kr i, fun hr => ?_⟩
  induction hr with
  | base hi => exact (h.pe _ hi).resolve_right (by simp)
  | step h1 h2 h3 ih => exact (h.cl _ ih _ h2 _ h3).resolve_right (by simp)
theorem ClI.push {P : PatchM} {ids K O : List Int} {i : Int} {x : PatM} (h : ClI P ids K (O ++ [i])) (hi : i ∉ K) (hx : P.find i = some x) : ClI P ids (K ++ [i]) (O ++ P.pend x.needs) where
  kr j hj := (List.mem_append.1 hj).elim (h.kr j) fun h2 => by rw [List.mem_singleton] at h2; rw [h2]; exact h.or_ i (by simp)
  or_ j hj := (List.mem_append.1 hj).elim (fun h2 => h.or_ j (List.mem_append_left _ h2)) fun h2 => .step (h.or_ i (by simp)) hx h2
  pe j hj := (h.pe j hj).elim (fun h => .inl (List.mem_append_left _ h)) fun h => (List.mem_append.1 h).elim (fun h => .inr (List.mem_append_left _ h)) fun h => .inl (List.mem_append_right _ h)
  cl j hj y hy n hn := by
    rcases List.mem_append.1 hj with hj | hj
    · rcases h.cl j hj y hy n hn with h | h
      · exact .inl (List.mem_append_left _ h)
      · rcases List.mem_append.1 h with h | h
        · exact .inr (List.mem_append_left _ h)
        · exact .inl (List.mem_append_right _ h)
    · rw [List.mem_singleton] at hj; subst hj
      rw [hx] at hy; cases hy
      exact .inr (List.mem_append_right _ hn)
  nd := List.nodup_append.2 ⟨h.nd, by simp, fun a ha b hb e => by rw [List.mem_singleton] at hb; subst hb; subst e; exact hi ha⟩
end Go.Proofs.YtdlelcpkelginaaGreat.E
/- The functions' forms in the engine's words, printed by my own program. -/
namespace Go.Proofs.YtdlelcpkelginaaGreat.E
open Go Go.Proofs
set_option linter.unusedVariables false
set_option maxRecDepth 100000
/-- bollard/bollardref17.Make -/
def F53 (x0_0 : Value) (x0_1 : Value) (x0_2 : Value) (R : Ending → Heap → Prop) (H : Heap) : Prop :=
  al H (Obj.cells #[x0_0, x0_1, x0_2] 23) (fun r1 H2 =>
  ld H2 (Addr.mk r1 0 none) (fun v3 =>
  ld H2 (Addr.mk r1 1 none) (fun v4 =>
  ld H2 (Addr.mk r1 2 none) (fun v5 =>
  HCalls Tryz.prog 138 #[Value.agg #[v3, v4, v5]] H2 (Sp.retK (fun v6 H7 =>
  dInt IntKind.i64 v6 (fun n8 =>
  sB (n8 != 0) (R (Ending.returned (Value.tuple #[Value.slice none 0 0, Value.int IntKind.i64 170])) H7) (ld H7 (Addr.mk r1 0 none) (fun v9 =>
  dInt IntKind.i64 v9 (fun n10 =>
  ∃ I11 : List Value → Heap → Prop,
  ∃ I12 : List Value → Heap → Nat,
  (I11 ([Value.slice none 0 0, Value.int IntKind.i64 0]) H7) ∧
  ∀ p13 : Option Addr,
  ∀ r14 : Nat,
  ∀ r15 : Nat,
  ∀ n16 : Int,
  ∀ v17 v18 v19 v20 v21 v22 v23 v24 v25 : Value,
  ∀ H26 : Heap,
  (I11 ([Value.slice p13 r14 r15, Value.int IntKind.i64 n16]) H26) →
  sB (decide (n16 < n10)) (ld H26 (Addr.mk r1 0 none) (fun v28 =>
  ld H26 (Addr.mk r1 1 none) (fun v29 =>
  ld H26 (Addr.mk r1 2 none) (fun v30 =>
  HCalls Tryz.prog 139 #[Value.agg #[v28, v29, v30], Value.int IntKind.i64 n16] H26 (Sp.retK (fun v31 H32 =>
  dSl v31 (fun p33 r34 r35 =>
  semW Tryz.prog (Builtin.append_ #[50, 50] 50 #[Value.slice p13 r14 r15, Value.slice p33 r34 r35]) (pnR R) H32 (fun v38 H39 =>
  dSl v38 (fun p40 r41 r42 =>
  wr IntKind.i64 (n16 + 1) (fun n43 =>
  (I11 ([Value.slice p40 r41 r42, Value.int IntKind.i64 n43]) H39) ∧
  (I12 [Value.slice p40 r41 r42, Value.int IntKind.i64 n43] H39) < (I12 [Value.slice p13 r14 r15, Value.int IntKind.i64 n16] H26)))))) (pnR R)))))) (ld H26 (Addr.mk r1 2 none) (fun v46 =>
  dInt IntKind.i64 v46 (fun n47 =>
  ask ((4 : Int) ≠ (0 : Int)) (wr IntKind.i64 (Int.tdiv n47 4) (fun n48 =>
  wr IntKind.i64 (2 + n48) (fun n49 =>
  HCalls Tryz.prog 61 #[Value.agg #[Value.int IntKind.i64 2, Value.int IntKind.i64 2, Value.int IntKind.i64 128, Value.int IntKind.i64 n49, Value.int IntKind.i64 0, Value.int IntKind.i64 0, Value.int IntKind.i64 0, Value.int IntKind.i64 0, Value.int IntKind.i64 0]] H26 (Sp.retK (fun v50 H51 =>
  dT 2 v50 (fun v52 v53 =>
  dSl v52 (fun p54 r55 r56 =>
  dInt IntKind.i64 v53 (fun n57 =>
  nz p13 (fun a58 =>
  ask ((0 : Int) ≤ (2 : Int) ∧ (2 : Int) < (↑r14 : Int)) (ld H51 (Addr.add a58 (Int.toNat 2 * 1)) (fun v59 =>
  dSl v59 (fun p60 r61 r62 =>
  ask ((0 : Int) ≤ (64 : Int) ∧ (64 : Int) ≤ (↑r61 : Int) ∧ (↑r61 : Int) ≤ (↑r62 : Int) ∧ (↑r62 : Int) ≤ (↑r62 : Int)) (semW Tryz.prog (Builtin.copy_ #[46, 46] 3 #[Value.slice (slO p60 1 64 (↑r62 : Int)) (Int.toNat (↑r61 : Int) - Int.toNat 64) (Int.toNat (↑r62 : Int) - Int.toNat 64), Value.slice p54 r55 r56]) (pnR R) H51 (fun v65 H66 =>
  dInt IntKind.i64 v65 (fun n67 =>
  al H66 (Obj.cells #[Value.int IntKind.i64 2, Value.string (ByteArray.mk #[UInt8.ofBitVec 46#8]), Value.int IntKind.i64 2, Value.string (ByteArray.mk #[UInt8.ofBitVec 46#8, UInt8.ofBitVec 46#8])] 228) (fun r68 H69 =>
  HCalls Tryz.prog 140 #[Value.slice (some (Addr.mk r68 0 none)) 2 2] H69 (Sp.retK (fun v70 H71 =>
  dT 2 v70 (fun v72 v73 =>
  dSl v72 (fun p74 r75 r76 =>
  dInt IntKind.i64 v73 (fun n77 =>
  nz p13 (fun a78 =>
  ask ((0 : Int) ≤ n49 ∧ n49 < (↑r14 : Int)) (st H71 (Addr.add a78 (Int.toNat n49 * 1)) (Value.slice p74 r75 r76) (fun H79 =>
  R (Ending.returned (Value.tuple #[Value.slice p13 r14 r15, Value.int IntKind.i64 0])) H79))))))) (pnR R)))))))))))))) (pnR R))))))))))))) (pnR R))))))
theorem F53_eq (x0_0 : Value) (x0_1 : Value) (x0_2 : Value) (R : Ending → Heap → Prop) (H : Heap) : F53 x0_0 x0_1 x0_2 R H = vc Tryz.prog (codeOf Tryz.f53) (.node none .leaf (.node none .leaf (.node none .leaf (.node none (.node none .leaf (.node none (.node (some ⟨[(4, 50), (16, 3)], [5, 17, 18, 19, 20, 21, 22, 23, 24]⟩) .leaf .leaf) .leaf)) .leaf)))) (postV Tryz.prog Tryz.f53 R) ⟨#[Value.agg #[x0_0, x0_1, x0_2]] ++ Array.replicate (Tryz.f53.ntmps - 1) undef, []⟩ H := by kernel_rfl
theorem F53_calls {R : Ending → Heap → Prop} {H : Heap} (x0_0 : Value) (x0_1 : Value) (x0_2 : Value) (h : F53 x0_0 x0_1 x0_2 R H) : HCalls Tryz.prog 53 #[Value.agg #[x0_0, x0_1, x0_2]] H R :=
  calls_by (F := F53 x0_0 x0_1 x0_2 R H) (.node none .leaf (.node none .leaf (.node none .leaf (.node none (.node none .leaf (.node none (.node (some ⟨[(4, 50), (16, 3)], [5, 17, 18, 19, 20, 21, 22, 23, 24]⟩) .leaf .leaf) .leaf)) .leaf)))) Tryz.func53 rfl (F53_eq x0_0 x0_1 x0_2 R H) h
end Go.Proofs.YtdlelcpkelginaaGreat.E
/- The functions' forms in the engine's words, printed by my own program. -/
namespace Go.Proofs.YtdlelcpkelginaaGreat.E
open Go Go.Proofs
set_option linter.unusedVariables false
set_option maxRecDepth 100000
/-- bollard/bollardref17.group -/
def F139 (x0_0 : Value) (x0_1 : Value) (x0_2 : Value) (x1 : Int) (R : Ending → Heap → Prop) (H : Heap) : Prop :=
  al H (Obj.cells #[x0_0, x0_1, x0_2] 23) (fun r1 H2 =>
  ld H2 (Addr.mk r1 0 none) (fun v3 =>
  ld H2 (Addr.mk r1 1 none) (fun v4 =>
  ld H2 (Addr.mk r1 2 none) (fun v5 =>
  HCalls Tryz.prog 89 #[Value.agg #[v3, v4, v5, Value.int IntKind.i64 0]] H2 (Sp.retK (fun v6 H7 =>
  dT 2 v6 (fun v8 v9 =>
  dSl v8 (fun p10 r11 r12 =>
  dInt IntKind.i64 v9 (fun n13 =>
  al H7 (Obj.cells #[Value.int IntKind.i64 0, Value.int IntKind.u8 0, Value.int IntKind.u8 0, Value.int IntKind.u8 0, Value.int IntKind.u8 0, Value.int IntKind.u8 0, Value.int IntKind.u8 0, Value.int IntKind.u8 0, Value.int IntKind.u8 0, Value.int IntKind.u8 0, Value.int IntKind.u8 0, Value.int IntKind.u8 0, Value.int IntKind.u8 0, Value.int IntKind.u8 0, Value.int IntKind.u8 0, Value.int IntKind.u8 0, Value.int IntKind.u8 0, Value.int IntKind.u8 0, Value.int IntKind.u8 0, Value.int IntKind.u8 0, Value.int IntKind.u8 0, Value.int IntKind.u8 0, Value.int IntKind.u8 0, Value.int IntKind.u8 0, Value.int IntKind.u8 0, Value.int IntKind.u8 0, Value.int IntKind.u8 0, Value.int IntKind.u8 0, Value.int IntKind.u8 0, Value.int IntKind.u8 0, Value.int IntKind.u8 0, Value.int IntKind.u8 0, Value.int IntKind.u8 0, Value.int IntKind.u8 0, Value.int IntKind.u8 0, Value.int IntKind.u8 0, Value.int IntKind.u8 0, Value.int IntKind.u8 0, Value.int IntKind.u8 0, Value.int IntKind.u8 0, Value.int IntKind.u8 0] 196) (fun r14 H15 =>
  st H15 (Addr.mk r14 0 none) (Value.int IntKind.i64 x1) (fun H16 =>
  st H16 (Addr.mk r14 1 none) (Value.int IntKind.u8 0) (fun H17 =>
  st H17 (Addr.mk r14 2 none) (Value.int IntKind.u8 0) (fun H18 =>
  st H18 (Addr.mk r14 3 none) (Value.int IntKind.u8 0) (fun H19 =>
  st H19 (Addr.mk r14 4 none) (Value.int IntKind.u8 0) (fun H20 =>
  st H20 (Addr.mk r14 5 none) (Value.int IntKind.u8 0) (fun H21 =>
  st H21 (Addr.mk r14 6 none) (Value.int IntKind.u8 0) (fun H22 =>
  st H22 (Addr.mk r14 7 none) (Value.int IntKind.u8 0) (fun H23 =>
  st H23 (Addr.mk r14 8 none) (Value.int IntKind.u8 0) (fun H24 =>
  st H24 (Addr.mk r14 9 none) (Value.int IntKind.u8 0) (fun H25 =>
  st H25 (Addr.mk r14 10 none) (Value.int IntKind.u8 0) (fun H26 =>
  st H26 (Addr.mk r14 11 none) (Value.int IntKind.u8 0) (fun H27 =>
  st H27 (Addr.mk r14 12 none) (Value.int IntKind.u8 0) (fun H28 =>
  st H28 (Addr.mk r14 13 none) (Value.int IntKind.u8 0) (fun H29 =>
  st H29 (Addr.mk r14 14 none) (Value.int IntKind.u8 0) (fun H30 =>
  st H30 (Addr.mk r14 15 none) (Value.int IntKind.u8 0) (fun H31 =>
  st H31 (Addr.mk r14 16 none) (Value.int IntKind.u8 0) (fun H32 =>
  st H32 (Addr.mk r14 17 none) (Value.int IntKind.u8 0) (fun H33 =>
  st H33 (Addr.mk r14 18 none) (Value.int IntKind.u8 0) (fun H34 =>
  st H34 (Addr.mk r14 19 none) (Value.int IntKind.u8 0) (fun H35 =>
  st H35 (Addr.mk r14 20 none) (Value.int IntKind.u8 0) (fun H36 =>
  st H36 (Addr.mk r14 21 none) (Value.int IntKind.u8 0) (fun H37 =>
  st H37 (Addr.mk r14 22 none) (Value.int IntKind.u8 0) (fun H38 =>
  st H38 (Addr.mk r14 23 none) (Value.int IntKind.u8 0) (fun H39 =>
  st H39 (Addr.mk r14 24 none) (Value.int IntKind.u8 0) (fun H40 =>
  st H40 (Addr.mk r14 25 none) (Value.int IntKind.u8 0) (fun H41 =>
  st H41 (Addr.mk r14 26 none) (Value.int IntKind.u8 0) (fun H42 =>
  st H42 (Addr.mk r14 27 none) (Value.int IntKind.u8 0) (fun H43 =>
  st H43 (Addr.mk r14 28 none) (Value.int IntKind.u8 0) (fun H44 =>
  st H44 (Addr.mk r14 29 none) (Value.int IntKind.u8 0) (fun H45 =>
  st H45 (Addr.mk r14 30 none) (Value.int IntKind.u8 0) (fun H46 =>
  st H46 (Addr.mk r14 31 none) (Value.int IntKind.u8 0) (fun H47 =>
  st H47 (Addr.mk r14 32 none) (Value.int IntKind.u8 0) (fun H48 =>
  st H48 (Addr.mk r14 33 none) (Value.int IntKind.u8 0) (fun H49 =>
  st H49 (Addr.mk r14 34 none) (Value.int IntKind.u8 0) (fun H50 =>
  st H50 (Addr.mk r14 35 none) (Value.int IntKind.u8 0) (fun H51 =>
  st H51 (Addr.mk r14 36 none) (Value.int IntKind.u8 0) (fun H52 =>
  st H52 (Addr.mk r14 37 none) (Value.int IntKind.u8 0) (fun H53 =>
  st H53 (Addr.mk r14 38 none) (Value.int IntKind.u8 0) (fun H54 =>
  st H54 (Addr.mk r14 39 none) (Value.int IntKind.u8 0) (fun H55 =>
  st H55 (Addr.mk r14 40 none) (Value.int IntKind.u8 0) (fun H56 =>
  ld H56 (Addr.mk r1 2 none) (fun v57 =>
  dInt IntKind.i64 v57 (fun n58 =>
  ask ((4 : Int) ≠ (0 : Int)) (wr IntKind.i64 (Int.tdiv n58 4) (fun n59 =>
  wr IntKind.i64 (2 + n59) (fun n60 =>
  ∃ I61 : List Value → Heap → Prop,
  ∃ I62 : List Value → Heap → Nat,
  (I61 ([Value.int IntKind.i64 0]) H56) ∧
  ∀ n63 : Int,
  ∀ v64 v65 v66 v67 v68 v69 v70 v71 v72 v73 v74 v75 v76 v77 v78 v79 v80 : Value,
  ∀ H81 : Heap,
  (I61 ([Value.int IntKind.i64 n63]) H81) →
  sB (decide (n63 < n60)) (ask ((0 : Int) ≤ (0 : Int) ∧ (0 : Int) ≤ (32 : Int) ∧ (32 : Int) ≤ (32 : Int) ∧ (32 : Int) ≤ (32 : Int)) (HCalls Tryz.prog 248 #[Value.slice (slO (some (Addr.mk r14 9 none)) 1 0 32) (Int.toNat 32 - Int.toNat 0) (Int.toNat 32 - Int.toNat 0), Value.int IntKind.i64 n63, Value.bool true] H81 (Sp.retK (fun v83 H84 =>
  dT 2 v83 (fun v85 v86 =>
  dSl v85 (fun p87 r88 r89 =>
  dInt IntKind.i64 v86 (fun n90 =>
  ask ((0 : Int) ≤ (0 : Int) ∧ (0 : Int) ≤ (32 : Int) ∧ (32 : Int) ≤ (32 : Int) ∧ (32 : Int) ≤ (32 : Int)) (semW Tryz.prog (Builtin.copy_ #[46, 46] 3 #[Value.slice (slO (some (Addr.mk r14 9 none)) 1 0 32) (Int.toNat 32 - Int.toNat 0) (Int.toNat 32 - Int.toNat 0), Value.slice p87 r88 r89]) (pnR R) H84 (fun v93 H94 =>
  dInt IntKind.i64 v93 (fun n95 =>
  wr IntKind.i64 (n63 + 1) (fun n96 =>
  (I61 ([Value.int IntKind.i64 n96]) H94) ∧
  (I62 [Value.int IntKind.i64 n96] H94) < (I62 [Value.int IntKind.i64 n63] H81))))))))) (pnR R)))) (jn (α := VFH 0) (fun H99 =>
  ∀ v100 v101 v102 v103 v104 v105 v106 v107 v108 v109 v110 v111 v112 v113 v114 v115 v116 v117 v118 v119 : Value,
  ld H99 (Addr.mk r14 0 none) (fun v120 =>
  ld H99 (Addr.mk r14 1 none) (fun v121 =>
  ld H99 (Addr.mk r14 2 none) (fun v122 =>
  ld H99 (Addr.mk r14 3 none) (fun v123 =>
  ld H99 (Addr.mk r14 4 none) (fun v124 =>
  ld H99 (Addr.mk r14 5 none) (fun v125 =>
  ld H99 (Addr.mk r14 6 none) (fun v126 =>
  ld H99 (Addr.mk r14 7 none) (fun v127 =>
  ld H99 (Addr.mk r14 8 none) (fun v128 =>
  ld H99 (Addr.mk r14 9 none) (fun v129 =>
  ld H99 (Addr.mk r14 10 none) (fun v130 =>
  ld H99 (Addr.mk r14 11 none) (fun v131 =>
  ld H99 (Addr.mk r14 12 none) (fun v132 =>
  ld H99 (Addr.mk r14 13 none) (fun v133 =>
  ld H99 (Addr.mk r14 14 none) (fun v134 =>
  ld H99 (Addr.mk r14 15 none) (fun v135 =>
  ld H99 (Addr.mk r14 16 none) (fun v136 =>
  ld H99 (Addr.mk r14 17 none) (fun v137 =>
  ld H99 (Addr.mk r14 18 none) (fun v138 =>
  ld H99 (Addr.mk r14 19 none) (fun v139 =>
  ld H99 (Addr.mk r14 20 none) (fun v140 =>
  ld H99 (Addr.mk r14 21 none) (fun v141 =>
  ld H99 (Addr.mk r14 22 none) (fun v142 =>
  ld H99 (Addr.mk r14 23 none) (fun v143 =>
  ld H99 (Addr.mk r14 24 none) (fun v144 =>
  ld H99 (Addr.mk r14 25 none) (fun v145 =>
  ld H99 (Addr.mk r14 26 none) (fun v146 =>
  ld H99 (Addr.mk r14 27 none) (fun v147 =>
  ld H99 (Addr.mk r14 28 none) (fun v148 =>
  ld H99 (Addr.mk r14 29 none) (fun v149 =>
  ld H99 (Addr.mk r14 30 none) (fun v150 =>
  ld H99 (Addr.mk r14 31 none) (fun v151 =>
  ld H99 (Addr.mk r14 32 none) (fun v152 =>
  ld H99 (Addr.mk r14 33 none) (fun v153 =>
  ld H99 (Addr.mk r14 34 none) (fun v154 =>
  ld H99 (Addr.mk r14 35 none) (fun v155 =>
  ld H99 (Addr.mk r14 36 none) (fun v156 =>
  ld H99 (Addr.mk r14 37 none) (fun v157 =>
  ld H99 (Addr.mk r14 38 none) (fun v158 =>
  ld H99 (Addr.mk r14 39 none) (fun v159 =>
  ld H99 (Addr.mk r14 40 none) (fun v160 =>
  HCalls Tryz.prog 249 #[Value.agg #[v120, v121, v122, v123, v124, v125, v126, v127, v128, v129, v130, v131, v132, v133, v134, v135, v136, v137, v138, v139, v140, v141, v142, v143, v144, v145, v146, v147, v148, v149, v150, v151, v152, v153, v154, v155, v156, v157, v158, v159, v160]] H99 (Sp.retK (fun v161 H162 =>
  dT 2 v161 (fun v163 v164 =>
  dSl v163 (fun p165 r166 r167 =>
  dInt IntKind.i64 v164 (fun n168 =>
  al H162 (Obj.cells #[Value.slice p10 r11 r12, Value.slice p165 r166 r167] 46) (fun r169 H170 =>
  ∃ I171 : List Value → Heap → Prop,
  ∃ I172 : List Value → Heap → Nat,
  (I171 ([Value.slice (some (Addr.mk r169 0 none)) 2 2]) H170) ∧
  ∀ p173 : Option Addr,
  ∀ r174 : Nat,
  ∀ r175 : Nat,
  ∀ v176 v177 v178 v179 v180 v181 v182 v183 v184 : Value,
  ∀ H185 : Heap,
  (I171 ([Value.slice p173 r174 r175]) H185) →
  ld H185 (Addr.mk r1 1 none) (fun v187 =>
  dInt IntKind.i64 v187 (fun n188 =>
  sB (decide ((↑r174 : Int) < n188)) (ask ((0 : Int) ≤ (128 : Int) ∧ (128 : Int) ≤ (128 : Int) ∧ (128 : Int) ≤ (281474976710656 : Int) ∧ (128 : Int) ≤ (9223372036854775807 : Int)) (al H185 (Obj.cells (List.toArray (rowZ [Value.int IntKind.u8 0] (Int.toNat 128))) 5) (fun r189 H190 =>
  al H190 (Obj.cells #[Value.slice (some (Addr.mk r189 0 none)) (Int.toNat 128) (Int.toNat 128)] 46) (fun r191 H192 =>
  semW Tryz.prog (Builtin.append_ #[50, 50] 50 #[Value.slice p173 r174 r175, Value.slice (some (Addr.mk r191 0 none)) 1 1]) (pnR R) H192 (fun v195 H196 =>
  dSl v195 (fun p197 r198 r199 =>
  (I171 ([Value.slice p197 r198 r199]) H196) ∧
  (I172 [Value.slice p197 r198 r199] H196) < (I172 [Value.slice p173 r174 r175] H185))))))) (R (Ending.returned (Value.slice p173 r174 r175)) H185)))))))) (pnR R)))))))))))))))))))))))))))))))))))))))))))) (fun k202 =>
  sB (x1 == 0) (ask ((0 : Int) ≤ (0 : Int) ∧ (0 : Int) ≤ (32 : Int) ∧ (32 : Int) ≤ (32 : Int) ∧ (32 : Int) ≤ (32 : Int)) (ld H81 (Addr.mk r1 2 none) (fun v203 =>
  dInt IntKind.i64 v203 (fun n204 =>
  ask ((4 : Int) ≠ (0 : Int)) (wr IntKind.i64 (Int.tdiv n204 4) (fun n205 =>
  wr IntKind.i64 (2 + n205) (fun n206 =>
  HCalls Tryz.prog 248 #[Value.slice (slO (some (Addr.mk r14 9 none)) 1 0 32) (Int.toNat 32 - Int.toNat 0) (Int.toNat 32 - Int.toNat 0), Value.int IntKind.i64 n206, Value.bool true] H81 (Sp.retK (fun v207 H208 =>
  dT 2 v207 (fun v209 v210 =>
  dSl v209 (fun p211 r212 r213 =>
  dInt IntKind.i64 v210 (fun n214 =>
  ask ((0 : Int) ≤ (0 : Int) ∧ (0 : Int) ≤ (32 : Int) ∧ (32 : Int) ≤ (32 : Int) ∧ (32 : Int) ≤ (32 : Int)) (semW Tryz.prog (Builtin.copy_ #[46, 46] 3 #[Value.slice (slO (some (Addr.mk r14 9 none)) 1 0 32) (Int.toNat 32 - Int.toNat 0) (Int.toNat 32 - Int.toNat 0), Value.slice p211 r212 r213]) (pnR R) H208 (fun v217 H218 =>
  dInt IntKind.i64 v217 (fun n219 =>
  ask ((0 : Int) ≤ (0 : Int) ∧ (0 : Int) < (8 : Int)) (st H218 (Addr.add (Addr.mk r14 1 none) (Int.toNat 0 * 1)) (Value.int IntKind.u8 7) (fun H220 =>
  k202 H220))))))))) nopR)))))))) (k202 H81)))))))))))))))))))))))))))))))))))))))))))))))))))))) (pnR R))))))
theorem F139_eq (x0_0 : Value) (x0_1 : Value) (x0_2 : Value) (x1 : Int) (R : Ending → Heap → Prop) (H : Heap) : F139 x0_0 x0_1 x0_2 x1 R H = vc Tryz.prog (codeOf Tryz.f139) (.node none .leaf (.node none .leaf (.node none .leaf (.node none (.node none .leaf (.node none (.node (some ⟨[(28, 3)], [8, 9, 10, 29, 30, 31, 32, 33, 34, 35, 36, 37, 38, 39, 40, 41, 42]⟩) .leaf .leaf) .leaf)) (.node (some ⟨[], [11, 12, 43, 44, 45, 46, 47, 48, 49, 50, 51, 52, 53, 54, 55, 56, 57, 58, 59, 60]⟩) .leaf (.node none .leaf (.node none .leaf (.node none (.node none (.node (some ⟨[(15, 50)], [69, 70, 71, 72, 73, 74, 75, 76, 77]⟩) .leaf .leaf) .leaf) .leaf)))))))) (postV Tryz.prog Tryz.f139 R) ⟨#[Value.agg #[x0_0, x0_1, x0_2], Value.int IntKind.i64 x1] ++ Array.replicate (Tryz.f139.ntmps - 2) undef, []⟩ H := by kernel_rfl
theorem F139_calls {R : Ending → Heap → Prop} {H : Heap} (x0_0 : Value) (x0_1 : Value) (x0_2 : Value) (x1 : Int) (h : F139 x0_0 x0_1 x0_2 x1 R H) : HCalls Tryz.prog 139 #[Value.agg #[x0_0, x0_1, x0_2], Value.int IntKind.i64 x1] H R :=
  calls_by (F := F139 x0_0 x0_1 x0_2 x1 R H) (.node none .leaf (.node none .leaf (.node none .leaf (.node none (.node none .leaf (.node none (.node (some ⟨[(28, 3)], [8, 9, 10, 29, 30, 31, 32, 33, 34, 35, 36, 37, 38, 39, 40, 41, 42]⟩) .leaf .leaf) .leaf)) (.node (some ⟨[], [11, 12, 43, 44, 45, 46, 47, 48, 49, 50, 51, 52, 53, 54, 55, 56, 57, 58, 59, 60]⟩) .leaf (.node none .leaf (.node none .leaf (.node none (.node none (.node (some ⟨[(15, 50)], [69, 70, 71, 72, 73, 74, 75, 76, 77]⟩) .leaf .leaf) .leaf) .leaf)))))))) Tryz.func139 rfl (F139_eq x0_0 x0_1 x0_2 x1 R H) h
end Go.Proofs.YtdlelcpkelginaaGreat.E
/- The functions' forms in the engine's words, printed by my own program. -/
namespace Go.Proofs.YtdlelcpkelginaaGreat.E
open Go Go.Proofs
set_option linter.unusedVariables false
set_option maxRecDepth 100000
/-- bollard/bollardref03.EncodeGroup -/
def F249 (x0_0 : Value) (x0_1 : Value) (x0_2 : Value) (x0_3 : Value) (x0_4 : Value) (x0_5 : Value) (x0_6 : Value) (x0_7 : Value) (x0_8 : Value) (x0_9 : Value) (x0_10 : Value) (x0_11 : Value) (x0_12 : Value) (x0_13 : Value) (x0_14 : Value) (x0_15 : Value) (x0_16 : Value) (x0_17 : Value) (x0_18 : Value) (x0_19 : Value) (x0_20 : Value) (x0_21 : Value) (x0_22 : Value) (x0_23 : Value) (x0_24 : Value) (x0_25 : Value) (x0_26 : Value) (x0_27 : Value) (x0_28 : Value) (x0_29 : Value) (x0_30 : Value) (x0_31 : Value) (x0_32 : Value) (x0_33 : Value) (x0_34 : Value) (x0_35 : Value) (x0_36 : Value) (x0_37 : Value) (x0_38 : Value) (x0_39 : Value) (x0_40 : Value) (R : Ending → Heap → Prop) (H : Heap) : Prop :=
  al H (Obj.cells #[x0_0, x0_1, x0_2, x0_3, x0_4, x0_5, x0_6, x0_7, x0_8, x0_9, x0_10, x0_11, x0_12, x0_13, x0_14, x0_15, x0_16, x0_17, x0_18, x0_19, x0_20, x0_21, x0_22, x0_23, x0_24, x0_25, x0_26, x0_27, x0_28, x0_29, x0_30, x0_31, x0_32, x0_33, x0_34, x0_35, x0_36, x0_37, x0_38, x0_39, x0_40] 196) (fun r1 H2 =>
  jn (α := VFH 1) (fun v3 H4 =>
  ∀ v5 v6 v7 v8 v9 v10 v11 : Value,
  dBl v3 (fun b12 =>
  sB b12 (R (Ending.returned (Value.tuple #[Value.slice none 0 0, Value.int IntKind.i64 1])) H4) (al H4 (Obj.cells #[Value.int IntKind.u8 104, Value.int IntKind.u8 100] 5) (fun r13 H14 =>
  semW Tryz.prog (convert 46 46 (Value.slice (some (Addr.mk r13 0 none)) 2 2)) (pnR R) H14 (fun v17 H18 =>
  dSl v17 (fun p19 r20 r21 =>
  ld H18 (Addr.mk r1 0 none) (fun v22 =>
  dInt IntKind.i64 v22 (fun n23 =>
  wr IntKind.u8 n23 (fun n24 =>
  al H18 (Obj.cells #[Value.int IntKind.u8 n24, Value.int IntKind.u8 0] 5) (fun r25 H26 =>
  semW Tryz.prog (Builtin.append_ #[46, 46] 46 #[Value.slice p19 r20 r21, Value.slice (some (Addr.mk r25 0 none)) 2 2]) (pnR R) H26 (fun v29 H30 =>
  dSl v29 (fun p31 r32 r33 =>
  ask ((0 : Int) ≤ (0 : Int) ∧ (0 : Int) ≤ (8 : Int) ∧ (8 : Int) ≤ (8 : Int) ∧ (8 : Int) ≤ (8 : Int)) (ask ((0 : Int) ≤ (0 : Int) ∧ (0 : Int) ≤ (32 : Int) ∧ (32 : Int) ≤ (32 : Int) ∧ (32 : Int) ≤ (32 : Int)) (semW Tryz.prog (Builtin.append_ #[46, 46] 46 #[Value.slice p31 r32 r33, Value.slice (slO (some (Addr.mk r1 1 none)) 1 0 8) (Int.toNat 8 - Int.toNat 0) (Int.toNat 8 - Int.toNat 0)]) nopR H30 (fun v36 H37 =>
  dSl v36 (fun p38 r39 r40 =>
  semW Tryz.prog (Builtin.append_ #[46, 46] 46 #[Value.slice p38 r39 r40, Value.slice (slO (some (Addr.mk r1 9 none)) 1 0 32) (Int.toNat 32 - Int.toNat 0) (Int.toNat 32 - Int.toNat 0)]) nopR H37 (fun v43 H44 =>
  dSl v43 (fun p45 r46 r47 =>
  semW Tryz.prog (Builtin.append_ #[46, 3] 46 #[Value.slice p45 r46 r47, Value.int IntKind.i64 84]) (pnR R) H44 (fun v50 H51 =>
  dSl v50 (fun p52 r53 r54 =>
  R (Ending.returned (Value.tuple #[Value.slice p52 r53 r54, Value.int IntKind.i64 0])) H51)))))))))))))))))))) (fun k55 =>
  ld H2 (Addr.mk r1 0 none) (fun v56 =>
  dInt IntKind.i64 v56 (fun n57 =>
  sB (decide (n57 < 0)) (k55 (Value.bool true) H2) (ld H2 (Addr.mk r1 0 none) (fun v58 =>
  dInt IntKind.i64 v58 (fun n59 =>
  k55 (Value.bool (decide (n59 > 7))) H2)))))))
theorem F249_eq (x0_0 : Value) (x0_1 : Value) (x0_2 : Value) (x0_3 : Value) (x0_4 : Value) (x0_5 : Value) (x0_6 : Value) (x0_7 : Value) (x0_8 : Value) (x0_9 : Value) (x0_10 : Value) (x0_11 : Value) (x0_12 : Value) (x0_13 : Value) (x0_14 : Value) (x0_15 : Value) (x0_16 : Value) (x0_17 : Value) (x0_18 : Value) (x0_19 : Value) (x0_20 : Value) (x0_21 : Value) (x0_22 : Value) (x0_23 : Value) (x0_24 : Value) (x0_25 : Value) (x0_26 : Value) (x0_27 : Value) (x0_28 : Value) (x0_29 : Value) (x0_30 : Value) (x0_31 : Value) (x0_32 : Value) (x0_33 : Value) (x0_34 : Value) (x0_35 : Value) (x0_36 : Value) (x0_37 : Value) (x0_38 : Value) (x0_39 : Value) (x0_40 : Value) (R : Ending → Heap → Prop) (H : Heap) : F249 x0_0 x0_1 x0_2 x0_3 x0_4 x0_5 x0_6 x0_7 x0_8 x0_9 x0_10 x0_11 x0_12 x0_13 x0_14 x0_15 x0_16 x0_17 x0_18 x0_19 x0_20 x0_21 x0_22 x0_23 x0_24 x0_25 x0_26 x0_27 x0_28 x0_29 x0_30 x0_31 x0_32 x0_33 x0_34 x0_35 x0_36 x0_37 x0_38 x0_39 x0_40 R H = vc Tryz.prog (codeOf Tryz.f249) (.node none .leaf (.node none (.node (some ⟨[(12, 4)], [5, 6, 7, 8, 9, 10, 11]⟩) .leaf .leaf) .leaf)) (postV Tryz.prog Tryz.f249 R) ⟨#[Value.agg #[x0_0, x0_1, x0_2, x0_3, x0_4, x0_5, x0_6, x0_7, x0_8, x0_9, x0_10, x0_11, x0_12, x0_13, x0_14, x0_15, x0_16, x0_17, x0_18, x0_19, x0_20, x0_21, x0_22, x0_23, x0_24, x0_25, x0_26, x0_27, x0_28, x0_29, x0_30, x0_31, x0_32, x0_33, x0_34, x0_35, x0_36, x0_37, x0_38, x0_39, x0_40]] ++ Array.replicate (Tryz.f249.ntmps - 1) undef, []⟩ H := by kernel_rfl
theorem F249_calls {R : Ending → Heap → Prop} {H : Heap} (x0_0 : Value) (x0_1 : Value) (x0_2 : Value) (x0_3 : Value) (x0_4 : Value) (x0_5 : Value) (x0_6 : Value) (x0_7 : Value) (x0_8 : Value) (x0_9 : Value) (x0_10 : Value) (x0_11 : Value) (x0_12 : Value) (x0_13 : Value) (x0_14 : Value) (x0_15 : Value) (x0_16 : Value) (x0_17 : Value) (x0_18 : Value) (x0_19 : Value) (x0_20 : Value) (x0_21 : Value) (x0_22 : Value) (x0_23 : Value) (x0_24 : Value) (x0_25 : Value) (x0_26 : Value) (x0_27 : Value) (x0_28 : Value) (x0_29 : Value) (x0_30 : Value) (x0_31 : Value) (x0_32 : Value) (x0_33 : Value) (x0_34 : Value) (x0_35 : Value) (x0_36 : Value) (x0_37 : Value) (x0_38 : Value) (x0_39 : Value) (x0_40 : Value) (h : F249 x0_0 x0_1 x0_2 x0_3 x0_4 x0_5 x0_6 x0_7 x0_8 x0_9 x0_10 x0_11 x0_12 x0_13 x0_14 x0_15 x0_16 x0_17 x0_18 x0_19 x0_20 x0_21 x0_22 x0_23 x0_24 x0_25 x0_26 x0_27 x0_28 x0_29 x0_30 x0_31 x0_32 x0_33 x0_34 x0_35 x0_36 x0_37 x0_38 x0_39 x0_40 R H) : HCalls Tryz.prog 249 #[Value.agg #[x0_0, x0_1, x0_2, x0_3, x0_4, x0_5, x0_6, x0_7, x0_8, x0_9, x0_10, x0_11, x0_12, x0_13, x0_14, x0_15, x0_16, x0_17, x0_18, x0_19, x0_20, x0_21, x0_22, x0_23, x0_24, x0_25, x0_26, x0_27, x0_28, x0_29, x0_30, x0_31, x0_32, x0_33, x0_34, x0_35, x0_36, x0_37, x0_38, x0_39, x0_40]] H R :=
  calls_by (F := F249 x0_0 x0_1 x0_2 x0_3 x0_4 x0_5 x0_6 x0_7 x0_8 x0_9 x0_10 x0_11 x0_12 x0_13 x0_14 x0_15 x0_16 x0_17 x0_18 x0_19 x0_20 x0_21 x0_22 x0_23 x0_24 x0_25 x0_26 x0_27 x0_28 x0_29 x0_30 x0_31 x0_32 x0_33 x0_34 x0_35 x0_36 x0_37 x0_38 x0_39 x0_40 R H) (.node none .leaf (.node none (.node (some ⟨[(12, 4)], [5, 6, 7, 8, 9, 10, 11]⟩) .leaf .leaf) .leaf)) Tryz.func249 rfl (F249_eq x0_0 x0_1 x0_2 x0_3 x0_4 x0_5 x0_6 x0_7 x0_8 x0_9 x0_10 x0_11 x0_12 x0_13 x0_14 x0_15 x0_16 x0_17 x0_18 x0_19 x0_20 x0_21 x0_22 x0_23 x0_24 x0_25 x0_26 x0_27 x0_28 x0_29 x0_30 x0_31 x0_32 x0_33 x0_34 x0_35 x0_36 x0_37 x0_38 x0_39 x0_40 R H) h
end Go.Proofs.YtdlelcpkelginaaGreat.E
