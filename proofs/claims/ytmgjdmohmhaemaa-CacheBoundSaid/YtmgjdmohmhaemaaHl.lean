/- Contracts of functions. -/
import Derived.Test.YtmgjdmohmhaemaaProg
import Derived.KernelRfl
import Derived.Test.YtmgjdmohmhaemaaLib2
import Derived.Shelf.SlIterI.Nil
import Derived.Maps.Own
import Derived.WalkKit
import Derived.Test.YtmgjdmohmhaemaaLy
import Derived.Test.YtmgjdmohmhaemaaLib7
namespace Go.Proofs.Ytmgjdmohmhaemaa.E
open Go Go.Proofs Go.RowKit Go.Maps Go.Shelf Go.Sort
set_option linter.unusedVariables false

/-- a contract of the kit's, of a call that turns nothing old, in states with marks: all that is new has one mark -/
theorem tret_new (τ : Nat) {P : Program} {f : FuncId} {args : Array Value} {s : TH} {Q : Value → TH → Prop}
    (h : ∀ w : World, w.heap = s.h → Calls P f args w fun e w' => ∃ v, e = .returned v ∧ Go.RowKit.Below w.heap.size w w' ∧ Q v ⟨w'.heap, fun j => if j < s.h.size then s.g j else τ⟩) :
    TRet P f args s fun v s' => Q v s' ∧ Ch [] s s' := fun w hw =>
  (h w hw).mono fun e w' ⟨v, he, hb, hq⟩ => ⟨⟨v, ⟨w'.heap, fun j => if j < s.h.size then s.g j else τ⟩, he, rfl, hq, ⟨by rw [← hw]; exact hb.size, fun j hj => by simp [hj], fun j hj _ => by rw [← hw]; exact hb.block j (by rw [hw]; exact hj)⟩⟩, ⟨hb.os, hb.tape, hb.output⟩⟩
theorem own_of_row {w' : World} {B e k n : Nat} {v : Value} {xs : List Value} {τ : Nat} {g : Nat → Nat} (h : w'.ownsRow B e k v n xs) (hg : ∀ j, B ≤ j → g j = τ) : ∃ a c, v = .slice a n c ∧ Own ⟨w'.heap, g⟩ a n c e k xs τ ∧ ∀ b, a = some b → B ≤ b.block := by
  rcases h.2 with ⟨rfl, rfl⟩ | ⟨b, cap, cur, rfl, hb, hc, h1, h2, h3, h4⟩
  · exact ⟨none, 0, rfl, ⟨h.1, .inl ⟨rfl, rfl, rfl⟩⟩, fun b hb => by cases hb⟩
  · exact ⟨_, cap, rfl, ⟨h.1, .inr ⟨b, 0, cur.toList, rfl, ⟨by simpa using hc, hg b hb⟩, h1, h2, by simp [h3], by simpa using h4⟩⟩, fun b hb => by cases hb; assumption⟩
def inI64 (x : Int) : Prop := -9223372036854775808 ≤ x ∧ x ≤ 9223372036854775807
theorem wf_i64 {x : Int} (h : inI64 x) : (Lit.int .i64 x).wf = true := by
  unfold inI64 at h
  have e1 : IntKind.i64.min = -9223372036854775808 := by decide
  have e2 : IntKind.i64.max = 9223372036854775807 := by decide
  simp only [Lit.wf, e1, e2, Bool.and_eq_true, decide_eq_true_eq]
  exact h
/-- a map of numbers in the kit's words: what its values are is left open -/
theorem owns_of {P : Program} {K : TypeId} (hK : P.underlying K = some (.int .i64)) {s : TH} {r τ : Nat} {m : List (Int × Value)} (h : MapK (Value.int .i64) s r m τ) (w : World) (hw : w.heap = s.h) (hn : m.length ≤ 1000000) (hk : ∀ k ∈ m.map (·.1), inI64 k) :
    ∃ D0 : DataW Unit, w.ownsMap P K (fun _ => some (.nil, [])) r m.length D0 ∧ (intKeys D0).Perm (m.map (·.1)) ∧ Go.Maps.size D0 = m.length := by
  obtain ⟨es, ck, hg, he⟩ := h.get
  have hlen : es.length = m.length := by have := congrArg List.length he.key; simpa using this
  have hread : ∀ x ∈ es, ∃ k, x.key = .int .i64 k ∧ inI64 k := fun x hx => by
    have : x.key ∈ es.map (·.key) := List.mem_map.2 ⟨x, hx, rfl⟩
    rw [he.key] at this
    obtain ⟨p, hp, hpx⟩ := List.mem_map.1 this
    exact ⟨p.1, hpx.symm, hk _ (List.mem_map.2 ⟨p, hp, rfl⟩)⟩
  have hrd : ∀ (x : MapEntry) (k : Int), x.key = .int .i64 k → inI64 k → Go.WideElems.rd (H := Unit) P K (fun _ => some (.nil, [])) x = some (.int .i64 k, .nil) := fun x k hx hk => by
    obtain ⟨xk, xv, xb⟩ := x
    cases hx
    exact Go.WideElems.rd_mk (R := fun _ => some (.nil, [])) (yv := (.nil, [])) (keyOf_int_mk hK (wf_i64 hk)) rfl
  have hnd : (es.map (·.key)).Nodup := by
    rw [he.key]
    exact List.pairwise_map.2 ((List.pairwise_map.1 h.nd).imp fun {a b} hab => by simpa using hab)
  refine ⟨.map ((es.map (Go.WideElems.rg P K (fun _ => some (.nil, [])))).foldr DataW.insert []), ⟨es.toArray, ck, by rw [hw]; exact hg, ⟨by unfold maxLen; simp; omega, ⟨by simpa using he.old, by simpa using he.born, by simpa using hnd⟩, ?_⟩, by simp; omega, by simp⟩, ?_, ?_⟩
  · intro x hx
    obtain ⟨k, h1, h2⟩ := hread x (by simpa using hx)
    exact ⟨_, hrd x k h1 h2⟩
  · have hp := Go.WideShapes.sorted_perm (es.map (Go.WideElems.rg (H := Unit) P K (fun _ => some (.nil, []))))
    have hq := hp.map (fun p => Go.intOf p.1)
    refine hq.trans (List.Perm.of_eq ?_)
    rw [List.map_map]
    have e1 : es.map ((fun p : Lit × DataW Unit => Go.intOf p.1) ∘ Go.WideElems.rg P K (fun _ => some (.nil, []))) = es.map (fun x => match x.key with | .int _ k => k | _ => 0) := by
      apply List.map_congr_left
      intro x hx
      obtain ⟨k, h1, h2⟩ := hread x hx
      simp only [Function.comp, Go.WideElems.rg_of (hrd x k h1 h2), h1]
      rfl
    rw [e1]
    have e2 : es.map (fun x => match x.key with | .int _ k => k | _ => 0) = (es.map (·.key)).map (fun v => match v with | .int _ k => k | _ => 0) := by rw [List.map_map]; rfl
    rw [e2, he.key, List.map_map]
    rfl
  · show (List.foldr DataW.insert [] _).length = _
    rw [(Go.WideShapes.sorted_perm _).length_eq, List.length_map, hlen]
/-- slices.Collect over maps.Keys of a map of numbers -/
theorem c_collect (τ : Nat) (Bm r tb τb τm : Nat) {m : List (Int × Value)} {s : TH} (hB : Blk s Bm [.map (some r)] tb τb) (hm : MapK (Value.int .i64) s r m τm) (hn : m.length ≤ 1000000) (hk : ∀ k ∈ m.map (·.1), inI64 k) :
    TRet Try.prog 103 #[.func (.func 105) #[] #[.pointer (some ⟨Bm, 0, none⟩)]] s fun v s' => (∃ a c ss, v = .slice a m.length c ∧ ss.Perm (m.map (·.1)) ∧ Own s' a m.length c 3 1 (ivs ss) τ ∧ ∀ b, a = some b → s.h.size ≤ b.block) ∧ Ch [] s s' :=
  tret_new τ fun w hw => by
    have hm0 : w.cell? ⟨Bm, 0, none⟩ = some (.map (some r)) := by rw [cell_eq, hw]; exact hB.cell 0
    obtain ⟨D0, ho, hp, hsz⟩ := owns_of (P := Try.prog) (K := 3) (by kernel_rfl) hm w hw hn hk
    have hseq : SeqGives Fence.wide 4 Try.prog 105 #[.pointer (some ⟨Bm, 0, none⟩)] encZ (fun ss : List Int => ss.Perm (intKeys D0)) (Go.Maps.size D0) w :=
      AnyZI.keys_gives (ρ := Try.keysA_ren) { Try.keysA with } Fence.wide 4 trivial rfl (by omega) Bm r m.length D0 w (by rw [hw]; exact hB.lt) hm0 ho
    have h := AnyZI.collect_in (ρ := Try.collectA_ren) Try.collectA Fence.wide 6 trivial trivial rfl (by omega) 105 #[.pointer (some ⟨Bm, 0, none⟩)] trivial (enters_of Try.func105 (by kernel_rfl) rfl) _ (Go.Maps.size D0) (by rw [hsz]; unfold maxLen; omega) (by rw [hsz]; omega) w hseq
    refine ((callsIn_wide (n := 6)).1 h).mono ?_
    rintro e w' ⟨v, ss, rfl, hs, hrow, hv, hb⟩
    have hp2 := hs.trans hp
    have hl : ss.length = m.length := by rw [hp2.length_eq]; simp
    obtain ⟨a, c, rfl, hO, hnew⟩ := own_of_row (g := fun j => if j < s.h.size then s.g j else τ) (τ := τ) hrow (fun j hj => by rw [if_neg (by rw [← hw]; omega)])
    rw [hl] at hO ⊢
    exact ⟨_, rfl, hb, a, c, ss, rfl, hp2, hO, by rw [← hw]; exact hnew⟩
/-- .. of a nil map -/
theorem c_collect0 (Bm tb τb : Nat) {s : TH} (hB : Blk s Bm [.map none] tb τb) :
    TRet Try.prog 103 #[.func (.func 105) #[] #[.pointer (some ⟨Bm, 0, none⟩)]] s fun v s' => v = .slice none 0 0 ∧ Ch [] s s' :=
  tret_new 0 fun w hw => by
    have hm0 : w.cell? ⟨Bm, 0, none⟩ = some (.map none) := by rw [cell_eq, hw]; exact hB.cell 0
    have hseq : SeqGives Fence.wide 4 Try.prog 105 #[.pointer (some ⟨Bm, 0, none⟩)] encZ (fun ss : List Int => ss = []) 0 w := AnyZI.keys_gives_nil (ρ := Try.keysA_ren) { Try.keysA with } Fence.wide 4 trivial rfl Bm w (by rw [hw]; exact hB.lt) hm0
    have h := AnyZI.collect_in (ρ := Try.collectA_ren) Try.collectA Fence.wide 6 trivial trivial rfl (by omega) 105 #[.pointer (some ⟨Bm, 0, none⟩)] trivial (enters_of Try.func105 (by kernel_rfl) rfl) _ 0 (by omega) (by omega) w hseq
    refine ((callsIn_wide (n := 6)).1 h).mono ?_
    rintro e w' ⟨v, ss, rfl, hs, _, hv, hb⟩
    exact ⟨v, rfl, hb, hv.2 hs⟩

end Go.Proofs.Ytmgjdmohmhaemaa.E
