/- Contracts of functions. -/
import Derived.Test.YtmgjdmohmhaemaaProg
import Derived.KernelRfl
import Derived.Test.YtmgjdmohmhaemaaLib2
import Derived.Test.YtmgjdmohmhaemaaDr
import Derived.Test.YtmgjdmohmhaemaaFm0
import Derived.Test.YtmgjdmohmhaemaaFm1
import Derived.Test.YtmgjdmohmhaemaaFm2
import Derived.Test.YtmgjdmohmhaemaaFm3
import Derived.Test.YtmgjdmohmhaemaaFm4
import Derived.Test.YtmgjdmohmhaemaaOpen1
import Derived.Test.YtmgjdmohmhaemaaLib8
namespace Go.Proofs.Ytmgjdmohmhaemaa.E
open Go Go.Proofs
set_option linter.unusedVariables false

/-- a call of a cache, as a law has it in its argument -/
structure DoM where
  op : Int
  b : Int
  n : Int
  sa : Option Addr
  sn : Nat
  sc : Nat
def dov (x : DoM) : List Value := [.int .i64 x.op, .int .i64 x.b, .int .i64 x.n, .slice x.sa x.sn x.sc]
theorem dov_len (x : DoM) : (dov x).length = 4 := rfl
set_option maxRecDepth 100000 in
theorem rd_do {H : Type} {enc : TypeId × Value → H} {W : World} {row : List Value} (h : Rd enc Try.prog W 61 row) : ∃ x : DoM, row = dov x := by
  obtain ⟨hl, hf⟩ := rd_struct Try.underlying61 h
  have hc : Try.prog.cellsOf 61 = 4 := by kernel_rfl
  have c3 : Try.prog.cellsOf 3 = 1 := by kernel_rfl
  have cb : Try.prog.cellsOf 48 = 1 := by kernel_rfl
  rw [hc] at hl
  match row, hl with
  | [v0, v1, v2, v3], _ =>
    have h0 : Rd enc Try.prog W 3 (([v0, v1, v2, v3].drop 0).take (Try.prog.cellsOf 3)) := hf 0 _ rfl
    have h1 : Rd enc Try.prog W 3 (([v0, v1, v2, v3].drop 1).take (Try.prog.cellsOf 3)) := hf 1 _ rfl
    have h2 : Rd enc Try.prog W 3 (([v0, v1, v2, v3].drop 2).take (Try.prog.cellsOf 3)) := hf 2 _ rfl
    have h3 : Rd enc Try.prog W 48 (([v0, v1, v2, v3].drop 3).take (Try.prog.cellsOf 48)) := hf 3 _ rfl
    rw [c3] at h0 h1 h2
    rw [cb] at h3
    obtain ⟨a, ha, _⟩ := rd_int Try.underlying3 h0
    obtain ⟨b, hb, _⟩ := rd_int Try.underlying3 h1
    obtain ⟨n, hn, _⟩ := rd_int Try.underlying3 h2
    obtain ⟨sa, sn, sc, _, hs, _⟩ := rd_sl Try.underlying48 h3
    simp at ha hb hn hs
    subst ha hb hn hs
    exact ⟨⟨a, b, n, sa, sn, sc⟩, rfl⟩
theorem rd_dos {H : Type} {enc : TypeId × Value → H} {W : World} : ∀ {rows : List (List Value)}, (∀ r ∈ rows, r.length = Try.prog.cellsOf 61 ∧ Rd enc Try.prog W 61 r) → ∃ ls : List DoM, ls.length = rows.length ∧ rows.flatten = ls.flatMap dov
  | [], _ => ⟨[], rfl, rfl⟩
  | r :: rows, h => by
    obtain ⟨ls, h1, h2⟩ := rd_dos (rows := rows) fun r' h' => h r' (List.mem_cons_of_mem _ h')
    obtain ⟨x, rfl⟩ := rd_do (h r (by simp)).2
    exact ⟨x :: ls, by simp [h1], by simp [h2]⟩
theorem dcell0 {ls : List DoM} {k : Nat} {x : DoM} (h : ls[k]? = some x) : (ls.flatMap dov)[k * 4]? = some (.int .i64 x.op) := fm_get dov_len ls k 0 x h (by omega)
theorem dcell1 {ls : List DoM} {k : Nat} {x : DoM} (h : ls[k]? = some x) : (ls.flatMap dov)[k * 4 + 1]? = some (.int .i64 x.b) := fm_get dov_len ls k 1 x h (by omega)
theorem dcell2 {ls : List DoM} {k : Nat} {x : DoM} (h : ls[k]? = some x) : (ls.flatMap dov)[k * 4 + 2]? = some (.int .i64 x.n) := fm_get dov_len ls k 2 x h (by omega)
theorem dcell3 {ls : List DoM} {k : Nat} {x : DoM} (h : ls[k]? = some x) : (ls.flatMap dov)[k * 4 + 3]? = some (.slice x.sa x.sn x.sc) := fm_get dov_len ls k 3 x h (by omega)

/-- bytes.Equal -/
theorem c_beq {xa : Option Addr} {xn : Nat} (xc : Nat) {l : List UInt8} {τx : Nat} {ya : Option Addr} {yn : Nat} (yc : Nat) {m : List UInt8} {τy : Nat} {s : TH} (hx : Sl s xa (bvs l) τx) (hn : l.length = xn) (h0 : xa = none → xn = 0) (hy : Sl s ya (bvs m) τy) (hm : m.length = yn) (g0 : ya = none → yn = 0) : TRet Try.prog 34 #[.slice xa xn xc, .slice ya yn yc] s fun v s' => v = .bool (decide (l = m)) ∧ Ch [] s s' := by
  refine F34_calls _ _ _ _ _ _  ?_
  unfold F34
  refine conv_bs u48 u5 (by kernel_rfl) hx hn h0 ?_
  refine dStr_i ?_
  refine conv_bs u48 u5 (by kernel_rfl) hy hm g0 ?_
  refine dStr_i ?_
  refine ret_t ?_
  exact ⟨ret_b (by simp only [ByteArray.toList_mk]; by_cases h : l = m <;> simp [h]), (Ch.refl [] s)⟩

end Go.Proofs.Ytmgjdmohmhaemaa.E
