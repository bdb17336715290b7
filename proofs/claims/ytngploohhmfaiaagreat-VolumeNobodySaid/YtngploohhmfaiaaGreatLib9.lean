/- sync.Mutex, entered alone, on marked states; the door of a function with one call put off. -/
import Derived.Test.YtngploohhmfaiaaGreatLib8
import Derived.Test.YtngploohhmfaiaaGreatEng11
import Derived.Conc.MuLone
namespace Go.Proofs.YtngploohhmfaiaaGreat.E
open Go Go.Conc.Locks
set_option linter.unusedVariables false

theorem setcell_on {s : TH} {r : Nat} {l : List Value} {t τ i : Nat} {v : Value} (h : Blk s r l t τ) {w : World} (hw : w.heap = s.h) :
    (⟨setH s.h ⟨r, i, none⟩ v, s.g⟩ : TH).h = (w.setCell ⟨r, i, none⟩ v).heap := by rw [set_eq, hw]
theorem on_ch {s s' : TH} {r : Nat} {l : List Value} {t τ : Nat} (h : Blk s r l t τ) (c : On r s s') : Ch [τ] s s' := Chg.mono c fun j _ e => by subst e; rw [h.tag]; simp
theorem like_set (w : World) (a : Addr) (v : Value) : Like w (w.setCell a v) := ⟨rfl, rfl, rfl⟩

theorem c_mlock {P : Program} {L : MuLink} (M : MuLib P L) {s : TH} {r i : Nat} {l : List Value} {t τ : Nat} (h : Blk s r l t τ) (hi : l[i]? = some (.int .i32 0)) :
    TRet P L.lock #[.pointer (some ⟨r, i, none⟩)] s fun v s' => v = .tuple #[] ∧ Ch [τ] s s' ∧ Blk s' r (l.set i (.int .i32 1)) t τ := by
  intro w hw
  refine (Go.MuLone.lock_free M ⟨r, i, none⟩ w ?_ ?_).mono ?_
  · rw [cell_eq, hw, h.cell]; exact hi
  · rw [frozen_eq, hw]; exact h.frozen i
  rintro e w' ⟨rfl, rfl⟩
  have := set_on (i := i) (v := .int .i32 1) h
  exact ⟨⟨_, _, rfl, setcell_on h hw, rfl, on_ch h this.2, this.1⟩, like_set w _ _⟩
theorem c_munlock {P : Program} {L : MuLink} (M : MuLib P L) {s : TH} {r i : Nat} {l : List Value} {t τ : Nat} (h : Blk s r l t τ) (hi : l[i]? = some (.int .i32 1)) :
    TRet P L.unlock #[.pointer (some ⟨r, i, none⟩)] s fun v s' => v = .tuple #[] ∧ Ch [τ] s s' ∧ Blk s' r (l.set i (.int .i32 0)) t τ := by
  intro w hw
  refine (Go.MuLone.unlock_held M ⟨r, i, none⟩ w ?_ ?_).mono ?_
  · rw [cell_eq, hw, h.cell]; exact hi
  · rw [frozen_eq, hw]; exact h.frozen i
  rintro e w' ⟨rfl, rfl⟩
  have := set_on (i := i) (v := .int .i32 0) h
  exact ⟨⟨_, _, rfl, setcell_on h hw, rfl, on_ch h this.2, this.1⟩, like_set w _ _⟩
/-- the Unlock put off, and the function's end behind it -/
theorem c_door {P : Program} {L : MuLink} (M : MuLib P L) {s : TH} {r i : Nat} {l : List Value} {t τ : Nat} (h : Blk s r l t τ) (hi : l[i]? = some (.int .i32 1))
    {fn : Func} {tmps : Array Value} {R : Ending → Heap → Prop} {v : Value} {K2 : List PanicEntry → FrameMode → Heap → Prop} (he : ∀ H, resK P fn tmps R H = R (.returned v) H)
    (hk : ∀ s' : TH, Blk s' r (l.set i (.int .i32 0)) t τ → On r s s' → s.h.size = s'.h.size → R (.returned v) s'.h) :
    HCallsD P L.unlock #[.pointer (some ⟨r, i, none⟩)] .returning s.h (fun e u H' => match e with
      | .returned _ => leavesV P fn tmps R [] (settle u) H'
      | .panicked c => K2 c u H'
      | .outgrown => False) := by
  intro w hw
  refine (Go.MuLone.unlock_deferred M ⟨r, i, none⟩ .returning w ?_ ?_).mono ?_
  · rw [cell_eq, hw, h.cell]; exact hi
  · rw [frozen_eq, hw]; exact h.frozen i
  rintro e u w' ⟨rfl, rfl, rfl⟩
  have := set_on (i := i) (v := .int .i32 0) h
  refine ⟨?_, like_set w _ _⟩
  show resK P fn tmps R _
  rw [he, ← setcell_on h hw]
  exact hk _ this.1 this.2 (by simp [setH])
end Go.Proofs.YtngploohhmfaiaaGreat.E
