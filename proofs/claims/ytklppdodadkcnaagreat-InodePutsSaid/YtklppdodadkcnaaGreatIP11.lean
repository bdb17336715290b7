/- My own texts, joined. -/
import Derived.KernelRfl
import Derived.Test.YtklppdodadkcnaaGreatProg
import Derived.Test.YtklppdodadkcnaaGreatIP10
/- Contracts of functions. -/
namespace Go.Proofs.YtklppdodadkcnaaGreat.E
open Go Go.Proofs Go.RowKit Go.Maps Go.Shelf Go.Sort
set_option linter.unusedVariables false
set_option linter.unusedSimpArgs false
theorem BRel.l128 {s : TH} {τ : Nat} {hs : List Hd} {bs : List (List UInt8)} (h : BRel s τ hs bs) : ∀ y ∈ bs, y.length = 128 := by
  intro y hy
  obtain ⟨i, hi⟩ := List.getElem?_of_mem hy
  have hl : i < bs.length := (List.getElem?_eq_some_iff.1 hi).1
  exact (h.at_ i (hs[i]'(by rw [h.len]; exact hl)) y (by simp) hi).len
theorem now_nx {V V' : VolM} {b o : Int} {y : List UInt8} {needs : List Int} (pok : POk V.P) (pok2 : POk V'.P) (hD : V'.D = V.D) (e : V'.P.l = V.P.l ++ [V.P.newP b o y needs]) {c : Int} (hc : c ≠ b) : V'.now c = V.now c := by
  unfold VolM.now
  rw [over_of pok2, over_of pok, e, add_of_ne hc]
  unfold VolM.blk; rw [hD]
/-- what a change that was taken leaves -/
structure ChT (V : VolM) (b o : Int) (y : List UInt8) (V' : VolM) : Prop where
  now : V'.now b = overlay (V.now b) o.toNat y
  ne : ∀ c, c ≠ b → V'.now c = V.now c
  D : V'.D = V.D
  old : V'.old = V.keep b
  last : V'.P.last = V.P.last + 1
  n : V'.n = V.ticks b
  way : V'.way = V.way
  done : V'.P.done = V.P.done
  l : ∃ p : PatM, V'.P.l = V.P.l ++ [p] ∧ p.id = V.P.last + 1
theorem change_t {V : VolM} {b o : Int} {y : List UInt8} {needs : List Int} (pok : POk V.P) (hb : V.D.has b) (h1 : fitsP b o y.length) (h2 : ∀ n ∈ needs, 1 ≤ n ∧ n ≤ V.P.last) (hl : V.P.last < 1000000) :
    (V.change b o y needs).2.1 = V.P.last + 1 ∧ (V.change b o y needs).2.2 = 0 ∧ ChT V b o y (V.change b o y needs).1 := by
  have hc := change_ok (V := V) hb h1 h2
  have e := add_ok (P := V.P) h1 h2
  have pok2 : POk (V.P.add b o y needs).1 := by rw [e]; exact pok.add h1 hl
  have hV : (V.change b o y needs).1 = { V with n := V.ticks b, P := (V.P.add b o y needs).1, old := V.keep b } := by
    unfold VolM.change
    rw [if_neg (by simpa using hb), if_neg (by rw [e]; simp)]
  refine ⟨hc.1, hc.2.1, ?_⟩
  rw [hV]
  refine ⟨?_, fun c hcb => ?_, rfl, rfl, by show (V.P.add b o y needs).1.last = _; rw [e], rfl, rfl, by show (V.P.add b o y needs).1.done = _; rw [e], ⟨V.P.newP b o y needs, by show (V.P.add b o y needs).1.l = _; rw [e], rfl⟩⟩
  · show (V.P.add b o y needs).1.over (V.blk b) ((V.P.add b o y needs).1.of b) = _
    rw [over_of pok2]
    have el : (V.P.add b o y needs).1.l = V.P.l ++ [V.P.newP b o y needs] := by rw [e]
    rw [el, add_of, ovL_snoc]
    unfold VolM.now
    rw [over_of pok]
    rfl
  · exact now_nx (V := V) (V' := { V with n := V.ticks b, P := (V.P.add b o y needs).1, old := V.keep b }) (b := b) (o := o) (y := y) (needs := needs) pok pok2 rfl (by show (V.P.add b o y needs).1.l = _; rw [e]) hcb
theorem VolL.pokk {s : TH} {v d U : Nat} {V : VolM} {lk : Int} (h : VolL s v d U V lk) : POk V.P := by obtain ⟨⟨c, p, rw_, rk, mw, mk, h⟩, ok⟩ := h; exact h.ps.ok
theorem sl_nil (s : TH) (τ : Nat) : Sl s none (ivs []) τ := .inl rfl
theorem GeoOk.can {G B N : Nat} (h : GeoOk G B N) : canG (G : Int) (B : Int) (N : Int) := by unfold GeoOk at h; unfold canG; omega
theorem GeoOk.gb {G B N : Nat} (h : GeoOk G B N) : 8 ≤ G * B ∧ G * B ≤ 2048 := by
  unfold GeoOk at h
  have h1 : 1 * 8 ≤ G * B := Nat.mul_le_mul (by omega) (by omega)
  have h2 : G * B ≤ 8 * 256 := Nat.mul_le_mul (by omega) (by omega)
  omega
theorem fresh_len {G B N : Nat} (h : GeoOk G B N) : (VolM.fresh (makeL G B N)).D.blocks.length = G * B := makeL_len (by unfold GeoOk at h; omega)
end Go.Proofs.YtklppdodadkcnaaGreat.E
