/- My own texts, joined. -/
import Derived.KernelRfl
import Derived.Laws.Externs
import Derived.Lib.MakeNoZero
import Derived.Test.YtdlelcpkelginaaGreatProg
import Derived.Test.YtdlelcpkelginaaGreatCK2
/- copy; entries without a text: bytealg.MakeNoZero; min. -/
namespace Go.Proofs.YtdlelcpkelginaaGreat.E
open Go
set_option linter.unusedVariables false
set_option linter.unusedSimpArgs false
def ivs (l : List Int) : List Value := l.map (Value.int .i64)
theorem ivs_len (l : List Int) : (ivs l).length = l.length := by simp [ivs]
theorem ivs_take (l : List Int) (n : Nat) : (ivs l).take n = ivs (l.take n) := by simp [ivs]
theorem Own.ne_none {s : TH} {a : Option Addr} {n c e k : Nat} {xs : List Value} {τ : Nat} (h : Own s a n c e k xs τ) (hn : 0 < n) : ∃ b, a = some b := by
  cases a with
  | none => have := h.none_iff rfl; omega
  | some b => exact ⟨b, rfl⟩
theorem Sl.ne_none {s : TH} {a : Option Addr} {xs : List Value} {τ : Nat} (h : Sl s a xs τ) (hn : 0 < xs.length) : ∃ b, a = .some b := h.some (fun e => by rw [e] at hn; cases hn)
end Go.Proofs.YtdlelcpkelginaaGreat.E
/- Contracts of functions. -/
namespace Go.Proofs.YtdlelcpkelginaaGreat.E
open Go Go.Proofs
set_option linter.unusedVariables false
set_option linter.unusedSimpArgs false
theorem u77 : Tryz.prog.underlying 77 = some (.map 3 3) := by kernel_rfl
theorem u349 : Tryz.prog.underlying 349 = some (.map 3 340) := by kernel_rfl
theorem z3 (w : World) : (zeroValue 3).run Tryz.prog w = .ok (.int .i64 0) w := by kernel_rfl
theorem z4 (w : World) : (zeroValue 4).run Tryz.prog w = .ok (.bool false) w := by kernel_rfl
theorem z5 (w : World) : (zeroValue 5).run Tryz.prog w = .ok (.int .u8 0) w := by kernel_rfl
theorem u3 : Tryz.prog.underlying 3 = some (.int .i64) := by kernel_rfl
theorem u5 : Tryz.prog.underlying 5 = some (.int .u8) := by kernel_rfl
theorem z27 (w : World) : (zeroValue 27).run Tryz.prog w = .ok (.pointer none) w := by kernel_rfl
theorem u31 : Tryz.prog.underlying 31 = some (.slice 26) := by kernel_rfl
theorem u45 : Tryz.prog.underlying 45 = some (.slice 48) := by kernel_rfl
theorem z45 (w : World) : (zeroValue 45).run Tryz.prog w = .ok (.slice none 0 0) w := by kernel_rfl
theorem u46 : Tryz.prog.underlying 46 = some (.slice 5) := by kernel_rfl
theorem z46 (w : World) : (zeroValue 46).run Tryz.prog w = .ok (.slice none 0 0) w := by kernel_rfl
theorem u50 : Tryz.prog.underlying 50 = some (.slice 46) := by kernel_rfl
theorem z50 (w : World) : (zeroValue 50).run Tryz.prog w = .ok (.slice none 0 0) w := by kernel_rfl
theorem u74 : Tryz.prog.underlying 74 = some (.slice 3) := by kernel_rfl
theorem z229 (w : World) : (zeroValue 229).run Tryz.prog w = .ok (.slice none 0 0) w := by kernel_rfl
theorem z340 (w : World) : (zeroValue 340).run Tryz.prog w = .ok (.pointer none) w := by kernel_rfl
theorem in5 : (Tryz.prog.info? 5).map (fun i => (i.zero, i.size, i.bytes)) = some (some (.int .u8 0), 1, 1) := by kernel_rfl
theorem in3 : (Tryz.prog.info? 3).map (fun i => (i.zero, i.size, i.bytes)) = some (some (.int .i64 0), 1, 8) := by kernel_rfl
theorem in46 : (Tryz.prog.info? 46).map (fun i => (i.zero, i.size, i.bytes)) = some (some (.slice none 0 0), 1, 24) := by kernel_rfl
theorem keyI : KeyOk Tryz.prog 3 (Value.int .i64) := keyInt u3
end Go.Proofs.YtdlelcpkelginaaGreat.E
/- Contracts of functions. -/
namespace Go.Proofs.YtdlelcpkelginaaGreat.E
open Go Go.Proofs
set_option linter.unusedVariables false
set_option linter.unusedSimpArgs false
/-- a write on its way -/
structure SentM where
  id : Int
  blk : Int
  by_ : List UInt8
/-- what a disk is -/
structure DiskM where
  blocks : List (List UInt8)
  queue : List SentM
  fails : Int → Int
  last : Int
def DiskM.has (D : DiskM) (b : Int) : Prop := 0 ≤ b ∧ b < D.blocks.length
instance (D : DiskM) (b : Int) : Decidable (D.has b) := by unfold DiskM.has; infer_instance
/-- a slice's value: address, length, capacity -/
abbrev Hd := Option Addr × Nat
def hv (n : Nat) (p : Hd) : Value := .slice p.1 n p.2
def hd1 (p : Hd) : List Value := [.slice p.1 128 p.2]
def qv (q : Int × Int × Hd) : List Value := [.int .i64 q.1, .int .i64 q.2.1, .slice q.2.2.1 128 q.2.2.2]
theorem hd1_len (p : Hd) : (hd1 p).length = 1 := rfl
/-- so many bytes lie behind a slice's value -/
structure ByAt (s : TH) (τ : Nat) (p : Hd) (b : List UInt8) : Prop where
  sl : Sl s p.1 (bvs b) τ
  len : b.length = 128
theorem ByAt.mv {s s' : TH} {τ : Nat} {p : Hd} {b : List UInt8} {C : Nat → Prop} (h : ByAt s τ p b) (c : Chg C s s') (hn : ∀ j, j < s.h.size → s.g j = τ → ¬ C j) : ByAt s' τ p b := ⟨h.sl.mv c hn, h.len⟩
theorem ByAt.ne {s : TH} {τ : Nat} {p : Hd} {b : List UInt8} (h : ByAt s τ p b) : ∃ a, p.1 = some a := h.sl.some fun e => by have := congrArg List.length e; rw [bvs_len, h.len] at this; cases this
/-- rows of bytes -/
structure BRel (s : TH) (τ : Nat) (hs : List Hd) (bs : List (List UInt8)) : Prop where
  len : hs.length = bs.length
  at_ : ∀ (i : Nat) (p : Hd) (b : List UInt8), hs[i]? = some p → bs[i]? = some b → ByAt s τ p b
structure QRel (s : TH) (τ : Nat) (qs : List (Int × Int × Hd)) (q : List SentM) : Prop where
  len : qs.length = q.length
  at_ : ∀ (i : Nat) (x : Int × Int × Hd) (m : SentM), qs[i]? = some x → q[i]? = some m → x.1 = m.id ∧ x.2.1 = m.blk ∧ ByAt s τ x.2.2 m.by_
theorem BRel.mv {s s' : TH} {τ : Nat} {hs : List Hd} {bs : List (List UInt8)} {C : Nat → Prop} (h : BRel s τ hs bs) (c : Chg C s s') (hn : ∀ j, j < s.h.size → s.g j = τ → ¬ C j) : BRel s' τ hs bs := ⟨h.len, fun i p b h1 h2 => (h.at_ i p b h1 h2).mv c hn⟩
theorem QRel.mv {s s' : TH} {τ : Nat} {hs : List (Int × Int × Hd)} {bs : List SentM} {C : Nat → Prop} (h : QRel s τ hs bs) (c : Chg C s s') (hn : ∀ j, j < s.h.size → s.g j = τ → ¬ C j) : QRel s' τ hs bs := ⟨h.len, fun i p b h1 h2 => ⟨(h.at_ i p b h1 h2).1, (h.at_ i p b h1 h2).2.1, (h.at_ i p b h1 h2).2.2.mv c hn⟩⟩
theorem bcell {hs : List Hd} {m : Nat} {x : Hd} (h : hs[m]? = some x) : (hs.flatMap hd1)[m]? = some (.slice x.1 128 x.2) := by
  have := fm_get hd1_len hs m 0 x h (by omega); simpa [hd1] using this
def ixr {α : Type} (p : α → Bool) : List α → Nat → Int
  | [], _ => -1
  | x :: l, i => if p x = true then (i : Int) else ixr p l (i + 1)
def ixf {α : Type} (p : α → Bool) (l : List α) : Int := ixr p l 0
theorem ixr_some {α : Type} {p : α → Bool} : ∀ (l : List α) (i k : Nat) (x : α), l[k]? = some x → p x = true → (∀ (j : Nat) (y : α), j < k → l[j]? = some y → p y = false) → ixr p l i = ((i + k : Nat) : Int)
  | [], i, k, x, h, _, _ => by simp at h
  | y :: l, i, 0, x, h, hp, _ => by simp at h; subst h; simp [ixr, hp]
  | y :: l, i, k + 1, x, h, hp, ha => by
    have := ha 0 y (by omega) (by simp)
    rw [ixr, if_neg (by simp [this]), ixr_some l (i + 1) k x (by simpa using h) hp (fun j z hj hz => ha (j + 1) z (by omega) (by simpa using hz))]
    omega
theorem ixr_none {α : Type} {p : α → Bool} : ∀ (l : List α) (i : Nat), (∀ (j : Nat) (y : α), j < l.length → l[j]? = some y → p y = false) → ixr p l i = -1
  | [], i, _ => rfl
  | y :: l, i, ha => by
    have := ha 0 y (by simp) (by simp)
    rw [ixr, if_neg (by simp [this])]
    exact ixr_none l (i + 1) fun j z hj hz => ha (j + 1) z (by simpa using hj) (by simpa using hz)
theorem ixf_some {α : Type} {p : α → Bool} {l : List α} {k : Nat} {x : α} (h : l[k]? = some x) (hp : p x = true) (ha : ∀ (j : Nat) (y : α), j < k → l[j]? = some y → p y = false) : ixf p l = (k : Int) := by
  have := ixr_some l 0 k x h hp ha; simpa [ixf] using this
theorem ixf_none {α : Type} {p : α → Bool} {l : List α} (ha : ∀ (j : Nat) (y : α), j < l.length → l[j]? = some y → p y = false) : ixf p l = -1 := ixr_none l 0 ha
theorem ixf_cases {α : Type} (p : α → Bool) : ∀ (l : List α), (ixf p l = -1 ∧ ∀ x ∈ l, p x = false) ∨ ∃ (k : Nat) (x : α), ixf p l = k ∧ l[k]? = some x ∧ p x = true := by
  intro l
  by_cases h : ∀ x ∈ l, p x = false
  · left; exact ⟨ixf_none fun j y hj hy => h y (List.mem_of_getElem? hy), h⟩
  · right
    have : ∃ k x, l[k]? = some x ∧ p x = true ∧ ∀ (j : Nat) (y : α), j < k → l[j]? = some y → p y = false := by
      induction l with
      | nil => simp at h
      | cons y l ih =>
        by_cases hy : p y = true
        · exact ⟨0, y, by simp, hy, fun j z hj => by omega⟩
        · obtain ⟨k, x, h1, h2, h3⟩ := ih (by intro h'; apply h; intro x hx; rcases List.mem_cons.1 hx with rfl | hx <;> first | exact h' _ hx | simpa using hy)
          refine ⟨k + 1, x, by simpa using h1, h2, fun j z hj hz => ?_⟩
          cases j with
          | zero => simp at hz; subst hz; simpa using hy
          | succ j => exact h3 j z (by omega) (by simpa using hz)
    obtain ⟨k, x, h1, h2, h3⟩ := this
    exact ⟨k, x, ixf_some h1 h2 h3, h1, h2⟩
def DiskM.write (D : DiskM) (b : Int) (x : List UInt8) : DiskM × Int × Int :=
  if ¬ D.has b then (D, 0, 1)
  else if x.length ≠ 128 then (D, 0, 1)
  else if ixf (fun m : SentM => m.blk == b) D.queue ≥ 0 then (D, 0, 21)
  else if 64 ≤ D.queue.length then (D, 0, 3)
  else ({ D with queue := D.queue ++ [⟨D.last + 1, b, x⟩], last := D.last + 1 }, D.last + 1, 0)
theorem fm_set1 (hs : List Hd) (j : Nat) (p : Hd) : (hs.flatMap hd1).set j (.slice p.1 128 p.2) = (hs.set j p).flatMap hd1 := by
  have e : ∀ l : List Hd, l.flatMap hd1 = l.map fun p => .slice p.1 128 p.2 := fun l => by induction l with | nil => rfl | cons x l ih => simp [hd1, ih]
  rw [e, e, List.map_set]
theorem BRel.set {s : TH} {τ : Nat} {hs : List Hd} {bs : List (List UInt8)} (h : BRel s τ hs bs) (j : Nat) {p : Hd} {b : List UInt8} (hp : ByAt s τ p b) : BRel s τ (hs.set j p) (bs.set j b) := by
  refine ⟨by simp [h.len], fun i x y hx hy => ?_⟩
  rw [List.getElem?_set] at hx hy
  by_cases hij : j = i
  · subst hij
    rw [if_pos rfl] at hx hy
    split at hx
    · split at hy
      · cases hx; cases hy; exact hp
      · cases hy
    · cases hx
  · rw [if_neg hij] at hx hy; exact h.at_ i x y hx hy
theorem QRel.erase {s : TH} {τ : Nat} {qs : List (Int × Int × Hd)} {q : List SentM} (h : QRel s τ qs q) (i : Nat) : QRel s τ (qs.eraseIdx i) (q.eraseIdx i) := by
  refine ⟨by simp [List.length_eraseIdx, h.len], fun j y n hy hn => ?_⟩
  rw [List.getElem?_eraseIdx] at hy hn
  split at hy
  · rename_i hj; rw [if_pos hj] at hn; exact h.at_ j y n hy hn
  · rename_i hj; rw [if_neg hj] at hn; exact h.at_ (j + 1) y n hy hn
theorem QRel.snoc {s : TH} {τ : Nat} {qs : List (Int × Int × Hd)} {q : List SentM} (h : QRel s τ qs q) {x : Int × Int × Hd} {m : SentM} (hx : x.1 = m.id ∧ x.2.1 = m.blk ∧ ByAt s τ x.2.2 m.by_) : QRel s τ (qs ++ [x]) (q ++ [m]) := by
  refine ⟨by simp [h.len], fun i y n hy hn => ?_⟩
  by_cases hi : i < q.length
  · rw [List.getElem?_append_left (by rw [h.len]; exact hi)] at hy
    rw [List.getElem?_append_left hi] at hn
    exact h.at_ i y n hy hn
  · rw [List.getElem?_append_right (by rw [h.len]; omega)] at hy
    rw [List.getElem?_append_right (by omega)] at hn
    rw [h.len] at hy
    cases hd : i - q.length with
    | zero => rw [hd] at hy hn; simp at hy hn; subst hy hn; exact hx
    | succ k => rw [hd] at hy; simp at hy
/-- of a block how many of its reads fail -/
def FailsOk (fm : List (Int × Value)) (f : Int → Int) : Prop := ∀ b, (mget b fm).getD (.int .i64 0) = .int .i64 (f b)
/-- a disk of the program in memory, its parts -/
structure DiskP (s : TH) (d T : Nat) (D : DiskM) (pa : Option Addr) (pc : Nat) (qa : Option Addr) (qc : Nat) (hs : List Hd) (qs : List (Int × Int × Hd)) (fr : Nat) (fm : List (Int × Value)) : Prop where
  blk : Blk s d [.slice pa D.blocks.length pc, .slice qa D.queue.length qc, .map (some fr), .int .i64 D.last] 159 T
  rows : Own s pa D.blocks.length pc 46 1 (hs.flatMap hd1) (T + 1)
  brel : BRel s (T + 3) hs D.blocks
  que : Own s qa D.queue.length qc 276 3 (qs.flatMap qv) (T + 2)
  qrel : QRel s (T + 3) qs D.queue
  fails : MapK (Value.int .i64) s fr fm (T + 4)
  fok : FailsOk fm D.fails
  nb : 1 ≤ D.blocks.length ∧ D.blocks.length ≤ 2048
  nq : D.queue.length ≤ 64
  qin : ∀ m ∈ D.queue, 0 ≤ m.blk ∧ m.blk < D.blocks.length
def Disk (s : TH) (d T : Nat) (D : DiskM) : Prop := ∃ pa pc qa qc hs qs fr fm, DiskP s d T D pa pc qa qc hs qs fr fm
theorem DiskP.mv {s s' : TH} {d T : Nat} {D : DiskM} {pa : Option Addr} {pc : Nat} {qa : Option Addr} {qc : Nat} {hs : List Hd} {qs : List (Int × Int × Hd)} {fr : Nat} {fm : List (Int × Value)} {C : Nat → Prop}
    (h : DiskP s d T D pa pc qa qc hs qs fr fm) (c : Chg C s s') (hn : ∀ j, j < s.h.size → T ≤ s.g j → s.g j < T + 10 → ¬ C j) : DiskP s' d T D pa pc qa qc hs qs fr fm :=
  ⟨h.blk.mv c (of_rng hn (Nat.le_refl _) (by omega) d h.blk.lt h.blk.tag), h.rows.mv c (of_rng hn (by omega) (by omega)), h.brel.mv c (of_rng hn (by omega) (by omega)), h.que.mv c (of_rng hn (by omega) (by omega)), h.qrel.mv c (of_rng hn (by omega) (by omega)),
    h.fails.mv c (of_rng hn (by omega) (by omega) fr h.fails.lt h.fails.tag), h.fok, h.nb, h.nq, h.qin⟩
theorem Disk.mv {s s' : TH} {d T : Nat} {D : DiskM} {C : Nat → Prop} (h : Disk s d T D) (c : Chg C s s') (hn : ∀ j, j < s.h.size → T ≤ s.g j → s.g j < T + 10 → ¬ C j) : Disk s' d T D := by
  obtain ⟨pa, pc, qa, qc, hs, qs, fr, fm, h⟩ := h
  exact ⟨pa, pc, qa, qc, hs, qs, fr, fm, h.mv c hn⟩
end Go.Proofs.YtdlelcpkelginaaGreat.E
/- The functions' forms in the engine's words, printed by my own program. -/
namespace Go.Proofs.YtdlelcpkelginaaGreat.E
open Go Go.Proofs
set_option linter.unusedVariables false
/-- bollard/geom.at -/
def F213 (x0_0 : Value) (x0_1 : Value) (x0_2 : Value) (x1 : Int) (x2 : Int) (R : Ending → Heap → Prop) (H : Heap) : Prop :=
  al H (Obj.cells #[x0_0, x0_1, x0_2] 23) (fun r1 H2 =>
  jn (α := VFH 1) (fun v3 H4 =>
  ∀ v5 v6 v7 v8 v9 v10 v11 v12 v13 v14 : Value,
  dBl v3 (fun b15 =>
  sB b15 (R (Ending.returned (Value.tuple #[Value.int IntKind.i64 0, Value.bool false])) H4) (ld H4 (Addr.mk r1 1 none) (fun v16 =>
  dInt IntKind.i64 v16 (fun n17 =>
  wr IntKind.i64 (x1 * n17) (fun n18 =>
  wr IntKind.i64 (n18 + x2) (fun n19 =>
  R (Ending.returned (Value.tuple #[Value.int IntKind.i64 n19, Value.bool true])) H4))))))) (fun k20 =>
  ld H2 (Addr.mk r1 0 none) (fun v21 =>
  ld H2 (Addr.mk r1 1 none) (fun v22 =>
  ld H2 (Addr.mk r1 2 none) (fun v23 =>
  HCalls Tryz.prog 65 #[Value.agg #[v21, v22, v23]] H2 (Sp.retK (fun v24 H25 =>
  dInt IntKind.i64 v24 (fun n26 =>
  sB (n26 != 0) (k20 (Value.bool true) H25) (ld H25 (Addr.mk r1 0 none) (fun v27 =>
  dInt IntKind.i64 v27 (fun n28 =>
  wr IntKind.i64 (n28 - 1) (fun n29 =>
  HCalls Tryz.prog 165 #[Value.int IntKind.i64 x1, Value.int IntKind.i64 0, Value.int IntKind.i64 n29] H25 (Sp.retK (fun v30 H31 =>
  dBl v30 (fun b32 =>
  k20 (Value.bool !b32) H31)) (pnR R)))))))) (pnR R)))))))
theorem F213_eq (x0_0 : Value) (x0_1 : Value) (x0_2 : Value) (x1 : Int) (x2 : Int) (R : Ending → Heap → Prop) (H : Heap) : F213 x0_0 x0_1 x0_2 x1 x2 R H = vc Tryz.prog (codeOf Tryz.f213) (.node none .leaf (.node none (.node (some ⟨[(18, 4)], [8, 9, 10, 11, 12, 13, 14, 15, 16, 17]⟩) .leaf .leaf) .leaf)) (postV Tryz.prog Tryz.f213 R) ⟨#[Value.agg #[x0_0, x0_1, x0_2], Value.int IntKind.i64 x1, Value.int IntKind.i64 x2] ++ Array.replicate (Tryz.f213.ntmps - 3) undef, []⟩ H := by kernel_rfl
theorem F213_calls {R : Ending → Heap → Prop} {H : Heap} (x0_0 : Value) (x0_1 : Value) (x0_2 : Value) (x1 : Int) (x2 : Int) (h : F213 x0_0 x0_1 x0_2 x1 x2 R H) : HCalls Tryz.prog 213 #[Value.agg #[x0_0, x0_1, x0_2], Value.int IntKind.i64 x1, Value.int IntKind.i64 x2] H R :=
  calls_by (F := F213 x0_0 x0_1 x0_2 x1 x2 R H) (.node none .leaf (.node none (.node (some ⟨[(18, 4)], [8, 9, 10, 11, 12, 13, 14, 15, 16, 17]⟩) .leaf .leaf) .leaf)) Tryz.func213 rfl (F213_eq x0_0 x0_1 x0_2 x1 x2 R H) h
/-- bollard/check.blocks -/
def F223 (x0 : Option Addr) (R : Ending → Heap → Prop) (H : Heap) : Prop :=
  nz x0 (fun a1 =>
  ld H (Addr.add (Addr.add a1 5) 1) (fun v2 =>
  dInt IntKind.i64 v2 (fun n3 =>
  HCalls Tryz.prog 299 #[Value.pointer x0, Value.int IntKind.i64 n3] H (Sp.retK (fun v4 H5 =>
  dT 2 v4 (fun v6 v7 =>
  dA 9 v6 (fun v8 v9 v10 v11 v12 v13 v14 v15 v16 =>
  dInt IntKind.i64 v7 (fun n17 =>
  al H5 (Obj.cells #[Value.int IntKind.i64 0, Value.int IntKind.i64 0, Value.int IntKind.i64 0, Value.int IntKind.i64 0, Value.int IntKind.i64 0, Value.int IntKind.i64 0, Value.int IntKind.i64 0, Value.int IntKind.i64 0, Value.int IntKind.i64 0] 26) (fun r18 H19 =>
  st H19 (Addr.mk r18 0 none) v8 (fun H20 =>
  st H20 (Addr.mk r18 1 none) v9 (fun H21 =>
  st H21 (Addr.mk r18 2 none) v10 (fun H22 =>
  st H22 (Addr.mk r18 3 none) v11 (fun H23 =>
  st H23 (Addr.mk r18 4 none) v12 (fun H24 =>
  st H24 (Addr.mk r18 5 none) v13 (fun H25 =>
  st H25 (Addr.mk r18 6 none) v14 (fun H26 =>
  st H26 (Addr.mk r18 7 none) v15 (fun H27 =>
  st H27 (Addr.mk r18 8 none) v16 (fun H28 =>
  sB (n17 != 0) (R (Ending.returned (Value.tuple #[Value.slice none 0 0, Value.int IntKind.i64 n17])) H28) (ask ((0 : Int) ≤ (0 : Int) ∧ (0 : Int) < (4 : Int)) (ld H28 (Addr.add (Addr.mk r18 3 none) (Int.toNat 0 * 1)) (fun v29 =>
  dInt IntKind.i64 v29 (fun n30 =>
  ask ((0 : Int) ≤ (1 : Int) ∧ (1 : Int) < (4 : Int)) (ld H28 (Addr.add (Addr.mk r18 3 none) (Int.toNat 1 * 1)) (fun v31 =>
  dInt IntKind.i64 v31 (fun n32 =>
  ask ((0 : Int) ≤ (2 : Int) ∧ (2 : Int) < (4 : Int)) (ld H28 (Addr.add (Addr.mk r18 3 none) (Int.toNat 2 * 1)) (fun v33 =>
  dInt IntKind.i64 v33 (fun n34 =>
  ask ((0 : Int) ≤ (3 : Int) ∧ (3 : Int) < (4 : Int)) (ld H28 (Addr.add (Addr.mk r18 3 none) (Int.toNat 3 * 1)) (fun v35 =>
  dInt IntKind.i64 v35 (fun n36 =>
  ld H28 (Addr.mk r18 7 none) (fun v37 =>
  dInt IntKind.i64 v37 (fun n38 =>
  ld H28 (Addr.mk r18 8 none) (fun v39 =>
  dInt IntKind.i64 v39 (fun n40 =>
  al H28 (Obj.cells #[Value.int IntKind.i64 0, Value.int IntKind.i64 0, Value.int IntKind.i64 0, Value.int IntKind.i64 0, Value.int IntKind.i64 0, Value.int IntKind.i64 0] 364) (fun r41 H42 =>
  st H42 (Addr.mk r41 0 none) (Value.int IntKind.i64 n30) (fun H43 =>
  st H43 (Addr.mk r41 1 none) (Value.int IntKind.i64 n32) (fun H44 =>
  st H44 (Addr.mk r41 2 none) (Value.int IntKind.i64 n34) (fun H45 =>
  st H45 (Addr.mk r41 3 none) (Value.int IntKind.i64 n36) (fun H46 =>
  st H46 (Addr.mk r41 4 none) (Value.int IntKind.i64 n38) (fun H47 =>
  st H47 (Addr.mk r41 5 none) (Value.int IntKind.i64 n40) (fun H48 =>
  ld H48 (Addr.mk r41 0 none) (fun v49 =>
  ld H48 (Addr.mk r41 1 none) (fun v50 =>
  ld H48 (Addr.mk r41 2 none) (fun v51 =>
  ld H48 (Addr.mk r41 3 none) (fun v52 =>
  ld H48 (Addr.mk r41 4 none) (fun v53 =>
  ld H48 (Addr.mk r41 5 none) (fun v54 =>
  ∃ I55 : List Value → Heap → Prop,
  ∃ I56 : List Value → Heap → Nat,
  (I55 ([Value.int IntKind.i64 0]) H48) ∧
  ∀ n57 : Int,
  ∀ v58 v59 v60 v61 v62 v63 v64 v65 v66 v67 v68 v69 v70 v71 v72 v73 v74 v75 v76 : Value,
  ∀ H77 : Heap,
  (I55 ([Value.int IntKind.i64 n57]) H77) →
  sB (decide (n57 < 6)) (ask ((0 : Int) ≤ n57 ∧ n57 < (6 : Int)) (oV ([v49, v50, v51, v52, v53, v54][Int.toNat n57 * 1]?) (fun v79 =>
  dInt IntKind.i64 v79 (fun n80 =>
  wr IntKind.i64 (n57 - 4) (fun n81 =>
  wr IntKind.i64 (n81 + 1) (fun n82 =>
  semW Tryz.prog (Builtin.max_ #[3, 3] 3 #[Value.int IntKind.i64 0, Value.int IntKind.i64 n82]) (pnR R) H77 (fun v85 H86 =>
  dInt IntKind.i64 v85 (fun n87 =>
  HCalls Tryz.prog 300 #[Value.pointer x0, Value.int IntKind.i64 n80, Value.int IntKind.i64 n87] H86 (Sp.retK (fun v88 H89 =>
  dInt IntKind.i64 v88 (fun n90 =>
  sB (n90 != 0) (R (Ending.returned (Value.tuple #[Value.slice none 0 0, Value.int IntKind.i64 n90])) H89) (wr IntKind.i64 (n57 + 1) (fun n91 =>
  (I55 ([Value.int IntKind.i64 n91]) H89) ∧
  (I56 [Value.int IntKind.i64 n91] H89) < (I56 [Value.int IntKind.i64 n57] H77))))) (pnR R)))))))))) (R (Ending.returned (Value.tuple #[Value.slice none 0 0, Value.int IntKind.i64 0])) H77))))))))))))))))))))))))))))))))))))))))))))) (pnR R)))))
theorem F223_eq (x0 : Option Addr) (R : Ending → Heap → Prop) (H : Heap) : F223 x0 R H = vc Tryz.prog (codeOf Tryz.f223) (.node none .leaf (.node none .leaf (.node none .leaf (.node none .leaf (.node none (.node none .leaf (.node none (.node (some ⟨[(41, 3)], [2, 3, 7, 8, 9, 42, 43, 44, 45, 46, 47, 48, 49, 50, 51, 52, 53, 54, 55]⟩) .leaf .leaf) .leaf)) .leaf))))) (postV Tryz.prog Tryz.f223 R) ⟨#[Value.pointer x0] ++ Array.replicate (Tryz.f223.ntmps - 1) undef, []⟩ H := by kernel_rfl
theorem F223_calls {R : Ending → Heap → Prop} {H : Heap} (x0 : Option Addr) (h : F223 x0 R H) : HCalls Tryz.prog 223 #[Value.pointer x0] H R :=
  calls_by (F := F223 x0 R H) (.node none .leaf (.node none .leaf (.node none .leaf (.node none .leaf (.node none (.node none .leaf (.node none (.node (some ⟨[(41, 3)], [2, 3, 7, 8, 9, 42, 43, 44, 45, 46, 47, 48, 49, 50, 51, 52, 53, 54, 55]⟩) .leaf .leaf) .leaf)) .leaf))))) Tryz.func223 rfl (F223_eq x0 R H) h
/-- slices.DeleteFunc[[]int,int] -/
def F234 (x0a : Option Addr) (x0n : Nat) (x0c : Nat) (x1g : Nat) (x1f : Array Value) (x1c : Array Value) (R : Ending → Heap → Prop) (H : Heap) : Prop :=
  HCalls Tryz.prog 280 #[Value.slice x0a x0n x0c, Value.func (Fn.func x1g) x1f x1c] H (Sp.retK (fun v1 H2 =>
  dInt IntKind.i64 v1 (fun n3 =>
  sB (n3 == -1) (R (Ending.returned (Value.slice x0a x0n x0c)) H2) (wr IntKind.i64 (n3 + 1) (fun n4 =>
  ∃ I5 : List Value → Heap → Prop,
  ∃ I6 : List Value → Heap → Nat,
  (I5 ([Value.int IntKind.i64 n3, Value.int IntKind.i64 n4]) H2) ∧
  ∀ n7 : Int,
  ∀ n8 : Int,
  ∀ v9 v10 v11 v12 v13 v14 v15 v16 v17 v18 v19 v20 v21 v22 v23 v24 v25 v26 v27 v28 v29 : Value,
  ∀ H30 : Heap,
  (I5 ([Value.int IntKind.i64 n7, Value.int IntKind.i64 n8]) H30) →
  sB (decide (n8 < (↑x0n : Int))) (jn (α := VFH 1) (fun v32 H33 =>
  ∀ v34 v35 v36 v37 v38 v39 v40 v41 v42 v43 v44 v45 v46 v47 v48 : Value,
  dInt IntKind.i64 v32 (fun n49 =>
  wr IntKind.i64 (n8 + 1) (fun n50 =>
  (I5 ([Value.int IntKind.i64 n49, Value.int IntKind.i64 n50]) H33) ∧
  (I6 [Value.int IntKind.i64 n49, Value.int IntKind.i64 n50] H33) < (I6 [Value.int IntKind.i64 n7, Value.int IntKind.i64 n8] H30)))) (fun k51 =>
  nz x0a (fun a52 =>
  ask ((0 : Int) ≤ n8 ∧ n8 < (↑x0n : Int)) (ld H30 (Addr.add a52 (Int.toNat n8 * 1)) (fun v53 =>
  dInt IntKind.i64 v53 (fun n54 =>
  gB (plainFn Tryz.prog x1g) (HCalls Tryz.prog x1g (argsOf x1f [Value.int IntKind.i64 n54] x1c) H30 (Sp.retK (fun v55 H56 =>
  dBl v55 (fun b57 =>
  sB (!b57) (nz x0a (fun a58 =>
  ask ((0 : Int) ≤ n7 ∧ n7 < (↑x0n : Int)) (st H56 (Addr.add a58 (Int.toNat n7 * 1)) (Value.int IntKind.i64 n54) (fun H59 =>
  wr IntKind.i64 (n7 + 1) (fun n60 =>
  k51 (Value.int IntKind.i64 n60) H59))))) (k51 (Value.int IntKind.i64 n7) H56))) (pnR R))))))))) (ask ((0 : Int) ≤ n7 ∧ n7 ≤ (↑x0n : Int) ∧ (↑x0n : Int) ≤ (↑x0c : Int) ∧ (↑x0c : Int) ≤ (↑x0c : Int)) (semW Tryz.prog (Builtin.clear_ #[74] 0 #[Value.slice (slO x0a 1 n7 (↑x0c : Int)) (Int.toNat (↑x0n : Int) - Int.toNat n7) (Int.toNat (↑x0c : Int) - Int.toNat n7)]) (pnR R) H30 (fun v65 H66 =>
  ask ((0 : Int) ≤ (0 : Int) ∧ (0 : Int) ≤ n7 ∧ n7 ≤ (↑x0c : Int) ∧ (↑x0c : Int) ≤ (↑x0c : Int)) (R (Ending.returned (Value.slice (slO x0a 1 0 (↑x0c : Int)) (Int.toNat n7 - Int.toNat 0) (Int.toNat (↑x0c : Int) - Int.toNat 0))) H66)))))))) (pnR R))
theorem F234_eq (x0a : Option Addr) (x0n : Nat) (x0c : Nat) (x1g : Nat) (x1f : Array Value) (x1c : Array Value) (R : Ending → Heap → Prop) (H : Heap) : F234 x0a x0n x0c x1g x1f x1c R H = vc Tryz.prog (codeOf Tryz.f234) (.node none .leaf (.node none .leaf (.node none .leaf (.node none (.node none .leaf (.node none (.node (some ⟨[(5, 3), (6, 3)], [7, 16, 17, 18, 19, 20, 21, 22, 23, 24, 25, 26, 27, 28, 29, 30, 31, 32, 33, 34, 35]⟩) (.node none .leaf (.node (some ⟨[(5, 3)], [7, 22, 23, 24, 25, 26, 27, 28, 29, 30, 31, 32, 33, 34, 35]⟩) .leaf .leaf)) .leaf) .leaf)) .leaf)))) (postV Tryz.prog Tryz.f234 R) ⟨#[Value.slice x0a x0n x0c, Value.func (Fn.func x1g) x1f x1c] ++ Array.replicate (Tryz.f234.ntmps - 2) undef, []⟩ H := by kernel_rfl
theorem F234_calls {R : Ending → Heap → Prop} {H : Heap} (x0a : Option Addr) (x0n : Nat) (x0c : Nat) (x1g : Nat) (x1f : Array Value) (x1c : Array Value) (h : F234 x0a x0n x0c x1g x1f x1c R H) : HCalls Tryz.prog 234 #[Value.slice x0a x0n x0c, Value.func (Fn.func x1g) x1f x1c] H R :=
  calls_by (F := F234 x0a x0n x0c x1g x1f x1c R H) (.node none .leaf (.node none .leaf (.node none .leaf (.node none (.node none .leaf (.node none (.node (some ⟨[(5, 3), (6, 3)], [7, 16, 17, 18, 19, 20, 21, 22, 23, 24, 25, 26, 27, 28, 29, 30, 31, 32, 33, 34, 35]⟩) (.node none .leaf (.node (some ⟨[(5, 3)], [7, 22, 23, 24, 25, 26, 27, 28, 29, 30, 31, 32, 33, 34, 35]⟩) .leaf .leaf)) .leaf) .leaf)) .leaf)))) Tryz.func234 rfl (F234_eq x0a x0n x0c x1g x1f x1c R H) h
/-- bollard/bollardref05.With -/
def F248 (x0a : Option Addr) (x0n : Nat) (x0c : Nat) (x1 : Int) (x2 : Bool) (R : Ending → Heap → Prop) (H : Heap) : Prop :=
  jn (α := VFH 1) (fun v1 H2 =>
  ∀ v3 v4 v5 v6 v7 v8 v9 v10 : Value,
  dBl v1 (fun b11 =>
  sB b11 (R (Ending.returned (Value.tuple #[Value.slice none 0 0, Value.int IntKind.i64 50])) H2) (al H2 (Obj.cells #[] 5) (fun r12 H13 =>
  semW Tryz.prog (Builtin.append_ #[46, 46] 46 #[Value.slice (some (Addr.mk r12 0 none)) 0 0, Value.slice x0a x0n x0c]) (pnR R) H13 (fun v16 H17 =>
  dSl v16 (fun p18 r19 r20 =>
  jn (α := VFH 0) (fun H21 =>
  ∀ v22 v23 v24 v25 v26 v27 v28 v29 v30 v31 v32 v33 v34 v35 v36 v37 v38 v39 : Value,
  R (Ending.returned (Value.tuple #[Value.slice p18 r19 r20, Value.int IntKind.i64 0])) H21) (fun k40 =>
  HCalls Tryz.prog 309 #[Value.slice x0a x0n x0c, Value.int IntKind.i64 x1] H17 (Sp.retK (fun v41 H42 =>
  dBl v41 (fun b43 =>
  sB (!b43 == x2) (ask ((8 : Int) ≠ (0 : Int)) (wr IntKind.i64 (Int.tdiv x1 8) (fun n44 =>
  ask ((8 : Int) ≠ (0 : Int)) (wr IntKind.i64 (Int.tdiv x1 8) (fun n45 =>
  nz p18 (fun a46 =>
  ask ((0 : Int) ≤ n45 ∧ n45 < (↑r19 : Int)) (ld H42 (Addr.add a46 (Int.toNat n45 * 1)) (fun v47 =>
  dInt IntKind.u8 v47 (fun n48 =>
  ask ((8 : Int) ≠ (0 : Int)) (nm (Int.tmod x1 8) (fun n49 =>
  ask ((0 : Int) ≤ n49) (nm (IntKind.wrap IntKind.u8 (1 * 2 ^ min (Int.toNat n49) 8)) (fun n50 =>
  nm (IntKind.wrap IntKind.u8 (↑(BitVec.toNat (BitVec.ofInt 8 n48 ^^^ BitVec.ofInt 8 n50)) : Int)) (fun n51 =>
  nz p18 (fun a52 =>
  ask ((0 : Int) ≤ n44 ∧ n44 < (↑r19 : Int)) (st H42 (Addr.add a52 (Int.toNat n44 * 1)) (Value.int IntKind.u8 n51) (fun H53 =>
  k40 H53))))))))))))))))) (k40 H42))) (pnR R))))))))) (fun k56 =>
  sB (decide (x1 < 0)) (k56 (Value.bool true) H) (ask ((8 : Int) ≠ (0 : Int)) (wr IntKind.i64 (Int.tdiv x1 8) (fun n57 =>
  k56 (Value.bool (decide (n57 ≥ (↑x0n : Int)))) H))))
theorem F248_eq (x0a : Option Addr) (x0n : Nat) (x0c : Nat) (x1 : Int) (x2 : Bool) (R : Ending → Heap → Prop) (H : Heap) : F248 x0a x0n x0c x1 x2 R H = vc Tryz.prog (codeOf Tryz.f248) (.node none .leaf (.node none (.node (some ⟨[(17, 4)], [9, 10, 11, 12, 13, 14, 15, 16]⟩) .leaf .leaf) (.node none .leaf (.node (some ⟨[], [21, 22, 23, 24, 25, 26, 27, 28, 29, 30, 31, 32, 33, 34, 35, 36, 37, 38]⟩) .leaf .leaf)))) (postV Tryz.prog Tryz.f248 R) ⟨#[Value.slice x0a x0n x0c, Value.int IntKind.i64 x1, Value.bool x2] ++ Array.replicate (Tryz.f248.ntmps - 3) undef, []⟩ H := by kernel_rfl
theorem F248_calls {R : Ending → Heap → Prop} {H : Heap} (x0a : Option Addr) (x0n : Nat) (x0c : Nat) (x1 : Int) (x2 : Bool) (h : F248 x0a x0n x0c x1 x2 R H) : HCalls Tryz.prog 248 #[Value.slice x0a x0n x0c, Value.int IntKind.i64 x1, Value.bool x2] H R :=
  calls_by (F := F248 x0a x0n x0c x1 x2 R H) (.node none .leaf (.node none (.node (some ⟨[(17, 4)], [9, 10, 11, 12, 13, 14, 15, 16]⟩) .leaf .leaf) (.node none .leaf (.node (some ⟨[], [21, 22, 23, 24, 25, 26, 27, 28, 29, 30, 31, 32, 33, 34, 35, 36, 37, 38]⟩) .leaf .leaf)))) Tryz.func248 rfl (F248_eq x0a x0n x0c x1 x2 R H) h
/-- bollard/bollardref12.clash -/
def F250 (x0a : Option Addr) (x0n : Nat) (x0c : Nat) (R : Ending → Heap → Prop) (H : Heap) : Prop :=
  ∃ I1 : List Value → Heap → Prop,
  ∃ I2 : List Value → Heap → Nat,
  (I1 ([Value.int IntKind.i64 0]) H) ∧
  ∀ n3 : Int,
  ∀ v4 v5 v6 v7 v8 v9 v10 v11 v12 v13 v14 v15 v16 v17 v18 v19 v20 v21 v22 v23 v24 v25 v26 v27 v28 v29 v30 v31 v32 v33 v34 v35 v36 : Value,
  ∀ H37 : Heap,
  (I1 ([Value.int IntKind.i64 n3]) H37) →
  sB (decide (n3 < (↑x0n : Int))) (nz x0a (fun a39 =>
  ask ((0 : Int) ≤ n3 ∧ n3 < (↑x0n : Int)) (ld H37 (Addr.add a39 (Int.toNat n3 * 2)) (fun v40 =>
  ld H37 (Addr.add (Addr.add a39 (Int.toNat n3 * 2)) 1) (fun v41 =>
  al H37 (Obj.cells #[Value.int IntKind.i64 0, Value.string (ByteArray.mk #[])] 228) (fun r42 H43 =>
  st H43 (Addr.mk r42 0 none) v40 (fun H44 =>
  st H44 (Addr.mk r42 1 none) v41 (fun H45 =>
  ask ((0 : Int) ≤ (0 : Int) ∧ (0 : Int) ≤ n3 ∧ n3 ≤ (↑x0c : Int) ∧ (↑x0c : Int) ≤ (↑x0c : Int)) (∃ I46 : List Value → Heap → Prop,
  ∃ I47 : List Value → Heap → Nat,
  (I46 ([Value.int IntKind.i64 0]) H45) ∧
  ∀ n48 : Int,
  ∀ v49 v50 v51 v52 v53 v54 v55 v56 v57 v58 v59 v60 v61 v62 v63 v64 v65 v66 v67 v68 v69 : Value,
  ∀ H70 : Heap,
  (I46 ([Value.int IntKind.i64 n48]) H70) →
  sB (decide (n48 < (↑(Int.toNat n3 - Int.toNat 0) : Int))) (nz (slO x0a 2 0 (↑x0c : Int)) (fun a72 =>
  ask ((0 : Int) ≤ n48 ∧ n48 < (↑(Int.toNat n3 - Int.toNat (0 : Int)) : Int)) (ld H70 (Addr.add a72 (Int.toNat n48 * 2)) (fun v73 =>
  ld H70 (Addr.add (Addr.add a72 (Int.toNat n48 * 2)) 1) (fun v74 =>
  al H70 (Obj.cells #[Value.int IntKind.i64 0, Value.string (ByteArray.mk #[])] 228) (fun r75 H76 =>
  st H76 (Addr.mk r75 0 none) v73 (fun H77 =>
  st H77 (Addr.mk r75 1 none) v74 (fun H78 =>
  jn (α := VFH 1) (fun v79 H80 =>
  ∀ v81 v82 v83 v84 v85 v86 v87 v88 v89 v90 v91 v92 v93 v94 : Value,
  dBl v79 (fun b95 =>
  sB b95 (R (Ending.returned (Value.bool true)) H80) (wr IntKind.i64 (n48 + 1) (fun n96 =>
  (I46 ([Value.int IntKind.i64 n96]) H80) ∧
  (I47 [Value.int IntKind.i64 n96] H80) < (I47 [Value.int IntKind.i64 n48] H70))))) (fun k97 =>
  ld H78 (Addr.mk r42 0 none) (fun v98 =>
  dInt IntKind.i64 v98 (fun n99 =>
  sB (n99 != 0) (ld H78 (Addr.mk r75 0 none) (fun v100 =>
  dInt IntKind.i64 v100 (fun n101 =>
  sB (n101 != 0) (ld H78 (Addr.mk r42 1 none) (fun v102 =>
  dStr v102 (fun s103 =>
  ld H78 (Addr.mk r75 1 none) (fun v104 =>
  dStr v104 (fun s105 =>
  k97 (Value.bool (ByteArray.toList s103 == ByteArray.toList s105)) H78))))) (k97 (Value.bool false) H78)))) (k97 (Value.bool false) H78)))))))))))) (wr IntKind.i64 (n3 + 1) (fun n106 =>
  (I1 ([Value.int IntKind.i64 n106]) H70) ∧
  (I2 [Value.int IntKind.i64 n106] H70) < (I2 [Value.int IntKind.i64 n3] H37)))))))))))) (R (Ending.returned (Value.bool false)) H37)
theorem F250_eq (x0a : Option Addr) (x0n : Nat) (x0c : Nat) (R : Ending → Heap → Prop) (H : Heap) : F250 x0a x0n x0c R H = vc Tryz.prog (codeOf Tryz.f250) (.node none .leaf (.node none (.node none .leaf (.node none (.node (some ⟨[(9, 3)], [2, 3, 4, 6, 10, 11, 12, 13, 14, 15, 16, 17, 18, 19, 20, 21, 22, 23, 24, 25, 26, 27, 28, 29, 30, 31, 32, 33, 34, 35, 36, 37, 38]⟩) (.node none .leaf (.node none .leaf (.node none (.node none (.node none .leaf (.node none .leaf (.node none (.node (some ⟨[(18, 3)], [2, 6, 19, 20, 21, 22, 23, 24, 25, 26, 27, 28, 29, 30, 31, 32, 33, 34, 35, 36, 37]⟩) (.node none .leaf (.node none .leaf (.node none (.node none (.node none .leaf (.node (some ⟨[(36, 4)], [22, 23, 24, 25, 26, 27, 28, 29, 30, 31, 32, 33, 34, 35]⟩) .leaf .leaf)) .leaf) .leaf))) .leaf) .leaf))) .leaf) .leaf))) .leaf) .leaf)) .leaf)) (postV Tryz.prog Tryz.f250 R) ⟨#[Value.slice x0a x0n x0c] ++ Array.replicate (Tryz.f250.ntmps - 1) undef, []⟩ H := by kernel_rfl
theorem F250_calls {R : Ending → Heap → Prop} {H : Heap} (x0a : Option Addr) (x0n : Nat) (x0c : Nat) (h : F250 x0a x0n x0c R H) : HCalls Tryz.prog 250 #[Value.slice x0a x0n x0c] H R :=
  calls_by (F := F250 x0a x0n x0c R H) (.node none .leaf (.node none (.node none .leaf (.node none (.node (some ⟨[(9, 3)], [2, 3, 4, 6, 10, 11, 12, 13, 14, 15, 16, 17, 18, 19, 20, 21, 22, 23, 24, 25, 26, 27, 28, 29, 30, 31, 32, 33, 34, 35, 36, 37, 38]⟩) (.node none .leaf (.node none .leaf (.node none (.node none (.node none .leaf (.node none .leaf (.node none (.node (some ⟨[(18, 3)], [2, 6, 19, 20, 21, 22, 23, 24, 25, 26, 27, 28, 29, 30, 31, 32, 33, 34, 35, 36, 37]⟩) (.node none .leaf (.node none .leaf (.node none (.node none (.node none .leaf (.node (some ⟨[(36, 4)], [22, 23, 24, 25, 26, 27, 28, 29, 30, 31, 32, 33, 34, 35]⟩) .leaf .leaf)) .leaf) .leaf))) .leaf) .leaf))) .leaf) .leaf))) .leaf) .leaf)) .leaf)) Tryz.func250 rfl (F250_eq x0a x0n x0c R H) h
/-- bollard/bollardref03.EncodeEntry -/
def F251 (x0_0 : Value) (x0_1 : Value) (R : Ending → Heap → Prop) (H : Heap) : Prop :=
  al H (Obj.cells #[x0_0, x0_1] 228) (fun r1 H2 =>
  ask ((0 : Int) ≤ (16 : Int) ∧ (16 : Int) ≤ (16 : Int) ∧ (16 : Int) ≤ (281474976710656 : Int) ∧ (16 : Int) ≤ (9223372036854775807 : Int)) (al H2 (Obj.cells (List.toArray (rowZ [Value.int IntKind.u8 0] (Int.toNat 16))) 5) (fun r3 H4 =>
  ld H4 (Addr.mk r1 0 none) (fun v5 =>
  ld H4 (Addr.mk r1 1 none) (fun v6 =>
  semW Tryz.prog (eqSem BinOp.eql 228 (Operand.tmp 6) (Operand.tmp 7) (Value.agg #[v5, v6]) (Value.agg #[Value.int IntKind.i64 0, Value.string (ByteArray.mk #[])])) (pnR R) H4 (fun v9 H10 =>
  dBl v9 (fun b11 =>
  sB b11 (R (Ending.returned (Value.tuple #[Value.slice (some (Addr.mk r3 0 none)) (Int.toNat 16) (Int.toNat 16), Value.int IntKind.i64 0])) H10) (jn (α := VFH 1) (fun v12 H13 =>
  ∀ v14 v15 v16 v17 v18 v19 v20 v21 v22 v23 v24 v25 v26 v27 v28 v29 v30 v31 v32 v33 v34 v35 v36 : Value,
  dBl v12 (fun b37 =>
  sB b37 (R (Ending.returned (Value.tuple #[Value.slice none 0 0, Value.int IntKind.i64 1])) H13) (ld H13 (Addr.mk r1 0 none) (fun v38 =>
  dInt IntKind.i64 v38 (fun n39 =>
  HCalls Tryz.prog 155 #[Value.slice (some (Addr.mk r3 0 none)) (Int.toNat 16) (Int.toNat 16), Value.int IntKind.i64 0, Value.int IntKind.i64 2, Value.int IntKind.i64 n39] H13 (Sp.retK (fun v40 H41 =>
  dSl v40 (fun p42 r43 r44 =>
  ld H41 (Addr.mk r1 1 none) (fun v45 =>
  dStr v45 (fun s46 =>
  HCalls Tryz.prog 155 #[Value.slice p42 r43 r44, Value.int IntKind.i64 2, Value.int IntKind.i64 1, Value.int IntKind.i64 (↑(ByteArray.size s46) : Int)] H41 (Sp.retK (fun v47 H48 =>
  dSl v47 (fun p49 r50 r51 =>
  ask ((0 : Int) ≤ (3 : Int) ∧ (3 : Int) ≤ (↑r50 : Int) ∧ (↑r50 : Int) ≤ (↑r51 : Int) ∧ (↑r51 : Int) ≤ (↑r51 : Int)) (ld H48 (Addr.mk r1 1 none) (fun v52 =>
  dStr v52 (fun s53 =>
  semW Tryz.prog (Builtin.copy_ #[46, 9] 3 #[Value.slice (slO p49 1 3 (↑r51 : Int)) (Int.toNat (↑r50 : Int) - Int.toNat 3) (Int.toNat (↑r51 : Int) - Int.toNat 3), Value.string s53]) nopR H48 (fun v56 H57 =>
  dInt IntKind.i64 v56 (fun n58 =>
  R (Ending.returned (Value.tuple #[Value.slice p49 r50 r51, Value.int IntKind.i64 0])) H57))))))) (pnR R)))))) (pnR R))))))) (fun k63 =>
  ld H10 (Addr.mk r1 0 none) (fun v64 =>
  dInt IntKind.i64 v64 (fun n65 =>
  sB (decide (n65 < 1)) (k63 (Value.bool true) H10) (ld H10 (Addr.mk r1 0 none) (fun v66 =>
  dInt IntKind.i64 v66 (fun n67 =>
  sB (decide (n67 > 511)) (k63 (Value.bool true) H10) (ld H10 (Addr.mk r1 1 none) (fun v68 =>
  dStr v68 (fun s69 =>
  HCalls Tryz.prog 329 #[Value.string s69] H10 (Sp.retK (fun v70 H71 =>
  dBl v70 (fun b72 =>
  sB (!b72) (ld H71 (Addr.mk r1 1 none) (fun v73 =>
  dStr v73 (fun s74 =>
  sB (!ByteArray.toList s74 == [UInt8.ofBitVec 46#8]) (ld H71 (Addr.mk r1 1 none) (fun v75 =>
  dStr v75 (fun s76 =>
  k63 (Value.bool !ByteArray.toList s76 == [UInt8.ofBitVec 46#8, UInt8.ofBitVec 46#8]) H71))) (k63 (Value.bool false) H71)))) (k63 (Value.bool false) H71))) (pnR R)))))))))))))))))))
theorem F251_eq (x0_0 : Value) (x0_1 : Value) (R : Ending → Heap → Prop) (H : Heap) : F251 x0_0 x0_1 R H = vc Tryz.prog (codeOf Tryz.f251) (.node none .leaf (.node none .leaf (.node none .leaf (.node none (.node (some ⟨[(33, 4)], [10, 11, 12, 13, 14, 15, 16, 17, 18, 19, 20, 21, 22, 23, 24, 25, 26, 27, 28, 29, 30, 31, 32]⟩) .leaf .leaf) .leaf)))) (postV Tryz.prog Tryz.f251 R) ⟨#[Value.agg #[x0_0, x0_1]] ++ Array.replicate (Tryz.f251.ntmps - 1) undef, []⟩ H := by kernel_rfl
theorem F251_calls {R : Ending → Heap → Prop} {H : Heap} (x0_0 : Value) (x0_1 : Value) (h : F251 x0_0 x0_1 R H) : HCalls Tryz.prog 251 #[Value.agg #[x0_0, x0_1]] H R :=
  calls_by (F := F251 x0_0 x0_1 R H) (.node none .leaf (.node none .leaf (.node none .leaf (.node none (.node (some ⟨[(33, 4)], [10, 11, 12, 13, 14, 15, 16, 17, 18, 19, 20, 21, 22, 23, 24, 25, 26, 27, 28, 29, 30, 31, 32]⟩) .leaf .leaf) .leaf)))) Tryz.func251 rfl (F251_eq x0_0 x0_1 R H) h
end Go.Proofs.YtdlelcpkelginaaGreat.E
/- The functions' forms in the engine's words, printed by my own program. -/
namespace Go.Proofs.YtdlelcpkelginaaGreat.E
open Go Go.Proofs
set_option linter.unusedVariables false
/-- bollard/bollardref03.address -/
def F260 (x0 : Int) (R : Ending → Heap → Prop) (H : Heap) : Prop :=
  sB (decide (x0 ≥ 0)) (R (Ending.returned (Value.bool (decide (x0 < 2048)))) H) (R (Ending.returned (Value.bool false)) H)
theorem F260_eq (x0 : Int) (R : Ending → Heap → Prop) (H : Heap) : F260 x0 R H = vc Tryz.prog (codeOf Tryz.f260) .leaf (postV Tryz.prog Tryz.f260 R) ⟨#[Value.int IntKind.i64 x0] ++ Array.replicate (Tryz.f260.ntmps - 1) undef, []⟩ H := by kernel_rfl
theorem F260_calls {R : Ending → Heap → Prop} {H : Heap} (x0 : Int) (h : F260 x0 R H) : HCalls Tryz.prog 260 #[Value.int IntKind.i64 x0] H R :=
  calls_by (F := F260 x0 R H) .leaf Tryz.func260 rfl (F260_eq x0 R H) h
/-- bollard/bollardref01.Put -/
def F261 (x0a : Option Addr) (x0n : Nat) (x0c : Nat) (x1 : Int) (x2 : Int) (x3 : Int) (R : Ending → Heap → Prop) (H : Heap) : Prop :=
  jn (α := VFH 1) (fun v1 H2 =>
  ∀ v3 v4 v5 v6 v7 v8 v9 v10 v11 v12 v13 v14 v15 v16 v17 v18 v19 v20 v21 v22 : Value,
  dBl v1 (fun b23 =>
  sB b23 (R (Ending.returned (Value.tuple #[Value.slice none 0 0, Value.int IntKind.i64 1])) H2) (wr IntKind.i64 ((↑x0n : Int) - x2) (fun n24 =>
  sB (decide (x1 > n24)) (R (Ending.returned (Value.tuple #[Value.slice none 0 0, Value.int IntKind.i64 10])) H2) (al H2 (Obj.cells #[] 5) (fun r25 H26 =>
  semW Tryz.prog (Builtin.append_ #[46, 46] 46 #[Value.slice (some (Addr.mk r25 0 none)) 0 0, Value.slice x0a x0n x0c]) (pnR R) H26 (fun v29 H30 =>
  dSl v29 (fun p31 r32 r33 =>
  ∃ I34 : List Value → Heap → Prop,
  ∃ I35 : List Value → Heap → Nat,
  (I34 ([Value.int IntKind.i64 x3, Value.int IntKind.i64 0]) H30) ∧
  ∀ n36 : Int,
  ∀ n37 : Int,
  ∀ v38 v39 v40 v41 v42 v43 v44 v45 v46 v47 v48 v49 v50 v51 : Value,
  ∀ H52 : Heap,
  (I34 ([Value.int IntKind.i64 n36, Value.int IntKind.i64 n37]) H52) →
  sB (decide (n37 < x2)) (wr IntKind.i64 (x1 + n37) (fun n54 =>
  ask ((256 : Int) ≠ (0 : Int)) (nm (Int.tmod n36 256) (fun n55 =>
  wr IntKind.u8 n55 (fun n56 =>
  nz p31 (fun a57 =>
  ask ((0 : Int) ≤ n54 ∧ n54 < (↑r32 : Int)) (st H52 (Addr.add a57 (Int.toNat n54 * 1)) (Value.int IntKind.u8 n56) (fun H58 =>
  ask ((256 : Int) ≠ (0 : Int)) (wr IntKind.i64 (Int.tdiv n36 256) (fun n59 =>
  wr IntKind.i64 (n37 + 1) (fun n60 =>
  (I34 ([Value.int IntKind.i64 n59, Value.int IntKind.i64 n60]) H58) ∧
  (I35 [Value.int IntKind.i64 n59, Value.int IntKind.i64 n60] H58) < (I35 [Value.int IntKind.i64 n36, Value.int IntKind.i64 n37] H52)))))))))))) (R (Ending.returned (Value.tuple #[Value.slice p31 r32 r33, Value.int IntKind.i64 0])) H52))))))))) (fun k61 =>
  sB (decide (x2 < 1)) (k61 (Value.bool true) H) (sB (decide (x2 > 4)) (k61 (Value.bool true) H) (sB (decide (x1 < 0)) (k61 (Value.bool true) H) (sB (decide (x3 < 0)) (k61 (Value.bool true) H) (wr IntKind.i64 (8 * x2) (fun n62 =>
  ask ((0 : Int) ≤ n62) (nm (IntKind.wrap IntKind.i64 (1 * 2 ^ min (Int.toNat n62) 64)) (fun n63 =>
  k61 (Value.bool (decide (x3 ≥ n63))) H))))))))
theorem F261_eq (x0a : Option Addr) (x0n : Nat) (x0c : Nat) (x1 : Int) (x2 : Int) (x3 : Int) (R : Ending → Heap → Prop) (H : Heap) : F261 x0a x0n x0c x1 x2 x3 R H = vc Tryz.prog (codeOf Tryz.f261) (.node none .leaf (.node none (.node (some ⟨[(32, 4)], [12, 13, 14, 15, 16, 17, 18, 19, 20, 21, 22, 23, 24, 25, 26, 27, 28, 29, 30, 31]⟩) .leaf .leaf) (.node none .leaf (.node none .leaf (.node none (.node none .leaf (.node none (.node (some ⟨[(3, 3), (43, 3)], [11, 44, 45, 46, 47, 48, 49, 50, 51, 52, 53, 54, 55, 56]⟩) .leaf .leaf) .leaf)) .leaf))))) (postV Tryz.prog Tryz.f261 R) ⟨#[Value.slice x0a x0n x0c, Value.int IntKind.i64 x1, Value.int IntKind.i64 x2, Value.int IntKind.i64 x3] ++ Array.replicate (Tryz.f261.ntmps - 4) undef, []⟩ H := by kernel_rfl
theorem F261_calls {R : Ending → Heap → Prop} {H : Heap} (x0a : Option Addr) (x0n : Nat) (x0c : Nat) (x1 : Int) (x2 : Int) (x3 : Int) (h : F261 x0a x0n x0c x1 x2 x3 R H) : HCalls Tryz.prog 261 #[Value.slice x0a x0n x0c, Value.int IntKind.i64 x1, Value.int IntKind.i64 x2, Value.int IntKind.i64 x3] H R :=
  calls_by (F := F261 x0a x0n x0c x1 x2 x3 R H) (.node none .leaf (.node none (.node (some ⟨[(32, 4)], [12, 13, 14, 15, 16, 17, 18, 19, 20, 21, 22, 23, 24, 25, 26, 27, 28, 29, 30, 31]⟩) .leaf .leaf) (.node none .leaf (.node none .leaf (.node none (.node none .leaf (.node none (.node (some ⟨[(3, 3), (43, 3)], [11, 44, 45, 46, 47, 48, 49, 50, 51, 52, 53, 54, 55, 56]⟩) .leaf .leaf) .leaf)) .leaf))))) Tryz.func261 rfl (F261_eq x0a x0n x0c x1 x2 x3 R H) h
/-- bollard/bollardref01.Sum -/
def F262 (x0a : Option Addr) (x0n : Nat) (x0c : Nat) (R : Ending → Heap → Prop) (H : Heap) : Prop :=
  ∃ I1 : List Value → Heap → Prop,
  ∃ I2 : List Value → Heap → Nat,
  (I1 ([Value.int IntKind.i64 1, Value.int IntKind.i64 0, Value.int IntKind.i64 0]) H) ∧
  ∀ n3 : Int,
  ∀ n4 : Int,
  ∀ n5 : Int,
  ∀ v6 v7 v8 v9 v10 v11 v12 v13 v14 v15 v16 v17 v18 v19 : Value,
  ∀ H20 : Heap,
  (I1 ([Value.int IntKind.i64 n3, Value.int IntKind.i64 n4, Value.int IntKind.i64 n5]) H20) →
  sB (decide (n5 < (↑x0n : Int))) (nz x0a (fun a22 =>
  ask ((0 : Int) ≤ n5 ∧ n5 < (↑x0n : Int)) (ld H20 (Addr.add a22 (Int.toNat n5 * 1)) (fun v23 =>
  dInt IntKind.u8 v23 (fun n24 =>
  wr IntKind.i64 n24 (fun n25 =>
  wr IntKind.i64 (n3 + n25) (fun n26 =>
  ask ((65521 : Int) ≠ (0 : Int)) (nm (Int.tmod n26 65521) (fun n27 =>
  wr IntKind.i64 (n4 + n27) (fun n28 =>
  ask ((65521 : Int) ≠ (0 : Int)) (nm (Int.tmod n28 65521) (fun n29 =>
  wr IntKind.i64 (n5 + 1) (fun n30 =>
  (I1 ([Value.int IntKind.i64 n27, Value.int IntKind.i64 n29, Value.int IntKind.i64 n30]) H20) ∧
  (I2 [Value.int IntKind.i64 n27, Value.int IntKind.i64 n29, Value.int IntKind.i64 n30] H20) < (I2 [Value.int IntKind.i64 n3, Value.int IntKind.i64 n4, Value.int IntKind.i64 n5] H20)))))))))))))) (wr IntKind.i64 (n4 * 65536) (fun n31 =>
  wr IntKind.i64 (n31 + n3) (fun n32 =>
  R (Ending.returned (Value.int IntKind.i64 n32)) H20)))
theorem F262_eq (x0a : Option Addr) (x0n : Nat) (x0c : Nat) (R : Ending → Heap → Prop) (H : Heap) : F262 x0a x0n x0c R H = vc Tryz.prog (codeOf Tryz.f262) (.node none .leaf (.node none .leaf (.node none (.node none .leaf (.node none (.node (some ⟨[(3, 3), (4, 3), (9, 3)], [6, 10, 11, 12, 13, 14, 15, 16, 17, 18, 19, 20, 21, 22]⟩) .leaf .leaf) .leaf)) .leaf))) (postV Tryz.prog Tryz.f262 R) ⟨#[Value.slice x0a x0n x0c] ++ Array.replicate (Tryz.f262.ntmps - 1) undef, []⟩ H := by kernel_rfl
theorem F262_calls {R : Ending → Heap → Prop} {H : Heap} (x0a : Option Addr) (x0n : Nat) (x0c : Nat) (h : F262 x0a x0n x0c R H) : HCalls Tryz.prog 262 #[Value.slice x0a x0n x0c] H R :=
  calls_by (F := F262 x0a x0n x0c R H) (.node none .leaf (.node none .leaf (.node none (.node none .leaf (.node none (.node (some ⟨[(3, 3), (4, 3), (9, 3)], [6, 10, 11, 12, 13, 14, 15, 16, 17, 18, 19, 20, 21, 22]⟩) .leaf .leaf) .leaf)) .leaf))) Tryz.func262 rfl (F262_eq x0a x0n x0c R H) h
/-- (*bollard/cache.Cache).get -/
def F278 (x0 : Option Addr) (x1 : Int) (R : Ending → Heap → Prop) (H : Heap) : Prop :=
  HCalls Tryz.prog 345 #[Value.pointer x0, Value.int IntKind.i64 x1] H (Sp.retK (fun v1 H2 =>
  dInt IntKind.i64 v1 (fun n3 =>
  sB (n3 != 0) (R (Ending.returned (Value.tuple #[Value.pointer none, Value.int IntKind.i64 n3])) H2) (nz x0 (fun a4 =>
  ld H2 (Addr.add a4 2) (fun v5 =>
  dMap v5 (fun p6 =>
  semW Tryz.prog (Instr.lookup 349 (Value.map p6) (Value.int IntKind.i64 x1) true) (pnR R) H2 (fun v9 H10 =>
  dT 2 v9 (fun v11 v12 =>
  dPtr v11 (fun p13 =>
  dBl v12 (fun b14 =>
  jn (α := VFH 1) (fun v15 H16 =>
  ∀ v17 v18 v19 v20 v21 v22 v23 v24 v25 v26 v27 v28 v29 v30 v31 v32 v33 v34 v35 v36 v37 v38 v39 v40 v41 v42 v43 v44 v45 : Value,
  dPtr v15 (fun p46 =>
  nz x0 (fun a47 =>
  ld H16 (Addr.add a47 3) (fun v48 =>
  dInt IntKind.i64 v48 (fun n49 =>
  wr IntKind.i64 (n49 + 1) (fun n50 =>
  nz x0 (fun a51 =>
  st H16 (Addr.add a51 3) (Value.int IntKind.i64 n50) (fun H52 =>
  nz x0 (fun a53 =>
  ld H52 (Addr.add a53 3) (fun v54 =>
  dInt IntKind.i64 v54 (fun n55 =>
  nz p46 (fun a56 =>
  st H52 (Addr.add a56 2) (Value.int IntKind.i64 n55) (fun H57 =>
  R (Ending.returned (Value.tuple #[Value.pointer p46, Value.int IntKind.i64 0])) H57))))))))))))) (fun k58 =>
  sB b14 (nz x0 (fun a59 =>
  ld H10 (Addr.add a59 4) (fun v60 =>
  dInt IntKind.i64 v60 (fun n61 =>
  wr IntKind.i64 (n61 + 1) (fun n62 =>
  nz x0 (fun a63 =>
  st H10 (Addr.add a63 4) (Value.int IntKind.i64 n62) (fun H64 =>
  k58 (Value.pointer p13) H64))))))) (nz x0 (fun a65 =>
  ld H10 (Addr.add a65 5) (fun v66 =>
  dInt IntKind.i64 v66 (fun n67 =>
  wr IntKind.i64 (n67 + 1) (fun n68 =>
  nz x0 (fun a69 =>
  st H10 (Addr.add a69 5) (Value.int IntKind.i64 n68) (fun H70 =>
  HCalls Tryz.prog 346 #[Value.pointer x0, Value.int IntKind.i64 x1] H70 (Sp.retK (fun v71 H72 =>
  dT 2 v71 (fun v73 v74 =>
  dPtr v73 (fun p75 =>
  dInt IntKind.i64 v74 (fun n76 =>
  sB (n76 != 0) (R (Ending.returned (Value.tuple #[Value.pointer none, Value.int IntKind.i64 n76])) H72) (k58 (Value.pointer p75) H72))))) (pnR R)))))))))))))))))))) (pnR R))
theorem F278_eq (x0 : Option Addr) (x1 : Int) (R : Ending → Heap → Prop) (H : Heap) : F278 x0 x1 R H = vc Tryz.prog (codeOf Tryz.f278) (.node none .leaf (.node none .leaf (.node none .leaf (.node (some ⟨[(7, 340)], [4, 5, 9, 10, 26, 27, 28, 29, 30, 31, 32, 33, 34, 35, 36, 37, 38, 39, 40, 41, 42, 43, 44, 45, 46, 47, 48, 49, 50]⟩) .leaf .leaf)))) (postV Tryz.prog Tryz.f278 R) ⟨#[Value.pointer x0, Value.int IntKind.i64 x1] ++ Array.replicate (Tryz.f278.ntmps - 2) undef, []⟩ H := by kernel_rfl
theorem F278_calls {R : Ending → Heap → Prop} {H : Heap} (x0 : Option Addr) (x1 : Int) (h : F278 x0 x1 R H) : HCalls Tryz.prog 278 #[Value.pointer x0, Value.int IntKind.i64 x1] H R :=
  calls_by (F := F278 x0 x1 R H) (.node none .leaf (.node none .leaf (.node none .leaf (.node (some ⟨[(7, 340)], [4, 5, 9, 10, 26, 27, 28, 29, 30, 31, 32, 33, 34, 35, 36, 37, 38, 39, 40, 41, 42, 43, 44, 45, 46, 47, 48, 49, 50]⟩) .leaf .leaf)))) Tryz.func278 rfl (F278_eq x0 x1 R H) h
/-- (*bollard/patch.Set).over -/
def F279 (x0 : Option Addr) (x1a : Option Addr) (x1n : Nat) (x1c : Nat) (x2a : Option Addr) (x2n : Nat) (x2c : Nat) (R : Ending → Heap → Prop) (H : Heap) : Prop :=
  HCalls Tryz.prog 177 #[Value.slice x1a x1n x1c] H (Sp.retK (fun v1 H2 =>
  dSl v1 (fun p3 r4 r5 =>
  ∃ I6 : List Value → Heap → Prop,
  ∃ I7 : List Value → Heap → Nat,
  (I6 ([Value.int IntKind.i64 0]) H2) ∧
  ∀ n8 : Int,
  ∀ v9 v10 v11 v12 v13 v14 v15 v16 v17 v18 v19 v20 v21 v22 v23 v24 v25 v26 v27 : Value,
  ∀ H28 : Heap,
  (I6 ([Value.int IntKind.i64 n8]) H28) →
  sB (decide (n8 < (↑x2n : Int))) (nz x2a (fun a30 =>
  ask ((0 : Int) ≤ n8 ∧ n8 < (↑x2n : Int)) (ld H28 (Addr.add a30 (Int.toNat n8 * 1)) (fun v31 =>
  dInt IntKind.i64 v31 (fun n32 =>
  nz x0 (fun a33 =>
  ld H28 (Addr.add a33 2) (fun v34 =>
  dMap v34 (fun p35 =>
  semW Tryz.prog (Instr.lookup 258 (Value.map p35) (Value.int IntKind.i64 n32) false) (pnR R) H28 (fun v38 H39 =>
  dA 5 v38 (fun v40 v41 v42 v43 v44 =>
  al H39 (Obj.cells #[Value.int IntKind.i64 0, Value.int IntKind.i64 0, Value.int IntKind.i64 0, Value.slice none 0 0, Value.slice none 0 0] 262) (fun r45 H46 =>
  st H46 (Addr.mk r45 0 none) v40 (fun H47 =>
  st H47 (Addr.mk r45 1 none) v41 (fun H48 =>
  st H48 (Addr.mk r45 2 none) v42 (fun H49 =>
  st H49 (Addr.mk r45 3 none) v43 (fun H50 =>
  st H50 (Addr.mk r45 4 none) v44 (fun H51 =>
  ld H51 (Addr.mk r45 2 none) (fun v52 =>
  dInt IntKind.i64 v52 (fun n53 =>
  ask ((0 : Int) ≤ n53 ∧ n53 ≤ (↑r4 : Int) ∧ (↑r4 : Int) ≤ (↑r5 : Int) ∧ (↑r5 : Int) ≤ (↑r5 : Int)) (ld H51 (Addr.mk r45 3 none) (fun v54 =>
  dSl v54 (fun p55 r56 r57 =>
  semW Tryz.prog (Builtin.copy_ #[46, 46] 3 #[Value.slice (slO p3 1 n53 (↑r5 : Int)) (Int.toNat (↑r4 : Int) - Int.toNat n53) (Int.toNat (↑r5 : Int) - Int.toNat n53), Value.slice p55 r56 r57]) nopR H51 (fun v60 H61 =>
  dInt IntKind.i64 v60 (fun n62 =>
  wr IntKind.i64 (n8 + 1) (fun n63 =>
  (I6 ([Value.int IntKind.i64 n63]) H61) ∧
  (I7 [Value.int IntKind.i64 n63] H61) < (I7 [Value.int IntKind.i64 n8] H28))))))))))))))))))))))))) (R (Ending.returned (Value.slice p3 r4 r5)) H28))) (pnR R))
theorem F279_eq (x0 : Option Addr) (x1a : Option Addr) (x1n : Nat) (x1c : Nat) (x2a : Option Addr) (x2n : Nat) (x2c : Nat) (R : Ending → Heap → Prop) (H : Heap) : F279 x0 x1a x1n x1c x2a x2n x2c R H = vc Tryz.prog (codeOf Tryz.f279) (.node none .leaf (.node none .leaf (.node none (.node none .leaf (.node none (.node (some ⟨[(15, 3)], [9, 10, 16, 17, 18, 19, 20, 21, 22, 23, 24, 25, 26, 27, 28, 29, 30, 31, 32]⟩) .leaf .leaf) .leaf)) .leaf))) (postV Tryz.prog Tryz.f279 R) ⟨#[Value.pointer x0, Value.slice x1a x1n x1c, Value.slice x2a x2n x2c] ++ Array.replicate (Tryz.f279.ntmps - 3) undef, []⟩ H := by kernel_rfl
theorem F279_calls {R : Ending → Heap → Prop} {H : Heap} (x0 : Option Addr) (x1a : Option Addr) (x1n : Nat) (x1c : Nat) (x2a : Option Addr) (x2n : Nat) (x2c : Nat) (h : F279 x0 x1a x1n x1c x2a x2n x2c R H) : HCalls Tryz.prog 279 #[Value.pointer x0, Value.slice x1a x1n x1c, Value.slice x2a x2n x2c] H R :=
  calls_by (F := F279 x0 x1a x1n x1c x2a x2n x2c R H) (.node none .leaf (.node none .leaf (.node none (.node none .leaf (.node none (.node (some ⟨[(15, 3)], [9, 10, 16, 17, 18, 19, 20, 21, 22, 23, 24, 25, 26, 27, 28, 29, 30, 31, 32]⟩) .leaf .leaf) .leaf)) .leaf))) Tryz.func279 rfl (F279_eq x0 x1a x1n x1c x2a x2n x2c R H) h
/-- slices.IndexFunc[[]int,int] -/
def F280 (x0a : Option Addr) (x0n : Nat) (x0c : Nat) (x1g : Nat) (x1f : Array Value) (x1c : Array Value) (R : Ending → Heap → Prop) (H : Heap) : Prop :=
  ∃ I1 : List Value → Heap → Prop,
  ∃ I2 : List Value → Heap → Nat,
  (I1 ([Value.int IntKind.i64 0]) H) ∧
  ∀ n3 : Int,
  ∀ v4 v5 v6 v7 v8 v9 v10 v11 v12 v13 v14 v15 : Value,
  ∀ H16 : Heap,
  (I1 ([Value.int IntKind.i64 n3]) H16) →
  sB (decide (n3 < (↑x0n : Int))) (nz x0a (fun a18 =>
  ask ((0 : Int) ≤ n3 ∧ n3 < (↑x0n : Int)) (ld H16 (Addr.add a18 (Int.toNat n3 * 1)) (fun v19 =>
  dInt IntKind.i64 v19 (fun n20 =>
  gB (plainFn Tryz.prog x1g) (HCalls Tryz.prog x1g (argsOf x1f [Value.int IntKind.i64 n20] x1c) H16 (Sp.retK (fun v21 H22 =>
  dBl v21 (fun b23 =>
  sB b23 (R (Ending.returned (Value.int IntKind.i64 n3)) H22) (wr IntKind.i64 (n3 + 1) (fun n24 =>
  (I1 ([Value.int IntKind.i64 n24]) H22) ∧
  (I2 [Value.int IntKind.i64 n24] H22) < (I2 [Value.int IntKind.i64 n3] H16))))) (pnR R)))))))) (R (Ending.returned (Value.int IntKind.i64 (-1))) H16)
theorem F280_eq (x0a : Option Addr) (x0n : Nat) (x0c : Nat) (x1g : Nat) (x1f : Array Value) (x1c : Array Value) (R : Ending → Heap → Prop) (H : Heap) : F280 x0a x0n x0c x1g x1f x1c R H = vc Tryz.prog (codeOf Tryz.f280) (.node none .leaf (.node none (.node none .leaf (.node none (.node (some ⟨[(8, 3)], [4, 5, 9, 10, 11, 12, 13, 14, 15, 16, 17, 18]⟩) .leaf .leaf) .leaf)) .leaf)) (postV Tryz.prog Tryz.f280 R) ⟨#[Value.slice x0a x0n x0c, Value.func (Fn.func x1g) x1f x1c] ++ Array.replicate (Tryz.f280.ntmps - 2) undef, []⟩ H := by kernel_rfl
theorem F280_calls {R : Ending → Heap → Prop} {H : Heap} (x0a : Option Addr) (x0n : Nat) (x0c : Nat) (x1g : Nat) (x1f : Array Value) (x1c : Array Value) (h : F280 x0a x0n x0c x1g x1f x1c R H) : HCalls Tryz.prog 280 #[Value.slice x0a x0n x0c, Value.func (Fn.func x1g) x1f x1c] H R :=
  calls_by (F := F280 x0a x0n x0c x1g x1f x1c R H) (.node none .leaf (.node none (.node none .leaf (.node none (.node (some ⟨[(8, 3)], [4, 5, 9, 10, 11, 12, 13, 14, 15, 16, 17, 18]⟩) .leaf .leaf) .leaf)) .leaf)) Tryz.func280 rfl (F280_eq x0a x0n x0c x1g x1f x1c R H) h
end Go.Proofs.YtdlelcpkelginaaGreat.E
/- The functions' forms in the engine's words, printed by my own program. -/
namespace Go.Proofs.YtdlelcpkelginaaGreat.E
open Go Go.Proofs
set_option linter.unusedVariables false
/-- (*bollard/patch.Set).all -/
def F292 (x0 : Option Addr) (R : Ending → Heap → Prop) (H : Heap) : Prop :=
  nz x0 (fun a1 =>
  ld H (Addr.add a1 2) (fun v2 =>
  dMap v2 (fun p3 =>
  HCalls Tryz.prog 351 #[Value.map p3] H (Sp.retK (fun v4 H5 =>
  HCalls Tryz.prog 350 #[v4] H5 (Sp.retK (fun v6 H7 =>
  dSl v6 (fun p8 r9 r10 =>
  R (Ending.returned (Value.slice p8 r9 r10)) H7)) (pnR R))) (pnR R)))))
theorem F292_eq (x0 : Option Addr) (R : Ending → Heap → Prop) (H : Heap) : F292 x0 R H = vc Tryz.prog (codeOf Tryz.f292) .leaf (postV Tryz.prog Tryz.f292 R) ⟨#[Value.pointer x0] ++ Array.replicate (Tryz.f292.ntmps - 1) undef, []⟩ H := by kernel_rfl
theorem F292_calls {R : Ending → Heap → Prop} {H : Heap} (x0 : Option Addr) (h : F292 x0 R H) : HCalls Tryz.prog 292 #[Value.pointer x0] H R :=
  calls_by (F := F292 x0 R H) .leaf Tryz.func292 rfl (F292_eq x0 R H) h
/-- (*bollard/patch.Set).Of$1 -/
def F293 (x0 : Int) (f0 : Addr) (f1 : Addr) (R : Ending → Heap → Prop) (H : Heap) : Prop :=
  ld H f0 (fun v1 =>
  dPtr v1 (fun p2 =>
  nz p2 (fun a3 =>
  ld H (Addr.add a3 2) (fun v4 =>
  dMap v4 (fun p5 =>
  ld H f1 (fun v6 =>
  dInt IntKind.i64 v6 (fun n7 =>
  semW Tryz.prog (Instr.lookup 258 (Value.map p5) (Value.int IntKind.i64 x0) false) nopR H (fun v10 H11 =>
  dA 5 v10 (fun v12 v13 v14 v15 v16 =>
  (ld H11 f1 (fun v17 =>
  dInt IntKind.i64 v17 (fun n18 =>
  (Value.int IntKind.i64 n18) = (Value.int IntKind.i64 n7)))) ∧
  dInt IntKind.i64 v13 (fun n19 =>
  R (Ending.returned (Value.bool (n19 != n7))) H11))))))))))
theorem F293_eq (x0 : Int) (f0 : Addr) (f1 : Addr) (R : Ending → Heap → Prop) (H : Heap) : F293 x0 f0 f1 R H = vc Tryz.prog (codeOf Tryz.f293) .leaf (postV Tryz.prog Tryz.f293 R) ⟨#[Value.int IntKind.i64 x0, Value.pointer (some f0), Value.pointer (some f1)] ++ Array.replicate (Tryz.f293.ntmps - 3) undef, []⟩ H := by kernel_rfl
theorem F293_calls {R : Ending → Heap → Prop} {H : Heap} (x0 : Int) (f0 : Addr) (f1 : Addr) (h : F293 x0 f0 f1 R H) : HCalls Tryz.prog 293 #[Value.int IntKind.i64 x0, Value.pointer (some f0), Value.pointer (some f1)] H R :=
  calls_by (F := F293 x0 f0 f1 R H) .leaf Tryz.func293 rfl (F293_eq x0 f0 f1 R H) h
/-- (*bollard/check.Checker).inode -/
def F299 (x0 : Option Addr) (x1 : Int) (R : Ending → Heap → Prop) (H : Heap) : Prop :=
  al H (Obj.cells #[Value.int IntKind.i64 0, Value.int IntKind.i64 0, Value.int IntKind.i64 0, Value.int IntKind.i64 0, Value.int IntKind.i64 0, Value.int IntKind.i64 0, Value.int IntKind.i64 0, Value.int IntKind.i64 0, Value.int IntKind.i64 0] 26) (fun r1 H2 =>
  nz x0 (fun a3 =>
  ld H2 (Addr.add a3 1) (fun v4 =>
  ld H2 (Addr.add (Addr.add a3 1) 1) (fun v5 =>
  ld H2 (Addr.add (Addr.add a3 1) 2) (fun v6 =>
  HCalls Tryz.prog 141 #[Value.agg #[v4, v5, v6], Value.int IntKind.i64 x1] H2 (Sp.retK (fun v7 H8 =>
  dT 3 v7 (fun v9 v10 v11 =>
  dInt IntKind.i64 v9 (fun n12 =>
  dInt IntKind.i64 v10 (fun n13 =>
  dBl v11 (fun b14 =>
  sB (!b14) (st H8 (Addr.mk r1 0 none) (Value.int IntKind.i64 0) (fun H15 =>
  st H15 (Addr.mk r1 1 none) (Value.int IntKind.i64 0) (fun H16 =>
  st H16 (Addr.mk r1 2 none) (Value.int IntKind.i64 0) (fun H17 =>
  st H17 (Addr.mk r1 3 none) (Value.int IntKind.i64 0) (fun H18 =>
  st H18 (Addr.mk r1 4 none) (Value.int IntKind.i64 0) (fun H19 =>
  st H19 (Addr.mk r1 5 none) (Value.int IntKind.i64 0) (fun H20 =>
  st H20 (Addr.mk r1 6 none) (Value.int IntKind.i64 0) (fun H21 =>
  st H21 (Addr.mk r1 7 none) (Value.int IntKind.i64 0) (fun H22 =>
  st H22 (Addr.mk r1 8 none) (Value.int IntKind.i64 0) (fun H23 =>
  ld H23 (Addr.mk r1 0 none) (fun v24 =>
  ld H23 (Addr.mk r1 1 none) (fun v25 =>
  ld H23 (Addr.mk r1 2 none) (fun v26 =>
  ld H23 (Addr.mk r1 3 none) (fun v27 =>
  ld H23 (Addr.mk r1 4 none) (fun v28 =>
  ld H23 (Addr.mk r1 5 none) (fun v29 =>
  ld H23 (Addr.mk r1 6 none) (fun v30 =>
  ld H23 (Addr.mk r1 7 none) (fun v31 =>
  ld H23 (Addr.mk r1 8 none) (fun v32 =>
  R (Ending.returned (Value.tuple #[Value.agg #[v24, v25, v26, v27, v28, v29, v30, v31, v32], Value.int IntKind.i64 0])) H23))))))))))))))))))) (nz x0 (fun a33 =>
  ld H8 a33 (fun v34 =>
  dPtr v34 (fun p35 =>
  HCalls Tryz.prog 74 #[Value.pointer p35, Value.int IntKind.i64 n12] H8 (Sp.retK (fun v36 H37 =>
  dT 2 v36 (fun v38 v39 =>
  dSl v38 (fun p40 r41 r42 =>
  dInt IntKind.i64 v39 (fun n43 =>
  sB (n43 != 0) (st H37 (Addr.mk r1 0 none) (Value.int IntKind.i64 0) (fun H44 =>
  st H44 (Addr.mk r1 1 none) (Value.int IntKind.i64 0) (fun H45 =>
  st H45 (Addr.mk r1 2 none) (Value.int IntKind.i64 0) (fun H46 =>
  st H46 (Addr.mk r1 3 none) (Value.int IntKind.i64 0) (fun H47 =>
  st H47 (Addr.mk r1 4 none) (Value.int IntKind.i64 0) (fun H48 =>
  st H48 (Addr.mk r1 5 none) (Value.int IntKind.i64 0) (fun H49 =>
  st H49 (Addr.mk r1 6 none) (Value.int IntKind.i64 0) (fun H50 =>
  st H50 (Addr.mk r1 7 none) (Value.int IntKind.i64 0) (fun H51 =>
  st H51 (Addr.mk r1 8 none) (Value.int IntKind.i64 0) (fun H52 =>
  ld H52 (Addr.mk r1 0 none) (fun v53 =>
  ld H52 (Addr.mk r1 1 none) (fun v54 =>
  ld H52 (Addr.mk r1 2 none) (fun v55 =>
  ld H52 (Addr.mk r1 3 none) (fun v56 =>
  ld H52 (Addr.mk r1 4 none) (fun v57 =>
  ld H52 (Addr.mk r1 5 none) (fun v58 =>
  ld H52 (Addr.mk r1 6 none) (fun v59 =>
  ld H52 (Addr.mk r1 7 none) (fun v60 =>
  ld H52 (Addr.mk r1 8 none) (fun v61 =>
  R (Ending.returned (Value.tuple #[Value.agg #[v53, v54, v55, v56, v57, v58, v59, v60, v61], Value.int IntKind.i64 n43])) H52))))))))))))))))))) (wr IntKind.i64 (n13 + 32) (fun n62 =>
  ask ((0 : Int) ≤ n13 ∧ n13 ≤ n62 ∧ n62 ≤ (↑r42 : Int) ∧ (↑r42 : Int) ≤ (↑r42 : Int)) (HCalls Tryz.prog 57 #[Value.slice (slO p40 1 n13 (↑r42 : Int)) (Int.toNat n62 - Int.toNat n13) (Int.toNat (↑r42 : Int) - Int.toNat n13)] H37 (Sp.retK (fun v63 H64 =>
  dT 2 v63 (fun v65 v66 =>
  dA 9 v65 (fun v67 v68 v69 v70 v71 v72 v73 v74 v75 =>
  dInt IntKind.i64 v66 (fun n76 =>
  al H64 (Obj.cells #[Value.int IntKind.i64 0, Value.int IntKind.i64 0, Value.int IntKind.i64 0, Value.int IntKind.i64 0, Value.int IntKind.i64 0, Value.int IntKind.i64 0, Value.int IntKind.i64 0, Value.int IntKind.i64 0, Value.int IntKind.i64 0] 26) (fun r77 H78 =>
  st H78 (Addr.mk r77 0 none) v67 (fun H79 =>
  st H79 (Addr.mk r77 1 none) v68 (fun H80 =>
  st H80 (Addr.mk r77 2 none) v69 (fun H81 =>
  st H81 (Addr.mk r77 3 none) v70 (fun H82 =>
  st H82 (Addr.mk r77 4 none) v71 (fun H83 =>
  st H83 (Addr.mk r77 5 none) v72 (fun H84 =>
  st H84 (Addr.mk r77 6 none) v73 (fun H85 =>
  st H85 (Addr.mk r77 7 none) v74 (fun H86 =>
  st H86 (Addr.mk r77 8 none) v75 (fun H87 =>
  ld H87 (Addr.mk r77 0 none) (fun v88 =>
  ld H87 (Addr.mk r77 1 none) (fun v89 =>
  ld H87 (Addr.mk r77 2 none) (fun v90 =>
  ld H87 (Addr.mk r77 3 none) (fun v91 =>
  ld H87 (Addr.mk r77 4 none) (fun v92 =>
  ld H87 (Addr.mk r77 5 none) (fun v93 =>
  ld H87 (Addr.mk r77 6 none) (fun v94 =>
  ld H87 (Addr.mk r77 7 none) (fun v95 =>
  ld H87 (Addr.mk r77 8 none) (fun v96 =>
  st H87 (Addr.mk r1 0 none) v88 (fun H97 =>
  st H97 (Addr.mk r1 1 none) v89 (fun H98 =>
  st H98 (Addr.mk r1 2 none) v90 (fun H99 =>
  st H99 (Addr.mk r1 3 none) v91 (fun H100 =>
  st H100 (Addr.mk r1 4 none) v92 (fun H101 =>
  st H101 (Addr.mk r1 5 none) v93 (fun H102 =>
  st H102 (Addr.mk r1 6 none) v94 (fun H103 =>
  st H103 (Addr.mk r1 7 none) v95 (fun H104 =>
  st H104 (Addr.mk r1 8 none) v96 (fun H105 =>
  ld H105 (Addr.mk r1 0 none) (fun v106 =>
  ld H105 (Addr.mk r1 1 none) (fun v107 =>
  ld H105 (Addr.mk r1 2 none) (fun v108 =>
  ld H105 (Addr.mk r1 3 none) (fun v109 =>
  ld H105 (Addr.mk r1 4 none) (fun v110 =>
  ld H105 (Addr.mk r1 5 none) (fun v111 =>
  ld H105 (Addr.mk r1 6 none) (fun v112 =>
  ld H105 (Addr.mk r1 7 none) (fun v113 =>
  ld H105 (Addr.mk r1 8 none) (fun v114 =>
  R (Ending.returned (Value.tuple #[Value.agg #[v106, v107, v108, v109, v110, v111, v112, v113, v114], Value.int IntKind.i64 0])) H105))))))))))))))))))))))))))))))))))))))))) (pnR R))))))))) (pnR R))))))))))) (pnR R)))))))
theorem F299_eq (x0 : Option Addr) (x1 : Int) (R : Ending → Heap → Prop) (H : Heap) : F299 x0 x1 R H = vc Tryz.prog (codeOf Tryz.f299) .leaf (postV Tryz.prog Tryz.f299 R) ⟨#[Value.pointer x0, Value.int IntKind.i64 x1] ++ Array.replicate (Tryz.f299.ntmps - 2) undef, []⟩ H := by kernel_rfl
theorem F299_calls {R : Ending → Heap → Prop} {H : Heap} (x0 : Option Addr) (x1 : Int) (h : F299 x0 x1 R H) : HCalls Tryz.prog 299 #[Value.pointer x0, Value.int IntKind.i64 x1] H R :=
  calls_by (F := F299 x0 x1 R H) .leaf Tryz.func299 rfl (F299_eq x0 x1 R H) h
/-- bollard/bollardref03.IsName -/
def F329 (x0 : ByteArray) (R : Ending → Heap → Prop) (H : Heap) : Prop :=
  jn (α := VFH 1) (fun v1 H2 =>
  ∀ v3 v4 v5 v6 v7 v8 v9 v10 v11 v12 v13 v14 v15 v16 : Value,
  dBl v1 (fun b17 =>
  sB b17 (R (Ending.returned (Value.bool false)) H2) (∃ I18 : List Value → Heap → Prop,
  ∃ I19 : List Value → Heap → Nat,
  (I18 ([Value.int IntKind.i64 0]) H2) ∧
  ∀ n20 : Int,
  ∀ v21 v22 v23 v24 v25 v26 v27 v28 v29 v30 v31 v32 v33 v34 v35 v36 v37 v38 v39 v40 v41 v42 v43 : Value,
  ∀ H44 : Heap,
  (I18 ([Value.int IntKind.i64 n20]) H44) →
  sB (decide (n20 < (↑(ByteArray.size x0) : Int))) (jn (α := VFH 1) (fun v46 H47 =>
  ∀ v48 v49 v50 v51 v52 v53 v54 v55 v56 v57 v58 v59 v60 v61 v62 : Value,
  dBl v46 (fun b63 =>
  sB b63 (R (Ending.returned (Value.bool false)) H47) (wr IntKind.i64 (n20 + 1) (fun n64 =>
  (I18 ([Value.int IntKind.i64 n64]) H47) ∧
  (I19 [Value.int IntKind.i64 n64] H47) < (I19 [Value.int IntKind.i64 n20] H44))))) (fun k65 =>
  ask ((0 : Int) ≤ n20 ∧ n20 < (↑(ByteArray.size x0) : Int)) (sB (decide (byteAt x0 (Int.toNat n20) < 33)) (k65 (Value.bool true) H44) (ask ((0 : Int) ≤ n20 ∧ n20 < (↑(ByteArray.size x0) : Int)) (sB (decide (byteAt x0 (Int.toNat n20) > 126)) (k65 (Value.bool true) H44) (ask ((0 : Int) ≤ n20 ∧ n20 < (↑(ByteArray.size x0) : Int)) (k65 (Value.bool (byteAt x0 (Int.toNat n20) == 47)) H44))))))) (R (Ending.returned (Value.bool true)) H44)))) (fun k66 =>
  sB (ByteArray.toList x0 == []) (k66 (Value.bool true) H) (sB (decide ((↑(ByteArray.size x0) : Int) > 13)) (k66 (Value.bool true) H) (sB (ByteArray.toList x0 == [UInt8.ofBitVec 46#8]) (k66 (Value.bool true) H) (k66 (Value.bool (ByteArray.toList x0 == [UInt8.ofBitVec 46#8, UInt8.ofBitVec 46#8])) H))))
theorem F329_eq (x0 : ByteArray) (R : Ending → Heap → Prop) (H : Heap) : F329 x0 R H = vc Tryz.prog (codeOf Tryz.f329) (.node none .leaf (.node none (.node (some ⟨[(18, 4)], [4, 5, 6, 7, 8, 9, 10, 11, 12, 13, 14, 15, 16, 17]⟩) .leaf .leaf) (.node none (.node none .leaf (.node none (.node (some ⟨[(3, 3)], [2, 19, 20, 21, 22, 23, 24, 25, 26, 27, 28, 29, 30, 31, 32, 33, 34, 35, 36, 37, 38, 39, 40]⟩) (.node none .leaf (.node none (.node none (.node (some ⟨[(40, 4)], [25, 26, 27, 28, 29, 30, 31, 32, 33, 34, 35, 36, 37, 38, 39]⟩) .leaf .leaf) .leaf) .leaf)) .leaf) .leaf)) .leaf))) (postV Tryz.prog Tryz.f329 R) ⟨#[Value.string x0] ++ Array.replicate (Tryz.f329.ntmps - 1) undef, []⟩ H := by kernel_rfl
theorem F329_calls {R : Ending → Heap → Prop} {H : Heap} (x0 : ByteArray) (h : F329 x0 R H) : HCalls Tryz.prog 329 #[Value.string x0] H R :=
  calls_by (F := F329 x0 R H) (.node none .leaf (.node none (.node (some ⟨[(18, 4)], [4, 5, 6, 7, 8, 9, 10, 11, 12, 13, 14, 15, 16, 17]⟩) .leaf .leaf) (.node none (.node none .leaf (.node none (.node (some ⟨[(3, 3)], [2, 19, 20, 21, 22, 23, 24, 25, 26, 27, 28, 29, 30, 31, 32, 33, 34, 35, 36, 37, 38, 39, 40]⟩) (.node none .leaf (.node none (.node none (.node (some ⟨[(40, 4)], [25, 26, 27, 28, 29, 30, 31, 32, 33, 34, 35, 36, 37, 38, 39]⟩) .leaf .leaf) .leaf) .leaf)) .leaf) .leaf)) .leaf))) Tryz.func329 rfl (F329_eq x0 R H) h
/-- (*bollard/cache.Cache).look -/
def F345 (x0 : Option Addr) (x1 : Int) (R : Ending → Heap → Prop) (H : Heap) : Prop :=
  jn (α := VFH 1) (fun v1 H2 =>
  ∀ v3 v4 v5 v6 v7 v8 v9 v10 : Value,
  dBl v1 (fun b11 =>
  sB b11 (R (Ending.returned (Value.int IntKind.i64 2)) H2) (jn (α := VFH 1) (fun v12 H13 =>
  ∀ v14 v15 v16 v17 v18 v19 v20 v21 v22 v23 : Value,
  dBl v12 (fun b24 =>
  sB b24 (R (Ending.returned (Value.int IntKind.i64 1)) H13) (R (Ending.returned (Value.int IntKind.i64 0)) H13))) (fun k25 =>
  sB (decide (x1 < 0)) (k25 (Value.bool true) H2) (nz x0 (fun a26 =>
  ld H2 a26 (fun v27 =>
  dPtr v27 (fun p28 =>
  HCalls Tryz.prog 164 #[Value.pointer p28] H2 (Sp.retK (fun v29 H30 =>
  dInt IntKind.i64 v29 (fun n31 =>
  k25 (Value.bool (decide (x1 ≥ n31))) H30)) (pnR R)))))))))) (fun k34 =>
  sB (Option.isNone x0) (k34 (Value.bool true) H) (nz x0 (fun a35 =>
  ld H (Addr.add a35 2) (fun v36 =>
  dMap v36 (fun p37 =>
  k34 (Value.bool (Option.isNone p37)) H)))))
theorem F345_eq (x0 : Option Addr) (x1 : Int) (R : Ending → Heap → Prop) (H : Heap) : F345 x0 x1 R H = vc Tryz.prog (codeOf Tryz.f345) (.node none .leaf (.node none (.node (some ⟨[(13, 4)], [5, 6, 7, 8, 9, 10, 11, 12]⟩) .leaf .leaf) (.node none (.node (some ⟨[(24, 4)], [14, 15, 16, 17, 18, 19, 20, 21, 22, 23]⟩) .leaf .leaf) .leaf))) (postV Tryz.prog Tryz.f345 R) ⟨#[Value.pointer x0, Value.int IntKind.i64 x1] ++ Array.replicate (Tryz.f345.ntmps - 2) undef, []⟩ H := by kernel_rfl
theorem F345_calls {R : Ending → Heap → Prop} {H : Heap} (x0 : Option Addr) (x1 : Int) (h : F345 x0 x1 R H) : HCalls Tryz.prog 345 #[Value.pointer x0, Value.int IntKind.i64 x1] H R :=
  calls_by (F := F345 x0 x1 R H) (.node none .leaf (.node none (.node (some ⟨[(13, 4)], [5, 6, 7, 8, 9, 10, 11, 12]⟩) .leaf .leaf) (.node none (.node (some ⟨[(24, 4)], [14, 15, 16, 17, 18, 19, 20, 21, 22, 23]⟩) .leaf .leaf) .leaf))) Tryz.func345 rfl (F345_eq x0 x1 R H) h
end Go.Proofs.YtdlelcpkelginaaGreat.E
/- The functions' forms in the engine's words, printed by my own program. -/
namespace Go.Proofs.YtdlelcpkelginaaGreat.E
open Go Go.Proofs
set_option linter.unusedVariables false
/-- (*bollard/cache.Cache).load -/
def F346 (x0 : Option Addr) (x1 : Int) (R : Ending → Heap → Prop) (H : Heap) : Prop :=
  nz x0 (fun a1 =>
  ld H (Addr.add a1 2) (fun v2 =>
  dMap v2 (fun p3 =>
  nz x0 (fun a4 =>
  ld H (Addr.add a4 1) (fun v5 =>
  dInt IntKind.i64 v5 (fun n6 =>
  semW Tryz.prog (Builtin.len_ #[349] 3 #[Value.map p3]) nopR H (fun v9 H10 =>
  dInt IntKind.i64 v9 (fun n11 =>
  (ld H10 (Addr.add a4 1) (fun v12 =>
  dInt IntKind.i64 v12 (fun n13 =>
  (Value.int IntKind.i64 n13) = (Value.int IntKind.i64 n6)))) ∧
  HCalls Tryz.prog 384 #[Value.pointer x0] H10 (Sp.retK (fun v14 H15 =>
  dT 2 v14 (fun v16 v17 =>
  dInt IntKind.i64 v16 (fun n18 =>
  dBl v17 (fun b19 =>
  jn (α := VFH 1) (fun v20 H21 =>
  ∀ v22 v23 v24 v25 : Value,
  dBl v20 (fun b26 =>
  sB b26 (R (Ending.returned (Value.tuple #[Value.pointer none, Value.int IntKind.i64 60])) H21) (nz x0 (fun a27 =>
  ld H21 a27 (fun v28 =>
  dPtr v28 (fun p29 =>
  HCalls Tryz.prog 385 #[Value.pointer p29, Value.int IntKind.i64 x1] H21 (Sp.retK (fun v30 H31 =>
  dT 2 v30 (fun v32 v33 =>
  dSl v32 (fun p34 r35 r36 =>
  dInt IntKind.i64 v33 (fun n37 =>
  sB (n37 != 0) (R (Ending.returned (Value.tuple #[Value.pointer none, Value.int IntKind.i64 n37])) H31) (jn (α := VFH 0) (fun H38 =>
  ∀ v39 v40 v41 v42 v43 v44 : Value,
  nz x0 (fun a45 =>
  ld H38 (Addr.add a45 2) (fun v46 =>
  dMap v46 (fun p47 =>
  al H38 (Obj.cells #[Value.slice p34 r35 r36, Value.int IntKind.i64 0, Value.int IntKind.i64 0] 344) (fun r48 H49 =>
  semW Tryz.prog (Instr.mapUpdate 349 (Value.map p47) (Value.int IntKind.i64 x1) (Value.pointer (some (Addr.mk r48 0 none)))) (pnR R) H49 (fun x52 H53 =>
  nz x0 (fun a54 =>
  ld H53 (Addr.add a54 2) (fun v55 =>
  dMap v55 (fun p56 =>
  semW Tryz.prog (Instr.lookup 349 (Value.map p56) (Value.int IntKind.i64 x1) false) (pnR R) H53 (fun v59 H60 =>
  dPtr v59 (fun p61 =>
  R (Ending.returned (Value.tuple #[Value.pointer p61, Value.int IntKind.i64 0])) H60))))))))))) (fun k62 =>
  sB (decide (n11 ≥ n6)) (nz x0 (fun a63 =>
  ld H31 (Addr.add a63 2) (fun v64 =>
  dMap v64 (fun p65 =>
  semW Tryz.prog (Builtin.delete_ #[349, 3] 0 #[Value.map p65, Value.int IntKind.i64 n18]) (pnR R) H31 (fun v68 H69 =>
  k62 H69))))) (k62 H31))))))) (pnR R)))))))) (fun k72 =>
  sB (decide (n11 ≥ n6)) (k72 (Value.bool !b19) H15) (k72 (Value.bool false) H15)))))) (pnR R))))))))))
theorem F346_eq (x0 : Option Addr) (x1 : Int) (R : Ending → Heap → Prop) (H : Heap) : F346 x0 x1 R H = vc Tryz.prog (codeOf Tryz.f346) (.node none .leaf (.node none .leaf (.node none .leaf (.node none (.node (some ⟨[(30, 4)], [26, 27, 28, 29]⟩) .leaf .leaf) (.node none .leaf (.node none .leaf (.node (some ⟨[], [43, 44, 45, 46, 47, 48]⟩) .leaf .leaf))))))) (postV Tryz.prog Tryz.f346 R) ⟨#[Value.pointer x0, Value.int IntKind.i64 x1] ++ Array.replicate (Tryz.f346.ntmps - 2) undef, []⟩ H := by kernel_rfl
theorem F346_calls {R : Ending → Heap → Prop} {H : Heap} (x0 : Option Addr) (x1 : Int) (h : F346 x0 x1 R H) : HCalls Tryz.prog 346 #[Value.pointer x0, Value.int IntKind.i64 x1] H R :=
  calls_by (F := F346 x0 x1 R H) (.node none .leaf (.node none .leaf (.node none .leaf (.node none (.node (some ⟨[(30, 4)], [26, 27, 28, 29]⟩) .leaf .leaf) (.node none .leaf (.node none .leaf (.node (some ⟨[], [43, 44, 45, 46, 47, 48]⟩) .leaf .leaf))))))) Tryz.func346 rfl (F346_eq x0 x1 R H) h
/-- slices.Sorted[int] -/
def F350 (x0g : Nat) (x0f : Array Value) (x0c : Array Value) (R : Ending → Heap → Prop) (H : Heap) : Prop :=
  HCalls Tryz.prog 398 #[Value.func (Fn.func x0g) x0f x0c] H (Sp.retK (fun v1 H2 =>
  dSl v1 (fun p3 r4 r5 =>
  HCalls Tryz.prog 281 #[Value.slice p3 r4 r5] H2 (Sp.retK (fun v6 H7 =>
  R (Ending.returned (Value.slice p3 r4 r5)) H7) (pnR R)))) (pnR R))
theorem F350_eq (x0g : Nat) (x0f : Array Value) (x0c : Array Value) (R : Ending → Heap → Prop) (H : Heap) : F350 x0g x0f x0c R H = vc Tryz.prog (codeOf Tryz.f350) .leaf (postV Tryz.prog Tryz.f350 R) ⟨#[Value.func (Fn.func x0g) x0f x0c] ++ Array.replicate (Tryz.f350.ntmps - 1) undef, []⟩ H := by kernel_rfl
theorem F350_calls {R : Ending → Heap → Prop} {H : Heap} (x0g : Nat) (x0f : Array Value) (x0c : Array Value) (h : F350 x0g x0f x0c R H) : HCalls Tryz.prog 350 #[Value.func (Fn.func x0g) x0f x0c] H R :=
  calls_by (F := F350 x0g x0f x0c R H) .leaf Tryz.func350 rfl (F350_eq x0g x0f x0c R H) h
/-- maps.Keys[map[int]bollard/api.Patch,int,bollard/api.Patch] -/
def F351 (x0 : Option Nat) (R : Ending → Heap → Prop) (H : Heap) : Prop :=
  al H (Obj.cells #[Value.map x0] 258) (fun r1 H2 =>
  R (Ending.returned (Value.func (Fn.func 399) #[] #[Value.pointer (some (Addr.mk r1 0 none))])) H2)
theorem F351_eq (x0 : Option Nat) (R : Ending → Heap → Prop) (H : Heap) : F351 x0 R H = vc Tryz.prog (codeOf Tryz.f351) .leaf (postV Tryz.prog Tryz.f351 R) ⟨#[Value.map x0] ++ Array.replicate (Tryz.f351.ntmps - 1) undef, []⟩ H := by kernel_rfl
theorem F351_calls {R : Ending → Heap → Prop} {H : Heap} (x0 : Option Nat) (h : F351 x0 R H) : HCalls Tryz.prog 351 #[Value.map x0] H R :=
  calls_by (F := F351 x0 R H) .leaf Tryz.func351 rfl (F351_eq x0 R H) h
/-- (*bollard/disk.Disk).look -/
def F372 (x0 : Option Addr) (x1 : Int) (R : Ending → Heap → Prop) (H : Heap) : Prop :=
  HCalls Tryz.prog 375 #[Value.pointer x0] H (Sp.retK (fun v1 H2 =>
  dBl v1 (fun b3 =>
  sB (!b3) (R (Ending.returned (Value.int IntKind.i64 2)) H2) (jn (α := VFH 1) (fun v4 H5 =>
  ∀ v6 v7 v8 v9 v10 v11 v12 v13 v14 v15 : Value,
  dBl v4 (fun b16 =>
  sB b16 (R (Ending.returned (Value.int IntKind.i64 1)) H5) (R (Ending.returned (Value.int IntKind.i64 0)) H5))) (fun k17 =>
  sB (decide (x1 < 0)) (k17 (Value.bool true) H2) (nz x0 (fun a18 =>
  ld H2 a18 (fun v19 =>
  dSl v19 (fun p20 r21 r22 =>
  k17 (Value.bool (decide (x1 ≥ (↑r21 : Int)))) H2)))))))) (pnR R))
theorem F372_eq (x0 : Option Addr) (x1 : Int) (R : Ending → Heap → Prop) (H : Heap) : F372 x0 x1 R H = vc Tryz.prog (codeOf Tryz.f372) (.node none .leaf (.node none .leaf (.node none (.node (some ⟨[(18, 4)], [8, 9, 10, 11, 12, 13, 14, 15, 16, 17]⟩) .leaf .leaf) .leaf))) (postV Tryz.prog Tryz.f372 R) ⟨#[Value.pointer x0, Value.int IntKind.i64 x1] ++ Array.replicate (Tryz.f372.ntmps - 2) undef, []⟩ H := by kernel_rfl
theorem F372_calls {R : Ending → Heap → Prop} {H : Heap} (x0 : Option Addr) (x1 : Int) (h : F372 x0 x1 R H) : HCalls Tryz.prog 372 #[Value.pointer x0, Value.int IntKind.i64 x1] H R :=
  calls_by (F := F372 x0 x1 R H) (.node none .leaf (.node none .leaf (.node none (.node (some ⟨[(18, 4)], [8, 9, 10, 11, 12, 13, 14, 15, 16, 17]⟩) .leaf .leaf) .leaf))) Tryz.func372 rfl (F372_eq x0 x1 R H) h
/-- (*bollard/disk.Disk).made -/
def F375 (x0 : Option Addr) (R : Ending → Heap → Prop) (H : Heap) : Prop :=
  sB (!Option.isNone x0) (nz x0 (fun a1 =>
  ld H a1 (fun v2 =>
  dSl v2 (fun p3 r4 r5 =>
  R (Ending.returned (Value.bool (decide ((↑r4 : Int) > 0)))) H)))) (R (Ending.returned (Value.bool false)) H)
theorem F375_eq (x0 : Option Addr) (R : Ending → Heap → Prop) (H : Heap) : F375 x0 R H = vc Tryz.prog (codeOf Tryz.f375) .leaf (postV Tryz.prog Tryz.f375 R) ⟨#[Value.pointer x0] ++ Array.replicate (Tryz.f375.ntmps - 1) undef, []⟩ H := by kernel_rfl
theorem F375_calls {R : Ending → Heap → Prop} {H : Heap} (x0 : Option Addr) (h : F375 x0 R H) : HCalls Tryz.prog 375 #[Value.pointer x0] H R :=
  calls_by (F := F375 x0 R H) .leaf Tryz.func375 rfl (F375_eq x0 R H) h
/-- (*bollard/cache.Cache).victim -/
def F384 (x0 : Option Addr) (R : Ending → Heap → Prop) (H : Heap) : Prop :=
  HCalls Tryz.prog 410 #[Value.pointer x0] H (Sp.retK (fun v1 H2 =>
  dSl v1 (fun p3 r4 r5 =>
  ∃ I6 : List Value → Heap → Prop,
  ∃ I7 : List Value → Heap → Nat,
  (I6 ([Value.int IntKind.i64 0]) H2) ∧
  ∀ n8 : Int,
  ∀ v9 v10 v11 v12 v13 v14 v15 v16 v17 v18 v19 v20 v21 v22 v23 v24 v25 v26 : Value,
  ∀ H27 : Heap,
  (I6 ([Value.int IntKind.i64 n8]) H27) →
  sB (decide (n8 < (↑r4 : Int))) (nz p3 (fun a29 =>
  ask ((0 : Int) ≤ n8 ∧ n8 < (↑r4 : Int)) (ld H27 (Addr.add a29 (Int.toNat n8 * 1)) (fun v30 =>
  dInt IntKind.i64 v30 (fun n31 =>
  nz x0 (fun a32 =>
  ld H27 (Addr.add a32 2) (fun v33 =>
  dMap v33 (fun p34 =>
  semW Tryz.prog (Instr.lookup 349 (Value.map p34) (Value.int IntKind.i64 n31) false) (pnR R) H27 (fun v37 H38 =>
  dPtr v37 (fun p39 =>
  nz p39 (fun a40 =>
  ld H38 (Addr.add a40 1) (fun v41 =>
  dInt IntKind.i64 v41 (fun n42 =>
  sB (n42 == 0) (R (Ending.returned (Value.tuple #[Value.int IntKind.i64 n31, Value.bool true])) H38) (wr IntKind.i64 (n8 + 1) (fun n43 =>
  (I6 ([Value.int IntKind.i64 n43]) H38) ∧
  (I7 [Value.int IntKind.i64 n43] H38) < (I7 [Value.int IntKind.i64 n8] H27)))))))))))))))) (R (Ending.returned (Value.tuple #[Value.int IntKind.i64 0, Value.bool false])) H27))) (pnR R))
theorem F384_eq (x0 : Option Addr) (R : Ending → Heap → Prop) (H : Heap) : F384 x0 R H = vc Tryz.prog (codeOf Tryz.f384) (.node none .leaf (.node none (.node none .leaf (.node none (.node (some ⟨[(9, 3)], [2, 3, 5, 10, 11, 12, 13, 14, 15, 16, 17, 18, 19, 20, 21, 22, 23, 24]⟩) .leaf .leaf) .leaf)) .leaf)) (postV Tryz.prog Tryz.f384 R) ⟨#[Value.pointer x0] ++ Array.replicate (Tryz.f384.ntmps - 1) undef, []⟩ H := by kernel_rfl
theorem F384_calls {R : Ending → Heap → Prop} {H : Heap} (x0 : Option Addr) (h : F384 x0 R H) : HCalls Tryz.prog 384 #[Value.pointer x0] H R :=
  calls_by (F := F384 x0 R H) (.node none .leaf (.node none (.node none .leaf (.node none (.node (some ⟨[(9, 3)], [2, 3, 5, 10, 11, 12, 13, 14, 15, 16, 17, 18, 19, 20, 21, 22, 23, 24]⟩) .leaf .leaf) .leaf)) .leaf)) Tryz.func384 rfl (F384_eq x0 R H) h
/-- (*bollard/disk.Disk).Read -/
def F385 (x0 : Option Addr) (x1 : Int) (R : Ending → Heap → Prop) (H : Heap) : Prop :=
  HCalls Tryz.prog 372 #[Value.pointer x0, Value.int IntKind.i64 x1] H (Sp.retK (fun v1 H2 =>
  dInt IntKind.i64 v1 (fun n3 =>
  sB (n3 != 0) (R (Ending.returned (Value.tuple #[Value.slice none 0 0, Value.int IntKind.i64 n3])) H2) (nz x0 (fun a4 =>
  ld H2 (Addr.add a4 2) (fun v5 =>
  dMap v5 (fun p6 =>
  semW Tryz.prog (Instr.lookup 77 (Value.map p6) (Value.int IntKind.i64 x1) false) (pnR R) H2 (fun v9 H10 =>
  dInt IntKind.i64 v9 (fun n11 =>
  sB (decide (n11 > 0)) (nz x0 (fun a12 =>
  ld H10 (Addr.add a12 2) (fun v13 =>
  dMap v13 (fun p14 =>
  semW Tryz.prog (Instr.lookup 77 (Value.map p14) (Value.int IntKind.i64 x1) false) (pnR R) H10 (fun v17 H18 =>
  dInt IntKind.i64 v17 (fun n19 =>
  wr IntKind.i64 (n19 - 1) (fun n20 =>
  semW Tryz.prog (Instr.mapUpdate 77 (Value.map p14) (Value.int IntKind.i64 x1) (Value.int IntKind.i64 n20)) (pnR R) H18 (fun x23 H24 =>
  R (Ending.returned (Value.tuple #[Value.slice none 0 0, Value.int IntKind.i64 4])) H24)))))))) (nz x0 (fun a25 =>
  ld H10 a25 (fun v26 =>
  dSl v26 (fun p27 r28 r29 =>
  nz p27 (fun a30 =>
  ask ((0 : Int) ≤ x1 ∧ x1 < (↑r28 : Int)) (ld H10 (Addr.add a30 (Int.toNat x1 * 1)) (fun v31 =>
  dSl v31 (fun p32 r33 r34 =>
  HCalls Tryz.prog 21 #[Value.slice p32 r33 r34] H10 (Sp.retK (fun v35 H36 =>
  dSl v35 (fun p37 r38 r39 =>
  R (Ending.returned (Value.tuple #[Value.slice p37 r38 r39, Value.int IntKind.i64 0])) H36)) (pnR R)))))))))))))))))) (pnR R))
theorem F385_eq (x0 : Option Addr) (x1 : Int) (R : Ending → Heap → Prop) (H : Heap) : F385 x0 x1 R H = vc Tryz.prog (codeOf Tryz.f385) .leaf (postV Tryz.prog Tryz.f385 R) ⟨#[Value.pointer x0, Value.int IntKind.i64 x1] ++ Array.replicate (Tryz.f385.ntmps - 2) undef, []⟩ H := by kernel_rfl
theorem F385_calls {R : Ending → Heap → Prop} {H : Heap} (x0 : Option Addr) (x1 : Int) (h : F385 x0 x1 R H) : HCalls Tryz.prog 385 #[Value.pointer x0, Value.int IntKind.i64 x1] H R :=
  calls_by (F := F385 x0 x1 R H) .leaf Tryz.func385 rfl (F385_eq x0 x1 R H) h
/-- (*bollard/cache.Cache).Held -/
def F410 (x0 : Option Addr) (R : Ending → Heap → Prop) (H : Heap) : Prop :=
  al H (Obj.cells #[Value.pointer x0] 95) (fun r1 H2 =>
  ld H2 (Addr.mk r1 0 none) (fun v3 =>
  dPtr v3 (fun p4 =>
  sB (Option.isNone p4) (R (Ending.returned (Value.slice none 0 0)) H2) (ld H2 (Addr.mk r1 0 none) (fun v5 =>
  dPtr v5 (fun p6 =>
  nz p6 (fun a7 =>
  ld H2 (Addr.add a7 2) (fun v8 =>
  dMap v8 (fun p9 =>
  HCalls Tryz.prog 423 #[Value.map p9] H2 (Sp.retK (fun v10 H11 =>
  HCalls Tryz.prog 422 #[v10, Value.func (Fn.func 424) #[] #[Value.pointer (some (Addr.mk r1 0 none))]] H11 (Sp.retK (fun v12 H13 =>
  dSl v12 (fun p14 r15 r16 =>
  R (Ending.returned (Value.slice p14 r15 r16)) H13)) (pnR R))) (pnR R)))))))))))
theorem F410_eq (x0 : Option Addr) (R : Ending → Heap → Prop) (H : Heap) : F410 x0 R H = vc Tryz.prog (codeOf Tryz.f410) .leaf (postV Tryz.prog Tryz.f410 R) ⟨#[Value.pointer x0] ++ Array.replicate (Tryz.f410.ntmps - 1) undef, []⟩ H := by kernel_rfl
theorem F410_calls {R : Ending → Heap → Prop} {H : Heap} (x0 : Option Addr) (h : F410 x0 R H) : HCalls Tryz.prog 410 #[Value.pointer x0] H R :=
  calls_by (F := F410 x0 R H) .leaf Tryz.func410 rfl (F410_eq x0 R H) h
/-- slices.SortedFunc[int] -/
def F422 (x0g : Nat) (x0f : Array Value) (x0c : Array Value) (x1g : Nat) (x1f : Array Value) (x1c : Array Value) (R : Ending → Heap → Prop) (H : Heap) : Prop :=
  HCalls Tryz.prog 398 #[Value.func (Fn.func x0g) x0f x0c] H (Sp.retK (fun v1 H2 =>
  dSl v1 (fun p3 r4 r5 =>
  HCalls Tryz.prog 429 #[Value.slice p3 r4 r5, Value.func (Fn.func x1g) x1f x1c] H2 (Sp.retK (fun v6 H7 =>
  R (Ending.returned (Value.slice p3 r4 r5)) H7) (pnR R)))) (pnR R))
theorem F422_eq (x0g : Nat) (x0f : Array Value) (x0c : Array Value) (x1g : Nat) (x1f : Array Value) (x1c : Array Value) (R : Ending → Heap → Prop) (H : Heap) : F422 x0g x0f x0c x1g x1f x1c R H = vc Tryz.prog (codeOf Tryz.f422) .leaf (postV Tryz.prog Tryz.f422 R) ⟨#[Value.func (Fn.func x0g) x0f x0c, Value.func (Fn.func x1g) x1f x1c] ++ Array.replicate (Tryz.f422.ntmps - 2) undef, []⟩ H := by kernel_rfl
theorem F422_calls {R : Ending → Heap → Prop} {H : Heap} (x0g : Nat) (x0f : Array Value) (x0c : Array Value) (x1g : Nat) (x1f : Array Value) (x1c : Array Value) (h : F422 x0g x0f x0c x1g x1f x1c R H) : HCalls Tryz.prog 422 #[Value.func (Fn.func x0g) x0f x0c, Value.func (Fn.func x1g) x1f x1c] H R :=
  calls_by (F := F422 x0g x0f x0c x1g x1f x1c R H) .leaf Tryz.func422 rfl (F422_eq x0g x0f x0c x1g x1f x1c R H) h
/-- maps.Keys[map[int]*bollard/cache.buffer,int,*bollard/cache.buffer] -/
def F423 (x0 : Option Nat) (R : Ending → Heap → Prop) (H : Heap) : Prop :=
  al H (Obj.cells #[Value.map x0] 349) (fun r1 H2 =>
  R (Ending.returned (Value.func (Fn.func 430) #[] #[Value.pointer (some (Addr.mk r1 0 none))])) H2)
theorem F423_eq (x0 : Option Nat) (R : Ending → Heap → Prop) (H : Heap) : F423 x0 R H = vc Tryz.prog (codeOf Tryz.f423) .leaf (postV Tryz.prog Tryz.f423 R) ⟨#[Value.map x0] ++ Array.replicate (Tryz.f423.ntmps - 1) undef, []⟩ H := by kernel_rfl
theorem F423_calls {R : Ending → Heap → Prop} {H : Heap} (x0 : Option Nat) (h : F423 x0 R H) : HCalls Tryz.prog 423 #[Value.map x0] H R :=
  calls_by (F := F423 x0 R H) .leaf Tryz.func423 rfl (F423_eq x0 R H) h
end Go.Proofs.YtdlelcpkelginaaGreat.E
/- The functions' forms in the engine's words, printed by my own program. -/
namespace Go.Proofs.YtdlelcpkelginaaGreat.E
open Go Go.Proofs
set_option linter.unusedVariables false
/-- bollard/bollardplain.Fresh -/
def F13 (x0_0 : Value) (x0_1 : Value) (x0_2 : Value) (R : Ending → Heap → Prop) (H : Heap) : Prop :=
  al H (Obj.cells #[x0_0, x0_1, x0_2] 23) (fun r1 H2 =>
  al H2 (Obj.cells #[Value.int IntKind.i64 0, Value.int IntKind.i64 0, Value.int IntKind.i64 0] 23) (fun r3 H4 =>
  ld H4 (Addr.mk r1 0 none) (fun v5 =>
  ld H4 (Addr.mk r1 1 none) (fun v6 =>
  ld H4 (Addr.mk r1 2 none) (fun v7 =>
  HCalls Tryz.prog 53 #[Value.agg #[v5, v6, v7]] H4 (Sp.retK (fun v8 H9 =>
  dT 2 v8 (fun v10 v11 =>
  dSl v10 (fun p12 r13 r14 =>
  dInt IntKind.i64 v11 (fun n15 =>
  jn (α := VFH 1) (fun v16 H17 =>
  ∀ v18 v19 v20 v21 v22 v23 v24 v25 : Value,
  dSl v16 (fun p26 r27 r28 =>
  HCalls Tryz.prog 54 #[Value.slice p26 r27 r28, Value.int IntKind.i64 64] H17 (Sp.retK (fun v29 H30 =>
  dT 2 v29 (fun v31 v32 =>
  dPtr v31 (fun p33 =>
  dBl v32 (fun b34 =>
  ld H30 (Addr.mk r1 0 none) (fun v35 =>
  ld H30 (Addr.mk r1 1 none) (fun v36 =>
  ld H30 (Addr.mk r1 2 none) (fun v37 =>
  sB b34 (((ld H30 (Addr.mk r1 0 none) (fun v38 =>
  ld H30 (Addr.mk r1 1 none) (fun v39 =>
  ld H30 (Addr.mk r1 2 none) (fun v40 =>
  (Value.agg #[v38, v39, v40]) = (Value.agg #[v35, v36, v37]))))) ∧
  st H30 (Addr.mk r3 0 none) v35 (fun H41 =>
  st H41 (Addr.mk r3 1 none) v36 (fun H42 =>
  st H42 (Addr.mk r3 2 none) v37 (fun H43 =>
  ld H43 (Addr.mk r3 0 none) (fun v44 =>
  ld H43 (Addr.mk r3 1 none) (fun v45 =>
  ld H43 (Addr.mk r3 2 none) (fun v46 =>
  R (Ending.returned (Value.tuple #[Value.pointer p33, Value.agg #[v44, v45, v46], Value.bool !Option.isNone p33])) H43))))))) ∧
  st H30 (Addr.mk r3 0 none) v35 (fun H47 =>
  st H47 (Addr.mk r3 1 none) v36 (fun H48 =>
  st H48 (Addr.mk r3 2 none) v37 (fun H49 =>
  ld H49 (Addr.mk r3 0 none) (fun v50 =>
  ld H49 (Addr.mk r3 1 none) (fun v51 =>
  ld H49 (Addr.mk r3 2 none) (fun v52 =>
  R (Ending.returned (Value.tuple #[Value.pointer p33, Value.agg #[v50, v51, v52], Value.bool !Option.isNone p33])) H49))))))) (st H30 (Addr.mk r3 0 none) v35 (fun H53 =>
  st H53 (Addr.mk r3 1 none) v36 (fun H54 =>
  st H54 (Addr.mk r3 2 none) v37 (fun H55 =>
  ld H55 (Addr.mk r3 0 none) (fun v56 =>
  ld H55 (Addr.mk r3 1 none) (fun v57 =>
  ld H55 (Addr.mk r3 2 none) (fun v58 =>
  R (Ending.returned (Value.tuple #[Value.pointer p33, Value.agg #[v56, v57, v58], Value.bool false])) H55)))))))))))))) (pnR R)))) (fun k61 =>
  sB (n15 != 0) (st H9 (Addr.mk r1 0 none) (Value.int IntKind.i64 1) (fun H62 =>
  st H62 (Addr.mk r1 1 none) (Value.int IntKind.i64 8) (fun H63 =>
  st H63 (Addr.mk r1 2 none) (Value.int IntKind.i64 4) (fun H64 =>
  ld H64 (Addr.mk r1 0 none) (fun v65 =>
  ld H64 (Addr.mk r1 1 none) (fun v66 =>
  ld H64 (Addr.mk r1 2 none) (fun v67 =>
  HCalls Tryz.prog 53 #[Value.agg #[v65, v66, v67]] H64 (Sp.retK (fun v68 H69 =>
  dT 2 v68 (fun v70 v71 =>
  dSl v70 (fun p72 r73 r74 =>
  dInt IntKind.i64 v71 (fun n75 =>
  k61 (Value.slice p72 r73 r74) H69)))) (pnR R))))))))) (k61 (Value.slice p12 r13 r14) H9)))))) (pnR R)))))))
theorem F13_eq (x0_0 : Value) (x0_1 : Value) (x0_2 : Value) (R : Ending → Heap → Prop) (H : Heap) : F13 x0_0 x0_1 x0_2 R H = vc Tryz.prog (codeOf Tryz.f13) (.node none .leaf (.node none .leaf (.node (some ⟨[(5, 50)], [14, 15, 16, 17, 18, 19, 20, 21]⟩) .leaf .leaf))) (postV Tryz.prog Tryz.f13 R) ⟨#[Value.agg #[x0_0, x0_1, x0_2]] ++ Array.replicate (Tryz.f13.ntmps - 1) undef, []⟩ H := by kernel_rfl
theorem F13_calls {R : Ending → Heap → Prop} {H : Heap} (x0_0 : Value) (x0_1 : Value) (x0_2 : Value) (h : F13 x0_0 x0_1 x0_2 R H) : HCalls Tryz.prog 13 #[Value.agg #[x0_0, x0_1, x0_2]] H R :=
  calls_by (F := F13 x0_0 x0_1 x0_2 R H) (.node none .leaf (.node none .leaf (.node (some ⟨[(5, 50)], [14, 15, 16, 17, 18, 19, 20, 21]⟩) .leaf .leaf))) Tryz.func13 rfl (F13_eq x0_0 x0_1 x0_2 R H) h
/-- bollard/snap.Take -/
def F19 (x0 : Option Addr) (x1_0 : Value) (x1_1 : Value) (x1_2 : Value) (x2 : Int) (x3 : Int) (R : Ending → Heap → Prop) (H : Heap) : Prop :=
  al H (Obj.cells #[x1_0, x1_1, x1_2] 23) (fun r1 H2 =>
  HCalls Tryz.prog 64 #[Value.pointer x0] H2 (Sp.retK (fun v3 H4 =>
  dInt IntKind.i64 v3 (fun n5 =>
  sB (n5 == 0) (R (Ending.returned (Value.tuple #[Value.pointer none, Value.int IntKind.i64 2])) H4) (jn (α := VFH 1) (fun v6 H7 =>
  ∀ v8 v9 v10 v11 v12 v13 v14 v15 v16 v17 : Value,
  dBl v6 (fun b18 =>
  sB b18 (R (Ending.returned (Value.tuple #[Value.pointer none, Value.int IntKind.i64 170])) H7) (jn (α := VFH 1) (fun v19 H20 =>
  ∀ v21 v22 v23 v24 v25 v26 : Value,
  dBl v19 (fun b27 =>
  sB b27 (R (Ending.returned (Value.tuple #[Value.pointer none, Value.int IntKind.i64 1])) H20) (HCalls Tryz.prog 67 #[Value.pointer x0, Value.int IntKind.i64 x3] H20 (Sp.retK (fun v28 H29 =>
  dInt IntKind.i64 v28 (fun n30 =>
  sB (n30 != 0) (R (Ending.returned (Value.tuple #[Value.pointer none, Value.int IntKind.i64 n30])) H29) (ld H29 (Addr.mk r1 0 none) (fun v31 =>
  ld H29 (Addr.mk r1 1 none) (fun v32 =>
  ld H29 (Addr.mk r1 2 none) (fun v33 =>
  al H29 (Obj.cells #[Value.int IntKind.i32 0, Value.int IntKind.u32 0, Value.pointer x0, v31, v32, v33, Value.int IntKind.i64 x2, Value.bool false] 120) (fun r34 H35 =>
  R (Ending.returned (Value.tuple #[Value.pointer (some (Addr.mk r34 0 none)), Value.int IntKind.i64 0])) H35))))))) (pnR R))))) (fun k38 =>
  sB (decide (x2 < 1)) (k38 (Value.bool true) H7) (k38 (Value.bool (decide (x2 > 1099511627776))) H7))))) (fun k39 =>
  ld H4 (Addr.mk r1 0 none) (fun v40 =>
  ld H4 (Addr.mk r1 1 none) (fun v41 =>
  ld H4 (Addr.mk r1 2 none) (fun v42 =>
  HCalls Tryz.prog 65 #[Value.agg #[v40, v41, v42]] H4 (Sp.retK (fun v43 H44 =>
  dInt IntKind.i64 v43 (fun n45 =>
  sB (n45 != 0) (k39 (Value.bool true) H44) (ld H44 (Addr.mk r1 0 none) (fun v46 =>
  ld H44 (Addr.mk r1 1 none) (fun v47 =>
  ld H44 (Addr.mk r1 2 none) (fun v48 =>
  HCalls Tryz.prog 64 #[Value.pointer x0] H44 (Sp.retK (fun v49 H50 =>
  dInt IntKind.i64 v49 (fun n51 =>
  (ld H50 (Addr.mk r1 0 none) (fun v52 =>
  ld H50 (Addr.mk r1 1 none) (fun v53 =>
  ld H50 (Addr.mk r1 2 none) (fun v54 =>
  (Value.agg #[v52, v53, v54]) = (Value.agg #[v46, v47, v48]))))) ∧
  HCalls Tryz.prog 66 #[Value.agg #[v46, v47, v48]] H50 (Sp.retK (fun v55 H56 =>
  dInt IntKind.i64 v55 (fun n57 =>
  k39 (Value.bool (decide (n51 < n57))) H56)) nopR))) nopR))))))) nopR)))))))) (pnR R)))
theorem F19_eq (x0 : Option Addr) (x1_0 : Value) (x1_1 : Value) (x1_2 : Value) (x2 : Int) (x3 : Int) (R : Ending → Heap → Prop) (H : Heap) : F19 x0 x1_0 x1_1 x1_2 x2 x3 R H = vc Tryz.prog (codeOf Tryz.f19) (.node none .leaf (.node none (.node none (.node none .leaf (.node none .leaf (.node (some ⟨[(15, 4)], [16, 17, 18, 19, 20, 21, 22, 23, 24, 25]⟩) .leaf (.node none .leaf (.node (some ⟨[(26, 4)], [27, 28, 29, 30, 31, 32]⟩) .leaf .leaf))))) .leaf) .leaf)) (postV Tryz.prog Tryz.f19 R) ⟨#[Value.pointer x0, Value.agg #[x1_0, x1_1, x1_2], Value.int IntKind.i64 x2, Value.int IntKind.i64 x3] ++ Array.replicate (Tryz.f19.ntmps - 4) undef, []⟩ H := by kernel_rfl
theorem F19_calls {R : Ending → Heap → Prop} {H : Heap} (x0 : Option Addr) (x1_0 : Value) (x1_1 : Value) (x1_2 : Value) (x2 : Int) (x3 : Int) (h : F19 x0 x1_0 x1_1 x1_2 x2 x3 R H) : HCalls Tryz.prog 19 #[Value.pointer x0, Value.agg #[x1_0, x1_1, x1_2], Value.int IntKind.i64 x2, Value.int IntKind.i64 x3] H R :=
  calls_by (F := F19 x0 x1_0 x1_1 x1_2 x2 x3 R H) (.node none .leaf (.node none (.node none (.node none .leaf (.node none .leaf (.node (some ⟨[(15, 4)], [16, 17, 18, 19, 20, 21, 22, 23, 24, 25]⟩) .leaf (.node none .leaf (.node (some ⟨[(26, 4)], [27, 28, 29, 30, 31, 32]⟩) .leaf .leaf))))) .leaf) .leaf)) Tryz.func19 rfl (F19_eq x0 x1_0 x1_1 x1_2 x2 x3 R H) h
end Go.Proofs.YtdlelcpkelginaaGreat.E
/- The functions' forms in the engine's words, printed by my own program. -/
namespace Go.Proofs.YtdlelcpkelginaaGreat.E
open Go Go.Proofs
set_option linter.unusedVariables false
/-- bytes.Clone -/
def F21 (x0a : Option Addr) (x0n : Nat) (x0c : Nat) (R : Ending → Heap → Prop) (H : Heap) : Prop :=
  sB (Option.isNone x0a) (R (Ending.returned (Value.slice none 0 0)) H) (al H (Obj.cells #[] 5) (fun r1 H2 =>
  semW Tryz.prog (Builtin.append_ #[46, 46] 46 #[Value.slice (some (Addr.mk r1 0 none)) 0 0, Value.slice x0a x0n x0c]) (pnR R) H2 (fun v5 H6 =>
  dSl v5 (fun p7 r8 r9 =>
  R (Ending.returned (Value.slice p7 r8 r9)) H6))))
theorem F21_eq (x0a : Option Addr) (x0n : Nat) (x0c : Nat) (R : Ending → Heap → Prop) (H : Heap) : F21 x0a x0n x0c R H = vc Tryz.prog (codeOf Tryz.f21) .leaf (postV Tryz.prog Tryz.f21 R) ⟨#[Value.slice x0a x0n x0c] ++ Array.replicate (Tryz.f21.ntmps - 1) undef, []⟩ H := by kernel_rfl
theorem F21_calls {R : Ending → Heap → Prop} {H : Heap} (x0a : Option Addr) (x0n : Nat) (x0c : Nat) (h : F21 x0a x0n x0c R H) : HCalls Tryz.prog 21 #[Value.slice x0a x0n x0c] H R :=
  calls_by (F := F21 x0a x0n x0c R H) .leaf Tryz.func21 rfl (F21_eq x0a x0n x0c R H) h
/-- (*bollard/snap.Snap).Drop -/
def F24 (x0 : Option Addr) (R : Ending → Heap → Prop) (H : Heap) : Prop :=
  HCalls Tryz.prog 73 #[Value.pointer x0] H (Sp.retK (fun v1 H2 =>
  dInt IntKind.i64 v1 (fun n3 =>
  sB (n3 != 0) (R (Ending.returned (Value.int IntKind.i64 n3)) H2) (nz x0 (fun a4 =>
  ld H2 (Addr.add a4 2) (fun v5 =>
  dPtr v5 (fun p6 =>
  HCalls Tryz.prog 76 #[Value.pointer p6] H2 (Sp.retK (fun v7 H8 =>
  dInt IntKind.i64 v7 (fun n9 =>
  sB (n9 != 0) (R (Ending.returned (Value.int IntKind.i64 n9)) H8) (nz x0 (fun a10 =>
  st H8 (Addr.add a10 7) (Value.bool true) (fun H11 =>
  R (Ending.returned (Value.int IntKind.i64 0)) H11))))) (pnR R)))))))) (pnR R))
theorem F24_eq (x0 : Option Addr) (R : Ending → Heap → Prop) (H : Heap) : F24 x0 R H = vc Tryz.prog (codeOf Tryz.f24) .leaf (postV Tryz.prog Tryz.f24 R) ⟨#[Value.pointer x0] ++ Array.replicate (Tryz.f24.ntmps - 1) undef, []⟩ H := by kernel_rfl
theorem F24_calls {R : Ending → Heap → Prop} {H : Heap} (x0 : Option Addr) (h : F24 x0 R H) : HCalls Tryz.prog 24 #[Value.pointer x0] H R :=
  calls_by (F := F24 x0 R H) .leaf Tryz.func24 rfl (F24_eq x0 R H) h
/-- bollard/disk.Of -/
def F26 (x0a : Option Addr) (x0n : Nat) (x0c : Nat) (R : Ending → Heap → Prop) (H : Heap) : Prop :=
  jn (α := VFH 1) (fun v1 H2 =>
  ∀ v3 v4 v5 v6 v7 v8 v9 v10 v11 v12 v13 v14 : Value,
  dBl v1 (fun b15 =>
  sB b15 (R (Ending.returned (Value.tuple #[Value.pointer none, Value.int IntKind.i64 1])) H2) (HCalls Tryz.prog 79 #[Value.slice x0a x0n x0c] H2 (Sp.retK (fun v16 H17 =>
  dSl v16 (fun p18 r19 r20 =>
  al H17 (Obj.map #[] 0) (fun r21 H22 =>
  al H22 (Obj.cells #[Value.slice p18 r19 r20, Value.slice none 0 0, Value.map (some r21), Value.int IntKind.i64 0] 159) (fun r23 H24 =>
  R (Ending.returned (Value.tuple #[Value.pointer (some (Addr.mk r23 0 none)), Value.int IntKind.i64 0])) H24)))) (pnR R))))) (fun k27 =>
  sB (decide ((↑x0n : Int) < 1)) (k27 (Value.bool true) H) (sB (decide ((↑x0n : Int) > 2048)) (k27 (Value.bool true) H) (HCalls Tryz.prog 78 #[Value.slice x0a x0n x0c, Value.func (Fn.func 77) #[] #[]] H (Sp.retK (fun v28 H29 =>
  dBl v28 (fun b30 =>
  k27 (Value.bool b30) H29)) (pnR R)))))
theorem F26_eq (x0a : Option Addr) (x0n : Nat) (x0c : Nat) (R : Ending → Heap → Prop) (H : Heap) : F26 x0a x0n x0c R H = vc Tryz.prog (codeOf Tryz.f26) (.node none .leaf (.node none .leaf (.node none (.node (some ⟨[(17, 4)], [5, 6, 7, 8, 9, 10, 11, 12, 13, 14, 15, 16]⟩) .leaf .leaf) .leaf))) (postV Tryz.prog Tryz.f26 R) ⟨#[Value.slice x0a x0n x0c] ++ Array.replicate (Tryz.f26.ntmps - 1) undef, []⟩ H := by kernel_rfl
theorem F26_calls {R : Ending → Heap → Prop} {H : Heap} (x0a : Option Addr) (x0n : Nat) (x0c : Nat) (h : F26 x0a x0n x0c R H) : HCalls Tryz.prog 26 #[Value.slice x0a x0n x0c] H R :=
  calls_by (F := F26 x0a x0n x0c R H) (.node none .leaf (.node none .leaf (.node none (.node (some ⟨[(17, 4)], [5, 6, 7, 8, 9, 10, 11, 12, 13, 14, 15, 16]⟩) .leaf .leaf) .leaf))) Tryz.func26 rfl (F26_eq x0a x0n x0c R H) h
/-- bollard/bollardplain.Image -/
def F27 (x0a : Option Addr) (x0n : Nat) (x0c : Nat) (R : Ending → Heap → Prop) (H : Heap) : Prop :=
  ∃ I1 : List Value → Heap → Prop,
  ∃ I2 : List Value → Heap → Nat,
  (I1 ([Value.slice none 0 0, Value.int IntKind.i64 0]) H) ∧
  ∀ p3 : Option Addr,
  ∀ r4 : Nat,
  ∀ r5 : Nat,
  ∀ n6 : Int,
  ∀ v7 v8 v9 v10 v11 v12 v13 v14 v15 v16 : Value,
  ∀ H17 : Heap,
  (I1 ([Value.slice p3 r4 r5, Value.int IntKind.i64 n6]) H17) →
  sB (decide (n6 < (↑x0n : Int))) (nz x0a (fun a19 =>
  ask ((0 : Int) ≤ n6 ∧ n6 < (↑x0n : Int)) (ld H17 (Addr.add a19 (Int.toNat n6 * 1)) (fun v20 =>
  dSl v20 (fun p21 r22 r23 =>
  HCalls Tryz.prog 21 #[Value.slice p21 r22 r23] H17 (Sp.retK (fun v24 H25 =>
  dSl v24 (fun p26 r27 r28 =>
  al H25 (Obj.cells #[Value.slice p26 r27 r28] 46) (fun r29 H30 =>
  semW Tryz.prog (Builtin.append_ #[50, 50] 50 #[Value.slice p3 r4 r5, Value.slice (some (Addr.mk r29 0 none)) 1 1]) (pnR R) H30 (fun v33 H34 =>
  dSl v33 (fun p35 r36 r37 =>
  wr IntKind.i64 (n6 + 1) (fun n38 =>
  (I1 ([Value.slice p35 r36 r37, Value.int IntKind.i64 n38]) H34) ∧
  (I2 [Value.slice p35 r36 r37, Value.int IntKind.i64 n38] H34) < (I2 [Value.slice p3 r4 r5, Value.int IntKind.i64 n6] H17))))))) (pnR R))))))) (R (Ending.returned (Value.slice p3 r4 r5)) H17)
theorem F27_eq (x0a : Option Addr) (x0n : Nat) (x0c : Nat) (R : Ending → Heap → Prop) (H : Heap) : F27 x0a x0n x0c R H = vc Tryz.prog (codeOf Tryz.f27) (.node none .leaf (.node none .leaf (.node none (.node none .leaf (.node none (.node (some ⟨[(3, 50), (8, 3)], [5, 9, 10, 11, 12, 13, 14, 15, 16, 17]⟩) .leaf .leaf) .leaf)) .leaf))) (postV Tryz.prog Tryz.f27 R) ⟨#[Value.slice x0a x0n x0c] ++ Array.replicate (Tryz.f27.ntmps - 1) undef, []⟩ H := by kernel_rfl
theorem F27_calls {R : Ending → Heap → Prop} {H : Heap} (x0a : Option Addr) (x0n : Nat) (x0c : Nat) (h : F27 x0a x0n x0c R H) : HCalls Tryz.prog 27 #[Value.slice x0a x0n x0c] H R :=
  calls_by (F := F27 x0a x0n x0c R H) (.node none .leaf (.node none .leaf (.node none (.node none .leaf (.node none (.node (some ⟨[(3, 50), (8, 3)], [5, 9, 10, 11, 12, 13, 14, 15, 16, 17]⟩) .leaf .leaf) .leaf)) .leaf))) Tryz.func27 rfl (F27_eq x0a x0n x0c R H) h
/-- bollard/bollardref02.Of -/
def F28 (x0a : Option Addr) (x0n : Nat) (x0c : Nat) (R : Ending → Heap → Prop) (H : Heap) : Prop :=
  jn (α := VFH 1) (fun v1 H2 =>
  ∀ v3 v4 v5 v6 v7 v8 v9 : Value,
  dBl v1 (fun b10 =>
  sB b10 (R (Ending.returned (Value.tuple #[Value.pointer none, Value.int IntKind.i64 1])) H2) (ask ((0 : Int) ≤ (↑x0n : Int) ∧ (↑x0n : Int) ≤ (↑x0n : Int) ∧ (8 : Int) * (↑x0n : Int) ≤ (281474976710656 : Int) ∧ (↑x0n : Int) ≤ (9223372036854775807 : Int)) (al H2 (Obj.cells (List.toArray (rowZ [Value.int IntKind.i64 0] (Int.toNat (↑x0n : Int)))) 3) (fun r11 H12 =>
  al H12 (Obj.cells #[Value.slice none 0 0, Value.slice none 0 0, Value.slice (some (Addr.mk r11 0 none)) (Int.toNat (↑x0n : Int)) (Int.toNat (↑x0n : Int)), Value.int IntKind.i64 0] 161) (fun r13 H14 =>
  ∃ I15 : List Value → Heap → Prop,
  ∃ I16 : List Value → Heap → Nat,
  (I15 ([Value.int IntKind.i64 0]) H14) ∧
  ∀ n17 : Int,
  ∀ v18 v19 v20 v21 v22 v23 v24 v25 v26 v27 v28 v29 v30 v31 v32 v33 v34 v35 v36 v37 v38 : Value,
  ∀ H39 : Heap,
  (I15 ([Value.int IntKind.i64 n17]) H39) →
  sB (decide (n17 < (↑x0n : Int))) (nz x0a (fun a41 =>
  ask ((0 : Int) ≤ n17 ∧ n17 < (↑x0n : Int)) (ld H39 (Addr.add a41 (Int.toNat n17 * 1)) (fun v42 =>
  dSl v42 (fun p43 r44 r45 =>
  sB ((↑r44 : Int) != 128) (R (Ending.returned (Value.tuple #[Value.pointer none, Value.int IntKind.i64 1])) H39) (ld H39 (Addr.mk r13 0 none) (fun v46 =>
  dSl v46 (fun p47 r48 r49 =>
  HCalls Tryz.prog 80 #[Value.slice p43 r44 r45] H39 (Sp.retK (fun v50 H51 =>
  dSl v50 (fun p52 r53 r54 =>
  (ld H51 (Addr.mk r13 0 none) (fun v55 =>
  dSl v55 (fun p56 r57 r58 =>
  (Value.slice p56 r57 r58) = (Value.slice p47 r48 r49)))) ∧
  al H51 (Obj.cells #[Value.slice p52 r53 r54] 46) (fun r59 H60 =>
  (ld H60 (Addr.mk r13 0 none) (fun v61 =>
  dSl v61 (fun p62 r63 r64 =>
  (Value.slice p62 r63 r64) = (Value.slice p47 r48 r49)))) ∧
  semW Tryz.prog (Builtin.append_ #[50, 50] 50 #[Value.slice p47 r48 r49, Value.slice (some (Addr.mk r59 0 none)) 1 1]) nopR H60 (fun v67 H68 =>
  dSl v67 (fun p69 r70 r71 =>
  st H68 (Addr.mk r13 0 none) (Value.slice p69 r70 r71) (fun H72 =>
  wr IntKind.i64 (n17 + 1) (fun n73 =>
  (I15 ([Value.int IntKind.i64 n73]) H72) ∧
  (I16 [Value.int IntKind.i64 n73] H72) < (I16 [Value.int IntKind.i64 n17] H39)))))))) nopR))))))))) (R (Ending.returned (Value.tuple #[Value.pointer (some (Addr.mk r13 0 none)), Value.int IntKind.i64 0])) H39))))))) (fun k76 =>
  sB (decide ((↑x0n : Int) < 1)) (k76 (Value.bool true) H) (k76 (Value.bool (decide ((↑x0n : Int) > 2048))) H))
theorem F28_eq (x0a : Option Addr) (x0n : Nat) (x0c : Nat) (R : Ending → Heap → Prop) (H : Heap) : F28 x0a x0n x0c R H = vc Tryz.prog (codeOf Tryz.f28) (.node none .leaf (.node none (.node (some ⟨[(14, 4)], [7, 8, 9, 10, 11, 12, 13]⟩) .leaf .leaf) (.node none .leaf (.node none (.node none .leaf (.node none (.node (some ⟨[(22, 3)], [2, 3, 6, 23, 24, 25, 26, 27, 28, 29, 30, 31, 32, 33, 34, 35, 36, 37, 38, 39, 40]⟩) .leaf .leaf) .leaf)) .leaf)))) (postV Tryz.prog Tryz.f28 R) ⟨#[Value.slice x0a x0n x0c] ++ Array.replicate (Tryz.f28.ntmps - 1) undef, []⟩ H := by kernel_rfl
theorem F28_calls {R : Ending → Heap → Prop} {H : Heap} (x0a : Option Addr) (x0n : Nat) (x0c : Nat) (h : F28 x0a x0n x0c R H) : HCalls Tryz.prog 28 #[Value.slice x0a x0n x0c] H R :=
  calls_by (F := F28 x0a x0n x0c R H) (.node none .leaf (.node none (.node (some ⟨[(14, 4)], [7, 8, 9, 10, 11, 12, 13]⟩) .leaf .leaf) (.node none .leaf (.node none (.node none .leaf (.node none (.node (some ⟨[(22, 3)], [2, 3, 6, 23, 24, 25, 26, 27, 28, 29, 30, 31, 32, 33, 34, 35, 36, 37, 38, 39, 40]⟩) .leaf .leaf) .leaf)) .leaf)))) Tryz.func28 rfl (F28_eq x0a x0n x0c R H) h
end Go.Proofs.YtdlelcpkelginaaGreat.E
