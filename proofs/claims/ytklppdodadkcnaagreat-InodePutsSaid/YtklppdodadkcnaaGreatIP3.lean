/- My own texts, joined. -/
import Derived.KernelRfl
import Derived.Laws.Externs
import Derived.Lib.MakeNoZero
import Derived.Test.YtklppdodadkcnaaGreatProg
import Derived.Test.YtklppdodadkcnaaGreatIP2
/- copy; entries without a text: bytealg.MakeNoZero; min. -/
namespace Go.Proofs.YtklppdodadkcnaaGreat.E
open Go
set_option linter.unusedVariables false
set_option linter.unusedSimpArgs false
theorem wrap_u64 (x : Int) : IntKind.u64.wrap x = x % 18446744073709551616 := rfl
def ivs (l : List Int) : List Value := l.map (Value.int .i64)
theorem ivs_len (l : List Int) : (ivs l).length = l.length := by simp [ivs]
theorem ivs_one (l : List Int) : ∀ u ∈ ivs l, u.oneCell' = true := by intro u hu; simp [ivs] at hu; obtain ⟨b, _, rfl⟩ := hu; rfl
theorem ivs_get {l : List Int} {k : Nat} {x : Int} (h : l[k]? = some x) : (ivs l)[k]? = some (.int .i64 x) := by simp [ivs, h]
theorem ivs_take (l : List Int) (n : Nat) : (ivs l).take n = ivs (l.take n) := by simp [ivs]
theorem ivs_drop (l : List Int) (n : Nat) : (ivs l).drop n = ivs (l.drop n) := by simp [ivs]
theorem ivs_app (l m : List Int) : ivs (l ++ m) = ivs l ++ ivs m := by simp [ivs]
theorem Own.ne_none {s : TH} {a : Option Addr} {n c e k : Nat} {xs : List Value} {τ : Nat} (h : Own s a n c e k xs τ) (hn : 0 < n) : ∃ b, a = some b := by
  cases a with
  | none => have := h.none_iff rfl; omega
  | some b => exact ⟨b, rfl⟩
theorem Sl.ne_none {s : TH} {a : Option Addr} {xs : List Value} {τ : Nat} (h : Sl s a xs τ) (hn : 0 < xs.length) : ∃ b, a = .some b := h.some (fun e => by rw [e] at hn; cases hn)
end Go.Proofs.YtklppdodadkcnaaGreat.E
/- Contracts of functions. -/
namespace Go.Proofs.YtklppdodadkcnaaGreat.E
open Go Go.Proofs
set_option linter.unusedVariables false
set_option linter.unusedSimpArgs false
theorem u48 : Tryz.prog.underlying 48 = some (.map 3 3) := by kernel_rfl
theorem u232 : Tryz.prog.underlying 232 = some (.map 3 244) := by kernel_rfl
theorem z3 (w : World) : (zeroValue 3).run Tryz.prog w = .ok (.int .i64 0) w := by kernel_rfl
theorem z4 (w : World) : (zeroValue 4).run Tryz.prog w = .ok (.bool false) w := by kernel_rfl
theorem z5 (w : World) : (zeroValue 5).run Tryz.prog w = .ok (.int .u8 0) w := by kernel_rfl
theorem u3 : Tryz.prog.underlying 3 = some (.int .i64) := by kernel_rfl
theorem u5 : Tryz.prog.underlying 5 = some (.int .u8) := by kernel_rfl
theorem z27 (w : World) : (zeroValue 27).run Tryz.prog w = .ok (.pointer none) w := by kernel_rfl
theorem u45 : Tryz.prog.underlying 45 = some (.slice 3) := by kernel_rfl
theorem z45 (w : World) : (zeroValue 45).run Tryz.prog w = .ok (.slice none 0 0) w := by kernel_rfl
theorem u49 : Tryz.prog.underlying 49 = some (.slice 85) := by kernel_rfl
theorem z70 (w : World) : (zeroValue 70).run Tryz.prog w = .ok (.pointer none) w := by kernel_rfl
theorem u77 : Tryz.prog.underlying 77 = some (.slice 36) := by kernel_rfl
theorem z77 (w : World) : (zeroValue 77).run Tryz.prog w = .ok (.slice none 0 0) w := by kernel_rfl
theorem u85 : Tryz.prog.underlying 85 = some (.slice 5) := by kernel_rfl
theorem z85 (w : World) : (zeroValue 85).run Tryz.prog w = .ok (.slice none 0 0) w := by kernel_rfl
theorem u148 : Tryz.prog.underlying 148 = some (.slice 147) := by kernel_rfl
theorem u160 : Tryz.prog.underlying 160 = some (.slice 326) := by kernel_rfl
theorem u201 : Tryz.prog.underlying 201 = some (.slice 220) := by kernel_rfl
theorem z244 (w : World) : (zeroValue 244).run Tryz.prog w = .ok (.pointer none) w := by kernel_rfl
theorem in5 : (Tryz.prog.info? 5).map (fun i => (i.zero, i.size, i.bytes)) = some (some (.int .u8 0), 1, 1) := by kernel_rfl
theorem in3 : (Tryz.prog.info? 3).map (fun i => (i.zero, i.size, i.bytes)) = some (some (.int .i64 0), 1, 8) := by kernel_rfl
theorem in85 : (Tryz.prog.info? 85).map (fun i => (i.zero, i.size, i.bytes)) = some (some (.slice none 0 0), 1, 24) := by kernel_rfl
theorem keyI : KeyOk Tryz.prog 3 (Value.int .i64) := keyInt u3
end Go.Proofs.YtklppdodadkcnaaGreat.E
/- Contracts of functions. -/
namespace Go.Proofs.YtklppdodadkcnaaGreat.E
open Go Go.Proofs
set_option linter.unusedVariables false
set_option linter.unusedSimpArgs false
/-- a write on its way -/
structure SentM where
  id : Int
  blk : Int
  by_ : List UInt8
/-- what a disk is -/
structure DiskM where
  blocks : List (List UInt8)
  queue : List SentM
  fails : Int → Int
  last : Int
def DiskM.has (D : DiskM) (b : Int) : Prop := 0 ≤ b ∧ b < D.blocks.length
instance (D : DiskM) (b : Int) : Decidable (D.has b) := by unfold DiskM.has; infer_instance
/-- a slice's value: address, length, capacity -/
abbrev Hd := Option Addr × Nat
def hv (n : Nat) (p : Hd) : Value := .slice p.1 n p.2
def hd1 (p : Hd) : List Value := [.slice p.1 128 p.2]
def qv (q : Int × Int × Hd) : List Value := [.int .i64 q.1, .int .i64 q.2.1, .slice q.2.2.1 128 q.2.2.2]
theorem hd1_len (p : Hd) : (hd1 p).length = 1 := rfl
/-- so many bytes lie behind a slice's value -/
structure ByAt (s : TH) (τ : Nat) (p : Hd) (b : List UInt8) : Prop where
  sl : Sl s p.1 (bvs b) τ
  len : b.length = 128
theorem ByAt.mv {s s' : TH} {τ : Nat} {p : Hd} {b : List UInt8} {C : Nat → Prop} (h : ByAt s τ p b) (c : Chg C s s') (hn : ∀ j, j < s.h.size → s.g j = τ → ¬ C j) : ByAt s' τ p b := ⟨h.sl.mv c hn, h.len⟩
theorem ByAt.ne {s : TH} {τ : Nat} {p : Hd} {b : List UInt8} (h : ByAt s τ p b) : ∃ a, p.1 = some a := h.sl.some fun e => by have := congrArg List.length e; rw [bvs_len, h.len] at this; cases this
/-- rows of bytes -/
structure BRel (s : TH) (τ : Nat) (hs : List Hd) (bs : List (List UInt8)) : Prop where
  len : hs.length = bs.length
  at_ : ∀ (i : Nat) (p : Hd) (b : List UInt8), hs[i]? = some p → bs[i]? = some b → ByAt s τ p b
structure QRel (s : TH) (τ : Nat) (qs : List (Int × Int × Hd)) (q : List SentM) : Prop where
  len : qs.length = q.length
  at_ : ∀ (i : Nat) (x : Int × Int × Hd) (m : SentM), qs[i]? = some x → q[i]? = some m → x.1 = m.id ∧ x.2.1 = m.blk ∧ ByAt s τ x.2.2 m.by_
theorem BRel.mv {s s' : TH} {τ : Nat} {hs : List Hd} {bs : List (List UInt8)} {C : Nat → Prop} (h : BRel s τ hs bs) (c : Chg C s s') (hn : ∀ j, j < s.h.size → s.g j = τ → ¬ C j) : BRel s' τ hs bs := ⟨h.len, fun i p b h1 h2 => (h.at_ i p b h1 h2).mv c hn⟩
theorem QRel.mv {s s' : TH} {τ : Nat} {hs : List (Int × Int × Hd)} {bs : List SentM} {C : Nat → Prop} (h : QRel s τ hs bs) (c : Chg C s s') (hn : ∀ j, j < s.h.size → s.g j = τ → ¬ C j) : QRel s' τ hs bs := ⟨h.len, fun i p b h1 h2 => ⟨(h.at_ i p b h1 h2).1, (h.at_ i p b h1 h2).2.1, (h.at_ i p b h1 h2).2.2.mv c hn⟩⟩
theorem bcell {hs : List Hd} {m : Nat} {x : Hd} (h : hs[m]? = some x) : (hs.flatMap hd1)[m]? = some (.slice x.1 128 x.2) := by
  have := fm_get hd1_len hs m 0 x h (by omega); simpa [hd1] using this
def ixr {α : Type} (p : α → Bool) : List α → Nat → Int
  | [], _ => -1
  | x :: l, i => if p x = true then (i : Int) else ixr p l (i + 1)
def ixf {α : Type} (p : α → Bool) (l : List α) : Int := ixr p l 0
theorem ixr_some {α : Type} {p : α → Bool} : ∀ (l : List α) (i k : Nat) (x : α), l[k]? = some x → p x = true → (∀ (j : Nat) (y : α), j < k → l[j]? = some y → p y = false) → ixr p l i = ((i + k : Nat) : Int)
  | [], i, k, x, h, _, _ => by simp at h
  | y :: l, i, 0, x, h, hp, _ => by simp at h; subst h; simp [ixr, hp]
  | y :: l, i, k + 1, x, h, hp, ha => by
    have := ha 0 y (by omega) (by simp)
    rw [ixr, if_neg (by simp [this]), ixr_some l (i + 1) k x (by simpa using h) hp (fun j z hj hz => ha (j + 1) z (by omega) (by simpa using hz))]
    omega
theorem ixr_none {α : Type} {p : α → Bool} : ∀ (l : List α) (i : Nat), (∀ (j : Nat) (y : α), j < l.length → l[j]? = some y → p y = false) → ixr p l i = -1
  | [], i, _ => rfl
  | y :: l, i, ha => by
    have := ha 0 y (by simp) (by simp)
    rw [ixr, if_neg (by simp [this])]
    exact ixr_none l (i + 1) fun j z hj hz => ha (j + 1) z (by simpa using hj) (by simpa using hz)
theorem ixf_some {α : Type} {p : α → Bool} {l : List α} {k : Nat} {x : α} (h : l[k]? = some x) (hp : p x = true) (ha : ∀ (j : Nat) (y : α), j < k → l[j]? = some y → p y = false) : ixf p l = (k : Int) := by
  have := ixr_some l 0 k x h hp ha; simpa [ixf] using this
theorem ixf_none {α : Type} {p : α → Bool} {l : List α} (ha : ∀ (j : Nat) (y : α), j < l.length → l[j]? = some y → p y = false) : ixf p l = -1 := ixr_none l 0 ha
theorem ixf_cases {α : Type} (p : α → Bool) : ∀ (l : List α), (ixf p l = -1 ∧ ∀ x ∈ l, p x = false) ∨ ∃ (k : Nat) (x : α), ixf p l = k ∧ l[k]? = some x ∧ p x = true := by
  intro l
  by_cases h : ∀ x ∈ l, p x = false
  · left; exact ⟨ixf_none fun j y hj hy => h y (List.mem_of_getElem? hy), h⟩
  · right
    have : ∃ k x, l[k]? = some x ∧ p x = true ∧ ∀ (j : Nat) (y : α), j < k → l[j]? = some y → p y = false := by
      induction l with
      | nil => simp at h
      | cons y l ih =>
        by_cases hy : p y = true
        · exact ⟨0, y, by simp, hy, fun j z hj => by omega⟩
        · obtain ⟨k, x, h1, h2, h3⟩ := ih (by intro h'; apply h; intro x hx; rcases List.mem_cons.1 hx with rfl | hx <;> first | exact h' _ hx | simpa using hy)
          refine ⟨k + 1, x, by simpa using h1, h2, fun j z hj hz => ?_⟩
          cases j with
          | zero => simp at hz; subst hz; simpa using hy
          | succ j => exact h3 j z (by omega) (by simpa using hz)
    obtain ⟨k, x, h1, h2, h3⟩ := this
    exact ⟨k, x, ixf_some h1 h2 h3, h1, h2⟩
def DiskM.write (D : DiskM) (b : Int) (x : List UInt8) : DiskM × Int × Int :=
  if ¬ D.has b then (D, 0, 1)
  else if x.length ≠ 128 then (D, 0, 1)
  else if ixf (fun m : SentM => m.blk == b) D.queue ≥ 0 then (D, 0, 21)
  else if 64 ≤ D.queue.length then (D, 0, 3)
  else ({ D with queue := D.queue ++ [⟨D.last + 1, b, x⟩], last := D.last + 1 }, D.last + 1, 0)
theorem fm_set1 (hs : List Hd) (j : Nat) (p : Hd) : (hs.flatMap hd1).set j (.slice p.1 128 p.2) = (hs.set j p).flatMap hd1 := by
  have e : ∀ l : List Hd, l.flatMap hd1 = l.map fun p => .slice p.1 128 p.2 := fun l => by induction l with | nil => rfl | cons x l ih => simp [hd1, ih]
  rw [e, e, List.map_set]
theorem BRel.set {s : TH} {τ : Nat} {hs : List Hd} {bs : List (List UInt8)} (h : BRel s τ hs bs) (j : Nat) {p : Hd} {b : List UInt8} (hp : ByAt s τ p b) : BRel s τ (hs.set j p) (bs.set j b) := by
  refine ⟨by simp [h.len], fun i x y hx hy => ?_⟩
  rw [List.getElem?_set] at hx hy
  by_cases hij : j = i
  · subst hij
    rw [if_pos rfl] at hx hy
    split at hx
    · split at hy
      · cases hx; cases hy; exact hp
      · cases hy
    · cases hx
  · rw [if_neg hij] at hx hy; exact h.at_ i x y hx hy
theorem QRel.erase {s : TH} {τ : Nat} {qs : List (Int × Int × Hd)} {q : List SentM} (h : QRel s τ qs q) (i : Nat) : QRel s τ (qs.eraseIdx i) (q.eraseIdx i) := by
  refine ⟨by simp [List.length_eraseIdx, h.len], fun j y n hy hn => ?_⟩
  rw [List.getElem?_eraseIdx] at hy hn
  split at hy
  · rename_i hj; rw [if_pos hj] at hn; exact h.at_ j y n hy hn
  · rename_i hj; rw [if_neg hj] at hn; exact h.at_ (j + 1) y n hy hn
theorem QRel.snoc {s : TH} {τ : Nat} {qs : List (Int × Int × Hd)} {q : List SentM} (h : QRel s τ qs q) {x : Int × Int × Hd} {m : SentM} (hx : x.1 = m.id ∧ x.2.1 = m.blk ∧ ByAt s τ x.2.2 m.by_) : QRel s τ (qs ++ [x]) (q ++ [m]) := by
  refine ⟨by simp [h.len], fun i y n hy hn => ?_⟩
  by_cases hi : i < q.length
  · rw [List.getElem?_append_left (by rw [h.len]; exact hi)] at hy
    rw [List.getElem?_append_left hi] at hn
    exact h.at_ i y n hy hn
  · rw [List.getElem?_append_right (by rw [h.len]; omega)] at hy
    rw [List.getElem?_append_right (by omega)] at hn
    rw [h.len] at hy
    cases hd : i - q.length with
    | zero => rw [hd] at hy hn; simp at hy hn; subst hy hn; exact hx
    | succ k => rw [hd] at hy; simp at hy
/-- of a block how many of its reads fail -/
def FailsOk (fm : List (Int × Value)) (f : Int → Int) : Prop := ∀ b, (mget b fm).getD (.int .i64 0) = .int .i64 (f b)
/-- a disk of the program in memory, its parts -/
structure DiskP (s : TH) (d T : Nat) (D : DiskM) (pa : Option Addr) (pc : Nat) (qa : Option Addr) (qc : Nat) (hs : List Hd) (qs : List (Int × Int × Hd)) (fr : Nat) (fm : List (Int × Value)) : Prop where
  blk : Blk s d [.slice pa D.blocks.length pc, .slice qa D.queue.length qc, .map (some fr), .int .i64 D.last] 192 T
  rows : Own s pa D.blocks.length pc 85 1 (hs.flatMap hd1) (T + 1)
  brel : BRel s (T + 3) hs D.blocks
  que : Own s qa D.queue.length qc 328 3 (qs.flatMap qv) (T + 2)
  qrel : QRel s (T + 3) qs D.queue
  fails : MapK (Value.int .i64) s fr fm (T + 4)
  fok : FailsOk fm D.fails
  nb : 1 ≤ D.blocks.length ∧ D.blocks.length ≤ 2048
  nq : D.queue.length ≤ 64
  qin : ∀ m ∈ D.queue, 0 ≤ m.blk ∧ m.blk < D.blocks.length
def Disk (s : TH) (d T : Nat) (D : DiskM) : Prop := ∃ pa pc qa qc hs qs fr fm, DiskP s d T D pa pc qa qc hs qs fr fm
theorem DiskP.mv {s s' : TH} {d T : Nat} {D : DiskM} {pa : Option Addr} {pc : Nat} {qa : Option Addr} {qc : Nat} {hs : List Hd} {qs : List (Int × Int × Hd)} {fr : Nat} {fm : List (Int × Value)} {C : Nat → Prop}
    (h : DiskP s d T D pa pc qa qc hs qs fr fm) (c : Chg C s s') (hn : ∀ j, j < s.h.size → T ≤ s.g j → s.g j < T + 10 → ¬ C j) : DiskP s' d T D pa pc qa qc hs qs fr fm :=
  ⟨h.blk.mv c (of_rng hn (Nat.le_refl _) (by omega) d h.blk.lt h.blk.tag), h.rows.mv c (of_rng hn (by omega) (by omega)), h.brel.mv c (of_rng hn (by omega) (by omega)), h.que.mv c (of_rng hn (by omega) (by omega)), h.qrel.mv c (of_rng hn (by omega) (by omega)),
    h.fails.mv c (of_rng hn (by omega) (by omega) fr h.fails.lt h.fails.tag), h.fok, h.nb, h.nq, h.qin⟩
theorem Disk.mv {s s' : TH} {d T : Nat} {D : DiskM} {C : Nat → Prop} (h : Disk s d T D) (c : Chg C s s') (hn : ∀ j, j < s.h.size → T ≤ s.g j → s.g j < T + 10 → ¬ C j) : Disk s' d T D := by
  obtain ⟨pa, pc, qa, qc, hs, qs, fr, fm, h⟩ := h
  exact ⟨pa, pc, qa, qc, hs, qs, fr, fm, h.mv c hn⟩
end Go.Proofs.YtklppdodadkcnaaGreat.E
/- The functions' forms in the engine's words, printed by my own program. -/
namespace Go.Proofs.YtklppdodadkcnaaGreat.E
open Go Go.Proofs
set_option linter.unusedVariables false
set_option maxRecDepth 100000
/-- bollard/bollardlaw13.InodePuts -/
def F3 (x0_0 : Value) (x0_1 : Value) (x0_2 : Value) (x1 : Int) (x2_0 : Value) (x2_1 : Value) (x2_2 : Value) (x2_3 : Value) (x2_4 : Value) (x2_5 : Value) (x2_6 : Value) (x2_7 : Value) (x2_8 : Value) (R : Ending → Heap → Prop) (H : Heap) : Prop :=
  al H (Obj.cells #[x0_0, x0_1, x0_2] 23) (fun r1 H2 =>
  al H2 (Obj.cells #[x2_0, x2_1, x2_2, x2_3, x2_4, x2_5, x2_6, x2_7, x2_8] 26) (fun r3 H4 =>
  ld H4 (Addr.mk r1 0 none) (fun v5 =>
  ld H4 (Addr.mk r1 1 none) (fun v6 =>
  ld H4 (Addr.mk r1 2 none) (fun v7 =>
  HCalls Tryz.prog 7 #[Value.agg #[v5, v6, v7]] H4 (Sp.retK (fun v8 H9 =>
  dT 3 v8 (fun v10 v11 v12 =>
  dPtr v10 (fun p13 =>
  dA 3 v11 (fun v14 v15 v16 =>
  dBl v12 (fun b17 =>
  st H9 (Addr.mk r1 0 none) v14 (fun H18 =>
  st H18 (Addr.mk r1 1 none) v15 (fun H19 =>
  st H19 (Addr.mk r1 2 none) v16 (fun H20 =>
  sB (!b17) (R (Ending.returned (Value.bool false)) H20) (wr IntKind.u64 x1 (fun n21 =>
  ld H20 (Addr.mk r1 0 none) (fun v22 =>
  dInt IntKind.i64 v22 (fun n23 =>
  ld H20 (Addr.mk r1 2 none) (fun v24 =>
  dInt IntKind.i64 v24 (fun n25 =>
  wr IntKind.i64 (n23 * n25) (fun n26 =>
  wr IntKind.u64 n26 (fun n27 =>
  ask (n27 ≠ (0 : Int)) (nm (Int.tmod n21 n27) (fun n28 =>
  wr IntKind.i64 n28 (fun n29 =>
  ld H20 (Addr.mk r1 0 none) (fun v30 =>
  dInt IntKind.i64 v30 (fun n31 =>
  ld H20 (Addr.mk r1 2 none) (fun v32 =>
  dInt IntKind.i64 v32 (fun n33 =>
  wr IntKind.i64 (n31 * n33) (fun n34 =>
  ∃ I35 : List Value → Heap → Prop,
  ∃ I36 : List Value → Heap → Nat,
  (I35 ([Value.slice none 0 0, Value.int IntKind.i64 0]) H20) ∧
  ∀ p37 : Option Addr,
  ∀ r38 : Nat,
  ∀ r39 : Nat,
  ∀ n40 : Int,
  ∀ v41 v42 v43 v44 v45 v46 v47 v48 v49 v50 v51 v52 v53 v54 v55 v56 v57 v58 v59 v60 v61 v62 v63 : Value,
  ∀ H64 : Heap,
  (I35 ([Value.slice p37 r38 r39, Value.int IntKind.i64 n40]) H64) →
  sB (decide (n40 < n34)) (nz p13 (fun a66 =>
  ld H64 (Addr.add a66 1) (fun v67 =>
  dPtr v67 (fun p68 =>
  ld H64 (Addr.mk r1 0 none) (fun v69 =>
  ld H64 (Addr.mk r1 1 none) (fun v70 =>
  ld H64 (Addr.mk r1 2 none) (fun v71 =>
  (HCalls Tryz.prog 8 #[Value.pointer p68, Value.agg #[v69, v70, v71], Value.int IntKind.i64 n40] H64 (Sp.retK (fun v72 H73 =>
  dT 2 v72 (fun v74 v75 =>
  dA 9 v74 (fun v76 v77 v78 v79 v80 v81 v82 v83 v84 =>
  dInt IntKind.i64 v75 (fun n85 =>
  al H73 (Obj.cells #[Value.int IntKind.i64 0, Value.int IntKind.i64 0, Value.int IntKind.i64 0, Value.int IntKind.i64 0, Value.int IntKind.i64 0, Value.int IntKind.i64 0, Value.int IntKind.i64 0, Value.int IntKind.i64 0, Value.int IntKind.i64 0] 26) (fun r86 H87 =>
  st H87 (Addr.mk r86 0 none) v76 (fun H88 =>
  st H88 (Addr.mk r86 1 none) v77 (fun H89 =>
  st H89 (Addr.mk r86 2 none) v78 (fun H90 =>
  st H90 (Addr.mk r86 3 none) v79 (fun H91 =>
  st H91 (Addr.mk r86 4 none) v80 (fun H92 =>
  st H92 (Addr.mk r86 5 none) v81 (fun H93 =>
  st H93 (Addr.mk r86 6 none) v82 (fun H94 =>
  st H94 (Addr.mk r86 7 none) v83 (fun H95 =>
  st H95 (Addr.mk r86 8 none) v84 (fun H96 =>
  sB (n85 != 0) (R (Ending.returned (Value.bool false)) H96) (ld H96 (Addr.mk r86 0 none) (fun v97 =>
  ld H96 (Addr.mk r86 1 none) (fun v98 =>
  ld H96 (Addr.mk r86 2 none) (fun v99 =>
  ld H96 (Addr.mk r86 3 none) (fun v100 =>
  ld H96 (Addr.mk r86 4 none) (fun v101 =>
  ld H96 (Addr.mk r86 5 none) (fun v102 =>
  ld H96 (Addr.mk r86 6 none) (fun v103 =>
  ld H96 (Addr.mk r86 7 none) (fun v104 =>
  ld H96 (Addr.mk r86 8 none) (fun v105 =>
  al H96 (Obj.cells #[v97, v98, v99, v100, v101, v102, v103, v104, v105] 26) (fun r106 H107 =>
  semW Tryz.prog (Builtin.append_ #[31, 31] 31 #[Value.slice p37 r38 r39, Value.slice (some (Addr.mk r106 0 none)) 1 1]) (pnR R) H107 (fun v110 H111 =>
  dSl v110 (fun p112 r113 r114 =>
  wr IntKind.i64 (n40 + 1) (fun n115 =>
  (I35 ([Value.slice p112 r113 r114, Value.int IntKind.i64 n115]) H111) ∧
  (I36 [Value.slice p112 r113 r114, Value.int IntKind.i64 n115] H111) < (I36 [Value.slice p37 r38 r39, Value.int IntKind.i64 n40] H64))))))))))))))))))))))))))))) nopR)) ∧
  al H64 (Obj.cells #[Value.int IntKind.i64 0, Value.int IntKind.i64 0, Value.int IntKind.i64 0, Value.int IntKind.i64 0, Value.int IntKind.i64 0, Value.int IntKind.i64 0, Value.int IntKind.i64 0, Value.int IntKind.i64 0, Value.int IntKind.i64 0] 26) (fun r118 H119 =>
  (ld H119 (Addr.mk r1 0 none) (fun v120 =>
  ld H119 (Addr.mk r1 1 none) (fun v121 =>
  ld H119 (Addr.mk r1 2 none) (fun v122 =>
  (Value.agg #[v120, v121, v122]) = (Value.agg #[v69, v70, v71]))))) ∧
  (ld H119 (Addr.add a66 1) (fun v123 =>
  dPtr v123 (fun p124 =>
  (Value.pointer p124) = (Value.pointer p68)))) ∧
  HCalls Tryz.prog 8 #[Value.pointer p68, Value.agg #[v69, v70, v71], Value.int IntKind.i64 n40] H119 (Sp.retK (fun v125 H126 =>
  dT 2 v125 (fun v127 v128 =>
  dA 9 v127 (fun v129 v130 v131 v132 v133 v134 v135 v136 v137 =>
  dInt IntKind.i64 v128 (fun n138 =>
  st H126 (Addr.mk r118 0 none) v129 (fun H139 =>
  st H139 (Addr.mk r118 1 none) v130 (fun H140 =>
  st H140 (Addr.mk r118 2 none) v131 (fun H141 =>
  st H141 (Addr.mk r118 3 none) v132 (fun H142 =>
  st H142 (Addr.mk r118 4 none) v133 (fun H143 =>
  st H143 (Addr.mk r118 5 none) v134 (fun H144 =>
  st H144 (Addr.mk r118 6 none) v135 (fun H145 =>
  st H145 (Addr.mk r118 7 none) v136 (fun H146 =>
  st H146 (Addr.mk r118 8 none) v137 (fun H147 =>
  sB (n138 != 0) (R (Ending.returned (Value.bool false)) H147) (ld H147 (Addr.mk r118 0 none) (fun v148 =>
  ld H147 (Addr.mk r118 1 none) (fun v149 =>
  ld H147 (Addr.mk r118 2 none) (fun v150 =>
  ld H147 (Addr.mk r118 3 none) (fun v151 =>
  ld H147 (Addr.mk r118 4 none) (fun v152 =>
  ld H147 (Addr.mk r118 5 none) (fun v153 =>
  ld H147 (Addr.mk r118 6 none) (fun v154 =>
  ld H147 (Addr.mk r118 7 none) (fun v155 =>
  ld H147 (Addr.mk r118 8 none) (fun v156 =>
  al H147 (Obj.cells #[v148, v149, v150, v151, v152, v153, v154, v155, v156] 26) (fun r157 H158 =>
  semW Tryz.prog (Builtin.append_ #[31, 31] 31 #[Value.slice p37 r38 r39, Value.slice (some (Addr.mk r157 0 none)) 1 1]) (pnR R) H158 (fun v161 H162 =>
  dSl v161 (fun p163 r164 r165 =>
  wr IntKind.i64 (n40 + 1) (fun n166 =>
  (I35 ([Value.slice p163 r164 r165, Value.int IntKind.i64 n166]) H162) ∧
  (I36 [Value.slice p163 r164 r165, Value.int IntKind.i64 n166] H162) < (I36 [Value.slice p37 r38 r39, Value.int IntKind.i64 n40] H64)))))))))))))))))))))))))))) nopR))))))))) (nz p13 (fun a169 =>
  ld H64 (Addr.add a169 1) (fun v170 =>
  dPtr v170 (fun p171 =>
  ld H64 (Addr.mk r1 0 none) (fun v172 =>
  ld H64 (Addr.mk r1 1 none) (fun v173 =>
  ld H64 (Addr.mk r1 2 none) (fun v174 =>
  ld H64 (Addr.mk r3 0 none) (fun v175 =>
  ld H64 (Addr.mk r3 1 none) (fun v176 =>
  ld H64 (Addr.mk r3 2 none) (fun v177 =>
  ld H64 (Addr.mk r3 3 none) (fun v178 =>
  ld H64 (Addr.mk r3 4 none) (fun v179 =>
  ld H64 (Addr.mk r3 5 none) (fun v180 =>
  ld H64 (Addr.mk r3 6 none) (fun v181 =>
  ld H64 (Addr.mk r3 7 none) (fun v182 =>
  ld H64 (Addr.mk r3 8 none) (fun v183 =>
  HCalls Tryz.prog 9 #[Value.pointer p171, Value.agg #[v172, v173, v174], Value.int IntKind.i64 n29, Value.agg #[v175, v176, v177, v178, v179, v180, v181, v182, v183], Value.slice none 0 0] H64 (Sp.retK (fun v184 H185 =>
  dT 2 v184 (fun v186 v187 =>
  dInt IntKind.i64 v186 (fun n188 =>
  dInt IntKind.i64 v187 (fun n189 =>
  nz p13 (fun a190 =>
  ld H185 (Addr.add a190 3) (fun v191 =>
  dPtr v191 (fun p192 =>
  ld H185 (Addr.mk r1 0 none) (fun v193 =>
  ld H185 (Addr.mk r1 1 none) (fun v194 =>
  ld H185 (Addr.mk r1 2 none) (fun v195 =>
  ld H185 (Addr.mk r3 0 none) (fun v196 =>
  ld H185 (Addr.mk r3 1 none) (fun v197 =>
  ld H185 (Addr.mk r3 2 none) (fun v198 =>
  ld H185 (Addr.mk r3 3 none) (fun v199 =>
  ld H185 (Addr.mk r3 4 none) (fun v200 =>
  ld H185 (Addr.mk r3 5 none) (fun v201 =>
  ld H185 (Addr.mk r3 6 none) (fun v202 =>
  ld H185 (Addr.mk r3 7 none) (fun v203 =>
  ld H185 (Addr.mk r3 8 none) (fun v204 =>
  HCalls Tryz.prog 10 #[Value.pointer p192, Value.agg #[v193, v194, v195], Value.int IntKind.i64 n29, Value.agg #[v196, v197, v198, v199, v200, v201, v202, v203, v204], Value.slice none 0 0] H185 (Sp.retK (fun v205 H206 =>
  dT 2 v205 (fun v207 v208 =>
  dInt IntKind.i64 v207 (fun n209 =>
  dInt IntKind.i64 v208 (fun n210 =>
  sB (n189 != n210) (R (Ending.returned (Value.bool false)) H206) (jn (α := VFH 0) (fun H211 =>
  ∀ v212 v213 v214 v215 v216 v217 : Value,
  ∃ I218 : List Value → Heap → Prop,
  ∃ I219 : List Value → Heap → Nat,
  (I218 ([Value.int IntKind.i64 0]) H211) ∧
  ∀ n220 : Int,
  ∀ v221 v222 v223 v224 v225 v226 v227 v228 v229 v230 v231 v232 v233 v234 v235 v236 v237 v238 v239 v240 v241 v242 v243 v244 v245 v246 v247 : Value,
  ∀ H248 : Heap,
  (I218 ([Value.int IntKind.i64 n220]) H248) →
  sB (decide (n220 < (↑r38 : Int))) (nz p37 (fun a250 =>
  ask ((0 : Int) ≤ n220 ∧ n220 < (↑r38 : Int)) (ld H248 (Addr.add a250 (Int.toNat n220 * 9)) (fun v251 =>
  ld H248 (Addr.add (Addr.add a250 (Int.toNat n220 * 9)) 1) (fun v252 =>
  ld H248 (Addr.add (Addr.add a250 (Int.toNat n220 * 9)) 2) (fun v253 =>
  ld H248 (Addr.add (Addr.add a250 (Int.toNat n220 * 9)) 3) (fun v254 =>
  ld H248 (Addr.add (Addr.add a250 (Int.toNat n220 * 9)) 4) (fun v255 =>
  ld H248 (Addr.add (Addr.add a250 (Int.toNat n220 * 9)) 5) (fun v256 =>
  ld H248 (Addr.add (Addr.add a250 (Int.toNat n220 * 9)) 6) (fun v257 =>
  ld H248 (Addr.add (Addr.add a250 (Int.toNat n220 * 9)) 7) (fun v258 =>
  ld H248 (Addr.add (Addr.add a250 (Int.toNat n220 * 9)) 8) (fun v259 =>
  al H248 (Obj.cells #[Value.int IntKind.i64 0, Value.int IntKind.i64 0, Value.int IntKind.i64 0, Value.int IntKind.i64 0, Value.int IntKind.i64 0, Value.int IntKind.i64 0, Value.int IntKind.i64 0, Value.int IntKind.i64 0, Value.int IntKind.i64 0] 26) (fun r260 H261 =>
  st H261 (Addr.mk r260 0 none) v251 (fun H262 =>
  st H262 (Addr.mk r260 1 none) v252 (fun H263 =>
  st H263 (Addr.mk r260 2 none) v253 (fun H264 =>
  st H264 (Addr.mk r260 3 none) v254 (fun H265 =>
  st H265 (Addr.mk r260 4 none) v255 (fun H266 =>
  st H266 (Addr.mk r260 5 none) v256 (fun H267 =>
  st H267 (Addr.mk r260 6 none) v257 (fun H268 =>
  st H268 (Addr.mk r260 7 none) v258 (fun H269 =>
  st H269 (Addr.mk r260 8 none) v259 (fun H270 =>
  nz p13 (fun a271 =>
  ld H270 (Addr.add a271 1) (fun v272 =>
  dPtr v272 (fun p273 =>
  ld H270 (Addr.mk r1 0 none) (fun v274 =>
  ld H270 (Addr.mk r1 1 none) (fun v275 =>
  ld H270 (Addr.mk r1 2 none) (fun v276 =>
  (HCalls Tryz.prog 8 #[Value.pointer p273, Value.agg #[v274, v275, v276], Value.int IntKind.i64 n220] H270 (Sp.retK (fun v277 H278 =>
  dT 2 v277 (fun v279 v280 =>
  dA 9 v279 (fun v281 v282 v283 v284 v285 v286 v287 v288 v289 =>
  dInt IntKind.i64 v280 (fun n290 =>
  al H278 (Obj.cells #[Value.int IntKind.i64 0, Value.int IntKind.i64 0, Value.int IntKind.i64 0, Value.int IntKind.i64 0, Value.int IntKind.i64 0, Value.int IntKind.i64 0, Value.int IntKind.i64 0, Value.int IntKind.i64 0, Value.int IntKind.i64 0] 26) (fun r291 H292 =>
  st H292 (Addr.mk r291 0 none) v281 (fun H293 =>
  st H293 (Addr.mk r291 1 none) v282 (fun H294 =>
  st H294 (Addr.mk r291 2 none) v283 (fun H295 =>
  st H295 (Addr.mk r291 3 none) v284 (fun H296 =>
  st H296 (Addr.mk r291 4 none) v285 (fun H297 =>
  st H297 (Addr.mk r291 5 none) v286 (fun H298 =>
  st H298 (Addr.mk r291 6 none) v287 (fun H299 =>
  st H299 (Addr.mk r291 7 none) v288 (fun H300 =>
  st H300 (Addr.mk r291 8 none) v289 (fun H301 =>
  jn (α := VFH 1) (fun v302 H303 =>
  ∀ v304 v305 v306 v307 v308 v309 : Value,
  dBl v302 (fun b310 =>
  sB b310 (R (Ending.returned (Value.bool false)) H303) (wr IntKind.i64 (n220 + 1) (fun n311 =>
  (I218 ([Value.int IntKind.i64 n311]) H303) ∧
  (I219 [Value.int IntKind.i64 n311] H303) < (I219 [Value.int IntKind.i64 n220] H248))))) (fun k312 =>
  sB (n290 != 0) (k312 (Value.bool true) H301) (ld H301 (Addr.mk r260 0 none) (fun v313 =>
  ld H301 (Addr.mk r260 1 none) (fun v314 =>
  ld H301 (Addr.mk r260 2 none) (fun v315 =>
  ld H301 (Addr.mk r260 3 none) (fun v316 =>
  ld H301 (Addr.mk r260 4 none) (fun v317 =>
  ld H301 (Addr.mk r260 5 none) (fun v318 =>
  ld H301 (Addr.mk r260 6 none) (fun v319 =>
  ld H301 (Addr.mk r260 7 none) (fun v320 =>
  ld H301 (Addr.mk r260 8 none) (fun v321 =>
  ld H301 (Addr.mk r291 0 none) (fun v322 =>
  ld H301 (Addr.mk r291 1 none) (fun v323 =>
  ld H301 (Addr.mk r291 2 none) (fun v324 =>
  ld H301 (Addr.mk r291 3 none) (fun v325 =>
  ld H301 (Addr.mk r291 4 none) (fun v326 =>
  ld H301 (Addr.mk r291 5 none) (fun v327 =>
  ld H301 (Addr.mk r291 6 none) (fun v328 =>
  ld H301 (Addr.mk r291 7 none) (fun v329 =>
  ld H301 (Addr.mk r291 8 none) (fun v330 =>
  semW Tryz.prog (eqSem BinOp.neq 26 (Operand.tmp 115) (Operand.tmp 116) (Value.agg #[v313, v314, v315, v316, v317, v318, v319, v320, v321]) (Value.agg #[v322, v323, v324, v325, v326, v327, v328, v329, v330])) (pnR R) H301 (fun v333 H334 =>
  dBl v333 (fun b335 =>
  k312 (Value.bool b335) H334)))))))))))))))))))))))))))))))))))) nopR)) ∧
  al H270 (Obj.cells #[Value.int IntKind.i64 0, Value.int IntKind.i64 0, Value.int IntKind.i64 0, Value.int IntKind.i64 0, Value.int IntKind.i64 0, Value.int IntKind.i64 0, Value.int IntKind.i64 0, Value.int IntKind.i64 0, Value.int IntKind.i64 0] 26) (fun r338 H339 =>
  (ld H339 (Addr.mk r1 0 none) (fun v340 =>
  ld H339 (Addr.mk r1 1 none) (fun v341 =>
  ld H339 (Addr.mk r1 2 none) (fun v342 =>
  (Value.agg #[v340, v341, v342]) = (Value.agg #[v274, v275, v276]))))) ∧
  (ld H339 (Addr.add a271 1) (fun v343 =>
  dPtr v343 (fun p344 =>
  (Value.pointer p344) = (Value.pointer p273)))) ∧
  HCalls Tryz.prog 8 #[Value.pointer p273, Value.agg #[v274, v275, v276], Value.int IntKind.i64 n220] H339 (Sp.retK (fun v345 H346 =>
  dT 2 v345 (fun v347 v348 =>
  dA 9 v347 (fun v349 v350 v351 v352 v353 v354 v355 v356 v357 =>
  dInt IntKind.i64 v348 (fun n358 =>
  st H346 (Addr.mk r338 0 none) v349 (fun H359 =>
  st H359 (Addr.mk r338 1 none) v350 (fun H360 =>
  st H360 (Addr.mk r338 2 none) v351 (fun H361 =>
  st H361 (Addr.mk r338 3 none) v352 (fun H362 =>
  st H362 (Addr.mk r338 4 none) v353 (fun H363 =>
  st H363 (Addr.mk r338 5 none) v354 (fun H364 =>
  st H364 (Addr.mk r338 6 none) v355 (fun H365 =>
  st H365 (Addr.mk r338 7 none) v356 (fun H366 =>
  st H366 (Addr.mk r338 8 none) v357 (fun H367 =>
  jn (α := VFH 1) (fun v368 H369 =>
  ∀ v370 v371 v372 v373 v374 v375 : Value,
  dBl v368 (fun b376 =>
  sB b376 (R (Ending.returned (Value.bool false)) H369) (wr IntKind.i64 (n220 + 1) (fun n377 =>
  (I218 ([Value.int IntKind.i64 n377]) H369) ∧
  (I219 [Value.int IntKind.i64 n377] H369) < (I219 [Value.int IntKind.i64 n220] H248))))) (fun k378 =>
  sB (n358 != 0) (k378 (Value.bool true) H367) (ld H367 (Addr.mk r260 0 none) (fun v379 =>
  ld H367 (Addr.mk r260 1 none) (fun v380 =>
  ld H367 (Addr.mk r260 2 none) (fun v381 =>
  ld H367 (Addr.mk r260 3 none) (fun v382 =>
  ld H367 (Addr.mk r260 4 none) (fun v383 =>
  ld H367 (Addr.mk r260 5 none) (fun v384 =>
  ld H367 (Addr.mk r260 6 none) (fun v385 =>
  ld H367 (Addr.mk r260 7 none) (fun v386 =>
  ld H367 (Addr.mk r260 8 none) (fun v387 =>
  ld H367 (Addr.mk r338 0 none) (fun v388 =>
  ld H367 (Addr.mk r338 1 none) (fun v389 =>
  ld H367 (Addr.mk r338 2 none) (fun v390 =>
  ld H367 (Addr.mk r338 3 none) (fun v391 =>
  ld H367 (Addr.mk r338 4 none) (fun v392 =>
  ld H367 (Addr.mk r338 5 none) (fun v393 =>
  ld H367 (Addr.mk r338 6 none) (fun v394 =>
  ld H367 (Addr.mk r338 7 none) (fun v395 =>
  ld H367 (Addr.mk r338 8 none) (fun v396 =>
  semW Tryz.prog (eqSem BinOp.neq 26 (Operand.tmp 115) (Operand.tmp 116) (Value.agg #[v379, v380, v381, v382, v383, v384, v385, v386, v387]) (Value.agg #[v388, v389, v390, v391, v392, v393, v394, v395, v396])) (pnR R) H367 (fun v399 H400 =>
  dBl v399 (fun b401 =>
  k378 (Value.bool b401) H400))))))))))))))))))))))))))))))))))) nopR)))))))))))))))))))))))))))))) (R (Ending.returned (Value.bool true)) H248)) (fun k404 =>
  sB (n189 == 0) (ld H206 (Addr.mk r3 0 none) (fun v405 =>
  ld H206 (Addr.mk r3 1 none) (fun v406 =>
  ld H206 (Addr.mk r3 2 none) (fun v407 =>
  ld H206 (Addr.mk r3 3 none) (fun v408 =>
  ld H206 (Addr.mk r3 4 none) (fun v409 =>
  ld H206 (Addr.mk r3 5 none) (fun v410 =>
  ld H206 (Addr.mk r3 6 none) (fun v411 =>
  ld H206 (Addr.mk r3 7 none) (fun v412 =>
  ld H206 (Addr.mk r3 8 none) (fun v413 =>
  nz p37 (fun a414 =>
  ask ((0 : Int) ≤ n29 ∧ n29 < (↑r38 : Int)) (st H206 (Addr.add a414 (Int.toNat n29 * 9)) v405 (fun H415 =>
  st H415 (Addr.add (Addr.add a414 (Int.toNat n29 * 9)) 1) v406 (fun H416 =>
  st H416 (Addr.add (Addr.add a414 (Int.toNat n29 * 9)) 2) v407 (fun H417 =>
  st H417 (Addr.add (Addr.add a414 (Int.toNat n29 * 9)) 3) v408 (fun H418 =>
  st H418 (Addr.add (Addr.add a414 (Int.toNat n29 * 9)) 4) v409 (fun H419 =>
  st H419 (Addr.add (Addr.add a414 (Int.toNat n29 * 9)) 5) v410 (fun H420 =>
  st H420 (Addr.add (Addr.add a414 (Int.toNat n29 * 9)) 6) v411 (fun H421 =>
  st H421 (Addr.add (Addr.add a414 (Int.toNat n29 * 9)) 7) v412 (fun H422 =>
  st H422 (Addr.add (Addr.add a414 (Int.toNat n29 * 9)) 8) v413 (fun H423 =>
  k404 H423))))))))))))))))))))) (k404 H206))))))) nopR)))))))))))))))))))) nopR))))))))))))))))))))))))))))))))))))))))) (pnR R)))))))
theorem F3_eq (x0_0 : Value) (x0_1 : Value) (x0_2 : Value) (x1 : Int) (x2_0 : Value) (x2_1 : Value) (x2_2 : Value) (x2_3 : Value) (x2_4 : Value) (x2_5 : Value) (x2_6 : Value) (x2_7 : Value) (x2_8 : Value) (R : Ending → Heap → Prop) (H : Heap) : F3 x0_0 x0_1 x0_2 x1 x2_0 x2_1 x2_2 x2_3 x2_4 x2_5 x2_6 x2_7 x2_8 R H = vc Tryz.prog (codeOf Tryz.f3) (.node none .leaf (.node none .leaf (.node none .leaf (.node none .leaf (.node none .leaf (.node none (.node none .leaf (.node none (.node (some ⟨[(9, 31), (44, 3)], [6, 10, 11, 12, 45, 46, 47, 48, 49, 50, 51, 52, 53, 54, 55, 56, 57, 58, 59, 60, 61, 62, 63]⟩) .leaf .leaf) .leaf)) (.node none .leaf (.node none .leaf (.node none .leaf (.node (some ⟨[], [89, 90, 91, 92, 93, 94]⟩) .leaf (.node none (.node none .leaf (.node none (.node (some ⟨[(97, 3)], [6, 17, 18, 19, 20, 98, 99, 100, 101, 102, 103, 104, 105, 106, 107, 108, 109, 110, 111, 112, 113, 114, 115, 116, 117, 118, 119]⟩) (.node none .leaf (.node none .leaf (.node none (.node none (.node none .leaf (.node none .leaf (.node (some ⟨[(118, 4)], [112, 113, 114, 115, 116, 117]⟩) .leaf .leaf))) .leaf) .leaf))) .leaf) .leaf)) .leaf))))))))))) (postV Tryz.prog Tryz.f3 R) ⟨#[Value.agg #[x0_0, x0_1, x0_2], Value.int IntKind.i64 x1, Value.agg #[x2_0, x2_1, x2_2, x2_3, x2_4, x2_5, x2_6, x2_7, x2_8]] ++ Array.replicate (Tryz.f3.ntmps - 3) undef, []⟩ H := by kernel_rfl
theorem F3_calls {R : Ending → Heap → Prop} {H : Heap} (x0_0 : Value) (x0_1 : Value) (x0_2 : Value) (x1 : Int) (x2_0 : Value) (x2_1 : Value) (x2_2 : Value) (x2_3 : Value) (x2_4 : Value) (x2_5 : Value) (x2_6 : Value) (x2_7 : Value) (x2_8 : Value) (h : F3 x0_0 x0_1 x0_2 x1 x2_0 x2_1 x2_2 x2_3 x2_4 x2_5 x2_6 x2_7 x2_8 R H) : HCalls Tryz.prog 3 #[Value.agg #[x0_0, x0_1, x0_2], Value.int IntKind.i64 x1, Value.agg #[x2_0, x2_1, x2_2, x2_3, x2_4, x2_5, x2_6, x2_7, x2_8]] H R :=
  calls_by (F := F3 x0_0 x0_1 x0_2 x1 x2_0 x2_1 x2_2 x2_3 x2_4 x2_5 x2_6 x2_7 x2_8 R H) (.node none .leaf (.node none .leaf (.node none .leaf (.node none .leaf (.node none .leaf (.node none (.node none .leaf (.node none (.node (some ⟨[(9, 31), (44, 3)], [6, 10, 11, 12, 45, 46, 47, 48, 49, 50, 51, 52, 53, 54, 55, 56, 57, 58, 59, 60, 61, 62, 63]⟩) .leaf .leaf) .leaf)) (.node none .leaf (.node none .leaf (.node none .leaf (.node (some ⟨[], [89, 90, 91, 92, 93, 94]⟩) .leaf (.node none (.node none .leaf (.node none (.node (some ⟨[(97, 3)], [6, 17, 18, 19, 20, 98, 99, 100, 101, 102, 103, 104, 105, 106, 107, 108, 109, 110, 111, 112, 113, 114, 115, 116, 117, 118, 119]⟩) (.node none .leaf (.node none .leaf (.node none (.node none (.node none .leaf (.node none .leaf (.node (some ⟨[(118, 4)], [112, 113, 114, 115, 116, 117]⟩) .leaf .leaf))) .leaf) .leaf))) .leaf) .leaf)) .leaf))))))))))) Tryz.func3 rfl (F3_eq x0_0 x0_1 x0_2 x1 x2_0 x2_1 x2_2 x2_3 x2_4 x2_5 x2_6 x2_7 x2_8 R H) h
end Go.Proofs.YtklppdodadkcnaaGreat.E
/- The functions' forms in the engine's words, printed by my own program. -/
namespace Go.Proofs.YtklppdodadkcnaaGreat.E
open Go Go.Proofs
set_option linter.unusedVariables false
set_option maxRecDepth 100000
/-- bollard/bollardplain.Fresh -/
def F7 (x0_0 : Value) (x0_1 : Value) (x0_2 : Value) (R : Ending → Heap → Prop) (H : Heap) : Prop :=
  al H (Obj.cells #[x0_0, x0_1, x0_2] 23) (fun r1 H2 =>
  al H2 (Obj.cells #[Value.int IntKind.i64 0, Value.int IntKind.i64 0, Value.int IntKind.i64 0] 23) (fun r3 H4 =>
  ld H4 (Addr.mk r1 0 none) (fun v5 =>
  ld H4 (Addr.mk r1 1 none) (fun v6 =>
  ld H4 (Addr.mk r1 2 none) (fun v7 =>
  HCalls Tryz.prog 20 #[Value.agg #[v5, v6, v7]] H4 (Sp.retK (fun v8 H9 =>
  dT 2 v8 (fun v10 v11 =>
  dSl v10 (fun p12 r13 r14 =>
  dInt IntKind.i64 v11 (fun n15 =>
  jn (α := VFH 1) (fun v16 H17 =>
  ∀ v18 v19 v20 v21 v22 v23 v24 v25 : Value,
  dSl v16 (fun p26 r27 r28 =>
  HCalls Tryz.prog 21 #[Value.slice p26 r27 r28, Value.int IntKind.i64 64] H17 (Sp.retK (fun v29 H30 =>
  dT 2 v29 (fun v31 v32 =>
  dPtr v31 (fun p33 =>
  dBl v32 (fun b34 =>
  ld H30 (Addr.mk r1 0 none) (fun v35 =>
  ld H30 (Addr.mk r1 1 none) (fun v36 =>
  ld H30 (Addr.mk r1 2 none) (fun v37 =>
  sB b34 (((ld H30 (Addr.mk r1 0 none) (fun v38 =>
  ld H30 (Addr.mk r1 1 none) (fun v39 =>
  ld H30 (Addr.mk r1 2 none) (fun v40 =>
  (Value.agg #[v38, v39, v40]) = (Value.agg #[v35, v36, v37]))))) ∧
  st H30 (Addr.mk r3 0 none) v35 (fun H41 =>
  st H41 (Addr.mk r3 1 none) v36 (fun H42 =>
  st H42 (Addr.mk r3 2 none) v37 (fun H43 =>
  ld H43 (Addr.mk r3 0 none) (fun v44 =>
  ld H43 (Addr.mk r3 1 none) (fun v45 =>
  ld H43 (Addr.mk r3 2 none) (fun v46 =>
  R (Ending.returned (Value.tuple #[Value.pointer p33, Value.agg #[v44, v45, v46], Value.bool !Option.isNone p33])) H43))))))) ∧
  st H30 (Addr.mk r3 0 none) v35 (fun H47 =>
  st H47 (Addr.mk r3 1 none) v36 (fun H48 =>
  st H48 (Addr.mk r3 2 none) v37 (fun H49 =>
  ld H49 (Addr.mk r3 0 none) (fun v50 =>
  ld H49 (Addr.mk r3 1 none) (fun v51 =>
  ld H49 (Addr.mk r3 2 none) (fun v52 =>
  R (Ending.returned (Value.tuple #[Value.pointer p33, Value.agg #[v50, v51, v52], Value.bool !Option.isNone p33])) H49))))))) (st H30 (Addr.mk r3 0 none) v35 (fun H53 =>
  st H53 (Addr.mk r3 1 none) v36 (fun H54 =>
  st H54 (Addr.mk r3 2 none) v37 (fun H55 =>
  ld H55 (Addr.mk r3 0 none) (fun v56 =>
  ld H55 (Addr.mk r3 1 none) (fun v57 =>
  ld H55 (Addr.mk r3 2 none) (fun v58 =>
  R (Ending.returned (Value.tuple #[Value.pointer p33, Value.agg #[v56, v57, v58], Value.bool false])) H55)))))))))))))) (pnR R)))) (fun k61 =>
  sB (n15 != 0) (st H9 (Addr.mk r1 0 none) (Value.int IntKind.i64 1) (fun H62 =>
  st H62 (Addr.mk r1 1 none) (Value.int IntKind.i64 8) (fun H63 =>
  st H63 (Addr.mk r1 2 none) (Value.int IntKind.i64 4) (fun H64 =>
  ld H64 (Addr.mk r1 0 none) (fun v65 =>
  ld H64 (Addr.mk r1 1 none) (fun v66 =>
  ld H64 (Addr.mk r1 2 none) (fun v67 =>
  HCalls Tryz.prog 20 #[Value.agg #[v65, v66, v67]] H64 (Sp.retK (fun v68 H69 =>
  dT 2 v68 (fun v70 v71 =>
  dSl v70 (fun p72 r73 r74 =>
  dInt IntKind.i64 v71 (fun n75 =>
  k61 (Value.slice p72 r73 r74) H69)))) (pnR R))))))))) (k61 (Value.slice p12 r13 r14) H9)))))) (pnR R)))))))
theorem F7_eq (x0_0 : Value) (x0_1 : Value) (x0_2 : Value) (R : Ending → Heap → Prop) (H : Heap) : F7 x0_0 x0_1 x0_2 R H = vc Tryz.prog (codeOf Tryz.f7) (.node none .leaf (.node none .leaf (.node (some ⟨[(5, 49)], [14, 15, 16, 17, 18, 19, 20, 21]⟩) .leaf .leaf))) (postV Tryz.prog Tryz.f7 R) ⟨#[Value.agg #[x0_0, x0_1, x0_2]] ++ Array.replicate (Tryz.f7.ntmps - 1) undef, []⟩ H := by kernel_rfl
theorem F7_calls {R : Ending → Heap → Prop} {H : Heap} (x0_0 : Value) (x0_1 : Value) (x0_2 : Value) (h : F7 x0_0 x0_1 x0_2 R H) : HCalls Tryz.prog 7 #[Value.agg #[x0_0, x0_1, x0_2]] H R :=
  calls_by (F := F7 x0_0 x0_1 x0_2 R H) (.node none .leaf (.node none .leaf (.node (some ⟨[(5, 49)], [14, 15, 16, 17, 18, 19, 20, 21]⟩) .leaf .leaf))) Tryz.func7 rfl (F7_eq x0_0 x0_1 x0_2 R H) h
/-- bollard/inode.Get -/
def F8 (x0 : Option Addr) (x1_0 : Value) (x1_1 : Value) (x1_2 : Value) (x2 : Int) (R : Ending → Heap → Prop) (H : Heap) : Prop :=
  al H (Obj.cells #[x1_0, x1_1, x1_2] 23) (fun r1 H2 =>
  al H2 (Obj.cells #[Value.int IntKind.i64 0, Value.int IntKind.i64 0, Value.int IntKind.i64 0, Value.int IntKind.i64 0, Value.int IntKind.i64 0, Value.int IntKind.i64 0, Value.int IntKind.i64 0, Value.int IntKind.i64 0, Value.int IntKind.i64 0] 26) (fun r3 H4 =>
  ld H4 (Addr.mk r1 0 none) (fun v5 =>
  ld H4 (Addr.mk r1 1 none) (fun v6 =>
  ld H4 (Addr.mk r1 2 none) (fun v7 =>
  HCalls Tryz.prog 22 #[Value.pointer x0, Value.agg #[v5, v6, v7], Value.int IntKind.i64 x2] H4 (Sp.retK (fun v8 H9 =>
  dT 3 v8 (fun v10 v11 v12 =>
  dInt IntKind.i64 v10 (fun n13 =>
  dInt IntKind.i64 v11 (fun n14 =>
  dInt IntKind.i64 v12 (fun n15 =>
  sB (n15 != 0) (st H9 (Addr.mk r3 0 none) (Value.int IntKind.i64 0) (fun H16 =>
  st H16 (Addr.mk r3 1 none) (Value.int IntKind.i64 0) (fun H17 =>
  st H17 (Addr.mk r3 2 none) (Value.int IntKind.i64 0) (fun H18 =>
  st H18 (Addr.mk r3 3 none) (Value.int IntKind.i64 0) (fun H19 =>
  st H19 (Addr.mk r3 4 none) (Value.int IntKind.i64 0) (fun H20 =>
  st H20 (Addr.mk r3 5 none) (Value.int IntKind.i64 0) (fun H21 =>
  st H21 (Addr.mk r3 6 none) (Value.int IntKind.i64 0) (fun H22 =>
  st H22 (Addr.mk r3 7 none) (Value.int IntKind.i64 0) (fun H23 =>
  st H23 (Addr.mk r3 8 none) (Value.int IntKind.i64 0) (fun H24 =>
  ld H24 (Addr.mk r3 0 none) (fun v25 =>
  ld H24 (Addr.mk r3 1 none) (fun v26 =>
  ld H24 (Addr.mk r3 2 none) (fun v27 =>
  ld H24 (Addr.mk r3 3 none) (fun v28 =>
  ld H24 (Addr.mk r3 4 none) (fun v29 =>
  ld H24 (Addr.mk r3 5 none) (fun v30 =>
  ld H24 (Addr.mk r3 6 none) (fun v31 =>
  ld H24 (Addr.mk r3 7 none) (fun v32 =>
  ld H24 (Addr.mk r3 8 none) (fun v33 =>
  R (Ending.returned (Value.tuple #[Value.agg #[v25, v26, v27, v28, v29, v30, v31, v32, v33], Value.int IntKind.i64 n15])) H24))))))))))))))))))) (HCalls Tryz.prog 23 #[Value.pointer x0, Value.int IntKind.i64 n13] H9 (Sp.retK (fun v34 H35 =>
  dT 2 v34 (fun v36 v37 =>
  dSl v36 (fun p38 r39 r40 =>
  dInt IntKind.i64 v37 (fun n41 =>
  sB (n41 != 0) (st H35 (Addr.mk r3 0 none) (Value.int IntKind.i64 0) (fun H42 =>
  st H42 (Addr.mk r3 1 none) (Value.int IntKind.i64 0) (fun H43 =>
  st H43 (Addr.mk r3 2 none) (Value.int IntKind.i64 0) (fun H44 =>
  st H44 (Addr.mk r3 3 none) (Value.int IntKind.i64 0) (fun H45 =>
  st H45 (Addr.mk r3 4 none) (Value.int IntKind.i64 0) (fun H46 =>
  st H46 (Addr.mk r3 5 none) (Value.int IntKind.i64 0) (fun H47 =>
  st H47 (Addr.mk r3 6 none) (Value.int IntKind.i64 0) (fun H48 =>
  st H48 (Addr.mk r3 7 none) (Value.int IntKind.i64 0) (fun H49 =>
  st H49 (Addr.mk r3 8 none) (Value.int IntKind.i64 0) (fun H50 =>
  ld H50 (Addr.mk r3 0 none) (fun v51 =>
  ld H50 (Addr.mk r3 1 none) (fun v52 =>
  ld H50 (Addr.mk r3 2 none) (fun v53 =>
  ld H50 (Addr.mk r3 3 none) (fun v54 =>
  ld H50 (Addr.mk r3 4 none) (fun v55 =>
  ld H50 (Addr.mk r3 5 none) (fun v56 =>
  ld H50 (Addr.mk r3 6 none) (fun v57 =>
  ld H50 (Addr.mk r3 7 none) (fun v58 =>
  ld H50 (Addr.mk r3 8 none) (fun v59 =>
  R (Ending.returned (Value.tuple #[Value.agg #[v51, v52, v53, v54, v55, v56, v57, v58, v59], Value.int IntKind.i64 n41])) H50))))))))))))))))))) (wr IntKind.i64 (n14 + 32) (fun n60 =>
  ask ((0 : Int) ≤ n14 ∧ n14 ≤ n60 ∧ n60 ≤ (↑r40 : Int) ∧ (↑r40 : Int) ≤ (↑r40 : Int)) (HCalls Tryz.prog 24 #[Value.slice (slO p38 1 n14 (↑r40 : Int)) (Int.toNat n60 - Int.toNat n14) (Int.toNat (↑r40 : Int) - Int.toNat n14)] H35 (Sp.retK (fun v61 H62 =>
  dT 2 v61 (fun v63 v64 =>
  dA 9 v63 (fun v65 v66 v67 v68 v69 v70 v71 v72 v73 =>
  dInt IntKind.i64 v64 (fun n74 =>
  st H62 (Addr.mk r3 0 none) v65 (fun H75 =>
  st H75 (Addr.mk r3 1 none) v66 (fun H76 =>
  st H76 (Addr.mk r3 2 none) v67 (fun H77 =>
  st H77 (Addr.mk r3 3 none) v68 (fun H78 =>
  st H78 (Addr.mk r3 4 none) v69 (fun H79 =>
  st H79 (Addr.mk r3 5 none) v70 (fun H80 =>
  st H80 (Addr.mk r3 6 none) v71 (fun H81 =>
  st H81 (Addr.mk r3 7 none) v72 (fun H82 =>
  st H82 (Addr.mk r3 8 none) v73 (fun H83 =>
  ld H83 (Addr.mk r3 0 none) (fun v84 =>
  ld H83 (Addr.mk r3 1 none) (fun v85 =>
  ld H83 (Addr.mk r3 2 none) (fun v86 =>
  ld H83 (Addr.mk r3 3 none) (fun v87 =>
  ld H83 (Addr.mk r3 4 none) (fun v88 =>
  ld H83 (Addr.mk r3 5 none) (fun v89 =>
  ld H83 (Addr.mk r3 6 none) (fun v90 =>
  ld H83 (Addr.mk r3 7 none) (fun v91 =>
  ld H83 (Addr.mk r3 8 none) (fun v92 =>
  R (Ending.returned (Value.tuple #[Value.agg #[v84, v85, v86, v87, v88, v89, v90, v91, v92], Value.int IntKind.i64 n74])) H83)))))))))))))))))))))) (pnR R))))))))) (pnR R)))))))) (pnR R)))))))
theorem F8_eq (x0 : Option Addr) (x1_0 : Value) (x1_1 : Value) (x1_2 : Value) (x2 : Int) (R : Ending → Heap → Prop) (H : Heap) : F8 x0 x1_0 x1_1 x1_2 x2 R H = vc Tryz.prog (codeOf Tryz.f8) .leaf (postV Tryz.prog Tryz.f8 R) ⟨#[Value.pointer x0, Value.agg #[x1_0, x1_1, x1_2], Value.int IntKind.i64 x2] ++ Array.replicate (Tryz.f8.ntmps - 3) undef, []⟩ H := by kernel_rfl
theorem F8_calls {R : Ending → Heap → Prop} {H : Heap} (x0 : Option Addr) (x1_0 : Value) (x1_1 : Value) (x1_2 : Value) (x2 : Int) (h : F8 x0 x1_0 x1_1 x1_2 x2 R H) : HCalls Tryz.prog 8 #[Value.pointer x0, Value.agg #[x1_0, x1_1, x1_2], Value.int IntKind.i64 x2] H R :=
  calls_by (F := F8 x0 x1_0 x1_1 x1_2 x2 R H) .leaf Tryz.func8 rfl (F8_eq x0 x1_0 x1_1 x1_2 x2 R H) h
/-- bollard/inode.Put -/
def F9 (x0 : Option Addr) (x1_0 : Value) (x1_1 : Value) (x1_2 : Value) (x2 : Int) (x3_0 : Value) (x3_1 : Value) (x3_2 : Value) (x3_3 : Value) (x3_4 : Value) (x3_5 : Value) (x3_6 : Value) (x3_7 : Value) (x3_8 : Value) (x4a : Option Addr) (x4n : Nat) (x4c : Nat) (R : Ending → Heap → Prop) (H : Heap) : Prop :=
  al H (Obj.cells #[x1_0, x1_1, x1_2] 23) (fun r1 H2 =>
  al H2 (Obj.cells #[x3_0, x3_1, x3_2, x3_3, x3_4, x3_5, x3_6, x3_7, x3_8] 26) (fun r3 H4 =>
  ld H4 (Addr.mk r1 0 none) (fun v5 =>
  ld H4 (Addr.mk r1 1 none) (fun v6 =>
  ld H4 (Addr.mk r1 2 none) (fun v7 =>
  HCalls Tryz.prog 22 #[Value.pointer x0, Value.agg #[v5, v6, v7], Value.int IntKind.i64 x2] H4 (Sp.retK (fun v8 H9 =>
  dT 3 v8 (fun v10 v11 v12 =>
  dInt IntKind.i64 v10 (fun n13 =>
  dInt IntKind.i64 v11 (fun n14 =>
  dInt IntKind.i64 v12 (fun n15 =>
  sB (n15 != 0) (R (Ending.returned (Value.tuple #[Value.int IntKind.i64 0, Value.int IntKind.i64 n15])) H9) (ld H9 (Addr.mk r3 0 none) (fun v16 =>
  ld H9 (Addr.mk r3 1 none) (fun v17 =>
  ld H9 (Addr.mk r3 2 none) (fun v18 =>
  ld H9 (Addr.mk r3 3 none) (fun v19 =>
  ld H9 (Addr.mk r3 4 none) (fun v20 =>
  ld H9 (Addr.mk r3 5 none) (fun v21 =>
  ld H9 (Addr.mk r3 6 none) (fun v22 =>
  ld H9 (Addr.mk r3 7 none) (fun v23 =>
  ld H9 (Addr.mk r3 8 none) (fun v24 =>
  HCalls Tryz.prog 25 #[Value.agg #[v16, v17, v18, v19, v20, v21, v22, v23, v24]] H9 (Sp.retK (fun v25 H26 =>
  dT 2 v25 (fun v27 v28 =>
  dSl v27 (fun p29 r30 r31 =>
  dInt IntKind.i64 v28 (fun n32 =>
  sB (n32 != 0) (R (Ending.returned (Value.tuple #[Value.int IntKind.i64 0, Value.int IntKind.i64 n32])) H26) (HCalls Tryz.prog 26 #[Value.pointer x0, Value.int IntKind.i64 n13, Value.int IntKind.i64 n14, Value.slice p29 r30 r31, Value.slice x4a x4n x4c] H26 (Sp.retK (fun v33 H34 =>
  dT 2 v33 (fun v35 v36 =>
  dInt IntKind.i64 v35 (fun n37 =>
  dInt IntKind.i64 v36 (fun n38 =>
  R (Ending.returned (Value.tuple #[Value.int IntKind.i64 n37, Value.int IntKind.i64 n38])) H34)))) (pnR R))))))) (pnR R))))))))))))))))) (pnR R)))))))
theorem F9_eq (x0 : Option Addr) (x1_0 : Value) (x1_1 : Value) (x1_2 : Value) (x2 : Int) (x3_0 : Value) (x3_1 : Value) (x3_2 : Value) (x3_3 : Value) (x3_4 : Value) (x3_5 : Value) (x3_6 : Value) (x3_7 : Value) (x3_8 : Value) (x4a : Option Addr) (x4n : Nat) (x4c : Nat) (R : Ending → Heap → Prop) (H : Heap) : F9 x0 x1_0 x1_1 x1_2 x2 x3_0 x3_1 x3_2 x3_3 x3_4 x3_5 x3_6 x3_7 x3_8 x4a x4n x4c R H = vc Tryz.prog (codeOf Tryz.f9) .leaf (postV Tryz.prog Tryz.f9 R) ⟨#[Value.pointer x0, Value.agg #[x1_0, x1_1, x1_2], Value.int IntKind.i64 x2, Value.agg #[x3_0, x3_1, x3_2, x3_3, x3_4, x3_5, x3_6, x3_7, x3_8], Value.slice x4a x4n x4c] ++ Array.replicate (Tryz.f9.ntmps - 5) undef, []⟩ H := by kernel_rfl
theorem F9_calls {R : Ending → Heap → Prop} {H : Heap} (x0 : Option Addr) (x1_0 : Value) (x1_1 : Value) (x1_2 : Value) (x2 : Int) (x3_0 : Value) (x3_1 : Value) (x3_2 : Value) (x3_3 : Value) (x3_4 : Value) (x3_5 : Value) (x3_6 : Value) (x3_7 : Value) (x3_8 : Value) (x4a : Option Addr) (x4n : Nat) (x4c : Nat) (h : F9 x0 x1_0 x1_1 x1_2 x2 x3_0 x3_1 x3_2 x3_3 x3_4 x3_5 x3_6 x3_7 x3_8 x4a x4n x4c R H) : HCalls Tryz.prog 9 #[Value.pointer x0, Value.agg #[x1_0, x1_1, x1_2], Value.int IntKind.i64 x2, Value.agg #[x3_0, x3_1, x3_2, x3_3, x3_4, x3_5, x3_6, x3_7, x3_8], Value.slice x4a x4n x4c] H R :=
  calls_by (F := F9 x0 x1_0 x1_1 x1_2 x2 x3_0 x3_1 x3_2 x3_3 x3_4 x3_5 x3_6 x3_7 x3_8 x4a x4n x4c R H) .leaf Tryz.func9 rfl (F9_eq x0 x1_0 x1_1 x1_2 x2 x3_0 x3_1 x3_2 x3_3 x3_4 x3_5 x3_6 x3_7 x3_8 x4a x4n x4c R H) h
/-- bollard/bollardref13.Put -/
def F10 (x0 : Option Addr) (x1_0 : Value) (x1_1 : Value) (x1_2 : Value) (x2 : Int) (x3_0 : Value) (x3_1 : Value) (x3_2 : Value) (x3_3 : Value) (x3_4 : Value) (x3_5 : Value) (x3_6 : Value) (x3_7 : Value) (x3_8 : Value) (x4a : Option Addr) (x4n : Nat) (x4c : Nat) (R : Ending → Heap → Prop) (H : Heap) : Prop :=
  al H (Obj.cells #[x1_0, x1_1, x1_2] 23) (fun r1 H2 =>
  al H2 (Obj.cells #[x3_0, x3_1, x3_2, x3_3, x3_4, x3_5, x3_6, x3_7, x3_8] 26) (fun r3 H4 =>
  ld H4 (Addr.mk r1 0 none) (fun v5 =>
  ld H4 (Addr.mk r1 1 none) (fun v6 =>
  ld H4 (Addr.mk r1 2 none) (fun v7 =>
  HCalls Tryz.prog 27 #[Value.pointer x0, Value.agg #[v5, v6, v7]] H4 (Sp.retK (fun v8 H9 =>
  dInt IntKind.i64 v8 (fun n10 =>
  sB (n10 != 0) (R (Ending.returned (Value.tuple #[Value.int IntKind.i64 0, Value.int IntKind.i64 n10])) H9) (ld H9 (Addr.mk r1 0 none) (fun v11 =>
  ld H9 (Addr.mk r1 1 none) (fun v12 =>
  ld H9 (Addr.mk r1 2 none) (fun v13 =>
  HCalls Tryz.prog 28 #[Value.agg #[v11, v12, v13], Value.int IntKind.i64 x2] H9 (Sp.retK (fun v14 H15 =>
  dT 3 v14 (fun v16 v17 v18 =>
  dInt IntKind.i64 v16 (fun n19 =>
  dInt IntKind.i64 v17 (fun n20 =>
  dBl v18 (fun b21 =>
  sB (!b21) (R (Ending.returned (Value.tuple #[Value.int IntKind.i64 0, Value.int IntKind.i64 130])) H15) (ld H15 (Addr.mk r3 0 none) (fun v22 =>
  ld H15 (Addr.mk r3 1 none) (fun v23 =>
  ld H15 (Addr.mk r3 2 none) (fun v24 =>
  ld H15 (Addr.mk r3 3 none) (fun v25 =>
  ld H15 (Addr.mk r3 4 none) (fun v26 =>
  ld H15 (Addr.mk r3 5 none) (fun v27 =>
  ld H15 (Addr.mk r3 6 none) (fun v28 =>
  ld H15 (Addr.mk r3 7 none) (fun v29 =>
  ld H15 (Addr.mk r3 8 none) (fun v30 =>
  HCalls Tryz.prog 29 #[Value.agg #[v22, v23, v24, v25, v26, v27, v28, v29, v30]] H15 (Sp.retK (fun v31 H32 =>
  dT 2 v31 (fun v33 v34 =>
  dSl v33 (fun p35 r36 r37 =>
  dInt IntKind.i64 v34 (fun n38 =>
  sB (n38 != 0) (R (Ending.returned (Value.tuple #[Value.int IntKind.i64 0, Value.int IntKind.i64 n38])) H32) (HCalls Tryz.prog 30 #[Value.pointer x0, Value.int IntKind.i64 n19, Value.int IntKind.i64 n20, Value.slice p35 r36 r37, Value.slice x4a x4n x4c] H32 (Sp.retK (fun v39 H40 =>
  dT 2 v39 (fun v41 v42 =>
  dInt IntKind.i64 v41 (fun n43 =>
  dInt IntKind.i64 v42 (fun n44 =>
  R (Ending.returned (Value.tuple #[Value.int IntKind.i64 n43, Value.int IntKind.i64 n44])) H40)))) (pnR R))))))) (pnR R))))))))))))))))) (pnR R)))))))) (pnR R)))))))
theorem F10_eq (x0 : Option Addr) (x1_0 : Value) (x1_1 : Value) (x1_2 : Value) (x2 : Int) (x3_0 : Value) (x3_1 : Value) (x3_2 : Value) (x3_3 : Value) (x3_4 : Value) (x3_5 : Value) (x3_6 : Value) (x3_7 : Value) (x3_8 : Value) (x4a : Option Addr) (x4n : Nat) (x4c : Nat) (R : Ending → Heap → Prop) (H : Heap) : F10 x0 x1_0 x1_1 x1_2 x2 x3_0 x3_1 x3_2 x3_3 x3_4 x3_5 x3_6 x3_7 x3_8 x4a x4n x4c R H = vc Tryz.prog (codeOf Tryz.f10) .leaf (postV Tryz.prog Tryz.f10 R) ⟨#[Value.pointer x0, Value.agg #[x1_0, x1_1, x1_2], Value.int IntKind.i64 x2, Value.agg #[x3_0, x3_1, x3_2, x3_3, x3_4, x3_5, x3_6, x3_7, x3_8], Value.slice x4a x4n x4c] ++ Array.replicate (Tryz.f10.ntmps - 5) undef, []⟩ H := by kernel_rfl
theorem F10_calls {R : Ending → Heap → Prop} {H : Heap} (x0 : Option Addr) (x1_0 : Value) (x1_1 : Value) (x1_2 : Value) (x2 : Int) (x3_0 : Value) (x3_1 : Value) (x3_2 : Value) (x3_3 : Value) (x3_4 : Value) (x3_5 : Value) (x3_6 : Value) (x3_7 : Value) (x3_8 : Value) (x4a : Option Addr) (x4n : Nat) (x4c : Nat) (h : F10 x0 x1_0 x1_1 x1_2 x2 x3_0 x3_1 x3_2 x3_3 x3_4 x3_5 x3_6 x3_7 x3_8 x4a x4n x4c R H) : HCalls Tryz.prog 10 #[Value.pointer x0, Value.agg #[x1_0, x1_1, x1_2], Value.int IntKind.i64 x2, Value.agg #[x3_0, x3_1, x3_2, x3_3, x3_4, x3_5, x3_6, x3_7, x3_8], Value.slice x4a x4n x4c] H R :=
  calls_by (F := F10 x0 x1_0 x1_1 x1_2 x2 x3_0 x3_1 x3_2 x3_3 x3_4 x3_5 x3_6 x3_7 x3_8 x4a x4n x4c R H) .leaf Tryz.func10 rfl (F10_eq x0 x1_0 x1_1 x1_2 x2 x3_0 x3_1 x3_2 x3_3 x3_4 x3_5 x3_6 x3_7 x3_8 x4a x4n x4c R H) h
end Go.Proofs.YtklppdodadkcnaaGreat.E
/- The functions' forms in the engine's words, printed by my own program. -/
namespace Go.Proofs.YtklppdodadkcnaaGreat.E
open Go Go.Proofs
set_option linter.unusedVariables false
set_option maxRecDepth 100000
/-- bollard/bollardref17.Make -/
def F20 (x0_0 : Value) (x0_1 : Value) (x0_2 : Value) (R : Ending → Heap → Prop) (H : Heap) : Prop :=
  al H (Obj.cells #[x0_0, x0_1, x0_2] 23) (fun r1 H2 =>
  ld H2 (Addr.mk r1 0 none) (fun v3 =>
  ld H2 (Addr.mk r1 1 none) (fun v4 =>
  ld H2 (Addr.mk r1 2 none) (fun v5 =>
  HCalls Tryz.prog 52 #[Value.agg #[v3, v4, v5]] H2 (Sp.retK (fun v6 H7 =>
  dInt IntKind.i64 v6 (fun n8 =>
  sB (n8 != 0) (R (Ending.returned (Value.tuple #[Value.slice none 0 0, Value.int IntKind.i64 170])) H7) (ld H7 (Addr.mk r1 0 none) (fun v9 =>
  dInt IntKind.i64 v9 (fun n10 =>
  ∃ I11 : List Value → Heap → Prop,
  ∃ I12 : List Value → Heap → Nat,
  (I11 ([Value.slice none 0 0, Value.int IntKind.i64 0]) H7) ∧
  ∀ p13 : Option Addr,
  ∀ r14 : Nat,
  ∀ r15 : Nat,
  ∀ n16 : Int,
  ∀ v17 v18 v19 v20 v21 v22 v23 v24 v25 : Value,
  ∀ H26 : Heap,
  (I11 ([Value.slice p13 r14 r15, Value.int IntKind.i64 n16]) H26) →
  sB (decide (n16 < n10)) (ld H26 (Addr.mk r1 0 none) (fun v28 =>
  ld H26 (Addr.mk r1 1 none) (fun v29 =>
  ld H26 (Addr.mk r1 2 none) (fun v30 =>
  HCalls Tryz.prog 53 #[Value.agg #[v28, v29, v30], Value.int IntKind.i64 n16] H26 (Sp.retK (fun v31 H32 =>
  dSl v31 (fun p33 r34 r35 =>
  semW Tryz.prog (Builtin.append_ #[49, 49] 49 #[Value.slice p13 r14 r15, Value.slice p33 r34 r35]) (pnR R) H32 (fun v38 H39 =>
  dSl v38 (fun p40 r41 r42 =>
  wr IntKind.i64 (n16 + 1) (fun n43 =>
  (I11 ([Value.slice p40 r41 r42, Value.int IntKind.i64 n43]) H39) ∧
  (I12 [Value.slice p40 r41 r42, Value.int IntKind.i64 n43] H39) < (I12 [Value.slice p13 r14 r15, Value.int IntKind.i64 n16] H26)))))) (pnR R)))))) (ld H26 (Addr.mk r1 2 none) (fun v46 =>
  dInt IntKind.i64 v46 (fun n47 =>
  ask ((4 : Int) ≠ (0 : Int)) (wr IntKind.i64 (Int.tdiv n47 4) (fun n48 =>
  wr IntKind.i64 (2 + n48) (fun n49 =>
  HCalls Tryz.prog 29 #[Value.agg #[Value.int IntKind.i64 2, Value.int IntKind.i64 2, Value.int IntKind.i64 128, Value.int IntKind.i64 n49, Value.int IntKind.i64 0, Value.int IntKind.i64 0, Value.int IntKind.i64 0, Value.int IntKind.i64 0, Value.int IntKind.i64 0]] H26 (Sp.retK (fun v50 H51 =>
  dT 2 v50 (fun v52 v53 =>
  dSl v52 (fun p54 r55 r56 =>
  dInt IntKind.i64 v53 (fun n57 =>
  nz p13 (fun a58 =>
  ask ((0 : Int) ≤ (2 : Int) ∧ (2 : Int) < (↑r14 : Int)) (ld H51 (Addr.add a58 (Int.toNat 2 * 1)) (fun v59 =>
  dSl v59 (fun p60 r61 r62 =>
  ask ((0 : Int) ≤ (64 : Int) ∧ (64 : Int) ≤ (↑r61 : Int) ∧ (↑r61 : Int) ≤ (↑r62 : Int) ∧ (↑r62 : Int) ≤ (↑r62 : Int)) (semW Tryz.prog (Builtin.copy_ #[85, 85] 3 #[Value.slice (slO p60 1 64 (↑r62 : Int)) (Int.toNat (↑r61 : Int) - Int.toNat 64) (Int.toNat (↑r62 : Int) - Int.toNat 64), Value.slice p54 r55 r56]) (pnR R) H51 (fun v65 H66 =>
  dInt IntKind.i64 v65 (fun n67 =>
  al H66 (Obj.cells #[Value.int IntKind.i64 2, Value.string (ByteArray.mk #[UInt8.ofBitVec 46#8]), Value.int IntKind.i64 2, Value.string (ByteArray.mk #[UInt8.ofBitVec 46#8, UInt8.ofBitVec 46#8])] 129) (fun r68 H69 =>
  HCalls Tryz.prog 54 #[Value.slice (some (Addr.mk r68 0 none)) 2 2] H69 (Sp.retK (fun v70 H71 =>
  dT 2 v70 (fun v72 v73 =>
  dSl v72 (fun p74 r75 r76 =>
  dInt IntKind.i64 v73 (fun n77 =>
  nz p13 (fun a78 =>
  ask ((0 : Int) ≤ n49 ∧ n49 < (↑r14 : Int)) (st H71 (Addr.add a78 (Int.toNat n49 * 1)) (Value.slice p74 r75 r76) (fun H79 =>
  R (Ending.returned (Value.tuple #[Value.slice p13 r14 r15, Value.int IntKind.i64 0])) H79))))))) (pnR R)))))))))))))) (pnR R))))))))))))) (pnR R))))))
theorem F20_eq (x0_0 : Value) (x0_1 : Value) (x0_2 : Value) (R : Ending → Heap → Prop) (H : Heap) : F20 x0_0 x0_1 x0_2 R H = vc Tryz.prog (codeOf Tryz.f20) (.node none .leaf (.node none .leaf (.node none .leaf (.node none (.node none .leaf (.node none (.node (some ⟨[(4, 49), (16, 3)], [5, 17, 18, 19, 20, 21, 22, 23, 24]⟩) .leaf .leaf) .leaf)) .leaf)))) (postV Tryz.prog Tryz.f20 R) ⟨#[Value.agg #[x0_0, x0_1, x0_2]] ++ Array.replicate (Tryz.f20.ntmps - 1) undef, []⟩ H := by kernel_rfl
theorem F20_calls {R : Ending → Heap → Prop} {H : Heap} (x0_0 : Value) (x0_1 : Value) (x0_2 : Value) (h : F20 x0_0 x0_1 x0_2 R H) : HCalls Tryz.prog 20 #[Value.agg #[x0_0, x0_1, x0_2]] H R :=
  calls_by (F := F20 x0_0 x0_1 x0_2 R H) (.node none .leaf (.node none .leaf (.node none .leaf (.node none (.node none .leaf (.node none (.node (some ⟨[(4, 49), (16, 3)], [5, 17, 18, 19, 20, 21, 22, 23, 24]⟩) .leaf .leaf) .leaf)) .leaf)))) Tryz.func20 rfl (F20_eq x0_0 x0_1 x0_2 R H) h
/-- bollard/bollardplain.Of -/
def F21 (x0a : Option Addr) (x0n : Nat) (x0c : Nat) (x1 : Int) (R : Ending → Heap → Prop) (H : Heap) : Prop :=
  al H (Obj.cells #[Value.pointer none, Value.pointer none, Value.pointer none, Value.pointer none] 40) (fun r1 H2 =>
  HCalls Tryz.prog 56 #[Value.slice x0a x0n x0c] H2 (Sp.retK (fun v3 H4 =>
  dSl v3 (fun p5 r6 r7 =>
  HCalls Tryz.prog 55 #[Value.slice p5 r6 r7] H4 (Sp.retK (fun v8 H9 =>
  dT 2 v8 (fun v10 v11 =>
  dPtr v10 (fun p12 =>
  dInt IntKind.i64 v11 (fun n13 =>
  HCalls Tryz.prog 57 #[Value.slice x0a x0n x0c] H9 (Sp.retK (fun v14 H15 =>
  dT 2 v14 (fun v16 v17 =>
  dPtr v16 (fun p18 =>
  dInt IntKind.i64 v17 (fun n19 =>
  jn (α := VFH 1) (fun v20 H21 =>
  ∀ v22 v23 v24 v25 v26 v27 v28 v29 v30 v31 : Value,
  dBl v20 (fun b32 =>
  sB b32 (sB (n13 == n19) (sB (Option.isNone p12) (R (Ending.returned (Value.tuple #[Value.pointer none, Value.bool (Option.isNone p18)])) H21) (R (Ending.returned (Value.tuple #[Value.pointer none, Value.bool false])) H21)) (R (Ending.returned (Value.tuple #[Value.pointer none, Value.bool false])) H21)) (HCalls Tryz.prog 58 #[Value.pointer p12, Value.int IntKind.i64 x1] H21 (Sp.retK (fun v33 H34 =>
  dT 2 v33 (fun v35 v36 =>
  dPtr v35 (fun p37 =>
  dInt IntKind.i64 v36 (fun n38 =>
  HCalls Tryz.prog 59 #[Value.pointer p18, Value.int IntKind.i64 x1] H34 (Sp.retK (fun v39 H40 =>
  dT 2 v39 (fun v41 v42 =>
  dPtr v41 (fun p43 =>
  dInt IntKind.i64 v42 (fun n44 =>
  jn (α := VFH 1) (fun v45 H46 =>
  ∀ v47 v48 v49 v50 v51 v52 v53 v54 v55 : Value,
  dBl v45 (fun b56 =>
  sB b56 (R (Ending.returned (Value.tuple #[Value.pointer none, Value.bool false])) H46) (sB (Option.isNone p43) (R (Ending.returned (Value.tuple #[Value.pointer none, Value.bool true])) H46) (st H46 (Addr.mk r1 0 none) (Value.pointer p12) (fun H57 =>
  st H57 (Addr.mk r1 1 none) (Value.pointer p37) (fun H58 =>
  st H58 (Addr.mk r1 2 none) (Value.pointer p18) (fun H59 =>
  st H59 (Addr.mk r1 3 none) (Value.pointer p43) (fun H60 =>
  R (Ending.returned (Value.tuple #[Value.pointer (some (Addr.mk r1 0 none)), Value.bool true])) H60)))))))) (fun k61 =>
  sB (n38 != n44) (k61 (Value.bool true) H40) (k61 (Value.bool !Option.isNone p37 == Option.isNone p43) H40)))))) (pnR R)))))) (pnR R))))) (fun k66 =>
  sB (n13 != n19) (k66 (Value.bool true) H15) (sB (Option.isNone p12) (k66 (Value.bool true) H15) (k66 (Value.bool (Option.isNone p18)) H15))))))) (pnR R)))))) (pnR R)))) (pnR R)))
theorem F21_eq (x0a : Option Addr) (x0n : Nat) (x0c : Nat) (x1 : Int) (R : Ending → Heap → Prop) (H : Heap) : F21 x0a x0n x0c x1 R H = vc Tryz.prog (codeOf Tryz.f21) (.node none .leaf (.node none .leaf (.node none .leaf (.node none .leaf (.node none (.node (some ⟨[(36, 4)], [26, 27, 28, 29, 30, 31, 32, 33, 34, 35]⟩) .leaf .leaf) (.node none .leaf (.node none .leaf (.node none (.node (some ⟨[(69, 4)], [60, 61, 62, 63, 64, 65, 66, 67, 68]⟩) .leaf .leaf) .leaf)))))))) (postV Tryz.prog Tryz.f21 R) ⟨#[Value.slice x0a x0n x0c, Value.int IntKind.i64 x1] ++ Array.replicate (Tryz.f21.ntmps - 2) undef, []⟩ H := by kernel_rfl
theorem F21_calls {R : Ending → Heap → Prop} {H : Heap} (x0a : Option Addr) (x0n : Nat) (x0c : Nat) (x1 : Int) (h : F21 x0a x0n x0c x1 R H) : HCalls Tryz.prog 21 #[Value.slice x0a x0n x0c, Value.int IntKind.i64 x1] H R :=
  calls_by (F := F21 x0a x0n x0c x1 R H) (.node none .leaf (.node none .leaf (.node none .leaf (.node none .leaf (.node none (.node (some ⟨[(36, 4)], [26, 27, 28, 29, 30, 31, 32, 33, 34, 35]⟩) .leaf .leaf) (.node none .leaf (.node none .leaf (.node none (.node (some ⟨[(69, 4)], [60, 61, 62, 63, 64, 65, 66, 67, 68]⟩) .leaf .leaf) .leaf)))))))) Tryz.func21 rfl (F21_eq x0a x0n x0c x1 R H) h
/-- bollard/inode.place -/
def F22 (x0 : Option Addr) (x1_0 : Value) (x1_1 : Value) (x1_2 : Value) (x2 : Int) (R : Ending → Heap → Prop) (H : Heap) : Prop :=
  al H (Obj.cells #[x1_0, x1_1, x1_2] 23) (fun r1 H2 =>
  ld H2 (Addr.mk r1 0 none) (fun v3 =>
  ld H2 (Addr.mk r1 1 none) (fun v4 =>
  ld H2 (Addr.mk r1 2 none) (fun v5 =>
  HCalls Tryz.prog 39 #[Value.pointer x0, Value.agg #[v3, v4, v5]] H2 (Sp.retK (fun v6 H7 =>
  dInt IntKind.i64 v6 (fun n8 =>
  sB (n8 != 0) (R (Ending.returned (Value.tuple #[Value.int IntKind.i64 0, Value.int IntKind.i64 0, Value.int IntKind.i64 n8])) H7) (ld H7 (Addr.mk r1 0 none) (fun v9 =>
  ld H7 (Addr.mk r1 1 none) (fun v10 =>
  ld H7 (Addr.mk r1 2 none) (fun v11 =>
  HCalls Tryz.prog 60 #[Value.agg #[v9, v10, v11], Value.int IntKind.i64 x2] H7 (Sp.retK (fun v12 H13 =>
  dT 3 v12 (fun v14 v15 v16 =>
  dInt IntKind.i64 v14 (fun n17 =>
  dInt IntKind.i64 v15 (fun n18 =>
  dBl v16 (fun b19 =>
  sB (!b19) (R (Ending.returned (Value.tuple #[Value.int IntKind.i64 0, Value.int IntKind.i64 0, Value.int IntKind.i64 130])) H13) (R (Ending.returned (Value.tuple #[Value.int IntKind.i64 n17, Value.int IntKind.i64 n18, Value.int IntKind.i64 0])) H13)))))) (pnR R)))))))) (pnR R))))))
theorem F22_eq (x0 : Option Addr) (x1_0 : Value) (x1_1 : Value) (x1_2 : Value) (x2 : Int) (R : Ending → Heap → Prop) (H : Heap) : F22 x0 x1_0 x1_1 x1_2 x2 R H = vc Tryz.prog (codeOf Tryz.f22) .leaf (postV Tryz.prog Tryz.f22 R) ⟨#[Value.pointer x0, Value.agg #[x1_0, x1_1, x1_2], Value.int IntKind.i64 x2] ++ Array.replicate (Tryz.f22.ntmps - 3) undef, []⟩ H := by kernel_rfl
theorem F22_calls {R : Ending → Heap → Prop} {H : Heap} (x0 : Option Addr) (x1_0 : Value) (x1_1 : Value) (x1_2 : Value) (x2 : Int) (h : F22 x0 x1_0 x1_1 x1_2 x2 R H) : HCalls Tryz.prog 22 #[Value.pointer x0, Value.agg #[x1_0, x1_1, x1_2], Value.int IntKind.i64 x2] H R :=
  calls_by (F := F22 x0 x1_0 x1_1 x1_2 x2 R H) .leaf Tryz.func22 rfl (F22_eq x0 x1_0 x1_1 x1_2 x2 R H) h
/-- (*bollard/volume.Volume).Read -/
def F23 (x0 : Option Addr) (x1 : Int) (R : Ending → Heap → Prop) (H : Heap) : Prop :=
  HCalls Tryz.prog 61 #[Value.pointer x0] H (Sp.retK (fun v1 H2 =>
  dBl v1 (fun b3 =>
  sB (!b3) (R (Ending.returned (Value.tuple #[Value.slice none 0 0, Value.int IntKind.i64 2])) H2) (nz x0 (fun a4 =>
  HCalls Tryz.prog 63 #[Value.pointer x0, Value.int IntKind.i64 x1] H2 (Sp.retK (fun v5 H6 =>
  dT 2 v5 (fun v7 v8 =>
  dSl v7 (fun p9 r10 r11 =>
  dInt IntKind.i64 v8 (fun n12 =>
  HCallsD Tryz.prog 62 #[Value.pointer (some a4)] FrameMode.returning H6 (fun e13 u14 H15 =>
  match e13 with
| Ending.returned v => leavesV Tryz.prog Tryz.f23 (Act.tmps (Act.mk #[Value.pointer x0, Value.int IntKind.i64 x1, undef, undef, Value.slice p9 r10 r11, Value.int IntKind.i64 n12, Value.pointer x0, Value.bool b3, Value.bool !b3, Value.pointer x0, Value.pointer (some a4), Value.pointer (some a4), Value.pointer x0, Value.int IntKind.i64 x1, Value.tuple #[Value.slice p9 r10 r11, Value.int IntKind.i64 n12], Value.slice p9 r10 r11, Value.int IntKind.i64 n12] [Deferred.mk (Target.fn (Fn.func 62) #[]) #[Value.pointer (some a4)]])) R [] (settle u14) H15
| Ending.panicked c => leavesV Tryz.prog Tryz.f23 (Act.tmps (Act.mk #[Value.pointer x0, Value.int IntKind.i64 x1, undef, undef, Value.slice p9 r10 r11, Value.int IntKind.i64 n12, Value.pointer x0, Value.bool b3, Value.bool !b3, Value.pointer x0, Value.pointer (some a4), Value.pointer (some a4), Value.pointer x0, Value.int IntKind.i64 x1, Value.tuple #[Value.slice p9 r10 r11, Value.int IntKind.i64 n12], Value.slice p9 r10 r11, Value.int IntKind.i64 n12] [Deferred.mk (Target.fn (Fn.func 62) #[]) #[Value.pointer (some a4)]])) R [] (raised u14 c) H15
| Ending.outgrown => False))))) (fun c16 H17 =>
  HCallsD Tryz.prog 62 #[Value.pointer (some a4)] (FrameMode.panicking c16) H17 (fun e18 u19 H20 =>
  match e18 with
| Ending.returned v => leavesV Tryz.prog Tryz.f23 (Act.tmps (Act.mk #[Value.pointer x0, Value.int IntKind.i64 x1, undef, undef, Value.slice none 0 0, Value.int IntKind.i64 0, Value.pointer x0, Value.bool b3, Value.bool !b3, Value.pointer x0, Value.pointer (some a4), Value.pointer (some a4), Value.pointer x0, Value.int IntKind.i64 x1, undef, undef, undef] [Deferred.mk (Target.fn (Fn.func 62) #[]) #[Value.pointer (some a4)]])) R [] (settle u19) H20
| Ending.panicked c => leavesV Tryz.prog Tryz.f23 (Act.tmps (Act.mk #[Value.pointer x0, Value.int IntKind.i64 x1, undef, undef, Value.slice none 0 0, Value.int IntKind.i64 0, Value.pointer x0, Value.bool b3, Value.bool !b3, Value.pointer x0, Value.pointer (some a4), Value.pointer (some a4), Value.pointer x0, Value.int IntKind.i64 x1, undef, undef, undef] [Deferred.mk (Target.fn (Fn.func 62) #[]) #[Value.pointer (some a4)]])) R [] (raised u19 c) H20
| Ending.outgrown => False))))))) (pnR R))
theorem F23_eq (x0 : Option Addr) (x1 : Int) (R : Ending → Heap → Prop) (H : Heap) : F23 x0 x1 R H = vc Tryz.prog (codeOf Tryz.f23) .leaf (postV Tryz.prog Tryz.f23 R) ⟨#[Value.pointer x0, Value.int IntKind.i64 x1] ++ Array.replicate (Tryz.f23.ntmps - 2) undef, []⟩ H := by kernel_rfl
theorem F23_calls {R : Ending → Heap → Prop} {H : Heap} (x0 : Option Addr) (x1 : Int) (h : F23 x0 x1 R H) : HCalls Tryz.prog 23 #[Value.pointer x0, Value.int IntKind.i64 x1] H R :=
  calls_by (F := F23 x0 x1 R H) .leaf Tryz.func23 rfl (F23_eq x0 x1 R H) h
end Go.Proofs.YtklppdodadkcnaaGreat.E
