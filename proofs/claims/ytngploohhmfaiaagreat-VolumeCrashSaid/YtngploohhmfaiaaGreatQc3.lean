/- My own texts, joined. -/
import Derived.KernelRfl
import Derived.Laws.Externs
import Derived.Lib.MakeNoZero
import Derived.Test.YtngploohhmfaiaaGreatProg
import Derived.Test.YtngploohhmfaiaaGreatQc2
/- copy; entries without a text: bytealg.MakeNoZero; min. -/
namespace Go.Proofs.YtngploohhmfaiaaGreat.E
open Go
set_option linter.unusedVariables false
set_option linter.unusedSimpArgs false
theorem wrap_u64 (x : Int) : IntKind.u64.wrap x = x % 18446744073709551616 := rfl
def ivs (l : List Int) : List Value := l.map (Value.int .i64)
theorem ivs_len (l : List Int) : (ivs l).length = l.length := by simp [ivs]
theorem ivs_one (l : List Int) : ∀ u ∈ ivs l, u.oneCell' = true := by intro u hu; simp [ivs] at hu; obtain ⟨b, _, rfl⟩ := hu; rfl
theorem ivs_get {l : List Int} {k : Nat} {x : Int} (h : l[k]? = some x) : (ivs l)[k]? = some (.int .i64 x) := by simp [ivs, h]
theorem ivs_take (l : List Int) (n : Nat) : (ivs l).take n = ivs (l.take n) := by simp [ivs]
theorem ivs_drop (l : List Int) (n : Nat) : (ivs l).drop n = ivs (l.drop n) := by simp [ivs]
theorem ivs_app (l m : List Int) : ivs (l ++ m) = ivs l ++ ivs m := by simp [ivs]
theorem Own.ne_none {s : TH} {a : Option Addr} {n c e k : Nat} {xs : List Value} {τ : Nat} (h : Own s a n c e k xs τ) (hn : 0 < n) : ∃ b, a = some b := by
  cases a with
  | none => have := h.none_iff rfl; omega
  | some b => exact ⟨b, rfl⟩
theorem Sl.ne_none {s : TH} {a : Option Addr} {xs : List Value} {τ : Nat} (h : Sl s a xs τ) (hn : 0 < xs.length) : ∃ b, a = .some b := h.some (fun e => by rw [e] at hn; cases hn)
end Go.Proofs.YtngploohhmfaiaaGreat.E
/- Contracts of functions. -/
namespace Go.Proofs.YtngploohhmfaiaaGreat.E
open Go Go.Proofs
set_option linter.unusedVariables false
theorem u131 : Tryz.prog.underlying 131 = some (.map 3 3) := by kernel_rfl
theorem u189 : Tryz.prog.underlying 189 = some (.map 3 23) := by kernel_rfl
theorem u201 : Tryz.prog.underlying 201 = some (.map 3 254) := by kernel_rfl
theorem z3 (w : World) : (zeroValue 3).run Tryz.prog w = .ok (.int .i64 0) w := by kernel_rfl
theorem z4 (w : World) : (zeroValue 4).run Tryz.prog w = .ok (.bool false) w := by kernel_rfl
theorem z5 (w : World) : (zeroValue 5).run Tryz.prog w = .ok (.int .u8 0) w := by kernel_rfl
theorem u3 : Tryz.prog.underlying 3 = some (.int .i64) := by kernel_rfl
theorem z22 (w : World) : (zeroValue 22).run Tryz.prog w = .ok (.pointer none) w := by kernel_rfl
theorem u38 : Tryz.prog.underlying 38 = some (.slice 5) := by kernel_rfl
theorem z38 (w : World) : (zeroValue 38).run Tryz.prog w = .ok (.slice none 0 0) w := by kernel_rfl
theorem u42 : Tryz.prog.underlying 42 = some (.slice 38) := by kernel_rfl
theorem z50 (w : World) : (zeroValue 50).run Tryz.prog w = .ok (.pointer none) w := by kernel_rfl
theorem z51 (w : World) : (zeroValue 51).run Tryz.prog w = .ok (.pointer none) w := by kernel_rfl
theorem u73 : Tryz.prog.underlying 73 = some (.slice 3) := by kernel_rfl
theorem u84 : Tryz.prog.underlying 84 = some (.slice 73) := by kernel_rfl
theorem u93 : Tryz.prog.underlying 93 = some (.slice 96) := by kernel_rfl
theorem u110 : Tryz.prog.underlying 110 = some (.slice 125) := by kernel_rfl
theorem z218 (w : World) : (zeroValue 218).run Tryz.prog w = .ok (.pointer none) w := by kernel_rfl
theorem z254 (w : World) : (zeroValue 254).run Tryz.prog w = .ok (.pointer none) w := by kernel_rfl
theorem in5 : (Tryz.prog.info? 5).map (fun i => (i.zero, i.size, i.bytes)) = some (some (.int .u8 0), 1, 1) := by kernel_rfl
theorem in3 : (Tryz.prog.info? 3).map (fun i => (i.zero, i.size, i.bytes)) = some (some (.int .i64 0), 1, 8) := by kernel_rfl
theorem in38 : (Tryz.prog.info? 38).map (fun i => (i.zero, i.size, i.bytes)) = some (some (.slice none 0 0), 1, 24) := by kernel_rfl
theorem in96 : (Tryz.prog.info? 96).map (fun i => (i.zero, i.size, i.bytes)) = some (some (.agg #[.int .i64 0, .int .i64 0, .slice none 0 0]), 3, 40) := by kernel_rfl
theorem keyI : KeyOk Tryz.prog 3 (Value.int .i64) := keyInt u3
end Go.Proofs.YtngploohhmfaiaaGreat.E
/- Contracts of functions. -/
namespace Go.Proofs.YtngploohhmfaiaaGreat.E
open Go Go.Proofs
set_option linter.unusedVariables false
/-- a write on its way -/
structure SentM where
  id : Int
  blk : Int
  by_ : List UInt8
/-- what a disk is -/
structure DiskM where
  blocks : List (List UInt8)
  queue : List SentM
  fails : Int → Int
  last : Int
def DiskM.has (D : DiskM) (b : Int) : Prop := 0 ≤ b ∧ b < D.blocks.length
instance (D : DiskM) (b : Int) : Decidable (D.has b) := by unfold DiskM.has; infer_instance
/-- a slice's value: address, length, capacity -/
abbrev Hd := Option Addr × Nat
def hv (n : Nat) (p : Hd) : Value := .slice p.1 n p.2
def hd1 (p : Hd) : List Value := [.slice p.1 128 p.2]
def qv (q : Int × Int × Hd) : List Value := [.int .i64 q.1, .int .i64 q.2.1, .slice q.2.2.1 128 q.2.2.2]
theorem hd1_len (p : Hd) : (hd1 p).length = 1 := rfl
theorem qv_len (q : Int × Int × Hd) : (qv q).length = 3 := rfl
/-- so many bytes lie behind a slice's value -/
structure ByAt (s : TH) (τ : Nat) (p : Hd) (b : List UInt8) : Prop where
  sl : Sl s p.1 (bvs b) τ
  len : b.length = 128
theorem ByAt.mv {s s' : TH} {τ : Nat} {p : Hd} {b : List UInt8} {C : Nat → Prop} (h : ByAt s τ p b) (c : Chg C s s') (hn : ∀ j, j < s.h.size → s.g j = τ → ¬ C j) : ByAt s' τ p b := ⟨h.sl.mv c hn, h.len⟩
theorem ByAt.ne {s : TH} {τ : Nat} {p : Hd} {b : List UInt8} (h : ByAt s τ p b) : ∃ a, p.1 = some a := h.sl.some fun e => by have := congrArg List.length e; rw [bvs_len, h.len] at this; cases this
/-- rows of bytes -/
structure BRel (s : TH) (τ : Nat) (hs : List Hd) (bs : List (List UInt8)) : Prop where
  len : hs.length = bs.length
  at_ : ∀ (i : Nat) (p : Hd) (b : List UInt8), hs[i]? = some p → bs[i]? = some b → ByAt s τ p b
structure QRel (s : TH) (τ : Nat) (qs : List (Int × Int × Hd)) (q : List SentM) : Prop where
  len : qs.length = q.length
  at_ : ∀ (i : Nat) (x : Int × Int × Hd) (m : SentM), qs[i]? = some x → q[i]? = some m → x.1 = m.id ∧ x.2.1 = m.blk ∧ ByAt s τ x.2.2 m.by_
theorem BRel.mv {s s' : TH} {τ : Nat} {hs : List Hd} {bs : List (List UInt8)} {C : Nat → Prop} (h : BRel s τ hs bs) (c : Chg C s s') (hn : ∀ j, j < s.h.size → s.g j = τ → ¬ C j) : BRel s' τ hs bs := ⟨h.len, fun i p b h1 h2 => (h.at_ i p b h1 h2).mv c hn⟩
theorem QRel.mv {s s' : TH} {τ : Nat} {hs : List (Int × Int × Hd)} {bs : List SentM} {C : Nat → Prop} (h : QRel s τ hs bs) (c : Chg C s s') (hn : ∀ j, j < s.h.size → s.g j = τ → ¬ C j) : QRel s' τ hs bs := ⟨h.len, fun i p b h1 h2 => ⟨(h.at_ i p b h1 h2).1, (h.at_ i p b h1 h2).2.1, (h.at_ i p b h1 h2).2.2.mv c hn⟩⟩
theorem qcell0 {qs : List (Int × Int × Hd)} {m : Nat} {x : Int × Int × Hd} (h : qs[m]? = some x) : (qs.flatMap qv)[m * 3]? = some (.int .i64 x.1) := fm_get qv_len qs m 0 x h (by omega)
theorem qcell1 {qs : List (Int × Int × Hd)} {m : Nat} {x : Int × Int × Hd} (h : qs[m]? = some x) : (qs.flatMap qv)[m * 3 + 1]? = some (.int .i64 x.2.1) := fm_get qv_len qs m 1 x h (by omega)
theorem qcell2 {qs : List (Int × Int × Hd)} {m : Nat} {x : Int × Int × Hd} (h : qs[m]? = some x) : (qs.flatMap qv)[m * 3 + 2]? = some (.slice x.2.2.1 128 x.2.2.2) := fm_get qv_len qs m 2 x h (by omega)
theorem bcell {hs : List Hd} {m : Nat} {x : Hd} (h : hs[m]? = some x) : (hs.flatMap hd1)[m]? = some (.slice x.1 128 x.2) := by
  have := fm_get hd1_len hs m 0 x h (by omega); simpa [hd1] using this
def ixr {α : Type} (p : α → Bool) : List α → Nat → Int
  | [], _ => -1
  | x :: l, i => if p x = true then (i : Int) else ixr p l (i + 1)
def ixf {α : Type} (p : α → Bool) (l : List α) : Int := ixr p l 0
theorem ixr_some {α : Type} {p : α → Bool} : ∀ (l : List α) (i k : Nat) (x : α), l[k]? = some x → p x = true → (∀ (j : Nat) (y : α), j < k → l[j]? = some y → p y = false) → ixr p l i = ((i + k : Nat) : Int)
  | [], i, k, x, h, _, _ => by simp at h
  | y :: l, i, 0, x, h, hp, _ => by simp at h; subst h; simp [ixr, hp]
  | y :: l, i, k + 1, x, h, hp, ha => by
    have := ha 0 y (by omega) (by simp)
    rw [ixr, if_neg (by simp [this]), ixr_some l (i + 1) k x (by simpa using h) hp (fun j z hj hz => ha (j + 1) z (by omega) (by simpa using hz))]
    omega
theorem ixr_none {α : Type} {p : α → Bool} : ∀ (l : List α) (i : Nat), (∀ (j : Nat) (y : α), j < l.length → l[j]? = some y → p y = false) → ixr p l i = -1
  | [], i, _ => rfl
  | y :: l, i, ha => by
    have := ha 0 y (by simp) (by simp)
    rw [ixr, if_neg (by simp [this])]
    exact ixr_none l (i + 1) fun j z hj hz => ha (j + 1) z (by simpa using hj) (by simpa using hz)
theorem ixf_some {α : Type} {p : α → Bool} {l : List α} {k : Nat} {x : α} (h : l[k]? = some x) (hp : p x = true) (ha : ∀ (j : Nat) (y : α), j < k → l[j]? = some y → p y = false) : ixf p l = (k : Int) := by
  have := ixr_some l 0 k x h hp ha; simpa [ixf] using this
theorem ixf_none {α : Type} {p : α → Bool} {l : List α} (ha : ∀ (j : Nat) (y : α), j < l.length → l[j]? = some y → p y = false) : ixf p l = -1 := ixr_none l 0 ha
theorem ixf_cases {α : Type} (p : α → Bool) : ∀ (l : List α), (ixf p l = -1 ∧ ∀ x ∈ l, p x = false) ∨ ∃ (k : Nat) (x : α), ixf p l = k ∧ l[k]? = some x ∧ p x = true := by
  intro l
  by_cases h : ∀ x ∈ l, p x = false
  · left; exact ⟨ixf_none fun j y hj hy => h y (List.mem_of_getElem? hy), h⟩
  · right
    have : ∃ k x, l[k]? = some x ∧ p x = true ∧ ∀ (j : Nat) (y : α), j < k → l[j]? = some y → p y = false := by
      induction l with
      | nil => simp at h
      | cons y l ih =>
        by_cases hy : p y = true
        · exact ⟨0, y, by simp, hy, fun j z hj => by omega⟩
        · obtain ⟨k, x, h1, h2, h3⟩ := ih (by intro h'; apply h; intro x hx; rcases List.mem_cons.1 hx with rfl | hx <;> first | exact h' _ hx | simpa using hy)
          refine ⟨k + 1, x, by simpa using h1, h2, fun j z hj hz => ?_⟩
          cases j with
          | zero => simp at hz; subst hz; simpa using hy
          | succ j => exact h3 j z (by omega) (by simpa using hz)
    obtain ⟨k, x, h1, h2, h3⟩ := this
    exact ⟨k, x, ixf_some h1 h2 h3, h1, h2⟩
theorem ixr_rel {s : TH} {τ : Nat} (p : Int × Int × Hd → Bool) (q : SentM → Bool) (hpq : ∀ x m, x.1 = m.id → x.2.1 = m.blk → p x = q m) : ∀ (qs : List (Int × Int × Hd)) (l : List SentM) (i : Nat), QRel s τ qs l → ixr p qs i = ixr q l i
  | [], [], i, _ => rfl
  | [], _ :: _, i, h => by have := h.len; simp at this
  | _ :: _, [], i, h => by have := h.len; simp at this
  | x :: qs, m :: l, i, h => by
    have h0 := h.at_ 0 x m (by simp) (by simp)
    rw [ixr, ixr, hpq x m h0.1 h0.2.1, ixr_rel p q hpq qs l (i + 1) ⟨by have := h.len; simpa using this, fun j y n hy hn => h.at_ (j + 1) y n (by simpa using hy) (by simpa using hn)⟩]
theorem ixf_qrel {s : TH} {τ : Nat} {qs : List (Int × Int × Hd)} {l : List SentM} (h : QRel s τ qs l) (p : Int × Int × Hd → Bool) (q : SentM → Bool) (hpq : ∀ x m, x.1 = m.id → x.2.1 = m.blk → p x = q m) : ixf p qs = ixf q l := ixr_rel p q hpq qs l 0 h
def DiskM.write (D : DiskM) (b : Int) (x : List UInt8) : DiskM × Int × Int :=
  if ¬ D.has b then (D, 0, 1)
  else if x.length ≠ 128 then (D, 0, 1)
  else if ixf (fun m : SentM => m.blk == b) D.queue ≥ 0 then (D, 0, 21)
  else if 64 ≤ D.queue.length then (D, 0, 3)
  else ({ D with queue := D.queue ++ [⟨D.last + 1, b, x⟩], last := D.last + 1 }, D.last + 1, 0)
theorem write_1 {D : DiskM} {b : Int} {x : List UInt8} (h : ¬ D.has b ∨ x.length ≠ 128) : D.write b x = (D, 0, 1) := by
  unfold DiskM.write
  by_cases h1 : D.has b
  · rw [if_neg (by simpa using h1), if_pos (h.resolve_left (by simpa using h1))]
  · rw [if_pos h1]
theorem write_2 {D : DiskM} {b : Int} {x : List UInt8} (h : D.has b) (h2 : x.length = 128) (h3 : ixf (fun m : SentM => m.blk == b) D.queue ≥ 0) : D.write b x = (D, 0, 21) := by
  unfold DiskM.write; rw [if_neg (by simpa using h), if_neg (by simpa using h2), if_pos h3]
theorem write_3 {D : DiskM} {b : Int} {x : List UInt8} (h : D.has b) (h2 : x.length = 128) (h3 : ¬ ixf (fun m : SentM => m.blk == b) D.queue ≥ 0) (h4 : 64 ≤ D.queue.length) : D.write b x = (D, 0, 3) := by
  unfold DiskM.write; rw [if_neg (by simpa using h), if_neg (by simpa using h2), if_neg h3, if_pos h4]
theorem write_4 {D : DiskM} {b : Int} {x : List UInt8} (h : D.has b) (h2 : x.length = 128) (h3 : ¬ ixf (fun m : SentM => m.blk == b) D.queue ≥ 0) (h4 : ¬ 64 ≤ D.queue.length) : D.write b x = ({ D with queue := D.queue ++ [⟨D.last + 1, b, x⟩], last := D.last + 1 }, D.last + 1, 0) := by
  unfold DiskM.write; rw [if_neg (by simpa using h), if_neg (by simpa using h2), if_neg h3, if_neg h4]
theorem one_fm (qs : List (Int × Int × Hd)) (i : Nat) : ∀ u ∈ (qs.flatMap qv).drop i, u.oneCell' = true := by
  intro u hu
  have := List.mem_of_mem_drop hu
  simp only [List.mem_flatMap, qv] at this
  obtain ⟨q, _, hq⟩ := this
  simp at hq
  rcases hq with rfl | rfl | rfl <;> rfl
def DiskM.complete (D : DiskM) (id : Int) (ok : Bool) : DiskM × Int :=
  match D.queue[(ixf (fun m : SentM => m.id == id) D.queue).toNat]? with
  | none => (D, 20)
  | some m => if ixf (fun m : SentM => m.id == id) D.queue < 0 then (D, 20)
    else if ok = false then ({ D with queue := D.queue.eraseIdx (ixf (fun m : SentM => m.id == id) D.queue).toNat }, 4)
    else ({ D with queue := D.queue.eraseIdx (ixf (fun m : SentM => m.id == id) D.queue).toNat, blocks := D.blocks.set m.blk.toNat m.by_ }, 0)
theorem compl_1 {D : DiskM} {id : Int} {ok : Bool} (h : ixf (fun m : SentM => m.id == id) D.queue < 0) : D.complete id ok = (D, 20) := by
  unfold DiskM.complete; split
  · rfl
  · rw [if_pos h]
theorem compl_2 {D : DiskM} {id : Int} {i : Nat} {m : SentM} (h : ixf (fun m : SentM => m.id == id) D.queue = i) (hm : D.queue[i]? = some m) : D.complete id false = ({ D with queue := D.queue.eraseIdx i }, 4) := by
  unfold DiskM.complete; rw [h, Int.toNat_natCast, hm]; simp only; rw [if_neg (by omega)]; simp
theorem compl_3 {D : DiskM} {id : Int} {i : Nat} {m : SentM} (h : ixf (fun m : SentM => m.id == id) D.queue = i) (hm : D.queue[i]? = some m) : D.complete id true = ({ D with queue := D.queue.eraseIdx i, blocks := D.blocks.set m.blk.toNat m.by_ }, 0) := by
  unfold DiskM.complete; rw [h, Int.toNat_natCast, hm]; simp only; rw [if_neg (by omega), if_neg (by simp)]
theorem fm_set1 (hs : List Hd) (j : Nat) (p : Hd) : (hs.flatMap hd1).set j (.slice p.1 128 p.2) = (hs.set j p).flatMap hd1 := by
  have e : ∀ l : List Hd, l.flatMap hd1 = l.map fun p => .slice p.1 128 p.2 := fun l => by induction l with | nil => rfl | cons x l ih => simp [hd1, ih]
  rw [e, e, List.map_set]
theorem BRel.set {s : TH} {τ : Nat} {hs : List Hd} {bs : List (List UInt8)} (h : BRel s τ hs bs) (j : Nat) {p : Hd} {b : List UInt8} (hp : ByAt s τ p b) : BRel s τ (hs.set j p) (bs.set j b) := by
  refine ⟨by simp [h.len], fun i x y hx hy => ?_⟩
  rw [List.getElem?_set] at hx hy
  by_cases hij : j = i
  · subst hij
    rw [if_pos rfl] at hx hy
    split at hx
    · split at hy
      · cases hx; cases hy; exact hp
      · cases hy
    · cases hx
  · rw [if_neg hij] at hx hy; exact h.at_ i x y hx hy
theorem fm_erase {α : Type} {f : α → List Value} {k : Nat} (hf : ∀ x, (f x).length = k) (l : List α) (i : Nat) : (l.flatMap f).take (i * k) ++ (l.flatMap f).drop ((i + 1) * k) = (l.eraseIdx i).flatMap f := by
  rw [fm_take hf, fm_drop hf, ← List.flatMap_append, List.eraseIdx_eq_take_drop_succ]
theorem QRel.erase {s : TH} {τ : Nat} {qs : List (Int × Int × Hd)} {q : List SentM} (h : QRel s τ qs q) (i : Nat) : QRel s τ (qs.eraseIdx i) (q.eraseIdx i) := by
  refine ⟨by simp [List.length_eraseIdx, h.len], fun j y n hy hn => ?_⟩
  rw [List.getElem?_eraseIdx] at hy hn
  split at hy
  · rename_i hj; rw [if_pos hj] at hn; exact h.at_ j y n hy hn
  · rename_i hj; rw [if_neg hj] at hn; exact h.at_ (j + 1) y n hy hn
theorem QRel.snoc {s : TH} {τ : Nat} {qs : List (Int × Int × Hd)} {q : List SentM} (h : QRel s τ qs q) {x : Int × Int × Hd} {m : SentM} (hx : x.1 = m.id ∧ x.2.1 = m.blk ∧ ByAt s τ x.2.2 m.by_) : QRel s τ (qs ++ [x]) (q ++ [m]) := by
  refine ⟨by simp [h.len], fun i y n hy hn => ?_⟩
  by_cases hi : i < q.length
  · rw [List.getElem?_append_left (by rw [h.len]; exact hi)] at hy
    rw [List.getElem?_append_left hi] at hn
    exact h.at_ i y n hy hn
  · rw [List.getElem?_append_right (by rw [h.len]; omega)] at hy
    rw [List.getElem?_append_right (by omega)] at hn
    rw [h.len] at hy
    cases hd : i - q.length with
    | zero => rw [hd] at hy hn; simp at hy hn; subst hy hn; exact hx
    | succ k => rw [hd] at hy; simp at hy
/-- of a block how many of its reads fail -/
def FailsOk (fm : List (Int × Value)) (f : Int → Int) : Prop := ∀ b, (mget b fm).getD (.int .i64 0) = .int .i64 (f b)
/-- a disk of the program in memory, its parts -/
structure DiskP (s : TH) (d T : Nat) (D : DiskM) (pa : Option Addr) (pc : Nat) (qa : Option Addr) (qc : Nat) (hs : List Hd) (qs : List (Int × Int × Hd)) (fr : Nat) (fm : List (Int × Value)) : Prop where
  blk : Blk s d [.slice pa D.blocks.length pc, .slice qa D.queue.length qc, .map (some fr), .int .i64 D.last] 133 T
  rows : Own s pa D.blocks.length pc 38 1 (hs.flatMap hd1) (T + 1)
  brel : BRel s (T + 3) hs D.blocks
  que : Own s qa D.queue.length qc 96 3 (qs.flatMap qv) (T + 2)
  qrel : QRel s (T + 3) qs D.queue
  fails : MapK (Value.int .i64) s fr fm (T + 4)
  fok : FailsOk fm D.fails
  nb : 1 ≤ D.blocks.length ∧ D.blocks.length ≤ 2048
  nq : D.queue.length ≤ 64
  qin : ∀ m ∈ D.queue, 0 ≤ m.blk ∧ m.blk < D.blocks.length
def Disk (s : TH) (d T : Nat) (D : DiskM) : Prop := ∃ pa pc qa qc hs qs fr fm, DiskP s d T D pa pc qa qc hs qs fr fm
theorem DiskP.mv {s s' : TH} {d T : Nat} {D : DiskM} {pa : Option Addr} {pc : Nat} {qa : Option Addr} {qc : Nat} {hs : List Hd} {qs : List (Int × Int × Hd)} {fr : Nat} {fm : List (Int × Value)} {C : Nat → Prop}
    (h : DiskP s d T D pa pc qa qc hs qs fr fm) (c : Chg C s s') (hn : ∀ j, j < s.h.size → T ≤ s.g j → s.g j < T + 10 → ¬ C j) : DiskP s' d T D pa pc qa qc hs qs fr fm :=
  ⟨h.blk.mv c (of_rng hn (Nat.le_refl _) (by omega) d h.blk.lt h.blk.tag), h.rows.mv c (of_rng hn (by omega) (by omega)), h.brel.mv c (of_rng hn (by omega) (by omega)), h.que.mv c (of_rng hn (by omega) (by omega)), h.qrel.mv c (of_rng hn (by omega) (by omega)),
    h.fails.mv c (of_rng hn (by omega) (by omega) fr h.fails.lt h.fails.tag), h.fok, h.nb, h.nq, h.qin⟩
theorem Disk.mv {s s' : TH} {d T : Nat} {D : DiskM} {C : Nat → Prop} (h : Disk s d T D) (c : Chg C s s') (hn : ∀ j, j < s.h.size → T ≤ s.g j → s.g j < T + 10 → ¬ C j) : Disk s' d T D := by
  obtain ⟨pa, pc, qa, qc, hs, qs, fr, fm, h⟩ := h
  exact ⟨pa, pc, qa, qc, hs, qs, fr, fm, h.mv c hn⟩
end Go.Proofs.YtngploohhmfaiaaGreat.E
/- The functions' forms in the engine's words, printed by my own program. -/
namespace Go.Proofs.YtngploohhmfaiaaGreat.E
open Go Go.Proofs
set_option linter.unusedVariables false
/-- bollard/bollardlaw09.VolumeCrash -/
def F6 (x0a : Option Addr) (x0n : Nat) (x0c : Nat) (x1a : Option Addr) (x1n : Nat) (x1c : Nat) (x2 : Int) (R : Ending → Heap → Prop) (H : Heap) : Prop :=
  HCalls Tryz.prog 30 #[Value.int IntKind.i64 8] H (Sp.retK (fun v1 H2 =>
  dT 2 v1 (fun v3 v4 =>
  dPtr v3 (fun p5 =>
  dInt IntKind.i64 v4 (fun n6 =>
  HCalls Tryz.prog 31 #[Value.pointer p5, Value.int IntKind.i64 8] H2 (Sp.retK (fun v7 H8 =>
  dT 2 v7 (fun v9 v10 =>
  dPtr v9 (fun p11 =>
  dInt IntKind.i64 v10 (fun n12 =>
  jn (α := VFH 1) (fun v13 H14 =>
  ∀ v15 v16 v17 v18 v19 : Value,
  dBl v13 (fun b20 =>
  sB b20 (R (Ending.returned (Value.bool false)) H14) (jn (α := VFH 1) (fun v21 H22 =>
  ∀ v23 v24 v25 v26 v27 v28 v29 v30 v31 v32 v33 v34 v35 v36 v37 v38 v39 v40 v41 v42 v43 v44 v45 v46 v47 v48 v49 v50 v51 v52 v53 v54 v55 v56 v57 v58 v59 v60 v61 v62 v63 v64 v65 v66 v67 v68 v69 v70 v71 v72 v73 v74 v75 v76 v77 v78 v79 v80 : Value,
  dSl v21 (fun p81 r82 r83 =>
  jn (α := VFH 0) (fun H84 =>
  ∀ v85 v86 v87 v88 v89 v90 v91 v92 v93 v94 v95 v96 v97 v98 v99 v100 v101 v102 v103 v104 v105 v106 v107 v108 v109 v110 v111 v112 v113 v114 v115 v116 v117 v118 v119 v120 v121 v122 v123 v124 v125 v126 v127 v128 v129 v130 v131 v132 v133 v134 v135 v136 v137 v138 : Value,
  HCalls Tryz.prog 36 #[Value.pointer p5] H84 (Sp.retK (fun v139 H140 =>
  dSl v139 (fun p141 r142 r143 =>
  ∃ I144 : List Value → Heap → Prop,
  ∃ I145 : List Value → Heap → Nat,
  (I144 ([Value.slice none 0 0, Value.int IntKind.i64 0]) H140) ∧
  ∀ p146 : Option Addr,
  ∀ r147 : Nat,
  ∀ r148 : Nat,
  ∀ n149 : Int,
  ∀ v150 v151 v152 v153 v154 v155 v156 v157 v158 v159 v160 v161 v162 v163 v164 v165 v166 : Value,
  ∀ H167 : Heap,
  (I144 ([Value.slice p146 r147 r148, Value.int IntKind.i64 n149]) H167) →
  sB (decide (n149 < (↑r142 : Int))) (jn (α := VFH 1) (fun v169 H170 =>
  ∀ v171 v172 v173 v174 v175 v176 v177 v178 v179 v180 v181 v182 v183 v184 v185 : Value,
  dSl v169 (fun p186 r187 r188 =>
  wr IntKind.i64 (n149 + 1) (fun n189 =>
  (I144 ([Value.slice p186 r187 r188, Value.int IntKind.i64 n189]) H170) ∧
  (I145 [Value.slice p186 r187 r188, Value.int IntKind.i64 n189] H170) < (I145 [Value.slice p146 r147 r148, Value.int IntKind.i64 n149] H167)))) (fun k190 =>
  nz p141 (fun a191 =>
  ask ((0 : Int) ≤ n149 ∧ n149 < (↑r142 : Int)) (ld H167 (Addr.add a191 (Int.toNat n149 * 3)) (fun v192 =>
  ld H167 (Addr.add (Addr.add a191 (Int.toNat n149 * 3)) 1) (fun v193 =>
  ld H167 (Addr.add (Addr.add a191 (Int.toNat n149 * 3)) 2) (fun v194 =>
  al H167 (Obj.cells #[Value.int IntKind.i64 0, Value.int IntKind.i64 0, Value.slice none 0 0] 96) (fun r195 H196 =>
  st H196 (Addr.mk r195 0 none) v192 (fun H197 =>
  st H197 (Addr.mk r195 1 none) v193 (fun H198 =>
  st H198 (Addr.mk r195 2 none) v194 (fun H199 =>
  ask ((0 : Int) ≤ n149) (nm (Int.fdiv x2 (2 ^ min (Int.toNat n149) 64)) (fun n200 =>
  nm (IntKind.wrap IntKind.u64 (↑(BitVec.toNat (BitVec.ofInt 64 n200 &&& BitVec.ofInt 64 1)) : Int)) (fun n201 =>
  sB (n201 == 1) (ld H199 (Addr.mk r195 0 none) (fun v202 =>
  dInt IntKind.i64 v202 (fun n203 =>
  al H199 (Obj.cells #[Value.int IntKind.i64 n203] 3) (fun r204 H205 =>
  semW Tryz.prog (Builtin.append_ #[73, 73] 73 #[Value.slice p146 r147 r148, Value.slice (some (Addr.mk r204 0 none)) 1 1]) (pnR R) H205 (fun v208 H209 =>
  dSl v208 (fun p210 r211 r212 =>
  k190 (Value.slice p210 r211 r212) H209)))))) (k190 (Value.slice p146 r147 r148) H199))))))))))))))) (HCalls Tryz.prog 37 #[Value.pointer p5, Value.slice p146 r147 r148] H167 (Sp.retK (fun v213 H214 =>
  dInt IntKind.i64 v213 (fun n215 =>
  sB (n215 != 0) (R (Ending.returned (Value.bool false)) H214) (HCalls Tryz.prog 38 #[Value.pointer p5] H214 (Sp.retK (fun v216 H217 =>
  dSl v216 (fun p218 r219 r220 =>
  ∃ I221 : List Value → Heap → Prop,
  ∃ I222 : List Value → Heap → Nat,
  (I221 ([Value.int IntKind.i64 0]) H217) ∧
  ∀ n223 : Int,
  ∀ v224 v225 v226 v227 v228 v229 v230 v231 v232 v233 v234 v235 v236 v237 v238 v239 v240 v241 v242 v243 v244 v245 v246 v247 v248 v249 v250 v251 v252 v253 v254 v255 v256 v257 v258 v259 : Value,
  ∀ H260 : Heap,
  (I221 ([Value.int IntKind.i64 n223]) H260) →
  sB (decide (n223 < (↑r82 : Int))) (jn (α := VFH 0) (fun H262 =>
  ∀ v263 v264 v265 v266 v267 v268 v269 v270 v271 v272 v273 v274 v275 v276 v277 v278 v279 v280 v281 v282 v283 v284 v285 v286 v287 v288 v289 v290 v291 v292 v293 v294 v295 v296 : Value,
  wr IntKind.i64 (n223 + 1) (fun n297 =>
  (I221 ([Value.int IntKind.i64 n297]) H262) ∧
  (I222 [Value.int IntKind.i64 n297] H262) < (I222 [Value.int IntKind.i64 n223] H260))) (fun k298 =>
  nz p81 (fun a299 =>
  ask ((0 : Int) ≤ n223 ∧ n223 < (↑r82 : Int)) (ld H260 (Addr.add a299 (Int.toNat n223 * 1)) (fun v300 =>
  dSl v300 (fun p301 r302 r303 =>
  ask ((8 : Int) ≠ (0 : Int)) (nm (Int.tmod n223 8) (fun n304 =>
  nz p218 (fun a305 =>
  ask ((0 : Int) ≤ n304 ∧ n304 < (↑r219 : Int)) (ld H260 (Addr.add a305 (Int.toNat n304 * 1)) (fun v306 =>
  dSl v306 (fun p307 r308 r309 =>
  nz p307 (fun a310 =>
  ask ((0 : Int) ≤ n223 ∧ n223 < (↑r308 : Int)) (ld H260 (Addr.add a310 (Int.toNat n223 * 1)) (fun v311 =>
  dInt IntKind.u8 v311 (fun n312 =>
  sB (n312 == 0) (k298 H260) (∃ I313 : List Value → Heap → Prop,
  ∃ I314 : List Value → Heap → Nat,
  (I313 ([Value.int IntKind.i64 0]) H260) ∧
  ∀ n315 : Int,
  ∀ v316 v317 v318 v319 v320 v321 v322 v323 v324 v325 v326 v327 v328 v329 v330 v331 v332 : Value,
  ∀ H333 : Heap,
  (I313 ([Value.int IntKind.i64 n315]) H333) →
  sB (decide (n315 < (↑r302 : Int))) (nz p301 (fun a335 =>
  ask ((0 : Int) ≤ n315 ∧ n315 < (↑r302 : Int)) (ld H333 (Addr.add a335 (Int.toNat n315 * 1)) (fun v336 =>
  dInt IntKind.i64 v336 (fun n337 =>
  wr IntKind.i64 (n337 - 1) (fun n338 =>
  ask ((8 : Int) ≠ (0 : Int)) (nm (Int.tmod n338 8) (fun n339 =>
  nz p218 (fun a340 =>
  ask ((0 : Int) ≤ n339 ∧ n339 < (↑r219 : Int)) (ld H333 (Addr.add a340 (Int.toNat n339 * 1)) (fun v341 =>
  dSl v341 (fun p342 r343 r344 =>
  wr IntKind.i64 (n337 - 1) (fun n345 =>
  nz p342 (fun a346 =>
  ask ((0 : Int) ≤ n345 ∧ n345 < (↑r343 : Int)) (ld H333 (Addr.add a346 (Int.toNat n345 * 1)) (fun v347 =>
  dInt IntKind.u8 v347 (fun n348 =>
  sB (n348 == 0) (R (Ending.returned (Value.bool false)) H333) (wr IntKind.i64 (n315 + 1) (fun n349 =>
  (I313 ([Value.int IntKind.i64 n349]) H333) ∧
  (I314 [Value.int IntKind.i64 n349] H333) < (I314 [Value.int IntKind.i64 n315] H333)))))))))))))))))))) (k298 H333)))))))))))))))))) (R (Ending.returned (Value.bool true)) H260))) (pnR R))))) (pnR R))))) (pnR R))) (fun k356 =>
  ∃ I357 : List Value → Heap → Prop,
  ∃ I358 : List Value → Heap → Nat,
  (I357 ([Value.int IntKind.i64 0]) H22) ∧
  ∀ n359 : Int,
  ∀ v360 v361 v362 v363 v364 v365 v366 v367 v368 v369 v370 v371 v372 v373 v374 v375 v376 v377 v378 v379 v380 v381 v382 v383 v384 v385 v386 v387 v388 v389 v390 v391 v392 v393 v394 v395 v396 v397 v398 v399 v400 v401 v402 v403 v404 v405 v406 v407 v408 v409 v410 : Value,
  ∀ H411 : Heap,
  (I357 ([Value.int IntKind.i64 n359]) H411) →
  sB (decide (n359 < (↑x1n : Int))) (jn (α := VFH 0) (fun H413 =>
  ∀ v414 v415 v416 v417 v418 v419 v420 v421 v422 v423 v424 v425 v426 v427 v428 v429 v430 v431 v432 v433 v434 v435 v436 v437 v438 v439 v440 v441 v442 v443 v444 v445 v446 v447 v448 v449 v450 v451 v452 v453 v454 v455 v456 v457 v458 v459 v460 v461 v462 : Value,
  wr IntKind.i64 (n359 + 1) (fun n463 =>
  (I357 ([Value.int IntKind.i64 n463]) H413) ∧
  (I358 [Value.int IntKind.i64 n463] H413) < (I358 [Value.int IntKind.i64 n359] H411))) (fun k464 =>
  nz x1a (fun a465 =>
  ask ((0 : Int) ≤ n359 ∧ n359 < (↑x1n : Int)) (ld H411 (Addr.add a465 (Int.toNat n359 * 1)) (fun v466 =>
  dInt IntKind.i64 v466 (fun n467 =>
  HCalls Tryz.prog 32 #[Value.pointer p11] H411 (Sp.retK (fun v468 H469 =>
  dSl v468 (fun p470 r471 r472 =>
  sB (decide (n359 ≥ 30)) (k356 H469) (jn (α := VFH 1) (fun v473 H474 =>
  ∀ v475 v476 v477 v478 v479 v480 v481 : Value,
  dBl v473 (fun b482 =>
  sB b482 (wr IntKind.u64 n467 (fun n483 =>
  wr IntKind.u64 ((↑r471 : Int)) (fun n484 =>
  ask (n484 ≠ (0 : Int)) (nm (Int.tmod n483 n484) (fun n485 =>
  wr IntKind.i64 n485 (fun n486 =>
  nz p470 (fun a487 =>
  ask ((0 : Int) ≤ n486 ∧ n486 < (↑r471 : Int)) (ld H474 (Addr.add a487 (Int.toNat n486 * 1)) (fun v488 =>
  dInt IntKind.i64 v488 (fun n489 =>
  HCalls Tryz.prog 33 #[Value.pointer p11, Value.int IntKind.i64 n489] H474 (Sp.retK (fun v490 H491 =>
  dInt IntKind.i64 v490 (fun n492 =>
  sB (n492 != 0) (R (Ending.returned (Value.bool false)) H491) (k464 H491))) (pnR R)))))))))))) (HCalls Tryz.prog 34 #[Value.pointer p11] H474 (Sp.retK (fun v495 H496 =>
  dSl v495 (fun p497 r498 r499 =>
  sB (decide ((↑r498 : Int) > 0)) (wr IntKind.u64 n467 (fun n500 =>
  HCalls Tryz.prog 34 #[Value.pointer p11] H496 (Sp.retK (fun v501 H502 =>
  dSl v501 (fun p503 r504 r505 =>
  wr IntKind.u64 ((↑r504 : Int)) (fun n506 =>
  ask (n506 ≠ (0 : Int)) (nm (Int.tmod n500 n506) (fun n507 =>
  wr IntKind.i64 n507 (fun n508 =>
  ask ((2 : Int) ≠ (0 : Int)) (nm (Int.tmod n467 2) (fun n509 =>
  HCalls Tryz.prog 35 #[Value.pointer p11, Value.int IntKind.i64 n508, Value.bool (n509 == 0)] H502 (Sp.retK (fun v510 H511 =>
  dInt IntKind.i64 v510 (fun n512 =>
  k464 H511)) (pnR R)))))))))) (pnR R)))) (k464 H496))) (pnR R))))) (fun k519 =>
  sB (decide ((↑r471 : Int) > 0)) (ask ((3 : Int) ≠ (0 : Int)) (nm (Int.tmod n467 3) (fun n520 =>
  k519 (Value.bool (n520 != 0)) H469))) (k519 (Value.bool false) H469))))) (pnR R)))))))) (k356 H411)))) (fun k523 =>
  ∃ I524 : List Value → Heap → Prop,
  ∃ I525 : List Value → Heap → Nat,
  (I524 ([Value.slice none 0 0, Value.int IntKind.i64 0]) H14) ∧
  ∀ p526 : Option Addr,
  ∀ r527 : Nat,
  ∀ r528 : Nat,
  ∀ n529 : Int,
  ∀ v530 v531 v532 v533 v534 v535 v536 v537 v538 v539 v540 v541 v542 v543 v544 v545 v546 v547 v548 v549 v550 v551 v552 v553 v554 v555 v556 v557 v558 v559 v560 v561 v562 v563 v564 v565 v566 v567 v568 v569 v570 v571 v572 v573 v574 v575 v576 v577 v578 v579 v580 v581 v582 v583 v584 : Value,
  ∀ H585 : Heap,
  (I524 ([Value.slice p526 r527 r528, Value.int IntKind.i64 n529]) H585) →
  sB (decide (n529 < (↑x0n : Int))) (nz x0a (fun a587 =>
  ask ((0 : Int) ≤ n529 ∧ n529 < (↑x0n : Int)) (ld H585 (Addr.add a587 (Int.toNat n529 * 1)) (fun v588 =>
  dSl v588 (fun p589 r590 r591 =>
  sB (decide (n529 ≥ 60)) (k523 (Value.slice p526 r527 r528) H585) (∃ I592 : List Value → Heap → Prop,
  ∃ I593 : List Value → Heap → Nat,
  (I592 ([Value.slice none 0 0, Value.int IntKind.i64 0]) H585) ∧
  ∀ p594 : Option Addr,
  ∀ r595 : Nat,
  ∀ r596 : Nat,
  ∀ n597 : Int,
  ∀ v598 v599 v600 v601 v602 v603 v604 v605 v606 v607 v608 v609 v610 v611 v612 v613 v614 : Value,
  ∀ H615 : Heap,
  (I592 ([Value.slice p594 r595 r596, Value.int IntKind.i64 n597]) H615) →
  sB (decide (n597 < (↑r590 : Int))) (jn (α := VFH 1) (fun v617 H618 =>
  ∀ v619 v620 v621 v622 v623 v624 v625 v626 v627 v628 v629 v630 v631 v632 v633 : Value,
  dSl v617 (fun p634 r635 r636 =>
  wr IntKind.i64 (n597 + 1) (fun n637 =>
  (I592 ([Value.slice p634 r635 r636, Value.int IntKind.i64 n637]) H618) ∧
  (I593 [Value.slice p634 r635 r636, Value.int IntKind.i64 n637] H618) < (I593 [Value.slice p594 r595 r596, Value.int IntKind.i64 n597] H615)))) (fun k638 =>
  nz p589 (fun a639 =>
  ask ((0 : Int) ≤ n597 ∧ n597 < (↑r590 : Int)) (ld H615 (Addr.add a639 (Int.toNat n597 * 1)) (fun v640 =>
  dInt IntKind.i64 v640 (fun n641 =>
  sB (decide (n529 > 0)) (wr IntKind.u64 n641 (fun n642 =>
  wr IntKind.u64 n529 (fun n643 =>
  ask (n643 ≠ (0 : Int)) (nm (Int.tmod n642 n643) (fun n644 =>
  wr IntKind.i64 n644 (fun n645 =>
  wr IntKind.i64 (1 + n645) (fun n646 =>
  al H615 (Obj.cells #[Value.int IntKind.i64 n646] 3) (fun r647 H648 =>
  semW Tryz.prog (Builtin.append_ #[73, 73] 73 #[Value.slice p594 r595 r596, Value.slice (some (Addr.mk r647 0 none)) 1 1]) (pnR R) H648 (fun v651 H652 =>
  dSl v651 (fun p653 r654 r655 =>
  k638 (Value.slice p653 r654 r655) H652)))))))))) (k638 (Value.slice p594 r595 r596) H615))))))) (ask ((8 : Int) ≠ (0 : Int)) (nm (Int.tmod n529 8) (fun n656 =>
  al H615 (Obj.cells #[Value.int IntKind.u8 1] 5) (fun r657 H658 =>
  HCalls Tryz.prog 25 #[Value.pointer p11, Value.int IntKind.i64 n656, Value.int IntKind.i64 n529, Value.slice (some (Addr.mk r657 0 none)) 1 1, Value.slice p594 r595 r596] H658 (Sp.retK (fun v659 H660 =>
  dT 2 v659 (fun v661 v662 =>
  dInt IntKind.i64 v661 (fun n663 =>
  dInt IntKind.i64 v662 (fun n664 =>
  jn (α := VFH 1) (fun v665 H666 =>
  ∀ v667 v668 v669 v670 v671 v672 v673 : Value,
  dBl v665 (fun b674 =>
  sB b674 (R (Ending.returned (Value.bool false)) H666) (al H666 (Obj.cells #[Value.slice p594 r595 r596] 73) (fun r675 H676 =>
  semW Tryz.prog (Builtin.append_ #[84, 84] 84 #[Value.slice p526 r527 r528, Value.slice (some (Addr.mk r675 0 none)) 1 1]) (pnR R) H676 (fun v679 H680 =>
  dSl v679 (fun p681 r682 r683 =>
  wr IntKind.i64 (n529 + 1) (fun n684 =>
  (I524 ([Value.slice p681 r682 r683, Value.int IntKind.i64 n684]) H680) ∧
  (I525 [Value.slice p681 r682 r683, Value.int IntKind.i64 n684] H680) < (I525 [Value.slice p526 r527 r528, Value.int IntKind.i64 n529] H585)))))))) (fun k685 =>
  sB (n664 != 0) (k685 (Value.bool true) H660) (wr IntKind.i64 (n529 + 1) (fun n686 =>
  k685 (Value.bool (n663 != n686)) H660))))))) (pnR R)))))))))))) (k523 (Value.slice p526 r527 r528) H585))))) (fun k689 =>
  sB (n6 != 0) (k689 (Value.bool true) H8) (k689 (Value.bool (n12 != 0)) H8)))))) (pnR R)))))) (pnR R))
theorem F6_eq (x0a : Option Addr) (x0n : Nat) (x0c : Nat) (x1a : Option Addr) (x1n : Nat) (x1c : Nat) (x2 : Int) (R : Ending → Heap → Prop) (H : Heap) : F6 x0a x0n x0c x1a x1n x1c x2 R H = vc Tryz.prog (codeOf Tryz.f6) (.node none .leaf (.node none .leaf (.node none .leaf (.node none (.node (some ⟨[(44, 4)], [39, 40, 41, 42, 43]⟩) .leaf .leaf) (.node none .leaf (.node (some ⟨[(11, 84)], [6, 12, 13, 14, 16, 17, 18, 45, 46, 47, 48, 49, 50, 51, 52, 53, 54, 55, 56, 57, 58, 59, 60, 61, 62, 63, 64, 65, 66, 67, 68, 69, 70, 71, 72, 73, 74, 75, 76, 77, 78, 79, 80, 81, 82, 83, 84, 85, 86, 87, 88, 89, 90, 91, 92, 93, 94, 95]⟩) (.node none .leaf (.node none (.node (some ⟨[(11, 84), (47, 3)], [6, 12, 13, 14, 16, 17, 18, 48, 49, 50, 51, 52, 53, 54, 55, 56, 57, 58, 59, 60, 61, 62, 63, 64, 65, 66, 67, 68, 69, 70, 71, 72, 73, 74, 75, 76, 77, 78, 79, 80, 81, 82, 83, 84, 85, 86, 87, 88, 89, 90, 91, 92, 93, 94, 95]⟩) (.node none .leaf (.node none .leaf (.node none (.node none (.node none .leaf (.node none .leaf (.node none .leaf (.node none (.node none .leaf (.node none (.node (some ⟨[(14, 73), (56, 3)], [16, 57, 58, 59, 60, 61, 62, 63, 64, 65, 66, 67, 68, 69, 70, 71, 72]⟩) (.node none .leaf (.node none .leaf (.node (some ⟨[(14, 73)], [16, 58, 59, 60, 61, 62, 63, 64, 65, 66, 67, 68, 69, 70, 71]⟩) .leaf .leaf))) .leaf) .leaf)) (.node none (.node none .leaf (.node (some ⟨[(90, 4)], [83, 84, 85, 86, 87, 88, 89]⟩) .leaf .leaf)) .leaf))))) .leaf) .leaf))) .leaf) .leaf)) (.node (some ⟨[], [6, 19, 20, 21, 96, 97, 98, 99, 100, 101, 102, 103, 104, 105, 106, 107, 108, 109, 110, 111, 112, 113, 114, 115, 116, 117, 118, 119, 120, 121, 122, 123, 124, 125, 126, 127, 128, 129, 130, 131, 132, 133, 134, 135, 136, 137, 138, 139, 140, 141, 142, 143, 144, 145]⟩) (.node none .leaf (.node none (.node (some ⟨[(98, 3)], [6, 19, 20, 21, 99, 100, 101, 102, 103, 104, 105, 106, 107, 108, 109, 110, 111, 112, 113, 114, 115, 116, 117, 118, 119, 120, 121, 122, 123, 124, 125, 126, 127, 128, 129, 130, 131, 132, 133, 134, 135, 136, 137, 138, 139, 140, 141, 142, 143, 144, 145]⟩) (.node none .leaf (.node none .leaf (.node (some ⟨[], [6, 19, 20, 21, 100, 101, 102, 103, 104, 105, 106, 107, 108, 109, 110, 111, 112, 113, 114, 115, 116, 117, 118, 119, 120, 121, 122, 123, 124, 125, 126, 127, 128, 129, 130, 131, 132, 133, 134, 135, 136, 137, 138, 139, 140, 141, 142, 143, 144]⟩) (.node none (.node none .leaf (.node none .leaf (.node none .leaf (.node (some ⟨[(114, 4)], [107, 108, 109, 110, 111, 112, 113]⟩) .leaf .leaf)))) .leaf) .leaf))) .leaf) .leaf)) (.node none .leaf (.node none (.node none .leaf (.node none (.node (some ⟨[(22, 73), (149, 3)], [23, 24, 150, 151, 152, 153, 154, 155, 156, 157, 158, 159, 160, 161, 162, 163, 164]⟩) (.node none .leaf (.node none .leaf (.node (some ⟨[(22, 73)], [23, 24, 151, 152, 153, 154, 155, 156, 157, 158, 159, 160, 161, 162, 163]⟩) .leaf .leaf))) .leaf) .leaf)) (.node none .leaf (.node none .leaf (.node none (.node none .leaf (.node none (.node (some ⟨[(173, 3)], [6, 26, 27, 29, 174, 175, 176, 177, 178, 179, 180, 181, 182, 183, 184, 185, 186, 187, 188, 189, 190, 191, 192, 193, 194, 195, 196, 197, 198, 199, 200, 201, 202, 203, 204, 205]⟩) (.node none .leaf (.node none .leaf (.node (some ⟨[], [6, 26, 27, 29, 175, 176, 177, 178, 179, 180, 181, 182, 183, 184, 185, 186, 187, 188, 189, 190, 191, 192, 193, 194, 195, 196, 197, 198, 199, 200, 201, 202, 203, 204]⟩) (.node none (.node none .leaf (.node none .leaf (.node none .leaf (.node none (.node (some ⟨[(189, 3)], [6, 29, 190, 191, 192, 193, 194, 195, 196, 197, 198, 199, 200, 201, 202, 203, 204]⟩) .leaf .leaf) .leaf)))) .leaf) .leaf))) .leaf) .leaf)) .leaf)))))))))))) (postV Tryz.prog Tryz.f6 R) ⟨#[Value.slice x0a x0n x0c, Value.slice x1a x1n x1c, Value.int IntKind.u64 x2] ++ Array.replicate (Tryz.f6.ntmps - 3) undef, []⟩ H := by kernel_rfl
theorem F6_calls {R : Ending → Heap → Prop} {H : Heap} (x0a : Option Addr) (x0n : Nat) (x0c : Nat) (x1a : Option Addr) (x1n : Nat) (x1c : Nat) (x2 : Int) (h : F6 x0a x0n x0c x1a x1n x1c x2 R H) : HCalls Tryz.prog 6 #[Value.slice x0a x0n x0c, Value.slice x1a x1n x1c, Value.int IntKind.u64 x2] H R :=
  calls_by (F := F6 x0a x0n x0c x1a x1n x1c x2 R H) (.node none .leaf (.node none .leaf (.node none .leaf (.node none (.node (some ⟨[(44, 4)], [39, 40, 41, 42, 43]⟩) .leaf .leaf) (.node none .leaf (.node (some ⟨[(11, 84)], [6, 12, 13, 14, 16, 17, 18, 45, 46, 47, 48, 49, 50, 51, 52, 53, 54, 55, 56, 57, 58, 59, 60, 61, 62, 63, 64, 65, 66, 67, 68, 69, 70, 71, 72, 73, 74, 75, 76, 77, 78, 79, 80, 81, 82, 83, 84, 85, 86, 87, 88, 89, 90, 91, 92, 93, 94, 95]⟩) (.node none .leaf (.node none (.node (some ⟨[(11, 84), (47, 3)], [6, 12, 13, 14, 16, 17, 18, 48, 49, 50, 51, 52, 53, 54, 55, 56, 57, 58, 59, 60, 61, 62, 63, 64, 65, 66, 67, 68, 69, 70, 71, 72, 73, 74, 75, 76, 77, 78, 79, 80, 81, 82, 83, 84, 85, 86, 87, 88, 89, 90, 91, 92, 93, 94, 95]⟩) (.node none .leaf (.node none .leaf (.node none (.node none (.node none .leaf (.node none .leaf (.node none .leaf (.node none (.node none .leaf (.node none (.node (some ⟨[(14, 73), (56, 3)], [16, 57, 58, 59, 60, 61, 62, 63, 64, 65, 66, 67, 68, 69, 70, 71, 72]⟩) (.node none .leaf (.node none .leaf (.node (some ⟨[(14, 73)], [16, 58, 59, 60, 61, 62, 63, 64, 65, 66, 67, 68, 69, 70, 71]⟩) .leaf .leaf))) .leaf) .leaf)) (.node none (.node none .leaf (.node (some ⟨[(90, 4)], [83, 84, 85, 86, 87, 88, 89]⟩) .leaf .leaf)) .leaf))))) .leaf) .leaf))) .leaf) .leaf)) (.node (some ⟨[], [6, 19, 20, 21, 96, 97, 98, 99, 100, 101, 102, 103, 104, 105, 106, 107, 108, 109, 110, 111, 112, 113, 114, 115, 116, 117, 118, 119, 120, 121, 122, 123, 124, 125, 126, 127, 128, 129, 130, 131, 132, 133, 134, 135, 136, 137, 138, 139, 140, 141, 142, 143, 144, 145]⟩) (.node none .leaf (.node none (.node (some ⟨[(98, 3)], [6, 19, 20, 21, 99, 100, 101, 102, 103, 104, 105, 106, 107, 108, 109, 110, 111, 112, 113, 114, 115, 116, 117, 118, 119, 120, 121, 122, 123, 124, 125, 126, 127, 128, 129, 130, 131, 132, 133, 134, 135, 136, 137, 138, 139, 140, 141, 142, 143, 144, 145]⟩) (.node none .leaf (.node none .leaf (.node (some ⟨[], [6, 19, 20, 21, 100, 101, 102, 103, 104, 105, 106, 107, 108, 109, 110, 111, 112, 113, 114, 115, 116, 117, 118, 119, 120, 121, 122, 123, 124, 125, 126, 127, 128, 129, 130, 131, 132, 133, 134, 135, 136, 137, 138, 139, 140, 141, 142, 143, 144]⟩) (.node none (.node none .leaf (.node none .leaf (.node none .leaf (.node (some ⟨[(114, 4)], [107, 108, 109, 110, 111, 112, 113]⟩) .leaf .leaf)))) .leaf) .leaf))) .leaf) .leaf)) (.node none .leaf (.node none (.node none .leaf (.node none (.node (some ⟨[(22, 73), (149, 3)], [23, 24, 150, 151, 152, 153, 154, 155, 156, 157, 158, 159, 160, 161, 162, 163, 164]⟩) (.node none .leaf (.node none .leaf (.node (some ⟨[(22, 73)], [23, 24, 151, 152, 153, 154, 155, 156, 157, 158, 159, 160, 161, 162, 163]⟩) .leaf .leaf))) .leaf) .leaf)) (.node none .leaf (.node none .leaf (.node none (.node none .leaf (.node none (.node (some ⟨[(173, 3)], [6, 26, 27, 29, 174, 175, 176, 177, 178, 179, 180, 181, 182, 183, 184, 185, 186, 187, 188, 189, 190, 191, 192, 193, 194, 195, 196, 197, 198, 199, 200, 201, 202, 203, 204, 205]⟩) (.node none .leaf (.node none .leaf (.node (some ⟨[], [6, 26, 27, 29, 175, 176, 177, 178, 179, 180, 181, 182, 183, 184, 185, 186, 187, 188, 189, 190, 191, 192, 193, 194, 195, 196, 197, 198, 199, 200, 201, 202, 203, 204]⟩) (.node none (.node none .leaf (.node none .leaf (.node none .leaf (.node none (.node (some ⟨[(189, 3)], [6, 29, 190, 191, 192, 193, 194, 195, 196, 197, 198, 199, 200, 201, 202, 203, 204]⟩) .leaf .leaf) .leaf)))) .leaf) .leaf))) .leaf) .leaf)) .leaf)))))))))))) Tryz.func6 rfl (F6_eq x0a x0n x0c x1a x1n x1c x2 R H) h
end Go.Proofs.YtngploohhmfaiaaGreat.E
/- The functions' forms in the engine's words, printed by my own program. -/
namespace Go.Proofs.YtngploohhmfaiaaGreat.E
open Go Go.Proofs
set_option linter.unusedVariables false
/-- (*bollard/patch.Set).over -/
def F189 (x0 : Option Addr) (x1a : Option Addr) (x1n : Nat) (x1c : Nat) (x2a : Option Addr) (x2n : Nat) (x2c : Nat) (R : Ending → Heap → Prop) (H : Heap) : Prop :=
  HCalls Tryz.prog 107 #[Value.slice x1a x1n x1c] H (Sp.retK (fun v1 H2 =>
  dSl v1 (fun p3 r4 r5 =>
  ∃ I6 : List Value → Heap → Prop,
  ∃ I7 : List Value → Heap → Nat,
  (I6 ([Value.int IntKind.i64 0]) H2) ∧
  ∀ n8 : Int,
  ∀ v9 v10 v11 v12 v13 v14 v15 v16 v17 v18 v19 v20 v21 v22 v23 v24 v25 v26 v27 : Value,
  ∀ H28 : Heap,
  (I6 ([Value.int IntKind.i64 n8]) H28) →
  sB (decide (n8 < (↑x2n : Int))) (nz x2a (fun a30 =>
  ask ((0 : Int) ≤ n8 ∧ n8 < (↑x2n : Int)) (ld H28 (Addr.add a30 (Int.toNat n8 * 1)) (fun v31 =>
  dInt IntKind.i64 v31 (fun n32 =>
  nz x0 (fun a33 =>
  ld H28 (Addr.add a33 2) (fun v34 =>
  dMap v34 (fun p35 =>
  semW Tryz.prog (Instr.lookup 190 (Value.map p35) (Value.int IntKind.i64 n32) false) (pnR R) H28 (fun v38 H39 =>
  dA 5 v38 (fun v40 v41 v42 v43 v44 =>
  al H39 (Obj.cells #[Value.int IntKind.i64 0, Value.int IntKind.i64 0, Value.int IntKind.i64 0, Value.slice none 0 0, Value.slice none 0 0] 194) (fun r45 H46 =>
  st H46 (Addr.mk r45 0 none) v40 (fun H47 =>
  st H47 (Addr.mk r45 1 none) v41 (fun H48 =>
  st H48 (Addr.mk r45 2 none) v42 (fun H49 =>
  st H49 (Addr.mk r45 3 none) v43 (fun H50 =>
  st H50 (Addr.mk r45 4 none) v44 (fun H51 =>
  ld H51 (Addr.mk r45 2 none) (fun v52 =>
  dInt IntKind.i64 v52 (fun n53 =>
  ask ((0 : Int) ≤ n53 ∧ n53 ≤ (↑r4 : Int) ∧ (↑r4 : Int) ≤ (↑r5 : Int) ∧ (↑r5 : Int) ≤ (↑r5 : Int)) (ld H51 (Addr.mk r45 3 none) (fun v54 =>
  dSl v54 (fun p55 r56 r57 =>
  semW Tryz.prog (Builtin.copy_ #[38, 38] 3 #[Value.slice (slO p3 1 n53 (↑r5 : Int)) (Int.toNat (↑r4 : Int) - Int.toNat n53) (Int.toNat (↑r5 : Int) - Int.toNat n53), Value.slice p55 r56 r57]) nopR H51 (fun v60 H61 =>
  dInt IntKind.i64 v60 (fun n62 =>
  wr IntKind.i64 (n8 + 1) (fun n63 =>
  (I6 ([Value.int IntKind.i64 n63]) H61) ∧
  (I7 [Value.int IntKind.i64 n63] H61) < (I7 [Value.int IntKind.i64 n8] H28))))))))))))))))))))))))) (R (Ending.returned (Value.slice p3 r4 r5)) H28))) (pnR R))
theorem F189_eq (x0 : Option Addr) (x1a : Option Addr) (x1n : Nat) (x1c : Nat) (x2a : Option Addr) (x2n : Nat) (x2c : Nat) (R : Ending → Heap → Prop) (H : Heap) : F189 x0 x1a x1n x1c x2a x2n x2c R H = vc Tryz.prog (codeOf Tryz.f189) (.node none .leaf (.node none .leaf (.node none (.node none .leaf (.node none (.node (some ⟨[(15, 3)], [9, 10, 16, 17, 18, 19, 20, 21, 22, 23, 24, 25, 26, 27, 28, 29, 30, 31, 32]⟩) .leaf .leaf) .leaf)) .leaf))) (postV Tryz.prog Tryz.f189 R) ⟨#[Value.pointer x0, Value.slice x1a x1n x1c, Value.slice x2a x2n x2c] ++ Array.replicate (Tryz.f189.ntmps - 3) undef, []⟩ H := by kernel_rfl
theorem F189_calls {R : Ending → Heap → Prop} {H : Heap} (x0 : Option Addr) (x1a : Option Addr) (x1n : Nat) (x1c : Nat) (x2a : Option Addr) (x2n : Nat) (x2c : Nat) (h : F189 x0 x1a x1n x1c x2a x2n x2c R H) : HCalls Tryz.prog 189 #[Value.pointer x0, Value.slice x1a x1n x1c, Value.slice x2a x2n x2c] H R :=
  calls_by (F := F189 x0 x1a x1n x1c x2a x2n x2c R H) (.node none .leaf (.node none .leaf (.node none (.node none .leaf (.node none (.node (some ⟨[(15, 3)], [9, 10, 16, 17, 18, 19, 20, 21, 22, 23, 24, 25, 26, 27, 28, 29, 30, 31, 32]⟩) .leaf .leaf) .leaf)) .leaf))) Tryz.func189 rfl (F189_eq x0 x1a x1n x1c x2a x2n x2c R H) h
/-- (*bollard/patch.Set).free -/
def F192 (x0 : Option Addr) (x1 : Int) (R : Ending → Heap → Prop) (H : Heap) : Prop :=
  al H (Obj.cells #[Value.slice none 0 0] 73) (fun r1 H2 =>
  HCalls Tryz.prog 112 #[Value.pointer x0, Value.int IntKind.i64 x1] H2 (Sp.retK (fun v3 H4 =>
  dSl v3 (fun p5 r6 r7 =>
  ∃ I8 : List Value → Heap → Prop,
  ∃ I9 : List Value → Heap → Nat,
  (I8 ([Value.int IntKind.i64 0]) H4) ∧
  ∀ n10 : Int,
  ∀ v11 v12 v13 v14 v15 v16 v17 v18 v19 v20 v21 v22 v23 v24 v25 v26 v27 v28 v29 v30 v31 v32 v33 v34 v35 : Value,
  ∀ H36 : Heap,
  (I8 ([Value.int IntKind.i64 n10]) H36) →
  sB (decide (n10 < (↑r6 : Int))) (jn (α := VFH 0) (fun H38 =>
  ∀ v39 v40 v41 v42 v43 v44 v45 v46 v47 v48 v49 v50 v51 v52 v53 v54 v55 v56 v57 v58 v59 v60 v61 : Value,
  wr IntKind.i64 (n10 + 1) (fun n62 =>
  (I8 ([Value.int IntKind.i64 n62]) H38) ∧
  (I9 [Value.int IntKind.i64 n62] H38) < (I9 [Value.int IntKind.i64 n10] H36))) (fun k63 =>
  nz p5 (fun a64 =>
  ask ((0 : Int) ≤ n10 ∧ n10 < (↑r6 : Int)) (ld H36 (Addr.add a64 (Int.toNat n10 * 1)) (fun v65 =>
  dInt IntKind.i64 v65 (fun n66 =>
  nz x0 (fun a67 =>
  ld H36 (Addr.add a67 2) (fun v68 =>
  dMap v68 (fun p69 =>
  semW Tryz.prog (Instr.lookup 190 (Value.map p69) (Value.int IntKind.i64 n66) false) (pnR R) H36 (fun v72 H73 =>
  dA 5 v72 (fun v74 v75 v76 v77 v78 =>
  dSl v78 (fun p79 r80 r81 =>
  HCalls Tryz.prog 133 #[Value.pointer x0, Value.slice p79 r80 r81] H73 (Sp.retK (fun v82 H83 =>
  dSl v82 (fun p84 r85 r86 =>
  HCalls Tryz.prog 88 #[Value.slice p84 r85 r86, Value.func (Fn.func 233) #[] #[Value.pointer (some (Addr.mk r1 0 none))]] H83 (Sp.retK (fun v87 H88 =>
  dBl v87 (fun b89 =>
  sB (!b89) (ld H88 (Addr.mk r1 0 none) (fun v90 =>
  dSl v90 (fun p91 r92 r93 =>
  al H88 (Obj.cells #[Value.int IntKind.i64 n66] 3) (fun r94 H95 =>
  semW Tryz.prog (Builtin.append_ #[73, 73] 73 #[Value.slice p91 r92 r93, Value.slice (some (Addr.mk r94 0 none)) 1 1]) (pnR R) H95 (fun v98 H99 =>
  dSl v98 (fun p100 r101 r102 =>
  st H99 (Addr.mk r1 0 none) (Value.slice p100 r101 r102) (fun H103 =>
  k63 H103))))))) (k63 H88))) (pnR R)))) (pnR R)))))))))))))) (ld H36 (Addr.mk r1 0 none) (fun v108 =>
  dSl v108 (fun p109 r110 r111 =>
  R (Ending.returned (Value.slice p109 r110 r111)) H36))))) (pnR R)))
theorem F192_eq (x0 : Option Addr) (x1 : Int) (R : Ending → Heap → Prop) (H : Heap) : F192 x0 x1 R H = vc Tryz.prog (codeOf Tryz.f192) (.node none .leaf (.node none .leaf (.node none (.node none .leaf (.node none (.node (some ⟨[(14, 3)], [7, 8, 9, 15, 16, 17, 18, 19, 20, 21, 22, 23, 24, 25, 26, 27, 28, 29, 30, 31, 32, 33, 34, 35, 36]⟩) (.node none .leaf (.node none .leaf (.node (some ⟨[], [7, 8, 9, 16, 17, 18, 19, 20, 21, 22, 23, 24, 25, 26, 27, 28, 29, 30, 31, 32, 33, 34, 35]⟩) .leaf .leaf))) .leaf) .leaf)) .leaf))) (postV Tryz.prog Tryz.f192 R) ⟨#[Value.pointer x0, Value.int IntKind.i64 x1] ++ Array.replicate (Tryz.f192.ntmps - 2) undef, []⟩ H := by kernel_rfl
theorem F192_calls {R : Ending → Heap → Prop} {H : Heap} (x0 : Option Addr) (x1 : Int) (h : F192 x0 x1 R H) : HCalls Tryz.prog 192 #[Value.pointer x0, Value.int IntKind.i64 x1] H R :=
  calls_by (F := F192 x0 x1 R H) (.node none .leaf (.node none .leaf (.node none (.node none .leaf (.node none (.node (some ⟨[(14, 3)], [7, 8, 9, 15, 16, 17, 18, 19, 20, 21, 22, 23, 24, 25, 26, 27, 28, 29, 30, 31, 32, 33, 34, 35, 36]⟩) (.node none .leaf (.node none .leaf (.node (some ⟨[], [7, 8, 9, 16, 17, 18, 19, 20, 21, 22, 23, 24, 25, 26, 27, 28, 29, 30, 31, 32, 33, 34, 35]⟩) .leaf .leaf))) .leaf) .leaf)) .leaf))) Tryz.func192 rfl (F192_eq x0 x1 R H) h
/-- (*bollard/disk.Disk).look -/
def F193 (x0 : Option Addr) (x1 : Int) (R : Ending → Heap → Prop) (H : Heap) : Prop :=
  HCalls Tryz.prog 87 #[Value.pointer x0] H (Sp.retK (fun v1 H2 =>
  dBl v1 (fun b3 =>
  sB (!b3) (R (Ending.returned (Value.int IntKind.i64 2)) H2) (jn (α := VFH 1) (fun v4 H5 =>
  ∀ v6 v7 v8 v9 v10 v11 v12 v13 v14 v15 : Value,
  dBl v4 (fun b16 =>
  sB b16 (R (Ending.returned (Value.int IntKind.i64 1)) H5) (R (Ending.returned (Value.int IntKind.i64 0)) H5))) (fun k17 =>
  sB (decide (x1 < 0)) (k17 (Value.bool true) H2) (nz x0 (fun a18 =>
  ld H2 a18 (fun v19 =>
  dSl v19 (fun p20 r21 r22 =>
  k17 (Value.bool (decide (x1 ≥ (↑r21 : Int)))) H2)))))))) (pnR R))
theorem F193_eq (x0 : Option Addr) (x1 : Int) (R : Ending → Heap → Prop) (H : Heap) : F193 x0 x1 R H = vc Tryz.prog (codeOf Tryz.f193) (.node none .leaf (.node none .leaf (.node none (.node (some ⟨[(18, 4)], [8, 9, 10, 11, 12, 13, 14, 15, 16, 17]⟩) .leaf .leaf) .leaf))) (postV Tryz.prog Tryz.f193 R) ⟨#[Value.pointer x0, Value.int IntKind.i64 x1] ++ Array.replicate (Tryz.f193.ntmps - 2) undef, []⟩ H := by kernel_rfl
theorem F193_calls {R : Ending → Heap → Prop} {H : Heap} (x0 : Option Addr) (x1 : Int) (h : F193 x0 x1 R H) : HCalls Tryz.prog 193 #[Value.pointer x0, Value.int IntKind.i64 x1] H R :=
  calls_by (F := F193 x0 x1 R H) (.node none .leaf (.node none .leaf (.node none (.node (some ⟨[(18, 4)], [8, 9, 10, 11, 12, 13, 14, 15, 16, 17]⟩) .leaf .leaf) .leaf))) Tryz.func193 rfl (F193_eq x0 x1 R H) h
/-- slices.ContainsFunc[[]bollard/api.Sent,bollard/api.Sent] -/
def F194 (x0a : Option Addr) (x0n : Nat) (x0c : Nat) (x1g : Nat) (x1f : Array Value) (x1c : Array Value) (R : Ending → Heap → Prop) (H : Heap) : Prop :=
  HCalls Tryz.prog 149 #[Value.slice x0a x0n x0c, Value.func (Fn.func x1g) x1f x1c] H (Sp.retK (fun v1 H2 =>
  dInt IntKind.i64 v1 (fun n3 =>
  R (Ending.returned (Value.bool (decide (n3 ≥ 0)))) H2)) (pnR R))
theorem F194_eq (x0a : Option Addr) (x0n : Nat) (x0c : Nat) (x1g : Nat) (x1f : Array Value) (x1c : Array Value) (R : Ending → Heap → Prop) (H : Heap) : F194 x0a x0n x0c x1g x1f x1c R H = vc Tryz.prog (codeOf Tryz.f194) .leaf (postV Tryz.prog Tryz.f194 R) ⟨#[Value.slice x0a x0n x0c, Value.func (Fn.func x1g) x1f x1c] ++ Array.replicate (Tryz.f194.ntmps - 2) undef, []⟩ H := by kernel_rfl
theorem F194_calls {R : Ending → Heap → Prop} {H : Heap} (x0a : Option Addr) (x0n : Nat) (x0c : Nat) (x1g : Nat) (x1f : Array Value) (x1c : Array Value) (h : F194 x0a x0n x0c x1g x1f x1c R H) : HCalls Tryz.prog 194 #[Value.slice x0a x0n x0c, Value.func (Fn.func x1g) x1f x1c] H R :=
  calls_by (F := F194 x0a x0n x0c x1g x1f x1c R H) .leaf Tryz.func194 rfl (F194_eq x0a x0n x0c x1g x1f x1c R H) h
/-- (*bollard/disk.Disk).Write$1 -/
def F195 (x0_0 : Value) (x0_1 : Value) (x0_2 : Value) (f0 : Addr) (R : Ending → Heap → Prop) (H : Heap) : Prop :=
  al H (Obj.cells #[x0_0, x0_1, x0_2] 96) (fun r1 H2 =>
  ld H2 (Addr.mk r1 1 none) (fun v3 =>
  dInt IntKind.i64 v3 (fun n4 =>
  ld H2 f0 (fun v5 =>
  dInt IntKind.i64 v5 (fun n6 =>
  R (Ending.returned (Value.bool (n4 == n6))) H2)))))
theorem F195_eq (x0_0 : Value) (x0_1 : Value) (x0_2 : Value) (f0 : Addr) (R : Ending → Heap → Prop) (H : Heap) : F195 x0_0 x0_1 x0_2 f0 R H = vc Tryz.prog (codeOf Tryz.f195) .leaf (postV Tryz.prog Tryz.f195 R) ⟨#[Value.agg #[x0_0, x0_1, x0_2], Value.pointer (some f0)] ++ Array.replicate (Tryz.f195.ntmps - 2) undef, []⟩ H := by kernel_rfl
theorem F195_calls {R : Ending → Heap → Prop} {H : Heap} (x0_0 : Value) (x0_1 : Value) (x0_2 : Value) (f0 : Addr) (h : F195 x0_0 x0_1 x0_2 f0 R H) : HCalls Tryz.prog 195 #[Value.agg #[x0_0, x0_1, x0_2], Value.pointer (some f0)] H R :=
  calls_by (F := F195 x0_0 x0_1 x0_2 f0 R H) .leaf Tryz.func195 rfl (F195_eq x0_0 x0_1 x0_2 f0 R H) h
/-- slices.Delete[[]bollard/api.Sent,bollard/api.Sent] -/
def F196 (x0a : Option Addr) (x0n : Nat) (x0c : Nat) (x1 : Int) (x2 : Int) (R : Ending → Heap → Prop) (H : Heap) : Prop :=
  ask ((0 : Int) ≤ x1 ∧ x1 ≤ x2 ∧ x2 ≤ (↑x0n : Int) ∧ (↑x0n : Int) ≤ (↑x0c : Int)) (sB (x1 == x2) (R (Ending.returned (Value.slice x0a x0n x0c)) H) (ask ((0 : Int) ≤ (0 : Int) ∧ (0 : Int) ≤ x1 ∧ x1 ≤ (↑x0c : Int) ∧ (↑x0c : Int) ≤ (↑x0c : Int)) (ask ((0 : Int) ≤ x2 ∧ x2 ≤ (↑x0n : Int) ∧ (↑x0n : Int) ≤ (↑x0c : Int) ∧ (↑x0c : Int) ≤ (↑x0c : Int)) (semW Tryz.prog (Builtin.append_ #[93, 93] 93 #[Value.slice (slO x0a 3 0 (↑x0c : Int)) (Int.toNat x1 - Int.toNat 0) (Int.toNat (↑x0c : Int) - Int.toNat 0), Value.slice (slO x0a 3 x2 (↑x0c : Int)) (Int.toNat (↑x0n : Int) - Int.toNat x2) (Int.toNat (↑x0c : Int) - Int.toNat x2)]) nopR H (fun v3 H4 =>
  dSl v3 (fun p5 r6 r7 =>
  ask ((0 : Int) ≤ (↑r6 : Int) ∧ (↑r6 : Int) ≤ (↑x0n : Int) ∧ (↑x0n : Int) ≤ (↑r7 : Int) ∧ (↑r7 : Int) ≤ (↑r7 : Int)) (semW Tryz.prog (Builtin.clear_ #[93] 0 #[Value.slice (slO p5 3 (↑r6 : Int) (↑r7 : Int)) (Int.toNat (↑x0n : Int) - Int.toNat (↑r6 : Int)) (Int.toNat (↑r7 : Int) - Int.toNat (↑r6 : Int))]) (pnR R) H4 (fun v10 H11 =>
  R (Ending.returned (Value.slice p5 r6 r7)) H11))))))))
theorem F196_eq (x0a : Option Addr) (x0n : Nat) (x0c : Nat) (x1 : Int) (x2 : Int) (R : Ending → Heap → Prop) (H : Heap) : F196 x0a x0n x0c x1 x2 R H = vc Tryz.prog (codeOf Tryz.f196) .leaf (postV Tryz.prog Tryz.f196 R) ⟨#[Value.slice x0a x0n x0c, Value.int IntKind.i64 x1, Value.int IntKind.i64 x2] ++ Array.replicate (Tryz.f196.ntmps - 3) undef, []⟩ H := by kernel_rfl
theorem F196_calls {R : Ending → Heap → Prop} {H : Heap} (x0a : Option Addr) (x0n : Nat) (x0c : Nat) (x1 : Int) (x2 : Int) (h : F196 x0a x0n x0c x1 x2 R H) : HCalls Tryz.prog 196 #[Value.slice x0a x0n x0c, Value.int IntKind.i64 x1, Value.int IntKind.i64 x2] H R :=
  calls_by (F := F196 x0a x0n x0c x1 x2 R H) .leaf Tryz.func196 rfl (F196_eq x0a x0n x0c x1 x2 R H) h
/-- (*bollard/cache.Cache).look -/
def F197 (x0 : Option Addr) (x1 : Int) (R : Ending → Heap → Prop) (H : Heap) : Prop :=
  jn (α := VFH 1) (fun v1 H2 =>
  ∀ v3 v4 v5 v6 v7 v8 v9 v10 : Value,
  dBl v1 (fun b11 =>
  sB b11 (R (Ending.returned (Value.int IntKind.i64 2)) H2) (jn (α := VFH 1) (fun v12 H13 =>
  ∀ v14 v15 v16 v17 v18 v19 v20 v21 v22 v23 : Value,
  dBl v12 (fun b24 =>
  sB b24 (R (Ending.returned (Value.int IntKind.i64 1)) H13) (R (Ending.returned (Value.int IntKind.i64 0)) H13))) (fun k25 =>
  sB (decide (x1 < 0)) (k25 (Value.bool true) H2) (nz x0 (fun a26 =>
  ld H2 a26 (fun v27 =>
  dPtr v27 (fun p28 =>
  HCalls Tryz.prog 70 #[Value.pointer p28] H2 (Sp.retK (fun v29 H30 =>
  dInt IntKind.i64 v29 (fun n31 =>
  k25 (Value.bool (decide (x1 ≥ n31))) H30)) (pnR R)))))))))) (fun k34 =>
  sB (Option.isNone x0) (k34 (Value.bool true) H) (nz x0 (fun a35 =>
  ld H (Addr.add a35 2) (fun v36 =>
  dMap v36 (fun p37 =>
  k34 (Value.bool (Option.isNone p37)) H)))))
theorem F197_eq (x0 : Option Addr) (x1 : Int) (R : Ending → Heap → Prop) (H : Heap) : F197 x0 x1 R H = vc Tryz.prog (codeOf Tryz.f197) (.node none .leaf (.node none (.node (some ⟨[(13, 4)], [5, 6, 7, 8, 9, 10, 11, 12]⟩) .leaf .leaf) (.node none (.node (some ⟨[(24, 4)], [14, 15, 16, 17, 18, 19, 20, 21, 22, 23]⟩) .leaf .leaf) .leaf))) (postV Tryz.prog Tryz.f197 R) ⟨#[Value.pointer x0, Value.int IntKind.i64 x1] ++ Array.replicate (Tryz.f197.ntmps - 2) undef, []⟩ H := by kernel_rfl
theorem F197_calls {R : Ending → Heap → Prop} {H : Heap} (x0 : Option Addr) (x1 : Int) (h : F197 x0 x1 R H) : HCalls Tryz.prog 197 #[Value.pointer x0, Value.int IntKind.i64 x1] H R :=
  calls_by (F := F197 x0 x1 R H) (.node none .leaf (.node none (.node (some ⟨[(13, 4)], [5, 6, 7, 8, 9, 10, 11, 12]⟩) .leaf .leaf) (.node none (.node (some ⟨[(24, 4)], [14, 15, 16, 17, 18, 19, 20, 21, 22, 23]⟩) .leaf .leaf) .leaf))) Tryz.func197 rfl (F197_eq x0 x1 R H) h
/-- (*bollard/patch.Set).Done$1 -/
def F198 (x0 : Int) (f0 : Addr) (R : Ending → Heap → Prop) (H : Heap) : Prop :=
  ld H f0 (fun v1 =>
  dPtr v1 (fun p2 =>
  HCalls Tryz.prog 130 #[Value.pointer p2, Value.int IntKind.i64 x0] H (Sp.retK (fun v3 H4 =>
  dBl v3 (fun b5 =>
  R (Ending.returned (Value.bool !b5)) H4)) (pnR R))))
theorem F198_eq (x0 : Int) (f0 : Addr) (R : Ending → Heap → Prop) (H : Heap) : F198 x0 f0 R H = vc Tryz.prog (codeOf Tryz.f198) .leaf (postV Tryz.prog Tryz.f198 R) ⟨#[Value.int IntKind.i64 x0, Value.pointer (some f0)] ++ Array.replicate (Tryz.f198.ntmps - 2) undef, []⟩ H := by kernel_rfl
theorem F198_calls {R : Ending → Heap → Prop} {H : Heap} (x0 : Int) (f0 : Addr) (h : F198 x0 f0 R H) : HCalls Tryz.prog 198 #[Value.int IntKind.i64 x0, Value.pointer (some f0)] H R :=
  calls_by (F := F198 x0 f0 R H) .leaf Tryz.func198 rfl (F198_eq x0 f0 R H) h
end Go.Proofs.YtngploohhmfaiaaGreat.E
/- The functions' forms in the engine's words, printed by my own program. -/
namespace Go.Proofs.YtngploohhmfaiaaGreat.E
open Go Go.Proofs
set_option linter.unusedVariables false
/-- slices.Index[[]int,int] -/
def F218 (x0a : Option Addr) (x0n : Nat) (x0c : Nat) (x1 : Int) (R : Ending → Heap → Prop) (H : Heap) : Prop :=
  ∃ I1 : List Value → Heap → Prop,
  ∃ I2 : List Value → Heap → Nat,
  (I1 ([Value.int IntKind.i64 0]) H) ∧
  ∀ n3 : Int,
  ∀ v4 v5 v6 v7 v8 v9 v10 v11 v12 v13 v14 v15 : Value,
  ∀ H16 : Heap,
  (I1 ([Value.int IntKind.i64 n3]) H16) →
  sB (decide (n3 < (↑x0n : Int))) (nz x0a (fun a18 =>
  ask ((0 : Int) ≤ n3 ∧ n3 < (↑x0n : Int)) (ld H16 (Addr.add a18 (Int.toNat n3 * 1)) (fun v19 =>
  dInt IntKind.i64 v19 (fun n20 =>
  sB (x1 == n20) (R (Ending.returned (Value.int IntKind.i64 n3)) H16) (wr IntKind.i64 (n3 + 1) (fun n21 =>
  (I1 ([Value.int IntKind.i64 n21]) H16) ∧
  (I2 [Value.int IntKind.i64 n21] H16) < (I2 [Value.int IntKind.i64 n3] H16)))))))) (R (Ending.returned (Value.int IntKind.i64 (-1))) H16)
theorem F218_eq (x0a : Option Addr) (x0n : Nat) (x0c : Nat) (x1 : Int) (R : Ending → Heap → Prop) (H : Heap) : F218 x0a x0n x0c x1 R H = vc Tryz.prog (codeOf Tryz.f218) (.node none .leaf (.node none (.node none .leaf (.node none (.node (some ⟨[(8, 3)], [4, 5, 9, 10, 11, 12, 13, 14, 15, 16, 17, 18]⟩) .leaf .leaf) .leaf)) .leaf)) (postV Tryz.prog Tryz.f218 R) ⟨#[Value.slice x0a x0n x0c, Value.int IntKind.i64 x1] ++ Array.replicate (Tryz.f218.ntmps - 2) undef, []⟩ H := by kernel_rfl
theorem F218_calls {R : Ending → Heap → Prop} {H : Heap} (x0a : Option Addr) (x0n : Nat) (x0c : Nat) (x1 : Int) (h : F218 x0a x0n x0c x1 R H) : HCalls Tryz.prog 218 #[Value.slice x0a x0n x0c, Value.int IntKind.i64 x1] H R :=
  calls_by (F := F218 x0a x0n x0c x1 R H) (.node none .leaf (.node none (.node none .leaf (.node none (.node (some ⟨[(8, 3)], [4, 5, 9, 10, 11, 12, 13, 14, 15, 16, 17, 18]⟩) .leaf .leaf) .leaf)) .leaf)) Tryz.func218 rfl (F218_eq x0a x0n x0c x1 R H) h
/-- maps.Keys[map[int]bollard/api.Patch,int,bollard/api.Patch] -/
def F219 (x0 : Option Nat) (R : Ending → Heap → Prop) (H : Heap) : Prop :=
  al H (Obj.cells #[Value.map x0] 190) (fun r1 H2 =>
  R (Ending.returned (Value.func (Fn.func 259) #[] #[Value.pointer (some (Addr.mk r1 0 none))])) H2)
theorem F219_eq (x0 : Option Nat) (R : Ending → Heap → Prop) (H : Heap) : F219 x0 R H = vc Tryz.prog (codeOf Tryz.f219) .leaf (postV Tryz.prog Tryz.f219 R) ⟨#[Value.map x0] ++ Array.replicate (Tryz.f219.ntmps - 1) undef, []⟩ H := by kernel_rfl
theorem F219_calls {R : Ending → Heap → Prop} {H : Heap} (x0 : Option Nat) (h : F219 x0 R H) : HCalls Tryz.prog 219 #[Value.map x0] H R :=
  calls_by (F := F219 x0 R H) .leaf Tryz.func219 rfl (F219_eq x0 R H) h
/-- (*bollard/cache.Cache).load -/
def F231 (x0 : Option Addr) (x1 : Int) (R : Ending → Heap → Prop) (H : Heap) : Prop :=
  nz x0 (fun a1 =>
  ld H (Addr.add a1 2) (fun v2 =>
  dMap v2 (fun p3 =>
  nz x0 (fun a4 =>
  ld H (Addr.add a4 1) (fun v5 =>
  dInt IntKind.i64 v5 (fun n6 =>
  semW Tryz.prog (Builtin.len_ #[201] 3 #[Value.map p3]) nopR H (fun v9 H10 =>
  dInt IntKind.i64 v9 (fun n11 =>
  (ld H10 (Addr.add a4 1) (fun v12 =>
  dInt IntKind.i64 v12 (fun n13 =>
  (Value.int IntKind.i64 n13) = (Value.int IntKind.i64 n6)))) ∧
  HCalls Tryz.prog 265 #[Value.pointer x0] H10 (Sp.retK (fun v14 H15 =>
  dT 2 v14 (fun v16 v17 =>
  dInt IntKind.i64 v16 (fun n18 =>
  dBl v17 (fun b19 =>
  jn (α := VFH 1) (fun v20 H21 =>
  ∀ v22 v23 v24 v25 : Value,
  dBl v20 (fun b26 =>
  sB b26 (R (Ending.returned (Value.tuple #[Value.pointer none, Value.int IntKind.i64 60])) H21) (nz x0 (fun a27 =>
  ld H21 a27 (fun v28 =>
  dPtr v28 (fun p29 =>
  HCalls Tryz.prog 266 #[Value.pointer p29, Value.int IntKind.i64 x1] H21 (Sp.retK (fun v30 H31 =>
  dT 2 v30 (fun v32 v33 =>
  dSl v32 (fun p34 r35 r36 =>
  dInt IntKind.i64 v33 (fun n37 =>
  sB (n37 != 0) (R (Ending.returned (Value.tuple #[Value.pointer none, Value.int IntKind.i64 n37])) H31) (jn (α := VFH 0) (fun H38 =>
  ∀ v39 v40 v41 v42 v43 v44 : Value,
  nz x0 (fun a45 =>
  ld H38 (Addr.add a45 2) (fun v46 =>
  dMap v46 (fun p47 =>
  al H38 (Obj.cells #[Value.slice p34 r35 r36, Value.int IntKind.i64 0, Value.int IntKind.i64 0] 258) (fun r48 H49 =>
  semW Tryz.prog (Instr.mapUpdate 201 (Value.map p47) (Value.int IntKind.i64 x1) (Value.pointer (some (Addr.mk r48 0 none)))) (pnR R) H49 (fun x52 H53 =>
  nz x0 (fun a54 =>
  ld H53 (Addr.add a54 2) (fun v55 =>
  dMap v55 (fun p56 =>
  semW Tryz.prog (Instr.lookup 201 (Value.map p56) (Value.int IntKind.i64 x1) false) (pnR R) H53 (fun v59 H60 =>
  dPtr v59 (fun p61 =>
  R (Ending.returned (Value.tuple #[Value.pointer p61, Value.int IntKind.i64 0])) H60))))))))))) (fun k62 =>
  sB (decide (n11 ≥ n6)) (nz x0 (fun a63 =>
  ld H31 (Addr.add a63 2) (fun v64 =>
  dMap v64 (fun p65 =>
  semW Tryz.prog (Builtin.delete_ #[201, 3] 0 #[Value.map p65, Value.int IntKind.i64 n18]) (pnR R) H31 (fun v68 H69 =>
  k62 H69))))) (k62 H31))))))) (pnR R)))))))) (fun k72 =>
  sB (decide (n11 ≥ n6)) (k72 (Value.bool !b19) H15) (k72 (Value.bool false) H15)))))) (pnR R))))))))))
theorem F231_eq (x0 : Option Addr) (x1 : Int) (R : Ending → Heap → Prop) (H : Heap) : F231 x0 x1 R H = vc Tryz.prog (codeOf Tryz.f231) (.node none .leaf (.node none .leaf (.node none .leaf (.node none (.node (some ⟨[(30, 4)], [26, 27, 28, 29]⟩) .leaf .leaf) (.node none .leaf (.node none .leaf (.node (some ⟨[], [43, 44, 45, 46, 47, 48]⟩) .leaf .leaf))))))) (postV Tryz.prog Tryz.f231 R) ⟨#[Value.pointer x0, Value.int IntKind.i64 x1] ++ Array.replicate (Tryz.f231.ntmps - 2) undef, []⟩ H := by kernel_rfl
theorem F231_calls {R : Ending → Heap → Prop} {H : Heap} (x0 : Option Addr) (x1 : Int) (h : F231 x0 x1 R H) : HCalls Tryz.prog 231 #[Value.pointer x0, Value.int IntKind.i64 x1] H R :=
  calls_by (F := F231 x0 x1 R H) (.node none .leaf (.node none .leaf (.node none .leaf (.node none (.node (some ⟨[(30, 4)], [26, 27, 28, 29]⟩) .leaf .leaf) (.node none .leaf (.node none .leaf (.node (some ⟨[], [43, 44, 45, 46, 47, 48]⟩) .leaf .leaf))))))) Tryz.func231 rfl (F231_eq x0 x1 R H) h
/-- (*bollard/patch.Set).free$1 -/
def F233 (x0 : Int) (f0 : Addr) (R : Ending → Heap → Prop) (H : Heap) : Prop :=
  ld H f0 (fun v1 =>
  dSl v1 (fun p2 r3 r4 =>
  HCalls Tryz.prog 169 #[Value.slice p2 r3 r4, Value.int IntKind.i64 x0] H (Sp.retK (fun v5 H6 =>
  dBl v5 (fun b7 =>
  R (Ending.returned (Value.bool !b7)) H6)) (pnR R))))
theorem F233_eq (x0 : Int) (f0 : Addr) (R : Ending → Heap → Prop) (H : Heap) : F233 x0 f0 R H = vc Tryz.prog (codeOf Tryz.f233) .leaf (postV Tryz.prog Tryz.f233 R) ⟨#[Value.int IntKind.i64 x0, Value.pointer (some f0)] ++ Array.replicate (Tryz.f233.ntmps - 2) undef, []⟩ H := by kernel_rfl
theorem F233_calls {R : Ending → Heap → Prop} {H : Heap} (x0 : Int) (f0 : Addr) (h : F233 x0 f0 R H) : HCalls Tryz.prog 233 #[Value.int IntKind.i64 x0, Value.pointer (some f0)] H R :=
  calls_by (F := F233 x0 f0 R H) .leaf Tryz.func233 rfl (F233_eq x0 f0 R H) h
end Go.Proofs.YtngploohhmfaiaaGreat.E
/- The functions' forms in the engine's words, printed by my own program. -/
namespace Go.Proofs.YtngploohhmfaiaaGreat.E
open Go Go.Proofs
set_option linter.unusedVariables false
/-- (*bollard/cache.Cache).victim -/
def F265 (x0 : Option Addr) (R : Ending → Heap → Prop) (H : Heap) : Prop :=
  HCalls Tryz.prog 273 #[Value.pointer x0] H (Sp.retK (fun v1 H2 =>
  dSl v1 (fun p3 r4 r5 =>
  ∃ I6 : List Value → Heap → Prop,
  ∃ I7 : List Value → Heap → Nat,
  (I6 ([Value.int IntKind.i64 0]) H2) ∧
  ∀ n8 : Int,
  ∀ v9 v10 v11 v12 v13 v14 v15 v16 v17 v18 v19 v20 v21 v22 v23 v24 v25 v26 : Value,
  ∀ H27 : Heap,
  (I6 ([Value.int IntKind.i64 n8]) H27) →
  sB (decide (n8 < (↑r4 : Int))) (nz p3 (fun a29 =>
  ask ((0 : Int) ≤ n8 ∧ n8 < (↑r4 : Int)) (ld H27 (Addr.add a29 (Int.toNat n8 * 1)) (fun v30 =>
  dInt IntKind.i64 v30 (fun n31 =>
  nz x0 (fun a32 =>
  ld H27 (Addr.add a32 2) (fun v33 =>
  dMap v33 (fun p34 =>
  semW Tryz.prog (Instr.lookup 201 (Value.map p34) (Value.int IntKind.i64 n31) false) (pnR R) H27 (fun v37 H38 =>
  dPtr v37 (fun p39 =>
  nz p39 (fun a40 =>
  ld H38 (Addr.add a40 1) (fun v41 =>
  dInt IntKind.i64 v41 (fun n42 =>
  sB (n42 == 0) (R (Ending.returned (Value.tuple #[Value.int IntKind.i64 n31, Value.bool true])) H38) (wr IntKind.i64 (n8 + 1) (fun n43 =>
  (I6 ([Value.int IntKind.i64 n43]) H38) ∧
  (I7 [Value.int IntKind.i64 n43] H38) < (I7 [Value.int IntKind.i64 n8] H27)))))))))))))))) (R (Ending.returned (Value.tuple #[Value.int IntKind.i64 0, Value.bool false])) H27))) (pnR R))
theorem F265_eq (x0 : Option Addr) (R : Ending → Heap → Prop) (H : Heap) : F265 x0 R H = vc Tryz.prog (codeOf Tryz.f265) (.node none .leaf (.node none (.node none .leaf (.node none (.node (some ⟨[(9, 3)], [2, 3, 5, 10, 11, 12, 13, 14, 15, 16, 17, 18, 19, 20, 21, 22, 23, 24]⟩) .leaf .leaf) .leaf)) .leaf)) (postV Tryz.prog Tryz.f265 R) ⟨#[Value.pointer x0] ++ Array.replicate (Tryz.f265.ntmps - 1) undef, []⟩ H := by kernel_rfl
theorem F265_calls {R : Ending → Heap → Prop} {H : Heap} (x0 : Option Addr) (h : F265 x0 R H) : HCalls Tryz.prog 265 #[Value.pointer x0] H R :=
  calls_by (F := F265 x0 R H) (.node none .leaf (.node none (.node none .leaf (.node none (.node (some ⟨[(9, 3)], [2, 3, 5, 10, 11, 12, 13, 14, 15, 16, 17, 18, 19, 20, 21, 22, 23, 24]⟩) .leaf .leaf) .leaf)) .leaf)) Tryz.func265 rfl (F265_eq x0 R H) h
/-- (*bollard/disk.Disk).Read -/
def F266 (x0 : Option Addr) (x1 : Int) (R : Ending → Heap → Prop) (H : Heap) : Prop :=
  HCalls Tryz.prog 193 #[Value.pointer x0, Value.int IntKind.i64 x1] H (Sp.retK (fun v1 H2 =>
  dInt IntKind.i64 v1 (fun n3 =>
  sB (n3 != 0) (R (Ending.returned (Value.tuple #[Value.slice none 0 0, Value.int IntKind.i64 n3])) H2) (nz x0 (fun a4 =>
  ld H2 (Addr.add a4 2) (fun v5 =>
  dMap v5 (fun p6 =>
  semW Tryz.prog (Instr.lookup 131 (Value.map p6) (Value.int IntKind.i64 x1) false) (pnR R) H2 (fun v9 H10 =>
  dInt IntKind.i64 v9 (fun n11 =>
  sB (decide (n11 > 0)) (nz x0 (fun a12 =>
  ld H10 (Addr.add a12 2) (fun v13 =>
  dMap v13 (fun p14 =>
  semW Tryz.prog (Instr.lookup 131 (Value.map p14) (Value.int IntKind.i64 x1) false) (pnR R) H10 (fun v17 H18 =>
  dInt IntKind.i64 v17 (fun n19 =>
  wr IntKind.i64 (n19 - 1) (fun n20 =>
  semW Tryz.prog (Instr.mapUpdate 131 (Value.map p14) (Value.int IntKind.i64 x1) (Value.int IntKind.i64 n20)) (pnR R) H18 (fun x23 H24 =>
  R (Ending.returned (Value.tuple #[Value.slice none 0 0, Value.int IntKind.i64 4])) H24)))))))) (nz x0 (fun a25 =>
  ld H10 a25 (fun v26 =>
  dSl v26 (fun p27 r28 r29 =>
  nz p27 (fun a30 =>
  ask ((0 : Int) ≤ x1 ∧ x1 < (↑r28 : Int)) (ld H10 (Addr.add a30 (Int.toNat x1 * 1)) (fun v31 =>
  dSl v31 (fun p32 r33 r34 =>
  HCalls Tryz.prog 48 #[Value.slice p32 r33 r34] H10 (Sp.retK (fun v35 H36 =>
  dSl v35 (fun p37 r38 r39 =>
  R (Ending.returned (Value.tuple #[Value.slice p37 r38 r39, Value.int IntKind.i64 0])) H36)) (pnR R)))))))))))))))))) (pnR R))
theorem F266_eq (x0 : Option Addr) (x1 : Int) (R : Ending → Heap → Prop) (H : Heap) : F266 x0 x1 R H = vc Tryz.prog (codeOf Tryz.f266) .leaf (postV Tryz.prog Tryz.f266 R) ⟨#[Value.pointer x0, Value.int IntKind.i64 x1] ++ Array.replicate (Tryz.f266.ntmps - 2) undef, []⟩ H := by kernel_rfl
theorem F266_calls {R : Ending → Heap → Prop} {H : Heap} (x0 : Option Addr) (x1 : Int) (h : F266 x0 x1 R H) : HCalls Tryz.prog 266 #[Value.pointer x0, Value.int IntKind.i64 x1] H R :=
  calls_by (F := F266 x0 x1 R H) .leaf Tryz.func266 rfl (F266_eq x0 x1 R H) h
/-- (*bollard/cache.Cache).Held -/
def F273 (x0 : Option Addr) (R : Ending → Heap → Prop) (H : Heap) : Prop :=
  al H (Obj.cells #[Value.pointer x0] 50) (fun r1 H2 =>
  ld H2 (Addr.mk r1 0 none) (fun v3 =>
  dPtr v3 (fun p4 =>
  sB (Option.isNone p4) (R (Ending.returned (Value.slice none 0 0)) H2) (ld H2 (Addr.mk r1 0 none) (fun v5 =>
  dPtr v5 (fun p6 =>
  nz p6 (fun a7 =>
  ld H2 (Addr.add a7 2) (fun v8 =>
  dMap v8 (fun p9 =>
  HCalls Tryz.prog 276 #[Value.map p9] H2 (Sp.retK (fun v10 H11 =>
  HCalls Tryz.prog 275 #[v10, Value.func (Fn.func 277) #[] #[Value.pointer (some (Addr.mk r1 0 none))]] H11 (Sp.retK (fun v12 H13 =>
  dSl v12 (fun p14 r15 r16 =>
  R (Ending.returned (Value.slice p14 r15 r16)) H13)) (pnR R))) (pnR R)))))))))))
theorem F273_eq (x0 : Option Addr) (R : Ending → Heap → Prop) (H : Heap) : F273 x0 R H = vc Tryz.prog (codeOf Tryz.f273) .leaf (postV Tryz.prog Tryz.f273 R) ⟨#[Value.pointer x0] ++ Array.replicate (Tryz.f273.ntmps - 1) undef, []⟩ H := by kernel_rfl
theorem F273_calls {R : Ending → Heap → Prop} {H : Heap} (x0 : Option Addr) (h : F273 x0 R H) : HCalls Tryz.prog 273 #[Value.pointer x0] H R :=
  calls_by (F := F273 x0 R H) .leaf Tryz.func273 rfl (F273_eq x0 R H) h
/-- slices.SortedFunc[int] -/
def F275 (x0g : Nat) (x0f : Array Value) (x0c : Array Value) (x1g : Nat) (x1f : Array Value) (x1c : Array Value) (R : Ending → Heap → Prop) (H : Heap) : Prop :=
  HCalls Tryz.prog 216 #[Value.func (Fn.func x0g) x0f x0c] H (Sp.retK (fun v1 H2 =>
  dSl v1 (fun p3 r4 r5 =>
  HCalls Tryz.prog 278 #[Value.slice p3 r4 r5, Value.func (Fn.func x1g) x1f x1c] H2 (Sp.retK (fun v6 H7 =>
  R (Ending.returned (Value.slice p3 r4 r5)) H7) (pnR R)))) (pnR R))
theorem F275_eq (x0g : Nat) (x0f : Array Value) (x0c : Array Value) (x1g : Nat) (x1f : Array Value) (x1c : Array Value) (R : Ending → Heap → Prop) (H : Heap) : F275 x0g x0f x0c x1g x1f x1c R H = vc Tryz.prog (codeOf Tryz.f275) .leaf (postV Tryz.prog Tryz.f275 R) ⟨#[Value.func (Fn.func x0g) x0f x0c, Value.func (Fn.func x1g) x1f x1c] ++ Array.replicate (Tryz.f275.ntmps - 2) undef, []⟩ H := by kernel_rfl
theorem F275_calls {R : Ending → Heap → Prop} {H : Heap} (x0g : Nat) (x0f : Array Value) (x0c : Array Value) (x1g : Nat) (x1f : Array Value) (x1c : Array Value) (h : F275 x0g x0f x0c x1g x1f x1c R H) : HCalls Tryz.prog 275 #[Value.func (Fn.func x0g) x0f x0c, Value.func (Fn.func x1g) x1f x1c] H R :=
  calls_by (F := F275 x0g x0f x0c x1g x1f x1c R H) .leaf Tryz.func275 rfl (F275_eq x0g x0f x0c x1g x1f x1c R H) h
/-- maps.Keys[map[int]*bollard/cache.buffer,int,*bollard/cache.buffer] -/
def F276 (x0 : Option Nat) (R : Ending → Heap → Prop) (H : Heap) : Prop :=
  al H (Obj.cells #[Value.map x0] 201) (fun r1 H2 =>
  R (Ending.returned (Value.func (Fn.func 279) #[] #[Value.pointer (some (Addr.mk r1 0 none))])) H2)
theorem F276_eq (x0 : Option Nat) (R : Ending → Heap → Prop) (H : Heap) : F276 x0 R H = vc Tryz.prog (codeOf Tryz.f276) .leaf (postV Tryz.prog Tryz.f276 R) ⟨#[Value.map x0] ++ Array.replicate (Tryz.f276.ntmps - 1) undef, []⟩ H := by kernel_rfl
theorem F276_calls {R : Ending → Heap → Prop} {H : Heap} (x0 : Option Nat) (h : F276 x0 R H) : HCalls Tryz.prog 276 #[Value.map x0] H R :=
  calls_by (F := F276 x0 R H) .leaf Tryz.func276 rfl (F276_eq x0 R H) h
end Go.Proofs.YtngploohhmfaiaaGreat.E
/- The functions' forms in the engine's words, printed by my own program. -/
namespace Go.Proofs.YtngploohhmfaiaaGreat.E
open Go Go.Proofs
set_option linter.unusedVariables false
/-- (*bollard/volume.Volume).Change -/
def F25 (x0 : Option Addr) (x1 : Int) (x2 : Int) (x3a : Option Addr) (x3n : Nat) (x3c : Nat) (x4a : Option Addr) (x4n : Nat) (x4c : Nat) (R : Ending → Heap → Prop) (H : Heap) : Prop :=
  HCalls Tryz.prog 68 #[Value.pointer x0] H (Sp.retK (fun v1 H2 =>
  dBl v1 (fun b3 =>
  sB (!b3) (R (Ending.returned (Value.tuple #[Value.int IntKind.i64 0, Value.int IntKind.i64 2])) H2) (nz x0 (fun a4 =>
  HCalls Tryz.prog 71 #[Value.pointer x0, Value.int IntKind.i64 x1] H2 (Sp.retK (fun v5 H6 =>
  dBl v5 (fun b7 =>
  sB (!b7) (HCallsD Tryz.prog 69 #[Value.pointer (some a4)] FrameMode.returning H6 (fun e8 u9 H10 =>
  match e8 with
| Ending.returned v => leavesV Tryz.prog Tryz.f25 (Act.tmps (Act.mk #[Value.pointer x0, Value.int IntKind.i64 x1, Value.int IntKind.i64 x2, Value.slice x3a x3n x3c, Value.slice x4a x4n x4c, undef, undef, undef, undef, undef, Value.int IntKind.i64 0, Value.int IntKind.i64 90, undef, undef, undef, undef, undef, undef, undef, undef, Value.pointer x0, Value.bool b3, Value.bool !b3, Value.pointer x0, Value.pointer (some a4), Value.pointer (some a4), Value.pointer x0, Value.int IntKind.i64 x1, Value.bool b7, Value.bool !b7, undef, undef, undef, undef, undef, undef, undef, undef, undef, undef, undef, undef, undef, undef, undef, undef, undef, undef, undef, undef, undef, undef, undef, undef, undef, undef, undef, undef, undef, undef, undef, undef, undef, undef, undef, undef, undef, undef, undef, undef, undef, undef, undef, undef, undef, undef, undef, undef, undef, undef, undef, undef, undef, undef, undef, undef, undef, undef, undef, undef, undef, undef, undef, undef, undef, undef, undef, undef, undef, undef, undef, undef, undef, undef, undef, undef, undef, undef, undef, undef, undef, undef, undef] [Deferred.mk (Target.fn (Fn.func 69) #[]) #[Value.pointer (some a4)]])) R [] (settle u9) H10
| Ending.panicked c => leavesV Tryz.prog Tryz.f25 (Act.tmps (Act.mk #[Value.pointer x0, Value.int IntKind.i64 x1, Value.int IntKind.i64 x2, Value.slice x3a x3n x3c, Value.slice x4a x4n x4c, undef, undef, undef, undef, undef, Value.int IntKind.i64 0, Value.int IntKind.i64 90, undef, undef, undef, undef, undef, undef, undef, undef, Value.pointer x0, Value.bool b3, Value.bool !b3, Value.pointer x0, Value.pointer (some a4), Value.pointer (some a4), Value.pointer x0, Value.int IntKind.i64 x1, Value.bool b7, Value.bool !b7, undef, undef, undef, undef, undef, undef, undef, undef, undef, undef, undef, undef, undef, undef, undef, undef, undef, undef, undef, undef, undef, undef, undef, undef, undef, undef, undef, undef, undef, undef, undef, undef, undef, undef, undef, undef, undef, undef, undef, undef, undef, undef, undef, undef, undef, undef, undef, undef, undef, undef, undef, undef, undef, undef, undef, undef, undef, undef, undef, undef, undef, undef, undef, undef, undef, undef, undef, undef, undef, undef, undef, undef, undef, undef, undef, undef, undef, undef, undef, undef, undef, undef, undef] [Deferred.mk (Target.fn (Fn.func 69) #[]) #[Value.pointer (some a4)]])) R [] (raised u9 c) H10
| Ending.outgrown => False)) (nz x0 (fun a11 =>
  ld H6 (Addr.add (Addr.add a11 6) 3) (fun v12 =>
  dMap v12 (fun p13 =>
  semW Tryz.prog (Instr.lookup 53 (Value.map p13) (Value.int IntKind.i64 x1) true) (fun c14 H15 =>
  HCallsD Tryz.prog 69 #[Value.pointer (some a4)] (FrameMode.panicking c14) H15 (fun e16 u17 H18 =>
  match e16 with
| Ending.returned v => leavesV Tryz.prog Tryz.f25 (Act.tmps (Act.mk #[Value.pointer x0, Value.int IntKind.i64 x1, Value.int IntKind.i64 x2, Value.slice x3a x3n x3c, Value.slice x4a x4n x4c, undef, undef, undef, undef, undef, Value.int IntKind.i64 0, Value.int IntKind.i64 0, undef, undef, undef, undef, undef, undef, undef, undef, Value.pointer x0, Value.bool b3, Value.bool !b3, Value.pointer x0, Value.pointer (some a4), Value.pointer (some a4), Value.pointer x0, Value.int IntKind.i64 x1, Value.bool b7, Value.bool !b7, undef, Value.pointer x0, Value.pointer (some a11), Value.pointer (some (Addr.add a11 6)), Value.pointer (some (Addr.add (Addr.add a11 6) 3)), Value.map p13, Value.int IntKind.i64 x1, undef, undef, undef, undef, undef, undef, undef, undef, undef, undef, undef, undef, undef, undef, undef, undef, undef, undef, undef, undef, undef, undef, undef, undef, undef, undef, undef, undef, undef, undef, undef, undef, undef, undef, undef, undef, undef, undef, undef, undef, undef, undef, undef, undef, undef, undef, undef, undef, undef, undef, undef, undef, undef, undef, undef, undef, undef, undef, undef, undef, undef, undef, undef, undef, undef, undef, undef, undef, undef, undef, undef, undef, undef, undef, undef, undef] [Deferred.mk (Target.fn (Fn.func 69) #[]) #[Value.pointer (some a4)]])) R [] (settle u17) H18
| Ending.panicked c => leavesV Tryz.prog Tryz.f25 (Act.tmps (Act.mk #[Value.pointer x0, Value.int IntKind.i64 x1, Value.int IntKind.i64 x2, Value.slice x3a x3n x3c, Value.slice x4a x4n x4c, undef, undef, undef, undef, undef, Value.int IntKind.i64 0, Value.int IntKind.i64 0, undef, undef, undef, undef, undef, undef, undef, undef, Value.pointer x0, Value.bool b3, Value.bool !b3, Value.pointer x0, Value.pointer (some a4), Value.pointer (some a4), Value.pointer x0, Value.int IntKind.i64 x1, Value.bool b7, Value.bool !b7, undef, Value.pointer x0, Value.pointer (some a11), Value.pointer (some (Addr.add a11 6)), Value.pointer (some (Addr.add (Addr.add a11 6) 3)), Value.map p13, Value.int IntKind.i64 x1, undef, undef, undef, undef, undef, undef, undef, undef, undef, undef, undef, undef, undef, undef, undef, undef, undef, undef, undef, undef, undef, undef, undef, undef, undef, undef, undef, undef, undef, undef, undef, undef, undef, undef, undef, undef, undef, undef, undef, undef, undef, undef, undef, undef, undef, undef, undef, undef, undef, undef, undef, undef, undef, undef, undef, undef, undef, undef, undef, undef, undef, undef, undef, undef, undef, undef, undef, undef, undef, undef, undef, undef, undef, undef, undef, undef] [Deferred.mk (Target.fn (Fn.func 69) #[]) #[Value.pointer (some a4)]])) R [] (raised u17 c) H18
| Ending.outgrown => False)) H6 (fun v19 H20 =>
  dT 2 v19 (fun v21 v22 =>
  dSl v21 (fun p23 r24 r25 =>
  dBl v22 (fun b26 =>
  jn (α := VFH 1) (fun v27 H28 =>
  ∀ v29 v30 v31 v32 v33 v34 v35 v36 v37 v38 v39 v40 v41 v42 v43 v44 v45 : Value,
  dBl v27 (fun b46 =>
  jn (α := VFH 1) (fun v47 H48 =>
  ∀ v49 v50 v51 v52 v53 v54 v55 v56 v57 v58 v59 v60 v61 v62 v63 : Value,
  dSl v47 (fun p64 r65 r66 =>
  nz x0 (fun a67 =>
  ld H48 (Addr.add a67 4) (fun v68 =>
  dPtr v68 (fun p69 =>
  HCalls Tryz.prog 73 #[Value.pointer p69, Value.int IntKind.i64 x1, Value.int IntKind.i64 x2, Value.slice x3a x3n x3c, Value.slice x4a x4n x4c] H48 (Sp.retK (fun v70 H71 =>
  dT 2 v70 (fun v72 v73 =>
  dInt IntKind.i64 v72 (fun n74 =>
  dInt IntKind.i64 v73 (fun n75 =>
  sB (n75 != 0) (HCallsD Tryz.prog 69 #[Value.pointer (some a4)] FrameMode.returning H71 (fun e76 u77 H78 =>
  match e76 with
| Ending.returned v => leavesV Tryz.prog Tryz.f25 (Act.tmps (Act.mk #[Value.pointer x0, Value.int IntKind.i64 x1, Value.int IntKind.i64 x2, Value.slice x3a x3n x3c, Value.slice x4a x4n x4c, undef, undef, undef, undef, undef, Value.int IntKind.i64 0, Value.int IntKind.i64 n75, Value.slice p23 r24 r25, Value.bool b26, Value.bool b46, Value.slice p64 r65 r66, v51, v52, Value.int IntKind.i64 n74, Value.int IntKind.i64 n75, Value.pointer x0, Value.bool b3, Value.bool !b3, Value.pointer x0, Value.pointer (some a4), Value.pointer (some a4), Value.pointer x0, Value.int IntKind.i64 x1, Value.bool b7, Value.bool !b7, Value.tuple #[Value.slice p23 r24 r25, Value.bool b26], Value.pointer x0, Value.pointer (some a11), Value.pointer (some (Addr.add a11 6)), Value.pointer (some (Addr.add (Addr.add a11 6) 3)), Value.map p13, Value.int IntKind.i64 x1, Value.tuple #[Value.slice p23 r24 r25, Value.bool b26], Value.slice p23 r24 r25, Value.bool b26, v29, v30, v31, v32, v33, v34, v35, v36, v37, v38, v39, v40, v41, v42, v43, v44, v45, v53, v54, v55, v56, v57, v58, v59, v60, v61, v62, v63, Value.tuple #[Value.int IntKind.i64 n74, Value.int IntKind.i64 n75], Value.pointer x0, Value.pointer (some a67), Value.pointer (some (Addr.add a67 4)), Value.pointer p69, Value.int IntKind.i64 x1, Value.int IntKind.i64 x2, Value.slice x3a x3n x3c, Value.slice x4a x4n x4c, Value.tuple #[Value.int IntKind.i64 n74, Value.int IntKind.i64 n75], Value.int IntKind.i64 n74, Value.int IntKind.i64 n75, Value.int IntKind.i64 n75, Value.bool (n75 != 0), Value.int IntKind.i64 n75, undef, undef, undef, undef, undef, undef, undef, undef, undef, undef, undef, undef, undef, undef, undef, undef, undef, undef, undef, undef, undef, undef, undef, undef, undef, undef, undef, undef, undef, undef] [Deferred.mk (Target.fn (Fn.func 69) #[]) #[Value.pointer (some a4)]])) R [] (settle u77) H78
| Ending.panicked c => leavesV Tryz.prog Tryz.f25 (Act.tmps (Act.mk #[Value.pointer x0, Value.int IntKind.i64 x1, Value.int IntKind.i64 x2, Value.slice x3a x3n x3c, Value.slice x4a x4n x4c, undef, undef, undef, undef, undef, Value.int IntKind.i64 0, Value.int IntKind.i64 n75, Value.slice p23 r24 r25, Value.bool b26, Value.bool b46, Value.slice p64 r65 r66, v51, v52, Value.int IntKind.i64 n74, Value.int IntKind.i64 n75, Value.pointer x0, Value.bool b3, Value.bool !b3, Value.pointer x0, Value.pointer (some a4), Value.pointer (some a4), Value.pointer x0, Value.int IntKind.i64 x1, Value.bool b7, Value.bool !b7, Value.tuple #[Value.slice p23 r24 r25, Value.bool b26], Value.pointer x0, Value.pointer (some a11), Value.pointer (some (Addr.add a11 6)), Value.pointer (some (Addr.add (Addr.add a11 6) 3)), Value.map p13, Value.int IntKind.i64 x1, Value.tuple #[Value.slice p23 r24 r25, Value.bool b26], Value.slice p23 r24 r25, Value.bool b26, v29, v30, v31, v32, v33, v34, v35, v36, v37, v38, v39, v40, v41, v42, v43, v44, v45, v53, v54, v55, v56, v57, v58, v59, v60, v61, v62, v63, Value.tuple #[Value.int IntKind.i64 n74, Value.int IntKind.i64 n75], Value.pointer x0, Value.pointer (some a67), Value.pointer (some (Addr.add a67 4)), Value.pointer p69, Value.int IntKind.i64 x1, Value.int IntKind.i64 x2, Value.slice x3a x3n x3c, Value.slice x4a x4n x4c, Value.tuple #[Value.int IntKind.i64 n74, Value.int IntKind.i64 n75], Value.int IntKind.i64 n74, Value.int IntKind.i64 n75, Value.int IntKind.i64 n75, Value.bool (n75 != 0), Value.int IntKind.i64 n75, undef, undef, undef, undef, undef, undef, undef, undef, undef, undef, undef, undef, undef, undef, undef, undef, undef, undef, undef, undef, undef, undef, undef, undef, undef, undef, undef, undef, undef, undef] [Deferred.mk (Target.fn (Fn.func 69) #[]) #[Value.pointer (some a4)]])) R [] (raised u77 c) H78
| Ending.outgrown => False)) (jn (α := VFH 0) (fun H79 =>
  ∀ v80 v81 v82 v83 v84 v85 v86 v87 v88 v89 v90 v91 v92 v93 v94 v95 v96 v97 v98 v99 v100 v101 v102 v103 v104 v105 v106 v107 v108 : Value,
  HCallsD Tryz.prog 69 #[Value.pointer (some a4)] FrameMode.returning H79 (fun e109 u110 H111 =>
  match e109 with
| Ending.returned v => leavesV Tryz.prog Tryz.f25 (Act.tmps (Act.mk #[Value.pointer x0, Value.int IntKind.i64 x1, Value.int IntKind.i64 x2, Value.slice x3a x3n x3c, Value.slice x4a x4n x4c, undef, undef, undef, undef, undef, Value.int IntKind.i64 n74, Value.int IntKind.i64 0, Value.slice p23 r24 r25, Value.bool b26, Value.bool b46, Value.slice p64 r65 r66, v51, v52, Value.int IntKind.i64 n74, Value.int IntKind.i64 n75, Value.pointer x0, Value.bool b3, Value.bool !b3, Value.pointer x0, Value.pointer (some a4), Value.pointer (some a4), Value.pointer x0, Value.int IntKind.i64 x1, Value.bool b7, Value.bool !b7, Value.tuple #[Value.slice p23 r24 r25, Value.bool b26], Value.pointer x0, Value.pointer (some a11), Value.pointer (some (Addr.add a11 6)), Value.pointer (some (Addr.add (Addr.add a11 6) 3)), Value.map p13, Value.int IntKind.i64 x1, Value.tuple #[Value.slice p23 r24 r25, Value.bool b26], Value.slice p23 r24 r25, Value.bool b26, v29, v30, v31, v32, v33, v34, v35, v36, v37, v38, v39, v40, v41, v42, v43, v44, v45, v53, v54, v55, v56, v57, v58, v59, v60, v61, v62, v63, Value.tuple #[Value.int IntKind.i64 n74, Value.int IntKind.i64 n75], Value.pointer x0, Value.pointer (some a67), Value.pointer (some (Addr.add a67 4)), Value.pointer p69, Value.int IntKind.i64 x1, Value.int IntKind.i64 x2, Value.slice x3a x3n x3c, Value.slice x4a x4n x4c, Value.tuple #[Value.int IntKind.i64 n74, Value.int IntKind.i64 n75], Value.int IntKind.i64 n74, Value.int IntKind.i64 n75, Value.int IntKind.i64 n75, Value.bool (n75 != 0), undef, v80, v81, v82, v83, v84, v85, v86, v87, v88, v89, v90, v91, v92, v93, v94, v95, v96, v97, v98, v99, v100, v101, v102, v103, v104, v105, v106, v107, v108, Value.int IntKind.i64 n74] [Deferred.mk (Target.fn (Fn.func 69) #[]) #[Value.pointer (some a4)]])) R [] (settle u110) H111
| Ending.panicked c => leavesV Tryz.prog Tryz.f25 (Act.tmps (Act.mk #[Value.pointer x0, Value.int IntKind.i64 x1, Value.int IntKind.i64 x2, Value.slice x3a x3n x3c, Value.slice x4a x4n x4c, undef, undef, undef, undef, undef, Value.int IntKind.i64 n74, Value.int IntKind.i64 0, Value.slice p23 r24 r25, Value.bool b26, Value.bool b46, Value.slice p64 r65 r66, v51, v52, Value.int IntKind.i64 n74, Value.int IntKind.i64 n75, Value.pointer x0, Value.bool b3, Value.bool !b3, Value.pointer x0, Value.pointer (some a4), Value.pointer (some a4), Value.pointer x0, Value.int IntKind.i64 x1, Value.bool b7, Value.bool !b7, Value.tuple #[Value.slice p23 r24 r25, Value.bool b26], Value.pointer x0, Value.pointer (some a11), Value.pointer (some (Addr.add a11 6)), Value.pointer (some (Addr.add (Addr.add a11 6) 3)), Value.map p13, Value.int IntKind.i64 x1, Value.tuple #[Value.slice p23 r24 r25, Value.bool b26], Value.slice p23 r24 r25, Value.bool b26, v29, v30, v31, v32, v33, v34, v35, v36, v37, v38, v39, v40, v41, v42, v43, v44, v45, v53, v54, v55, v56, v57, v58, v59, v60, v61, v62, v63, Value.tuple #[Value.int IntKind.i64 n74, Value.int IntKind.i64 n75], Value.pointer x0, Value.pointer (some a67), Value.pointer (some (Addr.add a67 4)), Value.pointer p69, Value.int IntKind.i64 x1, Value.int IntKind.i64 x2, Value.slice x3a x3n x3c, Value.slice x4a x4n x4c, Value.tuple #[Value.int IntKind.i64 n74, Value.int IntKind.i64 n75], Value.int IntKind.i64 n74, Value.int IntKind.i64 n75, Value.int IntKind.i64 n75, Value.bool (n75 != 0), undef, v80, v81, v82, v83, v84, v85, v86, v87, v88, v89, v90, v91, v92, v93, v94, v95, v96, v97, v98, v99, v100, v101, v102, v103, v104, v105, v106, v107, v108, Value.int IntKind.i64 n74] [Deferred.mk (Target.fn (Fn.func 69) #[]) #[Value.pointer (some a4)]])) R [] (raised u110 c) H111
| Ending.outgrown => False)) (fun k112 =>
  jn (α := VFH 1) (fun v113 H114 =>
  ∀ v115 v116 v117 v118 v119 v120 v121 v122 v123 v124 v125 v126 v127 v128 v129 : Value,
  dBl v113 (fun b130 =>
  sB b130 (nz x0 (fun a131 =>
  ld H114 (Addr.add (Addr.add a131 6) 3) (fun v132 =>
  dMap v132 (fun p133 =>
  semW Tryz.prog (Instr.mapUpdate 53 (Value.map p133) (Value.int IntKind.i64 x1) (Value.slice p64 r65 r66)) (fun c134 H135 =>
  HCallsD Tryz.prog 69 #[Value.pointer (some a4)] (FrameMode.panicking c134) H135 (fun e136 u137 H138 =>
  match e136 with
| Ending.returned v => leavesV Tryz.prog Tryz.f25 (Act.tmps (Act.mk #[Value.pointer x0, Value.int IntKind.i64 x1, Value.int IntKind.i64 x2, Value.slice x3a x3n x3c, Value.slice x4a x4n x4c, undef, undef, undef, undef, undef, v49, v50, Value.slice p23 r24 r25, Value.bool b26, Value.bool b46, Value.slice p64 r65 r66, v51, v52, Value.int IntKind.i64 n74, Value.int IntKind.i64 n75, Value.pointer x0, Value.bool b3, Value.bool !b3, Value.pointer x0, Value.pointer (some a4), Value.pointer (some a4), Value.pointer x0, Value.int IntKind.i64 x1, Value.bool b7, Value.bool !b7, Value.tuple #[Value.slice p23 r24 r25, Value.bool b26], Value.pointer x0, Value.pointer (some a11), Value.pointer (some (Addr.add a11 6)), Value.pointer (some (Addr.add (Addr.add a11 6) 3)), Value.map p13, Value.int IntKind.i64 x1, Value.tuple #[Value.slice p23 r24 r25, Value.bool b26], Value.slice p23 r24 r25, Value.bool b26, v29, v30, v31, v32, v33, v34, v35, v36, v37, v38, v39, v40, v41, v42, v43, v44, v45, v53, v54, v55, v56, v57, v58, v59, v60, v61, v62, v63, Value.tuple #[Value.int IntKind.i64 n74, Value.int IntKind.i64 n75], Value.pointer x0, Value.pointer (some a67), Value.pointer (some (Addr.add a67 4)), Value.pointer p69, Value.int IntKind.i64 x1, Value.int IntKind.i64 x2, Value.slice x3a x3n x3c, Value.slice x4a x4n x4c, Value.tuple #[Value.int IntKind.i64 n74, Value.int IntKind.i64 n75], Value.int IntKind.i64 n74, Value.int IntKind.i64 n75, Value.int IntKind.i64 n75, Value.bool (n75 != 0), undef, Value.bool b130, v115, v116, v117, v118, v119, v120, v121, v122, v123, v124, v125, v126, v127, v128, v129, Value.pointer x0, Value.pointer (some a131), Value.pointer (some (Addr.add a131 6)), Value.pointer (some (Addr.add (Addr.add a131 6) 3)), Value.map p133, Value.int IntKind.i64 x1, Value.slice p64 r65 r66, undef, undef, undef, undef, undef, undef, undef] [Deferred.mk (Target.fn (Fn.func 69) #[]) #[Value.pointer (some a4)]])) R [] (settle u137) H138
| Ending.panicked c => leavesV Tryz.prog Tryz.f25 (Act.tmps (Act.mk #[Value.pointer x0, Value.int IntKind.i64 x1, Value.int IntKind.i64 x2, Value.slice x3a x3n x3c, Value.slice x4a x4n x4c, undef, undef, undef, undef, undef, v49, v50, Value.slice p23 r24 r25, Value.bool b26, Value.bool b46, Value.slice p64 r65 r66, v51, v52, Value.int IntKind.i64 n74, Value.int IntKind.i64 n75, Value.pointer x0, Value.bool b3, Value.bool !b3, Value.pointer x0, Value.pointer (some a4), Value.pointer (some a4), Value.pointer x0, Value.int IntKind.i64 x1, Value.bool b7, Value.bool !b7, Value.tuple #[Value.slice p23 r24 r25, Value.bool b26], Value.pointer x0, Value.pointer (some a11), Value.pointer (some (Addr.add a11 6)), Value.pointer (some (Addr.add (Addr.add a11 6) 3)), Value.map p13, Value.int IntKind.i64 x1, Value.tuple #[Value.slice p23 r24 r25, Value.bool b26], Value.slice p23 r24 r25, Value.bool b26, v29, v30, v31, v32, v33, v34, v35, v36, v37, v38, v39, v40, v41, v42, v43, v44, v45, v53, v54, v55, v56, v57, v58, v59, v60, v61, v62, v63, Value.tuple #[Value.int IntKind.i64 n74, Value.int IntKind.i64 n75], Value.pointer x0, Value.pointer (some a67), Value.pointer (some (Addr.add a67 4)), Value.pointer p69, Value.int IntKind.i64 x1, Value.int IntKind.i64 x2, Value.slice x3a x3n x3c, Value.slice x4a x4n x4c, Value.tuple #[Value.int IntKind.i64 n74, Value.int IntKind.i64 n75], Value.int IntKind.i64 n74, Value.int IntKind.i64 n75, Value.int IntKind.i64 n75, Value.bool (n75 != 0), undef, Value.bool b130, v115, v116, v117, v118, v119, v120, v121, v122, v123, v124, v125, v126, v127, v128, v129, Value.pointer x0, Value.pointer (some a131), Value.pointer (some (Addr.add a131 6)), Value.pointer (some (Addr.add (Addr.add a131 6) 3)), Value.map p133, Value.int IntKind.i64 x1, Value.slice p64 r65 r66, undef, undef, undef, undef, undef, undef, undef] [Deferred.mk (Target.fn (Fn.func 69) #[]) #[Value.pointer (some a4)]])) R [] (raised u137 c) H138
| Ending.outgrown => False)) H114 (fun x139 H140 =>
  k112 H140))))) (sB b46 (nz x0 (fun a141 =>
  st H114 (Addr.add (Addr.add a141 6) 1) (Value.bool true) (fun H142 =>
  k112 H142))) (k112 H114)))) (fun k143 =>
  sB b46 (nz x0 (fun a144 =>
  ld H71 (Addr.add (Addr.add a144 6) 3) (fun v145 =>
  dMap v145 (fun p146 =>
  nz x0 (fun a147 =>
  ld H71 (Addr.add (Addr.add a147 6) 2) (fun v148 =>
  dInt IntKind.i64 v148 (fun n149 =>
  semW Tryz.prog (Builtin.len_ #[53] 3 #[Value.map p146]) nopR H71 (fun v152 H153 =>
  dInt IntKind.i64 v152 (fun n154 =>
  (ld H153 (Addr.add (Addr.add a147 6) 2) (fun v155 =>
  dInt IntKind.i64 v155 (fun n156 =>
  (Value.int IntKind.i64 n156) = (Value.int IntKind.i64 n149)))) ∧
  k143 (Value.bool (decide (n154 < n149))) H153))))))))) (k143 (Value.bool false) H71)))))))) (fun c157 H158 =>
  HCallsD Tryz.prog 69 #[Value.pointer (some a4)] (FrameMode.panicking c157) H158 (fun e159 u160 H161 =>
  match e159 with
| Ending.returned v => leavesV Tryz.prog Tryz.f25 (Act.tmps (Act.mk #[Value.pointer x0, Value.int IntKind.i64 x1, Value.int IntKind.i64 x2, Value.slice x3a x3n x3c, Value.slice x4a x4n x4c, undef, undef, undef, undef, undef, v49, v50, Value.slice p23 r24 r25, Value.bool b26, Value.bool b46, Value.slice p64 r65 r66, v51, v52, undef, undef, Value.pointer x0, Value.bool b3, Value.bool !b3, Value.pointer x0, Value.pointer (some a4), Value.pointer (some a4), Value.pointer x0, Value.int IntKind.i64 x1, Value.bool b7, Value.bool !b7, Value.tuple #[Value.slice p23 r24 r25, Value.bool b26], Value.pointer x0, Value.pointer (some a11), Value.pointer (some (Addr.add a11 6)), Value.pointer (some (Addr.add (Addr.add a11 6) 3)), Value.map p13, Value.int IntKind.i64 x1, Value.tuple #[Value.slice p23 r24 r25, Value.bool b26], Value.slice p23 r24 r25, Value.bool b26, v29, v30, v31, v32, v33, v34, v35, v36, v37, v38, v39, v40, v41, v42, v43, v44, v45, v53, v54, v55, v56, v57, v58, v59, v60, v61, v62, v63, undef, Value.pointer x0, Value.pointer (some a67), Value.pointer (some (Addr.add a67 4)), Value.pointer p69, Value.int IntKind.i64 x1, Value.int IntKind.i64 x2, Value.slice x3a x3n x3c, Value.slice x4a x4n x4c, undef, undef, undef, undef, undef, undef, undef, undef, undef, undef, undef, undef, undef, undef, undef, undef, undef, undef, undef, undef, undef, undef, undef, undef, undef, undef, undef, undef, undef, undef, undef, undef, undef, undef, undef, undef] [Deferred.mk (Target.fn (Fn.func 69) #[]) #[Value.pointer (some a4)]])) R [] (settle u160) H161
| Ending.panicked c => leavesV Tryz.prog Tryz.f25 (Act.tmps (Act.mk #[Value.pointer x0, Value.int IntKind.i64 x1, Value.int IntKind.i64 x2, Value.slice x3a x3n x3c, Value.slice x4a x4n x4c, undef, undef, undef, undef, undef, v49, v50, Value.slice p23 r24 r25, Value.bool b26, Value.bool b46, Value.slice p64 r65 r66, v51, v52, undef, undef, Value.pointer x0, Value.bool b3, Value.bool !b3, Value.pointer x0, Value.pointer (some a4), Value.pointer (some a4), Value.pointer x0, Value.int IntKind.i64 x1, Value.bool b7, Value.bool !b7, Value.tuple #[Value.slice p23 r24 r25, Value.bool b26], Value.pointer x0, Value.pointer (some a11), Value.pointer (some (Addr.add a11 6)), Value.pointer (some (Addr.add (Addr.add a11 6) 3)), Value.map p13, Value.int IntKind.i64 x1, Value.tuple #[Value.slice p23 r24 r25, Value.bool b26], Value.slice p23 r24 r25, Value.bool b26, v29, v30, v31, v32, v33, v34, v35, v36, v37, v38, v39, v40, v41, v42, v43, v44, v45, v53, v54, v55, v56, v57, v58, v59, v60, v61, v62, v63, undef, Value.pointer x0, Value.pointer (some a67), Value.pointer (some (Addr.add a67 4)), Value.pointer p69, Value.int IntKind.i64 x1, Value.int IntKind.i64 x2, Value.slice x3a x3n x3c, Value.slice x4a x4n x4c, undef, undef, undef, undef, undef, undef, undef, undef, undef, undef, undef, undef, undef, undef, undef, undef, undef, undef, undef, undef, undef, undef, undef, undef, undef, undef, undef, undef, undef, undef, undef, undef, undef, undef, undef, undef] [Deferred.mk (Target.fn (Fn.func 69) #[]) #[Value.pointer (some a4)]])) R [] (raised u160 c) H161
| Ending.outgrown => False)))))))) (fun k162 =>
  sB b46 (HCalls Tryz.prog 72 #[Value.pointer x0, Value.int IntKind.i64 x1] H28 (Sp.retK (fun v163 H164 =>
  dT 2 v163 (fun v165 v166 =>
  dSl v165 (fun p167 r168 r169 =>
  dInt IntKind.i64 v166 (fun n170 =>
  sB (n170 != 0) (HCallsD Tryz.prog 69 #[Value.pointer (some a4)] FrameMode.returning H164 (fun e171 u172 H173 =>
  match e171 with
| Ending.returned v => leavesV Tryz.prog Tryz.f25 (Act.tmps (Act.mk #[Value.pointer x0, Value.int IntKind.i64 x1, Value.int IntKind.i64 x2, Value.slice x3a x3n x3c, Value.slice x4a x4n x4c, undef, undef, undef, undef, undef, Value.int IntKind.i64 0, Value.int IntKind.i64 n170, Value.slice p23 r24 r25, Value.bool b26, Value.bool b46, Value.slice none 0 0, Value.slice p167 r168 r169, Value.int IntKind.i64 n170, undef, undef, Value.pointer x0, Value.bool b3, Value.bool !b3, Value.pointer x0, Value.pointer (some a4), Value.pointer (some a4), Value.pointer x0, Value.int IntKind.i64 x1, Value.bool b7, Value.bool !b7, Value.tuple #[Value.slice p23 r24 r25, Value.bool b26], Value.pointer x0, Value.pointer (some a11), Value.pointer (some (Addr.add a11 6)), Value.pointer (some (Addr.add (Addr.add a11 6) 3)), Value.map p13, Value.int IntKind.i64 x1, Value.tuple #[Value.slice p23 r24 r25, Value.bool b26], Value.slice p23 r24 r25, Value.bool b26, v29, v30, v31, v32, v33, v34, v35, v36, v37, v38, v39, v40, v41, v42, v43, v44, v45, Value.bool b46, Value.tuple #[Value.slice p167 r168 r169, Value.int IntKind.i64 n170], Value.pointer x0, Value.int IntKind.i64 x1, Value.tuple #[Value.slice p167 r168 r169, Value.int IntKind.i64 n170], Value.slice p167 r168 r169, Value.int IntKind.i64 n170, Value.int IntKind.i64 n170, Value.bool (n170 != 0), Value.int IntKind.i64 n170, undef, undef, undef, undef, undef, undef, undef, undef, undef, undef, undef, undef, undef, undef, undef, undef, undef, undef, undef, undef, undef, undef, undef, undef, undef, undef, undef, undef, undef, undef, undef, undef, undef, undef, undef, undef, undef, undef, undef, undef, undef, undef, undef, undef, undef, undef] [Deferred.mk (Target.fn (Fn.func 69) #[]) #[Value.pointer (some a4)]])) R [] (settle u172) H173
| Ending.panicked c => leavesV Tryz.prog Tryz.f25 (Act.tmps (Act.mk #[Value.pointer x0, Value.int IntKind.i64 x1, Value.int IntKind.i64 x2, Value.slice x3a x3n x3c, Value.slice x4a x4n x4c, undef, undef, undef, undef, undef, Value.int IntKind.i64 0, Value.int IntKind.i64 n170, Value.slice p23 r24 r25, Value.bool b26, Value.bool b46, Value.slice none 0 0, Value.slice p167 r168 r169, Value.int IntKind.i64 n170, undef, undef, Value.pointer x0, Value.bool b3, Value.bool !b3, Value.pointer x0, Value.pointer (some a4), Value.pointer (some a4), Value.pointer x0, Value.int IntKind.i64 x1, Value.bool b7, Value.bool !b7, Value.tuple #[Value.slice p23 r24 r25, Value.bool b26], Value.pointer x0, Value.pointer (some a11), Value.pointer (some (Addr.add a11 6)), Value.pointer (some (Addr.add (Addr.add a11 6) 3)), Value.map p13, Value.int IntKind.i64 x1, Value.tuple #[Value.slice p23 r24 r25, Value.bool b26], Value.slice p23 r24 r25, Value.bool b26, v29, v30, v31, v32, v33, v34, v35, v36, v37, v38, v39, v40, v41, v42, v43, v44, v45, Value.bool b46, Value.tuple #[Value.slice p167 r168 r169, Value.int IntKind.i64 n170], Value.pointer x0, Value.int IntKind.i64 x1, Value.tuple #[Value.slice p167 r168 r169, Value.int IntKind.i64 n170], Value.slice p167 r168 r169, Value.int IntKind.i64 n170, Value.int IntKind.i64 n170, Value.bool (n170 != 0), Value.int IntKind.i64 n170, undef, undef, undef, undef, undef, undef, undef, undef, undef, undef, undef, undef, undef, undef, undef, undef, undef, undef, undef, undef, undef, undef, undef, undef, undef, undef, undef, undef, undef, undef, undef, undef, undef, undef, undef, undef, undef, undef, undef, undef, undef, undef, undef, undef, undef, undef] [Deferred.mk (Target.fn (Fn.func 69) #[]) #[Value.pointer (some a4)]])) R [] (raised u172 c) H173
| Ending.outgrown => False)) (k162 (Value.slice p167 r168 r169) H164))))) (fun c174 H175 =>
  HCallsD Tryz.prog 69 #[Value.pointer (some a4)] (FrameMode.panicking c174) H175 (fun e176 u177 H178 =>
  match e176 with
| Ending.returned v => leavesV Tryz.prog Tryz.f25 (Act.tmps (Act.mk #[Value.pointer x0, Value.int IntKind.i64 x1, Value.int IntKind.i64 x2, Value.slice x3a x3n x3c, Value.slice x4a x4n x4c, undef, undef, undef, undef, undef, Value.int IntKind.i64 0, Value.int IntKind.i64 0, Value.slice p23 r24 r25, Value.bool b26, Value.bool b46, Value.slice none 0 0, undef, undef, undef, undef, Value.pointer x0, Value.bool b3, Value.bool !b3, Value.pointer x0, Value.pointer (some a4), Value.pointer (some a4), Value.pointer x0, Value.int IntKind.i64 x1, Value.bool b7, Value.bool !b7, Value.tuple #[Value.slice p23 r24 r25, Value.bool b26], Value.pointer x0, Value.pointer (some a11), Value.pointer (some (Addr.add a11 6)), Value.pointer (some (Addr.add (Addr.add a11 6) 3)), Value.map p13, Value.int IntKind.i64 x1, Value.tuple #[Value.slice p23 r24 r25, Value.bool b26], Value.slice p23 r24 r25, Value.bool b26, v29, v30, v31, v32, v33, v34, v35, v36, v37, v38, v39, v40, v41, v42, v43, v44, v45, Value.bool b46, undef, Value.pointer x0, Value.int IntKind.i64 x1, undef, undef, undef, undef, undef, undef, undef, undef, undef, undef, undef, undef, undef, undef, undef, undef, undef, undef, undef, undef, undef, undef, undef, undef, undef, undef, undef, undef, undef, undef, undef, undef, undef, undef, undef, undef, undef, undef, undef, undef, undef, undef, undef, undef, undef, undef, undef, undef, undef, undef, undef, undef] [Deferred.mk (Target.fn (Fn.func 69) #[]) #[Value.pointer (some a4)]])) R [] (settle u177) H178
| Ending.panicked c => leavesV Tryz.prog Tryz.f25 (Act.tmps (Act.mk #[Value.pointer x0, Value.int IntKind.i64 x1, Value.int IntKind.i64 x2, Value.slice x3a x3n x3c, Value.slice x4a x4n x4c, undef, undef, undef, undef, undef, Value.int IntKind.i64 0, Value.int IntKind.i64 0, Value.slice p23 r24 r25, Value.bool b26, Value.bool b46, Value.slice none 0 0, undef, undef, undef, undef, Value.pointer x0, Value.bool b3, Value.bool !b3, Value.pointer x0, Value.pointer (some a4), Value.pointer (some a4), Value.pointer x0, Value.int IntKind.i64 x1, Value.bool b7, Value.bool !b7, Value.tuple #[Value.slice p23 r24 r25, Value.bool b26], Value.pointer x0, Value.pointer (some a11), Value.pointer (some (Addr.add a11 6)), Value.pointer (some (Addr.add (Addr.add a11 6) 3)), Value.map p13, Value.int IntKind.i64 x1, Value.tuple #[Value.slice p23 r24 r25, Value.bool b26], Value.slice p23 r24 r25, Value.bool b26, v29, v30, v31, v32, v33, v34, v35, v36, v37, v38, v39, v40, v41, v42, v43, v44, v45, Value.bool b46, undef, Value.pointer x0, Value.int IntKind.i64 x1, undef, undef, undef, undef, undef, undef, undef, undef, undef, undef, undef, undef, undef, undef, undef, undef, undef, undef, undef, undef, undef, undef, undef, undef, undef, undef, undef, undef, undef, undef, undef, undef, undef, undef, undef, undef, undef, undef, undef, undef, undef, undef, undef, undef, undef, undef, undef, undef, undef, undef, undef, undef] [Deferred.mk (Target.fn (Fn.func 69) #[]) #[Value.pointer (some a4)]])) R [] (raised u177 c) H178
| Ending.outgrown => False)))) (k162 (Value.slice none 0 0) H28)))) (fun k179 =>
  nz x0 (fun a180 =>
  ld H20 (Addr.add a180 6) (fun v181 =>
  dBl v181 (fun b182 =>
  sB b182 (nz x0 (fun a183 =>
  ld H20 (Addr.add (Addr.add a183 6) 1) (fun v184 =>
  dBl v184 (fun b185 =>
  sB (!b185) (k179 (Value.bool !b26) H20) (k179 (Value.bool false) H20))))) (k179 (Value.bool false) H20))))))))))))))) (fun c186 H187 =>
  HCallsD Tryz.prog 69 #[Value.pointer (some a4)] (FrameMode.panicking c186) H187 (fun e188 u189 H190 =>
  match e188 with
| Ending.returned v => leavesV Tryz.prog Tryz.f25 (Act.tmps (Act.mk #[Value.pointer x0, Value.int IntKind.i64 x1, Value.int IntKind.i64 x2, Value.slice x3a x3n x3c, Value.slice x4a x4n x4c, undef, undef, undef, undef, undef, Value.int IntKind.i64 0, Value.int IntKind.i64 0, undef, undef, undef, undef, undef, undef, undef, undef, Value.pointer x0, Value.bool b3, Value.bool !b3, Value.pointer x0, Value.pointer (some a4), Value.pointer (some a4), Value.pointer x0, Value.int IntKind.i64 x1, undef, undef, undef, undef, undef, undef, undef, undef, undef, undef, undef, undef, undef, undef, undef, undef, undef, undef, undef, undef, undef, undef, undef, undef, undef, undef, undef, undef, undef, undef, undef, undef, undef, undef, undef, undef, undef, undef, undef, undef, undef, undef, undef, undef, undef, undef, undef, undef, undef, undef, undef, undef, undef, undef, undef, undef, undef, undef, undef, undef, undef, undef, undef, undef, undef, undef, undef, undef, undef, undef, undef, undef, undef, undef, undef, undef, undef, undef, undef, undef, undef, undef, undef, undef, undef] [Deferred.mk (Target.fn (Fn.func 69) #[]) #[Value.pointer (some a4)]])) R [] (settle u189) H190
| Ending.panicked c => leavesV Tryz.prog Tryz.f25 (Act.tmps (Act.mk #[Value.pointer x0, Value.int IntKind.i64 x1, Value.int IntKind.i64 x2, Value.slice x3a x3n x3c, Value.slice x4a x4n x4c, undef, undef, undef, undef, undef, Value.int IntKind.i64 0, Value.int IntKind.i64 0, undef, undef, undef, undef, undef, undef, undef, undef, Value.pointer x0, Value.bool b3, Value.bool !b3, Value.pointer x0, Value.pointer (some a4), Value.pointer (some a4), Value.pointer x0, Value.int IntKind.i64 x1, undef, undef, undef, undef, undef, undef, undef, undef, undef, undef, undef, undef, undef, undef, undef, undef, undef, undef, undef, undef, undef, undef, undef, undef, undef, undef, undef, undef, undef, undef, undef, undef, undef, undef, undef, undef, undef, undef, undef, undef, undef, undef, undef, undef, undef, undef, undef, undef, undef, undef, undef, undef, undef, undef, undef, undef, undef, undef, undef, undef, undef, undef, undef, undef, undef, undef, undef, undef, undef, undef, undef, undef, undef, undef, undef, undef, undef, undef, undef, undef, undef, undef, undef, undef, undef] [Deferred.mk (Target.fn (Fn.func 69) #[]) #[Value.pointer (some a4)]])) R [] (raised u189 c) H190
| Ending.outgrown => False))))))) (pnR R))
theorem F25_eq (x0 : Option Addr) (x1 : Int) (x2 : Int) (x3a : Option Addr) (x3n : Nat) (x3c : Nat) (x4a : Option Addr) (x4n : Nat) (x4c : Nat) (R : Ending → Heap → Prop) (H : Heap) : F25 x0 x1 x2 x3a x3n x3c x4a x4n x4c R H = vc Tryz.prog (codeOf Tryz.f25) (.node none .leaf (.node none .leaf (.node none .leaf (.node none .leaf (.node none .leaf (.node (some ⟨[(14, 4)], [40, 41, 42, 43, 44, 45, 46, 47, 48, 49, 50, 51, 52, 53, 54, 55, 56]⟩) .leaf (.node none .leaf (.node (some ⟨[(15, 38)], [10, 11, 16, 17, 57, 58, 59, 60, 61, 62, 63, 64, 65, 66, 67]⟩) .leaf (.node none .leaf (.node none .leaf (.node (some ⟨[], [83, 84, 85, 86, 87, 88, 89, 90, 91, 92, 93, 94, 95, 96, 97, 98, 99, 100, 101, 102, 103, 104, 105, 106, 107, 108, 109, 110, 111]⟩) (.node none (.node (some ⟨[(83, 4)], [84, 85, 86, 87, 88, 89, 90, 91, 92, 93, 94, 95, 96, 97, 98]⟩) .leaf .leaf) .leaf) .leaf))))))))))) (postV Tryz.prog Tryz.f25 R) ⟨#[Value.pointer x0, Value.int IntKind.i64 x1, Value.int IntKind.i64 x2, Value.slice x3a x3n x3c, Value.slice x4a x4n x4c] ++ Array.replicate (Tryz.f25.ntmps - 5) undef, []⟩ H := by kernel_rfl
theorem F25_calls {R : Ending → Heap → Prop} {H : Heap} (x0 : Option Addr) (x1 : Int) (x2 : Int) (x3a : Option Addr) (x3n : Nat) (x3c : Nat) (x4a : Option Addr) (x4n : Nat) (x4c : Nat) (h : F25 x0 x1 x2 x3a x3n x3c x4a x4n x4c R H) : HCalls Tryz.prog 25 #[Value.pointer x0, Value.int IntKind.i64 x1, Value.int IntKind.i64 x2, Value.slice x3a x3n x3c, Value.slice x4a x4n x4c] H R :=
  calls_by (F := F25 x0 x1 x2 x3a x3n x3c x4a x4n x4c R H) (.node none .leaf (.node none .leaf (.node none .leaf (.node none .leaf (.node none .leaf (.node (some ⟨[(14, 4)], [40, 41, 42, 43, 44, 45, 46, 47, 48, 49, 50, 51, 52, 53, 54, 55, 56]⟩) .leaf (.node none .leaf (.node (some ⟨[(15, 38)], [10, 11, 16, 17, 57, 58, 59, 60, 61, 62, 63, 64, 65, 66, 67]⟩) .leaf (.node none .leaf (.node none .leaf (.node (some ⟨[], [83, 84, 85, 86, 87, 88, 89, 90, 91, 92, 93, 94, 95, 96, 97, 98, 99, 100, 101, 102, 103, 104, 105, 106, 107, 108, 109, 110, 111]⟩) (.node none (.node (some ⟨[(83, 4)], [84, 85, 86, 87, 88, 89, 90, 91, 92, 93, 94, 95, 96, 97, 98]⟩) .leaf .leaf) .leaf) .leaf))))))))))) Tryz.func25 rfl (F25_eq x0 x1 x2 x3a x3n x3c x4a x4n x4c R H) h
end Go.Proofs.YtngploohhmfaiaaGreat.E
