/- Contracts of functions. -/
import Derived.Test.YtngploohhmfaiaaGreatProg
import Derived.KernelRfl
import Derived.Test.YtngploohhmfaiaaGreatLib2
import Derived.Test.YtngploohhmfaiaaGreatLib7
import Derived.Test.YtngploohhmfaiaaGreatTys
namespace Go.Proofs.YtngploohhmfaiaaGreat.E
open Go Go.Proofs
set_option linter.unusedVariables false

/-- a write on its way -/
structure SentM where
  id : Int
  blk : Int
  by_ : List UInt8
/-- what a disk is -/
structure DiskM where
  blocks : List (List UInt8)
  queue : List SentM
  fails : Int → Int
  last : Int
def DiskM.has (D : DiskM) (b : Int) : Prop := 0 ≤ b ∧ b < D.blocks.length
instance (D : DiskM) (b : Int) : Decidable (D.has b) := by unfold DiskM.has; infer_instance
/-- a slice's value: address, length, capacity -/
abbrev Hd := Option Addr × Nat
def hv (n : Nat) (p : Hd) : Value := .slice p.1 n p.2
def hd1 (p : Hd) : List Value := [.slice p.1 128 p.2]
def qv (q : Int × Int × Hd) : List Value := [.int .i64 q.1, .int .i64 q.2.1, .slice q.2.2.1 128 q.2.2.2]
theorem hd1_len (p : Hd) : (hd1 p).length = 1 := rfl
theorem qv_len (q : Int × Int × Hd) : (qv q).length = 3 := rfl
/-- so many bytes lie behind a slice's value -/
structure ByAt (s : TH) (τ : Nat) (p : Hd) (b : List UInt8) : Prop where
  sl : Sl s p.1 (bvs b) τ
  len : b.length = 128
theorem ByAt.mv {s s' : TH} {τ : Nat} {p : Hd} {b : List UInt8} {C : Nat → Prop} (h : ByAt s τ p b) (c : Chg C s s') (hn : ∀ j, j < s.h.size → s.g j = τ → ¬ C j) : ByAt s' τ p b := ⟨h.sl.mv c hn, h.len⟩
theorem ByAt.ne {s : TH} {τ : Nat} {p : Hd} {b : List UInt8} (h : ByAt s τ p b) : ∃ a, p.1 = some a := h.sl.some fun e => by have := congrArg List.length e; rw [bvs_len, h.len] at this; cases this
/-- rows of bytes -/
structure BRel (s : TH) (τ : Nat) (hs : List Hd) (bs : List (List UInt8)) : Prop where
  len : hs.length = bs.length
  at_ : ∀ (i : Nat) (p : Hd) (b : List UInt8), hs[i]? = some p → bs[i]? = some b → ByAt s τ p b
structure QRel (s : TH) (τ : Nat) (qs : List (Int × Int × Hd)) (q : List SentM) : Prop where
  len : qs.length = q.length
  at_ : ∀ (i : Nat) (x : Int × Int × Hd) (m : SentM), qs[i]? = some x → q[i]? = some m → x.1 = m.id ∧ x.2.1 = m.blk ∧ ByAt s τ x.2.2 m.by_
theorem BRel.mv {s s' : TH} {τ : Nat} {hs : List Hd} {bs : List (List UInt8)} {C : Nat → Prop} (h : BRel s τ hs bs) (c : Chg C s s') (hn : ∀ j, j < s.h.size → s.g j = τ → ¬ C j) : BRel s' τ hs bs := ⟨h.len, fun i p b h1 h2 => (h.at_ i p b h1 h2).mv c hn⟩
theorem QRel.mv {s s' : TH} {τ : Nat} {hs : List (Int × Int × Hd)} {bs : List SentM} {C : Nat → Prop} (h : QRel s τ hs bs) (c : Chg C s s') (hn : ∀ j, j < s.h.size → s.g j = τ → ¬ C j) : QRel s' τ hs bs := ⟨h.len, fun i p b h1 h2 => ⟨(h.at_ i p b h1 h2).1, (h.at_ i p b h1 h2).2.1, (h.at_ i p b h1 h2).2.2.mv c hn⟩⟩
theorem qcell0 {qs : List (Int × Int × Hd)} {m : Nat} {x : Int × Int × Hd} (h : qs[m]? = some x) : (qs.flatMap qv)[m * 3]? = some (.int .i64 x.1) := fm_get qv_len qs m 0 x h (by omega)
theorem qcell1 {qs : List (Int × Int × Hd)} {m : Nat} {x : Int × Int × Hd} (h : qs[m]? = some x) : (qs.flatMap qv)[m * 3 + 1]? = some (.int .i64 x.2.1) := fm_get qv_len qs m 1 x h (by omega)
theorem qcell2 {qs : List (Int × Int × Hd)} {m : Nat} {x : Int × Int × Hd} (h : qs[m]? = some x) : (qs.flatMap qv)[m * 3 + 2]? = some (.slice x.2.2.1 128 x.2.2.2) := fm_get qv_len qs m 2 x h (by omega)
theorem bcell {hs : List Hd} {m : Nat} {x : Hd} (h : hs[m]? = some x) : (hs.flatMap hd1)[m]? = some (.slice x.1 128 x.2) := by
  have := fm_get hd1_len hs m 0 x h (by omega); simpa [hd1] using this
def ixr {α : Type} (p : α → Bool) : List α → Nat → Int
  | [], _ => -1
  | x :: l, i => if p x = true then (i : Int) else ixr p l (i + 1)
def ixf {α : Type} (p : α → Bool) (l : List α) : Int := ixr p l 0
theorem ixr_some {α : Type} {p : α → Bool} : ∀ (l : List α) (i k : Nat) (x : α), l[k]? = some x → p x = true → (∀ (j : Nat) (y : α), j < k → l[j]? = some y → p y = false) → ixr p l i = ((i + k : Nat) : Int)
  | [], i, k, x, h, _, _ => by simp at h
  | y :: l, i, 0, x, h, hp, _ => by simp at h; subst h; simp [ixr, hp]
  | y :: l, i, k + 1, x, h, hp, ha => by
    have := ha 0 y (by omega) (by simp)
    rw [ixr, if_neg (by simp [this]), ixr_some l (i + 1) k x (by simpa using h) hp (fun j z hj hz => ha (j + 1) z (by omega) (by simpa using hz))]
    omega
theorem ixr_none {α : Type} {p : α → Bool} : ∀ (l : List α) (i : Nat), (∀ (j : Nat) (y : α), j < l.length → l[j]? = some y → p y = false) → ixr p l i = -1
  | [], i, _ => rfl
  | y :: l, i, ha => by
    have := ha 0 y (by simp) (by simp)
    rw [ixr, if_neg (by simp [this])]
    exact ixr_none l (i + 1) fun j z hj hz => ha (j + 1) z (by simpa using hj) (by simpa using hz)
theorem ixf_some {α : Type} {p : α → Bool} {l : List α} {k : Nat} {x : α} (h : l[k]? = some x) (hp : p x = true) (ha : ∀ (j : Nat) (y : α), j < k → l[j]? = some y → p y = false) : ixf p l = (k : Int) := by
  have := ixr_some l 0 k x h hp ha; simpa [ixf] using this
theorem ixf_none {α : Type} {p : α → Bool} {l : List α} (ha : ∀ (j : Nat) (y : α), j < l.length → l[j]? = some y → p y = false) : ixf p l = -1 := ixr_none l 0 ha
theorem ixf_cases {α : Type} (p : α → Bool) : ∀ (l : List α), (ixf p l = -1 ∧ ∀ x ∈ l, p x = false) ∨ ∃ (k : Nat) (x : α), ixf p l = k ∧ l[k]? = some x ∧ p x = true := by
  intro l
  by_cases h : ∀ x ∈ l, p x = false
  · left; exact ⟨ixf_none fun j y hj hy => h y (List.mem_of_getElem? hy), h⟩
  · right
    have : ∃ k x, l[k]? = some x ∧ p x = true ∧ ∀ (j : Nat) (y : α), j < k → l[j]? = some y → p y = false := by
      induction l with
      | nil => simp at h
      | cons y l ih =>
        by_cases hy : p y = true
        · exact ⟨0, y, by simp, hy, fun j z hj => by omega⟩
        · obtain ⟨k, x, h1, h2, h3⟩ := ih (by intro h'; apply h; intro x hx; rcases List.mem_cons.1 hx with rfl | hx <;> first | exact h' _ hx | simpa using hy)
          refine ⟨k + 1, x, by simpa using h1, h2, fun j z hj hz => ?_⟩
          cases j with
          | zero => simp at hz; subst hz; simpa using hy
          | succ j => exact h3 j z (by omega) (by simpa using hz)
    obtain ⟨k, x, h1, h2, h3⟩ := this
    exact ⟨k, x, ixf_some h1 h2 h3, h1, h2⟩
theorem ixr_rel {s : TH} {τ : Nat} (p : Int × Int × Hd → Bool) (q : SentM → Bool) (hpq : ∀ x m, x.1 = m.id → x.2.1 = m.blk → p x = q m) : ∀ (qs : List (Int × Int × Hd)) (l : List SentM) (i : Nat), QRel s τ qs l → ixr p qs i = ixr q l i
  | [], [], i, _ => rfl
  | [], _ :: _, i, h => by have := h.len; simp at this
  | _ :: _, [], i, h => by have := h.len; simp at this
  | x :: qs, m :: l, i, h => by
    have h0 := h.at_ 0 x m (by simp) (by simp)
    rw [ixr, ixr, hpq x m h0.1 h0.2.1, ixr_rel p q hpq qs l (i + 1) ⟨by have := h.len; simpa using this, fun j y n hy hn => h.at_ (j + 1) y n (by simpa using hy) (by simpa using hn)⟩]
theorem ixf_qrel {s : TH} {τ : Nat} {qs : List (Int × Int × Hd)} {l : List SentM} (h : QRel s τ qs l) (p : Int × Int × Hd → Bool) (q : SentM → Bool) (hpq : ∀ x m, x.1 = m.id → x.2.1 = m.blk → p x = q m) : ixf p qs = ixf q l := ixr_rel p q hpq qs l 0 h
def DiskM.write (D : DiskM) (b : Int) (x : List UInt8) : DiskM × Int × Int :=
  if ¬ D.has b then (D, 0, 1)
  else if x.length ≠ 128 then (D, 0, 1)
  else if ixf (fun m : SentM => m.blk == b) D.queue ≥ 0 then (D, 0, 21)
  else if 64 ≤ D.queue.length then (D, 0, 3)
  else ({ D with queue := D.queue ++ [⟨D.last + 1, b, x⟩], last := D.last + 1 }, D.last + 1, 0)
theorem write_1 {D : DiskM} {b : Int} {x : List UInt8} (h : ¬ D.has b ∨ x.length ≠ 128) : D.write b x = (D, 0, 1) := by
  unfold DiskM.write
  by_cases h1 : D.has b
  · rw [if_neg (by simpa using h1), if_pos (h.resolve_left (by simpa using h1))]
  · rw [if_pos h1]
theorem write_2 {D : DiskM} {b : Int} {x : List UInt8} (h : D.has b) (h2 : x.length = 128) (h3 : ixf (fun m : SentM => m.blk == b) D.queue ≥ 0) : D.write b x = (D, 0, 21) := by
  unfold DiskM.write; rw [if_neg (by simpa using h), if_neg (by simpa using h2), if_pos h3]
theorem write_3 {D : DiskM} {b : Int} {x : List UInt8} (h : D.has b) (h2 : x.length = 128) (h3 : ¬ ixf (fun m : SentM => m.blk == b) D.queue ≥ 0) (h4 : 64 ≤ D.queue.length) : D.write b x = (D, 0, 3) := by
  unfold DiskM.write; rw [if_neg (by simpa using h), if_neg (by simpa using h2), if_neg h3, if_pos h4]
theorem write_4 {D : DiskM} {b : Int} {x : List UInt8} (h : D.has b) (h2 : x.length = 128) (h3 : ¬ ixf (fun m : SentM => m.blk == b) D.queue ≥ 0) (h4 : ¬ 64 ≤ D.queue.length) : D.write b x = ({ D with queue := D.queue ++ [⟨D.last + 1, b, x⟩], last := D.last + 1 }, D.last + 1, 0) := by
  unfold DiskM.write; rw [if_neg (by simpa using h), if_neg (by simpa using h2), if_neg h3, if_neg h4]
theorem one_fm (qs : List (Int × Int × Hd)) (i : Nat) : ∀ u ∈ (qs.flatMap qv).drop i, u.oneCell' = true := by
  intro u hu
  have := List.mem_of_mem_drop hu
  simp only [List.mem_flatMap, qv] at this
  obtain ⟨q, _, hq⟩ := this
  simp at hq
  rcases hq with rfl | rfl | rfl <;> rfl
def DiskM.complete (D : DiskM) (id : Int) (ok : Bool) : DiskM × Int :=
  match D.queue[(ixf (fun m : SentM => m.id == id) D.queue).toNat]? with
  | none => (D, 20)
  | some m => if ixf (fun m : SentM => m.id == id) D.queue < 0 then (D, 20)
    else if ok = false then ({ D with queue := D.queue.eraseIdx (ixf (fun m : SentM => m.id == id) D.queue).toNat }, 4)
    else ({ D with queue := D.queue.eraseIdx (ixf (fun m : SentM => m.id == id) D.queue).toNat, blocks := D.blocks.set m.blk.toNat m.by_ }, 0)
theorem compl_1 {D : DiskM} {id : Int} {ok : Bool} (h : ixf (fun m : SentM => m.id == id) D.queue < 0) : D.complete id ok = (D, 20) := by
  unfold DiskM.complete; split
  · rfl
  · rw [if_pos h]
theorem compl_2 {D : DiskM} {id : Int} {i : Nat} {m : SentM} (h : ixf (fun m : SentM => m.id == id) D.queue = i) (hm : D.queue[i]? = some m) : D.complete id false = ({ D with queue := D.queue.eraseIdx i }, 4) := by
  unfold DiskM.complete; rw [h, Int.toNat_natCast, hm]; simp only; rw [if_neg (by omega)]; simp
theorem compl_3 {D : DiskM} {id : Int} {i : Nat} {m : SentM} (h : ixf (fun m : SentM => m.id == id) D.queue = i) (hm : D.queue[i]? = some m) : D.complete id true = ({ D with queue := D.queue.eraseIdx i, blocks := D.blocks.set m.blk.toNat m.by_ }, 0) := by
  unfold DiskM.complete; rw [h, Int.toNat_natCast, hm]; simp only; rw [if_neg (by omega), if_neg (by simp)]
theorem fm_set1 (hs : List Hd) (j : Nat) (p : Hd) : (hs.flatMap hd1).set j (.slice p.1 128 p.2) = (hs.set j p).flatMap hd1 := by
  have e : ∀ l : List Hd, l.flatMap hd1 = l.map fun p => .slice p.1 128 p.2 := fun l => by induction l with | nil => rfl | cons x l ih => simp [hd1, ih]
  rw [e, e, List.map_set]
theorem BRel.set {s : TH} {τ : Nat} {hs : List Hd} {bs : List (List UInt8)} (h : BRel s τ hs bs) (j : Nat) {p : Hd} {b : List UInt8} (hp : ByAt s τ p b) : BRel s τ (hs.set j p) (bs.set j b) := by
  refine ⟨by simp [h.len], fun i x y hx hy => ?_⟩
  rw [List.getElem?_set] at hx hy
  by_cases hij : j = i
  · subst hij
    rw [if_pos rfl] at hx hy
    split at hx
    · split at hy
      · cases hx; cases hy; exact hp
      · cases hy
    · cases hx
  · rw [if_neg hij] at hx hy; exact h.at_ i x y hx hy
theorem fm_erase {α : Type} {f : α → List Value} {k : Nat} (hf : ∀ x, (f x).length = k) (l : List α) (i : Nat) : (l.flatMap f).take (i * k) ++ (l.flatMap f).drop ((i + 1) * k) = (l.eraseIdx i).flatMap f := by
  rw [fm_take hf, fm_drop hf, ← List.flatMap_append, List.eraseIdx_eq_take_drop_succ]
theorem QRel.erase {s : TH} {τ : Nat} {qs : List (Int × Int × Hd)} {q : List SentM} (h : QRel s τ qs q) (i : Nat) : QRel s τ (qs.eraseIdx i) (q.eraseIdx i) := by
  refine ⟨by simp [List.length_eraseIdx, h.len], fun j y n hy hn => ?_⟩
  rw [List.getElem?_eraseIdx] at hy hn
  split at hy
  · rename_i hj; rw [if_pos hj] at hn; exact h.at_ j y n hy hn
  · rename_i hj; rw [if_neg hj] at hn; exact h.at_ (j + 1) y n hy hn
theorem QRel.snoc {s : TH} {τ : Nat} {qs : List (Int × Int × Hd)} {q : List SentM} (h : QRel s τ qs q) {x : Int × Int × Hd} {m : SentM} (hx : x.1 = m.id ∧ x.2.1 = m.blk ∧ ByAt s τ x.2.2 m.by_) : QRel s τ (qs ++ [x]) (q ++ [m]) := by
  refine ⟨by simp [h.len], fun i y n hy hn => ?_⟩
  by_cases hi : i < q.length
  · rw [List.getElem?_append_left (by rw [h.len]; exact hi)] at hy
    rw [List.getElem?_append_left hi] at hn
    exact h.at_ i y n hy hn
  · rw [List.getElem?_append_right (by rw [h.len]; omega)] at hy
    rw [List.getElem?_append_right (by omega)] at hn
    rw [h.len] at hy
    cases hd : i - q.length with
    | zero => rw [hd] at hy hn; simp at hy hn; subst hy hn; exact hx
    | succ k => rw [hd] at hy; simp at hy
/-- of a block how many of its reads fail -/
def FailsOk (fm : List (Int × Value)) (f : Int → Int) : Prop := ∀ b, (mget b fm).getD (.int .i64 0) = .int .i64 (f b)
/-- a disk of the program in memory, its parts -/
structure DiskP (s : TH) (d T : Nat) (D : DiskM) (pa : Option Addr) (pc : Nat) (qa : Option Addr) (qc : Nat) (hs : List Hd) (qs : List (Int × Int × Hd)) (fr : Nat) (fm : List (Int × Value)) : Prop where
  blk : Blk s d [.slice pa D.blocks.length pc, .slice qa D.queue.length qc, .map (some fr), .int .i64 D.last] 133 T
  rows : Own s pa D.blocks.length pc 38 1 (hs.flatMap hd1) (T + 1)
  brel : BRel s (T + 3) hs D.blocks
  que : Own s qa D.queue.length qc 96 3 (qs.flatMap qv) (T + 2)
  qrel : QRel s (T + 3) qs D.queue
  fails : MapK (Value.int .i64) s fr fm (T + 4)
  fok : FailsOk fm D.fails
  nb : 1 ≤ D.blocks.length ∧ D.blocks.length ≤ 2048
  nq : D.queue.length ≤ 64
  qin : ∀ m ∈ D.queue, 0 ≤ m.blk ∧ m.blk < D.blocks.length
def Disk (s : TH) (d T : Nat) (D : DiskM) : Prop := ∃ pa pc qa qc hs qs fr fm, DiskP s d T D pa pc qa qc hs qs fr fm
theorem DiskP.mv {s s' : TH} {d T : Nat} {D : DiskM} {pa : Option Addr} {pc : Nat} {qa : Option Addr} {qc : Nat} {hs : List Hd} {qs : List (Int × Int × Hd)} {fr : Nat} {fm : List (Int × Value)} {C : Nat → Prop}
    (h : DiskP s d T D pa pc qa qc hs qs fr fm) (c : Chg C s s') (hn : ∀ j, j < s.h.size → T ≤ s.g j → s.g j < T + 10 → ¬ C j) : DiskP s' d T D pa pc qa qc hs qs fr fm :=
  ⟨h.blk.mv c (of_rng hn (Nat.le_refl _) (by omega) d h.blk.lt h.blk.tag), h.rows.mv c (of_rng hn (by omega) (by omega)), h.brel.mv c (of_rng hn (by omega) (by omega)), h.que.mv c (of_rng hn (by omega) (by omega)), h.qrel.mv c (of_rng hn (by omega) (by omega)),
    h.fails.mv c (of_rng hn (by omega) (by omega) fr h.fails.lt h.fails.tag), h.fok, h.nb, h.nq, h.qin⟩
theorem Disk.mv {s s' : TH} {d T : Nat} {D : DiskM} {C : Nat → Prop} (h : Disk s d T D) (c : Chg C s s') (hn : ∀ j, j < s.h.size → T ≤ s.g j → s.g j < T + 10 → ¬ C j) : Disk s' d T D := by
  obtain ⟨pa, pc, qa, qc, hs, qs, fr, fm, h⟩ := h
  exact ⟨pa, pc, qa, qc, hs, qs, fr, fm, h.mv c hn⟩

end Go.Proofs.YtngploohhmfaiaaGreat.E
