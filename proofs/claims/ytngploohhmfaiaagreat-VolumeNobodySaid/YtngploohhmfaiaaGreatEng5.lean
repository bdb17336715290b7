/- The engine, part 5: what is made, converted, called; and all operations under one name. -/
import Derived.Test.YtngploohhmfaiaaGreatEng4
import Derived.Laws.Tables
import Derived.Laws.MakeOwn
namespace Go.Proofs.YtngploohhmfaiaaGreat.E
open Go
set_option linter.unusedVariables false

/-- n times a row of cells -/
def rowZ (z : List Value) (n : Nat) : List Value := (List.replicate n z).flatten
theorem rowZ_length (z : List Value) (n : Nat) : (rowZ z n).length = n * z.length := by simp [rowZ]
theorem rowZ_get (z : List Value) : ∀ (n j : Nat), j < n * z.length → (rowZ z n)[j]? = z[j % z.length]?
  | 0, j, h => by omega
  | n + 1, j, h => by
    have e : rowZ z (n + 1) = z ++ rowZ z n := by simp [rowZ, List.replicate_succ]
    rw [e]
    by_cases hj : j < z.length
    · rw [List.getElem?_append_left hj, Nat.mod_eq_of_lt hj]
    · have h1 : z.length ≤ j := by omega
      have h2 : (n + 1) * z.length = n * z.length + z.length := Nat.succ_mul n z.length
      rw [List.getElem?_append_right h1, rowZ_get z n (j - z.length) (by omega), ← Nat.mod_eq_sub_mod h1]
theorem made_eq (z : Array Value) (n size : Nat) (hs : z.size = size) : madeCells z (n * size) = (rowZ z.toList n).toArray := by
  subst hs
  apply Array.ext_getElem?
  intro j
  by_cases hj : j < n * z.size
  · have hpos : 0 < z.size := by
      rcases Nat.eq_zero_or_pos z.size with h | h
      · rw [h] at hj; omega
      · exact h
    have hm : j % z.size < z.size := Nat.mod_lt _ hpos
    have h1 : (rowZ z.toList n)[j]? = some z[j % z.size] := by
      rw [rowZ_get z.toList n j (by simpa using hj)]
      simp [hm]
    have h2 : z[j % z.size]! = z[j % z.size] := by simp [hm]
    simp [madeCells, hj, h1, h2]
  · have h1 : (rowZ z.toList n)[j]? = none := by
      rw [List.getElem?_eq_none]; rw [rowZ_length]; simpa using Nat.not_lt.1 hj
    simp [madeCells, hj, h1]

def newP (P : Program) (cs : Array Value) (e : TypeId) : Sp Addr := (Sp.new (.cells cs e)).bind fun r => .pure ⟨r, 0, none⟩
theorem gives_row (P : Program) (e : TypeId) (cs : Array Value) : Gives P (newRow e cs) (newP P cs e) := fun K E w hx =>
  ⟨hx, rfl, rfl, rfl⟩
def allocS (P : Program) (t : TypeId) : Sp Value := (zeroS P t).bind fun z => (newP P z.cells t).bind fun a => .pure (.pointer (some a))
theorem gives_alloc (P : Program) (t : TypeId) : Gives P (Instr.alloc t true (.tuple #[])) (allocS P t) :=
  (gives_zero (b := false) P t).gives.bind fun z => (gives_row P t z.cells).bind fun a => .pure _
def boxS (P : Program) (t : TypeId) (v : Value) : Sp Value := (newP P v.cells t).bind fun a => .pure (.pointer (some a))
theorem gives_box (P : Program) (t : TypeId) (v : Value) : Gives P (Instr.box t v) (boxS P t v) := (gives_row P t v.cells).bind fun a => .pure _
def buildS (P : Program) (t : TypeId) (parts : List (Nat × Value)) : Sp Value := match P.built t parts with | some cs => .pure (.agg cs) | none => .fail
theorem gives_build {q : Bool} (P : Program) (t : TypeId) (parts : Array (Nat × Value)) : Gq q P (Instr.build t parts) (buildS P t parts.toList) := by
  unfold buildS
  cases hb : P.built t parts.toList with
  | none => exact Gq.fail _
  | some cs => exact Gq.of_run fun w => run_build w t parts cs hb
def buildSl (P : Program) (t : TypeId) (n : Nat) (parts : List (Nat × Value)) : Sp Value :=
  match P.underlying t with
  | some (.slice e) => (infoS P e).bind fun i => (zeroS P e).bind fun z => (Sp.guard (Nat.beq z.cells.size i.size && Nat.ble (n * i.size) 16777216)).bind fun _ =>
    match Instr.fill (fun j => some (j * i.size, i.size)) (rowZ z.cells.toList n).toArray parts with
    | some cs => (newP P cs e).bind fun a => .pure (.slice (some a) n n)
    | none => .fail
  | _ => .fail
theorem Gives.zero {α : Type} {P : Program} {s : Sem α} {t : TypeId} {g : Value → Sp α} (h : ∀ z, (∀ w, (zeroValue t).run P w = .ok z w) → Gives P s (g z)) : Gives P s ((zeroS P t).bind g) := by
  intro K E w hx
  have hx' : ((infoS P t).bind fun i => (match i.zero with | some v => Sp.pure v | none => Sp.fail).bind g).run K E w.heap := hx
  refine Gives.info (g := fun i => (match i.zero with | some v => Sp.pure v | none => Sp.fail).bind g) (fun i hi => ?_) K E w hx'
  cases hz : i.zero with
  | none => exact fun _ _ _ h => h.elim
  | some z => exact h z fun w => by simp [zeroValue, run_typeInfo hi, hz]
theorem gives_buildSl (P : Program) (t : TypeId) (n : Nat) (parts : Array (Nat × Value)) : Gives P (Instr.buildSlice t n parts) (buildSl P t n parts.toList) := by
  unfold buildSl
  split
  · rename_i e hd
    refine Gives.info fun i hi => Gives.zero fun z hz => Gives.guard fun hb => ?_
    rw [Bool.and_eq_true] at hb
    have h1 : z.cells.size = i.size := Nat.eq_of_beq_eq_true hb.1
    have h2 : n * i.size ≤ 16777216 := Nat.le_of_ble_eq_true hb.2
    have h3 : ¬ (n * i.size > 2 ^ 24) := by omega
    have hm := made_eq z.cells n i.size h1
    cases hf : Instr.fill (fun j => some (j * i.size, i.size)) (rowZ z.cells.toList n).toArray parts.toList with
    | none => exact .fail _
    | some cs =>
      rw [← hm] at hf
      have hsz : ∀ w, (sizeOf e).run P w = .ok i.size w := fun w => by simp [sizeOf, run_typeInfo hi]
      intro K E w hx
      have hgoal : (Instr.buildSlice t n parts).run P w = .ok (.slice (some ⟨w.heap.size, 0, none⟩) n n) { w with heap := w.heap.push (.cells cs e) } := by
        unfold Instr.buildSlice
        rw [Sem.run_bind, run_under hd]
        simp only [Result.andThen_ok]
        rw [Sem.run_bind, hsz]
        simp only [Result.andThen_ok]
        rw [if_neg h3]
        by_cases h0 : n * i.size = 0
        · have hf' := hf
          rw [h0] at hf'
          have he : madeCells z.cells 0 = #[] := by simp [madeCells]
          rw [he] at hf'
          simp [h0, newRow, Array.range_zero', hf']
        · unfold madeCells at hf
          simp [h0, hz, newRow, hf]
      rw [hgoal]
      exact ⟨hx, rfl, rfl, rfl⟩
  · exact .fail _

def makeS (P : Program) (t : TypeId) (l c : Value) : Sp Value :=
  match P.underlying t with
  | some (.slice e) => (Sp.int' l).bind fun m => (Sp.int' c).bind fun n => (infoS P e).bind fun i => (zeroS P e).bind fun z => (Sp.guard (Nat.beq z.cells.size i.size)).bind fun _ =>
    (Sp.asking (0 ≤ m.2 ∧ m.2 ≤ n.2 ∧ (i.bytes : Int) * n.2 ≤ 281474976710656 ∧ n.2 ≤ 9223372036854775807)).bind fun _ =>
    (newP P (rowZ z.cells.toList n.2.toNat).toArray e).bind fun a => .pure (.slice (some a) m.2.toNat n.2.toNat)
  | _ => .fail
theorem gives_make (P : Program) (t : TypeId) (l c : Value) : Gives P (Instr.makeSlice t l c) (makeS P t l c) := by
  unfold makeS
  split
  · rename_i e hd
    refine Gives.int' fun kl m hl => Gives.int' fun kc n hc => Gives.info fun i hi => ?_
    intro K E w hx
    unfold zeroS infoS at hx
    rw [hi] at hx
    cases hz : i.zero with
    | none => simp only [Sp.bind, Sp.pure, hz] at hx; exact hx.elim
    | some z =>
      simp only [Sp.bind, Sp.pure, hz] at hx
      obtain ⟨hb, hx⟩ := gB_elim hx
      obtain ⟨⟨h0, h1, h2, h3⟩, hx⟩ := hx
      have hs : z.cells.size = i.size := Nat.eq_of_beq_eq_true hb
      subst hl hc
      rw [run_make w t e i z hd hi hz kl kc m n h0 h1 h2 h3, made_eq z.cells n.toNat i.size hs]
      exact ⟨hx, rfl, rfl, rfl⟩
  · exact .fail _

def convS (P : Program) (s d : TypeId) (v : Value) : Sp Value :=
  match P.underlying s, P.underlying d with
  | some (.int _), some (.int k) => (Sp.int' v).bind fun n => wrS k n.2
  | some .string, some .string => (Sp.str v).bind fun x => .pure (.string x)
  | _, _ => (Sp.sem P (convert s d v)).bind fun v => destr P d v
def plainConv (P : Program) (s d : TypeId) : Bool :=
  match P.underlying s, P.underlying d with
  | some (.int _), some (.int _) => true
  | some .string, some .string => true
  | _, _ => false
theorem gives_convq {q : Bool} (P : Program) (s d : TypeId) (v : Value) (hp : plainConv P s d = true) : Gq q P (convert s d v) (convS P s d v) := by
  unfold plainConv at hp
  unfold convS
  split at hp
  · rename_i j k hs hd
    refine Gq.int' fun kk n hn => fun K E H hx => ⟨.int k (k.wrap n), hx, fun w _ => ?_⟩
    subst hn
    simp [convert, run_under hs, run_under hd, Conv.intToInt]
  · rename_i hs hd
    refine Gq.str fun x hx => Gq.of_run fun w => ?_
    subst hx
    simp [convert, run_under hs, run_under hd]
  · cases hp
theorem gives_conv (P : Program) (s d : TypeId) (v : Value) : Gives P (convert s d v) (convS P s d v) := by
  cases hp : plainConv P s d with
  | true => exact (gives_convq (q := false) P s d v hp).gives
  | false =>
    unfold plainConv at hp
    unfold convS
    split
    · rename_i h1 h2; rw [h1, h2] at hp; cases hp
    · rename_i h1 h2; rw [h1, h2] at hp; cases hp
    · exact Gives.destr (Gives.sem _)
def unS (P : Program) (op : UnOp) (v : Value) : Sp Value :=
  match op, v with
  | .not, .bool b => .pure (.bool (!b))
  | .neg, .int k n => wrS k (0 - n)
  | op, v => Sp.sem P (Op.unary op v)
def plainUn (op : UnOp) (v : Value) : Bool := match op, v with
  | .not, .bool _ => true
  | .neg, .int _ _ => true
  | _, _ => false
theorem gives_unq {q : Bool} (P : Program) (op : UnOp) (v : Value) (hp : plainUn op v = true) : Gq q P (Op.unary op v) (unS P op v) := by
  unfold plainUn at hp
  split at hp
  · exact Gq.pure _
  · exact gives_wr P _ _
  · cases hp
theorem gives_un (P : Program) (op : UnOp) (v : Value) : Gives P (Op.unary op v) (unS P op v) := by
  unfold unS
  split
  · exact .pure _
  · exact (gives_wr (q := false) P _ _).gives
  · exact .sem _
def ifaceS (P : Program) (t : TypeId) (v : Value) : Sp Value :=
  match P.underlying t with
  | some (.interface _) => .fail
  | none => .fail
  | _ => .pure (.iface t v)
theorem gives_iface {q : Bool} (P : Program) (t : TypeId) (v : Value) : Gq q P (Instr.makeInterface t v) (ifaceS P t v) := by
  unfold Instr.makeInterface ifaceS
  refine gives_underlying P t _ _ (fun d hd => ?_) (fun hd => ?_)
  · rw [hd]; cases d <;> first | exact .pure _ | exact .fail _
  · rw [hd]; exact fun _ _ _ h => h
def moveS (v : Value) : Sp Value := .pure v
theorem gives_move {q : Bool} (P : Program) (v : Value) : Gq q P (Pure.pure v) (moveS v) := Gq.pure _
def extS (v : Value) (i : Nat) : Sp Value :=
  match v with
  | .tuple vs => match vs.toList[i]? with
    | some u => .pure u
    | none => .fail
  | _ => .fail
theorem gives_ext {q : Bool} (P : Program) (v : Value) (i : Nat) : Gq q P (Instr.extract v i) (extS v i) := by
  unfold extS
  split
  · rename_i vs
    unfold Instr.extract
    cases h : vs.toList[i]? with
    | none => exact .fail _
    | some u =>
      have h' : vs[i]? = some u := by simpa using h
      simp only [h']; exact .pure _
  · exact .fail _
end Go.Proofs.YtngploohhmfaiaaGreat.E
