/- My own texts, joined. -/
import Derived.Defers
import Derived.Laws.Build
import Derived.Laws.Externs
import Derived.Laws.MakeOwn
import Derived.Laws.Slices
import Derived.Laws.Tables
import Derived.Orders
import Derived.Test.YtklppdodadkcnaaGreatIC1
namespace Go.Proofs.YtklppdodadkcnaaGreat.E
open Go
set_option linter.unusedVariables false
def partS (P : Program) (t : TypeId) (cs : Array Value) (off : Nat) : Sp Value :=
 (aggOf P t).bind fun b => match b with
  | true => (infoS P t).bind fun i => .pure (.agg (cs.extract off (off + i.size)))
  | false => Sp.opt cs.toList[off]?
theorem gives_part {q : Bool} (P : Program) (t : TypeId) (cs : Array Value) (off : Nat) : Gq q P (part t cs off) (partS P t cs off) := by
 refine (gives_agg P t).bind fun b => ?_
 cases b with
 | true => exact fun K E w hx => (Gq.bind (gives_size P t) (g := fun n => Sp.pure (Value.agg (cs.extract off (off + n)))) fun n => Gq.pure _) K E w hx
 | false =>
  simp only [Bool.false_eq_true, if_false]
  intro K E H hx
  cases h : cs[off]? with
  | none =>
   have h' : cs.toList[off]? = none := by simpa using h
   have hx : oV cs.toList[off]? (fun v => K v H) := hx
   rw [h'] at hx; exact hx.elim
  | some v =>
   have h' : cs.toList[off]? = some v := by simpa using h
   have hx : oV cs.toList[off]? (fun v => K v H) := hx
   rw [h'] at hx; exact ⟨v, hx, fun _ _ => rfl⟩
def fieldS (P : Program) (s : TypeId) (v : Value) (n : Nat) : Sp Value :=
 match P.underlying s with
 | some (.struct fs) =>
  match fs.toList[n]? with
  | some f => (addrS v).bind fun a => (infoS P f.type).bind fun i => (Sp.guard (!(Nat.beq i.size 0))).bind fun _ => .pure (.pointer (some (a.add f.offset)))
  | none => .fail
 | _ => .fail
theorem gives_place {q : Bool} (P : Program) (a : Addr) (f : Field) : Gq q P (fieldPlace a f) ((infoS P f.type).bind fun i => (Sp.guard (!(Nat.beq i.size 0))).bind fun _ => .pure (a.add f.offset)) := by
 refine Gq.info fun i hi => Gq.guard fun hb => Gq.of_run fun w => ?_
 have h0 : ¬ i.size = 0 := by intro h; rw [h] at hb; simp at hb
 simp [fieldPlace, sizeOf, run_typeInfo hi, h0]
theorem gives_field {q : Bool} (P : Program) (s : TypeId) (v : Value) (n : Nat) : Gq q P (Instr.fieldAt s v n) (fieldS P s v n) := by
 unfold Instr.fieldAt fieldS
 refine gives_underlying P s _ _ (fun d hd => ?_) (fun hd => ?_)
 ·rw [hd]
  cases d <;> first | exact .fail _ | skip
  rename_i fs
  simp only
  cases hf : fs.toList[n]? with
  | none => exact .fail _
  | some f =>
   have hf' : fs[n]? = some f := by simpa using hf
   simp only [hf']
   exact (gives_sure P v).bind fun a => fun K E w hx => (Gq.bind (gives_place P a f) (g := fun b => Sp.pure (Value.pointer (some b))) fun b => Gq.pure _) K E w hx
 ·rw [hd]; exact fun _ _ _ h => h
def fieldV (P : Program) (s : TypeId) (v : Value) (n : Nat) : Sp Value :=
 match P.underlying s with
 | some (.struct fs) =>
  match fs.toList[n]? with
  | some f => (Sp.agg v).bind fun cs => (partS P f.type cs f.offset).bind fun u => destr P f.type u
  | none => .fail
 | _ => .fail
theorem gives_asAgg {q : Bool} (P : Program) (v : Value) : Gq q P (asAgg v) (Sp.agg v) := fun K E H hx => by
 obtain ⟨cs, rfl, h⟩ := dAgg_elim (k := fun cs => K cs H) hx
 exact ⟨cs, h, fun _ _ => rfl⟩
theorem gives_fieldV {q : Bool} (P : Program) (s : TypeId) (v : Value) (n : Nat) : Gq q P (Instr.field s v n) (fieldV P s v n) := by
 unfold Instr.field fieldV
 refine gives_underlying P s _ _ (fun d hd => ?_) (fun hd => ?_)
 ·rw [hd]
  cases d <;> first | exact .fail _ | skip
  rename_i fs
  simp only
  cases hf : fs.toList[n]? with
  | none => exact .fail _
  | some f =>
   have hf' : fs[n]? = some f := by simpa using hf
   simp only [hf']
   exact (gives_asAgg P v).bind fun cs => Gq.destr (gives_part P f.type cs f.offset)
 ·rw [hd]; exact fun _ _ _ h => h
def byteAt (s : ByteArray) (i : Nat) : Int := ((s.data.toList[i]?).getD 0).toNat
def idxA (P : Program) (t : TypeId) (x i : Value) : Sp Value :=
 match P.underlying t with
 | some (.slice elem) => (Sp.int' i).bind fun n => (Sp.slc x).bind fun s => (Sp.nonNil s.1).bind fun a => (Sp.asking (0 ≤ n.2 ∧ n.2 < (s.2.1 : Int))).bind fun _ => (infoS P elem).bind fun inf => .pure (.pointer (some (a.add (n.2.toNat * inf.size))))
 | some (.array len elem) => (Sp.int' i).bind fun n => (addrS x).bind fun a => (Sp.asking (0 ≤ n.2 ∧ n.2 < (len : Int))).bind fun _ => (infoS P elem).bind fun inf => .pure (.pointer (some (a.add (n.2.toNat * inf.size))))
 | _ => .fail
theorem gives_idxA {q : Bool} (P : Program) (t : TypeId) (x i : Value) : Gq q P (Instr.indexAt t x i) (idxA P t x i) := by
 unfold idxA
 split
 ·rename_i elem ht
  refine Gq.int' fun k n hv => Gq.slc fun b len cap hb => Gq.nonNil fun a ha => Gq.asking fun hr => Gq.info fun inf hi => Gq.of_run fun w => ?_
  subst hv hb
  simp only at ha hr ⊢
  subst ha
  simp [Instr.indexAt, asIntOf, run_under ht, sizeOf, run_typeInfo hi, hr]
 ·rename_i len elem ht
  refine Gq.int' fun k n hv => Gq.addr fun a ha => Gq.asking fun hr => Gq.info fun inf hi => Gq.of_run fun w => ?_
  subst hv ha
  simp only at hr ⊢
  simp [Instr.indexAt, asIntOf, Instr.sureAddr, run_under ht, sizeOf, run_typeInfo hi, hr]
 ·exact .fail _
def arrS (P : Program) (t : TypeId) (x : Value) : Sp Value :=
 match P.underlying t with
 | some (.array len elem) => (Sp.slc x).bind fun s => (Sp.asking ((len : Int) ≤ (s.2.1 : Int))).bind fun _ => .pure (.pointer s.1)
 | _ => .fail
theorem gives_arr {q : Bool} (P : Program) (t : TypeId) (x : Value) : Gq q P (Instr.arrayAt t x) (arrS P t x) := by
 unfold arrS
 split
 ·rename_i len elem ht
  refine Gq.slc fun b n cap hb => Gq.asking fun hr => Gq.of_run fun w => ?_
  subst hb
  simp only at hr ⊢
  have hn : ¬ n < len := by omega
  simp [Instr.arrayAt, run_under ht, hn]
 ·exact .fail _
def idxV (P : Program) (t : TypeId) (x i : Value) : Sp Value :=
 match P.underlying t with
 | some .string => (Sp.int' i).bind fun n => (Sp.str x).bind fun s => (Sp.asking (0 ≤ n.2 ∧ n.2 < (s.size : Int))).bind fun _ => .pure (.int .u8 (byteAt s n.2.toNat))
 | some (.array len elem) => (Sp.int' i).bind fun n => (Sp.agg x).bind fun cs => (Sp.asking (0 ≤ n.2 ∧ n.2 < (len : Int))).bind fun _ => (infoS P elem).bind fun inf => (partS P elem cs (n.2.toNat * inf.size)).bind fun v => destr P elem v
 | _ => .fail
theorem gives_idxV {q : Bool} (P : Program) (t : TypeId) (x i : Value) : Gq q P (Instr.index t x i) (idxV P t x i) := by
 unfold idxV
 split
 ·rename_i ht
  refine Gq.int' fun k n hv => Gq.str fun s hs => Gq.asking fun hr => Gq.of_run fun w => ?_
  subst hv hs
  simp only at hr ⊢
  have hlt : n.toNat < s.size := by omega
  have hg : s[n.toNat]? = some s[n.toNat] := by simp [hlt]
  have hb : byteAt s n.toNat = (s[n.toNat].toNat : Int) := by
   unfold byteAt
   have : s.data.toList[n.toNat]? = some s[n.toNat] := by
    rw [List.getElem?_eq_getElem (by simpa using hlt)]; rfl
   rw [this]; rfl
  simp [Instr.index, asIntOf, run_under ht, hr.1, hg, hb]
 ·rename_i len elem ht
  refine Gq.int' fun k n hv => Gq.agg fun cs hs => Gq.asking fun hr => Gq.info fun inf hi => ?_
  subst hv hs
  simp only at hr ⊢
  intro K E H hx
  obtain ⟨v, hv, hrun⟩ := Gq.destr (t := elem) (gives_part (q := q) P elem cs (n.toNat * inf.size)) K E H hx
  refine ⟨v, hv, fun w hw => ?_⟩
  simp [Instr.index, asIntOf, run_under ht, sizeOf, run_typeInfo hi, hr]
  exact hrun w hw
 ·exact .fail _
theorem gives_bound (P : Program) (v : Value) (y : Nat) (code : BoundsCode) (n : Int) (k : IntKind) (hv : v = .int k n) (h0 : 0 ≤ n) (h1 : n ≤ y) (w : World) : (Instr.sliceBound v y code).run P w = .ok n.toNat w := by
 subst hv
 simp [Instr.sliceBound, asIntOf, h0, h1]
def slA (size : Nat) (a : Addr) (l m : Int) : Addr := if m.toNat = l.toNat then a else a.add (l.toNat * size)
def slO (p : Option Addr) (size : Nat) (l m : Int) : Option Addr := p.map fun a => slA size a l m
def optI (o : Option Value) (d : Int) : Sp Int := match o with | some v => (Sp.int' v).bind fun p => .pure p.2 | none => .pure d
def sliceS (P : Program) (t : TypeId) (x : Value) (lo hi mx : Option Value) : Sp Value :=
 match P.underlying t with
 | some .string => match mx with
  | none => (Sp.str x).bind fun s => (optI hi s.size).bind fun h => (optI lo 0).bind fun l => (Sp.asking (0 ≤ l ∧ l ≤ h ∧ h ≤ (s.size : Int))).bind fun _ => .pure (.string (s.extract l.toNat h.toNat))
  | some _ => .fail
 | some (.slice elem) => (Sp.slc x).bind fun s => (optI mx s.2.2).bind fun m => (optI hi s.2.1).bind fun h => (optI lo 0).bind fun l =>
  (Sp.asking (0 ≤ l ∧ l ≤ h ∧ h ≤ m ∧ m ≤ (s.2.2 : Int))).bind fun _ => (infoS P elem).bind fun inf => .pure (.slice (slO s.1 inf.size l m) (h.toNat - l.toNat) (m.toNat - l.toNat))
 | some (.array n elem) => (addrS x).bind fun a => (optI mx n).bind fun m => (optI hi n).bind fun h => (optI lo 0).bind fun l =>
  (Sp.asking (0 ≤ l ∧ l ≤ h ∧ h ≤ m ∧ m ≤ (n : Int))).bind fun _ => (infoS P elem).bind fun inf => .pure (.slice (slO (some a) inf.size l m) (h.toNat - l.toNat) (m.toNat - l.toNat))
 | _ => .fail
def Bnd (o : Option Value) (d n : Int) : Prop := (o = none ∧ n = d) ∨ ∃ k, o = some (.int k n)
theorem Gq.optI {α : Type} {q : Bool} {P : Program} {s : Sem α} {o : Option Value} {d : Int} {g : Int → Sp α} (h : ∀ n, Bnd o d n → Gq q P s (g n)) : Gq q P s ((optI o d).bind g) := by
 cases o with
 | none => exact fun K E w hx => h d (.inl ⟨rfl, rfl⟩) K E w hx
 | some v => exact fun K E w hx => (Gq.int' (g := fun p => g p.2) fun k n hv => h n (.inr ⟨k, by rw [hv]⟩)) K E w hx
theorem run_bounds {P : Program} (b : Bool) (len cap : Nat) (lo hi mx : Option Value) (l h m : Int) (hl : Bnd lo 0 l) (hh : Bnd hi len h) (hm : Bnd mx cap m) (hc : mx ≠ none → hi ≠ none)
  (h0 : 0 ≤ l) (h1 : l ≤ h) (h2 : h ≤ m) (h3 : m ≤ (cap : Int)) (w : World) : (Instr.sliceBounds b len cap lo hi mx).run P w = .ok (l.toNat, h.toNat, m.toNat) w := by
 have n0 : 0 ≤ h := Int.le_trans h0 h1
 have n1 : 0 ≤ m := Int.le_trans n0 h2
 have e1 : h ≤ (m.toNat : Int) := by omega
 have e2 : l ≤ (h.toNat : Int) := by omega
 have bm : ∀ code k, (Instr.sliceBound (.int k m) cap code).run P w = .ok m.toNat w := fun code k => gives_bound P _ _ code m k rfl n1 h3 w
 have bh : ∀ code k, (Instr.sliceBound (.int k h) m.toNat code).run P w = .ok h.toNat w := fun code k => gives_bound P _ _ code h k rfl n0 e1 w
 have bl : ∀ code k, (Instr.sliceBound (.int k l) h.toNat code).run P w = .ok l.toNat w := fun code k => gives_bound P _ _ code l k rfl h0 e2 w
 have zm : mx = none → (cap : Nat) = m.toNat := fun hn => by rcases hm with ⟨_, rfl⟩ | ⟨k, hk⟩ <;> first | exact (Int.toNat_natCast cap).symm | (rw [hn] at hk; cases hk)
 have zh : hi = none → (len : Nat) = h.toNat := fun hn => by rcases hh with ⟨_, rfl⟩ | ⟨k, hk⟩ <;> first | exact (Int.toNat_natCast len).symm | (rw [hn] at hk; cases hk)
 have zl : lo = none → (0 : Nat) = l.toNat := fun hn => by rcases hl with ⟨_, rfl⟩ | ⟨k, hk⟩ <;> first | rfl | (rw [hn] at hk; cases hk)
 have sm : mx = none ∨ ∃ k, mx = some (.int k m) := hm.imp And.left id
 have sh : hi = none ∨ ∃ k, hi = some (.int k h) := hh.imp And.left id
 have sl : lo = none ∨ ∃ k, lo = some (.int k l) := hl.imp And.left id
 clear hl hh hm
 unfold Instr.sliceBounds
 rcases sm with rfl | ⟨km, rfl⟩ <;> rcases sh with rfl | ⟨kh, rfl⟩ <;> rcases sl with rfl | ⟨kl, rfl⟩
 ·simp only [Sem.run_bind, Sem.run_pure, Result.andThen_ok]; rw [zm rfl, zh rfl, zl rfl]
 ·simp only [Sem.run_bind, Sem.run_pure, Result.andThen_ok]; rw [zh rfl, bl]; simp only [Result.andThen_ok]; rw [zm rfl]
 ·simp only [Sem.run_bind, Sem.run_pure, Result.andThen_ok]; rw [zm rfl, bh]; simp only [Result.andThen_ok]; rw [zl rfl]
 ·simp only [Sem.run_bind, Sem.run_pure, Result.andThen_ok]; rw [zm rfl, bh]; simp only [Result.andThen_ok]; rw [bl]; rfl
 ·exact absurd rfl (hc (by simp))
 ·exact absurd rfl (hc (by simp))
 ·simp only [Sem.run_bind, Sem.run_pure]; rw [bm]; simp only [Result.andThen_ok]; rw [bh]; simp only [Result.andThen_ok]; rw [zl rfl]
 ·simp only [Sem.run_bind, Sem.run_pure]; rw [bm]; simp only [Result.andThen_ok]; rw [bh]; simp only [Result.andThen_ok]; rw [bl]; rfl
theorem gives_slice {q : Bool} (P : Program) (t : TypeId) (x : Value) (lo hi mx : Option Value) (hc : mx ≠ none → hi ≠ none) : Gq q P (Instr.sliceAt t x lo hi mx) (sliceS P t x lo hi mx) := by
 unfold sliceS
 split
 ·rename_i ht
  cases mx with
  | some _ => exact .fail _
  | none =>
   refine Gq.str fun s hs => Gq.optI fun h hh => Gq.optI fun l hl => Gq.asking fun hr => Gq.of_run fun w => ?_
   subst hs
   have hb := run_bounds (P := P) false s.size s.size lo hi none l h s.size hl hh (.inl ⟨rfl, rfl⟩) (by simp) hr.1 hr.2.1 hr.2.2 (Int.le_refl _) w
   simp [Instr.sliceAt, Instr.slice, run_under ht, hb]
 ·rename_i elem ht
  refine Gq.slc fun a n c hs => Gq.optI fun m hm => Gq.optI fun h hh => Gq.optI fun l hl => Gq.asking fun hr => Gq.info fun inf hi' => Gq.of_run fun w => ?_
  subst hs
  have hb := run_bounds (P := P) true n c lo hi mx l h m hl hh hm hc hr.1 hr.2.1 hr.2.2.1 hr.2.2.2 w
  simp [Instr.sliceAt, Instr.slice, run_under ht, hb, sizeOf, run_typeInfo hi', slA, slO]
  cases a <;> (split <;> simp_all)
 ·rename_i n elem ht
  refine Gq.addr fun a ha => Gq.optI fun m hm => Gq.optI fun h hh => Gq.optI fun l hl => Gq.asking fun hr => Gq.info fun inf hi' => Gq.of_run fun w => ?_
  subst ha
  have hb := run_bounds (P := P) false n n lo hi mx l h m hl hh hm hc hr.1 hr.2.1 hr.2.2.1 hr.2.2.2 w
  simp [Instr.sliceAt, Instr.sureAddr, run_under ht, hb, sizeOf, run_typeInfo hi', slA, slO]
 ·exact .fail _
end Go.Proofs.YtklppdodadkcnaaGreat.E
namespace Go.Proofs.YtklppdodadkcnaaGreat.E
open Go
set_option linter.unusedVariables false
def rowZ (z : List Value) (n : Nat) : List Value := (List.replicate n z).flatten
theorem rowZ_length (z : List Value) (n : Nat) : (rowZ z n).length = n * z.length := by simp [rowZ]
theorem rowZ_get (z : List Value) : ∀ (n j : Nat), j < n * z.length → (rowZ z n)[j]? = z[j % z.length]?
 | 0, j, h => by omega
 | n + 1, j, h => by
  have e : rowZ z (n + 1) = z ++ rowZ z n := by simp [rowZ, List.replicate_succ]
  rw [e]
  by_cases hj : j < z.length
  ·rw [List.getElem?_append_left hj, Nat.mod_eq_of_lt hj]
  ·have h1 : z.length ≤ j := by omega
   have h2 : (n + 1) * z.length = n * z.length + z.length := Nat.succ_mul n z.length
   rw [List.getElem?_append_right h1, rowZ_get z n (j - z.length) (by omega), ← Nat.mod_eq_sub_mod h1]
theorem made_eq (z : Array Value) (n size : Nat) (hs : z.size = size) : madeCells z (n * size) = (rowZ z.toList n).toArray := by
 subst hs
 apply Array.ext_getElem?
 intro j
 by_cases hj : j < n * z.size
 ·have hpos : 0 < z.size := by
   rcases Nat.eq_zero_or_pos z.size with h | h
   ·rw [h] at hj; omega
   ·exact h
  have hm : j % z.size < z.size := Nat.mod_lt _ hpos
  have h1 : (rowZ z.toList n)[j]? = some z[j % z.size] := by
   rw [rowZ_get z.toList n j (by simpa using hj)]
   simp [hm]
  have h2 : z[j % z.size]! = z[j % z.size] := by simp [hm]
  simp [madeCells, hj, h1, h2]
 ·have h1 : (rowZ z.toList n)[j]? = none := by
   rw [List.getElem?_eq_none]; rw [rowZ_length]; simpa using Nat.not_lt.1 hj
  simp [madeCells, hj, h1]
def newP (P : Program) (cs : Array Value) (e : TypeId) : Sp Addr := (Sp.new (.cells cs e)).bind fun r => .pure ⟨r, 0, none⟩
theorem gives_row (P : Program) (e : TypeId) (cs : Array Value) : Gives P (newRow e cs) (newP P cs e) := fun K E w hx =>
 ⟨hx, rfl, rfl, rfl⟩
def allocS (P : Program) (t : TypeId) : Sp Value := (zeroS P t).bind fun z => (newP P z.cells t).bind fun a => .pure (.pointer (some a))
theorem gives_alloc (P : Program) (t : TypeId) : Gives P (Instr.alloc t true (.tuple #[])) (allocS P t) :=
 (gives_zero (b := false) P t).gives.bind fun z => (gives_row P t z.cells).bind fun a => .pure _
def boxS (P : Program) (t : TypeId) (v : Value) : Sp Value := (newP P v.cells t).bind fun a => .pure (.pointer (some a))
theorem gives_box (P : Program) (t : TypeId) (v : Value) : Gives P (Instr.box t v) (boxS P t v) := (gives_row P t v.cells).bind fun a => .pure _
def buildS (P : Program) (t : TypeId) (parts : List (Nat × Value)) : Sp Value := match P.built t parts with | some cs => .pure (.agg cs) | none => .fail
theorem gives_build {q : Bool} (P : Program) (t : TypeId) (parts : Array (Nat × Value)) : Gq q P (Instr.build t parts) (buildS P t parts.toList) := by
 unfold buildS
 cases hb : P.built t parts.toList with
 | none => exact Gq.fail _
 | some cs => exact Gq.of_run fun w => run_build w t parts cs hb
def buildSl (P : Program) (t : TypeId) (n : Nat) (parts : List (Nat × Value)) : Sp Value :=
 match P.underlying t with
 | some (.slice e) => (infoS P e).bind fun i => (zeroS P e).bind fun z => (Sp.guard (Nat.beq z.cells.size i.size && Nat.ble (n * i.size) 16777216)).bind fun _ =>
  match Instr.fill (fun j => some (j * i.size, i.size)) (rowZ z.cells.toList n).toArray parts with
  | some cs => (newP P cs e).bind fun a => .pure (.slice (some a) n n)
  | none => .fail
 | _ => .fail
theorem Gives.zero {α : Type} {P : Program} {s : Sem α} {t : TypeId} {g : Value → Sp α} (h : ∀ z, (∀ w, (zeroValue t).run P w = .ok z w) → Gives P s (g z)) : Gives P s ((zeroS P t).bind g) := by
 intro K E w hx
 have hx' : ((infoS P t).bind fun i => (match i.zero with | some v => Sp.pure v | none => Sp.fail).bind g).run K E w.heap := hx
 refine Gives.info (g := fun i => (match i.zero with | some v => Sp.pure v | none => Sp.fail).bind g) (fun i hi => ?_) K E w hx'
 cases hz : i.zero with
 | none => exact fun _ _ _ h => h.elim
 | some z => exact h z fun w => by simp [zeroValue, run_typeInfo hi, hz]
theorem gives_buildSl (P : Program) (t : TypeId) (n : Nat) (parts : Array (Nat × Value)) : Gives P (Instr.buildSlice t n parts) (buildSl P t n parts.toList) := by
 unfold buildSl
 split
 ·rename_i e hd
  refine Gives.info fun i hi => Gives.zero fun z hz => Gives.guard fun hb => ?_
  rw [Bool.and_eq_true] at hb
  have h1 : z.cells.size = i.size := Nat.eq_of_beq_eq_true hb.1
  have h2 : n * i.size ≤ 16777216 := Nat.le_of_ble_eq_true hb.2
  have h3 : ¬ (n * i.size > 2 ^ 24) := by omega
  have hm := made_eq z.cells n i.size h1
  cases hf : Instr.fill (fun j => some (j * i.size, i.size)) (rowZ z.cells.toList n).toArray parts.toList with
  | none => exact .fail _
  | some cs =>
   rw [← hm] at hf
   have hsz : ∀ w, (sizeOf e).run P w = .ok i.size w := fun w => by simp [sizeOf, run_typeInfo hi]
   intro K E w hx
   have hgoal : (Instr.buildSlice t n parts).run P w = .ok (.slice (some ⟨w.heap.size, 0, none⟩) n n) { w with heap := w.heap.push (.cells cs e) } := by
    unfold Instr.buildSlice
    rw [Sem.run_bind, run_under hd]
    simp only [Result.andThen_ok]
    rw [Sem.run_bind, hsz]
    simp only [Result.andThen_ok]
    rw [if_neg h3]
    by_cases h0 : n * i.size = 0
    ·have hf' := hf
     rw [h0] at hf'
     have he : madeCells z.cells 0 = #[] := by simp [madeCells]
     rw [he] at hf'
     simp [h0, newRow, Array.range_zero', hf']
    ·unfold madeCells at hf
     simp [h0, hz, newRow, hf]
   rw [hgoal]
   exact ⟨hx, rfl, rfl, rfl⟩
 ·exact .fail _
def makeS (P : Program) (t : TypeId) (l c : Value) : Sp Value :=
 match P.underlying t with
 | some (.slice e) => (Sp.int' l).bind fun m => (Sp.int' c).bind fun n => (infoS P e).bind fun i => (zeroS P e).bind fun z => (Sp.guard (Nat.beq z.cells.size i.size)).bind fun _ =>
  (Sp.asking (0 ≤ m.2 ∧ m.2 ≤ n.2 ∧ (i.bytes : Int) * n.2 ≤ 281474976710656 ∧ n.2 ≤ 9223372036854775807)).bind fun _ =>
  (newP P (rowZ z.cells.toList n.2.toNat).toArray e).bind fun a => .pure (.slice (some a) m.2.toNat n.2.toNat)
 | _ => .fail
theorem gives_make (P : Program) (t : TypeId) (l c : Value) : Gives P (Instr.makeSlice t l c) (makeS P t l c) := by
 unfold makeS
 split
 ·rename_i e hd
  refine Gives.int' fun kl m hl => Gives.int' fun kc n hc => Gives.info fun i hi => ?_
  intro K E w hx
  unfold zeroS infoS at hx
  rw [hi] at hx
  cases hz : i.zero with
  | none => simp only [Sp.bind, Sp.pure, hz] at hx; exact hx.elim
  | some z =>
   simp only [Sp.bind, Sp.pure, hz] at hx
   obtain ⟨hb, hx⟩ := gB_elim hx
   obtain ⟨⟨h0, h1, h2, h3⟩, hx⟩ := hx
   have hs : z.cells.size = i.size := Nat.eq_of_beq_eq_true hb
   subst hl hc
   rw [run_make w t e i z hd hi hz kl kc m n h0 h1 h2 h3, made_eq z.cells n.toNat i.size hs]
   exact ⟨hx, rfl, rfl, rfl⟩
 ·exact .fail _
def convS (P : Program) (s d : TypeId) (v : Value) : Sp Value :=
 match P.underlying s, P.underlying d with
 | some (.int _), some (.int k) => (Sp.int' v).bind fun n => wrS k n.2
 | some .string, some .string => (Sp.str v).bind fun x => .pure (.string x)
 | _, _ => (Sp.sem P (convert s d v)).bind fun v => destr P d v
def plainConv (P : Program) (s d : TypeId) : Bool :=
 match P.underlying s, P.underlying d with
 | some (.int _), some (.int _) => true
 | some .string, some .string => true
 | _, _ => false
theorem gives_convq {q : Bool} (P : Program) (s d : TypeId) (v : Value) (hp : plainConv P s d = true) : Gq q P (convert s d v) (convS P s d v) := by
 unfold plainConv at hp
 unfold convS
 split at hp
 ·rename_i j k hs hd
  refine Gq.int' fun kk n hn => fun K E H hx => ⟨.int k (k.wrap n), hx, fun w _ => ?_⟩
  subst hn
  simp [convert, run_under hs, run_under hd, Conv.intToInt]
 ·rename_i hs hd
  refine Gq.str fun x hx => Gq.of_run fun w => ?_
  subst hx
  simp [convert, run_under hs, run_under hd]
 ·cases hp
theorem gives_conv (P : Program) (s d : TypeId) (v : Value) : Gives P (convert s d v) (convS P s d v) := by
 cases hp : plainConv P s d with
 | true => exact (gives_convq (q := false) P s d v hp).gives
 | false =>
  unfold plainConv at hp
  unfold convS
  split
  ·rename_i h1 h2; rw [h1, h2] at hp; cases hp
  ·rename_i h1 h2; rw [h1, h2] at hp; cases hp
  ·exact Gives.destr (Gives.sem _)
def unS (P : Program) (op : UnOp) (v : Value) : Sp Value :=
 match op, v with
 | .not, .bool b => .pure (.bool (!b))
 | .neg, .int k n => wrS k (0 - n)
 | op, v => Sp.sem P (Op.unary op v)
def plainUn (op : UnOp) (v : Value) : Bool := match op, v with
 | .not, .bool _ => true
 | .neg, .int _ _ => true
 | _, _ => false
theorem gives_unq {q : Bool} (P : Program) (op : UnOp) (v : Value) (hp : plainUn op v = true) : Gq q P (Op.unary op v) (unS P op v) := by
 unfold plainUn at hp
 split at hp
 ·exact Gq.pure _
 ·exact gives_wr P _ _
 ·cases hp
theorem gives_un (P : Program) (op : UnOp) (v : Value) : Gives P (Op.unary op v) (unS P op v) := by
 unfold unS
 split
 ·exact .pure _
 ·exact (gives_wr (q := false) P _ _).gives
 ·exact .sem _
def ifaceS (P : Program) (t : TypeId) (v : Value) : Sp Value :=
 match P.underlying t with
 | some (.interface _) => .fail
 | none => .fail
 | _ => .pure (.iface t v)
theorem gives_iface {q : Bool} (P : Program) (t : TypeId) (v : Value) : Gq q P (Instr.makeInterface t v) (ifaceS P t v) := by
 unfold Instr.makeInterface ifaceS
 refine gives_underlying P t _ _ (fun d hd => ?_) (fun hd => ?_)
 ·rw [hd]; cases d <;> first | exact .pure _ | exact .fail _
 ·rw [hd]; exact fun _ _ _ h => h
def moveS (v : Value) : Sp Value := .pure v
theorem gives_move {q : Bool} (P : Program) (v : Value) : Gq q P (Pure.pure v) (moveS v) := Gq.pure _
def extS (v : Value) (i : Nat) : Sp Value :=
 match v with
 | .tuple vs => match vs.toList[i]? with
  | some u => .pure u
  | none => .fail
 | _ => .fail
theorem gives_ext {q : Bool} (P : Program) (v : Value) (i : Nat) : Gq q P (Instr.extract v i) (extS v i) := by
 unfold extS
 split
 ·rename_i vs
  unfold Instr.extract
  cases h : vs.toList[i]? with
  | none => exact .fail _
  | some u =>
   have h' : vs[i]? = some u := by simpa using h
   simp only [h']; exact .pure _
 ·exact .fail _
end Go.Proofs.YtklppdodadkcnaaGreat.E
namespace Go.Proofs.YtklppdodadkcnaaGreat.E
open Go
set_option linter.unusedVariables false
def lenS (P : Program) (ats : Array TypeId) (t : TypeId) (args : Array Value) : Sp Value :=
 match (ats.toList.head?).bind P.underlying, args.toList with
 | some .string, .string s :: _ => .pure (.int .i64 (s.size : Int))
 | some (.slice _), .slice _ n _ :: _ => .pure (.int .i64 (n : Int))
 | _, _ => (Sp.sem P (Builtin.len_ ats t args)).bind fun v => destr P t v
theorem gives_len (P : Program) (ats : Array TypeId) (t : TypeId) (args : Array Value) : Gives P (Builtin.len_ ats t args) (lenS P ats t args) := by
 unfold lenS
 split
 ·rename_i s r h1 h2
  refine Gives.of_run fun w => ?_
  obtain ⟨ats⟩ := ats
  obtain ⟨args⟩ := args
  simp only at h1 h2
  subst h2
  cases ats with
  | nil => simp at h1
  | cons u us =>
   simp at h1
   simp [Builtin.len_, run_under h1, goInt]
 ·rename_i e n r h1 h2
  refine Gives.of_run fun w => ?_
  obtain ⟨ats⟩ := ats
  obtain ⟨args⟩ := args
  simp only at h1 h2
  subst h2
  cases ats with
  | nil => simp at h1
  | cons u us =>
   simp at h1
   simp [Builtin.len_, run_under h1, goInt]
 ·exact Gives.destr (Gives.sem _)
def panicS (v : Value) : Sp Value := match v with | .iface t x => Sp.panic (.iface t x) | _ => .fail
theorem gives_panic (P : Program) (v : Value) : Gives P (Instr.panic v) (panicS v) := by
 unfold panicS
 split
 ·exact fun K E w hx => ⟨hx, Like.refl w⟩
 ·exact .fail _
def bltS (P : Program) (b : Builtin) (ats : Array TypeId) (t : TypeId) (args : Array Value) : Sp Value :=
 match b with
 | .len => lenS P ats t args
 | .append => (Sp.sem P (Builtin.append_ ats t args)).bind fun v => destr P t v
 | .cap => (Sp.sem P (Builtin.cap_ ats t args)).bind fun v => destr P t v
 | .clear => (Sp.sem P (Builtin.clear_ ats t args)).bind fun v => destr P t v
 | .copy => (Sp.sem P (Builtin.copy_ ats t args)).bind fun v => destr P t v
 | .delete => (Sp.sem P (Builtin.delete_ ats t args)).bind fun v => destr P t v
 | .max => (Sp.sem P (Builtin.max_ ats t args)).bind fun v => destr P t v
 | .min => (Sp.sem P (Builtin.min_ ats t args)).bind fun v => destr P t v
 | .panic => panicS (args.getD 0 .nilIface)
 | _ => .fail
theorem does_blt (P : Program) (b : Builtin) (ats : Array TypeId) (t : TypeId) (cs : Array Bool) (args : Array Value) : Does P (builtin b ats t cs args) (bltS P b ats t args) := by
 cases b <;> first
  | exact fun _ _ _ h => h.elim
  | exact (gives_len P ats t args).does
  | exact (gives_panic P _).does
  | exact (Gives.destr (Gives.sem _)).does
def plainFn (P : Program) (f : FuncId) : Bool :=
 match P.funcs[f]? with
 | some fn => match fn.name == "runtime.NumGoroutine" with
  | true => false
  | false => fn.body.isSome
 | none => false
def argsOf (first : Array Value) (xs : List Value) (cap : Array Value) : Array Value := (first.toList ++ (xs ++ cap.toList)).toArray
def isExt (P : Program) (f : FuncId) : Bool :=
 match P.funcs[f]? with
 | some fn => match fn.body with
  | some _ => false
  | none => true
 | none => false
def entS (f : FuncId) (args : Array Value) : Sem Value := do match ← callFunc f args with
 | .value v => pure v
 | _ => stuck "entry"
def callF (P : Program) (ev : Operand → Value) (f : Operand) (as : Array Operand) (t : TypeId) : Sp Value :=
 (Sp.fn (ev f)).bind fun x => (Sp.guard (plainFn P x.1)).bind fun _ => (Sp.call P x.1 (argsOf x.2.1 (as.toList.map ev) x.2.2)).bind fun v => destr P t v
def methV (recv : Value) (name : String) : Sem Value := do
 match recv with
 | .iface t v =>
  let x ← method ((← program).types.size + Made.depth) t v name
  pure (.func (.func x.1) #[x.2] #[])
 | _ => stuck "invoke: interface value expected"
def callV (P : Program) (v : Value) (as : List Value) (t : TypeId) : Sp Value :=
 (Sp.fn v).bind fun x => (Sp.guard (plainFn P x.1)).bind fun _ => (Sp.call P x.1 (argsOf x.2.1 as x.2.2)).bind fun v => destr P t v
def callS (P : Program) (ev : Operand → Value) (c : Call) (t : TypeId) : Sp Value :=
 match c.callee with
 | .builtin b => bltS P b c.argTypes t (c.args.toList.map ev).toArray
 | .value (.func f) => match isExt P f with
  | true => (Sp.fn (ev (.func f))).bind fun x => (Sp.sem P (entS x.1 (argsOf x.2.1 (c.args.toList.map ev) x.2.2))).bind fun v => destr P t v
  | false => callF P ev (.func f) c.args t
 | .value f => callF P ev f c.args t
 | .invoke r n => (Sp.sem P (methV (ev r) n)).bind fun v => callV P v (c.args.toList.map ev) t
theorem does_callF (P : Program) (ev : Operand → Value) (f : Operand) (args : Array Operand) (t : TypeId) : Does P (do let d ← Deferred.ofValue (ev f) (args.map ev); invoke d.target d.args) (callF P ev f args t) := by
 unfold callF
 generalize ev f = vf
 intro K E w hx
 obtain ⟨g, first, cap, rfl, hx⟩ := dFn_elim hx
 obtain ⟨hp, hx⟩ := gB_elim hx
 have hp : plainFn P g = true := hp
 have hx : HCalls P g (argsOf first (args.toList.map ev) cap) w.heap (Sp.retK (fun v H' => (destr P t v).run K E H') E) := hx
 have hx2 : HCalls P g (argsOf first (args.toList.map ev) cap) w.heap (Sp.retK K E) := hx.mono fun e H' h' => by
  cases e <;> first | exact h'.elim | exact destr_elim h' | exact h'
 have ea : argsOf first (args.toList.map ev) cap = first ++ args.map ev ++ cap := by
  unfold argsOf; apply Array.toList_inj.1; simp
 rw [ea] at hx2
 unfold plainFn at hp
 cases hfn : P.funcs[g]? with
 | none => rw [hfn] at hp; cases hp
 | some fn =>
  rw [hfn] at hp
  simp only at hp
  cases hn : (fn.name == "runtime.NumGoroutine") with
  | true => rw [hn] at hp; cases hp
  | false =>
   rw [hn] at hp
   simp only at hp
   have hb : fn.body.isNone = false := by cases hfb : fn.body <;> simp_all
   have hrun : (Sem.run P (do let d ← (Deferred.ofValue (.func (.func g) first cap) (args.map ev)); invoke d.target d.args) w) = .ok (.enter g (first ++ args.map ev ++ cap)) w := by
    have hn' : ¬ (fn.name = "runtime.NumGoroutine") := by simpa using hn
    have hb' : ¬ (fn.body = none) := by intro h; rw [h] at hb; cases hb
    simp [Deferred.ofValue, invoke, callFunc, hfn, hn', hb']
   rw [hrun]
   exact ⟨hx2, Like.refl w⟩
theorem run_plain {P : Program} {g : FuncId} (hp : plainFn P g = true) (args : Array Value) (w : World) : (callFunc g args).run P w = .ok (.enter g args) w := by
 unfold plainFn at hp
 cases hfn : P.funcs[g]? with
 | none => rw [hfn] at hp; cases hp
 | some fn =>
  rw [hfn] at hp
  simp only at hp
  cases hn : (fn.name == "runtime.NumGoroutine") with
  | true => rw [hn] at hp; cases hp
  | false =>
   rw [hn] at hp
   simp only at hp
   have hn' : ¬ (fn.name = "runtime.NumGoroutine") := by simpa using hn
   have hb' : ¬ (fn.body = none) := by intro h; rw [h] at hp; cases hp
   simp [callFunc, hfn, hn', hb']
theorem does_inv (P : Program) (recv : Value) (name : String) (as : Array Value) (t : TypeId) : Does P (invoke (.fn (.method name) #[]) (#[recv] ++ as)) ((Sp.sem P (methV recv name)).bind fun v => callV P v as.toList t) := by
 intro K E w hx
 have hx : semW P (methV recv name) E w.heap (fun v H' => (callV P v as.toList t).run K E H') := hx
 have h1 := hx.run w rfl
 have e : (invoke (.fn (.method name) #[]) (#[recv] ++ as)).run P w = (callMethod recv name as).run P w := by
  have e0 : (#[recv] ++ as)[0]? = some recv := by rw [Array.getElem?_append_left (by simp)]; rfl
  have e1 : (#[recv] ++ as).extract 1 (#[recv] ++ as).size = as := by simp
  have e2 : invoke (.fn (.method name) #[]) (#[recv] ++ as) = (match (#[recv] ++ as)[0]? with | some r => callMethod r name ((#[recv] ++ as).extract 1 (#[recv] ++ as).size) | none => stuck "call: a method without a receiver") := by
   unfold invoke; simp only []; cases (#[recv] ++ as)[0]? <;> rfl
  rw [e2, e0, e1]
 rw [e]
 obtain ⟨t', v, rfl⟩ : ∃ t' v, recv = .iface t' v := by
  cases recv with
  | iface t' v => exact ⟨t', v, rfl⟩
  | _ => exact (show False from h1).elim
 have e1 : (methV (.iface t' v) name).run P w = ((method (P.types.size + Made.depth) t' v name).run P w).andThen fun x w' => .ok (.func (.func x.1) #[x.2] #[]) w' := by
  simp only [methV, Sem.run_bind]; rfl
 have e2 : (callMethod (.iface t' v) name as).run P w = ((method (P.types.size + Made.depth) t' v name).run P w).andThen fun x w' => (callFunc x.1 (#[x.2] ++ as)).run P w' := by
  simp only [callMethod, Sem.run_bind]; rfl
 rw [e1] at h1
 rw [e2]
 cases hr : (method (P.types.size + Made.depth) t' v name).run P w with
 | halt x w' => rw [hr] at h1; cases x <;> first | exact h1.elim | exact h1
 | ok x w' =>
  rw [hr] at h1
  obtain ⟨h2, hl⟩ := h1
  have h2 : (callV P (.func (.func x.1) #[x.2] #[]) as.toList t).run K E w'.heap := h2
  have h2 : gB (plainFn P x.1) (HCalls P x.1 (argsOf #[x.2] as.toList #[]) w'.heap (Sp.retK (fun v H' => (destr P t v).run K E H') E)) := h2
  obtain ⟨hp, h2⟩ := gB_elim h2
  have hp : plainFn P x.1 = true := hp
  have h2 : HCalls P x.1 (argsOf #[x.2] as.toList #[]) w'.heap (Sp.retK (fun v H' => (destr P t v).run K E H') E) := h2
  have h3 : HCalls P x.1 (argsOf #[x.2] as.toList #[]) w'.heap (Sp.retK K E) := h2.mono fun e H' h' => by
   cases e <;> first | exact h'.elim | exact destr_elim h' | exact h'
  have ea : argsOf #[x.2] as.toList #[] = #[x.2] ++ as := by
   unfold argsOf; apply Array.toList_inj.1; simp
  rw [ea] at h3
  show Outcome _ _ w ((callFunc x.1 (#[x.2] ++ as)).run P w')
  rw [run_plain hp]
  exact ⟨h3, hl⟩
theorem run_ext {P : Program} {f : FuncId} (args : Array Value) (K : Value → Heap → Prop) (E : List PanicEntry → Heap → Prop) (w : World) (hx : Outcome K (fun v H' => E [{ v, recovered := false }] H') w ((entS f args).run P w)) :
  Outcome (nextK P K E) (fun v H' => E [{ v, recovered := false }] H') w ((callFunc f args).run P w) := by
 unfold entS at hx
 rw [Sem.run_bind] at hx
 cases hr : (callFunc f args).run P w with
 | ok v w' => rw [hr] at hx; cases v <;> first | exact hx.elim | exact hx
 | halt x w' => rw [hr] at hx; cases x <;> first | exact hx.elim | exact hx
theorem does_call (P : Program) (ev : Operand → Value) (c : Call) (t : TypeId) : Does P (do let d ← resolve ev c t; invoke d.target d.args) (callS P ev c t) := by
 obtain ⟨callee, args, ats⟩ := c
 unfold callS resolve
 cases callee with
 | builtin b =>
  have e : (args.toList.map ev).toArray = args.map ev := Array.toList_inj.1 (by simp)
  show Does P (builtin b ats t _ (args.map ev)) (bltS P b ats t (args.toList.map ev).toArray)
  rw [e]
  exact does_blt P b ats t _ _
 | invoke r n =>
  have h := does_inv P (ev r) n (args.map ev) t
  have e : (args.map ev).toList = args.toList.map ev := by simp
  rw [e] at h
  exact h
 | value f =>
  cases f with
  | func g =>
   simp only
   cases hx : isExt P g with
   | false => exact does_callF P ev (.func g) args t
   | true =>
    show Does P (do let d ← Deferred.ofValue (ev (.func g)) (args.map ev); invoke d.target d.args) ((Sp.fn (ev (.func g))).bind fun x => (Sp.sem P (entS x.1 (argsOf x.2.1 (args.toList.map ev) x.2.2))).bind fun v => destr P t v)
    generalize ev (.func g) = vf
    intro K E w hk
    obtain ⟨g', first, cap, rfl, hk⟩ := dFn_elim hk
    have hk2 : semW P (entS g' (argsOf first (args.toList.map ev) cap)) E w.heap (fun v H' => (destr P t v).run K E H') := hk
    have ea : argsOf first (args.toList.map ev) cap = first ++ args.map ev ++ cap := by
     unfold argsOf; apply Array.toList_inj.1; simp
    rw [ea] at hk2
    have h3 := run_ext (first ++ args.map ev ++ cap) K E w ((hk2.run w rfl).mono (fun v H' h' => destr_elim h') (fun _ _ h' => h'))
    have e3 : Sem.run P (do let d ← (Deferred.ofValue (.func (.func g') first cap) (args.map ev)); invoke d.target d.args) w = (callFunc g' (first ++ args.map ev ++ cap)).run P w := by
     simp [Deferred.ofValue, invoke]
    rw [e3]
    exact h3
  | _ => exact does_callF P ev _ args t
def skipS {α : Type} (x : Sp α) : Sp Value := x.bind fun _ => .pure undef
def pickV (c : Bool) (a b : Value) : Option Value := match a, b with
 | .bool x, .bool y => some (.bool (cond c x y))
 | _, _ => none
theorem pickV_eq {c : Bool} {a b v : Value} (h : pickV c a b = some v) : v = if c = true then a else b := by
 unfold pickV at h
 split at h
 ·cases h; cases c <;> rfl
 ·cases h
def pickS (c a b : Value) : Sp Value := (Sp.bool' c).bind fun t => match pickV t a b with
 | some v => .pure v
 | none => (Sp.split t).bind fun t => match t with | true => .pure a | false => .pure b
theorem pickS_elim {c a b : Value} {K : Value → Heap → Prop} {E : List PanicEntry → Heap → Prop} {H : Heap} (h : (pickS c a b).run K E H) : ∃ t, c = .bool t ∧ K (if t = true then a else b) H := by
 obtain ⟨t, rfl, h⟩ := dBl_elim h
 refine ⟨t, rfl, ?_⟩
 cases hp : pickV t a b with
 | some v =>
  have h : (match pickV t a b with
   | some v => Sp.pure v
   | none => (Sp.split t).bind fun t => match t with | true => .pure a | false => .pure b : Sp Value).run K E H := h
  rw [hp] at h
  rw [← pickV_eq hp]; exact h
 | none =>
  have h : (match pickV t a b with
   | some v => Sp.pure v
   | none => (Sp.split t).bind fun t => match t with | true => .pure a | false => .pure b : Sp Value).run K E H := h
  rw [hp] at h
  cases t <;> exact h
def mapS (P : Program) (t : TypeId) (r : Option Value) : Sp Value :=
 match r with
 | none => (Sp.new (.map #[] 0)).bind fun b => .pure (.map (some b))
 | some _ => .fail
def dNx (v : Value) (x : Prop) (k : Value → Value → Prop) : Prop := match v with
 | .tuple cs => match cs.toList with
  | [.bool false] => x
  | [.bool true, a, b] => k a b
  | _ => False
 | _ => False
theorem dNx_elim {v : Value} {K : Value → Prop} (h : dNx v (K (.tuple #[.bool false])) (fun a b => K (.tuple #[.bool true, a, b]))) : K v := by
 unfold dNx at h
 split at h
 ·rename_i cs
  split at h
  ·rename_i hc
   have : cs = #[.bool false] := Array.toList_inj.1 hc
   subst this; exact h
  ·rename_i a b hc
   have : cs = #[.bool true, a, b] := Array.toList_inj.1 hc
   subst this; exact h
  ·exact h.elim
 ·exact h.elim
def nextD (v : Value) : Sp Value := ⟨fun K _ H => dNx v (K (.tuple #[.bool false]) H) (fun a b => K (.tuple #[.bool true, a, b]) H), fun hk _ h => by
 unfold dNx at h ⊢
 split at h
 ·split at h <;> first | exact hk _ _ h | exact h.elim
 ·exact h.elim⟩
theorem nextD_elim {v : Value} {K : Value → Heap → Prop} {E : List PanicEntry → Heap → Prop} {H : Heap} (h : (nextD v).run K E H) : K v H := dNx_elim (K := fun v => K v H) h
theorem tup2_elim {v : Value} {K : Value → Heap → Prop} {E : List PanicEntry → Heap → Prop} {H : Heap} (h : ((Sp.tupN 2 v).bind fun l => .pure (.tuple l.toArray)).run K E H) : K v H := by
 obtain ⟨l, rfl, _, h'⟩ := dT_elim h; exact h'
theorem Gives.thenV {P : Program} {s : Sem Value} {x : Sp Value} {f : Value → Sp Value} (h : Gives P s x) (hf : ∀ {v : Value} {K : Value → Heap → Prop} {E : List PanicEntry → Heap → Prop} {H : Heap}, (f v).run K E H → K v H) : Gives P s (x.bind f) :=
 fun K E w hx => h K E w (x.mono (fun _ _ h' => hf h') (fun _ _ h' => h') hx)
def opS (P : Program) (ev : Operand → Value) (o : Oper) : Sp Value :=
 match o.op with
 | .move x => moveS (ev x)
 | .assign x => .pure (ev x)
 | .pick c a b => pickS (ev c) (ev a) (ev b)
 | .alloc t => allocS P t
 | .box t x => boxS P t (ev x)
 | .build t parts => buildS P t (parts.toList.map fun p => (p.1, ev p.2))
 | .buildSlice t n parts => buildSl P t n (parts.toList.map fun p => (p.1, ev p.2))
 | .load t a => (addrS (ev a)).bind fun b => loadS P t b
 | .store t a x => skipS ((addrS (ev a)).bind fun b => storeS P t b (ev x))
 | .nilCheck x => nilS (ev x)
 | .binOp op t x y _ => binS P op t x y (ev x) (ev y)
 | .unOp op _ x => unS P op (ev x)
 | .convert s d x => convS P s d (ev x)
 | .makeInterface t x => ifaceS P t (ev x)
 | .makeFunc fn first cap => .pure (.func fn (first.toList.map ev).toArray (cap.toList.map ev).toArray)
 | .makeMap t r => mapS P t (r.map ev)
 | .makeSlice t l c => makeS P t (ev l) (ev c)
 | .slice t x lo hi mx => match mx, hi with
  | some _, none => .fail
  | _, _ => sliceS P t (ev x) (lo.map ev) (hi.map ev) (mx.map ev)
 | .fieldAddr s x f => fieldS P s (ev x) f
 | .field s x f => fieldV P s (ev x) f
 | .indexAddr t x i => idxA P t (ev x) (ev i)
 | .sliceToArrayPointer t x => arrS P t (ev x)
 | .index t x i => idxV P t (ev x) (ev i)
 | .lookup t x i ok => (Sp.sem P (Instr.lookup t (ev x) (ev i) ok)).bind fun v => destr P o.type v
 | .mapUpdate t m k x => skipS (Sp.sem P (Instr.mapUpdate t (ev m) (ev k) (ev x)))
 | .insert t m k x => skipS (Sp.sem P (Instr.mapUpdate t (ev m) (ev k) (ev x)))
 | .mapEntry t m k => (Sp.sem P (Instr.mapEntry t (ev m) (ev k))).bind fun v => destr P o.type v
 | .entryStore t m s x => skipS (Sp.sem P (Instr.entryStore t (ev m) (ev s) (ev x)))
 | .range t x => (Sp.sem P (Instr.range t (ev x))).bind fun v => destr P o.type v
 | .next it b => (Sp.sem P (Instr.next (ev it) b o.type)).bind fun v => nextD v
 | .entry it => (Sp.sem P (Instr.entry (ev it))).bind fun v => (Sp.tupN 2 v).bind fun l => .pure (.tuple l.toArray)
 | .typeAssert x t u ok => (Sp.sem P (Instr.typeAssert (ev x) t u ok)).bind fun v => destr P o.type v
 | .extract t i => (extS (ev t) i).bind fun v => destr P o.type v
 | .call c => callS P ev c o.type
 | .panic x => panicS (ev x)
 | _ => .fail
theorem gives_nil {P : Program} {ev : Operand → Value} {x : Operand} {d : Option Tmp} {t : TypeId} {p : String} {af : Array Edge} {g : Option (Nat × Bool)} : Does P (execOp ev ⟨d, .nilCheck x, t, p, af, g⟩) (nilS (ev x)) := by
 unfold nilS
 split
 ·rename_i ao hv
  intro K E w hx
  obtain ⟨a, rfl, hx⟩ := nz_elim (k := fun a => K (.pointer (some a)) w.heap) hx
  have : execOp ev ⟨d, .nilCheck x, t, p, af, g⟩ = Pure.pure (.value (.pointer (some a))) := by simp only [execOp, hv]
  rw [this]; exact ⟨hx, Like.refl w⟩
 ·rename_i f a b hv
  intro K E w hx
  have : execOp ev ⟨d, .nilCheck x, t, p, af, g⟩ = Pure.pure (.value (.func (.func f) a b)) := by simp only [execOp, hv]
  rw [this]; exact ⟨hx, Like.refl w⟩
 ·rename_i f a b hv
  intro K E w hx
  have : execOp ev ⟨d, .nilCheck x, t, p, af, g⟩ = Pure.pure (.value (.func (.yield f) a b)) := by simp only [execOp, hv]
  rw [this]; exact ⟨hx, Like.refl w⟩
 ·rename_i t' v' hv
  intro K E w hx
  have : execOp ev ⟨d, .nilCheck x, t, p, af, g⟩ = Pure.pure (.value (.iface t' v')) := by simp only [execOp, hv]
  rw [this]; exact ⟨hx, Like.refl w⟩
 ·exact fun _ _ _ h => h.elim
theorem does_pick (P : Program) (c a b : Value) : Does P (do Pure.pure (Next.value (if ← asBool c then a else b))) (pickS c a b) := fun K E w hx => by
 obtain ⟨t, rfl, h2⟩ := pickS_elim (K := K) (E := E) hx
 exact ⟨h2, Like.refl w⟩
theorem gives_map (P : Program) (t : TypeId) (r : Option Value) : Gives P (Instr.makeMap t r) (mapS P t r) := by
 cases r with
 | none => exact fun K E w hx => ⟨hx, rfl, rfl, rfl⟩
 | some v => exact .fail _
theorem does_op (P : Program) (ev : Operand → Value) (o : Oper) : Does P (execOp ev o) (opS P ev o) := by
 obtain ⟨d, op, t, p, af, g⟩ := o
 cases op
 case move x => exact (gives_move (q := false) P _).gives.does
 case assign x => exact fun K E w hx => ⟨hx, Like.refl w⟩
 case pick c a b => exact does_pick P _ _ _
 case alloc e => exact (gives_alloc P _).does
 case box e v => exact (gives_box P _ _).does
 case load e a => exact (Gq.bind (gives_sure P _) fun b => gives_load P _ b).gives.does
 case store e a v => exact (Gives.bind (gives_sure (b := false) P _).gives fun b => gives_storeVar P _ b _).skips
 case nilCheck x => exact gives_nil
 case binOp op e x y e2 => exact (gives_bin P _ _ _ _ _ _).does
 case unOp op e x => exact (gives_un P _ _).does
 case convert e1 e2 x => exact (gives_conv P _ _ _).does
 case makeInterface e x => exact (gives_iface (q := false) P _ _).gives.does
 case makeMap e r => exact (gives_map P _ _).does
 case makeSlice e l c => exact (gives_make P _ _ _).does
 case fieldAddr e x f => exact (gives_field (q := false) P _ _ _).gives.does
 case field e x f => exact (gives_fieldV (q := false) P _ _ _).gives.does
 case indexAddr e x i => exact (gives_idxA (q := false) P _ _ _).gives.does
 case index e x i => exact (gives_idxV (q := false) P _ _ _).gives.does
 case extract e i => exact (Gq.destr (gives_ext (q := false) P _ _)).gives.does
 case call c => exact does_call P ev _ t
 case panic x => exact (gives_panic P _).does
 case lookup e x i ok => exact (Gives.destr (Gives.sem _)).does
 case mapEntry e m k => exact (Gives.destr (Gives.sem _)).does
 case range e x => exact (Gives.destr (Gives.sem _)).does
 case next it b => exact (Gives.thenV (Gives.sem _) nextD_elim).does
 case entry it => exact (Gives.thenV (Gives.sem _) tup2_elim).does
 case typeAssert x e1 e2 ok => exact (Gives.destr (Gives.sem _)).does
 case mapUpdate e m k v => exact (Gives.sem _).skips
 case insert e m k v => exact (Gives.sem _).skips
 case entryStore e m s v => exact (Gives.sem _).skips
 case ready g => exact fun _ _ _ h => h.elim
 case waits g => exact fun _ _ _ h => h.elim
 case sliceToArrayPointer e x => exact (gives_arr (q := false) P _ _).gives.does
 case makeChan e x => exact fun _ _ _ h => h.elim
 case go c => exact fun _ _ _ h => h.elim
 case defer c => exact fun _ _ _ h => h.elim
 case send c x => exact fun _ _ _ h => h.elim
 case recv e c ok => exact fun _ _ _ h => h.elim
 case select cs b => exact fun _ _ _ h => h.elim
 case build t parts =>
  have e : (parts.map fun p : Nat × Operand => (p.1, ev p.2)).toList = parts.toList.map fun p => (p.1, ev p.2) := by simp
  have h := gives_build (q := false) P t (parts.map fun p : Nat × Operand => (p.1, ev p.2))
  rw [e] at h
  exact h.gives.does
 case buildSlice t n parts =>
  have e : (parts.map fun p : Nat × Operand => (p.1, ev p.2)).toList = parts.toList.map fun p => (p.1, ev p.2) := by simp
  have h := gives_buildSl P t n (parts.map fun p : Nat × Operand => (p.1, ev p.2))
  rw [e] at h
  exact h.does
 case makeFunc fn first cap =>
  have h : Gives P (Instr.makeFunc fn (first.map ev) (cap.map ev)) (.pure (.func fn (first.toList.map ev).toArray (cap.toList.map ev).toArray)) := by
   have e1 : (first.toList.map ev).toArray = first.map ev := Array.toList_inj.1 (by simp)
   have e2 : (cap.toList.map ev).toArray = cap.map ev := Array.toList_inj.1 (by simp)
   rw [e1, e2]; exact .pure _
  exact h.does
 case slice t x lo hi mx =>
  cases mx with
  | none => exact (gives_slice (q := false) P t (ev x) (lo.map ev) (hi.map ev) none (by simp)).gives.does
  | some m =>
   cases hi with
   | none => exact fun _ _ _ h => h.elim
   | some h => exact (gives_slice (q := false) P t (ev x) (lo.map ev) (some (ev h)) (some (ev m)) (by simp)).gives.does
end Go.Proofs.YtklppdodadkcnaaGreat.E
namespace Go.Proofs.YtklppdodadkcnaaGreat.E
open Go
set_option linter.unusedVariables false
def takeS (P : Program) (ev : Operand → Value) (o : Oper) : Option (Bool × Sp Value) :=
 match o.op with
 | .move x => some (false, moveS (ev x))
 | .assign x => some (false, .pure (ev x))
 | .pick c a b => some (false, pickS (ev c) (ev a) (ev b))
 | .build t parts => some (false, buildS P t (parts.toList.map fun p => (p.1, ev p.2)))
 | .load t a => some (true, (addrS (ev a)).bind fun b => loadS P t b)
 | .nilCheck x => some (false, nilS (ev x))
 | .binOp op t x y _ => match plainOps (ev x) (ev y) with
  | true => some (false, binS P op t x y (ev x) (ev y))
  | false => none
 | .unOp op _ x => match plainUn op (ev x) with
  | true => some (false, unS P op (ev x))
  | false => none
 | .convert s d x => match plainConv P s d with
  | true => some (false, convS P s d (ev x))
  | false => none
 | .makeInterface t x => some (false, ifaceS P t (ev x))
 | .makeFunc fn first cap => some (false, .pure (.func fn (first.toList.map ev).toArray (cap.toList.map ev).toArray))
 | .slice t x lo hi mx => match mx, hi with
  | some _, none => none
  | _, _ => some (false, sliceS P t (ev x) (lo.map ev) (hi.map ev) (mx.map ev))
 | .fieldAddr s x f => some (false, fieldS P s (ev x) f)
 | .field s x f => some (false, fieldV P s (ev x) f)
 | .indexAddr t x i => some (false, idxA P t (ev x) (ev i))
 | .sliceToArrayPointer t x => some (false, arrS P t (ev x))
 | .index t x i => some (false, idxV P t (ev x) (ev i))
 | .extract t i => some (false, (extS (ev t) i).bind fun v => destr P o.type v)
 | _ => none
def DoesQ (b : Bool) (P : Program) (s : Sem Next) (x : Sp Value) : Prop :=
 ∀ (K : Value → Heap → Prop) (E : List PanicEntry → Heap → Prop) (H : Heap), x.run K E H → ∃ v, K v H ∧ ∀ w : World, (b = true → w.heap = H) → s.run P w = .ok (.value v) w
theorem Gq.doesQ {b : Bool} {P : Program} {s : Sem Value} {x : Sp Value} (h : Gq b P s x) : DoesQ b P (do Pure.pure (Next.value (← s))) x := fun K E H hx => by
 obtain ⟨v, hv, hr⟩ := h K E H hx
 exact ⟨v, hv, fun w hw => by rw [Sem.run_bind, hr w hw]; rfl⟩
theorem doesQ_pure {b : Bool} {P : Program} (v : Value) : DoesQ b P (Pure.pure (.value v)) (.pure v) := fun K E H hx => ⟨v, hx, fun _ _ => rfl⟩
theorem doesQ_nil {b : Bool} {P : Program} {ev : Operand → Value} {x : Operand} {d : Option Tmp} {t : TypeId} {p : String} {af : Array Edge} {g : Option (Nat × Bool)} : DoesQ b P (execOp ev ⟨d, .nilCheck x, t, p, af, g⟩) (nilS (ev x)) := by
 unfold nilS
 split
 ·rename_i ao hv
  intro K E H hx
  obtain ⟨a, rfl, hx⟩ := nz_elim (k := fun a => K (.pointer (some a)) H) hx
  have : execOp ev ⟨d, .nilCheck x, t, p, af, g⟩ = Pure.pure (.value (.pointer (some a))) := by simp only [execOp, hv]
  rw [this]; exact ⟨_, hx, fun _ _ => rfl⟩
 ·rename_i f a b hv
  intro K E H hx
  have : execOp ev ⟨d, .nilCheck x, t, p, af, g⟩ = Pure.pure (.value (.func (.func f) a b)) := by simp only [execOp, hv]
  rw [this]; exact ⟨_, hx, fun _ _ => rfl⟩
 ·rename_i f a b hv
  intro K E H hx
  have : execOp ev ⟨d, .nilCheck x, t, p, af, g⟩ = Pure.pure (.value (.func (.yield f) a b)) := by simp only [execOp, hv]
  rw [this]; exact ⟨_, hx, fun _ _ => rfl⟩
 ·rename_i t' v' hv
  intro K E H hx
  have : execOp ev ⟨d, .nilCheck x, t, p, af, g⟩ = Pure.pure (.value (.iface t' v')) := by simp only [execOp, hv]
  rw [this]; exact ⟨_, hx, fun _ _ => rfl⟩
 ·exact fun _ _ _ h => h.elim
theorem doesQ_pick {b : Bool} (P : Program) (c x y : Value) : DoesQ b P (do Pure.pure (Next.value (if ← asBool c then x else y))) (pickS c x y) := fun K E H hx => by
 obtain ⟨t, rfl, h2⟩ := pickS_elim (K := K) (E := E) hx
 exact ⟨_, h2, fun _ _ => rfl⟩
theorem take_does {P : Program} {ev : Operand → Value} {o : Oper} {b : Bool} {x : Sp Value} (h : takeS P ev o = some (b, x)) : DoesQ b P (execOp ev o) x := by
 obtain ⟨d, op, t, p, af, g⟩ := o
 cases op <;> first | (cases h; done) | skip
 case move x => cases h; exact (gives_move P _).doesQ
 case assign x => cases h; exact doesQ_pure _
 case pick c a b => cases h; exact doesQ_pick P _ _ _
 case build t parts =>
  cases h
  have e : (parts.map fun p : Nat × Operand => (p.1, ev p.2)).toList = parts.toList.map fun p => (p.1, ev p.2) := by simp
  have h := gives_build (q := false) P t (parts.map fun p : Nat × Operand => (p.1, ev p.2))
  rw [e] at h
  exact h.doesQ
 case load t a => cases h; exact (Gq.bind (gives_sure P _) fun b => gives_load P _ b).doesQ
 case nilCheck x => cases h; exact doesQ_nil
 case binOp op t x y t' =>
  unfold takeS at h; simp only at h
  split at h
  ·rename_i hp; cases h; exact (gives_binq (q := false) P _ _ _ _ _ _ hp).doesQ
  ·cases h
 case unOp op t x =>
  unfold takeS at h; simp only at h
  split at h
  ·rename_i hp; cases h; exact (gives_unq (q := false) P _ _ hp).doesQ
  ·cases h
 case convert s d' x =>
  unfold takeS at h; simp only at h
  split at h
  ·rename_i hp; cases h; exact (gives_convq (q := false) P _ _ _ hp).doesQ
  ·cases h
 case makeInterface t x => cases h; exact (gives_iface (q := false) P _ _).doesQ
 case makeFunc fn first cap =>
  cases h
  have hh : Gq false P (Instr.makeFunc fn (first.map ev) (cap.map ev)) (.pure (.func fn (first.toList.map ev).toArray (cap.toList.map ev).toArray)) := by
   have e1 : (first.toList.map ev).toArray = first.map ev := Array.toList_inj.1 (by simp)
   have e2 : (cap.toList.map ev).toArray = cap.map ev := Array.toList_inj.1 (by simp)
   rw [e1, e2]; exact Gq.pure _
  exact hh.doesQ
 case slice t x lo hi mx =>
  cases mx with
  | none => cases h; exact (gives_slice (q := false) P t (ev x) (lo.map ev) (hi.map ev) none (by simp)).doesQ
  | some m =>
   cases hi with
   | none => cases h
   | some hh => cases h; exact (gives_slice (q := false) P t (ev x) (lo.map ev) (some (ev hh)) (some (ev m)) (by simp)).doesQ
 case fieldAddr e x f => cases h; exact (gives_field (q := false) P _ _ _).doesQ
 case field e x f => cases h; exact (gives_fieldV (q := false) P _ _ _).doesQ
 case indexAddr e x i => cases h; exact (gives_idxA (q := false) P _ _ _).doesQ
 case sliceToArrayPointer e x => cases h; exact (gives_arr (q := false) P _ _).doesQ
 case index e x i => cases h; exact (gives_idxV (q := false) P _ _ _).doesQ
 case extract e i => cases h; exact (Gq.destr (gives_ext (q := false) P _ _)).doesQ
def isG (ops : Array Oper) (o : Oper) : Bool := match o.dst with
 | none => false
 | some d => ops.toList.any fun o' => match o'.guard with
  | none => false
  | some (j, _) => match ops.toList[j]? with
   | none => false
   | some oj => match oj.dst with
    | none => false
    | some d' => Nat.beq d d'
def splitG (f : Bool) (v : Value) : Sp Value := match f with
 | false => .pure v
 | true => match v with
  | .bool b => (Sp.split b).bind fun c => .pure (.bool c)
  | v => .pure v
theorem splitG_elim {f : Bool} {v : Value} {K : Value → Heap → Prop} {E : List PanicEntry → Heap → Prop} {H : Heap} (h : (splitG f v).run K E H) : K v H := by
 cases f with
 | false => exact h
 | true =>
  cases v <;> first | exact h | skip
  rename_i b
  cases b <;> exact h
def spG (ops : Array Oper) (o : Oper) (x : Sp Value) : Sp Value := x.bind fun v => splitG (isG ops o) v
theorem spG_elim {ops : Array Oper} {o : Oper} {x : Sp Value} {K : Value → Heap → Prop} {E : List PanicEntry → Heap → Prop} {H : Heap} (h : (spG ops o x).run K E H) : x.run K E H :=
 x.mono (fun _ _ h' => splitG_elim h') (fun _ _ h' => h') h
inductive TP (ops : Array Oper) : Nat → Nat → Prop
 | one {i j : Nat} {o : Oper} {e : Edge} : ops[j]? = some o → e ∈ o.after → Region.binds .any e = true → e.on = i → TP ops i j
 | more {i j : Nat} {o : Oper} {e : Edge} : ops[j]? = some o → e ∈ o.after → Region.binds .any e = true → TP ops i e.on → TP ops i j
def maskOf (acc : List Nat) : List Edge → Nat
 | [] => 0
 | e :: r => match Region.binds .any e with
  | true => maskOf acc r ||| (2 ^ e.on ||| acc.getD e.on 0)
  | false => maskOf acc r
def masksGo : List Oper → List Nat → List Nat
 | [], acc => acc
 | o :: r, acc => masksGo r (acc ++ [maskOf acc o.after.toList])
def masks (ops : Array Oper) : List Nat := masksGo ops.toList []
def sc (ms : List Nat) (i j : Nat) : Bool := (ms.getD j 0).testBit i
theorem maskOf_spec (acc : List Nat) (i : Nat) : ∀ es : List Edge, (maskOf acc es).testBit i = true → ∃ e ∈ es, Region.binds .any e = true ∧ (e.on = i ∨ (acc.getD e.on 0).testBit i = true)
 | [], h => by simp [maskOf] at h
 | e :: r, h => by
  unfold maskOf at h
  cases hb : Region.binds .any e with
  | false =>
   rw [hb] at h
   obtain ⟨e', he, h'⟩ := maskOf_spec acc i r h
   exact ⟨e', List.mem_cons_of_mem _ he, h'⟩
  | true =>
   rw [hb] at h
   simp only [Nat.testBit_or, Bool.or_eq_true, Nat.testBit_two_pow, decide_eq_true_eq] at h
   rcases h with h | h | h
   ·obtain ⟨e', he, h'⟩ := maskOf_spec acc i r h
    exact ⟨e', List.mem_cons_of_mem _ he, h'⟩
   ·exact ⟨e, List.mem_cons_self, hb, .inl h⟩
   ·exact ⟨e, List.mem_cons_self, hb, .inr h⟩
theorem masksGo_spec (ops : Array Oper) : ∀ (l : List Oper) (acc : List Nat), (∀ k o, l[k]? = some o → ops[acc.length + k]? = some o) →
  (∀ i j, (acc.getD j 0).testBit i = true → TP ops i j) → ∀ i j, ((masksGo l acc).getD j 0).testBit i = true → TP ops i j
 | [], acc, _, h => h
 | o :: r, acc, hl, h => by
  unfold masksGo
  refine masksGo_spec ops r _ (fun k o' hk => ?_) (fun i j hij => ?_)
  ·have := hl (k + 1) o' (by simpa using hk)
   simpa [Nat.add_assoc, Nat.add_comm 1 k] using this
  ·by_cases hj : j < acc.length
   ·rw [List.getD_eq_getElem?_getD, List.getElem?_append_left hj, ← List.getD_eq_getElem?_getD] at hij; exact h i j hij
   ·by_cases hj2 : j = acc.length
    ·subst hj2
     have hij : (maskOf acc o.after.toList).testBit i = true := by simpa using hij
     obtain ⟨e, he, hb, h'⟩ := maskOf_spec acc i _ hij
     have ho : ops[acc.length]? = some o := by simpa using hl 0 o (by simp)
     rcases h' with h' | h'
     ·exact .one ho (by simpa using he) hb h'
     ·exact .more ho (by simpa using he) hb (h i _ h')
    ·have hn : (acc ++ [maskOf acc o.after.toList]).getD j 0 = 0 := by
      rw [List.getD_eq_getElem?_getD, List.getElem?_eq_none (by simp; omega)]; rfl
     rw [hn] at hij; simp at hij
theorem masks_spec (ops : Array Oper) (i j : Nat) (h : sc (masks ops) i j = true) : TP ops i j :=
 masksGo_spec ops ops.toList [] (fun k o hk => by simpa using hk) (fun i j h => by simp at h) i j h
def Down (ops : Array Oper) (listed : Array Bool) : Prop := ∀ j o, ops[j]? = some o → listed.getD j false = true → ∀ e ∈ o.after, Region.binds .any e = true → listed.getD e.on false = true
theorem down_tp {ops : Array Oper} {listed : Array Bool} (hd : Down ops listed) {i j : Nat} (h : TP ops i j) : ∀ o, ops[j]? = some o → (∀ e ∈ o.after, Region.binds .any e = true → listed.getD e.on false = true) → listed.getD i false = true := by
 induction h with
 | one ho he hb hi => intro o' ho' hall; rw [ho] at ho'; cases ho'; rw [← hi]; exact hall _ he hb
 | @more j o e ho he hb htp ih =>
  intro o' ho' hall
  rw [ho] at ho'; cases ho'
  have h1 := hall e he hb
  cases hk : ops[e.on]? with
  | none =>
   cases htp with
   | one h2 => rw [hk] at h2; cases h2
   | more h2 => rw [hk] at h2; cases h2
  | some ok => exact ih ok hk (hd e.on ok hk h1)
end Go.Proofs.YtklppdodadkcnaaGreat.E
