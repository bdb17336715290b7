/- The engine, part 4: fields, indices, slices, what is made; and all operations under one name. -/
import Derived.Test.YtngploohhmfaiaaGreatEng3
import Derived.Laws.Slices
import Derived.Laws.MakeOwn
import Derived.Laws.Build
namespace Go.Proofs.YtngploohhmfaiaaGreat.E
open Go
set_option linter.unusedVariables false

def partS (P : Program) (t : TypeId) (cs : Array Value) (off : Nat) : Sp Value :=
  (aggOf P t).bind fun b => match b with
    | true => (infoS P t).bind fun i => .pure (.agg (cs.extract off (off + i.size)))
    | false => Sp.opt cs.toList[off]?
theorem gives_part {q : Bool} (P : Program) (t : TypeId) (cs : Array Value) (off : Nat) : Gq q P (part t cs off) (partS P t cs off) := by
  refine (gives_agg P t).bind fun b => ?_
  cases b with
  | true => exact fun K E w hx => (Gq.bind (gives_size P t) (g := fun n => Sp.pure (Value.agg (cs.extract off (off + n)))) fun n => Gq.pure _) K E w hx
  | false =>
    simp only [Bool.false_eq_true, if_false]
    intro K E H hx
    cases h : cs[off]? with
    | none =>
      have h' : cs.toList[off]? = none := by simpa using h
      have hx : oV cs.toList[off]? (fun v => K v H) := hx
      rw [h'] at hx; exact hx.elim
    | some v =>
      have h' : cs.toList[off]? = some v := by simpa using h
      have hx : oV cs.toList[off]? (fun v => K v H) := hx
      rw [h'] at hx; exact ⟨v, hx, fun _ _ => rfl⟩

def fieldS (P : Program) (s : TypeId) (v : Value) (n : Nat) : Sp Value :=
  match P.underlying s with
  | some (.struct fs) =>
    match fs.toList[n]? with
    | some f => (addrS v).bind fun a => (infoS P f.type).bind fun i => (Sp.guard (!(Nat.beq i.size 0))).bind fun _ => .pure (.pointer (some (a.add f.offset)))
    | none => .fail
  | _ => .fail
theorem gives_place {q : Bool} (P : Program) (a : Addr) (f : Field) : Gq q P (fieldPlace a f) ((infoS P f.type).bind fun i => (Sp.guard (!(Nat.beq i.size 0))).bind fun _ => .pure (a.add f.offset)) := by
  refine Gq.info fun i hi => Gq.guard fun hb => Gq.of_run fun w => ?_
  have h0 : ¬ i.size = 0 := by intro h; rw [h] at hb; simp at hb
  simp [fieldPlace, sizeOf, run_typeInfo hi, h0]
theorem gives_field {q : Bool} (P : Program) (s : TypeId) (v : Value) (n : Nat) : Gq q P (Instr.fieldAt s v n) (fieldS P s v n) := by
  unfold Instr.fieldAt fieldS
  refine gives_underlying P s _ _ (fun d hd => ?_) (fun hd => ?_)
  · rw [hd]
    cases d <;> first | exact .fail _ | skip
    rename_i fs
    simp only
    cases hf : fs.toList[n]? with
    | none => exact .fail _
    | some f =>
      have hf' : fs[n]? = some f := by simpa using hf
      simp only [hf']
      exact (gives_sure P v).bind fun a => fun K E w hx => (Gq.bind (gives_place P a f) (g := fun b => Sp.pure (Value.pointer (some b))) fun b => Gq.pure _) K E w hx
  · rw [hd]; exact fun _ _ _ h => h

def fieldV (P : Program) (s : TypeId) (v : Value) (n : Nat) : Sp Value :=
  match P.underlying s with
  | some (.struct fs) =>
    match fs.toList[n]? with
    | some f => (Sp.agg v).bind fun cs => (partS P f.type cs f.offset).bind fun u => destr P f.type u
    | none => .fail
  | _ => .fail
theorem gives_asAgg {q : Bool} (P : Program) (v : Value) : Gq q P (asAgg v) (Sp.agg v) := fun K E H hx => by
  obtain ⟨cs, rfl, h⟩ := dAgg_elim (k := fun cs => K cs H) hx
  exact ⟨cs, h, fun _ _ => rfl⟩
theorem gives_fieldV {q : Bool} (P : Program) (s : TypeId) (v : Value) (n : Nat) : Gq q P (Instr.field s v n) (fieldV P s v n) := by
  unfold Instr.field fieldV
  refine gives_underlying P s _ _ (fun d hd => ?_) (fun hd => ?_)
  · rw [hd]
    cases d <;> first | exact .fail _ | skip
    rename_i fs
    simp only
    cases hf : fs.toList[n]? with
    | none => exact .fail _
    | some f =>
      have hf' : fs[n]? = some f := by simpa using hf
      simp only [hf']
      exact (gives_asAgg P v).bind fun cs => Gq.destr (gives_part P f.type cs f.offset)
  · rw [hd]; exact fun _ _ _ h => h

def byteAt (s : ByteArray) (i : Nat) : Int := ((s.data.toList[i]?).getD 0).toNat
def idxA (P : Program) (t : TypeId) (x i : Value) : Sp Value :=
  match P.underlying t with
  | some (.slice elem) => (Sp.int' i).bind fun n => (Sp.slc x).bind fun s => (Sp.nonNil s.1).bind fun a => (Sp.asking (0 ≤ n.2 ∧ n.2 < (s.2.1 : Int))).bind fun _ => (infoS P elem).bind fun inf => .pure (.pointer (some (a.add (n.2.toNat * inf.size))))
  | some (.array len elem) => (Sp.int' i).bind fun n => (addrS x).bind fun a => (Sp.asking (0 ≤ n.2 ∧ n.2 < (len : Int))).bind fun _ => (infoS P elem).bind fun inf => .pure (.pointer (some (a.add (n.2.toNat * inf.size))))
  | _ => .fail
theorem gives_idxA {q : Bool} (P : Program) (t : TypeId) (x i : Value) : Gq q P (Instr.indexAt t x i) (idxA P t x i) := by
  unfold idxA
  split
  · rename_i elem ht
    refine Gq.int' fun k n hv => Gq.slc fun b len cap hb => Gq.nonNil fun a ha => Gq.asking fun hr => Gq.info fun inf hi => Gq.of_run fun w => ?_
    subst hv hb
    simp only at ha hr ⊢
    subst ha
    simp [Instr.indexAt, asIntOf, run_under ht, sizeOf, run_typeInfo hi, hr]
  · rename_i len elem ht
    refine Gq.int' fun k n hv => Gq.addr fun a ha => Gq.asking fun hr => Gq.info fun inf hi => Gq.of_run fun w => ?_
    subst hv ha
    simp only at hr ⊢
    simp [Instr.indexAt, asIntOf, Instr.sureAddr, run_under ht, sizeOf, run_typeInfo hi, hr]
  · exact .fail _
def idxV (P : Program) (t : TypeId) (x i : Value) : Sp Value :=
  match P.underlying t with
  | some .string => (Sp.int' i).bind fun n => (Sp.str x).bind fun s => (Sp.asking (0 ≤ n.2 ∧ n.2 < (s.size : Int))).bind fun _ => .pure (.int .u8 (byteAt s n.2.toNat))
  | some (.array len elem) => (Sp.int' i).bind fun n => (Sp.agg x).bind fun cs => (Sp.asking (0 ≤ n.2 ∧ n.2 < (len : Int))).bind fun _ => (infoS P elem).bind fun inf => (partS P elem cs (n.2.toNat * inf.size)).bind fun v => destr P elem v
  | _ => .fail
theorem gives_idxV {q : Bool} (P : Program) (t : TypeId) (x i : Value) : Gq q P (Instr.index t x i) (idxV P t x i) := by
  unfold idxV
  split
  · rename_i ht
    refine Gq.int' fun k n hv => Gq.str fun s hs => Gq.asking fun hr => Gq.of_run fun w => ?_
    subst hv hs
    simp only at hr ⊢
    have hlt : n.toNat < s.size := by omega
    have hg : s[n.toNat]? = some s[n.toNat] := by simp [hlt]
    have hb : byteAt s n.toNat = (s[n.toNat].toNat : Int) := by
      unfold byteAt
      have : s.data.toList[n.toNat]? = some s[n.toNat] := by
        rw [List.getElem?_eq_getElem (by simpa using hlt)]; rfl
      rw [this]; rfl
    simp [Instr.index, asIntOf, run_under ht, hr.1, hg, hb]
  · rename_i len elem ht
    refine Gq.int' fun k n hv => Gq.agg fun cs hs => Gq.asking fun hr => Gq.info fun inf hi => ?_
    subst hv hs
    simp only at hr ⊢
    intro K E H hx
    obtain ⟨v, hv, hrun⟩ := Gq.destr (t := elem) (gives_part (q := q) P elem cs (n.toNat * inf.size)) K E H hx
    refine ⟨v, hv, fun w hw => ?_⟩
    simp [Instr.index, asIntOf, run_under ht, sizeOf, run_typeInfo hi, hr]
    exact hrun w hw
  · exact .fail _

theorem gives_bound (P : Program) (v : Value) (y : Nat) (code : BoundsCode) (n : Int) (k : IntKind) (hv : v = .int k n) (h0 : 0 ≤ n) (h1 : n ≤ y) (w : World) : (Instr.sliceBound v y code).run P w = .ok n.toNat w := by
  subst hv
  simp [Instr.sliceBound, asIntOf, h0, h1]
def slA (size : Nat) (a : Addr) (l m : Int) : Addr := if m.toNat = l.toNat then a else a.add (l.toNat * size)
def slO (p : Option Addr) (size : Nat) (l m : Int) : Option Addr := p.map fun a => slA size a l m
def optI (o : Option Value) (d : Int) : Sp Int := match o with | some v => (Sp.int' v).bind fun p => .pure p.2 | none => .pure d
def sliceS (P : Program) (t : TypeId) (x : Value) (lo hi mx : Option Value) : Sp Value :=
  match P.underlying t with
  | some .string => match mx with
    | none => (Sp.str x).bind fun s => (optI hi s.size).bind fun h => (optI lo 0).bind fun l => (Sp.asking (0 ≤ l ∧ l ≤ h ∧ h ≤ (s.size : Int))).bind fun _ => .pure (.string (s.extract l.toNat h.toNat))
    | some _ => .fail
  | some (.slice elem) => (Sp.slc x).bind fun s => (optI mx s.2.2).bind fun m => (optI hi s.2.1).bind fun h => (optI lo 0).bind fun l =>
    (Sp.asking (0 ≤ l ∧ l ≤ h ∧ h ≤ m ∧ m ≤ (s.2.2 : Int))).bind fun _ => (infoS P elem).bind fun inf => .pure (.slice (slO s.1 inf.size l m) (h.toNat - l.toNat) (m.toNat - l.toNat))
  | some (.array n elem) => (addrS x).bind fun a => (optI mx n).bind fun m => (optI hi n).bind fun h => (optI lo 0).bind fun l =>
    (Sp.asking (0 ≤ l ∧ l ≤ h ∧ h ≤ m ∧ m ≤ (n : Int))).bind fun _ => (infoS P elem).bind fun inf => .pure (.slice (slO (some a) inf.size l m) (h.toNat - l.toNat) (m.toNat - l.toNat))
  | _ => .fail
/-- an optional bound -/
def Bnd (o : Option Value) (d n : Int) : Prop := (o = none ∧ n = d) ∨ ∃ k, o = some (.int k n)
theorem Gq.optI {α : Type} {q : Bool} {P : Program} {s : Sem α} {o : Option Value} {d : Int} {g : Int → Sp α} (h : ∀ n, Bnd o d n → Gq q P s (g n)) : Gq q P s ((optI o d).bind g) := by
  cases o with
  | none => exact fun K E w hx => h d (.inl ⟨rfl, rfl⟩) K E w hx
  | some v => exact fun K E w hx => (Gq.int' (g := fun p => g p.2) fun k n hv => h n (.inr ⟨k, by rw [hv]⟩)) K E w hx
theorem run_bounds {P : Program} (b : Bool) (len cap : Nat) (lo hi mx : Option Value) (l h m : Int) (hl : Bnd lo 0 l) (hh : Bnd hi len h) (hm : Bnd mx cap m) (hc : mx ≠ none → hi ≠ none)
    (h0 : 0 ≤ l) (h1 : l ≤ h) (h2 : h ≤ m) (h3 : m ≤ (cap : Int)) (w : World) : (Instr.sliceBounds b len cap lo hi mx).run P w = .ok (l.toNat, h.toNat, m.toNat) w := by
  have n0 : 0 ≤ h := Int.le_trans h0 h1
  have n1 : 0 ≤ m := Int.le_trans n0 h2
  have e1 : h ≤ (m.toNat : Int) := by omega
  have e2 : l ≤ (h.toNat : Int) := by omega
  have bm : ∀ code k, (Instr.sliceBound (.int k m) cap code).run P w = .ok m.toNat w := fun code k => gives_bound P _ _ code m k rfl n1 h3 w
  have bh : ∀ code k, (Instr.sliceBound (.int k h) m.toNat code).run P w = .ok h.toNat w := fun code k => gives_bound P _ _ code h k rfl n0 e1 w
  have bl : ∀ code k, (Instr.sliceBound (.int k l) h.toNat code).run P w = .ok l.toNat w := fun code k => gives_bound P _ _ code l k rfl h0 e2 w
  have zm : mx = none → (cap : Nat) = m.toNat := fun hn => by rcases hm with ⟨_, rfl⟩ | ⟨k, hk⟩ <;> first | exact (Int.toNat_natCast cap).symm | (rw [hn] at hk; cases hk)
  have zh : hi = none → (len : Nat) = h.toNat := fun hn => by rcases hh with ⟨_, rfl⟩ | ⟨k, hk⟩ <;> first | exact (Int.toNat_natCast len).symm | (rw [hn] at hk; cases hk)
  have zl : lo = none → (0 : Nat) = l.toNat := fun hn => by rcases hl with ⟨_, rfl⟩ | ⟨k, hk⟩ <;> first | rfl | (rw [hn] at hk; cases hk)
  have sm : mx = none ∨ ∃ k, mx = some (.int k m) := hm.imp And.left id
  have sh : hi = none ∨ ∃ k, hi = some (.int k h) := hh.imp And.left id
  have sl : lo = none ∨ ∃ k, lo = some (.int k l) := hl.imp And.left id
  clear hl hh hm
  unfold Instr.sliceBounds
  rcases sm with rfl | ⟨km, rfl⟩ <;> rcases sh with rfl | ⟨kh, rfl⟩ <;> rcases sl with rfl | ⟨kl, rfl⟩
  · simp only [Sem.run_bind, Sem.run_pure, Result.andThen_ok]; rw [zm rfl, zh rfl, zl rfl]
  · simp only [Sem.run_bind, Sem.run_pure, Result.andThen_ok]; rw [zh rfl, bl]; simp only [Result.andThen_ok]; rw [zm rfl]
  · simp only [Sem.run_bind, Sem.run_pure, Result.andThen_ok]; rw [zm rfl, bh]; simp only [Result.andThen_ok]; rw [zl rfl]
  · simp only [Sem.run_bind, Sem.run_pure, Result.andThen_ok]; rw [zm rfl, bh]; simp only [Result.andThen_ok]; rw [bl]; rfl
  · exact absurd rfl (hc (by simp))
  · exact absurd rfl (hc (by simp))
  · simp only [Sem.run_bind, Sem.run_pure]; rw [bm]; simp only [Result.andThen_ok]; rw [bh]; simp only [Result.andThen_ok]; rw [zl rfl]
  · simp only [Sem.run_bind, Sem.run_pure]; rw [bm]; simp only [Result.andThen_ok]; rw [bh]; simp only [Result.andThen_ok]; rw [bl]; rfl
theorem gives_slice {q : Bool} (P : Program) (t : TypeId) (x : Value) (lo hi mx : Option Value) (hc : mx ≠ none → hi ≠ none) : Gq q P (Instr.sliceAt t x lo hi mx) (sliceS P t x lo hi mx) := by
  unfold sliceS
  split
  · rename_i ht
    cases mx with
    | some _ => exact .fail _
    | none =>
      refine Gq.str fun s hs => Gq.optI fun h hh => Gq.optI fun l hl => Gq.asking fun hr => Gq.of_run fun w => ?_
      subst hs
      have hb := run_bounds (P := P) false s.size s.size lo hi none l h s.size hl hh (.inl ⟨rfl, rfl⟩) (by simp) hr.1 hr.2.1 hr.2.2 (Int.le_refl _) w
      simp [Instr.sliceAt, Instr.slice, run_under ht, hb]
  · rename_i elem ht
    refine Gq.slc fun a n c hs => Gq.optI fun m hm => Gq.optI fun h hh => Gq.optI fun l hl => Gq.asking fun hr => Gq.info fun inf hi' => Gq.of_run fun w => ?_
    subst hs
    have hb := run_bounds (P := P) true n c lo hi mx l h m hl hh hm hc hr.1 hr.2.1 hr.2.2.1 hr.2.2.2 w
    simp [Instr.sliceAt, Instr.slice, run_under ht, hb, sizeOf, run_typeInfo hi', slA, slO]
    cases a <;> (split <;> simp_all)
  · rename_i n elem ht
    refine Gq.addr fun a ha => Gq.optI fun m hm => Gq.optI fun h hh => Gq.optI fun l hl => Gq.asking fun hr => Gq.info fun inf hi' => Gq.of_run fun w => ?_
    subst ha
    have hb := run_bounds (P := P) false n n lo hi mx l h m hl hh hm hc hr.1 hr.2.1 hr.2.2.1 hr.2.2.2 w
    simp [Instr.sliceAt, Instr.sureAddr, run_under ht, hb, sizeOf, run_typeInfo hi', slA, slO]
  · exact .fail _
end Go.Proofs.YtngploohhmfaiaaGreat.E
