/- States with marks: what a block is for; how a form is gone through. -/
import Derived.Test.YtngploohhmfaiaaGreatLib1
namespace Go.Proofs.YtngploohhmfaiaaGreat.E
open Go
set_option linter.unusedVariables false

/-- a heap, and what each block is for -/
structure TH where
  h : Heap
  g : Nat → Nat
def upd (g : Nat → Nat) (r τ : Nat) : Nat → Nat := fun j => if j = r then τ else g j
/-- from s to s' only old blocks of B may have turned -/
structure Chg (B : Nat → Prop) (s s' : TH) : Prop where
  size : s.h.size ≤ s'.h.size
  tag : ∀ j, j < s.h.size → s'.g j = s.g j
  get : ∀ j, j < s.h.size → ¬ B j → s'.h[j]? = s.h[j]?
abbrev Ch (T : List Nat) (s s' : TH) : Prop := Chg (fun j => s.g j ∈ T) s s'
abbrev On (r : Nat) (s s' : TH) : Prop := Chg (fun j => j = r) s s'
theorem Chg.mono {B B' : Nat → Prop} {s s' : TH} (h : Chg B s s') (hb : ∀ j, j < s.h.size → B j → B' j) : Chg B' s s' := ⟨h.size, h.tag, fun j hj hn => h.get j hj fun hB => hn (hb j hj hB)⟩
theorem Chg.trans {B B' : Nat → Prop} {a b c : TH} (h : Chg B a b) (k : Chg B' b c) (hb : ∀ j, j < a.h.size → B' j → B j) : Chg B a c :=
  ⟨Nat.le_trans h.size k.size, fun j hj => (k.tag j (Nat.lt_of_lt_of_le hj h.size)).trans (h.tag j hj),
    fun j hj hn => (k.get j (Nat.lt_of_lt_of_le hj h.size) fun hB => hn (hb j hj hB)).trans (h.get j hj hn)⟩
theorem Ch.refl (T : List Nat) (s : TH) : Ch T s s := ⟨Nat.le_refl _, fun _ _ => rfl, fun _ _ _ => rfl⟩
theorem Ch.ch {T T' : List Nat} {a b c : TH} (h : Ch T a b) (k : Ch T' b c) (hT : ∀ x ∈ T', x ∈ T) : Ch T a c :=
  Chg.trans h k fun j hj hB => hT _ (by rw [← h.tag j hj]; exact hB)
theorem Ch.on_new {T : List Nat} {a b c : TH} {r : Nat} (h : Ch T a b) (k : On r b c) (hr : a.h.size ≤ r) : Ch T a c :=
  Chg.trans h k fun j hj hB => absurd hB (by omega)
theorem Ch.on_tag {T : List Nat} {a b c : TH} {r τ : Nat} (h : Ch T a b) (k : On r b c) (hr : b.g r = τ) (ht : τ ∈ T) : Ch T a c :=
  Chg.trans h k fun j hj hB => by subst hB; show a.g j ∈ T; rw [← h.tag j hj, hr]; exact ht
theorem Ch.less {T T' : List Nat} {a b : TH} (h : Ch T a b) (hT : ∀ x ∈ T, x ∈ T') : Ch T' a b := Chg.mono h fun _ _ hB => hT _ hB
theorem Chg.ext {s s' : TH} (h : Ch [] s s') : Ext s.h s'.h := ⟨h.size, fun j hj => h.get j hj (by simp)⟩

/-- a block of cells -/
structure Blk (s : TH) (r : Nat) (l : List Value) (t : TypeId) (τ : Nat) : Prop where
  get : s.h[r]? = some (.cells l.toArray t (0, 0))
  tag : s.g r = τ
theorem Blk.lt {s : TH} {r : Nat} {l : List Value} {t τ : Nat} (h : Blk s r l t τ) : r < s.h.size := (Array.getElem?_eq_some_iff.1 h.get).1
theorem Blk.mv {s s' : TH} {r : Nat} {l : List Value} {t τ : Nat} {B : Nat → Prop} (h : Blk s r l t τ) (c : Chg B s s') (hn : ¬ B r) : Blk s' r l t τ :=
  ⟨(c.get r h.lt hn).trans h.get, (c.tag r h.lt).trans h.tag⟩
theorem Blk.ch {s s' : TH} {r : Nat} {l : List Value} {t τ : Nat} {T : List Nat} (h : Blk s r l t τ) (c : Ch T s s') (hn : τ ∉ T) : Blk s' r l t τ := h.mv c (by show s.g r ∉ T; rw [h.tag]; exact hn)
theorem Blk.on {s s' : TH} {r r' : Nat} {l : List Value} {t τ : Nat} (h : Blk s r l t τ) (c : On r' s s') (hn : r ≠ r') : Blk s' r l t τ := h.mv c hn
theorem Blk.cell {s : TH} {r : Nat} {l : List Value} {t τ : Nat} (h : Blk s r l t τ) (i : Nat) : cellH s.h ⟨r, i, none⟩ = l[i]? := by
  simp [cellH, h.get]
theorem Blk.frozen {s : TH} {r : Nat} {l : List Value} {t τ : Nat} (h : Blk s r l t τ) (i : Nat) : frozenH s.h ⟨r, i, none⟩ = false := by
  simp [frozenH, h.get]

/-- from s to s' only old blocks with marks of T, and those of L, may have turned -/
abbrev ChL (T L : List Nat) (s s' : TH) : Prop := Chg (fun j => s.g j ∈ T ∨ j ∈ L) s s'
theorem ChL.refl (T L : List Nat) (s : TH) : ChL T L s s := ⟨Nat.le_refl _, fun _ _ => rfl, fun _ _ _ => rfl⟩
theorem ChL.ch {T T' L : List Nat} {a b c : TH} (h : ChL T L a b) (k : Ch T' b c) (hT : ∀ x ∈ T', x ∈ T) : ChL T L a c :=
  Chg.trans h k fun j hj hB => .inl (hT _ (by rw [← h.tag j hj]; exact hB))
theorem ChL.on {T L : List Nat} {a b c : TH} {r : Nat} (h : ChL T L a b) (k : On r b c) (hr : r ∈ L) : ChL T L a c :=
  Chg.trans h k fun j hj hB => .inr (by subst hB; exact hr)
theorem ChL.on_new {T L : List Nat} {a b c : TH} {r : Nat} (h : ChL T L a b) (k : On r b c) (hr : a.h.size ≤ r) : ChL T L a c :=
  Chg.trans h k fun j hj hB => absurd hB (by omega)
theorem ChL.on_tag {T L : List Nat} {a b c : TH} {r τ : Nat} (h : ChL T L a b) (k : On r b c) (hr : b.g r = τ) (ht : τ ∈ T) : ChL T L a c :=
  Chg.trans h k fun j hj hB => .inl (by subst hB; rw [← h.tag j hj, hr]; exact ht)
theorem ChL.chl {T T' L L' : List Nat} {a b c : TH} (h : ChL T L a b) (k : ChL T' L' b c) (hT : ∀ x ∈ T', x ∈ T) (hL : ∀ r ∈ L', r ∈ L ∨ a.h.size ≤ r) : ChL T L a c :=
  Chg.trans h k fun j hj hB => hB.elim (fun hB => .inl (hT _ (by rw [← h.tag j hj]; exact hB))) (fun hB => (hL j hB).elim .inr fun h => absurd h (by omega))
theorem Ch.chl {T T' L' : List Nat} {a b c : TH} (h : Ch T a b) (k : ChL T' L' b c) (hT : ∀ x ∈ T', x ∈ T) (hL : ∀ r ∈ L', a.h.size ≤ r) : Ch T a c :=
  Chg.trans h k fun j hj hB => hB.elim (fun hB => hT _ (by rw [← h.tag j hj]; exact hB)) (fun hB => absurd (hL j hB) (by omega))
theorem Blk.chl {s s' : TH} {r : Nat} {l : List Value} {t τ : Nat} {T L : List Nat} (h : Blk s r l t τ) (c : ChL T L s s') (hn : τ ∉ T) (hl : r ∉ L) : Blk s' r l t τ := h.mv c (fun h1 => h1.elim (fun h1 => hn (by rw [h.tag] at h1; exact h1)) hl)
theorem tagL {s : TH} {τ : Nat} {T L : List Nat} (h : τ ∉ T) (hl : ∀ r ∈ L, s.g r ≠ τ) : ∀ j, j < s.h.size → s.g j = τ → ¬ (s.g j ∈ T ∨ j ∈ L) := fun j _ e h' => h'.elim (fun h' => h (e ▸ h')) (fun h' => hl j h' e)

/-! ### going through a form -/
def RT (Q : Value → TH → Prop) : Ending → Heap → Prop := fun e H' => ∃ v s', e = .returned v ∧ s'.h = H' ∧ Q v s'
/-- a call that comes back -/
def TRet (P : Program) (f : FuncId) (args : Array Value) (s : TH) (Q : Value → TH → Prop) : Prop := HCalls P f args s.h (RT Q)
theorem ret_t {Q : Value → TH → Prop} {v : Value} {s : TH} (h : Q v s) : RT Q (.returned v) s.h := ⟨v, s, rfl, rfl, h⟩
theorem tcall {P : Program} {f : FuncId} {args : Array Value} {s : TH} {Q : Value → TH → Prop} {K : Value → Heap → Prop} {E : List PanicEntry → Heap → Prop}
    (h : TRet P f args s Q) (hk : ∀ v s', Q v s' → K v s'.h) : HCalls P f args s.h (Sp.retK K E) :=
  HCalls.mono h fun e H' ⟨v, s', he, hs, hq⟩ => by subst he hs; exact hk v s' hq
theorem TRet.mono {P : Program} {f : FuncId} {args : Array Value} {s : TH} {Q Q' : Value → TH → Prop} (h : TRet P f args s Q) (hk : ∀ v s', Q v s' → Q' v s') : TRet P f args s Q' :=
  HCalls.mono h fun e H' ⟨v, s', he, hs, hq⟩ => ⟨v, s', he, hs, hk v s' hq⟩
theorem pushed (s : TH) (o : Obj) (τ : Nat) : Ch [] s ⟨s.h.push o, upd s.g s.h.size τ⟩ :=
  ⟨by simp, fun j hj => by simp [upd, Nat.ne_of_lt hj], fun j hj _ => by rw [Array.getElem?_push]; simp [Nat.ne_of_lt hj]⟩
theorem al_t (τ : Nat) {s : TH} {l : List Value} {t : TypeId} {k : Nat → Heap → Prop}
    (hk : ∀ (r : Nat) (s' : TH), r = s.h.size → Blk s' r l t τ → Ch [] s s' → s.h.size + 1 = s'.h.size → k r s'.h) : al s.h (.cells l.toArray t) k :=
  hk s.h.size ⟨s.h.push (.cells l.toArray t), upd s.g s.h.size τ⟩ rfl ⟨by simp, by simp [upd]⟩ (pushed _ _ _) (by simp)
theorem ld_t {s : TH} {r : Nat} {l : List Value} {t τ i : Nat} {v : Value} {k : Value → Prop} (h : Blk s r l t τ) (hv : l[i]? = some v) (hk : k v) : ld s.h ⟨r, i, none⟩ k :=
  ld_i (by rw [h.cell]; exact hv) hk
theorem modify_get {H : Heap} {r : Nat} {f : Obj → Obj} {j : Nat} : (H.modify r f)[j]? = if r = j then H[j]?.map f else H[j]? := by
  rw [Array.getElem?_modify]
theorem set_on {s : TH} {r : Nat} {l : List Value} {t τ i : Nat} {v : Value} (h : Blk s r l t τ) : Blk ⟨setH s.h ⟨r, i, none⟩ v, s.g⟩ r (l.set i v) t τ ∧ On r s ⟨setH s.h ⟨r, i, none⟩ v, s.g⟩ := by
  refine ⟨⟨?_, h.tag⟩, ⟨by simp [setH], fun _ _ => rfl, fun j hj hn => ?_⟩⟩
  · show (setH s.h ⟨r, i, none⟩ v)[r]? = _
    unfold setH
    rw [modify_get, if_pos rfl, h.get]
    simp
  · show (setH s.h ⟨r, i, none⟩ v)[j]? = _
    unfold setH
    rw [modify_get, if_neg (fun e => hn e.symm)]
theorem st_t {s : TH} {r : Nat} {l : List Value} {t τ i : Nat} {v : Value} {k : Heap → Prop} (h : Blk s r l t τ) (h1 : oneC v = true) (hi : i < l.length)
    (hk : ∀ s' : TH, Blk s' r (l.set i v) t τ → On r s s' → s.h.size = s'.h.size → k s'.h) : st s.h ⟨r, i, none⟩ v k := by
  refine st_i h1 (u := l[i]) (by rw [h.cell]; simp [hi]) (h.frozen i) ?_
  have := set_on (i := i) (v := v) h
  exact hk ⟨setH s.h ⟨r, i, none⟩ v, s.g⟩ this.1 this.2 (by simp [setH])
theorem wr_t {n : Int} {k : Int → Prop} (h : -9223372036854775808 ≤ n ∧ n ≤ 9223372036854775807) (hk : k n) : wr .i64 n k := by
  unfold wr; rw [wrap_id h.1 h.2]; exact hk
theorem wr_a {kd : IntKind} {n : Int} {k : Int → Prop} (hk : ∀ m, m = kd.wrap n → k m) : wr kd n k := hk _ rfl
theorem nm_a {n : Int} {k : Int → Prop} (hk : ∀ m, m = n → k m) : nm n k := hk _ rfl
theorem nm_t {n m : Int} {k : Int → Prop} (h : n = m) (hk : k m) : nm n k := h ▸ hk
theorem ask_t {p x : Prop} (h : p) (hx : x) : ask p x := ⟨h, hx⟩
theorem dBl_i {b : Bool} {k : Bool → Prop} (h : k b) : dBl (.bool b) k := h
theorem dT2 {a b : Value} {k : VF 2} (h : (k : Value → Value → Prop) a b) : dT 2 (.tuple #[a, b]) k := h
theorem dT3 {a b c : Value} {k : VF 3} (h : (k : Value → Value → Value → Prop) a b c) : dT 3 (.tuple #[a, b, c]) k := h
theorem sB_t {b : Bool} {x y : Prop} (h : b = true) (hx : x) : sB b x y := by subst h; exact hx
theorem sB_f {b : Bool} {x y : Prop} (h : b = false) (hy : y) : sB b x y := by subst h; exact hy
/-- roads that meet -/
theorem jn0 {K : Heap → Prop} {f : (Heap → Prop) → Prop} (J : TH → Prop) (h1 : ∀ s, J s → K s.h) (h2 : ∀ K' : Heap → Prop, (∀ s : TH, J s → K' s.h) → f K') : jn K f := ⟨h2 K h1⟩
theorem jn1 {α : Type} {K : α → Heap → Prop} {f : (α → Heap → Prop) → Prop} (J : α → TH → Prop) (h1 : ∀ a s, J a s → K a s.h) (h2 : ∀ K' : α → Heap → Prop, (∀ a (s : TH), J a s → K' a s.h) → f K') : jn K f := ⟨h2 K h1⟩
theorem jn2 {α β : Type} {K : α → β → Heap → Prop} {f : (α → β → Heap → Prop) → Prop} (J : α → β → TH → Prop) (h1 : ∀ a b s, J a b s → K a b s.h) (h2 : ∀ K' : α → β → Heap → Prop, (∀ a b (s : TH), J a b s → K' a b s.h) → f K') : jn K f := ⟨h2 K h1⟩
theorem jn3 {α β γ : Type} {K : α → β → γ → Heap → Prop} {f : (α → β → γ → Heap → Prop) → Prop} (J : α → β → γ → TH → Prop) (h1 : ∀ a b c s, J a b c s → K a b c s.h) (h2 : ∀ K' : α → β → γ → Heap → Prop, (∀ a b c (s : TH), J a b c s → K' a b c s.h) → f K') : jn K f := ⟨h2 K h1⟩
theorem jn_u {α : Type} {K : α} {f : α → Prop} (h : f K) : jn K f := ⟨h⟩
theorem tagn {s : TH} {τ : Nat} {T : List Nat} (h : τ ∉ T) : ∀ j, j < s.h.size → s.g j = τ → ¬ s.g j ∈ T := fun j _ e => by rw [e]; exact h
theorem onn {s : TH} {τ r : Nat} (h : s.g r ≠ τ) : ∀ j, j < s.h.size → s.g j = τ → ¬ j = r := fun j _ e h' => h (h' ▸ e)
theorem sB_n {b : Bool} {x y : Prop} (h1 : b = false → x) (h2 : b = true → y) : sB (!b) x y := by cases b <;> first | exact h1 rfl | exact h2 rfl
theorem sB_nd {p : Prop} [Decidable p] {x y : Prop} (h1 : ¬ p → x) (h2 : p → y) : sB (!decide p) x y := sB_n (fun h => h1 (of_decide_eq_false h)) (fun h => h2 (of_decide_eq_true h))
theorem dPtr_i {a : Option Addr} {k : Option Addr → Prop} (h : k a) : dPtr (.pointer a) k := h
theorem dSl_i {a : Option Addr} {n c : Nat} {k : Option Addr → Nat → Nat → Prop} (h : k a n c) : dSl (.slice a n c) k := h
theorem dMap_i {a : Option Nat} {k : Option Nat → Prop} (h : k a) : dMap (.map a) k := h
theorem dStr_i {a : ByteArray} {k : ByteArray → Prop} (h : k a) : dStr (.string a) k := h
theorem dFn_i {g : FuncId} {a b : Array Value} {k : FuncId → Array Value → Array Value → Prop} (h : k g a b) : dFn (.func (.func g) a b) k := h
theorem dAgg_i {a : Array Value} {k : Array Value → Prop} (h : k a) : dAgg (.agg a) k := h
theorem oV_i {o : Option Value} {v : Value} {k : Value → Prop} (h : o = some v) (hk : k v) : oV o k := by subst h; exact hk
theorem nzR_i {a : Nat} {k : Nat → Prop} (h : k a) : nzR (some a) k := h
theorem ret_b {P Q : Bool} (h : P = Q) : Value.bool P = Value.bool Q := by rw [h]
theorem ret_i {k : IntKind} {P Q : Int} (h : P = Q) : Value.int k P = Value.int k Q := by rw [h]
end Go.Proofs.YtngploohhmfaiaaGreat.E
