/- My own texts, joined. -/
import Derived.Deep.QuietTactic
import Derived.KernelRfl
import Derived.Maps.Own
import Derived.Shelf.SlIterI.Nil
import Derived.Shelf.SlLaysF
import Derived.Shelf.SlSortCmp.NoneTotal
import Derived.Test.YtklppdodadkcnaaGreatProg
import Derived.WalkKit
import Derived.Test.YtklppdodadkcnaaGreatIC10
namespace Go.Proofs.YtklppdodadkcnaaGreat.E
open Go Go.Proofs
set_option linter.unusedVariables false
set_option maxRecDepth 100000
def F217 (j : Option Addr) (R : zE) (H : Heap) : Prop :=
 al H (.cells #[.pointer j] 69) fun b a => ld a ⟨b, 0, none⟩ fun k => dPtr k fun l => sB (Option.isNone l) (R (.returned (.slice none 0 0)) a) (ld a ⟨b, 0, none⟩ fun m => dPtr m fun n => nz n fun o => ld a (Addr.add o 2) fun p => dMap p fun q => HCalls Tryz.prog 228 #[.map q] a (Sp.retK (fun c d => HCalls Tryz.prog 227 #[c, .func (Fn.func 229) #[] #[.pointer (some ⟨b, 0, none⟩)]] d (Sp.retK (fun e f => dSl e fun g h i => R (.returned (.slice g h i)) f) (pnR R))) (pnR R)))
theorem F217_calls {R : zE} {H : Heap} (a : Option Addr) (h : F217 a R H) : HCalls Tryz.prog 217 #[.pointer a] H R :=
 calls_by .leaf Tryz.func217 rfl (by kernel_rfl) h
def F218 (c : Option Addr) (d : Int) (R : zE) (H : Heap) : Prop :=
 HCalls Tryz.prog 230 #[.pointer c] H (Sp.retK (fun j a => dBl j fun k => sB (!k) (R (.returned (.int .i64 2)) a) (jn (α := VFH 1) (fun l e => ∀ _ _ _ _ _ _ _ _ _ _ : Value, dBl l fun f => sB f (R (.returned (.int .i64 1)) e) (R (.returned (.int .i64 0)) e)) fun b => sB (decide (d < 0)) (b (.bool true) a) (nz c fun g => ld a g fun h => dSl h fun m i n => b (.bool (decide (d ≥ (↑i : Int)))) a))) (pnR R))
theorem F218_calls {R : zE} {H : Heap} (a : Option Addr) (b : Int) (h : F218 a b R H) : HCalls Tryz.prog 218 #[.pointer a, .int .i64 b] H R :=
 calls_by (.node none .leaf (.node none .leaf (.node none (.node (some ⟨[(18, 4)], [8, 9, 10, 11, 12, 13, 14, 15, 16, 17]⟩) .leaf .leaf) .leaf))) Tryz.func218 rfl (by kernel_rfl) h
def F227 (a : Nat) (b c : Array Value) (d : Nat) (e f : Array Value) (R : zE) (H : Heap) : Prop :=
 HCalls Tryz.prog 219 #[.func (Fn.func a) b c] H (Sp.retK (fun j k => dSl j fun g h i => HCalls Tryz.prog 233 #[.slice g h i, .func (Fn.func d) e f] k (Sp.retK (fun m l => R (.returned (.slice g h i)) l) (pnR R))) (pnR R))
theorem F227_calls {R : zE} {H : Heap} (a : Nat) (b c : Array Value) (d : Nat) (e f : Array Value) (h : F227 a b c d e f R H) : HCalls Tryz.prog 227 #[.func (Fn.func a) b c, .func (Fn.func d) e f] H R :=
 calls_by .leaf Tryz.func227 rfl (by kernel_rfl) h
def F228 (a : Option Nat) (R : zE) (H : Heap) : Prop :=
 al H (.cells #[.map a] 232) fun b c => R (.returned (.func (Fn.func 234) #[] #[.pointer (some ⟨b, 0, none⟩)])) c
theorem F228_calls {R : zE} {H : Heap} (a : Option Nat) (h : F228 a R H) : HCalls Tryz.prog 228 #[.map a] H R :=
 calls_by .leaf Tryz.func228 rfl (by kernel_rfl) h
def F230 (a : Option Addr) (R : zE) (H : Heap) : Prop :=
 sB (!Option.isNone a) (nz a fun b => ld H b fun c => dSl c fun e d f => R (.returned (.bool (decide ((↑d : Int) > 0)))) H) (R (.returned (.bool false)) H)
theorem F230_calls {R : zE} {H : Heap} (a : Option Addr) (h : F230 a R H) : HCalls Tryz.prog 230 #[.pointer a] H R :=
 calls_by .leaf Tryz.func230 rfl (by kernel_rfl) h
def F267 (a : Option Addr) (i : Int) (R : zE) (H : Heap) : Prop :=
 nz a fun j => ld H j fun k => dSl k fun l m n => al H (.cells #[.int .i64 i] 3) fun o p => semW Tryz.prog (Builtin.append_ #[45, 45] 45 #[.slice l m n, .slice (some ⟨o, 0, none⟩) 1 1]) (pnR R) p fun b c => dSl b fun d e f => nz a fun g => st c g (.slice d e f) fun h => R (.returned (.tuple #[])) h
theorem F267_calls {R : zE} {H : Heap} (a : Option Addr) (b : Int) (h : F267 a b R H) : HCalls Tryz.prog 267 #[.pointer a, .int .i64 b] H R :=
 calls_by .leaf Tryz.func267 rfl (by kernel_rfl) h
end Go.Proofs.YtklppdodadkcnaaGreat.E
namespace Go.Proofs.YtklppdodadkcnaaGreat.E
open Go Go.Proofs
set_option linter.unusedVariables false
set_option maxRecDepth 100000
def F87 (l m n : Value) (y : Int) (R : zE) (H : Heap) : Prop :=
 al H (.cells #[l, m, n] 23) fun p q => ld q ⟨p, 0, none⟩ fun z => dInt .i64 z fun A => ∃ o : List Value → Heap → Prop, ∃ r : List Value → Heap → Nat, (o ([.slice none 0 0, .int .i64 0]) q) ∧ ∀ c : Option Addr, ∀ d : Nat, ∀ e : Nat, ∀ a : Int, ∀ _ _ _ _ _ _ _ _ _ _ _ _ _ : Value, ∀ b : Heap, (o ([.slice c d e, .int .i64 a]) b) → sB (decide (a < A)) (wr .i64 (y + a) fun s => ld b ⟨p, 0, none⟩ fun t => dInt .i64 t fun f => ask (f ≠ (0 : Int)) (nm (Int.tmod s f) fun u => al b (.cells #[.int .i64 u] 3) fun v w => semW Tryz.prog (Builtin.append_ #[45, 45] 45 #[.slice c d e, .slice (some ⟨v, 0, none⟩) 1 1]) (pnR R) w fun x g => dSl x fun h i j => wr .i64 (a + 1) fun k => (o ([.slice h i j, .int .i64 k]) g) ∧ (r [.slice h i j, .int .i64 k] g) < (r [.slice c d e, .int .i64 a] b))) (R (.returned (.slice c d e)) b)
theorem F87_calls {R : zE} {H : Heap} (a b c : Value) (d : Int) (h : F87 a b c d R H) : HCalls Tryz.prog 87 #[.agg #[a, b, c], .int .i64 d] H R :=
 calls_by (.node none .leaf (.node none .leaf (.node none (.node none .leaf (.node none (.node (some ⟨[(5, 45), (9, 3)], [6, 10, 11, 12, 13, 14, 15, 16, 17, 18, 19, 20, 21]⟩) .leaf .leaf) .leaf)) .leaf))) Tryz.func87 rfl (by kernel_rfl) h
def F88 (x0 : Option Addr) (L M N O P Q S T U V W X Y c d e f g h i j k l m n o p q r s t u v w x y z A B C D E F G : Value) (x3 Z : Int) (x5 : Bool) (aa : Option Addr) (ab ac : Nat) (R : zE) (H : Heap) : Prop :=
 al H (.cells #[L, M, N] 23) fun r1 H2 => al H2 (.cells #[O, P, Q, S, T, U, V, W, X, Y, c, d, e, f, g, h, i, j, k, l, m, n, o, p, q, r, s, t, u, v, w, x, y, z, A, B, C, D, E, F, G] 118) fun r3 H4 => ask (0 ≤ (0 : Int) ∧ 0 ≤ (32 : Int) ∧ (32 : Int) ≤ (32 : Int) ∧ (32 : Int) ≤ (32 : Int)) (jn (α := VFH 1) (fun v5 H6 => ∀ _ _ _ _ : Value, dSl v5 fun ad ae af => HCalls Tryz.prog 105 #[.slice ad ae af, .int .i64 Z, .bool x5] H6 (Sp.retK (fun ag a => dT 2 ag fun ah ai => dSl ah fun aj ak aK => dInt .i64 ai fun I => sB (I != 0) (R (.returned (.tuple #[.int .i64 0, .int .i64 I])) a) (zl3 a r1 fun am an ao => ld a ⟨r3, 0, none⟩ fun ap => dInt .i64 ap fun aq => HCalls Tryz.prog 99 #[.agg #[am, an, ao], .int .i64 aq] a (Sp.retK (fun ar J => dT 2 ar fun au av => dInt .i64 au fun aw => dBl av fun aL => ask ((8 : Int) ≠ (0 : Int)) (wr .i64 (Int.tdiv Z 8) fun ax => wr .i64 (x3 + ax) fun ay => ask ((8 : Int) ≠ (0 : Int)) (wr .i64 (Int.tdiv Z 8) fun b => nz aj fun az => ask (0 ≤ b ∧ b < (↑ak : Int)) (ld J (Addr.add az (Int.toNat b * 1)) fun aA => dInt .u8 aA fun aB => al J (.cells #[.int .u8 aB] 5) fun aC aD => HCalls Tryz.prog 26 #[.pointer x0, .int .i64 aw, .int .i64 ay, .slice (some ⟨aC, 0, none⟩) 1 1, .slice aa ab ac] aD (Sp.retK (fun aE aF => dT 2 aE fun aG aH => dInt .i64 aG fun aI => dInt .i64 aH fun aJ => R (.returned (.tuple #[.int .i64 aI, .int .i64 aJ])) aF) (pnR R)))))) (pnR R)))) (pnR R))) fun K => sB (x3 == 4) (ask (0 ≤ (0 : Int) ∧ 0 ≤ (8 : Int) ∧ (8 : Int) ≤ (8 : Int) ∧ (8 :
 Int) ≤ (8 : Int)) (K (.slice (slO (some ⟨r3, 1, none⟩) 1 0 8) (Int.toNat 8 - Int.toNat 0) (Int.toNat 8 - Int.toNat 0)) H4)) (K (.slice (slO (some ⟨r3, 9, none⟩) 1 0 32) (Int.toNat 32 - Int.toNat 0) (Int.toNat 32 - Int.toNat 0)) H4))
theorem F88_calls {R : zE} {H : Heap} (Y : Option Addr) (G I J K L M N O P Q S T U a b c d e f g i j k l m n o p q r s t u v w x y z A B C D E F : Value) (Z x4 : Int) (x5 : Bool) (V : Option Addr) (W X : Nat) (h : F88 Y G I J K L M N O P Q S T U a b c d e f g i j k l m n o p q r s t u v w x y z A B C D E F Z x4 x5 V W X R H) : HCalls Tryz.prog 88 #[.pointer Y, .agg #[G, I, J], .agg #[K, L, M, N, O, P, Q, S, T, U, a, b, c, d, e, f, g, i, j, k, l, m, n, o, p, q, r, s, t, u, v, w, x, y, z, A, B, C, D, E, F], .int .i64 Z, .int .i64 x4, .bool x5, .slice V W X] H R :=
 calls_by (.node none .leaf (.node none .leaf (.node (some ⟨[(16, 85)], [23, 24, 25, 26]⟩) .leaf .leaf))) Tryz.func88 rfl (by kernel_rfl) h
def F89 (a : Option Addr) (R : zE) (H : Heap) : Prop :=
 sB (Option.isNone a) (R (.returned (.int .i64 0)) H) (nz a fun b => ld H b fun c => dSl c fun e d f => R (.returned (.int .i64 (↑d : Int))) H)
theorem F89_calls {R : zE} {H : Heap} (a : Option Addr) (h : F89 a R H) : HCalls Tryz.prog 89 #[.pointer a] H R :=
 calls_by .leaf Tryz.func89 rfl (by kernel_rfl) h
end Go.Proofs.YtklppdodadkcnaaGreat.E
namespace Go.Proofs.YtklppdodadkcnaaGreat.E
open Go Go.Proofs
set_option linter.unusedVariables false
set_option linter.unusedSimpArgs false
theorem c_clone (τ : Nat) {xa : Option Addr} {xn : Nat} (xc : Nat) {l : List UInt8} {τx : Nat} {s : TH} (hx : Sl s xa (bvs l) τx) (hn : l.length = xn) (h0 : xa = none → xn = 0) (hb : xn ≤ 1000000000) : TRet Tryz.prog 118 #[.slice xa xn xc] s fun v s' => ∃ a' c', v = .slice a' xn c' ∧ Ch [] s s' ∧ Own s' a' xn c' 5 1 (bvs l) τ ∧ (a' = none ↔ xa = none) := by
 refine F118_calls _ _ _  ?_
 unfold F118
 first | refine sB_d (fun a => ?_) (fun a => ?_) | refine sB_nd (fun a => ?_) (fun a => ?_) | refine sB_n (fun a => ?_) (fun a => ?_) | refine sB_i (fun a => ?_) (fun a => ?_)
 ·
  refine ret_t ?_
  have hxa : xa = none := by simpa using a
  have hl : l = [] := List.eq_nil_of_length_eq_zero (by have := h0 hxa; omega)
  have h0' := h0 hxa
  subst hl h0'
  exact ⟨none, 0, rfl, (Ch.refl [] s), Own.nil _ _ _ _, by simp [hxa]⟩
 ·
  refine al_t τ fun r1 s2 i f b j => ?_
  have g := hx.mv b (tagn (by simp))
  refine app_i u85 in5 rfl (f.own0 1) g (by rw [bvs_len]; omega) (bvs_one l) h0 (by unfold maxLen; omega) fun s6 a1 c1 c e hnil => ?_
  have d := e.toL rfl
  have k := d.size
  refine dSl_i ?_
  refine ret_t ?_
  have hxa : xa ≠ none := by intro h; simp [h] at a
  rw [Nat.zero_add, List.nil_append] at c
  simp only [Nat.zero_add]
  exact ⟨a1, c1, rfl, (((Ch.refl [] s).ch b (by simp)).chl d (by simp) (by simp <;> omega)), c, by simp [hxa, hnil.1]⟩
-- no form: math/bits.Mul64
-- no form: math/bits.Mul
-- no form: bytes.Repeat
end Go.Proofs.YtklppdodadkcnaaGreat.E
namespace Go.Proofs.YtklppdodadkcnaaGreat.E
open Go Go.Proofs
set_option linter.unusedVariables false
set_option linter.unusedSimpArgs false
theorem c_made (d T : Nat) (D : DiskM) (s : TH) (hT : 10 ≤ T) (hd : Disk s d T D) : TRet Tryz.prog 230 #[.pointer (some ⟨d, 0, none⟩)] s fun v s' => v = .bool true ∧ Ch [] s s' := by
 obtain ⟨pa, pc, qa, qc, hs, qs, fr, fm, hD⟩ := id hd
 have hblk := hD.blk
 have hrows := hD.rows
 have hbrel := hD.brel
 have hque := hD.que
 have hqrel := hD.qrel
 have hfails := hD.fails
 refine F230_calls _  ?_
 unfold F230
 refine sB_t (by rfl) (nz_i (ld_t hblk rfl (dSl_i ?_)))
 refine ret_t ?_
 exact ⟨ret_b (by have := hD.nb; simp; omega), (Ch.refl [] s)⟩
theorem c_blocks (d T : Nat) (D : DiskM) (s : TH) (hT : 10 ≤ T) (hd : Disk s d T D) : TRet Tryz.prog 89 #[.pointer (some ⟨d, 0, none⟩)] s fun v s' => v = .int .i64 (D.blocks.length : Int) ∧ Ch [] s s' := by
 obtain ⟨pa, pc, qa, qc, hs, qs, fr, fm, hD⟩ := id hd
 have hblk := hD.blk
 have hrows := hD.rows
 have hbrel := hD.brel
 have hque := hD.que
 have hqrel := hD.qrel
 have hfails := hD.fails
 refine F89_calls _  ?_
 unfold F89
 refine sB_f (by rfl) (nz_i (ld_t hblk rfl (dSl_i ?_)))
 refine ret_t ?_
 exact ⟨rfl, (Ch.refl [] s)⟩
theorem c_look (d T : Nat) (D : DiskM) (b : Int) (s : TH) (hT : 10 ≤ T) (hd : Disk s d T D) : TRet Tryz.prog 218 #[.pointer (some ⟨d, 0, none⟩), .int .i64 b] s fun v s' => v = .int .i64 (if D.has b then 0 else 1) ∧ Ch [] s s' := by
 obtain ⟨pa, pc, qa, qc, hs, qs, fr, fm, hD⟩ := id hd
 have hblk := hD.blk
 have hrows := hD.rows
 have hbrel := hD.brel
 have hque := hD.que
 have hqrel := hD.qrel
 have hfails := hD.fails
 refine F218_calls _ _  ?_
 unfold F218
 refine tcall (c_made _ _ _ _ hT hd) ?_
 rintro _ s2 ⟨rfl, a⟩
 have g := a.size
 refine dBl_i (sB_f (by rfl) ?_)
 refine jn_u ?_
 refine sB_d (fun e => ?_) (fun e => ?_)
 ·
  intro _ _ _ _ _ _ _ _ _ _
  refine dBl_i (sB_t (by rfl) ?_)
  refine ret_t ?_
  exact ⟨ret_i (by first | rw [if_pos (by unfold DiskM.has; omega)] | rw [if_neg (by unfold DiskM.has; omega)]), ((Ch.refl [] s).ch a (by simp))⟩
 ·
  refine nz_i ?_
  have c := hblk.ch a (by simp)
  refine ld_t c rfl (dSl_i ?_)
  intro _ _ _ _ _ _ _ _ _ _
  refine dBl_i ?_
  refine sB_d (fun f => ?_) (fun f => ?_)
  ·
   refine ret_t ?_
   exact ⟨ret_i (by first | rw [if_pos (by unfold DiskM.has; omega)] | rw [if_neg (by unfold DiskM.has; omega)]), ((Ch.refl [] s).ch a (by simp))⟩
  ·
   refine ret_t ?_
   exact ⟨ret_i (by first | rw [if_pos (by unfold DiskM.has; omega)] | rw [if_neg (by unfold DiskM.has; omega)]), ((Ch.refl [] s).ch a (by simp))⟩
-- no form: slices.IndexFunc[[]bollard/api.Sent,bollard/api.Sent]
-- no form: slices.ContainsFunc[[]bollard/api.Sent,bollard/api.Sent]
-- no form: (*bollard/disk.Disk).Write$1
-- no form: (*bollard/disk.Disk).place$1
-- no form: (*bollard/disk.Disk).place
-- no form: slices.Delete[[]bollard/api.Sent,bollard/api.Sent]
-- no form: (*bollard/disk.Disk).Write
-- no form: (*bollard/disk.Disk).Complete
theorem BRel.snoc {s : TH} {τ : Nat} {hs : List Hd} {bs : List (List UInt8)} (h : BRel s τ hs bs) {p : Hd} {b : List UInt8} (hp : ByAt s τ p b) : BRel s τ (hs ++ [p]) (bs ++ [b]) := by
 refine ⟨by simp [h.len], fun i x y hx hy => ?_⟩
 by_cases hi : i < bs.length
 ·rw [List.getElem?_append_left (by rw [h.len]; exact hi)] at hx
  rw [List.getElem?_append_left hi] at hy
  exact h.at_ i x y hx hy
 ·rw [List.getElem?_append_right (by rw [h.len]; omega)] at hx
  rw [List.getElem?_append_right (by omega)] at hy
  rw [h.len] at hx
  cases hd : i - bs.length with
  | zero => rw [hd] at hx hy; simp at hx hy; subst hx hy; exact hp
  | succ k => rw [hd] at hx; simp at hx
theorem BRel.nil (s : TH) (τ : Nat) : BRel s τ [] [] := ⟨rfl, fun i p b h _ => by simp at h⟩
theorem QRel.nil (s : TH) (τ : Nat) : QRel s τ [] [] := ⟨rfl, fun i p b h _ => by simp at h⟩
-- no form: bollard/disk.New
theorem c_dread (d T τ : Nat) (D : DiskM) (b : Int) {l : List UInt8} (s : TH) (hT : 10 ≤ T) (hd : Disk s d T D) (hb : D.has b) (hl : D.blocks[b.toNat]? = some l) (hf : D.fails b ≤ 0) : TRet Tryz.prog 203 #[.pointer (some ⟨d, 0, none⟩), .int .i64 b] s fun v s' => ∃ a c, v = .tuple #[.slice a 128 c, .int .i64 0] ∧ Ch [] s s' ∧ Own s' a 128 c 5 1 (bvs l) τ := by
 obtain ⟨pa, pc, qa, qc, hs, qs, fr, fm, hD⟩ := id hd
 have hblk := hD.blk
 have hrows := hD.rows
 have hbrel := hD.brel
 have hque := hD.que
 have hqrel := hD.qrel
 have hfails := hD.fails
 refine F203_calls _ _  ?_
 unfold F203
 refine tcall (c_look _ _ _ _ _ hT hd) ?_
 rintro _ s2 ⟨rfl, e⟩
 have n := e.size
 refine dInt_i ?_
 refine sB_ne (fun i => ?_) (fun i => ?_)
 ·
  refine ret_t ?_
  exact absurd (if_pos hb) i
 ·
  have hb1 := hb; unfold DiskM.has at hb1
  obtain ⟨p, hp⟩ : ∃ p, hs[b.toNat]? = some p := ⟨hs[b.toNat]'(by rw [hD.brel.len]; omega), by simp⟩
  obtain ⟨ap, rfl⟩ : ∃ ap, pa = some ap := by
   have h0 := hD.nb
   rcases hD.rows.2 with ⟨_, h2, _⟩ | ⟨g, o, L, h2, _⟩
   ·omega
   ·exact ⟨_, h2⟩
  refine nz_i ?_
  have f := hblk.ch e (by simp)
  refine ld_t f rfl (dMap_i ?_)
  have fails_4 := hfails.ch e (by simp)
  refine look_g keyI u48 z3 fails_4 b (hD.fok b) ?_
  refine dInt_i ?_
  refine sB_d (fun k => by exfalso; omega) (fun k => ?_)
  refine nz_i (ld_t f rfl (dSl_i (nz_i (ask_t (by omega) ?_))))
  have rows_5 := hrows.mv e (tagn (by simp))
  refine ld_sl rows_5.sl (by rw [Nat.mul_one]; exact bcell hp) ?_
  refine dSl_i ?_
  have brel_6 := hbrel.mv e (tagn (by simp))
  refine tcall (c_clone τ _ (brel_6.at_ _ _ _ hp hl).sl (brel_6.at_ _ _ _ hp hl).len (fun h => by obtain ⟨y, hy⟩ := (hD.brel.at_ _ _ _ hp hl).ne; rw [h] at hy; cases hy) (by omega)) ?_
  rintro _ q ⟨xa2, xc2, rfl, j, m, hxn⟩
  have r := j.size
  refine dSl_i ?_
  refine ret_t ?_
  exact ⟨xa2, xc2, rfl, (((Ch.refl [] s).ch e (by simp)).ch j (by simp)), m⟩
end Go.Proofs.YtklppdodadkcnaaGreat.E
namespace Go.Proofs
open Go.Shelf
def Tryz.collectA_ren : Go.Shelf.Ren := ⟨fun | 8 => 219 | 11 => 231 | n => n, fun | 26 => 3 | 28 => 274 | 24 => 45 | 0 => 0 | 33 => 154 | 4 => 4 | n => n, fun | n => n⟩
theorem Tryz.collectA : Go.Proofs.SlLaysZI.n8 Tryz.prog Tryz.collectA_ren :=
 {mixed := by kernel_rfl,
  f8 := ⟨Tryz.f219.name, by decide, Tryz.func219.trans (congrArg some (by kernel_rfl))⟩,
  f11 := ⟨Tryz.f231.name, by decide, Tryz.func231.trans (congrArg some (by kernel_rfl))⟩,
  t0 := Tryz.underlying0,
  a0 := Tryz.isAgg0,
  z0 := Tryz.sizeOf0,
  v0 := Tryz.zeroValue0,
  t24 := Tryz.underlying45,
  a24 := Tryz.isAgg45,
  z24 := Tryz.sizeOf45,
  v24 := Tryz.zeroValue45,
  t26 := Tryz.underlying3,
  a26 := Tryz.isAgg3,
  z26 := Tryz.sizeOf3,
  v26 := Tryz.zeroValue3,
  t28 := Tryz.underlying274,
  a28 := Tryz.isAgg274,
  z28 := Tryz.sizeOf274,
  v28 := Tryz.zeroValue274,
  i26 := by kernel_rfl }
def Tryz.keysA_ren : Go.Shelf.Ren := ⟨fun | 7 => 228 | 10 => 234 | n => n, fun | 23 => 232 | 26 => 3 | 3 => 244 | 28 => 274 | 0 => 0 | 27 => 273 | 33 => 154 | 4 => 4 | n => n, fun | n => n⟩
theorem Tryz.keysA : Go.Proofs.SlLaysZI.n7 Tryz.prog Tryz.keysA_ren :=
 {mixed := by kernel_rfl,
  f7 := ⟨Tryz.f228.name, by decide, Tryz.func228.trans (congrArg some (by kernel_rfl))⟩,
  f10 := ⟨Tryz.f234.name, by decide, Tryz.func234.trans (congrArg some (by kernel_rfl))⟩,
  t0 := Tryz.underlying0,
  a0 := Tryz.isAgg0,
  z0 := Tryz.sizeOf0,
  v0 := Tryz.zeroValue0,
  t4 := Tryz.underlying4,
  a4 := Tryz.isAgg4,
  z4 := Tryz.sizeOf4,
  v4 := Tryz.zeroValue4,
  t23 := Tryz.underlying232,
  a23 := Tryz.isAgg232,
  z23 := Tryz.sizeOf232,
  v23 := Tryz.zeroValue232,
  t26 := Tryz.underlying3,
  a26 := Tryz.isAgg3,
  z26 := Tryz.sizeOf3,
  v26 := Tryz.zeroValue3,
  t27 := Tryz.underlying273,
  a27 := Tryz.isAgg273,
  z27 := Tryz.sizeOf273,
  v27 := Tryz.zeroValue273,
  t28 := Tryz.underlying274,
  a28 := Tryz.isAgg274,
  z28 := Tryz.sizeOf274,
  v28 := Tryz.zeroValue274,
  t33 := Tryz.underlying154,
  a33 := Tryz.isAgg154,
  z33 := Tryz.sizeOf154,
  v33 := Tryz.zeroValue154 }
def Tryz.keysB_ren : Go.Shelf.Ren := ⟨fun | 7 => 205 | 10 => 220 | n => n, fun | 23 => 216 | 26 => 3 | 3 => 220 | 28 => 274 | 0 => 0 | 27 => 273 | 33 => 154 | 4 => 4 | n => n, fun | n => n⟩
theorem Tryz.keysB : Go.Proofs.SlLaysZI.n7 Tryz.prog Tryz.keysB_ren :=
 {mixed := by kernel_rfl,
  f7 := ⟨Tryz.f205.name, by decide, Tryz.func205.trans (congrArg some (by kernel_rfl))⟩,
  f10 := ⟨Tryz.f220.name, by decide, Tryz.func220.trans (congrArg some (by kernel_rfl))⟩,
  t0 := Tryz.underlying0,
  a0 := Tryz.isAgg0,
  z0 := Tryz.sizeOf0,
  v0 := Tryz.zeroValue0,
  t4 := Tryz.underlying4,
  a4 := Tryz.isAgg4,
  z4 := Tryz.sizeOf4,
  v4 := Tryz.zeroValue4,
  t23 := Tryz.underlying216,
  a23 := Tryz.isAgg216,
  z23 := Tryz.sizeOf216,
  v23 := Tryz.zeroValue216,
  t26 := Tryz.underlying3,
  a26 := Tryz.isAgg3,
  z26 := Tryz.sizeOf3,
  v26 := Tryz.zeroValue3,
  t27 := Tryz.underlying273,
  a27 := Tryz.isAgg273,
  z27 := Tryz.sizeOf273,
  v27 := Tryz.zeroValue273,
  t28 := Tryz.underlying274,
  a28 := Tryz.isAgg274,
  z28 := Tryz.sizeOf274,
  v28 := Tryz.zeroValue274,
  t33 := Tryz.underlying154,
  a33 := Tryz.isAgg154,
  z33 := Tryz.sizeOf154,
  v33 := Tryz.zeroValue154 }
def Tryz.sortFA_ren : Go.Shelf.Ren := ⟨fun | 6 => 233 | 15 => 195 | 14 => 235 | 28 => 215 | 29 => 216 | 20 => 236 | 21 => 237 | 22 => 238 | 23 => 239 | 24 => 240 | 25 => 241 | 26 => 242 | 27 => 243 | 46 => 244 | 47 => 222 | 48 => 223 | 49 => 245 | 50 => 246 | 57 => 247 | n => n, fun | 22 => 45 | 24 => 3 | 25 => 294 | 3 => 3 | 39 => 30 | 0 => 0 | 53 => 64 | 55 => 286 | 4 => 4 | 46 => 278 | 45 => 277 | 50 => 46 | 5 => 5 | 9 => 9 | 66 => 287 | 70 => 107 | 76 => 296 | 77 => 122 | n => n, fun | n => n⟩
theorem Tryz.sortFA : Go.Proofs.SlLaysF.n6 Tryz.prog Tryz.sortFA_ren :=
 {mixed := by kernel_rfl,
  f6 := ⟨Tryz.f233.name, by decide, Tryz.func233.trans (congrArg some (by kernel_rfl))⟩,
  f14 := ⟨Tryz.f235.name, by decide, Tryz.func235.trans (congrArg some (by kernel_rfl))⟩,
  f15 := Tryz.func195.trans (congrArg some (by kernel_rfl)),
  f20 := ⟨Tryz.f236.name, by decide, Tryz.func236.trans (congrArg some (by kernel_rfl))⟩,
  f21 := ⟨Tryz.f237.name, by decide, Tryz.func237.trans (congrArg some (by kernel_rfl))⟩,
  f22 := ⟨Tryz.f238.name, by decide, Tryz.func238.trans (congrArg some (by kernel_rfl))⟩,
  f23 := ⟨Tryz.f239.name, by decide, Tryz.func239.trans (congrArg some (by kernel_rfl))⟩,
  f24 := ⟨Tryz.f240.name, by decide, Tryz.func240.trans (congrArg some (by kernel_rfl))⟩,
  f25 := ⟨Tryz.f241.name, by decide, Tryz.func241.trans (congrArg some (by kernel_rfl))⟩,
  f26 := ⟨Tryz.f242.name, by decide, Tryz.func242.trans (congrArg some (by kernel_rfl))⟩,
  f27 := ⟨Tryz.f243.name, by decide, Tryz.func243.trans (congrArg some (by kernel_rfl))⟩,
  f28 := Tryz.func215.trans (congrArg some (by kernel_rfl)),
  f29 := Tryz.func216.trans (congrArg some (by kernel_rfl)),
  f46 := ⟨Tryz.f244.name, by decide, Tryz.func244.trans (congrArg some (by kernel_rfl))⟩,
  f47 := Tryz.func222.trans (congrArg some (by kernel_rfl)),
  f48 := Tryz.func223.trans (congrArg some (by kernel_rfl)),
  f49 := ⟨Tryz.f245.name, by decide, Tryz.func245.trans (congrArg some (by kernel_rfl))⟩,
  f50 := ⟨Tryz.f246.name, by decide, Tryz.func246.trans (congrArg some (by kernel_rfl))⟩,
  f57 := ⟨Tryz.f247.name, by decide, Tryz.func247.trans (congrArg some (by kernel_rfl))⟩,
  t0 := Tryz.underlying0,
  a0 := Tryz.isAgg0,
  z0 := Tryz.sizeOf0,
  v0 := Tryz.zeroValue0,
  t3 := Tryz.underlying3,
  a3 := Tryz.isAgg3,
  z3 := Tryz.sizeOf3,
  v3 := Tryz.zeroValue3,
  t4 := Tryz.underlying4,
  a4 := Tryz.isAgg4,
  z4 := Tryz.sizeOf4,
  v4 := Tryz.zeroValue4,
  t5 := Tryz.underlying5,
  a5 := Tryz.isAgg5,
  z5 := Tryz.sizeOf5,
  v5 := Tryz.zeroValue5,
  t9 := Tryz.underlying9,
  a9 := Tryz.isAgg9,
  z9 := Tryz.sizeOf9,
  v9 := Tryz.zeroValue9,
  t22 := Tryz.underlying45,
  a22 := Tryz.isAgg45,
  z22 := Tryz.sizeOf45,
  v22 := Tryz.zeroValue45,
  a24 := Tryz.isAgg3,
  z24 := Tryz.sizeOf3,
  t25 := Tryz.underlying294,
  a25 := Tryz.isAgg294,
  z25 := Tryz.sizeOf294,
  v25 := Tryz.zeroValue294,
  t39 := Tryz.underlying30,
  a39 := Tryz.isAgg30,
  z39 := Tryz.sizeOf30,
  v39 := Tryz.zeroValue30,
  t45 := Tryz.underlying277,
  a45 := Tryz.isAgg277,
  z45 := Tryz.sizeOf277,
  v45 := Tryz.zeroValue277,
  t46 := Tryz.underlying278,
  a46 := Tryz.isAgg278,
  z46 := Tryz.sizeOf278,
  v46 := Tryz.zeroValue278,
  t50 := Tryz.underlying46,
  a50 := Tryz.isAgg46,
  z50 := Tryz.sizeOf46,
  v50 := Tryz.zeroValue46,
  t53 := Tryz.underlying64,
  a53 := Tryz.isAgg64,
  z53 := Tryz.sizeOf64,
  v53 := Tryz.zeroValue64,
  t55 := Tryz.underlying286,
  a55 := Tryz.isAgg286,
  z55 := Tryz.sizeOf286,
  v55 := Tryz.zeroValue286,
  t66 := Tryz.underlying287,
  a66 := Tryz.isAgg287,
  z66 := Tryz.sizeOf287,
  v66 := Tryz.zeroValue287,
  t70 := Tryz.underlying107,
  a70 := Tryz.isAgg107,
  z70 := Tryz.sizeOf107,
  v70 := Tryz.zeroValue107,
  t76 := Tryz.underlying296,
  a76 := Tryz.isAgg296,
  z76 := Tryz.sizeOf296,
  v76 := Tryz.zeroValue296,
  t77 := Tryz.underlying122,
  a77 := Tryz.isAgg122,
  z77 := Tryz.sizeOf122,
  v77 := Tryz.zeroValue122 }
end Go.Proofs
namespace Go.Proofs.YtklppdodadkcnaaGreat.E
open Go Go.Proofs Go.RowKit Go.Maps Go.Shelf Go.Sort
set_option linter.unusedVariables false
set_option linter.unusedSimpArgs false
theorem tret_new (τ : Nat) {P : Program} {f : FuncId} {args : Array Value} {s : TH} {Q : Value → TH → Prop}
  (h : ∀ w : World, w.heap = s.h → Calls P f args w fun e w' => ∃ v, e = .returned v ∧ Go.RowKit.Below w.heap.size w w' ∧ Q v ⟨w'.heap, fun j => if j < s.h.size then s.g j else τ⟩) :
  TRet P f args s fun v s' => Q v s' ∧ Ch [] s s' := fun w hw =>
 (h w hw).mono fun e w' ⟨v, he, hb, hq⟩ => ⟨⟨v, ⟨w'.heap, fun j => if j < s.h.size then s.g j else τ⟩, he, rfl, hq, ⟨by rw [← hw]; exact hb.size, fun j hj => by simp [hj], fun j hj _ => by rw [← hw]; exact hb.block j (by rw [hw]; exact hj)⟩⟩, ⟨hb.os, hb.tape, hb.output⟩⟩
theorem own_of_row {w' : World} {B e k n : Nat} {v : Value} {xs : List Value} {τ : Nat} {g : Nat → Nat} (h : w'.ownsRow B e k v n xs) (hg : ∀ j, B ≤ j → g j = τ) : ∃ a c, v = .slice a n c ∧ Own ⟨w'.heap, g⟩ a n c e k xs τ ∧ ∀ b, a = some b → B ≤ b.block := by
 rcases h.2 with ⟨rfl, rfl⟩ | ⟨b, cap, cur, rfl, hb, hc, h1, h2, h3, h4⟩
 ·exact ⟨none, 0, rfl, ⟨h.1, .inl ⟨rfl, rfl, rfl⟩⟩, fun b hb => by cases hb⟩
 ·exact ⟨_, cap, rfl, ⟨h.1, .inr ⟨b, 0, cur.toList, rfl, ⟨by simpa using hc, hg b hb⟩, h1, h2, by simp [h3], by simpa using h4⟩⟩, fun b hb => by cases hb; assumption⟩
def inI64 (x : Int) : Prop := -9223372036854775808 ≤ x ∧ x ≤ 9223372036854775807
theorem wf_i64 {x : Int} (h : inI64 x) : (Lit.int .i64 x).wf = true := by
 unfold inI64 at h
 have e1 : IntKind.i64.min = -9223372036854775808 := by decide
 have e2 : IntKind.i64.max = 9223372036854775807 := by decide
 simp only [Lit.wf, e1, e2, Bool.and_eq_true, decide_eq_true_eq]
 exact h
theorem owns_of {P : Program} {K : TypeId} (hK : P.underlying K = some (.int .i64)) {s : TH} {r τ : Nat} {m : List (Int × Value)} (h : MapK (Value.int .i64) s r m τ) (w : World) (hw : w.heap = s.h) (hn : m.length ≤ 17592186044416) (hk : ∀ k ∈ m.map (·.1), inI64 k) :
  ∃ D0 : DataW Unit, w.ownsMap P K (fun _ => some (.nil, [])) r m.length D0 ∧ (intKeys D0).Perm (m.map (·.1)) ∧ Go.Maps.size D0 = m.length := by
 obtain ⟨es, ck, hg, he⟩ := h.get
 have hlen : es.length = m.length := by have := congrArg List.length he.key; simpa using this
 have hread : ∀ x ∈ es, ∃ k, x.key = .int .i64 k ∧ inI64 k := fun x hx => by
  have : x.key ∈ es.map (·.key) := List.mem_map.2 ⟨x, hx, rfl⟩
  rw [he.key] at this
  obtain ⟨p, hp, hpx⟩ := List.mem_map.1 this
  exact ⟨p.1, hpx.symm, hk _ (List.mem_map.2 ⟨p, hp, rfl⟩)⟩
 have hrd : ∀ (x : MapEntry) (k : Int), x.key = .int .i64 k → inI64 k → Go.WideElems.rd (H := Unit) P K (fun _ => some (.nil, [])) x = some (.int .i64 k, .nil) := fun x k hx hk => by
  obtain ⟨xk, xv, xb⟩ := x
  cases hx
  exact Go.WideElems.rd_mk (R := fun _ => some (.nil, [])) (yv := (.nil, [])) (keyOf_int_mk hK (wf_i64 hk)) rfl
 have hnd : (es.map (·.key)).Nodup := by
  rw [he.key]
  exact List.pairwise_map.2 ((List.pairwise_map.1 h.nd).imp fun {a b} hab => by simpa using hab)
 refine ⟨.map ((es.map (Go.WideElems.rg P K (fun _ => some (.nil, [])))).foldr DataW.insert []), ⟨es.toArray, ck, by rw [hw]; exact hg, ⟨by unfold maxLen; simp; omega, ⟨by simpa using he.old, by simpa using he.born, by simpa using hnd⟩, ?_⟩, by simp; omega, by simp⟩, ?_, ?_⟩
 ·intro x hx
  obtain ⟨k, h1, h2⟩ := hread x (by simpa using hx)
  exact ⟨_, hrd x k h1 h2⟩
 ·have hp := Go.WideShapes.sorted_perm (es.map (Go.WideElems.rg (H := Unit) P K (fun _ => some (.nil, []))))
  have hq := hp.map (fun p => Go.intOf p.1)
  refine hq.trans (List.Perm.of_eq ?_)
  rw [List.map_map]
  have e1 : es.map ((fun p : Lit × DataW Unit => Go.intOf p.1) ∘ Go.WideElems.rg P K (fun _ => some (.nil, []))) = es.map (fun x => match x.key with | .int _ k => k | _ => 0) := by
   apply List.map_congr_left
   intro x hx
   obtain ⟨k, h1, h2⟩ := hread x hx
   simp only [Function.comp, Go.WideElems.rg_of (hrd x k h1 h2), h1]
   rfl
  rw [e1]
  have e2 : es.map (fun x => match x.key with | .int _ k => k | _ => 0) = (es.map (·.key)).map (fun v => match v with | .int _ k => k | _ => 0) := by rw [List.map_map]; rfl
  rw [e2, he.key, List.map_map]
  rfl
 ·show (List.foldr DataW.insert [] _).length = _
  rw [(Go.WideShapes.sorted_perm _).length_eq, List.length_map, hlen]
theorem c_collect (τ : Nat) (Bm r tb τb τm : Nat) {m : List (Int × Value)} {s : TH} (hB : Blk s Bm [.map (some r)] tb τb) (hm : MapK (Value.int .i64) s r m τm) (hn : m.length ≤ 17592186044416) (hk : ∀ k ∈ m.map (·.1), inI64 k) :
  TRet Tryz.prog 219 #[.func (.func 234) #[] #[.pointer (some ⟨Bm, 0, none⟩)]] s fun v s' => (∃ a c ss, v = .slice a m.length c ∧ ss.Perm (m.map (·.1)) ∧ Own s' a m.length c 3 1 (ivs ss) τ ∧ ∀ b, a = some b → s.h.size ≤ b.block) ∧ Ch [] s s' :=
 tret_new τ fun w hw => by
  have hm0 : w.cell? ⟨Bm, 0, none⟩ = some (.map (some r)) := by rw [cell_eq, hw]; exact hB.cell 0
  obtain ⟨D0, ho, hp, hsz⟩ := owns_of (P := Tryz.prog) (K := 3) (by kernel_rfl) hm w hw hn hk
  have hseq : SeqGives Fence.wide 4 Tryz.prog 234 #[.pointer (some ⟨Bm, 0, none⟩)] encZ (fun ss : List Int => ss.Perm (intKeys D0)) (Go.Maps.size D0) w :=
   AnyZI.keys_gives (ρ := Tryz.keysA_ren) { Tryz.keysA with } Fence.wide 4 trivial rfl (by omega) Bm r m.length D0 w (by rw [hw]; exact hB.lt) hm0 ho
  have h := AnyZI.collect_in (ρ := Tryz.collectA_ren) Tryz.collectA Fence.wide 6 trivial trivial rfl (by omega) 234 #[.pointer (some ⟨Bm, 0, none⟩)] trivial (enters_of Tryz.func234 (by kernel_rfl) rfl) _ (Go.Maps.size D0) (by rw [hsz]; unfold maxLen; omega) (by rw [hsz]; omega) w hseq
  refine ((callsIn_wide (n := 6)).1 h).mono ?_
  rintro e w' ⟨v, ss, rfl, hs, hrow, hv, hb⟩
  have hp2 := hs.trans hp
  have hl : ss.length = m.length := by rw [hp2.length_eq]; simp
  obtain ⟨a, c, rfl, hO, hnew⟩ := own_of_row (g := fun j => if j < s.h.size then s.g j else τ) (τ := τ) hrow (fun j hj => by rw [if_neg (by rw [← hw]; omega)])
  rw [hl] at hO ⊢
  exact ⟨_, rfl, hb, a, c, ss, rfl, hp2, hO, by rw [← hw]; exact hnew⟩
end Go.Proofs.YtklppdodadkcnaaGreat.E
namespace Go.Proofs.YtklppdodadkcnaaGreat.E
open Go Go.Proofs Go.RowKit Go.Maps Go.Shelf Go.Sort
set_option linter.unusedVariables false
set_option linter.unusedSimpArgs false
set_option maxHeartbeats 400000 in
theorem held1 {f0 c r : Nat} {m : List (Int × Value)} {bx by_ : Nat} (x y ux uy : Int) {s : TH} {τ : Nat} (w : World) (hw : w.heap = s.h) (h0 : w.cell? ⟨f0, 0, none⟩ = some (.pointer (some ⟨c, 0, none⟩))) (h1 : w.cell? ⟨c, 2, none⟩ = some (.map (some r)))
  (hm : MapK (Value.int .i64) s r m τ) (hx : mget x m = some (.pointer (some ⟨bx, 0, none⟩))) (hy : mget y m = some (.pointer (some ⟨by_, 0, none⟩)))
  (hbx : w.cell? ⟨bx, 2, none⟩ = some (.int .i64 ux)) (hby : w.cell? ⟨by_, 2, none⟩ = some (.int .i64 uy)) (hux : 0 ≤ ux ∧ ux ≤ 9223372036854775807) (huy : 0 ≤ uy ∧ uy ≤ 9223372036854775807) :
  Calls Tryz.prog 229 #[.int .i64 x, .int .i64 y, .pointer (some ⟨f0, 0, none⟩)] w fun e w' => e = .returned (.int .i64 (ux - uy)) ∧ ∃ n, w' = w.drewN n := by
 have L1 : RowKit.Hid (∀ n, (Instr.lookup 232 (.map (some r)) (.int .i64 x) false).run Tryz.prog (w.drewN n) = .ok (.pointer (some ⟨bx, 0, none⟩)) (w.drewN n)) := fun n => by
  have := run_look keyI u232 z244 hm x false (w.drewN n) hw
  rw [hx] at this; exact this
 have L2 : RowKit.Hid (∀ n, (Instr.lookup 232 (.map (some r)) (.int .i64 y) false).run Tryz.prog (w.drewN n) = .ok (.pointer (some ⟨by_, 0, none⟩)) (w.drewN n)) := fun n => by
  have := run_look keyI u232 z244 hm y false (w.drewN n) hw
  rw [hy] at this; exact this
 have hwr : IntKind.i64.wrap (ux - uy) = ux - uy := wrap_id (by omega) (by omega)
 clear hm hx hy hw
 go_enter Tryz.func229, Tryz.ntmps229
 go_wp2
 refine wp_region_quiet_lit (by kernel_rfl) (by kernel_rfl) ?_
 iterate 5 (refine wpQuiet_step (fun K hK => ?_); go_simp; refine hK _ ?_; clear hK K)
 refine wpQuiet_step (fun K hK => ?_)
 go_simp
 refine ⟨_, fun a => by rw [L1.out a]; exact ⟨rfl, rfl⟩, hK _ ?_⟩
 clear hK K
 iterate 8 (refine wpQuiet_step (fun K hK => ?_); go_simp; refine hK _ ?_; clear hK K)
 refine wpQuiet_step (fun K hK => ?_)
 go_simp
 refine ⟨_, fun a => by rw [L2.out a]; exact ⟨rfl, rfl⟩, hK _ ?_⟩
 clear hK K
 iterate 5 (refine wpQuiet_step (fun K hK => ?_); go_simp; refine hK _ ?_; clear hK K)
 refine wpQuiet_nil ?_
 rintro _ ⟨nq, rfl⟩
 go_wp2
 go_ret
 exact ⟨rfl, nq, rfl⟩
section
variable {α : Type} [Inhabited α]
theorem sortW_get (enc : α → Value) (w : World) (blk off m : Nat) (dk : Array α) (os : Array Obj) (j : Nat) (hj : j < w.heap.size) : (sortWorld enc w blk off m dk os).heap[j]? = if blk = j then (w.heap[j]?).map (Go.Sort.onCells (Go.Sort.putCells enc off dk)) else w.heap[j]? := by
 show ((w.heap.modify blk _) ++ os)[j]? = _
 rw [Array.getElem?_append_left (by simpa using hj), Array.getElem?_modify]
theorem sortW_on {enc : α → Value} {w : World} {s : TH} (hw : w.heap = s.h) (blk off m : Nat) (dk : Array α) (os : Array Obj) : On blk s ⟨(sortWorld enc w blk off m dk os).heap, s.g⟩ := by
 refine ⟨?_, fun _ _ => rfl, fun j hj hn => ?_⟩
 ·show s.h.size ≤ ((w.heap.modify blk _) ++ os).size
  simp [hw]
 ·show (sortWorld enc w blk off m dk os).heap[j]? = _
  rw [sortW_get _ _ _ _ _ _ _ _ (by rw [hw]; exact hj), if_neg (fun e => hn e.symm), hw]
theorem putCells_get (enc : α → Value) (off : Nat) (d : Array α) (c : Array Value) (j : Nat) : (Go.Sort.putCells enc off d c)[j]? = (c[j]?).map fun x => if off ≤ j ∧ j < off + d.size then enc d[j - off]! else x := by
 unfold Go.Sort.putCells
 rw [Array.getElem?_mapIdx]
theorem sortW_own {enc : α → Value} {w : World} {s : TH} (hw : w.heap = s.h) {g o n c e τ : Nat} {xs : List Value} (hO : Own s (some ⟨g, o, none⟩) n c e 1 xs τ) (m : Nat) (dk : Array α) (hd : dk.size = n) (os : Array Obj) :
  Own ⟨(sortWorld enc w g o m dk os).heap, s.g⟩ (some ⟨g, o, none⟩) n c e 1 (dk.toList.map enc) τ := by
 rcases hO.2 with ⟨h0, _⟩ | ⟨g', o', L, h0, h1, h2, h3, h4, h5⟩
 ·cases h0
 ·cases h0
  have hg : (sortWorld enc w g o m dk os).heap[g]? = some (.cells (Go.Sort.putCells enc o dk L.toArray) e (0, 0)) := by
   rw [sortW_get _ _ _ _ _ _ _ _ (by rw [hw]; exact h1.lt), if_pos rfl, hw, h1.get]
   rfl
  refine ⟨by simp [hd], .inr ⟨g, o, (Go.Sort.putCells enc o dk L.toArray).toList, rfl, ⟨by simpa using hg, h1.tag⟩, h2, h3, by simpa [Go.Sort.putCells] using h4, ?_⟩⟩
  apply List.ext_getElem?
  intro i
  rw [List.getElem?_take, List.getElem?_drop]
  by_cases hi : i < n
  ·rw [if_pos (by omega), Array.getElem?_toList, putCells_get]
   have hL : o + i < L.length := by omega
   simp [hL, hd, hi]
  ·rw [if_neg (by omega), List.getElem?_eq_none (by simp; omega)]
end
structure UsedAt (s : TH) (m : List (Int × Value)) (u : Int → Int) (τb : Nat) : Prop where
 at_ : ∀ k ∈ m.map (·.1), ∃ b lb tb, mget k m = some (.pointer (some ⟨b, 0, none⟩)) ∧ Blk s b lb tb τb ∧ lb[2]? = some (.int .i64 (u k)) ∧ 0 ≤ u k ∧ u k ≤ 9223372036854775807
 inj : ∀ x ∈ m.map (·.1), ∀ y ∈ m.map (·.1), u x = u y → x = y
theorem UsedAt.mv {s s' : TH} {m : List (Int × Value)} {u : Int → Int} {τb : Nat} {B : Nat → Prop} (h : UsedAt s m u τb) (c : Chg B s s') (hn : ∀ j, j < s.h.size → s.g j = τb → ¬ B j) : UsedAt s' m u τb :=
 ⟨fun k hk => by
  obtain ⟨b, lb, tb, h1, h2, h3⟩ := h.at_ k hk
  exact ⟨b, lb, tb, h1, h2.mv c (hn b h2.lt h2.tag), h3⟩, h.inj⟩
abbrev leU (u : Int → Int) : Int → Int → Bool := fun x y => decide (u x ≤ u y)
theorem c_sortHeld {a : Option Addr} {n c f0 cc r tf τf tc τc τm τb τ : Nat} {ss : List Int} {m : List (Int × Value)} {lc : List Value} {s : TH} (u : Int → Int) (hO : Own s a n c 3 1 (ivs ss) τ) (hn : n ≤ 17592186044416) (hF : Blk s f0 [.pointer (some ⟨cc, 0, none⟩)] tf τf) (hC : Blk s cc lc tc τc) (hC2 : lc[2]? = some (.map (some r)))
  (hm : MapK (Value.int .i64) s r m τm) (hU : UsedAt s m u τb) (hs : ∀ x ∈ ss, x ∈ m.map (·.1)) (ht : τf ≠ τ ∧ τc ≠ τ ∧ τm ≠ τ ∧ τb ≠ τ) :
  TRet Tryz.prog 233 #[.slice a n c, .func (.func 229) #[] #[.pointer (some ⟨f0, 0, none⟩)]] s fun v s' => v = .tuple #[] ∧ OnA a s s' ∧ Own s' a n c 3 1 (ivs (ss.mergeSort (leU u))) τ := by
 have hl : ss.length = n := by have := hO.1; rw [ivs_len] at this; omega
 by_cases h0 : n = 0
 ·subst h0
  have hss : ss = [] := List.eq_nil_of_length_eq_zero hl
  subst hss
  intro w hw
  refine (AnyF.slices_SortFunc_none (ρ := Tryz.sortFA_ren) { Tryz.sortFA with } a c (.func (.func 229) #[] #[.pointer (some ⟨f0, 0, none⟩)]) w).mono ?_
  rintro e w' ⟨rfl, rfl⟩
  exact ⟨⟨_, s, rfl, hw.symm, rfl, ⟨Nat.le_refl _, fun _ _ => rfl, fun _ _ _ => rfl⟩, by simpa using hO⟩, Like.refl _⟩
 obtain ⟨g, o, rfl⟩ : ∃ g o, a = some ⟨g, o, none⟩ := by
  rcases hO.2 with ⟨_, h, _⟩ | ⟨g, o, L, h, _⟩
  ·exact absurd h h0
  ·exact ⟨g, o, h⟩
 have hgt : s.g g = τ := hO.tagOf
 intro w hw
 let K := {k : Int // k ∈ m.map (·.1)}
 let enc : K → Value := fun k => .int .i64 k.1
 let cf : K → K → Int := fun x y => u x.1 - u y.1
 let d : Array K := (ss.attach.map fun x => ⟨x.1, hs x.1 x.2⟩).toArray
 have hd : d.size = n := by simp [d, hl]
 obtain ⟨x0, hx0⟩ : ∃ x, x ∈ ss := by cases ss with | nil => simp at hl; omega | cons x _ => exact ⟨x, by simp⟩
 letI : Inhabited K := ⟨⟨x0, hs x0 hx0⟩⟩
 have hdm : d.toList.map (fun k : K => k.1) = ss := by
  simp [d, Function.comp_def]
 have hne : ∀ j, s.g j ≠ τ → j ≠ g := fun j hj e => hj (by rw [e]; exact hgt)
 have hcmp : CmpLays1 Tryz.prog 229 #[.pointer (some ⟨f0, 0, none⟩)] enc cf g o n w := by
  intro m0 os dk hdk x y
  have hon := sortW_on (enc := enc) hw g o m0 dk os
  obtain ⟨bx, lx, tx, x1, x2, x3, x4⟩ := hU.at_ x.1 x.2
  obtain ⟨by_, ly, ty, y1, y2, y3, y4⟩ := hU.at_ y.1 y.2
  have e0 := hF.on hon (hne _ (by rw [hF.tag]; exact ht.1))
  have e1 := hC.on hon (hne _ (by rw [hC.tag]; exact ht.2.1))
  have e2 := hm.on hon (hne _ (by rw [hm.tag]; exact ht.2.2.1))
  have e3 := x2.on hon (hne _ (by rw [x2.tag]; exact ht.2.2.2))
  have e4 := y2.on hon (hne _ (by rw [y2.tag]; exact ht.2.2.2))
  have h := held1 (s := ⟨(sortWorld enc w g o m0 dk os).heap, s.g⟩) x.1 y.1 (u x.1) (u y.1) (sortWorld enc w g o m0 dk os) rfl (e0.cell 0) ((e1.cell 2).trans hC2) e2 x1 y1 ((e3.cell 2).trans x3) ((e4.cell 2).trans y3) x4 y4
  refine h.mono ?_
  rintro e w' ⟨rfl, q, rfl⟩
  exact ⟨rfl, q, #[], (grow_empty _).symm⟩
 have hH : Go.Sort.Holds enc w g o d := by
  intro j hj
  have hj' : j < n := by rw [← hd]; exact hj
  have hcell := hO.sl.cells w hw j (enc d[j]!) (by
   have : (ivs ss)[j]? = some (enc d[j]!) := by
    rw [← hdm]
    simp [ivs, enc, hj]
   exact this)
  rw [add_mk] at hcell
  refine ⟨hcell, ?_⟩
  rcases hO.2 with ⟨h, _⟩ | ⟨g', o', L, h, h1, _⟩
  ·cases h
  ·cases h
   rw [frozen_eq, hw]; exact h1.frozen _
 have hlt : ∀ x y : K, ltOf cf x y = decide (u x.1 < u y.1) := fun x y => by
  unfold ltOf
  by_cases h : u x.1 < u y.1
  ·rw [decide_eq_true h]; exact decide_eq_true (by show u x.1 - u y.1 < 0; omega)
  ·rw [decide_eq_false h]; exact decide_eq_false (by show ¬ (u x.1 - u y.1 < 0); omega)
 have hO2 : SWO (ltOf cf) := ⟨fun x => by rw [hlt]; simp, fun x y z h1 h2 => by rw [hlt] at *; simp at *; omega, fun x y z h1 h2 => by rw [hlt] at *; simp at *; omega⟩
 have hT : ∀ x y, (ltOf cf) x y = false → (ltOf cf) y x = false → x = y := fun x y h1 h2 => by
  rw [hlt] at h1 h2; simp at h1 h2
  exact Subtype.ext (hU.inj x.1 x.2 y.1 y.2 (by omega))
 have hS := Any.slices_SortFunc_total (ρ := Tryz.sortFA_ren) Tryz.sortFA enc (fun _ => rfl) cf hO2 229 #[.pointer (some ⟨f0, 0, none⟩)] g o c d w (enters_of Tryz.func229 (by kernel_rfl) rfl) (by rw [hd]; exact hcmp) hH (by rw [hw]; rcases hO.2 with ⟨h, _⟩ | ⟨g', o', L, h, h1, _⟩ <;> cases h; exact h1.lt) (by rw [hd]; omega) hT
 rw [hd] at hS
 refine hS.mono ?_
 rintro e w' ⟨rfl, n', os, rfl⟩
 refine ⟨⟨_, ⟨_, s.g⟩, rfl, rfl, rfl, Chg.mono (sortW_on (enc := enc) hw g o n' _ os) (fun j hj e => by simp [e]), ?_⟩, rfl, rfl, rfl⟩
 have := sortW_own (enc := enc) hw hO n' (d.toList.mergeSort fun x y => !(ltOf cf) y x).toArray (by simp [hd]) os
 have e : ((d.toList.mergeSort fun x y => !(ltOf cf) y x).toArray.toList.map enc) = ivs (ss.mergeSort (leU u)) := by
  show (d.toList.mergeSort _).map ((Value.int .i64) ∘ fun k : K => k.1) = _
  rw [← List.map_map, ← hdm]
  unfold ivs
  congr 1
  apply List.map_mergeSort
  intro x _ y _
  rw [hlt]
  by_cases h : u x.1 ≤ u y.1 <;> simp [leU, h] <;> omega
 rw [e] at this
 exact this
theorem c_sfun {Bm r tb τb0 τm f0 cc tf τf tc τc τu : Nat} (τ : Nat) {m : List (Int × Value)} {lc : List Value} {s : TH} (u : Int → Int) (hB : Blk s Bm [.map (some r)] tb τb0) (hm : MapK (Value.int .i64) s r m τm) (hn : m.length ≤ 17592186044416) (hk : ∀ k ∈ m.map (·.1), inI64 k)
  (hF : Blk s f0 [.pointer (some ⟨cc, 0, none⟩)] tf τf) (hC : Blk s cc lc tc τc) (hC2 : lc[2]? = some (.map (some r))) (hU : UsedAt s m u τu) :
  TRet Tryz.prog 227 #[.func (.func 234) #[] #[.pointer (some ⟨Bm, 0, none⟩)], .func (.func 229) #[] #[.pointer (some ⟨f0, 0, none⟩)]] s fun v s' => ∃ (a : Option Addr) (c : Nat) (ss : List Int), v = .slice a m.length c ∧ ss.Perm (m.map (·.1)) ∧ Ch [] s s' ∧ Own s' a m.length c 3 1 (ivs (ss.mergeSort (leU u))) τ := by
 refine F227_calls _ _ _ _ _ _ ?_
 unfold F227
 obtain ⟨τ', hτ⟩ : ∃ τ', τf ≠ τ' ∧ τc ≠ τ' ∧ τm ≠ τ' ∧ τu ≠ τ' := ⟨τf + τc + τm + τu + 1, by omega⟩
 refine tcall (c_collect τ' _ _ _ _ _ hB hm hn hk) ?_
 rintro _ s1 ⟨⟨a, c, ss, rfl, hp, hO, hnew⟩, c1⟩
 refine dSl_i ?_
 refine tcall (c_sortHeld u hO hn (hF.ch c1 (by simp)) (hC.ch c1 (by simp)) hC2 (hm.ch c1 (by simp)) (hU.mv c1 (tagn (by simp))) (fun x hx => hp.mem_iff.1 hx) hτ) ?_
 rintro _ s2 ⟨rfl, c2, hO2⟩
 have c3 : Ch [] s s2 := Chg.trans c1 c2 fun j hj hB => by
  cases a with
  | none => simp at hB
  | some b => simp at hB; have := hnew b rfl; omega
 -- the row's mark: as asked
 let s3 : TH := ⟨s2.h, fun j => if j < s.h.size then s2.g j else τ⟩
 have c4 : Ch [] s s3 := ⟨c3.size, fun j hj => by show (if j < s.h.size then s2.g j else τ) = _; rw [if_pos hj]; exact c3.tag j hj, c3.get⟩
 refine ret_t (s := s3) ⟨a, c, ss, rfl, hp, c4, hO2.1, hO2.2.imp id ?_⟩
 rintro ⟨g, o, L, h1, h2, h3⟩
 refine ⟨g, o, L, h1, ⟨h2.get, ?_⟩, h3⟩
 have := hnew _ h1
 show (if g < s.h.size then s2.g g else τ) = τ
 rw [if_neg (by simp at this; omega)]
end Go.Proofs.YtklppdodadkcnaaGreat.E
namespace Go.Proofs.YtklppdodadkcnaaGreat.E
open Go
set_option linter.unusedVariables false
theorem dm {b q t : Int} (hb : 0 < b) (h0 : 0 ≤ t) (h1 : t < b) : (q * b + t) / b = q ∧ (q * b + t) % b = t :=
 (Int.ediv_emod_unique hb).2 ⟨by rw [Int.mul_comm b q]; omega, h0, h1⟩
def tab (b c x : Int) : Prop := 2 ≤ x % b ∧ x % b < 2 + c / 4
instance (b c x : Int) : Decidable (tab b c x) := by unfold tab; infer_instance
def f1 (b c n x : Int) : Int := if x < n * b ∧ ¬ tab b c x then 1 else 0
def f2 (b c n i x : Int) : Int := if (x < n * b ∧ ¬ tab b c x) ∨ x = n * b ∨ x = n * b + 1 ∨ (n * b + (2 + c / 4) ≤ x ∧ x < n * b + (2 + c / 4) + i) then 1 else 0
def fi (b c x : Int) : Int := x / b * c + (x % b - 2) * 4
def f3 (b c m x : Int) : Int := if tab b c x then (if fi b c x < m then 1 else 0) else 1
theorem mget_none {κ : Type} [DecidableEq κ] {k : κ} {m : List (κ × Value)} (h : k ∉ m.map (·.1)) : mget k m = none := by
 induction m with
 | nil => rfl
 | cons p m ih =>
  obtain ⟨k', v⟩ := p
  simp only [List.map_cons, List.mem_cons, not_or] at h
  simp only [mget, if_neg h.1]; exact ih h.2
theorem mset_new {κ : Type} [DecidableEq κ] {k : κ} {x : Value} {m : List (κ × Value)} (h : k ∉ m.map (·.1)) : mset k x m = m ++ [(k, x)] := by
 induction m with
 | nil => rfl
 | cons p m ih =>
  obtain ⟨k', v⟩ := p
  simp only [List.map_cons, List.mem_cons, not_or] at h
  simp only [mset, if_neg h.1, ih h.2]; rfl
theorem mget_mset {κ : Type} [DecidableEq κ] {k k' : κ} {x : Value} {m : List (κ × Value)} : mget k (mset k' x m) = if k = k' then some x else mget k m := by
 induction m with
 | nil => simp only [mset, mget]
 | cons p m ih =>
  obtain ⟨k2, v⟩ := p
  by_cases h : k' = k2
  ·subst h; simp only [mset, if_pos, mget]; by_cases h2 : k = k' <;> simp [h2]
  ·simp only [mset, if_neg h, mget, ih]
   by_cases h2 : k = k2
   ·subst h2; simp [Ne.symm h]
   ·simp [h2]
end Go.Proofs.YtklppdodadkcnaaGreat.E
namespace Go.Proofs.YtklppdodadkcnaaGreat.E
open Go Go.Proofs Go.RowKit Go.Maps Go.Shelf Go.Sort
set_option linter.unusedVariables false
set_option linter.unusedSimpArgs false
theorem mget_mdel {m : List (Int × Value)} (hn : (m.map (·.1)).Nodup) (k k' : Int) : mget k (mdel k' m) = if k = k' then none else mget k m := by
 induction m with
 | nil => simp [mdel, mget]
 | cons p m ih =>
  rw [List.map_cons, List.nodup_cons] at hn
  rw [mdel]
  by_cases h : k' = p.1
  ·rw [if_pos h]
   by_cases hk : k = k'
   ·rw [if_pos hk]
    exact mget_none (by rw [hk, h]; exact hn.1)
   ·rw [if_neg hk, mget, if_neg (by omega)]
  ·rw [if_neg h, mget, ih hn.2, mget]
   by_cases hk : k = p.1
   ·rw [if_pos hk, if_pos hk, if_neg (by omega)]
   ·rw [if_neg hk, if_neg hk]
theorem keys_mdel {m : List (Int × Value)} (k : Int) : (mdel k m).map (·.1) = (m.map (·.1)).erase k := by
 induction m with
 | nil => rfl
 | cons p m ih =>
  rw [mdel, List.map_cons, List.erase_cons]
  by_cases h : k = p.1
  ·simp [h]
  ·rw [if_neg h, if_neg (by simpa using fun e => h e.symm), List.map_cons, ih]
structure BufM where
 blk : Int
 by_ : List UInt8
 pins : Int
 used : Int
structure CacheM where
 l : List BufM
 bound : Int
 clock : Int
 hits : Int
 misses : Int
def rmB (l : List BufM) (b : Int) : List BufM := l.filter fun x => !(x.blk == b)
def freeB (l : List BufM) : Option BufM := l.find? fun x => x.pins == 0
def CacheM.room (C : CacheM) : Option (List BufM) := if (C.l.length : Int) < C.bound then some C.l else (freeB C.l).map fun v => rmB C.l v.blk
def CacheM.find (C : CacheM) (b : Int) : Option BufM := C.l.find? fun x => x.blk == b
def CacheM.get (C : CacheM) (bs : List (List UInt8)) (b : Int) : CacheM × Int :=
 match C.find b with
 | some x => ({ C with l := rmB C.l b ++ [{ x with used := C.clock + 1 }], clock := C.clock + 1, hits := C.hits + 1 }, 0)
 | none =>
  match C.room with
  | none => ({ C with misses := C.misses + 1 }, 60)
  | some l => ({ C with l := l ++ [⟨b, (bs[b.toNat]?).getD [], 0, C.clock + 1⟩], clock := C.clock + 1, misses := C.misses + 1 }, 0)
def bufv (p : Hd) (pins used : Int) : List Value := [.slice p.1 128 p.2, .int .i64 pins, .int .i64 used]
structure Bufs (s : TH) (τ : Nat) (l : List BufM) (bp : Int → Nat) (bh : Int → Hd) : Prop where
 at_ : ∀ x ∈ l, Blk s (bp x.blk) (bufv (bh x.blk) x.pins x.used) 248 τ
theorem Bufs.mv {s s' : TH} {τ : Nat} {l : List BufM} {bp : Int → Nat} {bh : Int → Hd} {B : Nat → Prop} (h : Bufs s τ l bp bh) (c : Chg B s s') (hn : ∀ j, j < s.h.size → s.g j = τ → ¬ B j) : Bufs s' τ l bp bh :=
 ⟨fun x hx => (h.at_ x hx).mv c (hn _ (h.at_ x hx).lt (h.at_ x hx).tag)⟩
structure BufY (s : TH) (τ : Nat) (l : List BufM) (bh : Int → Hd) : Prop where
 at_ : ∀ x ∈ l, ByAt s τ (bh x.blk) x.by_
theorem BufY.mv {s s' : TH} {τ : Nat} {l : List BufM} {bh : Int → Hd} {B : Nat → Prop} (h : BufY s τ l bh) (c : Chg B s s') (hn : ∀ j, j < s.h.size → s.g j = τ → ¬ B j) : BufY s' τ l bh := ⟨fun x hx => (h.at_ x hx).mv c hn⟩
structure MapOf (m : List (Int × Value)) (l : List BufM) (bp : Int → Nat) : Prop where
 keys : (m.map (·.1)).Perm (l.map (·.blk))
 at_ : ∀ x ∈ l, mget x.blk m = some (.pointer (some ⟨bp x.blk, 0, none⟩))
 inj : ∀ x ∈ l, ∀ y ∈ l, bp x.blk = bp y.blk → x.blk = y.blk
 nd : (l.map (·.blk)).Nodup
 rng : ∀ x ∈ l, 0 ≤ x.blk ∧ x.blk < 2048
structure CacheP (s : TH) (c T d : Nat) (C : CacheM) (r : Nat) (m : List (Int × Value)) (bp : Int → Nat) (bh : Int → Hd) : Prop where
 blk : Blk s c [.pointer (some ⟨d, 0, none⟩), .int .i64 C.bound, .map (some r), .int .i64 C.clock, .int .i64 C.hits, .int .i64 C.misses] 234 T
 map : MapK (Value.int .i64) s r m (T + 1)
 bufs : Bufs s (T + 2) C.l bp bh
 bufy : BufY s (T + 3) C.l bh
 mo : MapOf m C.l bp
 bnd : 1 ≤ C.bound ∧ C.bound ≤ 64
 len : (C.l.length : Int) ≤ C.bound
structure COk (C : CacheM) : Prop where
 srt : C.l.Pairwise fun x y => x.used < y.used
 rng : ∀ x ∈ C.l, 0 ≤ x.used ∧ x.used ≤ C.clock
 clk : 0 ≤ C.clock ∧ C.clock ≤ 9223372036854775807
 cnt : 0 ≤ C.hits ∧ C.hits ≤ 9223372036854775807 ∧ 0 ≤ C.misses ∧ C.misses ≤ 9223372036854775807
 pin : ∀ x ∈ C.l, 0 ≤ x.pins ∧ x.pins ≤ 100
structure Cache (s : TH) (c T d : Nat) (C : CacheM) : Prop where
 p : ∃ r m bp bh, CacheP s c T d C r m bp bh
 ok : COk C
theorem CacheP.mv {s s' : TH} {c T d r : Nat} {C : CacheM} {m : List (Int × Value)} {bp : Int → Nat} {bh : Int → Hd} {B : Nat → Prop} (h : CacheP s c T d C r m bp bh) (k : Chg B s s') (hn : ∀ j, j < s.h.size → T ≤ s.g j → s.g j < T + 10 → ¬ B j) : CacheP s' c T d C r m bp bh :=
 ⟨h.blk.mv k (of_rng hn (Nat.le_refl _) (by omega) c h.blk.lt h.blk.tag), h.map.mv k (of_rng hn (by omega) (by omega) r h.map.lt h.map.tag), h.bufs.mv k (of_rng hn (by omega) (by omega)), h.bufy.mv k (of_rng hn (by omega) (by omega)), h.mo, h.bnd, h.len⟩
theorem Cache.mv {s s' : TH} {c T d : Nat} {C : CacheM} {B : Nat → Prop} (h : Cache s c T d C) (k : Chg B s s') (hn : ∀ j, j < s.h.size → T ≤ s.g j → s.g j < T + 10 → ¬ B j) : Cache s' c T d C := by
 obtain ⟨⟨r, m, bp, bh, hp⟩, ok⟩ := h
 exact ⟨⟨r, m, bp, bh, hp.mv k hn⟩, ok⟩
def usedOf (l : List BufM) (k : Int) : Int := ((l.find? fun x => x.blk == k).map (·.used)).getD 0
theorem find_nd {l : List BufM} (hn : (l.map (·.blk)).Nodup) {x : BufM} (hx : x ∈ l) : (l.find? fun y => y.blk == x.blk) = some x := by
 induction l with
 | nil => cases hx
 | cons y l ih =>
  rw [List.map_cons, List.nodup_cons] at hn
  rw [List.find?_cons]
  rcases List.mem_cons.1 hx with rfl | hx
  ·simp
  ·have : (y.blk == x.blk) = false := by
    simp only [beq_eq_false_iff_ne]
    intro e; exact hn.1 (by rw [e]; exact List.mem_map.2 ⟨x, hx, rfl⟩)
   rw [this]; exact ih hn.2 hx
theorem usedOf_eq {l : List BufM} (hn : (l.map (·.blk)).Nodup) {x : BufM} (hx : x ∈ l) : usedOf l x.blk = x.used := by unfold usedOf; rw [find_nd hn hx]; rfl
theorem used_ne {l : List BufM} (h : l.Pairwise fun x y => x.used < y.used) : ∀ x ∈ l, ∀ y ∈ l, x.used = y.used → x.blk = y.blk := by
 induction l with
 | nil => intro x hx; cases hx
 | cons z l ih =>
  rw [List.pairwise_cons] at h
  intro x hx y hy e
  rcases List.mem_cons.1 hx with hx1 | hx1 <;> rcases List.mem_cons.1 hy with hy1 | hy1
  ·rw [hx1, hy1]
  ·have := h.1 y hy1; rw [hx1] at e; omega
  ·have := h.1 x hx1; rw [hy1] at e; omega
  ·exact ih h.2 x hx1 y hy1 e
theorem CacheP.usedAt {s : TH} {c T d r : Nat} {C : CacheM} {m : List (Int × Value)} {bp : Int → Nat} {bh : Int → Hd} (h : CacheP s c T d C r m bp bh) (ok : COk C) : UsedAt s m (usedOf C.l) (T + 2) := by
 have hmem : ∀ k ∈ m.map (·.1), ∃ x ∈ C.l, x.blk = k := fun k hk => by
  have := h.mo.keys.mem_iff.1 hk
  obtain ⟨x, hx, e⟩ := List.mem_map.1 this
  exact ⟨x, hx, e⟩
 refine ⟨fun k hk => ?_, fun a ha b hb e => ?_⟩
 ·obtain ⟨x, hx, rfl⟩ := hmem k hk
  have h1 := ok.rng x hx
  have h2 := ok.clk
  exact ⟨_, _, _, h.mo.at_ x hx, h.bufs.at_ x hx, by rw [usedOf_eq h.mo.nd hx]; rfl, by rw [usedOf_eq h.mo.nd hx]; omega, by rw [usedOf_eq h.mo.nd hx]; omega⟩
 ·obtain ⟨x, hx, rfl⟩ := hmem a ha
  obtain ⟨y, hy, rfl⟩ := hmem b hb
  rw [usedOf_eq h.mo.nd hx, usedOf_eq h.mo.nd hy] at e
  exact used_ne ok.srt x hx y hy e
theorem sorted_keys {l : List BufM} {ss : List Int} (hn : (l.map (·.blk)).Nodup) (hs : l.Pairwise fun x y => x.used < y.used) (hp : ss.Perm (l.map (·.blk))) : ss.mergeSort (leU (usedOf l)) = l.map (·.blk) := by
 have h1 : (ss.mergeSort (leU (usedOf l))).Perm (l.map (·.blk)) := (List.mergeSort_perm ss _).trans hp
 have htot : ∀ a b : Int, (leU (usedOf l) a b || leU (usedOf l) b a) = true := fun a b => by simp [leU]; omega
 have htr : ∀ a b c : Int, leU (usedOf l) a b = true → leU (usedOf l) b c = true → leU (usedOf l) a c = true := fun a b c h1 h2 => by simp [leU] at *; omega
 have h2 := List.pairwise_mergeSort htr htot ss
 have h3 : (l.map (·.blk)).Pairwise fun a b => leU (usedOf l) a b = true := by
  rw [List.pairwise_map]
  refine hs.imp_of_mem fun {a b} ha hb hab => ?_
  simp only [leU]
  rw [usedOf_eq hn ha, usedOf_eq hn hb]
  exact decide_eq_true (by omega)
 refine h1.eq_of_pairwise (le := fun a b => leU (usedOf l) a b = true) (fun a b ha hb h4 h5 => ?_) h2 h3
 have ha' := h1.mem_iff.1 ha
 obtain ⟨x, hx, rfl⟩ := List.mem_map.1 ha'
 obtain ⟨y, hy, rfl⟩ := List.mem_map.1 hb
 simp [leU] at h4 h5
 rw [usedOf_eq hn hx, usedOf_eq hn hy] at h4 h5
 exact used_ne hs x hx y hy (by omega)
theorem MapOf.get_none {m : List (Int × Value)} {l : List BufM} {bp : Int → Nat} (h : MapOf m l bp) {b : Int} (hf : (l.find? fun x => x.blk == b) = none) : mget b m = none := mget_none (fun hm => by
 have := h.keys.mem_iff.1 hm
 obtain ⟨x, hx, e⟩ := List.mem_map.1 this
 have := List.find?_eq_none.1 hf x hx
 simp [e] at this)
theorem find_mem {l : List BufM} {b : Int} {x : BufM} (hf : (l.find? fun x => x.blk == b) = some x) : x ∈ l ∧ x.blk = b := ⟨List.mem_of_find?_eq_some hf, by simpa using List.find?_some hf⟩
theorem MapOf.get_some {m : List (Int × Value)} {l : List BufM} {bp : Int → Nat} (h : MapOf m l bp) {b : Int} {x : BufM} (hf : (l.find? fun x => x.blk == b) = some x) : mget b m = some (.pointer (some ⟨bp b, 0, none⟩)) := by
 obtain ⟨h1, rfl⟩ := find_mem hf; exact h.at_ x h1
theorem rmB_mem {l : List BufM} {b : Int} {x : BufM} : x ∈ rmB l b ↔ x ∈ l ∧ x.blk ≠ b := by unfold rmB; simp
theorem rmB_sub (l : List BufM) (b : Int) : (rmB l b).Sublist l := List.filter_sublist
theorem rmB_keys {l : List BufM} (hn : (l.map (·.blk)).Nodup) (b : Int) : (rmB l b).map (·.blk) = (l.map (·.blk)).erase b := by
 rw [hn.erase_eq_filter, List.filter_map]
 unfold rmB
 congr 1
theorem MapOf.del {m : List (Int × Value)} {l : List BufM} {bp : Int → Nat} (h : MapOf m l bp) (hm : (m.map (·.1)).Nodup) (b : Int) : MapOf (mdel b m) (rmB l b) bp :=
 ⟨by rw [keys_mdel, rmB_keys h.nd]; exact h.keys.erase b, fun x hx => by rw [mget_mdel hm, if_neg (rmB_mem.1 hx).2]; exact h.at_ x (rmB_mem.1 hx).1,
  fun x hx y hy => h.inj x (rmB_mem.1 hx).1 y (rmB_mem.1 hy).1, h.nd.sublist ((rmB_sub l b).map _), fun x hx => h.rng x (rmB_mem.1 hx).1⟩
theorem MapOf.add {m : List (Int × Value)} {l : List BufM} {bp : Int → Nat} (h : MapOf m l bp) (x : BufM) (p : Nat) (hx : x.blk ∉ l.map (·.blk)) (hr : 0 ≤ x.blk ∧ x.blk < 2048) (hp : ∀ y ∈ l, bp y.blk ≠ p) :
  MapOf (mset x.blk (.pointer (some ⟨p, 0, none⟩)) m) (l ++ [x]) (fun k => if k = x.blk then p else bp k) := by
 have hk : x.blk ∉ m.map (·.1) := fun e => hx (h.keys.mem_iff.1 e)
 have hne : ∀ y ∈ l, y.blk ≠ x.blk := fun y hy e => hx (e ▸ List.mem_map.2 ⟨y, hy, rfl⟩)
 refine ⟨?_, fun y hy => ?_, fun y hy z hz e => ?_, ?_, fun y hy => ?_⟩
 ·rw [mset_new hk]; simpa using h.keys.append_right [x.blk]
 ·rw [mget_mset]
  rcases List.mem_append.1 hy with hy | hy
  ·rw [if_neg (hne y hy)]; simp only [if_neg (hne y hy)]; exact h.at_ y hy
  ·simp at hy; subst hy; simp
 ·rcases List.mem_append.1 hy with hy1 | hy1 <;> rcases List.mem_append.1 hz with hz1 | hz1
  ·simp only [if_neg (hne y hy1), if_neg (hne z hz1)] at e; exact h.inj y hy1 z hz1 e
  ·rw [List.mem_singleton] at hz1; rw [hz1] at e
   simp only [if_neg (hne y hy1), if_true] at e
   exact absurd e (hp y hy1)
  ·rw [List.mem_singleton] at hy1; rw [hy1] at e
   simp only [if_neg (hne z hz1), if_true] at e
   exact absurd e.symm (hp z hz1)
  ·rw [List.mem_singleton] at hy1 hz1; rw [hy1, hz1]
 ·rw [List.map_append, List.nodup_append]
  refine ⟨h.nd, by simp, fun a ha b hb e => ?_⟩
  simp at hb; subst hb; subst e; exact hx ha
 ·rcases List.mem_append.1 hy with hy | hy
  ·exact h.rng y hy
  ·simp at hy; subst hy; exact hr
theorem MapOf.again {m : List (Int × Value)} {l l' : List BufM} {bp : Int → Nat} (h : MapOf m l bp) (hp : (l'.map (·.blk)).Perm (l.map (·.blk))) : MapOf m l' bp := by
 have hmem : ∀ x ∈ l', ∃ y ∈ l, y.blk = x.blk := fun x hx => by
  obtain ⟨y, hy, e⟩ := List.mem_map.1 (hp.mem_iff.1 (List.mem_map.2 ⟨x, hx, rfl⟩)); exact ⟨y, hy, e⟩
 refine ⟨h.keys.trans hp.symm, fun x hx => ?_, fun x hx y hy e => ?_, hp.nodup_iff.2 h.nd, fun x hx => ?_⟩
 ·obtain ⟨y, hy, e⟩ := hmem x hx; rw [← e]; exact h.at_ y hy
 ·obtain ⟨x', hx', ex⟩ := hmem x hx
  obtain ⟨y', hy', ey⟩ := hmem y hy
  rw [← ex, ← ey] at e ⊢; exact h.inj x' hx' y' hy' e
 ·obtain ⟨y, hy, e⟩ := hmem x hx; rw [← e]; exact h.rng y hy
end Go.Proofs.YtklppdodadkcnaaGreat.E
