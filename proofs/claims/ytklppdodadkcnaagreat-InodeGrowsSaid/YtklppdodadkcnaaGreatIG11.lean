/- My own texts, joined. -/
import Derived.KernelRfl
import Derived.Maps.Own
import Derived.Shelf.SlIterI.Nil
import Derived.Shelf.SlLaysF
import Derived.Test.YtklppdodadkcnaaGreatProg
import Derived.WalkKit
import Derived.Test.YtklppdodadkcnaaGreatIG10
namespace Go.Proofs.YtklppdodadkcnaaGreat.E
open Go Go.Proofs
set_option linter.unusedVariables false
set_option maxRecDepth 100000
def F155 (K L M N O P Q S T U b c d e f g h i j k l m n o p q r s t u v w x y z A B C D E F : Value) (R : zE) (H : Heap) : Prop :=
 al H (.cells #[K, L, M, N, O, P, Q, S, T, U, b, c, d, e, f, g, h, i, j, k, l, m, n, o, p, q, r, s, t, u, v, w, x, y, z, A, B, C, D, E, F] 118) fun a G => jn (α := VFH 1) (fun v3 V => ∀ _ _ _ _ _ _ _ : Value, dBl v3 fun W => sB W (R (.returned (.tuple #[.slice none 0 0, .int .i64 1])) V) (al V (.cells #[.int .u8 104, .int .u8 100] 5) fun X Y => semW Tryz.prog (convert 85 85 (.slice (some ⟨X, 0, none⟩) 2 2)) (pnR R) Y fun Z I => dSl Z fun aa ab ac => ld I ⟨a, 0, none⟩ fun ad => dInt .i64 ad fun ae => wr .u8 ae fun af => al I (.cells #[.int .u8 af, .int .u8 0] 5) fun ag ah => semW Tryz.prog (Builtin.append_ #[85, 85] 85 #[.slice aa ab ac, .slice (some ⟨ag, 0, none⟩) 2 2]) (pnR R) ah fun ai aj => dSl ai fun ak am an => ask (0 ≤ (0 : Int) ∧ 0 ≤ (8 : Int) ∧ (8 : Int) ≤ (8 : Int) ∧ (8 : Int) ≤ (8 : Int)) (semW Tryz.prog (Builtin.append_ #[85, 85] 85 #[.slice ak am an, .slice (slO (some ⟨a, 1, none⟩) 1 0 8) (Int.toNat 8 - Int.toNat 0) (Int.toNat 8 - Int.toNat 0)]) (pnR R) aj fun ao ap => dSl ao fun aq ar au => ask (0 ≤ (0 : Int) ∧ 0 ≤ (32 : Int) ∧ (32 : Int) ≤ (32 : Int) ∧ (32 : Int) ≤ (32 : Int)) (semW Tryz.prog (Builtin.append_ #[85, 85] 85 #[.slice aq ar au, .slice (slO (some ⟨a, 9, none⟩) 1 0 32) (Int.toNat 32 - Int.toNat 0) (Int.toNat 32 - Int.toNat 0)]) (pnR R) ap fun av aw => dSl av fun ax ay az => HCalls Tryz.prog 72 #[.slice ax ay az, .int .i64 128] aw (Sp.retK (fun aA aB => dSl aA fun aC aD aE => R (.returned (.tuple #[.slice aC aD aE, .int .i64 0])) aB) (pnR R)))))) fun
 J => ld G ⟨a, 0, none⟩ fun aF => dInt .i64 aF fun aG => sB (decide (aG < 0)) (J (.bool true) G) (ld G ⟨a, 0, none⟩ fun aH => dInt .i64 aH fun aI => J (.bool (decide (aI ≥ 8))) G)
theorem F155_calls {R : zE} {H : Heap} (G I J K L M N O P Q a b c d e f g i j k l m n o p q r s t u v w x y z A B C D E F : Value) (h : F155 G I J K L M N O P Q a b c d e f g i j k l m n o p q r s t u v w x y z A B C D E F R H) : HCalls Tryz.prog 155 #[.agg #[G, I, J, K, L, M, N, O, P, Q, a, b, c, d, e, f, g, i, j, k, l, m, n, o, p, q, r, s, t, u, v, w, x, y, z, A, B, C, D, E, F]] H R :=
 calls_by (.node none .leaf (.node none (.node (some ⟨[(12, 4)], [5, 6, 7, 8, 9, 10, 11]⟩) .leaf .leaf) .leaf)) Tryz.func155 rfl (by kernel_rfl) h
def F158 (c d e : Value) (R : zE) (H : Heap) : Prop :=
 al H (.cells #[c, d, e] 23) fun b a => ld a ⟨b, 0, none⟩ fun t => dInt .i64 t fun u => sB (decide (u ≥ 1)) (ld a ⟨b, 0, none⟩ fun v => dInt .i64 v fun w => sB (decide (w ≤ 8)) (ld a ⟨b, 1, none⟩ fun x => dInt .i64 x fun y => sB (decide (y ≥ 8)) (ld a ⟨b, 1, none⟩ fun z => dInt .i64 z fun f => sB (decide (f ≤ 256)) (ld a ⟨b, 2, none⟩ fun g => dInt .i64 g fun h => sB (decide (h ≥ 4)) (ld a ⟨b, 2, none⟩ fun i => dInt .i64 i fun j => sB (decide (j ≤ 64)) (ld a ⟨b, 2, none⟩ fun k => dInt .i64 k fun l => ask ((4 : Int) ≠ (0 : Int)) (nm (Int.tmod l 4) fun m => sB (m == 0) (ld a ⟨b, 1, none⟩ fun n => dInt .i64 n fun o => ld a ⟨b, 2, none⟩ fun p => dInt .i64 p fun q => ask ((4 : Int) ≠ (0 : Int)) (wr .i64 (Int.tdiv q 4) fun r => wr .i64 (3 + r) fun s => R (.returned (.bool (decide (o ≥ s)))) a)) (R (.returned (.bool false)) a))) (R (.returned (.bool false)) a)) (R (.returned (.bool false)) a)) (R (.returned (.bool false)) a)) (R (.returned (.bool false)) a)) (R (.returned (.bool false)) a)) (R (.returned (.bool false)) a)
theorem F158_calls {R : zE} {H : Heap} (a b c : Value) (h : F158 a b c R H) : HCalls Tryz.prog 158 #[.agg #[a, b, c]] H R :=
 calls_by .leaf Tryz.func158 rfl (by kernel_rfl) h
def F159 (d : Option Addr) (b l : Nat) (a : Int) (R : zE) (H : Heap) : Prop :=
 sB (decide (a ≥ 0)) (ask ((8 : Int) ≠ (0 : Int)) (wr .i64 (Int.tdiv a 8) fun f => sB (decide (f < (↑b : Int))) (ask ((8 : Int) ≠ (0 : Int)) (wr .i64 (Int.tdiv a 8) fun c => nz d fun g => ask (0 ≤ c ∧ c < (↑b : Int)) (ld H (Addr.add g (Int.toNat c * 1)) fun h => dInt .u8 h fun i => ask ((8 : Int) ≠ (0 : Int)) (nm (Int.tmod a 8) fun e => ask (0 ≤ e) (nm (Int.fdiv i (2 ^ min (Int.toNat e) 8)) fun j => ask ((2 : Int) ≠ (0 : Int)) (nm (Int.tmod j 2) fun k => R (.returned (.bool (k == 1))) H)))))) (R (.returned (.bool false)) H))) (R (.returned (.bool false)) H)
theorem F159_calls {R : zE} {H : Heap} (a : Option Addr) (b c : Nat) (d : Int) (h : F159 a b c d R H) : HCalls Tryz.prog 159 #[.slice a b c, .int .i64 d] H R :=
 calls_by .leaf Tryz.func159 rfl (by kernel_rfl) h
def F160 (b : ByteArray) (R : zE) (H : Heap) : Prop :=
 jn (α := VFH 1) (fun n j => ∀ _ _ _ _ _ _ _ _ _ _ _ _ _ _ : Value, dBl n fun k => sB k (R (.returned (.bool false)) j) (∃ e : List Value → Heap → Prop, ∃ h : List Value → Heap → Nat, (e ([.int .i64 0]) j) ∧ ∀ a : Int, ∀ _ _ _ _ _ _ _ _ _ _ _ _ _ _ _ _ _ _ _ _ _ _ _ : Value, ∀ c : Heap, (e ([.int .i64 a]) c) → sB (decide (a < (↑(ByteArray.size b) : Int))) (jn (α := VFH 1) (fun l f => ∀ _ _ _ _ _ _ _ _ _ _ _ _ _ _ _ : Value, dBl l fun m => sB m (R (.returned (.bool false)) f) (wr .i64 (a + 1) fun i => (e ([.int .i64 i]) f) ∧ (h [.int .i64 i] f) < (h [.int .i64 a] c))) fun g => ask (0 ≤ a ∧ a < (↑(ByteArray.size b) : Int)) (sB (decide (byteAt b (Int.toNat a) < 33)) (g (.bool true) c) (ask (0 ≤ a ∧ a < (↑(ByteArray.size b) : Int)) (sB (decide (byteAt b (Int.toNat a) > 126)) (g (.bool true) c) (ask (0 ≤ a ∧ a < (↑(ByteArray.size b) : Int)) (g (.bool (byteAt b (Int.toNat a) == 47)) c)))))) (R (.returned (.bool true)) c))) fun d => sB (ByteArray.toList b == []) (d (.bool true) H) (sB (decide ((↑(ByteArray.size b) : Int) > 13)) (d (.bool true) H) (sB (ByteArray.toList b == [UInt8.ofBitVec 46#8]) (d (.bool true) H) (d (.bool (ByteArray.toList b == [UInt8.ofBitVec 46#8, UInt8.ofBitVec 46#8])) H)))
theorem F160_calls {R : zE} {H : Heap} (a : ByteArray) (h : F160 a R H) : HCalls Tryz.prog 160 #[.string a] H R :=
 calls_by (.node none .leaf (.node none (.node (some ⟨[(18, 4)], [4, 5, 6, 7, 8, 9, 10, 11, 12, 13, 14, 15, 16, 17]⟩) .leaf .leaf) (.node none (.node none .leaf (.node none (.node (some ⟨[(3, 3)], [2, 19, 20, 21, 22, 23, 24, 25, 26, 27, 28, 29, 30, 31, 32, 33, 34, 35, 36, 37, 38, 39, 40]⟩) (.node none .leaf (.node none (.node none (.node (some ⟨[(40, 4)], [25, 26, 27, 28, 29, 30, 31, 32, 33, 34, 35, 36, 37, 38, 39]⟩) .leaf .leaf) .leaf) .leaf)) .leaf) .leaf)) .leaf))) Tryz.func160 rfl (by kernel_rfl) h
def F161 (h : Option Addr) (d s e : Nat) (i j : Array Value) (R : zE) (H : Heap) : Prop :=
 ∃ g : List Value → Heap → Prop, ∃ k : List Value → Heap → Nat, (g ([.int .i64 0]) H) ∧ ∀ a : Int, ∀ _ _ _ _ _ _ _ _ _ _ _ _ : Value, ∀ b : Heap, (g ([.int .i64 a]) b) → sB (decide (a < (↑d : Int))) (nz h fun l => ask (0 ≤ a ∧ a < (↑d : Int)) (ld b (Addr.add l (Int.toNat a * 1)) fun m => dSl m fun n o p => gB (plainFn Tryz.prog e) (HCalls Tryz.prog e (argsOf i [.slice n o p] j) b (Sp.retK (fun q c => dBl q fun r => sB r (R (.returned (.int .i64 a)) c) (wr .i64 (a + 1) fun f => (g ([.int .i64 f]) c) ∧ (k [.int .i64 f] c) < (k [.int .i64 a] b))) (pnR R))))) (R (.returned (.int .i64 (-1))) b)
theorem F161_calls {R : zE} {H : Heap} (a : Option Addr) (b c d : Nat) (e f : Array Value) (h : F161 a b c d e f R H) : HCalls Tryz.prog 161 #[.slice a b c, .func (Fn.func d) e f] H R :=
 calls_by (.node none .leaf (.node none (.node none .leaf (.node none (.node (some ⟨[(8, 3)], [4, 5, 9, 10, 11, 12, 13, 14, 15, 16, 17, 18]⟩) .leaf .leaf) .leaf)) .leaf)) Tryz.func161 rfl (by kernel_rfl) h
def F168 (a : Option Addr) (i : Int) (R : zE) (H : Heap) : Prop :=
 HCalls Tryz.prog 189 #[.pointer a, .int .i64 i] H (Sp.retK (fun S j => dInt .i64 S fun k => sB (k != 0) (R (.returned (.tuple #[.pointer none, .int .i64 k])) j) (nz a fun T => ld j (Addr.add T 2) fun U => dMap U fun V => semW Tryz.prog (Instr.lookup 232 (.map V) (.int .i64 i) true) (pnR R) j fun W b => dT 2 W fun l m => dPtr l fun n => dBl m fun o => jn (α := VFH 1) (fun p c => ∀ _ _ _ _ _ _ _ _ _ _ _ _ _ _ _ _ _ _ _ _ _ _ _ _ _ _ _ _ _ : Value, dPtr p fun d => nz a fun q => ld c (Addr.add q 3) fun r => dInt .i64 r fun s => wr .i64 (s + 1) fun t => nz a fun u => st c (Addr.add u 3) (.int .i64 t) fun e => nz a fun v => ld e (Addr.add v 3) fun w => dInt .i64 w fun x => nz d fun y => st e (Addr.add y 2) (.int .i64 x) fun z => R (.returned (.tuple #[.pointer d, .int .i64 0])) z) fun f => sB o (nz a fun A => ld b (Addr.add A 4) fun B => dInt .i64 B fun C => wr .i64 (C + 1) fun D => nz a fun E => st b (Addr.add E 4) (.int .i64 D) fun F => f (.pointer n) F) (nz a fun G => ld b (Addr.add G 5) fun I => dInt .i64 I fun J => wr .i64 (J + 1) fun K => nz a fun L => st b (Addr.add L 5) (.int .i64 K) fun M => HCalls Tryz.prog 190 #[.pointer a, .int .i64 i] M (Sp.retK (fun N g => dT 2 N fun O P => dPtr O fun Q => dInt .i64 P fun h => sB (h != 0) (R (.returned (.tuple #[.pointer none, .int .i64 h])) g) (f (.pointer Q) g)) (pnR R))))) (pnR R))
theorem F168_calls {R : zE} {H : Heap} (a : Option Addr) (b : Int) (h : F168 a b R H) : HCalls Tryz.prog 168 #[.pointer a, .int .i64 b] H R :=
 calls_by (.node none .leaf (.node none .leaf (.node none .leaf (.node (some ⟨[(7, 244)], [4, 5, 9, 10, 26, 27, 28, 29, 30, 31, 32, 33, 34, 35, 36, 37, 38, 39, 40, 41, 42, 43, 44, 45, 46, 47, 48, 49, 50]⟩) .leaf .leaf)))) Tryz.func168 rfl (by kernel_rfl) h
def F169 (Q l : Option Addr) (m n : Nat) (o : Option Addr) (h U : Nat) (R : zE) (H : Heap) : Prop :=
 HCalls Tryz.prog 139 #[.slice l m n] H (Sp.retK (fun S T => dSl S fun p g e => ∃ k : List Value → Heap → Prop, ∃ q : List Value → Heap → Nat, (k ([.int .i64 0]) T) ∧ ∀ d : Int, ∀ _ _ _ _ _ _ _ _ _ _ _ _ _ _ _ _ _ _ _ : Value, ∀ b : Heap, (k ([.int .i64 d]) b) → sB (decide (d < (↑h : Int))) (nz o fun r => ask (0 ≤ d ∧ d < (↑h : Int)) (ld b (Addr.add r (Int.toNat d * 1)) fun s => dInt .i64 s fun t => nz Q fun u => ld b (Addr.add u 2) fun v => dMap v fun w => semW Tryz.prog (Instr.lookup 216 (.map w) (.int .i64 t) false) (pnR R) b fun x y => dA 5 x fun z A B C D => al y (.cells #[.int .i64 0, .int .i64 0, .int .i64 0, .slice none 0 0, .slice none 0 0] 220) fun a E => zs3 E a z A B fun I => st I ⟨a, 3, none⟩ C fun J => st J ⟨a, 4, none⟩ D fun f => ld f ⟨a, 2, none⟩ fun K => dInt .i64 K fun c => ask (0 ≤ c ∧ c ≤ (↑g : Int) ∧ (↑g : Int) ≤ (↑e : Int) ∧ (↑e : Int) ≤ (↑e : Int)) (ld f ⟨a, 3, none⟩ fun L => dSl L fun M N O => semW Tryz.prog (Builtin.copy_ #[85, 85] 3 #[.slice (slO p 1 c (↑e : Int)) (Int.toNat (↑g : Int) - Int.toNat c) (Int.toNat (↑e : Int) - Int.toNat c), .slice M N O]) nopR f fun P i => dInt .i64 P fun V => wr .i64 (d + 1) fun j => (k ([.int .i64 j]) i) ∧ (q [.int .i64 j] i) < (q [.int .i64 d] b)))) (R (.returned (.slice p g e)) b)) (pnR R))
theorem F169_calls {R : zE} {H : Heap} (g a : Option Addr) (b c : Nat) (d : Option Addr) (e f : Nat) (h : F169 g a b c d e f R H) : HCalls Tryz.prog 169 #[.pointer g, .slice a b c, .slice d e f] H R :=
 calls_by (.node none .leaf (.node none .leaf (.node none (.node none .leaf (.node none (.node (some ⟨[(15, 3)], [9, 10, 16, 17, 18, 19, 20, 21, 22, 23, 24, 25, 26, 27, 28, 29, 30, 31, 32]⟩) .leaf .leaf) .leaf)) .leaf))) Tryz.func169 rfl (by kernel_rfl) h
def F170 (p : Option Addr) (q : Int) (R : zE) (H : Heap) : Prop :=
 al H (.cells #[.pointer p] 70) fun a r => al r (.cells #[.int .i64 q] 3) fun s c => ld c ⟨a, 0, none⟩ fun t => dPtr t fun u => HCalls Tryz.prog 134 #[.pointer u] c (Sp.retK (fun v b => dBl v fun w => sB (!w) (R (.returned (.slice none 0 0)) b) (ld b ⟨a, 0, none⟩ fun d => dPtr d fun e => HCalls Tryz.prog 192 #[.pointer e] b (Sp.retK (fun f g => dSl f fun h i j => HCalls Tryz.prog 191 #[.slice h i j, .func (Fn.func 193) #[] #[.pointer (some ⟨a, 0, none⟩), .pointer (some ⟨s, 0, none⟩)]] g (Sp.retK (fun k l => dSl k fun m n o => R (.returned (.slice m n o)) l) (pnR R))) (pnR R)))) (pnR R))
theorem F170_calls {R : zE} {H : Heap} (a : Option Addr) (b : Int) (h : F170 a b R H) : HCalls Tryz.prog 170 #[.pointer a, .int .i64 b] H R :=
 calls_by .leaf Tryz.func170 rfl (by kernel_rfl) h
def F171 (m : Option Addr) (b n : Nat) (e f : Int) (R : zE) (H : Heap) : Prop :=
 jn (α := VFH 1) (fun l g => ∀ _ _ _ _ _ _ _ _ _ _ : Value, dBl l fun h => sB h (R (.returned (.int .i64 1)) g) (jn (α := VFH 1) (fun i c => ∀ _ _ _ _ _ _ _ _ _ _ _ _ : Value, dBl i fun j => sB j (R (.returned (.int .i64 10)) c) (R (.returned (.int .i64 0)) c)) fun d => sB (decide (e > (↑b : Int))) (d (.bool true) g) (wr .i64 ((↑b : Int) - e) fun k => d (.bool (decide (f > k))) g))) fun a => sB (decide (f < 1)) (a (.bool true) H) (sB (decide (f > 4)) (a (.bool true) H) (a (.bool (decide (e < 0))) H))
theorem F171_calls {R : zE} {H : Heap} (a : Option Addr) (b c : Nat) (d e : Int) (h : F171 a b c d e R H) : HCalls Tryz.prog 171 #[.slice a b c, .int .i64 d, .int .i64 e] H R :=
 calls_by (.node none .leaf (.node none (.node none (.node (some ⟨[(7, 4)], [8, 9, 10, 11, 12, 13, 14, 15, 16, 17]⟩) .leaf (.node none .leaf (.node (some ⟨[(18, 4)], [19, 20, 21, 22, 23, 24, 25, 26, 27, 28, 29, 30]⟩) .leaf .leaf))) .leaf) .leaf)) Tryz.func171 rfl (by kernel_rfl) h
def F173 (h : Option Addr) (d q e : Nat) (i j : Array Value) (R : zE) (H : Heap) : Prop :=
 ∃ g : List Value → Heap → Prop, ∃ k : List Value → Heap → Nat, (g ([.int .i64 0]) H) ∧ ∀ a : Int, ∀ _ _ _ _ _ _ _ _ _ _ _ _ : Value, ∀ b : Heap, (g ([.int .i64 a]) b) → sB (decide (a < (↑d : Int))) (nz h fun l => ask (0 ≤ a ∧ a < (↑d : Int)) (ld b (Addr.add l (Int.toNat a * 1)) fun m => dInt .i64 m fun n => gB (plainFn Tryz.prog e) (HCalls Tryz.prog e (argsOf i [.int .i64 n] j) b (Sp.retK (fun o c => dBl o fun p => sB p (R (.returned (.int .i64 a)) c) (wr .i64 (a + 1) fun f => (g ([.int .i64 f]) c) ∧ (k [.int .i64 f] c) < (k [.int .i64 a] b))) (pnR R))))) (R (.returned (.int .i64 (-1))) b)
theorem F173_calls {R : zE} {H : Heap} (a : Option Addr) (b c d : Nat) (e f : Array Value) (h : F173 a b c d e f R H) : HCalls Tryz.prog 173 #[.slice a b c, .func (Fn.func d) e f] H R :=
 calls_by (.node none .leaf (.node none (.node none .leaf (.node none (.node (some ⟨[(8, 3)], [4, 5, 9, 10, 11, 12, 13, 14, 15, 16, 17, 18]⟩) .leaf .leaf) .leaf)) .leaf)) Tryz.func173 rfl (by kernel_rfl) h
def F175 (f : Option Addr) (b a : Nat) (R : zE) (H : Heap) : Prop :=
 sB (decide ((↑b : Int) < 2)) (R (.returned (.slice f b a)) H) (∃ r : List Value → Heap → Prop, ∃ F : List Value → Heap → Nat, (r ([.int .i64 1]) H) ∧ ∀ d : Int, ∀ _ _ _ _ _ _ _ _ _ _ _ _ _ _ _ _ _ _ _ _ _ _ _ _ _ _ _ _ _ _ _ _ _ _ _ _ _ _ _ _ _ _ _ _ _ _ _ _ _ _ _ _ _ : Value, ∀ g : Heap, (r ([.int .i64 d]) g) → sB (decide (d < (↑b : Int))) (nz f fun G => ask (0 ≤ d ∧ d < (↑b : Int)) (ld g (Addr.add G (Int.toNat d * 1)) fun I => dInt .i64 I fun J => wr .i64 (d - 1) fun j => nz f fun K => ask (0 ≤ j ∧ j < (↑b : Int)) (ld g (Addr.add K (Int.toNat j * 1)) fun L => dInt .i64 L fun M => sB (J == M) (ask (0 ≤ d ∧ d ≤ (↑b : Int) ∧ (↑b : Int) ≤ (↑a : Int) ∧ (↑a : Int) ≤ (↑a : Int)) (∃ k : List Value → Heap → Prop, ∃ p : List Value → Heap → Nat, (k ([.int .i64 d, .int .i64 1]) g) ∧ ∀ c : Int, ∀ e : Int, ∀ _ _ _ _ _ _ _ _ _ _ _ _ _ _ _ _ _ _ _ _ _ _ _ _ _ : Value, ∀ h : Heap, (k ([.int .i64 c, .int .i64 e]) h) → sB (decide (e < (↑(Int.toNat (↑b : Int) - Int.toNat d) : Int))) (jn (α := VFH 1) (fun N q => ∀ _ _ _ _ _ _ _ _ _ _ _ _ _ _ _ _ _ _ _ : Value, dInt .i64 N fun l => wr .i64 (e + 1) fun m => (k ([.int .i64 l, .int .i64 m]) q) ∧ (p [.int .i64 l, .int .i64 m] q) < (p [.int .i64 c, .int .i64 e] h)) fun n => nz (slO f 1 d (↑a : Int)) fun s => ask (0 ≤ e ∧ e < (↑(Int.toNat (↑b : Int) - Int.toNat d) : Int)) (ld h (Addr.add s (Int.toNat e * 1)) fun t => dInt .i64 t fun u => wr .i64 (e - 1) fun i => nz (slO f 1 d (↑a : Int)) fun v => ask (0 ≤ i ∧ i < (↑(Int.toNat (↑b : Int) - Int.toNat
 d) : Int)) (ld h (Addr.add v (Int.toNat i * 1)) fun w => dInt .i64 w fun x => sB (u != x) (nz (slO f 1 d (↑a : Int)) fun y => ask (0 ≤ e ∧ e < (↑(Int.toNat (↑b : Int) - Int.toNat d) : Int)) (ld h (Addr.add y (Int.toNat e * 1)) fun z => dInt .i64 z fun A => nz f fun B => ask (0 ≤ c ∧ c < (↑b : Int)) (st h (Addr.add B (Int.toNat c * 1)) (.int .i64 A) fun C => wr .i64 (c + 1) fun D => n (.int .i64 D) C))) (n (.int .i64 c) h)))) (ask (0 ≤ c ∧ c ≤ (↑b : Int) ∧ (↑b : Int) ≤ (↑a : Int) ∧ (↑a : Int) ≤ (↑a : Int)) (semW Tryz.prog (Builtin.clear_ #[45] 0 #[.slice (slO f 1 c (↑a : Int)) (Int.toNat (↑b : Int) - Int.toNat c) (Int.toNat (↑a : Int) - Int.toNat c)]) (pnR R) h fun O E => ask (0 ≤ (0 : Int) ∧ 0 ≤ c ∧ c ≤ (↑a : Int) ∧ (↑a : Int) ≤ (↑a : Int)) (R (.returned (.slice (slO f 1 0 (↑a : Int)) (Int.toNat c - Int.toNat 0) (Int.toNat (↑a : Int) - Int.toNat 0))) E))))) (wr .i64 (d + 1) fun o => (r ([.int .i64 o]) g) ∧ (F [.int .i64 o] g) < (F [.int .i64 d] g))))) (R (.returned (.slice f b a)) g))
theorem F175_calls {R : zE} {H : Heap} (a : Option Addr) (b c : Nat) (h : F175 a b c R H) : HCalls Tryz.prog 175 #[.slice a b c] H R :=
 calls_by (.node none .leaf (.node none .leaf (.node none (.node none .leaf (.node none (.node (some ⟨[(3, 3)], [2, 4, 5, 10, 11, 12, 13, 14, 15, 16, 17, 18, 19, 20, 21, 22, 23, 24, 25, 26, 27, 28, 29, 30, 31, 32, 33, 34, 35, 36, 37, 38, 39, 40, 41, 42, 43, 44, 45, 46, 47, 48, 49, 50, 51, 52, 53, 54, 55, 56, 57, 58, 59]⟩) (.node none .leaf (.node none (.node none (.node none .leaf (.node none (.node none .leaf (.node none (.node none .leaf (.node none (.node (some ⟨[(3, 3), (5, 3)], [29, 30, 31, 32, 33, 34, 35, 36, 37, 38, 39, 40, 41, 42, 43, 44, 45, 46, 47, 48, 49, 50, 51, 52, 53]⟩) (.node none .leaf (.node (some ⟨[(3, 3)], [35, 36, 37, 38, 39, 40, 41, 42, 43, 44, 45, 46, 47, 48, 49, 50, 51, 52, 53]⟩) .leaf .leaf)) .leaf) .leaf)) .leaf)) .leaf)) .leaf) .leaf)) .leaf) .leaf)) .leaf))) Tryz.func175 rfl (by kernel_rfl) h
end Go.Proofs.YtklppdodadkcnaaGreat.E
namespace Go.Proofs.YtklppdodadkcnaaGreat.E
open Go Go.Proofs
set_option linter.unusedVariables false
set_option maxRecDepth 100000
def F182 (d : Option Addr) (e f : Nat) (b g : Int) (R : zE) (H : Heap) : Prop :=
 HCalls Tryz.prog 106 #[.slice d e f, .int .i64 g, .int .i64 b] H (Sp.retK (fun h c => dT 2 h fun i j => dInt .i64 i fun a => dBl j fun k => sB k (sB (decide (a ≥ b)) (R (.returned (.tuple #[.int .i64 a, .bool (decide (b < g))])) c) (R (.returned (.tuple #[.int .i64 a, .bool false])) c)) (R (.returned (.tuple #[.int .i64 a, .bool false])) c)) (pnR R))
theorem F182_calls {R : zE} {H : Heap} (a : Option Addr) (b c : Nat) (d e : Int) (h : F182 a b c d e R H) : HCalls Tryz.prog 182 #[.slice a b c, .int .i64 d, .int .i64 e] H R :=
 calls_by .leaf Tryz.func182 rfl (by kernel_rfl) h
def F189 (e : Option Addr) (f : Int) (R : zE) (H : Heap) : Prop :=
 jn (α := VFH 1) (fun s a => ∀ _ _ _ _ _ _ _ _ : Value, dBl s fun g => sB g (R (.returned (.int .i64 2)) a) (jn (α := VFH 1) (fun h b => ∀ _ _ _ _ _ _ _ _ _ _ : Value, dBl h fun i => sB i (R (.returned (.int .i64 1)) b) (R (.returned (.int .i64 0)) b)) fun c => sB (decide (f < 0)) (c (.bool true) a) (nz e fun j => ld a j fun k => dPtr k fun l => HCalls Tryz.prog 89 #[.pointer l] a (Sp.retK (fun m n => dInt .i64 m fun o => c (.bool (decide (f ≥ o))) n) (pnR R))))) fun d => sB (Option.isNone e) (d (.bool true) H) (nz e fun p => ld H (Addr.add p 2) fun q => dMap q fun r => d (.bool (Option.isNone r)) H)
theorem F189_calls {R : zE} {H : Heap} (a : Option Addr) (b : Int) (h : F189 a b R H) : HCalls Tryz.prog 189 #[.pointer a, .int .i64 b] H R :=
 calls_by (.node none .leaf (.node none (.node (some ⟨[(13, 4)], [5, 6, 7, 8, 9, 10, 11, 12]⟩) .leaf .leaf) (.node none (.node (some ⟨[(24, 4)], [14, 15, 16, 17, 18, 19, 20, 21, 22, 23]⟩) .leaf .leaf) .leaf))) Tryz.func189 rfl (by kernel_rfl) h
def F190 (a : Option Addr) (l : Int) (R : zE) (H : Heap) : Prop :=
 nz a fun X => ld H (Addr.add X 2) fun Y => dMap Y fun Z => nz a fun n => ld H (Addr.add n 1) fun v5 => dInt .i64 v5 fun m => semW Tryz.prog (Builtin.len_ #[232] 3 #[.map Z]) nopR H fun v9 d => dInt .i64 v9 fun e => (ld d (Addr.add n 1) fun o => dInt .i64 o fun p => (Value.int IntKind.i64 p) = (Value.int IntKind.i64 m)) ∧ HCalls Tryz.prog 202 #[.pointer a] d (Sp.retK (fun q f => dT 2 q fun r s => dInt .i64 r fun t => dBl s fun u => jn (α := VFH 1) (fun v c => ∀ _ _ _ _ : Value, dBl v fun w => sB w (R (.returned (.tuple #[.pointer none, .int .i64 60])) c) (nz a fun x => ld c x fun y => dPtr y fun z => HCalls Tryz.prog 203 #[.pointer z, .int .i64 l] c (Sp.retK (fun A b => dT 2 A fun B C => dSl B fun D E F => dInt .i64 C fun g => sB (g != 0) (R (.returned (.tuple #[.pointer none, .int .i64 g])) b) (jn (α := VFH 0) (fun h => ∀ _ _ _ _ _ _ : Value, nz a fun G => ld h (Addr.add G 2) fun I => dMap I fun J => al h (.cells #[.slice D E F, .int .i64 0, .int .i64 0] 248) fun K L => semW Tryz.prog (Instr.mapUpdate 232 (.map J) (.int .i64 l) (.pointer (some ⟨K, 0, none⟩))) (pnR R) L fun aa i => nz a fun M => ld i (Addr.add M 2) fun N => dMap N fun O => semW Tryz.prog (Instr.lookup 232 (.map O) (.int .i64 l) false) (pnR R) i fun P Q => dPtr P fun S => R (.returned (.tuple #[.pointer S, .int .i64 0])) Q) fun j => sB (decide (e ≥ m)) (nz a fun T => ld b (Addr.add T 2) fun U => dMap U fun V => semW Tryz.prog (Builtin.delete_ #[232, 3] 0 #[.map V, .int .i64 t]) (pnR R) b fun ab W => j W) (j
 b))) (pnR R)))) fun k => sB (decide (e ≥ m)) (k (.bool !u) f) (k (.bool false) f)) (pnR R))
theorem F190_calls {R : zE} {H : Heap} (a : Option Addr) (b : Int) (h : F190 a b R H) : HCalls Tryz.prog 190 #[.pointer a, .int .i64 b] H R :=
 calls_by (.node none .leaf (.node none .leaf (.node none .leaf (.node none (.node (some ⟨[(30, 4)], [26, 27, 28, 29]⟩) .leaf .leaf) (.node none .leaf (.node none .leaf (.node (some ⟨[], [43, 44, 45, 46, 47, 48]⟩) .leaf .leaf))))))) Tryz.func190 rfl (by kernel_rfl) h
def F191 (d : Option Addr) (c a g : Nat) (h i : Array Value) (R : zE) (H : Heap) : Prop :=
 HCalls Tryz.prog 173 #[.slice d c a, .func (Fn.func g) h i] H (Sp.retK (fun C r => dInt .i64 C fun p => sB (p == -1) (R (.returned (.slice d c a)) r) (wr .i64 (p + 1) fun D => ∃ q : List Value → Heap → Prop, ∃ s : List Value → Heap → Nat, (q ([.int .i64 p, .int .i64 D]) r) ∧ ∀ b : Int, ∀ f : Int, ∀ _ _ _ _ _ _ _ _ _ _ _ _ _ _ _ _ _ _ _ _ _ : Value, ∀ e : Heap, (q ([.int .i64 b, .int .i64 f]) e) → sB (decide (f < (↑c : Int))) (jn (α := VFH 1) (fun t j => ∀ _ _ _ _ _ _ _ _ _ _ _ _ _ _ _ : Value, dInt .i64 t fun k => wr .i64 (f + 1) fun l => (q ([.int .i64 k, .int .i64 l]) j) ∧ (s [.int .i64 k, .int .i64 l] j) < (s [.int .i64 b, .int .i64 f] e)) fun m => nz d fun u => ask (0 ≤ f ∧ f < (↑c : Int)) (ld e (Addr.add u (Int.toNat f * 1)) fun v => dInt .i64 v fun n => gB (plainFn Tryz.prog g) (HCalls Tryz.prog g (argsOf h [.int .i64 n] i) e (Sp.retK (fun w o => dBl w fun x => sB (!x) (nz d fun y => ask (0 ≤ b ∧ b < (↑c : Int)) (st o (Addr.add y (Int.toNat b * 1)) (.int .i64 n) fun z => wr .i64 (b + 1) fun A => m (.int .i64 A) z)) (m (.int .i64 b) o)) (pnR R))))) (ask (0 ≤ b ∧ b ≤ (↑c : Int) ∧ (↑c : Int) ≤ (↑a : Int) ∧ (↑a : Int) ≤ (↑a : Int)) (semW Tryz.prog (Builtin.clear_ #[45] 0 #[.slice (slO d 1 b (↑a : Int)) (Int.toNat (↑c : Int) - Int.toNat b) (Int.toNat (↑a : Int) - Int.toNat b)]) (pnR R) e fun E B => ask (0 ≤ (0 : Int) ∧ 0 ≤ b ∧ b ≤ (↑a : Int) ∧ (↑a : Int) ≤ (↑a : Int)) (R (.returned (.slice (slO d 1 0 (↑a : Int)) (Int.toNat b - Int.toNat 0) (Int.toNat (↑a : Int) - Int.toNat
 0))) B))))) (pnR R))
theorem F191_calls {R : zE} {H : Heap} (a : Option Addr) (b c d : Nat) (e f : Array Value) (h : F191 a b c d e f R H) : HCalls Tryz.prog 191 #[.slice a b c, .func (Fn.func d) e f] H R :=
 calls_by (.node none .leaf (.node none .leaf (.node none .leaf (.node none (.node none .leaf (.node none (.node (some ⟨[(5, 3), (6, 3)], [7, 16, 17, 18, 19, 20, 21, 22, 23, 24, 25, 26, 27, 28, 29, 30, 31, 32, 33, 34, 35]⟩) (.node none .leaf (.node (some ⟨[(5, 3)], [7, 22, 23, 24, 25, 26, 27, 28, 29, 30, 31, 32, 33, 34, 35]⟩) .leaf .leaf)) .leaf) .leaf)) .leaf)))) Tryz.func191 rfl (by kernel_rfl) h
def F192 (b : Option Addr) (R : zE) (H : Heap) : Prop :=
 nz b fun c => ld H (Addr.add c 2) fun d => dMap d fun e => HCalls Tryz.prog 205 #[.map e] H (Sp.retK (fun f g => HCalls Tryz.prog 204 #[f] g (Sp.retK (fun h i => dSl h fun j k a => R (.returned (.slice j k a)) i) (pnR R))) (pnR R))
theorem F192_calls {R : zE} {H : Heap} (a : Option Addr) (h : F192 a R H) : HCalls Tryz.prog 192 #[.pointer a] H R :=
 calls_by .leaf Tryz.func192 rfl (by kernel_rfl) h
def F193 (h : Int) (f0 f1 : Addr) (R : zE) (H : Heap) : Prop :=
 ld H f0 fun i => dPtr i fun j => nz j fun k => ld H (Addr.add k 2) fun l => dMap l fun m => ld H f1 fun n => dInt .i64 n fun b => semW Tryz.prog (Instr.lookup 216 (.map m) (.int .i64 h) false) nopR H fun c a => dA 5 c fun o d p q r => (ld a f1 fun e => dInt .i64 e fun f => (Value.int IntKind.i64 f) = (Value.int IntKind.i64 b)) ∧ dInt .i64 d fun g => R (.returned (.bool (g != b))) a
theorem F193_calls {R : zE} {H : Heap} (a : Int) (f0 f1 : Addr) (h : F193 a f0 f1 R H) : HCalls Tryz.prog 193 #[.int .i64 a, .pointer (some f0), .pointer (some f1)] H R :=
 calls_by .leaf Tryz.func193 rfl (by kernel_rfl) h
def F202 (g : Option Addr) (R : zE) (H : Heap) : Prop :=
 HCalls Tryz.prog 217 #[.pointer g] H (Sp.retK (fun t u => dSl t fun v h w => ∃ f : List Value → Heap → Prop, ∃ i : List Value → Heap → Nat, (f ([.int .i64 0]) u) ∧ ∀ b : Int, ∀ _ _ _ _ _ _ _ _ _ _ _ _ _ _ _ _ _ _ : Value, ∀ a : Heap, (f ([.int .i64 b]) a) → sB (decide (b < (↑h : Int))) (nz v fun j => ask (0 ≤ b ∧ b < (↑h : Int)) (ld a (Addr.add j (Int.toNat b * 1)) fun k => dInt .i64 k fun d => nz g fun l => ld a (Addr.add l 2) fun m => dMap m fun n => semW Tryz.prog (Instr.lookup 232 (.map n) (.int .i64 d) false) (pnR R) a fun o c => dPtr o fun p => nz p fun q => ld c (Addr.add q 1) fun r => dInt .i64 r fun s => sB (s == 0) (R (.returned (.tuple #[.int .i64 d, .bool true])) c) (wr .i64 (b + 1) fun e => (f ([.int .i64 e]) c) ∧ (i [.int .i64 e] c) < (i [.int .i64 b] a)))) (R (.returned (.tuple #[.int .i64 0, .bool false])) a)) (pnR R))
theorem F202_calls {R : zE} {H : Heap} (a : Option Addr) (h : F202 a R H) : HCalls Tryz.prog 202 #[.pointer a] H R :=
 calls_by (.node none .leaf (.node none (.node none .leaf (.node none (.node (some ⟨[(9, 3)], [2, 3, 5, 10, 11, 12, 13, 14, 15, 16, 17, 18, 19, 20, 21, 22, 23, 24]⟩) .leaf .leaf) .leaf)) .leaf)) Tryz.func202 rfl (by kernel_rfl) h
def F203 (c : Option Addr) (b : Int) (R : zE) (H : Heap) : Prop :=
 HCalls Tryz.prog 218 #[.pointer c, .int .i64 b] H (Sp.retK (fun C e => dInt .i64 C fun f => sB (f != 0) (R (.returned (.tuple #[.slice none 0 0, .int .i64 f])) e) (nz c fun D => ld e (Addr.add D 2) fun E => dMap E fun F => semW Tryz.prog (Instr.lookup 48 (.map F) (.int .i64 b) false) (pnR R) e fun G a => dInt .i64 G fun g => sB (decide (g > 0)) (nz c fun h => ld a (Addr.add h 2) fun i => dMap i fun d => semW Tryz.prog (Instr.lookup 48 (.map d) (.int .i64 b) false) (pnR R) a fun j k => dInt .i64 j fun l => wr .i64 (l - 1) fun m => semW Tryz.prog (Instr.mapUpdate 48 (.map d) (.int .i64 b) (.int .i64 m)) (pnR R) k fun I n => R (.returned (.tuple #[.slice none 0 0, .int .i64 4])) n) (nz c fun o => ld a o fun p => dSl p fun q r J => nz q fun s => ask (0 ≤ b ∧ b < (↑r : Int)) (ld a (Addr.add s (Int.toNat b * 1)) fun t => dSl t fun u v w => HCalls Tryz.prog 118 #[.slice u v w] a (Sp.retK (fun x y => dSl x fun z A B => R (.returned (.tuple #[.slice z A B, .int .i64 0])) y) (pnR R)))))) (pnR R))
theorem F203_calls {R : zE} {H : Heap} (a : Option Addr) (b : Int) (h : F203 a b R H) : HCalls Tryz.prog 203 #[.pointer a, .int .i64 b] H R :=
 calls_by .leaf Tryz.func203 rfl (by kernel_rfl) h
def F204 (a : Nat) (b c : Array Value) (R : zE) (H : Heap) : Prop :=
 HCalls Tryz.prog 219 #[.func (Fn.func a) b c] H (Sp.retK (fun g h => dSl g fun d e f => HCalls Tryz.prog 174 #[.slice d e f] h (Sp.retK (fun j i => R (.returned (.slice d e f)) i) (pnR R))) (pnR R))
theorem F204_calls {R : zE} {H : Heap} (a : Nat) (b c : Array Value) (h : F204 a b c R H) : HCalls Tryz.prog 204 #[.func (Fn.func a) b c] H R :=
 calls_by .leaf Tryz.func204 rfl (by kernel_rfl) h
def F205 (a : Option Nat) (R : zE) (H : Heap) : Prop :=
 al H (.cells #[.map a] 216) fun b c => R (.returned (.func (Fn.func 220) #[] #[.pointer (some ⟨b, 0, none⟩)])) c
theorem F205_calls {R : zE} {H : Heap} (a : Option Nat) (h : F205 a R H) : HCalls Tryz.prog 205 #[.map a] H R :=
 calls_by .leaf Tryz.func205 rfl (by kernel_rfl) h
end Go.Proofs.YtklppdodadkcnaaGreat.E
namespace Go.Proofs.YtklppdodadkcnaaGreat.E
open Go Go.Proofs
set_option linter.unusedVariables false
set_option maxRecDepth 100000
def F217 (j : Option Addr) (R : zE) (H : Heap) : Prop :=
 al H (.cells #[.pointer j] 69) fun b a => ld a ⟨b, 0, none⟩ fun k => dPtr k fun l => sB (Option.isNone l) (R (.returned (.slice none 0 0)) a) (ld a ⟨b, 0, none⟩ fun m => dPtr m fun n => nz n fun o => ld a (Addr.add o 2) fun p => dMap p fun q => HCalls Tryz.prog 228 #[.map q] a (Sp.retK (fun c d => HCalls Tryz.prog 227 #[c, .func (Fn.func 229) #[] #[.pointer (some ⟨b, 0, none⟩)]] d (Sp.retK (fun e f => dSl e fun g h i => R (.returned (.slice g h i)) f) (pnR R))) (pnR R)))
theorem F217_calls {R : zE} {H : Heap} (a : Option Addr) (h : F217 a R H) : HCalls Tryz.prog 217 #[.pointer a] H R :=
 calls_by .leaf Tryz.func217 rfl (by kernel_rfl) h
def F218 (c : Option Addr) (d : Int) (R : zE) (H : Heap) : Prop :=
 HCalls Tryz.prog 230 #[.pointer c] H (Sp.retK (fun j a => dBl j fun k => sB (!k) (R (.returned (.int .i64 2)) a) (jn (α := VFH 1) (fun l e => ∀ _ _ _ _ _ _ _ _ _ _ : Value, dBl l fun f => sB f (R (.returned (.int .i64 1)) e) (R (.returned (.int .i64 0)) e)) fun b => sB (decide (d < 0)) (b (.bool true) a) (nz c fun g => ld a g fun h => dSl h fun m i n => b (.bool (decide (d ≥ (↑i : Int)))) a))) (pnR R))
theorem F218_calls {R : zE} {H : Heap} (a : Option Addr) (b : Int) (h : F218 a b R H) : HCalls Tryz.prog 218 #[.pointer a, .int .i64 b] H R :=
 calls_by (.node none .leaf (.node none .leaf (.node none (.node (some ⟨[(18, 4)], [8, 9, 10, 11, 12, 13, 14, 15, 16, 17]⟩) .leaf .leaf) .leaf))) Tryz.func218 rfl (by kernel_rfl) h
def F227 (a : Nat) (b c : Array Value) (d : Nat) (e f : Array Value) (R : zE) (H : Heap) : Prop :=
 HCalls Tryz.prog 219 #[.func (Fn.func a) b c] H (Sp.retK (fun j k => dSl j fun g h i => HCalls Tryz.prog 233 #[.slice g h i, .func (Fn.func d) e f] k (Sp.retK (fun m l => R (.returned (.slice g h i)) l) (pnR R))) (pnR R))
theorem F227_calls {R : zE} {H : Heap} (a : Nat) (b c : Array Value) (d : Nat) (e f : Array Value) (h : F227 a b c d e f R H) : HCalls Tryz.prog 227 #[.func (Fn.func a) b c, .func (Fn.func d) e f] H R :=
 calls_by .leaf Tryz.func227 rfl (by kernel_rfl) h
def F228 (a : Option Nat) (R : zE) (H : Heap) : Prop :=
 al H (.cells #[.map a] 232) fun b c => R (.returned (.func (Fn.func 234) #[] #[.pointer (some ⟨b, 0, none⟩)])) c
theorem F228_calls {R : zE} {H : Heap} (a : Option Nat) (h : F228 a R H) : HCalls Tryz.prog 228 #[.map a] H R :=
 calls_by .leaf Tryz.func228 rfl (by kernel_rfl) h
def F230 (a : Option Addr) (R : zE) (H : Heap) : Prop :=
 sB (!Option.isNone a) (nz a fun b => ld H b fun c => dSl c fun e d f => R (.returned (.bool (decide ((↑d : Int) > 0)))) H) (R (.returned (.bool false)) H)
theorem F230_calls {R : zE} {H : Heap} (a : Option Addr) (h : F230 a R H) : HCalls Tryz.prog 230 #[.pointer a] H R :=
 calls_by .leaf Tryz.func230 rfl (by kernel_rfl) h
def F267 (a : Option Addr) (i : Int) (R : zE) (H : Heap) : Prop :=
 nz a fun j => ld H j fun k => dSl k fun l m n => al H (.cells #[.int .i64 i] 3) fun o p => semW Tryz.prog (Builtin.append_ #[45, 45] 45 #[.slice l m n, .slice (some ⟨o, 0, none⟩) 1 1]) (pnR R) p fun b c => dSl b fun d e f => nz a fun g => st c g (.slice d e f) fun h => R (.returned (.tuple #[])) h
theorem F267_calls {R : zE} {H : Heap} (a : Option Addr) (b : Int) (h : F267 a b R H) : HCalls Tryz.prog 267 #[.pointer a, .int .i64 b] H R :=
 calls_by .leaf Tryz.func267 rfl (by kernel_rfl) h
end Go.Proofs.YtklppdodadkcnaaGreat.E
namespace Go.Proofs.YtklppdodadkcnaaGreat.E
open Go Go.Proofs
set_option linter.unusedVariables false
set_option maxRecDepth 100000
def F87 (l m n : Value) (y : Int) (R : zE) (H : Heap) : Prop :=
 al H (.cells #[l, m, n] 23) fun p q => ld q ⟨p, 0, none⟩ fun z => dInt .i64 z fun A => ∃ o : List Value → Heap → Prop, ∃ r : List Value → Heap → Nat, (o ([.slice none 0 0, .int .i64 0]) q) ∧ ∀ c : Option Addr, ∀ d : Nat, ∀ e : Nat, ∀ a : Int, ∀ _ _ _ _ _ _ _ _ _ _ _ _ _ : Value, ∀ b : Heap, (o ([.slice c d e, .int .i64 a]) b) → sB (decide (a < A)) (wr .i64 (y + a) fun s => ld b ⟨p, 0, none⟩ fun t => dInt .i64 t fun f => ask (f ≠ (0 : Int)) (nm (Int.tmod s f) fun u => al b (.cells #[.int .i64 u] 3) fun v w => semW Tryz.prog (Builtin.append_ #[45, 45] 45 #[.slice c d e, .slice (some ⟨v, 0, none⟩) 1 1]) (pnR R) w fun x g => dSl x fun h i j => wr .i64 (a + 1) fun k => (o ([.slice h i j, .int .i64 k]) g) ∧ (r [.slice h i j, .int .i64 k] g) < (r [.slice c d e, .int .i64 a] b))) (R (.returned (.slice c d e)) b)
theorem F87_calls {R : zE} {H : Heap} (a b c : Value) (d : Int) (h : F87 a b c d R H) : HCalls Tryz.prog 87 #[.agg #[a, b, c], .int .i64 d] H R :=
 calls_by (.node none .leaf (.node none .leaf (.node none (.node none .leaf (.node none (.node (some ⟨[(5, 45), (9, 3)], [6, 10, 11, 12, 13, 14, 15, 16, 17, 18, 19, 20, 21]⟩) .leaf .leaf) .leaf)) .leaf))) Tryz.func87 rfl (by kernel_rfl) h
def F88 (x0 : Option Addr) (L M N O P Q S T U V W X Y c d e f g h i j k l m n o p q r s t u v w x y z A B C D E F G : Value) (x3 Z : Int) (x5 : Bool) (aa : Option Addr) (ab ac : Nat) (R : zE) (H : Heap) : Prop :=
 al H (.cells #[L, M, N] 23) fun r1 H2 => al H2 (.cells #[O, P, Q, S, T, U, V, W, X, Y, c, d, e, f, g, h, i, j, k, l, m, n, o, p, q, r, s, t, u, v, w, x, y, z, A, B, C, D, E, F, G] 118) fun r3 H4 => ask (0 ≤ (0 : Int) ∧ 0 ≤ (32 : Int) ∧ (32 : Int) ≤ (32 : Int) ∧ (32 : Int) ≤ (32 : Int)) (jn (α := VFH 1) (fun v5 H6 => ∀ _ _ _ _ : Value, dSl v5 fun ad ae af => HCalls Tryz.prog 105 #[.slice ad ae af, .int .i64 Z, .bool x5] H6 (Sp.retK (fun ag a => dT 2 ag fun ah ai => dSl ah fun aj ak aK => dInt .i64 ai fun I => sB (I != 0) (R (.returned (.tuple #[.int .i64 0, .int .i64 I])) a) (zl3 a r1 fun am an ao => ld a ⟨r3, 0, none⟩ fun ap => dInt .i64 ap fun aq => HCalls Tryz.prog 99 #[.agg #[am, an, ao], .int .i64 aq] a (Sp.retK (fun ar J => dT 2 ar fun au av => dInt .i64 au fun aw => dBl av fun aL => ask ((8 : Int) ≠ (0 : Int)) (wr .i64 (Int.tdiv Z 8) fun ax => wr .i64 (x3 + ax) fun ay => ask ((8 : Int) ≠ (0 : Int)) (wr .i64 (Int.tdiv Z 8) fun b => nz aj fun az => ask (0 ≤ b ∧ b < (↑ak : Int)) (ld J (Addr.add az (Int.toNat b * 1)) fun aA => dInt .u8 aA fun aB => al J (.cells #[.int .u8 aB] 5) fun aC aD => HCalls Tryz.prog 26 #[.pointer x0, .int .i64 aw, .int .i64 ay, .slice (some ⟨aC, 0, none⟩) 1 1, .slice aa ab ac] aD (Sp.retK (fun aE aF => dT 2 aE fun aG aH => dInt .i64 aG fun aI => dInt .i64 aH fun aJ => R (.returned (.tuple #[.int .i64 aI, .int .i64 aJ])) aF) (pnR R)))))) (pnR R)))) (pnR R))) fun K => sB (x3 == 4) (ask (0 ≤ (0 : Int) ∧ 0 ≤ (8 : Int) ∧ (8 : Int) ≤ (8 : Int) ∧ (8 :
 Int) ≤ (8 : Int)) (K (.slice (slO (some ⟨r3, 1, none⟩) 1 0 8) (Int.toNat 8 - Int.toNat 0) (Int.toNat 8 - Int.toNat 0)) H4)) (K (.slice (slO (some ⟨r3, 9, none⟩) 1 0 32) (Int.toNat 32 - Int.toNat 0) (Int.toNat 32 - Int.toNat 0)) H4))
theorem F88_calls {R : zE} {H : Heap} (Y : Option Addr) (G I J K L M N O P Q S T U a b c d e f g i j k l m n o p q r s t u v w x y z A B C D E F : Value) (Z x4 : Int) (x5 : Bool) (V : Option Addr) (W X : Nat) (h : F88 Y G I J K L M N O P Q S T U a b c d e f g i j k l m n o p q r s t u v w x y z A B C D E F Z x4 x5 V W X R H) : HCalls Tryz.prog 88 #[.pointer Y, .agg #[G, I, J], .agg #[K, L, M, N, O, P, Q, S, T, U, a, b, c, d, e, f, g, i, j, k, l, m, n, o, p, q, r, s, t, u, v, w, x, y, z, A, B, C, D, E, F], .int .i64 Z, .int .i64 x4, .bool x5, .slice V W X] H R :=
 calls_by (.node none .leaf (.node none .leaf (.node (some ⟨[(16, 85)], [23, 24, 25, 26]⟩) .leaf .leaf))) Tryz.func88 rfl (by kernel_rfl) h
def F89 (a : Option Addr) (R : zE) (H : Heap) : Prop :=
 sB (Option.isNone a) (R (.returned (.int .i64 0)) H) (nz a fun b => ld H b fun c => dSl c fun e d f => R (.returned (.int .i64 (↑d : Int))) H)
theorem F89_calls {R : zE} {H : Heap} (a : Option Addr) (h : F89 a R H) : HCalls Tryz.prog 89 #[.pointer a] H R :=
 calls_by .leaf Tryz.func89 rfl (by kernel_rfl) h
end Go.Proofs.YtklppdodadkcnaaGreat.E
namespace Go.Proofs.YtklppdodadkcnaaGreat.E
open Go Go.Proofs
set_option linter.unusedVariables false
set_option linter.unusedSimpArgs false
theorem c_clone (τ : Nat) {xa : Option Addr} {xn : Nat} (xc : Nat) {l : List UInt8} {τx : Nat} {s : TH} (hx : Sl s xa (bvs l) τx) (hn : l.length = xn) (h0 : xa = none → xn = 0) (hb : xn ≤ 1000000000) : TRet Tryz.prog 118 #[.slice xa xn xc] s fun v s' => ∃ a' c', v = .slice a' xn c' ∧ Ch [] s s' ∧ Own s' a' xn c' 5 1 (bvs l) τ ∧ (a' = none ↔ xa = none) := by
 refine F118_calls _ _ _  ?_
 unfold F118
 first | refine sB_d (fun a => ?_) (fun a => ?_) | refine sB_nd (fun a => ?_) (fun a => ?_) | refine sB_n (fun a => ?_) (fun a => ?_) | refine sB_i (fun a => ?_) (fun a => ?_)
 ·
  refine ret_t ?_
  have hxa : xa = none := by simpa using a
  have hl : l = [] := List.eq_nil_of_length_eq_zero (by have := h0 hxa; omega)
  have h0' := h0 hxa
  subst hl h0'
  exact ⟨none, 0, rfl, (Ch.refl [] s), Own.nil _ _ _ _, by simp [hxa]⟩
 ·
  refine al_t τ fun r1 s2 i f b j => ?_
  have g := hx.mv b (tagn (by simp))
  refine app_i u85 in5 rfl (f.own0 1) g (by rw [bvs_len]; omega) (bvs_one l) h0 (by unfold maxLen; omega) fun s6 a1 c1 c e hnil => ?_
  have d := e.toL rfl
  have k := d.size
  refine dSl_i ?_
  refine ret_t ?_
  have hxa : xa ≠ none := by intro h; simp [h] at a
  rw [Nat.zero_add, List.nil_append] at c
  simp only [Nat.zero_add]
  exact ⟨a1, c1, rfl, (((Ch.refl [] s).ch b (by simp)).chl d (by simp) (by simp <;> omega)), c, by simp [hxa, hnil.1]⟩
-- no form: math/bits.Mul64
-- no form: math/bits.Mul
-- no form: bytes.Repeat
end Go.Proofs.YtklppdodadkcnaaGreat.E
namespace Go.Proofs.YtklppdodadkcnaaGreat.E
open Go Go.Proofs
set_option linter.unusedVariables false
set_option linter.unusedSimpArgs false
theorem c_made (d T : Nat) (D : DiskM) (s : TH) (hT : 10 ≤ T) (hd : Disk s d T D) : TRet Tryz.prog 230 #[.pointer (some ⟨d, 0, none⟩)] s fun v s' => v = .bool true ∧ Ch [] s s' := by
 obtain ⟨pa, pc, qa, qc, hs, qs, fr, fm, hD⟩ := id hd
 have hblk := hD.blk
 have hrows := hD.rows
 have hbrel := hD.brel
 have hque := hD.que
 have hqrel := hD.qrel
 have hfails := hD.fails
 refine F230_calls _  ?_
 unfold F230
 refine sB_t (by rfl) (nz_i (ld_t hblk rfl (dSl_i ?_)))
 refine ret_t ?_
 exact ⟨ret_b (by have := hD.nb; simp; omega), (Ch.refl [] s)⟩
theorem c_blocks (d T : Nat) (D : DiskM) (s : TH) (hT : 10 ≤ T) (hd : Disk s d T D) : TRet Tryz.prog 89 #[.pointer (some ⟨d, 0, none⟩)] s fun v s' => v = .int .i64 (D.blocks.length : Int) ∧ Ch [] s s' := by
 obtain ⟨pa, pc, qa, qc, hs, qs, fr, fm, hD⟩ := id hd
 have hblk := hD.blk
 have hrows := hD.rows
 have hbrel := hD.brel
 have hque := hD.que
 have hqrel := hD.qrel
 have hfails := hD.fails
 refine F89_calls _  ?_
 unfold F89
 refine sB_f (by rfl) (nz_i (ld_t hblk rfl (dSl_i ?_)))
 refine ret_t ?_
 exact ⟨rfl, (Ch.refl [] s)⟩
theorem c_look (d T : Nat) (D : DiskM) (b : Int) (s : TH) (hT : 10 ≤ T) (hd : Disk s d T D) : TRet Tryz.prog 218 #[.pointer (some ⟨d, 0, none⟩), .int .i64 b] s fun v s' => v = .int .i64 (if D.has b then 0 else 1) ∧ Ch [] s s' := by
 obtain ⟨pa, pc, qa, qc, hs, qs, fr, fm, hD⟩ := id hd
 have hblk := hD.blk
 have hrows := hD.rows
 have hbrel := hD.brel
 have hque := hD.que
 have hqrel := hD.qrel
 have hfails := hD.fails
 refine F218_calls _ _  ?_
 unfold F218
 refine tcall (c_made _ _ _ _ hT hd) ?_
 rintro _ s2 ⟨rfl, a⟩
 have g := a.size
 refine dBl_i (sB_f (by rfl) ?_)
 refine jn_u ?_
 refine sB_d (fun e => ?_) (fun e => ?_)
 ·
  intro _ _ _ _ _ _ _ _ _ _
  refine dBl_i (sB_t (by rfl) ?_)
  refine ret_t ?_
  exact ⟨ret_i (by first | rw [if_pos (by unfold DiskM.has; omega)] | rw [if_neg (by unfold DiskM.has; omega)]), ((Ch.refl [] s).ch a (by simp))⟩
 ·
  refine nz_i ?_
  have c := hblk.ch a (by simp)
  refine ld_t c rfl (dSl_i ?_)
  intro _ _ _ _ _ _ _ _ _ _
  refine dBl_i ?_
  refine sB_d (fun f => ?_) (fun f => ?_)
  ·
   refine ret_t ?_
   exact ⟨ret_i (by first | rw [if_pos (by unfold DiskM.has; omega)] | rw [if_neg (by unfold DiskM.has; omega)]), ((Ch.refl [] s).ch a (by simp))⟩
  ·
   refine ret_t ?_
   exact ⟨ret_i (by first | rw [if_pos (by unfold DiskM.has; omega)] | rw [if_neg (by unfold DiskM.has; omega)]), ((Ch.refl [] s).ch a (by simp))⟩
-- no form: slices.IndexFunc[[]bollard/api.Sent,bollard/api.Sent]
-- no form: slices.ContainsFunc[[]bollard/api.Sent,bollard/api.Sent]
-- no form: (*bollard/disk.Disk).Write$1
-- no form: (*bollard/disk.Disk).place$1
-- no form: (*bollard/disk.Disk).place
-- no form: slices.Delete[[]bollard/api.Sent,bollard/api.Sent]
-- no form: (*bollard/disk.Disk).Write
-- no form: (*bollard/disk.Disk).Complete
theorem BRel.snoc {s : TH} {τ : Nat} {hs : List Hd} {bs : List (List UInt8)} (h : BRel s τ hs bs) {p : Hd} {b : List UInt8} (hp : ByAt s τ p b) : BRel s τ (hs ++ [p]) (bs ++ [b]) := by
 refine ⟨by simp [h.len], fun i x y hx hy => ?_⟩
 by_cases hi : i < bs.length
 ·rw [List.getElem?_append_left (by rw [h.len]; exact hi)] at hx
  rw [List.getElem?_append_left hi] at hy
  exact h.at_ i x y hx hy
 ·rw [List.getElem?_append_right (by rw [h.len]; omega)] at hx
  rw [List.getElem?_append_right (by omega)] at hy
  rw [h.len] at hx
  cases hd : i - bs.length with
  | zero => rw [hd] at hx hy; simp at hx hy; subst hx hy; exact hp
  | succ k => rw [hd] at hx; simp at hx
theorem BRel.nil (s : TH) (τ : Nat) : BRel s τ [] [] := ⟨rfl, fun i p b h _ => by simp at h⟩
theorem QRel.nil (s : TH) (τ : Nat) : QRel s τ [] [] := ⟨rfl, fun i p b h _ => by simp at h⟩
-- no form: bollard/disk.New
theorem c_dread (d T τ : Nat) (D : DiskM) (b : Int) {l : List UInt8} (s : TH) (hT : 10 ≤ T) (hd : Disk s d T D) (hb : D.has b) (hl : D.blocks[b.toNat]? = some l) (hf : D.fails b ≤ 0) : TRet Tryz.prog 203 #[.pointer (some ⟨d, 0, none⟩), .int .i64 b] s fun v s' => ∃ a c, v = .tuple #[.slice a 128 c, .int .i64 0] ∧ Ch [] s s' ∧ Own s' a 128 c 5 1 (bvs l) τ := by
 obtain ⟨pa, pc, qa, qc, hs, qs, fr, fm, hD⟩ := id hd
 have hblk := hD.blk
 have hrows := hD.rows
 have hbrel := hD.brel
 have hque := hD.que
 have hqrel := hD.qrel
 have hfails := hD.fails
 refine F203_calls _ _  ?_
 unfold F203
 refine tcall (c_look _ _ _ _ _ hT hd) ?_
 rintro _ s2 ⟨rfl, e⟩
 have n := e.size
 refine dInt_i ?_
 refine sB_ne (fun i => ?_) (fun i => ?_)
 ·
  refine ret_t ?_
  exact absurd (if_pos hb) i
 ·
  have hb1 := hb; unfold DiskM.has at hb1
  obtain ⟨p, hp⟩ : ∃ p, hs[b.toNat]? = some p := ⟨hs[b.toNat]'(by rw [hD.brel.len]; omega), by simp⟩
  obtain ⟨ap, rfl⟩ : ∃ ap, pa = some ap := by
   have h0 := hD.nb
   rcases hD.rows.2 with ⟨_, h2, _⟩ | ⟨g, o, L, h2, _⟩
   ·omega
   ·exact ⟨_, h2⟩
  refine nz_i ?_
  have f := hblk.ch e (by simp)
  refine ld_t f rfl (dMap_i ?_)
  have fails_4 := hfails.ch e (by simp)
  refine look_g keyI u48 z3 fails_4 b (hD.fok b) ?_
  refine dInt_i ?_
  refine sB_d (fun k => by exfalso; omega) (fun k => ?_)
  refine nz_i (ld_t f rfl (dSl_i (nz_i (ask_t (by omega) ?_))))
  have rows_5 := hrows.mv e (tagn (by simp))
  refine ld_sl rows_5.sl (by rw [Nat.mul_one]; exact bcell hp) ?_
  refine dSl_i ?_
  have brel_6 := hbrel.mv e (tagn (by simp))
  refine tcall (c_clone τ _ (brel_6.at_ _ _ _ hp hl).sl (brel_6.at_ _ _ _ hp hl).len (fun h => by obtain ⟨y, hy⟩ := (hD.brel.at_ _ _ _ hp hl).ne; rw [h] at hy; cases hy) (by omega)) ?_
  rintro _ q ⟨xa2, xc2, rfl, j, m, hxn⟩
  have r := j.size
  refine dSl_i ?_
  refine ret_t ?_
  exact ⟨xa2, xc2, rfl, (((Ch.refl [] s).ch e (by simp)).ch j (by simp)), m⟩
end Go.Proofs.YtklppdodadkcnaaGreat.E
namespace Go.Proofs
open Go.Shelf
def Tryz.collectA_ren : Go.Shelf.Ren := ⟨fun | 8 => 219 | 11 => 231 | n => n, fun | 26 => 3 | 28 => 274 | 24 => 45 | 0 => 0 | 33 => 154 | 4 => 4 | n => n, fun | n => n⟩
theorem Tryz.collectA : Go.Proofs.SlLaysZI.n8 Tryz.prog Tryz.collectA_ren :=
 {mixed := by kernel_rfl,
  f8 := ⟨Tryz.f219.name, by decide, Tryz.func219.trans (congrArg some (by kernel_rfl))⟩,
  f11 := ⟨Tryz.f231.name, by decide, Tryz.func231.trans (congrArg some (by kernel_rfl))⟩,
  t0 := Tryz.underlying0,
  a0 := Tryz.isAgg0,
  z0 := Tryz.sizeOf0,
  v0 := Tryz.zeroValue0,
  t24 := Tryz.underlying45,
  a24 := Tryz.isAgg45,
  z24 := Tryz.sizeOf45,
  v24 := Tryz.zeroValue45,
  t26 := Tryz.underlying3,
  a26 := Tryz.isAgg3,
  z26 := Tryz.sizeOf3,
  v26 := Tryz.zeroValue3,
  t28 := Tryz.underlying274,
  a28 := Tryz.isAgg274,
  z28 := Tryz.sizeOf274,
  v28 := Tryz.zeroValue274,
  i26 := by kernel_rfl }
def Tryz.keysA_ren : Go.Shelf.Ren := ⟨fun | 7 => 228 | 10 => 234 | n => n, fun | 23 => 232 | 26 => 3 | 3 => 244 | 28 => 274 | 0 => 0 | 27 => 273 | 33 => 154 | 4 => 4 | n => n, fun | n => n⟩
theorem Tryz.keysA : Go.Proofs.SlLaysZI.n7 Tryz.prog Tryz.keysA_ren :=
 {mixed := by kernel_rfl,
  f7 := ⟨Tryz.f228.name, by decide, Tryz.func228.trans (congrArg some (by kernel_rfl))⟩,
  f10 := ⟨Tryz.f234.name, by decide, Tryz.func234.trans (congrArg some (by kernel_rfl))⟩,
  t0 := Tryz.underlying0,
  a0 := Tryz.isAgg0,
  z0 := Tryz.sizeOf0,
  v0 := Tryz.zeroValue0,
  t4 := Tryz.underlying4,
  a4 := Tryz.isAgg4,
  z4 := Tryz.sizeOf4,
  v4 := Tryz.zeroValue4,
  t23 := Tryz.underlying232,
  a23 := Tryz.isAgg232,
  z23 := Tryz.sizeOf232,
  v23 := Tryz.zeroValue232,
  t26 := Tryz.underlying3,
  a26 := Tryz.isAgg3,
  z26 := Tryz.sizeOf3,
  v26 := Tryz.zeroValue3,
  t27 := Tryz.underlying273,
  a27 := Tryz.isAgg273,
  z27 := Tryz.sizeOf273,
  v27 := Tryz.zeroValue273,
  t28 := Tryz.underlying274,
  a28 := Tryz.isAgg274,
  z28 := Tryz.sizeOf274,
  v28 := Tryz.zeroValue274,
  t33 := Tryz.underlying154,
  a33 := Tryz.isAgg154,
  z33 := Tryz.sizeOf154,
  v33 := Tryz.zeroValue154 }
def Tryz.keysB_ren : Go.Shelf.Ren := ⟨fun | 7 => 205 | 10 => 220 | n => n, fun | 23 => 216 | 26 => 3 | 3 => 220 | 28 => 274 | 0 => 0 | 27 => 273 | 33 => 154 | 4 => 4 | n => n, fun | n => n⟩
theorem Tryz.keysB : Go.Proofs.SlLaysZI.n7 Tryz.prog Tryz.keysB_ren :=
 {mixed := by kernel_rfl,
  f7 := ⟨Tryz.f205.name, by decide, Tryz.func205.trans (congrArg some (by kernel_rfl))⟩,
  f10 := ⟨Tryz.f220.name, by decide, Tryz.func220.trans (congrArg some (by kernel_rfl))⟩,
  t0 := Tryz.underlying0,
  a0 := Tryz.isAgg0,
  z0 := Tryz.sizeOf0,
  v0 := Tryz.zeroValue0,
  t4 := Tryz.underlying4,
  a4 := Tryz.isAgg4,
  z4 := Tryz.sizeOf4,
  v4 := Tryz.zeroValue4,
  t23 := Tryz.underlying216,
  a23 := Tryz.isAgg216,
  z23 := Tryz.sizeOf216,
  v23 := Tryz.zeroValue216,
  t26 := Tryz.underlying3,
  a26 := Tryz.isAgg3,
  z26 := Tryz.sizeOf3,
  v26 := Tryz.zeroValue3,
  t27 := Tryz.underlying273,
  a27 := Tryz.isAgg273,
  z27 := Tryz.sizeOf273,
  v27 := Tryz.zeroValue273,
  t28 := Tryz.underlying274,
  a28 := Tryz.isAgg274,
  z28 := Tryz.sizeOf274,
  v28 := Tryz.zeroValue274,
  t33 := Tryz.underlying154,
  a33 := Tryz.isAgg154,
  z33 := Tryz.sizeOf154,
  v33 := Tryz.zeroValue154 }
def Tryz.sortFA_ren : Go.Shelf.Ren := ⟨fun | 6 => 233 | 15 => 195 | 14 => 235 | 28 => 215 | 29 => 216 | 20 => 236 | 21 => 237 | 22 => 238 | 23 => 239 | 24 => 240 | 25 => 241 | 26 => 242 | 27 => 243 | 46 => 244 | 47 => 222 | 48 => 223 | 49 => 245 | 50 => 246 | 57 => 247 | n => n, fun | 22 => 45 | 24 => 3 | 25 => 294 | 3 => 3 | 39 => 30 | 0 => 0 | 53 => 64 | 55 => 286 | 4 => 4 | 46 => 278 | 45 => 277 | 50 => 46 | 5 => 5 | 9 => 9 | 66 => 287 | 70 => 107 | 76 => 296 | 77 => 122 | n => n, fun | n => n⟩
theorem Tryz.sortFA : Go.Proofs.SlLaysF.n6 Tryz.prog Tryz.sortFA_ren :=
 {mixed := by kernel_rfl,
  f6 := ⟨Tryz.f233.name, by decide, Tryz.func233.trans (congrArg some (by kernel_rfl))⟩,
  f14 := ⟨Tryz.f235.name, by decide, Tryz.func235.trans (congrArg some (by kernel_rfl))⟩,
  f15 := Tryz.func195.trans (congrArg some (by kernel_rfl)),
  f20 := ⟨Tryz.f236.name, by decide, Tryz.func236.trans (congrArg some (by kernel_rfl))⟩,
  f21 := ⟨Tryz.f237.name, by decide, Tryz.func237.trans (congrArg some (by kernel_rfl))⟩,
  f22 := ⟨Tryz.f238.name, by decide, Tryz.func238.trans (congrArg some (by kernel_rfl))⟩,
  f23 := ⟨Tryz.f239.name, by decide, Tryz.func239.trans (congrArg some (by kernel_rfl))⟩,
  f24 := ⟨Tryz.f240.name, by decide, Tryz.func240.trans (congrArg some (by kernel_rfl))⟩,
  f25 := ⟨Tryz.f241.name, by decide, Tryz.func241.trans (congrArg some (by kernel_rfl))⟩,
  f26 := ⟨Tryz.f242.name, by decide, Tryz.func242.trans (congrArg some (by kernel_rfl))⟩,
  f27 := ⟨Tryz.f243.name, by decide, Tryz.func243.trans (congrArg some (by kernel_rfl))⟩,
  f28 := Tryz.func215.trans (congrArg some (by kernel_rfl)),
  f29 := Tryz.func216.trans (congrArg some (by kernel_rfl)),
  f46 := ⟨Tryz.f244.name, by decide, Tryz.func244.trans (congrArg some (by kernel_rfl))⟩,
  f47 := Tryz.func222.trans (congrArg some (by kernel_rfl)),
  f48 := Tryz.func223.trans (congrArg some (by kernel_rfl)),
  f49 := ⟨Tryz.f245.name, by decide, Tryz.func245.trans (congrArg some (by kernel_rfl))⟩,
  f50 := ⟨Tryz.f246.name, by decide, Tryz.func246.trans (congrArg some (by kernel_rfl))⟩,
  f57 := ⟨Tryz.f247.name, by decide, Tryz.func247.trans (congrArg some (by kernel_rfl))⟩,
  t0 := Tryz.underlying0,
  a0 := Tryz.isAgg0,
  z0 := Tryz.sizeOf0,
  v0 := Tryz.zeroValue0,
  t3 := Tryz.underlying3,
  a3 := Tryz.isAgg3,
  z3 := Tryz.sizeOf3,
  v3 := Tryz.zeroValue3,
  t4 := Tryz.underlying4,
  a4 := Tryz.isAgg4,
  z4 := Tryz.sizeOf4,
  v4 := Tryz.zeroValue4,
  t5 := Tryz.underlying5,
  a5 := Tryz.isAgg5,
  z5 := Tryz.sizeOf5,
  v5 := Tryz.zeroValue5,
  t9 := Tryz.underlying9,
  a9 := Tryz.isAgg9,
  z9 := Tryz.sizeOf9,
  v9 := Tryz.zeroValue9,
  t22 := Tryz.underlying45,
  a22 := Tryz.isAgg45,
  z22 := Tryz.sizeOf45,
  v22 := Tryz.zeroValue45,
  a24 := Tryz.isAgg3,
  z24 := Tryz.sizeOf3,
  t25 := Tryz.underlying294,
  a25 := Tryz.isAgg294,
  z25 := Tryz.sizeOf294,
  v25 := Tryz.zeroValue294,
  t39 := Tryz.underlying30,
  a39 := Tryz.isAgg30,
  z39 := Tryz.sizeOf30,
  v39 := Tryz.zeroValue30,
  t45 := Tryz.underlying277,
  a45 := Tryz.isAgg277,
  z45 := Tryz.sizeOf277,
  v45 := Tryz.zeroValue277,
  t46 := Tryz.underlying278,
  a46 := Tryz.isAgg278,
  z46 := Tryz.sizeOf278,
  v46 := Tryz.zeroValue278,
  t50 := Tryz.underlying46,
  a50 := Tryz.isAgg46,
  z50 := Tryz.sizeOf46,
  v50 := Tryz.zeroValue46,
  t53 := Tryz.underlying64,
  a53 := Tryz.isAgg64,
  z53 := Tryz.sizeOf64,
  v53 := Tryz.zeroValue64,
  t55 := Tryz.underlying286,
  a55 := Tryz.isAgg286,
  z55 := Tryz.sizeOf286,
  v55 := Tryz.zeroValue286,
  t66 := Tryz.underlying287,
  a66 := Tryz.isAgg287,
  z66 := Tryz.sizeOf287,
  v66 := Tryz.zeroValue287,
  t70 := Tryz.underlying107,
  a70 := Tryz.isAgg107,
  z70 := Tryz.sizeOf107,
  v70 := Tryz.zeroValue107,
  t76 := Tryz.underlying296,
  a76 := Tryz.isAgg296,
  z76 := Tryz.sizeOf296,
  v76 := Tryz.zeroValue296,
  t77 := Tryz.underlying122,
  a77 := Tryz.isAgg122,
  z77 := Tryz.sizeOf122,
  v77 := Tryz.zeroValue122 }
end Go.Proofs
namespace Go.Proofs.YtklppdodadkcnaaGreat.E
open Go Go.Proofs Go.RowKit Go.Maps Go.Shelf Go.Sort
set_option linter.unusedVariables false
set_option linter.unusedSimpArgs false
theorem tret_new (τ : Nat) {P : Program} {f : FuncId} {args : Array Value} {s : TH} {Q : Value → TH → Prop}
  (h : ∀ w : World, w.heap = s.h → Calls P f args w fun e w' => ∃ v, e = .returned v ∧ Go.RowKit.Below w.heap.size w w' ∧ Q v ⟨w'.heap, fun j => if j < s.h.size then s.g j else τ⟩) :
  TRet P f args s fun v s' => Q v s' ∧ Ch [] s s' := fun w hw =>
 (h w hw).mono fun e w' ⟨v, he, hb, hq⟩ => ⟨⟨v, ⟨w'.heap, fun j => if j < s.h.size then s.g j else τ⟩, he, rfl, hq, ⟨by rw [← hw]; exact hb.size, fun j hj => by simp [hj], fun j hj _ => by rw [← hw]; exact hb.block j (by rw [hw]; exact hj)⟩⟩, ⟨hb.os, hb.tape, hb.output⟩⟩
theorem own_of_row {w' : World} {B e k n : Nat} {v : Value} {xs : List Value} {τ : Nat} {g : Nat → Nat} (h : w'.ownsRow B e k v n xs) (hg : ∀ j, B ≤ j → g j = τ) : ∃ a c, v = .slice a n c ∧ Own ⟨w'.heap, g⟩ a n c e k xs τ ∧ ∀ b, a = some b → B ≤ b.block := by
 rcases h.2 with ⟨rfl, rfl⟩ | ⟨b, cap, cur, rfl, hb, hc, h1, h2, h3, h4⟩
 ·exact ⟨none, 0, rfl, ⟨h.1, .inl ⟨rfl, rfl, rfl⟩⟩, fun b hb => by cases hb⟩
 ·exact ⟨_, cap, rfl, ⟨h.1, .inr ⟨b, 0, cur.toList, rfl, ⟨by simpa using hc, hg b hb⟩, h1, h2, by simp [h3], by simpa using h4⟩⟩, fun b hb => by cases hb; assumption⟩
def inI64 (x : Int) : Prop := -9223372036854775808 ≤ x ∧ x ≤ 9223372036854775807
theorem wf_i64 {x : Int} (h : inI64 x) : (Lit.int .i64 x).wf = true := by
 unfold inI64 at h
 have e1 : IntKind.i64.min = -9223372036854775808 := by decide
 have e2 : IntKind.i64.max = 9223372036854775807 := by decide
 simp only [Lit.wf, e1, e2, Bool.and_eq_true, decide_eq_true_eq]
 exact h
theorem owns_of {P : Program} {K : TypeId} (hK : P.underlying K = some (.int .i64)) {s : TH} {r τ : Nat} {m : List (Int × Value)} (h : MapK (Value.int .i64) s r m τ) (w : World) (hw : w.heap = s.h) (hn : m.length ≤ 17592186044416) (hk : ∀ k ∈ m.map (·.1), inI64 k) :
  ∃ D0 : DataW Unit, w.ownsMap P K (fun _ => some (.nil, [])) r m.length D0 ∧ (intKeys D0).Perm (m.map (·.1)) ∧ Go.Maps.size D0 = m.length := by
 obtain ⟨es, ck, hg, he⟩ := h.get
 have hlen : es.length = m.length := by have := congrArg List.length he.key; simpa using this
 have hread : ∀ x ∈ es, ∃ k, x.key = .int .i64 k ∧ inI64 k := fun x hx => by
  have : x.key ∈ es.map (·.key) := List.mem_map.2 ⟨x, hx, rfl⟩
  rw [he.key] at this
  obtain ⟨p, hp, hpx⟩ := List.mem_map.1 this
  exact ⟨p.1, hpx.symm, hk _ (List.mem_map.2 ⟨p, hp, rfl⟩)⟩
 have hrd : ∀ (x : MapEntry) (k : Int), x.key = .int .i64 k → inI64 k → Go.WideElems.rd (H := Unit) P K (fun _ => some (.nil, [])) x = some (.int .i64 k, .nil) := fun x k hx hk => by
  obtain ⟨xk, xv, xb⟩ := x
  cases hx
  exact Go.WideElems.rd_mk (R := fun _ => some (.nil, [])) (yv := (.nil, [])) (keyOf_int_mk hK (wf_i64 hk)) rfl
 have hnd : (es.map (·.key)).Nodup := by
  rw [he.key]
  exact List.pairwise_map.2 ((List.pairwise_map.1 h.nd).imp fun {a b} hab => by simpa using hab)
 refine ⟨.map ((es.map (Go.WideElems.rg P K (fun _ => some (.nil, [])))).foldr DataW.insert []), ⟨es.toArray, ck, by rw [hw]; exact hg, ⟨by unfold maxLen; simp; omega, ⟨by simpa using he.old, by simpa using he.born, by simpa using hnd⟩, ?_⟩, by simp; omega, by simp⟩, ?_, ?_⟩
 ·intro x hx
  obtain ⟨k, h1, h2⟩ := hread x (by simpa using hx)
  exact ⟨_, hrd x k h1 h2⟩
 ·have hp := Go.WideShapes.sorted_perm (es.map (Go.WideElems.rg (H := Unit) P K (fun _ => some (.nil, []))))
  have hq := hp.map (fun p => Go.intOf p.1)
  refine hq.trans (List.Perm.of_eq ?_)
  rw [List.map_map]
  have e1 : es.map ((fun p : Lit × DataW Unit => Go.intOf p.1) ∘ Go.WideElems.rg P K (fun _ => some (.nil, []))) = es.map (fun x => match x.key with | .int _ k => k | _ => 0) := by
   apply List.map_congr_left
   intro x hx
   obtain ⟨k, h1, h2⟩ := hread x hx
   simp only [Function.comp, Go.WideElems.rg_of (hrd x k h1 h2), h1]
   rfl
  rw [e1]
  have e2 : es.map (fun x => match x.key with | .int _ k => k | _ => 0) = (es.map (·.key)).map (fun v => match v with | .int _ k => k | _ => 0) := by rw [List.map_map]; rfl
  rw [e2, he.key, List.map_map]
  rfl
 ·show (List.foldr DataW.insert [] _).length = _
  rw [(Go.WideShapes.sorted_perm _).length_eq, List.length_map, hlen]
theorem c_collect (τ : Nat) (Bm r tb τb τm : Nat) {m : List (Int × Value)} {s : TH} (hB : Blk s Bm [.map (some r)] tb τb) (hm : MapK (Value.int .i64) s r m τm) (hn : m.length ≤ 17592186044416) (hk : ∀ k ∈ m.map (·.1), inI64 k) :
  TRet Tryz.prog 219 #[.func (.func 234) #[] #[.pointer (some ⟨Bm, 0, none⟩)]] s fun v s' => (∃ a c ss, v = .slice a m.length c ∧ ss.Perm (m.map (·.1)) ∧ Own s' a m.length c 3 1 (ivs ss) τ ∧ ∀ b, a = some b → s.h.size ≤ b.block) ∧ Ch [] s s' :=
 tret_new τ fun w hw => by
  have hm0 : w.cell? ⟨Bm, 0, none⟩ = some (.map (some r)) := by rw [cell_eq, hw]; exact hB.cell 0
  obtain ⟨D0, ho, hp, hsz⟩ := owns_of (P := Tryz.prog) (K := 3) (by kernel_rfl) hm w hw hn hk
  have hseq : SeqGives Fence.wide 4 Tryz.prog 234 #[.pointer (some ⟨Bm, 0, none⟩)] encZ (fun ss : List Int => ss.Perm (intKeys D0)) (Go.Maps.size D0) w :=
   AnyZI.keys_gives (ρ := Tryz.keysA_ren) { Tryz.keysA with } Fence.wide 4 trivial rfl (by omega) Bm r m.length D0 w (by rw [hw]; exact hB.lt) hm0 ho
  have h := AnyZI.collect_in (ρ := Tryz.collectA_ren) Tryz.collectA Fence.wide 6 trivial trivial rfl (by omega) 234 #[.pointer (some ⟨Bm, 0, none⟩)] trivial (enters_of Tryz.func234 (by kernel_rfl) rfl) _ (Go.Maps.size D0) (by rw [hsz]; unfold maxLen; omega) (by rw [hsz]; omega) w hseq
  refine ((callsIn_wide (n := 6)).1 h).mono ?_
  rintro e w' ⟨v, ss, rfl, hs, hrow, hv, hb⟩
  have hp2 := hs.trans hp
  have hl : ss.length = m.length := by rw [hp2.length_eq]; simp
  obtain ⟨a, c, rfl, hO, hnew⟩ := own_of_row (g := fun j => if j < s.h.size then s.g j else τ) (τ := τ) hrow (fun j hj => by rw [if_neg (by rw [← hw]; omega)])
  rw [hl] at hO ⊢
  exact ⟨_, rfl, hb, a, c, ss, rfl, hp2, hO, by rw [← hw]; exact hnew⟩
end Go.Proofs.YtklppdodadkcnaaGreat.E
