/- The functions' forms in the engine's words, printed by my own program. -/
import Derived.Test.YtngploohhmfaiaaGreatProg
import Derived.Test.YtngploohhmfaiaaGreatEng11
import Derived.KernelRfl
namespace Go.Proofs.YtngploohhmfaiaaGreat.E
open Go Go.Proofs
set_option linter.unusedVariables false
/-- bollard/bollardref07.overlap -/
def F215 (x0_0 : Value) (x0_1 : Value) (x0_2 : Value) (x0_3 : Value) (x0_4 : Value) (x1_0 : Value) (x1_1 : Value) (x1_2 : Value) (x1_3 : Value) (x1_4 : Value) (R : Ending → Heap → Prop) (H : Heap) : Prop :=
  al H (Obj.cells #[x0_0, x0_1, x0_2, x0_3, x0_4] 194) (fun r1 H2 =>
  al H2 (Obj.cells #[x1_0, x1_1, x1_2, x1_3, x1_4] 194) (fun r3 H4 =>
  ld H4 (Addr.mk r1 1 none) (fun v5 =>
  dInt IntKind.i64 v5 (fun n6 =>
  ld H4 (Addr.mk r3 1 none) (fun v7 =>
  dInt IntKind.i64 v7 (fun n8 =>
  sB (n6 == n8) (ld H4 (Addr.mk r1 2 none) (fun v9 =>
  dInt IntKind.i64 v9 (fun n10 =>
  ld H4 (Addr.mk r3 2 none) (fun v11 =>
  dInt IntKind.i64 v11 (fun n12 =>
  ld H4 (Addr.mk r3 3 none) (fun v13 =>
  dSl v13 (fun p14 r15 r16 =>
  wr IntKind.i64 (n12 + (↑r15 : Int)) (fun n17 =>
  sB (decide (n10 < n17)) (ld H4 (Addr.mk r3 2 none) (fun v18 =>
  dInt IntKind.i64 v18 (fun n19 =>
  ld H4 (Addr.mk r1 2 none) (fun v20 =>
  dInt IntKind.i64 v20 (fun n21 =>
  ld H4 (Addr.mk r1 3 none) (fun v22 =>
  dSl v22 (fun p23 r24 r25 =>
  wr IntKind.i64 (n21 + (↑r24 : Int)) (fun n26 =>
  R (Ending.returned (Value.bool (decide (n19 < n26)))) H4)))))))) (R (Ending.returned (Value.bool false)) H4))))))))) (R (Ending.returned (Value.bool false)) H4)))))))
theorem F215_eq (x0_0 : Value) (x0_1 : Value) (x0_2 : Value) (x0_3 : Value) (x0_4 : Value) (x1_0 : Value) (x1_1 : Value) (x1_2 : Value) (x1_3 : Value) (x1_4 : Value) (R : Ending → Heap → Prop) (H : Heap) : F215 x0_0 x0_1 x0_2 x0_3 x0_4 x1_0 x1_1 x1_2 x1_3 x1_4 R H = vc Tryz.prog (codeOf Tryz.f215) .leaf (postV Tryz.prog Tryz.f215 R) ⟨#[Value.agg #[x0_0, x0_1, x0_2, x0_3, x0_4], Value.agg #[x1_0, x1_1, x1_2, x1_3, x1_4]] ++ Array.replicate (Tryz.f215.ntmps - 2) undef, []⟩ H := by kernel_rfl
theorem F215_calls {R : Ending → Heap → Prop} {H : Heap} (x0_0 : Value) (x0_1 : Value) (x0_2 : Value) (x0_3 : Value) (x0_4 : Value) (x1_0 : Value) (x1_1 : Value) (x1_2 : Value) (x1_3 : Value) (x1_4 : Value) (h : F215 x0_0 x0_1 x0_2 x0_3 x0_4 x1_0 x1_1 x1_2 x1_3 x1_4 R H) : HCalls Tryz.prog 215 #[Value.agg #[x0_0, x0_1, x0_2, x0_3, x0_4], Value.agg #[x1_0, x1_1, x1_2, x1_3, x1_4]] H R :=
  calls_by (F := F215 x0_0 x0_1 x0_2 x0_3 x0_4 x1_0 x1_1 x1_2 x1_3 x1_4 R H) .leaf Tryz.func215 rfl (F215_eq x0_0 x0_1 x0_2 x0_3 x0_4 x1_0 x1_1 x1_2 x1_3 x1_4 R H) h
/-- maps.Keys[map[int]struct{},int,struct{}]$1 -/
def F217 (x0g : Nat) (x0f : Array Value) (x0c : Array Value) (f0 : Addr) (R : Ending → Heap → Prop) (H : Heap) : Prop :=
  ld H f0 (fun v1 =>
  dMap v1 (fun p2 =>
  semW Tryz.prog (Instr.range 189 (Value.map p2)) (pnR R) H (fun v5 H6 =>
  ∃ I7 : List Value → Heap → Prop,
  ∃ I8 : List Value → Heap → Nat,
  (I7 [] H6) ∧
  ∀ v9 v10 v11 v12 v13 v14 v15 v16 v17 : Value,
  ∀ H18 : Heap,
  (I7 [] H18) →
  semW Tryz.prog (Instr.next v5 false 0) (pnR R) H18 (fun v22 H23 =>
  dNx v22 (R (Ending.returned (Value.tuple #[])) H23) (fun v24 v25 =>
  semW Tryz.prog (Instr.entry v5) (pnR R) H23 (fun v28 H29 =>
  dT 2 v28 (fun v30 v31 =>
  dInt IntKind.i64 v30 (fun n32 =>
  gB (plainFn Tryz.prog x0g) (HCalls Tryz.prog x0g (argsOf x0f [Value.int IntKind.i64 n32] x0c) H29 (Sp.retK (fun v33 H34 =>
  dBl v33 (fun b35 =>
  sB (!b35) (R (Ending.returned (Value.tuple #[])) H34) ((I7 [] H34) ∧
  (I8 [] H34) < (I8 [] H18)))) (pnR R)))))))))))
theorem F217_eq (x0g : Nat) (x0f : Array Value) (x0c : Array Value) (f0 : Addr) (R : Ending → Heap → Prop) (H : Heap) : F217 x0g x0f x0c f0 R H = vc Tryz.prog (codeOf Tryz.f217) (.node none .leaf (.node none (.node (some ⟨[], [3, 6, 7, 8, 9, 10, 11, 12, 13]⟩) .leaf .leaf) .leaf)) (postV Tryz.prog Tryz.f217 R) ⟨#[Value.func (Fn.func x0g) x0f x0c, Value.pointer (some f0)] ++ Array.replicate (Tryz.f217.ntmps - 2) undef, []⟩ H := by kernel_rfl
theorem F217_calls {R : Ending → Heap → Prop} {H : Heap} (x0g : Nat) (x0f : Array Value) (x0c : Array Value) (f0 : Addr) (h : F217 x0g x0f x0c f0 R H) : HCalls Tryz.prog 217 #[Value.func (Fn.func x0g) x0f x0c, Value.pointer (some f0)] H R :=
  calls_by (F := F217 x0g x0f x0c f0 R H) (.node none .leaf (.node none (.node (some ⟨[], [3, 6, 7, 8, 9, 10, 11, 12, 13]⟩) .leaf .leaf) .leaf)) Tryz.func217 rfl (F217_eq x0g x0f x0c f0 R H) h
/-- slices.Index[[]int,int] -/
def F218 (x0a : Option Addr) (x0n : Nat) (x0c : Nat) (x1 : Int) (R : Ending → Heap → Prop) (H : Heap) : Prop :=
  ∃ I1 : List Value → Heap → Prop,
  ∃ I2 : List Value → Heap → Nat,
  (I1 ([Value.int IntKind.i64 0]) H) ∧
  ∀ n3 : Int,
  ∀ v4 v5 v6 v7 v8 v9 v10 v11 v12 v13 v14 v15 : Value,
  ∀ H16 : Heap,
  (I1 ([Value.int IntKind.i64 n3]) H16) →
  sB (decide (n3 < (↑x0n : Int))) (nz x0a (fun a18 =>
  ask ((0 : Int) ≤ n3 ∧ n3 < (↑x0n : Int)) (ld H16 (Addr.add a18 (Int.toNat n3 * 1)) (fun v19 =>
  dInt IntKind.i64 v19 (fun n20 =>
  sB (x1 == n20) (R (Ending.returned (Value.int IntKind.i64 n3)) H16) (wr IntKind.i64 (n3 + 1) (fun n21 =>
  (I1 ([Value.int IntKind.i64 n21]) H16) ∧
  (I2 [Value.int IntKind.i64 n21] H16) < (I2 [Value.int IntKind.i64 n3] H16)))))))) (R (Ending.returned (Value.int IntKind.i64 (-1))) H16)
theorem F218_eq (x0a : Option Addr) (x0n : Nat) (x0c : Nat) (x1 : Int) (R : Ending → Heap → Prop) (H : Heap) : F218 x0a x0n x0c x1 R H = vc Tryz.prog (codeOf Tryz.f218) (.node none .leaf (.node none (.node none .leaf (.node none (.node (some ⟨[(8, 3)], [4, 5, 9, 10, 11, 12, 13, 14, 15, 16, 17, 18]⟩) .leaf .leaf) .leaf)) .leaf)) (postV Tryz.prog Tryz.f218 R) ⟨#[Value.slice x0a x0n x0c, Value.int IntKind.i64 x1] ++ Array.replicate (Tryz.f218.ntmps - 2) undef, []⟩ H := by kernel_rfl
theorem F218_calls {R : Ending → Heap → Prop} {H : Heap} (x0a : Option Addr) (x0n : Nat) (x0c : Nat) (x1 : Int) (h : F218 x0a x0n x0c x1 R H) : HCalls Tryz.prog 218 #[Value.slice x0a x0n x0c, Value.int IntKind.i64 x1] H R :=
  calls_by (F := F218 x0a x0n x0c x1 R H) (.node none .leaf (.node none (.node none .leaf (.node none (.node (some ⟨[(8, 3)], [4, 5, 9, 10, 11, 12, 13, 14, 15, 16, 17, 18]⟩) .leaf .leaf) .leaf)) .leaf)) Tryz.func218 rfl (F218_eq x0a x0n x0c x1 R H) h
/-- maps.Keys[map[int]bollard/api.Patch,int,bollard/api.Patch] -/
def F219 (x0 : Option Nat) (R : Ending → Heap → Prop) (H : Heap) : Prop :=
  al H (Obj.cells #[Value.map x0] 190) (fun r1 H2 =>
  R (Ending.returned (Value.func (Fn.func 259) #[] #[Value.pointer (some (Addr.mk r1 0 none))])) H2)
theorem F219_eq (x0 : Option Nat) (R : Ending → Heap → Prop) (H : Heap) : F219 x0 R H = vc Tryz.prog (codeOf Tryz.f219) .leaf (postV Tryz.prog Tryz.f219 R) ⟨#[Value.map x0] ++ Array.replicate (Tryz.f219.ntmps - 1) undef, []⟩ H := by kernel_rfl
theorem F219_calls {R : Ending → Heap → Prop} {H : Heap} (x0 : Option Nat) (h : F219 x0 R H) : HCalls Tryz.prog 219 #[Value.map x0] H R :=
  calls_by (F := F219 x0 R H) .leaf Tryz.func219 rfl (F219_eq x0 R H) h
/-- bollard/bollardref03.may -/
def F223 (x0_0 : Value) (x0_1 : Value) (x0_2 : Value) (R : Ending → Heap → Prop) (H : Heap) : Prop :=
  al H (Obj.cells #[x0_0, x0_1, x0_2] 32) (fun r1 H2 =>
  ld H2 (Addr.mk r1 0 none) (fun v3 =>
  dInt IntKind.i64 v3 (fun n4 =>
  sB (decide (n4 ≥ 1)) (ld H2 (Addr.mk r1 0 none) (fun v5 =>
  dInt IntKind.i64 v5 (fun n6 =>
  sB (decide (n6 ≤ 8)) (ld H2 (Addr.mk r1 1 none) (fun v7 =>
  dInt IntKind.i64 v7 (fun n8 =>
  sB (decide (n8 ≥ 8)) (ld H2 (Addr.mk r1 1 none) (fun v9 =>
  dInt IntKind.i64 v9 (fun n10 =>
  sB (decide (n10 ≤ 256)) (ld H2 (Addr.mk r1 2 none) (fun v11 =>
  dInt IntKind.i64 v11 (fun n12 =>
  sB (decide (n12 ≥ 4)) (ld H2 (Addr.mk r1 2 none) (fun v13 =>
  dInt IntKind.i64 v13 (fun n14 =>
  sB (decide (n14 ≤ 64)) (ld H2 (Addr.mk r1 2 none) (fun v15 =>
  dInt IntKind.i64 v15 (fun n16 =>
  ask ((4 : Int) ≠ (0 : Int)) (nm (Int.tmod n16 4) (fun n17 =>
  sB (n17 == 0) (ld H2 (Addr.mk r1 1 none) (fun v18 =>
  dInt IntKind.i64 v18 (fun n19 =>
  ld H2 (Addr.mk r1 2 none) (fun v20 =>
  dInt IntKind.i64 v20 (fun n21 =>
  ask ((4 : Int) ≠ (0 : Int)) (wr IntKind.i64 (Int.tdiv n21 4) (fun n22 =>
  wr IntKind.i64 (3 + n22) (fun n23 =>
  R (Ending.returned (Value.bool (decide (n19 ≥ n23)))) H2)))))))) (R (Ending.returned (Value.bool false)) H2)))))) (R (Ending.returned (Value.bool false)) H2)))) (R (Ending.returned (Value.bool false)) H2)))) (R (Ending.returned (Value.bool false)) H2)))) (R (Ending.returned (Value.bool false)) H2)))) (R (Ending.returned (Value.bool false)) H2)))) (R (Ending.returned (Value.bool false)) H2))))
theorem F223_eq (x0_0 : Value) (x0_1 : Value) (x0_2 : Value) (R : Ending → Heap → Prop) (H : Heap) : F223 x0_0 x0_1 x0_2 R H = vc Tryz.prog (codeOf Tryz.f223) .leaf (postV Tryz.prog Tryz.f223 R) ⟨#[Value.agg #[x0_0, x0_1, x0_2]] ++ Array.replicate (Tryz.f223.ntmps - 1) undef, []⟩ H := by kernel_rfl
theorem F223_calls {R : Ending → Heap → Prop} {H : Heap} (x0_0 : Value) (x0_1 : Value) (x0_2 : Value) (h : F223 x0_0 x0_1 x0_2 R H) : HCalls Tryz.prog 223 #[Value.agg #[x0_0, x0_1, x0_2]] H R :=
  calls_by (F := F223 x0_0 x0_1 x0_2 R H) .leaf Tryz.func223 rfl (F223_eq x0_0 x0_1 x0_2 R H) h
/-- bollard/bollardref05.Has -/
def F224 (x0a : Option Addr) (x0n : Nat) (x0c : Nat) (x1 : Int) (R : Ending → Heap → Prop) (H : Heap) : Prop :=
  sB (decide (x1 ≥ 0)) (ask ((8 : Int) ≠ (0 : Int)) (wr IntKind.i64 (Int.tdiv x1 8) (fun n1 =>
  sB (decide (n1 < (↑x0n : Int))) (ask ((8 : Int) ≠ (0 : Int)) (wr IntKind.i64 (Int.tdiv x1 8) (fun n2 =>
  nz x0a (fun a3 =>
  ask ((0 : Int) ≤ n2 ∧ n2 < (↑x0n : Int)) (ld H (Addr.add a3 (Int.toNat n2 * 1)) (fun v4 =>
  dInt IntKind.u8 v4 (fun n5 =>
  ask ((8 : Int) ≠ (0 : Int)) (nm (Int.tmod x1 8) (fun n6 =>
  ask ((0 : Int) ≤ n6) (nm (Int.fdiv n5 (2 ^ min (Int.toNat n6) 8)) (fun n7 =>
  ask ((2 : Int) ≠ (0 : Int)) (nm (Int.tmod n7 2) (fun n8 =>
  R (Ending.returned (Value.bool (n8 == 1))) H))))))))))))) (R (Ending.returned (Value.bool false)) H)))) (R (Ending.returned (Value.bool false)) H)
theorem F224_eq (x0a : Option Addr) (x0n : Nat) (x0c : Nat) (x1 : Int) (R : Ending → Heap → Prop) (H : Heap) : F224 x0a x0n x0c x1 R H = vc Tryz.prog (codeOf Tryz.f224) .leaf (postV Tryz.prog Tryz.f224 R) ⟨#[Value.slice x0a x0n x0c, Value.int IntKind.i64 x1] ++ Array.replicate (Tryz.f224.ntmps - 2) undef, []⟩ H := by kernel_rfl
theorem F224_calls {R : Ending → Heap → Prop} {H : Heap} (x0a : Option Addr) (x0n : Nat) (x0c : Nat) (x1 : Int) (h : F224 x0a x0n x0c x1 R H) : HCalls Tryz.prog 224 #[Value.slice x0a x0n x0c, Value.int IntKind.i64 x1] H R :=
  calls_by (F := F224 x0a x0n x0c x1 R H) .leaf Tryz.func224 rfl (F224_eq x0a x0n x0c x1 R H) h
/-- bollard/bollardref03.address -/
def F225 (x0 : Int) (R : Ending → Heap → Prop) (H : Heap) : Prop :=
  sB (decide (x0 ≥ 0)) (R (Ending.returned (Value.bool (decide (x0 < 2048)))) H) (R (Ending.returned (Value.bool false)) H)
theorem F225_eq (x0 : Int) (R : Ending → Heap → Prop) (H : Heap) : F225 x0 R H = vc Tryz.prog (codeOf Tryz.f225) .leaf (postV Tryz.prog Tryz.f225 R) ⟨#[Value.int IntKind.i64 x0] ++ Array.replicate (Tryz.f225.ntmps - 1) undef, []⟩ H := by kernel_rfl
theorem F225_calls {R : Ending → Heap → Prop} {H : Heap} (x0 : Int) (h : F225 x0 R H) : HCalls Tryz.prog 225 #[Value.int IntKind.i64 x0] H R :=
  calls_by (F := F225 x0 R H) .leaf Tryz.func225 rfl (F225_eq x0 R H) h
/-- bollard/bollardref01.Put -/
def F226 (x0a : Option Addr) (x0n : Nat) (x0c : Nat) (x1 : Int) (x2 : Int) (x3 : Int) (R : Ending → Heap → Prop) (H : Heap) : Prop :=
  jn (α := VFH 1) (fun v1 H2 =>
  ∀ v3 v4 v5 v6 v7 v8 v9 v10 v11 v12 v13 v14 v15 v16 v17 v18 v19 v20 v21 v22 : Value,
  dBl v1 (fun b23 =>
  sB b23 (R (Ending.returned (Value.tuple #[Value.slice none 0 0, Value.int IntKind.i64 1])) H2) (wr IntKind.i64 ((↑x0n : Int) - x2) (fun n24 =>
  sB (decide (x1 > n24)) (R (Ending.returned (Value.tuple #[Value.slice none 0 0, Value.int IntKind.i64 10])) H2) (al H2 (Obj.cells #[] 5) (fun r25 H26 =>
  semW Tryz.prog (Builtin.append_ #[38, 38] 38 #[Value.slice (some (Addr.mk r25 0 none)) 0 0, Value.slice x0a x0n x0c]) (pnR R) H26 (fun v29 H30 =>
  dSl v29 (fun p31 r32 r33 =>
  ∃ I34 : List Value → Heap → Prop,
  ∃ I35 : List Value → Heap → Nat,
  (I34 ([Value.int IntKind.i64 x3, Value.int IntKind.i64 0]) H30) ∧
  ∀ n36 : Int,
  ∀ n37 : Int,
  ∀ v38 v39 v40 v41 v42 v43 v44 v45 v46 v47 v48 v49 v50 v51 : Value,
  ∀ H52 : Heap,
  (I34 ([Value.int IntKind.i64 n36, Value.int IntKind.i64 n37]) H52) →
  sB (decide (n37 < x2)) (wr IntKind.i64 (x1 + n37) (fun n54 =>
  ask ((256 : Int) ≠ (0 : Int)) (nm (Int.tmod n36 256) (fun n55 =>
  wr IntKind.u8 n55 (fun n56 =>
  nz p31 (fun a57 =>
  ask ((0 : Int) ≤ n54 ∧ n54 < (↑r32 : Int)) (st H52 (Addr.add a57 (Int.toNat n54 * 1)) (Value.int IntKind.u8 n56) (fun H58 =>
  ask ((256 : Int) ≠ (0 : Int)) (wr IntKind.i64 (Int.tdiv n36 256) (fun n59 =>
  wr IntKind.i64 (n37 + 1) (fun n60 =>
  (I34 ([Value.int IntKind.i64 n59, Value.int IntKind.i64 n60]) H58) ∧
  (I35 [Value.int IntKind.i64 n59, Value.int IntKind.i64 n60] H58) < (I35 [Value.int IntKind.i64 n36, Value.int IntKind.i64 n37] H52)))))))))))) (R (Ending.returned (Value.tuple #[Value.slice p31 r32 r33, Value.int IntKind.i64 0])) H52))))))))) (fun k61 =>
  sB (decide (x2 < 1)) (k61 (Value.bool true) H) (sB (decide (x2 > 4)) (k61 (Value.bool true) H) (sB (decide (x1 < 0)) (k61 (Value.bool true) H) (sB (decide (x3 < 0)) (k61 (Value.bool true) H) (wr IntKind.i64 (8 * x2) (fun n62 =>
  ask ((0 : Int) ≤ n62) (nm (IntKind.wrap IntKind.i64 (1 * 2 ^ min (Int.toNat n62) 64)) (fun n63 =>
  k61 (Value.bool (decide (x3 ≥ n63))) H))))))))
theorem F226_eq (x0a : Option Addr) (x0n : Nat) (x0c : Nat) (x1 : Int) (x2 : Int) (x3 : Int) (R : Ending → Heap → Prop) (H : Heap) : F226 x0a x0n x0c x1 x2 x3 R H = vc Tryz.prog (codeOf Tryz.f226) (.node none .leaf (.node none (.node (some ⟨[(32, 4)], [12, 13, 14, 15, 16, 17, 18, 19, 20, 21, 22, 23, 24, 25, 26, 27, 28, 29, 30, 31]⟩) .leaf .leaf) (.node none .leaf (.node none .leaf (.node none (.node none .leaf (.node none (.node (some ⟨[(3, 3), (43, 3)], [11, 44, 45, 46, 47, 48, 49, 50, 51, 52, 53, 54, 55, 56]⟩) .leaf .leaf) .leaf)) .leaf))))) (postV Tryz.prog Tryz.f226 R) ⟨#[Value.slice x0a x0n x0c, Value.int IntKind.i64 x1, Value.int IntKind.i64 x2, Value.int IntKind.i64 x3] ++ Array.replicate (Tryz.f226.ntmps - 4) undef, []⟩ H := by kernel_rfl
theorem F226_calls {R : Ending → Heap → Prop} {H : Heap} (x0a : Option Addr) (x0n : Nat) (x0c : Nat) (x1 : Int) (x2 : Int) (x3 : Int) (h : F226 x0a x0n x0c x1 x2 x3 R H) : HCalls Tryz.prog 226 #[Value.slice x0a x0n x0c, Value.int IntKind.i64 x1, Value.int IntKind.i64 x2, Value.int IntKind.i64 x3] H R :=
  calls_by (F := F226 x0a x0n x0c x1 x2 x3 R H) (.node none .leaf (.node none (.node (some ⟨[(32, 4)], [12, 13, 14, 15, 16, 17, 18, 19, 20, 21, 22, 23, 24, 25, 26, 27, 28, 29, 30, 31]⟩) .leaf .leaf) (.node none .leaf (.node none .leaf (.node none (.node none .leaf (.node none (.node (some ⟨[(3, 3), (43, 3)], [11, 44, 45, 46, 47, 48, 49, 50, 51, 52, 53, 54, 55, 56]⟩) .leaf .leaf) .leaf)) .leaf))))) Tryz.func226 rfl (F226_eq x0a x0n x0c x1 x2 x3 R H) h
/-- bollard/bollardref01.Sum -/
def F227 (x0a : Option Addr) (x0n : Nat) (x0c : Nat) (R : Ending → Heap → Prop) (H : Heap) : Prop :=
  ∃ I1 : List Value → Heap → Prop,
  ∃ I2 : List Value → Heap → Nat,
  (I1 ([Value.int IntKind.i64 1, Value.int IntKind.i64 0, Value.int IntKind.i64 0]) H) ∧
  ∀ n3 : Int,
  ∀ n4 : Int,
  ∀ n5 : Int,
  ∀ v6 v7 v8 v9 v10 v11 v12 v13 v14 v15 v16 v17 v18 v19 : Value,
  ∀ H20 : Heap,
  (I1 ([Value.int IntKind.i64 n3, Value.int IntKind.i64 n4, Value.int IntKind.i64 n5]) H20) →
  sB (decide (n5 < (↑x0n : Int))) (nz x0a (fun a22 =>
  ask ((0 : Int) ≤ n5 ∧ n5 < (↑x0n : Int)) (ld H20 (Addr.add a22 (Int.toNat n5 * 1)) (fun v23 =>
  dInt IntKind.u8 v23 (fun n24 =>
  wr IntKind.i64 n24 (fun n25 =>
  wr IntKind.i64 (n3 + n25) (fun n26 =>
  ask ((65521 : Int) ≠ (0 : Int)) (nm (Int.tmod n26 65521) (fun n27 =>
  wr IntKind.i64 (n4 + n27) (fun n28 =>
  ask ((65521 : Int) ≠ (0 : Int)) (nm (Int.tmod n28 65521) (fun n29 =>
  wr IntKind.i64 (n5 + 1) (fun n30 =>
  (I1 ([Value.int IntKind.i64 n27, Value.int IntKind.i64 n29, Value.int IntKind.i64 n30]) H20) ∧
  (I2 [Value.int IntKind.i64 n27, Value.int IntKind.i64 n29, Value.int IntKind.i64 n30] H20) < (I2 [Value.int IntKind.i64 n3, Value.int IntKind.i64 n4, Value.int IntKind.i64 n5] H20)))))))))))))) (wr IntKind.i64 (n4 * 65536) (fun n31 =>
  wr IntKind.i64 (n31 + n3) (fun n32 =>
  R (Ending.returned (Value.int IntKind.i64 n32)) H20)))
theorem F227_eq (x0a : Option Addr) (x0n : Nat) (x0c : Nat) (R : Ending → Heap → Prop) (H : Heap) : F227 x0a x0n x0c R H = vc Tryz.prog (codeOf Tryz.f227) (.node none .leaf (.node none .leaf (.node none (.node none .leaf (.node none (.node (some ⟨[(3, 3), (4, 3), (9, 3)], [6, 10, 11, 12, 13, 14, 15, 16, 17, 18, 19, 20, 21, 22]⟩) .leaf .leaf) .leaf)) .leaf))) (postV Tryz.prog Tryz.f227 R) ⟨#[Value.slice x0a x0n x0c] ++ Array.replicate (Tryz.f227.ntmps - 1) undef, []⟩ H := by kernel_rfl
theorem F227_calls {R : Ending → Heap → Prop} {H : Heap} (x0a : Option Addr) (x0n : Nat) (x0c : Nat) (h : F227 x0a x0n x0c R H) : HCalls Tryz.prog 227 #[Value.slice x0a x0n x0c] H R :=
  calls_by (F := F227 x0a x0n x0c R H) (.node none .leaf (.node none .leaf (.node none (.node none .leaf (.node none (.node (some ⟨[(3, 3), (4, 3), (9, 3)], [6, 10, 11, 12, 13, 14, 15, 16, 17, 18, 19, 20, 21, 22]⟩) .leaf .leaf) .leaf)) .leaf))) Tryz.func227 rfl (F227_eq x0a x0n x0c R H) h
/-- bollard/bollardref03.IsName -/
def F228 (x0 : ByteArray) (R : Ending → Heap → Prop) (H : Heap) : Prop :=
  jn (α := VFH 1) (fun v1 H2 =>
  ∀ v3 v4 v5 v6 v7 v8 v9 v10 v11 v12 v13 v14 v15 v16 : Value,
  dBl v1 (fun b17 =>
  sB b17 (R (Ending.returned (Value.bool false)) H2) (∃ I18 : List Value → Heap → Prop,
  ∃ I19 : List Value → Heap → Nat,
  (I18 ([Value.int IntKind.i64 0]) H2) ∧
  ∀ n20 : Int,
  ∀ v21 v22 v23 v24 v25 v26 v27 v28 v29 v30 v31 v32 v33 v34 v35 v36 v37 v38 v39 v40 v41 v42 v43 : Value,
  ∀ H44 : Heap,
  (I18 ([Value.int IntKind.i64 n20]) H44) →
  sB (decide (n20 < (↑(ByteArray.size x0) : Int))) (jn (α := VFH 1) (fun v46 H47 =>
  ∀ v48 v49 v50 v51 v52 v53 v54 v55 v56 v57 v58 v59 v60 v61 v62 : Value,
  dBl v46 (fun b63 =>
  sB b63 (R (Ending.returned (Value.bool false)) H47) (wr IntKind.i64 (n20 + 1) (fun n64 =>
  (I18 ([Value.int IntKind.i64 n64]) H47) ∧
  (I19 [Value.int IntKind.i64 n64] H47) < (I19 [Value.int IntKind.i64 n20] H44))))) (fun k65 =>
  ask ((0 : Int) ≤ n20 ∧ n20 < (↑(ByteArray.size x0) : Int)) (sB (decide (byteAt x0 (Int.toNat n20) < 33)) (k65 (Value.bool true) H44) (ask ((0 : Int) ≤ n20 ∧ n20 < (↑(ByteArray.size x0) : Int)) (sB (decide (byteAt x0 (Int.toNat n20) > 126)) (k65 (Value.bool true) H44) (ask ((0 : Int) ≤ n20 ∧ n20 < (↑(ByteArray.size x0) : Int)) (k65 (Value.bool (byteAt x0 (Int.toNat n20) == 47)) H44))))))) (R (Ending.returned (Value.bool true)) H44)))) (fun k66 =>
  sB (ByteArray.toList x0 == []) (k66 (Value.bool true) H) (sB (decide ((↑(ByteArray.size x0) : Int) > 13)) (k66 (Value.bool true) H) (sB (ByteArray.toList x0 == [UInt8.ofBitVec 46#8]) (k66 (Value.bool true) H) (k66 (Value.bool (ByteArray.toList x0 == [UInt8.ofBitVec 46#8, UInt8.ofBitVec 46#8])) H))))
theorem F228_eq (x0 : ByteArray) (R : Ending → Heap → Prop) (H : Heap) : F228 x0 R H = vc Tryz.prog (codeOf Tryz.f228) (.node none .leaf (.node none (.node (some ⟨[(18, 4)], [4, 5, 6, 7, 8, 9, 10, 11, 12, 13, 14, 15, 16, 17]⟩) .leaf .leaf) (.node none (.node none .leaf (.node none (.node (some ⟨[(3, 3)], [2, 19, 20, 21, 22, 23, 24, 25, 26, 27, 28, 29, 30, 31, 32, 33, 34, 35, 36, 37, 38, 39, 40]⟩) (.node none .leaf (.node none (.node none (.node (some ⟨[(40, 4)], [25, 26, 27, 28, 29, 30, 31, 32, 33, 34, 35, 36, 37, 38, 39]⟩) .leaf .leaf) .leaf) .leaf)) .leaf) .leaf)) .leaf))) (postV Tryz.prog Tryz.f228 R) ⟨#[Value.string x0] ++ Array.replicate (Tryz.f228.ntmps - 1) undef, []⟩ H := by kernel_rfl
theorem F228_calls {R : Ending → Heap → Prop} {H : Heap} (x0 : ByteArray) (h : F228 x0 R H) : HCalls Tryz.prog 228 #[Value.string x0] H R :=
  calls_by (F := F228 x0 R H) (.node none .leaf (.node none (.node (some ⟨[(18, 4)], [4, 5, 6, 7, 8, 9, 10, 11, 12, 13, 14, 15, 16, 17]⟩) .leaf .leaf) (.node none (.node none .leaf (.node none (.node (some ⟨[(3, 3)], [2, 19, 20, 21, 22, 23, 24, 25, 26, 27, 28, 29, 30, 31, 32, 33, 34, 35, 36, 37, 38, 39, 40]⟩) (.node none .leaf (.node none (.node none (.node (some ⟨[(40, 4)], [25, 26, 27, 28, 29, 30, 31, 32, 33, 34, 35, 36, 37, 38, 39]⟩) .leaf .leaf) .leaf) .leaf)) .leaf) .leaf)) .leaf))) Tryz.func228 rfl (F228_eq x0 R H) h
/-- (*bollard/cache.Cache).load -/
def F231 (x0 : Option Addr) (x1 : Int) (R : Ending → Heap → Prop) (H : Heap) : Prop :=
  nz x0 (fun a1 =>
  ld H (Addr.add a1 2) (fun v2 =>
  dMap v2 (fun p3 =>
  nz x0 (fun a4 =>
  ld H (Addr.add a4 1) (fun v5 =>
  dInt IntKind.i64 v5 (fun n6 =>
  semW Tryz.prog (Builtin.len_ #[201] 3 #[Value.map p3]) nopR H (fun v9 H10 =>
  dInt IntKind.i64 v9 (fun n11 =>
  (ld H10 (Addr.add a4 1) (fun v12 =>
  dInt IntKind.i64 v12 (fun n13 =>
  (Value.int IntKind.i64 n13) = (Value.int IntKind.i64 n6)))) ∧
  HCalls Tryz.prog 265 #[Value.pointer x0] H10 (Sp.retK (fun v14 H15 =>
  dT 2 v14 (fun v16 v17 =>
  dInt IntKind.i64 v16 (fun n18 =>
  dBl v17 (fun b19 =>
  jn (α := VFH 1) (fun v20 H21 =>
  ∀ v22 v23 v24 v25 : Value,
  dBl v20 (fun b26 =>
  sB b26 (R (Ending.returned (Value.tuple #[Value.pointer none, Value.int IntKind.i64 60])) H21) (nz x0 (fun a27 =>
  ld H21 a27 (fun v28 =>
  dPtr v28 (fun p29 =>
  HCalls Tryz.prog 266 #[Value.pointer p29, Value.int IntKind.i64 x1] H21 (Sp.retK (fun v30 H31 =>
  dT 2 v30 (fun v32 v33 =>
  dSl v32 (fun p34 r35 r36 =>
  dInt IntKind.i64 v33 (fun n37 =>
  sB (n37 != 0) (R (Ending.returned (Value.tuple #[Value.pointer none, Value.int IntKind.i64 n37])) H31) (jn (α := VFH 0) (fun H38 =>
  ∀ v39 v40 v41 v42 v43 v44 : Value,
  nz x0 (fun a45 =>
  ld H38 (Addr.add a45 2) (fun v46 =>
  dMap v46 (fun p47 =>
  al H38 (Obj.cells #[Value.slice p34 r35 r36, Value.int IntKind.i64 0, Value.int IntKind.i64 0] 258) (fun r48 H49 =>
  semW Tryz.prog (Instr.mapUpdate 201 (Value.map p47) (Value.int IntKind.i64 x1) (Value.pointer (some (Addr.mk r48 0 none)))) (pnR R) H49 (fun x52 H53 =>
  nz x0 (fun a54 =>
  ld H53 (Addr.add a54 2) (fun v55 =>
  dMap v55 (fun p56 =>
  semW Tryz.prog (Instr.lookup 201 (Value.map p56) (Value.int IntKind.i64 x1) false) (pnR R) H53 (fun v59 H60 =>
  dPtr v59 (fun p61 =>
  R (Ending.returned (Value.tuple #[Value.pointer p61, Value.int IntKind.i64 0])) H60))))))))))) (fun k62 =>
  sB (decide (n11 ≥ n6)) (nz x0 (fun a63 =>
  ld H31 (Addr.add a63 2) (fun v64 =>
  dMap v64 (fun p65 =>
  semW Tryz.prog (Builtin.delete_ #[201, 3] 0 #[Value.map p65, Value.int IntKind.i64 n18]) (pnR R) H31 (fun v68 H69 =>
  k62 H69))))) (k62 H31))))))) (pnR R)))))))) (fun k72 =>
  sB (decide (n11 ≥ n6)) (k72 (Value.bool !b19) H15) (k72 (Value.bool false) H15)))))) (pnR R))))))))))
theorem F231_eq (x0 : Option Addr) (x1 : Int) (R : Ending → Heap → Prop) (H : Heap) : F231 x0 x1 R H = vc Tryz.prog (codeOf Tryz.f231) (.node none .leaf (.node none .leaf (.node none .leaf (.node none (.node (some ⟨[(30, 4)], [26, 27, 28, 29]⟩) .leaf .leaf) (.node none .leaf (.node none .leaf (.node (some ⟨[], [43, 44, 45, 46, 47, 48]⟩) .leaf .leaf))))))) (postV Tryz.prog Tryz.f231 R) ⟨#[Value.pointer x0, Value.int IntKind.i64 x1] ++ Array.replicate (Tryz.f231.ntmps - 2) undef, []⟩ H := by kernel_rfl
theorem F231_calls {R : Ending → Heap → Prop} {H : Heap} (x0 : Option Addr) (x1 : Int) (h : F231 x0 x1 R H) : HCalls Tryz.prog 231 #[Value.pointer x0, Value.int IntKind.i64 x1] H R :=
  calls_by (F := F231 x0 x1 R H) (.node none .leaf (.node none .leaf (.node none .leaf (.node none (.node (some ⟨[(30, 4)], [26, 27, 28, 29]⟩) .leaf .leaf) (.node none .leaf (.node none .leaf (.node (some ⟨[], [43, 44, 45, 46, 47, 48]⟩) .leaf .leaf))))))) Tryz.func231 rfl (F231_eq x0 x1 R H) h
/-- bollard/layout.full -/
def F232 (x0a : Option Addr) (x0n : Nat) (x0c : Nat) (x1 : Int) (R : Ending → Heap → Prop) (H : Heap) : Prop :=
  ask ((0 : Int) ≤ x1 ∧ x1 ≤ x1 ∧ (1 : Int) * x1 ≤ (281474976710656 : Int) ∧ x1 ≤ (9223372036854775807 : Int)) (al H (Obj.cells (List.toArray (rowZ [Value.int IntKind.u8 0] (Int.toNat x1))) 5) (fun r1 H2 =>
  semW Tryz.prog (Builtin.copy_ #[38, 38] 3 #[Value.slice (some (Addr.mk r1 0 none)) (Int.toNat x1) (Int.toNat x1), Value.slice x0a x0n x0c]) (pnR R) H2 (fun v5 H6 =>
  dInt IntKind.i64 v5 (fun n7 =>
  ask ((0 : Int) ≤ (0 : Int) ∧ (0 : Int) ≤ x1 ∧ x1 ≤ x1 ∧ x1 ≤ (↑(Int.toNat x1) : Int)) (R (Ending.returned (Value.slice (slO (some (Addr.mk r1 0 none)) 1 0 x1) (Int.toNat x1 - Int.toNat 0) (Int.toNat x1 - Int.toNat 0))) H6)))))
theorem F232_eq (x0a : Option Addr) (x0n : Nat) (x0c : Nat) (x1 : Int) (R : Ending → Heap → Prop) (H : Heap) : F232 x0a x0n x0c x1 R H = vc Tryz.prog (codeOf Tryz.f232) .leaf (postV Tryz.prog Tryz.f232 R) ⟨#[Value.slice x0a x0n x0c, Value.int IntKind.i64 x1] ++ Array.replicate (Tryz.f232.ntmps - 2) undef, []⟩ H := by kernel_rfl
theorem F232_calls {R : Ending → Heap → Prop} {H : Heap} (x0a : Option Addr) (x0n : Nat) (x0c : Nat) (x1 : Int) (h : F232 x0a x0n x0c x1 R H) : HCalls Tryz.prog 232 #[Value.slice x0a x0n x0c, Value.int IntKind.i64 x1] H R :=
  calls_by (F := F232 x0a x0n x0c x1 R H) .leaf Tryz.func232 rfl (F232_eq x0a x0n x0c x1 R H) h
/-- (*bollard/patch.Set).free$1 -/
def F233 (x0 : Int) (f0 : Addr) (R : Ending → Heap → Prop) (H : Heap) : Prop :=
  ld H f0 (fun v1 =>
  dSl v1 (fun p2 r3 r4 =>
  HCalls Tryz.prog 169 #[Value.slice p2 r3 r4, Value.int IntKind.i64 x0] H (Sp.retK (fun v5 H6 =>
  dBl v5 (fun b7 =>
  R (Ending.returned (Value.bool !b7)) H6)) (pnR R))))
theorem F233_eq (x0 : Int) (f0 : Addr) (R : Ending → Heap → Prop) (H : Heap) : F233 x0 f0 R H = vc Tryz.prog (codeOf Tryz.f233) .leaf (postV Tryz.prog Tryz.f233 R) ⟨#[Value.int IntKind.i64 x0, Value.pointer (some f0)] ++ Array.replicate (Tryz.f233.ntmps - 2) undef, []⟩ H := by kernel_rfl
theorem F233_calls {R : Ending → Heap → Prop} {H : Heap} (x0 : Int) (f0 : Addr) (h : F233 x0 f0 R H) : HCalls Tryz.prog 233 #[Value.int IntKind.i64 x0, Value.pointer (some f0)] H R :=
  calls_by (F := F233 x0 f0 R H) .leaf Tryz.func233 rfl (F233_eq x0 f0 R H) h
/-- math/bits.Mul32 -/
def F234 (x0 : Int) (x1 : Int) (R : Ending → Heap → Prop) (H : Heap) : Prop :=
  wr IntKind.u64 x0 (fun n1 =>
  wr IntKind.u64 x1 (fun n2 =>
  wr IntKind.u64 (n1 * n2) (fun n3 =>
  ask ((0 : Int) ≤ (32 : Int)) (nm (Int.fdiv n3 (2 ^ min (Int.toNat 32) 64)) (fun n4 =>
  wr IntKind.u32 n4 (fun n5 =>
  wr IntKind.u32 n3 (fun n6 =>
  R (Ending.returned (Value.tuple #[Value.int IntKind.u32 n5, Value.int IntKind.u32 n6])) H)))))))
theorem F234_eq (x0 : Int) (x1 : Int) (R : Ending → Heap → Prop) (H : Heap) : F234 x0 x1 R H = vc Tryz.prog (codeOf Tryz.f234) .leaf (postV Tryz.prog Tryz.f234 R) ⟨#[Value.int IntKind.u32 x0, Value.int IntKind.u32 x1] ++ Array.replicate (Tryz.f234.ntmps - 2) undef, []⟩ H := by kernel_rfl
theorem F234_calls {R : Ending → Heap → Prop} {H : Heap} (x0 : Int) (x1 : Int) (h : F234 x0 x1 R H) : HCalls Tryz.prog 234 #[Value.int IntKind.u32 x0, Value.int IntKind.u32 x1] H R :=
  calls_by (F := F234 x0 x1 R H) .leaf Tryz.func234 rfl (F234_eq x0 x1 R H) h
/-- math/bits.Mul64 -/
def F235 (x0 : Int) (x1 : Int) (R : Ending → Heap → Prop) (H : Heap) : Prop :=
  nm (IntKind.wrap IntKind.u64 (↑(BitVec.toNat (BitVec.ofInt 64 x0 &&& BitVec.ofInt 64 4294967295)) : Int)) (fun n1 =>
  ask ((0 : Int) ≤ (32 : Int)) (nm (Int.fdiv x0 (2 ^ min (Int.toNat 32) 64)) (fun n2 =>
  nm (IntKind.wrap IntKind.u64 (↑(BitVec.toNat (BitVec.ofInt 64 x1 &&& BitVec.ofInt 64 4294967295)) : Int)) (fun n3 =>
  ask ((0 : Int) ≤ (32 : Int)) (nm (Int.fdiv x1 (2 ^ min (Int.toNat 32) 64)) (fun n4 =>
  wr IntKind.u64 (n1 * n3) (fun n5 =>
  wr IntKind.u64 (n2 * n3) (fun n6 =>
  ask ((0 : Int) ≤ (32 : Int)) (nm (Int.fdiv n5 (2 ^ min (Int.toNat 32) 64)) (fun n7 =>
  wr IntKind.u64 (n6 + n7) (fun n8 =>
  nm (IntKind.wrap IntKind.u64 (↑(BitVec.toNat (BitVec.ofInt 64 n8 &&& BitVec.ofInt 64 4294967295)) : Int)) (fun n9 =>
  ask ((0 : Int) ≤ (32 : Int)) (nm (Int.fdiv n8 (2 ^ min (Int.toNat 32) 64)) (fun n10 =>
  wr IntKind.u64 (n1 * n4) (fun n11 =>
  wr IntKind.u64 (n9 + n11) (fun n12 =>
  wr IntKind.u64 (n2 * n4) (fun n13 =>
  wr IntKind.u64 (n13 + n10) (fun n14 =>
  ask ((0 : Int) ≤ (32 : Int)) (nm (Int.fdiv n12 (2 ^ min (Int.toNat 32) 64)) (fun n15 =>
  wr IntKind.u64 (n14 + n15) (fun n16 =>
  wr IntKind.u64 (x0 * x1) (fun n17 =>
  R (Ending.returned (Value.tuple #[Value.int IntKind.u64 n16, Value.int IntKind.u64 n17])) H))))))))))))))))))))))
theorem F235_eq (x0 : Int) (x1 : Int) (R : Ending → Heap → Prop) (H : Heap) : F235 x0 x1 R H = vc Tryz.prog (codeOf Tryz.f235) .leaf (postV Tryz.prog Tryz.f235 R) ⟨#[Value.int IntKind.u64 x0, Value.int IntKind.u64 x1] ++ Array.replicate (Tryz.f235.ntmps - 2) undef, []⟩ H := by kernel_rfl
theorem F235_calls {R : Ending → Heap → Prop} {H : Heap} (x0 : Int) (x1 : Int) (h : F235 x0 x1 R H) : HCalls Tryz.prog 235 #[Value.int IntKind.u64 x0, Value.int IntKind.u64 x1] H R :=
  calls_by (F := F235 x0 x1 R H) .leaf Tryz.func235 rfl (F235_eq x0 x1 R H) h
/-- math/bits.Len32 -/
def F245 (x0 : Int) (R : Ending → Heap → Prop) (H : Heap) : Prop :=
  jn (α := VFH 2) (fun v1 v2 H3 =>
  ∀ v4 v5 v6 v7 : Value,
  dInt IntKind.u32 v1 (fun n8 =>
  dInt IntKind.i64 v2 (fun n9 =>
  jn (α := VFH 2) (fun v10 v11 H12 =>
  ∀ v13 v14 v15 v16 v17 v18 : Value,
  dInt IntKind.u32 v10 (fun n19 =>
  dInt IntKind.i64 v11 (fun n20 =>
  wr IntKind.u8 n19 (fun n21 =>
  ask ((0 : Int) ≤ n21 ∧ n21 < (256 : Int)) (wr IntKind.i64 (byteAt (ByteArray.mk #[UInt8.ofBitVec 0#8, UInt8.ofBitVec 1#8, UInt8.ofBitVec 2#8, UInt8.ofBitVec 2#8, UInt8.ofBitVec 3#8, UInt8.ofBitVec 3#8, UInt8.ofBitVec 3#8, UInt8.ofBitVec 3#8, UInt8.ofBitVec 4#8, UInt8.ofBitVec 4#8, UInt8.ofBitVec 4#8, UInt8.ofBitVec 4#8, UInt8.ofBitVec 4#8, UInt8.ofBitVec 4#8, UInt8.ofBitVec 4#8, UInt8.ofBitVec 4#8, UInt8.ofBitVec 5#8, UInt8.ofBitVec 5#8, UInt8.ofBitVec 5#8, UInt8.ofBitVec 5#8, UInt8.ofBitVec 5#8, UInt8.ofBitVec 5#8, UInt8.ofBitVec 5#8, UInt8.ofBitVec 5#8, UInt8.ofBitVec 5#8, UInt8.ofBitVec 5#8, UInt8.ofBitVec 5#8, UInt8.ofBitVec 5#8, UInt8.ofBitVec 5#8, UInt8.ofBitVec 5#8, UInt8.ofBitVec 5#8, UInt8.ofBitVec 5#8, UInt8.ofBitVec 6#8, UInt8.ofBitVec 6#8, UInt8.ofBitVec 6#8, UInt8.ofBitVec 6#8, UInt8.ofBitVec 6#8, UInt8.ofBitVec 6#8, UInt8.ofBitVec 6#8, UInt8.ofBitVec 6#8, UInt8.ofBitVec 6#8, UInt8.ofBitVec 6#8, UInt8.ofBitVec 6#8, UInt8.ofBitVec 6#8, UInt8.ofBitVec 6#8, UInt8.ofBitVec 6#8, UInt8.ofBitVec 6#8, UInt8.ofBitVec 6#8, UInt8.ofBitVec 6#8, UInt8.ofBitVec 6#8, UInt8.ofBitVec 6#8, UInt8.ofBitVec 6#8, UInt8.ofBitVec 6#8, UInt8.ofBitVec 6#8, UInt8.ofBitVec 6#8, UInt8.ofBitVec 6#8, UInt8.ofBitVec 6#8, UInt8.ofBitVec 6#8, UInt8.ofBitVec 6#8, UInt8.ofBitVec 6#8, UInt8.ofBitVec 6#8, UInt8.ofBitVec 6#8, UInt8.ofBitVec 6#8, UInt8.ofBitVec 6#8, UInt8.ofBitVec 7#8, UInt8.ofBitVec 7#8, UInt8.ofBitVec 7#8, UInt8.ofBitVec 7#8, UInt8.ofBitVec 7#8, UInt8.ofBitVec 7#8, UInt8.ofBitVec 7#8, UInt8.ofBitVec 7#8, UInt8.ofBitVec 7#8, UInt8.ofBitVec 7#8, UInt8.ofBitVec 7#8, UInt8.ofBitVec 7#8, UInt8.ofBitVec 7#8, UInt8.ofBitVec 7#8, UInt8.ofBitVec 7#8, UInt8.ofBitVec 7#8, UInt8.ofBitVec 7#8, UInt8.ofBitVec 7#8, UInt8.ofBitVec 7#8, UInt8.ofBitVec 7#8, UInt8.ofBitVec 7#8, UInt8.ofBitVec 7#8, UInt8.ofBitVec 7#8, UInt8.ofBitVec 7#8, UInt8.ofBitVec 7#8, UInt8.ofBitVec 7#8, UInt8.ofBitVec 7#8, UInt8.ofBitVec 7#8, UInt8.ofBitVec 7#8, UInt8.ofBitVec 7#8, UInt8.ofBitVec 7#8, UInt8.ofBitVec 7#8, UInt8.ofBitVec 7#8, UInt8.ofBitVec 7#8, UInt8.ofBitVec 7#8, UInt8.ofBitVec 7#8, UInt8.ofBitVec 7#8, UInt8.ofBitVec 7#8, UInt8.ofBitVec 7#8, UInt8.ofBitVec 7#8, UInt8.ofBitVec 7#8, UInt8.ofBitVec 7#8, UInt8.ofBitVec 7#8, UInt8.ofBitVec 7#8, UInt8.ofBitVec 7#8, UInt8.ofBitVec 7#8, UInt8.ofBitVec 7#8, UInt8.ofBitVec 7#8, UInt8.ofBitVec 7#8, UInt8.ofBitVec 7#8, UInt8.ofBitVec 7#8, UInt8.ofBitVec 7#8, UInt8.ofBitVec 7#8, UInt8.ofBitVec 7#8, UInt8.ofBitVec 7#8, UInt8.ofBitVec 7#8, UInt8.ofBitVec 7#8, UInt8.ofBitVec 7#8, UInt8.ofBitVec 7#8, UInt8.ofBitVec 7#8, UInt8.ofBitVec 7#8, UInt8.ofBitVec 7#8, UInt8.ofBitVec 7#8, UInt8.ofBitVec 7#8, UInt8.ofBitVec 8#8, UInt8.ofBitVec 8#8, UInt8.ofBitVec 8#8, UInt8.ofBitVec 8#8, UInt8.ofBitVec 8#8, UInt8.ofBitVec 8#8, UInt8.ofBitVec 8#8, UInt8.ofBitVec 8#8, UInt8.ofBitVec 8#8, UInt8.ofBitVec 8#8, UInt8.ofBitVec 8#8, UInt8.ofBitVec 8#8, UInt8.ofBitVec 8#8, UInt8.ofBitVec 8#8, UInt8.ofBitVec 8#8, UInt8.ofBitVec 8#8, UInt8.ofBitVec 8#8, UInt8.ofBitVec 8#8, UInt8.ofBitVec 8#8, UInt8.ofBitVec 8#8, UInt8.ofBitVec 8#8, UInt8.ofBitVec 8#8, UInt8.ofBitVec 8#8, UInt8.ofBitVec 8#8, UInt8.ofBitVec 8#8, UInt8.ofBitVec 8#8, UInt8.ofBitVec 8#8, UInt8.ofBitVec 8#8, UInt8.ofBitVec 8#8, UInt8.ofBitVec 8#8, UInt8.ofBitVec 8#8, UInt8.ofBitVec 8#8, UInt8.ofBitVec 8#8, UInt8.ofBitVec 8#8, UInt8.ofBitVec 8#8, UInt8.ofBitVec 8#8, UInt8.ofBitVec 8#8, UInt8.ofBitVec 8#8, UInt8.ofBitVec 8#8, UInt8.ofBitVec 8#8, UInt8.ofBitVec 8#8, UInt8.ofBitVec 8#8, UInt8.ofBitVec 8#8, UInt8.ofBitVec 8#8, UInt8.ofBitVec 8#8, UInt8.ofBitVec 8#8, UInt8.ofBitVec 8#8, UInt8.ofBitVec 8#8, UInt8.ofBitVec 8#8, UInt8.ofBitVec 8#8, UInt8.ofBitVec 8#8, UInt8.ofBitVec 8#8, UInt8.ofBitVec 8#8, UInt8.ofBitVec 8#8, UInt8.ofBitVec 8#8, UInt8.ofBitVec 8#8, UInt8.ofBitVec 8#8, UInt8.ofBitVec 8#8, UInt8.ofBitVec 8#8, UInt8.ofBitVec 8#8, UInt8.ofBitVec 8#8, UInt8.ofBitVec 8#8, UInt8.ofBitVec 8#8, UInt8.ofBitVec 8#8, UInt8.ofBitVec 8#8, UInt8.ofBitVec 8#8, UInt8.ofBitVec 8#8, UInt8.ofBitVec 8#8, UInt8.ofBitVec 8#8, UInt8.ofBitVec 8#8, UInt8.ofBitVec 8#8, UInt8.ofBitVec 8#8, UInt8.ofBitVec 8#8, UInt8.ofBitVec 8#8, UInt8.ofBitVec 8#8, UInt8.ofBitVec 8#8, UInt8.ofBitVec 8#8, UInt8.ofBitVec 8#8, UInt8.ofBitVec 8#8, UInt8.ofBitVec 8#8, UInt8.ofBitVec 8#8, UInt8.ofBitVec 8#8, UInt8.ofBitVec 8#8, UInt8.ofBitVec 8#8, UInt8.ofBitVec 8#8, UInt8.ofBitVec 8#8, UInt8.ofBitVec 8#8, UInt8.ofBitVec 8#8, UInt8.ofBitVec 8#8, UInt8.ofBitVec 8#8, UInt8.ofBitVec 8#8, UInt8.ofBitVec 8#8, UInt8.ofBitVec 8#8, UInt8.ofBitVec 8#8, UInt8.ofBitVec 8#8, UInt8.ofBitVec 8#8, UInt8.ofBitVec 8#8, UInt8.ofBitVec 8#8, UInt8.ofBitVec 8#8, UInt8.ofBitVec 8#8, UInt8.ofBitVec 8#8, UInt8.ofBitVec 8#8, UInt8.ofBitVec 8#8, UInt8.ofBitVec 8#8, UInt8.ofBitVec 8#8, UInt8.ofBitVec 8#8, UInt8.ofBitVec 8#8, UInt8.ofBitVec 8#8, UInt8.ofBitVec 8#8, UInt8.ofBitVec 8#8, UInt8.ofBitVec 8#8, UInt8.ofBitVec 8#8, UInt8.ofBitVec 8#8, UInt8.ofBitVec 8#8, UInt8.ofBitVec 8#8, UInt8.ofBitVec 8#8, UInt8.ofBitVec 8#8, UInt8.ofBitVec 8#8, UInt8.ofBitVec 8#8, UInt8.ofBitVec 8#8, UInt8.ofBitVec 8#8, UInt8.ofBitVec 8#8, UInt8.ofBitVec 8#8, UInt8.ofBitVec 8#8, UInt8.ofBitVec 8#8, UInt8.ofBitVec 8#8, UInt8.ofBitVec 8#8, UInt8.ofBitVec 8#8]) (Int.toNat n21)) (fun n22 =>
  wr IntKind.i64 (n20 + n22) (fun n23 =>
  R (Ending.returned (Value.int IntKind.i64 n23)) H12))))))) (fun k24 =>
  sB (decide (n8 ≥ 256)) (ask ((0 : Int) ≤ (8 : Int)) (nm (Int.fdiv n8 (2 ^ min (Int.toNat 8) 32)) (fun n25 =>
  wr IntKind.i64 (n9 + 8) (fun n26 =>
  k24 (Value.int IntKind.u32 n25) (Value.int IntKind.i64 n26) H3)))) (k24 (Value.int IntKind.u32 n8) (Value.int IntKind.i64 n9) H3))))) (fun k27 =>
  sB (decide (x0 ≥ 65536)) (ask ((0 : Int) ≤ (16 : Int)) (nm (Int.fdiv x0 (2 ^ min (Int.toNat 16) 32)) (fun n28 =>
  k27 (Value.int IntKind.u32 n28) (Value.int IntKind.i64 16) H))) (k27 (Value.int IntKind.u32 x0) (Value.int IntKind.i64 0) H))
theorem F245_eq (x0 : Int) (R : Ending → Heap → Prop) (H : Heap) : F245 x0 R H = vc Tryz.prog (codeOf Tryz.f245) (.node none .leaf (.node (some ⟨[(0, 25), (2, 3)], [3, 4, 5, 6]⟩) .leaf (.node (some ⟨[(0, 25), (2, 3)], [7, 8, 9, 10, 11, 12]⟩) .leaf .leaf))) (postV Tryz.prog Tryz.f245 R) ⟨#[Value.int IntKind.u32 x0] ++ Array.replicate (Tryz.f245.ntmps - 1) undef, []⟩ H := by kernel_rfl
theorem F245_calls {R : Ending → Heap → Prop} {H : Heap} (x0 : Int) (h : F245 x0 R H) : HCalls Tryz.prog 245 #[Value.int IntKind.u32 x0] H R :=
  calls_by (F := F245 x0 R H) (.node none .leaf (.node (some ⟨[(0, 25), (2, 3)], [3, 4, 5, 6]⟩) .leaf (.node (some ⟨[(0, 25), (2, 3)], [7, 8, 9, 10, 11, 12]⟩) .leaf .leaf))) Tryz.func245 rfl (F245_eq x0 R H) h
/-- math/bits.Len64 -/
def F246 (x0 : Int) (R : Ending → Heap → Prop) (H : Heap) : Prop :=
  jn (α := VFH 2) (fun v1 v2 H3 =>
  ∀ v4 v5 v6 v7 : Value,
  dInt IntKind.u64 v1 (fun n8 =>
  dInt IntKind.i64 v2 (fun n9 =>
  jn (α := VFH 2) (fun v10 v11 H12 =>
  ∀ v13 v14 v15 v16 v17 v18 : Value,
  dInt IntKind.u64 v10 (fun n19 =>
  dInt IntKind.i64 v11 (fun n20 =>
  jn (α := VFH 2) (fun v21 v22 H23 =>
  ∀ v24 v25 v26 v27 v28 v29 : Value,
  dInt IntKind.u64 v21 (fun n30 =>
  dInt IntKind.i64 v22 (fun n31 =>
  wr IntKind.u8 n30 (fun n32 =>
  ask ((0 : Int) ≤ n32 ∧ n32 < (256 : Int)) (wr IntKind.i64 (byteAt (ByteArray.mk #[UInt8.ofBitVec 0#8, UInt8.ofBitVec 1#8, UInt8.ofBitVec 2#8, UInt8.ofBitVec 2#8, UInt8.ofBitVec 3#8, UInt8.ofBitVec 3#8, UInt8.ofBitVec 3#8, UInt8.ofBitVec 3#8, UInt8.ofBitVec 4#8, UInt8.ofBitVec 4#8, UInt8.ofBitVec 4#8, UInt8.ofBitVec 4#8, UInt8.ofBitVec 4#8, UInt8.ofBitVec 4#8, UInt8.ofBitVec 4#8, UInt8.ofBitVec 4#8, UInt8.ofBitVec 5#8, UInt8.ofBitVec 5#8, UInt8.ofBitVec 5#8, UInt8.ofBitVec 5#8, UInt8.ofBitVec 5#8, UInt8.ofBitVec 5#8, UInt8.ofBitVec 5#8, UInt8.ofBitVec 5#8, UInt8.ofBitVec 5#8, UInt8.ofBitVec 5#8, UInt8.ofBitVec 5#8, UInt8.ofBitVec 5#8, UInt8.ofBitVec 5#8, UInt8.ofBitVec 5#8, UInt8.ofBitVec 5#8, UInt8.ofBitVec 5#8, UInt8.ofBitVec 6#8, UInt8.ofBitVec 6#8, UInt8.ofBitVec 6#8, UInt8.ofBitVec 6#8, UInt8.ofBitVec 6#8, UInt8.ofBitVec 6#8, UInt8.ofBitVec 6#8, UInt8.ofBitVec 6#8, UInt8.ofBitVec 6#8, UInt8.ofBitVec 6#8, UInt8.ofBitVec 6#8, UInt8.ofBitVec 6#8, UInt8.ofBitVec 6#8, UInt8.ofBitVec 6#8, UInt8.ofBitVec 6#8, UInt8.ofBitVec 6#8, UInt8.ofBitVec 6#8, UInt8.ofBitVec 6#8, UInt8.ofBitVec 6#8, UInt8.ofBitVec 6#8, UInt8.ofBitVec 6#8, UInt8.ofBitVec 6#8, UInt8.ofBitVec 6#8, UInt8.ofBitVec 6#8, UInt8.ofBitVec 6#8, UInt8.ofBitVec 6#8, UInt8.ofBitVec 6#8, UInt8.ofBitVec 6#8, UInt8.ofBitVec 6#8, UInt8.ofBitVec 6#8, UInt8.ofBitVec 6#8, UInt8.ofBitVec 6#8, UInt8.ofBitVec 7#8, UInt8.ofBitVec 7#8, UInt8.ofBitVec 7#8, UInt8.ofBitVec 7#8, UInt8.ofBitVec 7#8, UInt8.ofBitVec 7#8, UInt8.ofBitVec 7#8, UInt8.ofBitVec 7#8, UInt8.ofBitVec 7#8, UInt8.ofBitVec 7#8, UInt8.ofBitVec 7#8, UInt8.ofBitVec 7#8, UInt8.ofBitVec 7#8, UInt8.ofBitVec 7#8, UInt8.ofBitVec 7#8, UInt8.ofBitVec 7#8, UInt8.ofBitVec 7#8, UInt8.ofBitVec 7#8, UInt8.ofBitVec 7#8, UInt8.ofBitVec 7#8, UInt8.ofBitVec 7#8, UInt8.ofBitVec 7#8, UInt8.ofBitVec 7#8, UInt8.ofBitVec 7#8, UInt8.ofBitVec 7#8, UInt8.ofBitVec 7#8, UInt8.ofBitVec 7#8, UInt8.ofBitVec 7#8, UInt8.ofBitVec 7#8, UInt8.ofBitVec 7#8, UInt8.ofBitVec 7#8, UInt8.ofBitVec 7#8, UInt8.ofBitVec 7#8, UInt8.ofBitVec 7#8, UInt8.ofBitVec 7#8, UInt8.ofBitVec 7#8, UInt8.ofBitVec 7#8, UInt8.ofBitVec 7#8, UInt8.ofBitVec 7#8, UInt8.ofBitVec 7#8, UInt8.ofBitVec 7#8, UInt8.ofBitVec 7#8, UInt8.ofBitVec 7#8, UInt8.ofBitVec 7#8, UInt8.ofBitVec 7#8, UInt8.ofBitVec 7#8, UInt8.ofBitVec 7#8, UInt8.ofBitVec 7#8, UInt8.ofBitVec 7#8, UInt8.ofBitVec 7#8, UInt8.ofBitVec 7#8, UInt8.ofBitVec 7#8, UInt8.ofBitVec 7#8, UInt8.ofBitVec 7#8, UInt8.ofBitVec 7#8, UInt8.ofBitVec 7#8, UInt8.ofBitVec 7#8, UInt8.ofBitVec 7#8, UInt8.ofBitVec 7#8, UInt8.ofBitVec 7#8, UInt8.ofBitVec 7#8, UInt8.ofBitVec 7#8, UInt8.ofBitVec 7#8, UInt8.ofBitVec 7#8, UInt8.ofBitVec 8#8, UInt8.ofBitVec 8#8, UInt8.ofBitVec 8#8, UInt8.ofBitVec 8#8, UInt8.ofBitVec 8#8, UInt8.ofBitVec 8#8, UInt8.ofBitVec 8#8, UInt8.ofBitVec 8#8, UInt8.ofBitVec 8#8, UInt8.ofBitVec 8#8, UInt8.ofBitVec 8#8, UInt8.ofBitVec 8#8, UInt8.ofBitVec 8#8, UInt8.ofBitVec 8#8, UInt8.ofBitVec 8#8, UInt8.ofBitVec 8#8, UInt8.ofBitVec 8#8, UInt8.ofBitVec 8#8, UInt8.ofBitVec 8#8, UInt8.ofBitVec 8#8, UInt8.ofBitVec 8#8, UInt8.ofBitVec 8#8, UInt8.ofBitVec 8#8, UInt8.ofBitVec 8#8, UInt8.ofBitVec 8#8, UInt8.ofBitVec 8#8, UInt8.ofBitVec 8#8, UInt8.ofBitVec 8#8, UInt8.ofBitVec 8#8, UInt8.ofBitVec 8#8, UInt8.ofBitVec 8#8, UInt8.ofBitVec 8#8, UInt8.ofBitVec 8#8, UInt8.ofBitVec 8#8, UInt8.ofBitVec 8#8, UInt8.ofBitVec 8#8, UInt8.ofBitVec 8#8, UInt8.ofBitVec 8#8, UInt8.ofBitVec 8#8, UInt8.ofBitVec 8#8, UInt8.ofBitVec 8#8, UInt8.ofBitVec 8#8, UInt8.ofBitVec 8#8, UInt8.ofBitVec 8#8, UInt8.ofBitVec 8#8, UInt8.ofBitVec 8#8, UInt8.ofBitVec 8#8, UInt8.ofBitVec 8#8, UInt8.ofBitVec 8#8, UInt8.ofBitVec 8#8, UInt8.ofBitVec 8#8, UInt8.ofBitVec 8#8, UInt8.ofBitVec 8#8, UInt8.ofBitVec 8#8, UInt8.ofBitVec 8#8, UInt8.ofBitVec 8#8, UInt8.ofBitVec 8#8, UInt8.ofBitVec 8#8, UInt8.ofBitVec 8#8, UInt8.ofBitVec 8#8, UInt8.ofBitVec 8#8, UInt8.ofBitVec 8#8, UInt8.ofBitVec 8#8, UInt8.ofBitVec 8#8, UInt8.ofBitVec 8#8, UInt8.ofBitVec 8#8, UInt8.ofBitVec 8#8, UInt8.ofBitVec 8#8, UInt8.ofBitVec 8#8, UInt8.ofBitVec 8#8, UInt8.ofBitVec 8#8, UInt8.ofBitVec 8#8, UInt8.ofBitVec 8#8, UInt8.ofBitVec 8#8, UInt8.ofBitVec 8#8, UInt8.ofBitVec 8#8, UInt8.ofBitVec 8#8, UInt8.ofBitVec 8#8, UInt8.ofBitVec 8#8, UInt8.ofBitVec 8#8, UInt8.ofBitVec 8#8, UInt8.ofBitVec 8#8, UInt8.ofBitVec 8#8, UInt8.ofBitVec 8#8, UInt8.ofBitVec 8#8, UInt8.ofBitVec 8#8, UInt8.ofBitVec 8#8, UInt8.ofBitVec 8#8, UInt8.ofBitVec 8#8, UInt8.ofBitVec 8#8, UInt8.ofBitVec 8#8, UInt8.ofBitVec 8#8, UInt8.ofBitVec 8#8, UInt8.ofBitVec 8#8, UInt8.ofBitVec 8#8, UInt8.ofBitVec 8#8, UInt8.ofBitVec 8#8, UInt8.ofBitVec 8#8, UInt8.ofBitVec 8#8, UInt8.ofBitVec 8#8, UInt8.ofBitVec 8#8, UInt8.ofBitVec 8#8, UInt8.ofBitVec 8#8, UInt8.ofBitVec 8#8, UInt8.ofBitVec 8#8, UInt8.ofBitVec 8#8, UInt8.ofBitVec 8#8, UInt8.ofBitVec 8#8, UInt8.ofBitVec 8#8, UInt8.ofBitVec 8#8, UInt8.ofBitVec 8#8, UInt8.ofBitVec 8#8, UInt8.ofBitVec 8#8, UInt8.ofBitVec 8#8, UInt8.ofBitVec 8#8, UInt8.ofBitVec 8#8, UInt8.ofBitVec 8#8, UInt8.ofBitVec 8#8, UInt8.ofBitVec 8#8, UInt8.ofBitVec 8#8, UInt8.ofBitVec 8#8, UInt8.ofBitVec 8#8, UInt8.ofBitVec 8#8, UInt8.ofBitVec 8#8, UInt8.ofBitVec 8#8, UInt8.ofBitVec 8#8, UInt8.ofBitVec 8#8, UInt8.ofBitVec 8#8]) (Int.toNat n32)) (fun n33 =>
  wr IntKind.i64 (n31 + n33) (fun n34 =>
  R (Ending.returned (Value.int IntKind.i64 n34)) H23))))))) (fun k35 =>
  sB (decide (n19 ≥ 256)) (ask ((0 : Int) ≤ (8 : Int)) (nm (Int.fdiv n19 (2 ^ min (Int.toNat 8) 64)) (fun n36 =>
  wr IntKind.i64 (n20 + 8) (fun n37 =>
  k35 (Value.int IntKind.u64 n36) (Value.int IntKind.i64 n37) H12)))) (k35 (Value.int IntKind.u64 n19) (Value.int IntKind.i64 n20) H12))))) (fun k38 =>
  sB (decide (n8 ≥ 65536)) (ask ((0 : Int) ≤ (16 : Int)) (nm (Int.fdiv n8 (2 ^ min (Int.toNat 16) 64)) (fun n39 =>
  wr IntKind.i64 (n9 + 16) (fun n40 =>
  k38 (Value.int IntKind.u64 n39) (Value.int IntKind.i64 n40) H3)))) (k38 (Value.int IntKind.u64 n8) (Value.int IntKind.i64 n9) H3))))) (fun k41 =>
  sB (decide (x0 ≥ 4294967296)) (ask ((0 : Int) ≤ (32 : Int)) (nm (Int.fdiv x0 (2 ^ min (Int.toNat 32) 64)) (fun n42 =>
  k41 (Value.int IntKind.u64 n42) (Value.int IntKind.i64 32) H))) (k41 (Value.int IntKind.u64 x0) (Value.int IntKind.i64 0) H))
theorem F246_eq (x0 : Int) (R : Ending → Heap → Prop) (H : Heap) : F246 x0 R H = vc Tryz.prog (codeOf Tryz.f246) (.node none .leaf (.node (some ⟨[(0, 85), (2, 3)], [3, 4, 5, 6]⟩) .leaf (.node (some ⟨[(0, 85), (2, 3)], [7, 8, 9, 10, 11, 12]⟩) .leaf (.node (some ⟨[(0, 85), (2, 3)], [13, 14, 15, 16, 17, 18]⟩) .leaf .leaf)))) (postV Tryz.prog Tryz.f246 R) ⟨#[Value.int IntKind.u64 x0] ++ Array.replicate (Tryz.f246.ntmps - 1) undef, []⟩ H := by kernel_rfl
theorem F246_calls {R : Ending → Heap → Prop} {H : Heap} (x0 : Int) (h : F246 x0 R H) : HCalls Tryz.prog 246 #[Value.int IntKind.u64 x0] H R :=
  calls_by (F := F246 x0 R H) (.node none .leaf (.node (some ⟨[(0, 85), (2, 3)], [3, 4, 5, 6]⟩) .leaf (.node (some ⟨[(0, 85), (2, 3)], [7, 8, 9, 10, 11, 12]⟩) .leaf (.node (some ⟨[(0, 85), (2, 3)], [13, 14, 15, 16, 17, 18]⟩) .leaf .leaf)))) Tryz.func246 rfl (F246_eq x0 R H) h
/-- (*bollard/bollardref07.Set).Blocks -/
def F247 (x0 : Option Addr) (R : Ending → Heap → Prop) (H : Heap) : Prop :=
  nz x0 (fun a1 =>
  ld H a1 (fun v2 =>
  dSl v2 (fun p3 r4 r5 =>
  ∃ I6 : List Value → Heap → Prop,
  ∃ I7 : List Value → Heap → Nat,
  (I6 ([Value.slice none 0 0, Value.int IntKind.i64 0]) H) ∧
  ∀ p8 : Option Addr,
  ∀ r9 : Nat,
  ∀ r10 : Nat,
  ∀ n11 : Int,
  ∀ v12 v13 v14 v15 v16 v17 v18 v19 v20 v21 v22 v23 v24 v25 v26 v27 v28 v29 v30 v31 v32 v33 v34 v35 v36 v37 v38 v39 v40 v41 v42 v43 v44 v45 v46 v47 v48 v49 v50 v51 v52 v53 v54 v55 : Value,
  ∀ H56 : Heap,
  (I6 ([Value.slice p8 r9 r10, Value.int IntKind.i64 n11]) H56) →
  sB (decide (n11 < (↑r4 : Int))) (nz p3 (fun a58 =>
  ask ((0 : Int) ≤ n11 ∧ n11 < (↑r4 : Int)) (ld H56 (Addr.add a58 (Int.toNat n11 * 5)) (fun v59 =>
  ld H56 (Addr.add (Addr.add a58 (Int.toNat n11 * 5)) 1) (fun v60 =>
  ld H56 (Addr.add (Addr.add a58 (Int.toNat n11 * 5)) 2) (fun v61 =>
  ld H56 (Addr.add (Addr.add a58 (Int.toNat n11 * 5)) 3) (fun v62 =>
  ld H56 (Addr.add (Addr.add a58 (Int.toNat n11 * 5)) 4) (fun v63 =>
  al H56 (Obj.cells #[Value.int IntKind.i64 0, Value.int IntKind.i64 0, Value.int IntKind.i64 0, Value.slice none 0 0, Value.slice none 0 0] 194) (fun r64 H65 =>
  st H65 (Addr.mk r64 0 none) v59 (fun H66 =>
  st H66 (Addr.mk r64 1 none) v60 (fun H67 =>
  st H67 (Addr.mk r64 2 none) v61 (fun H68 =>
  st H68 (Addr.mk r64 3 none) v62 (fun H69 =>
  st H69 (Addr.mk r64 4 none) v63 (fun H70 =>
  ∃ I71 : List Value → Heap → Prop,
  ∃ I72 : List Value → Heap → Nat,
  (I71 ([Value.slice none 0 0, Value.bool false, Value.int IntKind.i64 0]) H70) ∧
  ∀ p73 : Option Addr,
  ∀ r74 : Nat,
  ∀ r75 : Nat,
  ∀ b76 : Bool,
  ∀ n77 : Int,
  ∀ v78 v79 v80 v81 v82 v83 v84 v85 v86 v87 v88 v89 v90 v91 v92 v93 v94 v95 v96 v97 v98 v99 v100 v101 v102 v103 : Value,
  ∀ H104 : Heap,
  (I71 ([Value.slice p73 r74 r75, Value.bool b76, Value.int IntKind.i64 n77]) H104) →
  sB (decide (n77 < (↑r9 : Int))) (nz p8 (fun a106 =>
  ask ((0 : Int) ≤ n77 ∧ n77 < (↑r9 : Int)) (ld H104 (Addr.add a106 (Int.toNat n77 * 1)) (fun v107 =>
  dInt IntKind.i64 v107 (fun n108 =>
  jn (α := VFH 1) (fun v109 H110 =>
  ∀ v111 v112 v113 v114 : Value,
  dBl v109 (fun b115 =>
  jn (α := VFH 2) (fun v116 v117 H118 =>
  ∀ v119 v120 v121 v122 v123 v124 v125 v126 v127 v128 v129 v130 v131 : Value,
  dSl v116 (fun p132 r133 r134 =>
  dBl v117 (fun b135 =>
  al H118 (Obj.cells #[Value.int IntKind.i64 n108] 3) (fun r136 H137 =>
  semW Tryz.prog (Builtin.append_ #[73, 73] 73 #[Value.slice p132 r133 r134, Value.slice (some (Addr.mk r136 0 none)) 1 1]) (pnR R) H137 (fun v140 H141 =>
  dSl v140 (fun p142 r143 r144 =>
  wr IntKind.i64 (n77 + 1) (fun n145 =>
  (I71 ([Value.slice p142 r143 r144, Value.bool b135, Value.int IntKind.i64 n145]) H141) ∧
  (I72 [Value.slice p142 r143 r144, Value.bool b135, Value.int IntKind.i64 n145] H141) < (I72 [Value.slice p73 r74 r75, Value.bool b76, Value.int IntKind.i64 n77] H104)))))))) (fun k146 =>
  jn (α := VFH 1) (fun v147 H148 =>
  ∀ v149 v150 v151 v152 v153 v154 v155 : Value,
  dBl v147 (fun b156 =>
  sB b156 (ld H148 (Addr.mk r64 1 none) (fun v157 =>
  dInt IntKind.i64 v157 (fun n158 =>
  al H148 (Obj.cells #[Value.int IntKind.i64 n158] 3) (fun r159 H160 =>
  semW Tryz.prog (Builtin.append_ #[73, 73] 73 #[Value.slice p73 r74 r75, Value.slice (some (Addr.mk r159 0 none)) 1 1]) (pnR R) H160 (fun v163 H164 =>
  dSl v163 (fun p165 r166 r167 =>
  k146 (Value.slice p165 r166 r167) (Value.bool true) H164)))))) (k146 (Value.slice p73 r74 r75) (Value.bool b115) H148))) (fun k168 =>
  sB (!b115) (ld H110 (Addr.mk r64 1 none) (fun v169 =>
  dInt IntKind.i64 v169 (fun n170 =>
  k168 (Value.bool (decide (n108 > n170))) H110))) (k168 (Value.bool false) H110))))) (fun k171 =>
  ld H104 (Addr.mk r64 1 none) (fun v172 =>
  dInt IntKind.i64 v172 (fun n173 =>
  sB (n108 == n173) (k171 (Value.bool true) H104) (k171 (Value.bool b76) H104))))))))) (jn (α := VFH 1) (fun v174 H175 =>
  ∀ v176 v177 v178 v179 v180 v181 v182 : Value,
  dSl v174 (fun p183 r184 r185 =>
  wr IntKind.i64 (n11 + 1) (fun n186 =>
  (I6 ([Value.slice p183 r184 r185, Value.int IntKind.i64 n186]) H175) ∧
  (I7 [Value.slice p183 r184 r185, Value.int IntKind.i64 n186] H175) < (I7 [Value.slice p8 r9 r10, Value.int IntKind.i64 n11] H56)))) (fun k187 =>
  sB (!b76) (ld H104 (Addr.mk r64 1 none) (fun v188 =>
  dInt IntKind.i64 v188 (fun n189 =>
  al H104 (Obj.cells #[Value.int IntKind.i64 n189] 3) (fun r190 H191 =>
  semW Tryz.prog (Builtin.append_ #[73, 73] 73 #[Value.slice p73 r74 r75, Value.slice (some (Addr.mk r190 0 none)) 1 1]) (pnR R) H191 (fun v194 H195 =>
  dSl v194 (fun p196 r197 r198 =>
  k187 (Value.slice p196 r197 r198) H195)))))) (k187 (Value.slice p73 r74 r75) H104))))))))))))))))) (R (Ending.returned (Value.slice p8 r9 r10)) H56))))
theorem F247_eq (x0 : Option Addr) (R : Ending → Heap → Prop) (H : Heap) : F247 x0 R H = vc Tryz.prog (codeOf Tryz.f247) (.node none .leaf (.node none .leaf (.node none (.node none .leaf (.node none (.node (some ⟨[(3, 73), (15, 3)], [5, 6, 7, 9, 16, 17, 18, 19, 20, 21, 22, 23, 24, 25, 26, 27, 28, 29, 30, 31, 32, 33, 34, 35, 36, 37, 38, 39, 40, 41, 42, 43, 44, 45, 46, 47, 48, 49, 50, 51, 52, 53, 54, 55]⟩) (.node none .leaf (.node none .leaf (.node none (.node none (.node none .leaf (.node none .leaf (.node none .leaf (.node none (.node none .leaf (.node none (.node (some ⟨[(6, 73), (7, 4), (21, 3)], [9, 22, 23, 24, 25, 26, 27, 28, 29, 30, 31, 32, 33, 34, 35, 36, 37, 38, 39, 40, 41, 42, 43, 44, 45, 46]⟩) (.node none .leaf (.node none .leaf (.node none (.node none (.node none .leaf (.node (some ⟨[(7, 4)], [25, 26, 27, 28]⟩) .leaf (.node (some ⟨[(6, 73), (7, 4)], [29, 30, 31, 32, 33, 34, 35, 36, 37, 38, 39, 40, 41]⟩) (.node (some ⟨[(36, 4)], [29, 30, 31, 32, 33, 34, 35]⟩) .leaf .leaf) .leaf))) .leaf) .leaf))) .leaf) .leaf)) (.node (some ⟨[(6, 73)], [47, 48, 49, 50, 51, 52, 53]⟩) .leaf .leaf))))) .leaf) .leaf))) .leaf) .leaf)) .leaf))) (postV Tryz.prog Tryz.f247 R) ⟨#[Value.pointer x0] ++ Array.replicate (Tryz.f247.ntmps - 1) undef, []⟩ H := by kernel_rfl
theorem F247_calls {R : Ending → Heap → Prop} {H : Heap} (x0 : Option Addr) (h : F247 x0 R H) : HCalls Tryz.prog 247 #[Value.pointer x0] H R :=
  calls_by (F := F247 x0 R H) (.node none .leaf (.node none .leaf (.node none (.node none .leaf (.node none (.node (some ⟨[(3, 73), (15, 3)], [5, 6, 7, 9, 16, 17, 18, 19, 20, 21, 22, 23, 24, 25, 26, 27, 28, 29, 30, 31, 32, 33, 34, 35, 36, 37, 38, 39, 40, 41, 42, 43, 44, 45, 46, 47, 48, 49, 50, 51, 52, 53, 54, 55]⟩) (.node none .leaf (.node none .leaf (.node none (.node none (.node none .leaf (.node none .leaf (.node none .leaf (.node none (.node none .leaf (.node none (.node (some ⟨[(6, 73), (7, 4), (21, 3)], [9, 22, 23, 24, 25, 26, 27, 28, 29, 30, 31, 32, 33, 34, 35, 36, 37, 38, 39, 40, 41, 42, 43, 44, 45, 46]⟩) (.node none .leaf (.node none .leaf (.node none (.node none (.node none .leaf (.node (some ⟨[(7, 4)], [25, 26, 27, 28]⟩) .leaf (.node (some ⟨[(6, 73), (7, 4)], [29, 30, 31, 32, 33, 34, 35, 36, 37, 38, 39, 40, 41]⟩) (.node (some ⟨[(36, 4)], [29, 30, 31, 32, 33, 34, 35]⟩) .leaf .leaf) .leaf))) .leaf) .leaf))) .leaf) .leaf)) (.node (some ⟨[(6, 73)], [47, 48, 49, 50, 51, 52, 53]⟩) .leaf .leaf))))) .leaf) .leaf))) .leaf) .leaf)) .leaf))) Tryz.func247 rfl (F247_eq x0 R H) h
/-- (*bollard/bollardref06.Cache).find -/
def F248 (x0 : Option Addr) (x1 : Int) (R : Ending → Heap → Prop) (H : Heap) : Prop :=
  nz x0 (fun a1 =>
  ld H (Addr.add a1 2) (fun v2 =>
  dSl v2 (fun p3 r4 r5 =>
  ∃ I6 : List Value → Heap → Prop,
  ∃ I7 : List Value → Heap → Nat,
  (I6 ([Value.int IntKind.i64 0]) H) ∧
  ∀ n8 : Int,
  ∀ v9 v10 v11 v12 v13 v14 v15 v16 v17 v18 v19 v20 v21 : Value,
  ∀ H22 : Heap,
  (I6 ([Value.int IntKind.i64 n8]) H22) →
  sB (decide (n8 < (↑r4 : Int))) (nz p3 (fun a24 =>
  ask ((0 : Int) ≤ n8 ∧ n8 < (↑r4 : Int)) (ld H22 (Addr.add a24 (Int.toNat n8 * 3)) (fun v25 =>
  ld H22 (Addr.add (Addr.add a24 (Int.toNat n8 * 3)) 1) (fun v26 =>
  ld H22 (Addr.add (Addr.add a24 (Int.toNat n8 * 3)) 2) (fun v27 =>
  al H22 (Obj.cells #[Value.int IntKind.i64 0, Value.int IntKind.i64 0, Value.slice none 0 0] 299) (fun r28 H29 =>
  st H29 (Addr.mk r28 0 none) v25 (fun H30 =>
  st H30 (Addr.mk r28 1 none) v26 (fun H31 =>
  st H31 (Addr.mk r28 2 none) v27 (fun H32 =>
  ld H32 (Addr.mk r28 0 none) (fun v33 =>
  dInt IntKind.i64 v33 (fun n34 =>
  sB (n34 == x1) (R (Ending.returned (Value.int IntKind.i64 n8)) H32) (wr IntKind.i64 (n8 + 1) (fun n35 =>
  (I6 ([Value.int IntKind.i64 n35]) H32) ∧
  (I7 [Value.int IntKind.i64 n35] H32) < (I7 [Value.int IntKind.i64 n8] H22))))))))))))))) (R (Ending.returned (Value.int IntKind.i64 (-1))) H22))))
theorem F248_eq (x0 : Option Addr) (x1 : Int) (R : Ending → Heap → Prop) (H : Heap) : F248 x0 x1 R H = vc Tryz.prog (codeOf Tryz.f248) (.node none .leaf (.node none (.node none .leaf (.node none (.node (some ⟨[(12, 3)], [4, 5, 6, 13, 14, 15, 16, 17, 18, 19, 20, 21, 22]⟩) .leaf .leaf) .leaf)) .leaf)) (postV Tryz.prog Tryz.f248 R) ⟨#[Value.pointer x0, Value.int IntKind.i64 x1] ++ Array.replicate (Tryz.f248.ntmps - 2) undef, []⟩ H := by kernel_rfl
theorem F248_calls {R : Ending → Heap → Prop} {H : Heap} (x0 : Option Addr) (x1 : Int) (h : F248 x0 x1 R H) : HCalls Tryz.prog 248 #[Value.pointer x0, Value.int IntKind.i64 x1] H R :=
  calls_by (F := F248 x0 x1 R H) (.node none .leaf (.node none (.node none .leaf (.node none (.node (some ⟨[(12, 3)], [4, 5, 6, 13, 14, 15, 16, 17, 18, 19, 20, 21, 22]⟩) .leaf .leaf) .leaf)) .leaf)) Tryz.func248 rfl (F248_eq x0 x1 R H) h
/-- (*bollard/bollardref06.Cache).without -/
def F249 (x0 : Option Addr) (x1 : Int) (R : Ending → Heap → Prop) (H : Heap) : Prop :=
  nz x0 (fun a1 =>
  ld H (Addr.add a1 2) (fun v2 =>
  dSl v2 (fun p3 r4 r5 =>
  ask ((0 : Int) ≤ (0 : Int) ∧ (0 : Int) ≤ x1 ∧ x1 ≤ (↑r5 : Int) ∧ (↑r5 : Int) ≤ (↑r5 : Int)) (nz x0 (fun a6 =>
  ld H (Addr.add a6 2) (fun v7 =>
  dSl v7 (fun p8 r9 r10 =>
  wr IntKind.i64 (x1 + 1) (fun n11 =>
  ask ((0 : Int) ≤ n11 ∧ n11 ≤ (↑r9 : Int) ∧ (↑r9 : Int) ≤ (↑r10 : Int) ∧ (↑r10 : Int) ≤ (↑r10 : Int)) (al H (Obj.cells #[] 299) (fun r12 H13 =>
  (ld H13 (Addr.add a6 2) (fun v14 =>
  dSl v14 (fun p15 r16 r17 =>
  (Value.slice p15 r16 r17) = (Value.slice p8 r9 r10)))) ∧
  (ld H13 (Addr.add a1 2) (fun v18 =>
  dSl v18 (fun p19 r20 r21 =>
  (Value.slice p19 r20 r21) = (Value.slice p3 r4 r5)))) ∧
  semW Tryz.prog (Builtin.append_ #[279, 279] 279 #[Value.slice (some (Addr.mk r12 0 none)) 0 0, Value.slice (slO p3 3 0 (↑r5 : Int)) (Int.toNat x1 - Int.toNat 0) (Int.toNat (↑r5 : Int) - Int.toNat 0)]) nopR H13 (fun v24 H25 =>
  dSl v24 (fun p26 r27 r28 =>
  (ld H25 (Addr.add a6 2) (fun v29 =>
  dSl v29 (fun p30 r31 r32 =>
  (Value.slice p30 r31 r32) = (Value.slice p8 r9 r10)))) ∧
  semW Tryz.prog (Builtin.append_ #[279, 279] 279 #[Value.slice p26 r27 r28, Value.slice (slO p8 3 n11 (↑r10 : Int)) (Int.toNat (↑r9 : Int) - Int.toNat n11) (Int.toNat (↑r10 : Int) - Int.toNat n11)]) nopR H25 (fun v35 H36 =>
  dSl v35 (fun p37 r38 r39 =>
  nz x0 (fun a40 =>
  st H36 (Addr.add a40 2) (Value.slice p37 r38 r39) (fun H41 =>
  R (Ending.returned (Value.tuple #[])) H41))))))))))))))))
theorem F249_eq (x0 : Option Addr) (x1 : Int) (R : Ending → Heap → Prop) (H : Heap) : F249 x0 x1 R H = vc Tryz.prog (codeOf Tryz.f249) .leaf (postV Tryz.prog Tryz.f249 R) ⟨#[Value.pointer x0, Value.int IntKind.i64 x1] ++ Array.replicate (Tryz.f249.ntmps - 2) undef, []⟩ H := by kernel_rfl
theorem F249_calls {R : Ending → Heap → Prop} {H : Heap} (x0 : Option Addr) (x1 : Int) (h : F249 x0 x1 R H) : HCalls Tryz.prog 249 #[Value.pointer x0, Value.int IntKind.i64 x1] H R :=
  calls_by (F := F249 x0 x1 R H) .leaf Tryz.func249 rfl (F249_eq x0 x1 R H) h
/-- (*bollard/bollardref06.Cache).victim -/
def F250 (x0 : Option Addr) (R : Ending → Heap → Prop) (H : Heap) : Prop :=
  nz x0 (fun a1 =>
  ld H (Addr.add a1 2) (fun v2 =>
  dSl v2 (fun p3 r4 r5 =>
  ∃ I6 : List Value → Heap → Prop,
  ∃ I7 : List Value → Heap → Nat,
  (I6 ([Value.int IntKind.i64 0]) H) ∧
  ∀ n8 : Int,
  ∀ v9 v10 v11 v12 v13 v14 v15 v16 v17 v18 v19 v20 : Value,
  ∀ H21 : Heap,
  (I6 ([Value.int IntKind.i64 n8]) H21) →
  sB (decide (n8 < (↑r4 : Int))) (nz p3 (fun a23 =>
  ask ((0 : Int) ≤ n8 ∧ n8 < (↑r4 : Int)) (ld H21 (Addr.add a23 (Int.toNat n8 * 3)) (fun v24 =>
  ld H21 (Addr.add (Addr.add a23 (Int.toNat n8 * 3)) 1) (fun v25 =>
  ld H21 (Addr.add (Addr.add a23 (Int.toNat n8 * 3)) 2) (fun v26 =>
  al H21 (Obj.cells #[Value.int IntKind.i64 0, Value.int IntKind.i64 0, Value.slice none 0 0] 299) (fun r27 H28 =>
  st H28 (Addr.mk r27 0 none) v24 (fun H29 =>
  st H29 (Addr.mk r27 1 none) v25 (fun H30 =>
  st H30 (Addr.mk r27 2 none) v26 (fun H31 =>
  ld H31 (Addr.mk r27 1 none) (fun v32 =>
  dInt IntKind.i64 v32 (fun n33 =>
  sB (n33 == 0) (R (Ending.returned (Value.int IntKind.i64 n8)) H31) (wr IntKind.i64 (n8 + 1) (fun n34 =>
  (I6 ([Value.int IntKind.i64 n34]) H31) ∧
  (I7 [Value.int IntKind.i64 n34] H31) < (I7 [Value.int IntKind.i64 n8] H21))))))))))))))) (R (Ending.returned (Value.int IntKind.i64 (-1))) H21))))
theorem F250_eq (x0 : Option Addr) (R : Ending → Heap → Prop) (H : Heap) : F250 x0 R H = vc Tryz.prog (codeOf Tryz.f250) (.node none .leaf (.node none (.node none .leaf (.node none (.node (some ⟨[(10, 3)], [2, 3, 4, 11, 12, 13, 14, 15, 16, 17, 18, 19]⟩) .leaf .leaf) .leaf)) .leaf)) (postV Tryz.prog Tryz.f250 R) ⟨#[Value.pointer x0] ++ Array.replicate (Tryz.f250.ntmps - 1) undef, []⟩ H := by kernel_rfl
theorem F250_calls {R : Ending → Heap → Prop} {H : Heap} (x0 : Option Addr) (h : F250 x0 R H) : HCalls Tryz.prog 250 #[Value.pointer x0] H R :=
  calls_by (F := F250 x0 R H) (.node none .leaf (.node none (.node none .leaf (.node none (.node (some ⟨[(10, 3)], [2, 3, 4, 11, 12, 13, 14, 15, 16, 17, 18, 19]⟩) .leaf .leaf) .leaf)) .leaf)) Tryz.func250 rfl (F250_eq x0 R H) h
end Go.Proofs.YtngploohhmfaiaaGreat.E
