/- My own texts, joined. -/
import Derived.Ground.GgzProg
import Derived.Ground.SlsfProg
import Derived.KernelRfl
import Derived.Maps.Own
import Derived.Shelf.SlIterI.Nil
import Derived.Shelf.SlLaysF
import Derived.Test.YtngploohhmfaiaaGreatProg
import Derived.WalkKit
import Derived.Test.YtngploohhmfaiaaGreatQc4
/- The functions' forms in the engine's words, printed by my own program. -/
namespace Go.Proofs.YtngploohhmfaiaaGreat.E
open Go Go.Proofs
set_option linter.unusedVariables false
/-- bollard/patch.overlap -/
def F132 (x0_0 : Value) (x0_1 : Value) (x0_2 : Value) (x0_3 : Value) (x0_4 : Value) (x1_0 : Value) (x1_1 : Value) (x1_2 : Value) (x1_3 : Value) (x1_4 : Value) (R : Ending → Heap → Prop) (H : Heap) : Prop :=
  al H (Obj.cells #[x0_0, x0_1, x0_2, x0_3, x0_4] 194) (fun r1 H2 =>
  al H2 (Obj.cells #[x1_0, x1_1, x1_2, x1_3, x1_4] 194) (fun r3 H4 =>
  ld H4 (Addr.mk r1 1 none) (fun v5 =>
  dInt IntKind.i64 v5 (fun n6 =>
  ld H4 (Addr.mk r3 1 none) (fun v7 =>
  dInt IntKind.i64 v7 (fun n8 =>
  sB (n6 == n8) (ld H4 (Addr.mk r1 2 none) (fun v9 =>
  dInt IntKind.i64 v9 (fun n10 =>
  ld H4 (Addr.mk r3 2 none) (fun v11 =>
  dInt IntKind.i64 v11 (fun n12 =>
  ld H4 (Addr.mk r3 3 none) (fun v13 =>
  dSl v13 (fun p14 r15 r16 =>
  wr IntKind.i64 (n12 + (↑r15 : Int)) (fun n17 =>
  sB (decide (n10 < n17)) (ld H4 (Addr.mk r3 2 none) (fun v18 =>
  dInt IntKind.i64 v18 (fun n19 =>
  ld H4 (Addr.mk r1 2 none) (fun v20 =>
  dInt IntKind.i64 v20 (fun n21 =>
  ld H4 (Addr.mk r1 3 none) (fun v22 =>
  dSl v22 (fun p23 r24 r25 =>
  wr IntKind.i64 (n21 + (↑r24 : Int)) (fun n26 =>
  R (Ending.returned (Value.bool (decide (n19 < n26)))) H4)))))))) (R (Ending.returned (Value.bool false)) H4))))))))) (R (Ending.returned (Value.bool false)) H4)))))))
theorem F132_eq (x0_0 : Value) (x0_1 : Value) (x0_2 : Value) (x0_3 : Value) (x0_4 : Value) (x1_0 : Value) (x1_1 : Value) (x1_2 : Value) (x1_3 : Value) (x1_4 : Value) (R : Ending → Heap → Prop) (H : Heap) : F132 x0_0 x0_1 x0_2 x0_3 x0_4 x1_0 x1_1 x1_2 x1_3 x1_4 R H = vc Tryz.prog (codeOf Tryz.f132) .leaf (postV Tryz.prog Tryz.f132 R) ⟨#[Value.agg #[x0_0, x0_1, x0_2, x0_3, x0_4], Value.agg #[x1_0, x1_1, x1_2, x1_3, x1_4]] ++ Array.replicate (Tryz.f132.ntmps - 2) undef, []⟩ H := by kernel_rfl
theorem F132_calls {R : Ending → Heap → Prop} {H : Heap} (x0_0 : Value) (x0_1 : Value) (x0_2 : Value) (x0_3 : Value) (x0_4 : Value) (x1_0 : Value) (x1_1 : Value) (x1_2 : Value) (x1_3 : Value) (x1_4 : Value) (h : F132 x0_0 x0_1 x0_2 x0_3 x0_4 x1_0 x1_1 x1_2 x1_3 x1_4 R H) : HCalls Tryz.prog 132 #[Value.agg #[x0_0, x0_1, x0_2, x0_3, x0_4], Value.agg #[x1_0, x1_1, x1_2, x1_3, x1_4]] H R :=
  calls_by (F := F132 x0_0 x0_1 x0_2 x0_3 x0_4 x1_0 x1_1 x1_2 x1_3 x1_4 R H) .leaf Tryz.func132 rfl (F132_eq x0_0 x0_1 x0_2 x0_3 x0_4 x1_0 x1_1 x1_2 x1_3 x1_4 R H) h
/-- (*bollard/patch.Set).pending -/
def F133 (x0 : Option Addr) (x1a : Option Addr) (x1n : Nat) (x1c : Nat) (R : Ending → Heap → Prop) (H : Heap) : Prop :=
  ∃ I1 : List Value → Heap → Prop,
  ∃ I2 : List Value → Heap → Nat,
  (I1 ([Value.slice none 0 0, Value.int IntKind.i64 0]) H) ∧
  ∀ p3 : Option Addr,
  ∀ r4 : Nat,
  ∀ r5 : Nat,
  ∀ n6 : Int,
  ∀ v7 v8 v9 v10 v11 v12 v13 v14 v15 v16 v17 v18 v19 v20 v21 v22 v23 v24 v25 v26 v27 : Value,
  ∀ H28 : Heap,
  (I1 ([Value.slice p3 r4 r5, Value.int IntKind.i64 n6]) H28) →
  sB (decide (n6 < (↑x1n : Int))) (jn (α := VFH 1) (fun v30 H31 =>
  ∀ v32 v33 v34 v35 v36 v37 v38 v39 v40 v41 v42 v43 v44 v45 v46 v47 v48 v49 v50 : Value,
  dSl v30 (fun p51 r52 r53 =>
  wr IntKind.i64 (n6 + 1) (fun n54 =>
  (I1 ([Value.slice p51 r52 r53, Value.int IntKind.i64 n54]) H31) ∧
  (I2 [Value.slice p51 r52 r53, Value.int IntKind.i64 n54] H31) < (I2 [Value.slice p3 r4 r5, Value.int IntKind.i64 n6] H28)))) (fun k55 =>
  nz x1a (fun a56 =>
  ask ((0 : Int) ≤ n6 ∧ n6 < (↑x1n : Int)) (ld H28 (Addr.add a56 (Int.toNat n6 * 1)) (fun v57 =>
  dInt IntKind.i64 v57 (fun n58 =>
  nz x0 (fun a59 =>
  ld H28 (Addr.add a59 2) (fun v60 =>
  dMap v60 (fun p61 =>
  semW Tryz.prog (Instr.lookup 190 (Value.map p61) (Value.int IntKind.i64 n58) true) (pnR R) H28 (fun v64 H65 =>
  dT 2 v64 (fun v66 v67 =>
  dA 5 v66 (fun v68 v69 v70 v71 v72 =>
  dBl v67 (fun b73 =>
  al H65 (Obj.cells #[Value.int IntKind.i64 0, Value.int IntKind.i64 0, Value.int IntKind.i64 0, Value.slice none 0 0, Value.slice none 0 0] 194) (fun r74 H75 =>
  st H75 (Addr.mk r74 0 none) v68 (fun H76 =>
  st H76 (Addr.mk r74 1 none) v69 (fun H77 =>
  st H77 (Addr.mk r74 2 none) v70 (fun H78 =>
  st H78 (Addr.mk r74 3 none) v71 (fun H79 =>
  st H79 (Addr.mk r74 4 none) v72 (fun H80 =>
  sB b73 (al H80 (Obj.cells #[Value.int IntKind.i64 n58] 3) (fun r81 H82 =>
  semW Tryz.prog (Builtin.append_ #[73, 73] 73 #[Value.slice p3 r4 r5, Value.slice (some (Addr.mk r81 0 none)) 1 1]) (pnR R) H82 (fun v85 H86 =>
  dSl v85 (fun p87 r88 r89 =>
  k55 (Value.slice p87 r88 r89) H86)))) (k55 (Value.slice p3 r4 r5) H80)))))))))))))))))))) (HCalls Tryz.prog 156 #[Value.slice p3 r4 r5] H28 (Sp.retK (fun v90 H91 =>
  HCalls Tryz.prog 157 #[Value.slice p3 r4 r5] H91 (Sp.retK (fun v92 H93 =>
  dSl v92 (fun p94 r95 r96 =>
  R (Ending.returned (Value.slice p94 r95 r96)) H93)) (pnR R))) (pnR R)))
theorem F133_eq (x0 : Option Addr) (x1a : Option Addr) (x1n : Nat) (x1c : Nat) (R : Ending → Heap → Prop) (H : Heap) : F133 x0 x1a x1n x1c R H = vc Tryz.prog (codeOf Tryz.f133) (.node none .leaf (.node none .leaf (.node none (.node none .leaf (.node none (.node (some ⟨[(5, 73), (12, 3)], [7, 8, 9, 13, 14, 15, 16, 17, 18, 19, 20, 21, 22, 23, 24, 25, 26, 27, 28, 29, 30]⟩) (.node none .leaf (.node none .leaf (.node (some ⟨[(5, 73)], [7, 8, 9, 14, 15, 16, 17, 18, 19, 20, 21, 22, 23, 24, 25, 26, 27, 28, 29]⟩) .leaf .leaf))) .leaf) .leaf)) .leaf))) (postV Tryz.prog Tryz.f133 R) ⟨#[Value.pointer x0, Value.slice x1a x1n x1c] ++ Array.replicate (Tryz.f133.ntmps - 2) undef, []⟩ H := by kernel_rfl
theorem F133_calls {R : Ending → Heap → Prop} {H : Heap} (x0 : Option Addr) (x1a : Option Addr) (x1n : Nat) (x1c : Nat) (h : F133 x0 x1a x1n x1c R H) : HCalls Tryz.prog 133 #[Value.pointer x0, Value.slice x1a x1n x1c] H R :=
  calls_by (F := F133 x0 x1a x1n x1c R H) (.node none .leaf (.node none .leaf (.node none (.node none .leaf (.node none (.node (some ⟨[(5, 73), (12, 3)], [7, 8, 9, 13, 14, 15, 16, 17, 18, 19, 20, 21, 22, 23, 24, 25, 26, 27, 28, 29, 30]⟩) (.node none .leaf (.node none .leaf (.node (some ⟨[(5, 73)], [7, 8, 9, 14, 15, 16, 17, 18, 19, 20, 21, 22, 23, 24, 25, 26, 27, 28, 29]⟩) .leaf .leaf))) .leaf) .leaf)) .leaf))) Tryz.func133 rfl (F133_eq x0 x1a x1n x1c R H) h
/-- slices.DeleteFunc[[]int,int] -/
def F140 (x0a : Option Addr) (x0n : Nat) (x0c : Nat) (x1g : Nat) (x1f : Array Value) (x1c : Array Value) (R : Ending → Heap → Prop) (H : Heap) : Prop :=
  HCalls Tryz.prog 148 #[Value.slice x0a x0n x0c, Value.func (Fn.func x1g) x1f x1c] H (Sp.retK (fun v1 H2 =>
  dInt IntKind.i64 v1 (fun n3 =>
  sB (n3 == -1) (R (Ending.returned (Value.slice x0a x0n x0c)) H2) (wr IntKind.i64 (n3 + 1) (fun n4 =>
  ∃ I5 : List Value → Heap → Prop,
  ∃ I6 : List Value → Heap → Nat,
  (I5 ([Value.int IntKind.i64 n3, Value.int IntKind.i64 n4]) H2) ∧
  ∀ n7 : Int,
  ∀ n8 : Int,
  ∀ v9 v10 v11 v12 v13 v14 v15 v16 v17 v18 v19 v20 v21 v22 v23 v24 v25 v26 v27 v28 v29 : Value,
  ∀ H30 : Heap,
  (I5 ([Value.int IntKind.i64 n7, Value.int IntKind.i64 n8]) H30) →
  sB (decide (n8 < (↑x0n : Int))) (jn (α := VFH 1) (fun v32 H33 =>
  ∀ v34 v35 v36 v37 v38 v39 v40 v41 v42 v43 v44 v45 v46 v47 v48 : Value,
  dInt IntKind.i64 v32 (fun n49 =>
  wr IntKind.i64 (n8 + 1) (fun n50 =>
  (I5 ([Value.int IntKind.i64 n49, Value.int IntKind.i64 n50]) H33) ∧
  (I6 [Value.int IntKind.i64 n49, Value.int IntKind.i64 n50] H33) < (I6 [Value.int IntKind.i64 n7, Value.int IntKind.i64 n8] H30)))) (fun k51 =>
  nz x0a (fun a52 =>
  ask ((0 : Int) ≤ n8 ∧ n8 < (↑x0n : Int)) (ld H30 (Addr.add a52 (Int.toNat n8 * 1)) (fun v53 =>
  dInt IntKind.i64 v53 (fun n54 =>
  gB (plainFn Tryz.prog x1g) (HCalls Tryz.prog x1g (argsOf x1f [Value.int IntKind.i64 n54] x1c) H30 (Sp.retK (fun v55 H56 =>
  dBl v55 (fun b57 =>
  sB (!b57) (nz x0a (fun a58 =>
  ask ((0 : Int) ≤ n7 ∧ n7 < (↑x0n : Int)) (st H56 (Addr.add a58 (Int.toNat n7 * 1)) (Value.int IntKind.i64 n54) (fun H59 =>
  wr IntKind.i64 (n7 + 1) (fun n60 =>
  k51 (Value.int IntKind.i64 n60) H59))))) (k51 (Value.int IntKind.i64 n7) H56))) (pnR R))))))))) (ask ((0 : Int) ≤ n7 ∧ n7 ≤ (↑x0n : Int) ∧ (↑x0n : Int) ≤ (↑x0c : Int) ∧ (↑x0c : Int) ≤ (↑x0c : Int)) (semW Tryz.prog (Builtin.clear_ #[73] 0 #[Value.slice (slO x0a 1 n7 (↑x0c : Int)) (Int.toNat (↑x0n : Int) - Int.toNat n7) (Int.toNat (↑x0c : Int) - Int.toNat n7)]) (pnR R) H30 (fun v65 H66 =>
  ask ((0 : Int) ≤ (0 : Int) ∧ (0 : Int) ≤ n7 ∧ n7 ≤ (↑x0c : Int) ∧ (↑x0c : Int) ≤ (↑x0c : Int)) (R (Ending.returned (Value.slice (slO x0a 1 0 (↑x0c : Int)) (Int.toNat n7 - Int.toNat 0) (Int.toNat (↑x0c : Int) - Int.toNat 0))) H66)))))))) (pnR R))
theorem F140_eq (x0a : Option Addr) (x0n : Nat) (x0c : Nat) (x1g : Nat) (x1f : Array Value) (x1c : Array Value) (R : Ending → Heap → Prop) (H : Heap) : F140 x0a x0n x0c x1g x1f x1c R H = vc Tryz.prog (codeOf Tryz.f140) (.node none .leaf (.node none .leaf (.node none .leaf (.node none (.node none .leaf (.node none (.node (some ⟨[(5, 3), (6, 3)], [7, 16, 17, 18, 19, 20, 21, 22, 23, 24, 25, 26, 27, 28, 29, 30, 31, 32, 33, 34, 35]⟩) (.node none .leaf (.node (some ⟨[(5, 3)], [7, 22, 23, 24, 25, 26, 27, 28, 29, 30, 31, 32, 33, 34, 35]⟩) .leaf .leaf)) .leaf) .leaf)) .leaf)))) (postV Tryz.prog Tryz.f140 R) ⟨#[Value.slice x0a x0n x0c, Value.func (Fn.func x1g) x1f x1c] ++ Array.replicate (Tryz.f140.ntmps - 2) undef, []⟩ H := by kernel_rfl
theorem F140_calls {R : Ending → Heap → Prop} {H : Heap} (x0a : Option Addr) (x0n : Nat) (x0c : Nat) (x1g : Nat) (x1f : Array Value) (x1c : Array Value) (h : F140 x0a x0n x0c x1g x1f x1c R H) : HCalls Tryz.prog 140 #[Value.slice x0a x0n x0c, Value.func (Fn.func x1g) x1f x1c] H R :=
  calls_by (F := F140 x0a x0n x0c x1g x1f x1c R H) (.node none .leaf (.node none .leaf (.node none .leaf (.node none (.node none .leaf (.node none (.node (some ⟨[(5, 3), (6, 3)], [7, 16, 17, 18, 19, 20, 21, 22, 23, 24, 25, 26, 27, 28, 29, 30, 31, 32, 33, 34, 35]⟩) (.node none .leaf (.node (some ⟨[(5, 3)], [7, 22, 23, 24, 25, 26, 27, 28, 29, 30, 31, 32, 33, 34, 35]⟩) .leaf .leaf)) .leaf) .leaf)) .leaf)))) Tryz.func140 rfl (F140_eq x0a x0n x0c x1g x1f x1c R H) h
/-- (*bollard/volume.Volume).ready$1 -/
def F141 (x0 : Int) (f0 : Addr) (f1 : Addr) (R : Ending → Heap → Prop) (H : Heap) : Prop :=
  ld H f0 (fun v1 =>
  dPtr v1 (fun p2 =>
  nz p2 (fun a3 =>
  ld H (Addr.add a3 4) (fun v4 =>
  dPtr v4 (fun p5 =>
  ld H f1 (fun v6 =>
  dSl v6 (fun p7 r8 r9 =>
  HCalls Tryz.prog 142 #[Value.pointer p5, Value.int IntKind.i64 x0, Value.slice p7 r8 r9] H (Sp.retK (fun v10 H11 =>
  dT 3 v10 (fun v12 v13 v14 =>
  dSl v12 (fun p15 r16 r17 =>
  dSl v13 (fun p18 r19 r20 =>
  dInt IntKind.i64 v14 (fun n21 =>
  sB (n21 != 0) (R (Ending.returned (Value.bool true)) H11) (ld H11 f0 (fun v22 =>
  dPtr v22 (fun p23 =>
  HCalls Tryz.prog 143 #[Value.pointer p23, Value.int IntKind.i64 x0] H11 (Sp.retK (fun v24 H25 =>
  dBl v24 (fun b26 =>
  R (Ending.returned (Value.bool b26)) H25)) (pnR R)))))))))) nopR))))))))
theorem F141_eq (x0 : Int) (f0 : Addr) (f1 : Addr) (R : Ending → Heap → Prop) (H : Heap) : F141 x0 f0 f1 R H = vc Tryz.prog (codeOf Tryz.f141) .leaf (postV Tryz.prog Tryz.f141 R) ⟨#[Value.int IntKind.i64 x0, Value.pointer (some f0), Value.pointer (some f1)] ++ Array.replicate (Tryz.f141.ntmps - 3) undef, []⟩ H := by kernel_rfl
theorem F141_calls {R : Ending → Heap → Prop} {H : Heap} (x0 : Int) (f0 : Addr) (f1 : Addr) (h : F141 x0 f0 f1 R H) : HCalls Tryz.prog 141 #[Value.int IntKind.i64 x0, Value.pointer (some f0), Value.pointer (some f1)] H R :=
  calls_by (F := F141 x0 f0 f1 R H) .leaf Tryz.func141 rfl (F141_eq x0 f0 f1 R H) h
/-- (*bollard/patch.Set).Plan -/
def F142 (x0 : Option Addr) (x1 : Int) (x2a : Option Addr) (x2n : Nat) (x2c : Nat) (R : Ending → Heap → Prop) (H : Heap) : Prop :=
  HCalls Tryz.prog 127 #[Value.pointer x0] H (Sp.retK (fun v1 H2 =>
  dBl v1 (fun b3 =>
  sB (!b3) (R (Ending.returned (Value.tuple #[Value.slice none 0 0, Value.slice none 0 0, Value.int IntKind.i64 2])) H2) (sB ((↑x2n : Int) != 128) (R (Ending.returned (Value.tuple #[Value.slice none 0 0, Value.slice none 0 0, Value.int IntKind.i64 1])) H2) (HCalls Tryz.prog 192 #[Value.pointer x0, Value.int IntKind.i64 x1] H2 (Sp.retK (fun v4 H5 =>
  dSl v4 (fun p6 r7 r8 =>
  sB ((↑r7 : Int) == 0) (R (Ending.returned (Value.tuple #[Value.slice none 0 0, Value.slice none 0 0, Value.int IntKind.i64 71])) H5) (HCalls Tryz.prog 189 #[Value.pointer x0, Value.slice x2a x2n x2c, Value.slice p6 r7 r8] H5 (Sp.retK (fun v9 H10 =>
  dSl v9 (fun p11 r12 r13 =>
  R (Ending.returned (Value.tuple #[Value.slice p11 r12 r13, Value.slice p6 r7 r8, Value.int IntKind.i64 0])) H10)) (pnR R))))) (pnR R)))))) (pnR R))
theorem F142_eq (x0 : Option Addr) (x1 : Int) (x2a : Option Addr) (x2n : Nat) (x2c : Nat) (R : Ending → Heap → Prop) (H : Heap) : F142 x0 x1 x2a x2n x2c R H = vc Tryz.prog (codeOf Tryz.f142) .leaf (postV Tryz.prog Tryz.f142 R) ⟨#[Value.pointer x0, Value.int IntKind.i64 x1, Value.slice x2a x2n x2c] ++ Array.replicate (Tryz.f142.ntmps - 3) undef, []⟩ H := by kernel_rfl
theorem F142_calls {R : Ending → Heap → Prop} {H : Heap} (x0 : Option Addr) (x1 : Int) (x2a : Option Addr) (x2n : Nat) (x2c : Nat) (h : F142 x0 x1 x2a x2n x2c R H) : HCalls Tryz.prog 142 #[Value.pointer x0, Value.int IntKind.i64 x1, Value.slice x2a x2n x2c] H R :=
  calls_by (F := F142 x0 x1 x2a x2n x2c R H) .leaf Tryz.func142 rfl (F142_eq x0 x1 x2a x2n x2c R H) h
/-- (*bollard/volume.Volume).going -/
def F143 (x0 : Option Addr) (x1 : Int) (R : Ending → Heap → Prop) (H : Heap) : Prop :=
  nz x0 (fun a1 =>
  ld H (Addr.add a1 5) (fun v2 =>
  dMap v2 (fun p3 =>
  semW Tryz.prog (Instr.range 52 (Value.map p3)) (pnR R) H (fun v6 H7 =>
  ∃ I8 : List Value → Heap → Prop,
  ∃ I9 : List Value → Heap → Nat,
  (I8 [] H7) ∧
  ∀ v10 v11 v12 v13 v14 v15 v16 v17 v18 v19 : Value,
  ∀ H20 : Heap,
  (I8 [] H20) →
  semW Tryz.prog (Instr.next v6 false 0) (pnR R) H20 (fun v24 H25 =>
  dNx v24 (R (Ending.returned (Value.bool false)) H25) (fun v26 v27 =>
  semW Tryz.prog (Instr.entry v6) (pnR R) H25 (fun v30 H31 =>
  dT 2 v30 (fun v32 v33 =>
  dA 3 v33 (fun v34 v35 v36 =>
  al H31 (Obj.cells #[Value.int IntKind.i64 0, Value.slice none 0 0, Value.slice none 0 0] 153) (fun r37 H38 =>
  st H38 (Addr.mk r37 0 none) v34 (fun H39 =>
  st H39 (Addr.mk r37 1 none) v35 (fun H40 =>
  st H40 (Addr.mk r37 2 none) v36 (fun H41 =>
  ld H41 (Addr.mk r37 0 none) (fun v42 =>
  dInt IntKind.i64 v42 (fun n43 =>
  sB (n43 == x1) (R (Ending.returned (Value.bool true)) H41) ((I8 [] H41) ∧
  (I9 [] H41) < (I9 [] H20)))))))))))))))))
theorem F143_eq (x0 : Option Addr) (x1 : Int) (R : Ending → Heap → Prop) (H : Heap) : F143 x0 x1 R H = vc Tryz.prog (codeOf Tryz.f143) (.node none .leaf (.node none (.node none .leaf (.node none (.node (some ⟨[], [4, 6, 12, 13, 14, 15, 16, 17, 18, 19]⟩) .leaf .leaf) .leaf)) .leaf)) (postV Tryz.prog Tryz.f143 R) ⟨#[Value.pointer x0, Value.int IntKind.i64 x1] ++ Array.replicate (Tryz.f143.ntmps - 2) undef, []⟩ H := by kernel_rfl
theorem F143_calls {R : Ending → Heap → Prop} {H : Heap} (x0 : Option Addr) (x1 : Int) (h : F143 x0 x1 R H) : HCalls Tryz.prog 143 #[Value.pointer x0, Value.int IntKind.i64 x1] H R :=
  calls_by (F := F143 x0 x1 R H) (.node none .leaf (.node none (.node none .leaf (.node none (.node (some ⟨[], [4, 6, 12, 13, 14, 15, 16, 17, 18, 19]⟩) .leaf .leaf) .leaf)) .leaf)) Tryz.func143 rfl (F143_eq x0 x1 R H) h
/-- (*bollard/disk.Disk).Write -/
def F144 (x0 : Option Addr) (x1 : Int) (x2a : Option Addr) (x2n : Nat) (x2c : Nat) (R : Ending → Heap → Prop) (H : Heap) : Prop :=
  al H (Obj.cells #[Value.int IntKind.i64 x1] 3) (fun r1 H2 =>
  ld H2 (Addr.mk r1 0 none) (fun v3 =>
  dInt IntKind.i64 v3 (fun n4 =>
  HCalls Tryz.prog 193 #[Value.pointer x0, Value.int IntKind.i64 n4] H2 (Sp.retK (fun v5 H6 =>
  dInt IntKind.i64 v5 (fun n7 =>
  sB (n7 != 0) (R (Ending.returned (Value.tuple #[Value.int IntKind.i64 0, Value.int IntKind.i64 n7])) H6) (sB ((↑x2n : Int) != 128) (R (Ending.returned (Value.tuple #[Value.int IntKind.i64 0, Value.int IntKind.i64 1])) H6) (nz x0 (fun a8 =>
  ld H6 (Addr.add a8 1) (fun v9 =>
  dSl v9 (fun p10 r11 r12 =>
  HCalls Tryz.prog 194 #[Value.slice p10 r11 r12, Value.func (Fn.func 195) #[] #[Value.pointer (some (Addr.mk r1 0 none))]] H6 (Sp.retK (fun v13 H14 =>
  dBl v13 (fun b15 =>
  sB b15 (R (Ending.returned (Value.tuple #[Value.int IntKind.i64 0, Value.int IntKind.i64 21])) H14) (nz x0 (fun a16 =>
  ld H14 (Addr.add a16 1) (fun v17 =>
  dSl v17 (fun p18 r19 r20 =>
  sB (decide ((↑r19 : Int) ≥ 64)) (R (Ending.returned (Value.tuple #[Value.int IntKind.i64 0, Value.int IntKind.i64 3])) H14) (nz x0 (fun a21 =>
  ld H14 (Addr.add a21 3) (fun v22 =>
  dInt IntKind.i64 v22 (fun n23 =>
  wr IntKind.i64 (n23 + 1) (fun n24 =>
  nz x0 (fun a25 =>
  st H14 (Addr.add a25 3) (Value.int IntKind.i64 n24) (fun H26 =>
  nz x0 (fun a27 =>
  ld H26 (Addr.add a27 1) (fun v28 =>
  dSl v28 (fun p29 r30 r31 =>
  nz x0 (fun a32 =>
  ld H26 (Addr.add a32 3) (fun v33 =>
  dInt IntKind.i64 v33 (fun n34 =>
  ld H26 (Addr.mk r1 0 none) (fun v35 =>
  dInt IntKind.i64 v35 (fun n36 =>
  HCalls Tryz.prog 48 #[Value.slice x2a x2n x2c] H26 (Sp.retK (fun v37 H38 =>
  dSl v37 (fun p39 r40 r41 =>
  (ld H38 (Addr.mk r1 0 none) (fun v42 =>
  dInt IntKind.i64 v42 (fun n43 =>
  (Value.int IntKind.i64 n43) = (Value.int IntKind.i64 n36)))) ∧
  (ld H38 (Addr.add a32 3) (fun v44 =>
  dInt IntKind.i64 v44 (fun n45 =>
  (Value.int IntKind.i64 n45) = (Value.int IntKind.i64 n34)))) ∧
  (ld H38 (Addr.add a27 1) (fun v46 =>
  dSl v46 (fun p47 r48 r49 =>
  (Value.slice p47 r48 r49) = (Value.slice p29 r30 r31)))) ∧
  al H38 (Obj.cells #[Value.int IntKind.i64 n34, Value.int IntKind.i64 n36, Value.slice p39 r40 r41] 96) (fun r50 H51 =>
  (ld H51 (Addr.add a27 1) (fun v52 =>
  dSl v52 (fun p53 r54 r55 =>
  (Value.slice p53 r54 r55) = (Value.slice p29 r30 r31)))) ∧
  semW Tryz.prog (Builtin.append_ #[93, 93] 93 #[Value.slice p29 r30 r31, Value.slice (some (Addr.mk r50 0 none)) 1 1]) nopR H51 (fun v58 H59 =>
  dSl v58 (fun p60 r61 r62 =>
  nz x0 (fun a63 =>
  st H59 (Addr.add a63 1) (Value.slice p60 r61 r62) (fun H64 =>
  nz x0 (fun a65 =>
  ld H64 (Addr.add a65 3) (fun v66 =>
  dInt IntKind.i64 v66 (fun n67 =>
  R (Ending.returned (Value.tuple #[Value.int IntKind.i64 n67, Value.int IntKind.i64 0])) H64)))))))))) nopR)))))))))))))))))))))) (pnR R))))))))) (pnR R)))))
theorem F144_eq (x0 : Option Addr) (x1 : Int) (x2a : Option Addr) (x2n : Nat) (x2c : Nat) (R : Ending → Heap → Prop) (H : Heap) : F144 x0 x1 x2a x2n x2c R H = vc Tryz.prog (codeOf Tryz.f144) .leaf (postV Tryz.prog Tryz.f144 R) ⟨#[Value.pointer x0, Value.int IntKind.i64 x1, Value.slice x2a x2n x2c] ++ Array.replicate (Tryz.f144.ntmps - 3) undef, []⟩ H := by kernel_rfl
theorem F144_calls {R : Ending → Heap → Prop} {H : Heap} (x0 : Option Addr) (x1 : Int) (x2a : Option Addr) (x2n : Nat) (x2c : Nat) (h : F144 x0 x1 x2a x2n x2c R H) : HCalls Tryz.prog 144 #[Value.pointer x0, Value.int IntKind.i64 x1, Value.slice x2a x2n x2c] H R :=
  calls_by (F := F144 x0 x1 x2a x2n x2c R H) .leaf Tryz.func144 rfl (F144_eq x0 x1 x2a x2n x2c R H) h
/-- (*bollard/disk.Disk).Complete -/
def F145 (x0 : Option Addr) (x1 : Int) (x2 : Bool) (R : Ending → Heap → Prop) (H : Heap) : Prop :=
  HCalls Tryz.prog 87 #[Value.pointer x0] H (Sp.retK (fun v1 H2 =>
  dBl v1 (fun b3 =>
  sB (!b3) (R (Ending.returned (Value.int IntKind.i64 2)) H2) (HCalls Tryz.prog 90 #[Value.pointer x0, Value.int IntKind.i64 x1] H2 (Sp.retK (fun v4 H5 =>
  dInt IntKind.i64 v4 (fun n6 =>
  sB (decide (n6 < 0)) (R (Ending.returned (Value.int IntKind.i64 20)) H5) (nz x0 (fun a7 =>
  ld H5 (Addr.add a7 1) (fun v8 =>
  dSl v8 (fun p9 r10 r11 =>
  nz p9 (fun a12 =>
  ask ((0 : Int) ≤ n6 ∧ n6 < (↑r10 : Int)) (ld H5 (Addr.add a12 (Int.toNat n6 * 3)) (fun v13 =>
  ld H5 (Addr.add (Addr.add a12 (Int.toNat n6 * 3)) 1) (fun v14 =>
  ld H5 (Addr.add (Addr.add a12 (Int.toNat n6 * 3)) 2) (fun v15 =>
  al H5 (Obj.cells #[Value.int IntKind.i64 0, Value.int IntKind.i64 0, Value.slice none 0 0] 96) (fun r16 H17 =>
  st H17 (Addr.mk r16 0 none) v13 (fun H18 =>
  st H18 (Addr.mk r16 1 none) v14 (fun H19 =>
  st H19 (Addr.mk r16 2 none) v15 (fun H20 =>
  nz x0 (fun a21 =>
  ld H20 (Addr.add a21 1) (fun v22 =>
  dSl v22 (fun p23 r24 r25 =>
  wr IntKind.i64 (n6 + 1) (fun n26 =>
  HCalls Tryz.prog 196 #[Value.slice p23 r24 r25, Value.int IntKind.i64 n6, Value.int IntKind.i64 n26] H20 (Sp.retK (fun v27 H28 =>
  dSl v27 (fun p29 r30 r31 =>
  nz x0 (fun a32 =>
  st H28 (Addr.add a32 1) (Value.slice p29 r30 r31) (fun H33 =>
  sB (!x2) (R (Ending.returned (Value.int IntKind.i64 4)) H33) (nz x0 (fun a34 =>
  ld H33 a34 (fun v35 =>
  dSl v35 (fun p36 r37 r38 =>
  ld H33 (Addr.mk r16 1 none) (fun v39 =>
  dInt IntKind.i64 v39 (fun n40 =>
  ld H33 (Addr.mk r16 2 none) (fun v41 =>
  dSl v41 (fun p42 r43 r44 =>
  nz p36 (fun a45 =>
  ask ((0 : Int) ≤ n40 ∧ n40 < (↑r37 : Int)) (st H33 (Addr.add a45 (Int.toNat n40 * 1)) (Value.slice p42 r43 r44) (fun H46 =>
  R (Ending.returned (Value.int IntKind.i64 0)) H46))))))))))))))) (pnR R))))))))))))))))))))) (pnR R))))) (pnR R))
theorem F145_eq (x0 : Option Addr) (x1 : Int) (x2 : Bool) (R : Ending → Heap → Prop) (H : Heap) : F145 x0 x1 x2 R H = vc Tryz.prog (codeOf Tryz.f145) .leaf (postV Tryz.prog Tryz.f145 R) ⟨#[Value.pointer x0, Value.int IntKind.i64 x1, Value.bool x2] ++ Array.replicate (Tryz.f145.ntmps - 3) undef, []⟩ H := by kernel_rfl
theorem F145_calls {R : Ending → Heap → Prop} {H : Heap} (x0 : Option Addr) (x1 : Int) (x2 : Bool) (h : F145 x0 x1 x2 R H) : HCalls Tryz.prog 145 #[Value.pointer x0, Value.int IntKind.i64 x1, Value.bool x2] H R :=
  calls_by (F := F145 x0 x1 x2 R H) .leaf Tryz.func145 rfl (F145_eq x0 x1 x2 R H) h
/-- (*bollard/cache.Cache).Put -/
def F146 (x0 : Option Addr) (x1 : Int) (x2a : Option Addr) (x2n : Nat) (x2c : Nat) (R : Ending → Heap → Prop) (H : Heap) : Prop :=
  HCalls Tryz.prog 197 #[Value.pointer x0, Value.int IntKind.i64 x1] H (Sp.retK (fun v1 H2 =>
  dInt IntKind.i64 v1 (fun n3 =>
  sB (n3 != 0) (R (Ending.returned (Value.int IntKind.i64 n3)) H2) (sB ((↑x2n : Int) != 128) (R (Ending.returned (Value.int IntKind.i64 1)) H2) (jn (α := VFH 0) (fun H4 =>
  ∀ v5 v6 v7 v8 v9 v10 v11 v12 v13 v14 v15 v16 v17 v18 v19 v20 v21 : Value,
  R (Ending.returned (Value.int IntKind.i64 0)) H4) (fun k22 =>
  nz x0 (fun a23 =>
  ld H2 (Addr.add a23 2) (fun v24 =>
  dMap v24 (fun p25 =>
  semW Tryz.prog (Instr.lookup 201 (Value.map p25) (Value.int IntKind.i64 x1) true) (pnR R) H2 (fun v28 H29 =>
  dT 2 v28 (fun v30 v31 =>
  dPtr v30 (fun p32 =>
  dBl v31 (fun b33 =>
  sB b33 (HCalls Tryz.prog 48 #[Value.slice x2a x2n x2c] H29 (Sp.retK (fun v34 H35 =>
  dSl v34 (fun p36 r37 r38 =>
  nz p32 (fun a39 =>
  st H35 a39 (Value.slice p36 r37 r38) (fun H40 =>
  k22 H40)))) (pnR R))) (k22 H29))))))))))))) (pnR R))
theorem F146_eq (x0 : Option Addr) (x1 : Int) (x2a : Option Addr) (x2n : Nat) (x2c : Nat) (R : Ending → Heap → Prop) (H : Heap) : F146 x0 x1 x2a x2n x2c R H = vc Tryz.prog (codeOf Tryz.f146) (.node none .leaf (.node none .leaf (.node none .leaf (.node (some ⟨[], [8, 9, 19, 20, 21, 22, 23, 24, 25, 26, 27, 28, 29, 30, 31, 32, 33]⟩) .leaf .leaf)))) (postV Tryz.prog Tryz.f146 R) ⟨#[Value.pointer x0, Value.int IntKind.i64 x1, Value.slice x2a x2n x2c] ++ Array.replicate (Tryz.f146.ntmps - 3) undef, []⟩ H := by kernel_rfl
theorem F146_calls {R : Ending → Heap → Prop} {H : Heap} (x0 : Option Addr) (x1 : Int) (x2a : Option Addr) (x2n : Nat) (x2c : Nat) (h : F146 x0 x1 x2a x2n x2c R H) : HCalls Tryz.prog 146 #[Value.pointer x0, Value.int IntKind.i64 x1, Value.slice x2a x2n x2c] H R :=
  calls_by (F := F146 x0 x1 x2a x2n x2c R H) (.node none .leaf (.node none .leaf (.node none .leaf (.node (some ⟨[], [8, 9, 19, 20, 21, 22, 23, 24, 25, 26, 27, 28, 29, 30, 31, 32, 33]⟩) .leaf .leaf)))) Tryz.func146 rfl (F146_eq x0 x1 x2a x2n x2c R H) h
/-- (*bollard/patch.Set).Done -/
def F147 (x0 : Option Addr) (x1a : Option Addr) (x1n : Nat) (x1c : Nat) (R : Ending → Heap → Prop) (H : Heap) : Prop :=
  al H (Obj.cells #[Value.pointer x0] 51) (fun r1 H2 =>
  ld H2 (Addr.mk r1 0 none) (fun v3 =>
  dPtr v3 (fun p4 =>
  HCalls Tryz.prog 127 #[Value.pointer p4] H2 (Sp.retK (fun v5 H6 =>
  dBl v5 (fun b7 =>
  sB (!b7) (R (Ending.returned (Value.int IntKind.i64 2)) H6) (HCalls Tryz.prog 88 #[Value.slice x1a x1n x1c, Value.func (Fn.func 198) #[] #[Value.pointer (some (Addr.mk r1 0 none))]] H6 (Sp.retK (fun v8 H9 =>
  dBl v8 (fun b10 =>
  sB b10 (R (Ending.returned (Value.int IntKind.i64 70)) H9) (ld H9 (Addr.mk r1 0 none) (fun v11 =>
  dPtr v11 (fun p12 =>
  HCalls Tryz.prog 133 #[Value.pointer p12, Value.slice x1a x1n x1c] H9 (Sp.retK (fun v13 H14 =>
  dSl v13 (fun p15 r16 r17 =>
  ∃ I18 : List Value → Heap → Prop,
  ∃ I19 : List Value → Heap → Nat,
  (I18 ([Value.int IntKind.i64 0]) H14) ∧
  ∀ n20 : Int,
  ∀ v21 v22 v23 v24 v25 v26 v27 v28 v29 v30 v31 v32 v33 v34 v35 v36 v37 v38 v39 v40 v41 v42 v43 v44 v45 v46 : Value,
  ∀ H47 : Heap,
  (I18 ([Value.int IntKind.i64 n20]) H47) →
  sB (decide (n20 < (↑r16 : Int))) (nz p15 (fun a49 =>
  ask ((0 : Int) ≤ n20 ∧ n20 < (↑r16 : Int)) (ld H47 (Addr.add a49 (Int.toNat n20 * 1)) (fun v50 =>
  dInt IntKind.i64 v50 (fun n51 =>
  ld H47 (Addr.mk r1 0 none) (fun v52 =>
  dPtr v52 (fun p53 =>
  ld H47 (Addr.mk r1 0 none) (fun v54 =>
  dPtr v54 (fun p55 =>
  nz p55 (fun a56 =>
  ld H47 (Addr.add a56 2) (fun v57 =>
  dMap v57 (fun p58 =>
  semW Tryz.prog (Instr.lookup 190 (Value.map p58) (Value.int IntKind.i64 n51) false) nopR H47 (fun v61 H62 =>
  dA 5 v61 (fun v63 v64 v65 v66 v67 =>
  (ld H62 (Addr.mk r1 0 none) (fun v68 =>
  dPtr v68 (fun p69 =>
  (Value.pointer p69) = (Value.pointer p53)))) ∧
  dSl v67 (fun p70 r71 r72 =>
  HCalls Tryz.prog 133 #[Value.pointer p53, Value.slice p70 r71 r72] H62 (Sp.retK (fun v73 H74 =>
  dSl v73 (fun p75 r76 r77 =>
  ∃ I78 : List Value → Heap → Prop,
  ∃ I79 : List Value → Heap → Nat,
  (I78 ([Value.int IntKind.i64 0]) H74) ∧
  ∀ n80 : Int,
  ∀ v81 v82 v83 v84 v85 v86 v87 v88 v89 v90 : Value,
  ∀ H91 : Heap,
  (I78 ([Value.int IntKind.i64 n80]) H91) →
  sB (decide (n80 < (↑r76 : Int))) (nz p75 (fun a93 =>
  ask ((0 : Int) ≤ n80 ∧ n80 < (↑r76 : Int)) (ld H91 (Addr.add a93 (Int.toNat n80 * 1)) (fun v94 =>
  dInt IntKind.i64 v94 (fun n95 =>
  HCalls Tryz.prog 169 #[Value.slice p15 r16 r17, Value.int IntKind.i64 n95] H91 (Sp.retK (fun v96 H97 =>
  dBl v96 (fun b98 =>
  sB (!b98) (R (Ending.returned (Value.int IntKind.i64 3)) H97) (wr IntKind.i64 (n80 + 1) (fun n99 =>
  (I78 ([Value.int IntKind.i64 n99]) H97) ∧
  (I79 [Value.int IntKind.i64 n99] H97) < (I79 [Value.int IntKind.i64 n80] H91))))) (pnR R))))))) (wr IntKind.i64 (n20 + 1) (fun n102 =>
  (I18 ([Value.int IntKind.i64 n102]) H91) ∧
  (I19 [Value.int IntKind.i64 n102] H91) < (I19 [Value.int IntKind.i64 n20] H47))))) nopR)))))))))))))))) (∃ I105 : List Value → Heap → Prop,
  ∃ I106 : List Value → Heap → Nat,
  (I105 ([Value.int IntKind.i64 0]) H47) ∧
  ∀ n107 : Int,
  ∀ v108 v109 v110 v111 v112 v113 v114 v115 v116 v117 v118 v119 v120 v121 v122 v123 : Value,
  ∀ H124 : Heap,
  (I105 ([Value.int IntKind.i64 n107]) H124) →
  sB (decide (n107 < (↑r16 : Int))) (nz p15 (fun a126 =>
  ask ((0 : Int) ≤ n107 ∧ n107 < (↑r16 : Int)) (ld H124 (Addr.add a126 (Int.toNat n107 * 1)) (fun v127 =>
  dInt IntKind.i64 v127 (fun n128 =>
  ld H124 (Addr.mk r1 0 none) (fun v129 =>
  dPtr v129 (fun p130 =>
  nz p130 (fun a131 =>
  ld H124 (Addr.add a131 2) (fun v132 =>
  dMap v132 (fun p133 =>
  semW Tryz.prog (Builtin.delete_ #[190, 3] 0 #[Value.map p133, Value.int IntKind.i64 n128]) (pnR R) H124 (fun v136 H137 =>
  ld H137 (Addr.mk r1 0 none) (fun v138 =>
  dPtr v138 (fun p139 =>
  nz p139 (fun a140 =>
  ld H137 (Addr.add a140 1) (fun v141 =>
  dMap v141 (fun p142 =>
  semW Tryz.prog (Instr.mapUpdate 189 (Value.map p142) (Value.int IntKind.i64 n128) (Value.agg #[])) (pnR R) H137 (fun x145 H146 =>
  wr IntKind.i64 (n107 + 1) (fun n147 =>
  (I105 ([Value.int IntKind.i64 n147]) H146) ∧
  (I106 [Value.int IntKind.i64 n147] H146) < (I106 [Value.int IntKind.i64 n107] H124))))))))))))))))))) (R (Ending.returned (Value.int IntKind.i64 0)) H124)))) (pnR R))))))) (pnR R))))) (pnR R)))))
theorem F147_eq (x0 : Option Addr) (x1a : Option Addr) (x1n : Nat) (x1c : Nat) (R : Ending → Heap → Prop) (H : Heap) : F147 x0 x1a x1n x1c R H = vc Tryz.prog (codeOf Tryz.f147) (.node none .leaf (.node none .leaf (.node none .leaf (.node none (.node none .leaf (.node none (.node (some ⟨[(25, 3)], [4, 7, 9, 26, 27, 28, 29, 30, 31, 32, 33, 34, 35, 36, 37, 38, 39, 40, 41, 42, 43, 44, 45, 46, 47, 48]⟩) (.node none .leaf (.node none .leaf (.node none (.node none (.node none .leaf (.node none .leaf (.node none (.node (some ⟨[(39, 3)], [4, 9, 40, 41, 42, 43, 44, 45, 46, 47]⟩) .leaf .leaf) .leaf))) .leaf) .leaf))) .leaf) .leaf)) (.node none (.node none .leaf (.node none (.node (some ⟨[(51, 3)], [11, 52, 53, 54, 55, 56, 57, 58, 59, 60, 61, 62, 63, 64, 65, 66]⟩) .leaf .leaf) .leaf)) .leaf))))) (postV Tryz.prog Tryz.f147 R) ⟨#[Value.pointer x0, Value.slice x1a x1n x1c] ++ Array.replicate (Tryz.f147.ntmps - 2) undef, []⟩ H := by kernel_rfl
theorem F147_calls {R : Ending → Heap → Prop} {H : Heap} (x0 : Option Addr) (x1a : Option Addr) (x1n : Nat) (x1c : Nat) (h : F147 x0 x1a x1n x1c R H) : HCalls Tryz.prog 147 #[Value.pointer x0, Value.slice x1a x1n x1c] H R :=
  calls_by (F := F147 x0 x1a x1n x1c R H) (.node none .leaf (.node none .leaf (.node none .leaf (.node none (.node none .leaf (.node none (.node (some ⟨[(25, 3)], [4, 7, 9, 26, 27, 28, 29, 30, 31, 32, 33, 34, 35, 36, 37, 38, 39, 40, 41, 42, 43, 44, 45, 46, 47, 48]⟩) (.node none .leaf (.node none .leaf (.node none (.node none (.node none .leaf (.node none .leaf (.node none (.node (some ⟨[(39, 3)], [4, 9, 40, 41, 42, 43, 44, 45, 46, 47]⟩) .leaf .leaf) .leaf))) .leaf) .leaf))) .leaf) .leaf)) (.node none (.node none .leaf (.node none (.node (some ⟨[(51, 3)], [11, 52, 53, 54, 55, 56, 57, 58, 59, 60, 61, 62, 63, 64, 65, 66]⟩) .leaf .leaf) .leaf)) .leaf))))) Tryz.func147 rfl (F147_eq x0 x1a x1n x1c R H) h
/-- slices.IndexFunc[[]int,int] -/
def F148 (x0a : Option Addr) (x0n : Nat) (x0c : Nat) (x1g : Nat) (x1f : Array Value) (x1c : Array Value) (R : Ending → Heap → Prop) (H : Heap) : Prop :=
  ∃ I1 : List Value → Heap → Prop,
  ∃ I2 : List Value → Heap → Nat,
  (I1 ([Value.int IntKind.i64 0]) H) ∧
  ∀ n3 : Int,
  ∀ v4 v5 v6 v7 v8 v9 v10 v11 v12 v13 v14 v15 : Value,
  ∀ H16 : Heap,
  (I1 ([Value.int IntKind.i64 n3]) H16) →
  sB (decide (n3 < (↑x0n : Int))) (nz x0a (fun a18 =>
  ask ((0 : Int) ≤ n3 ∧ n3 < (↑x0n : Int)) (ld H16 (Addr.add a18 (Int.toNat n3 * 1)) (fun v19 =>
  dInt IntKind.i64 v19 (fun n20 =>
  gB (plainFn Tryz.prog x1g) (HCalls Tryz.prog x1g (argsOf x1f [Value.int IntKind.i64 n20] x1c) H16 (Sp.retK (fun v21 H22 =>
  dBl v21 (fun b23 =>
  sB b23 (R (Ending.returned (Value.int IntKind.i64 n3)) H22) (wr IntKind.i64 (n3 + 1) (fun n24 =>
  (I1 ([Value.int IntKind.i64 n24]) H22) ∧
  (I2 [Value.int IntKind.i64 n24] H22) < (I2 [Value.int IntKind.i64 n3] H16))))) (pnR R)))))))) (R (Ending.returned (Value.int IntKind.i64 (-1))) H16)
theorem F148_eq (x0a : Option Addr) (x0n : Nat) (x0c : Nat) (x1g : Nat) (x1f : Array Value) (x1c : Array Value) (R : Ending → Heap → Prop) (H : Heap) : F148 x0a x0n x0c x1g x1f x1c R H = vc Tryz.prog (codeOf Tryz.f148) (.node none .leaf (.node none (.node none .leaf (.node none (.node (some ⟨[(8, 3)], [4, 5, 9, 10, 11, 12, 13, 14, 15, 16, 17, 18]⟩) .leaf .leaf) .leaf)) .leaf)) (postV Tryz.prog Tryz.f148 R) ⟨#[Value.slice x0a x0n x0c, Value.func (Fn.func x1g) x1f x1c] ++ Array.replicate (Tryz.f148.ntmps - 2) undef, []⟩ H := by kernel_rfl
theorem F148_calls {R : Ending → Heap → Prop} {H : Heap} (x0a : Option Addr) (x0n : Nat) (x0c : Nat) (x1g : Nat) (x1f : Array Value) (x1c : Array Value) (h : F148 x0a x0n x0c x1g x1f x1c R H) : HCalls Tryz.prog 148 #[Value.slice x0a x0n x0c, Value.func (Fn.func x1g) x1f x1c] H R :=
  calls_by (F := F148 x0a x0n x0c x1g x1f x1c R H) (.node none .leaf (.node none (.node none .leaf (.node none (.node (some ⟨[(8, 3)], [4, 5, 9, 10, 11, 12, 13, 14, 15, 16, 17, 18]⟩) .leaf .leaf) .leaf)) .leaf)) Tryz.func148 rfl (F148_eq x0a x0n x0c x1g x1f x1c R H) h
/-- slices.IndexFunc[[]bollard/api.Sent,bollard/api.Sent] -/
def F149 (x0a : Option Addr) (x0n : Nat) (x0c : Nat) (x1g : Nat) (x1f : Array Value) (x1c : Array Value) (R : Ending → Heap → Prop) (H : Heap) : Prop :=
  ∃ I1 : List Value → Heap → Prop,
  ∃ I2 : List Value → Heap → Nat,
  (I1 ([Value.int IntKind.i64 0]) H) ∧
  ∀ n3 : Int,
  ∀ v4 v5 v6 v7 v8 v9 v10 v11 v12 v13 v14 v15 : Value,
  ∀ H16 : Heap,
  (I1 ([Value.int IntKind.i64 n3]) H16) →
  sB (decide (n3 < (↑x0n : Int))) (nz x0a (fun a18 =>
  ask ((0 : Int) ≤ n3 ∧ n3 < (↑x0n : Int)) (ld H16 (Addr.add a18 (Int.toNat n3 * 3)) (fun v19 =>
  ld H16 (Addr.add (Addr.add a18 (Int.toNat n3 * 3)) 1) (fun v20 =>
  ld H16 (Addr.add (Addr.add a18 (Int.toNat n3 * 3)) 2) (fun v21 =>
  gB (plainFn Tryz.prog x1g) (HCalls Tryz.prog x1g (argsOf x1f [Value.agg #[v19, v20, v21]] x1c) H16 (Sp.retK (fun v22 H23 =>
  dBl v22 (fun b24 =>
  sB b24 (R (Ending.returned (Value.int IntKind.i64 n3)) H23) (wr IntKind.i64 (n3 + 1) (fun n25 =>
  (I1 ([Value.int IntKind.i64 n25]) H23) ∧
  (I2 [Value.int IntKind.i64 n25] H23) < (I2 [Value.int IntKind.i64 n3] H16))))) (pnR R))))))))) (R (Ending.returned (Value.int IntKind.i64 (-1))) H16)
theorem F149_eq (x0a : Option Addr) (x0n : Nat) (x0c : Nat) (x1g : Nat) (x1f : Array Value) (x1c : Array Value) (R : Ending → Heap → Prop) (H : Heap) : F149 x0a x0n x0c x1g x1f x1c R H = vc Tryz.prog (codeOf Tryz.f149) (.node none .leaf (.node none (.node none .leaf (.node none (.node (some ⟨[(8, 3)], [4, 5, 9, 10, 11, 12, 13, 14, 15, 16, 17, 18]⟩) .leaf .leaf) .leaf)) .leaf)) (postV Tryz.prog Tryz.f149 R) ⟨#[Value.slice x0a x0n x0c, Value.func (Fn.func x1g) x1f x1c] ++ Array.replicate (Tryz.f149.ntmps - 2) undef, []⟩ H := by kernel_rfl
theorem F149_calls {R : Ending → Heap → Prop} {H : Heap} (x0a : Option Addr) (x0n : Nat) (x0c : Nat) (x1g : Nat) (x1f : Array Value) (x1c : Array Value) (h : F149 x0a x0n x0c x1g x1f x1c R H) : HCalls Tryz.prog 149 #[Value.slice x0a x0n x0c, Value.func (Fn.func x1g) x1f x1c] H R :=
  calls_by (F := F149 x0a x0n x0c x1g x1f x1c R H) (.node none .leaf (.node none (.node none .leaf (.node none (.node (some ⟨[(8, 3)], [4, 5, 9, 10, 11, 12, 13, 14, 15, 16, 17, 18]⟩) .leaf .leaf) .leaf)) .leaf)) Tryz.func149 rfl (F149_eq x0a x0n x0c x1g x1f x1c R H) h
/-- (*bollard/disk.Disk).place$1 -/
def F150 (x0_0 : Value) (x0_1 : Value) (x0_2 : Value) (f0 : Addr) (R : Ending → Heap → Prop) (H : Heap) : Prop :=
  al H (Obj.cells #[x0_0, x0_1, x0_2] 96) (fun r1 H2 =>
  ld H2 (Addr.mk r1 0 none) (fun v3 =>
  dInt IntKind.i64 v3 (fun n4 =>
  ld H2 f0 (fun v5 =>
  dInt IntKind.i64 v5 (fun n6 =>
  R (Ending.returned (Value.bool (n4 == n6))) H2)))))
theorem F150_eq (x0_0 : Value) (x0_1 : Value) (x0_2 : Value) (f0 : Addr) (R : Ending → Heap → Prop) (H : Heap) : F150 x0_0 x0_1 x0_2 f0 R H = vc Tryz.prog (codeOf Tryz.f150) .leaf (postV Tryz.prog Tryz.f150 R) ⟨#[Value.agg #[x0_0, x0_1, x0_2], Value.pointer (some f0)] ++ Array.replicate (Tryz.f150.ntmps - 2) undef, []⟩ H := by kernel_rfl
theorem F150_calls {R : Ending → Heap → Prop} {H : Heap} (x0_0 : Value) (x0_1 : Value) (x0_2 : Value) (f0 : Addr) (h : F150 x0_0 x0_1 x0_2 f0 R H) : HCalls Tryz.prog 150 #[Value.agg #[x0_0, x0_1, x0_2], Value.pointer (some f0)] H R :=
  calls_by (F := F150 x0_0 x0_1 x0_2 f0 R H) .leaf Tryz.func150 rfl (F150_eq x0_0 x0_1 x0_2 f0 R H) h
end Go.Proofs.YtngploohhmfaiaaGreat.E
/- The functions' forms in the engine's words, printed by my own program. -/
namespace Go.Proofs.YtngploohhmfaiaaGreat.E
open Go Go.Proofs
set_option linter.unusedVariables false
/-- slices.Compact[[]int,int] -/
def F157 (x0a : Option Addr) (x0n : Nat) (x0c : Nat) (R : Ending → Heap → Prop) (H : Heap) : Prop :=
  sB (decide ((↑x0n : Int) < 2)) (R (Ending.returned (Value.slice x0a x0n x0c)) H) (∃ I1 : List Value → Heap → Prop,
  ∃ I2 : List Value → Heap → Nat,
  (I1 ([Value.int IntKind.i64 1]) H) ∧
  ∀ n3 : Int,
  ∀ v4 v5 v6 v7 v8 v9 v10 v11 v12 v13 v14 v15 v16 v17 v18 v19 v20 v21 v22 v23 v24 v25 v26 v27 v28 v29 v30 v31 v32 v33 v34 v35 v36 v37 v38 v39 v40 v41 v42 v43 v44 v45 v46 v47 v48 v49 v50 v51 v52 v53 v54 v55 v56 : Value,
  ∀ H57 : Heap,
  (I1 ([Value.int IntKind.i64 n3]) H57) →
  sB (decide (n3 < (↑x0n : Int))) (nz x0a (fun a59 =>
  ask ((0 : Int) ≤ n3 ∧ n3 < (↑x0n : Int)) (ld H57 (Addr.add a59 (Int.toNat n3 * 1)) (fun v60 =>
  dInt IntKind.i64 v60 (fun n61 =>
  wr IntKind.i64 (n3 - 1) (fun n62 =>
  nz x0a (fun a63 =>
  ask ((0 : Int) ≤ n62 ∧ n62 < (↑x0n : Int)) (ld H57 (Addr.add a63 (Int.toNat n62 * 1)) (fun v64 =>
  dInt IntKind.i64 v64 (fun n65 =>
  sB (n61 == n65) (ask ((0 : Int) ≤ n3 ∧ n3 ≤ (↑x0n : Int) ∧ (↑x0n : Int) ≤ (↑x0c : Int) ∧ (↑x0c : Int) ≤ (↑x0c : Int)) (∃ I66 : List Value → Heap → Prop,
  ∃ I67 : List Value → Heap → Nat,
  (I66 ([Value.int IntKind.i64 n3, Value.int IntKind.i64 1]) H57) ∧
  ∀ n68 : Int,
  ∀ n69 : Int,
  ∀ v70 v71 v72 v73 v74 v75 v76 v77 v78 v79 v80 v81 v82 v83 v84 v85 v86 v87 v88 v89 v90 v91 v92 v93 v94 : Value,
  ∀ H95 : Heap,
  (I66 ([Value.int IntKind.i64 n68, Value.int IntKind.i64 n69]) H95) →
  sB (decide (n69 < (↑(Int.toNat (↑x0n : Int) - Int.toNat n3) : Int))) (jn (α := VFH 1) (fun v97 H98 =>
  ∀ v99 v100 v101 v102 v103 v104 v105 v106 v107 v108 v109 v110 v111 v112 v113 v114 v115 v116 v117 : Value,
  dInt IntKind.i64 v97 (fun n118 =>
  wr IntKind.i64 (n69 + 1) (fun n119 =>
  (I66 ([Value.int IntKind.i64 n118, Value.int IntKind.i64 n119]) H98) ∧
  (I67 [Value.int IntKind.i64 n118, Value.int IntKind.i64 n119] H98) < (I67 [Value.int IntKind.i64 n68, Value.int IntKind.i64 n69] H95)))) (fun k120 =>
  nz (slO x0a 1 n3 (↑x0c : Int)) (fun a121 =>
  ask ((0 : Int) ≤ n69 ∧ n69 < (↑(Int.toNat (↑x0n : Int) - Int.toNat n3) : Int)) (ld H95 (Addr.add a121 (Int.toNat n69 * 1)) (fun v122 =>
  dInt IntKind.i64 v122 (fun n123 =>
  wr IntKind.i64 (n69 - 1) (fun n124 =>
  nz (slO x0a 1 n3 (↑x0c : Int)) (fun a125 =>
  ask ((0 : Int) ≤ n124 ∧ n124 < (↑(Int.toNat (↑x0n : Int) - Int.toNat n3) : Int)) (ld H95 (Addr.add a125 (Int.toNat n124 * 1)) (fun v126 =>
  dInt IntKind.i64 v126 (fun n127 =>
  sB (n123 != n127) (nz (slO x0a 1 n3 (↑x0c : Int)) (fun a128 =>
  ask ((0 : Int) ≤ n69 ∧ n69 < (↑(Int.toNat (↑x0n : Int) - Int.toNat n3) : Int)) (ld H95 (Addr.add a128 (Int.toNat n69 * 1)) (fun v129 =>
  dInt IntKind.i64 v129 (fun n130 =>
  nz x0a (fun a131 =>
  ask ((0 : Int) ≤ n68 ∧ n68 < (↑x0n : Int)) (st H95 (Addr.add a131 (Int.toNat n68 * 1)) (Value.int IntKind.i64 n130) (fun H132 =>
  wr IntKind.i64 (n68 + 1) (fun n133 =>
  k120 (Value.int IntKind.i64 n133) H132))))))))) (k120 (Value.int IntKind.i64 n68) H95)))))))))))) (ask ((0 : Int) ≤ n68 ∧ n68 ≤ (↑x0n : Int) ∧ (↑x0n : Int) ≤ (↑x0c : Int) ∧ (↑x0c : Int) ≤ (↑x0c : Int)) (semW Tryz.prog (Builtin.clear_ #[73] 0 #[Value.slice (slO x0a 1 n68 (↑x0c : Int)) (Int.toNat (↑x0n : Int) - Int.toNat n68) (Int.toNat (↑x0c : Int) - Int.toNat n68)]) (pnR R) H95 (fun v136 H137 =>
  ask ((0 : Int) ≤ (0 : Int) ∧ (0 : Int) ≤ n68 ∧ n68 ≤ (↑x0c : Int) ∧ (↑x0c : Int) ≤ (↑x0c : Int)) (R (Ending.returned (Value.slice (slO x0a 1 0 (↑x0c : Int)) (Int.toNat n68 - Int.toNat 0) (Int.toNat (↑x0c : Int) - Int.toNat 0))) H137)))))) (wr IntKind.i64 (n3 + 1) (fun n138 =>
  (I1 ([Value.int IntKind.i64 n138]) H57) ∧
  (I2 [Value.int IntKind.i64 n138] H57) < (I2 [Value.int IntKind.i64 n3] H57))))))))))))) (R (Ending.returned (Value.slice x0a x0n x0c)) H57))
theorem F157_eq (x0a : Option Addr) (x0n : Nat) (x0c : Nat) (R : Ending → Heap → Prop) (H : Heap) : F157 x0a x0n x0c R H = vc Tryz.prog (codeOf Tryz.f157) (.node none .leaf (.node none .leaf (.node none (.node none .leaf (.node none (.node (some ⟨[(3, 3)], [2, 4, 5, 10, 11, 12, 13, 14, 15, 16, 17, 18, 19, 20, 21, 22, 23, 24, 25, 26, 27, 28, 29, 30, 31, 32, 33, 34, 35, 36, 37, 38, 39, 40, 41, 42, 43, 44, 45, 46, 47, 48, 49, 50, 51, 52, 53, 54, 55, 56, 57, 58, 59]⟩) (.node none .leaf (.node none (.node none (.node none .leaf (.node none (.node none .leaf (.node none (.node none .leaf (.node none (.node (some ⟨[(3, 3), (5, 3)], [29, 30, 31, 32, 33, 34, 35, 36, 37, 38, 39, 40, 41, 42, 43, 44, 45, 46, 47, 48, 49, 50, 51, 52, 53]⟩) (.node none .leaf (.node (some ⟨[(3, 3)], [35, 36, 37, 38, 39, 40, 41, 42, 43, 44, 45, 46, 47, 48, 49, 50, 51, 52, 53]⟩) .leaf .leaf)) .leaf) .leaf)) .leaf)) .leaf)) .leaf) .leaf)) .leaf) .leaf)) .leaf))) (postV Tryz.prog Tryz.f157 R) ⟨#[Value.slice x0a x0n x0c] ++ Array.replicate (Tryz.f157.ntmps - 1) undef, []⟩ H := by kernel_rfl
theorem F157_calls {R : Ending → Heap → Prop} {H : Heap} (x0a : Option Addr) (x0n : Nat) (x0c : Nat) (h : F157 x0a x0n x0c R H) : HCalls Tryz.prog 157 #[Value.slice x0a x0n x0c] H R :=
  calls_by (F := F157 x0a x0n x0c R H) (.node none .leaf (.node none .leaf (.node none (.node none .leaf (.node none (.node (some ⟨[(3, 3)], [2, 4, 5, 10, 11, 12, 13, 14, 15, 16, 17, 18, 19, 20, 21, 22, 23, 24, 25, 26, 27, 28, 29, 30, 31, 32, 33, 34, 35, 36, 37, 38, 39, 40, 41, 42, 43, 44, 45, 46, 47, 48, 49, 50, 51, 52, 53, 54, 55, 56, 57, 58, 59]⟩) (.node none .leaf (.node none (.node none (.node none .leaf (.node none (.node none .leaf (.node none (.node none .leaf (.node none (.node (some ⟨[(3, 3), (5, 3)], [29, 30, 31, 32, 33, 34, 35, 36, 37, 38, 39, 40, 41, 42, 43, 44, 45, 46, 47, 48, 49, 50, 51, 52, 53]⟩) (.node none .leaf (.node (some ⟨[(3, 3)], [35, 36, 37, 38, 39, 40, 41, 42, 43, 44, 45, 46, 47, 48, 49, 50, 51, 52, 53]⟩) .leaf .leaf)) .leaf) .leaf)) .leaf)) .leaf)) .leaf) .leaf)) .leaf) .leaf)) .leaf))) Tryz.func157 rfl (F157_eq x0a x0n x0c R H) h
/-- slices.Sorted[int] -/
def F166 (x0g : Nat) (x0f : Array Value) (x0c : Array Value) (R : Ending → Heap → Prop) (H : Heap) : Prop :=
  HCalls Tryz.prog 216 #[Value.func (Fn.func x0g) x0f x0c] H (Sp.retK (fun v1 H2 =>
  dSl v1 (fun p3 r4 r5 =>
  HCalls Tryz.prog 156 #[Value.slice p3 r4 r5] H2 (Sp.retK (fun v6 H7 =>
  R (Ending.returned (Value.slice p3 r4 r5)) H7) (pnR R)))) (pnR R))
theorem F166_eq (x0g : Nat) (x0f : Array Value) (x0c : Array Value) (R : Ending → Heap → Prop) (H : Heap) : F166 x0g x0f x0c R H = vc Tryz.prog (codeOf Tryz.f166) .leaf (postV Tryz.prog Tryz.f166 R) ⟨#[Value.func (Fn.func x0g) x0f x0c] ++ Array.replicate (Tryz.f166.ntmps - 1) undef, []⟩ H := by kernel_rfl
theorem F166_calls {R : Ending → Heap → Prop} {H : Heap} (x0g : Nat) (x0f : Array Value) (x0c : Array Value) (h : F166 x0g x0f x0c R H) : HCalls Tryz.prog 166 #[Value.func (Fn.func x0g) x0f x0c] H R :=
  calls_by (F := F166 x0g x0f x0c R H) .leaf Tryz.func166 rfl (F166_eq x0g x0f x0c R H) h
/-- slices.Contains[[]int,int] -/
def F169 (x0a : Option Addr) (x0n : Nat) (x0c : Nat) (x1 : Int) (R : Ending → Heap → Prop) (H : Heap) : Prop :=
  HCalls Tryz.prog 218 #[Value.slice x0a x0n x0c, Value.int IntKind.i64 x1] H (Sp.retK (fun v1 H2 =>
  dInt IntKind.i64 v1 (fun n3 =>
  R (Ending.returned (Value.bool (decide (n3 ≥ 0)))) H2)) (pnR R))
theorem F169_eq (x0a : Option Addr) (x0n : Nat) (x0c : Nat) (x1 : Int) (R : Ending → Heap → Prop) (H : Heap) : F169 x0a x0n x0c x1 R H = vc Tryz.prog (codeOf Tryz.f169) .leaf (postV Tryz.prog Tryz.f169 R) ⟨#[Value.slice x0a x0n x0c, Value.int IntKind.i64 x1] ++ Array.replicate (Tryz.f169.ntmps - 2) undef, []⟩ H := by kernel_rfl
theorem F169_calls {R : Ending → Heap → Prop} {H : Heap} (x0a : Option Addr) (x0n : Nat) (x0c : Nat) (x1 : Int) (h : F169 x0a x0n x0c x1 R H) : HCalls Tryz.prog 169 #[Value.slice x0a x0n x0c, Value.int IntKind.i64 x1] H R :=
  calls_by (F := F169 x0a x0n x0c x1 R H) .leaf Tryz.func169 rfl (F169_eq x0a x0n x0c x1 R H) h
/-- (*bollard/patch.Set).all -/
def F170 (x0 : Option Addr) (R : Ending → Heap → Prop) (H : Heap) : Prop :=
  nz x0 (fun a1 =>
  ld H (Addr.add a1 2) (fun v2 =>
  dMap v2 (fun p3 =>
  HCalls Tryz.prog 219 #[Value.map p3] H (Sp.retK (fun v4 H5 =>
  HCalls Tryz.prog 166 #[v4] H5 (Sp.retK (fun v6 H7 =>
  dSl v6 (fun p8 r9 r10 =>
  R (Ending.returned (Value.slice p8 r9 r10)) H7)) (pnR R))) (pnR R)))))
theorem F170_eq (x0 : Option Addr) (R : Ending → Heap → Prop) (H : Heap) : F170 x0 R H = vc Tryz.prog (codeOf Tryz.f170) .leaf (postV Tryz.prog Tryz.f170 R) ⟨#[Value.pointer x0] ++ Array.replicate (Tryz.f170.ntmps - 1) undef, []⟩ H := by kernel_rfl
theorem F170_calls {R : Ending → Heap → Prop} {H : Heap} (x0 : Option Addr) (h : F170 x0 R H) : HCalls Tryz.prog 170 #[Value.pointer x0] H R :=
  calls_by (F := F170 x0 R H) .leaf Tryz.func170 rfl (F170_eq x0 R H) h
/-- (*bollard/patch.Set).Of$1 -/
def F171 (x0 : Int) (f0 : Addr) (f1 : Addr) (R : Ending → Heap → Prop) (H : Heap) : Prop :=
  ld H f0 (fun v1 =>
  dPtr v1 (fun p2 =>
  nz p2 (fun a3 =>
  ld H (Addr.add a3 2) (fun v4 =>
  dMap v4 (fun p5 =>
  ld H f1 (fun v6 =>
  dInt IntKind.i64 v6 (fun n7 =>
  semW Tryz.prog (Instr.lookup 190 (Value.map p5) (Value.int IntKind.i64 x0) false) nopR H (fun v10 H11 =>
  dA 5 v10 (fun v12 v13 v14 v15 v16 =>
  (ld H11 f1 (fun v17 =>
  dInt IntKind.i64 v17 (fun n18 =>
  (Value.int IntKind.i64 n18) = (Value.int IntKind.i64 n7)))) ∧
  dInt IntKind.i64 v13 (fun n19 =>
  R (Ending.returned (Value.bool (n19 != n7))) H11))))))))))
theorem F171_eq (x0 : Int) (f0 : Addr) (f1 : Addr) (R : Ending → Heap → Prop) (H : Heap) : F171 x0 f0 f1 R H = vc Tryz.prog (codeOf Tryz.f171) .leaf (postV Tryz.prog Tryz.f171 R) ⟨#[Value.int IntKind.i64 x0, Value.pointer (some f0), Value.pointer (some f1)] ++ Array.replicate (Tryz.f171.ntmps - 3) undef, []⟩ H := by kernel_rfl
theorem F171_calls {R : Ending → Heap → Prop} {H : Heap} (x0 : Int) (f0 : Addr) (f1 : Addr) (h : F171 x0 f0 f1 R H) : HCalls Tryz.prog 171 #[Value.int IntKind.i64 x0, Value.pointer (some f0), Value.pointer (some f1)] H R :=
  calls_by (F := F171 x0 f0 f1 R H) .leaf Tryz.func171 rfl (F171_eq x0 f0 f1 R H) h
/-- (*bollard/cache.Cache).get -/
def F188 (x0 : Option Addr) (x1 : Int) (R : Ending → Heap → Prop) (H : Heap) : Prop :=
  HCalls Tryz.prog 197 #[Value.pointer x0, Value.int IntKind.i64 x1] H (Sp.retK (fun v1 H2 =>
  dInt IntKind.i64 v1 (fun n3 =>
  sB (n3 != 0) (R (Ending.returned (Value.tuple #[Value.pointer none, Value.int IntKind.i64 n3])) H2) (nz x0 (fun a4 =>
  ld H2 (Addr.add a4 2) (fun v5 =>
  dMap v5 (fun p6 =>
  semW Tryz.prog (Instr.lookup 201 (Value.map p6) (Value.int IntKind.i64 x1) true) (pnR R) H2 (fun v9 H10 =>
  dT 2 v9 (fun v11 v12 =>
  dPtr v11 (fun p13 =>
  dBl v12 (fun b14 =>
  jn (α := VFH 1) (fun v15 H16 =>
  ∀ v17 v18 v19 v20 v21 v22 v23 v24 v25 v26 v27 v28 v29 v30 v31 v32 v33 v34 v35 v36 v37 v38 v39 v40 v41 v42 v43 v44 v45 : Value,
  dPtr v15 (fun p46 =>
  nz x0 (fun a47 =>
  ld H16 (Addr.add a47 3) (fun v48 =>
  dInt IntKind.i64 v48 (fun n49 =>
  wr IntKind.i64 (n49 + 1) (fun n50 =>
  nz x0 (fun a51 =>
  st H16 (Addr.add a51 3) (Value.int IntKind.i64 n50) (fun H52 =>
  nz x0 (fun a53 =>
  ld H52 (Addr.add a53 3) (fun v54 =>
  dInt IntKind.i64 v54 (fun n55 =>
  nz p46 (fun a56 =>
  st H52 (Addr.add a56 2) (Value.int IntKind.i64 n55) (fun H57 =>
  R (Ending.returned (Value.tuple #[Value.pointer p46, Value.int IntKind.i64 0])) H57))))))))))))) (fun k58 =>
  sB b14 (nz x0 (fun a59 =>
  ld H10 (Addr.add a59 4) (fun v60 =>
  dInt IntKind.i64 v60 (fun n61 =>
  wr IntKind.i64 (n61 + 1) (fun n62 =>
  nz x0 (fun a63 =>
  st H10 (Addr.add a63 4) (Value.int IntKind.i64 n62) (fun H64 =>
  k58 (Value.pointer p13) H64))))))) (nz x0 (fun a65 =>
  ld H10 (Addr.add a65 5) (fun v66 =>
  dInt IntKind.i64 v66 (fun n67 =>
  wr IntKind.i64 (n67 + 1) (fun n68 =>
  nz x0 (fun a69 =>
  st H10 (Addr.add a69 5) (Value.int IntKind.i64 n68) (fun H70 =>
  HCalls Tryz.prog 231 #[Value.pointer x0, Value.int IntKind.i64 x1] H70 (Sp.retK (fun v71 H72 =>
  dT 2 v71 (fun v73 v74 =>
  dPtr v73 (fun p75 =>
  dInt IntKind.i64 v74 (fun n76 =>
  sB (n76 != 0) (R (Ending.returned (Value.tuple #[Value.pointer none, Value.int IntKind.i64 n76])) H72) (k58 (Value.pointer p75) H72))))) (pnR R)))))))))))))))))))) (pnR R))
theorem F188_eq (x0 : Option Addr) (x1 : Int) (R : Ending → Heap → Prop) (H : Heap) : F188 x0 x1 R H = vc Tryz.prog (codeOf Tryz.f188) (.node none .leaf (.node none .leaf (.node none .leaf (.node (some ⟨[(7, 254)], [4, 5, 9, 10, 26, 27, 28, 29, 30, 31, 32, 33, 34, 35, 36, 37, 38, 39, 40, 41, 42, 43, 44, 45, 46, 47, 48, 49, 50]⟩) .leaf .leaf)))) (postV Tryz.prog Tryz.f188 R) ⟨#[Value.pointer x0, Value.int IntKind.i64 x1] ++ Array.replicate (Tryz.f188.ntmps - 2) undef, []⟩ H := by kernel_rfl
theorem F188_calls {R : Ending → Heap → Prop} {H : Heap} (x0 : Option Addr) (x1 : Int) (h : F188 x0 x1 R H) : HCalls Tryz.prog 188 #[Value.pointer x0, Value.int IntKind.i64 x1] H R :=
  calls_by (F := F188 x0 x1 R H) (.node none .leaf (.node none .leaf (.node none .leaf (.node (some ⟨[(7, 254)], [4, 5, 9, 10, 26, 27, 28, 29, 30, 31, 32, 33, 34, 35, 36, 37, 38, 39, 40, 41, 42, 43, 44, 45, 46, 47, 48, 49, 50]⟩) .leaf .leaf)))) Tryz.func188 rfl (F188_eq x0 x1 R H) h
end Go.Proofs.YtngploohhmfaiaaGreat.E
/- Contracts of functions. -/
namespace Go.Proofs.YtngploohhmfaiaaGreat.E
open Go Go.Proofs
set_option linter.unusedVariables false
/-- bytes.Clone -/
theorem c_clone (τ : Nat) {xa : Option Addr} {xn : Nat} (xc : Nat) {l : List UInt8} {τx : Nat} {s : TH} (hx : Sl s xa (bvs l) τx) (hn : l.length = xn) (h0 : xa = none → xn = 0) (hb : xn ≤ 1000000000) : TRet Tryz.prog 48 #[.slice xa xn xc] s fun v s' => ∃ a' c', v = .slice a' xn c' ∧ Ch [] s s' ∧ Own s' a' xn c' 5 1 (bvs l) τ ∧ (a' = none ↔ xa = none) := by
  refine F48_calls _ _ _  ?_
  unfold F48
  first | refine sB_d (fun hsB1 => ?_) (fun hsB1 => ?_) | refine sB_nd (fun hsB1 => ?_) (fun hsB1 => ?_) | refine sB_n (fun hsB1 => ?_) (fun hsB1 => ?_) | refine sB_i (fun hsB1 => ?_) (fun hsB1 => ?_)
  ·
    refine ret_t ?_
    have hxa : xa = none := by simpa using hsB1
    have hl : l = [] := List.eq_nil_of_length_eq_zero (by have := h0 hxa; omega)
    have h0' := h0 hxa
    subst hl h0'
    exact ⟨none, 0, rfl, (Ch.refl [] s), Own.nil _ _ _ _, by simp [hxa]⟩
  ·
    refine al_t τ fun r1 s2 hr1 b_1 c_2 z_3 => ?_
    have x_4 := hx.mv c_2 (tagn (by simp))
    refine app_i u38 in5 rfl (b_1.own0 1) x_4 (by rw [bvs_len]; omega) (bvs_one l) h0 (by unfold maxLen; omega) fun s6 a1 c1 o_7 c_50 hnil => ?_
    have c_5 := c_50.toL rfl
    have z_6 := c_5.size
    refine dSl_i ?_
    refine ret_t ?_
    have hxa : xa ≠ none := by intro h; simp [h] at hsB1
    rw [Nat.zero_add, List.nil_append] at o_7
    simp only [Nat.zero_add]
    exact ⟨a1, c1, rfl, (((Ch.refl [] s).ch c_2 (by simp)).chl c_5 (by simp) (by simp <;> omega)), o_7, by simp [hxa, hnil.1]⟩
end Go.Proofs.YtngploohhmfaiaaGreat.E
/- Contracts of functions. -/
namespace Go.Proofs.YtngploohhmfaiaaGreat.E
open Go Go.Proofs
set_option linter.unusedVariables false
/-- (*bollard/disk.Disk).made -/
theorem c_made (d T : Nat) (D : DiskM) (s : TH) (hT : 10 ≤ T) (hd : Disk s d T D) : TRet Tryz.prog 87 #[.pointer (some ⟨d, 0, none⟩)] s fun v s' => v = .bool true ∧ Ch [] s s' := by
  obtain ⟨pa, pc, qa, qc, hs, qs, fr, fm, hD⟩ := id hd
  have hblk := hD.blk
  have hrows := hD.rows
  have hbrel := hD.brel
  have hque := hD.que
  have hqrel := hD.qrel
  have hfails := hD.fails
  refine F87_calls _  ?_
  unfold F87
  refine sB_t (by rfl) ?_
  refine nz_i ?_
  refine ld_t hblk rfl ?_
  refine dSl_i ?_
  refine ret_t ?_
  exact ⟨ret_b (by have := hD.nb; simp; omega), (Ch.refl [] s)⟩
/-- (*bollard/disk.Disk).Blocks -/
theorem c_blocks (d T : Nat) (D : DiskM) (s : TH) (hT : 10 ≤ T) (hd : Disk s d T D) : TRet Tryz.prog 70 #[.pointer (some ⟨d, 0, none⟩)] s fun v s' => v = .int .i64 (D.blocks.length : Int) ∧ Ch [] s s' := by
  obtain ⟨pa, pc, qa, qc, hs, qs, fr, fm, hD⟩ := id hd
  have hblk := hD.blk
  have hrows := hD.rows
  have hbrel := hD.brel
  have hque := hD.que
  have hqrel := hD.qrel
  have hfails := hD.fails
  refine F70_calls _  ?_
  unfold F70
  refine sB_f (by rfl) ?_
  refine nz_i ?_
  refine ld_t hblk rfl ?_
  refine dSl_i ?_
  refine ret_t ?_
  exact ⟨rfl, (Ch.refl [] s)⟩
/-- (*bollard/disk.Disk).look -/
theorem c_look (d T : Nat) (D : DiskM) (b : Int) (s : TH) (hT : 10 ≤ T) (hd : Disk s d T D) : TRet Tryz.prog 193 #[.pointer (some ⟨d, 0, none⟩), .int .i64 b] s fun v s' => v = .int .i64 (if D.has b then 0 else 1) ∧ Ch [] s s' := by
  obtain ⟨pa, pc, qa, qc, hs, qs, fr, fm, hD⟩ := id hd
  have hblk := hD.blk
  have hrows := hD.rows
  have hbrel := hD.brel
  have hque := hD.que
  have hqrel := hD.qrel
  have hfails := hD.fails
  refine F193_calls _ _  ?_
  unfold F193
  refine tcall (c_made _ _ _ _ hT hd) ?_
  rintro _ s2 ⟨rfl, c_1⟩
  have z_2 := c_1.size
  refine dBl_i ?_
  refine sB_f (by rfl) ?_
  refine jn_u ?_
  refine sB_d (fun hsB2 => ?_) (fun hsB2 => ?_)
  ·
    intro _ _ _ _ _ _ _ _ _ _
    refine dBl_i ?_
    refine sB_t (by rfl) ?_
    refine ret_t ?_
    exact ⟨ret_i (by first | rw [if_pos (by unfold DiskM.has; omega)] | rw [if_neg (by unfold DiskM.has; omega)]), ((Ch.refl [] s).ch c_1 (by simp))⟩
  ·
    refine nz_i ?_
    have blk_3 := hblk.ch c_1 (by simp)
    refine ld_t blk_3 rfl ?_
    refine dSl_i ?_
    intro _ _ _ _ _ _ _ _ _ _
    refine dBl_i ?_
    refine sB_d (fun hsB4 => ?_) (fun hsB4 => ?_)
    ·
      refine ret_t ?_
      exact ⟨ret_i (by first | rw [if_pos (by unfold DiskM.has; omega)] | rw [if_neg (by unfold DiskM.has; omega)]), ((Ch.refl [] s).ch c_1 (by simp))⟩
    ·
      refine ret_t ?_
      exact ⟨ret_i (by first | rw [if_pos (by unfold DiskM.has; omega)] | rw [if_neg (by unfold DiskM.has; omega)]), ((Ch.refl [] s).ch c_1 (by simp))⟩
/-- slices.IndexFunc[[]bollard/api.Sent,bollard/api.Sent] -/
theorem c_ixSent {qa : Option Addr} {n : Nat} (qc : Nat) {g : Nat} {xf xc : Array Value} {qs : List (Int × Int × Hd)} {τ : Nat} {s : TH} (p : Int × Int × Hd → Bool) (hq : Sl s qa (qs.flatMap qv) τ) (hn : qs.length = n) (hn2 : n ≤ 1000000) (hg : plainFn Tryz.prog g = true) (hp : ∀ (s1 : TH) (x : Int × Int × Hd), Ch [] s s1 → TRet Tryz.prog g (argsOf xf [.agg #[.int .i64 x.1, .int .i64 x.2.1, .slice x.2.2.1 128 x.2.2.2]] xc) s1 fun v s2 => v = .bool (p x) ∧ Ch [] s1 s2) : TRet Tryz.prog 149 #[.slice qa n qc, .func (.func g) xf xc] s fun v s' => v = .int .i64 (ixf p qs) ∧ Ch [] s s' := by
  refine F149_calls _ _ _ _ _ _  ?_
  unfold F149
  refine ⟨fun vs H' => ∃ s' : TH, s'.h = H' ∧ ∃ m, vs = [.int .i64 m] ∧ ChL [] [] s s' ∧ (∃ k : Nat, m = k ∧ k ≤ n ∧ ∀ j x, j < k → qs[j]? = some x → p x = false), fun vs H' => match vs with | [.int .i64 m] => ((n : Int) - m).toNat | _ => 0, ⟨s, rfl, _, rfl, ChL.refl _ _ _, ?_⟩, ?_⟩
  ·
    exact ⟨0, rfl, by omega, fun j x h => by omega⟩
  ·
    intro m _ _ _ _ _ _ _ _ _ _ _ _ H16 hI
    obtain ⟨s16, rfl, m_, hvs, c_1, k, rfl, hk, hall⟩ := hI
    cases hvs
    have z_2 := c_1.size
    refine sB_d (fun hsB1 => ?_) (fun hsB1 => ?_)
    ·
      have hk2 : k < n := by omega
      obtain ⟨x, hx⟩ : ∃ x, qs[k]? = some x := ⟨qs[k], by simp [hn, hk2]⟩
      obtain ⟨a, rfl⟩ := hq.some (fun e => by have := qcell0 hx; rw [e] at this; simp at this)
      refine nz_i ?_
      refine ask_t (by omega) ?_
      have q_3 := hq.mv c_1 (tagL (by simp <;> omega) (by simp))
      refine ld_sl q_3 (by rw [Int.toNat_natCast]; exact qcell0 hx) ?_
      refine ld_sl2 q_3 (by rw [Int.toNat_natCast]; exact qcell1 hx) ?_
      refine ld_sl2 q_3 (by rw [Int.toNat_natCast]; exact qcell2 hx) ?_
      rw [gB_eq hg]
      refine tcall (hp _ x ((Ch.refl [] s).chl c_1 (by simp) (by simp <;> omega))) ?_
      rintro _ s23 ⟨rfl, c_4⟩
      have z_5 := c_4.size
      refine dBl_i ?_
      first | refine sB_d (fun hsB2 => ?_) (fun hsB2 => ?_) | refine sB_nd (fun hsB2 => ?_) (fun hsB2 => ?_) | refine sB_n (fun hsB2 => ?_) (fun hsB2 => ?_) | refine sB_i (fun hsB2 => ?_) (fun hsB2 => ?_)
      ·
        refine ret_t ?_
        exact ⟨ret_i (ixf_some hx hsB2 hall).symm, (((Ch.refl [] s).chl c_1 (by simp) (by simp <;> omega)).ch c_4 (by simp))⟩
      ·
        refine wr_t (by omega) ?_
        refine ⟨⟨s23, rfl, _, rfl, (((ChL.refl [] [] s).chl c_1 (by simp) (by simp <;> omega)).ch c_4 (by simp)), ?_⟩, ?_⟩
        ·
          refine ⟨k + 1, by omega, by omega, fun j y hj hy => ?_⟩
          by_cases e : j = k
          · subst e; rw [hx] at hy; cases hy; exact hsB2
          · exact hall j y (by omega) hy
        ·
          simp only []; omega
    ·
      refine ret_t ?_
      exact ⟨ret_i (ixf_none fun j y hj hy => hall j y (by omega) hy).symm, ((Ch.refl [] s).chl c_1 (by simp) (by simp <;> omega))⟩
/-- slices.ContainsFunc[[]bollard/api.Sent,bollard/api.Sent] -/
theorem c_ctSent {qa : Option Addr} {n : Nat} (qc : Nat) {g : Nat} {xf xc : Array Value} {qs : List (Int × Int × Hd)} {τ : Nat} {s : TH} (p : Int × Int × Hd → Bool) (hq : Sl s qa (qs.flatMap qv) τ) (hn : qs.length = n) (hn2 : n ≤ 1000000) (hg : plainFn Tryz.prog g = true) (hp : ∀ (s1 : TH) (x : Int × Int × Hd), Ch [] s s1 → TRet Tryz.prog g (argsOf xf [.agg #[.int .i64 x.1, .int .i64 x.2.1, .slice x.2.2.1 128 x.2.2.2]] xc) s1 fun v s2 => v = .bool (p x) ∧ Ch [] s1 s2) : TRet Tryz.prog 194 #[.slice qa n qc, .func (.func g) xf xc] s fun v s' => v = .bool (decide (ixf p qs ≥ 0)) ∧ Ch [] s s' := by
  refine F194_calls _ _ _ _ _ _  ?_
  unfold F194
  refine tcall (c_ixSent qc p hq hn hn2 hg hp) ?_
  rintro _ s2 ⟨rfl, c_1⟩
  have z_2 := c_1.size
  refine dInt_i ?_
  refine ret_t ?_
  exact ⟨rfl, ((Ch.refl [] s).ch c_1 (by simp))⟩
/-- (*bollard/disk.Disk).Write$1 -/
theorem c_w1 (b i k : Int) (p : Hd) (r t : Nat) {s : TH} (hr : Blk s r [.int .i64 b] t 0) : TRet Tryz.prog 195 #[.agg #[.int .i64 i, .int .i64 k, .slice p.1 128 p.2], .pointer (some ⟨r, 0, none⟩)] s fun v s' => v = .bool (k == b) ∧ Ch [] s s' := by
  refine F195_calls _ _ _ _  ?_
  unfold F195
  refine al_t 0 fun r1 s2 hr1 b_1 c_2 z_3 => ?_
  refine ld_t b_1 rfl ?_
  refine dInt_i ?_
  have r_4 := hr.ch c_2 (by simp)
  refine ld_t r_4 rfl ?_
  refine dInt_i ?_
  refine ret_t ?_
  exact ⟨rfl, ((Ch.refl [] s).ch c_2 (by simp))⟩
/-- (*bollard/disk.Disk).place$1 -/
theorem c_p1 (b i k : Int) (p : Hd) (r t : Nat) {s : TH} (hr : Blk s r [.int .i64 b] t 0) : TRet Tryz.prog 150 #[.agg #[.int .i64 i, .int .i64 k, .slice p.1 128 p.2], .pointer (some ⟨r, 0, none⟩)] s fun v s' => v = .bool (i == b) ∧ Ch [] s s' := by
  refine F150_calls _ _ _ _  ?_
  unfold F150
  refine al_t 0 fun r1 s2 hr1 b_1 c_2 z_3 => ?_
  refine ld_t b_1 rfl ?_
  refine dInt_i ?_
  have r_4 := hr.ch c_2 (by simp)
  refine ld_t r_4 rfl ?_
  refine dInt_i ?_
  refine ret_t ?_
  exact ⟨rfl, ((Ch.refl [] s).ch c_2 (by simp))⟩
/-- (*bollard/disk.Disk).place -/
theorem c_place (d T : Nat) (D : DiskM) (b : Int) (s : TH) (hT : 10 ≤ T) (hd : Disk s d T D) : TRet Tryz.prog 90 #[.pointer (some ⟨d, 0, none⟩), .int .i64 b] s fun v s' => ∃ k : Int, v = .int .i64 k ∧ (k = ixf (fun x : SentM => x.id == b) D.queue) ∧ Ch [] s s' := by
  obtain ⟨pa, pc, qa, qc, hs, qs, fr, fm, hD⟩ := id hd
  have hblk := hD.blk
  have hrows := hD.rows
  have hbrel := hD.brel
  have hque := hD.que
  have hqrel := hD.qrel
  have hfails := hD.fails
  refine F90_calls _ _  ?_
  unfold F90
  refine al_t 0 fun r1 s2 hr1 b_1 c_2 z_3 => ?_
  refine nz_i ?_
  have blk_4 := hblk.ch c_2 (by simp)
  refine ld_t blk_4 rfl ?_
  refine dSl_i ?_
  have que_5 := hque.mv c_2 (tagn (by simp))
  refine tcall (c_ixSent _ (fun x => x.1 == b) que_5.sl (by rw [hD.qrel.len]) (by have := hD.nq; omega) (by kernel_rfl) (fun s1 x c1 => c_p1 b x.1 x.2.1 x.2.2 r1 _ (b_1.ch c1 (by simp)))) ?_
  rintro _ s9 ⟨rfl, c_6⟩
  have z_7 := c_6.size
  refine dInt_i ?_
  refine ret_t ?_
  exact ⟨_, rfl, ixf_qrel hD.qrel (fun x => x.1 == b) (fun x => x.id == b) (fun x m h1 h2 => by rw [h1]), (((Ch.refl [] s).ch c_2 (by simp)).ch c_6 (by simp))⟩
/-- slices.Delete[[]bollard/api.Sent,bollard/api.Sent] -/
theorem c_delSent {a : Option Addr} {n c : Nat} (i : Nat) {qs : List (Int × Int × Hd)} {τ : Nat} {s : TH} (hq : Own s a n c 96 3 (qs.flatMap qv) τ) (hi : i < n) (hn : n ≤ 1000) : TRet Tryz.prog 196 #[.slice a n c, .int .i64 (i : Int), .int .i64 ((i : Int) + 1)] s fun v s' => ∃ a' c', v = .slice a' (n - 1) c' ∧ Ch [τ] s s' ∧ Own s' a' (n - 1) c' 96 3 ((qs.eraseIdx i).flatMap qv) τ := by
  rw [show ((i : Int) + 1) = ((i + 1 : Nat) : Int) from by omega]
  have hle := hq.le
  refine F196_calls _ _ _ _ _  ?_
  unfold F196
  refine ask_t (by omega) ?_
  refine sB_eq (fun hsB1 => by exfalso; omega) (fun hsB1 => ?_)
  refine ask_t (by omega) ?_
  refine ask_t (by omega) ?_
  simp only [Int.toNat_natCast, Int.toNat_zero, Nat.sub_zero, slO_zero]
  refine app_i u93 in96 rfl (hq.pre (m := i) (by omega)) (hq.cut (m := i + 1) (by omega)) (by rw [List.length_drop, hq.len, ← Nat.sub_mul]) (one_fm _ _) (by intro h; have := hq.none_iff; cases ha : a with | none => have := this ha; omega | some b => (rw [ha] at h; cases h)) (by unfold maxLen; omega) fun s4 a2 c2 q2_3 c_10 hnil => ?_
  have c_1 := c_10.ch (T := [τ]) hq (by simp)
  have z_2 := c_1.size
  refine dSl_i ?_
  refine ask_t (by omega) ?_
  obtain ⟨rfl, rfl⟩ := hnil.2 (by omega)
  try simp only [Int.toNat_natCast]
  have hin : i + (n - (i + 1)) = n - 1 := by omega
  rw [hin] at q2_3 ⊢
  rw [fm_erase qv_len] at q2_3
  refine clear_t u93 in96 rfl (by intro u hu; simp [Value.cells] at hu; rcases hu with rfl | rfl | rfl <;> rfl) q2_3 (m := n) (by omega) (by omega) fun s11 q3_6 c_40 _ => ?_
  have c_4 := c_40.ch (T := [τ]) q2_3 (by simp)
  have z_5 := c_4.size
  refine ret_t ?_
  exact ⟨_, _, rfl, (((Ch.refl [τ] s).ch c_1 (by simp)).ch c_4 (by simp)), q3_6⟩
/-- (*bollard/disk.Disk).Write -/
theorem c_write (d T : Nat) (D : DiskM) (b : Int) {xa : Option Addr} (xn xc : Nat) {l : List UInt8} {τx : Nat} (s : TH) (hT : 10 ≤ T) (hd : Disk s d T D) (hx : Sl s xa (bvs l) τx) (hxl : l.length = xn) (hx1 : xn ≤ 1000000) (hx2 : τx ≠ T) (hlast : 0 ≤ D.last ∧ D.last ≤ 1000000000000000000) : TRet Tryz.prog 144 #[.pointer (some ⟨d, 0, none⟩), .int .i64 b, .slice xa xn xc] s fun v s' => v = .tuple #[.int .i64 (D.write b l).2.1, .int .i64 (D.write b l).2.2] ∧ Ch [T, T + 1, T + 2, T + 3, T + 4] s s' ∧ Disk s' d T (D.write b l).1 := by
  obtain ⟨pa, pc, qa, qc, hs, qs, fr, fm, hD⟩ := id hd
  have hblk := hD.blk
  have hrows := hD.rows
  have hbrel := hD.brel
  have hque := hD.que
  have hqrel := hD.qrel
  have hfails := hD.fails
  refine F144_calls _ _ _ _ _  ?_
  unfold F144
  refine al_t 0 fun r1 s2 hr1 b_1 c_2 z_3 => ?_
  refine ld_t b_1 rfl ?_
  refine dInt_i ?_
  have D_4 := hd.mv c_2 (rngn (by simp <;> omega))
  refine tcall (c_look _ _ _ _ _ hT D_4) ?_
  rintro _ s6 ⟨rfl, c_5⟩
  have z_6 := c_5.size
  refine dInt_i ?_
  refine sB_ne (fun hsB1 => ?_) (fun hsB1 => ?_)
  ·
    refine ret_t ?_
    have D_7 := D_4.mv c_5 (rngn (by simp <;> omega))
    have hn : ¬ D.has b := fun h => hsB1 (if_pos h)
    rw [write_1 (.inl hn), if_neg hn]
    exact ⟨rfl, (((Ch.refl [T, T + 1, T + 2, T + 3, T + 4] s).ch c_2 (by simp)).ch c_5 (by simp)), D_7⟩
  ·
    refine sB_ne (fun hsB2 => ?_) (fun hsB2 => ?_)
    ·
      refine ret_t ?_
      have D_8 := D_4.mv c_5 (rngn (by simp <;> omega))
      rw [write_1 (.inr (by omega))]
      exact ⟨rfl, (((Ch.refl [T, T + 1, T + 2, T + 3, T + 4] s).ch c_2 (by simp)).ch c_5 (by simp)), D_8⟩
    ·
      obtain rfl : xn = 128 := by omega
      have hh : D.has b := by
        by_cases h : D.has b
        · exact h
        · rw [if_neg h] at hsB1; cases hsB1
      refine nz_i ?_
      have blk_9 := hblk.ch c_2 (by simp)
      have blk_10 := blk_9.ch c_5 (by simp)
      refine ld_t blk_10 rfl ?_
      refine dSl_i ?_
      have que_11 := hque.mv c_2 (tagn (by simp))
      have que_12 := que_11.mv c_5 (tagn (by simp))
      have r1_13 := b_1.ch c_5 (by simp)
      refine tcall (c_ctSent _ (fun x => x.2.1 == b) que_12.sl (by rw [hD.qrel.len]) (by have := hD.nq; omega) (by kernel_rfl) (fun s1 x c1 => c_w1 b x.1 x.2.1 x.2.2 r1 _ (r1_13.ch c1 (by simp)))) ?_
      rintro _ s14 ⟨rfl, c_14⟩
      have z_15 := c_14.size
      refine dBl_i ?_
      first | refine sB_d (fun hsB3 => ?_) (fun hsB3 => ?_) | refine sB_nd (fun hsB3 => ?_) (fun hsB3 => ?_) | refine sB_n (fun hsB3 => ?_) (fun hsB3 => ?_) | refine sB_i (fun hsB3 => ?_) (fun hsB3 => ?_)
      ·
        refine ret_t ?_
        have D_16 := D_4.mv c_5 (rngn (by simp <;> omega))
        have D_17 := D_16.mv c_14 (rngn (by simp <;> omega))
        rw [ixf_qrel hD.qrel (fun x => x.2.1 == b) (fun m => m.blk == b) (fun x m _ h2 => by rw [h2])] at hsB3
        rw [write_2 hh hxl hsB3]
        exact ⟨rfl, ((((Ch.refl [T, T + 1, T + 2, T + 3, T + 4] s).ch c_2 (by simp)).ch c_5 (by simp)).ch c_14 (by simp)), D_17⟩
      ·
        rw [ixf_qrel hD.qrel (fun x => x.2.1 == b) (fun m => m.blk == b) (fun x m _ h2 => by rw [h2])] at hsB3
        refine nz_i ?_
        have blk_18 := blk_10.ch c_14 (by simp)
        refine ld_t blk_18 rfl ?_
        refine dSl_i ?_
        refine sB_d (fun hsB4 => ?_) (fun hsB4 => ?_)
        ·
          refine ret_t ?_
          have D_19 := D_4.mv c_5 (rngn (by simp <;> omega))
          have D_20 := D_19.mv c_14 (rngn (by simp <;> omega))
          rw [write_3 hh hxl hsB3 (by omega)]
          exact ⟨rfl, ((((Ch.refl [T, T + 1, T + 2, T + 3, T + 4] s).ch c_2 (by simp)).ch c_5 (by simp)).ch c_14 (by simp)), D_20⟩
        ·
          refine nz_i ?_
          refine ld_t blk_18 rfl ?_
          refine dInt_i ?_
          refine wr_t (by omega) ?_
          refine nz_i ?_
          refine st_t blk_18 rfl (by simp) fun s26 b_21 c_22 z_23 => ?_
          refine nz_i ?_
          refine ld_t b_21 rfl ?_
          refine dSl_i ?_
          refine nz_i ?_
          refine ld_t b_21 rfl ?_
          refine dInt_i ?_
          have r1_24 := r1_13.ch c_14 (by simp)
          have r1_25 := r1_24.on c_22 (by intro he; have h1 := r1_24.tag; have h2 := blk_18.tag; rw [he] at h1; rw [h1] at h2; revert h2; simp <;> omega)
          refine ld_t r1_25 rfl ?_
          refine dInt_i ?_
          have x_26 := hx.mv c_2 (tagn (by simp))
          have x_27 := x_26.mv c_5 (tagn (by simp))
          have x_28 := x_27.mv c_14 (tagn (by simp))
          have x_29 := x_28.mv c_22 (onn (by rw [blk_18.tag]; omega))
          refine tcall (c_clone (T + 3) _ x_29 hxl (fun h => by obtain ⟨y, hy⟩ := hx.some (fun e => by have := congrArg List.length e; simp only [bvs_len, List.length_nil] at this; omega); rw [h] at hy; cases hy) (by omega)) ?_
          rintro _ s38 ⟨xa2, xc2, rfl, c_30, nx_32, hxn⟩
          have z_31 := c_30.size
          refine dSl_i ?_
          refine ⟨?_, ?_⟩
          ·
            have r1_33 := r1_25.ch c_30 (by simp)
            refine ld_t r1_33 rfl ?_
            refine dInt_i ?_
            rfl
          ·
            refine ⟨?_, ?_⟩
            ·
              have blk_34 := b_21.ch c_30 (by simp)
              refine ld_t blk_34 rfl ?_
              refine dInt_i ?_
              rfl
            ·
              refine ⟨?_, ?_⟩
              ·
                have blk_35 := b_21.ch c_30 (by simp)
                refine ld_t blk_35 rfl ?_
                refine dSl_i ?_
                rfl
              ·
                refine al_t 0 fun r50 s51 hr50 b_36 c_37 z_38 => ?_
                refine ⟨?_, ?_⟩
                ·
                  have blk_39 := b_21.ch c_30 (by simp)
                  have blk_40 := blk_39.ch c_37 (by simp)
                  refine ld_t blk_40 rfl ?_
                  refine dSl_i ?_
                  rfl
                ·
                  have que_41 := que_12.mv c_14 (tagn (by simp))
                  have que_42 := que_41.mv c_22 (onn (by rw [blk_18.tag]; omega))
                  have que_43 := que_42.mv c_30 (tagn (by simp))
                  have que_44 := que_43.mv c_37 (tagn (by simp))
                  refine app_i u93 in96 rfl que_44 b_36.sl (m := 1) (k := 3) rfl (by intro u hu; simp at hu; rcases hu with rfl | rfl | rfl <;> rfl) (by simp) (by have := hD.nq; unfold maxLen; omega) fun s59 qa2 qc2 que_47 c_450 _ => ?_
                  have c_45 := c_450.ch (T := [T + 2]) que_44 (by simp)
                  have z_46 := c_45.size
                  refine dSl_i ?_
                  refine nz_i ?_
                  have blk_48 := b_21.ch c_30 (by simp)
                  have blk_49 := blk_48.ch c_37 (by simp)
                  have blk_50 := blk_49.ch c_45 (by intro h; simp only [List.mem_cons, List.not_mem_nil, or_false] at h <;> omega)
                  refine st_t blk_50 rfl (by simp) fun s64 b_51 c_52 z_53 => ?_
                  refine nz_i ?_
                  refine ld_t b_51 rfl ?_
                  refine dInt_i ?_
                  refine ret_t ?_
                  have rows_54 := hrows.mv c_2 (tagn (by simp))
                  have rows_55 := rows_54.mv c_5 (tagn (by simp))
                  have rows_56 := rows_55.mv c_14 (tagn (by simp))
                  have rows_57 := rows_56.mv c_22 (onn (by rw [blk_18.tag]; omega))
                  have rows_58 := rows_57.mv c_30 (tagn (by simp))
                  have rows_59 := rows_58.mv c_37 (tagn (by simp))
                  have rows_60 := rows_59.mv c_45 (tagn (by intro h; simp only [List.mem_cons, List.not_mem_nil, or_false] at h <;> omega))
                  have rows_61 := rows_60.mv c_52 (onn (by rw [blk_50.tag]; omega))
                  have brel_62 := hbrel.mv c_2 (tagn (by simp))
                  have brel_63 := brel_62.mv c_5 (tagn (by simp))
                  have brel_64 := brel_63.mv c_14 (tagn (by simp))
                  have brel_65 := brel_64.mv c_22 (onn (by rw [blk_18.tag]; omega))
                  have brel_66 := brel_65.mv c_30 (tagn (by simp))
                  have brel_67 := brel_66.mv c_37 (tagn (by simp))
                  have brel_68 := brel_67.mv c_45 (tagn (by intro h; simp only [List.mem_cons, List.not_mem_nil, or_false] at h <;> omega))
                  have brel_69 := brel_68.mv c_52 (onn (by rw [blk_50.tag]; omega))
                  have que_70 := que_47.mv c_52 (onn (by rw [blk_50.tag]; omega))
                  have qrel_71 := hqrel.mv c_2 (tagn (by simp))
                  have qrel_72 := qrel_71.mv c_5 (tagn (by simp))
                  have qrel_73 := qrel_72.mv c_14 (tagn (by simp))
                  have qrel_74 := qrel_73.mv c_22 (onn (by rw [blk_18.tag]; omega))
                  have qrel_75 := qrel_74.mv c_30 (tagn (by simp))
                  have qrel_76 := qrel_75.mv c_37 (tagn (by simp))
                  have qrel_77 := qrel_76.mv c_45 (tagn (by intro h; simp only [List.mem_cons, List.not_mem_nil, or_false] at h <;> omega))
                  have qrel_78 := qrel_77.mv c_52 (onn (by rw [blk_50.tag]; omega))
                  have nx_79 := nx_32.mv c_37 (tagn (by simp))
                  have nx_80 := nx_79.mv c_45 (tagn (by intro h; simp only [List.mem_cons, List.not_mem_nil, or_false] at h <;> omega))
                  have nx_81 := nx_80.mv c_52 (onn (by rw [blk_50.tag]; omega))
                  have fails_82 := hfails.ch c_2 (by simp)
                  have fails_83 := fails_82.ch c_5 (by simp)
                  have fails_84 := fails_83.ch c_14 (by simp)
                  have fails_85 := fails_84.on c_22 (by intro he; have h1 := fails_84.tag; have h2 := blk_18.tag; rw [he] at h1; rw [h1] at h2; revert h2; simp <;> omega)
                  have fails_86 := fails_85.ch c_30 (by simp)
                  have fails_87 := fails_86.ch c_37 (by simp)
                  have fails_88 := fails_87.ch c_45 (by intro h; simp only [List.mem_cons, List.not_mem_nil, or_false] at h <;> omega)
                  have fails_89 := fails_88.on c_52 (by intro he; have h1 := fails_88.tag; have h2 := blk_50.tag; rw [he] at h1; rw [h1] at h2; revert h2; simp <;> omega)
                  rw [write_4 hh hxl hsB3 (by omega)]
                  exact ⟨rfl, (((((((((Ch.refl [T, T + 1, T + 2, T + 3, T + 4] s).ch c_2 (by simp)).ch c_5 (by simp)).ch c_14 (by simp)).on_tag c_22 blk_18.tag (by simp)).ch c_30 (by simp)).ch c_37 (by simp)).ch c_45 (by simp)).on_tag c_52 blk_50.tag (by simp)), pa, pc, qa2, qc2, hs, qs ++ [(D.last + 1, b, (xa2, xc2))], fr, fm, ⟨by simpa using b_51, rows_61, brel_69, by simpa [qv] using que_70, qrel_78.snoc ⟨rfl, rfl, ⟨nx_81.sl, hxl⟩⟩, fails_89, hD.fok, hD.nb, by simp; omega, fun m hm => by rcases List.mem_append.1 hm with hm | hm <;> first | exact hD.qin m hm | (simp at hm; subst hm; unfold DiskM.has at hh; exact hh)⟩⟩
/-- (*bollard/disk.Disk).Complete -/
theorem c_complete (d T : Nat) (D : DiskM) (n0 : Int) (ok : Bool) (s : TH) (hT : 10 ≤ T) (hd : Disk s d T D) : TRet Tryz.prog 145 #[.pointer (some ⟨d, 0, none⟩), .int .i64 n0, .bool ok] s fun v s' => v = .int .i64 (D.complete n0 ok).2 ∧ Ch [T, T + 1, T + 2, T + 3, T + 4] s s' ∧ Disk s' d T (D.complete n0 ok).1 := by
  obtain ⟨pa, pc, qa, qc, hs, qs, fr, fm, hD⟩ := id hd
  have hblk := hD.blk
  have hrows := hD.rows
  have hbrel := hD.brel
  have hque := hD.que
  have hqrel := hD.qrel
  have hfails := hD.fails
  refine F145_calls _ _ _  ?_
  unfold F145
  refine tcall (c_made _ _ _ _ hT hd) ?_
  rintro _ s2 ⟨rfl, c_1⟩
  have z_2 := c_1.size
  refine dBl_i ?_
  refine sB_f (by rfl) ?_
  have D_3 := hd.mv c_1 (rngn (by simp <;> omega))
  refine tcall (c_place _ _ _ _ _ hT D_3) ?_
  rintro _ s5 ⟨k, rfl, hk, c_4⟩
  have z_5 := c_4.size
  refine dInt_i ?_
  refine sB_d (fun hsB2 => ?_) (fun hsB2 => ?_)
  ·
    refine ret_t ?_
    have D_6 := D_3.mv c_4 (rngn (by simp <;> omega))
    rw [compl_1 (by omega)]
    exact ⟨rfl, (((Ch.refl [T, T + 1, T + 2, T + 3, T + 4] s).ch c_1 (by simp)).ch c_4 (by simp)), D_6⟩
  ·
    refine nz_i ?_
    have blk_7 := hblk.ch c_1 (by simp)
    have blk_8 := blk_7.ch c_4 (by simp)
    refine ld_t blk_8 rfl ?_
    refine dSl_i ?_
    rcases ixf_cases (fun x : SentM => x.id == n0) D.queue with ⟨h1, _⟩ | ⟨i, m, h1, hm, _⟩
    · omega
    obtain rfl : k = i := by omega
    have hi : i < D.queue.length := (List.getElem?_eq_some_iff.1 hm).1
    obtain ⟨x, hx⟩ : ∃ x, qs[i]? = some x := ⟨qs[i]'(by rw [hD.qrel.len]; exact hi), by simp [hD.qrel.len, hi]⟩
    have hQ := hD.qrel.at_ i x m hx hm
    have hin := hD.qin m (List.mem_of_getElem? hm)
    obtain ⟨aq, rfl⟩ := hD.que.sl.some (fun e => by have := qcell0 hx; rw [e] at this; simp at this)
    refine nz_i ?_
    refine ask_t (by omega) ?_
    have que_9 := hque.mv c_1 (tagn (by simp))
    have que_10 := que_9.mv c_4 (tagn (by simp))
    refine ld_sl que_10.sl (by rw [Int.toNat_natCast]; exact qcell0 hx) ?_
    refine ld_sl2 que_10.sl (by rw [Int.toNat_natCast]; exact qcell1 hx) ?_
    refine ld_sl2 que_10.sl (by rw [Int.toNat_natCast]; exact qcell2 hx) ?_
    refine al_t 0 fun r16 s17 hr16 b_11 c_12 z_13 => ?_
    refine st_t b_11 rfl (by simp) fun s18 b_14 c_15 z_16 => ?_
    refine st_t b_14 rfl (by simp) fun s19 b_17 c_18 z_19 => ?_
    refine st_t b_17 rfl (by simp) fun s20 b_20 c_21 z_22 => ?_
    refine nz_i ?_
    have blk_23 := blk_8.ch c_12 (by simp)
    have blk_24 := blk_23.on c_15 (by intro he; have h1 := blk_23.tag; have h2 := b_11.tag; rw [he] at h1; rw [h1] at h2; revert h2; simp <;> omega)
    have blk_25 := blk_24.on c_18 (by intro he; have h1 := blk_24.tag; have h2 := b_14.tag; rw [he] at h1; rw [h1] at h2; revert h2; simp <;> omega)
    have blk_26 := blk_25.on c_21 (by intro he; have h1 := blk_25.tag; have h2 := b_17.tag; rw [he] at h1; rw [h1] at h2; revert h2; simp <;> omega)
    refine ld_t blk_26 rfl ?_
    refine dSl_i ?_
    refine wr_t (by have := hD.nq; omega) ?_
    have que_27 := que_10.mv c_12 (tagn (by simp))
    have que_28 := que_27.mv c_15 (onn (by rw [b_11.tag]; omega))
    have que_29 := que_28.mv c_18 (onn (by rw [b_14.tag]; omega))
    have que_30 := que_29.mv c_21 (onn (by rw [b_17.tag]; omega))
    refine tcall (c_delSent i que_30 (by omega) (by have := hD.nq; omega)) ?_
    rintro _ s28 ⟨qa2, qc2, rfl, c_31, que_33⟩
    have z_32 := c_31.size
    refine dSl_i ?_
    refine nz_i ?_
    have blk_34 := blk_26.ch c_31 (by intro h; simp only [List.mem_cons, List.not_mem_nil, or_false] at h <;> omega)
    refine st_t blk_34 rfl (by simp) fun s33 b_35 c_36 z_37 => ?_
    refine sB_n (fun hsB3 => ?_) (fun hsB3 => ?_)
    ·
      refine ret_t ?_
      have que_38 := que_33.mv c_36 (onn (by rw [blk_34.tag]; omega))
      have rows_39 := hrows.mv c_1 (tagn (by simp))
      have rows_40 := rows_39.mv c_4 (tagn (by simp))
      have rows_41 := rows_40.mv c_12 (tagn (by simp))
      have rows_42 := rows_41.mv c_15 (onn (by rw [b_11.tag]; omega))
      have rows_43 := rows_42.mv c_18 (onn (by rw [b_14.tag]; omega))
      have rows_44 := rows_43.mv c_21 (onn (by rw [b_17.tag]; omega))
      have rows_45 := rows_44.mv c_31 (tagn (by intro h; simp only [List.mem_cons, List.not_mem_nil, or_false] at h <;> omega))
      have rows_46 := rows_45.mv c_36 (onn (by rw [blk_34.tag]; omega))
      have brel_47 := hbrel.mv c_1 (tagn (by simp))
      have brel_48 := brel_47.mv c_4 (tagn (by simp))
      have brel_49 := brel_48.mv c_12 (tagn (by simp))
      have brel_50 := brel_49.mv c_15 (onn (by rw [b_11.tag]; omega))
      have brel_51 := brel_50.mv c_18 (onn (by rw [b_14.tag]; omega))
      have brel_52 := brel_51.mv c_21 (onn (by rw [b_17.tag]; omega))
      have brel_53 := brel_52.mv c_31 (tagn (by intro h; simp only [List.mem_cons, List.not_mem_nil, or_false] at h <;> omega))
      have brel_54 := brel_53.mv c_36 (onn (by rw [blk_34.tag]; omega))
      have qrel_55 := hqrel.mv c_1 (tagn (by simp))
      have qrel_56 := qrel_55.mv c_4 (tagn (by simp))
      have qrel_57 := qrel_56.mv c_12 (tagn (by simp))
      have qrel_58 := qrel_57.mv c_15 (onn (by rw [b_11.tag]; omega))
      have qrel_59 := qrel_58.mv c_18 (onn (by rw [b_14.tag]; omega))
      have qrel_60 := qrel_59.mv c_21 (onn (by rw [b_17.tag]; omega))
      have qrel_61 := qrel_60.mv c_31 (tagn (by intro h; simp only [List.mem_cons, List.not_mem_nil, or_false] at h <;> omega))
      have qrel_62 := qrel_61.mv c_36 (onn (by rw [blk_34.tag]; omega))
      have fails_63 := hfails.ch c_1 (by simp)
      have fails_64 := fails_63.ch c_4 (by simp)
      have fails_65 := fails_64.ch c_12 (by simp)
      have fails_66 := fails_65.on c_15 (by intro he; have h1 := fails_65.tag; have h2 := b_11.tag; rw [he] at h1; rw [h1] at h2; revert h2; simp <;> omega)
      have fails_67 := fails_66.on c_18 (by intro he; have h1 := fails_66.tag; have h2 := b_14.tag; rw [he] at h1; rw [h1] at h2; revert h2; simp <;> omega)
      have fails_68 := fails_67.on c_21 (by intro he; have h1 := fails_67.tag; have h2 := b_17.tag; rw [he] at h1; rw [h1] at h2; revert h2; simp <;> omega)
      have fails_69 := fails_68.ch c_31 (by intro h; simp only [List.mem_cons, List.not_mem_nil, or_false] at h <;> omega)
      have fails_70 := fails_69.on c_36 (by intro he; have h1 := fails_69.tag; have h2 := blk_34.tag; rw [he] at h1; rw [h1] at h2; revert h2; simp <;> omega)
      subst hsB3
      rw [compl_2 h1 hm]
      have hle : (D.queue.eraseIdx i).length = D.queue.length - 1 := by rw [List.length_eraseIdx, if_pos hi]
      have hb := b_35
      have hq := que_38
      exact ⟨rfl, (((((((((Ch.refl [T, T + 1, T + 2, T + 3, T + 4] s).ch c_1 (by simp)).ch c_4 (by simp)).ch c_12 (by simp)).on_new c_15 (by omega)).on_new c_18 (by omega)).on_new c_21 (by omega)).ch c_31 (by simp)).on_tag c_36 blk_34.tag (by simp)), pa, pc, qa2, qc2, hs, qs.eraseIdx i, fr, fm, ⟨by simpa [hle] using hb, rows_46, brel_54, by simp only [hle]; exact hq, qrel_62.erase i, fails_70, hD.fok, hD.nb, by simp only [hle]; have := hD.nq; omega, fun m hm => hD.qin m (List.mem_of_mem_eraseIdx hm)⟩⟩
    ·
      refine nz_i ?_
      refine ld_t b_35 rfl ?_
      refine dSl_i ?_
      have r16_71 := b_20.ch c_31 (by intro h; simp only [List.mem_cons, List.not_mem_nil, or_false] at h <;> omega)
      have r16_72 := r16_71.on c_36 (by intro he; have h1 := r16_71.tag; have h2 := blk_34.tag; rw [he] at h1; rw [h1] at h2; revert h2; simp <;> omega)
      refine ld_t r16_72 rfl ?_
      refine dInt_i ?_
      refine ld_t r16_72 rfl ?_
      refine dSl_i ?_
      obtain ⟨ap, rfl⟩ : ∃ ap, pa = some ap := by
        have h0 := hD.nb
        rcases hD.rows.2 with ⟨_, h2, _⟩ | ⟨g, o, L, h2, _⟩
        · omega
        · exact ⟨_, h2⟩
      refine nz_i ?_
      refine ask_t (by rw [hQ.2.1]; omega) ?_
      have rows_73 := hrows.mv c_1 (tagn (by simp))
      have rows_74 := rows_73.mv c_4 (tagn (by simp))
      have rows_75 := rows_74.mv c_12 (tagn (by simp))
      have rows_76 := rows_75.mv c_15 (onn (by rw [b_11.tag]; omega))
      have rows_77 := rows_76.mv c_18 (onn (by rw [b_14.tag]; omega))
      have rows_78 := rows_77.mv c_21 (onn (by rw [b_17.tag]; omega))
      have rows_79 := rows_78.mv c_31 (tagn (by intro h; simp only [List.mem_cons, List.not_mem_nil, or_false] at h <;> omega))
      have rows_80 := rows_79.mv c_36 (onn (by rw [blk_34.tag]; omega))
      refine Own.st rows_80 rfl (by have := hin; rw [hQ.2.1]; omega) fun s46 b_81 c_82 z_83 => ?_
      have c_84 := Ch.on_tag (T := [T + 1]) (Ch.refl _ _) c_82 rows_80.tagOf (by simp)
      refine ret_t ?_
      have blk_85 := b_35.ch c_84 (by intro h; simp only [List.mem_cons, List.not_mem_nil, or_false] at h <;> omega)
      have que_86 := que_33.mv c_36 (onn (by rw [blk_34.tag]; omega))
      have que_87 := que_86.mv c_84 (tagn (by intro h; simp only [List.mem_cons, List.not_mem_nil, or_false] at h <;> omega))
      have qrel_88 := hqrel.mv c_1 (tagn (by simp))
      have qrel_89 := qrel_88.mv c_4 (tagn (by simp))
      have qrel_90 := qrel_89.mv c_12 (tagn (by simp))
      have qrel_91 := qrel_90.mv c_15 (onn (by rw [b_11.tag]; omega))
      have qrel_92 := qrel_91.mv c_18 (onn (by rw [b_14.tag]; omega))
      have qrel_93 := qrel_92.mv c_21 (onn (by rw [b_17.tag]; omega))
      have qrel_94 := qrel_93.mv c_31 (tagn (by intro h; simp only [List.mem_cons, List.not_mem_nil, or_false] at h <;> omega))
      have qrel_95 := qrel_94.mv c_36 (onn (by rw [blk_34.tag]; omega))
      have qrel_96 := qrel_95.mv c_84 (tagn (by intro h; simp only [List.mem_cons, List.not_mem_nil, or_false] at h <;> omega))
      have brel_97 := hbrel.mv c_1 (tagn (by simp))
      have brel_98 := brel_97.mv c_4 (tagn (by simp))
      have brel_99 := brel_98.mv c_12 (tagn (by simp))
      have brel_100 := brel_99.mv c_15 (onn (by rw [b_11.tag]; omega))
      have brel_101 := brel_100.mv c_18 (onn (by rw [b_14.tag]; omega))
      have brel_102 := brel_101.mv c_21 (onn (by rw [b_17.tag]; omega))
      have brel_103 := brel_102.mv c_31 (tagn (by intro h; simp only [List.mem_cons, List.not_mem_nil, or_false] at h <;> omega))
      have brel_104 := brel_103.mv c_36 (onn (by rw [blk_34.tag]; omega))
      have brel_105 := brel_104.mv c_84 (tagn (by intro h; simp only [List.mem_cons, List.not_mem_nil, or_false] at h <;> omega))
      have fails_106 := hfails.ch c_1 (by simp)
      have fails_107 := fails_106.ch c_4 (by simp)
      have fails_108 := fails_107.ch c_12 (by simp)
      have fails_109 := fails_108.on c_15 (by intro he; have h1 := fails_108.tag; have h2 := b_11.tag; rw [he] at h1; rw [h1] at h2; revert h2; simp <;> omega)
      have fails_110 := fails_109.on c_18 (by intro he; have h1 := fails_109.tag; have h2 := b_14.tag; rw [he] at h1; rw [h1] at h2; revert h2; simp <;> omega)
      have fails_111 := fails_110.on c_21 (by intro he; have h1 := fails_110.tag; have h2 := b_17.tag; rw [he] at h1; rw [h1] at h2; revert h2; simp <;> omega)
      have fails_112 := fails_111.ch c_31 (by intro h; simp only [List.mem_cons, List.not_mem_nil, or_false] at h <;> omega)
      have fails_113 := fails_112.on c_36 (by intro he; have h1 := fails_112.tag; have h2 := blk_34.tag; rw [he] at h1; rw [h1] at h2; revert h2; simp <;> omega)
      have fails_114 := fails_113.ch c_84 (by intro h; simp only [List.mem_cons, List.not_mem_nil, or_false] at h <;> omega)
      subst hsB3
      rw [compl_3 h1 hm]
      have hle : (D.queue.eraseIdx i).length = D.queue.length - 1 := by rw [List.length_eraseIdx, if_pos hi]
      have hb := blk_85
      have hq := que_87
      have hr := b_81
      rw [Nat.mul_one, fm_set1, hQ.2.1] at hr
      have hbb : ByAt s46 (T + 3) x.2.2 m.by_ := (qrel_96.at_ i x m hx hm).2.2
      exact ⟨rfl, ((((((((((Ch.refl [T, T + 1, T + 2, T + 3, T + 4] s).ch c_1 (by simp)).ch c_4 (by simp)).ch c_12 (by simp)).on_new c_15 (by omega)).on_new c_18 (by omega)).on_new c_21 (by omega)).ch c_31 (by simp)).on_tag c_36 blk_34.tag (by simp)).ch c_84 (by simp)), some ap, pc, qa2, qc2, hs.set m.blk.toNat x.2.2, qs.eraseIdx i, fr, fm, ⟨by simpa [hle] using hb, by simpa using hr, brel_105.set _ hbb, by simp only [hle]; exact hq, qrel_96.erase i, fails_114, hD.fok, by simpa using hD.nb, by simp only [hle]; have := hD.nq; omega, fun m hm => by simpa using hD.qin m (List.mem_of_mem_eraseIdx hm)⟩⟩
theorem rowZ_bvs (n : Nat) : rowZ [.int .u8 0] n = bvs (List.replicate n 0) := by
  induction n with
  | zero => rfl
  | succ n ih => rw [List.replicate_succ, bvs, List.map_cons, ← bvs, ← ih]; rfl
theorem BRel.snoc {s : TH} {τ : Nat} {hs : List Hd} {bs : List (List UInt8)} (h : BRel s τ hs bs) {p : Hd} {b : List UInt8} (hp : ByAt s τ p b) : BRel s τ (hs ++ [p]) (bs ++ [b]) := by
  refine ⟨by simp [h.len], fun i x y hx hy => ?_⟩
  by_cases hi : i < bs.length
  · rw [List.getElem?_append_left (by rw [h.len]; exact hi)] at hx
    rw [List.getElem?_append_left hi] at hy
    exact h.at_ i x y hx hy
  · rw [List.getElem?_append_right (by rw [h.len]; omega)] at hx
    rw [List.getElem?_append_right (by omega)] at hy
    rw [h.len] at hx
    cases hd : i - bs.length with
    | zero => rw [hd] at hx hy; simp at hx hy; subst hx hy; exact hp
    | succ k => rw [hd] at hx; simp at hx
theorem BRel.nil (s : TH) (τ : Nat) : BRel s τ [] [] := ⟨rfl, fun i p b h _ => by simp at h⟩
theorem QRel.nil (s : TH) (τ : Nat) : QRel s τ [] [] := ⟨rfl, fun i p b h _ => by simp at h⟩
def newDisk (n : Nat) : DiskM := ⟨List.replicate n (List.replicate 128 0), [], fun _ => 0, 0⟩
/-- bollard/disk.New -/
theorem c_dnew (T n : Nat) (s : TH) (hT : 10 ≤ T) (hn : 1 ≤ n ∧ n ≤ 2048) : TRet Tryz.prog 30 #[.int .i64 (n : Int)] s fun v s' => ∃ d, v = .tuple #[.pointer (some ⟨d, 0, none⟩), .int .i64 0] ∧ Ch [T + 1] s s' ∧ Disk s' d T (newDisk n) := by
  refine F30_calls _  ?_
  unfold F30
  refine jn_u ?_
  refine sB_d (fun hsB1 => by exfalso; omega) (fun hsB1 => ?_)
  intro _ _ _ _ _
  refine dBl_i ?_
  first | refine sB_d (fun hsB2 => ?_) (fun hsB2 => ?_) | refine sB_nd (fun hsB2 => ?_) (fun hsB2 => ?_) | refine sB_n (fun hsB2 => ?_) (fun hsB2 => ?_) | refine sB_i (fun hsB2 => ?_) (fun hsB2 => ?_)
  ·
    refine ret_t ?_
    simp at hsB2; omega
  ·
    refine alm_t (Value.int .i64) (T + 4) fun r9 s10 hr9 m_1 c_2 z_3 => ?_
    refine al_t T fun r11 s12 hr11 b_4 c_5 z_6 => ?_
    refine ⟨fun vs H' => ∃ s' : TH, s'.h = H' ∧ ∃ m, vs = [.int .i64 m] ∧ ChL [T + 1] [r11] s12 s' ∧ (∃ (k : Nat) (pa : Option Addr) (pc : Nat) (hs : List Hd), m = k ∧ k ≤ n ∧ Blk s' r11 [.slice pa k pc, .slice none 0 0, .map (some r9), .int .i64 0] 133 T ∧ Own s' pa k pc 38 1 (hs.flatMap hd1) (T + 1) ∧ BRel s' (T + 3) hs (List.replicate k (List.replicate 128 0))), fun vs H' => match vs with | [.int .i64 m] => (n - m).toNat | _ => 0, ⟨s12, rfl, _, rfl, ChL.refl _ _ _, ?_⟩, ?_⟩
    ·
      exact ⟨0, none, 0, [], rfl, by omega, b_4, Own.nil _ _ _ _, BRel.nil _ _⟩
    ·
      intro m _ _ _ _ _ _ _ _ _ _ _ _ H28 hI
      obtain ⟨s28, rfl, m_, hvs, c_7, k, pa, pc, hs, rfl, hk, r11_9, rows_10, brel_11⟩ := hI
      cases hvs
      have z_8 := c_7.size
      refine sB_d (fun hsB3 => ?_) (fun hsB3 => ?_)
      ·
        refine ld_t r11_9 rfl ?_
        refine dSl_i ?_
        refine ask_t (by omega) ?_
        refine al_t (T + 3) fun r34 s35 hr34 b_12 c_13 z_14 => ?_
        refine ⟨?_, ?_⟩
        ·
          have r11_15 := r11_9.ch c_13 (by simp)
          refine ld_t r11_15 rfl ?_
          refine dSl_i ?_
          rfl
        ·
          refine al_t 0 fun r40 s41 hr40 b_16 c_17 z_18 => ?_
          refine ⟨?_, ?_⟩
          ·
            have r11_19 := r11_9.ch c_13 (by simp)
            have r11_20 := r11_19.ch c_17 (by simp)
            refine ld_t r11_20 rfl ?_
            refine dSl_i ?_
            rfl
          ·
            have rows_21 := rows_10.mv c_13 (tagn (by simp))
            have rows_22 := rows_21.mv c_17 (tagn (by simp))
            refine app_i u42 in38 rfl rows_22 b_16.sl (m := 1) (k := 1) rfl (by intro u hu; simp at hu; subst hu; rfl) (by simp) (by unfold maxLen; omega) fun s49 pa2 pc2 rows_25 c_230 _ => ?_
            have c_23 := c_230.ch (T := [T + 1]) rows_22 (by simp)
            have z_24 := c_23.size
            refine dSl_i ?_
            have r11_26 := r11_9.ch c_13 (by simp)
            have r11_27 := r11_26.ch c_17 (by simp)
            have r11_28 := r11_27.ch c_23 (by intro h; simp only [List.mem_cons, List.not_mem_nil, or_false] at h <;> omega)
            refine st_t r11_28 rfl (by simp) fun s53 b_29 c_30 z_31 => ?_
            refine wr_t (by omega) ?_
            refine ⟨⟨s53, rfl, _, rfl, ((((((ChL.refl [T + 1] [r11] s12).chl c_7 (by simp) (by simp <;> omega)).ch c_13 (by simp)).ch c_17 (by simp)).ch c_23 (by simp)).on c_30 (by simp)), ?_⟩, ?_⟩
            ·
              have r34_32 := b_12.ch c_17 (by simp)
              have r34_33 := r34_32.ch c_23 (by intro h; simp only [List.mem_cons, List.not_mem_nil, or_false] at h <;> omega)
              have r34_34 := r34_33.on c_30 (by omega)
              have rows_35 := rows_25.mv c_30 (onn (by rw [r11_28.tag]; omega))
              have brel_36 := brel_11.mv c_13 (tagn (by simp))
              have brel_37 := brel_36.mv c_17 (tagn (by simp))
              have brel_38 := brel_37.mv c_23 (tagn (by intro h; simp only [List.mem_cons, List.not_mem_nil, or_false] at h <;> omega))
              have brel_39 := brel_38.mv c_30 (onn (by rw [r11_28.tag]; omega))
              have hb : ByAt s53 (T + 3) (some ⟨r34, 0, none⟩, 128) (List.replicate 128 0) := ⟨by have h := r34_34.sl; rw [rowZ_bvs] at h; exact h, by simp⟩
              exact ⟨k + 1, pa2, pc2, hs ++ [(some ⟨r34, 0, none⟩, 128)], by omega, by omega, by simpa using b_29, by simpa [hd1] using rows_35, by rw [List.replicate_succ']; exact brel_39.snoc hb⟩
            ·
              simp <;> omega
      ·
        refine ret_t ?_
        have r9_40 := m_1.ch c_5 (by simp)
        have r9_41 := r9_40.chl c_7 (by simp <;> omega) (by simp <;> omega)
        obtain rfl : k = n := by omega
        exact ⟨r11, rfl, ((((Ch.refl [T + 1] s).ch c_2 (by simp)).ch c_5 (by simp)).chl c_7 (by simp) (by simp <;> omega)), pa, pc, none, 0, hs, [], r9, [], ⟨by simpa [newDisk] using r11_9, by simpa [newDisk] using rows_10, brel_11, Own.nil _ _ _ _, QRel.nil _ _, r9_41, fun b => rfl, by simp [newDisk]; omega, by simp [newDisk], fun m hm => by simp [newDisk] at hm⟩⟩
/-- (*bollard/disk.Disk).Read -/
theorem c_dread (d T τ : Nat) (D : DiskM) (b : Int) {l : List UInt8} (s : TH) (hT : 10 ≤ T) (hd : Disk s d T D) (hb : D.has b) (hl : D.blocks[b.toNat]? = some l) (hf : D.fails b ≤ 0) : TRet Tryz.prog 266 #[.pointer (some ⟨d, 0, none⟩), .int .i64 b] s fun v s' => ∃ a c, v = .tuple #[.slice a 128 c, .int .i64 0] ∧ Ch [] s s' ∧ Own s' a 128 c 5 1 (bvs l) τ := by
  obtain ⟨pa, pc, qa, qc, hs, qs, fr, fm, hD⟩ := id hd
  have hblk := hD.blk
  have hrows := hD.rows
  have hbrel := hD.brel
  have hque := hD.que
  have hqrel := hD.qrel
  have hfails := hD.fails
  refine F266_calls _ _  ?_
  unfold F266
  refine tcall (c_look _ _ _ _ _ hT hd) ?_
  rintro _ s2 ⟨rfl, c_1⟩
  have z_2 := c_1.size
  refine dInt_i ?_
  refine sB_ne (fun hsB1 => ?_) (fun hsB1 => ?_)
  ·
    refine ret_t ?_
    exact absurd (if_pos hb) hsB1
  ·
    have hb1 := hb; unfold DiskM.has at hb1
    obtain ⟨p, hp⟩ : ∃ p, hs[b.toNat]? = some p := ⟨hs[b.toNat]'(by rw [hD.brel.len]; omega), by simp⟩
    obtain ⟨ap, rfl⟩ : ∃ ap, pa = some ap := by
      have h0 := hD.nb
      rcases hD.rows.2 with ⟨_, h2, _⟩ | ⟨g, o, L, h2, _⟩
      · omega
      · exact ⟨_, h2⟩
    refine nz_i ?_
    have blk_3 := hblk.ch c_1 (by simp)
    refine ld_t blk_3 rfl ?_
    refine dMap_i ?_
    have fails_4 := hfails.ch c_1 (by simp)
    refine look_g keyI u131 z3 fails_4 b (hD.fok b) ?_
    refine dInt_i ?_
    refine sB_d (fun hsB2 => by exfalso; omega) (fun hsB2 => ?_)
    refine nz_i ?_
    refine ld_t blk_3 rfl ?_
    refine dSl_i ?_
    refine nz_i ?_
    refine ask_t (by omega) ?_
    have rows_5 := hrows.mv c_1 (tagn (by simp))
    refine ld_sl rows_5.sl (by rw [Nat.mul_one]; exact bcell hp) ?_
    refine dSl_i ?_
    have brel_6 := hbrel.mv c_1 (tagn (by simp))
    refine tcall (c_clone τ _ (brel_6.at_ _ _ _ hp hl).sl (brel_6.at_ _ _ _ hp hl).len (fun h => by obtain ⟨y, hy⟩ := (hD.brel.at_ _ _ _ hp hl).ne; rw [h] at hy; cases hy) (by omega)) ?_
    rintro _ s36 ⟨xa2, xc2, rfl, c_7, nx_9, hxn⟩
    have z_8 := c_7.size
    refine dSl_i ?_
    refine ret_t ?_
    exact ⟨xa2, xc2, rfl, (((Ch.refl [] s).ch c_1 (by simp)).ch c_7 (by simp)), nx_9⟩
end Go.Proofs.YtngploohhmfaiaaGreat.E
/- The shelf's contracts, laid at this program, in plain words. -/
namespace Go.Proofs
open Go.Shelf
def Tryz.collectA_ren : Go.Shelf.Ren := ⟨fun | 8 => 216 | 11 => 258 | n => n, fun | 26 => 3 | 28 => 229 | 24 => 73 | 0 => 0 | 33 => 68 | 4 => 4 | n => n, fun | n => n⟩
theorem Tryz.collectA : Go.Proofs.SlLaysZI.n8 Tryz.prog Tryz.collectA_ren :=
  { mixed := by kernel_rfl,
    f8 := ⟨Tryz.f216.name, by decide, Tryz.func216.trans (congrArg some (by kernel_rfl))⟩,
    f11 := ⟨Tryz.f258.name, by decide, Tryz.func258.trans (congrArg some (by kernel_rfl))⟩,
    t0 := Tryz.underlying0,
    a0 := Tryz.isAgg0,
    z0 := Tryz.sizeOf0,
    v0 := Tryz.zeroValue0,
    t24 := Tryz.underlying73,
    a24 := Tryz.isAgg73,
    z24 := Tryz.sizeOf73,
    v24 := Tryz.zeroValue73,
    t26 := Tryz.underlying3,
    a26 := Tryz.isAgg3,
    z26 := Tryz.sizeOf3,
    v26 := Tryz.zeroValue3,
    t28 := Tryz.underlying229,
    a28 := Tryz.isAgg229,
    z28 := Tryz.sizeOf229,
    v28 := Tryz.zeroValue229,
    i26 := by kernel_rfl }
def Tryz.keysA_ren : Go.Shelf.Ren := ⟨fun | 7 => 276 | 10 => 279 | n => n, fun | 23 => 201 | 26 => 3 | 3 => 254 | 28 => 229 | 0 => 0 | 27 => 228 | 33 => 68 | 4 => 4 | n => n, fun | n => n⟩
theorem Tryz.keysA : Go.Proofs.SlLaysZI.n7 Tryz.prog Tryz.keysA_ren :=
  { mixed := by kernel_rfl,
    f7 := ⟨Tryz.f276.name, by decide, Tryz.func276.trans (congrArg some (by kernel_rfl))⟩,
    f10 := ⟨Tryz.f279.name, by decide, Tryz.func279.trans (congrArg some (by kernel_rfl))⟩,
    t0 := Tryz.underlying0,
    a0 := Tryz.isAgg0,
    z0 := Tryz.sizeOf0,
    v0 := Tryz.zeroValue0,
    t4 := Tryz.underlying4,
    a4 := Tryz.isAgg4,
    z4 := Tryz.sizeOf4,
    v4 := Tryz.zeroValue4,
    t23 := Tryz.underlying201,
    a23 := Tryz.isAgg201,
    z23 := Tryz.sizeOf201,
    v23 := Tryz.zeroValue201,
    t26 := Tryz.underlying3,
    a26 := Tryz.isAgg3,
    z26 := Tryz.sizeOf3,
    v26 := Tryz.zeroValue3,
    t27 := Tryz.underlying228,
    a27 := Tryz.isAgg228,
    z27 := Tryz.sizeOf228,
    v27 := Tryz.zeroValue228,
    t28 := Tryz.underlying229,
    a28 := Tryz.isAgg229,
    z28 := Tryz.sizeOf229,
    v28 := Tryz.zeroValue229,
    t33 := Tryz.underlying68,
    a33 := Tryz.isAgg68,
    z33 := Tryz.sizeOf68,
    v33 := Tryz.zeroValue68 }
def Tryz.keysB_ren : Go.Shelf.Ren := ⟨fun | 7 => 219 | 10 => 259 | n => n, fun | 23 => 190 | 26 => 3 | 3 => 194 | 28 => 229 | 0 => 0 | 27 => 228 | 33 => 68 | 4 => 4 | n => n, fun | n => n⟩
theorem Tryz.keysB : Go.Proofs.SlLaysZI.n7 Tryz.prog Tryz.keysB_ren :=
  { mixed := by kernel_rfl,
    f7 := ⟨Tryz.f219.name, by decide, Tryz.func219.trans (congrArg some (by kernel_rfl))⟩,
    f10 := ⟨Tryz.f259.name, by decide, Tryz.func259.trans (congrArg some (by kernel_rfl))⟩,
    t0 := Tryz.underlying0,
    a0 := Tryz.isAgg0,
    z0 := Tryz.sizeOf0,
    v0 := Tryz.zeroValue0,
    t4 := Tryz.underlying4,
    a4 := Tryz.isAgg4,
    z4 := Tryz.sizeOf4,
    v4 := Tryz.zeroValue4,
    t23 := Tryz.underlying190,
    a23 := Tryz.isAgg190,
    z23 := Tryz.sizeOf190,
    v23 := Tryz.zeroValue190,
    t26 := Tryz.underlying3,
    a26 := Tryz.isAgg3,
    z26 := Tryz.sizeOf3,
    v26 := Tryz.zeroValue3,
    t27 := Tryz.underlying228,
    a27 := Tryz.isAgg228,
    z27 := Tryz.sizeOf228,
    v27 := Tryz.zeroValue228,
    t28 := Tryz.underlying229,
    a28 := Tryz.isAgg229,
    z28 := Tryz.sizeOf229,
    v28 := Tryz.zeroValue229,
    t33 := Tryz.underlying68,
    a33 := Tryz.isAgg68,
    z33 := Tryz.sizeOf68,
    v33 := Tryz.zeroValue68 }
def Tryz.sortFA_ren : Go.Shelf.Ren := ⟨fun | 6 => 278 | 15 => 203 | 14 => 280 | 28 => 245 | 29 => 246 | 20 => 281 | 21 => 282 | 22 => 283 | 23 => 284 | 24 => 285 | 25 => 286 | 26 => 287 | 27 => 288 | 46 => 289 | 47 => 268 | 48 => 269 | 49 => 290 | 50 => 291 | 57 => 292 | n => n, fun | 22 => 73 | 24 => 3 | 25 => 315 | 3 => 3 | 39 => 69 | 0 => 0 | 53 => 25 | 55 => 85 | 4 => 4 | 46 => 291 | 45 => 290 | 50 => 146 | 5 => 5 | 9 => 9 | 66 => 305 | 70 => 309 | 76 => 311 | 77 => 160 | n => n, fun | n => n⟩
theorem Tryz.sortFA : Go.Proofs.SlLaysF.n6 Tryz.prog Tryz.sortFA_ren :=
  { mixed := by kernel_rfl,
    f6 := ⟨Tryz.f278.name, by decide, Tryz.func278.trans (congrArg some (by kernel_rfl))⟩,
    f14 := ⟨Tryz.f280.name, by decide, Tryz.func280.trans (congrArg some (by kernel_rfl))⟩,
    f15 := Tryz.func203.trans (congrArg some (by kernel_rfl)),
    f20 := ⟨Tryz.f281.name, by decide, Tryz.func281.trans (congrArg some (by kernel_rfl))⟩,
    f21 := ⟨Tryz.f282.name, by decide, Tryz.func282.trans (congrArg some (by kernel_rfl))⟩,
    f22 := ⟨Tryz.f283.name, by decide, Tryz.func283.trans (congrArg some (by kernel_rfl))⟩,
    f23 := ⟨Tryz.f284.name, by decide, Tryz.func284.trans (congrArg some (by kernel_rfl))⟩,
    f24 := ⟨Tryz.f285.name, by decide, Tryz.func285.trans (congrArg some (by kernel_rfl))⟩,
    f25 := ⟨Tryz.f286.name, by decide, Tryz.func286.trans (congrArg some (by kernel_rfl))⟩,
    f26 := ⟨Tryz.f287.name, by decide, Tryz.func287.trans (congrArg some (by kernel_rfl))⟩,
    f27 := ⟨Tryz.f288.name, by decide, Tryz.func288.trans (congrArg some (by kernel_rfl))⟩,
    f28 := Tryz.func245.trans (congrArg some (by kernel_rfl)),
    f29 := Tryz.func246.trans (congrArg some (by kernel_rfl)),
    f46 := ⟨Tryz.f289.name, by decide, Tryz.func289.trans (congrArg some (by kernel_rfl))⟩,
    f47 := Tryz.func268.trans (congrArg some (by kernel_rfl)),
    f48 := Tryz.func269.trans (congrArg some (by kernel_rfl)),
    f49 := ⟨Tryz.f290.name, by decide, Tryz.func290.trans (congrArg some (by kernel_rfl))⟩,
    f50 := ⟨Tryz.f291.name, by decide, Tryz.func291.trans (congrArg some (by kernel_rfl))⟩,
    f57 := ⟨Tryz.f292.name, by decide, Tryz.func292.trans (congrArg some (by kernel_rfl))⟩,
    t0 := Tryz.underlying0,
    a0 := Tryz.isAgg0,
    z0 := Tryz.sizeOf0,
    v0 := Tryz.zeroValue0,
    t3 := Tryz.underlying3,
    a3 := Tryz.isAgg3,
    z3 := Tryz.sizeOf3,
    v3 := Tryz.zeroValue3,
    t4 := Tryz.underlying4,
    a4 := Tryz.isAgg4,
    z4 := Tryz.sizeOf4,
    v4 := Tryz.zeroValue4,
    t5 := Tryz.underlying5,
    a5 := Tryz.isAgg5,
    z5 := Tryz.sizeOf5,
    v5 := Tryz.zeroValue5,
    t9 := Tryz.underlying9,
    a9 := Tryz.isAgg9,
    z9 := Tryz.sizeOf9,
    v9 := Tryz.zeroValue9,
    t22 := Tryz.underlying73,
    a22 := Tryz.isAgg73,
    z22 := Tryz.sizeOf73,
    v22 := Tryz.zeroValue73,
    a24 := Tryz.isAgg3,
    z24 := Tryz.sizeOf3,
    t25 := Tryz.underlying315,
    a25 := Tryz.isAgg315,
    z25 := Tryz.sizeOf315,
    v25 := Tryz.zeroValue315,
    t39 := Tryz.underlying69,
    a39 := Tryz.isAgg69,
    z39 := Tryz.sizeOf69,
    v39 := Tryz.zeroValue69,
    t45 := Tryz.underlying290,
    a45 := Tryz.isAgg290,
    z45 := Tryz.sizeOf290,
    v45 := Tryz.zeroValue290,
    t46 := Tryz.underlying291,
    a46 := Tryz.isAgg291,
    z46 := Tryz.sizeOf291,
    v46 := Tryz.zeroValue291,
    t50 := Tryz.underlying146,
    a50 := Tryz.isAgg146,
    z50 := Tryz.sizeOf146,
    v50 := Tryz.zeroValue146,
    t53 := Tryz.underlying25,
    a53 := Tryz.isAgg25,
    z53 := Tryz.sizeOf25,
    v53 := Tryz.zeroValue25,
    t55 := Tryz.underlying85,
    a55 := Tryz.isAgg85,
    z55 := Tryz.sizeOf85,
    v55 := Tryz.zeroValue85,
    t66 := Tryz.underlying305,
    a66 := Tryz.isAgg305,
    z66 := Tryz.sizeOf305,
    v66 := Tryz.zeroValue305,
    t70 := Tryz.underlying309,
    a70 := Tryz.isAgg309,
    z70 := Tryz.sizeOf309,
    v70 := Tryz.zeroValue309,
    t76 := Tryz.underlying311,
    a76 := Tryz.isAgg311,
    z76 := Tryz.sizeOf311,
    v76 := Tryz.zeroValue311,
    t77 := Tryz.underlying160,
    a77 := Tryz.isAgg160,
    z77 := Tryz.sizeOf160,
    v77 := Tryz.zeroValue160 }
end Go.Proofs
/- Contracts of functions. -/
namespace Go.Proofs.YtngploohhmfaiaaGreat.E
open Go Go.Proofs Go.RowKit Go.Maps Go.Shelf Go.Sort
set_option linter.unusedVariables false
set_option linter.unusedSimpArgs false
/-- a contract of the kit's, of a call that turns nothing old, in states with marks: all that is new has one mark -/
theorem tret_new (τ : Nat) {P : Program} {f : FuncId} {args : Array Value} {s : TH} {Q : Value → TH → Prop}
    (h : ∀ w : World, w.heap = s.h → Calls P f args w fun e w' => ∃ v, e = .returned v ∧ Go.RowKit.Below w.heap.size w w' ∧ Q v ⟨w'.heap, fun j => if j < s.h.size then s.g j else τ⟩) :
    TRet P f args s fun v s' => Q v s' ∧ Ch [] s s' := fun w hw =>
  (h w hw).mono fun e w' ⟨v, he, hb, hq⟩ => ⟨⟨v, ⟨w'.heap, fun j => if j < s.h.size then s.g j else τ⟩, he, rfl, hq, ⟨by rw [← hw]; exact hb.size, fun j hj => by simp [hj], fun j hj _ => by rw [← hw]; exact hb.block j (by rw [hw]; exact hj)⟩⟩, ⟨hb.os, hb.tape, hb.output⟩⟩
theorem own_of_row {w' : World} {B e k n : Nat} {v : Value} {xs : List Value} {τ : Nat} {g : Nat → Nat} (h : w'.ownsRow B e k v n xs) (hg : ∀ j, B ≤ j → g j = τ) : ∃ a c, v = .slice a n c ∧ Own ⟨w'.heap, g⟩ a n c e k xs τ ∧ ∀ b, a = some b → B ≤ b.block := by
  rcases h.2 with ⟨rfl, rfl⟩ | ⟨b, cap, cur, rfl, hb, hc, h1, h2, h3, h4⟩
  · exact ⟨none, 0, rfl, ⟨h.1, .inl ⟨rfl, rfl, rfl⟩⟩, fun b hb => by cases hb⟩
  · exact ⟨_, cap, rfl, ⟨h.1, .inr ⟨b, 0, cur.toList, rfl, ⟨by simpa using hc, hg b hb⟩, h1, h2, by simp [h3], by simpa using h4⟩⟩, fun b hb => by cases hb; assumption⟩
def inI64 (x : Int) : Prop := -9223372036854775808 ≤ x ∧ x ≤ 9223372036854775807
theorem wf_i64 {x : Int} (h : inI64 x) : (Lit.int .i64 x).wf = true := by
  unfold inI64 at h
  have e1 : IntKind.i64.min = -9223372036854775808 := by decide
  have e2 : IntKind.i64.max = 9223372036854775807 := by decide
  simp only [Lit.wf, e1, e2, Bool.and_eq_true, decide_eq_true_eq]
  exact h
/-- a map of numbers in the kit's words: what its values are is left open -/
theorem owns_of {P : Program} {K : TypeId} (hK : P.underlying K = some (.int .i64)) {s : TH} {r τ : Nat} {m : List (Int × Value)} (h : MapK (Value.int .i64) s r m τ) (w : World) (hw : w.heap = s.h) (hn : m.length ≤ 17592186044416) (hk : ∀ k ∈ m.map (·.1), inI64 k) :
    ∃ D0 : DataW Unit, w.ownsMap P K (fun _ => some (.nil, [])) r m.length D0 ∧ (intKeys D0).Perm (m.map (·.1)) ∧ Go.Maps.size D0 = m.length := by
  obtain ⟨es, ck, hg, he⟩ := h.get
  have hlen : es.length = m.length := by have := congrArg List.length he.key; simpa using this
  have hread : ∀ x ∈ es, ∃ k, x.key = .int .i64 k ∧ inI64 k := fun x hx => by
    have : x.key ∈ es.map (·.key) := List.mem_map.2 ⟨x, hx, rfl⟩
    rw [he.key] at this
    obtain ⟨p, hp, hpx⟩ := List.mem_map.1 this
    exact ⟨p.1, hpx.symm, hk _ (List.mem_map.2 ⟨p, hp, rfl⟩)⟩
  have hrd : ∀ (x : MapEntry) (k : Int), x.key = .int .i64 k → inI64 k → Go.WideElems.rd (H := Unit) P K (fun _ => some (.nil, [])) x = some (.int .i64 k, .nil) := fun x k hx hk => by
    obtain ⟨xk, xv, xb⟩ := x
    cases hx
    exact Go.WideElems.rd_mk (R := fun _ => some (.nil, [])) (yv := (.nil, [])) (keyOf_int_mk hK (wf_i64 hk)) rfl
  have hnd : (es.map (·.key)).Nodup := by
    rw [he.key]
    exact List.pairwise_map.2 ((List.pairwise_map.1 h.nd).imp fun {a b} hab => by simpa using hab)
  refine ⟨.map ((es.map (Go.WideElems.rg P K (fun _ => some (.nil, [])))).foldr DataW.insert []), ⟨es.toArray, ck, by rw [hw]; exact hg, ⟨by unfold maxLen; simp; omega, ⟨by simpa using he.old, by simpa using he.born, by simpa using hnd⟩, ?_⟩, by simp; omega, by simp⟩, ?_, ?_⟩
  · intro x hx
    obtain ⟨k, h1, h2⟩ := hread x (by simpa using hx)
    exact ⟨_, hrd x k h1 h2⟩
  · have hp := Go.WideShapes.sorted_perm (es.map (Go.WideElems.rg (H := Unit) P K (fun _ => some (.nil, []))))
    have hq := hp.map (fun p => Go.intOf p.1)
    refine hq.trans (List.Perm.of_eq ?_)
    rw [List.map_map]
    have e1 : es.map ((fun p : Lit × DataW Unit => Go.intOf p.1) ∘ Go.WideElems.rg P K (fun _ => some (.nil, []))) = es.map (fun x => match x.key with | .int _ k => k | _ => 0) := by
      apply List.map_congr_left
      intro x hx
      obtain ⟨k, h1, h2⟩ := hread x hx
      simp only [Function.comp, Go.WideElems.rg_of (hrd x k h1 h2), h1]
      rfl
    rw [e1]
    have e2 : es.map (fun x => match x.key with | .int _ k => k | _ => 0) = (es.map (·.key)).map (fun v => match v with | .int _ k => k | _ => 0) := by rw [List.map_map]; rfl
    rw [e2, he.key, List.map_map]
    rfl
  · show (List.foldr DataW.insert [] _).length = _
    rw [(Go.WideShapes.sorted_perm _).length_eq, List.length_map, hlen]
/-- slices.Collect over maps.Keys of a map of numbers -/
theorem c_collect (τ : Nat) (Bm r tb τb τm : Nat) {m : List (Int × Value)} {s : TH} (hB : Blk s Bm [.map (some r)] tb τb) (hm : MapK (Value.int .i64) s r m τm) (hn : m.length ≤ 17592186044416) (hk : ∀ k ∈ m.map (·.1), inI64 k) :
    TRet Tryz.prog 216 #[.func (.func 279) #[] #[.pointer (some ⟨Bm, 0, none⟩)]] s fun v s' => (∃ a c ss, v = .slice a m.length c ∧ ss.Perm (m.map (·.1)) ∧ Own s' a m.length c 3 1 (ivs ss) τ ∧ ∀ b, a = some b → s.h.size ≤ b.block) ∧ Ch [] s s' :=
  tret_new τ fun w hw => by
    have hm0 : w.cell? ⟨Bm, 0, none⟩ = some (.map (some r)) := by rw [cell_eq, hw]; exact hB.cell 0
    obtain ⟨D0, ho, hp, hsz⟩ := owns_of (P := Tryz.prog) (K := 3) (by kernel_rfl) hm w hw hn hk
    have hseq : SeqGives Fence.wide 4 Tryz.prog 279 #[.pointer (some ⟨Bm, 0, none⟩)] encZ (fun ss : List Int => ss.Perm (intKeys D0)) (Go.Maps.size D0) w :=
      AnyZI.keys_gives (ρ := Tryz.keysA_ren) { Tryz.keysA with } Fence.wide 4 trivial rfl (by omega) Bm r m.length D0 w (by rw [hw]; exact hB.lt) hm0 ho
    have h := AnyZI.collect_in (ρ := Tryz.collectA_ren) Tryz.collectA Fence.wide 6 trivial trivial rfl (by omega) 279 #[.pointer (some ⟨Bm, 0, none⟩)] trivial (enters_of Tryz.func279 (by kernel_rfl) rfl) _ (Go.Maps.size D0) (by rw [hsz]; unfold maxLen; omega) (by rw [hsz]; omega) w hseq
    refine ((callsIn_wide (n := 6)).1 h).mono ?_
    rintro e w' ⟨v, ss, rfl, hs, hrow, hv, hb⟩
    have hp2 := hs.trans hp
    have hl : ss.length = m.length := by rw [hp2.length_eq]; simp
    obtain ⟨a, c, rfl, hO, hnew⟩ := own_of_row (g := fun j => if j < s.h.size then s.g j else τ) (τ := τ) hrow (fun j hj => by rw [if_neg (by rw [← hw]; omega)])
    rw [hl] at hO ⊢
    exact ⟨_, rfl, hb, a, c, ss, rfl, hp2, hO, by rw [← hw]; exact hnew⟩
end Go.Proofs.YtngploohhmfaiaaGreat.E
