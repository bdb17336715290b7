/- The functions' forms in the engine's words, printed by my own program. -/
import Derived.Test.YtmgjdmohmhaemaaProg
import Derived.Test.YtmgjdmohmhaemaaEng11
import Derived.KernelRfl
namespace Go.Proofs.Ytmgjdmohmhaemaa.E
open Go Go.Proofs
set_option linter.unusedVariables false
/-- bollard/geom.Owner -/
def F45 (x0_0 : Value) (x0_1 : Value) (x0_2 : Value) (x1 : Int) (R : Ending → Heap → Prop) (H : Heap) : Prop :=
  al H (Obj.cells #[x0_0, x0_1, x0_2] 23) (fun r1 H2 =>
  ld H2 (Addr.mk r1 2 none) (fun v3 =>
  dInt IntKind.i64 v3 (fun n4 =>
  ld H2 (Addr.mk r1 0 none) (fun v5 =>
  ld H2 (Addr.mk r1 1 none) (fun v6 =>
  ld H2 (Addr.mk r1 2 none) (fun v7 =>
  HCalls Try.prog 15 #[Value.agg #[v5, v6, v7]] H2 (Sp.retK (fun v8 H9 =>
  dInt IntKind.i64 v8 (fun n10 =>
  (ld H9 (Addr.mk r1 2 none) (fun v11 =>
  dInt IntKind.i64 v11 (fun n12 =>
  (Value.int IntKind.i64 n12) = (Value.int IntKind.i64 n4)))) ∧
  HCalls Try.prog 75 #[Value.int IntKind.i64 x1, Value.int IntKind.i64 n4, Value.int IntKind.i64 n10] H9 (Sp.retK (fun v13 H14 =>
  dT 3 v13 (fun v15 v16 v17 =>
  dInt IntKind.i64 v15 (fun n18 =>
  dInt IntKind.i64 v16 (fun n19 =>
  dBl v17 (fun b20 =>
  R (Ending.returned (Value.tuple #[Value.int IntKind.i64 n18, Value.int IntKind.i64 n19, Value.bool b20])) H14))))) nopR))) nopR)))))))
theorem F45_eq (x0_0 : Value) (x0_1 : Value) (x0_2 : Value) (x1 : Int) (R : Ending → Heap → Prop) (H : Heap) : F45 x0_0 x0_1 x0_2 x1 R H = vc Try.prog (codeOf Try.f45) .leaf (postV Try.prog Try.f45 R) ⟨#[Value.agg #[x0_0, x0_1, x0_2], Value.int IntKind.i64 x1] ++ Array.replicate (Try.f45.ntmps - 2) undef, []⟩ H := by kernel_rfl
theorem F45_calls {R : Ending → Heap → Prop} {H : Heap} (x0_0 : Value) (x0_1 : Value) (x0_2 : Value) (x1 : Int) (h : F45 x0_0 x0_1 x0_2 x1 R H) : HCalls Try.prog 45 #[Value.agg #[x0_0, x0_1, x0_2], Value.int IntKind.i64 x1] H R :=
  calls_by (F := F45 x0_0 x0_1 x0_2 x1 R H) .leaf Try.func45 rfl (F45_eq x0_0 x0_1 x0_2 x1 R H) h
/-- bollard/geom.Group -/
def F46 (x0_0 : Value) (x0_1 : Value) (x0_2 : Value) (x1 : Int) (R : Ending → Heap → Prop) (H : Heap) : Prop :=
  al H (Obj.cells #[x0_0, x0_1, x0_2] 23) (fun r1 H2 =>
  ld H2 (Addr.mk r1 1 none) (fun v3 =>
  dInt IntKind.i64 v3 (fun n4 =>
  ld H2 (Addr.mk r1 0 none) (fun v5 =>
  ld H2 (Addr.mk r1 1 none) (fun v6 =>
  ld H2 (Addr.mk r1 2 none) (fun v7 =>
  HCalls Try.prog 11 #[Value.agg #[v5, v6, v7]] H2 (Sp.retK (fun v8 H9 =>
  dInt IntKind.i64 v8 (fun n10 =>
  (ld H9 (Addr.mk r1 1 none) (fun v11 =>
  dInt IntKind.i64 v11 (fun n12 =>
  (Value.int IntKind.i64 n12) = (Value.int IntKind.i64 n4)))) ∧
  HCalls Try.prog 75 #[Value.int IntKind.i64 x1, Value.int IntKind.i64 n4, Value.int IntKind.i64 n10] H9 (Sp.retK (fun v13 H14 =>
  dT 3 v13 (fun v15 v16 v17 =>
  dInt IntKind.i64 v15 (fun n18 =>
  dInt IntKind.i64 v16 (fun n19 =>
  dBl v17 (fun b20 =>
  R (Ending.returned (Value.tuple #[Value.int IntKind.i64 n18, Value.int IntKind.i64 n19, Value.bool b20])) H14))))) nopR))) nopR)))))))
theorem F46_eq (x0_0 : Value) (x0_1 : Value) (x0_2 : Value) (x1 : Int) (R : Ending → Heap → Prop) (H : Heap) : F46 x0_0 x0_1 x0_2 x1 R H = vc Try.prog (codeOf Try.f46) .leaf (postV Try.prog Try.f46 R) ⟨#[Value.agg #[x0_0, x0_1, x0_2], Value.int IntKind.i64 x1] ++ Array.replicate (Try.f46.ntmps - 2) undef, []⟩ H := by kernel_rfl
theorem F46_calls {R : Ending → Heap → Prop} {H : Heap} (x0_0 : Value) (x0_1 : Value) (x0_2 : Value) (x1 : Int) (h : F46 x0_0 x0_1 x0_2 x1 R H) : HCalls Try.prog 46 #[Value.agg #[x0_0, x0_1, x0_2], Value.int IntKind.i64 x1] H R :=
  calls_by (F := F46 x0_0 x0_1 x0_2 x1 R H) .leaf Try.func46 rfl (F46_eq x0_0 x0_1 x0_2 x1 R H) h
/-- bollard/bollardref04.Group -/
def F47 (x0_0 : Value) (x0_1 : Value) (x0_2 : Value) (x1 : Int) (R : Ending → Heap → Prop) (H : Heap) : Prop :=
  al H (Obj.cells #[x0_0, x0_1, x0_2] 23) (fun r1 H2 =>
  jn (α := VFH 1) (fun v3 H4 =>
  ∀ v5 v6 v7 v8 v9 v10 v11 : Value,
  dBl v3 (fun b12 =>
  sB b12 (R (Ending.returned (Value.tuple #[Value.int IntKind.i64 0, Value.int IntKind.i64 0, Value.bool false])) H4) (ld H4 (Addr.mk r1 1 none) (fun v13 =>
  dInt IntKind.i64 v13 (fun n14 =>
  ask (n14 ≠ (0 : Int)) (wr IntKind.i64 (Int.tdiv x1 n14) (fun n15 =>
  ld H4 (Addr.mk r1 1 none) (fun v16 =>
  dInt IntKind.i64 v16 (fun n17 =>
  ask (n17 ≠ (0 : Int)) (nm (Int.tmod x1 n17) (fun n18 =>
  R (Ending.returned (Value.tuple #[Value.int IntKind.i64 n15, Value.int IntKind.i64 n18, Value.bool true])) H4))))))))))) (fun k19 =>
  sB (decide (x1 < 0)) (k19 (Value.bool true) H2) (ld H2 (Addr.mk r1 0 none) (fun v20 =>
  ld H2 (Addr.mk r1 1 none) (fun v21 =>
  ld H2 (Addr.mk r1 2 none) (fun v22 =>
  HCalls Try.prog 76 #[Value.agg #[v20, v21, v22]] H2 (Sp.retK (fun v23 H24 =>
  dInt IntKind.i64 v23 (fun n25 =>
  k19 (Value.bool (decide (x1 ≥ n25))) H24)) (pnR R))))))))
theorem F47_eq (x0_0 : Value) (x0_1 : Value) (x0_2 : Value) (x1 : Int) (R : Ending → Heap → Prop) (H : Heap) : F47 x0_0 x0_1 x0_2 x1 R H = vc Try.prog (codeOf Try.f47) (.node none .leaf (.node none (.node (some ⟨[(14, 4)], [7, 8, 9, 10, 11, 12, 13]⟩) .leaf .leaf) .leaf)) (postV Try.prog Try.f47 R) ⟨#[Value.agg #[x0_0, x0_1, x0_2], Value.int IntKind.i64 x1] ++ Array.replicate (Try.f47.ntmps - 2) undef, []⟩ H := by kernel_rfl
theorem F47_calls {R : Ending → Heap → Prop} {H : Heap} (x0_0 : Value) (x0_1 : Value) (x0_2 : Value) (x1 : Int) (h : F47 x0_0 x0_1 x0_2 x1 R H) : HCalls Try.prog 47 #[Value.agg #[x0_0, x0_1, x0_2], Value.int IntKind.i64 x1] H R :=
  calls_by (F := F47 x0_0 x0_1 x0_2 x1 R H) (.node none .leaf (.node none (.node (some ⟨[(14, 4)], [7, 8, 9, 10, 11, 12, 13]⟩) .leaf .leaf) .leaf)) Try.func47 rfl (F47_eq x0_0 x0_1 x0_2 x1 R H) h
/-- slices.EqualFunc[[][]byte,[][]byte,[]byte,[]byte] -/
def F56 (x0a : Option Addr) (x0n : Nat) (x0c : Nat) (x1a : Option Addr) (x1n : Nat) (x1c : Nat) (x2g : Nat) (x2f : Array Value) (x2c : Array Value) (R : Ending → Heap → Prop) (H : Heap) : Prop :=
  sB ((↑x0n : Int) != (↑x1n : Int)) (R (Ending.returned (Value.bool false)) H) (∃ I1 : List Value → Heap → Prop,
  ∃ I2 : List Value → Heap → Nat,
  (I1 ([Value.int IntKind.i64 0]) H) ∧
  ∀ n3 : Int,
  ∀ v4 v5 v6 v7 v8 v9 v10 v11 v12 v13 v14 v15 v16 v17 v18 v19 v20 v21 : Value,
  ∀ H22 : Heap,
  (I1 ([Value.int IntKind.i64 n3]) H22) →
  sB (decide (n3 < (↑x0n : Int))) (nz x0a (fun a24 =>
  ask ((0 : Int) ≤ n3 ∧ n3 < (↑x0n : Int)) (ld H22 (Addr.add a24 (Int.toNat n3 * 1)) (fun v25 =>
  dSl v25 (fun p26 r27 r28 =>
  nz x1a (fun a29 =>
  ask ((0 : Int) ≤ n3 ∧ n3 < (↑x1n : Int)) (ld H22 (Addr.add a29 (Int.toNat n3 * 1)) (fun v30 =>
  dSl v30 (fun p31 r32 r33 =>
  gB (plainFn Try.prog x2g) (HCalls Try.prog x2g (argsOf x2f [Value.slice p26 r27 r28, Value.slice p31 r32 r33] x2c) H22 (Sp.retK (fun v34 H35 =>
  dBl v34 (fun b36 =>
  sB (!b36) (R (Ending.returned (Value.bool false)) H35) (wr IntKind.i64 (n3 + 1) (fun n37 =>
  (I1 ([Value.int IntKind.i64 n37]) H35) ∧
  (I2 [Value.int IntKind.i64 n37] H35) < (I2 [Value.int IntKind.i64 n3] H22))))) (pnR R)))))))))))) (R (Ending.returned (Value.bool true)) H22))
theorem F56_eq (x0a : Option Addr) (x0n : Nat) (x0c : Nat) (x1a : Option Addr) (x1n : Nat) (x1c : Nat) (x2g : Nat) (x2f : Array Value) (x2c : Array Value) (R : Ending → Heap → Prop) (H : Heap) : F56 x0a x0n x0c x1a x1n x1c x2g x2f x2c R H = vc Try.prog (codeOf Try.f56) (.node none .leaf (.node none .leaf (.node none (.node none .leaf (.node none (.node (some ⟨[(17, 3)], [6, 7, 8, 9, 18, 19, 20, 21, 22, 23, 24, 25, 26, 27, 28, 29, 30, 31]⟩) .leaf .leaf) .leaf)) .leaf))) (postV Try.prog Try.f56 R) ⟨#[Value.slice x0a x0n x0c, Value.slice x1a x1n x1c, Value.func (Fn.func x2g) x2f x2c] ++ Array.replicate (Try.f56.ntmps - 3) undef, []⟩ H := by kernel_rfl
theorem F56_calls {R : Ending → Heap → Prop} {H : Heap} (x0a : Option Addr) (x0n : Nat) (x0c : Nat) (x1a : Option Addr) (x1n : Nat) (x1c : Nat) (x2g : Nat) (x2f : Array Value) (x2c : Array Value) (h : F56 x0a x0n x0c x1a x1n x1c x2g x2f x2c R H) : HCalls Try.prog 56 #[Value.slice x0a x0n x0c, Value.slice x1a x1n x1c, Value.func (Fn.func x2g) x2f x2c] H R :=
  calls_by (F := F56 x0a x0n x0c x1a x1n x1c x2g x2f x2c R H) (.node none .leaf (.node none .leaf (.node none (.node none .leaf (.node none (.node (some ⟨[(17, 3)], [6, 7, 8, 9, 18, 19, 20, 21, 22, 23, 24, 25, 26, 27, 28, 29, 30, 31]⟩) .leaf .leaf) .leaf)) .leaf))) Try.func56 rfl (F56_eq x0a x0n x0c x1a x1n x1c x2g x2f x2c R H) h
/-- bollard/disk.New -/
def F57 (x0 : Int) (R : Ending → Heap → Prop) (H : Heap) : Prop :=
  jn (α := VFH 1) (fun v1 H2 =>
  ∀ v3 v4 v5 v6 v7 : Value,
  dBl v1 (fun b8 =>
  sB b8 (R (Ending.returned (Value.tuple #[Value.pointer none, Value.int IntKind.i64 1])) H2) (al H2 (Obj.map #[] 0) (fun r9 H10 =>
  al H10 (Obj.cells #[Value.slice none 0 0, Value.slice none 0 0, Value.map (some r9), Value.int IntKind.i64 0] 77) (fun r11 H12 =>
  ∃ I13 : List Value → Heap → Prop,
  ∃ I14 : List Value → Heap → Nat,
  (I13 ([Value.int IntKind.i64 0]) H12) ∧
  ∀ n15 : Int,
  ∀ v16 v17 v18 v19 v20 v21 v22 v23 v24 v25 v26 v27 : Value,
  ∀ H28 : Heap,
  (I13 ([Value.int IntKind.i64 n15]) H28) →
  sB (decide (n15 < x0)) (ld H28 (Addr.mk r11 0 none) (fun v30 =>
  dSl v30 (fun p31 r32 r33 =>
  ask ((0 : Int) ≤ (128 : Int) ∧ (128 : Int) ≤ (128 : Int) ∧ (128 : Int) ≤ (281474976710656 : Int) ∧ (128 : Int) ≤ (9223372036854775807 : Int)) (al H28 (Obj.cells (List.toArray (rowZ [Value.int IntKind.u8 0] (Int.toNat 128))) 5) (fun r34 H35 =>
  (ld H35 (Addr.mk r11 0 none) (fun v36 =>
  dSl v36 (fun p37 r38 r39 =>
  (Value.slice p37 r38 r39) = (Value.slice p31 r32 r33)))) ∧
  al H35 (Obj.cells #[Value.slice (some (Addr.mk r34 0 none)) (Int.toNat 128) (Int.toNat 128)] 48) (fun r40 H41 =>
  (ld H41 (Addr.mk r11 0 none) (fun v42 =>
  dSl v42 (fun p43 r44 r45 =>
  (Value.slice p43 r44 r45) = (Value.slice p31 r32 r33)))) ∧
  semW Try.prog (Builtin.append_ #[37, 37] 37 #[Value.slice p31 r32 r33, Value.slice (some (Addr.mk r40 0 none)) 1 1]) nopR H41 (fun v48 H49 =>
  dSl v48 (fun p50 r51 r52 =>
  st H49 (Addr.mk r11 0 none) (Value.slice p50 r51 r52) (fun H53 =>
  wr IntKind.i64 (n15 + 1) (fun n54 =>
  (I13 ([Value.int IntKind.i64 n54]) H53) ∧
  (I14 [Value.int IntKind.i64 n54] H53) < (I14 [Value.int IntKind.i64 n15] H28))))))))))) (R (Ending.returned (Value.tuple #[Value.pointer (some (Addr.mk r11 0 none)), Value.int IntKind.i64 0])) H28)))))) (fun k55 =>
  sB (decide (x0 < 1)) (k55 (Value.bool true) H) (k55 (Value.bool (decide (x0 > 2048))) H))
theorem F57_eq (x0 : Int) (R : Ending → Heap → Prop) (H : Heap) : F57 x0 R H = vc Try.prog (codeOf Try.f57) (.node none .leaf (.node none (.node (some ⟨[(10, 4)], [5, 6, 7, 8, 9]⟩) .leaf .leaf) (.node none .leaf (.node none (.node none .leaf (.node none (.node (some ⟨[(15, 3)], [16, 17, 18, 19, 20, 21, 22, 23, 24, 25, 26, 27]⟩) .leaf .leaf) .leaf)) .leaf)))) (postV Try.prog Try.f57 R) ⟨#[Value.int IntKind.i64 x0] ++ Array.replicate (Try.f57.ntmps - 1) undef, []⟩ H := by kernel_rfl
theorem F57_calls {R : Ending → Heap → Prop} {H : Heap} (x0 : Int) (h : F57 x0 R H) : HCalls Try.prog 57 #[Value.int IntKind.i64 x0] H R :=
  calls_by (F := F57 x0 R H) (.node none .leaf (.node none (.node (some ⟨[(10, 4)], [5, 6, 7, 8, 9]⟩) .leaf .leaf) (.node none .leaf (.node none (.node none .leaf (.node none (.node (some ⟨[(15, 3)], [16, 17, 18, 19, 20, 21, 22, 23, 24, 25, 26, 27]⟩) .leaf .leaf) .leaf)) .leaf)))) Try.func57 rfl (F57_eq x0 R H) h
/-- bollard/bollardref02.New -/
def F58 (x0 : Int) (R : Ending → Heap → Prop) (H : Heap) : Prop :=
  jn (α := VFH 1) (fun v1 H2 =>
  ∀ v3 v4 v5 v6 v7 : Value,
  dBl v1 (fun b8 =>
  sB b8 (R (Ending.returned (Value.tuple #[Value.pointer none, Value.int IntKind.i64 1])) H2) (ask ((0 : Int) ≤ x0 ∧ x0 ≤ x0 ∧ (8 : Int) * x0 ≤ (281474976710656 : Int) ∧ x0 ≤ (9223372036854775807 : Int)) (al H2 (Obj.cells (List.toArray (rowZ [Value.int IntKind.i64 0] (Int.toNat x0))) 3) (fun r9 H10 =>
  al H10 (Obj.cells #[Value.slice none 0 0, Value.slice none 0 0, Value.slice (some (Addr.mk r9 0 none)) (Int.toNat x0) (Int.toNat x0), Value.int IntKind.i64 0] 146) (fun r11 H12 =>
  ∃ I13 : List Value → Heap → Prop,
  ∃ I14 : List Value → Heap → Nat,
  (I13 ([Value.int IntKind.i64 0]) H12) ∧
  ∀ n15 : Int,
  ∀ v16 v17 v18 v19 v20 v21 v22 v23 v24 v25 v26 v27 : Value,
  ∀ H28 : Heap,
  (I13 ([Value.int IntKind.i64 n15]) H28) →
  sB (decide (n15 < x0)) (ld H28 (Addr.mk r11 0 none) (fun v30 =>
  dSl v30 (fun p31 r32 r33 =>
  ask ((0 : Int) ≤ (128 : Int) ∧ (128 : Int) ≤ (128 : Int) ∧ (128 : Int) ≤ (281474976710656 : Int) ∧ (128 : Int) ≤ (9223372036854775807 : Int)) (al H28 (Obj.cells (List.toArray (rowZ [Value.int IntKind.u8 0] (Int.toNat 128))) 5) (fun r34 H35 =>
  (ld H35 (Addr.mk r11 0 none) (fun v36 =>
  dSl v36 (fun p37 r38 r39 =>
  (Value.slice p37 r38 r39) = (Value.slice p31 r32 r33)))) ∧
  al H35 (Obj.cells #[Value.slice (some (Addr.mk r34 0 none)) (Int.toNat 128) (Int.toNat 128)] 48) (fun r40 H41 =>
  (ld H41 (Addr.mk r11 0 none) (fun v42 =>
  dSl v42 (fun p43 r44 r45 =>
  (Value.slice p43 r44 r45) = (Value.slice p31 r32 r33)))) ∧
  semW Try.prog (Builtin.append_ #[37, 37] 37 #[Value.slice p31 r32 r33, Value.slice (some (Addr.mk r40 0 none)) 1 1]) nopR H41 (fun v48 H49 =>
  dSl v48 (fun p50 r51 r52 =>
  st H49 (Addr.mk r11 0 none) (Value.slice p50 r51 r52) (fun H53 =>
  wr IntKind.i64 (n15 + 1) (fun n54 =>
  (I13 ([Value.int IntKind.i64 n54]) H53) ∧
  (I14 [Value.int IntKind.i64 n54] H53) < (I14 [Value.int IntKind.i64 n15] H28))))))))))) (R (Ending.returned (Value.tuple #[Value.pointer (some (Addr.mk r11 0 none)), Value.int IntKind.i64 0])) H28))))))) (fun k55 =>
  sB (decide (x0 < 1)) (k55 (Value.bool true) H) (k55 (Value.bool (decide (x0 > 2048))) H))
theorem F58_eq (x0 : Int) (R : Ending → Heap → Prop) (H : Heap) : F58 x0 R H = vc Try.prog (codeOf Try.f58) (.node none .leaf (.node none (.node (some ⟨[(10, 4)], [5, 6, 7, 8, 9]⟩) .leaf .leaf) (.node none .leaf (.node none (.node none .leaf (.node none (.node (some ⟨[(16, 3)], [17, 18, 19, 20, 21, 22, 23, 24, 25, 26, 27, 28]⟩) .leaf .leaf) .leaf)) .leaf)))) (postV Try.prog Try.f58 R) ⟨#[Value.int IntKind.i64 x0] ++ Array.replicate (Try.f58.ntmps - 1) undef, []⟩ H := by kernel_rfl
theorem F58_calls {R : Ending → Heap → Prop} {H : Heap} (x0 : Int) (h : F58 x0 R H) : HCalls Try.prog 58 #[Value.int IntKind.i64 x0] H R :=
  calls_by (F := F58 x0 R H) (.node none .leaf (.node none (.node (some ⟨[(10, 4)], [5, 6, 7, 8, 9]⟩) .leaf .leaf) (.node none .leaf (.node none (.node none .leaf (.node none (.node (some ⟨[(16, 3)], [17, 18, 19, 20, 21, 22, 23, 24, 25, 26, 27, 28]⟩) .leaf .leaf) .leaf)) .leaf)))) Try.func58 rfl (F58_eq x0 R H) h
/-- (*bollard/disk.Disk).Write -/
def F59 (x0 : Option Addr) (x1 : Int) (x2a : Option Addr) (x2n : Nat) (x2c : Nat) (R : Ending → Heap → Prop) (H : Heap) : Prop :=
  al H (Obj.cells #[Value.int IntKind.i64 x1] 3) (fun r1 H2 =>
  ld H2 (Addr.mk r1 0 none) (fun v3 =>
  dInt IntKind.i64 v3 (fun n4 =>
  HCalls Try.prog 72 #[Value.pointer x0, Value.int IntKind.i64 n4] H2 (Sp.retK (fun v5 H6 =>
  dInt IntKind.i64 v5 (fun n7 =>
  sB (n7 != 0) (R (Ending.returned (Value.tuple #[Value.int IntKind.i64 0, Value.int IntKind.i64 n7])) H6) (sB ((↑x2n : Int) != 128) (R (Ending.returned (Value.tuple #[Value.int IntKind.i64 0, Value.int IntKind.i64 1])) H6) (nz x0 (fun a8 =>
  ld H6 (Addr.add a8 1) (fun v9 =>
  dSl v9 (fun p10 r11 r12 =>
  HCalls Try.prog 94 #[Value.slice p10 r11 r12, Value.func (Fn.func 95) #[] #[Value.pointer (some (Addr.mk r1 0 none))]] H6 (Sp.retK (fun v13 H14 =>
  dBl v13 (fun b15 =>
  sB b15 (R (Ending.returned (Value.tuple #[Value.int IntKind.i64 0, Value.int IntKind.i64 21])) H14) (nz x0 (fun a16 =>
  ld H14 (Addr.add a16 1) (fun v17 =>
  dSl v17 (fun p18 r19 r20 =>
  sB (decide ((↑r19 : Int) ≥ 64)) (R (Ending.returned (Value.tuple #[Value.int IntKind.i64 0, Value.int IntKind.i64 3])) H14) (nz x0 (fun a21 =>
  ld H14 (Addr.add a21 3) (fun v22 =>
  dInt IntKind.i64 v22 (fun n23 =>
  wr IntKind.i64 (n23 + 1) (fun n24 =>
  nz x0 (fun a25 =>
  st H14 (Addr.add a25 3) (Value.int IntKind.i64 n24) (fun H26 =>
  nz x0 (fun a27 =>
  ld H26 (Addr.add a27 1) (fun v28 =>
  dSl v28 (fun p29 r30 r31 =>
  nz x0 (fun a32 =>
  ld H26 (Addr.add a32 3) (fun v33 =>
  dInt IntKind.i64 v33 (fun n34 =>
  ld H26 (Addr.mk r1 0 none) (fun v35 =>
  dInt IntKind.i64 v35 (fun n36 =>
  HCalls Try.prog 65 #[Value.slice x2a x2n x2c] H26 (Sp.retK (fun v37 H38 =>
  dSl v37 (fun p39 r40 r41 =>
  (ld H38 (Addr.mk r1 0 none) (fun v42 =>
  dInt IntKind.i64 v42 (fun n43 =>
  (Value.int IntKind.i64 n43) = (Value.int IntKind.i64 n36)))) ∧
  (ld H38 (Addr.add a32 3) (fun v44 =>
  dInt IntKind.i64 v44 (fun n45 =>
  (Value.int IntKind.i64 n45) = (Value.int IntKind.i64 n34)))) ∧
  (ld H38 (Addr.add a27 1) (fun v46 =>
  dSl v46 (fun p47 r48 r49 =>
  (Value.slice p47 r48 r49) = (Value.slice p29 r30 r31)))) ∧
  al H38 (Obj.cells #[Value.int IntKind.i64 n34, Value.int IntKind.i64 n36, Value.slice p39 r40 r41] 149) (fun r50 H51 =>
  (ld H51 (Addr.add a27 1) (fun v52 =>
  dSl v52 (fun p53 r54 r55 =>
  (Value.slice p53 r54 r55) = (Value.slice p29 r30 r31)))) ∧
  semW Try.prog (Builtin.append_ #[74, 74] 74 #[Value.slice p29 r30 r31, Value.slice (some (Addr.mk r50 0 none)) 1 1]) nopR H51 (fun v58 H59 =>
  dSl v58 (fun p60 r61 r62 =>
  nz x0 (fun a63 =>
  st H59 (Addr.add a63 1) (Value.slice p60 r61 r62) (fun H64 =>
  nz x0 (fun a65 =>
  ld H64 (Addr.add a65 3) (fun v66 =>
  dInt IntKind.i64 v66 (fun n67 =>
  R (Ending.returned (Value.tuple #[Value.int IntKind.i64 n67, Value.int IntKind.i64 0])) H64)))))))))) nopR)))))))))))))))))))))) (pnR R))))))))) (pnR R)))))
theorem F59_eq (x0 : Option Addr) (x1 : Int) (x2a : Option Addr) (x2n : Nat) (x2c : Nat) (R : Ending → Heap → Prop) (H : Heap) : F59 x0 x1 x2a x2n x2c R H = vc Try.prog (codeOf Try.f59) .leaf (postV Try.prog Try.f59 R) ⟨#[Value.pointer x0, Value.int IntKind.i64 x1, Value.slice x2a x2n x2c] ++ Array.replicate (Try.f59.ntmps - 3) undef, []⟩ H := by kernel_rfl
theorem F59_calls {R : Ending → Heap → Prop} {H : Heap} (x0 : Option Addr) (x1 : Int) (x2a : Option Addr) (x2n : Nat) (x2c : Nat) (h : F59 x0 x1 x2a x2n x2c R H) : HCalls Try.prog 59 #[Value.pointer x0, Value.int IntKind.i64 x1, Value.slice x2a x2n x2c] H R :=
  calls_by (F := F59 x0 x1 x2a x2n x2c R H) .leaf Try.func59 rfl (F59_eq x0 x1 x2a x2n x2c R H) h
/-- (*bollard/bollardref02.Disk).Write -/
def F60 (x0 : Option Addr) (x1 : Int) (x2a : Option Addr) (x2n : Nat) (x2c : Nat) (R : Ending → Heap → Prop) (H : Heap) : Prop :=
  jn (α := VFH 1) (fun v1 H2 =>
  ∀ v3 v4 v5 v6 v7 v8 v9 v10 : Value,
  dBl v1 (fun b11 =>
  sB b11 (R (Ending.returned (Value.tuple #[Value.int IntKind.i64 0, Value.int IntKind.i64 1])) H2) (nz x0 (fun a12 =>
  ld H2 (Addr.add a12 1) (fun v13 =>
  dSl v13 (fun p14 r15 r16 =>
  ∃ I17 : List Value → Heap → Prop,
  ∃ I18 : List Value → Heap → Nat,
  (I17 ([Value.int IntKind.i64 0]) H2) ∧
  ∀ n19 : Int,
  ∀ v20 v21 v22 v23 v24 v25 v26 v27 v28 v29 v30 : Value,
  ∀ H31 : Heap,
  (I17 ([Value.int IntKind.i64 n19]) H31) →
  sB (decide (n19 < (↑r15 : Int))) (nz p14 (fun a33 =>
  ask ((0 : Int) ≤ n19 ∧ n19 < (↑r15 : Int)) (ld H31 (Addr.add a33 (Int.toNat n19 * 3)) (fun v34 =>
  ld H31 (Addr.add (Addr.add a33 (Int.toNat n19 * 3)) 1) (fun v35 =>
  ld H31 (Addr.add (Addr.add a33 (Int.toNat n19 * 3)) 2) (fun v36 =>
  al H31 (Obj.cells #[Value.int IntKind.i64 0, Value.int IntKind.i64 0, Value.slice none 0 0] 149) (fun r37 H38 =>
  st H38 (Addr.mk r37 0 none) v34 (fun H39 =>
  st H39 (Addr.mk r37 1 none) v35 (fun H40 =>
  st H40 (Addr.mk r37 2 none) v36 (fun H41 =>
  ld H41 (Addr.mk r37 1 none) (fun v42 =>
  dInt IntKind.i64 v42 (fun n43 =>
  sB (n43 == x1) (R (Ending.returned (Value.tuple #[Value.int IntKind.i64 0, Value.int IntKind.i64 21])) H41) (wr IntKind.i64 (n19 + 1) (fun n44 =>
  (I17 ([Value.int IntKind.i64 n44]) H41) ∧
  (I18 [Value.int IntKind.i64 n44] H41) < (I18 [Value.int IntKind.i64 n19] H31))))))))))))))) (nz x0 (fun a45 =>
  ld H31 (Addr.add a45 1) (fun v46 =>
  dSl v46 (fun p47 r48 r49 =>
  sB (decide ((↑r48 : Int) ≥ 64)) (R (Ending.returned (Value.tuple #[Value.int IntKind.i64 0, Value.int IntKind.i64 3])) H31) (nz x0 (fun a50 =>
  ld H31 (Addr.add a50 3) (fun v51 =>
  dInt IntKind.i64 v51 (fun n52 =>
  wr IntKind.i64 (n52 + 1) (fun n53 =>
  nz x0 (fun a54 =>
  st H31 (Addr.add a54 3) (Value.int IntKind.i64 n53) (fun H55 =>
  nz x0 (fun a56 =>
  ld H55 (Addr.add a56 1) (fun v57 =>
  dSl v57 (fun p58 r59 r60 =>
  nz x0 (fun a61 =>
  ld H55 (Addr.add a61 3) (fun v62 =>
  dInt IntKind.i64 v62 (fun n63 =>
  HCalls Try.prog 97 #[Value.slice x2a x2n x2c] H55 (Sp.retK (fun v64 H65 =>
  dSl v64 (fun p66 r67 r68 =>
  (ld H65 (Addr.add a61 3) (fun v69 =>
  dInt IntKind.i64 v69 (fun n70 =>
  (Value.int IntKind.i64 n70) = (Value.int IntKind.i64 n63)))) ∧
  (ld H65 (Addr.add a56 1) (fun v71 =>
  dSl v71 (fun p72 r73 r74 =>
  (Value.slice p72 r73 r74) = (Value.slice p58 r59 r60)))) ∧
  al H65 (Obj.cells #[Value.int IntKind.i64 n63, Value.int IntKind.i64 x1, Value.slice p66 r67 r68] 149) (fun r75 H76 =>
  (ld H76 (Addr.add a56 1) (fun v77 =>
  dSl v77 (fun p78 r79 r80 =>
  (Value.slice p78 r79 r80) = (Value.slice p58 r59 r60)))) ∧
  semW Try.prog (Builtin.append_ #[74, 74] 74 #[Value.slice p58 r59 r60, Value.slice (some (Addr.mk r75 0 none)) 1 1]) nopR H76 (fun v83 H84 =>
  dSl v83 (fun p85 r86 r87 =>
  nz x0 (fun a88 =>
  st H84 (Addr.add a88 1) (Value.slice p85 r86 r87) (fun H89 =>
  nz x0 (fun a90 =>
  ld H89 (Addr.add a90 3) (fun v91 =>
  dInt IntKind.i64 v91 (fun n92 =>
  R (Ending.returned (Value.tuple #[Value.int IntKind.i64 n92, Value.int IntKind.i64 0])) H89)))))))))) nopR)))))))))))))))))))))))) (fun k95 =>
  HCalls Try.prog 96 #[Value.pointer x0, Value.int IntKind.i64 x1] H (Sp.retK (fun v96 H97 =>
  dBl v96 (fun b98 =>
  sB (!b98) (k95 (Value.bool true) H97) (k95 (Value.bool ((↑x2n : Int) != 128)) H97))) (pnR R)))
theorem F60_eq (x0 : Option Addr) (x1 : Int) (x2a : Option Addr) (x2n : Nat) (x2c : Nat) (R : Ending → Heap → Prop) (H : Heap) : F60 x0 x1 x2a x2n x2c R H = vc Try.prog (codeOf Try.f60) (.node none .leaf (.node none (.node (some ⟨[(18, 4)], [10, 11, 12, 13, 14, 15, 16, 17]⟩) .leaf .leaf) (.node none (.node none .leaf (.node none (.node (some ⟨[(24, 3)], [6, 7, 9, 25, 26, 27, 28, 29, 30, 31, 32]⟩) .leaf .leaf) .leaf)) .leaf))) (postV Try.prog Try.f60 R) ⟨#[Value.pointer x0, Value.int IntKind.i64 x1, Value.slice x2a x2n x2c] ++ Array.replicate (Try.f60.ntmps - 3) undef, []⟩ H := by kernel_rfl
theorem F60_calls {R : Ending → Heap → Prop} {H : Heap} (x0 : Option Addr) (x1 : Int) (x2a : Option Addr) (x2n : Nat) (x2c : Nat) (h : F60 x0 x1 x2a x2n x2c R H) : HCalls Try.prog 60 #[Value.pointer x0, Value.int IntKind.i64 x1, Value.slice x2a x2n x2c] H R :=
  calls_by (F := F60 x0 x1 x2a x2n x2c R H) (.node none .leaf (.node none (.node (some ⟨[(18, 4)], [10, 11, 12, 13, 14, 15, 16, 17]⟩) .leaf .leaf) (.node none (.node none .leaf (.node none (.node (some ⟨[(24, 3)], [6, 7, 9, 25, 26, 27, 28, 29, 30, 31, 32]⟩) .leaf .leaf) .leaf)) .leaf))) Try.func60 rfl (F60_eq x0 x1 x2a x2n x2c R H) h
/-- (*bollard/disk.Disk).Complete -/
def F61 (x0 : Option Addr) (x1 : Int) (x2 : Bool) (R : Ending → Heap → Prop) (H : Heap) : Prop :=
  HCalls Try.prog 98 #[Value.pointer x0] H (Sp.retK (fun v1 H2 =>
  dBl v1 (fun b3 =>
  sB (!b3) (R (Ending.returned (Value.int IntKind.i64 2)) H2) (HCalls Try.prog 99 #[Value.pointer x0, Value.int IntKind.i64 x1] H2 (Sp.retK (fun v4 H5 =>
  dInt IntKind.i64 v4 (fun n6 =>
  sB (decide (n6 < 0)) (R (Ending.returned (Value.int IntKind.i64 20)) H5) (nz x0 (fun a7 =>
  ld H5 (Addr.add a7 1) (fun v8 =>
  dSl v8 (fun p9 r10 r11 =>
  nz p9 (fun a12 =>
  ask ((0 : Int) ≤ n6 ∧ n6 < (↑r10 : Int)) (ld H5 (Addr.add a12 (Int.toNat n6 * 3)) (fun v13 =>
  ld H5 (Addr.add (Addr.add a12 (Int.toNat n6 * 3)) 1) (fun v14 =>
  ld H5 (Addr.add (Addr.add a12 (Int.toNat n6 * 3)) 2) (fun v15 =>
  al H5 (Obj.cells #[Value.int IntKind.i64 0, Value.int IntKind.i64 0, Value.slice none 0 0] 149) (fun r16 H17 =>
  st H17 (Addr.mk r16 0 none) v13 (fun H18 =>
  st H18 (Addr.mk r16 1 none) v14 (fun H19 =>
  st H19 (Addr.mk r16 2 none) v15 (fun H20 =>
  nz x0 (fun a21 =>
  ld H20 (Addr.add a21 1) (fun v22 =>
  dSl v22 (fun p23 r24 r25 =>
  wr IntKind.i64 (n6 + 1) (fun n26 =>
  HCalls Try.prog 100 #[Value.slice p23 r24 r25, Value.int IntKind.i64 n6, Value.int IntKind.i64 n26] H20 (Sp.retK (fun v27 H28 =>
  dSl v27 (fun p29 r30 r31 =>
  nz x0 (fun a32 =>
  st H28 (Addr.add a32 1) (Value.slice p29 r30 r31) (fun H33 =>
  sB (!x2) (R (Ending.returned (Value.int IntKind.i64 4)) H33) (nz x0 (fun a34 =>
  ld H33 a34 (fun v35 =>
  dSl v35 (fun p36 r37 r38 =>
  ld H33 (Addr.mk r16 1 none) (fun v39 =>
  dInt IntKind.i64 v39 (fun n40 =>
  ld H33 (Addr.mk r16 2 none) (fun v41 =>
  dSl v41 (fun p42 r43 r44 =>
  nz p36 (fun a45 =>
  ask ((0 : Int) ≤ n40 ∧ n40 < (↑r37 : Int)) (st H33 (Addr.add a45 (Int.toNat n40 * 1)) (Value.slice p42 r43 r44) (fun H46 =>
  R (Ending.returned (Value.int IntKind.i64 0)) H46))))))))))))))) (pnR R))))))))))))))))))))) (pnR R))))) (pnR R))
theorem F61_eq (x0 : Option Addr) (x1 : Int) (x2 : Bool) (R : Ending → Heap → Prop) (H : Heap) : F61 x0 x1 x2 R H = vc Try.prog (codeOf Try.f61) .leaf (postV Try.prog Try.f61 R) ⟨#[Value.pointer x0, Value.int IntKind.i64 x1, Value.bool x2] ++ Array.replicate (Try.f61.ntmps - 3) undef, []⟩ H := by kernel_rfl
theorem F61_calls {R : Ending → Heap → Prop} {H : Heap} (x0 : Option Addr) (x1 : Int) (x2 : Bool) (h : F61 x0 x1 x2 R H) : HCalls Try.prog 61 #[Value.pointer x0, Value.int IntKind.i64 x1, Value.bool x2] H R :=
  calls_by (F := F61 x0 x1 x2 R H) .leaf Try.func61 rfl (F61_eq x0 x1 x2 R H) h
/-- (*bollard/bollardref02.Disk).Complete -/
def F62 (x0 : Option Addr) (x1 : Int) (x2 : Bool) (R : Ending → Heap → Prop) (H : Heap) : Prop :=
  HCalls Try.prog 101 #[Value.pointer x0, Value.int IntKind.i64 x1] H (Sp.retK (fun v1 H2 =>
  dInt IntKind.i64 v1 (fun n3 =>
  sB (decide (n3 < 0)) (R (Ending.returned (Value.int IntKind.i64 20)) H2) (nz x0 (fun a4 =>
  ld H2 (Addr.add a4 1) (fun v5 =>
  dSl v5 (fun p6 r7 r8 =>
  nz p6 (fun a9 =>
  ask ((0 : Int) ≤ n3 ∧ n3 < (↑r7 : Int)) (ld H2 (Addr.add a9 (Int.toNat n3 * 3)) (fun v10 =>
  ld H2 (Addr.add (Addr.add a9 (Int.toNat n3 * 3)) 1) (fun v11 =>
  ld H2 (Addr.add (Addr.add a9 (Int.toNat n3 * 3)) 2) (fun v12 =>
  al H2 (Obj.cells #[Value.int IntKind.i64 0, Value.int IntKind.i64 0, Value.slice none 0 0] 149) (fun r13 H14 =>
  st H14 (Addr.mk r13 0 none) v10 (fun H15 =>
  st H15 (Addr.mk r13 1 none) v11 (fun H16 =>
  st H16 (Addr.mk r13 2 none) v12 (fun H17 =>
  nz x0 (fun a18 =>
  ld H17 (Addr.add a18 1) (fun v19 =>
  dSl v19 (fun p20 r21 r22 =>
  ask ((0 : Int) ≤ (0 : Int) ∧ (0 : Int) ≤ n3 ∧ n3 ≤ (↑r22 : Int) ∧ (↑r22 : Int) ≤ (↑r22 : Int)) (nz x0 (fun a23 =>
  ld H17 (Addr.add a23 1) (fun v24 =>
  dSl v24 (fun p25 r26 r27 =>
  wr IntKind.i64 (n3 + 1) (fun n28 =>
  ask ((0 : Int) ≤ n28 ∧ n28 ≤ (↑r26 : Int) ∧ (↑r26 : Int) ≤ (↑r27 : Int) ∧ (↑r27 : Int) ≤ (↑r27 : Int)) (al H17 (Obj.cells #[] 149) (fun r29 H30 =>
  (ld H30 (Addr.add a23 1) (fun v31 =>
  dSl v31 (fun p32 r33 r34 =>
  (Value.slice p32 r33 r34) = (Value.slice p25 r26 r27)))) ∧
  (ld H30 (Addr.add a18 1) (fun v35 =>
  dSl v35 (fun p36 r37 r38 =>
  (Value.slice p36 r37 r38) = (Value.slice p20 r21 r22)))) ∧
  semW Try.prog (Builtin.append_ #[74, 74] 74 #[Value.slice (some (Addr.mk r29 0 none)) 0 0, Value.slice (slO p20 3 0 (↑r22 : Int)) (Int.toNat n3 - Int.toNat 0) (Int.toNat (↑r22 : Int) - Int.toNat 0)]) nopR H30 (fun v41 H42 =>
  dSl v41 (fun p43 r44 r45 =>
  (ld H42 (Addr.add a23 1) (fun v46 =>
  dSl v46 (fun p47 r48 r49 =>
  (Value.slice p47 r48 r49) = (Value.slice p25 r26 r27)))) ∧
  semW Try.prog (Builtin.append_ #[74, 74] 74 #[Value.slice p43 r44 r45, Value.slice (slO p25 3 n28 (↑r27 : Int)) (Int.toNat (↑r26 : Int) - Int.toNat n28) (Int.toNat (↑r27 : Int) - Int.toNat n28)]) nopR H42 (fun v52 H53 =>
  dSl v52 (fun p54 r55 r56 =>
  nz x0 (fun a57 =>
  st H53 (Addr.add a57 1) (Value.slice p54 r55 r56) (fun H58 =>
  sB (!x2) (R (Ending.returned (Value.int IntKind.i64 4)) H58) (nz x0 (fun a59 =>
  ld H58 a59 (fun v60 =>
  dSl v60 (fun p61 r62 r63 =>
  ld H58 (Addr.mk r13 1 none) (fun v64 =>
  dInt IntKind.i64 v64 (fun n65 =>
  ld H58 (Addr.mk r13 2 none) (fun v66 =>
  dSl v66 (fun p67 r68 r69 =>
  HCalls Try.prog 97 #[Value.slice p67 r68 r69] H58 (Sp.retK (fun v70 H71 =>
  dSl v70 (fun p72 r73 r74 =>
  (ld H71 (Addr.mk r13 1 none) (fun v75 =>
  dInt IntKind.i64 v75 (fun n76 =>
  (Value.int IntKind.i64 n76) = (Value.int IntKind.i64 n65)))) ∧
  (ld H71 a59 (fun v77 =>
  dSl v77 (fun p78 r79 r80 =>
  (Value.slice p78 r79 r80) = (Value.slice p61 r62 r63)))) ∧
  nz p61 (fun a81 =>
  ask ((0 : Int) ≤ n65 ∧ n65 < (↑r62 : Int)) (st H71 (Addr.add a81 (Int.toNat n65 * 1)) (Value.slice p72 r73 r74) (fun H82 =>
  R (Ending.returned (Value.int IntKind.i64 0)) H82))))) nopR)))))))))))))))))))))))))))))))))))))))) (pnR R))
theorem F62_eq (x0 : Option Addr) (x1 : Int) (x2 : Bool) (R : Ending → Heap → Prop) (H : Heap) : F62 x0 x1 x2 R H = vc Try.prog (codeOf Try.f62) .leaf (postV Try.prog Try.f62 R) ⟨#[Value.pointer x0, Value.int IntKind.i64 x1, Value.bool x2] ++ Array.replicate (Try.f62.ntmps - 3) undef, []⟩ H := by kernel_rfl
theorem F62_calls {R : Ending → Heap → Prop} {H : Heap} (x0 : Option Addr) (x1 : Int) (x2 : Bool) (h : F62 x0 x1 x2 R H) : HCalls Try.prog 62 #[Value.pointer x0, Value.int IntKind.i64 x1, Value.bool x2] H R :=
  calls_by (F := F62 x0 x1 x2 R H) .leaf Try.func62 rfl (F62_eq x0 x1 x2 R H) h
/-- bollard/bollardref06.New -/
def F63 (x0 : Option Addr) (x1 : Int) (R : Ending → Heap → Prop) (H : Heap) : Prop :=
  sB (Option.isNone x0) (R (Ending.returned (Value.tuple #[Value.pointer none, Value.int IntKind.i64 2])) H) (jn (α := VFH 1) (fun v1 H2 =>
  ∀ v3 v4 v5 v6 v7 : Value,
  dBl v1 (fun b8 =>
  sB b8 (R (Ending.returned (Value.tuple #[Value.pointer none, Value.int IntKind.i64 1])) H2) (al H2 (Obj.cells #[Value.pointer x0, Value.int IntKind.i64 x1, Value.slice none 0 0, Value.int IntKind.i64 0, Value.int IntKind.i64 0] 156) (fun r9 H10 =>
  R (Ending.returned (Value.tuple #[Value.pointer (some (Addr.mk r9 0 none)), Value.int IntKind.i64 0])) H10)))) (fun k11 =>
  sB (decide (x1 < 1)) (k11 (Value.bool true) H) (k11 (Value.bool (decide (x1 > 64))) H)))
theorem F63_eq (x0 : Option Addr) (x1 : Int) (R : Ending → Heap → Prop) (H : Heap) : F63 x0 x1 R H = vc Try.prog (codeOf Try.f63) (.node none .leaf (.node none .leaf (.node none (.node (some ⟨[(13, 4)], [8, 9, 10, 11, 12]⟩) .leaf .leaf) .leaf))) (postV Try.prog Try.f63 R) ⟨#[Value.pointer x0, Value.int IntKind.i64 x1] ++ Array.replicate (Try.f63.ntmps - 2) undef, []⟩ H := by kernel_rfl
theorem F63_calls {R : Ending → Heap → Prop} {H : Heap} (x0 : Option Addr) (x1 : Int) (h : F63 x0 x1 R H) : HCalls Try.prog 63 #[Value.pointer x0, Value.int IntKind.i64 x1] H R :=
  calls_by (F := F63 x0 x1 R H) (.node none .leaf (.node none .leaf (.node none (.node (some ⟨[(13, 4)], [8, 9, 10, 11, 12]⟩) .leaf .leaf) .leaf))) Try.func63 rfl (F63_eq x0 x1 R H) h
/-- (*bollard/cache.Cache).get -/
def F64 (x0 : Option Addr) (x1 : Int) (R : Ending → Heap → Prop) (H : Heap) : Prop :=
  HCalls Try.prog 71 #[Value.pointer x0, Value.int IntKind.i64 x1] H (Sp.retK (fun v1 H2 =>
  dInt IntKind.i64 v1 (fun n3 =>
  sB (n3 != 0) (R (Ending.returned (Value.tuple #[Value.pointer none, Value.int IntKind.i64 n3])) H2) (nz x0 (fun a4 =>
  ld H2 (Addr.add a4 2) (fun v5 =>
  dMap v5 (fun p6 =>
  semW Try.prog (Instr.lookup 69 (Value.map p6) (Value.int IntKind.i64 x1) true) (pnR R) H2 (fun v9 H10 =>
  dT 2 v9 (fun v11 v12 =>
  dPtr v11 (fun p13 =>
  dBl v12 (fun b14 =>
  jn (α := VFH 1) (fun v15 H16 =>
  ∀ v17 v18 v19 v20 v21 v22 v23 v24 v25 v26 v27 v28 v29 v30 v31 v32 v33 v34 v35 v36 v37 v38 v39 v40 v41 v42 v43 v44 v45 : Value,
  dPtr v15 (fun p46 =>
  nz x0 (fun a47 =>
  ld H16 (Addr.add a47 3) (fun v48 =>
  dInt IntKind.i64 v48 (fun n49 =>
  wr IntKind.i64 (n49 + 1) (fun n50 =>
  nz x0 (fun a51 =>
  st H16 (Addr.add a51 3) (Value.int IntKind.i64 n50) (fun H52 =>
  nz x0 (fun a53 =>
  ld H52 (Addr.add a53 3) (fun v54 =>
  dInt IntKind.i64 v54 (fun n55 =>
  nz p46 (fun a56 =>
  st H52 (Addr.add a56 2) (Value.int IntKind.i64 n55) (fun H57 =>
  R (Ending.returned (Value.tuple #[Value.pointer p46, Value.int IntKind.i64 0])) H57))))))))))))) (fun k58 =>
  sB b14 (nz x0 (fun a59 =>
  ld H10 (Addr.add a59 4) (fun v60 =>
  dInt IntKind.i64 v60 (fun n61 =>
  wr IntKind.i64 (n61 + 1) (fun n62 =>
  nz x0 (fun a63 =>
  st H10 (Addr.add a63 4) (Value.int IntKind.i64 n62) (fun H64 =>
  k58 (Value.pointer p13) H64))))))) (nz x0 (fun a65 =>
  ld H10 (Addr.add a65 5) (fun v66 =>
  dInt IntKind.i64 v66 (fun n67 =>
  wr IntKind.i64 (n67 + 1) (fun n68 =>
  nz x0 (fun a69 =>
  st H10 (Addr.add a69 5) (Value.int IntKind.i64 n68) (fun H70 =>
  HCalls Try.prog 102 #[Value.pointer x0, Value.int IntKind.i64 x1] H70 (Sp.retK (fun v71 H72 =>
  dT 2 v71 (fun v73 v74 =>
  dPtr v73 (fun p75 =>
  dInt IntKind.i64 v74 (fun n76 =>
  sB (n76 != 0) (R (Ending.returned (Value.tuple #[Value.pointer none, Value.int IntKind.i64 n76])) H72) (k58 (Value.pointer p75) H72))))) (pnR R)))))))))))))))))))) (pnR R))
theorem F64_eq (x0 : Option Addr) (x1 : Int) (R : Ending → Heap → Prop) (H : Heap) : F64 x0 x1 R H = vc Try.prog (codeOf Try.f64) (.node none .leaf (.node none .leaf (.node none .leaf (.node (some ⟨[(7, 115)], [4, 5, 9, 10, 26, 27, 28, 29, 30, 31, 32, 33, 34, 35, 36, 37, 38, 39, 40, 41, 42, 43, 44, 45, 46, 47, 48, 49, 50]⟩) .leaf .leaf)))) (postV Try.prog Try.f64 R) ⟨#[Value.pointer x0, Value.int IntKind.i64 x1] ++ Array.replicate (Try.f64.ntmps - 2) undef, []⟩ H := by kernel_rfl
theorem F64_calls {R : Ending → Heap → Prop} {H : Heap} (x0 : Option Addr) (x1 : Int) (h : F64 x0 x1 R H) : HCalls Try.prog 64 #[Value.pointer x0, Value.int IntKind.i64 x1] H R :=
  calls_by (F := F64 x0 x1 R H) (.node none .leaf (.node none .leaf (.node none .leaf (.node (some ⟨[(7, 115)], [4, 5, 9, 10, 26, 27, 28, 29, 30, 31, 32, 33, 34, 35, 36, 37, 38, 39, 40, 41, 42, 43, 44, 45, 46, 47, 48, 49, 50]⟩) .leaf .leaf)))) Try.func64 rfl (F64_eq x0 x1 R H) h
/-- bytes.Clone -/
def F65 (x0a : Option Addr) (x0n : Nat) (x0c : Nat) (R : Ending → Heap → Prop) (H : Heap) : Prop :=
  sB (Option.isNone x0a) (R (Ending.returned (Value.slice none 0 0)) H) (al H (Obj.cells #[] 5) (fun r1 H2 =>
  semW Try.prog (Builtin.append_ #[48, 48] 48 #[Value.slice (some (Addr.mk r1 0 none)) 0 0, Value.slice x0a x0n x0c]) (pnR R) H2 (fun v5 H6 =>
  dSl v5 (fun p7 r8 r9 =>
  R (Ending.returned (Value.slice p7 r8 r9)) H6))))
theorem F65_eq (x0a : Option Addr) (x0n : Nat) (x0c : Nat) (R : Ending → Heap → Prop) (H : Heap) : F65 x0a x0n x0c R H = vc Try.prog (codeOf Try.f65) .leaf (postV Try.prog Try.f65 R) ⟨#[Value.slice x0a x0n x0c] ++ Array.replicate (Try.f65.ntmps - 1) undef, []⟩ H := by kernel_rfl
theorem F65_calls {R : Ending → Heap → Prop} {H : Heap} (x0a : Option Addr) (x0n : Nat) (x0c : Nat) (h : F65 x0a x0n x0c R H) : HCalls Try.prog 65 #[Value.slice x0a x0n x0c] H R :=
  calls_by (F := F65 x0a x0n x0c R H) .leaf Try.func65 rfl (F65_eq x0a x0n x0c R H) h
/-- slices.SortedFunc[int] -/
def F66 (x0g : Nat) (x0f : Array Value) (x0c : Array Value) (x1g : Nat) (x1f : Array Value) (x1c : Array Value) (R : Ending → Heap → Prop) (H : Heap) : Prop :=
  HCalls Try.prog 103 #[Value.func (Fn.func x0g) x0f x0c] H (Sp.retK (fun v1 H2 =>
  dSl v1 (fun p3 r4 r5 =>
  HCalls Try.prog 104 #[Value.slice p3 r4 r5, Value.func (Fn.func x1g) x1f x1c] H2 (Sp.retK (fun v6 H7 =>
  R (Ending.returned (Value.slice p3 r4 r5)) H7) (pnR R)))) (pnR R))
theorem F66_eq (x0g : Nat) (x0f : Array Value) (x0c : Array Value) (x1g : Nat) (x1f : Array Value) (x1c : Array Value) (R : Ending → Heap → Prop) (H : Heap) : F66 x0g x0f x0c x1g x1f x1c R H = vc Try.prog (codeOf Try.f66) .leaf (postV Try.prog Try.f66 R) ⟨#[Value.func (Fn.func x0g) x0f x0c, Value.func (Fn.func x1g) x1f x1c] ++ Array.replicate (Try.f66.ntmps - 2) undef, []⟩ H := by kernel_rfl
theorem F66_calls {R : Ending → Heap → Prop} {H : Heap} (x0g : Nat) (x0f : Array Value) (x0c : Array Value) (x1g : Nat) (x1f : Array Value) (x1c : Array Value) (h : F66 x0g x0f x0c x1g x1f x1c R H) : HCalls Try.prog 66 #[Value.func (Fn.func x0g) x0f x0c, Value.func (Fn.func x1g) x1f x1c] H R :=
  calls_by (F := F66 x0g x0f x0c x1g x1f x1c R H) .leaf Try.func66 rfl (F66_eq x0g x0f x0c x1g x1f x1c R H) h
/-- maps.Keys[map[int]*bollard/cache.buffer,int,*bollard/cache.buffer] -/
def F67 (x0 : Option Nat) (R : Ending → Heap → Prop) (H : Heap) : Prop :=
  al H (Obj.cells #[Value.map x0] 69) (fun r1 H2 =>
  R (Ending.returned (Value.func (Fn.func 105) #[] #[Value.pointer (some (Addr.mk r1 0 none))])) H2)
theorem F67_eq (x0 : Option Nat) (R : Ending → Heap → Prop) (H : Heap) : F67 x0 R H = vc Try.prog (codeOf Try.f67) .leaf (postV Try.prog Try.f67 R) ⟨#[Value.map x0] ++ Array.replicate (Try.f67.ntmps - 1) undef, []⟩ H := by kernel_rfl
theorem F67_calls {R : Ending → Heap → Prop} {H : Heap} (x0 : Option Nat) (h : F67 x0 R H) : HCalls Try.prog 67 #[Value.map x0] H R :=
  calls_by (F := F67 x0 R H) .leaf Try.func67 rfl (F67_eq x0 R H) h
/-- (*bollard/cache.Cache).Held$1 -/
def F68 (x0 : Int) (x1 : Int) (f0 : Addr) (R : Ending → Heap → Prop) (H : Heap) : Prop :=
  ld H f0 (fun v1 =>
  dPtr v1 (fun p2 =>
  nz p2 (fun a3 =>
  ld H (Addr.add a3 2) (fun v4 =>
  dMap v4 (fun p5 =>
  ld H f0 (fun v6 =>
  dPtr v6 (fun p7 =>
  nz p7 (fun a8 =>
  ld H (Addr.add a8 2) (fun v9 =>
  dMap v9 (fun p10 =>
  (semW Try.prog (Instr.lookup 69 (Value.map p5) (Value.int IntKind.i64 x0) false) nopR H (fun v13 H14 =>
  dPtr v13 (fun p15 =>
  (ld H14 (Addr.add a8 2) (fun v16 =>
  dMap v16 (fun p17 =>
  (Value.map p17) = (Value.map p10)))) ∧
  (ld H14 f0 (fun v18 =>
  dPtr v18 (fun p19 =>
  (Value.pointer p19) = (Value.pointer p7)))) ∧
  nz p15 (fun a20 =>
  ld H14 (Addr.add a20 2) (fun v21 =>
  dInt IntKind.i64 v21 (fun n22 =>
  semW Try.prog (Instr.lookup 69 (Value.map p10) (Value.int IntKind.i64 x1) false) nopR H14 (fun v25 H26 =>
  dPtr v25 (fun p27 =>
  (ld H26 (Addr.add a20 2) (fun v28 =>
  dInt IntKind.i64 v28 (fun n29 =>
  (Value.int IntKind.i64 n29) = (Value.int IntKind.i64 n22)))) ∧
  nz p27 (fun a30 =>
  ld H26 (Addr.add a30 2) (fun v31 =>
  dInt IntKind.i64 v31 (fun n32 =>
  wr IntKind.i64 (n22 - n32) (fun n33 =>
  R (Ending.returned (Value.int IntKind.i64 n33)) H26)))))))))))) ∧
  semW Try.prog (Instr.lookup 69 (Value.map p10) (Value.int IntKind.i64 x1) false) nopR H (fun v36 H37 =>
  dPtr v36 (fun p38 =>
  (ld H37 (Addr.add a3 2) (fun v39 =>
  dMap v39 (fun p40 =>
  (Value.map p40) = (Value.map p5)))) ∧
  (ld H37 f0 (fun v41 =>
  dPtr v41 (fun p42 =>
  (Value.pointer p42) = (Value.pointer p2)))) ∧
  nz p38 (fun a43 =>
  ld H37 (Addr.add a43 2) (fun v44 =>
  dInt IntKind.i64 v44 (fun n45 =>
  semW Try.prog (Instr.lookup 69 (Value.map p5) (Value.int IntKind.i64 x0) false) nopR H37 (fun v48 H49 =>
  dPtr v48 (fun p50 =>
  (ld H49 (Addr.add a43 2) (fun v51 =>
  dInt IntKind.i64 v51 (fun n52 =>
  (Value.int IntKind.i64 n52) = (Value.int IntKind.i64 n45)))) ∧
  nz p50 (fun a53 =>
  ld H49 (Addr.add a53 2) (fun v54 =>
  dInt IntKind.i64 v54 (fun n55 =>
  wr IntKind.i64 (n55 - n45) (fun n56 =>
  R (Ending.returned (Value.int IntKind.i64 n56)) H49)))))))))))))))))))))
theorem F68_eq (x0 : Int) (x1 : Int) (f0 : Addr) (R : Ending → Heap → Prop) (H : Heap) : F68 x0 x1 f0 R H = vc Try.prog (codeOf Try.f68) .leaf (postV Try.prog Try.f68 R) ⟨#[Value.int IntKind.i64 x0, Value.int IntKind.i64 x1, Value.pointer (some f0)] ++ Array.replicate (Try.f68.ntmps - 3) undef, []⟩ H := by kernel_rfl
theorem F68_calls {R : Ending → Heap → Prop} {H : Heap} (x0 : Int) (x1 : Int) (f0 : Addr) (h : F68 x0 x1 f0 R H) : HCalls Try.prog 68 #[Value.int IntKind.i64 x0, Value.int IntKind.i64 x1, Value.pointer (some f0)] H R :=
  calls_by (F := F68 x0 x1 f0 R H) .leaf Try.func68 rfl (F68_eq x0 x1 f0 R H) h
/-- math/bits.Mul -/
def F69 (x0 : Int) (x1 : Int) (R : Ending → Heap → Prop) (H : Heap) : Prop :=
  HCalls Try.prog 107 #[Value.int IntKind.u64 x0, Value.int IntKind.u64 x1] H (Sp.retK (fun v1 H2 =>
  dT 2 v1 (fun v3 v4 =>
  dInt IntKind.u64 v3 (fun n5 =>
  dInt IntKind.u64 v4 (fun n6 =>
  R (Ending.returned (Value.tuple #[Value.int IntKind.u64 n5, Value.int IntKind.u64 n6])) H2)))) (pnR R))
theorem F69_eq (x0 : Int) (x1 : Int) (R : Ending → Heap → Prop) (H : Heap) : F69 x0 x1 R H = vc Try.prog (codeOf Try.f69) .leaf (postV Try.prog Try.f69 R) ⟨#[Value.int IntKind.u64 x0, Value.int IntKind.u64 x1] ++ Array.replicate (Try.f69.ntmps - 2) undef, []⟩ H := by kernel_rfl
theorem F69_calls {R : Ending → Heap → Prop} {H : Heap} (x0 : Int) (x1 : Int) (h : F69 x0 x1 R H) : HCalls Try.prog 69 #[Value.int IntKind.u64 x0, Value.int IntKind.u64 x1] H R :=
  calls_by (F := F69 x0 x1 R H) .leaf Try.func69 rfl (F69_eq x0 x1 R H) h
/-- (*bollard/cache.Cache).look -/
def F71 (x0 : Option Addr) (x1 : Int) (R : Ending → Heap → Prop) (H : Heap) : Prop :=
  jn (α := VFH 1) (fun v1 H2 =>
  ∀ v3 v4 v5 v6 v7 v8 v9 v10 : Value,
  dBl v1 (fun b11 =>
  sB b11 (R (Ending.returned (Value.int IntKind.i64 2)) H2) (jn (α := VFH 1) (fun v12 H13 =>
  ∀ v14 v15 v16 v17 v18 v19 v20 v21 v22 v23 : Value,
  dBl v12 (fun b24 =>
  sB b24 (R (Ending.returned (Value.int IntKind.i64 1)) H13) (R (Ending.returned (Value.int IntKind.i64 0)) H13))) (fun k25 =>
  sB (decide (x1 < 0)) (k25 (Value.bool true) H2) (nz x0 (fun a26 =>
  ld H2 a26 (fun v27 =>
  dPtr v27 (fun p28 =>
  HCalls Try.prog 29 #[Value.pointer p28] H2 (Sp.retK (fun v29 H30 =>
  dInt IntKind.i64 v29 (fun n31 =>
  k25 (Value.bool (decide (x1 ≥ n31))) H30)) (pnR R)))))))))) (fun k34 =>
  sB (Option.isNone x0) (k34 (Value.bool true) H) (nz x0 (fun a35 =>
  ld H (Addr.add a35 2) (fun v36 =>
  dMap v36 (fun p37 =>
  k34 (Value.bool (Option.isNone p37)) H)))))
theorem F71_eq (x0 : Option Addr) (x1 : Int) (R : Ending → Heap → Prop) (H : Heap) : F71 x0 x1 R H = vc Try.prog (codeOf Try.f71) (.node none .leaf (.node none (.node (some ⟨[(13, 4)], [5, 6, 7, 8, 9, 10, 11, 12]⟩) .leaf .leaf) (.node none (.node (some ⟨[(24, 4)], [14, 15, 16, 17, 18, 19, 20, 21, 22, 23]⟩) .leaf .leaf) .leaf))) (postV Try.prog Try.f71 R) ⟨#[Value.pointer x0, Value.int IntKind.i64 x1] ++ Array.replicate (Try.f71.ntmps - 2) undef, []⟩ H := by kernel_rfl
theorem F71_calls {R : Ending → Heap → Prop} {H : Heap} (x0 : Option Addr) (x1 : Int) (h : F71 x0 x1 R H) : HCalls Try.prog 71 #[Value.pointer x0, Value.int IntKind.i64 x1] H R :=
  calls_by (F := F71 x0 x1 R H) (.node none .leaf (.node none (.node (some ⟨[(13, 4)], [5, 6, 7, 8, 9, 10, 11, 12]⟩) .leaf .leaf) (.node none (.node (some ⟨[(24, 4)], [14, 15, 16, 17, 18, 19, 20, 21, 22, 23]⟩) .leaf .leaf) .leaf))) Try.func71 rfl (F71_eq x0 x1 R H) h
/-- (*bollard/disk.Disk).look -/
def F72 (x0 : Option Addr) (x1 : Int) (R : Ending → Heap → Prop) (H : Heap) : Prop :=
  HCalls Try.prog 98 #[Value.pointer x0] H (Sp.retK (fun v1 H2 =>
  dBl v1 (fun b3 =>
  sB (!b3) (R (Ending.returned (Value.int IntKind.i64 2)) H2) (jn (α := VFH 1) (fun v4 H5 =>
  ∀ v6 v7 v8 v9 v10 v11 v12 v13 v14 v15 : Value,
  dBl v4 (fun b16 =>
  sB b16 (R (Ending.returned (Value.int IntKind.i64 1)) H5) (R (Ending.returned (Value.int IntKind.i64 0)) H5))) (fun k17 =>
  sB (decide (x1 < 0)) (k17 (Value.bool true) H2) (nz x0 (fun a18 =>
  ld H2 a18 (fun v19 =>
  dSl v19 (fun p20 r21 r22 =>
  k17 (Value.bool (decide (x1 ≥ (↑r21 : Int)))) H2)))))))) (pnR R))
theorem F72_eq (x0 : Option Addr) (x1 : Int) (R : Ending → Heap → Prop) (H : Heap) : F72 x0 x1 R H = vc Try.prog (codeOf Try.f72) (.node none .leaf (.node none .leaf (.node none (.node (some ⟨[(18, 4)], [8, 9, 10, 11, 12, 13, 14, 15, 16, 17]⟩) .leaf .leaf) .leaf))) (postV Try.prog Try.f72 R) ⟨#[Value.pointer x0, Value.int IntKind.i64 x1] ++ Array.replicate (Try.f72.ntmps - 2) undef, []⟩ H := by kernel_rfl
theorem F72_calls {R : Ending → Heap → Prop} {H : Heap} (x0 : Option Addr) (x1 : Int) (h : F72 x0 x1 R H) : HCalls Try.prog 72 #[Value.pointer x0, Value.int IntKind.i64 x1] H R :=
  calls_by (F := F72 x0 x1 R H) (.node none .leaf (.node none .leaf (.node none (.node (some ⟨[(18, 4)], [8, 9, 10, 11, 12, 13, 14, 15, 16, 17]⟩) .leaf .leaf) .leaf))) Try.func72 rfl (F72_eq x0 x1 R H) h
/-- math/bits.Len -/
def F74 (x0 : Int) (R : Ending → Heap → Prop) (H : Heap) : Prop :=
  HCalls Try.prog 118 #[Value.int IntKind.u64 x0] H (Sp.retK (fun v1 H2 =>
  dInt IntKind.i64 v1 (fun n3 =>
  R (Ending.returned (Value.int IntKind.i64 n3)) H2)) (pnR R))
theorem F74_eq (x0 : Int) (R : Ending → Heap → Prop) (H : Heap) : F74 x0 R H = vc Try.prog (codeOf Try.f74) .leaf (postV Try.prog Try.f74 R) ⟨#[Value.int IntKind.u64 x0] ++ Array.replicate (Try.f74.ntmps - 1) undef, []⟩ H := by kernel_rfl
theorem F74_calls {R : Ending → Heap → Prop} {H : Heap} (x0 : Int) (h : F74 x0 R H) : HCalls Try.prog 74 #[Value.int IntKind.u64 x0] H R :=
  calls_by (F := F74 x0 R H) .leaf Try.func74 rfl (F74_eq x0 R H) h
/-- bollard/geom.split -/
def F75 (x0 : Int) (x1 : Int) (x2 : Int) (R : Ending → Heap → Prop) (H : Heap) : Prop :=
  wr IntKind.i64 (x2 - 1) (fun n1 =>
  HCalls Try.prog 41 #[Value.int IntKind.i64 x0, Value.int IntKind.i64 0, Value.int IntKind.i64 n1] H (Sp.retK (fun v2 H3 =>
  dBl v2 (fun b4 =>
  sB (!b4) (R (Ending.returned (Value.tuple #[Value.int IntKind.i64 0, Value.int IntKind.i64 0, Value.bool false])) H3) (ask (x1 ≠ (0 : Int)) (wr IntKind.i64 (Int.tdiv x0 x1) (fun n5 =>
  ask (x1 ≠ (0 : Int)) (nm (Int.tmod x0 x1) (fun n6 =>
  R (Ending.returned (Value.tuple #[Value.int IntKind.i64 n5, Value.int IntKind.i64 n6, Value.bool true])) H3))))))) (pnR R)))
theorem F75_eq (x0 : Int) (x1 : Int) (x2 : Int) (R : Ending → Heap → Prop) (H : Heap) : F75 x0 x1 x2 R H = vc Try.prog (codeOf Try.f75) .leaf (postV Try.prog Try.f75 R) ⟨#[Value.int IntKind.i64 x0, Value.int IntKind.i64 x1, Value.int IntKind.i64 x2] ++ Array.replicate (Try.f75.ntmps - 3) undef, []⟩ H := by kernel_rfl
theorem F75_calls {R : Ending → Heap → Prop} {H : Heap} (x0 : Int) (x1 : Int) (x2 : Int) (h : F75 x0 x1 x2 R H) : HCalls Try.prog 75 #[Value.int IntKind.i64 x0, Value.int IntKind.i64 x1, Value.int IntKind.i64 x2] H R :=
  calls_by (F := F75 x0 x1 x2 R H) .leaf Try.func75 rfl (F75_eq x0 x1 x2 R H) h
/-- bollard/bollardref04.Blocks -/
def F76 (x0_0 : Value) (x0_1 : Value) (x0_2 : Value) (R : Ending → Heap → Prop) (H : Heap) : Prop :=
  al H (Obj.cells #[x0_0, x0_1, x0_2] 23) (fun r1 H2 =>
  ld H2 (Addr.mk r1 0 none) (fun v3 =>
  ld H2 (Addr.mk r1 1 none) (fun v4 =>
  ld H2 (Addr.mk r1 2 none) (fun v5 =>
  HCalls Try.prog 9 #[Value.agg #[v3, v4, v5]] H2 (Sp.retK (fun v6 H7 =>
  dInt IntKind.i64 v6 (fun n8 =>
  sB (n8 != 0) (R (Ending.returned (Value.int IntKind.i64 0)) H7) (ld H7 (Addr.mk r1 0 none) (fun v9 =>
  dInt IntKind.i64 v9 (fun n10 =>
  ld H7 (Addr.mk r1 1 none) (fun v11 =>
  dInt IntKind.i64 v11 (fun n12 =>
  wr IntKind.i64 (n10 * n12) (fun n13 =>
  R (Ending.returned (Value.int IntKind.i64 n13)) H7)))))))) (pnR R))))))
theorem F76_eq (x0_0 : Value) (x0_1 : Value) (x0_2 : Value) (R : Ending → Heap → Prop) (H : Heap) : F76 x0_0 x0_1 x0_2 R H = vc Try.prog (codeOf Try.f76) .leaf (postV Try.prog Try.f76 R) ⟨#[Value.agg #[x0_0, x0_1, x0_2]] ++ Array.replicate (Try.f76.ntmps - 1) undef, []⟩ H := by kernel_rfl
theorem F76_calls {R : Ending → Heap → Prop} {H : Heap} (x0_0 : Value) (x0_1 : Value) (x0_2 : Value) (h : F76 x0_0 x0_1 x0_2 R H) : HCalls Try.prog 76 #[Value.agg #[x0_0, x0_1, x0_2]] H R :=
  calls_by (F := F76 x0_0 x0_1 x0_2 R H) .leaf Try.func76 rfl (F76_eq x0_0 x0_1 x0_2 R H) h
/-- bollard/layout.mayGeom -/
def F77 (x0_0 : Value) (x0_1 : Value) (x0_2 : Value) (R : Ending → Heap → Prop) (H : Heap) : Prop :=
  al H (Obj.cells #[x0_0, x0_1, x0_2] 23) (fun r1 H2 =>
  ld H2 (Addr.mk r1 0 none) (fun v3 =>
  dInt IntKind.i64 v3 (fun n4 =>
  sB (decide (n4 ≥ 1)) (ld H2 (Addr.mk r1 0 none) (fun v5 =>
  dInt IntKind.i64 v5 (fun n6 =>
  sB (decide (n6 ≤ 8)) (ld H2 (Addr.mk r1 1 none) (fun v7 =>
  dInt IntKind.i64 v7 (fun n8 =>
  sB (decide (n8 ≥ 8)) (ld H2 (Addr.mk r1 1 none) (fun v9 =>
  dInt IntKind.i64 v9 (fun n10 =>
  sB (decide (n10 ≤ 256)) (ld H2 (Addr.mk r1 2 none) (fun v11 =>
  dInt IntKind.i64 v11 (fun n12 =>
  sB (decide (n12 ≥ 4)) (ld H2 (Addr.mk r1 2 none) (fun v13 =>
  dInt IntKind.i64 v13 (fun n14 =>
  sB (decide (n14 ≤ 64)) (ld H2 (Addr.mk r1 2 none) (fun v15 =>
  dInt IntKind.i64 v15 (fun n16 =>
  ask ((4 : Int) ≠ (0 : Int)) (nm (Int.tmod n16 4) (fun n17 =>
  sB (n17 == 0) (ld H2 (Addr.mk r1 1 none) (fun v18 =>
  dInt IntKind.i64 v18 (fun n19 =>
  ld H2 (Addr.mk r1 2 none) (fun v20 =>
  dInt IntKind.i64 v20 (fun n21 =>
  ask ((4 : Int) ≠ (0 : Int)) (wr IntKind.i64 (Int.tdiv n21 4) (fun n22 =>
  wr IntKind.i64 (3 + n22) (fun n23 =>
  R (Ending.returned (Value.bool (decide (n19 ≥ n23)))) H2)))))))) (R (Ending.returned (Value.bool false)) H2)))))) (R (Ending.returned (Value.bool false)) H2)))) (R (Ending.returned (Value.bool false)) H2)))) (R (Ending.returned (Value.bool false)) H2)))) (R (Ending.returned (Value.bool false)) H2)))) (R (Ending.returned (Value.bool false)) H2)))) (R (Ending.returned (Value.bool false)) H2))))
theorem F77_eq (x0_0 : Value) (x0_1 : Value) (x0_2 : Value) (R : Ending → Heap → Prop) (H : Heap) : F77 x0_0 x0_1 x0_2 R H = vc Try.prog (codeOf Try.f77) .leaf (postV Try.prog Try.f77 R) ⟨#[Value.agg #[x0_0, x0_1, x0_2]] ++ Array.replicate (Try.f77.ntmps - 1) undef, []⟩ H := by kernel_rfl
theorem F77_calls {R : Ending → Heap → Prop} {H : Heap} (x0_0 : Value) (x0_1 : Value) (x0_2 : Value) (h : F77 x0_0 x0_1 x0_2 R H) : HCalls Try.prog 77 #[Value.agg #[x0_0, x0_1, x0_2]] H R :=
  calls_by (F := F77 x0_0 x0_1 x0_2 R H) .leaf Try.func77 rfl (F77_eq x0_0 x0_1 x0_2 R H) h
/-- bollard/layout.fit -/
def F78 (x0a : Option Addr) (x0n : Nat) (x0c : Nat) (R : Ending → Heap → Prop) (H : Heap) : Prop :=
  ∃ I1 : List Value → Heap → Prop,
  ∃ I2 : List Value → Heap → Nat,
  (I1 ([Value.int IntKind.i64 0]) H) ∧
  ∀ n3 : Int,
  ∀ v4 v5 v6 v7 v8 v9 v10 v11 v12 v13 v14 v15 v16 v17 v18 v19 : Value,
  ∀ H20 : Heap,
  (I1 ([Value.int IntKind.i64 n3]) H20) →
  sB (decide (n3 < (↑x0n : Int))) (nz x0a (fun a22 =>
  ask ((0 : Int) ≤ n3 ∧ n3 < (↑x0n : Int)) (ld H20 (Addr.add a22 (Int.toNat n3 * 3)) (fun v23 =>
  ld H20 (Addr.add (Addr.add a22 (Int.toNat n3 * 3)) 1) (fun v24 =>
  ld H20 (Addr.add (Addr.add a22 (Int.toNat n3 * 3)) 2) (fun v25 =>
  al H20 (Obj.cells #[Value.int IntKind.i64 0, Value.int IntKind.i64 0, Value.int IntKind.i64 0] 134) (fun r26 H27 =>
  st H27 (Addr.mk r26 0 none) v23 (fun H28 =>
  st H28 (Addr.mk r26 1 none) v24 (fun H29 =>
  st H29 (Addr.mk r26 2 none) v25 (fun H30 =>
  jn (α := VFH 1) (fun v31 H32 =>
  ∀ v33 v34 v35 v36 v37 v38 v39 v40 v41 : Value,
  dBl v31 (fun b42 =>
  sB b42 (R (Ending.returned (Value.bool false)) H32) (wr IntKind.i64 (n3 + 1) (fun n43 =>
  (I1 ([Value.int IntKind.i64 n43]) H32) ∧
  (I2 [Value.int IntKind.i64 n43] H32) < (I2 [Value.int IntKind.i64 n3] H20))))) (fun k44 =>
  ld H30 (Addr.mk r26 2 none) (fun v45 =>
  dInt IntKind.i64 v45 (fun n46 =>
  sB (decide (n46 < 0)) (k44 (Value.bool true) H30) (ld H30 (Addr.mk r26 2 none) (fun v47 =>
  dInt IntKind.i64 v47 (fun n48 =>
  ld H30 (Addr.mk r26 1 none) (fun v49 =>
  dInt IntKind.i64 v49 (fun n50 =>
  k44 (Value.bool (decide (n48 > n50))) H30)))))))))))))))))) (R (Ending.returned (Value.bool true)) H20)
theorem F78_eq (x0a : Option Addr) (x0n : Nat) (x0c : Nat) (R : Ending → Heap → Prop) (H : Heap) : F78 x0a x0n x0c R H = vc Try.prog (codeOf Try.f78) (.node none .leaf (.node none (.node none .leaf (.node none (.node (some ⟨[(7, 3)], [2, 4, 8, 9, 10, 11, 12, 13, 14, 15, 16, 17, 18, 19, 20, 21]⟩) (.node none .leaf (.node none .leaf (.node none (.node none (.node none .leaf (.node (some ⟨[(20, 4)], [11, 12, 13, 14, 15, 16, 17, 18, 19]⟩) .leaf .leaf)) .leaf) .leaf))) .leaf) .leaf)) .leaf)) (postV Try.prog Try.f78 R) ⟨#[Value.slice x0a x0n x0c] ++ Array.replicate (Try.f78.ntmps - 1) undef, []⟩ H := by kernel_rfl
theorem F78_calls {R : Ending → Heap → Prop} {H : Heap} (x0a : Option Addr) (x0n : Nat) (x0c : Nat) (h : F78 x0a x0n x0c R H) : HCalls Try.prog 78 #[Value.slice x0a x0n x0c] H R :=
  calls_by (F := F78 x0a x0n x0c R H) (.node none .leaf (.node none (.node none .leaf (.node none (.node (some ⟨[(7, 3)], [2, 4, 8, 9, 10, 11, 12, 13, 14, 15, 16, 17, 18, 19, 20, 21]⟩) (.node none .leaf (.node none .leaf (.node none (.node none (.node none .leaf (.node (some ⟨[(20, 4)], [11, 12, 13, 14, 15, 16, 17, 18, 19]⟩) .leaf .leaf)) .leaf) .leaf))) .leaf) .leaf)) .leaf)) Try.func78 rfl (F78_eq x0a x0n x0c R H) h
/-- bollard/word.Seal -/
def F79 (x0a : Option Addr) (x0n : Nat) (x0c : Nat) (R : Ending → Heap → Prop) (H : Heap) : Prop :=
  wr IntKind.i64 ((↑x0n : Int) - 4) (fun n1 =>
  sB (decide (n1 < 0)) (R (Ending.returned (Value.tuple #[Value.slice none 0 0, Value.int IntKind.i64 10])) H) (ask ((0 : Int) ≤ (0 : Int) ∧ (0 : Int) ≤ n1 ∧ n1 ≤ (↑x0c : Int) ∧ (↑x0c : Int) ≤ (↑x0c : Int)) (HCalls Try.prog 120 #[Value.slice (slO x0a 1 0 (↑x0c : Int)) (Int.toNat n1 - Int.toNat 0) (Int.toNat (↑x0c : Int) - Int.toNat 0)] H (Sp.retK (fun v2 H3 =>
  dInt IntKind.i64 v2 (fun n4 =>
  HCalls Try.prog 119 #[Value.slice x0a x0n x0c, Value.int IntKind.i64 n1, Value.int IntKind.i64 4, Value.int IntKind.i64 n4] H3 (Sp.retK (fun v5 H6 =>
  dT 2 v5 (fun v7 v8 =>
  dSl v7 (fun p9 r10 r11 =>
  dInt IntKind.i64 v8 (fun n12 =>
  R (Ending.returned (Value.tuple #[Value.slice p9 r10 r11, Value.int IntKind.i64 n12])) H6)))) (pnR R)))) (pnR R)))))
theorem F79_eq (x0a : Option Addr) (x0n : Nat) (x0c : Nat) (R : Ending → Heap → Prop) (H : Heap) : F79 x0a x0n x0c R H = vc Try.prog (codeOf Try.f79) .leaf (postV Try.prog Try.f79 R) ⟨#[Value.slice x0a x0n x0c] ++ Array.replicate (Try.f79.ntmps - 1) undef, []⟩ H := by kernel_rfl
theorem F79_calls {R : Ending → Heap → Prop} {H : Heap} (x0a : Option Addr) (x0n : Nat) (x0c : Nat) (h : F79 x0a x0n x0c R H) : HCalls Try.prog 79 #[Value.slice x0a x0n x0c] H R :=
  calls_by (F := F79 x0a x0n x0c R H) .leaf Try.func79 rfl (F79_eq x0a x0n x0c R H) h
/-- bollard/layout.full -/
def F80 (x0a : Option Addr) (x0n : Nat) (x0c : Nat) (x1 : Int) (R : Ending → Heap → Prop) (H : Heap) : Prop :=
  ask ((0 : Int) ≤ x1 ∧ x1 ≤ x1 ∧ (1 : Int) * x1 ≤ (281474976710656 : Int) ∧ x1 ≤ (9223372036854775807 : Int)) (al H (Obj.cells (List.toArray (rowZ [Value.int IntKind.u8 0] (Int.toNat x1))) 5) (fun r1 H2 =>
  semW Try.prog (Builtin.copy_ #[48, 48] 3 #[Value.slice (some (Addr.mk r1 0 none)) (Int.toNat x1) (Int.toNat x1), Value.slice x0a x0n x0c]) (pnR R) H2 (fun v5 H6 =>
  dInt IntKind.i64 v5 (fun n7 =>
  ask ((0 : Int) ≤ (0 : Int) ∧ (0 : Int) ≤ x1 ∧ x1 ≤ x1 ∧ x1 ≤ (↑(Int.toNat x1) : Int)) (R (Ending.returned (Value.slice (slO (some (Addr.mk r1 0 none)) 1 0 x1) (Int.toNat x1 - Int.toNat 0) (Int.toNat x1 - Int.toNat 0))) H6)))))
theorem F80_eq (x0a : Option Addr) (x0n : Nat) (x0c : Nat) (x1 : Int) (R : Ending → Heap → Prop) (H : Heap) : F80 x0a x0n x0c x1 R H = vc Try.prog (codeOf Try.f80) .leaf (postV Try.prog Try.f80 R) ⟨#[Value.slice x0a x0n x0c, Value.int IntKind.i64 x1] ++ Array.replicate (Try.f80.ntmps - 2) undef, []⟩ H := by kernel_rfl
theorem F80_calls {R : Ending → Heap → Prop} {H : Heap} (x0a : Option Addr) (x0n : Nat) (x0c : Nat) (x1 : Int) (h : F80 x0a x0n x0c x1 R H) : HCalls Try.prog 80 #[Value.slice x0a x0n x0c, Value.int IntKind.i64 x1] H R :=
  calls_by (F := F80 x0a x0n x0c x1 R H) .leaf Try.func80 rfl (F80_eq x0a x0n x0c x1 R H) h
end Go.Proofs.Ytmgjdmohmhaemaa.E
