/- My own texts, joined. -/
import Derived.Deep.QuietTactic
import Derived.KernelRfl
import Derived.Maps.Own
import Derived.Shelf.SlIterI.Nil
import Derived.Shelf.SlLaysF
import Derived.Shelf.SlSortCmp.NoneTotal
import Derived.Test.YtklppdodadkcnaaGreatProg
import Derived.WalkKit
import Derived.Test.YtklppdodadkcnaaGreatIP5
/- The functions' forms in the engine's words, printed by my own program. -/
namespace Go.Proofs.YtklppdodadkcnaaGreat.E
open Go Go.Proofs
set_option linter.unusedVariables false
set_option maxRecDepth 100000
/-- bollard/word.Put -/
def F133 (x0a : Option Addr) (x0n : Nat) (x0c : Nat) (x1 : Int) (x2 : Int) (x3 : Int) (R : Ending → Heap → Prop) (H : Heap) : Prop :=
  HCalls Tryz.prog 171 #[Value.slice x0a x0n x0c, Value.int IntKind.i64 x1, Value.int IntKind.i64 x2] H (Sp.retK (fun v1 H2 =>
  dInt IntKind.i64 v1 (fun n3 =>
  jn (α := VFH 1) (fun v4 H5 =>
  ∀ v6 v7 v8 v9 v10 v11 v12 v13 v14 v15 v16 v17 v18 : Value,
  dInt IntKind.i64 v4 (fun n19 =>
  sB (n19 != 0) (R (Ending.returned (Value.tuple #[Value.slice none 0 0, Value.int IntKind.i64 n19])) H5) (semW Tryz.prog (Builtin.append_ #[85, 85] 85 #[Value.slice none 0 0, Value.slice x0a x0n x0c]) (pnR R) H5 (fun v22 H23 =>
  dSl v22 (fun p24 r25 r26 =>
  ∃ I27 : List Value → Heap → Prop,
  ∃ I28 : List Value → Heap → Nat,
  (I27 ([Value.int IntKind.i64 0]) H23) ∧
  ∀ n29 : Int,
  ∀ v30 v31 v32 v33 v34 v35 v36 v37 v38 v39 v40 v41 v42 v43 : Value,
  ∀ H44 : Heap,
  (I27 ([Value.int IntKind.i64 n29]) H44) →
  sB (decide (n29 < x2)) (wr IntKind.i64 (x1 + n29) (fun n46 =>
  wr IntKind.i64 (8 * n29) (fun n47 =>
  ask ((0 : Int) ≤ n47) (nm (Int.fdiv x3 (2 ^ min (Int.toNat n47) 64)) (fun n48 =>
  wr IntKind.u8 n48 (fun n49 =>
  nz p24 (fun a50 =>
  ask ((0 : Int) ≤ n46 ∧ n46 < (↑r25 : Int)) (st H44 (Addr.add a50 (Int.toNat n46 * 1)) (Value.int IntKind.u8 n49) (fun H51 =>
  wr IntKind.i64 (n29 + 1) (fun n52 =>
  (I27 ([Value.int IntKind.i64 n52]) H51) ∧
  (I28 [Value.int IntKind.i64 n52] H51) < (I28 [Value.int IntKind.i64 n29] H44))))))))))) (R (Ending.returned (Value.tuple #[Value.slice p24 r25 r26, Value.int IntKind.i64 0])) H44)))))) (fun k53 =>
  jn (α := VFH 1) (fun v54 H55 =>
  ∀ v56 v57 v58 v59 v60 v61 v62 v63 v64 v65 v66 v67 : Value,
  dBl v54 (fun b68 =>
  sB b68 (k53 (Value.int IntKind.i64 1) H55) (k53 (Value.int IntKind.i64 n3) H55))) (fun k69 =>
  sB (n3 != 1) (sB (decide (x3 < 0)) (k69 (Value.bool true) H2) (wr IntKind.i64 (8 * x2) (fun n70 =>
  ask ((0 : Int) ≤ n70) (nm (Int.fdiv x3 (2 ^ min (Int.toNat n70) 64)) (fun n71 =>
  k69 (Value.bool (n71 != 0)) H2))))) (k69 (Value.bool false) H2))))) (pnR R))
theorem F133_eq (x0a : Option Addr) (x0n : Nat) (x0c : Nat) (x1 : Int) (x2 : Int) (x3 : Int) (R : Ending → Heap → Prop) (H : Heap) : F133 x0a x0n x0c x1 x2 x3 R H = vc Tryz.prog (codeOf Tryz.f133) (.node none .leaf (.node none .leaf (.node (some ⟨[(10, 32)], [17, 18, 19, 20, 21, 22, 23, 24, 25, 26, 27, 28, 29]⟩) (.node (some ⟨[(29, 4)], [17, 18, 19, 20, 21, 22, 23, 24, 25, 26, 27, 28]⟩) .leaf .leaf) (.node none .leaf (.node none .leaf (.node none (.node none .leaf (.node none (.node (some ⟨[(36, 3)], [12, 37, 38, 39, 40, 41, 42, 43, 44, 45, 46, 47, 48, 49]⟩) .leaf .leaf) .leaf)) .leaf)))))) (postV Tryz.prog Tryz.f133 R) ⟨#[Value.slice x0a x0n x0c, Value.int IntKind.i64 x1, Value.int IntKind.i64 x2, Value.int IntKind.i64 x3] ++ Array.replicate (Tryz.f133.ntmps - 4) undef, []⟩ H := by kernel_rfl
theorem F133_calls {R : Ending → Heap → Prop} {H : Heap} (x0a : Option Addr) (x0n : Nat) (x0c : Nat) (x1 : Int) (x2 : Int) (x3 : Int) (h : F133 x0a x0n x0c x1 x2 x3 R H) : HCalls Tryz.prog 133 #[Value.slice x0a x0n x0c, Value.int IntKind.i64 x1, Value.int IntKind.i64 x2, Value.int IntKind.i64 x3] H R :=
  calls_by (F := F133 x0a x0n x0c x1 x2 x3 R H) (.node none .leaf (.node none .leaf (.node (some ⟨[(10, 32)], [17, 18, 19, 20, 21, 22, 23, 24, 25, 26, 27, 28, 29]⟩) (.node (some ⟨[(29, 4)], [17, 18, 19, 20, 21, 22, 23, 24, 25, 26, 27, 28]⟩) .leaf .leaf) (.node none .leaf (.node none .leaf (.node none (.node none .leaf (.node none (.node (some ⟨[(36, 3)], [12, 37, 38, 39, 40, 41, 42, 43, 44, 45, 46, 47, 48, 49]⟩) .leaf .leaf) .leaf)) .leaf)))))) Tryz.func133 rfl (F133_eq x0a x0n x0c x1 x2 x3 R H) h
/-- (*bollard/patch.Set).own -/
def F134 (x0 : Option Addr) (R : Ending → Heap → Prop) (H : Heap) : Prop :=
  sB (!Option.isNone x0) (nz x0 (fun a1 =>
  ld H (Addr.add a1 3) (fun v2 =>
  dBl v2 (fun b3 =>
  R (Ending.returned (Value.bool b3)) H)))) (R (Ending.returned (Value.bool false)) H)
theorem F134_eq (x0 : Option Addr) (R : Ending → Heap → Prop) (H : Heap) : F134 x0 R H = vc Tryz.prog (codeOf Tryz.f134) .leaf (postV Tryz.prog Tryz.f134 R) ⟨#[Value.pointer x0] ++ Array.replicate (Tryz.f134.ntmps - 1) undef, []⟩ H := by kernel_rfl
theorem F134_calls {R : Ending → Heap → Prop} {H : Heap} (x0 : Option Addr) (h : F134 x0 R H) : HCalls Tryz.prog 134 #[Value.pointer x0] H R :=
  calls_by (F := F134 x0 R H) .leaf Tryz.func134 rfl (F134_eq x0 R H) h
/-- bollard/patch.fits -/
def F135 (x0 : Int) (x1 : Int) (x2a : Option Addr) (x2n : Nat) (x2c : Nat) (R : Ending → Heap → Prop) (H : Heap) : Prop :=
  sB (decide (x0 ≥ 0)) (sB (decide (x1 ≥ 0)) (sB (decide ((↑x2n : Int) > 0)) (sB (decide (x1 ≤ 128)) (wr IntKind.i64 (128 - x1) (fun n1 =>
  R (Ending.returned (Value.bool (decide ((↑x2n : Int) ≤ n1)))) H)) (R (Ending.returned (Value.bool false)) H)) (R (Ending.returned (Value.bool false)) H)) (R (Ending.returned (Value.bool false)) H)) (R (Ending.returned (Value.bool false)) H)
theorem F135_eq (x0 : Int) (x1 : Int) (x2a : Option Addr) (x2n : Nat) (x2c : Nat) (R : Ending → Heap → Prop) (H : Heap) : F135 x0 x1 x2a x2n x2c R H = vc Tryz.prog (codeOf Tryz.f135) .leaf (postV Tryz.prog Tryz.f135 R) ⟨#[Value.int IntKind.i64 x0, Value.int IntKind.i64 x1, Value.slice x2a x2n x2c] ++ Array.replicate (Tryz.f135.ntmps - 3) undef, []⟩ H := by kernel_rfl
theorem F135_calls {R : Ending → Heap → Prop} {H : Heap} (x0 : Int) (x1 : Int) (x2a : Option Addr) (x2n : Nat) (x2c : Nat) (h : F135 x0 x1 x2a x2n x2c R H) : HCalls Tryz.prog 135 #[Value.int IntKind.i64 x0, Value.int IntKind.i64 x1, Value.slice x2a x2n x2c] H R :=
  calls_by (F := F135 x0 x1 x2a x2n x2c R H) .leaf Tryz.func135 rfl (F135_eq x0 x1 x2a x2n x2c R H) h
/-- slices.ContainsFunc[[]int,int] -/
def F136 (x0a : Option Addr) (x0n : Nat) (x0c : Nat) (x1g : Nat) (x1f : Array Value) (x1c : Array Value) (R : Ending → Heap → Prop) (H : Heap) : Prop :=
  HCalls Tryz.prog 173 #[Value.slice x0a x0n x0c, Value.func (Fn.func x1g) x1f x1c] H (Sp.retK (fun v1 H2 =>
  dInt IntKind.i64 v1 (fun n3 =>
  R (Ending.returned (Value.bool (decide (n3 ≥ 0)))) H2)) (pnR R))
theorem F136_eq (x0a : Option Addr) (x0n : Nat) (x0c : Nat) (x1g : Nat) (x1f : Array Value) (x1c : Array Value) (R : Ending → Heap → Prop) (H : Heap) : F136 x0a x0n x0c x1g x1f x1c R H = vc Tryz.prog (codeOf Tryz.f136) .leaf (postV Tryz.prog Tryz.f136 R) ⟨#[Value.slice x0a x0n x0c, Value.func (Fn.func x1g) x1f x1c] ++ Array.replicate (Tryz.f136.ntmps - 2) undef, []⟩ H := by kernel_rfl
theorem F136_calls {R : Ending → Heap → Prop} {H : Heap} (x0a : Option Addr) (x0n : Nat) (x0c : Nat) (x1g : Nat) (x1f : Array Value) (x1c : Array Value) (h : F136 x0a x0n x0c x1g x1f x1c R H) : HCalls Tryz.prog 136 #[Value.slice x0a x0n x0c, Value.func (Fn.func x1g) x1f x1c] H R :=
  calls_by (F := F136 x0a x0n x0c x1g x1f x1c R H) .leaf Tryz.func136 rfl (F136_eq x0a x0n x0c x1g x1f x1c R H) h
/-- (*bollard/patch.Set).Add$1 -/
def F137 (x0 : Int) (f0 : Addr) (R : Ending → Heap → Prop) (H : Heap) : Prop :=
  ld H f0 (fun v1 =>
  dPtr v1 (fun p2 =>
  HCalls Tryz.prog 138 #[Value.pointer p2, Value.int IntKind.i64 x0] H (Sp.retK (fun v3 H4 =>
  dBl v3 (fun b5 =>
  R (Ending.returned (Value.bool !b5)) H4)) (pnR R))))
theorem F137_eq (x0 : Int) (f0 : Addr) (R : Ending → Heap → Prop) (H : Heap) : F137 x0 f0 R H = vc Tryz.prog (codeOf Tryz.f137) .leaf (postV Tryz.prog Tryz.f137 R) ⟨#[Value.int IntKind.i64 x0, Value.pointer (some f0)] ++ Array.replicate (Tryz.f137.ntmps - 2) undef, []⟩ H := by kernel_rfl
theorem F137_calls {R : Ending → Heap → Prop} {H : Heap} (x0 : Int) (f0 : Addr) (h : F137 x0 f0 R H) : HCalls Tryz.prog 137 #[Value.int IntKind.i64 x0, Value.pointer (some f0)] H R :=
  calls_by (F := F137 x0 f0 R H) .leaf Tryz.func137 rfl (F137_eq x0 f0 R H) h
/-- (*bollard/patch.Set).known -/
def F138 (x0 : Option Addr) (x1 : Int) (R : Ending → Heap → Prop) (H : Heap) : Prop :=
  sB (decide (x1 ≥ 1)) (nz x0 (fun a1 =>
  ld H a1 (fun v2 =>
  dInt IntKind.i64 v2 (fun n3 =>
  R (Ending.returned (Value.bool (decide (x1 ≤ n3)))) H)))) (R (Ending.returned (Value.bool false)) H)
theorem F138_eq (x0 : Option Addr) (x1 : Int) (R : Ending → Heap → Prop) (H : Heap) : F138 x0 x1 R H = vc Tryz.prog (codeOf Tryz.f138) .leaf (postV Tryz.prog Tryz.f138 R) ⟨#[Value.pointer x0, Value.int IntKind.i64 x1] ++ Array.replicate (Tryz.f138.ntmps - 2) undef, []⟩ H := by kernel_rfl
theorem F138_calls {R : Ending → Heap → Prop} {H : Heap} (x0 : Option Addr) (x1 : Int) (h : F138 x0 x1 R H) : HCalls Tryz.prog 138 #[Value.pointer x0, Value.int IntKind.i64 x1] H R :=
  calls_by (F := F138 x0 x1 R H) .leaf Tryz.func138 rfl (F138_eq x0 x1 R H) h
/-- slices.Clone[[]byte,byte] -/
def F139 (x0a : Option Addr) (x0n : Nat) (x0c : Nat) (R : Ending → Heap → Prop) (H : Heap) : Prop :=
  sB (Option.isNone x0a) (R (Ending.returned (Value.slice none 0 0)) H) (al H (Obj.cells #[] 5) (fun r1 H2 =>
  semW Tryz.prog (Builtin.append_ #[85, 85] 85 #[Value.slice (some (Addr.mk r1 0 none)) 0 0, Value.slice x0a x0n x0c]) (pnR R) H2 (fun v5 H6 =>
  dSl v5 (fun p7 r8 r9 =>
  R (Ending.returned (Value.slice p7 r8 r9)) H6))))
theorem F139_eq (x0a : Option Addr) (x0n : Nat) (x0c : Nat) (R : Ending → Heap → Prop) (H : Heap) : F139 x0a x0n x0c R H = vc Tryz.prog (codeOf Tryz.f139) .leaf (postV Tryz.prog Tryz.f139 R) ⟨#[Value.slice x0a x0n x0c] ++ Array.replicate (Tryz.f139.ntmps - 1) undef, []⟩ H := by kernel_rfl
theorem F139_calls {R : Ending → Heap → Prop} {H : Heap} (x0a : Option Addr) (x0n : Nat) (x0c : Nat) (h : F139 x0a x0n x0c R H) : HCalls Tryz.prog 139 #[Value.slice x0a x0n x0c] H R :=
  calls_by (F := F139 x0a x0n x0c R H) .leaf Tryz.func139 rfl (F139_eq x0a x0n x0c R H) h
/-- slices.Clone[[]int,int] -/
def F140 (x0a : Option Addr) (x0n : Nat) (x0c : Nat) (R : Ending → Heap → Prop) (H : Heap) : Prop :=
  sB (Option.isNone x0a) (R (Ending.returned (Value.slice none 0 0)) H) (al H (Obj.cells #[] 3) (fun r1 H2 =>
  semW Tryz.prog (Builtin.append_ #[45, 45] 45 #[Value.slice (some (Addr.mk r1 0 none)) 0 0, Value.slice x0a x0n x0c]) (pnR R) H2 (fun v5 H6 =>
  dSl v5 (fun p7 r8 r9 =>
  R (Ending.returned (Value.slice p7 r8 r9)) H6))))
theorem F140_eq (x0a : Option Addr) (x0n : Nat) (x0c : Nat) (R : Ending → Heap → Prop) (H : Heap) : F140 x0a x0n x0c R H = vc Tryz.prog (codeOf Tryz.f140) .leaf (postV Tryz.prog Tryz.f140 R) ⟨#[Value.slice x0a x0n x0c] ++ Array.replicate (Tryz.f140.ntmps - 1) undef, []⟩ H := by kernel_rfl
theorem F140_calls {R : Ending → Heap → Prop} {H : Heap} (x0a : Option Addr) (x0n : Nat) (x0c : Nat) (h : F140 x0a x0n x0c R H) : HCalls Tryz.prog 140 #[Value.slice x0a x0n x0c] H R :=
  calls_by (F := F140 x0a x0n x0c R H) .leaf Tryz.func140 rfl (F140_eq x0a x0n x0c R H) h
/-- bollard/patch.overlap -/
def F141 (x0_0 : Value) (x0_1 : Value) (x0_2 : Value) (x0_3 : Value) (x0_4 : Value) (x1_0 : Value) (x1_1 : Value) (x1_2 : Value) (x1_3 : Value) (x1_4 : Value) (R : Ending → Heap → Prop) (H : Heap) : Prop :=
  al H (Obj.cells #[x0_0, x0_1, x0_2, x0_3, x0_4] 220) (fun r1 H2 =>
  al H2 (Obj.cells #[x1_0, x1_1, x1_2, x1_3, x1_4] 220) (fun r3 H4 =>
  ld H4 (Addr.mk r1 1 none) (fun v5 =>
  dInt IntKind.i64 v5 (fun n6 =>
  ld H4 (Addr.mk r3 1 none) (fun v7 =>
  dInt IntKind.i64 v7 (fun n8 =>
  sB (n6 == n8) (ld H4 (Addr.mk r1 2 none) (fun v9 =>
  dInt IntKind.i64 v9 (fun n10 =>
  ld H4 (Addr.mk r3 2 none) (fun v11 =>
  dInt IntKind.i64 v11 (fun n12 =>
  ld H4 (Addr.mk r3 3 none) (fun v13 =>
  dSl v13 (fun p14 r15 r16 =>
  wr IntKind.i64 (n12 + (↑r15 : Int)) (fun n17 =>
  sB (decide (n10 < n17)) (ld H4 (Addr.mk r3 2 none) (fun v18 =>
  dInt IntKind.i64 v18 (fun n19 =>
  ld H4 (Addr.mk r1 2 none) (fun v20 =>
  dInt IntKind.i64 v20 (fun n21 =>
  ld H4 (Addr.mk r1 3 none) (fun v22 =>
  dSl v22 (fun p23 r24 r25 =>
  wr IntKind.i64 (n21 + (↑r24 : Int)) (fun n26 =>
  R (Ending.returned (Value.bool (decide (n19 < n26)))) H4)))))))) (R (Ending.returned (Value.bool false)) H4))))))))) (R (Ending.returned (Value.bool false)) H4)))))))
theorem F141_eq (x0_0 : Value) (x0_1 : Value) (x0_2 : Value) (x0_3 : Value) (x0_4 : Value) (x1_0 : Value) (x1_1 : Value) (x1_2 : Value) (x1_3 : Value) (x1_4 : Value) (R : Ending → Heap → Prop) (H : Heap) : F141 x0_0 x0_1 x0_2 x0_3 x0_4 x1_0 x1_1 x1_2 x1_3 x1_4 R H = vc Tryz.prog (codeOf Tryz.f141) .leaf (postV Tryz.prog Tryz.f141 R) ⟨#[Value.agg #[x0_0, x0_1, x0_2, x0_3, x0_4], Value.agg #[x1_0, x1_1, x1_2, x1_3, x1_4]] ++ Array.replicate (Tryz.f141.ntmps - 2) undef, []⟩ H := by kernel_rfl
theorem F141_calls {R : Ending → Heap → Prop} {H : Heap} (x0_0 : Value) (x0_1 : Value) (x0_2 : Value) (x0_3 : Value) (x0_4 : Value) (x1_0 : Value) (x1_1 : Value) (x1_2 : Value) (x1_3 : Value) (x1_4 : Value) (h : F141 x0_0 x0_1 x0_2 x0_3 x0_4 x1_0 x1_1 x1_2 x1_3 x1_4 R H) : HCalls Tryz.prog 141 #[Value.agg #[x0_0, x0_1, x0_2, x0_3, x0_4], Value.agg #[x1_0, x1_1, x1_2, x1_3, x1_4]] H R :=
  calls_by (F := F141 x0_0 x0_1 x0_2 x0_3 x0_4 x1_0 x1_1 x1_2 x1_3 x1_4 R H) .leaf Tryz.func141 rfl (F141_eq x0_0 x0_1 x0_2 x0_3 x0_4 x1_0 x1_1 x1_2 x1_3 x1_4 R H) h
/-- (*bollard/patch.Set).pending -/
def F142 (x0 : Option Addr) (x1a : Option Addr) (x1n : Nat) (x1c : Nat) (R : Ending → Heap → Prop) (H : Heap) : Prop :=
  ∃ I1 : List Value → Heap → Prop,
  ∃ I2 : List Value → Heap → Nat,
  (I1 ([Value.slice none 0 0, Value.int IntKind.i64 0]) H) ∧
  ∀ p3 : Option Addr,
  ∀ r4 : Nat,
  ∀ r5 : Nat,
  ∀ n6 : Int,
  ∀ v7 v8 v9 v10 v11 v12 v13 v14 v15 v16 v17 v18 v19 v20 v21 v22 v23 v24 v25 v26 v27 : Value,
  ∀ H28 : Heap,
  (I1 ([Value.slice p3 r4 r5, Value.int IntKind.i64 n6]) H28) →
  sB (decide (n6 < (↑x1n : Int))) (jn (α := VFH 1) (fun v30 H31 =>
  ∀ v32 v33 v34 v35 v36 v37 v38 v39 v40 v41 v42 v43 v44 v45 v46 v47 v48 v49 v50 : Value,
  dSl v30 (fun p51 r52 r53 =>
  wr IntKind.i64 (n6 + 1) (fun n54 =>
  (I1 ([Value.slice p51 r52 r53, Value.int IntKind.i64 n54]) H31) ∧
  (I2 [Value.slice p51 r52 r53, Value.int IntKind.i64 n54] H31) < (I2 [Value.slice p3 r4 r5, Value.int IntKind.i64 n6] H28)))) (fun k55 =>
  nz x1a (fun a56 =>
  ask ((0 : Int) ≤ n6 ∧ n6 < (↑x1n : Int)) (ld H28 (Addr.add a56 (Int.toNat n6 * 1)) (fun v57 =>
  dInt IntKind.i64 v57 (fun n58 =>
  nz x0 (fun a59 =>
  ld H28 (Addr.add a59 2) (fun v60 =>
  dMap v60 (fun p61 =>
  semW Tryz.prog (Instr.lookup 216 (Value.map p61) (Value.int IntKind.i64 n58) true) (pnR R) H28 (fun v64 H65 =>
  dT 2 v64 (fun v66 v67 =>
  dA 5 v66 (fun v68 v69 v70 v71 v72 =>
  dBl v67 (fun b73 =>
  al H65 (Obj.cells #[Value.int IntKind.i64 0, Value.int IntKind.i64 0, Value.int IntKind.i64 0, Value.slice none 0 0, Value.slice none 0 0] 220) (fun r74 H75 =>
  st H75 (Addr.mk r74 0 none) v68 (fun H76 =>
  st H76 (Addr.mk r74 1 none) v69 (fun H77 =>
  st H77 (Addr.mk r74 2 none) v70 (fun H78 =>
  st H78 (Addr.mk r74 3 none) v71 (fun H79 =>
  st H79 (Addr.mk r74 4 none) v72 (fun H80 =>
  sB b73 (al H80 (Obj.cells #[Value.int IntKind.i64 n58] 3) (fun r81 H82 =>
  semW Tryz.prog (Builtin.append_ #[45, 45] 45 #[Value.slice p3 r4 r5, Value.slice (some (Addr.mk r81 0 none)) 1 1]) (pnR R) H82 (fun v85 H86 =>
  dSl v85 (fun p87 r88 r89 =>
  k55 (Value.slice p87 r88 r89) H86)))) (k55 (Value.slice p3 r4 r5) H80)))))))))))))))))))) (HCalls Tryz.prog 174 #[Value.slice p3 r4 r5] H28 (Sp.retK (fun v90 H91 =>
  HCalls Tryz.prog 175 #[Value.slice p3 r4 r5] H91 (Sp.retK (fun v92 H93 =>
  dSl v92 (fun p94 r95 r96 =>
  R (Ending.returned (Value.slice p94 r95 r96)) H93)) (pnR R))) (pnR R)))
theorem F142_eq (x0 : Option Addr) (x1a : Option Addr) (x1n : Nat) (x1c : Nat) (R : Ending → Heap → Prop) (H : Heap) : F142 x0 x1a x1n x1c R H = vc Tryz.prog (codeOf Tryz.f142) (.node none .leaf (.node none .leaf (.node none (.node none .leaf (.node none (.node (some ⟨[(5, 45), (12, 3)], [7, 8, 9, 13, 14, 15, 16, 17, 18, 19, 20, 21, 22, 23, 24, 25, 26, 27, 28, 29, 30]⟩) (.node none .leaf (.node none .leaf (.node (some ⟨[(5, 45)], [7, 8, 9, 14, 15, 16, 17, 18, 19, 20, 21, 22, 23, 24, 25, 26, 27, 28, 29]⟩) .leaf .leaf))) .leaf) .leaf)) .leaf))) (postV Tryz.prog Tryz.f142 R) ⟨#[Value.pointer x0, Value.slice x1a x1n x1c] ++ Array.replicate (Tryz.f142.ntmps - 2) undef, []⟩ H := by kernel_rfl
theorem F142_calls {R : Ending → Heap → Prop} {H : Heap} (x0 : Option Addr) (x1a : Option Addr) (x1n : Nat) (x1c : Nat) (h : F142 x0 x1a x1n x1c R H) : HCalls Tryz.prog 142 #[Value.pointer x0, Value.slice x1a x1n x1c] H R :=
  calls_by (F := F142 x0 x1a x1n x1c R H) (.node none .leaf (.node none .leaf (.node none (.node none .leaf (.node none (.node (some ⟨[(5, 45), (12, 3)], [7, 8, 9, 13, 14, 15, 16, 17, 18, 19, 20, 21, 22, 23, 24, 25, 26, 27, 28, 29, 30]⟩) (.node none .leaf (.node none .leaf (.node (some ⟨[(5, 45)], [7, 8, 9, 14, 15, 16, 17, 18, 19, 20, 21, 22, 23, 24, 25, 26, 27, 28, 29]⟩) .leaf .leaf))) .leaf) .leaf)) .leaf))) Tryz.func142 rfl (F142_eq x0 x1a x1n x1c R H) h
/-- bollard/bollardref04.Inodes -/
def F143 (x0_0 : Value) (x0_1 : Value) (x0_2 : Value) (R : Ending → Heap → Prop) (H : Heap) : Prop :=
  al H (Obj.cells #[x0_0, x0_1, x0_2] 23) (fun r1 H2 =>
  ld H2 (Addr.mk r1 0 none) (fun v3 =>
  ld H2 (Addr.mk r1 1 none) (fun v4 =>
  ld H2 (Addr.mk r1 2 none) (fun v5 =>
  HCalls Tryz.prog 52 #[Value.agg #[v3, v4, v5]] H2 (Sp.retK (fun v6 H7 =>
  dInt IntKind.i64 v6 (fun n8 =>
  sB (n8 != 0) (R (Ending.returned (Value.int IntKind.i64 0)) H7) (ld H7 (Addr.mk r1 0 none) (fun v9 =>
  dInt IntKind.i64 v9 (fun n10 =>
  ld H7 (Addr.mk r1 2 none) (fun v11 =>
  dInt IntKind.i64 v11 (fun n12 =>
  wr IntKind.i64 (n10 * n12) (fun n13 =>
  R (Ending.returned (Value.int IntKind.i64 n13)) H7)))))))) (pnR R))))))
theorem F143_eq (x0_0 : Value) (x0_1 : Value) (x0_2 : Value) (R : Ending → Heap → Prop) (H : Heap) : F143 x0_0 x0_1 x0_2 R H = vc Tryz.prog (codeOf Tryz.f143) .leaf (postV Tryz.prog Tryz.f143 R) ⟨#[Value.agg #[x0_0, x0_1, x0_2]] ++ Array.replicate (Tryz.f143.ntmps - 1) undef, []⟩ H := by kernel_rfl
theorem F143_calls {R : Ending → Heap → Prop} {H : Heap} (x0_0 : Value) (x0_1 : Value) (x0_2 : Value) (h : F143 x0_0 x0_1 x0_2 R H) : HCalls Tryz.prog 143 #[Value.agg #[x0_0, x0_1, x0_2]] H R :=
  calls_by (F := F143 x0_0 x0_1 x0_2 R H) .leaf Tryz.func143 rfl (F143_eq x0_0 x0_1 x0_2 R H) h
/-- bollard/bollardref03.address -/
def F144 (x0 : Int) (R : Ending → Heap → Prop) (H : Heap) : Prop :=
  sB (decide (x0 ≥ 0)) (R (Ending.returned (Value.bool (decide (x0 < 2048)))) H) (R (Ending.returned (Value.bool false)) H)
theorem F144_eq (x0 : Int) (R : Ending → Heap → Prop) (H : Heap) : F144 x0 R H = vc Tryz.prog (codeOf Tryz.f144) .leaf (postV Tryz.prog Tryz.f144 R) ⟨#[Value.int IntKind.i64 x0] ++ Array.replicate (Tryz.f144.ntmps - 1) undef, []⟩ H := by kernel_rfl
theorem F144_calls {R : Ending → Heap → Prop} {H : Heap} (x0 : Int) (h : F144 x0 R H) : HCalls Tryz.prog 144 #[Value.int IntKind.i64 x0] H R :=
  calls_by (F := F144 x0 R H) .leaf Tryz.func144 rfl (F144_eq x0 R H) h
/-- bollard/bollardref01.Put -/
def F145 (x0a : Option Addr) (x0n : Nat) (x0c : Nat) (x1 : Int) (x2 : Int) (x3 : Int) (R : Ending → Heap → Prop) (H : Heap) : Prop :=
  jn (α := VFH 1) (fun v1 H2 =>
  ∀ v3 v4 v5 v6 v7 v8 v9 v10 v11 v12 v13 v14 v15 v16 v17 v18 v19 v20 v21 v22 : Value,
  dBl v1 (fun b23 =>
  sB b23 (R (Ending.returned (Value.tuple #[Value.slice none 0 0, Value.int IntKind.i64 1])) H2) (wr IntKind.i64 ((↑x0n : Int) - x2) (fun n24 =>
  sB (decide (x1 > n24)) (R (Ending.returned (Value.tuple #[Value.slice none 0 0, Value.int IntKind.i64 10])) H2) (al H2 (Obj.cells #[] 5) (fun r25 H26 =>
  semW Tryz.prog (Builtin.append_ #[85, 85] 85 #[Value.slice (some (Addr.mk r25 0 none)) 0 0, Value.slice x0a x0n x0c]) (pnR R) H26 (fun v29 H30 =>
  dSl v29 (fun p31 r32 r33 =>
  ∃ I34 : List Value → Heap → Prop,
  ∃ I35 : List Value → Heap → Nat,
  (I34 ([Value.int IntKind.i64 x3, Value.int IntKind.i64 0]) H30) ∧
  ∀ n36 : Int,
  ∀ n37 : Int,
  ∀ v38 v39 v40 v41 v42 v43 v44 v45 v46 v47 v48 v49 v50 v51 : Value,
  ∀ H52 : Heap,
  (I34 ([Value.int IntKind.i64 n36, Value.int IntKind.i64 n37]) H52) →
  sB (decide (n37 < x2)) (wr IntKind.i64 (x1 + n37) (fun n54 =>
  ask ((256 : Int) ≠ (0 : Int)) (nm (Int.tmod n36 256) (fun n55 =>
  wr IntKind.u8 n55 (fun n56 =>
  nz p31 (fun a57 =>
  ask ((0 : Int) ≤ n54 ∧ n54 < (↑r32 : Int)) (st H52 (Addr.add a57 (Int.toNat n54 * 1)) (Value.int IntKind.u8 n56) (fun H58 =>
  ask ((256 : Int) ≠ (0 : Int)) (wr IntKind.i64 (Int.tdiv n36 256) (fun n59 =>
  wr IntKind.i64 (n37 + 1) (fun n60 =>
  (I34 ([Value.int IntKind.i64 n59, Value.int IntKind.i64 n60]) H58) ∧
  (I35 [Value.int IntKind.i64 n59, Value.int IntKind.i64 n60] H58) < (I35 [Value.int IntKind.i64 n36, Value.int IntKind.i64 n37] H52)))))))))))) (R (Ending.returned (Value.tuple #[Value.slice p31 r32 r33, Value.int IntKind.i64 0])) H52))))))))) (fun k61 =>
  sB (decide (x2 < 1)) (k61 (Value.bool true) H) (sB (decide (x2 > 4)) (k61 (Value.bool true) H) (sB (decide (x1 < 0)) (k61 (Value.bool true) H) (sB (decide (x3 < 0)) (k61 (Value.bool true) H) (wr IntKind.i64 (8 * x2) (fun n62 =>
  ask ((0 : Int) ≤ n62) (nm (IntKind.wrap IntKind.i64 (1 * 2 ^ min (Int.toNat n62) 64)) (fun n63 =>
  k61 (Value.bool (decide (x3 ≥ n63))) H))))))))
theorem F145_eq (x0a : Option Addr) (x0n : Nat) (x0c : Nat) (x1 : Int) (x2 : Int) (x3 : Int) (R : Ending → Heap → Prop) (H : Heap) : F145 x0a x0n x0c x1 x2 x3 R H = vc Tryz.prog (codeOf Tryz.f145) (.node none .leaf (.node none (.node (some ⟨[(32, 4)], [12, 13, 14, 15, 16, 17, 18, 19, 20, 21, 22, 23, 24, 25, 26, 27, 28, 29, 30, 31]⟩) .leaf .leaf) (.node none .leaf (.node none .leaf (.node none (.node none .leaf (.node none (.node (some ⟨[(3, 3), (43, 3)], [11, 44, 45, 46, 47, 48, 49, 50, 51, 52, 53, 54, 55, 56]⟩) .leaf .leaf) .leaf)) .leaf))))) (postV Tryz.prog Tryz.f145 R) ⟨#[Value.slice x0a x0n x0c, Value.int IntKind.i64 x1, Value.int IntKind.i64 x2, Value.int IntKind.i64 x3] ++ Array.replicate (Tryz.f145.ntmps - 4) undef, []⟩ H := by kernel_rfl
theorem F145_calls {R : Ending → Heap → Prop} {H : Heap} (x0a : Option Addr) (x0n : Nat) (x0c : Nat) (x1 : Int) (x2 : Int) (x3 : Int) (h : F145 x0a x0n x0c x1 x2 x3 R H) : HCalls Tryz.prog 145 #[Value.slice x0a x0n x0c, Value.int IntKind.i64 x1, Value.int IntKind.i64 x2, Value.int IntKind.i64 x3] H R :=
  calls_by (F := F145 x0a x0n x0c x1 x2 x3 R H) (.node none .leaf (.node none (.node (some ⟨[(32, 4)], [12, 13, 14, 15, 16, 17, 18, 19, 20, 21, 22, 23, 24, 25, 26, 27, 28, 29, 30, 31]⟩) .leaf .leaf) (.node none .leaf (.node none .leaf (.node none (.node none .leaf (.node none (.node (some ⟨[(3, 3), (43, 3)], [11, 44, 45, 46, 47, 48, 49, 50, 51, 52, 53, 54, 55, 56]⟩) .leaf .leaf) .leaf)) .leaf))))) Tryz.func145 rfl (F145_eq x0a x0n x0c x1 x2 x3 R H) h
/-- bollard/bollardref01.Sum -/
def F146 (x0a : Option Addr) (x0n : Nat) (x0c : Nat) (R : Ending → Heap → Prop) (H : Heap) : Prop :=
  ∃ I1 : List Value → Heap → Prop,
  ∃ I2 : List Value → Heap → Nat,
  (I1 ([Value.int IntKind.i64 1, Value.int IntKind.i64 0, Value.int IntKind.i64 0]) H) ∧
  ∀ n3 : Int,
  ∀ n4 : Int,
  ∀ n5 : Int,
  ∀ v6 v7 v8 v9 v10 v11 v12 v13 v14 v15 v16 v17 v18 v19 : Value,
  ∀ H20 : Heap,
  (I1 ([Value.int IntKind.i64 n3, Value.int IntKind.i64 n4, Value.int IntKind.i64 n5]) H20) →
  sB (decide (n5 < (↑x0n : Int))) (nz x0a (fun a22 =>
  ask ((0 : Int) ≤ n5 ∧ n5 < (↑x0n : Int)) (ld H20 (Addr.add a22 (Int.toNat n5 * 1)) (fun v23 =>
  dInt IntKind.u8 v23 (fun n24 =>
  wr IntKind.i64 n24 (fun n25 =>
  wr IntKind.i64 (n3 + n25) (fun n26 =>
  ask ((65521 : Int) ≠ (0 : Int)) (nm (Int.tmod n26 65521) (fun n27 =>
  wr IntKind.i64 (n4 + n27) (fun n28 =>
  ask ((65521 : Int) ≠ (0 : Int)) (nm (Int.tmod n28 65521) (fun n29 =>
  wr IntKind.i64 (n5 + 1) (fun n30 =>
  (I1 ([Value.int IntKind.i64 n27, Value.int IntKind.i64 n29, Value.int IntKind.i64 n30]) H20) ∧
  (I2 [Value.int IntKind.i64 n27, Value.int IntKind.i64 n29, Value.int IntKind.i64 n30] H20) < (I2 [Value.int IntKind.i64 n3, Value.int IntKind.i64 n4, Value.int IntKind.i64 n5] H20)))))))))))))) (wr IntKind.i64 (n4 * 65536) (fun n31 =>
  wr IntKind.i64 (n31 + n3) (fun n32 =>
  R (Ending.returned (Value.int IntKind.i64 n32)) H20)))
theorem F146_eq (x0a : Option Addr) (x0n : Nat) (x0c : Nat) (R : Ending → Heap → Prop) (H : Heap) : F146 x0a x0n x0c R H = vc Tryz.prog (codeOf Tryz.f146) (.node none .leaf (.node none .leaf (.node none (.node none .leaf (.node none (.node (some ⟨[(3, 3), (4, 3), (9, 3)], [6, 10, 11, 12, 13, 14, 15, 16, 17, 18, 19, 20, 21, 22]⟩) .leaf .leaf) .leaf)) .leaf))) (postV Tryz.prog Tryz.f146 R) ⟨#[Value.slice x0a x0n x0c] ++ Array.replicate (Tryz.f146.ntmps - 1) undef, []⟩ H := by kernel_rfl
theorem F146_calls {R : Ending → Heap → Prop} {H : Heap} (x0a : Option Addr) (x0n : Nat) (x0c : Nat) (h : F146 x0a x0n x0c R H) : HCalls Tryz.prog 146 #[Value.slice x0a x0n x0c] H R :=
  calls_by (F := F146 x0a x0n x0c R H) (.node none .leaf (.node none .leaf (.node none (.node none .leaf (.node none (.node (some ⟨[(3, 3), (4, 3), (9, 3)], [6, 10, 11, 12, 13, 14, 15, 16, 17, 18, 19, 20, 21, 22]⟩) .leaf .leaf) .leaf)) .leaf))) Tryz.func146 rfl (F146_eq x0a x0n x0c R H) h
/-- bollard/geom.between -/
def F151 (x0 : Int) (x1 : Int) (x2 : Int) (R : Ending → Heap → Prop) (H : Heap) : Prop :=
  sB (decide (x0 ≥ x1)) (R (Ending.returned (Value.bool (decide (x0 ≤ x2)))) H) (R (Ending.returned (Value.bool false)) H)
theorem F151_eq (x0 : Int) (x1 : Int) (x2 : Int) (R : Ending → Heap → Prop) (H : Heap) : F151 x0 x1 x2 R H = vc Tryz.prog (codeOf Tryz.f151) .leaf (postV Tryz.prog Tryz.f151 R) ⟨#[Value.int IntKind.i64 x0, Value.int IntKind.i64 x1, Value.int IntKind.i64 x2] ++ Array.replicate (Tryz.f151.ntmps - 3) undef, []⟩ H := by kernel_rfl
theorem F151_calls {R : Ending → Heap → Prop} {H : Heap} (x0 : Int) (x1 : Int) (x2 : Int) (h : F151 x0 x1 x2 R H) : HCalls Tryz.prog 151 #[Value.int IntKind.i64 x0, Value.int IntKind.i64 x1, Value.int IntKind.i64 x2] H R :=
  calls_by (F := F151 x0 x1 x2 R H) .leaf Tryz.func151 rfl (F151_eq x0 x1 x2 R H) h
/-- bollard/geom.all -/
def F152 (x0_0 : Value) (x0_1 : Value) (x0_2 : Value) (x1 : Int) (R : Ending → Heap → Prop) (H : Heap) : Prop :=
  al H (Obj.cells #[x0_0, x0_1, x0_2] 23) (fun r1 H2 =>
  ld H2 (Addr.mk r1 0 none) (fun v3 =>
  ld H2 (Addr.mk r1 1 none) (fun v4 =>
  ld H2 (Addr.mk r1 2 none) (fun v5 =>
  HCalls Tryz.prog 96 #[Value.agg #[v3, v4, v5]] H2 (Sp.retK (fun v6 H7 =>
  dInt IntKind.i64 v6 (fun n8 =>
  sB (n8 != 0) (R (Ending.returned (Value.int IntKind.i64 0)) H7) (ld H7 (Addr.mk r1 0 none) (fun v9 =>
  dInt IntKind.i64 v9 (fun n10 =>
  wr IntKind.i64 (n10 * x1) (fun n11 =>
  R (Ending.returned (Value.int IntKind.i64 n11)) H7)))))) (pnR R))))))
theorem F152_eq (x0_0 : Value) (x0_1 : Value) (x0_2 : Value) (x1 : Int) (R : Ending → Heap → Prop) (H : Heap) : F152 x0_0 x0_1 x0_2 x1 R H = vc Tryz.prog (codeOf Tryz.f152) .leaf (postV Tryz.prog Tryz.f152 R) ⟨#[Value.agg #[x0_0, x0_1, x0_2], Value.int IntKind.i64 x1] ++ Array.replicate (Tryz.f152.ntmps - 2) undef, []⟩ H := by kernel_rfl
theorem F152_calls {R : Ending → Heap → Prop} {H : Heap} (x0_0 : Value) (x0_1 : Value) (x0_2 : Value) (x1 : Int) (h : F152 x0_0 x0_1 x0_2 x1 R H) : HCalls Tryz.prog 152 #[Value.agg #[x0_0, x0_1, x0_2], Value.int IntKind.i64 x1] H R :=
  calls_by (F := F152 x0_0 x0_1 x0_2 x1 R H) .leaf Tryz.func152 rfl (F152_eq x0_0 x0_1 x0_2 x1 R H) h
end Go.Proofs.YtklppdodadkcnaaGreat.E
/- The functions' forms in the engine's words, printed by my own program. -/
namespace Go.Proofs.YtklppdodadkcnaaGreat.E
open Go Go.Proofs
set_option linter.unusedVariables false
set_option maxRecDepth 100000
/-- bollard/bollardref03.may -/
def F158 (x0_0 : Value) (x0_1 : Value) (x0_2 : Value) (R : Ending → Heap → Prop) (H : Heap) : Prop :=
  al H (Obj.cells #[x0_0, x0_1, x0_2] 23) (fun r1 H2 =>
  ld H2 (Addr.mk r1 0 none) (fun v3 =>
  dInt IntKind.i64 v3 (fun n4 =>
  sB (decide (n4 ≥ 1)) (ld H2 (Addr.mk r1 0 none) (fun v5 =>
  dInt IntKind.i64 v5 (fun n6 =>
  sB (decide (n6 ≤ 8)) (ld H2 (Addr.mk r1 1 none) (fun v7 =>
  dInt IntKind.i64 v7 (fun n8 =>
  sB (decide (n8 ≥ 8)) (ld H2 (Addr.mk r1 1 none) (fun v9 =>
  dInt IntKind.i64 v9 (fun n10 =>
  sB (decide (n10 ≤ 256)) (ld H2 (Addr.mk r1 2 none) (fun v11 =>
  dInt IntKind.i64 v11 (fun n12 =>
  sB (decide (n12 ≥ 4)) (ld H2 (Addr.mk r1 2 none) (fun v13 =>
  dInt IntKind.i64 v13 (fun n14 =>
  sB (decide (n14 ≤ 64)) (ld H2 (Addr.mk r1 2 none) (fun v15 =>
  dInt IntKind.i64 v15 (fun n16 =>
  ask ((4 : Int) ≠ (0 : Int)) (nm (Int.tmod n16 4) (fun n17 =>
  sB (n17 == 0) (ld H2 (Addr.mk r1 1 none) (fun v18 =>
  dInt IntKind.i64 v18 (fun n19 =>
  ld H2 (Addr.mk r1 2 none) (fun v20 =>
  dInt IntKind.i64 v20 (fun n21 =>
  ask ((4 : Int) ≠ (0 : Int)) (wr IntKind.i64 (Int.tdiv n21 4) (fun n22 =>
  wr IntKind.i64 (3 + n22) (fun n23 =>
  R (Ending.returned (Value.bool (decide (n19 ≥ n23)))) H2)))))))) (R (Ending.returned (Value.bool false)) H2)))))) (R (Ending.returned (Value.bool false)) H2)))) (R (Ending.returned (Value.bool false)) H2)))) (R (Ending.returned (Value.bool false)) H2)))) (R (Ending.returned (Value.bool false)) H2)))) (R (Ending.returned (Value.bool false)) H2)))) (R (Ending.returned (Value.bool false)) H2))))
theorem F158_eq (x0_0 : Value) (x0_1 : Value) (x0_2 : Value) (R : Ending → Heap → Prop) (H : Heap) : F158 x0_0 x0_1 x0_2 R H = vc Tryz.prog (codeOf Tryz.f158) .leaf (postV Tryz.prog Tryz.f158 R) ⟨#[Value.agg #[x0_0, x0_1, x0_2]] ++ Array.replicate (Tryz.f158.ntmps - 1) undef, []⟩ H := by kernel_rfl
theorem F158_calls {R : Ending → Heap → Prop} {H : Heap} (x0_0 : Value) (x0_1 : Value) (x0_2 : Value) (h : F158 x0_0 x0_1 x0_2 R H) : HCalls Tryz.prog 158 #[Value.agg #[x0_0, x0_1, x0_2]] H R :=
  calls_by (F := F158 x0_0 x0_1 x0_2 R H) .leaf Tryz.func158 rfl (F158_eq x0_0 x0_1 x0_2 R H) h
/-- bollard/bollardref05.Has -/
def F159 (x0a : Option Addr) (x0n : Nat) (x0c : Nat) (x1 : Int) (R : Ending → Heap → Prop) (H : Heap) : Prop :=
  sB (decide (x1 ≥ 0)) (ask ((8 : Int) ≠ (0 : Int)) (wr IntKind.i64 (Int.tdiv x1 8) (fun n1 =>
  sB (decide (n1 < (↑x0n : Int))) (ask ((8 : Int) ≠ (0 : Int)) (wr IntKind.i64 (Int.tdiv x1 8) (fun n2 =>
  nz x0a (fun a3 =>
  ask ((0 : Int) ≤ n2 ∧ n2 < (↑x0n : Int)) (ld H (Addr.add a3 (Int.toNat n2 * 1)) (fun v4 =>
  dInt IntKind.u8 v4 (fun n5 =>
  ask ((8 : Int) ≠ (0 : Int)) (nm (Int.tmod x1 8) (fun n6 =>
  ask ((0 : Int) ≤ n6) (nm (Int.fdiv n5 (2 ^ min (Int.toNat n6) 8)) (fun n7 =>
  ask ((2 : Int) ≠ (0 : Int)) (nm (Int.tmod n7 2) (fun n8 =>
  R (Ending.returned (Value.bool (n8 == 1))) H))))))))))))) (R (Ending.returned (Value.bool false)) H)))) (R (Ending.returned (Value.bool false)) H)
theorem F159_eq (x0a : Option Addr) (x0n : Nat) (x0c : Nat) (x1 : Int) (R : Ending → Heap → Prop) (H : Heap) : F159 x0a x0n x0c x1 R H = vc Tryz.prog (codeOf Tryz.f159) .leaf (postV Tryz.prog Tryz.f159 R) ⟨#[Value.slice x0a x0n x0c, Value.int IntKind.i64 x1] ++ Array.replicate (Tryz.f159.ntmps - 2) undef, []⟩ H := by kernel_rfl
theorem F159_calls {R : Ending → Heap → Prop} {H : Heap} (x0a : Option Addr) (x0n : Nat) (x0c : Nat) (x1 : Int) (h : F159 x0a x0n x0c x1 R H) : HCalls Tryz.prog 159 #[Value.slice x0a x0n x0c, Value.int IntKind.i64 x1] H R :=
  calls_by (F := F159 x0a x0n x0c x1 R H) .leaf Tryz.func159 rfl (F159_eq x0a x0n x0c x1 R H) h
/-- bollard/bollardref03.IsName -/
def F160 (x0 : ByteArray) (R : Ending → Heap → Prop) (H : Heap) : Prop :=
  jn (α := VFH 1) (fun v1 H2 =>
  ∀ v3 v4 v5 v6 v7 v8 v9 v10 v11 v12 v13 v14 v15 v16 : Value,
  dBl v1 (fun b17 =>
  sB b17 (R (Ending.returned (Value.bool false)) H2) (∃ I18 : List Value → Heap → Prop,
  ∃ I19 : List Value → Heap → Nat,
  (I18 ([Value.int IntKind.i64 0]) H2) ∧
  ∀ n20 : Int,
  ∀ v21 v22 v23 v24 v25 v26 v27 v28 v29 v30 v31 v32 v33 v34 v35 v36 v37 v38 v39 v40 v41 v42 v43 : Value,
  ∀ H44 : Heap,
  (I18 ([Value.int IntKind.i64 n20]) H44) →
  sB (decide (n20 < (↑(ByteArray.size x0) : Int))) (jn (α := VFH 1) (fun v46 H47 =>
  ∀ v48 v49 v50 v51 v52 v53 v54 v55 v56 v57 v58 v59 v60 v61 v62 : Value,
  dBl v46 (fun b63 =>
  sB b63 (R (Ending.returned (Value.bool false)) H47) (wr IntKind.i64 (n20 + 1) (fun n64 =>
  (I18 ([Value.int IntKind.i64 n64]) H47) ∧
  (I19 [Value.int IntKind.i64 n64] H47) < (I19 [Value.int IntKind.i64 n20] H44))))) (fun k65 =>
  ask ((0 : Int) ≤ n20 ∧ n20 < (↑(ByteArray.size x0) : Int)) (sB (decide (byteAt x0 (Int.toNat n20) < 33)) (k65 (Value.bool true) H44) (ask ((0 : Int) ≤ n20 ∧ n20 < (↑(ByteArray.size x0) : Int)) (sB (decide (byteAt x0 (Int.toNat n20) > 126)) (k65 (Value.bool true) H44) (ask ((0 : Int) ≤ n20 ∧ n20 < (↑(ByteArray.size x0) : Int)) (k65 (Value.bool (byteAt x0 (Int.toNat n20) == 47)) H44))))))) (R (Ending.returned (Value.bool true)) H44)))) (fun k66 =>
  sB (ByteArray.toList x0 == []) (k66 (Value.bool true) H) (sB (decide ((↑(ByteArray.size x0) : Int) > 13)) (k66 (Value.bool true) H) (sB (ByteArray.toList x0 == [UInt8.ofBitVec 46#8]) (k66 (Value.bool true) H) (k66 (Value.bool (ByteArray.toList x0 == [UInt8.ofBitVec 46#8, UInt8.ofBitVec 46#8])) H))))
theorem F160_eq (x0 : ByteArray) (R : Ending → Heap → Prop) (H : Heap) : F160 x0 R H = vc Tryz.prog (codeOf Tryz.f160) (.node none .leaf (.node none (.node (some ⟨[(18, 4)], [4, 5, 6, 7, 8, 9, 10, 11, 12, 13, 14, 15, 16, 17]⟩) .leaf .leaf) (.node none (.node none .leaf (.node none (.node (some ⟨[(3, 3)], [2, 19, 20, 21, 22, 23, 24, 25, 26, 27, 28, 29, 30, 31, 32, 33, 34, 35, 36, 37, 38, 39, 40]⟩) (.node none .leaf (.node none (.node none (.node (some ⟨[(40, 4)], [25, 26, 27, 28, 29, 30, 31, 32, 33, 34, 35, 36, 37, 38, 39]⟩) .leaf .leaf) .leaf) .leaf)) .leaf) .leaf)) .leaf))) (postV Tryz.prog Tryz.f160 R) ⟨#[Value.string x0] ++ Array.replicate (Tryz.f160.ntmps - 1) undef, []⟩ H := by kernel_rfl
theorem F160_calls {R : Ending → Heap → Prop} {H : Heap} (x0 : ByteArray) (h : F160 x0 R H) : HCalls Tryz.prog 160 #[Value.string x0] H R :=
  calls_by (F := F160 x0 R H) (.node none .leaf (.node none (.node (some ⟨[(18, 4)], [4, 5, 6, 7, 8, 9, 10, 11, 12, 13, 14, 15, 16, 17]⟩) .leaf .leaf) (.node none (.node none .leaf (.node none (.node (some ⟨[(3, 3)], [2, 19, 20, 21, 22, 23, 24, 25, 26, 27, 28, 29, 30, 31, 32, 33, 34, 35, 36, 37, 38, 39, 40]⟩) (.node none .leaf (.node none (.node none (.node (some ⟨[(40, 4)], [25, 26, 27, 28, 29, 30, 31, 32, 33, 34, 35, 36, 37, 38, 39]⟩) .leaf .leaf) .leaf) .leaf)) .leaf) .leaf)) .leaf))) Tryz.func160 rfl (F160_eq x0 R H) h
/-- slices.IndexFunc[[][]byte,[]byte] -/
def F161 (x0a : Option Addr) (x0n : Nat) (x0c : Nat) (x1g : Nat) (x1f : Array Value) (x1c : Array Value) (R : Ending → Heap → Prop) (H : Heap) : Prop :=
  ∃ I1 : List Value → Heap → Prop,
  ∃ I2 : List Value → Heap → Nat,
  (I1 ([Value.int IntKind.i64 0]) H) ∧
  ∀ n3 : Int,
  ∀ v4 v5 v6 v7 v8 v9 v10 v11 v12 v13 v14 v15 : Value,
  ∀ H16 : Heap,
  (I1 ([Value.int IntKind.i64 n3]) H16) →
  sB (decide (n3 < (↑x0n : Int))) (nz x0a (fun a18 =>
  ask ((0 : Int) ≤ n3 ∧ n3 < (↑x0n : Int)) (ld H16 (Addr.add a18 (Int.toNat n3 * 1)) (fun v19 =>
  dSl v19 (fun p20 r21 r22 =>
  gB (plainFn Tryz.prog x1g) (HCalls Tryz.prog x1g (argsOf x1f [Value.slice p20 r21 r22] x1c) H16 (Sp.retK (fun v23 H24 =>
  dBl v23 (fun b25 =>
  sB b25 (R (Ending.returned (Value.int IntKind.i64 n3)) H24) (wr IntKind.i64 (n3 + 1) (fun n26 =>
  (I1 ([Value.int IntKind.i64 n26]) H24) ∧
  (I2 [Value.int IntKind.i64 n26] H24) < (I2 [Value.int IntKind.i64 n3] H16))))) (pnR R)))))))) (R (Ending.returned (Value.int IntKind.i64 (-1))) H16)
theorem F161_eq (x0a : Option Addr) (x0n : Nat) (x0c : Nat) (x1g : Nat) (x1f : Array Value) (x1c : Array Value) (R : Ending → Heap → Prop) (H : Heap) : F161 x0a x0n x0c x1g x1f x1c R H = vc Tryz.prog (codeOf Tryz.f161) (.node none .leaf (.node none (.node none .leaf (.node none (.node (some ⟨[(8, 3)], [4, 5, 9, 10, 11, 12, 13, 14, 15, 16, 17, 18]⟩) .leaf .leaf) .leaf)) .leaf)) (postV Tryz.prog Tryz.f161 R) ⟨#[Value.slice x0a x0n x0c, Value.func (Fn.func x1g) x1f x1c] ++ Array.replicate (Tryz.f161.ntmps - 2) undef, []⟩ H := by kernel_rfl
theorem F161_calls {R : Ending → Heap → Prop} {H : Heap} (x0a : Option Addr) (x0n : Nat) (x0c : Nat) (x1g : Nat) (x1f : Array Value) (x1c : Array Value) (h : F161 x0a x0n x0c x1g x1f x1c R H) : HCalls Tryz.prog 161 #[Value.slice x0a x0n x0c, Value.func (Fn.func x1g) x1f x1c] H R :=
  calls_by (F := F161 x0a x0n x0c x1g x1f x1c R H) (.node none .leaf (.node none (.node none .leaf (.node none (.node (some ⟨[(8, 3)], [4, 5, 9, 10, 11, 12, 13, 14, 15, 16, 17, 18]⟩) .leaf .leaf) .leaf)) .leaf)) Tryz.func161 rfl (F161_eq x0a x0n x0c x1g x1f x1c R H) h
/-- (*bollard/cache.Cache).get -/
def F168 (x0 : Option Addr) (x1 : Int) (R : Ending → Heap → Prop) (H : Heap) : Prop :=
  HCalls Tryz.prog 189 #[Value.pointer x0, Value.int IntKind.i64 x1] H (Sp.retK (fun v1 H2 =>
  dInt IntKind.i64 v1 (fun n3 =>
  sB (n3 != 0) (R (Ending.returned (Value.tuple #[Value.pointer none, Value.int IntKind.i64 n3])) H2) (nz x0 (fun a4 =>
  ld H2 (Addr.add a4 2) (fun v5 =>
  dMap v5 (fun p6 =>
  semW Tryz.prog (Instr.lookup 232 (Value.map p6) (Value.int IntKind.i64 x1) true) (pnR R) H2 (fun v9 H10 =>
  dT 2 v9 (fun v11 v12 =>
  dPtr v11 (fun p13 =>
  dBl v12 (fun b14 =>
  jn (α := VFH 1) (fun v15 H16 =>
  ∀ v17 v18 v19 v20 v21 v22 v23 v24 v25 v26 v27 v28 v29 v30 v31 v32 v33 v34 v35 v36 v37 v38 v39 v40 v41 v42 v43 v44 v45 : Value,
  dPtr v15 (fun p46 =>
  nz x0 (fun a47 =>
  ld H16 (Addr.add a47 3) (fun v48 =>
  dInt IntKind.i64 v48 (fun n49 =>
  wr IntKind.i64 (n49 + 1) (fun n50 =>
  nz x0 (fun a51 =>
  st H16 (Addr.add a51 3) (Value.int IntKind.i64 n50) (fun H52 =>
  nz x0 (fun a53 =>
  ld H52 (Addr.add a53 3) (fun v54 =>
  dInt IntKind.i64 v54 (fun n55 =>
  nz p46 (fun a56 =>
  st H52 (Addr.add a56 2) (Value.int IntKind.i64 n55) (fun H57 =>
  R (Ending.returned (Value.tuple #[Value.pointer p46, Value.int IntKind.i64 0])) H57))))))))))))) (fun k58 =>
  sB b14 (nz x0 (fun a59 =>
  ld H10 (Addr.add a59 4) (fun v60 =>
  dInt IntKind.i64 v60 (fun n61 =>
  wr IntKind.i64 (n61 + 1) (fun n62 =>
  nz x0 (fun a63 =>
  st H10 (Addr.add a63 4) (Value.int IntKind.i64 n62) (fun H64 =>
  k58 (Value.pointer p13) H64))))))) (nz x0 (fun a65 =>
  ld H10 (Addr.add a65 5) (fun v66 =>
  dInt IntKind.i64 v66 (fun n67 =>
  wr IntKind.i64 (n67 + 1) (fun n68 =>
  nz x0 (fun a69 =>
  st H10 (Addr.add a69 5) (Value.int IntKind.i64 n68) (fun H70 =>
  HCalls Tryz.prog 190 #[Value.pointer x0, Value.int IntKind.i64 x1] H70 (Sp.retK (fun v71 H72 =>
  dT 2 v71 (fun v73 v74 =>
  dPtr v73 (fun p75 =>
  dInt IntKind.i64 v74 (fun n76 =>
  sB (n76 != 0) (R (Ending.returned (Value.tuple #[Value.pointer none, Value.int IntKind.i64 n76])) H72) (k58 (Value.pointer p75) H72))))) (pnR R)))))))))))))))))))) (pnR R))
theorem F168_eq (x0 : Option Addr) (x1 : Int) (R : Ending → Heap → Prop) (H : Heap) : F168 x0 x1 R H = vc Tryz.prog (codeOf Tryz.f168) (.node none .leaf (.node none .leaf (.node none .leaf (.node (some ⟨[(7, 244)], [4, 5, 9, 10, 26, 27, 28, 29, 30, 31, 32, 33, 34, 35, 36, 37, 38, 39, 40, 41, 42, 43, 44, 45, 46, 47, 48, 49, 50]⟩) .leaf .leaf)))) (postV Tryz.prog Tryz.f168 R) ⟨#[Value.pointer x0, Value.int IntKind.i64 x1] ++ Array.replicate (Tryz.f168.ntmps - 2) undef, []⟩ H := by kernel_rfl
theorem F168_calls {R : Ending → Heap → Prop} {H : Heap} (x0 : Option Addr) (x1 : Int) (h : F168 x0 x1 R H) : HCalls Tryz.prog 168 #[Value.pointer x0, Value.int IntKind.i64 x1] H R :=
  calls_by (F := F168 x0 x1 R H) (.node none .leaf (.node none .leaf (.node none .leaf (.node (some ⟨[(7, 244)], [4, 5, 9, 10, 26, 27, 28, 29, 30, 31, 32, 33, 34, 35, 36, 37, 38, 39, 40, 41, 42, 43, 44, 45, 46, 47, 48, 49, 50]⟩) .leaf .leaf)))) Tryz.func168 rfl (F168_eq x0 x1 R H) h
/-- (*bollard/patch.Set).over -/
def F169 (x0 : Option Addr) (x1a : Option Addr) (x1n : Nat) (x1c : Nat) (x2a : Option Addr) (x2n : Nat) (x2c : Nat) (R : Ending → Heap → Prop) (H : Heap) : Prop :=
  HCalls Tryz.prog 139 #[Value.slice x1a x1n x1c] H (Sp.retK (fun v1 H2 =>
  dSl v1 (fun p3 r4 r5 =>
  ∃ I6 : List Value → Heap → Prop,
  ∃ I7 : List Value → Heap → Nat,
  (I6 ([Value.int IntKind.i64 0]) H2) ∧
  ∀ n8 : Int,
  ∀ v9 v10 v11 v12 v13 v14 v15 v16 v17 v18 v19 v20 v21 v22 v23 v24 v25 v26 v27 : Value,
  ∀ H28 : Heap,
  (I6 ([Value.int IntKind.i64 n8]) H28) →
  sB (decide (n8 < (↑x2n : Int))) (nz x2a (fun a30 =>
  ask ((0 : Int) ≤ n8 ∧ n8 < (↑x2n : Int)) (ld H28 (Addr.add a30 (Int.toNat n8 * 1)) (fun v31 =>
  dInt IntKind.i64 v31 (fun n32 =>
  nz x0 (fun a33 =>
  ld H28 (Addr.add a33 2) (fun v34 =>
  dMap v34 (fun p35 =>
  semW Tryz.prog (Instr.lookup 216 (Value.map p35) (Value.int IntKind.i64 n32) false) (pnR R) H28 (fun v38 H39 =>
  dA 5 v38 (fun v40 v41 v42 v43 v44 =>
  al H39 (Obj.cells #[Value.int IntKind.i64 0, Value.int IntKind.i64 0, Value.int IntKind.i64 0, Value.slice none 0 0, Value.slice none 0 0] 220) (fun r45 H46 =>
  st H46 (Addr.mk r45 0 none) v40 (fun H47 =>
  st H47 (Addr.mk r45 1 none) v41 (fun H48 =>
  st H48 (Addr.mk r45 2 none) v42 (fun H49 =>
  st H49 (Addr.mk r45 3 none) v43 (fun H50 =>
  st H50 (Addr.mk r45 4 none) v44 (fun H51 =>
  ld H51 (Addr.mk r45 2 none) (fun v52 =>
  dInt IntKind.i64 v52 (fun n53 =>
  ask ((0 : Int) ≤ n53 ∧ n53 ≤ (↑r4 : Int) ∧ (↑r4 : Int) ≤ (↑r5 : Int) ∧ (↑r5 : Int) ≤ (↑r5 : Int)) (ld H51 (Addr.mk r45 3 none) (fun v54 =>
  dSl v54 (fun p55 r56 r57 =>
  semW Tryz.prog (Builtin.copy_ #[85, 85] 3 #[Value.slice (slO p3 1 n53 (↑r5 : Int)) (Int.toNat (↑r4 : Int) - Int.toNat n53) (Int.toNat (↑r5 : Int) - Int.toNat n53), Value.slice p55 r56 r57]) nopR H51 (fun v60 H61 =>
  dInt IntKind.i64 v60 (fun n62 =>
  wr IntKind.i64 (n8 + 1) (fun n63 =>
  (I6 ([Value.int IntKind.i64 n63]) H61) ∧
  (I7 [Value.int IntKind.i64 n63] H61) < (I7 [Value.int IntKind.i64 n8] H28))))))))))))))))))))))))) (R (Ending.returned (Value.slice p3 r4 r5)) H28))) (pnR R))
theorem F169_eq (x0 : Option Addr) (x1a : Option Addr) (x1n : Nat) (x1c : Nat) (x2a : Option Addr) (x2n : Nat) (x2c : Nat) (R : Ending → Heap → Prop) (H : Heap) : F169 x0 x1a x1n x1c x2a x2n x2c R H = vc Tryz.prog (codeOf Tryz.f169) (.node none .leaf (.node none .leaf (.node none (.node none .leaf (.node none (.node (some ⟨[(15, 3)], [9, 10, 16, 17, 18, 19, 20, 21, 22, 23, 24, 25, 26, 27, 28, 29, 30, 31, 32]⟩) .leaf .leaf) .leaf)) .leaf))) (postV Tryz.prog Tryz.f169 R) ⟨#[Value.pointer x0, Value.slice x1a x1n x1c, Value.slice x2a x2n x2c] ++ Array.replicate (Tryz.f169.ntmps - 3) undef, []⟩ H := by kernel_rfl
theorem F169_calls {R : Ending → Heap → Prop} {H : Heap} (x0 : Option Addr) (x1a : Option Addr) (x1n : Nat) (x1c : Nat) (x2a : Option Addr) (x2n : Nat) (x2c : Nat) (h : F169 x0 x1a x1n x1c x2a x2n x2c R H) : HCalls Tryz.prog 169 #[Value.pointer x0, Value.slice x1a x1n x1c, Value.slice x2a x2n x2c] H R :=
  calls_by (F := F169 x0 x1a x1n x1c x2a x2n x2c R H) (.node none .leaf (.node none .leaf (.node none (.node none .leaf (.node none (.node (some ⟨[(15, 3)], [9, 10, 16, 17, 18, 19, 20, 21, 22, 23, 24, 25, 26, 27, 28, 29, 30, 31, 32]⟩) .leaf .leaf) .leaf)) .leaf))) Tryz.func169 rfl (F169_eq x0 x1a x1n x1c x2a x2n x2c R H) h
/-- (*bollard/patch.Set).Of -/
def F170 (x0 : Option Addr) (x1 : Int) (R : Ending → Heap → Prop) (H : Heap) : Prop :=
  al H (Obj.cells #[Value.pointer x0] 70) (fun r1 H2 =>
  al H2 (Obj.cells #[Value.int IntKind.i64 x1] 3) (fun r3 H4 =>
  ld H4 (Addr.mk r1 0 none) (fun v5 =>
  dPtr v5 (fun p6 =>
  HCalls Tryz.prog 134 #[Value.pointer p6] H4 (Sp.retK (fun v7 H8 =>
  dBl v7 (fun b9 =>
  sB (!b9) (R (Ending.returned (Value.slice none 0 0)) H8) (ld H8 (Addr.mk r1 0 none) (fun v10 =>
  dPtr v10 (fun p11 =>
  HCalls Tryz.prog 192 #[Value.pointer p11] H8 (Sp.retK (fun v12 H13 =>
  dSl v12 (fun p14 r15 r16 =>
  HCalls Tryz.prog 191 #[Value.slice p14 r15 r16, Value.func (Fn.func 193) #[] #[Value.pointer (some (Addr.mk r1 0 none)), Value.pointer (some (Addr.mk r3 0 none))]] H13 (Sp.retK (fun v17 H18 =>
  dSl v17 (fun p19 r20 r21 =>
  R (Ending.returned (Value.slice p19 r20 r21)) H18)) (pnR R)))) (pnR R))))))) (pnR R))))))
theorem F170_eq (x0 : Option Addr) (x1 : Int) (R : Ending → Heap → Prop) (H : Heap) : F170 x0 x1 R H = vc Tryz.prog (codeOf Tryz.f170) .leaf (postV Tryz.prog Tryz.f170 R) ⟨#[Value.pointer x0, Value.int IntKind.i64 x1] ++ Array.replicate (Tryz.f170.ntmps - 2) undef, []⟩ H := by kernel_rfl
theorem F170_calls {R : Ending → Heap → Prop} {H : Heap} (x0 : Option Addr) (x1 : Int) (h : F170 x0 x1 R H) : HCalls Tryz.prog 170 #[Value.pointer x0, Value.int IntKind.i64 x1] H R :=
  calls_by (F := F170 x0 x1 R H) .leaf Tryz.func170 rfl (F170_eq x0 x1 R H) h
/-- bollard/word.there -/
def F171 (x0a : Option Addr) (x0n : Nat) (x0c : Nat) (x1 : Int) (x2 : Int) (R : Ending → Heap → Prop) (H : Heap) : Prop :=
  jn (α := VFH 1) (fun v1 H2 =>
  ∀ v3 v4 v5 v6 v7 v8 v9 v10 v11 v12 : Value,
  dBl v1 (fun b13 =>
  sB b13 (R (Ending.returned (Value.int IntKind.i64 1)) H2) (jn (α := VFH 1) (fun v14 H15 =>
  ∀ v16 v17 v18 v19 v20 v21 v22 v23 v24 v25 v26 v27 : Value,
  dBl v14 (fun b28 =>
  sB b28 (R (Ending.returned (Value.int IntKind.i64 10)) H15) (R (Ending.returned (Value.int IntKind.i64 0)) H15))) (fun k29 =>
  sB (decide (x1 > (↑x0n : Int))) (k29 (Value.bool true) H2) (wr IntKind.i64 ((↑x0n : Int) - x1) (fun n30 =>
  k29 (Value.bool (decide (x2 > n30))) H2)))))) (fun k31 =>
  sB (decide (x2 < 1)) (k31 (Value.bool true) H) (sB (decide (x2 > 4)) (k31 (Value.bool true) H) (k31 (Value.bool (decide (x1 < 0))) H)))
theorem F171_eq (x0a : Option Addr) (x0n : Nat) (x0c : Nat) (x1 : Int) (x2 : Int) (R : Ending → Heap → Prop) (H : Heap) : F171 x0a x0n x0c x1 x2 R H = vc Tryz.prog (codeOf Tryz.f171) (.node none .leaf (.node none (.node none (.node (some ⟨[(7, 4)], [8, 9, 10, 11, 12, 13, 14, 15, 16, 17]⟩) .leaf (.node none .leaf (.node (some ⟨[(18, 4)], [19, 20, 21, 22, 23, 24, 25, 26, 27, 28, 29, 30]⟩) .leaf .leaf))) .leaf) .leaf)) (postV Tryz.prog Tryz.f171 R) ⟨#[Value.slice x0a x0n x0c, Value.int IntKind.i64 x1, Value.int IntKind.i64 x2] ++ Array.replicate (Tryz.f171.ntmps - 3) undef, []⟩ H := by kernel_rfl
theorem F171_calls {R : Ending → Heap → Prop} {H : Heap} (x0a : Option Addr) (x0n : Nat) (x0c : Nat) (x1 : Int) (x2 : Int) (h : F171 x0a x0n x0c x1 x2 R H) : HCalls Tryz.prog 171 #[Value.slice x0a x0n x0c, Value.int IntKind.i64 x1, Value.int IntKind.i64 x2] H R :=
  calls_by (F := F171 x0a x0n x0c x1 x2 R H) (.node none .leaf (.node none (.node none (.node (some ⟨[(7, 4)], [8, 9, 10, 11, 12, 13, 14, 15, 16, 17]⟩) .leaf (.node none .leaf (.node (some ⟨[(18, 4)], [19, 20, 21, 22, 23, 24, 25, 26, 27, 28, 29, 30]⟩) .leaf .leaf))) .leaf) .leaf)) Tryz.func171 rfl (F171_eq x0a x0n x0c x1 x2 R H) h
/-- slices.IndexFunc[[]int,int] -/
def F173 (x0a : Option Addr) (x0n : Nat) (x0c : Nat) (x1g : Nat) (x1f : Array Value) (x1c : Array Value) (R : Ending → Heap → Prop) (H : Heap) : Prop :=
  ∃ I1 : List Value → Heap → Prop,
  ∃ I2 : List Value → Heap → Nat,
  (I1 ([Value.int IntKind.i64 0]) H) ∧
  ∀ n3 : Int,
  ∀ v4 v5 v6 v7 v8 v9 v10 v11 v12 v13 v14 v15 : Value,
  ∀ H16 : Heap,
  (I1 ([Value.int IntKind.i64 n3]) H16) →
  sB (decide (n3 < (↑x0n : Int))) (nz x0a (fun a18 =>
  ask ((0 : Int) ≤ n3 ∧ n3 < (↑x0n : Int)) (ld H16 (Addr.add a18 (Int.toNat n3 * 1)) (fun v19 =>
  dInt IntKind.i64 v19 (fun n20 =>
  gB (plainFn Tryz.prog x1g) (HCalls Tryz.prog x1g (argsOf x1f [Value.int IntKind.i64 n20] x1c) H16 (Sp.retK (fun v21 H22 =>
  dBl v21 (fun b23 =>
  sB b23 (R (Ending.returned (Value.int IntKind.i64 n3)) H22) (wr IntKind.i64 (n3 + 1) (fun n24 =>
  (I1 ([Value.int IntKind.i64 n24]) H22) ∧
  (I2 [Value.int IntKind.i64 n24] H22) < (I2 [Value.int IntKind.i64 n3] H16))))) (pnR R)))))))) (R (Ending.returned (Value.int IntKind.i64 (-1))) H16)
theorem F173_eq (x0a : Option Addr) (x0n : Nat) (x0c : Nat) (x1g : Nat) (x1f : Array Value) (x1c : Array Value) (R : Ending → Heap → Prop) (H : Heap) : F173 x0a x0n x0c x1g x1f x1c R H = vc Tryz.prog (codeOf Tryz.f173) (.node none .leaf (.node none (.node none .leaf (.node none (.node (some ⟨[(8, 3)], [4, 5, 9, 10, 11, 12, 13, 14, 15, 16, 17, 18]⟩) .leaf .leaf) .leaf)) .leaf)) (postV Tryz.prog Tryz.f173 R) ⟨#[Value.slice x0a x0n x0c, Value.func (Fn.func x1g) x1f x1c] ++ Array.replicate (Tryz.f173.ntmps - 2) undef, []⟩ H := by kernel_rfl
theorem F173_calls {R : Ending → Heap → Prop} {H : Heap} (x0a : Option Addr) (x0n : Nat) (x0c : Nat) (x1g : Nat) (x1f : Array Value) (x1c : Array Value) (h : F173 x0a x0n x0c x1g x1f x1c R H) : HCalls Tryz.prog 173 #[Value.slice x0a x0n x0c, Value.func (Fn.func x1g) x1f x1c] H R :=
  calls_by (F := F173 x0a x0n x0c x1g x1f x1c R H) (.node none .leaf (.node none (.node none .leaf (.node none (.node (some ⟨[(8, 3)], [4, 5, 9, 10, 11, 12, 13, 14, 15, 16, 17, 18]⟩) .leaf .leaf) .leaf)) .leaf)) Tryz.func173 rfl (F173_eq x0a x0n x0c x1g x1f x1c R H) h
/-- slices.Compact[[]int,int] -/
def F175 (x0a : Option Addr) (x0n : Nat) (x0c : Nat) (R : Ending → Heap → Prop) (H : Heap) : Prop :=
  sB (decide ((↑x0n : Int) < 2)) (R (Ending.returned (Value.slice x0a x0n x0c)) H) (∃ I1 : List Value → Heap → Prop,
  ∃ I2 : List Value → Heap → Nat,
  (I1 ([Value.int IntKind.i64 1]) H) ∧
  ∀ n3 : Int,
  ∀ v4 v5 v6 v7 v8 v9 v10 v11 v12 v13 v14 v15 v16 v17 v18 v19 v20 v21 v22 v23 v24 v25 v26 v27 v28 v29 v30 v31 v32 v33 v34 v35 v36 v37 v38 v39 v40 v41 v42 v43 v44 v45 v46 v47 v48 v49 v50 v51 v52 v53 v54 v55 v56 : Value,
  ∀ H57 : Heap,
  (I1 ([Value.int IntKind.i64 n3]) H57) →
  sB (decide (n3 < (↑x0n : Int))) (nz x0a (fun a59 =>
  ask ((0 : Int) ≤ n3 ∧ n3 < (↑x0n : Int)) (ld H57 (Addr.add a59 (Int.toNat n3 * 1)) (fun v60 =>
  dInt IntKind.i64 v60 (fun n61 =>
  wr IntKind.i64 (n3 - 1) (fun n62 =>
  nz x0a (fun a63 =>
  ask ((0 : Int) ≤ n62 ∧ n62 < (↑x0n : Int)) (ld H57 (Addr.add a63 (Int.toNat n62 * 1)) (fun v64 =>
  dInt IntKind.i64 v64 (fun n65 =>
  sB (n61 == n65) (ask ((0 : Int) ≤ n3 ∧ n3 ≤ (↑x0n : Int) ∧ (↑x0n : Int) ≤ (↑x0c : Int) ∧ (↑x0c : Int) ≤ (↑x0c : Int)) (∃ I66 : List Value → Heap → Prop,
  ∃ I67 : List Value → Heap → Nat,
  (I66 ([Value.int IntKind.i64 n3, Value.int IntKind.i64 1]) H57) ∧
  ∀ n68 : Int,
  ∀ n69 : Int,
  ∀ v70 v71 v72 v73 v74 v75 v76 v77 v78 v79 v80 v81 v82 v83 v84 v85 v86 v87 v88 v89 v90 v91 v92 v93 v94 : Value,
  ∀ H95 : Heap,
  (I66 ([Value.int IntKind.i64 n68, Value.int IntKind.i64 n69]) H95) →
  sB (decide (n69 < (↑(Int.toNat (↑x0n : Int) - Int.toNat n3) : Int))) (jn (α := VFH 1) (fun v97 H98 =>
  ∀ v99 v100 v101 v102 v103 v104 v105 v106 v107 v108 v109 v110 v111 v112 v113 v114 v115 v116 v117 : Value,
  dInt IntKind.i64 v97 (fun n118 =>
  wr IntKind.i64 (n69 + 1) (fun n119 =>
  (I66 ([Value.int IntKind.i64 n118, Value.int IntKind.i64 n119]) H98) ∧
  (I67 [Value.int IntKind.i64 n118, Value.int IntKind.i64 n119] H98) < (I67 [Value.int IntKind.i64 n68, Value.int IntKind.i64 n69] H95)))) (fun k120 =>
  nz (slO x0a 1 n3 (↑x0c : Int)) (fun a121 =>
  ask ((0 : Int) ≤ n69 ∧ n69 < (↑(Int.toNat (↑x0n : Int) - Int.toNat n3) : Int)) (ld H95 (Addr.add a121 (Int.toNat n69 * 1)) (fun v122 =>
  dInt IntKind.i64 v122 (fun n123 =>
  wr IntKind.i64 (n69 - 1) (fun n124 =>
  nz (slO x0a 1 n3 (↑x0c : Int)) (fun a125 =>
  ask ((0 : Int) ≤ n124 ∧ n124 < (↑(Int.toNat (↑x0n : Int) - Int.toNat n3) : Int)) (ld H95 (Addr.add a125 (Int.toNat n124 * 1)) (fun v126 =>
  dInt IntKind.i64 v126 (fun n127 =>
  sB (n123 != n127) (nz (slO x0a 1 n3 (↑x0c : Int)) (fun a128 =>
  ask ((0 : Int) ≤ n69 ∧ n69 < (↑(Int.toNat (↑x0n : Int) - Int.toNat n3) : Int)) (ld H95 (Addr.add a128 (Int.toNat n69 * 1)) (fun v129 =>
  dInt IntKind.i64 v129 (fun n130 =>
  nz x0a (fun a131 =>
  ask ((0 : Int) ≤ n68 ∧ n68 < (↑x0n : Int)) (st H95 (Addr.add a131 (Int.toNat n68 * 1)) (Value.int IntKind.i64 n130) (fun H132 =>
  wr IntKind.i64 (n68 + 1) (fun n133 =>
  k120 (Value.int IntKind.i64 n133) H132))))))))) (k120 (Value.int IntKind.i64 n68) H95)))))))))))) (ask ((0 : Int) ≤ n68 ∧ n68 ≤ (↑x0n : Int) ∧ (↑x0n : Int) ≤ (↑x0c : Int) ∧ (↑x0c : Int) ≤ (↑x0c : Int)) (semW Tryz.prog (Builtin.clear_ #[45] 0 #[Value.slice (slO x0a 1 n68 (↑x0c : Int)) (Int.toNat (↑x0n : Int) - Int.toNat n68) (Int.toNat (↑x0c : Int) - Int.toNat n68)]) (pnR R) H95 (fun v136 H137 =>
  ask ((0 : Int) ≤ (0 : Int) ∧ (0 : Int) ≤ n68 ∧ n68 ≤ (↑x0c : Int) ∧ (↑x0c : Int) ≤ (↑x0c : Int)) (R (Ending.returned (Value.slice (slO x0a 1 0 (↑x0c : Int)) (Int.toNat n68 - Int.toNat 0) (Int.toNat (↑x0c : Int) - Int.toNat 0))) H137)))))) (wr IntKind.i64 (n3 + 1) (fun n138 =>
  (I1 ([Value.int IntKind.i64 n138]) H57) ∧
  (I2 [Value.int IntKind.i64 n138] H57) < (I2 [Value.int IntKind.i64 n3] H57))))))))))))) (R (Ending.returned (Value.slice x0a x0n x0c)) H57))
theorem F175_eq (x0a : Option Addr) (x0n : Nat) (x0c : Nat) (R : Ending → Heap → Prop) (H : Heap) : F175 x0a x0n x0c R H = vc Tryz.prog (codeOf Tryz.f175) (.node none .leaf (.node none .leaf (.node none (.node none .leaf (.node none (.node (some ⟨[(3, 3)], [2, 4, 5, 10, 11, 12, 13, 14, 15, 16, 17, 18, 19, 20, 21, 22, 23, 24, 25, 26, 27, 28, 29, 30, 31, 32, 33, 34, 35, 36, 37, 38, 39, 40, 41, 42, 43, 44, 45, 46, 47, 48, 49, 50, 51, 52, 53, 54, 55, 56, 57, 58, 59]⟩) (.node none .leaf (.node none (.node none (.node none .leaf (.node none (.node none .leaf (.node none (.node none .leaf (.node none (.node (some ⟨[(3, 3), (5, 3)], [29, 30, 31, 32, 33, 34, 35, 36, 37, 38, 39, 40, 41, 42, 43, 44, 45, 46, 47, 48, 49, 50, 51, 52, 53]⟩) (.node none .leaf (.node (some ⟨[(3, 3)], [35, 36, 37, 38, 39, 40, 41, 42, 43, 44, 45, 46, 47, 48, 49, 50, 51, 52, 53]⟩) .leaf .leaf)) .leaf) .leaf)) .leaf)) .leaf)) .leaf) .leaf)) .leaf) .leaf)) .leaf))) (postV Tryz.prog Tryz.f175 R) ⟨#[Value.slice x0a x0n x0c] ++ Array.replicate (Tryz.f175.ntmps - 1) undef, []⟩ H := by kernel_rfl
theorem F175_calls {R : Ending → Heap → Prop} {H : Heap} (x0a : Option Addr) (x0n : Nat) (x0c : Nat) (h : F175 x0a x0n x0c R H) : HCalls Tryz.prog 175 #[Value.slice x0a x0n x0c] H R :=
  calls_by (F := F175 x0a x0n x0c R H) (.node none .leaf (.node none .leaf (.node none (.node none .leaf (.node none (.node (some ⟨[(3, 3)], [2, 4, 5, 10, 11, 12, 13, 14, 15, 16, 17, 18, 19, 20, 21, 22, 23, 24, 25, 26, 27, 28, 29, 30, 31, 32, 33, 34, 35, 36, 37, 38, 39, 40, 41, 42, 43, 44, 45, 46, 47, 48, 49, 50, 51, 52, 53, 54, 55, 56, 57, 58, 59]⟩) (.node none .leaf (.node none (.node none (.node none .leaf (.node none (.node none .leaf (.node none (.node none .leaf (.node none (.node (some ⟨[(3, 3), (5, 3)], [29, 30, 31, 32, 33, 34, 35, 36, 37, 38, 39, 40, 41, 42, 43, 44, 45, 46, 47, 48, 49, 50, 51, 52, 53]⟩) (.node none .leaf (.node (some ⟨[(3, 3)], [35, 36, 37, 38, 39, 40, 41, 42, 43, 44, 45, 46, 47, 48, 49, 50, 51, 52, 53]⟩) .leaf .leaf)) .leaf) .leaf)) .leaf)) .leaf)) .leaf) .leaf)) .leaf) .leaf)) .leaf))) Tryz.func175 rfl (F175_eq x0a x0n x0c R H) h
end Go.Proofs.YtklppdodadkcnaaGreat.E
/- The functions' forms in the engine's words, printed by my own program. -/
namespace Go.Proofs.YtklppdodadkcnaaGreat.E
open Go Go.Proofs
set_option linter.unusedVariables false
set_option maxRecDepth 100000
/-- (*bollard/cache.Cache).look -/
def F189 (x0 : Option Addr) (x1 : Int) (R : Ending → Heap → Prop) (H : Heap) : Prop :=
  jn (α := VFH 1) (fun v1 H2 =>
  ∀ v3 v4 v5 v6 v7 v8 v9 v10 : Value,
  dBl v1 (fun b11 =>
  sB b11 (R (Ending.returned (Value.int IntKind.i64 2)) H2) (jn (α := VFH 1) (fun v12 H13 =>
  ∀ v14 v15 v16 v17 v18 v19 v20 v21 v22 v23 : Value,
  dBl v12 (fun b24 =>
  sB b24 (R (Ending.returned (Value.int IntKind.i64 1)) H13) (R (Ending.returned (Value.int IntKind.i64 0)) H13))) (fun k25 =>
  sB (decide (x1 < 0)) (k25 (Value.bool true) H2) (nz x0 (fun a26 =>
  ld H2 a26 (fun v27 =>
  dPtr v27 (fun p28 =>
  HCalls Tryz.prog 89 #[Value.pointer p28] H2 (Sp.retK (fun v29 H30 =>
  dInt IntKind.i64 v29 (fun n31 =>
  k25 (Value.bool (decide (x1 ≥ n31))) H30)) (pnR R)))))))))) (fun k34 =>
  sB (Option.isNone x0) (k34 (Value.bool true) H) (nz x0 (fun a35 =>
  ld H (Addr.add a35 2) (fun v36 =>
  dMap v36 (fun p37 =>
  k34 (Value.bool (Option.isNone p37)) H)))))
theorem F189_eq (x0 : Option Addr) (x1 : Int) (R : Ending → Heap → Prop) (H : Heap) : F189 x0 x1 R H = vc Tryz.prog (codeOf Tryz.f189) (.node none .leaf (.node none (.node (some ⟨[(13, 4)], [5, 6, 7, 8, 9, 10, 11, 12]⟩) .leaf .leaf) (.node none (.node (some ⟨[(24, 4)], [14, 15, 16, 17, 18, 19, 20, 21, 22, 23]⟩) .leaf .leaf) .leaf))) (postV Tryz.prog Tryz.f189 R) ⟨#[Value.pointer x0, Value.int IntKind.i64 x1] ++ Array.replicate (Tryz.f189.ntmps - 2) undef, []⟩ H := by kernel_rfl
theorem F189_calls {R : Ending → Heap → Prop} {H : Heap} (x0 : Option Addr) (x1 : Int) (h : F189 x0 x1 R H) : HCalls Tryz.prog 189 #[Value.pointer x0, Value.int IntKind.i64 x1] H R :=
  calls_by (F := F189 x0 x1 R H) (.node none .leaf (.node none (.node (some ⟨[(13, 4)], [5, 6, 7, 8, 9, 10, 11, 12]⟩) .leaf .leaf) (.node none (.node (some ⟨[(24, 4)], [14, 15, 16, 17, 18, 19, 20, 21, 22, 23]⟩) .leaf .leaf) .leaf))) Tryz.func189 rfl (F189_eq x0 x1 R H) h
/-- (*bollard/cache.Cache).load -/
def F190 (x0 : Option Addr) (x1 : Int) (R : Ending → Heap → Prop) (H : Heap) : Prop :=
  nz x0 (fun a1 =>
  ld H (Addr.add a1 2) (fun v2 =>
  dMap v2 (fun p3 =>
  nz x0 (fun a4 =>
  ld H (Addr.add a4 1) (fun v5 =>
  dInt IntKind.i64 v5 (fun n6 =>
  semW Tryz.prog (Builtin.len_ #[232] 3 #[Value.map p3]) nopR H (fun v9 H10 =>
  dInt IntKind.i64 v9 (fun n11 =>
  (ld H10 (Addr.add a4 1) (fun v12 =>
  dInt IntKind.i64 v12 (fun n13 =>
  (Value.int IntKind.i64 n13) = (Value.int IntKind.i64 n6)))) ∧
  HCalls Tryz.prog 202 #[Value.pointer x0] H10 (Sp.retK (fun v14 H15 =>
  dT 2 v14 (fun v16 v17 =>
  dInt IntKind.i64 v16 (fun n18 =>
  dBl v17 (fun b19 =>
  jn (α := VFH 1) (fun v20 H21 =>
  ∀ v22 v23 v24 v25 : Value,
  dBl v20 (fun b26 =>
  sB b26 (R (Ending.returned (Value.tuple #[Value.pointer none, Value.int IntKind.i64 60])) H21) (nz x0 (fun a27 =>
  ld H21 a27 (fun v28 =>
  dPtr v28 (fun p29 =>
  HCalls Tryz.prog 203 #[Value.pointer p29, Value.int IntKind.i64 x1] H21 (Sp.retK (fun v30 H31 =>
  dT 2 v30 (fun v32 v33 =>
  dSl v32 (fun p34 r35 r36 =>
  dInt IntKind.i64 v33 (fun n37 =>
  sB (n37 != 0) (R (Ending.returned (Value.tuple #[Value.pointer none, Value.int IntKind.i64 n37])) H31) (jn (α := VFH 0) (fun H38 =>
  ∀ v39 v40 v41 v42 v43 v44 : Value,
  nz x0 (fun a45 =>
  ld H38 (Addr.add a45 2) (fun v46 =>
  dMap v46 (fun p47 =>
  al H38 (Obj.cells #[Value.slice p34 r35 r36, Value.int IntKind.i64 0, Value.int IntKind.i64 0] 248) (fun r48 H49 =>
  semW Tryz.prog (Instr.mapUpdate 232 (Value.map p47) (Value.int IntKind.i64 x1) (Value.pointer (some (Addr.mk r48 0 none)))) (pnR R) H49 (fun x52 H53 =>
  nz x0 (fun a54 =>
  ld H53 (Addr.add a54 2) (fun v55 =>
  dMap v55 (fun p56 =>
  semW Tryz.prog (Instr.lookup 232 (Value.map p56) (Value.int IntKind.i64 x1) false) (pnR R) H53 (fun v59 H60 =>
  dPtr v59 (fun p61 =>
  R (Ending.returned (Value.tuple #[Value.pointer p61, Value.int IntKind.i64 0])) H60))))))))))) (fun k62 =>
  sB (decide (n11 ≥ n6)) (nz x0 (fun a63 =>
  ld H31 (Addr.add a63 2) (fun v64 =>
  dMap v64 (fun p65 =>
  semW Tryz.prog (Builtin.delete_ #[232, 3] 0 #[Value.map p65, Value.int IntKind.i64 n18]) (pnR R) H31 (fun v68 H69 =>
  k62 H69))))) (k62 H31))))))) (pnR R)))))))) (fun k72 =>
  sB (decide (n11 ≥ n6)) (k72 (Value.bool !b19) H15) (k72 (Value.bool false) H15)))))) (pnR R))))))))))
theorem F190_eq (x0 : Option Addr) (x1 : Int) (R : Ending → Heap → Prop) (H : Heap) : F190 x0 x1 R H = vc Tryz.prog (codeOf Tryz.f190) (.node none .leaf (.node none .leaf (.node none .leaf (.node none (.node (some ⟨[(30, 4)], [26, 27, 28, 29]⟩) .leaf .leaf) (.node none .leaf (.node none .leaf (.node (some ⟨[], [43, 44, 45, 46, 47, 48]⟩) .leaf .leaf))))))) (postV Tryz.prog Tryz.f190 R) ⟨#[Value.pointer x0, Value.int IntKind.i64 x1] ++ Array.replicate (Tryz.f190.ntmps - 2) undef, []⟩ H := by kernel_rfl
theorem F190_calls {R : Ending → Heap → Prop} {H : Heap} (x0 : Option Addr) (x1 : Int) (h : F190 x0 x1 R H) : HCalls Tryz.prog 190 #[Value.pointer x0, Value.int IntKind.i64 x1] H R :=
  calls_by (F := F190 x0 x1 R H) (.node none .leaf (.node none .leaf (.node none .leaf (.node none (.node (some ⟨[(30, 4)], [26, 27, 28, 29]⟩) .leaf .leaf) (.node none .leaf (.node none .leaf (.node (some ⟨[], [43, 44, 45, 46, 47, 48]⟩) .leaf .leaf))))))) Tryz.func190 rfl (F190_eq x0 x1 R H) h
/-- slices.DeleteFunc[[]int,int] -/
def F191 (x0a : Option Addr) (x0n : Nat) (x0c : Nat) (x1g : Nat) (x1f : Array Value) (x1c : Array Value) (R : Ending → Heap → Prop) (H : Heap) : Prop :=
  HCalls Tryz.prog 173 #[Value.slice x0a x0n x0c, Value.func (Fn.func x1g) x1f x1c] H (Sp.retK (fun v1 H2 =>
  dInt IntKind.i64 v1 (fun n3 =>
  sB (n3 == -1) (R (Ending.returned (Value.slice x0a x0n x0c)) H2) (wr IntKind.i64 (n3 + 1) (fun n4 =>
  ∃ I5 : List Value → Heap → Prop,
  ∃ I6 : List Value → Heap → Nat,
  (I5 ([Value.int IntKind.i64 n3, Value.int IntKind.i64 n4]) H2) ∧
  ∀ n7 : Int,
  ∀ n8 : Int,
  ∀ v9 v10 v11 v12 v13 v14 v15 v16 v17 v18 v19 v20 v21 v22 v23 v24 v25 v26 v27 v28 v29 : Value,
  ∀ H30 : Heap,
  (I5 ([Value.int IntKind.i64 n7, Value.int IntKind.i64 n8]) H30) →
  sB (decide (n8 < (↑x0n : Int))) (jn (α := VFH 1) (fun v32 H33 =>
  ∀ v34 v35 v36 v37 v38 v39 v40 v41 v42 v43 v44 v45 v46 v47 v48 : Value,
  dInt IntKind.i64 v32 (fun n49 =>
  wr IntKind.i64 (n8 + 1) (fun n50 =>
  (I5 ([Value.int IntKind.i64 n49, Value.int IntKind.i64 n50]) H33) ∧
  (I6 [Value.int IntKind.i64 n49, Value.int IntKind.i64 n50] H33) < (I6 [Value.int IntKind.i64 n7, Value.int IntKind.i64 n8] H30)))) (fun k51 =>
  nz x0a (fun a52 =>
  ask ((0 : Int) ≤ n8 ∧ n8 < (↑x0n : Int)) (ld H30 (Addr.add a52 (Int.toNat n8 * 1)) (fun v53 =>
  dInt IntKind.i64 v53 (fun n54 =>
  gB (plainFn Tryz.prog x1g) (HCalls Tryz.prog x1g (argsOf x1f [Value.int IntKind.i64 n54] x1c) H30 (Sp.retK (fun v55 H56 =>
  dBl v55 (fun b57 =>
  sB (!b57) (nz x0a (fun a58 =>
  ask ((0 : Int) ≤ n7 ∧ n7 < (↑x0n : Int)) (st H56 (Addr.add a58 (Int.toNat n7 * 1)) (Value.int IntKind.i64 n54) (fun H59 =>
  wr IntKind.i64 (n7 + 1) (fun n60 =>
  k51 (Value.int IntKind.i64 n60) H59))))) (k51 (Value.int IntKind.i64 n7) H56))) (pnR R))))))))) (ask ((0 : Int) ≤ n7 ∧ n7 ≤ (↑x0n : Int) ∧ (↑x0n : Int) ≤ (↑x0c : Int) ∧ (↑x0c : Int) ≤ (↑x0c : Int)) (semW Tryz.prog (Builtin.clear_ #[45] 0 #[Value.slice (slO x0a 1 n7 (↑x0c : Int)) (Int.toNat (↑x0n : Int) - Int.toNat n7) (Int.toNat (↑x0c : Int) - Int.toNat n7)]) (pnR R) H30 (fun v65 H66 =>
  ask ((0 : Int) ≤ (0 : Int) ∧ (0 : Int) ≤ n7 ∧ n7 ≤ (↑x0c : Int) ∧ (↑x0c : Int) ≤ (↑x0c : Int)) (R (Ending.returned (Value.slice (slO x0a 1 0 (↑x0c : Int)) (Int.toNat n7 - Int.toNat 0) (Int.toNat (↑x0c : Int) - Int.toNat 0))) H66)))))))) (pnR R))
theorem F191_eq (x0a : Option Addr) (x0n : Nat) (x0c : Nat) (x1g : Nat) (x1f : Array Value) (x1c : Array Value) (R : Ending → Heap → Prop) (H : Heap) : F191 x0a x0n x0c x1g x1f x1c R H = vc Tryz.prog (codeOf Tryz.f191) (.node none .leaf (.node none .leaf (.node none .leaf (.node none (.node none .leaf (.node none (.node (some ⟨[(5, 3), (6, 3)], [7, 16, 17, 18, 19, 20, 21, 22, 23, 24, 25, 26, 27, 28, 29, 30, 31, 32, 33, 34, 35]⟩) (.node none .leaf (.node (some ⟨[(5, 3)], [7, 22, 23, 24, 25, 26, 27, 28, 29, 30, 31, 32, 33, 34, 35]⟩) .leaf .leaf)) .leaf) .leaf)) .leaf)))) (postV Tryz.prog Tryz.f191 R) ⟨#[Value.slice x0a x0n x0c, Value.func (Fn.func x1g) x1f x1c] ++ Array.replicate (Tryz.f191.ntmps - 2) undef, []⟩ H := by kernel_rfl
theorem F191_calls {R : Ending → Heap → Prop} {H : Heap} (x0a : Option Addr) (x0n : Nat) (x0c : Nat) (x1g : Nat) (x1f : Array Value) (x1c : Array Value) (h : F191 x0a x0n x0c x1g x1f x1c R H) : HCalls Tryz.prog 191 #[Value.slice x0a x0n x0c, Value.func (Fn.func x1g) x1f x1c] H R :=
  calls_by (F := F191 x0a x0n x0c x1g x1f x1c R H) (.node none .leaf (.node none .leaf (.node none .leaf (.node none (.node none .leaf (.node none (.node (some ⟨[(5, 3), (6, 3)], [7, 16, 17, 18, 19, 20, 21, 22, 23, 24, 25, 26, 27, 28, 29, 30, 31, 32, 33, 34, 35]⟩) (.node none .leaf (.node (some ⟨[(5, 3)], [7, 22, 23, 24, 25, 26, 27, 28, 29, 30, 31, 32, 33, 34, 35]⟩) .leaf .leaf)) .leaf) .leaf)) .leaf)))) Tryz.func191 rfl (F191_eq x0a x0n x0c x1g x1f x1c R H) h
/-- (*bollard/patch.Set).all -/
def F192 (x0 : Option Addr) (R : Ending → Heap → Prop) (H : Heap) : Prop :=
  nz x0 (fun a1 =>
  ld H (Addr.add a1 2) (fun v2 =>
  dMap v2 (fun p3 =>
  HCalls Tryz.prog 205 #[Value.map p3] H (Sp.retK (fun v4 H5 =>
  HCalls Tryz.prog 204 #[v4] H5 (Sp.retK (fun v6 H7 =>
  dSl v6 (fun p8 r9 r10 =>
  R (Ending.returned (Value.slice p8 r9 r10)) H7)) (pnR R))) (pnR R)))))
theorem F192_eq (x0 : Option Addr) (R : Ending → Heap → Prop) (H : Heap) : F192 x0 R H = vc Tryz.prog (codeOf Tryz.f192) .leaf (postV Tryz.prog Tryz.f192 R) ⟨#[Value.pointer x0] ++ Array.replicate (Tryz.f192.ntmps - 1) undef, []⟩ H := by kernel_rfl
theorem F192_calls {R : Ending → Heap → Prop} {H : Heap} (x0 : Option Addr) (h : F192 x0 R H) : HCalls Tryz.prog 192 #[Value.pointer x0] H R :=
  calls_by (F := F192 x0 R H) .leaf Tryz.func192 rfl (F192_eq x0 R H) h
/-- (*bollard/patch.Set).Of$1 -/
def F193 (x0 : Int) (f0 : Addr) (f1 : Addr) (R : Ending → Heap → Prop) (H : Heap) : Prop :=
  ld H f0 (fun v1 =>
  dPtr v1 (fun p2 =>
  nz p2 (fun a3 =>
  ld H (Addr.add a3 2) (fun v4 =>
  dMap v4 (fun p5 =>
  ld H f1 (fun v6 =>
  dInt IntKind.i64 v6 (fun n7 =>
  semW Tryz.prog (Instr.lookup 216 (Value.map p5) (Value.int IntKind.i64 x0) false) nopR H (fun v10 H11 =>
  dA 5 v10 (fun v12 v13 v14 v15 v16 =>
  (ld H11 f1 (fun v17 =>
  dInt IntKind.i64 v17 (fun n18 =>
  (Value.int IntKind.i64 n18) = (Value.int IntKind.i64 n7)))) ∧
  dInt IntKind.i64 v13 (fun n19 =>
  R (Ending.returned (Value.bool (n19 != n7))) H11))))))))))
theorem F193_eq (x0 : Int) (f0 : Addr) (f1 : Addr) (R : Ending → Heap → Prop) (H : Heap) : F193 x0 f0 f1 R H = vc Tryz.prog (codeOf Tryz.f193) .leaf (postV Tryz.prog Tryz.f193 R) ⟨#[Value.int IntKind.i64 x0, Value.pointer (some f0), Value.pointer (some f1)] ++ Array.replicate (Tryz.f193.ntmps - 3) undef, []⟩ H := by kernel_rfl
theorem F193_calls {R : Ending → Heap → Prop} {H : Heap} (x0 : Int) (f0 : Addr) (f1 : Addr) (h : F193 x0 f0 f1 R H) : HCalls Tryz.prog 193 #[Value.int IntKind.i64 x0, Value.pointer (some f0), Value.pointer (some f1)] H R :=
  calls_by (F := F193 x0 f0 f1 R H) .leaf Tryz.func193 rfl (F193_eq x0 f0 f1 R H) h
/-- (*bollard/cache.Cache).victim -/
def F202 (x0 : Option Addr) (R : Ending → Heap → Prop) (H : Heap) : Prop :=
  HCalls Tryz.prog 217 #[Value.pointer x0] H (Sp.retK (fun v1 H2 =>
  dSl v1 (fun p3 r4 r5 =>
  ∃ I6 : List Value → Heap → Prop,
  ∃ I7 : List Value → Heap → Nat,
  (I6 ([Value.int IntKind.i64 0]) H2) ∧
  ∀ n8 : Int,
  ∀ v9 v10 v11 v12 v13 v14 v15 v16 v17 v18 v19 v20 v21 v22 v23 v24 v25 v26 : Value,
  ∀ H27 : Heap,
  (I6 ([Value.int IntKind.i64 n8]) H27) →
  sB (decide (n8 < (↑r4 : Int))) (nz p3 (fun a29 =>
  ask ((0 : Int) ≤ n8 ∧ n8 < (↑r4 : Int)) (ld H27 (Addr.add a29 (Int.toNat n8 * 1)) (fun v30 =>
  dInt IntKind.i64 v30 (fun n31 =>
  nz x0 (fun a32 =>
  ld H27 (Addr.add a32 2) (fun v33 =>
  dMap v33 (fun p34 =>
  semW Tryz.prog (Instr.lookup 232 (Value.map p34) (Value.int IntKind.i64 n31) false) (pnR R) H27 (fun v37 H38 =>
  dPtr v37 (fun p39 =>
  nz p39 (fun a40 =>
  ld H38 (Addr.add a40 1) (fun v41 =>
  dInt IntKind.i64 v41 (fun n42 =>
  sB (n42 == 0) (R (Ending.returned (Value.tuple #[Value.int IntKind.i64 n31, Value.bool true])) H38) (wr IntKind.i64 (n8 + 1) (fun n43 =>
  (I6 ([Value.int IntKind.i64 n43]) H38) ∧
  (I7 [Value.int IntKind.i64 n43] H38) < (I7 [Value.int IntKind.i64 n8] H27)))))))))))))))) (R (Ending.returned (Value.tuple #[Value.int IntKind.i64 0, Value.bool false])) H27))) (pnR R))
theorem F202_eq (x0 : Option Addr) (R : Ending → Heap → Prop) (H : Heap) : F202 x0 R H = vc Tryz.prog (codeOf Tryz.f202) (.node none .leaf (.node none (.node none .leaf (.node none (.node (some ⟨[(9, 3)], [2, 3, 5, 10, 11, 12, 13, 14, 15, 16, 17, 18, 19, 20, 21, 22, 23, 24]⟩) .leaf .leaf) .leaf)) .leaf)) (postV Tryz.prog Tryz.f202 R) ⟨#[Value.pointer x0] ++ Array.replicate (Tryz.f202.ntmps - 1) undef, []⟩ H := by kernel_rfl
theorem F202_calls {R : Ending → Heap → Prop} {H : Heap} (x0 : Option Addr) (h : F202 x0 R H) : HCalls Tryz.prog 202 #[Value.pointer x0] H R :=
  calls_by (F := F202 x0 R H) (.node none .leaf (.node none (.node none .leaf (.node none (.node (some ⟨[(9, 3)], [2, 3, 5, 10, 11, 12, 13, 14, 15, 16, 17, 18, 19, 20, 21, 22, 23, 24]⟩) .leaf .leaf) .leaf)) .leaf)) Tryz.func202 rfl (F202_eq x0 R H) h
/-- (*bollard/disk.Disk).Read -/
def F203 (x0 : Option Addr) (x1 : Int) (R : Ending → Heap → Prop) (H : Heap) : Prop :=
  HCalls Tryz.prog 218 #[Value.pointer x0, Value.int IntKind.i64 x1] H (Sp.retK (fun v1 H2 =>
  dInt IntKind.i64 v1 (fun n3 =>
  sB (n3 != 0) (R (Ending.returned (Value.tuple #[Value.slice none 0 0, Value.int IntKind.i64 n3])) H2) (nz x0 (fun a4 =>
  ld H2 (Addr.add a4 2) (fun v5 =>
  dMap v5 (fun p6 =>
  semW Tryz.prog (Instr.lookup 48 (Value.map p6) (Value.int IntKind.i64 x1) false) (pnR R) H2 (fun v9 H10 =>
  dInt IntKind.i64 v9 (fun n11 =>
  sB (decide (n11 > 0)) (nz x0 (fun a12 =>
  ld H10 (Addr.add a12 2) (fun v13 =>
  dMap v13 (fun p14 =>
  semW Tryz.prog (Instr.lookup 48 (Value.map p14) (Value.int IntKind.i64 x1) false) (pnR R) H10 (fun v17 H18 =>
  dInt IntKind.i64 v17 (fun n19 =>
  wr IntKind.i64 (n19 - 1) (fun n20 =>
  semW Tryz.prog (Instr.mapUpdate 48 (Value.map p14) (Value.int IntKind.i64 x1) (Value.int IntKind.i64 n20)) (pnR R) H18 (fun x23 H24 =>
  R (Ending.returned (Value.tuple #[Value.slice none 0 0, Value.int IntKind.i64 4])) H24)))))))) (nz x0 (fun a25 =>
  ld H10 a25 (fun v26 =>
  dSl v26 (fun p27 r28 r29 =>
  nz p27 (fun a30 =>
  ask ((0 : Int) ≤ x1 ∧ x1 < (↑r28 : Int)) (ld H10 (Addr.add a30 (Int.toNat x1 * 1)) (fun v31 =>
  dSl v31 (fun p32 r33 r34 =>
  HCalls Tryz.prog 118 #[Value.slice p32 r33 r34] H10 (Sp.retK (fun v35 H36 =>
  dSl v35 (fun p37 r38 r39 =>
  R (Ending.returned (Value.tuple #[Value.slice p37 r38 r39, Value.int IntKind.i64 0])) H36)) (pnR R)))))))))))))))))) (pnR R))
theorem F203_eq (x0 : Option Addr) (x1 : Int) (R : Ending → Heap → Prop) (H : Heap) : F203 x0 x1 R H = vc Tryz.prog (codeOf Tryz.f203) .leaf (postV Tryz.prog Tryz.f203 R) ⟨#[Value.pointer x0, Value.int IntKind.i64 x1] ++ Array.replicate (Tryz.f203.ntmps - 2) undef, []⟩ H := by kernel_rfl
theorem F203_calls {R : Ending → Heap → Prop} {H : Heap} (x0 : Option Addr) (x1 : Int) (h : F203 x0 x1 R H) : HCalls Tryz.prog 203 #[Value.pointer x0, Value.int IntKind.i64 x1] H R :=
  calls_by (F := F203 x0 x1 R H) .leaf Tryz.func203 rfl (F203_eq x0 x1 R H) h
/-- slices.Sorted[int] -/
def F204 (x0g : Nat) (x0f : Array Value) (x0c : Array Value) (R : Ending → Heap → Prop) (H : Heap) : Prop :=
  HCalls Tryz.prog 219 #[Value.func (Fn.func x0g) x0f x0c] H (Sp.retK (fun v1 H2 =>
  dSl v1 (fun p3 r4 r5 =>
  HCalls Tryz.prog 174 #[Value.slice p3 r4 r5] H2 (Sp.retK (fun v6 H7 =>
  R (Ending.returned (Value.slice p3 r4 r5)) H7) (pnR R)))) (pnR R))
theorem F204_eq (x0g : Nat) (x0f : Array Value) (x0c : Array Value) (R : Ending → Heap → Prop) (H : Heap) : F204 x0g x0f x0c R H = vc Tryz.prog (codeOf Tryz.f204) .leaf (postV Tryz.prog Tryz.f204 R) ⟨#[Value.func (Fn.func x0g) x0f x0c] ++ Array.replicate (Tryz.f204.ntmps - 1) undef, []⟩ H := by kernel_rfl
theorem F204_calls {R : Ending → Heap → Prop} {H : Heap} (x0g : Nat) (x0f : Array Value) (x0c : Array Value) (h : F204 x0g x0f x0c R H) : HCalls Tryz.prog 204 #[Value.func (Fn.func x0g) x0f x0c] H R :=
  calls_by (F := F204 x0g x0f x0c R H) .leaf Tryz.func204 rfl (F204_eq x0g x0f x0c R H) h
/-- maps.Keys[map[int]bollard/api.Patch,int,bollard/api.Patch] -/
def F205 (x0 : Option Nat) (R : Ending → Heap → Prop) (H : Heap) : Prop :=
  al H (Obj.cells #[Value.map x0] 216) (fun r1 H2 =>
  R (Ending.returned (Value.func (Fn.func 220) #[] #[Value.pointer (some (Addr.mk r1 0 none))])) H2)
theorem F205_eq (x0 : Option Nat) (R : Ending → Heap → Prop) (H : Heap) : F205 x0 R H = vc Tryz.prog (codeOf Tryz.f205) .leaf (postV Tryz.prog Tryz.f205 R) ⟨#[Value.map x0] ++ Array.replicate (Tryz.f205.ntmps - 1) undef, []⟩ H := by kernel_rfl
theorem F205_calls {R : Ending → Heap → Prop} {H : Heap} (x0 : Option Nat) (h : F205 x0 R H) : HCalls Tryz.prog 205 #[Value.map x0] H R :=
  calls_by (F := F205 x0 R H) .leaf Tryz.func205 rfl (F205_eq x0 R H) h
end Go.Proofs.YtklppdodadkcnaaGreat.E
/- The functions' forms in the engine's words, printed by my own program. -/
namespace Go.Proofs.YtklppdodadkcnaaGreat.E
open Go Go.Proofs
set_option linter.unusedVariables false
set_option maxRecDepth 100000
/-- (*bollard/cache.Cache).Held -/
def F217 (x0 : Option Addr) (R : Ending → Heap → Prop) (H : Heap) : Prop :=
  al H (Obj.cells #[Value.pointer x0] 69) (fun r1 H2 =>
  ld H2 (Addr.mk r1 0 none) (fun v3 =>
  dPtr v3 (fun p4 =>
  sB (Option.isNone p4) (R (Ending.returned (Value.slice none 0 0)) H2) (ld H2 (Addr.mk r1 0 none) (fun v5 =>
  dPtr v5 (fun p6 =>
  nz p6 (fun a7 =>
  ld H2 (Addr.add a7 2) (fun v8 =>
  dMap v8 (fun p9 =>
  HCalls Tryz.prog 228 #[Value.map p9] H2 (Sp.retK (fun v10 H11 =>
  HCalls Tryz.prog 227 #[v10, Value.func (Fn.func 229) #[] #[Value.pointer (some (Addr.mk r1 0 none))]] H11 (Sp.retK (fun v12 H13 =>
  dSl v12 (fun p14 r15 r16 =>
  R (Ending.returned (Value.slice p14 r15 r16)) H13)) (pnR R))) (pnR R)))))))))))
theorem F217_eq (x0 : Option Addr) (R : Ending → Heap → Prop) (H : Heap) : F217 x0 R H = vc Tryz.prog (codeOf Tryz.f217) .leaf (postV Tryz.prog Tryz.f217 R) ⟨#[Value.pointer x0] ++ Array.replicate (Tryz.f217.ntmps - 1) undef, []⟩ H := by kernel_rfl
theorem F217_calls {R : Ending → Heap → Prop} {H : Heap} (x0 : Option Addr) (h : F217 x0 R H) : HCalls Tryz.prog 217 #[Value.pointer x0] H R :=
  calls_by (F := F217 x0 R H) .leaf Tryz.func217 rfl (F217_eq x0 R H) h
/-- (*bollard/disk.Disk).look -/
def F218 (x0 : Option Addr) (x1 : Int) (R : Ending → Heap → Prop) (H : Heap) : Prop :=
  HCalls Tryz.prog 230 #[Value.pointer x0] H (Sp.retK (fun v1 H2 =>
  dBl v1 (fun b3 =>
  sB (!b3) (R (Ending.returned (Value.int IntKind.i64 2)) H2) (jn (α := VFH 1) (fun v4 H5 =>
  ∀ v6 v7 v8 v9 v10 v11 v12 v13 v14 v15 : Value,
  dBl v4 (fun b16 =>
  sB b16 (R (Ending.returned (Value.int IntKind.i64 1)) H5) (R (Ending.returned (Value.int IntKind.i64 0)) H5))) (fun k17 =>
  sB (decide (x1 < 0)) (k17 (Value.bool true) H2) (nz x0 (fun a18 =>
  ld H2 a18 (fun v19 =>
  dSl v19 (fun p20 r21 r22 =>
  k17 (Value.bool (decide (x1 ≥ (↑r21 : Int)))) H2)))))))) (pnR R))
theorem F218_eq (x0 : Option Addr) (x1 : Int) (R : Ending → Heap → Prop) (H : Heap) : F218 x0 x1 R H = vc Tryz.prog (codeOf Tryz.f218) (.node none .leaf (.node none .leaf (.node none (.node (some ⟨[(18, 4)], [8, 9, 10, 11, 12, 13, 14, 15, 16, 17]⟩) .leaf .leaf) .leaf))) (postV Tryz.prog Tryz.f218 R) ⟨#[Value.pointer x0, Value.int IntKind.i64 x1] ++ Array.replicate (Tryz.f218.ntmps - 2) undef, []⟩ H := by kernel_rfl
theorem F218_calls {R : Ending → Heap → Prop} {H : Heap} (x0 : Option Addr) (x1 : Int) (h : F218 x0 x1 R H) : HCalls Tryz.prog 218 #[Value.pointer x0, Value.int IntKind.i64 x1] H R :=
  calls_by (F := F218 x0 x1 R H) (.node none .leaf (.node none .leaf (.node none (.node (some ⟨[(18, 4)], [8, 9, 10, 11, 12, 13, 14, 15, 16, 17]⟩) .leaf .leaf) .leaf))) Tryz.func218 rfl (F218_eq x0 x1 R H) h
/-- slices.SortedFunc[int] -/
def F227 (x0g : Nat) (x0f : Array Value) (x0c : Array Value) (x1g : Nat) (x1f : Array Value) (x1c : Array Value) (R : Ending → Heap → Prop) (H : Heap) : Prop :=
  HCalls Tryz.prog 219 #[Value.func (Fn.func x0g) x0f x0c] H (Sp.retK (fun v1 H2 =>
  dSl v1 (fun p3 r4 r5 =>
  HCalls Tryz.prog 233 #[Value.slice p3 r4 r5, Value.func (Fn.func x1g) x1f x1c] H2 (Sp.retK (fun v6 H7 =>
  R (Ending.returned (Value.slice p3 r4 r5)) H7) (pnR R)))) (pnR R))
theorem F227_eq (x0g : Nat) (x0f : Array Value) (x0c : Array Value) (x1g : Nat) (x1f : Array Value) (x1c : Array Value) (R : Ending → Heap → Prop) (H : Heap) : F227 x0g x0f x0c x1g x1f x1c R H = vc Tryz.prog (codeOf Tryz.f227) .leaf (postV Tryz.prog Tryz.f227 R) ⟨#[Value.func (Fn.func x0g) x0f x0c, Value.func (Fn.func x1g) x1f x1c] ++ Array.replicate (Tryz.f227.ntmps - 2) undef, []⟩ H := by kernel_rfl
theorem F227_calls {R : Ending → Heap → Prop} {H : Heap} (x0g : Nat) (x0f : Array Value) (x0c : Array Value) (x1g : Nat) (x1f : Array Value) (x1c : Array Value) (h : F227 x0g x0f x0c x1g x1f x1c R H) : HCalls Tryz.prog 227 #[Value.func (Fn.func x0g) x0f x0c, Value.func (Fn.func x1g) x1f x1c] H R :=
  calls_by (F := F227 x0g x0f x0c x1g x1f x1c R H) .leaf Tryz.func227 rfl (F227_eq x0g x0f x0c x1g x1f x1c R H) h
/-- maps.Keys[map[int]*bollard/cache.buffer,int,*bollard/cache.buffer] -/
def F228 (x0 : Option Nat) (R : Ending → Heap → Prop) (H : Heap) : Prop :=
  al H (Obj.cells #[Value.map x0] 232) (fun r1 H2 =>
  R (Ending.returned (Value.func (Fn.func 234) #[] #[Value.pointer (some (Addr.mk r1 0 none))])) H2)
theorem F228_eq (x0 : Option Nat) (R : Ending → Heap → Prop) (H : Heap) : F228 x0 R H = vc Tryz.prog (codeOf Tryz.f228) .leaf (postV Tryz.prog Tryz.f228 R) ⟨#[Value.map x0] ++ Array.replicate (Tryz.f228.ntmps - 1) undef, []⟩ H := by kernel_rfl
theorem F228_calls {R : Ending → Heap → Prop} {H : Heap} (x0 : Option Nat) (h : F228 x0 R H) : HCalls Tryz.prog 228 #[Value.map x0] H R :=
  calls_by (F := F228 x0 R H) .leaf Tryz.func228 rfl (F228_eq x0 R H) h
/-- (*bollard/disk.Disk).made -/
def F230 (x0 : Option Addr) (R : Ending → Heap → Prop) (H : Heap) : Prop :=
  sB (!Option.isNone x0) (nz x0 (fun a1 =>
  ld H a1 (fun v2 =>
  dSl v2 (fun p3 r4 r5 =>
  R (Ending.returned (Value.bool (decide ((↑r4 : Int) > 0)))) H)))) (R (Ending.returned (Value.bool false)) H)
theorem F230_eq (x0 : Option Addr) (R : Ending → Heap → Prop) (H : Heap) : F230 x0 R H = vc Tryz.prog (codeOf Tryz.f230) .leaf (postV Tryz.prog Tryz.f230 R) ⟨#[Value.pointer x0] ++ Array.replicate (Tryz.f230.ntmps - 1) undef, []⟩ H := by kernel_rfl
theorem F230_calls {R : Ending → Heap → Prop} {H : Heap} (x0 : Option Addr) (h : F230 x0 R H) : HCalls Tryz.prog 230 #[Value.pointer x0] H R :=
  calls_by (F := F230 x0 R H) .leaf Tryz.func230 rfl (F230_eq x0 R H) h
end Go.Proofs.YtklppdodadkcnaaGreat.E
/- The functions' forms in the engine's words, printed by my own program. -/
namespace Go.Proofs.YtklppdodadkcnaaGreat.E
open Go Go.Proofs
set_option linter.unusedVariables false
set_option maxRecDepth 100000
/-- (*bollard/disk.Disk).Blocks -/
def F89 (x0 : Option Addr) (R : Ending → Heap → Prop) (H : Heap) : Prop :=
  sB (Option.isNone x0) (R (Ending.returned (Value.int IntKind.i64 0)) H) (nz x0 (fun a1 =>
  ld H a1 (fun v2 =>
  dSl v2 (fun p3 r4 r5 =>
  R (Ending.returned (Value.int IntKind.i64 (↑r4 : Int))) H))))
theorem F89_eq (x0 : Option Addr) (R : Ending → Heap → Prop) (H : Heap) : F89 x0 R H = vc Tryz.prog (codeOf Tryz.f89) .leaf (postV Tryz.prog Tryz.f89 R) ⟨#[Value.pointer x0] ++ Array.replicate (Tryz.f89.ntmps - 1) undef, []⟩ H := by kernel_rfl
theorem F89_calls {R : Ending → Heap → Prop} {H : Heap} (x0 : Option Addr) (h : F89 x0 R H) : HCalls Tryz.prog 89 #[Value.pointer x0] H R :=
  calls_by (F := F89 x0 R H) .leaf Tryz.func89 rfl (F89_eq x0 R H) h
end Go.Proofs.YtklppdodadkcnaaGreat.E
/- Contracts of functions. -/
namespace Go.Proofs.YtklppdodadkcnaaGreat.E
open Go Go.Proofs
set_option linter.unusedVariables false
set_option linter.unusedSimpArgs false
/-- bytes.Clone -/
theorem c_clone (τ : Nat) {xa : Option Addr} {xn : Nat} (xc : Nat) {l : List UInt8} {τx : Nat} {s : TH} (hx : Sl s xa (bvs l) τx) (hn : l.length = xn) (h0 : xa = none → xn = 0) (hb : xn ≤ 1000000000) : TRet Tryz.prog 118 #[.slice xa xn xc] s fun v s' => ∃ a' c', v = .slice a' xn c' ∧ Ch [] s s' ∧ Own s' a' xn c' 5 1 (bvs l) τ ∧ (a' = none ↔ xa = none) := by
  refine F118_calls _ _ _  ?_
  unfold F118
  first | refine sB_d (fun hsB1 => ?_) (fun hsB1 => ?_) | refine sB_nd (fun hsB1 => ?_) (fun hsB1 => ?_) | refine sB_n (fun hsB1 => ?_) (fun hsB1 => ?_) | refine sB_i (fun hsB1 => ?_) (fun hsB1 => ?_)
  ·
    refine ret_t ?_
    have hxa : xa = none := by simpa using hsB1
    have hl : l = [] := List.eq_nil_of_length_eq_zero (by have := h0 hxa; omega)
    have h0' := h0 hxa
    subst hl h0'
    exact ⟨none, 0, rfl, (Ch.refl [] s), Own.nil _ _ _ _, by simp [hxa]⟩
  ·
    refine al_t τ fun r1 s2 hr1 b_1 c_2 z_3 => ?_
    have x_4 := hx.mv c_2 (tagn (by simp))
    refine app_i u85 in5 rfl (b_1.own0 1) x_4 (by rw [bvs_len]; omega) (bvs_one l) h0 (by unfold maxLen; omega) fun s6 a1 c1 o_7 c_50 hnil => ?_
    have c_5 := c_50.toL rfl
    have z_6 := c_5.size
    refine dSl_i ?_
    refine ret_t ?_
    have hxa : xa ≠ none := by intro h; simp [h] at hsB1
    rw [Nat.zero_add, List.nil_append] at o_7
    simp only [Nat.zero_add]
    exact ⟨a1, c1, rfl, (((Ch.refl [] s).ch c_2 (by simp)).chl c_5 (by simp) (by simp <;> omega)), o_7, by simp [hxa, hnil.1]⟩
-- no form: math/bits.Mul64
-- no form: math/bits.Mul
-- no form: bytes.Repeat
end Go.Proofs.YtklppdodadkcnaaGreat.E
/- Contracts of functions. -/
namespace Go.Proofs.YtklppdodadkcnaaGreat.E
open Go Go.Proofs
set_option linter.unusedVariables false
set_option linter.unusedSimpArgs false
/-- (*bollard/disk.Disk).made -/
theorem c_made (d T : Nat) (D : DiskM) (s : TH) (hT : 10 ≤ T) (hd : Disk s d T D) : TRet Tryz.prog 230 #[.pointer (some ⟨d, 0, none⟩)] s fun v s' => v = .bool true ∧ Ch [] s s' := by
  obtain ⟨pa, pc, qa, qc, hs, qs, fr, fm, hD⟩ := id hd
  have hblk := hD.blk
  have hrows := hD.rows
  have hbrel := hD.brel
  have hque := hD.que
  have hqrel := hD.qrel
  have hfails := hD.fails
  refine F230_calls _  ?_
  unfold F230
  refine sB_t (by rfl) ?_
  refine nz_i ?_
  refine ld_t hblk rfl ?_
  refine dSl_i ?_
  refine ret_t ?_
  exact ⟨ret_b (by have := hD.nb; simp; omega), (Ch.refl [] s)⟩
/-- (*bollard/disk.Disk).Blocks -/
theorem c_blocks (d T : Nat) (D : DiskM) (s : TH) (hT : 10 ≤ T) (hd : Disk s d T D) : TRet Tryz.prog 89 #[.pointer (some ⟨d, 0, none⟩)] s fun v s' => v = .int .i64 (D.blocks.length : Int) ∧ Ch [] s s' := by
  obtain ⟨pa, pc, qa, qc, hs, qs, fr, fm, hD⟩ := id hd
  have hblk := hD.blk
  have hrows := hD.rows
  have hbrel := hD.brel
  have hque := hD.que
  have hqrel := hD.qrel
  have hfails := hD.fails
  refine F89_calls _  ?_
  unfold F89
  refine sB_f (by rfl) ?_
  refine nz_i ?_
  refine ld_t hblk rfl ?_
  refine dSl_i ?_
  refine ret_t ?_
  exact ⟨rfl, (Ch.refl [] s)⟩
/-- (*bollard/disk.Disk).look -/
theorem c_look (d T : Nat) (D : DiskM) (b : Int) (s : TH) (hT : 10 ≤ T) (hd : Disk s d T D) : TRet Tryz.prog 218 #[.pointer (some ⟨d, 0, none⟩), .int .i64 b] s fun v s' => v = .int .i64 (if D.has b then 0 else 1) ∧ Ch [] s s' := by
  obtain ⟨pa, pc, qa, qc, hs, qs, fr, fm, hD⟩ := id hd
  have hblk := hD.blk
  have hrows := hD.rows
  have hbrel := hD.brel
  have hque := hD.que
  have hqrel := hD.qrel
  have hfails := hD.fails
  refine F218_calls _ _  ?_
  unfold F218
  refine tcall (c_made _ _ _ _ hT hd) ?_
  rintro _ s2 ⟨rfl, c_1⟩
  have z_2 := c_1.size
  refine dBl_i ?_
  refine sB_f (by rfl) ?_
  refine jn_u ?_
  refine sB_d (fun hsB2 => ?_) (fun hsB2 => ?_)
  ·
    intro _ _ _ _ _ _ _ _ _ _
    refine dBl_i ?_
    refine sB_t (by rfl) ?_
    refine ret_t ?_
    exact ⟨ret_i (by first | rw [if_pos (by unfold DiskM.has; omega)] | rw [if_neg (by unfold DiskM.has; omega)]), ((Ch.refl [] s).ch c_1 (by simp))⟩
  ·
    refine nz_i ?_
    have blk_3 := hblk.ch c_1 (by simp)
    refine ld_t blk_3 rfl ?_
    refine dSl_i ?_
    intro _ _ _ _ _ _ _ _ _ _
    refine dBl_i ?_
    refine sB_d (fun hsB4 => ?_) (fun hsB4 => ?_)
    ·
      refine ret_t ?_
      exact ⟨ret_i (by first | rw [if_pos (by unfold DiskM.has; omega)] | rw [if_neg (by unfold DiskM.has; omega)]), ((Ch.refl [] s).ch c_1 (by simp))⟩
    ·
      refine ret_t ?_
      exact ⟨ret_i (by first | rw [if_pos (by unfold DiskM.has; omega)] | rw [if_neg (by unfold DiskM.has; omega)]), ((Ch.refl [] s).ch c_1 (by simp))⟩
-- no form: slices.IndexFunc[[]bollard/api.Sent,bollard/api.Sent]
-- no form: slices.ContainsFunc[[]bollard/api.Sent,bollard/api.Sent]
-- no form: (*bollard/disk.Disk).Write$1
-- no form: (*bollard/disk.Disk).place$1
-- no form: (*bollard/disk.Disk).place
-- no form: slices.Delete[[]bollard/api.Sent,bollard/api.Sent]
-- no form: (*bollard/disk.Disk).Write
-- no form: (*bollard/disk.Disk).Complete
theorem BRel.snoc {s : TH} {τ : Nat} {hs : List Hd} {bs : List (List UInt8)} (h : BRel s τ hs bs) {p : Hd} {b : List UInt8} (hp : ByAt s τ p b) : BRel s τ (hs ++ [p]) (bs ++ [b]) := by
  refine ⟨by simp [h.len], fun i x y hx hy => ?_⟩
  by_cases hi : i < bs.length
  · rw [List.getElem?_append_left (by rw [h.len]; exact hi)] at hx
    rw [List.getElem?_append_left hi] at hy
    exact h.at_ i x y hx hy
  · rw [List.getElem?_append_right (by rw [h.len]; omega)] at hx
    rw [List.getElem?_append_right (by omega)] at hy
    rw [h.len] at hx
    cases hd : i - bs.length with
    | zero => rw [hd] at hx hy; simp at hx hy; subst hx hy; exact hp
    | succ k => rw [hd] at hx; simp at hx
theorem BRel.nil (s : TH) (τ : Nat) : BRel s τ [] [] := ⟨rfl, fun i p b h _ => by simp at h⟩
theorem QRel.nil (s : TH) (τ : Nat) : QRel s τ [] [] := ⟨rfl, fun i p b h _ => by simp at h⟩
-- no form: bollard/disk.New
/-- (*bollard/disk.Disk).Read -/
theorem c_dread (d T τ : Nat) (D : DiskM) (b : Int) {l : List UInt8} (s : TH) (hT : 10 ≤ T) (hd : Disk s d T D) (hb : D.has b) (hl : D.blocks[b.toNat]? = some l) (hf : D.fails b ≤ 0) : TRet Tryz.prog 203 #[.pointer (some ⟨d, 0, none⟩), .int .i64 b] s fun v s' => ∃ a c, v = .tuple #[.slice a 128 c, .int .i64 0] ∧ Ch [] s s' ∧ Own s' a 128 c 5 1 (bvs l) τ := by
  obtain ⟨pa, pc, qa, qc, hs, qs, fr, fm, hD⟩ := id hd
  have hblk := hD.blk
  have hrows := hD.rows
  have hbrel := hD.brel
  have hque := hD.que
  have hqrel := hD.qrel
  have hfails := hD.fails
  refine F203_calls _ _  ?_
  unfold F203
  refine tcall (c_look _ _ _ _ _ hT hd) ?_
  rintro _ s2 ⟨rfl, c_1⟩
  have z_2 := c_1.size
  refine dInt_i ?_
  refine sB_ne (fun hsB1 => ?_) (fun hsB1 => ?_)
  ·
    refine ret_t ?_
    exact absurd (if_pos hb) hsB1
  ·
    have hb1 := hb; unfold DiskM.has at hb1
    obtain ⟨p, hp⟩ : ∃ p, hs[b.toNat]? = some p := ⟨hs[b.toNat]'(by rw [hD.brel.len]; omega), by simp⟩
    obtain ⟨ap, rfl⟩ : ∃ ap, pa = some ap := by
      have h0 := hD.nb
      rcases hD.rows.2 with ⟨_, h2, _⟩ | ⟨g, o, L, h2, _⟩
      · omega
      · exact ⟨_, h2⟩
    refine nz_i ?_
    have blk_3 := hblk.ch c_1 (by simp)
    refine ld_t blk_3 rfl ?_
    refine dMap_i ?_
    have fails_4 := hfails.ch c_1 (by simp)
    refine look_g keyI u48 z3 fails_4 b (hD.fok b) ?_
    refine dInt_i ?_
    refine sB_d (fun hsB2 => by exfalso; omega) (fun hsB2 => ?_)
    refine nz_i ?_
    refine ld_t blk_3 rfl ?_
    refine dSl_i ?_
    refine nz_i ?_
    refine ask_t (by omega) ?_
    have rows_5 := hrows.mv c_1 (tagn (by simp))
    refine ld_sl rows_5.sl (by rw [Nat.mul_one]; exact bcell hp) ?_
    refine dSl_i ?_
    have brel_6 := hbrel.mv c_1 (tagn (by simp))
    refine tcall (c_clone τ _ (brel_6.at_ _ _ _ hp hl).sl (brel_6.at_ _ _ _ hp hl).len (fun h => by obtain ⟨y, hy⟩ := (hD.brel.at_ _ _ _ hp hl).ne; rw [h] at hy; cases hy) (by omega)) ?_
    rintro _ s36 ⟨xa2, xc2, rfl, c_7, nx_9, hxn⟩
    have z_8 := c_7.size
    refine dSl_i ?_
    refine ret_t ?_
    exact ⟨xa2, xc2, rfl, (((Ch.refl [] s).ch c_1 (by simp)).ch c_7 (by simp)), nx_9⟩
end Go.Proofs.YtklppdodadkcnaaGreat.E
/- The shelf's contracts, laid at this program, in plain words. -/
namespace Go.Proofs
open Go.Shelf
def Tryz.collectA_ren : Go.Shelf.Ren := ⟨fun | 8 => 219 | 11 => 231 | n => n, fun | 26 => 3 | 28 => 274 | 24 => 45 | 0 => 0 | 33 => 154 | 4 => 4 | n => n, fun | n => n⟩
theorem Tryz.collectA : Go.Proofs.SlLaysZI.n8 Tryz.prog Tryz.collectA_ren :=
  { mixed := by kernel_rfl,
    f8 := ⟨Tryz.f219.name, by decide, Tryz.func219.trans (congrArg some (by kernel_rfl))⟩,
    f11 := ⟨Tryz.f231.name, by decide, Tryz.func231.trans (congrArg some (by kernel_rfl))⟩,
    t0 := Tryz.underlying0,
    a0 := Tryz.isAgg0,
    z0 := Tryz.sizeOf0,
    v0 := Tryz.zeroValue0,
    t24 := Tryz.underlying45,
    a24 := Tryz.isAgg45,
    z24 := Tryz.sizeOf45,
    v24 := Tryz.zeroValue45,
    t26 := Tryz.underlying3,
    a26 := Tryz.isAgg3,
    z26 := Tryz.sizeOf3,
    v26 := Tryz.zeroValue3,
    t28 := Tryz.underlying274,
    a28 := Tryz.isAgg274,
    z28 := Tryz.sizeOf274,
    v28 := Tryz.zeroValue274,
    i26 := by kernel_rfl }
def Tryz.keysA_ren : Go.Shelf.Ren := ⟨fun | 7 => 228 | 10 => 234 | n => n, fun | 23 => 232 | 26 => 3 | 3 => 244 | 28 => 274 | 0 => 0 | 27 => 273 | 33 => 154 | 4 => 4 | n => n, fun | n => n⟩
theorem Tryz.keysA : Go.Proofs.SlLaysZI.n7 Tryz.prog Tryz.keysA_ren :=
  { mixed := by kernel_rfl,
    f7 := ⟨Tryz.f228.name, by decide, Tryz.func228.trans (congrArg some (by kernel_rfl))⟩,
    f10 := ⟨Tryz.f234.name, by decide, Tryz.func234.trans (congrArg some (by kernel_rfl))⟩,
    t0 := Tryz.underlying0,
    a0 := Tryz.isAgg0,
    z0 := Tryz.sizeOf0,
    v0 := Tryz.zeroValue0,
    t4 := Tryz.underlying4,
    a4 := Tryz.isAgg4,
    z4 := Tryz.sizeOf4,
    v4 := Tryz.zeroValue4,
    t23 := Tryz.underlying232,
    a23 := Tryz.isAgg232,
    z23 := Tryz.sizeOf232,
    v23 := Tryz.zeroValue232,
    t26 := Tryz.underlying3,
    a26 := Tryz.isAgg3,
    z26 := Tryz.sizeOf3,
    v26 := Tryz.zeroValue3,
    t27 := Tryz.underlying273,
    a27 := Tryz.isAgg273,
    z27 := Tryz.sizeOf273,
    v27 := Tryz.zeroValue273,
    t28 := Tryz.underlying274,
    a28 := Tryz.isAgg274,
    z28 := Tryz.sizeOf274,
    v28 := Tryz.zeroValue274,
    t33 := Tryz.underlying154,
    a33 := Tryz.isAgg154,
    z33 := Tryz.sizeOf154,
    v33 := Tryz.zeroValue154 }
def Tryz.keysB_ren : Go.Shelf.Ren := ⟨fun | 7 => 205 | 10 => 220 | n => n, fun | 23 => 216 | 26 => 3 | 3 => 220 | 28 => 274 | 0 => 0 | 27 => 273 | 33 => 154 | 4 => 4 | n => n, fun | n => n⟩
theorem Tryz.keysB : Go.Proofs.SlLaysZI.n7 Tryz.prog Tryz.keysB_ren :=
  { mixed := by kernel_rfl,
    f7 := ⟨Tryz.f205.name, by decide, Tryz.func205.trans (congrArg some (by kernel_rfl))⟩,
    f10 := ⟨Tryz.f220.name, by decide, Tryz.func220.trans (congrArg some (by kernel_rfl))⟩,
    t0 := Tryz.underlying0,
    a0 := Tryz.isAgg0,
    z0 := Tryz.sizeOf0,
    v0 := Tryz.zeroValue0,
    t4 := Tryz.underlying4,
    a4 := Tryz.isAgg4,
    z4 := Tryz.sizeOf4,
    v4 := Tryz.zeroValue4,
    t23 := Tryz.underlying216,
    a23 := Tryz.isAgg216,
    z23 := Tryz.sizeOf216,
    v23 := Tryz.zeroValue216,
    t26 := Tryz.underlying3,
    a26 := Tryz.isAgg3,
    z26 := Tryz.sizeOf3,
    v26 := Tryz.zeroValue3,
    t27 := Tryz.underlying273,
    a27 := Tryz.isAgg273,
    z27 := Tryz.sizeOf273,
    v27 := Tryz.zeroValue273,
    t28 := Tryz.underlying274,
    a28 := Tryz.isAgg274,
    z28 := Tryz.sizeOf274,
    v28 := Tryz.zeroValue274,
    t33 := Tryz.underlying154,
    a33 := Tryz.isAgg154,
    z33 := Tryz.sizeOf154,
    v33 := Tryz.zeroValue154 }
def Tryz.sortFA_ren : Go.Shelf.Ren := ⟨fun | 6 => 233 | 15 => 195 | 14 => 235 | 28 => 215 | 29 => 216 | 20 => 236 | 21 => 237 | 22 => 238 | 23 => 239 | 24 => 240 | 25 => 241 | 26 => 242 | 27 => 243 | 46 => 244 | 47 => 222 | 48 => 223 | 49 => 245 | 50 => 246 | 57 => 247 | n => n, fun | 22 => 45 | 24 => 3 | 25 => 294 | 3 => 3 | 39 => 30 | 0 => 0 | 53 => 64 | 55 => 286 | 4 => 4 | 46 => 278 | 45 => 277 | 50 => 46 | 5 => 5 | 9 => 9 | 66 => 287 | 70 => 107 | 76 => 296 | 77 => 122 | n => n, fun | n => n⟩
theorem Tryz.sortFA : Go.Proofs.SlLaysF.n6 Tryz.prog Tryz.sortFA_ren :=
  { mixed := by kernel_rfl,
    f6 := ⟨Tryz.f233.name, by decide, Tryz.func233.trans (congrArg some (by kernel_rfl))⟩,
    f14 := ⟨Tryz.f235.name, by decide, Tryz.func235.trans (congrArg some (by kernel_rfl))⟩,
    f15 := Tryz.func195.trans (congrArg some (by kernel_rfl)),
    f20 := ⟨Tryz.f236.name, by decide, Tryz.func236.trans (congrArg some (by kernel_rfl))⟩,
    f21 := ⟨Tryz.f237.name, by decide, Tryz.func237.trans (congrArg some (by kernel_rfl))⟩,
    f22 := ⟨Tryz.f238.name, by decide, Tryz.func238.trans (congrArg some (by kernel_rfl))⟩,
    f23 := ⟨Tryz.f239.name, by decide, Tryz.func239.trans (congrArg some (by kernel_rfl))⟩,
    f24 := ⟨Tryz.f240.name, by decide, Tryz.func240.trans (congrArg some (by kernel_rfl))⟩,
    f25 := ⟨Tryz.f241.name, by decide, Tryz.func241.trans (congrArg some (by kernel_rfl))⟩,
    f26 := ⟨Tryz.f242.name, by decide, Tryz.func242.trans (congrArg some (by kernel_rfl))⟩,
    f27 := ⟨Tryz.f243.name, by decide, Tryz.func243.trans (congrArg some (by kernel_rfl))⟩,
    f28 := Tryz.func215.trans (congrArg some (by kernel_rfl)),
    f29 := Tryz.func216.trans (congrArg some (by kernel_rfl)),
    f46 := ⟨Tryz.f244.name, by decide, Tryz.func244.trans (congrArg some (by kernel_rfl))⟩,
    f47 := Tryz.func222.trans (congrArg some (by kernel_rfl)),
    f48 := Tryz.func223.trans (congrArg some (by kernel_rfl)),
    f49 := ⟨Tryz.f245.name, by decide, Tryz.func245.trans (congrArg some (by kernel_rfl))⟩,
    f50 := ⟨Tryz.f246.name, by decide, Tryz.func246.trans (congrArg some (by kernel_rfl))⟩,
    f57 := ⟨Tryz.f247.name, by decide, Tryz.func247.trans (congrArg some (by kernel_rfl))⟩,
    t0 := Tryz.underlying0,
    a0 := Tryz.isAgg0,
    z0 := Tryz.sizeOf0,
    v0 := Tryz.zeroValue0,
    t3 := Tryz.underlying3,
    a3 := Tryz.isAgg3,
    z3 := Tryz.sizeOf3,
    v3 := Tryz.zeroValue3,
    t4 := Tryz.underlying4,
    a4 := Tryz.isAgg4,
    z4 := Tryz.sizeOf4,
    v4 := Tryz.zeroValue4,
    t5 := Tryz.underlying5,
    a5 := Tryz.isAgg5,
    z5 := Tryz.sizeOf5,
    v5 := Tryz.zeroValue5,
    t9 := Tryz.underlying9,
    a9 := Tryz.isAgg9,
    z9 := Tryz.sizeOf9,
    v9 := Tryz.zeroValue9,
    t22 := Tryz.underlying45,
    a22 := Tryz.isAgg45,
    z22 := Tryz.sizeOf45,
    v22 := Tryz.zeroValue45,
    a24 := Tryz.isAgg3,
    z24 := Tryz.sizeOf3,
    t25 := Tryz.underlying294,
    a25 := Tryz.isAgg294,
    z25 := Tryz.sizeOf294,
    v25 := Tryz.zeroValue294,
    t39 := Tryz.underlying30,
    a39 := Tryz.isAgg30,
    z39 := Tryz.sizeOf30,
    v39 := Tryz.zeroValue30,
    t45 := Tryz.underlying277,
    a45 := Tryz.isAgg277,
    z45 := Tryz.sizeOf277,
    v45 := Tryz.zeroValue277,
    t46 := Tryz.underlying278,
    a46 := Tryz.isAgg278,
    z46 := Tryz.sizeOf278,
    v46 := Tryz.zeroValue278,
    t50 := Tryz.underlying46,
    a50 := Tryz.isAgg46,
    z50 := Tryz.sizeOf46,
    v50 := Tryz.zeroValue46,
    t53 := Tryz.underlying64,
    a53 := Tryz.isAgg64,
    z53 := Tryz.sizeOf64,
    v53 := Tryz.zeroValue64,
    t55 := Tryz.underlying286,
    a55 := Tryz.isAgg286,
    z55 := Tryz.sizeOf286,
    v55 := Tryz.zeroValue286,
    t66 := Tryz.underlying287,
    a66 := Tryz.isAgg287,
    z66 := Tryz.sizeOf287,
    v66 := Tryz.zeroValue287,
    t70 := Tryz.underlying107,
    a70 := Tryz.isAgg107,
    z70 := Tryz.sizeOf107,
    v70 := Tryz.zeroValue107,
    t76 := Tryz.underlying296,
    a76 := Tryz.isAgg296,
    z76 := Tryz.sizeOf296,
    v76 := Tryz.zeroValue296,
    t77 := Tryz.underlying122,
    a77 := Tryz.isAgg122,
    z77 := Tryz.sizeOf122,
    v77 := Tryz.zeroValue122 }
end Go.Proofs
/- Contracts of functions. -/
namespace Go.Proofs.YtklppdodadkcnaaGreat.E
open Go Go.Proofs Go.RowKit Go.Maps Go.Shelf Go.Sort
set_option linter.unusedVariables false
set_option linter.unusedSimpArgs false
/-- a contract of the kit's, of a call that turns nothing old, in states with marks: all that is new has one mark -/
theorem tret_new (τ : Nat) {P : Program} {f : FuncId} {args : Array Value} {s : TH} {Q : Value → TH → Prop}
    (h : ∀ w : World, w.heap = s.h → Calls P f args w fun e w' => ∃ v, e = .returned v ∧ Go.RowKit.Below w.heap.size w w' ∧ Q v ⟨w'.heap, fun j => if j < s.h.size then s.g j else τ⟩) :
    TRet P f args s fun v s' => Q v s' ∧ Ch [] s s' := fun w hw =>
  (h w hw).mono fun e w' ⟨v, he, hb, hq⟩ => ⟨⟨v, ⟨w'.heap, fun j => if j < s.h.size then s.g j else τ⟩, he, rfl, hq, ⟨by rw [← hw]; exact hb.size, fun j hj => by simp [hj], fun j hj _ => by rw [← hw]; exact hb.block j (by rw [hw]; exact hj)⟩⟩, ⟨hb.os, hb.tape, hb.output⟩⟩
theorem own_of_row {w' : World} {B e k n : Nat} {v : Value} {xs : List Value} {τ : Nat} {g : Nat → Nat} (h : w'.ownsRow B e k v n xs) (hg : ∀ j, B ≤ j → g j = τ) : ∃ a c, v = .slice a n c ∧ Own ⟨w'.heap, g⟩ a n c e k xs τ ∧ ∀ b, a = some b → B ≤ b.block := by
  rcases h.2 with ⟨rfl, rfl⟩ | ⟨b, cap, cur, rfl, hb, hc, h1, h2, h3, h4⟩
  · exact ⟨none, 0, rfl, ⟨h.1, .inl ⟨rfl, rfl, rfl⟩⟩, fun b hb => by cases hb⟩
  · exact ⟨_, cap, rfl, ⟨h.1, .inr ⟨b, 0, cur.toList, rfl, ⟨by simpa using hc, hg b hb⟩, h1, h2, by simp [h3], by simpa using h4⟩⟩, fun b hb => by cases hb; assumption⟩
def inI64 (x : Int) : Prop := -9223372036854775808 ≤ x ∧ x ≤ 9223372036854775807
theorem wf_i64 {x : Int} (h : inI64 x) : (Lit.int .i64 x).wf = true := by
  unfold inI64 at h
  have e1 : IntKind.i64.min = -9223372036854775808 := by decide
  have e2 : IntKind.i64.max = 9223372036854775807 := by decide
  simp only [Lit.wf, e1, e2, Bool.and_eq_true, decide_eq_true_eq]
  exact h
/-- a map of numbers in the kit's words: what its values are is left open -/
theorem owns_of {P : Program} {K : TypeId} (hK : P.underlying K = some (.int .i64)) {s : TH} {r τ : Nat} {m : List (Int × Value)} (h : MapK (Value.int .i64) s r m τ) (w : World) (hw : w.heap = s.h) (hn : m.length ≤ 17592186044416) (hk : ∀ k ∈ m.map (·.1), inI64 k) :
    ∃ D0 : DataW Unit, w.ownsMap P K (fun _ => some (.nil, [])) r m.length D0 ∧ (intKeys D0).Perm (m.map (·.1)) ∧ Go.Maps.size D0 = m.length := by
  obtain ⟨es, ck, hg, he⟩ := h.get
  have hlen : es.length = m.length := by have := congrArg List.length he.key; simpa using this
  have hread : ∀ x ∈ es, ∃ k, x.key = .int .i64 k ∧ inI64 k := fun x hx => by
    have : x.key ∈ es.map (·.key) := List.mem_map.2 ⟨x, hx, rfl⟩
    rw [he.key] at this
    obtain ⟨p, hp, hpx⟩ := List.mem_map.1 this
    exact ⟨p.1, hpx.symm, hk _ (List.mem_map.2 ⟨p, hp, rfl⟩)⟩
  have hrd : ∀ (x : MapEntry) (k : Int), x.key = .int .i64 k → inI64 k → Go.WideElems.rd (H := Unit) P K (fun _ => some (.nil, [])) x = some (.int .i64 k, .nil) := fun x k hx hk => by
    obtain ⟨xk, xv, xb⟩ := x
    cases hx
    exact Go.WideElems.rd_mk (R := fun _ => some (.nil, [])) (yv := (.nil, [])) (keyOf_int_mk hK (wf_i64 hk)) rfl
  have hnd : (es.map (·.key)).Nodup := by
    rw [he.key]
    exact List.pairwise_map.2 ((List.pairwise_map.1 h.nd).imp fun {a b} hab => by simpa using hab)
  refine ⟨.map ((es.map (Go.WideElems.rg P K (fun _ => some (.nil, [])))).foldr DataW.insert []), ⟨es.toArray, ck, by rw [hw]; exact hg, ⟨by unfold maxLen; simp; omega, ⟨by simpa using he.old, by simpa using he.born, by simpa using hnd⟩, ?_⟩, by simp; omega, by simp⟩, ?_, ?_⟩
  · intro x hx
    obtain ⟨k, h1, h2⟩ := hread x (by simpa using hx)
    exact ⟨_, hrd x k h1 h2⟩
  · have hp := Go.WideShapes.sorted_perm (es.map (Go.WideElems.rg (H := Unit) P K (fun _ => some (.nil, []))))
    have hq := hp.map (fun p => Go.intOf p.1)
    refine hq.trans (List.Perm.of_eq ?_)
    rw [List.map_map]
    have e1 : es.map ((fun p : Lit × DataW Unit => Go.intOf p.1) ∘ Go.WideElems.rg P K (fun _ => some (.nil, []))) = es.map (fun x => match x.key with | .int _ k => k | _ => 0) := by
      apply List.map_congr_left
      intro x hx
      obtain ⟨k, h1, h2⟩ := hread x hx
      simp only [Function.comp, Go.WideElems.rg_of (hrd x k h1 h2), h1]
      rfl
    rw [e1]
    have e2 : es.map (fun x => match x.key with | .int _ k => k | _ => 0) = (es.map (·.key)).map (fun v => match v with | .int _ k => k | _ => 0) := by rw [List.map_map]; rfl
    rw [e2, he.key, List.map_map]
    rfl
  · show (List.foldr DataW.insert [] _).length = _
    rw [(Go.WideShapes.sorted_perm _).length_eq, List.length_map, hlen]
/-- slices.Collect over maps.Keys of a map of numbers -/
theorem c_collect (τ : Nat) (Bm r tb τb τm : Nat) {m : List (Int × Value)} {s : TH} (hB : Blk s Bm [.map (some r)] tb τb) (hm : MapK (Value.int .i64) s r m τm) (hn : m.length ≤ 17592186044416) (hk : ∀ k ∈ m.map (·.1), inI64 k) :
    TRet Tryz.prog 219 #[.func (.func 234) #[] #[.pointer (some ⟨Bm, 0, none⟩)]] s fun v s' => (∃ a c ss, v = .slice a m.length c ∧ ss.Perm (m.map (·.1)) ∧ Own s' a m.length c 3 1 (ivs ss) τ ∧ ∀ b, a = some b → s.h.size ≤ b.block) ∧ Ch [] s s' :=
  tret_new τ fun w hw => by
    have hm0 : w.cell? ⟨Bm, 0, none⟩ = some (.map (some r)) := by rw [cell_eq, hw]; exact hB.cell 0
    obtain ⟨D0, ho, hp, hsz⟩ := owns_of (P := Tryz.prog) (K := 3) (by kernel_rfl) hm w hw hn hk
    have hseq : SeqGives Fence.wide 4 Tryz.prog 234 #[.pointer (some ⟨Bm, 0, none⟩)] encZ (fun ss : List Int => ss.Perm (intKeys D0)) (Go.Maps.size D0) w :=
      AnyZI.keys_gives (ρ := Tryz.keysA_ren) { Tryz.keysA with } Fence.wide 4 trivial rfl (by omega) Bm r m.length D0 w (by rw [hw]; exact hB.lt) hm0 ho
    have h := AnyZI.collect_in (ρ := Tryz.collectA_ren) Tryz.collectA Fence.wide 6 trivial trivial rfl (by omega) 234 #[.pointer (some ⟨Bm, 0, none⟩)] trivial (enters_of Tryz.func234 (by kernel_rfl) rfl) _ (Go.Maps.size D0) (by rw [hsz]; unfold maxLen; omega) (by rw [hsz]; omega) w hseq
    refine ((callsIn_wide (n := 6)).1 h).mono ?_
    rintro e w' ⟨v, ss, rfl, hs, hrow, hv, hb⟩
    have hp2 := hs.trans hp
    have hl : ss.length = m.length := by rw [hp2.length_eq]; simp
    obtain ⟨a, c, rfl, hO, hnew⟩ := own_of_row (g := fun j => if j < s.h.size then s.g j else τ) (τ := τ) hrow (fun j hj => by rw [if_neg (by rw [← hw]; omega)])
    rw [hl] at hO ⊢
    exact ⟨_, rfl, hb, a, c, ss, rfl, hp2, hO, by rw [← hw]; exact hnew⟩
end Go.Proofs.YtklppdodadkcnaaGreat.E
/- Contracts of functions. -/
namespace Go.Proofs.YtklppdodadkcnaaGreat.E
open Go Go.Proofs Go.RowKit Go.Maps Go.Shelf Go.Sort
set_option linter.unusedVariables false
set_option linter.unusedSimpArgs false
set_option maxHeartbeats 400000 in
theorem held1 {f0 c r : Nat} {m : List (Int × Value)} {bx by_ : Nat} (x y ux uy : Int) {s : TH} {τ : Nat} (w : World) (hw : w.heap = s.h) (h0 : w.cell? ⟨f0, 0, none⟩ = some (.pointer (some ⟨c, 0, none⟩))) (h1 : w.cell? ⟨c, 2, none⟩ = some (.map (some r)))
    (hm : MapK (Value.int .i64) s r m τ) (hx : mget x m = some (.pointer (some ⟨bx, 0, none⟩))) (hy : mget y m = some (.pointer (some ⟨by_, 0, none⟩)))
    (hbx : w.cell? ⟨bx, 2, none⟩ = some (.int .i64 ux)) (hby : w.cell? ⟨by_, 2, none⟩ = some (.int .i64 uy)) (hux : 0 ≤ ux ∧ ux ≤ 9223372036854775807) (huy : 0 ≤ uy ∧ uy ≤ 9223372036854775807) :
    Calls Tryz.prog 229 #[.int .i64 x, .int .i64 y, .pointer (some ⟨f0, 0, none⟩)] w fun e w' => e = .returned (.int .i64 (ux - uy)) ∧ ∃ n, w' = w.drewN n := by
  have L1 : RowKit.Hid (∀ n, (Instr.lookup 232 (.map (some r)) (.int .i64 x) false).run Tryz.prog (w.drewN n) = .ok (.pointer (some ⟨bx, 0, none⟩)) (w.drewN n)) := fun n => by
    have := run_look keyI u232 z244 hm x false (w.drewN n) hw
    rw [hx] at this; exact this
  have L2 : RowKit.Hid (∀ n, (Instr.lookup 232 (.map (some r)) (.int .i64 y) false).run Tryz.prog (w.drewN n) = .ok (.pointer (some ⟨by_, 0, none⟩)) (w.drewN n)) := fun n => by
    have := run_look keyI u232 z244 hm y false (w.drewN n) hw
    rw [hy] at this; exact this
  have hwr : IntKind.i64.wrap (ux - uy) = ux - uy := wrap_id (by omega) (by omega)
  clear hm hx hy hw
  go_enter Tryz.func229, Tryz.ntmps229
  go_wp2
  refine wp_region_quiet_lit (by kernel_rfl) (by kernel_rfl) ?_
  iterate 5 (refine wpQuiet_step (fun K hK => ?_); go_simp; refine hK _ ?_; clear hK K)
  refine wpQuiet_step (fun K hK => ?_)
  go_simp
  refine ⟨_, fun a => by rw [L1.out a]; exact ⟨rfl, rfl⟩, hK _ ?_⟩
  clear hK K
  iterate 8 (refine wpQuiet_step (fun K hK => ?_); go_simp; refine hK _ ?_; clear hK K)
  refine wpQuiet_step (fun K hK => ?_)
  go_simp
  refine ⟨_, fun a => by rw [L2.out a]; exact ⟨rfl, rfl⟩, hK _ ?_⟩
  clear hK K
  iterate 5 (refine wpQuiet_step (fun K hK => ?_); go_simp; refine hK _ ?_; clear hK K)
  refine wpQuiet_nil ?_
  rintro _ ⟨nq, rfl⟩
  go_wp2
  go_ret
  exact ⟨rfl, nq, rfl⟩
section
variable {α : Type} [Inhabited α]
theorem sortW_get (enc : α → Value) (w : World) (blk off m : Nat) (dk : Array α) (os : Array Obj) (j : Nat) (hj : j < w.heap.size) : (sortWorld enc w blk off m dk os).heap[j]? = if blk = j then (w.heap[j]?).map (Go.Sort.onCells (Go.Sort.putCells enc off dk)) else w.heap[j]? := by
  show ((w.heap.modify blk _) ++ os)[j]? = _
  rw [Array.getElem?_append_left (by simpa using hj), Array.getElem?_modify]
theorem sortW_on {enc : α → Value} {w : World} {s : TH} (hw : w.heap = s.h) (blk off m : Nat) (dk : Array α) (os : Array Obj) : On blk s ⟨(sortWorld enc w blk off m dk os).heap, s.g⟩ := by
  refine ⟨?_, fun _ _ => rfl, fun j hj hn => ?_⟩
  · show s.h.size ≤ ((w.heap.modify blk _) ++ os).size
    simp [hw]
  · show (sortWorld enc w blk off m dk os).heap[j]? = _
    rw [sortW_get _ _ _ _ _ _ _ _ (by rw [hw]; exact hj), if_neg (fun e => hn e.symm), hw]
theorem putCells_get (enc : α → Value) (off : Nat) (d : Array α) (c : Array Value) (j : Nat) : (Go.Sort.putCells enc off d c)[j]? = (c[j]?).map fun x => if off ≤ j ∧ j < off + d.size then enc d[j - off]! else x := by
  unfold Go.Sort.putCells
  rw [Array.getElem?_mapIdx]
theorem sortW_own {enc : α → Value} {w : World} {s : TH} (hw : w.heap = s.h) {g o n c e τ : Nat} {xs : List Value} (hO : Own s (some ⟨g, o, none⟩) n c e 1 xs τ) (m : Nat) (dk : Array α) (hd : dk.size = n) (os : Array Obj) :
    Own ⟨(sortWorld enc w g o m dk os).heap, s.g⟩ (some ⟨g, o, none⟩) n c e 1 (dk.toList.map enc) τ := by
  rcases hO.2 with ⟨h0, _⟩ | ⟨g', o', L, h0, h1, h2, h3, h4, h5⟩
  · cases h0
  · cases h0
    have hg : (sortWorld enc w g o m dk os).heap[g]? = some (.cells (Go.Sort.putCells enc o dk L.toArray) e (0, 0)) := by
      rw [sortW_get _ _ _ _ _ _ _ _ (by rw [hw]; exact h1.lt), if_pos rfl, hw, h1.get]
      rfl
    refine ⟨by simp [hd], .inr ⟨g, o, (Go.Sort.putCells enc o dk L.toArray).toList, rfl, ⟨by simpa using hg, h1.tag⟩, h2, h3, by simpa [Go.Sort.putCells] using h4, ?_⟩⟩
    apply List.ext_getElem?
    intro i
    rw [List.getElem?_take, List.getElem?_drop]
    by_cases hi : i < n
    · rw [if_pos (by omega), Array.getElem?_toList, putCells_get]
      have hL : o + i < L.length := by omega
      simp [hL, hd, hi]
    · rw [if_neg (by omega), List.getElem?_eq_none (by simp; omega)]
end
/-- a cache's buffers: each key's pointer, and when it was used last -/
structure UsedAt (s : TH) (m : List (Int × Value)) (u : Int → Int) (τb : Nat) : Prop where
  at_ : ∀ k ∈ m.map (·.1), ∃ b lb tb, mget k m = some (.pointer (some ⟨b, 0, none⟩)) ∧ Blk s b lb tb τb ∧ lb[2]? = some (.int .i64 (u k)) ∧ 0 ≤ u k ∧ u k ≤ 9223372036854775807
  inj : ∀ x ∈ m.map (·.1), ∀ y ∈ m.map (·.1), u x = u y → x = y
theorem UsedAt.mv {s s' : TH} {m : List (Int × Value)} {u : Int → Int} {τb : Nat} {B : Nat → Prop} (h : UsedAt s m u τb) (c : Chg B s s') (hn : ∀ j, j < s.h.size → s.g j = τb → ¬ B j) : UsedAt s' m u τb :=
  ⟨fun k hk => by
    obtain ⟨b, lb, tb, h1, h2, h3⟩ := h.at_ k hk
    exact ⟨b, lb, tb, h1, h2.mv c (hn b h2.lt h2.tag), h3⟩, h.inj⟩
abbrev leU (u : Int → Int) : Int → Int → Bool := fun x y => decide (u x ≤ u y)
theorem c_sortHeld {a : Option Addr} {n c f0 cc r tf τf tc τc τm τb τ : Nat} {ss : List Int} {m : List (Int × Value)} {lc : List Value} {s : TH} (u : Int → Int) (hO : Own s a n c 3 1 (ivs ss) τ) (hn : n ≤ 17592186044416) (hF : Blk s f0 [.pointer (some ⟨cc, 0, none⟩)] tf τf) (hC : Blk s cc lc tc τc) (hC2 : lc[2]? = some (.map (some r)))
    (hm : MapK (Value.int .i64) s r m τm) (hU : UsedAt s m u τb) (hs : ∀ x ∈ ss, x ∈ m.map (·.1)) (ht : τf ≠ τ ∧ τc ≠ τ ∧ τm ≠ τ ∧ τb ≠ τ) :
    TRet Tryz.prog 233 #[.slice a n c, .func (.func 229) #[] #[.pointer (some ⟨f0, 0, none⟩)]] s fun v s' => v = .tuple #[] ∧ OnA a s s' ∧ Own s' a n c 3 1 (ivs (ss.mergeSort (leU u))) τ := by
  have hl : ss.length = n := by have := hO.1; rw [ivs_len] at this; omega
  by_cases h0 : n = 0
  · subst h0
    have hss : ss = [] := List.eq_nil_of_length_eq_zero hl
    subst hss
    intro w hw
    refine (AnyF.slices_SortFunc_none (ρ := Tryz.sortFA_ren) { Tryz.sortFA with } a c (.func (.func 229) #[] #[.pointer (some ⟨f0, 0, none⟩)]) w).mono ?_
    rintro e w' ⟨rfl, rfl⟩
    exact ⟨⟨_, s, rfl, hw.symm, rfl, ⟨Nat.le_refl _, fun _ _ => rfl, fun _ _ _ => rfl⟩, by simpa using hO⟩, Like.refl _⟩
  obtain ⟨g, o, rfl⟩ : ∃ g o, a = some ⟨g, o, none⟩ := by
    rcases hO.2 with ⟨_, h, _⟩ | ⟨g, o, L, h, _⟩
    · exact absurd h h0
    · exact ⟨g, o, h⟩
  have hgt : s.g g = τ := hO.tagOf
  intro w hw
  let K := {k : Int // k ∈ m.map (·.1)}
  let enc : K → Value := fun k => .int .i64 k.1
  let cf : K → K → Int := fun x y => u x.1 - u y.1
  let d : Array K := (ss.attach.map fun x => ⟨x.1, hs x.1 x.2⟩).toArray
  have hd : d.size = n := by simp [d, hl]
  obtain ⟨x0, hx0⟩ : ∃ x, x ∈ ss := by cases ss with | nil => simp at hl; omega | cons x _ => exact ⟨x, by simp⟩
  letI : Inhabited K := ⟨⟨x0, hs x0 hx0⟩⟩
  have hdm : d.toList.map (fun k : K => k.1) = ss := by
    simp [d, Function.comp_def]
  have hne : ∀ j, s.g j ≠ τ → j ≠ g := fun j hj e => hj (by rw [e]; exact hgt)
  have hcmp : CmpLays1 Tryz.prog 229 #[.pointer (some ⟨f0, 0, none⟩)] enc cf g o n w := by
    intro m0 os dk hdk x y
    have hon := sortW_on (enc := enc) hw g o m0 dk os
    obtain ⟨bx, lx, tx, x1, x2, x3, x4⟩ := hU.at_ x.1 x.2
    obtain ⟨by_, ly, ty, y1, y2, y3, y4⟩ := hU.at_ y.1 y.2
    have e0 := hF.on hon (hne _ (by rw [hF.tag]; exact ht.1))
    have e1 := hC.on hon (hne _ (by rw [hC.tag]; exact ht.2.1))
    have e2 := hm.on hon (hne _ (by rw [hm.tag]; exact ht.2.2.1))
    have e3 := x2.on hon (hne _ (by rw [x2.tag]; exact ht.2.2.2))
    have e4 := y2.on hon (hne _ (by rw [y2.tag]; exact ht.2.2.2))
    have h := held1 (s := ⟨(sortWorld enc w g o m0 dk os).heap, s.g⟩) x.1 y.1 (u x.1) (u y.1) (sortWorld enc w g o m0 dk os) rfl (e0.cell 0) ((e1.cell 2).trans hC2) e2 x1 y1 ((e3.cell 2).trans x3) ((e4.cell 2).trans y3) x4 y4
    refine h.mono ?_
    rintro e w' ⟨rfl, q, rfl⟩
    exact ⟨rfl, q, #[], (grow_empty _).symm⟩
  have hH : Go.Sort.Holds enc w g o d := by
    intro j hj
    have hj' : j < n := by rw [← hd]; exact hj
    have hcell := hO.sl.cells w hw j (enc d[j]!) (by
      have : (ivs ss)[j]? = some (enc d[j]!) := by
        rw [← hdm]
        simp [ivs, enc, hj]
      exact this)
    rw [add_mk] at hcell
    refine ⟨hcell, ?_⟩
    rcases hO.2 with ⟨h, _⟩ | ⟨g', o', L, h, h1, _⟩
    · cases h
    · cases h
      rw [frozen_eq, hw]; exact h1.frozen _
  have hlt : ∀ x y : K, ltOf cf x y = decide (u x.1 < u y.1) := fun x y => by
    unfold ltOf
    by_cases h : u x.1 < u y.1
    · rw [decide_eq_true h]; exact decide_eq_true (by show u x.1 - u y.1 < 0; omega)
    · rw [decide_eq_false h]; exact decide_eq_false (by show ¬ (u x.1 - u y.1 < 0); omega)
  have hO2 : SWO (ltOf cf) := ⟨fun x => by rw [hlt]; simp, fun x y z h1 h2 => by rw [hlt] at *; simp at *; omega, fun x y z h1 h2 => by rw [hlt] at *; simp at *; omega⟩
  have hT : ∀ x y, (ltOf cf) x y = false → (ltOf cf) y x = false → x = y := fun x y h1 h2 => by
    rw [hlt] at h1 h2; simp at h1 h2
    exact Subtype.ext (hU.inj x.1 x.2 y.1 y.2 (by omega))
  have hS := Any.slices_SortFunc_total (ρ := Tryz.sortFA_ren) Tryz.sortFA enc (fun _ => rfl) cf hO2 229 #[.pointer (some ⟨f0, 0, none⟩)] g o c d w (enters_of Tryz.func229 (by kernel_rfl) rfl) (by rw [hd]; exact hcmp) hH (by rw [hw]; rcases hO.2 with ⟨h, _⟩ | ⟨g', o', L, h, h1, _⟩ <;> cases h; exact h1.lt) (by rw [hd]; omega) hT
  rw [hd] at hS
  refine hS.mono ?_
  rintro e w' ⟨rfl, n', os, rfl⟩
  refine ⟨⟨_, ⟨_, s.g⟩, rfl, rfl, rfl, Chg.mono (sortW_on (enc := enc) hw g o n' _ os) (fun j hj e => by simp [e]), ?_⟩, rfl, rfl, rfl⟩
  have := sortW_own (enc := enc) hw hO n' (d.toList.mergeSort fun x y => !(ltOf cf) y x).toArray (by simp [hd]) os
  have e : ((d.toList.mergeSort fun x y => !(ltOf cf) y x).toArray.toList.map enc) = ivs (ss.mergeSort (leU u)) := by
    show (d.toList.mergeSort _).map ((Value.int .i64) ∘ fun k : K => k.1) = _
    rw [← List.map_map, ← hdm]
    unfold ivs
    congr 1
    apply List.map_mergeSort
    intro x _ y _
    rw [hlt]
    by_cases h : u x.1 ≤ u y.1 <;> simp [leU, h] <;> omega
  rw [e] at this
  exact this
theorem c_sfun {Bm r tb τb0 τm f0 cc tf τf tc τc τu : Nat} (τ : Nat) {m : List (Int × Value)} {lc : List Value} {s : TH} (u : Int → Int) (hB : Blk s Bm [.map (some r)] tb τb0) (hm : MapK (Value.int .i64) s r m τm) (hn : m.length ≤ 17592186044416) (hk : ∀ k ∈ m.map (·.1), inI64 k)
    (hF : Blk s f0 [.pointer (some ⟨cc, 0, none⟩)] tf τf) (hC : Blk s cc lc tc τc) (hC2 : lc[2]? = some (.map (some r))) (hU : UsedAt s m u τu) :
    TRet Tryz.prog 227 #[.func (.func 234) #[] #[.pointer (some ⟨Bm, 0, none⟩)], .func (.func 229) #[] #[.pointer (some ⟨f0, 0, none⟩)]] s fun v s' => ∃ (a : Option Addr) (c : Nat) (ss : List Int), v = .slice a m.length c ∧ ss.Perm (m.map (·.1)) ∧ Ch [] s s' ∧ Own s' a m.length c 3 1 (ivs (ss.mergeSort (leU u))) τ := by
  refine F227_calls _ _ _ _ _ _ ?_
  unfold F227
  obtain ⟨τ', hτ⟩ : ∃ τ', τf ≠ τ' ∧ τc ≠ τ' ∧ τm ≠ τ' ∧ τu ≠ τ' := ⟨τf + τc + τm + τu + 1, by omega⟩
  refine tcall (c_collect τ' _ _ _ _ _ hB hm hn hk) ?_
  rintro _ s1 ⟨⟨a, c, ss, rfl, hp, hO, hnew⟩, c1⟩
  refine dSl_i ?_
  refine tcall (c_sortHeld u hO hn (hF.ch c1 (by simp)) (hC.ch c1 (by simp)) hC2 (hm.ch c1 (by simp)) (hU.mv c1 (tagn (by simp))) (fun x hx => hp.mem_iff.1 hx) hτ) ?_
  rintro _ s2 ⟨rfl, c2, hO2⟩
  have c3 : Ch [] s s2 := Chg.trans c1 c2 fun j hj hB => by
    cases a with
    | none => simp at hB
    | some b => simp at hB; have := hnew b rfl; omega
  -- the row's mark: as asked
  let s3 : TH := ⟨s2.h, fun j => if j < s.h.size then s2.g j else τ⟩
  have c4 : Ch [] s s3 := ⟨c3.size, fun j hj => by show (if j < s.h.size then s2.g j else τ) = _; rw [if_pos hj]; exact c3.tag j hj, c3.get⟩
  refine ret_t (s := s3) ⟨a, c, ss, rfl, hp, c4, hO2.1, hO2.2.imp id ?_⟩
  rintro ⟨g, o, L, h1, h2, h3⟩
  refine ⟨g, o, L, h1, ⟨h2.get, ?_⟩, h3⟩
  have := hnew _ h1
  show (if g < s.h.size then s2.g g else τ) = τ
  rw [if_neg (by simp at this; omega)]
end Go.Proofs.YtklppdodadkcnaaGreat.E
/- The plain law of GeomApart: which blocks are what; no program here. -/
namespace Go.Proofs.YtklppdodadkcnaaGreat.E
open Go
set_option linter.unusedVariables false
theorem dm {b q t : Int} (hb : 0 < b) (h0 : 0 ≤ t) (h1 : t < b) : (q * b + t) / b = q ∧ (q * b + t) % b = t :=
  (Int.ediv_emod_unique hb).2 ⟨by rw [Int.mul_comm b q]; omega, h0, h1⟩
/-- a block of inodes -/
def tab (b c x : Int) : Prop := 2 ≤ x % b ∧ x % b < 2 + c / 4
instance (b c x : Int) : Decidable (tab b c x) := by unfold tab; infer_instance
def f1 (b c n x : Int) : Int := if x < n * b ∧ ¬ tab b c x then 1 else 0
def f2 (b c n i x : Int) : Int := if (x < n * b ∧ ¬ tab b c x) ∨ x = n * b ∨ x = n * b + 1 ∨ (n * b + (2 + c / 4) ≤ x ∧ x < n * b + (2 + c / 4) + i) then 1 else 0
/-! inodes -/
/-- the first inode of a block -/
def fi (b c x : Int) : Int := x / b * c + (x % b - 2) * 4
def f3 (b c m x : Int) : Int := if tab b c x then (if fi b c x < m then 1 else 0) else 1
theorem mget_none {κ : Type} [DecidableEq κ] {k : κ} {m : List (κ × Value)} (h : k ∉ m.map (·.1)) : mget k m = none := by
  induction m with
  | nil => rfl
  | cons p m ih =>
    obtain ⟨k', v⟩ := p
    simp only [List.map_cons, List.mem_cons, not_or] at h
    simp only [mget, if_neg h.1]; exact ih h.2
theorem mset_new {κ : Type} [DecidableEq κ] {k : κ} {x : Value} {m : List (κ × Value)} (h : k ∉ m.map (·.1)) : mset k x m = m ++ [(k, x)] := by
  induction m with
  | nil => rfl
  | cons p m ih =>
    obtain ⟨k', v⟩ := p
    simp only [List.map_cons, List.mem_cons, not_or] at h
    simp only [mset, if_neg h.1, ih h.2]; rfl
theorem mget_mset {κ : Type} [DecidableEq κ] {k k' : κ} {x : Value} {m : List (κ × Value)} : mget k (mset k' x m) = if k = k' then some x else mget k m := by
  induction m with
  | nil => simp only [mset, mget]
  | cons p m ih =>
    obtain ⟨k2, v⟩ := p
    by_cases h : k' = k2
    · subst h; simp only [mset, if_pos, mget]; by_cases h2 : k = k' <;> simp [h2]
    · simp only [mset, if_neg h, mget, ih]
      by_cases h2 : k = k2
      · subst h2; simp [Ne.symm h]
      · simp [h2]
end Go.Proofs.YtklppdodadkcnaaGreat.E
