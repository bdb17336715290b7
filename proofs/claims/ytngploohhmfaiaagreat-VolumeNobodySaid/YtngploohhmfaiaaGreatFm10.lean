/- The functions' forms in the engine's words, printed by my own program. -/
import Derived.Test.YtngploohhmfaiaaGreatProg
import Derived.Test.YtngploohhmfaiaaGreatEng11
import Derived.KernelRfl
namespace Go.Proofs.YtngploohhmfaiaaGreat.E
open Go Go.Proofs
set_option linter.unusedVariables false
/-- (*bollard/patch.Set).over -/
def F189 (x0 : Option Addr) (x1a : Option Addr) (x1n : Nat) (x1c : Nat) (x2a : Option Addr) (x2n : Nat) (x2c : Nat) (R : Ending → Heap → Prop) (H : Heap) : Prop :=
  HCalls Tryz.prog 107 #[Value.slice x1a x1n x1c] H (Sp.retK (fun v1 H2 =>
  dSl v1 (fun p3 r4 r5 =>
  ∃ I6 : List Value → Heap → Prop,
  ∃ I7 : List Value → Heap → Nat,
  (I6 ([Value.int IntKind.i64 0]) H2) ∧
  ∀ n8 : Int,
  ∀ v9 v10 v11 v12 v13 v14 v15 v16 v17 v18 v19 v20 v21 v22 v23 v24 v25 v26 v27 : Value,
  ∀ H28 : Heap,
  (I6 ([Value.int IntKind.i64 n8]) H28) →
  sB (decide (n8 < (↑x2n : Int))) (nz x2a (fun a30 =>
  ask ((0 : Int) ≤ n8 ∧ n8 < (↑x2n : Int)) (ld H28 (Addr.add a30 (Int.toNat n8 * 1)) (fun v31 =>
  dInt IntKind.i64 v31 (fun n32 =>
  nz x0 (fun a33 =>
  ld H28 (Addr.add a33 2) (fun v34 =>
  dMap v34 (fun p35 =>
  semW Tryz.prog (Instr.lookup 190 (Value.map p35) (Value.int IntKind.i64 n32) false) (pnR R) H28 (fun v38 H39 =>
  dA 5 v38 (fun v40 v41 v42 v43 v44 =>
  al H39 (Obj.cells #[Value.int IntKind.i64 0, Value.int IntKind.i64 0, Value.int IntKind.i64 0, Value.slice none 0 0, Value.slice none 0 0] 194) (fun r45 H46 =>
  st H46 (Addr.mk r45 0 none) v40 (fun H47 =>
  st H47 (Addr.mk r45 1 none) v41 (fun H48 =>
  st H48 (Addr.mk r45 2 none) v42 (fun H49 =>
  st H49 (Addr.mk r45 3 none) v43 (fun H50 =>
  st H50 (Addr.mk r45 4 none) v44 (fun H51 =>
  ld H51 (Addr.mk r45 2 none) (fun v52 =>
  dInt IntKind.i64 v52 (fun n53 =>
  ask ((0 : Int) ≤ n53 ∧ n53 ≤ (↑r4 : Int) ∧ (↑r4 : Int) ≤ (↑r5 : Int) ∧ (↑r5 : Int) ≤ (↑r5 : Int)) (ld H51 (Addr.mk r45 3 none) (fun v54 =>
  dSl v54 (fun p55 r56 r57 =>
  semW Tryz.prog (Builtin.copy_ #[38, 38] 3 #[Value.slice (slO p3 1 n53 (↑r5 : Int)) (Int.toNat (↑r4 : Int) - Int.toNat n53) (Int.toNat (↑r5 : Int) - Int.toNat n53), Value.slice p55 r56 r57]) nopR H51 (fun v60 H61 =>
  dInt IntKind.i64 v60 (fun n62 =>
  wr IntKind.i64 (n8 + 1) (fun n63 =>
  (I6 ([Value.int IntKind.i64 n63]) H61) ∧
  (I7 [Value.int IntKind.i64 n63] H61) < (I7 [Value.int IntKind.i64 n8] H28))))))))))))))))))))))))) (R (Ending.returned (Value.slice p3 r4 r5)) H28))) (pnR R))
theorem F189_eq (x0 : Option Addr) (x1a : Option Addr) (x1n : Nat) (x1c : Nat) (x2a : Option Addr) (x2n : Nat) (x2c : Nat) (R : Ending → Heap → Prop) (H : Heap) : F189 x0 x1a x1n x1c x2a x2n x2c R H = vc Tryz.prog (codeOf Tryz.f189) (.node none .leaf (.node none .leaf (.node none (.node none .leaf (.node none (.node (some ⟨[(15, 3)], [9, 10, 16, 17, 18, 19, 20, 21, 22, 23, 24, 25, 26, 27, 28, 29, 30, 31, 32]⟩) .leaf .leaf) .leaf)) .leaf))) (postV Tryz.prog Tryz.f189 R) ⟨#[Value.pointer x0, Value.slice x1a x1n x1c, Value.slice x2a x2n x2c] ++ Array.replicate (Tryz.f189.ntmps - 3) undef, []⟩ H := by kernel_rfl
theorem F189_calls {R : Ending → Heap → Prop} {H : Heap} (x0 : Option Addr) (x1a : Option Addr) (x1n : Nat) (x1c : Nat) (x2a : Option Addr) (x2n : Nat) (x2c : Nat) (h : F189 x0 x1a x1n x1c x2a x2n x2c R H) : HCalls Tryz.prog 189 #[Value.pointer x0, Value.slice x1a x1n x1c, Value.slice x2a x2n x2c] H R :=
  calls_by (F := F189 x0 x1a x1n x1c x2a x2n x2c R H) (.node none .leaf (.node none .leaf (.node none (.node none .leaf (.node none (.node (some ⟨[(15, 3)], [9, 10, 16, 17, 18, 19, 20, 21, 22, 23, 24, 25, 26, 27, 28, 29, 30, 31, 32]⟩) .leaf .leaf) .leaf)) .leaf))) Tryz.func189 rfl (F189_eq x0 x1a x1n x1c x2a x2n x2c R H) h
/-- bollard/layout.same -/
def F191 (x0a : Option Addr) (x0n : Nat) (x0c : Nat) (x1a : Option Addr) (x1n : Nat) (x1c : Nat) (R : Ending → Heap → Prop) (H : Heap) : Prop :=
  semW Tryz.prog (convert 38 9 (Value.slice x0a x0n x0c)) (pnR R) H (fun v3 H4 =>
  dStr v3 (fun s5 =>
  semW Tryz.prog (convert 38 9 (Value.slice x1a x1n x1c)) (pnR R) H4 (fun v8 H9 =>
  dStr v8 (fun s10 =>
  R (Ending.returned (Value.bool (ByteArray.toList s5 == ByteArray.toList s10))) H9))))
theorem F191_eq (x0a : Option Addr) (x0n : Nat) (x0c : Nat) (x1a : Option Addr) (x1n : Nat) (x1c : Nat) (R : Ending → Heap → Prop) (H : Heap) : F191 x0a x0n x0c x1a x1n x1c R H = vc Tryz.prog (codeOf Tryz.f191) .leaf (postV Tryz.prog Tryz.f191 R) ⟨#[Value.slice x0a x0n x0c, Value.slice x1a x1n x1c] ++ Array.replicate (Tryz.f191.ntmps - 2) undef, []⟩ H := by kernel_rfl
theorem F191_calls {R : Ending → Heap → Prop} {H : Heap} (x0a : Option Addr) (x0n : Nat) (x0c : Nat) (x1a : Option Addr) (x1n : Nat) (x1c : Nat) (h : F191 x0a x0n x0c x1a x1n x1c R H) : HCalls Tryz.prog 191 #[Value.slice x0a x0n x0c, Value.slice x1a x1n x1c] H R :=
  calls_by (F := F191 x0a x0n x0c x1a x1n x1c R H) .leaf Tryz.func191 rfl (F191_eq x0a x0n x0c x1a x1n x1c R H) h
/-- (*bollard/patch.Set).free -/
def F192 (x0 : Option Addr) (x1 : Int) (R : Ending → Heap → Prop) (H : Heap) : Prop :=
  al H (Obj.cells #[Value.slice none 0 0] 73) (fun r1 H2 =>
  HCalls Tryz.prog 112 #[Value.pointer x0, Value.int IntKind.i64 x1] H2 (Sp.retK (fun v3 H4 =>
  dSl v3 (fun p5 r6 r7 =>
  ∃ I8 : List Value → Heap → Prop,
  ∃ I9 : List Value → Heap → Nat,
  (I8 ([Value.int IntKind.i64 0]) H4) ∧
  ∀ n10 : Int,
  ∀ v11 v12 v13 v14 v15 v16 v17 v18 v19 v20 v21 v22 v23 v24 v25 v26 v27 v28 v29 v30 v31 v32 v33 v34 v35 : Value,
  ∀ H36 : Heap,
  (I8 ([Value.int IntKind.i64 n10]) H36) →
  sB (decide (n10 < (↑r6 : Int))) (jn (α := VFH 0) (fun H38 =>
  ∀ v39 v40 v41 v42 v43 v44 v45 v46 v47 v48 v49 v50 v51 v52 v53 v54 v55 v56 v57 v58 v59 v60 v61 : Value,
  wr IntKind.i64 (n10 + 1) (fun n62 =>
  (I8 ([Value.int IntKind.i64 n62]) H38) ∧
  (I9 [Value.int IntKind.i64 n62] H38) < (I9 [Value.int IntKind.i64 n10] H36))) (fun k63 =>
  nz p5 (fun a64 =>
  ask ((0 : Int) ≤ n10 ∧ n10 < (↑r6 : Int)) (ld H36 (Addr.add a64 (Int.toNat n10 * 1)) (fun v65 =>
  dInt IntKind.i64 v65 (fun n66 =>
  nz x0 (fun a67 =>
  ld H36 (Addr.add a67 2) (fun v68 =>
  dMap v68 (fun p69 =>
  semW Tryz.prog (Instr.lookup 190 (Value.map p69) (Value.int IntKind.i64 n66) false) (pnR R) H36 (fun v72 H73 =>
  dA 5 v72 (fun v74 v75 v76 v77 v78 =>
  dSl v78 (fun p79 r80 r81 =>
  HCalls Tryz.prog 133 #[Value.pointer x0, Value.slice p79 r80 r81] H73 (Sp.retK (fun v82 H83 =>
  dSl v82 (fun p84 r85 r86 =>
  HCalls Tryz.prog 88 #[Value.slice p84 r85 r86, Value.func (Fn.func 233) #[] #[Value.pointer (some (Addr.mk r1 0 none))]] H83 (Sp.retK (fun v87 H88 =>
  dBl v87 (fun b89 =>
  sB (!b89) (ld H88 (Addr.mk r1 0 none) (fun v90 =>
  dSl v90 (fun p91 r92 r93 =>
  al H88 (Obj.cells #[Value.int IntKind.i64 n66] 3) (fun r94 H95 =>
  semW Tryz.prog (Builtin.append_ #[73, 73] 73 #[Value.slice p91 r92 r93, Value.slice (some (Addr.mk r94 0 none)) 1 1]) (pnR R) H95 (fun v98 H99 =>
  dSl v98 (fun p100 r101 r102 =>
  st H99 (Addr.mk r1 0 none) (Value.slice p100 r101 r102) (fun H103 =>
  k63 H103))))))) (k63 H88))) (pnR R)))) (pnR R)))))))))))))) (ld H36 (Addr.mk r1 0 none) (fun v108 =>
  dSl v108 (fun p109 r110 r111 =>
  R (Ending.returned (Value.slice p109 r110 r111)) H36))))) (pnR R)))
theorem F192_eq (x0 : Option Addr) (x1 : Int) (R : Ending → Heap → Prop) (H : Heap) : F192 x0 x1 R H = vc Tryz.prog (codeOf Tryz.f192) (.node none .leaf (.node none .leaf (.node none (.node none .leaf (.node none (.node (some ⟨[(14, 3)], [7, 8, 9, 15, 16, 17, 18, 19, 20, 21, 22, 23, 24, 25, 26, 27, 28, 29, 30, 31, 32, 33, 34, 35, 36]⟩) (.node none .leaf (.node none .leaf (.node (some ⟨[], [7, 8, 9, 16, 17, 18, 19, 20, 21, 22, 23, 24, 25, 26, 27, 28, 29, 30, 31, 32, 33, 34, 35]⟩) .leaf .leaf))) .leaf) .leaf)) .leaf))) (postV Tryz.prog Tryz.f192 R) ⟨#[Value.pointer x0, Value.int IntKind.i64 x1] ++ Array.replicate (Tryz.f192.ntmps - 2) undef, []⟩ H := by kernel_rfl
theorem F192_calls {R : Ending → Heap → Prop} {H : Heap} (x0 : Option Addr) (x1 : Int) (h : F192 x0 x1 R H) : HCalls Tryz.prog 192 #[Value.pointer x0, Value.int IntKind.i64 x1] H R :=
  calls_by (F := F192 x0 x1 R H) (.node none .leaf (.node none .leaf (.node none (.node none .leaf (.node none (.node (some ⟨[(14, 3)], [7, 8, 9, 15, 16, 17, 18, 19, 20, 21, 22, 23, 24, 25, 26, 27, 28, 29, 30, 31, 32, 33, 34, 35, 36]⟩) (.node none .leaf (.node none .leaf (.node (some ⟨[], [7, 8, 9, 16, 17, 18, 19, 20, 21, 22, 23, 24, 25, 26, 27, 28, 29, 30, 31, 32, 33, 34, 35]⟩) .leaf .leaf))) .leaf) .leaf)) .leaf))) Tryz.func192 rfl (F192_eq x0 x1 R H) h
/-- (*bollard/disk.Disk).look -/
def F193 (x0 : Option Addr) (x1 : Int) (R : Ending → Heap → Prop) (H : Heap) : Prop :=
  HCalls Tryz.prog 87 #[Value.pointer x0] H (Sp.retK (fun v1 H2 =>
  dBl v1 (fun b3 =>
  sB (!b3) (R (Ending.returned (Value.int IntKind.i64 2)) H2) (jn (α := VFH 1) (fun v4 H5 =>
  ∀ v6 v7 v8 v9 v10 v11 v12 v13 v14 v15 : Value,
  dBl v4 (fun b16 =>
  sB b16 (R (Ending.returned (Value.int IntKind.i64 1)) H5) (R (Ending.returned (Value.int IntKind.i64 0)) H5))) (fun k17 =>
  sB (decide (x1 < 0)) (k17 (Value.bool true) H2) (nz x0 (fun a18 =>
  ld H2 a18 (fun v19 =>
  dSl v19 (fun p20 r21 r22 =>
  k17 (Value.bool (decide (x1 ≥ (↑r21 : Int)))) H2)))))))) (pnR R))
theorem F193_eq (x0 : Option Addr) (x1 : Int) (R : Ending → Heap → Prop) (H : Heap) : F193 x0 x1 R H = vc Tryz.prog (codeOf Tryz.f193) (.node none .leaf (.node none .leaf (.node none (.node (some ⟨[(18, 4)], [8, 9, 10, 11, 12, 13, 14, 15, 16, 17]⟩) .leaf .leaf) .leaf))) (postV Tryz.prog Tryz.f193 R) ⟨#[Value.pointer x0, Value.int IntKind.i64 x1] ++ Array.replicate (Tryz.f193.ntmps - 2) undef, []⟩ H := by kernel_rfl
theorem F193_calls {R : Ending → Heap → Prop} {H : Heap} (x0 : Option Addr) (x1 : Int) (h : F193 x0 x1 R H) : HCalls Tryz.prog 193 #[Value.pointer x0, Value.int IntKind.i64 x1] H R :=
  calls_by (F := F193 x0 x1 R H) (.node none .leaf (.node none .leaf (.node none (.node (some ⟨[(18, 4)], [8, 9, 10, 11, 12, 13, 14, 15, 16, 17]⟩) .leaf .leaf) .leaf))) Tryz.func193 rfl (F193_eq x0 x1 R H) h
/-- slices.ContainsFunc[[]bollard/api.Sent,bollard/api.Sent] -/
def F194 (x0a : Option Addr) (x0n : Nat) (x0c : Nat) (x1g : Nat) (x1f : Array Value) (x1c : Array Value) (R : Ending → Heap → Prop) (H : Heap) : Prop :=
  HCalls Tryz.prog 149 #[Value.slice x0a x0n x0c, Value.func (Fn.func x1g) x1f x1c] H (Sp.retK (fun v1 H2 =>
  dInt IntKind.i64 v1 (fun n3 =>
  R (Ending.returned (Value.bool (decide (n3 ≥ 0)))) H2)) (pnR R))
theorem F194_eq (x0a : Option Addr) (x0n : Nat) (x0c : Nat) (x1g : Nat) (x1f : Array Value) (x1c : Array Value) (R : Ending → Heap → Prop) (H : Heap) : F194 x0a x0n x0c x1g x1f x1c R H = vc Tryz.prog (codeOf Tryz.f194) .leaf (postV Tryz.prog Tryz.f194 R) ⟨#[Value.slice x0a x0n x0c, Value.func (Fn.func x1g) x1f x1c] ++ Array.replicate (Tryz.f194.ntmps - 2) undef, []⟩ H := by kernel_rfl
theorem F194_calls {R : Ending → Heap → Prop} {H : Heap} (x0a : Option Addr) (x0n : Nat) (x0c : Nat) (x1g : Nat) (x1f : Array Value) (x1c : Array Value) (h : F194 x0a x0n x0c x1g x1f x1c R H) : HCalls Tryz.prog 194 #[Value.slice x0a x0n x0c, Value.func (Fn.func x1g) x1f x1c] H R :=
  calls_by (F := F194 x0a x0n x0c x1g x1f x1c R H) .leaf Tryz.func194 rfl (F194_eq x0a x0n x0c x1g x1f x1c R H) h
/-- (*bollard/disk.Disk).Write$1 -/
def F195 (x0_0 : Value) (x0_1 : Value) (x0_2 : Value) (f0 : Addr) (R : Ending → Heap → Prop) (H : Heap) : Prop :=
  al H (Obj.cells #[x0_0, x0_1, x0_2] 96) (fun r1 H2 =>
  ld H2 (Addr.mk r1 1 none) (fun v3 =>
  dInt IntKind.i64 v3 (fun n4 =>
  ld H2 f0 (fun v5 =>
  dInt IntKind.i64 v5 (fun n6 =>
  R (Ending.returned (Value.bool (n4 == n6))) H2)))))
theorem F195_eq (x0_0 : Value) (x0_1 : Value) (x0_2 : Value) (f0 : Addr) (R : Ending → Heap → Prop) (H : Heap) : F195 x0_0 x0_1 x0_2 f0 R H = vc Tryz.prog (codeOf Tryz.f195) .leaf (postV Tryz.prog Tryz.f195 R) ⟨#[Value.agg #[x0_0, x0_1, x0_2], Value.pointer (some f0)] ++ Array.replicate (Tryz.f195.ntmps - 2) undef, []⟩ H := by kernel_rfl
theorem F195_calls {R : Ending → Heap → Prop} {H : Heap} (x0_0 : Value) (x0_1 : Value) (x0_2 : Value) (f0 : Addr) (h : F195 x0_0 x0_1 x0_2 f0 R H) : HCalls Tryz.prog 195 #[Value.agg #[x0_0, x0_1, x0_2], Value.pointer (some f0)] H R :=
  calls_by (F := F195 x0_0 x0_1 x0_2 f0 R H) .leaf Tryz.func195 rfl (F195_eq x0_0 x0_1 x0_2 f0 R H) h
/-- slices.Delete[[]bollard/api.Sent,bollard/api.Sent] -/
def F196 (x0a : Option Addr) (x0n : Nat) (x0c : Nat) (x1 : Int) (x2 : Int) (R : Ending → Heap → Prop) (H : Heap) : Prop :=
  ask ((0 : Int) ≤ x1 ∧ x1 ≤ x2 ∧ x2 ≤ (↑x0n : Int) ∧ (↑x0n : Int) ≤ (↑x0c : Int)) (sB (x1 == x2) (R (Ending.returned (Value.slice x0a x0n x0c)) H) (ask ((0 : Int) ≤ (0 : Int) ∧ (0 : Int) ≤ x1 ∧ x1 ≤ (↑x0c : Int) ∧ (↑x0c : Int) ≤ (↑x0c : Int)) (ask ((0 : Int) ≤ x2 ∧ x2 ≤ (↑x0n : Int) ∧ (↑x0n : Int) ≤ (↑x0c : Int) ∧ (↑x0c : Int) ≤ (↑x0c : Int)) (semW Tryz.prog (Builtin.append_ #[93, 93] 93 #[Value.slice (slO x0a 3 0 (↑x0c : Int)) (Int.toNat x1 - Int.toNat 0) (Int.toNat (↑x0c : Int) - Int.toNat 0), Value.slice (slO x0a 3 x2 (↑x0c : Int)) (Int.toNat (↑x0n : Int) - Int.toNat x2) (Int.toNat (↑x0c : Int) - Int.toNat x2)]) nopR H (fun v3 H4 =>
  dSl v3 (fun p5 r6 r7 =>
  ask ((0 : Int) ≤ (↑r6 : Int) ∧ (↑r6 : Int) ≤ (↑x0n : Int) ∧ (↑x0n : Int) ≤ (↑r7 : Int) ∧ (↑r7 : Int) ≤ (↑r7 : Int)) (semW Tryz.prog (Builtin.clear_ #[93] 0 #[Value.slice (slO p5 3 (↑r6 : Int) (↑r7 : Int)) (Int.toNat (↑x0n : Int) - Int.toNat (↑r6 : Int)) (Int.toNat (↑r7 : Int) - Int.toNat (↑r6 : Int))]) (pnR R) H4 (fun v10 H11 =>
  R (Ending.returned (Value.slice p5 r6 r7)) H11))))))))
theorem F196_eq (x0a : Option Addr) (x0n : Nat) (x0c : Nat) (x1 : Int) (x2 : Int) (R : Ending → Heap → Prop) (H : Heap) : F196 x0a x0n x0c x1 x2 R H = vc Tryz.prog (codeOf Tryz.f196) .leaf (postV Tryz.prog Tryz.f196 R) ⟨#[Value.slice x0a x0n x0c, Value.int IntKind.i64 x1, Value.int IntKind.i64 x2] ++ Array.replicate (Tryz.f196.ntmps - 3) undef, []⟩ H := by kernel_rfl
theorem F196_calls {R : Ending → Heap → Prop} {H : Heap} (x0a : Option Addr) (x0n : Nat) (x0c : Nat) (x1 : Int) (x2 : Int) (h : F196 x0a x0n x0c x1 x2 R H) : HCalls Tryz.prog 196 #[Value.slice x0a x0n x0c, Value.int IntKind.i64 x1, Value.int IntKind.i64 x2] H R :=
  calls_by (F := F196 x0a x0n x0c x1 x2 R H) .leaf Tryz.func196 rfl (F196_eq x0a x0n x0c x1 x2 R H) h
/-- (*bollard/cache.Cache).look -/
def F197 (x0 : Option Addr) (x1 : Int) (R : Ending → Heap → Prop) (H : Heap) : Prop :=
  jn (α := VFH 1) (fun v1 H2 =>
  ∀ v3 v4 v5 v6 v7 v8 v9 v10 : Value,
  dBl v1 (fun b11 =>
  sB b11 (R (Ending.returned (Value.int IntKind.i64 2)) H2) (jn (α := VFH 1) (fun v12 H13 =>
  ∀ v14 v15 v16 v17 v18 v19 v20 v21 v22 v23 : Value,
  dBl v12 (fun b24 =>
  sB b24 (R (Ending.returned (Value.int IntKind.i64 1)) H13) (R (Ending.returned (Value.int IntKind.i64 0)) H13))) (fun k25 =>
  sB (decide (x1 < 0)) (k25 (Value.bool true) H2) (nz x0 (fun a26 =>
  ld H2 a26 (fun v27 =>
  dPtr v27 (fun p28 =>
  HCalls Tryz.prog 70 #[Value.pointer p28] H2 (Sp.retK (fun v29 H30 =>
  dInt IntKind.i64 v29 (fun n31 =>
  k25 (Value.bool (decide (x1 ≥ n31))) H30)) (pnR R)))))))))) (fun k34 =>
  sB (Option.isNone x0) (k34 (Value.bool true) H) (nz x0 (fun a35 =>
  ld H (Addr.add a35 2) (fun v36 =>
  dMap v36 (fun p37 =>
  k34 (Value.bool (Option.isNone p37)) H)))))
theorem F197_eq (x0 : Option Addr) (x1 : Int) (R : Ending → Heap → Prop) (H : Heap) : F197 x0 x1 R H = vc Tryz.prog (codeOf Tryz.f197) (.node none .leaf (.node none (.node (some ⟨[(13, 4)], [5, 6, 7, 8, 9, 10, 11, 12]⟩) .leaf .leaf) (.node none (.node (some ⟨[(24, 4)], [14, 15, 16, 17, 18, 19, 20, 21, 22, 23]⟩) .leaf .leaf) .leaf))) (postV Tryz.prog Tryz.f197 R) ⟨#[Value.pointer x0, Value.int IntKind.i64 x1] ++ Array.replicate (Tryz.f197.ntmps - 2) undef, []⟩ H := by kernel_rfl
theorem F197_calls {R : Ending → Heap → Prop} {H : Heap} (x0 : Option Addr) (x1 : Int) (h : F197 x0 x1 R H) : HCalls Tryz.prog 197 #[Value.pointer x0, Value.int IntKind.i64 x1] H R :=
  calls_by (F := F197 x0 x1 R H) (.node none .leaf (.node none (.node (some ⟨[(13, 4)], [5, 6, 7, 8, 9, 10, 11, 12]⟩) .leaf .leaf) (.node none (.node (some ⟨[(24, 4)], [14, 15, 16, 17, 18, 19, 20, 21, 22, 23]⟩) .leaf .leaf) .leaf))) Tryz.func197 rfl (F197_eq x0 x1 R H) h
/-- (*bollard/patch.Set).Done$1 -/
def F198 (x0 : Int) (f0 : Addr) (R : Ending → Heap → Prop) (H : Heap) : Prop :=
  ld H f0 (fun v1 =>
  dPtr v1 (fun p2 =>
  HCalls Tryz.prog 130 #[Value.pointer p2, Value.int IntKind.i64 x0] H (Sp.retK (fun v3 H4 =>
  dBl v3 (fun b5 =>
  R (Ending.returned (Value.bool !b5)) H4)) (pnR R))))
theorem F198_eq (x0 : Int) (f0 : Addr) (R : Ending → Heap → Prop) (H : Heap) : F198 x0 f0 R H = vc Tryz.prog (codeOf Tryz.f198) .leaf (postV Tryz.prog Tryz.f198 R) ⟨#[Value.int IntKind.i64 x0, Value.pointer (some f0)] ++ Array.replicate (Tryz.f198.ntmps - 2) undef, []⟩ H := by kernel_rfl
theorem F198_calls {R : Ending → Heap → Prop} {H : Heap} (x0 : Int) (f0 : Addr) (h : F198 x0 f0 R H) : HCalls Tryz.prog 198 #[Value.int IntKind.i64 x0, Value.pointer (some f0)] H R :=
  calls_by (F := F198 x0 f0 R H) .leaf Tryz.func198 rfl (F198_eq x0 f0 R H) h
/-- slices.IndexFunc[[][]byte,[]byte] -/
def F199 (x0a : Option Addr) (x0n : Nat) (x0c : Nat) (x1g : Nat) (x1f : Array Value) (x1c : Array Value) (R : Ending → Heap → Prop) (H : Heap) : Prop :=
  ∃ I1 : List Value → Heap → Prop,
  ∃ I2 : List Value → Heap → Nat,
  (I1 ([Value.int IntKind.i64 0]) H) ∧
  ∀ n3 : Int,
  ∀ v4 v5 v6 v7 v8 v9 v10 v11 v12 v13 v14 v15 : Value,
  ∀ H16 : Heap,
  (I1 ([Value.int IntKind.i64 n3]) H16) →
  sB (decide (n3 < (↑x0n : Int))) (nz x0a (fun a18 =>
  ask ((0 : Int) ≤ n3 ∧ n3 < (↑x0n : Int)) (ld H16 (Addr.add a18 (Int.toNat n3 * 1)) (fun v19 =>
  dSl v19 (fun p20 r21 r22 =>
  gB (plainFn Tryz.prog x1g) (HCalls Tryz.prog x1g (argsOf x1f [Value.slice p20 r21 r22] x1c) H16 (Sp.retK (fun v23 H24 =>
  dBl v23 (fun b25 =>
  sB b25 (R (Ending.returned (Value.int IntKind.i64 n3)) H24) (wr IntKind.i64 (n3 + 1) (fun n26 =>
  (I1 ([Value.int IntKind.i64 n26]) H24) ∧
  (I2 [Value.int IntKind.i64 n26] H24) < (I2 [Value.int IntKind.i64 n3] H16))))) (pnR R)))))))) (R (Ending.returned (Value.int IntKind.i64 (-1))) H16)
theorem F199_eq (x0a : Option Addr) (x0n : Nat) (x0c : Nat) (x1g : Nat) (x1f : Array Value) (x1c : Array Value) (R : Ending → Heap → Prop) (H : Heap) : F199 x0a x0n x0c x1g x1f x1c R H = vc Tryz.prog (codeOf Tryz.f199) (.node none .leaf (.node none (.node none .leaf (.node none (.node (some ⟨[(8, 3)], [4, 5, 9, 10, 11, 12, 13, 14, 15, 16, 17, 18]⟩) .leaf .leaf) .leaf)) .leaf)) (postV Tryz.prog Tryz.f199 R) ⟨#[Value.slice x0a x0n x0c, Value.func (Fn.func x1g) x1f x1c] ++ Array.replicate (Tryz.f199.ntmps - 2) undef, []⟩ H := by kernel_rfl
theorem F199_calls {R : Ending → Heap → Prop} {H : Heap} (x0a : Option Addr) (x0n : Nat) (x0c : Nat) (x1g : Nat) (x1f : Array Value) (x1c : Array Value) (h : F199 x0a x0n x0c x1g x1f x1c R H) : HCalls Tryz.prog 199 #[Value.slice x0a x0n x0c, Value.func (Fn.func x1g) x1f x1c] H R :=
  calls_by (F := F199 x0a x0n x0c x1g x1f x1c R H) (.node none .leaf (.node none (.node none .leaf (.node none (.node (some ⟨[(8, 3)], [4, 5, 9, 10, 11, 12, 13, 14, 15, 16, 17, 18]⟩) .leaf .leaf) .leaf)) .leaf)) Tryz.func199 rfl (F199_eq x0a x0n x0c x1g x1f x1c R H) h
/-- math/bits.Mul -/
def F200 (x0 : Int) (x1 : Int) (R : Ending → Heap → Prop) (H : Heap) : Prop :=
  HCalls Tryz.prog 235 #[Value.int IntKind.u64 x0, Value.int IntKind.u64 x1] H (Sp.retK (fun v1 H2 =>
  dT 2 v1 (fun v3 v4 =>
  dInt IntKind.u64 v3 (fun n5 =>
  dInt IntKind.u64 v4 (fun n6 =>
  R (Ending.returned (Value.tuple #[Value.int IntKind.u64 n5, Value.int IntKind.u64 n6])) H2)))) (pnR R))
theorem F200_eq (x0 : Int) (x1 : Int) (R : Ending → Heap → Prop) (H : Heap) : F200 x0 x1 R H = vc Tryz.prog (codeOf Tryz.f200) .leaf (postV Tryz.prog Tryz.f200 R) ⟨#[Value.int IntKind.u64 x0, Value.int IntKind.u64 x1] ++ Array.replicate (Tryz.f200.ntmps - 2) undef, []⟩ H := by kernel_rfl
theorem F200_calls {R : Ending → Heap → Prop} {H : Heap} (x0 : Int) (x1 : Int) (h : F200 x0 x1 R H) : HCalls Tryz.prog 200 #[Value.int IntKind.u64 x0, Value.int IntKind.u64 x1] H R :=
  calls_by (F := F200 x0 x1 R H) .leaf Tryz.func200 rfl (F200_eq x0 x1 R H) h
/-- math/bits.Len -/
def F203 (x0 : Int) (R : Ending → Heap → Prop) (H : Heap) : Prop :=
  HCalls Tryz.prog 246 #[Value.int IntKind.u64 x0] H (Sp.retK (fun v1 H2 =>
  dInt IntKind.i64 v1 (fun n3 =>
  R (Ending.returned (Value.int IntKind.i64 n3)) H2)) (pnR R))
theorem F203_eq (x0 : Int) (R : Ending → Heap → Prop) (H : Heap) : F203 x0 R H = vc Tryz.prog (codeOf Tryz.f203) .leaf (postV Tryz.prog Tryz.f203 R) ⟨#[Value.int IntKind.u64 x0] ++ Array.replicate (Tryz.f203.ntmps - 1) undef, []⟩ H := by kernel_rfl
theorem F203_calls {R : Ending → Heap → Prop} {H : Heap} (x0 : Int) (h : F203 x0 R H) : HCalls Tryz.prog 203 #[Value.int IntKind.u64 x0] H R :=
  calls_by (F := F203 x0 R H) .leaf Tryz.func203 rfl (F203_eq x0 R H) h
/-- (*bollard/bollardref09.Volume).Dirty -/
def F204 (x0 : Option Addr) (R : Ending → Heap → Prop) (H : Heap) : Prop :=
  nz x0 (fun a1 =>
  ld H (Addr.add a1 2) (fun v2 =>
  dPtr v2 (fun p3 =>
  HCalls Tryz.prog 247 #[Value.pointer p3] H (Sp.retK (fun v4 H5 =>
  dSl v4 (fun p6 r7 r8 =>
  R (Ending.returned (Value.slice p6 r7 r8)) H5)) (pnR R)))))
theorem F204_eq (x0 : Option Addr) (R : Ending → Heap → Prop) (H : Heap) : F204 x0 R H = vc Tryz.prog (codeOf Tryz.f204) .leaf (postV Tryz.prog Tryz.f204 R) ⟨#[Value.pointer x0] ++ Array.replicate (Tryz.f204.ntmps - 1) undef, []⟩ H := by kernel_rfl
theorem F204_calls {R : Ending → Heap → Prop} {H : Heap} (x0 : Option Addr) (h : F204 x0 R H) : HCalls Tryz.prog 204 #[Value.pointer x0] H R :=
  calls_by (F := F204 x0 R H) .leaf Tryz.func204 rfl (F204_eq x0 R H) h
/-- (*bollard/bollardref09.Volume).onWay -/
def F205 (x0 : Option Addr) (x1 : Int) (R : Ending → Heap → Prop) (H : Heap) : Prop :=
  nz x0 (fun a1 =>
  ld H (Addr.add a1 3) (fun v2 =>
  dSl v2 (fun p3 r4 r5 =>
  ∃ I6 : List Value → Heap → Prop,
  ∃ I7 : List Value → Heap → Nat,
  (I6 ([Value.int IntKind.i64 0]) H) ∧
  ∀ n8 : Int,
  ∀ v9 v10 v11 v12 v13 v14 v15 v16 v17 v18 : Value,
  ∀ H19 : Heap,
  (I6 ([Value.int IntKind.i64 n8]) H19) →
  sB (decide (n8 < (↑r4 : Int))) (nz p3 (fun a21 =>
  ask ((0 : Int) ≤ n8 ∧ n8 < (↑r4 : Int)) (ld H19 (Addr.add a21 (Int.toNat n8 * 4)) (fun v22 =>
  ld H19 (Addr.add (Addr.add a21 (Int.toNat n8 * 4)) 1) (fun v23 =>
  ld H19 (Addr.add (Addr.add a21 (Int.toNat n8 * 4)) 2) (fun v24 =>
  ld H19 (Addr.add (Addr.add a21 (Int.toNat n8 * 4)) 3) (fun v25 =>
  al H19 (Obj.cells #[Value.int IntKind.i64 0, Value.int IntKind.i64 0, Value.slice none 0 0, Value.slice none 0 0] 271) (fun r26 H27 =>
  st H27 (Addr.mk r26 0 none) v22 (fun H28 =>
  st H28 (Addr.mk r26 1 none) v23 (fun H29 =>
  st H29 (Addr.mk r26 2 none) v24 (fun H30 =>
  st H30 (Addr.mk r26 3 none) v25 (fun H31 =>
  ld H31 (Addr.mk r26 1 none) (fun v32 =>
  dInt IntKind.i64 v32 (fun n33 =>
  sB (n33 == x1) (R (Ending.returned (Value.bool true)) H31) (wr IntKind.i64 (n8 + 1) (fun n34 =>
  (I6 ([Value.int IntKind.i64 n34]) H31) ∧
  (I7 [Value.int IntKind.i64 n34] H31) < (I7 [Value.int IntKind.i64 n8] H19))))))))))))))))) (R (Ending.returned (Value.bool false)) H19))))
theorem F205_eq (x0 : Option Addr) (x1 : Int) (R : Ending → Heap → Prop) (H : Heap) : F205 x0 x1 R H = vc Tryz.prog (codeOf Tryz.f205) (.node none .leaf (.node none (.node none .leaf (.node none (.node (some ⟨[(12, 3)], [4, 6, 13, 14, 15, 16, 17, 18, 19, 20]⟩) .leaf .leaf) .leaf)) .leaf)) (postV Tryz.prog Tryz.f205 R) ⟨#[Value.pointer x0, Value.int IntKind.i64 x1] ++ Array.replicate (Tryz.f205.ntmps - 2) undef, []⟩ H := by kernel_rfl
theorem F205_calls {R : Ending → Heap → Prop} {H : Heap} (x0 : Option Addr) (x1 : Int) (h : F205 x0 x1 R H) : HCalls Tryz.prog 205 #[Value.pointer x0, Value.int IntKind.i64 x1] H R :=
  calls_by (F := F205 x0 x1 R H) (.node none .leaf (.node none (.node none .leaf (.node none (.node (some ⟨[(12, 3)], [4, 6, 13, 14, 15, 16, 17, 18, 19, 20]⟩) .leaf .leaf) .leaf)) .leaf)) Tryz.func205 rfl (F205_eq x0 x1 R H) h
/-- (*bollard/bollardref09.Volume).may -/
def F206 (x0 : Option Addr) (x1 : Int) (R : Ending → Heap → Prop) (H : Heap) : Prop :=
  nz x0 (fun a1 =>
  ld H (Addr.add a1 2) (fun v2 =>
  dPtr v2 (fun p3 =>
  ask ((0 : Int) ≤ (128 : Int) ∧ (128 : Int) ≤ (128 : Int) ∧ (128 : Int) ≤ (281474976710656 : Int) ∧ (128 : Int) ≤ (9223372036854775807 : Int)) (al H (Obj.cells (List.toArray (rowZ [Value.int IntKind.u8 0] (Int.toNat 128))) 5) (fun r4 H5 =>
  (ld H5 (Addr.add a1 2) (fun v6 =>
  dPtr v6 (fun p7 =>
  (Value.pointer p7) = (Value.pointer p3)))) ∧
  HCalls Tryz.prog 208 #[Value.pointer p3, Value.int IntKind.i64 x1, Value.slice (some (Addr.mk r4 0 none)) (Int.toNat 128) (Int.toNat 128)] H5 (Sp.retK (fun v8 H9 =>
  dT 3 v8 (fun v10 v11 v12 =>
  dSl v10 (fun p13 r14 r15 =>
  dSl v11 (fun p16 r17 r18 =>
  dInt IntKind.i64 v12 (fun n19 =>
  R (Ending.returned (Value.bool (n19 == 0))) H9))))) nopR))))))
theorem F206_eq (x0 : Option Addr) (x1 : Int) (R : Ending → Heap → Prop) (H : Heap) : F206 x0 x1 R H = vc Tryz.prog (codeOf Tryz.f206) .leaf (postV Tryz.prog Tryz.f206 R) ⟨#[Value.pointer x0, Value.int IntKind.i64 x1] ++ Array.replicate (Tryz.f206.ntmps - 2) undef, []⟩ H := by kernel_rfl
theorem F206_calls {R : Ending → Heap → Prop} {H : Heap} (x0 : Option Addr) (x1 : Int) (h : F206 x0 x1 R H) : HCalls Tryz.prog 206 #[Value.pointer x0, Value.int IntKind.i64 x1] H R :=
  calls_by (F := F206 x0 x1 R H) .leaf Tryz.func206 rfl (F206_eq x0 x1 R H) h
/-- (*bollard/bollardref06.Cache).Get -/
def F207 (x0 : Option Addr) (x1 : Int) (R : Ending → Heap → Prop) (H : Heap) : Prop :=
  jn (α := VFH 1) (fun v1 H2 =>
  ∀ v3 v4 v5 v6 v7 v8 v9 v10 v11 v12 v13 v14 v15 : Value,
  dBl v1 (fun b16 =>
  sB b16 (R (Ending.returned (Value.tuple #[Value.slice none 0 0, Value.int IntKind.i64 1])) H2) (HCalls Tryz.prog 248 #[Value.pointer x0, Value.int IntKind.i64 x1] H2 (Sp.retK (fun v17 H18 =>
  dInt IntKind.i64 v17 (fun n19 =>
  sB (decide (n19 ≥ 0)) (nz x0 (fun a20 =>
  ld H18 (Addr.add a20 3) (fun v21 =>
  dInt IntKind.i64 v21 (fun n22 =>
  wr IntKind.i64 (n22 + 1) (fun n23 =>
  nz x0 (fun a24 =>
  st H18 (Addr.add a24 3) (Value.int IntKind.i64 n23) (fun H25 =>
  nz x0 (fun a26 =>
  ld H25 (Addr.add a26 2) (fun v27 =>
  dSl v27 (fun p28 r29 r30 =>
  nz p28 (fun a31 =>
  ask ((0 : Int) ≤ n19 ∧ n19 < (↑r29 : Int)) (ld H25 (Addr.add a31 (Int.toNat n19 * 3)) (fun v32 =>
  ld H25 (Addr.add (Addr.add a31 (Int.toNat n19 * 3)) 1) (fun v33 =>
  ld H25 (Addr.add (Addr.add a31 (Int.toNat n19 * 3)) 2) (fun v34 =>
  al H25 (Obj.cells #[Value.int IntKind.i64 0, Value.int IntKind.i64 0, Value.slice none 0 0] 299) (fun r35 H36 =>
  st H36 (Addr.mk r35 0 none) v32 (fun H37 =>
  st H37 (Addr.mk r35 1 none) v33 (fun H38 =>
  st H38 (Addr.mk r35 2 none) v34 (fun H39 =>
  HCalls Tryz.prog 249 #[Value.pointer x0, Value.int IntKind.i64 n19] H39 (Sp.retK (fun v40 H41 =>
  nz x0 (fun a42 =>
  ld H41 (Addr.add a42 2) (fun v43 =>
  dSl v43 (fun p44 r45 r46 =>
  ld H41 (Addr.mk r35 0 none) (fun v47 =>
  ld H41 (Addr.mk r35 1 none) (fun v48 =>
  ld H41 (Addr.mk r35 2 none) (fun v49 =>
  al H41 (Obj.cells #[v47, v48, v49] 299) (fun r50 H51 =>
  (ld H51 (Addr.add a42 2) (fun v52 =>
  dSl v52 (fun p53 r54 r55 =>
  (Value.slice p53 r54 r55) = (Value.slice p44 r45 r46)))) ∧
  semW Tryz.prog (Builtin.append_ #[279, 279] 279 #[Value.slice p44 r45 r46, Value.slice (some (Addr.mk r50 0 none)) 1 1]) nopR H51 (fun v58 H59 =>
  dSl v58 (fun p60 r61 r62 =>
  nz x0 (fun a63 =>
  st H59 (Addr.add a63 2) (Value.slice p60 r61 r62) (fun H64 =>
  al H64 (Obj.cells #[] 5) (fun r65 H66 =>
  ld H66 (Addr.mk r35 2 none) (fun v67 =>
  dSl v67 (fun p68 r69 r70 =>
  semW Tryz.prog (Builtin.append_ #[38, 38] 38 #[Value.slice (some (Addr.mk r65 0 none)) 0 0, Value.slice p68 r69 r70]) (pnR R) H66 (fun v73 H74 =>
  dSl v73 (fun p75 r76 r77 =>
  R (Ending.returned (Value.tuple #[Value.slice p75 r76 r77, Value.int IntKind.i64 0])) H74))))))))))))))))) (pnR R))))))))))))))))))))) (nz x0 (fun a80 =>
  ld H18 (Addr.add a80 4) (fun v81 =>
  dInt IntKind.i64 v81 (fun n82 =>
  wr IntKind.i64 (n82 + 1) (fun n83 =>
  nz x0 (fun a84 =>
  st H18 (Addr.add a84 4) (Value.int IntKind.i64 n83) (fun H85 =>
  nz x0 (fun a86 =>
  ld H85 (Addr.add a86 2) (fun v87 =>
  dSl v87 (fun p88 r89 r90 =>
  nz x0 (fun a91 =>
  ld H85 (Addr.add a91 1) (fun v92 =>
  dInt IntKind.i64 v92 (fun n93 =>
  (ld H85 (Addr.add a91 1) (fun v94 =>
  dInt IntKind.i64 v94 (fun n95 =>
  (Value.int IntKind.i64 n95) = (Value.int IntKind.i64 n93)))) ∧
  jn (α := VFH 1) (fun v96 H97 =>
  ∀ v98 v99 v100 v101 v102 : Value,
  dBl v96 (fun b103 =>
  sB b103 (R (Ending.returned (Value.tuple #[Value.slice none 0 0, Value.int IntKind.i64 60])) H97) (nz x0 (fun a104 =>
  ld H97 a104 (fun v105 =>
  dPtr v105 (fun p106 =>
  HCalls Tryz.prog 251 #[Value.pointer p106, Value.int IntKind.i64 x1] H97 (Sp.retK (fun v107 H108 =>
  dT 2 v107 (fun v109 v110 =>
  dSl v109 (fun p111 r112 r113 =>
  dInt IntKind.i64 v110 (fun n114 =>
  sB (n114 != 0) (R (Ending.returned (Value.tuple #[Value.slice none 0 0, Value.int IntKind.i64 n114])) H108) (jn (α := VFH 0) (fun H115 =>
  ∀ v116 v117 v118 v119 v120 : Value,
  nz x0 (fun a121 =>
  ld H115 (Addr.add a121 2) (fun v122 =>
  dSl v122 (fun p123 r124 r125 =>
  al H115 (Obj.cells #[Value.int IntKind.i64 x1, Value.int IntKind.i64 0, Value.slice p111 r112 r113] 299) (fun r126 H127 =>
  semW Tryz.prog (Builtin.append_ #[279, 279] 279 #[Value.slice p123 r124 r125, Value.slice (some (Addr.mk r126 0 none)) 1 1]) (pnR R) H127 (fun v130 H131 =>
  dSl v130 (fun p132 r133 r134 =>
  nz x0 (fun a135 =>
  st H131 (Addr.add a135 2) (Value.slice p132 r133 r134) (fun H136 =>
  al H136 (Obj.cells #[] 5) (fun r137 H138 =>
  semW Tryz.prog (Builtin.append_ #[38, 38] 38 #[Value.slice (some (Addr.mk r137 0 none)) 0 0, Value.slice p111 r112 r113]) (pnR R) H138 (fun v141 H142 =>
  dSl v141 (fun p143 r144 r145 =>
  R (Ending.returned (Value.tuple #[Value.slice p143 r144 r145, Value.int IntKind.i64 0])) H142)))))))))))) (fun k146 =>
  sB (decide ((↑r89 : Int) ≥ n93)) (HCalls Tryz.prog 250 #[Value.pointer x0] H108 (Sp.retK (fun v147 H148 =>
  dInt IntKind.i64 v147 (fun n149 =>
  HCalls Tryz.prog 249 #[Value.pointer x0, Value.int IntKind.i64 n149] H148 (Sp.retK (fun v150 H151 =>
  k146 H151) (pnR R)))) (pnR R))) (k146 H108))))))) (pnR R)))))))) (fun k158 =>
  sB (decide ((↑r89 : Int) ≥ n93)) (HCalls Tryz.prog 250 #[Value.pointer x0] H85 (Sp.retK (fun v159 H160 =>
  dInt IntKind.i64 v159 (fun n161 =>
  k158 (Value.bool (decide (n161 < 0))) H160)) (pnR R))) (k158 (Value.bool false) H85))))))))))))))))) (pnR R))))) (fun k166 =>
  sB (decide (x1 < 0)) (k166 (Value.bool true) H) (nz x0 (fun a167 =>
  ld H a167 (fun v168 =>
  dPtr v168 (fun p169 =>
  nz p169 (fun a170 =>
  ld H a170 (fun v171 =>
  dSl v171 (fun p172 r173 r174 =>
  k166 (Value.bool (decide (x1 ≥ (↑r173 : Int)))) H))))))))
theorem F207_eq (x0 : Option Addr) (x1 : Int) (R : Ending → Heap → Prop) (H : Heap) : F207 x0 x1 R H = vc Tryz.prog (codeOf Tryz.f207) (.node none .leaf (.node none (.node (some ⟨[(24, 4)], [11, 12, 13, 14, 15, 16, 17, 18, 19, 20, 21, 22, 23]⟩) .leaf .leaf) (.node none .leaf (.node none .leaf (.node none .leaf (.node none .leaf (.node none (.node (some ⟨[(83, 4)], [78, 79, 80, 81, 82]⟩) .leaf .leaf) (.node none .leaf (.node none .leaf (.node (some ⟨[], [96, 97, 98, 99, 100]⟩) .leaf .leaf)))))))))) (postV Tryz.prog Tryz.f207 R) ⟨#[Value.pointer x0, Value.int IntKind.i64 x1] ++ Array.replicate (Tryz.f207.ntmps - 2) undef, []⟩ H := by kernel_rfl
theorem F207_calls {R : Ending → Heap → Prop} {H : Heap} (x0 : Option Addr) (x1 : Int) (h : F207 x0 x1 R H) : HCalls Tryz.prog 207 #[Value.pointer x0, Value.int IntKind.i64 x1] H R :=
  calls_by (F := F207 x0 x1 R H) (.node none .leaf (.node none (.node (some ⟨[(24, 4)], [11, 12, 13, 14, 15, 16, 17, 18, 19, 20, 21, 22, 23]⟩) .leaf .leaf) (.node none .leaf (.node none .leaf (.node none .leaf (.node none .leaf (.node none (.node (some ⟨[(83, 4)], [78, 79, 80, 81, 82]⟩) .leaf .leaf) (.node none .leaf (.node none .leaf (.node (some ⟨[], [96, 97, 98, 99, 100]⟩) .leaf .leaf)))))))))) Tryz.func207 rfl (F207_eq x0 x1 R H) h
/-- (*bollard/bollardref07.Set).Plan -/
def F208 (x0 : Option Addr) (x1 : Int) (x2a : Option Addr) (x2n : Nat) (x2c : Nat) (R : Ending → Heap → Prop) (H : Heap) : Prop :=
  sB ((↑x2n : Int) != 128) (R (Ending.returned (Value.tuple #[Value.slice none 0 0, Value.slice none 0 0, Value.int IntKind.i64 1])) H) (HCalls Tryz.prog 252 #[Value.pointer x0, Value.int IntKind.i64 x1] H (Sp.retK (fun v1 H2 =>
  dSl v1 (fun p3 r4 r5 =>
  sB ((↑r4 : Int) == 0) (R (Ending.returned (Value.tuple #[Value.slice none 0 0, Value.slice none 0 0, Value.int IntKind.i64 71])) H2) (HCalls Tryz.prog 253 #[Value.pointer x0, Value.int IntKind.i64 x1, Value.slice x2a x2n x2c, Value.slice p3 r4 r5] H2 (Sp.retK (fun v6 H7 =>
  dSl v6 (fun p8 r9 r10 =>
  R (Ending.returned (Value.tuple #[Value.slice p8 r9 r10, Value.slice p3 r4 r5, Value.int IntKind.i64 0])) H7)) (pnR R))))) (pnR R)))
theorem F208_eq (x0 : Option Addr) (x1 : Int) (x2a : Option Addr) (x2n : Nat) (x2c : Nat) (R : Ending → Heap → Prop) (H : Heap) : F208 x0 x1 x2a x2n x2c R H = vc Tryz.prog (codeOf Tryz.f208) .leaf (postV Tryz.prog Tryz.f208 R) ⟨#[Value.pointer x0, Value.int IntKind.i64 x1, Value.slice x2a x2n x2c] ++ Array.replicate (Tryz.f208.ntmps - 3) undef, []⟩ H := by kernel_rfl
theorem F208_calls {R : Ending → Heap → Prop} {H : Heap} (x0 : Option Addr) (x1 : Int) (x2a : Option Addr) (x2n : Nat) (x2c : Nat) (h : F208 x0 x1 x2a x2n x2c R H) : HCalls Tryz.prog 208 #[Value.pointer x0, Value.int IntKind.i64 x1, Value.slice x2a x2n x2c] H R :=
  calls_by (F := F208 x0 x1 x2a x2n x2c R H) .leaf Tryz.func208 rfl (F208_eq x0 x1 x2a x2n x2c R H) h
/-- (*bollard/bollardref02.Disk).Write -/
def F209 (x0 : Option Addr) (x1 : Int) (x2a : Option Addr) (x2n : Nat) (x2c : Nat) (R : Ending → Heap → Prop) (H : Heap) : Prop :=
  jn (α := VFH 1) (fun v1 H2 =>
  ∀ v3 v4 v5 v6 v7 v8 v9 v10 : Value,
  dBl v1 (fun b11 =>
  sB b11 (R (Ending.returned (Value.tuple #[Value.int IntKind.i64 0, Value.int IntKind.i64 1])) H2) (nz x0 (fun a12 =>
  ld H2 (Addr.add a12 1) (fun v13 =>
  dSl v13 (fun p14 r15 r16 =>
  ∃ I17 : List Value → Heap → Prop,
  ∃ I18 : List Value → Heap → Nat,
  (I17 ([Value.int IntKind.i64 0]) H2) ∧
  ∀ n19 : Int,
  ∀ v20 v21 v22 v23 v24 v25 v26 v27 v28 v29 v30 : Value,
  ∀ H31 : Heap,
  (I17 ([Value.int IntKind.i64 n19]) H31) →
  sB (decide (n19 < (↑r15 : Int))) (nz p14 (fun a33 =>
  ask ((0 : Int) ≤ n19 ∧ n19 < (↑r15 : Int)) (ld H31 (Addr.add a33 (Int.toNat n19 * 3)) (fun v34 =>
  ld H31 (Addr.add (Addr.add a33 (Int.toNat n19 * 3)) 1) (fun v35 =>
  ld H31 (Addr.add (Addr.add a33 (Int.toNat n19 * 3)) 2) (fun v36 =>
  al H31 (Obj.cells #[Value.int IntKind.i64 0, Value.int IntKind.i64 0, Value.slice none 0 0] 96) (fun r37 H38 =>
  st H38 (Addr.mk r37 0 none) v34 (fun H39 =>
  st H39 (Addr.mk r37 1 none) v35 (fun H40 =>
  st H40 (Addr.mk r37 2 none) v36 (fun H41 =>
  ld H41 (Addr.mk r37 1 none) (fun v42 =>
  dInt IntKind.i64 v42 (fun n43 =>
  sB (n43 == x1) (R (Ending.returned (Value.tuple #[Value.int IntKind.i64 0, Value.int IntKind.i64 21])) H41) (wr IntKind.i64 (n19 + 1) (fun n44 =>
  (I17 ([Value.int IntKind.i64 n44]) H41) ∧
  (I18 [Value.int IntKind.i64 n44] H41) < (I18 [Value.int IntKind.i64 n19] H31))))))))))))))) (nz x0 (fun a45 =>
  ld H31 (Addr.add a45 1) (fun v46 =>
  dSl v46 (fun p47 r48 r49 =>
  sB (decide ((↑r48 : Int) ≥ 64)) (R (Ending.returned (Value.tuple #[Value.int IntKind.i64 0, Value.int IntKind.i64 3])) H31) (nz x0 (fun a50 =>
  ld H31 (Addr.add a50 3) (fun v51 =>
  dInt IntKind.i64 v51 (fun n52 =>
  wr IntKind.i64 (n52 + 1) (fun n53 =>
  nz x0 (fun a54 =>
  st H31 (Addr.add a54 3) (Value.int IntKind.i64 n53) (fun H55 =>
  nz x0 (fun a56 =>
  ld H55 (Addr.add a56 1) (fun v57 =>
  dSl v57 (fun p58 r59 r60 =>
  nz x0 (fun a61 =>
  ld H55 (Addr.add a61 3) (fun v62 =>
  dInt IntKind.i64 v62 (fun n63 =>
  HCalls Tryz.prog 181 #[Value.slice x2a x2n x2c] H55 (Sp.retK (fun v64 H65 =>
  dSl v64 (fun p66 r67 r68 =>
  (ld H65 (Addr.add a61 3) (fun v69 =>
  dInt IntKind.i64 v69 (fun n70 =>
  (Value.int IntKind.i64 n70) = (Value.int IntKind.i64 n63)))) ∧
  (ld H65 (Addr.add a56 1) (fun v71 =>
  dSl v71 (fun p72 r73 r74 =>
  (Value.slice p72 r73 r74) = (Value.slice p58 r59 r60)))) ∧
  al H65 (Obj.cells #[Value.int IntKind.i64 n63, Value.int IntKind.i64 x1, Value.slice p66 r67 r68] 96) (fun r75 H76 =>
  (ld H76 (Addr.add a56 1) (fun v77 =>
  dSl v77 (fun p78 r79 r80 =>
  (Value.slice p78 r79 r80) = (Value.slice p58 r59 r60)))) ∧
  semW Tryz.prog (Builtin.append_ #[93, 93] 93 #[Value.slice p58 r59 r60, Value.slice (some (Addr.mk r75 0 none)) 1 1]) nopR H76 (fun v83 H84 =>
  dSl v83 (fun p85 r86 r87 =>
  nz x0 (fun a88 =>
  st H84 (Addr.add a88 1) (Value.slice p85 r86 r87) (fun H89 =>
  nz x0 (fun a90 =>
  ld H89 (Addr.add a90 3) (fun v91 =>
  dInt IntKind.i64 v91 (fun n92 =>
  R (Ending.returned (Value.tuple #[Value.int IntKind.i64 n92, Value.int IntKind.i64 0])) H89)))))))))) nopR)))))))))))))))))))))))) (fun k95 =>
  HCalls Tryz.prog 254 #[Value.pointer x0, Value.int IntKind.i64 x1] H (Sp.retK (fun v96 H97 =>
  dBl v96 (fun b98 =>
  sB (!b98) (k95 (Value.bool true) H97) (k95 (Value.bool ((↑x2n : Int) != 128)) H97))) (pnR R)))
theorem F209_eq (x0 : Option Addr) (x1 : Int) (x2a : Option Addr) (x2n : Nat) (x2c : Nat) (R : Ending → Heap → Prop) (H : Heap) : F209 x0 x1 x2a x2n x2c R H = vc Tryz.prog (codeOf Tryz.f209) (.node none .leaf (.node none (.node (some ⟨[(18, 4)], [10, 11, 12, 13, 14, 15, 16, 17]⟩) .leaf .leaf) (.node none (.node none .leaf (.node none (.node (some ⟨[(24, 3)], [6, 7, 9, 25, 26, 27, 28, 29, 30, 31, 32]⟩) .leaf .leaf) .leaf)) .leaf))) (postV Tryz.prog Tryz.f209 R) ⟨#[Value.pointer x0, Value.int IntKind.i64 x1, Value.slice x2a x2n x2c] ++ Array.replicate (Tryz.f209.ntmps - 3) undef, []⟩ H := by kernel_rfl
theorem F209_calls {R : Ending → Heap → Prop} {H : Heap} (x0 : Option Addr) (x1 : Int) (x2a : Option Addr) (x2n : Nat) (x2c : Nat) (h : F209 x0 x1 x2a x2n x2c R H) : HCalls Tryz.prog 209 #[Value.pointer x0, Value.int IntKind.i64 x1, Value.slice x2a x2n x2c] H R :=
  calls_by (F := F209 x0 x1 x2a x2n x2c R H) (.node none .leaf (.node none (.node (some ⟨[(18, 4)], [10, 11, 12, 13, 14, 15, 16, 17]⟩) .leaf .leaf) (.node none (.node none .leaf (.node none (.node (some ⟨[(24, 3)], [6, 7, 9, 25, 26, 27, 28, 29, 30, 31, 32]⟩) .leaf .leaf) .leaf)) .leaf))) Tryz.func209 rfl (F209_eq x0 x1 x2a x2n x2c R H) h
/-- (*bollard/bollardref02.Disk).Complete -/
def F210 (x0 : Option Addr) (x1 : Int) (x2 : Bool) (R : Ending → Heap → Prop) (H : Heap) : Prop :=
  HCalls Tryz.prog 255 #[Value.pointer x0, Value.int IntKind.i64 x1] H (Sp.retK (fun v1 H2 =>
  dInt IntKind.i64 v1 (fun n3 =>
  sB (decide (n3 < 0)) (R (Ending.returned (Value.int IntKind.i64 20)) H2) (nz x0 (fun a4 =>
  ld H2 (Addr.add a4 1) (fun v5 =>
  dSl v5 (fun p6 r7 r8 =>
  nz p6 (fun a9 =>
  ask ((0 : Int) ≤ n3 ∧ n3 < (↑r7 : Int)) (ld H2 (Addr.add a9 (Int.toNat n3 * 3)) (fun v10 =>
  ld H2 (Addr.add (Addr.add a9 (Int.toNat n3 * 3)) 1) (fun v11 =>
  ld H2 (Addr.add (Addr.add a9 (Int.toNat n3 * 3)) 2) (fun v12 =>
  al H2 (Obj.cells #[Value.int IntKind.i64 0, Value.int IntKind.i64 0, Value.slice none 0 0] 96) (fun r13 H14 =>
  st H14 (Addr.mk r13 0 none) v10 (fun H15 =>
  st H15 (Addr.mk r13 1 none) v11 (fun H16 =>
  st H16 (Addr.mk r13 2 none) v12 (fun H17 =>
  nz x0 (fun a18 =>
  ld H17 (Addr.add a18 1) (fun v19 =>
  dSl v19 (fun p20 r21 r22 =>
  ask ((0 : Int) ≤ (0 : Int) ∧ (0 : Int) ≤ n3 ∧ n3 ≤ (↑r22 : Int) ∧ (↑r22 : Int) ≤ (↑r22 : Int)) (nz x0 (fun a23 =>
  ld H17 (Addr.add a23 1) (fun v24 =>
  dSl v24 (fun p25 r26 r27 =>
  wr IntKind.i64 (n3 + 1) (fun n28 =>
  ask ((0 : Int) ≤ n28 ∧ n28 ≤ (↑r26 : Int) ∧ (↑r26 : Int) ≤ (↑r27 : Int) ∧ (↑r27 : Int) ≤ (↑r27 : Int)) (al H17 (Obj.cells #[] 96) (fun r29 H30 =>
  (ld H30 (Addr.add a23 1) (fun v31 =>
  dSl v31 (fun p32 r33 r34 =>
  (Value.slice p32 r33 r34) = (Value.slice p25 r26 r27)))) ∧
  (ld H30 (Addr.add a18 1) (fun v35 =>
  dSl v35 (fun p36 r37 r38 =>
  (Value.slice p36 r37 r38) = (Value.slice p20 r21 r22)))) ∧
  semW Tryz.prog (Builtin.append_ #[93, 93] 93 #[Value.slice (some (Addr.mk r29 0 none)) 0 0, Value.slice (slO p20 3 0 (↑r22 : Int)) (Int.toNat n3 - Int.toNat 0) (Int.toNat (↑r22 : Int) - Int.toNat 0)]) nopR H30 (fun v41 H42 =>
  dSl v41 (fun p43 r44 r45 =>
  (ld H42 (Addr.add a23 1) (fun v46 =>
  dSl v46 (fun p47 r48 r49 =>
  (Value.slice p47 r48 r49) = (Value.slice p25 r26 r27)))) ∧
  semW Tryz.prog (Builtin.append_ #[93, 93] 93 #[Value.slice p43 r44 r45, Value.slice (slO p25 3 n28 (↑r27 : Int)) (Int.toNat (↑r26 : Int) - Int.toNat n28) (Int.toNat (↑r27 : Int) - Int.toNat n28)]) nopR H42 (fun v52 H53 =>
  dSl v52 (fun p54 r55 r56 =>
  nz x0 (fun a57 =>
  st H53 (Addr.add a57 1) (Value.slice p54 r55 r56) (fun H58 =>
  sB (!x2) (R (Ending.returned (Value.int IntKind.i64 4)) H58) (nz x0 (fun a59 =>
  ld H58 a59 (fun v60 =>
  dSl v60 (fun p61 r62 r63 =>
  ld H58 (Addr.mk r13 1 none) (fun v64 =>
  dInt IntKind.i64 v64 (fun n65 =>
  ld H58 (Addr.mk r13 2 none) (fun v66 =>
  dSl v66 (fun p67 r68 r69 =>
  HCalls Tryz.prog 181 #[Value.slice p67 r68 r69] H58 (Sp.retK (fun v70 H71 =>
  dSl v70 (fun p72 r73 r74 =>
  (ld H71 (Addr.mk r13 1 none) (fun v75 =>
  dInt IntKind.i64 v75 (fun n76 =>
  (Value.int IntKind.i64 n76) = (Value.int IntKind.i64 n65)))) ∧
  (ld H71 a59 (fun v77 =>
  dSl v77 (fun p78 r79 r80 =>
  (Value.slice p78 r79 r80) = (Value.slice p61 r62 r63)))) ∧
  nz p61 (fun a81 =>
  ask ((0 : Int) ≤ n65 ∧ n65 < (↑r62 : Int)) (st H71 (Addr.add a81 (Int.toNat n65 * 1)) (Value.slice p72 r73 r74) (fun H82 =>
  R (Ending.returned (Value.int IntKind.i64 0)) H82))))) nopR)))))))))))))))))))))))))))))))))))))))) (pnR R))
theorem F210_eq (x0 : Option Addr) (x1 : Int) (x2 : Bool) (R : Ending → Heap → Prop) (H : Heap) : F210 x0 x1 x2 R H = vc Tryz.prog (codeOf Tryz.f210) .leaf (postV Tryz.prog Tryz.f210 R) ⟨#[Value.pointer x0, Value.int IntKind.i64 x1, Value.bool x2] ++ Array.replicate (Tryz.f210.ntmps - 3) undef, []⟩ H := by kernel_rfl
theorem F210_calls {R : Ending → Heap → Prop} {H : Heap} (x0 : Option Addr) (x1 : Int) (x2 : Bool) (h : F210 x0 x1 x2 R H) : HCalls Tryz.prog 210 #[Value.pointer x0, Value.int IntKind.i64 x1, Value.bool x2] H R :=
  calls_by (F := F210 x0 x1 x2 R H) .leaf Tryz.func210 rfl (F210_eq x0 x1 x2 R H) h
/-- (*bollard/bollardref06.Cache).Put -/
def F211 (x0 : Option Addr) (x1 : Int) (x2a : Option Addr) (x2n : Nat) (x2c : Nat) (R : Ending → Heap → Prop) (H : Heap) : Prop :=
  jn (α := VFH 1) (fun v1 H2 =>
  ∀ v3 v4 v5 v6 v7 v8 v9 v10 v11 v12 v13 v14 v15 v16 v17 v18 v19 v20 : Value,
  dBl v1 (fun b21 =>
  sB b21 (R (Ending.returned (Value.int IntKind.i64 1)) H2) (HCalls Tryz.prog 248 #[Value.pointer x0, Value.int IntKind.i64 x1] H2 (Sp.retK (fun v22 H23 =>
  dInt IntKind.i64 v22 (fun n24 =>
  jn (α := VFH 0) (fun H25 =>
  ∀ v26 v27 v28 v29 v30 v31 v32 v33 v34 v35 v36 v37 : Value,
  R (Ending.returned (Value.int IntKind.i64 0)) H25) (fun k38 =>
  sB (decide (n24 ≥ 0)) (nz x0 (fun a39 =>
  ld H23 (Addr.add a39 2) (fun v40 =>
  dSl v40 (fun p41 r42 r43 =>
  al H23 (Obj.cells #[] 5) (fun r44 H45 =>
  (ld H45 (Addr.add a39 2) (fun v46 =>
  dSl v46 (fun p47 r48 r49 =>
  (Value.slice p47 r48 r49) = (Value.slice p41 r42 r43)))) ∧
  semW Tryz.prog (Builtin.append_ #[38, 38] 38 #[Value.slice (some (Addr.mk r44 0 none)) 0 0, Value.slice x2a x2n x2c]) nopR H45 (fun v52 H53 =>
  dSl v52 (fun p54 r55 r56 =>
  (ld H53 (Addr.add a39 2) (fun v57 =>
  dSl v57 (fun p58 r59 r60 =>
  (Value.slice p58 r59 r60) = (Value.slice p41 r42 r43)))) ∧
  nz p41 (fun a61 =>
  ask ((0 : Int) ≤ n24 ∧ n24 < (↑r42 : Int)) (st H53 (Addr.add (Addr.add a61 (Int.toNat n24 * 3)) 2) (Value.slice p54 r55 r56) (fun H62 =>
  k38 H62)))))))))) (k38 H23)))) (pnR R))))) (fun k65 =>
  sB (decide (x1 < 0)) (k65 (Value.bool true) H) (nz x0 (fun a66 =>
  ld H a66 (fun v67 =>
  dPtr v67 (fun p68 =>
  nz p68 (fun a69 =>
  ld H a69 (fun v70 =>
  dSl v70 (fun p71 r72 r73 =>
  sB (decide (x1 ≥ (↑r72 : Int))) (k65 (Value.bool true) H) (k65 (Value.bool ((↑x2n : Int) != 128)) H)))))))))
theorem F211_eq (x0 : Option Addr) (x1 : Int) (x2a : Option Addr) (x2n : Nat) (x2c : Nat) (R : Ending → Heap → Prop) (H : Heap) : F211 x0 x1 x2a x2n x2c R H = vc Tryz.prog (codeOf Tryz.f211) (.node none .leaf (.node none (.node (some ⟨[(26, 4)], [8, 9, 10, 11, 12, 13, 14, 15, 16, 17, 18, 19, 20, 21, 22, 23, 24, 25]⟩) .leaf .leaf) (.node none .leaf (.node (some ⟨[], [30, 31, 32, 33, 34, 35, 36, 37, 38, 39, 40, 41]⟩) .leaf .leaf)))) (postV Tryz.prog Tryz.f211 R) ⟨#[Value.pointer x0, Value.int IntKind.i64 x1, Value.slice x2a x2n x2c] ++ Array.replicate (Tryz.f211.ntmps - 3) undef, []⟩ H := by kernel_rfl
theorem F211_calls {R : Ending → Heap → Prop} {H : Heap} (x0 : Option Addr) (x1 : Int) (x2a : Option Addr) (x2n : Nat) (x2c : Nat) (h : F211 x0 x1 x2a x2n x2c R H) : HCalls Tryz.prog 211 #[Value.pointer x0, Value.int IntKind.i64 x1, Value.slice x2a x2n x2c] H R :=
  calls_by (F := F211 x0 x1 x2a x2n x2c R H) (.node none .leaf (.node none (.node (some ⟨[(26, 4)], [8, 9, 10, 11, 12, 13, 14, 15, 16, 17, 18, 19, 20, 21, 22, 23, 24, 25]⟩) .leaf .leaf) (.node none .leaf (.node (some ⟨[], [30, 31, 32, 33, 34, 35, 36, 37, 38, 39, 40, 41]⟩) .leaf .leaf)))) Tryz.func211 rfl (F211_eq x0 x1 x2a x2n x2c R H) h
/-- (*bollard/bollardref07.Set).Done -/
def F212 (x0 : Option Addr) (x1a : Option Addr) (x1n : Nat) (x1c : Nat) (R : Ending → Heap → Prop) (H : Heap) : Prop :=
  ∃ I1 : List Value → Heap → Prop,
  ∃ I2 : List Value → Heap → Nat,
  (I1 ([Value.int IntKind.i64 0]) H) ∧
  ∀ n3 : Int,
  ∀ v4 v5 v6 v7 v8 v9 v10 v11 v12 v13 v14 v15 v16 v17 v18 v19 : Value,
  ∀ H20 : Heap,
  (I1 ([Value.int IntKind.i64 n3]) H20) →
  sB (decide (n3 < (↑x1n : Int))) (nz x1a (fun a22 =>
  ask ((0 : Int) ≤ n3 ∧ n3 < (↑x1n : Int)) (ld H20 (Addr.add a22 (Int.toNat n3 * 1)) (fun v23 =>
  dInt IntKind.i64 v23 (fun n24 =>
  jn (α := VFH 1) (fun v25 H26 =>
  ∀ v27 v28 v29 v30 v31 v32 v33 v34 v35 : Value,
  dBl v25 (fun b36 =>
  sB b36 (R (Ending.returned (Value.int IntKind.i64 70)) H26) (wr IntKind.i64 (n3 + 1) (fun n37 =>
  (I1 ([Value.int IntKind.i64 n37]) H26) ∧
  (I2 [Value.int IntKind.i64 n37] H26) < (I2 [Value.int IntKind.i64 n3] H20))))) (fun k38 =>
  sB (decide (n24 < 1)) (k38 (Value.bool true) H20) (nz x0 (fun a39 =>
  ld H20 (Addr.add a39 1) (fun v40 =>
  dInt IntKind.i64 v40 (fun n41 =>
  k38 (Value.bool (decide (n24 > n41))) H20)))))))))) (nz x0 (fun a42 =>
  ld H20 a42 (fun v43 =>
  dSl v43 (fun p44 r45 r46 =>
  ∃ I47 : List Value → Heap → Prop,
  ∃ I48 : List Value → Heap → Nat,
  (I47 ([Value.int IntKind.i64 0]) H20) ∧
  ∀ n49 : Int,
  ∀ v50 v51 v52 v53 v54 v55 v56 v57 v58 v59 v60 v61 v62 v63 v64 v65 v66 v67 v68 v69 v70 v71 v72 v73 v74 v75 v76 v77 v78 v79 : Value,
  ∀ H80 : Heap,
  (I47 ([Value.int IntKind.i64 n49]) H80) →
  sB (decide (n49 < (↑r45 : Int))) (jn (α := VFH 0) (fun H82 =>
  ∀ v83 v84 v85 v86 v87 v88 v89 v90 v91 v92 v93 v94 v95 v96 v97 v98 v99 v100 v101 v102 v103 v104 v105 v106 v107 v108 v109 v110 : Value,
  wr IntKind.i64 (n49 + 1) (fun n111 =>
  (I47 ([Value.int IntKind.i64 n111]) H82) ∧
  (I48 [Value.int IntKind.i64 n111] H82) < (I48 [Value.int IntKind.i64 n49] H80))) (fun k112 =>
  nz p44 (fun a113 =>
  ask ((0 : Int) ≤ n49 ∧ n49 < (↑r45 : Int)) (ld H80 (Addr.add a113 (Int.toNat n49 * 5)) (fun v114 =>
  ld H80 (Addr.add (Addr.add a113 (Int.toNat n49 * 5)) 1) (fun v115 =>
  ld H80 (Addr.add (Addr.add a113 (Int.toNat n49 * 5)) 2) (fun v116 =>
  ld H80 (Addr.add (Addr.add a113 (Int.toNat n49 * 5)) 3) (fun v117 =>
  ld H80 (Addr.add (Addr.add a113 (Int.toNat n49 * 5)) 4) (fun v118 =>
  al H80 (Obj.cells #[Value.int IntKind.i64 0, Value.int IntKind.i64 0, Value.int IntKind.i64 0, Value.slice none 0 0, Value.slice none 0 0] 194) (fun r119 H120 =>
  st H120 (Addr.mk r119 0 none) v114 (fun H121 =>
  st H121 (Addr.mk r119 1 none) v115 (fun H122 =>
  st H122 (Addr.mk r119 2 none) v116 (fun H123 =>
  st H123 (Addr.mk r119 3 none) v117 (fun H124 =>
  st H124 (Addr.mk r119 4 none) v118 (fun H125 =>
  ld H125 (Addr.mk r119 0 none) (fun v126 =>
  dInt IntKind.i64 v126 (fun n127 =>
  HCalls Tryz.prog 214 #[Value.slice x1a x1n x1c, Value.int IntKind.i64 n127] H125 (Sp.retK (fun v128 H129 =>
  dBl v128 (fun b130 =>
  sB (!b130) (k112 H129) (ld H129 (Addr.mk r119 4 none) (fun v131 =>
  dSl v131 (fun p132 r133 r134 =>
  ∃ I135 : List Value → Heap → Prop,
  ∃ I136 : List Value → Heap → Nat,
  (I135 ([Value.int IntKind.i64 0]) H129) ∧
  ∀ n137 : Int,
  ∀ v138 v139 v140 v141 v142 v143 v144 v145 v146 v147 v148 v149 v150 v151 v152 v153 : Value,
  ∀ H154 : Heap,
  (I135 ([Value.int IntKind.i64 n137]) H154) →
  sB (decide (n137 < (↑r133 : Int))) (nz p132 (fun a156 =>
  ask ((0 : Int) ≤ n137 ∧ n137 < (↑r133 : Int)) (ld H154 (Addr.add a156 (Int.toNat n137 * 1)) (fun v157 =>
  dInt IntKind.i64 v157 (fun n158 =>
  jn (α := VFH 1) (fun v159 H160 =>
  ∀ v161 v162 v163 v164 v165 v166 v167 v168 v169 : Value,
  dBl v159 (fun b170 =>
  sB b170 (R (Ending.returned (Value.int IntKind.i64 3)) H160) (wr IntKind.i64 (n137 + 1) (fun n171 =>
  (I135 ([Value.int IntKind.i64 n171]) H160) ∧
  (I136 [Value.int IntKind.i64 n171] H160) < (I136 [Value.int IntKind.i64 n137] H154))))) (fun k172 =>
  HCalls Tryz.prog 256 #[Value.pointer x0, Value.int IntKind.i64 n158] H154 (Sp.retK (fun v173 H174 =>
  dInt IntKind.i64 v173 (fun n175 =>
  sB (decide (n175 ≥ 0)) (HCalls Tryz.prog 214 #[Value.slice x1a x1n x1c, Value.int IntKind.i64 n158] H174 (Sp.retK (fun v176 H177 =>
  dBl v176 (fun b178 =>
  k172 (Value.bool !b178) H177)) (pnR R))) (k172 (Value.bool false) H174))) (pnR R)))))))) (k112 H154)))))) (pnR R))))))))))))))))))) (nz x0 (fun a185 =>
  ld H80 a185 (fun v186 =>
  dSl v186 (fun p187 r188 r189 =>
  ∃ I190 : List Value → Heap → Prop,
  ∃ I191 : List Value → Heap → Nat,
  (I190 ([Value.slice none 0 0, Value.int IntKind.i64 0]) H80) ∧
  ∀ p192 : Option Addr,
  ∀ r193 : Nat,
  ∀ r194 : Nat,
  ∀ n195 : Int,
  ∀ v196 v197 v198 v199 v200 v201 v202 v203 v204 v205 v206 v207 v208 v209 : Value,
  ∀ H210 : Heap,
  (I190 ([Value.slice p192 r193 r194, Value.int IntKind.i64 n195]) H210) →
  sB (decide (n195 < (↑r188 : Int))) (jn (α := VFH 1) (fun v212 H213 =>
  ∀ v214 v215 v216 v217 v218 v219 v220 v221 v222 v223 v224 v225 : Value,
  dSl v212 (fun p226 r227 r228 =>
  wr IntKind.i64 (n195 + 1) (fun n229 =>
  (I190 ([Value.slice p226 r227 r228, Value.int IntKind.i64 n229]) H213) ∧
  (I191 [Value.slice p226 r227 r228, Value.int IntKind.i64 n229] H213) < (I191 [Value.slice p192 r193 r194, Value.int IntKind.i64 n195] H210)))) (fun k230 =>
  nz p187 (fun a231 =>
  ask ((0 : Int) ≤ n195 ∧ n195 < (↑r188 : Int)) (ld H210 (Addr.add a231 (Int.toNat n195 * 5)) (fun v232 =>
  ld H210 (Addr.add (Addr.add a231 (Int.toNat n195 * 5)) 1) (fun v233 =>
  ld H210 (Addr.add (Addr.add a231 (Int.toNat n195 * 5)) 2) (fun v234 =>
  ld H210 (Addr.add (Addr.add a231 (Int.toNat n195 * 5)) 3) (fun v235 =>
  ld H210 (Addr.add (Addr.add a231 (Int.toNat n195 * 5)) 4) (fun v236 =>
  al H210 (Obj.cells #[Value.int IntKind.i64 0, Value.int IntKind.i64 0, Value.int IntKind.i64 0, Value.slice none 0 0, Value.slice none 0 0] 194) (fun r237 H238 =>
  st H238 (Addr.mk r237 0 none) v232 (fun H239 =>
  st H239 (Addr.mk r237 1 none) v233 (fun H240 =>
  st H240 (Addr.mk r237 2 none) v234 (fun H241 =>
  st H241 (Addr.mk r237 3 none) v235 (fun H242 =>
  st H242 (Addr.mk r237 4 none) v236 (fun H243 =>
  ld H243 (Addr.mk r237 0 none) (fun v244 =>
  dInt IntKind.i64 v244 (fun n245 =>
  HCalls Tryz.prog 214 #[Value.slice x1a x1n x1c, Value.int IntKind.i64 n245] H243 (Sp.retK (fun v246 H247 =>
  dBl v246 (fun b248 =>
  sB (!b248) (ld H247 (Addr.mk r237 0 none) (fun v249 =>
  ld H247 (Addr.mk r237 1 none) (fun v250 =>
  ld H247 (Addr.mk r237 2 none) (fun v251 =>
  ld H247 (Addr.mk r237 3 none) (fun v252 =>
  ld H247 (Addr.mk r237 4 none) (fun v253 =>
  al H247 (Obj.cells #[v249, v250, v251, v252, v253] 194) (fun r254 H255 =>
  semW Tryz.prog (Builtin.append_ #[245, 245] 245 #[Value.slice p192 r193 r194, Value.slice (some (Addr.mk r254 0 none)) 1 1]) (pnR R) H255 (fun v258 H259 =>
  dSl v258 (fun p260 r261 r262 =>
  k230 (Value.slice p260 r261 r262) H259))))))))) (k230 (Value.slice p192 r193 r194) H247))) (pnR R))))))))))))))))))) (nz x0 (fun a265 =>
  st H210 a265 (Value.slice p192 r193 r194) (fun H266 =>
  R (Ending.returned (Value.int IntKind.i64 0)) H266)))))))))))
theorem F212_eq (x0 : Option Addr) (x1a : Option Addr) (x1n : Nat) (x1c : Nat) (R : Ending → Heap → Prop) (H : Heap) : F212 x0 x1a x1n x1c R H = vc Tryz.prog (codeOf Tryz.f212) (.node none .leaf (.node none (.node none .leaf (.node none (.node (some ⟨[(16, 3)], [4, 6, 17, 18, 19, 20, 21, 22, 23, 24, 25, 26, 27, 28, 29, 30]⟩) (.node none .leaf (.node none .leaf (.node none (.node none (.node none .leaf (.node (some ⟨[(29, 4)], [20, 21, 22, 23, 24, 25, 26, 27, 28]⟩) .leaf .leaf)) .leaf) .leaf))) .leaf) .leaf)) (.node none (.node none .leaf (.node none (.node (some ⟨[(36, 3)], [4, 8, 10, 37, 38, 39, 40, 41, 42, 43, 44, 45, 46, 47, 48, 49, 50, 51, 52, 53, 54, 55, 56, 57, 58, 59, 60, 61, 62, 63]⟩) (.node none .leaf (.node none .leaf (.node (some ⟨[], [4, 8, 10, 38, 39, 40, 41, 42, 43, 44, 45, 46, 47, 48, 49, 50, 51, 52, 53, 54, 55, 56, 57, 58, 59, 60, 61, 62]⟩) (.node none (.node none .leaf (.node none .leaf (.node none .leaf (.node none (.node (some ⟨[(48, 3)], [4, 10, 49, 50, 51, 52, 53, 54, 55, 56, 57, 58, 59, 60, 61, 62]⟩) (.node none .leaf (.node none .leaf (.node none (.node none (.node none .leaf (.node (some ⟨[(61, 4)], [52, 53, 54, 55, 56, 57, 58, 59, 60]⟩) .leaf .leaf)) .leaf) .leaf))) .leaf) .leaf)))) .leaf) .leaf))) .leaf) .leaf)) (.node none .leaf (.node none (.node none .leaf (.node none (.node (some ⟨[(11, 245), (69, 3)], [13, 70, 71, 72, 73, 74, 75, 76, 77, 78, 79, 80, 81, 82]⟩) (.node none .leaf (.node none .leaf (.node (some ⟨[(11, 245)], [13, 71, 72, 73, 74, 75, 76, 77, 78, 79, 80, 81]⟩) .leaf .leaf))) .leaf) .leaf)) .leaf))))) (postV Tryz.prog Tryz.f212 R) ⟨#[Value.pointer x0, Value.slice x1a x1n x1c] ++ Array.replicate (Tryz.f212.ntmps - 2) undef, []⟩ H := by kernel_rfl
theorem F212_calls {R : Ending → Heap → Prop} {H : Heap} (x0 : Option Addr) (x1a : Option Addr) (x1n : Nat) (x1c : Nat) (h : F212 x0 x1a x1n x1c R H) : HCalls Tryz.prog 212 #[Value.pointer x0, Value.slice x1a x1n x1c] H R :=
  calls_by (F := F212 x0 x1a x1n x1c R H) (.node none .leaf (.node none (.node none .leaf (.node none (.node (some ⟨[(16, 3)], [4, 6, 17, 18, 19, 20, 21, 22, 23, 24, 25, 26, 27, 28, 29, 30]⟩) (.node none .leaf (.node none .leaf (.node none (.node none (.node none .leaf (.node (some ⟨[(29, 4)], [20, 21, 22, 23, 24, 25, 26, 27, 28]⟩) .leaf .leaf)) .leaf) .leaf))) .leaf) .leaf)) (.node none (.node none .leaf (.node none (.node (some ⟨[(36, 3)], [4, 8, 10, 37, 38, 39, 40, 41, 42, 43, 44, 45, 46, 47, 48, 49, 50, 51, 52, 53, 54, 55, 56, 57, 58, 59, 60, 61, 62, 63]⟩) (.node none .leaf (.node none .leaf (.node (some ⟨[], [4, 8, 10, 38, 39, 40, 41, 42, 43, 44, 45, 46, 47, 48, 49, 50, 51, 52, 53, 54, 55, 56, 57, 58, 59, 60, 61, 62]⟩) (.node none (.node none .leaf (.node none .leaf (.node none .leaf (.node none (.node (some ⟨[(48, 3)], [4, 10, 49, 50, 51, 52, 53, 54, 55, 56, 57, 58, 59, 60, 61, 62]⟩) (.node none .leaf (.node none .leaf (.node none (.node none (.node none .leaf (.node (some ⟨[(61, 4)], [52, 53, 54, 55, 56, 57, 58, 59, 60]⟩) .leaf .leaf)) .leaf) .leaf))) .leaf) .leaf)))) .leaf) .leaf))) .leaf) .leaf)) (.node none .leaf (.node none (.node none .leaf (.node none (.node (some ⟨[(11, 245), (69, 3)], [13, 70, 71, 72, 73, 74, 75, 76, 77, 78, 79, 80, 81, 82]⟩) (.node none .leaf (.node none .leaf (.node (some ⟨[(11, 245)], [13, 71, 72, 73, 74, 75, 76, 77, 78, 79, 80, 81]⟩) .leaf .leaf))) .leaf) .leaf)) .leaf))))) Tryz.func212 rfl (F212_eq x0 x1a x1n x1c R H) h
/-- (*bollard/bollardref07.Set).Now -/
def F213 (x0 : Option Addr) (x1 : Int) (x2a : Option Addr) (x2n : Nat) (x2c : Nat) (R : Ending → Heap → Prop) (H : Heap) : Prop :=
  sB ((↑x2n : Int) != 128) (R (Ending.returned (Value.tuple #[Value.slice none 0 0, Value.int IntKind.i64 1])) H) (HCalls Tryz.prog 257 #[Value.pointer x0, Value.int IntKind.i64 x1] H (Sp.retK (fun v1 H2 =>
  dSl v1 (fun p3 r4 r5 =>
  HCalls Tryz.prog 253 #[Value.pointer x0, Value.int IntKind.i64 x1, Value.slice x2a x2n x2c, Value.slice p3 r4 r5] H2 (Sp.retK (fun v6 H7 =>
  dSl v6 (fun p8 r9 r10 =>
  R (Ending.returned (Value.tuple #[Value.slice p8 r9 r10, Value.int IntKind.i64 0])) H7)) (pnR R)))) (pnR R)))
theorem F213_eq (x0 : Option Addr) (x1 : Int) (x2a : Option Addr) (x2n : Nat) (x2c : Nat) (R : Ending → Heap → Prop) (H : Heap) : F213 x0 x1 x2a x2n x2c R H = vc Tryz.prog (codeOf Tryz.f213) .leaf (postV Tryz.prog Tryz.f213 R) ⟨#[Value.pointer x0, Value.int IntKind.i64 x1, Value.slice x2a x2n x2c] ++ Array.replicate (Tryz.f213.ntmps - 3) undef, []⟩ H := by kernel_rfl
theorem F213_calls {R : Ending → Heap → Prop} {H : Heap} (x0 : Option Addr) (x1 : Int) (x2a : Option Addr) (x2n : Nat) (x2c : Nat) (h : F213 x0 x1 x2a x2n x2c R H) : HCalls Tryz.prog 213 #[Value.pointer x0, Value.int IntKind.i64 x1, Value.slice x2a x2n x2c] H R :=
  calls_by (F := F213 x0 x1 x2a x2n x2c R H) .leaf Tryz.func213 rfl (F213_eq x0 x1 x2a x2n x2c R H) h
/-- bollard/bollardref07.has -/
def F214 (x0a : Option Addr) (x0n : Nat) (x0c : Nat) (x1 : Int) (R : Ending → Heap → Prop) (H : Heap) : Prop :=
  ∃ I1 : List Value → Heap → Prop,
  ∃ I2 : List Value → Heap → Nat,
  (I1 ([Value.int IntKind.i64 0]) H) ∧
  ∀ n3 : Int,
  ∀ v4 v5 v6 v7 v8 v9 v10 v11 v12 : Value,
  ∀ H13 : Heap,
  (I1 ([Value.int IntKind.i64 n3]) H13) →
  sB (decide (n3 < (↑x0n : Int))) (nz x0a (fun a15 =>
  ask ((0 : Int) ≤ n3 ∧ n3 < (↑x0n : Int)) (ld H13 (Addr.add a15 (Int.toNat n3 * 1)) (fun v16 =>
  dInt IntKind.i64 v16 (fun n17 =>
  sB (n17 == x1) (R (Ending.returned (Value.bool true)) H13) (wr IntKind.i64 (n3 + 1) (fun n18 =>
  (I1 ([Value.int IntKind.i64 n18]) H13) ∧
  (I2 [Value.int IntKind.i64 n18] H13) < (I2 [Value.int IntKind.i64 n3] H13)))))))) (R (Ending.returned (Value.bool false)) H13)
theorem F214_eq (x0a : Option Addr) (x0n : Nat) (x0c : Nat) (x1 : Int) (R : Ending → Heap → Prop) (H : Heap) : F214 x0a x0n x0c x1 R H = vc Tryz.prog (codeOf Tryz.f214) (.node none .leaf (.node none (.node none .leaf (.node none (.node (some ⟨[(9, 3)], [4, 6, 10, 11, 12, 13, 14, 15, 16]⟩) .leaf .leaf) .leaf)) .leaf)) (postV Tryz.prog Tryz.f214 R) ⟨#[Value.slice x0a x0n x0c, Value.int IntKind.i64 x1] ++ Array.replicate (Tryz.f214.ntmps - 2) undef, []⟩ H := by kernel_rfl
theorem F214_calls {R : Ending → Heap → Prop} {H : Heap} (x0a : Option Addr) (x0n : Nat) (x0c : Nat) (x1 : Int) (h : F214 x0a x0n x0c x1 R H) : HCalls Tryz.prog 214 #[Value.slice x0a x0n x0c, Value.int IntKind.i64 x1] H R :=
  calls_by (F := F214 x0a x0n x0c x1 R H) (.node none .leaf (.node none (.node none .leaf (.node none (.node (some ⟨[(9, 3)], [4, 6, 10, 11, 12, 13, 14, 15, 16]⟩) .leaf .leaf) .leaf)) .leaf)) Tryz.func214 rfl (F214_eq x0a x0n x0c x1 R H) h
end Go.Proofs.YtngploohhmfaiaaGreat.E
