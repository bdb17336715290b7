/- The functions' forms in the engine's words, printed by my own program. -/
import Derived.Test.YtngploohhmfaiaaGreatProg
import Derived.Test.YtngploohhmfaiaaGreatEng11
import Derived.KernelRfl
namespace Go.Proofs.YtngploohhmfaiaaGreat.E
open Go Go.Proofs
set_option linter.unusedVariables false
/-- (*bollard/bollardplain.Pair).Now -/
def F28 (x0 : Option Addr) (R : Ending → Heap → Prop) (H : Heap) : Prop :=
  nz x0 (fun a1 =>
  ld H (Addr.add a1 1) (fun v2 =>
  dPtr v2 (fun p3 =>
  HCalls Tryz.prog 24 #[Value.pointer p3] H (Sp.retK (fun v4 H5 =>
  dInt IntKind.i64 v4 (fun n6 =>
  ∃ I7 : List Value → Heap → Prop,
  ∃ I8 : List Value → Heap → Nat,
  (I7 ([Value.slice none 0 0, Value.int IntKind.i64 0]) H5) ∧
  ∀ p9 : Option Addr,
  ∀ r10 : Nat,
  ∀ r11 : Nat,
  ∀ n12 : Int,
  ∀ v13 v14 v15 v16 v17 v18 v19 v20 v21 v22 v23 v24 v25 v26 v27 v28 v29 v30 v31 : Value,
  ∀ H32 : Heap,
  (I7 ([Value.slice p9 r10 r11, Value.int IntKind.i64 n12]) H32) →
  sB (decide (n12 < n6)) (nz x0 (fun a34 =>
  ld H32 (Addr.add a34 1) (fun v35 =>
  dPtr v35 (fun p36 =>
  HCalls Tryz.prog 26 #[Value.pointer p36, Value.int IntKind.i64 n12] H32 (Sp.retK (fun v37 H38 =>
  dT 2 v37 (fun v39 v40 =>
  dSl v39 (fun p41 r42 r43 =>
  dInt IntKind.i64 v40 (fun n44 =>
  al H38 (Obj.cells #[Value.slice p41 r42 r43] 38) (fun r45 H46 =>
  semW Tryz.prog (Builtin.append_ #[42, 42] 42 #[Value.slice p9 r10 r11, Value.slice (some (Addr.mk r45 0 none)) 1 1]) (pnR R) H46 (fun v49 H50 =>
  dSl v49 (fun p51 r52 r53 =>
  wr IntKind.i64 (n12 + 1) (fun n54 =>
  (I7 ([Value.slice p51 r52 r53, Value.int IntKind.i64 n54]) H50) ∧
  (I8 [Value.slice p51 r52 r53, Value.int IntKind.i64 n54] H50) < (I8 [Value.slice p9 r10 r11, Value.int IntKind.i64 n12] H32))))))))) (pnR R)))))) (R (Ending.returned (Value.slice p9 r10 r11)) H32))) (pnR R)))))
theorem F28_eq (x0 : Option Addr) (R : Ending → Heap → Prop) (H : Heap) : F28 x0 R H = vc Tryz.prog (codeOf Tryz.f28) (.node none .leaf (.node none .leaf (.node none (.node none .leaf (.node none (.node (some ⟨[(3, 42), (12, 3)], [4, 5, 6, 13, 14, 15, 16, 17, 18, 19, 20, 21, 22, 23, 24, 25, 26, 27, 28]⟩) .leaf .leaf) .leaf)) .leaf))) (postV Tryz.prog Tryz.f28 R) ⟨#[Value.pointer x0] ++ Array.replicate (Tryz.f28.ntmps - 1) undef, []⟩ H := by kernel_rfl
theorem F28_calls {R : Ending → Heap → Prop} {H : Heap} (x0 : Option Addr) (h : F28 x0 R H) : HCalls Tryz.prog 28 #[Value.pointer x0] H R :=
  calls_by (F := F28 x0 R H) (.node none .leaf (.node none .leaf (.node none (.node none .leaf (.node none (.node (some ⟨[(3, 42), (12, 3)], [4, 5, 6, 13, 14, 15, 16, 17, 18, 19, 20, 21, 22, 23, 24, 25, 26, 27, 28]⟩) .leaf .leaf) .leaf)) .leaf))) Tryz.func28 rfl (F28_eq x0 R H) h
/-- bollard/disk.New -/
def F30 (x0 : Int) (R : Ending → Heap → Prop) (H : Heap) : Prop :=
  jn (α := VFH 1) (fun v1 H2 =>
  ∀ v3 v4 v5 v6 v7 : Value,
  dBl v1 (fun b8 =>
  sB b8 (R (Ending.returned (Value.tuple #[Value.pointer none, Value.int IntKind.i64 1])) H2) (al H2 (Obj.map #[] 0) (fun r9 H10 =>
  al H10 (Obj.cells #[Value.slice none 0 0, Value.slice none 0 0, Value.map (some r9), Value.int IntKind.i64 0] 133) (fun r11 H12 =>
  ∃ I13 : List Value → Heap → Prop,
  ∃ I14 : List Value → Heap → Nat,
  (I13 ([Value.int IntKind.i64 0]) H12) ∧
  ∀ n15 : Int,
  ∀ v16 v17 v18 v19 v20 v21 v22 v23 v24 v25 v26 v27 : Value,
  ∀ H28 : Heap,
  (I13 ([Value.int IntKind.i64 n15]) H28) →
  sB (decide (n15 < x0)) (ld H28 (Addr.mk r11 0 none) (fun v30 =>
  dSl v30 (fun p31 r32 r33 =>
  ask ((0 : Int) ≤ (128 : Int) ∧ (128 : Int) ≤ (128 : Int) ∧ (128 : Int) ≤ (281474976710656 : Int) ∧ (128 : Int) ≤ (9223372036854775807 : Int)) (al H28 (Obj.cells (List.toArray (rowZ [Value.int IntKind.u8 0] (Int.toNat 128))) 5) (fun r34 H35 =>
  (ld H35 (Addr.mk r11 0 none) (fun v36 =>
  dSl v36 (fun p37 r38 r39 =>
  (Value.slice p37 r38 r39) = (Value.slice p31 r32 r33)))) ∧
  al H35 (Obj.cells #[Value.slice (some (Addr.mk r34 0 none)) (Int.toNat 128) (Int.toNat 128)] 38) (fun r40 H41 =>
  (ld H41 (Addr.mk r11 0 none) (fun v42 =>
  dSl v42 (fun p43 r44 r45 =>
  (Value.slice p43 r44 r45) = (Value.slice p31 r32 r33)))) ∧
  semW Tryz.prog (Builtin.append_ #[42, 42] 42 #[Value.slice p31 r32 r33, Value.slice (some (Addr.mk r40 0 none)) 1 1]) nopR H41 (fun v48 H49 =>
  dSl v48 (fun p50 r51 r52 =>
  st H49 (Addr.mk r11 0 none) (Value.slice p50 r51 r52) (fun H53 =>
  wr IntKind.i64 (n15 + 1) (fun n54 =>
  (I13 ([Value.int IntKind.i64 n54]) H53) ∧
  (I14 [Value.int IntKind.i64 n54] H53) < (I14 [Value.int IntKind.i64 n15] H28))))))))))) (R (Ending.returned (Value.tuple #[Value.pointer (some (Addr.mk r11 0 none)), Value.int IntKind.i64 0])) H28)))))) (fun k55 =>
  sB (decide (x0 < 1)) (k55 (Value.bool true) H) (k55 (Value.bool (decide (x0 > 2048))) H))
theorem F30_eq (x0 : Int) (R : Ending → Heap → Prop) (H : Heap) : F30 x0 R H = vc Tryz.prog (codeOf Tryz.f30) (.node none .leaf (.node none (.node (some ⟨[(10, 4)], [5, 6, 7, 8, 9]⟩) .leaf .leaf) (.node none .leaf (.node none (.node none .leaf (.node none (.node (some ⟨[(15, 3)], [16, 17, 18, 19, 20, 21, 22, 23, 24, 25, 26, 27]⟩) .leaf .leaf) .leaf)) .leaf)))) (postV Tryz.prog Tryz.f30 R) ⟨#[Value.int IntKind.i64 x0] ++ Array.replicate (Tryz.f30.ntmps - 1) undef, []⟩ H := by kernel_rfl
theorem F30_calls {R : Ending → Heap → Prop} {H : Heap} (x0 : Int) (h : F30 x0 R H) : HCalls Tryz.prog 30 #[Value.int IntKind.i64 x0] H R :=
  calls_by (F := F30 x0 R H) (.node none .leaf (.node none (.node (some ⟨[(10, 4)], [5, 6, 7, 8, 9]⟩) .leaf .leaf) (.node none .leaf (.node none (.node none .leaf (.node none (.node (some ⟨[(15, 3)], [16, 17, 18, 19, 20, 21, 22, 23, 24, 25, 26, 27]⟩) .leaf .leaf) .leaf)) .leaf)))) Tryz.func30 rfl (F30_eq x0 R H) h
/-- bollard/volume.Open -/
def F31 (x0 : Option Addr) (x1 : Int) (R : Ending → Heap → Prop) (H : Heap) : Prop :=
  HCalls Tryz.prog 81 #[Value.pointer x0, Value.int IntKind.i64 x1] H (Sp.retK (fun v1 H2 =>
  dT 2 v1 (fun v3 v4 =>
  dPtr v3 (fun p5 =>
  dInt IntKind.i64 v4 (fun n6 =>
  sB (n6 != 0) (R (Ending.returned (Value.tuple #[Value.pointer none, Value.int IntKind.i64 n6])) H2) (HCalls Tryz.prog 82 #[] H2 (Sp.retK (fun v7 H8 =>
  dPtr v7 (fun p9 =>
  al H8 (Obj.map #[] 0) (fun r10 H11 =>
  al H11 (Obj.cells #[Value.int IntKind.i32 0, Value.int IntKind.u32 0, Value.pointer x0, Value.pointer p5, Value.pointer p9, Value.map (some r10), Value.bool false, Value.bool false, Value.int IntKind.i64 0, Value.map none] 57) (fun r12 H13 =>
  R (Ending.returned (Value.tuple #[Value.pointer (some (Addr.mk r12 0 none)), Value.int IntKind.i64 0])) H13)))) (pnR R))))))) (pnR R))
theorem F31_eq (x0 : Option Addr) (x1 : Int) (R : Ending → Heap → Prop) (H : Heap) : F31 x0 x1 R H = vc Tryz.prog (codeOf Tryz.f31) .leaf (postV Tryz.prog Tryz.f31 R) ⟨#[Value.pointer x0, Value.int IntKind.i64 x1] ++ Array.replicate (Tryz.f31.ntmps - 2) undef, []⟩ H := by kernel_rfl
theorem F31_calls {R : Ending → Heap → Prop} {H : Heap} (x0 : Option Addr) (x1 : Int) (h : F31 x0 x1 R H) : HCalls Tryz.prog 31 #[Value.pointer x0, Value.int IntKind.i64 x1] H R :=
  calls_by (F := F31 x0 x1 R H) .leaf Tryz.func31 rfl (F31_eq x0 x1 R H) h
/-- (*bollard/volume.Volume).Ready -/
def F32 (x0 : Option Addr) (R : Ending → Heap → Prop) (H : Heap) : Prop :=
  HCalls Tryz.prog 68 #[Value.pointer x0] H (Sp.retK (fun v1 H2 =>
  dBl v1 (fun b3 =>
  sB (!b3) (R (Ending.returned (Value.slice none 0 0)) H2) (nz x0 (fun a4 =>
  HCalls Tryz.prog 83 #[Value.pointer x0] H2 (Sp.retK (fun v5 H6 =>
  dSl v5 (fun p7 r8 r9 =>
  HCallsD Tryz.prog 69 #[Value.pointer (some a4)] FrameMode.returning H6 (fun e10 u11 H12 =>
  match e10 with
| Ending.returned v => leavesV Tryz.prog Tryz.f32 (Act.tmps (Act.mk #[Value.pointer x0, undef, Value.slice p7 r8 r9, Value.pointer x0, Value.bool b3, Value.bool !b3, Value.pointer x0, Value.pointer (some a4), Value.pointer (some a4), Value.pointer x0, Value.slice p7 r8 r9] [Deferred.mk (Target.fn (Fn.func 69) #[]) #[Value.pointer (some a4)]])) R [] (settle u11) H12
| Ending.panicked c => leavesV Tryz.prog Tryz.f32 (Act.tmps (Act.mk #[Value.pointer x0, undef, Value.slice p7 r8 r9, Value.pointer x0, Value.bool b3, Value.bool !b3, Value.pointer x0, Value.pointer (some a4), Value.pointer (some a4), Value.pointer x0, Value.slice p7 r8 r9] [Deferred.mk (Target.fn (Fn.func 69) #[]) #[Value.pointer (some a4)]])) R [] (raised u11 c) H12
| Ending.outgrown => False))) (fun c13 H14 =>
  HCallsD Tryz.prog 69 #[Value.pointer (some a4)] (FrameMode.panicking c13) H14 (fun e15 u16 H17 =>
  match e15 with
| Ending.returned v => leavesV Tryz.prog Tryz.f32 (Act.tmps (Act.mk #[Value.pointer x0, undef, Value.slice none 0 0, Value.pointer x0, Value.bool b3, Value.bool !b3, Value.pointer x0, Value.pointer (some a4), Value.pointer (some a4), Value.pointer x0, undef] [Deferred.mk (Target.fn (Fn.func 69) #[]) #[Value.pointer (some a4)]])) R [] (settle u16) H17
| Ending.panicked c => leavesV Tryz.prog Tryz.f32 (Act.tmps (Act.mk #[Value.pointer x0, undef, Value.slice none 0 0, Value.pointer x0, Value.bool b3, Value.bool !b3, Value.pointer x0, Value.pointer (some a4), Value.pointer (some a4), Value.pointer x0, undef] [Deferred.mk (Target.fn (Fn.func 69) #[]) #[Value.pointer (some a4)]])) R [] (raised u16 c) H17
| Ending.outgrown => False))))))) (pnR R))
theorem F32_eq (x0 : Option Addr) (R : Ending → Heap → Prop) (H : Heap) : F32 x0 R H = vc Tryz.prog (codeOf Tryz.f32) .leaf (postV Tryz.prog Tryz.f32 R) ⟨#[Value.pointer x0] ++ Array.replicate (Tryz.f32.ntmps - 1) undef, []⟩ H := by kernel_rfl
theorem F32_calls {R : Ending → Heap → Prop} {H : Heap} (x0 : Option Addr) (h : F32 x0 R H) : HCalls Tryz.prog 32 #[Value.pointer x0] H R :=
  calls_by (F := F32 x0 R H) .leaf Tryz.func32 rfl (F32_eq x0 R H) h
/-- (*bollard/volume.Volume).Write -/
def F33 (x0 : Option Addr) (x1 : Int) (R : Ending → Heap → Prop) (H : Heap) : Prop :=
  HCalls Tryz.prog 68 #[Value.pointer x0] H (Sp.retK (fun v1 H2 =>
  dBl v1 (fun b3 =>
  sB (!b3) (R (Ending.returned (Value.int IntKind.i64 2)) H2) (nz x0 (fun a4 =>
  HCalls Tryz.prog 84 #[Value.pointer x0, Value.int IntKind.i64 x1] H2 (Sp.retK (fun v5 H6 =>
  dInt IntKind.i64 v5 (fun n7 =>
  HCallsD Tryz.prog 69 #[Value.pointer (some a4)] FrameMode.returning H6 (fun e8 u9 H10 =>
  match e8 with
| Ending.returned v => leavesV Tryz.prog Tryz.f33 (Act.tmps (Act.mk #[Value.pointer x0, Value.int IntKind.i64 x1, undef, undef, Value.int IntKind.i64 n7, Value.pointer x0, Value.bool b3, Value.bool !b3, Value.pointer x0, Value.pointer (some a4), Value.pointer (some a4), Value.pointer x0, Value.int IntKind.i64 x1, Value.int IntKind.i64 n7] [Deferred.mk (Target.fn (Fn.func 69) #[]) #[Value.pointer (some a4)]])) R [] (settle u9) H10
| Ending.panicked c => leavesV Tryz.prog Tryz.f33 (Act.tmps (Act.mk #[Value.pointer x0, Value.int IntKind.i64 x1, undef, undef, Value.int IntKind.i64 n7, Value.pointer x0, Value.bool b3, Value.bool !b3, Value.pointer x0, Value.pointer (some a4), Value.pointer (some a4), Value.pointer x0, Value.int IntKind.i64 x1, Value.int IntKind.i64 n7] [Deferred.mk (Target.fn (Fn.func 69) #[]) #[Value.pointer (some a4)]])) R [] (raised u9 c) H10
| Ending.outgrown => False))) (fun c11 H12 =>
  HCallsD Tryz.prog 69 #[Value.pointer (some a4)] (FrameMode.panicking c11) H12 (fun e13 u14 H15 =>
  match e13 with
| Ending.returned v => leavesV Tryz.prog Tryz.f33 (Act.tmps (Act.mk #[Value.pointer x0, Value.int IntKind.i64 x1, undef, undef, Value.int IntKind.i64 0, Value.pointer x0, Value.bool b3, Value.bool !b3, Value.pointer x0, Value.pointer (some a4), Value.pointer (some a4), Value.pointer x0, Value.int IntKind.i64 x1, undef] [Deferred.mk (Target.fn (Fn.func 69) #[]) #[Value.pointer (some a4)]])) R [] (settle u14) H15
| Ending.panicked c => leavesV Tryz.prog Tryz.f33 (Act.tmps (Act.mk #[Value.pointer x0, Value.int IntKind.i64 x1, undef, undef, Value.int IntKind.i64 0, Value.pointer x0, Value.bool b3, Value.bool !b3, Value.pointer x0, Value.pointer (some a4), Value.pointer (some a4), Value.pointer x0, Value.int IntKind.i64 x1, undef] [Deferred.mk (Target.fn (Fn.func 69) #[]) #[Value.pointer (some a4)]])) R [] (raised u14 c) H15
| Ending.outgrown => False))))))) (pnR R))
theorem F33_eq (x0 : Option Addr) (x1 : Int) (R : Ending → Heap → Prop) (H : Heap) : F33 x0 x1 R H = vc Tryz.prog (codeOf Tryz.f33) .leaf (postV Tryz.prog Tryz.f33 R) ⟨#[Value.pointer x0, Value.int IntKind.i64 x1] ++ Array.replicate (Tryz.f33.ntmps - 2) undef, []⟩ H := by kernel_rfl
theorem F33_calls {R : Ending → Heap → Prop} {H : Heap} (x0 : Option Addr) (x1 : Int) (h : F33 x0 x1 R H) : HCalls Tryz.prog 33 #[Value.pointer x0, Value.int IntKind.i64 x1] H R :=
  calls_by (F := F33 x0 x1 R H) .leaf Tryz.func33 rfl (F33_eq x0 x1 R H) h
/-- (*bollard/volume.Volume).Way -/
def F34 (x0 : Option Addr) (R : Ending → Heap → Prop) (H : Heap) : Prop :=
  HCalls Tryz.prog 68 #[Value.pointer x0] H (Sp.retK (fun v1 H2 =>
  dBl v1 (fun b3 =>
  sB (!b3) (R (Ending.returned (Value.slice none 0 0)) H2) (nz x0 (fun a4 =>
  nz x0 (fun a5 =>
  ld H2 (Addr.add a5 2) (fun v6 =>
  dPtr v6 (fun p7 =>
  HCalls Tryz.prog 36 #[Value.pointer p7] H2 (Sp.retK (fun v8 H9 =>
  dSl v8 (fun p10 r11 r12 =>
  ∃ I13 : List Value → Heap → Prop,
  ∃ I14 : List Value → Heap → Nat,
  (I13 ([Value.slice none 0 0, Value.int IntKind.i64 0]) H9) ∧
  ∀ p15 : Option Addr,
  ∀ r16 : Nat,
  ∀ r17 : Nat,
  ∀ n18 : Int,
  ∀ v19 v20 v21 v22 v23 v24 v25 v26 v27 v28 v29 v30 v31 v32 v33 v34 v35 v36 v37 v38 v39 v40 v41 : Value,
  ∀ H42 : Heap,
  (I13 ([Value.slice p15 r16 r17, Value.int IntKind.i64 n18]) H42) →
  sB (decide (n18 < (↑r11 : Int))) (jn (α := VFH 1) (fun v44 H45 =>
  ∀ v46 v47 v48 v49 v50 v51 v52 v53 v54 v55 v56 v57 v58 v59 v60 v61 v62 v63 v64 v65 v66 : Value,
  dSl v44 (fun p67 r68 r69 =>
  wr IntKind.i64 (n18 + 1) (fun n70 =>
  (I13 ([Value.slice p67 r68 r69, Value.int IntKind.i64 n70]) H45) ∧
  (I14 [Value.slice p67 r68 r69, Value.int IntKind.i64 n70] H45) < (I14 [Value.slice p15 r16 r17, Value.int IntKind.i64 n18] H42)))) (fun k71 =>
  nz p10 (fun a72 =>
  ask ((0 : Int) ≤ n18 ∧ n18 < (↑r11 : Int)) (ld H42 (Addr.add a72 (Int.toNat n18 * 3)) (fun v73 =>
  ld H42 (Addr.add (Addr.add a72 (Int.toNat n18 * 3)) 1) (fun v74 =>
  ld H42 (Addr.add (Addr.add a72 (Int.toNat n18 * 3)) 2) (fun v75 =>
  al H42 (Obj.cells #[Value.int IntKind.i64 0, Value.int IntKind.i64 0, Value.slice none 0 0] 96) (fun r76 H77 =>
  st H77 (Addr.mk r76 0 none) v73 (fun H78 =>
  st H78 (Addr.mk r76 1 none) v74 (fun H79 =>
  st H79 (Addr.mk r76 2 none) v75 (fun H80 =>
  nz x0 (fun a81 =>
  ld H80 (Addr.add a81 5) (fun v82 =>
  dMap v82 (fun p83 =>
  ld H80 (Addr.mk r76 0 none) (fun v84 =>
  dInt IntKind.i64 v84 (fun n85 =>
  (semW Tryz.prog (Instr.lookup 52 (Value.map p83) (Value.int IntKind.i64 n85) true) nopR H80 (fun v88 H89 =>
  dT 2 v88 (fun v90 v91 =>
  dA 3 v90 (fun v92 v93 v94 =>
  dBl v91 (fun b95 =>
  al H89 (Obj.cells #[Value.int IntKind.i64 0, Value.slice none 0 0, Value.slice none 0 0] 153) (fun r96 H97 =>
  st H97 (Addr.mk r96 0 none) v92 (fun H98 =>
  st H98 (Addr.mk r96 1 none) v93 (fun H99 =>
  st H99 (Addr.mk r96 2 none) v94 (fun H100 =>
  sB b95 (ld H100 (Addr.mk r76 1 none) (fun v101 =>
  dInt IntKind.i64 v101 (fun n102 =>
  al H100 (Obj.cells #[Value.int IntKind.i64 n102] 3) (fun r103 H104 =>
  semW Tryz.prog (Builtin.append_ #[73, 73] 73 #[Value.slice p15 r16 r17, Value.slice (some (Addr.mk r103 0 none)) 1 1]) (fun c105 H106 =>
  HCallsD Tryz.prog 69 #[Value.pointer (some a4)] (FrameMode.panicking c105) H106 (fun e107 u108 H109 =>
  match e107 with
| Ending.returned v => leavesV Tryz.prog Tryz.f34 (Act.tmps (Act.mk #[Value.pointer x0, undef, Value.slice none 0 0, Value.slice p15 r16 r17, undef, Value.pointer (some (Addr.mk r76 0 none)), Value.pointer (some (Addr.mk r96 0 none)), Value.bool b95, Value.pointer x0, Value.bool b3, Value.bool !b3, Value.pointer x0, Value.pointer (some a4), Value.pointer (some a4), Value.pointer x0, Value.pointer (some a5), Value.pointer (some (Addr.add a5 2)), Value.pointer p7, Value.slice p10 r11 r12, Value.int IntKind.i64 (↑r11 : Int), Value.int IntKind.i64 n18, Value.bool (decide (n18 < (↑r11 : Int))), Value.pointer (some (Addr.add a72 (Int.toNat n18 * 3))), Value.agg #[v73, v74, v75], Value.tuple #[Value.agg #[v92, v93, v94], Value.bool b95], Value.pointer x0, Value.pointer (some a81), Value.pointer (some (Addr.add a81 5)), Value.map p83, Value.pointer (some (Addr.mk r76 0 none)), Value.int IntKind.i64 n85, Value.tuple #[Value.agg #[v92, v93, v94], Value.bool b95], Value.agg #[v92, v93, v94], Value.bool b95, Value.bool b95, Value.slice p15 r16 r17, Value.pointer (some (Addr.mk r76 1 none)), Value.int IntKind.i64 n102, Value.slice (some (Addr.mk r103 0 none)) 1 1, v40, v41, undef] [Deferred.mk (Target.fn (Fn.func 69) #[]) #[Value.pointer (some a4)]])) R [] (settle u108) H109
| Ending.panicked c => leavesV Tryz.prog Tryz.f34 (Act.tmps (Act.mk #[Value.pointer x0, undef, Value.slice none 0 0, Value.slice p15 r16 r17, undef, Value.pointer (some (Addr.mk r76 0 none)), Value.pointer (some (Addr.mk r96 0 none)), Value.bool b95, Value.pointer x0, Value.bool b3, Value.bool !b3, Value.pointer x0, Value.pointer (some a4), Value.pointer (some a4), Value.pointer x0, Value.pointer (some a5), Value.pointer (some (Addr.add a5 2)), Value.pointer p7, Value.slice p10 r11 r12, Value.int IntKind.i64 (↑r11 : Int), Value.int IntKind.i64 n18, Value.bool (decide (n18 < (↑r11 : Int))), Value.pointer (some (Addr.add a72 (Int.toNat n18 * 3))), Value.agg #[v73, v74, v75], Value.tuple #[Value.agg #[v92, v93, v94], Value.bool b95], Value.pointer x0, Value.pointer (some a81), Value.pointer (some (Addr.add a81 5)), Value.map p83, Value.pointer (some (Addr.mk r76 0 none)), Value.int IntKind.i64 n85, Value.tuple #[Value.agg #[v92, v93, v94], Value.bool b95], Value.agg #[v92, v93, v94], Value.bool b95, Value.bool b95, Value.slice p15 r16 r17, Value.pointer (some (Addr.mk r76 1 none)), Value.int IntKind.i64 n102, Value.slice (some (Addr.mk r103 0 none)) 1 1, v40, v41, undef] [Deferred.mk (Target.fn (Fn.func 69) #[]) #[Value.pointer (some a4)]])) R [] (raised u108 c) H109
| Ending.outgrown => False)) H104 (fun v110 H111 =>
  dSl v110 (fun p112 r113 r114 =>
  k71 (Value.slice p112 r113 r114) H111)))))) (k71 (Value.slice p15 r16 r17) H100)))))))))) ∧
  al H80 (Obj.cells #[Value.int IntKind.i64 0, Value.slice none 0 0, Value.slice none 0 0] 153) (fun r115 H116 =>
  (ld H116 (Addr.mk r76 0 none) (fun v117 =>
  dInt IntKind.i64 v117 (fun n118 =>
  (Value.int IntKind.i64 n118) = (Value.int IntKind.i64 n85)))) ∧
  (ld H116 (Addr.add a81 5) (fun v119 =>
  dMap v119 (fun p120 =>
  (Value.map p120) = (Value.map p83)))) ∧
  semW Tryz.prog (Instr.lookup 52 (Value.map p83) (Value.int IntKind.i64 n85) true) nopR H116 (fun v123 H124 =>
  dT 2 v123 (fun v125 v126 =>
  dA 3 v125 (fun v127 v128 v129 =>
  dBl v126 (fun b130 =>
  st H124 (Addr.mk r115 0 none) v127 (fun H131 =>
  st H131 (Addr.mk r115 1 none) v128 (fun H132 =>
  st H132 (Addr.mk r115 2 none) v129 (fun H133 =>
  sB b130 (ld H133 (Addr.mk r76 1 none) (fun v134 =>
  dInt IntKind.i64 v134 (fun n135 =>
  al H133 (Obj.cells #[Value.int IntKind.i64 n135] 3) (fun r136 H137 =>
  semW Tryz.prog (Builtin.append_ #[73, 73] 73 #[Value.slice p15 r16 r17, Value.slice (some (Addr.mk r136 0 none)) 1 1]) (fun c138 H139 =>
  HCallsD Tryz.prog 69 #[Value.pointer (some a4)] (FrameMode.panicking c138) H139 (fun e140 u141 H142 =>
  match e140 with
| Ending.returned v => leavesV Tryz.prog Tryz.f34 (Act.tmps (Act.mk #[Value.pointer x0, undef, Value.slice none 0 0, Value.slice p15 r16 r17, undef, Value.pointer (some (Addr.mk r76 0 none)), Value.pointer (some (Addr.mk r115 0 none)), Value.bool b130, Value.pointer x0, Value.bool b3, Value.bool !b3, Value.pointer x0, Value.pointer (some a4), Value.pointer (some a4), Value.pointer x0, Value.pointer (some a5), Value.pointer (some (Addr.add a5 2)), Value.pointer p7, Value.slice p10 r11 r12, Value.int IntKind.i64 (↑r11 : Int), Value.int IntKind.i64 n18, Value.bool (decide (n18 < (↑r11 : Int))), Value.pointer (some (Addr.add a72 (Int.toNat n18 * 3))), Value.agg #[v73, v74, v75], Value.tuple #[Value.agg #[v127, v128, v129], Value.bool b130], Value.pointer x0, Value.pointer (some a81), Value.pointer (some (Addr.add a81 5)), Value.map p83, Value.pointer (some (Addr.mk r76 0 none)), Value.int IntKind.i64 n85, Value.tuple #[Value.agg #[v127, v128, v129], Value.bool b130], Value.agg #[v127, v128, v129], Value.bool b130, Value.bool b130, Value.slice p15 r16 r17, Value.pointer (some (Addr.mk r76 1 none)), Value.int IntKind.i64 n135, Value.slice (some (Addr.mk r136 0 none)) 1 1, v40, v41, undef] [Deferred.mk (Target.fn (Fn.func 69) #[]) #[Value.pointer (some a4)]])) R [] (settle u141) H142
| Ending.panicked c => leavesV Tryz.prog Tryz.f34 (Act.tmps (Act.mk #[Value.pointer x0, undef, Value.slice none 0 0, Value.slice p15 r16 r17, undef, Value.pointer (some (Addr.mk r76 0 none)), Value.pointer (some (Addr.mk r115 0 none)), Value.bool b130, Value.pointer x0, Value.bool b3, Value.bool !b3, Value.pointer x0, Value.pointer (some a4), Value.pointer (some a4), Value.pointer x0, Value.pointer (some a5), Value.pointer (some (Addr.add a5 2)), Value.pointer p7, Value.slice p10 r11 r12, Value.int IntKind.i64 (↑r11 : Int), Value.int IntKind.i64 n18, Value.bool (decide (n18 < (↑r11 : Int))), Value.pointer (some (Addr.add a72 (Int.toNat n18 * 3))), Value.agg #[v73, v74, v75], Value.tuple #[Value.agg #[v127, v128, v129], Value.bool b130], Value.pointer x0, Value.pointer (some a81), Value.pointer (some (Addr.add a81 5)), Value.map p83, Value.pointer (some (Addr.mk r76 0 none)), Value.int IntKind.i64 n85, Value.tuple #[Value.agg #[v127, v128, v129], Value.bool b130], Value.agg #[v127, v128, v129], Value.bool b130, Value.bool b130, Value.slice p15 r16 r17, Value.pointer (some (Addr.mk r76 1 none)), Value.int IntKind.i64 n135, Value.slice (some (Addr.mk r136 0 none)) 1 1, v40, v41, undef] [Deferred.mk (Target.fn (Fn.func 69) #[]) #[Value.pointer (some a4)]])) R [] (raised u141 c) H142
| Ending.outgrown => False)) H137 (fun v143 H144 =>
  dSl v143 (fun p145 r146 r147 =>
  k71 (Value.slice p145 r146 r147) H144)))))) (k71 (Value.slice p15 r16 r17) H133))))))))))))))))))))))))) (HCallsD Tryz.prog 69 #[Value.pointer (some a4)] FrameMode.returning H42 (fun e148 u149 H150 =>
  match e148 with
| Ending.returned v => leavesV Tryz.prog Tryz.f34 (Act.tmps (Act.mk #[Value.pointer x0, undef, Value.slice p15 r16 r17, Value.slice p15 r16 r17, undef, v19, v20, v21, Value.pointer x0, Value.bool b3, Value.bool !b3, Value.pointer x0, Value.pointer (some a4), Value.pointer (some a4), Value.pointer x0, Value.pointer (some a5), Value.pointer (some (Addr.add a5 2)), Value.pointer p7, Value.slice p10 r11 r12, Value.int IntKind.i64 (↑r11 : Int), Value.int IntKind.i64 n18, Value.bool (decide (n18 < (↑r11 : Int))), v23, v24, v25, v26, v27, v28, v29, v30, v31, v32, v33, v34, v35, v36, v37, v38, v39, v40, v41, Value.slice p15 r16 r17] [Deferred.mk (Target.fn (Fn.func 69) #[]) #[Value.pointer (some a4)]])) R [] (settle u149) H150
| Ending.panicked c => leavesV Tryz.prog Tryz.f34 (Act.tmps (Act.mk #[Value.pointer x0, undef, Value.slice p15 r16 r17, Value.slice p15 r16 r17, undef, v19, v20, v21, Value.pointer x0, Value.bool b3, Value.bool !b3, Value.pointer x0, Value.pointer (some a4), Value.pointer (some a4), Value.pointer x0, Value.pointer (some a5), Value.pointer (some (Addr.add a5 2)), Value.pointer p7, Value.slice p10 r11 r12, Value.int IntKind.i64 (↑r11 : Int), Value.int IntKind.i64 n18, Value.bool (decide (n18 < (↑r11 : Int))), v23, v24, v25, v26, v27, v28, v29, v30, v31, v32, v33, v34, v35, v36, v37, v38, v39, v40, v41, Value.slice p15 r16 r17] [Deferred.mk (Target.fn (Fn.func 69) #[]) #[Value.pointer (some a4)]])) R [] (raised u149 c) H150
| Ending.outgrown => False)))) (fun c151 H152 =>
  HCallsD Tryz.prog 69 #[Value.pointer (some a4)] (FrameMode.panicking c151) H152 (fun e153 u154 H155 =>
  match e153 with
| Ending.returned v => leavesV Tryz.prog Tryz.f34 (Act.tmps (Act.mk #[Value.pointer x0, undef, Value.slice none 0 0, Value.slice none 0 0, undef, undef, undef, undef, Value.pointer x0, Value.bool b3, Value.bool !b3, Value.pointer x0, Value.pointer (some a4), Value.pointer (some a4), Value.pointer x0, Value.pointer (some a5), Value.pointer (some (Addr.add a5 2)), Value.pointer p7, undef, undef, undef, undef, undef, undef, undef, undef, undef, undef, undef, undef, undef, undef, undef, undef, undef, undef, undef, undef, undef, undef, undef, undef] [Deferred.mk (Target.fn (Fn.func 69) #[]) #[Value.pointer (some a4)]])) R [] (settle u154) H155
| Ending.panicked c => leavesV Tryz.prog Tryz.f34 (Act.tmps (Act.mk #[Value.pointer x0, undef, Value.slice none 0 0, Value.slice none 0 0, undef, undef, undef, undef, Value.pointer x0, Value.bool b3, Value.bool !b3, Value.pointer x0, Value.pointer (some a4), Value.pointer (some a4), Value.pointer x0, Value.pointer (some a5), Value.pointer (some (Addr.add a5 2)), Value.pointer p7, undef, undef, undef, undef, undef, undef, undef, undef, undef, undef, undef, undef, undef, undef, undef, undef, undef, undef, undef, undef, undef, undef, undef, undef] [Deferred.mk (Target.fn (Fn.func 69) #[]) #[Value.pointer (some a4)]])) R [] (raised u154 c) H155
| Ending.outgrown => False)))))))))) (pnR R))
theorem F34_eq (x0 : Option Addr) (R : Ending → Heap → Prop) (H : Heap) : F34 x0 R H = vc Tryz.prog (codeOf Tryz.f34) (.node none .leaf (.node none .leaf (.node none .leaf (.node none .leaf (.node none (.node none .leaf (.node none (.node (some ⟨[(3, 73), (20, 3)], [5, 6, 7, 21, 22, 23, 24, 25, 26, 27, 28, 29, 30, 31, 32, 33, 34, 35, 36, 37, 38, 39, 40]⟩) (.node none .leaf (.node none .leaf (.node (some ⟨[(3, 73)], [5, 6, 7, 22, 23, 24, 25, 26, 27, 28, 29, 30, 31, 32, 33, 34, 35, 36, 37, 38, 39]⟩) .leaf .leaf))) .leaf) .leaf)) .leaf))))) (postV Tryz.prog Tryz.f34 R) ⟨#[Value.pointer x0] ++ Array.replicate (Tryz.f34.ntmps - 1) undef, []⟩ H := by kernel_rfl
theorem F34_calls {R : Ending → Heap → Prop} {H : Heap} (x0 : Option Addr) (h : F34 x0 R H) : HCalls Tryz.prog 34 #[Value.pointer x0] H R :=
  calls_by (F := F34 x0 R H) (.node none .leaf (.node none .leaf (.node none .leaf (.node none .leaf (.node none (.node none .leaf (.node none (.node (some ⟨[(3, 73), (20, 3)], [5, 6, 7, 21, 22, 23, 24, 25, 26, 27, 28, 29, 30, 31, 32, 33, 34, 35, 36, 37, 38, 39, 40]⟩) (.node none .leaf (.node none .leaf (.node (some ⟨[(3, 73)], [5, 6, 7, 22, 23, 24, 25, 26, 27, 28, 29, 30, 31, 32, 33, 34, 35, 36, 37, 38, 39]⟩) .leaf .leaf))) .leaf) .leaf)) .leaf))))) Tryz.func34 rfl (F34_eq x0 R H) h
/-- (*bollard/volume.Volume).Complete -/
def F35 (x0 : Option Addr) (x1 : Int) (x2 : Bool) (R : Ending → Heap → Prop) (H : Heap) : Prop :=
  HCalls Tryz.prog 68 #[Value.pointer x0] H (Sp.retK (fun v1 H2 =>
  dBl v1 (fun b3 =>
  sB (!b3) (R (Ending.returned (Value.int IntKind.i64 2)) H2) (nz x0 (fun a4 =>
  HCalls Tryz.prog 85 #[Value.pointer x0, Value.int IntKind.i64 x1, Value.bool x2] H2 (Sp.retK (fun v5 H6 =>
  dInt IntKind.i64 v5 (fun n7 =>
  HCallsD Tryz.prog 69 #[Value.pointer (some a4)] FrameMode.returning H6 (fun e8 u9 H10 =>
  match e8 with
| Ending.returned v => leavesV Tryz.prog Tryz.f35 (Act.tmps (Act.mk #[Value.pointer x0, Value.int IntKind.i64 x1, Value.bool x2, undef, undef, undef, Value.int IntKind.i64 n7, Value.pointer x0, Value.bool b3, Value.bool !b3, Value.pointer x0, Value.pointer (some a4), Value.pointer (some a4), Value.pointer x0, Value.int IntKind.i64 x1, Value.bool x2, Value.int IntKind.i64 n7] [Deferred.mk (Target.fn (Fn.func 69) #[]) #[Value.pointer (some a4)]])) R [] (settle u9) H10
| Ending.panicked c => leavesV Tryz.prog Tryz.f35 (Act.tmps (Act.mk #[Value.pointer x0, Value.int IntKind.i64 x1, Value.bool x2, undef, undef, undef, Value.int IntKind.i64 n7, Value.pointer x0, Value.bool b3, Value.bool !b3, Value.pointer x0, Value.pointer (some a4), Value.pointer (some a4), Value.pointer x0, Value.int IntKind.i64 x1, Value.bool x2, Value.int IntKind.i64 n7] [Deferred.mk (Target.fn (Fn.func 69) #[]) #[Value.pointer (some a4)]])) R [] (raised u9 c) H10
| Ending.outgrown => False))) (fun c11 H12 =>
  HCallsD Tryz.prog 69 #[Value.pointer (some a4)] (FrameMode.panicking c11) H12 (fun e13 u14 H15 =>
  match e13 with
| Ending.returned v => leavesV Tryz.prog Tryz.f35 (Act.tmps (Act.mk #[Value.pointer x0, Value.int IntKind.i64 x1, Value.bool x2, undef, undef, undef, Value.int IntKind.i64 0, Value.pointer x0, Value.bool b3, Value.bool !b3, Value.pointer x0, Value.pointer (some a4), Value.pointer (some a4), Value.pointer x0, Value.int IntKind.i64 x1, Value.bool x2, undef] [Deferred.mk (Target.fn (Fn.func 69) #[]) #[Value.pointer (some a4)]])) R [] (settle u14) H15
| Ending.panicked c => leavesV Tryz.prog Tryz.f35 (Act.tmps (Act.mk #[Value.pointer x0, Value.int IntKind.i64 x1, Value.bool x2, undef, undef, undef, Value.int IntKind.i64 0, Value.pointer x0, Value.bool b3, Value.bool !b3, Value.pointer x0, Value.pointer (some a4), Value.pointer (some a4), Value.pointer x0, Value.int IntKind.i64 x1, Value.bool x2, undef] [Deferred.mk (Target.fn (Fn.func 69) #[]) #[Value.pointer (some a4)]])) R [] (raised u14 c) H15
| Ending.outgrown => False))))))) (pnR R))
theorem F35_eq (x0 : Option Addr) (x1 : Int) (x2 : Bool) (R : Ending → Heap → Prop) (H : Heap) : F35 x0 x1 x2 R H = vc Tryz.prog (codeOf Tryz.f35) .leaf (postV Tryz.prog Tryz.f35 R) ⟨#[Value.pointer x0, Value.int IntKind.i64 x1, Value.bool x2] ++ Array.replicate (Tryz.f35.ntmps - 3) undef, []⟩ H := by kernel_rfl
theorem F35_calls {R : Ending → Heap → Prop} {H : Heap} (x0 : Option Addr) (x1 : Int) (x2 : Bool) (h : F35 x0 x1 x2 R H) : HCalls Tryz.prog 35 #[Value.pointer x0, Value.int IntKind.i64 x1, Value.bool x2] H R :=
  calls_by (F := F35 x0 x1 x2 R H) .leaf Tryz.func35 rfl (F35_eq x0 x1 x2 R H) h
/-- (*bollard/disk.Disk).Queue -/
def F36 (x0 : Option Addr) (R : Ending → Heap → Prop) (H : Heap) : Prop :=
  sB (Option.isNone x0) (R (Ending.returned (Value.slice none 0 0)) H) (nz x0 (fun a1 =>
  ld H (Addr.add a1 1) (fun v2 =>
  dSl v2 (fun p3 r4 r5 =>
  HCalls Tryz.prog 86 #[Value.slice p3 r4 r5] H (Sp.retK (fun v6 H7 =>
  dSl v6 (fun p8 r9 r10 =>
  R (Ending.returned (Value.slice p8 r9 r10)) H7)) (pnR R))))))
theorem F36_eq (x0 : Option Addr) (R : Ending → Heap → Prop) (H : Heap) : F36 x0 R H = vc Tryz.prog (codeOf Tryz.f36) .leaf (postV Tryz.prog Tryz.f36 R) ⟨#[Value.pointer x0] ++ Array.replicate (Tryz.f36.ntmps - 1) undef, []⟩ H := by kernel_rfl
theorem F36_calls {R : Ending → Heap → Prop} {H : Heap} (x0 : Option Addr) (h : F36 x0 R H) : HCalls Tryz.prog 36 #[Value.pointer x0] H R :=
  calls_by (F := F36 x0 R H) .leaf Tryz.func36 rfl (F36_eq x0 R H) h
/-- (*bollard/disk.Disk).Crash -/
def F37 (x0 : Option Addr) (x1a : Option Addr) (x1n : Nat) (x1c : Nat) (R : Ending → Heap → Prop) (H : Heap) : Prop :=
  al H (Obj.cells #[Value.pointer x0] 49) (fun r1 H2 =>
  ld H2 (Addr.mk r1 0 none) (fun v3 =>
  dPtr v3 (fun p4 =>
  HCalls Tryz.prog 87 #[Value.pointer p4] H2 (Sp.retK (fun v5 H6 =>
  dBl v5 (fun b7 =>
  sB (!b7) (R (Ending.returned (Value.int IntKind.i64 2)) H6) (HCalls Tryz.prog 88 #[Value.slice x1a x1n x1c, Value.func (Fn.func 89) #[] #[Value.pointer (some (Addr.mk r1 0 none))]] H6 (Sp.retK (fun v8 H9 =>
  dBl v8 (fun b10 =>
  sB b10 (R (Ending.returned (Value.int IntKind.i64 20)) H9) (∃ I11 : List Value → Heap → Prop,
  ∃ I12 : List Value → Heap → Nat,
  (I11 ([Value.int IntKind.i64 0]) H9) ∧
  ∀ n13 : Int,
  ∀ v14 v15 v16 v17 v18 v19 v20 v21 v22 v23 v24 v25 v26 v27 v28 v29 v30 v31 v32 v33 v34 v35 v36 v37 v38 : Value,
  ∀ H39 : Heap,
  (I11 ([Value.int IntKind.i64 n13]) H39) →
  sB (decide (n13 < (↑x1n : Int))) (nz x1a (fun a41 =>
  ask ((0 : Int) ≤ n13 ∧ n13 < (↑x1n : Int)) (ld H39 (Addr.add a41 (Int.toNat n13 * 1)) (fun v42 =>
  dInt IntKind.i64 v42 (fun n43 =>
  ld H39 (Addr.mk r1 0 none) (fun v44 =>
  dPtr v44 (fun p45 =>
  nz p45 (fun a46 =>
  ld H39 (Addr.add a46 1) (fun v47 =>
  dSl v47 (fun p48 r49 r50 =>
  ld H39 (Addr.mk r1 0 none) (fun v51 =>
  dPtr v51 (fun p52 =>
  (HCalls Tryz.prog 90 #[Value.pointer p52, Value.int IntKind.i64 n43] H39 (Sp.retK (fun v53 H54 =>
  dInt IntKind.i64 v53 (fun n55 =>
  (ld H54 (Addr.add a46 1) (fun v56 =>
  dSl v56 (fun p57 r58 r59 =>
  (Value.slice p57 r58 r59) = (Value.slice p48 r49 r50)))) ∧
  (ld H54 (Addr.mk r1 0 none) (fun v60 =>
  dPtr v60 (fun p61 =>
  (Value.pointer p61) = (Value.pointer p45)))) ∧
  nz p48 (fun a62 =>
  ask ((0 : Int) ≤ n55 ∧ n55 < (↑r49 : Int)) (ld H54 (Addr.add a62 (Int.toNat n55 * 3)) (fun v63 =>
  ld H54 (Addr.add (Addr.add a62 (Int.toNat n55 * 3)) 1) (fun v64 =>
  ld H54 (Addr.add (Addr.add a62 (Int.toNat n55 * 3)) 2) (fun v65 =>
  al H54 (Obj.cells #[Value.int IntKind.i64 0, Value.int IntKind.i64 0, Value.slice none 0 0] 96) (fun r66 H67 =>
  (ld H67 (Addr.add a62 (Int.toNat n55 * 3)) (fun v68 =>
  ld H67 (Addr.add (Addr.add a62 (Int.toNat n55 * 3)) 1) (fun v69 =>
  ld H67 (Addr.add (Addr.add a62 (Int.toNat n55 * 3)) 2) (fun v70 =>
  (Value.agg #[v68, v69, v70]) = (Value.agg #[v63, v64, v65]))))) ∧
  (ld H67 (Addr.add a46 1) (fun v71 =>
  dSl v71 (fun p72 r73 r74 =>
  (Value.slice p72 r73 r74) = (Value.slice p48 r49 r50)))) ∧
  (ld H67 (Addr.mk r1 0 none) (fun v75 =>
  dPtr v75 (fun p76 =>
  (Value.pointer p76) = (Value.pointer p45)))) ∧
  st H67 (Addr.mk r66 0 none) v63 (fun H77 =>
  st H77 (Addr.mk r66 1 none) v64 (fun H78 =>
  st H78 (Addr.mk r66 2 none) v65 (fun H79 =>
  ld H79 (Addr.mk r1 0 none) (fun v80 =>
  dPtr v80 (fun p81 =>
  nz p81 (fun a82 =>
  ld H79 a82 (fun v83 =>
  dSl v83 (fun p84 r85 r86 =>
  ld H79 (Addr.mk r66 1 none) (fun v87 =>
  dInt IntKind.i64 v87 (fun n88 =>
  ld H79 (Addr.mk r66 2 none) (fun v89 =>
  dSl v89 (fun p90 r91 r92 =>
  HCalls Tryz.prog 48 #[Value.slice p90 r91 r92] H79 (Sp.retK (fun v93 H94 =>
  dSl v93 (fun p95 r96 r97 =>
  (ld H94 (Addr.mk r66 1 none) (fun v98 =>
  dInt IntKind.i64 v98 (fun n99 =>
  (Value.int IntKind.i64 n99) = (Value.int IntKind.i64 n88)))) ∧
  (ld H94 a82 (fun v100 =>
  dSl v100 (fun p101 r102 r103 =>
  (Value.slice p101 r102 r103) = (Value.slice p84 r85 r86)))) ∧
  (ld H94 (Addr.mk r1 0 none) (fun v104 =>
  dPtr v104 (fun p105 =>
  (Value.pointer p105) = (Value.pointer p81)))) ∧
  nz p84 (fun a106 =>
  ask ((0 : Int) ≤ n88 ∧ n88 < (↑r85 : Int)) (st H94 (Addr.add a106 (Int.toNat n88 * 1)) (Value.slice p95 r96 r97) (fun H107 =>
  wr IntKind.i64 (n13 + 1) (fun n108 =>
  (I11 ([Value.int IntKind.i64 n108]) H107) ∧
  (I12 [Value.int IntKind.i64 n108] H107) < (I12 [Value.int IntKind.i64 n13] H39))))))) nopR))))))))))))))))))))) nopR)) ∧
  al H39 (Obj.cells #[Value.int IntKind.i64 0, Value.int IntKind.i64 0, Value.slice none 0 0] 96) (fun r113 H114 =>
  (ld H114 (Addr.mk r1 0 none) (fun v115 =>
  dPtr v115 (fun p116 =>
  (Value.pointer p116) = (Value.pointer p52)))) ∧
  (ld H114 (Addr.add a46 1) (fun v117 =>
  dSl v117 (fun p118 r119 r120 =>
  (Value.slice p118 r119 r120) = (Value.slice p48 r49 r50)))) ∧
  (ld H114 (Addr.mk r1 0 none) (fun v121 =>
  dPtr v121 (fun p122 =>
  (Value.pointer p122) = (Value.pointer p45)))) ∧
  HCalls Tryz.prog 90 #[Value.pointer p52, Value.int IntKind.i64 n43] H114 (Sp.retK (fun v123 H124 =>
  dInt IntKind.i64 v123 (fun n125 =>
  (ld H124 (Addr.add a46 1) (fun v126 =>
  dSl v126 (fun p127 r128 r129 =>
  (Value.slice p127 r128 r129) = (Value.slice p48 r49 r50)))) ∧
  (ld H124 (Addr.mk r1 0 none) (fun v130 =>
  dPtr v130 (fun p131 =>
  (Value.pointer p131) = (Value.pointer p45)))) ∧
  nz p48 (fun a132 =>
  ask ((0 : Int) ≤ n125 ∧ n125 < (↑r49 : Int)) (ld H124 (Addr.add a132 (Int.toNat n125 * 3)) (fun v133 =>
  ld H124 (Addr.add (Addr.add a132 (Int.toNat n125 * 3)) 1) (fun v134 =>
  ld H124 (Addr.add (Addr.add a132 (Int.toNat n125 * 3)) 2) (fun v135 =>
  st H124 (Addr.mk r113 0 none) v133 (fun H136 =>
  st H136 (Addr.mk r113 1 none) v134 (fun H137 =>
  st H137 (Addr.mk r113 2 none) v135 (fun H138 =>
  ld H138 (Addr.mk r1 0 none) (fun v139 =>
  dPtr v139 (fun p140 =>
  nz p140 (fun a141 =>
  ld H138 a141 (fun v142 =>
  dSl v142 (fun p143 r144 r145 =>
  ld H138 (Addr.mk r113 1 none) (fun v146 =>
  dInt IntKind.i64 v146 (fun n147 =>
  ld H138 (Addr.mk r113 2 none) (fun v148 =>
  dSl v148 (fun p149 r150 r151 =>
  HCalls Tryz.prog 48 #[Value.slice p149 r150 r151] H138 (Sp.retK (fun v152 H153 =>
  dSl v152 (fun p154 r155 r156 =>
  (ld H153 (Addr.mk r113 1 none) (fun v157 =>
  dInt IntKind.i64 v157 (fun n158 =>
  (Value.int IntKind.i64 n158) = (Value.int IntKind.i64 n147)))) ∧
  (ld H153 a141 (fun v159 =>
  dSl v159 (fun p160 r161 r162 =>
  (Value.slice p160 r161 r162) = (Value.slice p143 r144 r145)))) ∧
  (ld H153 (Addr.mk r1 0 none) (fun v163 =>
  dPtr v163 (fun p164 =>
  (Value.pointer p164) = (Value.pointer p140)))) ∧
  nz p143 (fun a165 =>
  ask ((0 : Int) ≤ n147 ∧ n147 < (↑r144 : Int)) (st H153 (Addr.add a165 (Int.toNat n147 * 1)) (Value.slice p154 r155 r156) (fun H166 =>
  wr IntKind.i64 (n13 + 1) (fun n167 =>
  (I11 ([Value.int IntKind.i64 n167]) H166) ∧
  (I12 [Value.int IntKind.i64 n167] H166) < (I12 [Value.int IntKind.i64 n13] H39))))))) nopR)))))))))))))))))))) nopR)))))))))))))) (ld H39 (Addr.mk r1 0 none) (fun v172 =>
  dPtr v172 (fun p173 =>
  nz p173 (fun a174 =>
  st H39 (Addr.add a174 1) (Value.slice none 0 0) (fun H175 =>
  ld H175 (Addr.mk r1 0 none) (fun v176 =>
  dPtr v176 (fun p177 =>
  nz p177 (fun a178 =>
  ld H175 (Addr.add a178 2) (fun v179 =>
  dMap v179 (fun p180 =>
  semW Tryz.prog (Builtin.clear_ #[131] 0 #[Value.map p180]) (pnR R) H175 (fun v183 H184 =>
  R (Ending.returned (Value.int IntKind.i64 0)) H184)))))))))))))) (pnR R))))) (pnR R)))))
theorem F37_eq (x0 : Option Addr) (x1a : Option Addr) (x1n : Nat) (x1c : Nat) (R : Ending → Heap → Prop) (H : Heap) : F37 x0 x1a x1n x1c R H = vc Tryz.prog (codeOf Tryz.f37) (.node none .leaf (.node none .leaf (.node none .leaf (.node none (.node none .leaf (.node none (.node (some ⟨[(16, 3)], [6, 7, 17, 18, 19, 20, 21, 22, 23, 24, 25, 26, 27, 28, 29, 30, 31, 32, 33, 34, 35, 36, 37, 38, 39]⟩) .leaf .leaf) .leaf)) .leaf)))) (postV Tryz.prog Tryz.f37 R) ⟨#[Value.pointer x0, Value.slice x1a x1n x1c] ++ Array.replicate (Tryz.f37.ntmps - 2) undef, []⟩ H := by kernel_rfl
theorem F37_calls {R : Ending → Heap → Prop} {H : Heap} (x0 : Option Addr) (x1a : Option Addr) (x1n : Nat) (x1c : Nat) (h : F37 x0 x1a x1n x1c R H) : HCalls Tryz.prog 37 #[Value.pointer x0, Value.slice x1a x1n x1c] H R :=
  calls_by (F := F37 x0 x1a x1n x1c R H) (.node none .leaf (.node none .leaf (.node none .leaf (.node none (.node none .leaf (.node none (.node (some ⟨[(16, 3)], [6, 7, 17, 18, 19, 20, 21, 22, 23, 24, 25, 26, 27, 28, 29, 30, 31, 32, 33, 34, 35, 36, 37, 38, 39]⟩) .leaf .leaf) .leaf)) .leaf)))) Tryz.func37 rfl (F37_eq x0 x1a x1n x1c R H) h
/-- (*bollard/disk.Disk).Image -/
def F38 (x0 : Option Addr) (R : Ending → Heap → Prop) (H : Heap) : Prop :=
  sB (Option.isNone x0) (R (Ending.returned (Value.slice none 0 0)) H) (nz x0 (fun a1 =>
  ld H a1 (fun v2 =>
  dSl v2 (fun p3 r4 r5 =>
  HCalls Tryz.prog 91 #[Value.slice p3 r4 r5] H (Sp.retK (fun v6 H7 =>
  dSl v6 (fun p8 r9 r10 =>
  R (Ending.returned (Value.slice p8 r9 r10)) H7)) (pnR R))))))
theorem F38_eq (x0 : Option Addr) (R : Ending → Heap → Prop) (H : Heap) : F38 x0 R H = vc Tryz.prog (codeOf Tryz.f38) .leaf (postV Tryz.prog Tryz.f38 R) ⟨#[Value.pointer x0] ++ Array.replicate (Tryz.f38.ntmps - 1) undef, []⟩ H := by kernel_rfl
theorem F38_calls {R : Ending → Heap → Prop} {H : Heap} (x0 : Option Addr) (h : F38 x0 R H) : HCalls Tryz.prog 38 #[Value.pointer x0] H R :=
  calls_by (F := F38 x0 R H) .leaf Tryz.func38 rfl (F38_eq x0 R H) h
/-- bollard/alloc.Inode -/
def F40 (x0 : Option Addr) (x1_0 : Value) (x1_1 : Value) (x1_2 : Value) (x2 : Int) (x3 : Bool) (R : Ending → Heap → Prop) (H : Heap) : Prop :=
  al H (Obj.cells #[x1_0, x1_1, x1_2] 32) (fun r1 H2 =>
  False)
theorem F40_eq (x0 : Option Addr) (x1_0 : Value) (x1_1 : Value) (x1_2 : Value) (x2 : Int) (x3 : Bool) (R : Ending → Heap → Prop) (H : Heap) : F40 x0 x1_0 x1_1 x1_2 x2 x3 R H = vc Tryz.prog (codeOf Tryz.f40) .leaf (postV Tryz.prog Tryz.f40 R) ⟨#[Value.pointer x0, Value.agg #[x1_0, x1_1, x1_2], Value.int IntKind.i64 x2, Value.bool x3] ++ Array.replicate (Tryz.f40.ntmps - 4) undef, []⟩ H := by kernel_rfl
theorem F40_calls {R : Ending → Heap → Prop} {H : Heap} (x0 : Option Addr) (x1_0 : Value) (x1_1 : Value) (x1_2 : Value) (x2 : Int) (x3 : Bool) (h : F40 x0 x1_0 x1_1 x1_2 x2 x3 R H) : HCalls Tryz.prog 40 #[Value.pointer x0, Value.agg #[x1_0, x1_1, x1_2], Value.int IntKind.i64 x2, Value.bool x3] H R :=
  calls_by (F := F40 x0 x1_0 x1_1 x1_2 x2 x3 R H) .leaf Tryz.func40 rfl (F40_eq x0 x1_0 x1_1 x1_2 x2 x3 R H) h
/-- bollard/alloc.FreeBlock -/
def F42 (x0 : Option Addr) (x1_0 : Value) (x1_1 : Value) (x1_2 : Value) (x2 : Int) (x3a : Option Addr) (x3n : Nat) (x3c : Nat) (R : Ending → Heap → Prop) (H : Heap) : Prop :=
  al H (Obj.cells #[x1_0, x1_1, x1_2] 32) (fun r1 H2 =>
  ld H2 (Addr.mk r1 0 none) (fun v3 =>
  ld H2 (Addr.mk r1 1 none) (fun v4 =>
  ld H2 (Addr.mk r1 2 none) (fun v5 =>
  HCalls Tryz.prog 74 #[Value.pointer x0, Value.agg #[v3, v4, v5]] H2 (Sp.retK (fun v6 H7 =>
  dInt IntKind.i64 v6 (fun n8 =>
  sB (n8 != 0) (R (Ending.returned (Value.tuple #[Value.int IntKind.i64 0, Value.int IntKind.i64 n8])) H7) (ld H7 (Addr.mk r1 0 none) (fun v9 =>
  ld H7 (Addr.mk r1 1 none) (fun v10 =>
  ld H7 (Addr.mk r1 2 none) (fun v11 =>
  HCalls Tryz.prog 94 #[Value.agg #[v9, v10, v11], Value.int IntKind.i64 x2] H7 (Sp.retK (fun v12 H13 =>
  dBl v12 (fun b14 =>
  sB (!b14) (R (Ending.returned (Value.tuple #[Value.int IntKind.i64 0, Value.int IntKind.i64 90])) H13) (ld H13 (Addr.mk r1 0 none) (fun v15 =>
  ld H13 (Addr.mk r1 1 none) (fun v16 =>
  ld H13 (Addr.mk r1 2 none) (fun v17 =>
  HCalls Tryz.prog 78 #[Value.agg #[v15, v16, v17], Value.int IntKind.i64 x2] H13 (Sp.retK (fun v18 H19 =>
  dT 3 v18 (fun v20 v21 v22 =>
  dInt IntKind.i64 v20 (fun n23 =>
  dInt IntKind.i64 v21 (fun n24 =>
  dBl v22 (fun b25 =>
  ld H19 (Addr.mk r1 0 none) (fun v26 =>
  ld H19 (Addr.mk r1 1 none) (fun v27 =>
  ld H19 (Addr.mk r1 2 none) (fun v28 =>
  HCalls Tryz.prog 96 #[Value.pointer x0, Value.agg #[v26, v27, v28], Value.int IntKind.i64 n23, Value.int IntKind.i64 n24, Value.int IntKind.i64 12, Value.slice x3a x3n x3c] H19 (Sp.retK (fun v29 H30 =>
  dT 2 v29 (fun v31 v32 =>
  dInt IntKind.i64 v31 (fun n33 =>
  dInt IntKind.i64 v32 (fun n34 =>
  R (Ending.returned (Value.tuple #[Value.int IntKind.i64 n33, Value.int IntKind.i64 n34])) H30)))) (pnR R)))))))))) (pnR R)))))))) (pnR R)))))))) (pnR R))))))
theorem F42_eq (x0 : Option Addr) (x1_0 : Value) (x1_1 : Value) (x1_2 : Value) (x2 : Int) (x3a : Option Addr) (x3n : Nat) (x3c : Nat) (R : Ending → Heap → Prop) (H : Heap) : F42 x0 x1_0 x1_1 x1_2 x2 x3a x3n x3c R H = vc Tryz.prog (codeOf Tryz.f42) .leaf (postV Tryz.prog Tryz.f42 R) ⟨#[Value.pointer x0, Value.agg #[x1_0, x1_1, x1_2], Value.int IntKind.i64 x2, Value.slice x3a x3n x3c] ++ Array.replicate (Tryz.f42.ntmps - 4) undef, []⟩ H := by kernel_rfl
theorem F42_calls {R : Ending → Heap → Prop} {H : Heap} (x0 : Option Addr) (x1_0 : Value) (x1_1 : Value) (x1_2 : Value) (x2 : Int) (x3a : Option Addr) (x3n : Nat) (x3c : Nat) (h : F42 x0 x1_0 x1_1 x1_2 x2 x3a x3n x3c R H) : HCalls Tryz.prog 42 #[Value.pointer x0, Value.agg #[x1_0, x1_1, x1_2], Value.int IntKind.i64 x2, Value.slice x3a x3n x3c] H R :=
  calls_by (F := F42 x0 x1_0 x1_1 x1_2 x2 x3a x3n x3c R H) .leaf Tryz.func42 rfl (F42_eq x0 x1_0 x1_1 x1_2 x2 x3a x3n x3c R H) h
/-- bollard/bollardlaw09.begun -/
def F43 (x0 : Int) (x1a : Option Addr) (x1n : Nat) (x1c : Nat) (R : Ending → Heap → Prop) (H : Heap) : Prop :=
  HCalls Tryz.prog 98 #[Value.int IntKind.i64 x0] H (Sp.retK (fun v1 H2 =>
  dSl v1 (fun p3 r4 r5 =>
  HCalls Tryz.prog 97 #[Value.slice p3 r4 r5] H2 (Sp.retK (fun v6 H7 =>
  dT 2 v6 (fun v8 v9 =>
  dPtr v8 (fun p10 =>
  dInt IntKind.i64 v9 (fun n11 =>
  HCalls Tryz.prog 31 #[Value.pointer p10, Value.int IntKind.i64 64] H7 (Sp.retK (fun v12 H13 =>
  dT 2 v12 (fun v14 v15 =>
  dPtr v14 (fun p16 =>
  dInt IntKind.i64 v15 (fun n17 =>
  jn (α := VFH 1) (fun v18 H19 =>
  ∀ v20 v21 v22 v23 v24 v25 v26 v27 v28 : Value,
  dBl v18 (fun b29 =>
  sB b29 (R (Ending.returned (Value.tuple #[Value.pointer none, Value.pointer none, Value.bool false])) H19) (jn (α := VFH 0) (fun H30 =>
  ∀ v31 v32 v33 v34 v35 v36 v37 v38 v39 v40 v41 v42 v43 v44 v45 v46 v47 v48 v49 : Value,
  R (Ending.returned (Value.tuple #[Value.pointer p16, Value.pointer p10, Value.bool true])) H30) (fun k50 =>
  ∃ I51 : List Value → Heap → Prop,
  ∃ I52 : List Value → Heap → Nat,
  (I51 ([Value.int IntKind.i64 0]) H19) ∧
  ∀ n53 : Int,
  ∀ v54 v55 v56 v57 v58 v59 v60 v61 v62 v63 v64 v65 v66 v67 v68 v69 : Value,
  ∀ H70 : Heap,
  (I51 ([Value.int IntKind.i64 n53]) H70) →
  sB (decide (n53 < (↑x1n : Int))) (nz x1a (fun a72 =>
  ask ((0 : Int) ≤ n53 ∧ n53 < (↑x1n : Int)) (ld H70 (Addr.add a72 (Int.toNat n53 * 6)) (fun v73 =>
  ld H70 (Addr.add (Addr.add a72 (Int.toNat n53 * 6)) 1) (fun v74 =>
  ld H70 (Addr.add (Addr.add a72 (Int.toNat n53 * 6)) 2) (fun v75 =>
  ld H70 (Addr.add (Addr.add a72 (Int.toNat n53 * 6)) 3) (fun v76 =>
  ld H70 (Addr.add (Addr.add a72 (Int.toNat n53 * 6)) 4) (fun v77 =>
  ld H70 (Addr.add (Addr.add a72 (Int.toNat n53 * 6)) 5) (fun v78 =>
  al H70 (Obj.cells #[Value.int IntKind.i64 0, Value.int IntKind.i64 0, Value.int IntKind.i64 0, Value.int IntKind.i64 0, Value.slice none 0 0, Value.slice none 0 0] 125) (fun r79 H80 =>
  st H80 (Addr.mk r79 0 none) v73 (fun H81 =>
  st H81 (Addr.mk r79 1 none) v74 (fun H82 =>
  st H82 (Addr.mk r79 2 none) v75 (fun H83 =>
  st H83 (Addr.mk r79 3 none) v76 (fun H84 =>
  st H84 (Addr.mk r79 4 none) v77 (fun H85 =>
  st H85 (Addr.mk r79 5 none) v78 (fun H86 =>
  sB (decide (n53 > 40)) (k50 H86) (ld H86 (Addr.mk r79 0 none) (fun v87 =>
  ld H86 (Addr.mk r79 1 none) (fun v88 =>
  ld H86 (Addr.mk r79 2 none) (fun v89 =>
  ld H86 (Addr.mk r79 3 none) (fun v90 =>
  ld H86 (Addr.mk r79 4 none) (fun v91 =>
  ld H86 (Addr.mk r79 5 none) (fun v92 =>
  HCalls Tryz.prog 53 #[Value.pointer p16, Value.agg #[v87, v88, v89, v90, v91, v92]] H86 (Sp.retK (fun v93 H94 =>
  dBl v93 (fun b95 =>
  sB (!b95) (R (Ending.returned (Value.tuple #[Value.pointer none, Value.pointer none, Value.bool false])) H94) (wr IntKind.i64 (n53 + 1) (fun n96 =>
  (I51 ([Value.int IntKind.i64 n96]) H94) ∧
  (I52 [Value.int IntKind.i64 n96] H94) < (I52 [Value.int IntKind.i64 n53] H70))))) (pnR R))))))))))))))))))))))))) (k50 H70))))) (fun k99 =>
  sB (n11 != 0) (k99 (Value.bool true) H13) (sB (n17 != 0) (k99 (Value.bool true) H13) (k99 (Value.bool (Option.isNone p16)) H13))))))) (pnR R)))))) (pnR R)))) (pnR R))
theorem F43_eq (x0 : Int) (x1a : Option Addr) (x1n : Nat) (x1c : Nat) (R : Ending → Heap → Prop) (H : Heap) : F43 x0 x1a x1n x1c R H = vc Tryz.prog (codeOf Tryz.f43) (.node none .leaf (.node none .leaf (.node none .leaf (.node none (.node (some ⟨[(33, 4)], [24, 25, 26, 27, 28, 29, 30, 31, 32]⟩) .leaf .leaf) (.node (some ⟨[], [4, 5, 6, 11, 12, 34, 35, 36, 37, 38, 39, 40, 41, 42, 43, 44, 45, 46, 47]⟩) (.node none .leaf (.node none (.node (some ⟨[(36, 3)], [4, 5, 6, 11, 12, 37, 38, 39, 40, 41, 42, 43, 44, 45, 46, 47]⟩) .leaf .leaf) .leaf)) .leaf))))) (postV Tryz.prog Tryz.f43 R) ⟨#[Value.int IntKind.i64 x0, Value.slice x1a x1n x1c] ++ Array.replicate (Tryz.f43.ntmps - 2) undef, []⟩ H := by kernel_rfl
theorem F43_calls {R : Ending → Heap → Prop} {H : Heap} (x0 : Int) (x1a : Option Addr) (x1n : Nat) (x1c : Nat) (h : F43 x0 x1a x1n x1c R H) : HCalls Tryz.prog 43 #[Value.int IntKind.i64 x0, Value.slice x1a x1n x1c] H R :=
  calls_by (F := F43 x0 x1a x1n x1c R H) (.node none .leaf (.node none .leaf (.node none .leaf (.node none (.node (some ⟨[(33, 4)], [24, 25, 26, 27, 28, 29, 30, 31, 32]⟩) .leaf .leaf) (.node (some ⟨[], [4, 5, 6, 11, 12, 34, 35, 36, 37, 38, 39, 40, 41, 42, 43, 44, 45, 46, 47]⟩) (.node none .leaf (.node none (.node (some ⟨[(36, 3)], [4, 5, 6, 11, 12, 37, 38, 39, 40, 41, 42, 43, 44, 45, 46, 47]⟩) .leaf .leaf) .leaf)) .leaf))))) Tryz.func43 rfl (F43_eq x0 x1a x1n x1c R H) h
/-- bollard/bollardlaw09.all -/
def F44 (x0 : Option Addr) (R : Ending → Heap → Prop) (H : Heap) : Prop :=
  HCalls Tryz.prog 24 #[Value.pointer x0] H (Sp.retK (fun v1 H2 =>
  dInt IntKind.i64 v1 (fun n3 =>
  ∃ I4 : List Value → Heap → Prop,
  ∃ I5 : List Value → Heap → Nat,
  (I4 ([Value.slice none 0 0, Value.int IntKind.i64 0]) H2) ∧
  ∀ p6 : Option Addr,
  ∀ r7 : Nat,
  ∀ r8 : Nat,
  ∀ n9 : Int,
  ∀ v10 v11 v12 v13 v14 v15 v16 v17 v18 v19 v20 v21 v22 v23 v24 v25 : Value,
  ∀ H26 : Heap,
  (I4 ([Value.slice p6 r7 r8, Value.int IntKind.i64 n9]) H26) →
  sB (decide (n9 < n3)) (HCalls Tryz.prog 26 #[Value.pointer x0, Value.int IntKind.i64 n9] H26 (Sp.retK (fun v28 H29 =>
  dT 2 v28 (fun v30 v31 =>
  dSl v30 (fun p32 r33 r34 =>
  dInt IntKind.i64 v31 (fun n35 =>
  al H29 (Obj.cells #[Value.slice p32 r33 r34] 38) (fun r36 H37 =>
  semW Tryz.prog (Builtin.append_ #[42, 42] 42 #[Value.slice p6 r7 r8, Value.slice (some (Addr.mk r36 0 none)) 1 1]) (pnR R) H37 (fun v40 H41 =>
  dSl v40 (fun p42 r43 r44 =>
  wr IntKind.i64 (n9 + 1) (fun n45 =>
  (I4 ([Value.slice p42 r43 r44, Value.int IntKind.i64 n45]) H41) ∧
  (I5 [Value.slice p42 r43 r44, Value.int IntKind.i64 n45] H41) < (I5 [Value.slice p6 r7 r8, Value.int IntKind.i64 n9] H26))))))))) (pnR R))) (R (Ending.returned (Value.slice p6 r7 r8)) H26))) (pnR R))
theorem F44_eq (x0 : Option Addr) (R : Ending → Heap → Prop) (H : Heap) : F44 x0 R H = vc Tryz.prog (codeOf Tryz.f44) (.node none .leaf (.node none .leaf (.node none (.node none .leaf (.node none (.node (some ⟨[(3, 42), (9, 3)], [4, 5, 6, 10, 11, 12, 13, 14, 15, 16, 17, 18, 19, 20, 21, 22]⟩) .leaf .leaf) .leaf)) .leaf))) (postV Tryz.prog Tryz.f44 R) ⟨#[Value.pointer x0] ++ Array.replicate (Tryz.f44.ntmps - 1) undef, []⟩ H := by kernel_rfl
theorem F44_calls {R : Ending → Heap → Prop} {H : Heap} (x0 : Option Addr) (h : F44 x0 R H) : HCalls Tryz.prog 44 #[Value.pointer x0] H R :=
  calls_by (F := F44 x0 R H) (.node none .leaf (.node none .leaf (.node none (.node none .leaf (.node none (.node (some ⟨[(3, 42), (9, 3)], [4, 5, 6, 10, 11, 12, 13, 14, 15, 16, 17, 18, 19, 20, 21, 22]⟩) .leaf .leaf) .leaf)) .leaf))) Tryz.func44 rfl (F44_eq x0 R H) h
/-- (*bollard/volume.Volume).Dirty -/
def F45 (x0 : Option Addr) (R : Ending → Heap → Prop) (H : Heap) : Prop :=
  HCalls Tryz.prog 68 #[Value.pointer x0] H (Sp.retK (fun v1 H2 =>
  dBl v1 (fun b3 =>
  sB (!b3) (R (Ending.returned (Value.slice none 0 0)) H2) (nz x0 (fun a4 =>
  nz x0 (fun a5 =>
  ld H2 (Addr.add a5 4) (fun v6 =>
  dPtr v6 (fun p7 =>
  HCalls Tryz.prog 99 #[Value.pointer p7] H2 (Sp.retK (fun v8 H9 =>
  dSl v8 (fun p10 r11 r12 =>
  HCallsD Tryz.prog 69 #[Value.pointer (some a4)] FrameMode.returning H9 (fun e13 u14 H15 =>
  match e13 with
| Ending.returned v => leavesV Tryz.prog Tryz.f45 (Act.tmps (Act.mk #[Value.pointer x0, undef, Value.slice p10 r11 r12, Value.pointer x0, Value.bool b3, Value.bool !b3, Value.pointer x0, Value.pointer (some a4), Value.pointer (some a4), Value.pointer x0, Value.pointer (some a5), Value.pointer (some (Addr.add a5 4)), Value.pointer p7, Value.slice p10 r11 r12] [Deferred.mk (Target.fn (Fn.func 69) #[]) #[Value.pointer (some a4)]])) R [] (settle u14) H15
| Ending.panicked c => leavesV Tryz.prog Tryz.f45 (Act.tmps (Act.mk #[Value.pointer x0, undef, Value.slice p10 r11 r12, Value.pointer x0, Value.bool b3, Value.bool !b3, Value.pointer x0, Value.pointer (some a4), Value.pointer (some a4), Value.pointer x0, Value.pointer (some a5), Value.pointer (some (Addr.add a5 4)), Value.pointer p7, Value.slice p10 r11 r12] [Deferred.mk (Target.fn (Fn.func 69) #[]) #[Value.pointer (some a4)]])) R [] (raised u14 c) H15
| Ending.outgrown => False))) (fun c16 H17 =>
  HCallsD Tryz.prog 69 #[Value.pointer (some a4)] (FrameMode.panicking c16) H17 (fun e18 u19 H20 =>
  match e18 with
| Ending.returned v => leavesV Tryz.prog Tryz.f45 (Act.tmps (Act.mk #[Value.pointer x0, undef, Value.slice none 0 0, Value.pointer x0, Value.bool b3, Value.bool !b3, Value.pointer x0, Value.pointer (some a4), Value.pointer (some a4), Value.pointer x0, Value.pointer (some a5), Value.pointer (some (Addr.add a5 4)), Value.pointer p7, undef] [Deferred.mk (Target.fn (Fn.func 69) #[]) #[Value.pointer (some a4)]])) R [] (settle u19) H20
| Ending.panicked c => leavesV Tryz.prog Tryz.f45 (Act.tmps (Act.mk #[Value.pointer x0, undef, Value.slice none 0 0, Value.pointer x0, Value.bool b3, Value.bool !b3, Value.pointer x0, Value.pointer (some a4), Value.pointer (some a4), Value.pointer x0, Value.pointer (some a5), Value.pointer (some (Addr.add a5 4)), Value.pointer p7, undef] [Deferred.mk (Target.fn (Fn.func 69) #[]) #[Value.pointer (some a4)]])) R [] (raised u19 c) H20
| Ending.outgrown => False)))))))))) (pnR R))
theorem F45_eq (x0 : Option Addr) (R : Ending → Heap → Prop) (H : Heap) : F45 x0 R H = vc Tryz.prog (codeOf Tryz.f45) .leaf (postV Tryz.prog Tryz.f45 R) ⟨#[Value.pointer x0] ++ Array.replicate (Tryz.f45.ntmps - 1) undef, []⟩ H := by kernel_rfl
theorem F45_calls {R : Ending → Heap → Prop} {H : Heap} (x0 : Option Addr) (h : F45 x0 R H) : HCalls Tryz.prog 45 #[Value.pointer x0] H R :=
  calls_by (F := F45 x0 R H) .leaf Tryz.func45 rfl (F45_eq x0 R H) h
/-- bollard/bollardplain.SameImage -/
def F46 (x0a : Option Addr) (x0n : Nat) (x0c : Nat) (x1a : Option Addr) (x1n : Nat) (x1c : Nat) (R : Ending → Heap → Prop) (H : Heap) : Prop :=
  HCalls Tryz.prog 100 #[Value.slice x0a x0n x0c, Value.slice x1a x1n x1c, Value.func (Fn.func 56) #[] #[]] H (Sp.retK (fun v1 H2 =>
  dBl v1 (fun b3 =>
  R (Ending.returned (Value.bool b3)) H2)) (pnR R))
theorem F46_eq (x0a : Option Addr) (x0n : Nat) (x0c : Nat) (x1a : Option Addr) (x1n : Nat) (x1c : Nat) (R : Ending → Heap → Prop) (H : Heap) : F46 x0a x0n x0c x1a x1n x1c R H = vc Tryz.prog (codeOf Tryz.f46) .leaf (postV Tryz.prog Tryz.f46 R) ⟨#[Value.slice x0a x0n x0c, Value.slice x1a x1n x1c] ++ Array.replicate (Tryz.f46.ntmps - 2) undef, []⟩ H := by kernel_rfl
theorem F46_calls {R : Ending → Heap → Prop} {H : Heap} (x0a : Option Addr) (x0n : Nat) (x0c : Nat) (x1a : Option Addr) (x1n : Nat) (x1c : Nat) (h : F46 x0a x0n x0c x1a x1n x1c R H) : HCalls Tryz.prog 46 #[Value.slice x0a x0n x0c, Value.slice x1a x1n x1c] H R :=
  calls_by (F := F46 x0a x0n x0c x1a x1n x1c R H) .leaf Tryz.func46 rfl (F46_eq x0a x0n x0c x1a x1n x1c R H) h
/-- bollard/bollardlaw10.does -/
def F47 (x0 : Option Addr) (x1_0 : Value) (x1_1 : Value) (x1_2 : Value) (x1_3 : Value) (R : Ending → Heap → Prop) (H : Heap) : Prop :=
  al H (Obj.cells #[x1_0, x1_1, x1_2, x1_3] 118) (fun r1 H2 =>
  ld H2 (Addr.mk r1 3 none) (fun v3 =>
  dSl v3 (fun p4 r5 r6 =>
  HCalls Tryz.prog 48 #[Value.slice p4 r5 r6] H2 (Sp.retK (fun v7 H8 =>
  dSl v7 (fun p9 r10 r11 =>
  ld H8 (Addr.mk r1 0 none) (fun v12 =>
  dInt IntKind.i64 v12 (fun n13 =>
  ask ((4 : Int) ≠ (0 : Int)) (nm (Int.tmod n13 4) (fun n14 =>
  sB (n14 == 3) (ld H8 (Addr.mk r1 1 none) (fun v15 =>
  dInt IntKind.i64 v15 (fun n16 =>
  HCalls Tryz.prog 101 #[Value.pointer x0, Value.int IntKind.i64 n16] H8 (Sp.retK (fun v17 H18 =>
  dBl v17 (fun b19 =>
  R (Ending.returned (Value.bool b19)) H18)) (pnR R))))) (nz x0 (fun a22 =>
  ld H8 (Addr.add a22 1) (fun v23 =>
  dPtr v23 (fun p24 =>
  ld H8 (Addr.mk r1 1 none) (fun v25 =>
  dInt IntKind.i64 v25 (fun n26 =>
  ld H8 (Addr.mk r1 2 none) (fun v27 =>
  dInt IntKind.i64 v27 (fun n28 =>
  HCalls Tryz.prog 25 #[Value.pointer p24, Value.int IntKind.i64 n26, Value.int IntKind.i64 n28, Value.slice p9 r10 r11, Value.slice none 0 0] H8 (Sp.retK (fun v29 H30 =>
  dT 2 v29 (fun v31 v32 =>
  dInt IntKind.i64 v31 (fun n33 =>
  dInt IntKind.i64 v32 (fun n34 =>
  nz x0 (fun a35 =>
  ld H30 (Addr.add a35 3) (fun v36 =>
  dPtr v36 (fun p37 =>
  ld H30 (Addr.mk r1 1 none) (fun v38 =>
  dInt IntKind.i64 v38 (fun n39 =>
  ld H30 (Addr.mk r1 2 none) (fun v40 =>
  dInt IntKind.i64 v40 (fun n41 =>
  ld H30 (Addr.mk r1 3 none) (fun v42 =>
  dSl v42 (fun p43 r44 r45 =>
  HCalls Tryz.prog 102 #[Value.pointer p37, Value.int IntKind.i64 n39, Value.int IntKind.i64 n41, Value.slice p43 r44 r45, Value.slice none 0 0] H30 (Sp.retK (fun v46 H47 =>
  dT 2 v46 (fun v48 v49 =>
  dInt IntKind.i64 v48 (fun n50 =>
  dInt IntKind.i64 v49 (fun n51 =>
  sB (n33 == n50) (R (Ending.returned (Value.bool (n34 == n51))) H47) (R (Ending.returned (Value.bool false)) H47))))) nopR)))))))))))))) nopR))))))))))))))) (pnR R)))))
theorem F47_eq (x0 : Option Addr) (x1_0 : Value) (x1_1 : Value) (x1_2 : Value) (x1_3 : Value) (R : Ending → Heap → Prop) (H : Heap) : F47 x0 x1_0 x1_1 x1_2 x1_3 R H = vc Tryz.prog (codeOf Tryz.f47) .leaf (postV Tryz.prog Tryz.f47 R) ⟨#[Value.pointer x0, Value.agg #[x1_0, x1_1, x1_2, x1_3]] ++ Array.replicate (Tryz.f47.ntmps - 2) undef, []⟩ H := by kernel_rfl
theorem F47_calls {R : Ending → Heap → Prop} {H : Heap} (x0 : Option Addr) (x1_0 : Value) (x1_1 : Value) (x1_2 : Value) (x1_3 : Value) (h : F47 x0 x1_0 x1_1 x1_2 x1_3 R H) : HCalls Tryz.prog 47 #[Value.pointer x0, Value.agg #[x1_0, x1_1, x1_2, x1_3]] H R :=
  calls_by (F := F47 x0 x1_0 x1_1 x1_2 x1_3 R H) .leaf Tryz.func47 rfl (F47_eq x0 x1_0 x1_1 x1_2 x1_3 R H) h
/-- bytes.Clone -/
def F48 (x0a : Option Addr) (x0n : Nat) (x0c : Nat) (R : Ending → Heap → Prop) (H : Heap) : Prop :=
  sB (Option.isNone x0a) (R (Ending.returned (Value.slice none 0 0)) H) (al H (Obj.cells #[] 5) (fun r1 H2 =>
  semW Tryz.prog (Builtin.append_ #[38, 38] 38 #[Value.slice (some (Addr.mk r1 0 none)) 0 0, Value.slice x0a x0n x0c]) (pnR R) H2 (fun v5 H6 =>
  dSl v5 (fun p7 r8 r9 =>
  R (Ending.returned (Value.slice p7 r8 r9)) H6))))
theorem F48_eq (x0a : Option Addr) (x0n : Nat) (x0c : Nat) (R : Ending → Heap → Prop) (H : Heap) : F48 x0a x0n x0c R H = vc Tryz.prog (codeOf Tryz.f48) .leaf (postV Tryz.prog Tryz.f48 R) ⟨#[Value.slice x0a x0n x0c] ++ Array.replicate (Tryz.f48.ntmps - 1) undef, []⟩ H := by kernel_rfl
theorem F48_calls {R : Ending → Heap → Prop} {H : Heap} (x0a : Option Addr) (x0n : Nat) (x0c : Nat) (h : F48 x0a x0n x0c R H) : HCalls Tryz.prog 48 #[Value.slice x0a x0n x0c] H R :=
  calls_by (F := F48 x0a x0n x0c R H) .leaf Tryz.func48 rfl (F48_eq x0a x0n x0c R H) h
end Go.Proofs.YtngploohhmfaiaaGreat.E
