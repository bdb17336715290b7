/- My own texts, joined. -/
import Derived.KernelRfl
import Derived.Test.YtngploohhmfaiaaGreatProg
import Derived.Test.YtngploohhmfaiaaGreatQc3
/- The functions' forms in the engine's words, printed by my own program. -/
namespace Go.Proofs.YtngploohhmfaiaaGreat.E
open Go Go.Proofs
set_option linter.unusedVariables false
/-- bollard/disk.New -/
def F30 (x0 : Int) (R : Ending → Heap → Prop) (H : Heap) : Prop :=
  jn (α := VFH 1) (fun v1 H2 =>
  ∀ v3 v4 v5 v6 v7 : Value,
  dBl v1 (fun b8 =>
  sB b8 (R (Ending.returned (Value.tuple #[Value.pointer none, Value.int IntKind.i64 1])) H2) (al H2 (Obj.map #[] 0) (fun r9 H10 =>
  al H10 (Obj.cells #[Value.slice none 0 0, Value.slice none 0 0, Value.map (some r9), Value.int IntKind.i64 0] 133) (fun r11 H12 =>
  ∃ I13 : List Value → Heap → Prop,
  ∃ I14 : List Value → Heap → Nat,
  (I13 ([Value.int IntKind.i64 0]) H12) ∧
  ∀ n15 : Int,
  ∀ v16 v17 v18 v19 v20 v21 v22 v23 v24 v25 v26 v27 : Value,
  ∀ H28 : Heap,
  (I13 ([Value.int IntKind.i64 n15]) H28) →
  sB (decide (n15 < x0)) (ld H28 (Addr.mk r11 0 none) (fun v30 =>
  dSl v30 (fun p31 r32 r33 =>
  ask ((0 : Int) ≤ (128 : Int) ∧ (128 : Int) ≤ (128 : Int) ∧ (128 : Int) ≤ (281474976710656 : Int) ∧ (128 : Int) ≤ (9223372036854775807 : Int)) (al H28 (Obj.cells (List.toArray (rowZ [Value.int IntKind.u8 0] (Int.toNat 128))) 5) (fun r34 H35 =>
  (ld H35 (Addr.mk r11 0 none) (fun v36 =>
  dSl v36 (fun p37 r38 r39 =>
  (Value.slice p37 r38 r39) = (Value.slice p31 r32 r33)))) ∧
  al H35 (Obj.cells #[Value.slice (some (Addr.mk r34 0 none)) (Int.toNat 128) (Int.toNat 128)] 38) (fun r40 H41 =>
  (ld H41 (Addr.mk r11 0 none) (fun v42 =>
  dSl v42 (fun p43 r44 r45 =>
  (Value.slice p43 r44 r45) = (Value.slice p31 r32 r33)))) ∧
  semW Tryz.prog (Builtin.append_ #[42, 42] 42 #[Value.slice p31 r32 r33, Value.slice (some (Addr.mk r40 0 none)) 1 1]) nopR H41 (fun v48 H49 =>
  dSl v48 (fun p50 r51 r52 =>
  st H49 (Addr.mk r11 0 none) (Value.slice p50 r51 r52) (fun H53 =>
  wr IntKind.i64 (n15 + 1) (fun n54 =>
  (I13 ([Value.int IntKind.i64 n54]) H53) ∧
  (I14 [Value.int IntKind.i64 n54] H53) < (I14 [Value.int IntKind.i64 n15] H28))))))))))) (R (Ending.returned (Value.tuple #[Value.pointer (some (Addr.mk r11 0 none)), Value.int IntKind.i64 0])) H28)))))) (fun k55 =>
  sB (decide (x0 < 1)) (k55 (Value.bool true) H) (k55 (Value.bool (decide (x0 > 2048))) H))
theorem F30_eq (x0 : Int) (R : Ending → Heap → Prop) (H : Heap) : F30 x0 R H = vc Tryz.prog (codeOf Tryz.f30) (.node none .leaf (.node none (.node (some ⟨[(10, 4)], [5, 6, 7, 8, 9]⟩) .leaf .leaf) (.node none .leaf (.node none (.node none .leaf (.node none (.node (some ⟨[(15, 3)], [16, 17, 18, 19, 20, 21, 22, 23, 24, 25, 26, 27]⟩) .leaf .leaf) .leaf)) .leaf)))) (postV Tryz.prog Tryz.f30 R) ⟨#[Value.int IntKind.i64 x0] ++ Array.replicate (Tryz.f30.ntmps - 1) undef, []⟩ H := by kernel_rfl
theorem F30_calls {R : Ending → Heap → Prop} {H : Heap} (x0 : Int) (h : F30 x0 R H) : HCalls Tryz.prog 30 #[Value.int IntKind.i64 x0] H R :=
  calls_by (F := F30 x0 R H) (.node none .leaf (.node none (.node (some ⟨[(10, 4)], [5, 6, 7, 8, 9]⟩) .leaf .leaf) (.node none .leaf (.node none (.node none .leaf (.node none (.node (some ⟨[(15, 3)], [16, 17, 18, 19, 20, 21, 22, 23, 24, 25, 26, 27]⟩) .leaf .leaf) .leaf)) .leaf)))) Tryz.func30 rfl (F30_eq x0 R H) h
/-- bollard/volume.Open -/
def F31 (x0 : Option Addr) (x1 : Int) (R : Ending → Heap → Prop) (H : Heap) : Prop :=
  HCalls Tryz.prog 81 #[Value.pointer x0, Value.int IntKind.i64 x1] H (Sp.retK (fun v1 H2 =>
  dT 2 v1 (fun v3 v4 =>
  dPtr v3 (fun p5 =>
  dInt IntKind.i64 v4 (fun n6 =>
  sB (n6 != 0) (R (Ending.returned (Value.tuple #[Value.pointer none, Value.int IntKind.i64 n6])) H2) (HCalls Tryz.prog 82 #[] H2 (Sp.retK (fun v7 H8 =>
  dPtr v7 (fun p9 =>
  al H8 (Obj.map #[] 0) (fun r10 H11 =>
  al H11 (Obj.cells #[Value.int IntKind.i32 0, Value.int IntKind.u32 0, Value.pointer x0, Value.pointer p5, Value.pointer p9, Value.map (some r10), Value.bool false, Value.bool false, Value.int IntKind.i64 0, Value.map none] 57) (fun r12 H13 =>
  R (Ending.returned (Value.tuple #[Value.pointer (some (Addr.mk r12 0 none)), Value.int IntKind.i64 0])) H13)))) (pnR R))))))) (pnR R))
theorem F31_eq (x0 : Option Addr) (x1 : Int) (R : Ending → Heap → Prop) (H : Heap) : F31 x0 x1 R H = vc Tryz.prog (codeOf Tryz.f31) .leaf (postV Tryz.prog Tryz.f31 R) ⟨#[Value.pointer x0, Value.int IntKind.i64 x1] ++ Array.replicate (Tryz.f31.ntmps - 2) undef, []⟩ H := by kernel_rfl
theorem F31_calls {R : Ending → Heap → Prop} {H : Heap} (x0 : Option Addr) (x1 : Int) (h : F31 x0 x1 R H) : HCalls Tryz.prog 31 #[Value.pointer x0, Value.int IntKind.i64 x1] H R :=
  calls_by (F := F31 x0 x1 R H) .leaf Tryz.func31 rfl (F31_eq x0 x1 R H) h
/-- (*bollard/volume.Volume).Ready -/
def F32 (x0 : Option Addr) (R : Ending → Heap → Prop) (H : Heap) : Prop :=
  HCalls Tryz.prog 68 #[Value.pointer x0] H (Sp.retK (fun v1 H2 =>
  dBl v1 (fun b3 =>
  sB (!b3) (R (Ending.returned (Value.slice none 0 0)) H2) (nz x0 (fun a4 =>
  HCalls Tryz.prog 83 #[Value.pointer x0] H2 (Sp.retK (fun v5 H6 =>
  dSl v5 (fun p7 r8 r9 =>
  HCallsD Tryz.prog 69 #[Value.pointer (some a4)] FrameMode.returning H6 (fun e10 u11 H12 =>
  match e10 with
| Ending.returned v => leavesV Tryz.prog Tryz.f32 (Act.tmps (Act.mk #[Value.pointer x0, undef, Value.slice p7 r8 r9, Value.pointer x0, Value.bool b3, Value.bool !b3, Value.pointer x0, Value.pointer (some a4), Value.pointer (some a4), Value.pointer x0, Value.slice p7 r8 r9] [Deferred.mk (Target.fn (Fn.func 69) #[]) #[Value.pointer (some a4)]])) R [] (settle u11) H12
| Ending.panicked c => leavesV Tryz.prog Tryz.f32 (Act.tmps (Act.mk #[Value.pointer x0, undef, Value.slice p7 r8 r9, Value.pointer x0, Value.bool b3, Value.bool !b3, Value.pointer x0, Value.pointer (some a4), Value.pointer (some a4), Value.pointer x0, Value.slice p7 r8 r9] [Deferred.mk (Target.fn (Fn.func 69) #[]) #[Value.pointer (some a4)]])) R [] (raised u11 c) H12
| Ending.outgrown => False))) (fun c13 H14 =>
  HCallsD Tryz.prog 69 #[Value.pointer (some a4)] (FrameMode.panicking c13) H14 (fun e15 u16 H17 =>
  match e15 with
| Ending.returned v => leavesV Tryz.prog Tryz.f32 (Act.tmps (Act.mk #[Value.pointer x0, undef, Value.slice none 0 0, Value.pointer x0, Value.bool b3, Value.bool !b3, Value.pointer x0, Value.pointer (some a4), Value.pointer (some a4), Value.pointer x0, undef] [Deferred.mk (Target.fn (Fn.func 69) #[]) #[Value.pointer (some a4)]])) R [] (settle u16) H17
| Ending.panicked c => leavesV Tryz.prog Tryz.f32 (Act.tmps (Act.mk #[Value.pointer x0, undef, Value.slice none 0 0, Value.pointer x0, Value.bool b3, Value.bool !b3, Value.pointer x0, Value.pointer (some a4), Value.pointer (some a4), Value.pointer x0, undef] [Deferred.mk (Target.fn (Fn.func 69) #[]) #[Value.pointer (some a4)]])) R [] (raised u16 c) H17
| Ending.outgrown => False))))))) (pnR R))
theorem F32_eq (x0 : Option Addr) (R : Ending → Heap → Prop) (H : Heap) : F32 x0 R H = vc Tryz.prog (codeOf Tryz.f32) .leaf (postV Tryz.prog Tryz.f32 R) ⟨#[Value.pointer x0] ++ Array.replicate (Tryz.f32.ntmps - 1) undef, []⟩ H := by kernel_rfl
theorem F32_calls {R : Ending → Heap → Prop} {H : Heap} (x0 : Option Addr) (h : F32 x0 R H) : HCalls Tryz.prog 32 #[Value.pointer x0] H R :=
  calls_by (F := F32 x0 R H) .leaf Tryz.func32 rfl (F32_eq x0 R H) h
/-- (*bollard/volume.Volume).Write -/
def F33 (x0 : Option Addr) (x1 : Int) (R : Ending → Heap → Prop) (H : Heap) : Prop :=
  HCalls Tryz.prog 68 #[Value.pointer x0] H (Sp.retK (fun v1 H2 =>
  dBl v1 (fun b3 =>
  sB (!b3) (R (Ending.returned (Value.int IntKind.i64 2)) H2) (nz x0 (fun a4 =>
  HCalls Tryz.prog 84 #[Value.pointer x0, Value.int IntKind.i64 x1] H2 (Sp.retK (fun v5 H6 =>
  dInt IntKind.i64 v5 (fun n7 =>
  HCallsD Tryz.prog 69 #[Value.pointer (some a4)] FrameMode.returning H6 (fun e8 u9 H10 =>
  match e8 with
| Ending.returned v => leavesV Tryz.prog Tryz.f33 (Act.tmps (Act.mk #[Value.pointer x0, Value.int IntKind.i64 x1, undef, undef, Value.int IntKind.i64 n7, Value.pointer x0, Value.bool b3, Value.bool !b3, Value.pointer x0, Value.pointer (some a4), Value.pointer (some a4), Value.pointer x0, Value.int IntKind.i64 x1, Value.int IntKind.i64 n7] [Deferred.mk (Target.fn (Fn.func 69) #[]) #[Value.pointer (some a4)]])) R [] (settle u9) H10
| Ending.panicked c => leavesV Tryz.prog Tryz.f33 (Act.tmps (Act.mk #[Value.pointer x0, Value.int IntKind.i64 x1, undef, undef, Value.int IntKind.i64 n7, Value.pointer x0, Value.bool b3, Value.bool !b3, Value.pointer x0, Value.pointer (some a4), Value.pointer (some a4), Value.pointer x0, Value.int IntKind.i64 x1, Value.int IntKind.i64 n7] [Deferred.mk (Target.fn (Fn.func 69) #[]) #[Value.pointer (some a4)]])) R [] (raised u9 c) H10
| Ending.outgrown => False))) (fun c11 H12 =>
  HCallsD Tryz.prog 69 #[Value.pointer (some a4)] (FrameMode.panicking c11) H12 (fun e13 u14 H15 =>
  match e13 with
| Ending.returned v => leavesV Tryz.prog Tryz.f33 (Act.tmps (Act.mk #[Value.pointer x0, Value.int IntKind.i64 x1, undef, undef, Value.int IntKind.i64 0, Value.pointer x0, Value.bool b3, Value.bool !b3, Value.pointer x0, Value.pointer (some a4), Value.pointer (some a4), Value.pointer x0, Value.int IntKind.i64 x1, undef] [Deferred.mk (Target.fn (Fn.func 69) #[]) #[Value.pointer (some a4)]])) R [] (settle u14) H15
| Ending.panicked c => leavesV Tryz.prog Tryz.f33 (Act.tmps (Act.mk #[Value.pointer x0, Value.int IntKind.i64 x1, undef, undef, Value.int IntKind.i64 0, Value.pointer x0, Value.bool b3, Value.bool !b3, Value.pointer x0, Value.pointer (some a4), Value.pointer (some a4), Value.pointer x0, Value.int IntKind.i64 x1, undef] [Deferred.mk (Target.fn (Fn.func 69) #[]) #[Value.pointer (some a4)]])) R [] (raised u14 c) H15
| Ending.outgrown => False))))))) (pnR R))
theorem F33_eq (x0 : Option Addr) (x1 : Int) (R : Ending → Heap → Prop) (H : Heap) : F33 x0 x1 R H = vc Tryz.prog (codeOf Tryz.f33) .leaf (postV Tryz.prog Tryz.f33 R) ⟨#[Value.pointer x0, Value.int IntKind.i64 x1] ++ Array.replicate (Tryz.f33.ntmps - 2) undef, []⟩ H := by kernel_rfl
theorem F33_calls {R : Ending → Heap → Prop} {H : Heap} (x0 : Option Addr) (x1 : Int) (h : F33 x0 x1 R H) : HCalls Tryz.prog 33 #[Value.pointer x0, Value.int IntKind.i64 x1] H R :=
  calls_by (F := F33 x0 x1 R H) .leaf Tryz.func33 rfl (F33_eq x0 x1 R H) h
/-- (*bollard/volume.Volume).Way -/
def F34 (x0 : Option Addr) (R : Ending → Heap → Prop) (H : Heap) : Prop :=
  HCalls Tryz.prog 68 #[Value.pointer x0] H (Sp.retK (fun v1 H2 =>
  dBl v1 (fun b3 =>
  sB (!b3) (R (Ending.returned (Value.slice none 0 0)) H2) (nz x0 (fun a4 =>
  nz x0 (fun a5 =>
  ld H2 (Addr.add a5 2) (fun v6 =>
  dPtr v6 (fun p7 =>
  HCalls Tryz.prog 36 #[Value.pointer p7] H2 (Sp.retK (fun v8 H9 =>
  dSl v8 (fun p10 r11 r12 =>
  ∃ I13 : List Value → Heap → Prop,
  ∃ I14 : List Value → Heap → Nat,
  (I13 ([Value.slice none 0 0, Value.int IntKind.i64 0]) H9) ∧
  ∀ p15 : Option Addr,
  ∀ r16 : Nat,
  ∀ r17 : Nat,
  ∀ n18 : Int,
  ∀ v19 v20 v21 v22 v23 v24 v25 v26 v27 v28 v29 v30 v31 v32 v33 v34 v35 v36 v37 v38 v39 v40 v41 : Value,
  ∀ H42 : Heap,
  (I13 ([Value.slice p15 r16 r17, Value.int IntKind.i64 n18]) H42) →
  sB (decide (n18 < (↑r11 : Int))) (jn (α := VFH 1) (fun v44 H45 =>
  ∀ v46 v47 v48 v49 v50 v51 v52 v53 v54 v55 v56 v57 v58 v59 v60 v61 v62 v63 v64 v65 v66 : Value,
  dSl v44 (fun p67 r68 r69 =>
  wr IntKind.i64 (n18 + 1) (fun n70 =>
  (I13 ([Value.slice p67 r68 r69, Value.int IntKind.i64 n70]) H45) ∧
  (I14 [Value.slice p67 r68 r69, Value.int IntKind.i64 n70] H45) < (I14 [Value.slice p15 r16 r17, Value.int IntKind.i64 n18] H42)))) (fun k71 =>
  nz p10 (fun a72 =>
  ask ((0 : Int) ≤ n18 ∧ n18 < (↑r11 : Int)) (ld H42 (Addr.add a72 (Int.toNat n18 * 3)) (fun v73 =>
  ld H42 (Addr.add (Addr.add a72 (Int.toNat n18 * 3)) 1) (fun v74 =>
  ld H42 (Addr.add (Addr.add a72 (Int.toNat n18 * 3)) 2) (fun v75 =>
  al H42 (Obj.cells #[Value.int IntKind.i64 0, Value.int IntKind.i64 0, Value.slice none 0 0] 96) (fun r76 H77 =>
  st H77 (Addr.mk r76 0 none) v73 (fun H78 =>
  st H78 (Addr.mk r76 1 none) v74 (fun H79 =>
  st H79 (Addr.mk r76 2 none) v75 (fun H80 =>
  nz x0 (fun a81 =>
  ld H80 (Addr.add a81 5) (fun v82 =>
  dMap v82 (fun p83 =>
  ld H80 (Addr.mk r76 0 none) (fun v84 =>
  dInt IntKind.i64 v84 (fun n85 =>
  (semW Tryz.prog (Instr.lookup 52 (Value.map p83) (Value.int IntKind.i64 n85) true) nopR H80 (fun v88 H89 =>
  dT 2 v88 (fun v90 v91 =>
  dA 3 v90 (fun v92 v93 v94 =>
  dBl v91 (fun b95 =>
  al H89 (Obj.cells #[Value.int IntKind.i64 0, Value.slice none 0 0, Value.slice none 0 0] 153) (fun r96 H97 =>
  st H97 (Addr.mk r96 0 none) v92 (fun H98 =>
  st H98 (Addr.mk r96 1 none) v93 (fun H99 =>
  st H99 (Addr.mk r96 2 none) v94 (fun H100 =>
  sB b95 (ld H100 (Addr.mk r76 1 none) (fun v101 =>
  dInt IntKind.i64 v101 (fun n102 =>
  al H100 (Obj.cells #[Value.int IntKind.i64 n102] 3) (fun r103 H104 =>
  semW Tryz.prog (Builtin.append_ #[73, 73] 73 #[Value.slice p15 r16 r17, Value.slice (some (Addr.mk r103 0 none)) 1 1]) (fun c105 H106 =>
  HCallsD Tryz.prog 69 #[Value.pointer (some a4)] (FrameMode.panicking c105) H106 (fun e107 u108 H109 =>
  match e107 with
| Ending.returned v => leavesV Tryz.prog Tryz.f34 (Act.tmps (Act.mk #[Value.pointer x0, undef, Value.slice none 0 0, Value.slice p15 r16 r17, undef, Value.pointer (some (Addr.mk r76 0 none)), Value.pointer (some (Addr.mk r96 0 none)), Value.bool b95, Value.pointer x0, Value.bool b3, Value.bool !b3, Value.pointer x0, Value.pointer (some a4), Value.pointer (some a4), Value.pointer x0, Value.pointer (some a5), Value.pointer (some (Addr.add a5 2)), Value.pointer p7, Value.slice p10 r11 r12, Value.int IntKind.i64 (↑r11 : Int), Value.int IntKind.i64 n18, Value.bool (decide (n18 < (↑r11 : Int))), Value.pointer (some (Addr.add a72 (Int.toNat n18 * 3))), Value.agg #[v73, v74, v75], Value.tuple #[Value.agg #[v92, v93, v94], Value.bool b95], Value.pointer x0, Value.pointer (some a81), Value.pointer (some (Addr.add a81 5)), Value.map p83, Value.pointer (some (Addr.mk r76 0 none)), Value.int IntKind.i64 n85, Value.tuple #[Value.agg #[v92, v93, v94], Value.bool b95], Value.agg #[v92, v93, v94], Value.bool b95, Value.bool b95, Value.slice p15 r16 r17, Value.pointer (some (Addr.mk r76 1 none)), Value.int IntKind.i64 n102, Value.slice (some (Addr.mk r103 0 none)) 1 1, v40, v41, undef] [Deferred.mk (Target.fn (Fn.func 69) #[]) #[Value.pointer (some a4)]])) R [] (settle u108) H109
| Ending.panicked c => leavesV Tryz.prog Tryz.f34 (Act.tmps (Act.mk #[Value.pointer x0, undef, Value.slice none 0 0, Value.slice p15 r16 r17, undef, Value.pointer (some (Addr.mk r76 0 none)), Value.pointer (some (Addr.mk r96 0 none)), Value.bool b95, Value.pointer x0, Value.bool b3, Value.bool !b3, Value.pointer x0, Value.pointer (some a4), Value.pointer (some a4), Value.pointer x0, Value.pointer (some a5), Value.pointer (some (Addr.add a5 2)), Value.pointer p7, Value.slice p10 r11 r12, Value.int IntKind.i64 (↑r11 : Int), Value.int IntKind.i64 n18, Value.bool (decide (n18 < (↑r11 : Int))), Value.pointer (some (Addr.add a72 (Int.toNat n18 * 3))), Value.agg #[v73, v74, v75], Value.tuple #[Value.agg #[v92, v93, v94], Value.bool b95], Value.pointer x0, Value.pointer (some a81), Value.pointer (some (Addr.add a81 5)), Value.map p83, Value.pointer (some (Addr.mk r76 0 none)), Value.int IntKind.i64 n85, Value.tuple #[Value.agg #[v92, v93, v94], Value.bool b95], Value.agg #[v92, v93, v94], Value.bool b95, Value.bool b95, Value.slice p15 r16 r17, Value.pointer (some (Addr.mk r76 1 none)), Value.int IntKind.i64 n102, Value.slice (some (Addr.mk r103 0 none)) 1 1, v40, v41, undef] [Deferred.mk (Target.fn (Fn.func 69) #[]) #[Value.pointer (some a4)]])) R [] (raised u108 c) H109
| Ending.outgrown => False)) H104 (fun v110 H111 =>
  dSl v110 (fun p112 r113 r114 =>
  k71 (Value.slice p112 r113 r114) H111)))))) (k71 (Value.slice p15 r16 r17) H100)))))))))) ∧
  al H80 (Obj.cells #[Value.int IntKind.i64 0, Value.slice none 0 0, Value.slice none 0 0] 153) (fun r115 H116 =>
  (ld H116 (Addr.mk r76 0 none) (fun v117 =>
  dInt IntKind.i64 v117 (fun n118 =>
  (Value.int IntKind.i64 n118) = (Value.int IntKind.i64 n85)))) ∧
  (ld H116 (Addr.add a81 5) (fun v119 =>
  dMap v119 (fun p120 =>
  (Value.map p120) = (Value.map p83)))) ∧
  semW Tryz.prog (Instr.lookup 52 (Value.map p83) (Value.int IntKind.i64 n85) true) nopR H116 (fun v123 H124 =>
  dT 2 v123 (fun v125 v126 =>
  dA 3 v125 (fun v127 v128 v129 =>
  dBl v126 (fun b130 =>
  st H124 (Addr.mk r115 0 none) v127 (fun H131 =>
  st H131 (Addr.mk r115 1 none) v128 (fun H132 =>
  st H132 (Addr.mk r115 2 none) v129 (fun H133 =>
  sB b130 (ld H133 (Addr.mk r76 1 none) (fun v134 =>
  dInt IntKind.i64 v134 (fun n135 =>
  al H133 (Obj.cells #[Value.int IntKind.i64 n135] 3) (fun r136 H137 =>
  semW Tryz.prog (Builtin.append_ #[73, 73] 73 #[Value.slice p15 r16 r17, Value.slice (some (Addr.mk r136 0 none)) 1 1]) (fun c138 H139 =>
  HCallsD Tryz.prog 69 #[Value.pointer (some a4)] (FrameMode.panicking c138) H139 (fun e140 u141 H142 =>
  match e140 with
| Ending.returned v => leavesV Tryz.prog Tryz.f34 (Act.tmps (Act.mk #[Value.pointer x0, undef, Value.slice none 0 0, Value.slice p15 r16 r17, undef, Value.pointer (some (Addr.mk r76 0 none)), Value.pointer (some (Addr.mk r115 0 none)), Value.bool b130, Value.pointer x0, Value.bool b3, Value.bool !b3, Value.pointer x0, Value.pointer (some a4), Value.pointer (some a4), Value.pointer x0, Value.pointer (some a5), Value.pointer (some (Addr.add a5 2)), Value.pointer p7, Value.slice p10 r11 r12, Value.int IntKind.i64 (↑r11 : Int), Value.int IntKind.i64 n18, Value.bool (decide (n18 < (↑r11 : Int))), Value.pointer (some (Addr.add a72 (Int.toNat n18 * 3))), Value.agg #[v73, v74, v75], Value.tuple #[Value.agg #[v127, v128, v129], Value.bool b130], Value.pointer x0, Value.pointer (some a81), Value.pointer (some (Addr.add a81 5)), Value.map p83, Value.pointer (some (Addr.mk r76 0 none)), Value.int IntKind.i64 n85, Value.tuple #[Value.agg #[v127, v128, v129], Value.bool b130], Value.agg #[v127, v128, v129], Value.bool b130, Value.bool b130, Value.slice p15 r16 r17, Value.pointer (some (Addr.mk r76 1 none)), Value.int IntKind.i64 n135, Value.slice (some (Addr.mk r136 0 none)) 1 1, v40, v41, undef] [Deferred.mk (Target.fn (Fn.func 69) #[]) #[Value.pointer (some a4)]])) R [] (settle u141) H142
| Ending.panicked c => leavesV Tryz.prog Tryz.f34 (Act.tmps (Act.mk #[Value.pointer x0, undef, Value.slice none 0 0, Value.slice p15 r16 r17, undef, Value.pointer (some (Addr.mk r76 0 none)), Value.pointer (some (Addr.mk r115 0 none)), Value.bool b130, Value.pointer x0, Value.bool b3, Value.bool !b3, Value.pointer x0, Value.pointer (some a4), Value.pointer (some a4), Value.pointer x0, Value.pointer (some a5), Value.pointer (some (Addr.add a5 2)), Value.pointer p7, Value.slice p10 r11 r12, Value.int IntKind.i64 (↑r11 : Int), Value.int IntKind.i64 n18, Value.bool (decide (n18 < (↑r11 : Int))), Value.pointer (some (Addr.add a72 (Int.toNat n18 * 3))), Value.agg #[v73, v74, v75], Value.tuple #[Value.agg #[v127, v128, v129], Value.bool b130], Value.pointer x0, Value.pointer (some a81), Value.pointer (some (Addr.add a81 5)), Value.map p83, Value.pointer (some (Addr.mk r76 0 none)), Value.int IntKind.i64 n85, Value.tuple #[Value.agg #[v127, v128, v129], Value.bool b130], Value.agg #[v127, v128, v129], Value.bool b130, Value.bool b130, Value.slice p15 r16 r17, Value.pointer (some (Addr.mk r76 1 none)), Value.int IntKind.i64 n135, Value.slice (some (Addr.mk r136 0 none)) 1 1, v40, v41, undef] [Deferred.mk (Target.fn (Fn.func 69) #[]) #[Value.pointer (some a4)]])) R [] (raised u141 c) H142
| Ending.outgrown => False)) H137 (fun v143 H144 =>
  dSl v143 (fun p145 r146 r147 =>
  k71 (Value.slice p145 r146 r147) H144)))))) (k71 (Value.slice p15 r16 r17) H133))))))))))))))))))))))))) (HCallsD Tryz.prog 69 #[Value.pointer (some a4)] FrameMode.returning H42 (fun e148 u149 H150 =>
  match e148 with
| Ending.returned v => leavesV Tryz.prog Tryz.f34 (Act.tmps (Act.mk #[Value.pointer x0, undef, Value.slice p15 r16 r17, Value.slice p15 r16 r17, undef, v19, v20, v21, Value.pointer x0, Value.bool b3, Value.bool !b3, Value.pointer x0, Value.pointer (some a4), Value.pointer (some a4), Value.pointer x0, Value.pointer (some a5), Value.pointer (some (Addr.add a5 2)), Value.pointer p7, Value.slice p10 r11 r12, Value.int IntKind.i64 (↑r11 : Int), Value.int IntKind.i64 n18, Value.bool (decide (n18 < (↑r11 : Int))), v23, v24, v25, v26, v27, v28, v29, v30, v31, v32, v33, v34, v35, v36, v37, v38, v39, v40, v41, Value.slice p15 r16 r17] [Deferred.mk (Target.fn (Fn.func 69) #[]) #[Value.pointer (some a4)]])) R [] (settle u149) H150
| Ending.panicked c => leavesV Tryz.prog Tryz.f34 (Act.tmps (Act.mk #[Value.pointer x0, undef, Value.slice p15 r16 r17, Value.slice p15 r16 r17, undef, v19, v20, v21, Value.pointer x0, Value.bool b3, Value.bool !b3, Value.pointer x0, Value.pointer (some a4), Value.pointer (some a4), Value.pointer x0, Value.pointer (some a5), Value.pointer (some (Addr.add a5 2)), Value.pointer p7, Value.slice p10 r11 r12, Value.int IntKind.i64 (↑r11 : Int), Value.int IntKind.i64 n18, Value.bool (decide (n18 < (↑r11 : Int))), v23, v24, v25, v26, v27, v28, v29, v30, v31, v32, v33, v34, v35, v36, v37, v38, v39, v40, v41, Value.slice p15 r16 r17] [Deferred.mk (Target.fn (Fn.func 69) #[]) #[Value.pointer (some a4)]])) R [] (raised u149 c) H150
| Ending.outgrown => False)))) (fun c151 H152 =>
  HCallsD Tryz.prog 69 #[Value.pointer (some a4)] (FrameMode.panicking c151) H152 (fun e153 u154 H155 =>
  match e153 with
| Ending.returned v => leavesV Tryz.prog Tryz.f34 (Act.tmps (Act.mk #[Value.pointer x0, undef, Value.slice none 0 0, Value.slice none 0 0, undef, undef, undef, undef, Value.pointer x0, Value.bool b3, Value.bool !b3, Value.pointer x0, Value.pointer (some a4), Value.pointer (some a4), Value.pointer x0, Value.pointer (some a5), Value.pointer (some (Addr.add a5 2)), Value.pointer p7, undef, undef, undef, undef, undef, undef, undef, undef, undef, undef, undef, undef, undef, undef, undef, undef, undef, undef, undef, undef, undef, undef, undef, undef] [Deferred.mk (Target.fn (Fn.func 69) #[]) #[Value.pointer (some a4)]])) R [] (settle u154) H155
| Ending.panicked c => leavesV Tryz.prog Tryz.f34 (Act.tmps (Act.mk #[Value.pointer x0, undef, Value.slice none 0 0, Value.slice none 0 0, undef, undef, undef, undef, Value.pointer x0, Value.bool b3, Value.bool !b3, Value.pointer x0, Value.pointer (some a4), Value.pointer (some a4), Value.pointer x0, Value.pointer (some a5), Value.pointer (some (Addr.add a5 2)), Value.pointer p7, undef, undef, undef, undef, undef, undef, undef, undef, undef, undef, undef, undef, undef, undef, undef, undef, undef, undef, undef, undef, undef, undef, undef, undef] [Deferred.mk (Target.fn (Fn.func 69) #[]) #[Value.pointer (some a4)]])) R [] (raised u154 c) H155
| Ending.outgrown => False)))))))))) (pnR R))
theorem F34_eq (x0 : Option Addr) (R : Ending → Heap → Prop) (H : Heap) : F34 x0 R H = vc Tryz.prog (codeOf Tryz.f34) (.node none .leaf (.node none .leaf (.node none .leaf (.node none .leaf (.node none (.node none .leaf (.node none (.node (some ⟨[(3, 73), (20, 3)], [5, 6, 7, 21, 22, 23, 24, 25, 26, 27, 28, 29, 30, 31, 32, 33, 34, 35, 36, 37, 38, 39, 40]⟩) (.node none .leaf (.node none .leaf (.node (some ⟨[(3, 73)], [5, 6, 7, 22, 23, 24, 25, 26, 27, 28, 29, 30, 31, 32, 33, 34, 35, 36, 37, 38, 39]⟩) .leaf .leaf))) .leaf) .leaf)) .leaf))))) (postV Tryz.prog Tryz.f34 R) ⟨#[Value.pointer x0] ++ Array.replicate (Tryz.f34.ntmps - 1) undef, []⟩ H := by kernel_rfl
theorem F34_calls {R : Ending → Heap → Prop} {H : Heap} (x0 : Option Addr) (h : F34 x0 R H) : HCalls Tryz.prog 34 #[Value.pointer x0] H R :=
  calls_by (F := F34 x0 R H) (.node none .leaf (.node none .leaf (.node none .leaf (.node none .leaf (.node none (.node none .leaf (.node none (.node (some ⟨[(3, 73), (20, 3)], [5, 6, 7, 21, 22, 23, 24, 25, 26, 27, 28, 29, 30, 31, 32, 33, 34, 35, 36, 37, 38, 39, 40]⟩) (.node none .leaf (.node none .leaf (.node (some ⟨[(3, 73)], [5, 6, 7, 22, 23, 24, 25, 26, 27, 28, 29, 30, 31, 32, 33, 34, 35, 36, 37, 38, 39]⟩) .leaf .leaf))) .leaf) .leaf)) .leaf))))) Tryz.func34 rfl (F34_eq x0 R H) h
/-- (*bollard/volume.Volume).Complete -/
def F35 (x0 : Option Addr) (x1 : Int) (x2 : Bool) (R : Ending → Heap → Prop) (H : Heap) : Prop :=
  HCalls Tryz.prog 68 #[Value.pointer x0] H (Sp.retK (fun v1 H2 =>
  dBl v1 (fun b3 =>
  sB (!b3) (R (Ending.returned (Value.int IntKind.i64 2)) H2) (nz x0 (fun a4 =>
  HCalls Tryz.prog 85 #[Value.pointer x0, Value.int IntKind.i64 x1, Value.bool x2] H2 (Sp.retK (fun v5 H6 =>
  dInt IntKind.i64 v5 (fun n7 =>
  HCallsD Tryz.prog 69 #[Value.pointer (some a4)] FrameMode.returning H6 (fun e8 u9 H10 =>
  match e8 with
| Ending.returned v => leavesV Tryz.prog Tryz.f35 (Act.tmps (Act.mk #[Value.pointer x0, Value.int IntKind.i64 x1, Value.bool x2, undef, undef, undef, Value.int IntKind.i64 n7, Value.pointer x0, Value.bool b3, Value.bool !b3, Value.pointer x0, Value.pointer (some a4), Value.pointer (some a4), Value.pointer x0, Value.int IntKind.i64 x1, Value.bool x2, Value.int IntKind.i64 n7] [Deferred.mk (Target.fn (Fn.func 69) #[]) #[Value.pointer (some a4)]])) R [] (settle u9) H10
| Ending.panicked c => leavesV Tryz.prog Tryz.f35 (Act.tmps (Act.mk #[Value.pointer x0, Value.int IntKind.i64 x1, Value.bool x2, undef, undef, undef, Value.int IntKind.i64 n7, Value.pointer x0, Value.bool b3, Value.bool !b3, Value.pointer x0, Value.pointer (some a4), Value.pointer (some a4), Value.pointer x0, Value.int IntKind.i64 x1, Value.bool x2, Value.int IntKind.i64 n7] [Deferred.mk (Target.fn (Fn.func 69) #[]) #[Value.pointer (some a4)]])) R [] (raised u9 c) H10
| Ending.outgrown => False))) (fun c11 H12 =>
  HCallsD Tryz.prog 69 #[Value.pointer (some a4)] (FrameMode.panicking c11) H12 (fun e13 u14 H15 =>
  match e13 with
| Ending.returned v => leavesV Tryz.prog Tryz.f35 (Act.tmps (Act.mk #[Value.pointer x0, Value.int IntKind.i64 x1, Value.bool x2, undef, undef, undef, Value.int IntKind.i64 0, Value.pointer x0, Value.bool b3, Value.bool !b3, Value.pointer x0, Value.pointer (some a4), Value.pointer (some a4), Value.pointer x0, Value.int IntKind.i64 x1, Value.bool x2, undef] [Deferred.mk (Target.fn (Fn.func 69) #[]) #[Value.pointer (some a4)]])) R [] (settle u14) H15
| Ending.panicked c => leavesV Tryz.prog Tryz.f35 (Act.tmps (Act.mk #[Value.pointer x0, Value.int IntKind.i64 x1, Value.bool x2, undef, undef, undef, Value.int IntKind.i64 0, Value.pointer x0, Value.bool b3, Value.bool !b3, Value.pointer x0, Value.pointer (some a4), Value.pointer (some a4), Value.pointer x0, Value.int IntKind.i64 x1, Value.bool x2, undef] [Deferred.mk (Target.fn (Fn.func 69) #[]) #[Value.pointer (some a4)]])) R [] (raised u14 c) H15
| Ending.outgrown => False))))))) (pnR R))
theorem F35_eq (x0 : Option Addr) (x1 : Int) (x2 : Bool) (R : Ending → Heap → Prop) (H : Heap) : F35 x0 x1 x2 R H = vc Tryz.prog (codeOf Tryz.f35) .leaf (postV Tryz.prog Tryz.f35 R) ⟨#[Value.pointer x0, Value.int IntKind.i64 x1, Value.bool x2] ++ Array.replicate (Tryz.f35.ntmps - 3) undef, []⟩ H := by kernel_rfl
theorem F35_calls {R : Ending → Heap → Prop} {H : Heap} (x0 : Option Addr) (x1 : Int) (x2 : Bool) (h : F35 x0 x1 x2 R H) : HCalls Tryz.prog 35 #[Value.pointer x0, Value.int IntKind.i64 x1, Value.bool x2] H R :=
  calls_by (F := F35 x0 x1 x2 R H) .leaf Tryz.func35 rfl (F35_eq x0 x1 x2 R H) h
/-- (*bollard/disk.Disk).Queue -/
def F36 (x0 : Option Addr) (R : Ending → Heap → Prop) (H : Heap) : Prop :=
  sB (Option.isNone x0) (R (Ending.returned (Value.slice none 0 0)) H) (nz x0 (fun a1 =>
  ld H (Addr.add a1 1) (fun v2 =>
  dSl v2 (fun p3 r4 r5 =>
  HCalls Tryz.prog 86 #[Value.slice p3 r4 r5] H (Sp.retK (fun v6 H7 =>
  dSl v6 (fun p8 r9 r10 =>
  R (Ending.returned (Value.slice p8 r9 r10)) H7)) (pnR R))))))
theorem F36_eq (x0 : Option Addr) (R : Ending → Heap → Prop) (H : Heap) : F36 x0 R H = vc Tryz.prog (codeOf Tryz.f36) .leaf (postV Tryz.prog Tryz.f36 R) ⟨#[Value.pointer x0] ++ Array.replicate (Tryz.f36.ntmps - 1) undef, []⟩ H := by kernel_rfl
theorem F36_calls {R : Ending → Heap → Prop} {H : Heap} (x0 : Option Addr) (h : F36 x0 R H) : HCalls Tryz.prog 36 #[Value.pointer x0] H R :=
  calls_by (F := F36 x0 R H) .leaf Tryz.func36 rfl (F36_eq x0 R H) h
/-- (*bollard/disk.Disk).Crash -/
def F37 (x0 : Option Addr) (x1a : Option Addr) (x1n : Nat) (x1c : Nat) (R : Ending → Heap → Prop) (H : Heap) : Prop :=
  al H (Obj.cells #[Value.pointer x0] 49) (fun r1 H2 =>
  ld H2 (Addr.mk r1 0 none) (fun v3 =>
  dPtr v3 (fun p4 =>
  HCalls Tryz.prog 87 #[Value.pointer p4] H2 (Sp.retK (fun v5 H6 =>
  dBl v5 (fun b7 =>
  sB (!b7) (R (Ending.returned (Value.int IntKind.i64 2)) H6) (HCalls Tryz.prog 88 #[Value.slice x1a x1n x1c, Value.func (Fn.func 89) #[] #[Value.pointer (some (Addr.mk r1 0 none))]] H6 (Sp.retK (fun v8 H9 =>
  dBl v8 (fun b10 =>
  sB b10 (R (Ending.returned (Value.int IntKind.i64 20)) H9) (∃ I11 : List Value → Heap → Prop,
  ∃ I12 : List Value → Heap → Nat,
  (I11 ([Value.int IntKind.i64 0]) H9) ∧
  ∀ n13 : Int,
  ∀ v14 v15 v16 v17 v18 v19 v20 v21 v22 v23 v24 v25 v26 v27 v28 v29 v30 v31 v32 v33 v34 v35 v36 v37 v38 : Value,
  ∀ H39 : Heap,
  (I11 ([Value.int IntKind.i64 n13]) H39) →
  sB (decide (n13 < (↑x1n : Int))) (nz x1a (fun a41 =>
  ask ((0 : Int) ≤ n13 ∧ n13 < (↑x1n : Int)) (ld H39 (Addr.add a41 (Int.toNat n13 * 1)) (fun v42 =>
  dInt IntKind.i64 v42 (fun n43 =>
  ld H39 (Addr.mk r1 0 none) (fun v44 =>
  dPtr v44 (fun p45 =>
  nz p45 (fun a46 =>
  ld H39 (Addr.add a46 1) (fun v47 =>
  dSl v47 (fun p48 r49 r50 =>
  ld H39 (Addr.mk r1 0 none) (fun v51 =>
  dPtr v51 (fun p52 =>
  (HCalls Tryz.prog 90 #[Value.pointer p52, Value.int IntKind.i64 n43] H39 (Sp.retK (fun v53 H54 =>
  dInt IntKind.i64 v53 (fun n55 =>
  (ld H54 (Addr.add a46 1) (fun v56 =>
  dSl v56 (fun p57 r58 r59 =>
  (Value.slice p57 r58 r59) = (Value.slice p48 r49 r50)))) ∧
  (ld H54 (Addr.mk r1 0 none) (fun v60 =>
  dPtr v60 (fun p61 =>
  (Value.pointer p61) = (Value.pointer p45)))) ∧
  nz p48 (fun a62 =>
  ask ((0 : Int) ≤ n55 ∧ n55 < (↑r49 : Int)) (ld H54 (Addr.add a62 (Int.toNat n55 * 3)) (fun v63 =>
  ld H54 (Addr.add (Addr.add a62 (Int.toNat n55 * 3)) 1) (fun v64 =>
  ld H54 (Addr.add (Addr.add a62 (Int.toNat n55 * 3)) 2) (fun v65 =>
  al H54 (Obj.cells #[Value.int IntKind.i64 0, Value.int IntKind.i64 0, Value.slice none 0 0] 96) (fun r66 H67 =>
  (ld H67 (Addr.add a62 (Int.toNat n55 * 3)) (fun v68 =>
  ld H67 (Addr.add (Addr.add a62 (Int.toNat n55 * 3)) 1) (fun v69 =>
  ld H67 (Addr.add (Addr.add a62 (Int.toNat n55 * 3)) 2) (fun v70 =>
  (Value.agg #[v68, v69, v70]) = (Value.agg #[v63, v64, v65]))))) ∧
  (ld H67 (Addr.add a46 1) (fun v71 =>
  dSl v71 (fun p72 r73 r74 =>
  (Value.slice p72 r73 r74) = (Value.slice p48 r49 r50)))) ∧
  (ld H67 (Addr.mk r1 0 none) (fun v75 =>
  dPtr v75 (fun p76 =>
  (Value.pointer p76) = (Value.pointer p45)))) ∧
  st H67 (Addr.mk r66 0 none) v63 (fun H77 =>
  st H77 (Addr.mk r66 1 none) v64 (fun H78 =>
  st H78 (Addr.mk r66 2 none) v65 (fun H79 =>
  ld H79 (Addr.mk r1 0 none) (fun v80 =>
  dPtr v80 (fun p81 =>
  nz p81 (fun a82 =>
  ld H79 a82 (fun v83 =>
  dSl v83 (fun p84 r85 r86 =>
  ld H79 (Addr.mk r66 1 none) (fun v87 =>
  dInt IntKind.i64 v87 (fun n88 =>
  ld H79 (Addr.mk r66 2 none) (fun v89 =>
  dSl v89 (fun p90 r91 r92 =>
  HCalls Tryz.prog 48 #[Value.slice p90 r91 r92] H79 (Sp.retK (fun v93 H94 =>
  dSl v93 (fun p95 r96 r97 =>
  (ld H94 (Addr.mk r66 1 none) (fun v98 =>
  dInt IntKind.i64 v98 (fun n99 =>
  (Value.int IntKind.i64 n99) = (Value.int IntKind.i64 n88)))) ∧
  (ld H94 a82 (fun v100 =>
  dSl v100 (fun p101 r102 r103 =>
  (Value.slice p101 r102 r103) = (Value.slice p84 r85 r86)))) ∧
  (ld H94 (Addr.mk r1 0 none) (fun v104 =>
  dPtr v104 (fun p105 =>
  (Value.pointer p105) = (Value.pointer p81)))) ∧
  nz p84 (fun a106 =>
  ask ((0 : Int) ≤ n88 ∧ n88 < (↑r85 : Int)) (st H94 (Addr.add a106 (Int.toNat n88 * 1)) (Value.slice p95 r96 r97) (fun H107 =>
  wr IntKind.i64 (n13 + 1) (fun n108 =>
  (I11 ([Value.int IntKind.i64 n108]) H107) ∧
  (I12 [Value.int IntKind.i64 n108] H107) < (I12 [Value.int IntKind.i64 n13] H39))))))) nopR))))))))))))))))))))) nopR)) ∧
  al H39 (Obj.cells #[Value.int IntKind.i64 0, Value.int IntKind.i64 0, Value.slice none 0 0] 96) (fun r113 H114 =>
  (ld H114 (Addr.mk r1 0 none) (fun v115 =>
  dPtr v115 (fun p116 =>
  (Value.pointer p116) = (Value.pointer p52)))) ∧
  (ld H114 (Addr.add a46 1) (fun v117 =>
  dSl v117 (fun p118 r119 r120 =>
  (Value.slice p118 r119 r120) = (Value.slice p48 r49 r50)))) ∧
  (ld H114 (Addr.mk r1 0 none) (fun v121 =>
  dPtr v121 (fun p122 =>
  (Value.pointer p122) = (Value.pointer p45)))) ∧
  HCalls Tryz.prog 90 #[Value.pointer p52, Value.int IntKind.i64 n43] H114 (Sp.retK (fun v123 H124 =>
  dInt IntKind.i64 v123 (fun n125 =>
  (ld H124 (Addr.add a46 1) (fun v126 =>
  dSl v126 (fun p127 r128 r129 =>
  (Value.slice p127 r128 r129) = (Value.slice p48 r49 r50)))) ∧
  (ld H124 (Addr.mk r1 0 none) (fun v130 =>
  dPtr v130 (fun p131 =>
  (Value.pointer p131) = (Value.pointer p45)))) ∧
  nz p48 (fun a132 =>
  ask ((0 : Int) ≤ n125 ∧ n125 < (↑r49 : Int)) (ld H124 (Addr.add a132 (Int.toNat n125 * 3)) (fun v133 =>
  ld H124 (Addr.add (Addr.add a132 (Int.toNat n125 * 3)) 1) (fun v134 =>
  ld H124 (Addr.add (Addr.add a132 (Int.toNat n125 * 3)) 2) (fun v135 =>
  st H124 (Addr.mk r113 0 none) v133 (fun H136 =>
  st H136 (Addr.mk r113 1 none) v134 (fun H137 =>
  st H137 (Addr.mk r113 2 none) v135 (fun H138 =>
  ld H138 (Addr.mk r1 0 none) (fun v139 =>
  dPtr v139 (fun p140 =>
  nz p140 (fun a141 =>
  ld H138 a141 (fun v142 =>
  dSl v142 (fun p143 r144 r145 =>
  ld H138 (Addr.mk r113 1 none) (fun v146 =>
  dInt IntKind.i64 v146 (fun n147 =>
  ld H138 (Addr.mk r113 2 none) (fun v148 =>
  dSl v148 (fun p149 r150 r151 =>
  HCalls Tryz.prog 48 #[Value.slice p149 r150 r151] H138 (Sp.retK (fun v152 H153 =>
  dSl v152 (fun p154 r155 r156 =>
  (ld H153 (Addr.mk r113 1 none) (fun v157 =>
  dInt IntKind.i64 v157 (fun n158 =>
  (Value.int IntKind.i64 n158) = (Value.int IntKind.i64 n147)))) ∧
  (ld H153 a141 (fun v159 =>
  dSl v159 (fun p160 r161 r162 =>
  (Value.slice p160 r161 r162) = (Value.slice p143 r144 r145)))) ∧
  (ld H153 (Addr.mk r1 0 none) (fun v163 =>
  dPtr v163 (fun p164 =>
  (Value.pointer p164) = (Value.pointer p140)))) ∧
  nz p143 (fun a165 =>
  ask ((0 : Int) ≤ n147 ∧ n147 < (↑r144 : Int)) (st H153 (Addr.add a165 (Int.toNat n147 * 1)) (Value.slice p154 r155 r156) (fun H166 =>
  wr IntKind.i64 (n13 + 1) (fun n167 =>
  (I11 ([Value.int IntKind.i64 n167]) H166) ∧
  (I12 [Value.int IntKind.i64 n167] H166) < (I12 [Value.int IntKind.i64 n13] H39))))))) nopR)))))))))))))))))))) nopR)))))))))))))) (ld H39 (Addr.mk r1 0 none) (fun v172 =>
  dPtr v172 (fun p173 =>
  nz p173 (fun a174 =>
  st H39 (Addr.add a174 1) (Value.slice none 0 0) (fun H175 =>
  ld H175 (Addr.mk r1 0 none) (fun v176 =>
  dPtr v176 (fun p177 =>
  nz p177 (fun a178 =>
  ld H175 (Addr.add a178 2) (fun v179 =>
  dMap v179 (fun p180 =>
  semW Tryz.prog (Builtin.clear_ #[131] 0 #[Value.map p180]) (pnR R) H175 (fun v183 H184 =>
  R (Ending.returned (Value.int IntKind.i64 0)) H184)))))))))))))) (pnR R))))) (pnR R)))))
theorem F37_eq (x0 : Option Addr) (x1a : Option Addr) (x1n : Nat) (x1c : Nat) (R : Ending → Heap → Prop) (H : Heap) : F37 x0 x1a x1n x1c R H = vc Tryz.prog (codeOf Tryz.f37) (.node none .leaf (.node none .leaf (.node none .leaf (.node none (.node none .leaf (.node none (.node (some ⟨[(16, 3)], [6, 7, 17, 18, 19, 20, 21, 22, 23, 24, 25, 26, 27, 28, 29, 30, 31, 32, 33, 34, 35, 36, 37, 38, 39]⟩) .leaf .leaf) .leaf)) .leaf)))) (postV Tryz.prog Tryz.f37 R) ⟨#[Value.pointer x0, Value.slice x1a x1n x1c] ++ Array.replicate (Tryz.f37.ntmps - 2) undef, []⟩ H := by kernel_rfl
theorem F37_calls {R : Ending → Heap → Prop} {H : Heap} (x0 : Option Addr) (x1a : Option Addr) (x1n : Nat) (x1c : Nat) (h : F37 x0 x1a x1n x1c R H) : HCalls Tryz.prog 37 #[Value.pointer x0, Value.slice x1a x1n x1c] H R :=
  calls_by (F := F37 x0 x1a x1n x1c R H) (.node none .leaf (.node none .leaf (.node none .leaf (.node none (.node none .leaf (.node none (.node (some ⟨[(16, 3)], [6, 7, 17, 18, 19, 20, 21, 22, 23, 24, 25, 26, 27, 28, 29, 30, 31, 32, 33, 34, 35, 36, 37, 38, 39]⟩) .leaf .leaf) .leaf)) .leaf)))) Tryz.func37 rfl (F37_eq x0 x1a x1n x1c R H) h
/-- (*bollard/disk.Disk).Image -/
def F38 (x0 : Option Addr) (R : Ending → Heap → Prop) (H : Heap) : Prop :=
  sB (Option.isNone x0) (R (Ending.returned (Value.slice none 0 0)) H) (nz x0 (fun a1 =>
  ld H a1 (fun v2 =>
  dSl v2 (fun p3 r4 r5 =>
  HCalls Tryz.prog 91 #[Value.slice p3 r4 r5] H (Sp.retK (fun v6 H7 =>
  dSl v6 (fun p8 r9 r10 =>
  R (Ending.returned (Value.slice p8 r9 r10)) H7)) (pnR R))))))
theorem F38_eq (x0 : Option Addr) (R : Ending → Heap → Prop) (H : Heap) : F38 x0 R H = vc Tryz.prog (codeOf Tryz.f38) .leaf (postV Tryz.prog Tryz.f38 R) ⟨#[Value.pointer x0] ++ Array.replicate (Tryz.f38.ntmps - 1) undef, []⟩ H := by kernel_rfl
theorem F38_calls {R : Ending → Heap → Prop} {H : Heap} (x0 : Option Addr) (h : F38 x0 R H) : HCalls Tryz.prog 38 #[Value.pointer x0] H R :=
  calls_by (F := F38 x0 R H) .leaf Tryz.func38 rfl (F38_eq x0 R H) h
/-- bytes.Clone -/
def F48 (x0a : Option Addr) (x0n : Nat) (x0c : Nat) (R : Ending → Heap → Prop) (H : Heap) : Prop :=
  sB (Option.isNone x0a) (R (Ending.returned (Value.slice none 0 0)) H) (al H (Obj.cells #[] 5) (fun r1 H2 =>
  semW Tryz.prog (Builtin.append_ #[38, 38] 38 #[Value.slice (some (Addr.mk r1 0 none)) 0 0, Value.slice x0a x0n x0c]) (pnR R) H2 (fun v5 H6 =>
  dSl v5 (fun p7 r8 r9 =>
  R (Ending.returned (Value.slice p7 r8 r9)) H6))))
theorem F48_eq (x0a : Option Addr) (x0n : Nat) (x0c : Nat) (R : Ending → Heap → Prop) (H : Heap) : F48 x0a x0n x0c R H = vc Tryz.prog (codeOf Tryz.f48) .leaf (postV Tryz.prog Tryz.f48 R) ⟨#[Value.slice x0a x0n x0c] ++ Array.replicate (Tryz.f48.ntmps - 1) undef, []⟩ H := by kernel_rfl
theorem F48_calls {R : Ending → Heap → Prop} {H : Heap} (x0a : Option Addr) (x0n : Nat) (x0c : Nat) (h : F48 x0a x0n x0c R H) : HCalls Tryz.prog 48 #[Value.slice x0a x0n x0c] H R :=
  calls_by (F := F48 x0a x0n x0c R H) .leaf Tryz.func48 rfl (F48_eq x0a x0n x0c R H) h
end Go.Proofs.YtngploohhmfaiaaGreat.E
/- The functions' forms in the engine's words, printed by my own program. -/
namespace Go.Proofs.YtngploohhmfaiaaGreat.E
open Go Go.Proofs
set_option linter.unusedVariables false
/-- (*bollard/volume.Volume).held -/
def F68 (x0 : Option Addr) (R : Ending → Heap → Prop) (H : Heap) : Prop :=
  sB (Option.isNone x0) (R (Ending.returned (Value.bool false)) H) (nz x0 (fun a1 =>
  HCalls Tryz.prog 113 #[Value.pointer (some a1)] H (Sp.retK (fun v2 H3 =>
  nz x0 (fun a4 =>
  ld H3 (Addr.add a4 2) (fun v5 =>
  dPtr v5 (fun p6 =>
  sB (Option.isNone p6) (nz x0 (fun a7 =>
  HCalls Tryz.prog 69 #[Value.pointer (some a7)] H3 (Sp.retK (fun v8 H9 =>
  R (Ending.returned (Value.bool false)) H9) (pnR R)))) (R (Ending.returned (Value.bool true)) H3))))) (pnR R))))
theorem F68_eq (x0 : Option Addr) (R : Ending → Heap → Prop) (H : Heap) : F68 x0 R H = vc Tryz.prog (codeOf Tryz.f68) .leaf (postV Tryz.prog Tryz.f68 R) ⟨#[Value.pointer x0] ++ Array.replicate (Tryz.f68.ntmps - 1) undef, []⟩ H := by kernel_rfl
theorem F68_calls {R : Ending → Heap → Prop} {H : Heap} (x0 : Option Addr) (h : F68 x0 R H) : HCalls Tryz.prog 68 #[Value.pointer x0] H R :=
  calls_by (F := F68 x0 R H) .leaf Tryz.func68 rfl (F68_eq x0 R H) h
/-- (*bollard/disk.Disk).Blocks -/
def F70 (x0 : Option Addr) (R : Ending → Heap → Prop) (H : Heap) : Prop :=
  sB (Option.isNone x0) (R (Ending.returned (Value.int IntKind.i64 0)) H) (nz x0 (fun a1 =>
  ld H a1 (fun v2 =>
  dSl v2 (fun p3 r4 r5 =>
  R (Ending.returned (Value.int IntKind.i64 (↑r4 : Int))) H))))
theorem F70_eq (x0 : Option Addr) (R : Ending → Heap → Prop) (H : Heap) : F70 x0 R H = vc Tryz.prog (codeOf Tryz.f70) .leaf (postV Tryz.prog Tryz.f70 R) ⟨#[Value.pointer x0] ++ Array.replicate (Tryz.f70.ntmps - 1) undef, []⟩ H := by kernel_rfl
theorem F70_calls {R : Ending → Heap → Prop} {H : Heap} (x0 : Option Addr) (h : F70 x0 R H) : HCalls Tryz.prog 70 #[Value.pointer x0] H R :=
  calls_by (F := F70 x0 R H) .leaf Tryz.func70 rfl (F70_eq x0 R H) h
/-- (*bollard/volume.Volume).has -/
def F71 (x0 : Option Addr) (x1 : Int) (R : Ending → Heap → Prop) (H : Heap) : Prop :=
  sB (decide (x1 ≥ 0)) (nz x0 (fun a1 =>
  ld H (Addr.add a1 2) (fun v2 =>
  dPtr v2 (fun p3 =>
  HCalls Tryz.prog 70 #[Value.pointer p3] H (Sp.retK (fun v4 H5 =>
  dInt IntKind.i64 v4 (fun n6 =>
  R (Ending.returned (Value.bool (decide (x1 < n6)))) H5)) (pnR R)))))) (R (Ending.returned (Value.bool false)) H)
theorem F71_eq (x0 : Option Addr) (x1 : Int) (R : Ending → Heap → Prop) (H : Heap) : F71 x0 x1 R H = vc Tryz.prog (codeOf Tryz.f71) .leaf (postV Tryz.prog Tryz.f71 R) ⟨#[Value.pointer x0, Value.int IntKind.i64 x1] ++ Array.replicate (Tryz.f71.ntmps - 2) undef, []⟩ H := by kernel_rfl
theorem F71_calls {R : Ending → Heap → Prop} {H : Heap} (x0 : Option Addr) (x1 : Int) (h : F71 x0 x1 R H) : HCalls Tryz.prog 71 #[Value.pointer x0, Value.int IntKind.i64 x1] H R :=
  calls_by (F := F71 x0 x1 R H) .leaf Tryz.func71 rfl (F71_eq x0 x1 R H) h
/-- (*bollard/volume.Volume).read -/
def F72 (x0 : Option Addr) (x1 : Int) (R : Ending → Heap → Prop) (H : Heap) : Prop :=
  HCalls Tryz.prog 71 #[Value.pointer x0, Value.int IntKind.i64 x1] H (Sp.retK (fun v1 H2 =>
  dBl v1 (fun b3 =>
  sB (!b3) (R (Ending.returned (Value.tuple #[Value.slice none 0 0, Value.int IntKind.i64 90])) H2) (nz x0 (fun a4 =>
  ld H2 (Addr.add a4 3) (fun v5 =>
  dPtr v5 (fun p6 =>
  HCalls Tryz.prog 125 #[Value.pointer p6, Value.int IntKind.i64 x1] H2 (Sp.retK (fun v7 H8 =>
  dT 2 v7 (fun v9 v10 =>
  dSl v9 (fun p11 r12 r13 =>
  dInt IntKind.i64 v10 (fun n14 =>
  sB (n14 != 0) (R (Ending.returned (Value.tuple #[Value.slice none 0 0, Value.int IntKind.i64 n14])) H8) (nz x0 (fun a15 =>
  ld H8 (Addr.add a15 4) (fun v16 =>
  dPtr v16 (fun p17 =>
  HCalls Tryz.prog 126 #[Value.pointer p17, Value.int IntKind.i64 x1, Value.slice p11 r12 r13] H8 (Sp.retK (fun v18 H19 =>
  dT 2 v18 (fun v20 v21 =>
  dSl v20 (fun p22 r23 r24 =>
  dInt IntKind.i64 v21 (fun n25 =>
  R (Ending.returned (Value.tuple #[Value.slice p22 r23 r24, Value.int IntKind.i64 n25])) H19)))) (pnR R)))))))))) (pnR R)))))))) (pnR R))
theorem F72_eq (x0 : Option Addr) (x1 : Int) (R : Ending → Heap → Prop) (H : Heap) : F72 x0 x1 R H = vc Tryz.prog (codeOf Tryz.f72) .leaf (postV Tryz.prog Tryz.f72 R) ⟨#[Value.pointer x0, Value.int IntKind.i64 x1] ++ Array.replicate (Tryz.f72.ntmps - 2) undef, []⟩ H := by kernel_rfl
theorem F72_calls {R : Ending → Heap → Prop} {H : Heap} (x0 : Option Addr) (x1 : Int) (h : F72 x0 x1 R H) : HCalls Tryz.prog 72 #[Value.pointer x0, Value.int IntKind.i64 x1] H R :=
  calls_by (F := F72 x0 x1 R H) .leaf Tryz.func72 rfl (F72_eq x0 x1 R H) h
/-- (*bollard/patch.Set).Add -/
def F73 (x0 : Option Addr) (x1 : Int) (x2 : Int) (x3a : Option Addr) (x3n : Nat) (x3c : Nat) (x4a : Option Addr) (x4n : Nat) (x4c : Nat) (R : Ending → Heap → Prop) (H : Heap) : Prop :=
  al H (Obj.cells #[Value.pointer x0] 51) (fun r1 H2 =>
  ld H2 (Addr.mk r1 0 none) (fun v3 =>
  dPtr v3 (fun p4 =>
  HCalls Tryz.prog 127 #[Value.pointer p4] H2 (Sp.retK (fun v5 H6 =>
  dBl v5 (fun b7 =>
  sB (!b7) (R (Ending.returned (Value.tuple #[Value.int IntKind.i64 0, Value.int IntKind.i64 2])) H6) (HCalls Tryz.prog 128 #[Value.int IntKind.i64 x1, Value.int IntKind.i64 x2, Value.slice x3a x3n x3c] H6 (Sp.retK (fun v8 H9 =>
  dBl v8 (fun b10 =>
  sB (!b10) (R (Ending.returned (Value.tuple #[Value.int IntKind.i64 0, Value.int IntKind.i64 1])) H9) (HCalls Tryz.prog 88 #[Value.slice x4a x4n x4c, Value.func (Fn.func 129) #[] #[Value.pointer (some (Addr.mk r1 0 none))]] H9 (Sp.retK (fun v11 H12 =>
  dBl v11 (fun b13 =>
  sB b13 (R (Ending.returned (Value.tuple #[Value.int IntKind.i64 0, Value.int IntKind.i64 70])) H12) (ld H12 (Addr.mk r1 0 none) (fun v14 =>
  dPtr v14 (fun p15 =>
  nz p15 (fun a16 =>
  ld H12 a16 (fun v17 =>
  dInt IntKind.i64 v17 (fun n18 =>
  wr IntKind.i64 (n18 + 1) (fun n19 =>
  (HCalls Tryz.prog 107 #[Value.slice x3a x3n x3c] H12 (Sp.retK (fun v20 H21 =>
  dSl v20 (fun p22 r23 r24 =>
  (ld H21 a16 (fun v25 =>
  dInt IntKind.i64 v25 (fun n26 =>
  (Value.int IntKind.i64 n26) = (Value.int IntKind.i64 n18)))) ∧
  (ld H21 (Addr.mk r1 0 none) (fun v27 =>
  dPtr v27 (fun p28 =>
  (Value.pointer p28) = (Value.pointer p15)))) ∧
  al H21 (Obj.cells #[Value.int IntKind.i64 0, Value.int IntKind.i64 0, Value.int IntKind.i64 0, Value.slice none 0 0, Value.slice none 0 0] 194) (fun r29 H30 =>
  (ld H30 a16 (fun v31 =>
  dInt IntKind.i64 v31 (fun n32 =>
  (Value.int IntKind.i64 n32) = (Value.int IntKind.i64 n18)))) ∧
  (ld H30 (Addr.mk r1 0 none) (fun v33 =>
  dPtr v33 (fun p34 =>
  (Value.pointer p34) = (Value.pointer p15)))) ∧
  st H30 (Addr.mk r29 0 none) (Value.int IntKind.i64 n19) (fun H35 =>
  st H35 (Addr.mk r29 1 none) (Value.int IntKind.i64 x1) (fun H36 =>
  st H36 (Addr.mk r29 2 none) (Value.int IntKind.i64 x2) (fun H37 =>
  st H37 (Addr.mk r29 3 none) (Value.slice p22 r23 r24) (fun H38 =>
  st H38 (Addr.mk r29 4 none) (Value.slice none 0 0) (fun H39 =>
  HCalls Tryz.prog 131 #[Value.slice x4a x4n x4c] H39 (Sp.retK (fun v40 H41 =>
  dSl v40 (fun p42 r43 r44 =>
  ld H41 (Addr.mk r1 0 none) (fun v45 =>
  dPtr v45 (fun p46 =>
  nz p46 (fun a47 =>
  ld H41 (Addr.add a47 2) (fun v48 =>
  dMap v48 (fun p49 =>
  semW Tryz.prog (Instr.range 190 (Value.map p49)) (pnR R) H41 (fun v52 H53 =>
  ∃ I54 : List Value → Heap → Prop,
  ∃ I55 : List Value → Heap → Nat,
  (I54 ([Value.slice p42 r43 r44]) H53) ∧
  ∀ p56 : Option Addr,
  ∀ r57 : Nat,
  ∀ r58 : Nat,
  ∀ v59 v60 v61 v62 v63 v64 v65 v66 v67 v68 v69 v70 v71 v72 : Value,
  ∀ H73 : Heap,
  (I54 ([Value.slice p56 r57 r58]) H73) →
  semW Tryz.prog (Instr.next v52 false 0) (pnR R) H73 (fun v77 H78 =>
  dNx v77 (ld H78 (Addr.mk r1 0 none) (fun v79 =>
  dPtr v79 (fun p80 =>
  HCalls Tryz.prog 133 #[Value.pointer p80, Value.slice p56 r57 r58] H78 (Sp.retK (fun v81 H82 =>
  dSl v81 (fun p83 r84 r85 =>
  st H82 (Addr.mk r29 4 none) (Value.slice p83 r84 r85) (fun H86 =>
  ld H86 (Addr.mk r1 0 none) (fun v87 =>
  dPtr v87 (fun p88 =>
  nz p88 (fun a89 =>
  ld H86 a89 (fun v90 =>
  dInt IntKind.i64 v90 (fun n91 =>
  wr IntKind.i64 (n91 + 1) (fun n92 =>
  nz p88 (fun a93 =>
  st H86 a93 (Value.int IntKind.i64 n92) (fun H94 =>
  ld H94 (Addr.mk r1 0 none) (fun v95 =>
  dPtr v95 (fun p96 =>
  nz p96 (fun a97 =>
  ld H94 (Addr.add a97 2) (fun v98 =>
  dMap v98 (fun p99 =>
  ld H94 (Addr.mk r1 0 none) (fun v100 =>
  dPtr v100 (fun p101 =>
  nz p101 (fun a102 =>
  ld H94 a102 (fun v103 =>
  dInt IntKind.i64 v103 (fun n104 =>
  ld H94 (Addr.mk r29 0 none) (fun v105 =>
  ld H94 (Addr.mk r29 1 none) (fun v106 =>
  ld H94 (Addr.mk r29 2 none) (fun v107 =>
  ld H94 (Addr.mk r29 3 none) (fun v108 =>
  ld H94 (Addr.mk r29 4 none) (fun v109 =>
  semW Tryz.prog (Instr.mapUpdate 190 (Value.map p99) (Value.int IntKind.i64 n104) (Value.agg #[v105, v106, v107, v108, v109])) nopR H94 (fun x112 H113 =>
  ld H113 (Addr.mk r1 0 none) (fun v114 =>
  dPtr v114 (fun p115 =>
  nz p115 (fun a116 =>
  ld H113 a116 (fun v117 =>
  dInt IntKind.i64 v117 (fun n118 =>
  R (Ending.returned (Value.tuple #[Value.int IntKind.i64 n118, Value.int IntKind.i64 0])) H113)))))))))))))))))))))))))))))))) (pnR R))))) (fun v121 v122 =>
  semW Tryz.prog (Instr.entry v52) (pnR R) H78 (fun v125 H126 =>
  dT 2 v125 (fun v127 v128 =>
  dInt IntKind.i64 v127 (fun n129 =>
  dA 5 v128 (fun v130 v131 v132 v133 v134 =>
  al H126 (Obj.cells #[Value.int IntKind.i64 0, Value.int IntKind.i64 0, Value.int IntKind.i64 0, Value.slice none 0 0, Value.slice none 0 0] 194) (fun r135 H136 =>
  st H136 (Addr.mk r135 0 none) v130 (fun H137 =>
  st H137 (Addr.mk r135 1 none) v131 (fun H138 =>
  st H138 (Addr.mk r135 2 none) v132 (fun H139 =>
  st H139 (Addr.mk r135 3 none) v133 (fun H140 =>
  st H140 (Addr.mk r135 4 none) v134 (fun H141 =>
  ld H141 (Addr.mk r29 0 none) (fun v142 =>
  ld H141 (Addr.mk r29 1 none) (fun v143 =>
  ld H141 (Addr.mk r29 2 none) (fun v144 =>
  ld H141 (Addr.mk r29 3 none) (fun v145 =>
  ld H141 (Addr.mk r29 4 none) (fun v146 =>
  ld H141 (Addr.mk r135 0 none) (fun v147 =>
  ld H141 (Addr.mk r135 1 none) (fun v148 =>
  ld H141 (Addr.mk r135 2 none) (fun v149 =>
  ld H141 (Addr.mk r135 3 none) (fun v150 =>
  ld H141 (Addr.mk r135 4 none) (fun v151 =>
  HCalls Tryz.prog 132 #[Value.agg #[v142, v143, v144, v145, v146], Value.agg #[v147, v148, v149, v150, v151]] H141 (Sp.retK (fun v152 H153 =>
  dBl v152 (fun b154 =>
  sB b154 (al H153 (Obj.cells #[Value.int IntKind.i64 n129] 3) (fun r155 H156 =>
  semW Tryz.prog (Builtin.append_ #[73, 73] 73 #[Value.slice p56 r57 r58, Value.slice (some (Addr.mk r155 0 none)) 1 1]) (pnR R) H156 (fun v159 H160 =>
  dSl v159 (fun p161 r162 r163 =>
  (I54 ([Value.slice p161 r162 r163]) H160) ∧
  (I55 [Value.slice p161 r162 r163] H160) < (I55 [Value.slice p56 r57 r58] H73))))) ((I54 ([Value.slice p56 r57 r58]) H153) ∧
  (I55 [Value.slice p56 r57 r58] H153) < (I55 [Value.slice p56 r57 r58] H73)))) (pnR R)))))))))))))))))))))))))))))))) (pnR R)))))))))) nopR)) ∧
  al H12 (Obj.cells #[Value.int IntKind.i64 0, Value.int IntKind.i64 0, Value.int IntKind.i64 0, Value.slice none 0 0, Value.slice none 0 0] 194) (fun r170 H171 =>
  (ld H171 a16 (fun v172 =>
  dInt IntKind.i64 v172 (fun n173 =>
  (Value.int IntKind.i64 n173) = (Value.int IntKind.i64 n18)))) ∧
  (ld H171 (Addr.mk r1 0 none) (fun v174 =>
  dPtr v174 (fun p175 =>
  (Value.pointer p175) = (Value.pointer p15)))) ∧
  HCalls Tryz.prog 107 #[Value.slice x3a x3n x3c] H171 (Sp.retK (fun v176 H177 =>
  dSl v176 (fun p178 r179 r180 =>
  (ld H177 a16 (fun v181 =>
  dInt IntKind.i64 v181 (fun n182 =>
  (Value.int IntKind.i64 n182) = (Value.int IntKind.i64 n18)))) ∧
  (ld H177 (Addr.mk r1 0 none) (fun v183 =>
  dPtr v183 (fun p184 =>
  (Value.pointer p184) = (Value.pointer p15)))) ∧
  st H177 (Addr.mk r170 0 none) (Value.int IntKind.i64 n19) (fun H185 =>
  st H185 (Addr.mk r170 1 none) (Value.int IntKind.i64 x1) (fun H186 =>
  st H186 (Addr.mk r170 2 none) (Value.int IntKind.i64 x2) (fun H187 =>
  st H187 (Addr.mk r170 3 none) (Value.slice p178 r179 r180) (fun H188 =>
  st H188 (Addr.mk r170 4 none) (Value.slice none 0 0) (fun H189 =>
  HCalls Tryz.prog 131 #[Value.slice x4a x4n x4c] H189 (Sp.retK (fun v190 H191 =>
  dSl v190 (fun p192 r193 r194 =>
  ld H191 (Addr.mk r1 0 none) (fun v195 =>
  dPtr v195 (fun p196 =>
  nz p196 (fun a197 =>
  ld H191 (Addr.add a197 2) (fun v198 =>
  dMap v198 (fun p199 =>
  semW Tryz.prog (Instr.range 190 (Value.map p199)) (pnR R) H191 (fun v202 H203 =>
  ∃ I204 : List Value → Heap → Prop,
  ∃ I205 : List Value → Heap → Nat,
  (I204 ([Value.slice p192 r193 r194]) H203) ∧
  ∀ p206 : Option Addr,
  ∀ r207 : Nat,
  ∀ r208 : Nat,
  ∀ v209 v210 v211 v212 v213 v214 v215 v216 v217 v218 v219 v220 v221 v222 : Value,
  ∀ H223 : Heap,
  (I204 ([Value.slice p206 r207 r208]) H223) →
  semW Tryz.prog (Instr.next v202 false 0) (pnR R) H223 (fun v227 H228 =>
  dNx v227 (ld H228 (Addr.mk r1 0 none) (fun v229 =>
  dPtr v229 (fun p230 =>
  HCalls Tryz.prog 133 #[Value.pointer p230, Value.slice p206 r207 r208] H228 (Sp.retK (fun v231 H232 =>
  dSl v231 (fun p233 r234 r235 =>
  st H232 (Addr.mk r170 4 none) (Value.slice p233 r234 r235) (fun H236 =>
  ld H236 (Addr.mk r1 0 none) (fun v237 =>
  dPtr v237 (fun p238 =>
  nz p238 (fun a239 =>
  ld H236 a239 (fun v240 =>
  dInt IntKind.i64 v240 (fun n241 =>
  wr IntKind.i64 (n241 + 1) (fun n242 =>
  nz p238 (fun a243 =>
  st H236 a243 (Value.int IntKind.i64 n242) (fun H244 =>
  ld H244 (Addr.mk r1 0 none) (fun v245 =>
  dPtr v245 (fun p246 =>
  nz p246 (fun a247 =>
  ld H244 (Addr.add a247 2) (fun v248 =>
  dMap v248 (fun p249 =>
  ld H244 (Addr.mk r1 0 none) (fun v250 =>
  dPtr v250 (fun p251 =>
  nz p251 (fun a252 =>
  ld H244 a252 (fun v253 =>
  dInt IntKind.i64 v253 (fun n254 =>
  ld H244 (Addr.mk r170 0 none) (fun v255 =>
  ld H244 (Addr.mk r170 1 none) (fun v256 =>
  ld H244 (Addr.mk r170 2 none) (fun v257 =>
  ld H244 (Addr.mk r170 3 none) (fun v258 =>
  ld H244 (Addr.mk r170 4 none) (fun v259 =>
  semW Tryz.prog (Instr.mapUpdate 190 (Value.map p249) (Value.int IntKind.i64 n254) (Value.agg #[v255, v256, v257, v258, v259])) nopR H244 (fun x262 H263 =>
  ld H263 (Addr.mk r1 0 none) (fun v264 =>
  dPtr v264 (fun p265 =>
  nz p265 (fun a266 =>
  ld H263 a266 (fun v267 =>
  dInt IntKind.i64 v267 (fun n268 =>
  R (Ending.returned (Value.tuple #[Value.int IntKind.i64 n268, Value.int IntKind.i64 0])) H263)))))))))))))))))))))))))))))))) (pnR R))))) (fun v271 v272 =>
  semW Tryz.prog (Instr.entry v202) (pnR R) H228 (fun v275 H276 =>
  dT 2 v275 (fun v277 v278 =>
  dInt IntKind.i64 v277 (fun n279 =>
  dA 5 v278 (fun v280 v281 v282 v283 v284 =>
  al H276 (Obj.cells #[Value.int IntKind.i64 0, Value.int IntKind.i64 0, Value.int IntKind.i64 0, Value.slice none 0 0, Value.slice none 0 0] 194) (fun r285 H286 =>
  st H286 (Addr.mk r285 0 none) v280 (fun H287 =>
  st H287 (Addr.mk r285 1 none) v281 (fun H288 =>
  st H288 (Addr.mk r285 2 none) v282 (fun H289 =>
  st H289 (Addr.mk r285 3 none) v283 (fun H290 =>
  st H290 (Addr.mk r285 4 none) v284 (fun H291 =>
  ld H291 (Addr.mk r170 0 none) (fun v292 =>
  ld H291 (Addr.mk r170 1 none) (fun v293 =>
  ld H291 (Addr.mk r170 2 none) (fun v294 =>
  ld H291 (Addr.mk r170 3 none) (fun v295 =>
  ld H291 (Addr.mk r170 4 none) (fun v296 =>
  ld H291 (Addr.mk r285 0 none) (fun v297 =>
  ld H291 (Addr.mk r285 1 none) (fun v298 =>
  ld H291 (Addr.mk r285 2 none) (fun v299 =>
  ld H291 (Addr.mk r285 3 none) (fun v300 =>
  ld H291 (Addr.mk r285 4 none) (fun v301 =>
  HCalls Tryz.prog 132 #[Value.agg #[v292, v293, v294, v295, v296], Value.agg #[v297, v298, v299, v300, v301]] H291 (Sp.retK (fun v302 H303 =>
  dBl v302 (fun b304 =>
  sB b304 (al H303 (Obj.cells #[Value.int IntKind.i64 n279] 3) (fun r305 H306 =>
  semW Tryz.prog (Builtin.append_ #[73, 73] 73 #[Value.slice p206 r207 r208, Value.slice (some (Addr.mk r305 0 none)) 1 1]) (pnR R) H306 (fun v309 H310 =>
  dSl v309 (fun p311 r312 r313 =>
  (I204 ([Value.slice p311 r312 r313]) H310) ∧
  (I205 [Value.slice p311 r312 r313] H310) < (I205 [Value.slice p206 r207 r208] H223))))) ((I204 ([Value.slice p206 r207 r208]) H303) ∧
  (I205 [Value.slice p206 r207 r208] H303) < (I205 [Value.slice p206 r207 r208] H223)))) (pnR R)))))))))))))))))))))))))))))))) (pnR R))))))))) nopR))))))))))) (pnR R))))) (pnR R))))) (pnR R)))))
theorem F73_eq (x0 : Option Addr) (x1 : Int) (x2 : Int) (x3a : Option Addr) (x3n : Nat) (x3c : Nat) (x4a : Option Addr) (x4n : Nat) (x4c : Nat) (R : Ending → Heap → Prop) (H : Heap) : F73 x0 x1 x2 x3a x3n x3c x4a x4n x4c R H = vc Tryz.prog (codeOf Tryz.f73) (.node none .leaf (.node none .leaf (.node none .leaf (.node none .leaf (.node none (.node none .leaf (.node none (.node (some ⟨[(13, 73)], [14, 15, 47, 48, 49, 50, 51, 52, 53, 54, 55, 56, 57, 58]⟩) .leaf .leaf) .leaf)) .leaf))))) (postV Tryz.prog Tryz.f73 R) ⟨#[Value.pointer x0, Value.int IntKind.i64 x1, Value.int IntKind.i64 x2, Value.slice x3a x3n x3c, Value.slice x4a x4n x4c] ++ Array.replicate (Tryz.f73.ntmps - 5) undef, []⟩ H := by kernel_rfl
theorem F73_calls {R : Ending → Heap → Prop} {H : Heap} (x0 : Option Addr) (x1 : Int) (x2 : Int) (x3a : Option Addr) (x3n : Nat) (x3c : Nat) (x4a : Option Addr) (x4n : Nat) (x4c : Nat) (h : F73 x0 x1 x2 x3a x3n x3c x4a x4n x4c R H) : HCalls Tryz.prog 73 #[Value.pointer x0, Value.int IntKind.i64 x1, Value.int IntKind.i64 x2, Value.slice x3a x3n x3c, Value.slice x4a x4n x4c] H R :=
  calls_by (F := F73 x0 x1 x2 x3a x3n x3c x4a x4n x4c R H) (.node none .leaf (.node none .leaf (.node none .leaf (.node none .leaf (.node none (.node none .leaf (.node none (.node (some ⟨[(13, 73)], [14, 15, 47, 48, 49, 50, 51, 52, 53, 54, 55, 56, 57, 58]⟩) .leaf .leaf) .leaf)) .leaf))))) Tryz.func73 rfl (F73_eq x0 x1 x2 x3a x3n x3c x4a x4n x4c R H) h
end Go.Proofs.YtngploohhmfaiaaGreat.E
/- The functions' forms in the engine's words, printed by my own program. -/
namespace Go.Proofs.YtngploohhmfaiaaGreat.E
open Go Go.Proofs
set_option linter.unusedVariables false
/-- bollard/cache.New -/
def F81 (x0 : Option Addr) (x1 : Int) (R : Ending → Heap → Prop) (H : Heap) : Prop :=
  HCalls Tryz.prog 70 #[Value.pointer x0] H (Sp.retK (fun v1 H2 =>
  dInt IntKind.i64 v1 (fun n3 =>
  sB (n3 == 0) (R (Ending.returned (Value.tuple #[Value.pointer none, Value.int IntKind.i64 2])) H2) (jn (α := VFH 1) (fun v4 H5 =>
  ∀ v6 v7 v8 v9 v10 : Value,
  dBl v4 (fun b11 =>
  sB b11 (R (Ending.returned (Value.tuple #[Value.pointer none, Value.int IntKind.i64 1])) H5) (al H5 (Obj.map #[] 0) (fun r12 H13 =>
  al H13 (Obj.cells #[Value.pointer x0, Value.int IntKind.i64 x1, Value.map (some r12), Value.int IntKind.i64 0, Value.int IntKind.i64 0, Value.int IntKind.i64 0] 203) (fun r14 H15 =>
  R (Ending.returned (Value.tuple #[Value.pointer (some (Addr.mk r14 0 none)), Value.int IntKind.i64 0])) H15))))) (fun k16 =>
  sB (decide (x1 < 1)) (k16 (Value.bool true) H2) (k16 (Value.bool (decide (x1 > 64))) H2))))) (pnR R))
theorem F81_eq (x0 : Option Addr) (x1 : Int) (R : Ending → Heap → Prop) (H : Heap) : F81 x0 x1 R H = vc Tryz.prog (codeOf Tryz.f81) (.node none .leaf (.node none .leaf (.node none (.node (some ⟨[(14, 4)], [9, 10, 11, 12, 13]⟩) .leaf .leaf) .leaf))) (postV Tryz.prog Tryz.f81 R) ⟨#[Value.pointer x0, Value.int IntKind.i64 x1] ++ Array.replicate (Tryz.f81.ntmps - 2) undef, []⟩ H := by kernel_rfl
theorem F81_calls {R : Ending → Heap → Prop} {H : Heap} (x0 : Option Addr) (x1 : Int) (h : F81 x0 x1 R H) : HCalls Tryz.prog 81 #[Value.pointer x0, Value.int IntKind.i64 x1] H R :=
  calls_by (F := F81 x0 x1 R H) (.node none .leaf (.node none .leaf (.node none (.node (some ⟨[(14, 4)], [9, 10, 11, 12, 13]⟩) .leaf .leaf) .leaf))) Tryz.func81 rfl (F81_eq x0 x1 R H) h
/-- bollard/patch.New -/
def F82  (R : Ending → Heap → Prop) (H : Heap) : Prop :=
  al H (Obj.map #[] 0) (fun r1 H2 =>
  al H2 (Obj.map #[] 0) (fun r3 H4 =>
  al H4 (Obj.cells #[Value.int IntKind.i64 0, Value.map (some r1), Value.map (some r3), Value.bool true] 192) (fun r5 H6 =>
  R (Ending.returned (Value.pointer (some (Addr.mk r5 0 none)))) H6)))
theorem F82_eq  (R : Ending → Heap → Prop) (H : Heap) : F82  R H = vc Tryz.prog (codeOf Tryz.f82) .leaf (postV Tryz.prog Tryz.f82 R) ⟨#[] ++ Array.replicate (Tryz.f82.ntmps - 0) undef, []⟩ H := by kernel_rfl
theorem F82_calls {R : Ending → Heap → Prop} {H : Heap}  (h : F82  R H) : HCalls Tryz.prog 82 #[] H R :=
  calls_by (F := F82  R H) .leaf Tryz.func82 rfl (F82_eq  R H) h
/-- (*bollard/volume.Volume).ready -/
def F83 (x0 : Option Addr) (R : Ending → Heap → Prop) (H : Heap) : Prop :=
  al H (Obj.cells #[Value.pointer x0] 30) (fun r1 H2 =>
  ask ((0 : Int) ≤ (128 : Int) ∧ (128 : Int) ≤ (128 : Int) ∧ (128 : Int) ≤ (281474976710656 : Int) ∧ (128 : Int) ≤ (9223372036854775807 : Int)) (al H2 (Obj.cells (List.toArray (rowZ [Value.int IntKind.u8 0] (Int.toNat 128))) 5) (fun r3 H4 =>
  al H4 (Obj.cells #[Value.slice none 0 0] 38) (fun r5 H6 =>
  st H6 (Addr.mk r5 0 none) (Value.slice (some (Addr.mk r3 0 none)) (Int.toNat 128) (Int.toNat 128)) (fun H7 =>
  ld H7 (Addr.mk r1 0 none) (fun v8 =>
  dPtr v8 (fun p9 =>
  nz p9 (fun a10 =>
  ld H7 (Addr.add a10 4) (fun v11 =>
  dPtr v11 (fun p12 =>
  HCalls Tryz.prog 99 #[Value.pointer p12] H7 (Sp.retK (fun v13 H14 =>
  dSl v13 (fun p15 r16 r17 =>
  HCalls Tryz.prog 140 #[Value.slice p15 r16 r17, Value.func (Fn.func 141) #[] #[Value.pointer (some (Addr.mk r1 0 none)), Value.pointer (some (Addr.mk r5 0 none))]] H14 (Sp.retK (fun v18 H19 =>
  dSl v18 (fun p20 r21 r22 =>
  R (Ending.returned (Value.slice p20 r21 r22)) H19)) (pnR R)))) (pnR R))))))))))))
theorem F83_eq (x0 : Option Addr) (R : Ending → Heap → Prop) (H : Heap) : F83 x0 R H = vc Tryz.prog (codeOf Tryz.f83) .leaf (postV Tryz.prog Tryz.f83 R) ⟨#[Value.pointer x0] ++ Array.replicate (Tryz.f83.ntmps - 1) undef, []⟩ H := by kernel_rfl
theorem F83_calls {R : Ending → Heap → Prop} {H : Heap} (x0 : Option Addr) (h : F83 x0 R H) : HCalls Tryz.prog 83 #[Value.pointer x0] H R :=
  calls_by (F := F83 x0 R H) .leaf Tryz.func83 rfl (F83_eq x0 R H) h
/-- (*bollard/volume.Volume).write -/
def F84 (x0 : Option Addr) (x1 : Int) (R : Ending → Heap → Prop) (H : Heap) : Prop :=
  HCalls Tryz.prog 71 #[Value.pointer x0, Value.int IntKind.i64 x1] H (Sp.retK (fun v1 H2 =>
  dBl v1 (fun b3 =>
  sB (!b3) (R (Ending.returned (Value.int IntKind.i64 90)) H2) (HCalls Tryz.prog 143 #[Value.pointer x0, Value.int IntKind.i64 x1] H2 (Sp.retK (fun v4 H5 =>
  dBl v4 (fun b6 =>
  sB b6 (R (Ending.returned (Value.int IntKind.i64 3)) H5) (nz x0 (fun a7 =>
  ld H5 (Addr.add a7 4) (fun v8 =>
  dPtr v8 (fun p9 =>
  ask ((0 : Int) ≤ (128 : Int) ∧ (128 : Int) ≤ (128 : Int) ∧ (128 : Int) ≤ (281474976710656 : Int) ∧ (128 : Int) ≤ (9223372036854775807 : Int)) (al H5 (Obj.cells (List.toArray (rowZ [Value.int IntKind.u8 0] (Int.toNat 128))) 5) (fun r10 H11 =>
  (ld H11 (Addr.add a7 4) (fun v12 =>
  dPtr v12 (fun p13 =>
  (Value.pointer p13) = (Value.pointer p9)))) ∧
  HCalls Tryz.prog 142 #[Value.pointer p9, Value.int IntKind.i64 x1, Value.slice (some (Addr.mk r10 0 none)) (Int.toNat 128) (Int.toNat 128)] H11 (Sp.retK (fun v14 H15 =>
  dT 3 v14 (fun v16 v17 v18 =>
  dSl v16 (fun p19 r20 r21 =>
  dSl v17 (fun p22 r23 r24 =>
  dInt IntKind.i64 v18 (fun n25 =>
  sB (n25 != 0) (R (Ending.returned (Value.int IntKind.i64 n25)) H15) (nz x0 (fun a26 =>
  ld H15 (Addr.add a26 3) (fun v27 =>
  dPtr v27 (fun p28 =>
  HCalls Tryz.prog 125 #[Value.pointer p28, Value.int IntKind.i64 x1] H15 (Sp.retK (fun v29 H30 =>
  dT 2 v29 (fun v31 v32 =>
  dSl v31 (fun p33 r34 r35 =>
  dInt IntKind.i64 v32 (fun n36 =>
  sB (n36 != 0) (R (Ending.returned (Value.int IntKind.i64 n36)) H30) (nz x0 (fun a37 =>
  ld H30 (Addr.add a37 4) (fun v38 =>
  dPtr v38 (fun p39 =>
  HCalls Tryz.prog 142 #[Value.pointer p39, Value.int IntKind.i64 x1, Value.slice p33 r34 r35] H30 (Sp.retK (fun v40 H41 =>
  dT 3 v40 (fun v42 v43 v44 =>
  dSl v42 (fun p45 r46 r47 =>
  dSl v43 (fun p48 r49 r50 =>
  dInt IntKind.i64 v44 (fun n51 =>
  sB (n51 != 0) (R (Ending.returned (Value.int IntKind.i64 n51)) H41) (nz x0 (fun a52 =>
  ld H41 (Addr.add a52 2) (fun v53 =>
  dPtr v53 (fun p54 =>
  HCalls Tryz.prog 144 #[Value.pointer p54, Value.int IntKind.i64 x1, Value.slice p45 r46 r47] H41 (Sp.retK (fun v55 H56 =>
  dT 2 v55 (fun v57 v58 =>
  dInt IntKind.i64 v57 (fun n59 =>
  dInt IntKind.i64 v58 (fun n60 =>
  jn (α := VFH 0) (fun H61 =>
  ∀ v62 v63 v64 v65 v66 v67 v68 v69 v70 v71 v72 : Value,
  R (Ending.returned (Value.int IntKind.i64 n60)) H61) (fun k73 =>
  sB (n60 == 0) (nz x0 (fun a74 =>
  ld H56 (Addr.add a74 5) (fun v75 =>
  dMap v75 (fun p76 =>
  semW Tryz.prog (Instr.mapUpdate 52 (Value.map p76) (Value.int IntKind.i64 n59) (Value.agg #[Value.int IntKind.i64 x1, Value.slice p45 r46 r47, Value.slice p48 r49 r50])) (pnR R) H56 (fun x79 H80 =>
  k73 H80))))) (k73 H56)))))) (pnR R))))))))))) (pnR R)))))))))) (pnR R))))))))))) nopR))))))))) (pnR R))))) (pnR R))
theorem F84_eq (x0 : Option Addr) (x1 : Int) (R : Ending → Heap → Prop) (H : Heap) : F84 x0 x1 R H = vc Tryz.prog (codeOf Tryz.f84) (.node none .leaf (.node none .leaf (.node none .leaf (.node none .leaf (.node none .leaf (.node none .leaf (.node none .leaf (.node none .leaf (.node none .leaf (.node (some ⟨[], [71, 72, 73, 74, 75, 76, 77, 78, 79, 80, 81]⟩) .leaf .leaf)))))))))) (postV Tryz.prog Tryz.f84 R) ⟨#[Value.pointer x0, Value.int IntKind.i64 x1] ++ Array.replicate (Tryz.f84.ntmps - 2) undef, []⟩ H := by kernel_rfl
theorem F84_calls {R : Ending → Heap → Prop} {H : Heap} (x0 : Option Addr) (x1 : Int) (h : F84 x0 x1 R H) : HCalls Tryz.prog 84 #[Value.pointer x0, Value.int IntKind.i64 x1] H R :=
  calls_by (F := F84 x0 x1 R H) (.node none .leaf (.node none .leaf (.node none .leaf (.node none .leaf (.node none .leaf (.node none .leaf (.node none .leaf (.node none .leaf (.node none .leaf (.node (some ⟨[], [71, 72, 73, 74, 75, 76, 77, 78, 79, 80, 81]⟩) .leaf .leaf)))))))))) Tryz.func84 rfl (F84_eq x0 x1 R H) h
/-- (*bollard/volume.Volume).complete -/
def F85 (x0 : Option Addr) (x1 : Int) (x2 : Bool) (R : Ending → Heap → Prop) (H : Heap) : Prop :=
  nz x0 (fun a1 =>
  ld H (Addr.add a1 2) (fun v2 =>
  dPtr v2 (fun p3 =>
  HCalls Tryz.prog 36 #[Value.pointer p3] H (Sp.retK (fun v4 H5 =>
  dSl v4 (fun p6 r7 r8 =>
  jn (α := VFH 1) (fun v9 H10 =>
  ∀ v11 v12 v13 v14 v15 v16 v17 : Value,
  dBl v9 (fun b18 =>
  sB b18 (R (Ending.returned (Value.int IntKind.i64 1)) H10) (nz x0 (fun a19 =>
  ld H10 (Addr.add a19 5) (fun v20 =>
  dMap v20 (fun p21 =>
  nz p6 (fun a22 =>
  ask ((0 : Int) ≤ x1 ∧ x1 < (↑r7 : Int)) (ld H10 (Addr.add a22 (Int.toNat x1 * 3)) (fun v23 =>
  dInt IntKind.i64 v23 (fun n24 =>
  (semW Tryz.prog (Instr.lookup 52 (Value.map p21) (Value.int IntKind.i64 n24) true) nopR H10 (fun v27 H28 =>
  dT 2 v27 (fun v29 v30 =>
  dA 3 v29 (fun v31 v32 v33 =>
  dBl v30 (fun b34 =>
  al H28 (Obj.cells #[Value.int IntKind.i64 0, Value.slice none 0 0, Value.slice none 0 0] 153) (fun r35 H36 =>
  st H36 (Addr.mk r35 0 none) v31 (fun H37 =>
  st H37 (Addr.mk r35 1 none) v32 (fun H38 =>
  st H38 (Addr.mk r35 2 none) v33 (fun H39 =>
  nz x0 (fun a40 =>
  ld H39 (Addr.add a40 5) (fun v41 =>
  dMap v41 (fun p42 =>
  nz p6 (fun a43 =>
  ask ((0 : Int) ≤ x1 ∧ x1 < (↑r7 : Int)) (ld H39 (Addr.add a43 (Int.toNat x1 * 3)) (fun v44 =>
  dInt IntKind.i64 v44 (fun n45 =>
  semW Tryz.prog (Builtin.delete_ #[52, 3] 0 #[Value.map p42, Value.int IntKind.i64 n45]) nopR H39 (fun v48 H49 =>
  nz x0 (fun a50 =>
  ld H49 (Addr.add a50 2) (fun v51 =>
  dPtr v51 (fun p52 =>
  nz p6 (fun a53 =>
  ask ((0 : Int) ≤ x1 ∧ x1 < (↑r7 : Int)) (ld H49 (Addr.add a53 (Int.toNat x1 * 3)) (fun v54 =>
  dInt IntKind.i64 v54 (fun n55 =>
  HCalls Tryz.prog 145 #[Value.pointer p52, Value.int IntKind.i64 n55, Value.bool x2] H49 (Sp.retK (fun v56 H57 =>
  dInt IntKind.i64 v56 (fun n58 =>
  jn (α := VFH 1) (fun v59 H60 =>
  ∀ v61 v62 v63 v64 v65 v66 v67 v68 v69 : Value,
  dBl v59 (fun b70 =>
  sB b70 (R (Ending.returned (Value.int IntKind.i64 n58)) H60) (nz x0 (fun a71 =>
  ld H60 (Addr.add a71 3) (fun v72 =>
  dPtr v72 (fun p73 =>
  ld H60 (Addr.mk r35 0 none) (fun v74 =>
  dInt IntKind.i64 v74 (fun n75 =>
  ld H60 (Addr.mk r35 1 none) (fun v76 =>
  dSl v76 (fun p77 r78 r79 =>
  HCalls Tryz.prog 146 #[Value.pointer p73, Value.int IntKind.i64 n75, Value.slice p77 r78 r79] H60 (Sp.retK (fun v80 H81 =>
  dInt IntKind.i64 v80 (fun n82 =>
  sB (n82 != 0) (R (Ending.returned (Value.int IntKind.i64 n82)) H81) (nz x0 (fun a83 =>
  ld H81 (Addr.add a83 4) (fun v84 =>
  dPtr v84 (fun p85 =>
  ld H81 (Addr.mk r35 2 none) (fun v86 =>
  dSl v86 (fun p87 r88 r89 =>
  HCalls Tryz.prog 147 #[Value.pointer p85, Value.slice p87 r88 r89] H81 (Sp.retK (fun v90 H91 =>
  dInt IntKind.i64 v90 (fun n92 =>
  R (Ending.returned (Value.int IntKind.i64 n92)) H91)) nopR))))))))) nopR))))))))))) (fun k97 =>
  sB (n58 != 0) (k97 (Value.bool true) H57) (sB (!x2) (k97 (Value.bool true) H57) (k97 (Value.bool !b34) H57))))) nopR))))))))))))))))))))))))) ∧
  al H10 (Obj.cells #[Value.int IntKind.i64 0, Value.slice none 0 0, Value.slice none 0 0] 153) (fun r100 H101 =>
  (ld H101 (Addr.add a22 (Int.toNat x1 * 3)) (fun v102 =>
  dInt IntKind.i64 v102 (fun n103 =>
  (Value.int IntKind.i64 n103) = (Value.int IntKind.i64 n24)))) ∧
  (ld H101 (Addr.add a19 5) (fun v104 =>
  dMap v104 (fun p105 =>
  (Value.map p105) = (Value.map p21)))) ∧
  semW Tryz.prog (Instr.lookup 52 (Value.map p21) (Value.int IntKind.i64 n24) true) nopR H101 (fun v108 H109 =>
  dT 2 v108 (fun v110 v111 =>
  dA 3 v110 (fun v112 v113 v114 =>
  dBl v111 (fun b115 =>
  st H109 (Addr.mk r100 0 none) v112 (fun H116 =>
  st H116 (Addr.mk r100 1 none) v113 (fun H117 =>
  st H117 (Addr.mk r100 2 none) v114 (fun H118 =>
  nz x0 (fun a119 =>
  ld H118 (Addr.add a119 5) (fun v120 =>
  dMap v120 (fun p121 =>
  nz p6 (fun a122 =>
  ask ((0 : Int) ≤ x1 ∧ x1 < (↑r7 : Int)) (ld H118 (Addr.add a122 (Int.toNat x1 * 3)) (fun v123 =>
  dInt IntKind.i64 v123 (fun n124 =>
  semW Tryz.prog (Builtin.delete_ #[52, 3] 0 #[Value.map p121, Value.int IntKind.i64 n124]) nopR H118 (fun v127 H128 =>
  nz x0 (fun a129 =>
  ld H128 (Addr.add a129 2) (fun v130 =>
  dPtr v130 (fun p131 =>
  nz p6 (fun a132 =>
  ask ((0 : Int) ≤ x1 ∧ x1 < (↑r7 : Int)) (ld H128 (Addr.add a132 (Int.toNat x1 * 3)) (fun v133 =>
  dInt IntKind.i64 v133 (fun n134 =>
  HCalls Tryz.prog 145 #[Value.pointer p131, Value.int IntKind.i64 n134, Value.bool x2] H128 (Sp.retK (fun v135 H136 =>
  dInt IntKind.i64 v135 (fun n137 =>
  jn (α := VFH 1) (fun v138 H139 =>
  ∀ v140 v141 v142 v143 v144 v145 v146 v147 v148 : Value,
  dBl v138 (fun b149 =>
  sB b149 (R (Ending.returned (Value.int IntKind.i64 n137)) H139) (nz x0 (fun a150 =>
  ld H139 (Addr.add a150 3) (fun v151 =>
  dPtr v151 (fun p152 =>
  ld H139 (Addr.mk r100 0 none) (fun v153 =>
  dInt IntKind.i64 v153 (fun n154 =>
  ld H139 (Addr.mk r100 1 none) (fun v155 =>
  dSl v155 (fun p156 r157 r158 =>
  HCalls Tryz.prog 146 #[Value.pointer p152, Value.int IntKind.i64 n154, Value.slice p156 r157 r158] H139 (Sp.retK (fun v159 H160 =>
  dInt IntKind.i64 v159 (fun n161 =>
  sB (n161 != 0) (R (Ending.returned (Value.int IntKind.i64 n161)) H160) (nz x0 (fun a162 =>
  ld H160 (Addr.add a162 4) (fun v163 =>
  dPtr v163 (fun p164 =>
  ld H160 (Addr.mk r100 2 none) (fun v165 =>
  dSl v165 (fun p166 r167 r168 =>
  HCalls Tryz.prog 147 #[Value.pointer p164, Value.slice p166 r167 r168] H160 (Sp.retK (fun v169 H170 =>
  dInt IntKind.i64 v169 (fun n171 =>
  R (Ending.returned (Value.int IntKind.i64 n171)) H170)) nopR))))))))) nopR))))))))))) (fun k176 =>
  sB (n137 != 0) (k176 (Value.bool true) H136) (sB (!x2) (k176 (Value.bool true) H136) (k176 (Value.bool !b115) H136))))) nopR)))))))))))))))))))))))))))))))))) (fun k179 =>
  sB (decide (x1 < 0)) (k179 (Value.bool true) H5) (k179 (Value.bool (decide (x1 ≥ (↑r7 : Int)))) H5)))) (pnR R)))))
theorem F85_eq (x0 : Option Addr) (x1 : Int) (x2 : Bool) (R : Ending → Heap → Prop) (H : Heap) : F85 x0 x1 x2 R H = vc Tryz.prog (codeOf Tryz.f85) (.node none .leaf (.node none .leaf (.node none (.node (some ⟨[(23, 4)], [16, 17, 18, 19, 20, 21, 22]⟩) .leaf .leaf) (.node none .leaf (.node none .leaf (.node none .leaf (.node none (.node (some ⟨[(66, 4)], [57, 58, 59, 60, 61, 62, 63, 64, 65]⟩) .leaf .leaf) .leaf))))))) (postV Tryz.prog Tryz.f85 R) ⟨#[Value.pointer x0, Value.int IntKind.i64 x1, Value.bool x2] ++ Array.replicate (Tryz.f85.ntmps - 3) undef, []⟩ H := by kernel_rfl
theorem F85_calls {R : Ending → Heap → Prop} {H : Heap} (x0 : Option Addr) (x1 : Int) (x2 : Bool) (h : F85 x0 x1 x2 R H) : HCalls Tryz.prog 85 #[Value.pointer x0, Value.int IntKind.i64 x1, Value.bool x2] H R :=
  calls_by (F := F85 x0 x1 x2 R H) (.node none .leaf (.node none .leaf (.node none (.node (some ⟨[(23, 4)], [16, 17, 18, 19, 20, 21, 22]⟩) .leaf .leaf) (.node none .leaf (.node none .leaf (.node none .leaf (.node none (.node (some ⟨[(66, 4)], [57, 58, 59, 60, 61, 62, 63, 64, 65]⟩) .leaf .leaf) .leaf))))))) Tryz.func85 rfl (F85_eq x0 x1 x2 R H) h
/-- bollard/disk.sent -/
def F86 (x0a : Option Addr) (x0n : Nat) (x0c : Nat) (R : Ending → Heap → Prop) (H : Heap) : Prop :=
  ∃ I1 : List Value → Heap → Prop,
  ∃ I2 : List Value → Heap → Nat,
  (I1 ([Value.slice none 0 0, Value.int IntKind.i64 0]) H) ∧
  ∀ p3 : Option Addr,
  ∀ r4 : Nat,
  ∀ r5 : Nat,
  ∀ n6 : Int,
  ∀ v7 v8 v9 v10 v11 v12 v13 v14 v15 v16 v17 v18 v19 : Value,
  ∀ H20 : Heap,
  (I1 ([Value.slice p3 r4 r5, Value.int IntKind.i64 n6]) H20) →
  sB (decide (n6 < (↑x0n : Int))) (nz x0a (fun a22 =>
  ask ((0 : Int) ≤ n6 ∧ n6 < (↑x0n : Int)) (ld H20 (Addr.add a22 (Int.toNat n6 * 3)) (fun v23 =>
  ld H20 (Addr.add (Addr.add a22 (Int.toNat n6 * 3)) 1) (fun v24 =>
  ld H20 (Addr.add (Addr.add a22 (Int.toNat n6 * 3)) 2) (fun v25 =>
  al H20 (Obj.cells #[Value.int IntKind.i64 0, Value.int IntKind.i64 0, Value.slice none 0 0] 96) (fun r26 H27 =>
  st H27 (Addr.mk r26 0 none) v23 (fun H28 =>
  st H28 (Addr.mk r26 1 none) v24 (fun H29 =>
  st H29 (Addr.mk r26 2 none) v25 (fun H30 =>
  ld H30 (Addr.mk r26 2 none) (fun v31 =>
  dSl v31 (fun p32 r33 r34 =>
  HCalls Tryz.prog 48 #[Value.slice p32 r33 r34] H30 (Sp.retK (fun v35 H36 =>
  dSl v35 (fun p37 r38 r39 =>
  st H36 (Addr.mk r26 2 none) (Value.slice p37 r38 r39) (fun H40 =>
  ld H40 (Addr.mk r26 0 none) (fun v41 =>
  ld H40 (Addr.mk r26 1 none) (fun v42 =>
  ld H40 (Addr.mk r26 2 none) (fun v43 =>
  al H40 (Obj.cells #[v41, v42, v43] 96) (fun r44 H45 =>
  semW Tryz.prog (Builtin.append_ #[93, 93] 93 #[Value.slice p3 r4 r5, Value.slice (some (Addr.mk r44 0 none)) 1 1]) (pnR R) H45 (fun v48 H49 =>
  dSl v48 (fun p50 r51 r52 =>
  wr IntKind.i64 (n6 + 1) (fun n53 =>
  (I1 ([Value.slice p50 r51 r52, Value.int IntKind.i64 n53]) H49) ∧
  (I2 [Value.slice p50 r51 r52, Value.int IntKind.i64 n53] H49) < (I2 [Value.slice p3 r4 r5, Value.int IntKind.i64 n6] H20))))))))))) (pnR R)))))))))))))) (R (Ending.returned (Value.slice p3 r4 r5)) H20)
theorem F86_eq (x0a : Option Addr) (x0n : Nat) (x0c : Nat) (R : Ending → Heap → Prop) (H : Heap) : F86 x0a x0n x0c R H = vc Tryz.prog (codeOf Tryz.f86) (.node none .leaf (.node none .leaf (.node none (.node none .leaf (.node none (.node (some ⟨[(3, 93), (8, 3)], [5, 9, 10, 11, 12, 13, 14, 15, 16, 17, 18, 19, 20]⟩) .leaf .leaf) .leaf)) .leaf))) (postV Tryz.prog Tryz.f86 R) ⟨#[Value.slice x0a x0n x0c] ++ Array.replicate (Tryz.f86.ntmps - 1) undef, []⟩ H := by kernel_rfl
theorem F86_calls {R : Ending → Heap → Prop} {H : Heap} (x0a : Option Addr) (x0n : Nat) (x0c : Nat) (h : F86 x0a x0n x0c R H) : HCalls Tryz.prog 86 #[Value.slice x0a x0n x0c] H R :=
  calls_by (F := F86 x0a x0n x0c R H) (.node none .leaf (.node none .leaf (.node none (.node none .leaf (.node none (.node (some ⟨[(3, 93), (8, 3)], [5, 9, 10, 11, 12, 13, 14, 15, 16, 17, 18, 19, 20]⟩) .leaf .leaf) .leaf)) .leaf))) Tryz.func86 rfl (F86_eq x0a x0n x0c R H) h
/-- (*bollard/disk.Disk).made -/
def F87 (x0 : Option Addr) (R : Ending → Heap → Prop) (H : Heap) : Prop :=
  sB (!Option.isNone x0) (nz x0 (fun a1 =>
  ld H a1 (fun v2 =>
  dSl v2 (fun p3 r4 r5 =>
  R (Ending.returned (Value.bool (decide ((↑r4 : Int) > 0)))) H)))) (R (Ending.returned (Value.bool false)) H)
theorem F87_eq (x0 : Option Addr) (R : Ending → Heap → Prop) (H : Heap) : F87 x0 R H = vc Tryz.prog (codeOf Tryz.f87) .leaf (postV Tryz.prog Tryz.f87 R) ⟨#[Value.pointer x0] ++ Array.replicate (Tryz.f87.ntmps - 1) undef, []⟩ H := by kernel_rfl
theorem F87_calls {R : Ending → Heap → Prop} {H : Heap} (x0 : Option Addr) (h : F87 x0 R H) : HCalls Tryz.prog 87 #[Value.pointer x0] H R :=
  calls_by (F := F87 x0 R H) .leaf Tryz.func87 rfl (F87_eq x0 R H) h
/-- slices.ContainsFunc[[]int,int] -/
def F88 (x0a : Option Addr) (x0n : Nat) (x0c : Nat) (x1g : Nat) (x1f : Array Value) (x1c : Array Value) (R : Ending → Heap → Prop) (H : Heap) : Prop :=
  HCalls Tryz.prog 148 #[Value.slice x0a x0n x0c, Value.func (Fn.func x1g) x1f x1c] H (Sp.retK (fun v1 H2 =>
  dInt IntKind.i64 v1 (fun n3 =>
  R (Ending.returned (Value.bool (decide (n3 ≥ 0)))) H2)) (pnR R))
theorem F88_eq (x0a : Option Addr) (x0n : Nat) (x0c : Nat) (x1g : Nat) (x1f : Array Value) (x1c : Array Value) (R : Ending → Heap → Prop) (H : Heap) : F88 x0a x0n x0c x1g x1f x1c R H = vc Tryz.prog (codeOf Tryz.f88) .leaf (postV Tryz.prog Tryz.f88 R) ⟨#[Value.slice x0a x0n x0c, Value.func (Fn.func x1g) x1f x1c] ++ Array.replicate (Tryz.f88.ntmps - 2) undef, []⟩ H := by kernel_rfl
theorem F88_calls {R : Ending → Heap → Prop} {H : Heap} (x0a : Option Addr) (x0n : Nat) (x0c : Nat) (x1g : Nat) (x1f : Array Value) (x1c : Array Value) (h : F88 x0a x0n x0c x1g x1f x1c R H) : HCalls Tryz.prog 88 #[Value.slice x0a x0n x0c, Value.func (Fn.func x1g) x1f x1c] H R :=
  calls_by (F := F88 x0a x0n x0c x1g x1f x1c R H) .leaf Tryz.func88 rfl (F88_eq x0a x0n x0c x1g x1f x1c R H) h
/-- (*bollard/disk.Disk).Crash$1 -/
def F89 (x0 : Int) (f0 : Addr) (R : Ending → Heap → Prop) (H : Heap) : Prop :=
  ld H f0 (fun v1 =>
  dPtr v1 (fun p2 =>
  HCalls Tryz.prog 90 #[Value.pointer p2, Value.int IntKind.i64 x0] H (Sp.retK (fun v3 H4 =>
  dInt IntKind.i64 v3 (fun n5 =>
  R (Ending.returned (Value.bool (decide (n5 < 0)))) H4)) (pnR R))))
theorem F89_eq (x0 : Int) (f0 : Addr) (R : Ending → Heap → Prop) (H : Heap) : F89 x0 f0 R H = vc Tryz.prog (codeOf Tryz.f89) .leaf (postV Tryz.prog Tryz.f89 R) ⟨#[Value.int IntKind.i64 x0, Value.pointer (some f0)] ++ Array.replicate (Tryz.f89.ntmps - 2) undef, []⟩ H := by kernel_rfl
theorem F89_calls {R : Ending → Heap → Prop} {H : Heap} (x0 : Int) (f0 : Addr) (h : F89 x0 f0 R H) : HCalls Tryz.prog 89 #[Value.int IntKind.i64 x0, Value.pointer (some f0)] H R :=
  calls_by (F := F89 x0 f0 R H) .leaf Tryz.func89 rfl (F89_eq x0 f0 R H) h
/-- (*bollard/disk.Disk).place -/
def F90 (x0 : Option Addr) (x1 : Int) (R : Ending → Heap → Prop) (H : Heap) : Prop :=
  al H (Obj.cells #[Value.int IntKind.i64 x1] 3) (fun r1 H2 =>
  nz x0 (fun a3 =>
  ld H2 (Addr.add a3 1) (fun v4 =>
  dSl v4 (fun p5 r6 r7 =>
  HCalls Tryz.prog 149 #[Value.slice p5 r6 r7, Value.func (Fn.func 150) #[] #[Value.pointer (some (Addr.mk r1 0 none))]] H2 (Sp.retK (fun v8 H9 =>
  dInt IntKind.i64 v8 (fun n10 =>
  R (Ending.returned (Value.int IntKind.i64 n10)) H9)) (pnR R))))))
theorem F90_eq (x0 : Option Addr) (x1 : Int) (R : Ending → Heap → Prop) (H : Heap) : F90 x0 x1 R H = vc Tryz.prog (codeOf Tryz.f90) .leaf (postV Tryz.prog Tryz.f90 R) ⟨#[Value.pointer x0, Value.int IntKind.i64 x1] ++ Array.replicate (Tryz.f90.ntmps - 2) undef, []⟩ H := by kernel_rfl
theorem F90_calls {R : Ending → Heap → Prop} {H : Heap} (x0 : Option Addr) (x1 : Int) (h : F90 x0 x1 R H) : HCalls Tryz.prog 90 #[Value.pointer x0, Value.int IntKind.i64 x1] H R :=
  calls_by (F := F90 x0 x1 R H) .leaf Tryz.func90 rfl (F90_eq x0 x1 R H) h
/-- bollard/disk.image -/
def F91 (x0a : Option Addr) (x0n : Nat) (x0c : Nat) (R : Ending → Heap → Prop) (H : Heap) : Prop :=
  ∃ I1 : List Value → Heap → Prop,
  ∃ I2 : List Value → Heap → Nat,
  (I1 ([Value.slice none 0 0, Value.int IntKind.i64 0]) H) ∧
  ∀ p3 : Option Addr,
  ∀ r4 : Nat,
  ∀ r5 : Nat,
  ∀ n6 : Int,
  ∀ v7 v8 v9 v10 v11 v12 v13 v14 v15 v16 : Value,
  ∀ H17 : Heap,
  (I1 ([Value.slice p3 r4 r5, Value.int IntKind.i64 n6]) H17) →
  sB (decide (n6 < (↑x0n : Int))) (nz x0a (fun a19 =>
  ask ((0 : Int) ≤ n6 ∧ n6 < (↑x0n : Int)) (ld H17 (Addr.add a19 (Int.toNat n6 * 1)) (fun v20 =>
  dSl v20 (fun p21 r22 r23 =>
  HCalls Tryz.prog 48 #[Value.slice p21 r22 r23] H17 (Sp.retK (fun v24 H25 =>
  dSl v24 (fun p26 r27 r28 =>
  al H25 (Obj.cells #[Value.slice p26 r27 r28] 38) (fun r29 H30 =>
  semW Tryz.prog (Builtin.append_ #[42, 42] 42 #[Value.slice p3 r4 r5, Value.slice (some (Addr.mk r29 0 none)) 1 1]) (pnR R) H30 (fun v33 H34 =>
  dSl v33 (fun p35 r36 r37 =>
  wr IntKind.i64 (n6 + 1) (fun n38 =>
  (I1 ([Value.slice p35 r36 r37, Value.int IntKind.i64 n38]) H34) ∧
  (I2 [Value.slice p35 r36 r37, Value.int IntKind.i64 n38] H34) < (I2 [Value.slice p3 r4 r5, Value.int IntKind.i64 n6] H17))))))) (pnR R))))))) (R (Ending.returned (Value.slice p3 r4 r5)) H17)
theorem F91_eq (x0a : Option Addr) (x0n : Nat) (x0c : Nat) (R : Ending → Heap → Prop) (H : Heap) : F91 x0a x0n x0c R H = vc Tryz.prog (codeOf Tryz.f91) (.node none .leaf (.node none .leaf (.node none (.node none .leaf (.node none (.node (some ⟨[(3, 42), (8, 3)], [5, 9, 10, 11, 12, 13, 14, 15, 16, 17]⟩) .leaf .leaf) .leaf)) .leaf))) (postV Tryz.prog Tryz.f91 R) ⟨#[Value.slice x0a x0n x0c] ++ Array.replicate (Tryz.f91.ntmps - 1) undef, []⟩ H := by kernel_rfl
theorem F91_calls {R : Ending → Heap → Prop} {H : Heap} (x0a : Option Addr) (x0n : Nat) (x0c : Nat) (h : F91 x0a x0n x0c R H) : HCalls Tryz.prog 91 #[Value.slice x0a x0n x0c] H R :=
  calls_by (F := F91 x0a x0n x0c R H) (.node none .leaf (.node none .leaf (.node none (.node none .leaf (.node none (.node (some ⟨[(3, 42), (8, 3)], [5, 9, 10, 11, 12, 13, 14, 15, 16, 17]⟩) .leaf .leaf) .leaf)) .leaf))) Tryz.func91 rfl (F91_eq x0a x0n x0c R H) h
end Go.Proofs.YtngploohhmfaiaaGreat.E
/- The functions' forms in the engine's words, printed by my own program. -/
namespace Go.Proofs.YtngploohhmfaiaaGreat.E
open Go Go.Proofs
set_option linter.unusedVariables false
/-- (*bollard/patch.Set).Blocks -/
def F99 (x0 : Option Addr) (R : Ending → Heap → Prop) (H : Heap) : Prop :=
  HCalls Tryz.prog 127 #[Value.pointer x0] H (Sp.retK (fun v1 H2 =>
  dBl v1 (fun b3 =>
  sB (!b3) (R (Ending.returned (Value.slice none 0 0)) H2) (nz x0 (fun a4 =>
  ld H2 (Addr.add a4 2) (fun v5 =>
  dMap v5 (fun p6 =>
  semW Tryz.prog (Instr.range 190 (Value.map p6)) (pnR R) H2 (fun v9 H10 =>
  ∃ I11 : List Value → Heap → Prop,
  ∃ I12 : List Value → Heap → Nat,
  (I11 ([Value.slice none 0 0]) H10) ∧
  ∀ p13 : Option Addr,
  ∀ r14 : Nat,
  ∀ r15 : Nat,
  ∀ v16 v17 v18 v19 v20 v21 v22 v23 v24 v25 : Value,
  ∀ H26 : Heap,
  (I11 ([Value.slice p13 r14 r15]) H26) →
  semW Tryz.prog (Instr.next v9 false 0) (pnR R) H26 (fun v30 H31 =>
  dNx v30 (HCalls Tryz.prog 156 #[Value.slice p13 r14 r15] H31 (Sp.retK (fun v32 H33 =>
  HCalls Tryz.prog 157 #[Value.slice p13 r14 r15] H33 (Sp.retK (fun v34 H35 =>
  dSl v34 (fun p36 r37 r38 =>
  R (Ending.returned (Value.slice p36 r37 r38)) H35)) (pnR R))) (pnR R))) (fun v43 v44 =>
  semW Tryz.prog (Instr.entry v9) (pnR R) H31 (fun v47 H48 =>
  dT 2 v47 (fun v49 v50 =>
  dA 5 v50 (fun v51 v52 v53 v54 v55 =>
  al H48 (Obj.cells #[Value.int IntKind.i64 0, Value.int IntKind.i64 0, Value.int IntKind.i64 0, Value.slice none 0 0, Value.slice none 0 0] 194) (fun r56 H57 =>
  st H57 (Addr.mk r56 0 none) v51 (fun H58 =>
  st H58 (Addr.mk r56 1 none) v52 (fun H59 =>
  st H59 (Addr.mk r56 2 none) v53 (fun H60 =>
  st H60 (Addr.mk r56 3 none) v54 (fun H61 =>
  st H61 (Addr.mk r56 4 none) v55 (fun H62 =>
  ld H62 (Addr.mk r56 1 none) (fun v63 =>
  dInt IntKind.i64 v63 (fun n64 =>
  al H62 (Obj.cells #[Value.int IntKind.i64 n64] 3) (fun r65 H66 =>
  semW Tryz.prog (Builtin.append_ #[73, 73] 73 #[Value.slice p13 r14 r15, Value.slice (some (Addr.mk r65 0 none)) 1 1]) (pnR R) H66 (fun v69 H70 =>
  dSl v69 (fun p71 r72 r73 =>
  (I11 ([Value.slice p71 r72 r73]) H70) ∧
  (I12 [Value.slice p71 r72 r73] H70) < (I12 [Value.slice p13 r14 r15] H26)))))))))))))))))))))))) (pnR R))
theorem F99_eq (x0 : Option Addr) (R : Ending → Heap → Prop) (H : Heap) : F99 x0 R H = vc Tryz.prog (codeOf Tryz.f99) (.node none .leaf (.node none .leaf (.node none .leaf (.node none (.node none .leaf (.node none (.node (some ⟨[(3, 73)], [5, 14, 15, 16, 17, 18, 19, 20, 21, 22]⟩) .leaf .leaf) .leaf)) .leaf)))) (postV Tryz.prog Tryz.f99 R) ⟨#[Value.pointer x0] ++ Array.replicate (Tryz.f99.ntmps - 1) undef, []⟩ H := by kernel_rfl
theorem F99_calls {R : Ending → Heap → Prop} {H : Heap} (x0 : Option Addr) (h : F99 x0 R H) : HCalls Tryz.prog 99 #[Value.pointer x0] H R :=
  calls_by (F := F99 x0 R H) (.node none .leaf (.node none .leaf (.node none .leaf (.node none (.node none .leaf (.node none (.node (some ⟨[(3, 73)], [5, 14, 15, 16, 17, 18, 19, 20, 21, 22]⟩) .leaf .leaf) .leaf)) .leaf)))) Tryz.func99 rfl (F99_eq x0 R H) h
/-- slices.Clone[[]byte,byte] -/
def F107 (x0a : Option Addr) (x0n : Nat) (x0c : Nat) (R : Ending → Heap → Prop) (H : Heap) : Prop :=
  sB (Option.isNone x0a) (R (Ending.returned (Value.slice none 0 0)) H) (al H (Obj.cells #[] 5) (fun r1 H2 =>
  semW Tryz.prog (Builtin.append_ #[38, 38] 38 #[Value.slice (some (Addr.mk r1 0 none)) 0 0, Value.slice x0a x0n x0c]) (pnR R) H2 (fun v5 H6 =>
  dSl v5 (fun p7 r8 r9 =>
  R (Ending.returned (Value.slice p7 r8 r9)) H6))))
theorem F107_eq (x0a : Option Addr) (x0n : Nat) (x0c : Nat) (R : Ending → Heap → Prop) (H : Heap) : F107 x0a x0n x0c R H = vc Tryz.prog (codeOf Tryz.f107) .leaf (postV Tryz.prog Tryz.f107 R) ⟨#[Value.slice x0a x0n x0c] ++ Array.replicate (Tryz.f107.ntmps - 1) undef, []⟩ H := by kernel_rfl
theorem F107_calls {R : Ending → Heap → Prop} {H : Heap} (x0a : Option Addr) (x0n : Nat) (x0c : Nat) (h : F107 x0a x0n x0c R H) : HCalls Tryz.prog 107 #[Value.slice x0a x0n x0c] H R :=
  calls_by (F := F107 x0a x0n x0c R H) .leaf Tryz.func107 rfl (F107_eq x0a x0n x0c R H) h
/-- (*bollard/patch.Set).Of -/
def F112 (x0 : Option Addr) (x1 : Int) (R : Ending → Heap → Prop) (H : Heap) : Prop :=
  al H (Obj.cells #[Value.pointer x0] 51) (fun r1 H2 =>
  al H2 (Obj.cells #[Value.int IntKind.i64 x1] 3) (fun r3 H4 =>
  ld H4 (Addr.mk r1 0 none) (fun v5 =>
  dPtr v5 (fun p6 =>
  HCalls Tryz.prog 127 #[Value.pointer p6] H4 (Sp.retK (fun v7 H8 =>
  dBl v7 (fun b9 =>
  sB (!b9) (R (Ending.returned (Value.slice none 0 0)) H8) (ld H8 (Addr.mk r1 0 none) (fun v10 =>
  dPtr v10 (fun p11 =>
  HCalls Tryz.prog 170 #[Value.pointer p11] H8 (Sp.retK (fun v12 H13 =>
  dSl v12 (fun p14 r15 r16 =>
  HCalls Tryz.prog 140 #[Value.slice p14 r15 r16, Value.func (Fn.func 171) #[] #[Value.pointer (some (Addr.mk r1 0 none)), Value.pointer (some (Addr.mk r3 0 none))]] H13 (Sp.retK (fun v17 H18 =>
  dSl v17 (fun p19 r20 r21 =>
  R (Ending.returned (Value.slice p19 r20 r21)) H18)) (pnR R)))) (pnR R))))))) (pnR R))))))
theorem F112_eq (x0 : Option Addr) (x1 : Int) (R : Ending → Heap → Prop) (H : Heap) : F112 x0 x1 R H = vc Tryz.prog (codeOf Tryz.f112) .leaf (postV Tryz.prog Tryz.f112 R) ⟨#[Value.pointer x0, Value.int IntKind.i64 x1] ++ Array.replicate (Tryz.f112.ntmps - 2) undef, []⟩ H := by kernel_rfl
theorem F112_calls {R : Ending → Heap → Prop} {H : Heap} (x0 : Option Addr) (x1 : Int) (h : F112 x0 x1 R H) : HCalls Tryz.prog 112 #[Value.pointer x0, Value.int IntKind.i64 x1] H R :=
  calls_by (F := F112 x0 x1 R H) .leaf Tryz.func112 rfl (F112_eq x0 x1 R H) h
/-- (*bollard/cache.Cache).Get -/
def F125 (x0 : Option Addr) (x1 : Int) (R : Ending → Heap → Prop) (H : Heap) : Prop :=
  HCalls Tryz.prog 188 #[Value.pointer x0, Value.int IntKind.i64 x1] H (Sp.retK (fun v1 H2 =>
  dT 2 v1 (fun v3 v4 =>
  dPtr v3 (fun p5 =>
  dInt IntKind.i64 v4 (fun n6 =>
  sB (n6 != 0) (R (Ending.returned (Value.tuple #[Value.slice none 0 0, Value.int IntKind.i64 n6])) H2) (nz p5 (fun a7 =>
  ld H2 a7 (fun v8 =>
  dSl v8 (fun p9 r10 r11 =>
  HCalls Tryz.prog 48 #[Value.slice p9 r10 r11] H2 (Sp.retK (fun v12 H13 =>
  dSl v12 (fun p14 r15 r16 =>
  R (Ending.returned (Value.tuple #[Value.slice p14 r15 r16, Value.int IntKind.i64 0])) H13)) (pnR R)))))))))) (pnR R))
theorem F125_eq (x0 : Option Addr) (x1 : Int) (R : Ending → Heap → Prop) (H : Heap) : F125 x0 x1 R H = vc Tryz.prog (codeOf Tryz.f125) .leaf (postV Tryz.prog Tryz.f125 R) ⟨#[Value.pointer x0, Value.int IntKind.i64 x1] ++ Array.replicate (Tryz.f125.ntmps - 2) undef, []⟩ H := by kernel_rfl
theorem F125_calls {R : Ending → Heap → Prop} {H : Heap} (x0 : Option Addr) (x1 : Int) (h : F125 x0 x1 R H) : HCalls Tryz.prog 125 #[Value.pointer x0, Value.int IntKind.i64 x1] H R :=
  calls_by (F := F125 x0 x1 R H) .leaf Tryz.func125 rfl (F125_eq x0 x1 R H) h
/-- (*bollard/patch.Set).Now -/
def F126 (x0 : Option Addr) (x1 : Int) (x2a : Option Addr) (x2n : Nat) (x2c : Nat) (R : Ending → Heap → Prop) (H : Heap) : Prop :=
  HCalls Tryz.prog 127 #[Value.pointer x0] H (Sp.retK (fun v1 H2 =>
  dBl v1 (fun b3 =>
  sB (!b3) (R (Ending.returned (Value.tuple #[Value.slice none 0 0, Value.int IntKind.i64 2])) H2) (sB ((↑x2n : Int) != 128) (R (Ending.returned (Value.tuple #[Value.slice none 0 0, Value.int IntKind.i64 1])) H2) (HCalls Tryz.prog 112 #[Value.pointer x0, Value.int IntKind.i64 x1] H2 (Sp.retK (fun v4 H5 =>
  dSl v4 (fun p6 r7 r8 =>
  HCalls Tryz.prog 189 #[Value.pointer x0, Value.slice x2a x2n x2c, Value.slice p6 r7 r8] H5 (Sp.retK (fun v9 H10 =>
  dSl v9 (fun p11 r12 r13 =>
  R (Ending.returned (Value.tuple #[Value.slice p11 r12 r13, Value.int IntKind.i64 0])) H10)) (pnR R)))) (pnR R)))))) (pnR R))
theorem F126_eq (x0 : Option Addr) (x1 : Int) (x2a : Option Addr) (x2n : Nat) (x2c : Nat) (R : Ending → Heap → Prop) (H : Heap) : F126 x0 x1 x2a x2n x2c R H = vc Tryz.prog (codeOf Tryz.f126) .leaf (postV Tryz.prog Tryz.f126 R) ⟨#[Value.pointer x0, Value.int IntKind.i64 x1, Value.slice x2a x2n x2c] ++ Array.replicate (Tryz.f126.ntmps - 3) undef, []⟩ H := by kernel_rfl
theorem F126_calls {R : Ending → Heap → Prop} {H : Heap} (x0 : Option Addr) (x1 : Int) (x2a : Option Addr) (x2n : Nat) (x2c : Nat) (h : F126 x0 x1 x2a x2n x2c R H) : HCalls Tryz.prog 126 #[Value.pointer x0, Value.int IntKind.i64 x1, Value.slice x2a x2n x2c] H R :=
  calls_by (F := F126 x0 x1 x2a x2n x2c R H) .leaf Tryz.func126 rfl (F126_eq x0 x1 x2a x2n x2c R H) h
/-- (*bollard/patch.Set).own -/
def F127 (x0 : Option Addr) (R : Ending → Heap → Prop) (H : Heap) : Prop :=
  sB (!Option.isNone x0) (nz x0 (fun a1 =>
  ld H (Addr.add a1 3) (fun v2 =>
  dBl v2 (fun b3 =>
  R (Ending.returned (Value.bool b3)) H)))) (R (Ending.returned (Value.bool false)) H)
theorem F127_eq (x0 : Option Addr) (R : Ending → Heap → Prop) (H : Heap) : F127 x0 R H = vc Tryz.prog (codeOf Tryz.f127) .leaf (postV Tryz.prog Tryz.f127 R) ⟨#[Value.pointer x0] ++ Array.replicate (Tryz.f127.ntmps - 1) undef, []⟩ H := by kernel_rfl
theorem F127_calls {R : Ending → Heap → Prop} {H : Heap} (x0 : Option Addr) (h : F127 x0 R H) : HCalls Tryz.prog 127 #[Value.pointer x0] H R :=
  calls_by (F := F127 x0 R H) .leaf Tryz.func127 rfl (F127_eq x0 R H) h
/-- bollard/patch.fits -/
def F128 (x0 : Int) (x1 : Int) (x2a : Option Addr) (x2n : Nat) (x2c : Nat) (R : Ending → Heap → Prop) (H : Heap) : Prop :=
  sB (decide (x0 ≥ 0)) (sB (decide (x1 ≥ 0)) (sB (decide ((↑x2n : Int) > 0)) (sB (decide (x1 ≤ 128)) (wr IntKind.i64 (128 - x1) (fun n1 =>
  R (Ending.returned (Value.bool (decide ((↑x2n : Int) ≤ n1)))) H)) (R (Ending.returned (Value.bool false)) H)) (R (Ending.returned (Value.bool false)) H)) (R (Ending.returned (Value.bool false)) H)) (R (Ending.returned (Value.bool false)) H)
theorem F128_eq (x0 : Int) (x1 : Int) (x2a : Option Addr) (x2n : Nat) (x2c : Nat) (R : Ending → Heap → Prop) (H : Heap) : F128 x0 x1 x2a x2n x2c R H = vc Tryz.prog (codeOf Tryz.f128) .leaf (postV Tryz.prog Tryz.f128 R) ⟨#[Value.int IntKind.i64 x0, Value.int IntKind.i64 x1, Value.slice x2a x2n x2c] ++ Array.replicate (Tryz.f128.ntmps - 3) undef, []⟩ H := by kernel_rfl
theorem F128_calls {R : Ending → Heap → Prop} {H : Heap} (x0 : Int) (x1 : Int) (x2a : Option Addr) (x2n : Nat) (x2c : Nat) (h : F128 x0 x1 x2a x2n x2c R H) : HCalls Tryz.prog 128 #[Value.int IntKind.i64 x0, Value.int IntKind.i64 x1, Value.slice x2a x2n x2c] H R :=
  calls_by (F := F128 x0 x1 x2a x2n x2c R H) .leaf Tryz.func128 rfl (F128_eq x0 x1 x2a x2n x2c R H) h
/-- (*bollard/patch.Set).Add$1 -/
def F129 (x0 : Int) (f0 : Addr) (R : Ending → Heap → Prop) (H : Heap) : Prop :=
  ld H f0 (fun v1 =>
  dPtr v1 (fun p2 =>
  HCalls Tryz.prog 130 #[Value.pointer p2, Value.int IntKind.i64 x0] H (Sp.retK (fun v3 H4 =>
  dBl v3 (fun b5 =>
  R (Ending.returned (Value.bool !b5)) H4)) (pnR R))))
theorem F129_eq (x0 : Int) (f0 : Addr) (R : Ending → Heap → Prop) (H : Heap) : F129 x0 f0 R H = vc Tryz.prog (codeOf Tryz.f129) .leaf (postV Tryz.prog Tryz.f129 R) ⟨#[Value.int IntKind.i64 x0, Value.pointer (some f0)] ++ Array.replicate (Tryz.f129.ntmps - 2) undef, []⟩ H := by kernel_rfl
theorem F129_calls {R : Ending → Heap → Prop} {H : Heap} (x0 : Int) (f0 : Addr) (h : F129 x0 f0 R H) : HCalls Tryz.prog 129 #[Value.int IntKind.i64 x0, Value.pointer (some f0)] H R :=
  calls_by (F := F129 x0 f0 R H) .leaf Tryz.func129 rfl (F129_eq x0 f0 R H) h
/-- (*bollard/patch.Set).known -/
def F130 (x0 : Option Addr) (x1 : Int) (R : Ending → Heap → Prop) (H : Heap) : Prop :=
  sB (decide (x1 ≥ 1)) (nz x0 (fun a1 =>
  ld H a1 (fun v2 =>
  dInt IntKind.i64 v2 (fun n3 =>
  R (Ending.returned (Value.bool (decide (x1 ≤ n3)))) H)))) (R (Ending.returned (Value.bool false)) H)
theorem F130_eq (x0 : Option Addr) (x1 : Int) (R : Ending → Heap → Prop) (H : Heap) : F130 x0 x1 R H = vc Tryz.prog (codeOf Tryz.f130) .leaf (postV Tryz.prog Tryz.f130 R) ⟨#[Value.pointer x0, Value.int IntKind.i64 x1] ++ Array.replicate (Tryz.f130.ntmps - 2) undef, []⟩ H := by kernel_rfl
theorem F130_calls {R : Ending → Heap → Prop} {H : Heap} (x0 : Option Addr) (x1 : Int) (h : F130 x0 x1 R H) : HCalls Tryz.prog 130 #[Value.pointer x0, Value.int IntKind.i64 x1] H R :=
  calls_by (F := F130 x0 x1 R H) .leaf Tryz.func130 rfl (F130_eq x0 x1 R H) h
/-- slices.Clone[[]int,int] -/
def F131 (x0a : Option Addr) (x0n : Nat) (x0c : Nat) (R : Ending → Heap → Prop) (H : Heap) : Prop :=
  sB (Option.isNone x0a) (R (Ending.returned (Value.slice none 0 0)) H) (al H (Obj.cells #[] 3) (fun r1 H2 =>
  semW Tryz.prog (Builtin.append_ #[73, 73] 73 #[Value.slice (some (Addr.mk r1 0 none)) 0 0, Value.slice x0a x0n x0c]) (pnR R) H2 (fun v5 H6 =>
  dSl v5 (fun p7 r8 r9 =>
  R (Ending.returned (Value.slice p7 r8 r9)) H6))))
theorem F131_eq (x0a : Option Addr) (x0n : Nat) (x0c : Nat) (R : Ending → Heap → Prop) (H : Heap) : F131 x0a x0n x0c R H = vc Tryz.prog (codeOf Tryz.f131) .leaf (postV Tryz.prog Tryz.f131 R) ⟨#[Value.slice x0a x0n x0c] ++ Array.replicate (Tryz.f131.ntmps - 1) undef, []⟩ H := by kernel_rfl
theorem F131_calls {R : Ending → Heap → Prop} {H : Heap} (x0a : Option Addr) (x0n : Nat) (x0c : Nat) (h : F131 x0a x0n x0c R H) : HCalls Tryz.prog 131 #[Value.slice x0a x0n x0c] H R :=
  calls_by (F := F131 x0a x0n x0c R H) .leaf Tryz.func131 rfl (F131_eq x0a x0n x0c R H) h
end Go.Proofs.YtngploohhmfaiaaGreat.E
