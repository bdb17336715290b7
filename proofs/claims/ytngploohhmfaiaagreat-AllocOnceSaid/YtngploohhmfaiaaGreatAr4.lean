/- My own texts, joined. -/
import Derived.KernelRfl
import Derived.Test.YtngploohhmfaiaaGreatProg
import Derived.Test.YtngploohhmfaiaaGreatAr3
/- The functions' forms in the engine's words, printed by my own program. -/
namespace Go.Proofs.YtngploohhmfaiaaGreat.E
open Go Go.Proofs
set_option linter.unusedVariables false
/-- bollard/bollardplain.Fresh -/
def F23 (x0_0 : Value) (x0_1 : Value) (x0_2 : Value) (R : Ending → Heap → Prop) (H : Heap) : Prop :=
  al H (Obj.cells #[x0_0, x0_1, x0_2] 32) (fun r1 H2 =>
  al H2 (Obj.cells #[Value.int IntKind.i64 0, Value.int IntKind.i64 0, Value.int IntKind.i64 0] 32) (fun r3 H4 =>
  ld H4 (Addr.mk r1 0 none) (fun v5 =>
  ld H4 (Addr.mk r1 1 none) (fun v6 =>
  ld H4 (Addr.mk r1 2 none) (fun v7 =>
  HCalls Tryz.prog 66 #[Value.agg #[v5, v6, v7]] H4 (Sp.retK (fun v8 H9 =>
  dT 2 v8 (fun v10 v11 =>
  dSl v10 (fun p12 r13 r14 =>
  dInt IntKind.i64 v11 (fun n15 =>
  jn (α := VFH 1) (fun v16 H17 =>
  ∀ v18 v19 v20 v21 v22 v23 v24 v25 : Value,
  dSl v16 (fun p26 r27 r28 =>
  HCalls Tryz.prog 67 #[Value.slice p26 r27 r28, Value.int IntKind.i64 64] H17 (Sp.retK (fun v29 H30 =>
  dT 2 v29 (fun v31 v32 =>
  dPtr v31 (fun p33 =>
  dBl v32 (fun b34 =>
  ld H30 (Addr.mk r1 0 none) (fun v35 =>
  ld H30 (Addr.mk r1 1 none) (fun v36 =>
  ld H30 (Addr.mk r1 2 none) (fun v37 =>
  sB b34 (((ld H30 (Addr.mk r1 0 none) (fun v38 =>
  ld H30 (Addr.mk r1 1 none) (fun v39 =>
  ld H30 (Addr.mk r1 2 none) (fun v40 =>
  (Value.agg #[v38, v39, v40]) = (Value.agg #[v35, v36, v37]))))) ∧
  st H30 (Addr.mk r3 0 none) v35 (fun H41 =>
  st H41 (Addr.mk r3 1 none) v36 (fun H42 =>
  st H42 (Addr.mk r3 2 none) v37 (fun H43 =>
  ld H43 (Addr.mk r3 0 none) (fun v44 =>
  ld H43 (Addr.mk r3 1 none) (fun v45 =>
  ld H43 (Addr.mk r3 2 none) (fun v46 =>
  R (Ending.returned (Value.tuple #[Value.pointer p33, Value.agg #[v44, v45, v46], Value.bool !Option.isNone p33])) H43))))))) ∧
  st H30 (Addr.mk r3 0 none) v35 (fun H47 =>
  st H47 (Addr.mk r3 1 none) v36 (fun H48 =>
  st H48 (Addr.mk r3 2 none) v37 (fun H49 =>
  ld H49 (Addr.mk r3 0 none) (fun v50 =>
  ld H49 (Addr.mk r3 1 none) (fun v51 =>
  ld H49 (Addr.mk r3 2 none) (fun v52 =>
  R (Ending.returned (Value.tuple #[Value.pointer p33, Value.agg #[v50, v51, v52], Value.bool !Option.isNone p33])) H49))))))) (st H30 (Addr.mk r3 0 none) v35 (fun H53 =>
  st H53 (Addr.mk r3 1 none) v36 (fun H54 =>
  st H54 (Addr.mk r3 2 none) v37 (fun H55 =>
  ld H55 (Addr.mk r3 0 none) (fun v56 =>
  ld H55 (Addr.mk r3 1 none) (fun v57 =>
  ld H55 (Addr.mk r3 2 none) (fun v58 =>
  R (Ending.returned (Value.tuple #[Value.pointer p33, Value.agg #[v56, v57, v58], Value.bool false])) H55)))))))))))))) (pnR R)))) (fun k61 =>
  sB (n15 != 0) (st H9 (Addr.mk r1 0 none) (Value.int IntKind.i64 1) (fun H62 =>
  st H62 (Addr.mk r1 1 none) (Value.int IntKind.i64 8) (fun H63 =>
  st H63 (Addr.mk r1 2 none) (Value.int IntKind.i64 4) (fun H64 =>
  ld H64 (Addr.mk r1 0 none) (fun v65 =>
  ld H64 (Addr.mk r1 1 none) (fun v66 =>
  ld H64 (Addr.mk r1 2 none) (fun v67 =>
  HCalls Tryz.prog 66 #[Value.agg #[v65, v66, v67]] H64 (Sp.retK (fun v68 H69 =>
  dT 2 v68 (fun v70 v71 =>
  dSl v70 (fun p72 r73 r74 =>
  dInt IntKind.i64 v71 (fun n75 =>
  k61 (Value.slice p72 r73 r74) H69)))) (pnR R))))))))) (k61 (Value.slice p12 r13 r14) H9)))))) (pnR R)))))))
theorem F23_eq (x0_0 : Value) (x0_1 : Value) (x0_2 : Value) (R : Ending → Heap → Prop) (H : Heap) : F23 x0_0 x0_1 x0_2 R H = vc Tryz.prog (codeOf Tryz.f23) (.node none .leaf (.node none .leaf (.node (some ⟨[(5, 42)], [14, 15, 16, 17, 18, 19, 20, 21]⟩) .leaf .leaf))) (postV Tryz.prog Tryz.f23 R) ⟨#[Value.agg #[x0_0, x0_1, x0_2]] ++ Array.replicate (Tryz.f23.ntmps - 1) undef, []⟩ H := by kernel_rfl
theorem F23_calls {R : Ending → Heap → Prop} {H : Heap} (x0_0 : Value) (x0_1 : Value) (x0_2 : Value) (h : F23 x0_0 x0_1 x0_2 R H) : HCalls Tryz.prog 23 #[Value.agg #[x0_0, x0_1, x0_2]] H R :=
  calls_by (F := F23 x0_0 x0_1 x0_2 R H) (.node none .leaf (.node none .leaf (.node (some ⟨[(5, 42)], [14, 15, 16, 17, 18, 19, 20, 21]⟩) .leaf .leaf))) Tryz.func23 rfl (F23_eq x0_0 x0_1 x0_2 R H) h
/-- (*bollard/volume.Volume).Blocks -/
def F24 (x0 : Option Addr) (R : Ending → Heap → Prop) (H : Heap) : Prop :=
  HCalls Tryz.prog 68 #[Value.pointer x0] H (Sp.retK (fun v1 H2 =>
  dBl v1 (fun b3 =>
  sB (!b3) (R (Ending.returned (Value.int IntKind.i64 0)) H2) (nz x0 (fun a4 =>
  nz x0 (fun a5 =>
  ld H2 (Addr.add a5 2) (fun v6 =>
  dPtr v6 (fun p7 =>
  HCalls Tryz.prog 70 #[Value.pointer p7] H2 (Sp.retK (fun v8 H9 =>
  dInt IntKind.i64 v8 (fun n10 =>
  HCallsD Tryz.prog 69 #[Value.pointer (some a4)] FrameMode.returning H9 (fun e11 u12 H13 =>
  match e11 with
| Ending.returned v => leavesV Tryz.prog Tryz.f24 (Act.tmps (Act.mk #[Value.pointer x0, undef, Value.int IntKind.i64 n10, Value.pointer x0, Value.bool b3, Value.bool !b3, Value.pointer x0, Value.pointer (some a4), Value.pointer (some a4), Value.pointer x0, Value.pointer (some a5), Value.pointer (some (Addr.add a5 2)), Value.pointer p7, Value.int IntKind.i64 n10] [Deferred.mk (Target.fn (Fn.func 69) #[]) #[Value.pointer (some a4)]])) R [] (settle u12) H13
| Ending.panicked c => leavesV Tryz.prog Tryz.f24 (Act.tmps (Act.mk #[Value.pointer x0, undef, Value.int IntKind.i64 n10, Value.pointer x0, Value.bool b3, Value.bool !b3, Value.pointer x0, Value.pointer (some a4), Value.pointer (some a4), Value.pointer x0, Value.pointer (some a5), Value.pointer (some (Addr.add a5 2)), Value.pointer p7, Value.int IntKind.i64 n10] [Deferred.mk (Target.fn (Fn.func 69) #[]) #[Value.pointer (some a4)]])) R [] (raised u12 c) H13
| Ending.outgrown => False))) (fun c14 H15 =>
  HCallsD Tryz.prog 69 #[Value.pointer (some a4)] (FrameMode.panicking c14) H15 (fun e16 u17 H18 =>
  match e16 with
| Ending.returned v => leavesV Tryz.prog Tryz.f24 (Act.tmps (Act.mk #[Value.pointer x0, undef, Value.int IntKind.i64 0, Value.pointer x0, Value.bool b3, Value.bool !b3, Value.pointer x0, Value.pointer (some a4), Value.pointer (some a4), Value.pointer x0, Value.pointer (some a5), Value.pointer (some (Addr.add a5 2)), Value.pointer p7, undef] [Deferred.mk (Target.fn (Fn.func 69) #[]) #[Value.pointer (some a4)]])) R [] (settle u17) H18
| Ending.panicked c => leavesV Tryz.prog Tryz.f24 (Act.tmps (Act.mk #[Value.pointer x0, undef, Value.int IntKind.i64 0, Value.pointer x0, Value.bool b3, Value.bool !b3, Value.pointer x0, Value.pointer (some a4), Value.pointer (some a4), Value.pointer x0, Value.pointer (some a5), Value.pointer (some (Addr.add a5 2)), Value.pointer p7, undef] [Deferred.mk (Target.fn (Fn.func 69) #[]) #[Value.pointer (some a4)]])) R [] (raised u17 c) H18
| Ending.outgrown => False)))))))))) (pnR R))
theorem F24_eq (x0 : Option Addr) (R : Ending → Heap → Prop) (H : Heap) : F24 x0 R H = vc Tryz.prog (codeOf Tryz.f24) .leaf (postV Tryz.prog Tryz.f24 R) ⟨#[Value.pointer x0] ++ Array.replicate (Tryz.f24.ntmps - 1) undef, []⟩ H := by kernel_rfl
theorem F24_calls {R : Ending → Heap → Prop} {H : Heap} (x0 : Option Addr) (h : F24 x0 R H) : HCalls Tryz.prog 24 #[Value.pointer x0] H R :=
  calls_by (F := F24 x0 R H) .leaf Tryz.func24 rfl (F24_eq x0 R H) h
/-- (*bollard/volume.Volume).Change -/
def F25 (x0 : Option Addr) (x1 : Int) (x2 : Int) (x3a : Option Addr) (x3n : Nat) (x3c : Nat) (x4a : Option Addr) (x4n : Nat) (x4c : Nat) (R : Ending → Heap → Prop) (H : Heap) : Prop :=
  HCalls Tryz.prog 68 #[Value.pointer x0] H (Sp.retK (fun v1 H2 =>
  dBl v1 (fun b3 =>
  sB (!b3) (R (Ending.returned (Value.tuple #[Value.int IntKind.i64 0, Value.int IntKind.i64 2])) H2) (nz x0 (fun a4 =>
  HCalls Tryz.prog 71 #[Value.pointer x0, Value.int IntKind.i64 x1] H2 (Sp.retK (fun v5 H6 =>
  dBl v5 (fun b7 =>
  sB (!b7) (HCallsD Tryz.prog 69 #[Value.pointer (some a4)] FrameMode.returning H6 (fun e8 u9 H10 =>
  match e8 with
| Ending.returned v => leavesV Tryz.prog Tryz.f25 (Act.tmps (Act.mk #[Value.pointer x0, Value.int IntKind.i64 x1, Value.int IntKind.i64 x2, Value.slice x3a x3n x3c, Value.slice x4a x4n x4c, undef, undef, undef, undef, undef, Value.int IntKind.i64 0, Value.int IntKind.i64 90, undef, undef, undef, undef, undef, undef, undef, undef, Value.pointer x0, Value.bool b3, Value.bool !b3, Value.pointer x0, Value.pointer (some a4), Value.pointer (some a4), Value.pointer x0, Value.int IntKind.i64 x1, Value.bool b7, Value.bool !b7, undef, undef, undef, undef, undef, undef, undef, undef, undef, undef, undef, undef, undef, undef, undef, undef, undef, undef, undef, undef, undef, undef, undef, undef, undef, undef, undef, undef, undef, undef, undef, undef, undef, undef, undef, undef, undef, undef, undef, undef, undef, undef, undef, undef, undef, undef, undef, undef, undef, undef, undef, undef, undef, undef, undef, undef, undef, undef, undef, undef, undef, undef, undef, undef, undef, undef, undef, undef, undef, undef, undef, undef, undef, undef, undef, undef, undef, undef, undef, undef, undef, undef, undef] [Deferred.mk (Target.fn (Fn.func 69) #[]) #[Value.pointer (some a4)]])) R [] (settle u9) H10
| Ending.panicked c => leavesV Tryz.prog Tryz.f25 (Act.tmps (Act.mk #[Value.pointer x0, Value.int IntKind.i64 x1, Value.int IntKind.i64 x2, Value.slice x3a x3n x3c, Value.slice x4a x4n x4c, undef, undef, undef, undef, undef, Value.int IntKind.i64 0, Value.int IntKind.i64 90, undef, undef, undef, undef, undef, undef, undef, undef, Value.pointer x0, Value.bool b3, Value.bool !b3, Value.pointer x0, Value.pointer (some a4), Value.pointer (some a4), Value.pointer x0, Value.int IntKind.i64 x1, Value.bool b7, Value.bool !b7, undef, undef, undef, undef, undef, undef, undef, undef, undef, undef, undef, undef, undef, undef, undef, undef, undef, undef, undef, undef, undef, undef, undef, undef, undef, undef, undef, undef, undef, undef, undef, undef, undef, undef, undef, undef, undef, undef, undef, undef, undef, undef, undef, undef, undef, undef, undef, undef, undef, undef, undef, undef, undef, undef, undef, undef, undef, undef, undef, undef, undef, undef, undef, undef, undef, undef, undef, undef, undef, undef, undef, undef, undef, undef, undef, undef, undef, undef, undef, undef, undef, undef, undef] [Deferred.mk (Target.fn (Fn.func 69) #[]) #[Value.pointer (some a4)]])) R [] (raised u9 c) H10
| Ending.outgrown => False)) (nz x0 (fun a11 =>
  ld H6 (Addr.add (Addr.add a11 6) 3) (fun v12 =>
  dMap v12 (fun p13 =>
  semW Tryz.prog (Instr.lookup 53 (Value.map p13) (Value.int IntKind.i64 x1) true) (fun c14 H15 =>
  HCallsD Tryz.prog 69 #[Value.pointer (some a4)] (FrameMode.panicking c14) H15 (fun e16 u17 H18 =>
  match e16 with
| Ending.returned v => leavesV Tryz.prog Tryz.f25 (Act.tmps (Act.mk #[Value.pointer x0, Value.int IntKind.i64 x1, Value.int IntKind.i64 x2, Value.slice x3a x3n x3c, Value.slice x4a x4n x4c, undef, undef, undef, undef, undef, Value.int IntKind.i64 0, Value.int IntKind.i64 0, undef, undef, undef, undef, undef, undef, undef, undef, Value.pointer x0, Value.bool b3, Value.bool !b3, Value.pointer x0, Value.pointer (some a4), Value.pointer (some a4), Value.pointer x0, Value.int IntKind.i64 x1, Value.bool b7, Value.bool !b7, undef, Value.pointer x0, Value.pointer (some a11), Value.pointer (some (Addr.add a11 6)), Value.pointer (some (Addr.add (Addr.add a11 6) 3)), Value.map p13, Value.int IntKind.i64 x1, undef, undef, undef, undef, undef, undef, undef, undef, undef, undef, undef, undef, undef, undef, undef, undef, undef, undef, undef, undef, undef, undef, undef, undef, undef, undef, undef, undef, undef, undef, undef, undef, undef, undef, undef, undef, undef, undef, undef, undef, undef, undef, undef, undef, undef, undef, undef, undef, undef, undef, undef, undef, undef, undef, undef, undef, undef, undef, undef, undef, undef, undef, undef, undef, undef, undef, undef, undef, undef, undef, undef, undef, undef, undef, undef, undef] [Deferred.mk (Target.fn (Fn.func 69) #[]) #[Value.pointer (some a4)]])) R [] (settle u17) H18
| Ending.panicked c => leavesV Tryz.prog Tryz.f25 (Act.tmps (Act.mk #[Value.pointer x0, Value.int IntKind.i64 x1, Value.int IntKind.i64 x2, Value.slice x3a x3n x3c, Value.slice x4a x4n x4c, undef, undef, undef, undef, undef, Value.int IntKind.i64 0, Value.int IntKind.i64 0, undef, undef, undef, undef, undef, undef, undef, undef, Value.pointer x0, Value.bool b3, Value.bool !b3, Value.pointer x0, Value.pointer (some a4), Value.pointer (some a4), Value.pointer x0, Value.int IntKind.i64 x1, Value.bool b7, Value.bool !b7, undef, Value.pointer x0, Value.pointer (some a11), Value.pointer (some (Addr.add a11 6)), Value.pointer (some (Addr.add (Addr.add a11 6) 3)), Value.map p13, Value.int IntKind.i64 x1, undef, undef, undef, undef, undef, undef, undef, undef, undef, undef, undef, undef, undef, undef, undef, undef, undef, undef, undef, undef, undef, undef, undef, undef, undef, undef, undef, undef, undef, undef, undef, undef, undef, undef, undef, undef, undef, undef, undef, undef, undef, undef, undef, undef, undef, undef, undef, undef, undef, undef, undef, undef, undef, undef, undef, undef, undef, undef, undef, undef, undef, undef, undef, undef, undef, undef, undef, undef, undef, undef, undef, undef, undef, undef, undef, undef] [Deferred.mk (Target.fn (Fn.func 69) #[]) #[Value.pointer (some a4)]])) R [] (raised u17 c) H18
| Ending.outgrown => False)) H6 (fun v19 H20 =>
  dT 2 v19 (fun v21 v22 =>
  dSl v21 (fun p23 r24 r25 =>
  dBl v22 (fun b26 =>
  jn (α := VFH 1) (fun v27 H28 =>
  ∀ v29 v30 v31 v32 v33 v34 v35 v36 v37 v38 v39 v40 v41 v42 v43 v44 v45 : Value,
  dBl v27 (fun b46 =>
  jn (α := VFH 1) (fun v47 H48 =>
  ∀ v49 v50 v51 v52 v53 v54 v55 v56 v57 v58 v59 v60 v61 v62 v63 : Value,
  dSl v47 (fun p64 r65 r66 =>
  nz x0 (fun a67 =>
  ld H48 (Addr.add a67 4) (fun v68 =>
  dPtr v68 (fun p69 =>
  HCalls Tryz.prog 73 #[Value.pointer p69, Value.int IntKind.i64 x1, Value.int IntKind.i64 x2, Value.slice x3a x3n x3c, Value.slice x4a x4n x4c] H48 (Sp.retK (fun v70 H71 =>
  dT 2 v70 (fun v72 v73 =>
  dInt IntKind.i64 v72 (fun n74 =>
  dInt IntKind.i64 v73 (fun n75 =>
  sB (n75 != 0) (HCallsD Tryz.prog 69 #[Value.pointer (some a4)] FrameMode.returning H71 (fun e76 u77 H78 =>
  match e76 with
| Ending.returned v => leavesV Tryz.prog Tryz.f25 (Act.tmps (Act.mk #[Value.pointer x0, Value.int IntKind.i64 x1, Value.int IntKind.i64 x2, Value.slice x3a x3n x3c, Value.slice x4a x4n x4c, undef, undef, undef, undef, undef, Value.int IntKind.i64 0, Value.int IntKind.i64 n75, Value.slice p23 r24 r25, Value.bool b26, Value.bool b46, Value.slice p64 r65 r66, v51, v52, Value.int IntKind.i64 n74, Value.int IntKind.i64 n75, Value.pointer x0, Value.bool b3, Value.bool !b3, Value.pointer x0, Value.pointer (some a4), Value.pointer (some a4), Value.pointer x0, Value.int IntKind.i64 x1, Value.bool b7, Value.bool !b7, Value.tuple #[Value.slice p23 r24 r25, Value.bool b26], Value.pointer x0, Value.pointer (some a11), Value.pointer (some (Addr.add a11 6)), Value.pointer (some (Addr.add (Addr.add a11 6) 3)), Value.map p13, Value.int IntKind.i64 x1, Value.tuple #[Value.slice p23 r24 r25, Value.bool b26], Value.slice p23 r24 r25, Value.bool b26, v29, v30, v31, v32, v33, v34, v35, v36, v37, v38, v39, v40, v41, v42, v43, v44, v45, v53, v54, v55, v56, v57, v58, v59, v60, v61, v62, v63, Value.tuple #[Value.int IntKind.i64 n74, Value.int IntKind.i64 n75], Value.pointer x0, Value.pointer (some a67), Value.pointer (some (Addr.add a67 4)), Value.pointer p69, Value.int IntKind.i64 x1, Value.int IntKind.i64 x2, Value.slice x3a x3n x3c, Value.slice x4a x4n x4c, Value.tuple #[Value.int IntKind.i64 n74, Value.int IntKind.i64 n75], Value.int IntKind.i64 n74, Value.int IntKind.i64 n75, Value.int IntKind.i64 n75, Value.bool (n75 != 0), Value.int IntKind.i64 n75, undef, undef, undef, undef, undef, undef, undef, undef, undef, undef, undef, undef, undef, undef, undef, undef, undef, undef, undef, undef, undef, undef, undef, undef, undef, undef, undef, undef, undef, undef] [Deferred.mk (Target.fn (Fn.func 69) #[]) #[Value.pointer (some a4)]])) R [] (settle u77) H78
| Ending.panicked c => leavesV Tryz.prog Tryz.f25 (Act.tmps (Act.mk #[Value.pointer x0, Value.int IntKind.i64 x1, Value.int IntKind.i64 x2, Value.slice x3a x3n x3c, Value.slice x4a x4n x4c, undef, undef, undef, undef, undef, Value.int IntKind.i64 0, Value.int IntKind.i64 n75, Value.slice p23 r24 r25, Value.bool b26, Value.bool b46, Value.slice p64 r65 r66, v51, v52, Value.int IntKind.i64 n74, Value.int IntKind.i64 n75, Value.pointer x0, Value.bool b3, Value.bool !b3, Value.pointer x0, Value.pointer (some a4), Value.pointer (some a4), Value.pointer x0, Value.int IntKind.i64 x1, Value.bool b7, Value.bool !b7, Value.tuple #[Value.slice p23 r24 r25, Value.bool b26], Value.pointer x0, Value.pointer (some a11), Value.pointer (some (Addr.add a11 6)), Value.pointer (some (Addr.add (Addr.add a11 6) 3)), Value.map p13, Value.int IntKind.i64 x1, Value.tuple #[Value.slice p23 r24 r25, Value.bool b26], Value.slice p23 r24 r25, Value.bool b26, v29, v30, v31, v32, v33, v34, v35, v36, v37, v38, v39, v40, v41, v42, v43, v44, v45, v53, v54, v55, v56, v57, v58, v59, v60, v61, v62, v63, Value.tuple #[Value.int IntKind.i64 n74, Value.int IntKind.i64 n75], Value.pointer x0, Value.pointer (some a67), Value.pointer (some (Addr.add a67 4)), Value.pointer p69, Value.int IntKind.i64 x1, Value.int IntKind.i64 x2, Value.slice x3a x3n x3c, Value.slice x4a x4n x4c, Value.tuple #[Value.int IntKind.i64 n74, Value.int IntKind.i64 n75], Value.int IntKind.i64 n74, Value.int IntKind.i64 n75, Value.int IntKind.i64 n75, Value.bool (n75 != 0), Value.int IntKind.i64 n75, undef, undef, undef, undef, undef, undef, undef, undef, undef, undef, undef, undef, undef, undef, undef, undef, undef, undef, undef, undef, undef, undef, undef, undef, undef, undef, undef, undef, undef, undef] [Deferred.mk (Target.fn (Fn.func 69) #[]) #[Value.pointer (some a4)]])) R [] (raised u77 c) H78
| Ending.outgrown => False)) (jn (α := VFH 0) (fun H79 =>
  ∀ v80 v81 v82 v83 v84 v85 v86 v87 v88 v89 v90 v91 v92 v93 v94 v95 v96 v97 v98 v99 v100 v101 v102 v103 v104 v105 v106 v107 v108 : Value,
  HCallsD Tryz.prog 69 #[Value.pointer (some a4)] FrameMode.returning H79 (fun e109 u110 H111 =>
  match e109 with
| Ending.returned v => leavesV Tryz.prog Tryz.f25 (Act.tmps (Act.mk #[Value.pointer x0, Value.int IntKind.i64 x1, Value.int IntKind.i64 x2, Value.slice x3a x3n x3c, Value.slice x4a x4n x4c, undef, undef, undef, undef, undef, Value.int IntKind.i64 n74, Value.int IntKind.i64 0, Value.slice p23 r24 r25, Value.bool b26, Value.bool b46, Value.slice p64 r65 r66, v51, v52, Value.int IntKind.i64 n74, Value.int IntKind.i64 n75, Value.pointer x0, Value.bool b3, Value.bool !b3, Value.pointer x0, Value.pointer (some a4), Value.pointer (some a4), Value.pointer x0, Value.int IntKind.i64 x1, Value.bool b7, Value.bool !b7, Value.tuple #[Value.slice p23 r24 r25, Value.bool b26], Value.pointer x0, Value.pointer (some a11), Value.pointer (some (Addr.add a11 6)), Value.pointer (some (Addr.add (Addr.add a11 6) 3)), Value.map p13, Value.int IntKind.i64 x1, Value.tuple #[Value.slice p23 r24 r25, Value.bool b26], Value.slice p23 r24 r25, Value.bool b26, v29, v30, v31, v32, v33, v34, v35, v36, v37, v38, v39, v40, v41, v42, v43, v44, v45, v53, v54, v55, v56, v57, v58, v59, v60, v61, v62, v63, Value.tuple #[Value.int IntKind.i64 n74, Value.int IntKind.i64 n75], Value.pointer x0, Value.pointer (some a67), Value.pointer (some (Addr.add a67 4)), Value.pointer p69, Value.int IntKind.i64 x1, Value.int IntKind.i64 x2, Value.slice x3a x3n x3c, Value.slice x4a x4n x4c, Value.tuple #[Value.int IntKind.i64 n74, Value.int IntKind.i64 n75], Value.int IntKind.i64 n74, Value.int IntKind.i64 n75, Value.int IntKind.i64 n75, Value.bool (n75 != 0), undef, v80, v81, v82, v83, v84, v85, v86, v87, v88, v89, v90, v91, v92, v93, v94, v95, v96, v97, v98, v99, v100, v101, v102, v103, v104, v105, v106, v107, v108, Value.int IntKind.i64 n74] [Deferred.mk (Target.fn (Fn.func 69) #[]) #[Value.pointer (some a4)]])) R [] (settle u110) H111
| Ending.panicked c => leavesV Tryz.prog Tryz.f25 (Act.tmps (Act.mk #[Value.pointer x0, Value.int IntKind.i64 x1, Value.int IntKind.i64 x2, Value.slice x3a x3n x3c, Value.slice x4a x4n x4c, undef, undef, undef, undef, undef, Value.int IntKind.i64 n74, Value.int IntKind.i64 0, Value.slice p23 r24 r25, Value.bool b26, Value.bool b46, Value.slice p64 r65 r66, v51, v52, Value.int IntKind.i64 n74, Value.int IntKind.i64 n75, Value.pointer x0, Value.bool b3, Value.bool !b3, Value.pointer x0, Value.pointer (some a4), Value.pointer (some a4), Value.pointer x0, Value.int IntKind.i64 x1, Value.bool b7, Value.bool !b7, Value.tuple #[Value.slice p23 r24 r25, Value.bool b26], Value.pointer x0, Value.pointer (some a11), Value.pointer (some (Addr.add a11 6)), Value.pointer (some (Addr.add (Addr.add a11 6) 3)), Value.map p13, Value.int IntKind.i64 x1, Value.tuple #[Value.slice p23 r24 r25, Value.bool b26], Value.slice p23 r24 r25, Value.bool b26, v29, v30, v31, v32, v33, v34, v35, v36, v37, v38, v39, v40, v41, v42, v43, v44, v45, v53, v54, v55, v56, v57, v58, v59, v60, v61, v62, v63, Value.tuple #[Value.int IntKind.i64 n74, Value.int IntKind.i64 n75], Value.pointer x0, Value.pointer (some a67), Value.pointer (some (Addr.add a67 4)), Value.pointer p69, Value.int IntKind.i64 x1, Value.int IntKind.i64 x2, Value.slice x3a x3n x3c, Value.slice x4a x4n x4c, Value.tuple #[Value.int IntKind.i64 n74, Value.int IntKind.i64 n75], Value.int IntKind.i64 n74, Value.int IntKind.i64 n75, Value.int IntKind.i64 n75, Value.bool (n75 != 0), undef, v80, v81, v82, v83, v84, v85, v86, v87, v88, v89, v90, v91, v92, v93, v94, v95, v96, v97, v98, v99, v100, v101, v102, v103, v104, v105, v106, v107, v108, Value.int IntKind.i64 n74] [Deferred.mk (Target.fn (Fn.func 69) #[]) #[Value.pointer (some a4)]])) R [] (raised u110 c) H111
| Ending.outgrown => False)) (fun k112 =>
  jn (α := VFH 1) (fun v113 H114 =>
  ∀ v115 v116 v117 v118 v119 v120 v121 v122 v123 v124 v125 v126 v127 v128 v129 : Value,
  dBl v113 (fun b130 =>
  sB b130 (nz x0 (fun a131 =>
  ld H114 (Addr.add (Addr.add a131 6) 3) (fun v132 =>
  dMap v132 (fun p133 =>
  semW Tryz.prog (Instr.mapUpdate 53 (Value.map p133) (Value.int IntKind.i64 x1) (Value.slice p64 r65 r66)) (fun c134 H135 =>
  HCallsD Tryz.prog 69 #[Value.pointer (some a4)] (FrameMode.panicking c134) H135 (fun e136 u137 H138 =>
  match e136 with
| Ending.returned v => leavesV Tryz.prog Tryz.f25 (Act.tmps (Act.mk #[Value.pointer x0, Value.int IntKind.i64 x1, Value.int IntKind.i64 x2, Value.slice x3a x3n x3c, Value.slice x4a x4n x4c, undef, undef, undef, undef, undef, v49, v50, Value.slice p23 r24 r25, Value.bool b26, Value.bool b46, Value.slice p64 r65 r66, v51, v52, Value.int IntKind.i64 n74, Value.int IntKind.i64 n75, Value.pointer x0, Value.bool b3, Value.bool !b3, Value.pointer x0, Value.pointer (some a4), Value.pointer (some a4), Value.pointer x0, Value.int IntKind.i64 x1, Value.bool b7, Value.bool !b7, Value.tuple #[Value.slice p23 r24 r25, Value.bool b26], Value.pointer x0, Value.pointer (some a11), Value.pointer (some (Addr.add a11 6)), Value.pointer (some (Addr.add (Addr.add a11 6) 3)), Value.map p13, Value.int IntKind.i64 x1, Value.tuple #[Value.slice p23 r24 r25, Value.bool b26], Value.slice p23 r24 r25, Value.bool b26, v29, v30, v31, v32, v33, v34, v35, v36, v37, v38, v39, v40, v41, v42, v43, v44, v45, v53, v54, v55, v56, v57, v58, v59, v60, v61, v62, v63, Value.tuple #[Value.int IntKind.i64 n74, Value.int IntKind.i64 n75], Value.pointer x0, Value.pointer (some a67), Value.pointer (some (Addr.add a67 4)), Value.pointer p69, Value.int IntKind.i64 x1, Value.int IntKind.i64 x2, Value.slice x3a x3n x3c, Value.slice x4a x4n x4c, Value.tuple #[Value.int IntKind.i64 n74, Value.int IntKind.i64 n75], Value.int IntKind.i64 n74, Value.int IntKind.i64 n75, Value.int IntKind.i64 n75, Value.bool (n75 != 0), undef, Value.bool b130, v115, v116, v117, v118, v119, v120, v121, v122, v123, v124, v125, v126, v127, v128, v129, Value.pointer x0, Value.pointer (some a131), Value.pointer (some (Addr.add a131 6)), Value.pointer (some (Addr.add (Addr.add a131 6) 3)), Value.map p133, Value.int IntKind.i64 x1, Value.slice p64 r65 r66, undef, undef, undef, undef, undef, undef, undef] [Deferred.mk (Target.fn (Fn.func 69) #[]) #[Value.pointer (some a4)]])) R [] (settle u137) H138
| Ending.panicked c => leavesV Tryz.prog Tryz.f25 (Act.tmps (Act.mk #[Value.pointer x0, Value.int IntKind.i64 x1, Value.int IntKind.i64 x2, Value.slice x3a x3n x3c, Value.slice x4a x4n x4c, undef, undef, undef, undef, undef, v49, v50, Value.slice p23 r24 r25, Value.bool b26, Value.bool b46, Value.slice p64 r65 r66, v51, v52, Value.int IntKind.i64 n74, Value.int IntKind.i64 n75, Value.pointer x0, Value.bool b3, Value.bool !b3, Value.pointer x0, Value.pointer (some a4), Value.pointer (some a4), Value.pointer x0, Value.int IntKind.i64 x1, Value.bool b7, Value.bool !b7, Value.tuple #[Value.slice p23 r24 r25, Value.bool b26], Value.pointer x0, Value.pointer (some a11), Value.pointer (some (Addr.add a11 6)), Value.pointer (some (Addr.add (Addr.add a11 6) 3)), Value.map p13, Value.int IntKind.i64 x1, Value.tuple #[Value.slice p23 r24 r25, Value.bool b26], Value.slice p23 r24 r25, Value.bool b26, v29, v30, v31, v32, v33, v34, v35, v36, v37, v38, v39, v40, v41, v42, v43, v44, v45, v53, v54, v55, v56, v57, v58, v59, v60, v61, v62, v63, Value.tuple #[Value.int IntKind.i64 n74, Value.int IntKind.i64 n75], Value.pointer x0, Value.pointer (some a67), Value.pointer (some (Addr.add a67 4)), Value.pointer p69, Value.int IntKind.i64 x1, Value.int IntKind.i64 x2, Value.slice x3a x3n x3c, Value.slice x4a x4n x4c, Value.tuple #[Value.int IntKind.i64 n74, Value.int IntKind.i64 n75], Value.int IntKind.i64 n74, Value.int IntKind.i64 n75, Value.int IntKind.i64 n75, Value.bool (n75 != 0), undef, Value.bool b130, v115, v116, v117, v118, v119, v120, v121, v122, v123, v124, v125, v126, v127, v128, v129, Value.pointer x0, Value.pointer (some a131), Value.pointer (some (Addr.add a131 6)), Value.pointer (some (Addr.add (Addr.add a131 6) 3)), Value.map p133, Value.int IntKind.i64 x1, Value.slice p64 r65 r66, undef, undef, undef, undef, undef, undef, undef] [Deferred.mk (Target.fn (Fn.func 69) #[]) #[Value.pointer (some a4)]])) R [] (raised u137 c) H138
| Ending.outgrown => False)) H114 (fun x139 H140 =>
  k112 H140))))) (sB b46 (nz x0 (fun a141 =>
  st H114 (Addr.add (Addr.add a141 6) 1) (Value.bool true) (fun H142 =>
  k112 H142))) (k112 H114)))) (fun k143 =>
  sB b46 (nz x0 (fun a144 =>
  ld H71 (Addr.add (Addr.add a144 6) 3) (fun v145 =>
  dMap v145 (fun p146 =>
  nz x0 (fun a147 =>
  ld H71 (Addr.add (Addr.add a147 6) 2) (fun v148 =>
  dInt IntKind.i64 v148 (fun n149 =>
  semW Tryz.prog (Builtin.len_ #[53] 3 #[Value.map p146]) nopR H71 (fun v152 H153 =>
  dInt IntKind.i64 v152 (fun n154 =>
  (ld H153 (Addr.add (Addr.add a147 6) 2) (fun v155 =>
  dInt IntKind.i64 v155 (fun n156 =>
  (Value.int IntKind.i64 n156) = (Value.int IntKind.i64 n149)))) ∧
  k143 (Value.bool (decide (n154 < n149))) H153))))))))) (k143 (Value.bool false) H71)))))))) (fun c157 H158 =>
  HCallsD Tryz.prog 69 #[Value.pointer (some a4)] (FrameMode.panicking c157) H158 (fun e159 u160 H161 =>
  match e159 with
| Ending.returned v => leavesV Tryz.prog Tryz.f25 (Act.tmps (Act.mk #[Value.pointer x0, Value.int IntKind.i64 x1, Value.int IntKind.i64 x2, Value.slice x3a x3n x3c, Value.slice x4a x4n x4c, undef, undef, undef, undef, undef, v49, v50, Value.slice p23 r24 r25, Value.bool b26, Value.bool b46, Value.slice p64 r65 r66, v51, v52, undef, undef, Value.pointer x0, Value.bool b3, Value.bool !b3, Value.pointer x0, Value.pointer (some a4), Value.pointer (some a4), Value.pointer x0, Value.int IntKind.i64 x1, Value.bool b7, Value.bool !b7, Value.tuple #[Value.slice p23 r24 r25, Value.bool b26], Value.pointer x0, Value.pointer (some a11), Value.pointer (some (Addr.add a11 6)), Value.pointer (some (Addr.add (Addr.add a11 6) 3)), Value.map p13, Value.int IntKind.i64 x1, Value.tuple #[Value.slice p23 r24 r25, Value.bool b26], Value.slice p23 r24 r25, Value.bool b26, v29, v30, v31, v32, v33, v34, v35, v36, v37, v38, v39, v40, v41, v42, v43, v44, v45, v53, v54, v55, v56, v57, v58, v59, v60, v61, v62, v63, undef, Value.pointer x0, Value.pointer (some a67), Value.pointer (some (Addr.add a67 4)), Value.pointer p69, Value.int IntKind.i64 x1, Value.int IntKind.i64 x2, Value.slice x3a x3n x3c, Value.slice x4a x4n x4c, undef, undef, undef, undef, undef, undef, undef, undef, undef, undef, undef, undef, undef, undef, undef, undef, undef, undef, undef, undef, undef, undef, undef, undef, undef, undef, undef, undef, undef, undef, undef, undef, undef, undef, undef, undef] [Deferred.mk (Target.fn (Fn.func 69) #[]) #[Value.pointer (some a4)]])) R [] (settle u160) H161
| Ending.panicked c => leavesV Tryz.prog Tryz.f25 (Act.tmps (Act.mk #[Value.pointer x0, Value.int IntKind.i64 x1, Value.int IntKind.i64 x2, Value.slice x3a x3n x3c, Value.slice x4a x4n x4c, undef, undef, undef, undef, undef, v49, v50, Value.slice p23 r24 r25, Value.bool b26, Value.bool b46, Value.slice p64 r65 r66, v51, v52, undef, undef, Value.pointer x0, Value.bool b3, Value.bool !b3, Value.pointer x0, Value.pointer (some a4), Value.pointer (some a4), Value.pointer x0, Value.int IntKind.i64 x1, Value.bool b7, Value.bool !b7, Value.tuple #[Value.slice p23 r24 r25, Value.bool b26], Value.pointer x0, Value.pointer (some a11), Value.pointer (some (Addr.add a11 6)), Value.pointer (some (Addr.add (Addr.add a11 6) 3)), Value.map p13, Value.int IntKind.i64 x1, Value.tuple #[Value.slice p23 r24 r25, Value.bool b26], Value.slice p23 r24 r25, Value.bool b26, v29, v30, v31, v32, v33, v34, v35, v36, v37, v38, v39, v40, v41, v42, v43, v44, v45, v53, v54, v55, v56, v57, v58, v59, v60, v61, v62, v63, undef, Value.pointer x0, Value.pointer (some a67), Value.pointer (some (Addr.add a67 4)), Value.pointer p69, Value.int IntKind.i64 x1, Value.int IntKind.i64 x2, Value.slice x3a x3n x3c, Value.slice x4a x4n x4c, undef, undef, undef, undef, undef, undef, undef, undef, undef, undef, undef, undef, undef, undef, undef, undef, undef, undef, undef, undef, undef, undef, undef, undef, undef, undef, undef, undef, undef, undef, undef, undef, undef, undef, undef, undef] [Deferred.mk (Target.fn (Fn.func 69) #[]) #[Value.pointer (some a4)]])) R [] (raised u160 c) H161
| Ending.outgrown => False)))))))) (fun k162 =>
  sB b46 (HCalls Tryz.prog 72 #[Value.pointer x0, Value.int IntKind.i64 x1] H28 (Sp.retK (fun v163 H164 =>
  dT 2 v163 (fun v165 v166 =>
  dSl v165 (fun p167 r168 r169 =>
  dInt IntKind.i64 v166 (fun n170 =>
  sB (n170 != 0) (HCallsD Tryz.prog 69 #[Value.pointer (some a4)] FrameMode.returning H164 (fun e171 u172 H173 =>
  match e171 with
| Ending.returned v => leavesV Tryz.prog Tryz.f25 (Act.tmps (Act.mk #[Value.pointer x0, Value.int IntKind.i64 x1, Value.int IntKind.i64 x2, Value.slice x3a x3n x3c, Value.slice x4a x4n x4c, undef, undef, undef, undef, undef, Value.int IntKind.i64 0, Value.int IntKind.i64 n170, Value.slice p23 r24 r25, Value.bool b26, Value.bool b46, Value.slice none 0 0, Value.slice p167 r168 r169, Value.int IntKind.i64 n170, undef, undef, Value.pointer x0, Value.bool b3, Value.bool !b3, Value.pointer x0, Value.pointer (some a4), Value.pointer (some a4), Value.pointer x0, Value.int IntKind.i64 x1, Value.bool b7, Value.bool !b7, Value.tuple #[Value.slice p23 r24 r25, Value.bool b26], Value.pointer x0, Value.pointer (some a11), Value.pointer (some (Addr.add a11 6)), Value.pointer (some (Addr.add (Addr.add a11 6) 3)), Value.map p13, Value.int IntKind.i64 x1, Value.tuple #[Value.slice p23 r24 r25, Value.bool b26], Value.slice p23 r24 r25, Value.bool b26, v29, v30, v31, v32, v33, v34, v35, v36, v37, v38, v39, v40, v41, v42, v43, v44, v45, Value.bool b46, Value.tuple #[Value.slice p167 r168 r169, Value.int IntKind.i64 n170], Value.pointer x0, Value.int IntKind.i64 x1, Value.tuple #[Value.slice p167 r168 r169, Value.int IntKind.i64 n170], Value.slice p167 r168 r169, Value.int IntKind.i64 n170, Value.int IntKind.i64 n170, Value.bool (n170 != 0), Value.int IntKind.i64 n170, undef, undef, undef, undef, undef, undef, undef, undef, undef, undef, undef, undef, undef, undef, undef, undef, undef, undef, undef, undef, undef, undef, undef, undef, undef, undef, undef, undef, undef, undef, undef, undef, undef, undef, undef, undef, undef, undef, undef, undef, undef, undef, undef, undef, undef, undef] [Deferred.mk (Target.fn (Fn.func 69) #[]) #[Value.pointer (some a4)]])) R [] (settle u172) H173
| Ending.panicked c => leavesV Tryz.prog Tryz.f25 (Act.tmps (Act.mk #[Value.pointer x0, Value.int IntKind.i64 x1, Value.int IntKind.i64 x2, Value.slice x3a x3n x3c, Value.slice x4a x4n x4c, undef, undef, undef, undef, undef, Value.int IntKind.i64 0, Value.int IntKind.i64 n170, Value.slice p23 r24 r25, Value.bool b26, Value.bool b46, Value.slice none 0 0, Value.slice p167 r168 r169, Value.int IntKind.i64 n170, undef, undef, Value.pointer x0, Value.bool b3, Value.bool !b3, Value.pointer x0, Value.pointer (some a4), Value.pointer (some a4), Value.pointer x0, Value.int IntKind.i64 x1, Value.bool b7, Value.bool !b7, Value.tuple #[Value.slice p23 r24 r25, Value.bool b26], Value.pointer x0, Value.pointer (some a11), Value.pointer (some (Addr.add a11 6)), Value.pointer (some (Addr.add (Addr.add a11 6) 3)), Value.map p13, Value.int IntKind.i64 x1, Value.tuple #[Value.slice p23 r24 r25, Value.bool b26], Value.slice p23 r24 r25, Value.bool b26, v29, v30, v31, v32, v33, v34, v35, v36, v37, v38, v39, v40, v41, v42, v43, v44, v45, Value.bool b46, Value.tuple #[Value.slice p167 r168 r169, Value.int IntKind.i64 n170], Value.pointer x0, Value.int IntKind.i64 x1, Value.tuple #[Value.slice p167 r168 r169, Value.int IntKind.i64 n170], Value.slice p167 r168 r169, Value.int IntKind.i64 n170, Value.int IntKind.i64 n170, Value.bool (n170 != 0), Value.int IntKind.i64 n170, undef, undef, undef, undef, undef, undef, undef, undef, undef, undef, undef, undef, undef, undef, undef, undef, undef, undef, undef, undef, undef, undef, undef, undef, undef, undef, undef, undef, undef, undef, undef, undef, undef, undef, undef, undef, undef, undef, undef, undef, undef, undef, undef, undef, undef, undef] [Deferred.mk (Target.fn (Fn.func 69) #[]) #[Value.pointer (some a4)]])) R [] (raised u172 c) H173
| Ending.outgrown => False)) (k162 (Value.slice p167 r168 r169) H164))))) (fun c174 H175 =>
  HCallsD Tryz.prog 69 #[Value.pointer (some a4)] (FrameMode.panicking c174) H175 (fun e176 u177 H178 =>
  match e176 with
| Ending.returned v => leavesV Tryz.prog Tryz.f25 (Act.tmps (Act.mk #[Value.pointer x0, Value.int IntKind.i64 x1, Value.int IntKind.i64 x2, Value.slice x3a x3n x3c, Value.slice x4a x4n x4c, undef, undef, undef, undef, undef, Value.int IntKind.i64 0, Value.int IntKind.i64 0, Value.slice p23 r24 r25, Value.bool b26, Value.bool b46, Value.slice none 0 0, undef, undef, undef, undef, Value.pointer x0, Value.bool b3, Value.bool !b3, Value.pointer x0, Value.pointer (some a4), Value.pointer (some a4), Value.pointer x0, Value.int IntKind.i64 x1, Value.bool b7, Value.bool !b7, Value.tuple #[Value.slice p23 r24 r25, Value.bool b26], Value.pointer x0, Value.pointer (some a11), Value.pointer (some (Addr.add a11 6)), Value.pointer (some (Addr.add (Addr.add a11 6) 3)), Value.map p13, Value.int IntKind.i64 x1, Value.tuple #[Value.slice p23 r24 r25, Value.bool b26], Value.slice p23 r24 r25, Value.bool b26, v29, v30, v31, v32, v33, v34, v35, v36, v37, v38, v39, v40, v41, v42, v43, v44, v45, Value.bool b46, undef, Value.pointer x0, Value.int IntKind.i64 x1, undef, undef, undef, undef, undef, undef, undef, undef, undef, undef, undef, undef, undef, undef, undef, undef, undef, undef, undef, undef, undef, undef, undef, undef, undef, undef, undef, undef, undef, undef, undef, undef, undef, undef, undef, undef, undef, undef, undef, undef, undef, undef, undef, undef, undef, undef, undef, undef, undef, undef, undef, undef] [Deferred.mk (Target.fn (Fn.func 69) #[]) #[Value.pointer (some a4)]])) R [] (settle u177) H178
| Ending.panicked c => leavesV Tryz.prog Tryz.f25 (Act.tmps (Act.mk #[Value.pointer x0, Value.int IntKind.i64 x1, Value.int IntKind.i64 x2, Value.slice x3a x3n x3c, Value.slice x4a x4n x4c, undef, undef, undef, undef, undef, Value.int IntKind.i64 0, Value.int IntKind.i64 0, Value.slice p23 r24 r25, Value.bool b26, Value.bool b46, Value.slice none 0 0, undef, undef, undef, undef, Value.pointer x0, Value.bool b3, Value.bool !b3, Value.pointer x0, Value.pointer (some a4), Value.pointer (some a4), Value.pointer x0, Value.int IntKind.i64 x1, Value.bool b7, Value.bool !b7, Value.tuple #[Value.slice p23 r24 r25, Value.bool b26], Value.pointer x0, Value.pointer (some a11), Value.pointer (some (Addr.add a11 6)), Value.pointer (some (Addr.add (Addr.add a11 6) 3)), Value.map p13, Value.int IntKind.i64 x1, Value.tuple #[Value.slice p23 r24 r25, Value.bool b26], Value.slice p23 r24 r25, Value.bool b26, v29, v30, v31, v32, v33, v34, v35, v36, v37, v38, v39, v40, v41, v42, v43, v44, v45, Value.bool b46, undef, Value.pointer x0, Value.int IntKind.i64 x1, undef, undef, undef, undef, undef, undef, undef, undef, undef, undef, undef, undef, undef, undef, undef, undef, undef, undef, undef, undef, undef, undef, undef, undef, undef, undef, undef, undef, undef, undef, undef, undef, undef, undef, undef, undef, undef, undef, undef, undef, undef, undef, undef, undef, undef, undef, undef, undef, undef, undef, undef, undef] [Deferred.mk (Target.fn (Fn.func 69) #[]) #[Value.pointer (some a4)]])) R [] (raised u177 c) H178
| Ending.outgrown => False)))) (k162 (Value.slice none 0 0) H28)))) (fun k179 =>
  nz x0 (fun a180 =>
  ld H20 (Addr.add a180 6) (fun v181 =>
  dBl v181 (fun b182 =>
  sB b182 (nz x0 (fun a183 =>
  ld H20 (Addr.add (Addr.add a183 6) 1) (fun v184 =>
  dBl v184 (fun b185 =>
  sB (!b185) (k179 (Value.bool !b26) H20) (k179 (Value.bool false) H20))))) (k179 (Value.bool false) H20))))))))))))))) (fun c186 H187 =>
  HCallsD Tryz.prog 69 #[Value.pointer (some a4)] (FrameMode.panicking c186) H187 (fun e188 u189 H190 =>
  match e188 with
| Ending.returned v => leavesV Tryz.prog Tryz.f25 (Act.tmps (Act.mk #[Value.pointer x0, Value.int IntKind.i64 x1, Value.int IntKind.i64 x2, Value.slice x3a x3n x3c, Value.slice x4a x4n x4c, undef, undef, undef, undef, undef, Value.int IntKind.i64 0, Value.int IntKind.i64 0, undef, undef, undef, undef, undef, undef, undef, undef, Value.pointer x0, Value.bool b3, Value.bool !b3, Value.pointer x0, Value.pointer (some a4), Value.pointer (some a4), Value.pointer x0, Value.int IntKind.i64 x1, undef, undef, undef, undef, undef, undef, undef, undef, undef, undef, undef, undef, undef, undef, undef, undef, undef, undef, undef, undef, undef, undef, undef, undef, undef, undef, undef, undef, undef, undef, undef, undef, undef, undef, undef, undef, undef, undef, undef, undef, undef, undef, undef, undef, undef, undef, undef, undef, undef, undef, undef, undef, undef, undef, undef, undef, undef, undef, undef, undef, undef, undef, undef, undef, undef, undef, undef, undef, undef, undef, undef, undef, undef, undef, undef, undef, undef, undef, undef, undef, undef, undef, undef, undef, undef] [Deferred.mk (Target.fn (Fn.func 69) #[]) #[Value.pointer (some a4)]])) R [] (settle u189) H190
| Ending.panicked c => leavesV Tryz.prog Tryz.f25 (Act.tmps (Act.mk #[Value.pointer x0, Value.int IntKind.i64 x1, Value.int IntKind.i64 x2, Value.slice x3a x3n x3c, Value.slice x4a x4n x4c, undef, undef, undef, undef, undef, Value.int IntKind.i64 0, Value.int IntKind.i64 0, undef, undef, undef, undef, undef, undef, undef, undef, Value.pointer x0, Value.bool b3, Value.bool !b3, Value.pointer x0, Value.pointer (some a4), Value.pointer (some a4), Value.pointer x0, Value.int IntKind.i64 x1, undef, undef, undef, undef, undef, undef, undef, undef, undef, undef, undef, undef, undef, undef, undef, undef, undef, undef, undef, undef, undef, undef, undef, undef, undef, undef, undef, undef, undef, undef, undef, undef, undef, undef, undef, undef, undef, undef, undef, undef, undef, undef, undef, undef, undef, undef, undef, undef, undef, undef, undef, undef, undef, undef, undef, undef, undef, undef, undef, undef, undef, undef, undef, undef, undef, undef, undef, undef, undef, undef, undef, undef, undef, undef, undef, undef, undef, undef, undef, undef, undef, undef, undef, undef, undef] [Deferred.mk (Target.fn (Fn.func 69) #[]) #[Value.pointer (some a4)]])) R [] (raised u189 c) H190
| Ending.outgrown => False))))))) (pnR R))
theorem F25_eq (x0 : Option Addr) (x1 : Int) (x2 : Int) (x3a : Option Addr) (x3n : Nat) (x3c : Nat) (x4a : Option Addr) (x4n : Nat) (x4c : Nat) (R : Ending → Heap → Prop) (H : Heap) : F25 x0 x1 x2 x3a x3n x3c x4a x4n x4c R H = vc Tryz.prog (codeOf Tryz.f25) (.node none .leaf (.node none .leaf (.node none .leaf (.node none .leaf (.node none .leaf (.node (some ⟨[(14, 4)], [40, 41, 42, 43, 44, 45, 46, 47, 48, 49, 50, 51, 52, 53, 54, 55, 56]⟩) .leaf (.node none .leaf (.node (some ⟨[(15, 38)], [10, 11, 16, 17, 57, 58, 59, 60, 61, 62, 63, 64, 65, 66, 67]⟩) .leaf (.node none .leaf (.node none .leaf (.node (some ⟨[], [83, 84, 85, 86, 87, 88, 89, 90, 91, 92, 93, 94, 95, 96, 97, 98, 99, 100, 101, 102, 103, 104, 105, 106, 107, 108, 109, 110, 111]⟩) (.node none (.node (some ⟨[(83, 4)], [84, 85, 86, 87, 88, 89, 90, 91, 92, 93, 94, 95, 96, 97, 98]⟩) .leaf .leaf) .leaf) .leaf))))))))))) (postV Tryz.prog Tryz.f25 R) ⟨#[Value.pointer x0, Value.int IntKind.i64 x1, Value.int IntKind.i64 x2, Value.slice x3a x3n x3c, Value.slice x4a x4n x4c] ++ Array.replicate (Tryz.f25.ntmps - 5) undef, []⟩ H := by kernel_rfl
theorem F25_calls {R : Ending → Heap → Prop} {H : Heap} (x0 : Option Addr) (x1 : Int) (x2 : Int) (x3a : Option Addr) (x3n : Nat) (x3c : Nat) (x4a : Option Addr) (x4n : Nat) (x4c : Nat) (h : F25 x0 x1 x2 x3a x3n x3c x4a x4n x4c R H) : HCalls Tryz.prog 25 #[Value.pointer x0, Value.int IntKind.i64 x1, Value.int IntKind.i64 x2, Value.slice x3a x3n x3c, Value.slice x4a x4n x4c] H R :=
  calls_by (F := F25 x0 x1 x2 x3a x3n x3c x4a x4n x4c R H) (.node none .leaf (.node none .leaf (.node none .leaf (.node none .leaf (.node none .leaf (.node (some ⟨[(14, 4)], [40, 41, 42, 43, 44, 45, 46, 47, 48, 49, 50, 51, 52, 53, 54, 55, 56]⟩) .leaf (.node none .leaf (.node (some ⟨[(15, 38)], [10, 11, 16, 17, 57, 58, 59, 60, 61, 62, 63, 64, 65, 66, 67]⟩) .leaf (.node none .leaf (.node none .leaf (.node (some ⟨[], [83, 84, 85, 86, 87, 88, 89, 90, 91, 92, 93, 94, 95, 96, 97, 98, 99, 100, 101, 102, 103, 104, 105, 106, 107, 108, 109, 110, 111]⟩) (.node none (.node (some ⟨[(83, 4)], [84, 85, 86, 87, 88, 89, 90, 91, 92, 93, 94, 95, 96, 97, 98]⟩) .leaf .leaf) .leaf) .leaf))))))))))) Tryz.func25 rfl (F25_eq x0 x1 x2 x3a x3n x3c x4a x4n x4c R H) h
/-- (*bollard/volume.Volume).Read -/
def F26 (x0 : Option Addr) (x1 : Int) (R : Ending → Heap → Prop) (H : Heap) : Prop :=
  HCalls Tryz.prog 68 #[Value.pointer x0] H (Sp.retK (fun v1 H2 =>
  dBl v1 (fun b3 =>
  sB (!b3) (R (Ending.returned (Value.tuple #[Value.slice none 0 0, Value.int IntKind.i64 2])) H2) (nz x0 (fun a4 =>
  HCalls Tryz.prog 72 #[Value.pointer x0, Value.int IntKind.i64 x1] H2 (Sp.retK (fun v5 H6 =>
  dT 2 v5 (fun v7 v8 =>
  dSl v7 (fun p9 r10 r11 =>
  dInt IntKind.i64 v8 (fun n12 =>
  HCallsD Tryz.prog 69 #[Value.pointer (some a4)] FrameMode.returning H6 (fun e13 u14 H15 =>
  match e13 with
| Ending.returned v => leavesV Tryz.prog Tryz.f26 (Act.tmps (Act.mk #[Value.pointer x0, Value.int IntKind.i64 x1, undef, undef, Value.slice p9 r10 r11, Value.int IntKind.i64 n12, Value.pointer x0, Value.bool b3, Value.bool !b3, Value.pointer x0, Value.pointer (some a4), Value.pointer (some a4), Value.pointer x0, Value.int IntKind.i64 x1, Value.tuple #[Value.slice p9 r10 r11, Value.int IntKind.i64 n12], Value.slice p9 r10 r11, Value.int IntKind.i64 n12] [Deferred.mk (Target.fn (Fn.func 69) #[]) #[Value.pointer (some a4)]])) R [] (settle u14) H15
| Ending.panicked c => leavesV Tryz.prog Tryz.f26 (Act.tmps (Act.mk #[Value.pointer x0, Value.int IntKind.i64 x1, undef, undef, Value.slice p9 r10 r11, Value.int IntKind.i64 n12, Value.pointer x0, Value.bool b3, Value.bool !b3, Value.pointer x0, Value.pointer (some a4), Value.pointer (some a4), Value.pointer x0, Value.int IntKind.i64 x1, Value.tuple #[Value.slice p9 r10 r11, Value.int IntKind.i64 n12], Value.slice p9 r10 r11, Value.int IntKind.i64 n12] [Deferred.mk (Target.fn (Fn.func 69) #[]) #[Value.pointer (some a4)]])) R [] (raised u14 c) H15
| Ending.outgrown => False))))) (fun c16 H17 =>
  HCallsD Tryz.prog 69 #[Value.pointer (some a4)] (FrameMode.panicking c16) H17 (fun e18 u19 H20 =>
  match e18 with
| Ending.returned v => leavesV Tryz.prog Tryz.f26 (Act.tmps (Act.mk #[Value.pointer x0, Value.int IntKind.i64 x1, undef, undef, Value.slice none 0 0, Value.int IntKind.i64 0, Value.pointer x0, Value.bool b3, Value.bool !b3, Value.pointer x0, Value.pointer (some a4), Value.pointer (some a4), Value.pointer x0, Value.int IntKind.i64 x1, undef, undef, undef] [Deferred.mk (Target.fn (Fn.func 69) #[]) #[Value.pointer (some a4)]])) R [] (settle u19) H20
| Ending.panicked c => leavesV Tryz.prog Tryz.f26 (Act.tmps (Act.mk #[Value.pointer x0, Value.int IntKind.i64 x1, undef, undef, Value.slice none 0 0, Value.int IntKind.i64 0, Value.pointer x0, Value.bool b3, Value.bool !b3, Value.pointer x0, Value.pointer (some a4), Value.pointer (some a4), Value.pointer x0, Value.int IntKind.i64 x1, undef, undef, undef] [Deferred.mk (Target.fn (Fn.func 69) #[]) #[Value.pointer (some a4)]])) R [] (raised u19 c) H20
| Ending.outgrown => False))))))) (pnR R))
theorem F26_eq (x0 : Option Addr) (x1 : Int) (R : Ending → Heap → Prop) (H : Heap) : F26 x0 x1 R H = vc Tryz.prog (codeOf Tryz.f26) .leaf (postV Tryz.prog Tryz.f26 R) ⟨#[Value.pointer x0, Value.int IntKind.i64 x1] ++ Array.replicate (Tryz.f26.ntmps - 2) undef, []⟩ H := by kernel_rfl
theorem F26_calls {R : Ending → Heap → Prop} {H : Heap} (x0 : Option Addr) (x1 : Int) (h : F26 x0 x1 R H) : HCalls Tryz.prog 26 #[Value.pointer x0, Value.int IntKind.i64 x1] H R :=
  calls_by (F := F26 x0 x1 R H) .leaf Tryz.func26 rfl (F26_eq x0 x1 R H) h
end Go.Proofs.YtngploohhmfaiaaGreat.E
/- The functions' forms in the engine's words, printed by my own program. -/
namespace Go.Proofs.YtngploohhmfaiaaGreat.E
open Go Go.Proofs
set_option linter.unusedVariables false
/-- bollard/volume.Open -/
def F31 (x0 : Option Addr) (x1 : Int) (R : Ending → Heap → Prop) (H : Heap) : Prop :=
  HCalls Tryz.prog 81 #[Value.pointer x0, Value.int IntKind.i64 x1] H (Sp.retK (fun v1 H2 =>
  dT 2 v1 (fun v3 v4 =>
  dPtr v3 (fun p5 =>
  dInt IntKind.i64 v4 (fun n6 =>
  sB (n6 != 0) (R (Ending.returned (Value.tuple #[Value.pointer none, Value.int IntKind.i64 n6])) H2) (HCalls Tryz.prog 82 #[] H2 (Sp.retK (fun v7 H8 =>
  dPtr v7 (fun p9 =>
  al H8 (Obj.map #[] 0) (fun r10 H11 =>
  al H11 (Obj.cells #[Value.int IntKind.i32 0, Value.int IntKind.u32 0, Value.pointer x0, Value.pointer p5, Value.pointer p9, Value.map (some r10), Value.bool false, Value.bool false, Value.int IntKind.i64 0, Value.map none] 57) (fun r12 H13 =>
  R (Ending.returned (Value.tuple #[Value.pointer (some (Addr.mk r12 0 none)), Value.int IntKind.i64 0])) H13)))) (pnR R))))))) (pnR R))
theorem F31_eq (x0 : Option Addr) (x1 : Int) (R : Ending → Heap → Prop) (H : Heap) : F31 x0 x1 R H = vc Tryz.prog (codeOf Tryz.f31) .leaf (postV Tryz.prog Tryz.f31 R) ⟨#[Value.pointer x0, Value.int IntKind.i64 x1] ++ Array.replicate (Tryz.f31.ntmps - 2) undef, []⟩ H := by kernel_rfl
theorem F31_calls {R : Ending → Heap → Prop} {H : Heap} (x0 : Option Addr) (x1 : Int) (h : F31 x0 x1 R H) : HCalls Tryz.prog 31 #[Value.pointer x0, Value.int IntKind.i64 x1] H R :=
  calls_by (F := F31 x0 x1 R H) .leaf Tryz.func31 rfl (F31_eq x0 x1 R H) h
/-- bollard/alloc.FreeBlock -/
def F42 (x0 : Option Addr) (x1_0 : Value) (x1_1 : Value) (x1_2 : Value) (x2 : Int) (x3a : Option Addr) (x3n : Nat) (x3c : Nat) (R : Ending → Heap → Prop) (H : Heap) : Prop :=
  al H (Obj.cells #[x1_0, x1_1, x1_2] 32) (fun r1 H2 =>
  ld H2 (Addr.mk r1 0 none) (fun v3 =>
  ld H2 (Addr.mk r1 1 none) (fun v4 =>
  ld H2 (Addr.mk r1 2 none) (fun v5 =>
  HCalls Tryz.prog 74 #[Value.pointer x0, Value.agg #[v3, v4, v5]] H2 (Sp.retK (fun v6 H7 =>
  dInt IntKind.i64 v6 (fun n8 =>
  sB (n8 != 0) (R (Ending.returned (Value.tuple #[Value.int IntKind.i64 0, Value.int IntKind.i64 n8])) H7) (ld H7 (Addr.mk r1 0 none) (fun v9 =>
  ld H7 (Addr.mk r1 1 none) (fun v10 =>
  ld H7 (Addr.mk r1 2 none) (fun v11 =>
  HCalls Tryz.prog 94 #[Value.agg #[v9, v10, v11], Value.int IntKind.i64 x2] H7 (Sp.retK (fun v12 H13 =>
  dBl v12 (fun b14 =>
  sB (!b14) (R (Ending.returned (Value.tuple #[Value.int IntKind.i64 0, Value.int IntKind.i64 90])) H13) (ld H13 (Addr.mk r1 0 none) (fun v15 =>
  ld H13 (Addr.mk r1 1 none) (fun v16 =>
  ld H13 (Addr.mk r1 2 none) (fun v17 =>
  HCalls Tryz.prog 78 #[Value.agg #[v15, v16, v17], Value.int IntKind.i64 x2] H13 (Sp.retK (fun v18 H19 =>
  dT 3 v18 (fun v20 v21 v22 =>
  dInt IntKind.i64 v20 (fun n23 =>
  dInt IntKind.i64 v21 (fun n24 =>
  dBl v22 (fun b25 =>
  ld H19 (Addr.mk r1 0 none) (fun v26 =>
  ld H19 (Addr.mk r1 1 none) (fun v27 =>
  ld H19 (Addr.mk r1 2 none) (fun v28 =>
  HCalls Tryz.prog 96 #[Value.pointer x0, Value.agg #[v26, v27, v28], Value.int IntKind.i64 n23, Value.int IntKind.i64 n24, Value.int IntKind.i64 12, Value.slice x3a x3n x3c] H19 (Sp.retK (fun v29 H30 =>
  dT 2 v29 (fun v31 v32 =>
  dInt IntKind.i64 v31 (fun n33 =>
  dInt IntKind.i64 v32 (fun n34 =>
  R (Ending.returned (Value.tuple #[Value.int IntKind.i64 n33, Value.int IntKind.i64 n34])) H30)))) (pnR R)))))))))) (pnR R)))))))) (pnR R)))))))) (pnR R))))))
theorem F42_eq (x0 : Option Addr) (x1_0 : Value) (x1_1 : Value) (x1_2 : Value) (x2 : Int) (x3a : Option Addr) (x3n : Nat) (x3c : Nat) (R : Ending → Heap → Prop) (H : Heap) : F42 x0 x1_0 x1_1 x1_2 x2 x3a x3n x3c R H = vc Tryz.prog (codeOf Tryz.f42) .leaf (postV Tryz.prog Tryz.f42 R) ⟨#[Value.pointer x0, Value.agg #[x1_0, x1_1, x1_2], Value.int IntKind.i64 x2, Value.slice x3a x3n x3c] ++ Array.replicate (Tryz.f42.ntmps - 4) undef, []⟩ H := by kernel_rfl
theorem F42_calls {R : Ending → Heap → Prop} {H : Heap} (x0 : Option Addr) (x1_0 : Value) (x1_1 : Value) (x1_2 : Value) (x2 : Int) (x3a : Option Addr) (x3n : Nat) (x3c : Nat) (h : F42 x0 x1_0 x1_1 x1_2 x2 x3a x3n x3c R H) : HCalls Tryz.prog 42 #[Value.pointer x0, Value.agg #[x1_0, x1_1, x1_2], Value.int IntKind.i64 x2, Value.slice x3a x3n x3c] H R :=
  calls_by (F := F42 x0 x1_0 x1_1 x1_2 x2 x3a x3n x3c R H) .leaf Tryz.func42 rfl (F42_eq x0 x1_0 x1_1 x1_2 x2 x3a x3n x3c R H) h
/-- bytes.Clone -/
def F48 (x0a : Option Addr) (x0n : Nat) (x0c : Nat) (R : Ending → Heap → Prop) (H : Heap) : Prop :=
  sB (Option.isNone x0a) (R (Ending.returned (Value.slice none 0 0)) H) (al H (Obj.cells #[] 5) (fun r1 H2 =>
  semW Tryz.prog (Builtin.append_ #[38, 38] 38 #[Value.slice (some (Addr.mk r1 0 none)) 0 0, Value.slice x0a x0n x0c]) (pnR R) H2 (fun v5 H6 =>
  dSl v5 (fun p7 r8 r9 =>
  R (Ending.returned (Value.slice p7 r8 r9)) H6))))
theorem F48_eq (x0a : Option Addr) (x0n : Nat) (x0c : Nat) (R : Ending → Heap → Prop) (H : Heap) : F48 x0a x0n x0c R H = vc Tryz.prog (codeOf Tryz.f48) .leaf (postV Tryz.prog Tryz.f48 R) ⟨#[Value.slice x0a x0n x0c] ++ Array.replicate (Tryz.f48.ntmps - 1) undef, []⟩ H := by kernel_rfl
theorem F48_calls {R : Ending → Heap → Prop} {H : Heap} (x0a : Option Addr) (x0n : Nat) (x0c : Nat) (h : F48 x0a x0n x0c R H) : HCalls Tryz.prog 48 #[Value.slice x0a x0n x0c] H R :=
  calls_by (F := F48 x0a x0n x0c R H) .leaf Tryz.func48 rfl (F48_eq x0a x0n x0c R H) h
end Go.Proofs.YtngploohhmfaiaaGreat.E
/- The functions' forms in the engine's words, printed by my own program. -/
namespace Go.Proofs.YtngploohhmfaiaaGreat.E
open Go Go.Proofs
set_option linter.unusedVariables false
/-- (*bollard/volume.Volume).Last -/
def F52 (x0 : Option Addr) (R : Ending → Heap → Prop) (H : Heap) : Prop :=
  HCalls Tryz.prog 68 #[Value.pointer x0] H (Sp.retK (fun v1 H2 =>
  dBl v1 (fun b3 =>
  sB (!b3) (R (Ending.returned (Value.int IntKind.i64 0)) H2) (nz x0 (fun a4 =>
  nz x0 (fun a5 =>
  ld H2 (Addr.add a5 4) (fun v6 =>
  dPtr v6 (fun p7 =>
  HCalls Tryz.prog 105 #[Value.pointer p7] H2 (Sp.retK (fun v8 H9 =>
  dInt IntKind.i64 v8 (fun n10 =>
  HCallsD Tryz.prog 69 #[Value.pointer (some a4)] FrameMode.returning H9 (fun e11 u12 H13 =>
  match e11 with
| Ending.returned v => leavesV Tryz.prog Tryz.f52 (Act.tmps (Act.mk #[Value.pointer x0, undef, Value.int IntKind.i64 n10, Value.pointer x0, Value.bool b3, Value.bool !b3, Value.pointer x0, Value.pointer (some a4), Value.pointer (some a4), Value.pointer x0, Value.pointer (some a5), Value.pointer (some (Addr.add a5 4)), Value.pointer p7, Value.int IntKind.i64 n10] [Deferred.mk (Target.fn (Fn.func 69) #[]) #[Value.pointer (some a4)]])) R [] (settle u12) H13
| Ending.panicked c => leavesV Tryz.prog Tryz.f52 (Act.tmps (Act.mk #[Value.pointer x0, undef, Value.int IntKind.i64 n10, Value.pointer x0, Value.bool b3, Value.bool !b3, Value.pointer x0, Value.pointer (some a4), Value.pointer (some a4), Value.pointer x0, Value.pointer (some a5), Value.pointer (some (Addr.add a5 4)), Value.pointer p7, Value.int IntKind.i64 n10] [Deferred.mk (Target.fn (Fn.func 69) #[]) #[Value.pointer (some a4)]])) R [] (raised u12 c) H13
| Ending.outgrown => False))) (fun c14 H15 =>
  HCallsD Tryz.prog 69 #[Value.pointer (some a4)] (FrameMode.panicking c14) H15 (fun e16 u17 H18 =>
  match e16 with
| Ending.returned v => leavesV Tryz.prog Tryz.f52 (Act.tmps (Act.mk #[Value.pointer x0, undef, Value.int IntKind.i64 0, Value.pointer x0, Value.bool b3, Value.bool !b3, Value.pointer x0, Value.pointer (some a4), Value.pointer (some a4), Value.pointer x0, Value.pointer (some a5), Value.pointer (some (Addr.add a5 4)), Value.pointer p7, undef] [Deferred.mk (Target.fn (Fn.func 69) #[]) #[Value.pointer (some a4)]])) R [] (settle u17) H18
| Ending.panicked c => leavesV Tryz.prog Tryz.f52 (Act.tmps (Act.mk #[Value.pointer x0, undef, Value.int IntKind.i64 0, Value.pointer x0, Value.bool b3, Value.bool !b3, Value.pointer x0, Value.pointer (some a4), Value.pointer (some a4), Value.pointer x0, Value.pointer (some a5), Value.pointer (some (Addr.add a5 4)), Value.pointer p7, undef] [Deferred.mk (Target.fn (Fn.func 69) #[]) #[Value.pointer (some a4)]])) R [] (raised u17 c) H18
| Ending.outgrown => False)))))))))) (pnR R))
theorem F52_eq (x0 : Option Addr) (R : Ending → Heap → Prop) (H : Heap) : F52 x0 R H = vc Tryz.prog (codeOf Tryz.f52) .leaf (postV Tryz.prog Tryz.f52 R) ⟨#[Value.pointer x0] ++ Array.replicate (Tryz.f52.ntmps - 1) undef, []⟩ H := by kernel_rfl
theorem F52_calls {R : Ending → Heap → Prop} {H : Heap} (x0 : Option Addr) (h : F52 x0 R H) : HCalls Tryz.prog 52 #[Value.pointer x0] H R :=
  calls_by (F := F52 x0 R H) .leaf Tryz.func52 rfl (F52_eq x0 R H) h
/-- (*bollard/volume.Volume).Undo -/
def F54 (x0 : Option Addr) (x1 : Int) (R : Ending → Heap → Prop) (H : Heap) : Prop :=
  HCalls Tryz.prog 68 #[Value.pointer x0] H (Sp.retK (fun v1 H2 =>
  dBl v1 (fun b3 =>
  sB (!b3) (R (Ending.returned (Value.int IntKind.i64 2)) H2) (nz x0 (fun a4 =>
  nz x0 (fun a5 =>
  ld H2 (Addr.add a5 4) (fun v6 =>
  dPtr v6 (fun p7 =>
  HCalls Tryz.prog 106 #[Value.pointer p7, Value.int IntKind.i64 x1] H2 (Sp.retK (fun v8 H9 =>
  dInt IntKind.i64 v8 (fun n10 =>
  HCallsD Tryz.prog 69 #[Value.pointer (some a4)] FrameMode.returning H9 (fun e11 u12 H13 =>
  match e11 with
| Ending.returned v => leavesV Tryz.prog Tryz.f54 (Act.tmps (Act.mk #[Value.pointer x0, Value.int IntKind.i64 x1, undef, undef, Value.int IntKind.i64 n10, Value.pointer x0, Value.bool b3, Value.bool !b3, Value.pointer x0, Value.pointer (some a4), Value.pointer (some a4), Value.pointer x0, Value.pointer (some a5), Value.pointer (some (Addr.add a5 4)), Value.pointer p7, Value.int IntKind.i64 x1, Value.int IntKind.i64 n10] [Deferred.mk (Target.fn (Fn.func 69) #[]) #[Value.pointer (some a4)]])) R [] (settle u12) H13
| Ending.panicked c => leavesV Tryz.prog Tryz.f54 (Act.tmps (Act.mk #[Value.pointer x0, Value.int IntKind.i64 x1, undef, undef, Value.int IntKind.i64 n10, Value.pointer x0, Value.bool b3, Value.bool !b3, Value.pointer x0, Value.pointer (some a4), Value.pointer (some a4), Value.pointer x0, Value.pointer (some a5), Value.pointer (some (Addr.add a5 4)), Value.pointer p7, Value.int IntKind.i64 x1, Value.int IntKind.i64 n10] [Deferred.mk (Target.fn (Fn.func 69) #[]) #[Value.pointer (some a4)]])) R [] (raised u12 c) H13
| Ending.outgrown => False))) (fun c14 H15 =>
  HCallsD Tryz.prog 69 #[Value.pointer (some a4)] (FrameMode.panicking c14) H15 (fun e16 u17 H18 =>
  match e16 with
| Ending.returned v => leavesV Tryz.prog Tryz.f54 (Act.tmps (Act.mk #[Value.pointer x0, Value.int IntKind.i64 x1, undef, undef, Value.int IntKind.i64 0, Value.pointer x0, Value.bool b3, Value.bool !b3, Value.pointer x0, Value.pointer (some a4), Value.pointer (some a4), Value.pointer x0, Value.pointer (some a5), Value.pointer (some (Addr.add a5 4)), Value.pointer p7, Value.int IntKind.i64 x1, undef] [Deferred.mk (Target.fn (Fn.func 69) #[]) #[Value.pointer (some a4)]])) R [] (settle u17) H18
| Ending.panicked c => leavesV Tryz.prog Tryz.f54 (Act.tmps (Act.mk #[Value.pointer x0, Value.int IntKind.i64 x1, undef, undef, Value.int IntKind.i64 0, Value.pointer x0, Value.bool b3, Value.bool !b3, Value.pointer x0, Value.pointer (some a4), Value.pointer (some a4), Value.pointer x0, Value.pointer (some a5), Value.pointer (some (Addr.add a5 4)), Value.pointer p7, Value.int IntKind.i64 x1, undef] [Deferred.mk (Target.fn (Fn.func 69) #[]) #[Value.pointer (some a4)]])) R [] (raised u17 c) H18
| Ending.outgrown => False)))))))))) (pnR R))
theorem F54_eq (x0 : Option Addr) (x1 : Int) (R : Ending → Heap → Prop) (H : Heap) : F54 x0 x1 R H = vc Tryz.prog (codeOf Tryz.f54) .leaf (postV Tryz.prog Tryz.f54 R) ⟨#[Value.pointer x0, Value.int IntKind.i64 x1] ++ Array.replicate (Tryz.f54.ntmps - 2) undef, []⟩ H := by kernel_rfl
theorem F54_calls {R : Ending → Heap → Prop} {H : Heap} (x0 : Option Addr) (x1 : Int) (h : F54 x0 x1 R H) : HCalls Tryz.prog 54 #[Value.pointer x0, Value.int IntKind.i64 x1] H R :=
  calls_by (F := F54 x0 x1 R H) .leaf Tryz.func54 rfl (F54_eq x0 x1 R H) h
end Go.Proofs.YtngploohhmfaiaaGreat.E
/- The functions' forms in the engine's words, printed by my own program. -/
namespace Go.Proofs.YtngploohhmfaiaaGreat.E
open Go Go.Proofs
set_option linter.unusedVariables false
/-- bollard/geom.Blocks -/
def F64 (x0_0 : Value) (x0_1 : Value) (x0_2 : Value) (R : Ending → Heap → Prop) (H : Heap) : Prop :=
  al H (Obj.cells #[x0_0, x0_1, x0_2] 32) (fun r1 H2 =>
  ld H2 (Addr.mk r1 0 none) (fun v3 =>
  ld H2 (Addr.mk r1 1 none) (fun v4 =>
  ld H2 (Addr.mk r1 2 none) (fun v5 =>
  ld H2 (Addr.mk r1 1 none) (fun v6 =>
  dInt IntKind.i64 v6 (fun n7 =>
  HCalls Tryz.prog 114 #[Value.agg #[v3, v4, v5], Value.int IntKind.i64 n7] H2 (Sp.retK (fun v8 H9 =>
  dInt IntKind.i64 v8 (fun n10 =>
  R (Ending.returned (Value.int IntKind.i64 n10)) H9)) (pnR R))))))))
theorem F64_eq (x0_0 : Value) (x0_1 : Value) (x0_2 : Value) (R : Ending → Heap → Prop) (H : Heap) : F64 x0_0 x0_1 x0_2 R H = vc Tryz.prog (codeOf Tryz.f64) .leaf (postV Tryz.prog Tryz.f64 R) ⟨#[Value.agg #[x0_0, x0_1, x0_2]] ++ Array.replicate (Tryz.f64.ntmps - 1) undef, []⟩ H := by kernel_rfl
theorem F64_calls {R : Ending → Heap → Prop} {H : Heap} (x0_0 : Value) (x0_1 : Value) (x0_2 : Value) (h : F64 x0_0 x0_1 x0_2 R H) : HCalls Tryz.prog 64 #[Value.agg #[x0_0, x0_1, x0_2]] H R :=
  calls_by (F := F64 x0_0 x0_1 x0_2 R H) .leaf Tryz.func64 rfl (F64_eq x0_0 x0_1 x0_2 R H) h
/-- bollard/geom.Can -/
def F65 (x0_0 : Value) (x0_1 : Value) (x0_2 : Value) (R : Ending → Heap → Prop) (H : Heap) : Prop :=
  al H (Obj.cells #[x0_0, x0_1, x0_2] 32) (fun r1 H2 =>
  jn (α := VFH 1) (fun v3 H4 =>
  ∀ v5 v6 v7 v8 v9 v10 v11 v12 v13 v14 v15 v16 v17 : Value,
  dBl v3 (fun b18 =>
  jn (α := VFH 1) (fun v19 H20 =>
  ∀ v21 v22 v23 v24 v25 v26 v27 v28 v29 v30 v31 v32 v33 v34 v35 : Value,
  dBl v19 (fun b36 =>
  sB b36 (R (Ending.returned (Value.int IntKind.i64 170)) H20) (R (Ending.returned (Value.int IntKind.i64 0)) H20))) (fun k37 =>
  sB (!b18) (k37 (Value.bool true) H4) (ld H4 (Addr.mk r1 2 none) (fun v38 =>
  dInt IntKind.i64 v38 (fun n39 =>
  ask ((4 : Int) ≠ (0 : Int)) (nm (Int.tmod n39 4) (fun n40 =>
  sB (n40 != 0) (k37 (Value.bool true) H4) (ld H4 (Addr.mk r1 1 none) (fun v41 =>
  dInt IntKind.i64 v41 (fun n42 =>
  ld H4 (Addr.mk r1 0 none) (fun v43 =>
  ld H4 (Addr.mk r1 1 none) (fun v44 =>
  ld H4 (Addr.mk r1 2 none) (fun v45 =>
  HCalls Tryz.prog 116 #[Value.agg #[v43, v44, v45]] H4 (Sp.retK (fun v46 H47 =>
  dInt IntKind.i64 v46 (fun n48 =>
  (ld H47 (Addr.mk r1 1 none) (fun v49 =>
  dInt IntKind.i64 v49 (fun n50 =>
  (Value.int IntKind.i64 n50) = (Value.int IntKind.i64 n42)))) ∧
  wr IntKind.i64 (n48 + 1) (fun n51 =>
  k37 (Value.bool (decide (n42 < n51))) H47))) nopR))))))))))))))) (fun k54 =>
  ld H2 (Addr.mk r1 0 none) (fun v55 =>
  dInt IntKind.i64 v55 (fun n56 =>
  HCalls Tryz.prog 115 #[Value.int IntKind.i64 n56, Value.int IntKind.i64 1, Value.int IntKind.i64 8] H2 (Sp.retK (fun v57 H58 =>
  dBl v57 (fun b59 =>
  sB b59 (ld H58 (Addr.mk r1 1 none) (fun v60 =>
  dInt IntKind.i64 v60 (fun n61 =>
  HCalls Tryz.prog 115 #[Value.int IntKind.i64 n61, Value.int IntKind.i64 8, Value.int IntKind.i64 256] H58 (Sp.retK (fun v62 H63 =>
  dBl v62 (fun b64 =>
  sB b64 (ld H63 (Addr.mk r1 2 none) (fun v65 =>
  dInt IntKind.i64 v65 (fun n66 =>
  HCalls Tryz.prog 115 #[Value.int IntKind.i64 n66, Value.int IntKind.i64 4, Value.int IntKind.i64 64] H63 (Sp.retK (fun v67 H68 =>
  dBl v67 (fun b69 =>
  k54 (Value.bool b69) H68)) (pnR R))))) (k54 (Value.bool false) H63))) (pnR R))))) (k54 (Value.bool false) H58))) (pnR R))))))
theorem F65_eq (x0_0 : Value) (x0_1 : Value) (x0_2 : Value) (R : Ending → Heap → Prop) (H : Heap) : F65 x0_0 x0_1 x0_2 R H = vc Tryz.prog (codeOf Tryz.f65) (.node none .leaf (.node (some ⟨[(3, 4)], [4, 5, 6, 7, 8, 9, 10, 11, 12, 13, 14, 15, 16]⟩) .leaf (.node none (.node (some ⟨[(32, 4)], [17, 18, 19, 20, 21, 22, 23, 24, 25, 26, 27, 28, 29, 30, 31]⟩) .leaf .leaf) .leaf))) (postV Tryz.prog Tryz.f65 R) ⟨#[Value.agg #[x0_0, x0_1, x0_2]] ++ Array.replicate (Tryz.f65.ntmps - 1) undef, []⟩ H := by kernel_rfl
theorem F65_calls {R : Ending → Heap → Prop} {H : Heap} (x0_0 : Value) (x0_1 : Value) (x0_2 : Value) (h : F65 x0_0 x0_1 x0_2 R H) : HCalls Tryz.prog 65 #[Value.agg #[x0_0, x0_1, x0_2]] H R :=
  calls_by (F := F65 x0_0 x0_1 x0_2 R H) (.node none .leaf (.node (some ⟨[(3, 4)], [4, 5, 6, 7, 8, 9, 10, 11, 12, 13, 14, 15, 16]⟩) .leaf (.node none (.node (some ⟨[(32, 4)], [17, 18, 19, 20, 21, 22, 23, 24, 25, 26, 27, 28, 29, 30, 31]⟩) .leaf .leaf) .leaf))) Tryz.func65 rfl (F65_eq x0_0 x0_1 x0_2 R H) h
/-- bollard/bollardplain.Of -/
def F67 (x0a : Option Addr) (x0n : Nat) (x0c : Nat) (x1 : Int) (R : Ending → Heap → Prop) (H : Heap) : Prop :=
  al H (Obj.cells #[Value.pointer none, Value.pointer none, Value.pointer none, Value.pointer none] 67) (fun r1 H2 =>
  HCalls Tryz.prog 121 #[Value.slice x0a x0n x0c] H2 (Sp.retK (fun v3 H4 =>
  dSl v3 (fun p5 r6 r7 =>
  HCalls Tryz.prog 97 #[Value.slice p5 r6 r7] H4 (Sp.retK (fun v8 H9 =>
  dT 2 v8 (fun v10 v11 =>
  dPtr v10 (fun p12 =>
  dInt IntKind.i64 v11 (fun n13 =>
  HCalls Tryz.prog 122 #[Value.slice x0a x0n x0c] H9 (Sp.retK (fun v14 H15 =>
  dT 2 v14 (fun v16 v17 =>
  dPtr v16 (fun p18 =>
  dInt IntKind.i64 v17 (fun n19 =>
  jn (α := VFH 1) (fun v20 H21 =>
  ∀ v22 v23 v24 v25 v26 v27 v28 v29 v30 v31 : Value,
  dBl v20 (fun b32 =>
  sB b32 (sB (n13 == n19) (sB (Option.isNone p12) (R (Ending.returned (Value.tuple #[Value.pointer none, Value.bool (Option.isNone p18)])) H21) (R (Ending.returned (Value.tuple #[Value.pointer none, Value.bool false])) H21)) (R (Ending.returned (Value.tuple #[Value.pointer none, Value.bool false])) H21)) (HCalls Tryz.prog 31 #[Value.pointer p12, Value.int IntKind.i64 x1] H21 (Sp.retK (fun v33 H34 =>
  dT 2 v33 (fun v35 v36 =>
  dPtr v35 (fun p37 =>
  dInt IntKind.i64 v36 (fun n38 =>
  HCalls Tryz.prog 123 #[Value.pointer p18, Value.int IntKind.i64 x1] H34 (Sp.retK (fun v39 H40 =>
  dT 2 v39 (fun v41 v42 =>
  dPtr v41 (fun p43 =>
  dInt IntKind.i64 v42 (fun n44 =>
  jn (α := VFH 1) (fun v45 H46 =>
  ∀ v47 v48 v49 v50 v51 v52 v53 v54 v55 : Value,
  dBl v45 (fun b56 =>
  sB b56 (R (Ending.returned (Value.tuple #[Value.pointer none, Value.bool false])) H46) (sB (Option.isNone p43) (R (Ending.returned (Value.tuple #[Value.pointer none, Value.bool true])) H46) (st H46 (Addr.mk r1 0 none) (Value.pointer p12) (fun H57 =>
  st H57 (Addr.mk r1 1 none) (Value.pointer p37) (fun H58 =>
  st H58 (Addr.mk r1 2 none) (Value.pointer p18) (fun H59 =>
  st H59 (Addr.mk r1 3 none) (Value.pointer p43) (fun H60 =>
  R (Ending.returned (Value.tuple #[Value.pointer (some (Addr.mk r1 0 none)), Value.bool true])) H60)))))))) (fun k61 =>
  sB (n38 != n44) (k61 (Value.bool true) H40) (k61 (Value.bool !Option.isNone p37 == Option.isNone p43) H40)))))) (pnR R)))))) (pnR R))))) (fun k66 =>
  sB (n13 != n19) (k66 (Value.bool true) H15) (sB (Option.isNone p12) (k66 (Value.bool true) H15) (k66 (Value.bool (Option.isNone p18)) H15))))))) (pnR R)))))) (pnR R)))) (pnR R)))
theorem F67_eq (x0a : Option Addr) (x0n : Nat) (x0c : Nat) (x1 : Int) (R : Ending → Heap → Prop) (H : Heap) : F67 x0a x0n x0c x1 R H = vc Tryz.prog (codeOf Tryz.f67) (.node none .leaf (.node none .leaf (.node none .leaf (.node none .leaf (.node none (.node (some ⟨[(36, 4)], [26, 27, 28, 29, 30, 31, 32, 33, 34, 35]⟩) .leaf .leaf) (.node none .leaf (.node none .leaf (.node none (.node (some ⟨[(69, 4)], [60, 61, 62, 63, 64, 65, 66, 67, 68]⟩) .leaf .leaf) .leaf)))))))) (postV Tryz.prog Tryz.f67 R) ⟨#[Value.slice x0a x0n x0c, Value.int IntKind.i64 x1] ++ Array.replicate (Tryz.f67.ntmps - 2) undef, []⟩ H := by kernel_rfl
theorem F67_calls {R : Ending → Heap → Prop} {H : Heap} (x0a : Option Addr) (x0n : Nat) (x0c : Nat) (x1 : Int) (h : F67 x0a x0n x0c x1 R H) : HCalls Tryz.prog 67 #[Value.slice x0a x0n x0c, Value.int IntKind.i64 x1] H R :=
  calls_by (F := F67 x0a x0n x0c x1 R H) (.node none .leaf (.node none .leaf (.node none .leaf (.node none .leaf (.node none (.node (some ⟨[(36, 4)], [26, 27, 28, 29, 30, 31, 32, 33, 34, 35]⟩) .leaf .leaf) (.node none .leaf (.node none .leaf (.node none (.node (some ⟨[(69, 4)], [60, 61, 62, 63, 64, 65, 66, 67, 68]⟩) .leaf .leaf) .leaf)))))))) Tryz.func67 rfl (F67_eq x0a x0n x0c x1 R H) h
/-- (*bollard/volume.Volume).held -/
def F68 (x0 : Option Addr) (R : Ending → Heap → Prop) (H : Heap) : Prop :=
  sB (Option.isNone x0) (R (Ending.returned (Value.bool false)) H) (nz x0 (fun a1 =>
  HCalls Tryz.prog 113 #[Value.pointer (some a1)] H (Sp.retK (fun v2 H3 =>
  nz x0 (fun a4 =>
  ld H3 (Addr.add a4 2) (fun v5 =>
  dPtr v5 (fun p6 =>
  sB (Option.isNone p6) (nz x0 (fun a7 =>
  HCalls Tryz.prog 69 #[Value.pointer (some a7)] H3 (Sp.retK (fun v8 H9 =>
  R (Ending.returned (Value.bool false)) H9) (pnR R)))) (R (Ending.returned (Value.bool true)) H3))))) (pnR R))))
theorem F68_eq (x0 : Option Addr) (R : Ending → Heap → Prop) (H : Heap) : F68 x0 R H = vc Tryz.prog (codeOf Tryz.f68) .leaf (postV Tryz.prog Tryz.f68 R) ⟨#[Value.pointer x0] ++ Array.replicate (Tryz.f68.ntmps - 1) undef, []⟩ H := by kernel_rfl
theorem F68_calls {R : Ending → Heap → Prop} {H : Heap} (x0 : Option Addr) (h : F68 x0 R H) : HCalls Tryz.prog 68 #[Value.pointer x0] H R :=
  calls_by (F := F68 x0 R H) .leaf Tryz.func68 rfl (F68_eq x0 R H) h
/-- (*bollard/disk.Disk).Blocks -/
def F70 (x0 : Option Addr) (R : Ending → Heap → Prop) (H : Heap) : Prop :=
  sB (Option.isNone x0) (R (Ending.returned (Value.int IntKind.i64 0)) H) (nz x0 (fun a1 =>
  ld H a1 (fun v2 =>
  dSl v2 (fun p3 r4 r5 =>
  R (Ending.returned (Value.int IntKind.i64 (↑r4 : Int))) H))))
theorem F70_eq (x0 : Option Addr) (R : Ending → Heap → Prop) (H : Heap) : F70 x0 R H = vc Tryz.prog (codeOf Tryz.f70) .leaf (postV Tryz.prog Tryz.f70 R) ⟨#[Value.pointer x0] ++ Array.replicate (Tryz.f70.ntmps - 1) undef, []⟩ H := by kernel_rfl
theorem F70_calls {R : Ending → Heap → Prop} {H : Heap} (x0 : Option Addr) (h : F70 x0 R H) : HCalls Tryz.prog 70 #[Value.pointer x0] H R :=
  calls_by (F := F70 x0 R H) .leaf Tryz.func70 rfl (F70_eq x0 R H) h
/-- (*bollard/volume.Volume).has -/
def F71 (x0 : Option Addr) (x1 : Int) (R : Ending → Heap → Prop) (H : Heap) : Prop :=
  sB (decide (x1 ≥ 0)) (nz x0 (fun a1 =>
  ld H (Addr.add a1 2) (fun v2 =>
  dPtr v2 (fun p3 =>
  HCalls Tryz.prog 70 #[Value.pointer p3] H (Sp.retK (fun v4 H5 =>
  dInt IntKind.i64 v4 (fun n6 =>
  R (Ending.returned (Value.bool (decide (x1 < n6)))) H5)) (pnR R)))))) (R (Ending.returned (Value.bool false)) H)
theorem F71_eq (x0 : Option Addr) (x1 : Int) (R : Ending → Heap → Prop) (H : Heap) : F71 x0 x1 R H = vc Tryz.prog (codeOf Tryz.f71) .leaf (postV Tryz.prog Tryz.f71 R) ⟨#[Value.pointer x0, Value.int IntKind.i64 x1] ++ Array.replicate (Tryz.f71.ntmps - 2) undef, []⟩ H := by kernel_rfl
theorem F71_calls {R : Ending → Heap → Prop} {H : Heap} (x0 : Option Addr) (x1 : Int) (h : F71 x0 x1 R H) : HCalls Tryz.prog 71 #[Value.pointer x0, Value.int IntKind.i64 x1] H R :=
  calls_by (F := F71 x0 x1 R H) .leaf Tryz.func71 rfl (F71_eq x0 x1 R H) h
/-- (*bollard/volume.Volume).read -/
def F72 (x0 : Option Addr) (x1 : Int) (R : Ending → Heap → Prop) (H : Heap) : Prop :=
  HCalls Tryz.prog 71 #[Value.pointer x0, Value.int IntKind.i64 x1] H (Sp.retK (fun v1 H2 =>
  dBl v1 (fun b3 =>
  sB (!b3) (R (Ending.returned (Value.tuple #[Value.slice none 0 0, Value.int IntKind.i64 90])) H2) (nz x0 (fun a4 =>
  ld H2 (Addr.add a4 3) (fun v5 =>
  dPtr v5 (fun p6 =>
  HCalls Tryz.prog 125 #[Value.pointer p6, Value.int IntKind.i64 x1] H2 (Sp.retK (fun v7 H8 =>
  dT 2 v7 (fun v9 v10 =>
  dSl v9 (fun p11 r12 r13 =>
  dInt IntKind.i64 v10 (fun n14 =>
  sB (n14 != 0) (R (Ending.returned (Value.tuple #[Value.slice none 0 0, Value.int IntKind.i64 n14])) H8) (nz x0 (fun a15 =>
  ld H8 (Addr.add a15 4) (fun v16 =>
  dPtr v16 (fun p17 =>
  HCalls Tryz.prog 126 #[Value.pointer p17, Value.int IntKind.i64 x1, Value.slice p11 r12 r13] H8 (Sp.retK (fun v18 H19 =>
  dT 2 v18 (fun v20 v21 =>
  dSl v20 (fun p22 r23 r24 =>
  dInt IntKind.i64 v21 (fun n25 =>
  R (Ending.returned (Value.tuple #[Value.slice p22 r23 r24, Value.int IntKind.i64 n25])) H19)))) (pnR R)))))))))) (pnR R)))))))) (pnR R))
theorem F72_eq (x0 : Option Addr) (x1 : Int) (R : Ending → Heap → Prop) (H : Heap) : F72 x0 x1 R H = vc Tryz.prog (codeOf Tryz.f72) .leaf (postV Tryz.prog Tryz.f72 R) ⟨#[Value.pointer x0, Value.int IntKind.i64 x1] ++ Array.replicate (Tryz.f72.ntmps - 2) undef, []⟩ H := by kernel_rfl
theorem F72_calls {R : Ending → Heap → Prop} {H : Heap} (x0 : Option Addr) (x1 : Int) (h : F72 x0 x1 R H) : HCalls Tryz.prog 72 #[Value.pointer x0, Value.int IntKind.i64 x1] H R :=
  calls_by (F := F72 x0 x1 R H) .leaf Tryz.func72 rfl (F72_eq x0 x1 R H) h
/-- (*bollard/patch.Set).Add -/
def F73 (x0 : Option Addr) (x1 : Int) (x2 : Int) (x3a : Option Addr) (x3n : Nat) (x3c : Nat) (x4a : Option Addr) (x4n : Nat) (x4c : Nat) (R : Ending → Heap → Prop) (H : Heap) : Prop :=
  al H (Obj.cells #[Value.pointer x0] 51) (fun r1 H2 =>
  ld H2 (Addr.mk r1 0 none) (fun v3 =>
  dPtr v3 (fun p4 =>
  HCalls Tryz.prog 127 #[Value.pointer p4] H2 (Sp.retK (fun v5 H6 =>
  dBl v5 (fun b7 =>
  sB (!b7) (R (Ending.returned (Value.tuple #[Value.int IntKind.i64 0, Value.int IntKind.i64 2])) H6) (HCalls Tryz.prog 128 #[Value.int IntKind.i64 x1, Value.int IntKind.i64 x2, Value.slice x3a x3n x3c] H6 (Sp.retK (fun v8 H9 =>
  dBl v8 (fun b10 =>
  sB (!b10) (R (Ending.returned (Value.tuple #[Value.int IntKind.i64 0, Value.int IntKind.i64 1])) H9) (HCalls Tryz.prog 88 #[Value.slice x4a x4n x4c, Value.func (Fn.func 129) #[] #[Value.pointer (some (Addr.mk r1 0 none))]] H9 (Sp.retK (fun v11 H12 =>
  dBl v11 (fun b13 =>
  sB b13 (R (Ending.returned (Value.tuple #[Value.int IntKind.i64 0, Value.int IntKind.i64 70])) H12) (ld H12 (Addr.mk r1 0 none) (fun v14 =>
  dPtr v14 (fun p15 =>
  nz p15 (fun a16 =>
  ld H12 a16 (fun v17 =>
  dInt IntKind.i64 v17 (fun n18 =>
  wr IntKind.i64 (n18 + 1) (fun n19 =>
  (HCalls Tryz.prog 107 #[Value.slice x3a x3n x3c] H12 (Sp.retK (fun v20 H21 =>
  dSl v20 (fun p22 r23 r24 =>
  (ld H21 a16 (fun v25 =>
  dInt IntKind.i64 v25 (fun n26 =>
  (Value.int IntKind.i64 n26) = (Value.int IntKind.i64 n18)))) ∧
  (ld H21 (Addr.mk r1 0 none) (fun v27 =>
  dPtr v27 (fun p28 =>
  (Value.pointer p28) = (Value.pointer p15)))) ∧
  al H21 (Obj.cells #[Value.int IntKind.i64 0, Value.int IntKind.i64 0, Value.int IntKind.i64 0, Value.slice none 0 0, Value.slice none 0 0] 194) (fun r29 H30 =>
  (ld H30 a16 (fun v31 =>
  dInt IntKind.i64 v31 (fun n32 =>
  (Value.int IntKind.i64 n32) = (Value.int IntKind.i64 n18)))) ∧
  (ld H30 (Addr.mk r1 0 none) (fun v33 =>
  dPtr v33 (fun p34 =>
  (Value.pointer p34) = (Value.pointer p15)))) ∧
  st H30 (Addr.mk r29 0 none) (Value.int IntKind.i64 n19) (fun H35 =>
  st H35 (Addr.mk r29 1 none) (Value.int IntKind.i64 x1) (fun H36 =>
  st H36 (Addr.mk r29 2 none) (Value.int IntKind.i64 x2) (fun H37 =>
  st H37 (Addr.mk r29 3 none) (Value.slice p22 r23 r24) (fun H38 =>
  st H38 (Addr.mk r29 4 none) (Value.slice none 0 0) (fun H39 =>
  HCalls Tryz.prog 131 #[Value.slice x4a x4n x4c] H39 (Sp.retK (fun v40 H41 =>
  dSl v40 (fun p42 r43 r44 =>
  ld H41 (Addr.mk r1 0 none) (fun v45 =>
  dPtr v45 (fun p46 =>
  nz p46 (fun a47 =>
  ld H41 (Addr.add a47 2) (fun v48 =>
  dMap v48 (fun p49 =>
  semW Tryz.prog (Instr.range 190 (Value.map p49)) (pnR R) H41 (fun v52 H53 =>
  ∃ I54 : List Value → Heap → Prop,
  ∃ I55 : List Value → Heap → Nat,
  (I54 ([Value.slice p42 r43 r44]) H53) ∧
  ∀ p56 : Option Addr,
  ∀ r57 : Nat,
  ∀ r58 : Nat,
  ∀ v59 v60 v61 v62 v63 v64 v65 v66 v67 v68 v69 v70 v71 v72 : Value,
  ∀ H73 : Heap,
  (I54 ([Value.slice p56 r57 r58]) H73) →
  semW Tryz.prog (Instr.next v52 false 0) (pnR R) H73 (fun v77 H78 =>
  dNx v77 (ld H78 (Addr.mk r1 0 none) (fun v79 =>
  dPtr v79 (fun p80 =>
  HCalls Tryz.prog 133 #[Value.pointer p80, Value.slice p56 r57 r58] H78 (Sp.retK (fun v81 H82 =>
  dSl v81 (fun p83 r84 r85 =>
  st H82 (Addr.mk r29 4 none) (Value.slice p83 r84 r85) (fun H86 =>
  ld H86 (Addr.mk r1 0 none) (fun v87 =>
  dPtr v87 (fun p88 =>
  nz p88 (fun a89 =>
  ld H86 a89 (fun v90 =>
  dInt IntKind.i64 v90 (fun n91 =>
  wr IntKind.i64 (n91 + 1) (fun n92 =>
  nz p88 (fun a93 =>
  st H86 a93 (Value.int IntKind.i64 n92) (fun H94 =>
  ld H94 (Addr.mk r1 0 none) (fun v95 =>
  dPtr v95 (fun p96 =>
  nz p96 (fun a97 =>
  ld H94 (Addr.add a97 2) (fun v98 =>
  dMap v98 (fun p99 =>
  ld H94 (Addr.mk r1 0 none) (fun v100 =>
  dPtr v100 (fun p101 =>
  nz p101 (fun a102 =>
  ld H94 a102 (fun v103 =>
  dInt IntKind.i64 v103 (fun n104 =>
  ld H94 (Addr.mk r29 0 none) (fun v105 =>
  ld H94 (Addr.mk r29 1 none) (fun v106 =>
  ld H94 (Addr.mk r29 2 none) (fun v107 =>
  ld H94 (Addr.mk r29 3 none) (fun v108 =>
  ld H94 (Addr.mk r29 4 none) (fun v109 =>
  semW Tryz.prog (Instr.mapUpdate 190 (Value.map p99) (Value.int IntKind.i64 n104) (Value.agg #[v105, v106, v107, v108, v109])) nopR H94 (fun x112 H113 =>
  ld H113 (Addr.mk r1 0 none) (fun v114 =>
  dPtr v114 (fun p115 =>
  nz p115 (fun a116 =>
  ld H113 a116 (fun v117 =>
  dInt IntKind.i64 v117 (fun n118 =>
  R (Ending.returned (Value.tuple #[Value.int IntKind.i64 n118, Value.int IntKind.i64 0])) H113)))))))))))))))))))))))))))))))) (pnR R))))) (fun v121 v122 =>
  semW Tryz.prog (Instr.entry v52) (pnR R) H78 (fun v125 H126 =>
  dT 2 v125 (fun v127 v128 =>
  dInt IntKind.i64 v127 (fun n129 =>
  dA 5 v128 (fun v130 v131 v132 v133 v134 =>
  al H126 (Obj.cells #[Value.int IntKind.i64 0, Value.int IntKind.i64 0, Value.int IntKind.i64 0, Value.slice none 0 0, Value.slice none 0 0] 194) (fun r135 H136 =>
  st H136 (Addr.mk r135 0 none) v130 (fun H137 =>
  st H137 (Addr.mk r135 1 none) v131 (fun H138 =>
  st H138 (Addr.mk r135 2 none) v132 (fun H139 =>
  st H139 (Addr.mk r135 3 none) v133 (fun H140 =>
  st H140 (Addr.mk r135 4 none) v134 (fun H141 =>
  ld H141 (Addr.mk r29 0 none) (fun v142 =>
  ld H141 (Addr.mk r29 1 none) (fun v143 =>
  ld H141 (Addr.mk r29 2 none) (fun v144 =>
  ld H141 (Addr.mk r29 3 none) (fun v145 =>
  ld H141 (Addr.mk r29 4 none) (fun v146 =>
  ld H141 (Addr.mk r135 0 none) (fun v147 =>
  ld H141 (Addr.mk r135 1 none) (fun v148 =>
  ld H141 (Addr.mk r135 2 none) (fun v149 =>
  ld H141 (Addr.mk r135 3 none) (fun v150 =>
  ld H141 (Addr.mk r135 4 none) (fun v151 =>
  HCalls Tryz.prog 132 #[Value.agg #[v142, v143, v144, v145, v146], Value.agg #[v147, v148, v149, v150, v151]] H141 (Sp.retK (fun v152 H153 =>
  dBl v152 (fun b154 =>
  sB b154 (al H153 (Obj.cells #[Value.int IntKind.i64 n129] 3) (fun r155 H156 =>
  semW Tryz.prog (Builtin.append_ #[73, 73] 73 #[Value.slice p56 r57 r58, Value.slice (some (Addr.mk r155 0 none)) 1 1]) (pnR R) H156 (fun v159 H160 =>
  dSl v159 (fun p161 r162 r163 =>
  (I54 ([Value.slice p161 r162 r163]) H160) ∧
  (I55 [Value.slice p161 r162 r163] H160) < (I55 [Value.slice p56 r57 r58] H73))))) ((I54 ([Value.slice p56 r57 r58]) H153) ∧
  (I55 [Value.slice p56 r57 r58] H153) < (I55 [Value.slice p56 r57 r58] H73)))) (pnR R)))))))))))))))))))))))))))))))) (pnR R)))))))))) nopR)) ∧
  al H12 (Obj.cells #[Value.int IntKind.i64 0, Value.int IntKind.i64 0, Value.int IntKind.i64 0, Value.slice none 0 0, Value.slice none 0 0] 194) (fun r170 H171 =>
  (ld H171 a16 (fun v172 =>
  dInt IntKind.i64 v172 (fun n173 =>
  (Value.int IntKind.i64 n173) = (Value.int IntKind.i64 n18)))) ∧
  (ld H171 (Addr.mk r1 0 none) (fun v174 =>
  dPtr v174 (fun p175 =>
  (Value.pointer p175) = (Value.pointer p15)))) ∧
  HCalls Tryz.prog 107 #[Value.slice x3a x3n x3c] H171 (Sp.retK (fun v176 H177 =>
  dSl v176 (fun p178 r179 r180 =>
  (ld H177 a16 (fun v181 =>
  dInt IntKind.i64 v181 (fun n182 =>
  (Value.int IntKind.i64 n182) = (Value.int IntKind.i64 n18)))) ∧
  (ld H177 (Addr.mk r1 0 none) (fun v183 =>
  dPtr v183 (fun p184 =>
  (Value.pointer p184) = (Value.pointer p15)))) ∧
  st H177 (Addr.mk r170 0 none) (Value.int IntKind.i64 n19) (fun H185 =>
  st H185 (Addr.mk r170 1 none) (Value.int IntKind.i64 x1) (fun H186 =>
  st H186 (Addr.mk r170 2 none) (Value.int IntKind.i64 x2) (fun H187 =>
  st H187 (Addr.mk r170 3 none) (Value.slice p178 r179 r180) (fun H188 =>
  st H188 (Addr.mk r170 4 none) (Value.slice none 0 0) (fun H189 =>
  HCalls Tryz.prog 131 #[Value.slice x4a x4n x4c] H189 (Sp.retK (fun v190 H191 =>
  dSl v190 (fun p192 r193 r194 =>
  ld H191 (Addr.mk r1 0 none) (fun v195 =>
  dPtr v195 (fun p196 =>
  nz p196 (fun a197 =>
  ld H191 (Addr.add a197 2) (fun v198 =>
  dMap v198 (fun p199 =>
  semW Tryz.prog (Instr.range 190 (Value.map p199)) (pnR R) H191 (fun v202 H203 =>
  ∃ I204 : List Value → Heap → Prop,
  ∃ I205 : List Value → Heap → Nat,
  (I204 ([Value.slice p192 r193 r194]) H203) ∧
  ∀ p206 : Option Addr,
  ∀ r207 : Nat,
  ∀ r208 : Nat,
  ∀ v209 v210 v211 v212 v213 v214 v215 v216 v217 v218 v219 v220 v221 v222 : Value,
  ∀ H223 : Heap,
  (I204 ([Value.slice p206 r207 r208]) H223) →
  semW Tryz.prog (Instr.next v202 false 0) (pnR R) H223 (fun v227 H228 =>
  dNx v227 (ld H228 (Addr.mk r1 0 none) (fun v229 =>
  dPtr v229 (fun p230 =>
  HCalls Tryz.prog 133 #[Value.pointer p230, Value.slice p206 r207 r208] H228 (Sp.retK (fun v231 H232 =>
  dSl v231 (fun p233 r234 r235 =>
  st H232 (Addr.mk r170 4 none) (Value.slice p233 r234 r235) (fun H236 =>
  ld H236 (Addr.mk r1 0 none) (fun v237 =>
  dPtr v237 (fun p238 =>
  nz p238 (fun a239 =>
  ld H236 a239 (fun v240 =>
  dInt IntKind.i64 v240 (fun n241 =>
  wr IntKind.i64 (n241 + 1) (fun n242 =>
  nz p238 (fun a243 =>
  st H236 a243 (Value.int IntKind.i64 n242) (fun H244 =>
  ld H244 (Addr.mk r1 0 none) (fun v245 =>
  dPtr v245 (fun p246 =>
  nz p246 (fun a247 =>
  ld H244 (Addr.add a247 2) (fun v248 =>
  dMap v248 (fun p249 =>
  ld H244 (Addr.mk r1 0 none) (fun v250 =>
  dPtr v250 (fun p251 =>
  nz p251 (fun a252 =>
  ld H244 a252 (fun v253 =>
  dInt IntKind.i64 v253 (fun n254 =>
  ld H244 (Addr.mk r170 0 none) (fun v255 =>
  ld H244 (Addr.mk r170 1 none) (fun v256 =>
  ld H244 (Addr.mk r170 2 none) (fun v257 =>
  ld H244 (Addr.mk r170 3 none) (fun v258 =>
  ld H244 (Addr.mk r170 4 none) (fun v259 =>
  semW Tryz.prog (Instr.mapUpdate 190 (Value.map p249) (Value.int IntKind.i64 n254) (Value.agg #[v255, v256, v257, v258, v259])) nopR H244 (fun x262 H263 =>
  ld H263 (Addr.mk r1 0 none) (fun v264 =>
  dPtr v264 (fun p265 =>
  nz p265 (fun a266 =>
  ld H263 a266 (fun v267 =>
  dInt IntKind.i64 v267 (fun n268 =>
  R (Ending.returned (Value.tuple #[Value.int IntKind.i64 n268, Value.int IntKind.i64 0])) H263)))))))))))))))))))))))))))))))) (pnR R))))) (fun v271 v272 =>
  semW Tryz.prog (Instr.entry v202) (pnR R) H228 (fun v275 H276 =>
  dT 2 v275 (fun v277 v278 =>
  dInt IntKind.i64 v277 (fun n279 =>
  dA 5 v278 (fun v280 v281 v282 v283 v284 =>
  al H276 (Obj.cells #[Value.int IntKind.i64 0, Value.int IntKind.i64 0, Value.int IntKind.i64 0, Value.slice none 0 0, Value.slice none 0 0] 194) (fun r285 H286 =>
  st H286 (Addr.mk r285 0 none) v280 (fun H287 =>
  st H287 (Addr.mk r285 1 none) v281 (fun H288 =>
  st H288 (Addr.mk r285 2 none) v282 (fun H289 =>
  st H289 (Addr.mk r285 3 none) v283 (fun H290 =>
  st H290 (Addr.mk r285 4 none) v284 (fun H291 =>
  ld H291 (Addr.mk r170 0 none) (fun v292 =>
  ld H291 (Addr.mk r170 1 none) (fun v293 =>
  ld H291 (Addr.mk r170 2 none) (fun v294 =>
  ld H291 (Addr.mk r170 3 none) (fun v295 =>
  ld H291 (Addr.mk r170 4 none) (fun v296 =>
  ld H291 (Addr.mk r285 0 none) (fun v297 =>
  ld H291 (Addr.mk r285 1 none) (fun v298 =>
  ld H291 (Addr.mk r285 2 none) (fun v299 =>
  ld H291 (Addr.mk r285 3 none) (fun v300 =>
  ld H291 (Addr.mk r285 4 none) (fun v301 =>
  HCalls Tryz.prog 132 #[Value.agg #[v292, v293, v294, v295, v296], Value.agg #[v297, v298, v299, v300, v301]] H291 (Sp.retK (fun v302 H303 =>
  dBl v302 (fun b304 =>
  sB b304 (al H303 (Obj.cells #[Value.int IntKind.i64 n279] 3) (fun r305 H306 =>
  semW Tryz.prog (Builtin.append_ #[73, 73] 73 #[Value.slice p206 r207 r208, Value.slice (some (Addr.mk r305 0 none)) 1 1]) (pnR R) H306 (fun v309 H310 =>
  dSl v309 (fun p311 r312 r313 =>
  (I204 ([Value.slice p311 r312 r313]) H310) ∧
  (I205 [Value.slice p311 r312 r313] H310) < (I205 [Value.slice p206 r207 r208] H223))))) ((I204 ([Value.slice p206 r207 r208]) H303) ∧
  (I205 [Value.slice p206 r207 r208] H303) < (I205 [Value.slice p206 r207 r208] H223)))) (pnR R)))))))))))))))))))))))))))))))) (pnR R))))))))) nopR))))))))))) (pnR R))))) (pnR R))))) (pnR R)))))
theorem F73_eq (x0 : Option Addr) (x1 : Int) (x2 : Int) (x3a : Option Addr) (x3n : Nat) (x3c : Nat) (x4a : Option Addr) (x4n : Nat) (x4c : Nat) (R : Ending → Heap → Prop) (H : Heap) : F73 x0 x1 x2 x3a x3n x3c x4a x4n x4c R H = vc Tryz.prog (codeOf Tryz.f73) (.node none .leaf (.node none .leaf (.node none .leaf (.node none .leaf (.node none (.node none .leaf (.node none (.node (some ⟨[(13, 73)], [14, 15, 47, 48, 49, 50, 51, 52, 53, 54, 55, 56, 57, 58]⟩) .leaf .leaf) .leaf)) .leaf))))) (postV Tryz.prog Tryz.f73 R) ⟨#[Value.pointer x0, Value.int IntKind.i64 x1, Value.int IntKind.i64 x2, Value.slice x3a x3n x3c, Value.slice x4a x4n x4c] ++ Array.replicate (Tryz.f73.ntmps - 5) undef, []⟩ H := by kernel_rfl
theorem F73_calls {R : Ending → Heap → Prop} {H : Heap} (x0 : Option Addr) (x1 : Int) (x2 : Int) (x3a : Option Addr) (x3n : Nat) (x3c : Nat) (x4a : Option Addr) (x4n : Nat) (x4c : Nat) (h : F73 x0 x1 x2 x3a x3n x3c x4a x4n x4c R H) : HCalls Tryz.prog 73 #[Value.pointer x0, Value.int IntKind.i64 x1, Value.int IntKind.i64 x2, Value.slice x3a x3n x3c, Value.slice x4a x4n x4c] H R :=
  calls_by (F := F73 x0 x1 x2 x3a x3n x3c x4a x4n x4c R H) (.node none .leaf (.node none .leaf (.node none .leaf (.node none .leaf (.node none (.node none .leaf (.node none (.node (some ⟨[(13, 73)], [14, 15, 47, 48, 49, 50, 51, 52, 53, 54, 55, 56, 57, 58]⟩) .leaf .leaf) .leaf)) .leaf))))) Tryz.func73 rfl (F73_eq x0 x1 x2 x3a x3n x3c x4a x4n x4c R H) h
end Go.Proofs.YtngploohhmfaiaaGreat.E
