/- My own texts, joined. -/
import Derived.KernelRfl
import Derived.Test.YtngploohhmfaiaaGreatProg
import Derived.Test.YtngploohhmfaiaaGreatQb3
/- The functions' forms in the engine's words, printed by my own program. -/
namespace Go.Proofs.YtngploohhmfaiaaGreat.E
open Go Go.Proofs
set_option linter.unusedVariables false
/-- (*bollard/volume.Volume).Blocks -/
def F24 (x0 : Option Addr) (R : Ending → Heap → Prop) (H : Heap) : Prop :=
  HCalls Tryz.prog 68 #[Value.pointer x0] H (Sp.retK (fun v1 H2 =>
  dBl v1 (fun b3 =>
  sB (!b3) (R (Ending.returned (Value.int IntKind.i64 0)) H2) (nz x0 (fun a4 =>
  nz x0 (fun a5 =>
  ld H2 (Addr.add a5 2) (fun v6 =>
  dPtr v6 (fun p7 =>
  HCalls Tryz.prog 70 #[Value.pointer p7] H2 (Sp.retK (fun v8 H9 =>
  dInt IntKind.i64 v8 (fun n10 =>
  HCallsD Tryz.prog 69 #[Value.pointer (some a4)] FrameMode.returning H9 (fun e11 u12 H13 =>
  match e11 with
| Ending.returned v => leavesV Tryz.prog Tryz.f24 (Act.tmps (Act.mk #[Value.pointer x0, undef, Value.int IntKind.i64 n10, Value.pointer x0, Value.bool b3, Value.bool !b3, Value.pointer x0, Value.pointer (some a4), Value.pointer (some a4), Value.pointer x0, Value.pointer (some a5), Value.pointer (some (Addr.add a5 2)), Value.pointer p7, Value.int IntKind.i64 n10] [Deferred.mk (Target.fn (Fn.func 69) #[]) #[Value.pointer (some a4)]])) R [] (settle u12) H13
| Ending.panicked c => leavesV Tryz.prog Tryz.f24 (Act.tmps (Act.mk #[Value.pointer x0, undef, Value.int IntKind.i64 n10, Value.pointer x0, Value.bool b3, Value.bool !b3, Value.pointer x0, Value.pointer (some a4), Value.pointer (some a4), Value.pointer x0, Value.pointer (some a5), Value.pointer (some (Addr.add a5 2)), Value.pointer p7, Value.int IntKind.i64 n10] [Deferred.mk (Target.fn (Fn.func 69) #[]) #[Value.pointer (some a4)]])) R [] (raised u12 c) H13
| Ending.outgrown => False))) (fun c14 H15 =>
  HCallsD Tryz.prog 69 #[Value.pointer (some a4)] (FrameMode.panicking c14) H15 (fun e16 u17 H18 =>
  match e16 with
| Ending.returned v => leavesV Tryz.prog Tryz.f24 (Act.tmps (Act.mk #[Value.pointer x0, undef, Value.int IntKind.i64 0, Value.pointer x0, Value.bool b3, Value.bool !b3, Value.pointer x0, Value.pointer (some a4), Value.pointer (some a4), Value.pointer x0, Value.pointer (some a5), Value.pointer (some (Addr.add a5 2)), Value.pointer p7, undef] [Deferred.mk (Target.fn (Fn.func 69) #[]) #[Value.pointer (some a4)]])) R [] (settle u17) H18
| Ending.panicked c => leavesV Tryz.prog Tryz.f24 (Act.tmps (Act.mk #[Value.pointer x0, undef, Value.int IntKind.i64 0, Value.pointer x0, Value.bool b3, Value.bool !b3, Value.pointer x0, Value.pointer (some a4), Value.pointer (some a4), Value.pointer x0, Value.pointer (some a5), Value.pointer (some (Addr.add a5 2)), Value.pointer p7, undef] [Deferred.mk (Target.fn (Fn.func 69) #[]) #[Value.pointer (some a4)]])) R [] (raised u17 c) H18
| Ending.outgrown => False)))))))))) (pnR R))
theorem F24_eq (x0 : Option Addr) (R : Ending → Heap → Prop) (H : Heap) : F24 x0 R H = vc Tryz.prog (codeOf Tryz.f24) .leaf (postV Tryz.prog Tryz.f24 R) ⟨#[Value.pointer x0] ++ Array.replicate (Tryz.f24.ntmps - 1) undef, []⟩ H := by kernel_rfl
theorem F24_calls {R : Ending → Heap → Prop} {H : Heap} (x0 : Option Addr) (h : F24 x0 R H) : HCalls Tryz.prog 24 #[Value.pointer x0] H R :=
  calls_by (F := F24 x0 R H) .leaf Tryz.func24 rfl (F24_eq x0 R H) h
/-- (*bollard/volume.Volume).Change -/
def F25 (x0 : Option Addr) (x1 : Int) (x2 : Int) (x3a : Option Addr) (x3n : Nat) (x3c : Nat) (x4a : Option Addr) (x4n : Nat) (x4c : Nat) (R : Ending → Heap → Prop) (H : Heap) : Prop :=
  HCalls Tryz.prog 68 #[Value.pointer x0] H (Sp.retK (fun v1 H2 =>
  dBl v1 (fun b3 =>
  sB (!b3) (R (Ending.returned (Value.tuple #[Value.int IntKind.i64 0, Value.int IntKind.i64 2])) H2) (nz x0 (fun a4 =>
  HCalls Tryz.prog 71 #[Value.pointer x0, Value.int IntKind.i64 x1] H2 (Sp.retK (fun v5 H6 =>
  dBl v5 (fun b7 =>
  sB (!b7) (HCallsD Tryz.prog 69 #[Value.pointer (some a4)] FrameMode.returning H6 (fun e8 u9 H10 =>
  match e8 with
| Ending.returned v => leavesV Tryz.prog Tryz.f25 (Act.tmps (Act.mk #[Value.pointer x0, Value.int IntKind.i64 x1, Value.int IntKind.i64 x2, Value.slice x3a x3n x3c, Value.slice x4a x4n x4c, undef, undef, undef, undef, undef, Value.int IntKind.i64 0, Value.int IntKind.i64 90, undef, undef, undef, undef, undef, undef, undef, undef, Value.pointer x0, Value.bool b3, Value.bool !b3, Value.pointer x0, Value.pointer (some a4), Value.pointer (some a4), Value.pointer x0, Value.int IntKind.i64 x1, Value.bool b7, Value.bool !b7, undef, undef, undef, undef, undef, undef, undef, undef, undef, undef, undef, undef, undef, undef, undef, undef, undef, undef, undef, undef, undef, undef, undef, undef, undef, undef, undef, undef, undef, undef, undef, undef, undef, undef, undef, undef, undef, undef, undef, undef, undef, undef, undef, undef, undef, undef, undef, undef, undef, undef, undef, undef, undef, undef, undef, undef, undef, undef, undef, undef, undef, undef, undef, undef, undef, undef, undef, undef, undef, undef, undef, undef, undef, undef, undef, undef, undef, undef, undef, undef, undef, undef, undef] [Deferred.mk (Target.fn (Fn.func 69) #[]) #[Value.pointer (some a4)]])) R [] (settle u9) H10
| Ending.panicked c => leavesV Tryz.prog Tryz.f25 (Act.tmps (Act.mk #[Value.pointer x0, Value.int IntKind.i64 x1, Value.int IntKind.i64 x2, Value.slice x3a x3n x3c, Value.slice x4a x4n x4c, undef, undef, undef, undef, undef, Value.int IntKind.i64 0, Value.int IntKind.i64 90, undef, undef, undef, undef, undef, undef, undef, undef, Value.pointer x0, Value.bool b3, Value.bool !b3, Value.pointer x0, Value.pointer (some a4), Value.pointer (some a4), Value.pointer x0, Value.int IntKind.i64 x1, Value.bool b7, Value.bool !b7, undef, undef, undef, undef, undef, undef, undef, undef, undef, undef, undef, undef, undef, undef, undef, undef, undef, undef, undef, undef, undef, undef, undef, undef, undef, undef, undef, undef, undef, undef, undef, undef, undef, undef, undef, undef, undef, undef, undef, undef, undef, undef, undef, undef, undef, undef, undef, undef, undef, undef, undef, undef, undef, undef, undef, undef, undef, undef, undef, undef, undef, undef, undef, undef, undef, undef, undef, undef, undef, undef, undef, undef, undef, undef, undef, undef, undef, undef, undef, undef, undef, undef, undef] [Deferred.mk (Target.fn (Fn.func 69) #[]) #[Value.pointer (some a4)]])) R [] (raised u9 c) H10
| Ending.outgrown => False)) (nz x0 (fun a11 =>
  ld H6 (Addr.add (Addr.add a11 6) 3) (fun v12 =>
  dMap v12 (fun p13 =>
  semW Tryz.prog (Instr.lookup 53 (Value.map p13) (Value.int IntKind.i64 x1) true) (fun c14 H15 =>
  HCallsD Tryz.prog 69 #[Value.pointer (some a4)] (FrameMode.panicking c14) H15 (fun e16 u17 H18 =>
  match e16 with
| Ending.returned v => leavesV Tryz.prog Tryz.f25 (Act.tmps (Act.mk #[Value.pointer x0, Value.int IntKind.i64 x1, Value.int IntKind.i64 x2, Value.slice x3a x3n x3c, Value.slice x4a x4n x4c, undef, undef, undef, undef, undef, Value.int IntKind.i64 0, Value.int IntKind.i64 0, undef, undef, undef, undef, undef, undef, undef, undef, Value.pointer x0, Value.bool b3, Value.bool !b3, Value.pointer x0, Value.pointer (some a4), Value.pointer (some a4), Value.pointer x0, Value.int IntKind.i64 x1, Value.bool b7, Value.bool !b7, undef, Value.pointer x0, Value.pointer (some a11), Value.pointer (some (Addr.add a11 6)), Value.pointer (some (Addr.add (Addr.add a11 6) 3)), Value.map p13, Value.int IntKind.i64 x1, undef, undef, undef, undef, undef, undef, undef, undef, undef, undef, undef, undef, undef, undef, undef, undef, undef, undef, undef, undef, undef, undef, undef, undef, undef, undef, undef, undef, undef, undef, undef, undef, undef, undef, undef, undef, undef, undef, undef, undef, undef, undef, undef, undef, undef, undef, undef, undef, undef, undef, undef, undef, undef, undef, undef, undef, undef, undef, undef, undef, undef, undef, undef, undef, undef, undef, undef, undef, undef, undef, undef, undef, undef, undef, undef, undef] [Deferred.mk (Target.fn (Fn.func 69) #[]) #[Value.pointer (some a4)]])) R [] (settle u17) H18
| Ending.panicked c => leavesV Tryz.prog Tryz.f25 (Act.tmps (Act.mk #[Value.pointer x0, Value.int IntKind.i64 x1, Value.int IntKind.i64 x2, Value.slice x3a x3n x3c, Value.slice x4a x4n x4c, undef, undef, undef, undef, undef, Value.int IntKind.i64 0, Value.int IntKind.i64 0, undef, undef, undef, undef, undef, undef, undef, undef, Value.pointer x0, Value.bool b3, Value.bool !b3, Value.pointer x0, Value.pointer (some a4), Value.pointer (some a4), Value.pointer x0, Value.int IntKind.i64 x1, Value.bool b7, Value.bool !b7, undef, Value.pointer x0, Value.pointer (some a11), Value.pointer (some (Addr.add a11 6)), Value.pointer (some (Addr.add (Addr.add a11 6) 3)), Value.map p13, Value.int IntKind.i64 x1, undef, undef, undef, undef, undef, undef, undef, undef, undef, undef, undef, undef, undef, undef, undef, undef, undef, undef, undef, undef, undef, undef, undef, undef, undef, undef, undef, undef, undef, undef, undef, undef, undef, undef, undef, undef, undef, undef, undef, undef, undef, undef, undef, undef, undef, undef, undef, undef, undef, undef, undef, undef, undef, undef, undef, undef, undef, undef, undef, undef, undef, undef, undef, undef, undef, undef, undef, undef, undef, undef, undef, undef, undef, undef, undef, undef] [Deferred.mk (Target.fn (Fn.func 69) #[]) #[Value.pointer (some a4)]])) R [] (raised u17 c) H18
| Ending.outgrown => False)) H6 (fun v19 H20 =>
  dT 2 v19 (fun v21 v22 =>
  dSl v21 (fun p23 r24 r25 =>
  dBl v22 (fun b26 =>
  jn (α := VFH 1) (fun v27 H28 =>
  ∀ v29 v30 v31 v32 v33 v34 v35 v36 v37 v38 v39 v40 v41 v42 v43 v44 v45 : Value,
  dBl v27 (fun b46 =>
  jn (α := VFH 1) (fun v47 H48 =>
  ∀ v49 v50 v51 v52 v53 v54 v55 v56 v57 v58 v59 v60 v61 v62 v63 : Value,
  dSl v47 (fun p64 r65 r66 =>
  nz x0 (fun a67 =>
  ld H48 (Addr.add a67 4) (fun v68 =>
  dPtr v68 (fun p69 =>
  HCalls Tryz.prog 73 #[Value.pointer p69, Value.int IntKind.i64 x1, Value.int IntKind.i64 x2, Value.slice x3a x3n x3c, Value.slice x4a x4n x4c] H48 (Sp.retK (fun v70 H71 =>
  dT 2 v70 (fun v72 v73 =>
  dInt IntKind.i64 v72 (fun n74 =>
  dInt IntKind.i64 v73 (fun n75 =>
  sB (n75 != 0) (HCallsD Tryz.prog 69 #[Value.pointer (some a4)] FrameMode.returning H71 (fun e76 u77 H78 =>
  match e76 with
| Ending.returned v => leavesV Tryz.prog Tryz.f25 (Act.tmps (Act.mk #[Value.pointer x0, Value.int IntKind.i64 x1, Value.int IntKind.i64 x2, Value.slice x3a x3n x3c, Value.slice x4a x4n x4c, undef, undef, undef, undef, undef, Value.int IntKind.i64 0, Value.int IntKind.i64 n75, Value.slice p23 r24 r25, Value.bool b26, Value.bool b46, Value.slice p64 r65 r66, v51, v52, Value.int IntKind.i64 n74, Value.int IntKind.i64 n75, Value.pointer x0, Value.bool b3, Value.bool !b3, Value.pointer x0, Value.pointer (some a4), Value.pointer (some a4), Value.pointer x0, Value.int IntKind.i64 x1, Value.bool b7, Value.bool !b7, Value.tuple #[Value.slice p23 r24 r25, Value.bool b26], Value.pointer x0, Value.pointer (some a11), Value.pointer (some (Addr.add a11 6)), Value.pointer (some (Addr.add (Addr.add a11 6) 3)), Value.map p13, Value.int IntKind.i64 x1, Value.tuple #[Value.slice p23 r24 r25, Value.bool b26], Value.slice p23 r24 r25, Value.bool b26, v29, v30, v31, v32, v33, v34, v35, v36, v37, v38, v39, v40, v41, v42, v43, v44, v45, v53, v54, v55, v56, v57, v58, v59, v60, v61, v62, v63, Value.tuple #[Value.int IntKind.i64 n74, Value.int IntKind.i64 n75], Value.pointer x0, Value.pointer (some a67), Value.pointer (some (Addr.add a67 4)), Value.pointer p69, Value.int IntKind.i64 x1, Value.int IntKind.i64 x2, Value.slice x3a x3n x3c, Value.slice x4a x4n x4c, Value.tuple #[Value.int IntKind.i64 n74, Value.int IntKind.i64 n75], Value.int IntKind.i64 n74, Value.int IntKind.i64 n75, Value.int IntKind.i64 n75, Value.bool (n75 != 0), Value.int IntKind.i64 n75, undef, undef, undef, undef, undef, undef, undef, undef, undef, undef, undef, undef, undef, undef, undef, undef, undef, undef, undef, undef, undef, undef, undef, undef, undef, undef, undef, undef, undef, undef] [Deferred.mk (Target.fn (Fn.func 69) #[]) #[Value.pointer (some a4)]])) R [] (settle u77) H78
| Ending.panicked c => leavesV Tryz.prog Tryz.f25 (Act.tmps (Act.mk #[Value.pointer x0, Value.int IntKind.i64 x1, Value.int IntKind.i64 x2, Value.slice x3a x3n x3c, Value.slice x4a x4n x4c, undef, undef, undef, undef, undef, Value.int IntKind.i64 0, Value.int IntKind.i64 n75, Value.slice p23 r24 r25, Value.bool b26, Value.bool b46, Value.slice p64 r65 r66, v51, v52, Value.int IntKind.i64 n74, Value.int IntKind.i64 n75, Value.pointer x0, Value.bool b3, Value.bool !b3, Value.pointer x0, Value.pointer (some a4), Value.pointer (some a4), Value.pointer x0, Value.int IntKind.i64 x1, Value.bool b7, Value.bool !b7, Value.tuple #[Value.slice p23 r24 r25, Value.bool b26], Value.pointer x0, Value.pointer (some a11), Value.pointer (some (Addr.add a11 6)), Value.pointer (some (Addr.add (Addr.add a11 6) 3)), Value.map p13, Value.int IntKind.i64 x1, Value.tuple #[Value.slice p23 r24 r25, Value.bool b26], Value.slice p23 r24 r25, Value.bool b26, v29, v30, v31, v32, v33, v34, v35, v36, v37, v38, v39, v40, v41, v42, v43, v44, v45, v53, v54, v55, v56, v57, v58, v59, v60, v61, v62, v63, Value.tuple #[Value.int IntKind.i64 n74, Value.int IntKind.i64 n75], Value.pointer x0, Value.pointer (some a67), Value.pointer (some (Addr.add a67 4)), Value.pointer p69, Value.int IntKind.i64 x1, Value.int IntKind.i64 x2, Value.slice x3a x3n x3c, Value.slice x4a x4n x4c, Value.tuple #[Value.int IntKind.i64 n74, Value.int IntKind.i64 n75], Value.int IntKind.i64 n74, Value.int IntKind.i64 n75, Value.int IntKind.i64 n75, Value.bool (n75 != 0), Value.int IntKind.i64 n75, undef, undef, undef, undef, undef, undef, undef, undef, undef, undef, undef, undef, undef, undef, undef, undef, undef, undef, undef, undef, undef, undef, undef, undef, undef, undef, undef, undef, undef, undef] [Deferred.mk (Target.fn (Fn.func 69) #[]) #[Value.pointer (some a4)]])) R [] (raised u77 c) H78
| Ending.outgrown => False)) (jn (α := VFH 0) (fun H79 =>
  ∀ v80 v81 v82 v83 v84 v85 v86 v87 v88 v89 v90 v91 v92 v93 v94 v95 v96 v97 v98 v99 v100 v101 v102 v103 v104 v105 v106 v107 v108 : Value,
  HCallsD Tryz.prog 69 #[Value.pointer (some a4)] FrameMode.returning H79 (fun e109 u110 H111 =>
  match e109 with
| Ending.returned v => leavesV Tryz.prog Tryz.f25 (Act.tmps (Act.mk #[Value.pointer x0, Value.int IntKind.i64 x1, Value.int IntKind.i64 x2, Value.slice x3a x3n x3c, Value.slice x4a x4n x4c, undef, undef, undef, undef, undef, Value.int IntKind.i64 n74, Value.int IntKind.i64 0, Value.slice p23 r24 r25, Value.bool b26, Value.bool b46, Value.slice p64 r65 r66, v51, v52, Value.int IntKind.i64 n74, Value.int IntKind.i64 n75, Value.pointer x0, Value.bool b3, Value.bool !b3, Value.pointer x0, Value.pointer (some a4), Value.pointer (some a4), Value.pointer x0, Value.int IntKind.i64 x1, Value.bool b7, Value.bool !b7, Value.tuple #[Value.slice p23 r24 r25, Value.bool b26], Value.pointer x0, Value.pointer (some a11), Value.pointer (some (Addr.add a11 6)), Value.pointer (some (Addr.add (Addr.add a11 6) 3)), Value.map p13, Value.int IntKind.i64 x1, Value.tuple #[Value.slice p23 r24 r25, Value.bool b26], Value.slice p23 r24 r25, Value.bool b26, v29, v30, v31, v32, v33, v34, v35, v36, v37, v38, v39, v40, v41, v42, v43, v44, v45, v53, v54, v55, v56, v57, v58, v59, v60, v61, v62, v63, Value.tuple #[Value.int IntKind.i64 n74, Value.int IntKind.i64 n75], Value.pointer x0, Value.pointer (some a67), Value.pointer (some (Addr.add a67 4)), Value.pointer p69, Value.int IntKind.i64 x1, Value.int IntKind.i64 x2, Value.slice x3a x3n x3c, Value.slice x4a x4n x4c, Value.tuple #[Value.int IntKind.i64 n74, Value.int IntKind.i64 n75], Value.int IntKind.i64 n74, Value.int IntKind.i64 n75, Value.int IntKind.i64 n75, Value.bool (n75 != 0), undef, v80, v81, v82, v83, v84, v85, v86, v87, v88, v89, v90, v91, v92, v93, v94, v95, v96, v97, v98, v99, v100, v101, v102, v103, v104, v105, v106, v107, v108, Value.int IntKind.i64 n74] [Deferred.mk (Target.fn (Fn.func 69) #[]) #[Value.pointer (some a4)]])) R [] (settle u110) H111
| Ending.panicked c => leavesV Tryz.prog Tryz.f25 (Act.tmps (Act.mk #[Value.pointer x0, Value.int IntKind.i64 x1, Value.int IntKind.i64 x2, Value.slice x3a x3n x3c, Value.slice x4a x4n x4c, undef, undef, undef, undef, undef, Value.int IntKind.i64 n74, Value.int IntKind.i64 0, Value.slice p23 r24 r25, Value.bool b26, Value.bool b46, Value.slice p64 r65 r66, v51, v52, Value.int IntKind.i64 n74, Value.int IntKind.i64 n75, Value.pointer x0, Value.bool b3, Value.bool !b3, Value.pointer x0, Value.pointer (some a4), Value.pointer (some a4), Value.pointer x0, Value.int IntKind.i64 x1, Value.bool b7, Value.bool !b7, Value.tuple #[Value.slice p23 r24 r25, Value.bool b26], Value.pointer x0, Value.pointer (some a11), Value.pointer (some (Addr.add a11 6)), Value.pointer (some (Addr.add (Addr.add a11 6) 3)), Value.map p13, Value.int IntKind.i64 x1, Value.tuple #[Value.slice p23 r24 r25, Value.bool b26], Value.slice p23 r24 r25, Value.bool b26, v29, v30, v31, v32, v33, v34, v35, v36, v37, v38, v39, v40, v41, v42, v43, v44, v45, v53, v54, v55, v56, v57, v58, v59, v60, v61, v62, v63, Value.tuple #[Value.int IntKind.i64 n74, Value.int IntKind.i64 n75], Value.pointer x0, Value.pointer (some a67), Value.pointer (some (Addr.add a67 4)), Value.pointer p69, Value.int IntKind.i64 x1, Value.int IntKind.i64 x2, Value.slice x3a x3n x3c, Value.slice x4a x4n x4c, Value.tuple #[Value.int IntKind.i64 n74, Value.int IntKind.i64 n75], Value.int IntKind.i64 n74, Value.int IntKind.i64 n75, Value.int IntKind.i64 n75, Value.bool (n75 != 0), undef, v80, v81, v82, v83, v84, v85, v86, v87, v88, v89, v90, v91, v92, v93, v94, v95, v96, v97, v98, v99, v100, v101, v102, v103, v104, v105, v106, v107, v108, Value.int IntKind.i64 n74] [Deferred.mk (Target.fn (Fn.func 69) #[]) #[Value.pointer (some a4)]])) R [] (raised u110 c) H111
| Ending.outgrown => False)) (fun k112 =>
  jn (α := VFH 1) (fun v113 H114 =>
  ∀ v115 v116 v117 v118 v119 v120 v121 v122 v123 v124 v125 v126 v127 v128 v129 : Value,
  dBl v113 (fun b130 =>
  sB b130 (nz x0 (fun a131 =>
  ld H114 (Addr.add (Addr.add a131 6) 3) (fun v132 =>
  dMap v132 (fun p133 =>
  semW Tryz.prog (Instr.mapUpdate 53 (Value.map p133) (Value.int IntKind.i64 x1) (Value.slice p64 r65 r66)) (fun c134 H135 =>
  HCallsD Tryz.prog 69 #[Value.pointer (some a4)] (FrameMode.panicking c134) H135 (fun e136 u137 H138 =>
  match e136 with
| Ending.returned v => leavesV Tryz.prog Tryz.f25 (Act.tmps (Act.mk #[Value.pointer x0, Value.int IntKind.i64 x1, Value.int IntKind.i64 x2, Value.slice x3a x3n x3c, Value.slice x4a x4n x4c, undef, undef, undef, undef, undef, v49, v50, Value.slice p23 r24 r25, Value.bool b26, Value.bool b46, Value.slice p64 r65 r66, v51, v52, Value.int IntKind.i64 n74, Value.int IntKind.i64 n75, Value.pointer x0, Value.bool b3, Value.bool !b3, Value.pointer x0, Value.pointer (some a4), Value.pointer (some a4), Value.pointer x0, Value.int IntKind.i64 x1, Value.bool b7, Value.bool !b7, Value.tuple #[Value.slice p23 r24 r25, Value.bool b26], Value.pointer x0, Value.pointer (some a11), Value.pointer (some (Addr.add a11 6)), Value.pointer (some (Addr.add (Addr.add a11 6) 3)), Value.map p13, Value.int IntKind.i64 x1, Value.tuple #[Value.slice p23 r24 r25, Value.bool b26], Value.slice p23 r24 r25, Value.bool b26, v29, v30, v31, v32, v33, v34, v35, v36, v37, v38, v39, v40, v41, v42, v43, v44, v45, v53, v54, v55, v56, v57, v58, v59, v60, v61, v62, v63, Value.tuple #[Value.int IntKind.i64 n74, Value.int IntKind.i64 n75], Value.pointer x0, Value.pointer (some a67), Value.pointer (some (Addr.add a67 4)), Value.pointer p69, Value.int IntKind.i64 x1, Value.int IntKind.i64 x2, Value.slice x3a x3n x3c, Value.slice x4a x4n x4c, Value.tuple #[Value.int IntKind.i64 n74, Value.int IntKind.i64 n75], Value.int IntKind.i64 n74, Value.int IntKind.i64 n75, Value.int IntKind.i64 n75, Value.bool (n75 != 0), undef, Value.bool b130, v115, v116, v117, v118, v119, v120, v121, v122, v123, v124, v125, v126, v127, v128, v129, Value.pointer x0, Value.pointer (some a131), Value.pointer (some (Addr.add a131 6)), Value.pointer (some (Addr.add (Addr.add a131 6) 3)), Value.map p133, Value.int IntKind.i64 x1, Value.slice p64 r65 r66, undef, undef, undef, undef, undef, undef, undef] [Deferred.mk (Target.fn (Fn.func 69) #[]) #[Value.pointer (some a4)]])) R [] (settle u137) H138
| Ending.panicked c => leavesV Tryz.prog Tryz.f25 (Act.tmps (Act.mk #[Value.pointer x0, Value.int IntKind.i64 x1, Value.int IntKind.i64 x2, Value.slice x3a x3n x3c, Value.slice x4a x4n x4c, undef, undef, undef, undef, undef, v49, v50, Value.slice p23 r24 r25, Value.bool b26, Value.bool b46, Value.slice p64 r65 r66, v51, v52, Value.int IntKind.i64 n74, Value.int IntKind.i64 n75, Value.pointer x0, Value.bool b3, Value.bool !b3, Value.pointer x0, Value.pointer (some a4), Value.pointer (some a4), Value.pointer x0, Value.int IntKind.i64 x1, Value.bool b7, Value.bool !b7, Value.tuple #[Value.slice p23 r24 r25, Value.bool b26], Value.pointer x0, Value.pointer (some a11), Value.pointer (some (Addr.add a11 6)), Value.pointer (some (Addr.add (Addr.add a11 6) 3)), Value.map p13, Value.int IntKind.i64 x1, Value.tuple #[Value.slice p23 r24 r25, Value.bool b26], Value.slice p23 r24 r25, Value.bool b26, v29, v30, v31, v32, v33, v34, v35, v36, v37, v38, v39, v40, v41, v42, v43, v44, v45, v53, v54, v55, v56, v57, v58, v59, v60, v61, v62, v63, Value.tuple #[Value.int IntKind.i64 n74, Value.int IntKind.i64 n75], Value.pointer x0, Value.pointer (some a67), Value.pointer (some (Addr.add a67 4)), Value.pointer p69, Value.int IntKind.i64 x1, Value.int IntKind.i64 x2, Value.slice x3a x3n x3c, Value.slice x4a x4n x4c, Value.tuple #[Value.int IntKind.i64 n74, Value.int IntKind.i64 n75], Value.int IntKind.i64 n74, Value.int IntKind.i64 n75, Value.int IntKind.i64 n75, Value.bool (n75 != 0), undef, Value.bool b130, v115, v116, v117, v118, v119, v120, v121, v122, v123, v124, v125, v126, v127, v128, v129, Value.pointer x0, Value.pointer (some a131), Value.pointer (some (Addr.add a131 6)), Value.pointer (some (Addr.add (Addr.add a131 6) 3)), Value.map p133, Value.int IntKind.i64 x1, Value.slice p64 r65 r66, undef, undef, undef, undef, undef, undef, undef] [Deferred.mk (Target.fn (Fn.func 69) #[]) #[Value.pointer (some a4)]])) R [] (raised u137 c) H138
| Ending.outgrown => False)) H114 (fun x139 H140 =>
  k112 H140))))) (sB b46 (nz x0 (fun a141 =>
  st H114 (Addr.add (Addr.add a141 6) 1) (Value.bool true) (fun H142 =>
  k112 H142))) (k112 H114)))) (fun k143 =>
  sB b46 (nz x0 (fun a144 =>
  ld H71 (Addr.add (Addr.add a144 6) 3) (fun v145 =>
  dMap v145 (fun p146 =>
  nz x0 (fun a147 =>
  ld H71 (Addr.add (Addr.add a147 6) 2) (fun v148 =>
  dInt IntKind.i64 v148 (fun n149 =>
  semW Tryz.prog (Builtin.len_ #[53] 3 #[Value.map p146]) nopR H71 (fun v152 H153 =>
  dInt IntKind.i64 v152 (fun n154 =>
  (ld H153 (Addr.add (Addr.add a147 6) 2) (fun v155 =>
  dInt IntKind.i64 v155 (fun n156 =>
  (Value.int IntKind.i64 n156) = (Value.int IntKind.i64 n149)))) ∧
  k143 (Value.bool (decide (n154 < n149))) H153))))))))) (k143 (Value.bool false) H71)))))))) (fun c157 H158 =>
  HCallsD Tryz.prog 69 #[Value.pointer (some a4)] (FrameMode.panicking c157) H158 (fun e159 u160 H161 =>
  match e159 with
| Ending.returned v => leavesV Tryz.prog Tryz.f25 (Act.tmps (Act.mk #[Value.pointer x0, Value.int IntKind.i64 x1, Value.int IntKind.i64 x2, Value.slice x3a x3n x3c, Value.slice x4a x4n x4c, undef, undef, undef, undef, undef, v49, v50, Value.slice p23 r24 r25, Value.bool b26, Value.bool b46, Value.slice p64 r65 r66, v51, v52, undef, undef, Value.pointer x0, Value.bool b3, Value.bool !b3, Value.pointer x0, Value.pointer (some a4), Value.pointer (some a4), Value.pointer x0, Value.int IntKind.i64 x1, Value.bool b7, Value.bool !b7, Value.tuple #[Value.slice p23 r24 r25, Value.bool b26], Value.pointer x0, Value.pointer (some a11), Value.pointer (some (Addr.add a11 6)), Value.pointer (some (Addr.add (Addr.add a11 6) 3)), Value.map p13, Value.int IntKind.i64 x1, Value.tuple #[Value.slice p23 r24 r25, Value.bool b26], Value.slice p23 r24 r25, Value.bool b26, v29, v30, v31, v32, v33, v34, v35, v36, v37, v38, v39, v40, v41, v42, v43, v44, v45, v53, v54, v55, v56, v57, v58, v59, v60, v61, v62, v63, undef, Value.pointer x0, Value.pointer (some a67), Value.pointer (some (Addr.add a67 4)), Value.pointer p69, Value.int IntKind.i64 x1, Value.int IntKind.i64 x2, Value.slice x3a x3n x3c, Value.slice x4a x4n x4c, undef, undef, undef, undef, undef, undef, undef, undef, undef, undef, undef, undef, undef, undef, undef, undef, undef, undef, undef, undef, undef, undef, undef, undef, undef, undef, undef, undef, undef, undef, undef, undef, undef, undef, undef, undef] [Deferred.mk (Target.fn (Fn.func 69) #[]) #[Value.pointer (some a4)]])) R [] (settle u160) H161
| Ending.panicked c => leavesV Tryz.prog Tryz.f25 (Act.tmps (Act.mk #[Value.pointer x0, Value.int IntKind.i64 x1, Value.int IntKind.i64 x2, Value.slice x3a x3n x3c, Value.slice x4a x4n x4c, undef, undef, undef, undef, undef, v49, v50, Value.slice p23 r24 r25, Value.bool b26, Value.bool b46, Value.slice p64 r65 r66, v51, v52, undef, undef, Value.pointer x0, Value.bool b3, Value.bool !b3, Value.pointer x0, Value.pointer (some a4), Value.pointer (some a4), Value.pointer x0, Value.int IntKind.i64 x1, Value.bool b7, Value.bool !b7, Value.tuple #[Value.slice p23 r24 r25, Value.bool b26], Value.pointer x0, Value.pointer (some a11), Value.pointer (some (Addr.add a11 6)), Value.pointer (some (Addr.add (Addr.add a11 6) 3)), Value.map p13, Value.int IntKind.i64 x1, Value.tuple #[Value.slice p23 r24 r25, Value.bool b26], Value.slice p23 r24 r25, Value.bool b26, v29, v30, v31, v32, v33, v34, v35, v36, v37, v38, v39, v40, v41, v42, v43, v44, v45, v53, v54, v55, v56, v57, v58, v59, v60, v61, v62, v63, undef, Value.pointer x0, Value.pointer (some a67), Value.pointer (some (Addr.add a67 4)), Value.pointer p69, Value.int IntKind.i64 x1, Value.int IntKind.i64 x2, Value.slice x3a x3n x3c, Value.slice x4a x4n x4c, undef, undef, undef, undef, undef, undef, undef, undef, undef, undef, undef, undef, undef, undef, undef, undef, undef, undef, undef, undef, undef, undef, undef, undef, undef, undef, undef, undef, undef, undef, undef, undef, undef, undef, undef, undef] [Deferred.mk (Target.fn (Fn.func 69) #[]) #[Value.pointer (some a4)]])) R [] (raised u160 c) H161
| Ending.outgrown => False)))))))) (fun k162 =>
  sB b46 (HCalls Tryz.prog 72 #[Value.pointer x0, Value.int IntKind.i64 x1] H28 (Sp.retK (fun v163 H164 =>
  dT 2 v163 (fun v165 v166 =>
  dSl v165 (fun p167 r168 r169 =>
  dInt IntKind.i64 v166 (fun n170 =>
  sB (n170 != 0) (HCallsD Tryz.prog 69 #[Value.pointer (some a4)] FrameMode.returning H164 (fun e171 u172 H173 =>
  match e171 with
| Ending.returned v => leavesV Tryz.prog Tryz.f25 (Act.tmps (Act.mk #[Value.pointer x0, Value.int IntKind.i64 x1, Value.int IntKind.i64 x2, Value.slice x3a x3n x3c, Value.slice x4a x4n x4c, undef, undef, undef, undef, undef, Value.int IntKind.i64 0, Value.int IntKind.i64 n170, Value.slice p23 r24 r25, Value.bool b26, Value.bool b46, Value.slice none 0 0, Value.slice p167 r168 r169, Value.int IntKind.i64 n170, undef, undef, Value.pointer x0, Value.bool b3, Value.bool !b3, Value.pointer x0, Value.pointer (some a4), Value.pointer (some a4), Value.pointer x0, Value.int IntKind.i64 x1, Value.bool b7, Value.bool !b7, Value.tuple #[Value.slice p23 r24 r25, Value.bool b26], Value.pointer x0, Value.pointer (some a11), Value.pointer (some (Addr.add a11 6)), Value.pointer (some (Addr.add (Addr.add a11 6) 3)), Value.map p13, Value.int IntKind.i64 x1, Value.tuple #[Value.slice p23 r24 r25, Value.bool b26], Value.slice p23 r24 r25, Value.bool b26, v29, v30, v31, v32, v33, v34, v35, v36, v37, v38, v39, v40, v41, v42, v43, v44, v45, Value.bool b46, Value.tuple #[Value.slice p167 r168 r169, Value.int IntKind.i64 n170], Value.pointer x0, Value.int IntKind.i64 x1, Value.tuple #[Value.slice p167 r168 r169, Value.int IntKind.i64 n170], Value.slice p167 r168 r169, Value.int IntKind.i64 n170, Value.int IntKind.i64 n170, Value.bool (n170 != 0), Value.int IntKind.i64 n170, undef, undef, undef, undef, undef, undef, undef, undef, undef, undef, undef, undef, undef, undef, undef, undef, undef, undef, undef, undef, undef, undef, undef, undef, undef, undef, undef, undef, undef, undef, undef, undef, undef, undef, undef, undef, undef, undef, undef, undef, undef, undef, undef, undef, undef, undef] [Deferred.mk (Target.fn (Fn.func 69) #[]) #[Value.pointer (some a4)]])) R [] (settle u172) H173
| Ending.panicked c => leavesV Tryz.prog Tryz.f25 (Act.tmps (Act.mk #[Value.pointer x0, Value.int IntKind.i64 x1, Value.int IntKind.i64 x2, Value.slice x3a x3n x3c, Value.slice x4a x4n x4c, undef, undef, undef, undef, undef, Value.int IntKind.i64 0, Value.int IntKind.i64 n170, Value.slice p23 r24 r25, Value.bool b26, Value.bool b46, Value.slice none 0 0, Value.slice p167 r168 r169, Value.int IntKind.i64 n170, undef, undef, Value.pointer x0, Value.bool b3, Value.bool !b3, Value.pointer x0, Value.pointer (some a4), Value.pointer (some a4), Value.pointer x0, Value.int IntKind.i64 x1, Value.bool b7, Value.bool !b7, Value.tuple #[Value.slice p23 r24 r25, Value.bool b26], Value.pointer x0, Value.pointer (some a11), Value.pointer (some (Addr.add a11 6)), Value.pointer (some (Addr.add (Addr.add a11 6) 3)), Value.map p13, Value.int IntKind.i64 x1, Value.tuple #[Value.slice p23 r24 r25, Value.bool b26], Value.slice p23 r24 r25, Value.bool b26, v29, v30, v31, v32, v33, v34, v35, v36, v37, v38, v39, v40, v41, v42, v43, v44, v45, Value.bool b46, Value.tuple #[Value.slice p167 r168 r169, Value.int IntKind.i64 n170], Value.pointer x0, Value.int IntKind.i64 x1, Value.tuple #[Value.slice p167 r168 r169, Value.int IntKind.i64 n170], Value.slice p167 r168 r169, Value.int IntKind.i64 n170, Value.int IntKind.i64 n170, Value.bool (n170 != 0), Value.int IntKind.i64 n170, undef, undef, undef, undef, undef, undef, undef, undef, undef, undef, undef, undef, undef, undef, undef, undef, undef, undef, undef, undef, undef, undef, undef, undef, undef, undef, undef, undef, undef, undef, undef, undef, undef, undef, undef, undef, undef, undef, undef, undef, undef, undef, undef, undef, undef, undef] [Deferred.mk (Target.fn (Fn.func 69) #[]) #[Value.pointer (some a4)]])) R [] (raised u172 c) H173
| Ending.outgrown => False)) (k162 (Value.slice p167 r168 r169) H164))))) (fun c174 H175 =>
  HCallsD Tryz.prog 69 #[Value.pointer (some a4)] (FrameMode.panicking c174) H175 (fun e176 u177 H178 =>
  match e176 with
| Ending.returned v => leavesV Tryz.prog Tryz.f25 (Act.tmps (Act.mk #[Value.pointer x0, Value.int IntKind.i64 x1, Value.int IntKind.i64 x2, Value.slice x3a x3n x3c, Value.slice x4a x4n x4c, undef, undef, undef, undef, undef, Value.int IntKind.i64 0, Value.int IntKind.i64 0, Value.slice p23 r24 r25, Value.bool b26, Value.bool b46, Value.slice none 0 0, undef, undef, undef, undef, Value.pointer x0, Value.bool b3, Value.bool !b3, Value.pointer x0, Value.pointer (some a4), Value.pointer (some a4), Value.pointer x0, Value.int IntKind.i64 x1, Value.bool b7, Value.bool !b7, Value.tuple #[Value.slice p23 r24 r25, Value.bool b26], Value.pointer x0, Value.pointer (some a11), Value.pointer (some (Addr.add a11 6)), Value.pointer (some (Addr.add (Addr.add a11 6) 3)), Value.map p13, Value.int IntKind.i64 x1, Value.tuple #[Value.slice p23 r24 r25, Value.bool b26], Value.slice p23 r24 r25, Value.bool b26, v29, v30, v31, v32, v33, v34, v35, v36, v37, v38, v39, v40, v41, v42, v43, v44, v45, Value.bool b46, undef, Value.pointer x0, Value.int IntKind.i64 x1, undef, undef, undef, undef, undef, undef, undef, undef, undef, undef, undef, undef, undef, undef, undef, undef, undef, undef, undef, undef, undef, undef, undef, undef, undef, undef, undef, undef, undef, undef, undef, undef, undef, undef, undef, undef, undef, undef, undef, undef, undef, undef, undef, undef, undef, undef, undef, undef, undef, undef, undef, undef] [Deferred.mk (Target.fn (Fn.func 69) #[]) #[Value.pointer (some a4)]])) R [] (settle u177) H178
| Ending.panicked c => leavesV Tryz.prog Tryz.f25 (Act.tmps (Act.mk #[Value.pointer x0, Value.int IntKind.i64 x1, Value.int IntKind.i64 x2, Value.slice x3a x3n x3c, Value.slice x4a x4n x4c, undef, undef, undef, undef, undef, Value.int IntKind.i64 0, Value.int IntKind.i64 0, Value.slice p23 r24 r25, Value.bool b26, Value.bool b46, Value.slice none 0 0, undef, undef, undef, undef, Value.pointer x0, Value.bool b3, Value.bool !b3, Value.pointer x0, Value.pointer (some a4), Value.pointer (some a4), Value.pointer x0, Value.int IntKind.i64 x1, Value.bool b7, Value.bool !b7, Value.tuple #[Value.slice p23 r24 r25, Value.bool b26], Value.pointer x0, Value.pointer (some a11), Value.pointer (some (Addr.add a11 6)), Value.pointer (some (Addr.add (Addr.add a11 6) 3)), Value.map p13, Value.int IntKind.i64 x1, Value.tuple #[Value.slice p23 r24 r25, Value.bool b26], Value.slice p23 r24 r25, Value.bool b26, v29, v30, v31, v32, v33, v34, v35, v36, v37, v38, v39, v40, v41, v42, v43, v44, v45, Value.bool b46, undef, Value.pointer x0, Value.int IntKind.i64 x1, undef, undef, undef, undef, undef, undef, undef, undef, undef, undef, undef, undef, undef, undef, undef, undef, undef, undef, undef, undef, undef, undef, undef, undef, undef, undef, undef, undef, undef, undef, undef, undef, undef, undef, undef, undef, undef, undef, undef, undef, undef, undef, undef, undef, undef, undef, undef, undef, undef, undef, undef, undef] [Deferred.mk (Target.fn (Fn.func 69) #[]) #[Value.pointer (some a4)]])) R [] (raised u177 c) H178
| Ending.outgrown => False)))) (k162 (Value.slice none 0 0) H28)))) (fun k179 =>
  nz x0 (fun a180 =>
  ld H20 (Addr.add a180 6) (fun v181 =>
  dBl v181 (fun b182 =>
  sB b182 (nz x0 (fun a183 =>
  ld H20 (Addr.add (Addr.add a183 6) 1) (fun v184 =>
  dBl v184 (fun b185 =>
  sB (!b185) (k179 (Value.bool !b26) H20) (k179 (Value.bool false) H20))))) (k179 (Value.bool false) H20))))))))))))))) (fun c186 H187 =>
  HCallsD Tryz.prog 69 #[Value.pointer (some a4)] (FrameMode.panicking c186) H187 (fun e188 u189 H190 =>
  match e188 with
| Ending.returned v => leavesV Tryz.prog Tryz.f25 (Act.tmps (Act.mk #[Value.pointer x0, Value.int IntKind.i64 x1, Value.int IntKind.i64 x2, Value.slice x3a x3n x3c, Value.slice x4a x4n x4c, undef, undef, undef, undef, undef, Value.int IntKind.i64 0, Value.int IntKind.i64 0, undef, undef, undef, undef, undef, undef, undef, undef, Value.pointer x0, Value.bool b3, Value.bool !b3, Value.pointer x0, Value.pointer (some a4), Value.pointer (some a4), Value.pointer x0, Value.int IntKind.i64 x1, undef, undef, undef, undef, undef, undef, undef, undef, undef, undef, undef, undef, undef, undef, undef, undef, undef, undef, undef, undef, undef, undef, undef, undef, undef, undef, undef, undef, undef, undef, undef, undef, undef, undef, undef, undef, undef, undef, undef, undef, undef, undef, undef, undef, undef, undef, undef, undef, undef, undef, undef, undef, undef, undef, undef, undef, undef, undef, undef, undef, undef, undef, undef, undef, undef, undef, undef, undef, undef, undef, undef, undef, undef, undef, undef, undef, undef, undef, undef, undef, undef, undef, undef, undef, undef] [Deferred.mk (Target.fn (Fn.func 69) #[]) #[Value.pointer (some a4)]])) R [] (settle u189) H190
| Ending.panicked c => leavesV Tryz.prog Tryz.f25 (Act.tmps (Act.mk #[Value.pointer x0, Value.int IntKind.i64 x1, Value.int IntKind.i64 x2, Value.slice x3a x3n x3c, Value.slice x4a x4n x4c, undef, undef, undef, undef, undef, Value.int IntKind.i64 0, Value.int IntKind.i64 0, undef, undef, undef, undef, undef, undef, undef, undef, Value.pointer x0, Value.bool b3, Value.bool !b3, Value.pointer x0, Value.pointer (some a4), Value.pointer (some a4), Value.pointer x0, Value.int IntKind.i64 x1, undef, undef, undef, undef, undef, undef, undef, undef, undef, undef, undef, undef, undef, undef, undef, undef, undef, undef, undef, undef, undef, undef, undef, undef, undef, undef, undef, undef, undef, undef, undef, undef, undef, undef, undef, undef, undef, undef, undef, undef, undef, undef, undef, undef, undef, undef, undef, undef, undef, undef, undef, undef, undef, undef, undef, undef, undef, undef, undef, undef, undef, undef, undef, undef, undef, undef, undef, undef, undef, undef, undef, undef, undef, undef, undef, undef, undef, undef, undef, undef, undef, undef, undef, undef, undef] [Deferred.mk (Target.fn (Fn.func 69) #[]) #[Value.pointer (some a4)]])) R [] (raised u189 c) H190
| Ending.outgrown => False))))))) (pnR R))
theorem F25_eq (x0 : Option Addr) (x1 : Int) (x2 : Int) (x3a : Option Addr) (x3n : Nat) (x3c : Nat) (x4a : Option Addr) (x4n : Nat) (x4c : Nat) (R : Ending → Heap → Prop) (H : Heap) : F25 x0 x1 x2 x3a x3n x3c x4a x4n x4c R H = vc Tryz.prog (codeOf Tryz.f25) (.node none .leaf (.node none .leaf (.node none .leaf (.node none .leaf (.node none .leaf (.node (some ⟨[(14, 4)], [40, 41, 42, 43, 44, 45, 46, 47, 48, 49, 50, 51, 52, 53, 54, 55, 56]⟩) .leaf (.node none .leaf (.node (some ⟨[(15, 38)], [10, 11, 16, 17, 57, 58, 59, 60, 61, 62, 63, 64, 65, 66, 67]⟩) .leaf (.node none .leaf (.node none .leaf (.node (some ⟨[], [83, 84, 85, 86, 87, 88, 89, 90, 91, 92, 93, 94, 95, 96, 97, 98, 99, 100, 101, 102, 103, 104, 105, 106, 107, 108, 109, 110, 111]⟩) (.node none (.node (some ⟨[(83, 4)], [84, 85, 86, 87, 88, 89, 90, 91, 92, 93, 94, 95, 96, 97, 98]⟩) .leaf .leaf) .leaf) .leaf))))))))))) (postV Tryz.prog Tryz.f25 R) ⟨#[Value.pointer x0, Value.int IntKind.i64 x1, Value.int IntKind.i64 x2, Value.slice x3a x3n x3c, Value.slice x4a x4n x4c] ++ Array.replicate (Tryz.f25.ntmps - 5) undef, []⟩ H := by kernel_rfl
theorem F25_calls {R : Ending → Heap → Prop} {H : Heap} (x0 : Option Addr) (x1 : Int) (x2 : Int) (x3a : Option Addr) (x3n : Nat) (x3c : Nat) (x4a : Option Addr) (x4n : Nat) (x4c : Nat) (h : F25 x0 x1 x2 x3a x3n x3c x4a x4n x4c R H) : HCalls Tryz.prog 25 #[Value.pointer x0, Value.int IntKind.i64 x1, Value.int IntKind.i64 x2, Value.slice x3a x3n x3c, Value.slice x4a x4n x4c] H R :=
  calls_by (F := F25 x0 x1 x2 x3a x3n x3c x4a x4n x4c R H) (.node none .leaf (.node none .leaf (.node none .leaf (.node none .leaf (.node none .leaf (.node (some ⟨[(14, 4)], [40, 41, 42, 43, 44, 45, 46, 47, 48, 49, 50, 51, 52, 53, 54, 55, 56]⟩) .leaf (.node none .leaf (.node (some ⟨[(15, 38)], [10, 11, 16, 17, 57, 58, 59, 60, 61, 62, 63, 64, 65, 66, 67]⟩) .leaf (.node none .leaf (.node none .leaf (.node (some ⟨[], [83, 84, 85, 86, 87, 88, 89, 90, 91, 92, 93, 94, 95, 96, 97, 98, 99, 100, 101, 102, 103, 104, 105, 106, 107, 108, 109, 110, 111]⟩) (.node none (.node (some ⟨[(83, 4)], [84, 85, 86, 87, 88, 89, 90, 91, 92, 93, 94, 95, 96, 97, 98]⟩) .leaf .leaf) .leaf) .leaf))))))))))) Tryz.func25 rfl (F25_eq x0 x1 x2 x3a x3n x3c x4a x4n x4c R H) h
/-- (*bollard/volume.Volume).Read -/
def F26 (x0 : Option Addr) (x1 : Int) (R : Ending → Heap → Prop) (H : Heap) : Prop :=
  HCalls Tryz.prog 68 #[Value.pointer x0] H (Sp.retK (fun v1 H2 =>
  dBl v1 (fun b3 =>
  sB (!b3) (R (Ending.returned (Value.tuple #[Value.slice none 0 0, Value.int IntKind.i64 2])) H2) (nz x0 (fun a4 =>
  HCalls Tryz.prog 72 #[Value.pointer x0, Value.int IntKind.i64 x1] H2 (Sp.retK (fun v5 H6 =>
  dT 2 v5 (fun v7 v8 =>
  dSl v7 (fun p9 r10 r11 =>
  dInt IntKind.i64 v8 (fun n12 =>
  HCallsD Tryz.prog 69 #[Value.pointer (some a4)] FrameMode.returning H6 (fun e13 u14 H15 =>
  match e13 with
| Ending.returned v => leavesV Tryz.prog Tryz.f26 (Act.tmps (Act.mk #[Value.pointer x0, Value.int IntKind.i64 x1, undef, undef, Value.slice p9 r10 r11, Value.int IntKind.i64 n12, Value.pointer x0, Value.bool b3, Value.bool !b3, Value.pointer x0, Value.pointer (some a4), Value.pointer (some a4), Value.pointer x0, Value.int IntKind.i64 x1, Value.tuple #[Value.slice p9 r10 r11, Value.int IntKind.i64 n12], Value.slice p9 r10 r11, Value.int IntKind.i64 n12] [Deferred.mk (Target.fn (Fn.func 69) #[]) #[Value.pointer (some a4)]])) R [] (settle u14) H15
| Ending.panicked c => leavesV Tryz.prog Tryz.f26 (Act.tmps (Act.mk #[Value.pointer x0, Value.int IntKind.i64 x1, undef, undef, Value.slice p9 r10 r11, Value.int IntKind.i64 n12, Value.pointer x0, Value.bool b3, Value.bool !b3, Value.pointer x0, Value.pointer (some a4), Value.pointer (some a4), Value.pointer x0, Value.int IntKind.i64 x1, Value.tuple #[Value.slice p9 r10 r11, Value.int IntKind.i64 n12], Value.slice p9 r10 r11, Value.int IntKind.i64 n12] [Deferred.mk (Target.fn (Fn.func 69) #[]) #[Value.pointer (some a4)]])) R [] (raised u14 c) H15
| Ending.outgrown => False))))) (fun c16 H17 =>
  HCallsD Tryz.prog 69 #[Value.pointer (some a4)] (FrameMode.panicking c16) H17 (fun e18 u19 H20 =>
  match e18 with
| Ending.returned v => leavesV Tryz.prog Tryz.f26 (Act.tmps (Act.mk #[Value.pointer x0, Value.int IntKind.i64 x1, undef, undef, Value.slice none 0 0, Value.int IntKind.i64 0, Value.pointer x0, Value.bool b3, Value.bool !b3, Value.pointer x0, Value.pointer (some a4), Value.pointer (some a4), Value.pointer x0, Value.int IntKind.i64 x1, undef, undef, undef] [Deferred.mk (Target.fn (Fn.func 69) #[]) #[Value.pointer (some a4)]])) R [] (settle u19) H20
| Ending.panicked c => leavesV Tryz.prog Tryz.f26 (Act.tmps (Act.mk #[Value.pointer x0, Value.int IntKind.i64 x1, undef, undef, Value.slice none 0 0, Value.int IntKind.i64 0, Value.pointer x0, Value.bool b3, Value.bool !b3, Value.pointer x0, Value.pointer (some a4), Value.pointer (some a4), Value.pointer x0, Value.int IntKind.i64 x1, undef, undef, undef] [Deferred.mk (Target.fn (Fn.func 69) #[]) #[Value.pointer (some a4)]])) R [] (raised u19 c) H20
| Ending.outgrown => False))))))) (pnR R))
theorem F26_eq (x0 : Option Addr) (x1 : Int) (R : Ending → Heap → Prop) (H : Heap) : F26 x0 x1 R H = vc Tryz.prog (codeOf Tryz.f26) .leaf (postV Tryz.prog Tryz.f26 R) ⟨#[Value.pointer x0, Value.int IntKind.i64 x1] ++ Array.replicate (Tryz.f26.ntmps - 2) undef, []⟩ H := by kernel_rfl
theorem F26_calls {R : Ending → Heap → Prop} {H : Heap} (x0 : Option Addr) (x1 : Int) (h : F26 x0 x1 R H) : HCalls Tryz.prog 26 #[Value.pointer x0, Value.int IntKind.i64 x1] H R :=
  calls_by (F := F26 x0 x1 R H) .leaf Tryz.func26 rfl (F26_eq x0 x1 R H) h
end Go.Proofs.YtngploohhmfaiaaGreat.E
/- The functions' forms in the engine's words, printed by my own program. -/
namespace Go.Proofs.YtngploohhmfaiaaGreat.E
open Go Go.Proofs
set_option linter.unusedVariables false
/-- bollard/volume.Open -/
def F31 (x0 : Option Addr) (x1 : Int) (R : Ending → Heap → Prop) (H : Heap) : Prop :=
  HCalls Tryz.prog 81 #[Value.pointer x0, Value.int IntKind.i64 x1] H (Sp.retK (fun v1 H2 =>
  dT 2 v1 (fun v3 v4 =>
  dPtr v3 (fun p5 =>
  dInt IntKind.i64 v4 (fun n6 =>
  sB (n6 != 0) (R (Ending.returned (Value.tuple #[Value.pointer none, Value.int IntKind.i64 n6])) H2) (HCalls Tryz.prog 82 #[] H2 (Sp.retK (fun v7 H8 =>
  dPtr v7 (fun p9 =>
  al H8 (Obj.map #[] 0) (fun r10 H11 =>
  al H11 (Obj.cells #[Value.int IntKind.i32 0, Value.int IntKind.u32 0, Value.pointer x0, Value.pointer p5, Value.pointer p9, Value.map (some r10), Value.bool false, Value.bool false, Value.int IntKind.i64 0, Value.map none] 57) (fun r12 H13 =>
  R (Ending.returned (Value.tuple #[Value.pointer (some (Addr.mk r12 0 none)), Value.int IntKind.i64 0])) H13)))) (pnR R))))))) (pnR R))
theorem F31_eq (x0 : Option Addr) (x1 : Int) (R : Ending → Heap → Prop) (H : Heap) : F31 x0 x1 R H = vc Tryz.prog (codeOf Tryz.f31) .leaf (postV Tryz.prog Tryz.f31 R) ⟨#[Value.pointer x0, Value.int IntKind.i64 x1] ++ Array.replicate (Tryz.f31.ntmps - 2) undef, []⟩ H := by kernel_rfl
theorem F31_calls {R : Ending → Heap → Prop} {H : Heap} (x0 : Option Addr) (x1 : Int) (h : F31 x0 x1 R H) : HCalls Tryz.prog 31 #[Value.pointer x0, Value.int IntKind.i64 x1] H R :=
  calls_by (F := F31 x0 x1 R H) .leaf Tryz.func31 rfl (F31_eq x0 x1 R H) h
/-- (*bollard/volume.Volume).Ready -/
def F32 (x0 : Option Addr) (R : Ending → Heap → Prop) (H : Heap) : Prop :=
  HCalls Tryz.prog 68 #[Value.pointer x0] H (Sp.retK (fun v1 H2 =>
  dBl v1 (fun b3 =>
  sB (!b3) (R (Ending.returned (Value.slice none 0 0)) H2) (nz x0 (fun a4 =>
  HCalls Tryz.prog 83 #[Value.pointer x0] H2 (Sp.retK (fun v5 H6 =>
  dSl v5 (fun p7 r8 r9 =>
  HCallsD Tryz.prog 69 #[Value.pointer (some a4)] FrameMode.returning H6 (fun e10 u11 H12 =>
  match e10 with
| Ending.returned v => leavesV Tryz.prog Tryz.f32 (Act.tmps (Act.mk #[Value.pointer x0, undef, Value.slice p7 r8 r9, Value.pointer x0, Value.bool b3, Value.bool !b3, Value.pointer x0, Value.pointer (some a4), Value.pointer (some a4), Value.pointer x0, Value.slice p7 r8 r9] [Deferred.mk (Target.fn (Fn.func 69) #[]) #[Value.pointer (some a4)]])) R [] (settle u11) H12
| Ending.panicked c => leavesV Tryz.prog Tryz.f32 (Act.tmps (Act.mk #[Value.pointer x0, undef, Value.slice p7 r8 r9, Value.pointer x0, Value.bool b3, Value.bool !b3, Value.pointer x0, Value.pointer (some a4), Value.pointer (some a4), Value.pointer x0, Value.slice p7 r8 r9] [Deferred.mk (Target.fn (Fn.func 69) #[]) #[Value.pointer (some a4)]])) R [] (raised u11 c) H12
| Ending.outgrown => False))) (fun c13 H14 =>
  HCallsD Tryz.prog 69 #[Value.pointer (some a4)] (FrameMode.panicking c13) H14 (fun e15 u16 H17 =>
  match e15 with
| Ending.returned v => leavesV Tryz.prog Tryz.f32 (Act.tmps (Act.mk #[Value.pointer x0, undef, Value.slice none 0 0, Value.pointer x0, Value.bool b3, Value.bool !b3, Value.pointer x0, Value.pointer (some a4), Value.pointer (some a4), Value.pointer x0, undef] [Deferred.mk (Target.fn (Fn.func 69) #[]) #[Value.pointer (some a4)]])) R [] (settle u16) H17
| Ending.panicked c => leavesV Tryz.prog Tryz.f32 (Act.tmps (Act.mk #[Value.pointer x0, undef, Value.slice none 0 0, Value.pointer x0, Value.bool b3, Value.bool !b3, Value.pointer x0, Value.pointer (some a4), Value.pointer (some a4), Value.pointer x0, undef] [Deferred.mk (Target.fn (Fn.func 69) #[]) #[Value.pointer (some a4)]])) R [] (raised u16 c) H17
| Ending.outgrown => False))))))) (pnR R))
theorem F32_eq (x0 : Option Addr) (R : Ending → Heap → Prop) (H : Heap) : F32 x0 R H = vc Tryz.prog (codeOf Tryz.f32) .leaf (postV Tryz.prog Tryz.f32 R) ⟨#[Value.pointer x0] ++ Array.replicate (Tryz.f32.ntmps - 1) undef, []⟩ H := by kernel_rfl
theorem F32_calls {R : Ending → Heap → Prop} {H : Heap} (x0 : Option Addr) (h : F32 x0 R H) : HCalls Tryz.prog 32 #[Value.pointer x0] H R :=
  calls_by (F := F32 x0 R H) .leaf Tryz.func32 rfl (F32_eq x0 R H) h
/-- (*bollard/volume.Volume).Write -/
def F33 (x0 : Option Addr) (x1 : Int) (R : Ending → Heap → Prop) (H : Heap) : Prop :=
  HCalls Tryz.prog 68 #[Value.pointer x0] H (Sp.retK (fun v1 H2 =>
  dBl v1 (fun b3 =>
  sB (!b3) (R (Ending.returned (Value.int IntKind.i64 2)) H2) (nz x0 (fun a4 =>
  HCalls Tryz.prog 84 #[Value.pointer x0, Value.int IntKind.i64 x1] H2 (Sp.retK (fun v5 H6 =>
  dInt IntKind.i64 v5 (fun n7 =>
  HCallsD Tryz.prog 69 #[Value.pointer (some a4)] FrameMode.returning H6 (fun e8 u9 H10 =>
  match e8 with
| Ending.returned v => leavesV Tryz.prog Tryz.f33 (Act.tmps (Act.mk #[Value.pointer x0, Value.int IntKind.i64 x1, undef, undef, Value.int IntKind.i64 n7, Value.pointer x0, Value.bool b3, Value.bool !b3, Value.pointer x0, Value.pointer (some a4), Value.pointer (some a4), Value.pointer x0, Value.int IntKind.i64 x1, Value.int IntKind.i64 n7] [Deferred.mk (Target.fn (Fn.func 69) #[]) #[Value.pointer (some a4)]])) R [] (settle u9) H10
| Ending.panicked c => leavesV Tryz.prog Tryz.f33 (Act.tmps (Act.mk #[Value.pointer x0, Value.int IntKind.i64 x1, undef, undef, Value.int IntKind.i64 n7, Value.pointer x0, Value.bool b3, Value.bool !b3, Value.pointer x0, Value.pointer (some a4), Value.pointer (some a4), Value.pointer x0, Value.int IntKind.i64 x1, Value.int IntKind.i64 n7] [Deferred.mk (Target.fn (Fn.func 69) #[]) #[Value.pointer (some a4)]])) R [] (raised u9 c) H10
| Ending.outgrown => False))) (fun c11 H12 =>
  HCallsD Tryz.prog 69 #[Value.pointer (some a4)] (FrameMode.panicking c11) H12 (fun e13 u14 H15 =>
  match e13 with
| Ending.returned v => leavesV Tryz.prog Tryz.f33 (Act.tmps (Act.mk #[Value.pointer x0, Value.int IntKind.i64 x1, undef, undef, Value.int IntKind.i64 0, Value.pointer x0, Value.bool b3, Value.bool !b3, Value.pointer x0, Value.pointer (some a4), Value.pointer (some a4), Value.pointer x0, Value.int IntKind.i64 x1, undef] [Deferred.mk (Target.fn (Fn.func 69) #[]) #[Value.pointer (some a4)]])) R [] (settle u14) H15
| Ending.panicked c => leavesV Tryz.prog Tryz.f33 (Act.tmps (Act.mk #[Value.pointer x0, Value.int IntKind.i64 x1, undef, undef, Value.int IntKind.i64 0, Value.pointer x0, Value.bool b3, Value.bool !b3, Value.pointer x0, Value.pointer (some a4), Value.pointer (some a4), Value.pointer x0, Value.int IntKind.i64 x1, undef] [Deferred.mk (Target.fn (Fn.func 69) #[]) #[Value.pointer (some a4)]])) R [] (raised u14 c) H15
| Ending.outgrown => False))))))) (pnR R))
theorem F33_eq (x0 : Option Addr) (x1 : Int) (R : Ending → Heap → Prop) (H : Heap) : F33 x0 x1 R H = vc Tryz.prog (codeOf Tryz.f33) .leaf (postV Tryz.prog Tryz.f33 R) ⟨#[Value.pointer x0, Value.int IntKind.i64 x1] ++ Array.replicate (Tryz.f33.ntmps - 2) undef, []⟩ H := by kernel_rfl
theorem F33_calls {R : Ending → Heap → Prop} {H : Heap} (x0 : Option Addr) (x1 : Int) (h : F33 x0 x1 R H) : HCalls Tryz.prog 33 #[Value.pointer x0, Value.int IntKind.i64 x1] H R :=
  calls_by (F := F33 x0 x1 R H) .leaf Tryz.func33 rfl (F33_eq x0 x1 R H) h
/-- (*bollard/volume.Volume).Way -/
def F34 (x0 : Option Addr) (R : Ending → Heap → Prop) (H : Heap) : Prop :=
  HCalls Tryz.prog 68 #[Value.pointer x0] H (Sp.retK (fun v1 H2 =>
  dBl v1 (fun b3 =>
  sB (!b3) (R (Ending.returned (Value.slice none 0 0)) H2) (nz x0 (fun a4 =>
  nz x0 (fun a5 =>
  ld H2 (Addr.add a5 2) (fun v6 =>
  dPtr v6 (fun p7 =>
  HCalls Tryz.prog 36 #[Value.pointer p7] H2 (Sp.retK (fun v8 H9 =>
  dSl v8 (fun p10 r11 r12 =>
  ∃ I13 : List Value → Heap → Prop,
  ∃ I14 : List Value → Heap → Nat,
  (I13 ([Value.slice none 0 0, Value.int IntKind.i64 0]) H9) ∧
  ∀ p15 : Option Addr,
  ∀ r16 : Nat,
  ∀ r17 : Nat,
  ∀ n18 : Int,
  ∀ v19 v20 v21 v22 v23 v24 v25 v26 v27 v28 v29 v30 v31 v32 v33 v34 v35 v36 v37 v38 v39 v40 v41 : Value,
  ∀ H42 : Heap,
  (I13 ([Value.slice p15 r16 r17, Value.int IntKind.i64 n18]) H42) →
  sB (decide (n18 < (↑r11 : Int))) (jn (α := VFH 1) (fun v44 H45 =>
  ∀ v46 v47 v48 v49 v50 v51 v52 v53 v54 v55 v56 v57 v58 v59 v60 v61 v62 v63 v64 v65 v66 : Value,
  dSl v44 (fun p67 r68 r69 =>
  wr IntKind.i64 (n18 + 1) (fun n70 =>
  (I13 ([Value.slice p67 r68 r69, Value.int IntKind.i64 n70]) H45) ∧
  (I14 [Value.slice p67 r68 r69, Value.int IntKind.i64 n70] H45) < (I14 [Value.slice p15 r16 r17, Value.int IntKind.i64 n18] H42)))) (fun k71 =>
  nz p10 (fun a72 =>
  ask ((0 : Int) ≤ n18 ∧ n18 < (↑r11 : Int)) (ld H42 (Addr.add a72 (Int.toNat n18 * 3)) (fun v73 =>
  ld H42 (Addr.add (Addr.add a72 (Int.toNat n18 * 3)) 1) (fun v74 =>
  ld H42 (Addr.add (Addr.add a72 (Int.toNat n18 * 3)) 2) (fun v75 =>
  al H42 (Obj.cells #[Value.int IntKind.i64 0, Value.int IntKind.i64 0, Value.slice none 0 0] 96) (fun r76 H77 =>
  st H77 (Addr.mk r76 0 none) v73 (fun H78 =>
  st H78 (Addr.mk r76 1 none) v74 (fun H79 =>
  st H79 (Addr.mk r76 2 none) v75 (fun H80 =>
  nz x0 (fun a81 =>
  ld H80 (Addr.add a81 5) (fun v82 =>
  dMap v82 (fun p83 =>
  ld H80 (Addr.mk r76 0 none) (fun v84 =>
  dInt IntKind.i64 v84 (fun n85 =>
  (semW Tryz.prog (Instr.lookup 52 (Value.map p83) (Value.int IntKind.i64 n85) true) nopR H80 (fun v88 H89 =>
  dT 2 v88 (fun v90 v91 =>
  dA 3 v90 (fun v92 v93 v94 =>
  dBl v91 (fun b95 =>
  al H89 (Obj.cells #[Value.int IntKind.i64 0, Value.slice none 0 0, Value.slice none 0 0] 153) (fun r96 H97 =>
  st H97 (Addr.mk r96 0 none) v92 (fun H98 =>
  st H98 (Addr.mk r96 1 none) v93 (fun H99 =>
  st H99 (Addr.mk r96 2 none) v94 (fun H100 =>
  sB b95 (ld H100 (Addr.mk r76 1 none) (fun v101 =>
  dInt IntKind.i64 v101 (fun n102 =>
  al H100 (Obj.cells #[Value.int IntKind.i64 n102] 3) (fun r103 H104 =>
  semW Tryz.prog (Builtin.append_ #[73, 73] 73 #[Value.slice p15 r16 r17, Value.slice (some (Addr.mk r103 0 none)) 1 1]) (fun c105 H106 =>
  HCallsD Tryz.prog 69 #[Value.pointer (some a4)] (FrameMode.panicking c105) H106 (fun e107 u108 H109 =>
  match e107 with
| Ending.returned v => leavesV Tryz.prog Tryz.f34 (Act.tmps (Act.mk #[Value.pointer x0, undef, Value.slice none 0 0, Value.slice p15 r16 r17, undef, Value.pointer (some (Addr.mk r76 0 none)), Value.pointer (some (Addr.mk r96 0 none)), Value.bool b95, Value.pointer x0, Value.bool b3, Value.bool !b3, Value.pointer x0, Value.pointer (some a4), Value.pointer (some a4), Value.pointer x0, Value.pointer (some a5), Value.pointer (some (Addr.add a5 2)), Value.pointer p7, Value.slice p10 r11 r12, Value.int IntKind.i64 (↑r11 : Int), Value.int IntKind.i64 n18, Value.bool (decide (n18 < (↑r11 : Int))), Value.pointer (some (Addr.add a72 (Int.toNat n18 * 3))), Value.agg #[v73, v74, v75], Value.tuple #[Value.agg #[v92, v93, v94], Value.bool b95], Value.pointer x0, Value.pointer (some a81), Value.pointer (some (Addr.add a81 5)), Value.map p83, Value.pointer (some (Addr.mk r76 0 none)), Value.int IntKind.i64 n85, Value.tuple #[Value.agg #[v92, v93, v94], Value.bool b95], Value.agg #[v92, v93, v94], Value.bool b95, Value.bool b95, Value.slice p15 r16 r17, Value.pointer (some (Addr.mk r76 1 none)), Value.int IntKind.i64 n102, Value.slice (some (Addr.mk r103 0 none)) 1 1, v40, v41, undef] [Deferred.mk (Target.fn (Fn.func 69) #[]) #[Value.pointer (some a4)]])) R [] (settle u108) H109
| Ending.panicked c => leavesV Tryz.prog Tryz.f34 (Act.tmps (Act.mk #[Value.pointer x0, undef, Value.slice none 0 0, Value.slice p15 r16 r17, undef, Value.pointer (some (Addr.mk r76 0 none)), Value.pointer (some (Addr.mk r96 0 none)), Value.bool b95, Value.pointer x0, Value.bool b3, Value.bool !b3, Value.pointer x0, Value.pointer (some a4), Value.pointer (some a4), Value.pointer x0, Value.pointer (some a5), Value.pointer (some (Addr.add a5 2)), Value.pointer p7, Value.slice p10 r11 r12, Value.int IntKind.i64 (↑r11 : Int), Value.int IntKind.i64 n18, Value.bool (decide (n18 < (↑r11 : Int))), Value.pointer (some (Addr.add a72 (Int.toNat n18 * 3))), Value.agg #[v73, v74, v75], Value.tuple #[Value.agg #[v92, v93, v94], Value.bool b95], Value.pointer x0, Value.pointer (some a81), Value.pointer (some (Addr.add a81 5)), Value.map p83, Value.pointer (some (Addr.mk r76 0 none)), Value.int IntKind.i64 n85, Value.tuple #[Value.agg #[v92, v93, v94], Value.bool b95], Value.agg #[v92, v93, v94], Value.bool b95, Value.bool b95, Value.slice p15 r16 r17, Value.pointer (some (Addr.mk r76 1 none)), Value.int IntKind.i64 n102, Value.slice (some (Addr.mk r103 0 none)) 1 1, v40, v41, undef] [Deferred.mk (Target.fn (Fn.func 69) #[]) #[Value.pointer (some a4)]])) R [] (raised u108 c) H109
| Ending.outgrown => False)) H104 (fun v110 H111 =>
  dSl v110 (fun p112 r113 r114 =>
  k71 (Value.slice p112 r113 r114) H111)))))) (k71 (Value.slice p15 r16 r17) H100)))))))))) ∧
  al H80 (Obj.cells #[Value.int IntKind.i64 0, Value.slice none 0 0, Value.slice none 0 0] 153) (fun r115 H116 =>
  (ld H116 (Addr.mk r76 0 none) (fun v117 =>
  dInt IntKind.i64 v117 (fun n118 =>
  (Value.int IntKind.i64 n118) = (Value.int IntKind.i64 n85)))) ∧
  (ld H116 (Addr.add a81 5) (fun v119 =>
  dMap v119 (fun p120 =>
  (Value.map p120) = (Value.map p83)))) ∧
  semW Tryz.prog (Instr.lookup 52 (Value.map p83) (Value.int IntKind.i64 n85) true) nopR H116 (fun v123 H124 =>
  dT 2 v123 (fun v125 v126 =>
  dA 3 v125 (fun v127 v128 v129 =>
  dBl v126 (fun b130 =>
  st H124 (Addr.mk r115 0 none) v127 (fun H131 =>
  st H131 (Addr.mk r115 1 none) v128 (fun H132 =>
  st H132 (Addr.mk r115 2 none) v129 (fun H133 =>
  sB b130 (ld H133 (Addr.mk r76 1 none) (fun v134 =>
  dInt IntKind.i64 v134 (fun n135 =>
  al H133 (Obj.cells #[Value.int IntKind.i64 n135] 3) (fun r136 H137 =>
  semW Tryz.prog (Builtin.append_ #[73, 73] 73 #[Value.slice p15 r16 r17, Value.slice (some (Addr.mk r136 0 none)) 1 1]) (fun c138 H139 =>
  HCallsD Tryz.prog 69 #[Value.pointer (some a4)] (FrameMode.panicking c138) H139 (fun e140 u141 H142 =>
  match e140 with
| Ending.returned v => leavesV Tryz.prog Tryz.f34 (Act.tmps (Act.mk #[Value.pointer x0, undef, Value.slice none 0 0, Value.slice p15 r16 r17, undef, Value.pointer (some (Addr.mk r76 0 none)), Value.pointer (some (Addr.mk r115 0 none)), Value.bool b130, Value.pointer x0, Value.bool b3, Value.bool !b3, Value.pointer x0, Value.pointer (some a4), Value.pointer (some a4), Value.pointer x0, Value.pointer (some a5), Value.pointer (some (Addr.add a5 2)), Value.pointer p7, Value.slice p10 r11 r12, Value.int IntKind.i64 (↑r11 : Int), Value.int IntKind.i64 n18, Value.bool (decide (n18 < (↑r11 : Int))), Value.pointer (some (Addr.add a72 (Int.toNat n18 * 3))), Value.agg #[v73, v74, v75], Value.tuple #[Value.agg #[v127, v128, v129], Value.bool b130], Value.pointer x0, Value.pointer (some a81), Value.pointer (some (Addr.add a81 5)), Value.map p83, Value.pointer (some (Addr.mk r76 0 none)), Value.int IntKind.i64 n85, Value.tuple #[Value.agg #[v127, v128, v129], Value.bool b130], Value.agg #[v127, v128, v129], Value.bool b130, Value.bool b130, Value.slice p15 r16 r17, Value.pointer (some (Addr.mk r76 1 none)), Value.int IntKind.i64 n135, Value.slice (some (Addr.mk r136 0 none)) 1 1, v40, v41, undef] [Deferred.mk (Target.fn (Fn.func 69) #[]) #[Value.pointer (some a4)]])) R [] (settle u141) H142
| Ending.panicked c => leavesV Tryz.prog Tryz.f34 (Act.tmps (Act.mk #[Value.pointer x0, undef, Value.slice none 0 0, Value.slice p15 r16 r17, undef, Value.pointer (some (Addr.mk r76 0 none)), Value.pointer (some (Addr.mk r115 0 none)), Value.bool b130, Value.pointer x0, Value.bool b3, Value.bool !b3, Value.pointer x0, Value.pointer (some a4), Value.pointer (some a4), Value.pointer x0, Value.pointer (some a5), Value.pointer (some (Addr.add a5 2)), Value.pointer p7, Value.slice p10 r11 r12, Value.int IntKind.i64 (↑r11 : Int), Value.int IntKind.i64 n18, Value.bool (decide (n18 < (↑r11 : Int))), Value.pointer (some (Addr.add a72 (Int.toNat n18 * 3))), Value.agg #[v73, v74, v75], Value.tuple #[Value.agg #[v127, v128, v129], Value.bool b130], Value.pointer x0, Value.pointer (some a81), Value.pointer (some (Addr.add a81 5)), Value.map p83, Value.pointer (some (Addr.mk r76 0 none)), Value.int IntKind.i64 n85, Value.tuple #[Value.agg #[v127, v128, v129], Value.bool b130], Value.agg #[v127, v128, v129], Value.bool b130, Value.bool b130, Value.slice p15 r16 r17, Value.pointer (some (Addr.mk r76 1 none)), Value.int IntKind.i64 n135, Value.slice (some (Addr.mk r136 0 none)) 1 1, v40, v41, undef] [Deferred.mk (Target.fn (Fn.func 69) #[]) #[Value.pointer (some a4)]])) R [] (raised u141 c) H142
| Ending.outgrown => False)) H137 (fun v143 H144 =>
  dSl v143 (fun p145 r146 r147 =>
  k71 (Value.slice p145 r146 r147) H144)))))) (k71 (Value.slice p15 r16 r17) H133))))))))))))))))))))))))) (HCallsD Tryz.prog 69 #[Value.pointer (some a4)] FrameMode.returning H42 (fun e148 u149 H150 =>
  match e148 with
| Ending.returned v => leavesV Tryz.prog Tryz.f34 (Act.tmps (Act.mk #[Value.pointer x0, undef, Value.slice p15 r16 r17, Value.slice p15 r16 r17, undef, v19, v20, v21, Value.pointer x0, Value.bool b3, Value.bool !b3, Value.pointer x0, Value.pointer (some a4), Value.pointer (some a4), Value.pointer x0, Value.pointer (some a5), Value.pointer (some (Addr.add a5 2)), Value.pointer p7, Value.slice p10 r11 r12, Value.int IntKind.i64 (↑r11 : Int), Value.int IntKind.i64 n18, Value.bool (decide (n18 < (↑r11 : Int))), v23, v24, v25, v26, v27, v28, v29, v30, v31, v32, v33, v34, v35, v36, v37, v38, v39, v40, v41, Value.slice p15 r16 r17] [Deferred.mk (Target.fn (Fn.func 69) #[]) #[Value.pointer (some a4)]])) R [] (settle u149) H150
| Ending.panicked c => leavesV Tryz.prog Tryz.f34 (Act.tmps (Act.mk #[Value.pointer x0, undef, Value.slice p15 r16 r17, Value.slice p15 r16 r17, undef, v19, v20, v21, Value.pointer x0, Value.bool b3, Value.bool !b3, Value.pointer x0, Value.pointer (some a4), Value.pointer (some a4), Value.pointer x0, Value.pointer (some a5), Value.pointer (some (Addr.add a5 2)), Value.pointer p7, Value.slice p10 r11 r12, Value.int IntKind.i64 (↑r11 : Int), Value.int IntKind.i64 n18, Value.bool (decide (n18 < (↑r11 : Int))), v23, v24, v25, v26, v27, v28, v29, v30, v31, v32, v33, v34, v35, v36, v37, v38, v39, v40, v41, Value.slice p15 r16 r17] [Deferred.mk (Target.fn (Fn.func 69) #[]) #[Value.pointer (some a4)]])) R [] (raised u149 c) H150
| Ending.outgrown => False)))) (fun c151 H152 =>
  HCallsD Tryz.prog 69 #[Value.pointer (some a4)] (FrameMode.panicking c151) H152 (fun e153 u154 H155 =>
  match e153 with
| Ending.returned v => leavesV Tryz.prog Tryz.f34 (Act.tmps (Act.mk #[Value.pointer x0, undef, Value.slice none 0 0, Value.slice none 0 0, undef, undef, undef, undef, Value.pointer x0, Value.bool b3, Value.bool !b3, Value.pointer x0, Value.pointer (some a4), Value.pointer (some a4), Value.pointer x0, Value.pointer (some a5), Value.pointer (some (Addr.add a5 2)), Value.pointer p7, undef, undef, undef, undef, undef, undef, undef, undef, undef, undef, undef, undef, undef, undef, undef, undef, undef, undef, undef, undef, undef, undef, undef, undef] [Deferred.mk (Target.fn (Fn.func 69) #[]) #[Value.pointer (some a4)]])) R [] (settle u154) H155
| Ending.panicked c => leavesV Tryz.prog Tryz.f34 (Act.tmps (Act.mk #[Value.pointer x0, undef, Value.slice none 0 0, Value.slice none 0 0, undef, undef, undef, undef, Value.pointer x0, Value.bool b3, Value.bool !b3, Value.pointer x0, Value.pointer (some a4), Value.pointer (some a4), Value.pointer x0, Value.pointer (some a5), Value.pointer (some (Addr.add a5 2)), Value.pointer p7, undef, undef, undef, undef, undef, undef, undef, undef, undef, undef, undef, undef, undef, undef, undef, undef, undef, undef, undef, undef, undef, undef, undef, undef] [Deferred.mk (Target.fn (Fn.func 69) #[]) #[Value.pointer (some a4)]])) R [] (raised u154 c) H155
| Ending.outgrown => False)))))))))) (pnR R))
theorem F34_eq (x0 : Option Addr) (R : Ending → Heap → Prop) (H : Heap) : F34 x0 R H = vc Tryz.prog (codeOf Tryz.f34) (.node none .leaf (.node none .leaf (.node none .leaf (.node none .leaf (.node none (.node none .leaf (.node none (.node (some ⟨[(3, 73), (20, 3)], [5, 6, 7, 21, 22, 23, 24, 25, 26, 27, 28, 29, 30, 31, 32, 33, 34, 35, 36, 37, 38, 39, 40]⟩) (.node none .leaf (.node none .leaf (.node (some ⟨[(3, 73)], [5, 6, 7, 22, 23, 24, 25, 26, 27, 28, 29, 30, 31, 32, 33, 34, 35, 36, 37, 38, 39]⟩) .leaf .leaf))) .leaf) .leaf)) .leaf))))) (postV Tryz.prog Tryz.f34 R) ⟨#[Value.pointer x0] ++ Array.replicate (Tryz.f34.ntmps - 1) undef, []⟩ H := by kernel_rfl
theorem F34_calls {R : Ending → Heap → Prop} {H : Heap} (x0 : Option Addr) (h : F34 x0 R H) : HCalls Tryz.prog 34 #[Value.pointer x0] H R :=
  calls_by (F := F34 x0 R H) (.node none .leaf (.node none .leaf (.node none .leaf (.node none .leaf (.node none (.node none .leaf (.node none (.node (some ⟨[(3, 73), (20, 3)], [5, 6, 7, 21, 22, 23, 24, 25, 26, 27, 28, 29, 30, 31, 32, 33, 34, 35, 36, 37, 38, 39, 40]⟩) (.node none .leaf (.node none .leaf (.node (some ⟨[(3, 73)], [5, 6, 7, 22, 23, 24, 25, 26, 27, 28, 29, 30, 31, 32, 33, 34, 35, 36, 37, 38, 39]⟩) .leaf .leaf))) .leaf) .leaf)) .leaf))))) Tryz.func34 rfl (F34_eq x0 R H) h
/-- (*bollard/volume.Volume).Complete -/
def F35 (x0 : Option Addr) (x1 : Int) (x2 : Bool) (R : Ending → Heap → Prop) (H : Heap) : Prop :=
  HCalls Tryz.prog 68 #[Value.pointer x0] H (Sp.retK (fun v1 H2 =>
  dBl v1 (fun b3 =>
  sB (!b3) (R (Ending.returned (Value.int IntKind.i64 2)) H2) (nz x0 (fun a4 =>
  HCalls Tryz.prog 85 #[Value.pointer x0, Value.int IntKind.i64 x1, Value.bool x2] H2 (Sp.retK (fun v5 H6 =>
  dInt IntKind.i64 v5 (fun n7 =>
  HCallsD Tryz.prog 69 #[Value.pointer (some a4)] FrameMode.returning H6 (fun e8 u9 H10 =>
  match e8 with
| Ending.returned v => leavesV Tryz.prog Tryz.f35 (Act.tmps (Act.mk #[Value.pointer x0, Value.int IntKind.i64 x1, Value.bool x2, undef, undef, undef, Value.int IntKind.i64 n7, Value.pointer x0, Value.bool b3, Value.bool !b3, Value.pointer x0, Value.pointer (some a4), Value.pointer (some a4), Value.pointer x0, Value.int IntKind.i64 x1, Value.bool x2, Value.int IntKind.i64 n7] [Deferred.mk (Target.fn (Fn.func 69) #[]) #[Value.pointer (some a4)]])) R [] (settle u9) H10
| Ending.panicked c => leavesV Tryz.prog Tryz.f35 (Act.tmps (Act.mk #[Value.pointer x0, Value.int IntKind.i64 x1, Value.bool x2, undef, undef, undef, Value.int IntKind.i64 n7, Value.pointer x0, Value.bool b3, Value.bool !b3, Value.pointer x0, Value.pointer (some a4), Value.pointer (some a4), Value.pointer x0, Value.int IntKind.i64 x1, Value.bool x2, Value.int IntKind.i64 n7] [Deferred.mk (Target.fn (Fn.func 69) #[]) #[Value.pointer (some a4)]])) R [] (raised u9 c) H10
| Ending.outgrown => False))) (fun c11 H12 =>
  HCallsD Tryz.prog 69 #[Value.pointer (some a4)] (FrameMode.panicking c11) H12 (fun e13 u14 H15 =>
  match e13 with
| Ending.returned v => leavesV Tryz.prog Tryz.f35 (Act.tmps (Act.mk #[Value.pointer x0, Value.int IntKind.i64 x1, Value.bool x2, undef, undef, undef, Value.int IntKind.i64 0, Value.pointer x0, Value.bool b3, Value.bool !b3, Value.pointer x0, Value.pointer (some a4), Value.pointer (some a4), Value.pointer x0, Value.int IntKind.i64 x1, Value.bool x2, undef] [Deferred.mk (Target.fn (Fn.func 69) #[]) #[Value.pointer (some a4)]])) R [] (settle u14) H15
| Ending.panicked c => leavesV Tryz.prog Tryz.f35 (Act.tmps (Act.mk #[Value.pointer x0, Value.int IntKind.i64 x1, Value.bool x2, undef, undef, undef, Value.int IntKind.i64 0, Value.pointer x0, Value.bool b3, Value.bool !b3, Value.pointer x0, Value.pointer (some a4), Value.pointer (some a4), Value.pointer x0, Value.int IntKind.i64 x1, Value.bool x2, undef] [Deferred.mk (Target.fn (Fn.func 69) #[]) #[Value.pointer (some a4)]])) R [] (raised u14 c) H15
| Ending.outgrown => False))))))) (pnR R))
theorem F35_eq (x0 : Option Addr) (x1 : Int) (x2 : Bool) (R : Ending → Heap → Prop) (H : Heap) : F35 x0 x1 x2 R H = vc Tryz.prog (codeOf Tryz.f35) .leaf (postV Tryz.prog Tryz.f35 R) ⟨#[Value.pointer x0, Value.int IntKind.i64 x1, Value.bool x2] ++ Array.replicate (Tryz.f35.ntmps - 3) undef, []⟩ H := by kernel_rfl
theorem F35_calls {R : Ending → Heap → Prop} {H : Heap} (x0 : Option Addr) (x1 : Int) (x2 : Bool) (h : F35 x0 x1 x2 R H) : HCalls Tryz.prog 35 #[Value.pointer x0, Value.int IntKind.i64 x1, Value.bool x2] H R :=
  calls_by (F := F35 x0 x1 x2 R H) .leaf Tryz.func35 rfl (F35_eq x0 x1 x2 R H) h
/-- (*bollard/disk.Disk).Queue -/
def F36 (x0 : Option Addr) (R : Ending → Heap → Prop) (H : Heap) : Prop :=
  sB (Option.isNone x0) (R (Ending.returned (Value.slice none 0 0)) H) (nz x0 (fun a1 =>
  ld H (Addr.add a1 1) (fun v2 =>
  dSl v2 (fun p3 r4 r5 =>
  HCalls Tryz.prog 86 #[Value.slice p3 r4 r5] H (Sp.retK (fun v6 H7 =>
  dSl v6 (fun p8 r9 r10 =>
  R (Ending.returned (Value.slice p8 r9 r10)) H7)) (pnR R))))))
theorem F36_eq (x0 : Option Addr) (R : Ending → Heap → Prop) (H : Heap) : F36 x0 R H = vc Tryz.prog (codeOf Tryz.f36) .leaf (postV Tryz.prog Tryz.f36 R) ⟨#[Value.pointer x0] ++ Array.replicate (Tryz.f36.ntmps - 1) undef, []⟩ H := by kernel_rfl
theorem F36_calls {R : Ending → Heap → Prop} {H : Heap} (x0 : Option Addr) (h : F36 x0 R H) : HCalls Tryz.prog 36 #[Value.pointer x0] H R :=
  calls_by (F := F36 x0 R H) .leaf Tryz.func36 rfl (F36_eq x0 R H) h
/-- (*bollard/disk.Disk).Image -/
def F38 (x0 : Option Addr) (R : Ending → Heap → Prop) (H : Heap) : Prop :=
  sB (Option.isNone x0) (R (Ending.returned (Value.slice none 0 0)) H) (nz x0 (fun a1 =>
  ld H a1 (fun v2 =>
  dSl v2 (fun p3 r4 r5 =>
  HCalls Tryz.prog 91 #[Value.slice p3 r4 r5] H (Sp.retK (fun v6 H7 =>
  dSl v6 (fun p8 r9 r10 =>
  R (Ending.returned (Value.slice p8 r9 r10)) H7)) (pnR R))))))
theorem F38_eq (x0 : Option Addr) (R : Ending → Heap → Prop) (H : Heap) : F38 x0 R H = vc Tryz.prog (codeOf Tryz.f38) .leaf (postV Tryz.prog Tryz.f38 R) ⟨#[Value.pointer x0] ++ Array.replicate (Tryz.f38.ntmps - 1) undef, []⟩ H := by kernel_rfl
theorem F38_calls {R : Ending → Heap → Prop} {H : Heap} (x0 : Option Addr) (h : F38 x0 R H) : HCalls Tryz.prog 38 #[Value.pointer x0] H R :=
  calls_by (F := F38 x0 R H) .leaf Tryz.func38 rfl (F38_eq x0 R H) h
/-- bollard/bollardlaw09.begun -/
def F43 (x0 : Int) (x1a : Option Addr) (x1n : Nat) (x1c : Nat) (R : Ending → Heap → Prop) (H : Heap) : Prop :=
  HCalls Tryz.prog 98 #[Value.int IntKind.i64 x0] H (Sp.retK (fun v1 H2 =>
  dSl v1 (fun p3 r4 r5 =>
  HCalls Tryz.prog 97 #[Value.slice p3 r4 r5] H2 (Sp.retK (fun v6 H7 =>
  dT 2 v6 (fun v8 v9 =>
  dPtr v8 (fun p10 =>
  dInt IntKind.i64 v9 (fun n11 =>
  HCalls Tryz.prog 31 #[Value.pointer p10, Value.int IntKind.i64 64] H7 (Sp.retK (fun v12 H13 =>
  dT 2 v12 (fun v14 v15 =>
  dPtr v14 (fun p16 =>
  dInt IntKind.i64 v15 (fun n17 =>
  jn (α := VFH 1) (fun v18 H19 =>
  ∀ v20 v21 v22 v23 v24 v25 v26 v27 v28 : Value,
  dBl v18 (fun b29 =>
  sB b29 (R (Ending.returned (Value.tuple #[Value.pointer none, Value.pointer none, Value.bool false])) H19) (jn (α := VFH 0) (fun H30 =>
  ∀ v31 v32 v33 v34 v35 v36 v37 v38 v39 v40 v41 v42 v43 v44 v45 v46 v47 v48 v49 : Value,
  R (Ending.returned (Value.tuple #[Value.pointer p16, Value.pointer p10, Value.bool true])) H30) (fun k50 =>
  ∃ I51 : List Value → Heap → Prop,
  ∃ I52 : List Value → Heap → Nat,
  (I51 ([Value.int IntKind.i64 0]) H19) ∧
  ∀ n53 : Int,
  ∀ v54 v55 v56 v57 v58 v59 v60 v61 v62 v63 v64 v65 v66 v67 v68 v69 : Value,
  ∀ H70 : Heap,
  (I51 ([Value.int IntKind.i64 n53]) H70) →
  sB (decide (n53 < (↑x1n : Int))) (nz x1a (fun a72 =>
  ask ((0 : Int) ≤ n53 ∧ n53 < (↑x1n : Int)) (ld H70 (Addr.add a72 (Int.toNat n53 * 6)) (fun v73 =>
  ld H70 (Addr.add (Addr.add a72 (Int.toNat n53 * 6)) 1) (fun v74 =>
  ld H70 (Addr.add (Addr.add a72 (Int.toNat n53 * 6)) 2) (fun v75 =>
  ld H70 (Addr.add (Addr.add a72 (Int.toNat n53 * 6)) 3) (fun v76 =>
  ld H70 (Addr.add (Addr.add a72 (Int.toNat n53 * 6)) 4) (fun v77 =>
  ld H70 (Addr.add (Addr.add a72 (Int.toNat n53 * 6)) 5) (fun v78 =>
  al H70 (Obj.cells #[Value.int IntKind.i64 0, Value.int IntKind.i64 0, Value.int IntKind.i64 0, Value.int IntKind.i64 0, Value.slice none 0 0, Value.slice none 0 0] 125) (fun r79 H80 =>
  st H80 (Addr.mk r79 0 none) v73 (fun H81 =>
  st H81 (Addr.mk r79 1 none) v74 (fun H82 =>
  st H82 (Addr.mk r79 2 none) v75 (fun H83 =>
  st H83 (Addr.mk r79 3 none) v76 (fun H84 =>
  st H84 (Addr.mk r79 4 none) v77 (fun H85 =>
  st H85 (Addr.mk r79 5 none) v78 (fun H86 =>
  sB (decide (n53 > 40)) (k50 H86) (ld H86 (Addr.mk r79 0 none) (fun v87 =>
  ld H86 (Addr.mk r79 1 none) (fun v88 =>
  ld H86 (Addr.mk r79 2 none) (fun v89 =>
  ld H86 (Addr.mk r79 3 none) (fun v90 =>
  ld H86 (Addr.mk r79 4 none) (fun v91 =>
  ld H86 (Addr.mk r79 5 none) (fun v92 =>
  HCalls Tryz.prog 53 #[Value.pointer p16, Value.agg #[v87, v88, v89, v90, v91, v92]] H86 (Sp.retK (fun v93 H94 =>
  dBl v93 (fun b95 =>
  sB (!b95) (R (Ending.returned (Value.tuple #[Value.pointer none, Value.pointer none, Value.bool false])) H94) (wr IntKind.i64 (n53 + 1) (fun n96 =>
  (I51 ([Value.int IntKind.i64 n96]) H94) ∧
  (I52 [Value.int IntKind.i64 n96] H94) < (I52 [Value.int IntKind.i64 n53] H70))))) (pnR R))))))))))))))))))))))))) (k50 H70))))) (fun k99 =>
  sB (n11 != 0) (k99 (Value.bool true) H13) (sB (n17 != 0) (k99 (Value.bool true) H13) (k99 (Value.bool (Option.isNone p16)) H13))))))) (pnR R)))))) (pnR R)))) (pnR R))
theorem F43_eq (x0 : Int) (x1a : Option Addr) (x1n : Nat) (x1c : Nat) (R : Ending → Heap → Prop) (H : Heap) : F43 x0 x1a x1n x1c R H = vc Tryz.prog (codeOf Tryz.f43) (.node none .leaf (.node none .leaf (.node none .leaf (.node none (.node (some ⟨[(33, 4)], [24, 25, 26, 27, 28, 29, 30, 31, 32]⟩) .leaf .leaf) (.node (some ⟨[], [4, 5, 6, 11, 12, 34, 35, 36, 37, 38, 39, 40, 41, 42, 43, 44, 45, 46, 47]⟩) (.node none .leaf (.node none (.node (some ⟨[(36, 3)], [4, 5, 6, 11, 12, 37, 38, 39, 40, 41, 42, 43, 44, 45, 46, 47]⟩) .leaf .leaf) .leaf)) .leaf))))) (postV Tryz.prog Tryz.f43 R) ⟨#[Value.int IntKind.i64 x0, Value.slice x1a x1n x1c] ++ Array.replicate (Tryz.f43.ntmps - 2) undef, []⟩ H := by kernel_rfl
theorem F43_calls {R : Ending → Heap → Prop} {H : Heap} (x0 : Int) (x1a : Option Addr) (x1n : Nat) (x1c : Nat) (h : F43 x0 x1a x1n x1c R H) : HCalls Tryz.prog 43 #[Value.int IntKind.i64 x0, Value.slice x1a x1n x1c] H R :=
  calls_by (F := F43 x0 x1a x1n x1c R H) (.node none .leaf (.node none .leaf (.node none .leaf (.node none (.node (some ⟨[(33, 4)], [24, 25, 26, 27, 28, 29, 30, 31, 32]⟩) .leaf .leaf) (.node (some ⟨[], [4, 5, 6, 11, 12, 34, 35, 36, 37, 38, 39, 40, 41, 42, 43, 44, 45, 46, 47]⟩) (.node none .leaf (.node none (.node (some ⟨[(36, 3)], [4, 5, 6, 11, 12, 37, 38, 39, 40, 41, 42, 43, 44, 45, 46, 47]⟩) .leaf .leaf) .leaf)) .leaf))))) Tryz.func43 rfl (F43_eq x0 x1a x1n x1c R H) h
/-- bollard/bollardlaw09.all -/
def F44 (x0 : Option Addr) (R : Ending → Heap → Prop) (H : Heap) : Prop :=
  HCalls Tryz.prog 24 #[Value.pointer x0] H (Sp.retK (fun v1 H2 =>
  dInt IntKind.i64 v1 (fun n3 =>
  ∃ I4 : List Value → Heap → Prop,
  ∃ I5 : List Value → Heap → Nat,
  (I4 ([Value.slice none 0 0, Value.int IntKind.i64 0]) H2) ∧
  ∀ p6 : Option Addr,
  ∀ r7 : Nat,
  ∀ r8 : Nat,
  ∀ n9 : Int,
  ∀ v10 v11 v12 v13 v14 v15 v16 v17 v18 v19 v20 v21 v22 v23 v24 v25 : Value,
  ∀ H26 : Heap,
  (I4 ([Value.slice p6 r7 r8, Value.int IntKind.i64 n9]) H26) →
  sB (decide (n9 < n3)) (HCalls Tryz.prog 26 #[Value.pointer x0, Value.int IntKind.i64 n9] H26 (Sp.retK (fun v28 H29 =>
  dT 2 v28 (fun v30 v31 =>
  dSl v30 (fun p32 r33 r34 =>
  dInt IntKind.i64 v31 (fun n35 =>
  al H29 (Obj.cells #[Value.slice p32 r33 r34] 38) (fun r36 H37 =>
  semW Tryz.prog (Builtin.append_ #[42, 42] 42 #[Value.slice p6 r7 r8, Value.slice (some (Addr.mk r36 0 none)) 1 1]) (pnR R) H37 (fun v40 H41 =>
  dSl v40 (fun p42 r43 r44 =>
  wr IntKind.i64 (n9 + 1) (fun n45 =>
  (I4 ([Value.slice p42 r43 r44, Value.int IntKind.i64 n45]) H41) ∧
  (I5 [Value.slice p42 r43 r44, Value.int IntKind.i64 n45] H41) < (I5 [Value.slice p6 r7 r8, Value.int IntKind.i64 n9] H26))))))))) (pnR R))) (R (Ending.returned (Value.slice p6 r7 r8)) H26))) (pnR R))
theorem F44_eq (x0 : Option Addr) (R : Ending → Heap → Prop) (H : Heap) : F44 x0 R H = vc Tryz.prog (codeOf Tryz.f44) (.node none .leaf (.node none .leaf (.node none (.node none .leaf (.node none (.node (some ⟨[(3, 42), (9, 3)], [4, 5, 6, 10, 11, 12, 13, 14, 15, 16, 17, 18, 19, 20, 21, 22]⟩) .leaf .leaf) .leaf)) .leaf))) (postV Tryz.prog Tryz.f44 R) ⟨#[Value.pointer x0] ++ Array.replicate (Tryz.f44.ntmps - 1) undef, []⟩ H := by kernel_rfl
theorem F44_calls {R : Ending → Heap → Prop} {H : Heap} (x0 : Option Addr) (h : F44 x0 R H) : HCalls Tryz.prog 44 #[Value.pointer x0] H R :=
  calls_by (F := F44 x0 R H) (.node none .leaf (.node none .leaf (.node none (.node none .leaf (.node none (.node (some ⟨[(3, 42), (9, 3)], [4, 5, 6, 10, 11, 12, 13, 14, 15, 16, 17, 18, 19, 20, 21, 22]⟩) .leaf .leaf) .leaf)) .leaf))) Tryz.func44 rfl (F44_eq x0 R H) h
/-- (*bollard/volume.Volume).Dirty -/
def F45 (x0 : Option Addr) (R : Ending → Heap → Prop) (H : Heap) : Prop :=
  HCalls Tryz.prog 68 #[Value.pointer x0] H (Sp.retK (fun v1 H2 =>
  dBl v1 (fun b3 =>
  sB (!b3) (R (Ending.returned (Value.slice none 0 0)) H2) (nz x0 (fun a4 =>
  nz x0 (fun a5 =>
  ld H2 (Addr.add a5 4) (fun v6 =>
  dPtr v6 (fun p7 =>
  HCalls Tryz.prog 99 #[Value.pointer p7] H2 (Sp.retK (fun v8 H9 =>
  dSl v8 (fun p10 r11 r12 =>
  HCallsD Tryz.prog 69 #[Value.pointer (some a4)] FrameMode.returning H9 (fun e13 u14 H15 =>
  match e13 with
| Ending.returned v => leavesV Tryz.prog Tryz.f45 (Act.tmps (Act.mk #[Value.pointer x0, undef, Value.slice p10 r11 r12, Value.pointer x0, Value.bool b3, Value.bool !b3, Value.pointer x0, Value.pointer (some a4), Value.pointer (some a4), Value.pointer x0, Value.pointer (some a5), Value.pointer (some (Addr.add a5 4)), Value.pointer p7, Value.slice p10 r11 r12] [Deferred.mk (Target.fn (Fn.func 69) #[]) #[Value.pointer (some a4)]])) R [] (settle u14) H15
| Ending.panicked c => leavesV Tryz.prog Tryz.f45 (Act.tmps (Act.mk #[Value.pointer x0, undef, Value.slice p10 r11 r12, Value.pointer x0, Value.bool b3, Value.bool !b3, Value.pointer x0, Value.pointer (some a4), Value.pointer (some a4), Value.pointer x0, Value.pointer (some a5), Value.pointer (some (Addr.add a5 4)), Value.pointer p7, Value.slice p10 r11 r12] [Deferred.mk (Target.fn (Fn.func 69) #[]) #[Value.pointer (some a4)]])) R [] (raised u14 c) H15
| Ending.outgrown => False))) (fun c16 H17 =>
  HCallsD Tryz.prog 69 #[Value.pointer (some a4)] (FrameMode.panicking c16) H17 (fun e18 u19 H20 =>
  match e18 with
| Ending.returned v => leavesV Tryz.prog Tryz.f45 (Act.tmps (Act.mk #[Value.pointer x0, undef, Value.slice none 0 0, Value.pointer x0, Value.bool b3, Value.bool !b3, Value.pointer x0, Value.pointer (some a4), Value.pointer (some a4), Value.pointer x0, Value.pointer (some a5), Value.pointer (some (Addr.add a5 4)), Value.pointer p7, undef] [Deferred.mk (Target.fn (Fn.func 69) #[]) #[Value.pointer (some a4)]])) R [] (settle u19) H20
| Ending.panicked c => leavesV Tryz.prog Tryz.f45 (Act.tmps (Act.mk #[Value.pointer x0, undef, Value.slice none 0 0, Value.pointer x0, Value.bool b3, Value.bool !b3, Value.pointer x0, Value.pointer (some a4), Value.pointer (some a4), Value.pointer x0, Value.pointer (some a5), Value.pointer (some (Addr.add a5 4)), Value.pointer p7, undef] [Deferred.mk (Target.fn (Fn.func 69) #[]) #[Value.pointer (some a4)]])) R [] (raised u19 c) H20
| Ending.outgrown => False)))))))))) (pnR R))
theorem F45_eq (x0 : Option Addr) (R : Ending → Heap → Prop) (H : Heap) : F45 x0 R H = vc Tryz.prog (codeOf Tryz.f45) .leaf (postV Tryz.prog Tryz.f45 R) ⟨#[Value.pointer x0] ++ Array.replicate (Tryz.f45.ntmps - 1) undef, []⟩ H := by kernel_rfl
theorem F45_calls {R : Ending → Heap → Prop} {H : Heap} (x0 : Option Addr) (h : F45 x0 R H) : HCalls Tryz.prog 45 #[Value.pointer x0] H R :=
  calls_by (F := F45 x0 R H) .leaf Tryz.func45 rfl (F45_eq x0 R H) h
/-- bollard/bollardplain.SameImage -/
def F46 (x0a : Option Addr) (x0n : Nat) (x0c : Nat) (x1a : Option Addr) (x1n : Nat) (x1c : Nat) (R : Ending → Heap → Prop) (H : Heap) : Prop :=
  HCalls Tryz.prog 100 #[Value.slice x0a x0n x0c, Value.slice x1a x1n x1c, Value.func (Fn.func 56) #[] #[]] H (Sp.retK (fun v1 H2 =>
  dBl v1 (fun b3 =>
  R (Ending.returned (Value.bool b3)) H2)) (pnR R))
theorem F46_eq (x0a : Option Addr) (x0n : Nat) (x0c : Nat) (x1a : Option Addr) (x1n : Nat) (x1c : Nat) (R : Ending → Heap → Prop) (H : Heap) : F46 x0a x0n x0c x1a x1n x1c R H = vc Tryz.prog (codeOf Tryz.f46) .leaf (postV Tryz.prog Tryz.f46 R) ⟨#[Value.slice x0a x0n x0c, Value.slice x1a x1n x1c] ++ Array.replicate (Tryz.f46.ntmps - 2) undef, []⟩ H := by kernel_rfl
theorem F46_calls {R : Ending → Heap → Prop} {H : Heap} (x0a : Option Addr) (x0n : Nat) (x0c : Nat) (x1a : Option Addr) (x1n : Nat) (x1c : Nat) (h : F46 x0a x0n x0c x1a x1n x1c R H) : HCalls Tryz.prog 46 #[Value.slice x0a x0n x0c, Value.slice x1a x1n x1c] H R :=
  calls_by (F := F46 x0a x0n x0c x1a x1n x1c R H) .leaf Tryz.func46 rfl (F46_eq x0a x0n x0c x1a x1n x1c R H) h
/-- bytes.Clone -/
def F48 (x0a : Option Addr) (x0n : Nat) (x0c : Nat) (R : Ending → Heap → Prop) (H : Heap) : Prop :=
  sB (Option.isNone x0a) (R (Ending.returned (Value.slice none 0 0)) H) (al H (Obj.cells #[] 5) (fun r1 H2 =>
  semW Tryz.prog (Builtin.append_ #[38, 38] 38 #[Value.slice (some (Addr.mk r1 0 none)) 0 0, Value.slice x0a x0n x0c]) (pnR R) H2 (fun v5 H6 =>
  dSl v5 (fun p7 r8 r9 =>
  R (Ending.returned (Value.slice p7 r8 r9)) H6))))
theorem F48_eq (x0a : Option Addr) (x0n : Nat) (x0c : Nat) (R : Ending → Heap → Prop) (H : Heap) : F48 x0a x0n x0c R H = vc Tryz.prog (codeOf Tryz.f48) .leaf (postV Tryz.prog Tryz.f48 R) ⟨#[Value.slice x0a x0n x0c] ++ Array.replicate (Tryz.f48.ntmps - 1) undef, []⟩ H := by kernel_rfl
theorem F48_calls {R : Ending → Heap → Prop} {H : Heap} (x0a : Option Addr) (x0n : Nat) (x0c : Nat) (h : F48 x0a x0n x0c R H) : HCalls Tryz.prog 48 #[Value.slice x0a x0n x0c] H R :=
  calls_by (F := F48 x0a x0n x0c R H) .leaf Tryz.func48 rfl (F48_eq x0a x0n x0c R H) h
end Go.Proofs.YtngploohhmfaiaaGreat.E
