/- The functions' forms in the engine's words, printed by my own program. -/
import Derived.Test.YtngploohhmfaiaaGreatProg
import Derived.Test.YtngploohhmfaiaaGreatEng11
import Derived.KernelRfl
namespace Go.Proofs.YtngploohhmfaiaaGreat.E
open Go Go.Proofs
set_option linter.unusedVariables false
/-- bollard/alloc.FreeInode -/
def F49 (x0 : Option Addr) (x1_0 : Value) (x1_1 : Value) (x1_2 : Value) (x2 : Int) (x3a : Option Addr) (x3n : Nat) (x3c : Nat) (R : Ending → Heap → Prop) (H : Heap) : Prop :=
  al H (Obj.cells #[x1_0, x1_1, x1_2] 32) (fun r1 H2 =>
  ld H2 (Addr.mk r1 0 none) (fun v3 =>
  ld H2 (Addr.mk r1 1 none) (fun v4 =>
  ld H2 (Addr.mk r1 2 none) (fun v5 =>
  HCalls Tryz.prog 74 #[Value.pointer x0, Value.agg #[v3, v4, v5]] H2 (Sp.retK (fun v6 H7 =>
  dInt IntKind.i64 v6 (fun n8 =>
  sB (n8 != 0) (R (Ending.returned (Value.tuple #[Value.int IntKind.i64 0, Value.int IntKind.i64 n8])) H7) (jn (α := VFH 1) (fun v9 H10 =>
  ∀ v11 v12 v13 v14 v15 v16 v17 v18 : Value,
  dBl v9 (fun b19 =>
  sB b19 (R (Ending.returned (Value.tuple #[Value.int IntKind.i64 0, Value.int IntKind.i64 130])) H10) (ld H10 (Addr.mk r1 0 none) (fun v20 =>
  ld H10 (Addr.mk r1 1 none) (fun v21 =>
  ld H10 (Addr.mk r1 2 none) (fun v22 =>
  HCalls Tryz.prog 104 #[Value.agg #[v20, v21, v22], Value.int IntKind.i64 x2] H10 (Sp.retK (fun v23 H24 =>
  dT 3 v23 (fun v25 v26 v27 =>
  dInt IntKind.i64 v25 (fun n28 =>
  dInt IntKind.i64 v26 (fun n29 =>
  dBl v27 (fun b30 =>
  ld H24 (Addr.mk r1 0 none) (fun v31 =>
  ld H24 (Addr.mk r1 1 none) (fun v32 =>
  ld H24 (Addr.mk r1 2 none) (fun v33 =>
  HCalls Tryz.prog 96 #[Value.pointer x0, Value.agg #[v31, v32, v33], Value.int IntKind.i64 n28, Value.int IntKind.i64 n29, Value.int IntKind.i64 4, Value.slice x3a x3n x3c] H24 (Sp.retK (fun v34 H35 =>
  dT 2 v34 (fun v36 v37 =>
  dInt IntKind.i64 v36 (fun n38 =>
  dInt IntKind.i64 v37 (fun n39 =>
  R (Ending.returned (Value.tuple #[Value.int IntKind.i64 n38, Value.int IntKind.i64 n39])) H35)))) (pnR R)))))))))) (pnR R)))))))) (fun k44 =>
  sB (decide (x2 ≤ 2)) (k44 (Value.bool true) H7) (ld H7 (Addr.mk r1 0 none) (fun v45 =>
  ld H7 (Addr.mk r1 1 none) (fun v46 =>
  ld H7 (Addr.mk r1 2 none) (fun v47 =>
  HCalls Tryz.prog 103 #[Value.agg #[v45, v46, v47]] H7 (Sp.retK (fun v48 H49 =>
  dInt IntKind.i64 v48 (fun n50 =>
  k44 (Value.bool (decide (x2 ≥ n50))) H49)) (pnR R)))))))))) (pnR R))))))
theorem F49_eq (x0 : Option Addr) (x1_0 : Value) (x1_1 : Value) (x1_2 : Value) (x2 : Int) (x3a : Option Addr) (x3n : Nat) (x3c : Nat) (R : Ending → Heap → Prop) (H : Heap) : F49 x0 x1_0 x1_1 x1_2 x2 x3a x3n x3c R H = vc Tryz.prog (codeOf Tryz.f49) (.node none .leaf (.node none .leaf (.node none (.node none (.node none .leaf (.node none .leaf (.node (some ⟨[(21, 4)], [22, 23, 24, 25, 26, 27, 28, 29]⟩) .leaf .leaf))) .leaf) .leaf))) (postV Tryz.prog Tryz.f49 R) ⟨#[Value.pointer x0, Value.agg #[x1_0, x1_1, x1_2], Value.int IntKind.i64 x2, Value.slice x3a x3n x3c] ++ Array.replicate (Tryz.f49.ntmps - 4) undef, []⟩ H := by kernel_rfl
theorem F49_calls {R : Ending → Heap → Prop} {H : Heap} (x0 : Option Addr) (x1_0 : Value) (x1_1 : Value) (x1_2 : Value) (x2 : Int) (x3a : Option Addr) (x3n : Nat) (x3c : Nat) (h : F49 x0 x1_0 x1_1 x1_2 x2 x3a x3n x3c R H) : HCalls Tryz.prog 49 #[Value.pointer x0, Value.agg #[x1_0, x1_1, x1_2], Value.int IntKind.i64 x2, Value.slice x3a x3n x3c] H R :=
  calls_by (F := F49 x0 x1_0 x1_1 x1_2 x2 x3a x3n x3c R H) (.node none .leaf (.node none .leaf (.node none (.node none (.node none .leaf (.node none .leaf (.node (some ⟨[(21, 4)], [22, 23, 24, 25, 26, 27, 28, 29]⟩) .leaf .leaf))) .leaf) .leaf))) Tryz.func49 rfl (F49_eq x0 x1_0 x1_1 x1_2 x2 x3a x3n x3c R H) h
/-- (*bollard/volume.Volume).Freeze -/
def F51 (x0 : Option Addr) (x1 : Int) (R : Ending → Heap → Prop) (H : Heap) : Prop :=
  HCalls Tryz.prog 68 #[Value.pointer x0] H (Sp.retK (fun v1 H2 =>
  dBl v1 (fun b3 =>
  sB (!b3) (R (Ending.returned (Value.int IntKind.i64 2)) H2) (nz x0 (fun a4 =>
  nz x0 (fun a5 =>
  ld H2 (Addr.add a5 6) (fun v6 =>
  dBl v6 (fun b7 =>
  sB b7 (HCallsD Tryz.prog 69 #[Value.pointer (some a4)] FrameMode.returning H2 (fun e8 u9 H10 =>
  match e8 with
| Ending.returned v => leavesV Tryz.prog Tryz.f51 (Act.tmps (Act.mk #[Value.pointer x0, Value.int IntKind.i64 x1, undef, undef, Value.int IntKind.i64 3, Value.pointer x0, Value.bool b3, Value.bool !b3, Value.pointer x0, Value.pointer (some a4), Value.pointer (some a4), Value.bool b7, Value.pointer x0, Value.pointer (some a5), Value.pointer (some (Addr.add a5 6)), Value.pointer (some (Addr.add a5 6)), Value.bool b7, undef, undef, undef, undef, undef, undef, undef, undef, undef, undef, undef, undef, undef] [Deferred.mk (Target.fn (Fn.func 69) #[]) #[Value.pointer (some a4)]])) R [] (settle u9) H10
| Ending.panicked c => leavesV Tryz.prog Tryz.f51 (Act.tmps (Act.mk #[Value.pointer x0, Value.int IntKind.i64 x1, undef, undef, Value.int IntKind.i64 3, Value.pointer x0, Value.bool b3, Value.bool !b3, Value.pointer x0, Value.pointer (some a4), Value.pointer (some a4), Value.bool b7, Value.pointer x0, Value.pointer (some a5), Value.pointer (some (Addr.add a5 6)), Value.pointer (some (Addr.add a5 6)), Value.bool b7, undef, undef, undef, undef, undef, undef, undef, undef, undef, undef, undef, undef, undef] [Deferred.mk (Target.fn (Fn.func 69) #[]) #[Value.pointer (some a4)]])) R [] (raised u9 c) H10
| Ending.outgrown => False)) (jn (α := VFH 1) (fun v11 H12 =>
  ∀ v13 v14 v15 v16 v17 v18 : Value,
  dBl v11 (fun b19 =>
  sB b19 (HCallsD Tryz.prog 69 #[Value.pointer (some a4)] FrameMode.returning H12 (fun e20 u21 H22 =>
  match e20 with
| Ending.returned v => leavesV Tryz.prog Tryz.f51 (Act.tmps (Act.mk #[Value.pointer x0, Value.int IntKind.i64 x1, undef, undef, Value.int IntKind.i64 1, Value.pointer x0, Value.bool b3, Value.bool !b3, Value.pointer x0, Value.pointer (some a4), Value.pointer (some a4), Value.bool b7, Value.pointer x0, Value.pointer (some a5), Value.pointer (some (Addr.add a5 6)), Value.pointer (some (Addr.add a5 6)), Value.bool b7, Value.bool b19, v13, v14, v15, v16, v17, v18, undef, undef, undef, undef, undef, undef] [Deferred.mk (Target.fn (Fn.func 69) #[]) #[Value.pointer (some a4)]])) R [] (settle u21) H22
| Ending.panicked c => leavesV Tryz.prog Tryz.f51 (Act.tmps (Act.mk #[Value.pointer x0, Value.int IntKind.i64 x1, undef, undef, Value.int IntKind.i64 1, Value.pointer x0, Value.bool b3, Value.bool !b3, Value.pointer x0, Value.pointer (some a4), Value.pointer (some a4), Value.bool b7, Value.pointer x0, Value.pointer (some a5), Value.pointer (some (Addr.add a5 6)), Value.pointer (some (Addr.add a5 6)), Value.bool b7, Value.bool b19, v13, v14, v15, v16, v17, v18, undef, undef, undef, undef, undef, undef] [Deferred.mk (Target.fn (Fn.func 69) #[]) #[Value.pointer (some a4)]])) R [] (raised u21 c) H22
| Ending.outgrown => False)) (al H12 (Obj.map #[] 0) (fun r23 H24 =>
  nz x0 (fun a25 =>
  st H24 (Addr.add a25 6) (Value.bool true) (fun H26 =>
  st H26 (Addr.add (Addr.add a25 6) 1) (Value.bool false) (fun H27 =>
  st H27 (Addr.add (Addr.add a25 6) 2) (Value.int IntKind.i64 x1) (fun H28 =>
  st H28 (Addr.add (Addr.add a25 6) 3) (Value.map (some r23)) (fun H29 =>
  HCallsD Tryz.prog 69 #[Value.pointer (some a4)] FrameMode.returning H29 (fun e30 u31 H32 =>
  match e30 with
| Ending.returned v => leavesV Tryz.prog Tryz.f51 (Act.tmps (Act.mk #[Value.pointer x0, Value.int IntKind.i64 x1, undef, undef, Value.int IntKind.i64 0, Value.pointer x0, Value.bool b3, Value.bool !b3, Value.pointer x0, Value.pointer (some a4), Value.pointer (some a4), Value.bool b7, Value.pointer x0, Value.pointer (some a5), Value.pointer (some (Addr.add a5 6)), Value.pointer (some (Addr.add a5 6)), Value.bool b7, Value.bool b19, v13, v14, v15, v16, v17, v18, Value.pointer x0, Value.int IntKind.i64 x1, Value.map (some r23), Value.agg #[Value.bool true, Value.bool false, Value.int IntKind.i64 x1, Value.map (some r23)], Value.pointer (some a25), Value.pointer (some (Addr.add a25 6))] [Deferred.mk (Target.fn (Fn.func 69) #[]) #[Value.pointer (some a4)]])) R [] (settle u31) H32
| Ending.panicked c => leavesV Tryz.prog Tryz.f51 (Act.tmps (Act.mk #[Value.pointer x0, Value.int IntKind.i64 x1, undef, undef, Value.int IntKind.i64 0, Value.pointer x0, Value.bool b3, Value.bool !b3, Value.pointer x0, Value.pointer (some a4), Value.pointer (some a4), Value.bool b7, Value.pointer x0, Value.pointer (some a5), Value.pointer (some (Addr.add a5 6)), Value.pointer (some (Addr.add a5 6)), Value.bool b7, Value.bool b19, v13, v14, v15, v16, v17, v18, Value.pointer x0, Value.int IntKind.i64 x1, Value.map (some r23), Value.agg #[Value.bool true, Value.bool false, Value.int IntKind.i64 x1, Value.map (some r23)], Value.pointer (some a25), Value.pointer (some (Addr.add a25 6))] [Deferred.mk (Target.fn (Fn.func 69) #[]) #[Value.pointer (some a4)]])) R [] (raised u31 c) H32
| Ending.outgrown => False)))))))))) (fun k33 =>
  sB (decide (x1 < 0)) (k33 (Value.bool true) H2) (k33 (Value.bool (decide (x1 > 65536))) H2)))))))))) (pnR R))
theorem F51_eq (x0 : Option Addr) (x1 : Int) (R : Ending → Heap → Prop) (H : Heap) : F51 x0 x1 R H = vc Tryz.prog (codeOf Tryz.f51) (.node none .leaf (.node none .leaf (.node none .leaf (.node none (.node none (.node none .leaf (.node none .leaf (.node (some ⟨[(17, 4)], [18, 19, 20, 21, 22, 23]⟩) .leaf .leaf))) .leaf) .leaf)))) (postV Tryz.prog Tryz.f51 R) ⟨#[Value.pointer x0, Value.int IntKind.i64 x1] ++ Array.replicate (Tryz.f51.ntmps - 2) undef, []⟩ H := by kernel_rfl
theorem F51_calls {R : Ending → Heap → Prop} {H : Heap} (x0 : Option Addr) (x1 : Int) (h : F51 x0 x1 R H) : HCalls Tryz.prog 51 #[Value.pointer x0, Value.int IntKind.i64 x1] H R :=
  calls_by (F := F51 x0 x1 R H) (.node none .leaf (.node none .leaf (.node none .leaf (.node none (.node none (.node none .leaf (.node none .leaf (.node (some ⟨[(17, 4)], [18, 19, 20, 21, 22, 23]⟩) .leaf .leaf))) .leaf) .leaf)))) Tryz.func51 rfl (F51_eq x0 x1 R H) h
/-- (*bollard/volume.Volume).Last -/
def F52 (x0 : Option Addr) (R : Ending → Heap → Prop) (H : Heap) : Prop :=
  HCalls Tryz.prog 68 #[Value.pointer x0] H (Sp.retK (fun v1 H2 =>
  dBl v1 (fun b3 =>
  sB (!b3) (R (Ending.returned (Value.int IntKind.i64 0)) H2) (nz x0 (fun a4 =>
  nz x0 (fun a5 =>
  ld H2 (Addr.add a5 4) (fun v6 =>
  dPtr v6 (fun p7 =>
  HCalls Tryz.prog 105 #[Value.pointer p7] H2 (Sp.retK (fun v8 H9 =>
  dInt IntKind.i64 v8 (fun n10 =>
  HCallsD Tryz.prog 69 #[Value.pointer (some a4)] FrameMode.returning H9 (fun e11 u12 H13 =>
  match e11 with
| Ending.returned v => leavesV Tryz.prog Tryz.f52 (Act.tmps (Act.mk #[Value.pointer x0, undef, Value.int IntKind.i64 n10, Value.pointer x0, Value.bool b3, Value.bool !b3, Value.pointer x0, Value.pointer (some a4), Value.pointer (some a4), Value.pointer x0, Value.pointer (some a5), Value.pointer (some (Addr.add a5 4)), Value.pointer p7, Value.int IntKind.i64 n10] [Deferred.mk (Target.fn (Fn.func 69) #[]) #[Value.pointer (some a4)]])) R [] (settle u12) H13
| Ending.panicked c => leavesV Tryz.prog Tryz.f52 (Act.tmps (Act.mk #[Value.pointer x0, undef, Value.int IntKind.i64 n10, Value.pointer x0, Value.bool b3, Value.bool !b3, Value.pointer x0, Value.pointer (some a4), Value.pointer (some a4), Value.pointer x0, Value.pointer (some a5), Value.pointer (some (Addr.add a5 4)), Value.pointer p7, Value.int IntKind.i64 n10] [Deferred.mk (Target.fn (Fn.func 69) #[]) #[Value.pointer (some a4)]])) R [] (raised u12 c) H13
| Ending.outgrown => False))) (fun c14 H15 =>
  HCallsD Tryz.prog 69 #[Value.pointer (some a4)] (FrameMode.panicking c14) H15 (fun e16 u17 H18 =>
  match e16 with
| Ending.returned v => leavesV Tryz.prog Tryz.f52 (Act.tmps (Act.mk #[Value.pointer x0, undef, Value.int IntKind.i64 0, Value.pointer x0, Value.bool b3, Value.bool !b3, Value.pointer x0, Value.pointer (some a4), Value.pointer (some a4), Value.pointer x0, Value.pointer (some a5), Value.pointer (some (Addr.add a5 4)), Value.pointer p7, undef] [Deferred.mk (Target.fn (Fn.func 69) #[]) #[Value.pointer (some a4)]])) R [] (settle u17) H18
| Ending.panicked c => leavesV Tryz.prog Tryz.f52 (Act.tmps (Act.mk #[Value.pointer x0, undef, Value.int IntKind.i64 0, Value.pointer x0, Value.bool b3, Value.bool !b3, Value.pointer x0, Value.pointer (some a4), Value.pointer (some a4), Value.pointer x0, Value.pointer (some a5), Value.pointer (some (Addr.add a5 4)), Value.pointer p7, undef] [Deferred.mk (Target.fn (Fn.func 69) #[]) #[Value.pointer (some a4)]])) R [] (raised u17 c) H18
| Ending.outgrown => False)))))))))) (pnR R))
theorem F52_eq (x0 : Option Addr) (R : Ending → Heap → Prop) (H : Heap) : F52 x0 R H = vc Tryz.prog (codeOf Tryz.f52) .leaf (postV Tryz.prog Tryz.f52 R) ⟨#[Value.pointer x0] ++ Array.replicate (Tryz.f52.ntmps - 1) undef, []⟩ H := by kernel_rfl
theorem F52_calls {R : Ending → Heap → Prop} {H : Heap} (x0 : Option Addr) (h : F52 x0 R H) : HCalls Tryz.prog 52 #[Value.pointer x0] H R :=
  calls_by (F := F52 x0 R H) .leaf Tryz.func52 rfl (F52_eq x0 R H) h
/-- bollard/bollardlaw09.change -/
def F53 (x0 : Option Addr) (x1_0 : Value) (x1_1 : Value) (x1_2 : Value) (x1_3 : Value) (x1_4 : Value) (x1_5 : Value) (R : Ending → Heap → Prop) (H : Heap) : Prop :=
  al H (Obj.cells #[x1_0, x1_1, x1_2, x1_3, x1_4, x1_5] 125) (fun r1 H2 =>
  ld H2 (Addr.mk r1 4 none) (fun v3 =>
  dSl v3 (fun p4 r5 r6 =>
  ld H2 (Addr.mk r1 4 none) (fun v7 =>
  dSl v7 (fun p8 r9 r10 =>
  semW Tryz.prog (Builtin.min_ #[3, 3] 3 #[Value.int IntKind.i64 (↑r9 : Int), Value.int IntKind.i64 128]) (pnR R) H2 (fun v13 H14 =>
  dInt IntKind.i64 v13 (fun n15 =>
  ask ((0 : Int) ≤ (0 : Int) ∧ (0 : Int) ≤ n15 ∧ n15 ≤ (↑r6 : Int) ∧ (↑r6 : Int) ≤ (↑r6 : Int)) (jn (α := VFH 1) (fun v16 H17 =>
  ∀ v18 v19 v20 v21 v22 v23 v24 : Value,
  dSl v16 (fun p25 r26 r27 =>
  ld H17 (Addr.mk r1 5 none) (fun v28 =>
  dSl v28 (fun p29 r30 r31 =>
  ∃ I32 : List Value → Heap → Prop,
  ∃ I33 : List Value → Heap → Nat,
  (I32 ([Value.slice none 0 0, Value.int IntKind.i64 0]) H17) ∧
  ∀ p34 : Option Addr,
  ∀ r35 : Nat,
  ∀ r36 : Nat,
  ∀ n37 : Int,
  ∀ v38 v39 v40 v41 v42 v43 v44 v45 v46 v47 v48 v49 v50 v51 v52 v53 v54 v55 v56 : Value,
  ∀ H57 : Heap,
  (I32 ([Value.slice p34 r35 r36, Value.int IntKind.i64 n37]) H57) →
  sB (decide (n37 < (↑r30 : Int))) (jn (α := VFH 1) (fun v59 H60 =>
  ∀ v61 v62 v63 v64 v65 v66 v67 v68 v69 v70 v71 v72 v73 v74 v75 v76 v77 : Value,
  dSl v59 (fun p78 r79 r80 =>
  wr IntKind.i64 (n37 + 1) (fun n81 =>
  (I32 ([Value.slice p78 r79 r80, Value.int IntKind.i64 n81]) H60) ∧
  (I33 [Value.slice p78 r79 r80, Value.int IntKind.i64 n81] H60) < (I33 [Value.slice p34 r35 r36, Value.int IntKind.i64 n37] H57)))) (fun k82 =>
  nz p29 (fun a83 =>
  ask ((0 : Int) ≤ n37 ∧ n37 < (↑r30 : Int)) (ld H57 (Addr.add a83 (Int.toNat n37 * 1)) (fun v84 =>
  dInt IntKind.i64 v84 (fun n85 =>
  HCalls Tryz.prog 52 #[Value.pointer x0] H57 (Sp.retK (fun v86 H87 =>
  dInt IntKind.i64 v86 (fun n88 =>
  sB (decide (n88 > 0)) (wr IntKind.u64 n85 (fun n89 =>
  HCalls Tryz.prog 52 #[Value.pointer x0] H87 (Sp.retK (fun v90 H91 =>
  dInt IntKind.i64 v90 (fun n92 =>
  wr IntKind.u64 n92 (fun n93 =>
  ask (n93 ≠ (0 : Int)) (nm (Int.tmod n89 n93) (fun n94 =>
  wr IntKind.i64 n94 (fun n95 =>
  wr IntKind.i64 (1 + n95) (fun n96 =>
  al H91 (Obj.cells #[Value.int IntKind.i64 n96] 3) (fun r97 H98 =>
  semW Tryz.prog (Builtin.append_ #[73, 73] 73 #[Value.slice p34 r35 r36, Value.slice (some (Addr.mk r97 0 none)) 1 1]) (pnR R) H98 (fun v101 H102 =>
  dSl v101 (fun p103 r104 r105 =>
  k82 (Value.slice p103 r104 r105) H102)))))))))) (pnR R)))) (k82 (Value.slice p34 r35 r36) H87))) (pnR R)))))))) (ld H57 (Addr.mk r1 1 none) (fun v110 =>
  dInt IntKind.i64 v110 (fun n111 =>
  wr IntKind.u64 n111 (fun n112 =>
  ld H57 (Addr.mk r1 2 none) (fun v113 =>
  dInt IntKind.i64 v113 (fun n114 =>
  wr IntKind.u64 n114 (fun n115 =>
  (HCalls Tryz.prog 24 #[Value.pointer x0] H57 (Sp.retK (fun v116 H117 =>
  dInt IntKind.i64 v116 (fun n118 =>
  (ld H117 (Addr.mk r1 2 none) (fun v119 =>
  dInt IntKind.i64 v119 (fun n120 =>
  (Value.int IntKind.i64 n120) = (Value.int IntKind.i64 n114)))) ∧
  (ld H117 (Addr.mk r1 1 none) (fun v121 =>
  dInt IntKind.i64 v121 (fun n122 =>
  (Value.int IntKind.i64 n122) = (Value.int IntKind.i64 n111)))) ∧
  wr IntKind.u64 n118 (fun n123 =>
  ask (n123 ≠ (0 : Int)) (nm (Int.tmod n112 n123) (fun n124 =>
  wr IntKind.i64 n124 (fun n125 =>
  (ld H117 (Addr.mk r1 2 none) (fun v126 =>
  dInt IntKind.i64 v126 (fun n127 =>
  (Value.int IntKind.i64 n127) = (Value.int IntKind.i64 n114)))) ∧
  (ld H117 (Addr.mk r1 1 none) (fun v128 =>
  dInt IntKind.i64 v128 (fun n129 =>
  (Value.int IntKind.i64 n129) = (Value.int IntKind.i64 n111)))) ∧
  wr IntKind.i64 (129 - (↑r26 : Int)) (fun n130 =>
  wr IntKind.u64 n130 (fun n131 =>
  ask (n131 ≠ (0 : Int)) (nm (Int.tmod n115 n131) (fun n132 =>
  wr IntKind.i64 n132 (fun n133 =>
  HCalls Tryz.prog 25 #[Value.pointer x0, Value.int IntKind.i64 n125, Value.int IntKind.i64 n133, Value.slice p25 r26 r27, Value.slice p34 r35 r36] H117 (Sp.retK (fun v134 H135 =>
  dT 2 v134 (fun v136 v137 =>
  dInt IntKind.i64 v136 (fun n138 =>
  dInt IntKind.i64 v137 (fun n139 =>
  sB (n139 == 0) (HCalls Tryz.prog 52 #[Value.pointer x0] H135 (Sp.retK (fun v140 H141 =>
  dInt IntKind.i64 v140 (fun n142 =>
  R (Ending.returned (Value.bool (n138 == n142))) H141)) (pnR R))) (R (Ending.returned (Value.bool false)) H135))))) nopR)))))))))))) nopR)) ∧
  (ld H57 (Addr.mk r1 2 none) (fun v149 =>
  dInt IntKind.i64 v149 (fun n150 =>
  (Value.int IntKind.i64 n150) = (Value.int IntKind.i64 n114)))) ∧
  (ld H57 (Addr.mk r1 1 none) (fun v151 =>
  dInt IntKind.i64 v151 (fun n152 =>
  (Value.int IntKind.i64 n152) = (Value.int IntKind.i64 n111)))) ∧
  wr IntKind.i64 (129 - (↑r26 : Int)) (fun n153 =>
  wr IntKind.u64 n153 (fun n154 =>
  ask (n154 ≠ (0 : Int)) (nm (Int.tmod n115 n154) (fun n155 =>
  wr IntKind.i64 n155 (fun n156 =>
  HCalls Tryz.prog 24 #[Value.pointer x0] H57 (Sp.retK (fun v157 H158 =>
  dInt IntKind.i64 v157 (fun n159 =>
  (ld H158 (Addr.mk r1 2 none) (fun v160 =>
  dInt IntKind.i64 v160 (fun n161 =>
  (Value.int IntKind.i64 n161) = (Value.int IntKind.i64 n114)))) ∧
  (ld H158 (Addr.mk r1 1 none) (fun v162 =>
  dInt IntKind.i64 v162 (fun n163 =>
  (Value.int IntKind.i64 n163) = (Value.int IntKind.i64 n111)))) ∧
  wr IntKind.u64 n159 (fun n164 =>
  ask (n164 ≠ (0 : Int)) (nm (Int.tmod n112 n164) (fun n165 =>
  wr IntKind.i64 n165 (fun n166 =>
  HCalls Tryz.prog 25 #[Value.pointer x0, Value.int IntKind.i64 n166, Value.int IntKind.i64 n156, Value.slice p25 r26 r27, Value.slice p34 r35 r36] H158 (Sp.retK (fun v167 H168 =>
  dT 2 v167 (fun v169 v170 =>
  dInt IntKind.i64 v169 (fun n171 =>
  dInt IntKind.i64 v170 (fun n172 =>
  sB (n172 == 0) (HCalls Tryz.prog 52 #[Value.pointer x0] H168 (Sp.retK (fun v173 H174 =>
  dInt IntKind.i64 v173 (fun n175 =>
  R (Ending.returned (Value.bool (n171 == n175))) H174)) (pnR R))) (R (Ending.returned (Value.bool false)) H168))))) nopR))))))) nopR))))))))))))))))) (fun k182 =>
  sB ((↑(Int.toNat n15 - Int.toNat 0) : Int) == 0) (ld H14 (Addr.mk r1 3 none) (fun v183 =>
  dInt IntKind.i64 v183 (fun n184 =>
  wr IntKind.u8 n184 (fun n185 =>
  al H14 (Obj.cells #[Value.int IntKind.u8 n185] 5) (fun r186 H187 =>
  k182 (Value.slice (some (Addr.mk r186 0 none)) 1 1) H187))))) (k182 (Value.slice (slO p4 1 0 (↑r6 : Int)) (Int.toNat n15 - Int.toNat 0) (Int.toNat (↑r6 : Int) - Int.toNat 0)) H14))))))))))
theorem F53_eq (x0 : Option Addr) (x1_0 : Value) (x1_1 : Value) (x1_2 : Value) (x1_3 : Value) (x1_4 : Value) (x1_5 : Value) (R : Ending → Heap → Prop) (H : Heap) : F53 x0 x1_0 x1_1 x1_2 x1_3 x1_4 x1_5 R H = vc Tryz.prog (codeOf Tryz.f53) (.node none .leaf (.node none .leaf (.node (some ⟨[(5, 38)], [18, 19, 20, 21, 22, 23, 24]⟩) .leaf (.node none .leaf (.node none (.node none .leaf (.node none (.node (some ⟨[(6, 73), (28, 3)], [8, 29, 30, 31, 32, 33, 34, 35, 36, 37, 38, 39, 40, 41, 42, 43, 44, 45, 46]⟩) (.node none .leaf (.node none .leaf (.node (some ⟨[(6, 73)], [8, 30, 31, 32, 33, 34, 35, 36, 37, 38, 39, 40, 41, 42, 43, 44, 45]⟩) .leaf .leaf))) .leaf) .leaf)) .leaf))))) (postV Tryz.prog Tryz.f53 R) ⟨#[Value.pointer x0, Value.agg #[x1_0, x1_1, x1_2, x1_3, x1_4, x1_5]] ++ Array.replicate (Tryz.f53.ntmps - 2) undef, []⟩ H := by kernel_rfl
theorem F53_calls {R : Ending → Heap → Prop} {H : Heap} (x0 : Option Addr) (x1_0 : Value) (x1_1 : Value) (x1_2 : Value) (x1_3 : Value) (x1_4 : Value) (x1_5 : Value) (h : F53 x0 x1_0 x1_1 x1_2 x1_3 x1_4 x1_5 R H) : HCalls Tryz.prog 53 #[Value.pointer x0, Value.agg #[x1_0, x1_1, x1_2, x1_3, x1_4, x1_5]] H R :=
  calls_by (F := F53 x0 x1_0 x1_1 x1_2 x1_3 x1_4 x1_5 R H) (.node none .leaf (.node none .leaf (.node (some ⟨[(5, 38)], [18, 19, 20, 21, 22, 23, 24]⟩) .leaf (.node none .leaf (.node none (.node none .leaf (.node none (.node (some ⟨[(6, 73), (28, 3)], [8, 29, 30, 31, 32, 33, 34, 35, 36, 37, 38, 39, 40, 41, 42, 43, 44, 45, 46]⟩) (.node none .leaf (.node none .leaf (.node (some ⟨[(6, 73)], [8, 30, 31, 32, 33, 34, 35, 36, 37, 38, 39, 40, 41, 42, 43, 44, 45]⟩) .leaf .leaf))) .leaf) .leaf)) .leaf))))) Tryz.func53 rfl (F53_eq x0 x1_0 x1_1 x1_2 x1_3 x1_4 x1_5 R H) h
/-- (*bollard/volume.Volume).Undo -/
def F54 (x0 : Option Addr) (x1 : Int) (R : Ending → Heap → Prop) (H : Heap) : Prop :=
  HCalls Tryz.prog 68 #[Value.pointer x0] H (Sp.retK (fun v1 H2 =>
  dBl v1 (fun b3 =>
  sB (!b3) (R (Ending.returned (Value.int IntKind.i64 2)) H2) (nz x0 (fun a4 =>
  nz x0 (fun a5 =>
  ld H2 (Addr.add a5 4) (fun v6 =>
  dPtr v6 (fun p7 =>
  HCalls Tryz.prog 106 #[Value.pointer p7, Value.int IntKind.i64 x1] H2 (Sp.retK (fun v8 H9 =>
  dInt IntKind.i64 v8 (fun n10 =>
  HCallsD Tryz.prog 69 #[Value.pointer (some a4)] FrameMode.returning H9 (fun e11 u12 H13 =>
  match e11 with
| Ending.returned v => leavesV Tryz.prog Tryz.f54 (Act.tmps (Act.mk #[Value.pointer x0, Value.int IntKind.i64 x1, undef, undef, Value.int IntKind.i64 n10, Value.pointer x0, Value.bool b3, Value.bool !b3, Value.pointer x0, Value.pointer (some a4), Value.pointer (some a4), Value.pointer x0, Value.pointer (some a5), Value.pointer (some (Addr.add a5 4)), Value.pointer p7, Value.int IntKind.i64 x1, Value.int IntKind.i64 n10] [Deferred.mk (Target.fn (Fn.func 69) #[]) #[Value.pointer (some a4)]])) R [] (settle u12) H13
| Ending.panicked c => leavesV Tryz.prog Tryz.f54 (Act.tmps (Act.mk #[Value.pointer x0, Value.int IntKind.i64 x1, undef, undef, Value.int IntKind.i64 n10, Value.pointer x0, Value.bool b3, Value.bool !b3, Value.pointer x0, Value.pointer (some a4), Value.pointer (some a4), Value.pointer x0, Value.pointer (some a5), Value.pointer (some (Addr.add a5 4)), Value.pointer p7, Value.int IntKind.i64 x1, Value.int IntKind.i64 n10] [Deferred.mk (Target.fn (Fn.func 69) #[]) #[Value.pointer (some a4)]])) R [] (raised u12 c) H13
| Ending.outgrown => False))) (fun c14 H15 =>
  HCallsD Tryz.prog 69 #[Value.pointer (some a4)] (FrameMode.panicking c14) H15 (fun e16 u17 H18 =>
  match e16 with
| Ending.returned v => leavesV Tryz.prog Tryz.f54 (Act.tmps (Act.mk #[Value.pointer x0, Value.int IntKind.i64 x1, undef, undef, Value.int IntKind.i64 0, Value.pointer x0, Value.bool b3, Value.bool !b3, Value.pointer x0, Value.pointer (some a4), Value.pointer (some a4), Value.pointer x0, Value.pointer (some a5), Value.pointer (some (Addr.add a5 4)), Value.pointer p7, Value.int IntKind.i64 x1, undef] [Deferred.mk (Target.fn (Fn.func 69) #[]) #[Value.pointer (some a4)]])) R [] (settle u17) H18
| Ending.panicked c => leavesV Tryz.prog Tryz.f54 (Act.tmps (Act.mk #[Value.pointer x0, Value.int IntKind.i64 x1, undef, undef, Value.int IntKind.i64 0, Value.pointer x0, Value.bool b3, Value.bool !b3, Value.pointer x0, Value.pointer (some a4), Value.pointer (some a4), Value.pointer x0, Value.pointer (some a5), Value.pointer (some (Addr.add a5 4)), Value.pointer p7, Value.int IntKind.i64 x1, undef] [Deferred.mk (Target.fn (Fn.func 69) #[]) #[Value.pointer (some a4)]])) R [] (raised u17 c) H18
| Ending.outgrown => False)))))))))) (pnR R))
theorem F54_eq (x0 : Option Addr) (x1 : Int) (R : Ending → Heap → Prop) (H : Heap) : F54 x0 x1 R H = vc Tryz.prog (codeOf Tryz.f54) .leaf (postV Tryz.prog Tryz.f54 R) ⟨#[Value.pointer x0, Value.int IntKind.i64 x1] ++ Array.replicate (Tryz.f54.ntmps - 2) undef, []⟩ H := by kernel_rfl
theorem F54_calls {R : Ending → Heap → Prop} {H : Heap} (x0 : Option Addr) (x1 : Int) (h : F54 x0 x1 R H) : HCalls Tryz.prog 54 #[Value.pointer x0, Value.int IntKind.i64 x1] H R :=
  calls_by (F := F54 x0 x1 R H) .leaf Tryz.func54 rfl (F54_eq x0 x1 R H) h
/-- (*bollard/volume.Volume).Old -/
def F55 (x0 : Option Addr) (x1 : Int) (R : Ending → Heap → Prop) (H : Heap) : Prop :=
  HCalls Tryz.prog 68 #[Value.pointer x0] H (Sp.retK (fun v1 H2 =>
  dBl v1 (fun b3 =>
  sB (!b3) (R (Ending.returned (Value.tuple #[Value.slice none 0 0, Value.int IntKind.i64 2])) H2) (nz x0 (fun a4 =>
  jn (α := VFH 1) (fun v5 H6 =>
  ∀ v7 v8 v9 v10 v11 v12 v13 v14 v15 v16 v17 v18 : Value,
  dBl v5 (fun b19 =>
  sB b19 (HCallsD Tryz.prog 69 #[Value.pointer (some a4)] FrameMode.returning H6 (fun e20 u21 H22 =>
  match e20 with
| Ending.returned v => leavesV Tryz.prog Tryz.f55 (Act.tmps (Act.mk #[Value.pointer x0, Value.int IntKind.i64 x1, undef, undef, Value.slice none 0 0, Value.int IntKind.i64 3, undef, undef, Value.pointer x0, Value.bool b3, Value.bool !b3, Value.pointer x0, Value.pointer (some a4), Value.pointer (some a4), v7, v8, v9, v10, v11, v12, v13, v14, v15, v16, v17, v18, Value.bool b19, undef, undef, undef, undef, undef, undef, undef, undef, undef, undef, undef, undef, undef, undef, undef, undef, undef, undef] [Deferred.mk (Target.fn (Fn.func 69) #[]) #[Value.pointer (some a4)]])) R [] (settle u21) H22
| Ending.panicked c => leavesV Tryz.prog Tryz.f55 (Act.tmps (Act.mk #[Value.pointer x0, Value.int IntKind.i64 x1, undef, undef, Value.slice none 0 0, Value.int IntKind.i64 3, undef, undef, Value.pointer x0, Value.bool b3, Value.bool !b3, Value.pointer x0, Value.pointer (some a4), Value.pointer (some a4), v7, v8, v9, v10, v11, v12, v13, v14, v15, v16, v17, v18, Value.bool b19, undef, undef, undef, undef, undef, undef, undef, undef, undef, undef, undef, undef, undef, undef, undef, undef, undef, undef] [Deferred.mk (Target.fn (Fn.func 69) #[]) #[Value.pointer (some a4)]])) R [] (raised u21 c) H22
| Ending.outgrown => False)) (nz x0 (fun a23 =>
  ld H6 (Addr.add (Addr.add a23 6) 3) (fun v24 =>
  dMap v24 (fun p25 =>
  semW Tryz.prog (Instr.lookup 53 (Value.map p25) (Value.int IntKind.i64 x1) true) (fun c26 H27 =>
  HCallsD Tryz.prog 69 #[Value.pointer (some a4)] (FrameMode.panicking c26) H27 (fun e28 u29 H30 =>
  match e28 with
| Ending.returned v => leavesV Tryz.prog Tryz.f55 (Act.tmps (Act.mk #[Value.pointer x0, Value.int IntKind.i64 x1, undef, undef, Value.slice none 0 0, Value.int IntKind.i64 0, undef, undef, Value.pointer x0, Value.bool b3, Value.bool !b3, Value.pointer x0, Value.pointer (some a4), Value.pointer (some a4), v7, v8, v9, v10, v11, v12, v13, v14, v15, v16, v17, v18, Value.bool b19, undef, Value.pointer x0, Value.pointer (some a23), Value.pointer (some (Addr.add a23 6)), Value.pointer (some (Addr.add (Addr.add a23 6) 3)), Value.map p25, Value.int IntKind.i64 x1, undef, undef, undef, undef, undef, undef, undef, undef, undef, undef, undef] [Deferred.mk (Target.fn (Fn.func 69) #[]) #[Value.pointer (some a4)]])) R [] (settle u29) H30
| Ending.panicked c => leavesV Tryz.prog Tryz.f55 (Act.tmps (Act.mk #[Value.pointer x0, Value.int IntKind.i64 x1, undef, undef, Value.slice none 0 0, Value.int IntKind.i64 0, undef, undef, Value.pointer x0, Value.bool b3, Value.bool !b3, Value.pointer x0, Value.pointer (some a4), Value.pointer (some a4), v7, v8, v9, v10, v11, v12, v13, v14, v15, v16, v17, v18, Value.bool b19, undef, Value.pointer x0, Value.pointer (some a23), Value.pointer (some (Addr.add a23 6)), Value.pointer (some (Addr.add (Addr.add a23 6) 3)), Value.map p25, Value.int IntKind.i64 x1, undef, undef, undef, undef, undef, undef, undef, undef, undef, undef, undef] [Deferred.mk (Target.fn (Fn.func 69) #[]) #[Value.pointer (some a4)]])) R [] (raised u29 c) H30
| Ending.outgrown => False)) H6 (fun v31 H32 =>
  dT 2 v31 (fun v33 v34 =>
  dSl v33 (fun p35 r36 r37 =>
  dBl v34 (fun b38 =>
  sB b38 (HCalls Tryz.prog 107 #[Value.slice p35 r36 r37] H32 (Sp.retK (fun v39 H40 =>
  dSl v39 (fun p41 r42 r43 =>
  HCallsD Tryz.prog 69 #[Value.pointer (some a4)] FrameMode.returning H40 (fun e44 u45 H46 =>
  match e44 with
| Ending.returned v => leavesV Tryz.prog Tryz.f55 (Act.tmps (Act.mk #[Value.pointer x0, Value.int IntKind.i64 x1, undef, undef, Value.slice p41 r42 r43, Value.int IntKind.i64 0, Value.slice p35 r36 r37, Value.bool b38, Value.pointer x0, Value.bool b3, Value.bool !b3, Value.pointer x0, Value.pointer (some a4), Value.pointer (some a4), v7, v8, v9, v10, v11, v12, v13, v14, v15, v16, v17, v18, Value.bool b19, Value.tuple #[Value.slice p35 r36 r37, Value.bool b38], Value.pointer x0, Value.pointer (some a23), Value.pointer (some (Addr.add a23 6)), Value.pointer (some (Addr.add (Addr.add a23 6) 3)), Value.map p25, Value.int IntKind.i64 x1, Value.tuple #[Value.slice p35 r36 r37, Value.bool b38], Value.slice p35 r36 r37, Value.bool b38, Value.bool b38, Value.slice p35 r36 r37, Value.slice p41 r42 r43, undef, undef, undef, undef, undef] [Deferred.mk (Target.fn (Fn.func 69) #[]) #[Value.pointer (some a4)]])) R [] (settle u45) H46
| Ending.panicked c => leavesV Tryz.prog Tryz.f55 (Act.tmps (Act.mk #[Value.pointer x0, Value.int IntKind.i64 x1, undef, undef, Value.slice p41 r42 r43, Value.int IntKind.i64 0, Value.slice p35 r36 r37, Value.bool b38, Value.pointer x0, Value.bool b3, Value.bool !b3, Value.pointer x0, Value.pointer (some a4), Value.pointer (some a4), v7, v8, v9, v10, v11, v12, v13, v14, v15, v16, v17, v18, Value.bool b19, Value.tuple #[Value.slice p35 r36 r37, Value.bool b38], Value.pointer x0, Value.pointer (some a23), Value.pointer (some (Addr.add a23 6)), Value.pointer (some (Addr.add (Addr.add a23 6) 3)), Value.map p25, Value.int IntKind.i64 x1, Value.tuple #[Value.slice p35 r36 r37, Value.bool b38], Value.slice p35 r36 r37, Value.bool b38, Value.bool b38, Value.slice p35 r36 r37, Value.slice p41 r42 r43, undef, undef, undef, undef, undef] [Deferred.mk (Target.fn (Fn.func 69) #[]) #[Value.pointer (some a4)]])) R [] (raised u45 c) H46
| Ending.outgrown => False))) (fun c47 H48 =>
  HCallsD Tryz.prog 69 #[Value.pointer (some a4)] (FrameMode.panicking c47) H48 (fun e49 u50 H51 =>
  match e49 with
| Ending.returned v => leavesV Tryz.prog Tryz.f55 (Act.tmps (Act.mk #[Value.pointer x0, Value.int IntKind.i64 x1, undef, undef, Value.slice none 0 0, Value.int IntKind.i64 0, Value.slice p35 r36 r37, Value.bool b38, Value.pointer x0, Value.bool b3, Value.bool !b3, Value.pointer x0, Value.pointer (some a4), Value.pointer (some a4), v7, v8, v9, v10, v11, v12, v13, v14, v15, v16, v17, v18, Value.bool b19, Value.tuple #[Value.slice p35 r36 r37, Value.bool b38], Value.pointer x0, Value.pointer (some a23), Value.pointer (some (Addr.add a23 6)), Value.pointer (some (Addr.add (Addr.add a23 6) 3)), Value.map p25, Value.int IntKind.i64 x1, Value.tuple #[Value.slice p35 r36 r37, Value.bool b38], Value.slice p35 r36 r37, Value.bool b38, Value.bool b38, Value.slice p35 r36 r37, undef, undef, undef, undef, undef, undef] [Deferred.mk (Target.fn (Fn.func 69) #[]) #[Value.pointer (some a4)]])) R [] (settle u50) H51
| Ending.panicked c => leavesV Tryz.prog Tryz.f55 (Act.tmps (Act.mk #[Value.pointer x0, Value.int IntKind.i64 x1, undef, undef, Value.slice none 0 0, Value.int IntKind.i64 0, Value.slice p35 r36 r37, Value.bool b38, Value.pointer x0, Value.bool b3, Value.bool !b3, Value.pointer x0, Value.pointer (some a4), Value.pointer (some a4), v7, v8, v9, v10, v11, v12, v13, v14, v15, v16, v17, v18, Value.bool b19, Value.tuple #[Value.slice p35 r36 r37, Value.bool b38], Value.pointer x0, Value.pointer (some a23), Value.pointer (some (Addr.add a23 6)), Value.pointer (some (Addr.add (Addr.add a23 6) 3)), Value.map p25, Value.int IntKind.i64 x1, Value.tuple #[Value.slice p35 r36 r37, Value.bool b38], Value.slice p35 r36 r37, Value.bool b38, Value.bool b38, Value.slice p35 r36 r37, undef, undef, undef, undef, undef, undef] [Deferred.mk (Target.fn (Fn.func 69) #[]) #[Value.pointer (some a4)]])) R [] (raised u50 c) H51
| Ending.outgrown => False)))) (HCalls Tryz.prog 72 #[Value.pointer x0, Value.int IntKind.i64 x1] H32 (Sp.retK (fun v52 H53 =>
  dT 2 v52 (fun v54 v55 =>
  dSl v54 (fun p56 r57 r58 =>
  dInt IntKind.i64 v55 (fun n59 =>
  HCallsD Tryz.prog 69 #[Value.pointer (some a4)] FrameMode.returning H53 (fun e60 u61 H62 =>
  match e60 with
| Ending.returned v => leavesV Tryz.prog Tryz.f55 (Act.tmps (Act.mk #[Value.pointer x0, Value.int IntKind.i64 x1, undef, undef, Value.slice p56 r57 r58, Value.int IntKind.i64 n59, Value.slice p35 r36 r37, Value.bool b38, Value.pointer x0, Value.bool b3, Value.bool !b3, Value.pointer x0, Value.pointer (some a4), Value.pointer (some a4), v7, v8, v9, v10, v11, v12, v13, v14, v15, v16, v17, v18, Value.bool b19, Value.tuple #[Value.slice p35 r36 r37, Value.bool b38], Value.pointer x0, Value.pointer (some a23), Value.pointer (some (Addr.add a23 6)), Value.pointer (some (Addr.add (Addr.add a23 6) 3)), Value.map p25, Value.int IntKind.i64 x1, Value.tuple #[Value.slice p35 r36 r37, Value.bool b38], Value.slice p35 r36 r37, Value.bool b38, Value.bool b38, undef, undef, Value.pointer x0, Value.int IntKind.i64 x1, Value.tuple #[Value.slice p56 r57 r58, Value.int IntKind.i64 n59], Value.slice p56 r57 r58, Value.int IntKind.i64 n59] [Deferred.mk (Target.fn (Fn.func 69) #[]) #[Value.pointer (some a4)]])) R [] (settle u61) H62
| Ending.panicked c => leavesV Tryz.prog Tryz.f55 (Act.tmps (Act.mk #[Value.pointer x0, Value.int IntKind.i64 x1, undef, undef, Value.slice p56 r57 r58, Value.int IntKind.i64 n59, Value.slice p35 r36 r37, Value.bool b38, Value.pointer x0, Value.bool b3, Value.bool !b3, Value.pointer x0, Value.pointer (some a4), Value.pointer (some a4), v7, v8, v9, v10, v11, v12, v13, v14, v15, v16, v17, v18, Value.bool b19, Value.tuple #[Value.slice p35 r36 r37, Value.bool b38], Value.pointer x0, Value.pointer (some a23), Value.pointer (some (Addr.add a23 6)), Value.pointer (some (Addr.add (Addr.add a23 6) 3)), Value.map p25, Value.int IntKind.i64 x1, Value.tuple #[Value.slice p35 r36 r37, Value.bool b38], Value.slice p35 r36 r37, Value.bool b38, Value.bool b38, undef, undef, Value.pointer x0, Value.int IntKind.i64 x1, Value.tuple #[Value.slice p56 r57 r58, Value.int IntKind.i64 n59], Value.slice p56 r57 r58, Value.int IntKind.i64 n59] [Deferred.mk (Target.fn (Fn.func 69) #[]) #[Value.pointer (some a4)]])) R [] (raised u61 c) H62
| Ending.outgrown => False))))) (fun c63 H64 =>
  HCallsD Tryz.prog 69 #[Value.pointer (some a4)] (FrameMode.panicking c63) H64 (fun e65 u66 H67 =>
  match e65 with
| Ending.returned v => leavesV Tryz.prog Tryz.f55 (Act.tmps (Act.mk #[Value.pointer x0, Value.int IntKind.i64 x1, undef, undef, Value.slice none 0 0, Value.int IntKind.i64 0, Value.slice p35 r36 r37, Value.bool b38, Value.pointer x0, Value.bool b3, Value.bool !b3, Value.pointer x0, Value.pointer (some a4), Value.pointer (some a4), v7, v8, v9, v10, v11, v12, v13, v14, v15, v16, v17, v18, Value.bool b19, Value.tuple #[Value.slice p35 r36 r37, Value.bool b38], Value.pointer x0, Value.pointer (some a23), Value.pointer (some (Addr.add a23 6)), Value.pointer (some (Addr.add (Addr.add a23 6) 3)), Value.map p25, Value.int IntKind.i64 x1, Value.tuple #[Value.slice p35 r36 r37, Value.bool b38], Value.slice p35 r36 r37, Value.bool b38, Value.bool b38, undef, undef, Value.pointer x0, Value.int IntKind.i64 x1, undef, undef, undef] [Deferred.mk (Target.fn (Fn.func 69) #[]) #[Value.pointer (some a4)]])) R [] (settle u66) H67
| Ending.panicked c => leavesV Tryz.prog Tryz.f55 (Act.tmps (Act.mk #[Value.pointer x0, Value.int IntKind.i64 x1, undef, undef, Value.slice none 0 0, Value.int IntKind.i64 0, Value.slice p35 r36 r37, Value.bool b38, Value.pointer x0, Value.bool b3, Value.bool !b3, Value.pointer x0, Value.pointer (some a4), Value.pointer (some a4), v7, v8, v9, v10, v11, v12, v13, v14, v15, v16, v17, v18, Value.bool b19, Value.tuple #[Value.slice p35 r36 r37, Value.bool b38], Value.pointer x0, Value.pointer (some a23), Value.pointer (some (Addr.add a23 6)), Value.pointer (some (Addr.add (Addr.add a23 6) 3)), Value.map p25, Value.int IntKind.i64 x1, Value.tuple #[Value.slice p35 r36 r37, Value.bool b38], Value.slice p35 r36 r37, Value.bool b38, Value.bool b38, undef, undef, Value.pointer x0, Value.int IntKind.i64 x1, undef, undef, undef] [Deferred.mk (Target.fn (Fn.func 69) #[]) #[Value.pointer (some a4)]])) R [] (raised u66 c) H67
| Ending.outgrown => False)))))))))))))) (fun k68 =>
  nz x0 (fun a69 =>
  ld H2 (Addr.add a69 6) (fun v70 =>
  dBl v70 (fun b71 =>
  sB (!b71) (k68 (Value.bool true) H2) (nz x0 (fun a72 =>
  ld H2 (Addr.add (Addr.add a72 6) 1) (fun v73 =>
  dBl v73 (fun b74 =>
  k68 (Value.bool b74) H2)))))))))))) (pnR R))
theorem F55_eq (x0 : Option Addr) (x1 : Int) (R : Ending → Heap → Prop) (H : Heap) : F55 x0 x1 R H = vc Tryz.prog (codeOf Tryz.f55) (.node none .leaf (.node none .leaf (.node none .leaf (.node none (.node (some ⟨[(26, 4)], [14, 15, 16, 17, 18, 19, 20, 21, 22, 23, 24, 25]⟩) .leaf .leaf) .leaf)))) (postV Tryz.prog Tryz.f55 R) ⟨#[Value.pointer x0, Value.int IntKind.i64 x1] ++ Array.replicate (Tryz.f55.ntmps - 2) undef, []⟩ H := by kernel_rfl
theorem F55_calls {R : Ending → Heap → Prop} {H : Heap} (x0 : Option Addr) (x1 : Int) (h : F55 x0 x1 R H) : HCalls Tryz.prog 55 #[Value.pointer x0, Value.int IntKind.i64 x1] H R :=
  calls_by (F := F55 x0 x1 R H) (.node none .leaf (.node none .leaf (.node none .leaf (.node none (.node (some ⟨[(26, 4)], [14, 15, 16, 17, 18, 19, 20, 21, 22, 23, 24, 25]⟩) .leaf .leaf) .leaf)))) Tryz.func55 rfl (F55_eq x0 x1 R H) h
/-- bytes.Equal -/
def F56 (x0a : Option Addr) (x0n : Nat) (x0c : Nat) (x1a : Option Addr) (x1n : Nat) (x1c : Nat) (R : Ending → Heap → Prop) (H : Heap) : Prop :=
  semW Tryz.prog (convert 38 9 (Value.slice x0a x0n x0c)) (pnR R) H (fun v3 H4 =>
  dStr v3 (fun s5 =>
  semW Tryz.prog (convert 38 9 (Value.slice x1a x1n x1c)) (pnR R) H4 (fun v8 H9 =>
  dStr v8 (fun s10 =>
  R (Ending.returned (Value.bool (ByteArray.toList s5 == ByteArray.toList s10))) H9))))
theorem F56_eq (x0a : Option Addr) (x0n : Nat) (x0c : Nat) (x1a : Option Addr) (x1n : Nat) (x1c : Nat) (R : Ending → Heap → Prop) (H : Heap) : F56 x0a x0n x0c x1a x1n x1c R H = vc Tryz.prog (codeOf Tryz.f56) .leaf (postV Tryz.prog Tryz.f56 R) ⟨#[Value.slice x0a x0n x0c, Value.slice x1a x1n x1c] ++ Array.replicate (Tryz.f56.ntmps - 2) undef, []⟩ H := by kernel_rfl
theorem F56_calls {R : Ending → Heap → Prop} {H : Heap} (x0a : Option Addr) (x0n : Nat) (x0c : Nat) (x1a : Option Addr) (x1n : Nat) (x1c : Nat) (h : F56 x0a x0n x0c x1a x1n x1c R H) : HCalls Tryz.prog 56 #[Value.slice x0a x0n x0c, Value.slice x1a x1n x1c] H R :=
  calls_by (F := F56 x0a x0n x0c x1a x1n x1c R H) .leaf Tryz.func56 rfl (F56_eq x0a x0n x0c x1a x1n x1c R H) h
/-- (*bollard/volume.Volume).Broken -/
def F57 (x0 : Option Addr) (R : Ending → Heap → Prop) (H : Heap) : Prop :=
  HCalls Tryz.prog 68 #[Value.pointer x0] H (Sp.retK (fun v1 H2 =>
  dBl v1 (fun b3 =>
  sB (!b3) (R (Ending.returned (Value.bool false)) H2) (nz x0 (fun a4 =>
  nz x0 (fun a5 =>
  ld H2 (Addr.add (Addr.add a5 6) 1) (fun v6 =>
  dBl v6 (fun b7 =>
  HCallsD Tryz.prog 69 #[Value.pointer (some a4)] FrameMode.returning H2 (fun e8 u9 H10 =>
  match e8 with
| Ending.returned v => leavesV Tryz.prog Tryz.f57 (Act.tmps (Act.mk #[Value.pointer x0, undef, Value.bool b7, Value.pointer x0, Value.bool b3, Value.bool !b3, Value.pointer x0, Value.pointer (some a4), Value.pointer (some a4), Value.pointer x0, Value.pointer (some a5), Value.pointer (some (Addr.add a5 6)), Value.pointer (some (Addr.add (Addr.add a5 6) 1)), Value.bool b7] [Deferred.mk (Target.fn (Fn.func 69) #[]) #[Value.pointer (some a4)]])) R [] (settle u9) H10
| Ending.panicked c => leavesV Tryz.prog Tryz.f57 (Act.tmps (Act.mk #[Value.pointer x0, undef, Value.bool b7, Value.pointer x0, Value.bool b3, Value.bool !b3, Value.pointer x0, Value.pointer (some a4), Value.pointer (some a4), Value.pointer x0, Value.pointer (some a5), Value.pointer (some (Addr.add a5 6)), Value.pointer (some (Addr.add (Addr.add a5 6) 1)), Value.bool b7] [Deferred.mk (Target.fn (Fn.func 69) #[]) #[Value.pointer (some a4)]])) R [] (raised u9 c) H10
| Ending.outgrown => False)))))))) (pnR R))
theorem F57_eq (x0 : Option Addr) (R : Ending → Heap → Prop) (H : Heap) : F57 x0 R H = vc Tryz.prog (codeOf Tryz.f57) .leaf (postV Tryz.prog Tryz.f57 R) ⟨#[Value.pointer x0] ++ Array.replicate (Tryz.f57.ntmps - 1) undef, []⟩ H := by kernel_rfl
theorem F57_calls {R : Ending → Heap → Prop} {H : Heap} (x0 : Option Addr) (h : F57 x0 R H) : HCalls Tryz.prog 57 #[Value.pointer x0] H R :=
  calls_by (F := F57 x0 R H) .leaf Tryz.func57 rfl (F57_eq x0 R H) h
/-- (*bollard/volume.Volume).Kept -/
def F58 (x0 : Option Addr) (R : Ending → Heap → Prop) (H : Heap) : Prop :=
  HCalls Tryz.prog 68 #[Value.pointer x0] H (Sp.retK (fun v1 H2 =>
  dBl v1 (fun b3 =>
  sB (!b3) (R (Ending.returned (Value.int IntKind.i64 0)) H2) (nz x0 (fun a4 =>
  nz x0 (fun a5 =>
  ld H2 (Addr.add (Addr.add a5 6) 3) (fun v6 =>
  dMap v6 (fun p7 =>
  semW Tryz.prog (Builtin.len_ #[53] 3 #[Value.map p7]) (fun c8 H9 =>
  HCallsD Tryz.prog 69 #[Value.pointer (some a4)] (FrameMode.panicking c8) H9 (fun e10 u11 H12 =>
  match e10 with
| Ending.returned v => leavesV Tryz.prog Tryz.f58 (Act.tmps (Act.mk #[Value.pointer x0, undef, Value.int IntKind.i64 0, Value.pointer x0, Value.bool b3, Value.bool !b3, Value.pointer x0, Value.pointer (some a4), Value.pointer (some a4), Value.pointer x0, Value.pointer (some a5), Value.pointer (some (Addr.add a5 6)), Value.pointer (some (Addr.add (Addr.add a5 6) 3)), Value.map p7, undef] [Deferred.mk (Target.fn (Fn.func 69) #[]) #[Value.pointer (some a4)]])) R [] (settle u11) H12
| Ending.panicked c => leavesV Tryz.prog Tryz.f58 (Act.tmps (Act.mk #[Value.pointer x0, undef, Value.int IntKind.i64 0, Value.pointer x0, Value.bool b3, Value.bool !b3, Value.pointer x0, Value.pointer (some a4), Value.pointer (some a4), Value.pointer x0, Value.pointer (some a5), Value.pointer (some (Addr.add a5 6)), Value.pointer (some (Addr.add (Addr.add a5 6) 3)), Value.map p7, undef] [Deferred.mk (Target.fn (Fn.func 69) #[]) #[Value.pointer (some a4)]])) R [] (raised u11 c) H12
| Ending.outgrown => False)) H2 (fun v13 H14 =>
  dInt IntKind.i64 v13 (fun n15 =>
  HCallsD Tryz.prog 69 #[Value.pointer (some a4)] FrameMode.returning H14 (fun e16 u17 H18 =>
  match e16 with
| Ending.returned v => leavesV Tryz.prog Tryz.f58 (Act.tmps (Act.mk #[Value.pointer x0, undef, Value.int IntKind.i64 n15, Value.pointer x0, Value.bool b3, Value.bool !b3, Value.pointer x0, Value.pointer (some a4), Value.pointer (some a4), Value.pointer x0, Value.pointer (some a5), Value.pointer (some (Addr.add a5 6)), Value.pointer (some (Addr.add (Addr.add a5 6) 3)), Value.map p7, Value.int IntKind.i64 n15] [Deferred.mk (Target.fn (Fn.func 69) #[]) #[Value.pointer (some a4)]])) R [] (settle u17) H18
| Ending.panicked c => leavesV Tryz.prog Tryz.f58 (Act.tmps (Act.mk #[Value.pointer x0, undef, Value.int IntKind.i64 n15, Value.pointer x0, Value.bool b3, Value.bool !b3, Value.pointer x0, Value.pointer (some a4), Value.pointer (some a4), Value.pointer x0, Value.pointer (some a5), Value.pointer (some (Addr.add a5 6)), Value.pointer (some (Addr.add (Addr.add a5 6) 3)), Value.map p7, Value.int IntKind.i64 n15] [Deferred.mk (Target.fn (Fn.func 69) #[]) #[Value.pointer (some a4)]])) R [] (raised u17 c) H18
| Ending.outgrown => False)))))))))) (pnR R))
theorem F58_eq (x0 : Option Addr) (R : Ending → Heap → Prop) (H : Heap) : F58 x0 R H = vc Tryz.prog (codeOf Tryz.f58) .leaf (postV Tryz.prog Tryz.f58 R) ⟨#[Value.pointer x0] ++ Array.replicate (Tryz.f58.ntmps - 1) undef, []⟩ H := by kernel_rfl
theorem F58_calls {R : Ending → Heap → Prop} {H : Heap} (x0 : Option Addr) (h : F58 x0 R H) : HCalls Tryz.prog 58 #[Value.pointer x0] H R :=
  calls_by (F := F58 x0 R H) .leaf Tryz.func58 rfl (F58_eq x0 R H) h
end Go.Proofs.YtngploohhmfaiaaGreat.E
