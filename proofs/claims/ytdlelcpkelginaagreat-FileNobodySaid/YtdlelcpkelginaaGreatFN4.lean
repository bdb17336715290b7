/- My own texts, joined. -/
import Derived.KernelRfl
import Derived.Test.YtdlelcpkelginaaGreatProg
import Derived.Test.YtdlelcpkelginaaGreatFN3
/- The functions' forms in the engine's words, printed by my own program. -/
namespace Go.Proofs.YtdlelcpkelginaaGreat.E
open Go Go.Proofs
set_option linter.unusedVariables false
/-- bollard/file.Write -/
def F46 (x0 : Option Addr) (x1_0 : Value) (x1_1 : Value) (x1_2 : Value) (x2 : Int) (x3 : Int) (x4a : Option Addr) (x4n : Nat) (x4c : Nat) (R : Ending → Heap → Prop) (H : Heap) : Prop :=
  al H (Obj.cells #[x1_0, x1_1, x1_2] 23) (fun r1 H2 =>
  ld H2 (Addr.mk r1 0 none) (fun v3 =>
  ld H2 (Addr.mk r1 1 none) (fun v4 =>
  ld H2 (Addr.mk r1 2 none) (fun v5 =>
  HCalls Tryz.prog 129 #[Value.pointer x0, Value.agg #[v3, v4, v5], Value.int IntKind.i64 x2] H2 (Sp.retK (fun v6 H7 =>
  dT 2 v6 (fun v8 v9 =>
  dPtr v8 (fun p10 =>
  dInt IntKind.i64 v9 (fun n11 =>
  sB (n11 != 0) (R (Ending.returned (Value.tuple #[Value.slice none 0 0, Value.int IntKind.i64 n11])) H7) (sB (decide (x3 < 0)) (R (Ending.returned (Value.tuple #[Value.slice none 0 0, Value.int IntKind.i64 1])) H7) (jn (α := VFH 1) (fun v12 H13 =>
  ∀ v14 v15 v16 v17 v18 v19 v20 v21 v22 v23 : Value,
  dBl v12 (fun b24 =>
  sB b24 (R (Ending.returned (Value.tuple #[Value.slice none 0 0, Value.int IntKind.i64 150])) H13) (sB ((↑x4n : Int) == 0) (R (Ending.returned (Value.tuple #[Value.slice none 0 0, Value.int IntKind.i64 0])) H13) (al H13 (Obj.cells #[Value.pointer p10, Value.int IntKind.i64 x3, Value.slice x4a x4n x4c, Value.slice none 0 0] 215) (fun r25 H26 =>
  HCalls Tryz.prog 131 #[Value.pointer p10, Value.func (Fn.func 132) #[Value.pointer (some (Addr.mk r25 0 none))] #[]] H26 (Sp.retK (fun v27 H28 =>
  dT 2 v27 (fun v29 v30 =>
  dSl v29 (fun p31 r32 r33 =>
  dInt IntKind.i64 v30 (fun n34 =>
  R (Ending.returned (Value.tuple #[Value.slice p31 r32 r33, Value.int IntKind.i64 n34])) H28)))) (pnR R))))))) (fun k37 =>
  sB (decide ((↑x4n : Int) > 532992)) (k37 (Value.bool true) H7) (wr IntKind.i64 (532992 - (↑x4n : Int)) (fun n38 =>
  k37 (Value.bool (decide (x3 > n38))) H7))))))))) (pnR R))))))
theorem F46_eq (x0 : Option Addr) (x1_0 : Value) (x1_1 : Value) (x1_2 : Value) (x2 : Int) (x3 : Int) (x4a : Option Addr) (x4n : Nat) (x4c : Nat) (R : Ending → Heap → Prop) (H : Heap) : F46 x0 x1_0 x1_1 x1_2 x2 x3 x4a x4n x4c R H = vc Tryz.prog (codeOf Tryz.f46) (.node none .leaf (.node none .leaf (.node none (.node none (.node none .leaf (.node none .leaf (.node none .leaf (.node none .leaf (.node (some ⟨[(29, 4)], [30, 31, 32, 33, 34, 35, 36, 37, 38, 39]⟩) .leaf .leaf))))) .leaf) .leaf))) (postV Tryz.prog Tryz.f46 R) ⟨#[Value.pointer x0, Value.agg #[x1_0, x1_1, x1_2], Value.int IntKind.i64 x2, Value.int IntKind.i64 x3, Value.slice x4a x4n x4c] ++ Array.replicate (Tryz.f46.ntmps - 5) undef, []⟩ H := by kernel_rfl
theorem F46_calls {R : Ending → Heap → Prop} {H : Heap} (x0 : Option Addr) (x1_0 : Value) (x1_1 : Value) (x1_2 : Value) (x2 : Int) (x3 : Int) (x4a : Option Addr) (x4n : Nat) (x4c : Nat) (h : F46 x0 x1_0 x1_1 x1_2 x2 x3 x4a x4n x4c R H) : HCalls Tryz.prog 46 #[Value.pointer x0, Value.agg #[x1_0, x1_1, x1_2], Value.int IntKind.i64 x2, Value.int IntKind.i64 x3, Value.slice x4a x4n x4c] H R :=
  calls_by (F := F46 x0 x1_0 x1_1 x1_2 x2 x3 x4a x4n x4c R H) (.node none .leaf (.node none .leaf (.node none (.node none (.node none .leaf (.node none .leaf (.node none .leaf (.node none .leaf (.node (some ⟨[(29, 4)], [30, 31, 32, 33, 34, 35, 36, 37, 38, 39]⟩) .leaf .leaf))))) .leaf) .leaf))) Tryz.func46 rfl (F46_eq x0 x1_0 x1_1 x1_2 x2 x3 x4a x4n x4c R H) h
/-- bollard/file.Truncate -/
def F47 (x0 : Option Addr) (x1_0 : Value) (x1_1 : Value) (x1_2 : Value) (x2 : Int) (x3 : Int) (R : Ending → Heap → Prop) (H : Heap) : Prop :=
  al H (Obj.cells #[x1_0, x1_1, x1_2] 23) (fun r1 H2 =>
  ld H2 (Addr.mk r1 0 none) (fun v3 =>
  ld H2 (Addr.mk r1 1 none) (fun v4 =>
  ld H2 (Addr.mk r1 2 none) (fun v5 =>
  HCalls Tryz.prog 129 #[Value.pointer x0, Value.agg #[v3, v4, v5], Value.int IntKind.i64 x2] H2 (Sp.retK (fun v6 H7 =>
  dT 2 v6 (fun v8 v9 =>
  dPtr v8 (fun p10 =>
  dInt IntKind.i64 v9 (fun n11 =>
  sB (n11 != 0) (R (Ending.returned (Value.tuple #[Value.slice none 0 0, Value.int IntKind.i64 n11])) H7) (sB (decide (x3 < 0)) (R (Ending.returned (Value.tuple #[Value.slice none 0 0, Value.int IntKind.i64 1])) H7) (sB (decide (x3 > 532992)) (R (Ending.returned (Value.tuple #[Value.slice none 0 0, Value.int IntKind.i64 150])) H7) (wr IntKind.i64 (x3 + 128) (fun n12 =>
  wr IntKind.i64 (n12 - 1) (fun n13 =>
  ask ((128 : Int) ≠ (0 : Int)) (wr IntKind.i64 (Int.tdiv n13 128) (fun n14 =>
  al H7 (Obj.cells #[Value.pointer p10, Value.int IntKind.i64 x3, Value.int IntKind.i64 n14, Value.slice none 0 0] 219) (fun r15 H16 =>
  nz p10 (fun a17 =>
  ld H16 (Addr.add (Addr.add a17 5) 2) (fun v18 =>
  dInt IntKind.i64 v18 (fun n19 =>
  sB (x3 == n19) (R (Ending.returned (Value.tuple #[Value.slice none 0 0, Value.int IntKind.i64 0])) H16) (nz p10 (fun a20 =>
  ld H16 (Addr.add (Addr.add a20 5) 2) (fun v21 =>
  dInt IntKind.i64 v21 (fun n22 =>
  sB (decide (x3 > n22)) (HCalls Tryz.prog 131 #[Value.pointer p10, Value.func (Fn.func 133) #[Value.pointer (some (Addr.mk r15 0 none))] #[]] H16 (Sp.retK (fun v23 H24 =>
  dT 2 v23 (fun v25 v26 =>
  dSl v25 (fun p27 r28 r29 =>
  dInt IntKind.i64 v26 (fun n30 =>
  R (Ending.returned (Value.tuple #[Value.slice p27 r28 r29, Value.int IntKind.i64 n30])) H24)))) (pnR R))) (HCalls Tryz.prog 131 #[Value.pointer p10, Value.func (Fn.func 134) #[Value.pointer (some (Addr.mk r15 0 none))] #[]] H16 (Sp.retK (fun v33 H34 =>
  dT 2 v33 (fun v35 v36 =>
  dSl v35 (fun p37 r38 r39 =>
  dInt IntKind.i64 v36 (fun n40 =>
  R (Ending.returned (Value.tuple #[Value.slice p37 r38 r39, Value.int IntKind.i64 n40])) H34)))) (pnR R)))))))))))))))))))))) (pnR R))))))
theorem F47_eq (x0 : Option Addr) (x1_0 : Value) (x1_1 : Value) (x1_2 : Value) (x2 : Int) (x3 : Int) (R : Ending → Heap → Prop) (H : Heap) : F47 x0 x1_0 x1_1 x1_2 x2 x3 R H = vc Tryz.prog (codeOf Tryz.f47) .leaf (postV Tryz.prog Tryz.f47 R) ⟨#[Value.pointer x0, Value.agg #[x1_0, x1_1, x1_2], Value.int IntKind.i64 x2, Value.int IntKind.i64 x3] ++ Array.replicate (Tryz.f47.ntmps - 4) undef, []⟩ H := by kernel_rfl
theorem F47_calls {R : Ending → Heap → Prop} {H : Heap} (x0 : Option Addr) (x1_0 : Value) (x1_1 : Value) (x1_2 : Value) (x2 : Int) (x3 : Int) (h : F47 x0 x1_0 x1_1 x1_2 x2 x3 R H) : HCalls Tryz.prog 47 #[Value.pointer x0, Value.agg #[x1_0, x1_1, x1_2], Value.int IntKind.i64 x2, Value.int IntKind.i64 x3] H R :=
  calls_by (F := F47 x0 x1_0 x1_1 x1_2 x2 x3 R H) .leaf Tryz.func47 rfl (F47_eq x0 x1_0 x1_1 x1_2 x2 x3 R H) h
/-- bollard/bollardplain.Of -/
def F54 (x0a : Option Addr) (x0n : Nat) (x0c : Nat) (x1 : Int) (R : Ending → Heap → Prop) (H : Heap) : Prop :=
  al H (Obj.cells #[Value.pointer none, Value.pointer none, Value.pointer none, Value.pointer none] 40) (fun r1 H2 =>
  HCalls Tryz.prog 27 #[Value.slice x0a x0n x0c] H2 (Sp.retK (fun v3 H4 =>
  dSl v3 (fun p5 r6 r7 =>
  HCalls Tryz.prog 26 #[Value.slice p5 r6 r7] H4 (Sp.retK (fun v8 H9 =>
  dT 2 v8 (fun v10 v11 =>
  dPtr v10 (fun p12 =>
  dInt IntKind.i64 v11 (fun n13 =>
  HCalls Tryz.prog 28 #[Value.slice x0a x0n x0c] H9 (Sp.retK (fun v14 H15 =>
  dT 2 v14 (fun v16 v17 =>
  dPtr v16 (fun p18 =>
  dInt IntKind.i64 v17 (fun n19 =>
  jn (α := VFH 1) (fun v20 H21 =>
  ∀ v22 v23 v24 v25 v26 v27 v28 v29 v30 v31 : Value,
  dBl v20 (fun b32 =>
  sB b32 (sB (n13 == n19) (sB (Option.isNone p12) (R (Ending.returned (Value.tuple #[Value.pointer none, Value.bool (Option.isNone p18)])) H21) (R (Ending.returned (Value.tuple #[Value.pointer none, Value.bool false])) H21)) (R (Ending.returned (Value.tuple #[Value.pointer none, Value.bool false])) H21)) (HCalls Tryz.prog 81 #[Value.pointer p12, Value.int IntKind.i64 x1] H21 (Sp.retK (fun v33 H34 =>
  dT 2 v33 (fun v35 v36 =>
  dPtr v35 (fun p37 =>
  dInt IntKind.i64 v36 (fun n38 =>
  HCalls Tryz.prog 84 #[Value.pointer p18, Value.int IntKind.i64 x1] H34 (Sp.retK (fun v39 H40 =>
  dT 2 v39 (fun v41 v42 =>
  dPtr v41 (fun p43 =>
  dInt IntKind.i64 v42 (fun n44 =>
  jn (α := VFH 1) (fun v45 H46 =>
  ∀ v47 v48 v49 v50 v51 v52 v53 v54 v55 : Value,
  dBl v45 (fun b56 =>
  sB b56 (R (Ending.returned (Value.tuple #[Value.pointer none, Value.bool false])) H46) (sB (Option.isNone p43) (R (Ending.returned (Value.tuple #[Value.pointer none, Value.bool true])) H46) (st H46 (Addr.mk r1 0 none) (Value.pointer p12) (fun H57 =>
  st H57 (Addr.mk r1 1 none) (Value.pointer p37) (fun H58 =>
  st H58 (Addr.mk r1 2 none) (Value.pointer p18) (fun H59 =>
  st H59 (Addr.mk r1 3 none) (Value.pointer p43) (fun H60 =>
  R (Ending.returned (Value.tuple #[Value.pointer (some (Addr.mk r1 0 none)), Value.bool true])) H60)))))))) (fun k61 =>
  sB (n38 != n44) (k61 (Value.bool true) H40) (k61 (Value.bool !Option.isNone p37 == Option.isNone p43) H40)))))) (pnR R)))))) (pnR R))))) (fun k66 =>
  sB (n13 != n19) (k66 (Value.bool true) H15) (sB (Option.isNone p12) (k66 (Value.bool true) H15) (k66 (Value.bool (Option.isNone p18)) H15))))))) (pnR R)))))) (pnR R)))) (pnR R)))
theorem F54_eq (x0a : Option Addr) (x0n : Nat) (x0c : Nat) (x1 : Int) (R : Ending → Heap → Prop) (H : Heap) : F54 x0a x0n x0c x1 R H = vc Tryz.prog (codeOf Tryz.f54) (.node none .leaf (.node none .leaf (.node none .leaf (.node none .leaf (.node none (.node (some ⟨[(36, 4)], [26, 27, 28, 29, 30, 31, 32, 33, 34, 35]⟩) .leaf .leaf) (.node none .leaf (.node none .leaf (.node none (.node (some ⟨[(69, 4)], [60, 61, 62, 63, 64, 65, 66, 67, 68]⟩) .leaf .leaf) .leaf)))))))) (postV Tryz.prog Tryz.f54 R) ⟨#[Value.slice x0a x0n x0c, Value.int IntKind.i64 x1] ++ Array.replicate (Tryz.f54.ntmps - 2) undef, []⟩ H := by kernel_rfl
theorem F54_calls {R : Ending → Heap → Prop} {H : Heap} (x0a : Option Addr) (x0n : Nat) (x0c : Nat) (x1 : Int) (h : F54 x0a x0n x0c x1 R H) : HCalls Tryz.prog 54 #[Value.slice x0a x0n x0c, Value.int IntKind.i64 x1] H R :=
  calls_by (F := F54 x0a x0n x0c x1 R H) (.node none .leaf (.node none .leaf (.node none .leaf (.node none .leaf (.node none (.node (some ⟨[(36, 4)], [26, 27, 28, 29, 30, 31, 32, 33, 34, 35]⟩) .leaf .leaf) (.node none .leaf (.node none .leaf (.node none (.node (some ⟨[(69, 4)], [60, 61, 62, 63, 64, 65, 66, 67, 68]⟩) .leaf .leaf) .leaf)))))))) Tryz.func54 rfl (F54_eq x0a x0n x0c x1 R H) h
/-- bollard/inode.place -/
def F55 (x0 : Option Addr) (x1_0 : Value) (x1_1 : Value) (x1_2 : Value) (x2 : Int) (R : Ending → Heap → Prop) (H : Heap) : Prop :=
  al H (Obj.cells #[x1_0, x1_1, x1_2] 23) (fun r1 H2 =>
  ld H2 (Addr.mk r1 0 none) (fun v3 =>
  ld H2 (Addr.mk r1 1 none) (fun v4 =>
  ld H2 (Addr.mk r1 2 none) (fun v5 =>
  HCalls Tryz.prog 109 #[Value.pointer x0, Value.agg #[v3, v4, v5]] H2 (Sp.retK (fun v6 H7 =>
  dInt IntKind.i64 v6 (fun n8 =>
  sB (n8 != 0) (R (Ending.returned (Value.tuple #[Value.int IntKind.i64 0, Value.int IntKind.i64 0, Value.int IntKind.i64 n8])) H7) (ld H7 (Addr.mk r1 0 none) (fun v9 =>
  ld H7 (Addr.mk r1 1 none) (fun v10 =>
  ld H7 (Addr.mk r1 2 none) (fun v11 =>
  HCalls Tryz.prog 141 #[Value.agg #[v9, v10, v11], Value.int IntKind.i64 x2] H7 (Sp.retK (fun v12 H13 =>
  dT 3 v12 (fun v14 v15 v16 =>
  dInt IntKind.i64 v14 (fun n17 =>
  dInt IntKind.i64 v15 (fun n18 =>
  dBl v16 (fun b19 =>
  sB (!b19) (R (Ending.returned (Value.tuple #[Value.int IntKind.i64 0, Value.int IntKind.i64 0, Value.int IntKind.i64 130])) H13) (R (Ending.returned (Value.tuple #[Value.int IntKind.i64 n17, Value.int IntKind.i64 n18, Value.int IntKind.i64 0])) H13)))))) (pnR R)))))))) (pnR R))))))
theorem F55_eq (x0 : Option Addr) (x1_0 : Value) (x1_1 : Value) (x1_2 : Value) (x2 : Int) (R : Ending → Heap → Prop) (H : Heap) : F55 x0 x1_0 x1_1 x1_2 x2 R H = vc Tryz.prog (codeOf Tryz.f55) .leaf (postV Tryz.prog Tryz.f55 R) ⟨#[Value.pointer x0, Value.agg #[x1_0, x1_1, x1_2], Value.int IntKind.i64 x2] ++ Array.replicate (Tryz.f55.ntmps - 3) undef, []⟩ H := by kernel_rfl
theorem F55_calls {R : Ending → Heap → Prop} {H : Heap} (x0 : Option Addr) (x1_0 : Value) (x1_1 : Value) (x1_2 : Value) (x2 : Int) (h : F55 x0 x1_0 x1_1 x1_2 x2 R H) : HCalls Tryz.prog 55 #[Value.pointer x0, Value.agg #[x1_0, x1_1, x1_2], Value.int IntKind.i64 x2] H R :=
  calls_by (F := F55 x0 x1_0 x1_1 x1_2 x2 R H) .leaf Tryz.func55 rfl (F55_eq x0 x1_0 x1_1 x1_2 x2 R H) h
end Go.Proofs.YtdlelcpkelginaaGreat.E
/- The functions' forms in the engine's words, printed by my own program. -/
namespace Go.Proofs.YtdlelcpkelginaaGreat.E
open Go Go.Proofs
set_option linter.unusedVariables false
/-- (*bollard/volume.Volume).Read -/
def F56 (x0 : Option Addr) (x1 : Int) (R : Ending → Heap → Prop) (H : Heap) : Prop :=
  HCalls Tryz.prog 68 #[Value.pointer x0] H (Sp.retK (fun v1 H2 =>
  dBl v1 (fun b3 =>
  sB (!b3) (R (Ending.returned (Value.tuple #[Value.slice none 0 0, Value.int IntKind.i64 2])) H2) (nz x0 (fun a4 =>
  HCalls Tryz.prog 71 #[Value.pointer x0, Value.int IntKind.i64 x1] H2 (Sp.retK (fun v5 H6 =>
  dT 2 v5 (fun v7 v8 =>
  dSl v7 (fun p9 r10 r11 =>
  dInt IntKind.i64 v8 (fun n12 =>
  HCallsD Tryz.prog 69 #[Value.pointer (some a4)] FrameMode.returning H6 (fun e13 u14 H15 =>
  match e13 with
| Ending.returned v => leavesV Tryz.prog Tryz.f56 (Act.tmps (Act.mk #[Value.pointer x0, Value.int IntKind.i64 x1, undef, undef, Value.slice p9 r10 r11, Value.int IntKind.i64 n12, Value.pointer x0, Value.bool b3, Value.bool !b3, Value.pointer x0, Value.pointer (some a4), Value.pointer (some a4), Value.pointer x0, Value.int IntKind.i64 x1, Value.tuple #[Value.slice p9 r10 r11, Value.int IntKind.i64 n12], Value.slice p9 r10 r11, Value.int IntKind.i64 n12] [Deferred.mk (Target.fn (Fn.func 69) #[]) #[Value.pointer (some a4)]])) R [] (settle u14) H15
| Ending.panicked c => leavesV Tryz.prog Tryz.f56 (Act.tmps (Act.mk #[Value.pointer x0, Value.int IntKind.i64 x1, undef, undef, Value.slice p9 r10 r11, Value.int IntKind.i64 n12, Value.pointer x0, Value.bool b3, Value.bool !b3, Value.pointer x0, Value.pointer (some a4), Value.pointer (some a4), Value.pointer x0, Value.int IntKind.i64 x1, Value.tuple #[Value.slice p9 r10 r11, Value.int IntKind.i64 n12], Value.slice p9 r10 r11, Value.int IntKind.i64 n12] [Deferred.mk (Target.fn (Fn.func 69) #[]) #[Value.pointer (some a4)]])) R [] (raised u14 c) H15
| Ending.outgrown => False))))) (fun c16 H17 =>
  HCallsD Tryz.prog 69 #[Value.pointer (some a4)] (FrameMode.panicking c16) H17 (fun e18 u19 H20 =>
  match e18 with
| Ending.returned v => leavesV Tryz.prog Tryz.f56 (Act.tmps (Act.mk #[Value.pointer x0, Value.int IntKind.i64 x1, undef, undef, Value.slice none 0 0, Value.int IntKind.i64 0, Value.pointer x0, Value.bool b3, Value.bool !b3, Value.pointer x0, Value.pointer (some a4), Value.pointer (some a4), Value.pointer x0, Value.int IntKind.i64 x1, undef, undef, undef] [Deferred.mk (Target.fn (Fn.func 69) #[]) #[Value.pointer (some a4)]])) R [] (settle u19) H20
| Ending.panicked c => leavesV Tryz.prog Tryz.f56 (Act.tmps (Act.mk #[Value.pointer x0, Value.int IntKind.i64 x1, undef, undef, Value.slice none 0 0, Value.int IntKind.i64 0, Value.pointer x0, Value.bool b3, Value.bool !b3, Value.pointer x0, Value.pointer (some a4), Value.pointer (some a4), Value.pointer x0, Value.int IntKind.i64 x1, undef, undef, undef] [Deferred.mk (Target.fn (Fn.func 69) #[]) #[Value.pointer (some a4)]])) R [] (raised u19 c) H20
| Ending.outgrown => False))))))) (pnR R))
theorem F56_eq (x0 : Option Addr) (x1 : Int) (R : Ending → Heap → Prop) (H : Heap) : F56 x0 x1 R H = vc Tryz.prog (codeOf Tryz.f56) .leaf (postV Tryz.prog Tryz.f56 R) ⟨#[Value.pointer x0, Value.int IntKind.i64 x1] ++ Array.replicate (Tryz.f56.ntmps - 2) undef, []⟩ H := by kernel_rfl
theorem F56_calls {R : Ending → Heap → Prop} {H : Heap} (x0 : Option Addr) (x1 : Int) (h : F56 x0 x1 R H) : HCalls Tryz.prog 56 #[Value.pointer x0, Value.int IntKind.i64 x1] H R :=
  calls_by (F := F56 x0 x1 R H) .leaf Tryz.func56 rfl (F56_eq x0 x1 R H) h
/-- bollard/layout.DecodeDinode -/
def F57 (x0a : Option Addr) (x0n : Nat) (x0c : Nat) (R : Ending → Heap → Prop) (H : Heap) : Prop :=
  al H (Obj.cells #[Value.int IntKind.i64 0, Value.int IntKind.i64 0, Value.int IntKind.i64 0, Value.int IntKind.i64 0, Value.int IntKind.i64 0, Value.int IntKind.i64 0, Value.int IntKind.i64 0, Value.int IntKind.i64 0, Value.int IntKind.i64 0] 26) (fun r1 H2 =>
  sB ((↑x0n : Int) != 32) (st H2 (Addr.mk r1 0 none) (Value.int IntKind.i64 0) (fun H3 =>
  st H3 (Addr.mk r1 1 none) (Value.int IntKind.i64 0) (fun H4 =>
  st H4 (Addr.mk r1 2 none) (Value.int IntKind.i64 0) (fun H5 =>
  st H5 (Addr.mk r1 3 none) (Value.int IntKind.i64 0) (fun H6 =>
  st H6 (Addr.mk r1 4 none) (Value.int IntKind.i64 0) (fun H7 =>
  st H7 (Addr.mk r1 5 none) (Value.int IntKind.i64 0) (fun H8 =>
  st H8 (Addr.mk r1 6 none) (Value.int IntKind.i64 0) (fun H9 =>
  st H9 (Addr.mk r1 7 none) (Value.int IntKind.i64 0) (fun H10 =>
  st H10 (Addr.mk r1 8 none) (Value.int IntKind.i64 0) (fun H11 =>
  ld H11 (Addr.mk r1 0 none) (fun v12 =>
  ld H11 (Addr.mk r1 1 none) (fun v13 =>
  ld H11 (Addr.mk r1 2 none) (fun v14 =>
  ld H11 (Addr.mk r1 3 none) (fun v15 =>
  ld H11 (Addr.mk r1 4 none) (fun v16 =>
  ld H11 (Addr.mk r1 5 none) (fun v17 =>
  ld H11 (Addr.mk r1 6 none) (fun v18 =>
  ld H11 (Addr.mk r1 7 none) (fun v19 =>
  ld H11 (Addr.mk r1 8 none) (fun v20 =>
  R (Ending.returned (Value.tuple #[Value.agg #[v12, v13, v14, v15, v16, v17, v18, v19, v20], Value.int IntKind.i64 6])) H11))))))))))))))))))) (HCalls Tryz.prog 142 #[Value.slice x0a x0n x0c] H2 (Sp.retK (fun v21 H22 =>
  dBl v21 (fun b23 =>
  sB b23 (st H22 (Addr.mk r1 0 none) (Value.int IntKind.i64 0) (fun H24 =>
  st H24 (Addr.mk r1 1 none) (Value.int IntKind.i64 0) (fun H25 =>
  st H25 (Addr.mk r1 2 none) (Value.int IntKind.i64 0) (fun H26 =>
  st H26 (Addr.mk r1 3 none) (Value.int IntKind.i64 0) (fun H27 =>
  st H27 (Addr.mk r1 4 none) (Value.int IntKind.i64 0) (fun H28 =>
  st H28 (Addr.mk r1 5 none) (Value.int IntKind.i64 0) (fun H29 =>
  st H29 (Addr.mk r1 6 none) (Value.int IntKind.i64 0) (fun H30 =>
  st H30 (Addr.mk r1 7 none) (Value.int IntKind.i64 0) (fun H31 =>
  st H31 (Addr.mk r1 8 none) (Value.int IntKind.i64 0) (fun H32 =>
  ld H32 (Addr.mk r1 0 none) (fun v33 =>
  ld H32 (Addr.mk r1 1 none) (fun v34 =>
  ld H32 (Addr.mk r1 2 none) (fun v35 =>
  ld H32 (Addr.mk r1 3 none) (fun v36 =>
  ld H32 (Addr.mk r1 4 none) (fun v37 =>
  ld H32 (Addr.mk r1 5 none) (fun v38 =>
  ld H32 (Addr.mk r1 6 none) (fun v39 =>
  ld H32 (Addr.mk r1 7 none) (fun v40 =>
  ld H32 (Addr.mk r1 8 none) (fun v41 =>
  R (Ending.returned (Value.tuple #[Value.agg #[v33, v34, v35, v36, v37, v38, v39, v40, v41], Value.int IntKind.i64 0])) H32))))))))))))))))))) (HCalls Tryz.prog 143 #[Value.slice x0a x0n x0c] H22 (Sp.retK (fun v42 H43 =>
  dBl v42 (fun b44 =>
  sB (!b44) (st H43 (Addr.mk r1 0 none) (Value.int IntKind.i64 0) (fun H45 =>
  st H45 (Addr.mk r1 1 none) (Value.int IntKind.i64 0) (fun H46 =>
  st H46 (Addr.mk r1 2 none) (Value.int IntKind.i64 0) (fun H47 =>
  st H47 (Addr.mk r1 3 none) (Value.int IntKind.i64 0) (fun H48 =>
  st H48 (Addr.mk r1 4 none) (Value.int IntKind.i64 0) (fun H49 =>
  st H49 (Addr.mk r1 5 none) (Value.int IntKind.i64 0) (fun H50 =>
  st H50 (Addr.mk r1 6 none) (Value.int IntKind.i64 0) (fun H51 =>
  st H51 (Addr.mk r1 7 none) (Value.int IntKind.i64 0) (fun H52 =>
  st H52 (Addr.mk r1 8 none) (Value.int IntKind.i64 0) (fun H53 =>
  ld H53 (Addr.mk r1 0 none) (fun v54 =>
  ld H53 (Addr.mk r1 1 none) (fun v55 =>
  ld H53 (Addr.mk r1 2 none) (fun v56 =>
  ld H53 (Addr.mk r1 3 none) (fun v57 =>
  ld H53 (Addr.mk r1 4 none) (fun v58 =>
  ld H53 (Addr.mk r1 5 none) (fun v59 =>
  ld H53 (Addr.mk r1 6 none) (fun v60 =>
  ld H53 (Addr.mk r1 7 none) (fun v61 =>
  ld H53 (Addr.mk r1 8 none) (fun v62 =>
  R (Ending.returned (Value.tuple #[Value.agg #[v54, v55, v56, v57, v58, v59, v60, v61, v62], Value.int IntKind.i64 30])) H53))))))))))))))))))) (HCalls Tryz.prog 144 #[Value.slice x0a x0n x0c] H43 (Sp.retK (fun v63 H64 =>
  dPtr v63 (fun p65 =>
  HCalls Tryz.prog 145 #[Value.pointer p65, Value.int IntKind.i64 1] H64 (Sp.retK (fun v66 H67 =>
  dInt IntKind.i64 v66 (fun n68 =>
  al H67 (Obj.cells #[Value.int IntKind.i64 0, Value.int IntKind.i64 0, Value.int IntKind.i64 0, Value.int IntKind.i64 0, Value.int IntKind.i64 0, Value.int IntKind.i64 0, Value.int IntKind.i64 0, Value.int IntKind.i64 0, Value.int IntKind.i64 0] 26) (fun r69 H70 =>
  st H70 (Addr.mk r69 0 none) (Value.int IntKind.i64 n68) (fun H71 =>
  st H71 (Addr.mk r69 1 none) (Value.int IntKind.i64 0) (fun H72 =>
  st H72 (Addr.mk r69 2 none) (Value.int IntKind.i64 0) (fun H73 =>
  st H73 (Addr.mk r69 3 none) (Value.int IntKind.i64 0) (fun H74 =>
  st H74 (Addr.mk r69 4 none) (Value.int IntKind.i64 0) (fun H75 =>
  st H75 (Addr.mk r69 5 none) (Value.int IntKind.i64 0) (fun H76 =>
  st H76 (Addr.mk r69 6 none) (Value.int IntKind.i64 0) (fun H77 =>
  st H77 (Addr.mk r69 7 none) (Value.int IntKind.i64 0) (fun H78 =>
  st H78 (Addr.mk r69 8 none) (Value.int IntKind.i64 0) (fun H79 =>
  HCalls Tryz.prog 146 #[Value.pointer p65, Value.int IntKind.i64 1] H79 (Sp.retK (fun v80 H81 =>
  HCalls Tryz.prog 145 #[Value.pointer p65, Value.int IntKind.i64 2] H81 (Sp.retK (fun v82 H83 =>
  dInt IntKind.i64 v82 (fun n84 =>
  HCalls Tryz.prog 145 #[Value.pointer p65, Value.int IntKind.i64 4] H83 (Sp.retK (fun v85 H86 =>
  dInt IntKind.i64 v85 (fun n87 =>
  st H86 (Addr.mk r69 1 none) (Value.int IntKind.i64 n84) (fun H88 =>
  st H88 (Addr.mk r69 2 none) (Value.int IntKind.i64 n87) (fun H89 =>
  ∃ I90 : List Value → Heap → Prop,
  ∃ I91 : List Value → Heap → Nat,
  (I90 ([Value.int IntKind.i64 0]) H89) ∧
  ∀ n92 : Int,
  ∀ v93 v94 v95 v96 v97 v98 v99 v100 v101 : Value,
  ∀ H102 : Heap,
  (I90 ([Value.int IntKind.i64 n92]) H102) →
  sB (decide (n92 < 4)) (HCalls Tryz.prog 145 #[Value.pointer p65, Value.int IntKind.i64 2] H102 (Sp.retK (fun v104 H105 =>
  dInt IntKind.i64 v104 (fun n106 =>
  ask ((0 : Int) ≤ n92 ∧ n92 < (4 : Int)) (st H105 (Addr.add (Addr.mk r69 3 none) (Int.toNat n92 * 1)) (Value.int IntKind.i64 n106) (fun H107 =>
  wr IntKind.i64 (n92 + 1) (fun n108 =>
  (I90 ([Value.int IntKind.i64 n108]) H107) ∧
  (I91 [Value.int IntKind.i64 n108] H107) < (I91 [Value.int IntKind.i64 n92] H102)))))) (pnR R))) (HCalls Tryz.prog 145 #[Value.pointer p65, Value.int IntKind.i64 2] H102 (Sp.retK (fun v111 H112 =>
  dInt IntKind.i64 v111 (fun n113 =>
  HCalls Tryz.prog 145 #[Value.pointer p65, Value.int IntKind.i64 2] H112 (Sp.retK (fun v114 H115 =>
  dInt IntKind.i64 v114 (fun n116 =>
  st H115 (Addr.mk r69 7 none) (Value.int IntKind.i64 n113) (fun H117 =>
  st H117 (Addr.mk r69 8 none) (Value.int IntKind.i64 n116) (fun H118 =>
  ld H118 (Addr.mk r69 0 none) (fun v119 =>
  ld H118 (Addr.mk r69 1 none) (fun v120 =>
  ld H118 (Addr.mk r69 2 none) (fun v121 =>
  ld H118 (Addr.mk r69 3 none) (fun v122 =>
  ld H118 (Addr.mk r69 4 none) (fun v123 =>
  ld H118 (Addr.mk r69 5 none) (fun v124 =>
  ld H118 (Addr.mk r69 6 none) (fun v125 =>
  ld H118 (Addr.mk r69 7 none) (fun v126 =>
  ld H118 (Addr.mk r69 8 none) (fun v127 =>
  HCalls Tryz.prog 58 #[Value.agg #[v119, v120, v121, v122, v123, v124, v125, v126, v127]] H118 (Sp.retK (fun v128 H129 =>
  dT 2 v128 (fun v130 v131 =>
  dSl v130 (fun p132 r133 r134 =>
  dInt IntKind.i64 v131 (fun n135 =>
  jn (α := VFH 1) (fun v136 H137 =>
  ∀ v138 v139 v140 v141 v142 v143 v144 : Value,
  dBl v136 (fun b145 =>
  sB b145 (st H137 (Addr.mk r1 0 none) (Value.int IntKind.i64 0) (fun H146 =>
  st H146 (Addr.mk r1 1 none) (Value.int IntKind.i64 0) (fun H147 =>
  st H147 (Addr.mk r1 2 none) (Value.int IntKind.i64 0) (fun H148 =>
  st H148 (Addr.mk r1 3 none) (Value.int IntKind.i64 0) (fun H149 =>
  st H149 (Addr.mk r1 4 none) (Value.int IntKind.i64 0) (fun H150 =>
  st H150 (Addr.mk r1 5 none) (Value.int IntKind.i64 0) (fun H151 =>
  st H151 (Addr.mk r1 6 none) (Value.int IntKind.i64 0) (fun H152 =>
  st H152 (Addr.mk r1 7 none) (Value.int IntKind.i64 0) (fun H153 =>
  st H153 (Addr.mk r1 8 none) (Value.int IntKind.i64 0) (fun H154 =>
  ld H154 (Addr.mk r1 0 none) (fun v155 =>
  ld H154 (Addr.mk r1 1 none) (fun v156 =>
  ld H154 (Addr.mk r1 2 none) (fun v157 =>
  ld H154 (Addr.mk r1 3 none) (fun v158 =>
  ld H154 (Addr.mk r1 4 none) (fun v159 =>
  ld H154 (Addr.mk r1 5 none) (fun v160 =>
  ld H154 (Addr.mk r1 6 none) (fun v161 =>
  ld H154 (Addr.mk r1 7 none) (fun v162 =>
  ld H154 (Addr.mk r1 8 none) (fun v163 =>
  R (Ending.returned (Value.tuple #[Value.agg #[v155, v156, v157, v158, v159, v160, v161, v162, v163], Value.int IntKind.i64 6])) H154))))))))))))))))))) (ld H137 (Addr.mk r69 0 none) (fun v164 =>
  ld H137 (Addr.mk r69 1 none) (fun v165 =>
  ld H137 (Addr.mk r69 2 none) (fun v166 =>
  ld H137 (Addr.mk r69 3 none) (fun v167 =>
  ld H137 (Addr.mk r69 4 none) (fun v168 =>
  ld H137 (Addr.mk r69 5 none) (fun v169 =>
  ld H137 (Addr.mk r69 6 none) (fun v170 =>
  ld H137 (Addr.mk r69 7 none) (fun v171 =>
  ld H137 (Addr.mk r69 8 none) (fun v172 =>
  st H137 (Addr.mk r1 0 none) v164 (fun H173 =>
  st H173 (Addr.mk r1 1 none) v165 (fun H174 =>
  st H174 (Addr.mk r1 2 none) v166 (fun H175 =>
  st H175 (Addr.mk r1 3 none) v167 (fun H176 =>
  st H176 (Addr.mk r1 4 none) v168 (fun H177 =>
  st H177 (Addr.mk r1 5 none) v169 (fun H178 =>
  st H178 (Addr.mk r1 6 none) v170 (fun H179 =>
  st H179 (Addr.mk r1 7 none) v171 (fun H180 =>
  st H180 (Addr.mk r1 8 none) v172 (fun H181 =>
  ld H181 (Addr.mk r1 0 none) (fun v182 =>
  ld H181 (Addr.mk r1 1 none) (fun v183 =>
  ld H181 (Addr.mk r1 2 none) (fun v184 =>
  ld H181 (Addr.mk r1 3 none) (fun v185 =>
  ld H181 (Addr.mk r1 4 none) (fun v186 =>
  ld H181 (Addr.mk r1 5 none) (fun v187 =>
  ld H181 (Addr.mk r1 6 none) (fun v188 =>
  ld H181 (Addr.mk r1 7 none) (fun v189 =>
  ld H181 (Addr.mk r1 8 none) (fun v190 =>
  R (Ending.returned (Value.tuple #[Value.agg #[v182, v183, v184, v185, v186, v187, v188, v189, v190], Value.int IntKind.i64 0])) H181)))))))))))))))))))))))))))))) (fun k191 =>
  sB (n135 != 0) (k191 (Value.bool true) H129) (HCalls Tryz.prog 147 #[Value.slice p132 r133 r134, Value.slice x0a x0n x0c] H129 (Sp.retK (fun v192 H193 =>
  dBl v192 (fun b194 =>
  k191 (Value.bool !b194) H193)) (pnR R)))))))) (pnR R))))))))))))))) (pnR R)))) (pnR R))))))) (pnR R)))) (pnR R))) (pnR R)))))))))))))) (pnR R)))) (pnR R))))) (pnR R))))) (pnR R))))
theorem F57_eq (x0a : Option Addr) (x0n : Nat) (x0c : Nat) (R : Ending → Heap → Prop) (H : Heap) : F57 x0a x0n x0c R H = vc Tryz.prog (codeOf Tryz.f57) (.node none .leaf (.node none .leaf (.node none .leaf (.node none .leaf (.node none .leaf (.node none .leaf (.node none (.node none .leaf (.node none (.node (some ⟨[(36, 3)], [6, 37, 38, 39, 40, 41, 42, 43, 44]⟩) .leaf .leaf) .leaf)) (.node none .leaf (.node none .leaf (.node none (.node (some ⟨[(63, 4)], [56, 57, 58, 59, 60, 61, 62]⟩) .leaf .leaf) .leaf)))))))))) (postV Tryz.prog Tryz.f57 R) ⟨#[Value.slice x0a x0n x0c] ++ Array.replicate (Tryz.f57.ntmps - 1) undef, []⟩ H := by kernel_rfl
theorem F57_calls {R : Ending → Heap → Prop} {H : Heap} (x0a : Option Addr) (x0n : Nat) (x0c : Nat) (h : F57 x0a x0n x0c R H) : HCalls Tryz.prog 57 #[Value.slice x0a x0n x0c] H R :=
  calls_by (F := F57 x0a x0n x0c R H) (.node none .leaf (.node none .leaf (.node none .leaf (.node none .leaf (.node none .leaf (.node none .leaf (.node none (.node none .leaf (.node none (.node (some ⟨[(36, 3)], [6, 37, 38, 39, 40, 41, 42, 43, 44]⟩) .leaf .leaf) .leaf)) (.node none .leaf (.node none .leaf (.node none (.node (some ⟨[(63, 4)], [56, 57, 58, 59, 60, 61, 62]⟩) .leaf .leaf) .leaf)))))))))) Tryz.func57 rfl (F57_eq x0a x0n x0c R H) h
/-- bollard/layout.EncodeDinode -/
def F58 (x0_0 : Value) (x0_1 : Value) (x0_2 : Value) (x0_3 : Value) (x0_4 : Value) (x0_5 : Value) (x0_6 : Value) (x0_7 : Value) (x0_8 : Value) (R : Ending → Heap → Prop) (H : Heap) : Prop :=
  al H (Obj.cells #[x0_0, x0_1, x0_2, x0_3, x0_4, x0_5, x0_6, x0_7, x0_8] 26) (fun r1 H2 =>
  ld H2 (Addr.mk r1 0 none) (fun v3 =>
  dInt IntKind.i64 v3 (fun n4 =>
  ld H2 (Addr.mk r1 1 none) (fun v5 =>
  dInt IntKind.i64 v5 (fun n6 =>
  ld H2 (Addr.mk r1 2 none) (fun v7 =>
  dInt IntKind.i64 v7 (fun n8 =>
  al H2 (Obj.cells #[Value.int IntKind.i64 1, Value.int IntKind.i64 2, Value.int IntKind.i64 n4, Value.int IntKind.i64 1, Value.int IntKind.i64 0, Value.int IntKind.i64 0, Value.int IntKind.i64 2, Value.int IntKind.i64 1000, Value.int IntKind.i64 n6, Value.int IntKind.i64 4, Value.int IntKind.i64 532992, Value.int IntKind.i64 n8] 235) (fun r9 H10 =>
  ld H10 (Addr.mk r1 3 none) (fun v11 =>
  ld H10 (Addr.mk r1 4 none) (fun v12 =>
  ld H10 (Addr.mk r1 5 none) (fun v13 =>
  ld H10 (Addr.mk r1 6 none) (fun v14 =>
  ∃ I15 : List Value → Heap → Prop,
  ∃ I16 : List Value → Heap → Nat,
  (I15 ([Value.slice (some (Addr.mk r9 0 none)) 4 4, Value.int IntKind.i64 0]) H10) ∧
  ∀ p17 : Option Addr,
  ∀ r18 : Nat,
  ∀ r19 : Nat,
  ∀ n20 : Int,
  ∀ v21 v22 v23 v24 v25 v26 v27 v28 v29 : Value,
  ∀ H30 : Heap,
  (I15 ([Value.slice p17 r18 r19, Value.int IntKind.i64 n20]) H30) →
  sB (decide (n20 < 4)) (ask ((0 : Int) ≤ n20 ∧ n20 < (4 : Int)) (oV ([v11, v12, v13, v14][Int.toNat n20 * 1]?) (fun v32 =>
  dInt IntKind.i64 v32 (fun n33 =>
  al H30 (Obj.cells #[Value.int IntKind.i64 2, Value.int IntKind.i64 2047, Value.int IntKind.i64 n33] 235) (fun r34 H35 =>
  semW Tryz.prog (Builtin.append_ #[236, 236] 236 #[Value.slice p17 r18 r19, Value.slice (some (Addr.mk r34 0 none)) 1 1]) (pnR R) H35 (fun v38 H39 =>
  dSl v38 (fun p40 r41 r42 =>
  wr IntKind.i64 (n20 + 1) (fun n43 =>
  (I15 ([Value.slice p40 r41 r42, Value.int IntKind.i64 n43]) H39) ∧
  (I16 [Value.slice p40 r41 r42, Value.int IntKind.i64 n43] H39) < (I16 [Value.slice p17 r18 r19, Value.int IntKind.i64 n20] H30))))))))) (ld H30 (Addr.mk r1 7 none) (fun v44 =>
  dInt IntKind.i64 v44 (fun n45 =>
  ld H30 (Addr.mk r1 8 none) (fun v46 =>
  dInt IntKind.i64 v46 (fun n47 =>
  al H30 (Obj.cells #[Value.int IntKind.i64 2, Value.int IntKind.i64 2047, Value.int IntKind.i64 n45, Value.int IntKind.i64 2, Value.int IntKind.i64 2047, Value.int IntKind.i64 n47] 235) (fun r48 H49 =>
  semW Tryz.prog (Builtin.append_ #[236, 236] 236 #[Value.slice p17 r18 r19, Value.slice (some (Addr.mk r48 0 none)) 2 2]) (pnR R) H49 (fun v52 H53 =>
  dSl v52 (fun p54 r55 r56 =>
  jn (α := VFH 1) (fun v57 H58 =>
  ∀ v59 v60 v61 v62 v63 v64 v65 : Value,
  dBl v57 (fun b66 =>
  sB b66 (R (Ending.returned (Value.tuple #[Value.slice none 0 0, Value.int IntKind.i64 1])) H58) (HCalls Tryz.prog 151 #[Value.slice none 0 0, Value.slice p54 r55 r56] H58 (Sp.retK (fun v67 H68 =>
  dSl v67 (fun p69 r70 r71 =>
  HCalls Tryz.prog 150 #[Value.slice p69 r70 r71, Value.int IntKind.i64 32] H68 (Sp.retK (fun v72 H73 =>
  dSl v72 (fun p74 r75 r76 =>
  ld H73 (Addr.mk r1 0 none) (fun v77 =>
  dInt IntKind.i64 v77 (fun n78 =>
  sB (n78 == 0) (R (Ending.returned (Value.tuple #[Value.slice p74 r75 r76, Value.int IntKind.i64 0])) H73) (HCalls Tryz.prog 152 #[Value.slice p74 r75 r76] H73 (Sp.retK (fun v79 H80 =>
  dT 2 v79 (fun v81 v82 =>
  dSl v81 (fun p83 r84 r85 =>
  dInt IntKind.i64 v82 (fun n86 =>
  R (Ending.returned (Value.tuple #[Value.slice p83 r84 r85, Value.int IntKind.i64 n86])) H80)))) (pnR R))))))) (pnR R)))) (pnR R))))) (fun k93 =>
  ld H53 (Addr.mk r1 0 none) (fun v94 =>
  ld H53 (Addr.mk r1 1 none) (fun v95 =>
  ld H53 (Addr.mk r1 2 none) (fun v96 =>
  ld H53 (Addr.mk r1 3 none) (fun v97 =>
  ld H53 (Addr.mk r1 4 none) (fun v98 =>
  ld H53 (Addr.mk r1 5 none) (fun v99 =>
  ld H53 (Addr.mk r1 6 none) (fun v100 =>
  ld H53 (Addr.mk r1 7 none) (fun v101 =>
  ld H53 (Addr.mk r1 8 none) (fun v102 =>
  HCalls Tryz.prog 148 #[Value.agg #[v94, v95, v96, v97, v98, v99, v100, v101, v102]] H53 (Sp.retK (fun v103 H104 =>
  dBl v103 (fun b105 =>
  sB (!b105) (k93 (Value.bool true) H104) (HCalls Tryz.prog 149 #[Value.slice p54 r55 r56] H104 (Sp.retK (fun v106 H107 =>
  dBl v106 (fun b108 =>
  k93 (Value.bool !b108) H107)) (pnR R))))) (pnR R))))))))))))))))))))))))))))))))
theorem F58_eq (x0_0 : Value) (x0_1 : Value) (x0_2 : Value) (x0_3 : Value) (x0_4 : Value) (x0_5 : Value) (x0_6 : Value) (x0_7 : Value) (x0_8 : Value) (R : Ending → Heap → Prop) (H : Heap) : F58 x0_0 x0_1 x0_2 x0_3 x0_4 x0_5 x0_6 x0_7 x0_8 R H = vc Tryz.prog (codeOf Tryz.f58) (.node none .leaf (.node none .leaf (.node none (.node none .leaf (.node none (.node (some ⟨[(4, 236), (21, 3)], [6, 22, 23, 24, 25, 26, 27, 28, 29]⟩) .leaf .leaf) .leaf)) (.node none .leaf (.node none (.node (some ⟨[(46, 4)], [39, 40, 41, 42, 43, 44, 45]⟩) .leaf .leaf) .leaf))))) (postV Tryz.prog Tryz.f58 R) ⟨#[Value.agg #[x0_0, x0_1, x0_2, x0_3, x0_4, x0_5, x0_6, x0_7, x0_8]] ++ Array.replicate (Tryz.f58.ntmps - 1) undef, []⟩ H := by kernel_rfl
theorem F58_calls {R : Ending → Heap → Prop} {H : Heap} (x0_0 : Value) (x0_1 : Value) (x0_2 : Value) (x0_3 : Value) (x0_4 : Value) (x0_5 : Value) (x0_6 : Value) (x0_7 : Value) (x0_8 : Value) (h : F58 x0_0 x0_1 x0_2 x0_3 x0_4 x0_5 x0_6 x0_7 x0_8 R H) : HCalls Tryz.prog 58 #[Value.agg #[x0_0, x0_1, x0_2, x0_3, x0_4, x0_5, x0_6, x0_7, x0_8]] H R :=
  calls_by (F := F58 x0_0 x0_1 x0_2 x0_3 x0_4 x0_5 x0_6 x0_7 x0_8 R H) (.node none .leaf (.node none .leaf (.node none (.node none .leaf (.node none (.node (some ⟨[(4, 236), (21, 3)], [6, 22, 23, 24, 25, 26, 27, 28, 29]⟩) .leaf .leaf) .leaf)) (.node none .leaf (.node none (.node (some ⟨[(46, 4)], [39, 40, 41, 42, 43, 44, 45]⟩) .leaf .leaf) .leaf))))) Tryz.func58 rfl (F58_eq x0_0 x0_1 x0_2 x0_3 x0_4 x0_5 x0_6 x0_7 x0_8 R H) h
/-- bollard/bollardref03.EncodeDinode -/
def F61 (x0_0 : Value) (x0_1 : Value) (x0_2 : Value) (x0_3 : Value) (x0_4 : Value) (x0_5 : Value) (x0_6 : Value) (x0_7 : Value) (x0_8 : Value) (R : Ending → Heap → Prop) (H : Heap) : Prop :=
  al H (Obj.cells #[x0_0, x0_1, x0_2, x0_3, x0_4, x0_5, x0_6, x0_7, x0_8] 26) (fun r1 H2 =>
  ld H2 (Addr.mk r1 0 none) (fun v3 =>
  ld H2 (Addr.mk r1 1 none) (fun v4 =>
  ld H2 (Addr.mk r1 2 none) (fun v5 =>
  ld H2 (Addr.mk r1 3 none) (fun v6 =>
  ld H2 (Addr.mk r1 4 none) (fun v7 =>
  ld H2 (Addr.mk r1 5 none) (fun v8 =>
  ld H2 (Addr.mk r1 6 none) (fun v9 =>
  ld H2 (Addr.mk r1 7 none) (fun v10 =>
  ld H2 (Addr.mk r1 8 none) (fun v11 =>
  HCalls Tryz.prog 154 #[Value.agg #[v3, v4, v5, v6, v7, v8, v9, v10, v11]] H2 (Sp.retK (fun v12 H13 =>
  dBl v12 (fun b14 =>
  sB (!b14) (R (Ending.returned (Value.tuple #[Value.slice none 0 0, Value.int IntKind.i64 1])) H13) (ask ((0 : Int) ≤ (32 : Int) ∧ (32 : Int) ≤ (32 : Int) ∧ (32 : Int) ≤ (281474976710656 : Int) ∧ (32 : Int) ≤ (9223372036854775807 : Int)) (al H13 (Obj.cells (List.toArray (rowZ [Value.int IntKind.u8 0] (Int.toNat 32))) 5) (fun r15 H16 =>
  ld H16 (Addr.mk r1 0 none) (fun v17 =>
  dInt IntKind.i64 v17 (fun n18 =>
  sB (n18 == 0) (R (Ending.returned (Value.tuple #[Value.slice (some (Addr.mk r15 0 none)) (Int.toNat 32) (Int.toNat 32), Value.int IntKind.i64 0])) H16) (ld H16 (Addr.mk r1 0 none) (fun v19 =>
  dInt IntKind.i64 v19 (fun n20 =>
  HCalls Tryz.prog 155 #[Value.slice (some (Addr.mk r15 0 none)) (Int.toNat 32) (Int.toNat 32), Value.int IntKind.i64 0, Value.int IntKind.i64 1, Value.int IntKind.i64 n20] H16 (Sp.retK (fun v21 H22 =>
  dSl v21 (fun p23 r24 r25 =>
  ld H22 (Addr.mk r1 1 none) (fun v26 =>
  dInt IntKind.i64 v26 (fun n27 =>
  HCalls Tryz.prog 155 #[Value.slice p23 r24 r25, Value.int IntKind.i64 2, Value.int IntKind.i64 2, Value.int IntKind.i64 n27] H22 (Sp.retK (fun v28 H29 =>
  dSl v28 (fun p30 r31 r32 =>
  ld H29 (Addr.mk r1 2 none) (fun v33 =>
  dInt IntKind.i64 v33 (fun n34 =>
  HCalls Tryz.prog 155 #[Value.slice p30 r31 r32, Value.int IntKind.i64 4, Value.int IntKind.i64 4, Value.int IntKind.i64 n34] H29 (Sp.retK (fun v35 H36 =>
  dSl v35 (fun p37 r38 r39 =>
  ld H36 (Addr.mk r1 3 none) (fun v40 =>
  ld H36 (Addr.mk r1 4 none) (fun v41 =>
  ld H36 (Addr.mk r1 5 none) (fun v42 =>
  ld H36 (Addr.mk r1 6 none) (fun v43 =>
  ∃ I44 : List Value → Heap → Prop,
  ∃ I45 : List Value → Heap → Nat,
  (I44 ([Value.slice p37 r38 r39, Value.int IntKind.i64 0]) H36) ∧
  ∀ p46 : Option Addr,
  ∀ r47 : Nat,
  ∀ r48 : Nat,
  ∀ n49 : Int,
  ∀ v50 v51 v52 v53 v54 v55 v56 v57 v58 v59 v60 v61 : Value,
  ∀ H62 : Heap,
  (I44 ([Value.slice p46 r47 r48, Value.int IntKind.i64 n49]) H62) →
  sB (decide (n49 < 4)) (ask ((0 : Int) ≤ n49 ∧ n49 < (4 : Int)) (oV ([v40, v41, v42, v43][Int.toNat n49 * 1]?) (fun v64 =>
  dInt IntKind.i64 v64 (fun n65 =>
  wr IntKind.i64 (2 * n49) (fun n66 =>
  wr IntKind.i64 (8 + n66) (fun n67 =>
  HCalls Tryz.prog 155 #[Value.slice p46 r47 r48, Value.int IntKind.i64 n67, Value.int IntKind.i64 2, Value.int IntKind.i64 n65] H62 (Sp.retK (fun v68 H69 =>
  dSl v68 (fun p70 r71 r72 =>
  wr IntKind.i64 (n49 + 1) (fun n73 =>
  (I44 ([Value.slice p70 r71 r72, Value.int IntKind.i64 n73]) H69) ∧
  (I45 [Value.slice p70 r71 r72, Value.int IntKind.i64 n73] H69) < (I45 [Value.slice p46 r47 r48, Value.int IntKind.i64 n49] H62)))) (pnR R)))))))) (ld H62 (Addr.mk r1 7 none) (fun v76 =>
  dInt IntKind.i64 v76 (fun n77 =>
  HCalls Tryz.prog 155 #[Value.slice p46 r47 r48, Value.int IntKind.i64 16, Value.int IntKind.i64 2, Value.int IntKind.i64 n77] H62 (Sp.retK (fun v78 H79 =>
  dSl v78 (fun p80 r81 r82 =>
  ld H79 (Addr.mk r1 8 none) (fun v83 =>
  dInt IntKind.i64 v83 (fun n84 =>
  HCalls Tryz.prog 155 #[Value.slice p80 r81 r82, Value.int IntKind.i64 18, Value.int IntKind.i64 2, Value.int IntKind.i64 n84] H79 (Sp.retK (fun v85 H86 =>
  dSl v85 (fun p87 r88 r89 =>
  HCalls Tryz.prog 156 #[Value.slice p87 r88 r89] H86 (Sp.retK (fun v90 H91 =>
  dT 2 v90 (fun v92 v93 =>
  dSl v92 (fun p94 r95 r96 =>
  dInt IntKind.i64 v93 (fun n97 =>
  R (Ending.returned (Value.tuple #[Value.slice p94 r95 r96, Value.int IntKind.i64 n97])) H91)))) (pnR R)))) (pnR R)))))) (pnR R))))))))))) (pnR R)))))) (pnR R)))))) (pnR R)))))))))))) (pnR R))))))))))))
theorem F61_eq (x0_0 : Value) (x0_1 : Value) (x0_2 : Value) (x0_3 : Value) (x0_4 : Value) (x0_5 : Value) (x0_6 : Value) (x0_7 : Value) (x0_8 : Value) (R : Ending → Heap → Prop) (H : Heap) : F61 x0_0 x0_1 x0_2 x0_3 x0_4 x0_5 x0_6 x0_7 x0_8 R H = vc Tryz.prog (codeOf Tryz.f61) (.node none .leaf (.node none .leaf (.node none .leaf (.node none .leaf (.node none .leaf (.node none .leaf (.node none .leaf (.node none (.node none .leaf (.node none (.node (some ⟨[(4, 46), (29, 3)], [5, 6, 30, 31, 32, 33, 34, 35, 36, 37, 38, 39]⟩) .leaf .leaf) .leaf)) .leaf)))))))) (postV Tryz.prog Tryz.f61 R) ⟨#[Value.agg #[x0_0, x0_1, x0_2, x0_3, x0_4, x0_5, x0_6, x0_7, x0_8]] ++ Array.replicate (Tryz.f61.ntmps - 1) undef, []⟩ H := by kernel_rfl
theorem F61_calls {R : Ending → Heap → Prop} {H : Heap} (x0_0 : Value) (x0_1 : Value) (x0_2 : Value) (x0_3 : Value) (x0_4 : Value) (x0_5 : Value) (x0_6 : Value) (x0_7 : Value) (x0_8 : Value) (h : F61 x0_0 x0_1 x0_2 x0_3 x0_4 x0_5 x0_6 x0_7 x0_8 R H) : HCalls Tryz.prog 61 #[Value.agg #[x0_0, x0_1, x0_2, x0_3, x0_4, x0_5, x0_6, x0_7, x0_8]] H R :=
  calls_by (F := F61 x0_0 x0_1 x0_2 x0_3 x0_4 x0_5 x0_6 x0_7 x0_8 R H) (.node none .leaf (.node none .leaf (.node none .leaf (.node none .leaf (.node none .leaf (.node none .leaf (.node none .leaf (.node none (.node none .leaf (.node none (.node (some ⟨[(4, 46), (29, 3)], [5, 6, 30, 31, 32, 33, 34, 35, 36, 37, 38, 39]⟩) .leaf .leaf) .leaf)) .leaf)))))))) Tryz.func61 rfl (F61_eq x0_0 x0_1 x0_2 x0_3 x0_4 x0_5 x0_6 x0_7 x0_8 R H) h
/-- (*bollard/volume.Volume).Blocks -/
def F64 (x0 : Option Addr) (R : Ending → Heap → Prop) (H : Heap) : Prop :=
  HCalls Tryz.prog 68 #[Value.pointer x0] H (Sp.retK (fun v1 H2 =>
  dBl v1 (fun b3 =>
  sB (!b3) (R (Ending.returned (Value.int IntKind.i64 0)) H2) (nz x0 (fun a4 =>
  nz x0 (fun a5 =>
  ld H2 (Addr.add a5 2) (fun v6 =>
  dPtr v6 (fun p7 =>
  HCalls Tryz.prog 164 #[Value.pointer p7] H2 (Sp.retK (fun v8 H9 =>
  dInt IntKind.i64 v8 (fun n10 =>
  HCallsD Tryz.prog 69 #[Value.pointer (some a4)] FrameMode.returning H9 (fun e11 u12 H13 =>
  match e11 with
| Ending.returned v => leavesV Tryz.prog Tryz.f64 (Act.tmps (Act.mk #[Value.pointer x0, undef, Value.int IntKind.i64 n10, Value.pointer x0, Value.bool b3, Value.bool !b3, Value.pointer x0, Value.pointer (some a4), Value.pointer (some a4), Value.pointer x0, Value.pointer (some a5), Value.pointer (some (Addr.add a5 2)), Value.pointer p7, Value.int IntKind.i64 n10] [Deferred.mk (Target.fn (Fn.func 69) #[]) #[Value.pointer (some a4)]])) R [] (settle u12) H13
| Ending.panicked c => leavesV Tryz.prog Tryz.f64 (Act.tmps (Act.mk #[Value.pointer x0, undef, Value.int IntKind.i64 n10, Value.pointer x0, Value.bool b3, Value.bool !b3, Value.pointer x0, Value.pointer (some a4), Value.pointer (some a4), Value.pointer x0, Value.pointer (some a5), Value.pointer (some (Addr.add a5 2)), Value.pointer p7, Value.int IntKind.i64 n10] [Deferred.mk (Target.fn (Fn.func 69) #[]) #[Value.pointer (some a4)]])) R [] (raised u12 c) H13
| Ending.outgrown => False))) (fun c14 H15 =>
  HCallsD Tryz.prog 69 #[Value.pointer (some a4)] (FrameMode.panicking c14) H15 (fun e16 u17 H18 =>
  match e16 with
| Ending.returned v => leavesV Tryz.prog Tryz.f64 (Act.tmps (Act.mk #[Value.pointer x0, undef, Value.int IntKind.i64 0, Value.pointer x0, Value.bool b3, Value.bool !b3, Value.pointer x0, Value.pointer (some a4), Value.pointer (some a4), Value.pointer x0, Value.pointer (some a5), Value.pointer (some (Addr.add a5 2)), Value.pointer p7, undef] [Deferred.mk (Target.fn (Fn.func 69) #[]) #[Value.pointer (some a4)]])) R [] (settle u17) H18
| Ending.panicked c => leavesV Tryz.prog Tryz.f64 (Act.tmps (Act.mk #[Value.pointer x0, undef, Value.int IntKind.i64 0, Value.pointer x0, Value.bool b3, Value.bool !b3, Value.pointer x0, Value.pointer (some a4), Value.pointer (some a4), Value.pointer x0, Value.pointer (some a5), Value.pointer (some (Addr.add a5 2)), Value.pointer p7, undef] [Deferred.mk (Target.fn (Fn.func 69) #[]) #[Value.pointer (some a4)]])) R [] (raised u17 c) H18
| Ending.outgrown => False)))))))))) (pnR R))
theorem F64_eq (x0 : Option Addr) (R : Ending → Heap → Prop) (H : Heap) : F64 x0 R H = vc Tryz.prog (codeOf Tryz.f64) .leaf (postV Tryz.prog Tryz.f64 R) ⟨#[Value.pointer x0] ++ Array.replicate (Tryz.f64.ntmps - 1) undef, []⟩ H := by kernel_rfl
theorem F64_calls {R : Ending → Heap → Prop} {H : Heap} (x0 : Option Addr) (h : F64 x0 R H) : HCalls Tryz.prog 64 #[Value.pointer x0] H R :=
  calls_by (F := F64 x0 R H) .leaf Tryz.func64 rfl (F64_eq x0 R H) h
/-- bollard/geom.Can -/
def F65 (x0_0 : Value) (x0_1 : Value) (x0_2 : Value) (R : Ending → Heap → Prop) (H : Heap) : Prop :=
  al H (Obj.cells #[x0_0, x0_1, x0_2] 23) (fun r1 H2 =>
  jn (α := VFH 1) (fun v3 H4 =>
  ∀ v5 v6 v7 v8 v9 v10 v11 v12 v13 v14 v15 v16 v17 : Value,
  dBl v3 (fun b18 =>
  jn (α := VFH 1) (fun v19 H20 =>
  ∀ v21 v22 v23 v24 v25 v26 v27 v28 v29 v30 v31 v32 v33 v34 v35 : Value,
  dBl v19 (fun b36 =>
  sB b36 (R (Ending.returned (Value.int IntKind.i64 170)) H20) (R (Ending.returned (Value.int IntKind.i64 0)) H20))) (fun k37 =>
  sB (!b18) (k37 (Value.bool true) H4) (ld H4 (Addr.mk r1 2 none) (fun v38 =>
  dInt IntKind.i64 v38 (fun n39 =>
  ask ((4 : Int) ≠ (0 : Int)) (nm (Int.tmod n39 4) (fun n40 =>
  sB (n40 != 0) (k37 (Value.bool true) H4) (ld H4 (Addr.mk r1 1 none) (fun v41 =>
  dInt IntKind.i64 v41 (fun n42 =>
  ld H4 (Addr.mk r1 0 none) (fun v43 =>
  ld H4 (Addr.mk r1 1 none) (fun v44 =>
  ld H4 (Addr.mk r1 2 none) (fun v45 =>
  HCalls Tryz.prog 166 #[Value.agg #[v43, v44, v45]] H4 (Sp.retK (fun v46 H47 =>
  dInt IntKind.i64 v46 (fun n48 =>
  (ld H47 (Addr.mk r1 1 none) (fun v49 =>
  dInt IntKind.i64 v49 (fun n50 =>
  (Value.int IntKind.i64 n50) = (Value.int IntKind.i64 n42)))) ∧
  wr IntKind.i64 (n48 + 1) (fun n51 =>
  k37 (Value.bool (decide (n42 < n51))) H47))) nopR))))))))))))))) (fun k54 =>
  ld H2 (Addr.mk r1 0 none) (fun v55 =>
  dInt IntKind.i64 v55 (fun n56 =>
  HCalls Tryz.prog 165 #[Value.int IntKind.i64 n56, Value.int IntKind.i64 1, Value.int IntKind.i64 8] H2 (Sp.retK (fun v57 H58 =>
  dBl v57 (fun b59 =>
  sB b59 (ld H58 (Addr.mk r1 1 none) (fun v60 =>
  dInt IntKind.i64 v60 (fun n61 =>
  HCalls Tryz.prog 165 #[Value.int IntKind.i64 n61, Value.int IntKind.i64 8, Value.int IntKind.i64 256] H58 (Sp.retK (fun v62 H63 =>
  dBl v62 (fun b64 =>
  sB b64 (ld H63 (Addr.mk r1 2 none) (fun v65 =>
  dInt IntKind.i64 v65 (fun n66 =>
  HCalls Tryz.prog 165 #[Value.int IntKind.i64 n66, Value.int IntKind.i64 4, Value.int IntKind.i64 64] H63 (Sp.retK (fun v67 H68 =>
  dBl v67 (fun b69 =>
  k54 (Value.bool b69) H68)) (pnR R))))) (k54 (Value.bool false) H63))) (pnR R))))) (k54 (Value.bool false) H58))) (pnR R))))))
theorem F65_eq (x0_0 : Value) (x0_1 : Value) (x0_2 : Value) (R : Ending → Heap → Prop) (H : Heap) : F65 x0_0 x0_1 x0_2 R H = vc Tryz.prog (codeOf Tryz.f65) (.node none .leaf (.node (some ⟨[(3, 4)], [4, 5, 6, 7, 8, 9, 10, 11, 12, 13, 14, 15, 16]⟩) .leaf (.node none (.node (some ⟨[(32, 4)], [17, 18, 19, 20, 21, 22, 23, 24, 25, 26, 27, 28, 29, 30, 31]⟩) .leaf .leaf) .leaf))) (postV Tryz.prog Tryz.f65 R) ⟨#[Value.agg #[x0_0, x0_1, x0_2]] ++ Array.replicate (Tryz.f65.ntmps - 1) undef, []⟩ H := by kernel_rfl
theorem F65_calls {R : Ending → Heap → Prop} {H : Heap} (x0_0 : Value) (x0_1 : Value) (x0_2 : Value) (h : F65 x0_0 x0_1 x0_2 R H) : HCalls Tryz.prog 65 #[Value.agg #[x0_0, x0_1, x0_2]] H R :=
  calls_by (F := F65 x0_0 x0_1 x0_2 R H) (.node none .leaf (.node (some ⟨[(3, 4)], [4, 5, 6, 7, 8, 9, 10, 11, 12, 13, 14, 15, 16]⟩) .leaf (.node none (.node (some ⟨[(32, 4)], [17, 18, 19, 20, 21, 22, 23, 24, 25, 26, 27, 28, 29, 30, 31]⟩) .leaf .leaf) .leaf))) Tryz.func65 rfl (F65_eq x0_0 x0_1 x0_2 R H) h
/-- bollard/geom.Blocks -/
def F66 (x0_0 : Value) (x0_1 : Value) (x0_2 : Value) (R : Ending → Heap → Prop) (H : Heap) : Prop :=
  al H (Obj.cells #[x0_0, x0_1, x0_2] 23) (fun r1 H2 =>
  ld H2 (Addr.mk r1 0 none) (fun v3 =>
  ld H2 (Addr.mk r1 1 none) (fun v4 =>
  ld H2 (Addr.mk r1 2 none) (fun v5 =>
  ld H2 (Addr.mk r1 1 none) (fun v6 =>
  dInt IntKind.i64 v6 (fun n7 =>
  HCalls Tryz.prog 167 #[Value.agg #[v3, v4, v5], Value.int IntKind.i64 n7] H2 (Sp.retK (fun v8 H9 =>
  dInt IntKind.i64 v8 (fun n10 =>
  R (Ending.returned (Value.int IntKind.i64 n10)) H9)) (pnR R))))))))
theorem F66_eq (x0_0 : Value) (x0_1 : Value) (x0_2 : Value) (R : Ending → Heap → Prop) (H : Heap) : F66 x0_0 x0_1 x0_2 R H = vc Tryz.prog (codeOf Tryz.f66) .leaf (postV Tryz.prog Tryz.f66 R) ⟨#[Value.agg #[x0_0, x0_1, x0_2]] ++ Array.replicate (Tryz.f66.ntmps - 1) undef, []⟩ H := by kernel_rfl
theorem F66_calls {R : Ending → Heap → Prop} {H : Heap} (x0_0 : Value) (x0_1 : Value) (x0_2 : Value) (h : F66 x0_0 x0_1 x0_2 R H) : HCalls Tryz.prog 66 #[Value.agg #[x0_0, x0_1, x0_2]] H R :=
  calls_by (F := F66 x0_0 x0_1 x0_2 R H) .leaf Tryz.func66 rfl (F66_eq x0_0 x0_1 x0_2 R H) h
/-- (*bollard/volume.Volume).held -/
def F68 (x0 : Option Addr) (R : Ending → Heap → Prop) (H : Heap) : Prop :=
  sB (Option.isNone x0) (R (Ending.returned (Value.bool false)) H) (nz x0 (fun a1 =>
  HCalls Tryz.prog 168 #[Value.pointer (some a1)] H (Sp.retK (fun v2 H3 =>
  nz x0 (fun a4 =>
  ld H3 (Addr.add a4 2) (fun v5 =>
  dPtr v5 (fun p6 =>
  sB (Option.isNone p6) (nz x0 (fun a7 =>
  HCalls Tryz.prog 69 #[Value.pointer (some a7)] H3 (Sp.retK (fun v8 H9 =>
  R (Ending.returned (Value.bool false)) H9) (pnR R)))) (R (Ending.returned (Value.bool true)) H3))))) (pnR R))))
theorem F68_eq (x0 : Option Addr) (R : Ending → Heap → Prop) (H : Heap) : F68 x0 R H = vc Tryz.prog (codeOf Tryz.f68) .leaf (postV Tryz.prog Tryz.f68 R) ⟨#[Value.pointer x0] ++ Array.replicate (Tryz.f68.ntmps - 1) undef, []⟩ H := by kernel_rfl
theorem F68_calls {R : Ending → Heap → Prop} {H : Heap} (x0 : Option Addr) (h : F68 x0 R H) : HCalls Tryz.prog 68 #[Value.pointer x0] H R :=
  calls_by (F := F68 x0 R H) .leaf Tryz.func68 rfl (F68_eq x0 R H) h
/-- (*bollard/volume.Volume).has -/
def F70 (x0 : Option Addr) (x1 : Int) (R : Ending → Heap → Prop) (H : Heap) : Prop :=
  sB (decide (x1 ≥ 0)) (nz x0 (fun a1 =>
  ld H (Addr.add a1 2) (fun v2 =>
  dPtr v2 (fun p3 =>
  HCalls Tryz.prog 164 #[Value.pointer p3] H (Sp.retK (fun v4 H5 =>
  dInt IntKind.i64 v4 (fun n6 =>
  R (Ending.returned (Value.bool (decide (x1 < n6)))) H5)) (pnR R)))))) (R (Ending.returned (Value.bool false)) H)
theorem F70_eq (x0 : Option Addr) (x1 : Int) (R : Ending → Heap → Prop) (H : Heap) : F70 x0 x1 R H = vc Tryz.prog (codeOf Tryz.f70) .leaf (postV Tryz.prog Tryz.f70 R) ⟨#[Value.pointer x0, Value.int IntKind.i64 x1] ++ Array.replicate (Tryz.f70.ntmps - 2) undef, []⟩ H := by kernel_rfl
theorem F70_calls {R : Ending → Heap → Prop} {H : Heap} (x0 : Option Addr) (x1 : Int) (h : F70 x0 x1 R H) : HCalls Tryz.prog 70 #[Value.pointer x0, Value.int IntKind.i64 x1] H R :=
  calls_by (F := F70 x0 x1 R H) .leaf Tryz.func70 rfl (F70_eq x0 x1 R H) h
/-- (*bollard/volume.Volume).read -/
def F71 (x0 : Option Addr) (x1 : Int) (R : Ending → Heap → Prop) (H : Heap) : Prop :=
  HCalls Tryz.prog 70 #[Value.pointer x0, Value.int IntKind.i64 x1] H (Sp.retK (fun v1 H2 =>
  dBl v1 (fun b3 =>
  sB (!b3) (R (Ending.returned (Value.tuple #[Value.slice none 0 0, Value.int IntKind.i64 90])) H2) (nz x0 (fun a4 =>
  ld H2 (Addr.add a4 3) (fun v5 =>
  dPtr v5 (fun p6 =>
  HCalls Tryz.prog 170 #[Value.pointer p6, Value.int IntKind.i64 x1] H2 (Sp.retK (fun v7 H8 =>
  dT 2 v7 (fun v9 v10 =>
  dSl v9 (fun p11 r12 r13 =>
  dInt IntKind.i64 v10 (fun n14 =>
  sB (n14 != 0) (R (Ending.returned (Value.tuple #[Value.slice none 0 0, Value.int IntKind.i64 n14])) H8) (nz x0 (fun a15 =>
  ld H8 (Addr.add a15 4) (fun v16 =>
  dPtr v16 (fun p17 =>
  HCalls Tryz.prog 171 #[Value.pointer p17, Value.int IntKind.i64 x1, Value.slice p11 r12 r13] H8 (Sp.retK (fun v18 H19 =>
  dT 2 v18 (fun v20 v21 =>
  dSl v20 (fun p22 r23 r24 =>
  dInt IntKind.i64 v21 (fun n25 =>
  R (Ending.returned (Value.tuple #[Value.slice p22 r23 r24, Value.int IntKind.i64 n25])) H19)))) (pnR R)))))))))) (pnR R)))))))) (pnR R))
theorem F71_eq (x0 : Option Addr) (x1 : Int) (R : Ending → Heap → Prop) (H : Heap) : F71 x0 x1 R H = vc Tryz.prog (codeOf Tryz.f71) .leaf (postV Tryz.prog Tryz.f71 R) ⟨#[Value.pointer x0, Value.int IntKind.i64 x1] ++ Array.replicate (Tryz.f71.ntmps - 2) undef, []⟩ H := by kernel_rfl
theorem F71_calls {R : Ending → Heap → Prop} {H : Heap} (x0 : Option Addr) (x1 : Int) (h : F71 x0 x1 R H) : HCalls Tryz.prog 71 #[Value.pointer x0, Value.int IntKind.i64 x1] H R :=
  calls_by (F := F71 x0 x1 R H) .leaf Tryz.func71 rfl (F71_eq x0 x1 R H) h
end Go.Proofs.YtdlelcpkelginaaGreat.E
/- The functions' forms in the engine's words, printed by my own program. -/
namespace Go.Proofs.YtdlelcpkelginaaGreat.E
open Go Go.Proofs
set_option linter.unusedVariables false
/-- bollard/disk.Of$1 -/
def F77 (x0a : Option Addr) (x0n : Nat) (x0c : Nat) (R : Ending → Heap → Prop) (H : Heap) : Prop :=
  R (Ending.returned (Value.bool ((↑x0n : Int) != 128))) H
theorem F77_eq (x0a : Option Addr) (x0n : Nat) (x0c : Nat) (R : Ending → Heap → Prop) (H : Heap) : F77 x0a x0n x0c R H = vc Tryz.prog (codeOf Tryz.f77) .leaf (postV Tryz.prog Tryz.f77 R) ⟨#[Value.slice x0a x0n x0c] ++ Array.replicate (Tryz.f77.ntmps - 1) undef, []⟩ H := by kernel_rfl
theorem F77_calls {R : Ending → Heap → Prop} {H : Heap} (x0a : Option Addr) (x0n : Nat) (x0c : Nat) (h : F77 x0a x0n x0c R H) : HCalls Tryz.prog 77 #[Value.slice x0a x0n x0c] H R :=
  calls_by (F := F77 x0a x0n x0c R H) .leaf Tryz.func77 rfl (F77_eq x0a x0n x0c R H) h
/-- slices.ContainsFunc[[][]byte,[]byte] -/
def F78 (x0a : Option Addr) (x0n : Nat) (x0c : Nat) (x1g : Nat) (x1f : Array Value) (x1c : Array Value) (R : Ending → Heap → Prop) (H : Heap) : Prop :=
  HCalls Tryz.prog 181 #[Value.slice x0a x0n x0c, Value.func (Fn.func x1g) x1f x1c] H (Sp.retK (fun v1 H2 =>
  dInt IntKind.i64 v1 (fun n3 =>
  R (Ending.returned (Value.bool (decide (n3 ≥ 0)))) H2)) (pnR R))
theorem F78_eq (x0a : Option Addr) (x0n : Nat) (x0c : Nat) (x1g : Nat) (x1f : Array Value) (x1c : Array Value) (R : Ending → Heap → Prop) (H : Heap) : F78 x0a x0n x0c x1g x1f x1c R H = vc Tryz.prog (codeOf Tryz.f78) .leaf (postV Tryz.prog Tryz.f78 R) ⟨#[Value.slice x0a x0n x0c, Value.func (Fn.func x1g) x1f x1c] ++ Array.replicate (Tryz.f78.ntmps - 2) undef, []⟩ H := by kernel_rfl
theorem F78_calls {R : Ending → Heap → Prop} {H : Heap} (x0a : Option Addr) (x0n : Nat) (x0c : Nat) (x1g : Nat) (x1f : Array Value) (x1c : Array Value) (h : F78 x0a x0n x0c x1g x1f x1c R H) : HCalls Tryz.prog 78 #[Value.slice x0a x0n x0c, Value.func (Fn.func x1g) x1f x1c] H R :=
  calls_by (F := F78 x0a x0n x0c x1g x1f x1c R H) .leaf Tryz.func78 rfl (F78_eq x0a x0n x0c x1g x1f x1c R H) h
/-- bollard/disk.image -/
def F79 (x0a : Option Addr) (x0n : Nat) (x0c : Nat) (R : Ending → Heap → Prop) (H : Heap) : Prop :=
  ∃ I1 : List Value → Heap → Prop,
  ∃ I2 : List Value → Heap → Nat,
  (I1 ([Value.slice none 0 0, Value.int IntKind.i64 0]) H) ∧
  ∀ p3 : Option Addr,
  ∀ r4 : Nat,
  ∀ r5 : Nat,
  ∀ n6 : Int,
  ∀ v7 v8 v9 v10 v11 v12 v13 v14 v15 v16 : Value,
  ∀ H17 : Heap,
  (I1 ([Value.slice p3 r4 r5, Value.int IntKind.i64 n6]) H17) →
  sB (decide (n6 < (↑x0n : Int))) (nz x0a (fun a19 =>
  ask ((0 : Int) ≤ n6 ∧ n6 < (↑x0n : Int)) (ld H17 (Addr.add a19 (Int.toNat n6 * 1)) (fun v20 =>
  dSl v20 (fun p21 r22 r23 =>
  HCalls Tryz.prog 21 #[Value.slice p21 r22 r23] H17 (Sp.retK (fun v24 H25 =>
  dSl v24 (fun p26 r27 r28 =>
  al H25 (Obj.cells #[Value.slice p26 r27 r28] 46) (fun r29 H30 =>
  semW Tryz.prog (Builtin.append_ #[50, 50] 50 #[Value.slice p3 r4 r5, Value.slice (some (Addr.mk r29 0 none)) 1 1]) (pnR R) H30 (fun v33 H34 =>
  dSl v33 (fun p35 r36 r37 =>
  wr IntKind.i64 (n6 + 1) (fun n38 =>
  (I1 ([Value.slice p35 r36 r37, Value.int IntKind.i64 n38]) H34) ∧
  (I2 [Value.slice p35 r36 r37, Value.int IntKind.i64 n38] H34) < (I2 [Value.slice p3 r4 r5, Value.int IntKind.i64 n6] H17))))))) (pnR R))))))) (R (Ending.returned (Value.slice p3 r4 r5)) H17)
theorem F79_eq (x0a : Option Addr) (x0n : Nat) (x0c : Nat) (R : Ending → Heap → Prop) (H : Heap) : F79 x0a x0n x0c R H = vc Tryz.prog (codeOf Tryz.f79) (.node none .leaf (.node none .leaf (.node none (.node none .leaf (.node none (.node (some ⟨[(3, 50), (8, 3)], [5, 9, 10, 11, 12, 13, 14, 15, 16, 17]⟩) .leaf .leaf) .leaf)) .leaf))) (postV Tryz.prog Tryz.f79 R) ⟨#[Value.slice x0a x0n x0c] ++ Array.replicate (Tryz.f79.ntmps - 1) undef, []⟩ H := by kernel_rfl
theorem F79_calls {R : Ending → Heap → Prop} {H : Heap} (x0a : Option Addr) (x0n : Nat) (x0c : Nat) (h : F79 x0a x0n x0c R H) : HCalls Tryz.prog 79 #[Value.slice x0a x0n x0c] H R :=
  calls_by (F := F79 x0a x0n x0c R H) (.node none .leaf (.node none .leaf (.node none (.node none .leaf (.node none (.node (some ⟨[(3, 50), (8, 3)], [5, 9, 10, 11, 12, 13, 14, 15, 16, 17]⟩) .leaf .leaf) .leaf)) .leaf))) Tryz.func79 rfl (F79_eq x0a x0n x0c R H) h
/-- bollard/bollardref02.copied -/
def F80 (x0a : Option Addr) (x0n : Nat) (x0c : Nat) (R : Ending → Heap → Prop) (H : Heap) : Prop :=
  al H (Obj.cells #[] 5) (fun r1 H2 =>
  semW Tryz.prog (Builtin.append_ #[46, 46] 46 #[Value.slice (some (Addr.mk r1 0 none)) 0 0, Value.slice x0a x0n x0c]) (pnR R) H2 (fun v5 H6 =>
  dSl v5 (fun p7 r8 r9 =>
  R (Ending.returned (Value.slice p7 r8 r9)) H6)))
theorem F80_eq (x0a : Option Addr) (x0n : Nat) (x0c : Nat) (R : Ending → Heap → Prop) (H : Heap) : F80 x0a x0n x0c R H = vc Tryz.prog (codeOf Tryz.f80) .leaf (postV Tryz.prog Tryz.f80 R) ⟨#[Value.slice x0a x0n x0c] ++ Array.replicate (Tryz.f80.ntmps - 1) undef, []⟩ H := by kernel_rfl
theorem F80_calls {R : Ending → Heap → Prop} {H : Heap} (x0a : Option Addr) (x0n : Nat) (x0c : Nat) (h : F80 x0a x0n x0c R H) : HCalls Tryz.prog 80 #[Value.slice x0a x0n x0c] H R :=
  calls_by (F := F80 x0a x0n x0c R H) .leaf Tryz.func80 rfl (F80_eq x0a x0n x0c R H) h
/-- bollard/volume.Open -/
def F81 (x0 : Option Addr) (x1 : Int) (R : Ending → Heap → Prop) (H : Heap) : Prop :=
  HCalls Tryz.prog 182 #[Value.pointer x0, Value.int IntKind.i64 x1] H (Sp.retK (fun v1 H2 =>
  dT 2 v1 (fun v3 v4 =>
  dPtr v3 (fun p5 =>
  dInt IntKind.i64 v4 (fun n6 =>
  sB (n6 != 0) (R (Ending.returned (Value.tuple #[Value.pointer none, Value.int IntKind.i64 n6])) H2) (HCalls Tryz.prog 183 #[] H2 (Sp.retK (fun v7 H8 =>
  dPtr v7 (fun p9 =>
  al H8 (Obj.map #[] 0) (fun r10 H11 =>
  al H11 (Obj.cells #[Value.int IntKind.i32 0, Value.int IntKind.u32 0, Value.pointer x0, Value.pointer p5, Value.pointer p9, Value.map (some r10), Value.bool false, Value.bool false, Value.int IntKind.i64 0, Value.map none] 102) (fun r12 H13 =>
  R (Ending.returned (Value.tuple #[Value.pointer (some (Addr.mk r12 0 none)), Value.int IntKind.i64 0])) H13)))) (pnR R))))))) (pnR R))
theorem F81_eq (x0 : Option Addr) (x1 : Int) (R : Ending → Heap → Prop) (H : Heap) : F81 x0 x1 R H = vc Tryz.prog (codeOf Tryz.f81) .leaf (postV Tryz.prog Tryz.f81 R) ⟨#[Value.pointer x0, Value.int IntKind.i64 x1] ++ Array.replicate (Tryz.f81.ntmps - 2) undef, []⟩ H := by kernel_rfl
theorem F81_calls {R : Ending → Heap → Prop} {H : Heap} (x0 : Option Addr) (x1 : Int) (h : F81 x0 x1 R H) : HCalls Tryz.prog 81 #[Value.pointer x0, Value.int IntKind.i64 x1] H R :=
  calls_by (F := F81 x0 x1 R H) .leaf Tryz.func81 rfl (F81_eq x0 x1 R H) h
/-- bollard/bollardref09.Open -/
def F84 (x0 : Option Addr) (x1 : Int) (R : Ending → Heap → Prop) (H : Heap) : Prop :=
  sB (Option.isNone x0) (R (Ending.returned (Value.tuple #[Value.pointer none, Value.int IntKind.i64 2])) H) (HCalls Tryz.prog 185 #[Value.pointer x0, Value.int IntKind.i64 x1] H (Sp.retK (fun v1 H2 =>
  dT 2 v1 (fun v3 v4 =>
  dPtr v3 (fun p5 =>
  dInt IntKind.i64 v4 (fun n6 =>
  sB (n6 != 0) (R (Ending.returned (Value.tuple #[Value.pointer none, Value.int IntKind.i64 n6])) H2) (al H2 (Obj.cells #[Value.slice none 0 0, Value.int IntKind.i64 0] 273) (fun r7 H8 =>
  al H8 (Obj.cells #[Value.pointer x0, Value.pointer p5, Value.pointer (some (Addr.mk r7 0 none)), Value.slice none 0 0, Value.bool false, Value.bool false, Value.int IntKind.i64 0, Value.slice none 0 0] 248) (fun r9 H10 =>
  R (Ending.returned (Value.tuple #[Value.pointer (some (Addr.mk r9 0 none)), Value.int IntKind.i64 0])) H10))))))) (pnR R)))
theorem F84_eq (x0 : Option Addr) (x1 : Int) (R : Ending → Heap → Prop) (H : Heap) : F84 x0 x1 R H = vc Tryz.prog (codeOf Tryz.f84) .leaf (postV Tryz.prog Tryz.f84 R) ⟨#[Value.pointer x0, Value.int IntKind.i64 x1] ++ Array.replicate (Tryz.f84.ntmps - 2) undef, []⟩ H := by kernel_rfl
theorem F84_calls {R : Ending → Heap → Prop} {H : Heap} (x0 : Option Addr) (x1 : Int) (h : F84 x0 x1 R H) : HCalls Tryz.prog 84 #[Value.pointer x0, Value.int IntKind.i64 x1] H R :=
  calls_by (F := F84 x0 x1 R H) .leaf Tryz.func84 rfl (F84_eq x0 x1 R H) h
/-- bollard/bollardref03.EncodeSuper -/
def F89 (x0_0 : Value) (x0_1 : Value) (x0_2 : Value) (x0_3 : Value) (R : Ending → Heap → Prop) (H : Heap) : Prop :=
  al H (Obj.cells #[x0_0, x0_1, x0_2, x0_3] 163) (fun r1 H2 =>
  jn (α := VFH 1) (fun v3 H4 =>
  ∀ v5 v6 v7 v8 v9 v10 v11 v12 v13 v14 v15 v16 v17 : Value,
  dBl v3 (fun b18 =>
  sB b18 (R (Ending.returned (Value.tuple #[Value.slice none 0 0, Value.int IntKind.i64 1])) H4) (al H4 (Obj.cells #[Value.int IntKind.u8 98, Value.int IntKind.u8 111, Value.int IntKind.u8 108, Value.int IntKind.u8 108] 5) (fun r19 H20 =>
  semW Tryz.prog (convert 46 46 (Value.slice (some (Addr.mk r19 0 none)) 4 4)) (pnR R) H20 (fun v23 H24 =>
  dSl v23 (fun p25 r26 r27 =>
  semW Tryz.prog (Builtin.append_ #[46, 3] 46 #[Value.slice p25 r26 r27, Value.int IntKind.i64 124]) (pnR R) H24 (fun v30 H31 =>
  dSl v30 (fun p32 r33 r34 =>
  ld H31 (Addr.mk r1 0 none) (fun v35 =>
  dInt IntKind.i64 v35 (fun n36 =>
  HCalls Tryz.prog 155 #[Value.slice p32 r33 r34, Value.int IntKind.i64 4, Value.int IntKind.i64 1, Value.int IntKind.i64 n36] H31 (Sp.retK (fun v37 H38 =>
  dSl v37 (fun p39 r40 r41 =>
  ld H38 (Addr.mk r1 1 none) (fun v42 =>
  dInt IntKind.i64 v42 (fun n43 =>
  wr IntKind.i64 (n43 - 1) (fun n44 =>
  HCalls Tryz.prog 155 #[Value.slice p39 r40 r41, Value.int IntKind.i64 5, Value.int IntKind.i64 1, Value.int IntKind.i64 n44] H38 (Sp.retK (fun v45 H46 =>
  dSl v45 (fun p47 r48 r49 =>
  ld H46 (Addr.mk r1 2 none) (fun v50 =>
  dInt IntKind.i64 v50 (fun n51 =>
  HCalls Tryz.prog 155 #[Value.slice p47 r48 r49, Value.int IntKind.i64 6, Value.int IntKind.i64 1, Value.int IntKind.i64 n51] H46 (Sp.retK (fun v52 H53 =>
  dSl v52 (fun p54 r55 r56 =>
  ld H53 (Addr.mk r1 3 none) (fun v57 =>
  dInt IntKind.i64 v57 (fun n58 =>
  HCalls Tryz.prog 155 #[Value.slice p54 r55 r56, Value.int IntKind.i64 8, Value.int IntKind.i64 4, Value.int IntKind.i64 n58] H53 (Sp.retK (fun v59 H60 =>
  dSl v59 (fun p61 r62 r63 =>
  HCalls Tryz.prog 156 #[Value.slice p61 r62 r63] H60 (Sp.retK (fun v64 H65 =>
  dT 2 v64 (fun v66 v67 =>
  dSl v66 (fun p68 r69 r70 =>
  dInt IntKind.i64 v67 (fun n71 =>
  R (Ending.returned (Value.tuple #[Value.slice p68 r69 r70, Value.int IntKind.i64 n71])) H65)))) (pnR R)))) (pnR R)))))) (pnR R)))))) (pnR R))))))) (pnR R)))))))))))) (fun k82 =>
  ld H2 (Addr.mk r1 0 none) (fun v83 =>
  ld H2 (Addr.mk r1 1 none) (fun v84 =>
  ld H2 (Addr.mk r1 2 none) (fun v85 =>
  HCalls Tryz.prog 191 #[Value.agg #[v83, v84, v85]] H2 (Sp.retK (fun v86 H87 =>
  dBl v86 (fun b88 =>
  sB (!b88) (k82 (Value.bool true) H87) (ld H87 (Addr.mk r1 3 none) (fun v89 =>
  dInt IntKind.i64 v89 (fun n90 =>
  sB (decide (n90 < 0)) (k82 (Value.bool true) H87) (ld H87 (Addr.mk r1 3 none) (fun v91 =>
  dInt IntKind.i64 v91 (fun n92 =>
  k82 (Value.bool (decide (n92 ≥ 4294967296))) H87)))))))) (pnR R)))))))
theorem F89_eq (x0_0 : Value) (x0_1 : Value) (x0_2 : Value) (x0_3 : Value) (R : Ending → Heap → Prop) (H : Heap) : F89 x0_0 x0_1 x0_2 x0_3 R H = vc Tryz.prog (codeOf Tryz.f89) (.node none .leaf (.node none (.node (some ⟨[(18, 4)], [5, 6, 7, 8, 9, 10, 11, 12, 13, 14, 15, 16, 17]⟩) .leaf .leaf) .leaf)) (postV Tryz.prog Tryz.f89 R) ⟨#[Value.agg #[x0_0, x0_1, x0_2, x0_3]] ++ Array.replicate (Tryz.f89.ntmps - 1) undef, []⟩ H := by kernel_rfl
theorem F89_calls {R : Ending → Heap → Prop} {H : Heap} (x0_0 : Value) (x0_1 : Value) (x0_2 : Value) (x0_3 : Value) (h : F89 x0_0 x0_1 x0_2 x0_3 R H) : HCalls Tryz.prog 89 #[Value.agg #[x0_0, x0_1, x0_2, x0_3]] H R :=
  calls_by (F := F89 x0_0 x0_1 x0_2 x0_3 R H) (.node none .leaf (.node none (.node (some ⟨[(18, 4)], [5, 6, 7, 8, 9, 10, 11, 12, 13, 14, 15, 16, 17]⟩) .leaf .leaf) .leaf)) Tryz.func89 rfl (F89_eq x0_0 x0_1 x0_2 x0_3 R H) h
end Go.Proofs.YtdlelcpkelginaaGreat.E
/- The functions' forms in the engine's words, printed by my own program. -/
namespace Go.Proofs.YtdlelcpkelginaaGreat.E
open Go Go.Proofs
set_option linter.unusedVariables false
/-- bollard/geom.Owner -/
def F106 (x0_0 : Value) (x0_1 : Value) (x0_2 : Value) (x1 : Int) (R : Ending → Heap → Prop) (H : Heap) : Prop :=
  al H (Obj.cells #[x0_0, x0_1, x0_2] 23) (fun r1 H2 =>
  ld H2 (Addr.mk r1 2 none) (fun v3 =>
  dInt IntKind.i64 v3 (fun n4 =>
  ld H2 (Addr.mk r1 0 none) (fun v5 =>
  ld H2 (Addr.mk r1 1 none) (fun v6 =>
  ld H2 (Addr.mk r1 2 none) (fun v7 =>
  HCalls Tryz.prog 126 #[Value.agg #[v5, v6, v7]] H2 (Sp.retK (fun v8 H9 =>
  dInt IntKind.i64 v8 (fun n10 =>
  (ld H9 (Addr.mk r1 2 none) (fun v11 =>
  dInt IntKind.i64 v11 (fun n12 =>
  (Value.int IntKind.i64 n12) = (Value.int IntKind.i64 n4)))) ∧
  HCalls Tryz.prog 206 #[Value.int IntKind.i64 x1, Value.int IntKind.i64 n4, Value.int IntKind.i64 n10] H9 (Sp.retK (fun v13 H14 =>
  dT 3 v13 (fun v15 v16 v17 =>
  dInt IntKind.i64 v15 (fun n18 =>
  dInt IntKind.i64 v16 (fun n19 =>
  dBl v17 (fun b20 =>
  R (Ending.returned (Value.tuple #[Value.int IntKind.i64 n18, Value.int IntKind.i64 n19, Value.bool b20])) H14))))) nopR))) nopR)))))))
theorem F106_eq (x0_0 : Value) (x0_1 : Value) (x0_2 : Value) (x1 : Int) (R : Ending → Heap → Prop) (H : Heap) : F106 x0_0 x0_1 x0_2 x1 R H = vc Tryz.prog (codeOf Tryz.f106) .leaf (postV Tryz.prog Tryz.f106 R) ⟨#[Value.agg #[x0_0, x0_1, x0_2], Value.int IntKind.i64 x1] ++ Array.replicate (Tryz.f106.ntmps - 2) undef, []⟩ H := by kernel_rfl
theorem F106_calls {R : Ending → Heap → Prop} {H : Heap} (x0_0 : Value) (x0_1 : Value) (x0_2 : Value) (x1 : Int) (h : F106 x0_0 x0_1 x0_2 x1 R H) : HCalls Tryz.prog 106 #[Value.agg #[x0_0, x0_1, x0_2], Value.int IntKind.i64 x1] H R :=
  calls_by (F := F106 x0_0 x0_1 x0_2 x1 R H) .leaf Tryz.func106 rfl (F106_eq x0_0 x0_1 x0_2 x1 R H) h
/-- bollard/inode.fine -/
def F109 (x0 : Option Addr) (x1_0 : Value) (x1_1 : Value) (x1_2 : Value) (R : Ending → Heap → Prop) (H : Heap) : Prop :=
  al H (Obj.cells #[x1_0, x1_1, x1_2] 23) (fun r1 H2 =>
  HCalls Tryz.prog 64 #[Value.pointer x0] H2 (Sp.retK (fun v3 H4 =>
  dInt IntKind.i64 v3 (fun n5 =>
  sB (n5 == 0) (R (Ending.returned (Value.int IntKind.i64 2)) H4) (jn (α := VFH 1) (fun v6 H7 =>
  ∀ v8 v9 v10 v11 v12 v13 v14 v15 v16 : Value,
  dBl v6 (fun b17 =>
  sB b17 (R (Ending.returned (Value.int IntKind.i64 170)) H7) (R (Ending.returned (Value.int IntKind.i64 0)) H7))) (fun k18 =>
  ld H4 (Addr.mk r1 0 none) (fun v19 =>
  ld H4 (Addr.mk r1 1 none) (fun v20 =>
  ld H4 (Addr.mk r1 2 none) (fun v21 =>
  HCalls Tryz.prog 65 #[Value.agg #[v19, v20, v21]] H4 (Sp.retK (fun v22 H23 =>
  dInt IntKind.i64 v22 (fun n24 =>
  sB (n24 != 0) (k18 (Value.bool true) H23) (ld H23 (Addr.mk r1 0 none) (fun v25 =>
  ld H23 (Addr.mk r1 1 none) (fun v26 =>
  ld H23 (Addr.mk r1 2 none) (fun v27 =>
  HCalls Tryz.prog 64 #[Value.pointer x0] H23 (Sp.retK (fun v28 H29 =>
  dInt IntKind.i64 v28 (fun n30 =>
  (ld H29 (Addr.mk r1 0 none) (fun v31 =>
  ld H29 (Addr.mk r1 1 none) (fun v32 =>
  ld H29 (Addr.mk r1 2 none) (fun v33 =>
  (Value.agg #[v31, v32, v33]) = (Value.agg #[v25, v26, v27]))))) ∧
  HCalls Tryz.prog 66 #[Value.agg #[v25, v26, v27]] H29 (Sp.retK (fun v34 H35 =>
  dInt IntKind.i64 v34 (fun n36 =>
  k18 (Value.bool (decide (n30 < n36))) H35)) nopR))) nopR))))))) nopR)))))))) (pnR R)))
theorem F109_eq (x0 : Option Addr) (x1_0 : Value) (x1_1 : Value) (x1_2 : Value) (R : Ending → Heap → Prop) (H : Heap) : F109 x0 x1_0 x1_1 x1_2 R H = vc Tryz.prog (codeOf Tryz.f109) (.node none .leaf (.node none .leaf (.node none (.node (some ⟨[(17, 4)], [8, 9, 10, 11, 12, 13, 14, 15, 16]⟩) .leaf .leaf) .leaf))) (postV Tryz.prog Tryz.f109 R) ⟨#[Value.pointer x0, Value.agg #[x1_0, x1_1, x1_2]] ++ Array.replicate (Tryz.f109.ntmps - 2) undef, []⟩ H := by kernel_rfl
theorem F109_calls {R : Ending → Heap → Prop} {H : Heap} (x0 : Option Addr) (x1_0 : Value) (x1_1 : Value) (x1_2 : Value) (h : F109 x0 x1_0 x1_1 x1_2 R H) : HCalls Tryz.prog 109 #[Value.pointer x0, Value.agg #[x1_0, x1_1, x1_2]] H R :=
  calls_by (F := F109 x0 x1_0 x1_1 x1_2 R H) (.node none .leaf (.node none .leaf (.node none (.node (some ⟨[(17, 4)], [8, 9, 10, 11, 12, 13, 14, 15, 16]⟩) .leaf .leaf) .leaf))) Tryz.func109 rfl (F109_eq x0 x1_0 x1_1 x1_2 R H) h
end Go.Proofs.YtdlelcpkelginaaGreat.E
/- The functions' forms in the engine's words, printed by my own program. -/
namespace Go.Proofs.YtdlelcpkelginaaGreat.E
open Go Go.Proofs
set_option linter.unusedVariables false
/-- bollard/geom.Inodes -/
def F126 (x0_0 : Value) (x0_1 : Value) (x0_2 : Value) (R : Ending → Heap → Prop) (H : Heap) : Prop :=
  al H (Obj.cells #[x0_0, x0_1, x0_2] 23) (fun r1 H2 =>
  ld H2 (Addr.mk r1 0 none) (fun v3 =>
  ld H2 (Addr.mk r1 1 none) (fun v4 =>
  ld H2 (Addr.mk r1 2 none) (fun v5 =>
  ld H2 (Addr.mk r1 2 none) (fun v6 =>
  dInt IntKind.i64 v6 (fun n7 =>
  HCalls Tryz.prog 167 #[Value.agg #[v3, v4, v5], Value.int IntKind.i64 n7] H2 (Sp.retK (fun v8 H9 =>
  dInt IntKind.i64 v8 (fun n10 =>
  R (Ending.returned (Value.int IntKind.i64 n10)) H9)) (pnR R))))))))
theorem F126_eq (x0_0 : Value) (x0_1 : Value) (x0_2 : Value) (R : Ending → Heap → Prop) (H : Heap) : F126 x0_0 x0_1 x0_2 R H = vc Tryz.prog (codeOf Tryz.f126) .leaf (postV Tryz.prog Tryz.f126 R) ⟨#[Value.agg #[x0_0, x0_1, x0_2]] ++ Array.replicate (Tryz.f126.ntmps - 1) undef, []⟩ H := by kernel_rfl
theorem F126_calls {R : Ending → Heap → Prop} {H : Heap} (x0_0 : Value) (x0_1 : Value) (x0_2 : Value) (h : F126 x0_0 x0_1 x0_2 R H) : HCalls Tryz.prog 126 #[Value.agg #[x0_0, x0_1, x0_2]] H R :=
  calls_by (F := F126 x0_0 x0_1 x0_2 R H) .leaf Tryz.func126 rfl (F126_eq x0_0 x0_1 x0_2 R H) h
/-- bollard/bollardref04.Can -/
def F138 (x0_0 : Value) (x0_1 : Value) (x0_2 : Value) (R : Ending → Heap → Prop) (H : Heap) : Prop :=
  al H (Obj.cells #[x0_0, x0_1, x0_2] 23) (fun r1 H2 =>
  jn (α := VFH 1) (fun v3 H4 =>
  ∀ v5 v6 v7 v8 v9 v10 v11 v12 v13 v14 v15 v16 v17 v18 v19 v20 v21 v22 v23 v24 v25 v26 v27 v28 v29 v30 v31 v32 v33 v34 v35 v36 v37 v38 v39 v40 v41 v42 v43 v44 v45 v46 : Value,
  dBl v3 (fun b47 =>
  sB b47 (R (Ending.returned (Value.int IntKind.i64 170)) H4) (R (Ending.returned (Value.int IntKind.i64 0)) H4))) (fun k48 =>
  ld H2 (Addr.mk r1 0 none) (fun v49 =>
  dInt IntKind.i64 v49 (fun n50 =>
  sB (decide (n50 < 1)) (k48 (Value.bool true) H2) (ld H2 (Addr.mk r1 0 none) (fun v51 =>
  dInt IntKind.i64 v51 (fun n52 =>
  sB (decide (n52 > 8)) (k48 (Value.bool true) H2) (ld H2 (Addr.mk r1 1 none) (fun v53 =>
  dInt IntKind.i64 v53 (fun n54 =>
  sB (decide (n54 < 8)) (k48 (Value.bool true) H2) (ld H2 (Addr.mk r1 1 none) (fun v55 =>
  dInt IntKind.i64 v55 (fun n56 =>
  sB (decide (n56 > 256)) (k48 (Value.bool true) H2) (ld H2 (Addr.mk r1 2 none) (fun v57 =>
  dInt IntKind.i64 v57 (fun n58 =>
  sB (decide (n58 < 4)) (k48 (Value.bool true) H2) (ld H2 (Addr.mk r1 2 none) (fun v59 =>
  dInt IntKind.i64 v59 (fun n60 =>
  sB (decide (n60 > 64)) (k48 (Value.bool true) H2) (ld H2 (Addr.mk r1 2 none) (fun v61 =>
  dInt IntKind.i64 v61 (fun n62 =>
  ask ((4 : Int) ≠ (0 : Int)) (nm (Int.tmod n62 4) (fun n63 =>
  sB (n63 != 0) (k48 (Value.bool true) H2) (ld H2 (Addr.mk r1 1 none) (fun v64 =>
  dInt IntKind.i64 v64 (fun n65 =>
  ld H2 (Addr.mk r1 2 none) (fun v66 =>
  dInt IntKind.i64 v66 (fun n67 =>
  ask ((4 : Int) ≠ (0 : Int)) (wr IntKind.i64 (Int.tdiv n67 4) (fun n68 =>
  wr IntKind.i64 (3 + n68) (fun n69 =>
  k48 (Value.bool (decide (n65 < n69))) H2))))))))))))))))))))))))))))))))
theorem F138_eq (x0_0 : Value) (x0_1 : Value) (x0_2 : Value) (R : Ending → Heap → Prop) (H : Heap) : F138 x0_0 x0_1 x0_2 R H = vc Tryz.prog (codeOf Tryz.f138) (.node none .leaf (.node none (.node (some ⟨[(45, 4)], [3, 4, 5, 6, 7, 8, 9, 10, 11, 12, 13, 14, 15, 16, 17, 18, 19, 20, 21, 22, 23, 24, 25, 26, 27, 28, 29, 30, 31, 32, 33, 34, 35, 36, 37, 38, 39, 40, 41, 42, 43, 44]⟩) .leaf .leaf) .leaf)) (postV Tryz.prog Tryz.f138 R) ⟨#[Value.agg #[x0_0, x0_1, x0_2]] ++ Array.replicate (Tryz.f138.ntmps - 1) undef, []⟩ H := by kernel_rfl
theorem F138_calls {R : Ending → Heap → Prop} {H : Heap} (x0_0 : Value) (x0_1 : Value) (x0_2 : Value) (h : F138 x0_0 x0_1 x0_2 R H) : HCalls Tryz.prog 138 #[Value.agg #[x0_0, x0_1, x0_2]] H R :=
  calls_by (F := F138 x0_0 x0_1 x0_2 R H) (.node none .leaf (.node none (.node (some ⟨[(45, 4)], [3, 4, 5, 6, 7, 8, 9, 10, 11, 12, 13, 14, 15, 16, 17, 18, 19, 20, 21, 22, 23, 24, 25, 26, 27, 28, 29, 30, 31, 32, 33, 34, 35, 36, 37, 38, 39, 40, 41, 42, 43, 44]⟩) .leaf .leaf) .leaf)) Tryz.func138 rfl (F138_eq x0_0 x0_1 x0_2 R H) h
/-- bollard/bollardref12.Encode -/
def F140 (x0a : Option Addr) (x0n : Nat) (x0c : Nat) (R : Ending → Heap → Prop) (H : Heap) : Prop :=
  jn (α := VFH 1) (fun v1 H2 =>
  ∀ v3 v4 v5 v6 v7 v8 : Value,
  dBl v1 (fun b9 =>
  sB b9 (R (Ending.returned (Value.tuple #[Value.slice none 0 0, Value.int IntKind.i64 1])) H2) (∃ I10 : List Value → Heap → Prop,
  ∃ I11 : List Value → Heap → Nat,
  (I10 ([Value.slice none 0 0, Value.int IntKind.i64 0]) H2) ∧
  ∀ p12 : Option Addr,
  ∀ r13 : Nat,
  ∀ r14 : Nat,
  ∀ n15 : Int,
  ∀ v16 v17 v18 v19 v20 v21 v22 v23 v24 v25 v26 v27 v28 v29 v30 v31 v32 v33 v34 : Value,
  ∀ H35 : Heap,
  (I10 ([Value.slice p12 r13 r14, Value.int IntKind.i64 n15]) H35) →
  sB (decide (n15 < (↑x0n : Int))) (nz x0a (fun a37 =>
  ask ((0 : Int) ≤ n15 ∧ n15 < (↑x0n : Int)) (ld H35 (Addr.add a37 (Int.toNat n15 * 2)) (fun v38 =>
  ld H35 (Addr.add (Addr.add a37 (Int.toNat n15 * 2)) 1) (fun v39 =>
  al H35 (Obj.cells #[Value.int IntKind.i64 0, Value.string (ByteArray.mk #[])] 228) (fun r40 H41 =>
  st H41 (Addr.mk r40 0 none) v38 (fun H42 =>
  st H42 (Addr.mk r40 1 none) v39 (fun H43 =>
  ld H43 (Addr.mk r40 0 none) (fun v44 =>
  ld H43 (Addr.mk r40 1 none) (fun v45 =>
  HCalls Tryz.prog 251 #[Value.agg #[v44, v45]] H43 (Sp.retK (fun v46 H47 =>
  dT 2 v46 (fun v48 v49 =>
  dSl v48 (fun p50 r51 r52 =>
  dInt IntKind.i64 v49 (fun n53 =>
  sB (n53 != 0) (R (Ending.returned (Value.tuple #[Value.slice none 0 0, Value.int IntKind.i64 1])) H47) (semW Tryz.prog (Builtin.append_ #[46, 46] 46 #[Value.slice p12 r13 r14, Value.slice p50 r51 r52]) (pnR R) H47 (fun v56 H57 =>
  dSl v56 (fun p58 r59 r60 =>
  wr IntKind.i64 (n15 + 1) (fun n61 =>
  (I10 ([Value.slice p58 r59 r60, Value.int IntKind.i64 n61]) H57) ∧
  (I11 [Value.slice p58 r59 r60, Value.int IntKind.i64 n61] H57) < (I11 [Value.slice p12 r13 r14, Value.int IntKind.i64 n15] H35))))))))) (pnR R)))))))))))) (wr IntKind.i64 (128 - (↑r13 : Int)) (fun n64 =>
  semW Tryz.prog (Builtin.append_ #[46, 3] 46 #[Value.slice p12 r13 r14, Value.int IntKind.i64 n64]) (pnR R) H35 (fun v67 H68 =>
  dSl v67 (fun p69 r70 r71 =>
  R (Ending.returned (Value.tuple #[Value.slice p69 r70 r71, Value.int IntKind.i64 0])) H68))))))) (fun k72 =>
  sB (decide ((↑x0n : Int) > 8)) (k72 (Value.bool true) H) (HCalls Tryz.prog 250 #[Value.slice x0a x0n x0c] H (Sp.retK (fun v73 H74 =>
  dBl v73 (fun b75 =>
  k72 (Value.bool b75) H74)) (pnR R))))
theorem F140_eq (x0a : Option Addr) (x0n : Nat) (x0c : Nat) (R : Ending → Heap → Prop) (H : Heap) : F140 x0a x0n x0c R H = vc Tryz.prog (codeOf Tryz.f140) (.node none .leaf (.node none (.node (some ⟨[(15, 4)], [9, 10, 11, 12, 13, 14]⟩) .leaf .leaf) (.node none .leaf (.node none (.node none .leaf (.node none (.node (some ⟨[(4, 46), (18, 3)], [2, 3, 6, 7, 8, 19, 20, 21, 22, 23, 24, 25, 26, 27, 28, 29, 30, 31, 32]⟩) .leaf .leaf) .leaf)) .leaf)))) (postV Tryz.prog Tryz.f140 R) ⟨#[Value.slice x0a x0n x0c] ++ Array.replicate (Tryz.f140.ntmps - 1) undef, []⟩ H := by kernel_rfl
theorem F140_calls {R : Ending → Heap → Prop} {H : Heap} (x0a : Option Addr) (x0n : Nat) (x0c : Nat) (h : F140 x0a x0n x0c R H) : HCalls Tryz.prog 140 #[Value.slice x0a x0n x0c] H R :=
  calls_by (F := F140 x0a x0n x0c R H) (.node none .leaf (.node none (.node (some ⟨[(15, 4)], [9, 10, 11, 12, 13, 14]⟩) .leaf .leaf) (.node none .leaf (.node none (.node none .leaf (.node none (.node (some ⟨[(4, 46), (18, 3)], [2, 3, 6, 7, 8, 19, 20, 21, 22, 23, 24, 25, 26, 27, 28, 29, 30, 31, 32]⟩) .leaf .leaf) .leaf)) .leaf)))) Tryz.func140 rfl (F140_eq x0a x0n x0c R H) h
/-- bollard/geom.Inode -/
def F141 (x0_0 : Value) (x0_1 : Value) (x0_2 : Value) (x1 : Int) (R : Ending → Heap → Prop) (H : Heap) : Prop :=
  al H (Obj.cells #[x0_0, x0_1, x0_2] 23) (fun r1 H2 =>
  ld H2 (Addr.mk r1 0 none) (fun v3 =>
  ld H2 (Addr.mk r1 1 none) (fun v4 =>
  ld H2 (Addr.mk r1 2 none) (fun v5 =>
  HCalls Tryz.prog 106 #[Value.agg #[v3, v4, v5], Value.int IntKind.i64 x1] H2 (Sp.retK (fun v6 H7 =>
  dT 3 v6 (fun v8 v9 v10 =>
  dInt IntKind.i64 v8 (fun n11 =>
  dInt IntKind.i64 v9 (fun n12 =>
  dBl v10 (fun b13 =>
  sB (!b13) (R (Ending.returned (Value.tuple #[Value.int IntKind.i64 0, Value.int IntKind.i64 0, Value.bool false])) H7) (ld H7 (Addr.mk r1 0 none) (fun v14 =>
  ld H7 (Addr.mk r1 1 none) (fun v15 =>
  ld H7 (Addr.mk r1 2 none) (fun v16 =>
  ask ((4 : Int) ≠ (0 : Int)) (wr IntKind.i64 (Int.tdiv n12 4) (fun n17 =>
  wr IntKind.i64 (2 + n17) (fun n18 =>
  HCalls Tryz.prog 213 #[Value.agg #[v14, v15, v16], Value.int IntKind.i64 n11, Value.int IntKind.i64 n18] H7 (Sp.retK (fun v19 H20 =>
  dT 2 v19 (fun v21 v22 =>
  dInt IntKind.i64 v21 (fun n23 =>
  dBl v22 (fun b24 =>
  ask ((4 : Int) ≠ (0 : Int)) (nm (Int.tmod n12 4) (fun n25 =>
  wr IntKind.i64 (n25 * 32) (fun n26 =>
  R (Ending.returned (Value.tuple #[Value.int IntKind.i64 n23, Value.int IntKind.i64 n26, Value.bool true])) H20))))))) (pnR R)))))))))))))) (pnR R))))))
theorem F141_eq (x0_0 : Value) (x0_1 : Value) (x0_2 : Value) (x1 : Int) (R : Ending → Heap → Prop) (H : Heap) : F141 x0_0 x0_1 x0_2 x1 R H = vc Tryz.prog (codeOf Tryz.f141) .leaf (postV Tryz.prog Tryz.f141 R) ⟨#[Value.agg #[x0_0, x0_1, x0_2], Value.int IntKind.i64 x1] ++ Array.replicate (Tryz.f141.ntmps - 2) undef, []⟩ H := by kernel_rfl
theorem F141_calls {R : Ending → Heap → Prop} {H : Heap} (x0_0 : Value) (x0_1 : Value) (x0_2 : Value) (x1 : Int) (h : F141 x0_0 x0_1 x0_2 x1 R H) : HCalls Tryz.prog 141 #[Value.agg #[x0_0, x0_1, x0_2], Value.int IntKind.i64 x1] H R :=
  calls_by (F := F141 x0_0 x0_1 x0_2 x1 R H) .leaf Tryz.func141 rfl (F141_eq x0_0 x0_1 x0_2 x1 R H) h
/-- bollard/layout.zero -/
def F142 (x0a : Option Addr) (x0n : Nat) (x0c : Nat) (R : Ending → Heap → Prop) (H : Heap) : Prop :=
  ∃ I1 : List Value → Heap → Prop,
  ∃ I2 : List Value → Heap → Nat,
  (I1 ([Value.int IntKind.i64 0]) H) ∧
  ∀ n3 : Int,
  ∀ v4 v5 v6 v7 v8 v9 v10 v11 : Value,
  ∀ H12 : Heap,
  (I1 ([Value.int IntKind.i64 n3]) H12) →
  sB (decide (n3 < (↑x0n : Int))) (nz x0a (fun a14 =>
  ask ((0 : Int) ≤ n3 ∧ n3 < (↑x0n : Int)) (ld H12 (Addr.add a14 (Int.toNat n3 * 1)) (fun v15 =>
  dInt IntKind.u8 v15 (fun n16 =>
  sB (n16 != 0) (R (Ending.returned (Value.bool false)) H12) (wr IntKind.i64 (n3 + 1) (fun n17 =>
  (I1 ([Value.int IntKind.i64 n17]) H12) ∧
  (I2 [Value.int IntKind.i64 n17] H12) < (I2 [Value.int IntKind.i64 n3] H12)))))))) (R (Ending.returned (Value.bool true)) H12)
theorem F142_eq (x0a : Option Addr) (x0n : Nat) (x0c : Nat) (R : Ending → Heap → Prop) (H : Heap) : F142 x0a x0n x0c R H = vc Tryz.prog (codeOf Tryz.f142) (.node none .leaf (.node none (.node none .leaf (.node none (.node (some ⟨[(7, 3)], [2, 4, 8, 9, 10, 11, 12, 13]⟩) .leaf .leaf) .leaf)) .leaf)) (postV Tryz.prog Tryz.f142 R) ⟨#[Value.slice x0a x0n x0c] ++ Array.replicate (Tryz.f142.ntmps - 1) undef, []⟩ H := by kernel_rfl
theorem F142_calls {R : Ending → Heap → Prop} {H : Heap} (x0a : Option Addr) (x0n : Nat) (x0c : Nat) (h : F142 x0a x0n x0c R H) : HCalls Tryz.prog 142 #[Value.slice x0a x0n x0c] H R :=
  calls_by (F := F142 x0a x0n x0c R H) (.node none .leaf (.node none (.node none .leaf (.node none (.node (some ⟨[(7, 3)], [2, 4, 8, 9, 10, 11, 12, 13]⟩) .leaf .leaf) .leaf)) .leaf)) Tryz.func142 rfl (F142_eq x0a x0n x0c R H) h
/-- bollard/word.Sealed -/
def F143 (x0a : Option Addr) (x0n : Nat) (x0c : Nat) (R : Ending → Heap → Prop) (H : Heap) : Prop :=
  wr IntKind.i64 ((↑x0n : Int) - 4) (fun n1 =>
  semW Tryz.prog (Builtin.max_ #[3, 3] 3 #[Value.int IntKind.i64 n1, Value.int IntKind.i64 0]) (pnR R) H (fun v4 H5 =>
  dInt IntKind.i64 v4 (fun n6 =>
  HCalls Tryz.prog 252 #[Value.slice x0a x0n x0c, Value.int IntKind.i64 n6, Value.int IntKind.i64 4] H5 (Sp.retK (fun v7 H8 =>
  dT 2 v7 (fun v9 v10 =>
  dInt IntKind.i64 v9 (fun n11 =>
  dInt IntKind.i64 v10 (fun n12 =>
  sB (n12 == 0) (wr IntKind.i64 ((↑x0n : Int) - 4) (fun n13 =>
  ask ((0 : Int) ≤ (0 : Int) ∧ (0 : Int) ≤ n13 ∧ n13 ≤ (↑x0c : Int) ∧ (↑x0c : Int) ≤ (↑x0c : Int)) (HCalls Tryz.prog 253 #[Value.slice (slO x0a 1 0 (↑x0c : Int)) (Int.toNat n13 - Int.toNat 0) (Int.toNat (↑x0c : Int) - Int.toNat 0)] H8 (Sp.retK (fun v14 H15 =>
  dInt IntKind.i64 v14 (fun n16 =>
  R (Ending.returned (Value.bool (n11 == n16))) H15)) (pnR R))))) (R (Ending.returned (Value.bool false)) H8))))) (pnR R)))))
theorem F143_eq (x0a : Option Addr) (x0n : Nat) (x0c : Nat) (R : Ending → Heap → Prop) (H : Heap) : F143 x0a x0n x0c R H = vc Tryz.prog (codeOf Tryz.f143) .leaf (postV Tryz.prog Tryz.f143 R) ⟨#[Value.slice x0a x0n x0c] ++ Array.replicate (Tryz.f143.ntmps - 1) undef, []⟩ H := by kernel_rfl
theorem F143_calls {R : Ending → Heap → Prop} {H : Heap} (x0a : Option Addr) (x0n : Nat) (x0c : Nat) (h : F143 x0a x0n x0c R H) : HCalls Tryz.prog 143 #[Value.slice x0a x0n x0c] H R :=
  calls_by (F := F143 x0a x0n x0c R H) .leaf Tryz.func143 rfl (F143_eq x0a x0n x0c R H) h
/-- bollard/word.Over -/
def F144 (x0a : Option Addr) (x0n : Nat) (x0c : Nat) (R : Ending → Heap → Prop) (H : Heap) : Prop :=
  semW Tryz.prog (Builtin.append_ #[46, 46] 46 #[Value.slice none 0 0, Value.slice x0a x0n x0c]) (pnR R) H (fun v3 H4 =>
  dSl v3 (fun p5 r6 r7 =>
  al H4 (Obj.cells #[Value.slice p5 r6 r7, Value.int IntKind.i64 0, Value.int IntKind.i64 0, Value.bool true] 325) (fun r8 H9 =>
  R (Ending.returned (Value.pointer (some (Addr.mk r8 0 none)))) H9)))
theorem F144_eq (x0a : Option Addr) (x0n : Nat) (x0c : Nat) (R : Ending → Heap → Prop) (H : Heap) : F144 x0a x0n x0c R H = vc Tryz.prog (codeOf Tryz.f144) .leaf (postV Tryz.prog Tryz.f144 R) ⟨#[Value.slice x0a x0n x0c] ++ Array.replicate (Tryz.f144.ntmps - 1) undef, []⟩ H := by kernel_rfl
theorem F144_calls {R : Ending → Heap → Prop} {H : Heap} (x0a : Option Addr) (x0n : Nat) (x0c : Nat) (h : F144 x0a x0n x0c R H) : HCalls Tryz.prog 144 #[Value.slice x0a x0n x0c] H R :=
  calls_by (F := F144 x0a x0n x0c R H) .leaf Tryz.func144 rfl (F144_eq x0a x0n x0c R H) h
/-- (*bollard/word.Reader).Take -/
def F145 (x0 : Option Addr) (x1 : Int) (R : Ending → Heap → Prop) (H : Heap) : Prop :=
  al H (Obj.cells #[Value.pointer x0] 230) (fun r1 H2 =>
  al H2 (Obj.cells #[Value.int IntKind.i64 x1] 3) (fun r3 H4 =>
  al H4 (Obj.cells #[Value.int IntKind.i64 0] 3) (fun r5 H6 =>
  st H6 (Addr.mk r5 0 none) (Value.int IntKind.i64 0) (fun H7 =>
  ld H7 (Addr.mk r1 0 none) (fun v8 =>
  dPtr v8 (fun p9 =>
  HCalls Tryz.prog 254 #[Value.pointer p9, Value.func (Fn.func 255) #[] #[Value.pointer (some (Addr.mk r1 0 none)), Value.pointer (some (Addr.mk r3 0 none)), Value.pointer (some (Addr.mk r5 0 none))]] H7 (Sp.retK (fun v10 H11 =>
  ld H11 (Addr.mk r5 0 none) (fun v12 =>
  dInt IntKind.i64 v12 (fun n13 =>
  R (Ending.returned (Value.int IntKind.i64 n13)) H11))) (pnR R))))))))
theorem F145_eq (x0 : Option Addr) (x1 : Int) (R : Ending → Heap → Prop) (H : Heap) : F145 x0 x1 R H = vc Tryz.prog (codeOf Tryz.f145) .leaf (postV Tryz.prog Tryz.f145 R) ⟨#[Value.pointer x0, Value.int IntKind.i64 x1] ++ Array.replicate (Tryz.f145.ntmps - 2) undef, []⟩ H := by kernel_rfl
theorem F145_calls {R : Ending → Heap → Prop} {H : Heap} (x0 : Option Addr) (x1 : Int) (h : F145 x0 x1 R H) : HCalls Tryz.prog 145 #[Value.pointer x0, Value.int IntKind.i64 x1] H R :=
  calls_by (F := F145 x0 x1 R H) .leaf Tryz.func145 rfl (F145_eq x0 x1 R H) h
/-- (*bollard/word.Reader).Skip -/
def F146 (x0 : Option Addr) (x1 : Int) (R : Ending → Heap → Prop) (H : Heap) : Prop :=
  al H (Obj.cells #[Value.pointer x0] 230) (fun r1 H2 =>
  al H2 (Obj.cells #[Value.int IntKind.i64 x1] 3) (fun r3 H4 =>
  ld H4 (Addr.mk r1 0 none) (fun v5 =>
  dPtr v5 (fun p6 =>
  HCalls Tryz.prog 254 #[Value.pointer p6, Value.func (Fn.func 257) #[] #[Value.pointer (some (Addr.mk r1 0 none)), Value.pointer (some (Addr.mk r3 0 none))]] H4 (Sp.retK (fun v7 H8 =>
  R (Ending.returned (Value.tuple #[])) H8) (pnR R))))))
theorem F146_eq (x0 : Option Addr) (x1 : Int) (R : Ending → Heap → Prop) (H : Heap) : F146 x0 x1 R H = vc Tryz.prog (codeOf Tryz.f146) .leaf (postV Tryz.prog Tryz.f146 R) ⟨#[Value.pointer x0, Value.int IntKind.i64 x1] ++ Array.replicate (Tryz.f146.ntmps - 2) undef, []⟩ H := by kernel_rfl
theorem F146_calls {R : Ending → Heap → Prop} {H : Heap} (x0 : Option Addr) (x1 : Int) (h : F146 x0 x1 R H) : HCalls Tryz.prog 146 #[Value.pointer x0, Value.int IntKind.i64 x1] H R :=
  calls_by (F := F146 x0 x1 R H) .leaf Tryz.func146 rfl (F146_eq x0 x1 R H) h
/-- bollard/layout.same -/
def F147 (x0a : Option Addr) (x0n : Nat) (x0c : Nat) (x1a : Option Addr) (x1n : Nat) (x1c : Nat) (R : Ending → Heap → Prop) (H : Heap) : Prop :=
  semW Tryz.prog (convert 46 9 (Value.slice x0a x0n x0c)) (pnR R) H (fun v3 H4 =>
  dStr v3 (fun s5 =>
  semW Tryz.prog (convert 46 9 (Value.slice x1a x1n x1c)) (pnR R) H4 (fun v8 H9 =>
  dStr v8 (fun s10 =>
  R (Ending.returned (Value.bool (ByteArray.toList s5 == ByteArray.toList s10))) H9))))
theorem F147_eq (x0a : Option Addr) (x0n : Nat) (x0c : Nat) (x1a : Option Addr) (x1n : Nat) (x1c : Nat) (R : Ending → Heap → Prop) (H : Heap) : F147 x0a x0n x0c x1a x1n x1c R H = vc Tryz.prog (codeOf Tryz.f147) .leaf (postV Tryz.prog Tryz.f147 R) ⟨#[Value.slice x0a x0n x0c, Value.slice x1a x1n x1c] ++ Array.replicate (Tryz.f147.ntmps - 2) undef, []⟩ H := by kernel_rfl
theorem F147_calls {R : Ending → Heap → Prop} {H : Heap} (x0a : Option Addr) (x0n : Nat) (x0c : Nat) (x1a : Option Addr) (x1n : Nat) (x1c : Nat) (h : F147 x0a x0n x0c x1a x1n x1c R H) : HCalls Tryz.prog 147 #[Value.slice x0a x0n x0c, Value.slice x1a x1n x1c] H R :=
  calls_by (F := F147 x0a x0n x0c x1a x1n x1c R H) .leaf Tryz.func147 rfl (F147_eq x0a x0n x0c x1a x1n x1c R H) h
/-- bollard/layout.mayDinode -/
def F148 (x0_0 : Value) (x0_1 : Value) (x0_2 : Value) (x0_3 : Value) (x0_4 : Value) (x0_5 : Value) (x0_6 : Value) (x0_7 : Value) (x0_8 : Value) (R : Ending → Heap → Prop) (H : Heap) : Prop :=
  al H (Obj.cells #[x0_0, x0_1, x0_2, x0_3, x0_4, x0_5, x0_6, x0_7, x0_8] 26) (fun r1 H2 =>
  ld H2 (Addr.mk r1 0 none) (fun v3 =>
  dInt IntKind.i64 v3 (fun n4 =>
  sB (n4 == 0) (ld H2 (Addr.mk r1 0 none) (fun v5 =>
  ld H2 (Addr.mk r1 1 none) (fun v6 =>
  ld H2 (Addr.mk r1 2 none) (fun v7 =>
  ld H2 (Addr.mk r1 3 none) (fun v8 =>
  ld H2 (Addr.mk r1 4 none) (fun v9 =>
  ld H2 (Addr.mk r1 5 none) (fun v10 =>
  ld H2 (Addr.mk r1 6 none) (fun v11 =>
  ld H2 (Addr.mk r1 7 none) (fun v12 =>
  ld H2 (Addr.mk r1 8 none) (fun v13 =>
  semW Tryz.prog (eqSem BinOp.eql 26 (Operand.tmp 7) (Operand.tmp 8) (Value.agg #[v5, v6, v7, v8, v9, v10, v11, v12, v13]) (Value.agg #[Value.int IntKind.i64 0, Value.int IntKind.i64 0, Value.int IntKind.i64 0, Value.int IntKind.i64 0, Value.int IntKind.i64 0, Value.int IntKind.i64 0, Value.int IntKind.i64 0, Value.int IntKind.i64 0, Value.int IntKind.i64 0])) (pnR R) H2 (fun v16 H17 =>
  dBl v16 (fun b18 =>
  R (Ending.returned (Value.bool b18)) H17)))))))))))) (sB (n4 == 1) (R (Ending.returned (Value.bool true)) H2) (sB (n4 == 2) (ld H2 (Addr.mk r1 2 none) (fun v19 =>
  dInt IntKind.i64 v19 (fun n20 =>
  ask ((128 : Int) ≠ (0 : Int)) (nm (Int.tmod n20 128) (fun n21 =>
  R (Ending.returned (Value.bool (n21 == 0))) H2))))) (R (Ending.returned (Value.bool false)) H2))))))
theorem F148_eq (x0_0 : Value) (x0_1 : Value) (x0_2 : Value) (x0_3 : Value) (x0_4 : Value) (x0_5 : Value) (x0_6 : Value) (x0_7 : Value) (x0_8 : Value) (R : Ending → Heap → Prop) (H : Heap) : F148 x0_0 x0_1 x0_2 x0_3 x0_4 x0_5 x0_6 x0_7 x0_8 R H = vc Tryz.prog (codeOf Tryz.f148) .leaf (postV Tryz.prog Tryz.f148 R) ⟨#[Value.agg #[x0_0, x0_1, x0_2, x0_3, x0_4, x0_5, x0_6, x0_7, x0_8]] ++ Array.replicate (Tryz.f148.ntmps - 1) undef, []⟩ H := by kernel_rfl
theorem F148_calls {R : Ending → Heap → Prop} {H : Heap} (x0_0 : Value) (x0_1 : Value) (x0_2 : Value) (x0_3 : Value) (x0_4 : Value) (x0_5 : Value) (x0_6 : Value) (x0_7 : Value) (x0_8 : Value) (h : F148 x0_0 x0_1 x0_2 x0_3 x0_4 x0_5 x0_6 x0_7 x0_8 R H) : HCalls Tryz.prog 148 #[Value.agg #[x0_0, x0_1, x0_2, x0_3, x0_4, x0_5, x0_6, x0_7, x0_8]] H R :=
  calls_by (F := F148 x0_0 x0_1 x0_2 x0_3 x0_4 x0_5 x0_6 x0_7 x0_8 R H) .leaf Tryz.func148 rfl (F148_eq x0_0 x0_1 x0_2 x0_3 x0_4 x0_5 x0_6 x0_7 x0_8 R H) h
/-- bollard/layout.fit -/
def F149 (x0a : Option Addr) (x0n : Nat) (x0c : Nat) (R : Ending → Heap → Prop) (H : Heap) : Prop :=
  ∃ I1 : List Value → Heap → Prop,
  ∃ I2 : List Value → Heap → Nat,
  (I1 ([Value.int IntKind.i64 0]) H) ∧
  ∀ n3 : Int,
  ∀ v4 v5 v6 v7 v8 v9 v10 v11 v12 v13 v14 v15 v16 v17 v18 v19 : Value,
  ∀ H20 : Heap,
  (I1 ([Value.int IntKind.i64 n3]) H20) →
  sB (decide (n3 < (↑x0n : Int))) (nz x0a (fun a22 =>
  ask ((0 : Int) ≤ n3 ∧ n3 < (↑x0n : Int)) (ld H20 (Addr.add a22 (Int.toNat n3 * 3)) (fun v23 =>
  ld H20 (Addr.add (Addr.add a22 (Int.toNat n3 * 3)) 1) (fun v24 =>
  ld H20 (Addr.add (Addr.add a22 (Int.toNat n3 * 3)) 2) (fun v25 =>
  al H20 (Obj.cells #[Value.int IntKind.i64 0, Value.int IntKind.i64 0, Value.int IntKind.i64 0] 235) (fun r26 H27 =>
  st H27 (Addr.mk r26 0 none) v23 (fun H28 =>
  st H28 (Addr.mk r26 1 none) v24 (fun H29 =>
  st H29 (Addr.mk r26 2 none) v25 (fun H30 =>
  jn (α := VFH 1) (fun v31 H32 =>
  ∀ v33 v34 v35 v36 v37 v38 v39 v40 v41 : Value,
  dBl v31 (fun b42 =>
  sB b42 (R (Ending.returned (Value.bool false)) H32) (wr IntKind.i64 (n3 + 1) (fun n43 =>
  (I1 ([Value.int IntKind.i64 n43]) H32) ∧
  (I2 [Value.int IntKind.i64 n43] H32) < (I2 [Value.int IntKind.i64 n3] H20))))) (fun k44 =>
  ld H30 (Addr.mk r26 2 none) (fun v45 =>
  dInt IntKind.i64 v45 (fun n46 =>
  sB (decide (n46 < 0)) (k44 (Value.bool true) H30) (ld H30 (Addr.mk r26 2 none) (fun v47 =>
  dInt IntKind.i64 v47 (fun n48 =>
  ld H30 (Addr.mk r26 1 none) (fun v49 =>
  dInt IntKind.i64 v49 (fun n50 =>
  k44 (Value.bool (decide (n48 > n50))) H30)))))))))))))))))) (R (Ending.returned (Value.bool true)) H20)
theorem F149_eq (x0a : Option Addr) (x0n : Nat) (x0c : Nat) (R : Ending → Heap → Prop) (H : Heap) : F149 x0a x0n x0c R H = vc Tryz.prog (codeOf Tryz.f149) (.node none .leaf (.node none (.node none .leaf (.node none (.node (some ⟨[(7, 3)], [2, 4, 8, 9, 10, 11, 12, 13, 14, 15, 16, 17, 18, 19, 20, 21]⟩) (.node none .leaf (.node none .leaf (.node none (.node none (.node none .leaf (.node (some ⟨[(20, 4)], [11, 12, 13, 14, 15, 16, 17, 18, 19]⟩) .leaf .leaf)) .leaf) .leaf))) .leaf) .leaf)) .leaf)) (postV Tryz.prog Tryz.f149 R) ⟨#[Value.slice x0a x0n x0c] ++ Array.replicate (Tryz.f149.ntmps - 1) undef, []⟩ H := by kernel_rfl
theorem F149_calls {R : Ending → Heap → Prop} {H : Heap} (x0a : Option Addr) (x0n : Nat) (x0c : Nat) (h : F149 x0a x0n x0c R H) : HCalls Tryz.prog 149 #[Value.slice x0a x0n x0c] H R :=
  calls_by (F := F149 x0a x0n x0c R H) (.node none .leaf (.node none (.node none .leaf (.node none (.node (some ⟨[(7, 3)], [2, 4, 8, 9, 10, 11, 12, 13, 14, 15, 16, 17, 18, 19, 20, 21]⟩) (.node none .leaf (.node none .leaf (.node none (.node none (.node none .leaf (.node (some ⟨[(20, 4)], [11, 12, 13, 14, 15, 16, 17, 18, 19]⟩) .leaf .leaf)) .leaf) .leaf))) .leaf) .leaf)) .leaf)) Tryz.func149 rfl (F149_eq x0a x0n x0c R H) h
/-- bollard/layout.full -/
def F150 (x0a : Option Addr) (x0n : Nat) (x0c : Nat) (x1 : Int) (R : Ending → Heap → Prop) (H : Heap) : Prop :=
  ask ((0 : Int) ≤ x1 ∧ x1 ≤ x1 ∧ (1 : Int) * x1 ≤ (281474976710656 : Int) ∧ x1 ≤ (9223372036854775807 : Int)) (al H (Obj.cells (List.toArray (rowZ [Value.int IntKind.u8 0] (Int.toNat x1))) 5) (fun r1 H2 =>
  semW Tryz.prog (Builtin.copy_ #[46, 46] 3 #[Value.slice (some (Addr.mk r1 0 none)) (Int.toNat x1) (Int.toNat x1), Value.slice x0a x0n x0c]) (pnR R) H2 (fun v5 H6 =>
  dInt IntKind.i64 v5 (fun n7 =>
  ask ((0 : Int) ≤ (0 : Int) ∧ (0 : Int) ≤ x1 ∧ x1 ≤ x1 ∧ x1 ≤ (↑(Int.toNat x1) : Int)) (R (Ending.returned (Value.slice (slO (some (Addr.mk r1 0 none)) 1 0 x1) (Int.toNat x1 - Int.toNat 0) (Int.toNat x1 - Int.toNat 0))) H6)))))
theorem F150_eq (x0a : Option Addr) (x0n : Nat) (x0c : Nat) (x1 : Int) (R : Ending → Heap → Prop) (H : Heap) : F150 x0a x0n x0c x1 R H = vc Tryz.prog (codeOf Tryz.f150) .leaf (postV Tryz.prog Tryz.f150 R) ⟨#[Value.slice x0a x0n x0c, Value.int IntKind.i64 x1] ++ Array.replicate (Tryz.f150.ntmps - 2) undef, []⟩ H := by kernel_rfl
theorem F150_calls {R : Ending → Heap → Prop} {H : Heap} (x0a : Option Addr) (x0n : Nat) (x0c : Nat) (x1 : Int) (h : F150 x0a x0n x0c x1 R H) : HCalls Tryz.prog 150 #[Value.slice x0a x0n x0c, Value.int IntKind.i64 x1] H R :=
  calls_by (F := F150 x0a x0n x0c x1 R H) .leaf Tryz.func150 rfl (F150_eq x0a x0n x0c x1 R H) h
/-- bollard/layout.fields -/
def F151 (x0a : Option Addr) (x0n : Nat) (x0c : Nat) (x1a : Option Addr) (x1n : Nat) (x1c : Nat) (R : Ending → Heap → Prop) (H : Heap) : Prop :=
  ∃ I1 : List Value → Heap → Prop,
  ∃ I2 : List Value → Heap → Nat,
  (I1 ([Value.slice x0a x0n x0c, Value.int IntKind.i64 0]) H) ∧
  ∀ p3 : Option Addr,
  ∀ r4 : Nat,
  ∀ r5 : Nat,
  ∀ n6 : Int,
  ∀ v7 v8 v9 v10 v11 v12 v13 v14 v15 v16 v17 v18 v19 v20 v21 v22 v23 v24 v25 v26 v27 : Value,
  ∀ H28 : Heap,
  (I1 ([Value.slice p3 r4 r5, Value.int IntKind.i64 n6]) H28) →
  sB (decide (n6 < (↑x1n : Int))) (nz x1a (fun a30 =>
  ask ((0 : Int) ≤ n6 ∧ n6 < (↑x1n : Int)) (ld H28 (Addr.add a30 (Int.toNat n6 * 3)) (fun v31 =>
  ld H28 (Addr.add (Addr.add a30 (Int.toNat n6 * 3)) 1) (fun v32 =>
  ld H28 (Addr.add (Addr.add a30 (Int.toNat n6 * 3)) 2) (fun v33 =>
  al H28 (Obj.cells #[Value.int IntKind.i64 0, Value.int IntKind.i64 0, Value.int IntKind.i64 0] 235) (fun r34 H35 =>
  st H35 (Addr.mk r34 0 none) v31 (fun H36 =>
  st H36 (Addr.mk r34 1 none) v32 (fun H37 =>
  st H37 (Addr.mk r34 2 none) v33 (fun H38 =>
  ld H38 (Addr.mk r34 0 none) (fun v39 =>
  dInt IntKind.i64 v39 (fun n40 =>
  ∃ I41 : List Value → Heap → Prop,
  ∃ I42 : List Value → Heap → Nat,
  (I41 ([Value.slice p3 r4 r5, Value.int IntKind.i64 0]) H38) ∧
  ∀ p43 : Option Addr,
  ∀ r44 : Nat,
  ∀ r45 : Nat,
  ∀ n46 : Int,
  ∀ v47 v48 v49 v50 v51 v52 v53 v54 v55 v56 v57 v58 v59 : Value,
  ∀ H60 : Heap,
  (I41 ([Value.slice p43 r44 r45, Value.int IntKind.i64 n46]) H60) →
  sB (decide (n46 < n40)) (ld H60 (Addr.mk r34 2 none) (fun v62 =>
  dInt IntKind.i64 v62 (fun n63 =>
  wr IntKind.i64 (8 * n46) (fun n64 =>
  ask ((0 : Int) ≤ n64) (nm (Int.fdiv n63 (2 ^ min (Int.toNat n64) 64)) (fun n65 =>
  wr IntKind.u8 n65 (fun n66 =>
  al H60 (Obj.cells #[Value.int IntKind.u8 n66] 5) (fun r67 H68 =>
  semW Tryz.prog (Builtin.append_ #[46, 46] 46 #[Value.slice p43 r44 r45, Value.slice (some (Addr.mk r67 0 none)) 1 1]) (pnR R) H68 (fun v71 H72 =>
  dSl v71 (fun p73 r74 r75 =>
  wr IntKind.i64 (n46 + 1) (fun n76 =>
  (I41 ([Value.slice p73 r74 r75, Value.int IntKind.i64 n76]) H72) ∧
  (I42 [Value.slice p73 r74 r75, Value.int IntKind.i64 n76] H72) < (I42 [Value.slice p43 r44 r45, Value.int IntKind.i64 n46] H60)))))))))))) (wr IntKind.i64 (n6 + 1) (fun n77 =>
  (I1 ([Value.slice p43 r44 r45, Value.int IntKind.i64 n77]) H60) ∧
  (I2 [Value.slice p43 r44 r45, Value.int IntKind.i64 n77] H60) < (I2 [Value.slice p3 r4 r5, Value.int IntKind.i64 n6] H28))))))))))))))) (R (Ending.returned (Value.slice p3 r4 r5)) H28)
theorem F151_eq (x0a : Option Addr) (x0n : Nat) (x0c : Nat) (x1a : Option Addr) (x1n : Nat) (x1c : Nat) (R : Ending → Heap → Prop) (H : Heap) : F151 x0a x0n x0c x1a x1n x1c R H = vc Tryz.prog (codeOf Tryz.f151) (.node none .leaf (.node none (.node none .leaf (.node none (.node (some ⟨[(0, 46), (10, 3)], [6, 7, 11, 12, 13, 14, 15, 16, 17, 18, 19, 20, 21, 22, 23, 24, 25, 26, 27, 28, 29]⟩) (.node none .leaf (.node none .leaf (.node none (.node none (.node none .leaf (.node none .leaf (.node none (.node (some ⟨[(0, 46), (16, 3)], [7, 17, 18, 19, 20, 21, 22, 23, 24, 25, 26, 27, 28]⟩) .leaf .leaf) .leaf))) .leaf) .leaf))) .leaf) .leaf)) .leaf)) (postV Tryz.prog Tryz.f151 R) ⟨#[Value.slice x0a x0n x0c, Value.slice x1a x1n x1c] ++ Array.replicate (Tryz.f151.ntmps - 2) undef, []⟩ H := by kernel_rfl
theorem F151_calls {R : Ending → Heap → Prop} {H : Heap} (x0a : Option Addr) (x0n : Nat) (x0c : Nat) (x1a : Option Addr) (x1n : Nat) (x1c : Nat) (h : F151 x0a x0n x0c x1a x1n x1c R H) : HCalls Tryz.prog 151 #[Value.slice x0a x0n x0c, Value.slice x1a x1n x1c] H R :=
  calls_by (F := F151 x0a x0n x0c x1a x1n x1c R H) (.node none .leaf (.node none (.node none .leaf (.node none (.node (some ⟨[(0, 46), (10, 3)], [6, 7, 11, 12, 13, 14, 15, 16, 17, 18, 19, 20, 21, 22, 23, 24, 25, 26, 27, 28, 29]⟩) (.node none .leaf (.node none .leaf (.node none (.node none (.node none .leaf (.node none .leaf (.node none (.node (some ⟨[(0, 46), (16, 3)], [7, 17, 18, 19, 20, 21, 22, 23, 24, 25, 26, 27, 28]⟩) .leaf .leaf) .leaf))) .leaf) .leaf))) .leaf) .leaf)) .leaf)) Tryz.func151 rfl (F151_eq x0a x0n x0c x1a x1n x1c R H) h
/-- bollard/word.Seal -/
def F152 (x0a : Option Addr) (x0n : Nat) (x0c : Nat) (R : Ending → Heap → Prop) (H : Heap) : Prop :=
  wr IntKind.i64 ((↑x0n : Int) - 4) (fun n1 =>
  sB (decide (n1 < 0)) (R (Ending.returned (Value.tuple #[Value.slice none 0 0, Value.int IntKind.i64 10])) H) (ask ((0 : Int) ≤ (0 : Int) ∧ (0 : Int) ≤ n1 ∧ n1 ≤ (↑x0c : Int) ∧ (↑x0c : Int) ≤ (↑x0c : Int)) (HCalls Tryz.prog 253 #[Value.slice (slO x0a 1 0 (↑x0c : Int)) (Int.toNat n1 - Int.toNat 0) (Int.toNat (↑x0c : Int) - Int.toNat 0)] H (Sp.retK (fun v2 H3 =>
  dInt IntKind.i64 v2 (fun n4 =>
  HCalls Tryz.prog 258 #[Value.slice x0a x0n x0c, Value.int IntKind.i64 n1, Value.int IntKind.i64 4, Value.int IntKind.i64 n4] H3 (Sp.retK (fun v5 H6 =>
  dT 2 v5 (fun v7 v8 =>
  dSl v7 (fun p9 r10 r11 =>
  dInt IntKind.i64 v8 (fun n12 =>
  R (Ending.returned (Value.tuple #[Value.slice p9 r10 r11, Value.int IntKind.i64 n12])) H6)))) (pnR R)))) (pnR R)))))
theorem F152_eq (x0a : Option Addr) (x0n : Nat) (x0c : Nat) (R : Ending → Heap → Prop) (H : Heap) : F152 x0a x0n x0c R H = vc Tryz.prog (codeOf Tryz.f152) .leaf (postV Tryz.prog Tryz.f152 R) ⟨#[Value.slice x0a x0n x0c] ++ Array.replicate (Tryz.f152.ntmps - 1) undef, []⟩ H := by kernel_rfl
theorem F152_calls {R : Ending → Heap → Prop} {H : Heap} (x0a : Option Addr) (x0n : Nat) (x0c : Nat) (h : F152 x0a x0n x0c R H) : HCalls Tryz.prog 152 #[Value.slice x0a x0n x0c] H R :=
  calls_by (F := F152 x0a x0n x0c R H) .leaf Tryz.func152 rfl (F152_eq x0a x0n x0c R H) h
/-- bollard/bollardref03.mayDinode -/
def F154 (x0_0 : Value) (x0_1 : Value) (x0_2 : Value) (x0_3 : Value) (x0_4 : Value) (x0_5 : Value) (x0_6 : Value) (x0_7 : Value) (x0_8 : Value) (R : Ending → Heap → Prop) (H : Heap) : Prop :=
  al H (Obj.cells #[x0_0, x0_1, x0_2, x0_3, x0_4, x0_5, x0_6, x0_7, x0_8] 26) (fun r1 H2 =>
  ld H2 (Addr.mk r1 0 none) (fun v3 =>
  dInt IntKind.i64 v3 (fun n4 =>
  sB (n4 == 0) (ld H2 (Addr.mk r1 0 none) (fun v5 =>
  ld H2 (Addr.mk r1 1 none) (fun v6 =>
  ld H2 (Addr.mk r1 2 none) (fun v7 =>
  ld H2 (Addr.mk r1 3 none) (fun v8 =>
  ld H2 (Addr.mk r1 4 none) (fun v9 =>
  ld H2 (Addr.mk r1 5 none) (fun v10 =>
  ld H2 (Addr.mk r1 6 none) (fun v11 =>
  ld H2 (Addr.mk r1 7 none) (fun v12 =>
  ld H2 (Addr.mk r1 8 none) (fun v13 =>
  semW Tryz.prog (eqSem BinOp.eql 26 (Operand.tmp 8) (Operand.tmp 9) (Value.agg #[v5, v6, v7, v8, v9, v10, v11, v12, v13]) (Value.agg #[Value.int IntKind.i64 0, Value.int IntKind.i64 0, Value.int IntKind.i64 0, Value.int IntKind.i64 0, Value.int IntKind.i64 0, Value.int IntKind.i64 0, Value.int IntKind.i64 0, Value.int IntKind.i64 0, Value.int IntKind.i64 0])) (pnR R) H2 (fun v16 H17 =>
  dBl v16 (fun b18 =>
  R (Ending.returned (Value.bool b18)) H17)))))))))))) (jn (α := VFH 1) (fun v19 H20 =>
  ∀ v21 v22 v23 v24 v25 v26 v27 v28 v29 v30 v31 v32 v33 v34 v35 v36 v37 v38 v39 v40 v41 v42 v43 v44 v45 v46 v47 : Value,
  dBl v19 (fun b48 =>
  sB b48 (R (Ending.returned (Value.bool false)) H20) (ld H20 (Addr.mk r1 3 none) (fun v49 =>
  ld H20 (Addr.mk r1 4 none) (fun v50 =>
  ld H20 (Addr.mk r1 5 none) (fun v51 =>
  ld H20 (Addr.mk r1 6 none) (fun v52 =>
  ∃ I53 : List Value → Heap → Prop,
  ∃ I54 : List Value → Heap → Nat,
  (I53 ([Value.int IntKind.i64 0]) H20) ∧
  ∀ n55 : Int,
  ∀ v56 v57 v58 v59 v60 v61 v62 v63 : Value,
  ∀ H64 : Heap,
  (I53 ([Value.int IntKind.i64 n55]) H64) →
  sB (decide (n55 < 4)) (ask ((0 : Int) ≤ n55 ∧ n55 < (4 : Int)) (oV ([v49, v50, v51, v52][Int.toNat n55 * 1]?) (fun v66 =>
  dInt IntKind.i64 v66 (fun n67 =>
  HCalls Tryz.prog 260 #[Value.int IntKind.i64 n67] H64 (Sp.retK (fun v68 H69 =>
  dBl v68 (fun b70 =>
  sB (!b70) (R (Ending.returned (Value.bool false)) H69) (wr IntKind.i64 (n55 + 1) (fun n71 =>
  (I53 ([Value.int IntKind.i64 n71]) H69) ∧
  (I54 [Value.int IntKind.i64 n71] H69) < (I54 [Value.int IntKind.i64 n55] H64))))) (pnR R)))))) (ld H64 (Addr.mk r1 7 none) (fun v74 =>
  dInt IntKind.i64 v74 (fun n75 =>
  HCalls Tryz.prog 260 #[Value.int IntKind.i64 n75] H64 (Sp.retK (fun v76 H77 =>
  dBl v76 (fun b78 =>
  sB b78 (ld H77 (Addr.mk r1 8 none) (fun v79 =>
  dInt IntKind.i64 v79 (fun n80 =>
  HCalls Tryz.prog 260 #[Value.int IntKind.i64 n80] H77 (Sp.retK (fun v81 H82 =>
  dBl v81 (fun b83 =>
  sB b83 (ld H82 (Addr.mk r1 0 none) (fun v84 =>
  dInt IntKind.i64 v84 (fun n85 =>
  sB (n85 != 2) (R (Ending.returned (Value.bool true)) H82) (ld H82 (Addr.mk r1 2 none) (fun v86 =>
  dInt IntKind.i64 v86 (fun n87 =>
  ask ((128 : Int) ≠ (0 : Int)) (nm (Int.tmod n87 128) (fun n88 =>
  R (Ending.returned (Value.bool (n88 == 0))) H82)))))))) (R (Ending.returned (Value.bool false)) H82))) (pnR R))))) (R (Ending.returned (Value.bool false)) H77))) (pnR R)))))))))))) (fun k93 =>
  ld H2 (Addr.mk r1 0 none) (fun v94 =>
  dInt IntKind.i64 v94 (fun n95 =>
  sB (n95 != 1) (ld H2 (Addr.mk r1 0 none) (fun v96 =>
  dInt IntKind.i64 v96 (fun n97 =>
  sB (n97 != 2) (k93 (Value.bool true) H2) (ld H2 (Addr.mk r1 1 none) (fun v98 =>
  dInt IntKind.i64 v98 (fun n99 =>
  sB (decide (n99 < 0)) (k93 (Value.bool true) H2) (ld H2 (Addr.mk r1 1 none) (fun v100 =>
  dInt IntKind.i64 v100 (fun n101 =>
  sB (decide (n101 > 1000)) (k93 (Value.bool true) H2) (ld H2 (Addr.mk r1 2 none) (fun v102 =>
  dInt IntKind.i64 v102 (fun n103 =>
  sB (decide (n103 < 0)) (k93 (Value.bool true) H2) (ld H2 (Addr.mk r1 2 none) (fun v104 =>
  dInt IntKind.i64 v104 (fun n105 =>
  k93 (Value.bool (decide (n105 > 532992))) H2))))))))))))))) (ld H2 (Addr.mk r1 1 none) (fun v106 =>
  dInt IntKind.i64 v106 (fun n107 =>
  sB (decide (n107 < 0)) (k93 (Value.bool true) H2) (ld H2 (Addr.mk r1 1 none) (fun v108 =>
  dInt IntKind.i64 v108 (fun n109 =>
  sB (decide (n109 > 1000)) (k93 (Value.bool true) H2) (ld H2 (Addr.mk r1 2 none) (fun v110 =>
  dInt IntKind.i64 v110 (fun n111 =>
  sB (decide (n111 < 0)) (k93 (Value.bool true) H2) (ld H2 (Addr.mk r1 2 none) (fun v112 =>
  dInt IntKind.i64 v112 (fun n113 =>
  k93 (Value.bool (decide (n113 > 532992))) H2)))))))))))))))))))
theorem F154_eq (x0_0 : Value) (x0_1 : Value) (x0_2 : Value) (x0_3 : Value) (x0_4 : Value) (x0_5 : Value) (x0_6 : Value) (x0_7 : Value) (x0_8 : Value) (R : Ending → Heap → Prop) (H : Heap) : F154 x0_0 x0_1 x0_2 x0_3 x0_4 x0_5 x0_6 x0_7 x0_8 R H = vc Tryz.prog (codeOf Tryz.f154) (.node none .leaf (.node none .leaf (.node none (.node (some ⟨[(38, 4)], [11, 12, 13, 14, 15, 16, 17, 18, 19, 20, 21, 22, 23, 24, 25, 26, 27, 28, 29, 30, 31, 32, 33, 34, 35, 36, 37]⟩) .leaf .leaf) (.node none (.node none .leaf (.node none (.node (some ⟨[(41, 3)], [2, 4, 42, 43, 44, 45, 46, 47]⟩) .leaf .leaf) .leaf)) .leaf)))) (postV Tryz.prog Tryz.f154 R) ⟨#[Value.agg #[x0_0, x0_1, x0_2, x0_3, x0_4, x0_5, x0_6, x0_7, x0_8]] ++ Array.replicate (Tryz.f154.ntmps - 1) undef, []⟩ H := by kernel_rfl
theorem F154_calls {R : Ending → Heap → Prop} {H : Heap} (x0_0 : Value) (x0_1 : Value) (x0_2 : Value) (x0_3 : Value) (x0_4 : Value) (x0_5 : Value) (x0_6 : Value) (x0_7 : Value) (x0_8 : Value) (h : F154 x0_0 x0_1 x0_2 x0_3 x0_4 x0_5 x0_6 x0_7 x0_8 R H) : HCalls Tryz.prog 154 #[Value.agg #[x0_0, x0_1, x0_2, x0_3, x0_4, x0_5, x0_6, x0_7, x0_8]] H R :=
  calls_by (F := F154 x0_0 x0_1 x0_2 x0_3 x0_4 x0_5 x0_6 x0_7 x0_8 R H) (.node none .leaf (.node none .leaf (.node none (.node (some ⟨[(38, 4)], [11, 12, 13, 14, 15, 16, 17, 18, 19, 20, 21, 22, 23, 24, 25, 26, 27, 28, 29, 30, 31, 32, 33, 34, 35, 36, 37]⟩) .leaf .leaf) (.node none (.node none .leaf (.node none (.node (some ⟨[(41, 3)], [2, 4, 42, 43, 44, 45, 46, 47]⟩) .leaf .leaf) .leaf)) .leaf)))) Tryz.func154 rfl (F154_eq x0_0 x0_1 x0_2 x0_3 x0_4 x0_5 x0_6 x0_7 x0_8 R H) h
/-- bollard/bollardref03.number -/
def F155 (x0a : Option Addr) (x0n : Nat) (x0c : Nat) (x1 : Int) (x2 : Int) (x3 : Int) (R : Ending → Heap → Prop) (H : Heap) : Prop :=
  HCalls Tryz.prog 261 #[Value.slice x0a x0n x0c, Value.int IntKind.i64 x1, Value.int IntKind.i64 x2, Value.int IntKind.i64 x3] H (Sp.retK (fun v1 H2 =>
  dT 2 v1 (fun v3 v4 =>
  dSl v3 (fun p5 r6 r7 =>
  dInt IntKind.i64 v4 (fun n8 =>
  R (Ending.returned (Value.slice p5 r6 r7)) H2)))) (pnR R))
theorem F155_eq (x0a : Option Addr) (x0n : Nat) (x0c : Nat) (x1 : Int) (x2 : Int) (x3 : Int) (R : Ending → Heap → Prop) (H : Heap) : F155 x0a x0n x0c x1 x2 x3 R H = vc Tryz.prog (codeOf Tryz.f155) .leaf (postV Tryz.prog Tryz.f155 R) ⟨#[Value.slice x0a x0n x0c, Value.int IntKind.i64 x1, Value.int IntKind.i64 x2, Value.int IntKind.i64 x3] ++ Array.replicate (Tryz.f155.ntmps - 4) undef, []⟩ H := by kernel_rfl
theorem F155_calls {R : Ending → Heap → Prop} {H : Heap} (x0a : Option Addr) (x0n : Nat) (x0c : Nat) (x1 : Int) (x2 : Int) (x3 : Int) (h : F155 x0a x0n x0c x1 x2 x3 R H) : HCalls Tryz.prog 155 #[Value.slice x0a x0n x0c, Value.int IntKind.i64 x1, Value.int IntKind.i64 x2, Value.int IntKind.i64 x3] H R :=
  calls_by (F := F155 x0a x0n x0c x1 x2 x3 R H) .leaf Tryz.func155 rfl (F155_eq x0a x0n x0c x1 x2 x3 R H) h
/-- bollard/bollardref01.Seal -/
def F156 (x0a : Option Addr) (x0n : Nat) (x0c : Nat) (R : Ending → Heap → Prop) (H : Heap) : Prop :=
  sB (decide ((↑x0n : Int) < 4)) (R (Ending.returned (Value.tuple #[Value.slice none 0 0, Value.int IntKind.i64 10])) H) (wr IntKind.i64 ((↑x0n : Int) - 4) (fun n1 =>
  wr IntKind.i64 ((↑x0n : Int) - 4) (fun n2 =>
  ask ((0 : Int) ≤ (0 : Int) ∧ (0 : Int) ≤ n2 ∧ n2 ≤ (↑x0c : Int) ∧ (↑x0c : Int) ≤ (↑x0c : Int)) (HCalls Tryz.prog 262 #[Value.slice (slO x0a 1 0 (↑x0c : Int)) (Int.toNat n2 - Int.toNat 0) (Int.toNat (↑x0c : Int) - Int.toNat 0)] H (Sp.retK (fun v3 H4 =>
  dInt IntKind.i64 v3 (fun n5 =>
  HCalls Tryz.prog 261 #[Value.slice x0a x0n x0c, Value.int IntKind.i64 n1, Value.int IntKind.i64 4, Value.int IntKind.i64 n5] H4 (Sp.retK (fun v6 H7 =>
  dT 2 v6 (fun v8 v9 =>
  dSl v8 (fun p10 r11 r12 =>
  dInt IntKind.i64 v9 (fun n13 =>
  R (Ending.returned (Value.tuple #[Value.slice p10 r11 r12, Value.int IntKind.i64 n13])) H7)))) (pnR R)))) (pnR R))))))
theorem F156_eq (x0a : Option Addr) (x0n : Nat) (x0c : Nat) (R : Ending → Heap → Prop) (H : Heap) : F156 x0a x0n x0c R H = vc Tryz.prog (codeOf Tryz.f156) .leaf (postV Tryz.prog Tryz.f156 R) ⟨#[Value.slice x0a x0n x0c] ++ Array.replicate (Tryz.f156.ntmps - 1) undef, []⟩ H := by kernel_rfl
theorem F156_calls {R : Ending → Heap → Prop} {H : Heap} (x0a : Option Addr) (x0n : Nat) (x0c : Nat) (h : F156 x0a x0n x0c R H) : HCalls Tryz.prog 156 #[Value.slice x0a x0n x0c] H R :=
  calls_by (F := F156 x0a x0n x0c R H) .leaf Tryz.func156 rfl (F156_eq x0a x0n x0c R H) h
/-- (*bollard/disk.Disk).Blocks -/
def F164 (x0 : Option Addr) (R : Ending → Heap → Prop) (H : Heap) : Prop :=
  sB (Option.isNone x0) (R (Ending.returned (Value.int IntKind.i64 0)) H) (nz x0 (fun a1 =>
  ld H a1 (fun v2 =>
  dSl v2 (fun p3 r4 r5 =>
  R (Ending.returned (Value.int IntKind.i64 (↑r4 : Int))) H))))
theorem F164_eq (x0 : Option Addr) (R : Ending → Heap → Prop) (H : Heap) : F164 x0 R H = vc Tryz.prog (codeOf Tryz.f164) .leaf (postV Tryz.prog Tryz.f164 R) ⟨#[Value.pointer x0] ++ Array.replicate (Tryz.f164.ntmps - 1) undef, []⟩ H := by kernel_rfl
theorem F164_calls {R : Ending → Heap → Prop} {H : Heap} (x0 : Option Addr) (h : F164 x0 R H) : HCalls Tryz.prog 164 #[Value.pointer x0] H R :=
  calls_by (F := F164 x0 R H) .leaf Tryz.func164 rfl (F164_eq x0 R H) h
/-- bollard/geom.between -/
def F165 (x0 : Int) (x1 : Int) (x2 : Int) (R : Ending → Heap → Prop) (H : Heap) : Prop :=
  sB (decide (x0 ≥ x1)) (R (Ending.returned (Value.bool (decide (x0 ≤ x2)))) H) (R (Ending.returned (Value.bool false)) H)
theorem F165_eq (x0 : Int) (x1 : Int) (x2 : Int) (R : Ending → Heap → Prop) (H : Heap) : F165 x0 x1 x2 R H = vc Tryz.prog (codeOf Tryz.f165) .leaf (postV Tryz.prog Tryz.f165 R) ⟨#[Value.int IntKind.i64 x0, Value.int IntKind.i64 x1, Value.int IntKind.i64 x2] ++ Array.replicate (Tryz.f165.ntmps - 3) undef, []⟩ H := by kernel_rfl
theorem F165_calls {R : Ending → Heap → Prop} {H : Heap} (x0 : Int) (x1 : Int) (x2 : Int) (h : F165 x0 x1 x2 R H) : HCalls Tryz.prog 165 #[Value.int IntKind.i64 x0, Value.int IntKind.i64 x1, Value.int IntKind.i64 x2] H R :=
  calls_by (F := F165 x0 x1 x2 R H) .leaf Tryz.func165 rfl (F165_eq x0 x1 x2 R H) h
/-- bollard/geom.front -/
def F166 (x0_0 : Value) (x0_1 : Value) (x0_2 : Value) (R : Ending → Heap → Prop) (H : Heap) : Prop :=
  al H (Obj.cells #[x0_0, x0_1, x0_2] 23) (fun r1 H2 =>
  ld H2 (Addr.mk r1 2 none) (fun v3 =>
  dInt IntKind.i64 v3 (fun n4 =>
  ask ((4 : Int) ≠ (0 : Int)) (wr IntKind.i64 (Int.tdiv n4 4) (fun n5 =>
  wr IntKind.i64 (2 + n5) (fun n6 =>
  R (Ending.returned (Value.int IntKind.i64 n6)) H2))))))
theorem F166_eq (x0_0 : Value) (x0_1 : Value) (x0_2 : Value) (R : Ending → Heap → Prop) (H : Heap) : F166 x0_0 x0_1 x0_2 R H = vc Tryz.prog (codeOf Tryz.f166) .leaf (postV Tryz.prog Tryz.f166 R) ⟨#[Value.agg #[x0_0, x0_1, x0_2]] ++ Array.replicate (Tryz.f166.ntmps - 1) undef, []⟩ H := by kernel_rfl
theorem F166_calls {R : Ending → Heap → Prop} {H : Heap} (x0_0 : Value) (x0_1 : Value) (x0_2 : Value) (h : F166 x0_0 x0_1 x0_2 R H) : HCalls Tryz.prog 166 #[Value.agg #[x0_0, x0_1, x0_2]] H R :=
  calls_by (F := F166 x0_0 x0_1 x0_2 R H) .leaf Tryz.func166 rfl (F166_eq x0_0 x0_1 x0_2 R H) h
/-- bollard/geom.all -/
def F167 (x0_0 : Value) (x0_1 : Value) (x0_2 : Value) (x1 : Int) (R : Ending → Heap → Prop) (H : Heap) : Prop :=
  al H (Obj.cells #[x0_0, x0_1, x0_2] 23) (fun r1 H2 =>
  ld H2 (Addr.mk r1 0 none) (fun v3 =>
  ld H2 (Addr.mk r1 1 none) (fun v4 =>
  ld H2 (Addr.mk r1 2 none) (fun v5 =>
  HCalls Tryz.prog 65 #[Value.agg #[v3, v4, v5]] H2 (Sp.retK (fun v6 H7 =>
  dInt IntKind.i64 v6 (fun n8 =>
  sB (n8 != 0) (R (Ending.returned (Value.int IntKind.i64 0)) H7) (ld H7 (Addr.mk r1 0 none) (fun v9 =>
  dInt IntKind.i64 v9 (fun n10 =>
  wr IntKind.i64 (n10 * x1) (fun n11 =>
  R (Ending.returned (Value.int IntKind.i64 n11)) H7)))))) (pnR R))))))
theorem F167_eq (x0_0 : Value) (x0_1 : Value) (x0_2 : Value) (x1 : Int) (R : Ending → Heap → Prop) (H : Heap) : F167 x0_0 x0_1 x0_2 x1 R H = vc Tryz.prog (codeOf Tryz.f167) .leaf (postV Tryz.prog Tryz.f167 R) ⟨#[Value.agg #[x0_0, x0_1, x0_2], Value.int IntKind.i64 x1] ++ Array.replicate (Tryz.f167.ntmps - 2) undef, []⟩ H := by kernel_rfl
theorem F167_calls {R : Ending → Heap → Prop} {H : Heap} (x0_0 : Value) (x0_1 : Value) (x0_2 : Value) (x1 : Int) (h : F167 x0_0 x0_1 x0_2 x1 R H) : HCalls Tryz.prog 167 #[Value.agg #[x0_0, x0_1, x0_2], Value.int IntKind.i64 x1] H R :=
  calls_by (F := F167 x0_0 x0_1 x0_2 x1 R H) .leaf Tryz.func167 rfl (F167_eq x0_0 x0_1 x0_2 x1 R H) h
end Go.Proofs.YtdlelcpkelginaaGreat.E
