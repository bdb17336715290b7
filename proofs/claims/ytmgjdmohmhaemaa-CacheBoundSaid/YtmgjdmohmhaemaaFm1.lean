/- The functions' forms in the engine's words, printed by my own program. -/
import Derived.Test.YtmgjdmohmhaemaaProg
import Derived.Test.YtmgjdmohmhaemaaEng11
import Derived.KernelRfl
namespace Go.Proofs.Ytmgjdmohmhaemaa.E
open Go Go.Proofs
set_option linter.unusedVariables false
/-- bollard/geom.Super -/
def F12 (x0_0 : Value) (x0_1 : Value) (x0_2 : Value) (x1 : Int) (R : Ending → Heap → Prop) (H : Heap) : Prop :=
  al H (Obj.cells #[x0_0, x0_1, x0_2] 23) (fun r1 H2 =>
  ld H2 (Addr.mk r1 0 none) (fun v3 =>
  ld H2 (Addr.mk r1 1 none) (fun v4 =>
  ld H2 (Addr.mk r1 2 none) (fun v5 =>
  HCalls Try.prog 44 #[Value.agg #[v3, v4, v5], Value.int IntKind.i64 x1, Value.int IntKind.i64 0] H2 (Sp.retK (fun v6 H7 =>
  dT 2 v6 (fun v8 v9 =>
  dInt IntKind.i64 v8 (fun n10 =>
  dBl v9 (fun b11 =>
  R (Ending.returned (Value.tuple #[Value.int IntKind.i64 n10, Value.bool b11])) H7)))) (pnR R))))))
theorem F12_eq (x0_0 : Value) (x0_1 : Value) (x0_2 : Value) (x1 : Int) (R : Ending → Heap → Prop) (H : Heap) : F12 x0_0 x0_1 x0_2 x1 R H = vc Try.prog (codeOf Try.f12) .leaf (postV Try.prog Try.f12 R) ⟨#[Value.agg #[x0_0, x0_1, x0_2], Value.int IntKind.i64 x1] ++ Array.replicate (Try.f12.ntmps - 2) undef, []⟩ H := by kernel_rfl
theorem F12_calls {R : Ending → Heap → Prop} {H : Heap} (x0_0 : Value) (x0_1 : Value) (x0_2 : Value) (x1 : Int) (h : F12 x0_0 x0_1 x0_2 x1 R H) : HCalls Try.prog 12 #[Value.agg #[x0_0, x0_1, x0_2], Value.int IntKind.i64 x1] H R :=
  calls_by (F := F12 x0_0 x0_1 x0_2 x1 R H) .leaf Try.func12 rfl (F12_eq x0_0 x0_1 x0_2 x1 R H) h
/-- bollard/geom.Header -/
def F13 (x0_0 : Value) (x0_1 : Value) (x0_2 : Value) (x1 : Int) (R : Ending → Heap → Prop) (H : Heap) : Prop :=
  al H (Obj.cells #[x0_0, x0_1, x0_2] 23) (fun r1 H2 =>
  ld H2 (Addr.mk r1 0 none) (fun v3 =>
  ld H2 (Addr.mk r1 1 none) (fun v4 =>
  ld H2 (Addr.mk r1 2 none) (fun v5 =>
  HCalls Try.prog 44 #[Value.agg #[v3, v4, v5], Value.int IntKind.i64 x1, Value.int IntKind.i64 1] H2 (Sp.retK (fun v6 H7 =>
  dT 2 v6 (fun v8 v9 =>
  dInt IntKind.i64 v8 (fun n10 =>
  dBl v9 (fun b11 =>
  R (Ending.returned (Value.tuple #[Value.int IntKind.i64 n10, Value.bool b11])) H7)))) (pnR R))))))
theorem F13_eq (x0_0 : Value) (x0_1 : Value) (x0_2 : Value) (x1 : Int) (R : Ending → Heap → Prop) (H : Heap) : F13 x0_0 x0_1 x0_2 x1 R H = vc Try.prog (codeOf Try.f13) .leaf (postV Try.prog Try.f13 R) ⟨#[Value.agg #[x0_0, x0_1, x0_2], Value.int IntKind.i64 x1] ++ Array.replicate (Try.f13.ntmps - 2) undef, []⟩ H := by kernel_rfl
theorem F13_calls {R : Ending → Heap → Prop} {H : Heap} (x0_0 : Value) (x0_1 : Value) (x0_2 : Value) (x1 : Int) (h : F13 x0_0 x0_1 x0_2 x1 R H) : HCalls Try.prog 13 #[Value.agg #[x0_0, x0_1, x0_2], Value.int IntKind.i64 x1] H R :=
  calls_by (F := F13 x0_0 x0_1 x0_2 x1 R H) .leaf Try.func13 rfl (F13_eq x0_0 x0_1 x0_2 x1 R H) h
/-- bollard/geom.Data -/
def F14 (x0_0 : Value) (x0_1 : Value) (x0_2 : Value) (x1 : Int) (R : Ending → Heap → Prop) (H : Heap) : Prop :=
  al H (Obj.cells #[x0_0, x0_1, x0_2] 23) (fun r1 H2 =>
  ld H2 (Addr.mk r1 0 none) (fun v3 =>
  ld H2 (Addr.mk r1 1 none) (fun v4 =>
  ld H2 (Addr.mk r1 2 none) (fun v5 =>
  ld H2 (Addr.mk r1 0 none) (fun v6 =>
  ld H2 (Addr.mk r1 1 none) (fun v7 =>
  ld H2 (Addr.mk r1 2 none) (fun v8 =>
  HCalls Try.prog 42 #[Value.agg #[v6, v7, v8]] H2 (Sp.retK (fun v9 H10 =>
  dInt IntKind.i64 v9 (fun n11 =>
  (ld H10 (Addr.mk r1 0 none) (fun v12 =>
  ld H10 (Addr.mk r1 1 none) (fun v13 =>
  ld H10 (Addr.mk r1 2 none) (fun v14 =>
  (Value.agg #[v12, v13, v14]) = (Value.agg #[v3, v4, v5]))))) ∧
  HCalls Try.prog 44 #[Value.agg #[v3, v4, v5], Value.int IntKind.i64 x1, Value.int IntKind.i64 n11] H10 (Sp.retK (fun v15 H16 =>
  dT 2 v15 (fun v17 v18 =>
  dInt IntKind.i64 v17 (fun n19 =>
  dBl v18 (fun b20 =>
  sB (!b20) (R (Ending.returned (Value.tuple #[Value.int IntKind.i64 0, Value.int IntKind.i64 0, Value.bool false])) H16) (ld H16 (Addr.mk r1 1 none) (fun v21 =>
  dInt IntKind.i64 v21 (fun n22 =>
  ld H16 (Addr.mk r1 0 none) (fun v23 =>
  ld H16 (Addr.mk r1 1 none) (fun v24 =>
  ld H16 (Addr.mk r1 2 none) (fun v25 =>
  HCalls Try.prog 42 #[Value.agg #[v23, v24, v25]] H16 (Sp.retK (fun v26 H27 =>
  dInt IntKind.i64 v26 (fun n28 =>
  (ld H27 (Addr.mk r1 1 none) (fun v29 =>
  dInt IntKind.i64 v29 (fun n30 =>
  (Value.int IntKind.i64 n30) = (Value.int IntKind.i64 n22)))) ∧
  wr IntKind.i64 (n22 - n28) (fun n31 =>
  R (Ending.returned (Value.tuple #[Value.int IntKind.i64 n19, Value.int IntKind.i64 n31, Value.bool true])) H27))) nopR))))))))))) nopR))) nopR))))))))
theorem F14_eq (x0_0 : Value) (x0_1 : Value) (x0_2 : Value) (x1 : Int) (R : Ending → Heap → Prop) (H : Heap) : F14 x0_0 x0_1 x0_2 x1 R H = vc Try.prog (codeOf Try.f14) .leaf (postV Try.prog Try.f14 R) ⟨#[Value.agg #[x0_0, x0_1, x0_2], Value.int IntKind.i64 x1] ++ Array.replicate (Try.f14.ntmps - 2) undef, []⟩ H := by kernel_rfl
theorem F14_calls {R : Ending → Heap → Prop} {H : Heap} (x0_0 : Value) (x0_1 : Value) (x0_2 : Value) (x1 : Int) (h : F14 x0_0 x0_1 x0_2 x1 R H) : HCalls Try.prog 14 #[Value.agg #[x0_0, x0_1, x0_2], Value.int IntKind.i64 x1] H R :=
  calls_by (F := F14 x0_0 x0_1 x0_2 x1 R H) .leaf Try.func14 rfl (F14_eq x0_0 x0_1 x0_2 x1 R H) h
/-- bollard/geom.Inodes -/
def F15 (x0_0 : Value) (x0_1 : Value) (x0_2 : Value) (R : Ending → Heap → Prop) (H : Heap) : Prop :=
  al H (Obj.cells #[x0_0, x0_1, x0_2] 23) (fun r1 H2 =>
  ld H2 (Addr.mk r1 0 none) (fun v3 =>
  ld H2 (Addr.mk r1 1 none) (fun v4 =>
  ld H2 (Addr.mk r1 2 none) (fun v5 =>
  ld H2 (Addr.mk r1 2 none) (fun v6 =>
  dInt IntKind.i64 v6 (fun n7 =>
  HCalls Try.prog 43 #[Value.agg #[v3, v4, v5], Value.int IntKind.i64 n7] H2 (Sp.retK (fun v8 H9 =>
  dInt IntKind.i64 v8 (fun n10 =>
  R (Ending.returned (Value.int IntKind.i64 n10)) H9)) (pnR R))))))))
theorem F15_eq (x0_0 : Value) (x0_1 : Value) (x0_2 : Value) (R : Ending → Heap → Prop) (H : Heap) : F15 x0_0 x0_1 x0_2 R H = vc Try.prog (codeOf Try.f15) .leaf (postV Try.prog Try.f15 R) ⟨#[Value.agg #[x0_0, x0_1, x0_2]] ++ Array.replicate (Try.f15.ntmps - 1) undef, []⟩ H := by kernel_rfl
theorem F15_calls {R : Ending → Heap → Prop} {H : Heap} (x0_0 : Value) (x0_1 : Value) (x0_2 : Value) (h : F15 x0_0 x0_1 x0_2 R H) : HCalls Try.prog 15 #[Value.agg #[x0_0, x0_1, x0_2]] H R :=
  calls_by (F := F15 x0_0 x0_1 x0_2 R H) .leaf Try.func15 rfl (F15_eq x0_0 x0_1 x0_2 R H) h
/-- bollard/geom.Inode -/
def F16 (x0_0 : Value) (x0_1 : Value) (x0_2 : Value) (x1 : Int) (R : Ending → Heap → Prop) (H : Heap) : Prop :=
  al H (Obj.cells #[x0_0, x0_1, x0_2] 23) (fun r1 H2 =>
  ld H2 (Addr.mk r1 0 none) (fun v3 =>
  ld H2 (Addr.mk r1 1 none) (fun v4 =>
  ld H2 (Addr.mk r1 2 none) (fun v5 =>
  HCalls Try.prog 45 #[Value.agg #[v3, v4, v5], Value.int IntKind.i64 x1] H2 (Sp.retK (fun v6 H7 =>
  dT 3 v6 (fun v8 v9 v10 =>
  dInt IntKind.i64 v8 (fun n11 =>
  dInt IntKind.i64 v9 (fun n12 =>
  dBl v10 (fun b13 =>
  sB (!b13) (R (Ending.returned (Value.tuple #[Value.int IntKind.i64 0, Value.int IntKind.i64 0, Value.bool false])) H7) (ld H7 (Addr.mk r1 0 none) (fun v14 =>
  ld H7 (Addr.mk r1 1 none) (fun v15 =>
  ld H7 (Addr.mk r1 2 none) (fun v16 =>
  ask ((4 : Int) ≠ (0 : Int)) (wr IntKind.i64 (Int.tdiv n12 4) (fun n17 =>
  wr IntKind.i64 (2 + n17) (fun n18 =>
  HCalls Try.prog 44 #[Value.agg #[v14, v15, v16], Value.int IntKind.i64 n11, Value.int IntKind.i64 n18] H7 (Sp.retK (fun v19 H20 =>
  dT 2 v19 (fun v21 v22 =>
  dInt IntKind.i64 v21 (fun n23 =>
  dBl v22 (fun b24 =>
  ask ((4 : Int) ≠ (0 : Int)) (nm (Int.tmod n12 4) (fun n25 =>
  wr IntKind.i64 (n25 * 32) (fun n26 =>
  R (Ending.returned (Value.tuple #[Value.int IntKind.i64 n23, Value.int IntKind.i64 n26, Value.bool true])) H20))))))) (pnR R)))))))))))))) (pnR R))))))
theorem F16_eq (x0_0 : Value) (x0_1 : Value) (x0_2 : Value) (x1 : Int) (R : Ending → Heap → Prop) (H : Heap) : F16 x0_0 x0_1 x0_2 x1 R H = vc Try.prog (codeOf Try.f16) .leaf (postV Try.prog Try.f16 R) ⟨#[Value.agg #[x0_0, x0_1, x0_2], Value.int IntKind.i64 x1] ++ Array.replicate (Try.f16.ntmps - 2) undef, []⟩ H := by kernel_rfl
theorem F16_calls {R : Ending → Heap → Prop} {H : Heap} (x0_0 : Value) (x0_1 : Value) (x0_2 : Value) (x1 : Int) (h : F16 x0_0 x0_1 x0_2 x1 R H) : HCalls Try.prog 16 #[Value.agg #[x0_0, x0_1, x0_2], Value.int IntKind.i64 x1] H R :=
  calls_by (F := F16 x0_0 x0_1 x0_2 x1 R H) .leaf Try.func16 rfl (F16_eq x0_0 x0_1 x0_2 x1 R H) h
/-- bollard/geom.IsData -/
def F17 (x0_0 : Value) (x0_1 : Value) (x0_2 : Value) (x1 : Int) (R : Ending → Heap → Prop) (H : Heap) : Prop :=
  al H (Obj.cells #[x0_0, x0_1, x0_2] 23) (fun r1 H2 =>
  ld H2 (Addr.mk r1 0 none) (fun v3 =>
  ld H2 (Addr.mk r1 1 none) (fun v4 =>
  ld H2 (Addr.mk r1 2 none) (fun v5 =>
  HCalls Try.prog 46 #[Value.agg #[v3, v4, v5], Value.int IntKind.i64 x1] H2 (Sp.retK (fun v6 H7 =>
  dT 3 v6 (fun v8 v9 v10 =>
  dInt IntKind.i64 v8 (fun n11 =>
  dInt IntKind.i64 v9 (fun n12 =>
  dBl v10 (fun b13 =>
  sB b13 (ld H7 (Addr.mk r1 0 none) (fun v14 =>
  ld H7 (Addr.mk r1 1 none) (fun v15 =>
  ld H7 (Addr.mk r1 2 none) (fun v16 =>
  HCalls Try.prog 42 #[Value.agg #[v14, v15, v16]] H7 (Sp.retK (fun v17 H18 =>
  dInt IntKind.i64 v17 (fun n19 =>
  R (Ending.returned (Value.bool (decide (n12 ≥ n19)))) H18)) (pnR R)))))) (R (Ending.returned (Value.bool false)) H7)))))) (pnR R))))))
theorem F17_eq (x0_0 : Value) (x0_1 : Value) (x0_2 : Value) (x1 : Int) (R : Ending → Heap → Prop) (H : Heap) : F17 x0_0 x0_1 x0_2 x1 R H = vc Try.prog (codeOf Try.f17) .leaf (postV Try.prog Try.f17 R) ⟨#[Value.agg #[x0_0, x0_1, x0_2], Value.int IntKind.i64 x1] ++ Array.replicate (Try.f17.ntmps - 2) undef, []⟩ H := by kernel_rfl
theorem F17_calls {R : Ending → Heap → Prop} {H : Heap} (x0_0 : Value) (x0_1 : Value) (x0_2 : Value) (x1 : Int) (h : F17 x0_0 x0_1 x0_2 x1 R H) : HCalls Try.prog 17 #[Value.agg #[x0_0, x0_1, x0_2], Value.int IntKind.i64 x1] H R :=
  calls_by (F := F17 x0_0 x0_1 x0_2 x1 R H) .leaf Try.func17 rfl (F17_eq x0_0 x0_1 x0_2 x1 R H) h
/-- bollard/bollardref04.IsData -/
def F18 (x0_0 : Value) (x0_1 : Value) (x0_2 : Value) (x1 : Int) (R : Ending → Heap → Prop) (H : Heap) : Prop :=
  al H (Obj.cells #[x0_0, x0_1, x0_2] 23) (fun r1 H2 =>
  ld H2 (Addr.mk r1 0 none) (fun v3 =>
  ld H2 (Addr.mk r1 1 none) (fun v4 =>
  ld H2 (Addr.mk r1 2 none) (fun v5 =>
  HCalls Try.prog 47 #[Value.agg #[v3, v4, v5], Value.int IntKind.i64 x1] H2 (Sp.retK (fun v6 H7 =>
  dT 3 v6 (fun v8 v9 v10 =>
  dInt IntKind.i64 v8 (fun n11 =>
  dInt IntKind.i64 v9 (fun n12 =>
  dBl v10 (fun b13 =>
  sB b13 (ld H7 (Addr.mk r1 2 none) (fun v14 =>
  dInt IntKind.i64 v14 (fun n15 =>
  ask ((4 : Int) ≠ (0 : Int)) (wr IntKind.i64 (Int.tdiv n15 4) (fun n16 =>
  wr IntKind.i64 (2 + n16) (fun n17 =>
  R (Ending.returned (Value.bool (decide (n12 ≥ n17)))) H7)))))) (R (Ending.returned (Value.bool false)) H7)))))) (pnR R))))))
theorem F18_eq (x0_0 : Value) (x0_1 : Value) (x0_2 : Value) (x1 : Int) (R : Ending → Heap → Prop) (H : Heap) : F18 x0_0 x0_1 x0_2 x1 R H = vc Try.prog (codeOf Try.f18) .leaf (postV Try.prog Try.f18 R) ⟨#[Value.agg #[x0_0, x0_1, x0_2], Value.int IntKind.i64 x1] ++ Array.replicate (Try.f18.ntmps - 2) undef, []⟩ H := by kernel_rfl
theorem F18_calls {R : Ending → Heap → Prop} {H : Heap} (x0_0 : Value) (x0_1 : Value) (x0_2 : Value) (x1 : Int) (h : F18 x0_0 x0_1 x0_2 x1 R H) : HCalls Try.prog 18 #[Value.agg #[x0_0, x0_1, x0_2], Value.int IntKind.i64 x1] H R :=
  calls_by (F := F18 x0_0 x0_1 x0_2 x1 R H) .leaf Try.func18 rfl (F18_eq x0_0 x0_1 x0_2 x1 R H) h
/-- bollard/bollardplain.SameImage -/
def F21 (x0a : Option Addr) (x0n : Nat) (x0c : Nat) (x1a : Option Addr) (x1n : Nat) (x1c : Nat) (R : Ending → Heap → Prop) (H : Heap) : Prop :=
  HCalls Try.prog 56 #[Value.slice x0a x0n x0c, Value.slice x1a x1n x1c, Value.func (Fn.func 34) #[] #[]] H (Sp.retK (fun v1 H2 =>
  dBl v1 (fun b3 =>
  R (Ending.returned (Value.bool b3)) H2)) (pnR R))
theorem F21_eq (x0a : Option Addr) (x0n : Nat) (x0c : Nat) (x1a : Option Addr) (x1n : Nat) (x1c : Nat) (R : Ending → Heap → Prop) (H : Heap) : F21 x0a x0n x0c x1a x1n x1c R H = vc Try.prog (codeOf Try.f21) .leaf (postV Try.prog Try.f21 R) ⟨#[Value.slice x0a x0n x0c, Value.slice x1a x1n x1c] ++ Array.replicate (Try.f21.ntmps - 2) undef, []⟩ H := by kernel_rfl
theorem F21_calls {R : Ending → Heap → Prop} {H : Heap} (x0a : Option Addr) (x0n : Nat) (x0c : Nat) (x1a : Option Addr) (x1n : Nat) (x1c : Nat) (h : F21 x0a x0n x0c x1a x1n x1c R H) : HCalls Try.prog 21 #[Value.slice x0a x0n x0c, Value.slice x1a x1n x1c] H R :=
  calls_by (F := F21 x0a x0n x0c x1a x1n x1c R H) .leaf Try.func21 rfl (F21_eq x0a x0n x0c x1a x1n x1c R H) h
/-- bollard/bollardlaw06.both -/
def F22 (x0 : Int) (x1 : Int) (R : Ending → Heap → Prop) (H : Heap) : Prop :=
  wr IntKind.u64 x0 (fun n1 =>
  ask ((12 : Int) ≠ (0 : Int)) (nm (Int.tmod n1 12) (fun n2 =>
  wr IntKind.i64 n2 (fun n3 =>
  wr IntKind.i64 (1 + n3) (fun n4 =>
  HCalls Try.prog 57 #[Value.int IntKind.i64 n4] H (Sp.retK (fun v5 H6 =>
  dT 2 v5 (fun v7 v8 =>
  dPtr v7 (fun p9 =>
  dInt IntKind.i64 v8 (fun n10 =>
  HCalls Try.prog 58 #[Value.int IntKind.i64 n4] H6 (Sp.retK (fun v11 H12 =>
  dT 2 v11 (fun v13 v14 =>
  dPtr v13 (fun p15 =>
  dInt IntKind.i64 v14 (fun n16 =>
  jn (α := VFH 1) (fun v17 H18 =>
  ∀ v19 v20 v21 v22 v23 v24 v25 v26 v27 v28 : Value,
  dBl v17 (fun b29 =>
  sB b29 (R (Ending.returned (Value.tuple #[Value.pointer none, Value.pointer none, Value.pointer none, Value.pointer none, Value.bool false])) H18) (∃ I30 : List Value → Heap → Prop,
  ∃ I31 : List Value → Heap → Nat,
  (I30 ([Value.int IntKind.i64 0]) H18) ∧
  ∀ n32 : Int,
  ∀ v33 v34 v35 v36 v37 v38 v39 v40 v41 v42 v43 v44 v45 v46 v47 v48 v49 v50 v51 v52 v53 v54 v55 v56 v57 v58 : Value,
  ∀ H59 : Heap,
  (I30 ([Value.int IntKind.i64 n32]) H59) →
  sB (decide (n32 < n4)) (wr IntKind.i64 (n32 + 1) (fun n61 =>
  wr IntKind.u8 n61 (fun n62 =>
  al H59 (Obj.cells #[Value.int IntKind.u8 n62] 5) (fun r63 H64 =>
  HCalls Try.prog 30 #[Value.slice (some (Addr.mk r63 0 none)) 1 1, Value.int IntKind.i64 128] H64 (Sp.retK (fun v65 H66 =>
  dSl v65 (fun p67 r68 r69 =>
  HCalls Try.prog 59 #[Value.pointer p9, Value.int IntKind.i64 n32, Value.slice p67 r68 r69] H66 (Sp.retK (fun v70 H71 =>
  dT 2 v70 (fun v72 v73 =>
  dInt IntKind.i64 v72 (fun n74 =>
  dInt IntKind.i64 v73 (fun n75 =>
  HCalls Try.prog 60 #[Value.pointer p15, Value.int IntKind.i64 n32, Value.slice p67 r68 r69] H71 (Sp.retK (fun v76 H77 =>
  dT 2 v76 (fun v78 v79 =>
  dInt IntKind.i64 v78 (fun n80 =>
  dInt IntKind.i64 v79 (fun n81 =>
  wr IntKind.i64 (n32 + 1) (fun n82 =>
  HCalls Try.prog 61 #[Value.pointer p9, Value.int IntKind.i64 n82, Value.bool true] H77 (Sp.retK (fun v83 H84 =>
  dInt IntKind.i64 v83 (fun n85 =>
  wr IntKind.i64 (n32 + 1) (fun n86 =>
  HCalls Try.prog 62 #[Value.pointer p15, Value.int IntKind.i64 n86, Value.bool true] H84 (Sp.retK (fun v87 H88 =>
  dInt IntKind.i64 v87 (fun n89 =>
  wr IntKind.i64 (n32 + 1) (fun n90 =>
  (I30 ([Value.int IntKind.i64 n90]) H88) ∧
  (I31 [Value.int IntKind.i64 n90] H88) < (I31 [Value.int IntKind.i64 n32] H59)))) (pnR R))))) (pnR R))))))) (pnR R)))))) (pnR R)))) (pnR R)))))) (HCalls Try.prog 38 #[Value.pointer p9, Value.int IntKind.i64 x1] H59 (Sp.retK (fun v101 H102 =>
  dT 2 v101 (fun v103 v104 =>
  dPtr v103 (fun p105 =>
  dInt IntKind.i64 v104 (fun n106 =>
  HCalls Try.prog 63 #[Value.pointer p15, Value.int IntKind.i64 x1] H102 (Sp.retK (fun v107 H108 =>
  dT 2 v107 (fun v109 v110 =>
  dPtr v109 (fun p111 =>
  dInt IntKind.i64 v110 (fun n112 =>
  sB (n106 == n112) (R (Ending.returned (Value.tuple #[Value.pointer p105, Value.pointer p111, Value.pointer p9, Value.pointer p15, Value.bool (Option.isNone p105 == Option.isNone p111)])) H108) (R (Ending.returned (Value.tuple #[Value.pointer p105, Value.pointer p111, Value.pointer p9, Value.pointer p15, Value.bool false])) H108))))) (pnR R)))))) (pnR R)))))) (fun k117 =>
  sB (n10 != n16) (k117 (Value.bool true) H12) (sB (Option.isNone p9) (k117 (Value.bool true) H12) (k117 (Value.bool (Option.isNone p15)) H12))))))) (pnR R)))))) (pnR R)))))))
theorem F22_eq (x0 : Int) (x1 : Int) (R : Ending → Heap → Prop) (H : Heap) : F22 x0 x1 R H = vc Try.prog (codeOf Try.f22) (.node none .leaf (.node none .leaf (.node none .leaf (.node none .leaf (.node none (.node (some ⟨[(42, 4)], [32, 33, 34, 35, 36, 37, 38, 39, 40, 41]⟩) .leaf .leaf) (.node none (.node none .leaf (.node none (.node (some ⟨[(44, 3)], [13, 14, 45, 46, 47, 48, 49, 50, 51, 52, 53, 54, 55, 56, 57, 58, 59, 60, 61, 62, 63, 64, 65, 66, 67, 68]⟩) .leaf .leaf) .leaf)) .leaf)))))) (postV Try.prog Try.f22 R) ⟨#[Value.int IntKind.i64 x0, Value.int IntKind.i64 x1] ++ Array.replicate (Try.f22.ntmps - 2) undef, []⟩ H := by kernel_rfl
theorem F22_calls {R : Ending → Heap → Prop} {H : Heap} (x0 : Int) (x1 : Int) (h : F22 x0 x1 R H) : HCalls Try.prog 22 #[Value.int IntKind.i64 x0, Value.int IntKind.i64 x1] H R :=
  calls_by (F := F22 x0 x1 R H) (.node none .leaf (.node none .leaf (.node none .leaf (.node none .leaf (.node none (.node (some ⟨[(42, 4)], [32, 33, 34, 35, 36, 37, 38, 39, 40, 41]⟩) .leaf .leaf) (.node none (.node none .leaf (.node none (.node (some ⟨[(44, 3)], [13, 14, 45, 46, 47, 48, 49, 50, 51, 52, 53, 54, 55, 56, 57, 58, 59, 60, 61, 62, 63, 64, 65, 66, 67, 68]⟩) .leaf .leaf) .leaf)) .leaf)))))) Try.func22 rfl (F22_eq x0 x1 R H) h
/-- (*bollard/cache.Cache).Get -/
def F23 (x0 : Option Addr) (x1 : Int) (R : Ending → Heap → Prop) (H : Heap) : Prop :=
  HCalls Try.prog 64 #[Value.pointer x0, Value.int IntKind.i64 x1] H (Sp.retK (fun v1 H2 =>
  dT 2 v1 (fun v3 v4 =>
  dPtr v3 (fun p5 =>
  dInt IntKind.i64 v4 (fun n6 =>
  sB (n6 != 0) (R (Ending.returned (Value.tuple #[Value.slice none 0 0, Value.int IntKind.i64 n6])) H2) (nz p5 (fun a7 =>
  ld H2 a7 (fun v8 =>
  dSl v8 (fun p9 r10 r11 =>
  HCalls Try.prog 65 #[Value.slice p9 r10 r11] H2 (Sp.retK (fun v12 H13 =>
  dSl v12 (fun p14 r15 r16 =>
  R (Ending.returned (Value.tuple #[Value.slice p14 r15 r16, Value.int IntKind.i64 0])) H13)) (pnR R)))))))))) (pnR R))
theorem F23_eq (x0 : Option Addr) (x1 : Int) (R : Ending → Heap → Prop) (H : Heap) : F23 x0 x1 R H = vc Try.prog (codeOf Try.f23) .leaf (postV Try.prog Try.f23 R) ⟨#[Value.pointer x0, Value.int IntKind.i64 x1] ++ Array.replicate (Try.f23.ntmps - 2) undef, []⟩ H := by kernel_rfl
theorem F23_calls {R : Ending → Heap → Prop} {H : Heap} (x0 : Option Addr) (x1 : Int) (h : F23 x0 x1 R H) : HCalls Try.prog 23 #[Value.pointer x0, Value.int IntKind.i64 x1] H R :=
  calls_by (F := F23 x0 x1 R H) .leaf Try.func23 rfl (F23_eq x0 x1 R H) h
/-- slices.Index[[]int,int] -/
def F24 (x0a : Option Addr) (x0n : Nat) (x0c : Nat) (x1 : Int) (R : Ending → Heap → Prop) (H : Heap) : Prop :=
  ∃ I1 : List Value → Heap → Prop,
  ∃ I2 : List Value → Heap → Nat,
  (I1 ([Value.int IntKind.i64 0]) H) ∧
  ∀ n3 : Int,
  ∀ v4 v5 v6 v7 v8 v9 v10 v11 v12 v13 v14 v15 : Value,
  ∀ H16 : Heap,
  (I1 ([Value.int IntKind.i64 n3]) H16) →
  sB (decide (n3 < (↑x0n : Int))) (nz x0a (fun a18 =>
  ask ((0 : Int) ≤ n3 ∧ n3 < (↑x0n : Int)) (ld H16 (Addr.add a18 (Int.toNat n3 * 1)) (fun v19 =>
  dInt IntKind.i64 v19 (fun n20 =>
  sB (x1 == n20) (R (Ending.returned (Value.int IntKind.i64 n3)) H16) (wr IntKind.i64 (n3 + 1) (fun n21 =>
  (I1 ([Value.int IntKind.i64 n21]) H16) ∧
  (I2 [Value.int IntKind.i64 n21] H16) < (I2 [Value.int IntKind.i64 n3] H16)))))))) (R (Ending.returned (Value.int IntKind.i64 (-1))) H16)
theorem F24_eq (x0a : Option Addr) (x0n : Nat) (x0c : Nat) (x1 : Int) (R : Ending → Heap → Prop) (H : Heap) : F24 x0a x0n x0c x1 R H = vc Try.prog (codeOf Try.f24) (.node none .leaf (.node none (.node none .leaf (.node none (.node (some ⟨[(8, 3)], [4, 5, 9, 10, 11, 12, 13, 14, 15, 16, 17, 18]⟩) .leaf .leaf) .leaf)) .leaf)) (postV Try.prog Try.f24 R) ⟨#[Value.slice x0a x0n x0c, Value.int IntKind.i64 x1] ++ Array.replicate (Try.f24.ntmps - 2) undef, []⟩ H := by kernel_rfl
theorem F24_calls {R : Ending → Heap → Prop} {H : Heap} (x0a : Option Addr) (x0n : Nat) (x0c : Nat) (x1 : Int) (h : F24 x0a x0n x0c x1 R H) : HCalls Try.prog 24 #[Value.slice x0a x0n x0c, Value.int IntKind.i64 x1] H R :=
  calls_by (F := F24 x0a x0n x0c x1 R H) (.node none .leaf (.node none (.node none .leaf (.node none (.node (some ⟨[(8, 3)], [4, 5, 9, 10, 11, 12, 13, 14, 15, 16, 17, 18]⟩) .leaf .leaf) .leaf)) .leaf)) Try.func24 rfl (F24_eq x0a x0n x0c x1 R H) h
/-- slices.Delete[[]int,int] -/
def F25 (x0a : Option Addr) (x0n : Nat) (x0c : Nat) (x1 : Int) (x2 : Int) (R : Ending → Heap → Prop) (H : Heap) : Prop :=
  ask ((0 : Int) ≤ x1 ∧ x1 ≤ x2 ∧ x2 ≤ (↑x0n : Int) ∧ (↑x0n : Int) ≤ (↑x0c : Int)) (sB (x1 == x2) (R (Ending.returned (Value.slice x0a x0n x0c)) H) (ask ((0 : Int) ≤ (0 : Int) ∧ (0 : Int) ≤ x1 ∧ x1 ≤ (↑x0c : Int) ∧ (↑x0c : Int) ≤ (↑x0c : Int)) (ask ((0 : Int) ≤ x2 ∧ x2 ≤ (↑x0n : Int) ∧ (↑x0n : Int) ≤ (↑x0c : Int) ∧ (↑x0c : Int) ≤ (↑x0c : Int)) (semW Try.prog (Builtin.append_ #[26, 26] 26 #[Value.slice (slO x0a 1 0 (↑x0c : Int)) (Int.toNat x1 - Int.toNat 0) (Int.toNat (↑x0c : Int) - Int.toNat 0), Value.slice (slO x0a 1 x2 (↑x0c : Int)) (Int.toNat (↑x0n : Int) - Int.toNat x2) (Int.toNat (↑x0c : Int) - Int.toNat x2)]) nopR H (fun v3 H4 =>
  dSl v3 (fun p5 r6 r7 =>
  ask ((0 : Int) ≤ (↑r6 : Int) ∧ (↑r6 : Int) ≤ (↑x0n : Int) ∧ (↑x0n : Int) ≤ (↑r7 : Int) ∧ (↑r7 : Int) ≤ (↑r7 : Int)) (semW Try.prog (Builtin.clear_ #[26] 0 #[Value.slice (slO p5 1 (↑r6 : Int) (↑r7 : Int)) (Int.toNat (↑x0n : Int) - Int.toNat (↑r6 : Int)) (Int.toNat (↑r7 : Int) - Int.toNat (↑r6 : Int))]) (pnR R) H4 (fun v10 H11 =>
  R (Ending.returned (Value.slice p5 r6 r7)) H11))))))))
theorem F25_eq (x0a : Option Addr) (x0n : Nat) (x0c : Nat) (x1 : Int) (x2 : Int) (R : Ending → Heap → Prop) (H : Heap) : F25 x0a x0n x0c x1 x2 R H = vc Try.prog (codeOf Try.f25) .leaf (postV Try.prog Try.f25 R) ⟨#[Value.slice x0a x0n x0c, Value.int IntKind.i64 x1, Value.int IntKind.i64 x2] ++ Array.replicate (Try.f25.ntmps - 3) undef, []⟩ H := by kernel_rfl
theorem F25_calls {R : Ending → Heap → Prop} {H : Heap} (x0a : Option Addr) (x0n : Nat) (x0c : Nat) (x1 : Int) (x2 : Int) (h : F25 x0a x0n x0c x1 x2 R H) : HCalls Try.prog 25 #[Value.slice x0a x0n x0c, Value.int IntKind.i64 x1, Value.int IntKind.i64 x2] H R :=
  calls_by (F := F25 x0a x0n x0c x1 x2 R H) .leaf Try.func25 rfl (F25_eq x0a x0n x0c x1 x2 R H) h
/-- slices.Equal[[]int,int] -/
def F26 (x0a : Option Addr) (x0n : Nat) (x0c : Nat) (x1a : Option Addr) (x1n : Nat) (x1c : Nat) (R : Ending → Heap → Prop) (H : Heap) : Prop :=
  sB ((↑x0n : Int) != (↑x1n : Int)) (R (Ending.returned (Value.bool false)) H) (∃ I1 : List Value → Heap → Prop,
  ∃ I2 : List Value → Heap → Nat,
  (I1 ([Value.int IntKind.i64 0]) H) ∧
  ∀ n3 : Int,
  ∀ v4 v5 v6 v7 v8 v9 v10 v11 v12 v13 v14 v15 v16 v17 : Value,
  ∀ H18 : Heap,
  (I1 ([Value.int IntKind.i64 n3]) H18) →
  sB (decide (n3 < (↑x0n : Int))) (nz x0a (fun a20 =>
  ask ((0 : Int) ≤ n3 ∧ n3 < (↑x0n : Int)) (ld H18 (Addr.add a20 (Int.toNat n3 * 1)) (fun v21 =>
  dInt IntKind.i64 v21 (fun n22 =>
  nz x1a (fun a23 =>
  ask ((0 : Int) ≤ n3 ∧ n3 < (↑x1n : Int)) (ld H18 (Addr.add a23 (Int.toNat n3 * 1)) (fun v24 =>
  dInt IntKind.i64 v24 (fun n25 =>
  sB (n22 != n25) (R (Ending.returned (Value.bool false)) H18) (wr IntKind.i64 (n3 + 1) (fun n26 =>
  (I1 ([Value.int IntKind.i64 n26]) H18) ∧
  (I2 [Value.int IntKind.i64 n26] H18) < (I2 [Value.int IntKind.i64 n3] H18)))))))))))) (R (Ending.returned (Value.bool true)) H18))
theorem F26_eq (x0a : Option Addr) (x0n : Nat) (x0c : Nat) (x1a : Option Addr) (x1n : Nat) (x1c : Nat) (R : Ending → Heap → Prop) (H : Heap) : F26 x0a x0n x0c x1a x1n x1c R H = vc Try.prog (codeOf Try.f26) (.node none .leaf (.node none .leaf (.node none (.node none .leaf (.node none (.node (some ⟨[(13, 3)], [4, 5, 14, 15, 16, 17, 18, 19, 20, 21, 22, 23, 24, 25]⟩) .leaf .leaf) .leaf)) .leaf))) (postV Try.prog Try.f26 R) ⟨#[Value.slice x0a x0n x0c, Value.slice x1a x1n x1c] ++ Array.replicate (Try.f26.ntmps - 2) undef, []⟩ H := by kernel_rfl
theorem F26_calls {R : Ending → Heap → Prop} {H : Heap} (x0a : Option Addr) (x0n : Nat) (x0c : Nat) (x1a : Option Addr) (x1n : Nat) (x1c : Nat) (h : F26 x0a x0n x0c x1a x1n x1c R H) : HCalls Try.prog 26 #[Value.slice x0a x0n x0c, Value.slice x1a x1n x1c] H R :=
  calls_by (F := F26 x0a x0n x0c x1a x1n x1c R H) (.node none .leaf (.node none .leaf (.node none (.node none .leaf (.node none (.node (some ⟨[(13, 3)], [4, 5, 14, 15, 16, 17, 18, 19, 20, 21, 22, 23, 24, 25]⟩) .leaf .leaf) .leaf)) .leaf))) Try.func26 rfl (F26_eq x0a x0n x0c x1a x1n x1c R H) h
/-- (*bollard/cache.Cache).Held -/
def F27 (x0 : Option Addr) (R : Ending → Heap → Prop) (H : Heap) : Prop :=
  al H (Obj.cells #[Value.pointer x0] 42) (fun r1 H2 =>
  ld H2 (Addr.mk r1 0 none) (fun v3 =>
  dPtr v3 (fun p4 =>
  sB (Option.isNone p4) (R (Ending.returned (Value.slice none 0 0)) H2) (ld H2 (Addr.mk r1 0 none) (fun v5 =>
  dPtr v5 (fun p6 =>
  nz p6 (fun a7 =>
  ld H2 (Addr.add a7 2) (fun v8 =>
  dMap v8 (fun p9 =>
  HCalls Try.prog 67 #[Value.map p9] H2 (Sp.retK (fun v10 H11 =>
  HCalls Try.prog 66 #[v10, Value.func (Fn.func 68) #[] #[Value.pointer (some (Addr.mk r1 0 none))]] H11 (Sp.retK (fun v12 H13 =>
  dSl v12 (fun p14 r15 r16 =>
  R (Ending.returned (Value.slice p14 r15 r16)) H13)) (pnR R))) (pnR R)))))))))))
theorem F27_eq (x0 : Option Addr) (R : Ending → Heap → Prop) (H : Heap) : F27 x0 R H = vc Try.prog (codeOf Try.f27) .leaf (postV Try.prog Try.f27 R) ⟨#[Value.pointer x0] ++ Array.replicate (Try.f27.ntmps - 1) undef, []⟩ H := by kernel_rfl
theorem F27_calls {R : Ending → Heap → Prop} {H : Heap} (x0 : Option Addr) (h : F27 x0 R H) : HCalls Try.prog 27 #[Value.pointer x0] H R :=
  calls_by (F := F27 x0 R H) .leaf Try.func27 rfl (F27_eq x0 R H) h
/-- (*bollard/cache.Cache).Hits -/
def F28 (x0 : Option Addr) (R : Ending → Heap → Prop) (H : Heap) : Prop :=
  sB (Option.isNone x0) (R (Ending.returned (Value.tuple #[Value.int IntKind.i64 0, Value.int IntKind.i64 0])) H) (nz x0 (fun a1 =>
  ld H (Addr.add a1 4) (fun v2 =>
  dInt IntKind.i64 v2 (fun n3 =>
  nz x0 (fun a4 =>
  ld H (Addr.add a4 5) (fun v5 =>
  dInt IntKind.i64 v5 (fun n6 =>
  R (Ending.returned (Value.tuple #[Value.int IntKind.i64 n3, Value.int IntKind.i64 n6])) H)))))))
theorem F28_eq (x0 : Option Addr) (R : Ending → Heap → Prop) (H : Heap) : F28 x0 R H = vc Try.prog (codeOf Try.f28) .leaf (postV Try.prog Try.f28 R) ⟨#[Value.pointer x0] ++ Array.replicate (Try.f28.ntmps - 1) undef, []⟩ H := by kernel_rfl
theorem F28_calls {R : Ending → Heap → Prop} {H : Heap} (x0 : Option Addr) (h : F28 x0 R H) : HCalls Try.prog 28 #[Value.pointer x0] H R :=
  calls_by (F := F28 x0 R H) .leaf Try.func28 rfl (F28_eq x0 R H) h
/-- (*bollard/disk.Disk).Blocks -/
def F29 (x0 : Option Addr) (R : Ending → Heap → Prop) (H : Heap) : Prop :=
  sB (Option.isNone x0) (R (Ending.returned (Value.int IntKind.i64 0)) H) (nz x0 (fun a1 =>
  ld H a1 (fun v2 =>
  dSl v2 (fun p3 r4 r5 =>
  R (Ending.returned (Value.int IntKind.i64 (↑r4 : Int))) H))))
theorem F29_eq (x0 : Option Addr) (R : Ending → Heap → Prop) (H : Heap) : F29 x0 R H = vc Try.prog (codeOf Try.f29) .leaf (postV Try.prog Try.f29 R) ⟨#[Value.pointer x0] ++ Array.replicate (Try.f29.ntmps - 1) undef, []⟩ H := by kernel_rfl
theorem F29_calls {R : Ending → Heap → Prop} {H : Heap} (x0 : Option Addr) (h : F29 x0 R H) : HCalls Try.prog 29 #[Value.pointer x0] H R :=
  calls_by (F := F29 x0 R H) .leaf Try.func29 rfl (F29_eq x0 R H) h
/-- bytes.Repeat -/
def F30 (x0a : Option Addr) (x0n : Nat) (x0c : Nat) (x1 : Int) (R : Ending → Heap → Prop) (H : Heap) : Prop :=
  sB (x1 == 0) (al H (Obj.cells #[] 5) (fun r1 H2 =>
  R (Ending.returned (Value.slice (some (Addr.mk r1 0 none)) 0 0)) H2)) (jn (α := VFH 0) (fun H3 =>
  ∀ v4 v5 v6 : Value,
  wr IntKind.u64 ((↑x0n : Int)) (fun n7 =>
  wr IntKind.u64 x1 (fun n8 =>
  HCalls Try.prog 69 #[Value.int IntKind.u64 n7, Value.int IntKind.u64 n8] H3 (Sp.retK (fun v9 H10 =>
  dT 2 v9 (fun v11 v12 =>
  dInt IntKind.u64 v11 (fun n13 =>
  dInt IntKind.u64 v12 (fun n14 =>
  jn (α := VFH 0) (fun H15 =>
  ∀ v16 v17 v18 v19 v20 v21 v22 : Value,
  wr IntKind.i64 n14 (fun n23 =>
  sB ((↑x0n : Int) == 0) (al H15 (Obj.cells #[] 5) (fun r24 H25 =>
  R (Ending.returned (Value.slice (some (Addr.mk r24 0 none)) 0 0)) H25)) (jn (α := VFH 1) (fun v26 H27 =>
  ∀ v28 v29 v30 v31 v32 v33 v34 v35 v36 v37 v38 v39 : Value,
  dInt IntKind.i64 v26 (fun n40 =>
  semW Try.prog (entS 70 #[Value.int IntKind.i64 n23]) (pnR R) H27 (fun v43 H44 =>
  dSl v43 (fun p45 r46 r47 =>
  ask ((0 : Int) ≤ (0 : Int) ∧ (0 : Int) ≤ n23 ∧ n23 ≤ n23 ∧ n23 ≤ (↑r47 : Int)) (semW Try.prog (Builtin.copy_ #[48, 48] 3 #[Value.slice (slO p45 1 0 n23) (Int.toNat n23 - Int.toNat 0) (Int.toNat n23 - Int.toNat 0), Value.slice x0a x0n x0c]) (pnR R) H44 (fun v50 H51 =>
  dInt IntKind.i64 v50 (fun n52 =>
  ∃ I53 : List Value → Heap → Prop,
  ∃ I54 : List Value → Heap → Nat,
  (I53 ([Value.int IntKind.i64 n52]) H51) ∧
  ∀ n55 : Int,
  ∀ v56 v57 v58 v59 v60 v61 v62 v63 v64 v65 v66 v67 v68 v69 v70 v71 : Value,
  ∀ H72 : Heap,
  (I53 ([Value.int IntKind.i64 n55]) H72) →
  sB (decide (n55 < n23)) (semW Try.prog (Builtin.min_ #[3, 3] 3 #[Value.int IntKind.i64 n55, Value.int IntKind.i64 n40]) (pnR R) H72 (fun v76 H77 =>
  dInt IntKind.i64 v76 (fun n78 =>
  ask ((0 : Int) ≤ n55 ∧ n55 ≤ (↑(Int.toNat n23 - Int.toNat (0 : Int)) : Int) ∧ (↑(Int.toNat n23 - Int.toNat (0 : Int)) : Int) ≤ (↑(Int.toNat n23 - Int.toNat (0 : Int)) : Int) ∧ (↑(Int.toNat n23 - Int.toNat (0 : Int)) : Int) ≤ (↑(Int.toNat n23 - Int.toNat (0 : Int)) : Int)) (ask ((0 : Int) ≤ (0 : Int) ∧ (0 : Int) ≤ n78 ∧ n78 ≤ (↑(Int.toNat n23 - Int.toNat (0 : Int)) : Int) ∧ (↑(Int.toNat n23 - Int.toNat (0 : Int)) : Int) ≤ (↑(Int.toNat n23 - Int.toNat (0 : Int)) : Int)) (semW Try.prog (Builtin.copy_ #[48, 48] 3 #[Value.slice (slO (slO p45 1 0 n23) 1 n55 (↑(Int.toNat n23 - Int.toNat 0) : Int)) (Int.toNat (↑(Int.toNat n23 - Int.toNat 0) : Int) - Int.toNat n55) (Int.toNat (↑(Int.toNat n23 - Int.toNat 0) : Int) - Int.toNat n55), Value.slice (slO (slO p45 1 0 n23) 1 0 (↑(Int.toNat n23 - Int.toNat 0) : Int)) (Int.toNat n78 - Int.toNat 0) (Int.toNat (↑(Int.toNat n23 - Int.toNat 0) : Int) - Int.toNat 0)]) nopR H77 (fun v81 H82 =>
  dInt IntKind.i64 v81 (fun n83 =>
  wr IntKind.i64 (n55 + n83) (fun n84 =>
  (I53 ([Value.int IntKind.i64 n84]) H82) ∧
  (I54 [Value.int IntKind.i64 n84] H82) < (I54 [Value.int IntKind.i64 n55] H72))))))))) (R (Ending.returned (Value.slice (slO p45 1 0 n23) (Int.toNat n23 - Int.toNat 0) (Int.toNat n23 - Int.toNat 0))) H72)))))))) (fun k85 =>
  sB (decide (n23 > 8192)) (ask ((↑x0n : Int) ≠ (0 : Int)) (wr IntKind.i64 (Int.tdiv 8192 (↑x0n : Int)) (fun n86 =>
  wr IntKind.i64 (n86 * (↑x0n : Int)) (fun n87 =>
  sB (n87 == 0) (k85 (Value.int IntKind.i64 (↑x0n : Int)) H15) (k85 (Value.int IntKind.i64 n87) H15))))) (k85 (Value.int IntKind.i64 n23) H15))))) (fun k88 =>
  jn (α := VFH 1) (fun v89 H90 =>
  ∀ v91 v92 v93 v94 v95 : Value,
  dBl v89 (fun b96 =>
  sB b96 (R (Ending.panicked [PanicEntry.mk (Value.iface 9 (Value.string (ByteArray.mk #[UInt8.ofBitVec 98#8, UInt8.ofBitVec 121#8, UInt8.ofBitVec 116#8, UInt8.ofBitVec 101#8, UInt8.ofBitVec 115#8, UInt8.ofBitVec 58#8, UInt8.ofBitVec 32#8, UInt8.ofBitVec 82#8, UInt8.ofBitVec 101#8, UInt8.ofBitVec 112#8, UInt8.ofBitVec 101#8, UInt8.ofBitVec 97#8, UInt8.ofBitVec 116#8, UInt8.ofBitVec 32#8, UInt8.ofBitVec 111#8, UInt8.ofBitVec 117#8, UInt8.ofBitVec 116#8, UInt8.ofBitVec 112#8, UInt8.ofBitVec 117#8, UInt8.ofBitVec 116#8, UInt8.ofBitVec 32#8, UInt8.ofBitVec 108#8, UInt8.ofBitVec 101#8, UInt8.ofBitVec 110#8, UInt8.ofBitVec 103#8, UInt8.ofBitVec 116#8, UInt8.ofBitVec 104#8, UInt8.ofBitVec 32#8, UInt8.ofBitVec 111#8, UInt8.ofBitVec 118#8, UInt8.ofBitVec 101#8, UInt8.ofBitVec 114#8, UInt8.ofBitVec 102#8, UInt8.ofBitVec 108#8, UInt8.ofBitVec 111#8, UInt8.ofBitVec 119#8]))) false false]) H90) (k88 H90))) (fun k97 =>
  sB (decide (n13 > 0)) (k97 (Value.bool true) H10) (k97 (Value.bool (decide (n14 > 9223372036854775807))) H10))))))) (pnR R))))) (fun k100 =>
  sB (decide (x1 < 0)) (R (Ending.panicked [PanicEntry.mk (Value.iface 9 (Value.string (ByteArray.mk #[UInt8.ofBitVec 98#8, UInt8.ofBitVec 121#8, UInt8.ofBitVec 116#8, UInt8.ofBitVec 101#8, UInt8.ofBitVec 115#8, UInt8.ofBitVec 58#8, UInt8.ofBitVec 32#8, UInt8.ofBitVec 110#8, UInt8.ofBitVec 101#8, UInt8.ofBitVec 103#8, UInt8.ofBitVec 97#8, UInt8.ofBitVec 116#8, UInt8.ofBitVec 105#8, UInt8.ofBitVec 118#8, UInt8.ofBitVec 101#8, UInt8.ofBitVec 32#8, UInt8.ofBitVec 82#8, UInt8.ofBitVec 101#8, UInt8.ofBitVec 112#8, UInt8.ofBitVec 101#8, UInt8.ofBitVec 97#8, UInt8.ofBitVec 116#8, UInt8.ofBitVec 32#8, UInt8.ofBitVec 99#8, UInt8.ofBitVec 111#8, UInt8.ofBitVec 117#8, UInt8.ofBitVec 110#8, UInt8.ofBitVec 116#8]))) false false]) H) (k100 H)))
theorem F30_eq (x0a : Option Addr) (x0n : Nat) (x0c : Nat) (x1 : Int) (R : Ending → Heap → Prop) (H : Heap) : F30 x0a x0n x0c x1 R H = vc Try.prog (codeOf Try.f30) (.node none .leaf (.node none .leaf (.node (some ⟨[], [15, 16, 17]⟩) .leaf (.node none .leaf (.node (some ⟨[], [27, 28, 29, 30, 31, 32, 33]⟩) (.node (some ⟨[(32, 4)], [27, 28, 29, 30, 31]⟩) .leaf .leaf) (.node none .leaf (.node none .leaf (.node none .leaf (.node (some ⟨[(8, 3)], [41, 42, 43, 44, 45, 46, 47, 48, 49, 50, 51, 52]⟩) .leaf (.node none .leaf (.node none .leaf (.node none (.node none (.node (some ⟨[(10, 3)], [11, 61, 62, 63, 64, 65, 66, 67, 68, 69, 70, 71, 72, 73, 74, 75]⟩) .leaf .leaf) .leaf) .leaf)))))))))))) (postV Try.prog Try.f30 R) ⟨#[Value.slice x0a x0n x0c, Value.int IntKind.i64 x1] ++ Array.replicate (Try.f30.ntmps - 2) undef, []⟩ H := by kernel_rfl
theorem F30_calls {R : Ending → Heap → Prop} {H : Heap} (x0a : Option Addr) (x0n : Nat) (x0c : Nat) (x1 : Int) (h : F30 x0a x0n x0c x1 R H) : HCalls Try.prog 30 #[Value.slice x0a x0n x0c, Value.int IntKind.i64 x1] H R :=
  calls_by (F := F30 x0a x0n x0c x1 R H) (.node none .leaf (.node none .leaf (.node (some ⟨[], [15, 16, 17]⟩) .leaf (.node none .leaf (.node (some ⟨[], [27, 28, 29, 30, 31, 32, 33]⟩) (.node (some ⟨[(32, 4)], [27, 28, 29, 30, 31]⟩) .leaf .leaf) (.node none .leaf (.node none .leaf (.node none .leaf (.node (some ⟨[(8, 3)], [41, 42, 43, 44, 45, 46, 47, 48, 49, 50, 51, 52]⟩) .leaf (.node none .leaf (.node none .leaf (.node none (.node none (.node (some ⟨[(10, 3)], [11, 61, 62, 63, 64, 65, 66, 67, 68, 69, 70, 71, 72, 73, 74, 75]⟩) .leaf .leaf) .leaf) .leaf)))))))))))) Try.func30 rfl (F30_eq x0a x0n x0c x1 R H) h
/-- (*bollard/cache.Cache).Put -/
def F31 (x0 : Option Addr) (x1 : Int) (x2a : Option Addr) (x2n : Nat) (x2c : Nat) (R : Ending → Heap → Prop) (H : Heap) : Prop :=
  HCalls Try.prog 71 #[Value.pointer x0, Value.int IntKind.i64 x1] H (Sp.retK (fun v1 H2 =>
  dInt IntKind.i64 v1 (fun n3 =>
  sB (n3 != 0) (R (Ending.returned (Value.int IntKind.i64 n3)) H2) (sB ((↑x2n : Int) != 128) (R (Ending.returned (Value.int IntKind.i64 1)) H2) (jn (α := VFH 0) (fun H4 =>
  ∀ v5 v6 v7 v8 v9 v10 v11 v12 v13 v14 v15 v16 v17 v18 v19 v20 v21 : Value,
  R (Ending.returned (Value.int IntKind.i64 0)) H4) (fun k22 =>
  nz x0 (fun a23 =>
  ld H2 (Addr.add a23 2) (fun v24 =>
  dMap v24 (fun p25 =>
  semW Try.prog (Instr.lookup 69 (Value.map p25) (Value.int IntKind.i64 x1) true) (pnR R) H2 (fun v28 H29 =>
  dT 2 v28 (fun v30 v31 =>
  dPtr v30 (fun p32 =>
  dBl v31 (fun b33 =>
  sB b33 (HCalls Try.prog 65 #[Value.slice x2a x2n x2c] H29 (Sp.retK (fun v34 H35 =>
  dSl v34 (fun p36 r37 r38 =>
  nz p32 (fun a39 =>
  st H35 a39 (Value.slice p36 r37 r38) (fun H40 =>
  k22 H40)))) (pnR R))) (k22 H29))))))))))))) (pnR R))
theorem F31_eq (x0 : Option Addr) (x1 : Int) (x2a : Option Addr) (x2n : Nat) (x2c : Nat) (R : Ending → Heap → Prop) (H : Heap) : F31 x0 x1 x2a x2n x2c R H = vc Try.prog (codeOf Try.f31) (.node none .leaf (.node none .leaf (.node none .leaf (.node (some ⟨[], [8, 9, 19, 20, 21, 22, 23, 24, 25, 26, 27, 28, 29, 30, 31, 32, 33]⟩) .leaf .leaf)))) (postV Try.prog Try.f31 R) ⟨#[Value.pointer x0, Value.int IntKind.i64 x1, Value.slice x2a x2n x2c] ++ Array.replicate (Try.f31.ntmps - 3) undef, []⟩ H := by kernel_rfl
theorem F31_calls {R : Ending → Heap → Prop} {H : Heap} (x0 : Option Addr) (x1 : Int) (x2a : Option Addr) (x2n : Nat) (x2c : Nat) (h : F31 x0 x1 x2a x2n x2c R H) : HCalls Try.prog 31 #[Value.pointer x0, Value.int IntKind.i64 x1, Value.slice x2a x2n x2c] H R :=
  calls_by (F := F31 x0 x1 x2a x2n x2c R H) (.node none .leaf (.node none .leaf (.node none .leaf (.node (some ⟨[], [8, 9, 19, 20, 21, 22, 23, 24, 25, 26, 27, 28, 29, 30, 31, 32, 33]⟩) .leaf .leaf)))) Try.func31 rfl (F31_eq x0 x1 x2a x2n x2c R H) h
/-- slices.Contains[[]int,int] -/
def F32 (x0a : Option Addr) (x0n : Nat) (x0c : Nat) (x1 : Int) (R : Ending → Heap → Prop) (H : Heap) : Prop :=
  HCalls Try.prog 24 #[Value.slice x0a x0n x0c, Value.int IntKind.i64 x1] H (Sp.retK (fun v1 H2 =>
  dInt IntKind.i64 v1 (fun n3 =>
  R (Ending.returned (Value.bool (decide (n3 ≥ 0)))) H2)) (pnR R))
theorem F32_eq (x0a : Option Addr) (x0n : Nat) (x0c : Nat) (x1 : Int) (R : Ending → Heap → Prop) (H : Heap) : F32 x0a x0n x0c x1 R H = vc Try.prog (codeOf Try.f32) .leaf (postV Try.prog Try.f32 R) ⟨#[Value.slice x0a x0n x0c, Value.int IntKind.i64 x1] ++ Array.replicate (Try.f32.ntmps - 2) undef, []⟩ H := by kernel_rfl
theorem F32_calls {R : Ending → Heap → Prop} {H : Heap} (x0a : Option Addr) (x0n : Nat) (x0c : Nat) (x1 : Int) (h : F32 x0a x0n x0c x1 R H) : HCalls Try.prog 32 #[Value.slice x0a x0n x0c, Value.int IntKind.i64 x1] H R :=
  calls_by (F := F32 x0a x0n x0c x1 R H) .leaf Try.func32 rfl (F32_eq x0a x0n x0c x1 R H) h
/-- (*bollard/disk.Disk).Read -/
def F33 (x0 : Option Addr) (x1 : Int) (R : Ending → Heap → Prop) (H : Heap) : Prop :=
  HCalls Try.prog 72 #[Value.pointer x0, Value.int IntKind.i64 x1] H (Sp.retK (fun v1 H2 =>
  dInt IntKind.i64 v1 (fun n3 =>
  sB (n3 != 0) (R (Ending.returned (Value.tuple #[Value.slice none 0 0, Value.int IntKind.i64 n3])) H2) (nz x0 (fun a4 =>
  ld H2 (Addr.add a4 2) (fun v5 =>
  dMap v5 (fun p6 =>
  semW Try.prog (Instr.lookup 75 (Value.map p6) (Value.int IntKind.i64 x1) false) (pnR R) H2 (fun v9 H10 =>
  dInt IntKind.i64 v9 (fun n11 =>
  sB (decide (n11 > 0)) (nz x0 (fun a12 =>
  ld H10 (Addr.add a12 2) (fun v13 =>
  dMap v13 (fun p14 =>
  semW Try.prog (Instr.lookup 75 (Value.map p14) (Value.int IntKind.i64 x1) false) (pnR R) H10 (fun v17 H18 =>
  dInt IntKind.i64 v17 (fun n19 =>
  wr IntKind.i64 (n19 - 1) (fun n20 =>
  semW Try.prog (Instr.mapUpdate 75 (Value.map p14) (Value.int IntKind.i64 x1) (Value.int IntKind.i64 n20)) (pnR R) H18 (fun x23 H24 =>
  R (Ending.returned (Value.tuple #[Value.slice none 0 0, Value.int IntKind.i64 4])) H24)))))))) (nz x0 (fun a25 =>
  ld H10 a25 (fun v26 =>
  dSl v26 (fun p27 r28 r29 =>
  nz p27 (fun a30 =>
  ask ((0 : Int) ≤ x1 ∧ x1 < (↑r28 : Int)) (ld H10 (Addr.add a30 (Int.toNat x1 * 1)) (fun v31 =>
  dSl v31 (fun p32 r33 r34 =>
  HCalls Try.prog 65 #[Value.slice p32 r33 r34] H10 (Sp.retK (fun v35 H36 =>
  dSl v35 (fun p37 r38 r39 =>
  R (Ending.returned (Value.tuple #[Value.slice p37 r38 r39, Value.int IntKind.i64 0])) H36)) (pnR R)))))))))))))))))) (pnR R))
theorem F33_eq (x0 : Option Addr) (x1 : Int) (R : Ending → Heap → Prop) (H : Heap) : F33 x0 x1 R H = vc Try.prog (codeOf Try.f33) .leaf (postV Try.prog Try.f33 R) ⟨#[Value.pointer x0, Value.int IntKind.i64 x1] ++ Array.replicate (Try.f33.ntmps - 2) undef, []⟩ H := by kernel_rfl
theorem F33_calls {R : Ending → Heap → Prop} {H : Heap} (x0 : Option Addr) (x1 : Int) (h : F33 x0 x1 R H) : HCalls Try.prog 33 #[Value.pointer x0, Value.int IntKind.i64 x1] H R :=
  calls_by (F := F33 x0 x1 R H) .leaf Try.func33 rfl (F33_eq x0 x1 R H) h
/-- bytes.Equal -/
def F34 (x0a : Option Addr) (x0n : Nat) (x0c : Nat) (x1a : Option Addr) (x1n : Nat) (x1c : Nat) (R : Ending → Heap → Prop) (H : Heap) : Prop :=
  semW Try.prog (convert 48 9 (Value.slice x0a x0n x0c)) (pnR R) H (fun v3 H4 =>
  dStr v3 (fun s5 =>
  semW Try.prog (convert 48 9 (Value.slice x1a x1n x1c)) (pnR R) H4 (fun v8 H9 =>
  dStr v8 (fun s10 =>
  R (Ending.returned (Value.bool (ByteArray.toList s5 == ByteArray.toList s10))) H9))))
theorem F34_eq (x0a : Option Addr) (x0n : Nat) (x0c : Nat) (x1a : Option Addr) (x1n : Nat) (x1c : Nat) (R : Ending → Heap → Prop) (H : Heap) : F34 x0a x0n x0c x1a x1n x1c R H = vc Try.prog (codeOf Try.f34) .leaf (postV Try.prog Try.f34 R) ⟨#[Value.slice x0a x0n x0c, Value.slice x1a x1n x1c] ++ Array.replicate (Try.f34.ntmps - 2) undef, []⟩ H := by kernel_rfl
theorem F34_calls {R : Ending → Heap → Prop} {H : Heap} (x0a : Option Addr) (x0n : Nat) (x0c : Nat) (x1a : Option Addr) (x1n : Nat) (x1c : Nat) (h : F34 x0a x0n x0c x1a x1n x1c R H) : HCalls Try.prog 34 #[Value.slice x0a x0n x0c, Value.slice x1a x1n x1c] H R :=
  calls_by (F := F34 x0a x0n x0c x1a x1n x1c R H) .leaf Try.func34 rfl (F34_eq x0a x0n x0c x1a x1n x1c R H) h
/-- (*bollard/cache.Cache).Drop -/
def F35 (x0 : Option Addr) (x1 : Int) (R : Ending → Heap → Prop) (H : Heap) : Prop :=
  HCalls Try.prog 71 #[Value.pointer x0, Value.int IntKind.i64 x1] H (Sp.retK (fun v1 H2 =>
  dInt IntKind.i64 v1 (fun n3 =>
  sB (n3 != 0) (R (Ending.returned (Value.int IntKind.i64 n3)) H2) (nz x0 (fun a4 =>
  ld H2 (Addr.add a4 2) (fun v5 =>
  dMap v5 (fun p6 =>
  semW Try.prog (Instr.lookup 69 (Value.map p6) (Value.int IntKind.i64 x1) true) (pnR R) H2 (fun v9 H10 =>
  dT 2 v9 (fun v11 v12 =>
  dPtr v11 (fun p13 =>
  dBl v12 (fun b14 =>
  jn (α := VFH 1) (fun v15 H16 =>
  ∀ v17 v18 v19 v20 v21 v22 v23 : Value,
  dBl v15 (fun b24 =>
  sB b24 (R (Ending.returned (Value.int IntKind.i64 3)) H16) (nz x0 (fun a25 =>
  ld H16 (Addr.add a25 2) (fun v26 =>
  dMap v26 (fun p27 =>
  semW Try.prog (Builtin.delete_ #[69, 3] 0 #[Value.map p27, Value.int IntKind.i64 x1]) (pnR R) H16 (fun v30 H31 =>
  R (Ending.returned (Value.int IntKind.i64 0)) H31))))))) (fun k32 =>
  sB b14 (nz p13 (fun a33 =>
  ld H10 (Addr.add a33 1) (fun v34 =>
  dInt IntKind.i64 v34 (fun n35 =>
  k32 (Value.bool (decide (n35 > 0))) H10)))) (k32 (Value.bool false) H10)))))))))))) (pnR R))
theorem F35_eq (x0 : Option Addr) (x1 : Int) (R : Ending → Heap → Prop) (H : Heap) : F35 x0 x1 R H = vc Try.prog (codeOf Try.f35) (.node none .leaf (.node none .leaf (.node none (.node none .leaf (.node (some ⟨[(30, 4)], [23, 24, 25, 26, 27, 28, 29]⟩) .leaf .leaf)) .leaf))) (postV Try.prog Try.f35 R) ⟨#[Value.pointer x0, Value.int IntKind.i64 x1] ++ Array.replicate (Try.f35.ntmps - 2) undef, []⟩ H := by kernel_rfl
theorem F35_calls {R : Ending → Heap → Prop} {H : Heap} (x0 : Option Addr) (x1 : Int) (h : F35 x0 x1 R H) : HCalls Try.prog 35 #[Value.pointer x0, Value.int IntKind.i64 x1] H R :=
  calls_by (F := F35 x0 x1 R H) (.node none .leaf (.node none .leaf (.node none (.node none .leaf (.node (some ⟨[(30, 4)], [23, 24, 25, 26, 27, 28, 29]⟩) .leaf .leaf)) .leaf))) Try.func35 rfl (F35_eq x0 x1 R H) h
/-- (*bollard/cache.Cache).Pin -/
def F36 (x0 : Option Addr) (x1 : Int) (R : Ending → Heap → Prop) (H : Heap) : Prop :=
  HCalls Try.prog 64 #[Value.pointer x0, Value.int IntKind.i64 x1] H (Sp.retK (fun v1 H2 =>
  dT 2 v1 (fun v3 v4 =>
  dPtr v3 (fun p5 =>
  dInt IntKind.i64 v4 (fun n6 =>
  sB (n6 != 0) (R (Ending.returned (Value.int IntKind.i64 n6)) H2) (nz p5 (fun a7 =>
  ld H2 (Addr.add a7 1) (fun v8 =>
  dInt IntKind.i64 v8 (fun n9 =>
  sB (decide (n9 ≥ 100)) (R (Ending.returned (Value.int IntKind.i64 3)) H2) (nz p5 (fun a10 =>
  ld H2 (Addr.add a10 1) (fun v11 =>
  dInt IntKind.i64 v11 (fun n12 =>
  wr IntKind.i64 (n12 + 1) (fun n13 =>
  nz p5 (fun a14 =>
  st H2 (Addr.add a14 1) (Value.int IntKind.i64 n13) (fun H15 =>
  R (Ending.returned (Value.int IntKind.i64 0)) H15))))))))))))))) (pnR R))
theorem F36_eq (x0 : Option Addr) (x1 : Int) (R : Ending → Heap → Prop) (H : Heap) : F36 x0 x1 R H = vc Try.prog (codeOf Try.f36) .leaf (postV Try.prog Try.f36 R) ⟨#[Value.pointer x0, Value.int IntKind.i64 x1] ++ Array.replicate (Try.f36.ntmps - 2) undef, []⟩ H := by kernel_rfl
theorem F36_calls {R : Ending → Heap → Prop} {H : Heap} (x0 : Option Addr) (x1 : Int) (h : F36 x0 x1 R H) : HCalls Try.prog 36 #[Value.pointer x0, Value.int IntKind.i64 x1] H R :=
  calls_by (F := F36 x0 x1 R H) .leaf Try.func36 rfl (F36_eq x0 x1 R H) h
/-- (*bollard/cache.Cache).Unpin -/
def F37 (x0 : Option Addr) (x1 : Int) (R : Ending → Heap → Prop) (H : Heap) : Prop :=
  HCalls Try.prog 71 #[Value.pointer x0, Value.int IntKind.i64 x1] H (Sp.retK (fun v1 H2 =>
  dInt IntKind.i64 v1 (fun n3 =>
  sB (n3 != 0) (R (Ending.returned (Value.int IntKind.i64 n3)) H2) (nz x0 (fun a4 =>
  ld H2 (Addr.add a4 2) (fun v5 =>
  dMap v5 (fun p6 =>
  semW Try.prog (Instr.lookup 69 (Value.map p6) (Value.int IntKind.i64 x1) true) (pnR R) H2 (fun v9 H10 =>
  dT 2 v9 (fun v11 v12 =>
  dPtr v11 (fun p13 =>
  dBl v12 (fun b14 =>
  jn (α := VFH 1) (fun v15 H16 =>
  ∀ v17 v18 v19 v20 v21 v22 v23 v24 : Value,
  dBl v15 (fun b25 =>
  sB b25 (R (Ending.returned (Value.int IntKind.i64 3)) H16) (nz p13 (fun a26 =>
  ld H16 (Addr.add a26 1) (fun v27 =>
  dInt IntKind.i64 v27 (fun n28 =>
  wr IntKind.i64 (n28 - 1) (fun n29 =>
  nz p13 (fun a30 =>
  st H16 (Addr.add a30 1) (Value.int IntKind.i64 n29) (fun H31 =>
  R (Ending.returned (Value.int IntKind.i64 0)) H31))))))))) (fun k32 =>
  sB (!b14) (k32 (Value.bool true) H10) (nz p13 (fun a33 =>
  ld H10 (Addr.add a33 1) (fun v34 =>
  dInt IntKind.i64 v34 (fun n35 =>
  k32 (Value.bool (n35 == 0)) H10))))))))))))))) (pnR R))
theorem F37_eq (x0 : Option Addr) (x1 : Int) (R : Ending → Heap → Prop) (H : Heap) : F37 x0 x1 R H = vc Try.prog (codeOf Try.f37) (.node none .leaf (.node none .leaf (.node none .leaf (.node none (.node (some ⟨[(31, 4)], [23, 24, 25, 26, 27, 28, 29, 30]⟩) .leaf .leaf) .leaf)))) (postV Try.prog Try.f37 R) ⟨#[Value.pointer x0, Value.int IntKind.i64 x1] ++ Array.replicate (Try.f37.ntmps - 2) undef, []⟩ H := by kernel_rfl
theorem F37_calls {R : Ending → Heap → Prop} {H : Heap} (x0 : Option Addr) (x1 : Int) (h : F37 x0 x1 R H) : HCalls Try.prog 37 #[Value.pointer x0, Value.int IntKind.i64 x1] H R :=
  calls_by (F := F37 x0 x1 R H) (.node none .leaf (.node none .leaf (.node none .leaf (.node none (.node (some ⟨[(31, 4)], [23, 24, 25, 26, 27, 28, 29, 30]⟩) .leaf .leaf) .leaf)))) Try.func37 rfl (F37_eq x0 x1 R H) h
/-- bollard/cache.New -/
def F38 (x0 : Option Addr) (x1 : Int) (R : Ending → Heap → Prop) (H : Heap) : Prop :=
  HCalls Try.prog 29 #[Value.pointer x0] H (Sp.retK (fun v1 H2 =>
  dInt IntKind.i64 v1 (fun n3 =>
  sB (n3 == 0) (R (Ending.returned (Value.tuple #[Value.pointer none, Value.int IntKind.i64 2])) H2) (jn (α := VFH 1) (fun v4 H5 =>
  ∀ v6 v7 v8 v9 v10 : Value,
  dBl v4 (fun b11 =>
  sB b11 (R (Ending.returned (Value.tuple #[Value.pointer none, Value.int IntKind.i64 1])) H5) (al H5 (Obj.map #[] 0) (fun r12 H13 =>
  al H13 (Obj.cells #[Value.pointer x0, Value.int IntKind.i64 x1, Value.map (some r12), Value.int IntKind.i64 0, Value.int IntKind.i64 0, Value.int IntKind.i64 0] 71) (fun r14 H15 =>
  R (Ending.returned (Value.tuple #[Value.pointer (some (Addr.mk r14 0 none)), Value.int IntKind.i64 0])) H15))))) (fun k16 =>
  sB (decide (x1 < 1)) (k16 (Value.bool true) H2) (k16 (Value.bool (decide (x1 > 64))) H2))))) (pnR R))
theorem F38_eq (x0 : Option Addr) (x1 : Int) (R : Ending → Heap → Prop) (H : Heap) : F38 x0 x1 R H = vc Try.prog (codeOf Try.f38) (.node none .leaf (.node none .leaf (.node none (.node (some ⟨[(14, 4)], [9, 10, 11, 12, 13]⟩) .leaf .leaf) .leaf))) (postV Try.prog Try.f38 R) ⟨#[Value.pointer x0, Value.int IntKind.i64 x1] ++ Array.replicate (Try.f38.ntmps - 2) undef, []⟩ H := by kernel_rfl
theorem F38_calls {R : Ending → Heap → Prop} {H : Heap} (x0 : Option Addr) (x1 : Int) (h : F38 x0 x1 R H) : HCalls Try.prog 38 #[Value.pointer x0, Value.int IntKind.i64 x1] H R :=
  calls_by (F := F38 x0 x1 R H) (.node none .leaf (.node none .leaf (.node none (.node (some ⟨[(14, 4)], [9, 10, 11, 12, 13]⟩) .leaf .leaf) .leaf))) Try.func38 rfl (F38_eq x0 x1 R H) h
/-- slices.Compact[[]int,int] -/
def F40 (x0a : Option Addr) (x0n : Nat) (x0c : Nat) (R : Ending → Heap → Prop) (H : Heap) : Prop :=
  sB (decide ((↑x0n : Int) < 2)) (R (Ending.returned (Value.slice x0a x0n x0c)) H) (∃ I1 : List Value → Heap → Prop,
  ∃ I2 : List Value → Heap → Nat,
  (I1 ([Value.int IntKind.i64 1]) H) ∧
  ∀ n3 : Int,
  ∀ v4 v5 v6 v7 v8 v9 v10 v11 v12 v13 v14 v15 v16 v17 v18 v19 v20 v21 v22 v23 v24 v25 v26 v27 v28 v29 v30 v31 v32 v33 v34 v35 v36 v37 v38 v39 v40 v41 v42 v43 v44 v45 v46 v47 v48 v49 v50 v51 v52 v53 v54 v55 v56 : Value,
  ∀ H57 : Heap,
  (I1 ([Value.int IntKind.i64 n3]) H57) →
  sB (decide (n3 < (↑x0n : Int))) (nz x0a (fun a59 =>
  ask ((0 : Int) ≤ n3 ∧ n3 < (↑x0n : Int)) (ld H57 (Addr.add a59 (Int.toNat n3 * 1)) (fun v60 =>
  dInt IntKind.i64 v60 (fun n61 =>
  wr IntKind.i64 (n3 - 1) (fun n62 =>
  nz x0a (fun a63 =>
  ask ((0 : Int) ≤ n62 ∧ n62 < (↑x0n : Int)) (ld H57 (Addr.add a63 (Int.toNat n62 * 1)) (fun v64 =>
  dInt IntKind.i64 v64 (fun n65 =>
  sB (n61 == n65) (ask ((0 : Int) ≤ n3 ∧ n3 ≤ (↑x0n : Int) ∧ (↑x0n : Int) ≤ (↑x0c : Int) ∧ (↑x0c : Int) ≤ (↑x0c : Int)) (∃ I66 : List Value → Heap → Prop,
  ∃ I67 : List Value → Heap → Nat,
  (I66 ([Value.int IntKind.i64 n3, Value.int IntKind.i64 1]) H57) ∧
  ∀ n68 : Int,
  ∀ n69 : Int,
  ∀ v70 v71 v72 v73 v74 v75 v76 v77 v78 v79 v80 v81 v82 v83 v84 v85 v86 v87 v88 v89 v90 v91 v92 v93 v94 : Value,
  ∀ H95 : Heap,
  (I66 ([Value.int IntKind.i64 n68, Value.int IntKind.i64 n69]) H95) →
  sB (decide (n69 < (↑(Int.toNat (↑x0n : Int) - Int.toNat n3) : Int))) (jn (α := VFH 1) (fun v97 H98 =>
  ∀ v99 v100 v101 v102 v103 v104 v105 v106 v107 v108 v109 v110 v111 v112 v113 v114 v115 v116 v117 : Value,
  dInt IntKind.i64 v97 (fun n118 =>
  wr IntKind.i64 (n69 + 1) (fun n119 =>
  (I66 ([Value.int IntKind.i64 n118, Value.int IntKind.i64 n119]) H98) ∧
  (I67 [Value.int IntKind.i64 n118, Value.int IntKind.i64 n119] H98) < (I67 [Value.int IntKind.i64 n68, Value.int IntKind.i64 n69] H95)))) (fun k120 =>
  nz (slO x0a 1 n3 (↑x0c : Int)) (fun a121 =>
  ask ((0 : Int) ≤ n69 ∧ n69 < (↑(Int.toNat (↑x0n : Int) - Int.toNat n3) : Int)) (ld H95 (Addr.add a121 (Int.toNat n69 * 1)) (fun v122 =>
  dInt IntKind.i64 v122 (fun n123 =>
  wr IntKind.i64 (n69 - 1) (fun n124 =>
  nz (slO x0a 1 n3 (↑x0c : Int)) (fun a125 =>
  ask ((0 : Int) ≤ n124 ∧ n124 < (↑(Int.toNat (↑x0n : Int) - Int.toNat n3) : Int)) (ld H95 (Addr.add a125 (Int.toNat n124 * 1)) (fun v126 =>
  dInt IntKind.i64 v126 (fun n127 =>
  sB (n123 != n127) (nz (slO x0a 1 n3 (↑x0c : Int)) (fun a128 =>
  ask ((0 : Int) ≤ n69 ∧ n69 < (↑(Int.toNat (↑x0n : Int) - Int.toNat n3) : Int)) (ld H95 (Addr.add a128 (Int.toNat n69 * 1)) (fun v129 =>
  dInt IntKind.i64 v129 (fun n130 =>
  nz x0a (fun a131 =>
  ask ((0 : Int) ≤ n68 ∧ n68 < (↑x0n : Int)) (st H95 (Addr.add a131 (Int.toNat n68 * 1)) (Value.int IntKind.i64 n130) (fun H132 =>
  wr IntKind.i64 (n68 + 1) (fun n133 =>
  k120 (Value.int IntKind.i64 n133) H132))))))))) (k120 (Value.int IntKind.i64 n68) H95)))))))))))) (ask ((0 : Int) ≤ n68 ∧ n68 ≤ (↑x0n : Int) ∧ (↑x0n : Int) ≤ (↑x0c : Int) ∧ (↑x0c : Int) ≤ (↑x0c : Int)) (semW Try.prog (Builtin.clear_ #[26] 0 #[Value.slice (slO x0a 1 n68 (↑x0c : Int)) (Int.toNat (↑x0n : Int) - Int.toNat n68) (Int.toNat (↑x0c : Int) - Int.toNat n68)]) (pnR R) H95 (fun v136 H137 =>
  ask ((0 : Int) ≤ (0 : Int) ∧ (0 : Int) ≤ n68 ∧ n68 ≤ (↑x0c : Int) ∧ (↑x0c : Int) ≤ (↑x0c : Int)) (R (Ending.returned (Value.slice (slO x0a 1 0 (↑x0c : Int)) (Int.toNat n68 - Int.toNat 0) (Int.toNat (↑x0c : Int) - Int.toNat 0))) H137)))))) (wr IntKind.i64 (n3 + 1) (fun n138 =>
  (I1 ([Value.int IntKind.i64 n138]) H57) ∧
  (I2 [Value.int IntKind.i64 n138] H57) < (I2 [Value.int IntKind.i64 n3] H57))))))))))))) (R (Ending.returned (Value.slice x0a x0n x0c)) H57))
theorem F40_eq (x0a : Option Addr) (x0n : Nat) (x0c : Nat) (R : Ending → Heap → Prop) (H : Heap) : F40 x0a x0n x0c R H = vc Try.prog (codeOf Try.f40) (.node none .leaf (.node none .leaf (.node none (.node none .leaf (.node none (.node (some ⟨[(3, 3)], [2, 4, 5, 10, 11, 12, 13, 14, 15, 16, 17, 18, 19, 20, 21, 22, 23, 24, 25, 26, 27, 28, 29, 30, 31, 32, 33, 34, 35, 36, 37, 38, 39, 40, 41, 42, 43, 44, 45, 46, 47, 48, 49, 50, 51, 52, 53, 54, 55, 56, 57, 58, 59]⟩) (.node none .leaf (.node none (.node none (.node none .leaf (.node none (.node none .leaf (.node none (.node none .leaf (.node none (.node (some ⟨[(3, 3), (5, 3)], [29, 30, 31, 32, 33, 34, 35, 36, 37, 38, 39, 40, 41, 42, 43, 44, 45, 46, 47, 48, 49, 50, 51, 52, 53]⟩) (.node none .leaf (.node (some ⟨[(3, 3)], [35, 36, 37, 38, 39, 40, 41, 42, 43, 44, 45, 46, 47, 48, 49, 50, 51, 52, 53]⟩) .leaf .leaf)) .leaf) .leaf)) .leaf)) .leaf)) .leaf) .leaf)) .leaf) .leaf)) .leaf))) (postV Try.prog Try.f40 R) ⟨#[Value.slice x0a x0n x0c] ++ Array.replicate (Try.f40.ntmps - 1) undef, []⟩ H := by kernel_rfl
theorem F40_calls {R : Ending → Heap → Prop} {H : Heap} (x0a : Option Addr) (x0n : Nat) (x0c : Nat) (h : F40 x0a x0n x0c R H) : HCalls Try.prog 40 #[Value.slice x0a x0n x0c] H R :=
  calls_by (F := F40 x0a x0n x0c R H) (.node none .leaf (.node none .leaf (.node none (.node none .leaf (.node none (.node (some ⟨[(3, 3)], [2, 4, 5, 10, 11, 12, 13, 14, 15, 16, 17, 18, 19, 20, 21, 22, 23, 24, 25, 26, 27, 28, 29, 30, 31, 32, 33, 34, 35, 36, 37, 38, 39, 40, 41, 42, 43, 44, 45, 46, 47, 48, 49, 50, 51, 52, 53, 54, 55, 56, 57, 58, 59]⟩) (.node none .leaf (.node none (.node none (.node none .leaf (.node none (.node none .leaf (.node none (.node none .leaf (.node none (.node (some ⟨[(3, 3), (5, 3)], [29, 30, 31, 32, 33, 34, 35, 36, 37, 38, 39, 40, 41, 42, 43, 44, 45, 46, 47, 48, 49, 50, 51, 52, 53]⟩) (.node none .leaf (.node (some ⟨[(3, 3)], [35, 36, 37, 38, 39, 40, 41, 42, 43, 44, 45, 46, 47, 48, 49, 50, 51, 52, 53]⟩) .leaf .leaf)) .leaf) .leaf)) .leaf)) .leaf)) .leaf) .leaf)) .leaf) .leaf)) .leaf))) Try.func40 rfl (F40_eq x0a x0n x0c R H) h
/-- bollard/geom.between -/
def F41 (x0 : Int) (x1 : Int) (x2 : Int) (R : Ending → Heap → Prop) (H : Heap) : Prop :=
  sB (decide (x0 ≥ x1)) (R (Ending.returned (Value.bool (decide (x0 ≤ x2)))) H) (R (Ending.returned (Value.bool false)) H)
theorem F41_eq (x0 : Int) (x1 : Int) (x2 : Int) (R : Ending → Heap → Prop) (H : Heap) : F41 x0 x1 x2 R H = vc Try.prog (codeOf Try.f41) .leaf (postV Try.prog Try.f41 R) ⟨#[Value.int IntKind.i64 x0, Value.int IntKind.i64 x1, Value.int IntKind.i64 x2] ++ Array.replicate (Try.f41.ntmps - 3) undef, []⟩ H := by kernel_rfl
theorem F41_calls {R : Ending → Heap → Prop} {H : Heap} (x0 : Int) (x1 : Int) (x2 : Int) (h : F41 x0 x1 x2 R H) : HCalls Try.prog 41 #[Value.int IntKind.i64 x0, Value.int IntKind.i64 x1, Value.int IntKind.i64 x2] H R :=
  calls_by (F := F41 x0 x1 x2 R H) .leaf Try.func41 rfl (F41_eq x0 x1 x2 R H) h
/-- bollard/geom.front -/
def F42 (x0_0 : Value) (x0_1 : Value) (x0_2 : Value) (R : Ending → Heap → Prop) (H : Heap) : Prop :=
  al H (Obj.cells #[x0_0, x0_1, x0_2] 23) (fun r1 H2 =>
  ld H2 (Addr.mk r1 2 none) (fun v3 =>
  dInt IntKind.i64 v3 (fun n4 =>
  ask ((4 : Int) ≠ (0 : Int)) (wr IntKind.i64 (Int.tdiv n4 4) (fun n5 =>
  wr IntKind.i64 (2 + n5) (fun n6 =>
  R (Ending.returned (Value.int IntKind.i64 n6)) H2))))))
theorem F42_eq (x0_0 : Value) (x0_1 : Value) (x0_2 : Value) (R : Ending → Heap → Prop) (H : Heap) : F42 x0_0 x0_1 x0_2 R H = vc Try.prog (codeOf Try.f42) .leaf (postV Try.prog Try.f42 R) ⟨#[Value.agg #[x0_0, x0_1, x0_2]] ++ Array.replicate (Try.f42.ntmps - 1) undef, []⟩ H := by kernel_rfl
theorem F42_calls {R : Ending → Heap → Prop} {H : Heap} (x0_0 : Value) (x0_1 : Value) (x0_2 : Value) (h : F42 x0_0 x0_1 x0_2 R H) : HCalls Try.prog 42 #[Value.agg #[x0_0, x0_1, x0_2]] H R :=
  calls_by (F := F42 x0_0 x0_1 x0_2 R H) .leaf Try.func42 rfl (F42_eq x0_0 x0_1 x0_2 R H) h
/-- bollard/geom.all -/
def F43 (x0_0 : Value) (x0_1 : Value) (x0_2 : Value) (x1 : Int) (R : Ending → Heap → Prop) (H : Heap) : Prop :=
  al H (Obj.cells #[x0_0, x0_1, x0_2] 23) (fun r1 H2 =>
  ld H2 (Addr.mk r1 0 none) (fun v3 =>
  ld H2 (Addr.mk r1 1 none) (fun v4 =>
  ld H2 (Addr.mk r1 2 none) (fun v5 =>
  HCalls Try.prog 10 #[Value.agg #[v3, v4, v5]] H2 (Sp.retK (fun v6 H7 =>
  dInt IntKind.i64 v6 (fun n8 =>
  sB (n8 != 0) (R (Ending.returned (Value.int IntKind.i64 0)) H7) (ld H7 (Addr.mk r1 0 none) (fun v9 =>
  dInt IntKind.i64 v9 (fun n10 =>
  wr IntKind.i64 (n10 * x1) (fun n11 =>
  R (Ending.returned (Value.int IntKind.i64 n11)) H7)))))) (pnR R))))))
theorem F43_eq (x0_0 : Value) (x0_1 : Value) (x0_2 : Value) (x1 : Int) (R : Ending → Heap → Prop) (H : Heap) : F43 x0_0 x0_1 x0_2 x1 R H = vc Try.prog (codeOf Try.f43) .leaf (postV Try.prog Try.f43 R) ⟨#[Value.agg #[x0_0, x0_1, x0_2], Value.int IntKind.i64 x1] ++ Array.replicate (Try.f43.ntmps - 2) undef, []⟩ H := by kernel_rfl
theorem F43_calls {R : Ending → Heap → Prop} {H : Heap} (x0_0 : Value) (x0_1 : Value) (x0_2 : Value) (x1 : Int) (h : F43 x0_0 x0_1 x0_2 x1 R H) : HCalls Try.prog 43 #[Value.agg #[x0_0, x0_1, x0_2], Value.int IntKind.i64 x1] H R :=
  calls_by (F := F43 x0_0 x0_1 x0_2 x1 R H) .leaf Try.func43 rfl (F43_eq x0_0 x0_1 x0_2 x1 R H) h
/-- bollard/geom.at -/
def F44 (x0_0 : Value) (x0_1 : Value) (x0_2 : Value) (x1 : Int) (x2 : Int) (R : Ending → Heap → Prop) (H : Heap) : Prop :=
  al H (Obj.cells #[x0_0, x0_1, x0_2] 23) (fun r1 H2 =>
  jn (α := VFH 1) (fun v3 H4 =>
  ∀ v5 v6 v7 v8 v9 v10 v11 v12 v13 v14 : Value,
  dBl v3 (fun b15 =>
  sB b15 (R (Ending.returned (Value.tuple #[Value.int IntKind.i64 0, Value.bool false])) H4) (ld H4 (Addr.mk r1 1 none) (fun v16 =>
  dInt IntKind.i64 v16 (fun n17 =>
  wr IntKind.i64 (x1 * n17) (fun n18 =>
  wr IntKind.i64 (n18 + x2) (fun n19 =>
  R (Ending.returned (Value.tuple #[Value.int IntKind.i64 n19, Value.bool true])) H4))))))) (fun k20 =>
  ld H2 (Addr.mk r1 0 none) (fun v21 =>
  ld H2 (Addr.mk r1 1 none) (fun v22 =>
  ld H2 (Addr.mk r1 2 none) (fun v23 =>
  HCalls Try.prog 10 #[Value.agg #[v21, v22, v23]] H2 (Sp.retK (fun v24 H25 =>
  dInt IntKind.i64 v24 (fun n26 =>
  sB (n26 != 0) (k20 (Value.bool true) H25) (ld H25 (Addr.mk r1 0 none) (fun v27 =>
  dInt IntKind.i64 v27 (fun n28 =>
  wr IntKind.i64 (n28 - 1) (fun n29 =>
  HCalls Try.prog 41 #[Value.int IntKind.i64 x1, Value.int IntKind.i64 0, Value.int IntKind.i64 n29] H25 (Sp.retK (fun v30 H31 =>
  dBl v30 (fun b32 =>
  k20 (Value.bool !b32) H31)) (pnR R)))))))) (pnR R)))))))
theorem F44_eq (x0_0 : Value) (x0_1 : Value) (x0_2 : Value) (x1 : Int) (x2 : Int) (R : Ending → Heap → Prop) (H : Heap) : F44 x0_0 x0_1 x0_2 x1 x2 R H = vc Try.prog (codeOf Try.f44) (.node none .leaf (.node none (.node (some ⟨[(18, 4)], [8, 9, 10, 11, 12, 13, 14, 15, 16, 17]⟩) .leaf .leaf) .leaf)) (postV Try.prog Try.f44 R) ⟨#[Value.agg #[x0_0, x0_1, x0_2], Value.int IntKind.i64 x1, Value.int IntKind.i64 x2] ++ Array.replicate (Try.f44.ntmps - 3) undef, []⟩ H := by kernel_rfl
theorem F44_calls {R : Ending → Heap → Prop} {H : Heap} (x0_0 : Value) (x0_1 : Value) (x0_2 : Value) (x1 : Int) (x2 : Int) (h : F44 x0_0 x0_1 x0_2 x1 x2 R H) : HCalls Try.prog 44 #[Value.agg #[x0_0, x0_1, x0_2], Value.int IntKind.i64 x1, Value.int IntKind.i64 x2] H R :=
  calls_by (F := F44 x0_0 x0_1 x0_2 x1 x2 R H) (.node none .leaf (.node none (.node (some ⟨[(18, 4)], [8, 9, 10, 11, 12, 13, 14, 15, 16, 17]⟩) .leaf .leaf) .leaf)) Try.func44 rfl (F44_eq x0_0 x0_1 x0_2 x1 x2 R H) h
end Go.Proofs.Ytmgjdmohmhaemaa.E
