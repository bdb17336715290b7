/- The functions' forms in the engine's words, printed by my own program. -/
import Derived.Test.YtngploohhmfaiaaGreatProg
import Derived.Test.YtngploohhmfaiaaGreatEng11
import Derived.KernelRfl
namespace Go.Proofs.YtngploohhmfaiaaGreat.E
open Go Go.Proofs
set_option linter.unusedVariables false
/-- bollard/alloc.ready -/
def F74 (x0 : Option Addr) (x1_0 : Value) (x1_1 : Value) (x1_2 : Value) (R : Ending → Heap → Prop) (H : Heap) : Prop :=
  al H (Obj.cells #[x1_0, x1_1, x1_2] 32) (fun r1 H2 =>
  HCalls Tryz.prog 52 #[Value.pointer x0] H2 (Sp.retK (fun v3 H4 =>
  dInt IntKind.i64 v3 (fun n5 =>
  HCalls Tryz.prog 54 #[Value.pointer x0, Value.int IntKind.i64 n5] H4 (Sp.retK (fun v6 H7 =>
  dInt IntKind.i64 v6 (fun n8 =>
  sB (n8 == 2) (R (Ending.returned (Value.int IntKind.i64 2)) H7) (ld H7 (Addr.mk r1 0 none) (fun v9 =>
  ld H7 (Addr.mk r1 1 none) (fun v10 =>
  ld H7 (Addr.mk r1 2 none) (fun v11 =>
  HCalls Tryz.prog 65 #[Value.agg #[v9, v10, v11]] H7 (Sp.retK (fun v12 H13 =>
  dInt IntKind.i64 v12 (fun n14 =>
  jn (α := VFH 1) (fun v15 H16 =>
  ∀ v17 v18 v19 v20 v21 v22 v23 v24 v25 : Value,
  dInt IntKind.i64 v15 (fun n26 =>
  R (Ending.returned (Value.int IntKind.i64 n26)) H16)) (fun k27 =>
  jn (α := VFH 1) (fun v28 H29 =>
  ∀ v30 v31 v32 v33 v34 v35 v36 v37 : Value,
  dBl v28 (fun b38 =>
  sB b38 (k27 (Value.int IntKind.i64 170) H29) (k27 (Value.int IntKind.i64 n14) H29))) (fun k39 =>
  sB (n14 == 0) (ld H13 (Addr.mk r1 0 none) (fun v40 =>
  ld H13 (Addr.mk r1 1 none) (fun v41 =>
  ld H13 (Addr.mk r1 2 none) (fun v42 =>
  HCalls Tryz.prog 24 #[Value.pointer x0] H13 (Sp.retK (fun v43 H44 =>
  dInt IntKind.i64 v43 (fun n45 =>
  (ld H44 (Addr.mk r1 0 none) (fun v46 =>
  ld H44 (Addr.mk r1 1 none) (fun v47 =>
  ld H44 (Addr.mk r1 2 none) (fun v48 =>
  (Value.agg #[v46, v47, v48]) = (Value.agg #[v40, v41, v42]))))) ∧
  HCalls Tryz.prog 64 #[Value.agg #[v40, v41, v42]] H44 (Sp.retK (fun v49 H50 =>
  dInt IntKind.i64 v49 (fun n51 =>
  k39 (Value.bool (decide (n45 < n51))) H50)) nopR))) nopR))))) (k39 (Value.bool false) H13))))) (pnR R)))))))) (pnR R)))) (pnR R)))
theorem F74_eq (x0 : Option Addr) (x1_0 : Value) (x1_1 : Value) (x1_2 : Value) (R : Ending → Heap → Prop) (H : Heap) : F74 x0 x1_0 x1_1 x1_2 R H = vc Tryz.prog (codeOf Tryz.f74) (.node none .leaf (.node none .leaf (.node none .leaf (.node (some ⟨[(5, 39)], [13, 14, 15, 16, 17, 18, 19, 20, 21]⟩) (.node (some ⟨[(21, 4)], [13, 14, 15, 16, 17, 18, 19, 20]⟩) .leaf .leaf) .leaf)))) (postV Tryz.prog Tryz.f74 R) ⟨#[Value.pointer x0, Value.agg #[x1_0, x1_1, x1_2]] ++ Array.replicate (Tryz.f74.ntmps - 2) undef, []⟩ H := by kernel_rfl
theorem F74_calls {R : Ending → Heap → Prop} {H : Heap} (x0 : Option Addr) (x1_0 : Value) (x1_1 : Value) (x1_2 : Value) (h : F74 x0 x1_0 x1_1 x1_2 R H) : HCalls Tryz.prog 74 #[Value.pointer x0, Value.agg #[x1_0, x1_1, x1_2]] H R :=
  calls_by (F := F74 x0 x1_0 x1_1 x1_2 R H) (.node none .leaf (.node none .leaf (.node none .leaf (.node (some ⟨[(5, 39)], [13, 14, 15, 16, 17, 18, 19, 20, 21]⟩) (.node (some ⟨[(21, 4)], [13, 14, 15, 16, 17, 18, 19, 20]⟩) .leaf .leaf) .leaf)))) Tryz.func74 rfl (F74_eq x0 x1_0 x1_1 x1_2 R H) h
/-- bollard/alloc.around -/
def F76 (x0_0 : Value) (x0_1 : Value) (x0_2 : Value) (x1 : Int) (R : Ending → Heap → Prop) (H : Heap) : Prop :=
  al H (Obj.cells #[x0_0, x0_1, x0_2] 32) (fun r1 H2 =>
  ld H2 (Addr.mk r1 0 none) (fun v3 =>
  dInt IntKind.i64 v3 (fun n4 =>
  ∃ I5 : List Value → Heap → Prop,
  ∃ I6 : List Value → Heap → Nat,
  (I5 ([Value.slice none 0 0, Value.int IntKind.i64 0]) H2) ∧
  ∀ p7 : Option Addr,
  ∀ r8 : Nat,
  ∀ r9 : Nat,
  ∀ n10 : Int,
  ∀ v11 v12 v13 v14 v15 v16 v17 v18 v19 v20 v21 v22 v23 : Value,
  ∀ H24 : Heap,
  (I5 ([Value.slice p7 r8 r9, Value.int IntKind.i64 n10]) H24) →
  sB (decide (n10 < n4)) (wr IntKind.i64 (x1 + n10) (fun n26 =>
  ld H24 (Addr.mk r1 0 none) (fun v27 =>
  dInt IntKind.i64 v27 (fun n28 =>
  ask (n28 ≠ (0 : Int)) (nm (Int.tmod n26 n28) (fun n29 =>
  al H24 (Obj.cells #[Value.int IntKind.i64 n29] 3) (fun r30 H31 =>
  semW Tryz.prog (Builtin.append_ #[73, 73] 73 #[Value.slice p7 r8 r9, Value.slice (some (Addr.mk r30 0 none)) 1 1]) (pnR R) H31 (fun v34 H35 =>
  dSl v34 (fun p36 r37 r38 =>
  wr IntKind.i64 (n10 + 1) (fun n39 =>
  (I5 ([Value.slice p36 r37 r38, Value.int IntKind.i64 n39]) H35) ∧
  (I6 [Value.slice p36 r37 r38, Value.int IntKind.i64 n39] H35) < (I6 [Value.slice p7 r8 r9, Value.int IntKind.i64 n10] H24))))))))))) (R (Ending.returned (Value.slice p7 r8 r9)) H24))))
theorem F76_eq (x0_0 : Value) (x0_1 : Value) (x0_2 : Value) (x1 : Int) (R : Ending → Heap → Prop) (H : Heap) : F76 x0_0 x0_1 x0_2 x1 R H = vc Tryz.prog (codeOf Tryz.f76) (.node none .leaf (.node none .leaf (.node none (.node none .leaf (.node none (.node (some ⟨[(5, 73), (9, 3)], [6, 10, 11, 12, 13, 14, 15, 16, 17, 18, 19, 20, 21]⟩) .leaf .leaf) .leaf)) .leaf))) (postV Tryz.prog Tryz.f76 R) ⟨#[Value.agg #[x0_0, x0_1, x0_2], Value.int IntKind.i64 x1] ++ Array.replicate (Tryz.f76.ntmps - 2) undef, []⟩ H := by kernel_rfl
theorem F76_calls {R : Ending → Heap → Prop} {H : Heap} (x0_0 : Value) (x0_1 : Value) (x0_2 : Value) (x1 : Int) (h : F76 x0_0 x0_1 x0_2 x1 R H) : HCalls Tryz.prog 76 #[Value.agg #[x0_0, x0_1, x0_2], Value.int IntKind.i64 x1] H R :=
  calls_by (F := F76 x0_0 x0_1 x0_2 x1 R H) (.node none .leaf (.node none .leaf (.node none (.node none .leaf (.node none (.node (some ⟨[(5, 73), (9, 3)], [6, 10, 11, 12, 13, 14, 15, 16, 17, 18, 19, 20, 21]⟩) .leaf .leaf) .leaf)) .leaf))) Tryz.func76 rfl (F76_eq x0_0 x0_1 x0_2 x1 R H) h
/-- bollard/geom.Data -/
def F77 (x0_0 : Value) (x0_1 : Value) (x0_2 : Value) (x1 : Int) (R : Ending → Heap → Prop) (H : Heap) : Prop :=
  al H (Obj.cells #[x0_0, x0_1, x0_2] 32) (fun r1 H2 =>
  ld H2 (Addr.mk r1 0 none) (fun v3 =>
  ld H2 (Addr.mk r1 1 none) (fun v4 =>
  ld H2 (Addr.mk r1 2 none) (fun v5 =>
  ld H2 (Addr.mk r1 0 none) (fun v6 =>
  ld H2 (Addr.mk r1 1 none) (fun v7 =>
  ld H2 (Addr.mk r1 2 none) (fun v8 =>
  HCalls Tryz.prog 116 #[Value.agg #[v6, v7, v8]] H2 (Sp.retK (fun v9 H10 =>
  dInt IntKind.i64 v9 (fun n11 =>
  (ld H10 (Addr.mk r1 0 none) (fun v12 =>
  ld H10 (Addr.mk r1 1 none) (fun v13 =>
  ld H10 (Addr.mk r1 2 none) (fun v14 =>
  (Value.agg #[v12, v13, v14]) = (Value.agg #[v3, v4, v5]))))) ∧
  HCalls Tryz.prog 136 #[Value.agg #[v3, v4, v5], Value.int IntKind.i64 x1, Value.int IntKind.i64 n11] H10 (Sp.retK (fun v15 H16 =>
  dT 2 v15 (fun v17 v18 =>
  dInt IntKind.i64 v17 (fun n19 =>
  dBl v18 (fun b20 =>
  sB (!b20) (R (Ending.returned (Value.tuple #[Value.int IntKind.i64 0, Value.int IntKind.i64 0, Value.bool false])) H16) (ld H16 (Addr.mk r1 1 none) (fun v21 =>
  dInt IntKind.i64 v21 (fun n22 =>
  ld H16 (Addr.mk r1 0 none) (fun v23 =>
  ld H16 (Addr.mk r1 1 none) (fun v24 =>
  ld H16 (Addr.mk r1 2 none) (fun v25 =>
  HCalls Tryz.prog 116 #[Value.agg #[v23, v24, v25]] H16 (Sp.retK (fun v26 H27 =>
  dInt IntKind.i64 v26 (fun n28 =>
  (ld H27 (Addr.mk r1 1 none) (fun v29 =>
  dInt IntKind.i64 v29 (fun n30 =>
  (Value.int IntKind.i64 n30) = (Value.int IntKind.i64 n22)))) ∧
  wr IntKind.i64 (n22 - n28) (fun n31 =>
  R (Ending.returned (Value.tuple #[Value.int IntKind.i64 n19, Value.int IntKind.i64 n31, Value.bool true])) H27))) nopR))))))))))) nopR))) nopR))))))))
theorem F77_eq (x0_0 : Value) (x0_1 : Value) (x0_2 : Value) (x1 : Int) (R : Ending → Heap → Prop) (H : Heap) : F77 x0_0 x0_1 x0_2 x1 R H = vc Tryz.prog (codeOf Tryz.f77) .leaf (postV Tryz.prog Tryz.f77 R) ⟨#[Value.agg #[x0_0, x0_1, x0_2], Value.int IntKind.i64 x1] ++ Array.replicate (Tryz.f77.ntmps - 2) undef, []⟩ H := by kernel_rfl
theorem F77_calls {R : Ending → Heap → Prop} {H : Heap} (x0_0 : Value) (x0_1 : Value) (x0_2 : Value) (x1 : Int) (h : F77 x0_0 x0_1 x0_2 x1 R H) : HCalls Tryz.prog 77 #[Value.agg #[x0_0, x0_1, x0_2], Value.int IntKind.i64 x1] H R :=
  calls_by (F := F77 x0_0 x0_1 x0_2 x1 R H) .leaf Tryz.func77 rfl (F77_eq x0_0 x0_1 x0_2 x1 R H) h
/-- bollard/geom.Group -/
def F78 (x0_0 : Value) (x0_1 : Value) (x0_2 : Value) (x1 : Int) (R : Ending → Heap → Prop) (H : Heap) : Prop :=
  al H (Obj.cells #[x0_0, x0_1, x0_2] 32) (fun r1 H2 =>
  ld H2 (Addr.mk r1 1 none) (fun v3 =>
  dInt IntKind.i64 v3 (fun n4 =>
  ld H2 (Addr.mk r1 0 none) (fun v5 =>
  ld H2 (Addr.mk r1 1 none) (fun v6 =>
  ld H2 (Addr.mk r1 2 none) (fun v7 =>
  HCalls Tryz.prog 64 #[Value.agg #[v5, v6, v7]] H2 (Sp.retK (fun v8 H9 =>
  dInt IntKind.i64 v8 (fun n10 =>
  (ld H9 (Addr.mk r1 1 none) (fun v11 =>
  dInt IntKind.i64 v11 (fun n12 =>
  (Value.int IntKind.i64 n12) = (Value.int IntKind.i64 n4)))) ∧
  HCalls Tryz.prog 137 #[Value.int IntKind.i64 x1, Value.int IntKind.i64 n4, Value.int IntKind.i64 n10] H9 (Sp.retK (fun v13 H14 =>
  dT 3 v13 (fun v15 v16 v17 =>
  dInt IntKind.i64 v15 (fun n18 =>
  dInt IntKind.i64 v16 (fun n19 =>
  dBl v17 (fun b20 =>
  R (Ending.returned (Value.tuple #[Value.int IntKind.i64 n18, Value.int IntKind.i64 n19, Value.bool b20])) H14))))) nopR))) nopR)))))))
theorem F78_eq (x0_0 : Value) (x0_1 : Value) (x0_2 : Value) (x1 : Int) (R : Ending → Heap → Prop) (H : Heap) : F78 x0_0 x0_1 x0_2 x1 R H = vc Tryz.prog (codeOf Tryz.f78) .leaf (postV Tryz.prog Tryz.f78 R) ⟨#[Value.agg #[x0_0, x0_1, x0_2], Value.int IntKind.i64 x1] ++ Array.replicate (Tryz.f78.ntmps - 2) undef, []⟩ H := by kernel_rfl
theorem F78_calls {R : Ending → Heap → Prop} {H : Heap} (x0_0 : Value) (x0_1 : Value) (x0_2 : Value) (x1 : Int) (h : F78 x0_0 x0_1 x0_2 x1 R H) : HCalls Tryz.prog 78 #[Value.agg #[x0_0, x0_1, x0_2], Value.int IntKind.i64 x1] H R :=
  calls_by (F := F78 x0_0 x0_1 x0_2 x1 R H) .leaf Tryz.func78 rfl (F78_eq x0_0 x0_1 x0_2 x1 R H) h
/-- bollard/alloc.free -/
def F79 (x0a : Option Addr) (x0n : Nat) (x0c : Nat) (x1 : Int) (x2 : Int) (R : Ending → Heap → Prop) (H : Heap) : Prop :=
  HCalls Tryz.prog 138 #[Value.slice x0a x0n x0c, Value.int IntKind.i64 x2, Value.int IntKind.i64 x1] H (Sp.retK (fun v1 H2 =>
  dT 2 v1 (fun v3 v4 =>
  dInt IntKind.i64 v3 (fun n5 =>
  dBl v4 (fun b6 =>
  sB b6 (sB (decide (n5 ≥ x1)) (R (Ending.returned (Value.tuple #[Value.int IntKind.i64 n5, Value.bool (decide (x1 < x2))])) H2) (R (Ending.returned (Value.tuple #[Value.int IntKind.i64 n5, Value.bool false])) H2)) (R (Ending.returned (Value.tuple #[Value.int IntKind.i64 n5, Value.bool false])) H2))))) (pnR R))
theorem F79_eq (x0a : Option Addr) (x0n : Nat) (x0c : Nat) (x1 : Int) (x2 : Int) (R : Ending → Heap → Prop) (H : Heap) : F79 x0a x0n x0c x1 x2 R H = vc Tryz.prog (codeOf Tryz.f79) .leaf (postV Tryz.prog Tryz.f79 R) ⟨#[Value.slice x0a x0n x0c, Value.int IntKind.i64 x1, Value.int IntKind.i64 x2] ++ Array.replicate (Tryz.f79.ntmps - 3) undef, []⟩ H := by kernel_rfl
theorem F79_calls {R : Ending → Heap → Prop} {H : Heap} (x0a : Option Addr) (x0n : Nat) (x0c : Nat) (x1 : Int) (x2 : Int) (h : F79 x0a x0n x0c x1 x2 R H) : HCalls Tryz.prog 79 #[Value.slice x0a x0n x0c, Value.int IntKind.i64 x1, Value.int IntKind.i64 x2] H R :=
  calls_by (F := F79 x0a x0n x0c x1 x2 R H) .leaf Tryz.func79 rfl (F79_eq x0a x0n x0c x1 x2 R H) h
/-- bollard/alloc.turn -/
def F80 (x0 : Option Addr) (x1_0 : Value) (x1_1 : Value) (x1_2 : Value) (x2_0 : Value) (x2_1 : Value) (x2_2 : Value) (x2_3 : Value) (x2_4 : Value) (x2_5 : Value) (x2_6 : Value) (x2_7 : Value) (x2_8 : Value) (x2_9 : Value) (x2_10 : Value) (x2_11 : Value) (x2_12 : Value) (x2_13 : Value) (x2_14 : Value) (x2_15 : Value) (x2_16 : Value) (x2_17 : Value) (x2_18 : Value) (x2_19 : Value) (x2_20 : Value) (x2_21 : Value) (x2_22 : Value) (x2_23 : Value) (x2_24 : Value) (x2_25 : Value) (x2_26 : Value) (x2_27 : Value) (x2_28 : Value) (x2_29 : Value) (x2_30 : Value) (x2_31 : Value) (x2_32 : Value) (x2_33 : Value) (x2_34 : Value) (x2_35 : Value) (x2_36 : Value) (x2_37 : Value) (x2_38 : Value) (x2_39 : Value) (x2_40 : Value) (x3 : Int) (x4 : Int) (x5 : Bool) (x6a : Option Addr) (x6n : Nat) (x6c : Nat) (R : Ending → Heap → Prop) (H : Heap) : Prop :=
  al H (Obj.cells #[x1_0, x1_1, x1_2] 32) (fun r1 H2 =>
  al H2 (Obj.cells #[x2_0, x2_1, x2_2, x2_3, x2_4, x2_5, x2_6, x2_7, x2_8, x2_9, x2_10, x2_11, x2_12, x2_13, x2_14, x2_15, x2_16, x2_17, x2_18, x2_19, x2_20, x2_21, x2_22, x2_23, x2_24, x2_25, x2_26, x2_27, x2_28, x2_29, x2_30, x2_31, x2_32, x2_33, x2_34, x2_35, x2_36, x2_37, x2_38, x2_39, x2_40] 77) (fun r3 H4 =>
  ask ((0 : Int) ≤ (0 : Int) ∧ (0 : Int) ≤ (32 : Int) ∧ (32 : Int) ≤ (32 : Int) ∧ (32 : Int) ≤ (32 : Int)) (jn (α := VFH 1) (fun v5 H6 =>
  ∀ v7 v8 v9 v10 : Value,
  dSl v5 (fun p11 r12 r13 =>
  HCalls Tryz.prog 139 #[Value.slice p11 r12 r13, Value.int IntKind.i64 x4, Value.bool x5] H6 (Sp.retK (fun v14 H15 =>
  dT 2 v14 (fun v16 v17 =>
  dSl v16 (fun p18 r19 r20 =>
  dInt IntKind.i64 v17 (fun n21 =>
  sB (n21 != 0) (R (Ending.returned (Value.tuple #[Value.int IntKind.i64 0, Value.int IntKind.i64 n21])) H15) (ld H15 (Addr.mk r1 0 none) (fun v22 =>
  ld H15 (Addr.mk r1 1 none) (fun v23 =>
  ld H15 (Addr.mk r1 2 none) (fun v24 =>
  ld H15 (Addr.mk r3 0 none) (fun v25 =>
  dInt IntKind.i64 v25 (fun n26 =>
  HCalls Tryz.prog 134 #[Value.agg #[v22, v23, v24], Value.int IntKind.i64 n26] H15 (Sp.retK (fun v27 H28 =>
  dT 2 v27 (fun v29 v30 =>
  dInt IntKind.i64 v29 (fun n31 =>
  dBl v30 (fun b32 =>
  ask ((8 : Int) ≠ (0 : Int)) (wr IntKind.i64 (Int.tdiv x4 8) (fun n33 =>
  wr IntKind.i64 (x3 + n33) (fun n34 =>
  ask ((8 : Int) ≠ (0 : Int)) (wr IntKind.i64 (Int.tdiv x4 8) (fun n35 =>
  nz p18 (fun a36 =>
  ask ((0 : Int) ≤ n35 ∧ n35 < (↑r19 : Int)) (ld H28 (Addr.add a36 (Int.toNat n35 * 1)) (fun v37 =>
  dInt IntKind.u8 v37 (fun n38 =>
  al H28 (Obj.cells #[Value.int IntKind.u8 n38] 5) (fun r39 H40 =>
  HCalls Tryz.prog 25 #[Value.pointer x0, Value.int IntKind.i64 n31, Value.int IntKind.i64 n34, Value.slice (some (Addr.mk r39 0 none)) 1 1, Value.slice x6a x6n x6c] H40 (Sp.retK (fun v41 H42 =>
  dT 2 v41 (fun v43 v44 =>
  dInt IntKind.i64 v43 (fun n45 =>
  dInt IntKind.i64 v44 (fun n46 =>
  R (Ending.returned (Value.tuple #[Value.int IntKind.i64 n45, Value.int IntKind.i64 n46])) H42)))) (pnR R)))))))))))))))) (pnR R)))))))))))) (pnR R)))) (fun k53 =>
  sB (x3 == 4) (ask ((0 : Int) ≤ (0 : Int) ∧ (0 : Int) ≤ (8 : Int) ∧ (8 : Int) ≤ (8 : Int) ∧ (8 : Int) ≤ (8 : Int)) (k53 (Value.slice (slO (some (Addr.mk r3 1 none)) 1 0 8) (Int.toNat 8 - Int.toNat 0) (Int.toNat 8 - Int.toNat 0)) H4)) (k53 (Value.slice (slO (some (Addr.mk r3 9 none)) 1 0 32) (Int.toNat 32 - Int.toNat 0) (Int.toNat 32 - Int.toNat 0)) H4)))))
theorem F80_eq (x0 : Option Addr) (x1_0 : Value) (x1_1 : Value) (x1_2 : Value) (x2_0 : Value) (x2_1 : Value) (x2_2 : Value) (x2_3 : Value) (x2_4 : Value) (x2_5 : Value) (x2_6 : Value) (x2_7 : Value) (x2_8 : Value) (x2_9 : Value) (x2_10 : Value) (x2_11 : Value) (x2_12 : Value) (x2_13 : Value) (x2_14 : Value) (x2_15 : Value) (x2_16 : Value) (x2_17 : Value) (x2_18 : Value) (x2_19 : Value) (x2_20 : Value) (x2_21 : Value) (x2_22 : Value) (x2_23 : Value) (x2_24 : Value) (x2_25 : Value) (x2_26 : Value) (x2_27 : Value) (x2_28 : Value) (x2_29 : Value) (x2_30 : Value) (x2_31 : Value) (x2_32 : Value) (x2_33 : Value) (x2_34 : Value) (x2_35 : Value) (x2_36 : Value) (x2_37 : Value) (x2_38 : Value) (x2_39 : Value) (x2_40 : Value) (x3 : Int) (x4 : Int) (x5 : Bool) (x6a : Option Addr) (x6n : Nat) (x6c : Nat) (R : Ending → Heap → Prop) (H : Heap) : F80 x0 x1_0 x1_1 x1_2 x2_0 x2_1 x2_2 x2_3 x2_4 x2_5 x2_6 x2_7 x2_8 x2_9 x2_10 x2_11 x2_12 x2_13 x2_14 x2_15 x2_16 x2_17 x2_18 x2_19 x2_20 x2_21 x2_22 x2_23 x2_24 x2_25 x2_26 x2_27 x2_28 x2_29 x2_30 x2_31 x2_32 x2_33 x2_34 x2_35 x2_36 x2_37 x2_38 x2_39 x2_40 x3 x4 x5 x6a x6n x6c R H = vc Tryz.prog (codeOf Tryz.f80) (.node none .leaf (.node none .leaf (.node (some ⟨[(16, 38)], [23, 24, 25, 26]⟩) .leaf .leaf))) (postV Tryz.prog Tryz.f80 R) ⟨#[Value.pointer x0, Value.agg #[x1_0, x1_1, x1_2], Value.agg #[x2_0, x2_1, x2_2, x2_3, x2_4, x2_5, x2_6, x2_7, x2_8, x2_9, x2_10, x2_11, x2_12, x2_13, x2_14, x2_15, x2_16, x2_17, x2_18, x2_19, x2_20, x2_21, x2_22, x2_23, x2_24, x2_25, x2_26, x2_27, x2_28, x2_29, x2_30, x2_31, x2_32, x2_33, x2_34, x2_35, x2_36, x2_37, x2_38, x2_39, x2_40], Value.int IntKind.i64 x3, Value.int IntKind.i64 x4, Value.bool x5, Value.slice x6a x6n x6c] ++ Array.replicate (Tryz.f80.ntmps - 7) undef, []⟩ H := by kernel_rfl
theorem F80_calls {R : Ending → Heap → Prop} {H : Heap} (x0 : Option Addr) (x1_0 : Value) (x1_1 : Value) (x1_2 : Value) (x2_0 : Value) (x2_1 : Value) (x2_2 : Value) (x2_3 : Value) (x2_4 : Value) (x2_5 : Value) (x2_6 : Value) (x2_7 : Value) (x2_8 : Value) (x2_9 : Value) (x2_10 : Value) (x2_11 : Value) (x2_12 : Value) (x2_13 : Value) (x2_14 : Value) (x2_15 : Value) (x2_16 : Value) (x2_17 : Value) (x2_18 : Value) (x2_19 : Value) (x2_20 : Value) (x2_21 : Value) (x2_22 : Value) (x2_23 : Value) (x2_24 : Value) (x2_25 : Value) (x2_26 : Value) (x2_27 : Value) (x2_28 : Value) (x2_29 : Value) (x2_30 : Value) (x2_31 : Value) (x2_32 : Value) (x2_33 : Value) (x2_34 : Value) (x2_35 : Value) (x2_36 : Value) (x2_37 : Value) (x2_38 : Value) (x2_39 : Value) (x2_40 : Value) (x3 : Int) (x4 : Int) (x5 : Bool) (x6a : Option Addr) (x6n : Nat) (x6c : Nat) (h : F80 x0 x1_0 x1_1 x1_2 x2_0 x2_1 x2_2 x2_3 x2_4 x2_5 x2_6 x2_7 x2_8 x2_9 x2_10 x2_11 x2_12 x2_13 x2_14 x2_15 x2_16 x2_17 x2_18 x2_19 x2_20 x2_21 x2_22 x2_23 x2_24 x2_25 x2_26 x2_27 x2_28 x2_29 x2_30 x2_31 x2_32 x2_33 x2_34 x2_35 x2_36 x2_37 x2_38 x2_39 x2_40 x3 x4 x5 x6a x6n x6c R H) : HCalls Tryz.prog 80 #[Value.pointer x0, Value.agg #[x1_0, x1_1, x1_2], Value.agg #[x2_0, x2_1, x2_2, x2_3, x2_4, x2_5, x2_6, x2_7, x2_8, x2_9, x2_10, x2_11, x2_12, x2_13, x2_14, x2_15, x2_16, x2_17, x2_18, x2_19, x2_20, x2_21, x2_22, x2_23, x2_24, x2_25, x2_26, x2_27, x2_28, x2_29, x2_30, x2_31, x2_32, x2_33, x2_34, x2_35, x2_36, x2_37, x2_38, x2_39, x2_40], Value.int IntKind.i64 x3, Value.int IntKind.i64 x4, Value.bool x5, Value.slice x6a x6n x6c] H R :=
  calls_by (F := F80 x0 x1_0 x1_1 x1_2 x2_0 x2_1 x2_2 x2_3 x2_4 x2_5 x2_6 x2_7 x2_8 x2_9 x2_10 x2_11 x2_12 x2_13 x2_14 x2_15 x2_16 x2_17 x2_18 x2_19 x2_20 x2_21 x2_22 x2_23 x2_24 x2_25 x2_26 x2_27 x2_28 x2_29 x2_30 x2_31 x2_32 x2_33 x2_34 x2_35 x2_36 x2_37 x2_38 x2_39 x2_40 x3 x4 x5 x6a x6n x6c R H) (.node none .leaf (.node none .leaf (.node (some ⟨[(16, 38)], [23, 24, 25, 26]⟩) .leaf .leaf))) Tryz.func80 rfl (F80_eq x0 x1_0 x1_1 x1_2 x2_0 x2_1 x2_2 x2_3 x2_4 x2_5 x2_6 x2_7 x2_8 x2_9 x2_10 x2_11 x2_12 x2_13 x2_14 x2_15 x2_16 x2_17 x2_18 x2_19 x2_20 x2_21 x2_22 x2_23 x2_24 x2_25 x2_26 x2_27 x2_28 x2_29 x2_30 x2_31 x2_32 x2_33 x2_34 x2_35 x2_36 x2_37 x2_38 x2_39 x2_40 x3 x4 x5 x6a x6n x6c R H) h
/-- bollard/cache.New -/
def F81 (x0 : Option Addr) (x1 : Int) (R : Ending → Heap → Prop) (H : Heap) : Prop :=
  HCalls Tryz.prog 70 #[Value.pointer x0] H (Sp.retK (fun v1 H2 =>
  dInt IntKind.i64 v1 (fun n3 =>
  sB (n3 == 0) (R (Ending.returned (Value.tuple #[Value.pointer none, Value.int IntKind.i64 2])) H2) (jn (α := VFH 1) (fun v4 H5 =>
  ∀ v6 v7 v8 v9 v10 : Value,
  dBl v4 (fun b11 =>
  sB b11 (R (Ending.returned (Value.tuple #[Value.pointer none, Value.int IntKind.i64 1])) H5) (al H5 (Obj.map #[] 0) (fun r12 H13 =>
  al H13 (Obj.cells #[Value.pointer x0, Value.int IntKind.i64 x1, Value.map (some r12), Value.int IntKind.i64 0, Value.int IntKind.i64 0, Value.int IntKind.i64 0] 203) (fun r14 H15 =>
  R (Ending.returned (Value.tuple #[Value.pointer (some (Addr.mk r14 0 none)), Value.int IntKind.i64 0])) H15))))) (fun k16 =>
  sB (decide (x1 < 1)) (k16 (Value.bool true) H2) (k16 (Value.bool (decide (x1 > 64))) H2))))) (pnR R))
theorem F81_eq (x0 : Option Addr) (x1 : Int) (R : Ending → Heap → Prop) (H : Heap) : F81 x0 x1 R H = vc Tryz.prog (codeOf Tryz.f81) (.node none .leaf (.node none .leaf (.node none (.node (some ⟨[(14, 4)], [9, 10, 11, 12, 13]⟩) .leaf .leaf) .leaf))) (postV Tryz.prog Tryz.f81 R) ⟨#[Value.pointer x0, Value.int IntKind.i64 x1] ++ Array.replicate (Tryz.f81.ntmps - 2) undef, []⟩ H := by kernel_rfl
theorem F81_calls {R : Ending → Heap → Prop} {H : Heap} (x0 : Option Addr) (x1 : Int) (h : F81 x0 x1 R H) : HCalls Tryz.prog 81 #[Value.pointer x0, Value.int IntKind.i64 x1] H R :=
  calls_by (F := F81 x0 x1 R H) (.node none .leaf (.node none .leaf (.node none (.node (some ⟨[(14, 4)], [9, 10, 11, 12, 13]⟩) .leaf .leaf) .leaf))) Tryz.func81 rfl (F81_eq x0 x1 R H) h
/-- bollard/patch.New -/
def F82  (R : Ending → Heap → Prop) (H : Heap) : Prop :=
  al H (Obj.map #[] 0) (fun r1 H2 =>
  al H2 (Obj.map #[] 0) (fun r3 H4 =>
  al H4 (Obj.cells #[Value.int IntKind.i64 0, Value.map (some r1), Value.map (some r3), Value.bool true] 192) (fun r5 H6 =>
  R (Ending.returned (Value.pointer (some (Addr.mk r5 0 none)))) H6)))
theorem F82_eq  (R : Ending → Heap → Prop) (H : Heap) : F82  R H = vc Tryz.prog (codeOf Tryz.f82) .leaf (postV Tryz.prog Tryz.f82 R) ⟨#[] ++ Array.replicate (Tryz.f82.ntmps - 0) undef, []⟩ H := by kernel_rfl
theorem F82_calls {R : Ending → Heap → Prop} {H : Heap}  (h : F82  R H) : HCalls Tryz.prog 82 #[] H R :=
  calls_by (F := F82  R H) .leaf Tryz.func82 rfl (F82_eq  R H) h
/-- (*bollard/volume.Volume).ready -/
def F83 (x0 : Option Addr) (R : Ending → Heap → Prop) (H : Heap) : Prop :=
  al H (Obj.cells #[Value.pointer x0] 30) (fun r1 H2 =>
  ask ((0 : Int) ≤ (128 : Int) ∧ (128 : Int) ≤ (128 : Int) ∧ (128 : Int) ≤ (281474976710656 : Int) ∧ (128 : Int) ≤ (9223372036854775807 : Int)) (al H2 (Obj.cells (List.toArray (rowZ [Value.int IntKind.u8 0] (Int.toNat 128))) 5) (fun r3 H4 =>
  al H4 (Obj.cells #[Value.slice none 0 0] 38) (fun r5 H6 =>
  st H6 (Addr.mk r5 0 none) (Value.slice (some (Addr.mk r3 0 none)) (Int.toNat 128) (Int.toNat 128)) (fun H7 =>
  ld H7 (Addr.mk r1 0 none) (fun v8 =>
  dPtr v8 (fun p9 =>
  nz p9 (fun a10 =>
  ld H7 (Addr.add a10 4) (fun v11 =>
  dPtr v11 (fun p12 =>
  HCalls Tryz.prog 99 #[Value.pointer p12] H7 (Sp.retK (fun v13 H14 =>
  dSl v13 (fun p15 r16 r17 =>
  HCalls Tryz.prog 140 #[Value.slice p15 r16 r17, Value.func (Fn.func 141) #[] #[Value.pointer (some (Addr.mk r1 0 none)), Value.pointer (some (Addr.mk r5 0 none))]] H14 (Sp.retK (fun v18 H19 =>
  dSl v18 (fun p20 r21 r22 =>
  R (Ending.returned (Value.slice p20 r21 r22)) H19)) (pnR R)))) (pnR R))))))))))))
theorem F83_eq (x0 : Option Addr) (R : Ending → Heap → Prop) (H : Heap) : F83 x0 R H = vc Tryz.prog (codeOf Tryz.f83) .leaf (postV Tryz.prog Tryz.f83 R) ⟨#[Value.pointer x0] ++ Array.replicate (Tryz.f83.ntmps - 1) undef, []⟩ H := by kernel_rfl
theorem F83_calls {R : Ending → Heap → Prop} {H : Heap} (x0 : Option Addr) (h : F83 x0 R H) : HCalls Tryz.prog 83 #[Value.pointer x0] H R :=
  calls_by (F := F83 x0 R H) .leaf Tryz.func83 rfl (F83_eq x0 R H) h
/-- (*bollard/volume.Volume).write -/
def F84 (x0 : Option Addr) (x1 : Int) (R : Ending → Heap → Prop) (H : Heap) : Prop :=
  HCalls Tryz.prog 71 #[Value.pointer x0, Value.int IntKind.i64 x1] H (Sp.retK (fun v1 H2 =>
  dBl v1 (fun b3 =>
  sB (!b3) (R (Ending.returned (Value.int IntKind.i64 90)) H2) (HCalls Tryz.prog 143 #[Value.pointer x0, Value.int IntKind.i64 x1] H2 (Sp.retK (fun v4 H5 =>
  dBl v4 (fun b6 =>
  sB b6 (R (Ending.returned (Value.int IntKind.i64 3)) H5) (nz x0 (fun a7 =>
  ld H5 (Addr.add a7 4) (fun v8 =>
  dPtr v8 (fun p9 =>
  ask ((0 : Int) ≤ (128 : Int) ∧ (128 : Int) ≤ (128 : Int) ∧ (128 : Int) ≤ (281474976710656 : Int) ∧ (128 : Int) ≤ (9223372036854775807 : Int)) (al H5 (Obj.cells (List.toArray (rowZ [Value.int IntKind.u8 0] (Int.toNat 128))) 5) (fun r10 H11 =>
  (ld H11 (Addr.add a7 4) (fun v12 =>
  dPtr v12 (fun p13 =>
  (Value.pointer p13) = (Value.pointer p9)))) ∧
  HCalls Tryz.prog 142 #[Value.pointer p9, Value.int IntKind.i64 x1, Value.slice (some (Addr.mk r10 0 none)) (Int.toNat 128) (Int.toNat 128)] H11 (Sp.retK (fun v14 H15 =>
  dT 3 v14 (fun v16 v17 v18 =>
  dSl v16 (fun p19 r20 r21 =>
  dSl v17 (fun p22 r23 r24 =>
  dInt IntKind.i64 v18 (fun n25 =>
  sB (n25 != 0) (R (Ending.returned (Value.int IntKind.i64 n25)) H15) (nz x0 (fun a26 =>
  ld H15 (Addr.add a26 3) (fun v27 =>
  dPtr v27 (fun p28 =>
  HCalls Tryz.prog 125 #[Value.pointer p28, Value.int IntKind.i64 x1] H15 (Sp.retK (fun v29 H30 =>
  dT 2 v29 (fun v31 v32 =>
  dSl v31 (fun p33 r34 r35 =>
  dInt IntKind.i64 v32 (fun n36 =>
  sB (n36 != 0) (R (Ending.returned (Value.int IntKind.i64 n36)) H30) (nz x0 (fun a37 =>
  ld H30 (Addr.add a37 4) (fun v38 =>
  dPtr v38 (fun p39 =>
  HCalls Tryz.prog 142 #[Value.pointer p39, Value.int IntKind.i64 x1, Value.slice p33 r34 r35] H30 (Sp.retK (fun v40 H41 =>
  dT 3 v40 (fun v42 v43 v44 =>
  dSl v42 (fun p45 r46 r47 =>
  dSl v43 (fun p48 r49 r50 =>
  dInt IntKind.i64 v44 (fun n51 =>
  sB (n51 != 0) (R (Ending.returned (Value.int IntKind.i64 n51)) H41) (nz x0 (fun a52 =>
  ld H41 (Addr.add a52 2) (fun v53 =>
  dPtr v53 (fun p54 =>
  HCalls Tryz.prog 144 #[Value.pointer p54, Value.int IntKind.i64 x1, Value.slice p45 r46 r47] H41 (Sp.retK (fun v55 H56 =>
  dT 2 v55 (fun v57 v58 =>
  dInt IntKind.i64 v57 (fun n59 =>
  dInt IntKind.i64 v58 (fun n60 =>
  jn (α := VFH 0) (fun H61 =>
  ∀ v62 v63 v64 v65 v66 v67 v68 v69 v70 v71 v72 : Value,
  R (Ending.returned (Value.int IntKind.i64 n60)) H61) (fun k73 =>
  sB (n60 == 0) (nz x0 (fun a74 =>
  ld H56 (Addr.add a74 5) (fun v75 =>
  dMap v75 (fun p76 =>
  semW Tryz.prog (Instr.mapUpdate 52 (Value.map p76) (Value.int IntKind.i64 n59) (Value.agg #[Value.int IntKind.i64 x1, Value.slice p45 r46 r47, Value.slice p48 r49 r50])) (pnR R) H56 (fun x79 H80 =>
  k73 H80))))) (k73 H56)))))) (pnR R))))))))))) (pnR R)))))))))) (pnR R))))))))))) nopR))))))))) (pnR R))))) (pnR R))
theorem F84_eq (x0 : Option Addr) (x1 : Int) (R : Ending → Heap → Prop) (H : Heap) : F84 x0 x1 R H = vc Tryz.prog (codeOf Tryz.f84) (.node none .leaf (.node none .leaf (.node none .leaf (.node none .leaf (.node none .leaf (.node none .leaf (.node none .leaf (.node none .leaf (.node none .leaf (.node (some ⟨[], [71, 72, 73, 74, 75, 76, 77, 78, 79, 80, 81]⟩) .leaf .leaf)))))))))) (postV Tryz.prog Tryz.f84 R) ⟨#[Value.pointer x0, Value.int IntKind.i64 x1] ++ Array.replicate (Tryz.f84.ntmps - 2) undef, []⟩ H := by kernel_rfl
theorem F84_calls {R : Ending → Heap → Prop} {H : Heap} (x0 : Option Addr) (x1 : Int) (h : F84 x0 x1 R H) : HCalls Tryz.prog 84 #[Value.pointer x0, Value.int IntKind.i64 x1] H R :=
  calls_by (F := F84 x0 x1 R H) (.node none .leaf (.node none .leaf (.node none .leaf (.node none .leaf (.node none .leaf (.node none .leaf (.node none .leaf (.node none .leaf (.node none .leaf (.node (some ⟨[], [71, 72, 73, 74, 75, 76, 77, 78, 79, 80, 81]⟩) .leaf .leaf)))))))))) Tryz.func84 rfl (F84_eq x0 x1 R H) h
/-- (*bollard/volume.Volume).complete -/
def F85 (x0 : Option Addr) (x1 : Int) (x2 : Bool) (R : Ending → Heap → Prop) (H : Heap) : Prop :=
  nz x0 (fun a1 =>
  ld H (Addr.add a1 2) (fun v2 =>
  dPtr v2 (fun p3 =>
  HCalls Tryz.prog 36 #[Value.pointer p3] H (Sp.retK (fun v4 H5 =>
  dSl v4 (fun p6 r7 r8 =>
  jn (α := VFH 1) (fun v9 H10 =>
  ∀ v11 v12 v13 v14 v15 v16 v17 : Value,
  dBl v9 (fun b18 =>
  sB b18 (R (Ending.returned (Value.int IntKind.i64 1)) H10) (nz x0 (fun a19 =>
  ld H10 (Addr.add a19 5) (fun v20 =>
  dMap v20 (fun p21 =>
  nz p6 (fun a22 =>
  ask ((0 : Int) ≤ x1 ∧ x1 < (↑r7 : Int)) (ld H10 (Addr.add a22 (Int.toNat x1 * 3)) (fun v23 =>
  dInt IntKind.i64 v23 (fun n24 =>
  (semW Tryz.prog (Instr.lookup 52 (Value.map p21) (Value.int IntKind.i64 n24) true) nopR H10 (fun v27 H28 =>
  dT 2 v27 (fun v29 v30 =>
  dA 3 v29 (fun v31 v32 v33 =>
  dBl v30 (fun b34 =>
  al H28 (Obj.cells #[Value.int IntKind.i64 0, Value.slice none 0 0, Value.slice none 0 0] 153) (fun r35 H36 =>
  st H36 (Addr.mk r35 0 none) v31 (fun H37 =>
  st H37 (Addr.mk r35 1 none) v32 (fun H38 =>
  st H38 (Addr.mk r35 2 none) v33 (fun H39 =>
  nz x0 (fun a40 =>
  ld H39 (Addr.add a40 5) (fun v41 =>
  dMap v41 (fun p42 =>
  nz p6 (fun a43 =>
  ask ((0 : Int) ≤ x1 ∧ x1 < (↑r7 : Int)) (ld H39 (Addr.add a43 (Int.toNat x1 * 3)) (fun v44 =>
  dInt IntKind.i64 v44 (fun n45 =>
  semW Tryz.prog (Builtin.delete_ #[52, 3] 0 #[Value.map p42, Value.int IntKind.i64 n45]) nopR H39 (fun v48 H49 =>
  nz x0 (fun a50 =>
  ld H49 (Addr.add a50 2) (fun v51 =>
  dPtr v51 (fun p52 =>
  nz p6 (fun a53 =>
  ask ((0 : Int) ≤ x1 ∧ x1 < (↑r7 : Int)) (ld H49 (Addr.add a53 (Int.toNat x1 * 3)) (fun v54 =>
  dInt IntKind.i64 v54 (fun n55 =>
  HCalls Tryz.prog 145 #[Value.pointer p52, Value.int IntKind.i64 n55, Value.bool x2] H49 (Sp.retK (fun v56 H57 =>
  dInt IntKind.i64 v56 (fun n58 =>
  jn (α := VFH 1) (fun v59 H60 =>
  ∀ v61 v62 v63 v64 v65 v66 v67 v68 v69 : Value,
  dBl v59 (fun b70 =>
  sB b70 (R (Ending.returned (Value.int IntKind.i64 n58)) H60) (nz x0 (fun a71 =>
  ld H60 (Addr.add a71 3) (fun v72 =>
  dPtr v72 (fun p73 =>
  ld H60 (Addr.mk r35 0 none) (fun v74 =>
  dInt IntKind.i64 v74 (fun n75 =>
  ld H60 (Addr.mk r35 1 none) (fun v76 =>
  dSl v76 (fun p77 r78 r79 =>
  HCalls Tryz.prog 146 #[Value.pointer p73, Value.int IntKind.i64 n75, Value.slice p77 r78 r79] H60 (Sp.retK (fun v80 H81 =>
  dInt IntKind.i64 v80 (fun n82 =>
  sB (n82 != 0) (R (Ending.returned (Value.int IntKind.i64 n82)) H81) (nz x0 (fun a83 =>
  ld H81 (Addr.add a83 4) (fun v84 =>
  dPtr v84 (fun p85 =>
  ld H81 (Addr.mk r35 2 none) (fun v86 =>
  dSl v86 (fun p87 r88 r89 =>
  HCalls Tryz.prog 147 #[Value.pointer p85, Value.slice p87 r88 r89] H81 (Sp.retK (fun v90 H91 =>
  dInt IntKind.i64 v90 (fun n92 =>
  R (Ending.returned (Value.int IntKind.i64 n92)) H91)) nopR))))))))) nopR))))))))))) (fun k97 =>
  sB (n58 != 0) (k97 (Value.bool true) H57) (sB (!x2) (k97 (Value.bool true) H57) (k97 (Value.bool !b34) H57))))) nopR))))))))))))))))))))))))) ∧
  al H10 (Obj.cells #[Value.int IntKind.i64 0, Value.slice none 0 0, Value.slice none 0 0] 153) (fun r100 H101 =>
  (ld H101 (Addr.add a22 (Int.toNat x1 * 3)) (fun v102 =>
  dInt IntKind.i64 v102 (fun n103 =>
  (Value.int IntKind.i64 n103) = (Value.int IntKind.i64 n24)))) ∧
  (ld H101 (Addr.add a19 5) (fun v104 =>
  dMap v104 (fun p105 =>
  (Value.map p105) = (Value.map p21)))) ∧
  semW Tryz.prog (Instr.lookup 52 (Value.map p21) (Value.int IntKind.i64 n24) true) nopR H101 (fun v108 H109 =>
  dT 2 v108 (fun v110 v111 =>
  dA 3 v110 (fun v112 v113 v114 =>
  dBl v111 (fun b115 =>
  st H109 (Addr.mk r100 0 none) v112 (fun H116 =>
  st H116 (Addr.mk r100 1 none) v113 (fun H117 =>
  st H117 (Addr.mk r100 2 none) v114 (fun H118 =>
  nz x0 (fun a119 =>
  ld H118 (Addr.add a119 5) (fun v120 =>
  dMap v120 (fun p121 =>
  nz p6 (fun a122 =>
  ask ((0 : Int) ≤ x1 ∧ x1 < (↑r7 : Int)) (ld H118 (Addr.add a122 (Int.toNat x1 * 3)) (fun v123 =>
  dInt IntKind.i64 v123 (fun n124 =>
  semW Tryz.prog (Builtin.delete_ #[52, 3] 0 #[Value.map p121, Value.int IntKind.i64 n124]) nopR H118 (fun v127 H128 =>
  nz x0 (fun a129 =>
  ld H128 (Addr.add a129 2) (fun v130 =>
  dPtr v130 (fun p131 =>
  nz p6 (fun a132 =>
  ask ((0 : Int) ≤ x1 ∧ x1 < (↑r7 : Int)) (ld H128 (Addr.add a132 (Int.toNat x1 * 3)) (fun v133 =>
  dInt IntKind.i64 v133 (fun n134 =>
  HCalls Tryz.prog 145 #[Value.pointer p131, Value.int IntKind.i64 n134, Value.bool x2] H128 (Sp.retK (fun v135 H136 =>
  dInt IntKind.i64 v135 (fun n137 =>
  jn (α := VFH 1) (fun v138 H139 =>
  ∀ v140 v141 v142 v143 v144 v145 v146 v147 v148 : Value,
  dBl v138 (fun b149 =>
  sB b149 (R (Ending.returned (Value.int IntKind.i64 n137)) H139) (nz x0 (fun a150 =>
  ld H139 (Addr.add a150 3) (fun v151 =>
  dPtr v151 (fun p152 =>
  ld H139 (Addr.mk r100 0 none) (fun v153 =>
  dInt IntKind.i64 v153 (fun n154 =>
  ld H139 (Addr.mk r100 1 none) (fun v155 =>
  dSl v155 (fun p156 r157 r158 =>
  HCalls Tryz.prog 146 #[Value.pointer p152, Value.int IntKind.i64 n154, Value.slice p156 r157 r158] H139 (Sp.retK (fun v159 H160 =>
  dInt IntKind.i64 v159 (fun n161 =>
  sB (n161 != 0) (R (Ending.returned (Value.int IntKind.i64 n161)) H160) (nz x0 (fun a162 =>
  ld H160 (Addr.add a162 4) (fun v163 =>
  dPtr v163 (fun p164 =>
  ld H160 (Addr.mk r100 2 none) (fun v165 =>
  dSl v165 (fun p166 r167 r168 =>
  HCalls Tryz.prog 147 #[Value.pointer p164, Value.slice p166 r167 r168] H160 (Sp.retK (fun v169 H170 =>
  dInt IntKind.i64 v169 (fun n171 =>
  R (Ending.returned (Value.int IntKind.i64 n171)) H170)) nopR))))))))) nopR))))))))))) (fun k176 =>
  sB (n137 != 0) (k176 (Value.bool true) H136) (sB (!x2) (k176 (Value.bool true) H136) (k176 (Value.bool !b115) H136))))) nopR)))))))))))))))))))))))))))))))))) (fun k179 =>
  sB (decide (x1 < 0)) (k179 (Value.bool true) H5) (k179 (Value.bool (decide (x1 ≥ (↑r7 : Int)))) H5)))) (pnR R)))))
theorem F85_eq (x0 : Option Addr) (x1 : Int) (x2 : Bool) (R : Ending → Heap → Prop) (H : Heap) : F85 x0 x1 x2 R H = vc Tryz.prog (codeOf Tryz.f85) (.node none .leaf (.node none .leaf (.node none (.node (some ⟨[(23, 4)], [16, 17, 18, 19, 20, 21, 22]⟩) .leaf .leaf) (.node none .leaf (.node none .leaf (.node none .leaf (.node none (.node (some ⟨[(66, 4)], [57, 58, 59, 60, 61, 62, 63, 64, 65]⟩) .leaf .leaf) .leaf))))))) (postV Tryz.prog Tryz.f85 R) ⟨#[Value.pointer x0, Value.int IntKind.i64 x1, Value.bool x2] ++ Array.replicate (Tryz.f85.ntmps - 3) undef, []⟩ H := by kernel_rfl
theorem F85_calls {R : Ending → Heap → Prop} {H : Heap} (x0 : Option Addr) (x1 : Int) (x2 : Bool) (h : F85 x0 x1 x2 R H) : HCalls Tryz.prog 85 #[Value.pointer x0, Value.int IntKind.i64 x1, Value.bool x2] H R :=
  calls_by (F := F85 x0 x1 x2 R H) (.node none .leaf (.node none .leaf (.node none (.node (some ⟨[(23, 4)], [16, 17, 18, 19, 20, 21, 22]⟩) .leaf .leaf) (.node none .leaf (.node none .leaf (.node none .leaf (.node none (.node (some ⟨[(66, 4)], [57, 58, 59, 60, 61, 62, 63, 64, 65]⟩) .leaf .leaf) .leaf))))))) Tryz.func85 rfl (F85_eq x0 x1 x2 R H) h
/-- bollard/disk.sent -/
def F86 (x0a : Option Addr) (x0n : Nat) (x0c : Nat) (R : Ending → Heap → Prop) (H : Heap) : Prop :=
  ∃ I1 : List Value → Heap → Prop,
  ∃ I2 : List Value → Heap → Nat,
  (I1 ([Value.slice none 0 0, Value.int IntKind.i64 0]) H) ∧
  ∀ p3 : Option Addr,
  ∀ r4 : Nat,
  ∀ r5 : Nat,
  ∀ n6 : Int,
  ∀ v7 v8 v9 v10 v11 v12 v13 v14 v15 v16 v17 v18 v19 : Value,
  ∀ H20 : Heap,
  (I1 ([Value.slice p3 r4 r5, Value.int IntKind.i64 n6]) H20) →
  sB (decide (n6 < (↑x0n : Int))) (nz x0a (fun a22 =>
  ask ((0 : Int) ≤ n6 ∧ n6 < (↑x0n : Int)) (ld H20 (Addr.add a22 (Int.toNat n6 * 3)) (fun v23 =>
  ld H20 (Addr.add (Addr.add a22 (Int.toNat n6 * 3)) 1) (fun v24 =>
  ld H20 (Addr.add (Addr.add a22 (Int.toNat n6 * 3)) 2) (fun v25 =>
  al H20 (Obj.cells #[Value.int IntKind.i64 0, Value.int IntKind.i64 0, Value.slice none 0 0] 96) (fun r26 H27 =>
  st H27 (Addr.mk r26 0 none) v23 (fun H28 =>
  st H28 (Addr.mk r26 1 none) v24 (fun H29 =>
  st H29 (Addr.mk r26 2 none) v25 (fun H30 =>
  ld H30 (Addr.mk r26 2 none) (fun v31 =>
  dSl v31 (fun p32 r33 r34 =>
  HCalls Tryz.prog 48 #[Value.slice p32 r33 r34] H30 (Sp.retK (fun v35 H36 =>
  dSl v35 (fun p37 r38 r39 =>
  st H36 (Addr.mk r26 2 none) (Value.slice p37 r38 r39) (fun H40 =>
  ld H40 (Addr.mk r26 0 none) (fun v41 =>
  ld H40 (Addr.mk r26 1 none) (fun v42 =>
  ld H40 (Addr.mk r26 2 none) (fun v43 =>
  al H40 (Obj.cells #[v41, v42, v43] 96) (fun r44 H45 =>
  semW Tryz.prog (Builtin.append_ #[93, 93] 93 #[Value.slice p3 r4 r5, Value.slice (some (Addr.mk r44 0 none)) 1 1]) (pnR R) H45 (fun v48 H49 =>
  dSl v48 (fun p50 r51 r52 =>
  wr IntKind.i64 (n6 + 1) (fun n53 =>
  (I1 ([Value.slice p50 r51 r52, Value.int IntKind.i64 n53]) H49) ∧
  (I2 [Value.slice p50 r51 r52, Value.int IntKind.i64 n53] H49) < (I2 [Value.slice p3 r4 r5, Value.int IntKind.i64 n6] H20))))))))))) (pnR R)))))))))))))) (R (Ending.returned (Value.slice p3 r4 r5)) H20)
theorem F86_eq (x0a : Option Addr) (x0n : Nat) (x0c : Nat) (R : Ending → Heap → Prop) (H : Heap) : F86 x0a x0n x0c R H = vc Tryz.prog (codeOf Tryz.f86) (.node none .leaf (.node none .leaf (.node none (.node none .leaf (.node none (.node (some ⟨[(3, 93), (8, 3)], [5, 9, 10, 11, 12, 13, 14, 15, 16, 17, 18, 19, 20]⟩) .leaf .leaf) .leaf)) .leaf))) (postV Tryz.prog Tryz.f86 R) ⟨#[Value.slice x0a x0n x0c] ++ Array.replicate (Tryz.f86.ntmps - 1) undef, []⟩ H := by kernel_rfl
theorem F86_calls {R : Ending → Heap → Prop} {H : Heap} (x0a : Option Addr) (x0n : Nat) (x0c : Nat) (h : F86 x0a x0n x0c R H) : HCalls Tryz.prog 86 #[Value.slice x0a x0n x0c] H R :=
  calls_by (F := F86 x0a x0n x0c R H) (.node none .leaf (.node none .leaf (.node none (.node none .leaf (.node none (.node (some ⟨[(3, 93), (8, 3)], [5, 9, 10, 11, 12, 13, 14, 15, 16, 17, 18, 19, 20]⟩) .leaf .leaf) .leaf)) .leaf))) Tryz.func86 rfl (F86_eq x0a x0n x0c R H) h
/-- (*bollard/disk.Disk).made -/
def F87 (x0 : Option Addr) (R : Ending → Heap → Prop) (H : Heap) : Prop :=
  sB (!Option.isNone x0) (nz x0 (fun a1 =>
  ld H a1 (fun v2 =>
  dSl v2 (fun p3 r4 r5 =>
  R (Ending.returned (Value.bool (decide ((↑r4 : Int) > 0)))) H)))) (R (Ending.returned (Value.bool false)) H)
theorem F87_eq (x0 : Option Addr) (R : Ending → Heap → Prop) (H : Heap) : F87 x0 R H = vc Tryz.prog (codeOf Tryz.f87) .leaf (postV Tryz.prog Tryz.f87 R) ⟨#[Value.pointer x0] ++ Array.replicate (Tryz.f87.ntmps - 1) undef, []⟩ H := by kernel_rfl
theorem F87_calls {R : Ending → Heap → Prop} {H : Heap} (x0 : Option Addr) (h : F87 x0 R H) : HCalls Tryz.prog 87 #[Value.pointer x0] H R :=
  calls_by (F := F87 x0 R H) .leaf Tryz.func87 rfl (F87_eq x0 R H) h
/-- slices.ContainsFunc[[]int,int] -/
def F88 (x0a : Option Addr) (x0n : Nat) (x0c : Nat) (x1g : Nat) (x1f : Array Value) (x1c : Array Value) (R : Ending → Heap → Prop) (H : Heap) : Prop :=
  HCalls Tryz.prog 148 #[Value.slice x0a x0n x0c, Value.func (Fn.func x1g) x1f x1c] H (Sp.retK (fun v1 H2 =>
  dInt IntKind.i64 v1 (fun n3 =>
  R (Ending.returned (Value.bool (decide (n3 ≥ 0)))) H2)) (pnR R))
theorem F88_eq (x0a : Option Addr) (x0n : Nat) (x0c : Nat) (x1g : Nat) (x1f : Array Value) (x1c : Array Value) (R : Ending → Heap → Prop) (H : Heap) : F88 x0a x0n x0c x1g x1f x1c R H = vc Tryz.prog (codeOf Tryz.f88) .leaf (postV Tryz.prog Tryz.f88 R) ⟨#[Value.slice x0a x0n x0c, Value.func (Fn.func x1g) x1f x1c] ++ Array.replicate (Tryz.f88.ntmps - 2) undef, []⟩ H := by kernel_rfl
theorem F88_calls {R : Ending → Heap → Prop} {H : Heap} (x0a : Option Addr) (x0n : Nat) (x0c : Nat) (x1g : Nat) (x1f : Array Value) (x1c : Array Value) (h : F88 x0a x0n x0c x1g x1f x1c R H) : HCalls Tryz.prog 88 #[Value.slice x0a x0n x0c, Value.func (Fn.func x1g) x1f x1c] H R :=
  calls_by (F := F88 x0a x0n x0c x1g x1f x1c R H) .leaf Tryz.func88 rfl (F88_eq x0a x0n x0c x1g x1f x1c R H) h
/-- (*bollard/disk.Disk).Crash$1 -/
def F89 (x0 : Int) (f0 : Addr) (R : Ending → Heap → Prop) (H : Heap) : Prop :=
  ld H f0 (fun v1 =>
  dPtr v1 (fun p2 =>
  HCalls Tryz.prog 90 #[Value.pointer p2, Value.int IntKind.i64 x0] H (Sp.retK (fun v3 H4 =>
  dInt IntKind.i64 v3 (fun n5 =>
  R (Ending.returned (Value.bool (decide (n5 < 0)))) H4)) (pnR R))))
theorem F89_eq (x0 : Int) (f0 : Addr) (R : Ending → Heap → Prop) (H : Heap) : F89 x0 f0 R H = vc Tryz.prog (codeOf Tryz.f89) .leaf (postV Tryz.prog Tryz.f89 R) ⟨#[Value.int IntKind.i64 x0, Value.pointer (some f0)] ++ Array.replicate (Tryz.f89.ntmps - 2) undef, []⟩ H := by kernel_rfl
theorem F89_calls {R : Ending → Heap → Prop} {H : Heap} (x0 : Int) (f0 : Addr) (h : F89 x0 f0 R H) : HCalls Tryz.prog 89 #[Value.int IntKind.i64 x0, Value.pointer (some f0)] H R :=
  calls_by (F := F89 x0 f0 R H) .leaf Tryz.func89 rfl (F89_eq x0 f0 R H) h
/-- (*bollard/disk.Disk).place -/
def F90 (x0 : Option Addr) (x1 : Int) (R : Ending → Heap → Prop) (H : Heap) : Prop :=
  al H (Obj.cells #[Value.int IntKind.i64 x1] 3) (fun r1 H2 =>
  nz x0 (fun a3 =>
  ld H2 (Addr.add a3 1) (fun v4 =>
  dSl v4 (fun p5 r6 r7 =>
  HCalls Tryz.prog 149 #[Value.slice p5 r6 r7, Value.func (Fn.func 150) #[] #[Value.pointer (some (Addr.mk r1 0 none))]] H2 (Sp.retK (fun v8 H9 =>
  dInt IntKind.i64 v8 (fun n10 =>
  R (Ending.returned (Value.int IntKind.i64 n10)) H9)) (pnR R))))))
theorem F90_eq (x0 : Option Addr) (x1 : Int) (R : Ending → Heap → Prop) (H : Heap) : F90 x0 x1 R H = vc Tryz.prog (codeOf Tryz.f90) .leaf (postV Tryz.prog Tryz.f90 R) ⟨#[Value.pointer x0, Value.int IntKind.i64 x1] ++ Array.replicate (Tryz.f90.ntmps - 2) undef, []⟩ H := by kernel_rfl
theorem F90_calls {R : Ending → Heap → Prop} {H : Heap} (x0 : Option Addr) (x1 : Int) (h : F90 x0 x1 R H) : HCalls Tryz.prog 90 #[Value.pointer x0, Value.int IntKind.i64 x1] H R :=
  calls_by (F := F90 x0 x1 R H) .leaf Tryz.func90 rfl (F90_eq x0 x1 R H) h
/-- bollard/disk.image -/
def F91 (x0a : Option Addr) (x0n : Nat) (x0c : Nat) (R : Ending → Heap → Prop) (H : Heap) : Prop :=
  ∃ I1 : List Value → Heap → Prop,
  ∃ I2 : List Value → Heap → Nat,
  (I1 ([Value.slice none 0 0, Value.int IntKind.i64 0]) H) ∧
  ∀ p3 : Option Addr,
  ∀ r4 : Nat,
  ∀ r5 : Nat,
  ∀ n6 : Int,
  ∀ v7 v8 v9 v10 v11 v12 v13 v14 v15 v16 : Value,
  ∀ H17 : Heap,
  (I1 ([Value.slice p3 r4 r5, Value.int IntKind.i64 n6]) H17) →
  sB (decide (n6 < (↑x0n : Int))) (nz x0a (fun a19 =>
  ask ((0 : Int) ≤ n6 ∧ n6 < (↑x0n : Int)) (ld H17 (Addr.add a19 (Int.toNat n6 * 1)) (fun v20 =>
  dSl v20 (fun p21 r22 r23 =>
  HCalls Tryz.prog 48 #[Value.slice p21 r22 r23] H17 (Sp.retK (fun v24 H25 =>
  dSl v24 (fun p26 r27 r28 =>
  al H25 (Obj.cells #[Value.slice p26 r27 r28] 38) (fun r29 H30 =>
  semW Tryz.prog (Builtin.append_ #[42, 42] 42 #[Value.slice p3 r4 r5, Value.slice (some (Addr.mk r29 0 none)) 1 1]) (pnR R) H30 (fun v33 H34 =>
  dSl v33 (fun p35 r36 r37 =>
  wr IntKind.i64 (n6 + 1) (fun n38 =>
  (I1 ([Value.slice p35 r36 r37, Value.int IntKind.i64 n38]) H34) ∧
  (I2 [Value.slice p35 r36 r37, Value.int IntKind.i64 n38] H34) < (I2 [Value.slice p3 r4 r5, Value.int IntKind.i64 n6] H17))))))) (pnR R))))))) (R (Ending.returned (Value.slice p3 r4 r5)) H17)
theorem F91_eq (x0a : Option Addr) (x0n : Nat) (x0c : Nat) (R : Ending → Heap → Prop) (H : Heap) : F91 x0a x0n x0c R H = vc Tryz.prog (codeOf Tryz.f91) (.node none .leaf (.node none .leaf (.node none (.node none .leaf (.node none (.node (some ⟨[(3, 42), (8, 3)], [5, 9, 10, 11, 12, 13, 14, 15, 16, 17]⟩) .leaf .leaf) .leaf)) .leaf))) (postV Tryz.prog Tryz.f91 R) ⟨#[Value.slice x0a x0n x0c] ++ Array.replicate (Tryz.f91.ntmps - 1) undef, []⟩ H := by kernel_rfl
theorem F91_calls {R : Ending → Heap → Prop} {H : Heap} (x0a : Option Addr) (x0n : Nat) (x0c : Nat) (h : F91 x0a x0n x0c R H) : HCalls Tryz.prog 91 #[Value.slice x0a x0n x0c] H R :=
  calls_by (F := F91 x0a x0n x0c R H) (.node none .leaf (.node none .leaf (.node none (.node none .leaf (.node none (.node (some ⟨[(3, 42), (8, 3)], [5, 9, 10, 11, 12, 13, 14, 15, 16, 17]⟩) .leaf .leaf) .leaf)) .leaf))) Tryz.func91 rfl (F91_eq x0a x0n x0c R H) h
/-- bollard/bits.Count -/
def F92 (x0a : Option Addr) (x0n : Nat) (x0c : Nat) (x1 : Int) (R : Ending → Heap → Prop) (H : Heap) : Prop :=
  HCalls Tryz.prog 151 #[Value.int IntKind.i64 x1] H (Sp.retK (fun v1 H2 =>
  dInt IntKind.i64 v1 (fun n3 =>
  ∃ I4 : List Value → Heap → Prop,
  ∃ I5 : List Value → Heap → Nat,
  (I4 ([Value.int IntKind.i64 0, Value.int IntKind.i64 0]) H2) ∧
  ∀ n6 : Int,
  ∀ n7 : Int,
  ∀ v8 v9 v10 v11 v12 v13 v14 v15 v16 : Value,
  ∀ H17 : Heap,
  (I4 ([Value.int IntKind.i64 n6, Value.int IntKind.i64 n7]) H17) →
  sB (decide (n7 < n3)) (jn (α := VFH 1) (fun v19 H20 =>
  ∀ v21 v22 v23 v24 v25 v26 v27 : Value,
  dInt IntKind.i64 v19 (fun n28 =>
  wr IntKind.i64 (n7 + 1) (fun n29 =>
  (I4 ([Value.int IntKind.i64 n28, Value.int IntKind.i64 n29]) H20) ∧
  (I5 [Value.int IntKind.i64 n28, Value.int IntKind.i64 n29] H20) < (I5 [Value.int IntKind.i64 n6, Value.int IntKind.i64 n7] H17)))) (fun k30 =>
  HCalls Tryz.prog 152 #[Value.slice x0a x0n x0c, Value.int IntKind.i64 n7] H17 (Sp.retK (fun v31 H32 =>
  dBl v31 (fun b33 =>
  sB b33 (wr IntKind.i64 (n6 + 1) (fun n34 =>
  k30 (Value.int IntKind.i64 n34) H32)) (k30 (Value.int IntKind.i64 n6) H32))) (pnR R)))) (R (Ending.returned (Value.int IntKind.i64 n6)) H17))) (pnR R))
theorem F92_eq (x0a : Option Addr) (x0n : Nat) (x0c : Nat) (x1 : Int) (R : Ending → Heap → Prop) (H : Heap) : F92 x0a x0n x0c x1 R H = vc Tryz.prog (codeOf Tryz.f92) (.node none .leaf (.node none .leaf (.node none (.node none .leaf (.node none (.node (some ⟨[(5, 3), (9, 3)], [6, 10, 11, 12, 13, 14, 15, 16, 17]⟩) (.node none .leaf (.node none .leaf (.node (some ⟨[(5, 3)], [6, 11, 12, 13, 14, 15, 16]⟩) .leaf .leaf))) .leaf) .leaf)) .leaf))) (postV Tryz.prog Tryz.f92 R) ⟨#[Value.slice x0a x0n x0c, Value.int IntKind.i64 x1] ++ Array.replicate (Tryz.f92.ntmps - 2) undef, []⟩ H := by kernel_rfl
theorem F92_calls {R : Ending → Heap → Prop} {H : Heap} (x0a : Option Addr) (x0n : Nat) (x0c : Nat) (x1 : Int) (h : F92 x0a x0n x0c x1 R H) : HCalls Tryz.prog 92 #[Value.slice x0a x0n x0c, Value.int IntKind.i64 x1] H R :=
  calls_by (F := F92 x0a x0n x0c x1 R H) (.node none .leaf (.node none .leaf (.node none (.node none .leaf (.node none (.node (some ⟨[(5, 3), (9, 3)], [6, 10, 11, 12, 13, 14, 15, 16, 17]⟩) (.node none .leaf (.node none .leaf (.node (some ⟨[(5, 3)], [6, 11, 12, 13, 14, 15, 16]⟩) .leaf .leaf))) .leaf) .leaf)) .leaf))) Tryz.func92 rfl (F92_eq x0a x0n x0c x1 R H) h
/-- bollard/alloc.spare -/
def F93 (x0_0 : Value) (x0_1 : Value) (x0_2 : Value) (x1_0 : Value) (x1_1 : Value) (x1_2 : Value) (x1_3 : Value) (x1_4 : Value) (x1_5 : Value) (x1_6 : Value) (x1_7 : Value) (x1_8 : Value) (x1_9 : Value) (x1_10 : Value) (x1_11 : Value) (x1_12 : Value) (x1_13 : Value) (x1_14 : Value) (x1_15 : Value) (x1_16 : Value) (x1_17 : Value) (x1_18 : Value) (x1_19 : Value) (x1_20 : Value) (x1_21 : Value) (x1_22 : Value) (x1_23 : Value) (x1_24 : Value) (x1_25 : Value) (x1_26 : Value) (x1_27 : Value) (x1_28 : Value) (x1_29 : Value) (x1_30 : Value) (x1_31 : Value) (x1_32 : Value) (x1_33 : Value) (x1_34 : Value) (x1_35 : Value) (x1_36 : Value) (x1_37 : Value) (x1_38 : Value) (x1_39 : Value) (x1_40 : Value) (R : Ending → Heap → Prop) (H : Heap) : Prop :=
  al H (Obj.cells #[x0_0, x0_1, x0_2] 32) (fun r1 H2 =>
  al H2 (Obj.cells #[x1_0, x1_1, x1_2, x1_3, x1_4, x1_5, x1_6, x1_7, x1_8, x1_9, x1_10, x1_11, x1_12, x1_13, x1_14, x1_15, x1_16, x1_17, x1_18, x1_19, x1_20, x1_21, x1_22, x1_23, x1_24, x1_25, x1_26, x1_27, x1_28, x1_29, x1_30, x1_31, x1_32, x1_33, x1_34, x1_35, x1_36, x1_37, x1_38, x1_39, x1_40] 77) (fun r3 H4 =>
  ask ((0 : Int) ≤ (0 : Int) ∧ (0 : Int) ≤ (8 : Int) ∧ (8 : Int) ≤ (8 : Int) ∧ (8 : Int) ≤ (8 : Int)) (∃ I5 : List Value → Heap → Prop,
  ∃ I6 : List Value → Heap → Nat,
  (I5 ([Value.slice (slO (some (Addr.mk r3 1 none)) 1 0 8) (Int.toNat 8 - Int.toNat 0) (Int.toNat 8 - Int.toNat 0), Value.int IntKind.i64 0]) H4) ∧
  ∀ p7 : Option Addr,
  ∀ r8 : Nat,
  ∀ r9 : Nat,
  ∀ n10 : Int,
  ∀ v11 v12 v13 v14 v15 v16 v17 v18 v19 v20 v21 v22 v23 v24 v25 : Value,
  ∀ H26 : Heap,
  (I5 ([Value.slice p7 r8 r9, Value.int IntKind.i64 n10]) H26) →
  jn (α := VFH 1) (fun v28 H29 =>
  ∀ v30 v31 v32 v33 v34 v35 : Value,
  dBl v28 (fun b36 =>
  sB b36 (HCalls Tryz.prog 139 #[Value.slice p7 r8 r9, Value.int IntKind.i64 n10, Value.bool true] H29 (Sp.retK (fun v37 H38 =>
  dT 2 v37 (fun v39 v40 =>
  dSl v39 (fun p41 r42 r43 =>
  dInt IntKind.i64 v40 (fun n44 =>
  wr IntKind.i64 (n10 + 1) (fun n45 =>
  (I5 ([Value.slice p41 r42 r43, Value.int IntKind.i64 n45]) H38) ∧
  (I6 [Value.slice p41 r42 r43, Value.int IntKind.i64 n45] H38) < (I6 [Value.slice p7 r8 r9, Value.int IntKind.i64 n10] H26)))))) (pnR R))) (ld H29 (Addr.mk r1 2 none) (fun v48 =>
  dInt IntKind.i64 v48 (fun n49 =>
  HCalls Tryz.prog 138 #[Value.slice p7 r8 r9, Value.int IntKind.i64 n49, Value.int IntKind.i64 0] H29 (Sp.retK (fun v50 H51 =>
  dT 2 v50 (fun v52 v53 =>
  dInt IntKind.i64 v52 (fun n54 =>
  dBl v53 (fun b55 =>
  sB (!b55) (R (Ending.returned (Value.tuple #[Value.int IntKind.i64 0, Value.int IntKind.i64 0])) H51) (ld H51 (Addr.mk r1 2 none) (fun v56 =>
  dInt IntKind.i64 v56 (fun n57 =>
  ld H51 (Addr.mk r1 2 none) (fun v58 =>
  dInt IntKind.i64 v58 (fun n59 =>
  HCalls Tryz.prog 92 #[Value.slice p7 r8 r9, Value.int IntKind.i64 n59] H51 (Sp.retK (fun v60 H61 =>
  dInt IntKind.i64 v60 (fun n62 =>
  (ld H61 (Addr.mk r1 2 none) (fun v63 =>
  dInt IntKind.i64 v63 (fun n64 =>
  (Value.int IntKind.i64 n64) = (Value.int IntKind.i64 n57)))) ∧
  wr IntKind.i64 (n57 - n62) (fun n65 =>
  R (Ending.returned (Value.tuple #[Value.int IntKind.i64 n54, Value.int IntKind.i64 n65])) H61))) nopR)))))))))) (pnR R))))))) (fun k70 =>
  sB (decide (n10 < 2)) (ld H26 (Addr.mk r3 0 none) (fun v71 =>
  dInt IntKind.i64 v71 (fun n72 =>
  k70 (Value.bool (n72 == 0)) H26))) (k70 (Value.bool false) H26)))))
theorem F93_eq (x0_0 : Value) (x0_1 : Value) (x0_2 : Value) (x1_0 : Value) (x1_1 : Value) (x1_2 : Value) (x1_3 : Value) (x1_4 : Value) (x1_5 : Value) (x1_6 : Value) (x1_7 : Value) (x1_8 : Value) (x1_9 : Value) (x1_10 : Value) (x1_11 : Value) (x1_12 : Value) (x1_13 : Value) (x1_14 : Value) (x1_15 : Value) (x1_16 : Value) (x1_17 : Value) (x1_18 : Value) (x1_19 : Value) (x1_20 : Value) (x1_21 : Value) (x1_22 : Value) (x1_23 : Value) (x1_24 : Value) (x1_25 : Value) (x1_26 : Value) (x1_27 : Value) (x1_28 : Value) (x1_29 : Value) (x1_30 : Value) (x1_31 : Value) (x1_32 : Value) (x1_33 : Value) (x1_34 : Value) (x1_35 : Value) (x1_36 : Value) (x1_37 : Value) (x1_38 : Value) (x1_39 : Value) (x1_40 : Value) (R : Ending → Heap → Prop) (H : Heap) : F93 x0_0 x0_1 x0_2 x1_0 x1_1 x1_2 x1_3 x1_4 x1_5 x1_6 x1_7 x1_8 x1_9 x1_10 x1_11 x1_12 x1_13 x1_14 x1_15 x1_16 x1_17 x1_18 x1_19 x1_20 x1_21 x1_22 x1_23 x1_24 x1_25 x1_26 x1_27 x1_28 x1_29 x1_30 x1_31 x1_32 x1_33 x1_34 x1_35 x1_36 x1_37 x1_38 x1_39 x1_40 R H = vc Tryz.prog (codeOf Tryz.f93) (.node none .leaf (.node none .leaf (.node none (.node none .leaf (.node none (.node (some ⟨[(6, 38), (7, 3)], [12, 13, 14, 15, 16, 17, 18, 19, 20, 21, 22, 23, 24, 25, 26]⟩) (.node none (.node (some ⟨[(18, 4)], [12, 13, 14, 15, 16, 17]⟩) .leaf .leaf) .leaf) .leaf) .leaf)) .leaf))) (postV Tryz.prog Tryz.f93 R) ⟨#[Value.agg #[x0_0, x0_1, x0_2], Value.agg #[x1_0, x1_1, x1_2, x1_3, x1_4, x1_5, x1_6, x1_7, x1_8, x1_9, x1_10, x1_11, x1_12, x1_13, x1_14, x1_15, x1_16, x1_17, x1_18, x1_19, x1_20, x1_21, x1_22, x1_23, x1_24, x1_25, x1_26, x1_27, x1_28, x1_29, x1_30, x1_31, x1_32, x1_33, x1_34, x1_35, x1_36, x1_37, x1_38, x1_39, x1_40]] ++ Array.replicate (Tryz.f93.ntmps - 2) undef, []⟩ H := by kernel_rfl
theorem F93_calls {R : Ending → Heap → Prop} {H : Heap} (x0_0 : Value) (x0_1 : Value) (x0_2 : Value) (x1_0 : Value) (x1_1 : Value) (x1_2 : Value) (x1_3 : Value) (x1_4 : Value) (x1_5 : Value) (x1_6 : Value) (x1_7 : Value) (x1_8 : Value) (x1_9 : Value) (x1_10 : Value) (x1_11 : Value) (x1_12 : Value) (x1_13 : Value) (x1_14 : Value) (x1_15 : Value) (x1_16 : Value) (x1_17 : Value) (x1_18 : Value) (x1_19 : Value) (x1_20 : Value) (x1_21 : Value) (x1_22 : Value) (x1_23 : Value) (x1_24 : Value) (x1_25 : Value) (x1_26 : Value) (x1_27 : Value) (x1_28 : Value) (x1_29 : Value) (x1_30 : Value) (x1_31 : Value) (x1_32 : Value) (x1_33 : Value) (x1_34 : Value) (x1_35 : Value) (x1_36 : Value) (x1_37 : Value) (x1_38 : Value) (x1_39 : Value) (x1_40 : Value) (h : F93 x0_0 x0_1 x0_2 x1_0 x1_1 x1_2 x1_3 x1_4 x1_5 x1_6 x1_7 x1_8 x1_9 x1_10 x1_11 x1_12 x1_13 x1_14 x1_15 x1_16 x1_17 x1_18 x1_19 x1_20 x1_21 x1_22 x1_23 x1_24 x1_25 x1_26 x1_27 x1_28 x1_29 x1_30 x1_31 x1_32 x1_33 x1_34 x1_35 x1_36 x1_37 x1_38 x1_39 x1_40 R H) : HCalls Tryz.prog 93 #[Value.agg #[x0_0, x0_1, x0_2], Value.agg #[x1_0, x1_1, x1_2, x1_3, x1_4, x1_5, x1_6, x1_7, x1_8, x1_9, x1_10, x1_11, x1_12, x1_13, x1_14, x1_15, x1_16, x1_17, x1_18, x1_19, x1_20, x1_21, x1_22, x1_23, x1_24, x1_25, x1_26, x1_27, x1_28, x1_29, x1_30, x1_31, x1_32, x1_33, x1_34, x1_35, x1_36, x1_37, x1_38, x1_39, x1_40]] H R :=
  calls_by (F := F93 x0_0 x0_1 x0_2 x1_0 x1_1 x1_2 x1_3 x1_4 x1_5 x1_6 x1_7 x1_8 x1_9 x1_10 x1_11 x1_12 x1_13 x1_14 x1_15 x1_16 x1_17 x1_18 x1_19 x1_20 x1_21 x1_22 x1_23 x1_24 x1_25 x1_26 x1_27 x1_28 x1_29 x1_30 x1_31 x1_32 x1_33 x1_34 x1_35 x1_36 x1_37 x1_38 x1_39 x1_40 R H) (.node none .leaf (.node none .leaf (.node none (.node none .leaf (.node none (.node (some ⟨[(6, 38), (7, 3)], [12, 13, 14, 15, 16, 17, 18, 19, 20, 21, 22, 23, 24, 25, 26]⟩) (.node none (.node (some ⟨[(18, 4)], [12, 13, 14, 15, 16, 17]⟩) .leaf .leaf) .leaf) .leaf) .leaf)) .leaf))) Tryz.func93 rfl (F93_eq x0_0 x0_1 x0_2 x1_0 x1_1 x1_2 x1_3 x1_4 x1_5 x1_6 x1_7 x1_8 x1_9 x1_10 x1_11 x1_12 x1_13 x1_14 x1_15 x1_16 x1_17 x1_18 x1_19 x1_20 x1_21 x1_22 x1_23 x1_24 x1_25 x1_26 x1_27 x1_28 x1_29 x1_30 x1_31 x1_32 x1_33 x1_34 x1_35 x1_36 x1_37 x1_38 x1_39 x1_40 R H) h
/-- bollard/geom.IsData -/
def F94 (x0_0 : Value) (x0_1 : Value) (x0_2 : Value) (x1 : Int) (R : Ending → Heap → Prop) (H : Heap) : Prop :=
  al H (Obj.cells #[x0_0, x0_1, x0_2] 32) (fun r1 H2 =>
  ld H2 (Addr.mk r1 0 none) (fun v3 =>
  ld H2 (Addr.mk r1 1 none) (fun v4 =>
  ld H2 (Addr.mk r1 2 none) (fun v5 =>
  HCalls Tryz.prog 78 #[Value.agg #[v3, v4, v5], Value.int IntKind.i64 x1] H2 (Sp.retK (fun v6 H7 =>
  dT 3 v6 (fun v8 v9 v10 =>
  dInt IntKind.i64 v8 (fun n11 =>
  dInt IntKind.i64 v9 (fun n12 =>
  dBl v10 (fun b13 =>
  sB b13 (ld H7 (Addr.mk r1 0 none) (fun v14 =>
  ld H7 (Addr.mk r1 1 none) (fun v15 =>
  ld H7 (Addr.mk r1 2 none) (fun v16 =>
  HCalls Tryz.prog 116 #[Value.agg #[v14, v15, v16]] H7 (Sp.retK (fun v17 H18 =>
  dInt IntKind.i64 v17 (fun n19 =>
  R (Ending.returned (Value.bool (decide (n12 ≥ n19)))) H18)) (pnR R)))))) (R (Ending.returned (Value.bool false)) H7)))))) (pnR R))))))
theorem F94_eq (x0_0 : Value) (x0_1 : Value) (x0_2 : Value) (x1 : Int) (R : Ending → Heap → Prop) (H : Heap) : F94 x0_0 x0_1 x0_2 x1 R H = vc Tryz.prog (codeOf Tryz.f94) .leaf (postV Tryz.prog Tryz.f94 R) ⟨#[Value.agg #[x0_0, x0_1, x0_2], Value.int IntKind.i64 x1] ++ Array.replicate (Tryz.f94.ntmps - 2) undef, []⟩ H := by kernel_rfl
theorem F94_calls {R : Ending → Heap → Prop} {H : Heap} (x0_0 : Value) (x0_1 : Value) (x0_2 : Value) (x1 : Int) (h : F94 x0_0 x0_1 x0_2 x1 R H) : HCalls Tryz.prog 94 #[Value.agg #[x0_0, x0_1, x0_2], Value.int IntKind.i64 x1] H R :=
  calls_by (F := F94 x0_0 x0_1 x0_2 x1 R H) .leaf Tryz.func94 rfl (F94_eq x0_0 x0_1 x0_2 x1 R H) h
/-- bollard/disk.Of -/
def F97 (x0a : Option Addr) (x0n : Nat) (x0c : Nat) (R : Ending → Heap → Prop) (H : Heap) : Prop :=
  jn (α := VFH 1) (fun v1 H2 =>
  ∀ v3 v4 v5 v6 v7 v8 v9 v10 v11 v12 v13 v14 : Value,
  dBl v1 (fun b15 =>
  sB b15 (R (Ending.returned (Value.tuple #[Value.pointer none, Value.int IntKind.i64 1])) H2) (HCalls Tryz.prog 91 #[Value.slice x0a x0n x0c] H2 (Sp.retK (fun v16 H17 =>
  dSl v16 (fun p18 r19 r20 =>
  al H17 (Obj.map #[] 0) (fun r21 H22 =>
  al H22 (Obj.cells #[Value.slice p18 r19 r20, Value.slice none 0 0, Value.map (some r21), Value.int IntKind.i64 0] 133) (fun r23 H24 =>
  R (Ending.returned (Value.tuple #[Value.pointer (some (Addr.mk r23 0 none)), Value.int IntKind.i64 0])) H24)))) (pnR R))))) (fun k27 =>
  sB (decide ((↑x0n : Int) < 1)) (k27 (Value.bool true) H) (sB (decide ((↑x0n : Int) > 2048)) (k27 (Value.bool true) H) (HCalls Tryz.prog 154 #[Value.slice x0a x0n x0c, Value.func (Fn.func 153) #[] #[]] H (Sp.retK (fun v28 H29 =>
  dBl v28 (fun b30 =>
  k27 (Value.bool b30) H29)) (pnR R)))))
theorem F97_eq (x0a : Option Addr) (x0n : Nat) (x0c : Nat) (R : Ending → Heap → Prop) (H : Heap) : F97 x0a x0n x0c R H = vc Tryz.prog (codeOf Tryz.f97) (.node none .leaf (.node none .leaf (.node none (.node (some ⟨[(17, 4)], [5, 6, 7, 8, 9, 10, 11, 12, 13, 14, 15, 16]⟩) .leaf .leaf) .leaf))) (postV Tryz.prog Tryz.f97 R) ⟨#[Value.slice x0a x0n x0c] ++ Array.replicate (Tryz.f97.ntmps - 1) undef, []⟩ H := by kernel_rfl
theorem F97_calls {R : Ending → Heap → Prop} {H : Heap} (x0a : Option Addr) (x0n : Nat) (x0c : Nat) (h : F97 x0a x0n x0c R H) : HCalls Tryz.prog 97 #[Value.slice x0a x0n x0c] H R :=
  calls_by (F := F97 x0a x0n x0c R H) (.node none .leaf (.node none .leaf (.node none (.node (some ⟨[(17, 4)], [5, 6, 7, 8, 9, 10, 11, 12, 13, 14, 15, 16]⟩) .leaf .leaf) .leaf))) Tryz.func97 rfl (F97_eq x0a x0n x0c R H) h
/-- bollard/bollardlaw09.blocks -/
def F98 (x0 : Int) (R : Ending → Heap → Prop) (H : Heap) : Prop :=
  wr IntKind.u64 x0 (fun n1 =>
  ask ((8 : Int) ≠ (0 : Int)) (nm (Int.tmod n1 8) (fun n2 =>
  wr IntKind.i64 n2 (fun n3 =>
  wr IntKind.i64 (1 + n3) (fun n4 =>
  ∃ I5 : List Value → Heap → Prop,
  ∃ I6 : List Value → Heap → Nat,
  (I5 ([Value.slice none 0 0, Value.int IntKind.i64 0]) H) ∧
  ∀ p7 : Option Addr,
  ∀ r8 : Nat,
  ∀ r9 : Nat,
  ∀ n10 : Int,
  ∀ v11 v12 v13 v14 v15 v16 v17 v18 v19 v20 v21 v22 : Value,
  ∀ H23 : Heap,
  (I5 ([Value.slice p7 r8 r9, Value.int IntKind.i64 n10]) H23) →
  sB (decide (n10 < n4)) (wr IntKind.i64 (n10 + 1) (fun n25 =>
  wr IntKind.u8 n25 (fun n26 =>
  al H23 (Obj.cells #[Value.int IntKind.u8 n26] 5) (fun r27 H28 =>
  HCalls Tryz.prog 155 #[Value.slice (some (Addr.mk r27 0 none)) 1 1, Value.int IntKind.i64 128] H28 (Sp.retK (fun v29 H30 =>
  dSl v29 (fun p31 r32 r33 =>
  al H30 (Obj.cells #[Value.slice p31 r32 r33] 38) (fun r34 H35 =>
  semW Tryz.prog (Builtin.append_ #[42, 42] 42 #[Value.slice p7 r8 r9, Value.slice (some (Addr.mk r34 0 none)) 1 1]) (pnR R) H35 (fun v38 H39 =>
  dSl v38 (fun p40 r41 r42 =>
  wr IntKind.i64 (n10 + 1) (fun n43 =>
  (I5 ([Value.slice p40 r41 r42, Value.int IntKind.i64 n43]) H39) ∧
  (I6 [Value.slice p40 r41 r42, Value.int IntKind.i64 n43] H39) < (I6 [Value.slice p7 r8 r9, Value.int IntKind.i64 n10] H23))))))) (pnR R)))))) (R (Ending.returned (Value.slice p7 r8 r9)) H23))))))
theorem F98_eq (x0 : Int) (R : Ending → Heap → Prop) (H : Heap) : F98 x0 R H = vc Tryz.prog (codeOf Tryz.f98) (.node none .leaf (.node none .leaf (.node none (.node none .leaf (.node none (.node (some ⟨[(3, 42), (10, 3)], [4, 11, 12, 13, 14, 15, 16, 17, 18, 19, 20, 21]⟩) .leaf .leaf) .leaf)) .leaf))) (postV Tryz.prog Tryz.f98 R) ⟨#[Value.int IntKind.i64 x0] ++ Array.replicate (Tryz.f98.ntmps - 1) undef, []⟩ H := by kernel_rfl
theorem F98_calls {R : Ending → Heap → Prop} {H : Heap} (x0 : Int) (h : F98 x0 R H) : HCalls Tryz.prog 98 #[Value.int IntKind.i64 x0] H R :=
  calls_by (F := F98 x0 R H) (.node none .leaf (.node none .leaf (.node none (.node none .leaf (.node none (.node (some ⟨[(3, 42), (10, 3)], [4, 11, 12, 13, 14, 15, 16, 17, 18, 19, 20, 21]⟩) .leaf .leaf) .leaf)) .leaf))) Tryz.func98 rfl (F98_eq x0 R H) h
end Go.Proofs.YtngploohhmfaiaaGreat.E
