/- My own texts, joined. -/
import Derived.KernelRfl
import Derived.Test.YtngploohhmfaiaaGreatProg
import Derived.Test.YtngploohhmfaiaaGreatAr4
/- The functions' forms in the engine's words, printed by my own program. -/
namespace Go.Proofs.YtngploohhmfaiaaGreat.E
open Go Go.Proofs
set_option linter.unusedVariables false
/-- bollard/alloc.ready -/
def F74 (x0 : Option Addr) (x1_0 : Value) (x1_1 : Value) (x1_2 : Value) (R : Ending → Heap → Prop) (H : Heap) : Prop :=
  al H (Obj.cells #[x1_0, x1_1, x1_2] 32) (fun r1 H2 =>
  HCalls Tryz.prog 52 #[Value.pointer x0] H2 (Sp.retK (fun v3 H4 =>
  dInt IntKind.i64 v3 (fun n5 =>
  HCalls Tryz.prog 54 #[Value.pointer x0, Value.int IntKind.i64 n5] H4 (Sp.retK (fun v6 H7 =>
  dInt IntKind.i64 v6 (fun n8 =>
  sB (n8 == 2) (R (Ending.returned (Value.int IntKind.i64 2)) H7) (ld H7 (Addr.mk r1 0 none) (fun v9 =>
  ld H7 (Addr.mk r1 1 none) (fun v10 =>
  ld H7 (Addr.mk r1 2 none) (fun v11 =>
  HCalls Tryz.prog 65 #[Value.agg #[v9, v10, v11]] H7 (Sp.retK (fun v12 H13 =>
  dInt IntKind.i64 v12 (fun n14 =>
  jn (α := VFH 1) (fun v15 H16 =>
  ∀ v17 v18 v19 v20 v21 v22 v23 v24 v25 : Value,
  dInt IntKind.i64 v15 (fun n26 =>
  R (Ending.returned (Value.int IntKind.i64 n26)) H16)) (fun k27 =>
  jn (α := VFH 1) (fun v28 H29 =>
  ∀ v30 v31 v32 v33 v34 v35 v36 v37 : Value,
  dBl v28 (fun b38 =>
  sB b38 (k27 (Value.int IntKind.i64 170) H29) (k27 (Value.int IntKind.i64 n14) H29))) (fun k39 =>
  sB (n14 == 0) (ld H13 (Addr.mk r1 0 none) (fun v40 =>
  ld H13 (Addr.mk r1 1 none) (fun v41 =>
  ld H13 (Addr.mk r1 2 none) (fun v42 =>
  HCalls Tryz.prog 24 #[Value.pointer x0] H13 (Sp.retK (fun v43 H44 =>
  dInt IntKind.i64 v43 (fun n45 =>
  (ld H44 (Addr.mk r1 0 none) (fun v46 =>
  ld H44 (Addr.mk r1 1 none) (fun v47 =>
  ld H44 (Addr.mk r1 2 none) (fun v48 =>
  (Value.agg #[v46, v47, v48]) = (Value.agg #[v40, v41, v42]))))) ∧
  HCalls Tryz.prog 64 #[Value.agg #[v40, v41, v42]] H44 (Sp.retK (fun v49 H50 =>
  dInt IntKind.i64 v49 (fun n51 =>
  k39 (Value.bool (decide (n45 < n51))) H50)) nopR))) nopR))))) (k39 (Value.bool false) H13))))) (pnR R)))))))) (pnR R)))) (pnR R)))
theorem F74_eq (x0 : Option Addr) (x1_0 : Value) (x1_1 : Value) (x1_2 : Value) (R : Ending → Heap → Prop) (H : Heap) : F74 x0 x1_0 x1_1 x1_2 R H = vc Tryz.prog (codeOf Tryz.f74) (.node none .leaf (.node none .leaf (.node none .leaf (.node (some ⟨[(5, 39)], [13, 14, 15, 16, 17, 18, 19, 20, 21]⟩) (.node (some ⟨[(21, 4)], [13, 14, 15, 16, 17, 18, 19, 20]⟩) .leaf .leaf) .leaf)))) (postV Tryz.prog Tryz.f74 R) ⟨#[Value.pointer x0, Value.agg #[x1_0, x1_1, x1_2]] ++ Array.replicate (Tryz.f74.ntmps - 2) undef, []⟩ H := by kernel_rfl
theorem F74_calls {R : Ending → Heap → Prop} {H : Heap} (x0 : Option Addr) (x1_0 : Value) (x1_1 : Value) (x1_2 : Value) (h : F74 x0 x1_0 x1_1 x1_2 R H) : HCalls Tryz.prog 74 #[Value.pointer x0, Value.agg #[x1_0, x1_1, x1_2]] H R :=
  calls_by (F := F74 x0 x1_0 x1_1 x1_2 R H) (.node none .leaf (.node none .leaf (.node none .leaf (.node (some ⟨[(5, 39)], [13, 14, 15, 16, 17, 18, 19, 20, 21]⟩) (.node (some ⟨[(21, 4)], [13, 14, 15, 16, 17, 18, 19, 20]⟩) .leaf .leaf) .leaf)))) Tryz.func74 rfl (F74_eq x0 x1_0 x1_1 x1_2 R H) h
/-- bollard/alloc.around -/
def F76 (x0_0 : Value) (x0_1 : Value) (x0_2 : Value) (x1 : Int) (R : Ending → Heap → Prop) (H : Heap) : Prop :=
  al H (Obj.cells #[x0_0, x0_1, x0_2] 32) (fun r1 H2 =>
  ld H2 (Addr.mk r1 0 none) (fun v3 =>
  dInt IntKind.i64 v3 (fun n4 =>
  ∃ I5 : List Value → Heap → Prop,
  ∃ I6 : List Value → Heap → Nat,
  (I5 ([Value.slice none 0 0, Value.int IntKind.i64 0]) H2) ∧
  ∀ p7 : Option Addr,
  ∀ r8 : Nat,
  ∀ r9 : Nat,
  ∀ n10 : Int,
  ∀ v11 v12 v13 v14 v15 v16 v17 v18 v19 v20 v21 v22 v23 : Value,
  ∀ H24 : Heap,
  (I5 ([Value.slice p7 r8 r9, Value.int IntKind.i64 n10]) H24) →
  sB (decide (n10 < n4)) (wr IntKind.i64 (x1 + n10) (fun n26 =>
  ld H24 (Addr.mk r1 0 none) (fun v27 =>
  dInt IntKind.i64 v27 (fun n28 =>
  ask (n28 ≠ (0 : Int)) (nm (Int.tmod n26 n28) (fun n29 =>
  al H24 (Obj.cells #[Value.int IntKind.i64 n29] 3) (fun r30 H31 =>
  semW Tryz.prog (Builtin.append_ #[73, 73] 73 #[Value.slice p7 r8 r9, Value.slice (some (Addr.mk r30 0 none)) 1 1]) (pnR R) H31 (fun v34 H35 =>
  dSl v34 (fun p36 r37 r38 =>
  wr IntKind.i64 (n10 + 1) (fun n39 =>
  (I5 ([Value.slice p36 r37 r38, Value.int IntKind.i64 n39]) H35) ∧
  (I6 [Value.slice p36 r37 r38, Value.int IntKind.i64 n39] H35) < (I6 [Value.slice p7 r8 r9, Value.int IntKind.i64 n10] H24))))))))))) (R (Ending.returned (Value.slice p7 r8 r9)) H24))))
theorem F76_eq (x0_0 : Value) (x0_1 : Value) (x0_2 : Value) (x1 : Int) (R : Ending → Heap → Prop) (H : Heap) : F76 x0_0 x0_1 x0_2 x1 R H = vc Tryz.prog (codeOf Tryz.f76) (.node none .leaf (.node none .leaf (.node none (.node none .leaf (.node none (.node (some ⟨[(5, 73), (9, 3)], [6, 10, 11, 12, 13, 14, 15, 16, 17, 18, 19, 20, 21]⟩) .leaf .leaf) .leaf)) .leaf))) (postV Tryz.prog Tryz.f76 R) ⟨#[Value.agg #[x0_0, x0_1, x0_2], Value.int IntKind.i64 x1] ++ Array.replicate (Tryz.f76.ntmps - 2) undef, []⟩ H := by kernel_rfl
theorem F76_calls {R : Ending → Heap → Prop} {H : Heap} (x0_0 : Value) (x0_1 : Value) (x0_2 : Value) (x1 : Int) (h : F76 x0_0 x0_1 x0_2 x1 R H) : HCalls Tryz.prog 76 #[Value.agg #[x0_0, x0_1, x0_2], Value.int IntKind.i64 x1] H R :=
  calls_by (F := F76 x0_0 x0_1 x0_2 x1 R H) (.node none .leaf (.node none .leaf (.node none (.node none .leaf (.node none (.node (some ⟨[(5, 73), (9, 3)], [6, 10, 11, 12, 13, 14, 15, 16, 17, 18, 19, 20, 21]⟩) .leaf .leaf) .leaf)) .leaf))) Tryz.func76 rfl (F76_eq x0_0 x0_1 x0_2 x1 R H) h
/-- bollard/geom.Data -/
def F77 (x0_0 : Value) (x0_1 : Value) (x0_2 : Value) (x1 : Int) (R : Ending → Heap → Prop) (H : Heap) : Prop :=
  al H (Obj.cells #[x0_0, x0_1, x0_2] 32) (fun r1 H2 =>
  ld H2 (Addr.mk r1 0 none) (fun v3 =>
  ld H2 (Addr.mk r1 1 none) (fun v4 =>
  ld H2 (Addr.mk r1 2 none) (fun v5 =>
  ld H2 (Addr.mk r1 0 none) (fun v6 =>
  ld H2 (Addr.mk r1 1 none) (fun v7 =>
  ld H2 (Addr.mk r1 2 none) (fun v8 =>
  HCalls Tryz.prog 116 #[Value.agg #[v6, v7, v8]] H2 (Sp.retK (fun v9 H10 =>
  dInt IntKind.i64 v9 (fun n11 =>
  (ld H10 (Addr.mk r1 0 none) (fun v12 =>
  ld H10 (Addr.mk r1 1 none) (fun v13 =>
  ld H10 (Addr.mk r1 2 none) (fun v14 =>
  (Value.agg #[v12, v13, v14]) = (Value.agg #[v3, v4, v5]))))) ∧
  HCalls Tryz.prog 136 #[Value.agg #[v3, v4, v5], Value.int IntKind.i64 x1, Value.int IntKind.i64 n11] H10 (Sp.retK (fun v15 H16 =>
  dT 2 v15 (fun v17 v18 =>
  dInt IntKind.i64 v17 (fun n19 =>
  dBl v18 (fun b20 =>
  sB (!b20) (R (Ending.returned (Value.tuple #[Value.int IntKind.i64 0, Value.int IntKind.i64 0, Value.bool false])) H16) (ld H16 (Addr.mk r1 1 none) (fun v21 =>
  dInt IntKind.i64 v21 (fun n22 =>
  ld H16 (Addr.mk r1 0 none) (fun v23 =>
  ld H16 (Addr.mk r1 1 none) (fun v24 =>
  ld H16 (Addr.mk r1 2 none) (fun v25 =>
  HCalls Tryz.prog 116 #[Value.agg #[v23, v24, v25]] H16 (Sp.retK (fun v26 H27 =>
  dInt IntKind.i64 v26 (fun n28 =>
  (ld H27 (Addr.mk r1 1 none) (fun v29 =>
  dInt IntKind.i64 v29 (fun n30 =>
  (Value.int IntKind.i64 n30) = (Value.int IntKind.i64 n22)))) ∧
  wr IntKind.i64 (n22 - n28) (fun n31 =>
  R (Ending.returned (Value.tuple #[Value.int IntKind.i64 n19, Value.int IntKind.i64 n31, Value.bool true])) H27))) nopR))))))))))) nopR))) nopR))))))))
theorem F77_eq (x0_0 : Value) (x0_1 : Value) (x0_2 : Value) (x1 : Int) (R : Ending → Heap → Prop) (H : Heap) : F77 x0_0 x0_1 x0_2 x1 R H = vc Tryz.prog (codeOf Tryz.f77) .leaf (postV Tryz.prog Tryz.f77 R) ⟨#[Value.agg #[x0_0, x0_1, x0_2], Value.int IntKind.i64 x1] ++ Array.replicate (Tryz.f77.ntmps - 2) undef, []⟩ H := by kernel_rfl
theorem F77_calls {R : Ending → Heap → Prop} {H : Heap} (x0_0 : Value) (x0_1 : Value) (x0_2 : Value) (x1 : Int) (h : F77 x0_0 x0_1 x0_2 x1 R H) : HCalls Tryz.prog 77 #[Value.agg #[x0_0, x0_1, x0_2], Value.int IntKind.i64 x1] H R :=
  calls_by (F := F77 x0_0 x0_1 x0_2 x1 R H) .leaf Tryz.func77 rfl (F77_eq x0_0 x0_1 x0_2 x1 R H) h
/-- bollard/geom.Group -/
def F78 (x0_0 : Value) (x0_1 : Value) (x0_2 : Value) (x1 : Int) (R : Ending → Heap → Prop) (H : Heap) : Prop :=
  al H (Obj.cells #[x0_0, x0_1, x0_2] 32) (fun r1 H2 =>
  ld H2 (Addr.mk r1 1 none) (fun v3 =>
  dInt IntKind.i64 v3 (fun n4 =>
  ld H2 (Addr.mk r1 0 none) (fun v5 =>
  ld H2 (Addr.mk r1 1 none) (fun v6 =>
  ld H2 (Addr.mk r1 2 none) (fun v7 =>
  HCalls Tryz.prog 64 #[Value.agg #[v5, v6, v7]] H2 (Sp.retK (fun v8 H9 =>
  dInt IntKind.i64 v8 (fun n10 =>
  (ld H9 (Addr.mk r1 1 none) (fun v11 =>
  dInt IntKind.i64 v11 (fun n12 =>
  (Value.int IntKind.i64 n12) = (Value.int IntKind.i64 n4)))) ∧
  HCalls Tryz.prog 137 #[Value.int IntKind.i64 x1, Value.int IntKind.i64 n4, Value.int IntKind.i64 n10] H9 (Sp.retK (fun v13 H14 =>
  dT 3 v13 (fun v15 v16 v17 =>
  dInt IntKind.i64 v15 (fun n18 =>
  dInt IntKind.i64 v16 (fun n19 =>
  dBl v17 (fun b20 =>
  R (Ending.returned (Value.tuple #[Value.int IntKind.i64 n18, Value.int IntKind.i64 n19, Value.bool b20])) H14))))) nopR))) nopR)))))))
theorem F78_eq (x0_0 : Value) (x0_1 : Value) (x0_2 : Value) (x1 : Int) (R : Ending → Heap → Prop) (H : Heap) : F78 x0_0 x0_1 x0_2 x1 R H = vc Tryz.prog (codeOf Tryz.f78) .leaf (postV Tryz.prog Tryz.f78 R) ⟨#[Value.agg #[x0_0, x0_1, x0_2], Value.int IntKind.i64 x1] ++ Array.replicate (Tryz.f78.ntmps - 2) undef, []⟩ H := by kernel_rfl
theorem F78_calls {R : Ending → Heap → Prop} {H : Heap} (x0_0 : Value) (x0_1 : Value) (x0_2 : Value) (x1 : Int) (h : F78 x0_0 x0_1 x0_2 x1 R H) : HCalls Tryz.prog 78 #[Value.agg #[x0_0, x0_1, x0_2], Value.int IntKind.i64 x1] H R :=
  calls_by (F := F78 x0_0 x0_1 x0_2 x1 R H) .leaf Tryz.func78 rfl (F78_eq x0_0 x0_1 x0_2 x1 R H) h
/-- bollard/alloc.free -/
def F79 (x0a : Option Addr) (x0n : Nat) (x0c : Nat) (x1 : Int) (x2 : Int) (R : Ending → Heap → Prop) (H : Heap) : Prop :=
  HCalls Tryz.prog 138 #[Value.slice x0a x0n x0c, Value.int IntKind.i64 x2, Value.int IntKind.i64 x1] H (Sp.retK (fun v1 H2 =>
  dT 2 v1 (fun v3 v4 =>
  dInt IntKind.i64 v3 (fun n5 =>
  dBl v4 (fun b6 =>
  sB b6 (sB (decide (n5 ≥ x1)) (R (Ending.returned (Value.tuple #[Value.int IntKind.i64 n5, Value.bool (decide (x1 < x2))])) H2) (R (Ending.returned (Value.tuple #[Value.int IntKind.i64 n5, Value.bool false])) H2)) (R (Ending.returned (Value.tuple #[Value.int IntKind.i64 n5, Value.bool false])) H2))))) (pnR R))
theorem F79_eq (x0a : Option Addr) (x0n : Nat) (x0c : Nat) (x1 : Int) (x2 : Int) (R : Ending → Heap → Prop) (H : Heap) : F79 x0a x0n x0c x1 x2 R H = vc Tryz.prog (codeOf Tryz.f79) .leaf (postV Tryz.prog Tryz.f79 R) ⟨#[Value.slice x0a x0n x0c, Value.int IntKind.i64 x1, Value.int IntKind.i64 x2] ++ Array.replicate (Tryz.f79.ntmps - 3) undef, []⟩ H := by kernel_rfl
theorem F79_calls {R : Ending → Heap → Prop} {H : Heap} (x0a : Option Addr) (x0n : Nat) (x0c : Nat) (x1 : Int) (x2 : Int) (h : F79 x0a x0n x0c x1 x2 R H) : HCalls Tryz.prog 79 #[Value.slice x0a x0n x0c, Value.int IntKind.i64 x1, Value.int IntKind.i64 x2] H R :=
  calls_by (F := F79 x0a x0n x0c x1 x2 R H) .leaf Tryz.func79 rfl (F79_eq x0a x0n x0c x1 x2 R H) h
/-- bollard/alloc.turn -/
def F80 (x0 : Option Addr) (x1_0 : Value) (x1_1 : Value) (x1_2 : Value) (x2_0 : Value) (x2_1 : Value) (x2_2 : Value) (x2_3 : Value) (x2_4 : Value) (x2_5 : Value) (x2_6 : Value) (x2_7 : Value) (x2_8 : Value) (x2_9 : Value) (x2_10 : Value) (x2_11 : Value) (x2_12 : Value) (x2_13 : Value) (x2_14 : Value) (x2_15 : Value) (x2_16 : Value) (x2_17 : Value) (x2_18 : Value) (x2_19 : Value) (x2_20 : Value) (x2_21 : Value) (x2_22 : Value) (x2_23 : Value) (x2_24 : Value) (x2_25 : Value) (x2_26 : Value) (x2_27 : Value) (x2_28 : Value) (x2_29 : Value) (x2_30 : Value) (x2_31 : Value) (x2_32 : Value) (x2_33 : Value) (x2_34 : Value) (x2_35 : Value) (x2_36 : Value) (x2_37 : Value) (x2_38 : Value) (x2_39 : Value) (x2_40 : Value) (x3 : Int) (x4 : Int) (x5 : Bool) (x6a : Option Addr) (x6n : Nat) (x6c : Nat) (R : Ending → Heap → Prop) (H : Heap) : Prop :=
  al H (Obj.cells #[x1_0, x1_1, x1_2] 32) (fun r1 H2 =>
  al H2 (Obj.cells #[x2_0, x2_1, x2_2, x2_3, x2_4, x2_5, x2_6, x2_7, x2_8, x2_9, x2_10, x2_11, x2_12, x2_13, x2_14, x2_15, x2_16, x2_17, x2_18, x2_19, x2_20, x2_21, x2_22, x2_23, x2_24, x2_25, x2_26, x2_27, x2_28, x2_29, x2_30, x2_31, x2_32, x2_33, x2_34, x2_35, x2_36, x2_37, x2_38, x2_39, x2_40] 77) (fun r3 H4 =>
  ask ((0 : Int) ≤ (0 : Int) ∧ (0 : Int) ≤ (32 : Int) ∧ (32 : Int) ≤ (32 : Int) ∧ (32 : Int) ≤ (32 : Int)) (jn (α := VFH 1) (fun v5 H6 =>
  ∀ v7 v8 v9 v10 : Value,
  dSl v5 (fun p11 r12 r13 =>
  HCalls Tryz.prog 139 #[Value.slice p11 r12 r13, Value.int IntKind.i64 x4, Value.bool x5] H6 (Sp.retK (fun v14 H15 =>
  dT 2 v14 (fun v16 v17 =>
  dSl v16 (fun p18 r19 r20 =>
  dInt IntKind.i64 v17 (fun n21 =>
  sB (n21 != 0) (R (Ending.returned (Value.tuple #[Value.int IntKind.i64 0, Value.int IntKind.i64 n21])) H15) (ld H15 (Addr.mk r1 0 none) (fun v22 =>
  ld H15 (Addr.mk r1 1 none) (fun v23 =>
  ld H15 (Addr.mk r1 2 none) (fun v24 =>
  ld H15 (Addr.mk r3 0 none) (fun v25 =>
  dInt IntKind.i64 v25 (fun n26 =>
  HCalls Tryz.prog 134 #[Value.agg #[v22, v23, v24], Value.int IntKind.i64 n26] H15 (Sp.retK (fun v27 H28 =>
  dT 2 v27 (fun v29 v30 =>
  dInt IntKind.i64 v29 (fun n31 =>
  dBl v30 (fun b32 =>
  ask ((8 : Int) ≠ (0 : Int)) (wr IntKind.i64 (Int.tdiv x4 8) (fun n33 =>
  wr IntKind.i64 (x3 + n33) (fun n34 =>
  ask ((8 : Int) ≠ (0 : Int)) (wr IntKind.i64 (Int.tdiv x4 8) (fun n35 =>
  nz p18 (fun a36 =>
  ask ((0 : Int) ≤ n35 ∧ n35 < (↑r19 : Int)) (ld H28 (Addr.add a36 (Int.toNat n35 * 1)) (fun v37 =>
  dInt IntKind.u8 v37 (fun n38 =>
  al H28 (Obj.cells #[Value.int IntKind.u8 n38] 5) (fun r39 H40 =>
  HCalls Tryz.prog 25 #[Value.pointer x0, Value.int IntKind.i64 n31, Value.int IntKind.i64 n34, Value.slice (some (Addr.mk r39 0 none)) 1 1, Value.slice x6a x6n x6c] H40 (Sp.retK (fun v41 H42 =>
  dT 2 v41 (fun v43 v44 =>
  dInt IntKind.i64 v43 (fun n45 =>
  dInt IntKind.i64 v44 (fun n46 =>
  R (Ending.returned (Value.tuple #[Value.int IntKind.i64 n45, Value.int IntKind.i64 n46])) H42)))) (pnR R)))))))))))))))) (pnR R)))))))))))) (pnR R)))) (fun k53 =>
  sB (x3 == 4) (ask ((0 : Int) ≤ (0 : Int) ∧ (0 : Int) ≤ (8 : Int) ∧ (8 : Int) ≤ (8 : Int) ∧ (8 : Int) ≤ (8 : Int)) (k53 (Value.slice (slO (some (Addr.mk r3 1 none)) 1 0 8) (Int.toNat 8 - Int.toNat 0) (Int.toNat 8 - Int.toNat 0)) H4)) (k53 (Value.slice (slO (some (Addr.mk r3 9 none)) 1 0 32) (Int.toNat 32 - Int.toNat 0) (Int.toNat 32 - Int.toNat 0)) H4)))))
theorem F80_eq (x0 : Option Addr) (x1_0 : Value) (x1_1 : Value) (x1_2 : Value) (x2_0 : Value) (x2_1 : Value) (x2_2 : Value) (x2_3 : Value) (x2_4 : Value) (x2_5 : Value) (x2_6 : Value) (x2_7 : Value) (x2_8 : Value) (x2_9 : Value) (x2_10 : Value) (x2_11 : Value) (x2_12 : Value) (x2_13 : Value) (x2_14 : Value) (x2_15 : Value) (x2_16 : Value) (x2_17 : Value) (x2_18 : Value) (x2_19 : Value) (x2_20 : Value) (x2_21 : Value) (x2_22 : Value) (x2_23 : Value) (x2_24 : Value) (x2_25 : Value) (x2_26 : Value) (x2_27 : Value) (x2_28 : Value) (x2_29 : Value) (x2_30 : Value) (x2_31 : Value) (x2_32 : Value) (x2_33 : Value) (x2_34 : Value) (x2_35 : Value) (x2_36 : Value) (x2_37 : Value) (x2_38 : Value) (x2_39 : Value) (x2_40 : Value) (x3 : Int) (x4 : Int) (x5 : Bool) (x6a : Option Addr) (x6n : Nat) (x6c : Nat) (R : Ending → Heap → Prop) (H : Heap) : F80 x0 x1_0 x1_1 x1_2 x2_0 x2_1 x2_2 x2_3 x2_4 x2_5 x2_6 x2_7 x2_8 x2_9 x2_10 x2_11 x2_12 x2_13 x2_14 x2_15 x2_16 x2_17 x2_18 x2_19 x2_20 x2_21 x2_22 x2_23 x2_24 x2_25 x2_26 x2_27 x2_28 x2_29 x2_30 x2_31 x2_32 x2_33 x2_34 x2_35 x2_36 x2_37 x2_38 x2_39 x2_40 x3 x4 x5 x6a x6n x6c R H = vc Tryz.prog (codeOf Tryz.f80) (.node none .leaf (.node none .leaf (.node (some ⟨[(16, 38)], [23, 24, 25, 26]⟩) .leaf .leaf))) (postV Tryz.prog Tryz.f80 R) ⟨#[Value.pointer x0, Value.agg #[x1_0, x1_1, x1_2], Value.agg #[x2_0, x2_1, x2_2, x2_3, x2_4, x2_5, x2_6, x2_7, x2_8, x2_9, x2_10, x2_11, x2_12, x2_13, x2_14, x2_15, x2_16, x2_17, x2_18, x2_19, x2_20, x2_21, x2_22, x2_23, x2_24, x2_25, x2_26, x2_27, x2_28, x2_29, x2_30, x2_31, x2_32, x2_33, x2_34, x2_35, x2_36, x2_37, x2_38, x2_39, x2_40], Value.int IntKind.i64 x3, Value.int IntKind.i64 x4, Value.bool x5, Value.slice x6a x6n x6c] ++ Array.replicate (Tryz.f80.ntmps - 7) undef, []⟩ H := by kernel_rfl
theorem F80_calls {R : Ending → Heap → Prop} {H : Heap} (x0 : Option Addr) (x1_0 : Value) (x1_1 : Value) (x1_2 : Value) (x2_0 : Value) (x2_1 : Value) (x2_2 : Value) (x2_3 : Value) (x2_4 : Value) (x2_5 : Value) (x2_6 : Value) (x2_7 : Value) (x2_8 : Value) (x2_9 : Value) (x2_10 : Value) (x2_11 : Value) (x2_12 : Value) (x2_13 : Value) (x2_14 : Value) (x2_15 : Value) (x2_16 : Value) (x2_17 : Value) (x2_18 : Value) (x2_19 : Value) (x2_20 : Value) (x2_21 : Value) (x2_22 : Value) (x2_23 : Value) (x2_24 : Value) (x2_25 : Value) (x2_26 : Value) (x2_27 : Value) (x2_28 : Value) (x2_29 : Value) (x2_30 : Value) (x2_31 : Value) (x2_32 : Value) (x2_33 : Value) (x2_34 : Value) (x2_35 : Value) (x2_36 : Value) (x2_37 : Value) (x2_38 : Value) (x2_39 : Value) (x2_40 : Value) (x3 : Int) (x4 : Int) (x5 : Bool) (x6a : Option Addr) (x6n : Nat) (x6c : Nat) (h : F80 x0 x1_0 x1_1 x1_2 x2_0 x2_1 x2_2 x2_3 x2_4 x2_5 x2_6 x2_7 x2_8 x2_9 x2_10 x2_11 x2_12 x2_13 x2_14 x2_15 x2_16 x2_17 x2_18 x2_19 x2_20 x2_21 x2_22 x2_23 x2_24 x2_25 x2_26 x2_27 x2_28 x2_29 x2_30 x2_31 x2_32 x2_33 x2_34 x2_35 x2_36 x2_37 x2_38 x2_39 x2_40 x3 x4 x5 x6a x6n x6c R H) : HCalls Tryz.prog 80 #[Value.pointer x0, Value.agg #[x1_0, x1_1, x1_2], Value.agg #[x2_0, x2_1, x2_2, x2_3, x2_4, x2_5, x2_6, x2_7, x2_8, x2_9, x2_10, x2_11, x2_12, x2_13, x2_14, x2_15, x2_16, x2_17, x2_18, x2_19, x2_20, x2_21, x2_22, x2_23, x2_24, x2_25, x2_26, x2_27, x2_28, x2_29, x2_30, x2_31, x2_32, x2_33, x2_34, x2_35, x2_36, x2_37, x2_38, x2_39, x2_40], Value.int IntKind.i64 x3, Value.int IntKind.i64 x4, Value.bool x5, Value.slice x6a x6n x6c] H R :=
  calls_by (F := F80 x0 x1_0 x1_1 x1_2 x2_0 x2_1 x2_2 x2_3 x2_4 x2_5 x2_6 x2_7 x2_8 x2_9 x2_10 x2_11 x2_12 x2_13 x2_14 x2_15 x2_16 x2_17 x2_18 x2_19 x2_20 x2_21 x2_22 x2_23 x2_24 x2_25 x2_26 x2_27 x2_28 x2_29 x2_30 x2_31 x2_32 x2_33 x2_34 x2_35 x2_36 x2_37 x2_38 x2_39 x2_40 x3 x4 x5 x6a x6n x6c R H) (.node none .leaf (.node none .leaf (.node (some ⟨[(16, 38)], [23, 24, 25, 26]⟩) .leaf .leaf))) Tryz.func80 rfl (F80_eq x0 x1_0 x1_1 x1_2 x2_0 x2_1 x2_2 x2_3 x2_4 x2_5 x2_6 x2_7 x2_8 x2_9 x2_10 x2_11 x2_12 x2_13 x2_14 x2_15 x2_16 x2_17 x2_18 x2_19 x2_20 x2_21 x2_22 x2_23 x2_24 x2_25 x2_26 x2_27 x2_28 x2_29 x2_30 x2_31 x2_32 x2_33 x2_34 x2_35 x2_36 x2_37 x2_38 x2_39 x2_40 x3 x4 x5 x6a x6n x6c R H) h
/-- bollard/cache.New -/
def F81 (x0 : Option Addr) (x1 : Int) (R : Ending → Heap → Prop) (H : Heap) : Prop :=
  HCalls Tryz.prog 70 #[Value.pointer x0] H (Sp.retK (fun v1 H2 =>
  dInt IntKind.i64 v1 (fun n3 =>
  sB (n3 == 0) (R (Ending.returned (Value.tuple #[Value.pointer none, Value.int IntKind.i64 2])) H2) (jn (α := VFH 1) (fun v4 H5 =>
  ∀ v6 v7 v8 v9 v10 : Value,
  dBl v4 (fun b11 =>
  sB b11 (R (Ending.returned (Value.tuple #[Value.pointer none, Value.int IntKind.i64 1])) H5) (al H5 (Obj.map #[] 0) (fun r12 H13 =>
  al H13 (Obj.cells #[Value.pointer x0, Value.int IntKind.i64 x1, Value.map (some r12), Value.int IntKind.i64 0, Value.int IntKind.i64 0, Value.int IntKind.i64 0] 203) (fun r14 H15 =>
  R (Ending.returned (Value.tuple #[Value.pointer (some (Addr.mk r14 0 none)), Value.int IntKind.i64 0])) H15))))) (fun k16 =>
  sB (decide (x1 < 1)) (k16 (Value.bool true) H2) (k16 (Value.bool (decide (x1 > 64))) H2))))) (pnR R))
theorem F81_eq (x0 : Option Addr) (x1 : Int) (R : Ending → Heap → Prop) (H : Heap) : F81 x0 x1 R H = vc Tryz.prog (codeOf Tryz.f81) (.node none .leaf (.node none .leaf (.node none (.node (some ⟨[(14, 4)], [9, 10, 11, 12, 13]⟩) .leaf .leaf) .leaf))) (postV Tryz.prog Tryz.f81 R) ⟨#[Value.pointer x0, Value.int IntKind.i64 x1] ++ Array.replicate (Tryz.f81.ntmps - 2) undef, []⟩ H := by kernel_rfl
theorem F81_calls {R : Ending → Heap → Prop} {H : Heap} (x0 : Option Addr) (x1 : Int) (h : F81 x0 x1 R H) : HCalls Tryz.prog 81 #[Value.pointer x0, Value.int IntKind.i64 x1] H R :=
  calls_by (F := F81 x0 x1 R H) (.node none .leaf (.node none .leaf (.node none (.node (some ⟨[(14, 4)], [9, 10, 11, 12, 13]⟩) .leaf .leaf) .leaf))) Tryz.func81 rfl (F81_eq x0 x1 R H) h
/-- bollard/patch.New -/
def F82  (R : Ending → Heap → Prop) (H : Heap) : Prop :=
  al H (Obj.map #[] 0) (fun r1 H2 =>
  al H2 (Obj.map #[] 0) (fun r3 H4 =>
  al H4 (Obj.cells #[Value.int IntKind.i64 0, Value.map (some r1), Value.map (some r3), Value.bool true] 192) (fun r5 H6 =>
  R (Ending.returned (Value.pointer (some (Addr.mk r5 0 none)))) H6)))
theorem F82_eq  (R : Ending → Heap → Prop) (H : Heap) : F82  R H = vc Tryz.prog (codeOf Tryz.f82) .leaf (postV Tryz.prog Tryz.f82 R) ⟨#[] ++ Array.replicate (Tryz.f82.ntmps - 0) undef, []⟩ H := by kernel_rfl
theorem F82_calls {R : Ending → Heap → Prop} {H : Heap}  (h : F82  R H) : HCalls Tryz.prog 82 #[] H R :=
  calls_by (F := F82  R H) .leaf Tryz.func82 rfl (F82_eq  R H) h
/-- (*bollard/disk.Disk).made -/
def F87 (x0 : Option Addr) (R : Ending → Heap → Prop) (H : Heap) : Prop :=
  sB (!Option.isNone x0) (nz x0 (fun a1 =>
  ld H a1 (fun v2 =>
  dSl v2 (fun p3 r4 r5 =>
  R (Ending.returned (Value.bool (decide ((↑r4 : Int) > 0)))) H)))) (R (Ending.returned (Value.bool false)) H)
theorem F87_eq (x0 : Option Addr) (R : Ending → Heap → Prop) (H : Heap) : F87 x0 R H = vc Tryz.prog (codeOf Tryz.f87) .leaf (postV Tryz.prog Tryz.f87 R) ⟨#[Value.pointer x0] ++ Array.replicate (Tryz.f87.ntmps - 1) undef, []⟩ H := by kernel_rfl
theorem F87_calls {R : Ending → Heap → Prop} {H : Heap} (x0 : Option Addr) (h : F87 x0 R H) : HCalls Tryz.prog 87 #[Value.pointer x0] H R :=
  calls_by (F := F87 x0 R H) .leaf Tryz.func87 rfl (F87_eq x0 R H) h
/-- slices.ContainsFunc[[]int,int] -/
def F88 (x0a : Option Addr) (x0n : Nat) (x0c : Nat) (x1g : Nat) (x1f : Array Value) (x1c : Array Value) (R : Ending → Heap → Prop) (H : Heap) : Prop :=
  HCalls Tryz.prog 148 #[Value.slice x0a x0n x0c, Value.func (Fn.func x1g) x1f x1c] H (Sp.retK (fun v1 H2 =>
  dInt IntKind.i64 v1 (fun n3 =>
  R (Ending.returned (Value.bool (decide (n3 ≥ 0)))) H2)) (pnR R))
theorem F88_eq (x0a : Option Addr) (x0n : Nat) (x0c : Nat) (x1g : Nat) (x1f : Array Value) (x1c : Array Value) (R : Ending → Heap → Prop) (H : Heap) : F88 x0a x0n x0c x1g x1f x1c R H = vc Tryz.prog (codeOf Tryz.f88) .leaf (postV Tryz.prog Tryz.f88 R) ⟨#[Value.slice x0a x0n x0c, Value.func (Fn.func x1g) x1f x1c] ++ Array.replicate (Tryz.f88.ntmps - 2) undef, []⟩ H := by kernel_rfl
theorem F88_calls {R : Ending → Heap → Prop} {H : Heap} (x0a : Option Addr) (x0n : Nat) (x0c : Nat) (x1g : Nat) (x1f : Array Value) (x1c : Array Value) (h : F88 x0a x0n x0c x1g x1f x1c R H) : HCalls Tryz.prog 88 #[Value.slice x0a x0n x0c, Value.func (Fn.func x1g) x1f x1c] H R :=
  calls_by (F := F88 x0a x0n x0c x1g x1f x1c R H) .leaf Tryz.func88 rfl (F88_eq x0a x0n x0c x1g x1f x1c R H) h
/-- bollard/disk.image -/
def F91 (x0a : Option Addr) (x0n : Nat) (x0c : Nat) (R : Ending → Heap → Prop) (H : Heap) : Prop :=
  ∃ I1 : List Value → Heap → Prop,
  ∃ I2 : List Value → Heap → Nat,
  (I1 ([Value.slice none 0 0, Value.int IntKind.i64 0]) H) ∧
  ∀ p3 : Option Addr,
  ∀ r4 : Nat,
  ∀ r5 : Nat,
  ∀ n6 : Int,
  ∀ v7 v8 v9 v10 v11 v12 v13 v14 v15 v16 : Value,
  ∀ H17 : Heap,
  (I1 ([Value.slice p3 r4 r5, Value.int IntKind.i64 n6]) H17) →
  sB (decide (n6 < (↑x0n : Int))) (nz x0a (fun a19 =>
  ask ((0 : Int) ≤ n6 ∧ n6 < (↑x0n : Int)) (ld H17 (Addr.add a19 (Int.toNat n6 * 1)) (fun v20 =>
  dSl v20 (fun p21 r22 r23 =>
  HCalls Tryz.prog 48 #[Value.slice p21 r22 r23] H17 (Sp.retK (fun v24 H25 =>
  dSl v24 (fun p26 r27 r28 =>
  al H25 (Obj.cells #[Value.slice p26 r27 r28] 38) (fun r29 H30 =>
  semW Tryz.prog (Builtin.append_ #[42, 42] 42 #[Value.slice p3 r4 r5, Value.slice (some (Addr.mk r29 0 none)) 1 1]) (pnR R) H30 (fun v33 H34 =>
  dSl v33 (fun p35 r36 r37 =>
  wr IntKind.i64 (n6 + 1) (fun n38 =>
  (I1 ([Value.slice p35 r36 r37, Value.int IntKind.i64 n38]) H34) ∧
  (I2 [Value.slice p35 r36 r37, Value.int IntKind.i64 n38] H34) < (I2 [Value.slice p3 r4 r5, Value.int IntKind.i64 n6] H17))))))) (pnR R))))))) (R (Ending.returned (Value.slice p3 r4 r5)) H17)
theorem F91_eq (x0a : Option Addr) (x0n : Nat) (x0c : Nat) (R : Ending → Heap → Prop) (H : Heap) : F91 x0a x0n x0c R H = vc Tryz.prog (codeOf Tryz.f91) (.node none .leaf (.node none .leaf (.node none (.node none .leaf (.node none (.node (some ⟨[(3, 42), (8, 3)], [5, 9, 10, 11, 12, 13, 14, 15, 16, 17]⟩) .leaf .leaf) .leaf)) .leaf))) (postV Tryz.prog Tryz.f91 R) ⟨#[Value.slice x0a x0n x0c] ++ Array.replicate (Tryz.f91.ntmps - 1) undef, []⟩ H := by kernel_rfl
theorem F91_calls {R : Ending → Heap → Prop} {H : Heap} (x0a : Option Addr) (x0n : Nat) (x0c : Nat) (h : F91 x0a x0n x0c R H) : HCalls Tryz.prog 91 #[Value.slice x0a x0n x0c] H R :=
  calls_by (F := F91 x0a x0n x0c R H) (.node none .leaf (.node none .leaf (.node none (.node none .leaf (.node none (.node (some ⟨[(3, 42), (8, 3)], [5, 9, 10, 11, 12, 13, 14, 15, 16, 17]⟩) .leaf .leaf) .leaf)) .leaf))) Tryz.func91 rfl (F91_eq x0a x0n x0c R H) h
/-- bollard/bits.Count -/
def F92 (x0a : Option Addr) (x0n : Nat) (x0c : Nat) (x1 : Int) (R : Ending → Heap → Prop) (H : Heap) : Prop :=
  HCalls Tryz.prog 151 #[Value.int IntKind.i64 x1] H (Sp.retK (fun v1 H2 =>
  dInt IntKind.i64 v1 (fun n3 =>
  ∃ I4 : List Value → Heap → Prop,
  ∃ I5 : List Value → Heap → Nat,
  (I4 ([Value.int IntKind.i64 0, Value.int IntKind.i64 0]) H2) ∧
  ∀ n6 : Int,
  ∀ n7 : Int,
  ∀ v8 v9 v10 v11 v12 v13 v14 v15 v16 : Value,
  ∀ H17 : Heap,
  (I4 ([Value.int IntKind.i64 n6, Value.int IntKind.i64 n7]) H17) →
  sB (decide (n7 < n3)) (jn (α := VFH 1) (fun v19 H20 =>
  ∀ v21 v22 v23 v24 v25 v26 v27 : Value,
  dInt IntKind.i64 v19 (fun n28 =>
  wr IntKind.i64 (n7 + 1) (fun n29 =>
  (I4 ([Value.int IntKind.i64 n28, Value.int IntKind.i64 n29]) H20) ∧
  (I5 [Value.int IntKind.i64 n28, Value.int IntKind.i64 n29] H20) < (I5 [Value.int IntKind.i64 n6, Value.int IntKind.i64 n7] H17)))) (fun k30 =>
  HCalls Tryz.prog 152 #[Value.slice x0a x0n x0c, Value.int IntKind.i64 n7] H17 (Sp.retK (fun v31 H32 =>
  dBl v31 (fun b33 =>
  sB b33 (wr IntKind.i64 (n6 + 1) (fun n34 =>
  k30 (Value.int IntKind.i64 n34) H32)) (k30 (Value.int IntKind.i64 n6) H32))) (pnR R)))) (R (Ending.returned (Value.int IntKind.i64 n6)) H17))) (pnR R))
theorem F92_eq (x0a : Option Addr) (x0n : Nat) (x0c : Nat) (x1 : Int) (R : Ending → Heap → Prop) (H : Heap) : F92 x0a x0n x0c x1 R H = vc Tryz.prog (codeOf Tryz.f92) (.node none .leaf (.node none .leaf (.node none (.node none .leaf (.node none (.node (some ⟨[(5, 3), (9, 3)], [6, 10, 11, 12, 13, 14, 15, 16, 17]⟩) (.node none .leaf (.node none .leaf (.node (some ⟨[(5, 3)], [6, 11, 12, 13, 14, 15, 16]⟩) .leaf .leaf))) .leaf) .leaf)) .leaf))) (postV Tryz.prog Tryz.f92 R) ⟨#[Value.slice x0a x0n x0c, Value.int IntKind.i64 x1] ++ Array.replicate (Tryz.f92.ntmps - 2) undef, []⟩ H := by kernel_rfl
theorem F92_calls {R : Ending → Heap → Prop} {H : Heap} (x0a : Option Addr) (x0n : Nat) (x0c : Nat) (x1 : Int) (h : F92 x0a x0n x0c x1 R H) : HCalls Tryz.prog 92 #[Value.slice x0a x0n x0c, Value.int IntKind.i64 x1] H R :=
  calls_by (F := F92 x0a x0n x0c x1 R H) (.node none .leaf (.node none .leaf (.node none (.node none .leaf (.node none (.node (some ⟨[(5, 3), (9, 3)], [6, 10, 11, 12, 13, 14, 15, 16, 17]⟩) (.node none .leaf (.node none .leaf (.node (some ⟨[(5, 3)], [6, 11, 12, 13, 14, 15, 16]⟩) .leaf .leaf))) .leaf) .leaf)) .leaf))) Tryz.func92 rfl (F92_eq x0a x0n x0c x1 R H) h
/-- bollard/alloc.spare -/
def F93 (x0_0 : Value) (x0_1 : Value) (x0_2 : Value) (x1_0 : Value) (x1_1 : Value) (x1_2 : Value) (x1_3 : Value) (x1_4 : Value) (x1_5 : Value) (x1_6 : Value) (x1_7 : Value) (x1_8 : Value) (x1_9 : Value) (x1_10 : Value) (x1_11 : Value) (x1_12 : Value) (x1_13 : Value) (x1_14 : Value) (x1_15 : Value) (x1_16 : Value) (x1_17 : Value) (x1_18 : Value) (x1_19 : Value) (x1_20 : Value) (x1_21 : Value) (x1_22 : Value) (x1_23 : Value) (x1_24 : Value) (x1_25 : Value) (x1_26 : Value) (x1_27 : Value) (x1_28 : Value) (x1_29 : Value) (x1_30 : Value) (x1_31 : Value) (x1_32 : Value) (x1_33 : Value) (x1_34 : Value) (x1_35 : Value) (x1_36 : Value) (x1_37 : Value) (x1_38 : Value) (x1_39 : Value) (x1_40 : Value) (R : Ending → Heap → Prop) (H : Heap) : Prop :=
  al H (Obj.cells #[x0_0, x0_1, x0_2] 32) (fun r1 H2 =>
  al H2 (Obj.cells #[x1_0, x1_1, x1_2, x1_3, x1_4, x1_5, x1_6, x1_7, x1_8, x1_9, x1_10, x1_11, x1_12, x1_13, x1_14, x1_15, x1_16, x1_17, x1_18, x1_19, x1_20, x1_21, x1_22, x1_23, x1_24, x1_25, x1_26, x1_27, x1_28, x1_29, x1_30, x1_31, x1_32, x1_33, x1_34, x1_35, x1_36, x1_37, x1_38, x1_39, x1_40] 77) (fun r3 H4 =>
  ask ((0 : Int) ≤ (0 : Int) ∧ (0 : Int) ≤ (8 : Int) ∧ (8 : Int) ≤ (8 : Int) ∧ (8 : Int) ≤ (8 : Int)) (∃ I5 : List Value → Heap → Prop,
  ∃ I6 : List Value → Heap → Nat,
  (I5 ([Value.slice (slO (some (Addr.mk r3 1 none)) 1 0 8) (Int.toNat 8 - Int.toNat 0) (Int.toNat 8 - Int.toNat 0), Value.int IntKind.i64 0]) H4) ∧
  ∀ p7 : Option Addr,
  ∀ r8 : Nat,
  ∀ r9 : Nat,
  ∀ n10 : Int,
  ∀ v11 v12 v13 v14 v15 v16 v17 v18 v19 v20 v21 v22 v23 v24 v25 : Value,
  ∀ H26 : Heap,
  (I5 ([Value.slice p7 r8 r9, Value.int IntKind.i64 n10]) H26) →
  jn (α := VFH 1) (fun v28 H29 =>
  ∀ v30 v31 v32 v33 v34 v35 : Value,
  dBl v28 (fun b36 =>
  sB b36 (HCalls Tryz.prog 139 #[Value.slice p7 r8 r9, Value.int IntKind.i64 n10, Value.bool true] H29 (Sp.retK (fun v37 H38 =>
  dT 2 v37 (fun v39 v40 =>
  dSl v39 (fun p41 r42 r43 =>
  dInt IntKind.i64 v40 (fun n44 =>
  wr IntKind.i64 (n10 + 1) (fun n45 =>
  (I5 ([Value.slice p41 r42 r43, Value.int IntKind.i64 n45]) H38) ∧
  (I6 [Value.slice p41 r42 r43, Value.int IntKind.i64 n45] H38) < (I6 [Value.slice p7 r8 r9, Value.int IntKind.i64 n10] H26)))))) (pnR R))) (ld H29 (Addr.mk r1 2 none) (fun v48 =>
  dInt IntKind.i64 v48 (fun n49 =>
  HCalls Tryz.prog 138 #[Value.slice p7 r8 r9, Value.int IntKind.i64 n49, Value.int IntKind.i64 0] H29 (Sp.retK (fun v50 H51 =>
  dT 2 v50 (fun v52 v53 =>
  dInt IntKind.i64 v52 (fun n54 =>
  dBl v53 (fun b55 =>
  sB (!b55) (R (Ending.returned (Value.tuple #[Value.int IntKind.i64 0, Value.int IntKind.i64 0])) H51) (ld H51 (Addr.mk r1 2 none) (fun v56 =>
  dInt IntKind.i64 v56 (fun n57 =>
  ld H51 (Addr.mk r1 2 none) (fun v58 =>
  dInt IntKind.i64 v58 (fun n59 =>
  HCalls Tryz.prog 92 #[Value.slice p7 r8 r9, Value.int IntKind.i64 n59] H51 (Sp.retK (fun v60 H61 =>
  dInt IntKind.i64 v60 (fun n62 =>
  (ld H61 (Addr.mk r1 2 none) (fun v63 =>
  dInt IntKind.i64 v63 (fun n64 =>
  (Value.int IntKind.i64 n64) = (Value.int IntKind.i64 n57)))) ∧
  wr IntKind.i64 (n57 - n62) (fun n65 =>
  R (Ending.returned (Value.tuple #[Value.int IntKind.i64 n54, Value.int IntKind.i64 n65])) H61))) nopR)))))))))) (pnR R))))))) (fun k70 =>
  sB (decide (n10 < 2)) (ld H26 (Addr.mk r3 0 none) (fun v71 =>
  dInt IntKind.i64 v71 (fun n72 =>
  k70 (Value.bool (n72 == 0)) H26))) (k70 (Value.bool false) H26)))))
theorem F93_eq (x0_0 : Value) (x0_1 : Value) (x0_2 : Value) (x1_0 : Value) (x1_1 : Value) (x1_2 : Value) (x1_3 : Value) (x1_4 : Value) (x1_5 : Value) (x1_6 : Value) (x1_7 : Value) (x1_8 : Value) (x1_9 : Value) (x1_10 : Value) (x1_11 : Value) (x1_12 : Value) (x1_13 : Value) (x1_14 : Value) (x1_15 : Value) (x1_16 : Value) (x1_17 : Value) (x1_18 : Value) (x1_19 : Value) (x1_20 : Value) (x1_21 : Value) (x1_22 : Value) (x1_23 : Value) (x1_24 : Value) (x1_25 : Value) (x1_26 : Value) (x1_27 : Value) (x1_28 : Value) (x1_29 : Value) (x1_30 : Value) (x1_31 : Value) (x1_32 : Value) (x1_33 : Value) (x1_34 : Value) (x1_35 : Value) (x1_36 : Value) (x1_37 : Value) (x1_38 : Value) (x1_39 : Value) (x1_40 : Value) (R : Ending → Heap → Prop) (H : Heap) : F93 x0_0 x0_1 x0_2 x1_0 x1_1 x1_2 x1_3 x1_4 x1_5 x1_6 x1_7 x1_8 x1_9 x1_10 x1_11 x1_12 x1_13 x1_14 x1_15 x1_16 x1_17 x1_18 x1_19 x1_20 x1_21 x1_22 x1_23 x1_24 x1_25 x1_26 x1_27 x1_28 x1_29 x1_30 x1_31 x1_32 x1_33 x1_34 x1_35 x1_36 x1_37 x1_38 x1_39 x1_40 R H = vc Tryz.prog (codeOf Tryz.f93) (.node none .leaf (.node none .leaf (.node none (.node none .leaf (.node none (.node (some ⟨[(6, 38), (7, 3)], [12, 13, 14, 15, 16, 17, 18, 19, 20, 21, 22, 23, 24, 25, 26]⟩) (.node none (.node (some ⟨[(18, 4)], [12, 13, 14, 15, 16, 17]⟩) .leaf .leaf) .leaf) .leaf) .leaf)) .leaf))) (postV Tryz.prog Tryz.f93 R) ⟨#[Value.agg #[x0_0, x0_1, x0_2], Value.agg #[x1_0, x1_1, x1_2, x1_3, x1_4, x1_5, x1_6, x1_7, x1_8, x1_9, x1_10, x1_11, x1_12, x1_13, x1_14, x1_15, x1_16, x1_17, x1_18, x1_19, x1_20, x1_21, x1_22, x1_23, x1_24, x1_25, x1_26, x1_27, x1_28, x1_29, x1_30, x1_31, x1_32, x1_33, x1_34, x1_35, x1_36, x1_37, x1_38, x1_39, x1_40]] ++ Array.replicate (Tryz.f93.ntmps - 2) undef, []⟩ H := by kernel_rfl
theorem F93_calls {R : Ending → Heap → Prop} {H : Heap} (x0_0 : Value) (x0_1 : Value) (x0_2 : Value) (x1_0 : Value) (x1_1 : Value) (x1_2 : Value) (x1_3 : Value) (x1_4 : Value) (x1_5 : Value) (x1_6 : Value) (x1_7 : Value) (x1_8 : Value) (x1_9 : Value) (x1_10 : Value) (x1_11 : Value) (x1_12 : Value) (x1_13 : Value) (x1_14 : Value) (x1_15 : Value) (x1_16 : Value) (x1_17 : Value) (x1_18 : Value) (x1_19 : Value) (x1_20 : Value) (x1_21 : Value) (x1_22 : Value) (x1_23 : Value) (x1_24 : Value) (x1_25 : Value) (x1_26 : Value) (x1_27 : Value) (x1_28 : Value) (x1_29 : Value) (x1_30 : Value) (x1_31 : Value) (x1_32 : Value) (x1_33 : Value) (x1_34 : Value) (x1_35 : Value) (x1_36 : Value) (x1_37 : Value) (x1_38 : Value) (x1_39 : Value) (x1_40 : Value) (h : F93 x0_0 x0_1 x0_2 x1_0 x1_1 x1_2 x1_3 x1_4 x1_5 x1_6 x1_7 x1_8 x1_9 x1_10 x1_11 x1_12 x1_13 x1_14 x1_15 x1_16 x1_17 x1_18 x1_19 x1_20 x1_21 x1_22 x1_23 x1_24 x1_25 x1_26 x1_27 x1_28 x1_29 x1_30 x1_31 x1_32 x1_33 x1_34 x1_35 x1_36 x1_37 x1_38 x1_39 x1_40 R H) : HCalls Tryz.prog 93 #[Value.agg #[x0_0, x0_1, x0_2], Value.agg #[x1_0, x1_1, x1_2, x1_3, x1_4, x1_5, x1_6, x1_7, x1_8, x1_9, x1_10, x1_11, x1_12, x1_13, x1_14, x1_15, x1_16, x1_17, x1_18, x1_19, x1_20, x1_21, x1_22, x1_23, x1_24, x1_25, x1_26, x1_27, x1_28, x1_29, x1_30, x1_31, x1_32, x1_33, x1_34, x1_35, x1_36, x1_37, x1_38, x1_39, x1_40]] H R :=
  calls_by (F := F93 x0_0 x0_1 x0_2 x1_0 x1_1 x1_2 x1_3 x1_4 x1_5 x1_6 x1_7 x1_8 x1_9 x1_10 x1_11 x1_12 x1_13 x1_14 x1_15 x1_16 x1_17 x1_18 x1_19 x1_20 x1_21 x1_22 x1_23 x1_24 x1_25 x1_26 x1_27 x1_28 x1_29 x1_30 x1_31 x1_32 x1_33 x1_34 x1_35 x1_36 x1_37 x1_38 x1_39 x1_40 R H) (.node none .leaf (.node none .leaf (.node none (.node none .leaf (.node none (.node (some ⟨[(6, 38), (7, 3)], [12, 13, 14, 15, 16, 17, 18, 19, 20, 21, 22, 23, 24, 25, 26]⟩) (.node none (.node (some ⟨[(18, 4)], [12, 13, 14, 15, 16, 17]⟩) .leaf .leaf) .leaf) .leaf) .leaf)) .leaf))) Tryz.func93 rfl (F93_eq x0_0 x0_1 x0_2 x1_0 x1_1 x1_2 x1_3 x1_4 x1_5 x1_6 x1_7 x1_8 x1_9 x1_10 x1_11 x1_12 x1_13 x1_14 x1_15 x1_16 x1_17 x1_18 x1_19 x1_20 x1_21 x1_22 x1_23 x1_24 x1_25 x1_26 x1_27 x1_28 x1_29 x1_30 x1_31 x1_32 x1_33 x1_34 x1_35 x1_36 x1_37 x1_38 x1_39 x1_40 R H) h
/-- bollard/geom.IsData -/
def F94 (x0_0 : Value) (x0_1 : Value) (x0_2 : Value) (x1 : Int) (R : Ending → Heap → Prop) (H : Heap) : Prop :=
  al H (Obj.cells #[x0_0, x0_1, x0_2] 32) (fun r1 H2 =>
  ld H2 (Addr.mk r1 0 none) (fun v3 =>
  ld H2 (Addr.mk r1 1 none) (fun v4 =>
  ld H2 (Addr.mk r1 2 none) (fun v5 =>
  HCalls Tryz.prog 78 #[Value.agg #[v3, v4, v5], Value.int IntKind.i64 x1] H2 (Sp.retK (fun v6 H7 =>
  dT 3 v6 (fun v8 v9 v10 =>
  dInt IntKind.i64 v8 (fun n11 =>
  dInt IntKind.i64 v9 (fun n12 =>
  dBl v10 (fun b13 =>
  sB b13 (ld H7 (Addr.mk r1 0 none) (fun v14 =>
  ld H7 (Addr.mk r1 1 none) (fun v15 =>
  ld H7 (Addr.mk r1 2 none) (fun v16 =>
  HCalls Tryz.prog 116 #[Value.agg #[v14, v15, v16]] H7 (Sp.retK (fun v17 H18 =>
  dInt IntKind.i64 v17 (fun n19 =>
  R (Ending.returned (Value.bool (decide (n12 ≥ n19)))) H18)) (pnR R)))))) (R (Ending.returned (Value.bool false)) H7)))))) (pnR R))))))
theorem F94_eq (x0_0 : Value) (x0_1 : Value) (x0_2 : Value) (x1 : Int) (R : Ending → Heap → Prop) (H : Heap) : F94 x0_0 x0_1 x0_2 x1 R H = vc Tryz.prog (codeOf Tryz.f94) .leaf (postV Tryz.prog Tryz.f94 R) ⟨#[Value.agg #[x0_0, x0_1, x0_2], Value.int IntKind.i64 x1] ++ Array.replicate (Tryz.f94.ntmps - 2) undef, []⟩ H := by kernel_rfl
theorem F94_calls {R : Ending → Heap → Prop} {H : Heap} (x0_0 : Value) (x0_1 : Value) (x0_2 : Value) (x1 : Int) (h : F94 x0_0 x0_1 x0_2 x1 R H) : HCalls Tryz.prog 94 #[Value.agg #[x0_0, x0_1, x0_2], Value.int IntKind.i64 x1] H R :=
  calls_by (F := F94 x0_0 x0_1 x0_2 x1 R H) .leaf Tryz.func94 rfl (F94_eq x0_0 x0_1 x0_2 x1 R H) h
/-- bollard/disk.Of -/
def F97 (x0a : Option Addr) (x0n : Nat) (x0c : Nat) (R : Ending → Heap → Prop) (H : Heap) : Prop :=
  jn (α := VFH 1) (fun v1 H2 =>
  ∀ v3 v4 v5 v6 v7 v8 v9 v10 v11 v12 v13 v14 : Value,
  dBl v1 (fun b15 =>
  sB b15 (R (Ending.returned (Value.tuple #[Value.pointer none, Value.int IntKind.i64 1])) H2) (HCalls Tryz.prog 91 #[Value.slice x0a x0n x0c] H2 (Sp.retK (fun v16 H17 =>
  dSl v16 (fun p18 r19 r20 =>
  al H17 (Obj.map #[] 0) (fun r21 H22 =>
  al H22 (Obj.cells #[Value.slice p18 r19 r20, Value.slice none 0 0, Value.map (some r21), Value.int IntKind.i64 0] 133) (fun r23 H24 =>
  R (Ending.returned (Value.tuple #[Value.pointer (some (Addr.mk r23 0 none)), Value.int IntKind.i64 0])) H24)))) (pnR R))))) (fun k27 =>
  sB (decide ((↑x0n : Int) < 1)) (k27 (Value.bool true) H) (sB (decide ((↑x0n : Int) > 2048)) (k27 (Value.bool true) H) (HCalls Tryz.prog 154 #[Value.slice x0a x0n x0c, Value.func (Fn.func 153) #[] #[]] H (Sp.retK (fun v28 H29 =>
  dBl v28 (fun b30 =>
  k27 (Value.bool b30) H29)) (pnR R)))))
theorem F97_eq (x0a : Option Addr) (x0n : Nat) (x0c : Nat) (R : Ending → Heap → Prop) (H : Heap) : F97 x0a x0n x0c R H = vc Tryz.prog (codeOf Tryz.f97) (.node none .leaf (.node none .leaf (.node none (.node (some ⟨[(17, 4)], [5, 6, 7, 8, 9, 10, 11, 12, 13, 14, 15, 16]⟩) .leaf .leaf) .leaf))) (postV Tryz.prog Tryz.f97 R) ⟨#[Value.slice x0a x0n x0c] ++ Array.replicate (Tryz.f97.ntmps - 1) undef, []⟩ H := by kernel_rfl
theorem F97_calls {R : Ending → Heap → Prop} {H : Heap} (x0a : Option Addr) (x0n : Nat) (x0c : Nat) (h : F97 x0a x0n x0c R H) : HCalls Tryz.prog 97 #[Value.slice x0a x0n x0c] H R :=
  calls_by (F := F97 x0a x0n x0c R H) (.node none .leaf (.node none .leaf (.node none (.node (some ⟨[(17, 4)], [5, 6, 7, 8, 9, 10, 11, 12, 13, 14, 15, 16]⟩) .leaf .leaf) .leaf))) Tryz.func97 rfl (F97_eq x0a x0n x0c R H) h
end Go.Proofs.YtngploohhmfaiaaGreat.E
/- The functions' forms in the engine's words, printed by my own program. -/
namespace Go.Proofs.YtngploohhmfaiaaGreat.E
open Go Go.Proofs
set_option linter.unusedVariables false
/-- (*bollard/patch.Set).Last -/
def F105 (x0 : Option Addr) (R : Ending → Heap → Prop) (H : Heap) : Prop :=
  HCalls Tryz.prog 127 #[Value.pointer x0] H (Sp.retK (fun v1 H2 =>
  dBl v1 (fun b3 =>
  sB (!b3) (R (Ending.returned (Value.int IntKind.i64 0)) H2) (nz x0 (fun a4 =>
  ld H2 a4 (fun v5 =>
  dInt IntKind.i64 v5 (fun n6 =>
  R (Ending.returned (Value.int IntKind.i64 n6)) H2)))))) (pnR R))
theorem F105_eq (x0 : Option Addr) (R : Ending → Heap → Prop) (H : Heap) : F105 x0 R H = vc Tryz.prog (codeOf Tryz.f105) .leaf (postV Tryz.prog Tryz.f105 R) ⟨#[Value.pointer x0] ++ Array.replicate (Tryz.f105.ntmps - 1) undef, []⟩ H := by kernel_rfl
theorem F105_calls {R : Ending → Heap → Prop} {H : Heap} (x0 : Option Addr) (h : F105 x0 R H) : HCalls Tryz.prog 105 #[Value.pointer x0] H R :=
  calls_by (F := F105 x0 R H) .leaf Tryz.func105 rfl (F105_eq x0 R H) h
/-- (*bollard/patch.Set).Undo -/
def F106 (x0 : Option Addr) (x1 : Int) (R : Ending → Heap → Prop) (H : Heap) : Prop :=
  HCalls Tryz.prog 127 #[Value.pointer x0] H (Sp.retK (fun v1 H2 =>
  dBl v1 (fun b3 =>
  sB (!b3) (R (Ending.returned (Value.int IntKind.i64 2)) H2) (jn (α := VFH 1) (fun v4 H5 =>
  ∀ v6 v7 v8 v9 v10 v11 v12 v13 v14 v15 : Value,
  dBl v4 (fun b16 =>
  sB b16 (R (Ending.returned (Value.int IntKind.i64 1)) H5) (nz x0 (fun a17 =>
  ld H5 (Addr.add a17 1) (fun v18 =>
  dMap v18 (fun p19 =>
  semW Tryz.prog (Instr.range 189 (Value.map p19)) (pnR R) H5 (fun v22 H23 =>
  ∃ I24 : List Value → Heap → Prop,
  ∃ I25 : List Value → Heap → Nat,
  (I24 [] H23) ∧
  ∀ v26 v27 v28 v29 v30 v31 v32 v33 v34 : Value,
  ∀ H35 : Heap,
  (I24 [] H35) →
  semW Tryz.prog (Instr.next v22 false 0) (pnR R) H35 (fun v39 H40 =>
  dNx v39 (nz x0 (fun a41 =>
  ld H40 (Addr.add a41 2) (fun v42 =>
  dMap v42 (fun p43 =>
  semW Tryz.prog (Instr.range 190 (Value.map p43)) (pnR R) H40 (fun v46 H47 =>
  ∃ I48 : List Value → Heap → Prop,
  ∃ I49 : List Value → Heap → Nat,
  (I48 [] H47) ∧
  ∀ v50 v51 v52 v53 v54 v55 v56 v57 v58 v59 v60 v61 v62 : Value,
  ∀ H63 : Heap,
  (I48 [] H63) →
  semW Tryz.prog (Instr.next v46 false 0) (pnR R) H63 (fun v67 H68 =>
  dNx v67 (nz x0 (fun a69 =>
  st H68 a69 (Value.int IntKind.i64 x1) (fun H70 =>
  R (Ending.returned (Value.int IntKind.i64 0)) H70))) (fun v71 v72 =>
  semW Tryz.prog (Instr.entry v46) (pnR R) H68 (fun v75 H76 =>
  dT 2 v75 (fun v77 v78 =>
  dInt IntKind.i64 v77 (fun n79 =>
  sB (decide (n79 > x1)) (nz x0 (fun a80 =>
  ld H76 (Addr.add a80 2) (fun v81 =>
  dMap v81 (fun p82 =>
  semW Tryz.prog (Builtin.delete_ #[190, 3] 0 #[Value.map p82, Value.int IntKind.i64 n79]) (pnR R) H76 (fun v85 H86 =>
  (I48 [] H86) ∧
  (I49 [] H86) < (I49 [] H63)))))) ((I48 [] H76) ∧
  (I49 [] H76) < (I49 [] H63)))))))))))) (fun v87 v88 =>
  semW Tryz.prog (Instr.entry v22) (pnR R) H40 (fun v91 H92 =>
  dT 2 v91 (fun v93 v94 =>
  dInt IntKind.i64 v93 (fun n95 =>
  sB (decide (n95 > x1)) (R (Ending.returned (Value.int IntKind.i64 3)) H92) ((I24 [] H92) ∧
  (I25 [] H92) < (I25 [] H35)))))))))))))) (fun k96 =>
  sB (decide (x1 < 0)) (k96 (Value.bool true) H2) (nz x0 (fun a97 =>
  ld H2 a97 (fun v98 =>
  dInt IntKind.i64 v98 (fun n99 =>
  k96 (Value.bool (decide (x1 > n99))) H2)))))))) (pnR R))
theorem F106_eq (x0 : Option Addr) (x1 : Int) (R : Ending → Heap → Prop) (H : Heap) : F106 x0 x1 R H = vc Tryz.prog (codeOf Tryz.f106) (.node none .leaf (.node none (.node none (.node none .leaf (.node none .leaf (.node (some ⟨[(11, 4)], [12, 13, 14, 15, 16, 17, 18, 19, 20, 21]⟩) .leaf .leaf))) .leaf) (.node none (.node none .leaf (.node none (.node (some ⟨[], [4, 5, 27, 28, 29, 30, 31, 32, 33]⟩) .leaf .leaf) .leaf)) (.node none (.node none .leaf (.node none (.node (some ⟨[], [6, 39, 40, 41, 42, 43, 44, 45, 46, 47, 48, 49, 50]⟩) .leaf .leaf) .leaf)) .leaf)))) (postV Tryz.prog Tryz.f106 R) ⟨#[Value.pointer x0, Value.int IntKind.i64 x1] ++ Array.replicate (Tryz.f106.ntmps - 2) undef, []⟩ H := by kernel_rfl
theorem F106_calls {R : Ending → Heap → Prop} {H : Heap} (x0 : Option Addr) (x1 : Int) (h : F106 x0 x1 R H) : HCalls Tryz.prog 106 #[Value.pointer x0, Value.int IntKind.i64 x1] H R :=
  calls_by (F := F106 x0 x1 R H) (.node none .leaf (.node none (.node none (.node none .leaf (.node none .leaf (.node (some ⟨[(11, 4)], [12, 13, 14, 15, 16, 17, 18, 19, 20, 21]⟩) .leaf .leaf))) .leaf) (.node none (.node none .leaf (.node none (.node (some ⟨[], [4, 5, 27, 28, 29, 30, 31, 32, 33]⟩) .leaf .leaf) .leaf)) (.node none (.node none .leaf (.node none (.node (some ⟨[], [6, 39, 40, 41, 42, 43, 44, 45, 46, 47, 48, 49, 50]⟩) .leaf .leaf) .leaf)) .leaf)))) Tryz.func106 rfl (F106_eq x0 x1 R H) h
/-- slices.Clone[[]byte,byte] -/
def F107 (x0a : Option Addr) (x0n : Nat) (x0c : Nat) (R : Ending → Heap → Prop) (H : Heap) : Prop :=
  sB (Option.isNone x0a) (R (Ending.returned (Value.slice none 0 0)) H) (al H (Obj.cells #[] 5) (fun r1 H2 =>
  semW Tryz.prog (Builtin.append_ #[38, 38] 38 #[Value.slice (some (Addr.mk r1 0 none)) 0 0, Value.slice x0a x0n x0c]) (pnR R) H2 (fun v5 H6 =>
  dSl v5 (fun p7 r8 r9 =>
  R (Ending.returned (Value.slice p7 r8 r9)) H6))))
theorem F107_eq (x0a : Option Addr) (x0n : Nat) (x0c : Nat) (R : Ending → Heap → Prop) (H : Heap) : F107 x0a x0n x0c R H = vc Tryz.prog (codeOf Tryz.f107) .leaf (postV Tryz.prog Tryz.f107 R) ⟨#[Value.slice x0a x0n x0c] ++ Array.replicate (Tryz.f107.ntmps - 1) undef, []⟩ H := by kernel_rfl
theorem F107_calls {R : Ending → Heap → Prop} {H : Heap} (x0a : Option Addr) (x0n : Nat) (x0c : Nat) (h : F107 x0a x0n x0c R H) : HCalls Tryz.prog 107 #[Value.slice x0a x0n x0c] H R :=
  calls_by (F := F107 x0a x0n x0c R H) .leaf Tryz.func107 rfl (F107_eq x0a x0n x0c R H) h
/-- (*bollard/patch.Set).Of -/
def F112 (x0 : Option Addr) (x1 : Int) (R : Ending → Heap → Prop) (H : Heap) : Prop :=
  al H (Obj.cells #[Value.pointer x0] 51) (fun r1 H2 =>
  al H2 (Obj.cells #[Value.int IntKind.i64 x1] 3) (fun r3 H4 =>
  ld H4 (Addr.mk r1 0 none) (fun v5 =>
  dPtr v5 (fun p6 =>
  HCalls Tryz.prog 127 #[Value.pointer p6] H4 (Sp.retK (fun v7 H8 =>
  dBl v7 (fun b9 =>
  sB (!b9) (R (Ending.returned (Value.slice none 0 0)) H8) (ld H8 (Addr.mk r1 0 none) (fun v10 =>
  dPtr v10 (fun p11 =>
  HCalls Tryz.prog 170 #[Value.pointer p11] H8 (Sp.retK (fun v12 H13 =>
  dSl v12 (fun p14 r15 r16 =>
  HCalls Tryz.prog 140 #[Value.slice p14 r15 r16, Value.func (Fn.func 171) #[] #[Value.pointer (some (Addr.mk r1 0 none)), Value.pointer (some (Addr.mk r3 0 none))]] H13 (Sp.retK (fun v17 H18 =>
  dSl v17 (fun p19 r20 r21 =>
  R (Ending.returned (Value.slice p19 r20 r21)) H18)) (pnR R)))) (pnR R))))))) (pnR R))))))
theorem F112_eq (x0 : Option Addr) (x1 : Int) (R : Ending → Heap → Prop) (H : Heap) : F112 x0 x1 R H = vc Tryz.prog (codeOf Tryz.f112) .leaf (postV Tryz.prog Tryz.f112 R) ⟨#[Value.pointer x0, Value.int IntKind.i64 x1] ++ Array.replicate (Tryz.f112.ntmps - 2) undef, []⟩ H := by kernel_rfl
theorem F112_calls {R : Ending → Heap → Prop} {H : Heap} (x0 : Option Addr) (x1 : Int) (h : F112 x0 x1 R H) : HCalls Tryz.prog 112 #[Value.pointer x0, Value.int IntKind.i64 x1] H R :=
  calls_by (F := F112 x0 x1 R H) .leaf Tryz.func112 rfl (F112_eq x0 x1 R H) h
/-- bollard/geom.all -/
def F114 (x0_0 : Value) (x0_1 : Value) (x0_2 : Value) (x1 : Int) (R : Ending → Heap → Prop) (H : Heap) : Prop :=
  al H (Obj.cells #[x0_0, x0_1, x0_2] 32) (fun r1 H2 =>
  ld H2 (Addr.mk r1 0 none) (fun v3 =>
  ld H2 (Addr.mk r1 1 none) (fun v4 =>
  ld H2 (Addr.mk r1 2 none) (fun v5 =>
  HCalls Tryz.prog 65 #[Value.agg #[v3, v4, v5]] H2 (Sp.retK (fun v6 H7 =>
  dInt IntKind.i64 v6 (fun n8 =>
  sB (n8 != 0) (R (Ending.returned (Value.int IntKind.i64 0)) H7) (ld H7 (Addr.mk r1 0 none) (fun v9 =>
  dInt IntKind.i64 v9 (fun n10 =>
  wr IntKind.i64 (n10 * x1) (fun n11 =>
  R (Ending.returned (Value.int IntKind.i64 n11)) H7)))))) (pnR R))))))
theorem F114_eq (x0_0 : Value) (x0_1 : Value) (x0_2 : Value) (x1 : Int) (R : Ending → Heap → Prop) (H : Heap) : F114 x0_0 x0_1 x0_2 x1 R H = vc Tryz.prog (codeOf Tryz.f114) .leaf (postV Tryz.prog Tryz.f114 R) ⟨#[Value.agg #[x0_0, x0_1, x0_2], Value.int IntKind.i64 x1] ++ Array.replicate (Tryz.f114.ntmps - 2) undef, []⟩ H := by kernel_rfl
theorem F114_calls {R : Ending → Heap → Prop} {H : Heap} (x0_0 : Value) (x0_1 : Value) (x0_2 : Value) (x1 : Int) (h : F114 x0_0 x0_1 x0_2 x1 R H) : HCalls Tryz.prog 114 #[Value.agg #[x0_0, x0_1, x0_2], Value.int IntKind.i64 x1] H R :=
  calls_by (F := F114 x0_0 x0_1 x0_2 x1 R H) .leaf Tryz.func114 rfl (F114_eq x0_0 x0_1 x0_2 x1 R H) h
/-- bollard/geom.between -/
def F115 (x0 : Int) (x1 : Int) (x2 : Int) (R : Ending → Heap → Prop) (H : Heap) : Prop :=
  sB (decide (x0 ≥ x1)) (R (Ending.returned (Value.bool (decide (x0 ≤ x2)))) H) (R (Ending.returned (Value.bool false)) H)
theorem F115_eq (x0 : Int) (x1 : Int) (x2 : Int) (R : Ending → Heap → Prop) (H : Heap) : F115 x0 x1 x2 R H = vc Tryz.prog (codeOf Tryz.f115) .leaf (postV Tryz.prog Tryz.f115 R) ⟨#[Value.int IntKind.i64 x0, Value.int IntKind.i64 x1, Value.int IntKind.i64 x2] ++ Array.replicate (Tryz.f115.ntmps - 3) undef, []⟩ H := by kernel_rfl
theorem F115_calls {R : Ending → Heap → Prop} {H : Heap} (x0 : Int) (x1 : Int) (x2 : Int) (h : F115 x0 x1 x2 R H) : HCalls Tryz.prog 115 #[Value.int IntKind.i64 x0, Value.int IntKind.i64 x1, Value.int IntKind.i64 x2] H R :=
  calls_by (F := F115 x0 x1 x2 R H) .leaf Tryz.func115 rfl (F115_eq x0 x1 x2 R H) h
/-- bollard/geom.front -/
def F116 (x0_0 : Value) (x0_1 : Value) (x0_2 : Value) (R : Ending → Heap → Prop) (H : Heap) : Prop :=
  al H (Obj.cells #[x0_0, x0_1, x0_2] 32) (fun r1 H2 =>
  ld H2 (Addr.mk r1 2 none) (fun v3 =>
  dInt IntKind.i64 v3 (fun n4 =>
  ask ((4 : Int) ≠ (0 : Int)) (wr IntKind.i64 (Int.tdiv n4 4) (fun n5 =>
  wr IntKind.i64 (2 + n5) (fun n6 =>
  R (Ending.returned (Value.int IntKind.i64 n6)) H2))))))
theorem F116_eq (x0_0 : Value) (x0_1 : Value) (x0_2 : Value) (R : Ending → Heap → Prop) (H : Heap) : F116 x0_0 x0_1 x0_2 R H = vc Tryz.prog (codeOf Tryz.f116) .leaf (postV Tryz.prog Tryz.f116 R) ⟨#[Value.agg #[x0_0, x0_1, x0_2]] ++ Array.replicate (Tryz.f116.ntmps - 1) undef, []⟩ H := by kernel_rfl
theorem F116_calls {R : Ending → Heap → Prop} {H : Heap} (x0_0 : Value) (x0_1 : Value) (x0_2 : Value) (h : F116 x0_0 x0_1 x0_2 R H) : HCalls Tryz.prog 116 #[Value.agg #[x0_0, x0_1, x0_2]] H R :=
  calls_by (F := F116 x0_0 x0_1 x0_2 R H) .leaf Tryz.func116 rfl (F116_eq x0_0 x0_1 x0_2 R H) h
/-- bollard/bollardref04.Can -/
def F117 (x0_0 : Value) (x0_1 : Value) (x0_2 : Value) (R : Ending → Heap → Prop) (H : Heap) : Prop :=
  al H (Obj.cells #[x0_0, x0_1, x0_2] 32) (fun r1 H2 =>
  jn (α := VFH 1) (fun v3 H4 =>
  ∀ v5 v6 v7 v8 v9 v10 v11 v12 v13 v14 v15 v16 v17 v18 v19 v20 v21 v22 v23 v24 v25 v26 v27 v28 v29 v30 v31 v32 v33 v34 v35 v36 v37 v38 v39 v40 v41 v42 v43 v44 v45 v46 : Value,
  dBl v3 (fun b47 =>
  sB b47 (R (Ending.returned (Value.int IntKind.i64 170)) H4) (R (Ending.returned (Value.int IntKind.i64 0)) H4))) (fun k48 =>
  ld H2 (Addr.mk r1 0 none) (fun v49 =>
  dInt IntKind.i64 v49 (fun n50 =>
  sB (decide (n50 < 1)) (k48 (Value.bool true) H2) (ld H2 (Addr.mk r1 0 none) (fun v51 =>
  dInt IntKind.i64 v51 (fun n52 =>
  sB (decide (n52 > 8)) (k48 (Value.bool true) H2) (ld H2 (Addr.mk r1 1 none) (fun v53 =>
  dInt IntKind.i64 v53 (fun n54 =>
  sB (decide (n54 < 8)) (k48 (Value.bool true) H2) (ld H2 (Addr.mk r1 1 none) (fun v55 =>
  dInt IntKind.i64 v55 (fun n56 =>
  sB (decide (n56 > 256)) (k48 (Value.bool true) H2) (ld H2 (Addr.mk r1 2 none) (fun v57 =>
  dInt IntKind.i64 v57 (fun n58 =>
  sB (decide (n58 < 4)) (k48 (Value.bool true) H2) (ld H2 (Addr.mk r1 2 none) (fun v59 =>
  dInt IntKind.i64 v59 (fun n60 =>
  sB (decide (n60 > 64)) (k48 (Value.bool true) H2) (ld H2 (Addr.mk r1 2 none) (fun v61 =>
  dInt IntKind.i64 v61 (fun n62 =>
  ask ((4 : Int) ≠ (0 : Int)) (nm (Int.tmod n62 4) (fun n63 =>
  sB (n63 != 0) (k48 (Value.bool true) H2) (ld H2 (Addr.mk r1 1 none) (fun v64 =>
  dInt IntKind.i64 v64 (fun n65 =>
  ld H2 (Addr.mk r1 2 none) (fun v66 =>
  dInt IntKind.i64 v66 (fun n67 =>
  ask ((4 : Int) ≠ (0 : Int)) (wr IntKind.i64 (Int.tdiv n67 4) (fun n68 =>
  wr IntKind.i64 (3 + n68) (fun n69 =>
  k48 (Value.bool (decide (n65 < n69))) H2))))))))))))))))))))))))))))))))
theorem F117_eq (x0_0 : Value) (x0_1 : Value) (x0_2 : Value) (R : Ending → Heap → Prop) (H : Heap) : F117 x0_0 x0_1 x0_2 R H = vc Tryz.prog (codeOf Tryz.f117) (.node none .leaf (.node none (.node (some ⟨[(45, 4)], [3, 4, 5, 6, 7, 8, 9, 10, 11, 12, 13, 14, 15, 16, 17, 18, 19, 20, 21, 22, 23, 24, 25, 26, 27, 28, 29, 30, 31, 32, 33, 34, 35, 36, 37, 38, 39, 40, 41, 42, 43, 44]⟩) .leaf .leaf) .leaf)) (postV Tryz.prog Tryz.f117 R) ⟨#[Value.agg #[x0_0, x0_1, x0_2]] ++ Array.replicate (Tryz.f117.ntmps - 1) undef, []⟩ H := by kernel_rfl
theorem F117_calls {R : Ending → Heap → Prop} {H : Heap} (x0_0 : Value) (x0_1 : Value) (x0_2 : Value) (h : F117 x0_0 x0_1 x0_2 R H) : HCalls Tryz.prog 117 #[Value.agg #[x0_0, x0_1, x0_2]] H R :=
  calls_by (F := F117 x0_0 x0_1 x0_2 R H) (.node none .leaf (.node none (.node (some ⟨[(45, 4)], [3, 4, 5, 6, 7, 8, 9, 10, 11, 12, 13, 14, 15, 16, 17, 18, 19, 20, 21, 22, 23, 24, 25, 26, 27, 28, 29, 30, 31, 32, 33, 34, 35, 36, 37, 38, 39, 40, 41, 42, 43, 44]⟩) .leaf .leaf) .leaf)) Tryz.func117 rfl (F117_eq x0_0 x0_1 x0_2 R H) h
/-- bollard/bollardplain.Image -/
def F121 (x0a : Option Addr) (x0n : Nat) (x0c : Nat) (R : Ending → Heap → Prop) (H : Heap) : Prop :=
  ∃ I1 : List Value → Heap → Prop,
  ∃ I2 : List Value → Heap → Nat,
  (I1 ([Value.slice none 0 0, Value.int IntKind.i64 0]) H) ∧
  ∀ p3 : Option Addr,
  ∀ r4 : Nat,
  ∀ r5 : Nat,
  ∀ n6 : Int,
  ∀ v7 v8 v9 v10 v11 v12 v13 v14 v15 v16 : Value,
  ∀ H17 : Heap,
  (I1 ([Value.slice p3 r4 r5, Value.int IntKind.i64 n6]) H17) →
  sB (decide (n6 < (↑x0n : Int))) (nz x0a (fun a19 =>
  ask ((0 : Int) ≤ n6 ∧ n6 < (↑x0n : Int)) (ld H17 (Addr.add a19 (Int.toNat n6 * 1)) (fun v20 =>
  dSl v20 (fun p21 r22 r23 =>
  HCalls Tryz.prog 48 #[Value.slice p21 r22 r23] H17 (Sp.retK (fun v24 H25 =>
  dSl v24 (fun p26 r27 r28 =>
  al H25 (Obj.cells #[Value.slice p26 r27 r28] 38) (fun r29 H30 =>
  semW Tryz.prog (Builtin.append_ #[42, 42] 42 #[Value.slice p3 r4 r5, Value.slice (some (Addr.mk r29 0 none)) 1 1]) (pnR R) H30 (fun v33 H34 =>
  dSl v33 (fun p35 r36 r37 =>
  wr IntKind.i64 (n6 + 1) (fun n38 =>
  (I1 ([Value.slice p35 r36 r37, Value.int IntKind.i64 n38]) H34) ∧
  (I2 [Value.slice p35 r36 r37, Value.int IntKind.i64 n38] H34) < (I2 [Value.slice p3 r4 r5, Value.int IntKind.i64 n6] H17))))))) (pnR R))))))) (R (Ending.returned (Value.slice p3 r4 r5)) H17)
theorem F121_eq (x0a : Option Addr) (x0n : Nat) (x0c : Nat) (R : Ending → Heap → Prop) (H : Heap) : F121 x0a x0n x0c R H = vc Tryz.prog (codeOf Tryz.f121) (.node none .leaf (.node none .leaf (.node none (.node none .leaf (.node none (.node (some ⟨[(3, 42), (8, 3)], [5, 9, 10, 11, 12, 13, 14, 15, 16, 17]⟩) .leaf .leaf) .leaf)) .leaf))) (postV Tryz.prog Tryz.f121 R) ⟨#[Value.slice x0a x0n x0c] ++ Array.replicate (Tryz.f121.ntmps - 1) undef, []⟩ H := by kernel_rfl
theorem F121_calls {R : Ending → Heap → Prop} {H : Heap} (x0a : Option Addr) (x0n : Nat) (x0c : Nat) (h : F121 x0a x0n x0c R H) : HCalls Tryz.prog 121 #[Value.slice x0a x0n x0c] H R :=
  calls_by (F := F121 x0a x0n x0c R H) (.node none .leaf (.node none .leaf (.node none (.node none .leaf (.node none (.node (some ⟨[(3, 42), (8, 3)], [5, 9, 10, 11, 12, 13, 14, 15, 16, 17]⟩) .leaf .leaf) .leaf)) .leaf))) Tryz.func121 rfl (F121_eq x0a x0n x0c R H) h
/-- bollard/bollardref02.Of -/
def F122 (x0a : Option Addr) (x0n : Nat) (x0c : Nat) (R : Ending → Heap → Prop) (H : Heap) : Prop :=
  jn (α := VFH 1) (fun v1 H2 =>
  ∀ v3 v4 v5 v6 v7 v8 v9 : Value,
  dBl v1 (fun b10 =>
  sB b10 (R (Ending.returned (Value.tuple #[Value.pointer none, Value.int IntKind.i64 1])) H2) (ask ((0 : Int) ≤ (↑x0n : Int) ∧ (↑x0n : Int) ≤ (↑x0n : Int) ∧ (8 : Int) * (↑x0n : Int) ≤ (281474976710656 : Int) ∧ (↑x0n : Int) ≤ (9223372036854775807 : Int)) (al H2 (Obj.cells (List.toArray (rowZ [Value.int IntKind.i64 0] (Int.toNat (↑x0n : Int)))) 3) (fun r11 H12 =>
  al H12 (Obj.cells #[Value.slice none 0 0, Value.slice none 0 0, Value.slice (some (Addr.mk r11 0 none)) (Int.toNat (↑x0n : Int)) (Int.toNat (↑x0n : Int)), Value.int IntKind.i64 0] 242) (fun r13 H14 =>
  ∃ I15 : List Value → Heap → Prop,
  ∃ I16 : List Value → Heap → Nat,
  (I15 ([Value.int IntKind.i64 0]) H14) ∧
  ∀ n17 : Int,
  ∀ v18 v19 v20 v21 v22 v23 v24 v25 v26 v27 v28 v29 v30 v31 v32 v33 v34 v35 v36 v37 v38 : Value,
  ∀ H39 : Heap,
  (I15 ([Value.int IntKind.i64 n17]) H39) →
  sB (decide (n17 < (↑x0n : Int))) (nz x0a (fun a41 =>
  ask ((0 : Int) ≤ n17 ∧ n17 < (↑x0n : Int)) (ld H39 (Addr.add a41 (Int.toNat n17 * 1)) (fun v42 =>
  dSl v42 (fun p43 r44 r45 =>
  sB ((↑r44 : Int) != 128) (R (Ending.returned (Value.tuple #[Value.pointer none, Value.int IntKind.i64 1])) H39) (ld H39 (Addr.mk r13 0 none) (fun v46 =>
  dSl v46 (fun p47 r48 r49 =>
  HCalls Tryz.prog 181 #[Value.slice p43 r44 r45] H39 (Sp.retK (fun v50 H51 =>
  dSl v50 (fun p52 r53 r54 =>
  (ld H51 (Addr.mk r13 0 none) (fun v55 =>
  dSl v55 (fun p56 r57 r58 =>
  (Value.slice p56 r57 r58) = (Value.slice p47 r48 r49)))) ∧
  al H51 (Obj.cells #[Value.slice p52 r53 r54] 38) (fun r59 H60 =>
  (ld H60 (Addr.mk r13 0 none) (fun v61 =>
  dSl v61 (fun p62 r63 r64 =>
  (Value.slice p62 r63 r64) = (Value.slice p47 r48 r49)))) ∧
  semW Tryz.prog (Builtin.append_ #[42, 42] 42 #[Value.slice p47 r48 r49, Value.slice (some (Addr.mk r59 0 none)) 1 1]) nopR H60 (fun v67 H68 =>
  dSl v67 (fun p69 r70 r71 =>
  st H68 (Addr.mk r13 0 none) (Value.slice p69 r70 r71) (fun H72 =>
  wr IntKind.i64 (n17 + 1) (fun n73 =>
  (I15 ([Value.int IntKind.i64 n73]) H72) ∧
  (I16 [Value.int IntKind.i64 n73] H72) < (I16 [Value.int IntKind.i64 n17] H39)))))))) nopR))))))))) (R (Ending.returned (Value.tuple #[Value.pointer (some (Addr.mk r13 0 none)), Value.int IntKind.i64 0])) H39))))))) (fun k76 =>
  sB (decide ((↑x0n : Int) < 1)) (k76 (Value.bool true) H) (k76 (Value.bool (decide ((↑x0n : Int) > 2048))) H))
theorem F122_eq (x0a : Option Addr) (x0n : Nat) (x0c : Nat) (R : Ending → Heap → Prop) (H : Heap) : F122 x0a x0n x0c R H = vc Tryz.prog (codeOf Tryz.f122) (.node none .leaf (.node none (.node (some ⟨[(14, 4)], [7, 8, 9, 10, 11, 12, 13]⟩) .leaf .leaf) (.node none .leaf (.node none (.node none .leaf (.node none (.node (some ⟨[(22, 3)], [2, 3, 6, 23, 24, 25, 26, 27, 28, 29, 30, 31, 32, 33, 34, 35, 36, 37, 38, 39, 40]⟩) .leaf .leaf) .leaf)) .leaf)))) (postV Tryz.prog Tryz.f122 R) ⟨#[Value.slice x0a x0n x0c] ++ Array.replicate (Tryz.f122.ntmps - 1) undef, []⟩ H := by kernel_rfl
theorem F122_calls {R : Ending → Heap → Prop} {H : Heap} (x0a : Option Addr) (x0n : Nat) (x0c : Nat) (h : F122 x0a x0n x0c R H) : HCalls Tryz.prog 122 #[Value.slice x0a x0n x0c] H R :=
  calls_by (F := F122 x0a x0n x0c R H) (.node none .leaf (.node none (.node (some ⟨[(14, 4)], [7, 8, 9, 10, 11, 12, 13]⟩) .leaf .leaf) (.node none .leaf (.node none (.node none .leaf (.node none (.node (some ⟨[(22, 3)], [2, 3, 6, 23, 24, 25, 26, 27, 28, 29, 30, 31, 32, 33, 34, 35, 36, 37, 38, 39, 40]⟩) .leaf .leaf) .leaf)) .leaf)))) Tryz.func122 rfl (F122_eq x0a x0n x0c R H) h
/-- bollard/bollardref09.Open -/
def F123 (x0 : Option Addr) (x1 : Int) (R : Ending → Heap → Prop) (H : Heap) : Prop :=
  sB (Option.isNone x0) (R (Ending.returned (Value.tuple #[Value.pointer none, Value.int IntKind.i64 2])) H) (HCalls Tryz.prog 182 #[Value.pointer x0, Value.int IntKind.i64 x1] H (Sp.retK (fun v1 H2 =>
  dT 2 v1 (fun v3 v4 =>
  dPtr v3 (fun p5 =>
  dInt IntKind.i64 v4 (fun n6 =>
  sB (n6 != 0) (R (Ending.returned (Value.tuple #[Value.pointer none, Value.int IntKind.i64 n6])) H2) (al H2 (Obj.cells #[Value.slice none 0 0, Value.int IntKind.i64 0] 247) (fun r7 H8 =>
  al H8 (Obj.cells #[Value.pointer x0, Value.pointer p5, Value.pointer (some (Addr.mk r7 0 none)), Value.slice none 0 0, Value.bool false, Value.bool false, Value.int IntKind.i64 0, Value.slice none 0 0] 223) (fun r9 H10 =>
  R (Ending.returned (Value.tuple #[Value.pointer (some (Addr.mk r9 0 none)), Value.int IntKind.i64 0])) H10))))))) (pnR R)))
theorem F123_eq (x0 : Option Addr) (x1 : Int) (R : Ending → Heap → Prop) (H : Heap) : F123 x0 x1 R H = vc Tryz.prog (codeOf Tryz.f123) .leaf (postV Tryz.prog Tryz.f123 R) ⟨#[Value.pointer x0, Value.int IntKind.i64 x1] ++ Array.replicate (Tryz.f123.ntmps - 2) undef, []⟩ H := by kernel_rfl
theorem F123_calls {R : Ending → Heap → Prop} {H : Heap} (x0 : Option Addr) (x1 : Int) (h : F123 x0 x1 R H) : HCalls Tryz.prog 123 #[Value.pointer x0, Value.int IntKind.i64 x1] H R :=
  calls_by (F := F123 x0 x1 R H) .leaf Tryz.func123 rfl (F123_eq x0 x1 R H) h
/-- (*bollard/cache.Cache).Get -/
def F125 (x0 : Option Addr) (x1 : Int) (R : Ending → Heap → Prop) (H : Heap) : Prop :=
  HCalls Tryz.prog 188 #[Value.pointer x0, Value.int IntKind.i64 x1] H (Sp.retK (fun v1 H2 =>
  dT 2 v1 (fun v3 v4 =>
  dPtr v3 (fun p5 =>
  dInt IntKind.i64 v4 (fun n6 =>
  sB (n6 != 0) (R (Ending.returned (Value.tuple #[Value.slice none 0 0, Value.int IntKind.i64 n6])) H2) (nz p5 (fun a7 =>
  ld H2 a7 (fun v8 =>
  dSl v8 (fun p9 r10 r11 =>
  HCalls Tryz.prog 48 #[Value.slice p9 r10 r11] H2 (Sp.retK (fun v12 H13 =>
  dSl v12 (fun p14 r15 r16 =>
  R (Ending.returned (Value.tuple #[Value.slice p14 r15 r16, Value.int IntKind.i64 0])) H13)) (pnR R)))))))))) (pnR R))
theorem F125_eq (x0 : Option Addr) (x1 : Int) (R : Ending → Heap → Prop) (H : Heap) : F125 x0 x1 R H = vc Tryz.prog (codeOf Tryz.f125) .leaf (postV Tryz.prog Tryz.f125 R) ⟨#[Value.pointer x0, Value.int IntKind.i64 x1] ++ Array.replicate (Tryz.f125.ntmps - 2) undef, []⟩ H := by kernel_rfl
theorem F125_calls {R : Ending → Heap → Prop} {H : Heap} (x0 : Option Addr) (x1 : Int) (h : F125 x0 x1 R H) : HCalls Tryz.prog 125 #[Value.pointer x0, Value.int IntKind.i64 x1] H R :=
  calls_by (F := F125 x0 x1 R H) .leaf Tryz.func125 rfl (F125_eq x0 x1 R H) h
/-- (*bollard/patch.Set).Now -/
def F126 (x0 : Option Addr) (x1 : Int) (x2a : Option Addr) (x2n : Nat) (x2c : Nat) (R : Ending → Heap → Prop) (H : Heap) : Prop :=
  HCalls Tryz.prog 127 #[Value.pointer x0] H (Sp.retK (fun v1 H2 =>
  dBl v1 (fun b3 =>
  sB (!b3) (R (Ending.returned (Value.tuple #[Value.slice none 0 0, Value.int IntKind.i64 2])) H2) (sB ((↑x2n : Int) != 128) (R (Ending.returned (Value.tuple #[Value.slice none 0 0, Value.int IntKind.i64 1])) H2) (HCalls Tryz.prog 112 #[Value.pointer x0, Value.int IntKind.i64 x1] H2 (Sp.retK (fun v4 H5 =>
  dSl v4 (fun p6 r7 r8 =>
  HCalls Tryz.prog 189 #[Value.pointer x0, Value.slice x2a x2n x2c, Value.slice p6 r7 r8] H5 (Sp.retK (fun v9 H10 =>
  dSl v9 (fun p11 r12 r13 =>
  R (Ending.returned (Value.tuple #[Value.slice p11 r12 r13, Value.int IntKind.i64 0])) H10)) (pnR R)))) (pnR R)))))) (pnR R))
theorem F126_eq (x0 : Option Addr) (x1 : Int) (x2a : Option Addr) (x2n : Nat) (x2c : Nat) (R : Ending → Heap → Prop) (H : Heap) : F126 x0 x1 x2a x2n x2c R H = vc Tryz.prog (codeOf Tryz.f126) .leaf (postV Tryz.prog Tryz.f126 R) ⟨#[Value.pointer x0, Value.int IntKind.i64 x1, Value.slice x2a x2n x2c] ++ Array.replicate (Tryz.f126.ntmps - 3) undef, []⟩ H := by kernel_rfl
theorem F126_calls {R : Ending → Heap → Prop} {H : Heap} (x0 : Option Addr) (x1 : Int) (x2a : Option Addr) (x2n : Nat) (x2c : Nat) (h : F126 x0 x1 x2a x2n x2c R H) : HCalls Tryz.prog 126 #[Value.pointer x0, Value.int IntKind.i64 x1, Value.slice x2a x2n x2c] H R :=
  calls_by (F := F126 x0 x1 x2a x2n x2c R H) .leaf Tryz.func126 rfl (F126_eq x0 x1 x2a x2n x2c R H) h
/-- (*bollard/patch.Set).own -/
def F127 (x0 : Option Addr) (R : Ending → Heap → Prop) (H : Heap) : Prop :=
  sB (!Option.isNone x0) (nz x0 (fun a1 =>
  ld H (Addr.add a1 3) (fun v2 =>
  dBl v2 (fun b3 =>
  R (Ending.returned (Value.bool b3)) H)))) (R (Ending.returned (Value.bool false)) H)
theorem F127_eq (x0 : Option Addr) (R : Ending → Heap → Prop) (H : Heap) : F127 x0 R H = vc Tryz.prog (codeOf Tryz.f127) .leaf (postV Tryz.prog Tryz.f127 R) ⟨#[Value.pointer x0] ++ Array.replicate (Tryz.f127.ntmps - 1) undef, []⟩ H := by kernel_rfl
theorem F127_calls {R : Ending → Heap → Prop} {H : Heap} (x0 : Option Addr) (h : F127 x0 R H) : HCalls Tryz.prog 127 #[Value.pointer x0] H R :=
  calls_by (F := F127 x0 R H) .leaf Tryz.func127 rfl (F127_eq x0 R H) h
/-- bollard/patch.fits -/
def F128 (x0 : Int) (x1 : Int) (x2a : Option Addr) (x2n : Nat) (x2c : Nat) (R : Ending → Heap → Prop) (H : Heap) : Prop :=
  sB (decide (x0 ≥ 0)) (sB (decide (x1 ≥ 0)) (sB (decide ((↑x2n : Int) > 0)) (sB (decide (x1 ≤ 128)) (wr IntKind.i64 (128 - x1) (fun n1 =>
  R (Ending.returned (Value.bool (decide ((↑x2n : Int) ≤ n1)))) H)) (R (Ending.returned (Value.bool false)) H)) (R (Ending.returned (Value.bool false)) H)) (R (Ending.returned (Value.bool false)) H)) (R (Ending.returned (Value.bool false)) H)
theorem F128_eq (x0 : Int) (x1 : Int) (x2a : Option Addr) (x2n : Nat) (x2c : Nat) (R : Ending → Heap → Prop) (H : Heap) : F128 x0 x1 x2a x2n x2c R H = vc Tryz.prog (codeOf Tryz.f128) .leaf (postV Tryz.prog Tryz.f128 R) ⟨#[Value.int IntKind.i64 x0, Value.int IntKind.i64 x1, Value.slice x2a x2n x2c] ++ Array.replicate (Tryz.f128.ntmps - 3) undef, []⟩ H := by kernel_rfl
theorem F128_calls {R : Ending → Heap → Prop} {H : Heap} (x0 : Int) (x1 : Int) (x2a : Option Addr) (x2n : Nat) (x2c : Nat) (h : F128 x0 x1 x2a x2n x2c R H) : HCalls Tryz.prog 128 #[Value.int IntKind.i64 x0, Value.int IntKind.i64 x1, Value.slice x2a x2n x2c] H R :=
  calls_by (F := F128 x0 x1 x2a x2n x2c R H) .leaf Tryz.func128 rfl (F128_eq x0 x1 x2a x2n x2c R H) h
/-- (*bollard/patch.Set).Add$1 -/
def F129 (x0 : Int) (f0 : Addr) (R : Ending → Heap → Prop) (H : Heap) : Prop :=
  ld H f0 (fun v1 =>
  dPtr v1 (fun p2 =>
  HCalls Tryz.prog 130 #[Value.pointer p2, Value.int IntKind.i64 x0] H (Sp.retK (fun v3 H4 =>
  dBl v3 (fun b5 =>
  R (Ending.returned (Value.bool !b5)) H4)) (pnR R))))
theorem F129_eq (x0 : Int) (f0 : Addr) (R : Ending → Heap → Prop) (H : Heap) : F129 x0 f0 R H = vc Tryz.prog (codeOf Tryz.f129) .leaf (postV Tryz.prog Tryz.f129 R) ⟨#[Value.int IntKind.i64 x0, Value.pointer (some f0)] ++ Array.replicate (Tryz.f129.ntmps - 2) undef, []⟩ H := by kernel_rfl
theorem F129_calls {R : Ending → Heap → Prop} {H : Heap} (x0 : Int) (f0 : Addr) (h : F129 x0 f0 R H) : HCalls Tryz.prog 129 #[Value.int IntKind.i64 x0, Value.pointer (some f0)] H R :=
  calls_by (F := F129 x0 f0 R H) .leaf Tryz.func129 rfl (F129_eq x0 f0 R H) h
/-- (*bollard/patch.Set).known -/
def F130 (x0 : Option Addr) (x1 : Int) (R : Ending → Heap → Prop) (H : Heap) : Prop :=
  sB (decide (x1 ≥ 1)) (nz x0 (fun a1 =>
  ld H a1 (fun v2 =>
  dInt IntKind.i64 v2 (fun n3 =>
  R (Ending.returned (Value.bool (decide (x1 ≤ n3)))) H)))) (R (Ending.returned (Value.bool false)) H)
theorem F130_eq (x0 : Option Addr) (x1 : Int) (R : Ending → Heap → Prop) (H : Heap) : F130 x0 x1 R H = vc Tryz.prog (codeOf Tryz.f130) .leaf (postV Tryz.prog Tryz.f130 R) ⟨#[Value.pointer x0, Value.int IntKind.i64 x1] ++ Array.replicate (Tryz.f130.ntmps - 2) undef, []⟩ H := by kernel_rfl
theorem F130_calls {R : Ending → Heap → Prop} {H : Heap} (x0 : Option Addr) (x1 : Int) (h : F130 x0 x1 R H) : HCalls Tryz.prog 130 #[Value.pointer x0, Value.int IntKind.i64 x1] H R :=
  calls_by (F := F130 x0 x1 R H) .leaf Tryz.func130 rfl (F130_eq x0 x1 R H) h
/-- slices.Clone[[]int,int] -/
def F131 (x0a : Option Addr) (x0n : Nat) (x0c : Nat) (R : Ending → Heap → Prop) (H : Heap) : Prop :=
  sB (Option.isNone x0a) (R (Ending.returned (Value.slice none 0 0)) H) (al H (Obj.cells #[] 3) (fun r1 H2 =>
  semW Tryz.prog (Builtin.append_ #[73, 73] 73 #[Value.slice (some (Addr.mk r1 0 none)) 0 0, Value.slice x0a x0n x0c]) (pnR R) H2 (fun v5 H6 =>
  dSl v5 (fun p7 r8 r9 =>
  R (Ending.returned (Value.slice p7 r8 r9)) H6))))
theorem F131_eq (x0a : Option Addr) (x0n : Nat) (x0c : Nat) (R : Ending → Heap → Prop) (H : Heap) : F131 x0a x0n x0c R H = vc Tryz.prog (codeOf Tryz.f131) .leaf (postV Tryz.prog Tryz.f131 R) ⟨#[Value.slice x0a x0n x0c] ++ Array.replicate (Tryz.f131.ntmps - 1) undef, []⟩ H := by kernel_rfl
theorem F131_calls {R : Ending → Heap → Prop} {H : Heap} (x0a : Option Addr) (x0n : Nat) (x0c : Nat) (h : F131 x0a x0n x0c R H) : HCalls Tryz.prog 131 #[Value.slice x0a x0n x0c] H R :=
  calls_by (F := F131 x0a x0n x0c R H) .leaf Tryz.func131 rfl (F131_eq x0a x0n x0c R H) h
end Go.Proofs.YtngploohhmfaiaaGreat.E
/- The functions' forms in the engine's words, printed by my own program. -/
namespace Go.Proofs.YtngploohhmfaiaaGreat.E
open Go Go.Proofs
set_option linter.unusedVariables false
/-- bollard/patch.overlap -/
def F132 (x0_0 : Value) (x0_1 : Value) (x0_2 : Value) (x0_3 : Value) (x0_4 : Value) (x1_0 : Value) (x1_1 : Value) (x1_2 : Value) (x1_3 : Value) (x1_4 : Value) (R : Ending → Heap → Prop) (H : Heap) : Prop :=
  al H (Obj.cells #[x0_0, x0_1, x0_2, x0_3, x0_4] 194) (fun r1 H2 =>
  al H2 (Obj.cells #[x1_0, x1_1, x1_2, x1_3, x1_4] 194) (fun r3 H4 =>
  ld H4 (Addr.mk r1 1 none) (fun v5 =>
  dInt IntKind.i64 v5 (fun n6 =>
  ld H4 (Addr.mk r3 1 none) (fun v7 =>
  dInt IntKind.i64 v7 (fun n8 =>
  sB (n6 == n8) (ld H4 (Addr.mk r1 2 none) (fun v9 =>
  dInt IntKind.i64 v9 (fun n10 =>
  ld H4 (Addr.mk r3 2 none) (fun v11 =>
  dInt IntKind.i64 v11 (fun n12 =>
  ld H4 (Addr.mk r3 3 none) (fun v13 =>
  dSl v13 (fun p14 r15 r16 =>
  wr IntKind.i64 (n12 + (↑r15 : Int)) (fun n17 =>
  sB (decide (n10 < n17)) (ld H4 (Addr.mk r3 2 none) (fun v18 =>
  dInt IntKind.i64 v18 (fun n19 =>
  ld H4 (Addr.mk r1 2 none) (fun v20 =>
  dInt IntKind.i64 v20 (fun n21 =>
  ld H4 (Addr.mk r1 3 none) (fun v22 =>
  dSl v22 (fun p23 r24 r25 =>
  wr IntKind.i64 (n21 + (↑r24 : Int)) (fun n26 =>
  R (Ending.returned (Value.bool (decide (n19 < n26)))) H4)))))))) (R (Ending.returned (Value.bool false)) H4))))))))) (R (Ending.returned (Value.bool false)) H4)))))))
theorem F132_eq (x0_0 : Value) (x0_1 : Value) (x0_2 : Value) (x0_3 : Value) (x0_4 : Value) (x1_0 : Value) (x1_1 : Value) (x1_2 : Value) (x1_3 : Value) (x1_4 : Value) (R : Ending → Heap → Prop) (H : Heap) : F132 x0_0 x0_1 x0_2 x0_3 x0_4 x1_0 x1_1 x1_2 x1_3 x1_4 R H = vc Tryz.prog (codeOf Tryz.f132) .leaf (postV Tryz.prog Tryz.f132 R) ⟨#[Value.agg #[x0_0, x0_1, x0_2, x0_3, x0_4], Value.agg #[x1_0, x1_1, x1_2, x1_3, x1_4]] ++ Array.replicate (Tryz.f132.ntmps - 2) undef, []⟩ H := by kernel_rfl
theorem F132_calls {R : Ending → Heap → Prop} {H : Heap} (x0_0 : Value) (x0_1 : Value) (x0_2 : Value) (x0_3 : Value) (x0_4 : Value) (x1_0 : Value) (x1_1 : Value) (x1_2 : Value) (x1_3 : Value) (x1_4 : Value) (h : F132 x0_0 x0_1 x0_2 x0_3 x0_4 x1_0 x1_1 x1_2 x1_3 x1_4 R H) : HCalls Tryz.prog 132 #[Value.agg #[x0_0, x0_1, x0_2, x0_3, x0_4], Value.agg #[x1_0, x1_1, x1_2, x1_3, x1_4]] H R :=
  calls_by (F := F132 x0_0 x0_1 x0_2 x0_3 x0_4 x1_0 x1_1 x1_2 x1_3 x1_4 R H) .leaf Tryz.func132 rfl (F132_eq x0_0 x0_1 x0_2 x0_3 x0_4 x1_0 x1_1 x1_2 x1_3 x1_4 R H) h
/-- (*bollard/patch.Set).pending -/
def F133 (x0 : Option Addr) (x1a : Option Addr) (x1n : Nat) (x1c : Nat) (R : Ending → Heap → Prop) (H : Heap) : Prop :=
  ∃ I1 : List Value → Heap → Prop,
  ∃ I2 : List Value → Heap → Nat,
  (I1 ([Value.slice none 0 0, Value.int IntKind.i64 0]) H) ∧
  ∀ p3 : Option Addr,
  ∀ r4 : Nat,
  ∀ r5 : Nat,
  ∀ n6 : Int,
  ∀ v7 v8 v9 v10 v11 v12 v13 v14 v15 v16 v17 v18 v19 v20 v21 v22 v23 v24 v25 v26 v27 : Value,
  ∀ H28 : Heap,
  (I1 ([Value.slice p3 r4 r5, Value.int IntKind.i64 n6]) H28) →
  sB (decide (n6 < (↑x1n : Int))) (jn (α := VFH 1) (fun v30 H31 =>
  ∀ v32 v33 v34 v35 v36 v37 v38 v39 v40 v41 v42 v43 v44 v45 v46 v47 v48 v49 v50 : Value,
  dSl v30 (fun p51 r52 r53 =>
  wr IntKind.i64 (n6 + 1) (fun n54 =>
  (I1 ([Value.slice p51 r52 r53, Value.int IntKind.i64 n54]) H31) ∧
  (I2 [Value.slice p51 r52 r53, Value.int IntKind.i64 n54] H31) < (I2 [Value.slice p3 r4 r5, Value.int IntKind.i64 n6] H28)))) (fun k55 =>
  nz x1a (fun a56 =>
  ask ((0 : Int) ≤ n6 ∧ n6 < (↑x1n : Int)) (ld H28 (Addr.add a56 (Int.toNat n6 * 1)) (fun v57 =>
  dInt IntKind.i64 v57 (fun n58 =>
  nz x0 (fun a59 =>
  ld H28 (Addr.add a59 2) (fun v60 =>
  dMap v60 (fun p61 =>
  semW Tryz.prog (Instr.lookup 190 (Value.map p61) (Value.int IntKind.i64 n58) true) (pnR R) H28 (fun v64 H65 =>
  dT 2 v64 (fun v66 v67 =>
  dA 5 v66 (fun v68 v69 v70 v71 v72 =>
  dBl v67 (fun b73 =>
  al H65 (Obj.cells #[Value.int IntKind.i64 0, Value.int IntKind.i64 0, Value.int IntKind.i64 0, Value.slice none 0 0, Value.slice none 0 0] 194) (fun r74 H75 =>
  st H75 (Addr.mk r74 0 none) v68 (fun H76 =>
  st H76 (Addr.mk r74 1 none) v69 (fun H77 =>
  st H77 (Addr.mk r74 2 none) v70 (fun H78 =>
  st H78 (Addr.mk r74 3 none) v71 (fun H79 =>
  st H79 (Addr.mk r74 4 none) v72 (fun H80 =>
  sB b73 (al H80 (Obj.cells #[Value.int IntKind.i64 n58] 3) (fun r81 H82 =>
  semW Tryz.prog (Builtin.append_ #[73, 73] 73 #[Value.slice p3 r4 r5, Value.slice (some (Addr.mk r81 0 none)) 1 1]) (pnR R) H82 (fun v85 H86 =>
  dSl v85 (fun p87 r88 r89 =>
  k55 (Value.slice p87 r88 r89) H86)))) (k55 (Value.slice p3 r4 r5) H80)))))))))))))))))))) (HCalls Tryz.prog 156 #[Value.slice p3 r4 r5] H28 (Sp.retK (fun v90 H91 =>
  HCalls Tryz.prog 157 #[Value.slice p3 r4 r5] H91 (Sp.retK (fun v92 H93 =>
  dSl v92 (fun p94 r95 r96 =>
  R (Ending.returned (Value.slice p94 r95 r96)) H93)) (pnR R))) (pnR R)))
theorem F133_eq (x0 : Option Addr) (x1a : Option Addr) (x1n : Nat) (x1c : Nat) (R : Ending → Heap → Prop) (H : Heap) : F133 x0 x1a x1n x1c R H = vc Tryz.prog (codeOf Tryz.f133) (.node none .leaf (.node none .leaf (.node none (.node none .leaf (.node none (.node (some ⟨[(5, 73), (12, 3)], [7, 8, 9, 13, 14, 15, 16, 17, 18, 19, 20, 21, 22, 23, 24, 25, 26, 27, 28, 29, 30]⟩) (.node none .leaf (.node none .leaf (.node (some ⟨[(5, 73)], [7, 8, 9, 14, 15, 16, 17, 18, 19, 20, 21, 22, 23, 24, 25, 26, 27, 28, 29]⟩) .leaf .leaf))) .leaf) .leaf)) .leaf))) (postV Tryz.prog Tryz.f133 R) ⟨#[Value.pointer x0, Value.slice x1a x1n x1c] ++ Array.replicate (Tryz.f133.ntmps - 2) undef, []⟩ H := by kernel_rfl
theorem F133_calls {R : Ending → Heap → Prop} {H : Heap} (x0 : Option Addr) (x1a : Option Addr) (x1n : Nat) (x1c : Nat) (h : F133 x0 x1a x1n x1c R H) : HCalls Tryz.prog 133 #[Value.pointer x0, Value.slice x1a x1n x1c] H R :=
  calls_by (F := F133 x0 x1a x1n x1c R H) (.node none .leaf (.node none .leaf (.node none (.node none .leaf (.node none (.node (some ⟨[(5, 73), (12, 3)], [7, 8, 9, 13, 14, 15, 16, 17, 18, 19, 20, 21, 22, 23, 24, 25, 26, 27, 28, 29, 30]⟩) (.node none .leaf (.node none .leaf (.node (some ⟨[(5, 73)], [7, 8, 9, 14, 15, 16, 17, 18, 19, 20, 21, 22, 23, 24, 25, 26, 27, 28, 29]⟩) .leaf .leaf))) .leaf) .leaf)) .leaf))) Tryz.func133 rfl (F133_eq x0 x1a x1n x1c R H) h
/-- bollard/geom.Header -/
def F134 (x0_0 : Value) (x0_1 : Value) (x0_2 : Value) (x1 : Int) (R : Ending → Heap → Prop) (H : Heap) : Prop :=
  al H (Obj.cells #[x0_0, x0_1, x0_2] 32) (fun r1 H2 =>
  ld H2 (Addr.mk r1 0 none) (fun v3 =>
  ld H2 (Addr.mk r1 1 none) (fun v4 =>
  ld H2 (Addr.mk r1 2 none) (fun v5 =>
  HCalls Tryz.prog 136 #[Value.agg #[v3, v4, v5], Value.int IntKind.i64 x1, Value.int IntKind.i64 1] H2 (Sp.retK (fun v6 H7 =>
  dT 2 v6 (fun v8 v9 =>
  dInt IntKind.i64 v8 (fun n10 =>
  dBl v9 (fun b11 =>
  R (Ending.returned (Value.tuple #[Value.int IntKind.i64 n10, Value.bool b11])) H7)))) (pnR R))))))
theorem F134_eq (x0_0 : Value) (x0_1 : Value) (x0_2 : Value) (x1 : Int) (R : Ending → Heap → Prop) (H : Heap) : F134 x0_0 x0_1 x0_2 x1 R H = vc Tryz.prog (codeOf Tryz.f134) .leaf (postV Tryz.prog Tryz.f134 R) ⟨#[Value.agg #[x0_0, x0_1, x0_2], Value.int IntKind.i64 x1] ++ Array.replicate (Tryz.f134.ntmps - 2) undef, []⟩ H := by kernel_rfl
theorem F134_calls {R : Ending → Heap → Prop} {H : Heap} (x0_0 : Value) (x0_1 : Value) (x0_2 : Value) (x1 : Int) (h : F134 x0_0 x0_1 x0_2 x1 R H) : HCalls Tryz.prog 134 #[Value.agg #[x0_0, x0_1, x0_2], Value.int IntKind.i64 x1] H R :=
  calls_by (F := F134 x0_0 x0_1 x0_2 x1 R H) .leaf Tryz.func134 rfl (F134_eq x0_0 x0_1 x0_2 x1 R H) h
/-- bollard/geom.at -/
def F136 (x0_0 : Value) (x0_1 : Value) (x0_2 : Value) (x1 : Int) (x2 : Int) (R : Ending → Heap → Prop) (H : Heap) : Prop :=
  al H (Obj.cells #[x0_0, x0_1, x0_2] 32) (fun r1 H2 =>
  jn (α := VFH 1) (fun v3 H4 =>
  ∀ v5 v6 v7 v8 v9 v10 v11 v12 v13 v14 : Value,
  dBl v3 (fun b15 =>
  sB b15 (R (Ending.returned (Value.tuple #[Value.int IntKind.i64 0, Value.bool false])) H4) (ld H4 (Addr.mk r1 1 none) (fun v16 =>
  dInt IntKind.i64 v16 (fun n17 =>
  wr IntKind.i64 (x1 * n17) (fun n18 =>
  wr IntKind.i64 (n18 + x2) (fun n19 =>
  R (Ending.returned (Value.tuple #[Value.int IntKind.i64 n19, Value.bool true])) H4))))))) (fun k20 =>
  ld H2 (Addr.mk r1 0 none) (fun v21 =>
  ld H2 (Addr.mk r1 1 none) (fun v22 =>
  ld H2 (Addr.mk r1 2 none) (fun v23 =>
  HCalls Tryz.prog 65 #[Value.agg #[v21, v22, v23]] H2 (Sp.retK (fun v24 H25 =>
  dInt IntKind.i64 v24 (fun n26 =>
  sB (n26 != 0) (k20 (Value.bool true) H25) (ld H25 (Addr.mk r1 0 none) (fun v27 =>
  dInt IntKind.i64 v27 (fun n28 =>
  wr IntKind.i64 (n28 - 1) (fun n29 =>
  HCalls Tryz.prog 115 #[Value.int IntKind.i64 x1, Value.int IntKind.i64 0, Value.int IntKind.i64 n29] H25 (Sp.retK (fun v30 H31 =>
  dBl v30 (fun b32 =>
  k20 (Value.bool !b32) H31)) (pnR R)))))))) (pnR R)))))))
theorem F136_eq (x0_0 : Value) (x0_1 : Value) (x0_2 : Value) (x1 : Int) (x2 : Int) (R : Ending → Heap → Prop) (H : Heap) : F136 x0_0 x0_1 x0_2 x1 x2 R H = vc Tryz.prog (codeOf Tryz.f136) (.node none .leaf (.node none (.node (some ⟨[(18, 4)], [8, 9, 10, 11, 12, 13, 14, 15, 16, 17]⟩) .leaf .leaf) .leaf)) (postV Tryz.prog Tryz.f136 R) ⟨#[Value.agg #[x0_0, x0_1, x0_2], Value.int IntKind.i64 x1, Value.int IntKind.i64 x2] ++ Array.replicate (Tryz.f136.ntmps - 3) undef, []⟩ H := by kernel_rfl
theorem F136_calls {R : Ending → Heap → Prop} {H : Heap} (x0_0 : Value) (x0_1 : Value) (x0_2 : Value) (x1 : Int) (x2 : Int) (h : F136 x0_0 x0_1 x0_2 x1 x2 R H) : HCalls Tryz.prog 136 #[Value.agg #[x0_0, x0_1, x0_2], Value.int IntKind.i64 x1, Value.int IntKind.i64 x2] H R :=
  calls_by (F := F136 x0_0 x0_1 x0_2 x1 x2 R H) (.node none .leaf (.node none (.node (some ⟨[(18, 4)], [8, 9, 10, 11, 12, 13, 14, 15, 16, 17]⟩) .leaf .leaf) .leaf)) Tryz.func136 rfl (F136_eq x0_0 x0_1 x0_2 x1 x2 R H) h
/-- bollard/geom.split -/
def F137 (x0 : Int) (x1 : Int) (x2 : Int) (R : Ending → Heap → Prop) (H : Heap) : Prop :=
  wr IntKind.i64 (x2 - 1) (fun n1 =>
  HCalls Tryz.prog 115 #[Value.int IntKind.i64 x0, Value.int IntKind.i64 0, Value.int IntKind.i64 n1] H (Sp.retK (fun v2 H3 =>
  dBl v2 (fun b4 =>
  sB (!b4) (R (Ending.returned (Value.tuple #[Value.int IntKind.i64 0, Value.int IntKind.i64 0, Value.bool false])) H3) (ask (x1 ≠ (0 : Int)) (wr IntKind.i64 (Int.tdiv x0 x1) (fun n5 =>
  ask (x1 ≠ (0 : Int)) (nm (Int.tmod x0 x1) (fun n6 =>
  R (Ending.returned (Value.tuple #[Value.int IntKind.i64 n5, Value.int IntKind.i64 n6, Value.bool true])) H3))))))) (pnR R)))
theorem F137_eq (x0 : Int) (x1 : Int) (x2 : Int) (R : Ending → Heap → Prop) (H : Heap) : F137 x0 x1 x2 R H = vc Tryz.prog (codeOf Tryz.f137) .leaf (postV Tryz.prog Tryz.f137 R) ⟨#[Value.int IntKind.i64 x0, Value.int IntKind.i64 x1, Value.int IntKind.i64 x2] ++ Array.replicate (Tryz.f137.ntmps - 3) undef, []⟩ H := by kernel_rfl
theorem F137_calls {R : Ending → Heap → Prop} {H : Heap} (x0 : Int) (x1 : Int) (x2 : Int) (h : F137 x0 x1 x2 R H) : HCalls Tryz.prog 137 #[Value.int IntKind.i64 x0, Value.int IntKind.i64 x1, Value.int IntKind.i64 x2] H R :=
  calls_by (F := F137 x0 x1 x2 R H) .leaf Tryz.func137 rfl (F137_eq x0 x1 x2 R H) h
/-- bollard/bits.First -/
def F138 (x0a : Option Addr) (x0n : Nat) (x0c : Nat) (x1 : Int) (x2 : Int) (R : Ending → Heap → Prop) (H : Heap) : Prop :=
  HCalls Tryz.prog 151 #[Value.int IntKind.i64 x1] H (Sp.retK (fun v1 H2 =>
  dInt IntKind.i64 v1 (fun n3 =>
  jn (α := VFH 1) (fun v4 H5 =>
  ∀ v6 v7 v8 v9 v10 v11 v12 : Value,
  dInt IntKind.i64 v4 (fun n13 =>
  ∃ I14 : List Value → Heap → Prop,
  ∃ I15 : List Value → Heap → Nat,
  (I14 ([Value.int IntKind.i64 0]) H5) ∧
  ∀ n16 : Int,
  ∀ v17 v18 v19 v20 v21 v22 v23 v24 v25 v26 v27 v28 v29 v30 v31 v32 v33 v34 v35 v36 v37 : Value,
  ∀ H38 : Heap,
  (I14 ([Value.int IntKind.i64 n16]) H38) →
  sB (decide (n16 < n3)) (wr IntKind.i64 (n13 + n16) (fun n40 =>
  jn (α := VFH 1) (fun v41 H42 =>
  ∀ v43 v44 v45 v46 v47 v48 : Value,
  dInt IntKind.i64 v41 (fun n49 =>
  HCalls Tryz.prog 152 #[Value.slice x0a x0n x0c, Value.int IntKind.i64 n49] H42 (Sp.retK (fun v50 H51 =>
  dBl v50 (fun b52 =>
  sB (!b52) (R (Ending.returned (Value.tuple #[Value.int IntKind.i64 n49, Value.bool true])) H51) (wr IntKind.i64 (n16 + 1) (fun n53 =>
  (I14 ([Value.int IntKind.i64 n53]) H51) ∧
  (I15 [Value.int IntKind.i64 n53] H51) < (I15 [Value.int IntKind.i64 n16] H38))))) (pnR R)))) (fun k56 =>
  sB (decide (n40 ≥ n3)) (wr IntKind.i64 (n40 - n3) (fun n57 =>
  k56 (Value.int IntKind.i64 n57) H38)) (k56 (Value.int IntKind.i64 n40) H38)))) (R (Ending.returned (Value.tuple #[Value.int IntKind.i64 0, Value.bool false])) H38))) (fun k58 =>
  jn (α := VFH 1) (fun v59 H60 =>
  ∀ v61 v62 v63 v64 v65 v66 : Value,
  dBl v59 (fun b67 =>
  sB b67 (k58 (Value.int IntKind.i64 0) H60) (k58 (Value.int IntKind.i64 x2) H60))) (fun k68 =>
  sB (decide (x2 < 0)) (k68 (Value.bool true) H2) (k68 (Value.bool (decide (x2 ≥ n3))) H2))))) (pnR R))
theorem F138_eq (x0a : Option Addr) (x0n : Nat) (x0c : Nat) (x1 : Int) (x2 : Int) (R : Ending → Heap → Prop) (H : Heap) : F138 x0a x0n x0c x1 x2 R H = vc Tryz.prog (codeOf Tryz.f138) (.node none .leaf (.node none .leaf (.node (some ⟨[(2, 3)], [12, 13, 14, 15, 16, 17, 18]⟩) (.node (some ⟨[(18, 4)], [12, 13, 14, 15, 16, 17]⟩) .leaf .leaf) (.node none (.node none .leaf (.node none (.node (some ⟨[(20, 3)], [6, 7, 8, 9, 21, 22, 23, 24, 25, 26, 27, 28, 29, 30, 31, 32, 33, 34, 35, 36, 37]⟩) (.node none .leaf (.node none .leaf (.node none (.node none (.node none .leaf (.node none .leaf (.node (some ⟨[(9, 3)], [26, 27, 28, 29, 30, 31]⟩) .leaf .leaf))) .leaf) .leaf))) .leaf) .leaf)) .leaf)))) (postV Tryz.prog Tryz.f138 R) ⟨#[Value.slice x0a x0n x0c, Value.int IntKind.i64 x1, Value.int IntKind.i64 x2] ++ Array.replicate (Tryz.f138.ntmps - 3) undef, []⟩ H := by kernel_rfl
theorem F138_calls {R : Ending → Heap → Prop} {H : Heap} (x0a : Option Addr) (x0n : Nat) (x0c : Nat) (x1 : Int) (x2 : Int) (h : F138 x0a x0n x0c x1 x2 R H) : HCalls Tryz.prog 138 #[Value.slice x0a x0n x0c, Value.int IntKind.i64 x1, Value.int IntKind.i64 x2] H R :=
  calls_by (F := F138 x0a x0n x0c x1 x2 R H) (.node none .leaf (.node none .leaf (.node (some ⟨[(2, 3)], [12, 13, 14, 15, 16, 17, 18]⟩) (.node (some ⟨[(18, 4)], [12, 13, 14, 15, 16, 17]⟩) .leaf .leaf) (.node none (.node none .leaf (.node none (.node (some ⟨[(20, 3)], [6, 7, 8, 9, 21, 22, 23, 24, 25, 26, 27, 28, 29, 30, 31, 32, 33, 34, 35, 36, 37]⟩) (.node none .leaf (.node none .leaf (.node none (.node none (.node none .leaf (.node none .leaf (.node (some ⟨[(9, 3)], [26, 27, 28, 29, 30, 31]⟩) .leaf .leaf))) .leaf) .leaf))) .leaf) .leaf)) .leaf)))) Tryz.func138 rfl (F138_eq x0a x0n x0c x1 x2 R H) h
/-- bollard/bits.With -/
def F139 (x0a : Option Addr) (x0n : Nat) (x0c : Nat) (x1 : Int) (x2 : Bool) (R : Ending → Heap → Prop) (H : Heap) : Prop :=
  jn (α := VFH 1) (fun v1 H2 =>
  ∀ v3 v4 v5 v6 v7 v8 v9 v10 : Value,
  dBl v1 (fun b11 =>
  sB b11 (R (Ending.returned (Value.tuple #[Value.slice none 0 0, Value.int IntKind.i64 50])) H2) (semW Tryz.prog (Builtin.append_ #[38, 38] 38 #[Value.slice none 0 0, Value.slice x0a x0n x0c]) (pnR R) H2 (fun v14 H15 =>
  dSl v14 (fun p16 r17 r18 =>
  ask ((8 : Int) ≠ (0 : Int)) (wr IntKind.i64 (Int.tdiv x1 8) (fun n19 =>
  nz p16 (fun a20 =>
  ask ((0 : Int) ≤ n19 ∧ n19 < (↑r17 : Int)) (ld H15 (Addr.add a20 (Int.toNat n19 * 1)) (fun v21 =>
  dInt IntKind.u8 v21 (fun n22 =>
  ask ((8 : Int) ≠ (0 : Int)) (nm (Int.tmod x1 8) (fun n23 =>
  ask ((0 : Int) ≤ n23) (nm (IntKind.wrap IntKind.u8 (1 * 2 ^ min (Int.toNat n23) 8)) (fun n24 =>
  nm (IntKind.wrap IntKind.u8 (↑(BitVec.toNat (BitVec.ofInt 8 n22 &&& ~~~BitVec.ofInt 8 n24)) : Int)) (fun n25 =>
  nz p16 (fun a26 =>
  ask ((0 : Int) ≤ n19 ∧ n19 < (↑r17 : Int)) (st H15 (Addr.add a26 (Int.toNat n19 * 1)) (Value.int IntKind.u8 n25) (fun H27 =>
  jn (α := VFH 0) (fun H28 =>
  ∀ v29 v30 v31 v32 v33 v34 v35 v36 v37 v38 v39 : Value,
  R (Ending.returned (Value.tuple #[Value.slice p16 r17 r18, Value.int IntKind.i64 0])) H28) (fun k40 =>
  sB x2 (ask ((8 : Int) ≠ (0 : Int)) (wr IntKind.i64 (Int.tdiv x1 8) (fun n41 =>
  nz p16 (fun a42 =>
  ask ((0 : Int) ≤ n41 ∧ n41 < (↑r17 : Int)) (ld H27 (Addr.add a42 (Int.toNat n41 * 1)) (fun v43 =>
  dInt IntKind.u8 v43 (fun n44 =>
  ask ((8 : Int) ≠ (0 : Int)) (nm (Int.tmod x1 8) (fun n45 =>
  ask ((0 : Int) ≤ n45) (nm (IntKind.wrap IntKind.u8 (1 * 2 ^ min (Int.toNat n45) 8)) (fun n46 =>
  nm (IntKind.wrap IntKind.u8 (↑(BitVec.toNat (BitVec.ofInt 8 n44 ||| BitVec.ofInt 8 n46)) : Int)) (fun n47 =>
  nz p16 (fun a48 =>
  ask ((0 : Int) ≤ n41 ∧ n41 < (↑r17 : Int)) (st H27 (Addr.add a48 (Int.toNat n41 * 1)) (Value.int IntKind.u8 n47) (fun H49 =>
  k40 H49))))))))))))))) (k40 H27))))))))))))))))))))) (fun k50 =>
  sB (decide (x1 < 0)) (k50 (Value.bool true) H) (ask ((8 : Int) ≠ (0 : Int)) (wr IntKind.i64 (Int.tdiv x1 8) (fun n51 =>
  k50 (Value.bool (decide (n51 ≥ (↑x0n : Int)))) H))))
theorem F139_eq (x0a : Option Addr) (x0n : Nat) (x0c : Nat) (x1 : Int) (x2 : Bool) (R : Ending → Heap → Prop) (H : Heap) : F139 x0a x0n x0c x1 x2 R H = vc Tryz.prog (codeOf Tryz.f139) (.node none .leaf (.node none (.node (some ⟨[(17, 4)], [9, 10, 11, 12, 13, 14, 15, 16]⟩) .leaf .leaf) (.node none .leaf (.node none .leaf (.node (some ⟨[], [30, 31, 32, 33, 34, 35, 36, 37, 38, 39, 40]⟩) .leaf .leaf))))) (postV Tryz.prog Tryz.f139 R) ⟨#[Value.slice x0a x0n x0c, Value.int IntKind.i64 x1, Value.bool x2] ++ Array.replicate (Tryz.f139.ntmps - 3) undef, []⟩ H := by kernel_rfl
theorem F139_calls {R : Ending → Heap → Prop} {H : Heap} (x0a : Option Addr) (x0n : Nat) (x0c : Nat) (x1 : Int) (x2 : Bool) (h : F139 x0a x0n x0c x1 x2 R H) : HCalls Tryz.prog 139 #[Value.slice x0a x0n x0c, Value.int IntKind.i64 x1, Value.bool x2] H R :=
  calls_by (F := F139 x0a x0n x0c x1 x2 R H) (.node none .leaf (.node none (.node (some ⟨[(17, 4)], [9, 10, 11, 12, 13, 14, 15, 16]⟩) .leaf .leaf) (.node none .leaf (.node none .leaf (.node (some ⟨[], [30, 31, 32, 33, 34, 35, 36, 37, 38, 39, 40]⟩) .leaf .leaf))))) Tryz.func139 rfl (F139_eq x0a x0n x0c x1 x2 R H) h
/-- slices.DeleteFunc[[]int,int] -/
def F140 (x0a : Option Addr) (x0n : Nat) (x0c : Nat) (x1g : Nat) (x1f : Array Value) (x1c : Array Value) (R : Ending → Heap → Prop) (H : Heap) : Prop :=
  HCalls Tryz.prog 148 #[Value.slice x0a x0n x0c, Value.func (Fn.func x1g) x1f x1c] H (Sp.retK (fun v1 H2 =>
  dInt IntKind.i64 v1 (fun n3 =>
  sB (n3 == -1) (R (Ending.returned (Value.slice x0a x0n x0c)) H2) (wr IntKind.i64 (n3 + 1) (fun n4 =>
  ∃ I5 : List Value → Heap → Prop,
  ∃ I6 : List Value → Heap → Nat,
  (I5 ([Value.int IntKind.i64 n3, Value.int IntKind.i64 n4]) H2) ∧
  ∀ n7 : Int,
  ∀ n8 : Int,
  ∀ v9 v10 v11 v12 v13 v14 v15 v16 v17 v18 v19 v20 v21 v22 v23 v24 v25 v26 v27 v28 v29 : Value,
  ∀ H30 : Heap,
  (I5 ([Value.int IntKind.i64 n7, Value.int IntKind.i64 n8]) H30) →
  sB (decide (n8 < (↑x0n : Int))) (jn (α := VFH 1) (fun v32 H33 =>
  ∀ v34 v35 v36 v37 v38 v39 v40 v41 v42 v43 v44 v45 v46 v47 v48 : Value,
  dInt IntKind.i64 v32 (fun n49 =>
  wr IntKind.i64 (n8 + 1) (fun n50 =>
  (I5 ([Value.int IntKind.i64 n49, Value.int IntKind.i64 n50]) H33) ∧
  (I6 [Value.int IntKind.i64 n49, Value.int IntKind.i64 n50] H33) < (I6 [Value.int IntKind.i64 n7, Value.int IntKind.i64 n8] H30)))) (fun k51 =>
  nz x0a (fun a52 =>
  ask ((0 : Int) ≤ n8 ∧ n8 < (↑x0n : Int)) (ld H30 (Addr.add a52 (Int.toNat n8 * 1)) (fun v53 =>
  dInt IntKind.i64 v53 (fun n54 =>
  gB (plainFn Tryz.prog x1g) (HCalls Tryz.prog x1g (argsOf x1f [Value.int IntKind.i64 n54] x1c) H30 (Sp.retK (fun v55 H56 =>
  dBl v55 (fun b57 =>
  sB (!b57) (nz x0a (fun a58 =>
  ask ((0 : Int) ≤ n7 ∧ n7 < (↑x0n : Int)) (st H56 (Addr.add a58 (Int.toNat n7 * 1)) (Value.int IntKind.i64 n54) (fun H59 =>
  wr IntKind.i64 (n7 + 1) (fun n60 =>
  k51 (Value.int IntKind.i64 n60) H59))))) (k51 (Value.int IntKind.i64 n7) H56))) (pnR R))))))))) (ask ((0 : Int) ≤ n7 ∧ n7 ≤ (↑x0n : Int) ∧ (↑x0n : Int) ≤ (↑x0c : Int) ∧ (↑x0c : Int) ≤ (↑x0c : Int)) (semW Tryz.prog (Builtin.clear_ #[73] 0 #[Value.slice (slO x0a 1 n7 (↑x0c : Int)) (Int.toNat (↑x0n : Int) - Int.toNat n7) (Int.toNat (↑x0c : Int) - Int.toNat n7)]) (pnR R) H30 (fun v65 H66 =>
  ask ((0 : Int) ≤ (0 : Int) ∧ (0 : Int) ≤ n7 ∧ n7 ≤ (↑x0c : Int) ∧ (↑x0c : Int) ≤ (↑x0c : Int)) (R (Ending.returned (Value.slice (slO x0a 1 0 (↑x0c : Int)) (Int.toNat n7 - Int.toNat 0) (Int.toNat (↑x0c : Int) - Int.toNat 0))) H66)))))))) (pnR R))
theorem F140_eq (x0a : Option Addr) (x0n : Nat) (x0c : Nat) (x1g : Nat) (x1f : Array Value) (x1c : Array Value) (R : Ending → Heap → Prop) (H : Heap) : F140 x0a x0n x0c x1g x1f x1c R H = vc Tryz.prog (codeOf Tryz.f140) (.node none .leaf (.node none .leaf (.node none .leaf (.node none (.node none .leaf (.node none (.node (some ⟨[(5, 3), (6, 3)], [7, 16, 17, 18, 19, 20, 21, 22, 23, 24, 25, 26, 27, 28, 29, 30, 31, 32, 33, 34, 35]⟩) (.node none .leaf (.node (some ⟨[(5, 3)], [7, 22, 23, 24, 25, 26, 27, 28, 29, 30, 31, 32, 33, 34, 35]⟩) .leaf .leaf)) .leaf) .leaf)) .leaf)))) (postV Tryz.prog Tryz.f140 R) ⟨#[Value.slice x0a x0n x0c, Value.func (Fn.func x1g) x1f x1c] ++ Array.replicate (Tryz.f140.ntmps - 2) undef, []⟩ H := by kernel_rfl
theorem F140_calls {R : Ending → Heap → Prop} {H : Heap} (x0a : Option Addr) (x0n : Nat) (x0c : Nat) (x1g : Nat) (x1f : Array Value) (x1c : Array Value) (h : F140 x0a x0n x0c x1g x1f x1c R H) : HCalls Tryz.prog 140 #[Value.slice x0a x0n x0c, Value.func (Fn.func x1g) x1f x1c] H R :=
  calls_by (F := F140 x0a x0n x0c x1g x1f x1c R H) (.node none .leaf (.node none .leaf (.node none .leaf (.node none (.node none .leaf (.node none (.node (some ⟨[(5, 3), (6, 3)], [7, 16, 17, 18, 19, 20, 21, 22, 23, 24, 25, 26, 27, 28, 29, 30, 31, 32, 33, 34, 35]⟩) (.node none .leaf (.node (some ⟨[(5, 3)], [7, 22, 23, 24, 25, 26, 27, 28, 29, 30, 31, 32, 33, 34, 35]⟩) .leaf .leaf)) .leaf) .leaf)) .leaf)))) Tryz.func140 rfl (F140_eq x0a x0n x0c x1g x1f x1c R H) h
/-- slices.IndexFunc[[]int,int] -/
def F148 (x0a : Option Addr) (x0n : Nat) (x0c : Nat) (x1g : Nat) (x1f : Array Value) (x1c : Array Value) (R : Ending → Heap → Prop) (H : Heap) : Prop :=
  ∃ I1 : List Value → Heap → Prop,
  ∃ I2 : List Value → Heap → Nat,
  (I1 ([Value.int IntKind.i64 0]) H) ∧
  ∀ n3 : Int,
  ∀ v4 v5 v6 v7 v8 v9 v10 v11 v12 v13 v14 v15 : Value,
  ∀ H16 : Heap,
  (I1 ([Value.int IntKind.i64 n3]) H16) →
  sB (decide (n3 < (↑x0n : Int))) (nz x0a (fun a18 =>
  ask ((0 : Int) ≤ n3 ∧ n3 < (↑x0n : Int)) (ld H16 (Addr.add a18 (Int.toNat n3 * 1)) (fun v19 =>
  dInt IntKind.i64 v19 (fun n20 =>
  gB (plainFn Tryz.prog x1g) (HCalls Tryz.prog x1g (argsOf x1f [Value.int IntKind.i64 n20] x1c) H16 (Sp.retK (fun v21 H22 =>
  dBl v21 (fun b23 =>
  sB b23 (R (Ending.returned (Value.int IntKind.i64 n3)) H22) (wr IntKind.i64 (n3 + 1) (fun n24 =>
  (I1 ([Value.int IntKind.i64 n24]) H22) ∧
  (I2 [Value.int IntKind.i64 n24] H22) < (I2 [Value.int IntKind.i64 n3] H16))))) (pnR R)))))))) (R (Ending.returned (Value.int IntKind.i64 (-1))) H16)
theorem F148_eq (x0a : Option Addr) (x0n : Nat) (x0c : Nat) (x1g : Nat) (x1f : Array Value) (x1c : Array Value) (R : Ending → Heap → Prop) (H : Heap) : F148 x0a x0n x0c x1g x1f x1c R H = vc Tryz.prog (codeOf Tryz.f148) (.node none .leaf (.node none (.node none .leaf (.node none (.node (some ⟨[(8, 3)], [4, 5, 9, 10, 11, 12, 13, 14, 15, 16, 17, 18]⟩) .leaf .leaf) .leaf)) .leaf)) (postV Tryz.prog Tryz.f148 R) ⟨#[Value.slice x0a x0n x0c, Value.func (Fn.func x1g) x1f x1c] ++ Array.replicate (Tryz.f148.ntmps - 2) undef, []⟩ H := by kernel_rfl
theorem F148_calls {R : Ending → Heap → Prop} {H : Heap} (x0a : Option Addr) (x0n : Nat) (x0c : Nat) (x1g : Nat) (x1f : Array Value) (x1c : Array Value) (h : F148 x0a x0n x0c x1g x1f x1c R H) : HCalls Tryz.prog 148 #[Value.slice x0a x0n x0c, Value.func (Fn.func x1g) x1f x1c] H R :=
  calls_by (F := F148 x0a x0n x0c x1g x1f x1c R H) (.node none .leaf (.node none (.node none .leaf (.node none (.node (some ⟨[(8, 3)], [4, 5, 9, 10, 11, 12, 13, 14, 15, 16, 17, 18]⟩) .leaf .leaf) .leaf)) .leaf)) Tryz.func148 rfl (F148_eq x0a x0n x0c x1g x1f x1c R H) h
/-- bollard/bits.many -/
def F151 (x0 : Int) (R : Ending → Heap → Prop) (H : Heap) : Prop :=
  semW Tryz.prog (Builtin.min_ #[3, 3] 3 #[Value.int IntKind.i64 x0, Value.int IntKind.i64 65536]) (pnR R) H (fun v3 H4 =>
  dInt IntKind.i64 v3 (fun n5 =>
  semW Tryz.prog (Builtin.max_ #[3, 3] 3 #[Value.int IntKind.i64 0, Value.int IntKind.i64 n5]) (pnR R) H4 (fun v8 H9 =>
  dInt IntKind.i64 v8 (fun n10 =>
  R (Ending.returned (Value.int IntKind.i64 n10)) H9))))
theorem F151_eq (x0 : Int) (R : Ending → Heap → Prop) (H : Heap) : F151 x0 R H = vc Tryz.prog (codeOf Tryz.f151) .leaf (postV Tryz.prog Tryz.f151 R) ⟨#[Value.int IntKind.i64 x0] ++ Array.replicate (Tryz.f151.ntmps - 1) undef, []⟩ H := by kernel_rfl
theorem F151_calls {R : Ending → Heap → Prop} {H : Heap} (x0 : Int) (h : F151 x0 R H) : HCalls Tryz.prog 151 #[Value.int IntKind.i64 x0] H R :=
  calls_by (F := F151 x0 R H) .leaf Tryz.func151 rfl (F151_eq x0 R H) h
/-- bollard/bits.Has -/
def F152 (x0a : Option Addr) (x0n : Nat) (x0c : Nat) (x1 : Int) (R : Ending → Heap → Prop) (H : Heap) : Prop :=
  sB (decide (x1 ≥ 0)) (ask ((8 : Int) ≠ (0 : Int)) (wr IntKind.i64 (Int.tdiv x1 8) (fun n1 =>
  sB (decide (n1 < (↑x0n : Int))) (ask ((8 : Int) ≠ (0 : Int)) (wr IntKind.i64 (Int.tdiv x1 8) (fun n2 =>
  nz x0a (fun a3 =>
  ask ((0 : Int) ≤ n2 ∧ n2 < (↑x0n : Int)) (ld H (Addr.add a3 (Int.toNat n2 * 1)) (fun v4 =>
  dInt IntKind.u8 v4 (fun n5 =>
  ask ((8 : Int) ≠ (0 : Int)) (nm (Int.tmod x1 8) (fun n6 =>
  ask ((0 : Int) ≤ n6) (nm (Int.fdiv n5 (2 ^ min (Int.toNat n6) 8)) (fun n7 =>
  nm (IntKind.wrap IntKind.u8 (↑(BitVec.toNat (BitVec.ofInt 8 n7 &&& BitVec.ofInt 8 1)) : Int)) (fun n8 =>
  R (Ending.returned (Value.bool (n8 == 1))) H)))))))))))) (R (Ending.returned (Value.bool false)) H)))) (R (Ending.returned (Value.bool false)) H)
theorem F152_eq (x0a : Option Addr) (x0n : Nat) (x0c : Nat) (x1 : Int) (R : Ending → Heap → Prop) (H : Heap) : F152 x0a x0n x0c x1 R H = vc Tryz.prog (codeOf Tryz.f152) .leaf (postV Tryz.prog Tryz.f152 R) ⟨#[Value.slice x0a x0n x0c, Value.int IntKind.i64 x1] ++ Array.replicate (Tryz.f152.ntmps - 2) undef, []⟩ H := by kernel_rfl
theorem F152_calls {R : Ending → Heap → Prop} {H : Heap} (x0a : Option Addr) (x0n : Nat) (x0c : Nat) (x1 : Int) (h : F152 x0a x0n x0c x1 R H) : HCalls Tryz.prog 152 #[Value.slice x0a x0n x0c, Value.int IntKind.i64 x1] H R :=
  calls_by (F := F152 x0a x0n x0c x1 R H) .leaf Tryz.func152 rfl (F152_eq x0a x0n x0c x1 R H) h
/-- bollard/disk.Of$1 -/
def F153 (x0a : Option Addr) (x0n : Nat) (x0c : Nat) (R : Ending → Heap → Prop) (H : Heap) : Prop :=
  R (Ending.returned (Value.bool ((↑x0n : Int) != 128))) H
theorem F153_eq (x0a : Option Addr) (x0n : Nat) (x0c : Nat) (R : Ending → Heap → Prop) (H : Heap) : F153 x0a x0n x0c R H = vc Tryz.prog (codeOf Tryz.f153) .leaf (postV Tryz.prog Tryz.f153 R) ⟨#[Value.slice x0a x0n x0c] ++ Array.replicate (Tryz.f153.ntmps - 1) undef, []⟩ H := by kernel_rfl
theorem F153_calls {R : Ending → Heap → Prop} {H : Heap} (x0a : Option Addr) (x0n : Nat) (x0c : Nat) (h : F153 x0a x0n x0c R H) : HCalls Tryz.prog 153 #[Value.slice x0a x0n x0c] H R :=
  calls_by (F := F153 x0a x0n x0c R H) .leaf Tryz.func153 rfl (F153_eq x0a x0n x0c R H) h
/-- slices.ContainsFunc[[][]byte,[]byte] -/
def F154 (x0a : Option Addr) (x0n : Nat) (x0c : Nat) (x1g : Nat) (x1f : Array Value) (x1c : Array Value) (R : Ending → Heap → Prop) (H : Heap) : Prop :=
  HCalls Tryz.prog 199 #[Value.slice x0a x0n x0c, Value.func (Fn.func x1g) x1f x1c] H (Sp.retK (fun v1 H2 =>
  dInt IntKind.i64 v1 (fun n3 =>
  R (Ending.returned (Value.bool (decide (n3 ≥ 0)))) H2)) (pnR R))
theorem F154_eq (x0a : Option Addr) (x0n : Nat) (x0c : Nat) (x1g : Nat) (x1f : Array Value) (x1c : Array Value) (R : Ending → Heap → Prop) (H : Heap) : F154 x0a x0n x0c x1g x1f x1c R H = vc Tryz.prog (codeOf Tryz.f154) .leaf (postV Tryz.prog Tryz.f154 R) ⟨#[Value.slice x0a x0n x0c, Value.func (Fn.func x1g) x1f x1c] ++ Array.replicate (Tryz.f154.ntmps - 2) undef, []⟩ H := by kernel_rfl
theorem F154_calls {R : Ending → Heap → Prop} {H : Heap} (x0a : Option Addr) (x0n : Nat) (x0c : Nat) (x1g : Nat) (x1f : Array Value) (x1c : Array Value) (h : F154 x0a x0n x0c x1g x1f x1c R H) : HCalls Tryz.prog 154 #[Value.slice x0a x0n x0c, Value.func (Fn.func x1g) x1f x1c] H R :=
  calls_by (F := F154 x0a x0n x0c x1g x1f x1c R H) .leaf Tryz.func154 rfl (F154_eq x0a x0n x0c x1g x1f x1c R H) h
end Go.Proofs.YtngploohhmfaiaaGreat.E
