/- My own texts, joined. -/
import Derived.KernelRfl
import Derived.Test.YtngploohhmfaiaaGreatProg
import Derived.Test.YtngploohhmfaiaaGreatSq3
/- The functions' forms in the engine's words, printed by my own program. -/
namespace Go.Proofs.YtngploohhmfaiaaGreat.E
open Go Go.Proofs
set_option linter.unusedVariables false
/-- (*bollard/snap.Snap).Image -/
def F16 (x0 : Option Addr) (R : Ending → Heap → Prop) (H : Heap) : Prop :=
  HCalls Tryz.prog 63 #[Value.pointer x0] H (Sp.retK (fun v1 H2 =>
  dInt IntKind.i64 v1 (fun n3 =>
  sB (n3 != 0) (R (Ending.returned (Value.tuple #[Value.slice none 0 0, Value.int IntKind.i64 n3])) H2) (nz x0 (fun a4 =>
  ld H2 (Addr.add (Addr.add a4 2) 1) (fun v5 =>
  ld H2 (Addr.add (Addr.add (Addr.add a4 2) 1) 1) (fun v6 =>
  ld H2 (Addr.add (Addr.add (Addr.add a4 2) 1) 2) (fun v7 =>
  HCalls Tryz.prog 64 #[Value.agg #[v5, v6, v7]] H2 (Sp.retK (fun v8 H9 =>
  dInt IntKind.i64 v8 (fun n10 =>
  ∃ I11 : List Value → Heap → Prop,
  ∃ I12 : List Value → Heap → Nat,
  (I11 ([Value.slice none 0 0, Value.int IntKind.i64 0]) H9) ∧
  ∀ p13 : Option Addr,
  ∀ r14 : Nat,
  ∀ r15 : Nat,
  ∀ n16 : Int,
  ∀ v17 v18 v19 v20 v21 v22 v23 v24 v25 v26 v27 v28 v29 v30 v31 v32 v33 v34 v35 v36 v37 : Value,
  ∀ H38 : Heap,
  (I11 ([Value.slice p13 r14 r15, Value.int IntKind.i64 n16]) H38) →
  sB (decide (n16 < n10)) (HCalls Tryz.prog 15 #[Value.pointer x0, Value.int IntKind.i64 n16] H38 (Sp.retK (fun v40 H41 =>
  dT 2 v40 (fun v42 v43 =>
  dSl v42 (fun p44 r45 r46 =>
  dInt IntKind.i64 v43 (fun n47 =>
  sB (n47 != 0) (R (Ending.returned (Value.tuple #[Value.slice none 0 0, Value.int IntKind.i64 n47])) H41) (al H41 (Obj.cells #[Value.slice p44 r45 r46] 38) (fun r48 H49 =>
  semW Tryz.prog (Builtin.append_ #[42, 42] 42 #[Value.slice p13 r14 r15, Value.slice (some (Addr.mk r48 0 none)) 1 1]) (pnR R) H49 (fun v52 H53 =>
  dSl v52 (fun p54 r55 r56 =>
  wr IntKind.i64 (n16 + 1) (fun n57 =>
  (I11 ([Value.slice p54 r55 r56, Value.int IntKind.i64 n57]) H53) ∧
  (I12 [Value.slice p54 r55 r56, Value.int IntKind.i64 n57] H53) < (I12 [Value.slice p13 r14 r15, Value.int IntKind.i64 n16] H38)))))))))) (pnR R))) (R (Ending.returned (Value.tuple #[Value.slice p13 r14 r15, Value.int IntKind.i64 0])) H38))) (pnR R))))))))) (pnR R))
theorem F16_eq (x0 : Option Addr) (R : Ending → Heap → Prop) (H : Heap) : F16 x0 R H = vc Tryz.prog (codeOf Tryz.f16) (.node none .leaf (.node none .leaf (.node none .leaf (.node none (.node none .leaf (.node none (.node (some ⟨[(5, 42), (20, 3)], [2, 3, 6, 7, 8, 21, 22, 23, 24, 25, 26, 27, 28, 29, 30, 31, 32, 33, 34, 35, 36]⟩) .leaf .leaf) .leaf)) .leaf)))) (postV Tryz.prog Tryz.f16 R) ⟨#[Value.pointer x0] ++ Array.replicate (Tryz.f16.ntmps - 1) undef, []⟩ H := by kernel_rfl
theorem F16_calls {R : Ending → Heap → Prop} {H : Heap} (x0 : Option Addr) (h : F16 x0 R H) : HCalls Tryz.prog 16 #[Value.pointer x0] H R :=
  calls_by (F := F16 x0 R H) (.node none .leaf (.node none .leaf (.node none .leaf (.node none (.node none .leaf (.node none (.node (some ⟨[(5, 42), (20, 3)], [2, 3, 6, 7, 8, 21, 22, 23, 24, 25, 26, 27, 28, 29, 30, 31, 32, 33, 34, 35, 36]⟩) .leaf .leaf) .leaf)) .leaf)))) Tryz.func16 rfl (F16_eq x0 R H) h
/-- (*bollard/snap.Snap).Drop -/
def F17 (x0 : Option Addr) (R : Ending → Heap → Prop) (H : Heap) : Prop :=
  HCalls Tryz.prog 63 #[Value.pointer x0] H (Sp.retK (fun v1 H2 =>
  dInt IntKind.i64 v1 (fun n3 =>
  sB (n3 != 0) (R (Ending.returned (Value.int IntKind.i64 n3)) H2) (nz x0 (fun a4 =>
  ld H2 (Addr.add a4 2) (fun v5 =>
  dPtr v5 (fun p6 =>
  HCalls Tryz.prog 61 #[Value.pointer p6] H2 (Sp.retK (fun v7 H8 =>
  dInt IntKind.i64 v7 (fun n9 =>
  sB (n9 != 0) (R (Ending.returned (Value.int IntKind.i64 n9)) H8) (nz x0 (fun a10 =>
  st H8 (Addr.add a10 7) (Value.bool true) (fun H11 =>
  R (Ending.returned (Value.int IntKind.i64 0)) H11))))) (pnR R)))))))) (pnR R))
theorem F17_eq (x0 : Option Addr) (R : Ending → Heap → Prop) (H : Heap) : F17 x0 R H = vc Tryz.prog (codeOf Tryz.f17) .leaf (postV Tryz.prog Tryz.f17 R) ⟨#[Value.pointer x0] ++ Array.replicate (Tryz.f17.ntmps - 1) undef, []⟩ H := by kernel_rfl
theorem F17_calls {R : Ending → Heap → Prop} {H : Heap} (x0 : Option Addr) (h : F17 x0 R H) : HCalls Tryz.prog 17 #[Value.pointer x0] H R :=
  calls_by (F := F17 x0 R H) .leaf Tryz.func17 rfl (F17_eq x0 R H) h
/-- (*bollard/snap.Snap).Gen -/
def F18 (x0 : Option Addr) (R : Ending → Heap → Prop) (H : Heap) : Prop :=
  sB (Option.isNone x0) (R (Ending.returned (Value.int IntKind.i64 0)) H) (nz x0 (fun a1 =>
  ld H (Addr.add (Addr.add a1 2) 4) (fun v2 =>
  dInt IntKind.i64 v2 (fun n3 =>
  R (Ending.returned (Value.int IntKind.i64 n3)) H))))
theorem F18_eq (x0 : Option Addr) (R : Ending → Heap → Prop) (H : Heap) : F18 x0 R H = vc Tryz.prog (codeOf Tryz.f18) .leaf (postV Tryz.prog Tryz.f18 R) ⟨#[Value.pointer x0] ++ Array.replicate (Tryz.f18.ntmps - 1) undef, []⟩ H := by kernel_rfl
theorem F18_calls {R : Ending → Heap → Prop} {H : Heap} (x0 : Option Addr) (h : F18 x0 R H) : HCalls Tryz.prog 18 #[Value.pointer x0] H R :=
  calls_by (F := F18 x0 R H) .leaf Tryz.func18 rfl (F18_eq x0 R H) h
/-- (*bollard/snap.Snap).Geom -/
def F19 (x0 : Option Addr) (R : Ending → Heap → Prop) (H : Heap) : Prop :=
  al H (Obj.cells #[Value.int IntKind.i64 0, Value.int IntKind.i64 0, Value.int IntKind.i64 0] 32) (fun r1 H2 =>
  sB (Option.isNone x0) (st H2 (Addr.mk r1 0 none) (Value.int IntKind.i64 0) (fun H3 =>
  st H3 (Addr.mk r1 1 none) (Value.int IntKind.i64 0) (fun H4 =>
  st H4 (Addr.mk r1 2 none) (Value.int IntKind.i64 0) (fun H5 =>
  ld H5 (Addr.mk r1 0 none) (fun v6 =>
  ld H5 (Addr.mk r1 1 none) (fun v7 =>
  ld H5 (Addr.mk r1 2 none) (fun v8 =>
  R (Ending.returned (Value.agg #[v6, v7, v8])) H5))))))) (nz x0 (fun a9 =>
  ld H2 (Addr.add (Addr.add a9 2) 1) (fun v10 =>
  ld H2 (Addr.add (Addr.add (Addr.add a9 2) 1) 1) (fun v11 =>
  ld H2 (Addr.add (Addr.add (Addr.add a9 2) 1) 2) (fun v12 =>
  st H2 (Addr.mk r1 0 none) v10 (fun H13 =>
  st H13 (Addr.mk r1 1 none) v11 (fun H14 =>
  st H14 (Addr.mk r1 2 none) v12 (fun H15 =>
  ld H15 (Addr.mk r1 0 none) (fun v16 =>
  ld H15 (Addr.mk r1 1 none) (fun v17 =>
  ld H15 (Addr.mk r1 2 none) (fun v18 =>
  R (Ending.returned (Value.agg #[v16, v17, v18])) H15))))))))))))
theorem F19_eq (x0 : Option Addr) (R : Ending → Heap → Prop) (H : Heap) : F19 x0 R H = vc Tryz.prog (codeOf Tryz.f19) .leaf (postV Tryz.prog Tryz.f19 R) ⟨#[Value.pointer x0] ++ Array.replicate (Tryz.f19.ntmps - 1) undef, []⟩ H := by kernel_rfl
theorem F19_calls {R : Ending → Heap → Prop} {H : Heap} (x0 : Option Addr) (h : F19 x0 R H) : HCalls Tryz.prog 19 #[Value.pointer x0] H R :=
  calls_by (F := F19 x0 R H) .leaf Tryz.func19 rfl (F19_eq x0 R H) h
/-- (*bollard/snap.Snap).Kept -/
def F20 (x0 : Option Addr) (R : Ending → Heap → Prop) (H : Heap) : Prop :=
  HCalls Tryz.prog 63 #[Value.pointer x0] H (Sp.retK (fun v1 H2 =>
  dInt IntKind.i64 v1 (fun n3 =>
  sB (n3 != 0) (R (Ending.returned (Value.int IntKind.i64 0)) H2) (nz x0 (fun a4 =>
  ld H2 (Addr.add a4 2) (fun v5 =>
  dPtr v5 (fun p6 =>
  HCalls Tryz.prog 58 #[Value.pointer p6] H2 (Sp.retK (fun v7 H8 =>
  dInt IntKind.i64 v7 (fun n9 =>
  R (Ending.returned (Value.int IntKind.i64 n9)) H8)) (pnR R)))))))) (pnR R))
theorem F20_eq (x0 : Option Addr) (R : Ending → Heap → Prop) (H : Heap) : F20 x0 R H = vc Tryz.prog (codeOf Tryz.f20) .leaf (postV Tryz.prog Tryz.f20 R) ⟨#[Value.pointer x0] ++ Array.replicate (Tryz.f20.ntmps - 1) undef, []⟩ H := by kernel_rfl
theorem F20_calls {R : Ending → Heap → Prop} {H : Heap} (x0 : Option Addr) (h : F20 x0 R H) : HCalls Tryz.prog 20 #[Value.pointer x0] H R :=
  calls_by (F := F20 x0 R H) .leaf Tryz.func20 rfl (F20_eq x0 R H) h
/-- (*bollard/snap.Snap).Broken -/
def F21 (x0 : Option Addr) (R : Ending → Heap → Prop) (H : Heap) : Prop :=
  HCalls Tryz.prog 63 #[Value.pointer x0] H (Sp.retK (fun v1 H2 =>
  dInt IntKind.i64 v1 (fun n3 =>
  sB (n3 == 0) (nz x0 (fun a4 =>
  ld H2 (Addr.add a4 2) (fun v5 =>
  dPtr v5 (fun p6 =>
  HCalls Tryz.prog 57 #[Value.pointer p6] H2 (Sp.retK (fun v7 H8 =>
  dBl v7 (fun b9 =>
  R (Ending.returned (Value.bool b9)) H8)) (pnR R)))))) (R (Ending.returned (Value.bool false)) H2))) (pnR R))
theorem F21_eq (x0 : Option Addr) (R : Ending → Heap → Prop) (H : Heap) : F21 x0 R H = vc Tryz.prog (codeOf Tryz.f21) .leaf (postV Tryz.prog Tryz.f21 R) ⟨#[Value.pointer x0] ++ Array.replicate (Tryz.f21.ntmps - 1) undef, []⟩ H := by kernel_rfl
theorem F21_calls {R : Ending → Heap → Prop} {H : Heap} (x0 : Option Addr) (h : F21 x0 R H) : HCalls Tryz.prog 21 #[Value.pointer x0] H R :=
  calls_by (F := F21 x0 R H) .leaf Tryz.func21 rfl (F21_eq x0 R H) h
/-- bollard/snap.Take -/
def F22 (x0 : Option Addr) (x1_0 : Value) (x1_1 : Value) (x1_2 : Value) (x2 : Int) (x3 : Int) (R : Ending → Heap → Prop) (H : Heap) : Prop :=
  al H (Obj.cells #[x1_0, x1_1, x1_2] 32) (fun r1 H2 =>
  HCalls Tryz.prog 24 #[Value.pointer x0] H2 (Sp.retK (fun v3 H4 =>
  dInt IntKind.i64 v3 (fun n5 =>
  sB (n5 == 0) (R (Ending.returned (Value.tuple #[Value.pointer none, Value.int IntKind.i64 2])) H4) (jn (α := VFH 1) (fun v6 H7 =>
  ∀ v8 v9 v10 v11 v12 v13 v14 v15 v16 v17 : Value,
  dBl v6 (fun b18 =>
  sB b18 (R (Ending.returned (Value.tuple #[Value.pointer none, Value.int IntKind.i64 170])) H7) (jn (α := VFH 1) (fun v19 H20 =>
  ∀ v21 v22 v23 v24 v25 v26 : Value,
  dBl v19 (fun b27 =>
  sB b27 (R (Ending.returned (Value.tuple #[Value.pointer none, Value.int IntKind.i64 1])) H20) (HCalls Tryz.prog 51 #[Value.pointer x0, Value.int IntKind.i64 x3] H20 (Sp.retK (fun v28 H29 =>
  dInt IntKind.i64 v28 (fun n30 =>
  sB (n30 != 0) (R (Ending.returned (Value.tuple #[Value.pointer none, Value.int IntKind.i64 n30])) H29) (ld H29 (Addr.mk r1 0 none) (fun v31 =>
  ld H29 (Addr.mk r1 1 none) (fun v32 =>
  ld H29 (Addr.mk r1 2 none) (fun v33 =>
  al H29 (Obj.cells #[Value.int IntKind.i32 0, Value.int IntKind.u32 0, Value.pointer x0, v31, v32, v33, Value.int IntKind.i64 x2, Value.bool false] 36) (fun r34 H35 =>
  R (Ending.returned (Value.tuple #[Value.pointer (some (Addr.mk r34 0 none)), Value.int IntKind.i64 0])) H35))))))) (pnR R))))) (fun k38 =>
  sB (decide (x2 < 1)) (k38 (Value.bool true) H7) (k38 (Value.bool (decide (x2 > 1099511627776))) H7))))) (fun k39 =>
  ld H4 (Addr.mk r1 0 none) (fun v40 =>
  ld H4 (Addr.mk r1 1 none) (fun v41 =>
  ld H4 (Addr.mk r1 2 none) (fun v42 =>
  HCalls Tryz.prog 65 #[Value.agg #[v40, v41, v42]] H4 (Sp.retK (fun v43 H44 =>
  dInt IntKind.i64 v43 (fun n45 =>
  sB (n45 != 0) (k39 (Value.bool true) H44) (ld H44 (Addr.mk r1 0 none) (fun v46 =>
  ld H44 (Addr.mk r1 1 none) (fun v47 =>
  ld H44 (Addr.mk r1 2 none) (fun v48 =>
  HCalls Tryz.prog 24 #[Value.pointer x0] H44 (Sp.retK (fun v49 H50 =>
  dInt IntKind.i64 v49 (fun n51 =>
  (ld H50 (Addr.mk r1 0 none) (fun v52 =>
  ld H50 (Addr.mk r1 1 none) (fun v53 =>
  ld H50 (Addr.mk r1 2 none) (fun v54 =>
  (Value.agg #[v52, v53, v54]) = (Value.agg #[v46, v47, v48]))))) ∧
  HCalls Tryz.prog 64 #[Value.agg #[v46, v47, v48]] H50 (Sp.retK (fun v55 H56 =>
  dInt IntKind.i64 v55 (fun n57 =>
  k39 (Value.bool (decide (n51 < n57))) H56)) nopR))) nopR))))))) nopR)))))))) (pnR R)))
theorem F22_eq (x0 : Option Addr) (x1_0 : Value) (x1_1 : Value) (x1_2 : Value) (x2 : Int) (x3 : Int) (R : Ending → Heap → Prop) (H : Heap) : F22 x0 x1_0 x1_1 x1_2 x2 x3 R H = vc Tryz.prog (codeOf Tryz.f22) (.node none .leaf (.node none (.node none (.node none .leaf (.node none .leaf (.node (some ⟨[(15, 4)], [16, 17, 18, 19, 20, 21, 22, 23, 24, 25]⟩) .leaf (.node none .leaf (.node (some ⟨[(26, 4)], [27, 28, 29, 30, 31, 32]⟩) .leaf .leaf))))) .leaf) .leaf)) (postV Tryz.prog Tryz.f22 R) ⟨#[Value.pointer x0, Value.agg #[x1_0, x1_1, x1_2], Value.int IntKind.i64 x2, Value.int IntKind.i64 x3] ++ Array.replicate (Tryz.f22.ntmps - 4) undef, []⟩ H := by kernel_rfl
theorem F22_calls {R : Ending → Heap → Prop} {H : Heap} (x0 : Option Addr) (x1_0 : Value) (x1_1 : Value) (x1_2 : Value) (x2 : Int) (x3 : Int) (h : F22 x0 x1_0 x1_1 x1_2 x2 x3 R H) : HCalls Tryz.prog 22 #[Value.pointer x0, Value.agg #[x1_0, x1_1, x1_2], Value.int IntKind.i64 x2, Value.int IntKind.i64 x3] H R :=
  calls_by (F := F22 x0 x1_0 x1_1 x1_2 x2 x3 R H) (.node none .leaf (.node none (.node none (.node none .leaf (.node none .leaf (.node (some ⟨[(15, 4)], [16, 17, 18, 19, 20, 21, 22, 23, 24, 25]⟩) .leaf (.node none .leaf (.node (some ⟨[(26, 4)], [27, 28, 29, 30, 31, 32]⟩) .leaf .leaf))))) .leaf) .leaf)) Tryz.func22 rfl (F22_eq x0 x1_0 x1_1 x1_2 x2 x3 R H) h
/-- bollard/bollardplain.Fresh -/
def F23 (x0_0 : Value) (x0_1 : Value) (x0_2 : Value) (R : Ending → Heap → Prop) (H : Heap) : Prop :=
  al H (Obj.cells #[x0_0, x0_1, x0_2] 32) (fun r1 H2 =>
  al H2 (Obj.cells #[Value.int IntKind.i64 0, Value.int IntKind.i64 0, Value.int IntKind.i64 0] 32) (fun r3 H4 =>
  ld H4 (Addr.mk r1 0 none) (fun v5 =>
  ld H4 (Addr.mk r1 1 none) (fun v6 =>
  ld H4 (Addr.mk r1 2 none) (fun v7 =>
  HCalls Tryz.prog 66 #[Value.agg #[v5, v6, v7]] H4 (Sp.retK (fun v8 H9 =>
  dT 2 v8 (fun v10 v11 =>
  dSl v10 (fun p12 r13 r14 =>
  dInt IntKind.i64 v11 (fun n15 =>
  jn (α := VFH 1) (fun v16 H17 =>
  ∀ v18 v19 v20 v21 v22 v23 v24 v25 : Value,
  dSl v16 (fun p26 r27 r28 =>
  HCalls Tryz.prog 67 #[Value.slice p26 r27 r28, Value.int IntKind.i64 64] H17 (Sp.retK (fun v29 H30 =>
  dT 2 v29 (fun v31 v32 =>
  dPtr v31 (fun p33 =>
  dBl v32 (fun b34 =>
  ld H30 (Addr.mk r1 0 none) (fun v35 =>
  ld H30 (Addr.mk r1 1 none) (fun v36 =>
  ld H30 (Addr.mk r1 2 none) (fun v37 =>
  sB b34 (((ld H30 (Addr.mk r1 0 none) (fun v38 =>
  ld H30 (Addr.mk r1 1 none) (fun v39 =>
  ld H30 (Addr.mk r1 2 none) (fun v40 =>
  (Value.agg #[v38, v39, v40]) = (Value.agg #[v35, v36, v37]))))) ∧
  st H30 (Addr.mk r3 0 none) v35 (fun H41 =>
  st H41 (Addr.mk r3 1 none) v36 (fun H42 =>
  st H42 (Addr.mk r3 2 none) v37 (fun H43 =>
  ld H43 (Addr.mk r3 0 none) (fun v44 =>
  ld H43 (Addr.mk r3 1 none) (fun v45 =>
  ld H43 (Addr.mk r3 2 none) (fun v46 =>
  R (Ending.returned (Value.tuple #[Value.pointer p33, Value.agg #[v44, v45, v46], Value.bool !Option.isNone p33])) H43))))))) ∧
  st H30 (Addr.mk r3 0 none) v35 (fun H47 =>
  st H47 (Addr.mk r3 1 none) v36 (fun H48 =>
  st H48 (Addr.mk r3 2 none) v37 (fun H49 =>
  ld H49 (Addr.mk r3 0 none) (fun v50 =>
  ld H49 (Addr.mk r3 1 none) (fun v51 =>
  ld H49 (Addr.mk r3 2 none) (fun v52 =>
  R (Ending.returned (Value.tuple #[Value.pointer p33, Value.agg #[v50, v51, v52], Value.bool !Option.isNone p33])) H49))))))) (st H30 (Addr.mk r3 0 none) v35 (fun H53 =>
  st H53 (Addr.mk r3 1 none) v36 (fun H54 =>
  st H54 (Addr.mk r3 2 none) v37 (fun H55 =>
  ld H55 (Addr.mk r3 0 none) (fun v56 =>
  ld H55 (Addr.mk r3 1 none) (fun v57 =>
  ld H55 (Addr.mk r3 2 none) (fun v58 =>
  R (Ending.returned (Value.tuple #[Value.pointer p33, Value.agg #[v56, v57, v58], Value.bool false])) H55)))))))))))))) (pnR R)))) (fun k61 =>
  sB (n15 != 0) (st H9 (Addr.mk r1 0 none) (Value.int IntKind.i64 1) (fun H62 =>
  st H62 (Addr.mk r1 1 none) (Value.int IntKind.i64 8) (fun H63 =>
  st H63 (Addr.mk r1 2 none) (Value.int IntKind.i64 4) (fun H64 =>
  ld H64 (Addr.mk r1 0 none) (fun v65 =>
  ld H64 (Addr.mk r1 1 none) (fun v66 =>
  ld H64 (Addr.mk r1 2 none) (fun v67 =>
  HCalls Tryz.prog 66 #[Value.agg #[v65, v66, v67]] H64 (Sp.retK (fun v68 H69 =>
  dT 2 v68 (fun v70 v71 =>
  dSl v70 (fun p72 r73 r74 =>
  dInt IntKind.i64 v71 (fun n75 =>
  k61 (Value.slice p72 r73 r74) H69)))) (pnR R))))))))) (k61 (Value.slice p12 r13 r14) H9)))))) (pnR R)))))))
theorem F23_eq (x0_0 : Value) (x0_1 : Value) (x0_2 : Value) (R : Ending → Heap → Prop) (H : Heap) : F23 x0_0 x0_1 x0_2 R H = vc Tryz.prog (codeOf Tryz.f23) (.node none .leaf (.node none .leaf (.node (some ⟨[(5, 42)], [14, 15, 16, 17, 18, 19, 20, 21]⟩) .leaf .leaf))) (postV Tryz.prog Tryz.f23 R) ⟨#[Value.agg #[x0_0, x0_1, x0_2]] ++ Array.replicate (Tryz.f23.ntmps - 1) undef, []⟩ H := by kernel_rfl
theorem F23_calls {R : Ending → Heap → Prop} {H : Heap} (x0_0 : Value) (x0_1 : Value) (x0_2 : Value) (h : F23 x0_0 x0_1 x0_2 R H) : HCalls Tryz.prog 23 #[Value.agg #[x0_0, x0_1, x0_2]] H R :=
  calls_by (F := F23 x0_0 x0_1 x0_2 R H) (.node none .leaf (.node none .leaf (.node (some ⟨[(5, 42)], [14, 15, 16, 17, 18, 19, 20, 21]⟩) .leaf .leaf))) Tryz.func23 rfl (F23_eq x0_0 x0_1 x0_2 R H) h
/-- (*bollard/volume.Volume).Blocks -/
def F24 (x0 : Option Addr) (R : Ending → Heap → Prop) (H : Heap) : Prop :=
  HCalls Tryz.prog 68 #[Value.pointer x0] H (Sp.retK (fun v1 H2 =>
  dBl v1 (fun b3 =>
  sB (!b3) (R (Ending.returned (Value.int IntKind.i64 0)) H2) (nz x0 (fun a4 =>
  nz x0 (fun a5 =>
  ld H2 (Addr.add a5 2) (fun v6 =>
  dPtr v6 (fun p7 =>
  HCalls Tryz.prog 70 #[Value.pointer p7] H2 (Sp.retK (fun v8 H9 =>
  dInt IntKind.i64 v8 (fun n10 =>
  HCallsD Tryz.prog 69 #[Value.pointer (some a4)] FrameMode.returning H9 (fun e11 u12 H13 =>
  match e11 with
| Ending.returned v => leavesV Tryz.prog Tryz.f24 (Act.tmps (Act.mk #[Value.pointer x0, undef, Value.int IntKind.i64 n10, Value.pointer x0, Value.bool b3, Value.bool !b3, Value.pointer x0, Value.pointer (some a4), Value.pointer (some a4), Value.pointer x0, Value.pointer (some a5), Value.pointer (some (Addr.add a5 2)), Value.pointer p7, Value.int IntKind.i64 n10] [Deferred.mk (Target.fn (Fn.func 69) #[]) #[Value.pointer (some a4)]])) R [] (settle u12) H13
| Ending.panicked c => leavesV Tryz.prog Tryz.f24 (Act.tmps (Act.mk #[Value.pointer x0, undef, Value.int IntKind.i64 n10, Value.pointer x0, Value.bool b3, Value.bool !b3, Value.pointer x0, Value.pointer (some a4), Value.pointer (some a4), Value.pointer x0, Value.pointer (some a5), Value.pointer (some (Addr.add a5 2)), Value.pointer p7, Value.int IntKind.i64 n10] [Deferred.mk (Target.fn (Fn.func 69) #[]) #[Value.pointer (some a4)]])) R [] (raised u12 c) H13
| Ending.outgrown => False))) (fun c14 H15 =>
  HCallsD Tryz.prog 69 #[Value.pointer (some a4)] (FrameMode.panicking c14) H15 (fun e16 u17 H18 =>
  match e16 with
| Ending.returned v => leavesV Tryz.prog Tryz.f24 (Act.tmps (Act.mk #[Value.pointer x0, undef, Value.int IntKind.i64 0, Value.pointer x0, Value.bool b3, Value.bool !b3, Value.pointer x0, Value.pointer (some a4), Value.pointer (some a4), Value.pointer x0, Value.pointer (some a5), Value.pointer (some (Addr.add a5 2)), Value.pointer p7, undef] [Deferred.mk (Target.fn (Fn.func 69) #[]) #[Value.pointer (some a4)]])) R [] (settle u17) H18
| Ending.panicked c => leavesV Tryz.prog Tryz.f24 (Act.tmps (Act.mk #[Value.pointer x0, undef, Value.int IntKind.i64 0, Value.pointer x0, Value.bool b3, Value.bool !b3, Value.pointer x0, Value.pointer (some a4), Value.pointer (some a4), Value.pointer x0, Value.pointer (some a5), Value.pointer (some (Addr.add a5 2)), Value.pointer p7, undef] [Deferred.mk (Target.fn (Fn.func 69) #[]) #[Value.pointer (some a4)]])) R [] (raised u17 c) H18
| Ending.outgrown => False)))))))))) (pnR R))
theorem F24_eq (x0 : Option Addr) (R : Ending → Heap → Prop) (H : Heap) : F24 x0 R H = vc Tryz.prog (codeOf Tryz.f24) .leaf (postV Tryz.prog Tryz.f24 R) ⟨#[Value.pointer x0] ++ Array.replicate (Tryz.f24.ntmps - 1) undef, []⟩ H := by kernel_rfl
theorem F24_calls {R : Ending → Heap → Prop} {H : Heap} (x0 : Option Addr) (h : F24 x0 R H) : HCalls Tryz.prog 24 #[Value.pointer x0] H R :=
  calls_by (F := F24 x0 R H) .leaf Tryz.func24 rfl (F24_eq x0 R H) h
/-- (*bollard/volume.Volume).Change -/
def F25 (x0 : Option Addr) (x1 : Int) (x2 : Int) (x3a : Option Addr) (x3n : Nat) (x3c : Nat) (x4a : Option Addr) (x4n : Nat) (x4c : Nat) (R : Ending → Heap → Prop) (H : Heap) : Prop :=
  HCalls Tryz.prog 68 #[Value.pointer x0] H (Sp.retK (fun v1 H2 =>
  dBl v1 (fun b3 =>
  sB (!b3) (R (Ending.returned (Value.tuple #[Value.int IntKind.i64 0, Value.int IntKind.i64 2])) H2) (nz x0 (fun a4 =>
  HCalls Tryz.prog 71 #[Value.pointer x0, Value.int IntKind.i64 x1] H2 (Sp.retK (fun v5 H6 =>
  dBl v5 (fun b7 =>
  sB (!b7) (HCallsD Tryz.prog 69 #[Value.pointer (some a4)] FrameMode.returning H6 (fun e8 u9 H10 =>
  match e8 with
| Ending.returned v => leavesV Tryz.prog Tryz.f25 (Act.tmps (Act.mk #[Value.pointer x0, Value.int IntKind.i64 x1, Value.int IntKind.i64 x2, Value.slice x3a x3n x3c, Value.slice x4a x4n x4c, undef, undef, undef, undef, undef, Value.int IntKind.i64 0, Value.int IntKind.i64 90, undef, undef, undef, undef, undef, undef, undef, undef, Value.pointer x0, Value.bool b3, Value.bool !b3, Value.pointer x0, Value.pointer (some a4), Value.pointer (some a4), Value.pointer x0, Value.int IntKind.i64 x1, Value.bool b7, Value.bool !b7, undef, undef, undef, undef, undef, undef, undef, undef, undef, undef, undef, undef, undef, undef, undef, undef, undef, undef, undef, undef, undef, undef, undef, undef, undef, undef, undef, undef, undef, undef, undef, undef, undef, undef, undef, undef, undef, undef, undef, undef, undef, undef, undef, undef, undef, undef, undef, undef, undef, undef, undef, undef, undef, undef, undef, undef, undef, undef, undef, undef, undef, undef, undef, undef, undef, undef, undef, undef, undef, undef, undef, undef, undef, undef, undef, undef, undef, undef, undef, undef, undef, undef, undef] [Deferred.mk (Target.fn (Fn.func 69) #[]) #[Value.pointer (some a4)]])) R [] (settle u9) H10
| Ending.panicked c => leavesV Tryz.prog Tryz.f25 (Act.tmps (Act.mk #[Value.pointer x0, Value.int IntKind.i64 x1, Value.int IntKind.i64 x2, Value.slice x3a x3n x3c, Value.slice x4a x4n x4c, undef, undef, undef, undef, undef, Value.int IntKind.i64 0, Value.int IntKind.i64 90, undef, undef, undef, undef, undef, undef, undef, undef, Value.pointer x0, Value.bool b3, Value.bool !b3, Value.pointer x0, Value.pointer (some a4), Value.pointer (some a4), Value.pointer x0, Value.int IntKind.i64 x1, Value.bool b7, Value.bool !b7, undef, undef, undef, undef, undef, undef, undef, undef, undef, undef, undef, undef, undef, undef, undef, undef, undef, undef, undef, undef, undef, undef, undef, undef, undef, undef, undef, undef, undef, undef, undef, undef, undef, undef, undef, undef, undef, undef, undef, undef, undef, undef, undef, undef, undef, undef, undef, undef, undef, undef, undef, undef, undef, undef, undef, undef, undef, undef, undef, undef, undef, undef, undef, undef, undef, undef, undef, undef, undef, undef, undef, undef, undef, undef, undef, undef, undef, undef, undef, undef, undef, undef, undef] [Deferred.mk (Target.fn (Fn.func 69) #[]) #[Value.pointer (some a4)]])) R [] (raised u9 c) H10
| Ending.outgrown => False)) (nz x0 (fun a11 =>
  ld H6 (Addr.add (Addr.add a11 6) 3) (fun v12 =>
  dMap v12 (fun p13 =>
  semW Tryz.prog (Instr.lookup 53 (Value.map p13) (Value.int IntKind.i64 x1) true) (fun c14 H15 =>
  HCallsD Tryz.prog 69 #[Value.pointer (some a4)] (FrameMode.panicking c14) H15 (fun e16 u17 H18 =>
  match e16 with
| Ending.returned v => leavesV Tryz.prog Tryz.f25 (Act.tmps (Act.mk #[Value.pointer x0, Value.int IntKind.i64 x1, Value.int IntKind.i64 x2, Value.slice x3a x3n x3c, Value.slice x4a x4n x4c, undef, undef, undef, undef, undef, Value.int IntKind.i64 0, Value.int IntKind.i64 0, undef, undef, undef, undef, undef, undef, undef, undef, Value.pointer x0, Value.bool b3, Value.bool !b3, Value.pointer x0, Value.pointer (some a4), Value.pointer (some a4), Value.pointer x0, Value.int IntKind.i64 x1, Value.bool b7, Value.bool !b7, undef, Value.pointer x0, Value.pointer (some a11), Value.pointer (some (Addr.add a11 6)), Value.pointer (some (Addr.add (Addr.add a11 6) 3)), Value.map p13, Value.int IntKind.i64 x1, undef, undef, undef, undef, undef, undef, undef, undef, undef, undef, undef, undef, undef, undef, undef, undef, undef, undef, undef, undef, undef, undef, undef, undef, undef, undef, undef, undef, undef, undef, undef, undef, undef, undef, undef, undef, undef, undef, undef, undef, undef, undef, undef, undef, undef, undef, undef, undef, undef, undef, undef, undef, undef, undef, undef, undef, undef, undef, undef, undef, undef, undef, undef, undef, undef, undef, undef, undef, undef, undef, undef, undef, undef, undef, undef, undef] [Deferred.mk (Target.fn (Fn.func 69) #[]) #[Value.pointer (some a4)]])) R [] (settle u17) H18
| Ending.panicked c => leavesV Tryz.prog Tryz.f25 (Act.tmps (Act.mk #[Value.pointer x0, Value.int IntKind.i64 x1, Value.int IntKind.i64 x2, Value.slice x3a x3n x3c, Value.slice x4a x4n x4c, undef, undef, undef, undef, undef, Value.int IntKind.i64 0, Value.int IntKind.i64 0, undef, undef, undef, undef, undef, undef, undef, undef, Value.pointer x0, Value.bool b3, Value.bool !b3, Value.pointer x0, Value.pointer (some a4), Value.pointer (some a4), Value.pointer x0, Value.int IntKind.i64 x1, Value.bool b7, Value.bool !b7, undef, Value.pointer x0, Value.pointer (some a11), Value.pointer (some (Addr.add a11 6)), Value.pointer (some (Addr.add (Addr.add a11 6) 3)), Value.map p13, Value.int IntKind.i64 x1, undef, undef, undef, undef, undef, undef, undef, undef, undef, undef, undef, undef, undef, undef, undef, undef, undef, undef, undef, undef, undef, undef, undef, undef, undef, undef, undef, undef, undef, undef, undef, undef, undef, undef, undef, undef, undef, undef, undef, undef, undef, undef, undef, undef, undef, undef, undef, undef, undef, undef, undef, undef, undef, undef, undef, undef, undef, undef, undef, undef, undef, undef, undef, undef, undef, undef, undef, undef, undef, undef, undef, undef, undef, undef, undef, undef] [Deferred.mk (Target.fn (Fn.func 69) #[]) #[Value.pointer (some a4)]])) R [] (raised u17 c) H18
| Ending.outgrown => False)) H6 (fun v19 H20 =>
  dT 2 v19 (fun v21 v22 =>
  dSl v21 (fun p23 r24 r25 =>
  dBl v22 (fun b26 =>
  jn (α := VFH 1) (fun v27 H28 =>
  ∀ v29 v30 v31 v32 v33 v34 v35 v36 v37 v38 v39 v40 v41 v42 v43 v44 v45 : Value,
  dBl v27 (fun b46 =>
  jn (α := VFH 1) (fun v47 H48 =>
  ∀ v49 v50 v51 v52 v53 v54 v55 v56 v57 v58 v59 v60 v61 v62 v63 : Value,
  dSl v47 (fun p64 r65 r66 =>
  nz x0 (fun a67 =>
  ld H48 (Addr.add a67 4) (fun v68 =>
  dPtr v68 (fun p69 =>
  HCalls Tryz.prog 73 #[Value.pointer p69, Value.int IntKind.i64 x1, Value.int IntKind.i64 x2, Value.slice x3a x3n x3c, Value.slice x4a x4n x4c] H48 (Sp.retK (fun v70 H71 =>
  dT 2 v70 (fun v72 v73 =>
  dInt IntKind.i64 v72 (fun n74 =>
  dInt IntKind.i64 v73 (fun n75 =>
  sB (n75 != 0) (HCallsD Tryz.prog 69 #[Value.pointer (some a4)] FrameMode.returning H71 (fun e76 u77 H78 =>
  match e76 with
| Ending.returned v => leavesV Tryz.prog Tryz.f25 (Act.tmps (Act.mk #[Value.pointer x0, Value.int IntKind.i64 x1, Value.int IntKind.i64 x2, Value.slice x3a x3n x3c, Value.slice x4a x4n x4c, undef, undef, undef, undef, undef, Value.int IntKind.i64 0, Value.int IntKind.i64 n75, Value.slice p23 r24 r25, Value.bool b26, Value.bool b46, Value.slice p64 r65 r66, v51, v52, Value.int IntKind.i64 n74, Value.int IntKind.i64 n75, Value.pointer x0, Value.bool b3, Value.bool !b3, Value.pointer x0, Value.pointer (some a4), Value.pointer (some a4), Value.pointer x0, Value.int IntKind.i64 x1, Value.bool b7, Value.bool !b7, Value.tuple #[Value.slice p23 r24 r25, Value.bool b26], Value.pointer x0, Value.pointer (some a11), Value.pointer (some (Addr.add a11 6)), Value.pointer (some (Addr.add (Addr.add a11 6) 3)), Value.map p13, Value.int IntKind.i64 x1, Value.tuple #[Value.slice p23 r24 r25, Value.bool b26], Value.slice p23 r24 r25, Value.bool b26, v29, v30, v31, v32, v33, v34, v35, v36, v37, v38, v39, v40, v41, v42, v43, v44, v45, v53, v54, v55, v56, v57, v58, v59, v60, v61, v62, v63, Value.tuple #[Value.int IntKind.i64 n74, Value.int IntKind.i64 n75], Value.pointer x0, Value.pointer (some a67), Value.pointer (some (Addr.add a67 4)), Value.pointer p69, Value.int IntKind.i64 x1, Value.int IntKind.i64 x2, Value.slice x3a x3n x3c, Value.slice x4a x4n x4c, Value.tuple #[Value.int IntKind.i64 n74, Value.int IntKind.i64 n75], Value.int IntKind.i64 n74, Value.int IntKind.i64 n75, Value.int IntKind.i64 n75, Value.bool (n75 != 0), Value.int IntKind.i64 n75, undef, undef, undef, undef, undef, undef, undef, undef, undef, undef, undef, undef, undef, undef, undef, undef, undef, undef, undef, undef, undef, undef, undef, undef, undef, undef, undef, undef, undef, undef] [Deferred.mk (Target.fn (Fn.func 69) #[]) #[Value.pointer (some a4)]])) R [] (settle u77) H78
| Ending.panicked c => leavesV Tryz.prog Tryz.f25 (Act.tmps (Act.mk #[Value.pointer x0, Value.int IntKind.i64 x1, Value.int IntKind.i64 x2, Value.slice x3a x3n x3c, Value.slice x4a x4n x4c, undef, undef, undef, undef, undef, Value.int IntKind.i64 0, Value.int IntKind.i64 n75, Value.slice p23 r24 r25, Value.bool b26, Value.bool b46, Value.slice p64 r65 r66, v51, v52, Value.int IntKind.i64 n74, Value.int IntKind.i64 n75, Value.pointer x0, Value.bool b3, Value.bool !b3, Value.pointer x0, Value.pointer (some a4), Value.pointer (some a4), Value.pointer x0, Value.int IntKind.i64 x1, Value.bool b7, Value.bool !b7, Value.tuple #[Value.slice p23 r24 r25, Value.bool b26], Value.pointer x0, Value.pointer (some a11), Value.pointer (some (Addr.add a11 6)), Value.pointer (some (Addr.add (Addr.add a11 6) 3)), Value.map p13, Value.int IntKind.i64 x1, Value.tuple #[Value.slice p23 r24 r25, Value.bool b26], Value.slice p23 r24 r25, Value.bool b26, v29, v30, v31, v32, v33, v34, v35, v36, v37, v38, v39, v40, v41, v42, v43, v44, v45, v53, v54, v55, v56, v57, v58, v59, v60, v61, v62, v63, Value.tuple #[Value.int IntKind.i64 n74, Value.int IntKind.i64 n75], Value.pointer x0, Value.pointer (some a67), Value.pointer (some (Addr.add a67 4)), Value.pointer p69, Value.int IntKind.i64 x1, Value.int IntKind.i64 x2, Value.slice x3a x3n x3c, Value.slice x4a x4n x4c, Value.tuple #[Value.int IntKind.i64 n74, Value.int IntKind.i64 n75], Value.int IntKind.i64 n74, Value.int IntKind.i64 n75, Value.int IntKind.i64 n75, Value.bool (n75 != 0), Value.int IntKind.i64 n75, undef, undef, undef, undef, undef, undef, undef, undef, undef, undef, undef, undef, undef, undef, undef, undef, undef, undef, undef, undef, undef, undef, undef, undef, undef, undef, undef, undef, undef, undef] [Deferred.mk (Target.fn (Fn.func 69) #[]) #[Value.pointer (some a4)]])) R [] (raised u77 c) H78
| Ending.outgrown => False)) (jn (α := VFH 0) (fun H79 =>
  ∀ v80 v81 v82 v83 v84 v85 v86 v87 v88 v89 v90 v91 v92 v93 v94 v95 v96 v97 v98 v99 v100 v101 v102 v103 v104 v105 v106 v107 v108 : Value,
  HCallsD Tryz.prog 69 #[Value.pointer (some a4)] FrameMode.returning H79 (fun e109 u110 H111 =>
  match e109 with
| Ending.returned v => leavesV Tryz.prog Tryz.f25 (Act.tmps (Act.mk #[Value.pointer x0, Value.int IntKind.i64 x1, Value.int IntKind.i64 x2, Value.slice x3a x3n x3c, Value.slice x4a x4n x4c, undef, undef, undef, undef, undef, Value.int IntKind.i64 n74, Value.int IntKind.i64 0, Value.slice p23 r24 r25, Value.bool b26, Value.bool b46, Value.slice p64 r65 r66, v51, v52, Value.int IntKind.i64 n74, Value.int IntKind.i64 n75, Value.pointer x0, Value.bool b3, Value.bool !b3, Value.pointer x0, Value.pointer (some a4), Value.pointer (some a4), Value.pointer x0, Value.int IntKind.i64 x1, Value.bool b7, Value.bool !b7, Value.tuple #[Value.slice p23 r24 r25, Value.bool b26], Value.pointer x0, Value.pointer (some a11), Value.pointer (some (Addr.add a11 6)), Value.pointer (some (Addr.add (Addr.add a11 6) 3)), Value.map p13, Value.int IntKind.i64 x1, Value.tuple #[Value.slice p23 r24 r25, Value.bool b26], Value.slice p23 r24 r25, Value.bool b26, v29, v30, v31, v32, v33, v34, v35, v36, v37, v38, v39, v40, v41, v42, v43, v44, v45, v53, v54, v55, v56, v57, v58, v59, v60, v61, v62, v63, Value.tuple #[Value.int IntKind.i64 n74, Value.int IntKind.i64 n75], Value.pointer x0, Value.pointer (some a67), Value.pointer (some (Addr.add a67 4)), Value.pointer p69, Value.int IntKind.i64 x1, Value.int IntKind.i64 x2, Value.slice x3a x3n x3c, Value.slice x4a x4n x4c, Value.tuple #[Value.int IntKind.i64 n74, Value.int IntKind.i64 n75], Value.int IntKind.i64 n74, Value.int IntKind.i64 n75, Value.int IntKind.i64 n75, Value.bool (n75 != 0), undef, v80, v81, v82, v83, v84, v85, v86, v87, v88, v89, v90, v91, v92, v93, v94, v95, v96, v97, v98, v99, v100, v101, v102, v103, v104, v105, v106, v107, v108, Value.int IntKind.i64 n74] [Deferred.mk (Target.fn (Fn.func 69) #[]) #[Value.pointer (some a4)]])) R [] (settle u110) H111
| Ending.panicked c => leavesV Tryz.prog Tryz.f25 (Act.tmps (Act.mk #[Value.pointer x0, Value.int IntKind.i64 x1, Value.int IntKind.i64 x2, Value.slice x3a x3n x3c, Value.slice x4a x4n x4c, undef, undef, undef, undef, undef, Value.int IntKind.i64 n74, Value.int IntKind.i64 0, Value.slice p23 r24 r25, Value.bool b26, Value.bool b46, Value.slice p64 r65 r66, v51, v52, Value.int IntKind.i64 n74, Value.int IntKind.i64 n75, Value.pointer x0, Value.bool b3, Value.bool !b3, Value.pointer x0, Value.pointer (some a4), Value.pointer (some a4), Value.pointer x0, Value.int IntKind.i64 x1, Value.bool b7, Value.bool !b7, Value.tuple #[Value.slice p23 r24 r25, Value.bool b26], Value.pointer x0, Value.pointer (some a11), Value.pointer (some (Addr.add a11 6)), Value.pointer (some (Addr.add (Addr.add a11 6) 3)), Value.map p13, Value.int IntKind.i64 x1, Value.tuple #[Value.slice p23 r24 r25, Value.bool b26], Value.slice p23 r24 r25, Value.bool b26, v29, v30, v31, v32, v33, v34, v35, v36, v37, v38, v39, v40, v41, v42, v43, v44, v45, v53, v54, v55, v56, v57, v58, v59, v60, v61, v62, v63, Value.tuple #[Value.int IntKind.i64 n74, Value.int IntKind.i64 n75], Value.pointer x0, Value.pointer (some a67), Value.pointer (some (Addr.add a67 4)), Value.pointer p69, Value.int IntKind.i64 x1, Value.int IntKind.i64 x2, Value.slice x3a x3n x3c, Value.slice x4a x4n x4c, Value.tuple #[Value.int IntKind.i64 n74, Value.int IntKind.i64 n75], Value.int IntKind.i64 n74, Value.int IntKind.i64 n75, Value.int IntKind.i64 n75, Value.bool (n75 != 0), undef, v80, v81, v82, v83, v84, v85, v86, v87, v88, v89, v90, v91, v92, v93, v94, v95, v96, v97, v98, v99, v100, v101, v102, v103, v104, v105, v106, v107, v108, Value.int IntKind.i64 n74] [Deferred.mk (Target.fn (Fn.func 69) #[]) #[Value.pointer (some a4)]])) R [] (raised u110 c) H111
| Ending.outgrown => False)) (fun k112 =>
  jn (α := VFH 1) (fun v113 H114 =>
  ∀ v115 v116 v117 v118 v119 v120 v121 v122 v123 v124 v125 v126 v127 v128 v129 : Value,
  dBl v113 (fun b130 =>
  sB b130 (nz x0 (fun a131 =>
  ld H114 (Addr.add (Addr.add a131 6) 3) (fun v132 =>
  dMap v132 (fun p133 =>
  semW Tryz.prog (Instr.mapUpdate 53 (Value.map p133) (Value.int IntKind.i64 x1) (Value.slice p64 r65 r66)) (fun c134 H135 =>
  HCallsD Tryz.prog 69 #[Value.pointer (some a4)] (FrameMode.panicking c134) H135 (fun e136 u137 H138 =>
  match e136 with
| Ending.returned v => leavesV Tryz.prog Tryz.f25 (Act.tmps (Act.mk #[Value.pointer x0, Value.int IntKind.i64 x1, Value.int IntKind.i64 x2, Value.slice x3a x3n x3c, Value.slice x4a x4n x4c, undef, undef, undef, undef, undef, v49, v50, Value.slice p23 r24 r25, Value.bool b26, Value.bool b46, Value.slice p64 r65 r66, v51, v52, Value.int IntKind.i64 n74, Value.int IntKind.i64 n75, Value.pointer x0, Value.bool b3, Value.bool !b3, Value.pointer x0, Value.pointer (some a4), Value.pointer (some a4), Value.pointer x0, Value.int IntKind.i64 x1, Value.bool b7, Value.bool !b7, Value.tuple #[Value.slice p23 r24 r25, Value.bool b26], Value.pointer x0, Value.pointer (some a11), Value.pointer (some (Addr.add a11 6)), Value.pointer (some (Addr.add (Addr.add a11 6) 3)), Value.map p13, Value.int IntKind.i64 x1, Value.tuple #[Value.slice p23 r24 r25, Value.bool b26], Value.slice p23 r24 r25, Value.bool b26, v29, v30, v31, v32, v33, v34, v35, v36, v37, v38, v39, v40, v41, v42, v43, v44, v45, v53, v54, v55, v56, v57, v58, v59, v60, v61, v62, v63, Value.tuple #[Value.int IntKind.i64 n74, Value.int IntKind.i64 n75], Value.pointer x0, Value.pointer (some a67), Value.pointer (some (Addr.add a67 4)), Value.pointer p69, Value.int IntKind.i64 x1, Value.int IntKind.i64 x2, Value.slice x3a x3n x3c, Value.slice x4a x4n x4c, Value.tuple #[Value.int IntKind.i64 n74, Value.int IntKind.i64 n75], Value.int IntKind.i64 n74, Value.int IntKind.i64 n75, Value.int IntKind.i64 n75, Value.bool (n75 != 0), undef, Value.bool b130, v115, v116, v117, v118, v119, v120, v121, v122, v123, v124, v125, v126, v127, v128, v129, Value.pointer x0, Value.pointer (some a131), Value.pointer (some (Addr.add a131 6)), Value.pointer (some (Addr.add (Addr.add a131 6) 3)), Value.map p133, Value.int IntKind.i64 x1, Value.slice p64 r65 r66, undef, undef, undef, undef, undef, undef, undef] [Deferred.mk (Target.fn (Fn.func 69) #[]) #[Value.pointer (some a4)]])) R [] (settle u137) H138
| Ending.panicked c => leavesV Tryz.prog Tryz.f25 (Act.tmps (Act.mk #[Value.pointer x0, Value.int IntKind.i64 x1, Value.int IntKind.i64 x2, Value.slice x3a x3n x3c, Value.slice x4a x4n x4c, undef, undef, undef, undef, undef, v49, v50, Value.slice p23 r24 r25, Value.bool b26, Value.bool b46, Value.slice p64 r65 r66, v51, v52, Value.int IntKind.i64 n74, Value.int IntKind.i64 n75, Value.pointer x0, Value.bool b3, Value.bool !b3, Value.pointer x0, Value.pointer (some a4), Value.pointer (some a4), Value.pointer x0, Value.int IntKind.i64 x1, Value.bool b7, Value.bool !b7, Value.tuple #[Value.slice p23 r24 r25, Value.bool b26], Value.pointer x0, Value.pointer (some a11), Value.pointer (some (Addr.add a11 6)), Value.pointer (some (Addr.add (Addr.add a11 6) 3)), Value.map p13, Value.int IntKind.i64 x1, Value.tuple #[Value.slice p23 r24 r25, Value.bool b26], Value.slice p23 r24 r25, Value.bool b26, v29, v30, v31, v32, v33, v34, v35, v36, v37, v38, v39, v40, v41, v42, v43, v44, v45, v53, v54, v55, v56, v57, v58, v59, v60, v61, v62, v63, Value.tuple #[Value.int IntKind.i64 n74, Value.int IntKind.i64 n75], Value.pointer x0, Value.pointer (some a67), Value.pointer (some (Addr.add a67 4)), Value.pointer p69, Value.int IntKind.i64 x1, Value.int IntKind.i64 x2, Value.slice x3a x3n x3c, Value.slice x4a x4n x4c, Value.tuple #[Value.int IntKind.i64 n74, Value.int IntKind.i64 n75], Value.int IntKind.i64 n74, Value.int IntKind.i64 n75, Value.int IntKind.i64 n75, Value.bool (n75 != 0), undef, Value.bool b130, v115, v116, v117, v118, v119, v120, v121, v122, v123, v124, v125, v126, v127, v128, v129, Value.pointer x0, Value.pointer (some a131), Value.pointer (some (Addr.add a131 6)), Value.pointer (some (Addr.add (Addr.add a131 6) 3)), Value.map p133, Value.int IntKind.i64 x1, Value.slice p64 r65 r66, undef, undef, undef, undef, undef, undef, undef] [Deferred.mk (Target.fn (Fn.func 69) #[]) #[Value.pointer (some a4)]])) R [] (raised u137 c) H138
| Ending.outgrown => False)) H114 (fun x139 H140 =>
  k112 H140))))) (sB b46 (nz x0 (fun a141 =>
  st H114 (Addr.add (Addr.add a141 6) 1) (Value.bool true) (fun H142 =>
  k112 H142))) (k112 H114)))) (fun k143 =>
  sB b46 (nz x0 (fun a144 =>
  ld H71 (Addr.add (Addr.add a144 6) 3) (fun v145 =>
  dMap v145 (fun p146 =>
  nz x0 (fun a147 =>
  ld H71 (Addr.add (Addr.add a147 6) 2) (fun v148 =>
  dInt IntKind.i64 v148 (fun n149 =>
  semW Tryz.prog (Builtin.len_ #[53] 3 #[Value.map p146]) nopR H71 (fun v152 H153 =>
  dInt IntKind.i64 v152 (fun n154 =>
  (ld H153 (Addr.add (Addr.add a147 6) 2) (fun v155 =>
  dInt IntKind.i64 v155 (fun n156 =>
  (Value.int IntKind.i64 n156) = (Value.int IntKind.i64 n149)))) ∧
  k143 (Value.bool (decide (n154 < n149))) H153))))))))) (k143 (Value.bool false) H71)))))))) (fun c157 H158 =>
  HCallsD Tryz.prog 69 #[Value.pointer (some a4)] (FrameMode.panicking c157) H158 (fun e159 u160 H161 =>
  match e159 with
| Ending.returned v => leavesV Tryz.prog Tryz.f25 (Act.tmps (Act.mk #[Value.pointer x0, Value.int IntKind.i64 x1, Value.int IntKind.i64 x2, Value.slice x3a x3n x3c, Value.slice x4a x4n x4c, undef, undef, undef, undef, undef, v49, v50, Value.slice p23 r24 r25, Value.bool b26, Value.bool b46, Value.slice p64 r65 r66, v51, v52, undef, undef, Value.pointer x0, Value.bool b3, Value.bool !b3, Value.pointer x0, Value.pointer (some a4), Value.pointer (some a4), Value.pointer x0, Value.int IntKind.i64 x1, Value.bool b7, Value.bool !b7, Value.tuple #[Value.slice p23 r24 r25, Value.bool b26], Value.pointer x0, Value.pointer (some a11), Value.pointer (some (Addr.add a11 6)), Value.pointer (some (Addr.add (Addr.add a11 6) 3)), Value.map p13, Value.int IntKind.i64 x1, Value.tuple #[Value.slice p23 r24 r25, Value.bool b26], Value.slice p23 r24 r25, Value.bool b26, v29, v30, v31, v32, v33, v34, v35, v36, v37, v38, v39, v40, v41, v42, v43, v44, v45, v53, v54, v55, v56, v57, v58, v59, v60, v61, v62, v63, undef, Value.pointer x0, Value.pointer (some a67), Value.pointer (some (Addr.add a67 4)), Value.pointer p69, Value.int IntKind.i64 x1, Value.int IntKind.i64 x2, Value.slice x3a x3n x3c, Value.slice x4a x4n x4c, undef, undef, undef, undef, undef, undef, undef, undef, undef, undef, undef, undef, undef, undef, undef, undef, undef, undef, undef, undef, undef, undef, undef, undef, undef, undef, undef, undef, undef, undef, undef, undef, undef, undef, undef, undef] [Deferred.mk (Target.fn (Fn.func 69) #[]) #[Value.pointer (some a4)]])) R [] (settle u160) H161
| Ending.panicked c => leavesV Tryz.prog Tryz.f25 (Act.tmps (Act.mk #[Value.pointer x0, Value.int IntKind.i64 x1, Value.int IntKind.i64 x2, Value.slice x3a x3n x3c, Value.slice x4a x4n x4c, undef, undef, undef, undef, undef, v49, v50, Value.slice p23 r24 r25, Value.bool b26, Value.bool b46, Value.slice p64 r65 r66, v51, v52, undef, undef, Value.pointer x0, Value.bool b3, Value.bool !b3, Value.pointer x0, Value.pointer (some a4), Value.pointer (some a4), Value.pointer x0, Value.int IntKind.i64 x1, Value.bool b7, Value.bool !b7, Value.tuple #[Value.slice p23 r24 r25, Value.bool b26], Value.pointer x0, Value.pointer (some a11), Value.pointer (some (Addr.add a11 6)), Value.pointer (some (Addr.add (Addr.add a11 6) 3)), Value.map p13, Value.int IntKind.i64 x1, Value.tuple #[Value.slice p23 r24 r25, Value.bool b26], Value.slice p23 r24 r25, Value.bool b26, v29, v30, v31, v32, v33, v34, v35, v36, v37, v38, v39, v40, v41, v42, v43, v44, v45, v53, v54, v55, v56, v57, v58, v59, v60, v61, v62, v63, undef, Value.pointer x0, Value.pointer (some a67), Value.pointer (some (Addr.add a67 4)), Value.pointer p69, Value.int IntKind.i64 x1, Value.int IntKind.i64 x2, Value.slice x3a x3n x3c, Value.slice x4a x4n x4c, undef, undef, undef, undef, undef, undef, undef, undef, undef, undef, undef, undef, undef, undef, undef, undef, undef, undef, undef, undef, undef, undef, undef, undef, undef, undef, undef, undef, undef, undef, undef, undef, undef, undef, undef, undef] [Deferred.mk (Target.fn (Fn.func 69) #[]) #[Value.pointer (some a4)]])) R [] (raised u160 c) H161
| Ending.outgrown => False)))))))) (fun k162 =>
  sB b46 (HCalls Tryz.prog 72 #[Value.pointer x0, Value.int IntKind.i64 x1] H28 (Sp.retK (fun v163 H164 =>
  dT 2 v163 (fun v165 v166 =>
  dSl v165 (fun p167 r168 r169 =>
  dInt IntKind.i64 v166 (fun n170 =>
  sB (n170 != 0) (HCallsD Tryz.prog 69 #[Value.pointer (some a4)] FrameMode.returning H164 (fun e171 u172 H173 =>
  match e171 with
| Ending.returned v => leavesV Tryz.prog Tryz.f25 (Act.tmps (Act.mk #[Value.pointer x0, Value.int IntKind.i64 x1, Value.int IntKind.i64 x2, Value.slice x3a x3n x3c, Value.slice x4a x4n x4c, undef, undef, undef, undef, undef, Value.int IntKind.i64 0, Value.int IntKind.i64 n170, Value.slice p23 r24 r25, Value.bool b26, Value.bool b46, Value.slice none 0 0, Value.slice p167 r168 r169, Value.int IntKind.i64 n170, undef, undef, Value.pointer x0, Value.bool b3, Value.bool !b3, Value.pointer x0, Value.pointer (some a4), Value.pointer (some a4), Value.pointer x0, Value.int IntKind.i64 x1, Value.bool b7, Value.bool !b7, Value.tuple #[Value.slice p23 r24 r25, Value.bool b26], Value.pointer x0, Value.pointer (some a11), Value.pointer (some (Addr.add a11 6)), Value.pointer (some (Addr.add (Addr.add a11 6) 3)), Value.map p13, Value.int IntKind.i64 x1, Value.tuple #[Value.slice p23 r24 r25, Value.bool b26], Value.slice p23 r24 r25, Value.bool b26, v29, v30, v31, v32, v33, v34, v35, v36, v37, v38, v39, v40, v41, v42, v43, v44, v45, Value.bool b46, Value.tuple #[Value.slice p167 r168 r169, Value.int IntKind.i64 n170], Value.pointer x0, Value.int IntKind.i64 x1, Value.tuple #[Value.slice p167 r168 r169, Value.int IntKind.i64 n170], Value.slice p167 r168 r169, Value.int IntKind.i64 n170, Value.int IntKind.i64 n170, Value.bool (n170 != 0), Value.int IntKind.i64 n170, undef, undef, undef, undef, undef, undef, undef, undef, undef, undef, undef, undef, undef, undef, undef, undef, undef, undef, undef, undef, undef, undef, undef, undef, undef, undef, undef, undef, undef, undef, undef, undef, undef, undef, undef, undef, undef, undef, undef, undef, undef, undef, undef, undef, undef, undef] [Deferred.mk (Target.fn (Fn.func 69) #[]) #[Value.pointer (some a4)]])) R [] (settle u172) H173
| Ending.panicked c => leavesV Tryz.prog Tryz.f25 (Act.tmps (Act.mk #[Value.pointer x0, Value.int IntKind.i64 x1, Value.int IntKind.i64 x2, Value.slice x3a x3n x3c, Value.slice x4a x4n x4c, undef, undef, undef, undef, undef, Value.int IntKind.i64 0, Value.int IntKind.i64 n170, Value.slice p23 r24 r25, Value.bool b26, Value.bool b46, Value.slice none 0 0, Value.slice p167 r168 r169, Value.int IntKind.i64 n170, undef, undef, Value.pointer x0, Value.bool b3, Value.bool !b3, Value.pointer x0, Value.pointer (some a4), Value.pointer (some a4), Value.pointer x0, Value.int IntKind.i64 x1, Value.bool b7, Value.bool !b7, Value.tuple #[Value.slice p23 r24 r25, Value.bool b26], Value.pointer x0, Value.pointer (some a11), Value.pointer (some (Addr.add a11 6)), Value.pointer (some (Addr.add (Addr.add a11 6) 3)), Value.map p13, Value.int IntKind.i64 x1, Value.tuple #[Value.slice p23 r24 r25, Value.bool b26], Value.slice p23 r24 r25, Value.bool b26, v29, v30, v31, v32, v33, v34, v35, v36, v37, v38, v39, v40, v41, v42, v43, v44, v45, Value.bool b46, Value.tuple #[Value.slice p167 r168 r169, Value.int IntKind.i64 n170], Value.pointer x0, Value.int IntKind.i64 x1, Value.tuple #[Value.slice p167 r168 r169, Value.int IntKind.i64 n170], Value.slice p167 r168 r169, Value.int IntKind.i64 n170, Value.int IntKind.i64 n170, Value.bool (n170 != 0), Value.int IntKind.i64 n170, undef, undef, undef, undef, undef, undef, undef, undef, undef, undef, undef, undef, undef, undef, undef, undef, undef, undef, undef, undef, undef, undef, undef, undef, undef, undef, undef, undef, undef, undef, undef, undef, undef, undef, undef, undef, undef, undef, undef, undef, undef, undef, undef, undef, undef, undef] [Deferred.mk (Target.fn (Fn.func 69) #[]) #[Value.pointer (some a4)]])) R [] (raised u172 c) H173
| Ending.outgrown => False)) (k162 (Value.slice p167 r168 r169) H164))))) (fun c174 H175 =>
  HCallsD Tryz.prog 69 #[Value.pointer (some a4)] (FrameMode.panicking c174) H175 (fun e176 u177 H178 =>
  match e176 with
| Ending.returned v => leavesV Tryz.prog Tryz.f25 (Act.tmps (Act.mk #[Value.pointer x0, Value.int IntKind.i64 x1, Value.int IntKind.i64 x2, Value.slice x3a x3n x3c, Value.slice x4a x4n x4c, undef, undef, undef, undef, undef, Value.int IntKind.i64 0, Value.int IntKind.i64 0, Value.slice p23 r24 r25, Value.bool b26, Value.bool b46, Value.slice none 0 0, undef, undef, undef, undef, Value.pointer x0, Value.bool b3, Value.bool !b3, Value.pointer x0, Value.pointer (some a4), Value.pointer (some a4), Value.pointer x0, Value.int IntKind.i64 x1, Value.bool b7, Value.bool !b7, Value.tuple #[Value.slice p23 r24 r25, Value.bool b26], Value.pointer x0, Value.pointer (some a11), Value.pointer (some (Addr.add a11 6)), Value.pointer (some (Addr.add (Addr.add a11 6) 3)), Value.map p13, Value.int IntKind.i64 x1, Value.tuple #[Value.slice p23 r24 r25, Value.bool b26], Value.slice p23 r24 r25, Value.bool b26, v29, v30, v31, v32, v33, v34, v35, v36, v37, v38, v39, v40, v41, v42, v43, v44, v45, Value.bool b46, undef, Value.pointer x0, Value.int IntKind.i64 x1, undef, undef, undef, undef, undef, undef, undef, undef, undef, undef, undef, undef, undef, undef, undef, undef, undef, undef, undef, undef, undef, undef, undef, undef, undef, undef, undef, undef, undef, undef, undef, undef, undef, undef, undef, undef, undef, undef, undef, undef, undef, undef, undef, undef, undef, undef, undef, undef, undef, undef, undef, undef] [Deferred.mk (Target.fn (Fn.func 69) #[]) #[Value.pointer (some a4)]])) R [] (settle u177) H178
| Ending.panicked c => leavesV Tryz.prog Tryz.f25 (Act.tmps (Act.mk #[Value.pointer x0, Value.int IntKind.i64 x1, Value.int IntKind.i64 x2, Value.slice x3a x3n x3c, Value.slice x4a x4n x4c, undef, undef, undef, undef, undef, Value.int IntKind.i64 0, Value.int IntKind.i64 0, Value.slice p23 r24 r25, Value.bool b26, Value.bool b46, Value.slice none 0 0, undef, undef, undef, undef, Value.pointer x0, Value.bool b3, Value.bool !b3, Value.pointer x0, Value.pointer (some a4), Value.pointer (some a4), Value.pointer x0, Value.int IntKind.i64 x1, Value.bool b7, Value.bool !b7, Value.tuple #[Value.slice p23 r24 r25, Value.bool b26], Value.pointer x0, Value.pointer (some a11), Value.pointer (some (Addr.add a11 6)), Value.pointer (some (Addr.add (Addr.add a11 6) 3)), Value.map p13, Value.int IntKind.i64 x1, Value.tuple #[Value.slice p23 r24 r25, Value.bool b26], Value.slice p23 r24 r25, Value.bool b26, v29, v30, v31, v32, v33, v34, v35, v36, v37, v38, v39, v40, v41, v42, v43, v44, v45, Value.bool b46, undef, Value.pointer x0, Value.int IntKind.i64 x1, undef, undef, undef, undef, undef, undef, undef, undef, undef, undef, undef, undef, undef, undef, undef, undef, undef, undef, undef, undef, undef, undef, undef, undef, undef, undef, undef, undef, undef, undef, undef, undef, undef, undef, undef, undef, undef, undef, undef, undef, undef, undef, undef, undef, undef, undef, undef, undef, undef, undef, undef, undef] [Deferred.mk (Target.fn (Fn.func 69) #[]) #[Value.pointer (some a4)]])) R [] (raised u177 c) H178
| Ending.outgrown => False)))) (k162 (Value.slice none 0 0) H28)))) (fun k179 =>
  nz x0 (fun a180 =>
  ld H20 (Addr.add a180 6) (fun v181 =>
  dBl v181 (fun b182 =>
  sB b182 (nz x0 (fun a183 =>
  ld H20 (Addr.add (Addr.add a183 6) 1) (fun v184 =>
  dBl v184 (fun b185 =>
  sB (!b185) (k179 (Value.bool !b26) H20) (k179 (Value.bool false) H20))))) (k179 (Value.bool false) H20))))))))))))))) (fun c186 H187 =>
  HCallsD Tryz.prog 69 #[Value.pointer (some a4)] (FrameMode.panicking c186) H187 (fun e188 u189 H190 =>
  match e188 with
| Ending.returned v => leavesV Tryz.prog Tryz.f25 (Act.tmps (Act.mk #[Value.pointer x0, Value.int IntKind.i64 x1, Value.int IntKind.i64 x2, Value.slice x3a x3n x3c, Value.slice x4a x4n x4c, undef, undef, undef, undef, undef, Value.int IntKind.i64 0, Value.int IntKind.i64 0, undef, undef, undef, undef, undef, undef, undef, undef, Value.pointer x0, Value.bool b3, Value.bool !b3, Value.pointer x0, Value.pointer (some a4), Value.pointer (some a4), Value.pointer x0, Value.int IntKind.i64 x1, undef, undef, undef, undef, undef, undef, undef, undef, undef, undef, undef, undef, undef, undef, undef, undef, undef, undef, undef, undef, undef, undef, undef, undef, undef, undef, undef, undef, undef, undef, undef, undef, undef, undef, undef, undef, undef, undef, undef, undef, undef, undef, undef, undef, undef, undef, undef, undef, undef, undef, undef, undef, undef, undef, undef, undef, undef, undef, undef, undef, undef, undef, undef, undef, undef, undef, undef, undef, undef, undef, undef, undef, undef, undef, undef, undef, undef, undef, undef, undef, undef, undef, undef, undef, undef] [Deferred.mk (Target.fn (Fn.func 69) #[]) #[Value.pointer (some a4)]])) R [] (settle u189) H190
| Ending.panicked c => leavesV Tryz.prog Tryz.f25 (Act.tmps (Act.mk #[Value.pointer x0, Value.int IntKind.i64 x1, Value.int IntKind.i64 x2, Value.slice x3a x3n x3c, Value.slice x4a x4n x4c, undef, undef, undef, undef, undef, Value.int IntKind.i64 0, Value.int IntKind.i64 0, undef, undef, undef, undef, undef, undef, undef, undef, Value.pointer x0, Value.bool b3, Value.bool !b3, Value.pointer x0, Value.pointer (some a4), Value.pointer (some a4), Value.pointer x0, Value.int IntKind.i64 x1, undef, undef, undef, undef, undef, undef, undef, undef, undef, undef, undef, undef, undef, undef, undef, undef, undef, undef, undef, undef, undef, undef, undef, undef, undef, undef, undef, undef, undef, undef, undef, undef, undef, undef, undef, undef, undef, undef, undef, undef, undef, undef, undef, undef, undef, undef, undef, undef, undef, undef, undef, undef, undef, undef, undef, undef, undef, undef, undef, undef, undef, undef, undef, undef, undef, undef, undef, undef, undef, undef, undef, undef, undef, undef, undef, undef, undef, undef, undef, undef, undef, undef, undef, undef, undef] [Deferred.mk (Target.fn (Fn.func 69) #[]) #[Value.pointer (some a4)]])) R [] (raised u189 c) H190
| Ending.outgrown => False))))))) (pnR R))
theorem F25_eq (x0 : Option Addr) (x1 : Int) (x2 : Int) (x3a : Option Addr) (x3n : Nat) (x3c : Nat) (x4a : Option Addr) (x4n : Nat) (x4c : Nat) (R : Ending → Heap → Prop) (H : Heap) : F25 x0 x1 x2 x3a x3n x3c x4a x4n x4c R H = vc Tryz.prog (codeOf Tryz.f25) (.node none .leaf (.node none .leaf (.node none .leaf (.node none .leaf (.node none .leaf (.node (some ⟨[(14, 4)], [40, 41, 42, 43, 44, 45, 46, 47, 48, 49, 50, 51, 52, 53, 54, 55, 56]⟩) .leaf (.node none .leaf (.node (some ⟨[(15, 38)], [10, 11, 16, 17, 57, 58, 59, 60, 61, 62, 63, 64, 65, 66, 67]⟩) .leaf (.node none .leaf (.node none .leaf (.node (some ⟨[], [83, 84, 85, 86, 87, 88, 89, 90, 91, 92, 93, 94, 95, 96, 97, 98, 99, 100, 101, 102, 103, 104, 105, 106, 107, 108, 109, 110, 111]⟩) (.node none (.node (some ⟨[(83, 4)], [84, 85, 86, 87, 88, 89, 90, 91, 92, 93, 94, 95, 96, 97, 98]⟩) .leaf .leaf) .leaf) .leaf))))))))))) (postV Tryz.prog Tryz.f25 R) ⟨#[Value.pointer x0, Value.int IntKind.i64 x1, Value.int IntKind.i64 x2, Value.slice x3a x3n x3c, Value.slice x4a x4n x4c] ++ Array.replicate (Tryz.f25.ntmps - 5) undef, []⟩ H := by kernel_rfl
theorem F25_calls {R : Ending → Heap → Prop} {H : Heap} (x0 : Option Addr) (x1 : Int) (x2 : Int) (x3a : Option Addr) (x3n : Nat) (x3c : Nat) (x4a : Option Addr) (x4n : Nat) (x4c : Nat) (h : F25 x0 x1 x2 x3a x3n x3c x4a x4n x4c R H) : HCalls Tryz.prog 25 #[Value.pointer x0, Value.int IntKind.i64 x1, Value.int IntKind.i64 x2, Value.slice x3a x3n x3c, Value.slice x4a x4n x4c] H R :=
  calls_by (F := F25 x0 x1 x2 x3a x3n x3c x4a x4n x4c R H) (.node none .leaf (.node none .leaf (.node none .leaf (.node none .leaf (.node none .leaf (.node (some ⟨[(14, 4)], [40, 41, 42, 43, 44, 45, 46, 47, 48, 49, 50, 51, 52, 53, 54, 55, 56]⟩) .leaf (.node none .leaf (.node (some ⟨[(15, 38)], [10, 11, 16, 17, 57, 58, 59, 60, 61, 62, 63, 64, 65, 66, 67]⟩) .leaf (.node none .leaf (.node none .leaf (.node (some ⟨[], [83, 84, 85, 86, 87, 88, 89, 90, 91, 92, 93, 94, 95, 96, 97, 98, 99, 100, 101, 102, 103, 104, 105, 106, 107, 108, 109, 110, 111]⟩) (.node none (.node (some ⟨[(83, 4)], [84, 85, 86, 87, 88, 89, 90, 91, 92, 93, 94, 95, 96, 97, 98]⟩) .leaf .leaf) .leaf) .leaf))))))))))) Tryz.func25 rfl (F25_eq x0 x1 x2 x3a x3n x3c x4a x4n x4c R H) h
/-- (*bollard/volume.Volume).Read -/
def F26 (x0 : Option Addr) (x1 : Int) (R : Ending → Heap → Prop) (H : Heap) : Prop :=
  HCalls Tryz.prog 68 #[Value.pointer x0] H (Sp.retK (fun v1 H2 =>
  dBl v1 (fun b3 =>
  sB (!b3) (R (Ending.returned (Value.tuple #[Value.slice none 0 0, Value.int IntKind.i64 2])) H2) (nz x0 (fun a4 =>
  HCalls Tryz.prog 72 #[Value.pointer x0, Value.int IntKind.i64 x1] H2 (Sp.retK (fun v5 H6 =>
  dT 2 v5 (fun v7 v8 =>
  dSl v7 (fun p9 r10 r11 =>
  dInt IntKind.i64 v8 (fun n12 =>
  HCallsD Tryz.prog 69 #[Value.pointer (some a4)] FrameMode.returning H6 (fun e13 u14 H15 =>
  match e13 with
| Ending.returned v => leavesV Tryz.prog Tryz.f26 (Act.tmps (Act.mk #[Value.pointer x0, Value.int IntKind.i64 x1, undef, undef, Value.slice p9 r10 r11, Value.int IntKind.i64 n12, Value.pointer x0, Value.bool b3, Value.bool !b3, Value.pointer x0, Value.pointer (some a4), Value.pointer (some a4), Value.pointer x0, Value.int IntKind.i64 x1, Value.tuple #[Value.slice p9 r10 r11, Value.int IntKind.i64 n12], Value.slice p9 r10 r11, Value.int IntKind.i64 n12] [Deferred.mk (Target.fn (Fn.func 69) #[]) #[Value.pointer (some a4)]])) R [] (settle u14) H15
| Ending.panicked c => leavesV Tryz.prog Tryz.f26 (Act.tmps (Act.mk #[Value.pointer x0, Value.int IntKind.i64 x1, undef, undef, Value.slice p9 r10 r11, Value.int IntKind.i64 n12, Value.pointer x0, Value.bool b3, Value.bool !b3, Value.pointer x0, Value.pointer (some a4), Value.pointer (some a4), Value.pointer x0, Value.int IntKind.i64 x1, Value.tuple #[Value.slice p9 r10 r11, Value.int IntKind.i64 n12], Value.slice p9 r10 r11, Value.int IntKind.i64 n12] [Deferred.mk (Target.fn (Fn.func 69) #[]) #[Value.pointer (some a4)]])) R [] (raised u14 c) H15
| Ending.outgrown => False))))) (fun c16 H17 =>
  HCallsD Tryz.prog 69 #[Value.pointer (some a4)] (FrameMode.panicking c16) H17 (fun e18 u19 H20 =>
  match e18 with
| Ending.returned v => leavesV Tryz.prog Tryz.f26 (Act.tmps (Act.mk #[Value.pointer x0, Value.int IntKind.i64 x1, undef, undef, Value.slice none 0 0, Value.int IntKind.i64 0, Value.pointer x0, Value.bool b3, Value.bool !b3, Value.pointer x0, Value.pointer (some a4), Value.pointer (some a4), Value.pointer x0, Value.int IntKind.i64 x1, undef, undef, undef] [Deferred.mk (Target.fn (Fn.func 69) #[]) #[Value.pointer (some a4)]])) R [] (settle u19) H20
| Ending.panicked c => leavesV Tryz.prog Tryz.f26 (Act.tmps (Act.mk #[Value.pointer x0, Value.int IntKind.i64 x1, undef, undef, Value.slice none 0 0, Value.int IntKind.i64 0, Value.pointer x0, Value.bool b3, Value.bool !b3, Value.pointer x0, Value.pointer (some a4), Value.pointer (some a4), Value.pointer x0, Value.int IntKind.i64 x1, undef, undef, undef] [Deferred.mk (Target.fn (Fn.func 69) #[]) #[Value.pointer (some a4)]])) R [] (raised u19 c) H20
| Ending.outgrown => False))))))) (pnR R))
theorem F26_eq (x0 : Option Addr) (x1 : Int) (R : Ending → Heap → Prop) (H : Heap) : F26 x0 x1 R H = vc Tryz.prog (codeOf Tryz.f26) .leaf (postV Tryz.prog Tryz.f26 R) ⟨#[Value.pointer x0, Value.int IntKind.i64 x1] ++ Array.replicate (Tryz.f26.ntmps - 2) undef, []⟩ H := by kernel_rfl
theorem F26_calls {R : Ending → Heap → Prop} {H : Heap} (x0 : Option Addr) (x1 : Int) (h : F26 x0 x1 R H) : HCalls Tryz.prog 26 #[Value.pointer x0, Value.int IntKind.i64 x1] H R :=
  calls_by (F := F26 x0 x1 R H) .leaf Tryz.func26 rfl (F26_eq x0 x1 R H) h
end Go.Proofs.YtngploohhmfaiaaGreat.E
/- The functions' forms in the engine's words, printed by my own program. -/
namespace Go.Proofs.YtngploohhmfaiaaGreat.E
open Go Go.Proofs
set_option linter.unusedVariables false
/-- bollard/volume.Open -/
def F31 (x0 : Option Addr) (x1 : Int) (R : Ending → Heap → Prop) (H : Heap) : Prop :=
  HCalls Tryz.prog 81 #[Value.pointer x0, Value.int IntKind.i64 x1] H (Sp.retK (fun v1 H2 =>
  dT 2 v1 (fun v3 v4 =>
  dPtr v3 (fun p5 =>
  dInt IntKind.i64 v4 (fun n6 =>
  sB (n6 != 0) (R (Ending.returned (Value.tuple #[Value.pointer none, Value.int IntKind.i64 n6])) H2) (HCalls Tryz.prog 82 #[] H2 (Sp.retK (fun v7 H8 =>
  dPtr v7 (fun p9 =>
  al H8 (Obj.map #[] 0) (fun r10 H11 =>
  al H11 (Obj.cells #[Value.int IntKind.i32 0, Value.int IntKind.u32 0, Value.pointer x0, Value.pointer p5, Value.pointer p9, Value.map (some r10), Value.bool false, Value.bool false, Value.int IntKind.i64 0, Value.map none] 57) (fun r12 H13 =>
  R (Ending.returned (Value.tuple #[Value.pointer (some (Addr.mk r12 0 none)), Value.int IntKind.i64 0])) H13)))) (pnR R))))))) (pnR R))
theorem F31_eq (x0 : Option Addr) (x1 : Int) (R : Ending → Heap → Prop) (H : Heap) : F31 x0 x1 R H = vc Tryz.prog (codeOf Tryz.f31) .leaf (postV Tryz.prog Tryz.f31 R) ⟨#[Value.pointer x0, Value.int IntKind.i64 x1] ++ Array.replicate (Tryz.f31.ntmps - 2) undef, []⟩ H := by kernel_rfl
theorem F31_calls {R : Ending → Heap → Prop} {H : Heap} (x0 : Option Addr) (x1 : Int) (h : F31 x0 x1 R H) : HCalls Tryz.prog 31 #[Value.pointer x0, Value.int IntKind.i64 x1] H R :=
  calls_by (F := F31 x0 x1 R H) .leaf Tryz.func31 rfl (F31_eq x0 x1 R H) h
/-- bytes.Clone -/
def F48 (x0a : Option Addr) (x0n : Nat) (x0c : Nat) (R : Ending → Heap → Prop) (H : Heap) : Prop :=
  sB (Option.isNone x0a) (R (Ending.returned (Value.slice none 0 0)) H) (al H (Obj.cells #[] 5) (fun r1 H2 =>
  semW Tryz.prog (Builtin.append_ #[38, 38] 38 #[Value.slice (some (Addr.mk r1 0 none)) 0 0, Value.slice x0a x0n x0c]) (pnR R) H2 (fun v5 H6 =>
  dSl v5 (fun p7 r8 r9 =>
  R (Ending.returned (Value.slice p7 r8 r9)) H6))))
theorem F48_eq (x0a : Option Addr) (x0n : Nat) (x0c : Nat) (R : Ending → Heap → Prop) (H : Heap) : F48 x0a x0n x0c R H = vc Tryz.prog (codeOf Tryz.f48) .leaf (postV Tryz.prog Tryz.f48 R) ⟨#[Value.slice x0a x0n x0c] ++ Array.replicate (Tryz.f48.ntmps - 1) undef, []⟩ H := by kernel_rfl
theorem F48_calls {R : Ending → Heap → Prop} {H : Heap} (x0a : Option Addr) (x0n : Nat) (x0c : Nat) (h : F48 x0a x0n x0c R H) : HCalls Tryz.prog 48 #[Value.slice x0a x0n x0c] H R :=
  calls_by (F := F48 x0a x0n x0c R H) .leaf Tryz.func48 rfl (F48_eq x0a x0n x0c R H) h
end Go.Proofs.YtngploohhmfaiaaGreat.E
/- The functions' forms in the engine's words, printed by my own program. -/
namespace Go.Proofs.YtngploohhmfaiaaGreat.E
open Go Go.Proofs
set_option linter.unusedVariables false
/-- (*bollard/volume.Volume).Freeze -/
def F51 (x0 : Option Addr) (x1 : Int) (R : Ending → Heap → Prop) (H : Heap) : Prop :=
  HCalls Tryz.prog 68 #[Value.pointer x0] H (Sp.retK (fun v1 H2 =>
  dBl v1 (fun b3 =>
  sB (!b3) (R (Ending.returned (Value.int IntKind.i64 2)) H2) (nz x0 (fun a4 =>
  nz x0 (fun a5 =>
  ld H2 (Addr.add a5 6) (fun v6 =>
  dBl v6 (fun b7 =>
  sB b7 (HCallsD Tryz.prog 69 #[Value.pointer (some a4)] FrameMode.returning H2 (fun e8 u9 H10 =>
  match e8 with
| Ending.returned v => leavesV Tryz.prog Tryz.f51 (Act.tmps (Act.mk #[Value.pointer x0, Value.int IntKind.i64 x1, undef, undef, Value.int IntKind.i64 3, Value.pointer x0, Value.bool b3, Value.bool !b3, Value.pointer x0, Value.pointer (some a4), Value.pointer (some a4), Value.bool b7, Value.pointer x0, Value.pointer (some a5), Value.pointer (some (Addr.add a5 6)), Value.pointer (some (Addr.add a5 6)), Value.bool b7, undef, undef, undef, undef, undef, undef, undef, undef, undef, undef, undef, undef, undef] [Deferred.mk (Target.fn (Fn.func 69) #[]) #[Value.pointer (some a4)]])) R [] (settle u9) H10
| Ending.panicked c => leavesV Tryz.prog Tryz.f51 (Act.tmps (Act.mk #[Value.pointer x0, Value.int IntKind.i64 x1, undef, undef, Value.int IntKind.i64 3, Value.pointer x0, Value.bool b3, Value.bool !b3, Value.pointer x0, Value.pointer (some a4), Value.pointer (some a4), Value.bool b7, Value.pointer x0, Value.pointer (some a5), Value.pointer (some (Addr.add a5 6)), Value.pointer (some (Addr.add a5 6)), Value.bool b7, undef, undef, undef, undef, undef, undef, undef, undef, undef, undef, undef, undef, undef] [Deferred.mk (Target.fn (Fn.func 69) #[]) #[Value.pointer (some a4)]])) R [] (raised u9 c) H10
| Ending.outgrown => False)) (jn (α := VFH 1) (fun v11 H12 =>
  ∀ v13 v14 v15 v16 v17 v18 : Value,
  dBl v11 (fun b19 =>
  sB b19 (HCallsD Tryz.prog 69 #[Value.pointer (some a4)] FrameMode.returning H12 (fun e20 u21 H22 =>
  match e20 with
| Ending.returned v => leavesV Tryz.prog Tryz.f51 (Act.tmps (Act.mk #[Value.pointer x0, Value.int IntKind.i64 x1, undef, undef, Value.int IntKind.i64 1, Value.pointer x0, Value.bool b3, Value.bool !b3, Value.pointer x0, Value.pointer (some a4), Value.pointer (some a4), Value.bool b7, Value.pointer x0, Value.pointer (some a5), Value.pointer (some (Addr.add a5 6)), Value.pointer (some (Addr.add a5 6)), Value.bool b7, Value.bool b19, v13, v14, v15, v16, v17, v18, undef, undef, undef, undef, undef, undef] [Deferred.mk (Target.fn (Fn.func 69) #[]) #[Value.pointer (some a4)]])) R [] (settle u21) H22
| Ending.panicked c => leavesV Tryz.prog Tryz.f51 (Act.tmps (Act.mk #[Value.pointer x0, Value.int IntKind.i64 x1, undef, undef, Value.int IntKind.i64 1, Value.pointer x0, Value.bool b3, Value.bool !b3, Value.pointer x0, Value.pointer (some a4), Value.pointer (some a4), Value.bool b7, Value.pointer x0, Value.pointer (some a5), Value.pointer (some (Addr.add a5 6)), Value.pointer (some (Addr.add a5 6)), Value.bool b7, Value.bool b19, v13, v14, v15, v16, v17, v18, undef, undef, undef, undef, undef, undef] [Deferred.mk (Target.fn (Fn.func 69) #[]) #[Value.pointer (some a4)]])) R [] (raised u21 c) H22
| Ending.outgrown => False)) (al H12 (Obj.map #[] 0) (fun r23 H24 =>
  nz x0 (fun a25 =>
  st H24 (Addr.add a25 6) (Value.bool true) (fun H26 =>
  st H26 (Addr.add (Addr.add a25 6) 1) (Value.bool false) (fun H27 =>
  st H27 (Addr.add (Addr.add a25 6) 2) (Value.int IntKind.i64 x1) (fun H28 =>
  st H28 (Addr.add (Addr.add a25 6) 3) (Value.map (some r23)) (fun H29 =>
  HCallsD Tryz.prog 69 #[Value.pointer (some a4)] FrameMode.returning H29 (fun e30 u31 H32 =>
  match e30 with
| Ending.returned v => leavesV Tryz.prog Tryz.f51 (Act.tmps (Act.mk #[Value.pointer x0, Value.int IntKind.i64 x1, undef, undef, Value.int IntKind.i64 0, Value.pointer x0, Value.bool b3, Value.bool !b3, Value.pointer x0, Value.pointer (some a4), Value.pointer (some a4), Value.bool b7, Value.pointer x0, Value.pointer (some a5), Value.pointer (some (Addr.add a5 6)), Value.pointer (some (Addr.add a5 6)), Value.bool b7, Value.bool b19, v13, v14, v15, v16, v17, v18, Value.pointer x0, Value.int IntKind.i64 x1, Value.map (some r23), Value.agg #[Value.bool true, Value.bool false, Value.int IntKind.i64 x1, Value.map (some r23)], Value.pointer (some a25), Value.pointer (some (Addr.add a25 6))] [Deferred.mk (Target.fn (Fn.func 69) #[]) #[Value.pointer (some a4)]])) R [] (settle u31) H32
| Ending.panicked c => leavesV Tryz.prog Tryz.f51 (Act.tmps (Act.mk #[Value.pointer x0, Value.int IntKind.i64 x1, undef, undef, Value.int IntKind.i64 0, Value.pointer x0, Value.bool b3, Value.bool !b3, Value.pointer x0, Value.pointer (some a4), Value.pointer (some a4), Value.bool b7, Value.pointer x0, Value.pointer (some a5), Value.pointer (some (Addr.add a5 6)), Value.pointer (some (Addr.add a5 6)), Value.bool b7, Value.bool b19, v13, v14, v15, v16, v17, v18, Value.pointer x0, Value.int IntKind.i64 x1, Value.map (some r23), Value.agg #[Value.bool true, Value.bool false, Value.int IntKind.i64 x1, Value.map (some r23)], Value.pointer (some a25), Value.pointer (some (Addr.add a25 6))] [Deferred.mk (Target.fn (Fn.func 69) #[]) #[Value.pointer (some a4)]])) R [] (raised u31 c) H32
| Ending.outgrown => False)))))))))) (fun k33 =>
  sB (decide (x1 < 0)) (k33 (Value.bool true) H2) (k33 (Value.bool (decide (x1 > 65536))) H2)))))))))) (pnR R))
theorem F51_eq (x0 : Option Addr) (x1 : Int) (R : Ending → Heap → Prop) (H : Heap) : F51 x0 x1 R H = vc Tryz.prog (codeOf Tryz.f51) (.node none .leaf (.node none .leaf (.node none .leaf (.node none (.node none (.node none .leaf (.node none .leaf (.node (some ⟨[(17, 4)], [18, 19, 20, 21, 22, 23]⟩) .leaf .leaf))) .leaf) .leaf)))) (postV Tryz.prog Tryz.f51 R) ⟨#[Value.pointer x0, Value.int IntKind.i64 x1] ++ Array.replicate (Tryz.f51.ntmps - 2) undef, []⟩ H := by kernel_rfl
theorem F51_calls {R : Ending → Heap → Prop} {H : Heap} (x0 : Option Addr) (x1 : Int) (h : F51 x0 x1 R H) : HCalls Tryz.prog 51 #[Value.pointer x0, Value.int IntKind.i64 x1] H R :=
  calls_by (F := F51 x0 x1 R H) (.node none .leaf (.node none .leaf (.node none .leaf (.node none (.node none (.node none .leaf (.node none .leaf (.node (some ⟨[(17, 4)], [18, 19, 20, 21, 22, 23]⟩) .leaf .leaf))) .leaf) .leaf)))) Tryz.func51 rfl (F51_eq x0 x1 R H) h
/-- (*bollard/volume.Volume).Old -/
def F55 (x0 : Option Addr) (x1 : Int) (R : Ending → Heap → Prop) (H : Heap) : Prop :=
  HCalls Tryz.prog 68 #[Value.pointer x0] H (Sp.retK (fun v1 H2 =>
  dBl v1 (fun b3 =>
  sB (!b3) (R (Ending.returned (Value.tuple #[Value.slice none 0 0, Value.int IntKind.i64 2])) H2) (nz x0 (fun a4 =>
  jn (α := VFH 1) (fun v5 H6 =>
  ∀ v7 v8 v9 v10 v11 v12 v13 v14 v15 v16 v17 v18 : Value,
  dBl v5 (fun b19 =>
  sB b19 (HCallsD Tryz.prog 69 #[Value.pointer (some a4)] FrameMode.returning H6 (fun e20 u21 H22 =>
  match e20 with
| Ending.returned v => leavesV Tryz.prog Tryz.f55 (Act.tmps (Act.mk #[Value.pointer x0, Value.int IntKind.i64 x1, undef, undef, Value.slice none 0 0, Value.int IntKind.i64 3, undef, undef, Value.pointer x0, Value.bool b3, Value.bool !b3, Value.pointer x0, Value.pointer (some a4), Value.pointer (some a4), v7, v8, v9, v10, v11, v12, v13, v14, v15, v16, v17, v18, Value.bool b19, undef, undef, undef, undef, undef, undef, undef, undef, undef, undef, undef, undef, undef, undef, undef, undef, undef, undef] [Deferred.mk (Target.fn (Fn.func 69) #[]) #[Value.pointer (some a4)]])) R [] (settle u21) H22
| Ending.panicked c => leavesV Tryz.prog Tryz.f55 (Act.tmps (Act.mk #[Value.pointer x0, Value.int IntKind.i64 x1, undef, undef, Value.slice none 0 0, Value.int IntKind.i64 3, undef, undef, Value.pointer x0, Value.bool b3, Value.bool !b3, Value.pointer x0, Value.pointer (some a4), Value.pointer (some a4), v7, v8, v9, v10, v11, v12, v13, v14, v15, v16, v17, v18, Value.bool b19, undef, undef, undef, undef, undef, undef, undef, undef, undef, undef, undef, undef, undef, undef, undef, undef, undef, undef] [Deferred.mk (Target.fn (Fn.func 69) #[]) #[Value.pointer (some a4)]])) R [] (raised u21 c) H22
| Ending.outgrown => False)) (nz x0 (fun a23 =>
  ld H6 (Addr.add (Addr.add a23 6) 3) (fun v24 =>
  dMap v24 (fun p25 =>
  semW Tryz.prog (Instr.lookup 53 (Value.map p25) (Value.int IntKind.i64 x1) true) (fun c26 H27 =>
  HCallsD Tryz.prog 69 #[Value.pointer (some a4)] (FrameMode.panicking c26) H27 (fun e28 u29 H30 =>
  match e28 with
| Ending.returned v => leavesV Tryz.prog Tryz.f55 (Act.tmps (Act.mk #[Value.pointer x0, Value.int IntKind.i64 x1, undef, undef, Value.slice none 0 0, Value.int IntKind.i64 0, undef, undef, Value.pointer x0, Value.bool b3, Value.bool !b3, Value.pointer x0, Value.pointer (some a4), Value.pointer (some a4), v7, v8, v9, v10, v11, v12, v13, v14, v15, v16, v17, v18, Value.bool b19, undef, Value.pointer x0, Value.pointer (some a23), Value.pointer (some (Addr.add a23 6)), Value.pointer (some (Addr.add (Addr.add a23 6) 3)), Value.map p25, Value.int IntKind.i64 x1, undef, undef, undef, undef, undef, undef, undef, undef, undef, undef, undef] [Deferred.mk (Target.fn (Fn.func 69) #[]) #[Value.pointer (some a4)]])) R [] (settle u29) H30
| Ending.panicked c => leavesV Tryz.prog Tryz.f55 (Act.tmps (Act.mk #[Value.pointer x0, Value.int IntKind.i64 x1, undef, undef, Value.slice none 0 0, Value.int IntKind.i64 0, undef, undef, Value.pointer x0, Value.bool b3, Value.bool !b3, Value.pointer x0, Value.pointer (some a4), Value.pointer (some a4), v7, v8, v9, v10, v11, v12, v13, v14, v15, v16, v17, v18, Value.bool b19, undef, Value.pointer x0, Value.pointer (some a23), Value.pointer (some (Addr.add a23 6)), Value.pointer (some (Addr.add (Addr.add a23 6) 3)), Value.map p25, Value.int IntKind.i64 x1, undef, undef, undef, undef, undef, undef, undef, undef, undef, undef, undef] [Deferred.mk (Target.fn (Fn.func 69) #[]) #[Value.pointer (some a4)]])) R [] (raised u29 c) H30
| Ending.outgrown => False)) H6 (fun v31 H32 =>
  dT 2 v31 (fun v33 v34 =>
  dSl v33 (fun p35 r36 r37 =>
  dBl v34 (fun b38 =>
  sB b38 (HCalls Tryz.prog 107 #[Value.slice p35 r36 r37] H32 (Sp.retK (fun v39 H40 =>
  dSl v39 (fun p41 r42 r43 =>
  HCallsD Tryz.prog 69 #[Value.pointer (some a4)] FrameMode.returning H40 (fun e44 u45 H46 =>
  match e44 with
| Ending.returned v => leavesV Tryz.prog Tryz.f55 (Act.tmps (Act.mk #[Value.pointer x0, Value.int IntKind.i64 x1, undef, undef, Value.slice p41 r42 r43, Value.int IntKind.i64 0, Value.slice p35 r36 r37, Value.bool b38, Value.pointer x0, Value.bool b3, Value.bool !b3, Value.pointer x0, Value.pointer (some a4), Value.pointer (some a4), v7, v8, v9, v10, v11, v12, v13, v14, v15, v16, v17, v18, Value.bool b19, Value.tuple #[Value.slice p35 r36 r37, Value.bool b38], Value.pointer x0, Value.pointer (some a23), Value.pointer (some (Addr.add a23 6)), Value.pointer (some (Addr.add (Addr.add a23 6) 3)), Value.map p25, Value.int IntKind.i64 x1, Value.tuple #[Value.slice p35 r36 r37, Value.bool b38], Value.slice p35 r36 r37, Value.bool b38, Value.bool b38, Value.slice p35 r36 r37, Value.slice p41 r42 r43, undef, undef, undef, undef, undef] [Deferred.mk (Target.fn (Fn.func 69) #[]) #[Value.pointer (some a4)]])) R [] (settle u45) H46
| Ending.panicked c => leavesV Tryz.prog Tryz.f55 (Act.tmps (Act.mk #[Value.pointer x0, Value.int IntKind.i64 x1, undef, undef, Value.slice p41 r42 r43, Value.int IntKind.i64 0, Value.slice p35 r36 r37, Value.bool b38, Value.pointer x0, Value.bool b3, Value.bool !b3, Value.pointer x0, Value.pointer (some a4), Value.pointer (some a4), v7, v8, v9, v10, v11, v12, v13, v14, v15, v16, v17, v18, Value.bool b19, Value.tuple #[Value.slice p35 r36 r37, Value.bool b38], Value.pointer x0, Value.pointer (some a23), Value.pointer (some (Addr.add a23 6)), Value.pointer (some (Addr.add (Addr.add a23 6) 3)), Value.map p25, Value.int IntKind.i64 x1, Value.tuple #[Value.slice p35 r36 r37, Value.bool b38], Value.slice p35 r36 r37, Value.bool b38, Value.bool b38, Value.slice p35 r36 r37, Value.slice p41 r42 r43, undef, undef, undef, undef, undef] [Deferred.mk (Target.fn (Fn.func 69) #[]) #[Value.pointer (some a4)]])) R [] (raised u45 c) H46
| Ending.outgrown => False))) (fun c47 H48 =>
  HCallsD Tryz.prog 69 #[Value.pointer (some a4)] (FrameMode.panicking c47) H48 (fun e49 u50 H51 =>
  match e49 with
| Ending.returned v => leavesV Tryz.prog Tryz.f55 (Act.tmps (Act.mk #[Value.pointer x0, Value.int IntKind.i64 x1, undef, undef, Value.slice none 0 0, Value.int IntKind.i64 0, Value.slice p35 r36 r37, Value.bool b38, Value.pointer x0, Value.bool b3, Value.bool !b3, Value.pointer x0, Value.pointer (some a4), Value.pointer (some a4), v7, v8, v9, v10, v11, v12, v13, v14, v15, v16, v17, v18, Value.bool b19, Value.tuple #[Value.slice p35 r36 r37, Value.bool b38], Value.pointer x0, Value.pointer (some a23), Value.pointer (some (Addr.add a23 6)), Value.pointer (some (Addr.add (Addr.add a23 6) 3)), Value.map p25, Value.int IntKind.i64 x1, Value.tuple #[Value.slice p35 r36 r37, Value.bool b38], Value.slice p35 r36 r37, Value.bool b38, Value.bool b38, Value.slice p35 r36 r37, undef, undef, undef, undef, undef, undef] [Deferred.mk (Target.fn (Fn.func 69) #[]) #[Value.pointer (some a4)]])) R [] (settle u50) H51
| Ending.panicked c => leavesV Tryz.prog Tryz.f55 (Act.tmps (Act.mk #[Value.pointer x0, Value.int IntKind.i64 x1, undef, undef, Value.slice none 0 0, Value.int IntKind.i64 0, Value.slice p35 r36 r37, Value.bool b38, Value.pointer x0, Value.bool b3, Value.bool !b3, Value.pointer x0, Value.pointer (some a4), Value.pointer (some a4), v7, v8, v9, v10, v11, v12, v13, v14, v15, v16, v17, v18, Value.bool b19, Value.tuple #[Value.slice p35 r36 r37, Value.bool b38], Value.pointer x0, Value.pointer (some a23), Value.pointer (some (Addr.add a23 6)), Value.pointer (some (Addr.add (Addr.add a23 6) 3)), Value.map p25, Value.int IntKind.i64 x1, Value.tuple #[Value.slice p35 r36 r37, Value.bool b38], Value.slice p35 r36 r37, Value.bool b38, Value.bool b38, Value.slice p35 r36 r37, undef, undef, undef, undef, undef, undef] [Deferred.mk (Target.fn (Fn.func 69) #[]) #[Value.pointer (some a4)]])) R [] (raised u50 c) H51
| Ending.outgrown => False)))) (HCalls Tryz.prog 72 #[Value.pointer x0, Value.int IntKind.i64 x1] H32 (Sp.retK (fun v52 H53 =>
  dT 2 v52 (fun v54 v55 =>
  dSl v54 (fun p56 r57 r58 =>
  dInt IntKind.i64 v55 (fun n59 =>
  HCallsD Tryz.prog 69 #[Value.pointer (some a4)] FrameMode.returning H53 (fun e60 u61 H62 =>
  match e60 with
| Ending.returned v => leavesV Tryz.prog Tryz.f55 (Act.tmps (Act.mk #[Value.pointer x0, Value.int IntKind.i64 x1, undef, undef, Value.slice p56 r57 r58, Value.int IntKind.i64 n59, Value.slice p35 r36 r37, Value.bool b38, Value.pointer x0, Value.bool b3, Value.bool !b3, Value.pointer x0, Value.pointer (some a4), Value.pointer (some a4), v7, v8, v9, v10, v11, v12, v13, v14, v15, v16, v17, v18, Value.bool b19, Value.tuple #[Value.slice p35 r36 r37, Value.bool b38], Value.pointer x0, Value.pointer (some a23), Value.pointer (some (Addr.add a23 6)), Value.pointer (some (Addr.add (Addr.add a23 6) 3)), Value.map p25, Value.int IntKind.i64 x1, Value.tuple #[Value.slice p35 r36 r37, Value.bool b38], Value.slice p35 r36 r37, Value.bool b38, Value.bool b38, undef, undef, Value.pointer x0, Value.int IntKind.i64 x1, Value.tuple #[Value.slice p56 r57 r58, Value.int IntKind.i64 n59], Value.slice p56 r57 r58, Value.int IntKind.i64 n59] [Deferred.mk (Target.fn (Fn.func 69) #[]) #[Value.pointer (some a4)]])) R [] (settle u61) H62
| Ending.panicked c => leavesV Tryz.prog Tryz.f55 (Act.tmps (Act.mk #[Value.pointer x0, Value.int IntKind.i64 x1, undef, undef, Value.slice p56 r57 r58, Value.int IntKind.i64 n59, Value.slice p35 r36 r37, Value.bool b38, Value.pointer x0, Value.bool b3, Value.bool !b3, Value.pointer x0, Value.pointer (some a4), Value.pointer (some a4), v7, v8, v9, v10, v11, v12, v13, v14, v15, v16, v17, v18, Value.bool b19, Value.tuple #[Value.slice p35 r36 r37, Value.bool b38], Value.pointer x0, Value.pointer (some a23), Value.pointer (some (Addr.add a23 6)), Value.pointer (some (Addr.add (Addr.add a23 6) 3)), Value.map p25, Value.int IntKind.i64 x1, Value.tuple #[Value.slice p35 r36 r37, Value.bool b38], Value.slice p35 r36 r37, Value.bool b38, Value.bool b38, undef, undef, Value.pointer x0, Value.int IntKind.i64 x1, Value.tuple #[Value.slice p56 r57 r58, Value.int IntKind.i64 n59], Value.slice p56 r57 r58, Value.int IntKind.i64 n59] [Deferred.mk (Target.fn (Fn.func 69) #[]) #[Value.pointer (some a4)]])) R [] (raised u61 c) H62
| Ending.outgrown => False))))) (fun c63 H64 =>
  HCallsD Tryz.prog 69 #[Value.pointer (some a4)] (FrameMode.panicking c63) H64 (fun e65 u66 H67 =>
  match e65 with
| Ending.returned v => leavesV Tryz.prog Tryz.f55 (Act.tmps (Act.mk #[Value.pointer x0, Value.int IntKind.i64 x1, undef, undef, Value.slice none 0 0, Value.int IntKind.i64 0, Value.slice p35 r36 r37, Value.bool b38, Value.pointer x0, Value.bool b3, Value.bool !b3, Value.pointer x0, Value.pointer (some a4), Value.pointer (some a4), v7, v8, v9, v10, v11, v12, v13, v14, v15, v16, v17, v18, Value.bool b19, Value.tuple #[Value.slice p35 r36 r37, Value.bool b38], Value.pointer x0, Value.pointer (some a23), Value.pointer (some (Addr.add a23 6)), Value.pointer (some (Addr.add (Addr.add a23 6) 3)), Value.map p25, Value.int IntKind.i64 x1, Value.tuple #[Value.slice p35 r36 r37, Value.bool b38], Value.slice p35 r36 r37, Value.bool b38, Value.bool b38, undef, undef, Value.pointer x0, Value.int IntKind.i64 x1, undef, undef, undef] [Deferred.mk (Target.fn (Fn.func 69) #[]) #[Value.pointer (some a4)]])) R [] (settle u66) H67
| Ending.panicked c => leavesV Tryz.prog Tryz.f55 (Act.tmps (Act.mk #[Value.pointer x0, Value.int IntKind.i64 x1, undef, undef, Value.slice none 0 0, Value.int IntKind.i64 0, Value.slice p35 r36 r37, Value.bool b38, Value.pointer x0, Value.bool b3, Value.bool !b3, Value.pointer x0, Value.pointer (some a4), Value.pointer (some a4), v7, v8, v9, v10, v11, v12, v13, v14, v15, v16, v17, v18, Value.bool b19, Value.tuple #[Value.slice p35 r36 r37, Value.bool b38], Value.pointer x0, Value.pointer (some a23), Value.pointer (some (Addr.add a23 6)), Value.pointer (some (Addr.add (Addr.add a23 6) 3)), Value.map p25, Value.int IntKind.i64 x1, Value.tuple #[Value.slice p35 r36 r37, Value.bool b38], Value.slice p35 r36 r37, Value.bool b38, Value.bool b38, undef, undef, Value.pointer x0, Value.int IntKind.i64 x1, undef, undef, undef] [Deferred.mk (Target.fn (Fn.func 69) #[]) #[Value.pointer (some a4)]])) R [] (raised u66 c) H67
| Ending.outgrown => False)))))))))))))) (fun k68 =>
  nz x0 (fun a69 =>
  ld H2 (Addr.add a69 6) (fun v70 =>
  dBl v70 (fun b71 =>
  sB (!b71) (k68 (Value.bool true) H2) (nz x0 (fun a72 =>
  ld H2 (Addr.add (Addr.add a72 6) 1) (fun v73 =>
  dBl v73 (fun b74 =>
  k68 (Value.bool b74) H2)))))))))))) (pnR R))
theorem F55_eq (x0 : Option Addr) (x1 : Int) (R : Ending → Heap → Prop) (H : Heap) : F55 x0 x1 R H = vc Tryz.prog (codeOf Tryz.f55) (.node none .leaf (.node none .leaf (.node none .leaf (.node none (.node (some ⟨[(26, 4)], [14, 15, 16, 17, 18, 19, 20, 21, 22, 23, 24, 25]⟩) .leaf .leaf) .leaf)))) (postV Tryz.prog Tryz.f55 R) ⟨#[Value.pointer x0, Value.int IntKind.i64 x1] ++ Array.replicate (Tryz.f55.ntmps - 2) undef, []⟩ H := by kernel_rfl
theorem F55_calls {R : Ending → Heap → Prop} {H : Heap} (x0 : Option Addr) (x1 : Int) (h : F55 x0 x1 R H) : HCalls Tryz.prog 55 #[Value.pointer x0, Value.int IntKind.i64 x1] H R :=
  calls_by (F := F55 x0 x1 R H) (.node none .leaf (.node none .leaf (.node none .leaf (.node none (.node (some ⟨[(26, 4)], [14, 15, 16, 17, 18, 19, 20, 21, 22, 23, 24, 25]⟩) .leaf .leaf) .leaf)))) Tryz.func55 rfl (F55_eq x0 x1 R H) h
/-- (*bollard/volume.Volume).Broken -/
def F57 (x0 : Option Addr) (R : Ending → Heap → Prop) (H : Heap) : Prop :=
  HCalls Tryz.prog 68 #[Value.pointer x0] H (Sp.retK (fun v1 H2 =>
  dBl v1 (fun b3 =>
  sB (!b3) (R (Ending.returned (Value.bool false)) H2) (nz x0 (fun a4 =>
  nz x0 (fun a5 =>
  ld H2 (Addr.add (Addr.add a5 6) 1) (fun v6 =>
  dBl v6 (fun b7 =>
  HCallsD Tryz.prog 69 #[Value.pointer (some a4)] FrameMode.returning H2 (fun e8 u9 H10 =>
  match e8 with
| Ending.returned v => leavesV Tryz.prog Tryz.f57 (Act.tmps (Act.mk #[Value.pointer x0, undef, Value.bool b7, Value.pointer x0, Value.bool b3, Value.bool !b3, Value.pointer x0, Value.pointer (some a4), Value.pointer (some a4), Value.pointer x0, Value.pointer (some a5), Value.pointer (some (Addr.add a5 6)), Value.pointer (some (Addr.add (Addr.add a5 6) 1)), Value.bool b7] [Deferred.mk (Target.fn (Fn.func 69) #[]) #[Value.pointer (some a4)]])) R [] (settle u9) H10
| Ending.panicked c => leavesV Tryz.prog Tryz.f57 (Act.tmps (Act.mk #[Value.pointer x0, undef, Value.bool b7, Value.pointer x0, Value.bool b3, Value.bool !b3, Value.pointer x0, Value.pointer (some a4), Value.pointer (some a4), Value.pointer x0, Value.pointer (some a5), Value.pointer (some (Addr.add a5 6)), Value.pointer (some (Addr.add (Addr.add a5 6) 1)), Value.bool b7] [Deferred.mk (Target.fn (Fn.func 69) #[]) #[Value.pointer (some a4)]])) R [] (raised u9 c) H10
| Ending.outgrown => False)))))))) (pnR R))
theorem F57_eq (x0 : Option Addr) (R : Ending → Heap → Prop) (H : Heap) : F57 x0 R H = vc Tryz.prog (codeOf Tryz.f57) .leaf (postV Tryz.prog Tryz.f57 R) ⟨#[Value.pointer x0] ++ Array.replicate (Tryz.f57.ntmps - 1) undef, []⟩ H := by kernel_rfl
theorem F57_calls {R : Ending → Heap → Prop} {H : Heap} (x0 : Option Addr) (h : F57 x0 R H) : HCalls Tryz.prog 57 #[Value.pointer x0] H R :=
  calls_by (F := F57 x0 R H) .leaf Tryz.func57 rfl (F57_eq x0 R H) h
/-- (*bollard/volume.Volume).Kept -/
def F58 (x0 : Option Addr) (R : Ending → Heap → Prop) (H : Heap) : Prop :=
  HCalls Tryz.prog 68 #[Value.pointer x0] H (Sp.retK (fun v1 H2 =>
  dBl v1 (fun b3 =>
  sB (!b3) (R (Ending.returned (Value.int IntKind.i64 0)) H2) (nz x0 (fun a4 =>
  nz x0 (fun a5 =>
  ld H2 (Addr.add (Addr.add a5 6) 3) (fun v6 =>
  dMap v6 (fun p7 =>
  semW Tryz.prog (Builtin.len_ #[53] 3 #[Value.map p7]) (fun c8 H9 =>
  HCallsD Tryz.prog 69 #[Value.pointer (some a4)] (FrameMode.panicking c8) H9 (fun e10 u11 H12 =>
  match e10 with
| Ending.returned v => leavesV Tryz.prog Tryz.f58 (Act.tmps (Act.mk #[Value.pointer x0, undef, Value.int IntKind.i64 0, Value.pointer x0, Value.bool b3, Value.bool !b3, Value.pointer x0, Value.pointer (some a4), Value.pointer (some a4), Value.pointer x0, Value.pointer (some a5), Value.pointer (some (Addr.add a5 6)), Value.pointer (some (Addr.add (Addr.add a5 6) 3)), Value.map p7, undef] [Deferred.mk (Target.fn (Fn.func 69) #[]) #[Value.pointer (some a4)]])) R [] (settle u11) H12
| Ending.panicked c => leavesV Tryz.prog Tryz.f58 (Act.tmps (Act.mk #[Value.pointer x0, undef, Value.int IntKind.i64 0, Value.pointer x0, Value.bool b3, Value.bool !b3, Value.pointer x0, Value.pointer (some a4), Value.pointer (some a4), Value.pointer x0, Value.pointer (some a5), Value.pointer (some (Addr.add a5 6)), Value.pointer (some (Addr.add (Addr.add a5 6) 3)), Value.map p7, undef] [Deferred.mk (Target.fn (Fn.func 69) #[]) #[Value.pointer (some a4)]])) R [] (raised u11 c) H12
| Ending.outgrown => False)) H2 (fun v13 H14 =>
  dInt IntKind.i64 v13 (fun n15 =>
  HCallsD Tryz.prog 69 #[Value.pointer (some a4)] FrameMode.returning H14 (fun e16 u17 H18 =>
  match e16 with
| Ending.returned v => leavesV Tryz.prog Tryz.f58 (Act.tmps (Act.mk #[Value.pointer x0, undef, Value.int IntKind.i64 n15, Value.pointer x0, Value.bool b3, Value.bool !b3, Value.pointer x0, Value.pointer (some a4), Value.pointer (some a4), Value.pointer x0, Value.pointer (some a5), Value.pointer (some (Addr.add a5 6)), Value.pointer (some (Addr.add (Addr.add a5 6) 3)), Value.map p7, Value.int IntKind.i64 n15] [Deferred.mk (Target.fn (Fn.func 69) #[]) #[Value.pointer (some a4)]])) R [] (settle u17) H18
| Ending.panicked c => leavesV Tryz.prog Tryz.f58 (Act.tmps (Act.mk #[Value.pointer x0, undef, Value.int IntKind.i64 n15, Value.pointer x0, Value.bool b3, Value.bool !b3, Value.pointer x0, Value.pointer (some a4), Value.pointer (some a4), Value.pointer x0, Value.pointer (some a5), Value.pointer (some (Addr.add a5 6)), Value.pointer (some (Addr.add (Addr.add a5 6) 3)), Value.map p7, Value.int IntKind.i64 n15] [Deferred.mk (Target.fn (Fn.func 69) #[]) #[Value.pointer (some a4)]])) R [] (raised u17 c) H18
| Ending.outgrown => False)))))))))) (pnR R))
theorem F58_eq (x0 : Option Addr) (R : Ending → Heap → Prop) (H : Heap) : F58 x0 R H = vc Tryz.prog (codeOf Tryz.f58) .leaf (postV Tryz.prog Tryz.f58 R) ⟨#[Value.pointer x0] ++ Array.replicate (Tryz.f58.ntmps - 1) undef, []⟩ H := by kernel_rfl
theorem F58_calls {R : Ending → Heap → Prop} {H : Heap} (x0 : Option Addr) (h : F58 x0 R H) : HCalls Tryz.prog 58 #[Value.pointer x0] H R :=
  calls_by (F := F58 x0 R H) .leaf Tryz.func58 rfl (F58_eq x0 R H) h
end Go.Proofs.YtngploohhmfaiaaGreat.E
/- The functions' forms in the engine's words, printed by my own program. -/
namespace Go.Proofs.YtngploohhmfaiaaGreat.E
open Go Go.Proofs
set_option linter.unusedVariables false
/-- (*bollard/volume.Volume).Thaw -/
def F61 (x0 : Option Addr) (R : Ending → Heap → Prop) (H : Heap) : Prop :=
  HCalls Tryz.prog 68 #[Value.pointer x0] H (Sp.retK (fun v1 H2 =>
  dBl v1 (fun b3 =>
  sB (!b3) (R (Ending.returned (Value.int IntKind.i64 2)) H2) (nz x0 (fun a4 =>
  nz x0 (fun a5 =>
  ld H2 (Addr.add a5 6) (fun v6 =>
  dBl v6 (fun b7 =>
  sB (!b7) (HCallsD Tryz.prog 69 #[Value.pointer (some a4)] FrameMode.returning H2 (fun e8 u9 H10 =>
  match e8 with
| Ending.returned v => leavesV Tryz.prog Tryz.f61 (Act.tmps (Act.mk #[Value.pointer x0, undef, Value.int IntKind.i64 3, Value.pointer x0, Value.bool b3, Value.bool !b3, Value.pointer x0, Value.pointer (some a4), Value.pointer (some a4), Value.pointer x0, Value.pointer (some a5), Value.pointer (some (Addr.add a5 6)), Value.pointer (some (Addr.add a5 6)), Value.bool b7, Value.bool !b7, undef, undef, undef, undef] [Deferred.mk (Target.fn (Fn.func 69) #[]) #[Value.pointer (some a4)]])) R [] (settle u9) H10
| Ending.panicked c => leavesV Tryz.prog Tryz.f61 (Act.tmps (Act.mk #[Value.pointer x0, undef, Value.int IntKind.i64 3, Value.pointer x0, Value.bool b3, Value.bool !b3, Value.pointer x0, Value.pointer (some a4), Value.pointer (some a4), Value.pointer x0, Value.pointer (some a5), Value.pointer (some (Addr.add a5 6)), Value.pointer (some (Addr.add a5 6)), Value.bool b7, Value.bool !b7, undef, undef, undef, undef] [Deferred.mk (Target.fn (Fn.func 69) #[]) #[Value.pointer (some a4)]])) R [] (raised u9 c) H10
| Ending.outgrown => False)) (nz x0 (fun a11 =>
  st H2 (Addr.add a11 6) (Value.bool false) (fun H12 =>
  st H12 (Addr.add (Addr.add a11 6) 1) (Value.bool false) (fun H13 =>
  st H13 (Addr.add (Addr.add a11 6) 2) (Value.int IntKind.i64 0) (fun H14 =>
  st H14 (Addr.add (Addr.add a11 6) 3) (Value.map none) (fun H15 =>
  HCallsD Tryz.prog 69 #[Value.pointer (some a4)] FrameMode.returning H15 (fun e16 u17 H18 =>
  match e16 with
| Ending.returned v => leavesV Tryz.prog Tryz.f61 (Act.tmps (Act.mk #[Value.pointer x0, undef, Value.int IntKind.i64 0, Value.pointer x0, Value.bool b3, Value.bool !b3, Value.pointer x0, Value.pointer (some a4), Value.pointer (some a4), Value.pointer x0, Value.pointer (some a5), Value.pointer (some (Addr.add a5 6)), Value.pointer (some (Addr.add a5 6)), Value.bool b7, Value.bool !b7, Value.pointer x0, Value.agg #[Value.bool false, Value.bool false, Value.int IntKind.i64 0, Value.map none], Value.pointer (some a11), Value.pointer (some (Addr.add a11 6))] [Deferred.mk (Target.fn (Fn.func 69) #[]) #[Value.pointer (some a4)]])) R [] (settle u17) H18
| Ending.panicked c => leavesV Tryz.prog Tryz.f61 (Act.tmps (Act.mk #[Value.pointer x0, undef, Value.int IntKind.i64 0, Value.pointer x0, Value.bool b3, Value.bool !b3, Value.pointer x0, Value.pointer (some a4), Value.pointer (some a4), Value.pointer x0, Value.pointer (some a5), Value.pointer (some (Addr.add a5 6)), Value.pointer (some (Addr.add a5 6)), Value.bool b7, Value.bool !b7, Value.pointer x0, Value.agg #[Value.bool false, Value.bool false, Value.int IntKind.i64 0, Value.map none], Value.pointer (some a11), Value.pointer (some (Addr.add a11 6))] [Deferred.mk (Target.fn (Fn.func 69) #[]) #[Value.pointer (some a4)]])) R [] (raised u17 c) H18
| Ending.outgrown => False)))))))))))))) (pnR R))
theorem F61_eq (x0 : Option Addr) (R : Ending → Heap → Prop) (H : Heap) : F61 x0 R H = vc Tryz.prog (codeOf Tryz.f61) .leaf (postV Tryz.prog Tryz.f61 R) ⟨#[Value.pointer x0] ++ Array.replicate (Tryz.f61.ntmps - 1) undef, []⟩ H := by kernel_rfl
theorem F61_calls {R : Ending → Heap → Prop} {H : Heap} (x0 : Option Addr) (h : F61 x0 R H) : HCalls Tryz.prog 61 #[Value.pointer x0] H R :=
  calls_by (F := F61 x0 R H) .leaf Tryz.func61 rfl (F61_eq x0 R H) h
/-- (*bollard/snap.Snap).there -/
def F63 (x0 : Option Addr) (R : Ending → Heap → Prop) (H : Heap) : Prop :=
  jn (α := VFH 1) (fun v1 H2 =>
  ∀ v3 v4 v5 v6 v7 v8 v9 v10 v11 : Value,
  dBl v1 (fun b12 =>
  sB b12 (R (Ending.returned (Value.int IntKind.i64 2)) H2) (nz x0 (fun a13 =>
  HCalls Tryz.prog 113 #[Value.pointer (some a13)] H2 (Sp.retK (fun v14 H15 =>
  nz x0 (fun a16 =>
  nz x0 (fun a17 =>
  ld H15 (Addr.add a17 7) (fun v18 =>
  dBl v18 (fun b19 =>
  sB b19 (HCallsD Tryz.prog 69 #[Value.pointer (some a16)] FrameMode.returning H15 (fun e20 u21 H22 =>
  match e20 with
| Ending.returned v => leavesV Tryz.prog Tryz.f63 (Act.tmps (Act.mk #[Value.pointer x0, undef, Value.int IntKind.i64 100, v3, v4, v5, v6, v7, v8, v9, v10, v11, Value.bool b12, Value.pointer x0, Value.pointer (some a13), Value.pointer (some a13), v14, Value.pointer x0, Value.pointer (some a16), Value.pointer (some a16), Value.pointer x0, Value.pointer (some a17), Value.pointer (some (Addr.add a17 7)), Value.bool b19] [Deferred.mk (Target.fn (Fn.func 69) #[]) #[Value.pointer (some a16)]])) R [] (settle u21) H22
| Ending.panicked c => leavesV Tryz.prog Tryz.f63 (Act.tmps (Act.mk #[Value.pointer x0, undef, Value.int IntKind.i64 100, v3, v4, v5, v6, v7, v8, v9, v10, v11, Value.bool b12, Value.pointer x0, Value.pointer (some a13), Value.pointer (some a13), v14, Value.pointer x0, Value.pointer (some a16), Value.pointer (some a16), Value.pointer x0, Value.pointer (some a17), Value.pointer (some (Addr.add a17 7)), Value.bool b19] [Deferred.mk (Target.fn (Fn.func 69) #[]) #[Value.pointer (some a16)]])) R [] (raised u21 c) H22
| Ending.outgrown => False)) (HCallsD Tryz.prog 69 #[Value.pointer (some a16)] FrameMode.returning H15 (fun e23 u24 H25 =>
  match e23 with
| Ending.returned v => leavesV Tryz.prog Tryz.f63 (Act.tmps (Act.mk #[Value.pointer x0, undef, Value.int IntKind.i64 0, v3, v4, v5, v6, v7, v8, v9, v10, v11, Value.bool b12, Value.pointer x0, Value.pointer (some a13), Value.pointer (some a13), v14, Value.pointer x0, Value.pointer (some a16), Value.pointer (some a16), Value.pointer x0, Value.pointer (some a17), Value.pointer (some (Addr.add a17 7)), Value.bool b19] [Deferred.mk (Target.fn (Fn.func 69) #[]) #[Value.pointer (some a16)]])) R [] (settle u24) H25
| Ending.panicked c => leavesV Tryz.prog Tryz.f63 (Act.tmps (Act.mk #[Value.pointer x0, undef, Value.int IntKind.i64 0, v3, v4, v5, v6, v7, v8, v9, v10, v11, Value.bool b12, Value.pointer x0, Value.pointer (some a13), Value.pointer (some a13), v14, Value.pointer x0, Value.pointer (some a16), Value.pointer (some a16), Value.pointer x0, Value.pointer (some a17), Value.pointer (some (Addr.add a17 7)), Value.bool b19] [Deferred.mk (Target.fn (Fn.func 69) #[]) #[Value.pointer (some a16)]])) R [] (raised u24 c) H25
| Ending.outgrown => False))))))) (pnR R)))))) (fun k28 =>
  sB (Option.isNone x0) (k28 (Value.bool true) H) (nz x0 (fun a29 =>
  ld H (Addr.add a29 2) (fun v30 =>
  dPtr v30 (fun p31 =>
  k28 (Value.bool (Option.isNone p31)) H)))))
theorem F63_eq (x0 : Option Addr) (R : Ending → Heap → Prop) (H : Heap) : F63 x0 R H = vc Tryz.prog (codeOf Tryz.f63) (.node none .leaf (.node none (.node (some ⟨[(12, 4)], [3, 4, 5, 6, 7, 8, 9, 10, 11]⟩) .leaf .leaf) .leaf)) (postV Tryz.prog Tryz.f63 R) ⟨#[Value.pointer x0] ++ Array.replicate (Tryz.f63.ntmps - 1) undef, []⟩ H := by kernel_rfl
theorem F63_calls {R : Ending → Heap → Prop} {H : Heap} (x0 : Option Addr) (h : F63 x0 R H) : HCalls Tryz.prog 63 #[Value.pointer x0] H R :=
  calls_by (F := F63 x0 R H) (.node none .leaf (.node none (.node (some ⟨[(12, 4)], [3, 4, 5, 6, 7, 8, 9, 10, 11]⟩) .leaf .leaf) .leaf)) Tryz.func63 rfl (F63_eq x0 R H) h
/-- bollard/geom.Blocks -/
def F64 (x0_0 : Value) (x0_1 : Value) (x0_2 : Value) (R : Ending → Heap → Prop) (H : Heap) : Prop :=
  al H (Obj.cells #[x0_0, x0_1, x0_2] 32) (fun r1 H2 =>
  ld H2 (Addr.mk r1 0 none) (fun v3 =>
  ld H2 (Addr.mk r1 1 none) (fun v4 =>
  ld H2 (Addr.mk r1 2 none) (fun v5 =>
  ld H2 (Addr.mk r1 1 none) (fun v6 =>
  dInt IntKind.i64 v6 (fun n7 =>
  HCalls Tryz.prog 114 #[Value.agg #[v3, v4, v5], Value.int IntKind.i64 n7] H2 (Sp.retK (fun v8 H9 =>
  dInt IntKind.i64 v8 (fun n10 =>
  R (Ending.returned (Value.int IntKind.i64 n10)) H9)) (pnR R))))))))
theorem F64_eq (x0_0 : Value) (x0_1 : Value) (x0_2 : Value) (R : Ending → Heap → Prop) (H : Heap) : F64 x0_0 x0_1 x0_2 R H = vc Tryz.prog (codeOf Tryz.f64) .leaf (postV Tryz.prog Tryz.f64 R) ⟨#[Value.agg #[x0_0, x0_1, x0_2]] ++ Array.replicate (Tryz.f64.ntmps - 1) undef, []⟩ H := by kernel_rfl
theorem F64_calls {R : Ending → Heap → Prop} {H : Heap} (x0_0 : Value) (x0_1 : Value) (x0_2 : Value) (h : F64 x0_0 x0_1 x0_2 R H) : HCalls Tryz.prog 64 #[Value.agg #[x0_0, x0_1, x0_2]] H R :=
  calls_by (F := F64 x0_0 x0_1 x0_2 R H) .leaf Tryz.func64 rfl (F64_eq x0_0 x0_1 x0_2 R H) h
/-- bollard/geom.Can -/
def F65 (x0_0 : Value) (x0_1 : Value) (x0_2 : Value) (R : Ending → Heap → Prop) (H : Heap) : Prop :=
  al H (Obj.cells #[x0_0, x0_1, x0_2] 32) (fun r1 H2 =>
  jn (α := VFH 1) (fun v3 H4 =>
  ∀ v5 v6 v7 v8 v9 v10 v11 v12 v13 v14 v15 v16 v17 : Value,
  dBl v3 (fun b18 =>
  jn (α := VFH 1) (fun v19 H20 =>
  ∀ v21 v22 v23 v24 v25 v26 v27 v28 v29 v30 v31 v32 v33 v34 v35 : Value,
  dBl v19 (fun b36 =>
  sB b36 (R (Ending.returned (Value.int IntKind.i64 170)) H20) (R (Ending.returned (Value.int IntKind.i64 0)) H20))) (fun k37 =>
  sB (!b18) (k37 (Value.bool true) H4) (ld H4 (Addr.mk r1 2 none) (fun v38 =>
  dInt IntKind.i64 v38 (fun n39 =>
  ask ((4 : Int) ≠ (0 : Int)) (nm (Int.tmod n39 4) (fun n40 =>
  sB (n40 != 0) (k37 (Value.bool true) H4) (ld H4 (Addr.mk r1 1 none) (fun v41 =>
  dInt IntKind.i64 v41 (fun n42 =>
  ld H4 (Addr.mk r1 0 none) (fun v43 =>
  ld H4 (Addr.mk r1 1 none) (fun v44 =>
  ld H4 (Addr.mk r1 2 none) (fun v45 =>
  HCalls Tryz.prog 116 #[Value.agg #[v43, v44, v45]] H4 (Sp.retK (fun v46 H47 =>
  dInt IntKind.i64 v46 (fun n48 =>
  (ld H47 (Addr.mk r1 1 none) (fun v49 =>
  dInt IntKind.i64 v49 (fun n50 =>
  (Value.int IntKind.i64 n50) = (Value.int IntKind.i64 n42)))) ∧
  wr IntKind.i64 (n48 + 1) (fun n51 =>
  k37 (Value.bool (decide (n42 < n51))) H47))) nopR))))))))))))))) (fun k54 =>
  ld H2 (Addr.mk r1 0 none) (fun v55 =>
  dInt IntKind.i64 v55 (fun n56 =>
  HCalls Tryz.prog 115 #[Value.int IntKind.i64 n56, Value.int IntKind.i64 1, Value.int IntKind.i64 8] H2 (Sp.retK (fun v57 H58 =>
  dBl v57 (fun b59 =>
  sB b59 (ld H58 (Addr.mk r1 1 none) (fun v60 =>
  dInt IntKind.i64 v60 (fun n61 =>
  HCalls Tryz.prog 115 #[Value.int IntKind.i64 n61, Value.int IntKind.i64 8, Value.int IntKind.i64 256] H58 (Sp.retK (fun v62 H63 =>
  dBl v62 (fun b64 =>
  sB b64 (ld H63 (Addr.mk r1 2 none) (fun v65 =>
  dInt IntKind.i64 v65 (fun n66 =>
  HCalls Tryz.prog 115 #[Value.int IntKind.i64 n66, Value.int IntKind.i64 4, Value.int IntKind.i64 64] H63 (Sp.retK (fun v67 H68 =>
  dBl v67 (fun b69 =>
  k54 (Value.bool b69) H68)) (pnR R))))) (k54 (Value.bool false) H63))) (pnR R))))) (k54 (Value.bool false) H58))) (pnR R))))))
theorem F65_eq (x0_0 : Value) (x0_1 : Value) (x0_2 : Value) (R : Ending → Heap → Prop) (H : Heap) : F65 x0_0 x0_1 x0_2 R H = vc Tryz.prog (codeOf Tryz.f65) (.node none .leaf (.node (some ⟨[(3, 4)], [4, 5, 6, 7, 8, 9, 10, 11, 12, 13, 14, 15, 16]⟩) .leaf (.node none (.node (some ⟨[(32, 4)], [17, 18, 19, 20, 21, 22, 23, 24, 25, 26, 27, 28, 29, 30, 31]⟩) .leaf .leaf) .leaf))) (postV Tryz.prog Tryz.f65 R) ⟨#[Value.agg #[x0_0, x0_1, x0_2]] ++ Array.replicate (Tryz.f65.ntmps - 1) undef, []⟩ H := by kernel_rfl
theorem F65_calls {R : Ending → Heap → Prop} {H : Heap} (x0_0 : Value) (x0_1 : Value) (x0_2 : Value) (h : F65 x0_0 x0_1 x0_2 R H) : HCalls Tryz.prog 65 #[Value.agg #[x0_0, x0_1, x0_2]] H R :=
  calls_by (F := F65 x0_0 x0_1 x0_2 R H) (.node none .leaf (.node (some ⟨[(3, 4)], [4, 5, 6, 7, 8, 9, 10, 11, 12, 13, 14, 15, 16]⟩) .leaf (.node none (.node (some ⟨[(32, 4)], [17, 18, 19, 20, 21, 22, 23, 24, 25, 26, 27, 28, 29, 30, 31]⟩) .leaf .leaf) .leaf))) Tryz.func65 rfl (F65_eq x0_0 x0_1 x0_2 R H) h
/-- bollard/bollardplain.Of -/
def F67 (x0a : Option Addr) (x0n : Nat) (x0c : Nat) (x1 : Int) (R : Ending → Heap → Prop) (H : Heap) : Prop :=
  al H (Obj.cells #[Value.pointer none, Value.pointer none, Value.pointer none, Value.pointer none] 67) (fun r1 H2 =>
  HCalls Tryz.prog 121 #[Value.slice x0a x0n x0c] H2 (Sp.retK (fun v3 H4 =>
  dSl v3 (fun p5 r6 r7 =>
  HCalls Tryz.prog 97 #[Value.slice p5 r6 r7] H4 (Sp.retK (fun v8 H9 =>
  dT 2 v8 (fun v10 v11 =>
  dPtr v10 (fun p12 =>
  dInt IntKind.i64 v11 (fun n13 =>
  HCalls Tryz.prog 122 #[Value.slice x0a x0n x0c] H9 (Sp.retK (fun v14 H15 =>
  dT 2 v14 (fun v16 v17 =>
  dPtr v16 (fun p18 =>
  dInt IntKind.i64 v17 (fun n19 =>
  jn (α := VFH 1) (fun v20 H21 =>
  ∀ v22 v23 v24 v25 v26 v27 v28 v29 v30 v31 : Value,
  dBl v20 (fun b32 =>
  sB b32 (sB (n13 == n19) (sB (Option.isNone p12) (R (Ending.returned (Value.tuple #[Value.pointer none, Value.bool (Option.isNone p18)])) H21) (R (Ending.returned (Value.tuple #[Value.pointer none, Value.bool false])) H21)) (R (Ending.returned (Value.tuple #[Value.pointer none, Value.bool false])) H21)) (HCalls Tryz.prog 31 #[Value.pointer p12, Value.int IntKind.i64 x1] H21 (Sp.retK (fun v33 H34 =>
  dT 2 v33 (fun v35 v36 =>
  dPtr v35 (fun p37 =>
  dInt IntKind.i64 v36 (fun n38 =>
  HCalls Tryz.prog 123 #[Value.pointer p18, Value.int IntKind.i64 x1] H34 (Sp.retK (fun v39 H40 =>
  dT 2 v39 (fun v41 v42 =>
  dPtr v41 (fun p43 =>
  dInt IntKind.i64 v42 (fun n44 =>
  jn (α := VFH 1) (fun v45 H46 =>
  ∀ v47 v48 v49 v50 v51 v52 v53 v54 v55 : Value,
  dBl v45 (fun b56 =>
  sB b56 (R (Ending.returned (Value.tuple #[Value.pointer none, Value.bool false])) H46) (sB (Option.isNone p43) (R (Ending.returned (Value.tuple #[Value.pointer none, Value.bool true])) H46) (st H46 (Addr.mk r1 0 none) (Value.pointer p12) (fun H57 =>
  st H57 (Addr.mk r1 1 none) (Value.pointer p37) (fun H58 =>
  st H58 (Addr.mk r1 2 none) (Value.pointer p18) (fun H59 =>
  st H59 (Addr.mk r1 3 none) (Value.pointer p43) (fun H60 =>
  R (Ending.returned (Value.tuple #[Value.pointer (some (Addr.mk r1 0 none)), Value.bool true])) H60)))))))) (fun k61 =>
  sB (n38 != n44) (k61 (Value.bool true) H40) (k61 (Value.bool !Option.isNone p37 == Option.isNone p43) H40)))))) (pnR R)))))) (pnR R))))) (fun k66 =>
  sB (n13 != n19) (k66 (Value.bool true) H15) (sB (Option.isNone p12) (k66 (Value.bool true) H15) (k66 (Value.bool (Option.isNone p18)) H15))))))) (pnR R)))))) (pnR R)))) (pnR R)))
theorem F67_eq (x0a : Option Addr) (x0n : Nat) (x0c : Nat) (x1 : Int) (R : Ending → Heap → Prop) (H : Heap) : F67 x0a x0n x0c x1 R H = vc Tryz.prog (codeOf Tryz.f67) (.node none .leaf (.node none .leaf (.node none .leaf (.node none .leaf (.node none (.node (some ⟨[(36, 4)], [26, 27, 28, 29, 30, 31, 32, 33, 34, 35]⟩) .leaf .leaf) (.node none .leaf (.node none .leaf (.node none (.node (some ⟨[(69, 4)], [60, 61, 62, 63, 64, 65, 66, 67, 68]⟩) .leaf .leaf) .leaf)))))))) (postV Tryz.prog Tryz.f67 R) ⟨#[Value.slice x0a x0n x0c, Value.int IntKind.i64 x1] ++ Array.replicate (Tryz.f67.ntmps - 2) undef, []⟩ H := by kernel_rfl
theorem F67_calls {R : Ending → Heap → Prop} {H : Heap} (x0a : Option Addr) (x0n : Nat) (x0c : Nat) (x1 : Int) (h : F67 x0a x0n x0c x1 R H) : HCalls Tryz.prog 67 #[Value.slice x0a x0n x0c, Value.int IntKind.i64 x1] H R :=
  calls_by (F := F67 x0a x0n x0c x1 R H) (.node none .leaf (.node none .leaf (.node none .leaf (.node none .leaf (.node none (.node (some ⟨[(36, 4)], [26, 27, 28, 29, 30, 31, 32, 33, 34, 35]⟩) .leaf .leaf) (.node none .leaf (.node none .leaf (.node none (.node (some ⟨[(69, 4)], [60, 61, 62, 63, 64, 65, 66, 67, 68]⟩) .leaf .leaf) .leaf)))))))) Tryz.func67 rfl (F67_eq x0a x0n x0c x1 R H) h
/-- (*bollard/volume.Volume).held -/
def F68 (x0 : Option Addr) (R : Ending → Heap → Prop) (H : Heap) : Prop :=
  sB (Option.isNone x0) (R (Ending.returned (Value.bool false)) H) (nz x0 (fun a1 =>
  HCalls Tryz.prog 113 #[Value.pointer (some a1)] H (Sp.retK (fun v2 H3 =>
  nz x0 (fun a4 =>
  ld H3 (Addr.add a4 2) (fun v5 =>
  dPtr v5 (fun p6 =>
  sB (Option.isNone p6) (nz x0 (fun a7 =>
  HCalls Tryz.prog 69 #[Value.pointer (some a7)] H3 (Sp.retK (fun v8 H9 =>
  R (Ending.returned (Value.bool false)) H9) (pnR R)))) (R (Ending.returned (Value.bool true)) H3))))) (pnR R))))
theorem F68_eq (x0 : Option Addr) (R : Ending → Heap → Prop) (H : Heap) : F68 x0 R H = vc Tryz.prog (codeOf Tryz.f68) .leaf (postV Tryz.prog Tryz.f68 R) ⟨#[Value.pointer x0] ++ Array.replicate (Tryz.f68.ntmps - 1) undef, []⟩ H := by kernel_rfl
theorem F68_calls {R : Ending → Heap → Prop} {H : Heap} (x0 : Option Addr) (h : F68 x0 R H) : HCalls Tryz.prog 68 #[Value.pointer x0] H R :=
  calls_by (F := F68 x0 R H) .leaf Tryz.func68 rfl (F68_eq x0 R H) h
/-- (*bollard/disk.Disk).Blocks -/
def F70 (x0 : Option Addr) (R : Ending → Heap → Prop) (H : Heap) : Prop :=
  sB (Option.isNone x0) (R (Ending.returned (Value.int IntKind.i64 0)) H) (nz x0 (fun a1 =>
  ld H a1 (fun v2 =>
  dSl v2 (fun p3 r4 r5 =>
  R (Ending.returned (Value.int IntKind.i64 (↑r4 : Int))) H))))
theorem F70_eq (x0 : Option Addr) (R : Ending → Heap → Prop) (H : Heap) : F70 x0 R H = vc Tryz.prog (codeOf Tryz.f70) .leaf (postV Tryz.prog Tryz.f70 R) ⟨#[Value.pointer x0] ++ Array.replicate (Tryz.f70.ntmps - 1) undef, []⟩ H := by kernel_rfl
theorem F70_calls {R : Ending → Heap → Prop} {H : Heap} (x0 : Option Addr) (h : F70 x0 R H) : HCalls Tryz.prog 70 #[Value.pointer x0] H R :=
  calls_by (F := F70 x0 R H) .leaf Tryz.func70 rfl (F70_eq x0 R H) h
/-- (*bollard/volume.Volume).has -/
def F71 (x0 : Option Addr) (x1 : Int) (R : Ending → Heap → Prop) (H : Heap) : Prop :=
  sB (decide (x1 ≥ 0)) (nz x0 (fun a1 =>
  ld H (Addr.add a1 2) (fun v2 =>
  dPtr v2 (fun p3 =>
  HCalls Tryz.prog 70 #[Value.pointer p3] H (Sp.retK (fun v4 H5 =>
  dInt IntKind.i64 v4 (fun n6 =>
  R (Ending.returned (Value.bool (decide (x1 < n6)))) H5)) (pnR R)))))) (R (Ending.returned (Value.bool false)) H)
theorem F71_eq (x0 : Option Addr) (x1 : Int) (R : Ending → Heap → Prop) (H : Heap) : F71 x0 x1 R H = vc Tryz.prog (codeOf Tryz.f71) .leaf (postV Tryz.prog Tryz.f71 R) ⟨#[Value.pointer x0, Value.int IntKind.i64 x1] ++ Array.replicate (Tryz.f71.ntmps - 2) undef, []⟩ H := by kernel_rfl
theorem F71_calls {R : Ending → Heap → Prop} {H : Heap} (x0 : Option Addr) (x1 : Int) (h : F71 x0 x1 R H) : HCalls Tryz.prog 71 #[Value.pointer x0, Value.int IntKind.i64 x1] H R :=
  calls_by (F := F71 x0 x1 R H) .leaf Tryz.func71 rfl (F71_eq x0 x1 R H) h
/-- (*bollard/volume.Volume).read -/
def F72 (x0 : Option Addr) (x1 : Int) (R : Ending → Heap → Prop) (H : Heap) : Prop :=
  HCalls Tryz.prog 71 #[Value.pointer x0, Value.int IntKind.i64 x1] H (Sp.retK (fun v1 H2 =>
  dBl v1 (fun b3 =>
  sB (!b3) (R (Ending.returned (Value.tuple #[Value.slice none 0 0, Value.int IntKind.i64 90])) H2) (nz x0 (fun a4 =>
  ld H2 (Addr.add a4 3) (fun v5 =>
  dPtr v5 (fun p6 =>
  HCalls Tryz.prog 125 #[Value.pointer p6, Value.int IntKind.i64 x1] H2 (Sp.retK (fun v7 H8 =>
  dT 2 v7 (fun v9 v10 =>
  dSl v9 (fun p11 r12 r13 =>
  dInt IntKind.i64 v10 (fun n14 =>
  sB (n14 != 0) (R (Ending.returned (Value.tuple #[Value.slice none 0 0, Value.int IntKind.i64 n14])) H8) (nz x0 (fun a15 =>
  ld H8 (Addr.add a15 4) (fun v16 =>
  dPtr v16 (fun p17 =>
  HCalls Tryz.prog 126 #[Value.pointer p17, Value.int IntKind.i64 x1, Value.slice p11 r12 r13] H8 (Sp.retK (fun v18 H19 =>
  dT 2 v18 (fun v20 v21 =>
  dSl v20 (fun p22 r23 r24 =>
  dInt IntKind.i64 v21 (fun n25 =>
  R (Ending.returned (Value.tuple #[Value.slice p22 r23 r24, Value.int IntKind.i64 n25])) H19)))) (pnR R)))))))))) (pnR R)))))))) (pnR R))
theorem F72_eq (x0 : Option Addr) (x1 : Int) (R : Ending → Heap → Prop) (H : Heap) : F72 x0 x1 R H = vc Tryz.prog (codeOf Tryz.f72) .leaf (postV Tryz.prog Tryz.f72 R) ⟨#[Value.pointer x0, Value.int IntKind.i64 x1] ++ Array.replicate (Tryz.f72.ntmps - 2) undef, []⟩ H := by kernel_rfl
theorem F72_calls {R : Ending → Heap → Prop} {H : Heap} (x0 : Option Addr) (x1 : Int) (h : F72 x0 x1 R H) : HCalls Tryz.prog 72 #[Value.pointer x0, Value.int IntKind.i64 x1] H R :=
  calls_by (F := F72 x0 x1 R H) .leaf Tryz.func72 rfl (F72_eq x0 x1 R H) h
/-- (*bollard/patch.Set).Add -/
def F73 (x0 : Option Addr) (x1 : Int) (x2 : Int) (x3a : Option Addr) (x3n : Nat) (x3c : Nat) (x4a : Option Addr) (x4n : Nat) (x4c : Nat) (R : Ending → Heap → Prop) (H : Heap) : Prop :=
  al H (Obj.cells #[Value.pointer x0] 51) (fun r1 H2 =>
  ld H2 (Addr.mk r1 0 none) (fun v3 =>
  dPtr v3 (fun p4 =>
  HCalls Tryz.prog 127 #[Value.pointer p4] H2 (Sp.retK (fun v5 H6 =>
  dBl v5 (fun b7 =>
  sB (!b7) (R (Ending.returned (Value.tuple #[Value.int IntKind.i64 0, Value.int IntKind.i64 2])) H6) (HCalls Tryz.prog 128 #[Value.int IntKind.i64 x1, Value.int IntKind.i64 x2, Value.slice x3a x3n x3c] H6 (Sp.retK (fun v8 H9 =>
  dBl v8 (fun b10 =>
  sB (!b10) (R (Ending.returned (Value.tuple #[Value.int IntKind.i64 0, Value.int IntKind.i64 1])) H9) (HCalls Tryz.prog 88 #[Value.slice x4a x4n x4c, Value.func (Fn.func 129) #[] #[Value.pointer (some (Addr.mk r1 0 none))]] H9 (Sp.retK (fun v11 H12 =>
  dBl v11 (fun b13 =>
  sB b13 (R (Ending.returned (Value.tuple #[Value.int IntKind.i64 0, Value.int IntKind.i64 70])) H12) (ld H12 (Addr.mk r1 0 none) (fun v14 =>
  dPtr v14 (fun p15 =>
  nz p15 (fun a16 =>
  ld H12 a16 (fun v17 =>
  dInt IntKind.i64 v17 (fun n18 =>
  wr IntKind.i64 (n18 + 1) (fun n19 =>
  (HCalls Tryz.prog 107 #[Value.slice x3a x3n x3c] H12 (Sp.retK (fun v20 H21 =>
  dSl v20 (fun p22 r23 r24 =>
  (ld H21 a16 (fun v25 =>
  dInt IntKind.i64 v25 (fun n26 =>
  (Value.int IntKind.i64 n26) = (Value.int IntKind.i64 n18)))) ∧
  (ld H21 (Addr.mk r1 0 none) (fun v27 =>
  dPtr v27 (fun p28 =>
  (Value.pointer p28) = (Value.pointer p15)))) ∧
  al H21 (Obj.cells #[Value.int IntKind.i64 0, Value.int IntKind.i64 0, Value.int IntKind.i64 0, Value.slice none 0 0, Value.slice none 0 0] 194) (fun r29 H30 =>
  (ld H30 a16 (fun v31 =>
  dInt IntKind.i64 v31 (fun n32 =>
  (Value.int IntKind.i64 n32) = (Value.int IntKind.i64 n18)))) ∧
  (ld H30 (Addr.mk r1 0 none) (fun v33 =>
  dPtr v33 (fun p34 =>
  (Value.pointer p34) = (Value.pointer p15)))) ∧
  st H30 (Addr.mk r29 0 none) (Value.int IntKind.i64 n19) (fun H35 =>
  st H35 (Addr.mk r29 1 none) (Value.int IntKind.i64 x1) (fun H36 =>
  st H36 (Addr.mk r29 2 none) (Value.int IntKind.i64 x2) (fun H37 =>
  st H37 (Addr.mk r29 3 none) (Value.slice p22 r23 r24) (fun H38 =>
  st H38 (Addr.mk r29 4 none) (Value.slice none 0 0) (fun H39 =>
  HCalls Tryz.prog 131 #[Value.slice x4a x4n x4c] H39 (Sp.retK (fun v40 H41 =>
  dSl v40 (fun p42 r43 r44 =>
  ld H41 (Addr.mk r1 0 none) (fun v45 =>
  dPtr v45 (fun p46 =>
  nz p46 (fun a47 =>
  ld H41 (Addr.add a47 2) (fun v48 =>
  dMap v48 (fun p49 =>
  semW Tryz.prog (Instr.range 190 (Value.map p49)) (pnR R) H41 (fun v52 H53 =>
  ∃ I54 : List Value → Heap → Prop,
  ∃ I55 : List Value → Heap → Nat,
  (I54 ([Value.slice p42 r43 r44]) H53) ∧
  ∀ p56 : Option Addr,
  ∀ r57 : Nat,
  ∀ r58 : Nat,
  ∀ v59 v60 v61 v62 v63 v64 v65 v66 v67 v68 v69 v70 v71 v72 : Value,
  ∀ H73 : Heap,
  (I54 ([Value.slice p56 r57 r58]) H73) →
  semW Tryz.prog (Instr.next v52 false 0) (pnR R) H73 (fun v77 H78 =>
  dNx v77 (ld H78 (Addr.mk r1 0 none) (fun v79 =>
  dPtr v79 (fun p80 =>
  HCalls Tryz.prog 133 #[Value.pointer p80, Value.slice p56 r57 r58] H78 (Sp.retK (fun v81 H82 =>
  dSl v81 (fun p83 r84 r85 =>
  st H82 (Addr.mk r29 4 none) (Value.slice p83 r84 r85) (fun H86 =>
  ld H86 (Addr.mk r1 0 none) (fun v87 =>
  dPtr v87 (fun p88 =>
  nz p88 (fun a89 =>
  ld H86 a89 (fun v90 =>
  dInt IntKind.i64 v90 (fun n91 =>
  wr IntKind.i64 (n91 + 1) (fun n92 =>
  nz p88 (fun a93 =>
  st H86 a93 (Value.int IntKind.i64 n92) (fun H94 =>
  ld H94 (Addr.mk r1 0 none) (fun v95 =>
  dPtr v95 (fun p96 =>
  nz p96 (fun a97 =>
  ld H94 (Addr.add a97 2) (fun v98 =>
  dMap v98 (fun p99 =>
  ld H94 (Addr.mk r1 0 none) (fun v100 =>
  dPtr v100 (fun p101 =>
  nz p101 (fun a102 =>
  ld H94 a102 (fun v103 =>
  dInt IntKind.i64 v103 (fun n104 =>
  ld H94 (Addr.mk r29 0 none) (fun v105 =>
  ld H94 (Addr.mk r29 1 none) (fun v106 =>
  ld H94 (Addr.mk r29 2 none) (fun v107 =>
  ld H94 (Addr.mk r29 3 none) (fun v108 =>
  ld H94 (Addr.mk r29 4 none) (fun v109 =>
  semW Tryz.prog (Instr.mapUpdate 190 (Value.map p99) (Value.int IntKind.i64 n104) (Value.agg #[v105, v106, v107, v108, v109])) nopR H94 (fun x112 H113 =>
  ld H113 (Addr.mk r1 0 none) (fun v114 =>
  dPtr v114 (fun p115 =>
  nz p115 (fun a116 =>
  ld H113 a116 (fun v117 =>
  dInt IntKind.i64 v117 (fun n118 =>
  R (Ending.returned (Value.tuple #[Value.int IntKind.i64 n118, Value.int IntKind.i64 0])) H113)))))))))))))))))))))))))))))))) (pnR R))))) (fun v121 v122 =>
  semW Tryz.prog (Instr.entry v52) (pnR R) H78 (fun v125 H126 =>
  dT 2 v125 (fun v127 v128 =>
  dInt IntKind.i64 v127 (fun n129 =>
  dA 5 v128 (fun v130 v131 v132 v133 v134 =>
  al H126 (Obj.cells #[Value.int IntKind.i64 0, Value.int IntKind.i64 0, Value.int IntKind.i64 0, Value.slice none 0 0, Value.slice none 0 0] 194) (fun r135 H136 =>
  st H136 (Addr.mk r135 0 none) v130 (fun H137 =>
  st H137 (Addr.mk r135 1 none) v131 (fun H138 =>
  st H138 (Addr.mk r135 2 none) v132 (fun H139 =>
  st H139 (Addr.mk r135 3 none) v133 (fun H140 =>
  st H140 (Addr.mk r135 4 none) v134 (fun H141 =>
  ld H141 (Addr.mk r29 0 none) (fun v142 =>
  ld H141 (Addr.mk r29 1 none) (fun v143 =>
  ld H141 (Addr.mk r29 2 none) (fun v144 =>
  ld H141 (Addr.mk r29 3 none) (fun v145 =>
  ld H141 (Addr.mk r29 4 none) (fun v146 =>
  ld H141 (Addr.mk r135 0 none) (fun v147 =>
  ld H141 (Addr.mk r135 1 none) (fun v148 =>
  ld H141 (Addr.mk r135 2 none) (fun v149 =>
  ld H141 (Addr.mk r135 3 none) (fun v150 =>
  ld H141 (Addr.mk r135 4 none) (fun v151 =>
  HCalls Tryz.prog 132 #[Value.agg #[v142, v143, v144, v145, v146], Value.agg #[v147, v148, v149, v150, v151]] H141 (Sp.retK (fun v152 H153 =>
  dBl v152 (fun b154 =>
  sB b154 (al H153 (Obj.cells #[Value.int IntKind.i64 n129] 3) (fun r155 H156 =>
  semW Tryz.prog (Builtin.append_ #[73, 73] 73 #[Value.slice p56 r57 r58, Value.slice (some (Addr.mk r155 0 none)) 1 1]) (pnR R) H156 (fun v159 H160 =>
  dSl v159 (fun p161 r162 r163 =>
  (I54 ([Value.slice p161 r162 r163]) H160) ∧
  (I55 [Value.slice p161 r162 r163] H160) < (I55 [Value.slice p56 r57 r58] H73))))) ((I54 ([Value.slice p56 r57 r58]) H153) ∧
  (I55 [Value.slice p56 r57 r58] H153) < (I55 [Value.slice p56 r57 r58] H73)))) (pnR R)))))))))))))))))))))))))))))))) (pnR R)))))))))) nopR)) ∧
  al H12 (Obj.cells #[Value.int IntKind.i64 0, Value.int IntKind.i64 0, Value.int IntKind.i64 0, Value.slice none 0 0, Value.slice none 0 0] 194) (fun r170 H171 =>
  (ld H171 a16 (fun v172 =>
  dInt IntKind.i64 v172 (fun n173 =>
  (Value.int IntKind.i64 n173) = (Value.int IntKind.i64 n18)))) ∧
  (ld H171 (Addr.mk r1 0 none) (fun v174 =>
  dPtr v174 (fun p175 =>
  (Value.pointer p175) = (Value.pointer p15)))) ∧
  HCalls Tryz.prog 107 #[Value.slice x3a x3n x3c] H171 (Sp.retK (fun v176 H177 =>
  dSl v176 (fun p178 r179 r180 =>
  (ld H177 a16 (fun v181 =>
  dInt IntKind.i64 v181 (fun n182 =>
  (Value.int IntKind.i64 n182) = (Value.int IntKind.i64 n18)))) ∧
  (ld H177 (Addr.mk r1 0 none) (fun v183 =>
  dPtr v183 (fun p184 =>
  (Value.pointer p184) = (Value.pointer p15)))) ∧
  st H177 (Addr.mk r170 0 none) (Value.int IntKind.i64 n19) (fun H185 =>
  st H185 (Addr.mk r170 1 none) (Value.int IntKind.i64 x1) (fun H186 =>
  st H186 (Addr.mk r170 2 none) (Value.int IntKind.i64 x2) (fun H187 =>
  st H187 (Addr.mk r170 3 none) (Value.slice p178 r179 r180) (fun H188 =>
  st H188 (Addr.mk r170 4 none) (Value.slice none 0 0) (fun H189 =>
  HCalls Tryz.prog 131 #[Value.slice x4a x4n x4c] H189 (Sp.retK (fun v190 H191 =>
  dSl v190 (fun p192 r193 r194 =>
  ld H191 (Addr.mk r1 0 none) (fun v195 =>
  dPtr v195 (fun p196 =>
  nz p196 (fun a197 =>
  ld H191 (Addr.add a197 2) (fun v198 =>
  dMap v198 (fun p199 =>
  semW Tryz.prog (Instr.range 190 (Value.map p199)) (pnR R) H191 (fun v202 H203 =>
  ∃ I204 : List Value → Heap → Prop,
  ∃ I205 : List Value → Heap → Nat,
  (I204 ([Value.slice p192 r193 r194]) H203) ∧
  ∀ p206 : Option Addr,
  ∀ r207 : Nat,
  ∀ r208 : Nat,
  ∀ v209 v210 v211 v212 v213 v214 v215 v216 v217 v218 v219 v220 v221 v222 : Value,
  ∀ H223 : Heap,
  (I204 ([Value.slice p206 r207 r208]) H223) →
  semW Tryz.prog (Instr.next v202 false 0) (pnR R) H223 (fun v227 H228 =>
  dNx v227 (ld H228 (Addr.mk r1 0 none) (fun v229 =>
  dPtr v229 (fun p230 =>
  HCalls Tryz.prog 133 #[Value.pointer p230, Value.slice p206 r207 r208] H228 (Sp.retK (fun v231 H232 =>
  dSl v231 (fun p233 r234 r235 =>
  st H232 (Addr.mk r170 4 none) (Value.slice p233 r234 r235) (fun H236 =>
  ld H236 (Addr.mk r1 0 none) (fun v237 =>
  dPtr v237 (fun p238 =>
  nz p238 (fun a239 =>
  ld H236 a239 (fun v240 =>
  dInt IntKind.i64 v240 (fun n241 =>
  wr IntKind.i64 (n241 + 1) (fun n242 =>
  nz p238 (fun a243 =>
  st H236 a243 (Value.int IntKind.i64 n242) (fun H244 =>
  ld H244 (Addr.mk r1 0 none) (fun v245 =>
  dPtr v245 (fun p246 =>
  nz p246 (fun a247 =>
  ld H244 (Addr.add a247 2) (fun v248 =>
  dMap v248 (fun p249 =>
  ld H244 (Addr.mk r1 0 none) (fun v250 =>
  dPtr v250 (fun p251 =>
  nz p251 (fun a252 =>
  ld H244 a252 (fun v253 =>
  dInt IntKind.i64 v253 (fun n254 =>
  ld H244 (Addr.mk r170 0 none) (fun v255 =>
  ld H244 (Addr.mk r170 1 none) (fun v256 =>
  ld H244 (Addr.mk r170 2 none) (fun v257 =>
  ld H244 (Addr.mk r170 3 none) (fun v258 =>
  ld H244 (Addr.mk r170 4 none) (fun v259 =>
  semW Tryz.prog (Instr.mapUpdate 190 (Value.map p249) (Value.int IntKind.i64 n254) (Value.agg #[v255, v256, v257, v258, v259])) nopR H244 (fun x262 H263 =>
  ld H263 (Addr.mk r1 0 none) (fun v264 =>
  dPtr v264 (fun p265 =>
  nz p265 (fun a266 =>
  ld H263 a266 (fun v267 =>
  dInt IntKind.i64 v267 (fun n268 =>
  R (Ending.returned (Value.tuple #[Value.int IntKind.i64 n268, Value.int IntKind.i64 0])) H263)))))))))))))))))))))))))))))))) (pnR R))))) (fun v271 v272 =>
  semW Tryz.prog (Instr.entry v202) (pnR R) H228 (fun v275 H276 =>
  dT 2 v275 (fun v277 v278 =>
  dInt IntKind.i64 v277 (fun n279 =>
  dA 5 v278 (fun v280 v281 v282 v283 v284 =>
  al H276 (Obj.cells #[Value.int IntKind.i64 0, Value.int IntKind.i64 0, Value.int IntKind.i64 0, Value.slice none 0 0, Value.slice none 0 0] 194) (fun r285 H286 =>
  st H286 (Addr.mk r285 0 none) v280 (fun H287 =>
  st H287 (Addr.mk r285 1 none) v281 (fun H288 =>
  st H288 (Addr.mk r285 2 none) v282 (fun H289 =>
  st H289 (Addr.mk r285 3 none) v283 (fun H290 =>
  st H290 (Addr.mk r285 4 none) v284 (fun H291 =>
  ld H291 (Addr.mk r170 0 none) (fun v292 =>
  ld H291 (Addr.mk r170 1 none) (fun v293 =>
  ld H291 (Addr.mk r170 2 none) (fun v294 =>
  ld H291 (Addr.mk r170 3 none) (fun v295 =>
  ld H291 (Addr.mk r170 4 none) (fun v296 =>
  ld H291 (Addr.mk r285 0 none) (fun v297 =>
  ld H291 (Addr.mk r285 1 none) (fun v298 =>
  ld H291 (Addr.mk r285 2 none) (fun v299 =>
  ld H291 (Addr.mk r285 3 none) (fun v300 =>
  ld H291 (Addr.mk r285 4 none) (fun v301 =>
  HCalls Tryz.prog 132 #[Value.agg #[v292, v293, v294, v295, v296], Value.agg #[v297, v298, v299, v300, v301]] H291 (Sp.retK (fun v302 H303 =>
  dBl v302 (fun b304 =>
  sB b304 (al H303 (Obj.cells #[Value.int IntKind.i64 n279] 3) (fun r305 H306 =>
  semW Tryz.prog (Builtin.append_ #[73, 73] 73 #[Value.slice p206 r207 r208, Value.slice (some (Addr.mk r305 0 none)) 1 1]) (pnR R) H306 (fun v309 H310 =>
  dSl v309 (fun p311 r312 r313 =>
  (I204 ([Value.slice p311 r312 r313]) H310) ∧
  (I205 [Value.slice p311 r312 r313] H310) < (I205 [Value.slice p206 r207 r208] H223))))) ((I204 ([Value.slice p206 r207 r208]) H303) ∧
  (I205 [Value.slice p206 r207 r208] H303) < (I205 [Value.slice p206 r207 r208] H223)))) (pnR R)))))))))))))))))))))))))))))))) (pnR R))))))))) nopR))))))))))) (pnR R))))) (pnR R))))) (pnR R)))))
theorem F73_eq (x0 : Option Addr) (x1 : Int) (x2 : Int) (x3a : Option Addr) (x3n : Nat) (x3c : Nat) (x4a : Option Addr) (x4n : Nat) (x4c : Nat) (R : Ending → Heap → Prop) (H : Heap) : F73 x0 x1 x2 x3a x3n x3c x4a x4n x4c R H = vc Tryz.prog (codeOf Tryz.f73) (.node none .leaf (.node none .leaf (.node none .leaf (.node none .leaf (.node none (.node none .leaf (.node none (.node (some ⟨[(13, 73)], [14, 15, 47, 48, 49, 50, 51, 52, 53, 54, 55, 56, 57, 58]⟩) .leaf .leaf) .leaf)) .leaf))))) (postV Tryz.prog Tryz.f73 R) ⟨#[Value.pointer x0, Value.int IntKind.i64 x1, Value.int IntKind.i64 x2, Value.slice x3a x3n x3c, Value.slice x4a x4n x4c] ++ Array.replicate (Tryz.f73.ntmps - 5) undef, []⟩ H := by kernel_rfl
theorem F73_calls {R : Ending → Heap → Prop} {H : Heap} (x0 : Option Addr) (x1 : Int) (x2 : Int) (x3a : Option Addr) (x3n : Nat) (x3c : Nat) (x4a : Option Addr) (x4n : Nat) (x4c : Nat) (h : F73 x0 x1 x2 x3a x3n x3c x4a x4n x4c R H) : HCalls Tryz.prog 73 #[Value.pointer x0, Value.int IntKind.i64 x1, Value.int IntKind.i64 x2, Value.slice x3a x3n x3c, Value.slice x4a x4n x4c] H R :=
  calls_by (F := F73 x0 x1 x2 x3a x3n x3c x4a x4n x4c R H) (.node none .leaf (.node none .leaf (.node none .leaf (.node none .leaf (.node none (.node none .leaf (.node none (.node (some ⟨[(13, 73)], [14, 15, 47, 48, 49, 50, 51, 52, 53, 54, 55, 56, 57, 58]⟩) .leaf .leaf) .leaf)) .leaf))))) Tryz.func73 rfl (F73_eq x0 x1 x2 x3a x3n x3c x4a x4n x4c R H) h
end Go.Proofs.YtngploohhmfaiaaGreat.E
