/- The functions' forms in the engine's words, printed by my own program. -/
import Derived.Test.YtngploohhmfaiaaGreatProg
import Derived.Test.YtngploohhmfaiaaGreatEng11
import Derived.KernelRfl
namespace Go.Proofs.YtngploohhmfaiaaGreat.E
open Go Go.Proofs
set_option linter.unusedVariables false
/-- bollard/patch.overlap -/
def F132 (x0_0 : Value) (x0_1 : Value) (x0_2 : Value) (x0_3 : Value) (x0_4 : Value) (x1_0 : Value) (x1_1 : Value) (x1_2 : Value) (x1_3 : Value) (x1_4 : Value) (R : Ending → Heap → Prop) (H : Heap) : Prop :=
  al H (Obj.cells #[x0_0, x0_1, x0_2, x0_3, x0_4] 194) (fun r1 H2 =>
  al H2 (Obj.cells #[x1_0, x1_1, x1_2, x1_3, x1_4] 194) (fun r3 H4 =>
  ld H4 (Addr.mk r1 1 none) (fun v5 =>
  dInt IntKind.i64 v5 (fun n6 =>
  ld H4 (Addr.mk r3 1 none) (fun v7 =>
  dInt IntKind.i64 v7 (fun n8 =>
  sB (n6 == n8) (ld H4 (Addr.mk r1 2 none) (fun v9 =>
  dInt IntKind.i64 v9 (fun n10 =>
  ld H4 (Addr.mk r3 2 none) (fun v11 =>
  dInt IntKind.i64 v11 (fun n12 =>
  ld H4 (Addr.mk r3 3 none) (fun v13 =>
  dSl v13 (fun p14 r15 r16 =>
  wr IntKind.i64 (n12 + (↑r15 : Int)) (fun n17 =>
  sB (decide (n10 < n17)) (ld H4 (Addr.mk r3 2 none) (fun v18 =>
  dInt IntKind.i64 v18 (fun n19 =>
  ld H4 (Addr.mk r1 2 none) (fun v20 =>
  dInt IntKind.i64 v20 (fun n21 =>
  ld H4 (Addr.mk r1 3 none) (fun v22 =>
  dSl v22 (fun p23 r24 r25 =>
  wr IntKind.i64 (n21 + (↑r24 : Int)) (fun n26 =>
  R (Ending.returned (Value.bool (decide (n19 < n26)))) H4)))))))) (R (Ending.returned (Value.bool false)) H4))))))))) (R (Ending.returned (Value.bool false)) H4)))))))
theorem F132_eq (x0_0 : Value) (x0_1 : Value) (x0_2 : Value) (x0_3 : Value) (x0_4 : Value) (x1_0 : Value) (x1_1 : Value) (x1_2 : Value) (x1_3 : Value) (x1_4 : Value) (R : Ending → Heap → Prop) (H : Heap) : F132 x0_0 x0_1 x0_2 x0_3 x0_4 x1_0 x1_1 x1_2 x1_3 x1_4 R H = vc Tryz.prog (codeOf Tryz.f132) .leaf (postV Tryz.prog Tryz.f132 R) ⟨#[Value.agg #[x0_0, x0_1, x0_2, x0_3, x0_4], Value.agg #[x1_0, x1_1, x1_2, x1_3, x1_4]] ++ Array.replicate (Tryz.f132.ntmps - 2) undef, []⟩ H := by kernel_rfl
theorem F132_calls {R : Ending → Heap → Prop} {H : Heap} (x0_0 : Value) (x0_1 : Value) (x0_2 : Value) (x0_3 : Value) (x0_4 : Value) (x1_0 : Value) (x1_1 : Value) (x1_2 : Value) (x1_3 : Value) (x1_4 : Value) (h : F132 x0_0 x0_1 x0_2 x0_3 x0_4 x1_0 x1_1 x1_2 x1_3 x1_4 R H) : HCalls Tryz.prog 132 #[Value.agg #[x0_0, x0_1, x0_2, x0_3, x0_4], Value.agg #[x1_0, x1_1, x1_2, x1_3, x1_4]] H R :=
  calls_by (F := F132 x0_0 x0_1 x0_2 x0_3 x0_4 x1_0 x1_1 x1_2 x1_3 x1_4 R H) .leaf Tryz.func132 rfl (F132_eq x0_0 x0_1 x0_2 x0_3 x0_4 x1_0 x1_1 x1_2 x1_3 x1_4 R H) h
/-- (*bollard/patch.Set).pending -/
def F133 (x0 : Option Addr) (x1a : Option Addr) (x1n : Nat) (x1c : Nat) (R : Ending → Heap → Prop) (H : Heap) : Prop :=
  ∃ I1 : List Value → Heap → Prop,
  ∃ I2 : List Value → Heap → Nat,
  (I1 ([Value.slice none 0 0, Value.int IntKind.i64 0]) H) ∧
  ∀ p3 : Option Addr,
  ∀ r4 : Nat,
  ∀ r5 : Nat,
  ∀ n6 : Int,
  ∀ v7 v8 v9 v10 v11 v12 v13 v14 v15 v16 v17 v18 v19 v20 v21 v22 v23 v24 v25 v26 v27 : Value,
  ∀ H28 : Heap,
  (I1 ([Value.slice p3 r4 r5, Value.int IntKind.i64 n6]) H28) →
  sB (decide (n6 < (↑x1n : Int))) (jn (α := VFH 1) (fun v30 H31 =>
  ∀ v32 v33 v34 v35 v36 v37 v38 v39 v40 v41 v42 v43 v44 v45 v46 v47 v48 v49 v50 : Value,
  dSl v30 (fun p51 r52 r53 =>
  wr IntKind.i64 (n6 + 1) (fun n54 =>
  (I1 ([Value.slice p51 r52 r53, Value.int IntKind.i64 n54]) H31) ∧
  (I2 [Value.slice p51 r52 r53, Value.int IntKind.i64 n54] H31) < (I2 [Value.slice p3 r4 r5, Value.int IntKind.i64 n6] H28)))) (fun k55 =>
  nz x1a (fun a56 =>
  ask ((0 : Int) ≤ n6 ∧ n6 < (↑x1n : Int)) (ld H28 (Addr.add a56 (Int.toNat n6 * 1)) (fun v57 =>
  dInt IntKind.i64 v57 (fun n58 =>
  nz x0 (fun a59 =>
  ld H28 (Addr.add a59 2) (fun v60 =>
  dMap v60 (fun p61 =>
  semW Tryz.prog (Instr.lookup 190 (Value.map p61) (Value.int IntKind.i64 n58) true) (pnR R) H28 (fun v64 H65 =>
  dT 2 v64 (fun v66 v67 =>
  dA 5 v66 (fun v68 v69 v70 v71 v72 =>
  dBl v67 (fun b73 =>
  al H65 (Obj.cells #[Value.int IntKind.i64 0, Value.int IntKind.i64 0, Value.int IntKind.i64 0, Value.slice none 0 0, Value.slice none 0 0] 194) (fun r74 H75 =>
  st H75 (Addr.mk r74 0 none) v68 (fun H76 =>
  st H76 (Addr.mk r74 1 none) v69 (fun H77 =>
  st H77 (Addr.mk r74 2 none) v70 (fun H78 =>
  st H78 (Addr.mk r74 3 none) v71 (fun H79 =>
  st H79 (Addr.mk r74 4 none) v72 (fun H80 =>
  sB b73 (al H80 (Obj.cells #[Value.int IntKind.i64 n58] 3) (fun r81 H82 =>
  semW Tryz.prog (Builtin.append_ #[73, 73] 73 #[Value.slice p3 r4 r5, Value.slice (some (Addr.mk r81 0 none)) 1 1]) (pnR R) H82 (fun v85 H86 =>
  dSl v85 (fun p87 r88 r89 =>
  k55 (Value.slice p87 r88 r89) H86)))) (k55 (Value.slice p3 r4 r5) H80)))))))))))))))))))) (HCalls Tryz.prog 156 #[Value.slice p3 r4 r5] H28 (Sp.retK (fun v90 H91 =>
  HCalls Tryz.prog 157 #[Value.slice p3 r4 r5] H91 (Sp.retK (fun v92 H93 =>
  dSl v92 (fun p94 r95 r96 =>
  R (Ending.returned (Value.slice p94 r95 r96)) H93)) (pnR R))) (pnR R)))
theorem F133_eq (x0 : Option Addr) (x1a : Option Addr) (x1n : Nat) (x1c : Nat) (R : Ending → Heap → Prop) (H : Heap) : F133 x0 x1a x1n x1c R H = vc Tryz.prog (codeOf Tryz.f133) (.node none .leaf (.node none .leaf (.node none (.node none .leaf (.node none (.node (some ⟨[(5, 73), (12, 3)], [7, 8, 9, 13, 14, 15, 16, 17, 18, 19, 20, 21, 22, 23, 24, 25, 26, 27, 28, 29, 30]⟩) (.node none .leaf (.node none .leaf (.node (some ⟨[(5, 73)], [7, 8, 9, 14, 15, 16, 17, 18, 19, 20, 21, 22, 23, 24, 25, 26, 27, 28, 29]⟩) .leaf .leaf))) .leaf) .leaf)) .leaf))) (postV Tryz.prog Tryz.f133 R) ⟨#[Value.pointer x0, Value.slice x1a x1n x1c] ++ Array.replicate (Tryz.f133.ntmps - 2) undef, []⟩ H := by kernel_rfl
theorem F133_calls {R : Ending → Heap → Prop} {H : Heap} (x0 : Option Addr) (x1a : Option Addr) (x1n : Nat) (x1c : Nat) (h : F133 x0 x1a x1n x1c R H) : HCalls Tryz.prog 133 #[Value.pointer x0, Value.slice x1a x1n x1c] H R :=
  calls_by (F := F133 x0 x1a x1n x1c R H) (.node none .leaf (.node none .leaf (.node none (.node none .leaf (.node none (.node (some ⟨[(5, 73), (12, 3)], [7, 8, 9, 13, 14, 15, 16, 17, 18, 19, 20, 21, 22, 23, 24, 25, 26, 27, 28, 29, 30]⟩) (.node none .leaf (.node none .leaf (.node (some ⟨[(5, 73)], [7, 8, 9, 14, 15, 16, 17, 18, 19, 20, 21, 22, 23, 24, 25, 26, 27, 28, 29]⟩) .leaf .leaf))) .leaf) .leaf)) .leaf))) Tryz.func133 rfl (F133_eq x0 x1a x1n x1c R H) h
/-- bollard/geom.Header -/
def F134 (x0_0 : Value) (x0_1 : Value) (x0_2 : Value) (x1 : Int) (R : Ending → Heap → Prop) (H : Heap) : Prop :=
  al H (Obj.cells #[x0_0, x0_1, x0_2] 32) (fun r1 H2 =>
  ld H2 (Addr.mk r1 0 none) (fun v3 =>
  ld H2 (Addr.mk r1 1 none) (fun v4 =>
  ld H2 (Addr.mk r1 2 none) (fun v5 =>
  HCalls Tryz.prog 136 #[Value.agg #[v3, v4, v5], Value.int IntKind.i64 x1, Value.int IntKind.i64 1] H2 (Sp.retK (fun v6 H7 =>
  dT 2 v6 (fun v8 v9 =>
  dInt IntKind.i64 v8 (fun n10 =>
  dBl v9 (fun b11 =>
  R (Ending.returned (Value.tuple #[Value.int IntKind.i64 n10, Value.bool b11])) H7)))) (pnR R))))))
theorem F134_eq (x0_0 : Value) (x0_1 : Value) (x0_2 : Value) (x1 : Int) (R : Ending → Heap → Prop) (H : Heap) : F134 x0_0 x0_1 x0_2 x1 R H = vc Tryz.prog (codeOf Tryz.f134) .leaf (postV Tryz.prog Tryz.f134 R) ⟨#[Value.agg #[x0_0, x0_1, x0_2], Value.int IntKind.i64 x1] ++ Array.replicate (Tryz.f134.ntmps - 2) undef, []⟩ H := by kernel_rfl
theorem F134_calls {R : Ending → Heap → Prop} {H : Heap} (x0_0 : Value) (x0_1 : Value) (x0_2 : Value) (x1 : Int) (h : F134 x0_0 x0_1 x0_2 x1 R H) : HCalls Tryz.prog 134 #[Value.agg #[x0_0, x0_1, x0_2], Value.int IntKind.i64 x1] H R :=
  calls_by (F := F134 x0_0 x0_1 x0_2 x1 R H) .leaf Tryz.func134 rfl (F134_eq x0_0 x0_1 x0_2 x1 R H) h
/-- bollard/geom.at -/
def F136 (x0_0 : Value) (x0_1 : Value) (x0_2 : Value) (x1 : Int) (x2 : Int) (R : Ending → Heap → Prop) (H : Heap) : Prop :=
  al H (Obj.cells #[x0_0, x0_1, x0_2] 32) (fun r1 H2 =>
  jn (α := VFH 1) (fun v3 H4 =>
  ∀ v5 v6 v7 v8 v9 v10 v11 v12 v13 v14 : Value,
  dBl v3 (fun b15 =>
  sB b15 (R (Ending.returned (Value.tuple #[Value.int IntKind.i64 0, Value.bool false])) H4) (ld H4 (Addr.mk r1 1 none) (fun v16 =>
  dInt IntKind.i64 v16 (fun n17 =>
  wr IntKind.i64 (x1 * n17) (fun n18 =>
  wr IntKind.i64 (n18 + x2) (fun n19 =>
  R (Ending.returned (Value.tuple #[Value.int IntKind.i64 n19, Value.bool true])) H4))))))) (fun k20 =>
  ld H2 (Addr.mk r1 0 none) (fun v21 =>
  ld H2 (Addr.mk r1 1 none) (fun v22 =>
  ld H2 (Addr.mk r1 2 none) (fun v23 =>
  HCalls Tryz.prog 65 #[Value.agg #[v21, v22, v23]] H2 (Sp.retK (fun v24 H25 =>
  dInt IntKind.i64 v24 (fun n26 =>
  sB (n26 != 0) (k20 (Value.bool true) H25) (ld H25 (Addr.mk r1 0 none) (fun v27 =>
  dInt IntKind.i64 v27 (fun n28 =>
  wr IntKind.i64 (n28 - 1) (fun n29 =>
  HCalls Tryz.prog 115 #[Value.int IntKind.i64 x1, Value.int IntKind.i64 0, Value.int IntKind.i64 n29] H25 (Sp.retK (fun v30 H31 =>
  dBl v30 (fun b32 =>
  k20 (Value.bool !b32) H31)) (pnR R)))))))) (pnR R)))))))
theorem F136_eq (x0_0 : Value) (x0_1 : Value) (x0_2 : Value) (x1 : Int) (x2 : Int) (R : Ending → Heap → Prop) (H : Heap) : F136 x0_0 x0_1 x0_2 x1 x2 R H = vc Tryz.prog (codeOf Tryz.f136) (.node none .leaf (.node none (.node (some ⟨[(18, 4)], [8, 9, 10, 11, 12, 13, 14, 15, 16, 17]⟩) .leaf .leaf) .leaf)) (postV Tryz.prog Tryz.f136 R) ⟨#[Value.agg #[x0_0, x0_1, x0_2], Value.int IntKind.i64 x1, Value.int IntKind.i64 x2] ++ Array.replicate (Tryz.f136.ntmps - 3) undef, []⟩ H := by kernel_rfl
theorem F136_calls {R : Ending → Heap → Prop} {H : Heap} (x0_0 : Value) (x0_1 : Value) (x0_2 : Value) (x1 : Int) (x2 : Int) (h : F136 x0_0 x0_1 x0_2 x1 x2 R H) : HCalls Tryz.prog 136 #[Value.agg #[x0_0, x0_1, x0_2], Value.int IntKind.i64 x1, Value.int IntKind.i64 x2] H R :=
  calls_by (F := F136 x0_0 x0_1 x0_2 x1 x2 R H) (.node none .leaf (.node none (.node (some ⟨[(18, 4)], [8, 9, 10, 11, 12, 13, 14, 15, 16, 17]⟩) .leaf .leaf) .leaf)) Tryz.func136 rfl (F136_eq x0_0 x0_1 x0_2 x1 x2 R H) h
/-- bollard/geom.split -/
def F137 (x0 : Int) (x1 : Int) (x2 : Int) (R : Ending → Heap → Prop) (H : Heap) : Prop :=
  wr IntKind.i64 (x2 - 1) (fun n1 =>
  HCalls Tryz.prog 115 #[Value.int IntKind.i64 x0, Value.int IntKind.i64 0, Value.int IntKind.i64 n1] H (Sp.retK (fun v2 H3 =>
  dBl v2 (fun b4 =>
  sB (!b4) (R (Ending.returned (Value.tuple #[Value.int IntKind.i64 0, Value.int IntKind.i64 0, Value.bool false])) H3) (ask (x1 ≠ (0 : Int)) (wr IntKind.i64 (Int.tdiv x0 x1) (fun n5 =>
  ask (x1 ≠ (0 : Int)) (nm (Int.tmod x0 x1) (fun n6 =>
  R (Ending.returned (Value.tuple #[Value.int IntKind.i64 n5, Value.int IntKind.i64 n6, Value.bool true])) H3))))))) (pnR R)))
theorem F137_eq (x0 : Int) (x1 : Int) (x2 : Int) (R : Ending → Heap → Prop) (H : Heap) : F137 x0 x1 x2 R H = vc Tryz.prog (codeOf Tryz.f137) .leaf (postV Tryz.prog Tryz.f137 R) ⟨#[Value.int IntKind.i64 x0, Value.int IntKind.i64 x1, Value.int IntKind.i64 x2] ++ Array.replicate (Tryz.f137.ntmps - 3) undef, []⟩ H := by kernel_rfl
theorem F137_calls {R : Ending → Heap → Prop} {H : Heap} (x0 : Int) (x1 : Int) (x2 : Int) (h : F137 x0 x1 x2 R H) : HCalls Tryz.prog 137 #[Value.int IntKind.i64 x0, Value.int IntKind.i64 x1, Value.int IntKind.i64 x2] H R :=
  calls_by (F := F137 x0 x1 x2 R H) .leaf Tryz.func137 rfl (F137_eq x0 x1 x2 R H) h
/-- bollard/bits.First -/
def F138 (x0a : Option Addr) (x0n : Nat) (x0c : Nat) (x1 : Int) (x2 : Int) (R : Ending → Heap → Prop) (H : Heap) : Prop :=
  HCalls Tryz.prog 151 #[Value.int IntKind.i64 x1] H (Sp.retK (fun v1 H2 =>
  dInt IntKind.i64 v1 (fun n3 =>
  jn (α := VFH 1) (fun v4 H5 =>
  ∀ v6 v7 v8 v9 v10 v11 v12 : Value,
  dInt IntKind.i64 v4 (fun n13 =>
  ∃ I14 : List Value → Heap → Prop,
  ∃ I15 : List Value → Heap → Nat,
  (I14 ([Value.int IntKind.i64 0]) H5) ∧
  ∀ n16 : Int,
  ∀ v17 v18 v19 v20 v21 v22 v23 v24 v25 v26 v27 v28 v29 v30 v31 v32 v33 v34 v35 v36 v37 : Value,
  ∀ H38 : Heap,
  (I14 ([Value.int IntKind.i64 n16]) H38) →
  sB (decide (n16 < n3)) (wr IntKind.i64 (n13 + n16) (fun n40 =>
  jn (α := VFH 1) (fun v41 H42 =>
  ∀ v43 v44 v45 v46 v47 v48 : Value,
  dInt IntKind.i64 v41 (fun n49 =>
  HCalls Tryz.prog 152 #[Value.slice x0a x0n x0c, Value.int IntKind.i64 n49] H42 (Sp.retK (fun v50 H51 =>
  dBl v50 (fun b52 =>
  sB (!b52) (R (Ending.returned (Value.tuple #[Value.int IntKind.i64 n49, Value.bool true])) H51) (wr IntKind.i64 (n16 + 1) (fun n53 =>
  (I14 ([Value.int IntKind.i64 n53]) H51) ∧
  (I15 [Value.int IntKind.i64 n53] H51) < (I15 [Value.int IntKind.i64 n16] H38))))) (pnR R)))) (fun k56 =>
  sB (decide (n40 ≥ n3)) (wr IntKind.i64 (n40 - n3) (fun n57 =>
  k56 (Value.int IntKind.i64 n57) H38)) (k56 (Value.int IntKind.i64 n40) H38)))) (R (Ending.returned (Value.tuple #[Value.int IntKind.i64 0, Value.bool false])) H38))) (fun k58 =>
  jn (α := VFH 1) (fun v59 H60 =>
  ∀ v61 v62 v63 v64 v65 v66 : Value,
  dBl v59 (fun b67 =>
  sB b67 (k58 (Value.int IntKind.i64 0) H60) (k58 (Value.int IntKind.i64 x2) H60))) (fun k68 =>
  sB (decide (x2 < 0)) (k68 (Value.bool true) H2) (k68 (Value.bool (decide (x2 ≥ n3))) H2))))) (pnR R))
theorem F138_eq (x0a : Option Addr) (x0n : Nat) (x0c : Nat) (x1 : Int) (x2 : Int) (R : Ending → Heap → Prop) (H : Heap) : F138 x0a x0n x0c x1 x2 R H = vc Tryz.prog (codeOf Tryz.f138) (.node none .leaf (.node none .leaf (.node (some ⟨[(2, 3)], [12, 13, 14, 15, 16, 17, 18]⟩) (.node (some ⟨[(18, 4)], [12, 13, 14, 15, 16, 17]⟩) .leaf .leaf) (.node none (.node none .leaf (.node none (.node (some ⟨[(20, 3)], [6, 7, 8, 9, 21, 22, 23, 24, 25, 26, 27, 28, 29, 30, 31, 32, 33, 34, 35, 36, 37]⟩) (.node none .leaf (.node none .leaf (.node none (.node none (.node none .leaf (.node none .leaf (.node (some ⟨[(9, 3)], [26, 27, 28, 29, 30, 31]⟩) .leaf .leaf))) .leaf) .leaf))) .leaf) .leaf)) .leaf)))) (postV Tryz.prog Tryz.f138 R) ⟨#[Value.slice x0a x0n x0c, Value.int IntKind.i64 x1, Value.int IntKind.i64 x2] ++ Array.replicate (Tryz.f138.ntmps - 3) undef, []⟩ H := by kernel_rfl
theorem F138_calls {R : Ending → Heap → Prop} {H : Heap} (x0a : Option Addr) (x0n : Nat) (x0c : Nat) (x1 : Int) (x2 : Int) (h : F138 x0a x0n x0c x1 x2 R H) : HCalls Tryz.prog 138 #[Value.slice x0a x0n x0c, Value.int IntKind.i64 x1, Value.int IntKind.i64 x2] H R :=
  calls_by (F := F138 x0a x0n x0c x1 x2 R H) (.node none .leaf (.node none .leaf (.node (some ⟨[(2, 3)], [12, 13, 14, 15, 16, 17, 18]⟩) (.node (some ⟨[(18, 4)], [12, 13, 14, 15, 16, 17]⟩) .leaf .leaf) (.node none (.node none .leaf (.node none (.node (some ⟨[(20, 3)], [6, 7, 8, 9, 21, 22, 23, 24, 25, 26, 27, 28, 29, 30, 31, 32, 33, 34, 35, 36, 37]⟩) (.node none .leaf (.node none .leaf (.node none (.node none (.node none .leaf (.node none .leaf (.node (some ⟨[(9, 3)], [26, 27, 28, 29, 30, 31]⟩) .leaf .leaf))) .leaf) .leaf))) .leaf) .leaf)) .leaf)))) Tryz.func138 rfl (F138_eq x0a x0n x0c x1 x2 R H) h
/-- bollard/bits.With -/
def F139 (x0a : Option Addr) (x0n : Nat) (x0c : Nat) (x1 : Int) (x2 : Bool) (R : Ending → Heap → Prop) (H : Heap) : Prop :=
  jn (α := VFH 1) (fun v1 H2 =>
  ∀ v3 v4 v5 v6 v7 v8 v9 v10 : Value,
  dBl v1 (fun b11 =>
  sB b11 (R (Ending.returned (Value.tuple #[Value.slice none 0 0, Value.int IntKind.i64 50])) H2) (semW Tryz.prog (Builtin.append_ #[38, 38] 38 #[Value.slice none 0 0, Value.slice x0a x0n x0c]) (pnR R) H2 (fun v14 H15 =>
  dSl v14 (fun p16 r17 r18 =>
  ask ((8 : Int) ≠ (0 : Int)) (wr IntKind.i64 (Int.tdiv x1 8) (fun n19 =>
  nz p16 (fun a20 =>
  ask ((0 : Int) ≤ n19 ∧ n19 < (↑r17 : Int)) (ld H15 (Addr.add a20 (Int.toNat n19 * 1)) (fun v21 =>
  dInt IntKind.u8 v21 (fun n22 =>
  ask ((8 : Int) ≠ (0 : Int)) (nm (Int.tmod x1 8) (fun n23 =>
  ask ((0 : Int) ≤ n23) (nm (IntKind.wrap IntKind.u8 (1 * 2 ^ min (Int.toNat n23) 8)) (fun n24 =>
  nm (IntKind.wrap IntKind.u8 (↑(BitVec.toNat (BitVec.ofInt 8 n22 &&& ~~~BitVec.ofInt 8 n24)) : Int)) (fun n25 =>
  nz p16 (fun a26 =>
  ask ((0 : Int) ≤ n19 ∧ n19 < (↑r17 : Int)) (st H15 (Addr.add a26 (Int.toNat n19 * 1)) (Value.int IntKind.u8 n25) (fun H27 =>
  jn (α := VFH 0) (fun H28 =>
  ∀ v29 v30 v31 v32 v33 v34 v35 v36 v37 v38 v39 : Value,
  R (Ending.returned (Value.tuple #[Value.slice p16 r17 r18, Value.int IntKind.i64 0])) H28) (fun k40 =>
  sB x2 (ask ((8 : Int) ≠ (0 : Int)) (wr IntKind.i64 (Int.tdiv x1 8) (fun n41 =>
  nz p16 (fun a42 =>
  ask ((0 : Int) ≤ n41 ∧ n41 < (↑r17 : Int)) (ld H27 (Addr.add a42 (Int.toNat n41 * 1)) (fun v43 =>
  dInt IntKind.u8 v43 (fun n44 =>
  ask ((8 : Int) ≠ (0 : Int)) (nm (Int.tmod x1 8) (fun n45 =>
  ask ((0 : Int) ≤ n45) (nm (IntKind.wrap IntKind.u8 (1 * 2 ^ min (Int.toNat n45) 8)) (fun n46 =>
  nm (IntKind.wrap IntKind.u8 (↑(BitVec.toNat (BitVec.ofInt 8 n44 ||| BitVec.ofInt 8 n46)) : Int)) (fun n47 =>
  nz p16 (fun a48 =>
  ask ((0 : Int) ≤ n41 ∧ n41 < (↑r17 : Int)) (st H27 (Addr.add a48 (Int.toNat n41 * 1)) (Value.int IntKind.u8 n47) (fun H49 =>
  k40 H49))))))))))))))) (k40 H27))))))))))))))))))))) (fun k50 =>
  sB (decide (x1 < 0)) (k50 (Value.bool true) H) (ask ((8 : Int) ≠ (0 : Int)) (wr IntKind.i64 (Int.tdiv x1 8) (fun n51 =>
  k50 (Value.bool (decide (n51 ≥ (↑x0n : Int)))) H))))
theorem F139_eq (x0a : Option Addr) (x0n : Nat) (x0c : Nat) (x1 : Int) (x2 : Bool) (R : Ending → Heap → Prop) (H : Heap) : F139 x0a x0n x0c x1 x2 R H = vc Tryz.prog (codeOf Tryz.f139) (.node none .leaf (.node none (.node (some ⟨[(17, 4)], [9, 10, 11, 12, 13, 14, 15, 16]⟩) .leaf .leaf) (.node none .leaf (.node none .leaf (.node (some ⟨[], [30, 31, 32, 33, 34, 35, 36, 37, 38, 39, 40]⟩) .leaf .leaf))))) (postV Tryz.prog Tryz.f139 R) ⟨#[Value.slice x0a x0n x0c, Value.int IntKind.i64 x1, Value.bool x2] ++ Array.replicate (Tryz.f139.ntmps - 3) undef, []⟩ H := by kernel_rfl
theorem F139_calls {R : Ending → Heap → Prop} {H : Heap} (x0a : Option Addr) (x0n : Nat) (x0c : Nat) (x1 : Int) (x2 : Bool) (h : F139 x0a x0n x0c x1 x2 R H) : HCalls Tryz.prog 139 #[Value.slice x0a x0n x0c, Value.int IntKind.i64 x1, Value.bool x2] H R :=
  calls_by (F := F139 x0a x0n x0c x1 x2 R H) (.node none .leaf (.node none (.node (some ⟨[(17, 4)], [9, 10, 11, 12, 13, 14, 15, 16]⟩) .leaf .leaf) (.node none .leaf (.node none .leaf (.node (some ⟨[], [30, 31, 32, 33, 34, 35, 36, 37, 38, 39, 40]⟩) .leaf .leaf))))) Tryz.func139 rfl (F139_eq x0a x0n x0c x1 x2 R H) h
/-- slices.DeleteFunc[[]int,int] -/
def F140 (x0a : Option Addr) (x0n : Nat) (x0c : Nat) (x1g : Nat) (x1f : Array Value) (x1c : Array Value) (R : Ending → Heap → Prop) (H : Heap) : Prop :=
  HCalls Tryz.prog 148 #[Value.slice x0a x0n x0c, Value.func (Fn.func x1g) x1f x1c] H (Sp.retK (fun v1 H2 =>
  dInt IntKind.i64 v1 (fun n3 =>
  sB (n3 == -1) (R (Ending.returned (Value.slice x0a x0n x0c)) H2) (wr IntKind.i64 (n3 + 1) (fun n4 =>
  ∃ I5 : List Value → Heap → Prop,
  ∃ I6 : List Value → Heap → Nat,
  (I5 ([Value.int IntKind.i64 n3, Value.int IntKind.i64 n4]) H2) ∧
  ∀ n7 : Int,
  ∀ n8 : Int,
  ∀ v9 v10 v11 v12 v13 v14 v15 v16 v17 v18 v19 v20 v21 v22 v23 v24 v25 v26 v27 v28 v29 : Value,
  ∀ H30 : Heap,
  (I5 ([Value.int IntKind.i64 n7, Value.int IntKind.i64 n8]) H30) →
  sB (decide (n8 < (↑x0n : Int))) (jn (α := VFH 1) (fun v32 H33 =>
  ∀ v34 v35 v36 v37 v38 v39 v40 v41 v42 v43 v44 v45 v46 v47 v48 : Value,
  dInt IntKind.i64 v32 (fun n49 =>
  wr IntKind.i64 (n8 + 1) (fun n50 =>
  (I5 ([Value.int IntKind.i64 n49, Value.int IntKind.i64 n50]) H33) ∧
  (I6 [Value.int IntKind.i64 n49, Value.int IntKind.i64 n50] H33) < (I6 [Value.int IntKind.i64 n7, Value.int IntKind.i64 n8] H30)))) (fun k51 =>
  nz x0a (fun a52 =>
  ask ((0 : Int) ≤ n8 ∧ n8 < (↑x0n : Int)) (ld H30 (Addr.add a52 (Int.toNat n8 * 1)) (fun v53 =>
  dInt IntKind.i64 v53 (fun n54 =>
  gB (plainFn Tryz.prog x1g) (HCalls Tryz.prog x1g (argsOf x1f [Value.int IntKind.i64 n54] x1c) H30 (Sp.retK (fun v55 H56 =>
  dBl v55 (fun b57 =>
  sB (!b57) (nz x0a (fun a58 =>
  ask ((0 : Int) ≤ n7 ∧ n7 < (↑x0n : Int)) (st H56 (Addr.add a58 (Int.toNat n7 * 1)) (Value.int IntKind.i64 n54) (fun H59 =>
  wr IntKind.i64 (n7 + 1) (fun n60 =>
  k51 (Value.int IntKind.i64 n60) H59))))) (k51 (Value.int IntKind.i64 n7) H56))) (pnR R))))))))) (ask ((0 : Int) ≤ n7 ∧ n7 ≤ (↑x0n : Int) ∧ (↑x0n : Int) ≤ (↑x0c : Int) ∧ (↑x0c : Int) ≤ (↑x0c : Int)) (semW Tryz.prog (Builtin.clear_ #[73] 0 #[Value.slice (slO x0a 1 n7 (↑x0c : Int)) (Int.toNat (↑x0n : Int) - Int.toNat n7) (Int.toNat (↑x0c : Int) - Int.toNat n7)]) (pnR R) H30 (fun v65 H66 =>
  ask ((0 : Int) ≤ (0 : Int) ∧ (0 : Int) ≤ n7 ∧ n7 ≤ (↑x0c : Int) ∧ (↑x0c : Int) ≤ (↑x0c : Int)) (R (Ending.returned (Value.slice (slO x0a 1 0 (↑x0c : Int)) (Int.toNat n7 - Int.toNat 0) (Int.toNat (↑x0c : Int) - Int.toNat 0))) H66)))))))) (pnR R))
theorem F140_eq (x0a : Option Addr) (x0n : Nat) (x0c : Nat) (x1g : Nat) (x1f : Array Value) (x1c : Array Value) (R : Ending → Heap → Prop) (H : Heap) : F140 x0a x0n x0c x1g x1f x1c R H = vc Tryz.prog (codeOf Tryz.f140) (.node none .leaf (.node none .leaf (.node none .leaf (.node none (.node none .leaf (.node none (.node (some ⟨[(5, 3), (6, 3)], [7, 16, 17, 18, 19, 20, 21, 22, 23, 24, 25, 26, 27, 28, 29, 30, 31, 32, 33, 34, 35]⟩) (.node none .leaf (.node (some ⟨[(5, 3)], [7, 22, 23, 24, 25, 26, 27, 28, 29, 30, 31, 32, 33, 34, 35]⟩) .leaf .leaf)) .leaf) .leaf)) .leaf)))) (postV Tryz.prog Tryz.f140 R) ⟨#[Value.slice x0a x0n x0c, Value.func (Fn.func x1g) x1f x1c] ++ Array.replicate (Tryz.f140.ntmps - 2) undef, []⟩ H := by kernel_rfl
theorem F140_calls {R : Ending → Heap → Prop} {H : Heap} (x0a : Option Addr) (x0n : Nat) (x0c : Nat) (x1g : Nat) (x1f : Array Value) (x1c : Array Value) (h : F140 x0a x0n x0c x1g x1f x1c R H) : HCalls Tryz.prog 140 #[Value.slice x0a x0n x0c, Value.func (Fn.func x1g) x1f x1c] H R :=
  calls_by (F := F140 x0a x0n x0c x1g x1f x1c R H) (.node none .leaf (.node none .leaf (.node none .leaf (.node none (.node none .leaf (.node none (.node (some ⟨[(5, 3), (6, 3)], [7, 16, 17, 18, 19, 20, 21, 22, 23, 24, 25, 26, 27, 28, 29, 30, 31, 32, 33, 34, 35]⟩) (.node none .leaf (.node (some ⟨[(5, 3)], [7, 22, 23, 24, 25, 26, 27, 28, 29, 30, 31, 32, 33, 34, 35]⟩) .leaf .leaf)) .leaf) .leaf)) .leaf)))) Tryz.func140 rfl (F140_eq x0a x0n x0c x1g x1f x1c R H) h
/-- (*bollard/volume.Volume).ready$1 -/
def F141 (x0 : Int) (f0 : Addr) (f1 : Addr) (R : Ending → Heap → Prop) (H : Heap) : Prop :=
  ld H f0 (fun v1 =>
  dPtr v1 (fun p2 =>
  nz p2 (fun a3 =>
  ld H (Addr.add a3 4) (fun v4 =>
  dPtr v4 (fun p5 =>
  ld H f1 (fun v6 =>
  dSl v6 (fun p7 r8 r9 =>
  HCalls Tryz.prog 142 #[Value.pointer p5, Value.int IntKind.i64 x0, Value.slice p7 r8 r9] H (Sp.retK (fun v10 H11 =>
  dT 3 v10 (fun v12 v13 v14 =>
  dSl v12 (fun p15 r16 r17 =>
  dSl v13 (fun p18 r19 r20 =>
  dInt IntKind.i64 v14 (fun n21 =>
  sB (n21 != 0) (R (Ending.returned (Value.bool true)) H11) (ld H11 f0 (fun v22 =>
  dPtr v22 (fun p23 =>
  HCalls Tryz.prog 143 #[Value.pointer p23, Value.int IntKind.i64 x0] H11 (Sp.retK (fun v24 H25 =>
  dBl v24 (fun b26 =>
  R (Ending.returned (Value.bool b26)) H25)) (pnR R)))))))))) nopR))))))))
theorem F141_eq (x0 : Int) (f0 : Addr) (f1 : Addr) (R : Ending → Heap → Prop) (H : Heap) : F141 x0 f0 f1 R H = vc Tryz.prog (codeOf Tryz.f141) .leaf (postV Tryz.prog Tryz.f141 R) ⟨#[Value.int IntKind.i64 x0, Value.pointer (some f0), Value.pointer (some f1)] ++ Array.replicate (Tryz.f141.ntmps - 3) undef, []⟩ H := by kernel_rfl
theorem F141_calls {R : Ending → Heap → Prop} {H : Heap} (x0 : Int) (f0 : Addr) (f1 : Addr) (h : F141 x0 f0 f1 R H) : HCalls Tryz.prog 141 #[Value.int IntKind.i64 x0, Value.pointer (some f0), Value.pointer (some f1)] H R :=
  calls_by (F := F141 x0 f0 f1 R H) .leaf Tryz.func141 rfl (F141_eq x0 f0 f1 R H) h
/-- (*bollard/patch.Set).Plan -/
def F142 (x0 : Option Addr) (x1 : Int) (x2a : Option Addr) (x2n : Nat) (x2c : Nat) (R : Ending → Heap → Prop) (H : Heap) : Prop :=
  HCalls Tryz.prog 127 #[Value.pointer x0] H (Sp.retK (fun v1 H2 =>
  dBl v1 (fun b3 =>
  sB (!b3) (R (Ending.returned (Value.tuple #[Value.slice none 0 0, Value.slice none 0 0, Value.int IntKind.i64 2])) H2) (sB ((↑x2n : Int) != 128) (R (Ending.returned (Value.tuple #[Value.slice none 0 0, Value.slice none 0 0, Value.int IntKind.i64 1])) H2) (HCalls Tryz.prog 192 #[Value.pointer x0, Value.int IntKind.i64 x1] H2 (Sp.retK (fun v4 H5 =>
  dSl v4 (fun p6 r7 r8 =>
  sB ((↑r7 : Int) == 0) (R (Ending.returned (Value.tuple #[Value.slice none 0 0, Value.slice none 0 0, Value.int IntKind.i64 71])) H5) (HCalls Tryz.prog 189 #[Value.pointer x0, Value.slice x2a x2n x2c, Value.slice p6 r7 r8] H5 (Sp.retK (fun v9 H10 =>
  dSl v9 (fun p11 r12 r13 =>
  R (Ending.returned (Value.tuple #[Value.slice p11 r12 r13, Value.slice p6 r7 r8, Value.int IntKind.i64 0])) H10)) (pnR R))))) (pnR R)))))) (pnR R))
theorem F142_eq (x0 : Option Addr) (x1 : Int) (x2a : Option Addr) (x2n : Nat) (x2c : Nat) (R : Ending → Heap → Prop) (H : Heap) : F142 x0 x1 x2a x2n x2c R H = vc Tryz.prog (codeOf Tryz.f142) .leaf (postV Tryz.prog Tryz.f142 R) ⟨#[Value.pointer x0, Value.int IntKind.i64 x1, Value.slice x2a x2n x2c] ++ Array.replicate (Tryz.f142.ntmps - 3) undef, []⟩ H := by kernel_rfl
theorem F142_calls {R : Ending → Heap → Prop} {H : Heap} (x0 : Option Addr) (x1 : Int) (x2a : Option Addr) (x2n : Nat) (x2c : Nat) (h : F142 x0 x1 x2a x2n x2c R H) : HCalls Tryz.prog 142 #[Value.pointer x0, Value.int IntKind.i64 x1, Value.slice x2a x2n x2c] H R :=
  calls_by (F := F142 x0 x1 x2a x2n x2c R H) .leaf Tryz.func142 rfl (F142_eq x0 x1 x2a x2n x2c R H) h
/-- (*bollard/volume.Volume).going -/
def F143 (x0 : Option Addr) (x1 : Int) (R : Ending → Heap → Prop) (H : Heap) : Prop :=
  nz x0 (fun a1 =>
  ld H (Addr.add a1 5) (fun v2 =>
  dMap v2 (fun p3 =>
  semW Tryz.prog (Instr.range 52 (Value.map p3)) (pnR R) H (fun v6 H7 =>
  ∃ I8 : List Value → Heap → Prop,
  ∃ I9 : List Value → Heap → Nat,
  (I8 [] H7) ∧
  ∀ v10 v11 v12 v13 v14 v15 v16 v17 v18 v19 : Value,
  ∀ H20 : Heap,
  (I8 [] H20) →
  semW Tryz.prog (Instr.next v6 false 0) (pnR R) H20 (fun v24 H25 =>
  dNx v24 (R (Ending.returned (Value.bool false)) H25) (fun v26 v27 =>
  semW Tryz.prog (Instr.entry v6) (pnR R) H25 (fun v30 H31 =>
  dT 2 v30 (fun v32 v33 =>
  dA 3 v33 (fun v34 v35 v36 =>
  al H31 (Obj.cells #[Value.int IntKind.i64 0, Value.slice none 0 0, Value.slice none 0 0] 153) (fun r37 H38 =>
  st H38 (Addr.mk r37 0 none) v34 (fun H39 =>
  st H39 (Addr.mk r37 1 none) v35 (fun H40 =>
  st H40 (Addr.mk r37 2 none) v36 (fun H41 =>
  ld H41 (Addr.mk r37 0 none) (fun v42 =>
  dInt IntKind.i64 v42 (fun n43 =>
  sB (n43 == x1) (R (Ending.returned (Value.bool true)) H41) ((I8 [] H41) ∧
  (I9 [] H41) < (I9 [] H20)))))))))))))))))
theorem F143_eq (x0 : Option Addr) (x1 : Int) (R : Ending → Heap → Prop) (H : Heap) : F143 x0 x1 R H = vc Tryz.prog (codeOf Tryz.f143) (.node none .leaf (.node none (.node none .leaf (.node none (.node (some ⟨[], [4, 6, 12, 13, 14, 15, 16, 17, 18, 19]⟩) .leaf .leaf) .leaf)) .leaf)) (postV Tryz.prog Tryz.f143 R) ⟨#[Value.pointer x0, Value.int IntKind.i64 x1] ++ Array.replicate (Tryz.f143.ntmps - 2) undef, []⟩ H := by kernel_rfl
theorem F143_calls {R : Ending → Heap → Prop} {H : Heap} (x0 : Option Addr) (x1 : Int) (h : F143 x0 x1 R H) : HCalls Tryz.prog 143 #[Value.pointer x0, Value.int IntKind.i64 x1] H R :=
  calls_by (F := F143 x0 x1 R H) (.node none .leaf (.node none (.node none .leaf (.node none (.node (some ⟨[], [4, 6, 12, 13, 14, 15, 16, 17, 18, 19]⟩) .leaf .leaf) .leaf)) .leaf)) Tryz.func143 rfl (F143_eq x0 x1 R H) h
/-- (*bollard/disk.Disk).Write -/
def F144 (x0 : Option Addr) (x1 : Int) (x2a : Option Addr) (x2n : Nat) (x2c : Nat) (R : Ending → Heap → Prop) (H : Heap) : Prop :=
  al H (Obj.cells #[Value.int IntKind.i64 x1] 3) (fun r1 H2 =>
  ld H2 (Addr.mk r1 0 none) (fun v3 =>
  dInt IntKind.i64 v3 (fun n4 =>
  HCalls Tryz.prog 193 #[Value.pointer x0, Value.int IntKind.i64 n4] H2 (Sp.retK (fun v5 H6 =>
  dInt IntKind.i64 v5 (fun n7 =>
  sB (n7 != 0) (R (Ending.returned (Value.tuple #[Value.int IntKind.i64 0, Value.int IntKind.i64 n7])) H6) (sB ((↑x2n : Int) != 128) (R (Ending.returned (Value.tuple #[Value.int IntKind.i64 0, Value.int IntKind.i64 1])) H6) (nz x0 (fun a8 =>
  ld H6 (Addr.add a8 1) (fun v9 =>
  dSl v9 (fun p10 r11 r12 =>
  HCalls Tryz.prog 194 #[Value.slice p10 r11 r12, Value.func (Fn.func 195) #[] #[Value.pointer (some (Addr.mk r1 0 none))]] H6 (Sp.retK (fun v13 H14 =>
  dBl v13 (fun b15 =>
  sB b15 (R (Ending.returned (Value.tuple #[Value.int IntKind.i64 0, Value.int IntKind.i64 21])) H14) (nz x0 (fun a16 =>
  ld H14 (Addr.add a16 1) (fun v17 =>
  dSl v17 (fun p18 r19 r20 =>
  sB (decide ((↑r19 : Int) ≥ 64)) (R (Ending.returned (Value.tuple #[Value.int IntKind.i64 0, Value.int IntKind.i64 3])) H14) (nz x0 (fun a21 =>
  ld H14 (Addr.add a21 3) (fun v22 =>
  dInt IntKind.i64 v22 (fun n23 =>
  wr IntKind.i64 (n23 + 1) (fun n24 =>
  nz x0 (fun a25 =>
  st H14 (Addr.add a25 3) (Value.int IntKind.i64 n24) (fun H26 =>
  nz x0 (fun a27 =>
  ld H26 (Addr.add a27 1) (fun v28 =>
  dSl v28 (fun p29 r30 r31 =>
  nz x0 (fun a32 =>
  ld H26 (Addr.add a32 3) (fun v33 =>
  dInt IntKind.i64 v33 (fun n34 =>
  ld H26 (Addr.mk r1 0 none) (fun v35 =>
  dInt IntKind.i64 v35 (fun n36 =>
  HCalls Tryz.prog 48 #[Value.slice x2a x2n x2c] H26 (Sp.retK (fun v37 H38 =>
  dSl v37 (fun p39 r40 r41 =>
  (ld H38 (Addr.mk r1 0 none) (fun v42 =>
  dInt IntKind.i64 v42 (fun n43 =>
  (Value.int IntKind.i64 n43) = (Value.int IntKind.i64 n36)))) ∧
  (ld H38 (Addr.add a32 3) (fun v44 =>
  dInt IntKind.i64 v44 (fun n45 =>
  (Value.int IntKind.i64 n45) = (Value.int IntKind.i64 n34)))) ∧
  (ld H38 (Addr.add a27 1) (fun v46 =>
  dSl v46 (fun p47 r48 r49 =>
  (Value.slice p47 r48 r49) = (Value.slice p29 r30 r31)))) ∧
  al H38 (Obj.cells #[Value.int IntKind.i64 n34, Value.int IntKind.i64 n36, Value.slice p39 r40 r41] 96) (fun r50 H51 =>
  (ld H51 (Addr.add a27 1) (fun v52 =>
  dSl v52 (fun p53 r54 r55 =>
  (Value.slice p53 r54 r55) = (Value.slice p29 r30 r31)))) ∧
  semW Tryz.prog (Builtin.append_ #[93, 93] 93 #[Value.slice p29 r30 r31, Value.slice (some (Addr.mk r50 0 none)) 1 1]) nopR H51 (fun v58 H59 =>
  dSl v58 (fun p60 r61 r62 =>
  nz x0 (fun a63 =>
  st H59 (Addr.add a63 1) (Value.slice p60 r61 r62) (fun H64 =>
  nz x0 (fun a65 =>
  ld H64 (Addr.add a65 3) (fun v66 =>
  dInt IntKind.i64 v66 (fun n67 =>
  R (Ending.returned (Value.tuple #[Value.int IntKind.i64 n67, Value.int IntKind.i64 0])) H64)))))))))) nopR)))))))))))))))))))))) (pnR R))))))))) (pnR R)))))
theorem F144_eq (x0 : Option Addr) (x1 : Int) (x2a : Option Addr) (x2n : Nat) (x2c : Nat) (R : Ending → Heap → Prop) (H : Heap) : F144 x0 x1 x2a x2n x2c R H = vc Tryz.prog (codeOf Tryz.f144) .leaf (postV Tryz.prog Tryz.f144 R) ⟨#[Value.pointer x0, Value.int IntKind.i64 x1, Value.slice x2a x2n x2c] ++ Array.replicate (Tryz.f144.ntmps - 3) undef, []⟩ H := by kernel_rfl
theorem F144_calls {R : Ending → Heap → Prop} {H : Heap} (x0 : Option Addr) (x1 : Int) (x2a : Option Addr) (x2n : Nat) (x2c : Nat) (h : F144 x0 x1 x2a x2n x2c R H) : HCalls Tryz.prog 144 #[Value.pointer x0, Value.int IntKind.i64 x1, Value.slice x2a x2n x2c] H R :=
  calls_by (F := F144 x0 x1 x2a x2n x2c R H) .leaf Tryz.func144 rfl (F144_eq x0 x1 x2a x2n x2c R H) h
/-- (*bollard/disk.Disk).Complete -/
def F145 (x0 : Option Addr) (x1 : Int) (x2 : Bool) (R : Ending → Heap → Prop) (H : Heap) : Prop :=
  HCalls Tryz.prog 87 #[Value.pointer x0] H (Sp.retK (fun v1 H2 =>
  dBl v1 (fun b3 =>
  sB (!b3) (R (Ending.returned (Value.int IntKind.i64 2)) H2) (HCalls Tryz.prog 90 #[Value.pointer x0, Value.int IntKind.i64 x1] H2 (Sp.retK (fun v4 H5 =>
  dInt IntKind.i64 v4 (fun n6 =>
  sB (decide (n6 < 0)) (R (Ending.returned (Value.int IntKind.i64 20)) H5) (nz x0 (fun a7 =>
  ld H5 (Addr.add a7 1) (fun v8 =>
  dSl v8 (fun p9 r10 r11 =>
  nz p9 (fun a12 =>
  ask ((0 : Int) ≤ n6 ∧ n6 < (↑r10 : Int)) (ld H5 (Addr.add a12 (Int.toNat n6 * 3)) (fun v13 =>
  ld H5 (Addr.add (Addr.add a12 (Int.toNat n6 * 3)) 1) (fun v14 =>
  ld H5 (Addr.add (Addr.add a12 (Int.toNat n6 * 3)) 2) (fun v15 =>
  al H5 (Obj.cells #[Value.int IntKind.i64 0, Value.int IntKind.i64 0, Value.slice none 0 0] 96) (fun r16 H17 =>
  st H17 (Addr.mk r16 0 none) v13 (fun H18 =>
  st H18 (Addr.mk r16 1 none) v14 (fun H19 =>
  st H19 (Addr.mk r16 2 none) v15 (fun H20 =>
  nz x0 (fun a21 =>
  ld H20 (Addr.add a21 1) (fun v22 =>
  dSl v22 (fun p23 r24 r25 =>
  wr IntKind.i64 (n6 + 1) (fun n26 =>
  HCalls Tryz.prog 196 #[Value.slice p23 r24 r25, Value.int IntKind.i64 n6, Value.int IntKind.i64 n26] H20 (Sp.retK (fun v27 H28 =>
  dSl v27 (fun p29 r30 r31 =>
  nz x0 (fun a32 =>
  st H28 (Addr.add a32 1) (Value.slice p29 r30 r31) (fun H33 =>
  sB (!x2) (R (Ending.returned (Value.int IntKind.i64 4)) H33) (nz x0 (fun a34 =>
  ld H33 a34 (fun v35 =>
  dSl v35 (fun p36 r37 r38 =>
  ld H33 (Addr.mk r16 1 none) (fun v39 =>
  dInt IntKind.i64 v39 (fun n40 =>
  ld H33 (Addr.mk r16 2 none) (fun v41 =>
  dSl v41 (fun p42 r43 r44 =>
  nz p36 (fun a45 =>
  ask ((0 : Int) ≤ n40 ∧ n40 < (↑r37 : Int)) (st H33 (Addr.add a45 (Int.toNat n40 * 1)) (Value.slice p42 r43 r44) (fun H46 =>
  R (Ending.returned (Value.int IntKind.i64 0)) H46))))))))))))))) (pnR R))))))))))))))))))))) (pnR R))))) (pnR R))
theorem F145_eq (x0 : Option Addr) (x1 : Int) (x2 : Bool) (R : Ending → Heap → Prop) (H : Heap) : F145 x0 x1 x2 R H = vc Tryz.prog (codeOf Tryz.f145) .leaf (postV Tryz.prog Tryz.f145 R) ⟨#[Value.pointer x0, Value.int IntKind.i64 x1, Value.bool x2] ++ Array.replicate (Tryz.f145.ntmps - 3) undef, []⟩ H := by kernel_rfl
theorem F145_calls {R : Ending → Heap → Prop} {H : Heap} (x0 : Option Addr) (x1 : Int) (x2 : Bool) (h : F145 x0 x1 x2 R H) : HCalls Tryz.prog 145 #[Value.pointer x0, Value.int IntKind.i64 x1, Value.bool x2] H R :=
  calls_by (F := F145 x0 x1 x2 R H) .leaf Tryz.func145 rfl (F145_eq x0 x1 x2 R H) h
/-- (*bollard/cache.Cache).Put -/
def F146 (x0 : Option Addr) (x1 : Int) (x2a : Option Addr) (x2n : Nat) (x2c : Nat) (R : Ending → Heap → Prop) (H : Heap) : Prop :=
  HCalls Tryz.prog 197 #[Value.pointer x0, Value.int IntKind.i64 x1] H (Sp.retK (fun v1 H2 =>
  dInt IntKind.i64 v1 (fun n3 =>
  sB (n3 != 0) (R (Ending.returned (Value.int IntKind.i64 n3)) H2) (sB ((↑x2n : Int) != 128) (R (Ending.returned (Value.int IntKind.i64 1)) H2) (jn (α := VFH 0) (fun H4 =>
  ∀ v5 v6 v7 v8 v9 v10 v11 v12 v13 v14 v15 v16 v17 v18 v19 v20 v21 : Value,
  R (Ending.returned (Value.int IntKind.i64 0)) H4) (fun k22 =>
  nz x0 (fun a23 =>
  ld H2 (Addr.add a23 2) (fun v24 =>
  dMap v24 (fun p25 =>
  semW Tryz.prog (Instr.lookup 201 (Value.map p25) (Value.int IntKind.i64 x1) true) (pnR R) H2 (fun v28 H29 =>
  dT 2 v28 (fun v30 v31 =>
  dPtr v30 (fun p32 =>
  dBl v31 (fun b33 =>
  sB b33 (HCalls Tryz.prog 48 #[Value.slice x2a x2n x2c] H29 (Sp.retK (fun v34 H35 =>
  dSl v34 (fun p36 r37 r38 =>
  nz p32 (fun a39 =>
  st H35 a39 (Value.slice p36 r37 r38) (fun H40 =>
  k22 H40)))) (pnR R))) (k22 H29))))))))))))) (pnR R))
theorem F146_eq (x0 : Option Addr) (x1 : Int) (x2a : Option Addr) (x2n : Nat) (x2c : Nat) (R : Ending → Heap → Prop) (H : Heap) : F146 x0 x1 x2a x2n x2c R H = vc Tryz.prog (codeOf Tryz.f146) (.node none .leaf (.node none .leaf (.node none .leaf (.node (some ⟨[], [8, 9, 19, 20, 21, 22, 23, 24, 25, 26, 27, 28, 29, 30, 31, 32, 33]⟩) .leaf .leaf)))) (postV Tryz.prog Tryz.f146 R) ⟨#[Value.pointer x0, Value.int IntKind.i64 x1, Value.slice x2a x2n x2c] ++ Array.replicate (Tryz.f146.ntmps - 3) undef, []⟩ H := by kernel_rfl
theorem F146_calls {R : Ending → Heap → Prop} {H : Heap} (x0 : Option Addr) (x1 : Int) (x2a : Option Addr) (x2n : Nat) (x2c : Nat) (h : F146 x0 x1 x2a x2n x2c R H) : HCalls Tryz.prog 146 #[Value.pointer x0, Value.int IntKind.i64 x1, Value.slice x2a x2n x2c] H R :=
  calls_by (F := F146 x0 x1 x2a x2n x2c R H) (.node none .leaf (.node none .leaf (.node none .leaf (.node (some ⟨[], [8, 9, 19, 20, 21, 22, 23, 24, 25, 26, 27, 28, 29, 30, 31, 32, 33]⟩) .leaf .leaf)))) Tryz.func146 rfl (F146_eq x0 x1 x2a x2n x2c R H) h
/-- (*bollard/patch.Set).Done -/
def F147 (x0 : Option Addr) (x1a : Option Addr) (x1n : Nat) (x1c : Nat) (R : Ending → Heap → Prop) (H : Heap) : Prop :=
  al H (Obj.cells #[Value.pointer x0] 51) (fun r1 H2 =>
  ld H2 (Addr.mk r1 0 none) (fun v3 =>
  dPtr v3 (fun p4 =>
  HCalls Tryz.prog 127 #[Value.pointer p4] H2 (Sp.retK (fun v5 H6 =>
  dBl v5 (fun b7 =>
  sB (!b7) (R (Ending.returned (Value.int IntKind.i64 2)) H6) (HCalls Tryz.prog 88 #[Value.slice x1a x1n x1c, Value.func (Fn.func 198) #[] #[Value.pointer (some (Addr.mk r1 0 none))]] H6 (Sp.retK (fun v8 H9 =>
  dBl v8 (fun b10 =>
  sB b10 (R (Ending.returned (Value.int IntKind.i64 70)) H9) (ld H9 (Addr.mk r1 0 none) (fun v11 =>
  dPtr v11 (fun p12 =>
  HCalls Tryz.prog 133 #[Value.pointer p12, Value.slice x1a x1n x1c] H9 (Sp.retK (fun v13 H14 =>
  dSl v13 (fun p15 r16 r17 =>
  ∃ I18 : List Value → Heap → Prop,
  ∃ I19 : List Value → Heap → Nat,
  (I18 ([Value.int IntKind.i64 0]) H14) ∧
  ∀ n20 : Int,
  ∀ v21 v22 v23 v24 v25 v26 v27 v28 v29 v30 v31 v32 v33 v34 v35 v36 v37 v38 v39 v40 v41 v42 v43 v44 v45 v46 : Value,
  ∀ H47 : Heap,
  (I18 ([Value.int IntKind.i64 n20]) H47) →
  sB (decide (n20 < (↑r16 : Int))) (nz p15 (fun a49 =>
  ask ((0 : Int) ≤ n20 ∧ n20 < (↑r16 : Int)) (ld H47 (Addr.add a49 (Int.toNat n20 * 1)) (fun v50 =>
  dInt IntKind.i64 v50 (fun n51 =>
  ld H47 (Addr.mk r1 0 none) (fun v52 =>
  dPtr v52 (fun p53 =>
  ld H47 (Addr.mk r1 0 none) (fun v54 =>
  dPtr v54 (fun p55 =>
  nz p55 (fun a56 =>
  ld H47 (Addr.add a56 2) (fun v57 =>
  dMap v57 (fun p58 =>
  semW Tryz.prog (Instr.lookup 190 (Value.map p58) (Value.int IntKind.i64 n51) false) nopR H47 (fun v61 H62 =>
  dA 5 v61 (fun v63 v64 v65 v66 v67 =>
  (ld H62 (Addr.mk r1 0 none) (fun v68 =>
  dPtr v68 (fun p69 =>
  (Value.pointer p69) = (Value.pointer p53)))) ∧
  dSl v67 (fun p70 r71 r72 =>
  HCalls Tryz.prog 133 #[Value.pointer p53, Value.slice p70 r71 r72] H62 (Sp.retK (fun v73 H74 =>
  dSl v73 (fun p75 r76 r77 =>
  ∃ I78 : List Value → Heap → Prop,
  ∃ I79 : List Value → Heap → Nat,
  (I78 ([Value.int IntKind.i64 0]) H74) ∧
  ∀ n80 : Int,
  ∀ v81 v82 v83 v84 v85 v86 v87 v88 v89 v90 : Value,
  ∀ H91 : Heap,
  (I78 ([Value.int IntKind.i64 n80]) H91) →
  sB (decide (n80 < (↑r76 : Int))) (nz p75 (fun a93 =>
  ask ((0 : Int) ≤ n80 ∧ n80 < (↑r76 : Int)) (ld H91 (Addr.add a93 (Int.toNat n80 * 1)) (fun v94 =>
  dInt IntKind.i64 v94 (fun n95 =>
  HCalls Tryz.prog 169 #[Value.slice p15 r16 r17, Value.int IntKind.i64 n95] H91 (Sp.retK (fun v96 H97 =>
  dBl v96 (fun b98 =>
  sB (!b98) (R (Ending.returned (Value.int IntKind.i64 3)) H97) (wr IntKind.i64 (n80 + 1) (fun n99 =>
  (I78 ([Value.int IntKind.i64 n99]) H97) ∧
  (I79 [Value.int IntKind.i64 n99] H97) < (I79 [Value.int IntKind.i64 n80] H91))))) (pnR R))))))) (wr IntKind.i64 (n20 + 1) (fun n102 =>
  (I18 ([Value.int IntKind.i64 n102]) H91) ∧
  (I19 [Value.int IntKind.i64 n102] H91) < (I19 [Value.int IntKind.i64 n20] H47))))) nopR)))))))))))))))) (∃ I105 : List Value → Heap → Prop,
  ∃ I106 : List Value → Heap → Nat,
  (I105 ([Value.int IntKind.i64 0]) H47) ∧
  ∀ n107 : Int,
  ∀ v108 v109 v110 v111 v112 v113 v114 v115 v116 v117 v118 v119 v120 v121 v122 v123 : Value,
  ∀ H124 : Heap,
  (I105 ([Value.int IntKind.i64 n107]) H124) →
  sB (decide (n107 < (↑r16 : Int))) (nz p15 (fun a126 =>
  ask ((0 : Int) ≤ n107 ∧ n107 < (↑r16 : Int)) (ld H124 (Addr.add a126 (Int.toNat n107 * 1)) (fun v127 =>
  dInt IntKind.i64 v127 (fun n128 =>
  ld H124 (Addr.mk r1 0 none) (fun v129 =>
  dPtr v129 (fun p130 =>
  nz p130 (fun a131 =>
  ld H124 (Addr.add a131 2) (fun v132 =>
  dMap v132 (fun p133 =>
  semW Tryz.prog (Builtin.delete_ #[190, 3] 0 #[Value.map p133, Value.int IntKind.i64 n128]) (pnR R) H124 (fun v136 H137 =>
  ld H137 (Addr.mk r1 0 none) (fun v138 =>
  dPtr v138 (fun p139 =>
  nz p139 (fun a140 =>
  ld H137 (Addr.add a140 1) (fun v141 =>
  dMap v141 (fun p142 =>
  semW Tryz.prog (Instr.mapUpdate 189 (Value.map p142) (Value.int IntKind.i64 n128) (Value.agg #[])) (pnR R) H137 (fun x145 H146 =>
  wr IntKind.i64 (n107 + 1) (fun n147 =>
  (I105 ([Value.int IntKind.i64 n147]) H146) ∧
  (I106 [Value.int IntKind.i64 n147] H146) < (I106 [Value.int IntKind.i64 n107] H124))))))))))))))))))) (R (Ending.returned (Value.int IntKind.i64 0)) H124)))) (pnR R))))))) (pnR R))))) (pnR R)))))
theorem F147_eq (x0 : Option Addr) (x1a : Option Addr) (x1n : Nat) (x1c : Nat) (R : Ending → Heap → Prop) (H : Heap) : F147 x0 x1a x1n x1c R H = vc Tryz.prog (codeOf Tryz.f147) (.node none .leaf (.node none .leaf (.node none .leaf (.node none (.node none .leaf (.node none (.node (some ⟨[(25, 3)], [4, 7, 9, 26, 27, 28, 29, 30, 31, 32, 33, 34, 35, 36, 37, 38, 39, 40, 41, 42, 43, 44, 45, 46, 47, 48]⟩) (.node none .leaf (.node none .leaf (.node none (.node none (.node none .leaf (.node none .leaf (.node none (.node (some ⟨[(39, 3)], [4, 9, 40, 41, 42, 43, 44, 45, 46, 47]⟩) .leaf .leaf) .leaf))) .leaf) .leaf))) .leaf) .leaf)) (.node none (.node none .leaf (.node none (.node (some ⟨[(51, 3)], [11, 52, 53, 54, 55, 56, 57, 58, 59, 60, 61, 62, 63, 64, 65, 66]⟩) .leaf .leaf) .leaf)) .leaf))))) (postV Tryz.prog Tryz.f147 R) ⟨#[Value.pointer x0, Value.slice x1a x1n x1c] ++ Array.replicate (Tryz.f147.ntmps - 2) undef, []⟩ H := by kernel_rfl
theorem F147_calls {R : Ending → Heap → Prop} {H : Heap} (x0 : Option Addr) (x1a : Option Addr) (x1n : Nat) (x1c : Nat) (h : F147 x0 x1a x1n x1c R H) : HCalls Tryz.prog 147 #[Value.pointer x0, Value.slice x1a x1n x1c] H R :=
  calls_by (F := F147 x0 x1a x1n x1c R H) (.node none .leaf (.node none .leaf (.node none .leaf (.node none (.node none .leaf (.node none (.node (some ⟨[(25, 3)], [4, 7, 9, 26, 27, 28, 29, 30, 31, 32, 33, 34, 35, 36, 37, 38, 39, 40, 41, 42, 43, 44, 45, 46, 47, 48]⟩) (.node none .leaf (.node none .leaf (.node none (.node none (.node none .leaf (.node none .leaf (.node none (.node (some ⟨[(39, 3)], [4, 9, 40, 41, 42, 43, 44, 45, 46, 47]⟩) .leaf .leaf) .leaf))) .leaf) .leaf))) .leaf) .leaf)) (.node none (.node none .leaf (.node none (.node (some ⟨[(51, 3)], [11, 52, 53, 54, 55, 56, 57, 58, 59, 60, 61, 62, 63, 64, 65, 66]⟩) .leaf .leaf) .leaf)) .leaf))))) Tryz.func147 rfl (F147_eq x0 x1a x1n x1c R H) h
/-- slices.IndexFunc[[]int,int] -/
def F148 (x0a : Option Addr) (x0n : Nat) (x0c : Nat) (x1g : Nat) (x1f : Array Value) (x1c : Array Value) (R : Ending → Heap → Prop) (H : Heap) : Prop :=
  ∃ I1 : List Value → Heap → Prop,
  ∃ I2 : List Value → Heap → Nat,
  (I1 ([Value.int IntKind.i64 0]) H) ∧
  ∀ n3 : Int,
  ∀ v4 v5 v6 v7 v8 v9 v10 v11 v12 v13 v14 v15 : Value,
  ∀ H16 : Heap,
  (I1 ([Value.int IntKind.i64 n3]) H16) →
  sB (decide (n3 < (↑x0n : Int))) (nz x0a (fun a18 =>
  ask ((0 : Int) ≤ n3 ∧ n3 < (↑x0n : Int)) (ld H16 (Addr.add a18 (Int.toNat n3 * 1)) (fun v19 =>
  dInt IntKind.i64 v19 (fun n20 =>
  gB (plainFn Tryz.prog x1g) (HCalls Tryz.prog x1g (argsOf x1f [Value.int IntKind.i64 n20] x1c) H16 (Sp.retK (fun v21 H22 =>
  dBl v21 (fun b23 =>
  sB b23 (R (Ending.returned (Value.int IntKind.i64 n3)) H22) (wr IntKind.i64 (n3 + 1) (fun n24 =>
  (I1 ([Value.int IntKind.i64 n24]) H22) ∧
  (I2 [Value.int IntKind.i64 n24] H22) < (I2 [Value.int IntKind.i64 n3] H16))))) (pnR R)))))))) (R (Ending.returned (Value.int IntKind.i64 (-1))) H16)
theorem F148_eq (x0a : Option Addr) (x0n : Nat) (x0c : Nat) (x1g : Nat) (x1f : Array Value) (x1c : Array Value) (R : Ending → Heap → Prop) (H : Heap) : F148 x0a x0n x0c x1g x1f x1c R H = vc Tryz.prog (codeOf Tryz.f148) (.node none .leaf (.node none (.node none .leaf (.node none (.node (some ⟨[(8, 3)], [4, 5, 9, 10, 11, 12, 13, 14, 15, 16, 17, 18]⟩) .leaf .leaf) .leaf)) .leaf)) (postV Tryz.prog Tryz.f148 R) ⟨#[Value.slice x0a x0n x0c, Value.func (Fn.func x1g) x1f x1c] ++ Array.replicate (Tryz.f148.ntmps - 2) undef, []⟩ H := by kernel_rfl
theorem F148_calls {R : Ending → Heap → Prop} {H : Heap} (x0a : Option Addr) (x0n : Nat) (x0c : Nat) (x1g : Nat) (x1f : Array Value) (x1c : Array Value) (h : F148 x0a x0n x0c x1g x1f x1c R H) : HCalls Tryz.prog 148 #[Value.slice x0a x0n x0c, Value.func (Fn.func x1g) x1f x1c] H R :=
  calls_by (F := F148 x0a x0n x0c x1g x1f x1c R H) (.node none .leaf (.node none (.node none .leaf (.node none (.node (some ⟨[(8, 3)], [4, 5, 9, 10, 11, 12, 13, 14, 15, 16, 17, 18]⟩) .leaf .leaf) .leaf)) .leaf)) Tryz.func148 rfl (F148_eq x0a x0n x0c x1g x1f x1c R H) h
/-- slices.IndexFunc[[]bollard/api.Sent,bollard/api.Sent] -/
def F149 (x0a : Option Addr) (x0n : Nat) (x0c : Nat) (x1g : Nat) (x1f : Array Value) (x1c : Array Value) (R : Ending → Heap → Prop) (H : Heap) : Prop :=
  ∃ I1 : List Value → Heap → Prop,
  ∃ I2 : List Value → Heap → Nat,
  (I1 ([Value.int IntKind.i64 0]) H) ∧
  ∀ n3 : Int,
  ∀ v4 v5 v6 v7 v8 v9 v10 v11 v12 v13 v14 v15 : Value,
  ∀ H16 : Heap,
  (I1 ([Value.int IntKind.i64 n3]) H16) →
  sB (decide (n3 < (↑x0n : Int))) (nz x0a (fun a18 =>
  ask ((0 : Int) ≤ n3 ∧ n3 < (↑x0n : Int)) (ld H16 (Addr.add a18 (Int.toNat n3 * 3)) (fun v19 =>
  ld H16 (Addr.add (Addr.add a18 (Int.toNat n3 * 3)) 1) (fun v20 =>
  ld H16 (Addr.add (Addr.add a18 (Int.toNat n3 * 3)) 2) (fun v21 =>
  gB (plainFn Tryz.prog x1g) (HCalls Tryz.prog x1g (argsOf x1f [Value.agg #[v19, v20, v21]] x1c) H16 (Sp.retK (fun v22 H23 =>
  dBl v22 (fun b24 =>
  sB b24 (R (Ending.returned (Value.int IntKind.i64 n3)) H23) (wr IntKind.i64 (n3 + 1) (fun n25 =>
  (I1 ([Value.int IntKind.i64 n25]) H23) ∧
  (I2 [Value.int IntKind.i64 n25] H23) < (I2 [Value.int IntKind.i64 n3] H16))))) (pnR R))))))))) (R (Ending.returned (Value.int IntKind.i64 (-1))) H16)
theorem F149_eq (x0a : Option Addr) (x0n : Nat) (x0c : Nat) (x1g : Nat) (x1f : Array Value) (x1c : Array Value) (R : Ending → Heap → Prop) (H : Heap) : F149 x0a x0n x0c x1g x1f x1c R H = vc Tryz.prog (codeOf Tryz.f149) (.node none .leaf (.node none (.node none .leaf (.node none (.node (some ⟨[(8, 3)], [4, 5, 9, 10, 11, 12, 13, 14, 15, 16, 17, 18]⟩) .leaf .leaf) .leaf)) .leaf)) (postV Tryz.prog Tryz.f149 R) ⟨#[Value.slice x0a x0n x0c, Value.func (Fn.func x1g) x1f x1c] ++ Array.replicate (Tryz.f149.ntmps - 2) undef, []⟩ H := by kernel_rfl
theorem F149_calls {R : Ending → Heap → Prop} {H : Heap} (x0a : Option Addr) (x0n : Nat) (x0c : Nat) (x1g : Nat) (x1f : Array Value) (x1c : Array Value) (h : F149 x0a x0n x0c x1g x1f x1c R H) : HCalls Tryz.prog 149 #[Value.slice x0a x0n x0c, Value.func (Fn.func x1g) x1f x1c] H R :=
  calls_by (F := F149 x0a x0n x0c x1g x1f x1c R H) (.node none .leaf (.node none (.node none .leaf (.node none (.node (some ⟨[(8, 3)], [4, 5, 9, 10, 11, 12, 13, 14, 15, 16, 17, 18]⟩) .leaf .leaf) .leaf)) .leaf)) Tryz.func149 rfl (F149_eq x0a x0n x0c x1g x1f x1c R H) h
/-- (*bollard/disk.Disk).place$1 -/
def F150 (x0_0 : Value) (x0_1 : Value) (x0_2 : Value) (f0 : Addr) (R : Ending → Heap → Prop) (H : Heap) : Prop :=
  al H (Obj.cells #[x0_0, x0_1, x0_2] 96) (fun r1 H2 =>
  ld H2 (Addr.mk r1 0 none) (fun v3 =>
  dInt IntKind.i64 v3 (fun n4 =>
  ld H2 f0 (fun v5 =>
  dInt IntKind.i64 v5 (fun n6 =>
  R (Ending.returned (Value.bool (n4 == n6))) H2)))))
theorem F150_eq (x0_0 : Value) (x0_1 : Value) (x0_2 : Value) (f0 : Addr) (R : Ending → Heap → Prop) (H : Heap) : F150 x0_0 x0_1 x0_2 f0 R H = vc Tryz.prog (codeOf Tryz.f150) .leaf (postV Tryz.prog Tryz.f150 R) ⟨#[Value.agg #[x0_0, x0_1, x0_2], Value.pointer (some f0)] ++ Array.replicate (Tryz.f150.ntmps - 2) undef, []⟩ H := by kernel_rfl
theorem F150_calls {R : Ending → Heap → Prop} {H : Heap} (x0_0 : Value) (x0_1 : Value) (x0_2 : Value) (f0 : Addr) (h : F150 x0_0 x0_1 x0_2 f0 R H) : HCalls Tryz.prog 150 #[Value.agg #[x0_0, x0_1, x0_2], Value.pointer (some f0)] H R :=
  calls_by (F := F150 x0_0 x0_1 x0_2 f0 R H) .leaf Tryz.func150 rfl (F150_eq x0_0 x0_1 x0_2 f0 R H) h
/-- bollard/bits.many -/
def F151 (x0 : Int) (R : Ending → Heap → Prop) (H : Heap) : Prop :=
  semW Tryz.prog (Builtin.min_ #[3, 3] 3 #[Value.int IntKind.i64 x0, Value.int IntKind.i64 65536]) (pnR R) H (fun v3 H4 =>
  dInt IntKind.i64 v3 (fun n5 =>
  semW Tryz.prog (Builtin.max_ #[3, 3] 3 #[Value.int IntKind.i64 0, Value.int IntKind.i64 n5]) (pnR R) H4 (fun v8 H9 =>
  dInt IntKind.i64 v8 (fun n10 =>
  R (Ending.returned (Value.int IntKind.i64 n10)) H9))))
theorem F151_eq (x0 : Int) (R : Ending → Heap → Prop) (H : Heap) : F151 x0 R H = vc Tryz.prog (codeOf Tryz.f151) .leaf (postV Tryz.prog Tryz.f151 R) ⟨#[Value.int IntKind.i64 x0] ++ Array.replicate (Tryz.f151.ntmps - 1) undef, []⟩ H := by kernel_rfl
theorem F151_calls {R : Ending → Heap → Prop} {H : Heap} (x0 : Int) (h : F151 x0 R H) : HCalls Tryz.prog 151 #[Value.int IntKind.i64 x0] H R :=
  calls_by (F := F151 x0 R H) .leaf Tryz.func151 rfl (F151_eq x0 R H) h
/-- bollard/bits.Has -/
def F152 (x0a : Option Addr) (x0n : Nat) (x0c : Nat) (x1 : Int) (R : Ending → Heap → Prop) (H : Heap) : Prop :=
  sB (decide (x1 ≥ 0)) (ask ((8 : Int) ≠ (0 : Int)) (wr IntKind.i64 (Int.tdiv x1 8) (fun n1 =>
  sB (decide (n1 < (↑x0n : Int))) (ask ((8 : Int) ≠ (0 : Int)) (wr IntKind.i64 (Int.tdiv x1 8) (fun n2 =>
  nz x0a (fun a3 =>
  ask ((0 : Int) ≤ n2 ∧ n2 < (↑x0n : Int)) (ld H (Addr.add a3 (Int.toNat n2 * 1)) (fun v4 =>
  dInt IntKind.u8 v4 (fun n5 =>
  ask ((8 : Int) ≠ (0 : Int)) (nm (Int.tmod x1 8) (fun n6 =>
  ask ((0 : Int) ≤ n6) (nm (Int.fdiv n5 (2 ^ min (Int.toNat n6) 8)) (fun n7 =>
  nm (IntKind.wrap IntKind.u8 (↑(BitVec.toNat (BitVec.ofInt 8 n7 &&& BitVec.ofInt 8 1)) : Int)) (fun n8 =>
  R (Ending.returned (Value.bool (n8 == 1))) H)))))))))))) (R (Ending.returned (Value.bool false)) H)))) (R (Ending.returned (Value.bool false)) H)
theorem F152_eq (x0a : Option Addr) (x0n : Nat) (x0c : Nat) (x1 : Int) (R : Ending → Heap → Prop) (H : Heap) : F152 x0a x0n x0c x1 R H = vc Tryz.prog (codeOf Tryz.f152) .leaf (postV Tryz.prog Tryz.f152 R) ⟨#[Value.slice x0a x0n x0c, Value.int IntKind.i64 x1] ++ Array.replicate (Tryz.f152.ntmps - 2) undef, []⟩ H := by kernel_rfl
theorem F152_calls {R : Ending → Heap → Prop} {H : Heap} (x0a : Option Addr) (x0n : Nat) (x0c : Nat) (x1 : Int) (h : F152 x0a x0n x0c x1 R H) : HCalls Tryz.prog 152 #[Value.slice x0a x0n x0c, Value.int IntKind.i64 x1] H R :=
  calls_by (F := F152 x0a x0n x0c x1 R H) .leaf Tryz.func152 rfl (F152_eq x0a x0n x0c x1 R H) h
/-- bollard/disk.Of$1 -/
def F153 (x0a : Option Addr) (x0n : Nat) (x0c : Nat) (R : Ending → Heap → Prop) (H : Heap) : Prop :=
  R (Ending.returned (Value.bool ((↑x0n : Int) != 128))) H
theorem F153_eq (x0a : Option Addr) (x0n : Nat) (x0c : Nat) (R : Ending → Heap → Prop) (H : Heap) : F153 x0a x0n x0c R H = vc Tryz.prog (codeOf Tryz.f153) .leaf (postV Tryz.prog Tryz.f153 R) ⟨#[Value.slice x0a x0n x0c] ++ Array.replicate (Tryz.f153.ntmps - 1) undef, []⟩ H := by kernel_rfl
theorem F153_calls {R : Ending → Heap → Prop} {H : Heap} (x0a : Option Addr) (x0n : Nat) (x0c : Nat) (h : F153 x0a x0n x0c R H) : HCalls Tryz.prog 153 #[Value.slice x0a x0n x0c] H R :=
  calls_by (F := F153 x0a x0n x0c R H) .leaf Tryz.func153 rfl (F153_eq x0a x0n x0c R H) h
/-- slices.ContainsFunc[[][]byte,[]byte] -/
def F154 (x0a : Option Addr) (x0n : Nat) (x0c : Nat) (x1g : Nat) (x1f : Array Value) (x1c : Array Value) (R : Ending → Heap → Prop) (H : Heap) : Prop :=
  HCalls Tryz.prog 199 #[Value.slice x0a x0n x0c, Value.func (Fn.func x1g) x1f x1c] H (Sp.retK (fun v1 H2 =>
  dInt IntKind.i64 v1 (fun n3 =>
  R (Ending.returned (Value.bool (decide (n3 ≥ 0)))) H2)) (pnR R))
theorem F154_eq (x0a : Option Addr) (x0n : Nat) (x0c : Nat) (x1g : Nat) (x1f : Array Value) (x1c : Array Value) (R : Ending → Heap → Prop) (H : Heap) : F154 x0a x0n x0c x1g x1f x1c R H = vc Tryz.prog (codeOf Tryz.f154) .leaf (postV Tryz.prog Tryz.f154 R) ⟨#[Value.slice x0a x0n x0c, Value.func (Fn.func x1g) x1f x1c] ++ Array.replicate (Tryz.f154.ntmps - 2) undef, []⟩ H := by kernel_rfl
theorem F154_calls {R : Ending → Heap → Prop} {H : Heap} (x0a : Option Addr) (x0n : Nat) (x0c : Nat) (x1g : Nat) (x1f : Array Value) (x1c : Array Value) (h : F154 x0a x0n x0c x1g x1f x1c R H) : HCalls Tryz.prog 154 #[Value.slice x0a x0n x0c, Value.func (Fn.func x1g) x1f x1c] H R :=
  calls_by (F := F154 x0a x0n x0c x1g x1f x1c R H) .leaf Tryz.func154 rfl (F154_eq x0a x0n x0c x1g x1f x1c R H) h
/-- bytes.Repeat -/
def F155 (x0a : Option Addr) (x0n : Nat) (x0c : Nat) (x1 : Int) (R : Ending → Heap → Prop) (H : Heap) : Prop :=
  sB (x1 == 0) (al H (Obj.cells #[] 5) (fun r1 H2 =>
  R (Ending.returned (Value.slice (some (Addr.mk r1 0 none)) 0 0)) H2)) (jn (α := VFH 0) (fun H3 =>
  ∀ v4 v5 v6 : Value,
  wr IntKind.u64 ((↑x0n : Int)) (fun n7 =>
  wr IntKind.u64 x1 (fun n8 =>
  HCalls Tryz.prog 200 #[Value.int IntKind.u64 n7, Value.int IntKind.u64 n8] H3 (Sp.retK (fun v9 H10 =>
  dT 2 v9 (fun v11 v12 =>
  dInt IntKind.u64 v11 (fun n13 =>
  dInt IntKind.u64 v12 (fun n14 =>
  jn (α := VFH 0) (fun H15 =>
  ∀ v16 v17 v18 v19 v20 v21 v22 : Value,
  wr IntKind.i64 n14 (fun n23 =>
  sB ((↑x0n : Int) == 0) (al H15 (Obj.cells #[] 5) (fun r24 H25 =>
  R (Ending.returned (Value.slice (some (Addr.mk r24 0 none)) 0 0)) H25)) (jn (α := VFH 1) (fun v26 H27 =>
  ∀ v28 v29 v30 v31 v32 v33 v34 v35 v36 v37 v38 v39 : Value,
  dInt IntKind.i64 v26 (fun n40 =>
  semW Tryz.prog (entS 201 #[Value.int IntKind.i64 n23]) (pnR R) H27 (fun v43 H44 =>
  dSl v43 (fun p45 r46 r47 =>
  ask ((0 : Int) ≤ (0 : Int) ∧ (0 : Int) ≤ n23 ∧ n23 ≤ n23 ∧ n23 ≤ (↑r47 : Int)) (semW Tryz.prog (Builtin.copy_ #[38, 38] 3 #[Value.slice (slO p45 1 0 n23) (Int.toNat n23 - Int.toNat 0) (Int.toNat n23 - Int.toNat 0), Value.slice x0a x0n x0c]) (pnR R) H44 (fun v50 H51 =>
  dInt IntKind.i64 v50 (fun n52 =>
  ∃ I53 : List Value → Heap → Prop,
  ∃ I54 : List Value → Heap → Nat,
  (I53 ([Value.int IntKind.i64 n52]) H51) ∧
  ∀ n55 : Int,
  ∀ v56 v57 v58 v59 v60 v61 v62 v63 v64 v65 v66 v67 v68 v69 v70 v71 : Value,
  ∀ H72 : Heap,
  (I53 ([Value.int IntKind.i64 n55]) H72) →
  sB (decide (n55 < n23)) (semW Tryz.prog (Builtin.min_ #[3, 3] 3 #[Value.int IntKind.i64 n55, Value.int IntKind.i64 n40]) (pnR R) H72 (fun v76 H77 =>
  dInt IntKind.i64 v76 (fun n78 =>
  ask ((0 : Int) ≤ n55 ∧ n55 ≤ (↑(Int.toNat n23 - Int.toNat (0 : Int)) : Int) ∧ (↑(Int.toNat n23 - Int.toNat (0 : Int)) : Int) ≤ (↑(Int.toNat n23 - Int.toNat (0 : Int)) : Int) ∧ (↑(Int.toNat n23 - Int.toNat (0 : Int)) : Int) ≤ (↑(Int.toNat n23 - Int.toNat (0 : Int)) : Int)) (ask ((0 : Int) ≤ (0 : Int) ∧ (0 : Int) ≤ n78 ∧ n78 ≤ (↑(Int.toNat n23 - Int.toNat (0 : Int)) : Int) ∧ (↑(Int.toNat n23 - Int.toNat (0 : Int)) : Int) ≤ (↑(Int.toNat n23 - Int.toNat (0 : Int)) : Int)) (semW Tryz.prog (Builtin.copy_ #[38, 38] 3 #[Value.slice (slO (slO p45 1 0 n23) 1 n55 (↑(Int.toNat n23 - Int.toNat 0) : Int)) (Int.toNat (↑(Int.toNat n23 - Int.toNat 0) : Int) - Int.toNat n55) (Int.toNat (↑(Int.toNat n23 - Int.toNat 0) : Int) - Int.toNat n55), Value.slice (slO (slO p45 1 0 n23) 1 0 (↑(Int.toNat n23 - Int.toNat 0) : Int)) (Int.toNat n78 - Int.toNat 0) (Int.toNat (↑(Int.toNat n23 - Int.toNat 0) : Int) - Int.toNat 0)]) nopR H77 (fun v81 H82 =>
  dInt IntKind.i64 v81 (fun n83 =>
  wr IntKind.i64 (n55 + n83) (fun n84 =>
  (I53 ([Value.int IntKind.i64 n84]) H82) ∧
  (I54 [Value.int IntKind.i64 n84] H82) < (I54 [Value.int IntKind.i64 n55] H72))))))))) (R (Ending.returned (Value.slice (slO p45 1 0 n23) (Int.toNat n23 - Int.toNat 0) (Int.toNat n23 - Int.toNat 0))) H72)))))))) (fun k85 =>
  sB (decide (n23 > 8192)) (ask ((↑x0n : Int) ≠ (0 : Int)) (wr IntKind.i64 (Int.tdiv 8192 (↑x0n : Int)) (fun n86 =>
  wr IntKind.i64 (n86 * (↑x0n : Int)) (fun n87 =>
  sB (n87 == 0) (k85 (Value.int IntKind.i64 (↑x0n : Int)) H15) (k85 (Value.int IntKind.i64 n87) H15))))) (k85 (Value.int IntKind.i64 n23) H15))))) (fun k88 =>
  jn (α := VFH 1) (fun v89 H90 =>
  ∀ v91 v92 v93 v94 v95 : Value,
  dBl v89 (fun b96 =>
  sB b96 (R (Ending.panicked [PanicEntry.mk (Value.iface 9 (Value.string (ByteArray.mk #[UInt8.ofBitVec 98#8, UInt8.ofBitVec 121#8, UInt8.ofBitVec 116#8, UInt8.ofBitVec 101#8, UInt8.ofBitVec 115#8, UInt8.ofBitVec 58#8, UInt8.ofBitVec 32#8, UInt8.ofBitVec 82#8, UInt8.ofBitVec 101#8, UInt8.ofBitVec 112#8, UInt8.ofBitVec 101#8, UInt8.ofBitVec 97#8, UInt8.ofBitVec 116#8, UInt8.ofBitVec 32#8, UInt8.ofBitVec 111#8, UInt8.ofBitVec 117#8, UInt8.ofBitVec 116#8, UInt8.ofBitVec 112#8, UInt8.ofBitVec 117#8, UInt8.ofBitVec 116#8, UInt8.ofBitVec 32#8, UInt8.ofBitVec 108#8, UInt8.ofBitVec 101#8, UInt8.ofBitVec 110#8, UInt8.ofBitVec 103#8, UInt8.ofBitVec 116#8, UInt8.ofBitVec 104#8, UInt8.ofBitVec 32#8, UInt8.ofBitVec 111#8, UInt8.ofBitVec 118#8, UInt8.ofBitVec 101#8, UInt8.ofBitVec 114#8, UInt8.ofBitVec 102#8, UInt8.ofBitVec 108#8, UInt8.ofBitVec 111#8, UInt8.ofBitVec 119#8]))) false false]) H90) (k88 H90))) (fun k97 =>
  sB (decide (n13 > 0)) (k97 (Value.bool true) H10) (k97 (Value.bool (decide (n14 > 9223372036854775807))) H10))))))) (pnR R))))) (fun k100 =>
  sB (decide (x1 < 0)) (R (Ending.panicked [PanicEntry.mk (Value.iface 9 (Value.string (ByteArray.mk #[UInt8.ofBitVec 98#8, UInt8.ofBitVec 121#8, UInt8.ofBitVec 116#8, UInt8.ofBitVec 101#8, UInt8.ofBitVec 115#8, UInt8.ofBitVec 58#8, UInt8.ofBitVec 32#8, UInt8.ofBitVec 110#8, UInt8.ofBitVec 101#8, UInt8.ofBitVec 103#8, UInt8.ofBitVec 97#8, UInt8.ofBitVec 116#8, UInt8.ofBitVec 105#8, UInt8.ofBitVec 118#8, UInt8.ofBitVec 101#8, UInt8.ofBitVec 32#8, UInt8.ofBitVec 82#8, UInt8.ofBitVec 101#8, UInt8.ofBitVec 112#8, UInt8.ofBitVec 101#8, UInt8.ofBitVec 97#8, UInt8.ofBitVec 116#8, UInt8.ofBitVec 32#8, UInt8.ofBitVec 99#8, UInt8.ofBitVec 111#8, UInt8.ofBitVec 117#8, UInt8.ofBitVec 110#8, UInt8.ofBitVec 116#8]))) false false]) H) (k100 H)))
theorem F155_eq (x0a : Option Addr) (x0n : Nat) (x0c : Nat) (x1 : Int) (R : Ending → Heap → Prop) (H : Heap) : F155 x0a x0n x0c x1 R H = vc Tryz.prog (codeOf Tryz.f155) (.node none .leaf (.node none .leaf (.node (some ⟨[], [15, 16, 17]⟩) .leaf (.node none .leaf (.node (some ⟨[], [27, 28, 29, 30, 31, 32, 33]⟩) (.node (some ⟨[(32, 4)], [27, 28, 29, 30, 31]⟩) .leaf .leaf) (.node none .leaf (.node none .leaf (.node none .leaf (.node (some ⟨[(8, 3)], [41, 42, 43, 44, 45, 46, 47, 48, 49, 50, 51, 52]⟩) .leaf (.node none .leaf (.node none .leaf (.node none (.node none (.node (some ⟨[(10, 3)], [11, 61, 62, 63, 64, 65, 66, 67, 68, 69, 70, 71, 72, 73, 74, 75]⟩) .leaf .leaf) .leaf) .leaf)))))))))))) (postV Tryz.prog Tryz.f155 R) ⟨#[Value.slice x0a x0n x0c, Value.int IntKind.i64 x1] ++ Array.replicate (Tryz.f155.ntmps - 2) undef, []⟩ H := by kernel_rfl
theorem F155_calls {R : Ending → Heap → Prop} {H : Heap} (x0a : Option Addr) (x0n : Nat) (x0c : Nat) (x1 : Int) (h : F155 x0a x0n x0c x1 R H) : HCalls Tryz.prog 155 #[Value.slice x0a x0n x0c, Value.int IntKind.i64 x1] H R :=
  calls_by (F := F155 x0a x0n x0c x1 R H) (.node none .leaf (.node none .leaf (.node (some ⟨[], [15, 16, 17]⟩) .leaf (.node none .leaf (.node (some ⟨[], [27, 28, 29, 30, 31, 32, 33]⟩) (.node (some ⟨[(32, 4)], [27, 28, 29, 30, 31]⟩) .leaf .leaf) (.node none .leaf (.node none .leaf (.node none .leaf (.node (some ⟨[(8, 3)], [41, 42, 43, 44, 45, 46, 47, 48, 49, 50, 51, 52]⟩) .leaf (.node none .leaf (.node none .leaf (.node none (.node none (.node (some ⟨[(10, 3)], [11, 61, 62, 63, 64, 65, 66, 67, 68, 69, 70, 71, 72, 73, 74, 75]⟩) .leaf .leaf) .leaf) .leaf)))))))))))) Tryz.func155 rfl (F155_eq x0a x0n x0c x1 R H) h
end Go.Proofs.YtngploohhmfaiaaGreat.E
