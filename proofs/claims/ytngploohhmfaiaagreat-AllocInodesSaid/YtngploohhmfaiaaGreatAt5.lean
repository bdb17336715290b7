/- My own texts, joined. -/
import Derived.Deep.QuietTactic
import Derived.KernelRfl
import Derived.Maps.Own
import Derived.Shelf.SlIterI.Nil
import Derived.Shelf.SlLaysF
import Derived.Shelf.SlSortCmp.NoneTotal
import Derived.Test.YtngploohhmfaiaaGreatProg
import Derived.WalkKit
import Derived.Test.YtngploohhmfaiaaGreatAt4
/- The functions' forms in the engine's words, printed by my own program. -/
namespace Go.Proofs.YtngploohhmfaiaaGreat.E
open Go Go.Proofs
set_option linter.unusedVariables false
/-- bollard/patch.overlap -/
def F132 (x0_0 : Value) (x0_1 : Value) (x0_2 : Value) (x0_3 : Value) (x0_4 : Value) (x1_0 : Value) (x1_1 : Value) (x1_2 : Value) (x1_3 : Value) (x1_4 : Value) (R : Ending → Heap → Prop) (H : Heap) : Prop :=
  al H (Obj.cells #[x0_0, x0_1, x0_2, x0_3, x0_4] 194) (fun r1 H2 =>
  al H2 (Obj.cells #[x1_0, x1_1, x1_2, x1_3, x1_4] 194) (fun r3 H4 =>
  ld H4 (Addr.mk r1 1 none) (fun v5 =>
  dInt IntKind.i64 v5 (fun n6 =>
  ld H4 (Addr.mk r3 1 none) (fun v7 =>
  dInt IntKind.i64 v7 (fun n8 =>
  sB (n6 == n8) (ld H4 (Addr.mk r1 2 none) (fun v9 =>
  dInt IntKind.i64 v9 (fun n10 =>
  ld H4 (Addr.mk r3 2 none) (fun v11 =>
  dInt IntKind.i64 v11 (fun n12 =>
  ld H4 (Addr.mk r3 3 none) (fun v13 =>
  dSl v13 (fun p14 r15 r16 =>
  wr IntKind.i64 (n12 + (↑r15 : Int)) (fun n17 =>
  sB (decide (n10 < n17)) (ld H4 (Addr.mk r3 2 none) (fun v18 =>
  dInt IntKind.i64 v18 (fun n19 =>
  ld H4 (Addr.mk r1 2 none) (fun v20 =>
  dInt IntKind.i64 v20 (fun n21 =>
  ld H4 (Addr.mk r1 3 none) (fun v22 =>
  dSl v22 (fun p23 r24 r25 =>
  wr IntKind.i64 (n21 + (↑r24 : Int)) (fun n26 =>
  R (Ending.returned (Value.bool (decide (n19 < n26)))) H4)))))))) (R (Ending.returned (Value.bool false)) H4))))))))) (R (Ending.returned (Value.bool false)) H4)))))))
theorem F132_eq (x0_0 : Value) (x0_1 : Value) (x0_2 : Value) (x0_3 : Value) (x0_4 : Value) (x1_0 : Value) (x1_1 : Value) (x1_2 : Value) (x1_3 : Value) (x1_4 : Value) (R : Ending → Heap → Prop) (H : Heap) : F132 x0_0 x0_1 x0_2 x0_3 x0_4 x1_0 x1_1 x1_2 x1_3 x1_4 R H = vc Tryz.prog (codeOf Tryz.f132) .leaf (postV Tryz.prog Tryz.f132 R) ⟨#[Value.agg #[x0_0, x0_1, x0_2, x0_3, x0_4], Value.agg #[x1_0, x1_1, x1_2, x1_3, x1_4]] ++ Array.replicate (Tryz.f132.ntmps - 2) undef, []⟩ H := by kernel_rfl
theorem F132_calls {R : Ending → Heap → Prop} {H : Heap} (x0_0 : Value) (x0_1 : Value) (x0_2 : Value) (x0_3 : Value) (x0_4 : Value) (x1_0 : Value) (x1_1 : Value) (x1_2 : Value) (x1_3 : Value) (x1_4 : Value) (h : F132 x0_0 x0_1 x0_2 x0_3 x0_4 x1_0 x1_1 x1_2 x1_3 x1_4 R H) : HCalls Tryz.prog 132 #[Value.agg #[x0_0, x0_1, x0_2, x0_3, x0_4], Value.agg #[x1_0, x1_1, x1_2, x1_3, x1_4]] H R :=
  calls_by (F := F132 x0_0 x0_1 x0_2 x0_3 x0_4 x1_0 x1_1 x1_2 x1_3 x1_4 R H) .leaf Tryz.func132 rfl (F132_eq x0_0 x0_1 x0_2 x0_3 x0_4 x1_0 x1_1 x1_2 x1_3 x1_4 R H) h
/-- (*bollard/patch.Set).pending -/
def F133 (x0 : Option Addr) (x1a : Option Addr) (x1n : Nat) (x1c : Nat) (R : Ending → Heap → Prop) (H : Heap) : Prop :=
  ∃ I1 : List Value → Heap → Prop,
  ∃ I2 : List Value → Heap → Nat,
  (I1 ([Value.slice none 0 0, Value.int IntKind.i64 0]) H) ∧
  ∀ p3 : Option Addr,
  ∀ r4 : Nat,
  ∀ r5 : Nat,
  ∀ n6 : Int,
  ∀ v7 v8 v9 v10 v11 v12 v13 v14 v15 v16 v17 v18 v19 v20 v21 v22 v23 v24 v25 v26 v27 : Value,
  ∀ H28 : Heap,
  (I1 ([Value.slice p3 r4 r5, Value.int IntKind.i64 n6]) H28) →
  sB (decide (n6 < (↑x1n : Int))) (jn (α := VFH 1) (fun v30 H31 =>
  ∀ v32 v33 v34 v35 v36 v37 v38 v39 v40 v41 v42 v43 v44 v45 v46 v47 v48 v49 v50 : Value,
  dSl v30 (fun p51 r52 r53 =>
  wr IntKind.i64 (n6 + 1) (fun n54 =>
  (I1 ([Value.slice p51 r52 r53, Value.int IntKind.i64 n54]) H31) ∧
  (I2 [Value.slice p51 r52 r53, Value.int IntKind.i64 n54] H31) < (I2 [Value.slice p3 r4 r5, Value.int IntKind.i64 n6] H28)))) (fun k55 =>
  nz x1a (fun a56 =>
  ask ((0 : Int) ≤ n6 ∧ n6 < (↑x1n : Int)) (ld H28 (Addr.add a56 (Int.toNat n6 * 1)) (fun v57 =>
  dInt IntKind.i64 v57 (fun n58 =>
  nz x0 (fun a59 =>
  ld H28 (Addr.add a59 2) (fun v60 =>
  dMap v60 (fun p61 =>
  semW Tryz.prog (Instr.lookup 190 (Value.map p61) (Value.int IntKind.i64 n58) true) (pnR R) H28 (fun v64 H65 =>
  dT 2 v64 (fun v66 v67 =>
  dA 5 v66 (fun v68 v69 v70 v71 v72 =>
  dBl v67 (fun b73 =>
  al H65 (Obj.cells #[Value.int IntKind.i64 0, Value.int IntKind.i64 0, Value.int IntKind.i64 0, Value.slice none 0 0, Value.slice none 0 0] 194) (fun r74 H75 =>
  st H75 (Addr.mk r74 0 none) v68 (fun H76 =>
  st H76 (Addr.mk r74 1 none) v69 (fun H77 =>
  st H77 (Addr.mk r74 2 none) v70 (fun H78 =>
  st H78 (Addr.mk r74 3 none) v71 (fun H79 =>
  st H79 (Addr.mk r74 4 none) v72 (fun H80 =>
  sB b73 (al H80 (Obj.cells #[Value.int IntKind.i64 n58] 3) (fun r81 H82 =>
  semW Tryz.prog (Builtin.append_ #[73, 73] 73 #[Value.slice p3 r4 r5, Value.slice (some (Addr.mk r81 0 none)) 1 1]) (pnR R) H82 (fun v85 H86 =>
  dSl v85 (fun p87 r88 r89 =>
  k55 (Value.slice p87 r88 r89) H86)))) (k55 (Value.slice p3 r4 r5) H80)))))))))))))))))))) (HCalls Tryz.prog 156 #[Value.slice p3 r4 r5] H28 (Sp.retK (fun v90 H91 =>
  HCalls Tryz.prog 157 #[Value.slice p3 r4 r5] H91 (Sp.retK (fun v92 H93 =>
  dSl v92 (fun p94 r95 r96 =>
  R (Ending.returned (Value.slice p94 r95 r96)) H93)) (pnR R))) (pnR R)))
theorem F133_eq (x0 : Option Addr) (x1a : Option Addr) (x1n : Nat) (x1c : Nat) (R : Ending → Heap → Prop) (H : Heap) : F133 x0 x1a x1n x1c R H = vc Tryz.prog (codeOf Tryz.f133) (.node none .leaf (.node none .leaf (.node none (.node none .leaf (.node none (.node (some ⟨[(5, 73), (12, 3)], [7, 8, 9, 13, 14, 15, 16, 17, 18, 19, 20, 21, 22, 23, 24, 25, 26, 27, 28, 29, 30]⟩) (.node none .leaf (.node none .leaf (.node (some ⟨[(5, 73)], [7, 8, 9, 14, 15, 16, 17, 18, 19, 20, 21, 22, 23, 24, 25, 26, 27, 28, 29]⟩) .leaf .leaf))) .leaf) .leaf)) .leaf))) (postV Tryz.prog Tryz.f133 R) ⟨#[Value.pointer x0, Value.slice x1a x1n x1c] ++ Array.replicate (Tryz.f133.ntmps - 2) undef, []⟩ H := by kernel_rfl
theorem F133_calls {R : Ending → Heap → Prop} {H : Heap} (x0 : Option Addr) (x1a : Option Addr) (x1n : Nat) (x1c : Nat) (h : F133 x0 x1a x1n x1c R H) : HCalls Tryz.prog 133 #[Value.pointer x0, Value.slice x1a x1n x1c] H R :=
  calls_by (F := F133 x0 x1a x1n x1c R H) (.node none .leaf (.node none .leaf (.node none (.node none .leaf (.node none (.node (some ⟨[(5, 73), (12, 3)], [7, 8, 9, 13, 14, 15, 16, 17, 18, 19, 20, 21, 22, 23, 24, 25, 26, 27, 28, 29, 30]⟩) (.node none .leaf (.node none .leaf (.node (some ⟨[(5, 73)], [7, 8, 9, 14, 15, 16, 17, 18, 19, 20, 21, 22, 23, 24, 25, 26, 27, 28, 29]⟩) .leaf .leaf))) .leaf) .leaf)) .leaf))) Tryz.func133 rfl (F133_eq x0 x1a x1n x1c R H) h
/-- bollard/geom.Header -/
def F134 (x0_0 : Value) (x0_1 : Value) (x0_2 : Value) (x1 : Int) (R : Ending → Heap → Prop) (H : Heap) : Prop :=
  al H (Obj.cells #[x0_0, x0_1, x0_2] 32) (fun r1 H2 =>
  ld H2 (Addr.mk r1 0 none) (fun v3 =>
  ld H2 (Addr.mk r1 1 none) (fun v4 =>
  ld H2 (Addr.mk r1 2 none) (fun v5 =>
  HCalls Tryz.prog 136 #[Value.agg #[v3, v4, v5], Value.int IntKind.i64 x1, Value.int IntKind.i64 1] H2 (Sp.retK (fun v6 H7 =>
  dT 2 v6 (fun v8 v9 =>
  dInt IntKind.i64 v8 (fun n10 =>
  dBl v9 (fun b11 =>
  R (Ending.returned (Value.tuple #[Value.int IntKind.i64 n10, Value.bool b11])) H7)))) (pnR R))))))
theorem F134_eq (x0_0 : Value) (x0_1 : Value) (x0_2 : Value) (x1 : Int) (R : Ending → Heap → Prop) (H : Heap) : F134 x0_0 x0_1 x0_2 x1 R H = vc Tryz.prog (codeOf Tryz.f134) .leaf (postV Tryz.prog Tryz.f134 R) ⟨#[Value.agg #[x0_0, x0_1, x0_2], Value.int IntKind.i64 x1] ++ Array.replicate (Tryz.f134.ntmps - 2) undef, []⟩ H := by kernel_rfl
theorem F134_calls {R : Ending → Heap → Prop} {H : Heap} (x0_0 : Value) (x0_1 : Value) (x0_2 : Value) (x1 : Int) (h : F134 x0_0 x0_1 x0_2 x1 R H) : HCalls Tryz.prog 134 #[Value.agg #[x0_0, x0_1, x0_2], Value.int IntKind.i64 x1] H R :=
  calls_by (F := F134 x0_0 x0_1 x0_2 x1 R H) .leaf Tryz.func134 rfl (F134_eq x0_0 x0_1 x0_2 x1 R H) h
/-- bollard/geom.at -/
def F136 (x0_0 : Value) (x0_1 : Value) (x0_2 : Value) (x1 : Int) (x2 : Int) (R : Ending → Heap → Prop) (H : Heap) : Prop :=
  al H (Obj.cells #[x0_0, x0_1, x0_2] 32) (fun r1 H2 =>
  jn (α := VFH 1) (fun v3 H4 =>
  ∀ v5 v6 v7 v8 v9 v10 v11 v12 v13 v14 : Value,
  dBl v3 (fun b15 =>
  sB b15 (R (Ending.returned (Value.tuple #[Value.int IntKind.i64 0, Value.bool false])) H4) (ld H4 (Addr.mk r1 1 none) (fun v16 =>
  dInt IntKind.i64 v16 (fun n17 =>
  wr IntKind.i64 (x1 * n17) (fun n18 =>
  wr IntKind.i64 (n18 + x2) (fun n19 =>
  R (Ending.returned (Value.tuple #[Value.int IntKind.i64 n19, Value.bool true])) H4))))))) (fun k20 =>
  ld H2 (Addr.mk r1 0 none) (fun v21 =>
  ld H2 (Addr.mk r1 1 none) (fun v22 =>
  ld H2 (Addr.mk r1 2 none) (fun v23 =>
  HCalls Tryz.prog 65 #[Value.agg #[v21, v22, v23]] H2 (Sp.retK (fun v24 H25 =>
  dInt IntKind.i64 v24 (fun n26 =>
  sB (n26 != 0) (k20 (Value.bool true) H25) (ld H25 (Addr.mk r1 0 none) (fun v27 =>
  dInt IntKind.i64 v27 (fun n28 =>
  wr IntKind.i64 (n28 - 1) (fun n29 =>
  HCalls Tryz.prog 115 #[Value.int IntKind.i64 x1, Value.int IntKind.i64 0, Value.int IntKind.i64 n29] H25 (Sp.retK (fun v30 H31 =>
  dBl v30 (fun b32 =>
  k20 (Value.bool !b32) H31)) (pnR R)))))))) (pnR R)))))))
theorem F136_eq (x0_0 : Value) (x0_1 : Value) (x0_2 : Value) (x1 : Int) (x2 : Int) (R : Ending → Heap → Prop) (H : Heap) : F136 x0_0 x0_1 x0_2 x1 x2 R H = vc Tryz.prog (codeOf Tryz.f136) (.node none .leaf (.node none (.node (some ⟨[(18, 4)], [8, 9, 10, 11, 12, 13, 14, 15, 16, 17]⟩) .leaf .leaf) .leaf)) (postV Tryz.prog Tryz.f136 R) ⟨#[Value.agg #[x0_0, x0_1, x0_2], Value.int IntKind.i64 x1, Value.int IntKind.i64 x2] ++ Array.replicate (Tryz.f136.ntmps - 3) undef, []⟩ H := by kernel_rfl
theorem F136_calls {R : Ending → Heap → Prop} {H : Heap} (x0_0 : Value) (x0_1 : Value) (x0_2 : Value) (x1 : Int) (x2 : Int) (h : F136 x0_0 x0_1 x0_2 x1 x2 R H) : HCalls Tryz.prog 136 #[Value.agg #[x0_0, x0_1, x0_2], Value.int IntKind.i64 x1, Value.int IntKind.i64 x2] H R :=
  calls_by (F := F136 x0_0 x0_1 x0_2 x1 x2 R H) (.node none .leaf (.node none (.node (some ⟨[(18, 4)], [8, 9, 10, 11, 12, 13, 14, 15, 16, 17]⟩) .leaf .leaf) .leaf)) Tryz.func136 rfl (F136_eq x0_0 x0_1 x0_2 x1 x2 R H) h
/-- bollard/geom.split -/
def F137 (x0 : Int) (x1 : Int) (x2 : Int) (R : Ending → Heap → Prop) (H : Heap) : Prop :=
  wr IntKind.i64 (x2 - 1) (fun n1 =>
  HCalls Tryz.prog 115 #[Value.int IntKind.i64 x0, Value.int IntKind.i64 0, Value.int IntKind.i64 n1] H (Sp.retK (fun v2 H3 =>
  dBl v2 (fun b4 =>
  sB (!b4) (R (Ending.returned (Value.tuple #[Value.int IntKind.i64 0, Value.int IntKind.i64 0, Value.bool false])) H3) (ask (x1 ≠ (0 : Int)) (wr IntKind.i64 (Int.tdiv x0 x1) (fun n5 =>
  ask (x1 ≠ (0 : Int)) (nm (Int.tmod x0 x1) (fun n6 =>
  R (Ending.returned (Value.tuple #[Value.int IntKind.i64 n5, Value.int IntKind.i64 n6, Value.bool true])) H3))))))) (pnR R)))
theorem F137_eq (x0 : Int) (x1 : Int) (x2 : Int) (R : Ending → Heap → Prop) (H : Heap) : F137 x0 x1 x2 R H = vc Tryz.prog (codeOf Tryz.f137) .leaf (postV Tryz.prog Tryz.f137 R) ⟨#[Value.int IntKind.i64 x0, Value.int IntKind.i64 x1, Value.int IntKind.i64 x2] ++ Array.replicate (Tryz.f137.ntmps - 3) undef, []⟩ H := by kernel_rfl
theorem F137_calls {R : Ending → Heap → Prop} {H : Heap} (x0 : Int) (x1 : Int) (x2 : Int) (h : F137 x0 x1 x2 R H) : HCalls Tryz.prog 137 #[Value.int IntKind.i64 x0, Value.int IntKind.i64 x1, Value.int IntKind.i64 x2] H R :=
  calls_by (F := F137 x0 x1 x2 R H) .leaf Tryz.func137 rfl (F137_eq x0 x1 x2 R H) h
/-- bollard/bits.First -/
def F138 (x0a : Option Addr) (x0n : Nat) (x0c : Nat) (x1 : Int) (x2 : Int) (R : Ending → Heap → Prop) (H : Heap) : Prop :=
  HCalls Tryz.prog 151 #[Value.int IntKind.i64 x1] H (Sp.retK (fun v1 H2 =>
  dInt IntKind.i64 v1 (fun n3 =>
  jn (α := VFH 1) (fun v4 H5 =>
  ∀ v6 v7 v8 v9 v10 v11 v12 : Value,
  dInt IntKind.i64 v4 (fun n13 =>
  ∃ I14 : List Value → Heap → Prop,
  ∃ I15 : List Value → Heap → Nat,
  (I14 ([Value.int IntKind.i64 0]) H5) ∧
  ∀ n16 : Int,
  ∀ v17 v18 v19 v20 v21 v22 v23 v24 v25 v26 v27 v28 v29 v30 v31 v32 v33 v34 v35 v36 v37 : Value,
  ∀ H38 : Heap,
  (I14 ([Value.int IntKind.i64 n16]) H38) →
  sB (decide (n16 < n3)) (wr IntKind.i64 (n13 + n16) (fun n40 =>
  jn (α := VFH 1) (fun v41 H42 =>
  ∀ v43 v44 v45 v46 v47 v48 : Value,
  dInt IntKind.i64 v41 (fun n49 =>
  HCalls Tryz.prog 152 #[Value.slice x0a x0n x0c, Value.int IntKind.i64 n49] H42 (Sp.retK (fun v50 H51 =>
  dBl v50 (fun b52 =>
  sB (!b52) (R (Ending.returned (Value.tuple #[Value.int IntKind.i64 n49, Value.bool true])) H51) (wr IntKind.i64 (n16 + 1) (fun n53 =>
  (I14 ([Value.int IntKind.i64 n53]) H51) ∧
  (I15 [Value.int IntKind.i64 n53] H51) < (I15 [Value.int IntKind.i64 n16] H38))))) (pnR R)))) (fun k56 =>
  sB (decide (n40 ≥ n3)) (wr IntKind.i64 (n40 - n3) (fun n57 =>
  k56 (Value.int IntKind.i64 n57) H38)) (k56 (Value.int IntKind.i64 n40) H38)))) (R (Ending.returned (Value.tuple #[Value.int IntKind.i64 0, Value.bool false])) H38))) (fun k58 =>
  jn (α := VFH 1) (fun v59 H60 =>
  ∀ v61 v62 v63 v64 v65 v66 : Value,
  dBl v59 (fun b67 =>
  sB b67 (k58 (Value.int IntKind.i64 0) H60) (k58 (Value.int IntKind.i64 x2) H60))) (fun k68 =>
  sB (decide (x2 < 0)) (k68 (Value.bool true) H2) (k68 (Value.bool (decide (x2 ≥ n3))) H2))))) (pnR R))
theorem F138_eq (x0a : Option Addr) (x0n : Nat) (x0c : Nat) (x1 : Int) (x2 : Int) (R : Ending → Heap → Prop) (H : Heap) : F138 x0a x0n x0c x1 x2 R H = vc Tryz.prog (codeOf Tryz.f138) (.node none .leaf (.node none .leaf (.node (some ⟨[(2, 3)], [12, 13, 14, 15, 16, 17, 18]⟩) (.node (some ⟨[(18, 4)], [12, 13, 14, 15, 16, 17]⟩) .leaf .leaf) (.node none (.node none .leaf (.node none (.node (some ⟨[(20, 3)], [6, 7, 8, 9, 21, 22, 23, 24, 25, 26, 27, 28, 29, 30, 31, 32, 33, 34, 35, 36, 37]⟩) (.node none .leaf (.node none .leaf (.node none (.node none (.node none .leaf (.node none .leaf (.node (some ⟨[(9, 3)], [26, 27, 28, 29, 30, 31]⟩) .leaf .leaf))) .leaf) .leaf))) .leaf) .leaf)) .leaf)))) (postV Tryz.prog Tryz.f138 R) ⟨#[Value.slice x0a x0n x0c, Value.int IntKind.i64 x1, Value.int IntKind.i64 x2] ++ Array.replicate (Tryz.f138.ntmps - 3) undef, []⟩ H := by kernel_rfl
theorem F138_calls {R : Ending → Heap → Prop} {H : Heap} (x0a : Option Addr) (x0n : Nat) (x0c : Nat) (x1 : Int) (x2 : Int) (h : F138 x0a x0n x0c x1 x2 R H) : HCalls Tryz.prog 138 #[Value.slice x0a x0n x0c, Value.int IntKind.i64 x1, Value.int IntKind.i64 x2] H R :=
  calls_by (F := F138 x0a x0n x0c x1 x2 R H) (.node none .leaf (.node none .leaf (.node (some ⟨[(2, 3)], [12, 13, 14, 15, 16, 17, 18]⟩) (.node (some ⟨[(18, 4)], [12, 13, 14, 15, 16, 17]⟩) .leaf .leaf) (.node none (.node none .leaf (.node none (.node (some ⟨[(20, 3)], [6, 7, 8, 9, 21, 22, 23, 24, 25, 26, 27, 28, 29, 30, 31, 32, 33, 34, 35, 36, 37]⟩) (.node none .leaf (.node none .leaf (.node none (.node none (.node none .leaf (.node none .leaf (.node (some ⟨[(9, 3)], [26, 27, 28, 29, 30, 31]⟩) .leaf .leaf))) .leaf) .leaf))) .leaf) .leaf)) .leaf)))) Tryz.func138 rfl (F138_eq x0a x0n x0c x1 x2 R H) h
/-- bollard/bits.With -/
def F139 (x0a : Option Addr) (x0n : Nat) (x0c : Nat) (x1 : Int) (x2 : Bool) (R : Ending → Heap → Prop) (H : Heap) : Prop :=
  jn (α := VFH 1) (fun v1 H2 =>
  ∀ v3 v4 v5 v6 v7 v8 v9 v10 : Value,
  dBl v1 (fun b11 =>
  sB b11 (R (Ending.returned (Value.tuple #[Value.slice none 0 0, Value.int IntKind.i64 50])) H2) (semW Tryz.prog (Builtin.append_ #[38, 38] 38 #[Value.slice none 0 0, Value.slice x0a x0n x0c]) (pnR R) H2 (fun v14 H15 =>
  dSl v14 (fun p16 r17 r18 =>
  ask ((8 : Int) ≠ (0 : Int)) (wr IntKind.i64 (Int.tdiv x1 8) (fun n19 =>
  nz p16 (fun a20 =>
  ask ((0 : Int) ≤ n19 ∧ n19 < (↑r17 : Int)) (ld H15 (Addr.add a20 (Int.toNat n19 * 1)) (fun v21 =>
  dInt IntKind.u8 v21 (fun n22 =>
  ask ((8 : Int) ≠ (0 : Int)) (nm (Int.tmod x1 8) (fun n23 =>
  ask ((0 : Int) ≤ n23) (nm (IntKind.wrap IntKind.u8 (1 * 2 ^ min (Int.toNat n23) 8)) (fun n24 =>
  nm (IntKind.wrap IntKind.u8 (↑(BitVec.toNat (BitVec.ofInt 8 n22 &&& ~~~BitVec.ofInt 8 n24)) : Int)) (fun n25 =>
  nz p16 (fun a26 =>
  ask ((0 : Int) ≤ n19 ∧ n19 < (↑r17 : Int)) (st H15 (Addr.add a26 (Int.toNat n19 * 1)) (Value.int IntKind.u8 n25) (fun H27 =>
  jn (α := VFH 0) (fun H28 =>
  ∀ v29 v30 v31 v32 v33 v34 v35 v36 v37 v38 v39 : Value,
  R (Ending.returned (Value.tuple #[Value.slice p16 r17 r18, Value.int IntKind.i64 0])) H28) (fun k40 =>
  sB x2 (ask ((8 : Int) ≠ (0 : Int)) (wr IntKind.i64 (Int.tdiv x1 8) (fun n41 =>
  nz p16 (fun a42 =>
  ask ((0 : Int) ≤ n41 ∧ n41 < (↑r17 : Int)) (ld H27 (Addr.add a42 (Int.toNat n41 * 1)) (fun v43 =>
  dInt IntKind.u8 v43 (fun n44 =>
  ask ((8 : Int) ≠ (0 : Int)) (nm (Int.tmod x1 8) (fun n45 =>
  ask ((0 : Int) ≤ n45) (nm (IntKind.wrap IntKind.u8 (1 * 2 ^ min (Int.toNat n45) 8)) (fun n46 =>
  nm (IntKind.wrap IntKind.u8 (↑(BitVec.toNat (BitVec.ofInt 8 n44 ||| BitVec.ofInt 8 n46)) : Int)) (fun n47 =>
  nz p16 (fun a48 =>
  ask ((0 : Int) ≤ n41 ∧ n41 < (↑r17 : Int)) (st H27 (Addr.add a48 (Int.toNat n41 * 1)) (Value.int IntKind.u8 n47) (fun H49 =>
  k40 H49))))))))))))))) (k40 H27))))))))))))))))))))) (fun k50 =>
  sB (decide (x1 < 0)) (k50 (Value.bool true) H) (ask ((8 : Int) ≠ (0 : Int)) (wr IntKind.i64 (Int.tdiv x1 8) (fun n51 =>
  k50 (Value.bool (decide (n51 ≥ (↑x0n : Int)))) H))))
theorem F139_eq (x0a : Option Addr) (x0n : Nat) (x0c : Nat) (x1 : Int) (x2 : Bool) (R : Ending → Heap → Prop) (H : Heap) : F139 x0a x0n x0c x1 x2 R H = vc Tryz.prog (codeOf Tryz.f139) (.node none .leaf (.node none (.node (some ⟨[(17, 4)], [9, 10, 11, 12, 13, 14, 15, 16]⟩) .leaf .leaf) (.node none .leaf (.node none .leaf (.node (some ⟨[], [30, 31, 32, 33, 34, 35, 36, 37, 38, 39, 40]⟩) .leaf .leaf))))) (postV Tryz.prog Tryz.f139 R) ⟨#[Value.slice x0a x0n x0c, Value.int IntKind.i64 x1, Value.bool x2] ++ Array.replicate (Tryz.f139.ntmps - 3) undef, []⟩ H := by kernel_rfl
theorem F139_calls {R : Ending → Heap → Prop} {H : Heap} (x0a : Option Addr) (x0n : Nat) (x0c : Nat) (x1 : Int) (x2 : Bool) (h : F139 x0a x0n x0c x1 x2 R H) : HCalls Tryz.prog 139 #[Value.slice x0a x0n x0c, Value.int IntKind.i64 x1, Value.bool x2] H R :=
  calls_by (F := F139 x0a x0n x0c x1 x2 R H) (.node none .leaf (.node none (.node (some ⟨[(17, 4)], [9, 10, 11, 12, 13, 14, 15, 16]⟩) .leaf .leaf) (.node none .leaf (.node none .leaf (.node (some ⟨[], [30, 31, 32, 33, 34, 35, 36, 37, 38, 39, 40]⟩) .leaf .leaf))))) Tryz.func139 rfl (F139_eq x0a x0n x0c x1 x2 R H) h
/-- slices.DeleteFunc[[]int,int] -/
def F140 (x0a : Option Addr) (x0n : Nat) (x0c : Nat) (x1g : Nat) (x1f : Array Value) (x1c : Array Value) (R : Ending → Heap → Prop) (H : Heap) : Prop :=
  HCalls Tryz.prog 148 #[Value.slice x0a x0n x0c, Value.func (Fn.func x1g) x1f x1c] H (Sp.retK (fun v1 H2 =>
  dInt IntKind.i64 v1 (fun n3 =>
  sB (n3 == -1) (R (Ending.returned (Value.slice x0a x0n x0c)) H2) (wr IntKind.i64 (n3 + 1) (fun n4 =>
  ∃ I5 : List Value → Heap → Prop,
  ∃ I6 : List Value → Heap → Nat,
  (I5 ([Value.int IntKind.i64 n3, Value.int IntKind.i64 n4]) H2) ∧
  ∀ n7 : Int,
  ∀ n8 : Int,
  ∀ v9 v10 v11 v12 v13 v14 v15 v16 v17 v18 v19 v20 v21 v22 v23 v24 v25 v26 v27 v28 v29 : Value,
  ∀ H30 : Heap,
  (I5 ([Value.int IntKind.i64 n7, Value.int IntKind.i64 n8]) H30) →
  sB (decide (n8 < (↑x0n : Int))) (jn (α := VFH 1) (fun v32 H33 =>
  ∀ v34 v35 v36 v37 v38 v39 v40 v41 v42 v43 v44 v45 v46 v47 v48 : Value,
  dInt IntKind.i64 v32 (fun n49 =>
  wr IntKind.i64 (n8 + 1) (fun n50 =>
  (I5 ([Value.int IntKind.i64 n49, Value.int IntKind.i64 n50]) H33) ∧
  (I6 [Value.int IntKind.i64 n49, Value.int IntKind.i64 n50] H33) < (I6 [Value.int IntKind.i64 n7, Value.int IntKind.i64 n8] H30)))) (fun k51 =>
  nz x0a (fun a52 =>
  ask ((0 : Int) ≤ n8 ∧ n8 < (↑x0n : Int)) (ld H30 (Addr.add a52 (Int.toNat n8 * 1)) (fun v53 =>
  dInt IntKind.i64 v53 (fun n54 =>
  gB (plainFn Tryz.prog x1g) (HCalls Tryz.prog x1g (argsOf x1f [Value.int IntKind.i64 n54] x1c) H30 (Sp.retK (fun v55 H56 =>
  dBl v55 (fun b57 =>
  sB (!b57) (nz x0a (fun a58 =>
  ask ((0 : Int) ≤ n7 ∧ n7 < (↑x0n : Int)) (st H56 (Addr.add a58 (Int.toNat n7 * 1)) (Value.int IntKind.i64 n54) (fun H59 =>
  wr IntKind.i64 (n7 + 1) (fun n60 =>
  k51 (Value.int IntKind.i64 n60) H59))))) (k51 (Value.int IntKind.i64 n7) H56))) (pnR R))))))))) (ask ((0 : Int) ≤ n7 ∧ n7 ≤ (↑x0n : Int) ∧ (↑x0n : Int) ≤ (↑x0c : Int) ∧ (↑x0c : Int) ≤ (↑x0c : Int)) (semW Tryz.prog (Builtin.clear_ #[73] 0 #[Value.slice (slO x0a 1 n7 (↑x0c : Int)) (Int.toNat (↑x0n : Int) - Int.toNat n7) (Int.toNat (↑x0c : Int) - Int.toNat n7)]) (pnR R) H30 (fun v65 H66 =>
  ask ((0 : Int) ≤ (0 : Int) ∧ (0 : Int) ≤ n7 ∧ n7 ≤ (↑x0c : Int) ∧ (↑x0c : Int) ≤ (↑x0c : Int)) (R (Ending.returned (Value.slice (slO x0a 1 0 (↑x0c : Int)) (Int.toNat n7 - Int.toNat 0) (Int.toNat (↑x0c : Int) - Int.toNat 0))) H66)))))))) (pnR R))
theorem F140_eq (x0a : Option Addr) (x0n : Nat) (x0c : Nat) (x1g : Nat) (x1f : Array Value) (x1c : Array Value) (R : Ending → Heap → Prop) (H : Heap) : F140 x0a x0n x0c x1g x1f x1c R H = vc Tryz.prog (codeOf Tryz.f140) (.node none .leaf (.node none .leaf (.node none .leaf (.node none (.node none .leaf (.node none (.node (some ⟨[(5, 3), (6, 3)], [7, 16, 17, 18, 19, 20, 21, 22, 23, 24, 25, 26, 27, 28, 29, 30, 31, 32, 33, 34, 35]⟩) (.node none .leaf (.node (some ⟨[(5, 3)], [7, 22, 23, 24, 25, 26, 27, 28, 29, 30, 31, 32, 33, 34, 35]⟩) .leaf .leaf)) .leaf) .leaf)) .leaf)))) (postV Tryz.prog Tryz.f140 R) ⟨#[Value.slice x0a x0n x0c, Value.func (Fn.func x1g) x1f x1c] ++ Array.replicate (Tryz.f140.ntmps - 2) undef, []⟩ H := by kernel_rfl
theorem F140_calls {R : Ending → Heap → Prop} {H : Heap} (x0a : Option Addr) (x0n : Nat) (x0c : Nat) (x1g : Nat) (x1f : Array Value) (x1c : Array Value) (h : F140 x0a x0n x0c x1g x1f x1c R H) : HCalls Tryz.prog 140 #[Value.slice x0a x0n x0c, Value.func (Fn.func x1g) x1f x1c] H R :=
  calls_by (F := F140 x0a x0n x0c x1g x1f x1c R H) (.node none .leaf (.node none .leaf (.node none .leaf (.node none (.node none .leaf (.node none (.node (some ⟨[(5, 3), (6, 3)], [7, 16, 17, 18, 19, 20, 21, 22, 23, 24, 25, 26, 27, 28, 29, 30, 31, 32, 33, 34, 35]⟩) (.node none .leaf (.node (some ⟨[(5, 3)], [7, 22, 23, 24, 25, 26, 27, 28, 29, 30, 31, 32, 33, 34, 35]⟩) .leaf .leaf)) .leaf) .leaf)) .leaf)))) Tryz.func140 rfl (F140_eq x0a x0n x0c x1g x1f x1c R H) h
/-- slices.IndexFunc[[]int,int] -/
def F148 (x0a : Option Addr) (x0n : Nat) (x0c : Nat) (x1g : Nat) (x1f : Array Value) (x1c : Array Value) (R : Ending → Heap → Prop) (H : Heap) : Prop :=
  ∃ I1 : List Value → Heap → Prop,
  ∃ I2 : List Value → Heap → Nat,
  (I1 ([Value.int IntKind.i64 0]) H) ∧
  ∀ n3 : Int,
  ∀ v4 v5 v6 v7 v8 v9 v10 v11 v12 v13 v14 v15 : Value,
  ∀ H16 : Heap,
  (I1 ([Value.int IntKind.i64 n3]) H16) →
  sB (decide (n3 < (↑x0n : Int))) (nz x0a (fun a18 =>
  ask ((0 : Int) ≤ n3 ∧ n3 < (↑x0n : Int)) (ld H16 (Addr.add a18 (Int.toNat n3 * 1)) (fun v19 =>
  dInt IntKind.i64 v19 (fun n20 =>
  gB (plainFn Tryz.prog x1g) (HCalls Tryz.prog x1g (argsOf x1f [Value.int IntKind.i64 n20] x1c) H16 (Sp.retK (fun v21 H22 =>
  dBl v21 (fun b23 =>
  sB b23 (R (Ending.returned (Value.int IntKind.i64 n3)) H22) (wr IntKind.i64 (n3 + 1) (fun n24 =>
  (I1 ([Value.int IntKind.i64 n24]) H22) ∧
  (I2 [Value.int IntKind.i64 n24] H22) < (I2 [Value.int IntKind.i64 n3] H16))))) (pnR R)))))))) (R (Ending.returned (Value.int IntKind.i64 (-1))) H16)
theorem F148_eq (x0a : Option Addr) (x0n : Nat) (x0c : Nat) (x1g : Nat) (x1f : Array Value) (x1c : Array Value) (R : Ending → Heap → Prop) (H : Heap) : F148 x0a x0n x0c x1g x1f x1c R H = vc Tryz.prog (codeOf Tryz.f148) (.node none .leaf (.node none (.node none .leaf (.node none (.node (some ⟨[(8, 3)], [4, 5, 9, 10, 11, 12, 13, 14, 15, 16, 17, 18]⟩) .leaf .leaf) .leaf)) .leaf)) (postV Tryz.prog Tryz.f148 R) ⟨#[Value.slice x0a x0n x0c, Value.func (Fn.func x1g) x1f x1c] ++ Array.replicate (Tryz.f148.ntmps - 2) undef, []⟩ H := by kernel_rfl
theorem F148_calls {R : Ending → Heap → Prop} {H : Heap} (x0a : Option Addr) (x0n : Nat) (x0c : Nat) (x1g : Nat) (x1f : Array Value) (x1c : Array Value) (h : F148 x0a x0n x0c x1g x1f x1c R H) : HCalls Tryz.prog 148 #[Value.slice x0a x0n x0c, Value.func (Fn.func x1g) x1f x1c] H R :=
  calls_by (F := F148 x0a x0n x0c x1g x1f x1c R H) (.node none .leaf (.node none (.node none .leaf (.node none (.node (some ⟨[(8, 3)], [4, 5, 9, 10, 11, 12, 13, 14, 15, 16, 17, 18]⟩) .leaf .leaf) .leaf)) .leaf)) Tryz.func148 rfl (F148_eq x0a x0n x0c x1g x1f x1c R H) h
/-- bollard/bits.many -/
def F151 (x0 : Int) (R : Ending → Heap → Prop) (H : Heap) : Prop :=
  semW Tryz.prog (Builtin.min_ #[3, 3] 3 #[Value.int IntKind.i64 x0, Value.int IntKind.i64 65536]) (pnR R) H (fun v3 H4 =>
  dInt IntKind.i64 v3 (fun n5 =>
  semW Tryz.prog (Builtin.max_ #[3, 3] 3 #[Value.int IntKind.i64 0, Value.int IntKind.i64 n5]) (pnR R) H4 (fun v8 H9 =>
  dInt IntKind.i64 v8 (fun n10 =>
  R (Ending.returned (Value.int IntKind.i64 n10)) H9))))
theorem F151_eq (x0 : Int) (R : Ending → Heap → Prop) (H : Heap) : F151 x0 R H = vc Tryz.prog (codeOf Tryz.f151) .leaf (postV Tryz.prog Tryz.f151 R) ⟨#[Value.int IntKind.i64 x0] ++ Array.replicate (Tryz.f151.ntmps - 1) undef, []⟩ H := by kernel_rfl
theorem F151_calls {R : Ending → Heap → Prop} {H : Heap} (x0 : Int) (h : F151 x0 R H) : HCalls Tryz.prog 151 #[Value.int IntKind.i64 x0] H R :=
  calls_by (F := F151 x0 R H) .leaf Tryz.func151 rfl (F151_eq x0 R H) h
/-- bollard/bits.Has -/
def F152 (x0a : Option Addr) (x0n : Nat) (x0c : Nat) (x1 : Int) (R : Ending → Heap → Prop) (H : Heap) : Prop :=
  sB (decide (x1 ≥ 0)) (ask ((8 : Int) ≠ (0 : Int)) (wr IntKind.i64 (Int.tdiv x1 8) (fun n1 =>
  sB (decide (n1 < (↑x0n : Int))) (ask ((8 : Int) ≠ (0 : Int)) (wr IntKind.i64 (Int.tdiv x1 8) (fun n2 =>
  nz x0a (fun a3 =>
  ask ((0 : Int) ≤ n2 ∧ n2 < (↑x0n : Int)) (ld H (Addr.add a3 (Int.toNat n2 * 1)) (fun v4 =>
  dInt IntKind.u8 v4 (fun n5 =>
  ask ((8 : Int) ≠ (0 : Int)) (nm (Int.tmod x1 8) (fun n6 =>
  ask ((0 : Int) ≤ n6) (nm (Int.fdiv n5 (2 ^ min (Int.toNat n6) 8)) (fun n7 =>
  nm (IntKind.wrap IntKind.u8 (↑(BitVec.toNat (BitVec.ofInt 8 n7 &&& BitVec.ofInt 8 1)) : Int)) (fun n8 =>
  R (Ending.returned (Value.bool (n8 == 1))) H)))))))))))) (R (Ending.returned (Value.bool false)) H)))) (R (Ending.returned (Value.bool false)) H)
theorem F152_eq (x0a : Option Addr) (x0n : Nat) (x0c : Nat) (x1 : Int) (R : Ending → Heap → Prop) (H : Heap) : F152 x0a x0n x0c x1 R H = vc Tryz.prog (codeOf Tryz.f152) .leaf (postV Tryz.prog Tryz.f152 R) ⟨#[Value.slice x0a x0n x0c, Value.int IntKind.i64 x1] ++ Array.replicate (Tryz.f152.ntmps - 2) undef, []⟩ H := by kernel_rfl
theorem F152_calls {R : Ending → Heap → Prop} {H : Heap} (x0a : Option Addr) (x0n : Nat) (x0c : Nat) (x1 : Int) (h : F152 x0a x0n x0c x1 R H) : HCalls Tryz.prog 152 #[Value.slice x0a x0n x0c, Value.int IntKind.i64 x1] H R :=
  calls_by (F := F152 x0a x0n x0c x1 R H) .leaf Tryz.func152 rfl (F152_eq x0a x0n x0c x1 R H) h
/-- bollard/disk.Of$1 -/
def F153 (x0a : Option Addr) (x0n : Nat) (x0c : Nat) (R : Ending → Heap → Prop) (H : Heap) : Prop :=
  R (Ending.returned (Value.bool ((↑x0n : Int) != 128))) H
theorem F153_eq (x0a : Option Addr) (x0n : Nat) (x0c : Nat) (R : Ending → Heap → Prop) (H : Heap) : F153 x0a x0n x0c R H = vc Tryz.prog (codeOf Tryz.f153) .leaf (postV Tryz.prog Tryz.f153 R) ⟨#[Value.slice x0a x0n x0c] ++ Array.replicate (Tryz.f153.ntmps - 1) undef, []⟩ H := by kernel_rfl
theorem F153_calls {R : Ending → Heap → Prop} {H : Heap} (x0a : Option Addr) (x0n : Nat) (x0c : Nat) (h : F153 x0a x0n x0c R H) : HCalls Tryz.prog 153 #[Value.slice x0a x0n x0c] H R :=
  calls_by (F := F153 x0a x0n x0c R H) .leaf Tryz.func153 rfl (F153_eq x0a x0n x0c R H) h
/-- slices.ContainsFunc[[][]byte,[]byte] -/
def F154 (x0a : Option Addr) (x0n : Nat) (x0c : Nat) (x1g : Nat) (x1f : Array Value) (x1c : Array Value) (R : Ending → Heap → Prop) (H : Heap) : Prop :=
  HCalls Tryz.prog 199 #[Value.slice x0a x0n x0c, Value.func (Fn.func x1g) x1f x1c] H (Sp.retK (fun v1 H2 =>
  dInt IntKind.i64 v1 (fun n3 =>
  R (Ending.returned (Value.bool (decide (n3 ≥ 0)))) H2)) (pnR R))
theorem F154_eq (x0a : Option Addr) (x0n : Nat) (x0c : Nat) (x1g : Nat) (x1f : Array Value) (x1c : Array Value) (R : Ending → Heap → Prop) (H : Heap) : F154 x0a x0n x0c x1g x1f x1c R H = vc Tryz.prog (codeOf Tryz.f154) .leaf (postV Tryz.prog Tryz.f154 R) ⟨#[Value.slice x0a x0n x0c, Value.func (Fn.func x1g) x1f x1c] ++ Array.replicate (Tryz.f154.ntmps - 2) undef, []⟩ H := by kernel_rfl
theorem F154_calls {R : Ending → Heap → Prop} {H : Heap} (x0a : Option Addr) (x0n : Nat) (x0c : Nat) (x1g : Nat) (x1f : Array Value) (x1c : Array Value) (h : F154 x0a x0n x0c x1g x1f x1c R H) : HCalls Tryz.prog 154 #[Value.slice x0a x0n x0c, Value.func (Fn.func x1g) x1f x1c] H R :=
  calls_by (F := F154 x0a x0n x0c x1g x1f x1c R H) .leaf Tryz.func154 rfl (F154_eq x0a x0n x0c x1g x1f x1c R H) h
end Go.Proofs.YtngploohhmfaiaaGreat.E
/- The functions' forms in the engine's words, printed by my own program. -/
namespace Go.Proofs.YtngploohhmfaiaaGreat.E
open Go Go.Proofs
set_option linter.unusedVariables false
/-- slices.Compact[[]int,int] -/
def F157 (x0a : Option Addr) (x0n : Nat) (x0c : Nat) (R : Ending → Heap → Prop) (H : Heap) : Prop :=
  sB (decide ((↑x0n : Int) < 2)) (R (Ending.returned (Value.slice x0a x0n x0c)) H) (∃ I1 : List Value → Heap → Prop,
  ∃ I2 : List Value → Heap → Nat,
  (I1 ([Value.int IntKind.i64 1]) H) ∧
  ∀ n3 : Int,
  ∀ v4 v5 v6 v7 v8 v9 v10 v11 v12 v13 v14 v15 v16 v17 v18 v19 v20 v21 v22 v23 v24 v25 v26 v27 v28 v29 v30 v31 v32 v33 v34 v35 v36 v37 v38 v39 v40 v41 v42 v43 v44 v45 v46 v47 v48 v49 v50 v51 v52 v53 v54 v55 v56 : Value,
  ∀ H57 : Heap,
  (I1 ([Value.int IntKind.i64 n3]) H57) →
  sB (decide (n3 < (↑x0n : Int))) (nz x0a (fun a59 =>
  ask ((0 : Int) ≤ n3 ∧ n3 < (↑x0n : Int)) (ld H57 (Addr.add a59 (Int.toNat n3 * 1)) (fun v60 =>
  dInt IntKind.i64 v60 (fun n61 =>
  wr IntKind.i64 (n3 - 1) (fun n62 =>
  nz x0a (fun a63 =>
  ask ((0 : Int) ≤ n62 ∧ n62 < (↑x0n : Int)) (ld H57 (Addr.add a63 (Int.toNat n62 * 1)) (fun v64 =>
  dInt IntKind.i64 v64 (fun n65 =>
  sB (n61 == n65) (ask ((0 : Int) ≤ n3 ∧ n3 ≤ (↑x0n : Int) ∧ (↑x0n : Int) ≤ (↑x0c : Int) ∧ (↑x0c : Int) ≤ (↑x0c : Int)) (∃ I66 : List Value → Heap → Prop,
  ∃ I67 : List Value → Heap → Nat,
  (I66 ([Value.int IntKind.i64 n3, Value.int IntKind.i64 1]) H57) ∧
  ∀ n68 : Int,
  ∀ n69 : Int,
  ∀ v70 v71 v72 v73 v74 v75 v76 v77 v78 v79 v80 v81 v82 v83 v84 v85 v86 v87 v88 v89 v90 v91 v92 v93 v94 : Value,
  ∀ H95 : Heap,
  (I66 ([Value.int IntKind.i64 n68, Value.int IntKind.i64 n69]) H95) →
  sB (decide (n69 < (↑(Int.toNat (↑x0n : Int) - Int.toNat n3) : Int))) (jn (α := VFH 1) (fun v97 H98 =>
  ∀ v99 v100 v101 v102 v103 v104 v105 v106 v107 v108 v109 v110 v111 v112 v113 v114 v115 v116 v117 : Value,
  dInt IntKind.i64 v97 (fun n118 =>
  wr IntKind.i64 (n69 + 1) (fun n119 =>
  (I66 ([Value.int IntKind.i64 n118, Value.int IntKind.i64 n119]) H98) ∧
  (I67 [Value.int IntKind.i64 n118, Value.int IntKind.i64 n119] H98) < (I67 [Value.int IntKind.i64 n68, Value.int IntKind.i64 n69] H95)))) (fun k120 =>
  nz (slO x0a 1 n3 (↑x0c : Int)) (fun a121 =>
  ask ((0 : Int) ≤ n69 ∧ n69 < (↑(Int.toNat (↑x0n : Int) - Int.toNat n3) : Int)) (ld H95 (Addr.add a121 (Int.toNat n69 * 1)) (fun v122 =>
  dInt IntKind.i64 v122 (fun n123 =>
  wr IntKind.i64 (n69 - 1) (fun n124 =>
  nz (slO x0a 1 n3 (↑x0c : Int)) (fun a125 =>
  ask ((0 : Int) ≤ n124 ∧ n124 < (↑(Int.toNat (↑x0n : Int) - Int.toNat n3) : Int)) (ld H95 (Addr.add a125 (Int.toNat n124 * 1)) (fun v126 =>
  dInt IntKind.i64 v126 (fun n127 =>
  sB (n123 != n127) (nz (slO x0a 1 n3 (↑x0c : Int)) (fun a128 =>
  ask ((0 : Int) ≤ n69 ∧ n69 < (↑(Int.toNat (↑x0n : Int) - Int.toNat n3) : Int)) (ld H95 (Addr.add a128 (Int.toNat n69 * 1)) (fun v129 =>
  dInt IntKind.i64 v129 (fun n130 =>
  nz x0a (fun a131 =>
  ask ((0 : Int) ≤ n68 ∧ n68 < (↑x0n : Int)) (st H95 (Addr.add a131 (Int.toNat n68 * 1)) (Value.int IntKind.i64 n130) (fun H132 =>
  wr IntKind.i64 (n68 + 1) (fun n133 =>
  k120 (Value.int IntKind.i64 n133) H132))))))))) (k120 (Value.int IntKind.i64 n68) H95)))))))))))) (ask ((0 : Int) ≤ n68 ∧ n68 ≤ (↑x0n : Int) ∧ (↑x0n : Int) ≤ (↑x0c : Int) ∧ (↑x0c : Int) ≤ (↑x0c : Int)) (semW Tryz.prog (Builtin.clear_ #[73] 0 #[Value.slice (slO x0a 1 n68 (↑x0c : Int)) (Int.toNat (↑x0n : Int) - Int.toNat n68) (Int.toNat (↑x0c : Int) - Int.toNat n68)]) (pnR R) H95 (fun v136 H137 =>
  ask ((0 : Int) ≤ (0 : Int) ∧ (0 : Int) ≤ n68 ∧ n68 ≤ (↑x0c : Int) ∧ (↑x0c : Int) ≤ (↑x0c : Int)) (R (Ending.returned (Value.slice (slO x0a 1 0 (↑x0c : Int)) (Int.toNat n68 - Int.toNat 0) (Int.toNat (↑x0c : Int) - Int.toNat 0))) H137)))))) (wr IntKind.i64 (n3 + 1) (fun n138 =>
  (I1 ([Value.int IntKind.i64 n138]) H57) ∧
  (I2 [Value.int IntKind.i64 n138] H57) < (I2 [Value.int IntKind.i64 n3] H57))))))))))))) (R (Ending.returned (Value.slice x0a x0n x0c)) H57))
theorem F157_eq (x0a : Option Addr) (x0n : Nat) (x0c : Nat) (R : Ending → Heap → Prop) (H : Heap) : F157 x0a x0n x0c R H = vc Tryz.prog (codeOf Tryz.f157) (.node none .leaf (.node none .leaf (.node none (.node none .leaf (.node none (.node (some ⟨[(3, 3)], [2, 4, 5, 10, 11, 12, 13, 14, 15, 16, 17, 18, 19, 20, 21, 22, 23, 24, 25, 26, 27, 28, 29, 30, 31, 32, 33, 34, 35, 36, 37, 38, 39, 40, 41, 42, 43, 44, 45, 46, 47, 48, 49, 50, 51, 52, 53, 54, 55, 56, 57, 58, 59]⟩) (.node none .leaf (.node none (.node none (.node none .leaf (.node none (.node none .leaf (.node none (.node none .leaf (.node none (.node (some ⟨[(3, 3), (5, 3)], [29, 30, 31, 32, 33, 34, 35, 36, 37, 38, 39, 40, 41, 42, 43, 44, 45, 46, 47, 48, 49, 50, 51, 52, 53]⟩) (.node none .leaf (.node (some ⟨[(3, 3)], [35, 36, 37, 38, 39, 40, 41, 42, 43, 44, 45, 46, 47, 48, 49, 50, 51, 52, 53]⟩) .leaf .leaf)) .leaf) .leaf)) .leaf)) .leaf)) .leaf) .leaf)) .leaf) .leaf)) .leaf))) (postV Tryz.prog Tryz.f157 R) ⟨#[Value.slice x0a x0n x0c] ++ Array.replicate (Tryz.f157.ntmps - 1) undef, []⟩ H := by kernel_rfl
theorem F157_calls {R : Ending → Heap → Prop} {H : Heap} (x0a : Option Addr) (x0n : Nat) (x0c : Nat) (h : F157 x0a x0n x0c R H) : HCalls Tryz.prog 157 #[Value.slice x0a x0n x0c] H R :=
  calls_by (F := F157 x0a x0n x0c R H) (.node none .leaf (.node none .leaf (.node none (.node none .leaf (.node none (.node (some ⟨[(3, 3)], [2, 4, 5, 10, 11, 12, 13, 14, 15, 16, 17, 18, 19, 20, 21, 22, 23, 24, 25, 26, 27, 28, 29, 30, 31, 32, 33, 34, 35, 36, 37, 38, 39, 40, 41, 42, 43, 44, 45, 46, 47, 48, 49, 50, 51, 52, 53, 54, 55, 56, 57, 58, 59]⟩) (.node none .leaf (.node none (.node none (.node none .leaf (.node none (.node none .leaf (.node none (.node none .leaf (.node none (.node (some ⟨[(3, 3), (5, 3)], [29, 30, 31, 32, 33, 34, 35, 36, 37, 38, 39, 40, 41, 42, 43, 44, 45, 46, 47, 48, 49, 50, 51, 52, 53]⟩) (.node none .leaf (.node (some ⟨[(3, 3)], [35, 36, 37, 38, 39, 40, 41, 42, 43, 44, 45, 46, 47, 48, 49, 50, 51, 52, 53]⟩) .leaf .leaf)) .leaf) .leaf)) .leaf)) .leaf)) .leaf) .leaf)) .leaf) .leaf)) .leaf))) Tryz.func157 rfl (F157_eq x0a x0n x0c R H) h
/-- slices.Sorted[int] -/
def F166 (x0g : Nat) (x0f : Array Value) (x0c : Array Value) (R : Ending → Heap → Prop) (H : Heap) : Prop :=
  HCalls Tryz.prog 216 #[Value.func (Fn.func x0g) x0f x0c] H (Sp.retK (fun v1 H2 =>
  dSl v1 (fun p3 r4 r5 =>
  HCalls Tryz.prog 156 #[Value.slice p3 r4 r5] H2 (Sp.retK (fun v6 H7 =>
  R (Ending.returned (Value.slice p3 r4 r5)) H7) (pnR R)))) (pnR R))
theorem F166_eq (x0g : Nat) (x0f : Array Value) (x0c : Array Value) (R : Ending → Heap → Prop) (H : Heap) : F166 x0g x0f x0c R H = vc Tryz.prog (codeOf Tryz.f166) .leaf (postV Tryz.prog Tryz.f166 R) ⟨#[Value.func (Fn.func x0g) x0f x0c] ++ Array.replicate (Tryz.f166.ntmps - 1) undef, []⟩ H := by kernel_rfl
theorem F166_calls {R : Ending → Heap → Prop} {H : Heap} (x0g : Nat) (x0f : Array Value) (x0c : Array Value) (h : F166 x0g x0f x0c R H) : HCalls Tryz.prog 166 #[Value.func (Fn.func x0g) x0f x0c] H R :=
  calls_by (F := F166 x0g x0f x0c R H) .leaf Tryz.func166 rfl (F166_eq x0g x0f x0c R H) h
/-- (*bollard/patch.Set).all -/
def F170 (x0 : Option Addr) (R : Ending → Heap → Prop) (H : Heap) : Prop :=
  nz x0 (fun a1 =>
  ld H (Addr.add a1 2) (fun v2 =>
  dMap v2 (fun p3 =>
  HCalls Tryz.prog 219 #[Value.map p3] H (Sp.retK (fun v4 H5 =>
  HCalls Tryz.prog 166 #[v4] H5 (Sp.retK (fun v6 H7 =>
  dSl v6 (fun p8 r9 r10 =>
  R (Ending.returned (Value.slice p8 r9 r10)) H7)) (pnR R))) (pnR R)))))
theorem F170_eq (x0 : Option Addr) (R : Ending → Heap → Prop) (H : Heap) : F170 x0 R H = vc Tryz.prog (codeOf Tryz.f170) .leaf (postV Tryz.prog Tryz.f170 R) ⟨#[Value.pointer x0] ++ Array.replicate (Tryz.f170.ntmps - 1) undef, []⟩ H := by kernel_rfl
theorem F170_calls {R : Ending → Heap → Prop} {H : Heap} (x0 : Option Addr) (h : F170 x0 R H) : HCalls Tryz.prog 170 #[Value.pointer x0] H R :=
  calls_by (F := F170 x0 R H) .leaf Tryz.func170 rfl (F170_eq x0 R H) h
/-- (*bollard/patch.Set).Of$1 -/
def F171 (x0 : Int) (f0 : Addr) (f1 : Addr) (R : Ending → Heap → Prop) (H : Heap) : Prop :=
  ld H f0 (fun v1 =>
  dPtr v1 (fun p2 =>
  nz p2 (fun a3 =>
  ld H (Addr.add a3 2) (fun v4 =>
  dMap v4 (fun p5 =>
  ld H f1 (fun v6 =>
  dInt IntKind.i64 v6 (fun n7 =>
  semW Tryz.prog (Instr.lookup 190 (Value.map p5) (Value.int IntKind.i64 x0) false) nopR H (fun v10 H11 =>
  dA 5 v10 (fun v12 v13 v14 v15 v16 =>
  (ld H11 f1 (fun v17 =>
  dInt IntKind.i64 v17 (fun n18 =>
  (Value.int IntKind.i64 n18) = (Value.int IntKind.i64 n7)))) ∧
  dInt IntKind.i64 v13 (fun n19 =>
  R (Ending.returned (Value.bool (n19 != n7))) H11))))))))))
theorem F171_eq (x0 : Int) (f0 : Addr) (f1 : Addr) (R : Ending → Heap → Prop) (H : Heap) : F171 x0 f0 f1 R H = vc Tryz.prog (codeOf Tryz.f171) .leaf (postV Tryz.prog Tryz.f171 R) ⟨#[Value.int IntKind.i64 x0, Value.pointer (some f0), Value.pointer (some f1)] ++ Array.replicate (Tryz.f171.ntmps - 3) undef, []⟩ H := by kernel_rfl
theorem F171_calls {R : Ending → Heap → Prop} {H : Heap} (x0 : Int) (f0 : Addr) (f1 : Addr) (h : F171 x0 f0 f1 R H) : HCalls Tryz.prog 171 #[Value.int IntKind.i64 x0, Value.pointer (some f0), Value.pointer (some f1)] H R :=
  calls_by (F := F171 x0 f0 f1 R H) .leaf Tryz.func171 rfl (F171_eq x0 f0 f1 R H) h
/-- bollard/bollardref05.With -/
def F174 (x0a : Option Addr) (x0n : Nat) (x0c : Nat) (x1 : Int) (x2 : Bool) (R : Ending → Heap → Prop) (H : Heap) : Prop :=
  jn (α := VFH 1) (fun v1 H2 =>
  ∀ v3 v4 v5 v6 v7 v8 v9 v10 : Value,
  dBl v1 (fun b11 =>
  sB b11 (R (Ending.returned (Value.tuple #[Value.slice none 0 0, Value.int IntKind.i64 50])) H2) (al H2 (Obj.cells #[] 5) (fun r12 H13 =>
  semW Tryz.prog (Builtin.append_ #[38, 38] 38 #[Value.slice (some (Addr.mk r12 0 none)) 0 0, Value.slice x0a x0n x0c]) (pnR R) H13 (fun v16 H17 =>
  dSl v16 (fun p18 r19 r20 =>
  jn (α := VFH 0) (fun H21 =>
  ∀ v22 v23 v24 v25 v26 v27 v28 v29 v30 v31 v32 v33 v34 v35 v36 v37 v38 v39 : Value,
  R (Ending.returned (Value.tuple #[Value.slice p18 r19 r20, Value.int IntKind.i64 0])) H21) (fun k40 =>
  HCalls Tryz.prog 224 #[Value.slice x0a x0n x0c, Value.int IntKind.i64 x1] H17 (Sp.retK (fun v41 H42 =>
  dBl v41 (fun b43 =>
  sB (!b43 == x2) (ask ((8 : Int) ≠ (0 : Int)) (wr IntKind.i64 (Int.tdiv x1 8) (fun n44 =>
  ask ((8 : Int) ≠ (0 : Int)) (wr IntKind.i64 (Int.tdiv x1 8) (fun n45 =>
  nz p18 (fun a46 =>
  ask ((0 : Int) ≤ n45 ∧ n45 < (↑r19 : Int)) (ld H42 (Addr.add a46 (Int.toNat n45 * 1)) (fun v47 =>
  dInt IntKind.u8 v47 (fun n48 =>
  ask ((8 : Int) ≠ (0 : Int)) (nm (Int.tmod x1 8) (fun n49 =>
  ask ((0 : Int) ≤ n49) (nm (IntKind.wrap IntKind.u8 (1 * 2 ^ min (Int.toNat n49) 8)) (fun n50 =>
  nm (IntKind.wrap IntKind.u8 (↑(BitVec.toNat (BitVec.ofInt 8 n48 ^^^ BitVec.ofInt 8 n50)) : Int)) (fun n51 =>
  nz p18 (fun a52 =>
  ask ((0 : Int) ≤ n44 ∧ n44 < (↑r19 : Int)) (st H42 (Addr.add a52 (Int.toNat n44 * 1)) (Value.int IntKind.u8 n51) (fun H53 =>
  k40 H53))))))))))))))))) (k40 H42))) (pnR R))))))))) (fun k56 =>
  sB (decide (x1 < 0)) (k56 (Value.bool true) H) (ask ((8 : Int) ≠ (0 : Int)) (wr IntKind.i64 (Int.tdiv x1 8) (fun n57 =>
  k56 (Value.bool (decide (n57 ≥ (↑x0n : Int)))) H))))
theorem F174_eq (x0a : Option Addr) (x0n : Nat) (x0c : Nat) (x1 : Int) (x2 : Bool) (R : Ending → Heap → Prop) (H : Heap) : F174 x0a x0n x0c x1 x2 R H = vc Tryz.prog (codeOf Tryz.f174) (.node none .leaf (.node none (.node (some ⟨[(17, 4)], [9, 10, 11, 12, 13, 14, 15, 16]⟩) .leaf .leaf) (.node none .leaf (.node (some ⟨[], [21, 22, 23, 24, 25, 26, 27, 28, 29, 30, 31, 32, 33, 34, 35, 36, 37, 38]⟩) .leaf .leaf)))) (postV Tryz.prog Tryz.f174 R) ⟨#[Value.slice x0a x0n x0c, Value.int IntKind.i64 x1, Value.bool x2] ++ Array.replicate (Tryz.f174.ntmps - 3) undef, []⟩ H := by kernel_rfl
theorem F174_calls {R : Ending → Heap → Prop} {H : Heap} (x0a : Option Addr) (x0n : Nat) (x0c : Nat) (x1 : Int) (x2 : Bool) (h : F174 x0a x0n x0c x1 x2 R H) : HCalls Tryz.prog 174 #[Value.slice x0a x0n x0c, Value.int IntKind.i64 x1, Value.bool x2] H R :=
  calls_by (F := F174 x0a x0n x0c x1 x2 R H) (.node none .leaf (.node none (.node (some ⟨[(17, 4)], [9, 10, 11, 12, 13, 14, 15, 16]⟩) .leaf .leaf) (.node none .leaf (.node (some ⟨[], [21, 22, 23, 24, 25, 26, 27, 28, 29, 30, 31, 32, 33, 34, 35, 36, 37, 38]⟩) .leaf .leaf)))) Tryz.func174 rfl (F174_eq x0a x0n x0c x1 x2 R H) h
/-- bollard/bollardref03.mayDinode -/
def F176 (x0_0 : Value) (x0_1 : Value) (x0_2 : Value) (x0_3 : Value) (x0_4 : Value) (x0_5 : Value) (x0_6 : Value) (x0_7 : Value) (x0_8 : Value) (R : Ending → Heap → Prop) (H : Heap) : Prop :=
  al H (Obj.cells #[x0_0, x0_1, x0_2, x0_3, x0_4, x0_5, x0_6, x0_7, x0_8] 177) (fun r1 H2 =>
  ld H2 (Addr.mk r1 0 none) (fun v3 =>
  dInt IntKind.i64 v3 (fun n4 =>
  sB (n4 == 0) (ld H2 (Addr.mk r1 0 none) (fun v5 =>
  ld H2 (Addr.mk r1 1 none) (fun v6 =>
  ld H2 (Addr.mk r1 2 none) (fun v7 =>
  ld H2 (Addr.mk r1 3 none) (fun v8 =>
  ld H2 (Addr.mk r1 4 none) (fun v9 =>
  ld H2 (Addr.mk r1 5 none) (fun v10 =>
  ld H2 (Addr.mk r1 6 none) (fun v11 =>
  ld H2 (Addr.mk r1 7 none) (fun v12 =>
  ld H2 (Addr.mk r1 8 none) (fun v13 =>
  semW Tryz.prog (eqSem BinOp.eql 177 (Operand.tmp 8) (Operand.tmp 9) (Value.agg #[v5, v6, v7, v8, v9, v10, v11, v12, v13]) (Value.agg #[Value.int IntKind.i64 0, Value.int IntKind.i64 0, Value.int IntKind.i64 0, Value.int IntKind.i64 0, Value.int IntKind.i64 0, Value.int IntKind.i64 0, Value.int IntKind.i64 0, Value.int IntKind.i64 0, Value.int IntKind.i64 0])) (pnR R) H2 (fun v16 H17 =>
  dBl v16 (fun b18 =>
  R (Ending.returned (Value.bool b18)) H17)))))))))))) (jn (α := VFH 1) (fun v19 H20 =>
  ∀ v21 v22 v23 v24 v25 v26 v27 v28 v29 v30 v31 v32 v33 v34 v35 v36 v37 v38 v39 v40 v41 v42 v43 v44 v45 v46 v47 : Value,
  dBl v19 (fun b48 =>
  sB b48 (R (Ending.returned (Value.bool false)) H20) (ld H20 (Addr.mk r1 3 none) (fun v49 =>
  ld H20 (Addr.mk r1 4 none) (fun v50 =>
  ld H20 (Addr.mk r1 5 none) (fun v51 =>
  ld H20 (Addr.mk r1 6 none) (fun v52 =>
  ∃ I53 : List Value → Heap → Prop,
  ∃ I54 : List Value → Heap → Nat,
  (I53 ([Value.int IntKind.i64 0]) H20) ∧
  ∀ n55 : Int,
  ∀ v56 v57 v58 v59 v60 v61 v62 v63 : Value,
  ∀ H64 : Heap,
  (I53 ([Value.int IntKind.i64 n55]) H64) →
  sB (decide (n55 < 4)) (ask ((0 : Int) ≤ n55 ∧ n55 < (4 : Int)) (oV ([v49, v50, v51, v52][Int.toNat n55 * 1]?) (fun v66 =>
  dInt IntKind.i64 v66 (fun n67 =>
  HCalls Tryz.prog 225 #[Value.int IntKind.i64 n67] H64 (Sp.retK (fun v68 H69 =>
  dBl v68 (fun b70 =>
  sB (!b70) (R (Ending.returned (Value.bool false)) H69) (wr IntKind.i64 (n55 + 1) (fun n71 =>
  (I53 ([Value.int IntKind.i64 n71]) H69) ∧
  (I54 [Value.int IntKind.i64 n71] H69) < (I54 [Value.int IntKind.i64 n55] H64))))) (pnR R)))))) (ld H64 (Addr.mk r1 7 none) (fun v74 =>
  dInt IntKind.i64 v74 (fun n75 =>
  HCalls Tryz.prog 225 #[Value.int IntKind.i64 n75] H64 (Sp.retK (fun v76 H77 =>
  dBl v76 (fun b78 =>
  sB b78 (ld H77 (Addr.mk r1 8 none) (fun v79 =>
  dInt IntKind.i64 v79 (fun n80 =>
  HCalls Tryz.prog 225 #[Value.int IntKind.i64 n80] H77 (Sp.retK (fun v81 H82 =>
  dBl v81 (fun b83 =>
  sB b83 (ld H82 (Addr.mk r1 0 none) (fun v84 =>
  dInt IntKind.i64 v84 (fun n85 =>
  sB (n85 != 2) (R (Ending.returned (Value.bool true)) H82) (ld H82 (Addr.mk r1 2 none) (fun v86 =>
  dInt IntKind.i64 v86 (fun n87 =>
  ask ((128 : Int) ≠ (0 : Int)) (nm (Int.tmod n87 128) (fun n88 =>
  R (Ending.returned (Value.bool (n88 == 0))) H82)))))))) (R (Ending.returned (Value.bool false)) H82))) (pnR R))))) (R (Ending.returned (Value.bool false)) H77))) (pnR R)))))))))))) (fun k93 =>
  ld H2 (Addr.mk r1 0 none) (fun v94 =>
  dInt IntKind.i64 v94 (fun n95 =>
  sB (n95 != 1) (ld H2 (Addr.mk r1 0 none) (fun v96 =>
  dInt IntKind.i64 v96 (fun n97 =>
  sB (n97 != 2) (k93 (Value.bool true) H2) (ld H2 (Addr.mk r1 1 none) (fun v98 =>
  dInt IntKind.i64 v98 (fun n99 =>
  sB (decide (n99 < 0)) (k93 (Value.bool true) H2) (ld H2 (Addr.mk r1 1 none) (fun v100 =>
  dInt IntKind.i64 v100 (fun n101 =>
  sB (decide (n101 > 1000)) (k93 (Value.bool true) H2) (ld H2 (Addr.mk r1 2 none) (fun v102 =>
  dInt IntKind.i64 v102 (fun n103 =>
  sB (decide (n103 < 0)) (k93 (Value.bool true) H2) (ld H2 (Addr.mk r1 2 none) (fun v104 =>
  dInt IntKind.i64 v104 (fun n105 =>
  k93 (Value.bool (decide (n105 > 532992))) H2))))))))))))))) (ld H2 (Addr.mk r1 1 none) (fun v106 =>
  dInt IntKind.i64 v106 (fun n107 =>
  sB (decide (n107 < 0)) (k93 (Value.bool true) H2) (ld H2 (Addr.mk r1 1 none) (fun v108 =>
  dInt IntKind.i64 v108 (fun n109 =>
  sB (decide (n109 > 1000)) (k93 (Value.bool true) H2) (ld H2 (Addr.mk r1 2 none) (fun v110 =>
  dInt IntKind.i64 v110 (fun n111 =>
  sB (decide (n111 < 0)) (k93 (Value.bool true) H2) (ld H2 (Addr.mk r1 2 none) (fun v112 =>
  dInt IntKind.i64 v112 (fun n113 =>
  k93 (Value.bool (decide (n113 > 532992))) H2)))))))))))))))))))
theorem F176_eq (x0_0 : Value) (x0_1 : Value) (x0_2 : Value) (x0_3 : Value) (x0_4 : Value) (x0_5 : Value) (x0_6 : Value) (x0_7 : Value) (x0_8 : Value) (R : Ending → Heap → Prop) (H : Heap) : F176 x0_0 x0_1 x0_2 x0_3 x0_4 x0_5 x0_6 x0_7 x0_8 R H = vc Tryz.prog (codeOf Tryz.f176) (.node none .leaf (.node none .leaf (.node none (.node (some ⟨[(38, 4)], [11, 12, 13, 14, 15, 16, 17, 18, 19, 20, 21, 22, 23, 24, 25, 26, 27, 28, 29, 30, 31, 32, 33, 34, 35, 36, 37]⟩) .leaf .leaf) (.node none (.node none .leaf (.node none (.node (some ⟨[(41, 3)], [2, 4, 42, 43, 44, 45, 46, 47]⟩) .leaf .leaf) .leaf)) .leaf)))) (postV Tryz.prog Tryz.f176 R) ⟨#[Value.agg #[x0_0, x0_1, x0_2, x0_3, x0_4, x0_5, x0_6, x0_7, x0_8]] ++ Array.replicate (Tryz.f176.ntmps - 1) undef, []⟩ H := by kernel_rfl
theorem F176_calls {R : Ending → Heap → Prop} {H : Heap} (x0_0 : Value) (x0_1 : Value) (x0_2 : Value) (x0_3 : Value) (x0_4 : Value) (x0_5 : Value) (x0_6 : Value) (x0_7 : Value) (x0_8 : Value) (h : F176 x0_0 x0_1 x0_2 x0_3 x0_4 x0_5 x0_6 x0_7 x0_8 R H) : HCalls Tryz.prog 176 #[Value.agg #[x0_0, x0_1, x0_2, x0_3, x0_4, x0_5, x0_6, x0_7, x0_8]] H R :=
  calls_by (F := F176 x0_0 x0_1 x0_2 x0_3 x0_4 x0_5 x0_6 x0_7 x0_8 R H) (.node none .leaf (.node none .leaf (.node none (.node (some ⟨[(38, 4)], [11, 12, 13, 14, 15, 16, 17, 18, 19, 20, 21, 22, 23, 24, 25, 26, 27, 28, 29, 30, 31, 32, 33, 34, 35, 36, 37]⟩) .leaf .leaf) (.node none (.node none .leaf (.node none (.node (some ⟨[(41, 3)], [2, 4, 42, 43, 44, 45, 46, 47]⟩) .leaf .leaf) .leaf)) .leaf)))) Tryz.func176 rfl (F176_eq x0_0 x0_1 x0_2 x0_3 x0_4 x0_5 x0_6 x0_7 x0_8 R H) h
/-- bollard/bollardref03.number -/
def F177 (x0a : Option Addr) (x0n : Nat) (x0c : Nat) (x1 : Int) (x2 : Int) (x3 : Int) (R : Ending → Heap → Prop) (H : Heap) : Prop :=
  HCalls Tryz.prog 226 #[Value.slice x0a x0n x0c, Value.int IntKind.i64 x1, Value.int IntKind.i64 x2, Value.int IntKind.i64 x3] H (Sp.retK (fun v1 H2 =>
  dT 2 v1 (fun v3 v4 =>
  dSl v3 (fun p5 r6 r7 =>
  dInt IntKind.i64 v4 (fun n8 =>
  R (Ending.returned (Value.slice p5 r6 r7)) H2)))) (pnR R))
theorem F177_eq (x0a : Option Addr) (x0n : Nat) (x0c : Nat) (x1 : Int) (x2 : Int) (x3 : Int) (R : Ending → Heap → Prop) (H : Heap) : F177 x0a x0n x0c x1 x2 x3 R H = vc Tryz.prog (codeOf Tryz.f177) .leaf (postV Tryz.prog Tryz.f177 R) ⟨#[Value.slice x0a x0n x0c, Value.int IntKind.i64 x1, Value.int IntKind.i64 x2, Value.int IntKind.i64 x3] ++ Array.replicate (Tryz.f177.ntmps - 4) undef, []⟩ H := by kernel_rfl
theorem F177_calls {R : Ending → Heap → Prop} {H : Heap} (x0a : Option Addr) (x0n : Nat) (x0c : Nat) (x1 : Int) (x2 : Int) (x3 : Int) (h : F177 x0a x0n x0c x1 x2 x3 R H) : HCalls Tryz.prog 177 #[Value.slice x0a x0n x0c, Value.int IntKind.i64 x1, Value.int IntKind.i64 x2, Value.int IntKind.i64 x3] H R :=
  calls_by (F := F177 x0a x0n x0c x1 x2 x3 R H) .leaf Tryz.func177 rfl (F177_eq x0a x0n x0c x1 x2 x3 R H) h
/-- bollard/bollardref01.Seal -/
def F178 (x0a : Option Addr) (x0n : Nat) (x0c : Nat) (R : Ending → Heap → Prop) (H : Heap) : Prop :=
  sB (decide ((↑x0n : Int) < 4)) (R (Ending.returned (Value.tuple #[Value.slice none 0 0, Value.int IntKind.i64 10])) H) (wr IntKind.i64 ((↑x0n : Int) - 4) (fun n1 =>
  wr IntKind.i64 ((↑x0n : Int) - 4) (fun n2 =>
  ask ((0 : Int) ≤ (0 : Int) ∧ (0 : Int) ≤ n2 ∧ n2 ≤ (↑x0c : Int) ∧ (↑x0c : Int) ≤ (↑x0c : Int)) (HCalls Tryz.prog 227 #[Value.slice (slO x0a 1 0 (↑x0c : Int)) (Int.toNat n2 - Int.toNat 0) (Int.toNat (↑x0c : Int) - Int.toNat 0)] H (Sp.retK (fun v3 H4 =>
  dInt IntKind.i64 v3 (fun n5 =>
  HCalls Tryz.prog 226 #[Value.slice x0a x0n x0c, Value.int IntKind.i64 n1, Value.int IntKind.i64 4, Value.int IntKind.i64 n5] H4 (Sp.retK (fun v6 H7 =>
  dT 2 v6 (fun v8 v9 =>
  dSl v8 (fun p10 r11 r12 =>
  dInt IntKind.i64 v9 (fun n13 =>
  R (Ending.returned (Value.tuple #[Value.slice p10 r11 r12, Value.int IntKind.i64 n13])) H7)))) (pnR R)))) (pnR R))))))
theorem F178_eq (x0a : Option Addr) (x0n : Nat) (x0c : Nat) (R : Ending → Heap → Prop) (H : Heap) : F178 x0a x0n x0c R H = vc Tryz.prog (codeOf Tryz.f178) .leaf (postV Tryz.prog Tryz.f178 R) ⟨#[Value.slice x0a x0n x0c] ++ Array.replicate (Tryz.f178.ntmps - 1) undef, []⟩ H := by kernel_rfl
theorem F178_calls {R : Ending → Heap → Prop} {H : Heap} (x0a : Option Addr) (x0n : Nat) (x0c : Nat) (h : F178 x0a x0n x0c R H) : HCalls Tryz.prog 178 #[Value.slice x0a x0n x0c] H R :=
  calls_by (F := F178 x0a x0n x0c R H) .leaf Tryz.func178 rfl (F178_eq x0a x0n x0c R H) h
/-- bollard/bollardref12.clash -/
def F179 (x0a : Option Addr) (x0n : Nat) (x0c : Nat) (R : Ending → Heap → Prop) (H : Heap) : Prop :=
  ∃ I1 : List Value → Heap → Prop,
  ∃ I2 : List Value → Heap → Nat,
  (I1 ([Value.int IntKind.i64 0]) H) ∧
  ∀ n3 : Int,
  ∀ v4 v5 v6 v7 v8 v9 v10 v11 v12 v13 v14 v15 v16 v17 v18 v19 v20 v21 v22 v23 v24 v25 v26 v27 v28 v29 v30 v31 v32 v33 v34 v35 v36 : Value,
  ∀ H37 : Heap,
  (I1 ([Value.int IntKind.i64 n3]) H37) →
  sB (decide (n3 < (↑x0n : Int))) (nz x0a (fun a39 =>
  ask ((0 : Int) ≤ n3 ∧ n3 < (↑x0n : Int)) (ld H37 (Addr.add a39 (Int.toNat n3 * 2)) (fun v40 =>
  ld H37 (Addr.add (Addr.add a39 (Int.toNat n3 * 2)) 1) (fun v41 =>
  al H37 (Obj.cells #[Value.int IntKind.i64 0, Value.string (ByteArray.mk #[])] 180) (fun r42 H43 =>
  st H43 (Addr.mk r42 0 none) v40 (fun H44 =>
  st H44 (Addr.mk r42 1 none) v41 (fun H45 =>
  ask ((0 : Int) ≤ (0 : Int) ∧ (0 : Int) ≤ n3 ∧ n3 ≤ (↑x0c : Int) ∧ (↑x0c : Int) ≤ (↑x0c : Int)) (∃ I46 : List Value → Heap → Prop,
  ∃ I47 : List Value → Heap → Nat,
  (I46 ([Value.int IntKind.i64 0]) H45) ∧
  ∀ n48 : Int,
  ∀ v49 v50 v51 v52 v53 v54 v55 v56 v57 v58 v59 v60 v61 v62 v63 v64 v65 v66 v67 v68 v69 : Value,
  ∀ H70 : Heap,
  (I46 ([Value.int IntKind.i64 n48]) H70) →
  sB (decide (n48 < (↑(Int.toNat n3 - Int.toNat 0) : Int))) (nz (slO x0a 2 0 (↑x0c : Int)) (fun a72 =>
  ask ((0 : Int) ≤ n48 ∧ n48 < (↑(Int.toNat n3 - Int.toNat (0 : Int)) : Int)) (ld H70 (Addr.add a72 (Int.toNat n48 * 2)) (fun v73 =>
  ld H70 (Addr.add (Addr.add a72 (Int.toNat n48 * 2)) 1) (fun v74 =>
  al H70 (Obj.cells #[Value.int IntKind.i64 0, Value.string (ByteArray.mk #[])] 180) (fun r75 H76 =>
  st H76 (Addr.mk r75 0 none) v73 (fun H77 =>
  st H77 (Addr.mk r75 1 none) v74 (fun H78 =>
  jn (α := VFH 1) (fun v79 H80 =>
  ∀ v81 v82 v83 v84 v85 v86 v87 v88 v89 v90 v91 v92 v93 v94 : Value,
  dBl v79 (fun b95 =>
  sB b95 (R (Ending.returned (Value.bool true)) H80) (wr IntKind.i64 (n48 + 1) (fun n96 =>
  (I46 ([Value.int IntKind.i64 n96]) H80) ∧
  (I47 [Value.int IntKind.i64 n96] H80) < (I47 [Value.int IntKind.i64 n48] H70))))) (fun k97 =>
  ld H78 (Addr.mk r42 0 none) (fun v98 =>
  dInt IntKind.i64 v98 (fun n99 =>
  sB (n99 != 0) (ld H78 (Addr.mk r75 0 none) (fun v100 =>
  dInt IntKind.i64 v100 (fun n101 =>
  sB (n101 != 0) (ld H78 (Addr.mk r42 1 none) (fun v102 =>
  dStr v102 (fun s103 =>
  ld H78 (Addr.mk r75 1 none) (fun v104 =>
  dStr v104 (fun s105 =>
  k97 (Value.bool (ByteArray.toList s103 == ByteArray.toList s105)) H78))))) (k97 (Value.bool false) H78)))) (k97 (Value.bool false) H78)))))))))))) (wr IntKind.i64 (n3 + 1) (fun n106 =>
  (I1 ([Value.int IntKind.i64 n106]) H70) ∧
  (I2 [Value.int IntKind.i64 n106] H70) < (I2 [Value.int IntKind.i64 n3] H37)))))))))))) (R (Ending.returned (Value.bool false)) H37)
theorem F179_eq (x0a : Option Addr) (x0n : Nat) (x0c : Nat) (R : Ending → Heap → Prop) (H : Heap) : F179 x0a x0n x0c R H = vc Tryz.prog (codeOf Tryz.f179) (.node none .leaf (.node none (.node none .leaf (.node none (.node (some ⟨[(9, 3)], [2, 3, 4, 6, 10, 11, 12, 13, 14, 15, 16, 17, 18, 19, 20, 21, 22, 23, 24, 25, 26, 27, 28, 29, 30, 31, 32, 33, 34, 35, 36, 37, 38]⟩) (.node none .leaf (.node none .leaf (.node none (.node none (.node none .leaf (.node none .leaf (.node none (.node (some ⟨[(18, 3)], [2, 6, 19, 20, 21, 22, 23, 24, 25, 26, 27, 28, 29, 30, 31, 32, 33, 34, 35, 36, 37]⟩) (.node none .leaf (.node none .leaf (.node none (.node none (.node none .leaf (.node (some ⟨[(36, 4)], [22, 23, 24, 25, 26, 27, 28, 29, 30, 31, 32, 33, 34, 35]⟩) .leaf .leaf)) .leaf) .leaf))) .leaf) .leaf))) .leaf) .leaf))) .leaf) .leaf)) .leaf)) (postV Tryz.prog Tryz.f179 R) ⟨#[Value.slice x0a x0n x0c] ++ Array.replicate (Tryz.f179.ntmps - 1) undef, []⟩ H := by kernel_rfl
theorem F179_calls {R : Ending → Heap → Prop} {H : Heap} (x0a : Option Addr) (x0n : Nat) (x0c : Nat) (h : F179 x0a x0n x0c R H) : HCalls Tryz.prog 179 #[Value.slice x0a x0n x0c] H R :=
  calls_by (F := F179 x0a x0n x0c R H) (.node none .leaf (.node none (.node none .leaf (.node none (.node (some ⟨[(9, 3)], [2, 3, 4, 6, 10, 11, 12, 13, 14, 15, 16, 17, 18, 19, 20, 21, 22, 23, 24, 25, 26, 27, 28, 29, 30, 31, 32, 33, 34, 35, 36, 37, 38]⟩) (.node none .leaf (.node none .leaf (.node none (.node none (.node none .leaf (.node none .leaf (.node none (.node (some ⟨[(18, 3)], [2, 6, 19, 20, 21, 22, 23, 24, 25, 26, 27, 28, 29, 30, 31, 32, 33, 34, 35, 36, 37]⟩) (.node none .leaf (.node none .leaf (.node none (.node none (.node none .leaf (.node (some ⟨[(36, 4)], [22, 23, 24, 25, 26, 27, 28, 29, 30, 31, 32, 33, 34, 35]⟩) .leaf .leaf)) .leaf) .leaf))) .leaf) .leaf))) .leaf) .leaf))) .leaf) .leaf)) .leaf)) Tryz.func179 rfl (F179_eq x0a x0n x0c R H) h
/-- bollard/bollardref03.EncodeEntry -/
def F180 (x0_0 : Value) (x0_1 : Value) (R : Ending → Heap → Prop) (H : Heap) : Prop :=
  al H (Obj.cells #[x0_0, x0_1] 180) (fun r1 H2 =>
  ask ((0 : Int) ≤ (16 : Int) ∧ (16 : Int) ≤ (16 : Int) ∧ (16 : Int) ≤ (281474976710656 : Int) ∧ (16 : Int) ≤ (9223372036854775807 : Int)) (al H2 (Obj.cells (List.toArray (rowZ [Value.int IntKind.u8 0] (Int.toNat 16))) 5) (fun r3 H4 =>
  ld H4 (Addr.mk r1 0 none) (fun v5 =>
  ld H4 (Addr.mk r1 1 none) (fun v6 =>
  semW Tryz.prog (eqSem BinOp.eql 180 (Operand.tmp 6) (Operand.tmp 7) (Value.agg #[v5, v6]) (Value.agg #[Value.int IntKind.i64 0, Value.string (ByteArray.mk #[])])) (pnR R) H4 (fun v9 H10 =>
  dBl v9 (fun b11 =>
  sB b11 (R (Ending.returned (Value.tuple #[Value.slice (some (Addr.mk r3 0 none)) (Int.toNat 16) (Int.toNat 16), Value.int IntKind.i64 0])) H10) (jn (α := VFH 1) (fun v12 H13 =>
  ∀ v14 v15 v16 v17 v18 v19 v20 v21 v22 v23 v24 v25 v26 v27 v28 v29 v30 v31 v32 v33 v34 v35 v36 : Value,
  dBl v12 (fun b37 =>
  sB b37 (R (Ending.returned (Value.tuple #[Value.slice none 0 0, Value.int IntKind.i64 1])) H13) (ld H13 (Addr.mk r1 0 none) (fun v38 =>
  dInt IntKind.i64 v38 (fun n39 =>
  HCalls Tryz.prog 177 #[Value.slice (some (Addr.mk r3 0 none)) (Int.toNat 16) (Int.toNat 16), Value.int IntKind.i64 0, Value.int IntKind.i64 2, Value.int IntKind.i64 n39] H13 (Sp.retK (fun v40 H41 =>
  dSl v40 (fun p42 r43 r44 =>
  ld H41 (Addr.mk r1 1 none) (fun v45 =>
  dStr v45 (fun s46 =>
  HCalls Tryz.prog 177 #[Value.slice p42 r43 r44, Value.int IntKind.i64 2, Value.int IntKind.i64 1, Value.int IntKind.i64 (↑(ByteArray.size s46) : Int)] H41 (Sp.retK (fun v47 H48 =>
  dSl v47 (fun p49 r50 r51 =>
  ask ((0 : Int) ≤ (3 : Int) ∧ (3 : Int) ≤ (↑r50 : Int) ∧ (↑r50 : Int) ≤ (↑r51 : Int) ∧ (↑r51 : Int) ≤ (↑r51 : Int)) (ld H48 (Addr.mk r1 1 none) (fun v52 =>
  dStr v52 (fun s53 =>
  semW Tryz.prog (Builtin.copy_ #[38, 9] 3 #[Value.slice (slO p49 1 3 (↑r51 : Int)) (Int.toNat (↑r50 : Int) - Int.toNat 3) (Int.toNat (↑r51 : Int) - Int.toNat 3), Value.string s53]) nopR H48 (fun v56 H57 =>
  dInt IntKind.i64 v56 (fun n58 =>
  R (Ending.returned (Value.tuple #[Value.slice p49 r50 r51, Value.int IntKind.i64 0])) H57))))))) (pnR R)))))) (pnR R))))))) (fun k63 =>
  ld H10 (Addr.mk r1 0 none) (fun v64 =>
  dInt IntKind.i64 v64 (fun n65 =>
  sB (decide (n65 < 1)) (k63 (Value.bool true) H10) (ld H10 (Addr.mk r1 0 none) (fun v66 =>
  dInt IntKind.i64 v66 (fun n67 =>
  sB (decide (n67 > 511)) (k63 (Value.bool true) H10) (ld H10 (Addr.mk r1 1 none) (fun v68 =>
  dStr v68 (fun s69 =>
  HCalls Tryz.prog 228 #[Value.string s69] H10 (Sp.retK (fun v70 H71 =>
  dBl v70 (fun b72 =>
  sB (!b72) (ld H71 (Addr.mk r1 1 none) (fun v73 =>
  dStr v73 (fun s74 =>
  sB (!ByteArray.toList s74 == [UInt8.ofBitVec 46#8]) (ld H71 (Addr.mk r1 1 none) (fun v75 =>
  dStr v75 (fun s76 =>
  k63 (Value.bool !ByteArray.toList s76 == [UInt8.ofBitVec 46#8, UInt8.ofBitVec 46#8]) H71))) (k63 (Value.bool false) H71)))) (k63 (Value.bool false) H71))) (pnR R)))))))))))))))))))
theorem F180_eq (x0_0 : Value) (x0_1 : Value) (R : Ending → Heap → Prop) (H : Heap) : F180 x0_0 x0_1 R H = vc Tryz.prog (codeOf Tryz.f180) (.node none .leaf (.node none .leaf (.node none .leaf (.node none (.node (some ⟨[(33, 4)], [10, 11, 12, 13, 14, 15, 16, 17, 18, 19, 20, 21, 22, 23, 24, 25, 26, 27, 28, 29, 30, 31, 32]⟩) .leaf .leaf) .leaf)))) (postV Tryz.prog Tryz.f180 R) ⟨#[Value.agg #[x0_0, x0_1]] ++ Array.replicate (Tryz.f180.ntmps - 1) undef, []⟩ H := by kernel_rfl
theorem F180_calls {R : Ending → Heap → Prop} {H : Heap} (x0_0 : Value) (x0_1 : Value) (h : F180 x0_0 x0_1 R H) : HCalls Tryz.prog 180 #[Value.agg #[x0_0, x0_1]] H R :=
  calls_by (F := F180 x0_0 x0_1 R H) (.node none .leaf (.node none .leaf (.node none .leaf (.node none (.node (some ⟨[(33, 4)], [10, 11, 12, 13, 14, 15, 16, 17, 18, 19, 20, 21, 22, 23, 24, 25, 26, 27, 28, 29, 30, 31, 32]⟩) .leaf .leaf) .leaf)))) Tryz.func180 rfl (F180_eq x0_0 x0_1 R H) h
/-- bollard/bollardref02.copied -/
def F181 (x0a : Option Addr) (x0n : Nat) (x0c : Nat) (R : Ending → Heap → Prop) (H : Heap) : Prop :=
  al H (Obj.cells #[] 5) (fun r1 H2 =>
  semW Tryz.prog (Builtin.append_ #[38, 38] 38 #[Value.slice (some (Addr.mk r1 0 none)) 0 0, Value.slice x0a x0n x0c]) (pnR R) H2 (fun v5 H6 =>
  dSl v5 (fun p7 r8 r9 =>
  R (Ending.returned (Value.slice p7 r8 r9)) H6)))
theorem F181_eq (x0a : Option Addr) (x0n : Nat) (x0c : Nat) (R : Ending → Heap → Prop) (H : Heap) : F181 x0a x0n x0c R H = vc Tryz.prog (codeOf Tryz.f181) .leaf (postV Tryz.prog Tryz.f181 R) ⟨#[Value.slice x0a x0n x0c] ++ Array.replicate (Tryz.f181.ntmps - 1) undef, []⟩ H := by kernel_rfl
theorem F181_calls {R : Ending → Heap → Prop} {H : Heap} (x0a : Option Addr) (x0n : Nat) (x0c : Nat) (h : F181 x0a x0n x0c R H) : HCalls Tryz.prog 181 #[Value.slice x0a x0n x0c] H R :=
  calls_by (F := F181 x0a x0n x0c R H) .leaf Tryz.func181 rfl (F181_eq x0a x0n x0c R H) h
/-- bollard/bollardref06.New -/
def F182 (x0 : Option Addr) (x1 : Int) (R : Ending → Heap → Prop) (H : Heap) : Prop :=
  sB (Option.isNone x0) (R (Ending.returned (Value.tuple #[Value.pointer none, Value.int IntKind.i64 2])) H) (jn (α := VFH 1) (fun v1 H2 =>
  ∀ v3 v4 v5 v6 v7 : Value,
  dBl v1 (fun b8 =>
  sB b8 (R (Ending.returned (Value.tuple #[Value.pointer none, Value.int IntKind.i64 1])) H2) (al H2 (Obj.cells #[Value.pointer x0, Value.int IntKind.i64 x1, Value.slice none 0 0, Value.int IntKind.i64 0, Value.int IntKind.i64 0] 281) (fun r9 H10 =>
  R (Ending.returned (Value.tuple #[Value.pointer (some (Addr.mk r9 0 none)), Value.int IntKind.i64 0])) H10)))) (fun k11 =>
  sB (decide (x1 < 1)) (k11 (Value.bool true) H) (k11 (Value.bool (decide (x1 > 64))) H)))
theorem F182_eq (x0 : Option Addr) (x1 : Int) (R : Ending → Heap → Prop) (H : Heap) : F182 x0 x1 R H = vc Tryz.prog (codeOf Tryz.f182) (.node none .leaf (.node none .leaf (.node none (.node (some ⟨[(13, 4)], [8, 9, 10, 11, 12]⟩) .leaf .leaf) .leaf))) (postV Tryz.prog Tryz.f182 R) ⟨#[Value.pointer x0, Value.int IntKind.i64 x1] ++ Array.replicate (Tryz.f182.ntmps - 2) undef, []⟩ H := by kernel_rfl
theorem F182_calls {R : Ending → Heap → Prop} {H : Heap} (x0 : Option Addr) (x1 : Int) (h : F182 x0 x1 R H) : HCalls Tryz.prog 182 #[Value.pointer x0, Value.int IntKind.i64 x1] H R :=
  calls_by (F := F182 x0 x1 R H) (.node none .leaf (.node none .leaf (.node none (.node (some ⟨[(13, 4)], [8, 9, 10, 11, 12]⟩) .leaf .leaf) .leaf))) Tryz.func182 rfl (F182_eq x0 x1 R H) h
/-- (*bollard/cache.Cache).get -/
def F188 (x0 : Option Addr) (x1 : Int) (R : Ending → Heap → Prop) (H : Heap) : Prop :=
  HCalls Tryz.prog 197 #[Value.pointer x0, Value.int IntKind.i64 x1] H (Sp.retK (fun v1 H2 =>
  dInt IntKind.i64 v1 (fun n3 =>
  sB (n3 != 0) (R (Ending.returned (Value.tuple #[Value.pointer none, Value.int IntKind.i64 n3])) H2) (nz x0 (fun a4 =>
  ld H2 (Addr.add a4 2) (fun v5 =>
  dMap v5 (fun p6 =>
  semW Tryz.prog (Instr.lookup 201 (Value.map p6) (Value.int IntKind.i64 x1) true) (pnR R) H2 (fun v9 H10 =>
  dT 2 v9 (fun v11 v12 =>
  dPtr v11 (fun p13 =>
  dBl v12 (fun b14 =>
  jn (α := VFH 1) (fun v15 H16 =>
  ∀ v17 v18 v19 v20 v21 v22 v23 v24 v25 v26 v27 v28 v29 v30 v31 v32 v33 v34 v35 v36 v37 v38 v39 v40 v41 v42 v43 v44 v45 : Value,
  dPtr v15 (fun p46 =>
  nz x0 (fun a47 =>
  ld H16 (Addr.add a47 3) (fun v48 =>
  dInt IntKind.i64 v48 (fun n49 =>
  wr IntKind.i64 (n49 + 1) (fun n50 =>
  nz x0 (fun a51 =>
  st H16 (Addr.add a51 3) (Value.int IntKind.i64 n50) (fun H52 =>
  nz x0 (fun a53 =>
  ld H52 (Addr.add a53 3) (fun v54 =>
  dInt IntKind.i64 v54 (fun n55 =>
  nz p46 (fun a56 =>
  st H52 (Addr.add a56 2) (Value.int IntKind.i64 n55) (fun H57 =>
  R (Ending.returned (Value.tuple #[Value.pointer p46, Value.int IntKind.i64 0])) H57))))))))))))) (fun k58 =>
  sB b14 (nz x0 (fun a59 =>
  ld H10 (Addr.add a59 4) (fun v60 =>
  dInt IntKind.i64 v60 (fun n61 =>
  wr IntKind.i64 (n61 + 1) (fun n62 =>
  nz x0 (fun a63 =>
  st H10 (Addr.add a63 4) (Value.int IntKind.i64 n62) (fun H64 =>
  k58 (Value.pointer p13) H64))))))) (nz x0 (fun a65 =>
  ld H10 (Addr.add a65 5) (fun v66 =>
  dInt IntKind.i64 v66 (fun n67 =>
  wr IntKind.i64 (n67 + 1) (fun n68 =>
  nz x0 (fun a69 =>
  st H10 (Addr.add a69 5) (Value.int IntKind.i64 n68) (fun H70 =>
  HCalls Tryz.prog 231 #[Value.pointer x0, Value.int IntKind.i64 x1] H70 (Sp.retK (fun v71 H72 =>
  dT 2 v71 (fun v73 v74 =>
  dPtr v73 (fun p75 =>
  dInt IntKind.i64 v74 (fun n76 =>
  sB (n76 != 0) (R (Ending.returned (Value.tuple #[Value.pointer none, Value.int IntKind.i64 n76])) H72) (k58 (Value.pointer p75) H72))))) (pnR R)))))))))))))))))))) (pnR R))
theorem F188_eq (x0 : Option Addr) (x1 : Int) (R : Ending → Heap → Prop) (H : Heap) : F188 x0 x1 R H = vc Tryz.prog (codeOf Tryz.f188) (.node none .leaf (.node none .leaf (.node none .leaf (.node (some ⟨[(7, 254)], [4, 5, 9, 10, 26, 27, 28, 29, 30, 31, 32, 33, 34, 35, 36, 37, 38, 39, 40, 41, 42, 43, 44, 45, 46, 47, 48, 49, 50]⟩) .leaf .leaf)))) (postV Tryz.prog Tryz.f188 R) ⟨#[Value.pointer x0, Value.int IntKind.i64 x1] ++ Array.replicate (Tryz.f188.ntmps - 2) undef, []⟩ H := by kernel_rfl
theorem F188_calls {R : Ending → Heap → Prop} {H : Heap} (x0 : Option Addr) (x1 : Int) (h : F188 x0 x1 R H) : HCalls Tryz.prog 188 #[Value.pointer x0, Value.int IntKind.i64 x1] H R :=
  calls_by (F := F188 x0 x1 R H) (.node none .leaf (.node none .leaf (.node none .leaf (.node (some ⟨[(7, 254)], [4, 5, 9, 10, 26, 27, 28, 29, 30, 31, 32, 33, 34, 35, 36, 37, 38, 39, 40, 41, 42, 43, 44, 45, 46, 47, 48, 49, 50]⟩) .leaf .leaf)))) Tryz.func188 rfl (F188_eq x0 x1 R H) h
end Go.Proofs.YtngploohhmfaiaaGreat.E
/- Contracts of functions. -/
namespace Go.Proofs.YtngploohhmfaiaaGreat.E
open Go Go.Proofs
set_option linter.unusedVariables false
/-- bytes.Clone -/
theorem c_clone (τ : Nat) {xa : Option Addr} {xn : Nat} (xc : Nat) {l : List UInt8} {τx : Nat} {s : TH} (hx : Sl s xa (bvs l) τx) (hn : l.length = xn) (h0 : xa = none → xn = 0) (hb : xn ≤ 1000000000) : TRet Tryz.prog 48 #[.slice xa xn xc] s fun v s' => ∃ a' c', v = .slice a' xn c' ∧ Ch [] s s' ∧ Own s' a' xn c' 5 1 (bvs l) τ ∧ (a' = none ↔ xa = none) := by
  refine F48_calls _ _ _  ?_
  unfold F48
  first | refine sB_d (fun hsB1 => ?_) (fun hsB1 => ?_) | refine sB_nd (fun hsB1 => ?_) (fun hsB1 => ?_) | refine sB_n (fun hsB1 => ?_) (fun hsB1 => ?_) | refine sB_i (fun hsB1 => ?_) (fun hsB1 => ?_)
  ·
    refine ret_t ?_
    have hxa : xa = none := by simpa using hsB1
    have hl : l = [] := List.eq_nil_of_length_eq_zero (by have := h0 hxa; omega)
    have h0' := h0 hxa
    subst hl h0'
    exact ⟨none, 0, rfl, (Ch.refl [] s), Own.nil _ _ _ _, by simp [hxa]⟩
  ·
    refine al_t τ fun r1 s2 hr1 b_1 c_2 z_3 => ?_
    have x_4 := hx.mv c_2 (tagn (by simp))
    refine app_i u38 in5 rfl (b_1.own0 1) x_4 (by rw [bvs_len]; omega) (bvs_one l) h0 (by unfold maxLen; omega) fun s6 a1 c1 o_7 c_50 hnil => ?_
    have c_5 := c_50.toL rfl
    have z_6 := c_5.size
    refine dSl_i ?_
    refine ret_t ?_
    have hxa : xa ≠ none := by intro h; simp [h] at hsB1
    rw [Nat.zero_add, List.nil_append] at o_7
    simp only [Nat.zero_add]
    exact ⟨a1, c1, rfl, (((Ch.refl [] s).ch c_2 (by simp)).chl c_5 (by simp) (by simp <;> omega)), o_7, by simp [hxa, hnil.1]⟩
end Go.Proofs.YtngploohhmfaiaaGreat.E
/- Contracts of functions. -/
namespace Go.Proofs.YtngploohhmfaiaaGreat.E
open Go Go.Proofs
set_option linter.unusedVariables false
/-- (*bollard/disk.Disk).made -/
theorem c_made (d T : Nat) (D : DiskM) (s : TH) (hT : 10 ≤ T) (hd : Disk s d T D) : TRet Tryz.prog 87 #[.pointer (some ⟨d, 0, none⟩)] s fun v s' => v = .bool true ∧ Ch [] s s' := by
  obtain ⟨pa, pc, qa, qc, hs, qs, fr, fm, hD⟩ := id hd
  have hblk := hD.blk
  have hrows := hD.rows
  have hbrel := hD.brel
  have hque := hD.que
  have hqrel := hD.qrel
  have hfails := hD.fails
  refine F87_calls _  ?_
  unfold F87
  refine sB_t (by rfl) ?_
  refine nz_i ?_
  refine ld_t hblk rfl ?_
  refine dSl_i ?_
  refine ret_t ?_
  exact ⟨ret_b (by have := hD.nb; simp; omega), (Ch.refl [] s)⟩
/-- (*bollard/disk.Disk).Blocks -/
theorem c_blocks (d T : Nat) (D : DiskM) (s : TH) (hT : 10 ≤ T) (hd : Disk s d T D) : TRet Tryz.prog 70 #[.pointer (some ⟨d, 0, none⟩)] s fun v s' => v = .int .i64 (D.blocks.length : Int) ∧ Ch [] s s' := by
  obtain ⟨pa, pc, qa, qc, hs, qs, fr, fm, hD⟩ := id hd
  have hblk := hD.blk
  have hrows := hD.rows
  have hbrel := hD.brel
  have hque := hD.que
  have hqrel := hD.qrel
  have hfails := hD.fails
  refine F70_calls _  ?_
  unfold F70
  refine sB_f (by rfl) ?_
  refine nz_i ?_
  refine ld_t hblk rfl ?_
  refine dSl_i ?_
  refine ret_t ?_
  exact ⟨rfl, (Ch.refl [] s)⟩
/-- (*bollard/disk.Disk).look -/
theorem c_look (d T : Nat) (D : DiskM) (b : Int) (s : TH) (hT : 10 ≤ T) (hd : Disk s d T D) : TRet Tryz.prog 193 #[.pointer (some ⟨d, 0, none⟩), .int .i64 b] s fun v s' => v = .int .i64 (if D.has b then 0 else 1) ∧ Ch [] s s' := by
  obtain ⟨pa, pc, qa, qc, hs, qs, fr, fm, hD⟩ := id hd
  have hblk := hD.blk
  have hrows := hD.rows
  have hbrel := hD.brel
  have hque := hD.que
  have hqrel := hD.qrel
  have hfails := hD.fails
  refine F193_calls _ _  ?_
  unfold F193
  refine tcall (c_made _ _ _ _ hT hd) ?_
  rintro _ s2 ⟨rfl, c_1⟩
  have z_2 := c_1.size
  refine dBl_i ?_
  refine sB_f (by rfl) ?_
  refine jn_u ?_
  refine sB_d (fun hsB2 => ?_) (fun hsB2 => ?_)
  ·
    intro _ _ _ _ _ _ _ _ _ _
    refine dBl_i ?_
    refine sB_t (by rfl) ?_
    refine ret_t ?_
    exact ⟨ret_i (by first | rw [if_pos (by unfold DiskM.has; omega)] | rw [if_neg (by unfold DiskM.has; omega)]), ((Ch.refl [] s).ch c_1 (by simp))⟩
  ·
    refine nz_i ?_
    have blk_3 := hblk.ch c_1 (by simp)
    refine ld_t blk_3 rfl ?_
    refine dSl_i ?_
    intro _ _ _ _ _ _ _ _ _ _
    refine dBl_i ?_
    refine sB_d (fun hsB4 => ?_) (fun hsB4 => ?_)
    ·
      refine ret_t ?_
      exact ⟨ret_i (by first | rw [if_pos (by unfold DiskM.has; omega)] | rw [if_neg (by unfold DiskM.has; omega)]), ((Ch.refl [] s).ch c_1 (by simp))⟩
    ·
      refine ret_t ?_
      exact ⟨ret_i (by first | rw [if_pos (by unfold DiskM.has; omega)] | rw [if_neg (by unfold DiskM.has; omega)]), ((Ch.refl [] s).ch c_1 (by simp))⟩
theorem BRel.snoc {s : TH} {τ : Nat} {hs : List Hd} {bs : List (List UInt8)} (h : BRel s τ hs bs) {p : Hd} {b : List UInt8} (hp : ByAt s τ p b) : BRel s τ (hs ++ [p]) (bs ++ [b]) := by
  refine ⟨by simp [h.len], fun i x y hx hy => ?_⟩
  by_cases hi : i < bs.length
  · rw [List.getElem?_append_left (by rw [h.len]; exact hi)] at hx
    rw [List.getElem?_append_left hi] at hy
    exact h.at_ i x y hx hy
  · rw [List.getElem?_append_right (by rw [h.len]; omega)] at hx
    rw [List.getElem?_append_right (by omega)] at hy
    rw [h.len] at hx
    cases hd : i - bs.length with
    | zero => rw [hd] at hx hy; simp at hx hy; subst hx hy; exact hp
    | succ k => rw [hd] at hx; simp at hx
theorem BRel.nil (s : TH) (τ : Nat) : BRel s τ [] [] := ⟨rfl, fun i p b h _ => by simp at h⟩
theorem QRel.nil (s : TH) (τ : Nat) : QRel s τ [] [] := ⟨rfl, fun i p b h _ => by simp at h⟩
/-- (*bollard/disk.Disk).Read -/
theorem c_dread (d T τ : Nat) (D : DiskM) (b : Int) {l : List UInt8} (s : TH) (hT : 10 ≤ T) (hd : Disk s d T D) (hb : D.has b) (hl : D.blocks[b.toNat]? = some l) (hf : D.fails b ≤ 0) : TRet Tryz.prog 266 #[.pointer (some ⟨d, 0, none⟩), .int .i64 b] s fun v s' => ∃ a c, v = .tuple #[.slice a 128 c, .int .i64 0] ∧ Ch [] s s' ∧ Own s' a 128 c 5 1 (bvs l) τ := by
  obtain ⟨pa, pc, qa, qc, hs, qs, fr, fm, hD⟩ := id hd
  have hblk := hD.blk
  have hrows := hD.rows
  have hbrel := hD.brel
  have hque := hD.que
  have hqrel := hD.qrel
  have hfails := hD.fails
  refine F266_calls _ _  ?_
  unfold F266
  refine tcall (c_look _ _ _ _ _ hT hd) ?_
  rintro _ s2 ⟨rfl, c_1⟩
  have z_2 := c_1.size
  refine dInt_i ?_
  refine sB_ne (fun hsB1 => ?_) (fun hsB1 => ?_)
  ·
    refine ret_t ?_
    exact absurd (if_pos hb) hsB1
  ·
    have hb1 := hb; unfold DiskM.has at hb1
    obtain ⟨p, hp⟩ : ∃ p, hs[b.toNat]? = some p := ⟨hs[b.toNat]'(by rw [hD.brel.len]; omega), by simp⟩
    obtain ⟨ap, rfl⟩ : ∃ ap, pa = some ap := by
      have h0 := hD.nb
      rcases hD.rows.2 with ⟨_, h2, _⟩ | ⟨g, o, L, h2, _⟩
      · omega
      · exact ⟨_, h2⟩
    refine nz_i ?_
    have blk_3 := hblk.ch c_1 (by simp)
    refine ld_t blk_3 rfl ?_
    refine dMap_i ?_
    have fails_4 := hfails.ch c_1 (by simp)
    refine look_g keyI u131 z3 fails_4 b (hD.fok b) ?_
    refine dInt_i ?_
    refine sB_d (fun hsB2 => by exfalso; omega) (fun hsB2 => ?_)
    refine nz_i ?_
    refine ld_t blk_3 rfl ?_
    refine dSl_i ?_
    refine nz_i ?_
    refine ask_t (by omega) ?_
    have rows_5 := hrows.mv c_1 (tagn (by simp))
    refine ld_sl rows_5.sl (by rw [Nat.mul_one]; exact bcell hp) ?_
    refine dSl_i ?_
    have brel_6 := hbrel.mv c_1 (tagn (by simp))
    refine tcall (c_clone τ _ (brel_6.at_ _ _ _ hp hl).sl (brel_6.at_ _ _ _ hp hl).len (fun h => by obtain ⟨y, hy⟩ := (hD.brel.at_ _ _ _ hp hl).ne; rw [h] at hy; cases hy) (by omega)) ?_
    rintro _ s36 ⟨xa2, xc2, rfl, c_7, nx_9, hxn⟩
    have z_8 := c_7.size
    refine dSl_i ?_
    refine ret_t ?_
    exact ⟨xa2, xc2, rfl, (((Ch.refl [] s).ch c_1 (by simp)).ch c_7 (by simp)), nx_9⟩
end Go.Proofs.YtngploohhmfaiaaGreat.E
/- The shelf's contracts, laid at this program, in plain words. -/
namespace Go.Proofs
open Go.Shelf
def Tryz.collectA_ren : Go.Shelf.Ren := ⟨fun | 8 => 216 | 11 => 258 | n => n, fun | 26 => 3 | 28 => 229 | 24 => 73 | 0 => 0 | 33 => 68 | 4 => 4 | n => n, fun | n => n⟩
theorem Tryz.collectA : Go.Proofs.SlLaysZI.n8 Tryz.prog Tryz.collectA_ren :=
  { mixed := by kernel_rfl,
    f8 := ⟨Tryz.f216.name, by decide, Tryz.func216.trans (congrArg some (by kernel_rfl))⟩,
    f11 := ⟨Tryz.f258.name, by decide, Tryz.func258.trans (congrArg some (by kernel_rfl))⟩,
    t0 := Tryz.underlying0,
    a0 := Tryz.isAgg0,
    z0 := Tryz.sizeOf0,
    v0 := Tryz.zeroValue0,
    t24 := Tryz.underlying73,
    a24 := Tryz.isAgg73,
    z24 := Tryz.sizeOf73,
    v24 := Tryz.zeroValue73,
    t26 := Tryz.underlying3,
    a26 := Tryz.isAgg3,
    z26 := Tryz.sizeOf3,
    v26 := Tryz.zeroValue3,
    t28 := Tryz.underlying229,
    a28 := Tryz.isAgg229,
    z28 := Tryz.sizeOf229,
    v28 := Tryz.zeroValue229,
    i26 := by kernel_rfl }
def Tryz.keysA_ren : Go.Shelf.Ren := ⟨fun | 7 => 276 | 10 => 279 | n => n, fun | 23 => 201 | 26 => 3 | 3 => 254 | 28 => 229 | 0 => 0 | 27 => 228 | 33 => 68 | 4 => 4 | n => n, fun | n => n⟩
theorem Tryz.keysA : Go.Proofs.SlLaysZI.n7 Tryz.prog Tryz.keysA_ren :=
  { mixed := by kernel_rfl,
    f7 := ⟨Tryz.f276.name, by decide, Tryz.func276.trans (congrArg some (by kernel_rfl))⟩,
    f10 := ⟨Tryz.f279.name, by decide, Tryz.func279.trans (congrArg some (by kernel_rfl))⟩,
    t0 := Tryz.underlying0,
    a0 := Tryz.isAgg0,
    z0 := Tryz.sizeOf0,
    v0 := Tryz.zeroValue0,
    t4 := Tryz.underlying4,
    a4 := Tryz.isAgg4,
    z4 := Tryz.sizeOf4,
    v4 := Tryz.zeroValue4,
    t23 := Tryz.underlying201,
    a23 := Tryz.isAgg201,
    z23 := Tryz.sizeOf201,
    v23 := Tryz.zeroValue201,
    t26 := Tryz.underlying3,
    a26 := Tryz.isAgg3,
    z26 := Tryz.sizeOf3,
    v26 := Tryz.zeroValue3,
    t27 := Tryz.underlying228,
    a27 := Tryz.isAgg228,
    z27 := Tryz.sizeOf228,
    v27 := Tryz.zeroValue228,
    t28 := Tryz.underlying229,
    a28 := Tryz.isAgg229,
    z28 := Tryz.sizeOf229,
    v28 := Tryz.zeroValue229,
    t33 := Tryz.underlying68,
    a33 := Tryz.isAgg68,
    z33 := Tryz.sizeOf68,
    v33 := Tryz.zeroValue68 }
def Tryz.keysB_ren : Go.Shelf.Ren := ⟨fun | 7 => 219 | 10 => 259 | n => n, fun | 23 => 190 | 26 => 3 | 3 => 194 | 28 => 229 | 0 => 0 | 27 => 228 | 33 => 68 | 4 => 4 | n => n, fun | n => n⟩
theorem Tryz.keysB : Go.Proofs.SlLaysZI.n7 Tryz.prog Tryz.keysB_ren :=
  { mixed := by kernel_rfl,
    f7 := ⟨Tryz.f219.name, by decide, Tryz.func219.trans (congrArg some (by kernel_rfl))⟩,
    f10 := ⟨Tryz.f259.name, by decide, Tryz.func259.trans (congrArg some (by kernel_rfl))⟩,
    t0 := Tryz.underlying0,
    a0 := Tryz.isAgg0,
    z0 := Tryz.sizeOf0,
    v0 := Tryz.zeroValue0,
    t4 := Tryz.underlying4,
    a4 := Tryz.isAgg4,
    z4 := Tryz.sizeOf4,
    v4 := Tryz.zeroValue4,
    t23 := Tryz.underlying190,
    a23 := Tryz.isAgg190,
    z23 := Tryz.sizeOf190,
    v23 := Tryz.zeroValue190,
    t26 := Tryz.underlying3,
    a26 := Tryz.isAgg3,
    z26 := Tryz.sizeOf3,
    v26 := Tryz.zeroValue3,
    t27 := Tryz.underlying228,
    a27 := Tryz.isAgg228,
    z27 := Tryz.sizeOf228,
    v27 := Tryz.zeroValue228,
    t28 := Tryz.underlying229,
    a28 := Tryz.isAgg229,
    z28 := Tryz.sizeOf229,
    v28 := Tryz.zeroValue229,
    t33 := Tryz.underlying68,
    a33 := Tryz.isAgg68,
    z33 := Tryz.sizeOf68,
    v33 := Tryz.zeroValue68 }
def Tryz.sortFA_ren : Go.Shelf.Ren := ⟨fun | 6 => 278 | 15 => 203 | 14 => 280 | 28 => 245 | 29 => 246 | 20 => 281 | 21 => 282 | 22 => 283 | 23 => 284 | 24 => 285 | 25 => 286 | 26 => 287 | 27 => 288 | 46 => 289 | 47 => 268 | 48 => 269 | 49 => 290 | 50 => 291 | 57 => 292 | n => n, fun | 22 => 73 | 24 => 3 | 25 => 315 | 3 => 3 | 39 => 69 | 0 => 0 | 53 => 25 | 55 => 85 | 4 => 4 | 46 => 291 | 45 => 290 | 50 => 146 | 5 => 5 | 9 => 9 | 66 => 305 | 70 => 309 | 76 => 311 | 77 => 160 | n => n, fun | n => n⟩
theorem Tryz.sortFA : Go.Proofs.SlLaysF.n6 Tryz.prog Tryz.sortFA_ren :=
  { mixed := by kernel_rfl,
    f6 := ⟨Tryz.f278.name, by decide, Tryz.func278.trans (congrArg some (by kernel_rfl))⟩,
    f14 := ⟨Tryz.f280.name, by decide, Tryz.func280.trans (congrArg some (by kernel_rfl))⟩,
    f15 := Tryz.func203.trans (congrArg some (by kernel_rfl)),
    f20 := ⟨Tryz.f281.name, by decide, Tryz.func281.trans (congrArg some (by kernel_rfl))⟩,
    f21 := ⟨Tryz.f282.name, by decide, Tryz.func282.trans (congrArg some (by kernel_rfl))⟩,
    f22 := ⟨Tryz.f283.name, by decide, Tryz.func283.trans (congrArg some (by kernel_rfl))⟩,
    f23 := ⟨Tryz.f284.name, by decide, Tryz.func284.trans (congrArg some (by kernel_rfl))⟩,
    f24 := ⟨Tryz.f285.name, by decide, Tryz.func285.trans (congrArg some (by kernel_rfl))⟩,
    f25 := ⟨Tryz.f286.name, by decide, Tryz.func286.trans (congrArg some (by kernel_rfl))⟩,
    f26 := ⟨Tryz.f287.name, by decide, Tryz.func287.trans (congrArg some (by kernel_rfl))⟩,
    f27 := ⟨Tryz.f288.name, by decide, Tryz.func288.trans (congrArg some (by kernel_rfl))⟩,
    f28 := Tryz.func245.trans (congrArg some (by kernel_rfl)),
    f29 := Tryz.func246.trans (congrArg some (by kernel_rfl)),
    f46 := ⟨Tryz.f289.name, by decide, Tryz.func289.trans (congrArg some (by kernel_rfl))⟩,
    f47 := Tryz.func268.trans (congrArg some (by kernel_rfl)),
    f48 := Tryz.func269.trans (congrArg some (by kernel_rfl)),
    f49 := ⟨Tryz.f290.name, by decide, Tryz.func290.trans (congrArg some (by kernel_rfl))⟩,
    f50 := ⟨Tryz.f291.name, by decide, Tryz.func291.trans (congrArg some (by kernel_rfl))⟩,
    f57 := ⟨Tryz.f292.name, by decide, Tryz.func292.trans (congrArg some (by kernel_rfl))⟩,
    t0 := Tryz.underlying0,
    a0 := Tryz.isAgg0,
    z0 := Tryz.sizeOf0,
    v0 := Tryz.zeroValue0,
    t3 := Tryz.underlying3,
    a3 := Tryz.isAgg3,
    z3 := Tryz.sizeOf3,
    v3 := Tryz.zeroValue3,
    t4 := Tryz.underlying4,
    a4 := Tryz.isAgg4,
    z4 := Tryz.sizeOf4,
    v4 := Tryz.zeroValue4,
    t5 := Tryz.underlying5,
    a5 := Tryz.isAgg5,
    z5 := Tryz.sizeOf5,
    v5 := Tryz.zeroValue5,
    t9 := Tryz.underlying9,
    a9 := Tryz.isAgg9,
    z9 := Tryz.sizeOf9,
    v9 := Tryz.zeroValue9,
    t22 := Tryz.underlying73,
    a22 := Tryz.isAgg73,
    z22 := Tryz.sizeOf73,
    v22 := Tryz.zeroValue73,
    a24 := Tryz.isAgg3,
    z24 := Tryz.sizeOf3,
    t25 := Tryz.underlying315,
    a25 := Tryz.isAgg315,
    z25 := Tryz.sizeOf315,
    v25 := Tryz.zeroValue315,
    t39 := Tryz.underlying69,
    a39 := Tryz.isAgg69,
    z39 := Tryz.sizeOf69,
    v39 := Tryz.zeroValue69,
    t45 := Tryz.underlying290,
    a45 := Tryz.isAgg290,
    z45 := Tryz.sizeOf290,
    v45 := Tryz.zeroValue290,
    t46 := Tryz.underlying291,
    a46 := Tryz.isAgg291,
    z46 := Tryz.sizeOf291,
    v46 := Tryz.zeroValue291,
    t50 := Tryz.underlying146,
    a50 := Tryz.isAgg146,
    z50 := Tryz.sizeOf146,
    v50 := Tryz.zeroValue146,
    t53 := Tryz.underlying25,
    a53 := Tryz.isAgg25,
    z53 := Tryz.sizeOf25,
    v53 := Tryz.zeroValue25,
    t55 := Tryz.underlying85,
    a55 := Tryz.isAgg85,
    z55 := Tryz.sizeOf85,
    v55 := Tryz.zeroValue85,
    t66 := Tryz.underlying305,
    a66 := Tryz.isAgg305,
    z66 := Tryz.sizeOf305,
    v66 := Tryz.zeroValue305,
    t70 := Tryz.underlying309,
    a70 := Tryz.isAgg309,
    z70 := Tryz.sizeOf309,
    v70 := Tryz.zeroValue309,
    t76 := Tryz.underlying311,
    a76 := Tryz.isAgg311,
    z76 := Tryz.sizeOf311,
    v76 := Tryz.zeroValue311,
    t77 := Tryz.underlying160,
    a77 := Tryz.isAgg160,
    z77 := Tryz.sizeOf160,
    v77 := Tryz.zeroValue160 }
end Go.Proofs
/- Contracts of functions. -/
namespace Go.Proofs.YtngploohhmfaiaaGreat.E
open Go Go.Proofs Go.RowKit Go.Maps Go.Shelf Go.Sort
set_option linter.unusedVariables false
set_option linter.unusedSimpArgs false
/-- a contract of the kit's, of a call that turns nothing old, in states with marks: all that is new has one mark -/
theorem tret_new (τ : Nat) {P : Program} {f : FuncId} {args : Array Value} {s : TH} {Q : Value → TH → Prop}
    (h : ∀ w : World, w.heap = s.h → Calls P f args w fun e w' => ∃ v, e = .returned v ∧ Go.RowKit.Below w.heap.size w w' ∧ Q v ⟨w'.heap, fun j => if j < s.h.size then s.g j else τ⟩) :
    TRet P f args s fun v s' => Q v s' ∧ Ch [] s s' := fun w hw =>
  (h w hw).mono fun e w' ⟨v, he, hb, hq⟩ => ⟨⟨v, ⟨w'.heap, fun j => if j < s.h.size then s.g j else τ⟩, he, rfl, hq, ⟨by rw [← hw]; exact hb.size, fun j hj => by simp [hj], fun j hj _ => by rw [← hw]; exact hb.block j (by rw [hw]; exact hj)⟩⟩, ⟨hb.os, hb.tape, hb.output⟩⟩
theorem own_of_row {w' : World} {B e k n : Nat} {v : Value} {xs : List Value} {τ : Nat} {g : Nat → Nat} (h : w'.ownsRow B e k v n xs) (hg : ∀ j, B ≤ j → g j = τ) : ∃ a c, v = .slice a n c ∧ Own ⟨w'.heap, g⟩ a n c e k xs τ ∧ ∀ b, a = some b → B ≤ b.block := by
  rcases h.2 with ⟨rfl, rfl⟩ | ⟨b, cap, cur, rfl, hb, hc, h1, h2, h3, h4⟩
  · exact ⟨none, 0, rfl, ⟨h.1, .inl ⟨rfl, rfl, rfl⟩⟩, fun b hb => by cases hb⟩
  · exact ⟨_, cap, rfl, ⟨h.1, .inr ⟨b, 0, cur.toList, rfl, ⟨by simpa using hc, hg b hb⟩, h1, h2, by simp [h3], by simpa using h4⟩⟩, fun b hb => by cases hb; assumption⟩
def inI64 (x : Int) : Prop := -9223372036854775808 ≤ x ∧ x ≤ 9223372036854775807
theorem wf_i64 {x : Int} (h : inI64 x) : (Lit.int .i64 x).wf = true := by
  unfold inI64 at h
  have e1 : IntKind.i64.min = -9223372036854775808 := by decide
  have e2 : IntKind.i64.max = 9223372036854775807 := by decide
  simp only [Lit.wf, e1, e2, Bool.and_eq_true, decide_eq_true_eq]
  exact h
/-- a map of numbers in the kit's words: what its values are is left open -/
theorem owns_of {P : Program} {K : TypeId} (hK : P.underlying K = some (.int .i64)) {s : TH} {r τ : Nat} {m : List (Int × Value)} (h : MapK (Value.int .i64) s r m τ) (w : World) (hw : w.heap = s.h) (hn : m.length ≤ 17592186044416) (hk : ∀ k ∈ m.map (·.1), inI64 k) :
    ∃ D0 : DataW Unit, w.ownsMap P K (fun _ => some (.nil, [])) r m.length D0 ∧ (intKeys D0).Perm (m.map (·.1)) ∧ Go.Maps.size D0 = m.length := by
  obtain ⟨es, ck, hg, he⟩ := h.get
  have hlen : es.length = m.length := by have := congrArg List.length he.key; simpa using this
  have hread : ∀ x ∈ es, ∃ k, x.key = .int .i64 k ∧ inI64 k := fun x hx => by
    have : x.key ∈ es.map (·.key) := List.mem_map.2 ⟨x, hx, rfl⟩
    rw [he.key] at this
    obtain ⟨p, hp, hpx⟩ := List.mem_map.1 this
    exact ⟨p.1, hpx.symm, hk _ (List.mem_map.2 ⟨p, hp, rfl⟩)⟩
  have hrd : ∀ (x : MapEntry) (k : Int), x.key = .int .i64 k → inI64 k → Go.WideElems.rd (H := Unit) P K (fun _ => some (.nil, [])) x = some (.int .i64 k, .nil) := fun x k hx hk => by
    obtain ⟨xk, xv, xb⟩ := x
    cases hx
    exact Go.WideElems.rd_mk (R := fun _ => some (.nil, [])) (yv := (.nil, [])) (keyOf_int_mk hK (wf_i64 hk)) rfl
  have hnd : (es.map (·.key)).Nodup := by
    rw [he.key]
    exact List.pairwise_map.2 ((List.pairwise_map.1 h.nd).imp fun {a b} hab => by simpa using hab)
  refine ⟨.map ((es.map (Go.WideElems.rg P K (fun _ => some (.nil, [])))).foldr DataW.insert []), ⟨es.toArray, ck, by rw [hw]; exact hg, ⟨by unfold maxLen; simp; omega, ⟨by simpa using he.old, by simpa using he.born, by simpa using hnd⟩, ?_⟩, by simp; omega, by simp⟩, ?_, ?_⟩
  · intro x hx
    obtain ⟨k, h1, h2⟩ := hread x (by simpa using hx)
    exact ⟨_, hrd x k h1 h2⟩
  · have hp := Go.WideShapes.sorted_perm (es.map (Go.WideElems.rg (H := Unit) P K (fun _ => some (.nil, []))))
    have hq := hp.map (fun p => Go.intOf p.1)
    refine hq.trans (List.Perm.of_eq ?_)
    rw [List.map_map]
    have e1 : es.map ((fun p : Lit × DataW Unit => Go.intOf p.1) ∘ Go.WideElems.rg P K (fun _ => some (.nil, []))) = es.map (fun x => match x.key with | .int _ k => k | _ => 0) := by
      apply List.map_congr_left
      intro x hx
      obtain ⟨k, h1, h2⟩ := hread x hx
      simp only [Function.comp, Go.WideElems.rg_of (hrd x k h1 h2), h1]
      rfl
    rw [e1]
    have e2 : es.map (fun x => match x.key with | .int _ k => k | _ => 0) = (es.map (·.key)).map (fun v => match v with | .int _ k => k | _ => 0) := by rw [List.map_map]; rfl
    rw [e2, he.key, List.map_map]
    rfl
  · show (List.foldr DataW.insert [] _).length = _
    rw [(Go.WideShapes.sorted_perm _).length_eq, List.length_map, hlen]
/-- slices.Collect over maps.Keys of a map of numbers -/
theorem c_collect (τ : Nat) (Bm r tb τb τm : Nat) {m : List (Int × Value)} {s : TH} (hB : Blk s Bm [.map (some r)] tb τb) (hm : MapK (Value.int .i64) s r m τm) (hn : m.length ≤ 17592186044416) (hk : ∀ k ∈ m.map (·.1), inI64 k) :
    TRet Tryz.prog 216 #[.func (.func 279) #[] #[.pointer (some ⟨Bm, 0, none⟩)]] s fun v s' => (∃ a c ss, v = .slice a m.length c ∧ ss.Perm (m.map (·.1)) ∧ Own s' a m.length c 3 1 (ivs ss) τ ∧ ∀ b, a = some b → s.h.size ≤ b.block) ∧ Ch [] s s' :=
  tret_new τ fun w hw => by
    have hm0 : w.cell? ⟨Bm, 0, none⟩ = some (.map (some r)) := by rw [cell_eq, hw]; exact hB.cell 0
    obtain ⟨D0, ho, hp, hsz⟩ := owns_of (P := Tryz.prog) (K := 3) (by kernel_rfl) hm w hw hn hk
    have hseq : SeqGives Fence.wide 4 Tryz.prog 279 #[.pointer (some ⟨Bm, 0, none⟩)] encZ (fun ss : List Int => ss.Perm (intKeys D0)) (Go.Maps.size D0) w :=
      AnyZI.keys_gives (ρ := Tryz.keysA_ren) { Tryz.keysA with } Fence.wide 4 trivial rfl (by omega) Bm r m.length D0 w (by rw [hw]; exact hB.lt) hm0 ho
    have h := AnyZI.collect_in (ρ := Tryz.collectA_ren) Tryz.collectA Fence.wide 6 trivial trivial rfl (by omega) 279 #[.pointer (some ⟨Bm, 0, none⟩)] trivial (enters_of Tryz.func279 (by kernel_rfl) rfl) _ (Go.Maps.size D0) (by rw [hsz]; unfold maxLen; omega) (by rw [hsz]; omega) w hseq
    refine ((callsIn_wide (n := 6)).1 h).mono ?_
    rintro e w' ⟨v, ss, rfl, hs, hrow, hv, hb⟩
    have hp2 := hs.trans hp
    have hl : ss.length = m.length := by rw [hp2.length_eq]; simp
    obtain ⟨a, c, rfl, hO, hnew⟩ := own_of_row (g := fun j => if j < s.h.size then s.g j else τ) (τ := τ) hrow (fun j hj => by rw [if_neg (by rw [← hw]; omega)])
    rw [hl] at hO ⊢
    exact ⟨_, rfl, hb, a, c, ss, rfl, hp2, hO, by rw [← hw]; exact hnew⟩
end Go.Proofs.YtngploohhmfaiaaGreat.E
/- Contracts of functions. -/
namespace Go.Proofs.YtngploohhmfaiaaGreat.E
open Go Go.Proofs Go.RowKit Go.Maps Go.Shelf Go.Sort
set_option linter.unusedVariables false
set_option linter.unusedSimpArgs false
set_option maxHeartbeats 400000 in
theorem held1 {f0 c r : Nat} {m : List (Int × Value)} {bx by_ : Nat} (x y ux uy : Int) {s : TH} {τ : Nat} (w : World) (hw : w.heap = s.h) (h0 : w.cell? ⟨f0, 0, none⟩ = some (.pointer (some ⟨c, 0, none⟩))) (h1 : w.cell? ⟨c, 2, none⟩ = some (.map (some r)))
    (hm : MapK (Value.int .i64) s r m τ) (hx : mget x m = some (.pointer (some ⟨bx, 0, none⟩))) (hy : mget y m = some (.pointer (some ⟨by_, 0, none⟩)))
    (hbx : w.cell? ⟨bx, 2, none⟩ = some (.int .i64 ux)) (hby : w.cell? ⟨by_, 2, none⟩ = some (.int .i64 uy)) (hux : 0 ≤ ux ∧ ux ≤ 9223372036854775807) (huy : 0 ≤ uy ∧ uy ≤ 9223372036854775807) :
    Calls Tryz.prog 277 #[.int .i64 x, .int .i64 y, .pointer (some ⟨f0, 0, none⟩)] w fun e w' => e = .returned (.int .i64 (ux - uy)) ∧ ∃ n, w' = w.drewN n := by
  have L1 : RowKit.Hid (∀ n, (Instr.lookup 201 (.map (some r)) (.int .i64 x) false).run Tryz.prog (w.drewN n) = .ok (.pointer (some ⟨bx, 0, none⟩)) (w.drewN n)) := fun n => by
    have := run_look keyI u201 z254 hm x false (w.drewN n) hw
    rw [hx] at this; exact this
  have L2 : RowKit.Hid (∀ n, (Instr.lookup 201 (.map (some r)) (.int .i64 y) false).run Tryz.prog (w.drewN n) = .ok (.pointer (some ⟨by_, 0, none⟩)) (w.drewN n)) := fun n => by
    have := run_look keyI u201 z254 hm y false (w.drewN n) hw
    rw [hy] at this; exact this
  have hwr : IntKind.i64.wrap (ux - uy) = ux - uy := wrap_id (by omega) (by omega)
  clear hm hx hy hw
  go_enter Tryz.func277, Tryz.ntmps277
  go_wp2
  refine wp_region_quiet_lit (by kernel_rfl) (by kernel_rfl) ?_
  iterate 5 (refine wpQuiet_step (fun K hK => ?_); go_simp; refine hK _ ?_; clear hK K)
  refine wpQuiet_step (fun K hK => ?_)
  go_simp
  refine ⟨_, fun a => by rw [L1.out a]; exact ⟨rfl, rfl⟩, hK _ ?_⟩
  clear hK K
  iterate 8 (refine wpQuiet_step (fun K hK => ?_); go_simp; refine hK _ ?_; clear hK K)
  refine wpQuiet_step (fun K hK => ?_)
  go_simp
  refine ⟨_, fun a => by rw [L2.out a]; exact ⟨rfl, rfl⟩, hK _ ?_⟩
  clear hK K
  iterate 5 (refine wpQuiet_step (fun K hK => ?_); go_simp; refine hK _ ?_; clear hK K)
  refine wpQuiet_nil ?_
  rintro _ ⟨nq, rfl⟩
  go_wp2
  go_ret
  exact ⟨rfl, nq, rfl⟩
section
variable {α : Type} [Inhabited α]
theorem sortW_get (enc : α → Value) (w : World) (blk off m : Nat) (dk : Array α) (os : Array Obj) (j : Nat) (hj : j < w.heap.size) : (sortWorld enc w blk off m dk os).heap[j]? = if blk = j then (w.heap[j]?).map (Go.Sort.onCells (Go.Sort.putCells enc off dk)) else w.heap[j]? := by
  show ((w.heap.modify blk _) ++ os)[j]? = _
  rw [Array.getElem?_append_left (by simpa using hj), Array.getElem?_modify]
theorem sortW_on {enc : α → Value} {w : World} {s : TH} (hw : w.heap = s.h) (blk off m : Nat) (dk : Array α) (os : Array Obj) : On blk s ⟨(sortWorld enc w blk off m dk os).heap, s.g⟩ := by
  refine ⟨?_, fun _ _ => rfl, fun j hj hn => ?_⟩
  · show s.h.size ≤ ((w.heap.modify blk _) ++ os).size
    simp [hw]
  · show (sortWorld enc w blk off m dk os).heap[j]? = _
    rw [sortW_get _ _ _ _ _ _ _ _ (by rw [hw]; exact hj), if_neg (fun e => hn e.symm), hw]
theorem putCells_get (enc : α → Value) (off : Nat) (d : Array α) (c : Array Value) (j : Nat) : (Go.Sort.putCells enc off d c)[j]? = (c[j]?).map fun x => if off ≤ j ∧ j < off + d.size then enc d[j - off]! else x := by
  unfold Go.Sort.putCells
  rw [Array.getElem?_mapIdx]
theorem sortW_own {enc : α → Value} {w : World} {s : TH} (hw : w.heap = s.h) {g o n c e τ : Nat} {xs : List Value} (hO : Own s (some ⟨g, o, none⟩) n c e 1 xs τ) (m : Nat) (dk : Array α) (hd : dk.size = n) (os : Array Obj) :
    Own ⟨(sortWorld enc w g o m dk os).heap, s.g⟩ (some ⟨g, o, none⟩) n c e 1 (dk.toList.map enc) τ := by
  rcases hO.2 with ⟨h0, _⟩ | ⟨g', o', L, h0, h1, h2, h3, h4, h5⟩
  · cases h0
  · cases h0
    have hg : (sortWorld enc w g o m dk os).heap[g]? = some (.cells (Go.Sort.putCells enc o dk L.toArray) e (0, 0)) := by
      rw [sortW_get _ _ _ _ _ _ _ _ (by rw [hw]; exact h1.lt), if_pos rfl, hw, h1.get]
      rfl
    refine ⟨by simp [hd], .inr ⟨g, o, (Go.Sort.putCells enc o dk L.toArray).toList, rfl, ⟨by simpa using hg, h1.tag⟩, h2, h3, by simpa [Go.Sort.putCells] using h4, ?_⟩⟩
    apply List.ext_getElem?
    intro i
    rw [List.getElem?_take, List.getElem?_drop]
    by_cases hi : i < n
    · rw [if_pos (by omega), Array.getElem?_toList, putCells_get]
      have hL : o + i < L.length := by omega
      simp [hL, hd, hi]
    · rw [if_neg (by omega), List.getElem?_eq_none (by simp; omega)]
end
/-- a cache's buffers: each key's pointer, and when it was used last -/
structure UsedAt (s : TH) (m : List (Int × Value)) (u : Int → Int) (τb : Nat) : Prop where
  at_ : ∀ k ∈ m.map (·.1), ∃ b lb tb, mget k m = some (.pointer (some ⟨b, 0, none⟩)) ∧ Blk s b lb tb τb ∧ lb[2]? = some (.int .i64 (u k)) ∧ 0 ≤ u k ∧ u k ≤ 9223372036854775807
  inj : ∀ x ∈ m.map (·.1), ∀ y ∈ m.map (·.1), u x = u y → x = y
theorem UsedAt.mv {s s' : TH} {m : List (Int × Value)} {u : Int → Int} {τb : Nat} {B : Nat → Prop} (h : UsedAt s m u τb) (c : Chg B s s') (hn : ∀ j, j < s.h.size → s.g j = τb → ¬ B j) : UsedAt s' m u τb :=
  ⟨fun k hk => by
    obtain ⟨b, lb, tb, h1, h2, h3⟩ := h.at_ k hk
    exact ⟨b, lb, tb, h1, h2.mv c (hn b h2.lt h2.tag), h3⟩, h.inj⟩
abbrev leU (u : Int → Int) : Int → Int → Bool := fun x y => decide (u x ≤ u y)
theorem c_sortHeld {a : Option Addr} {n c f0 cc r tf τf tc τc τm τb τ : Nat} {ss : List Int} {m : List (Int × Value)} {lc : List Value} {s : TH} (u : Int → Int) (hO : Own s a n c 3 1 (ivs ss) τ) (hn : n ≤ 17592186044416) (hF : Blk s f0 [.pointer (some ⟨cc, 0, none⟩)] tf τf) (hC : Blk s cc lc tc τc) (hC2 : lc[2]? = some (.map (some r)))
    (hm : MapK (Value.int .i64) s r m τm) (hU : UsedAt s m u τb) (hs : ∀ x ∈ ss, x ∈ m.map (·.1)) (ht : τf ≠ τ ∧ τc ≠ τ ∧ τm ≠ τ ∧ τb ≠ τ) :
    TRet Tryz.prog 278 #[.slice a n c, .func (.func 277) #[] #[.pointer (some ⟨f0, 0, none⟩)]] s fun v s' => v = .tuple #[] ∧ OnA a s s' ∧ Own s' a n c 3 1 (ivs (ss.mergeSort (leU u))) τ := by
  have hl : ss.length = n := by have := hO.1; rw [ivs_len] at this; omega
  by_cases h0 : n = 0
  · subst h0
    have hss : ss = [] := List.eq_nil_of_length_eq_zero hl
    subst hss
    intro w hw
    refine (AnyF.slices_SortFunc_none (ρ := Tryz.sortFA_ren) { Tryz.sortFA with } a c (.func (.func 277) #[] #[.pointer (some ⟨f0, 0, none⟩)]) w).mono ?_
    rintro e w' ⟨rfl, rfl⟩
    exact ⟨⟨_, s, rfl, hw.symm, rfl, ⟨Nat.le_refl _, fun _ _ => rfl, fun _ _ _ => rfl⟩, by simpa using hO⟩, Like.refl _⟩
  obtain ⟨g, o, rfl⟩ : ∃ g o, a = some ⟨g, o, none⟩ := by
    rcases hO.2 with ⟨_, h, _⟩ | ⟨g, o, L, h, _⟩
    · exact absurd h h0
    · exact ⟨g, o, h⟩
  have hgt : s.g g = τ := hO.tagOf
  intro w hw
  let K := {k : Int // k ∈ m.map (·.1)}
  let enc : K → Value := fun k => .int .i64 k.1
  let cf : K → K → Int := fun x y => u x.1 - u y.1
  let d : Array K := (ss.attach.map fun x => ⟨x.1, hs x.1 x.2⟩).toArray
  have hd : d.size = n := by simp [d, hl]
  obtain ⟨x0, hx0⟩ : ∃ x, x ∈ ss := by cases ss with | nil => simp at hl; omega | cons x _ => exact ⟨x, by simp⟩
  letI : Inhabited K := ⟨⟨x0, hs x0 hx0⟩⟩
  have hdm : d.toList.map (fun k : K => k.1) = ss := by
    simp [d, Function.comp_def]
  have hne : ∀ j, s.g j ≠ τ → j ≠ g := fun j hj e => hj (by rw [e]; exact hgt)
  have hcmp : CmpLays1 Tryz.prog 277 #[.pointer (some ⟨f0, 0, none⟩)] enc cf g o n w := by
    intro m0 os dk hdk x y
    have hon := sortW_on (enc := enc) hw g o m0 dk os
    obtain ⟨bx, lx, tx, x1, x2, x3, x4⟩ := hU.at_ x.1 x.2
    obtain ⟨by_, ly, ty, y1, y2, y3, y4⟩ := hU.at_ y.1 y.2
    have e0 := hF.on hon (hne _ (by rw [hF.tag]; exact ht.1))
    have e1 := hC.on hon (hne _ (by rw [hC.tag]; exact ht.2.1))
    have e2 := hm.on hon (hne _ (by rw [hm.tag]; exact ht.2.2.1))
    have e3 := x2.on hon (hne _ (by rw [x2.tag]; exact ht.2.2.2))
    have e4 := y2.on hon (hne _ (by rw [y2.tag]; exact ht.2.2.2))
    have h := held1 (s := ⟨(sortWorld enc w g o m0 dk os).heap, s.g⟩) x.1 y.1 (u x.1) (u y.1) (sortWorld enc w g o m0 dk os) rfl (e0.cell 0) ((e1.cell 2).trans hC2) e2 x1 y1 ((e3.cell 2).trans x3) ((e4.cell 2).trans y3) x4 y4
    refine h.mono ?_
    rintro e w' ⟨rfl, q, rfl⟩
    exact ⟨rfl, q, #[], (grow_empty _).symm⟩
  have hH : Go.Sort.Holds enc w g o d := by
    intro j hj
    have hj' : j < n := by rw [← hd]; exact hj
    have hcell := hO.sl.cells w hw j (enc d[j]!) (by
      have : (ivs ss)[j]? = some (enc d[j]!) := by
        rw [← hdm]
        simp [ivs, enc, hj]
      exact this)
    rw [add_mk] at hcell
    refine ⟨hcell, ?_⟩
    rcases hO.2 with ⟨h, _⟩ | ⟨g', o', L, h, h1, _⟩
    · cases h
    · cases h
      rw [frozen_eq, hw]; exact h1.frozen _
  have hlt : ∀ x y : K, ltOf cf x y = decide (u x.1 < u y.1) := fun x y => by
    unfold ltOf
    by_cases h : u x.1 < u y.1
    · rw [decide_eq_true h]; exact decide_eq_true (by show u x.1 - u y.1 < 0; omega)
    · rw [decide_eq_false h]; exact decide_eq_false (by show ¬ (u x.1 - u y.1 < 0); omega)
  have hO2 : SWO (ltOf cf) := ⟨fun x => by rw [hlt]; simp, fun x y z h1 h2 => by rw [hlt] at *; simp at *; omega, fun x y z h1 h2 => by rw [hlt] at *; simp at *; omega⟩
  have hT : ∀ x y, (ltOf cf) x y = false → (ltOf cf) y x = false → x = y := fun x y h1 h2 => by
    rw [hlt] at h1 h2; simp at h1 h2
    exact Subtype.ext (hU.inj x.1 x.2 y.1 y.2 (by omega))
  have hS := Any.slices_SortFunc_total (ρ := Tryz.sortFA_ren) Tryz.sortFA enc (fun _ => rfl) cf hO2 277 #[.pointer (some ⟨f0, 0, none⟩)] g o c d w (enters_of Tryz.func277 (by kernel_rfl) rfl) (by rw [hd]; exact hcmp) hH (by rw [hw]; rcases hO.2 with ⟨h, _⟩ | ⟨g', o', L, h, h1, _⟩ <;> cases h; exact h1.lt) (by rw [hd]; omega) hT
  rw [hd] at hS
  refine hS.mono ?_
  rintro e w' ⟨rfl, n', os, rfl⟩
  refine ⟨⟨_, ⟨_, s.g⟩, rfl, rfl, rfl, Chg.mono (sortW_on (enc := enc) hw g o n' _ os) (fun j hj e => by simp [e]), ?_⟩, rfl, rfl, rfl⟩
  have := sortW_own (enc := enc) hw hO n' (d.toList.mergeSort fun x y => !(ltOf cf) y x).toArray (by simp [hd]) os
  have e : ((d.toList.mergeSort fun x y => !(ltOf cf) y x).toArray.toList.map enc) = ivs (ss.mergeSort (leU u)) := by
    show (d.toList.mergeSort _).map ((Value.int .i64) ∘ fun k : K => k.1) = _
    rw [← List.map_map, ← hdm]
    unfold ivs
    congr 1
    apply List.map_mergeSort
    intro x _ y _
    rw [hlt]
    by_cases h : u x.1 ≤ u y.1 <;> simp [leU, h] <;> omega
  rw [e] at this
  exact this
theorem c_sfun {Bm r tb τb0 τm f0 cc tf τf tc τc τu : Nat} (τ : Nat) {m : List (Int × Value)} {lc : List Value} {s : TH} (u : Int → Int) (hB : Blk s Bm [.map (some r)] tb τb0) (hm : MapK (Value.int .i64) s r m τm) (hn : m.length ≤ 17592186044416) (hk : ∀ k ∈ m.map (·.1), inI64 k)
    (hF : Blk s f0 [.pointer (some ⟨cc, 0, none⟩)] tf τf) (hC : Blk s cc lc tc τc) (hC2 : lc[2]? = some (.map (some r))) (hU : UsedAt s m u τu) :
    TRet Tryz.prog 275 #[.func (.func 279) #[] #[.pointer (some ⟨Bm, 0, none⟩)], .func (.func 277) #[] #[.pointer (some ⟨f0, 0, none⟩)]] s fun v s' => ∃ (a : Option Addr) (c : Nat) (ss : List Int), v = .slice a m.length c ∧ ss.Perm (m.map (·.1)) ∧ Ch [] s s' ∧ Own s' a m.length c 3 1 (ivs (ss.mergeSort (leU u))) τ := by
  refine F275_calls _ _ _ _ _ _ ?_
  unfold F275
  obtain ⟨τ', hτ⟩ : ∃ τ', τf ≠ τ' ∧ τc ≠ τ' ∧ τm ≠ τ' ∧ τu ≠ τ' := ⟨τf + τc + τm + τu + 1, by omega⟩
  refine tcall (c_collect τ' _ _ _ _ _ hB hm hn hk) ?_
  rintro _ s1 ⟨⟨a, c, ss, rfl, hp, hO, hnew⟩, c1⟩
  refine dSl_i ?_
  refine tcall (c_sortHeld u hO hn (hF.ch c1 (by simp)) (hC.ch c1 (by simp)) hC2 (hm.ch c1 (by simp)) (hU.mv c1 (tagn (by simp))) (fun x hx => hp.mem_iff.1 hx) hτ) ?_
  rintro _ s2 ⟨rfl, c2, hO2⟩
  have c3 : Ch [] s s2 := Chg.trans c1 c2 fun j hj hB => by
    cases a with
    | none => simp at hB
    | some b => simp at hB; have := hnew b rfl; omega
  -- the row's mark: as asked
  let s3 : TH := ⟨s2.h, fun j => if j < s.h.size then s2.g j else τ⟩
  have c4 : Ch [] s s3 := ⟨c3.size, fun j hj => by show (if j < s.h.size then s2.g j else τ) = _; rw [if_pos hj]; exact c3.tag j hj, c3.get⟩
  refine ret_t (s := s3) ⟨a, c, ss, rfl, hp, c4, hO2.1, hO2.2.imp id ?_⟩
  rintro ⟨g, o, L, h1, h2, h3⟩
  refine ⟨g, o, L, h1, ⟨h2.get, ?_⟩, h3⟩
  have := hnew _ h1
  show (if g < s.h.size then s2.g g else τ) = τ
  rw [if_neg (by simp at this; omega)]
end Go.Proofs.YtngploohhmfaiaaGreat.E
/- The plain law of GeomApart: which blocks are what; no program here. -/
namespace Go.Proofs.YtngploohhmfaiaaGreat.E
open Go
set_option linter.unusedVariables false
theorem dm {b q t : Int} (hb : 0 < b) (h0 : 0 ≤ t) (h1 : t < b) : (q * b + t) / b = q ∧ (q * b + t) % b = t :=
  (Int.ediv_emod_unique hb).2 ⟨by rw [Int.mul_comm b q]; omega, h0, h1⟩
/-- a block of inodes -/
def tab (b c x : Int) : Prop := 2 ≤ x % b ∧ x % b < 2 + c / 4
instance (b c x : Int) : Decidable (tab b c x) := by unfold tab; infer_instance
def f1 (b c n x : Int) : Int := if x < n * b ∧ ¬ tab b c x then 1 else 0
/-! inodes -/
theorem mget_none {κ : Type} [DecidableEq κ] {k : κ} {m : List (κ × Value)} (h : k ∉ m.map (·.1)) : mget k m = none := by
  induction m with
  | nil => rfl
  | cons p m ih =>
    obtain ⟨k', v⟩ := p
    simp only [List.map_cons, List.mem_cons, not_or] at h
    simp only [mget, if_neg h.1]; exact ih h.2
theorem mset_new {κ : Type} [DecidableEq κ] {k : κ} {x : Value} {m : List (κ × Value)} (h : k ∉ m.map (·.1)) : mset k x m = m ++ [(k, x)] := by
  induction m with
  | nil => rfl
  | cons p m ih =>
    obtain ⟨k', v⟩ := p
    simp only [List.map_cons, List.mem_cons, not_or] at h
    simp only [mset, if_neg h.1, ih h.2]; rfl
theorem mget_mset {κ : Type} [DecidableEq κ] {k k' : κ} {x : Value} {m : List (κ × Value)} : mget k (mset k' x m) = if k = k' then some x else mget k m := by
  induction m with
  | nil => simp only [mset, mget]
  | cons p m ih =>
    obtain ⟨k2, v⟩ := p
    by_cases h : k' = k2
    · subst h; simp only [mset, if_pos, mget]; by_cases h2 : k = k' <;> simp [h2]
    · simp only [mset, if_neg h, mget, ih]
      by_cases h2 : k = k2
      · subst h2; simp [Ne.symm h]
      · simp [h2]
end Go.Proofs.YtngploohhmfaiaaGreat.E
/- Contracts of functions. -/
namespace Go.Proofs.YtngploohhmfaiaaGreat.E
open Go Go.Proofs Go.RowKit Go.Maps Go.Shelf Go.Sort
set_option linter.unusedVariables false
set_option linter.unusedSimpArgs false
theorem mget_mdel {m : List (Int × Value)} (hn : (m.map (·.1)).Nodup) (k k' : Int) : mget k (mdel k' m) = if k = k' then none else mget k m := by
  induction m with
  | nil => simp [mdel, mget]
  | cons p m ih =>
    rw [List.map_cons, List.nodup_cons] at hn
    rw [mdel]
    by_cases h : k' = p.1
    · rw [if_pos h]
      by_cases hk : k = k'
      · rw [if_pos hk]
        exact mget_none (by rw [hk, h]; exact hn.1)
      · rw [if_neg hk, mget, if_neg (by omega)]
    · rw [if_neg h, mget, ih hn.2, mget]
      by_cases hk : k = p.1
      · rw [if_pos hk, if_pos hk, if_neg (by omega)]
      · rw [if_neg hk, if_neg hk]
theorem keys_mdel {m : List (Int × Value)} (k : Int) : (mdel k m).map (·.1) = (m.map (·.1)).erase k := by
  induction m with
  | nil => rfl
  | cons p m ih =>
    rw [mdel, List.map_cons, List.erase_cons]
    by_cases h : k = p.1
    · simp [h]
    · rw [if_neg h, if_neg (by simpa using fun e => h e.symm), List.map_cons, ih]
/-- a buffer; a cache -/
structure BufM where
  blk : Int
  by_ : List UInt8
  pins : Int
  used : Int
structure CacheM where
  l : List BufM
  bound : Int
  clock : Int
  hits : Int
  misses : Int
def rmB (l : List BufM) (b : Int) : List BufM := l.filter fun x => !(x.blk == b)
def freeB (l : List BufM) : Option BufM := l.find? fun x => x.pins == 0
def CacheM.room (C : CacheM) : Option (List BufM) := if (C.l.length : Int) < C.bound then some C.l else (freeB C.l).map fun v => rmB C.l v.blk
def CacheM.find (C : CacheM) (b : Int) : Option BufM := C.l.find? fun x => x.blk == b
def CacheM.get (C : CacheM) (bs : List (List UInt8)) (b : Int) : CacheM × Int :=
  match C.find b with
  | some x => ({ C with l := rmB C.l b ++ [{ x with used := C.clock + 1 }], clock := C.clock + 1, hits := C.hits + 1 }, 0)
  | none =>
    match C.room with
    | none => ({ C with misses := C.misses + 1 }, 60)
    | some l => ({ C with l := l ++ [⟨b, (bs[b.toNat]?).getD [], 0, C.clock + 1⟩], clock := C.clock + 1, misses := C.misses + 1 }, 0)
def bufv (p : Hd) (pins used : Int) : List Value := [.slice p.1 128 p.2, .int .i64 pins, .int .i64 used]
structure Bufs (s : TH) (τ : Nat) (l : List BufM) (bp : Int → Nat) (bh : Int → Hd) : Prop where
  at_ : ∀ x ∈ l, Blk s (bp x.blk) (bufv (bh x.blk) x.pins x.used) 258 τ
theorem Bufs.mv {s s' : TH} {τ : Nat} {l : List BufM} {bp : Int → Nat} {bh : Int → Hd} {B : Nat → Prop} (h : Bufs s τ l bp bh) (c : Chg B s s') (hn : ∀ j, j < s.h.size → s.g j = τ → ¬ B j) : Bufs s' τ l bp bh :=
  ⟨fun x hx => (h.at_ x hx).mv c (hn _ (h.at_ x hx).lt (h.at_ x hx).tag)⟩
structure BufY (s : TH) (τ : Nat) (l : List BufM) (bh : Int → Hd) : Prop where
  at_ : ∀ x ∈ l, ByAt s τ (bh x.blk) x.by_
theorem BufY.mv {s s' : TH} {τ : Nat} {l : List BufM} {bh : Int → Hd} {B : Nat → Prop} (h : BufY s τ l bh) (c : Chg B s s') (hn : ∀ j, j < s.h.size → s.g j = τ → ¬ B j) : BufY s' τ l bh := ⟨fun x hx => (h.at_ x hx).mv c hn⟩
structure MapOf (m : List (Int × Value)) (l : List BufM) (bp : Int → Nat) : Prop where
  keys : (m.map (·.1)).Perm (l.map (·.blk))
  at_ : ∀ x ∈ l, mget x.blk m = some (.pointer (some ⟨bp x.blk, 0, none⟩))
  inj : ∀ x ∈ l, ∀ y ∈ l, bp x.blk = bp y.blk → x.blk = y.blk
  nd : (l.map (·.blk)).Nodup
  rng : ∀ x ∈ l, 0 ≤ x.blk ∧ x.blk < 2048
structure CacheP (s : TH) (c T d : Nat) (C : CacheM) (r : Nat) (m : List (Int × Value)) (bp : Int → Nat) (bh : Int → Hd) : Prop where
  blk : Blk s c [.pointer (some ⟨d, 0, none⟩), .int .i64 C.bound, .map (some r), .int .i64 C.clock, .int .i64 C.hits, .int .i64 C.misses] 203 T
  map : MapK (Value.int .i64) s r m (T + 1)
  bufs : Bufs s (T + 2) C.l bp bh
  bufy : BufY s (T + 3) C.l bh
  mo : MapOf m C.l bp
  bnd : 1 ≤ C.bound ∧ C.bound ≤ 64
  len : (C.l.length : Int) ≤ C.bound
structure COk (C : CacheM) : Prop where
  srt : C.l.Pairwise fun x y => x.used < y.used
  rng : ∀ x ∈ C.l, 0 ≤ x.used ∧ x.used ≤ C.clock
  clk : 0 ≤ C.clock ∧ C.clock ≤ 9223372036854775807
  cnt : 0 ≤ C.hits ∧ C.hits ≤ 9223372036854775807 ∧ 0 ≤ C.misses ∧ C.misses ≤ 9223372036854775807
  pin : ∀ x ∈ C.l, 0 ≤ x.pins ∧ x.pins ≤ 100
/-- a cache over a disk, in memory -/
structure Cache (s : TH) (c T d : Nat) (C : CacheM) : Prop where
  p : ∃ r m bp bh, CacheP s c T d C r m bp bh
  ok : COk C
theorem CacheP.mv {s s' : TH} {c T d r : Nat} {C : CacheM} {m : List (Int × Value)} {bp : Int → Nat} {bh : Int → Hd} {B : Nat → Prop} (h : CacheP s c T d C r m bp bh) (k : Chg B s s') (hn : ∀ j, j < s.h.size → T ≤ s.g j → s.g j < T + 10 → ¬ B j) : CacheP s' c T d C r m bp bh :=
  ⟨h.blk.mv k (of_rng hn (Nat.le_refl _) (by omega) c h.blk.lt h.blk.tag), h.map.mv k (of_rng hn (by omega) (by omega) r h.map.lt h.map.tag), h.bufs.mv k (of_rng hn (by omega) (by omega)), h.bufy.mv k (of_rng hn (by omega) (by omega)), h.mo, h.bnd, h.len⟩
theorem Cache.mv {s s' : TH} {c T d : Nat} {C : CacheM} {B : Nat → Prop} (h : Cache s c T d C) (k : Chg B s s') (hn : ∀ j, j < s.h.size → T ≤ s.g j → s.g j < T + 10 → ¬ B j) : Cache s' c T d C := by
  obtain ⟨⟨r, m, bp, bh, hp⟩, ok⟩ := h
  exact ⟨⟨r, m, bp, bh, hp.mv k hn⟩, ok⟩
def usedOf (l : List BufM) (k : Int) : Int := ((l.find? fun x => x.blk == k).map (·.used)).getD 0
theorem find_nd {l : List BufM} (hn : (l.map (·.blk)).Nodup) {x : BufM} (hx : x ∈ l) : (l.find? fun y => y.blk == x.blk) = some x := by
  induction l with
  | nil => cases hx
  | cons y l ih =>
    rw [List.map_cons, List.nodup_cons] at hn
    rw [List.find?_cons]
    rcases List.mem_cons.1 hx with rfl | hx
    · simp
    · have : (y.blk == x.blk) = false := by
        simp only [beq_eq_false_iff_ne]
        intro e; exact hn.1 (by rw [e]; exact List.mem_map.2 ⟨x, hx, rfl⟩)
      rw [this]; exact ih hn.2 hx
theorem usedOf_eq {l : List BufM} (hn : (l.map (·.blk)).Nodup) {x : BufM} (hx : x ∈ l) : usedOf l x.blk = x.used := by unfold usedOf; rw [find_nd hn hx]; rfl
theorem used_ne {l : List BufM} (h : l.Pairwise fun x y => x.used < y.used) : ∀ x ∈ l, ∀ y ∈ l, x.used = y.used → x.blk = y.blk := by
  induction l with
  | nil => intro x hx; cases hx
  | cons z l ih =>
    rw [List.pairwise_cons] at h
    intro x hx y hy e
    rcases List.mem_cons.1 hx with hx1 | hx1 <;> rcases List.mem_cons.1 hy with hy1 | hy1
    · rw [hx1, hy1]
    · have := h.1 y hy1; rw [hx1] at e; omega
    · have := h.1 x hx1; rw [hy1] at e; omega
    · exact ih h.2 x hx1 y hy1 e
theorem CacheP.usedAt {s : TH} {c T d r : Nat} {C : CacheM} {m : List (Int × Value)} {bp : Int → Nat} {bh : Int → Hd} (h : CacheP s c T d C r m bp bh) (ok : COk C) : UsedAt s m (usedOf C.l) (T + 2) := by
  have hmem : ∀ k ∈ m.map (·.1), ∃ x ∈ C.l, x.blk = k := fun k hk => by
    have := h.mo.keys.mem_iff.1 hk
    obtain ⟨x, hx, e⟩ := List.mem_map.1 this
    exact ⟨x, hx, e⟩
  refine ⟨fun k hk => ?_, fun a ha b hb e => ?_⟩
  · obtain ⟨x, hx, rfl⟩ := hmem k hk
    have h1 := ok.rng x hx
    have h2 := ok.clk
    exact ⟨_, _, _, h.mo.at_ x hx, h.bufs.at_ x hx, by rw [usedOf_eq h.mo.nd hx]; rfl, by rw [usedOf_eq h.mo.nd hx]; omega, by rw [usedOf_eq h.mo.nd hx]; omega⟩
  · obtain ⟨x, hx, rfl⟩ := hmem a ha
    obtain ⟨y, hy, rfl⟩ := hmem b hb
    rw [usedOf_eq h.mo.nd hx, usedOf_eq h.mo.nd hy] at e
    exact used_ne ok.srt x hx y hy e
/-- the keys, sorted by when they were used, are the blocks in their order -/
theorem sorted_keys {l : List BufM} {ss : List Int} (hn : (l.map (·.blk)).Nodup) (hs : l.Pairwise fun x y => x.used < y.used) (hp : ss.Perm (l.map (·.blk))) : ss.mergeSort (leU (usedOf l)) = l.map (·.blk) := by
  have h1 : (ss.mergeSort (leU (usedOf l))).Perm (l.map (·.blk)) := (List.mergeSort_perm ss _).trans hp
  have htot : ∀ a b : Int, (leU (usedOf l) a b || leU (usedOf l) b a) = true := fun a b => by simp [leU]; omega
  have htr : ∀ a b c : Int, leU (usedOf l) a b = true → leU (usedOf l) b c = true → leU (usedOf l) a c = true := fun a b c h1 h2 => by simp [leU] at *; omega
  have h2 := List.pairwise_mergeSort htr htot ss
  have h3 : (l.map (·.blk)).Pairwise fun a b => leU (usedOf l) a b = true := by
    rw [List.pairwise_map]
    refine hs.imp_of_mem fun {a b} ha hb hab => ?_
    simp only [leU]
    rw [usedOf_eq hn ha, usedOf_eq hn hb]
    exact decide_eq_true (by omega)
  refine h1.eq_of_pairwise (le := fun a b => leU (usedOf l) a b = true) (fun a b ha hb h4 h5 => ?_) h2 h3
  have ha' := h1.mem_iff.1 ha
  obtain ⟨x, hx, rfl⟩ := List.mem_map.1 ha'
  obtain ⟨y, hy, rfl⟩ := List.mem_map.1 hb
  simp [leU] at h4 h5
  rw [usedOf_eq hn hx, usedOf_eq hn hy] at h4 h5
  exact used_ne hs x hx y hy (by omega)
theorem MapOf.get_none {m : List (Int × Value)} {l : List BufM} {bp : Int → Nat} (h : MapOf m l bp) {b : Int} (hf : (l.find? fun x => x.blk == b) = none) : mget b m = none := mget_none (fun hm => by
  have := h.keys.mem_iff.1 hm
  obtain ⟨x, hx, e⟩ := List.mem_map.1 this
  have := List.find?_eq_none.1 hf x hx
  simp [e] at this)
theorem find_mem {l : List BufM} {b : Int} {x : BufM} (hf : (l.find? fun x => x.blk == b) = some x) : x ∈ l ∧ x.blk = b := ⟨List.mem_of_find?_eq_some hf, by simpa using List.find?_some hf⟩
theorem MapOf.get_some {m : List (Int × Value)} {l : List BufM} {bp : Int → Nat} (h : MapOf m l bp) {b : Int} {x : BufM} (hf : (l.find? fun x => x.blk == b) = some x) : mget b m = some (.pointer (some ⟨bp b, 0, none⟩)) := by
  obtain ⟨h1, rfl⟩ := find_mem hf; exact h.at_ x h1
theorem rmB_mem {l : List BufM} {b : Int} {x : BufM} : x ∈ rmB l b ↔ x ∈ l ∧ x.blk ≠ b := by unfold rmB; simp
theorem rmB_sub (l : List BufM) (b : Int) : (rmB l b).Sublist l := List.filter_sublist
theorem rmB_keys {l : List BufM} (hn : (l.map (·.blk)).Nodup) (b : Int) : (rmB l b).map (·.blk) = (l.map (·.blk)).erase b := by
  rw [hn.erase_eq_filter, List.filter_map]
  unfold rmB
  congr 1
theorem MapOf.del {m : List (Int × Value)} {l : List BufM} {bp : Int → Nat} (h : MapOf m l bp) (hm : (m.map (·.1)).Nodup) (b : Int) : MapOf (mdel b m) (rmB l b) bp :=
  ⟨by rw [keys_mdel, rmB_keys h.nd]; exact h.keys.erase b, fun x hx => by rw [mget_mdel hm, if_neg (rmB_mem.1 hx).2]; exact h.at_ x (rmB_mem.1 hx).1,
    fun x hx y hy => h.inj x (rmB_mem.1 hx).1 y (rmB_mem.1 hy).1, h.nd.sublist ((rmB_sub l b).map _), fun x hx => h.rng x (rmB_mem.1 hx).1⟩
theorem MapOf.add {m : List (Int × Value)} {l : List BufM} {bp : Int → Nat} (h : MapOf m l bp) (x : BufM) (p : Nat) (hx : x.blk ∉ l.map (·.blk)) (hr : 0 ≤ x.blk ∧ x.blk < 2048) (hp : ∀ y ∈ l, bp y.blk ≠ p) :
    MapOf (mset x.blk (.pointer (some ⟨p, 0, none⟩)) m) (l ++ [x]) (fun k => if k = x.blk then p else bp k) := by
  have hk : x.blk ∉ m.map (·.1) := fun e => hx (h.keys.mem_iff.1 e)
  have hne : ∀ y ∈ l, y.blk ≠ x.blk := fun y hy e => hx (e ▸ List.mem_map.2 ⟨y, hy, rfl⟩)
  refine ⟨?_, fun y hy => ?_, fun y hy z hz e => ?_, ?_, fun y hy => ?_⟩
  · rw [mset_new hk]; simpa using h.keys.append_right [x.blk]
  · rw [mget_mset]
    rcases List.mem_append.1 hy with hy | hy
    · rw [if_neg (hne y hy)]; simp only [if_neg (hne y hy)]; exact h.at_ y hy
    · simp at hy; subst hy; simp
  · rcases List.mem_append.1 hy with hy1 | hy1 <;> rcases List.mem_append.1 hz with hz1 | hz1
    · simp only [if_neg (hne y hy1), if_neg (hne z hz1)] at e; exact h.inj y hy1 z hz1 e
    · rw [List.mem_singleton] at hz1; rw [hz1] at e
      simp only [if_neg (hne y hy1), if_true] at e
      exact absurd e (hp y hy1)
    · rw [List.mem_singleton] at hy1; rw [hy1] at e
      simp only [if_neg (hne z hz1), if_true] at e
      exact absurd e.symm (hp z hz1)
    · rw [List.mem_singleton] at hy1 hz1; rw [hy1, hz1]
  · rw [List.map_append, List.nodup_append]
    refine ⟨h.nd, by simp, fun a ha b hb e => ?_⟩
    simp at hb; subst hb; subst e; exact hx ha
  · rcases List.mem_append.1 hy with hy | hy
    · exact h.rng y hy
    · simp at hy; subst hy; exact hr
/-- another order, other counts: the map is the same -/
theorem MapOf.again {m : List (Int × Value)} {l l' : List BufM} {bp : Int → Nat} (h : MapOf m l bp) (hp : (l'.map (·.blk)).Perm (l.map (·.blk))) : MapOf m l' bp := by
  have hmem : ∀ x ∈ l', ∃ y ∈ l, y.blk = x.blk := fun x hx => by
    obtain ⟨y, hy, e⟩ := List.mem_map.1 (hp.mem_iff.1 (List.mem_map.2 ⟨x, hx, rfl⟩)); exact ⟨y, hy, e⟩
  refine ⟨h.keys.trans hp.symm, fun x hx => ?_, fun x hx y hy e => ?_, hp.nodup_iff.2 h.nd, fun x hx => ?_⟩
  · obtain ⟨y, hy, e⟩ := hmem x hx; rw [← e]; exact h.at_ y hy
  · obtain ⟨x', hx', ex⟩ := hmem x hx
    obtain ⟨y', hy', ey⟩ := hmem y hy
    rw [← ex, ← ey] at e ⊢; exact h.inj x' hx' y' hy' e
  · obtain ⟨y, hy, e⟩ := hmem x hx; rw [← e]; exact h.rng y hy
end Go.Proofs.YtngploohhmfaiaaGreat.E
/- Contracts of functions. -/
namespace Go.Proofs.YtngploohhmfaiaaGreat.E
open Go Go.Proofs Go.RowKit Go.Maps Go.Shelf Go.Sort
set_option linter.unusedVariables false
set_option linter.unusedSimpArgs false
/-- maps.Keys[map[int]*bollard/cache.buffer,int,*bollard/cache.buffer] -/
theorem c_keys (r : Nat) (s : TH) : TRet Tryz.prog 276 #[.map (some r)] s fun v s' => ∃ B, v = .func (.func 279) #[] #[.pointer (some ⟨B, 0, none⟩)] ∧ Ch [] s s' ∧ Blk s' B [.map (some r)] 201 0 := by
  refine F276_calls _  ?_
  unfold F276
  refine al_t 0 fun r1 s2 hr1 b_1 c_2 z_3 => ?_
  refine ret_t ?_
  exact ⟨r1, rfl, ((Ch.refl [] s).ch c_2 (by simp)), b_1⟩
/-- (*bollard/cache.Cache).look -/
theorem c_clook (c T d Td : Nat) (C : CacheM) (D : DiskM) (b : Int) (s : TH) (hT : 10 ≤ T) (hTd : 10 ≤ Td) (hTT : T + 10 ≤ Td ∨ Td + 10 ≤ T) (hc : Cache s c T d C) (hd : Disk s d Td D) : TRet Tryz.prog 197 #[.pointer (some ⟨c, 0, none⟩), .int .i64 b] s fun v s' => v = .int .i64 (if D.has b then 0 else 1) ∧ Ch [] s s' := by
  obtain ⟨⟨r, m, bp, bh, hP⟩, ok⟩ := id hc
  have hcb := hP.blk
  have hcm := hP.map
  have hbu := hP.bufs
  have hby := hP.bufy
  refine F197_calls _ _  ?_
  unfold F197
  refine jn_u ?_
  refine sB_f (by rfl) ?_
  refine nz_i ?_
  first | refine ld_t hcb rfl ?_
  refine dMap_i ?_
  intro _ _ _ _ _ _ _ _
  refine dBl_i ?_
  refine sB_f (by rfl) ?_
  refine jn_u ?_
  refine sB_d (fun hsB3 => ?_) (fun hsB3 => ?_)
  ·
    intro _ _ _ _ _ _ _ _ _ _
    refine dBl_i ?_
    refine sB_t (by rfl) ?_
    refine ret_t ?_
    exact ⟨ret_i (by first | rw [if_pos (by unfold DiskM.has; omega)] | rw [if_neg (by unfold DiskM.has; omega)]), (Ch.refl [] s)⟩
  ·
    refine nz_i ?_
    first | refine ld_t hcb rfl ?_
    refine dPtr_i ?_
    refine tcall (c_blocks _ _ _ _ hTd hd) ?_
    rintro _ s30 ⟨rfl, c_1⟩
    have z_2 := c_1.size
    refine dInt_i ?_
    intro _ _ _ _ _ _ _ _ _ _
    refine dBl_i ?_
    refine sB_d (fun hsB5 => ?_) (fun hsB5 => ?_)
    ·
      refine ret_t ?_
      exact ⟨ret_i (by first | rw [if_pos (by unfold DiskM.has; omega)] | rw [if_neg (by unfold DiskM.has; omega)]), ((Ch.refl [] s).ch c_1 (by simp))⟩
    ·
      refine ret_t ?_
      exact ⟨ret_i (by first | rw [if_pos (by unfold DiskM.has; omega)] | rw [if_neg (by unfold DiskM.has; omega)]), ((Ch.refl [] s).ch c_1 (by simp))⟩
/-- (*bollard/cache.Cache).Held -/
theorem c_held (c T d : Nat) (C : CacheM) (τ : Nat) (s : TH) (hT : 10 ≤ T) (hc : Cache s c T d C) : TRet Tryz.prog 273 #[.pointer (some ⟨c, 0, none⟩)] s fun v s' => ∃ a c', v = .slice a C.l.length c' ∧ Ch [] s s' ∧ Own s' a C.l.length c' 3 1 (ivs (C.l.map (·.blk))) τ := by
  obtain ⟨⟨r, m, bp, bh, hP⟩, ok⟩ := id hc
  have hcb := hP.blk
  have hcm := hP.map
  have hbu := hP.bufs
  have hby := hP.bufy
  refine F273_calls _  ?_
  unfold F273
  refine al_t 0 fun r1 s2 hr1 b_1 c_2 z_3 => ?_
  refine ld_t b_1 rfl ?_
  refine dPtr_i ?_
  refine sB_f (by rfl) ?_
  refine ld_t b_1 rfl ?_
  refine dPtr_i ?_
  refine nz_i ?_
  have cb_4 := hcb.ch c_2 (by simp)
  first | refine ld_t cb_4 rfl ?_
  refine dMap_i ?_
  refine tcall (c_keys r _) ?_
  rintro _ s11 ⟨B, rfl, c_5, B_7⟩
  have z_6 := c_5.size
  have hU := (hP.usedAt ok).mv (((Ch.refl [] s).ch c_2 (by simp)).ch c_5 (by simp)) (tagn (by simp))
  have hml : m.length = C.l.length := by have := hP.mo.keys.length_eq; simpa using this
  have hmk : ∀ k ∈ m.map (·.1), inI64 k := fun k hk => by
    obtain ⟨x, hx, rfl⟩ := List.mem_map.1 (hP.mo.keys.mem_iff.1 hk)
    have := hP.mo.rng x hx
    unfold inI64; omega
  have hle := hP.len
  have hbn := hP.bnd
  have cm_8 := hcm.ch c_2 (by simp)
  have cm_9 := cm_8.ch c_5 (by simp)
  have r1_10 := b_1.ch c_5 (by simp)
  have cb_11 := cb_4.ch c_5 (by simp)
  refine tcall (c_sfun τ (usedOf C.l) B_7 cm_9 (by omega) hmk r1_10 cb_11 rfl hU) ?_
  rintro _ s13 ⟨a2, c2, ss, rfl, hss, c_12, o_14⟩
  have z_13 := c_12.size
  refine dSl_i ?_
  refine ret_t ?_
  have ho := o_14
  rw [sorted_keys hP.mo.nd ok.srt (hss.trans hP.mo.keys), hml] at ho
  rw [hml]
  exact ⟨a2, c2, rfl, ((((Ch.refl [] s).ch c_2 (by simp)).ch c_5 (by simp)).ch c_12 (by simp)), ho⟩
end Go.Proofs.YtngploohhmfaiaaGreat.E
