/- The functions' forms in the engine's words, printed by my own program. -/
import Derived.Test.YtngploohhmfaiaaGreatProg
import Derived.Test.YtngploohhmfaiaaGreatEng11
import Derived.KernelRfl
namespace Go.Proofs.YtngploohhmfaiaaGreat.E
open Go Go.Proofs
set_option linter.unusedVariables false
/-- slices.Compact[[]int,int] -/
def F157 (x0a : Option Addr) (x0n : Nat) (x0c : Nat) (R : Ending → Heap → Prop) (H : Heap) : Prop :=
  sB (decide ((↑x0n : Int) < 2)) (R (Ending.returned (Value.slice x0a x0n x0c)) H) (∃ I1 : List Value → Heap → Prop,
  ∃ I2 : List Value → Heap → Nat,
  (I1 ([Value.int IntKind.i64 1]) H) ∧
  ∀ n3 : Int,
  ∀ v4 v5 v6 v7 v8 v9 v10 v11 v12 v13 v14 v15 v16 v17 v18 v19 v20 v21 v22 v23 v24 v25 v26 v27 v28 v29 v30 v31 v32 v33 v34 v35 v36 v37 v38 v39 v40 v41 v42 v43 v44 v45 v46 v47 v48 v49 v50 v51 v52 v53 v54 v55 v56 : Value,
  ∀ H57 : Heap,
  (I1 ([Value.int IntKind.i64 n3]) H57) →
  sB (decide (n3 < (↑x0n : Int))) (nz x0a (fun a59 =>
  ask ((0 : Int) ≤ n3 ∧ n3 < (↑x0n : Int)) (ld H57 (Addr.add a59 (Int.toNat n3 * 1)) (fun v60 =>
  dInt IntKind.i64 v60 (fun n61 =>
  wr IntKind.i64 (n3 - 1) (fun n62 =>
  nz x0a (fun a63 =>
  ask ((0 : Int) ≤ n62 ∧ n62 < (↑x0n : Int)) (ld H57 (Addr.add a63 (Int.toNat n62 * 1)) (fun v64 =>
  dInt IntKind.i64 v64 (fun n65 =>
  sB (n61 == n65) (ask ((0 : Int) ≤ n3 ∧ n3 ≤ (↑x0n : Int) ∧ (↑x0n : Int) ≤ (↑x0c : Int) ∧ (↑x0c : Int) ≤ (↑x0c : Int)) (∃ I66 : List Value → Heap → Prop,
  ∃ I67 : List Value → Heap → Nat,
  (I66 ([Value.int IntKind.i64 n3, Value.int IntKind.i64 1]) H57) ∧
  ∀ n68 : Int,
  ∀ n69 : Int,
  ∀ v70 v71 v72 v73 v74 v75 v76 v77 v78 v79 v80 v81 v82 v83 v84 v85 v86 v87 v88 v89 v90 v91 v92 v93 v94 : Value,
  ∀ H95 : Heap,
  (I66 ([Value.int IntKind.i64 n68, Value.int IntKind.i64 n69]) H95) →
  sB (decide (n69 < (↑(Int.toNat (↑x0n : Int) - Int.toNat n3) : Int))) (jn (α := VFH 1) (fun v97 H98 =>
  ∀ v99 v100 v101 v102 v103 v104 v105 v106 v107 v108 v109 v110 v111 v112 v113 v114 v115 v116 v117 : Value,
  dInt IntKind.i64 v97 (fun n118 =>
  wr IntKind.i64 (n69 + 1) (fun n119 =>
  (I66 ([Value.int IntKind.i64 n118, Value.int IntKind.i64 n119]) H98) ∧
  (I67 [Value.int IntKind.i64 n118, Value.int IntKind.i64 n119] H98) < (I67 [Value.int IntKind.i64 n68, Value.int IntKind.i64 n69] H95)))) (fun k120 =>
  nz (slO x0a 1 n3 (↑x0c : Int)) (fun a121 =>
  ask ((0 : Int) ≤ n69 ∧ n69 < (↑(Int.toNat (↑x0n : Int) - Int.toNat n3) : Int)) (ld H95 (Addr.add a121 (Int.toNat n69 * 1)) (fun v122 =>
  dInt IntKind.i64 v122 (fun n123 =>
  wr IntKind.i64 (n69 - 1) (fun n124 =>
  nz (slO x0a 1 n3 (↑x0c : Int)) (fun a125 =>
  ask ((0 : Int) ≤ n124 ∧ n124 < (↑(Int.toNat (↑x0n : Int) - Int.toNat n3) : Int)) (ld H95 (Addr.add a125 (Int.toNat n124 * 1)) (fun v126 =>
  dInt IntKind.i64 v126 (fun n127 =>
  sB (n123 != n127) (nz (slO x0a 1 n3 (↑x0c : Int)) (fun a128 =>
  ask ((0 : Int) ≤ n69 ∧ n69 < (↑(Int.toNat (↑x0n : Int) - Int.toNat n3) : Int)) (ld H95 (Addr.add a128 (Int.toNat n69 * 1)) (fun v129 =>
  dInt IntKind.i64 v129 (fun n130 =>
  nz x0a (fun a131 =>
  ask ((0 : Int) ≤ n68 ∧ n68 < (↑x0n : Int)) (st H95 (Addr.add a131 (Int.toNat n68 * 1)) (Value.int IntKind.i64 n130) (fun H132 =>
  wr IntKind.i64 (n68 + 1) (fun n133 =>
  k120 (Value.int IntKind.i64 n133) H132))))))))) (k120 (Value.int IntKind.i64 n68) H95)))))))))))) (ask ((0 : Int) ≤ n68 ∧ n68 ≤ (↑x0n : Int) ∧ (↑x0n : Int) ≤ (↑x0c : Int) ∧ (↑x0c : Int) ≤ (↑x0c : Int)) (semW Tryz.prog (Builtin.clear_ #[73] 0 #[Value.slice (slO x0a 1 n68 (↑x0c : Int)) (Int.toNat (↑x0n : Int) - Int.toNat n68) (Int.toNat (↑x0c : Int) - Int.toNat n68)]) (pnR R) H95 (fun v136 H137 =>
  ask ((0 : Int) ≤ (0 : Int) ∧ (0 : Int) ≤ n68 ∧ n68 ≤ (↑x0c : Int) ∧ (↑x0c : Int) ≤ (↑x0c : Int)) (R (Ending.returned (Value.slice (slO x0a 1 0 (↑x0c : Int)) (Int.toNat n68 - Int.toNat 0) (Int.toNat (↑x0c : Int) - Int.toNat 0))) H137)))))) (wr IntKind.i64 (n3 + 1) (fun n138 =>
  (I1 ([Value.int IntKind.i64 n138]) H57) ∧
  (I2 [Value.int IntKind.i64 n138] H57) < (I2 [Value.int IntKind.i64 n3] H57))))))))))))) (R (Ending.returned (Value.slice x0a x0n x0c)) H57))
theorem F157_eq (x0a : Option Addr) (x0n : Nat) (x0c : Nat) (R : Ending → Heap → Prop) (H : Heap) : F157 x0a x0n x0c R H = vc Tryz.prog (codeOf Tryz.f157) (.node none .leaf (.node none .leaf (.node none (.node none .leaf (.node none (.node (some ⟨[(3, 3)], [2, 4, 5, 10, 11, 12, 13, 14, 15, 16, 17, 18, 19, 20, 21, 22, 23, 24, 25, 26, 27, 28, 29, 30, 31, 32, 33, 34, 35, 36, 37, 38, 39, 40, 41, 42, 43, 44, 45, 46, 47, 48, 49, 50, 51, 52, 53, 54, 55, 56, 57, 58, 59]⟩) (.node none .leaf (.node none (.node none (.node none .leaf (.node none (.node none .leaf (.node none (.node none .leaf (.node none (.node (some ⟨[(3, 3), (5, 3)], [29, 30, 31, 32, 33, 34, 35, 36, 37, 38, 39, 40, 41, 42, 43, 44, 45, 46, 47, 48, 49, 50, 51, 52, 53]⟩) (.node none .leaf (.node (some ⟨[(3, 3)], [35, 36, 37, 38, 39, 40, 41, 42, 43, 44, 45, 46, 47, 48, 49, 50, 51, 52, 53]⟩) .leaf .leaf)) .leaf) .leaf)) .leaf)) .leaf)) .leaf) .leaf)) .leaf) .leaf)) .leaf))) (postV Tryz.prog Tryz.f157 R) ⟨#[Value.slice x0a x0n x0c] ++ Array.replicate (Tryz.f157.ntmps - 1) undef, []⟩ H := by kernel_rfl
theorem F157_calls {R : Ending → Heap → Prop} {H : Heap} (x0a : Option Addr) (x0n : Nat) (x0c : Nat) (h : F157 x0a x0n x0c R H) : HCalls Tryz.prog 157 #[Value.slice x0a x0n x0c] H R :=
  calls_by (F := F157 x0a x0n x0c R H) (.node none .leaf (.node none .leaf (.node none (.node none .leaf (.node none (.node (some ⟨[(3, 3)], [2, 4, 5, 10, 11, 12, 13, 14, 15, 16, 17, 18, 19, 20, 21, 22, 23, 24, 25, 26, 27, 28, 29, 30, 31, 32, 33, 34, 35, 36, 37, 38, 39, 40, 41, 42, 43, 44, 45, 46, 47, 48, 49, 50, 51, 52, 53, 54, 55, 56, 57, 58, 59]⟩) (.node none .leaf (.node none (.node none (.node none .leaf (.node none (.node none .leaf (.node none (.node none .leaf (.node none (.node (some ⟨[(3, 3), (5, 3)], [29, 30, 31, 32, 33, 34, 35, 36, 37, 38, 39, 40, 41, 42, 43, 44, 45, 46, 47, 48, 49, 50, 51, 52, 53]⟩) (.node none .leaf (.node (some ⟨[(3, 3)], [35, 36, 37, 38, 39, 40, 41, 42, 43, 44, 45, 46, 47, 48, 49, 50, 51, 52, 53]⟩) .leaf .leaf)) .leaf) .leaf)) .leaf)) .leaf)) .leaf) .leaf)) .leaf) .leaf)) .leaf))) Tryz.func157 rfl (F157_eq x0a x0n x0c R H) h
/-- (*bollard/bollardref09.Volume).Ready -/
def F158 (x0 : Option Addr) (R : Ending → Heap → Prop) (H : Heap) : Prop :=
  HCalls Tryz.prog 204 #[Value.pointer x0] H (Sp.retK (fun v1 H2 =>
  dSl v1 (fun p3 r4 r5 =>
  ∃ I6 : List Value → Heap → Prop,
  ∃ I7 : List Value → Heap → Nat,
  (I6 ([Value.slice none 0 0, Value.int IntKind.i64 0]) H2) ∧
  ∀ p8 : Option Addr,
  ∀ r9 : Nat,
  ∀ r10 : Nat,
  ∀ n11 : Int,
  ∀ v12 v13 v14 v15 v16 v17 v18 v19 v20 v21 v22 v23 v24 v25 v26 v27 v28 v29 : Value,
  ∀ H30 : Heap,
  (I6 ([Value.slice p8 r9 r10, Value.int IntKind.i64 n11]) H30) →
  sB (decide (n11 < (↑r4 : Int))) (jn (α := VFH 1) (fun v32 H33 =>
  ∀ v34 v35 v36 v37 v38 v39 v40 v41 v42 v43 v44 v45 v46 v47 v48 v49 : Value,
  dSl v32 (fun p50 r51 r52 =>
  wr IntKind.i64 (n11 + 1) (fun n53 =>
  (I6 ([Value.slice p50 r51 r52, Value.int IntKind.i64 n53]) H33) ∧
  (I7 [Value.slice p50 r51 r52, Value.int IntKind.i64 n53] H33) < (I7 [Value.slice p8 r9 r10, Value.int IntKind.i64 n11] H30)))) (fun k54 =>
  nz p3 (fun a55 =>
  ask ((0 : Int) ≤ n11 ∧ n11 < (↑r4 : Int)) (ld H30 (Addr.add a55 (Int.toNat n11 * 1)) (fun v56 =>
  dInt IntKind.i64 v56 (fun n57 =>
  jn (α := VFH 1) (fun v58 H59 =>
  ∀ v60 v61 v62 v63 v64 v65 v66 v67 : Value,
  dBl v58 (fun b68 =>
  sB b68 (al H59 (Obj.cells #[Value.int IntKind.i64 n57] 3) (fun r69 H70 =>
  semW Tryz.prog (Builtin.append_ #[73, 73] 73 #[Value.slice p8 r9 r10, Value.slice (some (Addr.mk r69 0 none)) 1 1]) (pnR R) H70 (fun v73 H74 =>
  dSl v73 (fun p75 r76 r77 =>
  k54 (Value.slice p75 r76 r77) H74)))) (k54 (Value.slice p8 r9 r10) H59))) (fun k78 =>
  HCalls Tryz.prog 205 #[Value.pointer x0, Value.int IntKind.i64 n57] H30 (Sp.retK (fun v79 H80 =>
  dBl v79 (fun b81 =>
  sB (!b81) (HCalls Tryz.prog 206 #[Value.pointer x0, Value.int IntKind.i64 n57] H80 (Sp.retK (fun v82 H83 =>
  dBl v82 (fun b84 =>
  k78 (Value.bool b84) H83)) (pnR R))) (k78 (Value.bool false) H80))) (pnR R))))))))) (R (Ending.returned (Value.slice p8 r9 r10)) H30))) (pnR R))
theorem F158_eq (x0 : Option Addr) (R : Ending → Heap → Prop) (H : Heap) : F158 x0 R H = vc Tryz.prog (codeOf Tryz.f158) (.node none .leaf (.node none .leaf (.node none (.node none .leaf (.node none (.node (some ⟨[(3, 73), (9, 3)], [5, 10, 11, 12, 13, 14, 15, 16, 17, 18, 19, 20, 21, 22, 23, 24, 25, 26]⟩) (.node none .leaf (.node none .leaf (.node (some ⟨[(3, 73)], [5, 11, 12, 13, 14, 15, 16, 17, 18, 19, 20, 21, 22, 23, 24, 25]⟩) (.node none (.node none .leaf (.node (some ⟨[(21, 4)], [13, 14, 15, 16, 17, 18, 19, 20]⟩) .leaf .leaf)) .leaf) .leaf))) .leaf) .leaf)) .leaf))) (postV Tryz.prog Tryz.f158 R) ⟨#[Value.pointer x0] ++ Array.replicate (Tryz.f158.ntmps - 1) undef, []⟩ H := by kernel_rfl
theorem F158_calls {R : Ending → Heap → Prop} {H : Heap} (x0 : Option Addr) (h : F158 x0 R H) : HCalls Tryz.prog 158 #[Value.pointer x0] H R :=
  calls_by (F := F158 x0 R H) (.node none .leaf (.node none .leaf (.node none (.node none .leaf (.node none (.node (some ⟨[(3, 73), (9, 3)], [5, 10, 11, 12, 13, 14, 15, 16, 17, 18, 19, 20, 21, 22, 23, 24, 25, 26]⟩) (.node none .leaf (.node none .leaf (.node (some ⟨[(3, 73)], [5, 11, 12, 13, 14, 15, 16, 17, 18, 19, 20, 21, 22, 23, 24, 25]⟩) (.node none (.node none .leaf (.node (some ⟨[(21, 4)], [13, 14, 15, 16, 17, 18, 19, 20]⟩) .leaf .leaf)) .leaf) .leaf))) .leaf) .leaf)) .leaf))) Tryz.func158 rfl (F158_eq x0 R H) h
/-- slices.Equal[[]int,int] -/
def F159 (x0a : Option Addr) (x0n : Nat) (x0c : Nat) (x1a : Option Addr) (x1n : Nat) (x1c : Nat) (R : Ending → Heap → Prop) (H : Heap) : Prop :=
  sB ((↑x0n : Int) != (↑x1n : Int)) (R (Ending.returned (Value.bool false)) H) (∃ I1 : List Value → Heap → Prop,
  ∃ I2 : List Value → Heap → Nat,
  (I1 ([Value.int IntKind.i64 0]) H) ∧
  ∀ n3 : Int,
  ∀ v4 v5 v6 v7 v8 v9 v10 v11 v12 v13 v14 v15 v16 v17 : Value,
  ∀ H18 : Heap,
  (I1 ([Value.int IntKind.i64 n3]) H18) →
  sB (decide (n3 < (↑x0n : Int))) (nz x0a (fun a20 =>
  ask ((0 : Int) ≤ n3 ∧ n3 < (↑x0n : Int)) (ld H18 (Addr.add a20 (Int.toNat n3 * 1)) (fun v21 =>
  dInt IntKind.i64 v21 (fun n22 =>
  nz x1a (fun a23 =>
  ask ((0 : Int) ≤ n3 ∧ n3 < (↑x1n : Int)) (ld H18 (Addr.add a23 (Int.toNat n3 * 1)) (fun v24 =>
  dInt IntKind.i64 v24 (fun n25 =>
  sB (n22 != n25) (R (Ending.returned (Value.bool false)) H18) (wr IntKind.i64 (n3 + 1) (fun n26 =>
  (I1 ([Value.int IntKind.i64 n26]) H18) ∧
  (I2 [Value.int IntKind.i64 n26] H18) < (I2 [Value.int IntKind.i64 n3] H18)))))))))))) (R (Ending.returned (Value.bool true)) H18))
theorem F159_eq (x0a : Option Addr) (x0n : Nat) (x0c : Nat) (x1a : Option Addr) (x1n : Nat) (x1c : Nat) (R : Ending → Heap → Prop) (H : Heap) : F159 x0a x0n x0c x1a x1n x1c R H = vc Tryz.prog (codeOf Tryz.f159) (.node none .leaf (.node none .leaf (.node none (.node none .leaf (.node none (.node (some ⟨[(13, 3)], [4, 5, 14, 15, 16, 17, 18, 19, 20, 21, 22, 23, 24, 25]⟩) .leaf .leaf) .leaf)) .leaf))) (postV Tryz.prog Tryz.f159 R) ⟨#[Value.slice x0a x0n x0c, Value.slice x1a x1n x1c] ++ Array.replicate (Tryz.f159.ntmps - 2) undef, []⟩ H := by kernel_rfl
theorem F159_calls {R : Ending → Heap → Prop} {H : Heap} (x0a : Option Addr) (x0n : Nat) (x0c : Nat) (x1a : Option Addr) (x1n : Nat) (x1c : Nat) (h : F159 x0a x0n x0c x1a x1n x1c R H) : HCalls Tryz.prog 159 #[Value.slice x0a x0n x0c, Value.slice x1a x1n x1c] H R :=
  calls_by (F := F159 x0a x0n x0c x1a x1n x1c R H) (.node none .leaf (.node none .leaf (.node none (.node none .leaf (.node none (.node (some ⟨[(13, 3)], [4, 5, 14, 15, 16, 17, 18, 19, 20, 21, 22, 23, 24, 25]⟩) .leaf .leaf) .leaf)) .leaf))) Tryz.func159 rfl (F159_eq x0a x0n x0c x1a x1n x1c R H) h
/-- (*bollard/bollardref09.Volume).Write -/
def F160 (x0 : Option Addr) (x1 : Int) (R : Ending → Heap → Prop) (H : Heap) : Prop :=
  HCalls Tryz.prog 162 #[Value.pointer x0, Value.int IntKind.i64 x1] H (Sp.retK (fun v1 H2 =>
  dBl v1 (fun b3 =>
  sB (!b3) (R (Ending.returned (Value.int IntKind.i64 90)) H2) (HCalls Tryz.prog 205 #[Value.pointer x0, Value.int IntKind.i64 x1] H2 (Sp.retK (fun v4 H5 =>
  dBl v4 (fun b6 =>
  sB b6 (R (Ending.returned (Value.int IntKind.i64 3)) H5) (HCalls Tryz.prog 206 #[Value.pointer x0, Value.int IntKind.i64 x1] H5 (Sp.retK (fun v7 H8 =>
  dBl v7 (fun b9 =>
  sB (!b9) (R (Ending.returned (Value.int IntKind.i64 71)) H8) (nz x0 (fun a10 =>
  ld H8 (Addr.add a10 1) (fun v11 =>
  dPtr v11 (fun p12 =>
  HCalls Tryz.prog 207 #[Value.pointer p12, Value.int IntKind.i64 x1] H8 (Sp.retK (fun v13 H14 =>
  dT 2 v13 (fun v15 v16 =>
  dSl v15 (fun p17 r18 r19 =>
  dInt IntKind.i64 v16 (fun n20 =>
  sB (n20 != 0) (R (Ending.returned (Value.int IntKind.i64 n20)) H14) (nz x0 (fun a21 =>
  ld H14 (Addr.add a21 2) (fun v22 =>
  dPtr v22 (fun p23 =>
  HCalls Tryz.prog 208 #[Value.pointer p23, Value.int IntKind.i64 x1, Value.slice p17 r18 r19] H14 (Sp.retK (fun v24 H25 =>
  dT 3 v24 (fun v26 v27 v28 =>
  dSl v26 (fun p29 r30 r31 =>
  dSl v27 (fun p32 r33 r34 =>
  dInt IntKind.i64 v28 (fun n35 =>
  sB (n35 != 0) (R (Ending.returned (Value.int IntKind.i64 n35)) H25) (nz x0 (fun a36 =>
  ld H25 a36 (fun v37 =>
  dPtr v37 (fun p38 =>
  HCalls Tryz.prog 209 #[Value.pointer p38, Value.int IntKind.i64 x1, Value.slice p29 r30 r31] H25 (Sp.retK (fun v39 H40 =>
  dT 2 v39 (fun v41 v42 =>
  dInt IntKind.i64 v41 (fun n43 =>
  dInt IntKind.i64 v42 (fun n44 =>
  sB (n44 != 0) (R (Ending.returned (Value.int IntKind.i64 n44)) H40) (nz x0 (fun a45 =>
  ld H40 (Addr.add a45 3) (fun v46 =>
  dSl v46 (fun p47 r48 r49 =>
  al H40 (Obj.cells #[Value.int IntKind.i64 n43, Value.int IntKind.i64 x1, Value.slice p29 r30 r31, Value.slice p32 r33 r34] 271) (fun r50 H51 =>
  semW Tryz.prog (Builtin.append_ #[220, 220] 220 #[Value.slice p47 r48 r49, Value.slice (some (Addr.mk r50 0 none)) 1 1]) (pnR R) H51 (fun v54 H55 =>
  dSl v54 (fun p56 r57 r58 =>
  nz x0 (fun a59 =>
  st H55 (Addr.add a59 3) (Value.slice p56 r57 r58) (fun H60 =>
  R (Ending.returned (Value.int IntKind.i64 0)) H60))))))))))))) (pnR R))))))))))) (pnR R)))))))))) (pnR R)))))))) (pnR R))))) (pnR R))))) (pnR R))
theorem F160_eq (x0 : Option Addr) (x1 : Int) (R : Ending → Heap → Prop) (H : Heap) : F160 x0 x1 R H = vc Tryz.prog (codeOf Tryz.f160) .leaf (postV Tryz.prog Tryz.f160 R) ⟨#[Value.pointer x0, Value.int IntKind.i64 x1] ++ Array.replicate (Tryz.f160.ntmps - 2) undef, []⟩ H := by kernel_rfl
theorem F160_calls {R : Ending → Heap → Prop} {H : Heap} (x0 : Option Addr) (x1 : Int) (h : F160 x0 x1 R H) : HCalls Tryz.prog 160 #[Value.pointer x0, Value.int IntKind.i64 x1] H R :=
  calls_by (F := F160 x0 x1 R H) .leaf Tryz.func160 rfl (F160_eq x0 x1 R H) h
/-- (*bollard/bollardref09.Volume).Complete -/
def F161 (x0 : Option Addr) (x1 : Int) (x2 : Bool) (R : Ending → Heap → Prop) (H : Heap) : Prop :=
  jn (α := VFH 1) (fun v1 H2 =>
  ∀ v3 v4 v5 v6 v7 v8 v9 v10 v11 v12 : Value,
  dBl v1 (fun b13 =>
  sB b13 (R (Ending.returned (Value.int IntKind.i64 1)) H2) (nz x0 (fun a14 =>
  ld H2 (Addr.add a14 3) (fun v15 =>
  dSl v15 (fun p16 r17 r18 =>
  nz p16 (fun a19 =>
  ask ((0 : Int) ≤ x1 ∧ x1 < (↑r17 : Int)) (ld H2 (Addr.add a19 (Int.toNat x1 * 4)) (fun v20 =>
  ld H2 (Addr.add (Addr.add a19 (Int.toNat x1 * 4)) 1) (fun v21 =>
  ld H2 (Addr.add (Addr.add a19 (Int.toNat x1 * 4)) 2) (fun v22 =>
  ld H2 (Addr.add (Addr.add a19 (Int.toNat x1 * 4)) 3) (fun v23 =>
  al H2 (Obj.cells #[Value.int IntKind.i64 0, Value.int IntKind.i64 0, Value.slice none 0 0, Value.slice none 0 0] 271) (fun r24 H25 =>
  st H25 (Addr.mk r24 0 none) v20 (fun H26 =>
  st H26 (Addr.mk r24 1 none) v21 (fun H27 =>
  st H27 (Addr.mk r24 2 none) v22 (fun H28 =>
  st H28 (Addr.mk r24 3 none) v23 (fun H29 =>
  nz x0 (fun a30 =>
  ld H29 (Addr.add a30 3) (fun v31 =>
  dSl v31 (fun p32 r33 r34 =>
  ask ((0 : Int) ≤ (0 : Int) ∧ (0 : Int) ≤ x1 ∧ x1 ≤ (↑r34 : Int) ∧ (↑r34 : Int) ≤ (↑r34 : Int)) (nz x0 (fun a35 =>
  ld H29 (Addr.add a35 3) (fun v36 =>
  dSl v36 (fun p37 r38 r39 =>
  wr IntKind.i64 (x1 + 1) (fun n40 =>
  ask ((0 : Int) ≤ n40 ∧ n40 ≤ (↑r38 : Int) ∧ (↑r38 : Int) ≤ (↑r39 : Int) ∧ (↑r39 : Int) ≤ (↑r39 : Int)) (al H29 (Obj.cells #[] 271) (fun r41 H42 =>
  (ld H42 (Addr.add a35 3) (fun v43 =>
  dSl v43 (fun p44 r45 r46 =>
  (Value.slice p44 r45 r46) = (Value.slice p37 r38 r39)))) ∧
  (ld H42 (Addr.add a30 3) (fun v47 =>
  dSl v47 (fun p48 r49 r50 =>
  (Value.slice p48 r49 r50) = (Value.slice p32 r33 r34)))) ∧
  semW Tryz.prog (Builtin.append_ #[220, 220] 220 #[Value.slice (some (Addr.mk r41 0 none)) 0 0, Value.slice (slO p32 4 0 (↑r34 : Int)) (Int.toNat x1 - Int.toNat 0) (Int.toNat (↑r34 : Int) - Int.toNat 0)]) nopR H42 (fun v53 H54 =>
  dSl v53 (fun p55 r56 r57 =>
  (ld H54 (Addr.add a35 3) (fun v58 =>
  dSl v58 (fun p59 r60 r61 =>
  (Value.slice p59 r60 r61) = (Value.slice p37 r38 r39)))) ∧
  semW Tryz.prog (Builtin.append_ #[220, 220] 220 #[Value.slice p55 r56 r57, Value.slice (slO p37 4 n40 (↑r39 : Int)) (Int.toNat (↑r38 : Int) - Int.toNat n40) (Int.toNat (↑r39 : Int) - Int.toNat n40)]) nopR H54 (fun v64 H65 =>
  dSl v64 (fun p66 r67 r68 =>
  nz x0 (fun a69 =>
  st H65 (Addr.add a69 3) (Value.slice p66 r67 r68) (fun H70 =>
  nz x0 (fun a71 =>
  ld H70 a71 (fun v72 =>
  dPtr v72 (fun p73 =>
  ld H70 (Addr.mk r24 0 none) (fun v74 =>
  dInt IntKind.i64 v74 (fun n75 =>
  HCalls Tryz.prog 210 #[Value.pointer p73, Value.int IntKind.i64 n75, Value.bool x2] H70 (Sp.retK (fun v76 H77 =>
  dInt IntKind.i64 v76 (fun n78 =>
  sB (n78 != 0) (R (Ending.returned (Value.int IntKind.i64 n78)) H77) (nz x0 (fun a79 =>
  ld H77 (Addr.add a79 1) (fun v80 =>
  dPtr v80 (fun p81 =>
  ld H77 (Addr.mk r24 1 none) (fun v82 =>
  dInt IntKind.i64 v82 (fun n83 =>
  ld H77 (Addr.mk r24 2 none) (fun v84 =>
  dSl v84 (fun p85 r86 r87 =>
  HCalls Tryz.prog 211 #[Value.pointer p81, Value.int IntKind.i64 n83, Value.slice p85 r86 r87] H77 (Sp.retK (fun v88 H89 =>
  dInt IntKind.i64 v88 (fun n90 =>
  nz x0 (fun a91 =>
  ld H89 (Addr.add a91 2) (fun v92 =>
  dPtr v92 (fun p93 =>
  ld H89 (Addr.mk r24 3 none) (fun v94 =>
  dSl v94 (fun p95 r96 r97 =>
  HCalls Tryz.prog 212 #[Value.pointer p93, Value.slice p95 r96 r97] H89 (Sp.retK (fun v98 H99 =>
  dInt IntKind.i64 v98 (fun n100 =>
  R (Ending.returned (Value.int IntKind.i64 n100)) H99)) nopR)))))))) nopR))))))))))) nopR))))))))))))))))))))))))))))))))))))))) (fun k107 =>
  sB (decide (x1 < 0)) (k107 (Value.bool true) H) (nz x0 (fun a108 =>
  ld H (Addr.add a108 3) (fun v109 =>
  dSl v109 (fun p110 r111 r112 =>
  k107 (Value.bool (decide (x1 ≥ (↑r111 : Int)))) H)))))
theorem F161_eq (x0 : Option Addr) (x1 : Int) (x2 : Bool) (R : Ending → Heap → Prop) (H : Heap) : F161 x0 x1 x2 R H = vc Tryz.prog (codeOf Tryz.f161) (.node none .leaf (.node none (.node (some ⟨[(19, 4)], [9, 10, 11, 12, 13, 14, 15, 16, 17, 18]⟩) .leaf .leaf) .leaf)) (postV Tryz.prog Tryz.f161 R) ⟨#[Value.pointer x0, Value.int IntKind.i64 x1, Value.bool x2] ++ Array.replicate (Tryz.f161.ntmps - 3) undef, []⟩ H := by kernel_rfl
theorem F161_calls {R : Ending → Heap → Prop} {H : Heap} (x0 : Option Addr) (x1 : Int) (x2 : Bool) (h : F161 x0 x1 x2 R H) : HCalls Tryz.prog 161 #[Value.pointer x0, Value.int IntKind.i64 x1, Value.bool x2] H R :=
  calls_by (F := F161 x0 x1 x2 R H) (.node none .leaf (.node none (.node (some ⟨[(19, 4)], [9, 10, 11, 12, 13, 14, 15, 16, 17, 18]⟩) .leaf .leaf) .leaf)) Tryz.func161 rfl (F161_eq x0 x1 x2 R H) h
/-- (*bollard/bollardref09.Volume).has -/
def F162 (x0 : Option Addr) (x1 : Int) (R : Ending → Heap → Prop) (H : Heap) : Prop :=
  sB (decide (x1 ≥ 0)) (nz x0 (fun a1 =>
  ld H a1 (fun v2 =>
  dPtr v2 (fun p3 =>
  nz p3 (fun a4 =>
  ld H a4 (fun v5 =>
  dSl v5 (fun p6 r7 r8 =>
  R (Ending.returned (Value.bool (decide (x1 < (↑r7 : Int))))) H))))))) (R (Ending.returned (Value.bool false)) H)
theorem F162_eq (x0 : Option Addr) (x1 : Int) (R : Ending → Heap → Prop) (H : Heap) : F162 x0 x1 R H = vc Tryz.prog (codeOf Tryz.f162) .leaf (postV Tryz.prog Tryz.f162 R) ⟨#[Value.pointer x0, Value.int IntKind.i64 x1] ++ Array.replicate (Tryz.f162.ntmps - 2) undef, []⟩ H := by kernel_rfl
theorem F162_calls {R : Ending → Heap → Prop} {H : Heap} (x0 : Option Addr) (x1 : Int) (h : F162 x0 x1 R H) : HCalls Tryz.prog 162 #[Value.pointer x0, Value.int IntKind.i64 x1] H R :=
  calls_by (F := F162 x0 x1 R H) .leaf Tryz.func162 rfl (F162_eq x0 x1 R H) h
/-- (*bollard/bollardref09.Volume).keeps -/
def F163 (x0 : Option Addr) (x1 : Int) (R : Ending → Heap → Prop) (H : Heap) : Prop :=
  nz x0 (fun a1 =>
  ld H (Addr.add a1 7) (fun v2 =>
  dSl v2 (fun p3 r4 r5 =>
  ∃ I6 : List Value → Heap → Prop,
  ∃ I7 : List Value → Heap → Nat,
  (I6 ([Value.int IntKind.i64 0]) H) ∧
  ∀ n8 : Int,
  ∀ v9 v10 v11 v12 v13 v14 v15 v16 v17 v18 : Value,
  ∀ H19 : Heap,
  (I6 ([Value.int IntKind.i64 n8]) H19) →
  sB (decide (n8 < (↑r4 : Int))) (nz p3 (fun a21 =>
  ask ((0 : Int) ≤ n8 ∧ n8 < (↑r4 : Int)) (ld H19 (Addr.add a21 (Int.toNat n8 * 2)) (fun v22 =>
  ld H19 (Addr.add (Addr.add a21 (Int.toNat n8 * 2)) 1) (fun v23 =>
  al H19 (Obj.cells #[Value.int IntKind.i64 0, Value.slice none 0 0] 225) (fun r24 H25 =>
  st H25 (Addr.mk r24 0 none) v22 (fun H26 =>
  st H26 (Addr.mk r24 1 none) v23 (fun H27 =>
  ld H27 (Addr.mk r24 0 none) (fun v28 =>
  dInt IntKind.i64 v28 (fun n29 =>
  sB (n29 == x1) (R (Ending.returned (Value.bool true)) H27) (wr IntKind.i64 (n8 + 1) (fun n30 =>
  (I6 ([Value.int IntKind.i64 n30]) H27) ∧
  (I7 [Value.int IntKind.i64 n30] H27) < (I7 [Value.int IntKind.i64 n8] H19))))))))))))) (R (Ending.returned (Value.bool false)) H19))))
theorem F163_eq (x0 : Option Addr) (x1 : Int) (R : Ending → Heap → Prop) (H : Heap) : F163 x0 x1 R H = vc Tryz.prog (codeOf Tryz.f163) (.node none .leaf (.node none (.node none .leaf (.node none (.node (some ⟨[(12, 3)], [4, 6, 13, 14, 15, 16, 17, 18, 19, 20]⟩) .leaf .leaf) .leaf)) .leaf)) (postV Tryz.prog Tryz.f163 R) ⟨#[Value.pointer x0, Value.int IntKind.i64 x1] ++ Array.replicate (Tryz.f163.ntmps - 2) undef, []⟩ H := by kernel_rfl
theorem F163_calls {R : Ending → Heap → Prop} {H : Heap} (x0 : Option Addr) (x1 : Int) (h : F163 x0 x1 R H) : HCalls Tryz.prog 163 #[Value.pointer x0, Value.int IntKind.i64 x1] H R :=
  calls_by (F := F163 x0 x1 R H) (.node none .leaf (.node none (.node none .leaf (.node none (.node (some ⟨[(12, 3)], [4, 6, 13, 14, 15, 16, 17, 18, 19, 20]⟩) .leaf .leaf) .leaf)) .leaf)) Tryz.func163 rfl (F163_eq x0 x1 R H) h
/-- (*bollard/bollardref09.Volume).Read -/
def F164 (x0 : Option Addr) (x1 : Int) (R : Ending → Heap → Prop) (H : Heap) : Prop :=
  HCalls Tryz.prog 162 #[Value.pointer x0, Value.int IntKind.i64 x1] H (Sp.retK (fun v1 H2 =>
  dBl v1 (fun b3 =>
  sB (!b3) (R (Ending.returned (Value.tuple #[Value.slice none 0 0, Value.int IntKind.i64 90])) H2) (nz x0 (fun a4 =>
  ld H2 (Addr.add a4 1) (fun v5 =>
  dPtr v5 (fun p6 =>
  HCalls Tryz.prog 207 #[Value.pointer p6, Value.int IntKind.i64 x1] H2 (Sp.retK (fun v7 H8 =>
  dT 2 v7 (fun v9 v10 =>
  dSl v9 (fun p11 r12 r13 =>
  dInt IntKind.i64 v10 (fun n14 =>
  sB (n14 != 0) (R (Ending.returned (Value.tuple #[Value.slice none 0 0, Value.int IntKind.i64 n14])) H8) (nz x0 (fun a15 =>
  ld H8 (Addr.add a15 2) (fun v16 =>
  dPtr v16 (fun p17 =>
  HCalls Tryz.prog 213 #[Value.pointer p17, Value.int IntKind.i64 x1, Value.slice p11 r12 r13] H8 (Sp.retK (fun v18 H19 =>
  dT 2 v18 (fun v20 v21 =>
  dSl v20 (fun p22 r23 r24 =>
  dInt IntKind.i64 v21 (fun n25 =>
  R (Ending.returned (Value.tuple #[Value.slice p22 r23 r24, Value.int IntKind.i64 n25])) H19)))) (pnR R)))))))))) (pnR R)))))))) (pnR R))
theorem F164_eq (x0 : Option Addr) (x1 : Int) (R : Ending → Heap → Prop) (H : Heap) : F164 x0 x1 R H = vc Tryz.prog (codeOf Tryz.f164) .leaf (postV Tryz.prog Tryz.f164 R) ⟨#[Value.pointer x0, Value.int IntKind.i64 x1] ++ Array.replicate (Tryz.f164.ntmps - 2) undef, []⟩ H := by kernel_rfl
theorem F164_calls {R : Ending → Heap → Prop} {H : Heap} (x0 : Option Addr) (x1 : Int) (h : F164 x0 x1 R H) : HCalls Tryz.prog 164 #[Value.pointer x0, Value.int IntKind.i64 x1] H R :=
  calls_by (F := F164 x0 x1 R H) .leaf Tryz.func164 rfl (F164_eq x0 x1 R H) h
/-- slices.Sorted[int] -/
def F166 (x0g : Nat) (x0f : Array Value) (x0c : Array Value) (R : Ending → Heap → Prop) (H : Heap) : Prop :=
  HCalls Tryz.prog 216 #[Value.func (Fn.func x0g) x0f x0c] H (Sp.retK (fun v1 H2 =>
  dSl v1 (fun p3 r4 r5 =>
  HCalls Tryz.prog 156 #[Value.slice p3 r4 r5] H2 (Sp.retK (fun v6 H7 =>
  R (Ending.returned (Value.slice p3 r4 r5)) H7) (pnR R)))) (pnR R))
theorem F166_eq (x0g : Nat) (x0f : Array Value) (x0c : Array Value) (R : Ending → Heap → Prop) (H : Heap) : F166 x0g x0f x0c R H = vc Tryz.prog (codeOf Tryz.f166) .leaf (postV Tryz.prog Tryz.f166 R) ⟨#[Value.func (Fn.func x0g) x0f x0c] ++ Array.replicate (Tryz.f166.ntmps - 1) undef, []⟩ H := by kernel_rfl
theorem F166_calls {R : Ending → Heap → Prop} {H : Heap} (x0g : Nat) (x0f : Array Value) (x0c : Array Value) (h : F166 x0g x0f x0c R H) : HCalls Tryz.prog 166 #[Value.func (Fn.func x0g) x0f x0c] H R :=
  calls_by (F := F166 x0g x0f x0c R H) .leaf Tryz.func166 rfl (F166_eq x0g x0f x0c R H) h
/-- maps.Keys[map[int]struct{},int,struct{}] -/
def F167 (x0 : Option Nat) (R : Ending → Heap → Prop) (H : Heap) : Prop :=
  al H (Obj.cells #[Value.map x0] 189) (fun r1 H2 =>
  R (Ending.returned (Value.func (Fn.func 217) #[] #[Value.pointer (some (Addr.mk r1 0 none))])) H2)
theorem F167_eq (x0 : Option Nat) (R : Ending → Heap → Prop) (H : Heap) : F167 x0 R H = vc Tryz.prog (codeOf Tryz.f167) .leaf (postV Tryz.prog Tryz.f167 R) ⟨#[Value.map x0] ++ Array.replicate (Tryz.f167.ntmps - 1) undef, []⟩ H := by kernel_rfl
theorem F167_calls {R : Ending → Heap → Prop} {H : Heap} (x0 : Option Nat) (h : F167 x0 R H) : HCalls Tryz.prog 167 #[Value.map x0] H R :=
  calls_by (F := F167 x0 R H) .leaf Tryz.func167 rfl (F167_eq x0 R H) h
/-- (*bollard/volume.Volume).round$1 -/
def F168 (x0 : Int) (f0 : Addr) (R : Ending → Heap → Prop) (H : Heap) : Prop :=
  ld H f0 (fun v1 =>
  dSl v1 (fun p2 r3 r4 =>
  HCalls Tryz.prog 169 #[Value.slice p2 r3 r4, Value.int IntKind.i64 x0] H (Sp.retK (fun v5 H6 =>
  dBl v5 (fun b7 =>
  R (Ending.returned (Value.bool b7)) H6)) (pnR R))))
theorem F168_eq (x0 : Int) (f0 : Addr) (R : Ending → Heap → Prop) (H : Heap) : F168 x0 f0 R H = vc Tryz.prog (codeOf Tryz.f168) .leaf (postV Tryz.prog Tryz.f168 R) ⟨#[Value.int IntKind.i64 x0, Value.pointer (some f0)] ++ Array.replicate (Tryz.f168.ntmps - 2) undef, []⟩ H := by kernel_rfl
theorem F168_calls {R : Ending → Heap → Prop} {H : Heap} (x0 : Int) (f0 : Addr) (h : F168 x0 f0 R H) : HCalls Tryz.prog 168 #[Value.int IntKind.i64 x0, Value.pointer (some f0)] H R :=
  calls_by (F := F168 x0 f0 R H) .leaf Tryz.func168 rfl (F168_eq x0 f0 R H) h
/-- slices.Contains[[]int,int] -/
def F169 (x0a : Option Addr) (x0n : Nat) (x0c : Nat) (x1 : Int) (R : Ending → Heap → Prop) (H : Heap) : Prop :=
  HCalls Tryz.prog 218 #[Value.slice x0a x0n x0c, Value.int IntKind.i64 x1] H (Sp.retK (fun v1 H2 =>
  dInt IntKind.i64 v1 (fun n3 =>
  R (Ending.returned (Value.bool (decide (n3 ≥ 0)))) H2)) (pnR R))
theorem F169_eq (x0a : Option Addr) (x0n : Nat) (x0c : Nat) (x1 : Int) (R : Ending → Heap → Prop) (H : Heap) : F169 x0a x0n x0c x1 R H = vc Tryz.prog (codeOf Tryz.f169) .leaf (postV Tryz.prog Tryz.f169 R) ⟨#[Value.slice x0a x0n x0c, Value.int IntKind.i64 x1] ++ Array.replicate (Tryz.f169.ntmps - 2) undef, []⟩ H := by kernel_rfl
theorem F169_calls {R : Ending → Heap → Prop} {H : Heap} (x0a : Option Addr) (x0n : Nat) (x0c : Nat) (x1 : Int) (h : F169 x0a x0n x0c x1 R H) : HCalls Tryz.prog 169 #[Value.slice x0a x0n x0c, Value.int IntKind.i64 x1] H R :=
  calls_by (F := F169 x0a x0n x0c x1 R H) .leaf Tryz.func169 rfl (F169_eq x0a x0n x0c x1 R H) h
/-- (*bollard/patch.Set).all -/
def F170 (x0 : Option Addr) (R : Ending → Heap → Prop) (H : Heap) : Prop :=
  nz x0 (fun a1 =>
  ld H (Addr.add a1 2) (fun v2 =>
  dMap v2 (fun p3 =>
  HCalls Tryz.prog 219 #[Value.map p3] H (Sp.retK (fun v4 H5 =>
  HCalls Tryz.prog 166 #[v4] H5 (Sp.retK (fun v6 H7 =>
  dSl v6 (fun p8 r9 r10 =>
  R (Ending.returned (Value.slice p8 r9 r10)) H7)) (pnR R))) (pnR R)))))
theorem F170_eq (x0 : Option Addr) (R : Ending → Heap → Prop) (H : Heap) : F170 x0 R H = vc Tryz.prog (codeOf Tryz.f170) .leaf (postV Tryz.prog Tryz.f170 R) ⟨#[Value.pointer x0] ++ Array.replicate (Tryz.f170.ntmps - 1) undef, []⟩ H := by kernel_rfl
theorem F170_calls {R : Ending → Heap → Prop} {H : Heap} (x0 : Option Addr) (h : F170 x0 R H) : HCalls Tryz.prog 170 #[Value.pointer x0] H R :=
  calls_by (F := F170 x0 R H) .leaf Tryz.func170 rfl (F170_eq x0 R H) h
/-- (*bollard/patch.Set).Of$1 -/
def F171 (x0 : Int) (f0 : Addr) (f1 : Addr) (R : Ending → Heap → Prop) (H : Heap) : Prop :=
  ld H f0 (fun v1 =>
  dPtr v1 (fun p2 =>
  nz p2 (fun a3 =>
  ld H (Addr.add a3 2) (fun v4 =>
  dMap v4 (fun p5 =>
  ld H f1 (fun v6 =>
  dInt IntKind.i64 v6 (fun n7 =>
  semW Tryz.prog (Instr.lookup 190 (Value.map p5) (Value.int IntKind.i64 x0) false) nopR H (fun v10 H11 =>
  dA 5 v10 (fun v12 v13 v14 v15 v16 =>
  (ld H11 f1 (fun v17 =>
  dInt IntKind.i64 v17 (fun n18 =>
  (Value.int IntKind.i64 n18) = (Value.int IntKind.i64 n7)))) ∧
  dInt IntKind.i64 v13 (fun n19 =>
  R (Ending.returned (Value.bool (n19 != n7))) H11))))))))))
theorem F171_eq (x0 : Int) (f0 : Addr) (f1 : Addr) (R : Ending → Heap → Prop) (H : Heap) : F171 x0 f0 f1 R H = vc Tryz.prog (codeOf Tryz.f171) .leaf (postV Tryz.prog Tryz.f171 R) ⟨#[Value.int IntKind.i64 x0, Value.pointer (some f0), Value.pointer (some f1)] ++ Array.replicate (Tryz.f171.ntmps - 3) undef, []⟩ H := by kernel_rfl
theorem F171_calls {R : Ending → Heap → Prop} {H : Heap} (x0 : Int) (f0 : Addr) (f1 : Addr) (h : F171 x0 f0 f1 R H) : HCalls Tryz.prog 171 #[Value.int IntKind.i64 x0, Value.pointer (some f0), Value.pointer (some f1)] H R :=
  calls_by (F := F171 x0 f0 f1 R H) .leaf Tryz.func171 rfl (F171_eq x0 f0 f1 R H) h
/-- bollard/bollardref05.With -/
def F174 (x0a : Option Addr) (x0n : Nat) (x0c : Nat) (x1 : Int) (x2 : Bool) (R : Ending → Heap → Prop) (H : Heap) : Prop :=
  jn (α := VFH 1) (fun v1 H2 =>
  ∀ v3 v4 v5 v6 v7 v8 v9 v10 : Value,
  dBl v1 (fun b11 =>
  sB b11 (R (Ending.returned (Value.tuple #[Value.slice none 0 0, Value.int IntKind.i64 50])) H2) (al H2 (Obj.cells #[] 5) (fun r12 H13 =>
  semW Tryz.prog (Builtin.append_ #[38, 38] 38 #[Value.slice (some (Addr.mk r12 0 none)) 0 0, Value.slice x0a x0n x0c]) (pnR R) H13 (fun v16 H17 =>
  dSl v16 (fun p18 r19 r20 =>
  jn (α := VFH 0) (fun H21 =>
  ∀ v22 v23 v24 v25 v26 v27 v28 v29 v30 v31 v32 v33 v34 v35 v36 v37 v38 v39 : Value,
  R (Ending.returned (Value.tuple #[Value.slice p18 r19 r20, Value.int IntKind.i64 0])) H21) (fun k40 =>
  HCalls Tryz.prog 224 #[Value.slice x0a x0n x0c, Value.int IntKind.i64 x1] H17 (Sp.retK (fun v41 H42 =>
  dBl v41 (fun b43 =>
  sB (!b43 == x2) (ask ((8 : Int) ≠ (0 : Int)) (wr IntKind.i64 (Int.tdiv x1 8) (fun n44 =>
  ask ((8 : Int) ≠ (0 : Int)) (wr IntKind.i64 (Int.tdiv x1 8) (fun n45 =>
  nz p18 (fun a46 =>
  ask ((0 : Int) ≤ n45 ∧ n45 < (↑r19 : Int)) (ld H42 (Addr.add a46 (Int.toNat n45 * 1)) (fun v47 =>
  dInt IntKind.u8 v47 (fun n48 =>
  ask ((8 : Int) ≠ (0 : Int)) (nm (Int.tmod x1 8) (fun n49 =>
  ask ((0 : Int) ≤ n49) (nm (IntKind.wrap IntKind.u8 (1 * 2 ^ min (Int.toNat n49) 8)) (fun n50 =>
  nm (IntKind.wrap IntKind.u8 (↑(BitVec.toNat (BitVec.ofInt 8 n48 ^^^ BitVec.ofInt 8 n50)) : Int)) (fun n51 =>
  nz p18 (fun a52 =>
  ask ((0 : Int) ≤ n44 ∧ n44 < (↑r19 : Int)) (st H42 (Addr.add a52 (Int.toNat n44 * 1)) (Value.int IntKind.u8 n51) (fun H53 =>
  k40 H53))))))))))))))))) (k40 H42))) (pnR R))))))))) (fun k56 =>
  sB (decide (x1 < 0)) (k56 (Value.bool true) H) (ask ((8 : Int) ≠ (0 : Int)) (wr IntKind.i64 (Int.tdiv x1 8) (fun n57 =>
  k56 (Value.bool (decide (n57 ≥ (↑x0n : Int)))) H))))
theorem F174_eq (x0a : Option Addr) (x0n : Nat) (x0c : Nat) (x1 : Int) (x2 : Bool) (R : Ending → Heap → Prop) (H : Heap) : F174 x0a x0n x0c x1 x2 R H = vc Tryz.prog (codeOf Tryz.f174) (.node none .leaf (.node none (.node (some ⟨[(17, 4)], [9, 10, 11, 12, 13, 14, 15, 16]⟩) .leaf .leaf) (.node none .leaf (.node (some ⟨[], [21, 22, 23, 24, 25, 26, 27, 28, 29, 30, 31, 32, 33, 34, 35, 36, 37, 38]⟩) .leaf .leaf)))) (postV Tryz.prog Tryz.f174 R) ⟨#[Value.slice x0a x0n x0c, Value.int IntKind.i64 x1, Value.bool x2] ++ Array.replicate (Tryz.f174.ntmps - 3) undef, []⟩ H := by kernel_rfl
theorem F174_calls {R : Ending → Heap → Prop} {H : Heap} (x0a : Option Addr) (x0n : Nat) (x0c : Nat) (x1 : Int) (x2 : Bool) (h : F174 x0a x0n x0c x1 x2 R H) : HCalls Tryz.prog 174 #[Value.slice x0a x0n x0c, Value.int IntKind.i64 x1, Value.bool x2] H R :=
  calls_by (F := F174 x0a x0n x0c x1 x2 R H) (.node none .leaf (.node none (.node (some ⟨[(17, 4)], [9, 10, 11, 12, 13, 14, 15, 16]⟩) .leaf .leaf) (.node none .leaf (.node (some ⟨[], [21, 22, 23, 24, 25, 26, 27, 28, 29, 30, 31, 32, 33, 34, 35, 36, 37, 38]⟩) .leaf .leaf)))) Tryz.func174 rfl (F174_eq x0a x0n x0c x1 x2 R H) h
/-- bollard/bollardref03.mayDinode -/
def F176 (x0_0 : Value) (x0_1 : Value) (x0_2 : Value) (x0_3 : Value) (x0_4 : Value) (x0_5 : Value) (x0_6 : Value) (x0_7 : Value) (x0_8 : Value) (R : Ending → Heap → Prop) (H : Heap) : Prop :=
  al H (Obj.cells #[x0_0, x0_1, x0_2, x0_3, x0_4, x0_5, x0_6, x0_7, x0_8] 177) (fun r1 H2 =>
  ld H2 (Addr.mk r1 0 none) (fun v3 =>
  dInt IntKind.i64 v3 (fun n4 =>
  sB (n4 == 0) (ld H2 (Addr.mk r1 0 none) (fun v5 =>
  ld H2 (Addr.mk r1 1 none) (fun v6 =>
  ld H2 (Addr.mk r1 2 none) (fun v7 =>
  ld H2 (Addr.mk r1 3 none) (fun v8 =>
  ld H2 (Addr.mk r1 4 none) (fun v9 =>
  ld H2 (Addr.mk r1 5 none) (fun v10 =>
  ld H2 (Addr.mk r1 6 none) (fun v11 =>
  ld H2 (Addr.mk r1 7 none) (fun v12 =>
  ld H2 (Addr.mk r1 8 none) (fun v13 =>
  semW Tryz.prog (eqSem BinOp.eql 177 (Operand.tmp 8) (Operand.tmp 9) (Value.agg #[v5, v6, v7, v8, v9, v10, v11, v12, v13]) (Value.agg #[Value.int IntKind.i64 0, Value.int IntKind.i64 0, Value.int IntKind.i64 0, Value.int IntKind.i64 0, Value.int IntKind.i64 0, Value.int IntKind.i64 0, Value.int IntKind.i64 0, Value.int IntKind.i64 0, Value.int IntKind.i64 0])) (pnR R) H2 (fun v16 H17 =>
  dBl v16 (fun b18 =>
  R (Ending.returned (Value.bool b18)) H17)))))))))))) (jn (α := VFH 1) (fun v19 H20 =>
  ∀ v21 v22 v23 v24 v25 v26 v27 v28 v29 v30 v31 v32 v33 v34 v35 v36 v37 v38 v39 v40 v41 v42 v43 v44 v45 v46 v47 : Value,
  dBl v19 (fun b48 =>
  sB b48 (R (Ending.returned (Value.bool false)) H20) (ld H20 (Addr.mk r1 3 none) (fun v49 =>
  ld H20 (Addr.mk r1 4 none) (fun v50 =>
  ld H20 (Addr.mk r1 5 none) (fun v51 =>
  ld H20 (Addr.mk r1 6 none) (fun v52 =>
  ∃ I53 : List Value → Heap → Prop,
  ∃ I54 : List Value → Heap → Nat,
  (I53 ([Value.int IntKind.i64 0]) H20) ∧
  ∀ n55 : Int,
  ∀ v56 v57 v58 v59 v60 v61 v62 v63 : Value,
  ∀ H64 : Heap,
  (I53 ([Value.int IntKind.i64 n55]) H64) →
  sB (decide (n55 < 4)) (ask ((0 : Int) ≤ n55 ∧ n55 < (4 : Int)) (oV ([v49, v50, v51, v52][Int.toNat n55 * 1]?) (fun v66 =>
  dInt IntKind.i64 v66 (fun n67 =>
  HCalls Tryz.prog 225 #[Value.int IntKind.i64 n67] H64 (Sp.retK (fun v68 H69 =>
  dBl v68 (fun b70 =>
  sB (!b70) (R (Ending.returned (Value.bool false)) H69) (wr IntKind.i64 (n55 + 1) (fun n71 =>
  (I53 ([Value.int IntKind.i64 n71]) H69) ∧
  (I54 [Value.int IntKind.i64 n71] H69) < (I54 [Value.int IntKind.i64 n55] H64))))) (pnR R)))))) (ld H64 (Addr.mk r1 7 none) (fun v74 =>
  dInt IntKind.i64 v74 (fun n75 =>
  HCalls Tryz.prog 225 #[Value.int IntKind.i64 n75] H64 (Sp.retK (fun v76 H77 =>
  dBl v76 (fun b78 =>
  sB b78 (ld H77 (Addr.mk r1 8 none) (fun v79 =>
  dInt IntKind.i64 v79 (fun n80 =>
  HCalls Tryz.prog 225 #[Value.int IntKind.i64 n80] H77 (Sp.retK (fun v81 H82 =>
  dBl v81 (fun b83 =>
  sB b83 (ld H82 (Addr.mk r1 0 none) (fun v84 =>
  dInt IntKind.i64 v84 (fun n85 =>
  sB (n85 != 2) (R (Ending.returned (Value.bool true)) H82) (ld H82 (Addr.mk r1 2 none) (fun v86 =>
  dInt IntKind.i64 v86 (fun n87 =>
  ask ((128 : Int) ≠ (0 : Int)) (nm (Int.tmod n87 128) (fun n88 =>
  R (Ending.returned (Value.bool (n88 == 0))) H82)))))))) (R (Ending.returned (Value.bool false)) H82))) (pnR R))))) (R (Ending.returned (Value.bool false)) H77))) (pnR R)))))))))))) (fun k93 =>
  ld H2 (Addr.mk r1 0 none) (fun v94 =>
  dInt IntKind.i64 v94 (fun n95 =>
  sB (n95 != 1) (ld H2 (Addr.mk r1 0 none) (fun v96 =>
  dInt IntKind.i64 v96 (fun n97 =>
  sB (n97 != 2) (k93 (Value.bool true) H2) (ld H2 (Addr.mk r1 1 none) (fun v98 =>
  dInt IntKind.i64 v98 (fun n99 =>
  sB (decide (n99 < 0)) (k93 (Value.bool true) H2) (ld H2 (Addr.mk r1 1 none) (fun v100 =>
  dInt IntKind.i64 v100 (fun n101 =>
  sB (decide (n101 > 1000)) (k93 (Value.bool true) H2) (ld H2 (Addr.mk r1 2 none) (fun v102 =>
  dInt IntKind.i64 v102 (fun n103 =>
  sB (decide (n103 < 0)) (k93 (Value.bool true) H2) (ld H2 (Addr.mk r1 2 none) (fun v104 =>
  dInt IntKind.i64 v104 (fun n105 =>
  k93 (Value.bool (decide (n105 > 532992))) H2))))))))))))))) (ld H2 (Addr.mk r1 1 none) (fun v106 =>
  dInt IntKind.i64 v106 (fun n107 =>
  sB (decide (n107 < 0)) (k93 (Value.bool true) H2) (ld H2 (Addr.mk r1 1 none) (fun v108 =>
  dInt IntKind.i64 v108 (fun n109 =>
  sB (decide (n109 > 1000)) (k93 (Value.bool true) H2) (ld H2 (Addr.mk r1 2 none) (fun v110 =>
  dInt IntKind.i64 v110 (fun n111 =>
  sB (decide (n111 < 0)) (k93 (Value.bool true) H2) (ld H2 (Addr.mk r1 2 none) (fun v112 =>
  dInt IntKind.i64 v112 (fun n113 =>
  k93 (Value.bool (decide (n113 > 532992))) H2)))))))))))))))))))
theorem F176_eq (x0_0 : Value) (x0_1 : Value) (x0_2 : Value) (x0_3 : Value) (x0_4 : Value) (x0_5 : Value) (x0_6 : Value) (x0_7 : Value) (x0_8 : Value) (R : Ending → Heap → Prop) (H : Heap) : F176 x0_0 x0_1 x0_2 x0_3 x0_4 x0_5 x0_6 x0_7 x0_8 R H = vc Tryz.prog (codeOf Tryz.f176) (.node none .leaf (.node none .leaf (.node none (.node (some ⟨[(38, 4)], [11, 12, 13, 14, 15, 16, 17, 18, 19, 20, 21, 22, 23, 24, 25, 26, 27, 28, 29, 30, 31, 32, 33, 34, 35, 36, 37]⟩) .leaf .leaf) (.node none (.node none .leaf (.node none (.node (some ⟨[(41, 3)], [2, 4, 42, 43, 44, 45, 46, 47]⟩) .leaf .leaf) .leaf)) .leaf)))) (postV Tryz.prog Tryz.f176 R) ⟨#[Value.agg #[x0_0, x0_1, x0_2, x0_3, x0_4, x0_5, x0_6, x0_7, x0_8]] ++ Array.replicate (Tryz.f176.ntmps - 1) undef, []⟩ H := by kernel_rfl
theorem F176_calls {R : Ending → Heap → Prop} {H : Heap} (x0_0 : Value) (x0_1 : Value) (x0_2 : Value) (x0_3 : Value) (x0_4 : Value) (x0_5 : Value) (x0_6 : Value) (x0_7 : Value) (x0_8 : Value) (h : F176 x0_0 x0_1 x0_2 x0_3 x0_4 x0_5 x0_6 x0_7 x0_8 R H) : HCalls Tryz.prog 176 #[Value.agg #[x0_0, x0_1, x0_2, x0_3, x0_4, x0_5, x0_6, x0_7, x0_8]] H R :=
  calls_by (F := F176 x0_0 x0_1 x0_2 x0_3 x0_4 x0_5 x0_6 x0_7 x0_8 R H) (.node none .leaf (.node none .leaf (.node none (.node (some ⟨[(38, 4)], [11, 12, 13, 14, 15, 16, 17, 18, 19, 20, 21, 22, 23, 24, 25, 26, 27, 28, 29, 30, 31, 32, 33, 34, 35, 36, 37]⟩) .leaf .leaf) (.node none (.node none .leaf (.node none (.node (some ⟨[(41, 3)], [2, 4, 42, 43, 44, 45, 46, 47]⟩) .leaf .leaf) .leaf)) .leaf)))) Tryz.func176 rfl (F176_eq x0_0 x0_1 x0_2 x0_3 x0_4 x0_5 x0_6 x0_7 x0_8 R H) h
/-- bollard/bollardref03.number -/
def F177 (x0a : Option Addr) (x0n : Nat) (x0c : Nat) (x1 : Int) (x2 : Int) (x3 : Int) (R : Ending → Heap → Prop) (H : Heap) : Prop :=
  HCalls Tryz.prog 226 #[Value.slice x0a x0n x0c, Value.int IntKind.i64 x1, Value.int IntKind.i64 x2, Value.int IntKind.i64 x3] H (Sp.retK (fun v1 H2 =>
  dT 2 v1 (fun v3 v4 =>
  dSl v3 (fun p5 r6 r7 =>
  dInt IntKind.i64 v4 (fun n8 =>
  R (Ending.returned (Value.slice p5 r6 r7)) H2)))) (pnR R))
theorem F177_eq (x0a : Option Addr) (x0n : Nat) (x0c : Nat) (x1 : Int) (x2 : Int) (x3 : Int) (R : Ending → Heap → Prop) (H : Heap) : F177 x0a x0n x0c x1 x2 x3 R H = vc Tryz.prog (codeOf Tryz.f177) .leaf (postV Tryz.prog Tryz.f177 R) ⟨#[Value.slice x0a x0n x0c, Value.int IntKind.i64 x1, Value.int IntKind.i64 x2, Value.int IntKind.i64 x3] ++ Array.replicate (Tryz.f177.ntmps - 4) undef, []⟩ H := by kernel_rfl
theorem F177_calls {R : Ending → Heap → Prop} {H : Heap} (x0a : Option Addr) (x0n : Nat) (x0c : Nat) (x1 : Int) (x2 : Int) (x3 : Int) (h : F177 x0a x0n x0c x1 x2 x3 R H) : HCalls Tryz.prog 177 #[Value.slice x0a x0n x0c, Value.int IntKind.i64 x1, Value.int IntKind.i64 x2, Value.int IntKind.i64 x3] H R :=
  calls_by (F := F177 x0a x0n x0c x1 x2 x3 R H) .leaf Tryz.func177 rfl (F177_eq x0a x0n x0c x1 x2 x3 R H) h
/-- bollard/bollardref01.Seal -/
def F178 (x0a : Option Addr) (x0n : Nat) (x0c : Nat) (R : Ending → Heap → Prop) (H : Heap) : Prop :=
  sB (decide ((↑x0n : Int) < 4)) (R (Ending.returned (Value.tuple #[Value.slice none 0 0, Value.int IntKind.i64 10])) H) (wr IntKind.i64 ((↑x0n : Int) - 4) (fun n1 =>
  wr IntKind.i64 ((↑x0n : Int) - 4) (fun n2 =>
  ask ((0 : Int) ≤ (0 : Int) ∧ (0 : Int) ≤ n2 ∧ n2 ≤ (↑x0c : Int) ∧ (↑x0c : Int) ≤ (↑x0c : Int)) (HCalls Tryz.prog 227 #[Value.slice (slO x0a 1 0 (↑x0c : Int)) (Int.toNat n2 - Int.toNat 0) (Int.toNat (↑x0c : Int) - Int.toNat 0)] H (Sp.retK (fun v3 H4 =>
  dInt IntKind.i64 v3 (fun n5 =>
  HCalls Tryz.prog 226 #[Value.slice x0a x0n x0c, Value.int IntKind.i64 n1, Value.int IntKind.i64 4, Value.int IntKind.i64 n5] H4 (Sp.retK (fun v6 H7 =>
  dT 2 v6 (fun v8 v9 =>
  dSl v8 (fun p10 r11 r12 =>
  dInt IntKind.i64 v9 (fun n13 =>
  R (Ending.returned (Value.tuple #[Value.slice p10 r11 r12, Value.int IntKind.i64 n13])) H7)))) (pnR R)))) (pnR R))))))
theorem F178_eq (x0a : Option Addr) (x0n : Nat) (x0c : Nat) (R : Ending → Heap → Prop) (H : Heap) : F178 x0a x0n x0c R H = vc Tryz.prog (codeOf Tryz.f178) .leaf (postV Tryz.prog Tryz.f178 R) ⟨#[Value.slice x0a x0n x0c] ++ Array.replicate (Tryz.f178.ntmps - 1) undef, []⟩ H := by kernel_rfl
theorem F178_calls {R : Ending → Heap → Prop} {H : Heap} (x0a : Option Addr) (x0n : Nat) (x0c : Nat) (h : F178 x0a x0n x0c R H) : HCalls Tryz.prog 178 #[Value.slice x0a x0n x0c] H R :=
  calls_by (F := F178 x0a x0n x0c R H) .leaf Tryz.func178 rfl (F178_eq x0a x0n x0c R H) h
/-- bollard/bollardref12.clash -/
def F179 (x0a : Option Addr) (x0n : Nat) (x0c : Nat) (R : Ending → Heap → Prop) (H : Heap) : Prop :=
  ∃ I1 : List Value → Heap → Prop,
  ∃ I2 : List Value → Heap → Nat,
  (I1 ([Value.int IntKind.i64 0]) H) ∧
  ∀ n3 : Int,
  ∀ v4 v5 v6 v7 v8 v9 v10 v11 v12 v13 v14 v15 v16 v17 v18 v19 v20 v21 v22 v23 v24 v25 v26 v27 v28 v29 v30 v31 v32 v33 v34 v35 v36 : Value,
  ∀ H37 : Heap,
  (I1 ([Value.int IntKind.i64 n3]) H37) →
  sB (decide (n3 < (↑x0n : Int))) (nz x0a (fun a39 =>
  ask ((0 : Int) ≤ n3 ∧ n3 < (↑x0n : Int)) (ld H37 (Addr.add a39 (Int.toNat n3 * 2)) (fun v40 =>
  ld H37 (Addr.add (Addr.add a39 (Int.toNat n3 * 2)) 1) (fun v41 =>
  al H37 (Obj.cells #[Value.int IntKind.i64 0, Value.string (ByteArray.mk #[])] 180) (fun r42 H43 =>
  st H43 (Addr.mk r42 0 none) v40 (fun H44 =>
  st H44 (Addr.mk r42 1 none) v41 (fun H45 =>
  ask ((0 : Int) ≤ (0 : Int) ∧ (0 : Int) ≤ n3 ∧ n3 ≤ (↑x0c : Int) ∧ (↑x0c : Int) ≤ (↑x0c : Int)) (∃ I46 : List Value → Heap → Prop,
  ∃ I47 : List Value → Heap → Nat,
  (I46 ([Value.int IntKind.i64 0]) H45) ∧
  ∀ n48 : Int,
  ∀ v49 v50 v51 v52 v53 v54 v55 v56 v57 v58 v59 v60 v61 v62 v63 v64 v65 v66 v67 v68 v69 : Value,
  ∀ H70 : Heap,
  (I46 ([Value.int IntKind.i64 n48]) H70) →
  sB (decide (n48 < (↑(Int.toNat n3 - Int.toNat 0) : Int))) (nz (slO x0a 2 0 (↑x0c : Int)) (fun a72 =>
  ask ((0 : Int) ≤ n48 ∧ n48 < (↑(Int.toNat n3 - Int.toNat (0 : Int)) : Int)) (ld H70 (Addr.add a72 (Int.toNat n48 * 2)) (fun v73 =>
  ld H70 (Addr.add (Addr.add a72 (Int.toNat n48 * 2)) 1) (fun v74 =>
  al H70 (Obj.cells #[Value.int IntKind.i64 0, Value.string (ByteArray.mk #[])] 180) (fun r75 H76 =>
  st H76 (Addr.mk r75 0 none) v73 (fun H77 =>
  st H77 (Addr.mk r75 1 none) v74 (fun H78 =>
  jn (α := VFH 1) (fun v79 H80 =>
  ∀ v81 v82 v83 v84 v85 v86 v87 v88 v89 v90 v91 v92 v93 v94 : Value,
  dBl v79 (fun b95 =>
  sB b95 (R (Ending.returned (Value.bool true)) H80) (wr IntKind.i64 (n48 + 1) (fun n96 =>
  (I46 ([Value.int IntKind.i64 n96]) H80) ∧
  (I47 [Value.int IntKind.i64 n96] H80) < (I47 [Value.int IntKind.i64 n48] H70))))) (fun k97 =>
  ld H78 (Addr.mk r42 0 none) (fun v98 =>
  dInt IntKind.i64 v98 (fun n99 =>
  sB (n99 != 0) (ld H78 (Addr.mk r75 0 none) (fun v100 =>
  dInt IntKind.i64 v100 (fun n101 =>
  sB (n101 != 0) (ld H78 (Addr.mk r42 1 none) (fun v102 =>
  dStr v102 (fun s103 =>
  ld H78 (Addr.mk r75 1 none) (fun v104 =>
  dStr v104 (fun s105 =>
  k97 (Value.bool (ByteArray.toList s103 == ByteArray.toList s105)) H78))))) (k97 (Value.bool false) H78)))) (k97 (Value.bool false) H78)))))))))))) (wr IntKind.i64 (n3 + 1) (fun n106 =>
  (I1 ([Value.int IntKind.i64 n106]) H70) ∧
  (I2 [Value.int IntKind.i64 n106] H70) < (I2 [Value.int IntKind.i64 n3] H37)))))))))))) (R (Ending.returned (Value.bool false)) H37)
theorem F179_eq (x0a : Option Addr) (x0n : Nat) (x0c : Nat) (R : Ending → Heap → Prop) (H : Heap) : F179 x0a x0n x0c R H = vc Tryz.prog (codeOf Tryz.f179) (.node none .leaf (.node none (.node none .leaf (.node none (.node (some ⟨[(9, 3)], [2, 3, 4, 6, 10, 11, 12, 13, 14, 15, 16, 17, 18, 19, 20, 21, 22, 23, 24, 25, 26, 27, 28, 29, 30, 31, 32, 33, 34, 35, 36, 37, 38]⟩) (.node none .leaf (.node none .leaf (.node none (.node none (.node none .leaf (.node none .leaf (.node none (.node (some ⟨[(18, 3)], [2, 6, 19, 20, 21, 22, 23, 24, 25, 26, 27, 28, 29, 30, 31, 32, 33, 34, 35, 36, 37]⟩) (.node none .leaf (.node none .leaf (.node none (.node none (.node none .leaf (.node (some ⟨[(36, 4)], [22, 23, 24, 25, 26, 27, 28, 29, 30, 31, 32, 33, 34, 35]⟩) .leaf .leaf)) .leaf) .leaf))) .leaf) .leaf))) .leaf) .leaf))) .leaf) .leaf)) .leaf)) (postV Tryz.prog Tryz.f179 R) ⟨#[Value.slice x0a x0n x0c] ++ Array.replicate (Tryz.f179.ntmps - 1) undef, []⟩ H := by kernel_rfl
theorem F179_calls {R : Ending → Heap → Prop} {H : Heap} (x0a : Option Addr) (x0n : Nat) (x0c : Nat) (h : F179 x0a x0n x0c R H) : HCalls Tryz.prog 179 #[Value.slice x0a x0n x0c] H R :=
  calls_by (F := F179 x0a x0n x0c R H) (.node none .leaf (.node none (.node none .leaf (.node none (.node (some ⟨[(9, 3)], [2, 3, 4, 6, 10, 11, 12, 13, 14, 15, 16, 17, 18, 19, 20, 21, 22, 23, 24, 25, 26, 27, 28, 29, 30, 31, 32, 33, 34, 35, 36, 37, 38]⟩) (.node none .leaf (.node none .leaf (.node none (.node none (.node none .leaf (.node none .leaf (.node none (.node (some ⟨[(18, 3)], [2, 6, 19, 20, 21, 22, 23, 24, 25, 26, 27, 28, 29, 30, 31, 32, 33, 34, 35, 36, 37]⟩) (.node none .leaf (.node none .leaf (.node none (.node none (.node none .leaf (.node (some ⟨[(36, 4)], [22, 23, 24, 25, 26, 27, 28, 29, 30, 31, 32, 33, 34, 35]⟩) .leaf .leaf)) .leaf) .leaf))) .leaf) .leaf))) .leaf) .leaf))) .leaf) .leaf)) .leaf)) Tryz.func179 rfl (F179_eq x0a x0n x0c R H) h
/-- bollard/bollardref03.EncodeEntry -/
def F180 (x0_0 : Value) (x0_1 : Value) (R : Ending → Heap → Prop) (H : Heap) : Prop :=
  al H (Obj.cells #[x0_0, x0_1] 180) (fun r1 H2 =>
  ask ((0 : Int) ≤ (16 : Int) ∧ (16 : Int) ≤ (16 : Int) ∧ (16 : Int) ≤ (281474976710656 : Int) ∧ (16 : Int) ≤ (9223372036854775807 : Int)) (al H2 (Obj.cells (List.toArray (rowZ [Value.int IntKind.u8 0] (Int.toNat 16))) 5) (fun r3 H4 =>
  ld H4 (Addr.mk r1 0 none) (fun v5 =>
  ld H4 (Addr.mk r1 1 none) (fun v6 =>
  semW Tryz.prog (eqSem BinOp.eql 180 (Operand.tmp 6) (Operand.tmp 7) (Value.agg #[v5, v6]) (Value.agg #[Value.int IntKind.i64 0, Value.string (ByteArray.mk #[])])) (pnR R) H4 (fun v9 H10 =>
  dBl v9 (fun b11 =>
  sB b11 (R (Ending.returned (Value.tuple #[Value.slice (some (Addr.mk r3 0 none)) (Int.toNat 16) (Int.toNat 16), Value.int IntKind.i64 0])) H10) (jn (α := VFH 1) (fun v12 H13 =>
  ∀ v14 v15 v16 v17 v18 v19 v20 v21 v22 v23 v24 v25 v26 v27 v28 v29 v30 v31 v32 v33 v34 v35 v36 : Value,
  dBl v12 (fun b37 =>
  sB b37 (R (Ending.returned (Value.tuple #[Value.slice none 0 0, Value.int IntKind.i64 1])) H13) (ld H13 (Addr.mk r1 0 none) (fun v38 =>
  dInt IntKind.i64 v38 (fun n39 =>
  HCalls Tryz.prog 177 #[Value.slice (some (Addr.mk r3 0 none)) (Int.toNat 16) (Int.toNat 16), Value.int IntKind.i64 0, Value.int IntKind.i64 2, Value.int IntKind.i64 n39] H13 (Sp.retK (fun v40 H41 =>
  dSl v40 (fun p42 r43 r44 =>
  ld H41 (Addr.mk r1 1 none) (fun v45 =>
  dStr v45 (fun s46 =>
  HCalls Tryz.prog 177 #[Value.slice p42 r43 r44, Value.int IntKind.i64 2, Value.int IntKind.i64 1, Value.int IntKind.i64 (↑(ByteArray.size s46) : Int)] H41 (Sp.retK (fun v47 H48 =>
  dSl v47 (fun p49 r50 r51 =>
  ask ((0 : Int) ≤ (3 : Int) ∧ (3 : Int) ≤ (↑r50 : Int) ∧ (↑r50 : Int) ≤ (↑r51 : Int) ∧ (↑r51 : Int) ≤ (↑r51 : Int)) (ld H48 (Addr.mk r1 1 none) (fun v52 =>
  dStr v52 (fun s53 =>
  semW Tryz.prog (Builtin.copy_ #[38, 9] 3 #[Value.slice (slO p49 1 3 (↑r51 : Int)) (Int.toNat (↑r50 : Int) - Int.toNat 3) (Int.toNat (↑r51 : Int) - Int.toNat 3), Value.string s53]) nopR H48 (fun v56 H57 =>
  dInt IntKind.i64 v56 (fun n58 =>
  R (Ending.returned (Value.tuple #[Value.slice p49 r50 r51, Value.int IntKind.i64 0])) H57))))))) (pnR R)))))) (pnR R))))))) (fun k63 =>
  ld H10 (Addr.mk r1 0 none) (fun v64 =>
  dInt IntKind.i64 v64 (fun n65 =>
  sB (decide (n65 < 1)) (k63 (Value.bool true) H10) (ld H10 (Addr.mk r1 0 none) (fun v66 =>
  dInt IntKind.i64 v66 (fun n67 =>
  sB (decide (n67 > 511)) (k63 (Value.bool true) H10) (ld H10 (Addr.mk r1 1 none) (fun v68 =>
  dStr v68 (fun s69 =>
  HCalls Tryz.prog 228 #[Value.string s69] H10 (Sp.retK (fun v70 H71 =>
  dBl v70 (fun b72 =>
  sB (!b72) (ld H71 (Addr.mk r1 1 none) (fun v73 =>
  dStr v73 (fun s74 =>
  sB (!ByteArray.toList s74 == [UInt8.ofBitVec 46#8]) (ld H71 (Addr.mk r1 1 none) (fun v75 =>
  dStr v75 (fun s76 =>
  k63 (Value.bool !ByteArray.toList s76 == [UInt8.ofBitVec 46#8, UInt8.ofBitVec 46#8]) H71))) (k63 (Value.bool false) H71)))) (k63 (Value.bool false) H71))) (pnR R)))))))))))))))))))
theorem F180_eq (x0_0 : Value) (x0_1 : Value) (R : Ending → Heap → Prop) (H : Heap) : F180 x0_0 x0_1 R H = vc Tryz.prog (codeOf Tryz.f180) (.node none .leaf (.node none .leaf (.node none .leaf (.node none (.node (some ⟨[(33, 4)], [10, 11, 12, 13, 14, 15, 16, 17, 18, 19, 20, 21, 22, 23, 24, 25, 26, 27, 28, 29, 30, 31, 32]⟩) .leaf .leaf) .leaf)))) (postV Tryz.prog Tryz.f180 R) ⟨#[Value.agg #[x0_0, x0_1]] ++ Array.replicate (Tryz.f180.ntmps - 1) undef, []⟩ H := by kernel_rfl
theorem F180_calls {R : Ending → Heap → Prop} {H : Heap} (x0_0 : Value) (x0_1 : Value) (h : F180 x0_0 x0_1 R H) : HCalls Tryz.prog 180 #[Value.agg #[x0_0, x0_1]] H R :=
  calls_by (F := F180 x0_0 x0_1 R H) (.node none .leaf (.node none .leaf (.node none .leaf (.node none (.node (some ⟨[(33, 4)], [10, 11, 12, 13, 14, 15, 16, 17, 18, 19, 20, 21, 22, 23, 24, 25, 26, 27, 28, 29, 30, 31, 32]⟩) .leaf .leaf) .leaf)))) Tryz.func180 rfl (F180_eq x0_0 x0_1 R H) h
/-- bollard/bollardref02.copied -/
def F181 (x0a : Option Addr) (x0n : Nat) (x0c : Nat) (R : Ending → Heap → Prop) (H : Heap) : Prop :=
  al H (Obj.cells #[] 5) (fun r1 H2 =>
  semW Tryz.prog (Builtin.append_ #[38, 38] 38 #[Value.slice (some (Addr.mk r1 0 none)) 0 0, Value.slice x0a x0n x0c]) (pnR R) H2 (fun v5 H6 =>
  dSl v5 (fun p7 r8 r9 =>
  R (Ending.returned (Value.slice p7 r8 r9)) H6)))
theorem F181_eq (x0a : Option Addr) (x0n : Nat) (x0c : Nat) (R : Ending → Heap → Prop) (H : Heap) : F181 x0a x0n x0c R H = vc Tryz.prog (codeOf Tryz.f181) .leaf (postV Tryz.prog Tryz.f181 R) ⟨#[Value.slice x0a x0n x0c] ++ Array.replicate (Tryz.f181.ntmps - 1) undef, []⟩ H := by kernel_rfl
theorem F181_calls {R : Ending → Heap → Prop} {H : Heap} (x0a : Option Addr) (x0n : Nat) (x0c : Nat) (h : F181 x0a x0n x0c R H) : HCalls Tryz.prog 181 #[Value.slice x0a x0n x0c] H R :=
  calls_by (F := F181 x0a x0n x0c R H) .leaf Tryz.func181 rfl (F181_eq x0a x0n x0c R H) h
/-- bollard/bollardref06.New -/
def F182 (x0 : Option Addr) (x1 : Int) (R : Ending → Heap → Prop) (H : Heap) : Prop :=
  sB (Option.isNone x0) (R (Ending.returned (Value.tuple #[Value.pointer none, Value.int IntKind.i64 2])) H) (jn (α := VFH 1) (fun v1 H2 =>
  ∀ v3 v4 v5 v6 v7 : Value,
  dBl v1 (fun b8 =>
  sB b8 (R (Ending.returned (Value.tuple #[Value.pointer none, Value.int IntKind.i64 1])) H2) (al H2 (Obj.cells #[Value.pointer x0, Value.int IntKind.i64 x1, Value.slice none 0 0, Value.int IntKind.i64 0, Value.int IntKind.i64 0] 281) (fun r9 H10 =>
  R (Ending.returned (Value.tuple #[Value.pointer (some (Addr.mk r9 0 none)), Value.int IntKind.i64 0])) H10)))) (fun k11 =>
  sB (decide (x1 < 1)) (k11 (Value.bool true) H) (k11 (Value.bool (decide (x1 > 64))) H)))
theorem F182_eq (x0 : Option Addr) (x1 : Int) (R : Ending → Heap → Prop) (H : Heap) : F182 x0 x1 R H = vc Tryz.prog (codeOf Tryz.f182) (.node none .leaf (.node none .leaf (.node none (.node (some ⟨[(13, 4)], [8, 9, 10, 11, 12]⟩) .leaf .leaf) .leaf))) (postV Tryz.prog Tryz.f182 R) ⟨#[Value.pointer x0, Value.int IntKind.i64 x1] ++ Array.replicate (Tryz.f182.ntmps - 2) undef, []⟩ H := by kernel_rfl
theorem F182_calls {R : Ending → Heap → Prop} {H : Heap} (x0 : Option Addr) (x1 : Int) (h : F182 x0 x1 R H) : HCalls Tryz.prog 182 #[Value.pointer x0, Value.int IntKind.i64 x1] H R :=
  calls_by (F := F182 x0 x1 R H) (.node none .leaf (.node none .leaf (.node none (.node (some ⟨[(13, 4)], [8, 9, 10, 11, 12]⟩) .leaf .leaf) .leaf))) Tryz.func182 rfl (F182_eq x0 x1 R H) h
/-- (*bollard/cache.Cache).get -/
def F188 (x0 : Option Addr) (x1 : Int) (R : Ending → Heap → Prop) (H : Heap) : Prop :=
  HCalls Tryz.prog 197 #[Value.pointer x0, Value.int IntKind.i64 x1] H (Sp.retK (fun v1 H2 =>
  dInt IntKind.i64 v1 (fun n3 =>
  sB (n3 != 0) (R (Ending.returned (Value.tuple #[Value.pointer none, Value.int IntKind.i64 n3])) H2) (nz x0 (fun a4 =>
  ld H2 (Addr.add a4 2) (fun v5 =>
  dMap v5 (fun p6 =>
  semW Tryz.prog (Instr.lookup 201 (Value.map p6) (Value.int IntKind.i64 x1) true) (pnR R) H2 (fun v9 H10 =>
  dT 2 v9 (fun v11 v12 =>
  dPtr v11 (fun p13 =>
  dBl v12 (fun b14 =>
  jn (α := VFH 1) (fun v15 H16 =>
  ∀ v17 v18 v19 v20 v21 v22 v23 v24 v25 v26 v27 v28 v29 v30 v31 v32 v33 v34 v35 v36 v37 v38 v39 v40 v41 v42 v43 v44 v45 : Value,
  dPtr v15 (fun p46 =>
  nz x0 (fun a47 =>
  ld H16 (Addr.add a47 3) (fun v48 =>
  dInt IntKind.i64 v48 (fun n49 =>
  wr IntKind.i64 (n49 + 1) (fun n50 =>
  nz x0 (fun a51 =>
  st H16 (Addr.add a51 3) (Value.int IntKind.i64 n50) (fun H52 =>
  nz x0 (fun a53 =>
  ld H52 (Addr.add a53 3) (fun v54 =>
  dInt IntKind.i64 v54 (fun n55 =>
  nz p46 (fun a56 =>
  st H52 (Addr.add a56 2) (Value.int IntKind.i64 n55) (fun H57 =>
  R (Ending.returned (Value.tuple #[Value.pointer p46, Value.int IntKind.i64 0])) H57))))))))))))) (fun k58 =>
  sB b14 (nz x0 (fun a59 =>
  ld H10 (Addr.add a59 4) (fun v60 =>
  dInt IntKind.i64 v60 (fun n61 =>
  wr IntKind.i64 (n61 + 1) (fun n62 =>
  nz x0 (fun a63 =>
  st H10 (Addr.add a63 4) (Value.int IntKind.i64 n62) (fun H64 =>
  k58 (Value.pointer p13) H64))))))) (nz x0 (fun a65 =>
  ld H10 (Addr.add a65 5) (fun v66 =>
  dInt IntKind.i64 v66 (fun n67 =>
  wr IntKind.i64 (n67 + 1) (fun n68 =>
  nz x0 (fun a69 =>
  st H10 (Addr.add a69 5) (Value.int IntKind.i64 n68) (fun H70 =>
  HCalls Tryz.prog 231 #[Value.pointer x0, Value.int IntKind.i64 x1] H70 (Sp.retK (fun v71 H72 =>
  dT 2 v71 (fun v73 v74 =>
  dPtr v73 (fun p75 =>
  dInt IntKind.i64 v74 (fun n76 =>
  sB (n76 != 0) (R (Ending.returned (Value.tuple #[Value.pointer none, Value.int IntKind.i64 n76])) H72) (k58 (Value.pointer p75) H72))))) (pnR R)))))))))))))))))))) (pnR R))
theorem F188_eq (x0 : Option Addr) (x1 : Int) (R : Ending → Heap → Prop) (H : Heap) : F188 x0 x1 R H = vc Tryz.prog (codeOf Tryz.f188) (.node none .leaf (.node none .leaf (.node none .leaf (.node (some ⟨[(7, 254)], [4, 5, 9, 10, 26, 27, 28, 29, 30, 31, 32, 33, 34, 35, 36, 37, 38, 39, 40, 41, 42, 43, 44, 45, 46, 47, 48, 49, 50]⟩) .leaf .leaf)))) (postV Tryz.prog Tryz.f188 R) ⟨#[Value.pointer x0, Value.int IntKind.i64 x1] ++ Array.replicate (Tryz.f188.ntmps - 2) undef, []⟩ H := by kernel_rfl
theorem F188_calls {R : Ending → Heap → Prop} {H : Heap} (x0 : Option Addr) (x1 : Int) (h : F188 x0 x1 R H) : HCalls Tryz.prog 188 #[Value.pointer x0, Value.int IntKind.i64 x1] H R :=
  calls_by (F := F188 x0 x1 R H) (.node none .leaf (.node none .leaf (.node none .leaf (.node (some ⟨[(7, 254)], [4, 5, 9, 10, 26, 27, 28, 29, 30, 31, 32, 33, 34, 35, 36, 37, 38, 39, 40, 41, 42, 43, 44, 45, 46, 47, 48, 49, 50]⟩) .leaf .leaf)))) Tryz.func188 rfl (F188_eq x0 x1 R H) h
end Go.Proofs.YtngploohhmfaiaaGreat.E
