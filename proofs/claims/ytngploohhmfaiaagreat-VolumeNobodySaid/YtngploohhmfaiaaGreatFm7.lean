/- The functions' forms in the engine's words, printed by my own program. -/
import Derived.Test.YtngploohhmfaiaaGreatProg
import Derived.Test.YtngploohhmfaiaaGreatEng11
import Derived.KernelRfl
namespace Go.Proofs.YtngploohhmfaiaaGreat.E
open Go Go.Proofs
set_option linter.unusedVariables false
/-- (*bollard/patch.Set).Blocks -/
def F99 (x0 : Option Addr) (R : Ending → Heap → Prop) (H : Heap) : Prop :=
  HCalls Tryz.prog 127 #[Value.pointer x0] H (Sp.retK (fun v1 H2 =>
  dBl v1 (fun b3 =>
  sB (!b3) (R (Ending.returned (Value.slice none 0 0)) H2) (nz x0 (fun a4 =>
  ld H2 (Addr.add a4 2) (fun v5 =>
  dMap v5 (fun p6 =>
  semW Tryz.prog (Instr.range 190 (Value.map p6)) (pnR R) H2 (fun v9 H10 =>
  ∃ I11 : List Value → Heap → Prop,
  ∃ I12 : List Value → Heap → Nat,
  (I11 ([Value.slice none 0 0]) H10) ∧
  ∀ p13 : Option Addr,
  ∀ r14 : Nat,
  ∀ r15 : Nat,
  ∀ v16 v17 v18 v19 v20 v21 v22 v23 v24 v25 : Value,
  ∀ H26 : Heap,
  (I11 ([Value.slice p13 r14 r15]) H26) →
  semW Tryz.prog (Instr.next v9 false 0) (pnR R) H26 (fun v30 H31 =>
  dNx v30 (HCalls Tryz.prog 156 #[Value.slice p13 r14 r15] H31 (Sp.retK (fun v32 H33 =>
  HCalls Tryz.prog 157 #[Value.slice p13 r14 r15] H33 (Sp.retK (fun v34 H35 =>
  dSl v34 (fun p36 r37 r38 =>
  R (Ending.returned (Value.slice p36 r37 r38)) H35)) (pnR R))) (pnR R))) (fun v43 v44 =>
  semW Tryz.prog (Instr.entry v9) (pnR R) H31 (fun v47 H48 =>
  dT 2 v47 (fun v49 v50 =>
  dA 5 v50 (fun v51 v52 v53 v54 v55 =>
  al H48 (Obj.cells #[Value.int IntKind.i64 0, Value.int IntKind.i64 0, Value.int IntKind.i64 0, Value.slice none 0 0, Value.slice none 0 0] 194) (fun r56 H57 =>
  st H57 (Addr.mk r56 0 none) v51 (fun H58 =>
  st H58 (Addr.mk r56 1 none) v52 (fun H59 =>
  st H59 (Addr.mk r56 2 none) v53 (fun H60 =>
  st H60 (Addr.mk r56 3 none) v54 (fun H61 =>
  st H61 (Addr.mk r56 4 none) v55 (fun H62 =>
  ld H62 (Addr.mk r56 1 none) (fun v63 =>
  dInt IntKind.i64 v63 (fun n64 =>
  al H62 (Obj.cells #[Value.int IntKind.i64 n64] 3) (fun r65 H66 =>
  semW Tryz.prog (Builtin.append_ #[73, 73] 73 #[Value.slice p13 r14 r15, Value.slice (some (Addr.mk r65 0 none)) 1 1]) (pnR R) H66 (fun v69 H70 =>
  dSl v69 (fun p71 r72 r73 =>
  (I11 ([Value.slice p71 r72 r73]) H70) ∧
  (I12 [Value.slice p71 r72 r73] H70) < (I12 [Value.slice p13 r14 r15] H26)))))))))))))))))))))))) (pnR R))
theorem F99_eq (x0 : Option Addr) (R : Ending → Heap → Prop) (H : Heap) : F99 x0 R H = vc Tryz.prog (codeOf Tryz.f99) (.node none .leaf (.node none .leaf (.node none .leaf (.node none (.node none .leaf (.node none (.node (some ⟨[(3, 73)], [5, 14, 15, 16, 17, 18, 19, 20, 21, 22]⟩) .leaf .leaf) .leaf)) .leaf)))) (postV Tryz.prog Tryz.f99 R) ⟨#[Value.pointer x0] ++ Array.replicate (Tryz.f99.ntmps - 1) undef, []⟩ H := by kernel_rfl
theorem F99_calls {R : Ending → Heap → Prop} {H : Heap} (x0 : Option Addr) (h : F99 x0 R H) : HCalls Tryz.prog 99 #[Value.pointer x0] H R :=
  calls_by (F := F99 x0 R H) (.node none .leaf (.node none .leaf (.node none .leaf (.node none (.node none .leaf (.node none (.node (some ⟨[(3, 73)], [5, 14, 15, 16, 17, 18, 19, 20, 21, 22]⟩) .leaf .leaf) .leaf)) .leaf)))) Tryz.func99 rfl (F99_eq x0 R H) h
/-- slices.EqualFunc[[][]byte,[][]byte,[]byte,[]byte] -/
def F100 (x0a : Option Addr) (x0n : Nat) (x0c : Nat) (x1a : Option Addr) (x1n : Nat) (x1c : Nat) (x2g : Nat) (x2f : Array Value) (x2c : Array Value) (R : Ending → Heap → Prop) (H : Heap) : Prop :=
  sB ((↑x0n : Int) != (↑x1n : Int)) (R (Ending.returned (Value.bool false)) H) (∃ I1 : List Value → Heap → Prop,
  ∃ I2 : List Value → Heap → Nat,
  (I1 ([Value.int IntKind.i64 0]) H) ∧
  ∀ n3 : Int,
  ∀ v4 v5 v6 v7 v8 v9 v10 v11 v12 v13 v14 v15 v16 v17 v18 v19 v20 v21 : Value,
  ∀ H22 : Heap,
  (I1 ([Value.int IntKind.i64 n3]) H22) →
  sB (decide (n3 < (↑x0n : Int))) (nz x0a (fun a24 =>
  ask ((0 : Int) ≤ n3 ∧ n3 < (↑x0n : Int)) (ld H22 (Addr.add a24 (Int.toNat n3 * 1)) (fun v25 =>
  dSl v25 (fun p26 r27 r28 =>
  nz x1a (fun a29 =>
  ask ((0 : Int) ≤ n3 ∧ n3 < (↑x1n : Int)) (ld H22 (Addr.add a29 (Int.toNat n3 * 1)) (fun v30 =>
  dSl v30 (fun p31 r32 r33 =>
  gB (plainFn Tryz.prog x2g) (HCalls Tryz.prog x2g (argsOf x2f [Value.slice p26 r27 r28, Value.slice p31 r32 r33] x2c) H22 (Sp.retK (fun v34 H35 =>
  dBl v34 (fun b36 =>
  sB (!b36) (R (Ending.returned (Value.bool false)) H35) (wr IntKind.i64 (n3 + 1) (fun n37 =>
  (I1 ([Value.int IntKind.i64 n37]) H35) ∧
  (I2 [Value.int IntKind.i64 n37] H35) < (I2 [Value.int IntKind.i64 n3] H22))))) (pnR R)))))))))))) (R (Ending.returned (Value.bool true)) H22))
theorem F100_eq (x0a : Option Addr) (x0n : Nat) (x0c : Nat) (x1a : Option Addr) (x1n : Nat) (x1c : Nat) (x2g : Nat) (x2f : Array Value) (x2c : Array Value) (R : Ending → Heap → Prop) (H : Heap) : F100 x0a x0n x0c x1a x1n x1c x2g x2f x2c R H = vc Tryz.prog (codeOf Tryz.f100) (.node none .leaf (.node none .leaf (.node none (.node none .leaf (.node none (.node (some ⟨[(17, 3)], [6, 7, 8, 9, 18, 19, 20, 21, 22, 23, 24, 25, 26, 27, 28, 29, 30, 31]⟩) .leaf .leaf) .leaf)) .leaf))) (postV Tryz.prog Tryz.f100 R) ⟨#[Value.slice x0a x0n x0c, Value.slice x1a x1n x1c, Value.func (Fn.func x2g) x2f x2c] ++ Array.replicate (Tryz.f100.ntmps - 3) undef, []⟩ H := by kernel_rfl
theorem F100_calls {R : Ending → Heap → Prop} {H : Heap} (x0a : Option Addr) (x0n : Nat) (x0c : Nat) (x1a : Option Addr) (x1n : Nat) (x1c : Nat) (x2g : Nat) (x2f : Array Value) (x2c : Array Value) (h : F100 x0a x0n x0c x1a x1n x1c x2g x2f x2c R H) : HCalls Tryz.prog 100 #[Value.slice x0a x0n x0c, Value.slice x1a x1n x1c, Value.func (Fn.func x2g) x2f x2c] H R :=
  calls_by (F := F100 x0a x0n x0c x1a x1n x1c x2g x2f x2c R H) (.node none .leaf (.node none .leaf (.node none (.node none .leaf (.node none (.node (some ⟨[(17, 3)], [6, 7, 8, 9, 18, 19, 20, 21, 22, 23, 24, 25, 26, 27, 28, 29, 30, 31]⟩) .leaf .leaf) .leaf)) .leaf))) Tryz.func100 rfl (F100_eq x0a x0n x0c x1a x1n x1c x2g x2f x2c R H) h
/-- (*bollard/bollardplain.Pair).Flush -/
def F101 (x0 : Option Addr) (x1 : Int) (R : Ending → Heap → Prop) (H : Heap) : Prop :=
  nz x0 (fun a1 =>
  ld H (Addr.add a1 1) (fun v2 =>
  dPtr v2 (fun p3 =>
  nz x0 (fun a4 =>
  ld H (Addr.add a4 3) (fun v5 =>
  dPtr v5 (fun p6 =>
  HCalls Tryz.prog 32 #[Value.pointer p3] H (Sp.retK (fun v7 H8 =>
  dSl v7 (fun p9 r10 r11 =>
  (ld H8 (Addr.add a4 3) (fun v12 =>
  dPtr v12 (fun p13 =>
  (Value.pointer p13) = (Value.pointer p6)))) ∧
  HCalls Tryz.prog 158 #[Value.pointer p6] H8 (Sp.retK (fun v14 H15 =>
  dSl v14 (fun p16 r17 r18 =>
  HCalls Tryz.prog 159 #[Value.slice p9 r10 r11, Value.slice p16 r17 r18] H15 (Sp.retK (fun v19 H20 =>
  dBl v19 (fun b21 =>
  sB (!b21) (R (Ending.returned (Value.bool false)) H20) (jn (α := VFH 0) (fun H22 =>
  ∀ v23 v24 v25 v26 v27 v28 v29 v30 v31 v32 v33 v34 v35 v36 v37 v38 v39 v40 v41 v42 v43 v44 v45 v46 v47 v48 v49 v50 : Value,
  nz x0 (fun a51 =>
  ld H22 (Addr.add a51 1) (fun v52 =>
  dPtr v52 (fun p53 =>
  nz x0 (fun a54 =>
  ld H22 (Addr.add a54 3) (fun v55 =>
  dPtr v55 (fun p56 =>
  HCalls Tryz.prog 35 #[Value.pointer p53, Value.int IntKind.i64 0, Value.bool true] H22 (Sp.retK (fun v57 H58 =>
  dInt IntKind.i64 v57 (fun n59 =>
  (ld H58 (Addr.add a54 3) (fun v60 =>
  dPtr v60 (fun p61 =>
  (Value.pointer p61) = (Value.pointer p56)))) ∧
  HCalls Tryz.prog 161 #[Value.pointer p56, Value.int IntKind.i64 0, Value.bool true] H58 (Sp.retK (fun v62 H63 =>
  dInt IntKind.i64 v62 (fun n64 =>
  R (Ending.returned (Value.bool (n59 == n64))) H63)) nopR))) nopR)))))))) (fun k69 =>
  sB (decide ((↑r10 : Int) > 0)) (wr IntKind.u64 x1 (fun n70 =>
  wr IntKind.u64 ((↑r10 : Int)) (fun n71 =>
  ask (n71 ≠ (0 : Int)) (nm (Int.tmod n70 n71) (fun n72 =>
  wr IntKind.i64 n72 (fun n73 =>
  nz p9 (fun a74 =>
  ask ((0 : Int) ≤ n73 ∧ n73 < (↑r10 : Int)) (ld H20 (Addr.add a74 (Int.toNat n73 * 1)) (fun v75 =>
  dInt IntKind.i64 v75 (fun n76 =>
  nz x0 (fun a77 =>
  ld H20 (Addr.add a77 1) (fun v78 =>
  dPtr v78 (fun p79 =>
  nz x0 (fun a80 =>
  ld H20 (Addr.add a80 3) (fun v81 =>
  dPtr v81 (fun p82 =>
  HCalls Tryz.prog 33 #[Value.pointer p79, Value.int IntKind.i64 n76] H20 (Sp.retK (fun v83 H84 =>
  dInt IntKind.i64 v83 (fun n85 =>
  (ld H84 (Addr.add a80 3) (fun v86 =>
  dPtr v86 (fun p87 =>
  (Value.pointer p87) = (Value.pointer p82)))) ∧
  HCalls Tryz.prog 160 #[Value.pointer p82, Value.int IntKind.i64 n76] H84 (Sp.retK (fun v88 H89 =>
  dInt IntKind.i64 v88 (fun n90 =>
  sB (n85 != n90) (R (Ending.returned (Value.bool false)) H89) (k69 H89))) nopR))) nopR))))))))))))))))) (k69 H20))))) (pnR R)))) nopR))) nopR)))))))
theorem F101_eq (x0 : Option Addr) (x1 : Int) (R : Ending → Heap → Prop) (H : Heap) : F101 x0 x1 R H = vc Tryz.prog (codeOf Tryz.f101) (.node none .leaf (.node none .leaf (.node none .leaf (.node (some ⟨[], [4, 7, 22, 23, 24, 25, 26, 27, 28, 29, 30, 31, 32, 33, 34, 35, 36, 37, 38, 39, 40, 41, 42, 43, 44, 45, 46, 47]⟩) .leaf .leaf)))) (postV Tryz.prog Tryz.f101 R) ⟨#[Value.pointer x0, Value.int IntKind.i64 x1] ++ Array.replicate (Tryz.f101.ntmps - 2) undef, []⟩ H := by kernel_rfl
theorem F101_calls {R : Ending → Heap → Prop} {H : Heap} (x0 : Option Addr) (x1 : Int) (h : F101 x0 x1 R H) : HCalls Tryz.prog 101 #[Value.pointer x0, Value.int IntKind.i64 x1] H R :=
  calls_by (F := F101 x0 x1 R H) (.node none .leaf (.node none .leaf (.node none .leaf (.node (some ⟨[], [4, 7, 22, 23, 24, 25, 26, 27, 28, 29, 30, 31, 32, 33, 34, 35, 36, 37, 38, 39, 40, 41, 42, 43, 44, 45, 46, 47]⟩) .leaf .leaf)))) Tryz.func101 rfl (F101_eq x0 x1 R H) h
/-- (*bollard/bollardref09.Volume).Change -/
def F102 (x0 : Option Addr) (x1 : Int) (x2 : Int) (x3a : Option Addr) (x3n : Nat) (x3c : Nat) (x4a : Option Addr) (x4n : Nat) (x4c : Nat) (R : Ending → Heap → Prop) (H : Heap) : Prop :=
  HCalls Tryz.prog 162 #[Value.pointer x0, Value.int IntKind.i64 x1] H (Sp.retK (fun v1 H2 =>
  dBl v1 (fun b3 =>
  sB (!b3) (R (Ending.returned (Value.tuple #[Value.int IntKind.i64 0, Value.int IntKind.i64 90])) H2) (jn (α := VFH 1) (fun v4 H5 =>
  ∀ v6 v7 v8 v9 v10 v11 v12 v13 v14 v15 v16 v17 v18 v19 v20 v21 v22 : Value,
  dBl v4 (fun b23 =>
  jn (α := VFH 1) (fun v24 H25 =>
  ∀ v26 v27 v28 v29 v30 v31 v32 v33 v34 v35 v36 v37 v38 v39 v40 : Value,
  dSl v24 (fun p41 r42 r43 =>
  nz x0 (fun a44 =>
  ld H25 (Addr.add a44 2) (fun v45 =>
  dPtr v45 (fun p46 =>
  HCalls Tryz.prog 165 #[Value.pointer p46, Value.int IntKind.i64 x1, Value.int IntKind.i64 x2, Value.slice x3a x3n x3c, Value.slice x4a x4n x4c] H25 (Sp.retK (fun v47 H48 =>
  dT 2 v47 (fun v49 v50 =>
  dInt IntKind.i64 v49 (fun n51 =>
  dInt IntKind.i64 v50 (fun n52 =>
  sB (n52 != 0) (R (Ending.returned (Value.tuple #[Value.int IntKind.i64 0, Value.int IntKind.i64 n52])) H48) (jn (α := VFH 0) (fun H53 =>
  ∀ v54 v55 v56 v57 v58 v59 v60 v61 v62 v63 v64 v65 v66 v67 v68 v69 v70 v71 v72 v73 v74 v75 v76 v77 v78 v79 v80 v81 v82 : Value,
  R (Ending.returned (Value.tuple #[Value.int IntKind.i64 n51, Value.int IntKind.i64 0])) H53) (fun k83 =>
  jn (α := VFH 1) (fun v84 H85 =>
  ∀ v86 v87 v88 v89 v90 v91 v92 v93 v94 v95 v96 v97 : Value,
  dBl v84 (fun b98 =>
  sB b98 (nz x0 (fun a99 =>
  st H85 (Addr.add a99 5) (Value.bool true) (fun H100 =>
  k83 H100))) (sB b23 (nz x0 (fun a101 =>
  ld H85 (Addr.add a101 7) (fun v102 =>
  dSl v102 (fun p103 r104 r105 =>
  al H85 (Obj.cells #[Value.int IntKind.i64 x1, Value.slice p41 r42 r43] 225) (fun r106 H107 =>
  semW Tryz.prog (Builtin.append_ #[221, 221] 221 #[Value.slice p103 r104 r105, Value.slice (some (Addr.mk r106 0 none)) 1 1]) (pnR R) H107 (fun v110 H111 =>
  dSl v110 (fun p112 r113 r114 =>
  nz x0 (fun a115 =>
  st H111 (Addr.add a115 7) (Value.slice p112 r113 r114) (fun H116 =>
  k83 H116))))))))) (k83 H85)))) (fun k117 =>
  sB b23 (nz x0 (fun a118 =>
  ld H48 (Addr.add a118 7) (fun v119 =>
  dSl v119 (fun p120 r121 r122 =>
  nz x0 (fun a123 =>
  ld H48 (Addr.add a123 6) (fun v124 =>
  dInt IntKind.i64 v124 (fun n125 =>
  (ld H48 (Addr.add a123 6) (fun v126 =>
  dInt IntKind.i64 v126 (fun n127 =>
  (Value.int IntKind.i64 n127) = (Value.int IntKind.i64 n125)))) ∧
  k117 (Value.bool (decide ((↑r121 : Int) ≥ n125))) H48))))))) (k117 (Value.bool false) H48)))))))) (pnR R))))))) (fun k130 =>
  sB b23 (HCalls Tryz.prog 164 #[Value.pointer x0, Value.int IntKind.i64 x1] H5 (Sp.retK (fun v131 H132 =>
  dT 2 v131 (fun v133 v134 =>
  dSl v133 (fun p135 r136 r137 =>
  dInt IntKind.i64 v134 (fun n138 =>
  sB (n138 != 0) (R (Ending.returned (Value.tuple #[Value.int IntKind.i64 0, Value.int IntKind.i64 n138])) H132) (k130 (Value.slice p135 r136 r137) H132))))) (pnR R))) (k130 (Value.slice none 0 0) H5)))) (fun k141 =>
  nz x0 (fun a142 =>
  ld H2 (Addr.add a142 4) (fun v143 =>
  dBl v143 (fun b144 =>
  sB b144 (nz x0 (fun a145 =>
  ld H2 (Addr.add a145 5) (fun v146 =>
  dBl v146 (fun b147 =>
  sB (!b147) (HCalls Tryz.prog 163 #[Value.pointer x0, Value.int IntKind.i64 x1] H2 (Sp.retK (fun v148 H149 =>
  dBl v148 (fun b150 =>
  k141 (Value.bool !b150) H149)) (pnR R))) (k141 (Value.bool false) H2))))) (k141 (Value.bool false) H2)))))))) (pnR R))
theorem F102_eq (x0 : Option Addr) (x1 : Int) (x2 : Int) (x3a : Option Addr) (x3n : Nat) (x3c : Nat) (x4a : Option Addr) (x4n : Nat) (x4c : Nat) (R : Ending → Heap → Prop) (H : Heap) : F102 x0 x1 x2 x3a x3n x3c x4a x4n x4c R H = vc Tryz.prog (codeOf Tryz.f102) (.node none .leaf (.node none .leaf (.node (some ⟨[(12, 4)], [22, 23, 24, 25, 26, 27, 28, 29, 30, 31, 32, 33, 34, 35, 36, 37, 38]⟩) .leaf (.node none .leaf (.node (some ⟨[(13, 38)], [10, 11, 14, 15, 39, 40, 41, 42, 43, 44, 45, 46, 47, 48, 49]⟩) .leaf (.node none .leaf (.node none .leaf (.node (some ⟨[], [65, 66, 67, 68, 69, 70, 71, 72, 73, 74, 75, 76, 77, 78, 79, 80, 81, 82, 83, 84, 85, 86, 87, 88, 89, 90, 91, 92, 93]⟩) (.node (some ⟨[(77, 4)], [65, 66, 67, 68, 69, 70, 71, 72, 73, 74, 75, 76]⟩) .leaf .leaf) .leaf)))))))) (postV Tryz.prog Tryz.f102 R) ⟨#[Value.pointer x0, Value.int IntKind.i64 x1, Value.int IntKind.i64 x2, Value.slice x3a x3n x3c, Value.slice x4a x4n x4c] ++ Array.replicate (Tryz.f102.ntmps - 5) undef, []⟩ H := by kernel_rfl
theorem F102_calls {R : Ending → Heap → Prop} {H : Heap} (x0 : Option Addr) (x1 : Int) (x2 : Int) (x3a : Option Addr) (x3n : Nat) (x3c : Nat) (x4a : Option Addr) (x4n : Nat) (x4c : Nat) (h : F102 x0 x1 x2 x3a x3n x3c x4a x4n x4c R H) : HCalls Tryz.prog 102 #[Value.pointer x0, Value.int IntKind.i64 x1, Value.int IntKind.i64 x2, Value.slice x3a x3n x3c, Value.slice x4a x4n x4c] H R :=
  calls_by (F := F102 x0 x1 x2 x3a x3n x3c x4a x4n x4c R H) (.node none .leaf (.node none .leaf (.node (some ⟨[(12, 4)], [22, 23, 24, 25, 26, 27, 28, 29, 30, 31, 32, 33, 34, 35, 36, 37, 38]⟩) .leaf (.node none .leaf (.node (some ⟨[(13, 38)], [10, 11, 14, 15, 39, 40, 41, 42, 43, 44, 45, 46, 47, 48, 49]⟩) .leaf (.node none .leaf (.node none .leaf (.node (some ⟨[], [65, 66, 67, 68, 69, 70, 71, 72, 73, 74, 75, 76, 77, 78, 79, 80, 81, 82, 83, 84, 85, 86, 87, 88, 89, 90, 91, 92, 93]⟩) (.node (some ⟨[(77, 4)], [65, 66, 67, 68, 69, 70, 71, 72, 73, 74, 75, 76]⟩) .leaf .leaf) .leaf)))))))) Tryz.func102 rfl (F102_eq x0 x1 x2 x3a x3n x3c x4a x4n x4c R H) h
/-- bollard/geom.Inodes -/
def F103 (x0_0 : Value) (x0_1 : Value) (x0_2 : Value) (R : Ending → Heap → Prop) (H : Heap) : Prop :=
  al H (Obj.cells #[x0_0, x0_1, x0_2] 32) (fun r1 H2 =>
  ld H2 (Addr.mk r1 0 none) (fun v3 =>
  ld H2 (Addr.mk r1 1 none) (fun v4 =>
  ld H2 (Addr.mk r1 2 none) (fun v5 =>
  ld H2 (Addr.mk r1 2 none) (fun v6 =>
  dInt IntKind.i64 v6 (fun n7 =>
  HCalls Tryz.prog 114 #[Value.agg #[v3, v4, v5], Value.int IntKind.i64 n7] H2 (Sp.retK (fun v8 H9 =>
  dInt IntKind.i64 v8 (fun n10 =>
  R (Ending.returned (Value.int IntKind.i64 n10)) H9)) (pnR R))))))))
theorem F103_eq (x0_0 : Value) (x0_1 : Value) (x0_2 : Value) (R : Ending → Heap → Prop) (H : Heap) : F103 x0_0 x0_1 x0_2 R H = vc Tryz.prog (codeOf Tryz.f103) .leaf (postV Tryz.prog Tryz.f103 R) ⟨#[Value.agg #[x0_0, x0_1, x0_2]] ++ Array.replicate (Tryz.f103.ntmps - 1) undef, []⟩ H := by kernel_rfl
theorem F103_calls {R : Ending → Heap → Prop} {H : Heap} (x0_0 : Value) (x0_1 : Value) (x0_2 : Value) (h : F103 x0_0 x0_1 x0_2 R H) : HCalls Tryz.prog 103 #[Value.agg #[x0_0, x0_1, x0_2]] H R :=
  calls_by (F := F103 x0_0 x0_1 x0_2 R H) .leaf Tryz.func103 rfl (F103_eq x0_0 x0_1 x0_2 R H) h
/-- bollard/geom.Owner -/
def F104 (x0_0 : Value) (x0_1 : Value) (x0_2 : Value) (x1 : Int) (R : Ending → Heap → Prop) (H : Heap) : Prop :=
  al H (Obj.cells #[x0_0, x0_1, x0_2] 32) (fun r1 H2 =>
  ld H2 (Addr.mk r1 2 none) (fun v3 =>
  dInt IntKind.i64 v3 (fun n4 =>
  ld H2 (Addr.mk r1 0 none) (fun v5 =>
  ld H2 (Addr.mk r1 1 none) (fun v6 =>
  ld H2 (Addr.mk r1 2 none) (fun v7 =>
  HCalls Tryz.prog 103 #[Value.agg #[v5, v6, v7]] H2 (Sp.retK (fun v8 H9 =>
  dInt IntKind.i64 v8 (fun n10 =>
  (ld H9 (Addr.mk r1 2 none) (fun v11 =>
  dInt IntKind.i64 v11 (fun n12 =>
  (Value.int IntKind.i64 n12) = (Value.int IntKind.i64 n4)))) ∧
  HCalls Tryz.prog 137 #[Value.int IntKind.i64 x1, Value.int IntKind.i64 n4, Value.int IntKind.i64 n10] H9 (Sp.retK (fun v13 H14 =>
  dT 3 v13 (fun v15 v16 v17 =>
  dInt IntKind.i64 v15 (fun n18 =>
  dInt IntKind.i64 v16 (fun n19 =>
  dBl v17 (fun b20 =>
  R (Ending.returned (Value.tuple #[Value.int IntKind.i64 n18, Value.int IntKind.i64 n19, Value.bool b20])) H14))))) nopR))) nopR)))))))
theorem F104_eq (x0_0 : Value) (x0_1 : Value) (x0_2 : Value) (x1 : Int) (R : Ending → Heap → Prop) (H : Heap) : F104 x0_0 x0_1 x0_2 x1 R H = vc Tryz.prog (codeOf Tryz.f104) .leaf (postV Tryz.prog Tryz.f104 R) ⟨#[Value.agg #[x0_0, x0_1, x0_2], Value.int IntKind.i64 x1] ++ Array.replicate (Tryz.f104.ntmps - 2) undef, []⟩ H := by kernel_rfl
theorem F104_calls {R : Ending → Heap → Prop} {H : Heap} (x0_0 : Value) (x0_1 : Value) (x0_2 : Value) (x1 : Int) (h : F104 x0_0 x0_1 x0_2 x1 R H) : HCalls Tryz.prog 104 #[Value.agg #[x0_0, x0_1, x0_2], Value.int IntKind.i64 x1] H R :=
  calls_by (F := F104 x0_0 x0_1 x0_2 x1 R H) .leaf Tryz.func104 rfl (F104_eq x0_0 x0_1 x0_2 x1 R H) h
/-- (*bollard/patch.Set).Last -/
def F105 (x0 : Option Addr) (R : Ending → Heap → Prop) (H : Heap) : Prop :=
  HCalls Tryz.prog 127 #[Value.pointer x0] H (Sp.retK (fun v1 H2 =>
  dBl v1 (fun b3 =>
  sB (!b3) (R (Ending.returned (Value.int IntKind.i64 0)) H2) (nz x0 (fun a4 =>
  ld H2 a4 (fun v5 =>
  dInt IntKind.i64 v5 (fun n6 =>
  R (Ending.returned (Value.int IntKind.i64 n6)) H2)))))) (pnR R))
theorem F105_eq (x0 : Option Addr) (R : Ending → Heap → Prop) (H : Heap) : F105 x0 R H = vc Tryz.prog (codeOf Tryz.f105) .leaf (postV Tryz.prog Tryz.f105 R) ⟨#[Value.pointer x0] ++ Array.replicate (Tryz.f105.ntmps - 1) undef, []⟩ H := by kernel_rfl
theorem F105_calls {R : Ending → Heap → Prop} {H : Heap} (x0 : Option Addr) (h : F105 x0 R H) : HCalls Tryz.prog 105 #[Value.pointer x0] H R :=
  calls_by (F := F105 x0 R H) .leaf Tryz.func105 rfl (F105_eq x0 R H) h
/-- (*bollard/patch.Set).Undo -/
def F106 (x0 : Option Addr) (x1 : Int) (R : Ending → Heap → Prop) (H : Heap) : Prop :=
  HCalls Tryz.prog 127 #[Value.pointer x0] H (Sp.retK (fun v1 H2 =>
  dBl v1 (fun b3 =>
  sB (!b3) (R (Ending.returned (Value.int IntKind.i64 2)) H2) (jn (α := VFH 1) (fun v4 H5 =>
  ∀ v6 v7 v8 v9 v10 v11 v12 v13 v14 v15 : Value,
  dBl v4 (fun b16 =>
  sB b16 (R (Ending.returned (Value.int IntKind.i64 1)) H5) (nz x0 (fun a17 =>
  ld H5 (Addr.add a17 1) (fun v18 =>
  dMap v18 (fun p19 =>
  semW Tryz.prog (Instr.range 189 (Value.map p19)) (pnR R) H5 (fun v22 H23 =>
  ∃ I24 : List Value → Heap → Prop,
  ∃ I25 : List Value → Heap → Nat,
  (I24 [] H23) ∧
  ∀ v26 v27 v28 v29 v30 v31 v32 v33 v34 : Value,
  ∀ H35 : Heap,
  (I24 [] H35) →
  semW Tryz.prog (Instr.next v22 false 0) (pnR R) H35 (fun v39 H40 =>
  dNx v39 (nz x0 (fun a41 =>
  ld H40 (Addr.add a41 2) (fun v42 =>
  dMap v42 (fun p43 =>
  semW Tryz.prog (Instr.range 190 (Value.map p43)) (pnR R) H40 (fun v46 H47 =>
  ∃ I48 : List Value → Heap → Prop,
  ∃ I49 : List Value → Heap → Nat,
  (I48 [] H47) ∧
  ∀ v50 v51 v52 v53 v54 v55 v56 v57 v58 v59 v60 v61 v62 : Value,
  ∀ H63 : Heap,
  (I48 [] H63) →
  semW Tryz.prog (Instr.next v46 false 0) (pnR R) H63 (fun v67 H68 =>
  dNx v67 (nz x0 (fun a69 =>
  st H68 a69 (Value.int IntKind.i64 x1) (fun H70 =>
  R (Ending.returned (Value.int IntKind.i64 0)) H70))) (fun v71 v72 =>
  semW Tryz.prog (Instr.entry v46) (pnR R) H68 (fun v75 H76 =>
  dT 2 v75 (fun v77 v78 =>
  dInt IntKind.i64 v77 (fun n79 =>
  sB (decide (n79 > x1)) (nz x0 (fun a80 =>
  ld H76 (Addr.add a80 2) (fun v81 =>
  dMap v81 (fun p82 =>
  semW Tryz.prog (Builtin.delete_ #[190, 3] 0 #[Value.map p82, Value.int IntKind.i64 n79]) (pnR R) H76 (fun v85 H86 =>
  (I48 [] H86) ∧
  (I49 [] H86) < (I49 [] H63)))))) ((I48 [] H76) ∧
  (I49 [] H76) < (I49 [] H63)))))))))))) (fun v87 v88 =>
  semW Tryz.prog (Instr.entry v22) (pnR R) H40 (fun v91 H92 =>
  dT 2 v91 (fun v93 v94 =>
  dInt IntKind.i64 v93 (fun n95 =>
  sB (decide (n95 > x1)) (R (Ending.returned (Value.int IntKind.i64 3)) H92) ((I24 [] H92) ∧
  (I25 [] H92) < (I25 [] H35)))))))))))))) (fun k96 =>
  sB (decide (x1 < 0)) (k96 (Value.bool true) H2) (nz x0 (fun a97 =>
  ld H2 a97 (fun v98 =>
  dInt IntKind.i64 v98 (fun n99 =>
  k96 (Value.bool (decide (x1 > n99))) H2)))))))) (pnR R))
theorem F106_eq (x0 : Option Addr) (x1 : Int) (R : Ending → Heap → Prop) (H : Heap) : F106 x0 x1 R H = vc Tryz.prog (codeOf Tryz.f106) (.node none .leaf (.node none (.node none (.node none .leaf (.node none .leaf (.node (some ⟨[(11, 4)], [12, 13, 14, 15, 16, 17, 18, 19, 20, 21]⟩) .leaf .leaf))) .leaf) (.node none (.node none .leaf (.node none (.node (some ⟨[], [4, 5, 27, 28, 29, 30, 31, 32, 33]⟩) .leaf .leaf) .leaf)) (.node none (.node none .leaf (.node none (.node (some ⟨[], [6, 39, 40, 41, 42, 43, 44, 45, 46, 47, 48, 49, 50]⟩) .leaf .leaf) .leaf)) .leaf)))) (postV Tryz.prog Tryz.f106 R) ⟨#[Value.pointer x0, Value.int IntKind.i64 x1] ++ Array.replicate (Tryz.f106.ntmps - 2) undef, []⟩ H := by kernel_rfl
theorem F106_calls {R : Ending → Heap → Prop} {H : Heap} (x0 : Option Addr) (x1 : Int) (h : F106 x0 x1 R H) : HCalls Tryz.prog 106 #[Value.pointer x0, Value.int IntKind.i64 x1] H R :=
  calls_by (F := F106 x0 x1 R H) (.node none .leaf (.node none (.node none (.node none .leaf (.node none .leaf (.node (some ⟨[(11, 4)], [12, 13, 14, 15, 16, 17, 18, 19, 20, 21]⟩) .leaf .leaf))) .leaf) (.node none (.node none .leaf (.node none (.node (some ⟨[], [4, 5, 27, 28, 29, 30, 31, 32, 33]⟩) .leaf .leaf) .leaf)) (.node none (.node none .leaf (.node none (.node (some ⟨[], [6, 39, 40, 41, 42, 43, 44, 45, 46, 47, 48, 49, 50]⟩) .leaf .leaf) .leaf)) .leaf)))) Tryz.func106 rfl (F106_eq x0 x1 R H) h
/-- slices.Clone[[]byte,byte] -/
def F107 (x0a : Option Addr) (x0n : Nat) (x0c : Nat) (R : Ending → Heap → Prop) (H : Heap) : Prop :=
  sB (Option.isNone x0a) (R (Ending.returned (Value.slice none 0 0)) H) (al H (Obj.cells #[] 5) (fun r1 H2 =>
  semW Tryz.prog (Builtin.append_ #[38, 38] 38 #[Value.slice (some (Addr.mk r1 0 none)) 0 0, Value.slice x0a x0n x0c]) (pnR R) H2 (fun v5 H6 =>
  dSl v5 (fun p7 r8 r9 =>
  R (Ending.returned (Value.slice p7 r8 r9)) H6))))
theorem F107_eq (x0a : Option Addr) (x0n : Nat) (x0c : Nat) (R : Ending → Heap → Prop) (H : Heap) : F107 x0a x0n x0c R H = vc Tryz.prog (codeOf Tryz.f107) .leaf (postV Tryz.prog Tryz.f107 R) ⟨#[Value.slice x0a x0n x0c] ++ Array.replicate (Tryz.f107.ntmps - 1) undef, []⟩ H := by kernel_rfl
theorem F107_calls {R : Ending → Heap → Prop} {H : Heap} (x0a : Option Addr) (x0n : Nat) (x0c : Nat) (h : F107 x0a x0n x0c R H) : HCalls Tryz.prog 107 #[Value.slice x0a x0n x0c] H R :=
  calls_by (F := F107 x0a x0n x0c R H) .leaf Tryz.func107 rfl (F107_eq x0a x0n x0c R H) h
/-- (*bollard/volume.Volume).drain -/
def F108 (x0 : Option Addr) (R : Ending → Heap → Prop) (H : Heap) : Prop :=
  nz x0 (fun a1 =>
  ld H (Addr.add a1 2) (fun v2 =>
  dPtr v2 (fun p3 =>
  HCalls Tryz.prog 36 #[Value.pointer p3] H (Sp.retK (fun v4 H5 =>
  dSl v4 (fun p6 r7 r8 =>
  ∃ I9 : List Value → Heap → Prop,
  ∃ I10 : List Value → Heap → Nat,
  (I9 ([Value.bool true, Value.int IntKind.i64 (↑r7 : Int)]) H5) ∧
  ∀ b11 : Bool,
  ∀ n12 : Int,
  ∀ v13 v14 v15 v16 v17 v18 v19 v20 v21 v22 : Value,
  ∀ H23 : Heap,
  (I9 ([Value.bool b11, Value.int IntKind.i64 n12]) H23) →
  sB (decide (n12 > 0)) (jn (α := VFH 1) (fun v25 H26 =>
  ∀ v27 v28 v29 v30 v31 v32 : Value,
  dBl v25 (fun b33 =>
  wr IntKind.i64 (n12 - 1) (fun n34 =>
  (I9 ([Value.bool b33, Value.int IntKind.i64 n34]) H26) ∧
  (I10 [Value.bool b33, Value.int IntKind.i64 n34] H26) < (I10 [Value.bool b11, Value.int IntKind.i64 n12] H23)))) (fun k35 =>
  HCalls Tryz.prog 85 #[Value.pointer x0, Value.int IntKind.i64 0, Value.bool true] H23 (Sp.retK (fun v36 H37 =>
  dInt IntKind.i64 v36 (fun n38 =>
  sB (n38 == 0) (k35 (Value.bool b11) H37) (k35 (Value.bool false) H37))) (pnR R)))) (R (Ending.returned (Value.bool b11)) H23))) (pnR R)))))
theorem F108_eq (x0 : Option Addr) (R : Ending → Heap → Prop) (H : Heap) : F108 x0 R H = vc Tryz.prog (codeOf Tryz.f108) (.node none .leaf (.node none .leaf (.node none (.node none .leaf (.node none (.node (some ⟨[(3, 4), (4, 3)], [11, 12, 13, 14, 15, 16, 17, 18, 19, 20]⟩) (.node none .leaf (.node (some ⟨[(3, 4)], [15, 16, 17, 18, 19, 20]⟩) .leaf .leaf)) .leaf) .leaf)) .leaf))) (postV Tryz.prog Tryz.f108 R) ⟨#[Value.pointer x0] ++ Array.replicate (Tryz.f108.ntmps - 1) undef, []⟩ H := by kernel_rfl
theorem F108_calls {R : Ending → Heap → Prop} {H : Heap} (x0 : Option Addr) (h : F108 x0 R H) : HCalls Tryz.prog 108 #[Value.pointer x0] H R :=
  calls_by (F := F108 x0 R H) (.node none .leaf (.node none .leaf (.node none (.node none .leaf (.node none (.node (some ⟨[(3, 4), (4, 3)], [11, 12, 13, 14, 15, 16, 17, 18, 19, 20]⟩) (.node none .leaf (.node (some ⟨[(3, 4)], [15, 16, 17, 18, 19, 20]⟩) .leaf .leaf)) .leaf) .leaf)) .leaf))) Tryz.func108 rfl (F108_eq x0 R H) h
/-- (*bollard/patch.Set).Closure -/
def F109 (x0 : Option Addr) (x1a : Option Addr) (x1n : Nat) (x1c : Nat) (R : Ending → Heap → Prop) (H : Heap) : Prop :=
  HCalls Tryz.prog 127 #[Value.pointer x0] H (Sp.retK (fun v1 H2 =>
  dBl v1 (fun b3 =>
  sB (!b3) (R (Ending.returned (Value.slice none 0 0)) H2) (al H2 (Obj.map #[] 0) (fun r4 H5 =>
  HCalls Tryz.prog 133 #[Value.pointer x0, Value.slice x1a x1n x1c] H5 (Sp.retK (fun v6 H7 =>
  dSl v6 (fun p8 r9 r10 =>
  ∃ I11 : List Value → Heap → Prop,
  ∃ I12 : List Value → Heap → Nat,
  (I11 ([Value.slice p8 r9 r10]) H7) ∧
  ∀ p13 : Option Addr,
  ∀ r14 : Nat,
  ∀ r15 : Nat,
  ∀ v16 v17 v18 v19 v20 v21 v22 v23 v24 v25 v26 v27 v28 v29 v30 v31 v32 v33 v34 v35 v36 v37 v38 v39 v40 v41 v42 v43 v44 v45 v46 v47 v48 v49 v50 v51 v52 v53 : Value,
  ∀ H54 : Heap,
  (I11 ([Value.slice p13 r14 r15]) H54) →
  sB (decide ((↑r14 : Int) > 0)) (wr IntKind.i64 ((↑r14 : Int) - 1) (fun n56 =>
  nz p13 (fun a57 =>
  ask ((0 : Int) ≤ n56 ∧ n56 < (↑r14 : Int)) (ld H54 (Addr.add a57 (Int.toNat n56 * 1)) (fun v58 =>
  dInt IntKind.i64 v58 (fun n59 =>
  wr IntKind.i64 ((↑r14 : Int) - 1) (fun n60 =>
  ask ((0 : Int) ≤ (0 : Int) ∧ (0 : Int) ≤ n60 ∧ n60 ≤ (↑r15 : Int) ∧ (↑r15 : Int) ≤ (↑r15 : Int)) (semW Tryz.prog (Instr.lookup 189 (Value.map (some r4)) (Value.int IntKind.i64 n59) true) (pnR R) H54 (fun v63 H64 =>
  dT 2 v63 (fun v65 v66 =>
  dA 0 v65 (dBl v66 (fun b67 =>
  al H64 (Obj.cells #[] 23) (fun r68 H69 =>
  sB b67 ((I11 ([Value.slice (slO p13 1 0 (↑r15 : Int)) (Int.toNat n60 - Int.toNat 0) (Int.toNat (↑r15 : Int) - Int.toNat 0)]) H69) ∧
  (I12 [Value.slice (slO p13 1 0 (↑r15 : Int)) (Int.toNat n60 - Int.toNat 0) (Int.toNat (↑r15 : Int) - Int.toNat 0)] H69) < (I12 [Value.slice p13 r14 r15] H54)) (semW Tryz.prog (Instr.mapUpdate 189 (Value.map (some r4)) (Value.int IntKind.i64 n59) (Value.agg #[])) (pnR R) H69 (fun x72 H73 =>
  nz x0 (fun a74 =>
  ld H73 (Addr.add a74 2) (fun v75 =>
  dMap v75 (fun p76 =>
  semW Tryz.prog (Instr.lookup 190 (Value.map p76) (Value.int IntKind.i64 n59) false) (pnR R) H73 (fun v79 H80 =>
  dA 5 v79 (fun v81 v82 v83 v84 v85 =>
  dSl v85 (fun p86 r87 r88 =>
  HCalls Tryz.prog 133 #[Value.pointer x0, Value.slice p86 r87 r88] H80 (Sp.retK (fun v89 H90 =>
  dSl v89 (fun p91 r92 r93 =>
  semW Tryz.prog (Builtin.append_ #[73, 73] 73 #[Value.slice (slO p13 1 0 (↑r15 : Int)) (Int.toNat n60 - Int.toNat 0) (Int.toNat (↑r15 : Int) - Int.toNat 0), Value.slice p91 r92 r93]) (pnR R) H90 (fun v96 H97 =>
  dSl v96 (fun p98 r99 r100 =>
  (I11 ([Value.slice p98 r99 r100]) H97) ∧
  (I12 [Value.slice p98 r99 r100] H97) < (I12 [Value.slice p13 r14 r15] H54))))) (pnR R))))))))))))))))))))))) (HCalls Tryz.prog 167 #[Value.map (some r4)] H54 (Sp.retK (fun v103 H104 =>
  HCalls Tryz.prog 166 #[v103] H104 (Sp.retK (fun v105 H106 =>
  dSl v105 (fun p107 r108 r109 =>
  R (Ending.returned (Value.slice p107 r108 r109)) H106)) (pnR R))) (pnR R))))) (pnR R)))))) (pnR R))
theorem F109_eq (x0 : Option Addr) (x1a : Option Addr) (x1n : Nat) (x1c : Nat) (R : Ending → Heap → Prop) (H : Heap) : F109 x0 x1a x1n x1c R H = vc Tryz.prog (codeOf Tryz.f109) (.node none .leaf (.node none .leaf (.node none .leaf (.node none .leaf (.node none (.node none (.node (some ⟨[(6, 73)], [7, 8, 9, 17, 18, 19, 20, 21, 22, 23, 24, 25, 26, 27, 28, 29, 30, 31, 32, 33, 34, 35, 36, 37, 38, 39, 40, 41, 42, 43, 44, 45, 46, 47, 48, 49, 50, 51]⟩) .leaf .leaf) .leaf) .leaf))))) (postV Tryz.prog Tryz.f109 R) ⟨#[Value.pointer x0, Value.slice x1a x1n x1c] ++ Array.replicate (Tryz.f109.ntmps - 2) undef, []⟩ H := by kernel_rfl
theorem F109_calls {R : Ending → Heap → Prop} {H : Heap} (x0 : Option Addr) (x1a : Option Addr) (x1n : Nat) (x1c : Nat) (h : F109 x0 x1a x1n x1c R H) : HCalls Tryz.prog 109 #[Value.pointer x0, Value.slice x1a x1n x1c] H R :=
  calls_by (F := F109 x0 x1a x1n x1c R H) (.node none .leaf (.node none .leaf (.node none .leaf (.node none .leaf (.node none (.node none (.node (some ⟨[(6, 73)], [7, 8, 9, 17, 18, 19, 20, 21, 22, 23, 24, 25, 26, 27, 28, 29, 30, 31, 32, 33, 34, 35, 36, 37, 38, 39, 40, 41, 42, 43, 44, 45, 46, 47, 48, 49, 50, 51]⟩) .leaf .leaf) .leaf) .leaf))))) Tryz.func109 rfl (F109_eq x0 x1a x1n x1c R H) h
/-- (*bollard/volume.Volume).round -/
def F110 (x0 : Option Addr) (x1a : Option Addr) (x1n : Nat) (x1c : Nat) (R : Ending → Heap → Prop) (H : Heap) : Prop :=
  al H (Obj.cells #[Value.slice x1a x1n x1c] 73) (fun r1 H2 =>
  HCalls Tryz.prog 108 #[Value.pointer x0] H2 (Sp.retK (fun v3 H4 =>
  dBl v3 (fun b5 =>
  HCalls Tryz.prog 83 #[Value.pointer x0] H4 (Sp.retK (fun v6 H7 =>
  dSl v6 (fun p8 r9 r10 =>
  ∃ I11 : List Value → Heap → Prop,
  ∃ I12 : List Value → Heap → Nat,
  (I11 ([Value.bool b5, Value.int IntKind.i64 0]) H7) ∧
  ∀ b13 : Bool,
  ∀ n14 : Int,
  ∀ v15 v16 v17 v18 v19 v20 v21 v22 v23 v24 v25 v26 v27 v28 v29 v30 v31 v32 v33 v34 v35 v36 v37 v38 v39 v40 v41 v42 v43 v44 v45 : Value,
  ∀ H46 : Heap,
  (I11 ([Value.bool b13, Value.int IntKind.i64 n14]) H46) →
  sB (decide (n14 < (↑r9 : Int))) (jn (α := VFH 1) (fun v48 H49 =>
  ∀ v50 v51 v52 v53 v54 v55 v56 v57 v58 v59 v60 v61 v62 v63 v64 v65 v66 v67 v68 v69 v70 v71 v72 v73 v74 v75 v76 v77 v78 : Value,
  dBl v48 (fun b79 =>
  wr IntKind.i64 (n14 + 1) (fun n80 =>
  (I11 ([Value.bool b79, Value.int IntKind.i64 n80]) H49) ∧
  (I12 [Value.bool b79, Value.int IntKind.i64 n80] H49) < (I12 [Value.bool b13, Value.int IntKind.i64 n14] H46)))) (fun k81 =>
  nz p8 (fun a82 =>
  ask ((0 : Int) ≤ n14 ∧ n14 < (↑r9 : Int)) (ld H46 (Addr.add a82 (Int.toNat n14 * 1)) (fun v83 =>
  dInt IntKind.i64 v83 (fun n84 =>
  nz x0 (fun a85 =>
  ld H46 (Addr.add a85 4) (fun v86 =>
  dPtr v86 (fun p87 =>
  HCalls Tryz.prog 112 #[Value.pointer p87, Value.int IntKind.i64 n84] H46 (Sp.retK (fun v88 H89 =>
  dSl v88 (fun p90 r91 r92 =>
  HCalls Tryz.prog 88 #[Value.slice p90 r91 r92, Value.func (Fn.func 168) #[] #[Value.pointer (some (Addr.mk r1 0 none))]] H89 (Sp.retK (fun v93 H94 =>
  dBl v93 (fun b95 =>
  jn (α := VFH 1) (fun v96 H97 =>
  ∀ v98 v99 v100 v101 v102 v103 v104 v105 v106 : Value,
  dBl v96 (fun b107 =>
  sB b107 (HCalls Tryz.prog 84 #[Value.pointer x0, Value.int IntKind.i64 n84] H97 (Sp.retK (fun v108 H109 =>
  dInt IntKind.i64 v108 (fun n110 =>
  sB (n110 == 0) (k81 (Value.bool b13) H109) (k81 (Value.bool false) H109))) (pnR R))) (k81 (Value.bool b13) H97))) (fun k113 =>
  sB b95 (nz x0 (fun a114 =>
  ld H94 (Addr.add a114 2) (fun v115 =>
  dPtr v115 (fun p116 =>
  HCalls Tryz.prog 36 #[Value.pointer p116] H94 (Sp.retK (fun v117 H118 =>
  dSl v117 (fun p119 r120 r121 =>
  k113 (Value.bool (decide ((↑r120 : Int) < 64))) H118)) (pnR R)))))) (k113 (Value.bool false) H94)))) (pnR R)))) (pnR R))))))))))) (HCalls Tryz.prog 108 #[Value.pointer x0] H46 (Sp.retK (fun v128 H129 =>
  dBl v128 (fun b130 =>
  sB b130 (R (Ending.returned (Value.bool b13)) H129) (R (Ending.returned (Value.bool false)) H129))) (pnR R))))) (pnR R)))) (pnR R)))
theorem F110_eq (x0 : Option Addr) (x1a : Option Addr) (x1n : Nat) (x1c : Nat) (R : Ending → Heap → Prop) (H : Heap) : F110 x0 x1a x1n x1c R H = vc Tryz.prog (codeOf Tryz.f110) (.node none .leaf (.node none .leaf (.node none (.node none .leaf (.node none (.node (some ⟨[(5, 4), (14, 3)], [7, 8, 15, 16, 17, 18, 19, 20, 21, 22, 23, 24, 25, 26, 27, 28, 29, 30, 31, 32, 33, 34, 35, 36, 37, 38, 39, 40, 41, 42, 43]⟩) (.node none .leaf (.node none .leaf (.node (some ⟨[(5, 4)], [7, 8, 16, 17, 18, 19, 20, 21, 22, 23, 24, 25, 26, 27, 28, 29, 30, 31, 32, 33, 34, 35, 36, 37, 38, 39, 40, 41, 42]⟩) (.node none (.node none .leaf (.node none .leaf (.node (some ⟨[(35, 4)], [26, 27, 28, 29, 30, 31, 32, 33, 34]⟩) .leaf .leaf))) .leaf) .leaf))) .leaf) .leaf)) .leaf))) (postV Tryz.prog Tryz.f110 R) ⟨#[Value.pointer x0, Value.slice x1a x1n x1c] ++ Array.replicate (Tryz.f110.ntmps - 2) undef, []⟩ H := by kernel_rfl
theorem F110_calls {R : Ending → Heap → Prop} {H : Heap} (x0 : Option Addr) (x1a : Option Addr) (x1n : Nat) (x1c : Nat) (h : F110 x0 x1a x1n x1c R H) : HCalls Tryz.prog 110 #[Value.pointer x0, Value.slice x1a x1n x1c] H R :=
  calls_by (F := F110 x0 x1a x1n x1c R H) (.node none .leaf (.node none .leaf (.node none (.node none .leaf (.node none (.node (some ⟨[(5, 4), (14, 3)], [7, 8, 15, 16, 17, 18, 19, 20, 21, 22, 23, 24, 25, 26, 27, 28, 29, 30, 31, 32, 33, 34, 35, 36, 37, 38, 39, 40, 41, 42, 43]⟩) (.node none .leaf (.node none .leaf (.node (some ⟨[(5, 4)], [7, 8, 16, 17, 18, 19, 20, 21, 22, 23, 24, 25, 26, 27, 28, 29, 30, 31, 32, 33, 34, 35, 36, 37, 38, 39, 40, 41, 42]⟩) (.node none (.node none .leaf (.node none .leaf (.node (some ⟨[(35, 4)], [26, 27, 28, 29, 30, 31, 32, 33, 34]⟩) .leaf .leaf))) .leaf) .leaf))) .leaf) .leaf)) .leaf))) Tryz.func110 rfl (F110_eq x0 x1a x1n x1c R H) h
/-- (*bollard/patch.Set).IsDone -/
def F111 (x0 : Option Addr) (x1 : Int) (R : Ending → Heap → Prop) (H : Heap) : Prop :=
  HCalls Tryz.prog 127 #[Value.pointer x0] H (Sp.retK (fun v1 H2 =>
  dBl v1 (fun b3 =>
  sB (!b3) (R (Ending.returned (Value.bool false)) H2) (nz x0 (fun a4 =>
  ld H2 (Addr.add a4 1) (fun v5 =>
  dMap v5 (fun p6 =>
  semW Tryz.prog (Instr.lookup 189 (Value.map p6) (Value.int IntKind.i64 x1) true) (pnR R) H2 (fun v9 H10 =>
  dT 2 v9 (fun v11 v12 =>
  dA 0 v11 (dBl v12 (fun b13 =>
  al H10 (Obj.cells #[] 23) (fun r14 H15 =>
  R (Ending.returned (Value.bool b13)) H15))))))))))) (pnR R))
theorem F111_eq (x0 : Option Addr) (x1 : Int) (R : Ending → Heap → Prop) (H : Heap) : F111 x0 x1 R H = vc Tryz.prog (codeOf Tryz.f111) .leaf (postV Tryz.prog Tryz.f111 R) ⟨#[Value.pointer x0, Value.int IntKind.i64 x1] ++ Array.replicate (Tryz.f111.ntmps - 2) undef, []⟩ H := by kernel_rfl
theorem F111_calls {R : Ending → Heap → Prop} {H : Heap} (x0 : Option Addr) (x1 : Int) (h : F111 x0 x1 R H) : HCalls Tryz.prog 111 #[Value.pointer x0, Value.int IntKind.i64 x1] H R :=
  calls_by (F := F111 x0 x1 R H) .leaf Tryz.func111 rfl (F111_eq x0 x1 R H) h
/-- (*bollard/patch.Set).Of -/
def F112 (x0 : Option Addr) (x1 : Int) (R : Ending → Heap → Prop) (H : Heap) : Prop :=
  al H (Obj.cells #[Value.pointer x0] 51) (fun r1 H2 =>
  al H2 (Obj.cells #[Value.int IntKind.i64 x1] 3) (fun r3 H4 =>
  ld H4 (Addr.mk r1 0 none) (fun v5 =>
  dPtr v5 (fun p6 =>
  HCalls Tryz.prog 127 #[Value.pointer p6] H4 (Sp.retK (fun v7 H8 =>
  dBl v7 (fun b9 =>
  sB (!b9) (R (Ending.returned (Value.slice none 0 0)) H8) (ld H8 (Addr.mk r1 0 none) (fun v10 =>
  dPtr v10 (fun p11 =>
  HCalls Tryz.prog 170 #[Value.pointer p11] H8 (Sp.retK (fun v12 H13 =>
  dSl v12 (fun p14 r15 r16 =>
  HCalls Tryz.prog 140 #[Value.slice p14 r15 r16, Value.func (Fn.func 171) #[] #[Value.pointer (some (Addr.mk r1 0 none)), Value.pointer (some (Addr.mk r3 0 none))]] H13 (Sp.retK (fun v17 H18 =>
  dSl v17 (fun p19 r20 r21 =>
  R (Ending.returned (Value.slice p19 r20 r21)) H18)) (pnR R)))) (pnR R))))))) (pnR R))))))
theorem F112_eq (x0 : Option Addr) (x1 : Int) (R : Ending → Heap → Prop) (H : Heap) : F112 x0 x1 R H = vc Tryz.prog (codeOf Tryz.f112) .leaf (postV Tryz.prog Tryz.f112 R) ⟨#[Value.pointer x0, Value.int IntKind.i64 x1] ++ Array.replicate (Tryz.f112.ntmps - 2) undef, []⟩ H := by kernel_rfl
theorem F112_calls {R : Ending → Heap → Prop} {H : Heap} (x0 : Option Addr) (x1 : Int) (h : F112 x0 x1 R H) : HCalls Tryz.prog 112 #[Value.pointer x0, Value.int IntKind.i64 x1] H R :=
  calls_by (F := F112 x0 x1 R H) .leaf Tryz.func112 rfl (F112_eq x0 x1 R H) h
/-- bollard/geom.all -/
def F114 (x0_0 : Value) (x0_1 : Value) (x0_2 : Value) (x1 : Int) (R : Ending → Heap → Prop) (H : Heap) : Prop :=
  al H (Obj.cells #[x0_0, x0_1, x0_2] 32) (fun r1 H2 =>
  ld H2 (Addr.mk r1 0 none) (fun v3 =>
  ld H2 (Addr.mk r1 1 none) (fun v4 =>
  ld H2 (Addr.mk r1 2 none) (fun v5 =>
  HCalls Tryz.prog 65 #[Value.agg #[v3, v4, v5]] H2 (Sp.retK (fun v6 H7 =>
  dInt IntKind.i64 v6 (fun n8 =>
  sB (n8 != 0) (R (Ending.returned (Value.int IntKind.i64 0)) H7) (ld H7 (Addr.mk r1 0 none) (fun v9 =>
  dInt IntKind.i64 v9 (fun n10 =>
  wr IntKind.i64 (n10 * x1) (fun n11 =>
  R (Ending.returned (Value.int IntKind.i64 n11)) H7)))))) (pnR R))))))
theorem F114_eq (x0_0 : Value) (x0_1 : Value) (x0_2 : Value) (x1 : Int) (R : Ending → Heap → Prop) (H : Heap) : F114 x0_0 x0_1 x0_2 x1 R H = vc Tryz.prog (codeOf Tryz.f114) .leaf (postV Tryz.prog Tryz.f114 R) ⟨#[Value.agg #[x0_0, x0_1, x0_2], Value.int IntKind.i64 x1] ++ Array.replicate (Tryz.f114.ntmps - 2) undef, []⟩ H := by kernel_rfl
theorem F114_calls {R : Ending → Heap → Prop} {H : Heap} (x0_0 : Value) (x0_1 : Value) (x0_2 : Value) (x1 : Int) (h : F114 x0_0 x0_1 x0_2 x1 R H) : HCalls Tryz.prog 114 #[Value.agg #[x0_0, x0_1, x0_2], Value.int IntKind.i64 x1] H R :=
  calls_by (F := F114 x0_0 x0_1 x0_2 x1 R H) .leaf Tryz.func114 rfl (F114_eq x0_0 x0_1 x0_2 x1 R H) h
/-- bollard/geom.between -/
def F115 (x0 : Int) (x1 : Int) (x2 : Int) (R : Ending → Heap → Prop) (H : Heap) : Prop :=
  sB (decide (x0 ≥ x1)) (R (Ending.returned (Value.bool (decide (x0 ≤ x2)))) H) (R (Ending.returned (Value.bool false)) H)
theorem F115_eq (x0 : Int) (x1 : Int) (x2 : Int) (R : Ending → Heap → Prop) (H : Heap) : F115 x0 x1 x2 R H = vc Tryz.prog (codeOf Tryz.f115) .leaf (postV Tryz.prog Tryz.f115 R) ⟨#[Value.int IntKind.i64 x0, Value.int IntKind.i64 x1, Value.int IntKind.i64 x2] ++ Array.replicate (Tryz.f115.ntmps - 3) undef, []⟩ H := by kernel_rfl
theorem F115_calls {R : Ending → Heap → Prop} {H : Heap} (x0 : Int) (x1 : Int) (x2 : Int) (h : F115 x0 x1 x2 R H) : HCalls Tryz.prog 115 #[Value.int IntKind.i64 x0, Value.int IntKind.i64 x1, Value.int IntKind.i64 x2] H R :=
  calls_by (F := F115 x0 x1 x2 R H) .leaf Tryz.func115 rfl (F115_eq x0 x1 x2 R H) h
/-- bollard/geom.front -/
def F116 (x0_0 : Value) (x0_1 : Value) (x0_2 : Value) (R : Ending → Heap → Prop) (H : Heap) : Prop :=
  al H (Obj.cells #[x0_0, x0_1, x0_2] 32) (fun r1 H2 =>
  ld H2 (Addr.mk r1 2 none) (fun v3 =>
  dInt IntKind.i64 v3 (fun n4 =>
  ask ((4 : Int) ≠ (0 : Int)) (wr IntKind.i64 (Int.tdiv n4 4) (fun n5 =>
  wr IntKind.i64 (2 + n5) (fun n6 =>
  R (Ending.returned (Value.int IntKind.i64 n6)) H2))))))
theorem F116_eq (x0_0 : Value) (x0_1 : Value) (x0_2 : Value) (R : Ending → Heap → Prop) (H : Heap) : F116 x0_0 x0_1 x0_2 R H = vc Tryz.prog (codeOf Tryz.f116) .leaf (postV Tryz.prog Tryz.f116 R) ⟨#[Value.agg #[x0_0, x0_1, x0_2]] ++ Array.replicate (Tryz.f116.ntmps - 1) undef, []⟩ H := by kernel_rfl
theorem F116_calls {R : Ending → Heap → Prop} {H : Heap} (x0_0 : Value) (x0_1 : Value) (x0_2 : Value) (h : F116 x0_0 x0_1 x0_2 R H) : HCalls Tryz.prog 116 #[Value.agg #[x0_0, x0_1, x0_2]] H R :=
  calls_by (F := F116 x0_0 x0_1 x0_2 R H) .leaf Tryz.func116 rfl (F116_eq x0_0 x0_1 x0_2 R H) h
/-- bollard/bollardref04.Can -/
def F117 (x0_0 : Value) (x0_1 : Value) (x0_2 : Value) (R : Ending → Heap → Prop) (H : Heap) : Prop :=
  al H (Obj.cells #[x0_0, x0_1, x0_2] 32) (fun r1 H2 =>
  jn (α := VFH 1) (fun v3 H4 =>
  ∀ v5 v6 v7 v8 v9 v10 v11 v12 v13 v14 v15 v16 v17 v18 v19 v20 v21 v22 v23 v24 v25 v26 v27 v28 v29 v30 v31 v32 v33 v34 v35 v36 v37 v38 v39 v40 v41 v42 v43 v44 v45 v46 : Value,
  dBl v3 (fun b47 =>
  sB b47 (R (Ending.returned (Value.int IntKind.i64 170)) H4) (R (Ending.returned (Value.int IntKind.i64 0)) H4))) (fun k48 =>
  ld H2 (Addr.mk r1 0 none) (fun v49 =>
  dInt IntKind.i64 v49 (fun n50 =>
  sB (decide (n50 < 1)) (k48 (Value.bool true) H2) (ld H2 (Addr.mk r1 0 none) (fun v51 =>
  dInt IntKind.i64 v51 (fun n52 =>
  sB (decide (n52 > 8)) (k48 (Value.bool true) H2) (ld H2 (Addr.mk r1 1 none) (fun v53 =>
  dInt IntKind.i64 v53 (fun n54 =>
  sB (decide (n54 < 8)) (k48 (Value.bool true) H2) (ld H2 (Addr.mk r1 1 none) (fun v55 =>
  dInt IntKind.i64 v55 (fun n56 =>
  sB (decide (n56 > 256)) (k48 (Value.bool true) H2) (ld H2 (Addr.mk r1 2 none) (fun v57 =>
  dInt IntKind.i64 v57 (fun n58 =>
  sB (decide (n58 < 4)) (k48 (Value.bool true) H2) (ld H2 (Addr.mk r1 2 none) (fun v59 =>
  dInt IntKind.i64 v59 (fun n60 =>
  sB (decide (n60 > 64)) (k48 (Value.bool true) H2) (ld H2 (Addr.mk r1 2 none) (fun v61 =>
  dInt IntKind.i64 v61 (fun n62 =>
  ask ((4 : Int) ≠ (0 : Int)) (nm (Int.tmod n62 4) (fun n63 =>
  sB (n63 != 0) (k48 (Value.bool true) H2) (ld H2 (Addr.mk r1 1 none) (fun v64 =>
  dInt IntKind.i64 v64 (fun n65 =>
  ld H2 (Addr.mk r1 2 none) (fun v66 =>
  dInt IntKind.i64 v66 (fun n67 =>
  ask ((4 : Int) ≠ (0 : Int)) (wr IntKind.i64 (Int.tdiv n67 4) (fun n68 =>
  wr IntKind.i64 (3 + n68) (fun n69 =>
  k48 (Value.bool (decide (n65 < n69))) H2))))))))))))))))))))))))))))))))
theorem F117_eq (x0_0 : Value) (x0_1 : Value) (x0_2 : Value) (R : Ending → Heap → Prop) (H : Heap) : F117 x0_0 x0_1 x0_2 R H = vc Tryz.prog (codeOf Tryz.f117) (.node none .leaf (.node none (.node (some ⟨[(45, 4)], [3, 4, 5, 6, 7, 8, 9, 10, 11, 12, 13, 14, 15, 16, 17, 18, 19, 20, 21, 22, 23, 24, 25, 26, 27, 28, 29, 30, 31, 32, 33, 34, 35, 36, 37, 38, 39, 40, 41, 42, 43, 44]⟩) .leaf .leaf) .leaf)) (postV Tryz.prog Tryz.f117 R) ⟨#[Value.agg #[x0_0, x0_1, x0_2]] ++ Array.replicate (Tryz.f117.ntmps - 1) undef, []⟩ H := by kernel_rfl
theorem F117_calls {R : Ending → Heap → Prop} {H : Heap} (x0_0 : Value) (x0_1 : Value) (x0_2 : Value) (h : F117 x0_0 x0_1 x0_2 R H) : HCalls Tryz.prog 117 #[Value.agg #[x0_0, x0_1, x0_2]] H R :=
  calls_by (F := F117 x0_0 x0_1 x0_2 R H) (.node none .leaf (.node none (.node (some ⟨[(45, 4)], [3, 4, 5, 6, 7, 8, 9, 10, 11, 12, 13, 14, 15, 16, 17, 18, 19, 20, 21, 22, 23, 24, 25, 26, 27, 28, 29, 30, 31, 32, 33, 34, 35, 36, 37, 38, 39, 40, 41, 42, 43, 44]⟩) .leaf .leaf) .leaf)) Tryz.func117 rfl (F117_eq x0_0 x0_1 x0_2 R H) h
/-- bollard/bollardplain.Image -/
def F121 (x0a : Option Addr) (x0n : Nat) (x0c : Nat) (R : Ending → Heap → Prop) (H : Heap) : Prop :=
  ∃ I1 : List Value → Heap → Prop,
  ∃ I2 : List Value → Heap → Nat,
  (I1 ([Value.slice none 0 0, Value.int IntKind.i64 0]) H) ∧
  ∀ p3 : Option Addr,
  ∀ r4 : Nat,
  ∀ r5 : Nat,
  ∀ n6 : Int,
  ∀ v7 v8 v9 v10 v11 v12 v13 v14 v15 v16 : Value,
  ∀ H17 : Heap,
  (I1 ([Value.slice p3 r4 r5, Value.int IntKind.i64 n6]) H17) →
  sB (decide (n6 < (↑x0n : Int))) (nz x0a (fun a19 =>
  ask ((0 : Int) ≤ n6 ∧ n6 < (↑x0n : Int)) (ld H17 (Addr.add a19 (Int.toNat n6 * 1)) (fun v20 =>
  dSl v20 (fun p21 r22 r23 =>
  HCalls Tryz.prog 48 #[Value.slice p21 r22 r23] H17 (Sp.retK (fun v24 H25 =>
  dSl v24 (fun p26 r27 r28 =>
  al H25 (Obj.cells #[Value.slice p26 r27 r28] 38) (fun r29 H30 =>
  semW Tryz.prog (Builtin.append_ #[42, 42] 42 #[Value.slice p3 r4 r5, Value.slice (some (Addr.mk r29 0 none)) 1 1]) (pnR R) H30 (fun v33 H34 =>
  dSl v33 (fun p35 r36 r37 =>
  wr IntKind.i64 (n6 + 1) (fun n38 =>
  (I1 ([Value.slice p35 r36 r37, Value.int IntKind.i64 n38]) H34) ∧
  (I2 [Value.slice p35 r36 r37, Value.int IntKind.i64 n38] H34) < (I2 [Value.slice p3 r4 r5, Value.int IntKind.i64 n6] H17))))))) (pnR R))))))) (R (Ending.returned (Value.slice p3 r4 r5)) H17)
theorem F121_eq (x0a : Option Addr) (x0n : Nat) (x0c : Nat) (R : Ending → Heap → Prop) (H : Heap) : F121 x0a x0n x0c R H = vc Tryz.prog (codeOf Tryz.f121) (.node none .leaf (.node none .leaf (.node none (.node none .leaf (.node none (.node (some ⟨[(3, 42), (8, 3)], [5, 9, 10, 11, 12, 13, 14, 15, 16, 17]⟩) .leaf .leaf) .leaf)) .leaf))) (postV Tryz.prog Tryz.f121 R) ⟨#[Value.slice x0a x0n x0c] ++ Array.replicate (Tryz.f121.ntmps - 1) undef, []⟩ H := by kernel_rfl
theorem F121_calls {R : Ending → Heap → Prop} {H : Heap} (x0a : Option Addr) (x0n : Nat) (x0c : Nat) (h : F121 x0a x0n x0c R H) : HCalls Tryz.prog 121 #[Value.slice x0a x0n x0c] H R :=
  calls_by (F := F121 x0a x0n x0c R H) (.node none .leaf (.node none .leaf (.node none (.node none .leaf (.node none (.node (some ⟨[(3, 42), (8, 3)], [5, 9, 10, 11, 12, 13, 14, 15, 16, 17]⟩) .leaf .leaf) .leaf)) .leaf))) Tryz.func121 rfl (F121_eq x0a x0n x0c R H) h
/-- bollard/bollardref02.Of -/
def F122 (x0a : Option Addr) (x0n : Nat) (x0c : Nat) (R : Ending → Heap → Prop) (H : Heap) : Prop :=
  jn (α := VFH 1) (fun v1 H2 =>
  ∀ v3 v4 v5 v6 v7 v8 v9 : Value,
  dBl v1 (fun b10 =>
  sB b10 (R (Ending.returned (Value.tuple #[Value.pointer none, Value.int IntKind.i64 1])) H2) (ask ((0 : Int) ≤ (↑x0n : Int) ∧ (↑x0n : Int) ≤ (↑x0n : Int) ∧ (8 : Int) * (↑x0n : Int) ≤ (281474976710656 : Int) ∧ (↑x0n : Int) ≤ (9223372036854775807 : Int)) (al H2 (Obj.cells (List.toArray (rowZ [Value.int IntKind.i64 0] (Int.toNat (↑x0n : Int)))) 3) (fun r11 H12 =>
  al H12 (Obj.cells #[Value.slice none 0 0, Value.slice none 0 0, Value.slice (some (Addr.mk r11 0 none)) (Int.toNat (↑x0n : Int)) (Int.toNat (↑x0n : Int)), Value.int IntKind.i64 0] 242) (fun r13 H14 =>
  ∃ I15 : List Value → Heap → Prop,
  ∃ I16 : List Value → Heap → Nat,
  (I15 ([Value.int IntKind.i64 0]) H14) ∧
  ∀ n17 : Int,
  ∀ v18 v19 v20 v21 v22 v23 v24 v25 v26 v27 v28 v29 v30 v31 v32 v33 v34 v35 v36 v37 v38 : Value,
  ∀ H39 : Heap,
  (I15 ([Value.int IntKind.i64 n17]) H39) →
  sB (decide (n17 < (↑x0n : Int))) (nz x0a (fun a41 =>
  ask ((0 : Int) ≤ n17 ∧ n17 < (↑x0n : Int)) (ld H39 (Addr.add a41 (Int.toNat n17 * 1)) (fun v42 =>
  dSl v42 (fun p43 r44 r45 =>
  sB ((↑r44 : Int) != 128) (R (Ending.returned (Value.tuple #[Value.pointer none, Value.int IntKind.i64 1])) H39) (ld H39 (Addr.mk r13 0 none) (fun v46 =>
  dSl v46 (fun p47 r48 r49 =>
  HCalls Tryz.prog 181 #[Value.slice p43 r44 r45] H39 (Sp.retK (fun v50 H51 =>
  dSl v50 (fun p52 r53 r54 =>
  (ld H51 (Addr.mk r13 0 none) (fun v55 =>
  dSl v55 (fun p56 r57 r58 =>
  (Value.slice p56 r57 r58) = (Value.slice p47 r48 r49)))) ∧
  al H51 (Obj.cells #[Value.slice p52 r53 r54] 38) (fun r59 H60 =>
  (ld H60 (Addr.mk r13 0 none) (fun v61 =>
  dSl v61 (fun p62 r63 r64 =>
  (Value.slice p62 r63 r64) = (Value.slice p47 r48 r49)))) ∧
  semW Tryz.prog (Builtin.append_ #[42, 42] 42 #[Value.slice p47 r48 r49, Value.slice (some (Addr.mk r59 0 none)) 1 1]) nopR H60 (fun v67 H68 =>
  dSl v67 (fun p69 r70 r71 =>
  st H68 (Addr.mk r13 0 none) (Value.slice p69 r70 r71) (fun H72 =>
  wr IntKind.i64 (n17 + 1) (fun n73 =>
  (I15 ([Value.int IntKind.i64 n73]) H72) ∧
  (I16 [Value.int IntKind.i64 n73] H72) < (I16 [Value.int IntKind.i64 n17] H39)))))))) nopR))))))))) (R (Ending.returned (Value.tuple #[Value.pointer (some (Addr.mk r13 0 none)), Value.int IntKind.i64 0])) H39))))))) (fun k76 =>
  sB (decide ((↑x0n : Int) < 1)) (k76 (Value.bool true) H) (k76 (Value.bool (decide ((↑x0n : Int) > 2048))) H))
theorem F122_eq (x0a : Option Addr) (x0n : Nat) (x0c : Nat) (R : Ending → Heap → Prop) (H : Heap) : F122 x0a x0n x0c R H = vc Tryz.prog (codeOf Tryz.f122) (.node none .leaf (.node none (.node (some ⟨[(14, 4)], [7, 8, 9, 10, 11, 12, 13]⟩) .leaf .leaf) (.node none .leaf (.node none (.node none .leaf (.node none (.node (some ⟨[(22, 3)], [2, 3, 6, 23, 24, 25, 26, 27, 28, 29, 30, 31, 32, 33, 34, 35, 36, 37, 38, 39, 40]⟩) .leaf .leaf) .leaf)) .leaf)))) (postV Tryz.prog Tryz.f122 R) ⟨#[Value.slice x0a x0n x0c] ++ Array.replicate (Tryz.f122.ntmps - 1) undef, []⟩ H := by kernel_rfl
theorem F122_calls {R : Ending → Heap → Prop} {H : Heap} (x0a : Option Addr) (x0n : Nat) (x0c : Nat) (h : F122 x0a x0n x0c R H) : HCalls Tryz.prog 122 #[Value.slice x0a x0n x0c] H R :=
  calls_by (F := F122 x0a x0n x0c R H) (.node none .leaf (.node none (.node (some ⟨[(14, 4)], [7, 8, 9, 10, 11, 12, 13]⟩) .leaf .leaf) (.node none .leaf (.node none (.node none .leaf (.node none (.node (some ⟨[(22, 3)], [2, 3, 6, 23, 24, 25, 26, 27, 28, 29, 30, 31, 32, 33, 34, 35, 36, 37, 38, 39, 40]⟩) .leaf .leaf) .leaf)) .leaf)))) Tryz.func122 rfl (F122_eq x0a x0n x0c R H) h
/-- bollard/bollardref09.Open -/
def F123 (x0 : Option Addr) (x1 : Int) (R : Ending → Heap → Prop) (H : Heap) : Prop :=
  sB (Option.isNone x0) (R (Ending.returned (Value.tuple #[Value.pointer none, Value.int IntKind.i64 2])) H) (HCalls Tryz.prog 182 #[Value.pointer x0, Value.int IntKind.i64 x1] H (Sp.retK (fun v1 H2 =>
  dT 2 v1 (fun v3 v4 =>
  dPtr v3 (fun p5 =>
  dInt IntKind.i64 v4 (fun n6 =>
  sB (n6 != 0) (R (Ending.returned (Value.tuple #[Value.pointer none, Value.int IntKind.i64 n6])) H2) (al H2 (Obj.cells #[Value.slice none 0 0, Value.int IntKind.i64 0] 247) (fun r7 H8 =>
  al H8 (Obj.cells #[Value.pointer x0, Value.pointer p5, Value.pointer (some (Addr.mk r7 0 none)), Value.slice none 0 0, Value.bool false, Value.bool false, Value.int IntKind.i64 0, Value.slice none 0 0] 223) (fun r9 H10 =>
  R (Ending.returned (Value.tuple #[Value.pointer (some (Addr.mk r9 0 none)), Value.int IntKind.i64 0])) H10))))))) (pnR R)))
theorem F123_eq (x0 : Option Addr) (x1 : Int) (R : Ending → Heap → Prop) (H : Heap) : F123 x0 x1 R H = vc Tryz.prog (codeOf Tryz.f123) .leaf (postV Tryz.prog Tryz.f123 R) ⟨#[Value.pointer x0, Value.int IntKind.i64 x1] ++ Array.replicate (Tryz.f123.ntmps - 2) undef, []⟩ H := by kernel_rfl
theorem F123_calls {R : Ending → Heap → Prop} {H : Heap} (x0 : Option Addr) (x1 : Int) (h : F123 x0 x1 R H) : HCalls Tryz.prog 123 #[Value.pointer x0, Value.int IntKind.i64 x1] H R :=
  calls_by (F := F123 x0 x1 R H) .leaf Tryz.func123 rfl (F123_eq x0 x1 R H) h
/-- (*bollard/cache.Cache).Get -/
def F125 (x0 : Option Addr) (x1 : Int) (R : Ending → Heap → Prop) (H : Heap) : Prop :=
  HCalls Tryz.prog 188 #[Value.pointer x0, Value.int IntKind.i64 x1] H (Sp.retK (fun v1 H2 =>
  dT 2 v1 (fun v3 v4 =>
  dPtr v3 (fun p5 =>
  dInt IntKind.i64 v4 (fun n6 =>
  sB (n6 != 0) (R (Ending.returned (Value.tuple #[Value.slice none 0 0, Value.int IntKind.i64 n6])) H2) (nz p5 (fun a7 =>
  ld H2 a7 (fun v8 =>
  dSl v8 (fun p9 r10 r11 =>
  HCalls Tryz.prog 48 #[Value.slice p9 r10 r11] H2 (Sp.retK (fun v12 H13 =>
  dSl v12 (fun p14 r15 r16 =>
  R (Ending.returned (Value.tuple #[Value.slice p14 r15 r16, Value.int IntKind.i64 0])) H13)) (pnR R)))))))))) (pnR R))
theorem F125_eq (x0 : Option Addr) (x1 : Int) (R : Ending → Heap → Prop) (H : Heap) : F125 x0 x1 R H = vc Tryz.prog (codeOf Tryz.f125) .leaf (postV Tryz.prog Tryz.f125 R) ⟨#[Value.pointer x0, Value.int IntKind.i64 x1] ++ Array.replicate (Tryz.f125.ntmps - 2) undef, []⟩ H := by kernel_rfl
theorem F125_calls {R : Ending → Heap → Prop} {H : Heap} (x0 : Option Addr) (x1 : Int) (h : F125 x0 x1 R H) : HCalls Tryz.prog 125 #[Value.pointer x0, Value.int IntKind.i64 x1] H R :=
  calls_by (F := F125 x0 x1 R H) .leaf Tryz.func125 rfl (F125_eq x0 x1 R H) h
/-- (*bollard/patch.Set).Now -/
def F126 (x0 : Option Addr) (x1 : Int) (x2a : Option Addr) (x2n : Nat) (x2c : Nat) (R : Ending → Heap → Prop) (H : Heap) : Prop :=
  HCalls Tryz.prog 127 #[Value.pointer x0] H (Sp.retK (fun v1 H2 =>
  dBl v1 (fun b3 =>
  sB (!b3) (R (Ending.returned (Value.tuple #[Value.slice none 0 0, Value.int IntKind.i64 2])) H2) (sB ((↑x2n : Int) != 128) (R (Ending.returned (Value.tuple #[Value.slice none 0 0, Value.int IntKind.i64 1])) H2) (HCalls Tryz.prog 112 #[Value.pointer x0, Value.int IntKind.i64 x1] H2 (Sp.retK (fun v4 H5 =>
  dSl v4 (fun p6 r7 r8 =>
  HCalls Tryz.prog 189 #[Value.pointer x0, Value.slice x2a x2n x2c, Value.slice p6 r7 r8] H5 (Sp.retK (fun v9 H10 =>
  dSl v9 (fun p11 r12 r13 =>
  R (Ending.returned (Value.tuple #[Value.slice p11 r12 r13, Value.int IntKind.i64 0])) H10)) (pnR R)))) (pnR R)))))) (pnR R))
theorem F126_eq (x0 : Option Addr) (x1 : Int) (x2a : Option Addr) (x2n : Nat) (x2c : Nat) (R : Ending → Heap → Prop) (H : Heap) : F126 x0 x1 x2a x2n x2c R H = vc Tryz.prog (codeOf Tryz.f126) .leaf (postV Tryz.prog Tryz.f126 R) ⟨#[Value.pointer x0, Value.int IntKind.i64 x1, Value.slice x2a x2n x2c] ++ Array.replicate (Tryz.f126.ntmps - 3) undef, []⟩ H := by kernel_rfl
theorem F126_calls {R : Ending → Heap → Prop} {H : Heap} (x0 : Option Addr) (x1 : Int) (x2a : Option Addr) (x2n : Nat) (x2c : Nat) (h : F126 x0 x1 x2a x2n x2c R H) : HCalls Tryz.prog 126 #[Value.pointer x0, Value.int IntKind.i64 x1, Value.slice x2a x2n x2c] H R :=
  calls_by (F := F126 x0 x1 x2a x2n x2c R H) .leaf Tryz.func126 rfl (F126_eq x0 x1 x2a x2n x2c R H) h
/-- (*bollard/patch.Set).own -/
def F127 (x0 : Option Addr) (R : Ending → Heap → Prop) (H : Heap) : Prop :=
  sB (!Option.isNone x0) (nz x0 (fun a1 =>
  ld H (Addr.add a1 3) (fun v2 =>
  dBl v2 (fun b3 =>
  R (Ending.returned (Value.bool b3)) H)))) (R (Ending.returned (Value.bool false)) H)
theorem F127_eq (x0 : Option Addr) (R : Ending → Heap → Prop) (H : Heap) : F127 x0 R H = vc Tryz.prog (codeOf Tryz.f127) .leaf (postV Tryz.prog Tryz.f127 R) ⟨#[Value.pointer x0] ++ Array.replicate (Tryz.f127.ntmps - 1) undef, []⟩ H := by kernel_rfl
theorem F127_calls {R : Ending → Heap → Prop} {H : Heap} (x0 : Option Addr) (h : F127 x0 R H) : HCalls Tryz.prog 127 #[Value.pointer x0] H R :=
  calls_by (F := F127 x0 R H) .leaf Tryz.func127 rfl (F127_eq x0 R H) h
/-- bollard/patch.fits -/
def F128 (x0 : Int) (x1 : Int) (x2a : Option Addr) (x2n : Nat) (x2c : Nat) (R : Ending → Heap → Prop) (H : Heap) : Prop :=
  sB (decide (x0 ≥ 0)) (sB (decide (x1 ≥ 0)) (sB (decide ((↑x2n : Int) > 0)) (sB (decide (x1 ≤ 128)) (wr IntKind.i64 (128 - x1) (fun n1 =>
  R (Ending.returned (Value.bool (decide ((↑x2n : Int) ≤ n1)))) H)) (R (Ending.returned (Value.bool false)) H)) (R (Ending.returned (Value.bool false)) H)) (R (Ending.returned (Value.bool false)) H)) (R (Ending.returned (Value.bool false)) H)
theorem F128_eq (x0 : Int) (x1 : Int) (x2a : Option Addr) (x2n : Nat) (x2c : Nat) (R : Ending → Heap → Prop) (H : Heap) : F128 x0 x1 x2a x2n x2c R H = vc Tryz.prog (codeOf Tryz.f128) .leaf (postV Tryz.prog Tryz.f128 R) ⟨#[Value.int IntKind.i64 x0, Value.int IntKind.i64 x1, Value.slice x2a x2n x2c] ++ Array.replicate (Tryz.f128.ntmps - 3) undef, []⟩ H := by kernel_rfl
theorem F128_calls {R : Ending → Heap → Prop} {H : Heap} (x0 : Int) (x1 : Int) (x2a : Option Addr) (x2n : Nat) (x2c : Nat) (h : F128 x0 x1 x2a x2n x2c R H) : HCalls Tryz.prog 128 #[Value.int IntKind.i64 x0, Value.int IntKind.i64 x1, Value.slice x2a x2n x2c] H R :=
  calls_by (F := F128 x0 x1 x2a x2n x2c R H) .leaf Tryz.func128 rfl (F128_eq x0 x1 x2a x2n x2c R H) h
/-- (*bollard/patch.Set).Add$1 -/
def F129 (x0 : Int) (f0 : Addr) (R : Ending → Heap → Prop) (H : Heap) : Prop :=
  ld H f0 (fun v1 =>
  dPtr v1 (fun p2 =>
  HCalls Tryz.prog 130 #[Value.pointer p2, Value.int IntKind.i64 x0] H (Sp.retK (fun v3 H4 =>
  dBl v3 (fun b5 =>
  R (Ending.returned (Value.bool !b5)) H4)) (pnR R))))
theorem F129_eq (x0 : Int) (f0 : Addr) (R : Ending → Heap → Prop) (H : Heap) : F129 x0 f0 R H = vc Tryz.prog (codeOf Tryz.f129) .leaf (postV Tryz.prog Tryz.f129 R) ⟨#[Value.int IntKind.i64 x0, Value.pointer (some f0)] ++ Array.replicate (Tryz.f129.ntmps - 2) undef, []⟩ H := by kernel_rfl
theorem F129_calls {R : Ending → Heap → Prop} {H : Heap} (x0 : Int) (f0 : Addr) (h : F129 x0 f0 R H) : HCalls Tryz.prog 129 #[Value.int IntKind.i64 x0, Value.pointer (some f0)] H R :=
  calls_by (F := F129 x0 f0 R H) .leaf Tryz.func129 rfl (F129_eq x0 f0 R H) h
/-- (*bollard/patch.Set).known -/
def F130 (x0 : Option Addr) (x1 : Int) (R : Ending → Heap → Prop) (H : Heap) : Prop :=
  sB (decide (x1 ≥ 1)) (nz x0 (fun a1 =>
  ld H a1 (fun v2 =>
  dInt IntKind.i64 v2 (fun n3 =>
  R (Ending.returned (Value.bool (decide (x1 ≤ n3)))) H)))) (R (Ending.returned (Value.bool false)) H)
theorem F130_eq (x0 : Option Addr) (x1 : Int) (R : Ending → Heap → Prop) (H : Heap) : F130 x0 x1 R H = vc Tryz.prog (codeOf Tryz.f130) .leaf (postV Tryz.prog Tryz.f130 R) ⟨#[Value.pointer x0, Value.int IntKind.i64 x1] ++ Array.replicate (Tryz.f130.ntmps - 2) undef, []⟩ H := by kernel_rfl
theorem F130_calls {R : Ending → Heap → Prop} {H : Heap} (x0 : Option Addr) (x1 : Int) (h : F130 x0 x1 R H) : HCalls Tryz.prog 130 #[Value.pointer x0, Value.int IntKind.i64 x1] H R :=
  calls_by (F := F130 x0 x1 R H) .leaf Tryz.func130 rfl (F130_eq x0 x1 R H) h
/-- slices.Clone[[]int,int] -/
def F131 (x0a : Option Addr) (x0n : Nat) (x0c : Nat) (R : Ending → Heap → Prop) (H : Heap) : Prop :=
  sB (Option.isNone x0a) (R (Ending.returned (Value.slice none 0 0)) H) (al H (Obj.cells #[] 3) (fun r1 H2 =>
  semW Tryz.prog (Builtin.append_ #[73, 73] 73 #[Value.slice (some (Addr.mk r1 0 none)) 0 0, Value.slice x0a x0n x0c]) (pnR R) H2 (fun v5 H6 =>
  dSl v5 (fun p7 r8 r9 =>
  R (Ending.returned (Value.slice p7 r8 r9)) H6))))
theorem F131_eq (x0a : Option Addr) (x0n : Nat) (x0c : Nat) (R : Ending → Heap → Prop) (H : Heap) : F131 x0a x0n x0c R H = vc Tryz.prog (codeOf Tryz.f131) .leaf (postV Tryz.prog Tryz.f131 R) ⟨#[Value.slice x0a x0n x0c] ++ Array.replicate (Tryz.f131.ntmps - 1) undef, []⟩ H := by kernel_rfl
theorem F131_calls {R : Ending → Heap → Prop} {H : Heap} (x0a : Option Addr) (x0n : Nat) (x0c : Nat) (h : F131 x0a x0n x0c R H) : HCalls Tryz.prog 131 #[Value.slice x0a x0n x0c] H R :=
  calls_by (F := F131 x0a x0n x0c R H) .leaf Tryz.func131 rfl (F131_eq x0a x0n x0c R H) h
end Go.Proofs.YtngploohhmfaiaaGreat.E
