/- The functions' forms in the engine's words, printed by my own program. -/
import Derived.Test.YtmgjdmohmhaemaaProg
import Derived.Test.YtmgjdmohmhaemaaEng11
import Derived.KernelRfl
namespace Go.Proofs.Ytmgjdmohmhaemaa.E
open Go Go.Proofs
set_option linter.unusedVariables false
/-- maps.Keys[map[int]*bollard/cache.buffer,int,*bollard/cache.buffer]$1 -/
def F105 (x0g : Nat) (x0f : Array Value) (x0c : Array Value) (f0 : Addr) (R : Ending → Heap → Prop) (H : Heap) : Prop :=
  ld H f0 (fun v1 =>
  dMap v1 (fun p2 =>
  semW Try.prog (Instr.range 69 (Value.map p2)) (pnR R) H (fun v5 H6 =>
  ∃ I7 : List Value → Heap → Prop,
  ∃ I8 : List Value → Heap → Nat,
  (I7 [] H6) ∧
  ∀ v9 v10 v11 v12 v13 v14 v15 v16 v17 : Value,
  ∀ H18 : Heap,
  (I7 [] H18) →
  semW Try.prog (Instr.next v5 false 0) (pnR R) H18 (fun v22 H23 =>
  dNx v22 (R (Ending.returned (Value.tuple #[])) H23) (fun v24 v25 =>
  semW Try.prog (Instr.entry v5) (pnR R) H23 (fun v28 H29 =>
  dT 2 v28 (fun v30 v31 =>
  dInt IntKind.i64 v30 (fun n32 =>
  gB (plainFn Try.prog x0g) (HCalls Try.prog x0g (argsOf x0f [Value.int IntKind.i64 n32] x0c) H29 (Sp.retK (fun v33 H34 =>
  dBl v33 (fun b35 =>
  sB (!b35) (R (Ending.returned (Value.tuple #[])) H34) ((I7 [] H34) ∧
  (I8 [] H34) < (I8 [] H18)))) (pnR R)))))))))))
theorem F105_eq (x0g : Nat) (x0f : Array Value) (x0c : Array Value) (f0 : Addr) (R : Ending → Heap → Prop) (H : Heap) : F105 x0g x0f x0c f0 R H = vc Try.prog (codeOf Try.f105) (.node none .leaf (.node none (.node (some ⟨[], [3, 6, 7, 8, 9, 10, 11, 12, 13]⟩) .leaf .leaf) .leaf)) (postV Try.prog Try.f105 R) ⟨#[Value.func (Fn.func x0g) x0f x0c, Value.pointer (some f0)] ++ Array.replicate (Try.f105.ntmps - 2) undef, []⟩ H := by kernel_rfl
theorem F105_calls {R : Ending → Heap → Prop} {H : Heap} (x0g : Nat) (x0f : Array Value) (x0c : Array Value) (f0 : Addr) (h : F105 x0g x0f x0c f0 R H) : HCalls Try.prog 105 #[Value.func (Fn.func x0g) x0f x0c, Value.pointer (some f0)] H R :=
  calls_by (.node none .leaf (.node none (.node (some ⟨[], [3, 6, 7, 8, 9, 10, 11, 12, 13]⟩) .leaf .leaf) .leaf)) Try.func105 rfl (F105_eq x0g x0f x0c f0 R H) h
/-- math/bits.Mul32 -/
def F106 (x0 : Int) (x1 : Int) (R : Ending → Heap → Prop) (H : Heap) : Prop :=
  wr IntKind.u64 x0 (fun n1 =>
  wr IntKind.u64 x1 (fun n2 =>
  wr IntKind.u64 (n1 * n2) (fun n3 =>
  ask ((0 : Int) ≤ (32 : Int)) (nm (Int.fdiv n3 (2 ^ min (Int.toNat 32) 64)) (fun n4 =>
  wr IntKind.u32 n4 (fun n5 =>
  wr IntKind.u32 n3 (fun n6 =>
  R (Ending.returned (Value.tuple #[Value.int IntKind.u32 n5, Value.int IntKind.u32 n6])) H)))))))
theorem F106_eq (x0 : Int) (x1 : Int) (R : Ending → Heap → Prop) (H : Heap) : F106 x0 x1 R H = vc Try.prog (codeOf Try.f106) .leaf (postV Try.prog Try.f106 R) ⟨#[Value.int IntKind.u32 x0, Value.int IntKind.u32 x1] ++ Array.replicate (Try.f106.ntmps - 2) undef, []⟩ H := by kernel_rfl
theorem F106_calls {R : Ending → Heap → Prop} {H : Heap} (x0 : Int) (x1 : Int) (h : F106 x0 x1 R H) : HCalls Try.prog 106 #[Value.int IntKind.u32 x0, Value.int IntKind.u32 x1] H R :=
  calls_by .leaf Try.func106 rfl (F106_eq x0 x1 R H) h
/-- math/bits.Mul64 -/
def F107 (x0 : Int) (x1 : Int) (R : Ending → Heap → Prop) (H : Heap) : Prop :=
  nm (IntKind.wrap IntKind.u64 (↑(BitVec.toNat (BitVec.ofInt 64 x0 &&& BitVec.ofInt 64 4294967295)) : Int)) (fun n1 =>
  ask ((0 : Int) ≤ (32 : Int)) (nm (Int.fdiv x0 (2 ^ min (Int.toNat 32) 64)) (fun n2 =>
  nm (IntKind.wrap IntKind.u64 (↑(BitVec.toNat (BitVec.ofInt 64 x1 &&& BitVec.ofInt 64 4294967295)) : Int)) (fun n3 =>
  ask ((0 : Int) ≤ (32 : Int)) (nm (Int.fdiv x1 (2 ^ min (Int.toNat 32) 64)) (fun n4 =>
  wr IntKind.u64 (n1 * n3) (fun n5 =>
  wr IntKind.u64 (n2 * n3) (fun n6 =>
  ask ((0 : Int) ≤ (32 : Int)) (nm (Int.fdiv n5 (2 ^ min (Int.toNat 32) 64)) (fun n7 =>
  wr IntKind.u64 (n6 + n7) (fun n8 =>
  nm (IntKind.wrap IntKind.u64 (↑(BitVec.toNat (BitVec.ofInt 64 n8 &&& BitVec.ofInt 64 4294967295)) : Int)) (fun n9 =>
  ask ((0 : Int) ≤ (32 : Int)) (nm (Int.fdiv n8 (2 ^ min (Int.toNat 32) 64)) (fun n10 =>
  wr IntKind.u64 (n1 * n4) (fun n11 =>
  wr IntKind.u64 (n9 + n11) (fun n12 =>
  wr IntKind.u64 (n2 * n4) (fun n13 =>
  wr IntKind.u64 (n13 + n10) (fun n14 =>
  ask ((0 : Int) ≤ (32 : Int)) (nm (Int.fdiv n12 (2 ^ min (Int.toNat 32) 64)) (fun n15 =>
  wr IntKind.u64 (n14 + n15) (fun n16 =>
  wr IntKind.u64 (x0 * x1) (fun n17 =>
  R (Ending.returned (Value.tuple #[Value.int IntKind.u64 n16, Value.int IntKind.u64 n17])) H))))))))))))))))))))))
theorem F107_eq (x0 : Int) (x1 : Int) (R : Ending → Heap → Prop) (H : Heap) : F107 x0 x1 R H = vc Try.prog (codeOf Try.f107) .leaf (postV Try.prog Try.f107 R) ⟨#[Value.int IntKind.u64 x0, Value.int IntKind.u64 x1] ++ Array.replicate (Try.f107.ntmps - 2) undef, []⟩ H := by kernel_rfl
theorem F107_calls {R : Ending → Heap → Prop} {H : Heap} (x0 : Int) (x1 : Int) (h : F107 x0 x1 R H) : HCalls Try.prog 107 #[Value.int IntKind.u64 x0, Value.int IntKind.u64 x1] H R :=
  calls_by .leaf Try.func107 rfl (F107_eq x0 x1 R H) h
/-- slices.insertionSortOrdered[int] -/
def F108 (x0a : Option Addr) (x0n : Nat) (x0c : Nat) (x1 : Int) (x2 : Int) (R : Ending → Heap → Prop) (H : Heap) : Prop :=
  wr IntKind.i64 (x1 + 1) (fun n1 =>
  ∃ I2 : List Value → Heap → Prop,
  ∃ I3 : List Value → Heap → Nat,
  (I2 ([Value.int IntKind.i64 n1]) H) ∧
  ∀ n4 : Int,
  ∀ v5 v6 v7 v8 v9 v10 v11 v12 v13 v14 v15 v16 v17 v18 v19 v20 v21 v22 v23 v24 v25 v26 v27 v28 v29 v30 v31 v32 v33 v34 v35 v36 v37 v38 v39 v40 v41 v42 v43 v44 : Value,
  ∀ H45 : Heap,
  (I2 ([Value.int IntKind.i64 n4]) H45) →
  sB (decide (n4 < x2)) (∃ I47 : List Value → Heap → Prop,
  ∃ I48 : List Value → Heap → Nat,
  (I47 ([Value.int IntKind.i64 n4]) H45) ∧
  ∀ n49 : Int,
  ∀ v50 v51 v52 v53 v54 v55 v56 v57 v58 v59 v60 v61 v62 v63 v64 v65 v66 v67 v68 v69 v70 v71 v72 v73 v74 v75 v76 v77 v78 v79 v80 v81 v82 : Value,
  ∀ H83 : Heap,
  (I47 ([Value.int IntKind.i64 n49]) H83) →
  jn (α := VFH 1) (fun v85 H86 =>
  ∀ v87 v88 v89 v90 v91 v92 v93 v94 v95 v96 v97 v98 v99 v100 : Value,
  dBl v85 (fun b101 =>
  sB b101 (wr IntKind.i64 (n49 - 1) (fun n102 =>
  wr IntKind.i64 (n49 - 1) (fun n103 =>
  nz x0a (fun a104 =>
  ask ((0 : Int) ≤ n103 ∧ n103 < (↑x0n : Int)) (ld H86 (Addr.add a104 (Int.toNat n103 * 1)) (fun v105 =>
  dInt IntKind.i64 v105 (fun n106 =>
  nz x0a (fun a107 =>
  ask ((0 : Int) ≤ n49 ∧ n49 < (↑x0n : Int)) (ld H86 (Addr.add a107 (Int.toNat n49 * 1)) (fun v108 =>
  dInt IntKind.i64 v108 (fun n109 =>
  nz x0a (fun a110 =>
  ask ((0 : Int) ≤ n49 ∧ n49 < (↑x0n : Int)) (st H86 (Addr.add a110 (Int.toNat n49 * 1)) (Value.int IntKind.i64 n106) (fun H111 =>
  nz x0a (fun a112 =>
  ask ((0 : Int) ≤ n102 ∧ n102 < (↑x0n : Int)) (st H111 (Addr.add a112 (Int.toNat n102 * 1)) (Value.int IntKind.i64 n109) (fun H113 =>
  wr IntKind.i64 (n49 - 1) (fun n114 =>
  (I47 ([Value.int IntKind.i64 n114]) H113) ∧
  (I48 [Value.int IntKind.i64 n114] H113) < (I48 [Value.int IntKind.i64 n49] H83))))))))))))))))))) (wr IntKind.i64 (n4 + 1) (fun n115 =>
  (I2 ([Value.int IntKind.i64 n115]) H86) ∧
  (I3 [Value.int IntKind.i64 n115] H86) < (I3 [Value.int IntKind.i64 n4] H45))))) (fun k116 =>
  sB (decide (n49 > x1)) (nz x0a (fun a117 =>
  ask ((0 : Int) ≤ n49 ∧ n49 < (↑x0n : Int)) (ld H83 (Addr.add a117 (Int.toNat n49 * 1)) (fun v118 =>
  dInt IntKind.i64 v118 (fun n119 =>
  wr IntKind.i64 (n49 - 1) (fun n120 =>
  nz x0a (fun a121 =>
  ask ((0 : Int) ≤ n120 ∧ n120 < (↑x0n : Int)) (ld H83 (Addr.add a121 (Int.toNat n120 * 1)) (fun v122 =>
  dInt IntKind.i64 v122 (fun n123 =>
  HCalls Try.prog 114 #[Value.int IntKind.i64 n119, Value.int IntKind.i64 n123] H83 (Sp.retK (fun v124 H125 =>
  dBl v124 (fun b126 =>
  k116 (Value.bool b126) H125)) nopR))))))))))) (k116 (Value.bool false) H83))) (R (Ending.returned (Value.tuple #[])) H45))
theorem F108_eq (x0a : Option Addr) (x0n : Nat) (x0c : Nat) (x1 : Int) (x2 : Int) (R : Ending → Heap → Prop) (H : Heap) : F108 x0a x0n x0c x1 x2 R H = vc Try.prog (codeOf Try.f108) (.node none .leaf (.node none (.node (some ⟨[(6, 3)], [7, 10, 11, 12, 13, 14, 15, 16, 17, 18, 19, 20, 21, 22, 23, 24, 25, 26, 27, 28, 29, 30, 31, 32, 33, 34, 35, 36, 37, 38, 39, 40, 41, 42, 43, 44, 45, 46, 47, 48]⟩) (.node none .leaf (.node none (.node none (.node none .leaf (.node none (.node (some ⟨[(7, 3)], [16, 17, 18, 19, 20, 21, 22, 23, 24, 25, 26, 27, 28, 29, 30, 31, 32, 33, 34, 35, 36, 37, 38, 39, 40, 41, 42, 43, 44, 45, 46, 47, 48]⟩) (.node none (.node (some ⟨[(30, 4)], [16, 17, 18, 19, 20, 21, 22, 23, 24, 25, 26, 27, 28, 29]⟩) .leaf .leaf) .leaf) .leaf) .leaf)) .leaf) .leaf)) .leaf) .leaf)) (postV Try.prog Try.f108 R) ⟨#[Value.slice x0a x0n x0c, Value.int IntKind.i64 x1, Value.int IntKind.i64 x2] ++ Array.replicate (Try.f108.ntmps - 3) undef, []⟩ H := by kernel_rfl
theorem F108_calls {R : Ending → Heap → Prop} {H : Heap} (x0a : Option Addr) (x0n : Nat) (x0c : Nat) (x1 : Int) (x2 : Int) (h : F108 x0a x0n x0c x1 x2 R H) : HCalls Try.prog 108 #[Value.slice x0a x0n x0c, Value.int IntKind.i64 x1, Value.int IntKind.i64 x2] H R :=
  calls_by (.node none .leaf (.node none (.node (some ⟨[(6, 3)], [7, 10, 11, 12, 13, 14, 15, 16, 17, 18, 19, 20, 21, 22, 23, 24, 25, 26, 27, 28, 29, 30, 31, 32, 33, 34, 35, 36, 37, 38, 39, 40, 41, 42, 43, 44, 45, 46, 47, 48]⟩) (.node none .leaf (.node none (.node none (.node none .leaf (.node none (.node (some ⟨[(7, 3)], [16, 17, 18, 19, 20, 21, 22, 23, 24, 25, 26, 27, 28, 29, 30, 31, 32, 33, 34, 35, 36, 37, 38, 39, 40, 41, 42, 43, 44, 45, 46, 47, 48]⟩) (.node none (.node (some ⟨[(30, 4)], [16, 17, 18, 19, 20, 21, 22, 23, 24, 25, 26, 27, 28, 29]⟩) .leaf .leaf) .leaf) .leaf) .leaf)) .leaf) .leaf)) .leaf) .leaf)) Try.func108 rfl (F108_eq x0a x0n x0c x1 x2 R H) h
/-- slices.heapSortOrdered[int] -/
def F109 (x0a : Option Addr) (x0n : Nat) (x0c : Nat) (x1 : Int) (x2 : Int) (R : Ending → Heap → Prop) (H : Heap) : Prop :=
  wr IntKind.i64 (x2 - x1) (fun n1 =>
  wr IntKind.i64 (n1 - 1) (fun n2 =>
  ask ((2 : Int) ≠ (0 : Int)) (wr IntKind.i64 (Int.tdiv n2 2) (fun n3 =>
  ∃ I4 : List Value → Heap → Prop,
  ∃ I5 : List Value → Heap → Nat,
  (I4 ([Value.int IntKind.i64 n3]) H) ∧
  ∀ n6 : Int,
  ∀ v7 v8 v9 v10 v11 v12 v13 v14 v15 : Value,
  ∀ H16 : Heap,
  (I4 ([Value.int IntKind.i64 n6]) H16) →
  sB (decide (n6 ≥ 0)) (HCalls Try.prog 134 #[Value.slice x0a x0n x0c, Value.int IntKind.i64 n6, Value.int IntKind.i64 n1, Value.int IntKind.i64 x1] H16 (Sp.retK (fun v18 H19 =>
  wr IntKind.i64 (n6 - 1) (fun n20 =>
  (I4 ([Value.int IntKind.i64 n20]) H19) ∧
  (I5 [Value.int IntKind.i64 n20] H19) < (I5 [Value.int IntKind.i64 n6] H16))) (pnR R))) (wr IntKind.i64 (n1 - 1) (fun n23 =>
  ∃ I24 : List Value → Heap → Prop,
  ∃ I25 : List Value → Heap → Nat,
  (I24 ([Value.int IntKind.i64 n23]) H16) ∧
  ∀ n26 : Int,
  ∀ v27 v28 v29 v30 v31 v32 v33 v34 v35 v36 v37 v38 v39 v40 v41 v42 v43 v44 v45 v46 v47 v48 v49 v50 v51 v52 v53 : Value,
  ∀ H54 : Heap,
  (I24 ([Value.int IntKind.i64 n26]) H54) →
  sB (decide (n26 ≥ 0)) (wr IntKind.i64 (x1 + n26) (fun n56 =>
  wr IntKind.i64 (x1 + n26) (fun n57 =>
  nz x0a (fun a58 =>
  ask ((0 : Int) ≤ n57 ∧ n57 < (↑x0n : Int)) (ld H54 (Addr.add a58 (Int.toNat n57 * 1)) (fun v59 =>
  dInt IntKind.i64 v59 (fun n60 =>
  nz x0a (fun a61 =>
  ask ((0 : Int) ≤ x1 ∧ x1 < (↑x0n : Int)) (ld H54 (Addr.add a61 (Int.toNat x1 * 1)) (fun v62 =>
  dInt IntKind.i64 v62 (fun n63 =>
  nz x0a (fun a64 =>
  ask ((0 : Int) ≤ x1 ∧ x1 < (↑x0n : Int)) (st H54 (Addr.add a64 (Int.toNat x1 * 1)) (Value.int IntKind.i64 n60) (fun H65 =>
  nz x0a (fun a66 =>
  ask ((0 : Int) ≤ n56 ∧ n56 < (↑x0n : Int)) (st H65 (Addr.add a66 (Int.toNat n56 * 1)) (Value.int IntKind.i64 n63) (fun H67 =>
  HCalls Try.prog 134 #[Value.slice x0a x0n x0c, Value.int IntKind.i64 0, Value.int IntKind.i64 n26, Value.int IntKind.i64 x1] H67 (Sp.retK (fun v68 H69 =>
  wr IntKind.i64 (n26 - 1) (fun n70 =>
  (I24 ([Value.int IntKind.i64 n70]) H69) ∧
  (I25 [Value.int IntKind.i64 n70] H69) < (I25 [Value.int IntKind.i64 n26] H54))) (pnR R))))))))))))))))))) (R (Ending.returned (Value.tuple #[])) H54)))))))
theorem F109_eq (x0a : Option Addr) (x0n : Nat) (x0c : Nat) (x1 : Int) (x2 : Int) (R : Ending → Heap → Prop) (H : Heap) : F109 x0a x0n x0c x1 x2 R H = vc Try.prog (codeOf Try.f109) (.node none .leaf (.node none .leaf (.node none .leaf (.node none (.node none .leaf (.node none (.node (some ⟨[(9, 3)], [18, 19, 20, 21, 22, 23, 24, 25, 26]⟩) .leaf .leaf) .leaf)) (.node none .leaf (.node none (.node (some ⟨[(10, 3)], [29, 30, 31, 32, 33, 34, 35, 36, 37, 38, 39, 40, 41, 42, 43, 44, 45, 46, 47, 48, 49, 50, 51, 52, 53, 54, 55]⟩) .leaf .leaf) .leaf)))))) (postV Try.prog Try.f109 R) ⟨#[Value.slice x0a x0n x0c, Value.int IntKind.i64 x1, Value.int IntKind.i64 x2] ++ Array.replicate (Try.f109.ntmps - 3) undef, []⟩ H := by kernel_rfl
theorem F109_calls {R : Ending → Heap → Prop} {H : Heap} (x0a : Option Addr) (x0n : Nat) (x0c : Nat) (x1 : Int) (x2 : Int) (h : F109 x0a x0n x0c x1 x2 R H) : HCalls Try.prog 109 #[Value.slice x0a x0n x0c, Value.int IntKind.i64 x1, Value.int IntKind.i64 x2] H R :=
  calls_by (.node none .leaf (.node none .leaf (.node none .leaf (.node none (.node none .leaf (.node none (.node (some ⟨[(9, 3)], [18, 19, 20, 21, 22, 23, 24, 25, 26]⟩) .leaf .leaf) .leaf)) (.node none .leaf (.node none (.node (some ⟨[(10, 3)], [29, 30, 31, 32, 33, 34, 35, 36, 37, 38, 39, 40, 41, 42, 43, 44, 45, 46, 47, 48, 49, 50, 51, 52, 53, 54, 55]⟩) .leaf .leaf) .leaf)))))) Try.func109 rfl (F109_eq x0a x0n x0c x1 x2 R H) h
/-- slices.breakPatternsOrdered[int] -/
def F110 (x0a : Option Addr) (x0n : Nat) (x0c : Nat) (x1 : Int) (x2 : Int) (R : Ending → Heap → Prop) (H : Heap) : Prop :=
  wr IntKind.i64 (x2 - x1) (fun n1 =>
  sB (decide (n1 ≥ 8)) (wr IntKind.u64 n1 (fun n2 =>
  al H (Obj.cells #[Value.int IntKind.u64 0] 186) (fun r3 H4 =>
  st H4 (Addr.mk r3 0 none) (Value.int IntKind.u64 n2) (fun H5 =>
  HCalls Try.prog 135 #[Value.int IntKind.i64 n1] H5 (Sp.retK (fun v6 H7 =>
  dInt IntKind.u64 v6 (fun n8 =>
  ask ((4 : Int) ≠ (0 : Int)) (wr IntKind.i64 (Int.tdiv n1 4) (fun n9 =>
  wr IntKind.i64 (n9 * 2) (fun n10 =>
  wr IntKind.i64 (x1 + n10) (fun n11 =>
  wr IntKind.i64 (n11 - 1) (fun n12 =>
  ∃ I13 : List Value → Heap → Prop,
  ∃ I14 : List Value → Heap → Nat,
  (I13 ([Value.int IntKind.i64 n12]) H7) ∧
  ∀ n15 : Int,
  ∀ v16 v17 v18 v19 v20 v21 v22 v23 v24 v25 v26 v27 v28 v29 v30 v31 v32 v33 v34 v35 v36 v37 v38 v39 v40 v41 v42 v43 v44 v45 v46 v47 v48 v49 v50 v51 v52 v53 v54 v55 : Value,
  ∀ H56 : Heap,
  (I13 ([Value.int IntKind.i64 n15]) H56) →
  ask ((4 : Int) ≠ (0 : Int)) (wr IntKind.i64 (Int.tdiv n1 4) (fun n58 =>
  wr IntKind.i64 (n58 * 2) (fun n59 =>
  wr IntKind.i64 (x1 + n59) (fun n60 =>
  wr IntKind.i64 (n60 + 1) (fun n61 =>
  sB (decide (n15 ≤ n61)) (HCalls Try.prog 136 #[Value.pointer (some (Addr.mk r3 0 none))] H56 (Sp.retK (fun v62 H63 =>
  dInt IntKind.u64 v62 (fun n64 =>
  wr IntKind.u64 (n8 - 1) (fun n65 =>
  nm (IntKind.wrap IntKind.u64 (↑(BitVec.toNat (BitVec.ofInt 64 n64 &&& BitVec.ofInt 64 n65)) : Int)) (fun n66 =>
  wr IntKind.i64 n66 (fun n67 =>
  jn (α := VFH 1) (fun v68 H69 =>
  ∀ v70 v71 v72 v73 v74 v75 : Value,
  dInt IntKind.i64 v68 (fun n76 =>
  wr IntKind.i64 (x1 + n76) (fun n77 =>
  wr IntKind.i64 (x1 + n76) (fun n78 =>
  nz x0a (fun a79 =>
  ask ((0 : Int) ≤ n78 ∧ n78 < (↑x0n : Int)) (ld H69 (Addr.add a79 (Int.toNat n78 * 1)) (fun v80 =>
  dInt IntKind.i64 v80 (fun n81 =>
  nz x0a (fun a82 =>
  ask ((0 : Int) ≤ n15 ∧ n15 < (↑x0n : Int)) (ld H69 (Addr.add a82 (Int.toNat n15 * 1)) (fun v83 =>
  dInt IntKind.i64 v83 (fun n84 =>
  nz x0a (fun a85 =>
  ask ((0 : Int) ≤ n15 ∧ n15 < (↑x0n : Int)) (st H69 (Addr.add a85 (Int.toNat n15 * 1)) (Value.int IntKind.i64 n81) (fun H86 =>
  nz x0a (fun a87 =>
  ask ((0 : Int) ≤ n77 ∧ n77 < (↑x0n : Int)) (st H86 (Addr.add a87 (Int.toNat n77 * 1)) (Value.int IntKind.i64 n84) (fun H88 =>
  wr IntKind.i64 (n15 + 1) (fun n89 =>
  (I13 ([Value.int IntKind.i64 n89]) H88) ∧
  (I14 [Value.int IntKind.i64 n89] H88) < (I14 [Value.int IntKind.i64 n15] H56)))))))))))))))))))) (fun k90 =>
  sB (decide (n67 ≥ n1)) (wr IntKind.i64 (n67 - n1) (fun n91 =>
  k90 (Value.int IntKind.i64 n91) H63)) (k90 (Value.int IntKind.i64 n67) H63))))))) (pnR R))) (R (Ending.returned (Value.tuple #[])) H56))))))))))))) (pnR R)))))) (R (Ending.returned (Value.tuple #[])) H))
theorem F110_eq (x0a : Option Addr) (x0n : Nat) (x0c : Nat) (x1 : Int) (x2 : Int) (R : Ending → Heap → Prop) (H : Heap) : F110 x0a x0n x0c x1 x2 R H = vc Try.prog (codeOf Try.f110) (.node none .leaf (.node none .leaf (.node none (.node none .leaf (.node none .leaf (.node none .leaf (.node none (.node (some ⟨[(9, 3)], [10, 26, 27, 28, 29, 30, 31, 32, 33, 34, 35, 36, 37, 38, 39, 40, 41, 42, 43, 44, 45, 46, 47, 48, 49, 50, 51, 52, 53, 54, 55, 56, 57, 58, 59, 60, 61, 62, 63, 64]⟩) (.node none .leaf (.node none (.node none (.node none .leaf (.node (some ⟨[(10, 3)], [41, 42, 43, 44, 45, 46]⟩) .leaf .leaf)) .leaf) .leaf)) .leaf) .leaf)))) .leaf))) (postV Try.prog Try.f110 R) ⟨#[Value.slice x0a x0n x0c, Value.int IntKind.i64 x1, Value.int IntKind.i64 x2] ++ Array.replicate (Try.f110.ntmps - 3) undef, []⟩ H := by kernel_rfl
theorem F110_calls {R : Ending → Heap → Prop} {H : Heap} (x0a : Option Addr) (x0n : Nat) (x0c : Nat) (x1 : Int) (x2 : Int) (h : F110 x0a x0n x0c x1 x2 R H) : HCalls Try.prog 110 #[Value.slice x0a x0n x0c, Value.int IntKind.i64 x1, Value.int IntKind.i64 x2] H R :=
  calls_by (.node none .leaf (.node none .leaf (.node none (.node none .leaf (.node none .leaf (.node none .leaf (.node none (.node (some ⟨[(9, 3)], [10, 26, 27, 28, 29, 30, 31, 32, 33, 34, 35, 36, 37, 38, 39, 40, 41, 42, 43, 44, 45, 46, 47, 48, 49, 50, 51, 52, 53, 54, 55, 56, 57, 58, 59, 60, 61, 62, 63, 64]⟩) (.node none .leaf (.node none (.node none (.node none .leaf (.node (some ⟨[(10, 3)], [41, 42, 43, 44, 45, 46]⟩) .leaf .leaf)) .leaf) .leaf)) .leaf) .leaf)))) .leaf))) Try.func110 rfl (F110_eq x0a x0n x0c x1 x2 R H) h
/-- slices.choosePivotOrdered[int] -/
def F111 (x0a : Option Addr) (x0n : Nat) (x0c : Nat) (x1 : Int) (x2 : Int) (R : Ending → Heap → Prop) (H : Heap) : Prop :=
  wr IntKind.i64 (x2 - x1) (fun n1 =>
  al H (Obj.cells #[Value.int IntKind.i64 0] 3) (fun r2 H3 =>
  ask ((4 : Int) ≠ (0 : Int)) (wr IntKind.i64 (Int.tdiv n1 4) (fun n4 =>
  wr IntKind.i64 (n4 * 1) (fun n5 =>
  wr IntKind.i64 (x1 + n5) (fun n6 =>
  ask ((4 : Int) ≠ (0 : Int)) (wr IntKind.i64 (Int.tdiv n1 4) (fun n7 =>
  wr IntKind.i64 (n7 * 2) (fun n8 =>
  wr IntKind.i64 (x1 + n8) (fun n9 =>
  ask ((4 : Int) ≠ (0 : Int)) (wr IntKind.i64 (Int.tdiv n1 4) (fun n10 =>
  wr IntKind.i64 (n10 * 3) (fun n11 =>
  wr IntKind.i64 (x1 + n11) (fun n12 =>
  jn (α := VFH 1) (fun v13 H14 =>
  ∀ v15 v16 v17 v18 v19 v20 v21 v22 v23 v24 v25 v26 v27 v28 v29 v30 v31 v32 v33 v34 : Value,
  dInt IntKind.i64 v13 (fun n35 =>
  ld H14 (Addr.mk r2 0 none) (fun v36 =>
  dInt IntKind.i64 v36 (fun n37 =>
  sB (n37 == 0) (R (Ending.returned (Value.tuple #[Value.int IntKind.i64 n35, Value.int IntKind.i64 1])) H14) (sB (n37 == 12) (R (Ending.returned (Value.tuple #[Value.int IntKind.i64 n35, Value.int IntKind.i64 2])) H14) (R (Ending.returned (Value.tuple #[Value.int IntKind.i64 n35, Value.int IntKind.i64 0])) H14)))))) (fun k38 =>
  sB (decide (n1 ≥ 8)) (jn (α := VFH 3) (fun v39 v40 v41 H42 =>
  ∀ v43 v44 v45 v46 v47 v48 v49 v50 v51 v52 v53 : Value,
  dInt IntKind.i64 v39 (fun n54 =>
  dInt IntKind.i64 v40 (fun n55 =>
  dInt IntKind.i64 v41 (fun n56 =>
  HCalls Try.prog 138 #[Value.slice x0a x0n x0c, Value.int IntKind.i64 n54, Value.int IntKind.i64 n55, Value.int IntKind.i64 n56, Value.pointer (some (Addr.mk r2 0 none))] H42 (Sp.retK (fun v57 H58 =>
  dInt IntKind.i64 v57 (fun n59 =>
  k38 (Value.int IntKind.i64 n59) H58)) (pnR R)))))) (fun k62 =>
  sB (decide (n1 ≥ 50)) (HCalls Try.prog 137 #[Value.slice x0a x0n x0c, Value.int IntKind.i64 n6, Value.pointer (some (Addr.mk r2 0 none))] H3 (Sp.retK (fun v63 H64 =>
  dInt IntKind.i64 v63 (fun n65 =>
  HCalls Try.prog 137 #[Value.slice x0a x0n x0c, Value.int IntKind.i64 n9, Value.pointer (some (Addr.mk r2 0 none))] H64 (Sp.retK (fun v66 H67 =>
  dInt IntKind.i64 v66 (fun n68 =>
  HCalls Try.prog 137 #[Value.slice x0a x0n x0c, Value.int IntKind.i64 n12, Value.pointer (some (Addr.mk r2 0 none))] H67 (Sp.retK (fun v69 H70 =>
  dInt IntKind.i64 v69 (fun n71 =>
  k62 (Value.int IntKind.i64 n65) (Value.int IntKind.i64 n68) (Value.int IntKind.i64 n71) H70)) (pnR R)))) (pnR R)))) (pnR R))) (k62 (Value.int IntKind.i64 n6) (Value.int IntKind.i64 n9) (Value.int IntKind.i64 n12) H3))) (k38 (Value.int IntKind.i64 n9) H3))))))))))))))))
theorem F111_eq (x0a : Option Addr) (x0n : Nat) (x0c : Nat) (x1 : Int) (x2 : Int) (R : Ending → Heap → Prop) (H : Heap) : F111 x0a x0n x0c x1 x2 R H = vc Try.prog (codeOf Try.f111) (.node none .leaf (.node none .leaf (.node none .leaf (.node none .leaf (.node none .leaf (.node none .leaf (.node (some ⟨[(11, 3)], [10, 12, 31, 32, 33, 34, 35, 36, 37, 38, 39, 40, 41, 42, 43, 44, 45, 46, 47, 48]⟩) (.node none .leaf (.node none (.node (some ⟨[(10, 3), (11, 3), (12, 3)], [33, 34, 35, 36, 37, 38, 39, 40, 41, 42, 43]⟩) .leaf .leaf) .leaf)) .leaf))))))) (postV Try.prog Try.f111 R) ⟨#[Value.slice x0a x0n x0c, Value.int IntKind.i64 x1, Value.int IntKind.i64 x2] ++ Array.replicate (Try.f111.ntmps - 3) undef, []⟩ H := by kernel_rfl
theorem F111_calls {R : Ending → Heap → Prop} {H : Heap} (x0a : Option Addr) (x0n : Nat) (x0c : Nat) (x1 : Int) (x2 : Int) (h : F111 x0a x0n x0c x1 x2 R H) : HCalls Try.prog 111 #[Value.slice x0a x0n x0c, Value.int IntKind.i64 x1, Value.int IntKind.i64 x2] H R :=
  calls_by (.node none .leaf (.node none .leaf (.node none .leaf (.node none .leaf (.node none .leaf (.node none .leaf (.node (some ⟨[(11, 3)], [10, 12, 31, 32, 33, 34, 35, 36, 37, 38, 39, 40, 41, 42, 43, 44, 45, 46, 47, 48]⟩) (.node none .leaf (.node none (.node (some ⟨[(10, 3), (11, 3), (12, 3)], [33, 34, 35, 36, 37, 38, 39, 40, 41, 42, 43]⟩) .leaf .leaf) .leaf)) .leaf))))))) Try.func111 rfl (F111_eq x0a x0n x0c x1 x2 R H) h
/-- slices.reverseRangeOrdered[int] -/
def F112 (x0a : Option Addr) (x0n : Nat) (x0c : Nat) (x1 : Int) (x2 : Int) (R : Ending → Heap → Prop) (H : Heap) : Prop :=
  wr IntKind.i64 (x2 - 1) (fun n1 =>
  ∃ I2 : List Value → Heap → Prop,
  ∃ I3 : List Value → Heap → Nat,
  (I2 ([Value.int IntKind.i64 x1, Value.int IntKind.i64 n1]) H) ∧
  ∀ n4 : Int,
  ∀ n5 : Int,
  ∀ v6 v7 v8 v9 v10 v11 v12 v13 v14 v15 v16 v17 v18 v19 v20 v21 v22 v23 v24 v25 v26 : Value,
  ∀ H27 : Heap,
  (I2 ([Value.int IntKind.i64 n4, Value.int IntKind.i64 n5]) H27) →
  sB (decide (n4 < n5)) (nz x0a (fun a29 =>
  ask ((0 : Int) ≤ n5 ∧ n5 < (↑x0n : Int)) (ld H27 (Addr.add a29 (Int.toNat n5 * 1)) (fun v30 =>
  dInt IntKind.i64 v30 (fun n31 =>
  nz x0a (fun a32 =>
  ask ((0 : Int) ≤ n4 ∧ n4 < (↑x0n : Int)) (ld H27 (Addr.add a32 (Int.toNat n4 * 1)) (fun v33 =>
  dInt IntKind.i64 v33 (fun n34 =>
  nz x0a (fun a35 =>
  ask ((0 : Int) ≤ n4 ∧ n4 < (↑x0n : Int)) (st H27 (Addr.add a35 (Int.toNat n4 * 1)) (Value.int IntKind.i64 n31) (fun H36 =>
  nz x0a (fun a37 =>
  ask ((0 : Int) ≤ n5 ∧ n5 < (↑x0n : Int)) (st H36 (Addr.add a37 (Int.toNat n5 * 1)) (Value.int IntKind.i64 n34) (fun H38 =>
  wr IntKind.i64 (n4 + 1) (fun n39 =>
  wr IntKind.i64 (n5 - 1) (fun n40 =>
  (I2 ([Value.int IntKind.i64 n39, Value.int IntKind.i64 n40]) H38) ∧
  (I3 [Value.int IntKind.i64 n39, Value.int IntKind.i64 n40] H38) < (I3 [Value.int IntKind.i64 n4, Value.int IntKind.i64 n5] H27)))))))))))))))))) (R (Ending.returned (Value.tuple #[])) H27))
theorem F112_eq (x0a : Option Addr) (x0n : Nat) (x0c : Nat) (x1 : Int) (x2 : Int) (R : Ending → Heap → Prop) (H : Heap) : F112 x0a x0n x0c x1 x2 R H = vc Try.prog (codeOf Try.f112) (.node none .leaf (.node none .leaf (.node none (.node (some ⟨[(6, 3), (7, 3)], [11, 12, 13, 14, 15, 16, 17, 18, 19, 20, 21, 22, 23, 24, 25, 26, 27, 28, 29, 30, 31]⟩) .leaf .leaf) .leaf))) (postV Try.prog Try.f112 R) ⟨#[Value.slice x0a x0n x0c, Value.int IntKind.i64 x1, Value.int IntKind.i64 x2] ++ Array.replicate (Try.f112.ntmps - 3) undef, []⟩ H := by kernel_rfl
theorem F112_calls {R : Ending → Heap → Prop} {H : Heap} (x0a : Option Addr) (x0n : Nat) (x0c : Nat) (x1 : Int) (x2 : Int) (h : F112 x0a x0n x0c x1 x2 R H) : HCalls Try.prog 112 #[Value.slice x0a x0n x0c, Value.int IntKind.i64 x1, Value.int IntKind.i64 x2] H R :=
  calls_by (.node none .leaf (.node none .leaf (.node none (.node (some ⟨[(6, 3), (7, 3)], [11, 12, 13, 14, 15, 16, 17, 18, 19, 20, 21, 22, 23, 24, 25, 26, 27, 28, 29, 30, 31]⟩) .leaf .leaf) .leaf))) Try.func112 rfl (F112_eq x0a x0n x0c x1 x2 R H) h
/-- cmp.Less[int] -/
def F114 (x0 : Int) (x1 : Int) (R : Ending → Heap → Prop) (H : Heap) : Prop :=
  HCalls Try.prog 139 #[Value.int IntKind.i64 x0] H (Sp.retK (fun v1 H2 =>
  dBl v1 (fun b3 =>
  sB b3 (HCalls Try.prog 139 #[Value.int IntKind.i64 x1] H2 (Sp.retK (fun v4 H5 =>
  dBl v4 (fun b6 =>
  sB (!b6) (R (Ending.returned (Value.bool true)) H5) (R (Ending.returned (Value.bool (decide (x0 < x1)))) H5))) (pnR R))) (R (Ending.returned (Value.bool (decide (x0 < x1)))) H2))) (pnR R))
theorem F114_eq (x0 : Int) (x1 : Int) (R : Ending → Heap → Prop) (H : Heap) : F114 x0 x1 R H = vc Try.prog (codeOf Try.f114) .leaf (postV Try.prog Try.f114 R) ⟨#[Value.int IntKind.i64 x0, Value.int IntKind.i64 x1] ++ Array.replicate (Try.f114.ntmps - 2) undef, []⟩ H := by kernel_rfl
theorem F114_calls {R : Ending → Heap → Prop} {H : Heap} (x0 : Int) (x1 : Int) (h : F114 x0 x1 R H) : HCalls Try.prog 114 #[Value.int IntKind.i64 x0, Value.int IntKind.i64 x1] H R :=
  calls_by .leaf Try.func114 rfl (F114_eq x0 x1 R H) h
/-- slices.partitionEqualOrdered[int] -/
def F115 (x0a : Option Addr) (x0n : Nat) (x0c : Nat) (x1 : Int) (x2 : Int) (x3 : Int) (R : Ending → Heap → Prop) (H : Heap) : Prop :=
  nz x0a (fun a1 =>
  ask ((0 : Int) ≤ x3 ∧ x3 < (↑x0n : Int)) (ld H (Addr.add a1 (Int.toNat x3 * 1)) (fun v2 =>
  dInt IntKind.i64 v2 (fun n3 =>
  nz x0a (fun a4 =>
  ask ((0 : Int) ≤ x1 ∧ x1 < (↑x0n : Int)) (ld H (Addr.add a4 (Int.toNat x1 * 1)) (fun v5 =>
  dInt IntKind.i64 v5 (fun n6 =>
  nz x0a (fun a7 =>
  ask ((0 : Int) ≤ x1 ∧ x1 < (↑x0n : Int)) (st H (Addr.add a7 (Int.toNat x1 * 1)) (Value.int IntKind.i64 n3) (fun H8 =>
  nz x0a (fun a9 =>
  ask ((0 : Int) ≤ x3 ∧ x3 < (↑x0n : Int)) (st H8 (Addr.add a9 (Int.toNat x3 * 1)) (Value.int IntKind.i64 n6) (fun H10 =>
  wr IntKind.i64 (x1 + 1) (fun n11 =>
  wr IntKind.i64 (x2 - 1) (fun n12 =>
  ∃ I13 : List Value → Heap → Prop,
  ∃ I14 : List Value → Heap → Nat,
  (I13 ([Value.int IntKind.i64 n11, Value.int IntKind.i64 n12]) H10) ∧
  ∀ n15 : Int,
  ∀ n16 : Int,
  ∀ v17 v18 v19 v20 v21 v22 v23 v24 v25 v26 v27 v28 v29 v30 v31 v32 v33 v34 v35 v36 v37 v38 v39 v40 v41 v42 v43 v44 v45 v46 v47 v48 v49 v50 v51 v52 v53 v54 v55 v56 v57 v58 v59 v60 v61 v62 v63 v64 v65 v66 v67 v68 v69 v70 : Value,
  ∀ H71 : Heap,
  (I13 ([Value.int IntKind.i64 n15, Value.int IntKind.i64 n16]) H71) →
  ∃ I73 : List Value → Heap → Prop,
  ∃ I74 : List Value → Heap → Nat,
  (I73 ([Value.int IntKind.i64 n15]) H71) ∧
  ∀ n75 : Int,
  ∀ v76 v77 v78 v79 v80 v81 v82 v83 v84 v85 v86 v87 v88 v89 v90 v91 v92 : Value,
  ∀ H93 : Heap,
  (I73 ([Value.int IntKind.i64 n75]) H93) →
  jn (α := VFH 1) (fun v95 H96 =>
  ∀ v97 v98 v99 v100 v101 v102 v103 v104 v105 v106 v107 v108 v109 v110 : Value,
  dBl v95 (fun b111 =>
  sB b111 (wr IntKind.i64 (n75 + 1) (fun n112 =>
  (I73 ([Value.int IntKind.i64 n112]) H96) ∧
  (I74 [Value.int IntKind.i64 n112] H96) < (I74 [Value.int IntKind.i64 n75] H93))) (∃ I113 : List Value → Heap → Prop,
  ∃ I114 : List Value → Heap → Nat,
  (I113 ([Value.int IntKind.i64 n16]) H96) ∧
  ∀ n115 : Int,
  ∀ v116 v117 v118 v119 v120 v121 v122 v123 v124 v125 v126 v127 v128 v129 v130 v131 : Value,
  ∀ H132 : Heap,
  (I113 ([Value.int IntKind.i64 n115]) H132) →
  jn (α := VFH 1) (fun v134 H135 =>
  ∀ v136 v137 v138 v139 v140 v141 v142 v143 v144 v145 v146 v147 v148 : Value,
  dBl v134 (fun b149 =>
  sB b149 (wr IntKind.i64 (n115 - 1) (fun n150 =>
  (I113 ([Value.int IntKind.i64 n150]) H135) ∧
  (I114 [Value.int IntKind.i64 n150] H135) < (I114 [Value.int IntKind.i64 n115] H132))) (sB (decide (n75 > n115)) (R (Ending.returned (Value.int IntKind.i64 n75)) H135) (nz x0a (fun a151 =>
  ask ((0 : Int) ≤ n115 ∧ n115 < (↑x0n : Int)) (ld H135 (Addr.add a151 (Int.toNat n115 * 1)) (fun v152 =>
  dInt IntKind.i64 v152 (fun n153 =>
  nz x0a (fun a154 =>
  ask ((0 : Int) ≤ n75 ∧ n75 < (↑x0n : Int)) (ld H135 (Addr.add a154 (Int.toNat n75 * 1)) (fun v155 =>
  dInt IntKind.i64 v155 (fun n156 =>
  nz x0a (fun a157 =>
  ask ((0 : Int) ≤ n75 ∧ n75 < (↑x0n : Int)) (st H135 (Addr.add a157 (Int.toNat n75 * 1)) (Value.int IntKind.i64 n153) (fun H158 =>
  nz x0a (fun a159 =>
  ask ((0 : Int) ≤ n115 ∧ n115 < (↑x0n : Int)) (st H158 (Addr.add a159 (Int.toNat n115 * 1)) (Value.int IntKind.i64 n156) (fun H160 =>
  wr IntKind.i64 (n75 + 1) (fun n161 =>
  wr IntKind.i64 (n115 - 1) (fun n162 =>
  (I13 ([Value.int IntKind.i64 n161, Value.int IntKind.i64 n162]) H160) ∧
  (I14 [Value.int IntKind.i64 n161, Value.int IntKind.i64 n162] H160) < (I14 [Value.int IntKind.i64 n15, Value.int IntKind.i64 n16] H71))))))))))))))))))))) (fun k163 =>
  sB (decide (n75 ≤ n115)) (nz x0a (fun a164 =>
  ask ((0 : Int) ≤ x1 ∧ x1 < (↑x0n : Int)) (ld H132 (Addr.add a164 (Int.toNat x1 * 1)) (fun v165 =>
  dInt IntKind.i64 v165 (fun n166 =>
  nz x0a (fun a167 =>
  ask ((0 : Int) ≤ n115 ∧ n115 < (↑x0n : Int)) (ld H132 (Addr.add a167 (Int.toNat n115 * 1)) (fun v168 =>
  dInt IntKind.i64 v168 (fun n169 =>
  HCalls Try.prog 114 #[Value.int IntKind.i64 n166, Value.int IntKind.i64 n169] H132 (Sp.retK (fun v170 H171 =>
  dBl v170 (fun b172 =>
  k163 (Value.bool b172) H171)) nopR)))))))))) (k163 (Value.bool false) H132))))) (fun k175 =>
  sB (decide (n75 ≤ n16)) (nz x0a (fun a176 =>
  ask ((0 : Int) ≤ x1 ∧ x1 < (↑x0n : Int)) (ld H93 (Addr.add a176 (Int.toNat x1 * 1)) (fun v177 =>
  dInt IntKind.i64 v177 (fun n178 =>
  nz x0a (fun a179 =>
  ask ((0 : Int) ≤ n75 ∧ n75 < (↑x0n : Int)) (ld H93 (Addr.add a179 (Int.toNat n75 * 1)) (fun v180 =>
  dInt IntKind.i64 v180 (fun n181 =>
  HCalls Try.prog 114 #[Value.int IntKind.i64 n178, Value.int IntKind.i64 n181] H93 (Sp.retK (fun v182 H183 =>
  dBl v182 (fun b184 =>
  k175 (Value.bool !b184) H183)) nopR)))))))))) (k175 (Value.bool false) H93))))))))))))))))))
theorem F115_eq (x0a : Option Addr) (x0n : Nat) (x0c : Nat) (x1 : Int) (x2 : Int) (x3 : Int) (R : Ending → Heap → Prop) (H : Heap) : F115 x0a x0n x0c x1 x2 x3 R H = vc Try.prog (codeOf Try.f115) (.node none .leaf (.node none .leaf (.node none .leaf (.node none (.node none (.node (some ⟨[(9, 3), (10, 3)], [29, 30, 31, 32, 33, 34, 35, 36, 37, 38, 39, 40, 41, 42, 43, 44, 45, 46, 47, 48, 49, 50, 51, 52, 53, 54, 55, 56, 57, 58, 59, 60, 61, 62, 63, 64, 65, 66, 67, 68, 69, 70, 71, 72, 73, 74, 75, 76, 77, 78, 79, 80, 81, 82]⟩) (.node none (.node none (.node none (.node (some ⟨[(9, 3)], [29, 30, 31, 32, 33, 34, 35, 36, 37, 38, 39, 40, 41, 42, 43, 44, 45]⟩) (.node none (.node (some ⟨[(43, 4)], [29, 30, 31, 32, 33, 34, 35, 36, 37, 38, 39, 40, 41, 42]⟩) .leaf .leaf) .leaf) .leaf) .leaf) (.node none (.node none (.node (some ⟨[(10, 3)], [46, 47, 48, 49, 50, 51, 52, 53, 54, 55, 56, 57, 58, 59, 60, 61]⟩) (.node none (.node (some ⟨[(59, 4)], [46, 47, 48, 49, 50, 51, 52, 53, 54, 55, 56, 57, 58]⟩) .leaf .leaf) .leaf) .leaf) .leaf) .leaf)) .leaf) .leaf) .leaf) .leaf)))) (postV Try.prog Try.f115 R) ⟨#[Value.slice x0a x0n x0c, Value.int IntKind.i64 x1, Value.int IntKind.i64 x2, Value.int IntKind.i64 x3] ++ Array.replicate (Try.f115.ntmps - 4) undef, []⟩ H := by kernel_rfl
theorem F115_calls {R : Ending → Heap → Prop} {H : Heap} (x0a : Option Addr) (x0n : Nat) (x0c : Nat) (x1 : Int) (x2 : Int) (x3 : Int) (h : F115 x0a x0n x0c x1 x2 x3 R H) : HCalls Try.prog 115 #[Value.slice x0a x0n x0c, Value.int IntKind.i64 x1, Value.int IntKind.i64 x2, Value.int IntKind.i64 x3] H R :=
  calls_by (.node none .leaf (.node none .leaf (.node none .leaf (.node none (.node none (.node (some ⟨[(9, 3), (10, 3)], [29, 30, 31, 32, 33, 34, 35, 36, 37, 38, 39, 40, 41, 42, 43, 44, 45, 46, 47, 48, 49, 50, 51, 52, 53, 54, 55, 56, 57, 58, 59, 60, 61, 62, 63, 64, 65, 66, 67, 68, 69, 70, 71, 72, 73, 74, 75, 76, 77, 78, 79, 80, 81, 82]⟩) (.node none (.node none (.node none (.node (some ⟨[(9, 3)], [29, 30, 31, 32, 33, 34, 35, 36, 37, 38, 39, 40, 41, 42, 43, 44, 45]⟩) (.node none (.node (some ⟨[(43, 4)], [29, 30, 31, 32, 33, 34, 35, 36, 37, 38, 39, 40, 41, 42]⟩) .leaf .leaf) .leaf) .leaf) .leaf) (.node none (.node none (.node (some ⟨[(10, 3)], [46, 47, 48, 49, 50, 51, 52, 53, 54, 55, 56, 57, 58, 59, 60, 61]⟩) (.node none (.node (some ⟨[(59, 4)], [46, 47, 48, 49, 50, 51, 52, 53, 54, 55, 56, 57, 58]⟩) .leaf .leaf) .leaf) .leaf) .leaf) .leaf)) .leaf) .leaf) .leaf) .leaf)))) Try.func115 rfl (F115_eq x0a x0n x0c x1 x2 x3 R H) h
/-- math/bits.Len32 -/
def F117 (x0 : Int) (R : Ending → Heap → Prop) (H : Heap) : Prop :=
  jn (α := VFH 2) (fun v1 v2 H3 =>
  ∀ v4 v5 v6 v7 : Value,
  dInt IntKind.u32 v1 (fun n8 =>
  dInt IntKind.i64 v2 (fun n9 =>
  jn (α := VFH 2) (fun v10 v11 H12 =>
  ∀ v13 v14 v15 v16 v17 v18 : Value,
  dInt IntKind.u32 v10 (fun n19 =>
  dInt IntKind.i64 v11 (fun n20 =>
  wr IntKind.u8 n19 (fun n21 =>
  ask ((0 : Int) ≤ n21 ∧ n21 < (256 : Int)) (wr IntKind.i64 (byteAt (ByteArray.mk #[UInt8.ofBitVec 0#8, UInt8.ofBitVec 1#8, UInt8.ofBitVec 2#8, UInt8.ofBitVec 2#8, UInt8.ofBitVec 3#8, UInt8.ofBitVec 3#8, UInt8.ofBitVec 3#8, UInt8.ofBitVec 3#8, UInt8.ofBitVec 4#8, UInt8.ofBitVec 4#8, UInt8.ofBitVec 4#8, UInt8.ofBitVec 4#8, UInt8.ofBitVec 4#8, UInt8.ofBitVec 4#8, UInt8.ofBitVec 4#8, UInt8.ofBitVec 4#8, UInt8.ofBitVec 5#8, UInt8.ofBitVec 5#8, UInt8.ofBitVec 5#8, UInt8.ofBitVec 5#8, UInt8.ofBitVec 5#8, UInt8.ofBitVec 5#8, UInt8.ofBitVec 5#8, UInt8.ofBitVec 5#8, UInt8.ofBitVec 5#8, UInt8.ofBitVec 5#8, UInt8.ofBitVec 5#8, UInt8.ofBitVec 5#8, UInt8.ofBitVec 5#8, UInt8.ofBitVec 5#8, UInt8.ofBitVec 5#8, UInt8.ofBitVec 5#8, UInt8.ofBitVec 6#8, UInt8.ofBitVec 6#8, UInt8.ofBitVec 6#8, UInt8.ofBitVec 6#8, UInt8.ofBitVec 6#8, UInt8.ofBitVec 6#8, UInt8.ofBitVec 6#8, UInt8.ofBitVec 6#8, UInt8.ofBitVec 6#8, UInt8.ofBitVec 6#8, UInt8.ofBitVec 6#8, UInt8.ofBitVec 6#8, UInt8.ofBitVec 6#8, UInt8.ofBitVec 6#8, UInt8.ofBitVec 6#8, UInt8.ofBitVec 6#8, UInt8.ofBitVec 6#8, UInt8.ofBitVec 6#8, UInt8.ofBitVec 6#8, UInt8.ofBitVec 6#8, UInt8.ofBitVec 6#8, UInt8.ofBitVec 6#8, UInt8.ofBitVec 6#8, UInt8.ofBitVec 6#8, UInt8.ofBitVec 6#8, UInt8.ofBitVec 6#8, UInt8.ofBitVec 6#8, UInt8.ofBitVec 6#8, UInt8.ofBitVec 6#8, UInt8.ofBitVec 6#8, UInt8.ofBitVec 6#8, UInt8.ofBitVec 6#8, UInt8.ofBitVec 7#8, UInt8.ofBitVec 7#8, UInt8.ofBitVec 7#8, UInt8.ofBitVec 7#8, UInt8.ofBitVec 7#8, UInt8.ofBitVec 7#8, UInt8.ofBitVec 7#8, UInt8.ofBitVec 7#8, UInt8.ofBitVec 7#8, UInt8.ofBitVec 7#8, UInt8.ofBitVec 7#8, UInt8.ofBitVec 7#8, UInt8.ofBitVec 7#8, UInt8.ofBitVec 7#8, UInt8.ofBitVec 7#8, UInt8.ofBitVec 7#8, UInt8.ofBitVec 7#8, UInt8.ofBitVec 7#8, UInt8.ofBitVec 7#8, UInt8.ofBitVec 7#8, UInt8.ofBitVec 7#8, UInt8.ofBitVec 7#8, UInt8.ofBitVec 7#8, UInt8.ofBitVec 7#8, UInt8.ofBitVec 7#8, UInt8.ofBitVec 7#8, UInt8.ofBitVec 7#8, UInt8.ofBitVec 7#8, UInt8.ofBitVec 7#8, UInt8.ofBitVec 7#8, UInt8.ofBitVec 7#8, UInt8.ofBitVec 7#8, UInt8.ofBitVec 7#8, UInt8.ofBitVec 7#8, UInt8.ofBitVec 7#8, UInt8.ofBitVec 7#8, UInt8.ofBitVec 7#8, UInt8.ofBitVec 7#8, UInt8.ofBitVec 7#8, UInt8.ofBitVec 7#8, UInt8.ofBitVec 7#8, UInt8.ofBitVec 7#8, UInt8.ofBitVec 7#8, UInt8.ofBitVec 7#8, UInt8.ofBitVec 7#8, UInt8.ofBitVec 7#8, UInt8.ofBitVec 7#8, UInt8.ofBitVec 7#8, UInt8.ofBitVec 7#8, UInt8.ofBitVec 7#8, UInt8.ofBitVec 7#8, UInt8.ofBitVec 7#8, UInt8.ofBitVec 7#8, UInt8.ofBitVec 7#8, UInt8.ofBitVec 7#8, UInt8.ofBitVec 7#8, UInt8.ofBitVec 7#8, UInt8.ofBitVec 7#8, UInt8.ofBitVec 7#8, UInt8.ofBitVec 7#8, UInt8.ofBitVec 7#8, UInt8.ofBitVec 7#8, UInt8.ofBitVec 7#8, UInt8.ofBitVec 7#8, UInt8.ofBitVec 8#8, UInt8.ofBitVec 8#8, UInt8.ofBitVec 8#8, UInt8.ofBitVec 8#8, UInt8.ofBitVec 8#8, UInt8.ofBitVec 8#8, UInt8.ofBitVec 8#8, UInt8.ofBitVec 8#8, UInt8.ofBitVec 8#8, UInt8.ofBitVec 8#8, UInt8.ofBitVec 8#8, UInt8.ofBitVec 8#8, UInt8.ofBitVec 8#8, UInt8.ofBitVec 8#8, UInt8.ofBitVec 8#8, UInt8.ofBitVec 8#8, UInt8.ofBitVec 8#8, UInt8.ofBitVec 8#8, UInt8.ofBitVec 8#8, UInt8.ofBitVec 8#8, UInt8.ofBitVec 8#8, UInt8.ofBitVec 8#8, UInt8.ofBitVec 8#8, UInt8.ofBitVec 8#8, UInt8.ofBitVec 8#8, UInt8.ofBitVec 8#8, UInt8.ofBitVec 8#8, UInt8.ofBitVec 8#8, UInt8.ofBitVec 8#8, UInt8.ofBitVec 8#8, UInt8.ofBitVec 8#8, UInt8.ofBitVec 8#8, UInt8.ofBitVec 8#8, UInt8.ofBitVec 8#8, UInt8.ofBitVec 8#8, UInt8.ofBitVec 8#8, UInt8.ofBitVec 8#8, UInt8.ofBitVec 8#8, UInt8.ofBitVec 8#8, UInt8.ofBitVec 8#8, UInt8.ofBitVec 8#8, UInt8.ofBitVec 8#8, UInt8.ofBitVec 8#8, UInt8.ofBitVec 8#8, UInt8.ofBitVec 8#8, UInt8.ofBitVec 8#8, UInt8.ofBitVec 8#8, UInt8.ofBitVec 8#8, UInt8.ofBitVec 8#8, UInt8.ofBitVec 8#8, UInt8.ofBitVec 8#8, UInt8.ofBitVec 8#8, UInt8.ofBitVec 8#8, UInt8.ofBitVec 8#8, UInt8.ofBitVec 8#8, UInt8.ofBitVec 8#8, UInt8.ofBitVec 8#8, UInt8.ofBitVec 8#8, UInt8.ofBitVec 8#8, UInt8.ofBitVec 8#8, UInt8.ofBitVec 8#8, UInt8.ofBitVec 8#8, UInt8.ofBitVec 8#8, UInt8.ofBitVec 8#8, UInt8.ofBitVec 8#8, UInt8.ofBitVec 8#8, UInt8.ofBitVec 8#8, UInt8.ofBitVec 8#8, UInt8.ofBitVec 8#8, UInt8.ofBitVec 8#8, UInt8.ofBitVec 8#8, UInt8.ofBitVec 8#8, UInt8.ofBitVec 8#8, UInt8.ofBitVec 8#8, UInt8.ofBitVec 8#8, UInt8.ofBitVec 8#8, UInt8.ofBitVec 8#8, UInt8.ofBitVec 8#8, UInt8.ofBitVec 8#8, UInt8.ofBitVec 8#8, UInt8.ofBitVec 8#8, UInt8.ofBitVec 8#8, UInt8.ofBitVec 8#8, UInt8.ofBitVec 8#8, UInt8.ofBitVec 8#8, UInt8.ofBitVec 8#8, UInt8.ofBitVec 8#8, UInt8.ofBitVec 8#8, UInt8.ofBitVec 8#8, UInt8.ofBitVec 8#8, UInt8.ofBitVec 8#8, UInt8.ofBitVec 8#8, UInt8.ofBitVec 8#8, UInt8.ofBitVec 8#8, UInt8.ofBitVec 8#8, UInt8.ofBitVec 8#8, UInt8.ofBitVec 8#8, UInt8.ofBitVec 8#8, UInt8.ofBitVec 8#8, UInt8.ofBitVec 8#8, UInt8.ofBitVec 8#8, UInt8.ofBitVec 8#8, UInt8.ofBitVec 8#8, UInt8.ofBitVec 8#8, UInt8.ofBitVec 8#8, UInt8.ofBitVec 8#8, UInt8.ofBitVec 8#8, UInt8.ofBitVec 8#8, UInt8.ofBitVec 8#8, UInt8.ofBitVec 8#8, UInt8.ofBitVec 8#8, UInt8.ofBitVec 8#8, UInt8.ofBitVec 8#8, UInt8.ofBitVec 8#8, UInt8.ofBitVec 8#8, UInt8.ofBitVec 8#8, UInt8.ofBitVec 8#8, UInt8.ofBitVec 8#8, UInt8.ofBitVec 8#8, UInt8.ofBitVec 8#8, UInt8.ofBitVec 8#8, UInt8.ofBitVec 8#8, UInt8.ofBitVec 8#8, UInt8.ofBitVec 8#8, UInt8.ofBitVec 8#8, UInt8.ofBitVec 8#8, UInt8.ofBitVec 8#8, UInt8.ofBitVec 8#8]) (Int.toNat n21)) (fun n22 =>
  wr IntKind.i64 (n20 + n22) (fun n23 =>
  R (Ending.returned (Value.int IntKind.i64 n23)) H12))))))) (fun k24 =>
  sB (decide (n8 ≥ 256)) (ask ((0 : Int) ≤ (8 : Int)) (nm (Int.fdiv n8 (2 ^ min (Int.toNat 8) 32)) (fun n25 =>
  wr IntKind.i64 (n9 + 8) (fun n26 =>
  k24 (Value.int IntKind.u32 n25) (Value.int IntKind.i64 n26) H3)))) (k24 (Value.int IntKind.u32 n8) (Value.int IntKind.i64 n9) H3))))) (fun k27 =>
  sB (decide (x0 ≥ 65536)) (ask ((0 : Int) ≤ (16 : Int)) (nm (Int.fdiv x0 (2 ^ min (Int.toNat 16) 32)) (fun n28 =>
  k27 (Value.int IntKind.u32 n28) (Value.int IntKind.i64 16) H))) (k27 (Value.int IntKind.u32 x0) (Value.int IntKind.i64 0) H))
theorem F117_eq (x0 : Int) (R : Ending → Heap → Prop) (H : Heap) : F117 x0 R H = vc Try.prog (codeOf Try.f117) (.node none .leaf (.node (some ⟨[(0, 159), (2, 3)], [3, 4, 5, 6]⟩) .leaf (.node (some ⟨[(0, 159), (2, 3)], [7, 8, 9, 10, 11, 12]⟩) .leaf .leaf))) (postV Try.prog Try.f117 R) ⟨#[Value.int IntKind.u32 x0] ++ Array.replicate (Try.f117.ntmps - 1) undef, []⟩ H := by kernel_rfl
theorem F117_calls {R : Ending → Heap → Prop} {H : Heap} (x0 : Int) (h : F117 x0 R H) : HCalls Try.prog 117 #[Value.int IntKind.u32 x0] H R :=
  calls_by (.node none .leaf (.node (some ⟨[(0, 159), (2, 3)], [3, 4, 5, 6]⟩) .leaf (.node (some ⟨[(0, 159), (2, 3)], [7, 8, 9, 10, 11, 12]⟩) .leaf .leaf))) Try.func117 rfl (F117_eq x0 R H) h
/-- math/bits.Len64 -/
def F118 (x0 : Int) (R : Ending → Heap → Prop) (H : Heap) : Prop :=
  jn (α := VFH 2) (fun v1 v2 H3 =>
  ∀ v4 v5 v6 v7 : Value,
  dInt IntKind.u64 v1 (fun n8 =>
  dInt IntKind.i64 v2 (fun n9 =>
  jn (α := VFH 2) (fun v10 v11 H12 =>
  ∀ v13 v14 v15 v16 v17 v18 : Value,
  dInt IntKind.u64 v10 (fun n19 =>
  dInt IntKind.i64 v11 (fun n20 =>
  jn (α := VFH 2) (fun v21 v22 H23 =>
  ∀ v24 v25 v26 v27 v28 v29 : Value,
  dInt IntKind.u64 v21 (fun n30 =>
  dInt IntKind.i64 v22 (fun n31 =>
  wr IntKind.u8 n30 (fun n32 =>
  ask ((0 : Int) ≤ n32 ∧ n32 < (256 : Int)) (wr IntKind.i64 (byteAt (ByteArray.mk #[UInt8.ofBitVec 0#8, UInt8.ofBitVec 1#8, UInt8.ofBitVec 2#8, UInt8.ofBitVec 2#8, UInt8.ofBitVec 3#8, UInt8.ofBitVec 3#8, UInt8.ofBitVec 3#8, UInt8.ofBitVec 3#8, UInt8.ofBitVec 4#8, UInt8.ofBitVec 4#8, UInt8.ofBitVec 4#8, UInt8.ofBitVec 4#8, UInt8.ofBitVec 4#8, UInt8.ofBitVec 4#8, UInt8.ofBitVec 4#8, UInt8.ofBitVec 4#8, UInt8.ofBitVec 5#8, UInt8.ofBitVec 5#8, UInt8.ofBitVec 5#8, UInt8.ofBitVec 5#8, UInt8.ofBitVec 5#8, UInt8.ofBitVec 5#8, UInt8.ofBitVec 5#8, UInt8.ofBitVec 5#8, UInt8.ofBitVec 5#8, UInt8.ofBitVec 5#8, UInt8.ofBitVec 5#8, UInt8.ofBitVec 5#8, UInt8.ofBitVec 5#8, UInt8.ofBitVec 5#8, UInt8.ofBitVec 5#8, UInt8.ofBitVec 5#8, UInt8.ofBitVec 6#8, UInt8.ofBitVec 6#8, UInt8.ofBitVec 6#8, UInt8.ofBitVec 6#8, UInt8.ofBitVec 6#8, UInt8.ofBitVec 6#8, UInt8.ofBitVec 6#8, UInt8.ofBitVec 6#8, UInt8.ofBitVec 6#8, UInt8.ofBitVec 6#8, UInt8.ofBitVec 6#8, UInt8.ofBitVec 6#8, UInt8.ofBitVec 6#8, UInt8.ofBitVec 6#8, UInt8.ofBitVec 6#8, UInt8.ofBitVec 6#8, UInt8.ofBitVec 6#8, UInt8.ofBitVec 6#8, UInt8.ofBitVec 6#8, UInt8.ofBitVec 6#8, UInt8.ofBitVec 6#8, UInt8.ofBitVec 6#8, UInt8.ofBitVec 6#8, UInt8.ofBitVec 6#8, UInt8.ofBitVec 6#8, UInt8.ofBitVec 6#8, UInt8.ofBitVec 6#8, UInt8.ofBitVec 6#8, UInt8.ofBitVec 6#8, UInt8.ofBitVec 6#8, UInt8.ofBitVec 6#8, UInt8.ofBitVec 6#8, UInt8.ofBitVec 7#8, UInt8.ofBitVec 7#8, UInt8.ofBitVec 7#8, UInt8.ofBitVec 7#8, UInt8.ofBitVec 7#8, UInt8.ofBitVec 7#8, UInt8.ofBitVec 7#8, UInt8.ofBitVec 7#8, UInt8.ofBitVec 7#8, UInt8.ofBitVec 7#8, UInt8.ofBitVec 7#8, UInt8.ofBitVec 7#8, UInt8.ofBitVec 7#8, UInt8.ofBitVec 7#8, UInt8.ofBitVec 7#8, UInt8.ofBitVec 7#8, UInt8.ofBitVec 7#8, UInt8.ofBitVec 7#8, UInt8.ofBitVec 7#8, UInt8.ofBitVec 7#8, UInt8.ofBitVec 7#8, UInt8.ofBitVec 7#8, UInt8.ofBitVec 7#8, UInt8.ofBitVec 7#8, UInt8.ofBitVec 7#8, UInt8.ofBitVec 7#8, UInt8.ofBitVec 7#8, UInt8.ofBitVec 7#8, UInt8.ofBitVec 7#8, UInt8.ofBitVec 7#8, UInt8.ofBitVec 7#8, UInt8.ofBitVec 7#8, UInt8.ofBitVec 7#8, UInt8.ofBitVec 7#8, UInt8.ofBitVec 7#8, UInt8.ofBitVec 7#8, UInt8.ofBitVec 7#8, UInt8.ofBitVec 7#8, UInt8.ofBitVec 7#8, UInt8.ofBitVec 7#8, UInt8.ofBitVec 7#8, UInt8.ofBitVec 7#8, UInt8.ofBitVec 7#8, UInt8.ofBitVec 7#8, UInt8.ofBitVec 7#8, UInt8.ofBitVec 7#8, UInt8.ofBitVec 7#8, UInt8.ofBitVec 7#8, UInt8.ofBitVec 7#8, UInt8.ofBitVec 7#8, UInt8.ofBitVec 7#8, UInt8.ofBitVec 7#8, UInt8.ofBitVec 7#8, UInt8.ofBitVec 7#8, UInt8.ofBitVec 7#8, UInt8.ofBitVec 7#8, UInt8.ofBitVec 7#8, UInt8.ofBitVec 7#8, UInt8.ofBitVec 7#8, UInt8.ofBitVec 7#8, UInt8.ofBitVec 7#8, UInt8.ofBitVec 7#8, UInt8.ofBitVec 7#8, UInt8.ofBitVec 7#8, UInt8.ofBitVec 8#8, UInt8.ofBitVec 8#8, UInt8.ofBitVec 8#8, UInt8.ofBitVec 8#8, UInt8.ofBitVec 8#8, UInt8.ofBitVec 8#8, UInt8.ofBitVec 8#8, UInt8.ofBitVec 8#8, UInt8.ofBitVec 8#8, UInt8.ofBitVec 8#8, UInt8.ofBitVec 8#8, UInt8.ofBitVec 8#8, UInt8.ofBitVec 8#8, UInt8.ofBitVec 8#8, UInt8.ofBitVec 8#8, UInt8.ofBitVec 8#8, UInt8.ofBitVec 8#8, UInt8.ofBitVec 8#8, UInt8.ofBitVec 8#8, UInt8.ofBitVec 8#8, UInt8.ofBitVec 8#8, UInt8.ofBitVec 8#8, UInt8.ofBitVec 8#8, UInt8.ofBitVec 8#8, UInt8.ofBitVec 8#8, UInt8.ofBitVec 8#8, UInt8.ofBitVec 8#8, UInt8.ofBitVec 8#8, UInt8.ofBitVec 8#8, UInt8.ofBitVec 8#8, UInt8.ofBitVec 8#8, UInt8.ofBitVec 8#8, UInt8.ofBitVec 8#8, UInt8.ofBitVec 8#8, UInt8.ofBitVec 8#8, UInt8.ofBitVec 8#8, UInt8.ofBitVec 8#8, UInt8.ofBitVec 8#8, UInt8.ofBitVec 8#8, UInt8.ofBitVec 8#8, UInt8.ofBitVec 8#8, UInt8.ofBitVec 8#8, UInt8.ofBitVec 8#8, UInt8.ofBitVec 8#8, UInt8.ofBitVec 8#8, UInt8.ofBitVec 8#8, UInt8.ofBitVec 8#8, UInt8.ofBitVec 8#8, UInt8.ofBitVec 8#8, UInt8.ofBitVec 8#8, UInt8.ofBitVec 8#8, UInt8.ofBitVec 8#8, UInt8.ofBitVec 8#8, UInt8.ofBitVec 8#8, UInt8.ofBitVec 8#8, UInt8.ofBitVec 8#8, UInt8.ofBitVec 8#8, UInt8.ofBitVec 8#8, UInt8.ofBitVec 8#8, UInt8.ofBitVec 8#8, UInt8.ofBitVec 8#8, UInt8.ofBitVec 8#8, UInt8.ofBitVec 8#8, UInt8.ofBitVec 8#8, UInt8.ofBitVec 8#8, UInt8.ofBitVec 8#8, UInt8.ofBitVec 8#8, UInt8.ofBitVec 8#8, UInt8.ofBitVec 8#8, UInt8.ofBitVec 8#8, UInt8.ofBitVec 8#8, UInt8.ofBitVec 8#8, UInt8.ofBitVec 8#8, UInt8.ofBitVec 8#8, UInt8.ofBitVec 8#8, UInt8.ofBitVec 8#8, UInt8.ofBitVec 8#8, UInt8.ofBitVec 8#8, UInt8.ofBitVec 8#8, UInt8.ofBitVec 8#8, UInt8.ofBitVec 8#8, UInt8.ofBitVec 8#8, UInt8.ofBitVec 8#8, UInt8.ofBitVec 8#8, UInt8.ofBitVec 8#8, UInt8.ofBitVec 8#8, UInt8.ofBitVec 8#8, UInt8.ofBitVec 8#8, UInt8.ofBitVec 8#8, UInt8.ofBitVec 8#8, UInt8.ofBitVec 8#8, UInt8.ofBitVec 8#8, UInt8.ofBitVec 8#8, UInt8.ofBitVec 8#8, UInt8.ofBitVec 8#8, UInt8.ofBitVec 8#8, UInt8.ofBitVec 8#8, UInt8.ofBitVec 8#8, UInt8.ofBitVec 8#8, UInt8.ofBitVec 8#8, UInt8.ofBitVec 8#8, UInt8.ofBitVec 8#8, UInt8.ofBitVec 8#8, UInt8.ofBitVec 8#8, UInt8.ofBitVec 8#8, UInt8.ofBitVec 8#8, UInt8.ofBitVec 8#8, UInt8.ofBitVec 8#8, UInt8.ofBitVec 8#8, UInt8.ofBitVec 8#8, UInt8.ofBitVec 8#8, UInt8.ofBitVec 8#8, UInt8.ofBitVec 8#8, UInt8.ofBitVec 8#8, UInt8.ofBitVec 8#8, UInt8.ofBitVec 8#8, UInt8.ofBitVec 8#8, UInt8.ofBitVec 8#8, UInt8.ofBitVec 8#8, UInt8.ofBitVec 8#8, UInt8.ofBitVec 8#8, UInt8.ofBitVec 8#8, UInt8.ofBitVec 8#8, UInt8.ofBitVec 8#8, UInt8.ofBitVec 8#8, UInt8.ofBitVec 8#8, UInt8.ofBitVec 8#8, UInt8.ofBitVec 8#8]) (Int.toNat n32)) (fun n33 =>
  wr IntKind.i64 (n31 + n33) (fun n34 =>
  R (Ending.returned (Value.int IntKind.i64 n34)) H23))))))) (fun k35 =>
  sB (decide (n19 ≥ 256)) (ask ((0 : Int) ≤ (8 : Int)) (nm (Int.fdiv n19 (2 ^ min (Int.toNat 8) 64)) (fun n36 =>
  wr IntKind.i64 (n20 + 8) (fun n37 =>
  k35 (Value.int IntKind.u64 n36) (Value.int IntKind.i64 n37) H12)))) (k35 (Value.int IntKind.u64 n19) (Value.int IntKind.i64 n20) H12))))) (fun k38 =>
  sB (decide (n8 ≥ 65536)) (ask ((0 : Int) ≤ (16 : Int)) (nm (Int.fdiv n8 (2 ^ min (Int.toNat 16) 64)) (fun n39 =>
  wr IntKind.i64 (n9 + 16) (fun n40 =>
  k38 (Value.int IntKind.u64 n39) (Value.int IntKind.i64 n40) H3)))) (k38 (Value.int IntKind.u64 n8) (Value.int IntKind.i64 n9) H3))))) (fun k41 =>
  sB (decide (x0 ≥ 4294967296)) (ask ((0 : Int) ≤ (32 : Int)) (nm (Int.fdiv x0 (2 ^ min (Int.toNat 32) 64)) (fun n42 =>
  k41 (Value.int IntKind.u64 n42) (Value.int IntKind.i64 32) H))) (k41 (Value.int IntKind.u64 x0) (Value.int IntKind.i64 0) H))
theorem F118_eq (x0 : Int) (R : Ending → Heap → Prop) (H : Heap) : F118 x0 R H = vc Try.prog (codeOf Try.f118) (.node none .leaf (.node (some ⟨[(0, 162), (2, 3)], [3, 4, 5, 6]⟩) .leaf (.node (some ⟨[(0, 162), (2, 3)], [7, 8, 9, 10, 11, 12]⟩) .leaf (.node (some ⟨[(0, 162), (2, 3)], [13, 14, 15, 16, 17, 18]⟩) .leaf .leaf)))) (postV Try.prog Try.f118 R) ⟨#[Value.int IntKind.u64 x0] ++ Array.replicate (Try.f118.ntmps - 1) undef, []⟩ H := by kernel_rfl
theorem F118_calls {R : Ending → Heap → Prop} {H : Heap} (x0 : Int) (h : F118 x0 R H) : HCalls Try.prog 118 #[Value.int IntKind.u64 x0] H R :=
  calls_by (.node none .leaf (.node (some ⟨[(0, 162), (2, 3)], [3, 4, 5, 6]⟩) .leaf (.node (some ⟨[(0, 162), (2, 3)], [7, 8, 9, 10, 11, 12]⟩) .leaf (.node (some ⟨[(0, 162), (2, 3)], [13, 14, 15, 16, 17, 18]⟩) .leaf .leaf)))) Try.func118 rfl (F118_eq x0 R H) h
/-- bollard/word.Put -/
def F119 (x0a : Option Addr) (x0n : Nat) (x0c : Nat) (x1 : Int) (x2 : Int) (x3 : Int) (R : Ending → Heap → Prop) (H : Heap) : Prop :=
  HCalls Try.prog 140 #[Value.slice x0a x0n x0c, Value.int IntKind.i64 x1, Value.int IntKind.i64 x2] H (Sp.retK (fun v1 H2 =>
  dInt IntKind.i64 v1 (fun n3 =>
  jn (α := VFH 1) (fun v4 H5 =>
  ∀ v6 v7 v8 v9 v10 v11 v12 v13 v14 v15 v16 v17 v18 : Value,
  dInt IntKind.i64 v4 (fun n19 =>
  sB (n19 != 0) (R (Ending.returned (Value.tuple #[Value.slice none 0 0, Value.int IntKind.i64 n19])) H5) (semW Try.prog (Builtin.append_ #[48, 48] 48 #[Value.slice none 0 0, Value.slice x0a x0n x0c]) (pnR R) H5 (fun v22 H23 =>
  dSl v22 (fun p24 r25 r26 =>
  ∃ I27 : List Value → Heap → Prop,
  ∃ I28 : List Value → Heap → Nat,
  (I27 ([Value.int IntKind.i64 0]) H23) ∧
  ∀ n29 : Int,
  ∀ v30 v31 v32 v33 v34 v35 v36 v37 v38 v39 v40 v41 v42 v43 : Value,
  ∀ H44 : Heap,
  (I27 ([Value.int IntKind.i64 n29]) H44) →
  sB (decide (n29 < x2)) (wr IntKind.i64 (x1 + n29) (fun n46 =>
  wr IntKind.i64 (8 * n29) (fun n47 =>
  ask ((0 : Int) ≤ n47) (nm (Int.fdiv x3 (2 ^ min (Int.toNat n47) 64)) (fun n48 =>
  wr IntKind.u8 n48 (fun n49 =>
  nz p24 (fun a50 =>
  ask ((0 : Int) ≤ n46 ∧ n46 < (↑r25 : Int)) (st H44 (Addr.add a50 (Int.toNat n46 * 1)) (Value.int IntKind.u8 n49) (fun H51 =>
  wr IntKind.i64 (n29 + 1) (fun n52 =>
  (I27 ([Value.int IntKind.i64 n52]) H51) ∧
  (I28 [Value.int IntKind.i64 n52] H51) < (I28 [Value.int IntKind.i64 n29] H44))))))))))) (R (Ending.returned (Value.tuple #[Value.slice p24 r25 r26, Value.int IntKind.i64 0])) H44)))))) (fun k53 =>
  jn (α := VFH 1) (fun v54 H55 =>
  ∀ v56 v57 v58 v59 v60 v61 v62 v63 v64 v65 v66 v67 : Value,
  dBl v54 (fun b68 =>
  sB b68 (k53 (Value.int IntKind.i64 1) H55) (k53 (Value.int IntKind.i64 n3) H55))) (fun k69 =>
  sB (n3 != 1) (sB (decide (x3 < 0)) (k69 (Value.bool true) H2) (wr IntKind.i64 (8 * x2) (fun n70 =>
  ask ((0 : Int) ≤ n70) (nm (Int.fdiv x3 (2 ^ min (Int.toNat n70) 64)) (fun n71 =>
  k69 (Value.bool (n71 != 0)) H2))))) (k69 (Value.bool false) H2))))) (pnR R))
theorem F119_eq (x0a : Option Addr) (x0n : Nat) (x0c : Nat) (x1 : Int) (x2 : Int) (x3 : Int) (R : Ending → Heap → Prop) (H : Heap) : F119 x0a x0n x0c x1 x2 x3 R H = vc Try.prog (codeOf Try.f119) (.node none .leaf (.node none .leaf (.node (some ⟨[(10, 24)], [17, 18, 19, 20, 21, 22, 23, 24, 25, 26, 27, 28, 29]⟩) (.node (some ⟨[(29, 4)], [17, 18, 19, 20, 21, 22, 23, 24, 25, 26, 27, 28]⟩) .leaf .leaf) (.node none .leaf (.node none .leaf (.node none (.node none .leaf (.node none (.node (some ⟨[(36, 3)], [12, 37, 38, 39, 40, 41, 42, 43, 44, 45, 46, 47, 48, 49]⟩) .leaf .leaf) .leaf)) .leaf)))))) (postV Try.prog Try.f119 R) ⟨#[Value.slice x0a x0n x0c, Value.int IntKind.i64 x1, Value.int IntKind.i64 x2, Value.int IntKind.i64 x3] ++ Array.replicate (Try.f119.ntmps - 4) undef, []⟩ H := by kernel_rfl
theorem F119_calls {R : Ending → Heap → Prop} {H : Heap} (x0a : Option Addr) (x0n : Nat) (x0c : Nat) (x1 : Int) (x2 : Int) (x3 : Int) (h : F119 x0a x0n x0c x1 x2 x3 R H) : HCalls Try.prog 119 #[Value.slice x0a x0n x0c, Value.int IntKind.i64 x1, Value.int IntKind.i64 x2, Value.int IntKind.i64 x3] H R :=
  calls_by (.node none .leaf (.node none .leaf (.node (some ⟨[(10, 24)], [17, 18, 19, 20, 21, 22, 23, 24, 25, 26, 27, 28, 29]⟩) (.node (some ⟨[(29, 4)], [17, 18, 19, 20, 21, 22, 23, 24, 25, 26, 27, 28]⟩) .leaf .leaf) (.node none .leaf (.node none .leaf (.node none (.node none .leaf (.node none (.node (some ⟨[(36, 3)], [12, 37, 38, 39, 40, 41, 42, 43, 44, 45, 46, 47, 48, 49]⟩) .leaf .leaf) .leaf)) .leaf)))))) Try.func119 rfl (F119_eq x0a x0n x0c x1 x2 x3 R H) h
/-- bollard/word.Sum -/
def F120 (x0a : Option Addr) (x0n : Nat) (x0c : Nat) (R : Ending → Heap → Prop) (H : Heap) : Prop :=
  ∃ I1 : List Value → Heap → Prop,
  ∃ I2 : List Value → Heap → Nat,
  (I1 ([Value.int IntKind.i64 1, Value.int IntKind.i64 0, Value.int IntKind.i64 0]) H) ∧
  ∀ n3 : Int,
  ∀ n4 : Int,
  ∀ n5 : Int,
  ∀ v6 v7 v8 v9 v10 v11 v12 v13 v14 v15 v16 v17 v18 v19 : Value,
  ∀ H20 : Heap,
  (I1 ([Value.int IntKind.i64 n3, Value.int IntKind.i64 n4, Value.int IntKind.i64 n5]) H20) →
  sB (decide (n5 < (↑x0n : Int))) (nz x0a (fun a22 =>
  ask ((0 : Int) ≤ n5 ∧ n5 < (↑x0n : Int)) (ld H20 (Addr.add a22 (Int.toNat n5 * 1)) (fun v23 =>
  dInt IntKind.u8 v23 (fun n24 =>
  wr IntKind.i64 n24 (fun n25 =>
  wr IntKind.i64 (n3 + n25) (fun n26 =>
  ask ((65521 : Int) ≠ (0 : Int)) (nm (Int.tmod n26 65521) (fun n27 =>
  wr IntKind.i64 (n4 + n27) (fun n28 =>
  ask ((65521 : Int) ≠ (0 : Int)) (nm (Int.tmod n28 65521) (fun n29 =>
  wr IntKind.i64 (n5 + 1) (fun n30 =>
  (I1 ([Value.int IntKind.i64 n27, Value.int IntKind.i64 n29, Value.int IntKind.i64 n30]) H20) ∧
  (I2 [Value.int IntKind.i64 n27, Value.int IntKind.i64 n29, Value.int IntKind.i64 n30] H20) < (I2 [Value.int IntKind.i64 n3, Value.int IntKind.i64 n4, Value.int IntKind.i64 n5] H20)))))))))))))) (ask ((0 : Int) ≤ (16 : Int)) (nm (IntKind.wrap IntKind.i64 (n4 * 2 ^ min (Int.toNat 16) 64)) (fun n31 =>
  wr IntKind.i64 (n31 + n3) (fun n32 =>
  R (Ending.returned (Value.int IntKind.i64 n32)) H20))))
theorem F120_eq (x0a : Option Addr) (x0n : Nat) (x0c : Nat) (R : Ending → Heap → Prop) (H : Heap) : F120 x0a x0n x0c R H = vc Try.prog (codeOf Try.f120) (.node none .leaf (.node none .leaf (.node none (.node none .leaf (.node none (.node (some ⟨[(3, 3), (4, 3), (9, 3)], [6, 10, 11, 12, 13, 14, 15, 16, 17, 18, 19, 20, 21, 22]⟩) .leaf .leaf) .leaf)) .leaf))) (postV Try.prog Try.f120 R) ⟨#[Value.slice x0a x0n x0c] ++ Array.replicate (Try.f120.ntmps - 1) undef, []⟩ H := by kernel_rfl
theorem F120_calls {R : Ending → Heap → Prop} {H : Heap} (x0a : Option Addr) (x0n : Nat) (x0c : Nat) (h : F120 x0a x0n x0c R H) : HCalls Try.prog 120 #[Value.slice x0a x0n x0c] H R :=
  calls_by (.node none .leaf (.node none .leaf (.node none (.node none .leaf (.node none (.node (some ⟨[(3, 3), (4, 3), (9, 3)], [6, 10, 11, 12, 13, 14, 15, 16, 17, 18, 19, 20, 21, 22]⟩) .leaf .leaf) .leaf)) .leaf))) Try.func120 rfl (F120_eq x0a x0n x0c R H) h
/-- bollard/bits.With -/
def F121 (x0a : Option Addr) (x0n : Nat) (x0c : Nat) (x1 : Int) (x2 : Bool) (R : Ending → Heap → Prop) (H : Heap) : Prop :=
  jn (α := VFH 1) (fun v1 H2 =>
  ∀ v3 v4 v5 v6 v7 v8 v9 v10 : Value,
  dBl v1 (fun b11 =>
  sB b11 (R (Ending.returned (Value.tuple #[Value.slice none 0 0, Value.int IntKind.i64 50])) H2) (semW Try.prog (Builtin.append_ #[48, 48] 48 #[Value.slice none 0 0, Value.slice x0a x0n x0c]) (pnR R) H2 (fun v14 H15 =>
  dSl v14 (fun p16 r17 r18 =>
  ask ((8 : Int) ≠ (0 : Int)) (wr IntKind.i64 (Int.tdiv x1 8) (fun n19 =>
  nz p16 (fun a20 =>
  ask ((0 : Int) ≤ n19 ∧ n19 < (↑r17 : Int)) (ld H15 (Addr.add a20 (Int.toNat n19 * 1)) (fun v21 =>
  dInt IntKind.u8 v21 (fun n22 =>
  ask ((8 : Int) ≠ (0 : Int)) (nm (Int.tmod x1 8) (fun n23 =>
  ask ((0 : Int) ≤ n23) (nm (IntKind.wrap IntKind.u8 (1 * 2 ^ min (Int.toNat n23) 8)) (fun n24 =>
  nm (IntKind.wrap IntKind.u8 (↑(BitVec.toNat (BitVec.ofInt 8 n22 &&& ~~~BitVec.ofInt 8 n24)) : Int)) (fun n25 =>
  nz p16 (fun a26 =>
  ask ((0 : Int) ≤ n19 ∧ n19 < (↑r17 : Int)) (st H15 (Addr.add a26 (Int.toNat n19 * 1)) (Value.int IntKind.u8 n25) (fun H27 =>
  jn (α := VFH 0) (fun H28 =>
  ∀ v29 v30 v31 v32 v33 v34 v35 v36 v37 v38 v39 : Value,
  R (Ending.returned (Value.tuple #[Value.slice p16 r17 r18, Value.int IntKind.i64 0])) H28) (fun k40 =>
  sB x2 (ask ((8 : Int) ≠ (0 : Int)) (wr IntKind.i64 (Int.tdiv x1 8) (fun n41 =>
  nz p16 (fun a42 =>
  ask ((0 : Int) ≤ n41 ∧ n41 < (↑r17 : Int)) (ld H27 (Addr.add a42 (Int.toNat n41 * 1)) (fun v43 =>
  dInt IntKind.u8 v43 (fun n44 =>
  ask ((8 : Int) ≠ (0 : Int)) (nm (Int.tmod x1 8) (fun n45 =>
  ask ((0 : Int) ≤ n45) (nm (IntKind.wrap IntKind.u8 (1 * 2 ^ min (Int.toNat n45) 8)) (fun n46 =>
  nm (IntKind.wrap IntKind.u8 (↑(BitVec.toNat (BitVec.ofInt 8 n44 ||| BitVec.ofInt 8 n46)) : Int)) (fun n47 =>
  nz p16 (fun a48 =>
  ask ((0 : Int) ≤ n41 ∧ n41 < (↑r17 : Int)) (st H27 (Addr.add a48 (Int.toNat n41 * 1)) (Value.int IntKind.u8 n47) (fun H49 =>
  k40 H49))))))))))))))) (k40 H27))))))))))))))))))))) (fun k50 =>
  sB (decide (x1 < 0)) (k50 (Value.bool true) H) (ask ((8 : Int) ≠ (0 : Int)) (wr IntKind.i64 (Int.tdiv x1 8) (fun n51 =>
  k50 (Value.bool (decide (n51 ≥ (↑x0n : Int)))) H))))
theorem F121_eq (x0a : Option Addr) (x0n : Nat) (x0c : Nat) (x1 : Int) (x2 : Bool) (R : Ending → Heap → Prop) (H : Heap) : F121 x0a x0n x0c x1 x2 R H = vc Try.prog (codeOf Try.f121) (.node none .leaf (.node none (.node (some ⟨[(17, 4)], [9, 10, 11, 12, 13, 14, 15, 16]⟩) .leaf .leaf) (.node none .leaf (.node none .leaf (.node (some ⟨[], [30, 31, 32, 33, 34, 35, 36, 37, 38, 39, 40]⟩) .leaf .leaf))))) (postV Try.prog Try.f121 R) ⟨#[Value.slice x0a x0n x0c, Value.int IntKind.i64 x1, Value.bool x2] ++ Array.replicate (Try.f121.ntmps - 3) undef, []⟩ H := by kernel_rfl
theorem F121_calls {R : Ending → Heap → Prop} {H : Heap} (x0a : Option Addr) (x0n : Nat) (x0c : Nat) (x1 : Int) (x2 : Bool) (h : F121 x0a x0n x0c x1 x2 R H) : HCalls Try.prog 121 #[Value.slice x0a x0n x0c, Value.int IntKind.i64 x1, Value.bool x2] H R :=
  calls_by (.node none .leaf (.node none (.node (some ⟨[(17, 4)], [9, 10, 11, 12, 13, 14, 15, 16]⟩) .leaf .leaf) (.node none .leaf (.node none .leaf (.node (some ⟨[], [30, 31, 32, 33, 34, 35, 36, 37, 38, 39, 40]⟩) .leaf .leaf))))) Try.func121 rfl (F121_eq x0a x0n x0c x1 x2 R H) h
end Go.Proofs.Ytmgjdmohmhaemaa.E
