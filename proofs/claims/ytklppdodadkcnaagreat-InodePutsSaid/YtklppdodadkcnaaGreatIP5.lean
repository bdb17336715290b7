/- My own texts, joined. -/
import Derived.KernelRfl
import Derived.Test.YtklppdodadkcnaaGreatProg
import Derived.Test.YtklppdodadkcnaaGreatIP4
/- The functions' forms in the engine's words, printed by my own program. -/
namespace Go.Proofs.YtklppdodadkcnaaGreat.E
open Go Go.Proofs
set_option linter.unusedVariables false
set_option maxRecDepth 100000
/-- bollard/layout.mayDinode -/
def F70 (x0_0 : Value) (x0_1 : Value) (x0_2 : Value) (x0_3 : Value) (x0_4 : Value) (x0_5 : Value) (x0_6 : Value) (x0_7 : Value) (x0_8 : Value) (R : Ending → Heap → Prop) (H : Heap) : Prop :=
  al H (Obj.cells #[x0_0, x0_1, x0_2, x0_3, x0_4, x0_5, x0_6, x0_7, x0_8] 26) (fun r1 H2 =>
  ld H2 (Addr.mk r1 0 none) (fun v3 =>
  dInt IntKind.i64 v3 (fun n4 =>
  sB (n4 == 0) (ld H2 (Addr.mk r1 0 none) (fun v5 =>
  ld H2 (Addr.mk r1 1 none) (fun v6 =>
  ld H2 (Addr.mk r1 2 none) (fun v7 =>
  ld H2 (Addr.mk r1 3 none) (fun v8 =>
  ld H2 (Addr.mk r1 4 none) (fun v9 =>
  ld H2 (Addr.mk r1 5 none) (fun v10 =>
  ld H2 (Addr.mk r1 6 none) (fun v11 =>
  ld H2 (Addr.mk r1 7 none) (fun v12 =>
  ld H2 (Addr.mk r1 8 none) (fun v13 =>
  semW Tryz.prog (eqSem BinOp.eql 26 (Operand.tmp 7) (Operand.tmp 8) (Value.agg #[v5, v6, v7, v8, v9, v10, v11, v12, v13]) (Value.agg #[Value.int IntKind.i64 0, Value.int IntKind.i64 0, Value.int IntKind.i64 0, Value.int IntKind.i64 0, Value.int IntKind.i64 0, Value.int IntKind.i64 0, Value.int IntKind.i64 0, Value.int IntKind.i64 0, Value.int IntKind.i64 0])) (pnR R) H2 (fun v16 H17 =>
  dBl v16 (fun b18 =>
  R (Ending.returned (Value.bool b18)) H17)))))))))))) (sB (n4 == 1) (R (Ending.returned (Value.bool true)) H2) (sB (n4 == 2) (ld H2 (Addr.mk r1 2 none) (fun v19 =>
  dInt IntKind.i64 v19 (fun n20 =>
  ask ((128 : Int) ≠ (0 : Int)) (nm (Int.tmod n20 128) (fun n21 =>
  R (Ending.returned (Value.bool (n21 == 0))) H2))))) (R (Ending.returned (Value.bool false)) H2))))))
theorem F70_eq (x0_0 : Value) (x0_1 : Value) (x0_2 : Value) (x0_3 : Value) (x0_4 : Value) (x0_5 : Value) (x0_6 : Value) (x0_7 : Value) (x0_8 : Value) (R : Ending → Heap → Prop) (H : Heap) : F70 x0_0 x0_1 x0_2 x0_3 x0_4 x0_5 x0_6 x0_7 x0_8 R H = vc Tryz.prog (codeOf Tryz.f70) .leaf (postV Tryz.prog Tryz.f70 R) ⟨#[Value.agg #[x0_0, x0_1, x0_2, x0_3, x0_4, x0_5, x0_6, x0_7, x0_8]] ++ Array.replicate (Tryz.f70.ntmps - 1) undef, []⟩ H := by kernel_rfl
theorem F70_calls {R : Ending → Heap → Prop} {H : Heap} (x0_0 : Value) (x0_1 : Value) (x0_2 : Value) (x0_3 : Value) (x0_4 : Value) (x0_5 : Value) (x0_6 : Value) (x0_7 : Value) (x0_8 : Value) (h : F70 x0_0 x0_1 x0_2 x0_3 x0_4 x0_5 x0_6 x0_7 x0_8 R H) : HCalls Tryz.prog 70 #[Value.agg #[x0_0, x0_1, x0_2, x0_3, x0_4, x0_5, x0_6, x0_7, x0_8]] H R :=
  calls_by (F := F70 x0_0 x0_1 x0_2 x0_3 x0_4 x0_5 x0_6 x0_7 x0_8 R H) .leaf Tryz.func70 rfl (F70_eq x0_0 x0_1 x0_2 x0_3 x0_4 x0_5 x0_6 x0_7 x0_8 R H) h
/-- bollard/layout.fit -/
def F71 (x0a : Option Addr) (x0n : Nat) (x0c : Nat) (R : Ending → Heap → Prop) (H : Heap) : Prop :=
  ∃ I1 : List Value → Heap → Prop,
  ∃ I2 : List Value → Heap → Nat,
  (I1 ([Value.int IntKind.i64 0]) H) ∧
  ∀ n3 : Int,
  ∀ v4 v5 v6 v7 v8 v9 v10 v11 v12 v13 v14 v15 v16 v17 v18 v19 : Value,
  ∀ H20 : Heap,
  (I1 ([Value.int IntKind.i64 n3]) H20) →
  sB (decide (n3 < (↑x0n : Int))) (nz x0a (fun a22 =>
  ask ((0 : Int) ≤ n3 ∧ n3 < (↑x0n : Int)) (ld H20 (Addr.add a22 (Int.toNat n3 * 3)) (fun v23 =>
  ld H20 (Addr.add (Addr.add a22 (Int.toNat n3 * 3)) 1) (fun v24 =>
  ld H20 (Addr.add (Addr.add a22 (Int.toNat n3 * 3)) 2) (fun v25 =>
  al H20 (Obj.cells #[Value.int IntKind.i64 0, Value.int IntKind.i64 0, Value.int IntKind.i64 0] 147) (fun r26 H27 =>
  st H27 (Addr.mk r26 0 none) v23 (fun H28 =>
  st H28 (Addr.mk r26 1 none) v24 (fun H29 =>
  st H29 (Addr.mk r26 2 none) v25 (fun H30 =>
  jn (α := VFH 1) (fun v31 H32 =>
  ∀ v33 v34 v35 v36 v37 v38 v39 v40 v41 : Value,
  dBl v31 (fun b42 =>
  sB b42 (R (Ending.returned (Value.bool false)) H32) (wr IntKind.i64 (n3 + 1) (fun n43 =>
  (I1 ([Value.int IntKind.i64 n43]) H32) ∧
  (I2 [Value.int IntKind.i64 n43] H32) < (I2 [Value.int IntKind.i64 n3] H20))))) (fun k44 =>
  ld H30 (Addr.mk r26 2 none) (fun v45 =>
  dInt IntKind.i64 v45 (fun n46 =>
  sB (decide (n46 < 0)) (k44 (Value.bool true) H30) (ld H30 (Addr.mk r26 2 none) (fun v47 =>
  dInt IntKind.i64 v47 (fun n48 =>
  ld H30 (Addr.mk r26 1 none) (fun v49 =>
  dInt IntKind.i64 v49 (fun n50 =>
  k44 (Value.bool (decide (n48 > n50))) H30)))))))))))))))))) (R (Ending.returned (Value.bool true)) H20)
theorem F71_eq (x0a : Option Addr) (x0n : Nat) (x0c : Nat) (R : Ending → Heap → Prop) (H : Heap) : F71 x0a x0n x0c R H = vc Tryz.prog (codeOf Tryz.f71) (.node none .leaf (.node none (.node none .leaf (.node none (.node (some ⟨[(7, 3)], [2, 4, 8, 9, 10, 11, 12, 13, 14, 15, 16, 17, 18, 19, 20, 21]⟩) (.node none .leaf (.node none .leaf (.node none (.node none (.node none .leaf (.node (some ⟨[(20, 4)], [11, 12, 13, 14, 15, 16, 17, 18, 19]⟩) .leaf .leaf)) .leaf) .leaf))) .leaf) .leaf)) .leaf)) (postV Tryz.prog Tryz.f71 R) ⟨#[Value.slice x0a x0n x0c] ++ Array.replicate (Tryz.f71.ntmps - 1) undef, []⟩ H := by kernel_rfl
theorem F71_calls {R : Ending → Heap → Prop} {H : Heap} (x0a : Option Addr) (x0n : Nat) (x0c : Nat) (h : F71 x0a x0n x0c R H) : HCalls Tryz.prog 71 #[Value.slice x0a x0n x0c] H R :=
  calls_by (F := F71 x0a x0n x0c R H) (.node none .leaf (.node none (.node none .leaf (.node none (.node (some ⟨[(7, 3)], [2, 4, 8, 9, 10, 11, 12, 13, 14, 15, 16, 17, 18, 19, 20, 21]⟩) (.node none .leaf (.node none .leaf (.node none (.node none (.node none .leaf (.node (some ⟨[(20, 4)], [11, 12, 13, 14, 15, 16, 17, 18, 19]⟩) .leaf .leaf)) .leaf) .leaf))) .leaf) .leaf)) .leaf)) Tryz.func71 rfl (F71_eq x0a x0n x0c R H) h
/-- bollard/layout.full -/
def F72 (x0a : Option Addr) (x0n : Nat) (x0c : Nat) (x1 : Int) (R : Ending → Heap → Prop) (H : Heap) : Prop :=
  ask ((0 : Int) ≤ x1 ∧ x1 ≤ x1 ∧ (1 : Int) * x1 ≤ (281474976710656 : Int) ∧ x1 ≤ (9223372036854775807 : Int)) (al H (Obj.cells (List.toArray (rowZ [Value.int IntKind.u8 0] (Int.toNat x1))) 5) (fun r1 H2 =>
  semW Tryz.prog (Builtin.copy_ #[85, 85] 3 #[Value.slice (some (Addr.mk r1 0 none)) (Int.toNat x1) (Int.toNat x1), Value.slice x0a x0n x0c]) (pnR R) H2 (fun v5 H6 =>
  dInt IntKind.i64 v5 (fun n7 =>
  ask ((0 : Int) ≤ (0 : Int) ∧ (0 : Int) ≤ x1 ∧ x1 ≤ x1 ∧ x1 ≤ (↑(Int.toNat x1) : Int)) (R (Ending.returned (Value.slice (slO (some (Addr.mk r1 0 none)) 1 0 x1) (Int.toNat x1 - Int.toNat 0) (Int.toNat x1 - Int.toNat 0))) H6)))))
theorem F72_eq (x0a : Option Addr) (x0n : Nat) (x0c : Nat) (x1 : Int) (R : Ending → Heap → Prop) (H : Heap) : F72 x0a x0n x0c x1 R H = vc Tryz.prog (codeOf Tryz.f72) .leaf (postV Tryz.prog Tryz.f72 R) ⟨#[Value.slice x0a x0n x0c, Value.int IntKind.i64 x1] ++ Array.replicate (Tryz.f72.ntmps - 2) undef, []⟩ H := by kernel_rfl
theorem F72_calls {R : Ending → Heap → Prop} {H : Heap} (x0a : Option Addr) (x0n : Nat) (x0c : Nat) (x1 : Int) (h : F72 x0a x0n x0c x1 R H) : HCalls Tryz.prog 72 #[Value.slice x0a x0n x0c, Value.int IntKind.i64 x1] H R :=
  calls_by (F := F72 x0a x0n x0c x1 R H) .leaf Tryz.func72 rfl (F72_eq x0a x0n x0c x1 R H) h
/-- bollard/layout.fields -/
def F73 (x0a : Option Addr) (x0n : Nat) (x0c : Nat) (x1a : Option Addr) (x1n : Nat) (x1c : Nat) (R : Ending → Heap → Prop) (H : Heap) : Prop :=
  ∃ I1 : List Value → Heap → Prop,
  ∃ I2 : List Value → Heap → Nat,
  (I1 ([Value.slice x0a x0n x0c, Value.int IntKind.i64 0]) H) ∧
  ∀ p3 : Option Addr,
  ∀ r4 : Nat,
  ∀ r5 : Nat,
  ∀ n6 : Int,
  ∀ v7 v8 v9 v10 v11 v12 v13 v14 v15 v16 v17 v18 v19 v20 v21 v22 v23 v24 v25 v26 v27 : Value,
  ∀ H28 : Heap,
  (I1 ([Value.slice p3 r4 r5, Value.int IntKind.i64 n6]) H28) →
  sB (decide (n6 < (↑x1n : Int))) (nz x1a (fun a30 =>
  ask ((0 : Int) ≤ n6 ∧ n6 < (↑x1n : Int)) (ld H28 (Addr.add a30 (Int.toNat n6 * 3)) (fun v31 =>
  ld H28 (Addr.add (Addr.add a30 (Int.toNat n6 * 3)) 1) (fun v32 =>
  ld H28 (Addr.add (Addr.add a30 (Int.toNat n6 * 3)) 2) (fun v33 =>
  al H28 (Obj.cells #[Value.int IntKind.i64 0, Value.int IntKind.i64 0, Value.int IntKind.i64 0] 147) (fun r34 H35 =>
  st H35 (Addr.mk r34 0 none) v31 (fun H36 =>
  st H36 (Addr.mk r34 1 none) v32 (fun H37 =>
  st H37 (Addr.mk r34 2 none) v33 (fun H38 =>
  ld H38 (Addr.mk r34 0 none) (fun v39 =>
  dInt IntKind.i64 v39 (fun n40 =>
  ∃ I41 : List Value → Heap → Prop,
  ∃ I42 : List Value → Heap → Nat,
  (I41 ([Value.slice p3 r4 r5, Value.int IntKind.i64 0]) H38) ∧
  ∀ p43 : Option Addr,
  ∀ r44 : Nat,
  ∀ r45 : Nat,
  ∀ n46 : Int,
  ∀ v47 v48 v49 v50 v51 v52 v53 v54 v55 v56 v57 v58 v59 : Value,
  ∀ H60 : Heap,
  (I41 ([Value.slice p43 r44 r45, Value.int IntKind.i64 n46]) H60) →
  sB (decide (n46 < n40)) (ld H60 (Addr.mk r34 2 none) (fun v62 =>
  dInt IntKind.i64 v62 (fun n63 =>
  wr IntKind.i64 (8 * n46) (fun n64 =>
  ask ((0 : Int) ≤ n64) (nm (Int.fdiv n63 (2 ^ min (Int.toNat n64) 64)) (fun n65 =>
  wr IntKind.u8 n65 (fun n66 =>
  al H60 (Obj.cells #[Value.int IntKind.u8 n66] 5) (fun r67 H68 =>
  semW Tryz.prog (Builtin.append_ #[85, 85] 85 #[Value.slice p43 r44 r45, Value.slice (some (Addr.mk r67 0 none)) 1 1]) (pnR R) H68 (fun v71 H72 =>
  dSl v71 (fun p73 r74 r75 =>
  wr IntKind.i64 (n46 + 1) (fun n76 =>
  (I41 ([Value.slice p73 r74 r75, Value.int IntKind.i64 n76]) H72) ∧
  (I42 [Value.slice p73 r74 r75, Value.int IntKind.i64 n76] H72) < (I42 [Value.slice p43 r44 r45, Value.int IntKind.i64 n46] H60)))))))))))) (wr IntKind.i64 (n6 + 1) (fun n77 =>
  (I1 ([Value.slice p43 r44 r45, Value.int IntKind.i64 n77]) H60) ∧
  (I2 [Value.slice p43 r44 r45, Value.int IntKind.i64 n77] H60) < (I2 [Value.slice p3 r4 r5, Value.int IntKind.i64 n6] H28))))))))))))))) (R (Ending.returned (Value.slice p3 r4 r5)) H28)
theorem F73_eq (x0a : Option Addr) (x0n : Nat) (x0c : Nat) (x1a : Option Addr) (x1n : Nat) (x1c : Nat) (R : Ending → Heap → Prop) (H : Heap) : F73 x0a x0n x0c x1a x1n x1c R H = vc Tryz.prog (codeOf Tryz.f73) (.node none .leaf (.node none (.node none .leaf (.node none (.node (some ⟨[(0, 85), (10, 3)], [6, 7, 11, 12, 13, 14, 15, 16, 17, 18, 19, 20, 21, 22, 23, 24, 25, 26, 27, 28, 29]⟩) (.node none .leaf (.node none .leaf (.node none (.node none (.node none .leaf (.node none .leaf (.node none (.node (some ⟨[(0, 85), (16, 3)], [7, 17, 18, 19, 20, 21, 22, 23, 24, 25, 26, 27, 28]⟩) .leaf .leaf) .leaf))) .leaf) .leaf))) .leaf) .leaf)) .leaf)) (postV Tryz.prog Tryz.f73 R) ⟨#[Value.slice x0a x0n x0c, Value.slice x1a x1n x1c] ++ Array.replicate (Tryz.f73.ntmps - 2) undef, []⟩ H := by kernel_rfl
theorem F73_calls {R : Ending → Heap → Prop} {H : Heap} (x0a : Option Addr) (x0n : Nat) (x0c : Nat) (x1a : Option Addr) (x1n : Nat) (x1c : Nat) (h : F73 x0a x0n x0c x1a x1n x1c R H) : HCalls Tryz.prog 73 #[Value.slice x0a x0n x0c, Value.slice x1a x1n x1c] H R :=
  calls_by (F := F73 x0a x0n x0c x1a x1n x1c R H) (.node none .leaf (.node none (.node none .leaf (.node none (.node (some ⟨[(0, 85), (10, 3)], [6, 7, 11, 12, 13, 14, 15, 16, 17, 18, 19, 20, 21, 22, 23, 24, 25, 26, 27, 28, 29]⟩) (.node none .leaf (.node none .leaf (.node none (.node none (.node none .leaf (.node none .leaf (.node none (.node (some ⟨[(0, 85), (16, 3)], [7, 17, 18, 19, 20, 21, 22, 23, 24, 25, 26, 27, 28]⟩) .leaf .leaf) .leaf))) .leaf) .leaf))) .leaf) .leaf)) .leaf)) Tryz.func73 rfl (F73_eq x0a x0n x0c x1a x1n x1c R H) h
/-- bollard/word.Seal -/
def F74 (x0a : Option Addr) (x0n : Nat) (x0c : Nat) (R : Ending → Heap → Prop) (H : Heap) : Prop :=
  wr IntKind.i64 ((↑x0n : Int) - 4) (fun n1 =>
  sB (decide (n1 < 0)) (R (Ending.returned (Value.tuple #[Value.slice none 0 0, Value.int IntKind.i64 10])) H) (ask ((0 : Int) ≤ (0 : Int) ∧ (0 : Int) ≤ n1 ∧ n1 ≤ (↑x0c : Int) ∧ (↑x0c : Int) ≤ (↑x0c : Int)) (HCalls Tryz.prog 128 #[Value.slice (slO x0a 1 0 (↑x0c : Int)) (Int.toNat n1 - Int.toNat 0) (Int.toNat (↑x0c : Int) - Int.toNat 0)] H (Sp.retK (fun v2 H3 =>
  dInt IntKind.i64 v2 (fun n4 =>
  HCalls Tryz.prog 133 #[Value.slice x0a x0n x0c, Value.int IntKind.i64 n1, Value.int IntKind.i64 4, Value.int IntKind.i64 n4] H3 (Sp.retK (fun v5 H6 =>
  dT 2 v5 (fun v7 v8 =>
  dSl v7 (fun p9 r10 r11 =>
  dInt IntKind.i64 v8 (fun n12 =>
  R (Ending.returned (Value.tuple #[Value.slice p9 r10 r11, Value.int IntKind.i64 n12])) H6)))) (pnR R)))) (pnR R)))))
theorem F74_eq (x0a : Option Addr) (x0n : Nat) (x0c : Nat) (R : Ending → Heap → Prop) (H : Heap) : F74 x0a x0n x0c R H = vc Tryz.prog (codeOf Tryz.f74) .leaf (postV Tryz.prog Tryz.f74 R) ⟨#[Value.slice x0a x0n x0c] ++ Array.replicate (Tryz.f74.ntmps - 1) undef, []⟩ H := by kernel_rfl
theorem F74_calls {R : Ending → Heap → Prop} {H : Heap} (x0a : Option Addr) (x0n : Nat) (x0c : Nat) (h : F74 x0a x0n x0c R H) : HCalls Tryz.prog 74 #[Value.slice x0a x0n x0c] H R :=
  calls_by (F := F74 x0a x0n x0c R H) .leaf Tryz.func74 rfl (F74_eq x0a x0n x0c R H) h
/-- (*bollard/volume.Volume).has -/
def F75 (x0 : Option Addr) (x1 : Int) (R : Ending → Heap → Prop) (H : Heap) : Prop :=
  sB (decide (x1 ≥ 0)) (nz x0 (fun a1 =>
  ld H (Addr.add a1 2) (fun v2 =>
  dPtr v2 (fun p3 =>
  HCalls Tryz.prog 89 #[Value.pointer p3] H (Sp.retK (fun v4 H5 =>
  dInt IntKind.i64 v4 (fun n6 =>
  R (Ending.returned (Value.bool (decide (x1 < n6)))) H5)) (pnR R)))))) (R (Ending.returned (Value.bool false)) H)
theorem F75_eq (x0 : Option Addr) (x1 : Int) (R : Ending → Heap → Prop) (H : Heap) : F75 x0 x1 R H = vc Tryz.prog (codeOf Tryz.f75) .leaf (postV Tryz.prog Tryz.f75 R) ⟨#[Value.pointer x0, Value.int IntKind.i64 x1] ++ Array.replicate (Tryz.f75.ntmps - 2) undef, []⟩ H := by kernel_rfl
theorem F75_calls {R : Ending → Heap → Prop} {H : Heap} (x0 : Option Addr) (x1 : Int) (h : F75 x0 x1 R H) : HCalls Tryz.prog 75 #[Value.pointer x0, Value.int IntKind.i64 x1] H R :=
  calls_by (F := F75 x0 x1 R H) .leaf Tryz.func75 rfl (F75_eq x0 x1 R H) h
/-- (*bollard/patch.Set).Add -/
def F76 (x0 : Option Addr) (x1 : Int) (x2 : Int) (x3a : Option Addr) (x3n : Nat) (x3c : Nat) (x4a : Option Addr) (x4n : Nat) (x4c : Nat) (R : Ending → Heap → Prop) (H : Heap) : Prop :=
  al H (Obj.cells #[Value.pointer x0] 70) (fun r1 H2 =>
  ld H2 (Addr.mk r1 0 none) (fun v3 =>
  dPtr v3 (fun p4 =>
  HCalls Tryz.prog 134 #[Value.pointer p4] H2 (Sp.retK (fun v5 H6 =>
  dBl v5 (fun b7 =>
  sB (!b7) (R (Ending.returned (Value.tuple #[Value.int IntKind.i64 0, Value.int IntKind.i64 2])) H6) (HCalls Tryz.prog 135 #[Value.int IntKind.i64 x1, Value.int IntKind.i64 x2, Value.slice x3a x3n x3c] H6 (Sp.retK (fun v8 H9 =>
  dBl v8 (fun b10 =>
  sB (!b10) (R (Ending.returned (Value.tuple #[Value.int IntKind.i64 0, Value.int IntKind.i64 1])) H9) (HCalls Tryz.prog 136 #[Value.slice x4a x4n x4c, Value.func (Fn.func 137) #[] #[Value.pointer (some (Addr.mk r1 0 none))]] H9 (Sp.retK (fun v11 H12 =>
  dBl v11 (fun b13 =>
  sB b13 (R (Ending.returned (Value.tuple #[Value.int IntKind.i64 0, Value.int IntKind.i64 70])) H12) (ld H12 (Addr.mk r1 0 none) (fun v14 =>
  dPtr v14 (fun p15 =>
  nz p15 (fun a16 =>
  ld H12 a16 (fun v17 =>
  dInt IntKind.i64 v17 (fun n18 =>
  wr IntKind.i64 (n18 + 1) (fun n19 =>
  (HCalls Tryz.prog 139 #[Value.slice x3a x3n x3c] H12 (Sp.retK (fun v20 H21 =>
  dSl v20 (fun p22 r23 r24 =>
  (ld H21 a16 (fun v25 =>
  dInt IntKind.i64 v25 (fun n26 =>
  (Value.int IntKind.i64 n26) = (Value.int IntKind.i64 n18)))) ∧
  (ld H21 (Addr.mk r1 0 none) (fun v27 =>
  dPtr v27 (fun p28 =>
  (Value.pointer p28) = (Value.pointer p15)))) ∧
  al H21 (Obj.cells #[Value.int IntKind.i64 0, Value.int IntKind.i64 0, Value.int IntKind.i64 0, Value.slice none 0 0, Value.slice none 0 0] 220) (fun r29 H30 =>
  (ld H30 a16 (fun v31 =>
  dInt IntKind.i64 v31 (fun n32 =>
  (Value.int IntKind.i64 n32) = (Value.int IntKind.i64 n18)))) ∧
  (ld H30 (Addr.mk r1 0 none) (fun v33 =>
  dPtr v33 (fun p34 =>
  (Value.pointer p34) = (Value.pointer p15)))) ∧
  st H30 (Addr.mk r29 0 none) (Value.int IntKind.i64 n19) (fun H35 =>
  st H35 (Addr.mk r29 1 none) (Value.int IntKind.i64 x1) (fun H36 =>
  st H36 (Addr.mk r29 2 none) (Value.int IntKind.i64 x2) (fun H37 =>
  st H37 (Addr.mk r29 3 none) (Value.slice p22 r23 r24) (fun H38 =>
  st H38 (Addr.mk r29 4 none) (Value.slice none 0 0) (fun H39 =>
  HCalls Tryz.prog 140 #[Value.slice x4a x4n x4c] H39 (Sp.retK (fun v40 H41 =>
  dSl v40 (fun p42 r43 r44 =>
  ld H41 (Addr.mk r1 0 none) (fun v45 =>
  dPtr v45 (fun p46 =>
  nz p46 (fun a47 =>
  ld H41 (Addr.add a47 2) (fun v48 =>
  dMap v48 (fun p49 =>
  semW Tryz.prog (Instr.range 216 (Value.map p49)) (pnR R) H41 (fun v52 H53 =>
  ∃ I54 : List Value → Heap → Prop,
  ∃ I55 : List Value → Heap → Nat,
  (I54 ([Value.slice p42 r43 r44]) H53) ∧
  ∀ p56 : Option Addr,
  ∀ r57 : Nat,
  ∀ r58 : Nat,
  ∀ v59 v60 v61 v62 v63 v64 v65 v66 v67 v68 v69 v70 v71 v72 : Value,
  ∀ H73 : Heap,
  (I54 ([Value.slice p56 r57 r58]) H73) →
  semW Tryz.prog (Instr.next v52 false 0) (pnR R) H73 (fun v77 H78 =>
  dNx v77 (ld H78 (Addr.mk r1 0 none) (fun v79 =>
  dPtr v79 (fun p80 =>
  HCalls Tryz.prog 142 #[Value.pointer p80, Value.slice p56 r57 r58] H78 (Sp.retK (fun v81 H82 =>
  dSl v81 (fun p83 r84 r85 =>
  st H82 (Addr.mk r29 4 none) (Value.slice p83 r84 r85) (fun H86 =>
  ld H86 (Addr.mk r1 0 none) (fun v87 =>
  dPtr v87 (fun p88 =>
  nz p88 (fun a89 =>
  ld H86 a89 (fun v90 =>
  dInt IntKind.i64 v90 (fun n91 =>
  wr IntKind.i64 (n91 + 1) (fun n92 =>
  nz p88 (fun a93 =>
  st H86 a93 (Value.int IntKind.i64 n92) (fun H94 =>
  ld H94 (Addr.mk r1 0 none) (fun v95 =>
  dPtr v95 (fun p96 =>
  nz p96 (fun a97 =>
  ld H94 (Addr.add a97 2) (fun v98 =>
  dMap v98 (fun p99 =>
  ld H94 (Addr.mk r1 0 none) (fun v100 =>
  dPtr v100 (fun p101 =>
  nz p101 (fun a102 =>
  ld H94 a102 (fun v103 =>
  dInt IntKind.i64 v103 (fun n104 =>
  ld H94 (Addr.mk r29 0 none) (fun v105 =>
  ld H94 (Addr.mk r29 1 none) (fun v106 =>
  ld H94 (Addr.mk r29 2 none) (fun v107 =>
  ld H94 (Addr.mk r29 3 none) (fun v108 =>
  ld H94 (Addr.mk r29 4 none) (fun v109 =>
  semW Tryz.prog (Instr.mapUpdate 216 (Value.map p99) (Value.int IntKind.i64 n104) (Value.agg #[v105, v106, v107, v108, v109])) nopR H94 (fun x112 H113 =>
  ld H113 (Addr.mk r1 0 none) (fun v114 =>
  dPtr v114 (fun p115 =>
  nz p115 (fun a116 =>
  ld H113 a116 (fun v117 =>
  dInt IntKind.i64 v117 (fun n118 =>
  R (Ending.returned (Value.tuple #[Value.int IntKind.i64 n118, Value.int IntKind.i64 0])) H113)))))))))))))))))))))))))))))))) (pnR R))))) (fun v121 v122 =>
  semW Tryz.prog (Instr.entry v52) (pnR R) H78 (fun v125 H126 =>
  dT 2 v125 (fun v127 v128 =>
  dInt IntKind.i64 v127 (fun n129 =>
  dA 5 v128 (fun v130 v131 v132 v133 v134 =>
  al H126 (Obj.cells #[Value.int IntKind.i64 0, Value.int IntKind.i64 0, Value.int IntKind.i64 0, Value.slice none 0 0, Value.slice none 0 0] 220) (fun r135 H136 =>
  st H136 (Addr.mk r135 0 none) v130 (fun H137 =>
  st H137 (Addr.mk r135 1 none) v131 (fun H138 =>
  st H138 (Addr.mk r135 2 none) v132 (fun H139 =>
  st H139 (Addr.mk r135 3 none) v133 (fun H140 =>
  st H140 (Addr.mk r135 4 none) v134 (fun H141 =>
  ld H141 (Addr.mk r29 0 none) (fun v142 =>
  ld H141 (Addr.mk r29 1 none) (fun v143 =>
  ld H141 (Addr.mk r29 2 none) (fun v144 =>
  ld H141 (Addr.mk r29 3 none) (fun v145 =>
  ld H141 (Addr.mk r29 4 none) (fun v146 =>
  ld H141 (Addr.mk r135 0 none) (fun v147 =>
  ld H141 (Addr.mk r135 1 none) (fun v148 =>
  ld H141 (Addr.mk r135 2 none) (fun v149 =>
  ld H141 (Addr.mk r135 3 none) (fun v150 =>
  ld H141 (Addr.mk r135 4 none) (fun v151 =>
  HCalls Tryz.prog 141 #[Value.agg #[v142, v143, v144, v145, v146], Value.agg #[v147, v148, v149, v150, v151]] H141 (Sp.retK (fun v152 H153 =>
  dBl v152 (fun b154 =>
  sB b154 (al H153 (Obj.cells #[Value.int IntKind.i64 n129] 3) (fun r155 H156 =>
  semW Tryz.prog (Builtin.append_ #[45, 45] 45 #[Value.slice p56 r57 r58, Value.slice (some (Addr.mk r155 0 none)) 1 1]) (pnR R) H156 (fun v159 H160 =>
  dSl v159 (fun p161 r162 r163 =>
  (I54 ([Value.slice p161 r162 r163]) H160) ∧
  (I55 [Value.slice p161 r162 r163] H160) < (I55 [Value.slice p56 r57 r58] H73))))) ((I54 ([Value.slice p56 r57 r58]) H153) ∧
  (I55 [Value.slice p56 r57 r58] H153) < (I55 [Value.slice p56 r57 r58] H73)))) (pnR R)))))))))))))))))))))))))))))))) (pnR R)))))))))) nopR)) ∧
  al H12 (Obj.cells #[Value.int IntKind.i64 0, Value.int IntKind.i64 0, Value.int IntKind.i64 0, Value.slice none 0 0, Value.slice none 0 0] 220) (fun r170 H171 =>
  (ld H171 a16 (fun v172 =>
  dInt IntKind.i64 v172 (fun n173 =>
  (Value.int IntKind.i64 n173) = (Value.int IntKind.i64 n18)))) ∧
  (ld H171 (Addr.mk r1 0 none) (fun v174 =>
  dPtr v174 (fun p175 =>
  (Value.pointer p175) = (Value.pointer p15)))) ∧
  HCalls Tryz.prog 139 #[Value.slice x3a x3n x3c] H171 (Sp.retK (fun v176 H177 =>
  dSl v176 (fun p178 r179 r180 =>
  (ld H177 a16 (fun v181 =>
  dInt IntKind.i64 v181 (fun n182 =>
  (Value.int IntKind.i64 n182) = (Value.int IntKind.i64 n18)))) ∧
  (ld H177 (Addr.mk r1 0 none) (fun v183 =>
  dPtr v183 (fun p184 =>
  (Value.pointer p184) = (Value.pointer p15)))) ∧
  st H177 (Addr.mk r170 0 none) (Value.int IntKind.i64 n19) (fun H185 =>
  st H185 (Addr.mk r170 1 none) (Value.int IntKind.i64 x1) (fun H186 =>
  st H186 (Addr.mk r170 2 none) (Value.int IntKind.i64 x2) (fun H187 =>
  st H187 (Addr.mk r170 3 none) (Value.slice p178 r179 r180) (fun H188 =>
  st H188 (Addr.mk r170 4 none) (Value.slice none 0 0) (fun H189 =>
  HCalls Tryz.prog 140 #[Value.slice x4a x4n x4c] H189 (Sp.retK (fun v190 H191 =>
  dSl v190 (fun p192 r193 r194 =>
  ld H191 (Addr.mk r1 0 none) (fun v195 =>
  dPtr v195 (fun p196 =>
  nz p196 (fun a197 =>
  ld H191 (Addr.add a197 2) (fun v198 =>
  dMap v198 (fun p199 =>
  semW Tryz.prog (Instr.range 216 (Value.map p199)) (pnR R) H191 (fun v202 H203 =>
  ∃ I204 : List Value → Heap → Prop,
  ∃ I205 : List Value → Heap → Nat,
  (I204 ([Value.slice p192 r193 r194]) H203) ∧
  ∀ p206 : Option Addr,
  ∀ r207 : Nat,
  ∀ r208 : Nat,
  ∀ v209 v210 v211 v212 v213 v214 v215 v216 v217 v218 v219 v220 v221 v222 : Value,
  ∀ H223 : Heap,
  (I204 ([Value.slice p206 r207 r208]) H223) →
  semW Tryz.prog (Instr.next v202 false 0) (pnR R) H223 (fun v227 H228 =>
  dNx v227 (ld H228 (Addr.mk r1 0 none) (fun v229 =>
  dPtr v229 (fun p230 =>
  HCalls Tryz.prog 142 #[Value.pointer p230, Value.slice p206 r207 r208] H228 (Sp.retK (fun v231 H232 =>
  dSl v231 (fun p233 r234 r235 =>
  st H232 (Addr.mk r170 4 none) (Value.slice p233 r234 r235) (fun H236 =>
  ld H236 (Addr.mk r1 0 none) (fun v237 =>
  dPtr v237 (fun p238 =>
  nz p238 (fun a239 =>
  ld H236 a239 (fun v240 =>
  dInt IntKind.i64 v240 (fun n241 =>
  wr IntKind.i64 (n241 + 1) (fun n242 =>
  nz p238 (fun a243 =>
  st H236 a243 (Value.int IntKind.i64 n242) (fun H244 =>
  ld H244 (Addr.mk r1 0 none) (fun v245 =>
  dPtr v245 (fun p246 =>
  nz p246 (fun a247 =>
  ld H244 (Addr.add a247 2) (fun v248 =>
  dMap v248 (fun p249 =>
  ld H244 (Addr.mk r1 0 none) (fun v250 =>
  dPtr v250 (fun p251 =>
  nz p251 (fun a252 =>
  ld H244 a252 (fun v253 =>
  dInt IntKind.i64 v253 (fun n254 =>
  ld H244 (Addr.mk r170 0 none) (fun v255 =>
  ld H244 (Addr.mk r170 1 none) (fun v256 =>
  ld H244 (Addr.mk r170 2 none) (fun v257 =>
  ld H244 (Addr.mk r170 3 none) (fun v258 =>
  ld H244 (Addr.mk r170 4 none) (fun v259 =>
  semW Tryz.prog (Instr.mapUpdate 216 (Value.map p249) (Value.int IntKind.i64 n254) (Value.agg #[v255, v256, v257, v258, v259])) nopR H244 (fun x262 H263 =>
  ld H263 (Addr.mk r1 0 none) (fun v264 =>
  dPtr v264 (fun p265 =>
  nz p265 (fun a266 =>
  ld H263 a266 (fun v267 =>
  dInt IntKind.i64 v267 (fun n268 =>
  R (Ending.returned (Value.tuple #[Value.int IntKind.i64 n268, Value.int IntKind.i64 0])) H263)))))))))))))))))))))))))))))))) (pnR R))))) (fun v271 v272 =>
  semW Tryz.prog (Instr.entry v202) (pnR R) H228 (fun v275 H276 =>
  dT 2 v275 (fun v277 v278 =>
  dInt IntKind.i64 v277 (fun n279 =>
  dA 5 v278 (fun v280 v281 v282 v283 v284 =>
  al H276 (Obj.cells #[Value.int IntKind.i64 0, Value.int IntKind.i64 0, Value.int IntKind.i64 0, Value.slice none 0 0, Value.slice none 0 0] 220) (fun r285 H286 =>
  st H286 (Addr.mk r285 0 none) v280 (fun H287 =>
  st H287 (Addr.mk r285 1 none) v281 (fun H288 =>
  st H288 (Addr.mk r285 2 none) v282 (fun H289 =>
  st H289 (Addr.mk r285 3 none) v283 (fun H290 =>
  st H290 (Addr.mk r285 4 none) v284 (fun H291 =>
  ld H291 (Addr.mk r170 0 none) (fun v292 =>
  ld H291 (Addr.mk r170 1 none) (fun v293 =>
  ld H291 (Addr.mk r170 2 none) (fun v294 =>
  ld H291 (Addr.mk r170 3 none) (fun v295 =>
  ld H291 (Addr.mk r170 4 none) (fun v296 =>
  ld H291 (Addr.mk r285 0 none) (fun v297 =>
  ld H291 (Addr.mk r285 1 none) (fun v298 =>
  ld H291 (Addr.mk r285 2 none) (fun v299 =>
  ld H291 (Addr.mk r285 3 none) (fun v300 =>
  ld H291 (Addr.mk r285 4 none) (fun v301 =>
  HCalls Tryz.prog 141 #[Value.agg #[v292, v293, v294, v295, v296], Value.agg #[v297, v298, v299, v300, v301]] H291 (Sp.retK (fun v302 H303 =>
  dBl v302 (fun b304 =>
  sB b304 (al H303 (Obj.cells #[Value.int IntKind.i64 n279] 3) (fun r305 H306 =>
  semW Tryz.prog (Builtin.append_ #[45, 45] 45 #[Value.slice p206 r207 r208, Value.slice (some (Addr.mk r305 0 none)) 1 1]) (pnR R) H306 (fun v309 H310 =>
  dSl v309 (fun p311 r312 r313 =>
  (I204 ([Value.slice p311 r312 r313]) H310) ∧
  (I205 [Value.slice p311 r312 r313] H310) < (I205 [Value.slice p206 r207 r208] H223))))) ((I204 ([Value.slice p206 r207 r208]) H303) ∧
  (I205 [Value.slice p206 r207 r208] H303) < (I205 [Value.slice p206 r207 r208] H223)))) (pnR R)))))))))))))))))))))))))))))))) (pnR R))))))))) nopR))))))))))) (pnR R))))) (pnR R))))) (pnR R)))))
theorem F76_eq (x0 : Option Addr) (x1 : Int) (x2 : Int) (x3a : Option Addr) (x3n : Nat) (x3c : Nat) (x4a : Option Addr) (x4n : Nat) (x4c : Nat) (R : Ending → Heap → Prop) (H : Heap) : F76 x0 x1 x2 x3a x3n x3c x4a x4n x4c R H = vc Tryz.prog (codeOf Tryz.f76) (.node none .leaf (.node none .leaf (.node none .leaf (.node none .leaf (.node none (.node none .leaf (.node none (.node (some ⟨[(13, 45)], [14, 15, 47, 48, 49, 50, 51, 52, 53, 54, 55, 56, 57, 58]⟩) .leaf .leaf) .leaf)) .leaf))))) (postV Tryz.prog Tryz.f76 R) ⟨#[Value.pointer x0, Value.int IntKind.i64 x1, Value.int IntKind.i64 x2, Value.slice x3a x3n x3c, Value.slice x4a x4n x4c] ++ Array.replicate (Tryz.f76.ntmps - 5) undef, []⟩ H := by kernel_rfl
theorem F76_calls {R : Ending → Heap → Prop} {H : Heap} (x0 : Option Addr) (x1 : Int) (x2 : Int) (x3a : Option Addr) (x3n : Nat) (x3c : Nat) (x4a : Option Addr) (x4n : Nat) (x4c : Nat) (h : F76 x0 x1 x2 x3a x3n x3c x4a x4n x4c R H) : HCalls Tryz.prog 76 #[Value.pointer x0, Value.int IntKind.i64 x1, Value.int IntKind.i64 x2, Value.slice x3a x3n x3c, Value.slice x4a x4n x4c] H R :=
  calls_by (F := F76 x0 x1 x2 x3a x3n x3c x4a x4n x4c R H) (.node none .leaf (.node none .leaf (.node none .leaf (.node none .leaf (.node none (.node none .leaf (.node none (.node (some ⟨[(13, 45)], [14, 15, 47, 48, 49, 50, 51, 52, 53, 54, 55, 56, 57, 58]⟩) .leaf .leaf) .leaf)) .leaf))))) Tryz.func76 rfl (F76_eq x0 x1 x2 x3a x3n x3c x4a x4n x4c R H) h
/-- (*bollard/bollardref09.Volume).Blocks -/
def F77 (x0 : Option Addr) (R : Ending → Heap → Prop) (H : Heap) : Prop :=
  nz x0 (fun a1 =>
  ld H a1 (fun v2 =>
  dPtr v2 (fun p3 =>
  nz p3 (fun a4 =>
  ld H a4 (fun v5 =>
  dSl v5 (fun p6 r7 r8 =>
  R (Ending.returned (Value.int IntKind.i64 (↑r7 : Int))) H))))))
theorem F77_eq (x0 : Option Addr) (R : Ending → Heap → Prop) (H : Heap) : F77 x0 R H = vc Tryz.prog (codeOf Tryz.f77) .leaf (postV Tryz.prog Tryz.f77 R) ⟨#[Value.pointer x0] ++ Array.replicate (Tryz.f77.ntmps - 1) undef, []⟩ H := by kernel_rfl
theorem F77_calls {R : Ending → Heap → Prop} {H : Heap} (x0 : Option Addr) (h : F77 x0 R H) : HCalls Tryz.prog 77 #[Value.pointer x0] H R :=
  calls_by (F := F77 x0 R H) .leaf Tryz.func77 rfl (F77_eq x0 R H) h
/-- bollard/bollardref04.Blocks -/
def F78 (x0_0 : Value) (x0_1 : Value) (x0_2 : Value) (R : Ending → Heap → Prop) (H : Heap) : Prop :=
  al H (Obj.cells #[x0_0, x0_1, x0_2] 23) (fun r1 H2 =>
  ld H2 (Addr.mk r1 0 none) (fun v3 =>
  ld H2 (Addr.mk r1 1 none) (fun v4 =>
  ld H2 (Addr.mk r1 2 none) (fun v5 =>
  HCalls Tryz.prog 52 #[Value.agg #[v3, v4, v5]] H2 (Sp.retK (fun v6 H7 =>
  dInt IntKind.i64 v6 (fun n8 =>
  sB (n8 != 0) (R (Ending.returned (Value.int IntKind.i64 0)) H7) (ld H7 (Addr.mk r1 0 none) (fun v9 =>
  dInt IntKind.i64 v9 (fun n10 =>
  ld H7 (Addr.mk r1 1 none) (fun v11 =>
  dInt IntKind.i64 v11 (fun n12 =>
  wr IntKind.i64 (n10 * n12) (fun n13 =>
  R (Ending.returned (Value.int IntKind.i64 n13)) H7)))))))) (pnR R))))))
theorem F78_eq (x0_0 : Value) (x0_1 : Value) (x0_2 : Value) (R : Ending → Heap → Prop) (H : Heap) : F78 x0_0 x0_1 x0_2 R H = vc Tryz.prog (codeOf Tryz.f78) .leaf (postV Tryz.prog Tryz.f78 R) ⟨#[Value.agg #[x0_0, x0_1, x0_2]] ++ Array.replicate (Tryz.f78.ntmps - 1) undef, []⟩ H := by kernel_rfl
theorem F78_calls {R : Ending → Heap → Prop} {H : Heap} (x0_0 : Value) (x0_1 : Value) (x0_2 : Value) (h : F78 x0_0 x0_1 x0_2 R H) : HCalls Tryz.prog 78 #[Value.agg #[x0_0, x0_1, x0_2]] H R :=
  calls_by (F := F78 x0_0 x0_1 x0_2 R H) .leaf Tryz.func78 rfl (F78_eq x0_0 x0_1 x0_2 R H) h
/-- bollard/bollardref04.Owner -/
def F79 (x0_0 : Value) (x0_1 : Value) (x0_2 : Value) (x1 : Int) (R : Ending → Heap → Prop) (H : Heap) : Prop :=
  al H (Obj.cells #[x0_0, x0_1, x0_2] 23) (fun r1 H2 =>
  jn (α := VFH 1) (fun v3 H4 =>
  ∀ v5 v6 v7 v8 v9 v10 v11 : Value,
  dBl v3 (fun b12 =>
  sB b12 (R (Ending.returned (Value.tuple #[Value.int IntKind.i64 0, Value.int IntKind.i64 0, Value.bool false])) H4) (ld H4 (Addr.mk r1 2 none) (fun v13 =>
  dInt IntKind.i64 v13 (fun n14 =>
  ask (n14 ≠ (0 : Int)) (wr IntKind.i64 (Int.tdiv x1 n14) (fun n15 =>
  ld H4 (Addr.mk r1 2 none) (fun v16 =>
  dInt IntKind.i64 v16 (fun n17 =>
  ask (n17 ≠ (0 : Int)) (nm (Int.tmod x1 n17) (fun n18 =>
  R (Ending.returned (Value.tuple #[Value.int IntKind.i64 n15, Value.int IntKind.i64 n18, Value.bool true])) H4))))))))))) (fun k19 =>
  sB (decide (x1 < 0)) (k19 (Value.bool true) H2) (ld H2 (Addr.mk r1 0 none) (fun v20 =>
  ld H2 (Addr.mk r1 1 none) (fun v21 =>
  ld H2 (Addr.mk r1 2 none) (fun v22 =>
  HCalls Tryz.prog 143 #[Value.agg #[v20, v21, v22]] H2 (Sp.retK (fun v23 H24 =>
  dInt IntKind.i64 v23 (fun n25 =>
  k19 (Value.bool (decide (x1 ≥ n25))) H24)) (pnR R))))))))
theorem F79_eq (x0_0 : Value) (x0_1 : Value) (x0_2 : Value) (x1 : Int) (R : Ending → Heap → Prop) (H : Heap) : F79 x0_0 x0_1 x0_2 x1 R H = vc Tryz.prog (codeOf Tryz.f79) (.node none .leaf (.node none (.node (some ⟨[(14, 4)], [7, 8, 9, 10, 11, 12, 13]⟩) .leaf .leaf) .leaf)) (postV Tryz.prog Tryz.f79 R) ⟨#[Value.agg #[x0_0, x0_1, x0_2], Value.int IntKind.i64 x1] ++ Array.replicate (Tryz.f79.ntmps - 2) undef, []⟩ H := by kernel_rfl
theorem F79_calls {R : Ending → Heap → Prop} {H : Heap} (x0_0 : Value) (x0_1 : Value) (x0_2 : Value) (x1 : Int) (h : F79 x0_0 x0_1 x0_2 x1 R H) : HCalls Tryz.prog 79 #[Value.agg #[x0_0, x0_1, x0_2], Value.int IntKind.i64 x1] H R :=
  calls_by (F := F79 x0_0 x0_1 x0_2 x1 R H) (.node none .leaf (.node none (.node (some ⟨[(14, 4)], [7, 8, 9, 10, 11, 12, 13]⟩) .leaf .leaf) .leaf)) Tryz.func79 rfl (F79_eq x0_0 x0_1 x0_2 x1 R H) h
/-- bollard/bollardref03.mayDinode -/
def F80 (x0_0 : Value) (x0_1 : Value) (x0_2 : Value) (x0_3 : Value) (x0_4 : Value) (x0_5 : Value) (x0_6 : Value) (x0_7 : Value) (x0_8 : Value) (R : Ending → Heap → Prop) (H : Heap) : Prop :=
  al H (Obj.cells #[x0_0, x0_1, x0_2, x0_3, x0_4, x0_5, x0_6, x0_7, x0_8] 26) (fun r1 H2 =>
  ld H2 (Addr.mk r1 0 none) (fun v3 =>
  dInt IntKind.i64 v3 (fun n4 =>
  sB (n4 == 0) (ld H2 (Addr.mk r1 0 none) (fun v5 =>
  ld H2 (Addr.mk r1 1 none) (fun v6 =>
  ld H2 (Addr.mk r1 2 none) (fun v7 =>
  ld H2 (Addr.mk r1 3 none) (fun v8 =>
  ld H2 (Addr.mk r1 4 none) (fun v9 =>
  ld H2 (Addr.mk r1 5 none) (fun v10 =>
  ld H2 (Addr.mk r1 6 none) (fun v11 =>
  ld H2 (Addr.mk r1 7 none) (fun v12 =>
  ld H2 (Addr.mk r1 8 none) (fun v13 =>
  semW Tryz.prog (eqSem BinOp.eql 26 (Operand.tmp 8) (Operand.tmp 9) (Value.agg #[v5, v6, v7, v8, v9, v10, v11, v12, v13]) (Value.agg #[Value.int IntKind.i64 0, Value.int IntKind.i64 0, Value.int IntKind.i64 0, Value.int IntKind.i64 0, Value.int IntKind.i64 0, Value.int IntKind.i64 0, Value.int IntKind.i64 0, Value.int IntKind.i64 0, Value.int IntKind.i64 0])) (pnR R) H2 (fun v16 H17 =>
  dBl v16 (fun b18 =>
  R (Ending.returned (Value.bool b18)) H17)))))))))))) (jn (α := VFH 1) (fun v19 H20 =>
  ∀ v21 v22 v23 v24 v25 v26 v27 v28 v29 v30 v31 v32 v33 v34 v35 v36 v37 v38 v39 v40 v41 v42 v43 v44 v45 v46 v47 : Value,
  dBl v19 (fun b48 =>
  sB b48 (R (Ending.returned (Value.bool false)) H20) (ld H20 (Addr.mk r1 3 none) (fun v49 =>
  ld H20 (Addr.mk r1 4 none) (fun v50 =>
  ld H20 (Addr.mk r1 5 none) (fun v51 =>
  ld H20 (Addr.mk r1 6 none) (fun v52 =>
  ∃ I53 : List Value → Heap → Prop,
  ∃ I54 : List Value → Heap → Nat,
  (I53 ([Value.int IntKind.i64 0]) H20) ∧
  ∀ n55 : Int,
  ∀ v56 v57 v58 v59 v60 v61 v62 v63 : Value,
  ∀ H64 : Heap,
  (I53 ([Value.int IntKind.i64 n55]) H64) →
  sB (decide (n55 < 4)) (ask ((0 : Int) ≤ n55 ∧ n55 < (4 : Int)) (oV ([v49, v50, v51, v52][Int.toNat n55 * 1]?) (fun v66 =>
  dInt IntKind.i64 v66 (fun n67 =>
  HCalls Tryz.prog 144 #[Value.int IntKind.i64 n67] H64 (Sp.retK (fun v68 H69 =>
  dBl v68 (fun b70 =>
  sB (!b70) (R (Ending.returned (Value.bool false)) H69) (wr IntKind.i64 (n55 + 1) (fun n71 =>
  (I53 ([Value.int IntKind.i64 n71]) H69) ∧
  (I54 [Value.int IntKind.i64 n71] H69) < (I54 [Value.int IntKind.i64 n55] H64))))) (pnR R)))))) (ld H64 (Addr.mk r1 7 none) (fun v74 =>
  dInt IntKind.i64 v74 (fun n75 =>
  HCalls Tryz.prog 144 #[Value.int IntKind.i64 n75] H64 (Sp.retK (fun v76 H77 =>
  dBl v76 (fun b78 =>
  sB b78 (ld H77 (Addr.mk r1 8 none) (fun v79 =>
  dInt IntKind.i64 v79 (fun n80 =>
  HCalls Tryz.prog 144 #[Value.int IntKind.i64 n80] H77 (Sp.retK (fun v81 H82 =>
  dBl v81 (fun b83 =>
  sB b83 (ld H82 (Addr.mk r1 0 none) (fun v84 =>
  dInt IntKind.i64 v84 (fun n85 =>
  sB (n85 != 2) (R (Ending.returned (Value.bool true)) H82) (ld H82 (Addr.mk r1 2 none) (fun v86 =>
  dInt IntKind.i64 v86 (fun n87 =>
  ask ((128 : Int) ≠ (0 : Int)) (nm (Int.tmod n87 128) (fun n88 =>
  R (Ending.returned (Value.bool (n88 == 0))) H82)))))))) (R (Ending.returned (Value.bool false)) H82))) (pnR R))))) (R (Ending.returned (Value.bool false)) H77))) (pnR R)))))))))))) (fun k93 =>
  ld H2 (Addr.mk r1 0 none) (fun v94 =>
  dInt IntKind.i64 v94 (fun n95 =>
  sB (n95 != 1) (ld H2 (Addr.mk r1 0 none) (fun v96 =>
  dInt IntKind.i64 v96 (fun n97 =>
  sB (n97 != 2) (k93 (Value.bool true) H2) (ld H2 (Addr.mk r1 1 none) (fun v98 =>
  dInt IntKind.i64 v98 (fun n99 =>
  sB (decide (n99 < 0)) (k93 (Value.bool true) H2) (ld H2 (Addr.mk r1 1 none) (fun v100 =>
  dInt IntKind.i64 v100 (fun n101 =>
  sB (decide (n101 > 1000)) (k93 (Value.bool true) H2) (ld H2 (Addr.mk r1 2 none) (fun v102 =>
  dInt IntKind.i64 v102 (fun n103 =>
  sB (decide (n103 < 0)) (k93 (Value.bool true) H2) (ld H2 (Addr.mk r1 2 none) (fun v104 =>
  dInt IntKind.i64 v104 (fun n105 =>
  k93 (Value.bool (decide (n105 > 532992))) H2))))))))))))))) (ld H2 (Addr.mk r1 1 none) (fun v106 =>
  dInt IntKind.i64 v106 (fun n107 =>
  sB (decide (n107 < 0)) (k93 (Value.bool true) H2) (ld H2 (Addr.mk r1 1 none) (fun v108 =>
  dInt IntKind.i64 v108 (fun n109 =>
  sB (decide (n109 > 1000)) (k93 (Value.bool true) H2) (ld H2 (Addr.mk r1 2 none) (fun v110 =>
  dInt IntKind.i64 v110 (fun n111 =>
  sB (decide (n111 < 0)) (k93 (Value.bool true) H2) (ld H2 (Addr.mk r1 2 none) (fun v112 =>
  dInt IntKind.i64 v112 (fun n113 =>
  k93 (Value.bool (decide (n113 > 532992))) H2)))))))))))))))))))
theorem F80_eq (x0_0 : Value) (x0_1 : Value) (x0_2 : Value) (x0_3 : Value) (x0_4 : Value) (x0_5 : Value) (x0_6 : Value) (x0_7 : Value) (x0_8 : Value) (R : Ending → Heap → Prop) (H : Heap) : F80 x0_0 x0_1 x0_2 x0_3 x0_4 x0_5 x0_6 x0_7 x0_8 R H = vc Tryz.prog (codeOf Tryz.f80) (.node none .leaf (.node none .leaf (.node none (.node (some ⟨[(38, 4)], [11, 12, 13, 14, 15, 16, 17, 18, 19, 20, 21, 22, 23, 24, 25, 26, 27, 28, 29, 30, 31, 32, 33, 34, 35, 36, 37]⟩) .leaf .leaf) (.node none (.node none .leaf (.node none (.node (some ⟨[(41, 3)], [2, 4, 42, 43, 44, 45, 46, 47]⟩) .leaf .leaf) .leaf)) .leaf)))) (postV Tryz.prog Tryz.f80 R) ⟨#[Value.agg #[x0_0, x0_1, x0_2, x0_3, x0_4, x0_5, x0_6, x0_7, x0_8]] ++ Array.replicate (Tryz.f80.ntmps - 1) undef, []⟩ H := by kernel_rfl
theorem F80_calls {R : Ending → Heap → Prop} {H : Heap} (x0_0 : Value) (x0_1 : Value) (x0_2 : Value) (x0_3 : Value) (x0_4 : Value) (x0_5 : Value) (x0_6 : Value) (x0_7 : Value) (x0_8 : Value) (h : F80 x0_0 x0_1 x0_2 x0_3 x0_4 x0_5 x0_6 x0_7 x0_8 R H) : HCalls Tryz.prog 80 #[Value.agg #[x0_0, x0_1, x0_2, x0_3, x0_4, x0_5, x0_6, x0_7, x0_8]] H R :=
  calls_by (F := F80 x0_0 x0_1 x0_2 x0_3 x0_4 x0_5 x0_6 x0_7 x0_8 R H) (.node none .leaf (.node none .leaf (.node none (.node (some ⟨[(38, 4)], [11, 12, 13, 14, 15, 16, 17, 18, 19, 20, 21, 22, 23, 24, 25, 26, 27, 28, 29, 30, 31, 32, 33, 34, 35, 36, 37]⟩) .leaf .leaf) (.node none (.node none .leaf (.node none (.node (some ⟨[(41, 3)], [2, 4, 42, 43, 44, 45, 46, 47]⟩) .leaf .leaf) .leaf)) .leaf)))) Tryz.func80 rfl (F80_eq x0_0 x0_1 x0_2 x0_3 x0_4 x0_5 x0_6 x0_7 x0_8 R H) h
/-- bollard/bollardref03.number -/
def F81 (x0a : Option Addr) (x0n : Nat) (x0c : Nat) (x1 : Int) (x2 : Int) (x3 : Int) (R : Ending → Heap → Prop) (H : Heap) : Prop :=
  HCalls Tryz.prog 145 #[Value.slice x0a x0n x0c, Value.int IntKind.i64 x1, Value.int IntKind.i64 x2, Value.int IntKind.i64 x3] H (Sp.retK (fun v1 H2 =>
  dT 2 v1 (fun v3 v4 =>
  dSl v3 (fun p5 r6 r7 =>
  dInt IntKind.i64 v4 (fun n8 =>
  R (Ending.returned (Value.slice p5 r6 r7)) H2)))) (pnR R))
theorem F81_eq (x0a : Option Addr) (x0n : Nat) (x0c : Nat) (x1 : Int) (x2 : Int) (x3 : Int) (R : Ending → Heap → Prop) (H : Heap) : F81 x0a x0n x0c x1 x2 x3 R H = vc Tryz.prog (codeOf Tryz.f81) .leaf (postV Tryz.prog Tryz.f81 R) ⟨#[Value.slice x0a x0n x0c, Value.int IntKind.i64 x1, Value.int IntKind.i64 x2, Value.int IntKind.i64 x3] ++ Array.replicate (Tryz.f81.ntmps - 4) undef, []⟩ H := by kernel_rfl
theorem F81_calls {R : Ending → Heap → Prop} {H : Heap} (x0a : Option Addr) (x0n : Nat) (x0c : Nat) (x1 : Int) (x2 : Int) (x3 : Int) (h : F81 x0a x0n x0c x1 x2 x3 R H) : HCalls Tryz.prog 81 #[Value.slice x0a x0n x0c, Value.int IntKind.i64 x1, Value.int IntKind.i64 x2, Value.int IntKind.i64 x3] H R :=
  calls_by (F := F81 x0a x0n x0c x1 x2 x3 R H) .leaf Tryz.func81 rfl (F81_eq x0a x0n x0c x1 x2 x3 R H) h
/-- bollard/bollardref01.Seal -/
def F82 (x0a : Option Addr) (x0n : Nat) (x0c : Nat) (R : Ending → Heap → Prop) (H : Heap) : Prop :=
  sB (decide ((↑x0n : Int) < 4)) (R (Ending.returned (Value.tuple #[Value.slice none 0 0, Value.int IntKind.i64 10])) H) (wr IntKind.i64 ((↑x0n : Int) - 4) (fun n1 =>
  wr IntKind.i64 ((↑x0n : Int) - 4) (fun n2 =>
  ask ((0 : Int) ≤ (0 : Int) ∧ (0 : Int) ≤ n2 ∧ n2 ≤ (↑x0c : Int) ∧ (↑x0c : Int) ≤ (↑x0c : Int)) (HCalls Tryz.prog 146 #[Value.slice (slO x0a 1 0 (↑x0c : Int)) (Int.toNat n2 - Int.toNat 0) (Int.toNat (↑x0c : Int) - Int.toNat 0)] H (Sp.retK (fun v3 H4 =>
  dInt IntKind.i64 v3 (fun n5 =>
  HCalls Tryz.prog 145 #[Value.slice x0a x0n x0c, Value.int IntKind.i64 n1, Value.int IntKind.i64 4, Value.int IntKind.i64 n5] H4 (Sp.retK (fun v6 H7 =>
  dT 2 v6 (fun v8 v9 =>
  dSl v8 (fun p10 r11 r12 =>
  dInt IntKind.i64 v9 (fun n13 =>
  R (Ending.returned (Value.tuple #[Value.slice p10 r11 r12, Value.int IntKind.i64 n13])) H7)))) (pnR R)))) (pnR R))))))
theorem F82_eq (x0a : Option Addr) (x0n : Nat) (x0c : Nat) (R : Ending → Heap → Prop) (H : Heap) : F82 x0a x0n x0c R H = vc Tryz.prog (codeOf Tryz.f82) .leaf (postV Tryz.prog Tryz.f82 R) ⟨#[Value.slice x0a x0n x0c] ++ Array.replicate (Tryz.f82.ntmps - 1) undef, []⟩ H := by kernel_rfl
theorem F82_calls {R : Ending → Heap → Prop} {H : Heap} (x0a : Option Addr) (x0n : Nat) (x0c : Nat) (h : F82 x0a x0n x0c R H) : HCalls Tryz.prog 82 #[Value.slice x0a x0n x0c] H R :=
  calls_by (F := F82 x0a x0n x0c R H) .leaf Tryz.func82 rfl (F82_eq x0a x0n x0c R H) h
/-- (*bollard/bollardref09.Volume).has -/
def F83 (x0 : Option Addr) (x1 : Int) (R : Ending → Heap → Prop) (H : Heap) : Prop :=
  sB (decide (x1 ≥ 0)) (nz x0 (fun a1 =>
  ld H a1 (fun v2 =>
  dPtr v2 (fun p3 =>
  nz p3 (fun a4 =>
  ld H a4 (fun v5 =>
  dSl v5 (fun p6 r7 r8 =>
  R (Ending.returned (Value.bool (decide (x1 < (↑r7 : Int))))) H))))))) (R (Ending.returned (Value.bool false)) H)
theorem F83_eq (x0 : Option Addr) (x1 : Int) (R : Ending → Heap → Prop) (H : Heap) : F83 x0 x1 R H = vc Tryz.prog (codeOf Tryz.f83) .leaf (postV Tryz.prog Tryz.f83 R) ⟨#[Value.pointer x0, Value.int IntKind.i64 x1] ++ Array.replicate (Tryz.f83.ntmps - 2) undef, []⟩ H := by kernel_rfl
theorem F83_calls {R : Ending → Heap → Prop} {H : Heap} (x0 : Option Addr) (x1 : Int) (h : F83 x0 x1 R H) : HCalls Tryz.prog 83 #[Value.pointer x0, Value.int IntKind.i64 x1] H R :=
  calls_by (F := F83 x0 x1 R H) .leaf Tryz.func83 rfl (F83_eq x0 x1 R H) h
/-- bollard/geom.split -/
def F90 (x0 : Int) (x1 : Int) (x2 : Int) (R : Ending → Heap → Prop) (H : Heap) : Prop :=
  wr IntKind.i64 (x2 - 1) (fun n1 =>
  HCalls Tryz.prog 151 #[Value.int IntKind.i64 x0, Value.int IntKind.i64 0, Value.int IntKind.i64 n1] H (Sp.retK (fun v2 H3 =>
  dBl v2 (fun b4 =>
  sB (!b4) (R (Ending.returned (Value.tuple #[Value.int IntKind.i64 0, Value.int IntKind.i64 0, Value.bool false])) H3) (ask (x1 ≠ (0 : Int)) (wr IntKind.i64 (Int.tdiv x0 x1) (fun n5 =>
  ask (x1 ≠ (0 : Int)) (nm (Int.tmod x0 x1) (fun n6 =>
  R (Ending.returned (Value.tuple #[Value.int IntKind.i64 n5, Value.int IntKind.i64 n6, Value.bool true])) H3))))))) (pnR R)))
theorem F90_eq (x0 : Int) (x1 : Int) (x2 : Int) (R : Ending → Heap → Prop) (H : Heap) : F90 x0 x1 x2 R H = vc Tryz.prog (codeOf Tryz.f90) .leaf (postV Tryz.prog Tryz.f90 R) ⟨#[Value.int IntKind.i64 x0, Value.int IntKind.i64 x1, Value.int IntKind.i64 x2] ++ Array.replicate (Tryz.f90.ntmps - 3) undef, []⟩ H := by kernel_rfl
theorem F90_calls {R : Ending → Heap → Prop} {H : Heap} (x0 : Int) (x1 : Int) (x2 : Int) (h : F90 x0 x1 x2 R H) : HCalls Tryz.prog 90 #[Value.int IntKind.i64 x0, Value.int IntKind.i64 x1, Value.int IntKind.i64 x2] H R :=
  calls_by (F := F90 x0 x1 x2 R H) .leaf Tryz.func90 rfl (F90_eq x0 x1 x2 R H) h
/-- bollard/geom.Inodes -/
def F91 (x0_0 : Value) (x0_1 : Value) (x0_2 : Value) (R : Ending → Heap → Prop) (H : Heap) : Prop :=
  al H (Obj.cells #[x0_0, x0_1, x0_2] 23) (fun r1 H2 =>
  ld H2 (Addr.mk r1 0 none) (fun v3 =>
  ld H2 (Addr.mk r1 1 none) (fun v4 =>
  ld H2 (Addr.mk r1 2 none) (fun v5 =>
  ld H2 (Addr.mk r1 2 none) (fun v6 =>
  dInt IntKind.i64 v6 (fun n7 =>
  HCalls Tryz.prog 152 #[Value.agg #[v3, v4, v5], Value.int IntKind.i64 n7] H2 (Sp.retK (fun v8 H9 =>
  dInt IntKind.i64 v8 (fun n10 =>
  R (Ending.returned (Value.int IntKind.i64 n10)) H9)) (pnR R))))))))
theorem F91_eq (x0_0 : Value) (x0_1 : Value) (x0_2 : Value) (R : Ending → Heap → Prop) (H : Heap) : F91 x0_0 x0_1 x0_2 R H = vc Tryz.prog (codeOf Tryz.f91) .leaf (postV Tryz.prog Tryz.f91 R) ⟨#[Value.agg #[x0_0, x0_1, x0_2]] ++ Array.replicate (Tryz.f91.ntmps - 1) undef, []⟩ H := by kernel_rfl
theorem F91_calls {R : Ending → Heap → Prop} {H : Heap} (x0_0 : Value) (x0_1 : Value) (x0_2 : Value) (h : F91 x0_0 x0_1 x0_2 R H) : HCalls Tryz.prog 91 #[Value.agg #[x0_0, x0_1, x0_2]] H R :=
  calls_by (F := F91 x0_0 x0_1 x0_2 R H) .leaf Tryz.func91 rfl (F91_eq x0_0 x0_1 x0_2 R H) h
end Go.Proofs.YtklppdodadkcnaaGreat.E
/- The functions' forms in the engine's words, printed by my own program. -/
namespace Go.Proofs.YtklppdodadkcnaaGreat.E
open Go Go.Proofs
set_option linter.unusedVariables false
set_option maxRecDepth 100000
/-- bollard/geom.Can -/
def F96 (x0_0 : Value) (x0_1 : Value) (x0_2 : Value) (R : Ending → Heap → Prop) (H : Heap) : Prop :=
  al H (Obj.cells #[x0_0, x0_1, x0_2] 23) (fun r1 H2 =>
  jn (α := VFH 1) (fun v3 H4 =>
  ∀ v5 v6 v7 v8 v9 v10 v11 v12 v13 v14 v15 v16 v17 : Value,
  dBl v3 (fun b18 =>
  jn (α := VFH 1) (fun v19 H20 =>
  ∀ v21 v22 v23 v24 v25 v26 v27 v28 v29 v30 v31 v32 v33 v34 v35 : Value,
  dBl v19 (fun b36 =>
  sB b36 (R (Ending.returned (Value.int IntKind.i64 170)) H20) (R (Ending.returned (Value.int IntKind.i64 0)) H20))) (fun k37 =>
  sB (!b18) (k37 (Value.bool true) H4) (ld H4 (Addr.mk r1 2 none) (fun v38 =>
  dInt IntKind.i64 v38 (fun n39 =>
  ask ((4 : Int) ≠ (0 : Int)) (nm (Int.tmod n39 4) (fun n40 =>
  sB (n40 != 0) (k37 (Value.bool true) H4) (ld H4 (Addr.mk r1 1 none) (fun v41 =>
  dInt IntKind.i64 v41 (fun n42 =>
  ld H4 (Addr.mk r1 0 none) (fun v43 =>
  ld H4 (Addr.mk r1 1 none) (fun v44 =>
  ld H4 (Addr.mk r1 2 none) (fun v45 =>
  HCalls Tryz.prog 102 #[Value.agg #[v43, v44, v45]] H4 (Sp.retK (fun v46 H47 =>
  dInt IntKind.i64 v46 (fun n48 =>
  (ld H47 (Addr.mk r1 1 none) (fun v49 =>
  dInt IntKind.i64 v49 (fun n50 =>
  (Value.int IntKind.i64 n50) = (Value.int IntKind.i64 n42)))) ∧
  wr IntKind.i64 (n48 + 1) (fun n51 =>
  k37 (Value.bool (decide (n42 < n51))) H47))) nopR))))))))))))))) (fun k54 =>
  ld H2 (Addr.mk r1 0 none) (fun v55 =>
  dInt IntKind.i64 v55 (fun n56 =>
  HCalls Tryz.prog 151 #[Value.int IntKind.i64 n56, Value.int IntKind.i64 1, Value.int IntKind.i64 8] H2 (Sp.retK (fun v57 H58 =>
  dBl v57 (fun b59 =>
  sB b59 (ld H58 (Addr.mk r1 1 none) (fun v60 =>
  dInt IntKind.i64 v60 (fun n61 =>
  HCalls Tryz.prog 151 #[Value.int IntKind.i64 n61, Value.int IntKind.i64 8, Value.int IntKind.i64 256] H58 (Sp.retK (fun v62 H63 =>
  dBl v62 (fun b64 =>
  sB b64 (ld H63 (Addr.mk r1 2 none) (fun v65 =>
  dInt IntKind.i64 v65 (fun n66 =>
  HCalls Tryz.prog 151 #[Value.int IntKind.i64 n66, Value.int IntKind.i64 4, Value.int IntKind.i64 64] H63 (Sp.retK (fun v67 H68 =>
  dBl v67 (fun b69 =>
  k54 (Value.bool b69) H68)) (pnR R))))) (k54 (Value.bool false) H63))) (pnR R))))) (k54 (Value.bool false) H58))) (pnR R))))))
theorem F96_eq (x0_0 : Value) (x0_1 : Value) (x0_2 : Value) (R : Ending → Heap → Prop) (H : Heap) : F96 x0_0 x0_1 x0_2 R H = vc Tryz.prog (codeOf Tryz.f96) (.node none .leaf (.node (some ⟨[(3, 4)], [4, 5, 6, 7, 8, 9, 10, 11, 12, 13, 14, 15, 16]⟩) .leaf (.node none (.node (some ⟨[(32, 4)], [17, 18, 19, 20, 21, 22, 23, 24, 25, 26, 27, 28, 29, 30, 31]⟩) .leaf .leaf) .leaf))) (postV Tryz.prog Tryz.f96 R) ⟨#[Value.agg #[x0_0, x0_1, x0_2]] ++ Array.replicate (Tryz.f96.ntmps - 1) undef, []⟩ H := by kernel_rfl
theorem F96_calls {R : Ending → Heap → Prop} {H : Heap} (x0_0 : Value) (x0_1 : Value) (x0_2 : Value) (h : F96 x0_0 x0_1 x0_2 R H) : HCalls Tryz.prog 96 #[Value.agg #[x0_0, x0_1, x0_2]] H R :=
  calls_by (F := F96 x0_0 x0_1 x0_2 R H) (.node none .leaf (.node (some ⟨[(3, 4)], [4, 5, 6, 7, 8, 9, 10, 11, 12, 13, 14, 15, 16]⟩) .leaf (.node none (.node (some ⟨[(32, 4)], [17, 18, 19, 20, 21, 22, 23, 24, 25, 26, 27, 28, 29, 30, 31]⟩) .leaf .leaf) .leaf))) Tryz.func96 rfl (F96_eq x0_0 x0_1 x0_2 R H) h
/-- bollard/geom.Blocks -/
def F97 (x0_0 : Value) (x0_1 : Value) (x0_2 : Value) (R : Ending → Heap → Prop) (H : Heap) : Prop :=
  al H (Obj.cells #[x0_0, x0_1, x0_2] 23) (fun r1 H2 =>
  ld H2 (Addr.mk r1 0 none) (fun v3 =>
  ld H2 (Addr.mk r1 1 none) (fun v4 =>
  ld H2 (Addr.mk r1 2 none) (fun v5 =>
  ld H2 (Addr.mk r1 1 none) (fun v6 =>
  dInt IntKind.i64 v6 (fun n7 =>
  HCalls Tryz.prog 152 #[Value.agg #[v3, v4, v5], Value.int IntKind.i64 n7] H2 (Sp.retK (fun v8 H9 =>
  dInt IntKind.i64 v8 (fun n10 =>
  R (Ending.returned (Value.int IntKind.i64 n10)) H9)) (pnR R))))))))
theorem F97_eq (x0_0 : Value) (x0_1 : Value) (x0_2 : Value) (R : Ending → Heap → Prop) (H : Heap) : F97 x0_0 x0_1 x0_2 R H = vc Tryz.prog (codeOf Tryz.f97) .leaf (postV Tryz.prog Tryz.f97 R) ⟨#[Value.agg #[x0_0, x0_1, x0_2]] ++ Array.replicate (Tryz.f97.ntmps - 1) undef, []⟩ H := by kernel_rfl
theorem F97_calls {R : Ending → Heap → Prop} {H : Heap} (x0_0 : Value) (x0_1 : Value) (x0_2 : Value) (h : F97 x0_0 x0_1 x0_2 R H) : HCalls Tryz.prog 97 #[Value.agg #[x0_0, x0_1, x0_2]] H R :=
  calls_by (F := F97 x0_0 x0_1 x0_2 R H) .leaf Tryz.func97 rfl (F97_eq x0_0 x0_1 x0_2 R H) h
/-- bollard/geom.at -/
def F101 (x0_0 : Value) (x0_1 : Value) (x0_2 : Value) (x1 : Int) (x2 : Int) (R : Ending → Heap → Prop) (H : Heap) : Prop :=
  al H (Obj.cells #[x0_0, x0_1, x0_2] 23) (fun r1 H2 =>
  jn (α := VFH 1) (fun v3 H4 =>
  ∀ v5 v6 v7 v8 v9 v10 v11 v12 v13 v14 : Value,
  dBl v3 (fun b15 =>
  sB b15 (R (Ending.returned (Value.tuple #[Value.int IntKind.i64 0, Value.bool false])) H4) (ld H4 (Addr.mk r1 1 none) (fun v16 =>
  dInt IntKind.i64 v16 (fun n17 =>
  wr IntKind.i64 (x1 * n17) (fun n18 =>
  wr IntKind.i64 (n18 + x2) (fun n19 =>
  R (Ending.returned (Value.tuple #[Value.int IntKind.i64 n19, Value.bool true])) H4))))))) (fun k20 =>
  ld H2 (Addr.mk r1 0 none) (fun v21 =>
  ld H2 (Addr.mk r1 1 none) (fun v22 =>
  ld H2 (Addr.mk r1 2 none) (fun v23 =>
  HCalls Tryz.prog 96 #[Value.agg #[v21, v22, v23]] H2 (Sp.retK (fun v24 H25 =>
  dInt IntKind.i64 v24 (fun n26 =>
  sB (n26 != 0) (k20 (Value.bool true) H25) (ld H25 (Addr.mk r1 0 none) (fun v27 =>
  dInt IntKind.i64 v27 (fun n28 =>
  wr IntKind.i64 (n28 - 1) (fun n29 =>
  HCalls Tryz.prog 151 #[Value.int IntKind.i64 x1, Value.int IntKind.i64 0, Value.int IntKind.i64 n29] H25 (Sp.retK (fun v30 H31 =>
  dBl v30 (fun b32 =>
  k20 (Value.bool !b32) H31)) (pnR R)))))))) (pnR R)))))))
theorem F101_eq (x0_0 : Value) (x0_1 : Value) (x0_2 : Value) (x1 : Int) (x2 : Int) (R : Ending → Heap → Prop) (H : Heap) : F101 x0_0 x0_1 x0_2 x1 x2 R H = vc Tryz.prog (codeOf Tryz.f101) (.node none .leaf (.node none (.node (some ⟨[(18, 4)], [8, 9, 10, 11, 12, 13, 14, 15, 16, 17]⟩) .leaf .leaf) .leaf)) (postV Tryz.prog Tryz.f101 R) ⟨#[Value.agg #[x0_0, x0_1, x0_2], Value.int IntKind.i64 x1, Value.int IntKind.i64 x2] ++ Array.replicate (Tryz.f101.ntmps - 3) undef, []⟩ H := by kernel_rfl
theorem F101_calls {R : Ending → Heap → Prop} {H : Heap} (x0_0 : Value) (x0_1 : Value) (x0_2 : Value) (x1 : Int) (x2 : Int) (h : F101 x0_0 x0_1 x0_2 x1 x2 R H) : HCalls Tryz.prog 101 #[Value.agg #[x0_0, x0_1, x0_2], Value.int IntKind.i64 x1, Value.int IntKind.i64 x2] H R :=
  calls_by (F := F101 x0_0 x0_1 x0_2 x1 x2 R H) (.node none .leaf (.node none (.node (some ⟨[(18, 4)], [8, 9, 10, 11, 12, 13, 14, 15, 16, 17]⟩) .leaf .leaf) .leaf)) Tryz.func101 rfl (F101_eq x0_0 x0_1 x0_2 x1 x2 R H) h
/-- bollard/geom.front -/
def F102 (x0_0 : Value) (x0_1 : Value) (x0_2 : Value) (R : Ending → Heap → Prop) (H : Heap) : Prop :=
  al H (Obj.cells #[x0_0, x0_1, x0_2] 23) (fun r1 H2 =>
  ld H2 (Addr.mk r1 2 none) (fun v3 =>
  dInt IntKind.i64 v3 (fun n4 =>
  ask ((4 : Int) ≠ (0 : Int)) (wr IntKind.i64 (Int.tdiv n4 4) (fun n5 =>
  wr IntKind.i64 (2 + n5) (fun n6 =>
  R (Ending.returned (Value.int IntKind.i64 n6)) H2))))))
theorem F102_eq (x0_0 : Value) (x0_1 : Value) (x0_2 : Value) (R : Ending → Heap → Prop) (H : Heap) : F102 x0_0 x0_1 x0_2 R H = vc Tryz.prog (codeOf Tryz.f102) .leaf (postV Tryz.prog Tryz.f102 R) ⟨#[Value.agg #[x0_0, x0_1, x0_2]] ++ Array.replicate (Tryz.f102.ntmps - 1) undef, []⟩ H := by kernel_rfl
theorem F102_calls {R : Ending → Heap → Prop} {H : Heap} (x0_0 : Value) (x0_1 : Value) (x0_2 : Value) (h : F102 x0_0 x0_1 x0_2 R H) : HCalls Tryz.prog 102 #[Value.agg #[x0_0, x0_1, x0_2]] H R :=
  calls_by (F := F102 x0_0 x0_1 x0_2 R H) .leaf Tryz.func102 rfl (F102_eq x0_0 x0_1 x0_2 R H) h
end Go.Proofs.YtklppdodadkcnaaGreat.E
/- The functions' forms in the engine's words, printed by my own program. -/
namespace Go.Proofs.YtklppdodadkcnaaGreat.E
open Go Go.Proofs
set_option linter.unusedVariables false
set_option maxRecDepth 100000
/-- bollard/bollardref03.EncodeSuper -/
def F110 (x0_0 : Value) (x0_1 : Value) (x0_2 : Value) (x0_3 : Value) (R : Ending → Heap → Prop) (H : Heap) : Prop :=
  al H (Obj.cells #[x0_0, x0_1, x0_2, x0_3] 185) (fun r1 H2 =>
  jn (α := VFH 1) (fun v3 H4 =>
  ∀ v5 v6 v7 v8 v9 v10 v11 v12 v13 v14 v15 v16 v17 : Value,
  dBl v3 (fun b18 =>
  sB b18 (R (Ending.returned (Value.tuple #[Value.slice none 0 0, Value.int IntKind.i64 1])) H4) (al H4 (Obj.cells #[Value.int IntKind.u8 98, Value.int IntKind.u8 111, Value.int IntKind.u8 108, Value.int IntKind.u8 108] 5) (fun r19 H20 =>
  semW Tryz.prog (convert 85 85 (Value.slice (some (Addr.mk r19 0 none)) 4 4)) (pnR R) H20 (fun v23 H24 =>
  dSl v23 (fun p25 r26 r27 =>
  semW Tryz.prog (Builtin.append_ #[85, 3] 85 #[Value.slice p25 r26 r27, Value.int IntKind.i64 124]) (pnR R) H24 (fun v30 H31 =>
  dSl v30 (fun p32 r33 r34 =>
  ld H31 (Addr.mk r1 0 none) (fun v35 =>
  dInt IntKind.i64 v35 (fun n36 =>
  HCalls Tryz.prog 81 #[Value.slice p32 r33 r34, Value.int IntKind.i64 4, Value.int IntKind.i64 1, Value.int IntKind.i64 n36] H31 (Sp.retK (fun v37 H38 =>
  dSl v37 (fun p39 r40 r41 =>
  ld H38 (Addr.mk r1 1 none) (fun v42 =>
  dInt IntKind.i64 v42 (fun n43 =>
  wr IntKind.i64 (n43 - 1) (fun n44 =>
  HCalls Tryz.prog 81 #[Value.slice p39 r40 r41, Value.int IntKind.i64 5, Value.int IntKind.i64 1, Value.int IntKind.i64 n44] H38 (Sp.retK (fun v45 H46 =>
  dSl v45 (fun p47 r48 r49 =>
  ld H46 (Addr.mk r1 2 none) (fun v50 =>
  dInt IntKind.i64 v50 (fun n51 =>
  HCalls Tryz.prog 81 #[Value.slice p47 r48 r49, Value.int IntKind.i64 6, Value.int IntKind.i64 1, Value.int IntKind.i64 n51] H46 (Sp.retK (fun v52 H53 =>
  dSl v52 (fun p54 r55 r56 =>
  ld H53 (Addr.mk r1 3 none) (fun v57 =>
  dInt IntKind.i64 v57 (fun n58 =>
  HCalls Tryz.prog 81 #[Value.slice p54 r55 r56, Value.int IntKind.i64 8, Value.int IntKind.i64 4, Value.int IntKind.i64 n58] H53 (Sp.retK (fun v59 H60 =>
  dSl v59 (fun p61 r62 r63 =>
  HCalls Tryz.prog 82 #[Value.slice p61 r62 r63] H60 (Sp.retK (fun v64 H65 =>
  dT 2 v64 (fun v66 v67 =>
  dSl v66 (fun p68 r69 r70 =>
  dInt IntKind.i64 v67 (fun n71 =>
  R (Ending.returned (Value.tuple #[Value.slice p68 r69 r70, Value.int IntKind.i64 n71])) H65)))) (pnR R)))) (pnR R)))))) (pnR R)))))) (pnR R))))))) (pnR R)))))))))))) (fun k82 =>
  ld H2 (Addr.mk r1 0 none) (fun v83 =>
  ld H2 (Addr.mk r1 1 none) (fun v84 =>
  ld H2 (Addr.mk r1 2 none) (fun v85 =>
  HCalls Tryz.prog 158 #[Value.agg #[v83, v84, v85]] H2 (Sp.retK (fun v86 H87 =>
  dBl v86 (fun b88 =>
  sB (!b88) (k82 (Value.bool true) H87) (ld H87 (Addr.mk r1 3 none) (fun v89 =>
  dInt IntKind.i64 v89 (fun n90 =>
  sB (decide (n90 < 0)) (k82 (Value.bool true) H87) (ld H87 (Addr.mk r1 3 none) (fun v91 =>
  dInt IntKind.i64 v91 (fun n92 =>
  k82 (Value.bool (decide (n92 ≥ 4294967296))) H87)))))))) (pnR R)))))))
theorem F110_eq (x0_0 : Value) (x0_1 : Value) (x0_2 : Value) (x0_3 : Value) (R : Ending → Heap → Prop) (H : Heap) : F110 x0_0 x0_1 x0_2 x0_3 R H = vc Tryz.prog (codeOf Tryz.f110) (.node none .leaf (.node none (.node (some ⟨[(18, 4)], [5, 6, 7, 8, 9, 10, 11, 12, 13, 14, 15, 16, 17]⟩) .leaf .leaf) .leaf)) (postV Tryz.prog Tryz.f110 R) ⟨#[Value.agg #[x0_0, x0_1, x0_2, x0_3]] ++ Array.replicate (Tryz.f110.ntmps - 1) undef, []⟩ H := by kernel_rfl
theorem F110_calls {R : Ending → Heap → Prop} {H : Heap} (x0_0 : Value) (x0_1 : Value) (x0_2 : Value) (x0_3 : Value) (h : F110 x0_0 x0_1 x0_2 x0_3 R H) : HCalls Tryz.prog 110 #[Value.agg #[x0_0, x0_1, x0_2, x0_3]] H R :=
  calls_by (F := F110 x0_0 x0_1 x0_2 x0_3 R H) (.node none .leaf (.node none (.node (some ⟨[(18, 4)], [5, 6, 7, 8, 9, 10, 11, 12, 13, 14, 15, 16, 17]⟩) .leaf .leaf) .leaf)) Tryz.func110 rfl (F110_eq x0_0 x0_1 x0_2 x0_3 R H) h
/-- bollard/bollardref05.With -/
def F111 (x0a : Option Addr) (x0n : Nat) (x0c : Nat) (x1 : Int) (x2 : Bool) (R : Ending → Heap → Prop) (H : Heap) : Prop :=
  jn (α := VFH 1) (fun v1 H2 =>
  ∀ v3 v4 v5 v6 v7 v8 v9 v10 : Value,
  dBl v1 (fun b11 =>
  sB b11 (R (Ending.returned (Value.tuple #[Value.slice none 0 0, Value.int IntKind.i64 50])) H2) (al H2 (Obj.cells #[] 5) (fun r12 H13 =>
  semW Tryz.prog (Builtin.append_ #[85, 85] 85 #[Value.slice (some (Addr.mk r12 0 none)) 0 0, Value.slice x0a x0n x0c]) (pnR R) H13 (fun v16 H17 =>
  dSl v16 (fun p18 r19 r20 =>
  jn (α := VFH 0) (fun H21 =>
  ∀ v22 v23 v24 v25 v26 v27 v28 v29 v30 v31 v32 v33 v34 v35 v36 v37 v38 v39 : Value,
  R (Ending.returned (Value.tuple #[Value.slice p18 r19 r20, Value.int IntKind.i64 0])) H21) (fun k40 =>
  HCalls Tryz.prog 159 #[Value.slice x0a x0n x0c, Value.int IntKind.i64 x1] H17 (Sp.retK (fun v41 H42 =>
  dBl v41 (fun b43 =>
  sB (!b43 == x2) (ask ((8 : Int) ≠ (0 : Int)) (wr IntKind.i64 (Int.tdiv x1 8) (fun n44 =>
  ask ((8 : Int) ≠ (0 : Int)) (wr IntKind.i64 (Int.tdiv x1 8) (fun n45 =>
  nz p18 (fun a46 =>
  ask ((0 : Int) ≤ n45 ∧ n45 < (↑r19 : Int)) (ld H42 (Addr.add a46 (Int.toNat n45 * 1)) (fun v47 =>
  dInt IntKind.u8 v47 (fun n48 =>
  ask ((8 : Int) ≠ (0 : Int)) (nm (Int.tmod x1 8) (fun n49 =>
  ask ((0 : Int) ≤ n49) (nm (IntKind.wrap IntKind.u8 (1 * 2 ^ min (Int.toNat n49) 8)) (fun n50 =>
  nm (IntKind.wrap IntKind.u8 (↑(BitVec.toNat (BitVec.ofInt 8 n48 ^^^ BitVec.ofInt 8 n50)) : Int)) (fun n51 =>
  nz p18 (fun a52 =>
  ask ((0 : Int) ≤ n44 ∧ n44 < (↑r19 : Int)) (st H42 (Addr.add a52 (Int.toNat n44 * 1)) (Value.int IntKind.u8 n51) (fun H53 =>
  k40 H53))))))))))))))))) (k40 H42))) (pnR R))))))))) (fun k56 =>
  sB (decide (x1 < 0)) (k56 (Value.bool true) H) (ask ((8 : Int) ≠ (0 : Int)) (wr IntKind.i64 (Int.tdiv x1 8) (fun n57 =>
  k56 (Value.bool (decide (n57 ≥ (↑x0n : Int)))) H))))
theorem F111_eq (x0a : Option Addr) (x0n : Nat) (x0c : Nat) (x1 : Int) (x2 : Bool) (R : Ending → Heap → Prop) (H : Heap) : F111 x0a x0n x0c x1 x2 R H = vc Tryz.prog (codeOf Tryz.f111) (.node none .leaf (.node none (.node (some ⟨[(17, 4)], [9, 10, 11, 12, 13, 14, 15, 16]⟩) .leaf .leaf) (.node none .leaf (.node (some ⟨[], [21, 22, 23, 24, 25, 26, 27, 28, 29, 30, 31, 32, 33, 34, 35, 36, 37, 38]⟩) .leaf .leaf)))) (postV Tryz.prog Tryz.f111 R) ⟨#[Value.slice x0a x0n x0c, Value.int IntKind.i64 x1, Value.bool x2] ++ Array.replicate (Tryz.f111.ntmps - 3) undef, []⟩ H := by kernel_rfl
theorem F111_calls {R : Ending → Heap → Prop} {H : Heap} (x0a : Option Addr) (x0n : Nat) (x0c : Nat) (x1 : Int) (x2 : Bool) (h : F111 x0a x0n x0c x1 x2 R H) : HCalls Tryz.prog 111 #[Value.slice x0a x0n x0c, Value.int IntKind.i64 x1, Value.bool x2] H R :=
  calls_by (F := F111 x0a x0n x0c x1 x2 R H) (.node none .leaf (.node none (.node (some ⟨[(17, 4)], [9, 10, 11, 12, 13, 14, 15, 16]⟩) .leaf .leaf) (.node none .leaf (.node (some ⟨[], [21, 22, 23, 24, 25, 26, 27, 28, 29, 30, 31, 32, 33, 34, 35, 36, 37, 38]⟩) .leaf .leaf)))) Tryz.func111 rfl (F111_eq x0a x0n x0c x1 x2 R H) h
/-- bollard/bollardref03.EncodeGroup -/
def F112 (x0_0 : Value) (x0_1 : Value) (x0_2 : Value) (x0_3 : Value) (x0_4 : Value) (x0_5 : Value) (x0_6 : Value) (x0_7 : Value) (x0_8 : Value) (x0_9 : Value) (x0_10 : Value) (x0_11 : Value) (x0_12 : Value) (x0_13 : Value) (x0_14 : Value) (x0_15 : Value) (x0_16 : Value) (x0_17 : Value) (x0_18 : Value) (x0_19 : Value) (x0_20 : Value) (x0_21 : Value) (x0_22 : Value) (x0_23 : Value) (x0_24 : Value) (x0_25 : Value) (x0_26 : Value) (x0_27 : Value) (x0_28 : Value) (x0_29 : Value) (x0_30 : Value) (x0_31 : Value) (x0_32 : Value) (x0_33 : Value) (x0_34 : Value) (x0_35 : Value) (x0_36 : Value) (x0_37 : Value) (x0_38 : Value) (x0_39 : Value) (x0_40 : Value) (R : Ending → Heap → Prop) (H : Heap) : Prop :=
  al H (Obj.cells #[x0_0, x0_1, x0_2, x0_3, x0_4, x0_5, x0_6, x0_7, x0_8, x0_9, x0_10, x0_11, x0_12, x0_13, x0_14, x0_15, x0_16, x0_17, x0_18, x0_19, x0_20, x0_21, x0_22, x0_23, x0_24, x0_25, x0_26, x0_27, x0_28, x0_29, x0_30, x0_31, x0_32, x0_33, x0_34, x0_35, x0_36, x0_37, x0_38, x0_39, x0_40] 118) (fun r1 H2 =>
  jn (α := VFH 1) (fun v3 H4 =>
  ∀ v5 v6 v7 v8 v9 v10 v11 : Value,
  dBl v3 (fun b12 =>
  sB b12 (R (Ending.returned (Value.tuple #[Value.slice none 0 0, Value.int IntKind.i64 1])) H4) (al H4 (Obj.cells #[Value.int IntKind.u8 104, Value.int IntKind.u8 100] 5) (fun r13 H14 =>
  semW Tryz.prog (convert 85 85 (Value.slice (some (Addr.mk r13 0 none)) 2 2)) (pnR R) H14 (fun v17 H18 =>
  dSl v17 (fun p19 r20 r21 =>
  ld H18 (Addr.mk r1 0 none) (fun v22 =>
  dInt IntKind.i64 v22 (fun n23 =>
  wr IntKind.u8 n23 (fun n24 =>
  al H18 (Obj.cells #[Value.int IntKind.u8 n24, Value.int IntKind.u8 0] 5) (fun r25 H26 =>
  semW Tryz.prog (Builtin.append_ #[85, 85] 85 #[Value.slice p19 r20 r21, Value.slice (some (Addr.mk r25 0 none)) 2 2]) (pnR R) H26 (fun v29 H30 =>
  dSl v29 (fun p31 r32 r33 =>
  ask ((0 : Int) ≤ (0 : Int) ∧ (0 : Int) ≤ (8 : Int) ∧ (8 : Int) ≤ (8 : Int) ∧ (8 : Int) ≤ (8 : Int)) (ask ((0 : Int) ≤ (0 : Int) ∧ (0 : Int) ≤ (32 : Int) ∧ (32 : Int) ≤ (32 : Int) ∧ (32 : Int) ≤ (32 : Int)) (semW Tryz.prog (Builtin.append_ #[85, 85] 85 #[Value.slice p31 r32 r33, Value.slice (slO (some (Addr.mk r1 1 none)) 1 0 8) (Int.toNat 8 - Int.toNat 0) (Int.toNat 8 - Int.toNat 0)]) nopR H30 (fun v36 H37 =>
  dSl v36 (fun p38 r39 r40 =>
  semW Tryz.prog (Builtin.append_ #[85, 85] 85 #[Value.slice p38 r39 r40, Value.slice (slO (some (Addr.mk r1 9 none)) 1 0 32) (Int.toNat 32 - Int.toNat 0) (Int.toNat 32 - Int.toNat 0)]) nopR H37 (fun v43 H44 =>
  dSl v43 (fun p45 r46 r47 =>
  semW Tryz.prog (Builtin.append_ #[85, 3] 85 #[Value.slice p45 r46 r47, Value.int IntKind.i64 84]) (pnR R) H44 (fun v50 H51 =>
  dSl v50 (fun p52 r53 r54 =>
  R (Ending.returned (Value.tuple #[Value.slice p52 r53 r54, Value.int IntKind.i64 0])) H51)))))))))))))))))))) (fun k55 =>
  ld H2 (Addr.mk r1 0 none) (fun v56 =>
  dInt IntKind.i64 v56 (fun n57 =>
  sB (decide (n57 < 0)) (k55 (Value.bool true) H2) (ld H2 (Addr.mk r1 0 none) (fun v58 =>
  dInt IntKind.i64 v58 (fun n59 =>
  k55 (Value.bool (decide (n59 > 7))) H2)))))))
theorem F112_eq (x0_0 : Value) (x0_1 : Value) (x0_2 : Value) (x0_3 : Value) (x0_4 : Value) (x0_5 : Value) (x0_6 : Value) (x0_7 : Value) (x0_8 : Value) (x0_9 : Value) (x0_10 : Value) (x0_11 : Value) (x0_12 : Value) (x0_13 : Value) (x0_14 : Value) (x0_15 : Value) (x0_16 : Value) (x0_17 : Value) (x0_18 : Value) (x0_19 : Value) (x0_20 : Value) (x0_21 : Value) (x0_22 : Value) (x0_23 : Value) (x0_24 : Value) (x0_25 : Value) (x0_26 : Value) (x0_27 : Value) (x0_28 : Value) (x0_29 : Value) (x0_30 : Value) (x0_31 : Value) (x0_32 : Value) (x0_33 : Value) (x0_34 : Value) (x0_35 : Value) (x0_36 : Value) (x0_37 : Value) (x0_38 : Value) (x0_39 : Value) (x0_40 : Value) (R : Ending → Heap → Prop) (H : Heap) : F112 x0_0 x0_1 x0_2 x0_3 x0_4 x0_5 x0_6 x0_7 x0_8 x0_9 x0_10 x0_11 x0_12 x0_13 x0_14 x0_15 x0_16 x0_17 x0_18 x0_19 x0_20 x0_21 x0_22 x0_23 x0_24 x0_25 x0_26 x0_27 x0_28 x0_29 x0_30 x0_31 x0_32 x0_33 x0_34 x0_35 x0_36 x0_37 x0_38 x0_39 x0_40 R H = vc Tryz.prog (codeOf Tryz.f112) (.node none .leaf (.node none (.node (some ⟨[(12, 4)], [5, 6, 7, 8, 9, 10, 11]⟩) .leaf .leaf) .leaf)) (postV Tryz.prog Tryz.f112 R) ⟨#[Value.agg #[x0_0, x0_1, x0_2, x0_3, x0_4, x0_5, x0_6, x0_7, x0_8, x0_9, x0_10, x0_11, x0_12, x0_13, x0_14, x0_15, x0_16, x0_17, x0_18, x0_19, x0_20, x0_21, x0_22, x0_23, x0_24, x0_25, x0_26, x0_27, x0_28, x0_29, x0_30, x0_31, x0_32, x0_33, x0_34, x0_35, x0_36, x0_37, x0_38, x0_39, x0_40]] ++ Array.replicate (Tryz.f112.ntmps - 1) undef, []⟩ H := by kernel_rfl
theorem F112_calls {R : Ending → Heap → Prop} {H : Heap} (x0_0 : Value) (x0_1 : Value) (x0_2 : Value) (x0_3 : Value) (x0_4 : Value) (x0_5 : Value) (x0_6 : Value) (x0_7 : Value) (x0_8 : Value) (x0_9 : Value) (x0_10 : Value) (x0_11 : Value) (x0_12 : Value) (x0_13 : Value) (x0_14 : Value) (x0_15 : Value) (x0_16 : Value) (x0_17 : Value) (x0_18 : Value) (x0_19 : Value) (x0_20 : Value) (x0_21 : Value) (x0_22 : Value) (x0_23 : Value) (x0_24 : Value) (x0_25 : Value) (x0_26 : Value) (x0_27 : Value) (x0_28 : Value) (x0_29 : Value) (x0_30 : Value) (x0_31 : Value) (x0_32 : Value) (x0_33 : Value) (x0_34 : Value) (x0_35 : Value) (x0_36 : Value) (x0_37 : Value) (x0_38 : Value) (x0_39 : Value) (x0_40 : Value) (h : F112 x0_0 x0_1 x0_2 x0_3 x0_4 x0_5 x0_6 x0_7 x0_8 x0_9 x0_10 x0_11 x0_12 x0_13 x0_14 x0_15 x0_16 x0_17 x0_18 x0_19 x0_20 x0_21 x0_22 x0_23 x0_24 x0_25 x0_26 x0_27 x0_28 x0_29 x0_30 x0_31 x0_32 x0_33 x0_34 x0_35 x0_36 x0_37 x0_38 x0_39 x0_40 R H) : HCalls Tryz.prog 112 #[Value.agg #[x0_0, x0_1, x0_2, x0_3, x0_4, x0_5, x0_6, x0_7, x0_8, x0_9, x0_10, x0_11, x0_12, x0_13, x0_14, x0_15, x0_16, x0_17, x0_18, x0_19, x0_20, x0_21, x0_22, x0_23, x0_24, x0_25, x0_26, x0_27, x0_28, x0_29, x0_30, x0_31, x0_32, x0_33, x0_34, x0_35, x0_36, x0_37, x0_38, x0_39, x0_40]] H R :=
  calls_by (F := F112 x0_0 x0_1 x0_2 x0_3 x0_4 x0_5 x0_6 x0_7 x0_8 x0_9 x0_10 x0_11 x0_12 x0_13 x0_14 x0_15 x0_16 x0_17 x0_18 x0_19 x0_20 x0_21 x0_22 x0_23 x0_24 x0_25 x0_26 x0_27 x0_28 x0_29 x0_30 x0_31 x0_32 x0_33 x0_34 x0_35 x0_36 x0_37 x0_38 x0_39 x0_40 R H) (.node none .leaf (.node none (.node (some ⟨[(12, 4)], [5, 6, 7, 8, 9, 10, 11]⟩) .leaf .leaf) .leaf)) Tryz.func112 rfl (F112_eq x0_0 x0_1 x0_2 x0_3 x0_4 x0_5 x0_6 x0_7 x0_8 x0_9 x0_10 x0_11 x0_12 x0_13 x0_14 x0_15 x0_16 x0_17 x0_18 x0_19 x0_20 x0_21 x0_22 x0_23 x0_24 x0_25 x0_26 x0_27 x0_28 x0_29 x0_30 x0_31 x0_32 x0_33 x0_34 x0_35 x0_36 x0_37 x0_38 x0_39 x0_40 R H) h
/-- bollard/bollardref12.clash -/
def F113 (x0a : Option Addr) (x0n : Nat) (x0c : Nat) (R : Ending → Heap → Prop) (H : Heap) : Prop :=
  ∃ I1 : List Value → Heap → Prop,
  ∃ I2 : List Value → Heap → Nat,
  (I1 ([Value.int IntKind.i64 0]) H) ∧
  ∀ n3 : Int,
  ∀ v4 v5 v6 v7 v8 v9 v10 v11 v12 v13 v14 v15 v16 v17 v18 v19 v20 v21 v22 v23 v24 v25 v26 v27 v28 v29 v30 v31 v32 v33 v34 v35 v36 : Value,
  ∀ H37 : Heap,
  (I1 ([Value.int IntKind.i64 n3]) H37) →
  sB (decide (n3 < (↑x0n : Int))) (nz x0a (fun a39 =>
  ask ((0 : Int) ≤ n3 ∧ n3 < (↑x0n : Int)) (ld H37 (Addr.add a39 (Int.toNat n3 * 2)) (fun v40 =>
  ld H37 (Addr.add (Addr.add a39 (Int.toNat n3 * 2)) 1) (fun v41 =>
  al H37 (Obj.cells #[Value.int IntKind.i64 0, Value.string (ByteArray.mk #[])] 129) (fun r42 H43 =>
  st H43 (Addr.mk r42 0 none) v40 (fun H44 =>
  st H44 (Addr.mk r42 1 none) v41 (fun H45 =>
  ask ((0 : Int) ≤ (0 : Int) ∧ (0 : Int) ≤ n3 ∧ n3 ≤ (↑x0c : Int) ∧ (↑x0c : Int) ≤ (↑x0c : Int)) (∃ I46 : List Value → Heap → Prop,
  ∃ I47 : List Value → Heap → Nat,
  (I46 ([Value.int IntKind.i64 0]) H45) ∧
  ∀ n48 : Int,
  ∀ v49 v50 v51 v52 v53 v54 v55 v56 v57 v58 v59 v60 v61 v62 v63 v64 v65 v66 v67 v68 v69 : Value,
  ∀ H70 : Heap,
  (I46 ([Value.int IntKind.i64 n48]) H70) →
  sB (decide (n48 < (↑(Int.toNat n3 - Int.toNat 0) : Int))) (nz (slO x0a 2 0 (↑x0c : Int)) (fun a72 =>
  ask ((0 : Int) ≤ n48 ∧ n48 < (↑(Int.toNat n3 - Int.toNat (0 : Int)) : Int)) (ld H70 (Addr.add a72 (Int.toNat n48 * 2)) (fun v73 =>
  ld H70 (Addr.add (Addr.add a72 (Int.toNat n48 * 2)) 1) (fun v74 =>
  al H70 (Obj.cells #[Value.int IntKind.i64 0, Value.string (ByteArray.mk #[])] 129) (fun r75 H76 =>
  st H76 (Addr.mk r75 0 none) v73 (fun H77 =>
  st H77 (Addr.mk r75 1 none) v74 (fun H78 =>
  jn (α := VFH 1) (fun v79 H80 =>
  ∀ v81 v82 v83 v84 v85 v86 v87 v88 v89 v90 v91 v92 v93 v94 : Value,
  dBl v79 (fun b95 =>
  sB b95 (R (Ending.returned (Value.bool true)) H80) (wr IntKind.i64 (n48 + 1) (fun n96 =>
  (I46 ([Value.int IntKind.i64 n96]) H80) ∧
  (I47 [Value.int IntKind.i64 n96] H80) < (I47 [Value.int IntKind.i64 n48] H70))))) (fun k97 =>
  ld H78 (Addr.mk r42 0 none) (fun v98 =>
  dInt IntKind.i64 v98 (fun n99 =>
  sB (n99 != 0) (ld H78 (Addr.mk r75 0 none) (fun v100 =>
  dInt IntKind.i64 v100 (fun n101 =>
  sB (n101 != 0) (ld H78 (Addr.mk r42 1 none) (fun v102 =>
  dStr v102 (fun s103 =>
  ld H78 (Addr.mk r75 1 none) (fun v104 =>
  dStr v104 (fun s105 =>
  k97 (Value.bool (ByteArray.toList s103 == ByteArray.toList s105)) H78))))) (k97 (Value.bool false) H78)))) (k97 (Value.bool false) H78)))))))))))) (wr IntKind.i64 (n3 + 1) (fun n106 =>
  (I1 ([Value.int IntKind.i64 n106]) H70) ∧
  (I2 [Value.int IntKind.i64 n106] H70) < (I2 [Value.int IntKind.i64 n3] H37)))))))))))) (R (Ending.returned (Value.bool false)) H37)
theorem F113_eq (x0a : Option Addr) (x0n : Nat) (x0c : Nat) (R : Ending → Heap → Prop) (H : Heap) : F113 x0a x0n x0c R H = vc Tryz.prog (codeOf Tryz.f113) (.node none .leaf (.node none (.node none .leaf (.node none (.node (some ⟨[(9, 3)], [2, 3, 4, 6, 10, 11, 12, 13, 14, 15, 16, 17, 18, 19, 20, 21, 22, 23, 24, 25, 26, 27, 28, 29, 30, 31, 32, 33, 34, 35, 36, 37, 38]⟩) (.node none .leaf (.node none .leaf (.node none (.node none (.node none .leaf (.node none .leaf (.node none (.node (some ⟨[(18, 3)], [2, 6, 19, 20, 21, 22, 23, 24, 25, 26, 27, 28, 29, 30, 31, 32, 33, 34, 35, 36, 37]⟩) (.node none .leaf (.node none .leaf (.node none (.node none (.node none .leaf (.node (some ⟨[(36, 4)], [22, 23, 24, 25, 26, 27, 28, 29, 30, 31, 32, 33, 34, 35]⟩) .leaf .leaf)) .leaf) .leaf))) .leaf) .leaf))) .leaf) .leaf))) .leaf) .leaf)) .leaf)) (postV Tryz.prog Tryz.f113 R) ⟨#[Value.slice x0a x0n x0c] ++ Array.replicate (Tryz.f113.ntmps - 1) undef, []⟩ H := by kernel_rfl
theorem F113_calls {R : Ending → Heap → Prop} {H : Heap} (x0a : Option Addr) (x0n : Nat) (x0c : Nat) (h : F113 x0a x0n x0c R H) : HCalls Tryz.prog 113 #[Value.slice x0a x0n x0c] H R :=
  calls_by (F := F113 x0a x0n x0c R H) (.node none .leaf (.node none (.node none .leaf (.node none (.node (some ⟨[(9, 3)], [2, 3, 4, 6, 10, 11, 12, 13, 14, 15, 16, 17, 18, 19, 20, 21, 22, 23, 24, 25, 26, 27, 28, 29, 30, 31, 32, 33, 34, 35, 36, 37, 38]⟩) (.node none .leaf (.node none .leaf (.node none (.node none (.node none .leaf (.node none .leaf (.node none (.node (some ⟨[(18, 3)], [2, 6, 19, 20, 21, 22, 23, 24, 25, 26, 27, 28, 29, 30, 31, 32, 33, 34, 35, 36, 37]⟩) (.node none .leaf (.node none .leaf (.node none (.node none (.node none .leaf (.node (some ⟨[(36, 4)], [22, 23, 24, 25, 26, 27, 28, 29, 30, 31, 32, 33, 34, 35]⟩) .leaf .leaf)) .leaf) .leaf))) .leaf) .leaf))) .leaf) .leaf))) .leaf) .leaf)) .leaf)) Tryz.func113 rfl (F113_eq x0a x0n x0c R H) h
/-- bollard/bollardref03.EncodeEntry -/
def F114 (x0_0 : Value) (x0_1 : Value) (R : Ending → Heap → Prop) (H : Heap) : Prop :=
  al H (Obj.cells #[x0_0, x0_1] 129) (fun r1 H2 =>
  ask ((0 : Int) ≤ (16 : Int) ∧ (16 : Int) ≤ (16 : Int) ∧ (16 : Int) ≤ (281474976710656 : Int) ∧ (16 : Int) ≤ (9223372036854775807 : Int)) (al H2 (Obj.cells (List.toArray (rowZ [Value.int IntKind.u8 0] (Int.toNat 16))) 5) (fun r3 H4 =>
  ld H4 (Addr.mk r1 0 none) (fun v5 =>
  ld H4 (Addr.mk r1 1 none) (fun v6 =>
  semW Tryz.prog (eqSem BinOp.eql 129 (Operand.tmp 6) (Operand.tmp 7) (Value.agg #[v5, v6]) (Value.agg #[Value.int IntKind.i64 0, Value.string (ByteArray.mk #[])])) (pnR R) H4 (fun v9 H10 =>
  dBl v9 (fun b11 =>
  sB b11 (R (Ending.returned (Value.tuple #[Value.slice (some (Addr.mk r3 0 none)) (Int.toNat 16) (Int.toNat 16), Value.int IntKind.i64 0])) H10) (jn (α := VFH 1) (fun v12 H13 =>
  ∀ v14 v15 v16 v17 v18 v19 v20 v21 v22 v23 v24 v25 v26 v27 v28 v29 v30 v31 v32 v33 v34 v35 v36 : Value,
  dBl v12 (fun b37 =>
  sB b37 (R (Ending.returned (Value.tuple #[Value.slice none 0 0, Value.int IntKind.i64 1])) H13) (ld H13 (Addr.mk r1 0 none) (fun v38 =>
  dInt IntKind.i64 v38 (fun n39 =>
  HCalls Tryz.prog 81 #[Value.slice (some (Addr.mk r3 0 none)) (Int.toNat 16) (Int.toNat 16), Value.int IntKind.i64 0, Value.int IntKind.i64 2, Value.int IntKind.i64 n39] H13 (Sp.retK (fun v40 H41 =>
  dSl v40 (fun p42 r43 r44 =>
  ld H41 (Addr.mk r1 1 none) (fun v45 =>
  dStr v45 (fun s46 =>
  HCalls Tryz.prog 81 #[Value.slice p42 r43 r44, Value.int IntKind.i64 2, Value.int IntKind.i64 1, Value.int IntKind.i64 (↑(ByteArray.size s46) : Int)] H41 (Sp.retK (fun v47 H48 =>
  dSl v47 (fun p49 r50 r51 =>
  ask ((0 : Int) ≤ (3 : Int) ∧ (3 : Int) ≤ (↑r50 : Int) ∧ (↑r50 : Int) ≤ (↑r51 : Int) ∧ (↑r51 : Int) ≤ (↑r51 : Int)) (ld H48 (Addr.mk r1 1 none) (fun v52 =>
  dStr v52 (fun s53 =>
  semW Tryz.prog (Builtin.copy_ #[85, 9] 3 #[Value.slice (slO p49 1 3 (↑r51 : Int)) (Int.toNat (↑r50 : Int) - Int.toNat 3) (Int.toNat (↑r51 : Int) - Int.toNat 3), Value.string s53]) nopR H48 (fun v56 H57 =>
  dInt IntKind.i64 v56 (fun n58 =>
  R (Ending.returned (Value.tuple #[Value.slice p49 r50 r51, Value.int IntKind.i64 0])) H57))))))) (pnR R)))))) (pnR R))))))) (fun k63 =>
  ld H10 (Addr.mk r1 0 none) (fun v64 =>
  dInt IntKind.i64 v64 (fun n65 =>
  sB (decide (n65 < 1)) (k63 (Value.bool true) H10) (ld H10 (Addr.mk r1 0 none) (fun v66 =>
  dInt IntKind.i64 v66 (fun n67 =>
  sB (decide (n67 > 511)) (k63 (Value.bool true) H10) (ld H10 (Addr.mk r1 1 none) (fun v68 =>
  dStr v68 (fun s69 =>
  HCalls Tryz.prog 160 #[Value.string s69] H10 (Sp.retK (fun v70 H71 =>
  dBl v70 (fun b72 =>
  sB (!b72) (ld H71 (Addr.mk r1 1 none) (fun v73 =>
  dStr v73 (fun s74 =>
  sB (!ByteArray.toList s74 == [UInt8.ofBitVec 46#8]) (ld H71 (Addr.mk r1 1 none) (fun v75 =>
  dStr v75 (fun s76 =>
  k63 (Value.bool !ByteArray.toList s76 == [UInt8.ofBitVec 46#8, UInt8.ofBitVec 46#8]) H71))) (k63 (Value.bool false) H71)))) (k63 (Value.bool false) H71))) (pnR R)))))))))))))))))))
theorem F114_eq (x0_0 : Value) (x0_1 : Value) (R : Ending → Heap → Prop) (H : Heap) : F114 x0_0 x0_1 R H = vc Tryz.prog (codeOf Tryz.f114) (.node none .leaf (.node none .leaf (.node none .leaf (.node none (.node (some ⟨[(33, 4)], [10, 11, 12, 13, 14, 15, 16, 17, 18, 19, 20, 21, 22, 23, 24, 25, 26, 27, 28, 29, 30, 31, 32]⟩) .leaf .leaf) .leaf)))) (postV Tryz.prog Tryz.f114 R) ⟨#[Value.agg #[x0_0, x0_1]] ++ Array.replicate (Tryz.f114.ntmps - 1) undef, []⟩ H := by kernel_rfl
theorem F114_calls {R : Ending → Heap → Prop} {H : Heap} (x0_0 : Value) (x0_1 : Value) (h : F114 x0_0 x0_1 R H) : HCalls Tryz.prog 114 #[Value.agg #[x0_0, x0_1]] H R :=
  calls_by (F := F114 x0_0 x0_1 R H) (.node none .leaf (.node none .leaf (.node none .leaf (.node none (.node (some ⟨[(33, 4)], [10, 11, 12, 13, 14, 15, 16, 17, 18, 19, 20, 21, 22, 23, 24, 25, 26, 27, 28, 29, 30, 31, 32]⟩) .leaf .leaf) .leaf)))) Tryz.func114 rfl (F114_eq x0_0 x0_1 R H) h
/-- bollard/disk.Of$1 -/
def F115 (x0a : Option Addr) (x0n : Nat) (x0c : Nat) (R : Ending → Heap → Prop) (H : Heap) : Prop :=
  R (Ending.returned (Value.bool ((↑x0n : Int) != 128))) H
theorem F115_eq (x0a : Option Addr) (x0n : Nat) (x0c : Nat) (R : Ending → Heap → Prop) (H : Heap) : F115 x0a x0n x0c R H = vc Tryz.prog (codeOf Tryz.f115) .leaf (postV Tryz.prog Tryz.f115 R) ⟨#[Value.slice x0a x0n x0c] ++ Array.replicate (Tryz.f115.ntmps - 1) undef, []⟩ H := by kernel_rfl
theorem F115_calls {R : Ending → Heap → Prop} {H : Heap} (x0a : Option Addr) (x0n : Nat) (x0c : Nat) (h : F115 x0a x0n x0c R H) : HCalls Tryz.prog 115 #[Value.slice x0a x0n x0c] H R :=
  calls_by (F := F115 x0a x0n x0c R H) .leaf Tryz.func115 rfl (F115_eq x0a x0n x0c R H) h
/-- slices.ContainsFunc[[][]byte,[]byte] -/
def F116 (x0a : Option Addr) (x0n : Nat) (x0c : Nat) (x1g : Nat) (x1f : Array Value) (x1c : Array Value) (R : Ending → Heap → Prop) (H : Heap) : Prop :=
  HCalls Tryz.prog 161 #[Value.slice x0a x0n x0c, Value.func (Fn.func x1g) x1f x1c] H (Sp.retK (fun v1 H2 =>
  dInt IntKind.i64 v1 (fun n3 =>
  R (Ending.returned (Value.bool (decide (n3 ≥ 0)))) H2)) (pnR R))
theorem F116_eq (x0a : Option Addr) (x0n : Nat) (x0c : Nat) (x1g : Nat) (x1f : Array Value) (x1c : Array Value) (R : Ending → Heap → Prop) (H : Heap) : F116 x0a x0n x0c x1g x1f x1c R H = vc Tryz.prog (codeOf Tryz.f116) .leaf (postV Tryz.prog Tryz.f116 R) ⟨#[Value.slice x0a x0n x0c, Value.func (Fn.func x1g) x1f x1c] ++ Array.replicate (Tryz.f116.ntmps - 2) undef, []⟩ H := by kernel_rfl
theorem F116_calls {R : Ending → Heap → Prop} {H : Heap} (x0a : Option Addr) (x0n : Nat) (x0c : Nat) (x1g : Nat) (x1f : Array Value) (x1c : Array Value) (h : F116 x0a x0n x0c x1g x1f x1c R H) : HCalls Tryz.prog 116 #[Value.slice x0a x0n x0c, Value.func (Fn.func x1g) x1f x1c] H R :=
  calls_by (F := F116 x0a x0n x0c x1g x1f x1c R H) .leaf Tryz.func116 rfl (F116_eq x0a x0n x0c x1g x1f x1c R H) h
/-- bollard/disk.image -/
def F117 (x0a : Option Addr) (x0n : Nat) (x0c : Nat) (R : Ending → Heap → Prop) (H : Heap) : Prop :=
  ∃ I1 : List Value → Heap → Prop,
  ∃ I2 : List Value → Heap → Nat,
  (I1 ([Value.slice none 0 0, Value.int IntKind.i64 0]) H) ∧
  ∀ p3 : Option Addr,
  ∀ r4 : Nat,
  ∀ r5 : Nat,
  ∀ n6 : Int,
  ∀ v7 v8 v9 v10 v11 v12 v13 v14 v15 v16 : Value,
  ∀ H17 : Heap,
  (I1 ([Value.slice p3 r4 r5, Value.int IntKind.i64 n6]) H17) →
  sB (decide (n6 < (↑x0n : Int))) (nz x0a (fun a19 =>
  ask ((0 : Int) ≤ n6 ∧ n6 < (↑x0n : Int)) (ld H17 (Addr.add a19 (Int.toNat n6 * 1)) (fun v20 =>
  dSl v20 (fun p21 r22 r23 =>
  HCalls Tryz.prog 118 #[Value.slice p21 r22 r23] H17 (Sp.retK (fun v24 H25 =>
  dSl v24 (fun p26 r27 r28 =>
  al H25 (Obj.cells #[Value.slice p26 r27 r28] 85) (fun r29 H30 =>
  semW Tryz.prog (Builtin.append_ #[49, 49] 49 #[Value.slice p3 r4 r5, Value.slice (some (Addr.mk r29 0 none)) 1 1]) (pnR R) H30 (fun v33 H34 =>
  dSl v33 (fun p35 r36 r37 =>
  wr IntKind.i64 (n6 + 1) (fun n38 =>
  (I1 ([Value.slice p35 r36 r37, Value.int IntKind.i64 n38]) H34) ∧
  (I2 [Value.slice p35 r36 r37, Value.int IntKind.i64 n38] H34) < (I2 [Value.slice p3 r4 r5, Value.int IntKind.i64 n6] H17))))))) (pnR R))))))) (R (Ending.returned (Value.slice p3 r4 r5)) H17)
theorem F117_eq (x0a : Option Addr) (x0n : Nat) (x0c : Nat) (R : Ending → Heap → Prop) (H : Heap) : F117 x0a x0n x0c R H = vc Tryz.prog (codeOf Tryz.f117) (.node none .leaf (.node none .leaf (.node none (.node none .leaf (.node none (.node (some ⟨[(3, 49), (8, 3)], [5, 9, 10, 11, 12, 13, 14, 15, 16, 17]⟩) .leaf .leaf) .leaf)) .leaf))) (postV Tryz.prog Tryz.f117 R) ⟨#[Value.slice x0a x0n x0c] ++ Array.replicate (Tryz.f117.ntmps - 1) undef, []⟩ H := by kernel_rfl
theorem F117_calls {R : Ending → Heap → Prop} {H : Heap} (x0a : Option Addr) (x0n : Nat) (x0c : Nat) (h : F117 x0a x0n x0c R H) : HCalls Tryz.prog 117 #[Value.slice x0a x0n x0c] H R :=
  calls_by (F := F117 x0a x0n x0c R H) (.node none .leaf (.node none .leaf (.node none (.node none .leaf (.node none (.node (some ⟨[(3, 49), (8, 3)], [5, 9, 10, 11, 12, 13, 14, 15, 16, 17]⟩) .leaf .leaf) .leaf)) .leaf))) Tryz.func117 rfl (F117_eq x0a x0n x0c R H) h
/-- bytes.Clone -/
def F118 (x0a : Option Addr) (x0n : Nat) (x0c : Nat) (R : Ending → Heap → Prop) (H : Heap) : Prop :=
  sB (Option.isNone x0a) (R (Ending.returned (Value.slice none 0 0)) H) (al H (Obj.cells #[] 5) (fun r1 H2 =>
  semW Tryz.prog (Builtin.append_ #[85, 85] 85 #[Value.slice (some (Addr.mk r1 0 none)) 0 0, Value.slice x0a x0n x0c]) (pnR R) H2 (fun v5 H6 =>
  dSl v5 (fun p7 r8 r9 =>
  R (Ending.returned (Value.slice p7 r8 r9)) H6))))
theorem F118_eq (x0a : Option Addr) (x0n : Nat) (x0c : Nat) (R : Ending → Heap → Prop) (H : Heap) : F118 x0a x0n x0c R H = vc Tryz.prog (codeOf Tryz.f118) .leaf (postV Tryz.prog Tryz.f118 R) ⟨#[Value.slice x0a x0n x0c] ++ Array.replicate (Tryz.f118.ntmps - 1) undef, []⟩ H := by kernel_rfl
theorem F118_calls {R : Ending → Heap → Prop} {H : Heap} (x0a : Option Addr) (x0n : Nat) (x0c : Nat) (h : F118 x0a x0n x0c R H) : HCalls Tryz.prog 118 #[Value.slice x0a x0n x0c] H R :=
  calls_by (F := F118 x0a x0n x0c R H) .leaf Tryz.func118 rfl (F118_eq x0a x0n x0c R H) h
/-- bollard/bollardref02.copied -/
def F119 (x0a : Option Addr) (x0n : Nat) (x0c : Nat) (R : Ending → Heap → Prop) (H : Heap) : Prop :=
  al H (Obj.cells #[] 5) (fun r1 H2 =>
  semW Tryz.prog (Builtin.append_ #[85, 85] 85 #[Value.slice (some (Addr.mk r1 0 none)) 0 0, Value.slice x0a x0n x0c]) (pnR R) H2 (fun v5 H6 =>
  dSl v5 (fun p7 r8 r9 =>
  R (Ending.returned (Value.slice p7 r8 r9)) H6)))
theorem F119_eq (x0a : Option Addr) (x0n : Nat) (x0c : Nat) (R : Ending → Heap → Prop) (H : Heap) : F119 x0a x0n x0c R H = vc Tryz.prog (codeOf Tryz.f119) .leaf (postV Tryz.prog Tryz.f119 R) ⟨#[Value.slice x0a x0n x0c] ++ Array.replicate (Tryz.f119.ntmps - 1) undef, []⟩ H := by kernel_rfl
theorem F119_calls {R : Ending → Heap → Prop} {H : Heap} (x0a : Option Addr) (x0n : Nat) (x0c : Nat) (h : F119 x0a x0n x0c R H) : HCalls Tryz.prog 119 #[Value.slice x0a x0n x0c] H R :=
  calls_by (F := F119 x0a x0n x0c R H) .leaf Tryz.func119 rfl (F119_eq x0a x0n x0c R H) h
/-- bollard/cache.New -/
def F120 (x0 : Option Addr) (x1 : Int) (R : Ending → Heap → Prop) (H : Heap) : Prop :=
  HCalls Tryz.prog 89 #[Value.pointer x0] H (Sp.retK (fun v1 H2 =>
  dInt IntKind.i64 v1 (fun n3 =>
  sB (n3 == 0) (R (Ending.returned (Value.tuple #[Value.pointer none, Value.int IntKind.i64 2])) H2) (jn (α := VFH 1) (fun v4 H5 =>
  ∀ v6 v7 v8 v9 v10 : Value,
  dBl v4 (fun b11 =>
  sB b11 (R (Ending.returned (Value.tuple #[Value.pointer none, Value.int IntKind.i64 1])) H5) (al H5 (Obj.map #[] 0) (fun r12 H13 =>
  al H13 (Obj.cells #[Value.pointer x0, Value.int IntKind.i64 x1, Value.map (some r12), Value.int IntKind.i64 0, Value.int IntKind.i64 0, Value.int IntKind.i64 0] 234) (fun r14 H15 =>
  R (Ending.returned (Value.tuple #[Value.pointer (some (Addr.mk r14 0 none)), Value.int IntKind.i64 0])) H15))))) (fun k16 =>
  sB (decide (x1 < 1)) (k16 (Value.bool true) H2) (k16 (Value.bool (decide (x1 > 64))) H2))))) (pnR R))
theorem F120_eq (x0 : Option Addr) (x1 : Int) (R : Ending → Heap → Prop) (H : Heap) : F120 x0 x1 R H = vc Tryz.prog (codeOf Tryz.f120) (.node none .leaf (.node none .leaf (.node none (.node (some ⟨[(14, 4)], [9, 10, 11, 12, 13]⟩) .leaf .leaf) .leaf))) (postV Tryz.prog Tryz.f120 R) ⟨#[Value.pointer x0, Value.int IntKind.i64 x1] ++ Array.replicate (Tryz.f120.ntmps - 2) undef, []⟩ H := by kernel_rfl
theorem F120_calls {R : Ending → Heap → Prop} {H : Heap} (x0 : Option Addr) (x1 : Int) (h : F120 x0 x1 R H) : HCalls Tryz.prog 120 #[Value.pointer x0, Value.int IntKind.i64 x1] H R :=
  calls_by (F := F120 x0 x1 R H) (.node none .leaf (.node none .leaf (.node none (.node (some ⟨[(14, 4)], [9, 10, 11, 12, 13]⟩) .leaf .leaf) .leaf))) Tryz.func120 rfl (F120_eq x0 x1 R H) h
/-- bollard/patch.New -/
def F121  (R : Ending → Heap → Prop) (H : Heap) : Prop :=
  al H (Obj.map #[] 0) (fun r1 H2 =>
  al H2 (Obj.map #[] 0) (fun r3 H4 =>
  al H4 (Obj.cells #[Value.int IntKind.i64 0, Value.map (some r1), Value.map (some r3), Value.bool true] 218) (fun r5 H6 =>
  R (Ending.returned (Value.pointer (some (Addr.mk r5 0 none)))) H6)))
theorem F121_eq  (R : Ending → Heap → Prop) (H : Heap) : F121  R H = vc Tryz.prog (codeOf Tryz.f121) .leaf (postV Tryz.prog Tryz.f121 R) ⟨#[] ++ Array.replicate (Tryz.f121.ntmps - 0) undef, []⟩ H := by kernel_rfl
theorem F121_calls {R : Ending → Heap → Prop} {H : Heap}  (h : F121  R H) : HCalls Tryz.prog 121 #[] H R :=
  calls_by (F := F121  R H) .leaf Tryz.func121 rfl (F121_eq  R H) h
/-- bollard/bollardref06.New -/
def F122 (x0 : Option Addr) (x1 : Int) (R : Ending → Heap → Prop) (H : Heap) : Prop :=
  sB (Option.isNone x0) (R (Ending.returned (Value.tuple #[Value.pointer none, Value.int IntKind.i64 2])) H) (jn (α := VFH 1) (fun v1 H2 =>
  ∀ v3 v4 v5 v6 v7 : Value,
  dBl v1 (fun b8 =>
  sB b8 (R (Ending.returned (Value.tuple #[Value.pointer none, Value.int IntKind.i64 1])) H2) (al H2 (Obj.cells #[Value.pointer x0, Value.int IntKind.i64 x1, Value.slice none 0 0, Value.int IntKind.i64 0, Value.int IntKind.i64 0] 237) (fun r9 H10 =>
  R (Ending.returned (Value.tuple #[Value.pointer (some (Addr.mk r9 0 none)), Value.int IntKind.i64 0])) H10)))) (fun k11 =>
  sB (decide (x1 < 1)) (k11 (Value.bool true) H) (k11 (Value.bool (decide (x1 > 64))) H)))
theorem F122_eq (x0 : Option Addr) (x1 : Int) (R : Ending → Heap → Prop) (H : Heap) : F122 x0 x1 R H = vc Tryz.prog (codeOf Tryz.f122) (.node none .leaf (.node none .leaf (.node none (.node (some ⟨[(13, 4)], [8, 9, 10, 11, 12]⟩) .leaf .leaf) .leaf))) (postV Tryz.prog Tryz.f122 R) ⟨#[Value.pointer x0, Value.int IntKind.i64 x1] ++ Array.replicate (Tryz.f122.ntmps - 2) undef, []⟩ H := by kernel_rfl
theorem F122_calls {R : Ending → Heap → Prop} {H : Heap} (x0 : Option Addr) (x1 : Int) (h : F122 x0 x1 R H) : HCalls Tryz.prog 122 #[Value.pointer x0, Value.int IntKind.i64 x1] H R :=
  calls_by (F := F122 x0 x1 R H) (.node none .leaf (.node none .leaf (.node none (.node (some ⟨[(13, 4)], [8, 9, 10, 11, 12]⟩) .leaf .leaf) .leaf))) Tryz.func122 rfl (F122_eq x0 x1 R H) h
/-- (*bollard/cache.Cache).Get -/
def F125 (x0 : Option Addr) (x1 : Int) (R : Ending → Heap → Prop) (H : Heap) : Prop :=
  HCalls Tryz.prog 168 #[Value.pointer x0, Value.int IntKind.i64 x1] H (Sp.retK (fun v1 H2 =>
  dT 2 v1 (fun v3 v4 =>
  dPtr v3 (fun p5 =>
  dInt IntKind.i64 v4 (fun n6 =>
  sB (n6 != 0) (R (Ending.returned (Value.tuple #[Value.slice none 0 0, Value.int IntKind.i64 n6])) H2) (nz p5 (fun a7 =>
  ld H2 a7 (fun v8 =>
  dSl v8 (fun p9 r10 r11 =>
  HCalls Tryz.prog 118 #[Value.slice p9 r10 r11] H2 (Sp.retK (fun v12 H13 =>
  dSl v12 (fun p14 r15 r16 =>
  R (Ending.returned (Value.tuple #[Value.slice p14 r15 r16, Value.int IntKind.i64 0])) H13)) (pnR R)))))))))) (pnR R))
theorem F125_eq (x0 : Option Addr) (x1 : Int) (R : Ending → Heap → Prop) (H : Heap) : F125 x0 x1 R H = vc Tryz.prog (codeOf Tryz.f125) .leaf (postV Tryz.prog Tryz.f125 R) ⟨#[Value.pointer x0, Value.int IntKind.i64 x1] ++ Array.replicate (Tryz.f125.ntmps - 2) undef, []⟩ H := by kernel_rfl
theorem F125_calls {R : Ending → Heap → Prop} {H : Heap} (x0 : Option Addr) (x1 : Int) (h : F125 x0 x1 R H) : HCalls Tryz.prog 125 #[Value.pointer x0, Value.int IntKind.i64 x1] H R :=
  calls_by (F := F125 x0 x1 R H) .leaf Tryz.func125 rfl (F125_eq x0 x1 R H) h
/-- (*bollard/patch.Set).Now -/
def F126 (x0 : Option Addr) (x1 : Int) (x2a : Option Addr) (x2n : Nat) (x2c : Nat) (R : Ending → Heap → Prop) (H : Heap) : Prop :=
  HCalls Tryz.prog 134 #[Value.pointer x0] H (Sp.retK (fun v1 H2 =>
  dBl v1 (fun b3 =>
  sB (!b3) (R (Ending.returned (Value.tuple #[Value.slice none 0 0, Value.int IntKind.i64 2])) H2) (sB ((↑x2n : Int) != 128) (R (Ending.returned (Value.tuple #[Value.slice none 0 0, Value.int IntKind.i64 1])) H2) (HCalls Tryz.prog 170 #[Value.pointer x0, Value.int IntKind.i64 x1] H2 (Sp.retK (fun v4 H5 =>
  dSl v4 (fun p6 r7 r8 =>
  HCalls Tryz.prog 169 #[Value.pointer x0, Value.slice x2a x2n x2c, Value.slice p6 r7 r8] H5 (Sp.retK (fun v9 H10 =>
  dSl v9 (fun p11 r12 r13 =>
  R (Ending.returned (Value.tuple #[Value.slice p11 r12 r13, Value.int IntKind.i64 0])) H10)) (pnR R)))) (pnR R)))))) (pnR R))
theorem F126_eq (x0 : Option Addr) (x1 : Int) (x2a : Option Addr) (x2n : Nat) (x2c : Nat) (R : Ending → Heap → Prop) (H : Heap) : F126 x0 x1 x2a x2n x2c R H = vc Tryz.prog (codeOf Tryz.f126) .leaf (postV Tryz.prog Tryz.f126 R) ⟨#[Value.pointer x0, Value.int IntKind.i64 x1, Value.slice x2a x2n x2c] ++ Array.replicate (Tryz.f126.ntmps - 3) undef, []⟩ H := by kernel_rfl
theorem F126_calls {R : Ending → Heap → Prop} {H : Heap} (x0 : Option Addr) (x1 : Int) (x2a : Option Addr) (x2n : Nat) (x2c : Nat) (h : F126 x0 x1 x2a x2n x2c R H) : HCalls Tryz.prog 126 #[Value.pointer x0, Value.int IntKind.i64 x1, Value.slice x2a x2n x2c] H R :=
  calls_by (F := F126 x0 x1 x2a x2n x2c R H) .leaf Tryz.func126 rfl (F126_eq x0 x1 x2a x2n x2c R H) h
/-- bollard/word.Get -/
def F127 (x0a : Option Addr) (x0n : Nat) (x0c : Nat) (x1 : Int) (x2 : Int) (R : Ending → Heap → Prop) (H : Heap) : Prop :=
  HCalls Tryz.prog 171 #[Value.slice x0a x0n x0c, Value.int IntKind.i64 x1, Value.int IntKind.i64 x2] H (Sp.retK (fun v1 H2 =>
  dInt IntKind.i64 v1 (fun n3 =>
  sB (n3 != 0) (R (Ending.returned (Value.tuple #[Value.int IntKind.i64 0, Value.int IntKind.i64 n3])) H2) (∃ I4 : List Value → Heap → Prop,
  ∃ I5 : List Value → Heap → Nat,
  (I4 ([Value.int IntKind.i64 0, Value.int IntKind.i64 0]) H2) ∧
  ∀ n6 : Int,
  ∀ n7 : Int,
  ∀ v8 v9 v10 v11 v12 v13 v14 v15 v16 v17 v18 v19 v20 v21 v22 v23 : Value,
  ∀ H24 : Heap,
  (I4 ([Value.int IntKind.i64 n6, Value.int IntKind.i64 n7]) H24) →
  sB (decide (n7 < x2)) (wr IntKind.i64 (x1 + n7) (fun n26 =>
  nz x0a (fun a27 =>
  ask ((0 : Int) ≤ n26 ∧ n26 < (↑x0n : Int)) (ld H24 (Addr.add a27 (Int.toNat n26 * 1)) (fun v28 =>
  dInt IntKind.u8 v28 (fun n29 =>
  wr IntKind.i64 n29 (fun n30 =>
  wr IntKind.i64 (8 * n7) (fun n31 =>
  ask ((0 : Int) ≤ n31) (nm (IntKind.wrap IntKind.i64 (n30 * 2 ^ min (Int.toNat n31) 64)) (fun n32 =>
  nm (IntKind.wrap IntKind.i64 (↑(BitVec.toNat (BitVec.ofInt 64 n6 ||| BitVec.ofInt 64 n32)) : Int)) (fun n33 =>
  wr IntKind.i64 (n7 + 1) (fun n34 =>
  (I4 ([Value.int IntKind.i64 n33, Value.int IntKind.i64 n34]) H24) ∧
  (I5 [Value.int IntKind.i64 n33, Value.int IntKind.i64 n34] H24) < (I5 [Value.int IntKind.i64 n6, Value.int IntKind.i64 n7] H24))))))))))))) (R (Ending.returned (Value.tuple #[Value.int IntKind.i64 n6, Value.int IntKind.i64 0])) H24)))) (pnR R))
theorem F127_eq (x0a : Option Addr) (x0n : Nat) (x0c : Nat) (x1 : Int) (x2 : Int) (R : Ending → Heap → Prop) (H : Heap) : F127 x0a x0n x0c x1 x2 R H = vc Tryz.prog (codeOf Tryz.f127) (.node none .leaf (.node none .leaf (.node none .leaf (.node none .leaf (.node none (.node none .leaf (.node none (.node (some ⟨[(9, 3), (19, 3)], [10, 20, 21, 22, 23, 24, 25, 26, 27, 28, 29, 30, 31, 32, 33, 34]⟩) .leaf .leaf) .leaf)) .leaf))))) (postV Tryz.prog Tryz.f127 R) ⟨#[Value.slice x0a x0n x0c, Value.int IntKind.i64 x1, Value.int IntKind.i64 x2] ++ Array.replicate (Tryz.f127.ntmps - 3) undef, []⟩ H := by kernel_rfl
theorem F127_calls {R : Ending → Heap → Prop} {H : Heap} (x0a : Option Addr) (x0n : Nat) (x0c : Nat) (x1 : Int) (x2 : Int) (h : F127 x0a x0n x0c x1 x2 R H) : HCalls Tryz.prog 127 #[Value.slice x0a x0n x0c, Value.int IntKind.i64 x1, Value.int IntKind.i64 x2] H R :=
  calls_by (F := F127 x0a x0n x0c x1 x2 R H) (.node none .leaf (.node none .leaf (.node none .leaf (.node none .leaf (.node none (.node none .leaf (.node none (.node (some ⟨[(9, 3), (19, 3)], [10, 20, 21, 22, 23, 24, 25, 26, 27, 28, 29, 30, 31, 32, 33, 34]⟩) .leaf .leaf) .leaf)) .leaf))))) Tryz.func127 rfl (F127_eq x0a x0n x0c x1 x2 R H) h
/-- bollard/word.Sum -/
def F128 (x0a : Option Addr) (x0n : Nat) (x0c : Nat) (R : Ending → Heap → Prop) (H : Heap) : Prop :=
  ∃ I1 : List Value → Heap → Prop,
  ∃ I2 : List Value → Heap → Nat,
  (I1 ([Value.int IntKind.i64 1, Value.int IntKind.i64 0, Value.int IntKind.i64 0]) H) ∧
  ∀ n3 : Int,
  ∀ n4 : Int,
  ∀ n5 : Int,
  ∀ v6 v7 v8 v9 v10 v11 v12 v13 v14 v15 v16 v17 v18 v19 : Value,
  ∀ H20 : Heap,
  (I1 ([Value.int IntKind.i64 n3, Value.int IntKind.i64 n4, Value.int IntKind.i64 n5]) H20) →
  sB (decide (n5 < (↑x0n : Int))) (nz x0a (fun a22 =>
  ask ((0 : Int) ≤ n5 ∧ n5 < (↑x0n : Int)) (ld H20 (Addr.add a22 (Int.toNat n5 * 1)) (fun v23 =>
  dInt IntKind.u8 v23 (fun n24 =>
  wr IntKind.i64 n24 (fun n25 =>
  wr IntKind.i64 (n3 + n25) (fun n26 =>
  ask ((65521 : Int) ≠ (0 : Int)) (nm (Int.tmod n26 65521) (fun n27 =>
  wr IntKind.i64 (n4 + n27) (fun n28 =>
  ask ((65521 : Int) ≠ (0 : Int)) (nm (Int.tmod n28 65521) (fun n29 =>
  wr IntKind.i64 (n5 + 1) (fun n30 =>
  (I1 ([Value.int IntKind.i64 n27, Value.int IntKind.i64 n29, Value.int IntKind.i64 n30]) H20) ∧
  (I2 [Value.int IntKind.i64 n27, Value.int IntKind.i64 n29, Value.int IntKind.i64 n30] H20) < (I2 [Value.int IntKind.i64 n3, Value.int IntKind.i64 n4, Value.int IntKind.i64 n5] H20)))))))))))))) (ask ((0 : Int) ≤ (16 : Int)) (nm (IntKind.wrap IntKind.i64 (n4 * 2 ^ min (Int.toNat 16) 64)) (fun n31 =>
  wr IntKind.i64 (n31 + n3) (fun n32 =>
  R (Ending.returned (Value.int IntKind.i64 n32)) H20))))
theorem F128_eq (x0a : Option Addr) (x0n : Nat) (x0c : Nat) (R : Ending → Heap → Prop) (H : Heap) : F128 x0a x0n x0c R H = vc Tryz.prog (codeOf Tryz.f128) (.node none .leaf (.node none .leaf (.node none (.node none .leaf (.node none (.node (some ⟨[(3, 3), (4, 3), (9, 3)], [6, 10, 11, 12, 13, 14, 15, 16, 17, 18, 19, 20, 21, 22]⟩) .leaf .leaf) .leaf)) .leaf))) (postV Tryz.prog Tryz.f128 R) ⟨#[Value.slice x0a x0n x0c] ++ Array.replicate (Tryz.f128.ntmps - 1) undef, []⟩ H := by kernel_rfl
theorem F128_calls {R : Ending → Heap → Prop} {H : Heap} (x0a : Option Addr) (x0n : Nat) (x0c : Nat) (h : F128 x0a x0n x0c R H) : HCalls Tryz.prog 128 #[Value.slice x0a x0n x0c] H R :=
  calls_by (F := F128 x0a x0n x0c R H) (.node none .leaf (.node none .leaf (.node none (.node none .leaf (.node none (.node (some ⟨[(3, 3), (4, 3), (9, 3)], [6, 10, 11, 12, 13, 14, 15, 16, 17, 18, 19, 20, 21, 22]⟩) .leaf .leaf) .leaf)) .leaf))) Tryz.func128 rfl (F128_eq x0a x0n x0c R H) h
/-- (*bollard/word.Reader).do -/
def F129 (x0 : Option Addr) (x1g : Nat) (x1f : Array Value) (x1c : Array Value) (R : Ending → Heap → Prop) (H : Heap) : Prop :=
  al H (Obj.cells #[Value.pointer x0] 142) (fun r1 H2 =>
  jn (α := VFH 1) (fun v3 H4 =>
  ∀ v5 v6 v7 v8 v9 v10 v11 v12 v13 v14 v15 v16 v17 v18 v19 : Value,
  dBl v3 (fun b20 =>
  sB b20 (R (Ending.returned (Value.tuple #[])) H4) (gB (plainFn Tryz.prog x1g) (HCalls Tryz.prog x1g (argsOf x1f [] x1c) H4 (Sp.retK (fun v21 H22 =>
  HCallsD Tryz.prog 172 #[Value.pointer (some (Addr.mk r1 0 none))] FrameMode.returning H22 (fun e23 u24 H25 =>
  match e23 with
| Ending.returned v => leavesV Tryz.prog Tryz.f129 (Act.tmps (Act.mk #[Value.pointer x0, Value.func (Fn.func x1g) x1f x1c, Value.pointer (some (Addr.mk r1 0 none)), undef, v5, v6, v7, v8, v9, v10, v11, v12, v13, v14, v15, v16, v17, v18, v19, Value.bool b20, Value.func (Fn.func 172) #[] #[Value.pointer (some (Addr.mk r1 0 none))], Value.func (Fn.func x1g) x1f x1c, v21] [Deferred.mk (Target.fn (Fn.func 172) #[Value.pointer (some (Addr.mk r1 0 none))]) #[]])) R [] (settle u24) H25
| Ending.panicked c => leavesV Tryz.prog Tryz.f129 (Act.tmps (Act.mk #[Value.pointer x0, Value.func (Fn.func x1g) x1f x1c, Value.pointer (some (Addr.mk r1 0 none)), undef, v5, v6, v7, v8, v9, v10, v11, v12, v13, v14, v15, v16, v17, v18, v19, Value.bool b20, Value.func (Fn.func 172) #[] #[Value.pointer (some (Addr.mk r1 0 none))], Value.func (Fn.func x1g) x1f x1c, v21] [Deferred.mk (Target.fn (Fn.func 172) #[Value.pointer (some (Addr.mk r1 0 none))]) #[]])) R [] (raised u24 c) H25
| Ending.outgrown => False)) (fun c26 H27 =>
  HCallsD Tryz.prog 172 #[Value.pointer (some (Addr.mk r1 0 none))] (FrameMode.panicking c26) H27 (fun e28 u29 H30 =>
  match e28 with
| Ending.returned v => leavesV Tryz.prog Tryz.f129 (Act.tmps (Act.mk #[Value.pointer x0, Value.func (Fn.func x1g) x1f x1c, Value.pointer (some (Addr.mk r1 0 none)), undef, v5, v6, v7, v8, v9, v10, v11, v12, v13, v14, v15, v16, v17, v18, v19, Value.bool b20, Value.func (Fn.func 172) #[] #[Value.pointer (some (Addr.mk r1 0 none))], Value.func (Fn.func x1g) x1f x1c, undef] [Deferred.mk (Target.fn (Fn.func 172) #[Value.pointer (some (Addr.mk r1 0 none))]) #[]])) R [] (settle u29) H30
| Ending.panicked c => leavesV Tryz.prog Tryz.f129 (Act.tmps (Act.mk #[Value.pointer x0, Value.func (Fn.func x1g) x1f x1c, Value.pointer (some (Addr.mk r1 0 none)), undef, v5, v6, v7, v8, v9, v10, v11, v12, v13, v14, v15, v16, v17, v18, v19, Value.bool b20, Value.func (Fn.func 172) #[] #[Value.pointer (some (Addr.mk r1 0 none))], Value.func (Fn.func x1g) x1f x1c, undef] [Deferred.mk (Target.fn (Fn.func 172) #[Value.pointer (some (Addr.mk r1 0 none))]) #[]])) R [] (raised u29 c) H30
| Ending.outgrown => False))))))) (fun k31 =>
  ld H2 (Addr.mk r1 0 none) (fun v32 =>
  dPtr v32 (fun p33 =>
  sB (Option.isNone p33) (k31 (Value.bool true) H2) (ld H2 (Addr.mk r1 0 none) (fun v34 =>
  dPtr v34 (fun p35 =>
  nz p35 (fun a36 =>
  ld H2 (Addr.add a36 3) (fun v37 =>
  dBl v37 (fun b38 =>
  sB (!b38) (k31 (Value.bool true) H2) (ld H2 (Addr.mk r1 0 none) (fun v39 =>
  dPtr v39 (fun p40 =>
  nz p40 (fun a41 =>
  ld H2 (Addr.add a41 2) (fun v42 =>
  dInt IntKind.i64 v42 (fun n43 =>
  k31 (Value.bool (n43 != 0)) H2))))))))))))))))
theorem F129_eq (x0 : Option Addr) (x1g : Nat) (x1f : Array Value) (x1c : Array Value) (R : Ending → Heap → Prop) (H : Heap) : F129 x0 x1g x1f x1c R H = vc Tryz.prog (codeOf Tryz.f129) (.node none .leaf (.node none (.node (some ⟨[(19, 4)], [4, 5, 6, 7, 8, 9, 10, 11, 12, 13, 14, 15, 16, 17, 18]⟩) .leaf .leaf) .leaf)) (postV Tryz.prog Tryz.f129 R) ⟨#[Value.pointer x0, Value.func (Fn.func x1g) x1f x1c] ++ Array.replicate (Tryz.f129.ntmps - 2) undef, []⟩ H := by kernel_rfl
theorem F129_calls {R : Ending → Heap → Prop} {H : Heap} (x0 : Option Addr) (x1g : Nat) (x1f : Array Value) (x1c : Array Value) (h : F129 x0 x1g x1f x1c R H) : HCalls Tryz.prog 129 #[Value.pointer x0, Value.func (Fn.func x1g) x1f x1c] H R :=
  calls_by (F := F129 x0 x1g x1f x1c R H) (.node none .leaf (.node none (.node (some ⟨[(19, 4)], [4, 5, 6, 7, 8, 9, 10, 11, 12, 13, 14, 15, 16, 17, 18]⟩) .leaf .leaf) .leaf)) Tryz.func129 rfl (F129_eq x0 x1g x1f x1c R H) h
/-- (*bollard/word.Reader).Take$1 -/
def F130 (f0 : Addr) (f1 : Addr) (f2 : Addr) (R : Ending → Heap → Prop) (H : Heap) : Prop :=
  ld H f0 (fun v1 =>
  dPtr v1 (fun p2 =>
  ld H f1 (fun v3 =>
  dInt IntKind.i64 v3 (fun n4 =>
  ld H f1 (fun v5 =>
  dInt IntKind.i64 v5 (fun n6 =>
  sB (decide (n6 ≥ 1)) (ld H f1 (fun v7 =>
  dInt IntKind.i64 v7 (fun n8 =>
  ld H f1 (fun v9 =>
  dInt IntKind.i64 v9 (fun n10 =>
  HCalls Tryz.prog 131 #[Value.pointer p2, Value.int IntKind.i64 n4, Value.bool (decide (n8 ≤ 4))] H (Sp.retK (fun v11 H12 =>
  dSl v11 (fun p13 r14 r15 =>
  (ld H12 f1 (fun v16 =>
  dInt IntKind.i64 v16 (fun n17 =>
  (Value.int IntKind.i64 n17) = (Value.int IntKind.i64 n10)))) ∧
  HCalls Tryz.prog 127 #[Value.slice p13 r14 r15, Value.int IntKind.i64 0, Value.int IntKind.i64 n10] H12 (Sp.retK (fun v18 H19 =>
  dT 2 v18 (fun v20 v21 =>
  dInt IntKind.i64 v20 (fun n22 =>
  dInt IntKind.i64 v21 (fun n23 =>
  st H19 f2 (Value.int IntKind.i64 n22) (fun H24 =>
  R (Ending.returned (Value.tuple #[])) H24))))) nopR))) nopR)))))) (ld H f1 (fun v29 =>
  dInt IntKind.i64 v29 (fun n30 =>
  HCalls Tryz.prog 131 #[Value.pointer p2, Value.int IntKind.i64 n4, Value.bool false] H (Sp.retK (fun v31 H32 =>
  dSl v31 (fun p33 r34 r35 =>
  (ld H32 f1 (fun v36 =>
  dInt IntKind.i64 v36 (fun n37 =>
  (Value.int IntKind.i64 n37) = (Value.int IntKind.i64 n30)))) ∧
  HCalls Tryz.prog 127 #[Value.slice p33 r34 r35, Value.int IntKind.i64 0, Value.int IntKind.i64 n30] H32 (Sp.retK (fun v38 H39 =>
  dT 2 v38 (fun v40 v41 =>
  dInt IntKind.i64 v40 (fun n42 =>
  dInt IntKind.i64 v41 (fun n43 =>
  st H39 f2 (Value.int IntKind.i64 n42) (fun H44 =>
  R (Ending.returned (Value.tuple #[])) H44))))) nopR))) nopR))))))))))
theorem F130_eq (f0 : Addr) (f1 : Addr) (f2 : Addr) (R : Ending → Heap → Prop) (H : Heap) : F130 f0 f1 f2 R H = vc Tryz.prog (codeOf Tryz.f130) .leaf (postV Tryz.prog Tryz.f130 R) ⟨#[Value.pointer (some f0), Value.pointer (some f1), Value.pointer (some f2)] ++ Array.replicate (Tryz.f130.ntmps - 3) undef, []⟩ H := by kernel_rfl
theorem F130_calls {R : Ending → Heap → Prop} {H : Heap} (f0 : Addr) (f1 : Addr) (f2 : Addr) (h : F130 f0 f1 f2 R H) : HCalls Tryz.prog 130 #[Value.pointer (some f0), Value.pointer (some f1), Value.pointer (some f2)] H R :=
  calls_by (F := F130 f0 f1 f2 R H) .leaf Tryz.func130 rfl (F130_eq f0 f1 f2 R H) h
/-- (*bollard/word.Reader).next -/
def F131 (x0 : Option Addr) (x1 : Int) (x2 : Bool) (R : Ending → Heap → Prop) (H : Heap) : Prop :=
  jn (α := VFH 0) (fun H1 =>
  ∀ v2 v3 v4 v5 v6 v7 v8 : Value,
  jn (α := VFH 0) (fun H9 =>
  ∀ v10 v11 v12 v13 v14 v15 v16 v17 v18 v19 v20 v21 v22 : Value,
  nz x0 (fun a23 =>
  ld H9 (Addr.add a23 1) (fun v24 =>
  dInt IntKind.i64 v24 (fun n25 =>
  wr IntKind.i64 (n25 + x1) (fun n26 =>
  nz x0 (fun a27 =>
  st H9 (Addr.add a27 1) (Value.int IntKind.i64 n26) (fun H28 =>
  nz x0 (fun a29 =>
  ld H28 a29 (fun v30 =>
  dSl v30 (fun p31 r32 r33 =>
  nz x0 (fun a34 =>
  ld H28 (Addr.add a34 1) (fun v35 =>
  dInt IntKind.i64 v35 (fun n36 =>
  wr IntKind.i64 (n36 - x1) (fun n37 =>
  nz x0 (fun a38 =>
  ld H28 (Addr.add a38 1) (fun v39 =>
  dInt IntKind.i64 v39 (fun n40 =>
  ask ((0 : Int) ≤ n37 ∧ n37 ≤ n40 ∧ n40 ≤ (↑r33 : Int) ∧ (↑r33 : Int) ≤ (↑r33 : Int)) (R (Ending.returned (Value.slice (slO p31 1 n37 (↑r33 : Int)) (Int.toNat n40 - Int.toNat n37) (Int.toNat (↑r33 : Int) - Int.toNat n37))) H28)))))))))))))))))) (fun k41 =>
  nz x0 (fun a42 =>
  ld H1 a42 (fun v43 =>
  dSl v43 (fun p44 r45 r46 =>
  nz x0 (fun a47 =>
  ld H1 (Addr.add a47 1) (fun v48 =>
  dInt IntKind.i64 v48 (fun n49 =>
  (ld H1 (Addr.add a47 1) (fun v50 =>
  dInt IntKind.i64 v50 (fun n51 =>
  (Value.int IntKind.i64 n51) = (Value.int IntKind.i64 n49)))) ∧
  wr IntKind.i64 ((↑r45 : Int) - n49) (fun n52 =>
  sB (decide (x1 > n52)) (R (Ending.panicked [PanicEntry.mk (Value.iface 32 (Value.int IntKind.i64 10)) false false]) H1) (k41 H1)))))))))) (fun k53 =>
  jn (α := VFH 1) (fun v54 H55 =>
  ∀ v56 v57 v58 v59 v60 : Value,
  dBl v54 (fun b61 =>
  sB b61 (R (Ending.panicked [PanicEntry.mk (Value.iface 32 (Value.int IntKind.i64 1)) false false]) H55) (k53 H55))) (fun k62 =>
  sB (decide (x1 < 0)) (k62 (Value.bool true) H) (k62 (Value.bool !x2) H)))
theorem F131_eq (x0 : Option Addr) (x1 : Int) (x2 : Bool) (R : Ending → Heap → Prop) (H : Heap) : F131 x0 x1 x2 R H = vc Tryz.prog (codeOf Tryz.f131) (.node none .leaf (.node (some ⟨[], [7, 8, 9, 10, 11, 12, 13]⟩) (.node (some ⟨[(12, 4)], [7, 8, 9, 10, 11]⟩) .leaf .leaf) (.node (some ⟨[], [14, 15, 16, 17, 18, 19, 20, 21, 22, 23, 24, 25, 26]⟩) .leaf .leaf))) (postV Tryz.prog Tryz.f131 R) ⟨#[Value.pointer x0, Value.int IntKind.i64 x1, Value.bool x2] ++ Array.replicate (Tryz.f131.ntmps - 3) undef, []⟩ H := by kernel_rfl
theorem F131_calls {R : Ending → Heap → Prop} {H : Heap} (x0 : Option Addr) (x1 : Int) (x2 : Bool) (h : F131 x0 x1 x2 R H) : HCalls Tryz.prog 131 #[Value.pointer x0, Value.int IntKind.i64 x1, Value.bool x2] H R :=
  calls_by (F := F131 x0 x1 x2 R H) (.node none .leaf (.node (some ⟨[], [7, 8, 9, 10, 11, 12, 13]⟩) (.node (some ⟨[(12, 4)], [7, 8, 9, 10, 11]⟩) .leaf .leaf) (.node (some ⟨[], [14, 15, 16, 17, 18, 19, 20, 21, 22, 23, 24, 25, 26]⟩) .leaf .leaf))) Tryz.func131 rfl (F131_eq x0 x1 x2 R H) h
/-- (*bollard/word.Reader).Skip$1 -/
def F132 (f0 : Addr) (f1 : Addr) (R : Ending → Heap → Prop) (H : Heap) : Prop :=
  ld H f0 (fun v1 =>
  dPtr v1 (fun p2 =>
  ld H f1 (fun v3 =>
  dInt IntKind.i64 v3 (fun n4 =>
  HCalls Tryz.prog 131 #[Value.pointer p2, Value.int IntKind.i64 n4, Value.bool true] H (Sp.retK (fun v5 H6 =>
  dSl v5 (fun p7 r8 r9 =>
  R (Ending.returned (Value.tuple #[])) H6)) (pnR R))))))
theorem F132_eq (f0 : Addr) (f1 : Addr) (R : Ending → Heap → Prop) (H : Heap) : F132 f0 f1 R H = vc Tryz.prog (codeOf Tryz.f132) .leaf (postV Tryz.prog Tryz.f132 R) ⟨#[Value.pointer (some f0), Value.pointer (some f1)] ++ Array.replicate (Tryz.f132.ntmps - 2) undef, []⟩ H := by kernel_rfl
theorem F132_calls {R : Ending → Heap → Prop} {H : Heap} (f0 : Addr) (f1 : Addr) (h : F132 f0 f1 R H) : HCalls Tryz.prog 132 #[Value.pointer (some f0), Value.pointer (some f1)] H R :=
  calls_by (F := F132 f0 f1 R H) .leaf Tryz.func132 rfl (F132_eq f0 f1 R H) h
end Go.Proofs.YtklppdodadkcnaaGreat.E
