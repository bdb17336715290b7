/- The functions' forms in the engine's words, printed by my own program. -/
import Derived.Test.YtmgjdmohmhaemaaProg
import Derived.Test.YtmgjdmohmhaemaaEng11
import Derived.KernelRfl
namespace Go.Proofs.Ytmgjdmohmhaemaa.E
open Go Go.Proofs
set_option linter.unusedVariables false
/-- bollard/layout.fields -/
def F81 (x0a : Option Addr) (x0n : Nat) (x0c : Nat) (x1a : Option Addr) (x1n : Nat) (x1c : Nat) (R : Ending → Heap → Prop) (H : Heap) : Prop :=
  ∃ I1 : List Value → Heap → Prop,
  ∃ I2 : List Value → Heap → Nat,
  (I1 ([Value.slice x0a x0n x0c, Value.int IntKind.i64 0]) H) ∧
  ∀ p3 : Option Addr,
  ∀ r4 : Nat,
  ∀ r5 : Nat,
  ∀ n6 : Int,
  ∀ v7 v8 v9 v10 v11 v12 v13 v14 v15 v16 v17 v18 v19 v20 v21 v22 v23 v24 v25 v26 v27 : Value,
  ∀ H28 : Heap,
  (I1 ([Value.slice p3 r4 r5, Value.int IntKind.i64 n6]) H28) →
  sB (decide (n6 < (↑x1n : Int))) (nz x1a (fun a30 =>
  ask ((0 : Int) ≤ n6 ∧ n6 < (↑x1n : Int)) (ld H28 (Addr.add a30 (Int.toNat n6 * 3)) (fun v31 =>
  ld H28 (Addr.add (Addr.add a30 (Int.toNat n6 * 3)) 1) (fun v32 =>
  ld H28 (Addr.add (Addr.add a30 (Int.toNat n6 * 3)) 2) (fun v33 =>
  al H28 (Obj.cells #[Value.int IntKind.i64 0, Value.int IntKind.i64 0, Value.int IntKind.i64 0] 134) (fun r34 H35 =>
  st H35 (Addr.mk r34 0 none) v31 (fun H36 =>
  st H36 (Addr.mk r34 1 none) v32 (fun H37 =>
  st H37 (Addr.mk r34 2 none) v33 (fun H38 =>
  ld H38 (Addr.mk r34 0 none) (fun v39 =>
  dInt IntKind.i64 v39 (fun n40 =>
  ∃ I41 : List Value → Heap → Prop,
  ∃ I42 : List Value → Heap → Nat,
  (I41 ([Value.slice p3 r4 r5, Value.int IntKind.i64 0]) H38) ∧
  ∀ p43 : Option Addr,
  ∀ r44 : Nat,
  ∀ r45 : Nat,
  ∀ n46 : Int,
  ∀ v47 v48 v49 v50 v51 v52 v53 v54 v55 v56 v57 v58 v59 : Value,
  ∀ H60 : Heap,
  (I41 ([Value.slice p43 r44 r45, Value.int IntKind.i64 n46]) H60) →
  sB (decide (n46 < n40)) (ld H60 (Addr.mk r34 2 none) (fun v62 =>
  dInt IntKind.i64 v62 (fun n63 =>
  wr IntKind.i64 (8 * n46) (fun n64 =>
  ask ((0 : Int) ≤ n64) (nm (Int.fdiv n63 (2 ^ min (Int.toNat n64) 64)) (fun n65 =>
  wr IntKind.u8 n65 (fun n66 =>
  al H60 (Obj.cells #[Value.int IntKind.u8 n66] 5) (fun r67 H68 =>
  semW Try.prog (Builtin.append_ #[48, 48] 48 #[Value.slice p43 r44 r45, Value.slice (some (Addr.mk r67 0 none)) 1 1]) (pnR R) H68 (fun v71 H72 =>
  dSl v71 (fun p73 r74 r75 =>
  wr IntKind.i64 (n46 + 1) (fun n76 =>
  (I41 ([Value.slice p73 r74 r75, Value.int IntKind.i64 n76]) H72) ∧
  (I42 [Value.slice p73 r74 r75, Value.int IntKind.i64 n76] H72) < (I42 [Value.slice p43 r44 r45, Value.int IntKind.i64 n46] H60)))))))))))) (wr IntKind.i64 (n6 + 1) (fun n77 =>
  (I1 ([Value.slice p43 r44 r45, Value.int IntKind.i64 n77]) H60) ∧
  (I2 [Value.slice p43 r44 r45, Value.int IntKind.i64 n77] H60) < (I2 [Value.slice p3 r4 r5, Value.int IntKind.i64 n6] H28))))))))))))))) (R (Ending.returned (Value.slice p3 r4 r5)) H28)
theorem F81_eq (x0a : Option Addr) (x0n : Nat) (x0c : Nat) (x1a : Option Addr) (x1n : Nat) (x1c : Nat) (R : Ending → Heap → Prop) (H : Heap) : F81 x0a x0n x0c x1a x1n x1c R H = vc Try.prog (codeOf Try.f81) (.node none .leaf (.node none (.node none .leaf (.node none (.node (some ⟨[(0, 48), (10, 3)], [6, 7, 11, 12, 13, 14, 15, 16, 17, 18, 19, 20, 21, 22, 23, 24, 25, 26, 27, 28, 29]⟩) (.node none .leaf (.node none .leaf (.node none (.node none (.node none .leaf (.node none .leaf (.node none (.node (some ⟨[(0, 48), (16, 3)], [7, 17, 18, 19, 20, 21, 22, 23, 24, 25, 26, 27, 28]⟩) .leaf .leaf) .leaf))) .leaf) .leaf))) .leaf) .leaf)) .leaf)) (postV Try.prog Try.f81 R) ⟨#[Value.slice x0a x0n x0c, Value.slice x1a x1n x1c] ++ Array.replicate (Try.f81.ntmps - 2) undef, []⟩ H := by kernel_rfl
theorem F81_calls {R : Ending → Heap → Prop} {H : Heap} (x0a : Option Addr) (x0n : Nat) (x0c : Nat) (x1a : Option Addr) (x1n : Nat) (x1c : Nat) (h : F81 x0a x0n x0c x1a x1n x1c R H) : HCalls Try.prog 81 #[Value.slice x0a x0n x0c, Value.slice x1a x1n x1c] H R :=
  calls_by (F := F81 x0a x0n x0c x1a x1n x1c R H) (.node none .leaf (.node none (.node none .leaf (.node none (.node (some ⟨[(0, 48), (10, 3)], [6, 7, 11, 12, 13, 14, 15, 16, 17, 18, 19, 20, 21, 22, 23, 24, 25, 26, 27, 28, 29]⟩) (.node none .leaf (.node none .leaf (.node none (.node none (.node none .leaf (.node none .leaf (.node none (.node (some ⟨[(0, 48), (16, 3)], [7, 17, 18, 19, 20, 21, 22, 23, 24, 25, 26, 27, 28]⟩) .leaf .leaf) .leaf))) .leaf) .leaf))) .leaf) .leaf)) .leaf)) Try.func81 rfl (F81_eq x0a x0n x0c x1a x1n x1c R H) h
/-- bollard/mkfs.set -/
def F82 (x0a : Option Addr) (x0n : Nat) (x0c : Nat) (x1a : Option Addr) (x1n : Nat) (x1c : Nat) (R : Ending → Heap → Prop) (H : Heap) : Prop :=
  ∃ I1 : List Value → Heap → Prop,
  ∃ I2 : List Value → Heap → Nat,
  (I1 ([Value.int IntKind.i64 0]) H) ∧
  ∀ n3 : Int,
  ∀ v4 v5 v6 v7 v8 v9 v10 v11 v12 v13 v14 v15 v16 v17 v18 v19 : Value,
  ∀ H20 : Heap,
  (I1 ([Value.int IntKind.i64 n3]) H20) →
  sB (decide (n3 < (↑x1n : Int))) (nz x1a (fun a22 =>
  ask ((0 : Int) ≤ n3 ∧ n3 < (↑x1n : Int)) (ld H20 (Addr.add a22 (Int.toNat n3 * 1)) (fun v23 =>
  dInt IntKind.i64 v23 (fun n24 =>
  HCalls Try.prog 121 #[Value.slice x0a x0n x0c, Value.int IntKind.i64 n24, Value.bool true] H20 (Sp.retK (fun v25 H26 =>
  dT 2 v25 (fun v27 v28 =>
  dSl v27 (fun p29 r30 r31 =>
  dInt IntKind.i64 v28 (fun n32 =>
  semW Try.prog (Builtin.copy_ #[48, 48] 3 #[Value.slice x0a x0n x0c, Value.slice p29 r30 r31]) (pnR R) H26 (fun v35 H36 =>
  dInt IntKind.i64 v35 (fun n37 =>
  wr IntKind.i64 (n3 + 1) (fun n38 =>
  (I1 ([Value.int IntKind.i64 n38]) H36) ∧
  (I2 [Value.int IntKind.i64 n38] H36) < (I2 [Value.int IntKind.i64 n3] H20)))))))) (pnR R))))))) (R (Ending.returned (Value.tuple #[])) H20)
theorem F82_eq (x0a : Option Addr) (x0n : Nat) (x0c : Nat) (x1a : Option Addr) (x1n : Nat) (x1c : Nat) (R : Ending → Heap → Prop) (H : Heap) : F82 x0a x0n x0c x1a x1n x1c R H = vc Try.prog (codeOf Try.f82) (.node none .leaf (.node none (.node (some ⟨[(10, 3)], [5, 6, 7, 11, 12, 13, 14, 15, 16, 17, 18, 19, 20, 21, 22, 23]⟩) .leaf .leaf) .leaf)) (postV Try.prog Try.f82 R) ⟨#[Value.slice x0a x0n x0c, Value.slice x1a x1n x1c] ++ Array.replicate (Try.f82.ntmps - 2) undef, []⟩ H := by kernel_rfl
theorem F82_calls {R : Ending → Heap → Prop} {H : Heap} (x0a : Option Addr) (x0n : Nat) (x0c : Nat) (x1a : Option Addr) (x1n : Nat) (x1c : Nat) (h : F82 x0a x0n x0c x1a x1n x1c R H) : HCalls Try.prog 82 #[Value.slice x0a x0n x0c, Value.slice x1a x1n x1c] H R :=
  calls_by (F := F82 x0a x0n x0c x1a x1n x1c R H) (.node none .leaf (.node none (.node (some ⟨[(10, 3)], [5, 6, 7, 11, 12, 13, 14, 15, 16, 17, 18, 19, 20, 21, 22, 23]⟩) .leaf .leaf) .leaf)) Try.func82 rfl (F82_eq x0a x0n x0c x1a x1n x1c R H) h
/-- bollard/layout.mayDinode -/
def F83 (x0_0 : Value) (x0_1 : Value) (x0_2 : Value) (x0_3 : Value) (x0_4 : Value) (x0_5 : Value) (x0_6 : Value) (x0_7 : Value) (x0_8 : Value) (R : Ending → Heap → Prop) (H : Heap) : Prop :=
  al H (Obj.cells #[x0_0, x0_1, x0_2, x0_3, x0_4, x0_5, x0_6, x0_7, x0_8] 99) (fun r1 H2 =>
  ld H2 (Addr.mk r1 0 none) (fun v3 =>
  dInt IntKind.i64 v3 (fun n4 =>
  sB (n4 == 0) (ld H2 (Addr.mk r1 0 none) (fun v5 =>
  ld H2 (Addr.mk r1 1 none) (fun v6 =>
  ld H2 (Addr.mk r1 2 none) (fun v7 =>
  ld H2 (Addr.mk r1 3 none) (fun v8 =>
  ld H2 (Addr.mk r1 4 none) (fun v9 =>
  ld H2 (Addr.mk r1 5 none) (fun v10 =>
  ld H2 (Addr.mk r1 6 none) (fun v11 =>
  ld H2 (Addr.mk r1 7 none) (fun v12 =>
  ld H2 (Addr.mk r1 8 none) (fun v13 =>
  semW Try.prog (eqSem BinOp.eql 99 (Operand.tmp 7) (Operand.tmp 8) (Value.agg #[v5, v6, v7, v8, v9, v10, v11, v12, v13]) (Value.agg #[Value.int IntKind.i64 0, Value.int IntKind.i64 0, Value.int IntKind.i64 0, Value.int IntKind.i64 0, Value.int IntKind.i64 0, Value.int IntKind.i64 0, Value.int IntKind.i64 0, Value.int IntKind.i64 0, Value.int IntKind.i64 0])) (pnR R) H2 (fun v16 H17 =>
  dBl v16 (fun b18 =>
  R (Ending.returned (Value.bool b18)) H17)))))))))))) (sB (n4 == 1) (R (Ending.returned (Value.bool true)) H2) (sB (n4 == 2) (ld H2 (Addr.mk r1 2 none) (fun v19 =>
  dInt IntKind.i64 v19 (fun n20 =>
  ask ((128 : Int) ≠ (0 : Int)) (nm (Int.tmod n20 128) (fun n21 =>
  R (Ending.returned (Value.bool (n21 == 0))) H2))))) (R (Ending.returned (Value.bool false)) H2))))))
theorem F83_eq (x0_0 : Value) (x0_1 : Value) (x0_2 : Value) (x0_3 : Value) (x0_4 : Value) (x0_5 : Value) (x0_6 : Value) (x0_7 : Value) (x0_8 : Value) (R : Ending → Heap → Prop) (H : Heap) : F83 x0_0 x0_1 x0_2 x0_3 x0_4 x0_5 x0_6 x0_7 x0_8 R H = vc Try.prog (codeOf Try.f83) .leaf (postV Try.prog Try.f83 R) ⟨#[Value.agg #[x0_0, x0_1, x0_2, x0_3, x0_4, x0_5, x0_6, x0_7, x0_8]] ++ Array.replicate (Try.f83.ntmps - 1) undef, []⟩ H := by kernel_rfl
theorem F83_calls {R : Ending → Heap → Prop} {H : Heap} (x0_0 : Value) (x0_1 : Value) (x0_2 : Value) (x0_3 : Value) (x0_4 : Value) (x0_5 : Value) (x0_6 : Value) (x0_7 : Value) (x0_8 : Value) (h : F83 x0_0 x0_1 x0_2 x0_3 x0_4 x0_5 x0_6 x0_7 x0_8 R H) : HCalls Try.prog 83 #[Value.agg #[x0_0, x0_1, x0_2, x0_3, x0_4, x0_5, x0_6, x0_7, x0_8]] H R :=
  calls_by (F := F83 x0_0 x0_1 x0_2 x0_3 x0_4 x0_5 x0_6 x0_7 x0_8 R H) .leaf Try.func83 rfl (F83_eq x0_0 x0_1 x0_2 x0_3 x0_4 x0_5 x0_6 x0_7 x0_8 R H) h
/-- bollard/dirs.twice -/
def F84 (x0a : Option Addr) (x0n : Nat) (x0c : Nat) (R : Ending → Heap → Prop) (H : Heap) : Prop :=
  al H (Obj.map #[] 0) (fun r1 H2 =>
  ∃ I3 : List Value → Heap → Prop,
  ∃ I4 : List Value → Heap → Nat,
  (I3 ([Value.int IntKind.i64 0]) H2) ∧
  ∀ n5 : Int,
  ∀ v6 v7 v8 v9 v10 v11 v12 v13 v14 v15 v16 v17 v18 v19 v20 v21 v22 v23 v24 v25 v26 v27 v28 : Value,
  ∀ H29 : Heap,
  (I3 ([Value.int IntKind.i64 n5]) H29) →
  sB (decide (n5 < (↑x0n : Int))) (jn (α := VFH 0) (fun H31 =>
  ∀ v32 v33 v34 v35 v36 v37 v38 v39 v40 v41 v42 v43 v44 v45 v46 v47 v48 v49 v50 v51 v52 : Value,
  wr IntKind.i64 (n5 + 1) (fun n53 =>
  (I3 ([Value.int IntKind.i64 n53]) H31) ∧
  (I4 [Value.int IntKind.i64 n53] H31) < (I4 [Value.int IntKind.i64 n5] H29))) (fun k54 =>
  nz x0a (fun a55 =>
  ask ((0 : Int) ≤ n5 ∧ n5 < (↑x0n : Int)) (ld H29 (Addr.add a55 (Int.toNat n5 * 2)) (fun v56 =>
  ld H29 (Addr.add (Addr.add a55 (Int.toNat n5 * 2)) 1) (fun v57 =>
  al H29 (Obj.cells #[Value.int IntKind.i64 0, Value.string (ByteArray.mk #[])] 102) (fun r58 H59 =>
  st H59 (Addr.mk r58 0 none) v56 (fun H60 =>
  st H60 (Addr.mk r58 1 none) v57 (fun H61 =>
  ld H61 (Addr.mk r58 0 none) (fun v62 =>
  dInt IntKind.i64 v62 (fun n63 =>
  sB (n63 == 0) (k54 H61) (ld H61 (Addr.mk r58 1 none) (fun v64 =>
  dStr v64 (fun s65 =>
  semW Try.prog (Instr.lookup 177 (Value.map (some r1)) (Value.string s65) true) (pnR R) H61 (fun v68 H69 =>
  dT 2 v68 (fun v70 v71 =>
  dA 0 v70 (dBl v71 (fun b72 =>
  al H69 (Obj.cells #[] 178) (fun r73 H74 =>
  sB b72 (R (Ending.returned (Value.bool true)) H74) (ld H74 (Addr.mk r58 1 none) (fun v75 =>
  dStr v75 (fun s76 =>
  semW Try.prog (Instr.mapUpdate 177 (Value.map (some r1)) (Value.string s76) (Value.agg #[])) (pnR R) H74 (fun x79 H80 =>
  k54 H80))))))))))))))))))))))) (R (Ending.returned (Value.bool false)) H29))
theorem F84_eq (x0a : Option Addr) (x0n : Nat) (x0c : Nat) (R : Ending → Heap → Prop) (H : Heap) : F84 x0a x0n x0c R H = vc Try.prog (codeOf Try.f84) (.node none .leaf (.node none .leaf (.node none (.node none .leaf (.node none (.node (some ⟨[(11, 3)], [2, 5, 6, 7, 12, 13, 14, 15, 16, 17, 18, 19, 20, 21, 22, 23, 24, 25, 26, 27, 28, 29, 30]⟩) (.node none .leaf (.node none .leaf (.node (some ⟨[], [2, 5, 6, 7, 13, 14, 15, 16, 17, 18, 19, 20, 21, 22, 23, 24, 25, 26, 27, 28, 29]⟩) .leaf .leaf))) .leaf) .leaf)) .leaf))) (postV Try.prog Try.f84 R) ⟨#[Value.slice x0a x0n x0c] ++ Array.replicate (Try.f84.ntmps - 1) undef, []⟩ H := by kernel_rfl
theorem F84_calls {R : Ending → Heap → Prop} {H : Heap} (x0a : Option Addr) (x0n : Nat) (x0c : Nat) (h : F84 x0a x0n x0c R H) : HCalls Try.prog 84 #[Value.slice x0a x0n x0c] H R :=
  calls_by (F := F84 x0a x0n x0c R H) (.node none .leaf (.node none .leaf (.node none (.node none .leaf (.node none (.node (some ⟨[(11, 3)], [2, 5, 6, 7, 12, 13, 14, 15, 16, 17, 18, 19, 20, 21, 22, 23, 24, 25, 26, 27, 28, 29, 30]⟩) (.node none .leaf (.node none .leaf (.node (some ⟨[], [2, 5, 6, 7, 13, 14, 15, 16, 17, 18, 19, 20, 21, 22, 23, 24, 25, 26, 27, 28, 29]⟩) .leaf .leaf))) .leaf) .leaf)) .leaf))) Try.func84 rfl (F84_eq x0a x0n x0c R H) h
/-- bollard/bollardref03.EncodeSuper -/
def F86 (x0_0 : Value) (x0_1 : Value) (x0_2 : Value) (x0_3 : Value) (R : Ending → Heap → Prop) (H : Heap) : Prop :=
  al H (Obj.cells #[x0_0, x0_1, x0_2, x0_3] 89) (fun r1 H2 =>
  jn (α := VFH 1) (fun v3 H4 =>
  ∀ v5 v6 v7 v8 v9 v10 v11 v12 v13 v14 v15 v16 v17 : Value,
  dBl v3 (fun b18 =>
  sB b18 (R (Ending.returned (Value.tuple #[Value.slice none 0 0, Value.int IntKind.i64 1])) H4) (al H4 (Obj.cells #[Value.int IntKind.u8 98, Value.int IntKind.u8 111, Value.int IntKind.u8 108, Value.int IntKind.u8 108] 5) (fun r19 H20 =>
  semW Try.prog (convert 48 48 (Value.slice (some (Addr.mk r19 0 none)) 4 4)) (pnR R) H20 (fun v23 H24 =>
  dSl v23 (fun p25 r26 r27 =>
  semW Try.prog (Builtin.append_ #[48, 3] 48 #[Value.slice p25 r26 r27, Value.int IntKind.i64 124]) (pnR R) H24 (fun v30 H31 =>
  dSl v30 (fun p32 r33 r34 =>
  ld H31 (Addr.mk r1 0 none) (fun v35 =>
  dInt IntKind.i64 v35 (fun n36 =>
  HCalls Try.prog 90 #[Value.slice p32 r33 r34, Value.int IntKind.i64 4, Value.int IntKind.i64 1, Value.int IntKind.i64 n36] H31 (Sp.retK (fun v37 H38 =>
  dSl v37 (fun p39 r40 r41 =>
  ld H38 (Addr.mk r1 1 none) (fun v42 =>
  dInt IntKind.i64 v42 (fun n43 =>
  wr IntKind.i64 (n43 - 1) (fun n44 =>
  HCalls Try.prog 90 #[Value.slice p39 r40 r41, Value.int IntKind.i64 5, Value.int IntKind.i64 1, Value.int IntKind.i64 n44] H38 (Sp.retK (fun v45 H46 =>
  dSl v45 (fun p47 r48 r49 =>
  ld H46 (Addr.mk r1 2 none) (fun v50 =>
  dInt IntKind.i64 v50 (fun n51 =>
  HCalls Try.prog 90 #[Value.slice p47 r48 r49, Value.int IntKind.i64 6, Value.int IntKind.i64 1, Value.int IntKind.i64 n51] H46 (Sp.retK (fun v52 H53 =>
  dSl v52 (fun p54 r55 r56 =>
  ld H53 (Addr.mk r1 3 none) (fun v57 =>
  dInt IntKind.i64 v57 (fun n58 =>
  HCalls Try.prog 90 #[Value.slice p54 r55 r56, Value.int IntKind.i64 8, Value.int IntKind.i64 4, Value.int IntKind.i64 n58] H53 (Sp.retK (fun v59 H60 =>
  dSl v59 (fun p61 r62 r63 =>
  HCalls Try.prog 91 #[Value.slice p61 r62 r63] H60 (Sp.retK (fun v64 H65 =>
  dT 2 v64 (fun v66 v67 =>
  dSl v66 (fun p68 r69 r70 =>
  dInt IntKind.i64 v67 (fun n71 =>
  R (Ending.returned (Value.tuple #[Value.slice p68 r69 r70, Value.int IntKind.i64 n71])) H65)))) (pnR R)))) (pnR R)))))) (pnR R)))))) (pnR R))))))) (pnR R)))))))))))) (fun k82 =>
  ld H2 (Addr.mk r1 0 none) (fun v83 =>
  ld H2 (Addr.mk r1 1 none) (fun v84 =>
  ld H2 (Addr.mk r1 2 none) (fun v85 =>
  HCalls Try.prog 123 #[Value.agg #[v83, v84, v85]] H2 (Sp.retK (fun v86 H87 =>
  dBl v86 (fun b88 =>
  sB (!b88) (k82 (Value.bool true) H87) (ld H87 (Addr.mk r1 3 none) (fun v89 =>
  dInt IntKind.i64 v89 (fun n90 =>
  sB (decide (n90 < 0)) (k82 (Value.bool true) H87) (ld H87 (Addr.mk r1 3 none) (fun v91 =>
  dInt IntKind.i64 v91 (fun n92 =>
  k82 (Value.bool (decide (n92 ≥ 4294967296))) H87)))))))) (pnR R)))))))
theorem F86_eq (x0_0 : Value) (x0_1 : Value) (x0_2 : Value) (x0_3 : Value) (R : Ending → Heap → Prop) (H : Heap) : F86 x0_0 x0_1 x0_2 x0_3 R H = vc Try.prog (codeOf Try.f86) (.node none .leaf (.node none (.node (some ⟨[(18, 4)], [5, 6, 7, 8, 9, 10, 11, 12, 13, 14, 15, 16, 17]⟩) .leaf .leaf) .leaf)) (postV Try.prog Try.f86 R) ⟨#[Value.agg #[x0_0, x0_1, x0_2, x0_3]] ++ Array.replicate (Try.f86.ntmps - 1) undef, []⟩ H := by kernel_rfl
theorem F86_calls {R : Ending → Heap → Prop} {H : Heap} (x0_0 : Value) (x0_1 : Value) (x0_2 : Value) (x0_3 : Value) (h : F86 x0_0 x0_1 x0_2 x0_3 R H) : HCalls Try.prog 86 #[Value.agg #[x0_0, x0_1, x0_2, x0_3]] H R :=
  calls_by (F := F86 x0_0 x0_1 x0_2 x0_3 R H) (.node none .leaf (.node none (.node (some ⟨[(18, 4)], [5, 6, 7, 8, 9, 10, 11, 12, 13, 14, 15, 16, 17]⟩) .leaf .leaf) .leaf)) Try.func86 rfl (F86_eq x0_0 x0_1 x0_2 x0_3 R H) h
/-- bollard/bollardref05.With -/
def F87 (x0a : Option Addr) (x0n : Nat) (x0c : Nat) (x1 : Int) (x2 : Bool) (R : Ending → Heap → Prop) (H : Heap) : Prop :=
  jn (α := VFH 1) (fun v1 H2 =>
  ∀ v3 v4 v5 v6 v7 v8 v9 v10 : Value,
  dBl v1 (fun b11 =>
  sB b11 (R (Ending.returned (Value.tuple #[Value.slice none 0 0, Value.int IntKind.i64 50])) H2) (al H2 (Obj.cells #[] 5) (fun r12 H13 =>
  semW Try.prog (Builtin.append_ #[48, 48] 48 #[Value.slice (some (Addr.mk r12 0 none)) 0 0, Value.slice x0a x0n x0c]) (pnR R) H13 (fun v16 H17 =>
  dSl v16 (fun p18 r19 r20 =>
  jn (α := VFH 0) (fun H21 =>
  ∀ v22 v23 v24 v25 v26 v27 v28 v29 v30 v31 v32 v33 v34 v35 v36 v37 v38 v39 : Value,
  R (Ending.returned (Value.tuple #[Value.slice p18 r19 r20, Value.int IntKind.i64 0])) H21) (fun k40 =>
  HCalls Try.prog 124 #[Value.slice x0a x0n x0c, Value.int IntKind.i64 x1] H17 (Sp.retK (fun v41 H42 =>
  dBl v41 (fun b43 =>
  sB (!b43 == x2) (ask ((8 : Int) ≠ (0 : Int)) (wr IntKind.i64 (Int.tdiv x1 8) (fun n44 =>
  ask ((8 : Int) ≠ (0 : Int)) (wr IntKind.i64 (Int.tdiv x1 8) (fun n45 =>
  nz p18 (fun a46 =>
  ask ((0 : Int) ≤ n45 ∧ n45 < (↑r19 : Int)) (ld H42 (Addr.add a46 (Int.toNat n45 * 1)) (fun v47 =>
  dInt IntKind.u8 v47 (fun n48 =>
  ask ((8 : Int) ≠ (0 : Int)) (nm (Int.tmod x1 8) (fun n49 =>
  ask ((0 : Int) ≤ n49) (nm (IntKind.wrap IntKind.u8 (1 * 2 ^ min (Int.toNat n49) 8)) (fun n50 =>
  nm (IntKind.wrap IntKind.u8 (↑(BitVec.toNat (BitVec.ofInt 8 n48 ^^^ BitVec.ofInt 8 n50)) : Int)) (fun n51 =>
  nz p18 (fun a52 =>
  ask ((0 : Int) ≤ n44 ∧ n44 < (↑r19 : Int)) (st H42 (Addr.add a52 (Int.toNat n44 * 1)) (Value.int IntKind.u8 n51) (fun H53 =>
  k40 H53))))))))))))))))) (k40 H42))) (pnR R))))))))) (fun k56 =>
  sB (decide (x1 < 0)) (k56 (Value.bool true) H) (ask ((8 : Int) ≠ (0 : Int)) (wr IntKind.i64 (Int.tdiv x1 8) (fun n57 =>
  k56 (Value.bool (decide (n57 ≥ (↑x0n : Int)))) H))))
theorem F87_eq (x0a : Option Addr) (x0n : Nat) (x0c : Nat) (x1 : Int) (x2 : Bool) (R : Ending → Heap → Prop) (H : Heap) : F87 x0a x0n x0c x1 x2 R H = vc Try.prog (codeOf Try.f87) (.node none .leaf (.node none (.node (some ⟨[(17, 4)], [9, 10, 11, 12, 13, 14, 15, 16]⟩) .leaf .leaf) (.node none .leaf (.node (some ⟨[], [21, 22, 23, 24, 25, 26, 27, 28, 29, 30, 31, 32, 33, 34, 35, 36, 37, 38]⟩) .leaf .leaf)))) (postV Try.prog Try.f87 R) ⟨#[Value.slice x0a x0n x0c, Value.int IntKind.i64 x1, Value.bool x2] ++ Array.replicate (Try.f87.ntmps - 3) undef, []⟩ H := by kernel_rfl
theorem F87_calls {R : Ending → Heap → Prop} {H : Heap} (x0a : Option Addr) (x0n : Nat) (x0c : Nat) (x1 : Int) (x2 : Bool) (h : F87 x0a x0n x0c x1 x2 R H) : HCalls Try.prog 87 #[Value.slice x0a x0n x0c, Value.int IntKind.i64 x1, Value.bool x2] H R :=
  calls_by (F := F87 x0a x0n x0c x1 x2 R H) (.node none .leaf (.node none (.node (some ⟨[(17, 4)], [9, 10, 11, 12, 13, 14, 15, 16]⟩) .leaf .leaf) (.node none .leaf (.node (some ⟨[], [21, 22, 23, 24, 25, 26, 27, 28, 29, 30, 31, 32, 33, 34, 35, 36, 37, 38]⟩) .leaf .leaf)))) Try.func87 rfl (F87_eq x0a x0n x0c x1 x2 R H) h
/-- bollard/bollardref03.EncodeGroup -/
def F88 (x0_0 : Value) (x0_1 : Value) (x0_2 : Value) (x0_3 : Value) (x0_4 : Value) (x0_5 : Value) (x0_6 : Value) (x0_7 : Value) (x0_8 : Value) (x0_9 : Value) (x0_10 : Value) (x0_11 : Value) (x0_12 : Value) (x0_13 : Value) (x0_14 : Value) (x0_15 : Value) (x0_16 : Value) (x0_17 : Value) (x0_18 : Value) (x0_19 : Value) (x0_20 : Value) (x0_21 : Value) (x0_22 : Value) (x0_23 : Value) (x0_24 : Value) (x0_25 : Value) (x0_26 : Value) (x0_27 : Value) (x0_28 : Value) (x0_29 : Value) (x0_30 : Value) (x0_31 : Value) (x0_32 : Value) (x0_33 : Value) (x0_34 : Value) (x0_35 : Value) (x0_36 : Value) (x0_37 : Value) (x0_38 : Value) (x0_39 : Value) (x0_40 : Value) (R : Ending → Heap → Prop) (H : Heap) : Prop :=
  al H (Obj.cells #[x0_0, x0_1, x0_2, x0_3, x0_4, x0_5, x0_6, x0_7, x0_8, x0_9, x0_10, x0_11, x0_12, x0_13, x0_14, x0_15, x0_16, x0_17, x0_18, x0_19, x0_20, x0_21, x0_22, x0_23, x0_24, x0_25, x0_26, x0_27, x0_28, x0_29, x0_30, x0_31, x0_32, x0_33, x0_34, x0_35, x0_36, x0_37, x0_38, x0_39, x0_40] 94) (fun r1 H2 =>
  jn (α := VFH 1) (fun v3 H4 =>
  ∀ v5 v6 v7 v8 v9 v10 v11 : Value,
  dBl v3 (fun b12 =>
  sB b12 (R (Ending.returned (Value.tuple #[Value.slice none 0 0, Value.int IntKind.i64 1])) H4) (al H4 (Obj.cells #[Value.int IntKind.u8 104, Value.int IntKind.u8 100] 5) (fun r13 H14 =>
  semW Try.prog (convert 48 48 (Value.slice (some (Addr.mk r13 0 none)) 2 2)) (pnR R) H14 (fun v17 H18 =>
  dSl v17 (fun p19 r20 r21 =>
  ld H18 (Addr.mk r1 0 none) (fun v22 =>
  dInt IntKind.i64 v22 (fun n23 =>
  wr IntKind.u8 n23 (fun n24 =>
  al H18 (Obj.cells #[Value.int IntKind.u8 n24, Value.int IntKind.u8 0] 5) (fun r25 H26 =>
  semW Try.prog (Builtin.append_ #[48, 48] 48 #[Value.slice p19 r20 r21, Value.slice (some (Addr.mk r25 0 none)) 2 2]) (pnR R) H26 (fun v29 H30 =>
  dSl v29 (fun p31 r32 r33 =>
  ask ((0 : Int) ≤ (0 : Int) ∧ (0 : Int) ≤ (8 : Int) ∧ (8 : Int) ≤ (8 : Int) ∧ (8 : Int) ≤ (8 : Int)) (ask ((0 : Int) ≤ (0 : Int) ∧ (0 : Int) ≤ (32 : Int) ∧ (32 : Int) ≤ (32 : Int) ∧ (32 : Int) ≤ (32 : Int)) (semW Try.prog (Builtin.append_ #[48, 48] 48 #[Value.slice p31 r32 r33, Value.slice (slO (some (Addr.mk r1 1 none)) 1 0 8) (Int.toNat 8 - Int.toNat 0) (Int.toNat 8 - Int.toNat 0)]) nopR H30 (fun v36 H37 =>
  dSl v36 (fun p38 r39 r40 =>
  semW Try.prog (Builtin.append_ #[48, 48] 48 #[Value.slice p38 r39 r40, Value.slice (slO (some (Addr.mk r1 9 none)) 1 0 32) (Int.toNat 32 - Int.toNat 0) (Int.toNat 32 - Int.toNat 0)]) nopR H37 (fun v43 H44 =>
  dSl v43 (fun p45 r46 r47 =>
  semW Try.prog (Builtin.append_ #[48, 3] 48 #[Value.slice p45 r46 r47, Value.int IntKind.i64 84]) (pnR R) H44 (fun v50 H51 =>
  dSl v50 (fun p52 r53 r54 =>
  R (Ending.returned (Value.tuple #[Value.slice p52 r53 r54, Value.int IntKind.i64 0])) H51)))))))))))))))))))) (fun k55 =>
  ld H2 (Addr.mk r1 0 none) (fun v56 =>
  dInt IntKind.i64 v56 (fun n57 =>
  sB (decide (n57 < 0)) (k55 (Value.bool true) H2) (ld H2 (Addr.mk r1 0 none) (fun v58 =>
  dInt IntKind.i64 v58 (fun n59 =>
  k55 (Value.bool (decide (n59 > 7))) H2)))))))
theorem F88_eq (x0_0 : Value) (x0_1 : Value) (x0_2 : Value) (x0_3 : Value) (x0_4 : Value) (x0_5 : Value) (x0_6 : Value) (x0_7 : Value) (x0_8 : Value) (x0_9 : Value) (x0_10 : Value) (x0_11 : Value) (x0_12 : Value) (x0_13 : Value) (x0_14 : Value) (x0_15 : Value) (x0_16 : Value) (x0_17 : Value) (x0_18 : Value) (x0_19 : Value) (x0_20 : Value) (x0_21 : Value) (x0_22 : Value) (x0_23 : Value) (x0_24 : Value) (x0_25 : Value) (x0_26 : Value) (x0_27 : Value) (x0_28 : Value) (x0_29 : Value) (x0_30 : Value) (x0_31 : Value) (x0_32 : Value) (x0_33 : Value) (x0_34 : Value) (x0_35 : Value) (x0_36 : Value) (x0_37 : Value) (x0_38 : Value) (x0_39 : Value) (x0_40 : Value) (R : Ending → Heap → Prop) (H : Heap) : F88 x0_0 x0_1 x0_2 x0_3 x0_4 x0_5 x0_6 x0_7 x0_8 x0_9 x0_10 x0_11 x0_12 x0_13 x0_14 x0_15 x0_16 x0_17 x0_18 x0_19 x0_20 x0_21 x0_22 x0_23 x0_24 x0_25 x0_26 x0_27 x0_28 x0_29 x0_30 x0_31 x0_32 x0_33 x0_34 x0_35 x0_36 x0_37 x0_38 x0_39 x0_40 R H = vc Try.prog (codeOf Try.f88) (.node none .leaf (.node none (.node (some ⟨[(12, 4)], [5, 6, 7, 8, 9, 10, 11]⟩) .leaf .leaf) .leaf)) (postV Try.prog Try.f88 R) ⟨#[Value.agg #[x0_0, x0_1, x0_2, x0_3, x0_4, x0_5, x0_6, x0_7, x0_8, x0_9, x0_10, x0_11, x0_12, x0_13, x0_14, x0_15, x0_16, x0_17, x0_18, x0_19, x0_20, x0_21, x0_22, x0_23, x0_24, x0_25, x0_26, x0_27, x0_28, x0_29, x0_30, x0_31, x0_32, x0_33, x0_34, x0_35, x0_36, x0_37, x0_38, x0_39, x0_40]] ++ Array.replicate (Try.f88.ntmps - 1) undef, []⟩ H := by kernel_rfl
theorem F88_calls {R : Ending → Heap → Prop} {H : Heap} (x0_0 : Value) (x0_1 : Value) (x0_2 : Value) (x0_3 : Value) (x0_4 : Value) (x0_5 : Value) (x0_6 : Value) (x0_7 : Value) (x0_8 : Value) (x0_9 : Value) (x0_10 : Value) (x0_11 : Value) (x0_12 : Value) (x0_13 : Value) (x0_14 : Value) (x0_15 : Value) (x0_16 : Value) (x0_17 : Value) (x0_18 : Value) (x0_19 : Value) (x0_20 : Value) (x0_21 : Value) (x0_22 : Value) (x0_23 : Value) (x0_24 : Value) (x0_25 : Value) (x0_26 : Value) (x0_27 : Value) (x0_28 : Value) (x0_29 : Value) (x0_30 : Value) (x0_31 : Value) (x0_32 : Value) (x0_33 : Value) (x0_34 : Value) (x0_35 : Value) (x0_36 : Value) (x0_37 : Value) (x0_38 : Value) (x0_39 : Value) (x0_40 : Value) (h : F88 x0_0 x0_1 x0_2 x0_3 x0_4 x0_5 x0_6 x0_7 x0_8 x0_9 x0_10 x0_11 x0_12 x0_13 x0_14 x0_15 x0_16 x0_17 x0_18 x0_19 x0_20 x0_21 x0_22 x0_23 x0_24 x0_25 x0_26 x0_27 x0_28 x0_29 x0_30 x0_31 x0_32 x0_33 x0_34 x0_35 x0_36 x0_37 x0_38 x0_39 x0_40 R H) : HCalls Try.prog 88 #[Value.agg #[x0_0, x0_1, x0_2, x0_3, x0_4, x0_5, x0_6, x0_7, x0_8, x0_9, x0_10, x0_11, x0_12, x0_13, x0_14, x0_15, x0_16, x0_17, x0_18, x0_19, x0_20, x0_21, x0_22, x0_23, x0_24, x0_25, x0_26, x0_27, x0_28, x0_29, x0_30, x0_31, x0_32, x0_33, x0_34, x0_35, x0_36, x0_37, x0_38, x0_39, x0_40]] H R :=
  calls_by (F := F88 x0_0 x0_1 x0_2 x0_3 x0_4 x0_5 x0_6 x0_7 x0_8 x0_9 x0_10 x0_11 x0_12 x0_13 x0_14 x0_15 x0_16 x0_17 x0_18 x0_19 x0_20 x0_21 x0_22 x0_23 x0_24 x0_25 x0_26 x0_27 x0_28 x0_29 x0_30 x0_31 x0_32 x0_33 x0_34 x0_35 x0_36 x0_37 x0_38 x0_39 x0_40 R H) (.node none .leaf (.node none (.node (some ⟨[(12, 4)], [5, 6, 7, 8, 9, 10, 11]⟩) .leaf .leaf) .leaf)) Try.func88 rfl (F88_eq x0_0 x0_1 x0_2 x0_3 x0_4 x0_5 x0_6 x0_7 x0_8 x0_9 x0_10 x0_11 x0_12 x0_13 x0_14 x0_15 x0_16 x0_17 x0_18 x0_19 x0_20 x0_21 x0_22 x0_23 x0_24 x0_25 x0_26 x0_27 x0_28 x0_29 x0_30 x0_31 x0_32 x0_33 x0_34 x0_35 x0_36 x0_37 x0_38 x0_39 x0_40 R H) h
/-- bollard/bollardref03.mayDinode -/
def F89 (x0_0 : Value) (x0_1 : Value) (x0_2 : Value) (x0_3 : Value) (x0_4 : Value) (x0_5 : Value) (x0_6 : Value) (x0_7 : Value) (x0_8 : Value) (R : Ending → Heap → Prop) (H : Heap) : Prop :=
  al H (Obj.cells #[x0_0, x0_1, x0_2, x0_3, x0_4, x0_5, x0_6, x0_7, x0_8] 99) (fun r1 H2 =>
  ld H2 (Addr.mk r1 0 none) (fun v3 =>
  dInt IntKind.i64 v3 (fun n4 =>
  sB (n4 == 0) (ld H2 (Addr.mk r1 0 none) (fun v5 =>
  ld H2 (Addr.mk r1 1 none) (fun v6 =>
  ld H2 (Addr.mk r1 2 none) (fun v7 =>
  ld H2 (Addr.mk r1 3 none) (fun v8 =>
  ld H2 (Addr.mk r1 4 none) (fun v9 =>
  ld H2 (Addr.mk r1 5 none) (fun v10 =>
  ld H2 (Addr.mk r1 6 none) (fun v11 =>
  ld H2 (Addr.mk r1 7 none) (fun v12 =>
  ld H2 (Addr.mk r1 8 none) (fun v13 =>
  semW Try.prog (eqSem BinOp.eql 99 (Operand.tmp 8) (Operand.tmp 9) (Value.agg #[v5, v6, v7, v8, v9, v10, v11, v12, v13]) (Value.agg #[Value.int IntKind.i64 0, Value.int IntKind.i64 0, Value.int IntKind.i64 0, Value.int IntKind.i64 0, Value.int IntKind.i64 0, Value.int IntKind.i64 0, Value.int IntKind.i64 0, Value.int IntKind.i64 0, Value.int IntKind.i64 0])) (pnR R) H2 (fun v16 H17 =>
  dBl v16 (fun b18 =>
  R (Ending.returned (Value.bool b18)) H17)))))))))))) (jn (α := VFH 1) (fun v19 H20 =>
  ∀ v21 v22 v23 v24 v25 v26 v27 v28 v29 v30 v31 v32 v33 v34 v35 v36 v37 v38 v39 v40 v41 v42 v43 v44 v45 v46 v47 : Value,
  dBl v19 (fun b48 =>
  sB b48 (R (Ending.returned (Value.bool false)) H20) (ld H20 (Addr.mk r1 3 none) (fun v49 =>
  ld H20 (Addr.mk r1 4 none) (fun v50 =>
  ld H20 (Addr.mk r1 5 none) (fun v51 =>
  ld H20 (Addr.mk r1 6 none) (fun v52 =>
  ∃ I53 : List Value → Heap → Prop,
  ∃ I54 : List Value → Heap → Nat,
  (I53 ([Value.int IntKind.i64 0]) H20) ∧
  ∀ n55 : Int,
  ∀ v56 v57 v58 v59 v60 v61 v62 v63 : Value,
  ∀ H64 : Heap,
  (I53 ([Value.int IntKind.i64 n55]) H64) →
  sB (decide (n55 < 4)) (ask ((0 : Int) ≤ n55 ∧ n55 < (4 : Int)) (oV ([v49, v50, v51, v52][Int.toNat n55 * 1]?) (fun v66 =>
  dInt IntKind.i64 v66 (fun n67 =>
  HCalls Try.prog 125 #[Value.int IntKind.i64 n67] H64 (Sp.retK (fun v68 H69 =>
  dBl v68 (fun b70 =>
  sB (!b70) (R (Ending.returned (Value.bool false)) H69) (wr IntKind.i64 (n55 + 1) (fun n71 =>
  (I53 ([Value.int IntKind.i64 n71]) H69) ∧
  (I54 [Value.int IntKind.i64 n71] H69) < (I54 [Value.int IntKind.i64 n55] H64))))) (pnR R)))))) (ld H64 (Addr.mk r1 7 none) (fun v74 =>
  dInt IntKind.i64 v74 (fun n75 =>
  HCalls Try.prog 125 #[Value.int IntKind.i64 n75] H64 (Sp.retK (fun v76 H77 =>
  dBl v76 (fun b78 =>
  sB b78 (ld H77 (Addr.mk r1 8 none) (fun v79 =>
  dInt IntKind.i64 v79 (fun n80 =>
  HCalls Try.prog 125 #[Value.int IntKind.i64 n80] H77 (Sp.retK (fun v81 H82 =>
  dBl v81 (fun b83 =>
  sB b83 (ld H82 (Addr.mk r1 0 none) (fun v84 =>
  dInt IntKind.i64 v84 (fun n85 =>
  sB (n85 != 2) (R (Ending.returned (Value.bool true)) H82) (ld H82 (Addr.mk r1 2 none) (fun v86 =>
  dInt IntKind.i64 v86 (fun n87 =>
  ask ((128 : Int) ≠ (0 : Int)) (nm (Int.tmod n87 128) (fun n88 =>
  R (Ending.returned (Value.bool (n88 == 0))) H82)))))))) (R (Ending.returned (Value.bool false)) H82))) (pnR R))))) (R (Ending.returned (Value.bool false)) H77))) (pnR R)))))))))))) (fun k93 =>
  ld H2 (Addr.mk r1 0 none) (fun v94 =>
  dInt IntKind.i64 v94 (fun n95 =>
  sB (n95 != 1) (ld H2 (Addr.mk r1 0 none) (fun v96 =>
  dInt IntKind.i64 v96 (fun n97 =>
  sB (n97 != 2) (k93 (Value.bool true) H2) (ld H2 (Addr.mk r1 1 none) (fun v98 =>
  dInt IntKind.i64 v98 (fun n99 =>
  sB (decide (n99 < 0)) (k93 (Value.bool true) H2) (ld H2 (Addr.mk r1 1 none) (fun v100 =>
  dInt IntKind.i64 v100 (fun n101 =>
  sB (decide (n101 > 1000)) (k93 (Value.bool true) H2) (ld H2 (Addr.mk r1 2 none) (fun v102 =>
  dInt IntKind.i64 v102 (fun n103 =>
  sB (decide (n103 < 0)) (k93 (Value.bool true) H2) (ld H2 (Addr.mk r1 2 none) (fun v104 =>
  dInt IntKind.i64 v104 (fun n105 =>
  k93 (Value.bool (decide (n105 > 532992))) H2))))))))))))))) (ld H2 (Addr.mk r1 1 none) (fun v106 =>
  dInt IntKind.i64 v106 (fun n107 =>
  sB (decide (n107 < 0)) (k93 (Value.bool true) H2) (ld H2 (Addr.mk r1 1 none) (fun v108 =>
  dInt IntKind.i64 v108 (fun n109 =>
  sB (decide (n109 > 1000)) (k93 (Value.bool true) H2) (ld H2 (Addr.mk r1 2 none) (fun v110 =>
  dInt IntKind.i64 v110 (fun n111 =>
  sB (decide (n111 < 0)) (k93 (Value.bool true) H2) (ld H2 (Addr.mk r1 2 none) (fun v112 =>
  dInt IntKind.i64 v112 (fun n113 =>
  k93 (Value.bool (decide (n113 > 532992))) H2)))))))))))))))))))
theorem F89_eq (x0_0 : Value) (x0_1 : Value) (x0_2 : Value) (x0_3 : Value) (x0_4 : Value) (x0_5 : Value) (x0_6 : Value) (x0_7 : Value) (x0_8 : Value) (R : Ending → Heap → Prop) (H : Heap) : F89 x0_0 x0_1 x0_2 x0_3 x0_4 x0_5 x0_6 x0_7 x0_8 R H = vc Try.prog (codeOf Try.f89) (.node none .leaf (.node none .leaf (.node none (.node (some ⟨[(38, 4)], [11, 12, 13, 14, 15, 16, 17, 18, 19, 20, 21, 22, 23, 24, 25, 26, 27, 28, 29, 30, 31, 32, 33, 34, 35, 36, 37]⟩) .leaf .leaf) (.node none (.node none .leaf (.node none (.node (some ⟨[(41, 3)], [2, 4, 42, 43, 44, 45, 46, 47]⟩) .leaf .leaf) .leaf)) .leaf)))) (postV Try.prog Try.f89 R) ⟨#[Value.agg #[x0_0, x0_1, x0_2, x0_3, x0_4, x0_5, x0_6, x0_7, x0_8]] ++ Array.replicate (Try.f89.ntmps - 1) undef, []⟩ H := by kernel_rfl
theorem F89_calls {R : Ending → Heap → Prop} {H : Heap} (x0_0 : Value) (x0_1 : Value) (x0_2 : Value) (x0_3 : Value) (x0_4 : Value) (x0_5 : Value) (x0_6 : Value) (x0_7 : Value) (x0_8 : Value) (h : F89 x0_0 x0_1 x0_2 x0_3 x0_4 x0_5 x0_6 x0_7 x0_8 R H) : HCalls Try.prog 89 #[Value.agg #[x0_0, x0_1, x0_2, x0_3, x0_4, x0_5, x0_6, x0_7, x0_8]] H R :=
  calls_by (F := F89 x0_0 x0_1 x0_2 x0_3 x0_4 x0_5 x0_6 x0_7 x0_8 R H) (.node none .leaf (.node none .leaf (.node none (.node (some ⟨[(38, 4)], [11, 12, 13, 14, 15, 16, 17, 18, 19, 20, 21, 22, 23, 24, 25, 26, 27, 28, 29, 30, 31, 32, 33, 34, 35, 36, 37]⟩) .leaf .leaf) (.node none (.node none .leaf (.node none (.node (some ⟨[(41, 3)], [2, 4, 42, 43, 44, 45, 46, 47]⟩) .leaf .leaf) .leaf)) .leaf)))) Try.func89 rfl (F89_eq x0_0 x0_1 x0_2 x0_3 x0_4 x0_5 x0_6 x0_7 x0_8 R H) h
/-- bollard/bollardref03.number -/
def F90 (x0a : Option Addr) (x0n : Nat) (x0c : Nat) (x1 : Int) (x2 : Int) (x3 : Int) (R : Ending → Heap → Prop) (H : Heap) : Prop :=
  HCalls Try.prog 126 #[Value.slice x0a x0n x0c, Value.int IntKind.i64 x1, Value.int IntKind.i64 x2, Value.int IntKind.i64 x3] H (Sp.retK (fun v1 H2 =>
  dT 2 v1 (fun v3 v4 =>
  dSl v3 (fun p5 r6 r7 =>
  dInt IntKind.i64 v4 (fun n8 =>
  R (Ending.returned (Value.slice p5 r6 r7)) H2)))) (pnR R))
theorem F90_eq (x0a : Option Addr) (x0n : Nat) (x0c : Nat) (x1 : Int) (x2 : Int) (x3 : Int) (R : Ending → Heap → Prop) (H : Heap) : F90 x0a x0n x0c x1 x2 x3 R H = vc Try.prog (codeOf Try.f90) .leaf (postV Try.prog Try.f90 R) ⟨#[Value.slice x0a x0n x0c, Value.int IntKind.i64 x1, Value.int IntKind.i64 x2, Value.int IntKind.i64 x3] ++ Array.replicate (Try.f90.ntmps - 4) undef, []⟩ H := by kernel_rfl
theorem F90_calls {R : Ending → Heap → Prop} {H : Heap} (x0a : Option Addr) (x0n : Nat) (x0c : Nat) (x1 : Int) (x2 : Int) (x3 : Int) (h : F90 x0a x0n x0c x1 x2 x3 R H) : HCalls Try.prog 90 #[Value.slice x0a x0n x0c, Value.int IntKind.i64 x1, Value.int IntKind.i64 x2, Value.int IntKind.i64 x3] H R :=
  calls_by (F := F90 x0a x0n x0c x1 x2 x3 R H) .leaf Try.func90 rfl (F90_eq x0a x0n x0c x1 x2 x3 R H) h
/-- bollard/bollardref01.Seal -/
def F91 (x0a : Option Addr) (x0n : Nat) (x0c : Nat) (R : Ending → Heap → Prop) (H : Heap) : Prop :=
  sB (decide ((↑x0n : Int) < 4)) (R (Ending.returned (Value.tuple #[Value.slice none 0 0, Value.int IntKind.i64 10])) H) (wr IntKind.i64 ((↑x0n : Int) - 4) (fun n1 =>
  wr IntKind.i64 ((↑x0n : Int) - 4) (fun n2 =>
  ask ((0 : Int) ≤ (0 : Int) ∧ (0 : Int) ≤ n2 ∧ n2 ≤ (↑x0c : Int) ∧ (↑x0c : Int) ≤ (↑x0c : Int)) (HCalls Try.prog 127 #[Value.slice (slO x0a 1 0 (↑x0c : Int)) (Int.toNat n2 - Int.toNat 0) (Int.toNat (↑x0c : Int) - Int.toNat 0)] H (Sp.retK (fun v3 H4 =>
  dInt IntKind.i64 v3 (fun n5 =>
  HCalls Try.prog 126 #[Value.slice x0a x0n x0c, Value.int IntKind.i64 n1, Value.int IntKind.i64 4, Value.int IntKind.i64 n5] H4 (Sp.retK (fun v6 H7 =>
  dT 2 v6 (fun v8 v9 =>
  dSl v8 (fun p10 r11 r12 =>
  dInt IntKind.i64 v9 (fun n13 =>
  R (Ending.returned (Value.tuple #[Value.slice p10 r11 r12, Value.int IntKind.i64 n13])) H7)))) (pnR R)))) (pnR R))))))
theorem F91_eq (x0a : Option Addr) (x0n : Nat) (x0c : Nat) (R : Ending → Heap → Prop) (H : Heap) : F91 x0a x0n x0c R H = vc Try.prog (codeOf Try.f91) .leaf (postV Try.prog Try.f91 R) ⟨#[Value.slice x0a x0n x0c] ++ Array.replicate (Try.f91.ntmps - 1) undef, []⟩ H := by kernel_rfl
theorem F91_calls {R : Ending → Heap → Prop} {H : Heap} (x0a : Option Addr) (x0n : Nat) (x0c : Nat) (h : F91 x0a x0n x0c R H) : HCalls Try.prog 91 #[Value.slice x0a x0n x0c] H R :=
  calls_by (F := F91 x0a x0n x0c R H) .leaf Try.func91 rfl (F91_eq x0a x0n x0c R H) h
/-- bollard/bollardref12.clash -/
def F92 (x0a : Option Addr) (x0n : Nat) (x0c : Nat) (R : Ending → Heap → Prop) (H : Heap) : Prop :=
  ∃ I1 : List Value → Heap → Prop,
  ∃ I2 : List Value → Heap → Nat,
  (I1 ([Value.int IntKind.i64 0]) H) ∧
  ∀ n3 : Int,
  ∀ v4 v5 v6 v7 v8 v9 v10 v11 v12 v13 v14 v15 v16 v17 v18 v19 v20 v21 v22 v23 v24 v25 v26 v27 v28 v29 v30 v31 v32 v33 v34 v35 v36 : Value,
  ∀ H37 : Heap,
  (I1 ([Value.int IntKind.i64 n3]) H37) →
  sB (decide (n3 < (↑x0n : Int))) (nz x0a (fun a39 =>
  ask ((0 : Int) ≤ n3 ∧ n3 < (↑x0n : Int)) (ld H37 (Addr.add a39 (Int.toNat n3 * 2)) (fun v40 =>
  ld H37 (Addr.add (Addr.add a39 (Int.toNat n3 * 2)) 1) (fun v41 =>
  al H37 (Obj.cells #[Value.int IntKind.i64 0, Value.string (ByteArray.mk #[])] 102) (fun r42 H43 =>
  st H43 (Addr.mk r42 0 none) v40 (fun H44 =>
  st H44 (Addr.mk r42 1 none) v41 (fun H45 =>
  ask ((0 : Int) ≤ (0 : Int) ∧ (0 : Int) ≤ n3 ∧ n3 ≤ (↑x0c : Int) ∧ (↑x0c : Int) ≤ (↑x0c : Int)) (∃ I46 : List Value → Heap → Prop,
  ∃ I47 : List Value → Heap → Nat,
  (I46 ([Value.int IntKind.i64 0]) H45) ∧
  ∀ n48 : Int,
  ∀ v49 v50 v51 v52 v53 v54 v55 v56 v57 v58 v59 v60 v61 v62 v63 v64 v65 v66 v67 v68 v69 : Value,
  ∀ H70 : Heap,
  (I46 ([Value.int IntKind.i64 n48]) H70) →
  sB (decide (n48 < (↑(Int.toNat n3 - Int.toNat 0) : Int))) (nz (slO x0a 2 0 (↑x0c : Int)) (fun a72 =>
  ask ((0 : Int) ≤ n48 ∧ n48 < (↑(Int.toNat n3 - Int.toNat (0 : Int)) : Int)) (ld H70 (Addr.add a72 (Int.toNat n48 * 2)) (fun v73 =>
  ld H70 (Addr.add (Addr.add a72 (Int.toNat n48 * 2)) 1) (fun v74 =>
  al H70 (Obj.cells #[Value.int IntKind.i64 0, Value.string (ByteArray.mk #[])] 102) (fun r75 H76 =>
  st H76 (Addr.mk r75 0 none) v73 (fun H77 =>
  st H77 (Addr.mk r75 1 none) v74 (fun H78 =>
  jn (α := VFH 1) (fun v79 H80 =>
  ∀ v81 v82 v83 v84 v85 v86 v87 v88 v89 v90 v91 v92 v93 v94 : Value,
  dBl v79 (fun b95 =>
  sB b95 (R (Ending.returned (Value.bool true)) H80) (wr IntKind.i64 (n48 + 1) (fun n96 =>
  (I46 ([Value.int IntKind.i64 n96]) H80) ∧
  (I47 [Value.int IntKind.i64 n96] H80) < (I47 [Value.int IntKind.i64 n48] H70))))) (fun k97 =>
  ld H78 (Addr.mk r42 0 none) (fun v98 =>
  dInt IntKind.i64 v98 (fun n99 =>
  sB (n99 != 0) (ld H78 (Addr.mk r75 0 none) (fun v100 =>
  dInt IntKind.i64 v100 (fun n101 =>
  sB (n101 != 0) (ld H78 (Addr.mk r42 1 none) (fun v102 =>
  dStr v102 (fun s103 =>
  ld H78 (Addr.mk r75 1 none) (fun v104 =>
  dStr v104 (fun s105 =>
  k97 (Value.bool (ByteArray.toList s103 == ByteArray.toList s105)) H78))))) (k97 (Value.bool false) H78)))) (k97 (Value.bool false) H78)))))))))))) (wr IntKind.i64 (n3 + 1) (fun n106 =>
  (I1 ([Value.int IntKind.i64 n106]) H70) ∧
  (I2 [Value.int IntKind.i64 n106] H70) < (I2 [Value.int IntKind.i64 n3] H37)))))))))))) (R (Ending.returned (Value.bool false)) H37)
theorem F92_eq (x0a : Option Addr) (x0n : Nat) (x0c : Nat) (R : Ending → Heap → Prop) (H : Heap) : F92 x0a x0n x0c R H = vc Try.prog (codeOf Try.f92) (.node none .leaf (.node none (.node none .leaf (.node none (.node (some ⟨[(9, 3)], [2, 3, 4, 6, 10, 11, 12, 13, 14, 15, 16, 17, 18, 19, 20, 21, 22, 23, 24, 25, 26, 27, 28, 29, 30, 31, 32, 33, 34, 35, 36, 37, 38]⟩) (.node none .leaf (.node none .leaf (.node none (.node none (.node none .leaf (.node none .leaf (.node none (.node (some ⟨[(18, 3)], [2, 6, 19, 20, 21, 22, 23, 24, 25, 26, 27, 28, 29, 30, 31, 32, 33, 34, 35, 36, 37]⟩) (.node none .leaf (.node none .leaf (.node none (.node none (.node none .leaf (.node (some ⟨[(36, 4)], [22, 23, 24, 25, 26, 27, 28, 29, 30, 31, 32, 33, 34, 35]⟩) .leaf .leaf)) .leaf) .leaf))) .leaf) .leaf))) .leaf) .leaf))) .leaf) .leaf)) .leaf)) (postV Try.prog Try.f92 R) ⟨#[Value.slice x0a x0n x0c] ++ Array.replicate (Try.f92.ntmps - 1) undef, []⟩ H := by kernel_rfl
theorem F92_calls {R : Ending → Heap → Prop} {H : Heap} (x0a : Option Addr) (x0n : Nat) (x0c : Nat) (h : F92 x0a x0n x0c R H) : HCalls Try.prog 92 #[Value.slice x0a x0n x0c] H R :=
  calls_by (F := F92 x0a x0n x0c R H) (.node none .leaf (.node none (.node none .leaf (.node none (.node (some ⟨[(9, 3)], [2, 3, 4, 6, 10, 11, 12, 13, 14, 15, 16, 17, 18, 19, 20, 21, 22, 23, 24, 25, 26, 27, 28, 29, 30, 31, 32, 33, 34, 35, 36, 37, 38]⟩) (.node none .leaf (.node none .leaf (.node none (.node none (.node none .leaf (.node none .leaf (.node none (.node (some ⟨[(18, 3)], [2, 6, 19, 20, 21, 22, 23, 24, 25, 26, 27, 28, 29, 30, 31, 32, 33, 34, 35, 36, 37]⟩) (.node none .leaf (.node none .leaf (.node none (.node none (.node none .leaf (.node (some ⟨[(36, 4)], [22, 23, 24, 25, 26, 27, 28, 29, 30, 31, 32, 33, 34, 35]⟩) .leaf .leaf)) .leaf) .leaf))) .leaf) .leaf))) .leaf) .leaf))) .leaf) .leaf)) .leaf)) Try.func92 rfl (F92_eq x0a x0n x0c R H) h
/-- bollard/bollardref03.EncodeEntry -/
def F93 (x0_0 : Value) (x0_1 : Value) (R : Ending → Heap → Prop) (H : Heap) : Prop :=
  al H (Obj.cells #[x0_0, x0_1] 102) (fun r1 H2 =>
  ask ((0 : Int) ≤ (16 : Int) ∧ (16 : Int) ≤ (16 : Int) ∧ (16 : Int) ≤ (281474976710656 : Int) ∧ (16 : Int) ≤ (9223372036854775807 : Int)) (al H2 (Obj.cells (List.toArray (rowZ [Value.int IntKind.u8 0] (Int.toNat 16))) 5) (fun r3 H4 =>
  ld H4 (Addr.mk r1 0 none) (fun v5 =>
  ld H4 (Addr.mk r1 1 none) (fun v6 =>
  semW Try.prog (eqSem BinOp.eql 102 (Operand.tmp 6) (Operand.tmp 7) (Value.agg #[v5, v6]) (Value.agg #[Value.int IntKind.i64 0, Value.string (ByteArray.mk #[])])) (pnR R) H4 (fun v9 H10 =>
  dBl v9 (fun b11 =>
  sB b11 (R (Ending.returned (Value.tuple #[Value.slice (some (Addr.mk r3 0 none)) (Int.toNat 16) (Int.toNat 16), Value.int IntKind.i64 0])) H10) (jn (α := VFH 1) (fun v12 H13 =>
  ∀ v14 v15 v16 v17 v18 v19 v20 v21 v22 v23 v24 v25 v26 v27 v28 v29 v30 v31 v32 v33 v34 v35 v36 : Value,
  dBl v12 (fun b37 =>
  sB b37 (R (Ending.returned (Value.tuple #[Value.slice none 0 0, Value.int IntKind.i64 1])) H13) (ld H13 (Addr.mk r1 0 none) (fun v38 =>
  dInt IntKind.i64 v38 (fun n39 =>
  HCalls Try.prog 90 #[Value.slice (some (Addr.mk r3 0 none)) (Int.toNat 16) (Int.toNat 16), Value.int IntKind.i64 0, Value.int IntKind.i64 2, Value.int IntKind.i64 n39] H13 (Sp.retK (fun v40 H41 =>
  dSl v40 (fun p42 r43 r44 =>
  ld H41 (Addr.mk r1 1 none) (fun v45 =>
  dStr v45 (fun s46 =>
  HCalls Try.prog 90 #[Value.slice p42 r43 r44, Value.int IntKind.i64 2, Value.int IntKind.i64 1, Value.int IntKind.i64 (↑(ByteArray.size s46) : Int)] H41 (Sp.retK (fun v47 H48 =>
  dSl v47 (fun p49 r50 r51 =>
  ask ((0 : Int) ≤ (3 : Int) ∧ (3 : Int) ≤ (↑r50 : Int) ∧ (↑r50 : Int) ≤ (↑r51 : Int) ∧ (↑r51 : Int) ≤ (↑r51 : Int)) (ld H48 (Addr.mk r1 1 none) (fun v52 =>
  dStr v52 (fun s53 =>
  semW Try.prog (Builtin.copy_ #[48, 9] 3 #[Value.slice (slO p49 1 3 (↑r51 : Int)) (Int.toNat (↑r50 : Int) - Int.toNat 3) (Int.toNat (↑r51 : Int) - Int.toNat 3), Value.string s53]) nopR H48 (fun v56 H57 =>
  dInt IntKind.i64 v56 (fun n58 =>
  R (Ending.returned (Value.tuple #[Value.slice p49 r50 r51, Value.int IntKind.i64 0])) H57))))))) (pnR R)))))) (pnR R))))))) (fun k63 =>
  ld H10 (Addr.mk r1 0 none) (fun v64 =>
  dInt IntKind.i64 v64 (fun n65 =>
  sB (decide (n65 < 1)) (k63 (Value.bool true) H10) (ld H10 (Addr.mk r1 0 none) (fun v66 =>
  dInt IntKind.i64 v66 (fun n67 =>
  sB (decide (n67 > 511)) (k63 (Value.bool true) H10) (ld H10 (Addr.mk r1 1 none) (fun v68 =>
  dStr v68 (fun s69 =>
  HCalls Try.prog 128 #[Value.string s69] H10 (Sp.retK (fun v70 H71 =>
  dBl v70 (fun b72 =>
  sB (!b72) (ld H71 (Addr.mk r1 1 none) (fun v73 =>
  dStr v73 (fun s74 =>
  sB (!ByteArray.toList s74 == [UInt8.ofBitVec 46#8]) (ld H71 (Addr.mk r1 1 none) (fun v75 =>
  dStr v75 (fun s76 =>
  k63 (Value.bool !ByteArray.toList s76 == [UInt8.ofBitVec 46#8, UInt8.ofBitVec 46#8]) H71))) (k63 (Value.bool false) H71)))) (k63 (Value.bool false) H71))) (pnR R)))))))))))))))))))
theorem F93_eq (x0_0 : Value) (x0_1 : Value) (R : Ending → Heap → Prop) (H : Heap) : F93 x0_0 x0_1 R H = vc Try.prog (codeOf Try.f93) (.node none .leaf (.node none .leaf (.node none .leaf (.node none (.node (some ⟨[(33, 4)], [10, 11, 12, 13, 14, 15, 16, 17, 18, 19, 20, 21, 22, 23, 24, 25, 26, 27, 28, 29, 30, 31, 32]⟩) .leaf .leaf) .leaf)))) (postV Try.prog Try.f93 R) ⟨#[Value.agg #[x0_0, x0_1]] ++ Array.replicate (Try.f93.ntmps - 1) undef, []⟩ H := by kernel_rfl
theorem F93_calls {R : Ending → Heap → Prop} {H : Heap} (x0_0 : Value) (x0_1 : Value) (h : F93 x0_0 x0_1 R H) : HCalls Try.prog 93 #[Value.agg #[x0_0, x0_1]] H R :=
  calls_by (F := F93 x0_0 x0_1 R H) (.node none .leaf (.node none .leaf (.node none .leaf (.node none (.node (some ⟨[(33, 4)], [10, 11, 12, 13, 14, 15, 16, 17, 18, 19, 20, 21, 22, 23, 24, 25, 26, 27, 28, 29, 30, 31, 32]⟩) .leaf .leaf) .leaf)))) Try.func93 rfl (F93_eq x0_0 x0_1 R H) h
/-- slices.ContainsFunc[[]bollard/api.Sent,bollard/api.Sent] -/
def F94 (x0a : Option Addr) (x0n : Nat) (x0c : Nat) (x1g : Nat) (x1f : Array Value) (x1c : Array Value) (R : Ending → Heap → Prop) (H : Heap) : Prop :=
  HCalls Try.prog 129 #[Value.slice x0a x0n x0c, Value.func (Fn.func x1g) x1f x1c] H (Sp.retK (fun v1 H2 =>
  dInt IntKind.i64 v1 (fun n3 =>
  R (Ending.returned (Value.bool (decide (n3 ≥ 0)))) H2)) (pnR R))
theorem F94_eq (x0a : Option Addr) (x0n : Nat) (x0c : Nat) (x1g : Nat) (x1f : Array Value) (x1c : Array Value) (R : Ending → Heap → Prop) (H : Heap) : F94 x0a x0n x0c x1g x1f x1c R H = vc Try.prog (codeOf Try.f94) .leaf (postV Try.prog Try.f94 R) ⟨#[Value.slice x0a x0n x0c, Value.func (Fn.func x1g) x1f x1c] ++ Array.replicate (Try.f94.ntmps - 2) undef, []⟩ H := by kernel_rfl
theorem F94_calls {R : Ending → Heap → Prop} {H : Heap} (x0a : Option Addr) (x0n : Nat) (x0c : Nat) (x1g : Nat) (x1f : Array Value) (x1c : Array Value) (h : F94 x0a x0n x0c x1g x1f x1c R H) : HCalls Try.prog 94 #[Value.slice x0a x0n x0c, Value.func (Fn.func x1g) x1f x1c] H R :=
  calls_by (F := F94 x0a x0n x0c x1g x1f x1c R H) .leaf Try.func94 rfl (F94_eq x0a x0n x0c x1g x1f x1c R H) h
/-- (*bollard/disk.Disk).Write$1 -/
def F95 (x0_0 : Value) (x0_1 : Value) (x0_2 : Value) (f0 : Addr) (R : Ending → Heap → Prop) (H : Heap) : Prop :=
  al H (Obj.cells #[x0_0, x0_1, x0_2] 149) (fun r1 H2 =>
  ld H2 (Addr.mk r1 1 none) (fun v3 =>
  dInt IntKind.i64 v3 (fun n4 =>
  ld H2 f0 (fun v5 =>
  dInt IntKind.i64 v5 (fun n6 =>
  R (Ending.returned (Value.bool (n4 == n6))) H2)))))
theorem F95_eq (x0_0 : Value) (x0_1 : Value) (x0_2 : Value) (f0 : Addr) (R : Ending → Heap → Prop) (H : Heap) : F95 x0_0 x0_1 x0_2 f0 R H = vc Try.prog (codeOf Try.f95) .leaf (postV Try.prog Try.f95 R) ⟨#[Value.agg #[x0_0, x0_1, x0_2], Value.pointer (some f0)] ++ Array.replicate (Try.f95.ntmps - 2) undef, []⟩ H := by kernel_rfl
theorem F95_calls {R : Ending → Heap → Prop} {H : Heap} (x0_0 : Value) (x0_1 : Value) (x0_2 : Value) (f0 : Addr) (h : F95 x0_0 x0_1 x0_2 f0 R H) : HCalls Try.prog 95 #[Value.agg #[x0_0, x0_1, x0_2], Value.pointer (some f0)] H R :=
  calls_by (F := F95 x0_0 x0_1 x0_2 f0 R H) .leaf Try.func95 rfl (F95_eq x0_0 x0_1 x0_2 f0 R H) h
/-- (*bollard/bollardref02.Disk).has -/
def F96 (x0 : Option Addr) (x1 : Int) (R : Ending → Heap → Prop) (H : Heap) : Prop :=
  sB (decide (x1 ≥ 0)) (nz x0 (fun a1 =>
  ld H a1 (fun v2 =>
  dSl v2 (fun p3 r4 r5 =>
  R (Ending.returned (Value.bool (decide (x1 < (↑r4 : Int))))) H)))) (R (Ending.returned (Value.bool false)) H)
theorem F96_eq (x0 : Option Addr) (x1 : Int) (R : Ending → Heap → Prop) (H : Heap) : F96 x0 x1 R H = vc Try.prog (codeOf Try.f96) .leaf (postV Try.prog Try.f96 R) ⟨#[Value.pointer x0, Value.int IntKind.i64 x1] ++ Array.replicate (Try.f96.ntmps - 2) undef, []⟩ H := by kernel_rfl
theorem F96_calls {R : Ending → Heap → Prop} {H : Heap} (x0 : Option Addr) (x1 : Int) (h : F96 x0 x1 R H) : HCalls Try.prog 96 #[Value.pointer x0, Value.int IntKind.i64 x1] H R :=
  calls_by (F := F96 x0 x1 R H) .leaf Try.func96 rfl (F96_eq x0 x1 R H) h
/-- bollard/bollardref02.copied -/
def F97 (x0a : Option Addr) (x0n : Nat) (x0c : Nat) (R : Ending → Heap → Prop) (H : Heap) : Prop :=
  al H (Obj.cells #[] 5) (fun r1 H2 =>
  semW Try.prog (Builtin.append_ #[48, 48] 48 #[Value.slice (some (Addr.mk r1 0 none)) 0 0, Value.slice x0a x0n x0c]) (pnR R) H2 (fun v5 H6 =>
  dSl v5 (fun p7 r8 r9 =>
  R (Ending.returned (Value.slice p7 r8 r9)) H6)))
theorem F97_eq (x0a : Option Addr) (x0n : Nat) (x0c : Nat) (R : Ending → Heap → Prop) (H : Heap) : F97 x0a x0n x0c R H = vc Try.prog (codeOf Try.f97) .leaf (postV Try.prog Try.f97 R) ⟨#[Value.slice x0a x0n x0c] ++ Array.replicate (Try.f97.ntmps - 1) undef, []⟩ H := by kernel_rfl
theorem F97_calls {R : Ending → Heap → Prop} {H : Heap} (x0a : Option Addr) (x0n : Nat) (x0c : Nat) (h : F97 x0a x0n x0c R H) : HCalls Try.prog 97 #[Value.slice x0a x0n x0c] H R :=
  calls_by (F := F97 x0a x0n x0c R H) .leaf Try.func97 rfl (F97_eq x0a x0n x0c R H) h
/-- (*bollard/disk.Disk).made -/
def F98 (x0 : Option Addr) (R : Ending → Heap → Prop) (H : Heap) : Prop :=
  sB (!Option.isNone x0) (nz x0 (fun a1 =>
  ld H a1 (fun v2 =>
  dSl v2 (fun p3 r4 r5 =>
  R (Ending.returned (Value.bool (decide ((↑r4 : Int) > 0)))) H)))) (R (Ending.returned (Value.bool false)) H)
theorem F98_eq (x0 : Option Addr) (R : Ending → Heap → Prop) (H : Heap) : F98 x0 R H = vc Try.prog (codeOf Try.f98) .leaf (postV Try.prog Try.f98 R) ⟨#[Value.pointer x0] ++ Array.replicate (Try.f98.ntmps - 1) undef, []⟩ H := by kernel_rfl
theorem F98_calls {R : Ending → Heap → Prop} {H : Heap} (x0 : Option Addr) (h : F98 x0 R H) : HCalls Try.prog 98 #[Value.pointer x0] H R :=
  calls_by (F := F98 x0 R H) .leaf Try.func98 rfl (F98_eq x0 R H) h
/-- (*bollard/disk.Disk).place -/
def F99 (x0 : Option Addr) (x1 : Int) (R : Ending → Heap → Prop) (H : Heap) : Prop :=
  al H (Obj.cells #[Value.int IntKind.i64 x1] 3) (fun r1 H2 =>
  nz x0 (fun a3 =>
  ld H2 (Addr.add a3 1) (fun v4 =>
  dSl v4 (fun p5 r6 r7 =>
  HCalls Try.prog 129 #[Value.slice p5 r6 r7, Value.func (Fn.func 130) #[] #[Value.pointer (some (Addr.mk r1 0 none))]] H2 (Sp.retK (fun v8 H9 =>
  dInt IntKind.i64 v8 (fun n10 =>
  R (Ending.returned (Value.int IntKind.i64 n10)) H9)) (pnR R))))))
theorem F99_eq (x0 : Option Addr) (x1 : Int) (R : Ending → Heap → Prop) (H : Heap) : F99 x0 x1 R H = vc Try.prog (codeOf Try.f99) .leaf (postV Try.prog Try.f99 R) ⟨#[Value.pointer x0, Value.int IntKind.i64 x1] ++ Array.replicate (Try.f99.ntmps - 2) undef, []⟩ H := by kernel_rfl
theorem F99_calls {R : Ending → Heap → Prop} {H : Heap} (x0 : Option Addr) (x1 : Int) (h : F99 x0 x1 R H) : HCalls Try.prog 99 #[Value.pointer x0, Value.int IntKind.i64 x1] H R :=
  calls_by (F := F99 x0 x1 R H) .leaf Try.func99 rfl (F99_eq x0 x1 R H) h
/-- slices.Delete[[]bollard/api.Sent,bollard/api.Sent] -/
def F100 (x0a : Option Addr) (x0n : Nat) (x0c : Nat) (x1 : Int) (x2 : Int) (R : Ending → Heap → Prop) (H : Heap) : Prop :=
  ask ((0 : Int) ≤ x1 ∧ x1 ≤ x2 ∧ x2 ≤ (↑x0n : Int) ∧ (↑x0n : Int) ≤ (↑x0c : Int)) (sB (x1 == x2) (R (Ending.returned (Value.slice x0a x0n x0c)) H) (ask ((0 : Int) ≤ (0 : Int) ∧ (0 : Int) ≤ x1 ∧ x1 ≤ (↑x0c : Int) ∧ (↑x0c : Int) ≤ (↑x0c : Int)) (ask ((0 : Int) ≤ x2 ∧ x2 ≤ (↑x0n : Int) ∧ (↑x0n : Int) ≤ (↑x0c : Int) ∧ (↑x0c : Int) ≤ (↑x0c : Int)) (semW Try.prog (Builtin.append_ #[74, 74] 74 #[Value.slice (slO x0a 3 0 (↑x0c : Int)) (Int.toNat x1 - Int.toNat 0) (Int.toNat (↑x0c : Int) - Int.toNat 0), Value.slice (slO x0a 3 x2 (↑x0c : Int)) (Int.toNat (↑x0n : Int) - Int.toNat x2) (Int.toNat (↑x0c : Int) - Int.toNat x2)]) nopR H (fun v3 H4 =>
  dSl v3 (fun p5 r6 r7 =>
  ask ((0 : Int) ≤ (↑r6 : Int) ∧ (↑r6 : Int) ≤ (↑x0n : Int) ∧ (↑x0n : Int) ≤ (↑r7 : Int) ∧ (↑r7 : Int) ≤ (↑r7 : Int)) (semW Try.prog (Builtin.clear_ #[74] 0 #[Value.slice (slO p5 3 (↑r6 : Int) (↑r7 : Int)) (Int.toNat (↑x0n : Int) - Int.toNat (↑r6 : Int)) (Int.toNat (↑r7 : Int) - Int.toNat (↑r6 : Int))]) (pnR R) H4 (fun v10 H11 =>
  R (Ending.returned (Value.slice p5 r6 r7)) H11))))))))
theorem F100_eq (x0a : Option Addr) (x0n : Nat) (x0c : Nat) (x1 : Int) (x2 : Int) (R : Ending → Heap → Prop) (H : Heap) : F100 x0a x0n x0c x1 x2 R H = vc Try.prog (codeOf Try.f100) .leaf (postV Try.prog Try.f100 R) ⟨#[Value.slice x0a x0n x0c, Value.int IntKind.i64 x1, Value.int IntKind.i64 x2] ++ Array.replicate (Try.f100.ntmps - 3) undef, []⟩ H := by kernel_rfl
theorem F100_calls {R : Ending → Heap → Prop} {H : Heap} (x0a : Option Addr) (x0n : Nat) (x0c : Nat) (x1 : Int) (x2 : Int) (h : F100 x0a x0n x0c x1 x2 R H) : HCalls Try.prog 100 #[Value.slice x0a x0n x0c, Value.int IntKind.i64 x1, Value.int IntKind.i64 x2] H R :=
  calls_by (F := F100 x0a x0n x0c x1 x2 R H) .leaf Try.func100 rfl (F100_eq x0a x0n x0c x1 x2 R H) h
/-- (*bollard/bollardref02.Disk).find -/
def F101 (x0 : Option Addr) (x1 : Int) (R : Ending → Heap → Prop) (H : Heap) : Prop :=
  nz x0 (fun a1 =>
  ld H (Addr.add a1 1) (fun v2 =>
  dSl v2 (fun p3 r4 r5 =>
  ∃ I6 : List Value → Heap → Prop,
  ∃ I7 : List Value → Heap → Nat,
  (I6 ([Value.int IntKind.i64 0]) H) ∧
  ∀ n8 : Int,
  ∀ v9 v10 v11 v12 v13 v14 v15 v16 v17 v18 v19 v20 v21 : Value,
  ∀ H22 : Heap,
  (I6 ([Value.int IntKind.i64 n8]) H22) →
  sB (decide (n8 < (↑r4 : Int))) (nz p3 (fun a24 =>
  ask ((0 : Int) ≤ n8 ∧ n8 < (↑r4 : Int)) (ld H22 (Addr.add a24 (Int.toNat n8 * 3)) (fun v25 =>
  ld H22 (Addr.add (Addr.add a24 (Int.toNat n8 * 3)) 1) (fun v26 =>
  ld H22 (Addr.add (Addr.add a24 (Int.toNat n8 * 3)) 2) (fun v27 =>
  al H22 (Obj.cells #[Value.int IntKind.i64 0, Value.int IntKind.i64 0, Value.slice none 0 0] 149) (fun r28 H29 =>
  st H29 (Addr.mk r28 0 none) v25 (fun H30 =>
  st H30 (Addr.mk r28 1 none) v26 (fun H31 =>
  st H31 (Addr.mk r28 2 none) v27 (fun H32 =>
  ld H32 (Addr.mk r28 0 none) (fun v33 =>
  dInt IntKind.i64 v33 (fun n34 =>
  sB (n34 == x1) (R (Ending.returned (Value.int IntKind.i64 n8)) H32) (wr IntKind.i64 (n8 + 1) (fun n35 =>
  (I6 ([Value.int IntKind.i64 n35]) H32) ∧
  (I7 [Value.int IntKind.i64 n35] H32) < (I7 [Value.int IntKind.i64 n8] H22))))))))))))))) (R (Ending.returned (Value.int IntKind.i64 (-1))) H22))))
theorem F101_eq (x0 : Option Addr) (x1 : Int) (R : Ending → Heap → Prop) (H : Heap) : F101 x0 x1 R H = vc Try.prog (codeOf Try.f101) (.node none .leaf (.node none (.node none .leaf (.node none (.node (some ⟨[(12, 3)], [4, 5, 6, 13, 14, 15, 16, 17, 18, 19, 20, 21, 22]⟩) .leaf .leaf) .leaf)) .leaf)) (postV Try.prog Try.f101 R) ⟨#[Value.pointer x0, Value.int IntKind.i64 x1] ++ Array.replicate (Try.f101.ntmps - 2) undef, []⟩ H := by kernel_rfl
theorem F101_calls {R : Ending → Heap → Prop} {H : Heap} (x0 : Option Addr) (x1 : Int) (h : F101 x0 x1 R H) : HCalls Try.prog 101 #[Value.pointer x0, Value.int IntKind.i64 x1] H R :=
  calls_by (F := F101 x0 x1 R H) (.node none .leaf (.node none (.node none .leaf (.node none (.node (some ⟨[(12, 3)], [4, 5, 6, 13, 14, 15, 16, 17, 18, 19, 20, 21, 22]⟩) .leaf .leaf) .leaf)) .leaf)) Try.func101 rfl (F101_eq x0 x1 R H) h
/-- (*bollard/cache.Cache).load -/
def F102 (x0 : Option Addr) (x1 : Int) (R : Ending → Heap → Prop) (H : Heap) : Prop :=
  nz x0 (fun a1 =>
  ld H (Addr.add a1 2) (fun v2 =>
  dMap v2 (fun p3 =>
  nz x0 (fun a4 =>
  ld H (Addr.add a4 1) (fun v5 =>
  dInt IntKind.i64 v5 (fun n6 =>
  semW Try.prog (Builtin.len_ #[69] 3 #[Value.map p3]) nopR H (fun v9 H10 =>
  dInt IntKind.i64 v9 (fun n11 =>
  (ld H10 (Addr.add a4 1) (fun v12 =>
  dInt IntKind.i64 v12 (fun n13 =>
  (Value.int IntKind.i64 n13) = (Value.int IntKind.i64 n6)))) ∧
  HCalls Try.prog 131 #[Value.pointer x0] H10 (Sp.retK (fun v14 H15 =>
  dT 2 v14 (fun v16 v17 =>
  dInt IntKind.i64 v16 (fun n18 =>
  dBl v17 (fun b19 =>
  jn (α := VFH 1) (fun v20 H21 =>
  ∀ v22 v23 v24 v25 : Value,
  dBl v20 (fun b26 =>
  sB b26 (R (Ending.returned (Value.tuple #[Value.pointer none, Value.int IntKind.i64 60])) H21) (nz x0 (fun a27 =>
  ld H21 a27 (fun v28 =>
  dPtr v28 (fun p29 =>
  HCalls Try.prog 33 #[Value.pointer p29, Value.int IntKind.i64 x1] H21 (Sp.retK (fun v30 H31 =>
  dT 2 v30 (fun v32 v33 =>
  dSl v32 (fun p34 r35 r36 =>
  dInt IntKind.i64 v33 (fun n37 =>
  sB (n37 != 0) (R (Ending.returned (Value.tuple #[Value.pointer none, Value.int IntKind.i64 n37])) H31) (jn (α := VFH 0) (fun H38 =>
  ∀ v39 v40 v41 v42 v43 v44 : Value,
  nz x0 (fun a45 =>
  ld H38 (Addr.add a45 2) (fun v46 =>
  dMap v46 (fun p47 =>
  al H38 (Obj.cells #[Value.slice p34 r35 r36, Value.int IntKind.i64 0, Value.int IntKind.i64 0] 120) (fun r48 H49 =>
  semW Try.prog (Instr.mapUpdate 69 (Value.map p47) (Value.int IntKind.i64 x1) (Value.pointer (some (Addr.mk r48 0 none)))) (pnR R) H49 (fun x52 H53 =>
  nz x0 (fun a54 =>
  ld H53 (Addr.add a54 2) (fun v55 =>
  dMap v55 (fun p56 =>
  semW Try.prog (Instr.lookup 69 (Value.map p56) (Value.int IntKind.i64 x1) false) (pnR R) H53 (fun v59 H60 =>
  dPtr v59 (fun p61 =>
  R (Ending.returned (Value.tuple #[Value.pointer p61, Value.int IntKind.i64 0])) H60))))))))))) (fun k62 =>
  sB (decide (n11 ≥ n6)) (nz x0 (fun a63 =>
  ld H31 (Addr.add a63 2) (fun v64 =>
  dMap v64 (fun p65 =>
  semW Try.prog (Builtin.delete_ #[69, 3] 0 #[Value.map p65, Value.int IntKind.i64 n18]) (pnR R) H31 (fun v68 H69 =>
  k62 H69))))) (k62 H31))))))) (pnR R)))))))) (fun k72 =>
  sB (decide (n11 ≥ n6)) (k72 (Value.bool !b19) H15) (k72 (Value.bool false) H15)))))) (pnR R))))))))))
theorem F102_eq (x0 : Option Addr) (x1 : Int) (R : Ending → Heap → Prop) (H : Heap) : F102 x0 x1 R H = vc Try.prog (codeOf Try.f102) (.node none .leaf (.node none .leaf (.node none .leaf (.node none (.node (some ⟨[(30, 4)], [26, 27, 28, 29]⟩) .leaf .leaf) (.node none .leaf (.node none .leaf (.node (some ⟨[], [43, 44, 45, 46, 47, 48]⟩) .leaf .leaf))))))) (postV Try.prog Try.f102 R) ⟨#[Value.pointer x0, Value.int IntKind.i64 x1] ++ Array.replicate (Try.f102.ntmps - 2) undef, []⟩ H := by kernel_rfl
theorem F102_calls {R : Ending → Heap → Prop} {H : Heap} (x0 : Option Addr) (x1 : Int) (h : F102 x0 x1 R H) : HCalls Try.prog 102 #[Value.pointer x0, Value.int IntKind.i64 x1] H R :=
  calls_by (F := F102 x0 x1 R H) (.node none .leaf (.node none .leaf (.node none .leaf (.node none (.node (some ⟨[(30, 4)], [26, 27, 28, 29]⟩) .leaf .leaf) (.node none .leaf (.node none .leaf (.node (some ⟨[], [43, 44, 45, 46, 47, 48]⟩) .leaf .leaf))))))) Try.func102 rfl (F102_eq x0 x1 R H) h
/-- slices.Collect[int] -/
def F103 (x0g : Nat) (x0f : Array Value) (x0c : Array Value) (R : Ending → Heap → Prop) (H : Heap) : Prop :=
  HCalls Try.prog 132 #[Value.slice none 0 0, Value.func (Fn.func x0g) x0f x0c] H (Sp.retK (fun v1 H2 =>
  dSl v1 (fun p3 r4 r5 =>
  R (Ending.returned (Value.slice p3 r4 r5)) H2)) (pnR R))
theorem F103_eq (x0g : Nat) (x0f : Array Value) (x0c : Array Value) (R : Ending → Heap → Prop) (H : Heap) : F103 x0g x0f x0c R H = vc Try.prog (codeOf Try.f103) .leaf (postV Try.prog Try.f103 R) ⟨#[Value.func (Fn.func x0g) x0f x0c] ++ Array.replicate (Try.f103.ntmps - 1) undef, []⟩ H := by kernel_rfl
theorem F103_calls {R : Ending → Heap → Prop} {H : Heap} (x0g : Nat) (x0f : Array Value) (x0c : Array Value) (h : F103 x0g x0f x0c R H) : HCalls Try.prog 103 #[Value.func (Fn.func x0g) x0f x0c] H R :=
  calls_by (F := F103 x0g x0f x0c R H) .leaf Try.func103 rfl (F103_eq x0g x0f x0c R H) h
/-- maps.Keys[map[int]*bollard/cache.buffer,int,*bollard/cache.buffer]$1 -/
def F105 (x0g : Nat) (x0f : Array Value) (x0c : Array Value) (f0 : Addr) (R : Ending → Heap → Prop) (H : Heap) : Prop :=
  ld H f0 (fun v1 =>
  dMap v1 (fun p2 =>
  semW Try.prog (Instr.range 69 (Value.map p2)) (pnR R) H (fun v5 H6 =>
  ∃ I7 : List Value → Heap → Prop,
  ∃ I8 : List Value → Heap → Nat,
  (I7 [] H6) ∧
  ∀ v9 v10 v11 v12 v13 v14 v15 v16 v17 : Value,
  ∀ H18 : Heap,
  (I7 [] H18) →
  semW Try.prog (Instr.next v5 false 0) (pnR R) H18 (fun v22 H23 =>
  dNx v22 (R (Ending.returned (Value.tuple #[])) H23) (fun v24 v25 =>
  semW Try.prog (Instr.entry v5) (pnR R) H23 (fun v28 H29 =>
  dT 2 v28 (fun v30 v31 =>
  dInt IntKind.i64 v30 (fun n32 =>
  gB (plainFn Try.prog x0g) (HCalls Try.prog x0g (argsOf x0f [Value.int IntKind.i64 n32] x0c) H29 (Sp.retK (fun v33 H34 =>
  dBl v33 (fun b35 =>
  sB (!b35) (R (Ending.returned (Value.tuple #[])) H34) ((I7 [] H34) ∧
  (I8 [] H34) < (I8 [] H18)))) (pnR R)))))))))))
theorem F105_eq (x0g : Nat) (x0f : Array Value) (x0c : Array Value) (f0 : Addr) (R : Ending → Heap → Prop) (H : Heap) : F105 x0g x0f x0c f0 R H = vc Try.prog (codeOf Try.f105) (.node none .leaf (.node none (.node (some ⟨[], [3, 6, 7, 8, 9, 10, 11, 12, 13]⟩) .leaf .leaf) .leaf)) (postV Try.prog Try.f105 R) ⟨#[Value.func (Fn.func x0g) x0f x0c, Value.pointer (some f0)] ++ Array.replicate (Try.f105.ntmps - 2) undef, []⟩ H := by kernel_rfl
theorem F105_calls {R : Ending → Heap → Prop} {H : Heap} (x0g : Nat) (x0f : Array Value) (x0c : Array Value) (f0 : Addr) (h : F105 x0g x0f x0c f0 R H) : HCalls Try.prog 105 #[Value.func (Fn.func x0g) x0f x0c, Value.pointer (some f0)] H R :=
  calls_by (F := F105 x0g x0f x0c f0 R H) (.node none .leaf (.node none (.node (some ⟨[], [3, 6, 7, 8, 9, 10, 11, 12, 13]⟩) .leaf .leaf) .leaf)) Try.func105 rfl (F105_eq x0g x0f x0c f0 R H) h
end Go.Proofs.Ytmgjdmohmhaemaa.E
