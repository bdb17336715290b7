/- My own texts, joined. -/
import Derived.Conc.MuLone
import Derived.KernelRfl
import Derived.Laws.AppendOwn
import Derived.Laws.BytesArg
import Derived.Laws.Externs
import Derived.Laws.IdiomStrings
import Derived.Laws.Rows
import Derived.Laws.Strings
import Derived.Laws.StructEq
import Derived.Lib.AppendZerosOnto
import Derived.Lib.MakeNoZero
import Derived.Maps.RangeRun
import Derived.Test.YtdlelcpkelginaaProg
import Derived.Test.YtdlelcpkelginaaMM3
/- The functions' forms in the engine's words, printed by my own program. -/
namespace Go.Proofs.Ytdlelcpkelginaa.E
open Go Go.Proofs
set_option linter.unusedVariables false
set_option maxRecDepth 100000
/-- bollard/dirs.twice -/
def F37 (x0a : Option Addr) (x0n : Nat) (x0c : Nat) (R : Ending → Heap → Prop) (H : Heap) : Prop :=
  al H (Obj.map #[] 0) (fun r1 H2 =>
  ∃ I3 : List Value → Heap → Prop,
  ∃ I4 : List Value → Heap → Nat,
  (I3 ([Value.int IntKind.i64 0]) H2) ∧
  ∀ n5 : Int,
  ∀ v6 v7 v8 v9 v10 v11 v12 v13 v14 v15 v16 v17 v18 v19 v20 v21 v22 v23 v24 v25 v26 v27 v28 : Value,
  ∀ H29 : Heap,
  (I3 ([Value.int IntKind.i64 n5]) H29) →
  sB (decide (n5 < (↑x0n : Int))) (jn (α := VFH 0) (fun H31 =>
  ∀ v32 v33 v34 v35 v36 v37 v38 v39 v40 v41 v42 v43 v44 v45 v46 v47 v48 v49 v50 v51 v52 : Value,
  wr IntKind.i64 (n5 + 1) (fun n53 =>
  (I3 ([Value.int IntKind.i64 n53]) H31) ∧
  (I4 [Value.int IntKind.i64 n53] H31) < (I4 [Value.int IntKind.i64 n5] H29))) (fun k54 =>
  nz x0a (fun a55 =>
  ask ((0 : Int) ≤ n5 ∧ n5 < (↑x0n : Int)) (ld H29 (Addr.add a55 (Int.toNat n5 * 2)) (fun v56 =>
  ld H29 (Addr.add (Addr.add a55 (Int.toNat n5 * 2)) 1) (fun v57 =>
  al H29 (Obj.cells #[Value.int IntKind.i64 0, Value.string (ByteArray.mk #[])] 53) (fun r58 H59 =>
  st H59 (Addr.mk r58 0 none) v56 (fun H60 =>
  st H60 (Addr.mk r58 1 none) v57 (fun H61 =>
  ld H61 (Addr.mk r58 0 none) (fun v62 =>
  dInt IntKind.i64 v62 (fun n63 =>
  sB (n63 == 0) (k54 H61) (ld H61 (Addr.mk r58 1 none) (fun v64 =>
  dStr v64 (fun s65 =>
  semW Try.prog (Instr.lookup 78 (Value.map (some r1)) (Value.string s65) true) (pnR R) H61 (fun v68 H69 =>
  dT 2 v68 (fun v70 v71 =>
  dA 0 v70 (dBl v71 (fun b72 =>
  al H69 (Obj.cells #[] 79) (fun r73 H74 =>
  sB b72 (R (Ending.returned (Value.bool true)) H74) (ld H74 (Addr.mk r58 1 none) (fun v75 =>
  dStr v75 (fun s76 =>
  semW Try.prog (Instr.mapUpdate 78 (Value.map (some r1)) (Value.string s76) (Value.agg #[])) (pnR R) H74 (fun x79 H80 =>
  k54 H80))))))))))))))))))))))) (R (Ending.returned (Value.bool false)) H29))
theorem F37_eq (x0a : Option Addr) (x0n : Nat) (x0c : Nat) (R : Ending → Heap → Prop) (H : Heap) : F37 x0a x0n x0c R H = vc Try.prog (codeOf Try.f37) (.node none .leaf (.node none .leaf (.node none (.node none .leaf (.node none (.node (some ⟨[(11, 3)], [2, 5, 6, 7, 12, 13, 14, 15, 16, 17, 18, 19, 20, 21, 22, 23, 24, 25, 26, 27, 28, 29, 30]⟩) (.node none .leaf (.node none .leaf (.node (some ⟨[], [2, 5, 6, 7, 13, 14, 15, 16, 17, 18, 19, 20, 21, 22, 23, 24, 25, 26, 27, 28, 29]⟩) .leaf .leaf))) .leaf) .leaf)) .leaf))) (postV Try.prog Try.f37 R) ⟨#[Value.slice x0a x0n x0c] ++ Array.replicate (Try.f37.ntmps - 1) undef, []⟩ H := by kernel_rfl
theorem F37_calls {R : Ending → Heap → Prop} {H : Heap} (x0a : Option Addr) (x0n : Nat) (x0c : Nat) (h : F37 x0a x0n x0c R H) : HCalls Try.prog 37 #[Value.slice x0a x0n x0c] H R :=
  calls_by (F := F37 x0a x0n x0c R H) (.node none .leaf (.node none .leaf (.node none (.node none .leaf (.node none (.node (some ⟨[(11, 3)], [2, 5, 6, 7, 12, 13, 14, 15, 16, 17, 18, 19, 20, 21, 22, 23, 24, 25, 26, 27, 28, 29, 30]⟩) (.node none .leaf (.node none .leaf (.node (some ⟨[], [2, 5, 6, 7, 13, 14, 15, 16, 17, 18, 19, 20, 21, 22, 23, 24, 25, 26, 27, 28, 29]⟩) .leaf .leaf))) .leaf) .leaf)) .leaf))) Try.func37 rfl (F37_eq x0a x0n x0c R H) h
/-- bollard/layout.EncodeEntry -/
def F38 (x0_0 : Value) (x0_1 : Value) (R : Ending → Heap → Prop) (H : Heap) : Prop :=
  al H (Obj.cells #[x0_0, x0_1] 53) (fun r1 H2 =>
  ld H2 (Addr.mk r1 0 none) (fun v3 =>
  ld H2 (Addr.mk r1 1 none) (fun v4 =>
  semW Try.prog (eqSem BinOp.eql 53 (Operand.tmp 6) (Operand.tmp 7) (Value.agg #[v3, v4]) (Value.agg #[Value.int IntKind.i64 0, Value.string (ByteArray.mk #[])])) (pnR R) H2 (fun v7 H8 =>
  dBl v7 (fun b9 =>
  jn (α := VFH 1) (fun v10 H11 =>
  ∀ v12 v13 v14 v15 v16 v17 v18 v19 v20 v21 v22 v23 v24 v25 v26 v27 v28 : Value,
  dBl v10 (fun b29 =>
  sB b29 (R (Ending.returned (Value.tuple #[Value.slice none 0 0, Value.int IntKind.i64 1])) H11) (ld H11 (Addr.mk r1 0 none) (fun v30 =>
  dInt IntKind.i64 v30 (fun n31 =>
  ld H11 (Addr.mk r1 1 none) (fun v32 =>
  dStr v32 (fun s33 =>
  al H11 (Obj.cells #[Value.int IntKind.i64 2, Value.int IntKind.i64 511, Value.int IntKind.i64 n31, Value.int IntKind.i64 1, Value.int IntKind.i64 13, Value.int IntKind.i64 (↑(ByteArray.size s33) : Int)] 62) (fun r34 H35 =>
  HCalls Try.prog 32 #[Value.slice none 0 0, Value.slice (some (Addr.mk r34 0 none)) 2 2] H35 (Sp.retK (fun v36 H37 =>
  dSl v36 (fun p38 r39 r40 =>
  ld H37 (Addr.mk r1 1 none) (fun v41 =>
  dStr v41 (fun s42 =>
  semW Try.prog (Builtin.append_ #[32, 9] 32 #[Value.slice p38 r39 r40, Value.string s42]) (pnR R) H37 (fun v45 H46 =>
  dSl v45 (fun p47 r48 r49 =>
  HCalls Try.prog 31 #[Value.slice p47 r48 r49, Value.int IntKind.i64 16] H46 (Sp.retK (fun v50 H51 =>
  dSl v50 (fun p52 r53 r54 =>
  R (Ending.returned (Value.tuple #[Value.slice p52 r53 r54, Value.int IntKind.i64 0])) H51)) (pnR R)))))))) (pnR R)))))))))) (fun k59 =>
  sB (!b9) (ld H8 (Addr.mk r1 0 none) (fun v60 =>
  dInt IntKind.i64 v60 (fun n61 =>
  sB (decide (n61 < 1)) (k59 (Value.bool true) H8) (ld H8 (Addr.mk r1 0 none) (fun v62 =>
  dInt IntKind.i64 v62 (fun n63 =>
  sB (decide (n63 > 511)) (k59 (Value.bool true) H8) (ld H8 (Addr.mk r1 1 none) (fun v64 =>
  dStr v64 (fun s65 =>
  HCalls Try.prog 52 #[Value.string s65] H8 (Sp.retK (fun v66 H67 =>
  dBl v66 (fun b68 =>
  k59 (Value.bool !b68) H67)) (pnR R))))))))))) (k59 (Value.bool false) H8)))))))
theorem F38_eq (x0_0 : Value) (x0_1 : Value) (R : Ending → Heap → Prop) (H : Heap) : F38 x0_0 x0_1 R H = vc Try.prog (codeOf Try.f38) (.node none .leaf (.node none .leaf (.node none (.node (some ⟨[(26, 4)], [9, 10, 11, 12, 13, 14, 15, 16, 17, 18, 19, 20, 21, 22, 23, 24, 25]⟩) .leaf .leaf) .leaf))) (postV Try.prog Try.f38 R) ⟨#[Value.agg #[x0_0, x0_1]] ++ Array.replicate (Try.f38.ntmps - 1) undef, []⟩ H := by kernel_rfl
theorem F38_calls {R : Ending → Heap → Prop} {H : Heap} (x0_0 : Value) (x0_1 : Value) (h : F38 x0_0 x0_1 R H) : HCalls Try.prog 38 #[Value.agg #[x0_0, x0_1]] H R :=
  calls_by (F := F38 x0_0 x0_1 R H) (.node none .leaf (.node none .leaf (.node none (.node (some ⟨[(26, 4)], [9, 10, 11, 12, 13, 14, 15, 16, 17, 18, 19, 20, 21, 22, 23, 24, 25]⟩) .leaf .leaf) .leaf))) Try.func38 rfl (F38_eq x0_0 x0_1 R H) h
/-- bollard/bollardref03.EncodeSuper -/
def F39 (x0_0 : Value) (x0_1 : Value) (x0_2 : Value) (x0_3 : Value) (R : Ending → Heap → Prop) (H : Heap) : Prop :=
  al H (Obj.cells #[x0_0, x0_1, x0_2, x0_3] 38) (fun r1 H2 =>
  jn (α := VFH 1) (fun v3 H4 =>
  ∀ v5 v6 v7 v8 v9 v10 v11 v12 v13 v14 v15 v16 v17 : Value,
  dBl v3 (fun b18 =>
  sB b18 (R (Ending.returned (Value.tuple #[Value.slice none 0 0, Value.int IntKind.i64 1])) H4) (al H4 (Obj.cells #[Value.int IntKind.u8 98, Value.int IntKind.u8 111, Value.int IntKind.u8 108, Value.int IntKind.u8 108] 5) (fun r19 H20 =>
  semW Try.prog (convert 32 32 (Value.slice (some (Addr.mk r19 0 none)) 4 4)) (pnR R) H20 (fun v23 H24 =>
  dSl v23 (fun p25 r26 r27 =>
  semW Try.prog (Builtin.append_ #[32, 3] 32 #[Value.slice p25 r26 r27, Value.int IntKind.i64 124]) (pnR R) H24 (fun v30 H31 =>
  dSl v30 (fun p32 r33 r34 =>
  ld H31 (Addr.mk r1 0 none) (fun v35 =>
  dInt IntKind.i64 v35 (fun n36 =>
  HCalls Try.prog 43 #[Value.slice p32 r33 r34, Value.int IntKind.i64 4, Value.int IntKind.i64 1, Value.int IntKind.i64 n36] H31 (Sp.retK (fun v37 H38 =>
  dSl v37 (fun p39 r40 r41 =>
  ld H38 (Addr.mk r1 1 none) (fun v42 =>
  dInt IntKind.i64 v42 (fun n43 =>
  wr IntKind.i64 (n43 - 1) (fun n44 =>
  HCalls Try.prog 43 #[Value.slice p39 r40 r41, Value.int IntKind.i64 5, Value.int IntKind.i64 1, Value.int IntKind.i64 n44] H38 (Sp.retK (fun v45 H46 =>
  dSl v45 (fun p47 r48 r49 =>
  ld H46 (Addr.mk r1 2 none) (fun v50 =>
  dInt IntKind.i64 v50 (fun n51 =>
  HCalls Try.prog 43 #[Value.slice p47 r48 r49, Value.int IntKind.i64 6, Value.int IntKind.i64 1, Value.int IntKind.i64 n51] H46 (Sp.retK (fun v52 H53 =>
  dSl v52 (fun p54 r55 r56 =>
  ld H53 (Addr.mk r1 3 none) (fun v57 =>
  dInt IntKind.i64 v57 (fun n58 =>
  HCalls Try.prog 43 #[Value.slice p54 r55 r56, Value.int IntKind.i64 8, Value.int IntKind.i64 4, Value.int IntKind.i64 n58] H53 (Sp.retK (fun v59 H60 =>
  dSl v59 (fun p61 r62 r63 =>
  HCalls Try.prog 44 #[Value.slice p61 r62 r63] H60 (Sp.retK (fun v64 H65 =>
  dT 2 v64 (fun v66 v67 =>
  dSl v66 (fun p68 r69 r70 =>
  dInt IntKind.i64 v67 (fun n71 =>
  R (Ending.returned (Value.tuple #[Value.slice p68 r69 r70, Value.int IntKind.i64 n71])) H65)))) (pnR R)))) (pnR R)))))) (pnR R)))))) (pnR R))))))) (pnR R)))))))))))) (fun k82 =>
  ld H2 (Addr.mk r1 0 none) (fun v83 =>
  ld H2 (Addr.mk r1 1 none) (fun v84 =>
  ld H2 (Addr.mk r1 2 none) (fun v85 =>
  HCalls Try.prog 53 #[Value.agg #[v83, v84, v85]] H2 (Sp.retK (fun v86 H87 =>
  dBl v86 (fun b88 =>
  sB (!b88) (k82 (Value.bool true) H87) (ld H87 (Addr.mk r1 3 none) (fun v89 =>
  dInt IntKind.i64 v89 (fun n90 =>
  sB (decide (n90 < 0)) (k82 (Value.bool true) H87) (ld H87 (Addr.mk r1 3 none) (fun v91 =>
  dInt IntKind.i64 v91 (fun n92 =>
  k82 (Value.bool (decide (n92 ≥ 4294967296))) H87)))))))) (pnR R)))))))
theorem F39_eq (x0_0 : Value) (x0_1 : Value) (x0_2 : Value) (x0_3 : Value) (R : Ending → Heap → Prop) (H : Heap) : F39 x0_0 x0_1 x0_2 x0_3 R H = vc Try.prog (codeOf Try.f39) (.node none .leaf (.node none (.node (some ⟨[(18, 4)], [5, 6, 7, 8, 9, 10, 11, 12, 13, 14, 15, 16, 17]⟩) .leaf .leaf) .leaf)) (postV Try.prog Try.f39 R) ⟨#[Value.agg #[x0_0, x0_1, x0_2, x0_3]] ++ Array.replicate (Try.f39.ntmps - 1) undef, []⟩ H := by kernel_rfl
theorem F39_calls {R : Ending → Heap → Prop} {H : Heap} (x0_0 : Value) (x0_1 : Value) (x0_2 : Value) (x0_3 : Value) (h : F39 x0_0 x0_1 x0_2 x0_3 R H) : HCalls Try.prog 39 #[Value.agg #[x0_0, x0_1, x0_2, x0_3]] H R :=
  calls_by (F := F39 x0_0 x0_1 x0_2 x0_3 R H) (.node none .leaf (.node none (.node (some ⟨[(18, 4)], [5, 6, 7, 8, 9, 10, 11, 12, 13, 14, 15, 16, 17]⟩) .leaf .leaf) .leaf)) Try.func39 rfl (F39_eq x0_0 x0_1 x0_2 x0_3 R H) h
/-- bollard/bollardref05.With -/
def F40 (x0a : Option Addr) (x0n : Nat) (x0c : Nat) (x1 : Int) (x2 : Bool) (R : Ending → Heap → Prop) (H : Heap) : Prop :=
  jn (α := VFH 1) (fun v1 H2 =>
  ∀ v3 v4 v5 v6 v7 v8 v9 v10 : Value,
  dBl v1 (fun b11 =>
  sB b11 (R (Ending.returned (Value.tuple #[Value.slice none 0 0, Value.int IntKind.i64 50])) H2) (al H2 (Obj.cells #[] 5) (fun r12 H13 =>
  semW Try.prog (Builtin.append_ #[32, 32] 32 #[Value.slice (some (Addr.mk r12 0 none)) 0 0, Value.slice x0a x0n x0c]) (pnR R) H13 (fun v16 H17 =>
  dSl v16 (fun p18 r19 r20 =>
  jn (α := VFH 0) (fun H21 =>
  ∀ v22 v23 v24 v25 v26 v27 v28 v29 v30 v31 v32 v33 v34 v35 v36 v37 v38 v39 : Value,
  R (Ending.returned (Value.tuple #[Value.slice p18 r19 r20, Value.int IntKind.i64 0])) H21) (fun k40 =>
  HCalls Try.prog 54 #[Value.slice x0a x0n x0c, Value.int IntKind.i64 x1] H17 (Sp.retK (fun v41 H42 =>
  dBl v41 (fun b43 =>
  sB (!b43 == x2) (ask ((8 : Int) ≠ (0 : Int)) (wr IntKind.i64 (Int.tdiv x1 8) (fun n44 =>
  ask ((8 : Int) ≠ (0 : Int)) (wr IntKind.i64 (Int.tdiv x1 8) (fun n45 =>
  nz p18 (fun a46 =>
  ask ((0 : Int) ≤ n45 ∧ n45 < (↑r19 : Int)) (ld H42 (Addr.add a46 (Int.toNat n45 * 1)) (fun v47 =>
  dInt IntKind.u8 v47 (fun n48 =>
  ask ((8 : Int) ≠ (0 : Int)) (nm (Int.tmod x1 8) (fun n49 =>
  ask ((0 : Int) ≤ n49) (nm (IntKind.wrap IntKind.u8 (1 * 2 ^ min (Int.toNat n49) 8)) (fun n50 =>
  nm (IntKind.wrap IntKind.u8 (↑(BitVec.toNat (BitVec.ofInt 8 n48 ^^^ BitVec.ofInt 8 n50)) : Int)) (fun n51 =>
  nz p18 (fun a52 =>
  ask ((0 : Int) ≤ n44 ∧ n44 < (↑r19 : Int)) (st H42 (Addr.add a52 (Int.toNat n44 * 1)) (Value.int IntKind.u8 n51) (fun H53 =>
  k40 H53))))))))))))))))) (k40 H42))) (pnR R))))))))) (fun k56 =>
  sB (decide (x1 < 0)) (k56 (Value.bool true) H) (ask ((8 : Int) ≠ (0 : Int)) (wr IntKind.i64 (Int.tdiv x1 8) (fun n57 =>
  k56 (Value.bool (decide (n57 ≥ (↑x0n : Int)))) H))))
theorem F40_eq (x0a : Option Addr) (x0n : Nat) (x0c : Nat) (x1 : Int) (x2 : Bool) (R : Ending → Heap → Prop) (H : Heap) : F40 x0a x0n x0c x1 x2 R H = vc Try.prog (codeOf Try.f40) (.node none .leaf (.node none (.node (some ⟨[(17, 4)], [9, 10, 11, 12, 13, 14, 15, 16]⟩) .leaf .leaf) (.node none .leaf (.node (some ⟨[], [21, 22, 23, 24, 25, 26, 27, 28, 29, 30, 31, 32, 33, 34, 35, 36, 37, 38]⟩) .leaf .leaf)))) (postV Try.prog Try.f40 R) ⟨#[Value.slice x0a x0n x0c, Value.int IntKind.i64 x1, Value.bool x2] ++ Array.replicate (Try.f40.ntmps - 3) undef, []⟩ H := by kernel_rfl
theorem F40_calls {R : Ending → Heap → Prop} {H : Heap} (x0a : Option Addr) (x0n : Nat) (x0c : Nat) (x1 : Int) (x2 : Bool) (h : F40 x0a x0n x0c x1 x2 R H) : HCalls Try.prog 40 #[Value.slice x0a x0n x0c, Value.int IntKind.i64 x1, Value.bool x2] H R :=
  calls_by (F := F40 x0a x0n x0c x1 x2 R H) (.node none .leaf (.node none (.node (some ⟨[(17, 4)], [9, 10, 11, 12, 13, 14, 15, 16]⟩) .leaf .leaf) (.node none .leaf (.node (some ⟨[], [21, 22, 23, 24, 25, 26, 27, 28, 29, 30, 31, 32, 33, 34, 35, 36, 37, 38]⟩) .leaf .leaf)))) Try.func40 rfl (F40_eq x0a x0n x0c x1 x2 R H) h
/-- bollard/bollardref03.EncodeGroup -/
def F41 (x0_0 : Value) (x0_1 : Value) (x0_2 : Value) (x0_3 : Value) (x0_4 : Value) (x0_5 : Value) (x0_6 : Value) (x0_7 : Value) (x0_8 : Value) (x0_9 : Value) (x0_10 : Value) (x0_11 : Value) (x0_12 : Value) (x0_13 : Value) (x0_14 : Value) (x0_15 : Value) (x0_16 : Value) (x0_17 : Value) (x0_18 : Value) (x0_19 : Value) (x0_20 : Value) (x0_21 : Value) (x0_22 : Value) (x0_23 : Value) (x0_24 : Value) (x0_25 : Value) (x0_26 : Value) (x0_27 : Value) (x0_28 : Value) (x0_29 : Value) (x0_30 : Value) (x0_31 : Value) (x0_32 : Value) (x0_33 : Value) (x0_34 : Value) (x0_35 : Value) (x0_36 : Value) (x0_37 : Value) (x0_38 : Value) (x0_39 : Value) (x0_40 : Value) (R : Ending → Heap → Prop) (H : Heap) : Prop :=
  al H (Obj.cells #[x0_0, x0_1, x0_2, x0_3, x0_4, x0_5, x0_6, x0_7, x0_8, x0_9, x0_10, x0_11, x0_12, x0_13, x0_14, x0_15, x0_16, x0_17, x0_18, x0_19, x0_20, x0_21, x0_22, x0_23, x0_24, x0_25, x0_26, x0_27, x0_28, x0_29, x0_30, x0_31, x0_32, x0_33, x0_34, x0_35, x0_36, x0_37, x0_38, x0_39, x0_40] 43) (fun r1 H2 =>
  jn (α := VFH 1) (fun v3 H4 =>
  ∀ v5 v6 v7 v8 v9 v10 v11 : Value,
  dBl v3 (fun b12 =>
  sB b12 (R (Ending.returned (Value.tuple #[Value.slice none 0 0, Value.int IntKind.i64 1])) H4) (al H4 (Obj.cells #[Value.int IntKind.u8 104, Value.int IntKind.u8 100] 5) (fun r13 H14 =>
  semW Try.prog (convert 32 32 (Value.slice (some (Addr.mk r13 0 none)) 2 2)) (pnR R) H14 (fun v17 H18 =>
  dSl v17 (fun p19 r20 r21 =>
  ld H18 (Addr.mk r1 0 none) (fun v22 =>
  dInt IntKind.i64 v22 (fun n23 =>
  wr IntKind.u8 n23 (fun n24 =>
  al H18 (Obj.cells #[Value.int IntKind.u8 n24, Value.int IntKind.u8 0] 5) (fun r25 H26 =>
  semW Try.prog (Builtin.append_ #[32, 32] 32 #[Value.slice p19 r20 r21, Value.slice (some (Addr.mk r25 0 none)) 2 2]) (pnR R) H26 (fun v29 H30 =>
  dSl v29 (fun p31 r32 r33 =>
  ask ((0 : Int) ≤ (0 : Int) ∧ (0 : Int) ≤ (8 : Int) ∧ (8 : Int) ≤ (8 : Int) ∧ (8 : Int) ≤ (8 : Int)) (ask ((0 : Int) ≤ (0 : Int) ∧ (0 : Int) ≤ (32 : Int) ∧ (32 : Int) ≤ (32 : Int) ∧ (32 : Int) ≤ (32 : Int)) (semW Try.prog (Builtin.append_ #[32, 32] 32 #[Value.slice p31 r32 r33, Value.slice (slO (some (Addr.mk r1 1 none)) 1 0 8) (Int.toNat 8 - Int.toNat 0) (Int.toNat 8 - Int.toNat 0)]) nopR H30 (fun v36 H37 =>
  dSl v36 (fun p38 r39 r40 =>
  semW Try.prog (Builtin.append_ #[32, 32] 32 #[Value.slice p38 r39 r40, Value.slice (slO (some (Addr.mk r1 9 none)) 1 0 32) (Int.toNat 32 - Int.toNat 0) (Int.toNat 32 - Int.toNat 0)]) nopR H37 (fun v43 H44 =>
  dSl v43 (fun p45 r46 r47 =>
  semW Try.prog (Builtin.append_ #[32, 3] 32 #[Value.slice p45 r46 r47, Value.int IntKind.i64 84]) (pnR R) H44 (fun v50 H51 =>
  dSl v50 (fun p52 r53 r54 =>
  R (Ending.returned (Value.tuple #[Value.slice p52 r53 r54, Value.int IntKind.i64 0])) H51)))))))))))))))))))) (fun k55 =>
  ld H2 (Addr.mk r1 0 none) (fun v56 =>
  dInt IntKind.i64 v56 (fun n57 =>
  sB (decide (n57 < 0)) (k55 (Value.bool true) H2) (ld H2 (Addr.mk r1 0 none) (fun v58 =>
  dInt IntKind.i64 v58 (fun n59 =>
  k55 (Value.bool (decide (n59 > 7))) H2)))))))
theorem F41_eq (x0_0 : Value) (x0_1 : Value) (x0_2 : Value) (x0_3 : Value) (x0_4 : Value) (x0_5 : Value) (x0_6 : Value) (x0_7 : Value) (x0_8 : Value) (x0_9 : Value) (x0_10 : Value) (x0_11 : Value) (x0_12 : Value) (x0_13 : Value) (x0_14 : Value) (x0_15 : Value) (x0_16 : Value) (x0_17 : Value) (x0_18 : Value) (x0_19 : Value) (x0_20 : Value) (x0_21 : Value) (x0_22 : Value) (x0_23 : Value) (x0_24 : Value) (x0_25 : Value) (x0_26 : Value) (x0_27 : Value) (x0_28 : Value) (x0_29 : Value) (x0_30 : Value) (x0_31 : Value) (x0_32 : Value) (x0_33 : Value) (x0_34 : Value) (x0_35 : Value) (x0_36 : Value) (x0_37 : Value) (x0_38 : Value) (x0_39 : Value) (x0_40 : Value) (R : Ending → Heap → Prop) (H : Heap) : F41 x0_0 x0_1 x0_2 x0_3 x0_4 x0_5 x0_6 x0_7 x0_8 x0_9 x0_10 x0_11 x0_12 x0_13 x0_14 x0_15 x0_16 x0_17 x0_18 x0_19 x0_20 x0_21 x0_22 x0_23 x0_24 x0_25 x0_26 x0_27 x0_28 x0_29 x0_30 x0_31 x0_32 x0_33 x0_34 x0_35 x0_36 x0_37 x0_38 x0_39 x0_40 R H = vc Try.prog (codeOf Try.f41) (.node none .leaf (.node none (.node (some ⟨[(12, 4)], [5, 6, 7, 8, 9, 10, 11]⟩) .leaf .leaf) .leaf)) (postV Try.prog Try.f41 R) ⟨#[Value.agg #[x0_0, x0_1, x0_2, x0_3, x0_4, x0_5, x0_6, x0_7, x0_8, x0_9, x0_10, x0_11, x0_12, x0_13, x0_14, x0_15, x0_16, x0_17, x0_18, x0_19, x0_20, x0_21, x0_22, x0_23, x0_24, x0_25, x0_26, x0_27, x0_28, x0_29, x0_30, x0_31, x0_32, x0_33, x0_34, x0_35, x0_36, x0_37, x0_38, x0_39, x0_40]] ++ Array.replicate (Try.f41.ntmps - 1) undef, []⟩ H := by kernel_rfl
theorem F41_calls {R : Ending → Heap → Prop} {H : Heap} (x0_0 : Value) (x0_1 : Value) (x0_2 : Value) (x0_3 : Value) (x0_4 : Value) (x0_5 : Value) (x0_6 : Value) (x0_7 : Value) (x0_8 : Value) (x0_9 : Value) (x0_10 : Value) (x0_11 : Value) (x0_12 : Value) (x0_13 : Value) (x0_14 : Value) (x0_15 : Value) (x0_16 : Value) (x0_17 : Value) (x0_18 : Value) (x0_19 : Value) (x0_20 : Value) (x0_21 : Value) (x0_22 : Value) (x0_23 : Value) (x0_24 : Value) (x0_25 : Value) (x0_26 : Value) (x0_27 : Value) (x0_28 : Value) (x0_29 : Value) (x0_30 : Value) (x0_31 : Value) (x0_32 : Value) (x0_33 : Value) (x0_34 : Value) (x0_35 : Value) (x0_36 : Value) (x0_37 : Value) (x0_38 : Value) (x0_39 : Value) (x0_40 : Value) (h : F41 x0_0 x0_1 x0_2 x0_3 x0_4 x0_5 x0_6 x0_7 x0_8 x0_9 x0_10 x0_11 x0_12 x0_13 x0_14 x0_15 x0_16 x0_17 x0_18 x0_19 x0_20 x0_21 x0_22 x0_23 x0_24 x0_25 x0_26 x0_27 x0_28 x0_29 x0_30 x0_31 x0_32 x0_33 x0_34 x0_35 x0_36 x0_37 x0_38 x0_39 x0_40 R H) : HCalls Try.prog 41 #[Value.agg #[x0_0, x0_1, x0_2, x0_3, x0_4, x0_5, x0_6, x0_7, x0_8, x0_9, x0_10, x0_11, x0_12, x0_13, x0_14, x0_15, x0_16, x0_17, x0_18, x0_19, x0_20, x0_21, x0_22, x0_23, x0_24, x0_25, x0_26, x0_27, x0_28, x0_29, x0_30, x0_31, x0_32, x0_33, x0_34, x0_35, x0_36, x0_37, x0_38, x0_39, x0_40]] H R :=
  calls_by (F := F41 x0_0 x0_1 x0_2 x0_3 x0_4 x0_5 x0_6 x0_7 x0_8 x0_9 x0_10 x0_11 x0_12 x0_13 x0_14 x0_15 x0_16 x0_17 x0_18 x0_19 x0_20 x0_21 x0_22 x0_23 x0_24 x0_25 x0_26 x0_27 x0_28 x0_29 x0_30 x0_31 x0_32 x0_33 x0_34 x0_35 x0_36 x0_37 x0_38 x0_39 x0_40 R H) (.node none .leaf (.node none (.node (some ⟨[(12, 4)], [5, 6, 7, 8, 9, 10, 11]⟩) .leaf .leaf) .leaf)) Try.func41 rfl (F41_eq x0_0 x0_1 x0_2 x0_3 x0_4 x0_5 x0_6 x0_7 x0_8 x0_9 x0_10 x0_11 x0_12 x0_13 x0_14 x0_15 x0_16 x0_17 x0_18 x0_19 x0_20 x0_21 x0_22 x0_23 x0_24 x0_25 x0_26 x0_27 x0_28 x0_29 x0_30 x0_31 x0_32 x0_33 x0_34 x0_35 x0_36 x0_37 x0_38 x0_39 x0_40 R H) h
/-- bollard/bollardref03.mayDinode -/
def F42 (x0_0 : Value) (x0_1 : Value) (x0_2 : Value) (x0_3 : Value) (x0_4 : Value) (x0_5 : Value) (x0_6 : Value) (x0_7 : Value) (x0_8 : Value) (R : Ending → Heap → Prop) (H : Heap) : Prop :=
  al H (Obj.cells #[x0_0, x0_1, x0_2, x0_3, x0_4, x0_5, x0_6, x0_7, x0_8] 50) (fun r1 H2 =>
  ld H2 (Addr.mk r1 0 none) (fun v3 =>
  dInt IntKind.i64 v3 (fun n4 =>
  sB (n4 == 0) (ld H2 (Addr.mk r1 0 none) (fun v5 =>
  ld H2 (Addr.mk r1 1 none) (fun v6 =>
  ld H2 (Addr.mk r1 2 none) (fun v7 =>
  ld H2 (Addr.mk r1 3 none) (fun v8 =>
  ld H2 (Addr.mk r1 4 none) (fun v9 =>
  ld H2 (Addr.mk r1 5 none) (fun v10 =>
  ld H2 (Addr.mk r1 6 none) (fun v11 =>
  ld H2 (Addr.mk r1 7 none) (fun v12 =>
  ld H2 (Addr.mk r1 8 none) (fun v13 =>
  semW Try.prog (eqSem BinOp.eql 50 (Operand.tmp 8) (Operand.tmp 9) (Value.agg #[v5, v6, v7, v8, v9, v10, v11, v12, v13]) (Value.agg #[Value.int IntKind.i64 0, Value.int IntKind.i64 0, Value.int IntKind.i64 0, Value.int IntKind.i64 0, Value.int IntKind.i64 0, Value.int IntKind.i64 0, Value.int IntKind.i64 0, Value.int IntKind.i64 0, Value.int IntKind.i64 0])) (pnR R) H2 (fun v16 H17 =>
  dBl v16 (fun b18 =>
  R (Ending.returned (Value.bool b18)) H17)))))))))))) (jn (α := VFH 1) (fun v19 H20 =>
  ∀ v21 v22 v23 v24 v25 v26 v27 v28 v29 v30 v31 v32 v33 v34 v35 v36 v37 v38 v39 v40 v41 v42 v43 v44 v45 v46 v47 : Value,
  dBl v19 (fun b48 =>
  sB b48 (R (Ending.returned (Value.bool false)) H20) (ld H20 (Addr.mk r1 3 none) (fun v49 =>
  ld H20 (Addr.mk r1 4 none) (fun v50 =>
  ld H20 (Addr.mk r1 5 none) (fun v51 =>
  ld H20 (Addr.mk r1 6 none) (fun v52 =>
  ∃ I53 : List Value → Heap → Prop,
  ∃ I54 : List Value → Heap → Nat,
  (I53 ([Value.int IntKind.i64 0]) H20) ∧
  ∀ n55 : Int,
  ∀ v56 v57 v58 v59 v60 v61 v62 v63 : Value,
  ∀ H64 : Heap,
  (I53 ([Value.int IntKind.i64 n55]) H64) →
  sB (decide (n55 < 4)) (ask ((0 : Int) ≤ n55 ∧ n55 < (4 : Int)) (oV ([v49, v50, v51, v52][Int.toNat n55 * 1]?) (fun v66 =>
  dInt IntKind.i64 v66 (fun n67 =>
  HCalls Try.prog 55 #[Value.int IntKind.i64 n67] H64 (Sp.retK (fun v68 H69 =>
  dBl v68 (fun b70 =>
  sB (!b70) (R (Ending.returned (Value.bool false)) H69) (wr IntKind.i64 (n55 + 1) (fun n71 =>
  (I53 ([Value.int IntKind.i64 n71]) H69) ∧
  (I54 [Value.int IntKind.i64 n71] H69) < (I54 [Value.int IntKind.i64 n55] H64))))) (pnR R)))))) (ld H64 (Addr.mk r1 7 none) (fun v74 =>
  dInt IntKind.i64 v74 (fun n75 =>
  HCalls Try.prog 55 #[Value.int IntKind.i64 n75] H64 (Sp.retK (fun v76 H77 =>
  dBl v76 (fun b78 =>
  sB b78 (ld H77 (Addr.mk r1 8 none) (fun v79 =>
  dInt IntKind.i64 v79 (fun n80 =>
  HCalls Try.prog 55 #[Value.int IntKind.i64 n80] H77 (Sp.retK (fun v81 H82 =>
  dBl v81 (fun b83 =>
  sB b83 (ld H82 (Addr.mk r1 0 none) (fun v84 =>
  dInt IntKind.i64 v84 (fun n85 =>
  sB (n85 != 2) (R (Ending.returned (Value.bool true)) H82) (ld H82 (Addr.mk r1 2 none) (fun v86 =>
  dInt IntKind.i64 v86 (fun n87 =>
  ask ((128 : Int) ≠ (0 : Int)) (nm (Int.tmod n87 128) (fun n88 =>
  R (Ending.returned (Value.bool (n88 == 0))) H82)))))))) (R (Ending.returned (Value.bool false)) H82))) (pnR R))))) (R (Ending.returned (Value.bool false)) H77))) (pnR R)))))))))))) (fun k93 =>
  ld H2 (Addr.mk r1 0 none) (fun v94 =>
  dInt IntKind.i64 v94 (fun n95 =>
  sB (n95 != 1) (ld H2 (Addr.mk r1 0 none) (fun v96 =>
  dInt IntKind.i64 v96 (fun n97 =>
  sB (n97 != 2) (k93 (Value.bool true) H2) (ld H2 (Addr.mk r1 1 none) (fun v98 =>
  dInt IntKind.i64 v98 (fun n99 =>
  sB (decide (n99 < 0)) (k93 (Value.bool true) H2) (ld H2 (Addr.mk r1 1 none) (fun v100 =>
  dInt IntKind.i64 v100 (fun n101 =>
  sB (decide (n101 > 1000)) (k93 (Value.bool true) H2) (ld H2 (Addr.mk r1 2 none) (fun v102 =>
  dInt IntKind.i64 v102 (fun n103 =>
  sB (decide (n103 < 0)) (k93 (Value.bool true) H2) (ld H2 (Addr.mk r1 2 none) (fun v104 =>
  dInt IntKind.i64 v104 (fun n105 =>
  k93 (Value.bool (decide (n105 > 532992))) H2))))))))))))))) (ld H2 (Addr.mk r1 1 none) (fun v106 =>
  dInt IntKind.i64 v106 (fun n107 =>
  sB (decide (n107 < 0)) (k93 (Value.bool true) H2) (ld H2 (Addr.mk r1 1 none) (fun v108 =>
  dInt IntKind.i64 v108 (fun n109 =>
  sB (decide (n109 > 1000)) (k93 (Value.bool true) H2) (ld H2 (Addr.mk r1 2 none) (fun v110 =>
  dInt IntKind.i64 v110 (fun n111 =>
  sB (decide (n111 < 0)) (k93 (Value.bool true) H2) (ld H2 (Addr.mk r1 2 none) (fun v112 =>
  dInt IntKind.i64 v112 (fun n113 =>
  k93 (Value.bool (decide (n113 > 532992))) H2)))))))))))))))))))
theorem F42_eq (x0_0 : Value) (x0_1 : Value) (x0_2 : Value) (x0_3 : Value) (x0_4 : Value) (x0_5 : Value) (x0_6 : Value) (x0_7 : Value) (x0_8 : Value) (R : Ending → Heap → Prop) (H : Heap) : F42 x0_0 x0_1 x0_2 x0_3 x0_4 x0_5 x0_6 x0_7 x0_8 R H = vc Try.prog (codeOf Try.f42) (.node none .leaf (.node none .leaf (.node none (.node (some ⟨[(38, 4)], [11, 12, 13, 14, 15, 16, 17, 18, 19, 20, 21, 22, 23, 24, 25, 26, 27, 28, 29, 30, 31, 32, 33, 34, 35, 36, 37]⟩) .leaf .leaf) (.node none (.node none .leaf (.node none (.node (some ⟨[(41, 3)], [2, 4, 42, 43, 44, 45, 46, 47]⟩) .leaf .leaf) .leaf)) .leaf)))) (postV Try.prog Try.f42 R) ⟨#[Value.agg #[x0_0, x0_1, x0_2, x0_3, x0_4, x0_5, x0_6, x0_7, x0_8]] ++ Array.replicate (Try.f42.ntmps - 1) undef, []⟩ H := by kernel_rfl
theorem F42_calls {R : Ending → Heap → Prop} {H : Heap} (x0_0 : Value) (x0_1 : Value) (x0_2 : Value) (x0_3 : Value) (x0_4 : Value) (x0_5 : Value) (x0_6 : Value) (x0_7 : Value) (x0_8 : Value) (h : F42 x0_0 x0_1 x0_2 x0_3 x0_4 x0_5 x0_6 x0_7 x0_8 R H) : HCalls Try.prog 42 #[Value.agg #[x0_0, x0_1, x0_2, x0_3, x0_4, x0_5, x0_6, x0_7, x0_8]] H R :=
  calls_by (F := F42 x0_0 x0_1 x0_2 x0_3 x0_4 x0_5 x0_6 x0_7 x0_8 R H) (.node none .leaf (.node none .leaf (.node none (.node (some ⟨[(38, 4)], [11, 12, 13, 14, 15, 16, 17, 18, 19, 20, 21, 22, 23, 24, 25, 26, 27, 28, 29, 30, 31, 32, 33, 34, 35, 36, 37]⟩) .leaf .leaf) (.node none (.node none .leaf (.node none (.node (some ⟨[(41, 3)], [2, 4, 42, 43, 44, 45, 46, 47]⟩) .leaf .leaf) .leaf)) .leaf)))) Try.func42 rfl (F42_eq x0_0 x0_1 x0_2 x0_3 x0_4 x0_5 x0_6 x0_7 x0_8 R H) h
/-- bollard/bollardref03.number -/
def F43 (x0a : Option Addr) (x0n : Nat) (x0c : Nat) (x1 : Int) (x2 : Int) (x3 : Int) (R : Ending → Heap → Prop) (H : Heap) : Prop :=
  HCalls Try.prog 56 #[Value.slice x0a x0n x0c, Value.int IntKind.i64 x1, Value.int IntKind.i64 x2, Value.int IntKind.i64 x3] H (Sp.retK (fun v1 H2 =>
  dT 2 v1 (fun v3 v4 =>
  dSl v3 (fun p5 r6 r7 =>
  dInt IntKind.i64 v4 (fun n8 =>
  R (Ending.returned (Value.slice p5 r6 r7)) H2)))) (pnR R))
theorem F43_eq (x0a : Option Addr) (x0n : Nat) (x0c : Nat) (x1 : Int) (x2 : Int) (x3 : Int) (R : Ending → Heap → Prop) (H : Heap) : F43 x0a x0n x0c x1 x2 x3 R H = vc Try.prog (codeOf Try.f43) .leaf (postV Try.prog Try.f43 R) ⟨#[Value.slice x0a x0n x0c, Value.int IntKind.i64 x1, Value.int IntKind.i64 x2, Value.int IntKind.i64 x3] ++ Array.replicate (Try.f43.ntmps - 4) undef, []⟩ H := by kernel_rfl
theorem F43_calls {R : Ending → Heap → Prop} {H : Heap} (x0a : Option Addr) (x0n : Nat) (x0c : Nat) (x1 : Int) (x2 : Int) (x3 : Int) (h : F43 x0a x0n x0c x1 x2 x3 R H) : HCalls Try.prog 43 #[Value.slice x0a x0n x0c, Value.int IntKind.i64 x1, Value.int IntKind.i64 x2, Value.int IntKind.i64 x3] H R :=
  calls_by (F := F43 x0a x0n x0c x1 x2 x3 R H) .leaf Try.func43 rfl (F43_eq x0a x0n x0c x1 x2 x3 R H) h
/-- bollard/bollardref01.Seal -/
def F44 (x0a : Option Addr) (x0n : Nat) (x0c : Nat) (R : Ending → Heap → Prop) (H : Heap) : Prop :=
  sB (decide ((↑x0n : Int) < 4)) (R (Ending.returned (Value.tuple #[Value.slice none 0 0, Value.int IntKind.i64 10])) H) (wr IntKind.i64 ((↑x0n : Int) - 4) (fun n1 =>
  wr IntKind.i64 ((↑x0n : Int) - 4) (fun n2 =>
  ask ((0 : Int) ≤ (0 : Int) ∧ (0 : Int) ≤ n2 ∧ n2 ≤ (↑x0c : Int) ∧ (↑x0c : Int) ≤ (↑x0c : Int)) (HCalls Try.prog 57 #[Value.slice (slO x0a 1 0 (↑x0c : Int)) (Int.toNat n2 - Int.toNat 0) (Int.toNat (↑x0c : Int) - Int.toNat 0)] H (Sp.retK (fun v3 H4 =>
  dInt IntKind.i64 v3 (fun n5 =>
  HCalls Try.prog 56 #[Value.slice x0a x0n x0c, Value.int IntKind.i64 n1, Value.int IntKind.i64 4, Value.int IntKind.i64 n5] H4 (Sp.retK (fun v6 H7 =>
  dT 2 v6 (fun v8 v9 =>
  dSl v8 (fun p10 r11 r12 =>
  dInt IntKind.i64 v9 (fun n13 =>
  R (Ending.returned (Value.tuple #[Value.slice p10 r11 r12, Value.int IntKind.i64 n13])) H7)))) (pnR R)))) (pnR R))))))
theorem F44_eq (x0a : Option Addr) (x0n : Nat) (x0c : Nat) (R : Ending → Heap → Prop) (H : Heap) : F44 x0a x0n x0c R H = vc Try.prog (codeOf Try.f44) .leaf (postV Try.prog Try.f44 R) ⟨#[Value.slice x0a x0n x0c] ++ Array.replicate (Try.f44.ntmps - 1) undef, []⟩ H := by kernel_rfl
theorem F44_calls {R : Ending → Heap → Prop} {H : Heap} (x0a : Option Addr) (x0n : Nat) (x0c : Nat) (h : F44 x0a x0n x0c R H) : HCalls Try.prog 44 #[Value.slice x0a x0n x0c] H R :=
  calls_by (F := F44 x0a x0n x0c R H) .leaf Try.func44 rfl (F44_eq x0a x0n x0c R H) h
/-- bollard/bollardref12.clash -/
def F45 (x0a : Option Addr) (x0n : Nat) (x0c : Nat) (R : Ending → Heap → Prop) (H : Heap) : Prop :=
  ∃ I1 : List Value → Heap → Prop,
  ∃ I2 : List Value → Heap → Nat,
  (I1 ([Value.int IntKind.i64 0]) H) ∧
  ∀ n3 : Int,
  ∀ v4 v5 v6 v7 v8 v9 v10 v11 v12 v13 v14 v15 v16 v17 v18 v19 v20 v21 v22 v23 v24 v25 v26 v27 v28 v29 v30 v31 v32 v33 v34 v35 v36 : Value,
  ∀ H37 : Heap,
  (I1 ([Value.int IntKind.i64 n3]) H37) →
  sB (decide (n3 < (↑x0n : Int))) (nz x0a (fun a39 =>
  ask ((0 : Int) ≤ n3 ∧ n3 < (↑x0n : Int)) (ld H37 (Addr.add a39 (Int.toNat n3 * 2)) (fun v40 =>
  ld H37 (Addr.add (Addr.add a39 (Int.toNat n3 * 2)) 1) (fun v41 =>
  al H37 (Obj.cells #[Value.int IntKind.i64 0, Value.string (ByteArray.mk #[])] 53) (fun r42 H43 =>
  st H43 (Addr.mk r42 0 none) v40 (fun H44 =>
  st H44 (Addr.mk r42 1 none) v41 (fun H45 =>
  ask ((0 : Int) ≤ (0 : Int) ∧ (0 : Int) ≤ n3 ∧ n3 ≤ (↑x0c : Int) ∧ (↑x0c : Int) ≤ (↑x0c : Int)) (∃ I46 : List Value → Heap → Prop,
  ∃ I47 : List Value → Heap → Nat,
  (I46 ([Value.int IntKind.i64 0]) H45) ∧
  ∀ n48 : Int,
  ∀ v49 v50 v51 v52 v53 v54 v55 v56 v57 v58 v59 v60 v61 v62 v63 v64 v65 v66 v67 v68 v69 : Value,
  ∀ H70 : Heap,
  (I46 ([Value.int IntKind.i64 n48]) H70) →
  sB (decide (n48 < (↑(Int.toNat n3 - Int.toNat 0) : Int))) (nz (slO x0a 2 0 (↑x0c : Int)) (fun a72 =>
  ask ((0 : Int) ≤ n48 ∧ n48 < (↑(Int.toNat n3 - Int.toNat (0 : Int)) : Int)) (ld H70 (Addr.add a72 (Int.toNat n48 * 2)) (fun v73 =>
  ld H70 (Addr.add (Addr.add a72 (Int.toNat n48 * 2)) 1) (fun v74 =>
  al H70 (Obj.cells #[Value.int IntKind.i64 0, Value.string (ByteArray.mk #[])] 53) (fun r75 H76 =>
  st H76 (Addr.mk r75 0 none) v73 (fun H77 =>
  st H77 (Addr.mk r75 1 none) v74 (fun H78 =>
  jn (α := VFH 1) (fun v79 H80 =>
  ∀ v81 v82 v83 v84 v85 v86 v87 v88 v89 v90 v91 v92 v93 v94 : Value,
  dBl v79 (fun b95 =>
  sB b95 (R (Ending.returned (Value.bool true)) H80) (wr IntKind.i64 (n48 + 1) (fun n96 =>
  (I46 ([Value.int IntKind.i64 n96]) H80) ∧
  (I47 [Value.int IntKind.i64 n96] H80) < (I47 [Value.int IntKind.i64 n48] H70))))) (fun k97 =>
  ld H78 (Addr.mk r42 0 none) (fun v98 =>
  dInt IntKind.i64 v98 (fun n99 =>
  sB (n99 != 0) (ld H78 (Addr.mk r75 0 none) (fun v100 =>
  dInt IntKind.i64 v100 (fun n101 =>
  sB (n101 != 0) (ld H78 (Addr.mk r42 1 none) (fun v102 =>
  dStr v102 (fun s103 =>
  ld H78 (Addr.mk r75 1 none) (fun v104 =>
  dStr v104 (fun s105 =>
  k97 (Value.bool (ByteArray.toList s103 == ByteArray.toList s105)) H78))))) (k97 (Value.bool false) H78)))) (k97 (Value.bool false) H78)))))))))))) (wr IntKind.i64 (n3 + 1) (fun n106 =>
  (I1 ([Value.int IntKind.i64 n106]) H70) ∧
  (I2 [Value.int IntKind.i64 n106] H70) < (I2 [Value.int IntKind.i64 n3] H37)))))))))))) (R (Ending.returned (Value.bool false)) H37)
theorem F45_eq (x0a : Option Addr) (x0n : Nat) (x0c : Nat) (R : Ending → Heap → Prop) (H : Heap) : F45 x0a x0n x0c R H = vc Try.prog (codeOf Try.f45) (.node none .leaf (.node none (.node none .leaf (.node none (.node (some ⟨[(9, 3)], [2, 3, 4, 6, 10, 11, 12, 13, 14, 15, 16, 17, 18, 19, 20, 21, 22, 23, 24, 25, 26, 27, 28, 29, 30, 31, 32, 33, 34, 35, 36, 37, 38]⟩) (.node none .leaf (.node none .leaf (.node none (.node none (.node none .leaf (.node none .leaf (.node none (.node (some ⟨[(18, 3)], [2, 6, 19, 20, 21, 22, 23, 24, 25, 26, 27, 28, 29, 30, 31, 32, 33, 34, 35, 36, 37]⟩) (.node none .leaf (.node none .leaf (.node none (.node none (.node none .leaf (.node (some ⟨[(36, 4)], [22, 23, 24, 25, 26, 27, 28, 29, 30, 31, 32, 33, 34, 35]⟩) .leaf .leaf)) .leaf) .leaf))) .leaf) .leaf))) .leaf) .leaf))) .leaf) .leaf)) .leaf)) (postV Try.prog Try.f45 R) ⟨#[Value.slice x0a x0n x0c] ++ Array.replicate (Try.f45.ntmps - 1) undef, []⟩ H := by kernel_rfl
theorem F45_calls {R : Ending → Heap → Prop} {H : Heap} (x0a : Option Addr) (x0n : Nat) (x0c : Nat) (h : F45 x0a x0n x0c R H) : HCalls Try.prog 45 #[Value.slice x0a x0n x0c] H R :=
  calls_by (F := F45 x0a x0n x0c R H) (.node none .leaf (.node none (.node none .leaf (.node none (.node (some ⟨[(9, 3)], [2, 3, 4, 6, 10, 11, 12, 13, 14, 15, 16, 17, 18, 19, 20, 21, 22, 23, 24, 25, 26, 27, 28, 29, 30, 31, 32, 33, 34, 35, 36, 37, 38]⟩) (.node none .leaf (.node none .leaf (.node none (.node none (.node none .leaf (.node none .leaf (.node none (.node (some ⟨[(18, 3)], [2, 6, 19, 20, 21, 22, 23, 24, 25, 26, 27, 28, 29, 30, 31, 32, 33, 34, 35, 36, 37]⟩) (.node none .leaf (.node none .leaf (.node none (.node none (.node none .leaf (.node (some ⟨[(36, 4)], [22, 23, 24, 25, 26, 27, 28, 29, 30, 31, 32, 33, 34, 35]⟩) .leaf .leaf)) .leaf) .leaf))) .leaf) .leaf))) .leaf) .leaf))) .leaf) .leaf)) .leaf)) Try.func45 rfl (F45_eq x0a x0n x0c R H) h
/-- bollard/bollardref03.EncodeEntry -/
def F46 (x0_0 : Value) (x0_1 : Value) (R : Ending → Heap → Prop) (H : Heap) : Prop :=
  al H (Obj.cells #[x0_0, x0_1] 53) (fun r1 H2 =>
  ask ((0 : Int) ≤ (16 : Int) ∧ (16 : Int) ≤ (16 : Int) ∧ (16 : Int) ≤ (281474976710656 : Int) ∧ (16 : Int) ≤ (9223372036854775807 : Int)) (al H2 (Obj.cells (List.toArray (rowZ [Value.int IntKind.u8 0] (Int.toNat 16))) 5) (fun r3 H4 =>
  ld H4 (Addr.mk r1 0 none) (fun v5 =>
  ld H4 (Addr.mk r1 1 none) (fun v6 =>
  semW Try.prog (eqSem BinOp.eql 53 (Operand.tmp 6) (Operand.tmp 7) (Value.agg #[v5, v6]) (Value.agg #[Value.int IntKind.i64 0, Value.string (ByteArray.mk #[])])) (pnR R) H4 (fun v9 H10 =>
  dBl v9 (fun b11 =>
  sB b11 (R (Ending.returned (Value.tuple #[Value.slice (some (Addr.mk r3 0 none)) (Int.toNat 16) (Int.toNat 16), Value.int IntKind.i64 0])) H10) (jn (α := VFH 1) (fun v12 H13 =>
  ∀ v14 v15 v16 v17 v18 v19 v20 v21 v22 v23 v24 v25 v26 v27 v28 v29 v30 v31 v32 v33 v34 v35 v36 : Value,
  dBl v12 (fun b37 =>
  sB b37 (R (Ending.returned (Value.tuple #[Value.slice none 0 0, Value.int IntKind.i64 1])) H13) (ld H13 (Addr.mk r1 0 none) (fun v38 =>
  dInt IntKind.i64 v38 (fun n39 =>
  HCalls Try.prog 43 #[Value.slice (some (Addr.mk r3 0 none)) (Int.toNat 16) (Int.toNat 16), Value.int IntKind.i64 0, Value.int IntKind.i64 2, Value.int IntKind.i64 n39] H13 (Sp.retK (fun v40 H41 =>
  dSl v40 (fun p42 r43 r44 =>
  ld H41 (Addr.mk r1 1 none) (fun v45 =>
  dStr v45 (fun s46 =>
  HCalls Try.prog 43 #[Value.slice p42 r43 r44, Value.int IntKind.i64 2, Value.int IntKind.i64 1, Value.int IntKind.i64 (↑(ByteArray.size s46) : Int)] H41 (Sp.retK (fun v47 H48 =>
  dSl v47 (fun p49 r50 r51 =>
  ask ((0 : Int) ≤ (3 : Int) ∧ (3 : Int) ≤ (↑r50 : Int) ∧ (↑r50 : Int) ≤ (↑r51 : Int) ∧ (↑r51 : Int) ≤ (↑r51 : Int)) (ld H48 (Addr.mk r1 1 none) (fun v52 =>
  dStr v52 (fun s53 =>
  semW Try.prog (Builtin.copy_ #[32, 9] 3 #[Value.slice (slO p49 1 3 (↑r51 : Int)) (Int.toNat (↑r50 : Int) - Int.toNat 3) (Int.toNat (↑r51 : Int) - Int.toNat 3), Value.string s53]) nopR H48 (fun v56 H57 =>
  dInt IntKind.i64 v56 (fun n58 =>
  R (Ending.returned (Value.tuple #[Value.slice p49 r50 r51, Value.int IntKind.i64 0])) H57))))))) (pnR R)))))) (pnR R))))))) (fun k63 =>
  ld H10 (Addr.mk r1 0 none) (fun v64 =>
  dInt IntKind.i64 v64 (fun n65 =>
  sB (decide (n65 < 1)) (k63 (Value.bool true) H10) (ld H10 (Addr.mk r1 0 none) (fun v66 =>
  dInt IntKind.i64 v66 (fun n67 =>
  sB (decide (n67 > 511)) (k63 (Value.bool true) H10) (ld H10 (Addr.mk r1 1 none) (fun v68 =>
  dStr v68 (fun s69 =>
  HCalls Try.prog 58 #[Value.string s69] H10 (Sp.retK (fun v70 H71 =>
  dBl v70 (fun b72 =>
  sB (!b72) (ld H71 (Addr.mk r1 1 none) (fun v73 =>
  dStr v73 (fun s74 =>
  sB (!ByteArray.toList s74 == [UInt8.ofBitVec 46#8]) (ld H71 (Addr.mk r1 1 none) (fun v75 =>
  dStr v75 (fun s76 =>
  k63 (Value.bool !ByteArray.toList s76 == [UInt8.ofBitVec 46#8, UInt8.ofBitVec 46#8]) H71))) (k63 (Value.bool false) H71)))) (k63 (Value.bool false) H71))) (pnR R)))))))))))))))))))
theorem F46_eq (x0_0 : Value) (x0_1 : Value) (R : Ending → Heap → Prop) (H : Heap) : F46 x0_0 x0_1 R H = vc Try.prog (codeOf Try.f46) (.node none .leaf (.node none .leaf (.node none .leaf (.node none (.node (some ⟨[(33, 4)], [10, 11, 12, 13, 14, 15, 16, 17, 18, 19, 20, 21, 22, 23, 24, 25, 26, 27, 28, 29, 30, 31, 32]⟩) .leaf .leaf) .leaf)))) (postV Try.prog Try.f46 R) ⟨#[Value.agg #[x0_0, x0_1]] ++ Array.replicate (Try.f46.ntmps - 1) undef, []⟩ H := by kernel_rfl
theorem F46_calls {R : Ending → Heap → Prop} {H : Heap} (x0_0 : Value) (x0_1 : Value) (h : F46 x0_0 x0_1 R H) : HCalls Try.prog 46 #[Value.agg #[x0_0, x0_1]] H R :=
  calls_by (F := F46 x0_0 x0_1 R H) (.node none .leaf (.node none .leaf (.node none .leaf (.node none (.node (some ⟨[(33, 4)], [10, 11, 12, 13, 14, 15, 16, 17, 18, 19, 20, 21, 22, 23, 24, 25, 26, 27, 28, 29, 30, 31, 32]⟩) .leaf .leaf) .leaf)))) Try.func46 rfl (F46_eq x0_0 x0_1 R H) h
/-- bollard/word.Put -/
def F47 (x0a : Option Addr) (x0n : Nat) (x0c : Nat) (x1 : Int) (x2 : Int) (x3 : Int) (R : Ending → Heap → Prop) (H : Heap) : Prop :=
  HCalls Try.prog 59 #[Value.slice x0a x0n x0c, Value.int IntKind.i64 x1, Value.int IntKind.i64 x2] H (Sp.retK (fun v1 H2 =>
  dInt IntKind.i64 v1 (fun n3 =>
  jn (α := VFH 1) (fun v4 H5 =>
  ∀ v6 v7 v8 v9 v10 v11 v12 v13 v14 v15 v16 v17 v18 : Value,
  dInt IntKind.i64 v4 (fun n19 =>
  sB (n19 != 0) (R (Ending.returned (Value.tuple #[Value.slice none 0 0, Value.int IntKind.i64 n19])) H5) (semW Try.prog (Builtin.append_ #[32, 32] 32 #[Value.slice none 0 0, Value.slice x0a x0n x0c]) (pnR R) H5 (fun v22 H23 =>
  dSl v22 (fun p24 r25 r26 =>
  ∃ I27 : List Value → Heap → Prop,
  ∃ I28 : List Value → Heap → Nat,
  (I27 ([Value.int IntKind.i64 0]) H23) ∧
  ∀ n29 : Int,
  ∀ v30 v31 v32 v33 v34 v35 v36 v37 v38 v39 v40 v41 v42 v43 : Value,
  ∀ H44 : Heap,
  (I27 ([Value.int IntKind.i64 n29]) H44) →
  sB (decide (n29 < x2)) (wr IntKind.i64 (x1 + n29) (fun n46 =>
  wr IntKind.i64 (8 * n29) (fun n47 =>
  ask ((0 : Int) ≤ n47) (nm (Int.fdiv x3 (2 ^ min (Int.toNat n47) 64)) (fun n48 =>
  wr IntKind.u8 n48 (fun n49 =>
  nz p24 (fun a50 =>
  ask ((0 : Int) ≤ n46 ∧ n46 < (↑r25 : Int)) (st H44 (Addr.add a50 (Int.toNat n46 * 1)) (Value.int IntKind.u8 n49) (fun H51 =>
  wr IntKind.i64 (n29 + 1) (fun n52 =>
  (I27 ([Value.int IntKind.i64 n52]) H51) ∧
  (I28 [Value.int IntKind.i64 n52] H51) < (I28 [Value.int IntKind.i64 n29] H44))))))))))) (R (Ending.returned (Value.tuple #[Value.slice p24 r25 r26, Value.int IntKind.i64 0])) H44)))))) (fun k53 =>
  jn (α := VFH 1) (fun v54 H55 =>
  ∀ v56 v57 v58 v59 v60 v61 v62 v63 v64 v65 v66 v67 : Value,
  dBl v54 (fun b68 =>
  sB b68 (k53 (Value.int IntKind.i64 1) H55) (k53 (Value.int IntKind.i64 n3) H55))) (fun k69 =>
  sB (n3 != 1) (sB (decide (x3 < 0)) (k69 (Value.bool true) H2) (wr IntKind.i64 (8 * x2) (fun n70 =>
  ask ((0 : Int) ≤ n70) (nm (Int.fdiv x3 (2 ^ min (Int.toNat n70) 64)) (fun n71 =>
  k69 (Value.bool (n71 != 0)) H2))))) (k69 (Value.bool false) H2))))) (pnR R))
theorem F47_eq (x0a : Option Addr) (x0n : Nat) (x0c : Nat) (x1 : Int) (x2 : Int) (x3 : Int) (R : Ending → Heap → Prop) (H : Heap) : F47 x0a x0n x0c x1 x2 x3 R H = vc Try.prog (codeOf Try.f47) (.node none .leaf (.node none .leaf (.node (some ⟨[(10, 25)], [17, 18, 19, 20, 21, 22, 23, 24, 25, 26, 27, 28, 29]⟩) (.node (some ⟨[(29, 4)], [17, 18, 19, 20, 21, 22, 23, 24, 25, 26, 27, 28]⟩) .leaf .leaf) (.node none .leaf (.node none .leaf (.node none (.node none .leaf (.node none (.node (some ⟨[(36, 3)], [12, 37, 38, 39, 40, 41, 42, 43, 44, 45, 46, 47, 48, 49]⟩) .leaf .leaf) .leaf)) .leaf)))))) (postV Try.prog Try.f47 R) ⟨#[Value.slice x0a x0n x0c, Value.int IntKind.i64 x1, Value.int IntKind.i64 x2, Value.int IntKind.i64 x3] ++ Array.replicate (Try.f47.ntmps - 4) undef, []⟩ H := by kernel_rfl
theorem F47_calls {R : Ending → Heap → Prop} {H : Heap} (x0a : Option Addr) (x0n : Nat) (x0c : Nat) (x1 : Int) (x2 : Int) (x3 : Int) (h : F47 x0a x0n x0c x1 x2 x3 R H) : HCalls Try.prog 47 #[Value.slice x0a x0n x0c, Value.int IntKind.i64 x1, Value.int IntKind.i64 x2, Value.int IntKind.i64 x3] H R :=
  calls_by (F := F47 x0a x0n x0c x1 x2 x3 R H) (.node none .leaf (.node none .leaf (.node (some ⟨[(10, 25)], [17, 18, 19, 20, 21, 22, 23, 24, 25, 26, 27, 28, 29]⟩) (.node (some ⟨[(29, 4)], [17, 18, 19, 20, 21, 22, 23, 24, 25, 26, 27, 28]⟩) .leaf .leaf) (.node none .leaf (.node none .leaf (.node none (.node none .leaf (.node none (.node (some ⟨[(36, 3)], [12, 37, 38, 39, 40, 41, 42, 43, 44, 45, 46, 47, 48, 49]⟩) .leaf .leaf) .leaf)) .leaf)))))) Try.func47 rfl (F47_eq x0a x0n x0c x1 x2 x3 R H) h
/-- bollard/word.Sum -/
def F48 (x0a : Option Addr) (x0n : Nat) (x0c : Nat) (R : Ending → Heap → Prop) (H : Heap) : Prop :=
  ∃ I1 : List Value → Heap → Prop,
  ∃ I2 : List Value → Heap → Nat,
  (I1 ([Value.int IntKind.i64 1, Value.int IntKind.i64 0, Value.int IntKind.i64 0]) H) ∧
  ∀ n3 : Int,
  ∀ n4 : Int,
  ∀ n5 : Int,
  ∀ v6 v7 v8 v9 v10 v11 v12 v13 v14 v15 v16 v17 v18 v19 : Value,
  ∀ H20 : Heap,
  (I1 ([Value.int IntKind.i64 n3, Value.int IntKind.i64 n4, Value.int IntKind.i64 n5]) H20) →
  sB (decide (n5 < (↑x0n : Int))) (nz x0a (fun a22 =>
  ask ((0 : Int) ≤ n5 ∧ n5 < (↑x0n : Int)) (ld H20 (Addr.add a22 (Int.toNat n5 * 1)) (fun v23 =>
  dInt IntKind.u8 v23 (fun n24 =>
  wr IntKind.i64 n24 (fun n25 =>
  wr IntKind.i64 (n3 + n25) (fun n26 =>
  ask ((65521 : Int) ≠ (0 : Int)) (nm (Int.tmod n26 65521) (fun n27 =>
  wr IntKind.i64 (n4 + n27) (fun n28 =>
  ask ((65521 : Int) ≠ (0 : Int)) (nm (Int.tmod n28 65521) (fun n29 =>
  wr IntKind.i64 (n5 + 1) (fun n30 =>
  (I1 ([Value.int IntKind.i64 n27, Value.int IntKind.i64 n29, Value.int IntKind.i64 n30]) H20) ∧
  (I2 [Value.int IntKind.i64 n27, Value.int IntKind.i64 n29, Value.int IntKind.i64 n30] H20) < (I2 [Value.int IntKind.i64 n3, Value.int IntKind.i64 n4, Value.int IntKind.i64 n5] H20)))))))))))))) (ask ((0 : Int) ≤ (16 : Int)) (nm (IntKind.wrap IntKind.i64 (n4 * 2 ^ min (Int.toNat 16) 64)) (fun n31 =>
  wr IntKind.i64 (n31 + n3) (fun n32 =>
  R (Ending.returned (Value.int IntKind.i64 n32)) H20))))
theorem F48_eq (x0a : Option Addr) (x0n : Nat) (x0c : Nat) (R : Ending → Heap → Prop) (H : Heap) : F48 x0a x0n x0c R H = vc Try.prog (codeOf Try.f48) (.node none .leaf (.node none .leaf (.node none (.node none .leaf (.node none (.node (some ⟨[(3, 3), (4, 3), (9, 3)], [6, 10, 11, 12, 13, 14, 15, 16, 17, 18, 19, 20, 21, 22]⟩) .leaf .leaf) .leaf)) .leaf))) (postV Try.prog Try.f48 R) ⟨#[Value.slice x0a x0n x0c] ++ Array.replicate (Try.f48.ntmps - 1) undef, []⟩ H := by kernel_rfl
theorem F48_calls {R : Ending → Heap → Prop} {H : Heap} (x0a : Option Addr) (x0n : Nat) (x0c : Nat) (h : F48 x0a x0n x0c R H) : HCalls Try.prog 48 #[Value.slice x0a x0n x0c] H R :=
  calls_by (F := F48 x0a x0n x0c R H) (.node none .leaf (.node none .leaf (.node none (.node none .leaf (.node none (.node (some ⟨[(3, 3), (4, 3), (9, 3)], [6, 10, 11, 12, 13, 14, 15, 16, 17, 18, 19, 20, 21, 22]⟩) .leaf .leaf) .leaf)) .leaf))) Try.func48 rfl (F48_eq x0a x0n x0c R H) h
/-- bollard/geom.split -/
def F49 (x0 : Int) (x1 : Int) (x2 : Int) (R : Ending → Heap → Prop) (H : Heap) : Prop :=
  wr IntKind.i64 (x2 - 1) (fun n1 =>
  HCalls Try.prog 24 #[Value.int IntKind.i64 x0, Value.int IntKind.i64 0, Value.int IntKind.i64 n1] H (Sp.retK (fun v2 H3 =>
  dBl v2 (fun b4 =>
  sB (!b4) (R (Ending.returned (Value.tuple #[Value.int IntKind.i64 0, Value.int IntKind.i64 0, Value.bool false])) H3) (ask (x1 ≠ (0 : Int)) (wr IntKind.i64 (Int.tdiv x0 x1) (fun n5 =>
  ask (x1 ≠ (0 : Int)) (nm (Int.tmod x0 x1) (fun n6 =>
  R (Ending.returned (Value.tuple #[Value.int IntKind.i64 n5, Value.int IntKind.i64 n6, Value.bool true])) H3))))))) (pnR R)))
theorem F49_eq (x0 : Int) (x1 : Int) (x2 : Int) (R : Ending → Heap → Prop) (H : Heap) : F49 x0 x1 x2 R H = vc Try.prog (codeOf Try.f49) .leaf (postV Try.prog Try.f49 R) ⟨#[Value.int IntKind.i64 x0, Value.int IntKind.i64 x1, Value.int IntKind.i64 x2] ++ Array.replicate (Try.f49.ntmps - 3) undef, []⟩ H := by kernel_rfl
theorem F49_calls {R : Ending → Heap → Prop} {H : Heap} (x0 : Int) (x1 : Int) (x2 : Int) (h : F49 x0 x1 x2 R H) : HCalls Try.prog 49 #[Value.int IntKind.i64 x0, Value.int IntKind.i64 x1, Value.int IntKind.i64 x2] H R :=
  calls_by (F := F49 x0 x1 x2 R H) .leaf Try.func49 rfl (F49_eq x0 x1 x2 R H) h
/-- bollard/bits.With -/
def F50 (x0a : Option Addr) (x0n : Nat) (x0c : Nat) (x1 : Int) (x2 : Bool) (R : Ending → Heap → Prop) (H : Heap) : Prop :=
  jn (α := VFH 1) (fun v1 H2 =>
  ∀ v3 v4 v5 v6 v7 v8 v9 v10 : Value,
  dBl v1 (fun b11 =>
  sB b11 (R (Ending.returned (Value.tuple #[Value.slice none 0 0, Value.int IntKind.i64 50])) H2) (semW Try.prog (Builtin.append_ #[32, 32] 32 #[Value.slice none 0 0, Value.slice x0a x0n x0c]) (pnR R) H2 (fun v14 H15 =>
  dSl v14 (fun p16 r17 r18 =>
  ask ((8 : Int) ≠ (0 : Int)) (wr IntKind.i64 (Int.tdiv x1 8) (fun n19 =>
  nz p16 (fun a20 =>
  ask ((0 : Int) ≤ n19 ∧ n19 < (↑r17 : Int)) (ld H15 (Addr.add a20 (Int.toNat n19 * 1)) (fun v21 =>
  dInt IntKind.u8 v21 (fun n22 =>
  ask ((8 : Int) ≠ (0 : Int)) (nm (Int.tmod x1 8) (fun n23 =>
  ask ((0 : Int) ≤ n23) (nm (IntKind.wrap IntKind.u8 (1 * 2 ^ min (Int.toNat n23) 8)) (fun n24 =>
  nm (IntKind.wrap IntKind.u8 (↑(BitVec.toNat (BitVec.ofInt 8 n22 &&& ~~~BitVec.ofInt 8 n24)) : Int)) (fun n25 =>
  nz p16 (fun a26 =>
  ask ((0 : Int) ≤ n19 ∧ n19 < (↑r17 : Int)) (st H15 (Addr.add a26 (Int.toNat n19 * 1)) (Value.int IntKind.u8 n25) (fun H27 =>
  jn (α := VFH 0) (fun H28 =>
  ∀ v29 v30 v31 v32 v33 v34 v35 v36 v37 v38 v39 : Value,
  R (Ending.returned (Value.tuple #[Value.slice p16 r17 r18, Value.int IntKind.i64 0])) H28) (fun k40 =>
  sB x2 (ask ((8 : Int) ≠ (0 : Int)) (wr IntKind.i64 (Int.tdiv x1 8) (fun n41 =>
  nz p16 (fun a42 =>
  ask ((0 : Int) ≤ n41 ∧ n41 < (↑r17 : Int)) (ld H27 (Addr.add a42 (Int.toNat n41 * 1)) (fun v43 =>
  dInt IntKind.u8 v43 (fun n44 =>
  ask ((8 : Int) ≠ (0 : Int)) (nm (Int.tmod x1 8) (fun n45 =>
  ask ((0 : Int) ≤ n45) (nm (IntKind.wrap IntKind.u8 (1 * 2 ^ min (Int.toNat n45) 8)) (fun n46 =>
  nm (IntKind.wrap IntKind.u8 (↑(BitVec.toNat (BitVec.ofInt 8 n44 ||| BitVec.ofInt 8 n46)) : Int)) (fun n47 =>
  nz p16 (fun a48 =>
  ask ((0 : Int) ≤ n41 ∧ n41 < (↑r17 : Int)) (st H27 (Addr.add a48 (Int.toNat n41 * 1)) (Value.int IntKind.u8 n47) (fun H49 =>
  k40 H49))))))))))))))) (k40 H27))))))))))))))))))))) (fun k50 =>
  sB (decide (x1 < 0)) (k50 (Value.bool true) H) (ask ((8 : Int) ≠ (0 : Int)) (wr IntKind.i64 (Int.tdiv x1 8) (fun n51 =>
  k50 (Value.bool (decide (n51 ≥ (↑x0n : Int)))) H))))
theorem F50_eq (x0a : Option Addr) (x0n : Nat) (x0c : Nat) (x1 : Int) (x2 : Bool) (R : Ending → Heap → Prop) (H : Heap) : F50 x0a x0n x0c x1 x2 R H = vc Try.prog (codeOf Try.f50) (.node none .leaf (.node none (.node (some ⟨[(17, 4)], [9, 10, 11, 12, 13, 14, 15, 16]⟩) .leaf .leaf) (.node none .leaf (.node none .leaf (.node (some ⟨[], [30, 31, 32, 33, 34, 35, 36, 37, 38, 39, 40]⟩) .leaf .leaf))))) (postV Try.prog Try.f50 R) ⟨#[Value.slice x0a x0n x0c, Value.int IntKind.i64 x1, Value.bool x2] ++ Array.replicate (Try.f50.ntmps - 3) undef, []⟩ H := by kernel_rfl
theorem F50_calls {R : Ending → Heap → Prop} {H : Heap} (x0a : Option Addr) (x0n : Nat) (x0c : Nat) (x1 : Int) (x2 : Bool) (h : F50 x0a x0n x0c x1 x2 R H) : HCalls Try.prog 50 #[Value.slice x0a x0n x0c, Value.int IntKind.i64 x1, Value.bool x2] H R :=
  calls_by (F := F50 x0a x0n x0c x1 x2 R H) (.node none .leaf (.node none (.node (some ⟨[(17, 4)], [9, 10, 11, 12, 13, 14, 15, 16]⟩) .leaf .leaf) (.node none .leaf (.node none .leaf (.node (some ⟨[], [30, 31, 32, 33, 34, 35, 36, 37, 38, 39, 40]⟩) .leaf .leaf))))) Try.func50 rfl (F50_eq x0a x0n x0c x1 x2 R H) h
/-- bollard/geom.Inodes -/
def F51 (x0_0 : Value) (x0_1 : Value) (x0_2 : Value) (R : Ending → Heap → Prop) (H : Heap) : Prop :=
  al H (Obj.cells #[x0_0, x0_1, x0_2] 23) (fun r1 H2 =>
  ld H2 (Addr.mk r1 0 none) (fun v3 =>
  ld H2 (Addr.mk r1 1 none) (fun v4 =>
  ld H2 (Addr.mk r1 2 none) (fun v5 =>
  ld H2 (Addr.mk r1 2 none) (fun v6 =>
  dInt IntKind.i64 v6 (fun n7 =>
  HCalls Try.prog 26 #[Value.agg #[v3, v4, v5], Value.int IntKind.i64 n7] H2 (Sp.retK (fun v8 H9 =>
  dInt IntKind.i64 v8 (fun n10 =>
  R (Ending.returned (Value.int IntKind.i64 n10)) H9)) (pnR R))))))))
theorem F51_eq (x0_0 : Value) (x0_1 : Value) (x0_2 : Value) (R : Ending → Heap → Prop) (H : Heap) : F51 x0_0 x0_1 x0_2 R H = vc Try.prog (codeOf Try.f51) .leaf (postV Try.prog Try.f51 R) ⟨#[Value.agg #[x0_0, x0_1, x0_2]] ++ Array.replicate (Try.f51.ntmps - 1) undef, []⟩ H := by kernel_rfl
theorem F51_calls {R : Ending → Heap → Prop} {H : Heap} (x0_0 : Value) (x0_1 : Value) (x0_2 : Value) (h : F51 x0_0 x0_1 x0_2 R H) : HCalls Try.prog 51 #[Value.agg #[x0_0, x0_1, x0_2]] H R :=
  calls_by (F := F51 x0_0 x0_1 x0_2 R H) .leaf Try.func51 rfl (F51_eq x0_0 x0_1 x0_2 R H) h
/-- bollard/layout.spelt -/
def F52 (x0 : ByteArray) (R : Ending → Heap → Prop) (H : Heap) : Prop :=
  ∃ I1 : List Value → Heap → Prop,
  ∃ I2 : List Value → Heap → Nat,
  (I1 ([Value.int IntKind.i64 0]) H) ∧
  ∀ n3 : Int,
  ∀ v4 v5 v6 v7 v8 v9 v10 v11 v12 v13 v14 v15 v16 v17 v18 v19 v20 v21 v22 v23 v24 : Value,
  ∀ H25 : Heap,
  (I1 ([Value.int IntKind.i64 n3]) H25) →
  sB (decide (n3 < (↑(ByteArray.size x0) : Int))) (jn (α := VFH 1) (fun v27 H28 =>
  ∀ v29 v30 v31 v32 v33 v34 v35 v36 v37 v38 v39 v40 v41 v42 v43 : Value,
  dBl v27 (fun b44 =>
  sB b44 (R (Ending.returned (Value.bool false)) H28) (wr IntKind.i64 (n3 + 1) (fun n45 =>
  (I1 ([Value.int IntKind.i64 n45]) H28) ∧
  (I2 [Value.int IntKind.i64 n45] H28) < (I2 [Value.int IntKind.i64 n3] H25))))) (fun k46 =>
  ask ((0 : Int) ≤ n3 ∧ n3 < (↑(ByteArray.size x0) : Int)) (sB (decide (byteAt x0 (Int.toNat n3) < 33)) (k46 (Value.bool true) H25) (ask ((0 : Int) ≤ n3 ∧ n3 < (↑(ByteArray.size x0) : Int)) (sB (decide (byteAt x0 (Int.toNat n3) > 126)) (k46 (Value.bool true) H25) (ask ((0 : Int) ≤ n3 ∧ n3 < (↑(ByteArray.size x0) : Int)) (k46 (Value.bool (byteAt x0 (Int.toNat n3) == 47)) H25))))))) (sB (!ByteArray.toList x0 == []) (R (Ending.returned (Value.bool (decide ((↑(ByteArray.size x0) : Int) ≤ 13)))) H25) (R (Ending.returned (Value.bool false)) H25))
theorem F52_eq (x0 : ByteArray) (R : Ending → Heap → Prop) (H : Heap) : F52 x0 R H = vc Try.prog (codeOf Try.f52) (.node none .leaf (.node none (.node none .leaf (.node none (.node (some ⟨[(6, 3)], [2, 3, 7, 8, 9, 10, 11, 12, 13, 14, 15, 16, 17, 18, 19, 20, 21, 22, 23, 24, 25]⟩) (.node none .leaf (.node none .leaf (.node none (.node none (.node none .leaf (.node (some ⟨[(24, 4)], [9, 10, 11, 12, 13, 14, 15, 16, 17, 18, 19, 20, 21, 22, 23]⟩) .leaf .leaf)) .leaf) .leaf))) .leaf) .leaf)) .leaf)) (postV Try.prog Try.f52 R) ⟨#[Value.string x0] ++ Array.replicate (Try.f52.ntmps - 1) undef, []⟩ H := by kernel_rfl
theorem F52_calls {R : Ending → Heap → Prop} {H : Heap} (x0 : ByteArray) (h : F52 x0 R H) : HCalls Try.prog 52 #[Value.string x0] H R :=
  calls_by (F := F52 x0 R H) (.node none .leaf (.node none (.node none .leaf (.node none (.node (some ⟨[(6, 3)], [2, 3, 7, 8, 9, 10, 11, 12, 13, 14, 15, 16, 17, 18, 19, 20, 21, 22, 23, 24, 25]⟩) (.node none .leaf (.node none .leaf (.node none (.node none (.node none .leaf (.node (some ⟨[(24, 4)], [9, 10, 11, 12, 13, 14, 15, 16, 17, 18, 19, 20, 21, 22, 23]⟩) .leaf .leaf)) .leaf) .leaf))) .leaf) .leaf)) .leaf)) Try.func52 rfl (F52_eq x0 R H) h
/-- bollard/bollardref03.may -/
def F53 (x0_0 : Value) (x0_1 : Value) (x0_2 : Value) (R : Ending → Heap → Prop) (H : Heap) : Prop :=
  al H (Obj.cells #[x0_0, x0_1, x0_2] 23) (fun r1 H2 =>
  ld H2 (Addr.mk r1 0 none) (fun v3 =>
  dInt IntKind.i64 v3 (fun n4 =>
  sB (decide (n4 ≥ 1)) (ld H2 (Addr.mk r1 0 none) (fun v5 =>
  dInt IntKind.i64 v5 (fun n6 =>
  sB (decide (n6 ≤ 8)) (ld H2 (Addr.mk r1 1 none) (fun v7 =>
  dInt IntKind.i64 v7 (fun n8 =>
  sB (decide (n8 ≥ 8)) (ld H2 (Addr.mk r1 1 none) (fun v9 =>
  dInt IntKind.i64 v9 (fun n10 =>
  sB (decide (n10 ≤ 256)) (ld H2 (Addr.mk r1 2 none) (fun v11 =>
  dInt IntKind.i64 v11 (fun n12 =>
  sB (decide (n12 ≥ 4)) (ld H2 (Addr.mk r1 2 none) (fun v13 =>
  dInt IntKind.i64 v13 (fun n14 =>
  sB (decide (n14 ≤ 64)) (ld H2 (Addr.mk r1 2 none) (fun v15 =>
  dInt IntKind.i64 v15 (fun n16 =>
  ask ((4 : Int) ≠ (0 : Int)) (nm (Int.tmod n16 4) (fun n17 =>
  sB (n17 == 0) (ld H2 (Addr.mk r1 1 none) (fun v18 =>
  dInt IntKind.i64 v18 (fun n19 =>
  ld H2 (Addr.mk r1 2 none) (fun v20 =>
  dInt IntKind.i64 v20 (fun n21 =>
  ask ((4 : Int) ≠ (0 : Int)) (wr IntKind.i64 (Int.tdiv n21 4) (fun n22 =>
  wr IntKind.i64 (3 + n22) (fun n23 =>
  R (Ending.returned (Value.bool (decide (n19 ≥ n23)))) H2)))))))) (R (Ending.returned (Value.bool false)) H2)))))) (R (Ending.returned (Value.bool false)) H2)))) (R (Ending.returned (Value.bool false)) H2)))) (R (Ending.returned (Value.bool false)) H2)))) (R (Ending.returned (Value.bool false)) H2)))) (R (Ending.returned (Value.bool false)) H2)))) (R (Ending.returned (Value.bool false)) H2))))
theorem F53_eq (x0_0 : Value) (x0_1 : Value) (x0_2 : Value) (R : Ending → Heap → Prop) (H : Heap) : F53 x0_0 x0_1 x0_2 R H = vc Try.prog (codeOf Try.f53) .leaf (postV Try.prog Try.f53 R) ⟨#[Value.agg #[x0_0, x0_1, x0_2]] ++ Array.replicate (Try.f53.ntmps - 1) undef, []⟩ H := by kernel_rfl
theorem F53_calls {R : Ending → Heap → Prop} {H : Heap} (x0_0 : Value) (x0_1 : Value) (x0_2 : Value) (h : F53 x0_0 x0_1 x0_2 R H) : HCalls Try.prog 53 #[Value.agg #[x0_0, x0_1, x0_2]] H R :=
  calls_by (F := F53 x0_0 x0_1 x0_2 R H) .leaf Try.func53 rfl (F53_eq x0_0 x0_1 x0_2 R H) h
/-- bollard/bollardref05.Has -/
def F54 (x0a : Option Addr) (x0n : Nat) (x0c : Nat) (x1 : Int) (R : Ending → Heap → Prop) (H : Heap) : Prop :=
  sB (decide (x1 ≥ 0)) (ask ((8 : Int) ≠ (0 : Int)) (wr IntKind.i64 (Int.tdiv x1 8) (fun n1 =>
  sB (decide (n1 < (↑x0n : Int))) (ask ((8 : Int) ≠ (0 : Int)) (wr IntKind.i64 (Int.tdiv x1 8) (fun n2 =>
  nz x0a (fun a3 =>
  ask ((0 : Int) ≤ n2 ∧ n2 < (↑x0n : Int)) (ld H (Addr.add a3 (Int.toNat n2 * 1)) (fun v4 =>
  dInt IntKind.u8 v4 (fun n5 =>
  ask ((8 : Int) ≠ (0 : Int)) (nm (Int.tmod x1 8) (fun n6 =>
  ask ((0 : Int) ≤ n6) (nm (Int.fdiv n5 (2 ^ min (Int.toNat n6) 8)) (fun n7 =>
  ask ((2 : Int) ≠ (0 : Int)) (nm (Int.tmod n7 2) (fun n8 =>
  R (Ending.returned (Value.bool (n8 == 1))) H))))))))))))) (R (Ending.returned (Value.bool false)) H)))) (R (Ending.returned (Value.bool false)) H)
theorem F54_eq (x0a : Option Addr) (x0n : Nat) (x0c : Nat) (x1 : Int) (R : Ending → Heap → Prop) (H : Heap) : F54 x0a x0n x0c x1 R H = vc Try.prog (codeOf Try.f54) .leaf (postV Try.prog Try.f54 R) ⟨#[Value.slice x0a x0n x0c, Value.int IntKind.i64 x1] ++ Array.replicate (Try.f54.ntmps - 2) undef, []⟩ H := by kernel_rfl
theorem F54_calls {R : Ending → Heap → Prop} {H : Heap} (x0a : Option Addr) (x0n : Nat) (x0c : Nat) (x1 : Int) (h : F54 x0a x0n x0c x1 R H) : HCalls Try.prog 54 #[Value.slice x0a x0n x0c, Value.int IntKind.i64 x1] H R :=
  calls_by (F := F54 x0a x0n x0c x1 R H) .leaf Try.func54 rfl (F54_eq x0a x0n x0c x1 R H) h
/-- bollard/bollardref03.address -/
def F55 (x0 : Int) (R : Ending → Heap → Prop) (H : Heap) : Prop :=
  sB (decide (x0 ≥ 0)) (R (Ending.returned (Value.bool (decide (x0 < 2048)))) H) (R (Ending.returned (Value.bool false)) H)
theorem F55_eq (x0 : Int) (R : Ending → Heap → Prop) (H : Heap) : F55 x0 R H = vc Try.prog (codeOf Try.f55) .leaf (postV Try.prog Try.f55 R) ⟨#[Value.int IntKind.i64 x0] ++ Array.replicate (Try.f55.ntmps - 1) undef, []⟩ H := by kernel_rfl
theorem F55_calls {R : Ending → Heap → Prop} {H : Heap} (x0 : Int) (h : F55 x0 R H) : HCalls Try.prog 55 #[Value.int IntKind.i64 x0] H R :=
  calls_by (F := F55 x0 R H) .leaf Try.func55 rfl (F55_eq x0 R H) h
end Go.Proofs.Ytdlelcpkelginaa.E
/- The functions' forms in the engine's words, printed by my own program. -/
namespace Go.Proofs.Ytdlelcpkelginaa.E
open Go Go.Proofs
set_option linter.unusedVariables false
set_option maxRecDepth 100000
/-- bollard/bollardref01.Put -/
def F56 (x0a : Option Addr) (x0n : Nat) (x0c : Nat) (x1 : Int) (x2 : Int) (x3 : Int) (R : Ending → Heap → Prop) (H : Heap) : Prop :=
  jn (α := VFH 1) (fun v1 H2 =>
  ∀ v3 v4 v5 v6 v7 v8 v9 v10 v11 v12 v13 v14 v15 v16 v17 v18 v19 v20 v21 v22 : Value,
  dBl v1 (fun b23 =>
  sB b23 (R (Ending.returned (Value.tuple #[Value.slice none 0 0, Value.int IntKind.i64 1])) H2) (wr IntKind.i64 ((↑x0n : Int) - x2) (fun n24 =>
  sB (decide (x1 > n24)) (R (Ending.returned (Value.tuple #[Value.slice none 0 0, Value.int IntKind.i64 10])) H2) (al H2 (Obj.cells #[] 5) (fun r25 H26 =>
  semW Try.prog (Builtin.append_ #[32, 32] 32 #[Value.slice (some (Addr.mk r25 0 none)) 0 0, Value.slice x0a x0n x0c]) (pnR R) H26 (fun v29 H30 =>
  dSl v29 (fun p31 r32 r33 =>
  ∃ I34 : List Value → Heap → Prop,
  ∃ I35 : List Value → Heap → Nat,
  (I34 ([Value.int IntKind.i64 x3, Value.int IntKind.i64 0]) H30) ∧
  ∀ n36 : Int,
  ∀ n37 : Int,
  ∀ v38 v39 v40 v41 v42 v43 v44 v45 v46 v47 v48 v49 v50 v51 : Value,
  ∀ H52 : Heap,
  (I34 ([Value.int IntKind.i64 n36, Value.int IntKind.i64 n37]) H52) →
  sB (decide (n37 < x2)) (wr IntKind.i64 (x1 + n37) (fun n54 =>
  ask ((256 : Int) ≠ (0 : Int)) (nm (Int.tmod n36 256) (fun n55 =>
  wr IntKind.u8 n55 (fun n56 =>
  nz p31 (fun a57 =>
  ask ((0 : Int) ≤ n54 ∧ n54 < (↑r32 : Int)) (st H52 (Addr.add a57 (Int.toNat n54 * 1)) (Value.int IntKind.u8 n56) (fun H58 =>
  ask ((256 : Int) ≠ (0 : Int)) (wr IntKind.i64 (Int.tdiv n36 256) (fun n59 =>
  wr IntKind.i64 (n37 + 1) (fun n60 =>
  (I34 ([Value.int IntKind.i64 n59, Value.int IntKind.i64 n60]) H58) ∧
  (I35 [Value.int IntKind.i64 n59, Value.int IntKind.i64 n60] H58) < (I35 [Value.int IntKind.i64 n36, Value.int IntKind.i64 n37] H52)))))))))))) (R (Ending.returned (Value.tuple #[Value.slice p31 r32 r33, Value.int IntKind.i64 0])) H52))))))))) (fun k61 =>
  sB (decide (x2 < 1)) (k61 (Value.bool true) H) (sB (decide (x2 > 4)) (k61 (Value.bool true) H) (sB (decide (x1 < 0)) (k61 (Value.bool true) H) (sB (decide (x3 < 0)) (k61 (Value.bool true) H) (wr IntKind.i64 (8 * x2) (fun n62 =>
  ask ((0 : Int) ≤ n62) (nm (IntKind.wrap IntKind.i64 (1 * 2 ^ min (Int.toNat n62) 64)) (fun n63 =>
  k61 (Value.bool (decide (x3 ≥ n63))) H))))))))
theorem F56_eq (x0a : Option Addr) (x0n : Nat) (x0c : Nat) (x1 : Int) (x2 : Int) (x3 : Int) (R : Ending → Heap → Prop) (H : Heap) : F56 x0a x0n x0c x1 x2 x3 R H = vc Try.prog (codeOf Try.f56) (.node none .leaf (.node none (.node (some ⟨[(32, 4)], [12, 13, 14, 15, 16, 17, 18, 19, 20, 21, 22, 23, 24, 25, 26, 27, 28, 29, 30, 31]⟩) .leaf .leaf) (.node none .leaf (.node none .leaf (.node none (.node none .leaf (.node none (.node (some ⟨[(3, 3), (43, 3)], [11, 44, 45, 46, 47, 48, 49, 50, 51, 52, 53, 54, 55, 56]⟩) .leaf .leaf) .leaf)) .leaf))))) (postV Try.prog Try.f56 R) ⟨#[Value.slice x0a x0n x0c, Value.int IntKind.i64 x1, Value.int IntKind.i64 x2, Value.int IntKind.i64 x3] ++ Array.replicate (Try.f56.ntmps - 4) undef, []⟩ H := by kernel_rfl
theorem F56_calls {R : Ending → Heap → Prop} {H : Heap} (x0a : Option Addr) (x0n : Nat) (x0c : Nat) (x1 : Int) (x2 : Int) (x3 : Int) (h : F56 x0a x0n x0c x1 x2 x3 R H) : HCalls Try.prog 56 #[Value.slice x0a x0n x0c, Value.int IntKind.i64 x1, Value.int IntKind.i64 x2, Value.int IntKind.i64 x3] H R :=
  calls_by (F := F56 x0a x0n x0c x1 x2 x3 R H) (.node none .leaf (.node none (.node (some ⟨[(32, 4)], [12, 13, 14, 15, 16, 17, 18, 19, 20, 21, 22, 23, 24, 25, 26, 27, 28, 29, 30, 31]⟩) .leaf .leaf) (.node none .leaf (.node none .leaf (.node none (.node none .leaf (.node none (.node (some ⟨[(3, 3), (43, 3)], [11, 44, 45, 46, 47, 48, 49, 50, 51, 52, 53, 54, 55, 56]⟩) .leaf .leaf) .leaf)) .leaf))))) Try.func56 rfl (F56_eq x0a x0n x0c x1 x2 x3 R H) h
/-- bollard/bollardref01.Sum -/
def F57 (x0a : Option Addr) (x0n : Nat) (x0c : Nat) (R : Ending → Heap → Prop) (H : Heap) : Prop :=
  ∃ I1 : List Value → Heap → Prop,
  ∃ I2 : List Value → Heap → Nat,
  (I1 ([Value.int IntKind.i64 1, Value.int IntKind.i64 0, Value.int IntKind.i64 0]) H) ∧
  ∀ n3 : Int,
  ∀ n4 : Int,
  ∀ n5 : Int,
  ∀ v6 v7 v8 v9 v10 v11 v12 v13 v14 v15 v16 v17 v18 v19 : Value,
  ∀ H20 : Heap,
  (I1 ([Value.int IntKind.i64 n3, Value.int IntKind.i64 n4, Value.int IntKind.i64 n5]) H20) →
  sB (decide (n5 < (↑x0n : Int))) (nz x0a (fun a22 =>
  ask ((0 : Int) ≤ n5 ∧ n5 < (↑x0n : Int)) (ld H20 (Addr.add a22 (Int.toNat n5 * 1)) (fun v23 =>
  dInt IntKind.u8 v23 (fun n24 =>
  wr IntKind.i64 n24 (fun n25 =>
  wr IntKind.i64 (n3 + n25) (fun n26 =>
  ask ((65521 : Int) ≠ (0 : Int)) (nm (Int.tmod n26 65521) (fun n27 =>
  wr IntKind.i64 (n4 + n27) (fun n28 =>
  ask ((65521 : Int) ≠ (0 : Int)) (nm (Int.tmod n28 65521) (fun n29 =>
  wr IntKind.i64 (n5 + 1) (fun n30 =>
  (I1 ([Value.int IntKind.i64 n27, Value.int IntKind.i64 n29, Value.int IntKind.i64 n30]) H20) ∧
  (I2 [Value.int IntKind.i64 n27, Value.int IntKind.i64 n29, Value.int IntKind.i64 n30] H20) < (I2 [Value.int IntKind.i64 n3, Value.int IntKind.i64 n4, Value.int IntKind.i64 n5] H20)))))))))))))) (wr IntKind.i64 (n4 * 65536) (fun n31 =>
  wr IntKind.i64 (n31 + n3) (fun n32 =>
  R (Ending.returned (Value.int IntKind.i64 n32)) H20)))
theorem F57_eq (x0a : Option Addr) (x0n : Nat) (x0c : Nat) (R : Ending → Heap → Prop) (H : Heap) : F57 x0a x0n x0c R H = vc Try.prog (codeOf Try.f57) (.node none .leaf (.node none .leaf (.node none (.node none .leaf (.node none (.node (some ⟨[(3, 3), (4, 3), (9, 3)], [6, 10, 11, 12, 13, 14, 15, 16, 17, 18, 19, 20, 21, 22]⟩) .leaf .leaf) .leaf)) .leaf))) (postV Try.prog Try.f57 R) ⟨#[Value.slice x0a x0n x0c] ++ Array.replicate (Try.f57.ntmps - 1) undef, []⟩ H := by kernel_rfl
theorem F57_calls {R : Ending → Heap → Prop} {H : Heap} (x0a : Option Addr) (x0n : Nat) (x0c : Nat) (h : F57 x0a x0n x0c R H) : HCalls Try.prog 57 #[Value.slice x0a x0n x0c] H R :=
  calls_by (F := F57 x0a x0n x0c R H) (.node none .leaf (.node none .leaf (.node none (.node none .leaf (.node none (.node (some ⟨[(3, 3), (4, 3), (9, 3)], [6, 10, 11, 12, 13, 14, 15, 16, 17, 18, 19, 20, 21, 22]⟩) .leaf .leaf) .leaf)) .leaf))) Try.func57 rfl (F57_eq x0a x0n x0c R H) h
/-- bollard/bollardref03.IsName -/
def F58 (x0 : ByteArray) (R : Ending → Heap → Prop) (H : Heap) : Prop :=
  jn (α := VFH 1) (fun v1 H2 =>
  ∀ v3 v4 v5 v6 v7 v8 v9 v10 v11 v12 v13 v14 v15 v16 : Value,
  dBl v1 (fun b17 =>
  sB b17 (R (Ending.returned (Value.bool false)) H2) (∃ I18 : List Value → Heap → Prop,
  ∃ I19 : List Value → Heap → Nat,
  (I18 ([Value.int IntKind.i64 0]) H2) ∧
  ∀ n20 : Int,
  ∀ v21 v22 v23 v24 v25 v26 v27 v28 v29 v30 v31 v32 v33 v34 v35 v36 v37 v38 v39 v40 v41 v42 v43 : Value,
  ∀ H44 : Heap,
  (I18 ([Value.int IntKind.i64 n20]) H44) →
  sB (decide (n20 < (↑(ByteArray.size x0) : Int))) (jn (α := VFH 1) (fun v46 H47 =>
  ∀ v48 v49 v50 v51 v52 v53 v54 v55 v56 v57 v58 v59 v60 v61 v62 : Value,
  dBl v46 (fun b63 =>
  sB b63 (R (Ending.returned (Value.bool false)) H47) (wr IntKind.i64 (n20 + 1) (fun n64 =>
  (I18 ([Value.int IntKind.i64 n64]) H47) ∧
  (I19 [Value.int IntKind.i64 n64] H47) < (I19 [Value.int IntKind.i64 n20] H44))))) (fun k65 =>
  ask ((0 : Int) ≤ n20 ∧ n20 < (↑(ByteArray.size x0) : Int)) (sB (decide (byteAt x0 (Int.toNat n20) < 33)) (k65 (Value.bool true) H44) (ask ((0 : Int) ≤ n20 ∧ n20 < (↑(ByteArray.size x0) : Int)) (sB (decide (byteAt x0 (Int.toNat n20) > 126)) (k65 (Value.bool true) H44) (ask ((0 : Int) ≤ n20 ∧ n20 < (↑(ByteArray.size x0) : Int)) (k65 (Value.bool (byteAt x0 (Int.toNat n20) == 47)) H44))))))) (R (Ending.returned (Value.bool true)) H44)))) (fun k66 =>
  sB (ByteArray.toList x0 == []) (k66 (Value.bool true) H) (sB (decide ((↑(ByteArray.size x0) : Int) > 13)) (k66 (Value.bool true) H) (sB (ByteArray.toList x0 == [UInt8.ofBitVec 46#8]) (k66 (Value.bool true) H) (k66 (Value.bool (ByteArray.toList x0 == [UInt8.ofBitVec 46#8, UInt8.ofBitVec 46#8])) H))))
theorem F58_eq (x0 : ByteArray) (R : Ending → Heap → Prop) (H : Heap) : F58 x0 R H = vc Try.prog (codeOf Try.f58) (.node none .leaf (.node none (.node (some ⟨[(18, 4)], [4, 5, 6, 7, 8, 9, 10, 11, 12, 13, 14, 15, 16, 17]⟩) .leaf .leaf) (.node none (.node none .leaf (.node none (.node (some ⟨[(3, 3)], [2, 19, 20, 21, 22, 23, 24, 25, 26, 27, 28, 29, 30, 31, 32, 33, 34, 35, 36, 37, 38, 39, 40]⟩) (.node none .leaf (.node none (.node none (.node (some ⟨[(40, 4)], [25, 26, 27, 28, 29, 30, 31, 32, 33, 34, 35, 36, 37, 38, 39]⟩) .leaf .leaf) .leaf) .leaf)) .leaf) .leaf)) .leaf))) (postV Try.prog Try.f58 R) ⟨#[Value.string x0] ++ Array.replicate (Try.f58.ntmps - 1) undef, []⟩ H := by kernel_rfl
theorem F58_calls {R : Ending → Heap → Prop} {H : Heap} (x0 : ByteArray) (h : F58 x0 R H) : HCalls Try.prog 58 #[Value.string x0] H R :=
  calls_by (F := F58 x0 R H) (.node none .leaf (.node none (.node (some ⟨[(18, 4)], [4, 5, 6, 7, 8, 9, 10, 11, 12, 13, 14, 15, 16, 17]⟩) .leaf .leaf) (.node none (.node none .leaf (.node none (.node (some ⟨[(3, 3)], [2, 19, 20, 21, 22, 23, 24, 25, 26, 27, 28, 29, 30, 31, 32, 33, 34, 35, 36, 37, 38, 39, 40]⟩) (.node none .leaf (.node none (.node none (.node (some ⟨[(40, 4)], [25, 26, 27, 28, 29, 30, 31, 32, 33, 34, 35, 36, 37, 38, 39]⟩) .leaf .leaf) .leaf) .leaf)) .leaf) .leaf)) .leaf))) Try.func58 rfl (F58_eq x0 R H) h
/-- bollard/word.there -/
def F59 (x0a : Option Addr) (x0n : Nat) (x0c : Nat) (x1 : Int) (x2 : Int) (R : Ending → Heap → Prop) (H : Heap) : Prop :=
  jn (α := VFH 1) (fun v1 H2 =>
  ∀ v3 v4 v5 v6 v7 v8 v9 v10 v11 v12 : Value,
  dBl v1 (fun b13 =>
  sB b13 (R (Ending.returned (Value.int IntKind.i64 1)) H2) (jn (α := VFH 1) (fun v14 H15 =>
  ∀ v16 v17 v18 v19 v20 v21 v22 v23 v24 v25 v26 v27 : Value,
  dBl v14 (fun b28 =>
  sB b28 (R (Ending.returned (Value.int IntKind.i64 10)) H15) (R (Ending.returned (Value.int IntKind.i64 0)) H15))) (fun k29 =>
  sB (decide (x1 > (↑x0n : Int))) (k29 (Value.bool true) H2) (wr IntKind.i64 ((↑x0n : Int) - x1) (fun n30 =>
  k29 (Value.bool (decide (x2 > n30))) H2)))))) (fun k31 =>
  sB (decide (x2 < 1)) (k31 (Value.bool true) H) (sB (decide (x2 > 4)) (k31 (Value.bool true) H) (k31 (Value.bool (decide (x1 < 0))) H)))
theorem F59_eq (x0a : Option Addr) (x0n : Nat) (x0c : Nat) (x1 : Int) (x2 : Int) (R : Ending → Heap → Prop) (H : Heap) : F59 x0a x0n x0c x1 x2 R H = vc Try.prog (codeOf Try.f59) (.node none .leaf (.node none (.node none (.node (some ⟨[(7, 4)], [8, 9, 10, 11, 12, 13, 14, 15, 16, 17]⟩) .leaf (.node none .leaf (.node (some ⟨[(18, 4)], [19, 20, 21, 22, 23, 24, 25, 26, 27, 28, 29, 30]⟩) .leaf .leaf))) .leaf) .leaf)) (postV Try.prog Try.f59 R) ⟨#[Value.slice x0a x0n x0c, Value.int IntKind.i64 x1, Value.int IntKind.i64 x2] ++ Array.replicate (Try.f59.ntmps - 3) undef, []⟩ H := by kernel_rfl
theorem F59_calls {R : Ending → Heap → Prop} {H : Heap} (x0a : Option Addr) (x0n : Nat) (x0c : Nat) (x1 : Int) (x2 : Int) (h : F59 x0a x0n x0c x1 x2 R H) : HCalls Try.prog 59 #[Value.slice x0a x0n x0c, Value.int IntKind.i64 x1, Value.int IntKind.i64 x2] H R :=
  calls_by (F := F59 x0a x0n x0c x1 x2 R H) (.node none .leaf (.node none (.node none (.node (some ⟨[(7, 4)], [8, 9, 10, 11, 12, 13, 14, 15, 16, 17]⟩) .leaf (.node none .leaf (.node (some ⟨[(18, 4)], [19, 20, 21, 22, 23, 24, 25, 26, 27, 28, 29, 30]⟩) .leaf .leaf))) .leaf) .leaf)) Try.func59 rfl (F59_eq x0a x0n x0c x1 x2 R H) h
end Go.Proofs.Ytdlelcpkelginaa.E
/- Maps, in states with marks. -/
namespace Go.Proofs.Ytdlelcpkelginaa.E
open Go
set_option linter.unusedVariables false
/-! ### keys -/
def findL {κ : Type} [DecidableEq κ] (k : κ) : List MapEntry → List κ → Nat → Option (Nat × Value)
  | e :: es, k' :: ks, i => if k = k' then some (i, e.val) else findL k es ks (i + 1)
  | _, _, _ => none
/-- a type whose values serve as keys -/
structure KeyOk {κ : Type} [DecidableEq κ] (P : Program) (K : TypeId) (kf : κ → Value) : Prop where
  check : ∀ b k w, (Instr.checkKey b 10000 K (kf k)).run P w = .ok () w
  find : ∀ k (es : List MapEntry) (ks : List κ), es.map (·.key) = ks.map kf → ∀ w, (Instr.findKey K (kf k) es).run P w = .ok (findL k es ks 0) w
  same : ∀ k, Instr.sameBits 10000 (kf k) (kf k) = true
/-! ### maps -/
section
variable {κ : Type}
section
variable [DecidableEq κ]
def mget (k : κ) : List (κ × Value) → Option Value
  | [] => none
  | (k', v) :: r => if k = k' then some v else mget k r
def mset (k : κ) (x : Value) : List (κ × Value) → List (κ × Value)
  | [] => [(k, x)]
  | (k', v) :: r => if k = k' then (k, x) :: r else (k', v) :: mset k x r
def mdel (k : κ) : List (κ × Value) → List (κ × Value)
  | [] => []
  | (k', v) :: r => if k = k' then r else (k', v) :: mdel k r
end
structure Ents (kf : κ → Value) (es : List MapEntry) (ck : Nat) (m : List (κ × Value)) : Prop where
  key : es.map (·.key) = m.map fun p => kf p.1
  val : es.map (·.val) = m.map (·.2)
  born : (es.map (·.born)).Nodup
  old : ∀ e ∈ es, e.born < ck
structure MapK (kf : κ → Value) (s : TH) (r : Nat) (m : List (κ × Value)) (τ : Nat) : Prop where
  get : ∃ (es : List MapEntry) (ck : Nat), s.h[r]? = some (.map es.toArray ck) ∧ Ents kf es ck m
  tag : s.g r = τ
  nd : (m.map (·.1)).Nodup
variable {kf : κ → Value} {s s' : TH} {r τ : Nat} {m : List (κ × Value)}
theorem MapK.lt (h : MapK kf s r m τ) : r < s.h.size := by
  obtain ⟨es, ck, hg, _⟩ := h.get
  exact (Array.getElem?_eq_some_iff.1 hg).1
theorem MapK.mv {B : Nat → Prop} (h : MapK kf s r m τ) (c : Chg B s s') (hn : ¬ B r) : MapK kf s' r m τ := by
  obtain ⟨es, ck, hg, he⟩ := h.get
  exact ⟨⟨es, ck, (c.get r h.lt hn).trans hg, he⟩, (c.tag r h.lt).trans h.tag, h.nd⟩
theorem MapK.ch {T : List Nat} (h : MapK kf s r m τ) (c : Ch T s s') (hn : τ ∉ T) : MapK kf s' r m τ := h.mv c (by show s.g r ∉ T; rw [h.tag]; exact hn)
theorem MapK.chl {T L : List Nat} (h : MapK kf s r m τ) (c : ChL T L s s') (hn : τ ∉ T) (hl : r ∉ L) : MapK kf s' r m τ := h.mv c (fun h1 => h1.elim (fun h1 => hn (by rw [h.tag] at h1; exact h1)) hl)
theorem MapK.on {r' : Nat} (h : MapK kf s r m τ) (c : On r' s s') (hn : r ≠ r') : MapK kf s' r m τ := h.mv c hn
section
variable [DecidableEq κ]
theorem findL_get (k : κ) : ∀ (es : List MapEntry) (m : List (κ × Value)) (i : Nat), es.map (·.val) = m.map (·.2) → (findL k es (m.map (·.1)) i).map (·.2) = mget k m
  | [], [], i, _ => rfl
  | [], _ :: _, i, h => by simp at h
  | _ :: _, [], i, h => by simp at h
  | e :: es, (k', v) :: m, i, h => by
    simp only [List.map_cons, List.cons.injEq] at h
    simp only [List.map_cons, findL, mget]
    by_cases hk : k = k'
    · simp [hk, h.1]
    · simp only [if_neg hk]; exact findL_get k es m (i + 1) h.2
theorem findL_none (k : κ) : ∀ (es : List MapEntry) (m : List (κ × Value)) (i : Nat), es.length = m.length → findL k es (m.map (·.1)) i = none → ∀ x, mset k x m = m ++ [(k, x)] ∧ mdel k m = m ∧ k ∉ m.map (·.1)
  | [], [], i, _, _, x => by simp [mset, mdel]
  | [], _ :: _, i, h, _, x => by simp at h
  | _ :: _, [], i, h, _, x => by simp at h
  | e :: es, (k', v) :: m, i, h, hf, x => by
    simp only [List.map_cons, findL] at hf
    by_cases hk : k = k'
    · simp [hk] at hf
    · rw [if_neg hk] at hf
      obtain ⟨h1, h2, h3⟩ := findL_none k es m (i + 1) (by simpa using h) hf x
      simp [mset, mdel, hk, h1, h2, h3]
theorem findL_some (k : κ) : ∀ (es : List MapEntry) (m : List (κ × Value)) (i j : Nat) (v : Value), findL k es (m.map (·.1)) i = some (j, v) → i ≤ j ∧ ∃ (a b : List (κ × Value)) (v' : Value) (ea eb : List MapEntry) (e : MapEntry), m = a ++ (k, v') :: b ∧ es = ea ++ e :: eb ∧ a.length = j - i ∧ ea.length = j - i ∧ k ∉ a.map (·.1)
  | [], [], i, j, v, h => by simp [findL] at h
  | [], _ :: _, i, j, v, h => by simp [findL] at h
  | _ :: _, [], i, j, v, h => by simp [findL] at h
  | e :: es, (k', v0) :: m, i, j, v, h => by
    simp only [List.map_cons, findL] at h
    by_cases hk : k = k'
    · rw [if_pos hk] at h; cases h
      exact ⟨Nat.le_refl _, [], m, v0, [], es, e, by simp [hk], rfl, by simp, by simp, by simp⟩
    · rw [if_neg hk] at h
      obtain ⟨h1, a, b, v', ea, eb, e', h2, h3, h4, h5, h6⟩ := findL_some k es m (i + 1) j v h
      exact ⟨by omega, (k', v0) :: a, b, v', e :: ea, eb, e', by simp [h2], by simp [h3], by simp; omega, by simp; omega, by simp [hk, h6]⟩
theorem modify_mid (f : MapEntry → MapEntry) (ea eb : List MapEntry) (e : MapEntry) : (ea ++ e :: eb).modify ea.length f = ea ++ f e :: eb := by
  induction ea with
  | nil => rfl
  | cons x ea ih => simpa using ih
theorem mset_mid {k : κ} {x v : Value} {a b : List (κ × Value)} (h : k ∉ a.map (·.1)) : mset k x (a ++ (k, v) :: b) = a ++ (k, x) :: b := by
  induction a with
  | nil => simp [mset]
  | cons p a ih =>
    simp only [List.map_cons, List.mem_cons, not_or] at h
    simp [mset, h.1, ih h.2]
end
theorem alm_t (kf : κ → Value) (τ : Nat) {s : TH} {k : Nat → Heap → Prop}
    (hk : ∀ (r : Nat) (s' : TH), r = s.h.size → MapK kf s' r [] τ → Ch [] s s' → s.h.size + 1 = s'.h.size → k r s'.h) : al s.h (.map #[] 0) k :=
  hk s.h.size ⟨s.h.push (.map #[] 0), upd s.g s.h.size τ⟩ rfl ⟨⟨[], 0, by simp, ⟨rfl, rfl, by simp, by simp⟩⟩, by simp [upd], by simp⟩ (pushed _ _ _) (by simp)
variable {P : Program} {T Kt Et : TypeId} {E : List PanicEntry → Heap → Prop}
section
variable [DecidableEq κ]
theorem run_look (ko : KeyOk P Kt kf) (hT : P.underlying T = some (.map Kt Et)) {z : Value} (hz : ∀ w, (zeroValue Et).run P w = .ok z w) (h : MapK kf s r m τ) (k : κ) (ok : Bool) (w : World) (hw : w.heap = s.h) :
    (Instr.lookup T (.map (some r)) (kf k) ok).run P w = .ok (if ok = true then .tuple #[(mget k m).getD z, .bool (mget k m).isSome] else (mget k m).getD z) w := by
  obtain ⟨es, ck, hg, he⟩ := h.get
  have h1 : (getObj r).run P w = .ok (.map es.toArray ck) w := by
    show Sem.run P (.getObj r .pure) w = _
    simp only [Sem.run, hw, hg]
  have h2 := ko.find k es (m.map (·.1)) (by rw [he.key, List.map_map]; rfl) w
  have h3 := findL_get k es m 0 he.val
  simp only [Instr.lookup, Sem.run_bind, run_under hT, Result.andThen_ok, h1, Sem.run_pure, ko.check, h2]
  cases hf : findL k es (m.map (·.1)) 0 with
  | none =>
    rw [hf] at h3
    have : mget k m = none := h3.symm
    cases ok <;> simp [this, hz]
  | some p =>
    rw [hf] at h3
    have : mget k m = some p.2 := h3.symm
    cases ok <;> simp [this]
theorem look_ok {K : Value → Heap → Prop} (ko : KeyOk P Kt kf) (hT : P.underlying T = some (.map Kt Et)) {z : Value} (hz : ∀ w, (zeroValue Et).run P w = .ok z w) (h : MapK kf s r m τ) (k : κ) (hk : K (.tuple #[(mget k m).getD z, .bool (mget k m).isSome]) s.h) :
    semW P (Instr.lookup T (.map (some r)) (kf k) true) E s.h K := .mk fun w hw => by
  rw [run_look ko hT hz h k true w hw]; exact ⟨by rw [hw]; exact hk, Like.refl w⟩
theorem look_okn {K : Value → Heap → Prop} (ko : KeyOk P Kt kf) (hT : P.underlying T = some (.map Kt Et)) {z : Value} (hz : ∀ w, (zeroValue Et).run P w = .ok z w) (h : MapK kf s r m τ) (k : κ) (hm : mget k m = none) (hk : K (.tuple #[z, .bool false]) s.h) :
    semW P (Instr.lookup T (.map (some r)) (kf k) true) E s.h K := look_ok ko hT hz h k (by rw [hm]; exact hk)
end
/-- a map's block is written -/
theorem setmap_on {es' : List MapEntry} {ck' : Nat} {m' : List (κ × Value)} (h : MapK kf s r m τ) (he : Ents kf es' ck' m') (hnd : (m'.map (·.1)).Nodup) :
    MapK kf ⟨s.h.setIfInBounds r (.map es'.toArray ck'), s.g⟩ r m' τ ∧ On r s ⟨s.h.setIfInBounds r (.map es'.toArray ck'), s.g⟩ := by
  have hlt := h.lt
  refine ⟨⟨⟨es', ck', by simp [hlt], he⟩, h.tag, hnd⟩, ⟨by simp, fun _ _ => rfl, fun j hj hn => ?_⟩⟩
  show (s.h.setIfInBounds r _)[j]? = _
  rw [Array.getElem?_setIfInBounds_ne (fun e => hn e.symm)]
theorem run_setmap {es : List MapEntry} {ck : Nat} (hg : s.h[r]? = some (.map es.toArray ck)) (o : Obj) (w : World) (hw : w.heap = s.h) : (setObj r o).run P w = .ok () { w with heap := w.heap.setIfInBounds r o } := by
  show Sem.run P (.setObj r o (.pure ())) w = _
  simp only [Sem.run, hw, hg]
theorem ents_snoc {es : List MapEntry} {ck : Nat} (he : Ents kf es ck m) (k : κ) (x : Value) : Ents kf (es ++ [{ key := kf k, val := x, born := ck }]) (ck + 1) (m ++ [(k, x)]) := by
  refine ⟨by simp [he.key], by simp [he.val], ?_, ?_⟩
  · rw [List.map_append, List.nodup_append]
    refine ⟨he.born, by simp, fun a ha b hb => ?_⟩
    simp only [List.map_cons, List.map_nil, List.mem_singleton] at hb
    obtain ⟨e, h1, h2⟩ := List.mem_map.1 ha
    have := he.old e h1
    omega
  · intro e hm
    rcases List.mem_append.1 hm with hm | hm
    · have := he.old e hm; omega
    · simp at hm; subst hm; simp
section
variable [DecidableEq κ]
theorem upd_t {K : Unit → Heap → Prop} (ko : KeyOk P Kt kf) (hT : P.underlying T = some (.map Kt Et)) (h : MapK kf s r m τ) (k : κ) (x : Value)
    (hk : ∀ s' : TH, MapK kf s' r (mset k x m) τ → On r s s' → s.h.size = s'.h.size → K () s'.h) :
    semW P (Instr.mapUpdate T (.map (some r)) (kf k) x) E s.h K := .mk fun w hw => by
  obtain ⟨es, ck, hg, he⟩ := h.get
  have h1 : (getObj r).run P w = .ok (.map es.toArray ck) w := by
    show Sem.run P (.getObj r .pure) w = _
    simp only [Sem.run, hw, hg]
  have h2 := ko.find k es (m.map (·.1)) (by rw [he.key, List.map_map]; rfl) w
  have hlen : es.length = m.length := by have := congrArg List.length he.key; simpa using this
  simp only [Instr.mapUpdate, Sem.run_bind, run_under hT, Result.andThen_ok, h1, ko.check, h2]
  cases hf : findL k es (m.map (·.1)) 0 with
  | none =>
    obtain ⟨h3, _, h5⟩ := findL_none k es m 0 hlen hf x
    have h6 : (m ++ [(k, x)]).map (·.1) = m.map (·.1) ++ [k] := by simp
    have h7 : ((m ++ [(k, x)]).map (·.1)).Nodup := by
      rw [h6, List.nodup_append]
      exact ⟨h.nd, by simp, fun a ha b hb => by simp at hb; subst hb; intro e; subst e; exact h5 ha⟩
    obtain ⟨h8, h9⟩ := setmap_on h (ents_snoc he k x) h7
    have hpush : es.toArray.push (MapEntry.mk (kf k) x ck) = (es ++ [MapEntry.mk (kf k) x ck]).toArray := by simp
    simp only [hpush]
    rw [run_setmap hg _ w hw, ← h3] at *
    have := hk _ h8 h9 (by simp)
    exact ⟨by rw [hw]; exact this, rfl, rfl, rfl⟩
  | some p =>
    obtain ⟨j, v⟩ := p
    obtain ⟨_, a, b, v', ea, eb, e, h3, h4, h5, h6, h7⟩ := findL_some k es m 0 j v hf
    simp only [Nat.sub_zero] at h5 h6
    subst h3 h4
    have hkey := he.key
    have hval := he.val
    simp only [List.map_append, List.map_cons] at hkey hval
    obtain ⟨k1, k2⟩ := List.append_inj hkey (by simp [h5, h6])
    obtain ⟨v1, v2⟩ := List.append_inj hval (by simp [h5, h6])
    simp only [List.cons.injEq] at k2 v2
    have hej : (ea ++ e :: eb)[j]? = some e := by rw [List.getElem?_append_right (by omega), h6]; simp
    have hks : ∀ w, (Instr.keyThatStays (kf k) (kf k)).run P w = .ok (kf k) w := fun w => by simp [Instr.keyThatStays, ko.same]
    have hmod : (ea ++ e :: eb).toArray.modify j (fun e => { e with key := kf k, val := x }) = (ea ++ { e with key := kf k, val := x } :: eb).toArray := by
      apply Array.toList_inj.1
      rw [Array.toList_modify, ← h6]
      exact modify_mid _ _ _ _
    have hent : Ents kf (ea ++ { e with key := kf k, val := x } :: eb) ck (a ++ (k, x) :: b) := by
      refine ⟨by simp [k1, k2.2], by simp [v1, v2.2], by simpa using he.born, fun e' hm => ?_⟩
      rcases List.mem_append.1 hm with hm | hm
      · exact he.old e' (by simp [hm])
      · rcases List.mem_cons.1 hm with rfl | hm
        · exact he.old e (by simp)
        · exact he.old e' (by simp [hm])
    obtain ⟨h8, h9⟩ := setmap_on h hent (by simpa using h.nd)
    have hgk : (((ea ++ e :: eb).toArray[j]?).map (·.key)).getD (kf k) = kf k := by
      simp [hej, k2.1]
    simp only [Sem.run_bind, hgk, hks, Result.andThen_ok, hmod]
    rw [run_setmap hg _ w hw]
    rw [← mset_mid (x := x) (v := v') (b := b) h7] at h8
    have := hk _ h8 h9 (by simp)
    exact ⟨by rw [hw]; exact this, rfl, rfl, rfl⟩
end
section
variable [DecidableEq κ]
end
end
end Go.Proofs.Ytdlelcpkelginaa.E
/- Arrays of whole numbers, told by a function. -/
namespace Go.Proofs.Ytdlelcpkelginaa.E
open Go
set_option linter.unusedVariables false
theorem Blk.congr {s : TH} {r : Nat} {l l' : List Value} {t τ : Nat} (h : Blk s r l t τ) (e : l = l') : Blk s r l' t τ := e ▸ h
end Go.Proofs.Ytdlelcpkelginaa.E
/- Slices, in states with marks. -/
namespace Go.Proofs.Ytdlelcpkelginaa.E
open Go
set_option linter.unusedVariables false
set_option linter.unusedSimpArgs false
/-- only the block of a slice may have turned -/
abbrev OnA (a : Option Addr) (s s' : TH) : Prop := Chg (fun j => a.map (·.block) = some j) s s'
/-- the cells that a slice shows -/
def Sl (s : TH) (a : Option Addr) (l : List Value) (τ : Nat) : Prop :=
  l = [] ∨ ∃ g o, a = some ⟨g, o, none⟩ ∧ g < s.h.size ∧ s.g g = τ ∧ ∀ j v, l[j]? = some v → cellH s.h ⟨g, o + j, none⟩ = some v
theorem Sl.of {s : TH} {g o e τ : Nat} {L l : List Value} (h : Blk s g L e τ) (hl : (L.drop o).take l.length = l) : Sl s (some ⟨g, o, none⟩) l τ := by
  refine .inr ⟨g, o, rfl, h.lt, h.tag, fun j v hv => ?_⟩
  rw [h.cell]
  rw [← hl, List.getElem?_take] at hv
  split at hv
  · rw [List.getElem?_drop] at hv; exact hv
  · cases hv
/-- a slice of n elements of k cells, whose block is its own up to the slice's capacity -/
def Own (s : TH) (a : Option Addr) (n c e k : Nat) (xs : List Value) (τ : Nat) : Prop :=
  xs.length = n * k ∧ ((a = none ∧ n = 0 ∧ c = 0) ∨ ∃ g o L, a = some ⟨g, o, none⟩ ∧ Blk s g L e τ ∧ n ≤ c ∧ c ≤ maxLen ∧ o + c * k ≤ L.length ∧ (L.drop o).take (n * k) = xs)
section
variable {s s' : TH} {a : Option Addr} {n c e k : Nat} {xs l : List Value} {τ : Nat} {B : Nat → Prop}
theorem Own.nil (s : TH) (e k τ : Nat) : Own s none 0 0 e k [] τ := ⟨by simp, .inl ⟨rfl, rfl, rfl⟩⟩
theorem Own.mv (h : Own s a n c e k xs τ) (C : Chg B s s') (hn : ∀ j, j < s.h.size → s.g j = τ → ¬ B j) : Own s' a n c e k xs τ := by
  refine ⟨h.1, h.2.imp id ?_⟩
  rintro ⟨g, o, L, h1, h2, h3⟩
  exact ⟨g, o, L, h1, h2.mv C (hn g h2.lt h2.tag), h3⟩
theorem Sl.mv (h : Sl s a l τ) (C : Chg B s s') (hn : ∀ j, j < s.h.size → s.g j = τ → ¬ B j) : Sl s' a l τ := by
  refine h.imp id ?_
  rintro ⟨g, o, h1, h2, h3, h4⟩
  exact ⟨g, o, h1, Nat.lt_of_lt_of_le h2 C.size, (C.tag g h2).trans h3, fun j v hv => by rw [cellH_of (C.get g h2 (hn g h2 h3))]; exact h4 j v hv⟩
theorem Own.sl (h : Own s a n c e k xs τ) : Sl s a xs τ := by
  rcases h.2 with ⟨_, rfl, _⟩ | ⟨g, o, L, h1, h2, _, _, _, h3⟩
  · left; exact List.eq_nil_of_length_eq_zero (by simpa using h.1)
  · subst h1; exact Sl.of h2 (by rw [h.1]; exact h3)
theorem Own.le (h : Own s a n c e k xs τ) : n ≤ c := by
  rcases h.2 with ⟨_, rfl, rfl⟩ | ⟨g, o, L, h1, h2, h3, _⟩ <;> omega
theorem Own.len (h : Own s a n c e k xs τ) : xs.length = n * k := h.1
theorem Own.none_iff (h : Own s a n c e k xs τ) : a = none → n = 0 := by
  intro ha
  rcases h.2 with ⟨_, h1, _⟩ | ⟨g, o, L, h1, _⟩
  · exact h1
  · rw [ha] at h1; cases h1
theorem OnA.ch {T : List Nat} (C : OnA a s s') (h : Own s a n c e k xs τ) (ht : τ ∈ T) : Ch T s s' := Chg.mono C fun j hj hB => by
  rcases h.2 with ⟨rfl, _⟩ | ⟨g, o, L, rfl, h2, _⟩
  · simp at hB
  · simp at hB; subst hB; rw [h2.tag]; exact ht
theorem OnA.toL {r o : Nat} (C : OnA a s s') (h : a = some ⟨r, o, none⟩) : ChL [] [r] s s' := Chg.mono C fun j hj hB => .inr (by subst h; simp at hB; simp [hB])
/-- a block that the call itself has made, shown as a slice -/
theorem Blk.sl {r t : Nat} (h : Blk s r l t τ) : Sl s (some ⟨r, 0, none⟩) l τ := Sl.of h (by simp)
theorem Blk.own0 {r t : Nat} (h : Blk s r [] t τ) (k : Nat) : Own s (some ⟨r, 0, none⟩) 0 0 t k [] τ := ⟨by simp, .inr ⟨r, 0, [], rfl, h, by simp, by simp, by simp, by simp⟩⟩
theorem Blk.own {r t : Nat} (h : Blk s r l t τ) (k : Nat) (hl : l.length = n * k) (hn : n ≤ maxLen) : Own s (some ⟨r, 0, none⟩) n n t k l τ := ⟨hl, .inr ⟨r, 0, l, rfl, h, Nat.le_refl _, hn, by omega, by simp [← hl]⟩⟩
theorem Sl.cells {b : Addr} (h : Sl s (some b) l τ) (w : World) (hw : w.heap = s.h) : ∀ j u, l[j]? = some u → w.cell? (b.add j) = some u := by
  intro j u hu
  rcases h with rfl | ⟨g, o, h1, h2, h3, h4⟩
  · simp at hu
  · cases h1
    have hadd : (⟨g, o, none⟩ : Addr).add j = ⟨g, o + j, none⟩ := by unfold Addr.add; split <;> simp_all
    rw [hadd, cell_eq, hw]
    exact h4 j u hu
end
section
variable {P : Program} {t ty e : TypeId} {i : TypeInfo} {E : List PanicEntry → Heap → Prop}
theorem run_append_none (w : World) (ht : P.underlying t = some (.slice e)) (hi : P.info? e = some i) (a xa : Option Addr) (n c mc : Nat) (hn : n ≤ c) :
    (Builtin.append_ #[t, t] ty #[.slice a n c, .slice xa 0 mc]).run P w = .ok (.slice a n c) w := by
  cases xa <;> cases a <;> simp [Builtin.append_, run_underlying ht, sizeOf, typeInfo, hi, Builtin.lenOf, hn, Builtin.firstCells, loadCells, loadCellsFrom, storeCells]
theorem run_append_room_o (w : World) (ht : P.underlying t = some (.slice e)) (hi : P.info? e = some i)
    (g o sLen sCap : Nat) (cur : Array Value) (hg : w.heap[g]? = some (.cells cur e (0, 0)))
    (a : Addr) (m c : Nat) (news : List Value) (hl : news.length = m * i.size) (hnews : ∀ j u, news[j]? = some u → w.cell? (a.add j) = some u) (h1 : ∀ u ∈ news, u.oneCell' = true)
    (hroom : sLen + m ≤ sCap) (hfit : o + sLen * i.size + news.length ≤ cur.size) :
    (Builtin.append_ #[t, t] ty #[.slice (some ⟨g, o, none⟩) sLen sCap, .slice (some a) m c]).run P w =
      .ok (.slice (some ⟨g, o, none⟩) (sLen + m) sCap) (w.setRow g (cur.toList.take (o + sLen * i.size) ++ news ++ cur.toList.drop (o + sLen * i.size + news.length)).toArray) := by
  have hf := run_firstCells_some (P := P) w i.size m a m c news hl hnews
  have hst := run_storeCells_at P g (o + sLen * i.size) e news 0 cur w hg (by simpa using hfit) h1
  simp only [Nat.add_zero] at hst
  have hadd : (⟨g, o, none⟩ : Addr).add (sLen * i.size) = ⟨g, o + sLen * i.size, none⟩ := by unfold Addr.add; split <;> simp_all
  simp [Builtin.append_, run_underlying ht, sizeOf, typeInfo, hi, Builtin.lenOf, hroom, hf, hadd, hst]
theorem app_t {s : TH} {a xa : Option Addr} {n c m mc bytes k : Nat} {xs news : List Value} {τ τ' : Nat} {z : Value} {K : Value → Heap → Prop}
    (ht : P.underlying t = some (.slice e)) (hi : P.info? e = some i) (hz : i.zero = some z) (hsize : i.size = k) (hby : i.bytes = bytes) (hzs : z.cells.size = k)
    (hO : Own s a n c e k xs τ) (hx : Sl s xa news τ') (hl : news.length = m * k) (h1 : ∀ u ∈ news, u.oneCell' = true) (hxa : xa = none → m = 0)
    (hb : (n + m) * bytes ≤ 140737488355328 ∧ n + m ≤ maxLen)
    (hk : ∀ (s' : TH) (a' : Option Addr) (c' : Nat), Own s' a' (n + m) c' e k (xs ++ news) τ → OnA a s s' → ((a' = none ↔ a = none ∧ m = 0) ∧ (n + m ≤ c → a' = a ∧ c' = c)) → K (.slice a' (n + m) c') s'.h) :
    semW P (Builtin.append_ #[t, t] ty #[.slice a n c, .slice xa m mc]) E s.h K := .mk fun w hw => by
  subst hsize hby
  by_cases hm : m = 0
  · subst hm
    rw [run_append_none w ht hi a xa n c mc hO.le]
    have hn : news = [] := List.eq_nil_of_length_eq_zero (by simpa using hl)
    subst hn
    refine ⟨?_, Like.refl w⟩
    rw [hw]
    exact hk s a c (by simpa using hO) ⟨Nat.le_refl _, fun _ _ => rfl, fun _ _ _ => rfl⟩ ⟨by simp, fun _ => ⟨rfl, rfl⟩⟩
  obtain ⟨b, rfl⟩ : ∃ b, xa = some b := by
    cases xa with
    | none => exact absurd (hxa rfl) hm
    | some b => exact ⟨b, rfl⟩
  have hc := hx.cells w hw
  have h63 : ((n + m : Nat) : Int) ≤ 9223372036854775807 := by have := hb.2; unfold maxLen at this; omega
  have hlen : (xs ++ news).length = (n + m) * i.size := by rw [List.length_append, hO.1, hl, Nat.add_mul]
  -- a new block
  have grown : ∀ (old : Nat), ¬ n + m ≤ c → ∃ L : List Value, L.toArray = xs.toArray ++ news.toArray ++ Builtin.zeroCells z.cells (grownCap w (n + m) old e - (n + m)) ∧
      K (.slice (some ⟨w.heap.size, 0, none⟩) (n + m) (grownCap w (n + m) old e)) (w.heap.push (.cells L.toArray e)) := by
    intro old hno
    refine ⟨xs ++ news ++ (Builtin.zeroCells z.cells (grownCap w (n + m) old e - (n + m))).toList, by apply Array.toList_inj.1; simp, ?_⟩
    have hge := grownCap_ge w (n + m) old e
    have hcm : grownCap w (n + m) old e ≤ maxLen := grownCap_le_maxLen w (n + m) old e hb.2
    rw [hw]
    refine hk ⟨s.h.push (.cells (xs ++ news ++ (Builtin.zeroCells z.cells (grownCap w (n + m) old e - (n + m))).toList).toArray e), upd s.g s.h.size τ⟩ _ _ ⟨hlen, .inr ⟨s.h.size, 0, xs ++ news ++ (Builtin.zeroCells z.cells (grownCap w (n + m) old e - (n + m))).toList, rfl, ⟨by simp, by simp [upd]⟩, hge, hcm, ?_, ?_⟩⟩ ?_ ⟨by simp [hm], fun h => absurd h hno⟩
    · have : (Builtin.zeroCells z.cells (grownCap w (n + m) old e - (n + m))).toList.length = (grownCap w (n + m) old e - (n + m)) * i.size := by
        simp [size_zeroCells, hzs]
      rw [List.length_append, hlen, this, ← Nat.add_mul]
      rw [show n + m + (grownCap w (n + m) old e - (n + m)) = grownCap w (n + m) old e by omega]; omega
    · rw [← hlen, List.drop_zero]; exact List.take_left
    · exact Chg.mono (pushed s _ τ) fun _ _ h => by simp at h
  rcases hO.2 with ⟨rfl, rfl, rfl⟩ | ⟨g, o, L, rfl, hB, hnc, hcm, hcs, htake⟩
  · have hx0 : xs = [] := List.eq_nil_of_length_eq_zero (by simpa using hO.1)
    subst hx0
    have hr := run_append_nil (P := P) w t ty e i z ht hi hz b m mc news hl hc (by omega) (by omega) (by have := hb.1; simp only [Nat.zero_add] at this; omega)
    rw [hr]
    obtain ⟨L, hL, hK⟩ := grown 0 (by omega)
    simp only [Nat.zero_add, List.nil_append, Array.empty_append] at hL hK
    refine ⟨?_, rfl, rfl, rfl⟩
    rw [hL] at hK; exact hK
  · by_cases hroom : n + m ≤ c
    · have hfit : o + n * i.size + news.length ≤ L.toArray.size := by
        have := Nat.mul_le_mul_right i.size hroom
        rw [Nat.add_mul] at this
        simp only [List.size_toArray, hl]; omega
      have hr := run_append_room_o (P := P) (ty := ty) w ht hi g o n c L.toArray (by rw [hw]; exact hB.get) b m mc news hl hc h1 hroom hfit
      rw [hr]
      have hset : (w.setRow g (L.take (o + n * i.size) ++ news ++ L.drop (o + n * i.size + news.length)).toArray).heap[g]? = some (.cells (L.take (o + n * i.size) ++ news ++ L.drop (o + n * i.size + news.length)).toArray e (0, 0)) := setRow_heap w g L.toArray _ e _ (by rw [hw]; exact hB.get)
      have hK := hk ⟨(w.setRow g (L.take (o + n * i.size) ++ news ++ L.drop (o + n * i.size + news.length)).toArray).heap, s.g⟩ (some ⟨g, o, none⟩) c ⟨hlen, .inr ⟨g, o, _, rfl, ⟨hset, hB.tag⟩, hroom, hcm, ?_, ?_⟩⟩ ⟨by simp [← hw], fun _ _ => rfl, fun j hj hn => ?_⟩ ⟨by simp, fun _ => ⟨rfl, rfl⟩⟩
      · exact ⟨hK, rfl, rfl, rfl⟩
      · simp only [List.size_toArray] at hfit
        simp only [List.length_append, List.length_take, List.length_drop]; omega
      · simp only [List.size_toArray] at hfit
        have e1 : (L.take (o + n * i.size) ++ news ++ L.drop (o + n * i.size + news.length)).drop o = (L.drop o).take (n * i.size) ++ news ++ L.drop (o + n * i.size + news.length) := by
          rw [List.append_assoc, List.drop_append_of_le_length (by simp; omega), List.drop_take, ← List.append_assoc]
          congr 2; congr 1; omega
        rw [e1, htake, ← hlen]; exact List.take_left
      · show (w.setRow g _).heap[j]? = _
        rw [setRow_other w g j _ (fun e => hn (by simp [e])), hw]
    · have hr := run_append_grow (P := P) w t ty e i z ht hi hz ⟨g, o, none⟩ n c xs hO.1 (by have := hO.sl.cells w hw; exact this) b m mc news hl hc (by omega) (by omega) (growslice_fits (by omega) hb.1)
      rw [hr]
      obtain ⟨L', hL, hK⟩ := grown c hroom
      refine ⟨?_, rfl, rfl, rfl⟩
      rw [hL] at hK; exact hK
end
/-! ### bytes; what is cut off a slice -/
theorem info_of {P : Program} {e : TypeId} {z : Value} {k b : Nat} (h : (P.info? e).map (fun i => (i.zero, i.size, i.bytes)) = some (some z, k, b)) : ∃ i, P.info? e = some i ∧ i.zero = some z ∧ i.size = k ∧ i.bytes = b := by
  cases hi : P.info? e with
  | none => rw [hi] at h; cases h
  | some i => rw [hi] at h; simp at h; exact ⟨i, rfl, h.1, h.2.1, h.2.2⟩
theorem app_i {P : Program} {t ty e : TypeId} {E : List PanicEntry → Heap → Prop} {s : TH} {a xa : Option Addr} {n c m mc bytes k : Nat} {xs news : List Value} {τ τ' : Nat} {z : Value} {K : Value → Heap → Prop}
    (ht : P.underlying t = some (.slice e)) (hi : (P.info? e).map (fun i => (i.zero, i.size, i.bytes)) = some (some z, k, bytes)) (hzs : z.cells.size = k)
    (hO : Own s a n c e k xs τ) (hx : Sl s xa news τ') (hl : news.length = m * k) (h1 : ∀ u ∈ news, u.oneCell' = true) (hxa : xa = none → m = 0)
    (hb : (n + m) * bytes ≤ 140737488355328 ∧ n + m ≤ maxLen)
    (hk : ∀ (s' : TH) (a' : Option Addr) (c' : Nat), Own s' a' (n + m) c' e k (xs ++ news) τ → OnA a s s' → ((a' = none ↔ a = none ∧ m = 0) ∧ (n + m ≤ c → a' = a ∧ c' = c)) → K (.slice a' (n + m) c') s'.h) :
    semW P (Builtin.append_ #[t, t] ty #[.slice a n c, .slice xa m mc]) E s.h K := by
  obtain ⟨i, h1', h2, h3, h4⟩ := info_of hi
  exact app_t ht h1' h2 h3 h4 hzs hO hx hl h1 hxa hb hk
def bv (b : UInt8) : Value := .int .u8 (b.toNat : Int)
def bvs (l : List UInt8) : List Value := l.map bv
theorem bvs_len (l : List UInt8) : (bvs l).length = l.length := by simp [bvs]
theorem bvs_one (l : List UInt8) : ∀ u ∈ bvs l, u.oneCell' = true := by intro u hu; simp [bvs] at hu; obtain ⟨b, _, rfl⟩ := hu; rfl
theorem slA_mk (g o k l m : Nat) : slO (some ⟨g, o, none⟩) k (l : Int) (m : Int) = some ⟨g, if m = l then o else o + l * k, none⟩ := by
  unfold slO slA
  simp only [Option.map_some, Int.toNat_natCast]
  split
  · rfl
  · unfold Addr.add; split <;> simp_all
/-- what a slice shows from a place on -/
theorem Own.cut {s : TH} {a : Option Addr} {n c e k : Nat} {xs : List Value} {τ : Nat} (h : Own s a n c e k xs τ) {m : Nat} (hm : m ≤ n) : Sl s (slO a k (m : Int) (c : Int)) (xs.drop (m * k)) τ := by
  rcases h.2 with ⟨h1, h2, h3⟩ | ⟨g, o, L, h1, h2, h3, h4, h5, h6⟩
  · left; rw [List.eq_nil_of_length_eq_zero (l := xs) (by rw [h.1, h2]; simp)]; simp
  · by_cases hc : c = m
    · left; apply List.eq_nil_of_length_eq_zero; rw [List.length_drop, h.1, show n = m by omega]; omega
    · subst h1
      rw [slA_mk, if_neg hc]
      refine Sl.of h2 ?_
      rw [← h6, List.drop_take, List.drop_drop, List.length_take, List.length_drop]
      have h7 : n * k ≤ c * k := Nat.mul_le_mul_right k h3
      rw [Nat.min_eq_left (by omega)]
end Go.Proofs.Ytdlelcpkelginaa.E
/- Rows of records; ranges of marks; what a slice shows, read. -/
namespace Go.Proofs.Ytdlelcpkelginaa.E
open Go
set_option linter.unusedVariables false
set_option linter.unusedSimpArgs false
theorem of_rng {s : TH} {T τ : Nat} {B : Nat → Prop} (hn : ∀ j, j < s.h.size → T ≤ s.g j → s.g j < T + 10 → ¬ B j) (h1 : T ≤ τ) (h2 : τ < T + 10) : ∀ j, j < s.h.size → s.g j = τ → ¬ B j := fun j hj e => hn j hj (by omega) (by omega)
/-! rows of k cells -/
section
variable {α : Type} {f : α → List Value} {k : Nat}
theorem fm_get (hf : ∀ x, (f x).length = k) : ∀ (l : List α) (i j : Nat) (x : α), l[i]? = some x → j < k → (l.flatMap f)[i * k + j]? = (f x)[j]?
  | [], i, j, x, h, _ => by simp at h
  | y :: l, 0, j, x, h, hj => by
    simp at h; subst h
    simp only [List.flatMap_cons, Nat.zero_mul, Nat.zero_add]
    rw [List.getElem?_append_left (by rw [hf]; exact hj)]
  | y :: l, i + 1, j, x, h, hj => by
    simp only [List.flatMap_cons, Nat.add_mul, Nat.one_mul]
    rw [List.getElem?_append_right (by rw [hf]; omega), hf, show i * k + k + j - k = i * k + j by omega]
    exact fm_get hf l i j x (by simpa using h) hj
end
/-! reading through a slice -/
section
variable {s : TH} {a : Addr} {l : List Value} {τ : Nat} {v : Value} {k : Value → Prop}
theorem Sl.get (h : Sl s (some a) l τ) {j : Nat} (hv : l[j]? = some v) : cellH s.h (a.add j) = some v := by
  rcases h with rfl | ⟨g, o, h1, h2, h3, h4⟩
  · simp at hv
  · cases h1
    have hadd : (⟨g, o, none⟩ : Addr).add j = ⟨g, o + j, none⟩ := by unfold Addr.add; split <;> simp_all
    rw [hadd]; exact h4 j v hv
theorem ld_sl {j : Nat} (h : Sl s (some a) l τ) (hv : l[j]? = some v) (hk : k v) : ld s.h (a.add j) k := ld_i (h.get hv) hk
theorem add_add {l : List Value} (h : Sl s (some a) l τ) {x y : Nat} (hv : l[x + y]? = some v) : (a.add x).add y = a.add (x + y) := by
  rcases h with rfl | ⟨g, o, h1, h2, h3⟩
  · simp at hv
  · cases h1
    unfold Addr.add
    by_cases hx : x = 0 <;> by_cases hy : y = 0 <;> simp [hx, hy] <;> omega
theorem ld_sl2 {x y : Nat} (h : Sl s (some a) l τ) (hv : l[x + y]? = some v) (hk : k v) : ld s.h ((a.add x).add y) k := by
  rw [add_add h hv]; exact ld_sl h hv hk
theorem Sl.some {a : Option Addr} {l : List Value} (h : Sl s a l τ) (hl : l ≠ []) : ∃ b, a = .some b := by
  rcases h with h | ⟨g, o, h1, h2, h3⟩
  · exact absurd h hl
  · exact ⟨_, h1⟩
end
/-! storing into a slice of its own -/
theorem Own.st {s : TH} {a : Addr} {n c e k : Nat} {xs : List Value} {τ j : Nat} {v : Value} {K : Heap → Prop} (h : Own s (some a) n c e k xs τ) (h1 : oneC v = true) (hj : j < n * k)
    (hk : ∀ s' : TH, Own s' (some a) n c e k (xs.set j v) τ → On a.block s s' → s.h.size = s'.h.size → K s'.h) : st s.h (a.add j) v K := by
  rcases h.2 with ⟨h0, _⟩ | ⟨g, o, L, h2, h3, h4, h5, h6, h7⟩
  · cases h0
  · cases h2
    have hadd : (⟨g, o, none⟩ : Addr).add j = ⟨g, o + j, none⟩ := by unfold Addr.add; split <;> simp_all
    rw [hadd]
    have hck : n * k ≤ c * k := Nat.mul_le_mul_right k h4
    refine st_t h3 h1 (by omega) fun s' b1 b2 b3 => hk s' ⟨by rw [List.length_set]; exact h.1, .inr ⟨g, o, _, rfl, b1, h4, h5, by rw [List.length_set]; exact h6, ?_⟩⟩ b2 b3
    rw [← h7]
    apply List.ext_getElem?
    intro i
    rw [List.getElem?_take, List.getElem?_drop]
    by_cases hi : i < n * k
    · rw [if_pos hi]
      by_cases hij : i = j
      · subst hij
        rw [List.getElem?_set_self (by omega), List.getElem?_set_self (by rw [List.length_take, List.length_drop]; omega)]
      · rw [List.getElem?_set_ne (by omega), List.getElem?_set_ne (by omega), List.getElem?_take, if_pos hi, List.getElem?_drop]
    · rw [if_neg hi, List.getElem?_eq_none]
      rw [List.length_set, List.length_take]; omega
theorem Own.tagOf {s : TH} {a : Addr} {n c e k : Nat} {xs : List Value} {τ : Nat} (h : Own s (some a) n c e k xs τ) : s.g a.block = τ := by
  rcases h.2 with ⟨h0, _⟩ | ⟨g, o, L, h2, h3, _⟩
  · cases h0
  · cases h2; exact h3.tag
theorem slO_zero (a : Option Addr) (k : Nat) (m : Int) : slO a k 0 m = a := by
  cases a with
  | none => rfl
  | some a => simp [slO, slA, Addr.add]
end Go.Proofs.Ytdlelcpkelginaa.E
/- copy; entries without a text: bytealg.MakeNoZero; min. -/
namespace Go.Proofs.Ytdlelcpkelginaa.E
open Go
set_option linter.unusedVariables false
set_option linter.unusedSimpArgs false
theorem Own.ne_none {s : TH} {a : Option Addr} {n c e k : Nat} {xs : List Value} {τ : Nat} (h : Own s a n c e k xs τ) (hn : 0 < n) : ∃ b, a = some b := by
  cases a with
  | none => have := h.none_iff rfl; omega
  | some b => exact ⟨b, rfl⟩
theorem Sl.ne_none {s : TH} {a : Option Addr} {xs : List Value} {τ : Nat} (h : Sl s a xs τ) (hn : 0 < xs.length) : ∃ b, a = .some b := h.some (fun e => by rw [e] at hn; cases hn)
end Go.Proofs.Ytdlelcpkelginaa.E
/- Contracts of functions. -/
namespace Go.Proofs.Ytdlelcpkelginaa.E
open Go Go.Proofs
set_option linter.unusedVariables false
set_option linter.unusedSimpArgs false
theorem u3 : Try.prog.underlying 3 = some (.int .i64) := by kernel_rfl
theorem u5 : Try.prog.underlying 5 = some (.int .u8) := by kernel_rfl
theorem u24 : Try.prog.underlying 24 = some (.slice 32) := by kernel_rfl
theorem u32 : Try.prog.underlying 32 = some (.slice 5) := by kernel_rfl
theorem u63 : Try.prog.underlying 63 = some (.slice 62) := by kernel_rfl
theorem in5 : (Try.prog.info? 5).map (fun i => (i.zero, i.size, i.bytes)) = some (some (.int .u8 0), 1, 1) := by kernel_rfl
theorem in32 : (Try.prog.info? 32).map (fun i => (i.zero, i.size, i.bytes)) = some (some (.slice none 0 0), 1, 24) := by kernel_rfl
end Go.Proofs.Ytdlelcpkelginaa.E
/- The plain law of GeomApart: which blocks are what; no program here. -/
namespace Go.Proofs.Ytdlelcpkelginaa.E
open Go
set_option linter.unusedVariables false
/-- a block of inodes -/
def tab (b c x : Int) : Prop := 2 ≤ x % b ∧ x % b < 2 + c / 4
instance (b c x : Int) : Decidable (tab b c x) := by unfold tab; infer_instance
/-! inodes -/
/-- the first inode of a block -/
def fi (b c x : Int) : Int := x / b * c + (x % b - 2) * 4
def f3 (b c m x : Int) : Int := if tab b c x then (if fi b c x < m then 1 else 0) else 1
theorem mget_mset {κ : Type} [DecidableEq κ] {k k' : κ} {x : Value} {m : List (κ × Value)} : mget k (mset k' x m) = if k = k' then some x else mget k m := by
  induction m with
  | nil => simp only [mset, mget]
  | cons p m ih =>
    obtain ⟨k2, v⟩ := p
    by_cases h : k' = k2
    · subst h; simp only [mset, if_pos, mget]; by_cases h2 : k = k' <;> simp [h2]
    · simp only [mset, if_neg h, mget, ih]
      by_cases h2 : k = k2
      · subst h2; simp [Ne.symm h]
      · simp [h2]
end Go.Proofs.Ytdlelcpkelginaa.E
/- Going through a map, in states with marks. -/
namespace Go.Proofs.Ytdlelcpkelginaa.E
open Go Go.ChangeMaps
set_option linter.unusedVariables false
set_option linter.unusedSimpArgs false
/-- a map m, and an iterator over it that has told the keys 'vis' -/
structure ItK {κ : Type} (kf : κ → Value) (s : TH) (q r : Nat) (m : List (κ × Value)) (vis : List κ) (τ τq : Nat) : Prop where
  ex : ∃ (es : List MapEntry) (ck : Nat) (seen : Array Nat), s.h[r]? = some (.map es.toArray ck) ∧ Ents kf es ck m ∧ s.h[q]? = some (.mapIter (some r) ck seen ck) ∧
    (∀ e ∈ es, ∀ k, e.key = kf k → (seen.contains e.born = true ↔ k ∈ vis)) ∧ (∀ vis' k, vis = vis' ++ [k] → ∀ e ∈ es, e.key = kf k → seen.back? = some e.born)
  tag : s.g r = τ
  tagq : s.g q = τq
  nd : (m.map (·.1)).Nodup
  sub : vis.Nodup
def leftH (H : Heap) (q r : Nat) : Nat :=
  match H[r]?, H[q]? with
  | some (.map es _), some (.mapIter _ _ seen _) => (leftOf es seen).size
  | _, _ => 0
section
variable {κ : Type} {kf : κ → Value} {s s' : TH} {q r τ τq : Nat} {m : List (κ × Value)} {vis : List κ}
theorem ItK.map (h : ItK kf s q r m vis τ τq) : MapK kf s r m τ := by
  obtain ⟨es, ck, seen, h1, h2, _⟩ := h.ex
  exact ⟨⟨es, ck, h1, h2⟩, h.tag, h.nd⟩
theorem ItK.ltq (h : ItK kf s q r m vis τ τq) : q < s.h.size := by
  obtain ⟨es, ck, seen, _, _, h1, _⟩ := h.ex
  exact (Array.getElem?_eq_some_iff.1 h1).1
theorem ItK.mv {B : Nat → Prop} (h : ItK kf s q r m vis τ τq) (c : Chg B s s') (hr : ¬ B r) (hq : ¬ B q) : ItK kf s' q r m vis τ τq := by
  have l1 := h.map.lt
  have l2 := h.ltq
  obtain ⟨es, ck, seen, h1, h2, h3, h4⟩ := h.ex
  exact ⟨⟨es, ck, seen, (c.get r l1 hr).trans h1, h2, (c.get q l2 hq).trans h3, h4⟩, (c.tag r l1).trans h.tag, (c.tag q l2).trans h.tagq, h.nd, h.sub⟩
theorem ItK.ch {T : List Nat} (h : ItK kf s q r m vis τ τq) (c : Ch T s s') (hr : τ ∉ T) (hq : τq ∉ T) : ItK kf s' q r m vis τ τq :=
  h.mv c (by show s.g r ∉ T; rw [h.tag]; exact hr) (by show s.g q ∉ T; rw [h.tagq]; exact hq)
theorem left_len [DecidableEq κ] (hinj : ∀ a b, kf a = kf b → a = b) : ∀ {es : List MapEntry} {m : List (κ × Value)} {seen : Array Nat} {vis : List κ}, es.map (·.key) = m.map (fun p => kf p.1) → (∀ e ∈ es, ∀ k, e.key = kf k → (seen.contains e.born = true ↔ k ∈ vis)) →
    (es.filter fun e => !seen.contains e.born).length = (m.filter fun p => !decide (p.1 ∈ vis)).length
  | [], [], _, _, _, _ => rfl
  | [], _ :: _, _, _, h, _ => by simp at h
  | _ :: _, [], _, _, h, _ => by simp at h
  | e :: es, p :: m, seen, vis, h, hs => by
    simp only [List.map_cons, List.cons.injEq] at h
    have h1 := hs e (by simp) p.1 h.1
    have h2 := left_len hinj (seen := seen) (vis := vis) h.2 (fun e' he' => hs e' (List.mem_cons_of_mem _ he'))
    rw [List.filter_cons, List.filter_cons]
    by_cases hp : p.1 ∈ vis
    · rw [h1.2 hp]; simp only [Bool.not_true, hp, decide_true, Bool.false_eq_true, if_false]; exact h2
    · have : seen.contains e.born = false := by rw [← Bool.not_eq_true]; exact fun h => hp (h1.1 h)
      rw [this]; simp only [Bool.not_false, hp, decide_false, if_true, List.length_cons]; rw [h2]
theorem ItK.left [DecidableEq κ] (hinj : ∀ a b, kf a = kf b → a = b) (h : ItK kf s q r m vis τ τq) : leftH s.h q r = (m.filter fun p => !decide (p.1 ∈ vis)).length := by
  obtain ⟨es, ck, seen, h1, h2, h3, h4, _⟩ := h.ex
  unfold leftH
  rw [h1, h3]
  show (leftOf es.toArray seen).size = _
  rw [← left_len hinj h2.key h4]
  unfold leftOf
  simp
end
section
variable {κ : Type} {kf : κ → Value} {P : Program} {T Kt Et : TypeId} {E : List PanicEntry → Heap → Prop} {s : TH} {q r τ : Nat} {m : List (κ × Value)} {vis : List κ}
end
theorem conv_bs {P : Program} {src dst e : TypeId} {E : List PanicEntry → Heap → Prop} {s : TH} {xa : Option Addr} {xn xc τ : Nat} {l : List UInt8} {K : Value → Heap → Prop}
    (hs : P.underlying src = some (.slice e)) (he : P.underlying e = some (.int .u8)) (hd : P.underlying dst = some .string) (hx : Sl s xa (bvs l) τ) (hn : l.length = xn) (h0 : xa = none → xn = 0) (hk : K (.string ⟨l.toArray⟩) s.h) :
    semW P (convert src dst (.slice xa xn xc)) E s.h K := .mk fun w hw => by
  subst hn
  cases xa with
  | none =>
    have : l = [] := List.eq_nil_of_length_eq_zero (h0 rfl)
    subst this
    rw [run_convert_bytes_nil w src e hs he _ _ dst hd]
    exact ⟨by rw [hw]; exact hk, Like.refl w⟩
  | some a =>
    rw [run_convert_bytes_back w src dst e a xc l hs he hd (fun j hj => hx.cells w hw j _ (by simp [bvs, bv, hj]))]
    exact ⟨by rw [hw]; exact hk, Like.refl w⟩
end Go.Proofs.Ytdlelcpkelginaa.E
/- sync.Mutex, entered alone, on marked states; the door of a function with one call put off. -/
namespace Go.Proofs.Ytdlelcpkelginaa.E
open Go Go.Conc.Locks
set_option linter.unusedVariables false
theorem on_ch {s s' : TH} {r : Nat} {l : List Value} {t τ : Nat} (h : Blk s r l t τ) (c : On r s s') : Ch [τ] s s' := Chg.mono c fun j _ e => by subst e; rw [h.tag]; simp
end Go.Proofs.Ytdlelcpkelginaa.E
/- Appending so many noughts to bytes. -/
namespace Go.Proofs.Ytdlelcpkelginaa.E
open Go
set_option linter.unusedVariables false
theorem zeroB (m : Nat) : (Builtin.zeroCells (Value.int .u8 0).cells m).toList = bvs (List.replicate m 0) := by
  apply List.ext_getElem
  · simp [Builtin.zeroCells, bvs, Value.cells]
  · intro i h1 h2
    simp [Builtin.zeroCells, bvs, Value.cells, bv, Nat.mod_one]
section
variable {P : Program} {t tn ty e : TypeId} {i : TypeInfo} {E : List PanicEntry → Heap → Prop}
theorem run_append_room_z (w : World) {kn kq : IntKind} (ht : P.underlying t = some (.slice e)) (htn : P.underlying tn = some (.int kn)) (hi : P.info? e = some i) (hz : i.zero = some (.int .u8 0)) (hs : i.size = 1) (hby : i.bytes = 1)
    (g o sLen sCap m : Nat) (cur : Array Value) (hg : w.heap[g]? = some (.cells cur e (0, 0))) (hm : 0 < m) (hm2 : m ≤ 1000000000)
    (hroom : sLen + m ≤ sCap) (hfit : o + sLen + m ≤ cur.size) :
    (Builtin.append_ #[t, tn] ty #[.slice (some ⟨g, o, none⟩) sLen sCap, .int kq m]).run P w =
      .ok (.slice (some ⟨g, o, none⟩) (sLen + m) sCap) (w.setRow g (cur.toList.take (o + sLen) ++ bvs (List.replicate m 0) ++ cur.toList.drop (o + sLen + m)).toArray) := by
  have hst := run_storeCells_at P g (o + sLen) e (bvs (List.replicate m 0)) 0 cur w hg (by simp [bvs_len]; omega) (bvs_one _)
  simp only [Nat.add_zero, bvs_len, List.length_replicate] at hst
  have hadd : (⟨g, o, none⟩ : Addr).add sLen = ⟨g, o + sLen, none⟩ := by unfold Addr.add; split <;> simp_all
  have hw : IntKind.i64.wrap (m : Int) = m := by rw [IntKind.wrap_i64]; omega
  have hneg : ¬ ((m : Int) < 0) := by omega
  have h48 : ¬ (281474976710656 < (m : Int)) := by omega
  have hm0 : ¬ (m = 0) := by omega
  simp [Builtin.append_, run_underlying ht, run_underlying htn, sizeOf, typeInfo, zeroValue, hi, hz, hs, hby, asInt, asIntOf, hw, hneg, h48, hm0, hroom, hadd, zeroB, hst]
theorem appz_i {s : TH} {a : Option Addr} {n c m : Nat} {kn : IntKind} {l : List UInt8} {τ : Nat} {K : Value → Heap → Prop}
    (ht : P.underlying t = some (.slice e)) (htn : P.underlying tn = some (.int kn)) (hi' : (P.info? e).map (fun i => (i.zero, i.size, i.bytes)) = some (some (.int .u8 0), 1, 1))
    (hO : Own s a n c e 1 (bvs l) τ) (ha : a ≠ none) (hm : 0 < m) (hb : n ≤ 1000000000 ∧ m ≤ 1000000000)
    (hk : ∀ (s' : TH) (a' : Option Addr) (c' : Nat), Own s' a' (n + m) c' e 1 (bvs (l ++ List.replicate m 0)) τ → OnA a s s' → K (.slice a' (n + m) c') s'.h) :
    semW P (Builtin.append_ #[t, tn] ty #[.slice a n c, .int .i64 (m : Int)]) E s.h K := .mk fun w hw => by
  obtain ⟨i, hi, hz, hs, hby⟩ := info_of hi'
  have hlen : (bvs (l ++ List.replicate m 0)).length = (n + m) * 1 := by
    have := hO.1; rw [bvs_len] at this ⊢; rw [List.length_append, List.length_replicate]; omega
  have hxl := hO.1
  rw [bvs_len] at hxl
  have happ : bvs (l ++ List.replicate m 0) = bvs l ++ bvs (List.replicate m 0) := by simp [bvs]
  rcases hO.2 with ⟨rfl, rfl, rfl⟩ | ⟨g, o, L, rfl, hB, hnc, hcm, hcs, htake⟩
  · exact absurd rfl ha
  · by_cases hroom : n + m ≤ c
    · have hr := run_append_room_z (P := P) (ty := ty) (kq := .i64) w ht htn hi hz hs hby g o n c m L.toArray (by rw [hw]; exact hB.get) hm hb.2 hroom (by simp; omega)
      rw [hr]
      have hset : (w.setRow g (L.take (o + n) ++ bvs (List.replicate m 0) ++ L.drop (o + n + m)).toArray).heap[g]? = some (.cells (L.take (o + n) ++ bvs (List.replicate m 0) ++ L.drop (o + n + m)).toArray e (0, 0)) := setRow_heap w g L.toArray _ e _ (by rw [hw]; exact hB.get)
      have hK := hk ⟨(w.setRow g (L.take (o + n) ++ bvs (List.replicate m 0) ++ L.drop (o + n + m)).toArray).heap, s.g⟩ (some ⟨g, o, none⟩) c ⟨hlen, .inr ⟨g, o, _, rfl, ⟨hset, hB.tag⟩, hroom, hcm, ?_, ?_⟩⟩ ⟨by simp [← hw], fun _ _ => rfl, fun j hj hn => ?_⟩
      · exact ⟨hK, rfl, rfl, rfl⟩
      · simp only [List.length_append, List.length_take, List.length_drop, bvs_len, List.length_replicate]; omega
      · have e1 : (L.take (o + n) ++ bvs (List.replicate m 0) ++ L.drop (o + n + m)).drop o = (L.drop o).take n ++ bvs (List.replicate m 0) ++ L.drop (o + n + m) := by
          rw [List.append_assoc, List.drop_append_of_le_length (by simp; omega), List.drop_take, ← List.append_assoc]
          congr 2; congr 1; omega
        rw [Nat.mul_one] at htake
        rw [e1, htake, ← happ, ← hlen]; exact List.take_left
      · show (w.setRow g _).heap[j]? = _
        rw [setRow_other w g j _ (fun e => hn (by simp [e])), hw]
    · have hold : (Builtin.firstCells i.size n (.slice (some ⟨g, o, none⟩) n c)).run P w.drew = .ok (bvs l).toArray w.drew := by
        have hcl := hO.sl.cells w.drew (by exact hw)
        exact run_firstCells_some (P := P) w.drew i.size n ⟨g, o, none⟩ n c (bvs l) (by rw [hs]; exact hO.1) hcl
      have hr := Go.Lib.run_append_grow_zeros (P := P) w t tn ty e i (.int .u8 0) .i64 kn ht htn hi hz (some ⟨g, o, none⟩) n c (bvs l) hold m hm (by omega) (by omega) (by omega) (by rw [hby]; omega) (growslice_fits (by omega) (by rw [hby]; omega))
      rw [hr]
      have hge := grownCap_ge w (n + m) c e
      have hcm' : grownCap w (n + m) c e ≤ maxLen := grownCap_le_maxLen w (n + m) c e (by unfold maxLen; omega)
      have hL : (bvs l).toArray ++ Builtin.zeroCells (Value.int .u8 0).cells m ++ Builtin.zeroCells (Value.int .u8 0).cells (grownCap w (n + m) c e - (n + m)) = (bvs (l ++ List.replicate m 0) ++ bvs (List.replicate (grownCap w (n + m) c e - (n + m)) 0)).toArray := by
        apply Array.toList_inj.1
        simp only [Array.toList_append, zeroB, happ]
      rw [hL]
      refine ⟨?_, rfl, rfl, rfl⟩
      have hh : (w.drew.alloc (.cells (bvs (l ++ List.replicate m 0) ++ bvs (List.replicate (grownCap w (n + m) c e - (n + m)) 0)).toArray e)).heap = s.h.push (.cells (bvs (l ++ List.replicate m 0) ++ bvs (List.replicate (grownCap w (n + m) c e - (n + m)) 0)).toArray e) := by rw [← hw]; rfl
      rw [hh]
      rw [show w.heap.size = s.h.size by rw [hw]]
      refine hk ⟨s.h.push (.cells (bvs (l ++ List.replicate m 0) ++ bvs (List.replicate (grownCap w (n + m) c e - (n + m)) 0)).toArray e), upd s.g s.h.size τ⟩ _ _ ⟨hlen, .inr ⟨s.h.size, 0, _, rfl, ⟨Array.getElem?_push_size .., by simp [upd]⟩, hge, hcm', ?_, ?_⟩⟩ ?_
      · rw [List.length_append, hlen, bvs_len, List.length_replicate]; omega
      · rw [← hlen, List.drop_zero]; exact List.take_left
      · exact Chg.mono (pushed s _ τ) fun _ _ h => by simp at h
end
end Go.Proofs.Ytdlelcpkelginaa.E
