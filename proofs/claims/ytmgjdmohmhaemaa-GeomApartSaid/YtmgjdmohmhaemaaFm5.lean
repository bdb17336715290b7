/- The functions' forms in the engine's words, printed by my own program. -/
import Derived.Test.YtmgjdmohmhaemaaProg
import Derived.Test.YtmgjdmohmhaemaaEng11
import Derived.KernelRfl
namespace Go.Proofs.Ytmgjdmohmhaemaa.E
open Go Go.Proofs
set_option linter.unusedVariables false
/-- bollard/layout.spelt -/
def F122 (x0 : ByteArray) (R : Ending → Heap → Prop) (H : Heap) : Prop :=
  ∃ I1 : List Value → Heap → Prop,
  ∃ I2 : List Value → Heap → Nat,
  (I1 ([Value.int IntKind.i64 0]) H) ∧
  ∀ n3 : Int,
  ∀ v4 v5 v6 v7 v8 v9 v10 v11 v12 v13 v14 v15 v16 v17 v18 v19 v20 v21 v22 v23 v24 : Value,
  ∀ H25 : Heap,
  (I1 ([Value.int IntKind.i64 n3]) H25) →
  sB (decide (n3 < (↑(ByteArray.size x0) : Int))) (jn (α := VFH 1) (fun v27 H28 =>
  ∀ v29 v30 v31 v32 v33 v34 v35 v36 v37 v38 v39 v40 v41 v42 v43 : Value,
  dBl v27 (fun b44 =>
  sB b44 (R (Ending.returned (Value.bool false)) H28) (wr IntKind.i64 (n3 + 1) (fun n45 =>
  (I1 ([Value.int IntKind.i64 n45]) H28) ∧
  (I2 [Value.int IntKind.i64 n45] H28) < (I2 [Value.int IntKind.i64 n3] H25))))) (fun k46 =>
  ask ((0 : Int) ≤ n3 ∧ n3 < (↑(ByteArray.size x0) : Int)) (sB (decide (byteAt x0 (Int.toNat n3) < 33)) (k46 (Value.bool true) H25) (ask ((0 : Int) ≤ n3 ∧ n3 < (↑(ByteArray.size x0) : Int)) (sB (decide (byteAt x0 (Int.toNat n3) > 126)) (k46 (Value.bool true) H25) (ask ((0 : Int) ≤ n3 ∧ n3 < (↑(ByteArray.size x0) : Int)) (k46 (Value.bool (byteAt x0 (Int.toNat n3) == 47)) H25))))))) (sB (!ByteArray.toList x0 == []) (R (Ending.returned (Value.bool (decide ((↑(ByteArray.size x0) : Int) ≤ 13)))) H25) (R (Ending.returned (Value.bool false)) H25))
theorem F122_eq (x0 : ByteArray) (R : Ending → Heap → Prop) (H : Heap) : F122 x0 R H = vc Try.prog (codeOf Try.f122) (.node none .leaf (.node none (.node none .leaf (.node none (.node (some ⟨[(6, 3)], [2, 3, 7, 8, 9, 10, 11, 12, 13, 14, 15, 16, 17, 18, 19, 20, 21, 22, 23, 24, 25]⟩) (.node none .leaf (.node none .leaf (.node none (.node none (.node none .leaf (.node (some ⟨[(24, 4)], [9, 10, 11, 12, 13, 14, 15, 16, 17, 18, 19, 20, 21, 22, 23]⟩) .leaf .leaf)) .leaf) .leaf))) .leaf) .leaf)) .leaf)) (postV Try.prog Try.f122 R) ⟨#[Value.string x0] ++ Array.replicate (Try.f122.ntmps - 1) undef, []⟩ H := by kernel_rfl
theorem F122_calls {R : Ending → Heap → Prop} {H : Heap} (x0 : ByteArray) (h : F122 x0 R H) : HCalls Try.prog 122 #[Value.string x0] H R :=
  calls_by (.node none .leaf (.node none (.node none .leaf (.node none (.node (some ⟨[(6, 3)], [2, 3, 7, 8, 9, 10, 11, 12, 13, 14, 15, 16, 17, 18, 19, 20, 21, 22, 23, 24, 25]⟩) (.node none .leaf (.node none .leaf (.node none (.node none (.node none .leaf (.node (some ⟨[(24, 4)], [9, 10, 11, 12, 13, 14, 15, 16, 17, 18, 19, 20, 21, 22, 23]⟩) .leaf .leaf)) .leaf) .leaf))) .leaf) .leaf)) .leaf)) Try.func122 rfl (F122_eq x0 R H) h
/-- bollard/bollardref03.may -/
def F123 (x0_0 : Value) (x0_1 : Value) (x0_2 : Value) (R : Ending → Heap → Prop) (H : Heap) : Prop :=
  al H (Obj.cells #[x0_0, x0_1, x0_2] 23) (fun r1 H2 =>
  ld H2 (Addr.mk r1 0 none) (fun v3 =>
  dInt IntKind.i64 v3 (fun n4 =>
  sB (decide (n4 ≥ 1)) (ld H2 (Addr.mk r1 0 none) (fun v5 =>
  dInt IntKind.i64 v5 (fun n6 =>
  sB (decide (n6 ≤ 8)) (ld H2 (Addr.mk r1 1 none) (fun v7 =>
  dInt IntKind.i64 v7 (fun n8 =>
  sB (decide (n8 ≥ 8)) (ld H2 (Addr.mk r1 1 none) (fun v9 =>
  dInt IntKind.i64 v9 (fun n10 =>
  sB (decide (n10 ≤ 256)) (ld H2 (Addr.mk r1 2 none) (fun v11 =>
  dInt IntKind.i64 v11 (fun n12 =>
  sB (decide (n12 ≥ 4)) (ld H2 (Addr.mk r1 2 none) (fun v13 =>
  dInt IntKind.i64 v13 (fun n14 =>
  sB (decide (n14 ≤ 64)) (ld H2 (Addr.mk r1 2 none) (fun v15 =>
  dInt IntKind.i64 v15 (fun n16 =>
  ask ((4 : Int) ≠ (0 : Int)) (nm (Int.tmod n16 4) (fun n17 =>
  sB (n17 == 0) (ld H2 (Addr.mk r1 1 none) (fun v18 =>
  dInt IntKind.i64 v18 (fun n19 =>
  ld H2 (Addr.mk r1 2 none) (fun v20 =>
  dInt IntKind.i64 v20 (fun n21 =>
  ask ((4 : Int) ≠ (0 : Int)) (wr IntKind.i64 (Int.tdiv n21 4) (fun n22 =>
  wr IntKind.i64 (3 + n22) (fun n23 =>
  R (Ending.returned (Value.bool (decide (n19 ≥ n23)))) H2)))))))) (R (Ending.returned (Value.bool false)) H2)))))) (R (Ending.returned (Value.bool false)) H2)))) (R (Ending.returned (Value.bool false)) H2)))) (R (Ending.returned (Value.bool false)) H2)))) (R (Ending.returned (Value.bool false)) H2)))) (R (Ending.returned (Value.bool false)) H2)))) (R (Ending.returned (Value.bool false)) H2))))
theorem F123_eq (x0_0 : Value) (x0_1 : Value) (x0_2 : Value) (R : Ending → Heap → Prop) (H : Heap) : F123 x0_0 x0_1 x0_2 R H = vc Try.prog (codeOf Try.f123) .leaf (postV Try.prog Try.f123 R) ⟨#[Value.agg #[x0_0, x0_1, x0_2]] ++ Array.replicate (Try.f123.ntmps - 1) undef, []⟩ H := by kernel_rfl
theorem F123_calls {R : Ending → Heap → Prop} {H : Heap} (x0_0 : Value) (x0_1 : Value) (x0_2 : Value) (h : F123 x0_0 x0_1 x0_2 R H) : HCalls Try.prog 123 #[Value.agg #[x0_0, x0_1, x0_2]] H R :=
  calls_by .leaf Try.func123 rfl (F123_eq x0_0 x0_1 x0_2 R H) h
/-- bollard/bollardref05.Has -/
def F124 (x0a : Option Addr) (x0n : Nat) (x0c : Nat) (x1 : Int) (R : Ending → Heap → Prop) (H : Heap) : Prop :=
  sB (decide (x1 ≥ 0)) (ask ((8 : Int) ≠ (0 : Int)) (wr IntKind.i64 (Int.tdiv x1 8) (fun n1 =>
  sB (decide (n1 < (↑x0n : Int))) (ask ((8 : Int) ≠ (0 : Int)) (wr IntKind.i64 (Int.tdiv x1 8) (fun n2 =>
  nz x0a (fun a3 =>
  ask ((0 : Int) ≤ n2 ∧ n2 < (↑x0n : Int)) (ld H (Addr.add a3 (Int.toNat n2 * 1)) (fun v4 =>
  dInt IntKind.u8 v4 (fun n5 =>
  ask ((8 : Int) ≠ (0 : Int)) (nm (Int.tmod x1 8) (fun n6 =>
  ask ((0 : Int) ≤ n6) (nm (Int.fdiv n5 (2 ^ min (Int.toNat n6) 8)) (fun n7 =>
  ask ((2 : Int) ≠ (0 : Int)) (nm (Int.tmod n7 2) (fun n8 =>
  R (Ending.returned (Value.bool (n8 == 1))) H))))))))))))) (R (Ending.returned (Value.bool false)) H)))) (R (Ending.returned (Value.bool false)) H)
theorem F124_eq (x0a : Option Addr) (x0n : Nat) (x0c : Nat) (x1 : Int) (R : Ending → Heap → Prop) (H : Heap) : F124 x0a x0n x0c x1 R H = vc Try.prog (codeOf Try.f124) .leaf (postV Try.prog Try.f124 R) ⟨#[Value.slice x0a x0n x0c, Value.int IntKind.i64 x1] ++ Array.replicate (Try.f124.ntmps - 2) undef, []⟩ H := by kernel_rfl
theorem F124_calls {R : Ending → Heap → Prop} {H : Heap} (x0a : Option Addr) (x0n : Nat) (x0c : Nat) (x1 : Int) (h : F124 x0a x0n x0c x1 R H) : HCalls Try.prog 124 #[Value.slice x0a x0n x0c, Value.int IntKind.i64 x1] H R :=
  calls_by .leaf Try.func124 rfl (F124_eq x0a x0n x0c x1 R H) h
/-- bollard/bollardref03.address -/
def F125 (x0 : Int) (R : Ending → Heap → Prop) (H : Heap) : Prop :=
  sB (decide (x0 ≥ 0)) (R (Ending.returned (Value.bool (decide (x0 < 2048)))) H) (R (Ending.returned (Value.bool false)) H)
theorem F125_eq (x0 : Int) (R : Ending → Heap → Prop) (H : Heap) : F125 x0 R H = vc Try.prog (codeOf Try.f125) .leaf (postV Try.prog Try.f125 R) ⟨#[Value.int IntKind.i64 x0] ++ Array.replicate (Try.f125.ntmps - 1) undef, []⟩ H := by kernel_rfl
theorem F125_calls {R : Ending → Heap → Prop} {H : Heap} (x0 : Int) (h : F125 x0 R H) : HCalls Try.prog 125 #[Value.int IntKind.i64 x0] H R :=
  calls_by .leaf Try.func125 rfl (F125_eq x0 R H) h
/-- bollard/bollardref01.Put -/
def F126 (x0a : Option Addr) (x0n : Nat) (x0c : Nat) (x1 : Int) (x2 : Int) (x3 : Int) (R : Ending → Heap → Prop) (H : Heap) : Prop :=
  jn (α := VFH 1) (fun v1 H2 =>
  ∀ v3 v4 v5 v6 v7 v8 v9 v10 v11 v12 v13 v14 v15 v16 v17 v18 v19 v20 v21 v22 : Value,
  dBl v1 (fun b23 =>
  sB b23 (R (Ending.returned (Value.tuple #[Value.slice none 0 0, Value.int IntKind.i64 1])) H2) (wr IntKind.i64 ((↑x0n : Int) - x2) (fun n24 =>
  sB (decide (x1 > n24)) (R (Ending.returned (Value.tuple #[Value.slice none 0 0, Value.int IntKind.i64 10])) H2) (al H2 (Obj.cells #[] 5) (fun r25 H26 =>
  semW Try.prog (Builtin.append_ #[48, 48] 48 #[Value.slice (some (Addr.mk r25 0 none)) 0 0, Value.slice x0a x0n x0c]) (pnR R) H26 (fun v29 H30 =>
  dSl v29 (fun p31 r32 r33 =>
  ∃ I34 : List Value → Heap → Prop,
  ∃ I35 : List Value → Heap → Nat,
  (I34 ([Value.int IntKind.i64 x3, Value.int IntKind.i64 0]) H30) ∧
  ∀ n36 : Int,
  ∀ n37 : Int,
  ∀ v38 v39 v40 v41 v42 v43 v44 v45 v46 v47 v48 v49 v50 v51 : Value,
  ∀ H52 : Heap,
  (I34 ([Value.int IntKind.i64 n36, Value.int IntKind.i64 n37]) H52) →
  sB (decide (n37 < x2)) (wr IntKind.i64 (x1 + n37) (fun n54 =>
  ask ((256 : Int) ≠ (0 : Int)) (nm (Int.tmod n36 256) (fun n55 =>
  wr IntKind.u8 n55 (fun n56 =>
  nz p31 (fun a57 =>
  ask ((0 : Int) ≤ n54 ∧ n54 < (↑r32 : Int)) (st H52 (Addr.add a57 (Int.toNat n54 * 1)) (Value.int IntKind.u8 n56) (fun H58 =>
  ask ((256 : Int) ≠ (0 : Int)) (wr IntKind.i64 (Int.tdiv n36 256) (fun n59 =>
  wr IntKind.i64 (n37 + 1) (fun n60 =>
  (I34 ([Value.int IntKind.i64 n59, Value.int IntKind.i64 n60]) H58) ∧
  (I35 [Value.int IntKind.i64 n59, Value.int IntKind.i64 n60] H58) < (I35 [Value.int IntKind.i64 n36, Value.int IntKind.i64 n37] H52)))))))))))) (R (Ending.returned (Value.tuple #[Value.slice p31 r32 r33, Value.int IntKind.i64 0])) H52))))))))) (fun k61 =>
  sB (decide (x2 < 1)) (k61 (Value.bool true) H) (sB (decide (x2 > 4)) (k61 (Value.bool true) H) (sB (decide (x1 < 0)) (k61 (Value.bool true) H) (sB (decide (x3 < 0)) (k61 (Value.bool true) H) (wr IntKind.i64 (8 * x2) (fun n62 =>
  ask ((0 : Int) ≤ n62) (nm (IntKind.wrap IntKind.i64 (1 * 2 ^ min (Int.toNat n62) 64)) (fun n63 =>
  k61 (Value.bool (decide (x3 ≥ n63))) H))))))))
theorem F126_eq (x0a : Option Addr) (x0n : Nat) (x0c : Nat) (x1 : Int) (x2 : Int) (x3 : Int) (R : Ending → Heap → Prop) (H : Heap) : F126 x0a x0n x0c x1 x2 x3 R H = vc Try.prog (codeOf Try.f126) (.node none .leaf (.node none (.node (some ⟨[(32, 4)], [12, 13, 14, 15, 16, 17, 18, 19, 20, 21, 22, 23, 24, 25, 26, 27, 28, 29, 30, 31]⟩) .leaf .leaf) (.node none .leaf (.node none .leaf (.node none (.node none .leaf (.node none (.node (some ⟨[(3, 3), (43, 3)], [11, 44, 45, 46, 47, 48, 49, 50, 51, 52, 53, 54, 55, 56]⟩) .leaf .leaf) .leaf)) .leaf))))) (postV Try.prog Try.f126 R) ⟨#[Value.slice x0a x0n x0c, Value.int IntKind.i64 x1, Value.int IntKind.i64 x2, Value.int IntKind.i64 x3] ++ Array.replicate (Try.f126.ntmps - 4) undef, []⟩ H := by kernel_rfl
theorem F126_calls {R : Ending → Heap → Prop} {H : Heap} (x0a : Option Addr) (x0n : Nat) (x0c : Nat) (x1 : Int) (x2 : Int) (x3 : Int) (h : F126 x0a x0n x0c x1 x2 x3 R H) : HCalls Try.prog 126 #[Value.slice x0a x0n x0c, Value.int IntKind.i64 x1, Value.int IntKind.i64 x2, Value.int IntKind.i64 x3] H R :=
  calls_by (.node none .leaf (.node none (.node (some ⟨[(32, 4)], [12, 13, 14, 15, 16, 17, 18, 19, 20, 21, 22, 23, 24, 25, 26, 27, 28, 29, 30, 31]⟩) .leaf .leaf) (.node none .leaf (.node none .leaf (.node none (.node none .leaf (.node none (.node (some ⟨[(3, 3), (43, 3)], [11, 44, 45, 46, 47, 48, 49, 50, 51, 52, 53, 54, 55, 56]⟩) .leaf .leaf) .leaf)) .leaf))))) Try.func126 rfl (F126_eq x0a x0n x0c x1 x2 x3 R H) h
/-- bollard/bollardref01.Sum -/
def F127 (x0a : Option Addr) (x0n : Nat) (x0c : Nat) (R : Ending → Heap → Prop) (H : Heap) : Prop :=
  ∃ I1 : List Value → Heap → Prop,
  ∃ I2 : List Value → Heap → Nat,
  (I1 ([Value.int IntKind.i64 1, Value.int IntKind.i64 0, Value.int IntKind.i64 0]) H) ∧
  ∀ n3 : Int,
  ∀ n4 : Int,
  ∀ n5 : Int,
  ∀ v6 v7 v8 v9 v10 v11 v12 v13 v14 v15 v16 v17 v18 v19 : Value,
  ∀ H20 : Heap,
  (I1 ([Value.int IntKind.i64 n3, Value.int IntKind.i64 n4, Value.int IntKind.i64 n5]) H20) →
  sB (decide (n5 < (↑x0n : Int))) (nz x0a (fun a22 =>
  ask ((0 : Int) ≤ n5 ∧ n5 < (↑x0n : Int)) (ld H20 (Addr.add a22 (Int.toNat n5 * 1)) (fun v23 =>
  dInt IntKind.u8 v23 (fun n24 =>
  wr IntKind.i64 n24 (fun n25 =>
  wr IntKind.i64 (n3 + n25) (fun n26 =>
  ask ((65521 : Int) ≠ (0 : Int)) (nm (Int.tmod n26 65521) (fun n27 =>
  wr IntKind.i64 (n4 + n27) (fun n28 =>
  ask ((65521 : Int) ≠ (0 : Int)) (nm (Int.tmod n28 65521) (fun n29 =>
  wr IntKind.i64 (n5 + 1) (fun n30 =>
  (I1 ([Value.int IntKind.i64 n27, Value.int IntKind.i64 n29, Value.int IntKind.i64 n30]) H20) ∧
  (I2 [Value.int IntKind.i64 n27, Value.int IntKind.i64 n29, Value.int IntKind.i64 n30] H20) < (I2 [Value.int IntKind.i64 n3, Value.int IntKind.i64 n4, Value.int IntKind.i64 n5] H20)))))))))))))) (wr IntKind.i64 (n4 * 65536) (fun n31 =>
  wr IntKind.i64 (n31 + n3) (fun n32 =>
  R (Ending.returned (Value.int IntKind.i64 n32)) H20)))
theorem F127_eq (x0a : Option Addr) (x0n : Nat) (x0c : Nat) (R : Ending → Heap → Prop) (H : Heap) : F127 x0a x0n x0c R H = vc Try.prog (codeOf Try.f127) (.node none .leaf (.node none .leaf (.node none (.node none .leaf (.node none (.node (some ⟨[(3, 3), (4, 3), (9, 3)], [6, 10, 11, 12, 13, 14, 15, 16, 17, 18, 19, 20, 21, 22]⟩) .leaf .leaf) .leaf)) .leaf))) (postV Try.prog Try.f127 R) ⟨#[Value.slice x0a x0n x0c] ++ Array.replicate (Try.f127.ntmps - 1) undef, []⟩ H := by kernel_rfl
theorem F127_calls {R : Ending → Heap → Prop} {H : Heap} (x0a : Option Addr) (x0n : Nat) (x0c : Nat) (h : F127 x0a x0n x0c R H) : HCalls Try.prog 127 #[Value.slice x0a x0n x0c] H R :=
  calls_by (.node none .leaf (.node none .leaf (.node none (.node none .leaf (.node none (.node (some ⟨[(3, 3), (4, 3), (9, 3)], [6, 10, 11, 12, 13, 14, 15, 16, 17, 18, 19, 20, 21, 22]⟩) .leaf .leaf) .leaf)) .leaf))) Try.func127 rfl (F127_eq x0a x0n x0c R H) h
/-- bollard/bollardref03.IsName -/
def F128 (x0 : ByteArray) (R : Ending → Heap → Prop) (H : Heap) : Prop :=
  jn (α := VFH 1) (fun v1 H2 =>
  ∀ v3 v4 v5 v6 v7 v8 v9 v10 v11 v12 v13 v14 v15 v16 : Value,
  dBl v1 (fun b17 =>
  sB b17 (R (Ending.returned (Value.bool false)) H2) (∃ I18 : List Value → Heap → Prop,
  ∃ I19 : List Value → Heap → Nat,
  (I18 ([Value.int IntKind.i64 0]) H2) ∧
  ∀ n20 : Int,
  ∀ v21 v22 v23 v24 v25 v26 v27 v28 v29 v30 v31 v32 v33 v34 v35 v36 v37 v38 v39 v40 v41 v42 v43 : Value,
  ∀ H44 : Heap,
  (I18 ([Value.int IntKind.i64 n20]) H44) →
  sB (decide (n20 < (↑(ByteArray.size x0) : Int))) (jn (α := VFH 1) (fun v46 H47 =>
  ∀ v48 v49 v50 v51 v52 v53 v54 v55 v56 v57 v58 v59 v60 v61 v62 : Value,
  dBl v46 (fun b63 =>
  sB b63 (R (Ending.returned (Value.bool false)) H47) (wr IntKind.i64 (n20 + 1) (fun n64 =>
  (I18 ([Value.int IntKind.i64 n64]) H47) ∧
  (I19 [Value.int IntKind.i64 n64] H47) < (I19 [Value.int IntKind.i64 n20] H44))))) (fun k65 =>
  ask ((0 : Int) ≤ n20 ∧ n20 < (↑(ByteArray.size x0) : Int)) (sB (decide (byteAt x0 (Int.toNat n20) < 33)) (k65 (Value.bool true) H44) (ask ((0 : Int) ≤ n20 ∧ n20 < (↑(ByteArray.size x0) : Int)) (sB (decide (byteAt x0 (Int.toNat n20) > 126)) (k65 (Value.bool true) H44) (ask ((0 : Int) ≤ n20 ∧ n20 < (↑(ByteArray.size x0) : Int)) (k65 (Value.bool (byteAt x0 (Int.toNat n20) == 47)) H44))))))) (R (Ending.returned (Value.bool true)) H44)))) (fun k66 =>
  sB (ByteArray.toList x0 == []) (k66 (Value.bool true) H) (sB (decide ((↑(ByteArray.size x0) : Int) > 13)) (k66 (Value.bool true) H) (sB (ByteArray.toList x0 == [UInt8.ofBitVec 46#8]) (k66 (Value.bool true) H) (k66 (Value.bool (ByteArray.toList x0 == [UInt8.ofBitVec 46#8, UInt8.ofBitVec 46#8])) H))))
theorem F128_eq (x0 : ByteArray) (R : Ending → Heap → Prop) (H : Heap) : F128 x0 R H = vc Try.prog (codeOf Try.f128) (.node none .leaf (.node none (.node (some ⟨[(18, 4)], [4, 5, 6, 7, 8, 9, 10, 11, 12, 13, 14, 15, 16, 17]⟩) .leaf .leaf) (.node none (.node none .leaf (.node none (.node (some ⟨[(3, 3)], [2, 19, 20, 21, 22, 23, 24, 25, 26, 27, 28, 29, 30, 31, 32, 33, 34, 35, 36, 37, 38, 39, 40]⟩) (.node none .leaf (.node none (.node none (.node (some ⟨[(40, 4)], [25, 26, 27, 28, 29, 30, 31, 32, 33, 34, 35, 36, 37, 38, 39]⟩) .leaf .leaf) .leaf) .leaf)) .leaf) .leaf)) .leaf))) (postV Try.prog Try.f128 R) ⟨#[Value.string x0] ++ Array.replicate (Try.f128.ntmps - 1) undef, []⟩ H := by kernel_rfl
theorem F128_calls {R : Ending → Heap → Prop} {H : Heap} (x0 : ByteArray) (h : F128 x0 R H) : HCalls Try.prog 128 #[Value.string x0] H R :=
  calls_by (.node none .leaf (.node none (.node (some ⟨[(18, 4)], [4, 5, 6, 7, 8, 9, 10, 11, 12, 13, 14, 15, 16, 17]⟩) .leaf .leaf) (.node none (.node none .leaf (.node none (.node (some ⟨[(3, 3)], [2, 19, 20, 21, 22, 23, 24, 25, 26, 27, 28, 29, 30, 31, 32, 33, 34, 35, 36, 37, 38, 39, 40]⟩) (.node none .leaf (.node none (.node none (.node (some ⟨[(40, 4)], [25, 26, 27, 28, 29, 30, 31, 32, 33, 34, 35, 36, 37, 38, 39]⟩) .leaf .leaf) .leaf) .leaf)) .leaf) .leaf)) .leaf))) Try.func128 rfl (F128_eq x0 R H) h
/-- slices.IndexFunc[[]bollard/api.Sent,bollard/api.Sent] -/
def F129 (x0a : Option Addr) (x0n : Nat) (x0c : Nat) (x1g : Nat) (x1f : Array Value) (x1c : Array Value) (R : Ending → Heap → Prop) (H : Heap) : Prop :=
  ∃ I1 : List Value → Heap → Prop,
  ∃ I2 : List Value → Heap → Nat,
  (I1 ([Value.int IntKind.i64 0]) H) ∧
  ∀ n3 : Int,
  ∀ v4 v5 v6 v7 v8 v9 v10 v11 v12 v13 v14 v15 : Value,
  ∀ H16 : Heap,
  (I1 ([Value.int IntKind.i64 n3]) H16) →
  sB (decide (n3 < (↑x0n : Int))) (nz x0a (fun a18 =>
  ask ((0 : Int) ≤ n3 ∧ n3 < (↑x0n : Int)) (ld H16 (Addr.add a18 (Int.toNat n3 * 3)) (fun v19 =>
  ld H16 (Addr.add (Addr.add a18 (Int.toNat n3 * 3)) 1) (fun v20 =>
  ld H16 (Addr.add (Addr.add a18 (Int.toNat n3 * 3)) 2) (fun v21 =>
  gB (plainFn Try.prog x1g) (HCalls Try.prog x1g (argsOf x1f [Value.agg #[v19, v20, v21]] x1c) H16 (Sp.retK (fun v22 H23 =>
  dBl v22 (fun b24 =>
  sB b24 (R (Ending.returned (Value.int IntKind.i64 n3)) H23) (wr IntKind.i64 (n3 + 1) (fun n25 =>
  (I1 ([Value.int IntKind.i64 n25]) H23) ∧
  (I2 [Value.int IntKind.i64 n25] H23) < (I2 [Value.int IntKind.i64 n3] H16))))) (pnR R))))))))) (R (Ending.returned (Value.int IntKind.i64 (-1))) H16)
theorem F129_eq (x0a : Option Addr) (x0n : Nat) (x0c : Nat) (x1g : Nat) (x1f : Array Value) (x1c : Array Value) (R : Ending → Heap → Prop) (H : Heap) : F129 x0a x0n x0c x1g x1f x1c R H = vc Try.prog (codeOf Try.f129) (.node none .leaf (.node none (.node none .leaf (.node none (.node (some ⟨[(8, 3)], [4, 5, 9, 10, 11, 12, 13, 14, 15, 16, 17, 18]⟩) .leaf .leaf) .leaf)) .leaf)) (postV Try.prog Try.f129 R) ⟨#[Value.slice x0a x0n x0c, Value.func (Fn.func x1g) x1f x1c] ++ Array.replicate (Try.f129.ntmps - 2) undef, []⟩ H := by kernel_rfl
theorem F129_calls {R : Ending → Heap → Prop} {H : Heap} (x0a : Option Addr) (x0n : Nat) (x0c : Nat) (x1g : Nat) (x1f : Array Value) (x1c : Array Value) (h : F129 x0a x0n x0c x1g x1f x1c R H) : HCalls Try.prog 129 #[Value.slice x0a x0n x0c, Value.func (Fn.func x1g) x1f x1c] H R :=
  calls_by (.node none .leaf (.node none (.node none .leaf (.node none (.node (some ⟨[(8, 3)], [4, 5, 9, 10, 11, 12, 13, 14, 15, 16, 17, 18]⟩) .leaf .leaf) .leaf)) .leaf)) Try.func129 rfl (F129_eq x0a x0n x0c x1g x1f x1c R H) h
/-- (*bollard/disk.Disk).place$1 -/
def F130 (x0_0 : Value) (x0_1 : Value) (x0_2 : Value) (f0 : Addr) (R : Ending → Heap → Prop) (H : Heap) : Prop :=
  al H (Obj.cells #[x0_0, x0_1, x0_2] 149) (fun r1 H2 =>
  ld H2 (Addr.mk r1 0 none) (fun v3 =>
  dInt IntKind.i64 v3 (fun n4 =>
  ld H2 f0 (fun v5 =>
  dInt IntKind.i64 v5 (fun n6 =>
  R (Ending.returned (Value.bool (n4 == n6))) H2)))))
theorem F130_eq (x0_0 : Value) (x0_1 : Value) (x0_2 : Value) (f0 : Addr) (R : Ending → Heap → Prop) (H : Heap) : F130 x0_0 x0_1 x0_2 f0 R H = vc Try.prog (codeOf Try.f130) .leaf (postV Try.prog Try.f130 R) ⟨#[Value.agg #[x0_0, x0_1, x0_2], Value.pointer (some f0)] ++ Array.replicate (Try.f130.ntmps - 2) undef, []⟩ H := by kernel_rfl
theorem F130_calls {R : Ending → Heap → Prop} {H : Heap} (x0_0 : Value) (x0_1 : Value) (x0_2 : Value) (f0 : Addr) (h : F130 x0_0 x0_1 x0_2 f0 R H) : HCalls Try.prog 130 #[Value.agg #[x0_0, x0_1, x0_2], Value.pointer (some f0)] H R :=
  calls_by .leaf Try.func130 rfl (F130_eq x0_0 x0_1 x0_2 f0 R H) h
/-- (*bollard/cache.Cache).victim -/
def F131 (x0 : Option Addr) (R : Ending → Heap → Prop) (H : Heap) : Prop :=
  HCalls Try.prog 27 #[Value.pointer x0] H (Sp.retK (fun v1 H2 =>
  dSl v1 (fun p3 r4 r5 =>
  ∃ I6 : List Value → Heap → Prop,
  ∃ I7 : List Value → Heap → Nat,
  (I6 ([Value.int IntKind.i64 0]) H2) ∧
  ∀ n8 : Int,
  ∀ v9 v10 v11 v12 v13 v14 v15 v16 v17 v18 v19 v20 v21 v22 v23 v24 v25 v26 : Value,
  ∀ H27 : Heap,
  (I6 ([Value.int IntKind.i64 n8]) H27) →
  sB (decide (n8 < (↑r4 : Int))) (nz p3 (fun a29 =>
  ask ((0 : Int) ≤ n8 ∧ n8 < (↑r4 : Int)) (ld H27 (Addr.add a29 (Int.toNat n8 * 1)) (fun v30 =>
  dInt IntKind.i64 v30 (fun n31 =>
  nz x0 (fun a32 =>
  ld H27 (Addr.add a32 2) (fun v33 =>
  dMap v33 (fun p34 =>
  semW Try.prog (Instr.lookup 69 (Value.map p34) (Value.int IntKind.i64 n31) false) (pnR R) H27 (fun v37 H38 =>
  dPtr v37 (fun p39 =>
  nz p39 (fun a40 =>
  ld H38 (Addr.add a40 1) (fun v41 =>
  dInt IntKind.i64 v41 (fun n42 =>
  sB (n42 == 0) (R (Ending.returned (Value.tuple #[Value.int IntKind.i64 n31, Value.bool true])) H38) (wr IntKind.i64 (n8 + 1) (fun n43 =>
  (I6 ([Value.int IntKind.i64 n43]) H38) ∧
  (I7 [Value.int IntKind.i64 n43] H38) < (I7 [Value.int IntKind.i64 n8] H27)))))))))))))))) (R (Ending.returned (Value.tuple #[Value.int IntKind.i64 0, Value.bool false])) H27))) (pnR R))
theorem F131_eq (x0 : Option Addr) (R : Ending → Heap → Prop) (H : Heap) : F131 x0 R H = vc Try.prog (codeOf Try.f131) (.node none .leaf (.node none (.node none .leaf (.node none (.node (some ⟨[(9, 3)], [2, 3, 5, 10, 11, 12, 13, 14, 15, 16, 17, 18, 19, 20, 21, 22, 23, 24]⟩) .leaf .leaf) .leaf)) .leaf)) (postV Try.prog Try.f131 R) ⟨#[Value.pointer x0] ++ Array.replicate (Try.f131.ntmps - 1) undef, []⟩ H := by kernel_rfl
theorem F131_calls {R : Ending → Heap → Prop} {H : Heap} (x0 : Option Addr) (h : F131 x0 R H) : HCalls Try.prog 131 #[Value.pointer x0] H R :=
  calls_by (.node none .leaf (.node none (.node none .leaf (.node none (.node (some ⟨[(9, 3)], [2, 3, 5, 10, 11, 12, 13, 14, 15, 16, 17, 18, 19, 20, 21, 22, 23, 24]⟩) .leaf .leaf) .leaf)) .leaf)) Try.func131 rfl (F131_eq x0 R H) h
/-- slices.AppendSeq[[]int,int] -/
def F132 (x0a : Option Addr) (x0n : Nat) (x0c : Nat) (x1g : Nat) (x1f : Array Value) (x1c : Array Value) (R : Ending → Heap → Prop) (H : Heap) : Prop :=
  al H (Obj.cells #[Value.slice x0a x0n x0c] 26) (fun r1 H2 =>
  False)
theorem F132_eq (x0a : Option Addr) (x0n : Nat) (x0c : Nat) (x1g : Nat) (x1f : Array Value) (x1c : Array Value) (R : Ending → Heap → Prop) (H : Heap) : F132 x0a x0n x0c x1g x1f x1c R H = vc Try.prog (codeOf Try.f132) .leaf (postV Try.prog Try.f132 R) ⟨#[Value.slice x0a x0n x0c, Value.func (Fn.func x1g) x1f x1c] ++ Array.replicate (Try.f132.ntmps - 2) undef, []⟩ H := by kernel_rfl
theorem F132_calls {R : Ending → Heap → Prop} {H : Heap} (x0a : Option Addr) (x0n : Nat) (x0c : Nat) (x1g : Nat) (x1f : Array Value) (x1c : Array Value) (h : F132 x0a x0n x0c x1g x1f x1c R H) : HCalls Try.prog 132 #[Value.slice x0a x0n x0c, Value.func (Fn.func x1g) x1f x1c] H R :=
  calls_by .leaf Try.func132 rfl (F132_eq x0a x0n x0c x1g x1f x1c R H) h
/-- slices.siftDownOrdered[int] -/
def F134 (x0a : Option Addr) (x0n : Nat) (x0c : Nat) (x1 : Int) (x2 : Int) (x3 : Int) (R : Ending → Heap → Prop) (H : Heap) : Prop :=
  ∃ I1 : List Value → Heap → Prop,
  ∃ I2 : List Value → Heap → Nat,
  (I1 ([Value.int IntKind.i64 x1]) H) ∧
  ∀ n3 : Int,
  ∀ v4 v5 v6 v7 v8 v9 v10 v11 v12 v13 v14 v15 v16 v17 v18 v19 v20 v21 v22 v23 v24 v25 v26 v27 v28 v29 v30 v31 v32 v33 v34 v35 v36 v37 v38 v39 v40 v41 v42 v43 v44 v45 v46 v47 v48 v49 v50 v51 v52 v53 v54 v55 v56 v57 v58 v59 v60 v61 v62 v63 v64 v65 v66 v67 v68 v69 : Value,
  ∀ H70 : Heap,
  (I1 ([Value.int IntKind.i64 n3]) H70) →
  wr IntKind.i64 (2 * n3) (fun n72 =>
  wr IntKind.i64 (n72 + 1) (fun n73 =>
  sB (decide (n73 ≥ x2)) (R (Ending.returned (Value.tuple #[])) H70) (jn (α := VFH 1) (fun v74 H75 =>
  ∀ v76 v77 v78 v79 v80 v81 v82 v83 v84 v85 v86 v87 v88 v89 v90 v91 v92 v93 v94 v95 v96 v97 : Value,
  dInt IntKind.i64 v74 (fun n98 =>
  wr IntKind.i64 (x3 + n3) (fun n99 =>
  nz x0a (fun a100 =>
  ask ((0 : Int) ≤ n99 ∧ n99 < (↑x0n : Int)) (ld H75 (Addr.add a100 (Int.toNat n99 * 1)) (fun v101 =>
  dInt IntKind.i64 v101 (fun n102 =>
  wr IntKind.i64 (x3 + n98) (fun n103 =>
  nz x0a (fun a104 =>
  ask ((0 : Int) ≤ n103 ∧ n103 < (↑x0n : Int)) (ld H75 (Addr.add a104 (Int.toNat n103 * 1)) (fun v105 =>
  dInt IntKind.i64 v105 (fun n106 =>
  HCalls Try.prog 114 #[Value.int IntKind.i64 n102, Value.int IntKind.i64 n106] H75 (Sp.retK (fun v107 H108 =>
  dBl v107 (fun b109 =>
  sB (!b109) (R (Ending.returned (Value.tuple #[])) H108) (wr IntKind.i64 (x3 + n3) (fun n110 =>
  wr IntKind.i64 (x3 + n98) (fun n111 =>
  wr IntKind.i64 (x3 + n98) (fun n112 =>
  nz x0a (fun a113 =>
  ask ((0 : Int) ≤ n112 ∧ n112 < (↑x0n : Int)) (ld H108 (Addr.add a113 (Int.toNat n112 * 1)) (fun v114 =>
  dInt IntKind.i64 v114 (fun n115 =>
  wr IntKind.i64 (x3 + n3) (fun n116 =>
  nz x0a (fun a117 =>
  ask ((0 : Int) ≤ n116 ∧ n116 < (↑x0n : Int)) (ld H108 (Addr.add a117 (Int.toNat n116 * 1)) (fun v118 =>
  dInt IntKind.i64 v118 (fun n119 =>
  nz x0a (fun a120 =>
  ask ((0 : Int) ≤ n110 ∧ n110 < (↑x0n : Int)) (st H108 (Addr.add a120 (Int.toNat n110 * 1)) (Value.int IntKind.i64 n115) (fun H121 =>
  nz x0a (fun a122 =>
  ask ((0 : Int) ≤ n111 ∧ n111 < (↑x0n : Int)) (st H121 (Addr.add a122 (Int.toNat n111 * 1)) (Value.int IntKind.i64 n119) (fun H123 =>
  (I1 ([Value.int IntKind.i64 n98]) H123) ∧
  (I2 [Value.int IntKind.i64 n98] H123) < (I2 [Value.int IntKind.i64 n3] H70)))))))))))))))))))))) nopR))))))))))))) (fun k126 =>
  jn (α := VFH 1) (fun v127 H128 =>
  ∀ v129 v130 v131 v132 v133 v134 v135 v136 v137 v138 v139 v140 v141 v142 v143 v144 v145 v146 v147 : Value,
  dBl v127 (fun b148 =>
  sB b148 (wr IntKind.i64 (n73 + 1) (fun n149 =>
  k126 (Value.int IntKind.i64 n149) H128)) (k126 (Value.int IntKind.i64 n73) H128))) (fun k150 =>
  wr IntKind.i64 (n73 + 1) (fun n151 =>
  sB (decide (n151 < x2)) (wr IntKind.i64 (x3 + n73) (fun n152 =>
  nz x0a (fun a153 =>
  ask ((0 : Int) ≤ n152 ∧ n152 < (↑x0n : Int)) (ld H70 (Addr.add a153 (Int.toNat n152 * 1)) (fun v154 =>
  dInt IntKind.i64 v154 (fun n155 =>
  wr IntKind.i64 (x3 + n73) (fun n156 =>
  wr IntKind.i64 (n156 + 1) (fun n157 =>
  nz x0a (fun a158 =>
  ask ((0 : Int) ≤ n157 ∧ n157 < (↑x0n : Int)) (ld H70 (Addr.add a158 (Int.toNat n157 * 1)) (fun v159 =>
  dInt IntKind.i64 v159 (fun n160 =>
  HCalls Try.prog 114 #[Value.int IntKind.i64 n155, Value.int IntKind.i64 n160] H70 (Sp.retK (fun v161 H162 =>
  dBl v161 (fun b163 =>
  k150 (Value.bool b163) H162)) nopR))))))))))))) (k150 (Value.bool false) H70)))))))
theorem F134_eq (x0a : Option Addr) (x0n : Nat) (x0c : Nat) (x1 : Int) (x2 : Int) (x3 : Int) (R : Ending → Heap → Prop) (H : Heap) : F134 x0a x0n x0c x1 x2 x3 R H = vc Try.prog (codeOf Try.f134) (.node none .leaf (.node none (.node (some ⟨[(8, 3)], [9, 11, 12, 13, 14, 15, 16, 17, 18, 19, 20, 21, 22, 23, 24, 25, 26, 27, 28, 29, 30, 31, 32, 33, 34, 35, 36, 37, 38, 39, 40, 41, 42, 43, 44, 45, 46, 47, 48, 49, 50, 51, 52, 53, 54, 55, 56, 57, 58, 59, 60, 61, 62, 63, 64, 65, 66, 67, 68, 69, 70, 71, 72, 73, 74, 75]⟩) (.node none (.node none .leaf (.node none .leaf (.node (some ⟨[(9, 3)], [17, 18, 19, 20, 21, 22, 23, 24, 25, 26, 27, 28, 29, 30, 31, 32, 33, 34, 35, 36, 37, 38]⟩) (.node (some ⟨[(36, 4)], [17, 18, 19, 20, 21, 22, 23, 24, 25, 26, 27, 28, 29, 30, 31, 32, 33, 34, 35]⟩) .leaf .leaf) .leaf))) .leaf) .leaf) .leaf)) (postV Try.prog Try.f134 R) ⟨#[Value.slice x0a x0n x0c, Value.int IntKind.i64 x1, Value.int IntKind.i64 x2, Value.int IntKind.i64 x3] ++ Array.replicate (Try.f134.ntmps - 4) undef, []⟩ H := by kernel_rfl
theorem F134_calls {R : Ending → Heap → Prop} {H : Heap} (x0a : Option Addr) (x0n : Nat) (x0c : Nat) (x1 : Int) (x2 : Int) (x3 : Int) (h : F134 x0a x0n x0c x1 x2 x3 R H) : HCalls Try.prog 134 #[Value.slice x0a x0n x0c, Value.int IntKind.i64 x1, Value.int IntKind.i64 x2, Value.int IntKind.i64 x3] H R :=
  calls_by (.node none .leaf (.node none (.node (some ⟨[(8, 3)], [9, 11, 12, 13, 14, 15, 16, 17, 18, 19, 20, 21, 22, 23, 24, 25, 26, 27, 28, 29, 30, 31, 32, 33, 34, 35, 36, 37, 38, 39, 40, 41, 42, 43, 44, 45, 46, 47, 48, 49, 50, 51, 52, 53, 54, 55, 56, 57, 58, 59, 60, 61, 62, 63, 64, 65, 66, 67, 68, 69, 70, 71, 72, 73, 74, 75]⟩) (.node none (.node none .leaf (.node none .leaf (.node (some ⟨[(9, 3)], [17, 18, 19, 20, 21, 22, 23, 24, 25, 26, 27, 28, 29, 30, 31, 32, 33, 34, 35, 36, 37, 38]⟩) (.node (some ⟨[(36, 4)], [17, 18, 19, 20, 21, 22, 23, 24, 25, 26, 27, 28, 29, 30, 31, 32, 33, 34, 35]⟩) .leaf .leaf) .leaf))) .leaf) .leaf) .leaf)) Try.func134 rfl (F134_eq x0a x0n x0c x1 x2 x3 R H) h
/-- slices.nextPowerOfTwo -/
def F135 (x0 : Int) (R : Ending → Heap → Prop) (H : Heap) : Prop :=
  wr IntKind.u64 x0 (fun n1 =>
  HCalls Try.prog 74 #[Value.int IntKind.u64 n1] H (Sp.retK (fun v2 H3 =>
  dInt IntKind.i64 v2 (fun n4 =>
  ask ((0 : Int) ≤ n4) (nm (IntKind.wrap IntKind.u64 (1 * 2 ^ min (Int.toNat n4) 64)) (fun n5 =>
  R (Ending.returned (Value.int IntKind.u64 n5)) H3)))) (pnR R)))
theorem F135_eq (x0 : Int) (R : Ending → Heap → Prop) (H : Heap) : F135 x0 R H = vc Try.prog (codeOf Try.f135) .leaf (postV Try.prog Try.f135 R) ⟨#[Value.int IntKind.i64 x0] ++ Array.replicate (Try.f135.ntmps - 1) undef, []⟩ H := by kernel_rfl
theorem F135_calls {R : Ending → Heap → Prop} {H : Heap} (x0 : Int) (h : F135 x0 R H) : HCalls Try.prog 135 #[Value.int IntKind.i64 x0] H R :=
  calls_by .leaf Try.func135 rfl (F135_eq x0 R H) h
/-- (*slices.xorshift).Next -/
def F136 (x0 : Option Addr) (R : Ending → Heap → Prop) (H : Heap) : Prop :=
  nz x0 (fun a1 =>
  ld H a1 (fun v2 =>
  dInt IntKind.u64 v2 (fun n3 =>
  nz x0 (fun a4 =>
  ld H a4 (fun v5 =>
  dInt IntKind.u64 v5 (fun n6 =>
  ask ((0 : Int) ≤ (13 : Int)) (nm (IntKind.wrap IntKind.u64 (n6 * 2 ^ min (Int.toNat 13) 64)) (fun n7 =>
  nm (IntKind.wrap IntKind.u64 (↑(BitVec.toNat (BitVec.ofInt 64 n3 ^^^ BitVec.ofInt 64 n7)) : Int)) (fun n8 =>
  nz x0 (fun a9 =>
  st H a9 (Value.int IntKind.u64 n8) (fun H10 =>
  nz x0 (fun a11 =>
  ld H10 a11 (fun v12 =>
  dInt IntKind.u64 v12 (fun n13 =>
  nz x0 (fun a14 =>
  ld H10 a14 (fun v15 =>
  dInt IntKind.u64 v15 (fun n16 =>
  ask ((0 : Int) ≤ (7 : Int)) (nm (Int.fdiv n16 (2 ^ min (Int.toNat 7) 64)) (fun n17 =>
  nm (IntKind.wrap IntKind.u64 (↑(BitVec.toNat (BitVec.ofInt 64 n13 ^^^ BitVec.ofInt 64 n17)) : Int)) (fun n18 =>
  nz x0 (fun a19 =>
  st H10 a19 (Value.int IntKind.u64 n18) (fun H20 =>
  nz x0 (fun a21 =>
  ld H20 a21 (fun v22 =>
  dInt IntKind.u64 v22 (fun n23 =>
  nz x0 (fun a24 =>
  ld H20 a24 (fun v25 =>
  dInt IntKind.u64 v25 (fun n26 =>
  ask ((0 : Int) ≤ (17 : Int)) (nm (IntKind.wrap IntKind.u64 (n26 * 2 ^ min (Int.toNat 17) 64)) (fun n27 =>
  nm (IntKind.wrap IntKind.u64 (↑(BitVec.toNat (BitVec.ofInt 64 n23 ^^^ BitVec.ofInt 64 n27)) : Int)) (fun n28 =>
  nz x0 (fun a29 =>
  st H20 a29 (Value.int IntKind.u64 n28) (fun H30 =>
  nz x0 (fun a31 =>
  ld H30 a31 (fun v32 =>
  dInt IntKind.u64 v32 (fun n33 =>
  R (Ending.returned (Value.int IntKind.u64 n33)) H30))))))))))))))))))))))))))))))))))))
theorem F136_eq (x0 : Option Addr) (R : Ending → Heap → Prop) (H : Heap) : F136 x0 R H = vc Try.prog (codeOf Try.f136) .leaf (postV Try.prog Try.f136 R) ⟨#[Value.pointer x0] ++ Array.replicate (Try.f136.ntmps - 1) undef, []⟩ H := by kernel_rfl
theorem F136_calls {R : Ending → Heap → Prop} {H : Heap} (x0 : Option Addr) (h : F136 x0 R H) : HCalls Try.prog 136 #[Value.pointer x0] H R :=
  calls_by .leaf Try.func136 rfl (F136_eq x0 R H) h
/-- slices.medianAdjacentOrdered[int] -/
def F137 (x0a : Option Addr) (x0n : Nat) (x0c : Nat) (x1 : Int) (x2 : Option Addr) (R : Ending → Heap → Prop) (H : Heap) : Prop :=
  wr IntKind.i64 (x1 - 1) (fun n1 =>
  wr IntKind.i64 (x1 + 1) (fun n2 =>
  HCalls Try.prog 138 #[Value.slice x0a x0n x0c, Value.int IntKind.i64 n1, Value.int IntKind.i64 x1, Value.int IntKind.i64 n2, Value.pointer x2] H (Sp.retK (fun v3 H4 =>
  dInt IntKind.i64 v3 (fun n5 =>
  R (Ending.returned (Value.int IntKind.i64 n5)) H4)) (pnR R))))
theorem F137_eq (x0a : Option Addr) (x0n : Nat) (x0c : Nat) (x1 : Int) (x2 : Option Addr) (R : Ending → Heap → Prop) (H : Heap) : F137 x0a x0n x0c x1 x2 R H = vc Try.prog (codeOf Try.f137) .leaf (postV Try.prog Try.f137 R) ⟨#[Value.slice x0a x0n x0c, Value.int IntKind.i64 x1, Value.pointer x2] ++ Array.replicate (Try.f137.ntmps - 3) undef, []⟩ H := by kernel_rfl
theorem F137_calls {R : Ending → Heap → Prop} {H : Heap} (x0a : Option Addr) (x0n : Nat) (x0c : Nat) (x1 : Int) (x2 : Option Addr) (h : F137 x0a x0n x0c x1 x2 R H) : HCalls Try.prog 137 #[Value.slice x0a x0n x0c, Value.int IntKind.i64 x1, Value.pointer x2] H R :=
  calls_by .leaf Try.func137 rfl (F137_eq x0a x0n x0c x1 x2 R H) h
/-- slices.medianOrdered[int] -/
def F138 (x0a : Option Addr) (x0n : Nat) (x0c : Nat) (x1 : Int) (x2 : Int) (x3 : Int) (x4 : Option Addr) (R : Ending → Heap → Prop) (H : Heap) : Prop :=
  HCalls Try.prog 149 #[Value.slice x0a x0n x0c, Value.int IntKind.i64 x1, Value.int IntKind.i64 x2, Value.pointer x4] H (Sp.retK (fun v1 H2 =>
  dT 2 v1 (fun v3 v4 =>
  dInt IntKind.i64 v3 (fun n5 =>
  dInt IntKind.i64 v4 (fun n6 =>
  HCalls Try.prog 149 #[Value.slice x0a x0n x0c, Value.int IntKind.i64 n6, Value.int IntKind.i64 x3, Value.pointer x4] H2 (Sp.retK (fun v7 H8 =>
  dT 2 v7 (fun v9 v10 =>
  dInt IntKind.i64 v9 (fun n11 =>
  dInt IntKind.i64 v10 (fun n12 =>
  HCalls Try.prog 149 #[Value.slice x0a x0n x0c, Value.int IntKind.i64 n5, Value.int IntKind.i64 n11, Value.pointer x4] H8 (Sp.retK (fun v13 H14 =>
  dT 2 v13 (fun v15 v16 =>
  dInt IntKind.i64 v15 (fun n17 =>
  dInt IntKind.i64 v16 (fun n18 =>
  R (Ending.returned (Value.int IntKind.i64 n18)) H14)))) (pnR R)))))) (pnR R)))))) (pnR R))
theorem F138_eq (x0a : Option Addr) (x0n : Nat) (x0c : Nat) (x1 : Int) (x2 : Int) (x3 : Int) (x4 : Option Addr) (R : Ending → Heap → Prop) (H : Heap) : F138 x0a x0n x0c x1 x2 x3 x4 R H = vc Try.prog (codeOf Try.f138) .leaf (postV Try.prog Try.f138 R) ⟨#[Value.slice x0a x0n x0c, Value.int IntKind.i64 x1, Value.int IntKind.i64 x2, Value.int IntKind.i64 x3, Value.pointer x4] ++ Array.replicate (Try.f138.ntmps - 5) undef, []⟩ H := by kernel_rfl
theorem F138_calls {R : Ending → Heap → Prop} {H : Heap} (x0a : Option Addr) (x0n : Nat) (x0c : Nat) (x1 : Int) (x2 : Int) (x3 : Int) (x4 : Option Addr) (h : F138 x0a x0n x0c x1 x2 x3 x4 R H) : HCalls Try.prog 138 #[Value.slice x0a x0n x0c, Value.int IntKind.i64 x1, Value.int IntKind.i64 x2, Value.int IntKind.i64 x3, Value.pointer x4] H R :=
  calls_by .leaf Try.func138 rfl (F138_eq x0a x0n x0c x1 x2 x3 x4 R H) h
/-- cmp.isNaN[int] -/
def F139 (x0 : Int) (R : Ending → Heap → Prop) (H : Heap) : Prop :=
  R (Ending.returned (Value.bool (x0 != x0))) H
theorem F139_eq (x0 : Int) (R : Ending → Heap → Prop) (H : Heap) : F139 x0 R H = vc Try.prog (codeOf Try.f139) .leaf (postV Try.prog Try.f139 R) ⟨#[Value.int IntKind.i64 x0] ++ Array.replicate (Try.f139.ntmps - 1) undef, []⟩ H := by kernel_rfl
theorem F139_calls {R : Ending → Heap → Prop} {H : Heap} (x0 : Int) (h : F139 x0 R H) : HCalls Try.prog 139 #[Value.int IntKind.i64 x0] H R :=
  calls_by .leaf Try.func139 rfl (F139_eq x0 R H) h
/-- bollard/word.there -/
def F140 (x0a : Option Addr) (x0n : Nat) (x0c : Nat) (x1 : Int) (x2 : Int) (R : Ending → Heap → Prop) (H : Heap) : Prop :=
  jn (α := VFH 1) (fun v1 H2 =>
  ∀ v3 v4 v5 v6 v7 v8 v9 v10 v11 v12 : Value,
  dBl v1 (fun b13 =>
  sB b13 (R (Ending.returned (Value.int IntKind.i64 1)) H2) (jn (α := VFH 1) (fun v14 H15 =>
  ∀ v16 v17 v18 v19 v20 v21 v22 v23 v24 v25 v26 v27 : Value,
  dBl v14 (fun b28 =>
  sB b28 (R (Ending.returned (Value.int IntKind.i64 10)) H15) (R (Ending.returned (Value.int IntKind.i64 0)) H15))) (fun k29 =>
  sB (decide (x1 > (↑x0n : Int))) (k29 (Value.bool true) H2) (wr IntKind.i64 ((↑x0n : Int) - x1) (fun n30 =>
  k29 (Value.bool (decide (x2 > n30))) H2)))))) (fun k31 =>
  sB (decide (x2 < 1)) (k31 (Value.bool true) H) (sB (decide (x2 > 4)) (k31 (Value.bool true) H) (k31 (Value.bool (decide (x1 < 0))) H)))
theorem F140_eq (x0a : Option Addr) (x0n : Nat) (x0c : Nat) (x1 : Int) (x2 : Int) (R : Ending → Heap → Prop) (H : Heap) : F140 x0a x0n x0c x1 x2 R H = vc Try.prog (codeOf Try.f140) (.node none .leaf (.node none (.node none (.node (some ⟨[(7, 4)], [8, 9, 10, 11, 12, 13, 14, 15, 16, 17]⟩) .leaf (.node none .leaf (.node (some ⟨[(18, 4)], [19, 20, 21, 22, 23, 24, 25, 26, 27, 28, 29, 30]⟩) .leaf .leaf))) .leaf) .leaf)) (postV Try.prog Try.f140 R) ⟨#[Value.slice x0a x0n x0c, Value.int IntKind.i64 x1, Value.int IntKind.i64 x2] ++ Array.replicate (Try.f140.ntmps - 3) undef, []⟩ H := by kernel_rfl
theorem F140_calls {R : Ending → Heap → Prop} {H : Heap} (x0a : Option Addr) (x0n : Nat) (x0c : Nat) (x1 : Int) (x2 : Int) (h : F140 x0a x0n x0c x1 x2 R H) : HCalls Try.prog 140 #[Value.slice x0a x0n x0c, Value.int IntKind.i64 x1, Value.int IntKind.i64 x2] H R :=
  calls_by (.node none .leaf (.node none (.node none (.node (some ⟨[(7, 4)], [8, 9, 10, 11, 12, 13, 14, 15, 16, 17]⟩) .leaf (.node none .leaf (.node (some ⟨[(18, 4)], [19, 20, 21, 22, 23, 24, 25, 26, 27, 28, 29, 30]⟩) .leaf .leaf))) .leaf) .leaf)) Try.func140 rfl (F140_eq x0a x0n x0c x1 x2 R H) h
/-- slices.insertionSortCmpFunc[int] -/
def F141 (x0a : Option Addr) (x0n : Nat) (x0c : Nat) (x1 : Int) (x2 : Int) (x3g : Nat) (x3f : Array Value) (x3c : Array Value) (R : Ending → Heap → Prop) (H : Heap) : Prop :=
  wr IntKind.i64 (x1 + 1) (fun n1 =>
  ∃ I2 : List Value → Heap → Prop,
  ∃ I3 : List Value → Heap → Nat,
  (I2 ([Value.int IntKind.i64 n1]) H) ∧
  ∀ n4 : Int,
  ∀ v5 v6 v7 v8 v9 v10 v11 v12 v13 v14 v15 v16 v17 v18 v19 v20 v21 v22 v23 v24 v25 v26 v27 v28 v29 v30 v31 v32 v33 v34 v35 v36 v37 v38 v39 v40 v41 v42 v43 v44 v45 v46 : Value,
  ∀ H47 : Heap,
  (I2 ([Value.int IntKind.i64 n4]) H47) →
  sB (decide (n4 < x2)) (∃ I49 : List Value → Heap → Prop,
  ∃ I50 : List Value → Heap → Nat,
  (I49 ([Value.int IntKind.i64 n4]) H47) ∧
  ∀ n51 : Int,
  ∀ v52 v53 v54 v55 v56 v57 v58 v59 v60 v61 v62 v63 v64 v65 v66 v67 v68 v69 v70 v71 v72 v73 v74 v75 v76 v77 v78 v79 v80 v81 v82 v83 v84 v85 v86 : Value,
  ∀ H87 : Heap,
  (I49 ([Value.int IntKind.i64 n51]) H87) →
  jn (α := VFH 1) (fun v89 H90 =>
  ∀ v91 v92 v93 v94 v95 v96 v97 v98 v99 v100 v101 v102 v103 v104 v105 v106 : Value,
  dBl v89 (fun b107 =>
  sB b107 (wr IntKind.i64 (n51 - 1) (fun n108 =>
  wr IntKind.i64 (n51 - 1) (fun n109 =>
  nz x0a (fun a110 =>
  ask ((0 : Int) ≤ n109 ∧ n109 < (↑x0n : Int)) (ld H90 (Addr.add a110 (Int.toNat n109 * 1)) (fun v111 =>
  dInt IntKind.i64 v111 (fun n112 =>
  nz x0a (fun a113 =>
  ask ((0 : Int) ≤ n51 ∧ n51 < (↑x0n : Int)) (ld H90 (Addr.add a113 (Int.toNat n51 * 1)) (fun v114 =>
  dInt IntKind.i64 v114 (fun n115 =>
  nz x0a (fun a116 =>
  ask ((0 : Int) ≤ n51 ∧ n51 < (↑x0n : Int)) (st H90 (Addr.add a116 (Int.toNat n51 * 1)) (Value.int IntKind.i64 n112) (fun H117 =>
  nz x0a (fun a118 =>
  ask ((0 : Int) ≤ n108 ∧ n108 < (↑x0n : Int)) (st H117 (Addr.add a118 (Int.toNat n108 * 1)) (Value.int IntKind.i64 n115) (fun H119 =>
  wr IntKind.i64 (n51 - 1) (fun n120 =>
  (I49 ([Value.int IntKind.i64 n120]) H119) ∧
  (I50 [Value.int IntKind.i64 n120] H119) < (I50 [Value.int IntKind.i64 n51] H87))))))))))))))))))) (wr IntKind.i64 (n4 + 1) (fun n121 =>
  (I2 ([Value.int IntKind.i64 n121]) H90) ∧
  (I3 [Value.int IntKind.i64 n121] H90) < (I3 [Value.int IntKind.i64 n4] H47))))) (fun k122 =>
  sB (decide (n51 > x1)) (nz x0a (fun a123 =>
  ask ((0 : Int) ≤ n51 ∧ n51 < (↑x0n : Int)) (ld H87 (Addr.add a123 (Int.toNat n51 * 1)) (fun v124 =>
  dInt IntKind.i64 v124 (fun n125 =>
  wr IntKind.i64 (n51 - 1) (fun n126 =>
  nz x0a (fun a127 =>
  ask ((0 : Int) ≤ n126 ∧ n126 < (↑x0n : Int)) (ld H87 (Addr.add a127 (Int.toNat n126 * 1)) (fun v128 =>
  dInt IntKind.i64 v128 (fun n129 =>
  gB (plainFn Try.prog x3g) (HCalls Try.prog x3g (argsOf x3f [Value.int IntKind.i64 n125, Value.int IntKind.i64 n129] x3c) H87 (Sp.retK (fun v130 H131 =>
  dInt IntKind.i64 v130 (fun n132 =>
  k122 (Value.bool (decide (n132 < 0))) H131)) nopR)))))))))))) (k122 (Value.bool false) H87))) (R (Ending.returned (Value.tuple #[])) H47))
theorem F141_eq (x0a : Option Addr) (x0n : Nat) (x0c : Nat) (x1 : Int) (x2 : Int) (x3g : Nat) (x3f : Array Value) (x3c : Array Value) (R : Ending → Heap → Prop) (H : Heap) : F141 x0a x0n x0c x1 x2 x3g x3f x3c R H = vc Try.prog (codeOf Try.f141) (.node none .leaf (.node none (.node (some ⟨[(8, 3)], [9, 12, 13, 14, 15, 16, 17, 18, 19, 20, 21, 22, 23, 24, 25, 26, 27, 28, 29, 30, 31, 32, 33, 34, 35, 36, 37, 38, 39, 40, 41, 42, 43, 44, 45, 46, 47, 48, 49, 50, 51, 52]⟩) (.node none .leaf (.node none (.node none (.node none .leaf (.node none (.node (some ⟨[(9, 3)], [18, 19, 20, 21, 22, 23, 24, 25, 26, 27, 28, 29, 30, 31, 32, 33, 34, 35, 36, 37, 38, 39, 40, 41, 42, 43, 44, 45, 46, 47, 48, 49, 50, 51, 52]⟩) (.node none (.node (some ⟨[(34, 4)], [18, 19, 20, 21, 22, 23, 24, 25, 26, 27, 28, 29, 30, 31, 32, 33]⟩) .leaf .leaf) .leaf) .leaf) .leaf)) .leaf) .leaf)) .leaf) .leaf)) (postV Try.prog Try.f141 R) ⟨#[Value.slice x0a x0n x0c, Value.int IntKind.i64 x1, Value.int IntKind.i64 x2, Value.func (Fn.func x3g) x3f x3c] ++ Array.replicate (Try.f141.ntmps - 4) undef, []⟩ H := by kernel_rfl
theorem F141_calls {R : Ending → Heap → Prop} {H : Heap} (x0a : Option Addr) (x0n : Nat) (x0c : Nat) (x1 : Int) (x2 : Int) (x3g : Nat) (x3f : Array Value) (x3c : Array Value) (h : F141 x0a x0n x0c x1 x2 x3g x3f x3c R H) : HCalls Try.prog 141 #[Value.slice x0a x0n x0c, Value.int IntKind.i64 x1, Value.int IntKind.i64 x2, Value.func (Fn.func x3g) x3f x3c] H R :=
  calls_by (.node none .leaf (.node none (.node (some ⟨[(8, 3)], [9, 12, 13, 14, 15, 16, 17, 18, 19, 20, 21, 22, 23, 24, 25, 26, 27, 28, 29, 30, 31, 32, 33, 34, 35, 36, 37, 38, 39, 40, 41, 42, 43, 44, 45, 46, 47, 48, 49, 50, 51, 52]⟩) (.node none .leaf (.node none (.node none (.node none .leaf (.node none (.node (some ⟨[(9, 3)], [18, 19, 20, 21, 22, 23, 24, 25, 26, 27, 28, 29, 30, 31, 32, 33, 34, 35, 36, 37, 38, 39, 40, 41, 42, 43, 44, 45, 46, 47, 48, 49, 50, 51, 52]⟩) (.node none (.node (some ⟨[(34, 4)], [18, 19, 20, 21, 22, 23, 24, 25, 26, 27, 28, 29, 30, 31, 32, 33]⟩) .leaf .leaf) .leaf) .leaf) .leaf)) .leaf) .leaf)) .leaf) .leaf)) Try.func141 rfl (F141_eq x0a x0n x0c x1 x2 x3g x3f x3c R H) h
/-- slices.heapSortCmpFunc[int] -/
def F142 (x0a : Option Addr) (x0n : Nat) (x0c : Nat) (x1 : Int) (x2 : Int) (x3g : Nat) (x3f : Array Value) (x3c : Array Value) (R : Ending → Heap → Prop) (H : Heap) : Prop :=
  wr IntKind.i64 (x2 - x1) (fun n1 =>
  wr IntKind.i64 (n1 - 1) (fun n2 =>
  ask ((2 : Int) ≠ (0 : Int)) (wr IntKind.i64 (Int.tdiv n2 2) (fun n3 =>
  ∃ I4 : List Value → Heap → Prop,
  ∃ I5 : List Value → Heap → Nat,
  (I4 ([Value.int IntKind.i64 n3]) H) ∧
  ∀ n6 : Int,
  ∀ v7 v8 v9 v10 v11 v12 v13 v14 v15 v16 : Value,
  ∀ H17 : Heap,
  (I4 ([Value.int IntKind.i64 n6]) H17) →
  sB (decide (n6 ≥ 0)) (HCalls Try.prog 150 #[Value.slice x0a x0n x0c, Value.int IntKind.i64 n6, Value.int IntKind.i64 n1, Value.int IntKind.i64 x1, Value.func (Fn.func x3g) x3f x3c] H17 (Sp.retK (fun v19 H20 =>
  wr IntKind.i64 (n6 - 1) (fun n21 =>
  (I4 ([Value.int IntKind.i64 n21]) H20) ∧
  (I5 [Value.int IntKind.i64 n21] H20) < (I5 [Value.int IntKind.i64 n6] H17))) (pnR R))) (wr IntKind.i64 (n1 - 1) (fun n24 =>
  ∃ I25 : List Value → Heap → Prop,
  ∃ I26 : List Value → Heap → Nat,
  (I25 ([Value.int IntKind.i64 n24]) H17) ∧
  ∀ n27 : Int,
  ∀ v28 v29 v30 v31 v32 v33 v34 v35 v36 v37 v38 v39 v40 v41 v42 v43 v44 v45 v46 v47 v48 v49 v50 v51 v52 v53 v54 v55 : Value,
  ∀ H56 : Heap,
  (I25 ([Value.int IntKind.i64 n27]) H56) →
  sB (decide (n27 ≥ 0)) (wr IntKind.i64 (x1 + n27) (fun n58 =>
  wr IntKind.i64 (x1 + n27) (fun n59 =>
  nz x0a (fun a60 =>
  ask ((0 : Int) ≤ n59 ∧ n59 < (↑x0n : Int)) (ld H56 (Addr.add a60 (Int.toNat n59 * 1)) (fun v61 =>
  dInt IntKind.i64 v61 (fun n62 =>
  nz x0a (fun a63 =>
  ask ((0 : Int) ≤ x1 ∧ x1 < (↑x0n : Int)) (ld H56 (Addr.add a63 (Int.toNat x1 * 1)) (fun v64 =>
  dInt IntKind.i64 v64 (fun n65 =>
  nz x0a (fun a66 =>
  ask ((0 : Int) ≤ x1 ∧ x1 < (↑x0n : Int)) (st H56 (Addr.add a66 (Int.toNat x1 * 1)) (Value.int IntKind.i64 n62) (fun H67 =>
  nz x0a (fun a68 =>
  ask ((0 : Int) ≤ n58 ∧ n58 < (↑x0n : Int)) (st H67 (Addr.add a68 (Int.toNat n58 * 1)) (Value.int IntKind.i64 n65) (fun H69 =>
  HCalls Try.prog 150 #[Value.slice x0a x0n x0c, Value.int IntKind.i64 0, Value.int IntKind.i64 n27, Value.int IntKind.i64 x1, Value.func (Fn.func x3g) x3f x3c] H69 (Sp.retK (fun v70 H71 =>
  wr IntKind.i64 (n27 - 1) (fun n72 =>
  (I25 ([Value.int IntKind.i64 n72]) H71) ∧
  (I26 [Value.int IntKind.i64 n72] H71) < (I26 [Value.int IntKind.i64 n27] H56))) (pnR R))))))))))))))))))) (R (Ending.returned (Value.tuple #[])) H56)))))))
theorem F142_eq (x0a : Option Addr) (x0n : Nat) (x0c : Nat) (x1 : Int) (x2 : Int) (x3g : Nat) (x3f : Array Value) (x3c : Array Value) (R : Ending → Heap → Prop) (H : Heap) : F142 x0a x0n x0c x1 x2 x3g x3f x3c R H = vc Try.prog (codeOf Try.f142) (.node none .leaf (.node none .leaf (.node none .leaf (.node none (.node none .leaf (.node none (.node (some ⟨[(11, 3)], [20, 21, 22, 23, 24, 25, 26, 27, 28, 29]⟩) .leaf .leaf) .leaf)) (.node none .leaf (.node none (.node (some ⟨[(12, 3)], [32, 33, 34, 35, 36, 37, 38, 39, 40, 41, 42, 43, 44, 45, 46, 47, 48, 49, 50, 51, 52, 53, 54, 55, 56, 57, 58, 59]⟩) .leaf .leaf) .leaf)))))) (postV Try.prog Try.f142 R) ⟨#[Value.slice x0a x0n x0c, Value.int IntKind.i64 x1, Value.int IntKind.i64 x2, Value.func (Fn.func x3g) x3f x3c] ++ Array.replicate (Try.f142.ntmps - 4) undef, []⟩ H := by kernel_rfl
theorem F142_calls {R : Ending → Heap → Prop} {H : Heap} (x0a : Option Addr) (x0n : Nat) (x0c : Nat) (x1 : Int) (x2 : Int) (x3g : Nat) (x3f : Array Value) (x3c : Array Value) (h : F142 x0a x0n x0c x1 x2 x3g x3f x3c R H) : HCalls Try.prog 142 #[Value.slice x0a x0n x0c, Value.int IntKind.i64 x1, Value.int IntKind.i64 x2, Value.func (Fn.func x3g) x3f x3c] H R :=
  calls_by (.node none .leaf (.node none .leaf (.node none .leaf (.node none (.node none .leaf (.node none (.node (some ⟨[(11, 3)], [20, 21, 22, 23, 24, 25, 26, 27, 28, 29]⟩) .leaf .leaf) .leaf)) (.node none .leaf (.node none (.node (some ⟨[(12, 3)], [32, 33, 34, 35, 36, 37, 38, 39, 40, 41, 42, 43, 44, 45, 46, 47, 48, 49, 50, 51, 52, 53, 54, 55, 56, 57, 58, 59]⟩) .leaf .leaf) .leaf)))))) Try.func142 rfl (F142_eq x0a x0n x0c x1 x2 x3g x3f x3c R H) h
/-- slices.breakPatternsCmpFunc[int] -/
def F143 (x0a : Option Addr) (x0n : Nat) (x0c : Nat) (x1 : Int) (x2 : Int) (x3g : Nat) (x3f : Array Value) (x3c : Array Value) (R : Ending → Heap → Prop) (H : Heap) : Prop :=
  wr IntKind.i64 (x2 - x1) (fun n1 =>
  sB (decide (n1 ≥ 8)) (wr IntKind.u64 n1 (fun n2 =>
  al H (Obj.cells #[Value.int IntKind.u64 0] 186) (fun r3 H4 =>
  st H4 (Addr.mk r3 0 none) (Value.int IntKind.u64 n2) (fun H5 =>
  HCalls Try.prog 135 #[Value.int IntKind.i64 n1] H5 (Sp.retK (fun v6 H7 =>
  dInt IntKind.u64 v6 (fun n8 =>
  ask ((4 : Int) ≠ (0 : Int)) (wr IntKind.i64 (Int.tdiv n1 4) (fun n9 =>
  wr IntKind.i64 (n9 * 2) (fun n10 =>
  wr IntKind.i64 (x1 + n10) (fun n11 =>
  wr IntKind.i64 (n11 - 1) (fun n12 =>
  ∃ I13 : List Value → Heap → Prop,
  ∃ I14 : List Value → Heap → Nat,
  (I13 ([Value.int IntKind.i64 n12]) H7) ∧
  ∀ n15 : Int,
  ∀ v16 v17 v18 v19 v20 v21 v22 v23 v24 v25 v26 v27 v28 v29 v30 v31 v32 v33 v34 v35 v36 v37 v38 v39 v40 v41 v42 v43 v44 v45 v46 v47 v48 v49 v50 v51 v52 v53 v54 v55 : Value,
  ∀ H56 : Heap,
  (I13 ([Value.int IntKind.i64 n15]) H56) →
  ask ((4 : Int) ≠ (0 : Int)) (wr IntKind.i64 (Int.tdiv n1 4) (fun n58 =>
  wr IntKind.i64 (n58 * 2) (fun n59 =>
  wr IntKind.i64 (x1 + n59) (fun n60 =>
  wr IntKind.i64 (n60 + 1) (fun n61 =>
  sB (decide (n15 ≤ n61)) (HCalls Try.prog 136 #[Value.pointer (some (Addr.mk r3 0 none))] H56 (Sp.retK (fun v62 H63 =>
  dInt IntKind.u64 v62 (fun n64 =>
  wr IntKind.u64 (n8 - 1) (fun n65 =>
  nm (IntKind.wrap IntKind.u64 (↑(BitVec.toNat (BitVec.ofInt 64 n64 &&& BitVec.ofInt 64 n65)) : Int)) (fun n66 =>
  wr IntKind.i64 n66 (fun n67 =>
  jn (α := VFH 1) (fun v68 H69 =>
  ∀ v70 v71 v72 v73 v74 v75 : Value,
  dInt IntKind.i64 v68 (fun n76 =>
  wr IntKind.i64 (x1 + n76) (fun n77 =>
  wr IntKind.i64 (x1 + n76) (fun n78 =>
  nz x0a (fun a79 =>
  ask ((0 : Int) ≤ n78 ∧ n78 < (↑x0n : Int)) (ld H69 (Addr.add a79 (Int.toNat n78 * 1)) (fun v80 =>
  dInt IntKind.i64 v80 (fun n81 =>
  nz x0a (fun a82 =>
  ask ((0 : Int) ≤ n15 ∧ n15 < (↑x0n : Int)) (ld H69 (Addr.add a82 (Int.toNat n15 * 1)) (fun v83 =>
  dInt IntKind.i64 v83 (fun n84 =>
  nz x0a (fun a85 =>
  ask ((0 : Int) ≤ n15 ∧ n15 < (↑x0n : Int)) (st H69 (Addr.add a85 (Int.toNat n15 * 1)) (Value.int IntKind.i64 n81) (fun H86 =>
  nz x0a (fun a87 =>
  ask ((0 : Int) ≤ n77 ∧ n77 < (↑x0n : Int)) (st H86 (Addr.add a87 (Int.toNat n77 * 1)) (Value.int IntKind.i64 n84) (fun H88 =>
  wr IntKind.i64 (n15 + 1) (fun n89 =>
  (I13 ([Value.int IntKind.i64 n89]) H88) ∧
  (I14 [Value.int IntKind.i64 n89] H88) < (I14 [Value.int IntKind.i64 n15] H56)))))))))))))))))))) (fun k90 =>
  sB (decide (n67 ≥ n1)) (wr IntKind.i64 (n67 - n1) (fun n91 =>
  k90 (Value.int IntKind.i64 n91) H63)) (k90 (Value.int IntKind.i64 n67) H63))))))) (pnR R))) (R (Ending.returned (Value.tuple #[])) H56))))))))))))) (pnR R)))))) (R (Ending.returned (Value.tuple #[])) H))
theorem F143_eq (x0a : Option Addr) (x0n : Nat) (x0c : Nat) (x1 : Int) (x2 : Int) (x3g : Nat) (x3f : Array Value) (x3c : Array Value) (R : Ending → Heap → Prop) (H : Heap) : F143 x0a x0n x0c x1 x2 x3g x3f x3c R H = vc Try.prog (codeOf Try.f143) (.node none .leaf (.node none .leaf (.node none (.node none .leaf (.node none .leaf (.node none .leaf (.node none (.node (some ⟨[(11, 3)], [12, 28, 29, 30, 31, 32, 33, 34, 35, 36, 37, 38, 39, 40, 41, 42, 43, 44, 45, 46, 47, 48, 49, 50, 51, 52, 53, 54, 55, 56, 57, 58, 59, 60, 61, 62, 63, 64, 65, 66]⟩) (.node none .leaf (.node none (.node none (.node none .leaf (.node (some ⟨[(12, 3)], [43, 44, 45, 46, 47, 48]⟩) .leaf .leaf)) .leaf) .leaf)) .leaf) .leaf)))) .leaf))) (postV Try.prog Try.f143 R) ⟨#[Value.slice x0a x0n x0c, Value.int IntKind.i64 x1, Value.int IntKind.i64 x2, Value.func (Fn.func x3g) x3f x3c] ++ Array.replicate (Try.f143.ntmps - 4) undef, []⟩ H := by kernel_rfl
theorem F143_calls {R : Ending → Heap → Prop} {H : Heap} (x0a : Option Addr) (x0n : Nat) (x0c : Nat) (x1 : Int) (x2 : Int) (x3g : Nat) (x3f : Array Value) (x3c : Array Value) (h : F143 x0a x0n x0c x1 x2 x3g x3f x3c R H) : HCalls Try.prog 143 #[Value.slice x0a x0n x0c, Value.int IntKind.i64 x1, Value.int IntKind.i64 x2, Value.func (Fn.func x3g) x3f x3c] H R :=
  calls_by (.node none .leaf (.node none .leaf (.node none (.node none .leaf (.node none .leaf (.node none .leaf (.node none (.node (some ⟨[(11, 3)], [12, 28, 29, 30, 31, 32, 33, 34, 35, 36, 37, 38, 39, 40, 41, 42, 43, 44, 45, 46, 47, 48, 49, 50, 51, 52, 53, 54, 55, 56, 57, 58, 59, 60, 61, 62, 63, 64, 65, 66]⟩) (.node none .leaf (.node none (.node none (.node none .leaf (.node (some ⟨[(12, 3)], [43, 44, 45, 46, 47, 48]⟩) .leaf .leaf)) .leaf) .leaf)) .leaf) .leaf)))) .leaf))) Try.func143 rfl (F143_eq x0a x0n x0c x1 x2 x3g x3f x3c R H) h
/-- slices.choosePivotCmpFunc[int] -/
def F144 (x0a : Option Addr) (x0n : Nat) (x0c : Nat) (x1 : Int) (x2 : Int) (x3g : Nat) (x3f : Array Value) (x3c : Array Value) (R : Ending → Heap → Prop) (H : Heap) : Prop :=
  wr IntKind.i64 (x2 - x1) (fun n1 =>
  al H (Obj.cells #[Value.int IntKind.i64 0] 3) (fun r2 H3 =>
  ask ((4 : Int) ≠ (0 : Int)) (wr IntKind.i64 (Int.tdiv n1 4) (fun n4 =>
  wr IntKind.i64 (n4 * 1) (fun n5 =>
  wr IntKind.i64 (x1 + n5) (fun n6 =>
  ask ((4 : Int) ≠ (0 : Int)) (wr IntKind.i64 (Int.tdiv n1 4) (fun n7 =>
  wr IntKind.i64 (n7 * 2) (fun n8 =>
  wr IntKind.i64 (x1 + n8) (fun n9 =>
  ask ((4 : Int) ≠ (0 : Int)) (wr IntKind.i64 (Int.tdiv n1 4) (fun n10 =>
  wr IntKind.i64 (n10 * 3) (fun n11 =>
  wr IntKind.i64 (x1 + n11) (fun n12 =>
  jn (α := VFH 1) (fun v13 H14 =>
  ∀ v15 v16 v17 v18 v19 v20 v21 v22 v23 v24 v25 v26 v27 v28 v29 v30 v31 v32 v33 v34 v35 v36 v37 v38 : Value,
  dInt IntKind.i64 v13 (fun n39 =>
  ld H14 (Addr.mk r2 0 none) (fun v40 =>
  dInt IntKind.i64 v40 (fun n41 =>
  sB (n41 == 0) (R (Ending.returned (Value.tuple #[Value.int IntKind.i64 n39, Value.int IntKind.i64 1])) H14) (sB (n41 == 12) (R (Ending.returned (Value.tuple #[Value.int IntKind.i64 n39, Value.int IntKind.i64 2])) H14) (R (Ending.returned (Value.tuple #[Value.int IntKind.i64 n39, Value.int IntKind.i64 0])) H14)))))) (fun k42 =>
  sB (decide (n1 ≥ 8)) (jn (α := VFH 3) (fun v43 v44 v45 H46 =>
  ∀ v47 v48 v49 v50 v51 v52 v53 v54 v55 v56 v57 v58 v59 v60 : Value,
  dInt IntKind.i64 v43 (fun n61 =>
  dInt IntKind.i64 v44 (fun n62 =>
  dInt IntKind.i64 v45 (fun n63 =>
  HCalls Try.prog 152 #[Value.slice x0a x0n x0c, Value.int IntKind.i64 n61, Value.int IntKind.i64 n62, Value.int IntKind.i64 n63, Value.pointer (some (Addr.mk r2 0 none)), Value.func (Fn.func x3g) x3f x3c] H46 (Sp.retK (fun v64 H65 =>
  dInt IntKind.i64 v64 (fun n66 =>
  k42 (Value.int IntKind.i64 n66) H65)) (pnR R)))))) (fun k69 =>
  sB (decide (n1 ≥ 50)) (HCalls Try.prog 151 #[Value.slice x0a x0n x0c, Value.int IntKind.i64 n6, Value.pointer (some (Addr.mk r2 0 none)), Value.func (Fn.func x3g) x3f x3c] H3 (Sp.retK (fun v70 H71 =>
  dInt IntKind.i64 v70 (fun n72 =>
  HCalls Try.prog 151 #[Value.slice x0a x0n x0c, Value.int IntKind.i64 n9, Value.pointer (some (Addr.mk r2 0 none)), Value.func (Fn.func x3g) x3f x3c] H71 (Sp.retK (fun v73 H74 =>
  dInt IntKind.i64 v73 (fun n75 =>
  HCalls Try.prog 151 #[Value.slice x0a x0n x0c, Value.int IntKind.i64 n12, Value.pointer (some (Addr.mk r2 0 none)), Value.func (Fn.func x3g) x3f x3c] H74 (Sp.retK (fun v76 H77 =>
  dInt IntKind.i64 v76 (fun n78 =>
  k69 (Value.int IntKind.i64 n72) (Value.int IntKind.i64 n75) (Value.int IntKind.i64 n78) H77)) (pnR R)))) (pnR R)))) (pnR R))) (k69 (Value.int IntKind.i64 n6) (Value.int IntKind.i64 n9) (Value.int IntKind.i64 n12) H3))) (k42 (Value.int IntKind.i64 n9) H3))))))))))))))))
theorem F144_eq (x0a : Option Addr) (x0n : Nat) (x0c : Nat) (x1 : Int) (x2 : Int) (x3g : Nat) (x3f : Array Value) (x3c : Array Value) (R : Ending → Heap → Prop) (H : Heap) : F144 x0a x0n x0c x1 x2 x3g x3f x3c R H = vc Try.prog (codeOf Try.f144) (.node none .leaf (.node none .leaf (.node none .leaf (.node none .leaf (.node none .leaf (.node none .leaf (.node (some ⟨[(13, 3)], [12, 14, 33, 34, 35, 36, 37, 38, 39, 40, 41, 42, 43, 44, 45, 46, 47, 48, 49, 50, 51, 52, 53, 54]⟩) (.node none .leaf (.node none (.node (some ⟨[(12, 3), (13, 3), (14, 3)], [35, 36, 37, 38, 39, 40, 41, 42, 43, 44, 45, 46, 47, 48]⟩) .leaf .leaf) .leaf)) .leaf))))))) (postV Try.prog Try.f144 R) ⟨#[Value.slice x0a x0n x0c, Value.int IntKind.i64 x1, Value.int IntKind.i64 x2, Value.func (Fn.func x3g) x3f x3c] ++ Array.replicate (Try.f144.ntmps - 4) undef, []⟩ H := by kernel_rfl
theorem F144_calls {R : Ending → Heap → Prop} {H : Heap} (x0a : Option Addr) (x0n : Nat) (x0c : Nat) (x1 : Int) (x2 : Int) (x3g : Nat) (x3f : Array Value) (x3c : Array Value) (h : F144 x0a x0n x0c x1 x2 x3g x3f x3c R H) : HCalls Try.prog 144 #[Value.slice x0a x0n x0c, Value.int IntKind.i64 x1, Value.int IntKind.i64 x2, Value.func (Fn.func x3g) x3f x3c] H R :=
  calls_by (.node none .leaf (.node none .leaf (.node none .leaf (.node none .leaf (.node none .leaf (.node none .leaf (.node (some ⟨[(13, 3)], [12, 14, 33, 34, 35, 36, 37, 38, 39, 40, 41, 42, 43, 44, 45, 46, 47, 48, 49, 50, 51, 52, 53, 54]⟩) (.node none .leaf (.node none (.node (some ⟨[(12, 3), (13, 3), (14, 3)], [35, 36, 37, 38, 39, 40, 41, 42, 43, 44, 45, 46, 47, 48]⟩) .leaf .leaf) .leaf)) .leaf))))))) Try.func144 rfl (F144_eq x0a x0n x0c x1 x2 x3g x3f x3c R H) h
/-- slices.reverseRangeCmpFunc[int] -/
def F145 (x0a : Option Addr) (x0n : Nat) (x0c : Nat) (x1 : Int) (x2 : Int) (x3g : Nat) (x3f : Array Value) (x3c : Array Value) (R : Ending → Heap → Prop) (H : Heap) : Prop :=
  wr IntKind.i64 (x2 - 1) (fun n1 =>
  ∃ I2 : List Value → Heap → Prop,
  ∃ I3 : List Value → Heap → Nat,
  (I2 ([Value.int IntKind.i64 x1, Value.int IntKind.i64 n1]) H) ∧
  ∀ n4 : Int,
  ∀ n5 : Int,
  ∀ v6 v7 v8 v9 v10 v11 v12 v13 v14 v15 v16 v17 v18 v19 v20 v21 v22 v23 v24 v25 v26 : Value,
  ∀ H27 : Heap,
  (I2 ([Value.int IntKind.i64 n4, Value.int IntKind.i64 n5]) H27) →
  sB (decide (n4 < n5)) (nz x0a (fun a29 =>
  ask ((0 : Int) ≤ n5 ∧ n5 < (↑x0n : Int)) (ld H27 (Addr.add a29 (Int.toNat n5 * 1)) (fun v30 =>
  dInt IntKind.i64 v30 (fun n31 =>
  nz x0a (fun a32 =>
  ask ((0 : Int) ≤ n4 ∧ n4 < (↑x0n : Int)) (ld H27 (Addr.add a32 (Int.toNat n4 * 1)) (fun v33 =>
  dInt IntKind.i64 v33 (fun n34 =>
  nz x0a (fun a35 =>
  ask ((0 : Int) ≤ n4 ∧ n4 < (↑x0n : Int)) (st H27 (Addr.add a35 (Int.toNat n4 * 1)) (Value.int IntKind.i64 n31) (fun H36 =>
  nz x0a (fun a37 =>
  ask ((0 : Int) ≤ n5 ∧ n5 < (↑x0n : Int)) (st H36 (Addr.add a37 (Int.toNat n5 * 1)) (Value.int IntKind.i64 n34) (fun H38 =>
  wr IntKind.i64 (n4 + 1) (fun n39 =>
  wr IntKind.i64 (n5 - 1) (fun n40 =>
  (I2 ([Value.int IntKind.i64 n39, Value.int IntKind.i64 n40]) H38) ∧
  (I3 [Value.int IntKind.i64 n39, Value.int IntKind.i64 n40] H38) < (I3 [Value.int IntKind.i64 n4, Value.int IntKind.i64 n5] H27)))))))))))))))))) (R (Ending.returned (Value.tuple #[])) H27))
theorem F145_eq (x0a : Option Addr) (x0n : Nat) (x0c : Nat) (x1 : Int) (x2 : Int) (x3g : Nat) (x3f : Array Value) (x3c : Array Value) (R : Ending → Heap → Prop) (H : Heap) : F145 x0a x0n x0c x1 x2 x3g x3f x3c R H = vc Try.prog (codeOf Try.f145) (.node none .leaf (.node none .leaf (.node none (.node (some ⟨[(8, 3), (9, 3)], [13, 14, 15, 16, 17, 18, 19, 20, 21, 22, 23, 24, 25, 26, 27, 28, 29, 30, 31, 32, 33]⟩) .leaf .leaf) .leaf))) (postV Try.prog Try.f145 R) ⟨#[Value.slice x0a x0n x0c, Value.int IntKind.i64 x1, Value.int IntKind.i64 x2, Value.func (Fn.func x3g) x3f x3c] ++ Array.replicate (Try.f145.ntmps - 4) undef, []⟩ H := by kernel_rfl
theorem F145_calls {R : Ending → Heap → Prop} {H : Heap} (x0a : Option Addr) (x0n : Nat) (x0c : Nat) (x1 : Int) (x2 : Int) (x3g : Nat) (x3f : Array Value) (x3c : Array Value) (h : F145 x0a x0n x0c x1 x2 x3g x3f x3c R H) : HCalls Try.prog 145 #[Value.slice x0a x0n x0c, Value.int IntKind.i64 x1, Value.int IntKind.i64 x2, Value.func (Fn.func x3g) x3f x3c] H R :=
  calls_by (.node none .leaf (.node none .leaf (.node none (.node (some ⟨[(8, 3), (9, 3)], [13, 14, 15, 16, 17, 18, 19, 20, 21, 22, 23, 24, 25, 26, 27, 28, 29, 30, 31, 32, 33]⟩) .leaf .leaf) .leaf))) Try.func145 rfl (F145_eq x0a x0n x0c x1 x2 x3g x3f x3c R H) h
end Go.Proofs.Ytmgjdmohmhaemaa.E
