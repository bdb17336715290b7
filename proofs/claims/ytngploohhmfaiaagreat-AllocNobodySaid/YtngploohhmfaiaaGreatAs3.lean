/- My own texts, joined. -/
import Derived.Deep.QuietTactic
import Derived.KernelRfl
import Derived.Maps.Own
import Derived.Shelf.SlIterI.Nil
import Derived.Shelf.SlLaysF
import Derived.Shelf.SlSortCmp.NoneTotal
import Derived.Test.YtngploohhmfaiaaGreatProg
import Derived.WalkKit
import Derived.Test.YtngploohhmfaiaaGreatAs2
/- The functions' forms in the engine's words, printed by my own program. -/
namespace Go.Proofs.YtngploohhmfaiaaGreat.E
open Go Go.Proofs
set_option linter.unusedVariables false
/-- bollard/bollardref03.may -/
def F223 (x0_0 : Value) (x0_1 : Value) (x0_2 : Value) (R : Ending → Heap → Prop) (H : Heap) : Prop :=
  al H (Obj.cells #[x0_0, x0_1, x0_2] 32) (fun r1 H2 =>
  ld H2 (Addr.mk r1 0 none) (fun v3 =>
  dInt IntKind.i64 v3 (fun n4 =>
  sB (decide (n4 ≥ 1)) (ld H2 (Addr.mk r1 0 none) (fun v5 =>
  dInt IntKind.i64 v5 (fun n6 =>
  sB (decide (n6 ≤ 8)) (ld H2 (Addr.mk r1 1 none) (fun v7 =>
  dInt IntKind.i64 v7 (fun n8 =>
  sB (decide (n8 ≥ 8)) (ld H2 (Addr.mk r1 1 none) (fun v9 =>
  dInt IntKind.i64 v9 (fun n10 =>
  sB (decide (n10 ≤ 256)) (ld H2 (Addr.mk r1 2 none) (fun v11 =>
  dInt IntKind.i64 v11 (fun n12 =>
  sB (decide (n12 ≥ 4)) (ld H2 (Addr.mk r1 2 none) (fun v13 =>
  dInt IntKind.i64 v13 (fun n14 =>
  sB (decide (n14 ≤ 64)) (ld H2 (Addr.mk r1 2 none) (fun v15 =>
  dInt IntKind.i64 v15 (fun n16 =>
  ask ((4 : Int) ≠ (0 : Int)) (nm (Int.tmod n16 4) (fun n17 =>
  sB (n17 == 0) (ld H2 (Addr.mk r1 1 none) (fun v18 =>
  dInt IntKind.i64 v18 (fun n19 =>
  ld H2 (Addr.mk r1 2 none) (fun v20 =>
  dInt IntKind.i64 v20 (fun n21 =>
  ask ((4 : Int) ≠ (0 : Int)) (wr IntKind.i64 (Int.tdiv n21 4) (fun n22 =>
  wr IntKind.i64 (3 + n22) (fun n23 =>
  R (Ending.returned (Value.bool (decide (n19 ≥ n23)))) H2)))))))) (R (Ending.returned (Value.bool false)) H2)))))) (R (Ending.returned (Value.bool false)) H2)))) (R (Ending.returned (Value.bool false)) H2)))) (R (Ending.returned (Value.bool false)) H2)))) (R (Ending.returned (Value.bool false)) H2)))) (R (Ending.returned (Value.bool false)) H2)))) (R (Ending.returned (Value.bool false)) H2))))
theorem F223_eq (x0_0 : Value) (x0_1 : Value) (x0_2 : Value) (R : Ending → Heap → Prop) (H : Heap) : F223 x0_0 x0_1 x0_2 R H = vc Tryz.prog (codeOf Tryz.f223) .leaf (postV Tryz.prog Tryz.f223 R) ⟨#[Value.agg #[x0_0, x0_1, x0_2]] ++ Array.replicate (Tryz.f223.ntmps - 1) undef, []⟩ H := by kernel_rfl
theorem F223_calls {R : Ending → Heap → Prop} {H : Heap} (x0_0 : Value) (x0_1 : Value) (x0_2 : Value) (h : F223 x0_0 x0_1 x0_2 R H) : HCalls Tryz.prog 223 #[Value.agg #[x0_0, x0_1, x0_2]] H R :=
  calls_by (F := F223 x0_0 x0_1 x0_2 R H) .leaf Tryz.func223 rfl (F223_eq x0_0 x0_1 x0_2 R H) h
/-- bollard/bollardref05.Has -/
def F224 (x0a : Option Addr) (x0n : Nat) (x0c : Nat) (x1 : Int) (R : Ending → Heap → Prop) (H : Heap) : Prop :=
  sB (decide (x1 ≥ 0)) (ask ((8 : Int) ≠ (0 : Int)) (wr IntKind.i64 (Int.tdiv x1 8) (fun n1 =>
  sB (decide (n1 < (↑x0n : Int))) (ask ((8 : Int) ≠ (0 : Int)) (wr IntKind.i64 (Int.tdiv x1 8) (fun n2 =>
  nz x0a (fun a3 =>
  ask ((0 : Int) ≤ n2 ∧ n2 < (↑x0n : Int)) (ld H (Addr.add a3 (Int.toNat n2 * 1)) (fun v4 =>
  dInt IntKind.u8 v4 (fun n5 =>
  ask ((8 : Int) ≠ (0 : Int)) (nm (Int.tmod x1 8) (fun n6 =>
  ask ((0 : Int) ≤ n6) (nm (Int.fdiv n5 (2 ^ min (Int.toNat n6) 8)) (fun n7 =>
  ask ((2 : Int) ≠ (0 : Int)) (nm (Int.tmod n7 2) (fun n8 =>
  R (Ending.returned (Value.bool (n8 == 1))) H))))))))))))) (R (Ending.returned (Value.bool false)) H)))) (R (Ending.returned (Value.bool false)) H)
theorem F224_eq (x0a : Option Addr) (x0n : Nat) (x0c : Nat) (x1 : Int) (R : Ending → Heap → Prop) (H : Heap) : F224 x0a x0n x0c x1 R H = vc Tryz.prog (codeOf Tryz.f224) .leaf (postV Tryz.prog Tryz.f224 R) ⟨#[Value.slice x0a x0n x0c, Value.int IntKind.i64 x1] ++ Array.replicate (Tryz.f224.ntmps - 2) undef, []⟩ H := by kernel_rfl
theorem F224_calls {R : Ending → Heap → Prop} {H : Heap} (x0a : Option Addr) (x0n : Nat) (x0c : Nat) (x1 : Int) (h : F224 x0a x0n x0c x1 R H) : HCalls Tryz.prog 224 #[Value.slice x0a x0n x0c, Value.int IntKind.i64 x1] H R :=
  calls_by (F := F224 x0a x0n x0c x1 R H) .leaf Tryz.func224 rfl (F224_eq x0a x0n x0c x1 R H) h
/-- bollard/bollardref03.address -/
def F225 (x0 : Int) (R : Ending → Heap → Prop) (H : Heap) : Prop :=
  sB (decide (x0 ≥ 0)) (R (Ending.returned (Value.bool (decide (x0 < 2048)))) H) (R (Ending.returned (Value.bool false)) H)
theorem F225_eq (x0 : Int) (R : Ending → Heap → Prop) (H : Heap) : F225 x0 R H = vc Tryz.prog (codeOf Tryz.f225) .leaf (postV Tryz.prog Tryz.f225 R) ⟨#[Value.int IntKind.i64 x0] ++ Array.replicate (Tryz.f225.ntmps - 1) undef, []⟩ H := by kernel_rfl
theorem F225_calls {R : Ending → Heap → Prop} {H : Heap} (x0 : Int) (h : F225 x0 R H) : HCalls Tryz.prog 225 #[Value.int IntKind.i64 x0] H R :=
  calls_by (F := F225 x0 R H) .leaf Tryz.func225 rfl (F225_eq x0 R H) h
/-- bollard/bollardref01.Put -/
def F226 (x0a : Option Addr) (x0n : Nat) (x0c : Nat) (x1 : Int) (x2 : Int) (x3 : Int) (R : Ending → Heap → Prop) (H : Heap) : Prop :=
  jn (α := VFH 1) (fun v1 H2 =>
  ∀ v3 v4 v5 v6 v7 v8 v9 v10 v11 v12 v13 v14 v15 v16 v17 v18 v19 v20 v21 v22 : Value,
  dBl v1 (fun b23 =>
  sB b23 (R (Ending.returned (Value.tuple #[Value.slice none 0 0, Value.int IntKind.i64 1])) H2) (wr IntKind.i64 ((↑x0n : Int) - x2) (fun n24 =>
  sB (decide (x1 > n24)) (R (Ending.returned (Value.tuple #[Value.slice none 0 0, Value.int IntKind.i64 10])) H2) (al H2 (Obj.cells #[] 5) (fun r25 H26 =>
  semW Tryz.prog (Builtin.append_ #[38, 38] 38 #[Value.slice (some (Addr.mk r25 0 none)) 0 0, Value.slice x0a x0n x0c]) (pnR R) H26 (fun v29 H30 =>
  dSl v29 (fun p31 r32 r33 =>
  ∃ I34 : List Value → Heap → Prop,
  ∃ I35 : List Value → Heap → Nat,
  (I34 ([Value.int IntKind.i64 x3, Value.int IntKind.i64 0]) H30) ∧
  ∀ n36 : Int,
  ∀ n37 : Int,
  ∀ v38 v39 v40 v41 v42 v43 v44 v45 v46 v47 v48 v49 v50 v51 : Value,
  ∀ H52 : Heap,
  (I34 ([Value.int IntKind.i64 n36, Value.int IntKind.i64 n37]) H52) →
  sB (decide (n37 < x2)) (wr IntKind.i64 (x1 + n37) (fun n54 =>
  ask ((256 : Int) ≠ (0 : Int)) (nm (Int.tmod n36 256) (fun n55 =>
  wr IntKind.u8 n55 (fun n56 =>
  nz p31 (fun a57 =>
  ask ((0 : Int) ≤ n54 ∧ n54 < (↑r32 : Int)) (st H52 (Addr.add a57 (Int.toNat n54 * 1)) (Value.int IntKind.u8 n56) (fun H58 =>
  ask ((256 : Int) ≠ (0 : Int)) (wr IntKind.i64 (Int.tdiv n36 256) (fun n59 =>
  wr IntKind.i64 (n37 + 1) (fun n60 =>
  (I34 ([Value.int IntKind.i64 n59, Value.int IntKind.i64 n60]) H58) ∧
  (I35 [Value.int IntKind.i64 n59, Value.int IntKind.i64 n60] H58) < (I35 [Value.int IntKind.i64 n36, Value.int IntKind.i64 n37] H52)))))))))))) (R (Ending.returned (Value.tuple #[Value.slice p31 r32 r33, Value.int IntKind.i64 0])) H52))))))))) (fun k61 =>
  sB (decide (x2 < 1)) (k61 (Value.bool true) H) (sB (decide (x2 > 4)) (k61 (Value.bool true) H) (sB (decide (x1 < 0)) (k61 (Value.bool true) H) (sB (decide (x3 < 0)) (k61 (Value.bool true) H) (wr IntKind.i64 (8 * x2) (fun n62 =>
  ask ((0 : Int) ≤ n62) (nm (IntKind.wrap IntKind.i64 (1 * 2 ^ min (Int.toNat n62) 64)) (fun n63 =>
  k61 (Value.bool (decide (x3 ≥ n63))) H))))))))
theorem F226_eq (x0a : Option Addr) (x0n : Nat) (x0c : Nat) (x1 : Int) (x2 : Int) (x3 : Int) (R : Ending → Heap → Prop) (H : Heap) : F226 x0a x0n x0c x1 x2 x3 R H = vc Tryz.prog (codeOf Tryz.f226) (.node none .leaf (.node none (.node (some ⟨[(32, 4)], [12, 13, 14, 15, 16, 17, 18, 19, 20, 21, 22, 23, 24, 25, 26, 27, 28, 29, 30, 31]⟩) .leaf .leaf) (.node none .leaf (.node none .leaf (.node none (.node none .leaf (.node none (.node (some ⟨[(3, 3), (43, 3)], [11, 44, 45, 46, 47, 48, 49, 50, 51, 52, 53, 54, 55, 56]⟩) .leaf .leaf) .leaf)) .leaf))))) (postV Tryz.prog Tryz.f226 R) ⟨#[Value.slice x0a x0n x0c, Value.int IntKind.i64 x1, Value.int IntKind.i64 x2, Value.int IntKind.i64 x3] ++ Array.replicate (Tryz.f226.ntmps - 4) undef, []⟩ H := by kernel_rfl
theorem F226_calls {R : Ending → Heap → Prop} {H : Heap} (x0a : Option Addr) (x0n : Nat) (x0c : Nat) (x1 : Int) (x2 : Int) (x3 : Int) (h : F226 x0a x0n x0c x1 x2 x3 R H) : HCalls Tryz.prog 226 #[Value.slice x0a x0n x0c, Value.int IntKind.i64 x1, Value.int IntKind.i64 x2, Value.int IntKind.i64 x3] H R :=
  calls_by (F := F226 x0a x0n x0c x1 x2 x3 R H) (.node none .leaf (.node none (.node (some ⟨[(32, 4)], [12, 13, 14, 15, 16, 17, 18, 19, 20, 21, 22, 23, 24, 25, 26, 27, 28, 29, 30, 31]⟩) .leaf .leaf) (.node none .leaf (.node none .leaf (.node none (.node none .leaf (.node none (.node (some ⟨[(3, 3), (43, 3)], [11, 44, 45, 46, 47, 48, 49, 50, 51, 52, 53, 54, 55, 56]⟩) .leaf .leaf) .leaf)) .leaf))))) Tryz.func226 rfl (F226_eq x0a x0n x0c x1 x2 x3 R H) h
/-- bollard/bollardref01.Sum -/
def F227 (x0a : Option Addr) (x0n : Nat) (x0c : Nat) (R : Ending → Heap → Prop) (H : Heap) : Prop :=
  ∃ I1 : List Value → Heap → Prop,
  ∃ I2 : List Value → Heap → Nat,
  (I1 ([Value.int IntKind.i64 1, Value.int IntKind.i64 0, Value.int IntKind.i64 0]) H) ∧
  ∀ n3 : Int,
  ∀ n4 : Int,
  ∀ n5 : Int,
  ∀ v6 v7 v8 v9 v10 v11 v12 v13 v14 v15 v16 v17 v18 v19 : Value,
  ∀ H20 : Heap,
  (I1 ([Value.int IntKind.i64 n3, Value.int IntKind.i64 n4, Value.int IntKind.i64 n5]) H20) →
  sB (decide (n5 < (↑x0n : Int))) (nz x0a (fun a22 =>
  ask ((0 : Int) ≤ n5 ∧ n5 < (↑x0n : Int)) (ld H20 (Addr.add a22 (Int.toNat n5 * 1)) (fun v23 =>
  dInt IntKind.u8 v23 (fun n24 =>
  wr IntKind.i64 n24 (fun n25 =>
  wr IntKind.i64 (n3 + n25) (fun n26 =>
  ask ((65521 : Int) ≠ (0 : Int)) (nm (Int.tmod n26 65521) (fun n27 =>
  wr IntKind.i64 (n4 + n27) (fun n28 =>
  ask ((65521 : Int) ≠ (0 : Int)) (nm (Int.tmod n28 65521) (fun n29 =>
  wr IntKind.i64 (n5 + 1) (fun n30 =>
  (I1 ([Value.int IntKind.i64 n27, Value.int IntKind.i64 n29, Value.int IntKind.i64 n30]) H20) ∧
  (I2 [Value.int IntKind.i64 n27, Value.int IntKind.i64 n29, Value.int IntKind.i64 n30] H20) < (I2 [Value.int IntKind.i64 n3, Value.int IntKind.i64 n4, Value.int IntKind.i64 n5] H20)))))))))))))) (wr IntKind.i64 (n4 * 65536) (fun n31 =>
  wr IntKind.i64 (n31 + n3) (fun n32 =>
  R (Ending.returned (Value.int IntKind.i64 n32)) H20)))
theorem F227_eq (x0a : Option Addr) (x0n : Nat) (x0c : Nat) (R : Ending → Heap → Prop) (H : Heap) : F227 x0a x0n x0c R H = vc Tryz.prog (codeOf Tryz.f227) (.node none .leaf (.node none .leaf (.node none (.node none .leaf (.node none (.node (some ⟨[(3, 3), (4, 3), (9, 3)], [6, 10, 11, 12, 13, 14, 15, 16, 17, 18, 19, 20, 21, 22]⟩) .leaf .leaf) .leaf)) .leaf))) (postV Tryz.prog Tryz.f227 R) ⟨#[Value.slice x0a x0n x0c] ++ Array.replicate (Tryz.f227.ntmps - 1) undef, []⟩ H := by kernel_rfl
theorem F227_calls {R : Ending → Heap → Prop} {H : Heap} (x0a : Option Addr) (x0n : Nat) (x0c : Nat) (h : F227 x0a x0n x0c R H) : HCalls Tryz.prog 227 #[Value.slice x0a x0n x0c] H R :=
  calls_by (F := F227 x0a x0n x0c R H) (.node none .leaf (.node none .leaf (.node none (.node none .leaf (.node none (.node (some ⟨[(3, 3), (4, 3), (9, 3)], [6, 10, 11, 12, 13, 14, 15, 16, 17, 18, 19, 20, 21, 22]⟩) .leaf .leaf) .leaf)) .leaf))) Tryz.func227 rfl (F227_eq x0a x0n x0c R H) h
/-- bollard/bollardref03.IsName -/
def F228 (x0 : ByteArray) (R : Ending → Heap → Prop) (H : Heap) : Prop :=
  jn (α := VFH 1) (fun v1 H2 =>
  ∀ v3 v4 v5 v6 v7 v8 v9 v10 v11 v12 v13 v14 v15 v16 : Value,
  dBl v1 (fun b17 =>
  sB b17 (R (Ending.returned (Value.bool false)) H2) (∃ I18 : List Value → Heap → Prop,
  ∃ I19 : List Value → Heap → Nat,
  (I18 ([Value.int IntKind.i64 0]) H2) ∧
  ∀ n20 : Int,
  ∀ v21 v22 v23 v24 v25 v26 v27 v28 v29 v30 v31 v32 v33 v34 v35 v36 v37 v38 v39 v40 v41 v42 v43 : Value,
  ∀ H44 : Heap,
  (I18 ([Value.int IntKind.i64 n20]) H44) →
  sB (decide (n20 < (↑(ByteArray.size x0) : Int))) (jn (α := VFH 1) (fun v46 H47 =>
  ∀ v48 v49 v50 v51 v52 v53 v54 v55 v56 v57 v58 v59 v60 v61 v62 : Value,
  dBl v46 (fun b63 =>
  sB b63 (R (Ending.returned (Value.bool false)) H47) (wr IntKind.i64 (n20 + 1) (fun n64 =>
  (I18 ([Value.int IntKind.i64 n64]) H47) ∧
  (I19 [Value.int IntKind.i64 n64] H47) < (I19 [Value.int IntKind.i64 n20] H44))))) (fun k65 =>
  ask ((0 : Int) ≤ n20 ∧ n20 < (↑(ByteArray.size x0) : Int)) (sB (decide (byteAt x0 (Int.toNat n20) < 33)) (k65 (Value.bool true) H44) (ask ((0 : Int) ≤ n20 ∧ n20 < (↑(ByteArray.size x0) : Int)) (sB (decide (byteAt x0 (Int.toNat n20) > 126)) (k65 (Value.bool true) H44) (ask ((0 : Int) ≤ n20 ∧ n20 < (↑(ByteArray.size x0) : Int)) (k65 (Value.bool (byteAt x0 (Int.toNat n20) == 47)) H44))))))) (R (Ending.returned (Value.bool true)) H44)))) (fun k66 =>
  sB (ByteArray.toList x0 == []) (k66 (Value.bool true) H) (sB (decide ((↑(ByteArray.size x0) : Int) > 13)) (k66 (Value.bool true) H) (sB (ByteArray.toList x0 == [UInt8.ofBitVec 46#8]) (k66 (Value.bool true) H) (k66 (Value.bool (ByteArray.toList x0 == [UInt8.ofBitVec 46#8, UInt8.ofBitVec 46#8])) H))))
theorem F228_eq (x0 : ByteArray) (R : Ending → Heap → Prop) (H : Heap) : F228 x0 R H = vc Tryz.prog (codeOf Tryz.f228) (.node none .leaf (.node none (.node (some ⟨[(18, 4)], [4, 5, 6, 7, 8, 9, 10, 11, 12, 13, 14, 15, 16, 17]⟩) .leaf .leaf) (.node none (.node none .leaf (.node none (.node (some ⟨[(3, 3)], [2, 19, 20, 21, 22, 23, 24, 25, 26, 27, 28, 29, 30, 31, 32, 33, 34, 35, 36, 37, 38, 39, 40]⟩) (.node none .leaf (.node none (.node none (.node (some ⟨[(40, 4)], [25, 26, 27, 28, 29, 30, 31, 32, 33, 34, 35, 36, 37, 38, 39]⟩) .leaf .leaf) .leaf) .leaf)) .leaf) .leaf)) .leaf))) (postV Tryz.prog Tryz.f228 R) ⟨#[Value.string x0] ++ Array.replicate (Tryz.f228.ntmps - 1) undef, []⟩ H := by kernel_rfl
theorem F228_calls {R : Ending → Heap → Prop} {H : Heap} (x0 : ByteArray) (h : F228 x0 R H) : HCalls Tryz.prog 228 #[Value.string x0] H R :=
  calls_by (F := F228 x0 R H) (.node none .leaf (.node none (.node (some ⟨[(18, 4)], [4, 5, 6, 7, 8, 9, 10, 11, 12, 13, 14, 15, 16, 17]⟩) .leaf .leaf) (.node none (.node none .leaf (.node none (.node (some ⟨[(3, 3)], [2, 19, 20, 21, 22, 23, 24, 25, 26, 27, 28, 29, 30, 31, 32, 33, 34, 35, 36, 37, 38, 39, 40]⟩) (.node none .leaf (.node none (.node none (.node (some ⟨[(40, 4)], [25, 26, 27, 28, 29, 30, 31, 32, 33, 34, 35, 36, 37, 38, 39]⟩) .leaf .leaf) .leaf) .leaf)) .leaf) .leaf)) .leaf))) Tryz.func228 rfl (F228_eq x0 R H) h
end Go.Proofs.YtngploohhmfaiaaGreat.E
/- The functions' forms in the engine's words, printed by my own program. -/
namespace Go.Proofs.YtngploohhmfaiaaGreat.E
open Go Go.Proofs
set_option linter.unusedVariables false
/-- bollard/bollardplain.Fresh -/
def F23 (x0_0 : Value) (x0_1 : Value) (x0_2 : Value) (R : Ending → Heap → Prop) (H : Heap) : Prop :=
  al H (Obj.cells #[x0_0, x0_1, x0_2] 32) (fun r1 H2 =>
  al H2 (Obj.cells #[Value.int IntKind.i64 0, Value.int IntKind.i64 0, Value.int IntKind.i64 0] 32) (fun r3 H4 =>
  ld H4 (Addr.mk r1 0 none) (fun v5 =>
  ld H4 (Addr.mk r1 1 none) (fun v6 =>
  ld H4 (Addr.mk r1 2 none) (fun v7 =>
  HCalls Tryz.prog 66 #[Value.agg #[v5, v6, v7]] H4 (Sp.retK (fun v8 H9 =>
  dT 2 v8 (fun v10 v11 =>
  dSl v10 (fun p12 r13 r14 =>
  dInt IntKind.i64 v11 (fun n15 =>
  jn (α := VFH 1) (fun v16 H17 =>
  ∀ v18 v19 v20 v21 v22 v23 v24 v25 : Value,
  dSl v16 (fun p26 r27 r28 =>
  HCalls Tryz.prog 67 #[Value.slice p26 r27 r28, Value.int IntKind.i64 64] H17 (Sp.retK (fun v29 H30 =>
  dT 2 v29 (fun v31 v32 =>
  dPtr v31 (fun p33 =>
  dBl v32 (fun b34 =>
  ld H30 (Addr.mk r1 0 none) (fun v35 =>
  ld H30 (Addr.mk r1 1 none) (fun v36 =>
  ld H30 (Addr.mk r1 2 none) (fun v37 =>
  sB b34 (((ld H30 (Addr.mk r1 0 none) (fun v38 =>
  ld H30 (Addr.mk r1 1 none) (fun v39 =>
  ld H30 (Addr.mk r1 2 none) (fun v40 =>
  (Value.agg #[v38, v39, v40]) = (Value.agg #[v35, v36, v37]))))) ∧
  st H30 (Addr.mk r3 0 none) v35 (fun H41 =>
  st H41 (Addr.mk r3 1 none) v36 (fun H42 =>
  st H42 (Addr.mk r3 2 none) v37 (fun H43 =>
  ld H43 (Addr.mk r3 0 none) (fun v44 =>
  ld H43 (Addr.mk r3 1 none) (fun v45 =>
  ld H43 (Addr.mk r3 2 none) (fun v46 =>
  R (Ending.returned (Value.tuple #[Value.pointer p33, Value.agg #[v44, v45, v46], Value.bool !Option.isNone p33])) H43))))))) ∧
  st H30 (Addr.mk r3 0 none) v35 (fun H47 =>
  st H47 (Addr.mk r3 1 none) v36 (fun H48 =>
  st H48 (Addr.mk r3 2 none) v37 (fun H49 =>
  ld H49 (Addr.mk r3 0 none) (fun v50 =>
  ld H49 (Addr.mk r3 1 none) (fun v51 =>
  ld H49 (Addr.mk r3 2 none) (fun v52 =>
  R (Ending.returned (Value.tuple #[Value.pointer p33, Value.agg #[v50, v51, v52], Value.bool !Option.isNone p33])) H49))))))) (st H30 (Addr.mk r3 0 none) v35 (fun H53 =>
  st H53 (Addr.mk r3 1 none) v36 (fun H54 =>
  st H54 (Addr.mk r3 2 none) v37 (fun H55 =>
  ld H55 (Addr.mk r3 0 none) (fun v56 =>
  ld H55 (Addr.mk r3 1 none) (fun v57 =>
  ld H55 (Addr.mk r3 2 none) (fun v58 =>
  R (Ending.returned (Value.tuple #[Value.pointer p33, Value.agg #[v56, v57, v58], Value.bool false])) H55)))))))))))))) (pnR R)))) (fun k61 =>
  sB (n15 != 0) (st H9 (Addr.mk r1 0 none) (Value.int IntKind.i64 1) (fun H62 =>
  st H62 (Addr.mk r1 1 none) (Value.int IntKind.i64 8) (fun H63 =>
  st H63 (Addr.mk r1 2 none) (Value.int IntKind.i64 4) (fun H64 =>
  ld H64 (Addr.mk r1 0 none) (fun v65 =>
  ld H64 (Addr.mk r1 1 none) (fun v66 =>
  ld H64 (Addr.mk r1 2 none) (fun v67 =>
  HCalls Tryz.prog 66 #[Value.agg #[v65, v66, v67]] H64 (Sp.retK (fun v68 H69 =>
  dT 2 v68 (fun v70 v71 =>
  dSl v70 (fun p72 r73 r74 =>
  dInt IntKind.i64 v71 (fun n75 =>
  k61 (Value.slice p72 r73 r74) H69)))) (pnR R))))))))) (k61 (Value.slice p12 r13 r14) H9)))))) (pnR R)))))))
theorem F23_eq (x0_0 : Value) (x0_1 : Value) (x0_2 : Value) (R : Ending → Heap → Prop) (H : Heap) : F23 x0_0 x0_1 x0_2 R H = vc Tryz.prog (codeOf Tryz.f23) (.node none .leaf (.node none .leaf (.node (some ⟨[(5, 42)], [14, 15, 16, 17, 18, 19, 20, 21]⟩) .leaf .leaf))) (postV Tryz.prog Tryz.f23 R) ⟨#[Value.agg #[x0_0, x0_1, x0_2]] ++ Array.replicate (Tryz.f23.ntmps - 1) undef, []⟩ H := by kernel_rfl
theorem F23_calls {R : Ending → Heap → Prop} {H : Heap} (x0_0 : Value) (x0_1 : Value) (x0_2 : Value) (h : F23 x0_0 x0_1 x0_2 R H) : HCalls Tryz.prog 23 #[Value.agg #[x0_0, x0_1, x0_2]] H R :=
  calls_by (F := F23 x0_0 x0_1 x0_2 R H) (.node none .leaf (.node none .leaf (.node (some ⟨[(5, 42)], [14, 15, 16, 17, 18, 19, 20, 21]⟩) .leaf .leaf))) Tryz.func23 rfl (F23_eq x0_0 x0_1 x0_2 R H) h
/-- (*bollard/volume.Volume).Blocks -/
def F24 (x0 : Option Addr) (R : Ending → Heap → Prop) (H : Heap) : Prop :=
  HCalls Tryz.prog 68 #[Value.pointer x0] H (Sp.retK (fun v1 H2 =>
  dBl v1 (fun b3 =>
  sB (!b3) (R (Ending.returned (Value.int IntKind.i64 0)) H2) (nz x0 (fun a4 =>
  nz x0 (fun a5 =>
  ld H2 (Addr.add a5 2) (fun v6 =>
  dPtr v6 (fun p7 =>
  HCalls Tryz.prog 70 #[Value.pointer p7] H2 (Sp.retK (fun v8 H9 =>
  dInt IntKind.i64 v8 (fun n10 =>
  HCallsD Tryz.prog 69 #[Value.pointer (some a4)] FrameMode.returning H9 (fun e11 u12 H13 =>
  match e11 with
| Ending.returned v => leavesV Tryz.prog Tryz.f24 (Act.tmps (Act.mk #[Value.pointer x0, undef, Value.int IntKind.i64 n10, Value.pointer x0, Value.bool b3, Value.bool !b3, Value.pointer x0, Value.pointer (some a4), Value.pointer (some a4), Value.pointer x0, Value.pointer (some a5), Value.pointer (some (Addr.add a5 2)), Value.pointer p7, Value.int IntKind.i64 n10] [Deferred.mk (Target.fn (Fn.func 69) #[]) #[Value.pointer (some a4)]])) R [] (settle u12) H13
| Ending.panicked c => leavesV Tryz.prog Tryz.f24 (Act.tmps (Act.mk #[Value.pointer x0, undef, Value.int IntKind.i64 n10, Value.pointer x0, Value.bool b3, Value.bool !b3, Value.pointer x0, Value.pointer (some a4), Value.pointer (some a4), Value.pointer x0, Value.pointer (some a5), Value.pointer (some (Addr.add a5 2)), Value.pointer p7, Value.int IntKind.i64 n10] [Deferred.mk (Target.fn (Fn.func 69) #[]) #[Value.pointer (some a4)]])) R [] (raised u12 c) H13
| Ending.outgrown => False))) (fun c14 H15 =>
  HCallsD Tryz.prog 69 #[Value.pointer (some a4)] (FrameMode.panicking c14) H15 (fun e16 u17 H18 =>
  match e16 with
| Ending.returned v => leavesV Tryz.prog Tryz.f24 (Act.tmps (Act.mk #[Value.pointer x0, undef, Value.int IntKind.i64 0, Value.pointer x0, Value.bool b3, Value.bool !b3, Value.pointer x0, Value.pointer (some a4), Value.pointer (some a4), Value.pointer x0, Value.pointer (some a5), Value.pointer (some (Addr.add a5 2)), Value.pointer p7, undef] [Deferred.mk (Target.fn (Fn.func 69) #[]) #[Value.pointer (some a4)]])) R [] (settle u17) H18
| Ending.panicked c => leavesV Tryz.prog Tryz.f24 (Act.tmps (Act.mk #[Value.pointer x0, undef, Value.int IntKind.i64 0, Value.pointer x0, Value.bool b3, Value.bool !b3, Value.pointer x0, Value.pointer (some a4), Value.pointer (some a4), Value.pointer x0, Value.pointer (some a5), Value.pointer (some (Addr.add a5 2)), Value.pointer p7, undef] [Deferred.mk (Target.fn (Fn.func 69) #[]) #[Value.pointer (some a4)]])) R [] (raised u17 c) H18
| Ending.outgrown => False)))))))))) (pnR R))
theorem F24_eq (x0 : Option Addr) (R : Ending → Heap → Prop) (H : Heap) : F24 x0 R H = vc Tryz.prog (codeOf Tryz.f24) .leaf (postV Tryz.prog Tryz.f24 R) ⟨#[Value.pointer x0] ++ Array.replicate (Tryz.f24.ntmps - 1) undef, []⟩ H := by kernel_rfl
theorem F24_calls {R : Ending → Heap → Prop} {H : Heap} (x0 : Option Addr) (h : F24 x0 R H) : HCalls Tryz.prog 24 #[Value.pointer x0] H R :=
  calls_by (F := F24 x0 R H) .leaf Tryz.func24 rfl (F24_eq x0 R H) h
end Go.Proofs.YtngploohhmfaiaaGreat.E
/- The functions' forms in the engine's words, printed by my own program. -/
namespace Go.Proofs.YtngploohhmfaiaaGreat.E
open Go Go.Proofs
set_option linter.unusedVariables false
/-- bollard/volume.Open -/
def F31 (x0 : Option Addr) (x1 : Int) (R : Ending → Heap → Prop) (H : Heap) : Prop :=
  HCalls Tryz.prog 81 #[Value.pointer x0, Value.int IntKind.i64 x1] H (Sp.retK (fun v1 H2 =>
  dT 2 v1 (fun v3 v4 =>
  dPtr v3 (fun p5 =>
  dInt IntKind.i64 v4 (fun n6 =>
  sB (n6 != 0) (R (Ending.returned (Value.tuple #[Value.pointer none, Value.int IntKind.i64 n6])) H2) (HCalls Tryz.prog 82 #[] H2 (Sp.retK (fun v7 H8 =>
  dPtr v7 (fun p9 =>
  al H8 (Obj.map #[] 0) (fun r10 H11 =>
  al H11 (Obj.cells #[Value.int IntKind.i32 0, Value.int IntKind.u32 0, Value.pointer x0, Value.pointer p5, Value.pointer p9, Value.map (some r10), Value.bool false, Value.bool false, Value.int IntKind.i64 0, Value.map none] 57) (fun r12 H13 =>
  R (Ending.returned (Value.tuple #[Value.pointer (some (Addr.mk r12 0 none)), Value.int IntKind.i64 0])) H13)))) (pnR R))))))) (pnR R))
theorem F31_eq (x0 : Option Addr) (x1 : Int) (R : Ending → Heap → Prop) (H : Heap) : F31 x0 x1 R H = vc Tryz.prog (codeOf Tryz.f31) .leaf (postV Tryz.prog Tryz.f31 R) ⟨#[Value.pointer x0, Value.int IntKind.i64 x1] ++ Array.replicate (Tryz.f31.ntmps - 2) undef, []⟩ H := by kernel_rfl
theorem F31_calls {R : Ending → Heap → Prop} {H : Heap} (x0 : Option Addr) (x1 : Int) (h : F31 x0 x1 R H) : HCalls Tryz.prog 31 #[Value.pointer x0, Value.int IntKind.i64 x1] H R :=
  calls_by (F := F31 x0 x1 R H) .leaf Tryz.func31 rfl (F31_eq x0 x1 R H) h
/-- bollard/alloc.FreeBlock -/
def F42 (x0 : Option Addr) (x1_0 : Value) (x1_1 : Value) (x1_2 : Value) (x2 : Int) (x3a : Option Addr) (x3n : Nat) (x3c : Nat) (R : Ending → Heap → Prop) (H : Heap) : Prop :=
  al H (Obj.cells #[x1_0, x1_1, x1_2] 32) (fun r1 H2 =>
  ld H2 (Addr.mk r1 0 none) (fun v3 =>
  ld H2 (Addr.mk r1 1 none) (fun v4 =>
  ld H2 (Addr.mk r1 2 none) (fun v5 =>
  HCalls Tryz.prog 74 #[Value.pointer x0, Value.agg #[v3, v4, v5]] H2 (Sp.retK (fun v6 H7 =>
  dInt IntKind.i64 v6 (fun n8 =>
  sB (n8 != 0) (R (Ending.returned (Value.tuple #[Value.int IntKind.i64 0, Value.int IntKind.i64 n8])) H7) (ld H7 (Addr.mk r1 0 none) (fun v9 =>
  ld H7 (Addr.mk r1 1 none) (fun v10 =>
  ld H7 (Addr.mk r1 2 none) (fun v11 =>
  HCalls Tryz.prog 94 #[Value.agg #[v9, v10, v11], Value.int IntKind.i64 x2] H7 (Sp.retK (fun v12 H13 =>
  dBl v12 (fun b14 =>
  sB (!b14) (R (Ending.returned (Value.tuple #[Value.int IntKind.i64 0, Value.int IntKind.i64 90])) H13) (ld H13 (Addr.mk r1 0 none) (fun v15 =>
  ld H13 (Addr.mk r1 1 none) (fun v16 =>
  ld H13 (Addr.mk r1 2 none) (fun v17 =>
  HCalls Tryz.prog 78 #[Value.agg #[v15, v16, v17], Value.int IntKind.i64 x2] H13 (Sp.retK (fun v18 H19 =>
  dT 3 v18 (fun v20 v21 v22 =>
  dInt IntKind.i64 v20 (fun n23 =>
  dInt IntKind.i64 v21 (fun n24 =>
  dBl v22 (fun b25 =>
  ld H19 (Addr.mk r1 0 none) (fun v26 =>
  ld H19 (Addr.mk r1 1 none) (fun v27 =>
  ld H19 (Addr.mk r1 2 none) (fun v28 =>
  HCalls Tryz.prog 96 #[Value.pointer x0, Value.agg #[v26, v27, v28], Value.int IntKind.i64 n23, Value.int IntKind.i64 n24, Value.int IntKind.i64 12, Value.slice x3a x3n x3c] H19 (Sp.retK (fun v29 H30 =>
  dT 2 v29 (fun v31 v32 =>
  dInt IntKind.i64 v31 (fun n33 =>
  dInt IntKind.i64 v32 (fun n34 =>
  R (Ending.returned (Value.tuple #[Value.int IntKind.i64 n33, Value.int IntKind.i64 n34])) H30)))) (pnR R)))))))))) (pnR R)))))))) (pnR R)))))))) (pnR R))))))
theorem F42_eq (x0 : Option Addr) (x1_0 : Value) (x1_1 : Value) (x1_2 : Value) (x2 : Int) (x3a : Option Addr) (x3n : Nat) (x3c : Nat) (R : Ending → Heap → Prop) (H : Heap) : F42 x0 x1_0 x1_1 x1_2 x2 x3a x3n x3c R H = vc Tryz.prog (codeOf Tryz.f42) .leaf (postV Tryz.prog Tryz.f42 R) ⟨#[Value.pointer x0, Value.agg #[x1_0, x1_1, x1_2], Value.int IntKind.i64 x2, Value.slice x3a x3n x3c] ++ Array.replicate (Tryz.f42.ntmps - 4) undef, []⟩ H := by kernel_rfl
theorem F42_calls {R : Ending → Heap → Prop} {H : Heap} (x0 : Option Addr) (x1_0 : Value) (x1_1 : Value) (x1_2 : Value) (x2 : Int) (x3a : Option Addr) (x3n : Nat) (x3c : Nat) (h : F42 x0 x1_0 x1_1 x1_2 x2 x3a x3n x3c R H) : HCalls Tryz.prog 42 #[Value.pointer x0, Value.agg #[x1_0, x1_1, x1_2], Value.int IntKind.i64 x2, Value.slice x3a x3n x3c] H R :=
  calls_by (F := F42 x0 x1_0 x1_1 x1_2 x2 x3a x3n x3c R H) .leaf Tryz.func42 rfl (F42_eq x0 x1_0 x1_1 x1_2 x2 x3a x3n x3c R H) h
/-- bytes.Clone -/
def F48 (x0a : Option Addr) (x0n : Nat) (x0c : Nat) (R : Ending → Heap → Prop) (H : Heap) : Prop :=
  sB (Option.isNone x0a) (R (Ending.returned (Value.slice none 0 0)) H) (al H (Obj.cells #[] 5) (fun r1 H2 =>
  semW Tryz.prog (Builtin.append_ #[38, 38] 38 #[Value.slice (some (Addr.mk r1 0 none)) 0 0, Value.slice x0a x0n x0c]) (pnR R) H2 (fun v5 H6 =>
  dSl v5 (fun p7 r8 r9 =>
  R (Ending.returned (Value.slice p7 r8 r9)) H6))))
theorem F48_eq (x0a : Option Addr) (x0n : Nat) (x0c : Nat) (R : Ending → Heap → Prop) (H : Heap) : F48 x0a x0n x0c R H = vc Tryz.prog (codeOf Tryz.f48) .leaf (postV Tryz.prog Tryz.f48 R) ⟨#[Value.slice x0a x0n x0c] ++ Array.replicate (Tryz.f48.ntmps - 1) undef, []⟩ H := by kernel_rfl
theorem F48_calls {R : Ending → Heap → Prop} {H : Heap} (x0a : Option Addr) (x0n : Nat) (x0c : Nat) (h : F48 x0a x0n x0c R H) : HCalls Tryz.prog 48 #[Value.slice x0a x0n x0c] H R :=
  calls_by (F := F48 x0a x0n x0c R H) .leaf Tryz.func48 rfl (F48_eq x0a x0n x0c R H) h
end Go.Proofs.YtngploohhmfaiaaGreat.E
/- The functions' forms in the engine's words, printed by my own program. -/
namespace Go.Proofs.YtngploohhmfaiaaGreat.E
open Go Go.Proofs
set_option linter.unusedVariables false
/-- bollard/alloc.FreeInode -/
def F49 (x0 : Option Addr) (x1_0 : Value) (x1_1 : Value) (x1_2 : Value) (x2 : Int) (x3a : Option Addr) (x3n : Nat) (x3c : Nat) (R : Ending → Heap → Prop) (H : Heap) : Prop :=
  al H (Obj.cells #[x1_0, x1_1, x1_2] 32) (fun r1 H2 =>
  ld H2 (Addr.mk r1 0 none) (fun v3 =>
  ld H2 (Addr.mk r1 1 none) (fun v4 =>
  ld H2 (Addr.mk r1 2 none) (fun v5 =>
  HCalls Tryz.prog 74 #[Value.pointer x0, Value.agg #[v3, v4, v5]] H2 (Sp.retK (fun v6 H7 =>
  dInt IntKind.i64 v6 (fun n8 =>
  sB (n8 != 0) (R (Ending.returned (Value.tuple #[Value.int IntKind.i64 0, Value.int IntKind.i64 n8])) H7) (jn (α := VFH 1) (fun v9 H10 =>
  ∀ v11 v12 v13 v14 v15 v16 v17 v18 : Value,
  dBl v9 (fun b19 =>
  sB b19 (R (Ending.returned (Value.tuple #[Value.int IntKind.i64 0, Value.int IntKind.i64 130])) H10) (ld H10 (Addr.mk r1 0 none) (fun v20 =>
  ld H10 (Addr.mk r1 1 none) (fun v21 =>
  ld H10 (Addr.mk r1 2 none) (fun v22 =>
  HCalls Tryz.prog 104 #[Value.agg #[v20, v21, v22], Value.int IntKind.i64 x2] H10 (Sp.retK (fun v23 H24 =>
  dT 3 v23 (fun v25 v26 v27 =>
  dInt IntKind.i64 v25 (fun n28 =>
  dInt IntKind.i64 v26 (fun n29 =>
  dBl v27 (fun b30 =>
  ld H24 (Addr.mk r1 0 none) (fun v31 =>
  ld H24 (Addr.mk r1 1 none) (fun v32 =>
  ld H24 (Addr.mk r1 2 none) (fun v33 =>
  HCalls Tryz.prog 96 #[Value.pointer x0, Value.agg #[v31, v32, v33], Value.int IntKind.i64 n28, Value.int IntKind.i64 n29, Value.int IntKind.i64 4, Value.slice x3a x3n x3c] H24 (Sp.retK (fun v34 H35 =>
  dT 2 v34 (fun v36 v37 =>
  dInt IntKind.i64 v36 (fun n38 =>
  dInt IntKind.i64 v37 (fun n39 =>
  R (Ending.returned (Value.tuple #[Value.int IntKind.i64 n38, Value.int IntKind.i64 n39])) H35)))) (pnR R)))))))))) (pnR R)))))))) (fun k44 =>
  sB (decide (x2 ≤ 2)) (k44 (Value.bool true) H7) (ld H7 (Addr.mk r1 0 none) (fun v45 =>
  ld H7 (Addr.mk r1 1 none) (fun v46 =>
  ld H7 (Addr.mk r1 2 none) (fun v47 =>
  HCalls Tryz.prog 103 #[Value.agg #[v45, v46, v47]] H7 (Sp.retK (fun v48 H49 =>
  dInt IntKind.i64 v48 (fun n50 =>
  k44 (Value.bool (decide (x2 ≥ n50))) H49)) (pnR R)))))))))) (pnR R))))))
theorem F49_eq (x0 : Option Addr) (x1_0 : Value) (x1_1 : Value) (x1_2 : Value) (x2 : Int) (x3a : Option Addr) (x3n : Nat) (x3c : Nat) (R : Ending → Heap → Prop) (H : Heap) : F49 x0 x1_0 x1_1 x1_2 x2 x3a x3n x3c R H = vc Tryz.prog (codeOf Tryz.f49) (.node none .leaf (.node none .leaf (.node none (.node none (.node none .leaf (.node none .leaf (.node (some ⟨[(21, 4)], [22, 23, 24, 25, 26, 27, 28, 29]⟩) .leaf .leaf))) .leaf) .leaf))) (postV Tryz.prog Tryz.f49 R) ⟨#[Value.pointer x0, Value.agg #[x1_0, x1_1, x1_2], Value.int IntKind.i64 x2, Value.slice x3a x3n x3c] ++ Array.replicate (Tryz.f49.ntmps - 4) undef, []⟩ H := by kernel_rfl
theorem F49_calls {R : Ending → Heap → Prop} {H : Heap} (x0 : Option Addr) (x1_0 : Value) (x1_1 : Value) (x1_2 : Value) (x2 : Int) (x3a : Option Addr) (x3n : Nat) (x3c : Nat) (h : F49 x0 x1_0 x1_1 x1_2 x2 x3a x3n x3c R H) : HCalls Tryz.prog 49 #[Value.pointer x0, Value.agg #[x1_0, x1_1, x1_2], Value.int IntKind.i64 x2, Value.slice x3a x3n x3c] H R :=
  calls_by (F := F49 x0 x1_0 x1_1 x1_2 x2 x3a x3n x3c R H) (.node none .leaf (.node none .leaf (.node none (.node none (.node none .leaf (.node none .leaf (.node (some ⟨[(21, 4)], [22, 23, 24, 25, 26, 27, 28, 29]⟩) .leaf .leaf))) .leaf) .leaf))) Tryz.func49 rfl (F49_eq x0 x1_0 x1_1 x1_2 x2 x3a x3n x3c R H) h
/-- (*bollard/volume.Volume).Last -/
def F52 (x0 : Option Addr) (R : Ending → Heap → Prop) (H : Heap) : Prop :=
  HCalls Tryz.prog 68 #[Value.pointer x0] H (Sp.retK (fun v1 H2 =>
  dBl v1 (fun b3 =>
  sB (!b3) (R (Ending.returned (Value.int IntKind.i64 0)) H2) (nz x0 (fun a4 =>
  nz x0 (fun a5 =>
  ld H2 (Addr.add a5 4) (fun v6 =>
  dPtr v6 (fun p7 =>
  HCalls Tryz.prog 105 #[Value.pointer p7] H2 (Sp.retK (fun v8 H9 =>
  dInt IntKind.i64 v8 (fun n10 =>
  HCallsD Tryz.prog 69 #[Value.pointer (some a4)] FrameMode.returning H9 (fun e11 u12 H13 =>
  match e11 with
| Ending.returned v => leavesV Tryz.prog Tryz.f52 (Act.tmps (Act.mk #[Value.pointer x0, undef, Value.int IntKind.i64 n10, Value.pointer x0, Value.bool b3, Value.bool !b3, Value.pointer x0, Value.pointer (some a4), Value.pointer (some a4), Value.pointer x0, Value.pointer (some a5), Value.pointer (some (Addr.add a5 4)), Value.pointer p7, Value.int IntKind.i64 n10] [Deferred.mk (Target.fn (Fn.func 69) #[]) #[Value.pointer (some a4)]])) R [] (settle u12) H13
| Ending.panicked c => leavesV Tryz.prog Tryz.f52 (Act.tmps (Act.mk #[Value.pointer x0, undef, Value.int IntKind.i64 n10, Value.pointer x0, Value.bool b3, Value.bool !b3, Value.pointer x0, Value.pointer (some a4), Value.pointer (some a4), Value.pointer x0, Value.pointer (some a5), Value.pointer (some (Addr.add a5 4)), Value.pointer p7, Value.int IntKind.i64 n10] [Deferred.mk (Target.fn (Fn.func 69) #[]) #[Value.pointer (some a4)]])) R [] (raised u12 c) H13
| Ending.outgrown => False))) (fun c14 H15 =>
  HCallsD Tryz.prog 69 #[Value.pointer (some a4)] (FrameMode.panicking c14) H15 (fun e16 u17 H18 =>
  match e16 with
| Ending.returned v => leavesV Tryz.prog Tryz.f52 (Act.tmps (Act.mk #[Value.pointer x0, undef, Value.int IntKind.i64 0, Value.pointer x0, Value.bool b3, Value.bool !b3, Value.pointer x0, Value.pointer (some a4), Value.pointer (some a4), Value.pointer x0, Value.pointer (some a5), Value.pointer (some (Addr.add a5 4)), Value.pointer p7, undef] [Deferred.mk (Target.fn (Fn.func 69) #[]) #[Value.pointer (some a4)]])) R [] (settle u17) H18
| Ending.panicked c => leavesV Tryz.prog Tryz.f52 (Act.tmps (Act.mk #[Value.pointer x0, undef, Value.int IntKind.i64 0, Value.pointer x0, Value.bool b3, Value.bool !b3, Value.pointer x0, Value.pointer (some a4), Value.pointer (some a4), Value.pointer x0, Value.pointer (some a5), Value.pointer (some (Addr.add a5 4)), Value.pointer p7, undef] [Deferred.mk (Target.fn (Fn.func 69) #[]) #[Value.pointer (some a4)]])) R [] (raised u17 c) H18
| Ending.outgrown => False)))))))))) (pnR R))
theorem F52_eq (x0 : Option Addr) (R : Ending → Heap → Prop) (H : Heap) : F52 x0 R H = vc Tryz.prog (codeOf Tryz.f52) .leaf (postV Tryz.prog Tryz.f52 R) ⟨#[Value.pointer x0] ++ Array.replicate (Tryz.f52.ntmps - 1) undef, []⟩ H := by kernel_rfl
theorem F52_calls {R : Ending → Heap → Prop} {H : Heap} (x0 : Option Addr) (h : F52 x0 R H) : HCalls Tryz.prog 52 #[Value.pointer x0] H R :=
  calls_by (F := F52 x0 R H) .leaf Tryz.func52 rfl (F52_eq x0 R H) h
/-- (*bollard/volume.Volume).Undo -/
def F54 (x0 : Option Addr) (x1 : Int) (R : Ending → Heap → Prop) (H : Heap) : Prop :=
  HCalls Tryz.prog 68 #[Value.pointer x0] H (Sp.retK (fun v1 H2 =>
  dBl v1 (fun b3 =>
  sB (!b3) (R (Ending.returned (Value.int IntKind.i64 2)) H2) (nz x0 (fun a4 =>
  nz x0 (fun a5 =>
  ld H2 (Addr.add a5 4) (fun v6 =>
  dPtr v6 (fun p7 =>
  HCalls Tryz.prog 106 #[Value.pointer p7, Value.int IntKind.i64 x1] H2 (Sp.retK (fun v8 H9 =>
  dInt IntKind.i64 v8 (fun n10 =>
  HCallsD Tryz.prog 69 #[Value.pointer (some a4)] FrameMode.returning H9 (fun e11 u12 H13 =>
  match e11 with
| Ending.returned v => leavesV Tryz.prog Tryz.f54 (Act.tmps (Act.mk #[Value.pointer x0, Value.int IntKind.i64 x1, undef, undef, Value.int IntKind.i64 n10, Value.pointer x0, Value.bool b3, Value.bool !b3, Value.pointer x0, Value.pointer (some a4), Value.pointer (some a4), Value.pointer x0, Value.pointer (some a5), Value.pointer (some (Addr.add a5 4)), Value.pointer p7, Value.int IntKind.i64 x1, Value.int IntKind.i64 n10] [Deferred.mk (Target.fn (Fn.func 69) #[]) #[Value.pointer (some a4)]])) R [] (settle u12) H13
| Ending.panicked c => leavesV Tryz.prog Tryz.f54 (Act.tmps (Act.mk #[Value.pointer x0, Value.int IntKind.i64 x1, undef, undef, Value.int IntKind.i64 n10, Value.pointer x0, Value.bool b3, Value.bool !b3, Value.pointer x0, Value.pointer (some a4), Value.pointer (some a4), Value.pointer x0, Value.pointer (some a5), Value.pointer (some (Addr.add a5 4)), Value.pointer p7, Value.int IntKind.i64 x1, Value.int IntKind.i64 n10] [Deferred.mk (Target.fn (Fn.func 69) #[]) #[Value.pointer (some a4)]])) R [] (raised u12 c) H13
| Ending.outgrown => False))) (fun c14 H15 =>
  HCallsD Tryz.prog 69 #[Value.pointer (some a4)] (FrameMode.panicking c14) H15 (fun e16 u17 H18 =>
  match e16 with
| Ending.returned v => leavesV Tryz.prog Tryz.f54 (Act.tmps (Act.mk #[Value.pointer x0, Value.int IntKind.i64 x1, undef, undef, Value.int IntKind.i64 0, Value.pointer x0, Value.bool b3, Value.bool !b3, Value.pointer x0, Value.pointer (some a4), Value.pointer (some a4), Value.pointer x0, Value.pointer (some a5), Value.pointer (some (Addr.add a5 4)), Value.pointer p7, Value.int IntKind.i64 x1, undef] [Deferred.mk (Target.fn (Fn.func 69) #[]) #[Value.pointer (some a4)]])) R [] (settle u17) H18
| Ending.panicked c => leavesV Tryz.prog Tryz.f54 (Act.tmps (Act.mk #[Value.pointer x0, Value.int IntKind.i64 x1, undef, undef, Value.int IntKind.i64 0, Value.pointer x0, Value.bool b3, Value.bool !b3, Value.pointer x0, Value.pointer (some a4), Value.pointer (some a4), Value.pointer x0, Value.pointer (some a5), Value.pointer (some (Addr.add a5 4)), Value.pointer p7, Value.int IntKind.i64 x1, undef] [Deferred.mk (Target.fn (Fn.func 69) #[]) #[Value.pointer (some a4)]])) R [] (raised u17 c) H18
| Ending.outgrown => False)))))))))) (pnR R))
theorem F54_eq (x0 : Option Addr) (x1 : Int) (R : Ending → Heap → Prop) (H : Heap) : F54 x0 x1 R H = vc Tryz.prog (codeOf Tryz.f54) .leaf (postV Tryz.prog Tryz.f54 R) ⟨#[Value.pointer x0, Value.int IntKind.i64 x1] ++ Array.replicate (Tryz.f54.ntmps - 2) undef, []⟩ H := by kernel_rfl
theorem F54_calls {R : Ending → Heap → Prop} {H : Heap} (x0 : Option Addr) (x1 : Int) (h : F54 x0 x1 R H) : HCalls Tryz.prog 54 #[Value.pointer x0, Value.int IntKind.i64 x1] H R :=
  calls_by (F := F54 x0 x1 R H) .leaf Tryz.func54 rfl (F54_eq x0 x1 R H) h
end Go.Proofs.YtngploohhmfaiaaGreat.E
/- The functions' forms in the engine's words, printed by my own program. -/
namespace Go.Proofs.YtngploohhmfaiaaGreat.E
open Go Go.Proofs
set_option linter.unusedVariables false
/-- bollard/geom.Blocks -/
def F64 (x0_0 : Value) (x0_1 : Value) (x0_2 : Value) (R : Ending → Heap → Prop) (H : Heap) : Prop :=
  al H (Obj.cells #[x0_0, x0_1, x0_2] 32) (fun r1 H2 =>
  ld H2 (Addr.mk r1 0 none) (fun v3 =>
  ld H2 (Addr.mk r1 1 none) (fun v4 =>
  ld H2 (Addr.mk r1 2 none) (fun v5 =>
  ld H2 (Addr.mk r1 1 none) (fun v6 =>
  dInt IntKind.i64 v6 (fun n7 =>
  HCalls Tryz.prog 114 #[Value.agg #[v3, v4, v5], Value.int IntKind.i64 n7] H2 (Sp.retK (fun v8 H9 =>
  dInt IntKind.i64 v8 (fun n10 =>
  R (Ending.returned (Value.int IntKind.i64 n10)) H9)) (pnR R))))))))
theorem F64_eq (x0_0 : Value) (x0_1 : Value) (x0_2 : Value) (R : Ending → Heap → Prop) (H : Heap) : F64 x0_0 x0_1 x0_2 R H = vc Tryz.prog (codeOf Tryz.f64) .leaf (postV Tryz.prog Tryz.f64 R) ⟨#[Value.agg #[x0_0, x0_1, x0_2]] ++ Array.replicate (Tryz.f64.ntmps - 1) undef, []⟩ H := by kernel_rfl
theorem F64_calls {R : Ending → Heap → Prop} {H : Heap} (x0_0 : Value) (x0_1 : Value) (x0_2 : Value) (h : F64 x0_0 x0_1 x0_2 R H) : HCalls Tryz.prog 64 #[Value.agg #[x0_0, x0_1, x0_2]] H R :=
  calls_by (F := F64 x0_0 x0_1 x0_2 R H) .leaf Tryz.func64 rfl (F64_eq x0_0 x0_1 x0_2 R H) h
/-- bollard/geom.Can -/
def F65 (x0_0 : Value) (x0_1 : Value) (x0_2 : Value) (R : Ending → Heap → Prop) (H : Heap) : Prop :=
  al H (Obj.cells #[x0_0, x0_1, x0_2] 32) (fun r1 H2 =>
  jn (α := VFH 1) (fun v3 H4 =>
  ∀ v5 v6 v7 v8 v9 v10 v11 v12 v13 v14 v15 v16 v17 : Value,
  dBl v3 (fun b18 =>
  jn (α := VFH 1) (fun v19 H20 =>
  ∀ v21 v22 v23 v24 v25 v26 v27 v28 v29 v30 v31 v32 v33 v34 v35 : Value,
  dBl v19 (fun b36 =>
  sB b36 (R (Ending.returned (Value.int IntKind.i64 170)) H20) (R (Ending.returned (Value.int IntKind.i64 0)) H20))) (fun k37 =>
  sB (!b18) (k37 (Value.bool true) H4) (ld H4 (Addr.mk r1 2 none) (fun v38 =>
  dInt IntKind.i64 v38 (fun n39 =>
  ask ((4 : Int) ≠ (0 : Int)) (nm (Int.tmod n39 4) (fun n40 =>
  sB (n40 != 0) (k37 (Value.bool true) H4) (ld H4 (Addr.mk r1 1 none) (fun v41 =>
  dInt IntKind.i64 v41 (fun n42 =>
  ld H4 (Addr.mk r1 0 none) (fun v43 =>
  ld H4 (Addr.mk r1 1 none) (fun v44 =>
  ld H4 (Addr.mk r1 2 none) (fun v45 =>
  HCalls Tryz.prog 116 #[Value.agg #[v43, v44, v45]] H4 (Sp.retK (fun v46 H47 =>
  dInt IntKind.i64 v46 (fun n48 =>
  (ld H47 (Addr.mk r1 1 none) (fun v49 =>
  dInt IntKind.i64 v49 (fun n50 =>
  (Value.int IntKind.i64 n50) = (Value.int IntKind.i64 n42)))) ∧
  wr IntKind.i64 (n48 + 1) (fun n51 =>
  k37 (Value.bool (decide (n42 < n51))) H47))) nopR))))))))))))))) (fun k54 =>
  ld H2 (Addr.mk r1 0 none) (fun v55 =>
  dInt IntKind.i64 v55 (fun n56 =>
  HCalls Tryz.prog 115 #[Value.int IntKind.i64 n56, Value.int IntKind.i64 1, Value.int IntKind.i64 8] H2 (Sp.retK (fun v57 H58 =>
  dBl v57 (fun b59 =>
  sB b59 (ld H58 (Addr.mk r1 1 none) (fun v60 =>
  dInt IntKind.i64 v60 (fun n61 =>
  HCalls Tryz.prog 115 #[Value.int IntKind.i64 n61, Value.int IntKind.i64 8, Value.int IntKind.i64 256] H58 (Sp.retK (fun v62 H63 =>
  dBl v62 (fun b64 =>
  sB b64 (ld H63 (Addr.mk r1 2 none) (fun v65 =>
  dInt IntKind.i64 v65 (fun n66 =>
  HCalls Tryz.prog 115 #[Value.int IntKind.i64 n66, Value.int IntKind.i64 4, Value.int IntKind.i64 64] H63 (Sp.retK (fun v67 H68 =>
  dBl v67 (fun b69 =>
  k54 (Value.bool b69) H68)) (pnR R))))) (k54 (Value.bool false) H63))) (pnR R))))) (k54 (Value.bool false) H58))) (pnR R))))))
theorem F65_eq (x0_0 : Value) (x0_1 : Value) (x0_2 : Value) (R : Ending → Heap → Prop) (H : Heap) : F65 x0_0 x0_1 x0_2 R H = vc Tryz.prog (codeOf Tryz.f65) (.node none .leaf (.node (some ⟨[(3, 4)], [4, 5, 6, 7, 8, 9, 10, 11, 12, 13, 14, 15, 16]⟩) .leaf (.node none (.node (some ⟨[(32, 4)], [17, 18, 19, 20, 21, 22, 23, 24, 25, 26, 27, 28, 29, 30, 31]⟩) .leaf .leaf) .leaf))) (postV Tryz.prog Tryz.f65 R) ⟨#[Value.agg #[x0_0, x0_1, x0_2]] ++ Array.replicate (Tryz.f65.ntmps - 1) undef, []⟩ H := by kernel_rfl
theorem F65_calls {R : Ending → Heap → Prop} {H : Heap} (x0_0 : Value) (x0_1 : Value) (x0_2 : Value) (h : F65 x0_0 x0_1 x0_2 R H) : HCalls Tryz.prog 65 #[Value.agg #[x0_0, x0_1, x0_2]] H R :=
  calls_by (F := F65 x0_0 x0_1 x0_2 R H) (.node none .leaf (.node (some ⟨[(3, 4)], [4, 5, 6, 7, 8, 9, 10, 11, 12, 13, 14, 15, 16]⟩) .leaf (.node none (.node (some ⟨[(32, 4)], [17, 18, 19, 20, 21, 22, 23, 24, 25, 26, 27, 28, 29, 30, 31]⟩) .leaf .leaf) .leaf))) Tryz.func65 rfl (F65_eq x0_0 x0_1 x0_2 R H) h
/-- bollard/bollardplain.Of -/
def F67 (x0a : Option Addr) (x0n : Nat) (x0c : Nat) (x1 : Int) (R : Ending → Heap → Prop) (H : Heap) : Prop :=
  al H (Obj.cells #[Value.pointer none, Value.pointer none, Value.pointer none, Value.pointer none] 67) (fun r1 H2 =>
  HCalls Tryz.prog 121 #[Value.slice x0a x0n x0c] H2 (Sp.retK (fun v3 H4 =>
  dSl v3 (fun p5 r6 r7 =>
  HCalls Tryz.prog 97 #[Value.slice p5 r6 r7] H4 (Sp.retK (fun v8 H9 =>
  dT 2 v8 (fun v10 v11 =>
  dPtr v10 (fun p12 =>
  dInt IntKind.i64 v11 (fun n13 =>
  HCalls Tryz.prog 122 #[Value.slice x0a x0n x0c] H9 (Sp.retK (fun v14 H15 =>
  dT 2 v14 (fun v16 v17 =>
  dPtr v16 (fun p18 =>
  dInt IntKind.i64 v17 (fun n19 =>
  jn (α := VFH 1) (fun v20 H21 =>
  ∀ v22 v23 v24 v25 v26 v27 v28 v29 v30 v31 : Value,
  dBl v20 (fun b32 =>
  sB b32 (sB (n13 == n19) (sB (Option.isNone p12) (R (Ending.returned (Value.tuple #[Value.pointer none, Value.bool (Option.isNone p18)])) H21) (R (Ending.returned (Value.tuple #[Value.pointer none, Value.bool false])) H21)) (R (Ending.returned (Value.tuple #[Value.pointer none, Value.bool false])) H21)) (HCalls Tryz.prog 31 #[Value.pointer p12, Value.int IntKind.i64 x1] H21 (Sp.retK (fun v33 H34 =>
  dT 2 v33 (fun v35 v36 =>
  dPtr v35 (fun p37 =>
  dInt IntKind.i64 v36 (fun n38 =>
  HCalls Tryz.prog 123 #[Value.pointer p18, Value.int IntKind.i64 x1] H34 (Sp.retK (fun v39 H40 =>
  dT 2 v39 (fun v41 v42 =>
  dPtr v41 (fun p43 =>
  dInt IntKind.i64 v42 (fun n44 =>
  jn (α := VFH 1) (fun v45 H46 =>
  ∀ v47 v48 v49 v50 v51 v52 v53 v54 v55 : Value,
  dBl v45 (fun b56 =>
  sB b56 (R (Ending.returned (Value.tuple #[Value.pointer none, Value.bool false])) H46) (sB (Option.isNone p43) (R (Ending.returned (Value.tuple #[Value.pointer none, Value.bool true])) H46) (st H46 (Addr.mk r1 0 none) (Value.pointer p12) (fun H57 =>
  st H57 (Addr.mk r1 1 none) (Value.pointer p37) (fun H58 =>
  st H58 (Addr.mk r1 2 none) (Value.pointer p18) (fun H59 =>
  st H59 (Addr.mk r1 3 none) (Value.pointer p43) (fun H60 =>
  R (Ending.returned (Value.tuple #[Value.pointer (some (Addr.mk r1 0 none)), Value.bool true])) H60)))))))) (fun k61 =>
  sB (n38 != n44) (k61 (Value.bool true) H40) (k61 (Value.bool !Option.isNone p37 == Option.isNone p43) H40)))))) (pnR R)))))) (pnR R))))) (fun k66 =>
  sB (n13 != n19) (k66 (Value.bool true) H15) (sB (Option.isNone p12) (k66 (Value.bool true) H15) (k66 (Value.bool (Option.isNone p18)) H15))))))) (pnR R)))))) (pnR R)))) (pnR R)))
theorem F67_eq (x0a : Option Addr) (x0n : Nat) (x0c : Nat) (x1 : Int) (R : Ending → Heap → Prop) (H : Heap) : F67 x0a x0n x0c x1 R H = vc Tryz.prog (codeOf Tryz.f67) (.node none .leaf (.node none .leaf (.node none .leaf (.node none .leaf (.node none (.node (some ⟨[(36, 4)], [26, 27, 28, 29, 30, 31, 32, 33, 34, 35]⟩) .leaf .leaf) (.node none .leaf (.node none .leaf (.node none (.node (some ⟨[(69, 4)], [60, 61, 62, 63, 64, 65, 66, 67, 68]⟩) .leaf .leaf) .leaf)))))))) (postV Tryz.prog Tryz.f67 R) ⟨#[Value.slice x0a x0n x0c, Value.int IntKind.i64 x1] ++ Array.replicate (Tryz.f67.ntmps - 2) undef, []⟩ H := by kernel_rfl
theorem F67_calls {R : Ending → Heap → Prop} {H : Heap} (x0a : Option Addr) (x0n : Nat) (x0c : Nat) (x1 : Int) (h : F67 x0a x0n x0c x1 R H) : HCalls Tryz.prog 67 #[Value.slice x0a x0n x0c, Value.int IntKind.i64 x1] H R :=
  calls_by (F := F67 x0a x0n x0c x1 R H) (.node none .leaf (.node none .leaf (.node none .leaf (.node none .leaf (.node none (.node (some ⟨[(36, 4)], [26, 27, 28, 29, 30, 31, 32, 33, 34, 35]⟩) .leaf .leaf) (.node none .leaf (.node none .leaf (.node none (.node (some ⟨[(69, 4)], [60, 61, 62, 63, 64, 65, 66, 67, 68]⟩) .leaf .leaf) .leaf)))))))) Tryz.func67 rfl (F67_eq x0a x0n x0c x1 R H) h
/-- (*bollard/volume.Volume).held -/
def F68 (x0 : Option Addr) (R : Ending → Heap → Prop) (H : Heap) : Prop :=
  sB (Option.isNone x0) (R (Ending.returned (Value.bool false)) H) (nz x0 (fun a1 =>
  HCalls Tryz.prog 113 #[Value.pointer (some a1)] H (Sp.retK (fun v2 H3 =>
  nz x0 (fun a4 =>
  ld H3 (Addr.add a4 2) (fun v5 =>
  dPtr v5 (fun p6 =>
  sB (Option.isNone p6) (nz x0 (fun a7 =>
  HCalls Tryz.prog 69 #[Value.pointer (some a7)] H3 (Sp.retK (fun v8 H9 =>
  R (Ending.returned (Value.bool false)) H9) (pnR R)))) (R (Ending.returned (Value.bool true)) H3))))) (pnR R))))
theorem F68_eq (x0 : Option Addr) (R : Ending → Heap → Prop) (H : Heap) : F68 x0 R H = vc Tryz.prog (codeOf Tryz.f68) .leaf (postV Tryz.prog Tryz.f68 R) ⟨#[Value.pointer x0] ++ Array.replicate (Tryz.f68.ntmps - 1) undef, []⟩ H := by kernel_rfl
theorem F68_calls {R : Ending → Heap → Prop} {H : Heap} (x0 : Option Addr) (h : F68 x0 R H) : HCalls Tryz.prog 68 #[Value.pointer x0] H R :=
  calls_by (F := F68 x0 R H) .leaf Tryz.func68 rfl (F68_eq x0 R H) h
/-- (*bollard/disk.Disk).Blocks -/
def F70 (x0 : Option Addr) (R : Ending → Heap → Prop) (H : Heap) : Prop :=
  sB (Option.isNone x0) (R (Ending.returned (Value.int IntKind.i64 0)) H) (nz x0 (fun a1 =>
  ld H a1 (fun v2 =>
  dSl v2 (fun p3 r4 r5 =>
  R (Ending.returned (Value.int IntKind.i64 (↑r4 : Int))) H))))
theorem F70_eq (x0 : Option Addr) (R : Ending → Heap → Prop) (H : Heap) : F70 x0 R H = vc Tryz.prog (codeOf Tryz.f70) .leaf (postV Tryz.prog Tryz.f70 R) ⟨#[Value.pointer x0] ++ Array.replicate (Tryz.f70.ntmps - 1) undef, []⟩ H := by kernel_rfl
theorem F70_calls {R : Ending → Heap → Prop} {H : Heap} (x0 : Option Addr) (h : F70 x0 R H) : HCalls Tryz.prog 70 #[Value.pointer x0] H R :=
  calls_by (F := F70 x0 R H) .leaf Tryz.func70 rfl (F70_eq x0 R H) h
end Go.Proofs.YtngploohhmfaiaaGreat.E
/- The functions' forms in the engine's words, printed by my own program. -/
namespace Go.Proofs.YtngploohhmfaiaaGreat.E
open Go Go.Proofs
set_option linter.unusedVariables false
/-- bollard/alloc.ready -/
def F74 (x0 : Option Addr) (x1_0 : Value) (x1_1 : Value) (x1_2 : Value) (R : Ending → Heap → Prop) (H : Heap) : Prop :=
  al H (Obj.cells #[x1_0, x1_1, x1_2] 32) (fun r1 H2 =>
  HCalls Tryz.prog 52 #[Value.pointer x0] H2 (Sp.retK (fun v3 H4 =>
  dInt IntKind.i64 v3 (fun n5 =>
  HCalls Tryz.prog 54 #[Value.pointer x0, Value.int IntKind.i64 n5] H4 (Sp.retK (fun v6 H7 =>
  dInt IntKind.i64 v6 (fun n8 =>
  sB (n8 == 2) (R (Ending.returned (Value.int IntKind.i64 2)) H7) (ld H7 (Addr.mk r1 0 none) (fun v9 =>
  ld H7 (Addr.mk r1 1 none) (fun v10 =>
  ld H7 (Addr.mk r1 2 none) (fun v11 =>
  HCalls Tryz.prog 65 #[Value.agg #[v9, v10, v11]] H7 (Sp.retK (fun v12 H13 =>
  dInt IntKind.i64 v12 (fun n14 =>
  jn (α := VFH 1) (fun v15 H16 =>
  ∀ v17 v18 v19 v20 v21 v22 v23 v24 v25 : Value,
  dInt IntKind.i64 v15 (fun n26 =>
  R (Ending.returned (Value.int IntKind.i64 n26)) H16)) (fun k27 =>
  jn (α := VFH 1) (fun v28 H29 =>
  ∀ v30 v31 v32 v33 v34 v35 v36 v37 : Value,
  dBl v28 (fun b38 =>
  sB b38 (k27 (Value.int IntKind.i64 170) H29) (k27 (Value.int IntKind.i64 n14) H29))) (fun k39 =>
  sB (n14 == 0) (ld H13 (Addr.mk r1 0 none) (fun v40 =>
  ld H13 (Addr.mk r1 1 none) (fun v41 =>
  ld H13 (Addr.mk r1 2 none) (fun v42 =>
  HCalls Tryz.prog 24 #[Value.pointer x0] H13 (Sp.retK (fun v43 H44 =>
  dInt IntKind.i64 v43 (fun n45 =>
  (ld H44 (Addr.mk r1 0 none) (fun v46 =>
  ld H44 (Addr.mk r1 1 none) (fun v47 =>
  ld H44 (Addr.mk r1 2 none) (fun v48 =>
  (Value.agg #[v46, v47, v48]) = (Value.agg #[v40, v41, v42]))))) ∧
  HCalls Tryz.prog 64 #[Value.agg #[v40, v41, v42]] H44 (Sp.retK (fun v49 H50 =>
  dInt IntKind.i64 v49 (fun n51 =>
  k39 (Value.bool (decide (n45 < n51))) H50)) nopR))) nopR))))) (k39 (Value.bool false) H13))))) (pnR R)))))))) (pnR R)))) (pnR R)))
theorem F74_eq (x0 : Option Addr) (x1_0 : Value) (x1_1 : Value) (x1_2 : Value) (R : Ending → Heap → Prop) (H : Heap) : F74 x0 x1_0 x1_1 x1_2 R H = vc Tryz.prog (codeOf Tryz.f74) (.node none .leaf (.node none .leaf (.node none .leaf (.node (some ⟨[(5, 39)], [13, 14, 15, 16, 17, 18, 19, 20, 21]⟩) (.node (some ⟨[(21, 4)], [13, 14, 15, 16, 17, 18, 19, 20]⟩) .leaf .leaf) .leaf)))) (postV Tryz.prog Tryz.f74 R) ⟨#[Value.pointer x0, Value.agg #[x1_0, x1_1, x1_2]] ++ Array.replicate (Tryz.f74.ntmps - 2) undef, []⟩ H := by kernel_rfl
theorem F74_calls {R : Ending → Heap → Prop} {H : Heap} (x0 : Option Addr) (x1_0 : Value) (x1_1 : Value) (x1_2 : Value) (h : F74 x0 x1_0 x1_1 x1_2 R H) : HCalls Tryz.prog 74 #[Value.pointer x0, Value.agg #[x1_0, x1_1, x1_2]] H R :=
  calls_by (F := F74 x0 x1_0 x1_1 x1_2 R H) (.node none .leaf (.node none .leaf (.node none .leaf (.node (some ⟨[(5, 39)], [13, 14, 15, 16, 17, 18, 19, 20, 21]⟩) (.node (some ⟨[(21, 4)], [13, 14, 15, 16, 17, 18, 19, 20]⟩) .leaf .leaf) .leaf)))) Tryz.func74 rfl (F74_eq x0 x1_0 x1_1 x1_2 R H) h
/-- bollard/cache.New -/
def F81 (x0 : Option Addr) (x1 : Int) (R : Ending → Heap → Prop) (H : Heap) : Prop :=
  HCalls Tryz.prog 70 #[Value.pointer x0] H (Sp.retK (fun v1 H2 =>
  dInt IntKind.i64 v1 (fun n3 =>
  sB (n3 == 0) (R (Ending.returned (Value.tuple #[Value.pointer none, Value.int IntKind.i64 2])) H2) (jn (α := VFH 1) (fun v4 H5 =>
  ∀ v6 v7 v8 v9 v10 : Value,
  dBl v4 (fun b11 =>
  sB b11 (R (Ending.returned (Value.tuple #[Value.pointer none, Value.int IntKind.i64 1])) H5) (al H5 (Obj.map #[] 0) (fun r12 H13 =>
  al H13 (Obj.cells #[Value.pointer x0, Value.int IntKind.i64 x1, Value.map (some r12), Value.int IntKind.i64 0, Value.int IntKind.i64 0, Value.int IntKind.i64 0] 203) (fun r14 H15 =>
  R (Ending.returned (Value.tuple #[Value.pointer (some (Addr.mk r14 0 none)), Value.int IntKind.i64 0])) H15))))) (fun k16 =>
  sB (decide (x1 < 1)) (k16 (Value.bool true) H2) (k16 (Value.bool (decide (x1 > 64))) H2))))) (pnR R))
theorem F81_eq (x0 : Option Addr) (x1 : Int) (R : Ending → Heap → Prop) (H : Heap) : F81 x0 x1 R H = vc Tryz.prog (codeOf Tryz.f81) (.node none .leaf (.node none .leaf (.node none (.node (some ⟨[(14, 4)], [9, 10, 11, 12, 13]⟩) .leaf .leaf) .leaf))) (postV Tryz.prog Tryz.f81 R) ⟨#[Value.pointer x0, Value.int IntKind.i64 x1] ++ Array.replicate (Tryz.f81.ntmps - 2) undef, []⟩ H := by kernel_rfl
theorem F81_calls {R : Ending → Heap → Prop} {H : Heap} (x0 : Option Addr) (x1 : Int) (h : F81 x0 x1 R H) : HCalls Tryz.prog 81 #[Value.pointer x0, Value.int IntKind.i64 x1] H R :=
  calls_by (F := F81 x0 x1 R H) (.node none .leaf (.node none .leaf (.node none (.node (some ⟨[(14, 4)], [9, 10, 11, 12, 13]⟩) .leaf .leaf) .leaf))) Tryz.func81 rfl (F81_eq x0 x1 R H) h
/-- bollard/patch.New -/
def F82  (R : Ending → Heap → Prop) (H : Heap) : Prop :=
  al H (Obj.map #[] 0) (fun r1 H2 =>
  al H2 (Obj.map #[] 0) (fun r3 H4 =>
  al H4 (Obj.cells #[Value.int IntKind.i64 0, Value.map (some r1), Value.map (some r3), Value.bool true] 192) (fun r5 H6 =>
  R (Ending.returned (Value.pointer (some (Addr.mk r5 0 none)))) H6)))
theorem F82_eq  (R : Ending → Heap → Prop) (H : Heap) : F82  R H = vc Tryz.prog (codeOf Tryz.f82) .leaf (postV Tryz.prog Tryz.f82 R) ⟨#[] ++ Array.replicate (Tryz.f82.ntmps - 0) undef, []⟩ H := by kernel_rfl
theorem F82_calls {R : Ending → Heap → Prop} {H : Heap}  (h : F82  R H) : HCalls Tryz.prog 82 #[] H R :=
  calls_by (F := F82  R H) .leaf Tryz.func82 rfl (F82_eq  R H) h
/-- bollard/disk.image -/
def F91 (x0a : Option Addr) (x0n : Nat) (x0c : Nat) (R : Ending → Heap → Prop) (H : Heap) : Prop :=
  ∃ I1 : List Value → Heap → Prop,
  ∃ I2 : List Value → Heap → Nat,
  (I1 ([Value.slice none 0 0, Value.int IntKind.i64 0]) H) ∧
  ∀ p3 : Option Addr,
  ∀ r4 : Nat,
  ∀ r5 : Nat,
  ∀ n6 : Int,
  ∀ v7 v8 v9 v10 v11 v12 v13 v14 v15 v16 : Value,
  ∀ H17 : Heap,
  (I1 ([Value.slice p3 r4 r5, Value.int IntKind.i64 n6]) H17) →
  sB (decide (n6 < (↑x0n : Int))) (nz x0a (fun a19 =>
  ask ((0 : Int) ≤ n6 ∧ n6 < (↑x0n : Int)) (ld H17 (Addr.add a19 (Int.toNat n6 * 1)) (fun v20 =>
  dSl v20 (fun p21 r22 r23 =>
  HCalls Tryz.prog 48 #[Value.slice p21 r22 r23] H17 (Sp.retK (fun v24 H25 =>
  dSl v24 (fun p26 r27 r28 =>
  al H25 (Obj.cells #[Value.slice p26 r27 r28] 38) (fun r29 H30 =>
  semW Tryz.prog (Builtin.append_ #[42, 42] 42 #[Value.slice p3 r4 r5, Value.slice (some (Addr.mk r29 0 none)) 1 1]) (pnR R) H30 (fun v33 H34 =>
  dSl v33 (fun p35 r36 r37 =>
  wr IntKind.i64 (n6 + 1) (fun n38 =>
  (I1 ([Value.slice p35 r36 r37, Value.int IntKind.i64 n38]) H34) ∧
  (I2 [Value.slice p35 r36 r37, Value.int IntKind.i64 n38] H34) < (I2 [Value.slice p3 r4 r5, Value.int IntKind.i64 n6] H17))))))) (pnR R))))))) (R (Ending.returned (Value.slice p3 r4 r5)) H17)
theorem F91_eq (x0a : Option Addr) (x0n : Nat) (x0c : Nat) (R : Ending → Heap → Prop) (H : Heap) : F91 x0a x0n x0c R H = vc Tryz.prog (codeOf Tryz.f91) (.node none .leaf (.node none .leaf (.node none (.node none .leaf (.node none (.node (some ⟨[(3, 42), (8, 3)], [5, 9, 10, 11, 12, 13, 14, 15, 16, 17]⟩) .leaf .leaf) .leaf)) .leaf))) (postV Tryz.prog Tryz.f91 R) ⟨#[Value.slice x0a x0n x0c] ++ Array.replicate (Tryz.f91.ntmps - 1) undef, []⟩ H := by kernel_rfl
theorem F91_calls {R : Ending → Heap → Prop} {H : Heap} (x0a : Option Addr) (x0n : Nat) (x0c : Nat) (h : F91 x0a x0n x0c R H) : HCalls Tryz.prog 91 #[Value.slice x0a x0n x0c] H R :=
  calls_by (F := F91 x0a x0n x0c R H) (.node none .leaf (.node none .leaf (.node none (.node none .leaf (.node none (.node (some ⟨[(3, 42), (8, 3)], [5, 9, 10, 11, 12, 13, 14, 15, 16, 17]⟩) .leaf .leaf) .leaf)) .leaf))) Tryz.func91 rfl (F91_eq x0a x0n x0c R H) h
/-- bollard/disk.Of -/
def F97 (x0a : Option Addr) (x0n : Nat) (x0c : Nat) (R : Ending → Heap → Prop) (H : Heap) : Prop :=
  jn (α := VFH 1) (fun v1 H2 =>
  ∀ v3 v4 v5 v6 v7 v8 v9 v10 v11 v12 v13 v14 : Value,
  dBl v1 (fun b15 =>
  sB b15 (R (Ending.returned (Value.tuple #[Value.pointer none, Value.int IntKind.i64 1])) H2) (HCalls Tryz.prog 91 #[Value.slice x0a x0n x0c] H2 (Sp.retK (fun v16 H17 =>
  dSl v16 (fun p18 r19 r20 =>
  al H17 (Obj.map #[] 0) (fun r21 H22 =>
  al H22 (Obj.cells #[Value.slice p18 r19 r20, Value.slice none 0 0, Value.map (some r21), Value.int IntKind.i64 0] 133) (fun r23 H24 =>
  R (Ending.returned (Value.tuple #[Value.pointer (some (Addr.mk r23 0 none)), Value.int IntKind.i64 0])) H24)))) (pnR R))))) (fun k27 =>
  sB (decide ((↑x0n : Int) < 1)) (k27 (Value.bool true) H) (sB (decide ((↑x0n : Int) > 2048)) (k27 (Value.bool true) H) (HCalls Tryz.prog 154 #[Value.slice x0a x0n x0c, Value.func (Fn.func 153) #[] #[]] H (Sp.retK (fun v28 H29 =>
  dBl v28 (fun b30 =>
  k27 (Value.bool b30) H29)) (pnR R)))))
theorem F97_eq (x0a : Option Addr) (x0n : Nat) (x0c : Nat) (R : Ending → Heap → Prop) (H : Heap) : F97 x0a x0n x0c R H = vc Tryz.prog (codeOf Tryz.f97) (.node none .leaf (.node none .leaf (.node none (.node (some ⟨[(17, 4)], [5, 6, 7, 8, 9, 10, 11, 12, 13, 14, 15, 16]⟩) .leaf .leaf) .leaf))) (postV Tryz.prog Tryz.f97 R) ⟨#[Value.slice x0a x0n x0c] ++ Array.replicate (Tryz.f97.ntmps - 1) undef, []⟩ H := by kernel_rfl
theorem F97_calls {R : Ending → Heap → Prop} {H : Heap} (x0a : Option Addr) (x0n : Nat) (x0c : Nat) (h : F97 x0a x0n x0c R H) : HCalls Tryz.prog 97 #[Value.slice x0a x0n x0c] H R :=
  calls_by (F := F97 x0a x0n x0c R H) (.node none .leaf (.node none .leaf (.node none (.node (some ⟨[(17, 4)], [5, 6, 7, 8, 9, 10, 11, 12, 13, 14, 15, 16]⟩) .leaf .leaf) .leaf))) Tryz.func97 rfl (F97_eq x0a x0n x0c R H) h
end Go.Proofs.YtngploohhmfaiaaGreat.E
/- The functions' forms in the engine's words, printed by my own program. -/
namespace Go.Proofs.YtngploohhmfaiaaGreat.E
open Go Go.Proofs
set_option linter.unusedVariables false
/-- (*bollard/patch.Set).Last -/
def F105 (x0 : Option Addr) (R : Ending → Heap → Prop) (H : Heap) : Prop :=
  HCalls Tryz.prog 127 #[Value.pointer x0] H (Sp.retK (fun v1 H2 =>
  dBl v1 (fun b3 =>
  sB (!b3) (R (Ending.returned (Value.int IntKind.i64 0)) H2) (nz x0 (fun a4 =>
  ld H2 a4 (fun v5 =>
  dInt IntKind.i64 v5 (fun n6 =>
  R (Ending.returned (Value.int IntKind.i64 n6)) H2)))))) (pnR R))
theorem F105_eq (x0 : Option Addr) (R : Ending → Heap → Prop) (H : Heap) : F105 x0 R H = vc Tryz.prog (codeOf Tryz.f105) .leaf (postV Tryz.prog Tryz.f105 R) ⟨#[Value.pointer x0] ++ Array.replicate (Tryz.f105.ntmps - 1) undef, []⟩ H := by kernel_rfl
theorem F105_calls {R : Ending → Heap → Prop} {H : Heap} (x0 : Option Addr) (h : F105 x0 R H) : HCalls Tryz.prog 105 #[Value.pointer x0] H R :=
  calls_by (F := F105 x0 R H) .leaf Tryz.func105 rfl (F105_eq x0 R H) h
/-- (*bollard/patch.Set).Undo -/
def F106 (x0 : Option Addr) (x1 : Int) (R : Ending → Heap → Prop) (H : Heap) : Prop :=
  HCalls Tryz.prog 127 #[Value.pointer x0] H (Sp.retK (fun v1 H2 =>
  dBl v1 (fun b3 =>
  sB (!b3) (R (Ending.returned (Value.int IntKind.i64 2)) H2) (jn (α := VFH 1) (fun v4 H5 =>
  ∀ v6 v7 v8 v9 v10 v11 v12 v13 v14 v15 : Value,
  dBl v4 (fun b16 =>
  sB b16 (R (Ending.returned (Value.int IntKind.i64 1)) H5) (nz x0 (fun a17 =>
  ld H5 (Addr.add a17 1) (fun v18 =>
  dMap v18 (fun p19 =>
  semW Tryz.prog (Instr.range 189 (Value.map p19)) (pnR R) H5 (fun v22 H23 =>
  ∃ I24 : List Value → Heap → Prop,
  ∃ I25 : List Value → Heap → Nat,
  (I24 [] H23) ∧
  ∀ v26 v27 v28 v29 v30 v31 v32 v33 v34 : Value,
  ∀ H35 : Heap,
  (I24 [] H35) →
  semW Tryz.prog (Instr.next v22 false 0) (pnR R) H35 (fun v39 H40 =>
  dNx v39 (nz x0 (fun a41 =>
  ld H40 (Addr.add a41 2) (fun v42 =>
  dMap v42 (fun p43 =>
  semW Tryz.prog (Instr.range 190 (Value.map p43)) (pnR R) H40 (fun v46 H47 =>
  ∃ I48 : List Value → Heap → Prop,
  ∃ I49 : List Value → Heap → Nat,
  (I48 [] H47) ∧
  ∀ v50 v51 v52 v53 v54 v55 v56 v57 v58 v59 v60 v61 v62 : Value,
  ∀ H63 : Heap,
  (I48 [] H63) →
  semW Tryz.prog (Instr.next v46 false 0) (pnR R) H63 (fun v67 H68 =>
  dNx v67 (nz x0 (fun a69 =>
  st H68 a69 (Value.int IntKind.i64 x1) (fun H70 =>
  R (Ending.returned (Value.int IntKind.i64 0)) H70))) (fun v71 v72 =>
  semW Tryz.prog (Instr.entry v46) (pnR R) H68 (fun v75 H76 =>
  dT 2 v75 (fun v77 v78 =>
  dInt IntKind.i64 v77 (fun n79 =>
  sB (decide (n79 > x1)) (nz x0 (fun a80 =>
  ld H76 (Addr.add a80 2) (fun v81 =>
  dMap v81 (fun p82 =>
  semW Tryz.prog (Builtin.delete_ #[190, 3] 0 #[Value.map p82, Value.int IntKind.i64 n79]) (pnR R) H76 (fun v85 H86 =>
  (I48 [] H86) ∧
  (I49 [] H86) < (I49 [] H63)))))) ((I48 [] H76) ∧
  (I49 [] H76) < (I49 [] H63)))))))))))) (fun v87 v88 =>
  semW Tryz.prog (Instr.entry v22) (pnR R) H40 (fun v91 H92 =>
  dT 2 v91 (fun v93 v94 =>
  dInt IntKind.i64 v93 (fun n95 =>
  sB (decide (n95 > x1)) (R (Ending.returned (Value.int IntKind.i64 3)) H92) ((I24 [] H92) ∧
  (I25 [] H92) < (I25 [] H35)))))))))))))) (fun k96 =>
  sB (decide (x1 < 0)) (k96 (Value.bool true) H2) (nz x0 (fun a97 =>
  ld H2 a97 (fun v98 =>
  dInt IntKind.i64 v98 (fun n99 =>
  k96 (Value.bool (decide (x1 > n99))) H2)))))))) (pnR R))
theorem F106_eq (x0 : Option Addr) (x1 : Int) (R : Ending → Heap → Prop) (H : Heap) : F106 x0 x1 R H = vc Tryz.prog (codeOf Tryz.f106) (.node none .leaf (.node none (.node none (.node none .leaf (.node none .leaf (.node (some ⟨[(11, 4)], [12, 13, 14, 15, 16, 17, 18, 19, 20, 21]⟩) .leaf .leaf))) .leaf) (.node none (.node none .leaf (.node none (.node (some ⟨[], [4, 5, 27, 28, 29, 30, 31, 32, 33]⟩) .leaf .leaf) .leaf)) (.node none (.node none .leaf (.node none (.node (some ⟨[], [6, 39, 40, 41, 42, 43, 44, 45, 46, 47, 48, 49, 50]⟩) .leaf .leaf) .leaf)) .leaf)))) (postV Tryz.prog Tryz.f106 R) ⟨#[Value.pointer x0, Value.int IntKind.i64 x1] ++ Array.replicate (Tryz.f106.ntmps - 2) undef, []⟩ H := by kernel_rfl
theorem F106_calls {R : Ending → Heap → Prop} {H : Heap} (x0 : Option Addr) (x1 : Int) (h : F106 x0 x1 R H) : HCalls Tryz.prog 106 #[Value.pointer x0, Value.int IntKind.i64 x1] H R :=
  calls_by (F := F106 x0 x1 R H) (.node none .leaf (.node none (.node none (.node none .leaf (.node none .leaf (.node (some ⟨[(11, 4)], [12, 13, 14, 15, 16, 17, 18, 19, 20, 21]⟩) .leaf .leaf))) .leaf) (.node none (.node none .leaf (.node none (.node (some ⟨[], [4, 5, 27, 28, 29, 30, 31, 32, 33]⟩) .leaf .leaf) .leaf)) (.node none (.node none .leaf (.node none (.node (some ⟨[], [6, 39, 40, 41, 42, 43, 44, 45, 46, 47, 48, 49, 50]⟩) .leaf .leaf) .leaf)) .leaf)))) Tryz.func106 rfl (F106_eq x0 x1 R H) h
/-- bollard/geom.all -/
def F114 (x0_0 : Value) (x0_1 : Value) (x0_2 : Value) (x1 : Int) (R : Ending → Heap → Prop) (H : Heap) : Prop :=
  al H (Obj.cells #[x0_0, x0_1, x0_2] 32) (fun r1 H2 =>
  ld H2 (Addr.mk r1 0 none) (fun v3 =>
  ld H2 (Addr.mk r1 1 none) (fun v4 =>
  ld H2 (Addr.mk r1 2 none) (fun v5 =>
  HCalls Tryz.prog 65 #[Value.agg #[v3, v4, v5]] H2 (Sp.retK (fun v6 H7 =>
  dInt IntKind.i64 v6 (fun n8 =>
  sB (n8 != 0) (R (Ending.returned (Value.int IntKind.i64 0)) H7) (ld H7 (Addr.mk r1 0 none) (fun v9 =>
  dInt IntKind.i64 v9 (fun n10 =>
  wr IntKind.i64 (n10 * x1) (fun n11 =>
  R (Ending.returned (Value.int IntKind.i64 n11)) H7)))))) (pnR R))))))
theorem F114_eq (x0_0 : Value) (x0_1 : Value) (x0_2 : Value) (x1 : Int) (R : Ending → Heap → Prop) (H : Heap) : F114 x0_0 x0_1 x0_2 x1 R H = vc Tryz.prog (codeOf Tryz.f114) .leaf (postV Tryz.prog Tryz.f114 R) ⟨#[Value.agg #[x0_0, x0_1, x0_2], Value.int IntKind.i64 x1] ++ Array.replicate (Tryz.f114.ntmps - 2) undef, []⟩ H := by kernel_rfl
theorem F114_calls {R : Ending → Heap → Prop} {H : Heap} (x0_0 : Value) (x0_1 : Value) (x0_2 : Value) (x1 : Int) (h : F114 x0_0 x0_1 x0_2 x1 R H) : HCalls Tryz.prog 114 #[Value.agg #[x0_0, x0_1, x0_2], Value.int IntKind.i64 x1] H R :=
  calls_by (F := F114 x0_0 x0_1 x0_2 x1 R H) .leaf Tryz.func114 rfl (F114_eq x0_0 x0_1 x0_2 x1 R H) h
/-- bollard/geom.between -/
def F115 (x0 : Int) (x1 : Int) (x2 : Int) (R : Ending → Heap → Prop) (H : Heap) : Prop :=
  sB (decide (x0 ≥ x1)) (R (Ending.returned (Value.bool (decide (x0 ≤ x2)))) H) (R (Ending.returned (Value.bool false)) H)
theorem F115_eq (x0 : Int) (x1 : Int) (x2 : Int) (R : Ending → Heap → Prop) (H : Heap) : F115 x0 x1 x2 R H = vc Tryz.prog (codeOf Tryz.f115) .leaf (postV Tryz.prog Tryz.f115 R) ⟨#[Value.int IntKind.i64 x0, Value.int IntKind.i64 x1, Value.int IntKind.i64 x2] ++ Array.replicate (Tryz.f115.ntmps - 3) undef, []⟩ H := by kernel_rfl
theorem F115_calls {R : Ending → Heap → Prop} {H : Heap} (x0 : Int) (x1 : Int) (x2 : Int) (h : F115 x0 x1 x2 R H) : HCalls Tryz.prog 115 #[Value.int IntKind.i64 x0, Value.int IntKind.i64 x1, Value.int IntKind.i64 x2] H R :=
  calls_by (F := F115 x0 x1 x2 R H) .leaf Tryz.func115 rfl (F115_eq x0 x1 x2 R H) h
/-- bollard/geom.front -/
def F116 (x0_0 : Value) (x0_1 : Value) (x0_2 : Value) (R : Ending → Heap → Prop) (H : Heap) : Prop :=
  al H (Obj.cells #[x0_0, x0_1, x0_2] 32) (fun r1 H2 =>
  ld H2 (Addr.mk r1 2 none) (fun v3 =>
  dInt IntKind.i64 v3 (fun n4 =>
  ask ((4 : Int) ≠ (0 : Int)) (wr IntKind.i64 (Int.tdiv n4 4) (fun n5 =>
  wr IntKind.i64 (2 + n5) (fun n6 =>
  R (Ending.returned (Value.int IntKind.i64 n6)) H2))))))
theorem F116_eq (x0_0 : Value) (x0_1 : Value) (x0_2 : Value) (R : Ending → Heap → Prop) (H : Heap) : F116 x0_0 x0_1 x0_2 R H = vc Tryz.prog (codeOf Tryz.f116) .leaf (postV Tryz.prog Tryz.f116 R) ⟨#[Value.agg #[x0_0, x0_1, x0_2]] ++ Array.replicate (Tryz.f116.ntmps - 1) undef, []⟩ H := by kernel_rfl
theorem F116_calls {R : Ending → Heap → Prop} {H : Heap} (x0_0 : Value) (x0_1 : Value) (x0_2 : Value) (h : F116 x0_0 x0_1 x0_2 R H) : HCalls Tryz.prog 116 #[Value.agg #[x0_0, x0_1, x0_2]] H R :=
  calls_by (F := F116 x0_0 x0_1 x0_2 R H) .leaf Tryz.func116 rfl (F116_eq x0_0 x0_1 x0_2 R H) h
/-- bollard/bollardref04.Can -/
def F117 (x0_0 : Value) (x0_1 : Value) (x0_2 : Value) (R : Ending → Heap → Prop) (H : Heap) : Prop :=
  al H (Obj.cells #[x0_0, x0_1, x0_2] 32) (fun r1 H2 =>
  jn (α := VFH 1) (fun v3 H4 =>
  ∀ v5 v6 v7 v8 v9 v10 v11 v12 v13 v14 v15 v16 v17 v18 v19 v20 v21 v22 v23 v24 v25 v26 v27 v28 v29 v30 v31 v32 v33 v34 v35 v36 v37 v38 v39 v40 v41 v42 v43 v44 v45 v46 : Value,
  dBl v3 (fun b47 =>
  sB b47 (R (Ending.returned (Value.int IntKind.i64 170)) H4) (R (Ending.returned (Value.int IntKind.i64 0)) H4))) (fun k48 =>
  ld H2 (Addr.mk r1 0 none) (fun v49 =>
  dInt IntKind.i64 v49 (fun n50 =>
  sB (decide (n50 < 1)) (k48 (Value.bool true) H2) (ld H2 (Addr.mk r1 0 none) (fun v51 =>
  dInt IntKind.i64 v51 (fun n52 =>
  sB (decide (n52 > 8)) (k48 (Value.bool true) H2) (ld H2 (Addr.mk r1 1 none) (fun v53 =>
  dInt IntKind.i64 v53 (fun n54 =>
  sB (decide (n54 < 8)) (k48 (Value.bool true) H2) (ld H2 (Addr.mk r1 1 none) (fun v55 =>
  dInt IntKind.i64 v55 (fun n56 =>
  sB (decide (n56 > 256)) (k48 (Value.bool true) H2) (ld H2 (Addr.mk r1 2 none) (fun v57 =>
  dInt IntKind.i64 v57 (fun n58 =>
  sB (decide (n58 < 4)) (k48 (Value.bool true) H2) (ld H2 (Addr.mk r1 2 none) (fun v59 =>
  dInt IntKind.i64 v59 (fun n60 =>
  sB (decide (n60 > 64)) (k48 (Value.bool true) H2) (ld H2 (Addr.mk r1 2 none) (fun v61 =>
  dInt IntKind.i64 v61 (fun n62 =>
  ask ((4 : Int) ≠ (0 : Int)) (nm (Int.tmod n62 4) (fun n63 =>
  sB (n63 != 0) (k48 (Value.bool true) H2) (ld H2 (Addr.mk r1 1 none) (fun v64 =>
  dInt IntKind.i64 v64 (fun n65 =>
  ld H2 (Addr.mk r1 2 none) (fun v66 =>
  dInt IntKind.i64 v66 (fun n67 =>
  ask ((4 : Int) ≠ (0 : Int)) (wr IntKind.i64 (Int.tdiv n67 4) (fun n68 =>
  wr IntKind.i64 (3 + n68) (fun n69 =>
  k48 (Value.bool (decide (n65 < n69))) H2))))))))))))))))))))))))))))))))
theorem F117_eq (x0_0 : Value) (x0_1 : Value) (x0_2 : Value) (R : Ending → Heap → Prop) (H : Heap) : F117 x0_0 x0_1 x0_2 R H = vc Tryz.prog (codeOf Tryz.f117) (.node none .leaf (.node none (.node (some ⟨[(45, 4)], [3, 4, 5, 6, 7, 8, 9, 10, 11, 12, 13, 14, 15, 16, 17, 18, 19, 20, 21, 22, 23, 24, 25, 26, 27, 28, 29, 30, 31, 32, 33, 34, 35, 36, 37, 38, 39, 40, 41, 42, 43, 44]⟩) .leaf .leaf) .leaf)) (postV Tryz.prog Tryz.f117 R) ⟨#[Value.agg #[x0_0, x0_1, x0_2]] ++ Array.replicate (Tryz.f117.ntmps - 1) undef, []⟩ H := by kernel_rfl
theorem F117_calls {R : Ending → Heap → Prop} {H : Heap} (x0_0 : Value) (x0_1 : Value) (x0_2 : Value) (h : F117 x0_0 x0_1 x0_2 R H) : HCalls Tryz.prog 117 #[Value.agg #[x0_0, x0_1, x0_2]] H R :=
  calls_by (F := F117 x0_0 x0_1 x0_2 R H) (.node none .leaf (.node none (.node (some ⟨[(45, 4)], [3, 4, 5, 6, 7, 8, 9, 10, 11, 12, 13, 14, 15, 16, 17, 18, 19, 20, 21, 22, 23, 24, 25, 26, 27, 28, 29, 30, 31, 32, 33, 34, 35, 36, 37, 38, 39, 40, 41, 42, 43, 44]⟩) .leaf .leaf) .leaf)) Tryz.func117 rfl (F117_eq x0_0 x0_1 x0_2 R H) h
/-- bollard/bollardplain.Image -/
def F121 (x0a : Option Addr) (x0n : Nat) (x0c : Nat) (R : Ending → Heap → Prop) (H : Heap) : Prop :=
  ∃ I1 : List Value → Heap → Prop,
  ∃ I2 : List Value → Heap → Nat,
  (I1 ([Value.slice none 0 0, Value.int IntKind.i64 0]) H) ∧
  ∀ p3 : Option Addr,
  ∀ r4 : Nat,
  ∀ r5 : Nat,
  ∀ n6 : Int,
  ∀ v7 v8 v9 v10 v11 v12 v13 v14 v15 v16 : Value,
  ∀ H17 : Heap,
  (I1 ([Value.slice p3 r4 r5, Value.int IntKind.i64 n6]) H17) →
  sB (decide (n6 < (↑x0n : Int))) (nz x0a (fun a19 =>
  ask ((0 : Int) ≤ n6 ∧ n6 < (↑x0n : Int)) (ld H17 (Addr.add a19 (Int.toNat n6 * 1)) (fun v20 =>
  dSl v20 (fun p21 r22 r23 =>
  HCalls Tryz.prog 48 #[Value.slice p21 r22 r23] H17 (Sp.retK (fun v24 H25 =>
  dSl v24 (fun p26 r27 r28 =>
  al H25 (Obj.cells #[Value.slice p26 r27 r28] 38) (fun r29 H30 =>
  semW Tryz.prog (Builtin.append_ #[42, 42] 42 #[Value.slice p3 r4 r5, Value.slice (some (Addr.mk r29 0 none)) 1 1]) (pnR R) H30 (fun v33 H34 =>
  dSl v33 (fun p35 r36 r37 =>
  wr IntKind.i64 (n6 + 1) (fun n38 =>
  (I1 ([Value.slice p35 r36 r37, Value.int IntKind.i64 n38]) H34) ∧
  (I2 [Value.slice p35 r36 r37, Value.int IntKind.i64 n38] H34) < (I2 [Value.slice p3 r4 r5, Value.int IntKind.i64 n6] H17))))))) (pnR R))))))) (R (Ending.returned (Value.slice p3 r4 r5)) H17)
theorem F121_eq (x0a : Option Addr) (x0n : Nat) (x0c : Nat) (R : Ending → Heap → Prop) (H : Heap) : F121 x0a x0n x0c R H = vc Tryz.prog (codeOf Tryz.f121) (.node none .leaf (.node none .leaf (.node none (.node none .leaf (.node none (.node (some ⟨[(3, 42), (8, 3)], [5, 9, 10, 11, 12, 13, 14, 15, 16, 17]⟩) .leaf .leaf) .leaf)) .leaf))) (postV Tryz.prog Tryz.f121 R) ⟨#[Value.slice x0a x0n x0c] ++ Array.replicate (Tryz.f121.ntmps - 1) undef, []⟩ H := by kernel_rfl
theorem F121_calls {R : Ending → Heap → Prop} {H : Heap} (x0a : Option Addr) (x0n : Nat) (x0c : Nat) (h : F121 x0a x0n x0c R H) : HCalls Tryz.prog 121 #[Value.slice x0a x0n x0c] H R :=
  calls_by (F := F121 x0a x0n x0c R H) (.node none .leaf (.node none .leaf (.node none (.node none .leaf (.node none (.node (some ⟨[(3, 42), (8, 3)], [5, 9, 10, 11, 12, 13, 14, 15, 16, 17]⟩) .leaf .leaf) .leaf)) .leaf))) Tryz.func121 rfl (F121_eq x0a x0n x0c R H) h
/-- bollard/bollardref02.Of -/
def F122 (x0a : Option Addr) (x0n : Nat) (x0c : Nat) (R : Ending → Heap → Prop) (H : Heap) : Prop :=
  jn (α := VFH 1) (fun v1 H2 =>
  ∀ v3 v4 v5 v6 v7 v8 v9 : Value,
  dBl v1 (fun b10 =>
  sB b10 (R (Ending.returned (Value.tuple #[Value.pointer none, Value.int IntKind.i64 1])) H2) (ask ((0 : Int) ≤ (↑x0n : Int) ∧ (↑x0n : Int) ≤ (↑x0n : Int) ∧ (8 : Int) * (↑x0n : Int) ≤ (281474976710656 : Int) ∧ (↑x0n : Int) ≤ (9223372036854775807 : Int)) (al H2 (Obj.cells (List.toArray (rowZ [Value.int IntKind.i64 0] (Int.toNat (↑x0n : Int)))) 3) (fun r11 H12 =>
  al H12 (Obj.cells #[Value.slice none 0 0, Value.slice none 0 0, Value.slice (some (Addr.mk r11 0 none)) (Int.toNat (↑x0n : Int)) (Int.toNat (↑x0n : Int)), Value.int IntKind.i64 0] 242) (fun r13 H14 =>
  ∃ I15 : List Value → Heap → Prop,
  ∃ I16 : List Value → Heap → Nat,
  (I15 ([Value.int IntKind.i64 0]) H14) ∧
  ∀ n17 : Int,
  ∀ v18 v19 v20 v21 v22 v23 v24 v25 v26 v27 v28 v29 v30 v31 v32 v33 v34 v35 v36 v37 v38 : Value,
  ∀ H39 : Heap,
  (I15 ([Value.int IntKind.i64 n17]) H39) →
  sB (decide (n17 < (↑x0n : Int))) (nz x0a (fun a41 =>
  ask ((0 : Int) ≤ n17 ∧ n17 < (↑x0n : Int)) (ld H39 (Addr.add a41 (Int.toNat n17 * 1)) (fun v42 =>
  dSl v42 (fun p43 r44 r45 =>
  sB ((↑r44 : Int) != 128) (R (Ending.returned (Value.tuple #[Value.pointer none, Value.int IntKind.i64 1])) H39) (ld H39 (Addr.mk r13 0 none) (fun v46 =>
  dSl v46 (fun p47 r48 r49 =>
  HCalls Tryz.prog 181 #[Value.slice p43 r44 r45] H39 (Sp.retK (fun v50 H51 =>
  dSl v50 (fun p52 r53 r54 =>
  (ld H51 (Addr.mk r13 0 none) (fun v55 =>
  dSl v55 (fun p56 r57 r58 =>
  (Value.slice p56 r57 r58) = (Value.slice p47 r48 r49)))) ∧
  al H51 (Obj.cells #[Value.slice p52 r53 r54] 38) (fun r59 H60 =>
  (ld H60 (Addr.mk r13 0 none) (fun v61 =>
  dSl v61 (fun p62 r63 r64 =>
  (Value.slice p62 r63 r64) = (Value.slice p47 r48 r49)))) ∧
  semW Tryz.prog (Builtin.append_ #[42, 42] 42 #[Value.slice p47 r48 r49, Value.slice (some (Addr.mk r59 0 none)) 1 1]) nopR H60 (fun v67 H68 =>
  dSl v67 (fun p69 r70 r71 =>
  st H68 (Addr.mk r13 0 none) (Value.slice p69 r70 r71) (fun H72 =>
  wr IntKind.i64 (n17 + 1) (fun n73 =>
  (I15 ([Value.int IntKind.i64 n73]) H72) ∧
  (I16 [Value.int IntKind.i64 n73] H72) < (I16 [Value.int IntKind.i64 n17] H39)))))))) nopR))))))))) (R (Ending.returned (Value.tuple #[Value.pointer (some (Addr.mk r13 0 none)), Value.int IntKind.i64 0])) H39))))))) (fun k76 =>
  sB (decide ((↑x0n : Int) < 1)) (k76 (Value.bool true) H) (k76 (Value.bool (decide ((↑x0n : Int) > 2048))) H))
theorem F122_eq (x0a : Option Addr) (x0n : Nat) (x0c : Nat) (R : Ending → Heap → Prop) (H : Heap) : F122 x0a x0n x0c R H = vc Tryz.prog (codeOf Tryz.f122) (.node none .leaf (.node none (.node (some ⟨[(14, 4)], [7, 8, 9, 10, 11, 12, 13]⟩) .leaf .leaf) (.node none .leaf (.node none (.node none .leaf (.node none (.node (some ⟨[(22, 3)], [2, 3, 6, 23, 24, 25, 26, 27, 28, 29, 30, 31, 32, 33, 34, 35, 36, 37, 38, 39, 40]⟩) .leaf .leaf) .leaf)) .leaf)))) (postV Tryz.prog Tryz.f122 R) ⟨#[Value.slice x0a x0n x0c] ++ Array.replicate (Tryz.f122.ntmps - 1) undef, []⟩ H := by kernel_rfl
theorem F122_calls {R : Ending → Heap → Prop} {H : Heap} (x0a : Option Addr) (x0n : Nat) (x0c : Nat) (h : F122 x0a x0n x0c R H) : HCalls Tryz.prog 122 #[Value.slice x0a x0n x0c] H R :=
  calls_by (F := F122 x0a x0n x0c R H) (.node none .leaf (.node none (.node (some ⟨[(14, 4)], [7, 8, 9, 10, 11, 12, 13]⟩) .leaf .leaf) (.node none .leaf (.node none (.node none .leaf (.node none (.node (some ⟨[(22, 3)], [2, 3, 6, 23, 24, 25, 26, 27, 28, 29, 30, 31, 32, 33, 34, 35, 36, 37, 38, 39, 40]⟩) .leaf .leaf) .leaf)) .leaf)))) Tryz.func122 rfl (F122_eq x0a x0n x0c R H) h
/-- bollard/bollardref09.Open -/
def F123 (x0 : Option Addr) (x1 : Int) (R : Ending → Heap → Prop) (H : Heap) : Prop :=
  sB (Option.isNone x0) (R (Ending.returned (Value.tuple #[Value.pointer none, Value.int IntKind.i64 2])) H) (HCalls Tryz.prog 182 #[Value.pointer x0, Value.int IntKind.i64 x1] H (Sp.retK (fun v1 H2 =>
  dT 2 v1 (fun v3 v4 =>
  dPtr v3 (fun p5 =>
  dInt IntKind.i64 v4 (fun n6 =>
  sB (n6 != 0) (R (Ending.returned (Value.tuple #[Value.pointer none, Value.int IntKind.i64 n6])) H2) (al H2 (Obj.cells #[Value.slice none 0 0, Value.int IntKind.i64 0] 247) (fun r7 H8 =>
  al H8 (Obj.cells #[Value.pointer x0, Value.pointer p5, Value.pointer (some (Addr.mk r7 0 none)), Value.slice none 0 0, Value.bool false, Value.bool false, Value.int IntKind.i64 0, Value.slice none 0 0] 223) (fun r9 H10 =>
  R (Ending.returned (Value.tuple #[Value.pointer (some (Addr.mk r9 0 none)), Value.int IntKind.i64 0])) H10))))))) (pnR R)))
theorem F123_eq (x0 : Option Addr) (x1 : Int) (R : Ending → Heap → Prop) (H : Heap) : F123 x0 x1 R H = vc Tryz.prog (codeOf Tryz.f123) .leaf (postV Tryz.prog Tryz.f123 R) ⟨#[Value.pointer x0, Value.int IntKind.i64 x1] ++ Array.replicate (Tryz.f123.ntmps - 2) undef, []⟩ H := by kernel_rfl
theorem F123_calls {R : Ending → Heap → Prop} {H : Heap} (x0 : Option Addr) (x1 : Int) (h : F123 x0 x1 R H) : HCalls Tryz.prog 123 #[Value.pointer x0, Value.int IntKind.i64 x1] H R :=
  calls_by (F := F123 x0 x1 R H) .leaf Tryz.func123 rfl (F123_eq x0 x1 R H) h
/-- (*bollard/patch.Set).own -/
def F127 (x0 : Option Addr) (R : Ending → Heap → Prop) (H : Heap) : Prop :=
  sB (!Option.isNone x0) (nz x0 (fun a1 =>
  ld H (Addr.add a1 3) (fun v2 =>
  dBl v2 (fun b3 =>
  R (Ending.returned (Value.bool b3)) H)))) (R (Ending.returned (Value.bool false)) H)
theorem F127_eq (x0 : Option Addr) (R : Ending → Heap → Prop) (H : Heap) : F127 x0 R H = vc Tryz.prog (codeOf Tryz.f127) .leaf (postV Tryz.prog Tryz.f127 R) ⟨#[Value.pointer x0] ++ Array.replicate (Tryz.f127.ntmps - 1) undef, []⟩ H := by kernel_rfl
theorem F127_calls {R : Ending → Heap → Prop} {H : Heap} (x0 : Option Addr) (h : F127 x0 R H) : HCalls Tryz.prog 127 #[Value.pointer x0] H R :=
  calls_by (F := F127 x0 R H) .leaf Tryz.func127 rfl (F127_eq x0 R H) h
end Go.Proofs.YtngploohhmfaiaaGreat.E
/- The functions' forms in the engine's words, printed by my own program. -/
namespace Go.Proofs.YtngploohhmfaiaaGreat.E
open Go Go.Proofs
set_option linter.unusedVariables false
/-- bollard/disk.Of$1 -/
def F153 (x0a : Option Addr) (x0n : Nat) (x0c : Nat) (R : Ending → Heap → Prop) (H : Heap) : Prop :=
  R (Ending.returned (Value.bool ((↑x0n : Int) != 128))) H
theorem F153_eq (x0a : Option Addr) (x0n : Nat) (x0c : Nat) (R : Ending → Heap → Prop) (H : Heap) : F153 x0a x0n x0c R H = vc Tryz.prog (codeOf Tryz.f153) .leaf (postV Tryz.prog Tryz.f153 R) ⟨#[Value.slice x0a x0n x0c] ++ Array.replicate (Tryz.f153.ntmps - 1) undef, []⟩ H := by kernel_rfl
theorem F153_calls {R : Ending → Heap → Prop} {H : Heap} (x0a : Option Addr) (x0n : Nat) (x0c : Nat) (h : F153 x0a x0n x0c R H) : HCalls Tryz.prog 153 #[Value.slice x0a x0n x0c] H R :=
  calls_by (F := F153 x0a x0n x0c R H) .leaf Tryz.func153 rfl (F153_eq x0a x0n x0c R H) h
/-- slices.ContainsFunc[[][]byte,[]byte] -/
def F154 (x0a : Option Addr) (x0n : Nat) (x0c : Nat) (x1g : Nat) (x1f : Array Value) (x1c : Array Value) (R : Ending → Heap → Prop) (H : Heap) : Prop :=
  HCalls Tryz.prog 199 #[Value.slice x0a x0n x0c, Value.func (Fn.func x1g) x1f x1c] H (Sp.retK (fun v1 H2 =>
  dInt IntKind.i64 v1 (fun n3 =>
  R (Ending.returned (Value.bool (decide (n3 ≥ 0)))) H2)) (pnR R))
theorem F154_eq (x0a : Option Addr) (x0n : Nat) (x0c : Nat) (x1g : Nat) (x1f : Array Value) (x1c : Array Value) (R : Ending → Heap → Prop) (H : Heap) : F154 x0a x0n x0c x1g x1f x1c R H = vc Tryz.prog (codeOf Tryz.f154) .leaf (postV Tryz.prog Tryz.f154 R) ⟨#[Value.slice x0a x0n x0c, Value.func (Fn.func x1g) x1f x1c] ++ Array.replicate (Tryz.f154.ntmps - 2) undef, []⟩ H := by kernel_rfl
theorem F154_calls {R : Ending → Heap → Prop} {H : Heap} (x0a : Option Addr) (x0n : Nat) (x0c : Nat) (x1g : Nat) (x1f : Array Value) (x1c : Array Value) (h : F154 x0a x0n x0c x1g x1f x1c R H) : HCalls Tryz.prog 154 #[Value.slice x0a x0n x0c, Value.func (Fn.func x1g) x1f x1c] H R :=
  calls_by (F := F154 x0a x0n x0c x1g x1f x1c R H) .leaf Tryz.func154 rfl (F154_eq x0a x0n x0c x1g x1f x1c R H) h
end Go.Proofs.YtngploohhmfaiaaGreat.E
/- The functions' forms in the engine's words, printed by my own program. -/
namespace Go.Proofs.YtngploohhmfaiaaGreat.E
open Go Go.Proofs
set_option linter.unusedVariables false
/-- bollard/bollardref05.With -/
def F174 (x0a : Option Addr) (x0n : Nat) (x0c : Nat) (x1 : Int) (x2 : Bool) (R : Ending → Heap → Prop) (H : Heap) : Prop :=
  jn (α := VFH 1) (fun v1 H2 =>
  ∀ v3 v4 v5 v6 v7 v8 v9 v10 : Value,
  dBl v1 (fun b11 =>
  sB b11 (R (Ending.returned (Value.tuple #[Value.slice none 0 0, Value.int IntKind.i64 50])) H2) (al H2 (Obj.cells #[] 5) (fun r12 H13 =>
  semW Tryz.prog (Builtin.append_ #[38, 38] 38 #[Value.slice (some (Addr.mk r12 0 none)) 0 0, Value.slice x0a x0n x0c]) (pnR R) H13 (fun v16 H17 =>
  dSl v16 (fun p18 r19 r20 =>
  jn (α := VFH 0) (fun H21 =>
  ∀ v22 v23 v24 v25 v26 v27 v28 v29 v30 v31 v32 v33 v34 v35 v36 v37 v38 v39 : Value,
  R (Ending.returned (Value.tuple #[Value.slice p18 r19 r20, Value.int IntKind.i64 0])) H21) (fun k40 =>
  HCalls Tryz.prog 224 #[Value.slice x0a x0n x0c, Value.int IntKind.i64 x1] H17 (Sp.retK (fun v41 H42 =>
  dBl v41 (fun b43 =>
  sB (!b43 == x2) (ask ((8 : Int) ≠ (0 : Int)) (wr IntKind.i64 (Int.tdiv x1 8) (fun n44 =>
  ask ((8 : Int) ≠ (0 : Int)) (wr IntKind.i64 (Int.tdiv x1 8) (fun n45 =>
  nz p18 (fun a46 =>
  ask ((0 : Int) ≤ n45 ∧ n45 < (↑r19 : Int)) (ld H42 (Addr.add a46 (Int.toNat n45 * 1)) (fun v47 =>
  dInt IntKind.u8 v47 (fun n48 =>
  ask ((8 : Int) ≠ (0 : Int)) (nm (Int.tmod x1 8) (fun n49 =>
  ask ((0 : Int) ≤ n49) (nm (IntKind.wrap IntKind.u8 (1 * 2 ^ min (Int.toNat n49) 8)) (fun n50 =>
  nm (IntKind.wrap IntKind.u8 (↑(BitVec.toNat (BitVec.ofInt 8 n48 ^^^ BitVec.ofInt 8 n50)) : Int)) (fun n51 =>
  nz p18 (fun a52 =>
  ask ((0 : Int) ≤ n44 ∧ n44 < (↑r19 : Int)) (st H42 (Addr.add a52 (Int.toNat n44 * 1)) (Value.int IntKind.u8 n51) (fun H53 =>
  k40 H53))))))))))))))))) (k40 H42))) (pnR R))))))))) (fun k56 =>
  sB (decide (x1 < 0)) (k56 (Value.bool true) H) (ask ((8 : Int) ≠ (0 : Int)) (wr IntKind.i64 (Int.tdiv x1 8) (fun n57 =>
  k56 (Value.bool (decide (n57 ≥ (↑x0n : Int)))) H))))
theorem F174_eq (x0a : Option Addr) (x0n : Nat) (x0c : Nat) (x1 : Int) (x2 : Bool) (R : Ending → Heap → Prop) (H : Heap) : F174 x0a x0n x0c x1 x2 R H = vc Tryz.prog (codeOf Tryz.f174) (.node none .leaf (.node none (.node (some ⟨[(17, 4)], [9, 10, 11, 12, 13, 14, 15, 16]⟩) .leaf .leaf) (.node none .leaf (.node (some ⟨[], [21, 22, 23, 24, 25, 26, 27, 28, 29, 30, 31, 32, 33, 34, 35, 36, 37, 38]⟩) .leaf .leaf)))) (postV Tryz.prog Tryz.f174 R) ⟨#[Value.slice x0a x0n x0c, Value.int IntKind.i64 x1, Value.bool x2] ++ Array.replicate (Tryz.f174.ntmps - 3) undef, []⟩ H := by kernel_rfl
theorem F174_calls {R : Ending → Heap → Prop} {H : Heap} (x0a : Option Addr) (x0n : Nat) (x0c : Nat) (x1 : Int) (x2 : Bool) (h : F174 x0a x0n x0c x1 x2 R H) : HCalls Tryz.prog 174 #[Value.slice x0a x0n x0c, Value.int IntKind.i64 x1, Value.bool x2] H R :=
  calls_by (F := F174 x0a x0n x0c x1 x2 R H) (.node none .leaf (.node none (.node (some ⟨[(17, 4)], [9, 10, 11, 12, 13, 14, 15, 16]⟩) .leaf .leaf) (.node none .leaf (.node (some ⟨[], [21, 22, 23, 24, 25, 26, 27, 28, 29, 30, 31, 32, 33, 34, 35, 36, 37, 38]⟩) .leaf .leaf)))) Tryz.func174 rfl (F174_eq x0a x0n x0c x1 x2 R H) h
/-- bollard/bollardref03.mayDinode -/
def F176 (x0_0 : Value) (x0_1 : Value) (x0_2 : Value) (x0_3 : Value) (x0_4 : Value) (x0_5 : Value) (x0_6 : Value) (x0_7 : Value) (x0_8 : Value) (R : Ending → Heap → Prop) (H : Heap) : Prop :=
  al H (Obj.cells #[x0_0, x0_1, x0_2, x0_3, x0_4, x0_5, x0_6, x0_7, x0_8] 177) (fun r1 H2 =>
  ld H2 (Addr.mk r1 0 none) (fun v3 =>
  dInt IntKind.i64 v3 (fun n4 =>
  sB (n4 == 0) (ld H2 (Addr.mk r1 0 none) (fun v5 =>
  ld H2 (Addr.mk r1 1 none) (fun v6 =>
  ld H2 (Addr.mk r1 2 none) (fun v7 =>
  ld H2 (Addr.mk r1 3 none) (fun v8 =>
  ld H2 (Addr.mk r1 4 none) (fun v9 =>
  ld H2 (Addr.mk r1 5 none) (fun v10 =>
  ld H2 (Addr.mk r1 6 none) (fun v11 =>
  ld H2 (Addr.mk r1 7 none) (fun v12 =>
  ld H2 (Addr.mk r1 8 none) (fun v13 =>
  semW Tryz.prog (eqSem BinOp.eql 177 (Operand.tmp 8) (Operand.tmp 9) (Value.agg #[v5, v6, v7, v8, v9, v10, v11, v12, v13]) (Value.agg #[Value.int IntKind.i64 0, Value.int IntKind.i64 0, Value.int IntKind.i64 0, Value.int IntKind.i64 0, Value.int IntKind.i64 0, Value.int IntKind.i64 0, Value.int IntKind.i64 0, Value.int IntKind.i64 0, Value.int IntKind.i64 0])) (pnR R) H2 (fun v16 H17 =>
  dBl v16 (fun b18 =>
  R (Ending.returned (Value.bool b18)) H17)))))))))))) (jn (α := VFH 1) (fun v19 H20 =>
  ∀ v21 v22 v23 v24 v25 v26 v27 v28 v29 v30 v31 v32 v33 v34 v35 v36 v37 v38 v39 v40 v41 v42 v43 v44 v45 v46 v47 : Value,
  dBl v19 (fun b48 =>
  sB b48 (R (Ending.returned (Value.bool false)) H20) (ld H20 (Addr.mk r1 3 none) (fun v49 =>
  ld H20 (Addr.mk r1 4 none) (fun v50 =>
  ld H20 (Addr.mk r1 5 none) (fun v51 =>
  ld H20 (Addr.mk r1 6 none) (fun v52 =>
  ∃ I53 : List Value → Heap → Prop,
  ∃ I54 : List Value → Heap → Nat,
  (I53 ([Value.int IntKind.i64 0]) H20) ∧
  ∀ n55 : Int,
  ∀ v56 v57 v58 v59 v60 v61 v62 v63 : Value,
  ∀ H64 : Heap,
  (I53 ([Value.int IntKind.i64 n55]) H64) →
  sB (decide (n55 < 4)) (ask ((0 : Int) ≤ n55 ∧ n55 < (4 : Int)) (oV ([v49, v50, v51, v52][Int.toNat n55 * 1]?) (fun v66 =>
  dInt IntKind.i64 v66 (fun n67 =>
  HCalls Tryz.prog 225 #[Value.int IntKind.i64 n67] H64 (Sp.retK (fun v68 H69 =>
  dBl v68 (fun b70 =>
  sB (!b70) (R (Ending.returned (Value.bool false)) H69) (wr IntKind.i64 (n55 + 1) (fun n71 =>
  (I53 ([Value.int IntKind.i64 n71]) H69) ∧
  (I54 [Value.int IntKind.i64 n71] H69) < (I54 [Value.int IntKind.i64 n55] H64))))) (pnR R)))))) (ld H64 (Addr.mk r1 7 none) (fun v74 =>
  dInt IntKind.i64 v74 (fun n75 =>
  HCalls Tryz.prog 225 #[Value.int IntKind.i64 n75] H64 (Sp.retK (fun v76 H77 =>
  dBl v76 (fun b78 =>
  sB b78 (ld H77 (Addr.mk r1 8 none) (fun v79 =>
  dInt IntKind.i64 v79 (fun n80 =>
  HCalls Tryz.prog 225 #[Value.int IntKind.i64 n80] H77 (Sp.retK (fun v81 H82 =>
  dBl v81 (fun b83 =>
  sB b83 (ld H82 (Addr.mk r1 0 none) (fun v84 =>
  dInt IntKind.i64 v84 (fun n85 =>
  sB (n85 != 2) (R (Ending.returned (Value.bool true)) H82) (ld H82 (Addr.mk r1 2 none) (fun v86 =>
  dInt IntKind.i64 v86 (fun n87 =>
  ask ((128 : Int) ≠ (0 : Int)) (nm (Int.tmod n87 128) (fun n88 =>
  R (Ending.returned (Value.bool (n88 == 0))) H82)))))))) (R (Ending.returned (Value.bool false)) H82))) (pnR R))))) (R (Ending.returned (Value.bool false)) H77))) (pnR R)))))))))))) (fun k93 =>
  ld H2 (Addr.mk r1 0 none) (fun v94 =>
  dInt IntKind.i64 v94 (fun n95 =>
  sB (n95 != 1) (ld H2 (Addr.mk r1 0 none) (fun v96 =>
  dInt IntKind.i64 v96 (fun n97 =>
  sB (n97 != 2) (k93 (Value.bool true) H2) (ld H2 (Addr.mk r1 1 none) (fun v98 =>
  dInt IntKind.i64 v98 (fun n99 =>
  sB (decide (n99 < 0)) (k93 (Value.bool true) H2) (ld H2 (Addr.mk r1 1 none) (fun v100 =>
  dInt IntKind.i64 v100 (fun n101 =>
  sB (decide (n101 > 1000)) (k93 (Value.bool true) H2) (ld H2 (Addr.mk r1 2 none) (fun v102 =>
  dInt IntKind.i64 v102 (fun n103 =>
  sB (decide (n103 < 0)) (k93 (Value.bool true) H2) (ld H2 (Addr.mk r1 2 none) (fun v104 =>
  dInt IntKind.i64 v104 (fun n105 =>
  k93 (Value.bool (decide (n105 > 532992))) H2))))))))))))))) (ld H2 (Addr.mk r1 1 none) (fun v106 =>
  dInt IntKind.i64 v106 (fun n107 =>
  sB (decide (n107 < 0)) (k93 (Value.bool true) H2) (ld H2 (Addr.mk r1 1 none) (fun v108 =>
  dInt IntKind.i64 v108 (fun n109 =>
  sB (decide (n109 > 1000)) (k93 (Value.bool true) H2) (ld H2 (Addr.mk r1 2 none) (fun v110 =>
  dInt IntKind.i64 v110 (fun n111 =>
  sB (decide (n111 < 0)) (k93 (Value.bool true) H2) (ld H2 (Addr.mk r1 2 none) (fun v112 =>
  dInt IntKind.i64 v112 (fun n113 =>
  k93 (Value.bool (decide (n113 > 532992))) H2)))))))))))))))))))
theorem F176_eq (x0_0 : Value) (x0_1 : Value) (x0_2 : Value) (x0_3 : Value) (x0_4 : Value) (x0_5 : Value) (x0_6 : Value) (x0_7 : Value) (x0_8 : Value) (R : Ending → Heap → Prop) (H : Heap) : F176 x0_0 x0_1 x0_2 x0_3 x0_4 x0_5 x0_6 x0_7 x0_8 R H = vc Tryz.prog (codeOf Tryz.f176) (.node none .leaf (.node none .leaf (.node none (.node (some ⟨[(38, 4)], [11, 12, 13, 14, 15, 16, 17, 18, 19, 20, 21, 22, 23, 24, 25, 26, 27, 28, 29, 30, 31, 32, 33, 34, 35, 36, 37]⟩) .leaf .leaf) (.node none (.node none .leaf (.node none (.node (some ⟨[(41, 3)], [2, 4, 42, 43, 44, 45, 46, 47]⟩) .leaf .leaf) .leaf)) .leaf)))) (postV Tryz.prog Tryz.f176 R) ⟨#[Value.agg #[x0_0, x0_1, x0_2, x0_3, x0_4, x0_5, x0_6, x0_7, x0_8]] ++ Array.replicate (Tryz.f176.ntmps - 1) undef, []⟩ H := by kernel_rfl
theorem F176_calls {R : Ending → Heap → Prop} {H : Heap} (x0_0 : Value) (x0_1 : Value) (x0_2 : Value) (x0_3 : Value) (x0_4 : Value) (x0_5 : Value) (x0_6 : Value) (x0_7 : Value) (x0_8 : Value) (h : F176 x0_0 x0_1 x0_2 x0_3 x0_4 x0_5 x0_6 x0_7 x0_8 R H) : HCalls Tryz.prog 176 #[Value.agg #[x0_0, x0_1, x0_2, x0_3, x0_4, x0_5, x0_6, x0_7, x0_8]] H R :=
  calls_by (F := F176 x0_0 x0_1 x0_2 x0_3 x0_4 x0_5 x0_6 x0_7 x0_8 R H) (.node none .leaf (.node none .leaf (.node none (.node (some ⟨[(38, 4)], [11, 12, 13, 14, 15, 16, 17, 18, 19, 20, 21, 22, 23, 24, 25, 26, 27, 28, 29, 30, 31, 32, 33, 34, 35, 36, 37]⟩) .leaf .leaf) (.node none (.node none .leaf (.node none (.node (some ⟨[(41, 3)], [2, 4, 42, 43, 44, 45, 46, 47]⟩) .leaf .leaf) .leaf)) .leaf)))) Tryz.func176 rfl (F176_eq x0_0 x0_1 x0_2 x0_3 x0_4 x0_5 x0_6 x0_7 x0_8 R H) h
/-- bollard/bollardref03.number -/
def F177 (x0a : Option Addr) (x0n : Nat) (x0c : Nat) (x1 : Int) (x2 : Int) (x3 : Int) (R : Ending → Heap → Prop) (H : Heap) : Prop :=
  HCalls Tryz.prog 226 #[Value.slice x0a x0n x0c, Value.int IntKind.i64 x1, Value.int IntKind.i64 x2, Value.int IntKind.i64 x3] H (Sp.retK (fun v1 H2 =>
  dT 2 v1 (fun v3 v4 =>
  dSl v3 (fun p5 r6 r7 =>
  dInt IntKind.i64 v4 (fun n8 =>
  R (Ending.returned (Value.slice p5 r6 r7)) H2)))) (pnR R))
theorem F177_eq (x0a : Option Addr) (x0n : Nat) (x0c : Nat) (x1 : Int) (x2 : Int) (x3 : Int) (R : Ending → Heap → Prop) (H : Heap) : F177 x0a x0n x0c x1 x2 x3 R H = vc Tryz.prog (codeOf Tryz.f177) .leaf (postV Tryz.prog Tryz.f177 R) ⟨#[Value.slice x0a x0n x0c, Value.int IntKind.i64 x1, Value.int IntKind.i64 x2, Value.int IntKind.i64 x3] ++ Array.replicate (Tryz.f177.ntmps - 4) undef, []⟩ H := by kernel_rfl
theorem F177_calls {R : Ending → Heap → Prop} {H : Heap} (x0a : Option Addr) (x0n : Nat) (x0c : Nat) (x1 : Int) (x2 : Int) (x3 : Int) (h : F177 x0a x0n x0c x1 x2 x3 R H) : HCalls Tryz.prog 177 #[Value.slice x0a x0n x0c, Value.int IntKind.i64 x1, Value.int IntKind.i64 x2, Value.int IntKind.i64 x3] H R :=
  calls_by (F := F177 x0a x0n x0c x1 x2 x3 R H) .leaf Tryz.func177 rfl (F177_eq x0a x0n x0c x1 x2 x3 R H) h
/-- bollard/bollardref01.Seal -/
def F178 (x0a : Option Addr) (x0n : Nat) (x0c : Nat) (R : Ending → Heap → Prop) (H : Heap) : Prop :=
  sB (decide ((↑x0n : Int) < 4)) (R (Ending.returned (Value.tuple #[Value.slice none 0 0, Value.int IntKind.i64 10])) H) (wr IntKind.i64 ((↑x0n : Int) - 4) (fun n1 =>
  wr IntKind.i64 ((↑x0n : Int) - 4) (fun n2 =>
  ask ((0 : Int) ≤ (0 : Int) ∧ (0 : Int) ≤ n2 ∧ n2 ≤ (↑x0c : Int) ∧ (↑x0c : Int) ≤ (↑x0c : Int)) (HCalls Tryz.prog 227 #[Value.slice (slO x0a 1 0 (↑x0c : Int)) (Int.toNat n2 - Int.toNat 0) (Int.toNat (↑x0c : Int) - Int.toNat 0)] H (Sp.retK (fun v3 H4 =>
  dInt IntKind.i64 v3 (fun n5 =>
  HCalls Tryz.prog 226 #[Value.slice x0a x0n x0c, Value.int IntKind.i64 n1, Value.int IntKind.i64 4, Value.int IntKind.i64 n5] H4 (Sp.retK (fun v6 H7 =>
  dT 2 v6 (fun v8 v9 =>
  dSl v8 (fun p10 r11 r12 =>
  dInt IntKind.i64 v9 (fun n13 =>
  R (Ending.returned (Value.tuple #[Value.slice p10 r11 r12, Value.int IntKind.i64 n13])) H7)))) (pnR R)))) (pnR R))))))
theorem F178_eq (x0a : Option Addr) (x0n : Nat) (x0c : Nat) (R : Ending → Heap → Prop) (H : Heap) : F178 x0a x0n x0c R H = vc Tryz.prog (codeOf Tryz.f178) .leaf (postV Tryz.prog Tryz.f178 R) ⟨#[Value.slice x0a x0n x0c] ++ Array.replicate (Tryz.f178.ntmps - 1) undef, []⟩ H := by kernel_rfl
theorem F178_calls {R : Ending → Heap → Prop} {H : Heap} (x0a : Option Addr) (x0n : Nat) (x0c : Nat) (h : F178 x0a x0n x0c R H) : HCalls Tryz.prog 178 #[Value.slice x0a x0n x0c] H R :=
  calls_by (F := F178 x0a x0n x0c R H) .leaf Tryz.func178 rfl (F178_eq x0a x0n x0c R H) h
/-- bollard/bollardref12.clash -/
def F179 (x0a : Option Addr) (x0n : Nat) (x0c : Nat) (R : Ending → Heap → Prop) (H : Heap) : Prop :=
  ∃ I1 : List Value → Heap → Prop,
  ∃ I2 : List Value → Heap → Nat,
  (I1 ([Value.int IntKind.i64 0]) H) ∧
  ∀ n3 : Int,
  ∀ v4 v5 v6 v7 v8 v9 v10 v11 v12 v13 v14 v15 v16 v17 v18 v19 v20 v21 v22 v23 v24 v25 v26 v27 v28 v29 v30 v31 v32 v33 v34 v35 v36 : Value,
  ∀ H37 : Heap,
  (I1 ([Value.int IntKind.i64 n3]) H37) →
  sB (decide (n3 < (↑x0n : Int))) (nz x0a (fun a39 =>
  ask ((0 : Int) ≤ n3 ∧ n3 < (↑x0n : Int)) (ld H37 (Addr.add a39 (Int.toNat n3 * 2)) (fun v40 =>
  ld H37 (Addr.add (Addr.add a39 (Int.toNat n3 * 2)) 1) (fun v41 =>
  al H37 (Obj.cells #[Value.int IntKind.i64 0, Value.string (ByteArray.mk #[])] 180) (fun r42 H43 =>
  st H43 (Addr.mk r42 0 none) v40 (fun H44 =>
  st H44 (Addr.mk r42 1 none) v41 (fun H45 =>
  ask ((0 : Int) ≤ (0 : Int) ∧ (0 : Int) ≤ n3 ∧ n3 ≤ (↑x0c : Int) ∧ (↑x0c : Int) ≤ (↑x0c : Int)) (∃ I46 : List Value → Heap → Prop,
  ∃ I47 : List Value → Heap → Nat,
  (I46 ([Value.int IntKind.i64 0]) H45) ∧
  ∀ n48 : Int,
  ∀ v49 v50 v51 v52 v53 v54 v55 v56 v57 v58 v59 v60 v61 v62 v63 v64 v65 v66 v67 v68 v69 : Value,
  ∀ H70 : Heap,
  (I46 ([Value.int IntKind.i64 n48]) H70) →
  sB (decide (n48 < (↑(Int.toNat n3 - Int.toNat 0) : Int))) (nz (slO x0a 2 0 (↑x0c : Int)) (fun a72 =>
  ask ((0 : Int) ≤ n48 ∧ n48 < (↑(Int.toNat n3 - Int.toNat (0 : Int)) : Int)) (ld H70 (Addr.add a72 (Int.toNat n48 * 2)) (fun v73 =>
  ld H70 (Addr.add (Addr.add a72 (Int.toNat n48 * 2)) 1) (fun v74 =>
  al H70 (Obj.cells #[Value.int IntKind.i64 0, Value.string (ByteArray.mk #[])] 180) (fun r75 H76 =>
  st H76 (Addr.mk r75 0 none) v73 (fun H77 =>
  st H77 (Addr.mk r75 1 none) v74 (fun H78 =>
  jn (α := VFH 1) (fun v79 H80 =>
  ∀ v81 v82 v83 v84 v85 v86 v87 v88 v89 v90 v91 v92 v93 v94 : Value,
  dBl v79 (fun b95 =>
  sB b95 (R (Ending.returned (Value.bool true)) H80) (wr IntKind.i64 (n48 + 1) (fun n96 =>
  (I46 ([Value.int IntKind.i64 n96]) H80) ∧
  (I47 [Value.int IntKind.i64 n96] H80) < (I47 [Value.int IntKind.i64 n48] H70))))) (fun k97 =>
  ld H78 (Addr.mk r42 0 none) (fun v98 =>
  dInt IntKind.i64 v98 (fun n99 =>
  sB (n99 != 0) (ld H78 (Addr.mk r75 0 none) (fun v100 =>
  dInt IntKind.i64 v100 (fun n101 =>
  sB (n101 != 0) (ld H78 (Addr.mk r42 1 none) (fun v102 =>
  dStr v102 (fun s103 =>
  ld H78 (Addr.mk r75 1 none) (fun v104 =>
  dStr v104 (fun s105 =>
  k97 (Value.bool (ByteArray.toList s103 == ByteArray.toList s105)) H78))))) (k97 (Value.bool false) H78)))) (k97 (Value.bool false) H78)))))))))))) (wr IntKind.i64 (n3 + 1) (fun n106 =>
  (I1 ([Value.int IntKind.i64 n106]) H70) ∧
  (I2 [Value.int IntKind.i64 n106] H70) < (I2 [Value.int IntKind.i64 n3] H37)))))))))))) (R (Ending.returned (Value.bool false)) H37)
theorem F179_eq (x0a : Option Addr) (x0n : Nat) (x0c : Nat) (R : Ending → Heap → Prop) (H : Heap) : F179 x0a x0n x0c R H = vc Tryz.prog (codeOf Tryz.f179) (.node none .leaf (.node none (.node none .leaf (.node none (.node (some ⟨[(9, 3)], [2, 3, 4, 6, 10, 11, 12, 13, 14, 15, 16, 17, 18, 19, 20, 21, 22, 23, 24, 25, 26, 27, 28, 29, 30, 31, 32, 33, 34, 35, 36, 37, 38]⟩) (.node none .leaf (.node none .leaf (.node none (.node none (.node none .leaf (.node none .leaf (.node none (.node (some ⟨[(18, 3)], [2, 6, 19, 20, 21, 22, 23, 24, 25, 26, 27, 28, 29, 30, 31, 32, 33, 34, 35, 36, 37]⟩) (.node none .leaf (.node none .leaf (.node none (.node none (.node none .leaf (.node (some ⟨[(36, 4)], [22, 23, 24, 25, 26, 27, 28, 29, 30, 31, 32, 33, 34, 35]⟩) .leaf .leaf)) .leaf) .leaf))) .leaf) .leaf))) .leaf) .leaf))) .leaf) .leaf)) .leaf)) (postV Tryz.prog Tryz.f179 R) ⟨#[Value.slice x0a x0n x0c] ++ Array.replicate (Tryz.f179.ntmps - 1) undef, []⟩ H := by kernel_rfl
theorem F179_calls {R : Ending → Heap → Prop} {H : Heap} (x0a : Option Addr) (x0n : Nat) (x0c : Nat) (h : F179 x0a x0n x0c R H) : HCalls Tryz.prog 179 #[Value.slice x0a x0n x0c] H R :=
  calls_by (F := F179 x0a x0n x0c R H) (.node none .leaf (.node none (.node none .leaf (.node none (.node (some ⟨[(9, 3)], [2, 3, 4, 6, 10, 11, 12, 13, 14, 15, 16, 17, 18, 19, 20, 21, 22, 23, 24, 25, 26, 27, 28, 29, 30, 31, 32, 33, 34, 35, 36, 37, 38]⟩) (.node none .leaf (.node none .leaf (.node none (.node none (.node none .leaf (.node none .leaf (.node none (.node (some ⟨[(18, 3)], [2, 6, 19, 20, 21, 22, 23, 24, 25, 26, 27, 28, 29, 30, 31, 32, 33, 34, 35, 36, 37]⟩) (.node none .leaf (.node none .leaf (.node none (.node none (.node none .leaf (.node (some ⟨[(36, 4)], [22, 23, 24, 25, 26, 27, 28, 29, 30, 31, 32, 33, 34, 35]⟩) .leaf .leaf)) .leaf) .leaf))) .leaf) .leaf))) .leaf) .leaf))) .leaf) .leaf)) .leaf)) Tryz.func179 rfl (F179_eq x0a x0n x0c R H) h
/-- bollard/bollardref03.EncodeEntry -/
def F180 (x0_0 : Value) (x0_1 : Value) (R : Ending → Heap → Prop) (H : Heap) : Prop :=
  al H (Obj.cells #[x0_0, x0_1] 180) (fun r1 H2 =>
  ask ((0 : Int) ≤ (16 : Int) ∧ (16 : Int) ≤ (16 : Int) ∧ (16 : Int) ≤ (281474976710656 : Int) ∧ (16 : Int) ≤ (9223372036854775807 : Int)) (al H2 (Obj.cells (List.toArray (rowZ [Value.int IntKind.u8 0] (Int.toNat 16))) 5) (fun r3 H4 =>
  ld H4 (Addr.mk r1 0 none) (fun v5 =>
  ld H4 (Addr.mk r1 1 none) (fun v6 =>
  semW Tryz.prog (eqSem BinOp.eql 180 (Operand.tmp 6) (Operand.tmp 7) (Value.agg #[v5, v6]) (Value.agg #[Value.int IntKind.i64 0, Value.string (ByteArray.mk #[])])) (pnR R) H4 (fun v9 H10 =>
  dBl v9 (fun b11 =>
  sB b11 (R (Ending.returned (Value.tuple #[Value.slice (some (Addr.mk r3 0 none)) (Int.toNat 16) (Int.toNat 16), Value.int IntKind.i64 0])) H10) (jn (α := VFH 1) (fun v12 H13 =>
  ∀ v14 v15 v16 v17 v18 v19 v20 v21 v22 v23 v24 v25 v26 v27 v28 v29 v30 v31 v32 v33 v34 v35 v36 : Value,
  dBl v12 (fun b37 =>
  sB b37 (R (Ending.returned (Value.tuple #[Value.slice none 0 0, Value.int IntKind.i64 1])) H13) (ld H13 (Addr.mk r1 0 none) (fun v38 =>
  dInt IntKind.i64 v38 (fun n39 =>
  HCalls Tryz.prog 177 #[Value.slice (some (Addr.mk r3 0 none)) (Int.toNat 16) (Int.toNat 16), Value.int IntKind.i64 0, Value.int IntKind.i64 2, Value.int IntKind.i64 n39] H13 (Sp.retK (fun v40 H41 =>
  dSl v40 (fun p42 r43 r44 =>
  ld H41 (Addr.mk r1 1 none) (fun v45 =>
  dStr v45 (fun s46 =>
  HCalls Tryz.prog 177 #[Value.slice p42 r43 r44, Value.int IntKind.i64 2, Value.int IntKind.i64 1, Value.int IntKind.i64 (↑(ByteArray.size s46) : Int)] H41 (Sp.retK (fun v47 H48 =>
  dSl v47 (fun p49 r50 r51 =>
  ask ((0 : Int) ≤ (3 : Int) ∧ (3 : Int) ≤ (↑r50 : Int) ∧ (↑r50 : Int) ≤ (↑r51 : Int) ∧ (↑r51 : Int) ≤ (↑r51 : Int)) (ld H48 (Addr.mk r1 1 none) (fun v52 =>
  dStr v52 (fun s53 =>
  semW Tryz.prog (Builtin.copy_ #[38, 9] 3 #[Value.slice (slO p49 1 3 (↑r51 : Int)) (Int.toNat (↑r50 : Int) - Int.toNat 3) (Int.toNat (↑r51 : Int) - Int.toNat 3), Value.string s53]) nopR H48 (fun v56 H57 =>
  dInt IntKind.i64 v56 (fun n58 =>
  R (Ending.returned (Value.tuple #[Value.slice p49 r50 r51, Value.int IntKind.i64 0])) H57))))))) (pnR R)))))) (pnR R))))))) (fun k63 =>
  ld H10 (Addr.mk r1 0 none) (fun v64 =>
  dInt IntKind.i64 v64 (fun n65 =>
  sB (decide (n65 < 1)) (k63 (Value.bool true) H10) (ld H10 (Addr.mk r1 0 none) (fun v66 =>
  dInt IntKind.i64 v66 (fun n67 =>
  sB (decide (n67 > 511)) (k63 (Value.bool true) H10) (ld H10 (Addr.mk r1 1 none) (fun v68 =>
  dStr v68 (fun s69 =>
  HCalls Tryz.prog 228 #[Value.string s69] H10 (Sp.retK (fun v70 H71 =>
  dBl v70 (fun b72 =>
  sB (!b72) (ld H71 (Addr.mk r1 1 none) (fun v73 =>
  dStr v73 (fun s74 =>
  sB (!ByteArray.toList s74 == [UInt8.ofBitVec 46#8]) (ld H71 (Addr.mk r1 1 none) (fun v75 =>
  dStr v75 (fun s76 =>
  k63 (Value.bool !ByteArray.toList s76 == [UInt8.ofBitVec 46#8, UInt8.ofBitVec 46#8]) H71))) (k63 (Value.bool false) H71)))) (k63 (Value.bool false) H71))) (pnR R)))))))))))))))))))
theorem F180_eq (x0_0 : Value) (x0_1 : Value) (R : Ending → Heap → Prop) (H : Heap) : F180 x0_0 x0_1 R H = vc Tryz.prog (codeOf Tryz.f180) (.node none .leaf (.node none .leaf (.node none .leaf (.node none (.node (some ⟨[(33, 4)], [10, 11, 12, 13, 14, 15, 16, 17, 18, 19, 20, 21, 22, 23, 24, 25, 26, 27, 28, 29, 30, 31, 32]⟩) .leaf .leaf) .leaf)))) (postV Tryz.prog Tryz.f180 R) ⟨#[Value.agg #[x0_0, x0_1]] ++ Array.replicate (Tryz.f180.ntmps - 1) undef, []⟩ H := by kernel_rfl
theorem F180_calls {R : Ending → Heap → Prop} {H : Heap} (x0_0 : Value) (x0_1 : Value) (h : F180 x0_0 x0_1 R H) : HCalls Tryz.prog 180 #[Value.agg #[x0_0, x0_1]] H R :=
  calls_by (F := F180 x0_0 x0_1 R H) (.node none .leaf (.node none .leaf (.node none .leaf (.node none (.node (some ⟨[(33, 4)], [10, 11, 12, 13, 14, 15, 16, 17, 18, 19, 20, 21, 22, 23, 24, 25, 26, 27, 28, 29, 30, 31, 32]⟩) .leaf .leaf) .leaf)))) Tryz.func180 rfl (F180_eq x0_0 x0_1 R H) h
/-- bollard/bollardref02.copied -/
def F181 (x0a : Option Addr) (x0n : Nat) (x0c : Nat) (R : Ending → Heap → Prop) (H : Heap) : Prop :=
  al H (Obj.cells #[] 5) (fun r1 H2 =>
  semW Tryz.prog (Builtin.append_ #[38, 38] 38 #[Value.slice (some (Addr.mk r1 0 none)) 0 0, Value.slice x0a x0n x0c]) (pnR R) H2 (fun v5 H6 =>
  dSl v5 (fun p7 r8 r9 =>
  R (Ending.returned (Value.slice p7 r8 r9)) H6)))
theorem F181_eq (x0a : Option Addr) (x0n : Nat) (x0c : Nat) (R : Ending → Heap → Prop) (H : Heap) : F181 x0a x0n x0c R H = vc Tryz.prog (codeOf Tryz.f181) .leaf (postV Tryz.prog Tryz.f181 R) ⟨#[Value.slice x0a x0n x0c] ++ Array.replicate (Tryz.f181.ntmps - 1) undef, []⟩ H := by kernel_rfl
theorem F181_calls {R : Ending → Heap → Prop} {H : Heap} (x0a : Option Addr) (x0n : Nat) (x0c : Nat) (h : F181 x0a x0n x0c R H) : HCalls Tryz.prog 181 #[Value.slice x0a x0n x0c] H R :=
  calls_by (F := F181 x0a x0n x0c R H) .leaf Tryz.func181 rfl (F181_eq x0a x0n x0c R H) h
/-- bollard/bollardref06.New -/
def F182 (x0 : Option Addr) (x1 : Int) (R : Ending → Heap → Prop) (H : Heap) : Prop :=
  sB (Option.isNone x0) (R (Ending.returned (Value.tuple #[Value.pointer none, Value.int IntKind.i64 2])) H) (jn (α := VFH 1) (fun v1 H2 =>
  ∀ v3 v4 v5 v6 v7 : Value,
  dBl v1 (fun b8 =>
  sB b8 (R (Ending.returned (Value.tuple #[Value.pointer none, Value.int IntKind.i64 1])) H2) (al H2 (Obj.cells #[Value.pointer x0, Value.int IntKind.i64 x1, Value.slice none 0 0, Value.int IntKind.i64 0, Value.int IntKind.i64 0] 281) (fun r9 H10 =>
  R (Ending.returned (Value.tuple #[Value.pointer (some (Addr.mk r9 0 none)), Value.int IntKind.i64 0])) H10)))) (fun k11 =>
  sB (decide (x1 < 1)) (k11 (Value.bool true) H) (k11 (Value.bool (decide (x1 > 64))) H)))
theorem F182_eq (x0 : Option Addr) (x1 : Int) (R : Ending → Heap → Prop) (H : Heap) : F182 x0 x1 R H = vc Tryz.prog (codeOf Tryz.f182) (.node none .leaf (.node none .leaf (.node none (.node (some ⟨[(13, 4)], [8, 9, 10, 11, 12]⟩) .leaf .leaf) .leaf))) (postV Tryz.prog Tryz.f182 R) ⟨#[Value.pointer x0, Value.int IntKind.i64 x1] ++ Array.replicate (Tryz.f182.ntmps - 2) undef, []⟩ H := by kernel_rfl
theorem F182_calls {R : Ending → Heap → Prop} {H : Heap} (x0 : Option Addr) (x1 : Int) (h : F182 x0 x1 R H) : HCalls Tryz.prog 182 #[Value.pointer x0, Value.int IntKind.i64 x1] H R :=
  calls_by (F := F182 x0 x1 R H) (.node none .leaf (.node none .leaf (.node none (.node (some ⟨[(13, 4)], [8, 9, 10, 11, 12]⟩) .leaf .leaf) .leaf))) Tryz.func182 rfl (F182_eq x0 x1 R H) h
end Go.Proofs.YtngploohhmfaiaaGreat.E
/- Contracts of functions. -/
namespace Go.Proofs.YtngploohhmfaiaaGreat.E
open Go Go.Proofs
set_option linter.unusedVariables false
/-- bytes.Clone -/
theorem c_clone (τ : Nat) {xa : Option Addr} {xn : Nat} (xc : Nat) {l : List UInt8} {τx : Nat} {s : TH} (hx : Sl s xa (bvs l) τx) (hn : l.length = xn) (h0 : xa = none → xn = 0) (hb : xn ≤ 1000000000) : TRet Tryz.prog 48 #[.slice xa xn xc] s fun v s' => ∃ a' c', v = .slice a' xn c' ∧ Ch [] s s' ∧ Own s' a' xn c' 5 1 (bvs l) τ ∧ (a' = none ↔ xa = none) := by
  refine F48_calls _ _ _  ?_
  unfold F48
  first | refine sB_d (fun hsB1 => ?_) (fun hsB1 => ?_) | refine sB_nd (fun hsB1 => ?_) (fun hsB1 => ?_) | refine sB_n (fun hsB1 => ?_) (fun hsB1 => ?_) | refine sB_i (fun hsB1 => ?_) (fun hsB1 => ?_)
  ·
    refine ret_t ?_
    have hxa : xa = none := by simpa using hsB1
    have hl : l = [] := List.eq_nil_of_length_eq_zero (by have := h0 hxa; omega)
    have h0' := h0 hxa
    subst hl h0'
    exact ⟨none, 0, rfl, (Ch.refl [] s), Own.nil _ _ _ _, by simp [hxa]⟩
  ·
    refine al_t τ fun r1 s2 hr1 b_1 c_2 z_3 => ?_
    have x_4 := hx.mv c_2 (tagn (by simp))
    refine app_i u38 in5 rfl (b_1.own0 1) x_4 (by rw [bvs_len]; omega) (bvs_one l) h0 (by unfold maxLen; omega) fun s6 a1 c1 o_7 c_50 hnil => ?_
    have c_5 := c_50.toL rfl
    have z_6 := c_5.size
    refine dSl_i ?_
    refine ret_t ?_
    have hxa : xa ≠ none := by intro h; simp [h] at hsB1
    rw [Nat.zero_add, List.nil_append] at o_7
    simp only [Nat.zero_add]
    exact ⟨a1, c1, rfl, (((Ch.refl [] s).ch c_2 (by simp)).chl c_5 (by simp) (by simp <;> omega)), o_7, by simp [hxa, hnil.1]⟩
end Go.Proofs.YtngploohhmfaiaaGreat.E
/- Contracts of functions. -/
namespace Go.Proofs.YtngploohhmfaiaaGreat.E
open Go Go.Proofs
set_option linter.unusedVariables false
/-- (*bollard/disk.Disk).Blocks -/
theorem c_blocks (d T : Nat) (D : DiskM) (s : TH) (hT : 10 ≤ T) (hd : Disk s d T D) : TRet Tryz.prog 70 #[.pointer (some ⟨d, 0, none⟩)] s fun v s' => v = .int .i64 (D.blocks.length : Int) ∧ Ch [] s s' := by
  obtain ⟨pa, pc, qa, qc, hs, qs, fr, fm, hD⟩ := id hd
  have hblk := hD.blk
  have hrows := hD.rows
  have hbrel := hD.brel
  have hque := hD.que
  have hqrel := hD.qrel
  have hfails := hD.fails
  refine F70_calls _  ?_
  unfold F70
  refine sB_f (by rfl) ?_
  refine nz_i ?_
  refine ld_t hblk rfl ?_
  refine dSl_i ?_
  refine ret_t ?_
  exact ⟨rfl, (Ch.refl [] s)⟩
theorem BRel.snoc {s : TH} {τ : Nat} {hs : List Hd} {bs : List (List UInt8)} (h : BRel s τ hs bs) {p : Hd} {b : List UInt8} (hp : ByAt s τ p b) : BRel s τ (hs ++ [p]) (bs ++ [b]) := by
  refine ⟨by simp [h.len], fun i x y hx hy => ?_⟩
  by_cases hi : i < bs.length
  · rw [List.getElem?_append_left (by rw [h.len]; exact hi)] at hx
    rw [List.getElem?_append_left hi] at hy
    exact h.at_ i x y hx hy
  · rw [List.getElem?_append_right (by rw [h.len]; omega)] at hx
    rw [List.getElem?_append_right (by omega)] at hy
    rw [h.len] at hx
    cases hd : i - bs.length with
    | zero => rw [hd] at hx hy; simp at hx hy; subst hx hy; exact hp
    | succ k => rw [hd] at hx; simp at hx
theorem BRel.nil (s : TH) (τ : Nat) : BRel s τ [] [] := ⟨rfl, fun i p b h _ => by simp at h⟩
theorem QRel.nil (s : TH) (τ : Nat) : QRel s τ [] [] := ⟨rfl, fun i p b h _ => by simp at h⟩
end Go.Proofs.YtngploohhmfaiaaGreat.E
/- Contracts of functions. -/
namespace Go.Proofs.YtngploohhmfaiaaGreat.E
open Go Go.Proofs Go.RowKit Go.Maps Go.Shelf Go.Sort
set_option linter.unusedVariables false
set_option linter.unusedSimpArgs false
section
variable {α : Type} [Inhabited α]
end
/-- a cache's buffers: each key's pointer, and when it was used last -/
structure UsedAt (s : TH) (m : List (Int × Value)) (u : Int → Int) (τb : Nat) : Prop where
  at_ : ∀ k ∈ m.map (·.1), ∃ b lb tb, mget k m = some (.pointer (some ⟨b, 0, none⟩)) ∧ Blk s b lb tb τb ∧ lb[2]? = some (.int .i64 (u k)) ∧ 0 ≤ u k ∧ u k ≤ 9223372036854775807
  inj : ∀ x ∈ m.map (·.1), ∀ y ∈ m.map (·.1), u x = u y → x = y
theorem UsedAt.mv {s s' : TH} {m : List (Int × Value)} {u : Int → Int} {τb : Nat} {B : Nat → Prop} (h : UsedAt s m u τb) (c : Chg B s s') (hn : ∀ j, j < s.h.size → s.g j = τb → ¬ B j) : UsedAt s' m u τb :=
  ⟨fun k hk => by
    obtain ⟨b, lb, tb, h1, h2, h3⟩ := h.at_ k hk
    exact ⟨b, lb, tb, h1, h2.mv c (hn b h2.lt h2.tag), h3⟩, h.inj⟩
end Go.Proofs.YtngploohhmfaiaaGreat.E
/- The plain law of GeomApart: which blocks are what; no program here. -/
namespace Go.Proofs.YtngploohhmfaiaaGreat.E
open Go
set_option linter.unusedVariables false
theorem dm {b q t : Int} (hb : 0 < b) (h0 : 0 ≤ t) (h1 : t < b) : (q * b + t) / b = q ∧ (q * b + t) % b = t :=
  (Int.ediv_emod_unique hb).2 ⟨by rw [Int.mul_comm b q]; omega, h0, h1⟩
/-- a block of inodes -/
def tab (b c x : Int) : Prop := 2 ≤ x % b ∧ x % b < 2 + c / 4
instance (b c x : Int) : Decidable (tab b c x) := by unfold tab; infer_instance
/-! inodes -/
theorem mget_none {κ : Type} [DecidableEq κ] {k : κ} {m : List (κ × Value)} (h : k ∉ m.map (·.1)) : mget k m = none := by
  induction m with
  | nil => rfl
  | cons p m ih =>
    obtain ⟨k', v⟩ := p
    simp only [List.map_cons, List.mem_cons, not_or] at h
    simp only [mget, if_neg h.1]; exact ih h.2
theorem mset_new {κ : Type} [DecidableEq κ] {k : κ} {x : Value} {m : List (κ × Value)} (h : k ∉ m.map (·.1)) : mset k x m = m ++ [(k, x)] := by
  induction m with
  | nil => rfl
  | cons p m ih =>
    obtain ⟨k', v⟩ := p
    simp only [List.map_cons, List.mem_cons, not_or] at h
    simp only [mset, if_neg h.1, ih h.2]; rfl
theorem mget_mset {κ : Type} [DecidableEq κ] {k k' : κ} {x : Value} {m : List (κ × Value)} : mget k (mset k' x m) = if k = k' then some x else mget k m := by
  induction m with
  | nil => simp only [mset, mget]
  | cons p m ih =>
    obtain ⟨k2, v⟩ := p
    by_cases h : k' = k2
    · subst h; simp only [mset, if_pos, mget]; by_cases h2 : k = k' <;> simp [h2]
    · simp only [mset, if_neg h, mget, ih]
      by_cases h2 : k = k2
      · subst h2; simp [Ne.symm h]
      · simp [h2]
end Go.Proofs.YtngploohhmfaiaaGreat.E
/- Contracts of functions. -/
namespace Go.Proofs.YtngploohhmfaiaaGreat.E
open Go Go.Proofs Go.RowKit Go.Maps Go.Shelf Go.Sort
set_option linter.unusedVariables false
set_option linter.unusedSimpArgs false
theorem mget_mdel {m : List (Int × Value)} (hn : (m.map (·.1)).Nodup) (k k' : Int) : mget k (mdel k' m) = if k = k' then none else mget k m := by
  induction m with
  | nil => simp [mdel, mget]
  | cons p m ih =>
    rw [List.map_cons, List.nodup_cons] at hn
    rw [mdel]
    by_cases h : k' = p.1
    · rw [if_pos h]
      by_cases hk : k = k'
      · rw [if_pos hk]
        exact mget_none (by rw [hk, h]; exact hn.1)
      · rw [if_neg hk, mget, if_neg (by omega)]
    · rw [if_neg h, mget, ih hn.2, mget]
      by_cases hk : k = p.1
      · rw [if_pos hk, if_pos hk, if_neg (by omega)]
      · rw [if_neg hk, if_neg hk]
theorem keys_mdel {m : List (Int × Value)} (k : Int) : (mdel k m).map (·.1) = (m.map (·.1)).erase k := by
  induction m with
  | nil => rfl
  | cons p m ih =>
    rw [mdel, List.map_cons, List.erase_cons]
    by_cases h : k = p.1
    · simp [h]
    · rw [if_neg h, if_neg (by simpa using fun e => h e.symm), List.map_cons, ih]
/-- a buffer; a cache -/
structure BufM where
  blk : Int
  by_ : List UInt8
  pins : Int
  used : Int
structure CacheM where
  l : List BufM
  bound : Int
  clock : Int
  hits : Int
  misses : Int
def rmB (l : List BufM) (b : Int) : List BufM := l.filter fun x => !(x.blk == b)
def freeB (l : List BufM) : Option BufM := l.find? fun x => x.pins == 0
def CacheM.room (C : CacheM) : Option (List BufM) := if (C.l.length : Int) < C.bound then some C.l else (freeB C.l).map fun v => rmB C.l v.blk
def CacheM.find (C : CacheM) (b : Int) : Option BufM := C.l.find? fun x => x.blk == b
def CacheM.get (C : CacheM) (bs : List (List UInt8)) (b : Int) : CacheM × Int :=
  match C.find b with
  | some x => ({ C with l := rmB C.l b ++ [{ x with used := C.clock + 1 }], clock := C.clock + 1, hits := C.hits + 1 }, 0)
  | none =>
    match C.room with
    | none => ({ C with misses := C.misses + 1 }, 60)
    | some l => ({ C with l := l ++ [⟨b, (bs[b.toNat]?).getD [], 0, C.clock + 1⟩], clock := C.clock + 1, misses := C.misses + 1 }, 0)
def bufv (p : Hd) (pins used : Int) : List Value := [.slice p.1 128 p.2, .int .i64 pins, .int .i64 used]
structure Bufs (s : TH) (τ : Nat) (l : List BufM) (bp : Int → Nat) (bh : Int → Hd) : Prop where
  at_ : ∀ x ∈ l, Blk s (bp x.blk) (bufv (bh x.blk) x.pins x.used) 258 τ
theorem Bufs.mv {s s' : TH} {τ : Nat} {l : List BufM} {bp : Int → Nat} {bh : Int → Hd} {B : Nat → Prop} (h : Bufs s τ l bp bh) (c : Chg B s s') (hn : ∀ j, j < s.h.size → s.g j = τ → ¬ B j) : Bufs s' τ l bp bh :=
  ⟨fun x hx => (h.at_ x hx).mv c (hn _ (h.at_ x hx).lt (h.at_ x hx).tag)⟩
structure BufY (s : TH) (τ : Nat) (l : List BufM) (bh : Int → Hd) : Prop where
  at_ : ∀ x ∈ l, ByAt s τ (bh x.blk) x.by_
theorem BufY.mv {s s' : TH} {τ : Nat} {l : List BufM} {bh : Int → Hd} {B : Nat → Prop} (h : BufY s τ l bh) (c : Chg B s s') (hn : ∀ j, j < s.h.size → s.g j = τ → ¬ B j) : BufY s' τ l bh := ⟨fun x hx => (h.at_ x hx).mv c hn⟩
structure MapOf (m : List (Int × Value)) (l : List BufM) (bp : Int → Nat) : Prop where
  keys : (m.map (·.1)).Perm (l.map (·.blk))
  at_ : ∀ x ∈ l, mget x.blk m = some (.pointer (some ⟨bp x.blk, 0, none⟩))
  inj : ∀ x ∈ l, ∀ y ∈ l, bp x.blk = bp y.blk → x.blk = y.blk
  nd : (l.map (·.blk)).Nodup
  rng : ∀ x ∈ l, 0 ≤ x.blk ∧ x.blk < 2048
structure CacheP (s : TH) (c T d : Nat) (C : CacheM) (r : Nat) (m : List (Int × Value)) (bp : Int → Nat) (bh : Int → Hd) : Prop where
  blk : Blk s c [.pointer (some ⟨d, 0, none⟩), .int .i64 C.bound, .map (some r), .int .i64 C.clock, .int .i64 C.hits, .int .i64 C.misses] 203 T
  map : MapK (Value.int .i64) s r m (T + 1)
  bufs : Bufs s (T + 2) C.l bp bh
  bufy : BufY s (T + 3) C.l bh
  mo : MapOf m C.l bp
  bnd : 1 ≤ C.bound ∧ C.bound ≤ 64
  len : (C.l.length : Int) ≤ C.bound
structure COk (C : CacheM) : Prop where
  srt : C.l.Pairwise fun x y => x.used < y.used
  rng : ∀ x ∈ C.l, 0 ≤ x.used ∧ x.used ≤ C.clock
  clk : 0 ≤ C.clock ∧ C.clock ≤ 9223372036854775807
  cnt : 0 ≤ C.hits ∧ C.hits ≤ 9223372036854775807 ∧ 0 ≤ C.misses ∧ C.misses ≤ 9223372036854775807
  pin : ∀ x ∈ C.l, 0 ≤ x.pins ∧ x.pins ≤ 100
/-- a cache over a disk, in memory -/
structure Cache (s : TH) (c T d : Nat) (C : CacheM) : Prop where
  p : ∃ r m bp bh, CacheP s c T d C r m bp bh
  ok : COk C
theorem CacheP.mv {s s' : TH} {c T d r : Nat} {C : CacheM} {m : List (Int × Value)} {bp : Int → Nat} {bh : Int → Hd} {B : Nat → Prop} (h : CacheP s c T d C r m bp bh) (k : Chg B s s') (hn : ∀ j, j < s.h.size → T ≤ s.g j → s.g j < T + 10 → ¬ B j) : CacheP s' c T d C r m bp bh :=
  ⟨h.blk.mv k (of_rng hn (Nat.le_refl _) (by omega) c h.blk.lt h.blk.tag), h.map.mv k (of_rng hn (by omega) (by omega) r h.map.lt h.map.tag), h.bufs.mv k (of_rng hn (by omega) (by omega)), h.bufy.mv k (of_rng hn (by omega) (by omega)), h.mo, h.bnd, h.len⟩
theorem Cache.mv {s s' : TH} {c T d : Nat} {C : CacheM} {B : Nat → Prop} (h : Cache s c T d C) (k : Chg B s s') (hn : ∀ j, j < s.h.size → T ≤ s.g j → s.g j < T + 10 → ¬ B j) : Cache s' c T d C := by
  obtain ⟨⟨r, m, bp, bh, hp⟩, ok⟩ := h
  exact ⟨⟨r, m, bp, bh, hp.mv k hn⟩, ok⟩
theorem find_mem {l : List BufM} {b : Int} {x : BufM} (hf : (l.find? fun x => x.blk == b) = some x) : x ∈ l ∧ x.blk = b := ⟨List.mem_of_find?_eq_some hf, by simpa using List.find?_some hf⟩
theorem rmB_mem {l : List BufM} {b : Int} {x : BufM} : x ∈ rmB l b ↔ x ∈ l ∧ x.blk ≠ b := by unfold rmB; simp
theorem rmB_sub (l : List BufM) (b : Int) : (rmB l b).Sublist l := List.filter_sublist
theorem rmB_keys {l : List BufM} (hn : (l.map (·.blk)).Nodup) (b : Int) : (rmB l b).map (·.blk) = (l.map (·.blk)).erase b := by
  rw [hn.erase_eq_filter, List.filter_map]
  unfold rmB
  congr 1
theorem MapOf.del {m : List (Int × Value)} {l : List BufM} {bp : Int → Nat} (h : MapOf m l bp) (hm : (m.map (·.1)).Nodup) (b : Int) : MapOf (mdel b m) (rmB l b) bp :=
  ⟨by rw [keys_mdel, rmB_keys h.nd]; exact h.keys.erase b, fun x hx => by rw [mget_mdel hm, if_neg (rmB_mem.1 hx).2]; exact h.at_ x (rmB_mem.1 hx).1,
    fun x hx y hy => h.inj x (rmB_mem.1 hx).1 y (rmB_mem.1 hy).1, h.nd.sublist ((rmB_sub l b).map _), fun x hx => h.rng x (rmB_mem.1 hx).1⟩
theorem MapOf.add {m : List (Int × Value)} {l : List BufM} {bp : Int → Nat} (h : MapOf m l bp) (x : BufM) (p : Nat) (hx : x.blk ∉ l.map (·.blk)) (hr : 0 ≤ x.blk ∧ x.blk < 2048) (hp : ∀ y ∈ l, bp y.blk ≠ p) :
    MapOf (mset x.blk (.pointer (some ⟨p, 0, none⟩)) m) (l ++ [x]) (fun k => if k = x.blk then p else bp k) := by
  have hk : x.blk ∉ m.map (·.1) := fun e => hx (h.keys.mem_iff.1 e)
  have hne : ∀ y ∈ l, y.blk ≠ x.blk := fun y hy e => hx (e ▸ List.mem_map.2 ⟨y, hy, rfl⟩)
  refine ⟨?_, fun y hy => ?_, fun y hy z hz e => ?_, ?_, fun y hy => ?_⟩
  · rw [mset_new hk]; simpa using h.keys.append_right [x.blk]
  · rw [mget_mset]
    rcases List.mem_append.1 hy with hy | hy
    · rw [if_neg (hne y hy)]; simp only [if_neg (hne y hy)]; exact h.at_ y hy
    · simp at hy; subst hy; simp
  · rcases List.mem_append.1 hy with hy1 | hy1 <;> rcases List.mem_append.1 hz with hz1 | hz1
    · simp only [if_neg (hne y hy1), if_neg (hne z hz1)] at e; exact h.inj y hy1 z hz1 e
    · rw [List.mem_singleton] at hz1; rw [hz1] at e
      simp only [if_neg (hne y hy1), if_true] at e
      exact absurd e (hp y hy1)
    · rw [List.mem_singleton] at hy1; rw [hy1] at e
      simp only [if_neg (hne z hz1), if_true] at e
      exact absurd e.symm (hp z hz1)
    · rw [List.mem_singleton] at hy1 hz1; rw [hy1, hz1]
  · rw [List.map_append, List.nodup_append]
    refine ⟨h.nd, by simp, fun a ha b hb e => ?_⟩
    simp at hb; subst hb; subst e; exact hx ha
  · rcases List.mem_append.1 hy with hy | hy
    · exact h.rng y hy
    · simp at hy; subst hy; exact hr
end Go.Proofs.YtngploohhmfaiaaGreat.E
/- Contracts of functions. -/
namespace Go.Proofs.YtngploohhmfaiaaGreat.E
open Go Go.Proofs Go.RowKit Go.Maps Go.Shelf Go.Sort
set_option linter.unusedVariables false
set_option linter.unusedSimpArgs false
theorem Disk.nb {s : TH} {d T : Nat} {D : DiskM} (h : Disk s d T D) : 1 ≤ D.blocks.length ∧ D.blocks.length ≤ 2048 := by obtain ⟨_, _, _, _, _, _, _, _, h⟩ := h; exact h.nb
theorem Bufs.sub {s : TH} {τ : Nat} {l l' : List BufM} {bp : Int → Nat} {bh : Int → Hd} (h : Bufs s τ l bp bh) (hs : l'.Sublist l) : Bufs s τ l' bp bh := ⟨fun x hx => h.at_ x (hs.subset hx)⟩
theorem BufY.sub {s : TH} {τ : Nat} {l l' : List BufM} {bh : Int → Hd} (h : BufY s τ l bh) (hs : l'.Sublist l) : BufY s τ l' bh := ⟨fun x hx => h.at_ x (hs.subset hx)⟩
end Go.Proofs.YtngploohhmfaiaaGreat.E
