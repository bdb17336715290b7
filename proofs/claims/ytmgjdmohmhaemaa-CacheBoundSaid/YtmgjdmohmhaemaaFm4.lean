/- The functions' forms in the engine's words, printed by my own program. -/
import Derived.Test.YtmgjdmohmhaemaaProg
import Derived.Test.YtmgjdmohmhaemaaEng11
import Derived.KernelRfl
namespace Go.Proofs.Ytmgjdmohmhaemaa.E
open Go Go.Proofs
set_option linter.unusedVariables false
/-- math/bits.Mul32 -/
def F106 (x0 : Int) (x1 : Int) (R : Ending → Heap → Prop) (H : Heap) : Prop :=
  wr IntKind.u64 x0 (fun n1 =>
  wr IntKind.u64 x1 (fun n2 =>
  wr IntKind.u64 (n1 * n2) (fun n3 =>
  ask ((0 : Int) ≤ (32 : Int)) (nm (Int.fdiv n3 (2 ^ min (Int.toNat 32) 64)) (fun n4 =>
  wr IntKind.u32 n4 (fun n5 =>
  wr IntKind.u32 n3 (fun n6 =>
  R (Ending.returned (Value.tuple #[Value.int IntKind.u32 n5, Value.int IntKind.u32 n6])) H)))))))
theorem F106_eq (x0 : Int) (x1 : Int) (R : Ending → Heap → Prop) (H : Heap) : F106 x0 x1 R H = vc Try.prog (codeOf Try.f106) .leaf (postV Try.prog Try.f106 R) ⟨#[Value.int IntKind.u32 x0, Value.int IntKind.u32 x1] ++ Array.replicate (Try.f106.ntmps - 2) undef, []⟩ H := by kernel_rfl
theorem F106_calls {R : Ending → Heap → Prop} {H : Heap} (x0 : Int) (x1 : Int) (h : F106 x0 x1 R H) : HCalls Try.prog 106 #[Value.int IntKind.u32 x0, Value.int IntKind.u32 x1] H R :=
  calls_by (F := F106 x0 x1 R H) .leaf Try.func106 rfl (F106_eq x0 x1 R H) h
/-- math/bits.Mul64 -/
def F107 (x0 : Int) (x1 : Int) (R : Ending → Heap → Prop) (H : Heap) : Prop :=
  nm (IntKind.wrap IntKind.u64 (↑(BitVec.toNat (BitVec.ofInt 64 x0 &&& BitVec.ofInt 64 4294967295)) : Int)) (fun n1 =>
  ask ((0 : Int) ≤ (32 : Int)) (nm (Int.fdiv x0 (2 ^ min (Int.toNat 32) 64)) (fun n2 =>
  nm (IntKind.wrap IntKind.u64 (↑(BitVec.toNat (BitVec.ofInt 64 x1 &&& BitVec.ofInt 64 4294967295)) : Int)) (fun n3 =>
  ask ((0 : Int) ≤ (32 : Int)) (nm (Int.fdiv x1 (2 ^ min (Int.toNat 32) 64)) (fun n4 =>
  wr IntKind.u64 (n1 * n3) (fun n5 =>
  wr IntKind.u64 (n2 * n3) (fun n6 =>
  ask ((0 : Int) ≤ (32 : Int)) (nm (Int.fdiv n5 (2 ^ min (Int.toNat 32) 64)) (fun n7 =>
  wr IntKind.u64 (n6 + n7) (fun n8 =>
  nm (IntKind.wrap IntKind.u64 (↑(BitVec.toNat (BitVec.ofInt 64 n8 &&& BitVec.ofInt 64 4294967295)) : Int)) (fun n9 =>
  ask ((0 : Int) ≤ (32 : Int)) (nm (Int.fdiv n8 (2 ^ min (Int.toNat 32) 64)) (fun n10 =>
  wr IntKind.u64 (n1 * n4) (fun n11 =>
  wr IntKind.u64 (n9 + n11) (fun n12 =>
  wr IntKind.u64 (n2 * n4) (fun n13 =>
  wr IntKind.u64 (n13 + n10) (fun n14 =>
  ask ((0 : Int) ≤ (32 : Int)) (nm (Int.fdiv n12 (2 ^ min (Int.toNat 32) 64)) (fun n15 =>
  wr IntKind.u64 (n14 + n15) (fun n16 =>
  wr IntKind.u64 (x0 * x1) (fun n17 =>
  R (Ending.returned (Value.tuple #[Value.int IntKind.u64 n16, Value.int IntKind.u64 n17])) H))))))))))))))))))))))
theorem F107_eq (x0 : Int) (x1 : Int) (R : Ending → Heap → Prop) (H : Heap) : F107 x0 x1 R H = vc Try.prog (codeOf Try.f107) .leaf (postV Try.prog Try.f107 R) ⟨#[Value.int IntKind.u64 x0, Value.int IntKind.u64 x1] ++ Array.replicate (Try.f107.ntmps - 2) undef, []⟩ H := by kernel_rfl
theorem F107_calls {R : Ending → Heap → Prop} {H : Heap} (x0 : Int) (x1 : Int) (h : F107 x0 x1 R H) : HCalls Try.prog 107 #[Value.int IntKind.u64 x0, Value.int IntKind.u64 x1] H R :=
  calls_by (F := F107 x0 x1 R H) .leaf Try.func107 rfl (F107_eq x0 x1 R H) h
/-- cmp.Less[int] -/
def F114 (x0 : Int) (x1 : Int) (R : Ending → Heap → Prop) (H : Heap) : Prop :=
  HCalls Try.prog 139 #[Value.int IntKind.i64 x0] H (Sp.retK (fun v1 H2 =>
  dBl v1 (fun b3 =>
  sB b3 (HCalls Try.prog 139 #[Value.int IntKind.i64 x1] H2 (Sp.retK (fun v4 H5 =>
  dBl v4 (fun b6 =>
  sB (!b6) (R (Ending.returned (Value.bool true)) H5) (R (Ending.returned (Value.bool (decide (x0 < x1)))) H5))) (pnR R))) (R (Ending.returned (Value.bool (decide (x0 < x1)))) H2))) (pnR R))
theorem F114_eq (x0 : Int) (x1 : Int) (R : Ending → Heap → Prop) (H : Heap) : F114 x0 x1 R H = vc Try.prog (codeOf Try.f114) .leaf (postV Try.prog Try.f114 R) ⟨#[Value.int IntKind.i64 x0, Value.int IntKind.i64 x1] ++ Array.replicate (Try.f114.ntmps - 2) undef, []⟩ H := by kernel_rfl
theorem F114_calls {R : Ending → Heap → Prop} {H : Heap} (x0 : Int) (x1 : Int) (h : F114 x0 x1 R H) : HCalls Try.prog 114 #[Value.int IntKind.i64 x0, Value.int IntKind.i64 x1] H R :=
  calls_by (F := F114 x0 x1 R H) .leaf Try.func114 rfl (F114_eq x0 x1 R H) h
/-- math/bits.Len32 -/
def F117 (x0 : Int) (R : Ending → Heap → Prop) (H : Heap) : Prop :=
  jn (α := VFH 2) (fun v1 v2 H3 =>
  ∀ v4 v5 v6 v7 : Value,
  dInt IntKind.u32 v1 (fun n8 =>
  dInt IntKind.i64 v2 (fun n9 =>
  jn (α := VFH 2) (fun v10 v11 H12 =>
  ∀ v13 v14 v15 v16 v17 v18 : Value,
  dInt IntKind.u32 v10 (fun n19 =>
  dInt IntKind.i64 v11 (fun n20 =>
  wr IntKind.u8 n19 (fun n21 =>
  ask ((0 : Int) ≤ n21 ∧ n21 < (256 : Int)) (wr IntKind.i64 (byteAt (ByteArray.mk #[UInt8.ofBitVec 0#8, UInt8.ofBitVec 1#8, UInt8.ofBitVec 2#8, UInt8.ofBitVec 2#8, UInt8.ofBitVec 3#8, UInt8.ofBitVec 3#8, UInt8.ofBitVec 3#8, UInt8.ofBitVec 3#8, UInt8.ofBitVec 4#8, UInt8.ofBitVec 4#8, UInt8.ofBitVec 4#8, UInt8.ofBitVec 4#8, UInt8.ofBitVec 4#8, UInt8.ofBitVec 4#8, UInt8.ofBitVec 4#8, UInt8.ofBitVec 4#8, UInt8.ofBitVec 5#8, UInt8.ofBitVec 5#8, UInt8.ofBitVec 5#8, UInt8.ofBitVec 5#8, UInt8.ofBitVec 5#8, UInt8.ofBitVec 5#8, UInt8.ofBitVec 5#8, UInt8.ofBitVec 5#8, UInt8.ofBitVec 5#8, UInt8.ofBitVec 5#8, UInt8.ofBitVec 5#8, UInt8.ofBitVec 5#8, UInt8.ofBitVec 5#8, UInt8.ofBitVec 5#8, UInt8.ofBitVec 5#8, UInt8.ofBitVec 5#8, UInt8.ofBitVec 6#8, UInt8.ofBitVec 6#8, UInt8.ofBitVec 6#8, UInt8.ofBitVec 6#8, UInt8.ofBitVec 6#8, UInt8.ofBitVec 6#8, UInt8.ofBitVec 6#8, UInt8.ofBitVec 6#8, UInt8.ofBitVec 6#8, UInt8.ofBitVec 6#8, UInt8.ofBitVec 6#8, UInt8.ofBitVec 6#8, UInt8.ofBitVec 6#8, UInt8.ofBitVec 6#8, UInt8.ofBitVec 6#8, UInt8.ofBitVec 6#8, UInt8.ofBitVec 6#8, UInt8.ofBitVec 6#8, UInt8.ofBitVec 6#8, UInt8.ofBitVec 6#8, UInt8.ofBitVec 6#8, UInt8.ofBitVec 6#8, UInt8.ofBitVec 6#8, UInt8.ofBitVec 6#8, UInt8.ofBitVec 6#8, UInt8.ofBitVec 6#8, UInt8.ofBitVec 6#8, UInt8.ofBitVec 6#8, UInt8.ofBitVec 6#8, UInt8.ofBitVec 6#8, UInt8.ofBitVec 6#8, UInt8.ofBitVec 6#8, UInt8.ofBitVec 7#8, UInt8.ofBitVec 7#8, UInt8.ofBitVec 7#8, UInt8.ofBitVec 7#8, UInt8.ofBitVec 7#8, UInt8.ofBitVec 7#8, UInt8.ofBitVec 7#8, UInt8.ofBitVec 7#8, UInt8.ofBitVec 7#8, UInt8.ofBitVec 7#8, UInt8.ofBitVec 7#8, UInt8.ofBitVec 7#8, UInt8.ofBitVec 7#8, UInt8.ofBitVec 7#8, UInt8.ofBitVec 7#8, UInt8.ofBitVec 7#8, UInt8.ofBitVec 7#8, UInt8.ofBitVec 7#8, UInt8.ofBitVec 7#8, UInt8.ofBitVec 7#8, UInt8.ofBitVec 7#8, UInt8.ofBitVec 7#8, UInt8.ofBitVec 7#8, UInt8.ofBitVec 7#8, UInt8.ofBitVec 7#8, UInt8.ofBitVec 7#8, UInt8.ofBitVec 7#8, UInt8.ofBitVec 7#8, UInt8.ofBitVec 7#8, UInt8.ofBitVec 7#8, UInt8.ofBitVec 7#8, UInt8.ofBitVec 7#8, UInt8.ofBitVec 7#8, UInt8.ofBitVec 7#8, UInt8.ofBitVec 7#8, UInt8.ofBitVec 7#8, UInt8.ofBitVec 7#8, UInt8.ofBitVec 7#8, UInt8.ofBitVec 7#8, UInt8.ofBitVec 7#8, UInt8.ofBitVec 7#8, UInt8.ofBitVec 7#8, UInt8.ofBitVec 7#8, UInt8.ofBitVec 7#8, UInt8.ofBitVec 7#8, UInt8.ofBitVec 7#8, UInt8.ofBitVec 7#8, UInt8.ofBitVec 7#8, UInt8.ofBitVec 7#8, UInt8.ofBitVec 7#8, UInt8.ofBitVec 7#8, UInt8.ofBitVec 7#8, UInt8.ofBitVec 7#8, UInt8.ofBitVec 7#8, UInt8.ofBitVec 7#8, UInt8.ofBitVec 7#8, UInt8.ofBitVec 7#8, UInt8.ofBitVec 7#8, UInt8.ofBitVec 7#8, UInt8.ofBitVec 7#8, UInt8.ofBitVec 7#8, UInt8.ofBitVec 7#8, UInt8.ofBitVec 7#8, UInt8.ofBitVec 7#8, UInt8.ofBitVec 8#8, UInt8.ofBitVec 8#8, UInt8.ofBitVec 8#8, UInt8.ofBitVec 8#8, UInt8.ofBitVec 8#8, UInt8.ofBitVec 8#8, UInt8.ofBitVec 8#8, UInt8.ofBitVec 8#8, UInt8.ofBitVec 8#8, UInt8.ofBitVec 8#8, UInt8.ofBitVec 8#8, UInt8.ofBitVec 8#8, UInt8.ofBitVec 8#8, UInt8.ofBitVec 8#8, UInt8.ofBitVec 8#8, UInt8.ofBitVec 8#8, UInt8.ofBitVec 8#8, UInt8.ofBitVec 8#8, UInt8.ofBitVec 8#8, UInt8.ofBitVec 8#8, UInt8.ofBitVec 8#8, UInt8.ofBitVec 8#8, UInt8.ofBitVec 8#8, UInt8.ofBitVec 8#8, UInt8.ofBitVec 8#8, UInt8.ofBitVec 8#8, UInt8.ofBitVec 8#8, UInt8.ofBitVec 8#8, UInt8.ofBitVec 8#8, UInt8.ofBitVec 8#8, UInt8.ofBitVec 8#8, UInt8.ofBitVec 8#8, UInt8.ofBitVec 8#8, UInt8.ofBitVec 8#8, UInt8.ofBitVec 8#8, UInt8.ofBitVec 8#8, UInt8.ofBitVec 8#8, UInt8.ofBitVec 8#8, UInt8.ofBitVec 8#8, UInt8.ofBitVec 8#8, UInt8.ofBitVec 8#8, UInt8.ofBitVec 8#8, UInt8.ofBitVec 8#8, UInt8.ofBitVec 8#8, UInt8.ofBitVec 8#8, UInt8.ofBitVec 8#8, UInt8.ofBitVec 8#8, UInt8.ofBitVec 8#8, UInt8.ofBitVec 8#8, UInt8.ofBitVec 8#8, UInt8.ofBitVec 8#8, UInt8.ofBitVec 8#8, UInt8.ofBitVec 8#8, UInt8.ofBitVec 8#8, UInt8.ofBitVec 8#8, UInt8.ofBitVec 8#8, UInt8.ofBitVec 8#8, UInt8.ofBitVec 8#8, UInt8.ofBitVec 8#8, UInt8.ofBitVec 8#8, UInt8.ofBitVec 8#8, UInt8.ofBitVec 8#8, UInt8.ofBitVec 8#8, UInt8.ofBitVec 8#8, UInt8.ofBitVec 8#8, UInt8.ofBitVec 8#8, UInt8.ofBitVec 8#8, UInt8.ofBitVec 8#8, UInt8.ofBitVec 8#8, UInt8.ofBitVec 8#8, UInt8.ofBitVec 8#8, UInt8.ofBitVec 8#8, UInt8.ofBitVec 8#8, UInt8.ofBitVec 8#8, UInt8.ofBitVec 8#8, UInt8.ofBitVec 8#8, UInt8.ofBitVec 8#8, UInt8.ofBitVec 8#8, UInt8.ofBitVec 8#8, UInt8.ofBitVec 8#8, UInt8.ofBitVec 8#8, UInt8.ofBitVec 8#8, UInt8.ofBitVec 8#8, UInt8.ofBitVec 8#8, UInt8.ofBitVec 8#8, UInt8.ofBitVec 8#8, UInt8.ofBitVec 8#8, UInt8.ofBitVec 8#8, UInt8.ofBitVec 8#8, UInt8.ofBitVec 8#8, UInt8.ofBitVec 8#8, UInt8.ofBitVec 8#8, UInt8.ofBitVec 8#8, UInt8.ofBitVec 8#8, UInt8.ofBitVec 8#8, UInt8.ofBitVec 8#8, UInt8.ofBitVec 8#8, UInt8.ofBitVec 8#8, UInt8.ofBitVec 8#8, UInt8.ofBitVec 8#8, UInt8.ofBitVec 8#8, UInt8.ofBitVec 8#8, UInt8.ofBitVec 8#8, UInt8.ofBitVec 8#8, UInt8.ofBitVec 8#8, UInt8.ofBitVec 8#8, UInt8.ofBitVec 8#8, UInt8.ofBitVec 8#8, UInt8.ofBitVec 8#8, UInt8.ofBitVec 8#8, UInt8.ofBitVec 8#8, UInt8.ofBitVec 8#8, UInt8.ofBitVec 8#8, UInt8.ofBitVec 8#8, UInt8.ofBitVec 8#8, UInt8.ofBitVec 8#8, UInt8.ofBitVec 8#8, UInt8.ofBitVec 8#8, UInt8.ofBitVec 8#8, UInt8.ofBitVec 8#8, UInt8.ofBitVec 8#8, UInt8.ofBitVec 8#8, UInt8.ofBitVec 8#8, UInt8.ofBitVec 8#8, UInt8.ofBitVec 8#8, UInt8.ofBitVec 8#8, UInt8.ofBitVec 8#8, UInt8.ofBitVec 8#8]) (Int.toNat n21)) (fun n22 =>
  wr IntKind.i64 (n20 + n22) (fun n23 =>
  R (Ending.returned (Value.int IntKind.i64 n23)) H12))))))) (fun k24 =>
  sB (decide (n8 ≥ 256)) (ask ((0 : Int) ≤ (8 : Int)) (nm (Int.fdiv n8 (2 ^ min (Int.toNat 8) 32)) (fun n25 =>
  wr IntKind.i64 (n9 + 8) (fun n26 =>
  k24 (Value.int IntKind.u32 n25) (Value.int IntKind.i64 n26) H3)))) (k24 (Value.int IntKind.u32 n8) (Value.int IntKind.i64 n9) H3))))) (fun k27 =>
  sB (decide (x0 ≥ 65536)) (ask ((0 : Int) ≤ (16 : Int)) (nm (Int.fdiv x0 (2 ^ min (Int.toNat 16) 32)) (fun n28 =>
  k27 (Value.int IntKind.u32 n28) (Value.int IntKind.i64 16) H))) (k27 (Value.int IntKind.u32 x0) (Value.int IntKind.i64 0) H))
theorem F117_eq (x0 : Int) (R : Ending → Heap → Prop) (H : Heap) : F117 x0 R H = vc Try.prog (codeOf Try.f117) (.node none .leaf (.node (some ⟨[(0, 159), (2, 3)], [3, 4, 5, 6]⟩) .leaf (.node (some ⟨[(0, 159), (2, 3)], [7, 8, 9, 10, 11, 12]⟩) .leaf .leaf))) (postV Try.prog Try.f117 R) ⟨#[Value.int IntKind.u32 x0] ++ Array.replicate (Try.f117.ntmps - 1) undef, []⟩ H := by kernel_rfl
theorem F117_calls {R : Ending → Heap → Prop} {H : Heap} (x0 : Int) (h : F117 x0 R H) : HCalls Try.prog 117 #[Value.int IntKind.u32 x0] H R :=
  calls_by (F := F117 x0 R H) (.node none .leaf (.node (some ⟨[(0, 159), (2, 3)], [3, 4, 5, 6]⟩) .leaf (.node (some ⟨[(0, 159), (2, 3)], [7, 8, 9, 10, 11, 12]⟩) .leaf .leaf))) Try.func117 rfl (F117_eq x0 R H) h
/-- math/bits.Len64 -/
def F118 (x0 : Int) (R : Ending → Heap → Prop) (H : Heap) : Prop :=
  jn (α := VFH 2) (fun v1 v2 H3 =>
  ∀ v4 v5 v6 v7 : Value,
  dInt IntKind.u64 v1 (fun n8 =>
  dInt IntKind.i64 v2 (fun n9 =>
  jn (α := VFH 2) (fun v10 v11 H12 =>
  ∀ v13 v14 v15 v16 v17 v18 : Value,
  dInt IntKind.u64 v10 (fun n19 =>
  dInt IntKind.i64 v11 (fun n20 =>
  jn (α := VFH 2) (fun v21 v22 H23 =>
  ∀ v24 v25 v26 v27 v28 v29 : Value,
  dInt IntKind.u64 v21 (fun n30 =>
  dInt IntKind.i64 v22 (fun n31 =>
  wr IntKind.u8 n30 (fun n32 =>
  ask ((0 : Int) ≤ n32 ∧ n32 < (256 : Int)) (wr IntKind.i64 (byteAt (ByteArray.mk #[UInt8.ofBitVec 0#8, UInt8.ofBitVec 1#8, UInt8.ofBitVec 2#8, UInt8.ofBitVec 2#8, UInt8.ofBitVec 3#8, UInt8.ofBitVec 3#8, UInt8.ofBitVec 3#8, UInt8.ofBitVec 3#8, UInt8.ofBitVec 4#8, UInt8.ofBitVec 4#8, UInt8.ofBitVec 4#8, UInt8.ofBitVec 4#8, UInt8.ofBitVec 4#8, UInt8.ofBitVec 4#8, UInt8.ofBitVec 4#8, UInt8.ofBitVec 4#8, UInt8.ofBitVec 5#8, UInt8.ofBitVec 5#8, UInt8.ofBitVec 5#8, UInt8.ofBitVec 5#8, UInt8.ofBitVec 5#8, UInt8.ofBitVec 5#8, UInt8.ofBitVec 5#8, UInt8.ofBitVec 5#8, UInt8.ofBitVec 5#8, UInt8.ofBitVec 5#8, UInt8.ofBitVec 5#8, UInt8.ofBitVec 5#8, UInt8.ofBitVec 5#8, UInt8.ofBitVec 5#8, UInt8.ofBitVec 5#8, UInt8.ofBitVec 5#8, UInt8.ofBitVec 6#8, UInt8.ofBitVec 6#8, UInt8.ofBitVec 6#8, UInt8.ofBitVec 6#8, UInt8.ofBitVec 6#8, UInt8.ofBitVec 6#8, UInt8.ofBitVec 6#8, UInt8.ofBitVec 6#8, UInt8.ofBitVec 6#8, UInt8.ofBitVec 6#8, UInt8.ofBitVec 6#8, UInt8.ofBitVec 6#8, UInt8.ofBitVec 6#8, UInt8.ofBitVec 6#8, UInt8.ofBitVec 6#8, UInt8.ofBitVec 6#8, UInt8.ofBitVec 6#8, UInt8.ofBitVec 6#8, UInt8.ofBitVec 6#8, UInt8.ofBitVec 6#8, UInt8.ofBitVec 6#8, UInt8.ofBitVec 6#8, UInt8.ofBitVec 6#8, UInt8.ofBitVec 6#8, UInt8.ofBitVec 6#8, UInt8.ofBitVec 6#8, UInt8.ofBitVec 6#8, UInt8.ofBitVec 6#8, UInt8.ofBitVec 6#8, UInt8.ofBitVec 6#8, UInt8.ofBitVec 6#8, UInt8.ofBitVec 6#8, UInt8.ofBitVec 7#8, UInt8.ofBitVec 7#8, UInt8.ofBitVec 7#8, UInt8.ofBitVec 7#8, UInt8.ofBitVec 7#8, UInt8.ofBitVec 7#8, UInt8.ofBitVec 7#8, UInt8.ofBitVec 7#8, UInt8.ofBitVec 7#8, UInt8.ofBitVec 7#8, UInt8.ofBitVec 7#8, UInt8.ofBitVec 7#8, UInt8.ofBitVec 7#8, UInt8.ofBitVec 7#8, UInt8.ofBitVec 7#8, UInt8.ofBitVec 7#8, UInt8.ofBitVec 7#8, UInt8.ofBitVec 7#8, UInt8.ofBitVec 7#8, UInt8.ofBitVec 7#8, UInt8.ofBitVec 7#8, UInt8.ofBitVec 7#8, UInt8.ofBitVec 7#8, UInt8.ofBitVec 7#8, UInt8.ofBitVec 7#8, UInt8.ofBitVec 7#8, UInt8.ofBitVec 7#8, UInt8.ofBitVec 7#8, UInt8.ofBitVec 7#8, UInt8.ofBitVec 7#8, UInt8.ofBitVec 7#8, UInt8.ofBitVec 7#8, UInt8.ofBitVec 7#8, UInt8.ofBitVec 7#8, UInt8.ofBitVec 7#8, UInt8.ofBitVec 7#8, UInt8.ofBitVec 7#8, UInt8.ofBitVec 7#8, UInt8.ofBitVec 7#8, UInt8.ofBitVec 7#8, UInt8.ofBitVec 7#8, UInt8.ofBitVec 7#8, UInt8.ofBitVec 7#8, UInt8.ofBitVec 7#8, UInt8.ofBitVec 7#8, UInt8.ofBitVec 7#8, UInt8.ofBitVec 7#8, UInt8.ofBitVec 7#8, UInt8.ofBitVec 7#8, UInt8.ofBitVec 7#8, UInt8.ofBitVec 7#8, UInt8.ofBitVec 7#8, UInt8.ofBitVec 7#8, UInt8.ofBitVec 7#8, UInt8.ofBitVec 7#8, UInt8.ofBitVec 7#8, UInt8.ofBitVec 7#8, UInt8.ofBitVec 7#8, UInt8.ofBitVec 7#8, UInt8.ofBitVec 7#8, UInt8.ofBitVec 7#8, UInt8.ofBitVec 7#8, UInt8.ofBitVec 7#8, UInt8.ofBitVec 7#8, UInt8.ofBitVec 8#8, UInt8.ofBitVec 8#8, UInt8.ofBitVec 8#8, UInt8.ofBitVec 8#8, UInt8.ofBitVec 8#8, UInt8.ofBitVec 8#8, UInt8.ofBitVec 8#8, UInt8.ofBitVec 8#8, UInt8.ofBitVec 8#8, UInt8.ofBitVec 8#8, UInt8.ofBitVec 8#8, UInt8.ofBitVec 8#8, UInt8.ofBitVec 8#8, UInt8.ofBitVec 8#8, UInt8.ofBitVec 8#8, UInt8.ofBitVec 8#8, UInt8.ofBitVec 8#8, UInt8.ofBitVec 8#8, UInt8.ofBitVec 8#8, UInt8.ofBitVec 8#8, UInt8.ofBitVec 8#8, UInt8.ofBitVec 8#8, UInt8.ofBitVec 8#8, UInt8.ofBitVec 8#8, UInt8.ofBitVec 8#8, UInt8.ofBitVec 8#8, UInt8.ofBitVec 8#8, UInt8.ofBitVec 8#8, UInt8.ofBitVec 8#8, UInt8.ofBitVec 8#8, UInt8.ofBitVec 8#8, UInt8.ofBitVec 8#8, UInt8.ofBitVec 8#8, UInt8.ofBitVec 8#8, UInt8.ofBitVec 8#8, UInt8.ofBitVec 8#8, UInt8.ofBitVec 8#8, UInt8.ofBitVec 8#8, UInt8.ofBitVec 8#8, UInt8.ofBitVec 8#8, UInt8.ofBitVec 8#8, UInt8.ofBitVec 8#8, UInt8.ofBitVec 8#8, UInt8.ofBitVec 8#8, UInt8.ofBitVec 8#8, UInt8.ofBitVec 8#8, UInt8.ofBitVec 8#8, UInt8.ofBitVec 8#8, UInt8.ofBitVec 8#8, UInt8.ofBitVec 8#8, UInt8.ofBitVec 8#8, UInt8.ofBitVec 8#8, UInt8.ofBitVec 8#8, UInt8.ofBitVec 8#8, UInt8.ofBitVec 8#8, UInt8.ofBitVec 8#8, UInt8.ofBitVec 8#8, UInt8.ofBitVec 8#8, UInt8.ofBitVec 8#8, UInt8.ofBitVec 8#8, UInt8.ofBitVec 8#8, UInt8.ofBitVec 8#8, UInt8.ofBitVec 8#8, UInt8.ofBitVec 8#8, UInt8.ofBitVec 8#8, UInt8.ofBitVec 8#8, UInt8.ofBitVec 8#8, UInt8.ofBitVec 8#8, UInt8.ofBitVec 8#8, UInt8.ofBitVec 8#8, UInt8.ofBitVec 8#8, UInt8.ofBitVec 8#8, UInt8.ofBitVec 8#8, UInt8.ofBitVec 8#8, UInt8.ofBitVec 8#8, UInt8.ofBitVec 8#8, UInt8.ofBitVec 8#8, UInt8.ofBitVec 8#8, UInt8.ofBitVec 8#8, UInt8.ofBitVec 8#8, UInt8.ofBitVec 8#8, UInt8.ofBitVec 8#8, UInt8.ofBitVec 8#8, UInt8.ofBitVec 8#8, UInt8.ofBitVec 8#8, UInt8.ofBitVec 8#8, UInt8.ofBitVec 8#8, UInt8.ofBitVec 8#8, UInt8.ofBitVec 8#8, UInt8.ofBitVec 8#8, UInt8.ofBitVec 8#8, UInt8.ofBitVec 8#8, UInt8.ofBitVec 8#8, UInt8.ofBitVec 8#8, UInt8.ofBitVec 8#8, UInt8.ofBitVec 8#8, UInt8.ofBitVec 8#8, UInt8.ofBitVec 8#8, UInt8.ofBitVec 8#8, UInt8.ofBitVec 8#8, UInt8.ofBitVec 8#8, UInt8.ofBitVec 8#8, UInt8.ofBitVec 8#8, UInt8.ofBitVec 8#8, UInt8.ofBitVec 8#8, UInt8.ofBitVec 8#8, UInt8.ofBitVec 8#8, UInt8.ofBitVec 8#8, UInt8.ofBitVec 8#8, UInt8.ofBitVec 8#8, UInt8.ofBitVec 8#8, UInt8.ofBitVec 8#8, UInt8.ofBitVec 8#8, UInt8.ofBitVec 8#8, UInt8.ofBitVec 8#8, UInt8.ofBitVec 8#8, UInt8.ofBitVec 8#8, UInt8.ofBitVec 8#8, UInt8.ofBitVec 8#8, UInt8.ofBitVec 8#8, UInt8.ofBitVec 8#8, UInt8.ofBitVec 8#8, UInt8.ofBitVec 8#8, UInt8.ofBitVec 8#8, UInt8.ofBitVec 8#8, UInt8.ofBitVec 8#8, UInt8.ofBitVec 8#8, UInt8.ofBitVec 8#8]) (Int.toNat n32)) (fun n33 =>
  wr IntKind.i64 (n31 + n33) (fun n34 =>
  R (Ending.returned (Value.int IntKind.i64 n34)) H23))))))) (fun k35 =>
  sB (decide (n19 ≥ 256)) (ask ((0 : Int) ≤ (8 : Int)) (nm (Int.fdiv n19 (2 ^ min (Int.toNat 8) 64)) (fun n36 =>
  wr IntKind.i64 (n20 + 8) (fun n37 =>
  k35 (Value.int IntKind.u64 n36) (Value.int IntKind.i64 n37) H12)))) (k35 (Value.int IntKind.u64 n19) (Value.int IntKind.i64 n20) H12))))) (fun k38 =>
  sB (decide (n8 ≥ 65536)) (ask ((0 : Int) ≤ (16 : Int)) (nm (Int.fdiv n8 (2 ^ min (Int.toNat 16) 64)) (fun n39 =>
  wr IntKind.i64 (n9 + 16) (fun n40 =>
  k38 (Value.int IntKind.u64 n39) (Value.int IntKind.i64 n40) H3)))) (k38 (Value.int IntKind.u64 n8) (Value.int IntKind.i64 n9) H3))))) (fun k41 =>
  sB (decide (x0 ≥ 4294967296)) (ask ((0 : Int) ≤ (32 : Int)) (nm (Int.fdiv x0 (2 ^ min (Int.toNat 32) 64)) (fun n42 =>
  k41 (Value.int IntKind.u64 n42) (Value.int IntKind.i64 32) H))) (k41 (Value.int IntKind.u64 x0) (Value.int IntKind.i64 0) H))
theorem F118_eq (x0 : Int) (R : Ending → Heap → Prop) (H : Heap) : F118 x0 R H = vc Try.prog (codeOf Try.f118) (.node none .leaf (.node (some ⟨[(0, 162), (2, 3)], [3, 4, 5, 6]⟩) .leaf (.node (some ⟨[(0, 162), (2, 3)], [7, 8, 9, 10, 11, 12]⟩) .leaf (.node (some ⟨[(0, 162), (2, 3)], [13, 14, 15, 16, 17, 18]⟩) .leaf .leaf)))) (postV Try.prog Try.f118 R) ⟨#[Value.int IntKind.u64 x0] ++ Array.replicate (Try.f118.ntmps - 1) undef, []⟩ H := by kernel_rfl
theorem F118_calls {R : Ending → Heap → Prop} {H : Heap} (x0 : Int) (h : F118 x0 R H) : HCalls Try.prog 118 #[Value.int IntKind.u64 x0] H R :=
  calls_by (F := F118 x0 R H) (.node none .leaf (.node (some ⟨[(0, 162), (2, 3)], [3, 4, 5, 6]⟩) .leaf (.node (some ⟨[(0, 162), (2, 3)], [7, 8, 9, 10, 11, 12]⟩) .leaf (.node (some ⟨[(0, 162), (2, 3)], [13, 14, 15, 16, 17, 18]⟩) .leaf .leaf)))) Try.func118 rfl (F118_eq x0 R H) h
/-- bollard/word.Put -/
def F119 (x0a : Option Addr) (x0n : Nat) (x0c : Nat) (x1 : Int) (x2 : Int) (x3 : Int) (R : Ending → Heap → Prop) (H : Heap) : Prop :=
  HCalls Try.prog 140 #[Value.slice x0a x0n x0c, Value.int IntKind.i64 x1, Value.int IntKind.i64 x2] H (Sp.retK (fun v1 H2 =>
  dInt IntKind.i64 v1 (fun n3 =>
  jn (α := VFH 1) (fun v4 H5 =>
  ∀ v6 v7 v8 v9 v10 v11 v12 v13 v14 v15 v16 v17 v18 : Value,
  dInt IntKind.i64 v4 (fun n19 =>
  sB (n19 != 0) (R (Ending.returned (Value.tuple #[Value.slice none 0 0, Value.int IntKind.i64 n19])) H5) (semW Try.prog (Builtin.append_ #[48, 48] 48 #[Value.slice none 0 0, Value.slice x0a x0n x0c]) (pnR R) H5 (fun v22 H23 =>
  dSl v22 (fun p24 r25 r26 =>
  ∃ I27 : List Value → Heap → Prop,
  ∃ I28 : List Value → Heap → Nat,
  (I27 ([Value.int IntKind.i64 0]) H23) ∧
  ∀ n29 : Int,
  ∀ v30 v31 v32 v33 v34 v35 v36 v37 v38 v39 v40 v41 v42 v43 : Value,
  ∀ H44 : Heap,
  (I27 ([Value.int IntKind.i64 n29]) H44) →
  sB (decide (n29 < x2)) (wr IntKind.i64 (x1 + n29) (fun n46 =>
  wr IntKind.i64 (8 * n29) (fun n47 =>
  ask ((0 : Int) ≤ n47) (nm (Int.fdiv x3 (2 ^ min (Int.toNat n47) 64)) (fun n48 =>
  wr IntKind.u8 n48 (fun n49 =>
  nz p24 (fun a50 =>
  ask ((0 : Int) ≤ n46 ∧ n46 < (↑r25 : Int)) (st H44 (Addr.add a50 (Int.toNat n46 * 1)) (Value.int IntKind.u8 n49) (fun H51 =>
  wr IntKind.i64 (n29 + 1) (fun n52 =>
  (I27 ([Value.int IntKind.i64 n52]) H51) ∧
  (I28 [Value.int IntKind.i64 n52] H51) < (I28 [Value.int IntKind.i64 n29] H44))))))))))) (R (Ending.returned (Value.tuple #[Value.slice p24 r25 r26, Value.int IntKind.i64 0])) H44)))))) (fun k53 =>
  jn (α := VFH 1) (fun v54 H55 =>
  ∀ v56 v57 v58 v59 v60 v61 v62 v63 v64 v65 v66 v67 : Value,
  dBl v54 (fun b68 =>
  sB b68 (k53 (Value.int IntKind.i64 1) H55) (k53 (Value.int IntKind.i64 n3) H55))) (fun k69 =>
  sB (n3 != 1) (sB (decide (x3 < 0)) (k69 (Value.bool true) H2) (wr IntKind.i64 (8 * x2) (fun n70 =>
  ask ((0 : Int) ≤ n70) (nm (Int.fdiv x3 (2 ^ min (Int.toNat n70) 64)) (fun n71 =>
  k69 (Value.bool (n71 != 0)) H2))))) (k69 (Value.bool false) H2))))) (pnR R))
theorem F119_eq (x0a : Option Addr) (x0n : Nat) (x0c : Nat) (x1 : Int) (x2 : Int) (x3 : Int) (R : Ending → Heap → Prop) (H : Heap) : F119 x0a x0n x0c x1 x2 x3 R H = vc Try.prog (codeOf Try.f119) (.node none .leaf (.node none .leaf (.node (some ⟨[(10, 24)], [17, 18, 19, 20, 21, 22, 23, 24, 25, 26, 27, 28, 29]⟩) (.node (some ⟨[(29, 4)], [17, 18, 19, 20, 21, 22, 23, 24, 25, 26, 27, 28]⟩) .leaf .leaf) (.node none .leaf (.node none .leaf (.node none (.node none .leaf (.node none (.node (some ⟨[(36, 3)], [12, 37, 38, 39, 40, 41, 42, 43, 44, 45, 46, 47, 48, 49]⟩) .leaf .leaf) .leaf)) .leaf)))))) (postV Try.prog Try.f119 R) ⟨#[Value.slice x0a x0n x0c, Value.int IntKind.i64 x1, Value.int IntKind.i64 x2, Value.int IntKind.i64 x3] ++ Array.replicate (Try.f119.ntmps - 4) undef, []⟩ H := by kernel_rfl
theorem F119_calls {R : Ending → Heap → Prop} {H : Heap} (x0a : Option Addr) (x0n : Nat) (x0c : Nat) (x1 : Int) (x2 : Int) (x3 : Int) (h : F119 x0a x0n x0c x1 x2 x3 R H) : HCalls Try.prog 119 #[Value.slice x0a x0n x0c, Value.int IntKind.i64 x1, Value.int IntKind.i64 x2, Value.int IntKind.i64 x3] H R :=
  calls_by (F := F119 x0a x0n x0c x1 x2 x3 R H) (.node none .leaf (.node none .leaf (.node (some ⟨[(10, 24)], [17, 18, 19, 20, 21, 22, 23, 24, 25, 26, 27, 28, 29]⟩) (.node (some ⟨[(29, 4)], [17, 18, 19, 20, 21, 22, 23, 24, 25, 26, 27, 28]⟩) .leaf .leaf) (.node none .leaf (.node none .leaf (.node none (.node none .leaf (.node none (.node (some ⟨[(36, 3)], [12, 37, 38, 39, 40, 41, 42, 43, 44, 45, 46, 47, 48, 49]⟩) .leaf .leaf) .leaf)) .leaf)))))) Try.func119 rfl (F119_eq x0a x0n x0c x1 x2 x3 R H) h
/-- bollard/word.Sum -/
def F120 (x0a : Option Addr) (x0n : Nat) (x0c : Nat) (R : Ending → Heap → Prop) (H : Heap) : Prop :=
  ∃ I1 : List Value → Heap → Prop,
  ∃ I2 : List Value → Heap → Nat,
  (I1 ([Value.int IntKind.i64 1, Value.int IntKind.i64 0, Value.int IntKind.i64 0]) H) ∧
  ∀ n3 : Int,
  ∀ n4 : Int,
  ∀ n5 : Int,
  ∀ v6 v7 v8 v9 v10 v11 v12 v13 v14 v15 v16 v17 v18 v19 : Value,
  ∀ H20 : Heap,
  (I1 ([Value.int IntKind.i64 n3, Value.int IntKind.i64 n4, Value.int IntKind.i64 n5]) H20) →
  sB (decide (n5 < (↑x0n : Int))) (nz x0a (fun a22 =>
  ask ((0 : Int) ≤ n5 ∧ n5 < (↑x0n : Int)) (ld H20 (Addr.add a22 (Int.toNat n5 * 1)) (fun v23 =>
  dInt IntKind.u8 v23 (fun n24 =>
  wr IntKind.i64 n24 (fun n25 =>
  wr IntKind.i64 (n3 + n25) (fun n26 =>
  ask ((65521 : Int) ≠ (0 : Int)) (nm (Int.tmod n26 65521) (fun n27 =>
  wr IntKind.i64 (n4 + n27) (fun n28 =>
  ask ((65521 : Int) ≠ (0 : Int)) (nm (Int.tmod n28 65521) (fun n29 =>
  wr IntKind.i64 (n5 + 1) (fun n30 =>
  (I1 ([Value.int IntKind.i64 n27, Value.int IntKind.i64 n29, Value.int IntKind.i64 n30]) H20) ∧
  (I2 [Value.int IntKind.i64 n27, Value.int IntKind.i64 n29, Value.int IntKind.i64 n30] H20) < (I2 [Value.int IntKind.i64 n3, Value.int IntKind.i64 n4, Value.int IntKind.i64 n5] H20)))))))))))))) (ask ((0 : Int) ≤ (16 : Int)) (nm (IntKind.wrap IntKind.i64 (n4 * 2 ^ min (Int.toNat 16) 64)) (fun n31 =>
  wr IntKind.i64 (n31 + n3) (fun n32 =>
  R (Ending.returned (Value.int IntKind.i64 n32)) H20))))
theorem F120_eq (x0a : Option Addr) (x0n : Nat) (x0c : Nat) (R : Ending → Heap → Prop) (H : Heap) : F120 x0a x0n x0c R H = vc Try.prog (codeOf Try.f120) (.node none .leaf (.node none .leaf (.node none (.node none .leaf (.node none (.node (some ⟨[(3, 3), (4, 3), (9, 3)], [6, 10, 11, 12, 13, 14, 15, 16, 17, 18, 19, 20, 21, 22]⟩) .leaf .leaf) .leaf)) .leaf))) (postV Try.prog Try.f120 R) ⟨#[Value.slice x0a x0n x0c] ++ Array.replicate (Try.f120.ntmps - 1) undef, []⟩ H := by kernel_rfl
theorem F120_calls {R : Ending → Heap → Prop} {H : Heap} (x0a : Option Addr) (x0n : Nat) (x0c : Nat) (h : F120 x0a x0n x0c R H) : HCalls Try.prog 120 #[Value.slice x0a x0n x0c] H R :=
  calls_by (F := F120 x0a x0n x0c R H) (.node none .leaf (.node none .leaf (.node none (.node none .leaf (.node none (.node (some ⟨[(3, 3), (4, 3), (9, 3)], [6, 10, 11, 12, 13, 14, 15, 16, 17, 18, 19, 20, 21, 22]⟩) .leaf .leaf) .leaf)) .leaf))) Try.func120 rfl (F120_eq x0a x0n x0c R H) h
/-- bollard/bits.With -/
def F121 (x0a : Option Addr) (x0n : Nat) (x0c : Nat) (x1 : Int) (x2 : Bool) (R : Ending → Heap → Prop) (H : Heap) : Prop :=
  jn (α := VFH 1) (fun v1 H2 =>
  ∀ v3 v4 v5 v6 v7 v8 v9 v10 : Value,
  dBl v1 (fun b11 =>
  sB b11 (R (Ending.returned (Value.tuple #[Value.slice none 0 0, Value.int IntKind.i64 50])) H2) (semW Try.prog (Builtin.append_ #[48, 48] 48 #[Value.slice none 0 0, Value.slice x0a x0n x0c]) (pnR R) H2 (fun v14 H15 =>
  dSl v14 (fun p16 r17 r18 =>
  ask ((8 : Int) ≠ (0 : Int)) (wr IntKind.i64 (Int.tdiv x1 8) (fun n19 =>
  nz p16 (fun a20 =>
  ask ((0 : Int) ≤ n19 ∧ n19 < (↑r17 : Int)) (ld H15 (Addr.add a20 (Int.toNat n19 * 1)) (fun v21 =>
  dInt IntKind.u8 v21 (fun n22 =>
  ask ((8 : Int) ≠ (0 : Int)) (nm (Int.tmod x1 8) (fun n23 =>
  ask ((0 : Int) ≤ n23) (nm (IntKind.wrap IntKind.u8 (1 * 2 ^ min (Int.toNat n23) 8)) (fun n24 =>
  nm (IntKind.wrap IntKind.u8 (↑(BitVec.toNat (BitVec.ofInt 8 n22 &&& ~~~BitVec.ofInt 8 n24)) : Int)) (fun n25 =>
  nz p16 (fun a26 =>
  ask ((0 : Int) ≤ n19 ∧ n19 < (↑r17 : Int)) (st H15 (Addr.add a26 (Int.toNat n19 * 1)) (Value.int IntKind.u8 n25) (fun H27 =>
  jn (α := VFH 0) (fun H28 =>
  ∀ v29 v30 v31 v32 v33 v34 v35 v36 v37 v38 v39 : Value,
  R (Ending.returned (Value.tuple #[Value.slice p16 r17 r18, Value.int IntKind.i64 0])) H28) (fun k40 =>
  sB x2 (ask ((8 : Int) ≠ (0 : Int)) (wr IntKind.i64 (Int.tdiv x1 8) (fun n41 =>
  nz p16 (fun a42 =>
  ask ((0 : Int) ≤ n41 ∧ n41 < (↑r17 : Int)) (ld H27 (Addr.add a42 (Int.toNat n41 * 1)) (fun v43 =>
  dInt IntKind.u8 v43 (fun n44 =>
  ask ((8 : Int) ≠ (0 : Int)) (nm (Int.tmod x1 8) (fun n45 =>
  ask ((0 : Int) ≤ n45) (nm (IntKind.wrap IntKind.u8 (1 * 2 ^ min (Int.toNat n45) 8)) (fun n46 =>
  nm (IntKind.wrap IntKind.u8 (↑(BitVec.toNat (BitVec.ofInt 8 n44 ||| BitVec.ofInt 8 n46)) : Int)) (fun n47 =>
  nz p16 (fun a48 =>
  ask ((0 : Int) ≤ n41 ∧ n41 < (↑r17 : Int)) (st H27 (Addr.add a48 (Int.toNat n41 * 1)) (Value.int IntKind.u8 n47) (fun H49 =>
  k40 H49))))))))))))))) (k40 H27))))))))))))))))))))) (fun k50 =>
  sB (decide (x1 < 0)) (k50 (Value.bool true) H) (ask ((8 : Int) ≠ (0 : Int)) (wr IntKind.i64 (Int.tdiv x1 8) (fun n51 =>
  k50 (Value.bool (decide (n51 ≥ (↑x0n : Int)))) H))))
theorem F121_eq (x0a : Option Addr) (x0n : Nat) (x0c : Nat) (x1 : Int) (x2 : Bool) (R : Ending → Heap → Prop) (H : Heap) : F121 x0a x0n x0c x1 x2 R H = vc Try.prog (codeOf Try.f121) (.node none .leaf (.node none (.node (some ⟨[(17, 4)], [9, 10, 11, 12, 13, 14, 15, 16]⟩) .leaf .leaf) (.node none .leaf (.node none .leaf (.node (some ⟨[], [30, 31, 32, 33, 34, 35, 36, 37, 38, 39, 40]⟩) .leaf .leaf))))) (postV Try.prog Try.f121 R) ⟨#[Value.slice x0a x0n x0c, Value.int IntKind.i64 x1, Value.bool x2] ++ Array.replicate (Try.f121.ntmps - 3) undef, []⟩ H := by kernel_rfl
theorem F121_calls {R : Ending → Heap → Prop} {H : Heap} (x0a : Option Addr) (x0n : Nat) (x0c : Nat) (x1 : Int) (x2 : Bool) (h : F121 x0a x0n x0c x1 x2 R H) : HCalls Try.prog 121 #[Value.slice x0a x0n x0c, Value.int IntKind.i64 x1, Value.bool x2] H R :=
  calls_by (F := F121 x0a x0n x0c x1 x2 R H) (.node none .leaf (.node none (.node (some ⟨[(17, 4)], [9, 10, 11, 12, 13, 14, 15, 16]⟩) .leaf .leaf) (.node none .leaf (.node none .leaf (.node (some ⟨[], [30, 31, 32, 33, 34, 35, 36, 37, 38, 39, 40]⟩) .leaf .leaf))))) Try.func121 rfl (F121_eq x0a x0n x0c x1 x2 R H) h
/-- bollard/layout.spelt -/
def F122 (x0 : ByteArray) (R : Ending → Heap → Prop) (H : Heap) : Prop :=
  ∃ I1 : List Value → Heap → Prop,
  ∃ I2 : List Value → Heap → Nat,
  (I1 ([Value.int IntKind.i64 0]) H) ∧
  ∀ n3 : Int,
  ∀ v4 v5 v6 v7 v8 v9 v10 v11 v12 v13 v14 v15 v16 v17 v18 v19 v20 v21 v22 v23 v24 : Value,
  ∀ H25 : Heap,
  (I1 ([Value.int IntKind.i64 n3]) H25) →
  sB (decide (n3 < (↑(ByteArray.size x0) : Int))) (jn (α := VFH 1) (fun v27 H28 =>
  ∀ v29 v30 v31 v32 v33 v34 v35 v36 v37 v38 v39 v40 v41 v42 v43 : Value,
  dBl v27 (fun b44 =>
  sB b44 (R (Ending.returned (Value.bool false)) H28) (wr IntKind.i64 (n3 + 1) (fun n45 =>
  (I1 ([Value.int IntKind.i64 n45]) H28) ∧
  (I2 [Value.int IntKind.i64 n45] H28) < (I2 [Value.int IntKind.i64 n3] H25))))) (fun k46 =>
  ask ((0 : Int) ≤ n3 ∧ n3 < (↑(ByteArray.size x0) : Int)) (sB (decide (byteAt x0 (Int.toNat n3) < 33)) (k46 (Value.bool true) H25) (ask ((0 : Int) ≤ n3 ∧ n3 < (↑(ByteArray.size x0) : Int)) (sB (decide (byteAt x0 (Int.toNat n3) > 126)) (k46 (Value.bool true) H25) (ask ((0 : Int) ≤ n3 ∧ n3 < (↑(ByteArray.size x0) : Int)) (k46 (Value.bool (byteAt x0 (Int.toNat n3) == 47)) H25))))))) (sB (!ByteArray.toList x0 == []) (R (Ending.returned (Value.bool (decide ((↑(ByteArray.size x0) : Int) ≤ 13)))) H25) (R (Ending.returned (Value.bool false)) H25))
theorem F122_eq (x0 : ByteArray) (R : Ending → Heap → Prop) (H : Heap) : F122 x0 R H = vc Try.prog (codeOf Try.f122) (.node none .leaf (.node none (.node none .leaf (.node none (.node (some ⟨[(6, 3)], [2, 3, 7, 8, 9, 10, 11, 12, 13, 14, 15, 16, 17, 18, 19, 20, 21, 22, 23, 24, 25]⟩) (.node none .leaf (.node none .leaf (.node none (.node none (.node none .leaf (.node (some ⟨[(24, 4)], [9, 10, 11, 12, 13, 14, 15, 16, 17, 18, 19, 20, 21, 22, 23]⟩) .leaf .leaf)) .leaf) .leaf))) .leaf) .leaf)) .leaf)) (postV Try.prog Try.f122 R) ⟨#[Value.string x0] ++ Array.replicate (Try.f122.ntmps - 1) undef, []⟩ H := by kernel_rfl
theorem F122_calls {R : Ending → Heap → Prop} {H : Heap} (x0 : ByteArray) (h : F122 x0 R H) : HCalls Try.prog 122 #[Value.string x0] H R :=
  calls_by (F := F122 x0 R H) (.node none .leaf (.node none (.node none .leaf (.node none (.node (some ⟨[(6, 3)], [2, 3, 7, 8, 9, 10, 11, 12, 13, 14, 15, 16, 17, 18, 19, 20, 21, 22, 23, 24, 25]⟩) (.node none .leaf (.node none .leaf (.node none (.node none (.node none .leaf (.node (some ⟨[(24, 4)], [9, 10, 11, 12, 13, 14, 15, 16, 17, 18, 19, 20, 21, 22, 23]⟩) .leaf .leaf)) .leaf) .leaf))) .leaf) .leaf)) .leaf)) Try.func122 rfl (F122_eq x0 R H) h
/-- bollard/bollardref03.may -/
def F123 (x0_0 : Value) (x0_1 : Value) (x0_2 : Value) (R : Ending → Heap → Prop) (H : Heap) : Prop :=
  al H (Obj.cells #[x0_0, x0_1, x0_2] 23) (fun r1 H2 =>
  ld H2 (Addr.mk r1 0 none) (fun v3 =>
  dInt IntKind.i64 v3 (fun n4 =>
  sB (decide (n4 ≥ 1)) (ld H2 (Addr.mk r1 0 none) (fun v5 =>
  dInt IntKind.i64 v5 (fun n6 =>
  sB (decide (n6 ≤ 8)) (ld H2 (Addr.mk r1 1 none) (fun v7 =>
  dInt IntKind.i64 v7 (fun n8 =>
  sB (decide (n8 ≥ 8)) (ld H2 (Addr.mk r1 1 none) (fun v9 =>
  dInt IntKind.i64 v9 (fun n10 =>
  sB (decide (n10 ≤ 256)) (ld H2 (Addr.mk r1 2 none) (fun v11 =>
  dInt IntKind.i64 v11 (fun n12 =>
  sB (decide (n12 ≥ 4)) (ld H2 (Addr.mk r1 2 none) (fun v13 =>
  dInt IntKind.i64 v13 (fun n14 =>
  sB (decide (n14 ≤ 64)) (ld H2 (Addr.mk r1 2 none) (fun v15 =>
  dInt IntKind.i64 v15 (fun n16 =>
  ask ((4 : Int) ≠ (0 : Int)) (nm (Int.tmod n16 4) (fun n17 =>
  sB (n17 == 0) (ld H2 (Addr.mk r1 1 none) (fun v18 =>
  dInt IntKind.i64 v18 (fun n19 =>
  ld H2 (Addr.mk r1 2 none) (fun v20 =>
  dInt IntKind.i64 v20 (fun n21 =>
  ask ((4 : Int) ≠ (0 : Int)) (wr IntKind.i64 (Int.tdiv n21 4) (fun n22 =>
  wr IntKind.i64 (3 + n22) (fun n23 =>
  R (Ending.returned (Value.bool (decide (n19 ≥ n23)))) H2)))))))) (R (Ending.returned (Value.bool false)) H2)))))) (R (Ending.returned (Value.bool false)) H2)))) (R (Ending.returned (Value.bool false)) H2)))) (R (Ending.returned (Value.bool false)) H2)))) (R (Ending.returned (Value.bool false)) H2)))) (R (Ending.returned (Value.bool false)) H2)))) (R (Ending.returned (Value.bool false)) H2))))
theorem F123_eq (x0_0 : Value) (x0_1 : Value) (x0_2 : Value) (R : Ending → Heap → Prop) (H : Heap) : F123 x0_0 x0_1 x0_2 R H = vc Try.prog (codeOf Try.f123) .leaf (postV Try.prog Try.f123 R) ⟨#[Value.agg #[x0_0, x0_1, x0_2]] ++ Array.replicate (Try.f123.ntmps - 1) undef, []⟩ H := by kernel_rfl
theorem F123_calls {R : Ending → Heap → Prop} {H : Heap} (x0_0 : Value) (x0_1 : Value) (x0_2 : Value) (h : F123 x0_0 x0_1 x0_2 R H) : HCalls Try.prog 123 #[Value.agg #[x0_0, x0_1, x0_2]] H R :=
  calls_by (F := F123 x0_0 x0_1 x0_2 R H) .leaf Try.func123 rfl (F123_eq x0_0 x0_1 x0_2 R H) h
/-- bollard/bollardref05.Has -/
def F124 (x0a : Option Addr) (x0n : Nat) (x0c : Nat) (x1 : Int) (R : Ending → Heap → Prop) (H : Heap) : Prop :=
  sB (decide (x1 ≥ 0)) (ask ((8 : Int) ≠ (0 : Int)) (wr IntKind.i64 (Int.tdiv x1 8) (fun n1 =>
  sB (decide (n1 < (↑x0n : Int))) (ask ((8 : Int) ≠ (0 : Int)) (wr IntKind.i64 (Int.tdiv x1 8) (fun n2 =>
  nz x0a (fun a3 =>
  ask ((0 : Int) ≤ n2 ∧ n2 < (↑x0n : Int)) (ld H (Addr.add a3 (Int.toNat n2 * 1)) (fun v4 =>
  dInt IntKind.u8 v4 (fun n5 =>
  ask ((8 : Int) ≠ (0 : Int)) (nm (Int.tmod x1 8) (fun n6 =>
  ask ((0 : Int) ≤ n6) (nm (Int.fdiv n5 (2 ^ min (Int.toNat n6) 8)) (fun n7 =>
  ask ((2 : Int) ≠ (0 : Int)) (nm (Int.tmod n7 2) (fun n8 =>
  R (Ending.returned (Value.bool (n8 == 1))) H))))))))))))) (R (Ending.returned (Value.bool false)) H)))) (R (Ending.returned (Value.bool false)) H)
theorem F124_eq (x0a : Option Addr) (x0n : Nat) (x0c : Nat) (x1 : Int) (R : Ending → Heap → Prop) (H : Heap) : F124 x0a x0n x0c x1 R H = vc Try.prog (codeOf Try.f124) .leaf (postV Try.prog Try.f124 R) ⟨#[Value.slice x0a x0n x0c, Value.int IntKind.i64 x1] ++ Array.replicate (Try.f124.ntmps - 2) undef, []⟩ H := by kernel_rfl
theorem F124_calls {R : Ending → Heap → Prop} {H : Heap} (x0a : Option Addr) (x0n : Nat) (x0c : Nat) (x1 : Int) (h : F124 x0a x0n x0c x1 R H) : HCalls Try.prog 124 #[Value.slice x0a x0n x0c, Value.int IntKind.i64 x1] H R :=
  calls_by (F := F124 x0a x0n x0c x1 R H) .leaf Try.func124 rfl (F124_eq x0a x0n x0c x1 R H) h
/-- bollard/bollardref03.address -/
def F125 (x0 : Int) (R : Ending → Heap → Prop) (H : Heap) : Prop :=
  sB (decide (x0 ≥ 0)) (R (Ending.returned (Value.bool (decide (x0 < 2048)))) H) (R (Ending.returned (Value.bool false)) H)
theorem F125_eq (x0 : Int) (R : Ending → Heap → Prop) (H : Heap) : F125 x0 R H = vc Try.prog (codeOf Try.f125) .leaf (postV Try.prog Try.f125 R) ⟨#[Value.int IntKind.i64 x0] ++ Array.replicate (Try.f125.ntmps - 1) undef, []⟩ H := by kernel_rfl
theorem F125_calls {R : Ending → Heap → Prop} {H : Heap} (x0 : Int) (h : F125 x0 R H) : HCalls Try.prog 125 #[Value.int IntKind.i64 x0] H R :=
  calls_by (F := F125 x0 R H) .leaf Try.func125 rfl (F125_eq x0 R H) h
/-- bollard/bollardref01.Put -/
def F126 (x0a : Option Addr) (x0n : Nat) (x0c : Nat) (x1 : Int) (x2 : Int) (x3 : Int) (R : Ending → Heap → Prop) (H : Heap) : Prop :=
  jn (α := VFH 1) (fun v1 H2 =>
  ∀ v3 v4 v5 v6 v7 v8 v9 v10 v11 v12 v13 v14 v15 v16 v17 v18 v19 v20 v21 v22 : Value,
  dBl v1 (fun b23 =>
  sB b23 (R (Ending.returned (Value.tuple #[Value.slice none 0 0, Value.int IntKind.i64 1])) H2) (wr IntKind.i64 ((↑x0n : Int) - x2) (fun n24 =>
  sB (decide (x1 > n24)) (R (Ending.returned (Value.tuple #[Value.slice none 0 0, Value.int IntKind.i64 10])) H2) (al H2 (Obj.cells #[] 5) (fun r25 H26 =>
  semW Try.prog (Builtin.append_ #[48, 48] 48 #[Value.slice (some (Addr.mk r25 0 none)) 0 0, Value.slice x0a x0n x0c]) (pnR R) H26 (fun v29 H30 =>
  dSl v29 (fun p31 r32 r33 =>
  ∃ I34 : List Value → Heap → Prop,
  ∃ I35 : List Value → Heap → Nat,
  (I34 ([Value.int IntKind.i64 x3, Value.int IntKind.i64 0]) H30) ∧
  ∀ n36 : Int,
  ∀ n37 : Int,
  ∀ v38 v39 v40 v41 v42 v43 v44 v45 v46 v47 v48 v49 v50 v51 : Value,
  ∀ H52 : Heap,
  (I34 ([Value.int IntKind.i64 n36, Value.int IntKind.i64 n37]) H52) →
  sB (decide (n37 < x2)) (wr IntKind.i64 (x1 + n37) (fun n54 =>
  ask ((256 : Int) ≠ (0 : Int)) (nm (Int.tmod n36 256) (fun n55 =>
  wr IntKind.u8 n55 (fun n56 =>
  nz p31 (fun a57 =>
  ask ((0 : Int) ≤ n54 ∧ n54 < (↑r32 : Int)) (st H52 (Addr.add a57 (Int.toNat n54 * 1)) (Value.int IntKind.u8 n56) (fun H58 =>
  ask ((256 : Int) ≠ (0 : Int)) (wr IntKind.i64 (Int.tdiv n36 256) (fun n59 =>
  wr IntKind.i64 (n37 + 1) (fun n60 =>
  (I34 ([Value.int IntKind.i64 n59, Value.int IntKind.i64 n60]) H58) ∧
  (I35 [Value.int IntKind.i64 n59, Value.int IntKind.i64 n60] H58) < (I35 [Value.int IntKind.i64 n36, Value.int IntKind.i64 n37] H52)))))))))))) (R (Ending.returned (Value.tuple #[Value.slice p31 r32 r33, Value.int IntKind.i64 0])) H52))))))))) (fun k61 =>
  sB (decide (x2 < 1)) (k61 (Value.bool true) H) (sB (decide (x2 > 4)) (k61 (Value.bool true) H) (sB (decide (x1 < 0)) (k61 (Value.bool true) H) (sB (decide (x3 < 0)) (k61 (Value.bool true) H) (wr IntKind.i64 (8 * x2) (fun n62 =>
  ask ((0 : Int) ≤ n62) (nm (IntKind.wrap IntKind.i64 (1 * 2 ^ min (Int.toNat n62) 64)) (fun n63 =>
  k61 (Value.bool (decide (x3 ≥ n63))) H))))))))
theorem F126_eq (x0a : Option Addr) (x0n : Nat) (x0c : Nat) (x1 : Int) (x2 : Int) (x3 : Int) (R : Ending → Heap → Prop) (H : Heap) : F126 x0a x0n x0c x1 x2 x3 R H = vc Try.prog (codeOf Try.f126) (.node none .leaf (.node none (.node (some ⟨[(32, 4)], [12, 13, 14, 15, 16, 17, 18, 19, 20, 21, 22, 23, 24, 25, 26, 27, 28, 29, 30, 31]⟩) .leaf .leaf) (.node none .leaf (.node none .leaf (.node none (.node none .leaf (.node none (.node (some ⟨[(3, 3), (43, 3)], [11, 44, 45, 46, 47, 48, 49, 50, 51, 52, 53, 54, 55, 56]⟩) .leaf .leaf) .leaf)) .leaf))))) (postV Try.prog Try.f126 R) ⟨#[Value.slice x0a x0n x0c, Value.int IntKind.i64 x1, Value.int IntKind.i64 x2, Value.int IntKind.i64 x3] ++ Array.replicate (Try.f126.ntmps - 4) undef, []⟩ H := by kernel_rfl
theorem F126_calls {R : Ending → Heap → Prop} {H : Heap} (x0a : Option Addr) (x0n : Nat) (x0c : Nat) (x1 : Int) (x2 : Int) (x3 : Int) (h : F126 x0a x0n x0c x1 x2 x3 R H) : HCalls Try.prog 126 #[Value.slice x0a x0n x0c, Value.int IntKind.i64 x1, Value.int IntKind.i64 x2, Value.int IntKind.i64 x3] H R :=
  calls_by (F := F126 x0a x0n x0c x1 x2 x3 R H) (.node none .leaf (.node none (.node (some ⟨[(32, 4)], [12, 13, 14, 15, 16, 17, 18, 19, 20, 21, 22, 23, 24, 25, 26, 27, 28, 29, 30, 31]⟩) .leaf .leaf) (.node none .leaf (.node none .leaf (.node none (.node none .leaf (.node none (.node (some ⟨[(3, 3), (43, 3)], [11, 44, 45, 46, 47, 48, 49, 50, 51, 52, 53, 54, 55, 56]⟩) .leaf .leaf) .leaf)) .leaf))))) Try.func126 rfl (F126_eq x0a x0n x0c x1 x2 x3 R H) h
/-- bollard/bollardref01.Sum -/
def F127 (x0a : Option Addr) (x0n : Nat) (x0c : Nat) (R : Ending → Heap → Prop) (H : Heap) : Prop :=
  ∃ I1 : List Value → Heap → Prop,
  ∃ I2 : List Value → Heap → Nat,
  (I1 ([Value.int IntKind.i64 1, Value.int IntKind.i64 0, Value.int IntKind.i64 0]) H) ∧
  ∀ n3 : Int,
  ∀ n4 : Int,
  ∀ n5 : Int,
  ∀ v6 v7 v8 v9 v10 v11 v12 v13 v14 v15 v16 v17 v18 v19 : Value,
  ∀ H20 : Heap,
  (I1 ([Value.int IntKind.i64 n3, Value.int IntKind.i64 n4, Value.int IntKind.i64 n5]) H20) →
  sB (decide (n5 < (↑x0n : Int))) (nz x0a (fun a22 =>
  ask ((0 : Int) ≤ n5 ∧ n5 < (↑x0n : Int)) (ld H20 (Addr.add a22 (Int.toNat n5 * 1)) (fun v23 =>
  dInt IntKind.u8 v23 (fun n24 =>
  wr IntKind.i64 n24 (fun n25 =>
  wr IntKind.i64 (n3 + n25) (fun n26 =>
  ask ((65521 : Int) ≠ (0 : Int)) (nm (Int.tmod n26 65521) (fun n27 =>
  wr IntKind.i64 (n4 + n27) (fun n28 =>
  ask ((65521 : Int) ≠ (0 : Int)) (nm (Int.tmod n28 65521) (fun n29 =>
  wr IntKind.i64 (n5 + 1) (fun n30 =>
  (I1 ([Value.int IntKind.i64 n27, Value.int IntKind.i64 n29, Value.int IntKind.i64 n30]) H20) ∧
  (I2 [Value.int IntKind.i64 n27, Value.int IntKind.i64 n29, Value.int IntKind.i64 n30] H20) < (I2 [Value.int IntKind.i64 n3, Value.int IntKind.i64 n4, Value.int IntKind.i64 n5] H20)))))))))))))) (wr IntKind.i64 (n4 * 65536) (fun n31 =>
  wr IntKind.i64 (n31 + n3) (fun n32 =>
  R (Ending.returned (Value.int IntKind.i64 n32)) H20)))
theorem F127_eq (x0a : Option Addr) (x0n : Nat) (x0c : Nat) (R : Ending → Heap → Prop) (H : Heap) : F127 x0a x0n x0c R H = vc Try.prog (codeOf Try.f127) (.node none .leaf (.node none .leaf (.node none (.node none .leaf (.node none (.node (some ⟨[(3, 3), (4, 3), (9, 3)], [6, 10, 11, 12, 13, 14, 15, 16, 17, 18, 19, 20, 21, 22]⟩) .leaf .leaf) .leaf)) .leaf))) (postV Try.prog Try.f127 R) ⟨#[Value.slice x0a x0n x0c] ++ Array.replicate (Try.f127.ntmps - 1) undef, []⟩ H := by kernel_rfl
theorem F127_calls {R : Ending → Heap → Prop} {H : Heap} (x0a : Option Addr) (x0n : Nat) (x0c : Nat) (h : F127 x0a x0n x0c R H) : HCalls Try.prog 127 #[Value.slice x0a x0n x0c] H R :=
  calls_by (F := F127 x0a x0n x0c R H) (.node none .leaf (.node none .leaf (.node none (.node none .leaf (.node none (.node (some ⟨[(3, 3), (4, 3), (9, 3)], [6, 10, 11, 12, 13, 14, 15, 16, 17, 18, 19, 20, 21, 22]⟩) .leaf .leaf) .leaf)) .leaf))) Try.func127 rfl (F127_eq x0a x0n x0c R H) h
/-- bollard/bollardref03.IsName -/
def F128 (x0 : ByteArray) (R : Ending → Heap → Prop) (H : Heap) : Prop :=
  jn (α := VFH 1) (fun v1 H2 =>
  ∀ v3 v4 v5 v6 v7 v8 v9 v10 v11 v12 v13 v14 v15 v16 : Value,
  dBl v1 (fun b17 =>
  sB b17 (R (Ending.returned (Value.bool false)) H2) (∃ I18 : List Value → Heap → Prop,
  ∃ I19 : List Value → Heap → Nat,
  (I18 ([Value.int IntKind.i64 0]) H2) ∧
  ∀ n20 : Int,
  ∀ v21 v22 v23 v24 v25 v26 v27 v28 v29 v30 v31 v32 v33 v34 v35 v36 v37 v38 v39 v40 v41 v42 v43 : Value,
  ∀ H44 : Heap,
  (I18 ([Value.int IntKind.i64 n20]) H44) →
  sB (decide (n20 < (↑(ByteArray.size x0) : Int))) (jn (α := VFH 1) (fun v46 H47 =>
  ∀ v48 v49 v50 v51 v52 v53 v54 v55 v56 v57 v58 v59 v60 v61 v62 : Value,
  dBl v46 (fun b63 =>
  sB b63 (R (Ending.returned (Value.bool false)) H47) (wr IntKind.i64 (n20 + 1) (fun n64 =>
  (I18 ([Value.int IntKind.i64 n64]) H47) ∧
  (I19 [Value.int IntKind.i64 n64] H47) < (I19 [Value.int IntKind.i64 n20] H44))))) (fun k65 =>
  ask ((0 : Int) ≤ n20 ∧ n20 < (↑(ByteArray.size x0) : Int)) (sB (decide (byteAt x0 (Int.toNat n20) < 33)) (k65 (Value.bool true) H44) (ask ((0 : Int) ≤ n20 ∧ n20 < (↑(ByteArray.size x0) : Int)) (sB (decide (byteAt x0 (Int.toNat n20) > 126)) (k65 (Value.bool true) H44) (ask ((0 : Int) ≤ n20 ∧ n20 < (↑(ByteArray.size x0) : Int)) (k65 (Value.bool (byteAt x0 (Int.toNat n20) == 47)) H44))))))) (R (Ending.returned (Value.bool true)) H44)))) (fun k66 =>
  sB (ByteArray.toList x0 == []) (k66 (Value.bool true) H) (sB (decide ((↑(ByteArray.size x0) : Int) > 13)) (k66 (Value.bool true) H) (sB (ByteArray.toList x0 == [UInt8.ofBitVec 46#8]) (k66 (Value.bool true) H) (k66 (Value.bool (ByteArray.toList x0 == [UInt8.ofBitVec 46#8, UInt8.ofBitVec 46#8])) H))))
theorem F128_eq (x0 : ByteArray) (R : Ending → Heap → Prop) (H : Heap) : F128 x0 R H = vc Try.prog (codeOf Try.f128) (.node none .leaf (.node none (.node (some ⟨[(18, 4)], [4, 5, 6, 7, 8, 9, 10, 11, 12, 13, 14, 15, 16, 17]⟩) .leaf .leaf) (.node none (.node none .leaf (.node none (.node (some ⟨[(3, 3)], [2, 19, 20, 21, 22, 23, 24, 25, 26, 27, 28, 29, 30, 31, 32, 33, 34, 35, 36, 37, 38, 39, 40]⟩) (.node none .leaf (.node none (.node none (.node (some ⟨[(40, 4)], [25, 26, 27, 28, 29, 30, 31, 32, 33, 34, 35, 36, 37, 38, 39]⟩) .leaf .leaf) .leaf) .leaf)) .leaf) .leaf)) .leaf))) (postV Try.prog Try.f128 R) ⟨#[Value.string x0] ++ Array.replicate (Try.f128.ntmps - 1) undef, []⟩ H := by kernel_rfl
theorem F128_calls {R : Ending → Heap → Prop} {H : Heap} (x0 : ByteArray) (h : F128 x0 R H) : HCalls Try.prog 128 #[Value.string x0] H R :=
  calls_by (F := F128 x0 R H) (.node none .leaf (.node none (.node (some ⟨[(18, 4)], [4, 5, 6, 7, 8, 9, 10, 11, 12, 13, 14, 15, 16, 17]⟩) .leaf .leaf) (.node none (.node none .leaf (.node none (.node (some ⟨[(3, 3)], [2, 19, 20, 21, 22, 23, 24, 25, 26, 27, 28, 29, 30, 31, 32, 33, 34, 35, 36, 37, 38, 39, 40]⟩) (.node none .leaf (.node none (.node none (.node (some ⟨[(40, 4)], [25, 26, 27, 28, 29, 30, 31, 32, 33, 34, 35, 36, 37, 38, 39]⟩) .leaf .leaf) .leaf) .leaf)) .leaf) .leaf)) .leaf))) Try.func128 rfl (F128_eq x0 R H) h
/-- slices.IndexFunc[[]bollard/api.Sent,bollard/api.Sent] -/
def F129 (x0a : Option Addr) (x0n : Nat) (x0c : Nat) (x1g : Nat) (x1f : Array Value) (x1c : Array Value) (R : Ending → Heap → Prop) (H : Heap) : Prop :=
  ∃ I1 : List Value → Heap → Prop,
  ∃ I2 : List Value → Heap → Nat,
  (I1 ([Value.int IntKind.i64 0]) H) ∧
  ∀ n3 : Int,
  ∀ v4 v5 v6 v7 v8 v9 v10 v11 v12 v13 v14 v15 : Value,
  ∀ H16 : Heap,
  (I1 ([Value.int IntKind.i64 n3]) H16) →
  sB (decide (n3 < (↑x0n : Int))) (nz x0a (fun a18 =>
  ask ((0 : Int) ≤ n3 ∧ n3 < (↑x0n : Int)) (ld H16 (Addr.add a18 (Int.toNat n3 * 3)) (fun v19 =>
  ld H16 (Addr.add (Addr.add a18 (Int.toNat n3 * 3)) 1) (fun v20 =>
  ld H16 (Addr.add (Addr.add a18 (Int.toNat n3 * 3)) 2) (fun v21 =>
  gB (plainFn Try.prog x1g) (HCalls Try.prog x1g (argsOf x1f [Value.agg #[v19, v20, v21]] x1c) H16 (Sp.retK (fun v22 H23 =>
  dBl v22 (fun b24 =>
  sB b24 (R (Ending.returned (Value.int IntKind.i64 n3)) H23) (wr IntKind.i64 (n3 + 1) (fun n25 =>
  (I1 ([Value.int IntKind.i64 n25]) H23) ∧
  (I2 [Value.int IntKind.i64 n25] H23) < (I2 [Value.int IntKind.i64 n3] H16))))) (pnR R))))))))) (R (Ending.returned (Value.int IntKind.i64 (-1))) H16)
theorem F129_eq (x0a : Option Addr) (x0n : Nat) (x0c : Nat) (x1g : Nat) (x1f : Array Value) (x1c : Array Value) (R : Ending → Heap → Prop) (H : Heap) : F129 x0a x0n x0c x1g x1f x1c R H = vc Try.prog (codeOf Try.f129) (.node none .leaf (.node none (.node none .leaf (.node none (.node (some ⟨[(8, 3)], [4, 5, 9, 10, 11, 12, 13, 14, 15, 16, 17, 18]⟩) .leaf .leaf) .leaf)) .leaf)) (postV Try.prog Try.f129 R) ⟨#[Value.slice x0a x0n x0c, Value.func (Fn.func x1g) x1f x1c] ++ Array.replicate (Try.f129.ntmps - 2) undef, []⟩ H := by kernel_rfl
theorem F129_calls {R : Ending → Heap → Prop} {H : Heap} (x0a : Option Addr) (x0n : Nat) (x0c : Nat) (x1g : Nat) (x1f : Array Value) (x1c : Array Value) (h : F129 x0a x0n x0c x1g x1f x1c R H) : HCalls Try.prog 129 #[Value.slice x0a x0n x0c, Value.func (Fn.func x1g) x1f x1c] H R :=
  calls_by (F := F129 x0a x0n x0c x1g x1f x1c R H) (.node none .leaf (.node none (.node none .leaf (.node none (.node (some ⟨[(8, 3)], [4, 5, 9, 10, 11, 12, 13, 14, 15, 16, 17, 18]⟩) .leaf .leaf) .leaf)) .leaf)) Try.func129 rfl (F129_eq x0a x0n x0c x1g x1f x1c R H) h
/-- (*bollard/disk.Disk).place$1 -/
def F130 (x0_0 : Value) (x0_1 : Value) (x0_2 : Value) (f0 : Addr) (R : Ending → Heap → Prop) (H : Heap) : Prop :=
  al H (Obj.cells #[x0_0, x0_1, x0_2] 149) (fun r1 H2 =>
  ld H2 (Addr.mk r1 0 none) (fun v3 =>
  dInt IntKind.i64 v3 (fun n4 =>
  ld H2 f0 (fun v5 =>
  dInt IntKind.i64 v5 (fun n6 =>
  R (Ending.returned (Value.bool (n4 == n6))) H2)))))
theorem F130_eq (x0_0 : Value) (x0_1 : Value) (x0_2 : Value) (f0 : Addr) (R : Ending → Heap → Prop) (H : Heap) : F130 x0_0 x0_1 x0_2 f0 R H = vc Try.prog (codeOf Try.f130) .leaf (postV Try.prog Try.f130 R) ⟨#[Value.agg #[x0_0, x0_1, x0_2], Value.pointer (some f0)] ++ Array.replicate (Try.f130.ntmps - 2) undef, []⟩ H := by kernel_rfl
theorem F130_calls {R : Ending → Heap → Prop} {H : Heap} (x0_0 : Value) (x0_1 : Value) (x0_2 : Value) (f0 : Addr) (h : F130 x0_0 x0_1 x0_2 f0 R H) : HCalls Try.prog 130 #[Value.agg #[x0_0, x0_1, x0_2], Value.pointer (some f0)] H R :=
  calls_by (F := F130 x0_0 x0_1 x0_2 f0 R H) .leaf Try.func130 rfl (F130_eq x0_0 x0_1 x0_2 f0 R H) h
/-- (*bollard/cache.Cache).victim -/
def F131 (x0 : Option Addr) (R : Ending → Heap → Prop) (H : Heap) : Prop :=
  HCalls Try.prog 27 #[Value.pointer x0] H (Sp.retK (fun v1 H2 =>
  dSl v1 (fun p3 r4 r5 =>
  ∃ I6 : List Value → Heap → Prop,
  ∃ I7 : List Value → Heap → Nat,
  (I6 ([Value.int IntKind.i64 0]) H2) ∧
  ∀ n8 : Int,
  ∀ v9 v10 v11 v12 v13 v14 v15 v16 v17 v18 v19 v20 v21 v22 v23 v24 v25 v26 : Value,
  ∀ H27 : Heap,
  (I6 ([Value.int IntKind.i64 n8]) H27) →
  sB (decide (n8 < (↑r4 : Int))) (nz p3 (fun a29 =>
  ask ((0 : Int) ≤ n8 ∧ n8 < (↑r4 : Int)) (ld H27 (Addr.add a29 (Int.toNat n8 * 1)) (fun v30 =>
  dInt IntKind.i64 v30 (fun n31 =>
  nz x0 (fun a32 =>
  ld H27 (Addr.add a32 2) (fun v33 =>
  dMap v33 (fun p34 =>
  semW Try.prog (Instr.lookup 69 (Value.map p34) (Value.int IntKind.i64 n31) false) (pnR R) H27 (fun v37 H38 =>
  dPtr v37 (fun p39 =>
  nz p39 (fun a40 =>
  ld H38 (Addr.add a40 1) (fun v41 =>
  dInt IntKind.i64 v41 (fun n42 =>
  sB (n42 == 0) (R (Ending.returned (Value.tuple #[Value.int IntKind.i64 n31, Value.bool true])) H38) (wr IntKind.i64 (n8 + 1) (fun n43 =>
  (I6 ([Value.int IntKind.i64 n43]) H38) ∧
  (I7 [Value.int IntKind.i64 n43] H38) < (I7 [Value.int IntKind.i64 n8] H27)))))))))))))))) (R (Ending.returned (Value.tuple #[Value.int IntKind.i64 0, Value.bool false])) H27))) (pnR R))
theorem F131_eq (x0 : Option Addr) (R : Ending → Heap → Prop) (H : Heap) : F131 x0 R H = vc Try.prog (codeOf Try.f131) (.node none .leaf (.node none (.node none .leaf (.node none (.node (some ⟨[(9, 3)], [2, 3, 5, 10, 11, 12, 13, 14, 15, 16, 17, 18, 19, 20, 21, 22, 23, 24]⟩) .leaf .leaf) .leaf)) .leaf)) (postV Try.prog Try.f131 R) ⟨#[Value.pointer x0] ++ Array.replicate (Try.f131.ntmps - 1) undef, []⟩ H := by kernel_rfl
theorem F131_calls {R : Ending → Heap → Prop} {H : Heap} (x0 : Option Addr) (h : F131 x0 R H) : HCalls Try.prog 131 #[Value.pointer x0] H R :=
  calls_by (F := F131 x0 R H) (.node none .leaf (.node none (.node none .leaf (.node none (.node (some ⟨[(9, 3)], [2, 3, 5, 10, 11, 12, 13, 14, 15, 16, 17, 18, 19, 20, 21, 22, 23, 24]⟩) .leaf .leaf) .leaf)) .leaf)) Try.func131 rfl (F131_eq x0 R H) h
/-- cmp.isNaN[int] -/
def F139 (x0 : Int) (R : Ending → Heap → Prop) (H : Heap) : Prop :=
  R (Ending.returned (Value.bool (x0 != x0))) H
theorem F139_eq (x0 : Int) (R : Ending → Heap → Prop) (H : Heap) : F139 x0 R H = vc Try.prog (codeOf Try.f139) .leaf (postV Try.prog Try.f139 R) ⟨#[Value.int IntKind.i64 x0] ++ Array.replicate (Try.f139.ntmps - 1) undef, []⟩ H := by kernel_rfl
theorem F139_calls {R : Ending → Heap → Prop} {H : Heap} (x0 : Int) (h : F139 x0 R H) : HCalls Try.prog 139 #[Value.int IntKind.i64 x0] H R :=
  calls_by (F := F139 x0 R H) .leaf Try.func139 rfl (F139_eq x0 R H) h
/-- bollard/word.there -/
def F140 (x0a : Option Addr) (x0n : Nat) (x0c : Nat) (x1 : Int) (x2 : Int) (R : Ending → Heap → Prop) (H : Heap) : Prop :=
  jn (α := VFH 1) (fun v1 H2 =>
  ∀ v3 v4 v5 v6 v7 v8 v9 v10 v11 v12 : Value,
  dBl v1 (fun b13 =>
  sB b13 (R (Ending.returned (Value.int IntKind.i64 1)) H2) (jn (α := VFH 1) (fun v14 H15 =>
  ∀ v16 v17 v18 v19 v20 v21 v22 v23 v24 v25 v26 v27 : Value,
  dBl v14 (fun b28 =>
  sB b28 (R (Ending.returned (Value.int IntKind.i64 10)) H15) (R (Ending.returned (Value.int IntKind.i64 0)) H15))) (fun k29 =>
  sB (decide (x1 > (↑x0n : Int))) (k29 (Value.bool true) H2) (wr IntKind.i64 ((↑x0n : Int) - x1) (fun n30 =>
  k29 (Value.bool (decide (x2 > n30))) H2)))))) (fun k31 =>
  sB (decide (x2 < 1)) (k31 (Value.bool true) H) (sB (decide (x2 > 4)) (k31 (Value.bool true) H) (k31 (Value.bool (decide (x1 < 0))) H)))
theorem F140_eq (x0a : Option Addr) (x0n : Nat) (x0c : Nat) (x1 : Int) (x2 : Int) (R : Ending → Heap → Prop) (H : Heap) : F140 x0a x0n x0c x1 x2 R H = vc Try.prog (codeOf Try.f140) (.node none .leaf (.node none (.node none (.node (some ⟨[(7, 4)], [8, 9, 10, 11, 12, 13, 14, 15, 16, 17]⟩) .leaf (.node none .leaf (.node (some ⟨[(18, 4)], [19, 20, 21, 22, 23, 24, 25, 26, 27, 28, 29, 30]⟩) .leaf .leaf))) .leaf) .leaf)) (postV Try.prog Try.f140 R) ⟨#[Value.slice x0a x0n x0c, Value.int IntKind.i64 x1, Value.int IntKind.i64 x2] ++ Array.replicate (Try.f140.ntmps - 3) undef, []⟩ H := by kernel_rfl
theorem F140_calls {R : Ending → Heap → Prop} {H : Heap} (x0a : Option Addr) (x0n : Nat) (x0c : Nat) (x1 : Int) (x2 : Int) (h : F140 x0a x0n x0c x1 x2 R H) : HCalls Try.prog 140 #[Value.slice x0a x0n x0c, Value.int IntKind.i64 x1, Value.int IntKind.i64 x2] H R :=
  calls_by (F := F140 x0a x0n x0c x1 x2 R H) (.node none .leaf (.node none (.node none (.node (some ⟨[(7, 4)], [8, 9, 10, 11, 12, 13, 14, 15, 16, 17]⟩) .leaf (.node none .leaf (.node (some ⟨[(18, 4)], [19, 20, 21, 22, 23, 24, 25, 26, 27, 28, 29, 30]⟩) .leaf .leaf))) .leaf) .leaf)) Try.func140 rfl (F140_eq x0a x0n x0c x1 x2 R H) h
end Go.Proofs.Ytmgjdmohmhaemaa.E
