/- My own texts, joined. -/
import Derived.KernelRfl
import Derived.Test.YtngploohhmfaiaaGreatProg
import Derived.Test.YtngploohhmfaiaaGreatQb5
/- The functions' forms in the engine's words, printed by my own program. -/
namespace Go.Proofs.YtngploohhmfaiaaGreat.E
open Go Go.Proofs
set_option linter.unusedVariables false
/-- (*bollard/patch.Set).Blocks -/
def F99 (x0 : Option Addr) (R : Ending → Heap → Prop) (H : Heap) : Prop :=
  HCalls Tryz.prog 127 #[Value.pointer x0] H (Sp.retK (fun v1 H2 =>
  dBl v1 (fun b3 =>
  sB (!b3) (R (Ending.returned (Value.slice none 0 0)) H2) (nz x0 (fun a4 =>
  ld H2 (Addr.add a4 2) (fun v5 =>
  dMap v5 (fun p6 =>
  semW Tryz.prog (Instr.range 190 (Value.map p6)) (pnR R) H2 (fun v9 H10 =>
  ∃ I11 : List Value → Heap → Prop,
  ∃ I12 : List Value → Heap → Nat,
  (I11 ([Value.slice none 0 0]) H10) ∧
  ∀ p13 : Option Addr,
  ∀ r14 : Nat,
  ∀ r15 : Nat,
  ∀ v16 v17 v18 v19 v20 v21 v22 v23 v24 v25 : Value,
  ∀ H26 : Heap,
  (I11 ([Value.slice p13 r14 r15]) H26) →
  semW Tryz.prog (Instr.next v9 false 0) (pnR R) H26 (fun v30 H31 =>
  dNx v30 (HCalls Tryz.prog 156 #[Value.slice p13 r14 r15] H31 (Sp.retK (fun v32 H33 =>
  HCalls Tryz.prog 157 #[Value.slice p13 r14 r15] H33 (Sp.retK (fun v34 H35 =>
  dSl v34 (fun p36 r37 r38 =>
  R (Ending.returned (Value.slice p36 r37 r38)) H35)) (pnR R))) (pnR R))) (fun v43 v44 =>
  semW Tryz.prog (Instr.entry v9) (pnR R) H31 (fun v47 H48 =>
  dT 2 v47 (fun v49 v50 =>
  dA 5 v50 (fun v51 v52 v53 v54 v55 =>
  al H48 (Obj.cells #[Value.int IntKind.i64 0, Value.int IntKind.i64 0, Value.int IntKind.i64 0, Value.slice none 0 0, Value.slice none 0 0] 194) (fun r56 H57 =>
  st H57 (Addr.mk r56 0 none) v51 (fun H58 =>
  st H58 (Addr.mk r56 1 none) v52 (fun H59 =>
  st H59 (Addr.mk r56 2 none) v53 (fun H60 =>
  st H60 (Addr.mk r56 3 none) v54 (fun H61 =>
  st H61 (Addr.mk r56 4 none) v55 (fun H62 =>
  ld H62 (Addr.mk r56 1 none) (fun v63 =>
  dInt IntKind.i64 v63 (fun n64 =>
  al H62 (Obj.cells #[Value.int IntKind.i64 n64] 3) (fun r65 H66 =>
  semW Tryz.prog (Builtin.append_ #[73, 73] 73 #[Value.slice p13 r14 r15, Value.slice (some (Addr.mk r65 0 none)) 1 1]) (pnR R) H66 (fun v69 H70 =>
  dSl v69 (fun p71 r72 r73 =>
  (I11 ([Value.slice p71 r72 r73]) H70) ∧
  (I12 [Value.slice p71 r72 r73] H70) < (I12 [Value.slice p13 r14 r15] H26)))))))))))))))))))))))) (pnR R))
theorem F99_eq (x0 : Option Addr) (R : Ending → Heap → Prop) (H : Heap) : F99 x0 R H = vc Tryz.prog (codeOf Tryz.f99) (.node none .leaf (.node none .leaf (.node none .leaf (.node none (.node none .leaf (.node none (.node (some ⟨[(3, 73)], [5, 14, 15, 16, 17, 18, 19, 20, 21, 22]⟩) .leaf .leaf) .leaf)) .leaf)))) (postV Tryz.prog Tryz.f99 R) ⟨#[Value.pointer x0] ++ Array.replicate (Tryz.f99.ntmps - 1) undef, []⟩ H := by kernel_rfl
theorem F99_calls {R : Ending → Heap → Prop} {H : Heap} (x0 : Option Addr) (h : F99 x0 R H) : HCalls Tryz.prog 99 #[Value.pointer x0] H R :=
  calls_by (F := F99 x0 R H) (.node none .leaf (.node none .leaf (.node none .leaf (.node none (.node none .leaf (.node none (.node (some ⟨[(3, 73)], [5, 14, 15, 16, 17, 18, 19, 20, 21, 22]⟩) .leaf .leaf) .leaf)) .leaf)))) Tryz.func99 rfl (F99_eq x0 R H) h
/-- slices.EqualFunc[[][]byte,[][]byte,[]byte,[]byte] -/
def F100 (x0a : Option Addr) (x0n : Nat) (x0c : Nat) (x1a : Option Addr) (x1n : Nat) (x1c : Nat) (x2g : Nat) (x2f : Array Value) (x2c : Array Value) (R : Ending → Heap → Prop) (H : Heap) : Prop :=
  sB ((↑x0n : Int) != (↑x1n : Int)) (R (Ending.returned (Value.bool false)) H) (∃ I1 : List Value → Heap → Prop,
  ∃ I2 : List Value → Heap → Nat,
  (I1 ([Value.int IntKind.i64 0]) H) ∧
  ∀ n3 : Int,
  ∀ v4 v5 v6 v7 v8 v9 v10 v11 v12 v13 v14 v15 v16 v17 v18 v19 v20 v21 : Value,
  ∀ H22 : Heap,
  (I1 ([Value.int IntKind.i64 n3]) H22) →
  sB (decide (n3 < (↑x0n : Int))) (nz x0a (fun a24 =>
  ask ((0 : Int) ≤ n3 ∧ n3 < (↑x0n : Int)) (ld H22 (Addr.add a24 (Int.toNat n3 * 1)) (fun v25 =>
  dSl v25 (fun p26 r27 r28 =>
  nz x1a (fun a29 =>
  ask ((0 : Int) ≤ n3 ∧ n3 < (↑x1n : Int)) (ld H22 (Addr.add a29 (Int.toNat n3 * 1)) (fun v30 =>
  dSl v30 (fun p31 r32 r33 =>
  gB (plainFn Tryz.prog x2g) (HCalls Tryz.prog x2g (argsOf x2f [Value.slice p26 r27 r28, Value.slice p31 r32 r33] x2c) H22 (Sp.retK (fun v34 H35 =>
  dBl v34 (fun b36 =>
  sB (!b36) (R (Ending.returned (Value.bool false)) H35) (wr IntKind.i64 (n3 + 1) (fun n37 =>
  (I1 ([Value.int IntKind.i64 n37]) H35) ∧
  (I2 [Value.int IntKind.i64 n37] H35) < (I2 [Value.int IntKind.i64 n3] H22))))) (pnR R)))))))))))) (R (Ending.returned (Value.bool true)) H22))
theorem F100_eq (x0a : Option Addr) (x0n : Nat) (x0c : Nat) (x1a : Option Addr) (x1n : Nat) (x1c : Nat) (x2g : Nat) (x2f : Array Value) (x2c : Array Value) (R : Ending → Heap → Prop) (H : Heap) : F100 x0a x0n x0c x1a x1n x1c x2g x2f x2c R H = vc Tryz.prog (codeOf Tryz.f100) (.node none .leaf (.node none .leaf (.node none (.node none .leaf (.node none (.node (some ⟨[(17, 3)], [6, 7, 8, 9, 18, 19, 20, 21, 22, 23, 24, 25, 26, 27, 28, 29, 30, 31]⟩) .leaf .leaf) .leaf)) .leaf))) (postV Tryz.prog Tryz.f100 R) ⟨#[Value.slice x0a x0n x0c, Value.slice x1a x1n x1c, Value.func (Fn.func x2g) x2f x2c] ++ Array.replicate (Tryz.f100.ntmps - 3) undef, []⟩ H := by kernel_rfl
theorem F100_calls {R : Ending → Heap → Prop} {H : Heap} (x0a : Option Addr) (x0n : Nat) (x0c : Nat) (x1a : Option Addr) (x1n : Nat) (x1c : Nat) (x2g : Nat) (x2f : Array Value) (x2c : Array Value) (h : F100 x0a x0n x0c x1a x1n x1c x2g x2f x2c R H) : HCalls Tryz.prog 100 #[Value.slice x0a x0n x0c, Value.slice x1a x1n x1c, Value.func (Fn.func x2g) x2f x2c] H R :=
  calls_by (F := F100 x0a x0n x0c x1a x1n x1c x2g x2f x2c R H) (.node none .leaf (.node none .leaf (.node none (.node none .leaf (.node none (.node (some ⟨[(17, 3)], [6, 7, 8, 9, 18, 19, 20, 21, 22, 23, 24, 25, 26, 27, 28, 29, 30, 31]⟩) .leaf .leaf) .leaf)) .leaf))) Tryz.func100 rfl (F100_eq x0a x0n x0c x1a x1n x1c x2g x2f x2c R H) h
/-- (*bollard/patch.Set).Last -/
def F105 (x0 : Option Addr) (R : Ending → Heap → Prop) (H : Heap) : Prop :=
  HCalls Tryz.prog 127 #[Value.pointer x0] H (Sp.retK (fun v1 H2 =>
  dBl v1 (fun b3 =>
  sB (!b3) (R (Ending.returned (Value.int IntKind.i64 0)) H2) (nz x0 (fun a4 =>
  ld H2 a4 (fun v5 =>
  dInt IntKind.i64 v5 (fun n6 =>
  R (Ending.returned (Value.int IntKind.i64 n6)) H2)))))) (pnR R))
theorem F105_eq (x0 : Option Addr) (R : Ending → Heap → Prop) (H : Heap) : F105 x0 R H = vc Tryz.prog (codeOf Tryz.f105) .leaf (postV Tryz.prog Tryz.f105 R) ⟨#[Value.pointer x0] ++ Array.replicate (Tryz.f105.ntmps - 1) undef, []⟩ H := by kernel_rfl
theorem F105_calls {R : Ending → Heap → Prop} {H : Heap} (x0 : Option Addr) (h : F105 x0 R H) : HCalls Tryz.prog 105 #[Value.pointer x0] H R :=
  calls_by (F := F105 x0 R H) .leaf Tryz.func105 rfl (F105_eq x0 R H) h
/-- (*bollard/patch.Set).Undo -/
def F106 (x0 : Option Addr) (x1 : Int) (R : Ending → Heap → Prop) (H : Heap) : Prop :=
  HCalls Tryz.prog 127 #[Value.pointer x0] H (Sp.retK (fun v1 H2 =>
  dBl v1 (fun b3 =>
  sB (!b3) (R (Ending.returned (Value.int IntKind.i64 2)) H2) (jn (α := VFH 1) (fun v4 H5 =>
  ∀ v6 v7 v8 v9 v10 v11 v12 v13 v14 v15 : Value,
  dBl v4 (fun b16 =>
  sB b16 (R (Ending.returned (Value.int IntKind.i64 1)) H5) (nz x0 (fun a17 =>
  ld H5 (Addr.add a17 1) (fun v18 =>
  dMap v18 (fun p19 =>
  semW Tryz.prog (Instr.range 189 (Value.map p19)) (pnR R) H5 (fun v22 H23 =>
  ∃ I24 : List Value → Heap → Prop,
  ∃ I25 : List Value → Heap → Nat,
  (I24 [] H23) ∧
  ∀ v26 v27 v28 v29 v30 v31 v32 v33 v34 : Value,
  ∀ H35 : Heap,
  (I24 [] H35) →
  semW Tryz.prog (Instr.next v22 false 0) (pnR R) H35 (fun v39 H40 =>
  dNx v39 (nz x0 (fun a41 =>
  ld H40 (Addr.add a41 2) (fun v42 =>
  dMap v42 (fun p43 =>
  semW Tryz.prog (Instr.range 190 (Value.map p43)) (pnR R) H40 (fun v46 H47 =>
  ∃ I48 : List Value → Heap → Prop,
  ∃ I49 : List Value → Heap → Nat,
  (I48 [] H47) ∧
  ∀ v50 v51 v52 v53 v54 v55 v56 v57 v58 v59 v60 v61 v62 : Value,
  ∀ H63 : Heap,
  (I48 [] H63) →
  semW Tryz.prog (Instr.next v46 false 0) (pnR R) H63 (fun v67 H68 =>
  dNx v67 (nz x0 (fun a69 =>
  st H68 a69 (Value.int IntKind.i64 x1) (fun H70 =>
  R (Ending.returned (Value.int IntKind.i64 0)) H70))) (fun v71 v72 =>
  semW Tryz.prog (Instr.entry v46) (pnR R) H68 (fun v75 H76 =>
  dT 2 v75 (fun v77 v78 =>
  dInt IntKind.i64 v77 (fun n79 =>
  sB (decide (n79 > x1)) (nz x0 (fun a80 =>
  ld H76 (Addr.add a80 2) (fun v81 =>
  dMap v81 (fun p82 =>
  semW Tryz.prog (Builtin.delete_ #[190, 3] 0 #[Value.map p82, Value.int IntKind.i64 n79]) (pnR R) H76 (fun v85 H86 =>
  (I48 [] H86) ∧
  (I49 [] H86) < (I49 [] H63)))))) ((I48 [] H76) ∧
  (I49 [] H76) < (I49 [] H63)))))))))))) (fun v87 v88 =>
  semW Tryz.prog (Instr.entry v22) (pnR R) H40 (fun v91 H92 =>
  dT 2 v91 (fun v93 v94 =>
  dInt IntKind.i64 v93 (fun n95 =>
  sB (decide (n95 > x1)) (R (Ending.returned (Value.int IntKind.i64 3)) H92) ((I24 [] H92) ∧
  (I25 [] H92) < (I25 [] H35)))))))))))))) (fun k96 =>
  sB (decide (x1 < 0)) (k96 (Value.bool true) H2) (nz x0 (fun a97 =>
  ld H2 a97 (fun v98 =>
  dInt IntKind.i64 v98 (fun n99 =>
  k96 (Value.bool (decide (x1 > n99))) H2)))))))) (pnR R))
theorem F106_eq (x0 : Option Addr) (x1 : Int) (R : Ending → Heap → Prop) (H : Heap) : F106 x0 x1 R H = vc Tryz.prog (codeOf Tryz.f106) (.node none .leaf (.node none (.node none (.node none .leaf (.node none .leaf (.node (some ⟨[(11, 4)], [12, 13, 14, 15, 16, 17, 18, 19, 20, 21]⟩) .leaf .leaf))) .leaf) (.node none (.node none .leaf (.node none (.node (some ⟨[], [4, 5, 27, 28, 29, 30, 31, 32, 33]⟩) .leaf .leaf) .leaf)) (.node none (.node none .leaf (.node none (.node (some ⟨[], [6, 39, 40, 41, 42, 43, 44, 45, 46, 47, 48, 49, 50]⟩) .leaf .leaf) .leaf)) .leaf)))) (postV Tryz.prog Tryz.f106 R) ⟨#[Value.pointer x0, Value.int IntKind.i64 x1] ++ Array.replicate (Tryz.f106.ntmps - 2) undef, []⟩ H := by kernel_rfl
theorem F106_calls {R : Ending → Heap → Prop} {H : Heap} (x0 : Option Addr) (x1 : Int) (h : F106 x0 x1 R H) : HCalls Tryz.prog 106 #[Value.pointer x0, Value.int IntKind.i64 x1] H R :=
  calls_by (F := F106 x0 x1 R H) (.node none .leaf (.node none (.node none (.node none .leaf (.node none .leaf (.node (some ⟨[(11, 4)], [12, 13, 14, 15, 16, 17, 18, 19, 20, 21]⟩) .leaf .leaf))) .leaf) (.node none (.node none .leaf (.node none (.node (some ⟨[], [4, 5, 27, 28, 29, 30, 31, 32, 33]⟩) .leaf .leaf) .leaf)) (.node none (.node none .leaf (.node none (.node (some ⟨[], [6, 39, 40, 41, 42, 43, 44, 45, 46, 47, 48, 49, 50]⟩) .leaf .leaf) .leaf)) .leaf)))) Tryz.func106 rfl (F106_eq x0 x1 R H) h
/-- slices.Clone[[]byte,byte] -/
def F107 (x0a : Option Addr) (x0n : Nat) (x0c : Nat) (R : Ending → Heap → Prop) (H : Heap) : Prop :=
  sB (Option.isNone x0a) (R (Ending.returned (Value.slice none 0 0)) H) (al H (Obj.cells #[] 5) (fun r1 H2 =>
  semW Tryz.prog (Builtin.append_ #[38, 38] 38 #[Value.slice (some (Addr.mk r1 0 none)) 0 0, Value.slice x0a x0n x0c]) (pnR R) H2 (fun v5 H6 =>
  dSl v5 (fun p7 r8 r9 =>
  R (Ending.returned (Value.slice p7 r8 r9)) H6))))
theorem F107_eq (x0a : Option Addr) (x0n : Nat) (x0c : Nat) (R : Ending → Heap → Prop) (H : Heap) : F107 x0a x0n x0c R H = vc Tryz.prog (codeOf Tryz.f107) .leaf (postV Tryz.prog Tryz.f107 R) ⟨#[Value.slice x0a x0n x0c] ++ Array.replicate (Tryz.f107.ntmps - 1) undef, []⟩ H := by kernel_rfl
theorem F107_calls {R : Ending → Heap → Prop} {H : Heap} (x0a : Option Addr) (x0n : Nat) (x0c : Nat) (h : F107 x0a x0n x0c R H) : HCalls Tryz.prog 107 #[Value.slice x0a x0n x0c] H R :=
  calls_by (F := F107 x0a x0n x0c R H) .leaf Tryz.func107 rfl (F107_eq x0a x0n x0c R H) h
/-- (*bollard/volume.Volume).drain -/
def F108 (x0 : Option Addr) (R : Ending → Heap → Prop) (H : Heap) : Prop :=
  nz x0 (fun a1 =>
  ld H (Addr.add a1 2) (fun v2 =>
  dPtr v2 (fun p3 =>
  HCalls Tryz.prog 36 #[Value.pointer p3] H (Sp.retK (fun v4 H5 =>
  dSl v4 (fun p6 r7 r8 =>
  ∃ I9 : List Value → Heap → Prop,
  ∃ I10 : List Value → Heap → Nat,
  (I9 ([Value.bool true, Value.int IntKind.i64 (↑r7 : Int)]) H5) ∧
  ∀ b11 : Bool,
  ∀ n12 : Int,
  ∀ v13 v14 v15 v16 v17 v18 v19 v20 v21 v22 : Value,
  ∀ H23 : Heap,
  (I9 ([Value.bool b11, Value.int IntKind.i64 n12]) H23) →
  sB (decide (n12 > 0)) (jn (α := VFH 1) (fun v25 H26 =>
  ∀ v27 v28 v29 v30 v31 v32 : Value,
  dBl v25 (fun b33 =>
  wr IntKind.i64 (n12 - 1) (fun n34 =>
  (I9 ([Value.bool b33, Value.int IntKind.i64 n34]) H26) ∧
  (I10 [Value.bool b33, Value.int IntKind.i64 n34] H26) < (I10 [Value.bool b11, Value.int IntKind.i64 n12] H23)))) (fun k35 =>
  HCalls Tryz.prog 85 #[Value.pointer x0, Value.int IntKind.i64 0, Value.bool true] H23 (Sp.retK (fun v36 H37 =>
  dInt IntKind.i64 v36 (fun n38 =>
  sB (n38 == 0) (k35 (Value.bool b11) H37) (k35 (Value.bool false) H37))) (pnR R)))) (R (Ending.returned (Value.bool b11)) H23))) (pnR R)))))
theorem F108_eq (x0 : Option Addr) (R : Ending → Heap → Prop) (H : Heap) : F108 x0 R H = vc Tryz.prog (codeOf Tryz.f108) (.node none .leaf (.node none .leaf (.node none (.node none .leaf (.node none (.node (some ⟨[(3, 4), (4, 3)], [11, 12, 13, 14, 15, 16, 17, 18, 19, 20]⟩) (.node none .leaf (.node (some ⟨[(3, 4)], [15, 16, 17, 18, 19, 20]⟩) .leaf .leaf)) .leaf) .leaf)) .leaf))) (postV Tryz.prog Tryz.f108 R) ⟨#[Value.pointer x0] ++ Array.replicate (Tryz.f108.ntmps - 1) undef, []⟩ H := by kernel_rfl
theorem F108_calls {R : Ending → Heap → Prop} {H : Heap} (x0 : Option Addr) (h : F108 x0 R H) : HCalls Tryz.prog 108 #[Value.pointer x0] H R :=
  calls_by (F := F108 x0 R H) (.node none .leaf (.node none .leaf (.node none (.node none .leaf (.node none (.node (some ⟨[(3, 4), (4, 3)], [11, 12, 13, 14, 15, 16, 17, 18, 19, 20]⟩) (.node none .leaf (.node (some ⟨[(3, 4)], [15, 16, 17, 18, 19, 20]⟩) .leaf .leaf)) .leaf) .leaf)) .leaf))) Tryz.func108 rfl (F108_eq x0 R H) h
/-- (*bollard/patch.Set).Closure -/
def F109 (x0 : Option Addr) (x1a : Option Addr) (x1n : Nat) (x1c : Nat) (R : Ending → Heap → Prop) (H : Heap) : Prop :=
  HCalls Tryz.prog 127 #[Value.pointer x0] H (Sp.retK (fun v1 H2 =>
  dBl v1 (fun b3 =>
  sB (!b3) (R (Ending.returned (Value.slice none 0 0)) H2) (al H2 (Obj.map #[] 0) (fun r4 H5 =>
  HCalls Tryz.prog 133 #[Value.pointer x0, Value.slice x1a x1n x1c] H5 (Sp.retK (fun v6 H7 =>
  dSl v6 (fun p8 r9 r10 =>
  ∃ I11 : List Value → Heap → Prop,
  ∃ I12 : List Value → Heap → Nat,
  (I11 ([Value.slice p8 r9 r10]) H7) ∧
  ∀ p13 : Option Addr,
  ∀ r14 : Nat,
  ∀ r15 : Nat,
  ∀ v16 v17 v18 v19 v20 v21 v22 v23 v24 v25 v26 v27 v28 v29 v30 v31 v32 v33 v34 v35 v36 v37 v38 v39 v40 v41 v42 v43 v44 v45 v46 v47 v48 v49 v50 v51 v52 v53 : Value,
  ∀ H54 : Heap,
  (I11 ([Value.slice p13 r14 r15]) H54) →
  sB (decide ((↑r14 : Int) > 0)) (wr IntKind.i64 ((↑r14 : Int) - 1) (fun n56 =>
  nz p13 (fun a57 =>
  ask ((0 : Int) ≤ n56 ∧ n56 < (↑r14 : Int)) (ld H54 (Addr.add a57 (Int.toNat n56 * 1)) (fun v58 =>
  dInt IntKind.i64 v58 (fun n59 =>
  wr IntKind.i64 ((↑r14 : Int) - 1) (fun n60 =>
  ask ((0 : Int) ≤ (0 : Int) ∧ (0 : Int) ≤ n60 ∧ n60 ≤ (↑r15 : Int) ∧ (↑r15 : Int) ≤ (↑r15 : Int)) (semW Tryz.prog (Instr.lookup 189 (Value.map (some r4)) (Value.int IntKind.i64 n59) true) (pnR R) H54 (fun v63 H64 =>
  dT 2 v63 (fun v65 v66 =>
  dA 0 v65 (dBl v66 (fun b67 =>
  al H64 (Obj.cells #[] 23) (fun r68 H69 =>
  sB b67 ((I11 ([Value.slice (slO p13 1 0 (↑r15 : Int)) (Int.toNat n60 - Int.toNat 0) (Int.toNat (↑r15 : Int) - Int.toNat 0)]) H69) ∧
  (I12 [Value.slice (slO p13 1 0 (↑r15 : Int)) (Int.toNat n60 - Int.toNat 0) (Int.toNat (↑r15 : Int) - Int.toNat 0)] H69) < (I12 [Value.slice p13 r14 r15] H54)) (semW Tryz.prog (Instr.mapUpdate 189 (Value.map (some r4)) (Value.int IntKind.i64 n59) (Value.agg #[])) (pnR R) H69 (fun x72 H73 =>
  nz x0 (fun a74 =>
  ld H73 (Addr.add a74 2) (fun v75 =>
  dMap v75 (fun p76 =>
  semW Tryz.prog (Instr.lookup 190 (Value.map p76) (Value.int IntKind.i64 n59) false) (pnR R) H73 (fun v79 H80 =>
  dA 5 v79 (fun v81 v82 v83 v84 v85 =>
  dSl v85 (fun p86 r87 r88 =>
  HCalls Tryz.prog 133 #[Value.pointer x0, Value.slice p86 r87 r88] H80 (Sp.retK (fun v89 H90 =>
  dSl v89 (fun p91 r92 r93 =>
  semW Tryz.prog (Builtin.append_ #[73, 73] 73 #[Value.slice (slO p13 1 0 (↑r15 : Int)) (Int.toNat n60 - Int.toNat 0) (Int.toNat (↑r15 : Int) - Int.toNat 0), Value.slice p91 r92 r93]) (pnR R) H90 (fun v96 H97 =>
  dSl v96 (fun p98 r99 r100 =>
  (I11 ([Value.slice p98 r99 r100]) H97) ∧
  (I12 [Value.slice p98 r99 r100] H97) < (I12 [Value.slice p13 r14 r15] H54))))) (pnR R))))))))))))))))))))))) (HCalls Tryz.prog 167 #[Value.map (some r4)] H54 (Sp.retK (fun v103 H104 =>
  HCalls Tryz.prog 166 #[v103] H104 (Sp.retK (fun v105 H106 =>
  dSl v105 (fun p107 r108 r109 =>
  R (Ending.returned (Value.slice p107 r108 r109)) H106)) (pnR R))) (pnR R))))) (pnR R)))))) (pnR R))
theorem F109_eq (x0 : Option Addr) (x1a : Option Addr) (x1n : Nat) (x1c : Nat) (R : Ending → Heap → Prop) (H : Heap) : F109 x0 x1a x1n x1c R H = vc Tryz.prog (codeOf Tryz.f109) (.node none .leaf (.node none .leaf (.node none .leaf (.node none .leaf (.node none (.node none (.node (some ⟨[(6, 73)], [7, 8, 9, 17, 18, 19, 20, 21, 22, 23, 24, 25, 26, 27, 28, 29, 30, 31, 32, 33, 34, 35, 36, 37, 38, 39, 40, 41, 42, 43, 44, 45, 46, 47, 48, 49, 50, 51]⟩) .leaf .leaf) .leaf) .leaf))))) (postV Tryz.prog Tryz.f109 R) ⟨#[Value.pointer x0, Value.slice x1a x1n x1c] ++ Array.replicate (Tryz.f109.ntmps - 2) undef, []⟩ H := by kernel_rfl
theorem F109_calls {R : Ending → Heap → Prop} {H : Heap} (x0 : Option Addr) (x1a : Option Addr) (x1n : Nat) (x1c : Nat) (h : F109 x0 x1a x1n x1c R H) : HCalls Tryz.prog 109 #[Value.pointer x0, Value.slice x1a x1n x1c] H R :=
  calls_by (F := F109 x0 x1a x1n x1c R H) (.node none .leaf (.node none .leaf (.node none .leaf (.node none .leaf (.node none (.node none (.node (some ⟨[(6, 73)], [7, 8, 9, 17, 18, 19, 20, 21, 22, 23, 24, 25, 26, 27, 28, 29, 30, 31, 32, 33, 34, 35, 36, 37, 38, 39, 40, 41, 42, 43, 44, 45, 46, 47, 48, 49, 50, 51]⟩) .leaf .leaf) .leaf) .leaf))))) Tryz.func109 rfl (F109_eq x0 x1a x1n x1c R H) h
/-- (*bollard/volume.Volume).round -/
def F110 (x0 : Option Addr) (x1a : Option Addr) (x1n : Nat) (x1c : Nat) (R : Ending → Heap → Prop) (H : Heap) : Prop :=
  al H (Obj.cells #[Value.slice x1a x1n x1c] 73) (fun r1 H2 =>
  HCalls Tryz.prog 108 #[Value.pointer x0] H2 (Sp.retK (fun v3 H4 =>
  dBl v3 (fun b5 =>
  HCalls Tryz.prog 83 #[Value.pointer x0] H4 (Sp.retK (fun v6 H7 =>
  dSl v6 (fun p8 r9 r10 =>
  ∃ I11 : List Value → Heap → Prop,
  ∃ I12 : List Value → Heap → Nat,
  (I11 ([Value.bool b5, Value.int IntKind.i64 0]) H7) ∧
  ∀ b13 : Bool,
  ∀ n14 : Int,
  ∀ v15 v16 v17 v18 v19 v20 v21 v22 v23 v24 v25 v26 v27 v28 v29 v30 v31 v32 v33 v34 v35 v36 v37 v38 v39 v40 v41 v42 v43 v44 v45 : Value,
  ∀ H46 : Heap,
  (I11 ([Value.bool b13, Value.int IntKind.i64 n14]) H46) →
  sB (decide (n14 < (↑r9 : Int))) (jn (α := VFH 1) (fun v48 H49 =>
  ∀ v50 v51 v52 v53 v54 v55 v56 v57 v58 v59 v60 v61 v62 v63 v64 v65 v66 v67 v68 v69 v70 v71 v72 v73 v74 v75 v76 v77 v78 : Value,
  dBl v48 (fun b79 =>
  wr IntKind.i64 (n14 + 1) (fun n80 =>
  (I11 ([Value.bool b79, Value.int IntKind.i64 n80]) H49) ∧
  (I12 [Value.bool b79, Value.int IntKind.i64 n80] H49) < (I12 [Value.bool b13, Value.int IntKind.i64 n14] H46)))) (fun k81 =>
  nz p8 (fun a82 =>
  ask ((0 : Int) ≤ n14 ∧ n14 < (↑r9 : Int)) (ld H46 (Addr.add a82 (Int.toNat n14 * 1)) (fun v83 =>
  dInt IntKind.i64 v83 (fun n84 =>
  nz x0 (fun a85 =>
  ld H46 (Addr.add a85 4) (fun v86 =>
  dPtr v86 (fun p87 =>
  HCalls Tryz.prog 112 #[Value.pointer p87, Value.int IntKind.i64 n84] H46 (Sp.retK (fun v88 H89 =>
  dSl v88 (fun p90 r91 r92 =>
  HCalls Tryz.prog 88 #[Value.slice p90 r91 r92, Value.func (Fn.func 168) #[] #[Value.pointer (some (Addr.mk r1 0 none))]] H89 (Sp.retK (fun v93 H94 =>
  dBl v93 (fun b95 =>
  jn (α := VFH 1) (fun v96 H97 =>
  ∀ v98 v99 v100 v101 v102 v103 v104 v105 v106 : Value,
  dBl v96 (fun b107 =>
  sB b107 (HCalls Tryz.prog 84 #[Value.pointer x0, Value.int IntKind.i64 n84] H97 (Sp.retK (fun v108 H109 =>
  dInt IntKind.i64 v108 (fun n110 =>
  sB (n110 == 0) (k81 (Value.bool b13) H109) (k81 (Value.bool false) H109))) (pnR R))) (k81 (Value.bool b13) H97))) (fun k113 =>
  sB b95 (nz x0 (fun a114 =>
  ld H94 (Addr.add a114 2) (fun v115 =>
  dPtr v115 (fun p116 =>
  HCalls Tryz.prog 36 #[Value.pointer p116] H94 (Sp.retK (fun v117 H118 =>
  dSl v117 (fun p119 r120 r121 =>
  k113 (Value.bool (decide ((↑r120 : Int) < 64))) H118)) (pnR R)))))) (k113 (Value.bool false) H94)))) (pnR R)))) (pnR R))))))))))) (HCalls Tryz.prog 108 #[Value.pointer x0] H46 (Sp.retK (fun v128 H129 =>
  dBl v128 (fun b130 =>
  sB b130 (R (Ending.returned (Value.bool b13)) H129) (R (Ending.returned (Value.bool false)) H129))) (pnR R))))) (pnR R)))) (pnR R)))
theorem F110_eq (x0 : Option Addr) (x1a : Option Addr) (x1n : Nat) (x1c : Nat) (R : Ending → Heap → Prop) (H : Heap) : F110 x0 x1a x1n x1c R H = vc Tryz.prog (codeOf Tryz.f110) (.node none .leaf (.node none .leaf (.node none (.node none .leaf (.node none (.node (some ⟨[(5, 4), (14, 3)], [7, 8, 15, 16, 17, 18, 19, 20, 21, 22, 23, 24, 25, 26, 27, 28, 29, 30, 31, 32, 33, 34, 35, 36, 37, 38, 39, 40, 41, 42, 43]⟩) (.node none .leaf (.node none .leaf (.node (some ⟨[(5, 4)], [7, 8, 16, 17, 18, 19, 20, 21, 22, 23, 24, 25, 26, 27, 28, 29, 30, 31, 32, 33, 34, 35, 36, 37, 38, 39, 40, 41, 42]⟩) (.node none (.node none .leaf (.node none .leaf (.node (some ⟨[(35, 4)], [26, 27, 28, 29, 30, 31, 32, 33, 34]⟩) .leaf .leaf))) .leaf) .leaf))) .leaf) .leaf)) .leaf))) (postV Tryz.prog Tryz.f110 R) ⟨#[Value.pointer x0, Value.slice x1a x1n x1c] ++ Array.replicate (Tryz.f110.ntmps - 2) undef, []⟩ H := by kernel_rfl
theorem F110_calls {R : Ending → Heap → Prop} {H : Heap} (x0 : Option Addr) (x1a : Option Addr) (x1n : Nat) (x1c : Nat) (h : F110 x0 x1a x1n x1c R H) : HCalls Tryz.prog 110 #[Value.pointer x0, Value.slice x1a x1n x1c] H R :=
  calls_by (F := F110 x0 x1a x1n x1c R H) (.node none .leaf (.node none .leaf (.node none (.node none .leaf (.node none (.node (some ⟨[(5, 4), (14, 3)], [7, 8, 15, 16, 17, 18, 19, 20, 21, 22, 23, 24, 25, 26, 27, 28, 29, 30, 31, 32, 33, 34, 35, 36, 37, 38, 39, 40, 41, 42, 43]⟩) (.node none .leaf (.node none .leaf (.node (some ⟨[(5, 4)], [7, 8, 16, 17, 18, 19, 20, 21, 22, 23, 24, 25, 26, 27, 28, 29, 30, 31, 32, 33, 34, 35, 36, 37, 38, 39, 40, 41, 42]⟩) (.node none (.node none .leaf (.node none .leaf (.node (some ⟨[(35, 4)], [26, 27, 28, 29, 30, 31, 32, 33, 34]⟩) .leaf .leaf))) .leaf) .leaf))) .leaf) .leaf)) .leaf))) Tryz.func110 rfl (F110_eq x0 x1a x1n x1c R H) h
/-- (*bollard/patch.Set).IsDone -/
def F111 (x0 : Option Addr) (x1 : Int) (R : Ending → Heap → Prop) (H : Heap) : Prop :=
  HCalls Tryz.prog 127 #[Value.pointer x0] H (Sp.retK (fun v1 H2 =>
  dBl v1 (fun b3 =>
  sB (!b3) (R (Ending.returned (Value.bool false)) H2) (nz x0 (fun a4 =>
  ld H2 (Addr.add a4 1) (fun v5 =>
  dMap v5 (fun p6 =>
  semW Tryz.prog (Instr.lookup 189 (Value.map p6) (Value.int IntKind.i64 x1) true) (pnR R) H2 (fun v9 H10 =>
  dT 2 v9 (fun v11 v12 =>
  dA 0 v11 (dBl v12 (fun b13 =>
  al H10 (Obj.cells #[] 23) (fun r14 H15 =>
  R (Ending.returned (Value.bool b13)) H15))))))))))) (pnR R))
theorem F111_eq (x0 : Option Addr) (x1 : Int) (R : Ending → Heap → Prop) (H : Heap) : F111 x0 x1 R H = vc Tryz.prog (codeOf Tryz.f111) .leaf (postV Tryz.prog Tryz.f111 R) ⟨#[Value.pointer x0, Value.int IntKind.i64 x1] ++ Array.replicate (Tryz.f111.ntmps - 2) undef, []⟩ H := by kernel_rfl
theorem F111_calls {R : Ending → Heap → Prop} {H : Heap} (x0 : Option Addr) (x1 : Int) (h : F111 x0 x1 R H) : HCalls Tryz.prog 111 #[Value.pointer x0, Value.int IntKind.i64 x1] H R :=
  calls_by (F := F111 x0 x1 R H) .leaf Tryz.func111 rfl (F111_eq x0 x1 R H) h
/-- (*bollard/patch.Set).Of -/
def F112 (x0 : Option Addr) (x1 : Int) (R : Ending → Heap → Prop) (H : Heap) : Prop :=
  al H (Obj.cells #[Value.pointer x0] 51) (fun r1 H2 =>
  al H2 (Obj.cells #[Value.int IntKind.i64 x1] 3) (fun r3 H4 =>
  ld H4 (Addr.mk r1 0 none) (fun v5 =>
  dPtr v5 (fun p6 =>
  HCalls Tryz.prog 127 #[Value.pointer p6] H4 (Sp.retK (fun v7 H8 =>
  dBl v7 (fun b9 =>
  sB (!b9) (R (Ending.returned (Value.slice none 0 0)) H8) (ld H8 (Addr.mk r1 0 none) (fun v10 =>
  dPtr v10 (fun p11 =>
  HCalls Tryz.prog 170 #[Value.pointer p11] H8 (Sp.retK (fun v12 H13 =>
  dSl v12 (fun p14 r15 r16 =>
  HCalls Tryz.prog 140 #[Value.slice p14 r15 r16, Value.func (Fn.func 171) #[] #[Value.pointer (some (Addr.mk r1 0 none)), Value.pointer (some (Addr.mk r3 0 none))]] H13 (Sp.retK (fun v17 H18 =>
  dSl v17 (fun p19 r20 r21 =>
  R (Ending.returned (Value.slice p19 r20 r21)) H18)) (pnR R)))) (pnR R))))))) (pnR R))))))
theorem F112_eq (x0 : Option Addr) (x1 : Int) (R : Ending → Heap → Prop) (H : Heap) : F112 x0 x1 R H = vc Tryz.prog (codeOf Tryz.f112) .leaf (postV Tryz.prog Tryz.f112 R) ⟨#[Value.pointer x0, Value.int IntKind.i64 x1] ++ Array.replicate (Tryz.f112.ntmps - 2) undef, []⟩ H := by kernel_rfl
theorem F112_calls {R : Ending → Heap → Prop} {H : Heap} (x0 : Option Addr) (x1 : Int) (h : F112 x0 x1 R H) : HCalls Tryz.prog 112 #[Value.pointer x0, Value.int IntKind.i64 x1] H R :=
  calls_by (F := F112 x0 x1 R H) .leaf Tryz.func112 rfl (F112_eq x0 x1 R H) h
/-- (*bollard/cache.Cache).Get -/
def F125 (x0 : Option Addr) (x1 : Int) (R : Ending → Heap → Prop) (H : Heap) : Prop :=
  HCalls Tryz.prog 188 #[Value.pointer x0, Value.int IntKind.i64 x1] H (Sp.retK (fun v1 H2 =>
  dT 2 v1 (fun v3 v4 =>
  dPtr v3 (fun p5 =>
  dInt IntKind.i64 v4 (fun n6 =>
  sB (n6 != 0) (R (Ending.returned (Value.tuple #[Value.slice none 0 0, Value.int IntKind.i64 n6])) H2) (nz p5 (fun a7 =>
  ld H2 a7 (fun v8 =>
  dSl v8 (fun p9 r10 r11 =>
  HCalls Tryz.prog 48 #[Value.slice p9 r10 r11] H2 (Sp.retK (fun v12 H13 =>
  dSl v12 (fun p14 r15 r16 =>
  R (Ending.returned (Value.tuple #[Value.slice p14 r15 r16, Value.int IntKind.i64 0])) H13)) (pnR R)))))))))) (pnR R))
theorem F125_eq (x0 : Option Addr) (x1 : Int) (R : Ending → Heap → Prop) (H : Heap) : F125 x0 x1 R H = vc Tryz.prog (codeOf Tryz.f125) .leaf (postV Tryz.prog Tryz.f125 R) ⟨#[Value.pointer x0, Value.int IntKind.i64 x1] ++ Array.replicate (Tryz.f125.ntmps - 2) undef, []⟩ H := by kernel_rfl
theorem F125_calls {R : Ending → Heap → Prop} {H : Heap} (x0 : Option Addr) (x1 : Int) (h : F125 x0 x1 R H) : HCalls Tryz.prog 125 #[Value.pointer x0, Value.int IntKind.i64 x1] H R :=
  calls_by (F := F125 x0 x1 R H) .leaf Tryz.func125 rfl (F125_eq x0 x1 R H) h
/-- (*bollard/patch.Set).Now -/
def F126 (x0 : Option Addr) (x1 : Int) (x2a : Option Addr) (x2n : Nat) (x2c : Nat) (R : Ending → Heap → Prop) (H : Heap) : Prop :=
  HCalls Tryz.prog 127 #[Value.pointer x0] H (Sp.retK (fun v1 H2 =>
  dBl v1 (fun b3 =>
  sB (!b3) (R (Ending.returned (Value.tuple #[Value.slice none 0 0, Value.int IntKind.i64 2])) H2) (sB ((↑x2n : Int) != 128) (R (Ending.returned (Value.tuple #[Value.slice none 0 0, Value.int IntKind.i64 1])) H2) (HCalls Tryz.prog 112 #[Value.pointer x0, Value.int IntKind.i64 x1] H2 (Sp.retK (fun v4 H5 =>
  dSl v4 (fun p6 r7 r8 =>
  HCalls Tryz.prog 189 #[Value.pointer x0, Value.slice x2a x2n x2c, Value.slice p6 r7 r8] H5 (Sp.retK (fun v9 H10 =>
  dSl v9 (fun p11 r12 r13 =>
  R (Ending.returned (Value.tuple #[Value.slice p11 r12 r13, Value.int IntKind.i64 0])) H10)) (pnR R)))) (pnR R)))))) (pnR R))
theorem F126_eq (x0 : Option Addr) (x1 : Int) (x2a : Option Addr) (x2n : Nat) (x2c : Nat) (R : Ending → Heap → Prop) (H : Heap) : F126 x0 x1 x2a x2n x2c R H = vc Tryz.prog (codeOf Tryz.f126) .leaf (postV Tryz.prog Tryz.f126 R) ⟨#[Value.pointer x0, Value.int IntKind.i64 x1, Value.slice x2a x2n x2c] ++ Array.replicate (Tryz.f126.ntmps - 3) undef, []⟩ H := by kernel_rfl
theorem F126_calls {R : Ending → Heap → Prop} {H : Heap} (x0 : Option Addr) (x1 : Int) (x2a : Option Addr) (x2n : Nat) (x2c : Nat) (h : F126 x0 x1 x2a x2n x2c R H) : HCalls Tryz.prog 126 #[Value.pointer x0, Value.int IntKind.i64 x1, Value.slice x2a x2n x2c] H R :=
  calls_by (F := F126 x0 x1 x2a x2n x2c R H) .leaf Tryz.func126 rfl (F126_eq x0 x1 x2a x2n x2c R H) h
/-- (*bollard/patch.Set).own -/
def F127 (x0 : Option Addr) (R : Ending → Heap → Prop) (H : Heap) : Prop :=
  sB (!Option.isNone x0) (nz x0 (fun a1 =>
  ld H (Addr.add a1 3) (fun v2 =>
  dBl v2 (fun b3 =>
  R (Ending.returned (Value.bool b3)) H)))) (R (Ending.returned (Value.bool false)) H)
theorem F127_eq (x0 : Option Addr) (R : Ending → Heap → Prop) (H : Heap) : F127 x0 R H = vc Tryz.prog (codeOf Tryz.f127) .leaf (postV Tryz.prog Tryz.f127 R) ⟨#[Value.pointer x0] ++ Array.replicate (Tryz.f127.ntmps - 1) undef, []⟩ H := by kernel_rfl
theorem F127_calls {R : Ending → Heap → Prop} {H : Heap} (x0 : Option Addr) (h : F127 x0 R H) : HCalls Tryz.prog 127 #[Value.pointer x0] H R :=
  calls_by (F := F127 x0 R H) .leaf Tryz.func127 rfl (F127_eq x0 R H) h
/-- bollard/patch.fits -/
def F128 (x0 : Int) (x1 : Int) (x2a : Option Addr) (x2n : Nat) (x2c : Nat) (R : Ending → Heap → Prop) (H : Heap) : Prop :=
  sB (decide (x0 ≥ 0)) (sB (decide (x1 ≥ 0)) (sB (decide ((↑x2n : Int) > 0)) (sB (decide (x1 ≤ 128)) (wr IntKind.i64 (128 - x1) (fun n1 =>
  R (Ending.returned (Value.bool (decide ((↑x2n : Int) ≤ n1)))) H)) (R (Ending.returned (Value.bool false)) H)) (R (Ending.returned (Value.bool false)) H)) (R (Ending.returned (Value.bool false)) H)) (R (Ending.returned (Value.bool false)) H)
theorem F128_eq (x0 : Int) (x1 : Int) (x2a : Option Addr) (x2n : Nat) (x2c : Nat) (R : Ending → Heap → Prop) (H : Heap) : F128 x0 x1 x2a x2n x2c R H = vc Tryz.prog (codeOf Tryz.f128) .leaf (postV Tryz.prog Tryz.f128 R) ⟨#[Value.int IntKind.i64 x0, Value.int IntKind.i64 x1, Value.slice x2a x2n x2c] ++ Array.replicate (Tryz.f128.ntmps - 3) undef, []⟩ H := by kernel_rfl
theorem F128_calls {R : Ending → Heap → Prop} {H : Heap} (x0 : Int) (x1 : Int) (x2a : Option Addr) (x2n : Nat) (x2c : Nat) (h : F128 x0 x1 x2a x2n x2c R H) : HCalls Tryz.prog 128 #[Value.int IntKind.i64 x0, Value.int IntKind.i64 x1, Value.slice x2a x2n x2c] H R :=
  calls_by (F := F128 x0 x1 x2a x2n x2c R H) .leaf Tryz.func128 rfl (F128_eq x0 x1 x2a x2n x2c R H) h
/-- (*bollard/patch.Set).Add$1 -/
def F129 (x0 : Int) (f0 : Addr) (R : Ending → Heap → Prop) (H : Heap) : Prop :=
  ld H f0 (fun v1 =>
  dPtr v1 (fun p2 =>
  HCalls Tryz.prog 130 #[Value.pointer p2, Value.int IntKind.i64 x0] H (Sp.retK (fun v3 H4 =>
  dBl v3 (fun b5 =>
  R (Ending.returned (Value.bool !b5)) H4)) (pnR R))))
theorem F129_eq (x0 : Int) (f0 : Addr) (R : Ending → Heap → Prop) (H : Heap) : F129 x0 f0 R H = vc Tryz.prog (codeOf Tryz.f129) .leaf (postV Tryz.prog Tryz.f129 R) ⟨#[Value.int IntKind.i64 x0, Value.pointer (some f0)] ++ Array.replicate (Tryz.f129.ntmps - 2) undef, []⟩ H := by kernel_rfl
theorem F129_calls {R : Ending → Heap → Prop} {H : Heap} (x0 : Int) (f0 : Addr) (h : F129 x0 f0 R H) : HCalls Tryz.prog 129 #[Value.int IntKind.i64 x0, Value.pointer (some f0)] H R :=
  calls_by (F := F129 x0 f0 R H) .leaf Tryz.func129 rfl (F129_eq x0 f0 R H) h
/-- (*bollard/patch.Set).known -/
def F130 (x0 : Option Addr) (x1 : Int) (R : Ending → Heap → Prop) (H : Heap) : Prop :=
  sB (decide (x1 ≥ 1)) (nz x0 (fun a1 =>
  ld H a1 (fun v2 =>
  dInt IntKind.i64 v2 (fun n3 =>
  R (Ending.returned (Value.bool (decide (x1 ≤ n3)))) H)))) (R (Ending.returned (Value.bool false)) H)
theorem F130_eq (x0 : Option Addr) (x1 : Int) (R : Ending → Heap → Prop) (H : Heap) : F130 x0 x1 R H = vc Tryz.prog (codeOf Tryz.f130) .leaf (postV Tryz.prog Tryz.f130 R) ⟨#[Value.pointer x0, Value.int IntKind.i64 x1] ++ Array.replicate (Tryz.f130.ntmps - 2) undef, []⟩ H := by kernel_rfl
theorem F130_calls {R : Ending → Heap → Prop} {H : Heap} (x0 : Option Addr) (x1 : Int) (h : F130 x0 x1 R H) : HCalls Tryz.prog 130 #[Value.pointer x0, Value.int IntKind.i64 x1] H R :=
  calls_by (F := F130 x0 x1 R H) .leaf Tryz.func130 rfl (F130_eq x0 x1 R H) h
/-- slices.Clone[[]int,int] -/
def F131 (x0a : Option Addr) (x0n : Nat) (x0c : Nat) (R : Ending → Heap → Prop) (H : Heap) : Prop :=
  sB (Option.isNone x0a) (R (Ending.returned (Value.slice none 0 0)) H) (al H (Obj.cells #[] 3) (fun r1 H2 =>
  semW Tryz.prog (Builtin.append_ #[73, 73] 73 #[Value.slice (some (Addr.mk r1 0 none)) 0 0, Value.slice x0a x0n x0c]) (pnR R) H2 (fun v5 H6 =>
  dSl v5 (fun p7 r8 r9 =>
  R (Ending.returned (Value.slice p7 r8 r9)) H6))))
theorem F131_eq (x0a : Option Addr) (x0n : Nat) (x0c : Nat) (R : Ending → Heap → Prop) (H : Heap) : F131 x0a x0n x0c R H = vc Tryz.prog (codeOf Tryz.f131) .leaf (postV Tryz.prog Tryz.f131 R) ⟨#[Value.slice x0a x0n x0c] ++ Array.replicate (Tryz.f131.ntmps - 1) undef, []⟩ H := by kernel_rfl
theorem F131_calls {R : Ending → Heap → Prop} {H : Heap} (x0a : Option Addr) (x0n : Nat) (x0c : Nat) (h : F131 x0a x0n x0c R H) : HCalls Tryz.prog 131 #[Value.slice x0a x0n x0c] H R :=
  calls_by (F := F131 x0a x0n x0c R H) .leaf Tryz.func131 rfl (F131_eq x0a x0n x0c R H) h
end Go.Proofs.YtngploohhmfaiaaGreat.E
/- The functions' forms in the engine's words, printed by my own program. -/
namespace Go.Proofs.YtngploohhmfaiaaGreat.E
open Go Go.Proofs
set_option linter.unusedVariables false
/-- bollard/patch.overlap -/
def F132 (x0_0 : Value) (x0_1 : Value) (x0_2 : Value) (x0_3 : Value) (x0_4 : Value) (x1_0 : Value) (x1_1 : Value) (x1_2 : Value) (x1_3 : Value) (x1_4 : Value) (R : Ending → Heap → Prop) (H : Heap) : Prop :=
  al H (Obj.cells #[x0_0, x0_1, x0_2, x0_3, x0_4] 194) (fun r1 H2 =>
  al H2 (Obj.cells #[x1_0, x1_1, x1_2, x1_3, x1_4] 194) (fun r3 H4 =>
  ld H4 (Addr.mk r1 1 none) (fun v5 =>
  dInt IntKind.i64 v5 (fun n6 =>
  ld H4 (Addr.mk r3 1 none) (fun v7 =>
  dInt IntKind.i64 v7 (fun n8 =>
  sB (n6 == n8) (ld H4 (Addr.mk r1 2 none) (fun v9 =>
  dInt IntKind.i64 v9 (fun n10 =>
  ld H4 (Addr.mk r3 2 none) (fun v11 =>
  dInt IntKind.i64 v11 (fun n12 =>
  ld H4 (Addr.mk r3 3 none) (fun v13 =>
  dSl v13 (fun p14 r15 r16 =>
  wr IntKind.i64 (n12 + (↑r15 : Int)) (fun n17 =>
  sB (decide (n10 < n17)) (ld H4 (Addr.mk r3 2 none) (fun v18 =>
  dInt IntKind.i64 v18 (fun n19 =>
  ld H4 (Addr.mk r1 2 none) (fun v20 =>
  dInt IntKind.i64 v20 (fun n21 =>
  ld H4 (Addr.mk r1 3 none) (fun v22 =>
  dSl v22 (fun p23 r24 r25 =>
  wr IntKind.i64 (n21 + (↑r24 : Int)) (fun n26 =>
  R (Ending.returned (Value.bool (decide (n19 < n26)))) H4)))))))) (R (Ending.returned (Value.bool false)) H4))))))))) (R (Ending.returned (Value.bool false)) H4)))))))
theorem F132_eq (x0_0 : Value) (x0_1 : Value) (x0_2 : Value) (x0_3 : Value) (x0_4 : Value) (x1_0 : Value) (x1_1 : Value) (x1_2 : Value) (x1_3 : Value) (x1_4 : Value) (R : Ending → Heap → Prop) (H : Heap) : F132 x0_0 x0_1 x0_2 x0_3 x0_4 x1_0 x1_1 x1_2 x1_3 x1_4 R H = vc Tryz.prog (codeOf Tryz.f132) .leaf (postV Tryz.prog Tryz.f132 R) ⟨#[Value.agg #[x0_0, x0_1, x0_2, x0_3, x0_4], Value.agg #[x1_0, x1_1, x1_2, x1_3, x1_4]] ++ Array.replicate (Tryz.f132.ntmps - 2) undef, []⟩ H := by kernel_rfl
theorem F132_calls {R : Ending → Heap → Prop} {H : Heap} (x0_0 : Value) (x0_1 : Value) (x0_2 : Value) (x0_3 : Value) (x0_4 : Value) (x1_0 : Value) (x1_1 : Value) (x1_2 : Value) (x1_3 : Value) (x1_4 : Value) (h : F132 x0_0 x0_1 x0_2 x0_3 x0_4 x1_0 x1_1 x1_2 x1_3 x1_4 R H) : HCalls Tryz.prog 132 #[Value.agg #[x0_0, x0_1, x0_2, x0_3, x0_4], Value.agg #[x1_0, x1_1, x1_2, x1_3, x1_4]] H R :=
  calls_by (F := F132 x0_0 x0_1 x0_2 x0_3 x0_4 x1_0 x1_1 x1_2 x1_3 x1_4 R H) .leaf Tryz.func132 rfl (F132_eq x0_0 x0_1 x0_2 x0_3 x0_4 x1_0 x1_1 x1_2 x1_3 x1_4 R H) h
/-- (*bollard/patch.Set).pending -/
def F133 (x0 : Option Addr) (x1a : Option Addr) (x1n : Nat) (x1c : Nat) (R : Ending → Heap → Prop) (H : Heap) : Prop :=
  ∃ I1 : List Value → Heap → Prop,
  ∃ I2 : List Value → Heap → Nat,
  (I1 ([Value.slice none 0 0, Value.int IntKind.i64 0]) H) ∧
  ∀ p3 : Option Addr,
  ∀ r4 : Nat,
  ∀ r5 : Nat,
  ∀ n6 : Int,
  ∀ v7 v8 v9 v10 v11 v12 v13 v14 v15 v16 v17 v18 v19 v20 v21 v22 v23 v24 v25 v26 v27 : Value,
  ∀ H28 : Heap,
  (I1 ([Value.slice p3 r4 r5, Value.int IntKind.i64 n6]) H28) →
  sB (decide (n6 < (↑x1n : Int))) (jn (α := VFH 1) (fun v30 H31 =>
  ∀ v32 v33 v34 v35 v36 v37 v38 v39 v40 v41 v42 v43 v44 v45 v46 v47 v48 v49 v50 : Value,
  dSl v30 (fun p51 r52 r53 =>
  wr IntKind.i64 (n6 + 1) (fun n54 =>
  (I1 ([Value.slice p51 r52 r53, Value.int IntKind.i64 n54]) H31) ∧
  (I2 [Value.slice p51 r52 r53, Value.int IntKind.i64 n54] H31) < (I2 [Value.slice p3 r4 r5, Value.int IntKind.i64 n6] H28)))) (fun k55 =>
  nz x1a (fun a56 =>
  ask ((0 : Int) ≤ n6 ∧ n6 < (↑x1n : Int)) (ld H28 (Addr.add a56 (Int.toNat n6 * 1)) (fun v57 =>
  dInt IntKind.i64 v57 (fun n58 =>
  nz x0 (fun a59 =>
  ld H28 (Addr.add a59 2) (fun v60 =>
  dMap v60 (fun p61 =>
  semW Tryz.prog (Instr.lookup 190 (Value.map p61) (Value.int IntKind.i64 n58) true) (pnR R) H28 (fun v64 H65 =>
  dT 2 v64 (fun v66 v67 =>
  dA 5 v66 (fun v68 v69 v70 v71 v72 =>
  dBl v67 (fun b73 =>
  al H65 (Obj.cells #[Value.int IntKind.i64 0, Value.int IntKind.i64 0, Value.int IntKind.i64 0, Value.slice none 0 0, Value.slice none 0 0] 194) (fun r74 H75 =>
  st H75 (Addr.mk r74 0 none) v68 (fun H76 =>
  st H76 (Addr.mk r74 1 none) v69 (fun H77 =>
  st H77 (Addr.mk r74 2 none) v70 (fun H78 =>
  st H78 (Addr.mk r74 3 none) v71 (fun H79 =>
  st H79 (Addr.mk r74 4 none) v72 (fun H80 =>
  sB b73 (al H80 (Obj.cells #[Value.int IntKind.i64 n58] 3) (fun r81 H82 =>
  semW Tryz.prog (Builtin.append_ #[73, 73] 73 #[Value.slice p3 r4 r5, Value.slice (some (Addr.mk r81 0 none)) 1 1]) (pnR R) H82 (fun v85 H86 =>
  dSl v85 (fun p87 r88 r89 =>
  k55 (Value.slice p87 r88 r89) H86)))) (k55 (Value.slice p3 r4 r5) H80)))))))))))))))))))) (HCalls Tryz.prog 156 #[Value.slice p3 r4 r5] H28 (Sp.retK (fun v90 H91 =>
  HCalls Tryz.prog 157 #[Value.slice p3 r4 r5] H91 (Sp.retK (fun v92 H93 =>
  dSl v92 (fun p94 r95 r96 =>
  R (Ending.returned (Value.slice p94 r95 r96)) H93)) (pnR R))) (pnR R)))
theorem F133_eq (x0 : Option Addr) (x1a : Option Addr) (x1n : Nat) (x1c : Nat) (R : Ending → Heap → Prop) (H : Heap) : F133 x0 x1a x1n x1c R H = vc Tryz.prog (codeOf Tryz.f133) (.node none .leaf (.node none .leaf (.node none (.node none .leaf (.node none (.node (some ⟨[(5, 73), (12, 3)], [7, 8, 9, 13, 14, 15, 16, 17, 18, 19, 20, 21, 22, 23, 24, 25, 26, 27, 28, 29, 30]⟩) (.node none .leaf (.node none .leaf (.node (some ⟨[(5, 73)], [7, 8, 9, 14, 15, 16, 17, 18, 19, 20, 21, 22, 23, 24, 25, 26, 27, 28, 29]⟩) .leaf .leaf))) .leaf) .leaf)) .leaf))) (postV Tryz.prog Tryz.f133 R) ⟨#[Value.pointer x0, Value.slice x1a x1n x1c] ++ Array.replicate (Tryz.f133.ntmps - 2) undef, []⟩ H := by kernel_rfl
theorem F133_calls {R : Ending → Heap → Prop} {H : Heap} (x0 : Option Addr) (x1a : Option Addr) (x1n : Nat) (x1c : Nat) (h : F133 x0 x1a x1n x1c R H) : HCalls Tryz.prog 133 #[Value.pointer x0, Value.slice x1a x1n x1c] H R :=
  calls_by (F := F133 x0 x1a x1n x1c R H) (.node none .leaf (.node none .leaf (.node none (.node none .leaf (.node none (.node (some ⟨[(5, 73), (12, 3)], [7, 8, 9, 13, 14, 15, 16, 17, 18, 19, 20, 21, 22, 23, 24, 25, 26, 27, 28, 29, 30]⟩) (.node none .leaf (.node none .leaf (.node (some ⟨[(5, 73)], [7, 8, 9, 14, 15, 16, 17, 18, 19, 20, 21, 22, 23, 24, 25, 26, 27, 28, 29]⟩) .leaf .leaf))) .leaf) .leaf)) .leaf))) Tryz.func133 rfl (F133_eq x0 x1a x1n x1c R H) h
/-- slices.DeleteFunc[[]int,int] -/
def F140 (x0a : Option Addr) (x0n : Nat) (x0c : Nat) (x1g : Nat) (x1f : Array Value) (x1c : Array Value) (R : Ending → Heap → Prop) (H : Heap) : Prop :=
  HCalls Tryz.prog 148 #[Value.slice x0a x0n x0c, Value.func (Fn.func x1g) x1f x1c] H (Sp.retK (fun v1 H2 =>
  dInt IntKind.i64 v1 (fun n3 =>
  sB (n3 == -1) (R (Ending.returned (Value.slice x0a x0n x0c)) H2) (wr IntKind.i64 (n3 + 1) (fun n4 =>
  ∃ I5 : List Value → Heap → Prop,
  ∃ I6 : List Value → Heap → Nat,
  (I5 ([Value.int IntKind.i64 n3, Value.int IntKind.i64 n4]) H2) ∧
  ∀ n7 : Int,
  ∀ n8 : Int,
  ∀ v9 v10 v11 v12 v13 v14 v15 v16 v17 v18 v19 v20 v21 v22 v23 v24 v25 v26 v27 v28 v29 : Value,
  ∀ H30 : Heap,
  (I5 ([Value.int IntKind.i64 n7, Value.int IntKind.i64 n8]) H30) →
  sB (decide (n8 < (↑x0n : Int))) (jn (α := VFH 1) (fun v32 H33 =>
  ∀ v34 v35 v36 v37 v38 v39 v40 v41 v42 v43 v44 v45 v46 v47 v48 : Value,
  dInt IntKind.i64 v32 (fun n49 =>
  wr IntKind.i64 (n8 + 1) (fun n50 =>
  (I5 ([Value.int IntKind.i64 n49, Value.int IntKind.i64 n50]) H33) ∧
  (I6 [Value.int IntKind.i64 n49, Value.int IntKind.i64 n50] H33) < (I6 [Value.int IntKind.i64 n7, Value.int IntKind.i64 n8] H30)))) (fun k51 =>
  nz x0a (fun a52 =>
  ask ((0 : Int) ≤ n8 ∧ n8 < (↑x0n : Int)) (ld H30 (Addr.add a52 (Int.toNat n8 * 1)) (fun v53 =>
  dInt IntKind.i64 v53 (fun n54 =>
  gB (plainFn Tryz.prog x1g) (HCalls Tryz.prog x1g (argsOf x1f [Value.int IntKind.i64 n54] x1c) H30 (Sp.retK (fun v55 H56 =>
  dBl v55 (fun b57 =>
  sB (!b57) (nz x0a (fun a58 =>
  ask ((0 : Int) ≤ n7 ∧ n7 < (↑x0n : Int)) (st H56 (Addr.add a58 (Int.toNat n7 * 1)) (Value.int IntKind.i64 n54) (fun H59 =>
  wr IntKind.i64 (n7 + 1) (fun n60 =>
  k51 (Value.int IntKind.i64 n60) H59))))) (k51 (Value.int IntKind.i64 n7) H56))) (pnR R))))))))) (ask ((0 : Int) ≤ n7 ∧ n7 ≤ (↑x0n : Int) ∧ (↑x0n : Int) ≤ (↑x0c : Int) ∧ (↑x0c : Int) ≤ (↑x0c : Int)) (semW Tryz.prog (Builtin.clear_ #[73] 0 #[Value.slice (slO x0a 1 n7 (↑x0c : Int)) (Int.toNat (↑x0n : Int) - Int.toNat n7) (Int.toNat (↑x0c : Int) - Int.toNat n7)]) (pnR R) H30 (fun v65 H66 =>
  ask ((0 : Int) ≤ (0 : Int) ∧ (0 : Int) ≤ n7 ∧ n7 ≤ (↑x0c : Int) ∧ (↑x0c : Int) ≤ (↑x0c : Int)) (R (Ending.returned (Value.slice (slO x0a 1 0 (↑x0c : Int)) (Int.toNat n7 - Int.toNat 0) (Int.toNat (↑x0c : Int) - Int.toNat 0))) H66)))))))) (pnR R))
theorem F140_eq (x0a : Option Addr) (x0n : Nat) (x0c : Nat) (x1g : Nat) (x1f : Array Value) (x1c : Array Value) (R : Ending → Heap → Prop) (H : Heap) : F140 x0a x0n x0c x1g x1f x1c R H = vc Tryz.prog (codeOf Tryz.f140) (.node none .leaf (.node none .leaf (.node none .leaf (.node none (.node none .leaf (.node none (.node (some ⟨[(5, 3), (6, 3)], [7, 16, 17, 18, 19, 20, 21, 22, 23, 24, 25, 26, 27, 28, 29, 30, 31, 32, 33, 34, 35]⟩) (.node none .leaf (.node (some ⟨[(5, 3)], [7, 22, 23, 24, 25, 26, 27, 28, 29, 30, 31, 32, 33, 34, 35]⟩) .leaf .leaf)) .leaf) .leaf)) .leaf)))) (postV Tryz.prog Tryz.f140 R) ⟨#[Value.slice x0a x0n x0c, Value.func (Fn.func x1g) x1f x1c] ++ Array.replicate (Tryz.f140.ntmps - 2) undef, []⟩ H := by kernel_rfl
theorem F140_calls {R : Ending → Heap → Prop} {H : Heap} (x0a : Option Addr) (x0n : Nat) (x0c : Nat) (x1g : Nat) (x1f : Array Value) (x1c : Array Value) (h : F140 x0a x0n x0c x1g x1f x1c R H) : HCalls Tryz.prog 140 #[Value.slice x0a x0n x0c, Value.func (Fn.func x1g) x1f x1c] H R :=
  calls_by (F := F140 x0a x0n x0c x1g x1f x1c R H) (.node none .leaf (.node none .leaf (.node none .leaf (.node none (.node none .leaf (.node none (.node (some ⟨[(5, 3), (6, 3)], [7, 16, 17, 18, 19, 20, 21, 22, 23, 24, 25, 26, 27, 28, 29, 30, 31, 32, 33, 34, 35]⟩) (.node none .leaf (.node (some ⟨[(5, 3)], [7, 22, 23, 24, 25, 26, 27, 28, 29, 30, 31, 32, 33, 34, 35]⟩) .leaf .leaf)) .leaf) .leaf)) .leaf)))) Tryz.func140 rfl (F140_eq x0a x0n x0c x1g x1f x1c R H) h
/-- (*bollard/volume.Volume).ready$1 -/
def F141 (x0 : Int) (f0 : Addr) (f1 : Addr) (R : Ending → Heap → Prop) (H : Heap) : Prop :=
  ld H f0 (fun v1 =>
  dPtr v1 (fun p2 =>
  nz p2 (fun a3 =>
  ld H (Addr.add a3 4) (fun v4 =>
  dPtr v4 (fun p5 =>
  ld H f1 (fun v6 =>
  dSl v6 (fun p7 r8 r9 =>
  HCalls Tryz.prog 142 #[Value.pointer p5, Value.int IntKind.i64 x0, Value.slice p7 r8 r9] H (Sp.retK (fun v10 H11 =>
  dT 3 v10 (fun v12 v13 v14 =>
  dSl v12 (fun p15 r16 r17 =>
  dSl v13 (fun p18 r19 r20 =>
  dInt IntKind.i64 v14 (fun n21 =>
  sB (n21 != 0) (R (Ending.returned (Value.bool true)) H11) (ld H11 f0 (fun v22 =>
  dPtr v22 (fun p23 =>
  HCalls Tryz.prog 143 #[Value.pointer p23, Value.int IntKind.i64 x0] H11 (Sp.retK (fun v24 H25 =>
  dBl v24 (fun b26 =>
  R (Ending.returned (Value.bool b26)) H25)) (pnR R)))))))))) nopR))))))))
theorem F141_eq (x0 : Int) (f0 : Addr) (f1 : Addr) (R : Ending → Heap → Prop) (H : Heap) : F141 x0 f0 f1 R H = vc Tryz.prog (codeOf Tryz.f141) .leaf (postV Tryz.prog Tryz.f141 R) ⟨#[Value.int IntKind.i64 x0, Value.pointer (some f0), Value.pointer (some f1)] ++ Array.replicate (Tryz.f141.ntmps - 3) undef, []⟩ H := by kernel_rfl
theorem F141_calls {R : Ending → Heap → Prop} {H : Heap} (x0 : Int) (f0 : Addr) (f1 : Addr) (h : F141 x0 f0 f1 R H) : HCalls Tryz.prog 141 #[Value.int IntKind.i64 x0, Value.pointer (some f0), Value.pointer (some f1)] H R :=
  calls_by (F := F141 x0 f0 f1 R H) .leaf Tryz.func141 rfl (F141_eq x0 f0 f1 R H) h
/-- (*bollard/patch.Set).Plan -/
def F142 (x0 : Option Addr) (x1 : Int) (x2a : Option Addr) (x2n : Nat) (x2c : Nat) (R : Ending → Heap → Prop) (H : Heap) : Prop :=
  HCalls Tryz.prog 127 #[Value.pointer x0] H (Sp.retK (fun v1 H2 =>
  dBl v1 (fun b3 =>
  sB (!b3) (R (Ending.returned (Value.tuple #[Value.slice none 0 0, Value.slice none 0 0, Value.int IntKind.i64 2])) H2) (sB ((↑x2n : Int) != 128) (R (Ending.returned (Value.tuple #[Value.slice none 0 0, Value.slice none 0 0, Value.int IntKind.i64 1])) H2) (HCalls Tryz.prog 192 #[Value.pointer x0, Value.int IntKind.i64 x1] H2 (Sp.retK (fun v4 H5 =>
  dSl v4 (fun p6 r7 r8 =>
  sB ((↑r7 : Int) == 0) (R (Ending.returned (Value.tuple #[Value.slice none 0 0, Value.slice none 0 0, Value.int IntKind.i64 71])) H5) (HCalls Tryz.prog 189 #[Value.pointer x0, Value.slice x2a x2n x2c, Value.slice p6 r7 r8] H5 (Sp.retK (fun v9 H10 =>
  dSl v9 (fun p11 r12 r13 =>
  R (Ending.returned (Value.tuple #[Value.slice p11 r12 r13, Value.slice p6 r7 r8, Value.int IntKind.i64 0])) H10)) (pnR R))))) (pnR R)))))) (pnR R))
theorem F142_eq (x0 : Option Addr) (x1 : Int) (x2a : Option Addr) (x2n : Nat) (x2c : Nat) (R : Ending → Heap → Prop) (H : Heap) : F142 x0 x1 x2a x2n x2c R H = vc Tryz.prog (codeOf Tryz.f142) .leaf (postV Tryz.prog Tryz.f142 R) ⟨#[Value.pointer x0, Value.int IntKind.i64 x1, Value.slice x2a x2n x2c] ++ Array.replicate (Tryz.f142.ntmps - 3) undef, []⟩ H := by kernel_rfl
theorem F142_calls {R : Ending → Heap → Prop} {H : Heap} (x0 : Option Addr) (x1 : Int) (x2a : Option Addr) (x2n : Nat) (x2c : Nat) (h : F142 x0 x1 x2a x2n x2c R H) : HCalls Tryz.prog 142 #[Value.pointer x0, Value.int IntKind.i64 x1, Value.slice x2a x2n x2c] H R :=
  calls_by (F := F142 x0 x1 x2a x2n x2c R H) .leaf Tryz.func142 rfl (F142_eq x0 x1 x2a x2n x2c R H) h
/-- (*bollard/volume.Volume).going -/
def F143 (x0 : Option Addr) (x1 : Int) (R : Ending → Heap → Prop) (H : Heap) : Prop :=
  nz x0 (fun a1 =>
  ld H (Addr.add a1 5) (fun v2 =>
  dMap v2 (fun p3 =>
  semW Tryz.prog (Instr.range 52 (Value.map p3)) (pnR R) H (fun v6 H7 =>
  ∃ I8 : List Value → Heap → Prop,
  ∃ I9 : List Value → Heap → Nat,
  (I8 [] H7) ∧
  ∀ v10 v11 v12 v13 v14 v15 v16 v17 v18 v19 : Value,
  ∀ H20 : Heap,
  (I8 [] H20) →
  semW Tryz.prog (Instr.next v6 false 0) (pnR R) H20 (fun v24 H25 =>
  dNx v24 (R (Ending.returned (Value.bool false)) H25) (fun v26 v27 =>
  semW Tryz.prog (Instr.entry v6) (pnR R) H25 (fun v30 H31 =>
  dT 2 v30 (fun v32 v33 =>
  dA 3 v33 (fun v34 v35 v36 =>
  al H31 (Obj.cells #[Value.int IntKind.i64 0, Value.slice none 0 0, Value.slice none 0 0] 153) (fun r37 H38 =>
  st H38 (Addr.mk r37 0 none) v34 (fun H39 =>
  st H39 (Addr.mk r37 1 none) v35 (fun H40 =>
  st H40 (Addr.mk r37 2 none) v36 (fun H41 =>
  ld H41 (Addr.mk r37 0 none) (fun v42 =>
  dInt IntKind.i64 v42 (fun n43 =>
  sB (n43 == x1) (R (Ending.returned (Value.bool true)) H41) ((I8 [] H41) ∧
  (I9 [] H41) < (I9 [] H20)))))))))))))))))
theorem F143_eq (x0 : Option Addr) (x1 : Int) (R : Ending → Heap → Prop) (H : Heap) : F143 x0 x1 R H = vc Tryz.prog (codeOf Tryz.f143) (.node none .leaf (.node none (.node none .leaf (.node none (.node (some ⟨[], [4, 6, 12, 13, 14, 15, 16, 17, 18, 19]⟩) .leaf .leaf) .leaf)) .leaf)) (postV Tryz.prog Tryz.f143 R) ⟨#[Value.pointer x0, Value.int IntKind.i64 x1] ++ Array.replicate (Tryz.f143.ntmps - 2) undef, []⟩ H := by kernel_rfl
theorem F143_calls {R : Ending → Heap → Prop} {H : Heap} (x0 : Option Addr) (x1 : Int) (h : F143 x0 x1 R H) : HCalls Tryz.prog 143 #[Value.pointer x0, Value.int IntKind.i64 x1] H R :=
  calls_by (F := F143 x0 x1 R H) (.node none .leaf (.node none (.node none .leaf (.node none (.node (some ⟨[], [4, 6, 12, 13, 14, 15, 16, 17, 18, 19]⟩) .leaf .leaf) .leaf)) .leaf)) Tryz.func143 rfl (F143_eq x0 x1 R H) h
/-- (*bollard/disk.Disk).Write -/
def F144 (x0 : Option Addr) (x1 : Int) (x2a : Option Addr) (x2n : Nat) (x2c : Nat) (R : Ending → Heap → Prop) (H : Heap) : Prop :=
  al H (Obj.cells #[Value.int IntKind.i64 x1] 3) (fun r1 H2 =>
  ld H2 (Addr.mk r1 0 none) (fun v3 =>
  dInt IntKind.i64 v3 (fun n4 =>
  HCalls Tryz.prog 193 #[Value.pointer x0, Value.int IntKind.i64 n4] H2 (Sp.retK (fun v5 H6 =>
  dInt IntKind.i64 v5 (fun n7 =>
  sB (n7 != 0) (R (Ending.returned (Value.tuple #[Value.int IntKind.i64 0, Value.int IntKind.i64 n7])) H6) (sB ((↑x2n : Int) != 128) (R (Ending.returned (Value.tuple #[Value.int IntKind.i64 0, Value.int IntKind.i64 1])) H6) (nz x0 (fun a8 =>
  ld H6 (Addr.add a8 1) (fun v9 =>
  dSl v9 (fun p10 r11 r12 =>
  HCalls Tryz.prog 194 #[Value.slice p10 r11 r12, Value.func (Fn.func 195) #[] #[Value.pointer (some (Addr.mk r1 0 none))]] H6 (Sp.retK (fun v13 H14 =>
  dBl v13 (fun b15 =>
  sB b15 (R (Ending.returned (Value.tuple #[Value.int IntKind.i64 0, Value.int IntKind.i64 21])) H14) (nz x0 (fun a16 =>
  ld H14 (Addr.add a16 1) (fun v17 =>
  dSl v17 (fun p18 r19 r20 =>
  sB (decide ((↑r19 : Int) ≥ 64)) (R (Ending.returned (Value.tuple #[Value.int IntKind.i64 0, Value.int IntKind.i64 3])) H14) (nz x0 (fun a21 =>
  ld H14 (Addr.add a21 3) (fun v22 =>
  dInt IntKind.i64 v22 (fun n23 =>
  wr IntKind.i64 (n23 + 1) (fun n24 =>
  nz x0 (fun a25 =>
  st H14 (Addr.add a25 3) (Value.int IntKind.i64 n24) (fun H26 =>
  nz x0 (fun a27 =>
  ld H26 (Addr.add a27 1) (fun v28 =>
  dSl v28 (fun p29 r30 r31 =>
  nz x0 (fun a32 =>
  ld H26 (Addr.add a32 3) (fun v33 =>
  dInt IntKind.i64 v33 (fun n34 =>
  ld H26 (Addr.mk r1 0 none) (fun v35 =>
  dInt IntKind.i64 v35 (fun n36 =>
  HCalls Tryz.prog 48 #[Value.slice x2a x2n x2c] H26 (Sp.retK (fun v37 H38 =>
  dSl v37 (fun p39 r40 r41 =>
  (ld H38 (Addr.mk r1 0 none) (fun v42 =>
  dInt IntKind.i64 v42 (fun n43 =>
  (Value.int IntKind.i64 n43) = (Value.int IntKind.i64 n36)))) ∧
  (ld H38 (Addr.add a32 3) (fun v44 =>
  dInt IntKind.i64 v44 (fun n45 =>
  (Value.int IntKind.i64 n45) = (Value.int IntKind.i64 n34)))) ∧
  (ld H38 (Addr.add a27 1) (fun v46 =>
  dSl v46 (fun p47 r48 r49 =>
  (Value.slice p47 r48 r49) = (Value.slice p29 r30 r31)))) ∧
  al H38 (Obj.cells #[Value.int IntKind.i64 n34, Value.int IntKind.i64 n36, Value.slice p39 r40 r41] 96) (fun r50 H51 =>
  (ld H51 (Addr.add a27 1) (fun v52 =>
  dSl v52 (fun p53 r54 r55 =>
  (Value.slice p53 r54 r55) = (Value.slice p29 r30 r31)))) ∧
  semW Tryz.prog (Builtin.append_ #[93, 93] 93 #[Value.slice p29 r30 r31, Value.slice (some (Addr.mk r50 0 none)) 1 1]) nopR H51 (fun v58 H59 =>
  dSl v58 (fun p60 r61 r62 =>
  nz x0 (fun a63 =>
  st H59 (Addr.add a63 1) (Value.slice p60 r61 r62) (fun H64 =>
  nz x0 (fun a65 =>
  ld H64 (Addr.add a65 3) (fun v66 =>
  dInt IntKind.i64 v66 (fun n67 =>
  R (Ending.returned (Value.tuple #[Value.int IntKind.i64 n67, Value.int IntKind.i64 0])) H64)))))))))) nopR)))))))))))))))))))))) (pnR R))))))))) (pnR R)))))
theorem F144_eq (x0 : Option Addr) (x1 : Int) (x2a : Option Addr) (x2n : Nat) (x2c : Nat) (R : Ending → Heap → Prop) (H : Heap) : F144 x0 x1 x2a x2n x2c R H = vc Tryz.prog (codeOf Tryz.f144) .leaf (postV Tryz.prog Tryz.f144 R) ⟨#[Value.pointer x0, Value.int IntKind.i64 x1, Value.slice x2a x2n x2c] ++ Array.replicate (Tryz.f144.ntmps - 3) undef, []⟩ H := by kernel_rfl
theorem F144_calls {R : Ending → Heap → Prop} {H : Heap} (x0 : Option Addr) (x1 : Int) (x2a : Option Addr) (x2n : Nat) (x2c : Nat) (h : F144 x0 x1 x2a x2n x2c R H) : HCalls Tryz.prog 144 #[Value.pointer x0, Value.int IntKind.i64 x1, Value.slice x2a x2n x2c] H R :=
  calls_by (F := F144 x0 x1 x2a x2n x2c R H) .leaf Tryz.func144 rfl (F144_eq x0 x1 x2a x2n x2c R H) h
/-- (*bollard/disk.Disk).Complete -/
def F145 (x0 : Option Addr) (x1 : Int) (x2 : Bool) (R : Ending → Heap → Prop) (H : Heap) : Prop :=
  HCalls Tryz.prog 87 #[Value.pointer x0] H (Sp.retK (fun v1 H2 =>
  dBl v1 (fun b3 =>
  sB (!b3) (R (Ending.returned (Value.int IntKind.i64 2)) H2) (HCalls Tryz.prog 90 #[Value.pointer x0, Value.int IntKind.i64 x1] H2 (Sp.retK (fun v4 H5 =>
  dInt IntKind.i64 v4 (fun n6 =>
  sB (decide (n6 < 0)) (R (Ending.returned (Value.int IntKind.i64 20)) H5) (nz x0 (fun a7 =>
  ld H5 (Addr.add a7 1) (fun v8 =>
  dSl v8 (fun p9 r10 r11 =>
  nz p9 (fun a12 =>
  ask ((0 : Int) ≤ n6 ∧ n6 < (↑r10 : Int)) (ld H5 (Addr.add a12 (Int.toNat n6 * 3)) (fun v13 =>
  ld H5 (Addr.add (Addr.add a12 (Int.toNat n6 * 3)) 1) (fun v14 =>
  ld H5 (Addr.add (Addr.add a12 (Int.toNat n6 * 3)) 2) (fun v15 =>
  al H5 (Obj.cells #[Value.int IntKind.i64 0, Value.int IntKind.i64 0, Value.slice none 0 0] 96) (fun r16 H17 =>
  st H17 (Addr.mk r16 0 none) v13 (fun H18 =>
  st H18 (Addr.mk r16 1 none) v14 (fun H19 =>
  st H19 (Addr.mk r16 2 none) v15 (fun H20 =>
  nz x0 (fun a21 =>
  ld H20 (Addr.add a21 1) (fun v22 =>
  dSl v22 (fun p23 r24 r25 =>
  wr IntKind.i64 (n6 + 1) (fun n26 =>
  HCalls Tryz.prog 196 #[Value.slice p23 r24 r25, Value.int IntKind.i64 n6, Value.int IntKind.i64 n26] H20 (Sp.retK (fun v27 H28 =>
  dSl v27 (fun p29 r30 r31 =>
  nz x0 (fun a32 =>
  st H28 (Addr.add a32 1) (Value.slice p29 r30 r31) (fun H33 =>
  sB (!x2) (R (Ending.returned (Value.int IntKind.i64 4)) H33) (nz x0 (fun a34 =>
  ld H33 a34 (fun v35 =>
  dSl v35 (fun p36 r37 r38 =>
  ld H33 (Addr.mk r16 1 none) (fun v39 =>
  dInt IntKind.i64 v39 (fun n40 =>
  ld H33 (Addr.mk r16 2 none) (fun v41 =>
  dSl v41 (fun p42 r43 r44 =>
  nz p36 (fun a45 =>
  ask ((0 : Int) ≤ n40 ∧ n40 < (↑r37 : Int)) (st H33 (Addr.add a45 (Int.toNat n40 * 1)) (Value.slice p42 r43 r44) (fun H46 =>
  R (Ending.returned (Value.int IntKind.i64 0)) H46))))))))))))))) (pnR R))))))))))))))))))))) (pnR R))))) (pnR R))
theorem F145_eq (x0 : Option Addr) (x1 : Int) (x2 : Bool) (R : Ending → Heap → Prop) (H : Heap) : F145 x0 x1 x2 R H = vc Tryz.prog (codeOf Tryz.f145) .leaf (postV Tryz.prog Tryz.f145 R) ⟨#[Value.pointer x0, Value.int IntKind.i64 x1, Value.bool x2] ++ Array.replicate (Tryz.f145.ntmps - 3) undef, []⟩ H := by kernel_rfl
theorem F145_calls {R : Ending → Heap → Prop} {H : Heap} (x0 : Option Addr) (x1 : Int) (x2 : Bool) (h : F145 x0 x1 x2 R H) : HCalls Tryz.prog 145 #[Value.pointer x0, Value.int IntKind.i64 x1, Value.bool x2] H R :=
  calls_by (F := F145 x0 x1 x2 R H) .leaf Tryz.func145 rfl (F145_eq x0 x1 x2 R H) h
/-- (*bollard/cache.Cache).Put -/
def F146 (x0 : Option Addr) (x1 : Int) (x2a : Option Addr) (x2n : Nat) (x2c : Nat) (R : Ending → Heap → Prop) (H : Heap) : Prop :=
  HCalls Tryz.prog 197 #[Value.pointer x0, Value.int IntKind.i64 x1] H (Sp.retK (fun v1 H2 =>
  dInt IntKind.i64 v1 (fun n3 =>
  sB (n3 != 0) (R (Ending.returned (Value.int IntKind.i64 n3)) H2) (sB ((↑x2n : Int) != 128) (R (Ending.returned (Value.int IntKind.i64 1)) H2) (jn (α := VFH 0) (fun H4 =>
  ∀ v5 v6 v7 v8 v9 v10 v11 v12 v13 v14 v15 v16 v17 v18 v19 v20 v21 : Value,
  R (Ending.returned (Value.int IntKind.i64 0)) H4) (fun k22 =>
  nz x0 (fun a23 =>
  ld H2 (Addr.add a23 2) (fun v24 =>
  dMap v24 (fun p25 =>
  semW Tryz.prog (Instr.lookup 201 (Value.map p25) (Value.int IntKind.i64 x1) true) (pnR R) H2 (fun v28 H29 =>
  dT 2 v28 (fun v30 v31 =>
  dPtr v30 (fun p32 =>
  dBl v31 (fun b33 =>
  sB b33 (HCalls Tryz.prog 48 #[Value.slice x2a x2n x2c] H29 (Sp.retK (fun v34 H35 =>
  dSl v34 (fun p36 r37 r38 =>
  nz p32 (fun a39 =>
  st H35 a39 (Value.slice p36 r37 r38) (fun H40 =>
  k22 H40)))) (pnR R))) (k22 H29))))))))))))) (pnR R))
theorem F146_eq (x0 : Option Addr) (x1 : Int) (x2a : Option Addr) (x2n : Nat) (x2c : Nat) (R : Ending → Heap → Prop) (H : Heap) : F146 x0 x1 x2a x2n x2c R H = vc Tryz.prog (codeOf Tryz.f146) (.node none .leaf (.node none .leaf (.node none .leaf (.node (some ⟨[], [8, 9, 19, 20, 21, 22, 23, 24, 25, 26, 27, 28, 29, 30, 31, 32, 33]⟩) .leaf .leaf)))) (postV Tryz.prog Tryz.f146 R) ⟨#[Value.pointer x0, Value.int IntKind.i64 x1, Value.slice x2a x2n x2c] ++ Array.replicate (Tryz.f146.ntmps - 3) undef, []⟩ H := by kernel_rfl
theorem F146_calls {R : Ending → Heap → Prop} {H : Heap} (x0 : Option Addr) (x1 : Int) (x2a : Option Addr) (x2n : Nat) (x2c : Nat) (h : F146 x0 x1 x2a x2n x2c R H) : HCalls Tryz.prog 146 #[Value.pointer x0, Value.int IntKind.i64 x1, Value.slice x2a x2n x2c] H R :=
  calls_by (F := F146 x0 x1 x2a x2n x2c R H) (.node none .leaf (.node none .leaf (.node none .leaf (.node (some ⟨[], [8, 9, 19, 20, 21, 22, 23, 24, 25, 26, 27, 28, 29, 30, 31, 32, 33]⟩) .leaf .leaf)))) Tryz.func146 rfl (F146_eq x0 x1 x2a x2n x2c R H) h
/-- (*bollard/patch.Set).Done -/
def F147 (x0 : Option Addr) (x1a : Option Addr) (x1n : Nat) (x1c : Nat) (R : Ending → Heap → Prop) (H : Heap) : Prop :=
  al H (Obj.cells #[Value.pointer x0] 51) (fun r1 H2 =>
  ld H2 (Addr.mk r1 0 none) (fun v3 =>
  dPtr v3 (fun p4 =>
  HCalls Tryz.prog 127 #[Value.pointer p4] H2 (Sp.retK (fun v5 H6 =>
  dBl v5 (fun b7 =>
  sB (!b7) (R (Ending.returned (Value.int IntKind.i64 2)) H6) (HCalls Tryz.prog 88 #[Value.slice x1a x1n x1c, Value.func (Fn.func 198) #[] #[Value.pointer (some (Addr.mk r1 0 none))]] H6 (Sp.retK (fun v8 H9 =>
  dBl v8 (fun b10 =>
  sB b10 (R (Ending.returned (Value.int IntKind.i64 70)) H9) (ld H9 (Addr.mk r1 0 none) (fun v11 =>
  dPtr v11 (fun p12 =>
  HCalls Tryz.prog 133 #[Value.pointer p12, Value.slice x1a x1n x1c] H9 (Sp.retK (fun v13 H14 =>
  dSl v13 (fun p15 r16 r17 =>
  ∃ I18 : List Value → Heap → Prop,
  ∃ I19 : List Value → Heap → Nat,
  (I18 ([Value.int IntKind.i64 0]) H14) ∧
  ∀ n20 : Int,
  ∀ v21 v22 v23 v24 v25 v26 v27 v28 v29 v30 v31 v32 v33 v34 v35 v36 v37 v38 v39 v40 v41 v42 v43 v44 v45 v46 : Value,
  ∀ H47 : Heap,
  (I18 ([Value.int IntKind.i64 n20]) H47) →
  sB (decide (n20 < (↑r16 : Int))) (nz p15 (fun a49 =>
  ask ((0 : Int) ≤ n20 ∧ n20 < (↑r16 : Int)) (ld H47 (Addr.add a49 (Int.toNat n20 * 1)) (fun v50 =>
  dInt IntKind.i64 v50 (fun n51 =>
  ld H47 (Addr.mk r1 0 none) (fun v52 =>
  dPtr v52 (fun p53 =>
  ld H47 (Addr.mk r1 0 none) (fun v54 =>
  dPtr v54 (fun p55 =>
  nz p55 (fun a56 =>
  ld H47 (Addr.add a56 2) (fun v57 =>
  dMap v57 (fun p58 =>
  semW Tryz.prog (Instr.lookup 190 (Value.map p58) (Value.int IntKind.i64 n51) false) nopR H47 (fun v61 H62 =>
  dA 5 v61 (fun v63 v64 v65 v66 v67 =>
  (ld H62 (Addr.mk r1 0 none) (fun v68 =>
  dPtr v68 (fun p69 =>
  (Value.pointer p69) = (Value.pointer p53)))) ∧
  dSl v67 (fun p70 r71 r72 =>
  HCalls Tryz.prog 133 #[Value.pointer p53, Value.slice p70 r71 r72] H62 (Sp.retK (fun v73 H74 =>
  dSl v73 (fun p75 r76 r77 =>
  ∃ I78 : List Value → Heap → Prop,
  ∃ I79 : List Value → Heap → Nat,
  (I78 ([Value.int IntKind.i64 0]) H74) ∧
  ∀ n80 : Int,
  ∀ v81 v82 v83 v84 v85 v86 v87 v88 v89 v90 : Value,
  ∀ H91 : Heap,
  (I78 ([Value.int IntKind.i64 n80]) H91) →
  sB (decide (n80 < (↑r76 : Int))) (nz p75 (fun a93 =>
  ask ((0 : Int) ≤ n80 ∧ n80 < (↑r76 : Int)) (ld H91 (Addr.add a93 (Int.toNat n80 * 1)) (fun v94 =>
  dInt IntKind.i64 v94 (fun n95 =>
  HCalls Tryz.prog 169 #[Value.slice p15 r16 r17, Value.int IntKind.i64 n95] H91 (Sp.retK (fun v96 H97 =>
  dBl v96 (fun b98 =>
  sB (!b98) (R (Ending.returned (Value.int IntKind.i64 3)) H97) (wr IntKind.i64 (n80 + 1) (fun n99 =>
  (I78 ([Value.int IntKind.i64 n99]) H97) ∧
  (I79 [Value.int IntKind.i64 n99] H97) < (I79 [Value.int IntKind.i64 n80] H91))))) (pnR R))))))) (wr IntKind.i64 (n20 + 1) (fun n102 =>
  (I18 ([Value.int IntKind.i64 n102]) H91) ∧
  (I19 [Value.int IntKind.i64 n102] H91) < (I19 [Value.int IntKind.i64 n20] H47))))) nopR)))))))))))))))) (∃ I105 : List Value → Heap → Prop,
  ∃ I106 : List Value → Heap → Nat,
  (I105 ([Value.int IntKind.i64 0]) H47) ∧
  ∀ n107 : Int,
  ∀ v108 v109 v110 v111 v112 v113 v114 v115 v116 v117 v118 v119 v120 v121 v122 v123 : Value,
  ∀ H124 : Heap,
  (I105 ([Value.int IntKind.i64 n107]) H124) →
  sB (decide (n107 < (↑r16 : Int))) (nz p15 (fun a126 =>
  ask ((0 : Int) ≤ n107 ∧ n107 < (↑r16 : Int)) (ld H124 (Addr.add a126 (Int.toNat n107 * 1)) (fun v127 =>
  dInt IntKind.i64 v127 (fun n128 =>
  ld H124 (Addr.mk r1 0 none) (fun v129 =>
  dPtr v129 (fun p130 =>
  nz p130 (fun a131 =>
  ld H124 (Addr.add a131 2) (fun v132 =>
  dMap v132 (fun p133 =>
  semW Tryz.prog (Builtin.delete_ #[190, 3] 0 #[Value.map p133, Value.int IntKind.i64 n128]) (pnR R) H124 (fun v136 H137 =>
  ld H137 (Addr.mk r1 0 none) (fun v138 =>
  dPtr v138 (fun p139 =>
  nz p139 (fun a140 =>
  ld H137 (Addr.add a140 1) (fun v141 =>
  dMap v141 (fun p142 =>
  semW Tryz.prog (Instr.mapUpdate 189 (Value.map p142) (Value.int IntKind.i64 n128) (Value.agg #[])) (pnR R) H137 (fun x145 H146 =>
  wr IntKind.i64 (n107 + 1) (fun n147 =>
  (I105 ([Value.int IntKind.i64 n147]) H146) ∧
  (I106 [Value.int IntKind.i64 n147] H146) < (I106 [Value.int IntKind.i64 n107] H124))))))))))))))))))) (R (Ending.returned (Value.int IntKind.i64 0)) H124)))) (pnR R))))))) (pnR R))))) (pnR R)))))
theorem F147_eq (x0 : Option Addr) (x1a : Option Addr) (x1n : Nat) (x1c : Nat) (R : Ending → Heap → Prop) (H : Heap) : F147 x0 x1a x1n x1c R H = vc Tryz.prog (codeOf Tryz.f147) (.node none .leaf (.node none .leaf (.node none .leaf (.node none (.node none .leaf (.node none (.node (some ⟨[(25, 3)], [4, 7, 9, 26, 27, 28, 29, 30, 31, 32, 33, 34, 35, 36, 37, 38, 39, 40, 41, 42, 43, 44, 45, 46, 47, 48]⟩) (.node none .leaf (.node none .leaf (.node none (.node none (.node none .leaf (.node none .leaf (.node none (.node (some ⟨[(39, 3)], [4, 9, 40, 41, 42, 43, 44, 45, 46, 47]⟩) .leaf .leaf) .leaf))) .leaf) .leaf))) .leaf) .leaf)) (.node none (.node none .leaf (.node none (.node (some ⟨[(51, 3)], [11, 52, 53, 54, 55, 56, 57, 58, 59, 60, 61, 62, 63, 64, 65, 66]⟩) .leaf .leaf) .leaf)) .leaf))))) (postV Tryz.prog Tryz.f147 R) ⟨#[Value.pointer x0, Value.slice x1a x1n x1c] ++ Array.replicate (Tryz.f147.ntmps - 2) undef, []⟩ H := by kernel_rfl
theorem F147_calls {R : Ending → Heap → Prop} {H : Heap} (x0 : Option Addr) (x1a : Option Addr) (x1n : Nat) (x1c : Nat) (h : F147 x0 x1a x1n x1c R H) : HCalls Tryz.prog 147 #[Value.pointer x0, Value.slice x1a x1n x1c] H R :=
  calls_by (F := F147 x0 x1a x1n x1c R H) (.node none .leaf (.node none .leaf (.node none .leaf (.node none (.node none .leaf (.node none (.node (some ⟨[(25, 3)], [4, 7, 9, 26, 27, 28, 29, 30, 31, 32, 33, 34, 35, 36, 37, 38, 39, 40, 41, 42, 43, 44, 45, 46, 47, 48]⟩) (.node none .leaf (.node none .leaf (.node none (.node none (.node none .leaf (.node none .leaf (.node none (.node (some ⟨[(39, 3)], [4, 9, 40, 41, 42, 43, 44, 45, 46, 47]⟩) .leaf .leaf) .leaf))) .leaf) .leaf))) .leaf) .leaf)) (.node none (.node none .leaf (.node none (.node (some ⟨[(51, 3)], [11, 52, 53, 54, 55, 56, 57, 58, 59, 60, 61, 62, 63, 64, 65, 66]⟩) .leaf .leaf) .leaf)) .leaf))))) Tryz.func147 rfl (F147_eq x0 x1a x1n x1c R H) h
/-- slices.IndexFunc[[]int,int] -/
def F148 (x0a : Option Addr) (x0n : Nat) (x0c : Nat) (x1g : Nat) (x1f : Array Value) (x1c : Array Value) (R : Ending → Heap → Prop) (H : Heap) : Prop :=
  ∃ I1 : List Value → Heap → Prop,
  ∃ I2 : List Value → Heap → Nat,
  (I1 ([Value.int IntKind.i64 0]) H) ∧
  ∀ n3 : Int,
  ∀ v4 v5 v6 v7 v8 v9 v10 v11 v12 v13 v14 v15 : Value,
  ∀ H16 : Heap,
  (I1 ([Value.int IntKind.i64 n3]) H16) →
  sB (decide (n3 < (↑x0n : Int))) (nz x0a (fun a18 =>
  ask ((0 : Int) ≤ n3 ∧ n3 < (↑x0n : Int)) (ld H16 (Addr.add a18 (Int.toNat n3 * 1)) (fun v19 =>
  dInt IntKind.i64 v19 (fun n20 =>
  gB (plainFn Tryz.prog x1g) (HCalls Tryz.prog x1g (argsOf x1f [Value.int IntKind.i64 n20] x1c) H16 (Sp.retK (fun v21 H22 =>
  dBl v21 (fun b23 =>
  sB b23 (R (Ending.returned (Value.int IntKind.i64 n3)) H22) (wr IntKind.i64 (n3 + 1) (fun n24 =>
  (I1 ([Value.int IntKind.i64 n24]) H22) ∧
  (I2 [Value.int IntKind.i64 n24] H22) < (I2 [Value.int IntKind.i64 n3] H16))))) (pnR R)))))))) (R (Ending.returned (Value.int IntKind.i64 (-1))) H16)
theorem F148_eq (x0a : Option Addr) (x0n : Nat) (x0c : Nat) (x1g : Nat) (x1f : Array Value) (x1c : Array Value) (R : Ending → Heap → Prop) (H : Heap) : F148 x0a x0n x0c x1g x1f x1c R H = vc Tryz.prog (codeOf Tryz.f148) (.node none .leaf (.node none (.node none .leaf (.node none (.node (some ⟨[(8, 3)], [4, 5, 9, 10, 11, 12, 13, 14, 15, 16, 17, 18]⟩) .leaf .leaf) .leaf)) .leaf)) (postV Tryz.prog Tryz.f148 R) ⟨#[Value.slice x0a x0n x0c, Value.func (Fn.func x1g) x1f x1c] ++ Array.replicate (Tryz.f148.ntmps - 2) undef, []⟩ H := by kernel_rfl
theorem F148_calls {R : Ending → Heap → Prop} {H : Heap} (x0a : Option Addr) (x0n : Nat) (x0c : Nat) (x1g : Nat) (x1f : Array Value) (x1c : Array Value) (h : F148 x0a x0n x0c x1g x1f x1c R H) : HCalls Tryz.prog 148 #[Value.slice x0a x0n x0c, Value.func (Fn.func x1g) x1f x1c] H R :=
  calls_by (F := F148 x0a x0n x0c x1g x1f x1c R H) (.node none .leaf (.node none (.node none .leaf (.node none (.node (some ⟨[(8, 3)], [4, 5, 9, 10, 11, 12, 13, 14, 15, 16, 17, 18]⟩) .leaf .leaf) .leaf)) .leaf)) Tryz.func148 rfl (F148_eq x0a x0n x0c x1g x1f x1c R H) h
/-- slices.IndexFunc[[]bollard/api.Sent,bollard/api.Sent] -/
def F149 (x0a : Option Addr) (x0n : Nat) (x0c : Nat) (x1g : Nat) (x1f : Array Value) (x1c : Array Value) (R : Ending → Heap → Prop) (H : Heap) : Prop :=
  ∃ I1 : List Value → Heap → Prop,
  ∃ I2 : List Value → Heap → Nat,
  (I1 ([Value.int IntKind.i64 0]) H) ∧
  ∀ n3 : Int,
  ∀ v4 v5 v6 v7 v8 v9 v10 v11 v12 v13 v14 v15 : Value,
  ∀ H16 : Heap,
  (I1 ([Value.int IntKind.i64 n3]) H16) →
  sB (decide (n3 < (↑x0n : Int))) (nz x0a (fun a18 =>
  ask ((0 : Int) ≤ n3 ∧ n3 < (↑x0n : Int)) (ld H16 (Addr.add a18 (Int.toNat n3 * 3)) (fun v19 =>
  ld H16 (Addr.add (Addr.add a18 (Int.toNat n3 * 3)) 1) (fun v20 =>
  ld H16 (Addr.add (Addr.add a18 (Int.toNat n3 * 3)) 2) (fun v21 =>
  gB (plainFn Tryz.prog x1g) (HCalls Tryz.prog x1g (argsOf x1f [Value.agg #[v19, v20, v21]] x1c) H16 (Sp.retK (fun v22 H23 =>
  dBl v22 (fun b24 =>
  sB b24 (R (Ending.returned (Value.int IntKind.i64 n3)) H23) (wr IntKind.i64 (n3 + 1) (fun n25 =>
  (I1 ([Value.int IntKind.i64 n25]) H23) ∧
  (I2 [Value.int IntKind.i64 n25] H23) < (I2 [Value.int IntKind.i64 n3] H16))))) (pnR R))))))))) (R (Ending.returned (Value.int IntKind.i64 (-1))) H16)
theorem F149_eq (x0a : Option Addr) (x0n : Nat) (x0c : Nat) (x1g : Nat) (x1f : Array Value) (x1c : Array Value) (R : Ending → Heap → Prop) (H : Heap) : F149 x0a x0n x0c x1g x1f x1c R H = vc Tryz.prog (codeOf Tryz.f149) (.node none .leaf (.node none (.node none .leaf (.node none (.node (some ⟨[(8, 3)], [4, 5, 9, 10, 11, 12, 13, 14, 15, 16, 17, 18]⟩) .leaf .leaf) .leaf)) .leaf)) (postV Tryz.prog Tryz.f149 R) ⟨#[Value.slice x0a x0n x0c, Value.func (Fn.func x1g) x1f x1c] ++ Array.replicate (Tryz.f149.ntmps - 2) undef, []⟩ H := by kernel_rfl
theorem F149_calls {R : Ending → Heap → Prop} {H : Heap} (x0a : Option Addr) (x0n : Nat) (x0c : Nat) (x1g : Nat) (x1f : Array Value) (x1c : Array Value) (h : F149 x0a x0n x0c x1g x1f x1c R H) : HCalls Tryz.prog 149 #[Value.slice x0a x0n x0c, Value.func (Fn.func x1g) x1f x1c] H R :=
  calls_by (F := F149 x0a x0n x0c x1g x1f x1c R H) (.node none .leaf (.node none (.node none .leaf (.node none (.node (some ⟨[(8, 3)], [4, 5, 9, 10, 11, 12, 13, 14, 15, 16, 17, 18]⟩) .leaf .leaf) .leaf)) .leaf)) Tryz.func149 rfl (F149_eq x0a x0n x0c x1g x1f x1c R H) h
/-- (*bollard/disk.Disk).place$1 -/
def F150 (x0_0 : Value) (x0_1 : Value) (x0_2 : Value) (f0 : Addr) (R : Ending → Heap → Prop) (H : Heap) : Prop :=
  al H (Obj.cells #[x0_0, x0_1, x0_2] 96) (fun r1 H2 =>
  ld H2 (Addr.mk r1 0 none) (fun v3 =>
  dInt IntKind.i64 v3 (fun n4 =>
  ld H2 f0 (fun v5 =>
  dInt IntKind.i64 v5 (fun n6 =>
  R (Ending.returned (Value.bool (n4 == n6))) H2)))))
theorem F150_eq (x0_0 : Value) (x0_1 : Value) (x0_2 : Value) (f0 : Addr) (R : Ending → Heap → Prop) (H : Heap) : F150 x0_0 x0_1 x0_2 f0 R H = vc Tryz.prog (codeOf Tryz.f150) .leaf (postV Tryz.prog Tryz.f150 R) ⟨#[Value.agg #[x0_0, x0_1, x0_2], Value.pointer (some f0)] ++ Array.replicate (Tryz.f150.ntmps - 2) undef, []⟩ H := by kernel_rfl
theorem F150_calls {R : Ending → Heap → Prop} {H : Heap} (x0_0 : Value) (x0_1 : Value) (x0_2 : Value) (f0 : Addr) (h : F150 x0_0 x0_1 x0_2 f0 R H) : HCalls Tryz.prog 150 #[Value.agg #[x0_0, x0_1, x0_2], Value.pointer (some f0)] H R :=
  calls_by (F := F150 x0_0 x0_1 x0_2 f0 R H) .leaf Tryz.func150 rfl (F150_eq x0_0 x0_1 x0_2 f0 R H) h
/-- bollard/disk.Of$1 -/
def F153 (x0a : Option Addr) (x0n : Nat) (x0c : Nat) (R : Ending → Heap → Prop) (H : Heap) : Prop :=
  R (Ending.returned (Value.bool ((↑x0n : Int) != 128))) H
theorem F153_eq (x0a : Option Addr) (x0n : Nat) (x0c : Nat) (R : Ending → Heap → Prop) (H : Heap) : F153 x0a x0n x0c R H = vc Tryz.prog (codeOf Tryz.f153) .leaf (postV Tryz.prog Tryz.f153 R) ⟨#[Value.slice x0a x0n x0c] ++ Array.replicate (Tryz.f153.ntmps - 1) undef, []⟩ H := by kernel_rfl
theorem F153_calls {R : Ending → Heap → Prop} {H : Heap} (x0a : Option Addr) (x0n : Nat) (x0c : Nat) (h : F153 x0a x0n x0c R H) : HCalls Tryz.prog 153 #[Value.slice x0a x0n x0c] H R :=
  calls_by (F := F153 x0a x0n x0c R H) .leaf Tryz.func153 rfl (F153_eq x0a x0n x0c R H) h
/-- slices.ContainsFunc[[][]byte,[]byte] -/
def F154 (x0a : Option Addr) (x0n : Nat) (x0c : Nat) (x1g : Nat) (x1f : Array Value) (x1c : Array Value) (R : Ending → Heap → Prop) (H : Heap) : Prop :=
  HCalls Tryz.prog 199 #[Value.slice x0a x0n x0c, Value.func (Fn.func x1g) x1f x1c] H (Sp.retK (fun v1 H2 =>
  dInt IntKind.i64 v1 (fun n3 =>
  R (Ending.returned (Value.bool (decide (n3 ≥ 0)))) H2)) (pnR R))
theorem F154_eq (x0a : Option Addr) (x0n : Nat) (x0c : Nat) (x1g : Nat) (x1f : Array Value) (x1c : Array Value) (R : Ending → Heap → Prop) (H : Heap) : F154 x0a x0n x0c x1g x1f x1c R H = vc Tryz.prog (codeOf Tryz.f154) .leaf (postV Tryz.prog Tryz.f154 R) ⟨#[Value.slice x0a x0n x0c, Value.func (Fn.func x1g) x1f x1c] ++ Array.replicate (Tryz.f154.ntmps - 2) undef, []⟩ H := by kernel_rfl
theorem F154_calls {R : Ending → Heap → Prop} {H : Heap} (x0a : Option Addr) (x0n : Nat) (x0c : Nat) (x1g : Nat) (x1f : Array Value) (x1c : Array Value) (h : F154 x0a x0n x0c x1g x1f x1c R H) : HCalls Tryz.prog 154 #[Value.slice x0a x0n x0c, Value.func (Fn.func x1g) x1f x1c] H R :=
  calls_by (F := F154 x0a x0n x0c x1g x1f x1c R H) .leaf Tryz.func154 rfl (F154_eq x0a x0n x0c x1g x1f x1c R H) h
/-- bytes.Repeat -/
def F155 (x0a : Option Addr) (x0n : Nat) (x0c : Nat) (x1 : Int) (R : Ending → Heap → Prop) (H : Heap) : Prop :=
  sB (x1 == 0) (al H (Obj.cells #[] 5) (fun r1 H2 =>
  R (Ending.returned (Value.slice (some (Addr.mk r1 0 none)) 0 0)) H2)) (jn (α := VFH 0) (fun H3 =>
  ∀ v4 v5 v6 : Value,
  wr IntKind.u64 ((↑x0n : Int)) (fun n7 =>
  wr IntKind.u64 x1 (fun n8 =>
  HCalls Tryz.prog 200 #[Value.int IntKind.u64 n7, Value.int IntKind.u64 n8] H3 (Sp.retK (fun v9 H10 =>
  dT 2 v9 (fun v11 v12 =>
  dInt IntKind.u64 v11 (fun n13 =>
  dInt IntKind.u64 v12 (fun n14 =>
  jn (α := VFH 0) (fun H15 =>
  ∀ v16 v17 v18 v19 v20 v21 v22 : Value,
  wr IntKind.i64 n14 (fun n23 =>
  sB ((↑x0n : Int) == 0) (al H15 (Obj.cells #[] 5) (fun r24 H25 =>
  R (Ending.returned (Value.slice (some (Addr.mk r24 0 none)) 0 0)) H25)) (jn (α := VFH 1) (fun v26 H27 =>
  ∀ v28 v29 v30 v31 v32 v33 v34 v35 v36 v37 v38 v39 : Value,
  dInt IntKind.i64 v26 (fun n40 =>
  semW Tryz.prog (entS 201 #[Value.int IntKind.i64 n23]) (pnR R) H27 (fun v43 H44 =>
  dSl v43 (fun p45 r46 r47 =>
  ask ((0 : Int) ≤ (0 : Int) ∧ (0 : Int) ≤ n23 ∧ n23 ≤ n23 ∧ n23 ≤ (↑r47 : Int)) (semW Tryz.prog (Builtin.copy_ #[38, 38] 3 #[Value.slice (slO p45 1 0 n23) (Int.toNat n23 - Int.toNat 0) (Int.toNat n23 - Int.toNat 0), Value.slice x0a x0n x0c]) (pnR R) H44 (fun v50 H51 =>
  dInt IntKind.i64 v50 (fun n52 =>
  ∃ I53 : List Value → Heap → Prop,
  ∃ I54 : List Value → Heap → Nat,
  (I53 ([Value.int IntKind.i64 n52]) H51) ∧
  ∀ n55 : Int,
  ∀ v56 v57 v58 v59 v60 v61 v62 v63 v64 v65 v66 v67 v68 v69 v70 v71 : Value,
  ∀ H72 : Heap,
  (I53 ([Value.int IntKind.i64 n55]) H72) →
  sB (decide (n55 < n23)) (semW Tryz.prog (Builtin.min_ #[3, 3] 3 #[Value.int IntKind.i64 n55, Value.int IntKind.i64 n40]) (pnR R) H72 (fun v76 H77 =>
  dInt IntKind.i64 v76 (fun n78 =>
  ask ((0 : Int) ≤ n55 ∧ n55 ≤ (↑(Int.toNat n23 - Int.toNat (0 : Int)) : Int) ∧ (↑(Int.toNat n23 - Int.toNat (0 : Int)) : Int) ≤ (↑(Int.toNat n23 - Int.toNat (0 : Int)) : Int) ∧ (↑(Int.toNat n23 - Int.toNat (0 : Int)) : Int) ≤ (↑(Int.toNat n23 - Int.toNat (0 : Int)) : Int)) (ask ((0 : Int) ≤ (0 : Int) ∧ (0 : Int) ≤ n78 ∧ n78 ≤ (↑(Int.toNat n23 - Int.toNat (0 : Int)) : Int) ∧ (↑(Int.toNat n23 - Int.toNat (0 : Int)) : Int) ≤ (↑(Int.toNat n23 - Int.toNat (0 : Int)) : Int)) (semW Tryz.prog (Builtin.copy_ #[38, 38] 3 #[Value.slice (slO (slO p45 1 0 n23) 1 n55 (↑(Int.toNat n23 - Int.toNat 0) : Int)) (Int.toNat (↑(Int.toNat n23 - Int.toNat 0) : Int) - Int.toNat n55) (Int.toNat (↑(Int.toNat n23 - Int.toNat 0) : Int) - Int.toNat n55), Value.slice (slO (slO p45 1 0 n23) 1 0 (↑(Int.toNat n23 - Int.toNat 0) : Int)) (Int.toNat n78 - Int.toNat 0) (Int.toNat (↑(Int.toNat n23 - Int.toNat 0) : Int) - Int.toNat 0)]) nopR H77 (fun v81 H82 =>
  dInt IntKind.i64 v81 (fun n83 =>
  wr IntKind.i64 (n55 + n83) (fun n84 =>
  (I53 ([Value.int IntKind.i64 n84]) H82) ∧
  (I54 [Value.int IntKind.i64 n84] H82) < (I54 [Value.int IntKind.i64 n55] H72))))))))) (R (Ending.returned (Value.slice (slO p45 1 0 n23) (Int.toNat n23 - Int.toNat 0) (Int.toNat n23 - Int.toNat 0))) H72)))))))) (fun k85 =>
  sB (decide (n23 > 8192)) (ask ((↑x0n : Int) ≠ (0 : Int)) (wr IntKind.i64 (Int.tdiv 8192 (↑x0n : Int)) (fun n86 =>
  wr IntKind.i64 (n86 * (↑x0n : Int)) (fun n87 =>
  sB (n87 == 0) (k85 (Value.int IntKind.i64 (↑x0n : Int)) H15) (k85 (Value.int IntKind.i64 n87) H15))))) (k85 (Value.int IntKind.i64 n23) H15))))) (fun k88 =>
  jn (α := VFH 1) (fun v89 H90 =>
  ∀ v91 v92 v93 v94 v95 : Value,
  dBl v89 (fun b96 =>
  sB b96 (R (Ending.panicked [PanicEntry.mk (Value.iface 9 (Value.string (ByteArray.mk #[UInt8.ofBitVec 98#8, UInt8.ofBitVec 121#8, UInt8.ofBitVec 116#8, UInt8.ofBitVec 101#8, UInt8.ofBitVec 115#8, UInt8.ofBitVec 58#8, UInt8.ofBitVec 32#8, UInt8.ofBitVec 82#8, UInt8.ofBitVec 101#8, UInt8.ofBitVec 112#8, UInt8.ofBitVec 101#8, UInt8.ofBitVec 97#8, UInt8.ofBitVec 116#8, UInt8.ofBitVec 32#8, UInt8.ofBitVec 111#8, UInt8.ofBitVec 117#8, UInt8.ofBitVec 116#8, UInt8.ofBitVec 112#8, UInt8.ofBitVec 117#8, UInt8.ofBitVec 116#8, UInt8.ofBitVec 32#8, UInt8.ofBitVec 108#8, UInt8.ofBitVec 101#8, UInt8.ofBitVec 110#8, UInt8.ofBitVec 103#8, UInt8.ofBitVec 116#8, UInt8.ofBitVec 104#8, UInt8.ofBitVec 32#8, UInt8.ofBitVec 111#8, UInt8.ofBitVec 118#8, UInt8.ofBitVec 101#8, UInt8.ofBitVec 114#8, UInt8.ofBitVec 102#8, UInt8.ofBitVec 108#8, UInt8.ofBitVec 111#8, UInt8.ofBitVec 119#8]))) false false]) H90) (k88 H90))) (fun k97 =>
  sB (decide (n13 > 0)) (k97 (Value.bool true) H10) (k97 (Value.bool (decide (n14 > 9223372036854775807))) H10))))))) (pnR R))))) (fun k100 =>
  sB (decide (x1 < 0)) (R (Ending.panicked [PanicEntry.mk (Value.iface 9 (Value.string (ByteArray.mk #[UInt8.ofBitVec 98#8, UInt8.ofBitVec 121#8, UInt8.ofBitVec 116#8, UInt8.ofBitVec 101#8, UInt8.ofBitVec 115#8, UInt8.ofBitVec 58#8, UInt8.ofBitVec 32#8, UInt8.ofBitVec 110#8, UInt8.ofBitVec 101#8, UInt8.ofBitVec 103#8, UInt8.ofBitVec 97#8, UInt8.ofBitVec 116#8, UInt8.ofBitVec 105#8, UInt8.ofBitVec 118#8, UInt8.ofBitVec 101#8, UInt8.ofBitVec 32#8, UInt8.ofBitVec 82#8, UInt8.ofBitVec 101#8, UInt8.ofBitVec 112#8, UInt8.ofBitVec 101#8, UInt8.ofBitVec 97#8, UInt8.ofBitVec 116#8, UInt8.ofBitVec 32#8, UInt8.ofBitVec 99#8, UInt8.ofBitVec 111#8, UInt8.ofBitVec 117#8, UInt8.ofBitVec 110#8, UInt8.ofBitVec 116#8]))) false false]) H) (k100 H)))
theorem F155_eq (x0a : Option Addr) (x0n : Nat) (x0c : Nat) (x1 : Int) (R : Ending → Heap → Prop) (H : Heap) : F155 x0a x0n x0c x1 R H = vc Tryz.prog (codeOf Tryz.f155) (.node none .leaf (.node none .leaf (.node (some ⟨[], [15, 16, 17]⟩) .leaf (.node none .leaf (.node (some ⟨[], [27, 28, 29, 30, 31, 32, 33]⟩) (.node (some ⟨[(32, 4)], [27, 28, 29, 30, 31]⟩) .leaf .leaf) (.node none .leaf (.node none .leaf (.node none .leaf (.node (some ⟨[(8, 3)], [41, 42, 43, 44, 45, 46, 47, 48, 49, 50, 51, 52]⟩) .leaf (.node none .leaf (.node none .leaf (.node none (.node none (.node (some ⟨[(10, 3)], [11, 61, 62, 63, 64, 65, 66, 67, 68, 69, 70, 71, 72, 73, 74, 75]⟩) .leaf .leaf) .leaf) .leaf)))))))))))) (postV Tryz.prog Tryz.f155 R) ⟨#[Value.slice x0a x0n x0c, Value.int IntKind.i64 x1] ++ Array.replicate (Tryz.f155.ntmps - 2) undef, []⟩ H := by kernel_rfl
theorem F155_calls {R : Ending → Heap → Prop} {H : Heap} (x0a : Option Addr) (x0n : Nat) (x0c : Nat) (x1 : Int) (h : F155 x0a x0n x0c x1 R H) : HCalls Tryz.prog 155 #[Value.slice x0a x0n x0c, Value.int IntKind.i64 x1] H R :=
  calls_by (F := F155 x0a x0n x0c x1 R H) (.node none .leaf (.node none .leaf (.node (some ⟨[], [15, 16, 17]⟩) .leaf (.node none .leaf (.node (some ⟨[], [27, 28, 29, 30, 31, 32, 33]⟩) (.node (some ⟨[(32, 4)], [27, 28, 29, 30, 31]⟩) .leaf .leaf) (.node none .leaf (.node none .leaf (.node none .leaf (.node (some ⟨[(8, 3)], [41, 42, 43, 44, 45, 46, 47, 48, 49, 50, 51, 52]⟩) .leaf (.node none .leaf (.node none .leaf (.node none (.node none (.node (some ⟨[(10, 3)], [11, 61, 62, 63, 64, 65, 66, 67, 68, 69, 70, 71, 72, 73, 74, 75]⟩) .leaf .leaf) .leaf) .leaf)))))))))))) Tryz.func155 rfl (F155_eq x0a x0n x0c x1 R H) h
end Go.Proofs.YtngploohhmfaiaaGreat.E
/- The functions' forms in the engine's words, printed by my own program. -/
namespace Go.Proofs.YtngploohhmfaiaaGreat.E
open Go Go.Proofs
set_option linter.unusedVariables false
/-- slices.Compact[[]int,int] -/
def F157 (x0a : Option Addr) (x0n : Nat) (x0c : Nat) (R : Ending → Heap → Prop) (H : Heap) : Prop :=
  sB (decide ((↑x0n : Int) < 2)) (R (Ending.returned (Value.slice x0a x0n x0c)) H) (∃ I1 : List Value → Heap → Prop,
  ∃ I2 : List Value → Heap → Nat,
  (I1 ([Value.int IntKind.i64 1]) H) ∧
  ∀ n3 : Int,
  ∀ v4 v5 v6 v7 v8 v9 v10 v11 v12 v13 v14 v15 v16 v17 v18 v19 v20 v21 v22 v23 v24 v25 v26 v27 v28 v29 v30 v31 v32 v33 v34 v35 v36 v37 v38 v39 v40 v41 v42 v43 v44 v45 v46 v47 v48 v49 v50 v51 v52 v53 v54 v55 v56 : Value,
  ∀ H57 : Heap,
  (I1 ([Value.int IntKind.i64 n3]) H57) →
  sB (decide (n3 < (↑x0n : Int))) (nz x0a (fun a59 =>
  ask ((0 : Int) ≤ n3 ∧ n3 < (↑x0n : Int)) (ld H57 (Addr.add a59 (Int.toNat n3 * 1)) (fun v60 =>
  dInt IntKind.i64 v60 (fun n61 =>
  wr IntKind.i64 (n3 - 1) (fun n62 =>
  nz x0a (fun a63 =>
  ask ((0 : Int) ≤ n62 ∧ n62 < (↑x0n : Int)) (ld H57 (Addr.add a63 (Int.toNat n62 * 1)) (fun v64 =>
  dInt IntKind.i64 v64 (fun n65 =>
  sB (n61 == n65) (ask ((0 : Int) ≤ n3 ∧ n3 ≤ (↑x0n : Int) ∧ (↑x0n : Int) ≤ (↑x0c : Int) ∧ (↑x0c : Int) ≤ (↑x0c : Int)) (∃ I66 : List Value → Heap → Prop,
  ∃ I67 : List Value → Heap → Nat,
  (I66 ([Value.int IntKind.i64 n3, Value.int IntKind.i64 1]) H57) ∧
  ∀ n68 : Int,
  ∀ n69 : Int,
  ∀ v70 v71 v72 v73 v74 v75 v76 v77 v78 v79 v80 v81 v82 v83 v84 v85 v86 v87 v88 v89 v90 v91 v92 v93 v94 : Value,
  ∀ H95 : Heap,
  (I66 ([Value.int IntKind.i64 n68, Value.int IntKind.i64 n69]) H95) →
  sB (decide (n69 < (↑(Int.toNat (↑x0n : Int) - Int.toNat n3) : Int))) (jn (α := VFH 1) (fun v97 H98 =>
  ∀ v99 v100 v101 v102 v103 v104 v105 v106 v107 v108 v109 v110 v111 v112 v113 v114 v115 v116 v117 : Value,
  dInt IntKind.i64 v97 (fun n118 =>
  wr IntKind.i64 (n69 + 1) (fun n119 =>
  (I66 ([Value.int IntKind.i64 n118, Value.int IntKind.i64 n119]) H98) ∧
  (I67 [Value.int IntKind.i64 n118, Value.int IntKind.i64 n119] H98) < (I67 [Value.int IntKind.i64 n68, Value.int IntKind.i64 n69] H95)))) (fun k120 =>
  nz (slO x0a 1 n3 (↑x0c : Int)) (fun a121 =>
  ask ((0 : Int) ≤ n69 ∧ n69 < (↑(Int.toNat (↑x0n : Int) - Int.toNat n3) : Int)) (ld H95 (Addr.add a121 (Int.toNat n69 * 1)) (fun v122 =>
  dInt IntKind.i64 v122 (fun n123 =>
  wr IntKind.i64 (n69 - 1) (fun n124 =>
  nz (slO x0a 1 n3 (↑x0c : Int)) (fun a125 =>
  ask ((0 : Int) ≤ n124 ∧ n124 < (↑(Int.toNat (↑x0n : Int) - Int.toNat n3) : Int)) (ld H95 (Addr.add a125 (Int.toNat n124 * 1)) (fun v126 =>
  dInt IntKind.i64 v126 (fun n127 =>
  sB (n123 != n127) (nz (slO x0a 1 n3 (↑x0c : Int)) (fun a128 =>
  ask ((0 : Int) ≤ n69 ∧ n69 < (↑(Int.toNat (↑x0n : Int) - Int.toNat n3) : Int)) (ld H95 (Addr.add a128 (Int.toNat n69 * 1)) (fun v129 =>
  dInt IntKind.i64 v129 (fun n130 =>
  nz x0a (fun a131 =>
  ask ((0 : Int) ≤ n68 ∧ n68 < (↑x0n : Int)) (st H95 (Addr.add a131 (Int.toNat n68 * 1)) (Value.int IntKind.i64 n130) (fun H132 =>
  wr IntKind.i64 (n68 + 1) (fun n133 =>
  k120 (Value.int IntKind.i64 n133) H132))))))))) (k120 (Value.int IntKind.i64 n68) H95)))))))))))) (ask ((0 : Int) ≤ n68 ∧ n68 ≤ (↑x0n : Int) ∧ (↑x0n : Int) ≤ (↑x0c : Int) ∧ (↑x0c : Int) ≤ (↑x0c : Int)) (semW Tryz.prog (Builtin.clear_ #[73] 0 #[Value.slice (slO x0a 1 n68 (↑x0c : Int)) (Int.toNat (↑x0n : Int) - Int.toNat n68) (Int.toNat (↑x0c : Int) - Int.toNat n68)]) (pnR R) H95 (fun v136 H137 =>
  ask ((0 : Int) ≤ (0 : Int) ∧ (0 : Int) ≤ n68 ∧ n68 ≤ (↑x0c : Int) ∧ (↑x0c : Int) ≤ (↑x0c : Int)) (R (Ending.returned (Value.slice (slO x0a 1 0 (↑x0c : Int)) (Int.toNat n68 - Int.toNat 0) (Int.toNat (↑x0c : Int) - Int.toNat 0))) H137)))))) (wr IntKind.i64 (n3 + 1) (fun n138 =>
  (I1 ([Value.int IntKind.i64 n138]) H57) ∧
  (I2 [Value.int IntKind.i64 n138] H57) < (I2 [Value.int IntKind.i64 n3] H57))))))))))))) (R (Ending.returned (Value.slice x0a x0n x0c)) H57))
theorem F157_eq (x0a : Option Addr) (x0n : Nat) (x0c : Nat) (R : Ending → Heap → Prop) (H : Heap) : F157 x0a x0n x0c R H = vc Tryz.prog (codeOf Tryz.f157) (.node none .leaf (.node none .leaf (.node none (.node none .leaf (.node none (.node (some ⟨[(3, 3)], [2, 4, 5, 10, 11, 12, 13, 14, 15, 16, 17, 18, 19, 20, 21, 22, 23, 24, 25, 26, 27, 28, 29, 30, 31, 32, 33, 34, 35, 36, 37, 38, 39, 40, 41, 42, 43, 44, 45, 46, 47, 48, 49, 50, 51, 52, 53, 54, 55, 56, 57, 58, 59]⟩) (.node none .leaf (.node none (.node none (.node none .leaf (.node none (.node none .leaf (.node none (.node none .leaf (.node none (.node (some ⟨[(3, 3), (5, 3)], [29, 30, 31, 32, 33, 34, 35, 36, 37, 38, 39, 40, 41, 42, 43, 44, 45, 46, 47, 48, 49, 50, 51, 52, 53]⟩) (.node none .leaf (.node (some ⟨[(3, 3)], [35, 36, 37, 38, 39, 40, 41, 42, 43, 44, 45, 46, 47, 48, 49, 50, 51, 52, 53]⟩) .leaf .leaf)) .leaf) .leaf)) .leaf)) .leaf)) .leaf) .leaf)) .leaf) .leaf)) .leaf))) (postV Tryz.prog Tryz.f157 R) ⟨#[Value.slice x0a x0n x0c] ++ Array.replicate (Tryz.f157.ntmps - 1) undef, []⟩ H := by kernel_rfl
theorem F157_calls {R : Ending → Heap → Prop} {H : Heap} (x0a : Option Addr) (x0n : Nat) (x0c : Nat) (h : F157 x0a x0n x0c R H) : HCalls Tryz.prog 157 #[Value.slice x0a x0n x0c] H R :=
  calls_by (F := F157 x0a x0n x0c R H) (.node none .leaf (.node none .leaf (.node none (.node none .leaf (.node none (.node (some ⟨[(3, 3)], [2, 4, 5, 10, 11, 12, 13, 14, 15, 16, 17, 18, 19, 20, 21, 22, 23, 24, 25, 26, 27, 28, 29, 30, 31, 32, 33, 34, 35, 36, 37, 38, 39, 40, 41, 42, 43, 44, 45, 46, 47, 48, 49, 50, 51, 52, 53, 54, 55, 56, 57, 58, 59]⟩) (.node none .leaf (.node none (.node none (.node none .leaf (.node none (.node none .leaf (.node none (.node none .leaf (.node none (.node (some ⟨[(3, 3), (5, 3)], [29, 30, 31, 32, 33, 34, 35, 36, 37, 38, 39, 40, 41, 42, 43, 44, 45, 46, 47, 48, 49, 50, 51, 52, 53]⟩) (.node none .leaf (.node (some ⟨[(3, 3)], [35, 36, 37, 38, 39, 40, 41, 42, 43, 44, 45, 46, 47, 48, 49, 50, 51, 52, 53]⟩) .leaf .leaf)) .leaf) .leaf)) .leaf)) .leaf)) .leaf) .leaf)) .leaf) .leaf)) .leaf))) Tryz.func157 rfl (F157_eq x0a x0n x0c R H) h
/-- slices.Sorted[int] -/
def F166 (x0g : Nat) (x0f : Array Value) (x0c : Array Value) (R : Ending → Heap → Prop) (H : Heap) : Prop :=
  HCalls Tryz.prog 216 #[Value.func (Fn.func x0g) x0f x0c] H (Sp.retK (fun v1 H2 =>
  dSl v1 (fun p3 r4 r5 =>
  HCalls Tryz.prog 156 #[Value.slice p3 r4 r5] H2 (Sp.retK (fun v6 H7 =>
  R (Ending.returned (Value.slice p3 r4 r5)) H7) (pnR R)))) (pnR R))
theorem F166_eq (x0g : Nat) (x0f : Array Value) (x0c : Array Value) (R : Ending → Heap → Prop) (H : Heap) : F166 x0g x0f x0c R H = vc Tryz.prog (codeOf Tryz.f166) .leaf (postV Tryz.prog Tryz.f166 R) ⟨#[Value.func (Fn.func x0g) x0f x0c] ++ Array.replicate (Tryz.f166.ntmps - 1) undef, []⟩ H := by kernel_rfl
theorem F166_calls {R : Ending → Heap → Prop} {H : Heap} (x0g : Nat) (x0f : Array Value) (x0c : Array Value) (h : F166 x0g x0f x0c R H) : HCalls Tryz.prog 166 #[Value.func (Fn.func x0g) x0f x0c] H R :=
  calls_by (F := F166 x0g x0f x0c R H) .leaf Tryz.func166 rfl (F166_eq x0g x0f x0c R H) h
/-- maps.Keys[map[int]struct{},int,struct{}] -/
def F167 (x0 : Option Nat) (R : Ending → Heap → Prop) (H : Heap) : Prop :=
  al H (Obj.cells #[Value.map x0] 189) (fun r1 H2 =>
  R (Ending.returned (Value.func (Fn.func 217) #[] #[Value.pointer (some (Addr.mk r1 0 none))])) H2)
theorem F167_eq (x0 : Option Nat) (R : Ending → Heap → Prop) (H : Heap) : F167 x0 R H = vc Tryz.prog (codeOf Tryz.f167) .leaf (postV Tryz.prog Tryz.f167 R) ⟨#[Value.map x0] ++ Array.replicate (Tryz.f167.ntmps - 1) undef, []⟩ H := by kernel_rfl
theorem F167_calls {R : Ending → Heap → Prop} {H : Heap} (x0 : Option Nat) (h : F167 x0 R H) : HCalls Tryz.prog 167 #[Value.map x0] H R :=
  calls_by (F := F167 x0 R H) .leaf Tryz.func167 rfl (F167_eq x0 R H) h
/-- (*bollard/volume.Volume).round$1 -/
def F168 (x0 : Int) (f0 : Addr) (R : Ending → Heap → Prop) (H : Heap) : Prop :=
  ld H f0 (fun v1 =>
  dSl v1 (fun p2 r3 r4 =>
  HCalls Tryz.prog 169 #[Value.slice p2 r3 r4, Value.int IntKind.i64 x0] H (Sp.retK (fun v5 H6 =>
  dBl v5 (fun b7 =>
  R (Ending.returned (Value.bool b7)) H6)) (pnR R))))
theorem F168_eq (x0 : Int) (f0 : Addr) (R : Ending → Heap → Prop) (H : Heap) : F168 x0 f0 R H = vc Tryz.prog (codeOf Tryz.f168) .leaf (postV Tryz.prog Tryz.f168 R) ⟨#[Value.int IntKind.i64 x0, Value.pointer (some f0)] ++ Array.replicate (Tryz.f168.ntmps - 2) undef, []⟩ H := by kernel_rfl
theorem F168_calls {R : Ending → Heap → Prop} {H : Heap} (x0 : Int) (f0 : Addr) (h : F168 x0 f0 R H) : HCalls Tryz.prog 168 #[Value.int IntKind.i64 x0, Value.pointer (some f0)] H R :=
  calls_by (F := F168 x0 f0 R H) .leaf Tryz.func168 rfl (F168_eq x0 f0 R H) h
/-- slices.Contains[[]int,int] -/
def F169 (x0a : Option Addr) (x0n : Nat) (x0c : Nat) (x1 : Int) (R : Ending → Heap → Prop) (H : Heap) : Prop :=
  HCalls Tryz.prog 218 #[Value.slice x0a x0n x0c, Value.int IntKind.i64 x1] H (Sp.retK (fun v1 H2 =>
  dInt IntKind.i64 v1 (fun n3 =>
  R (Ending.returned (Value.bool (decide (n3 ≥ 0)))) H2)) (pnR R))
theorem F169_eq (x0a : Option Addr) (x0n : Nat) (x0c : Nat) (x1 : Int) (R : Ending → Heap → Prop) (H : Heap) : F169 x0a x0n x0c x1 R H = vc Tryz.prog (codeOf Tryz.f169) .leaf (postV Tryz.prog Tryz.f169 R) ⟨#[Value.slice x0a x0n x0c, Value.int IntKind.i64 x1] ++ Array.replicate (Tryz.f169.ntmps - 2) undef, []⟩ H := by kernel_rfl
theorem F169_calls {R : Ending → Heap → Prop} {H : Heap} (x0a : Option Addr) (x0n : Nat) (x0c : Nat) (x1 : Int) (h : F169 x0a x0n x0c x1 R H) : HCalls Tryz.prog 169 #[Value.slice x0a x0n x0c, Value.int IntKind.i64 x1] H R :=
  calls_by (F := F169 x0a x0n x0c x1 R H) .leaf Tryz.func169 rfl (F169_eq x0a x0n x0c x1 R H) h
/-- (*bollard/patch.Set).all -/
def F170 (x0 : Option Addr) (R : Ending → Heap → Prop) (H : Heap) : Prop :=
  nz x0 (fun a1 =>
  ld H (Addr.add a1 2) (fun v2 =>
  dMap v2 (fun p3 =>
  HCalls Tryz.prog 219 #[Value.map p3] H (Sp.retK (fun v4 H5 =>
  HCalls Tryz.prog 166 #[v4] H5 (Sp.retK (fun v6 H7 =>
  dSl v6 (fun p8 r9 r10 =>
  R (Ending.returned (Value.slice p8 r9 r10)) H7)) (pnR R))) (pnR R)))))
theorem F170_eq (x0 : Option Addr) (R : Ending → Heap → Prop) (H : Heap) : F170 x0 R H = vc Tryz.prog (codeOf Tryz.f170) .leaf (postV Tryz.prog Tryz.f170 R) ⟨#[Value.pointer x0] ++ Array.replicate (Tryz.f170.ntmps - 1) undef, []⟩ H := by kernel_rfl
theorem F170_calls {R : Ending → Heap → Prop} {H : Heap} (x0 : Option Addr) (h : F170 x0 R H) : HCalls Tryz.prog 170 #[Value.pointer x0] H R :=
  calls_by (F := F170 x0 R H) .leaf Tryz.func170 rfl (F170_eq x0 R H) h
/-- (*bollard/patch.Set).Of$1 -/
def F171 (x0 : Int) (f0 : Addr) (f1 : Addr) (R : Ending → Heap → Prop) (H : Heap) : Prop :=
  ld H f0 (fun v1 =>
  dPtr v1 (fun p2 =>
  nz p2 (fun a3 =>
  ld H (Addr.add a3 2) (fun v4 =>
  dMap v4 (fun p5 =>
  ld H f1 (fun v6 =>
  dInt IntKind.i64 v6 (fun n7 =>
  semW Tryz.prog (Instr.lookup 190 (Value.map p5) (Value.int IntKind.i64 x0) false) nopR H (fun v10 H11 =>
  dA 5 v10 (fun v12 v13 v14 v15 v16 =>
  (ld H11 f1 (fun v17 =>
  dInt IntKind.i64 v17 (fun n18 =>
  (Value.int IntKind.i64 n18) = (Value.int IntKind.i64 n7)))) ∧
  dInt IntKind.i64 v13 (fun n19 =>
  R (Ending.returned (Value.bool (n19 != n7))) H11))))))))))
theorem F171_eq (x0 : Int) (f0 : Addr) (f1 : Addr) (R : Ending → Heap → Prop) (H : Heap) : F171 x0 f0 f1 R H = vc Tryz.prog (codeOf Tryz.f171) .leaf (postV Tryz.prog Tryz.f171 R) ⟨#[Value.int IntKind.i64 x0, Value.pointer (some f0), Value.pointer (some f1)] ++ Array.replicate (Tryz.f171.ntmps - 3) undef, []⟩ H := by kernel_rfl
theorem F171_calls {R : Ending → Heap → Prop} {H : Heap} (x0 : Int) (f0 : Addr) (f1 : Addr) (h : F171 x0 f0 f1 R H) : HCalls Tryz.prog 171 #[Value.int IntKind.i64 x0, Value.pointer (some f0), Value.pointer (some f1)] H R :=
  calls_by (F := F171 x0 f0 f1 R H) .leaf Tryz.func171 rfl (F171_eq x0 f0 f1 R H) h
/-- (*bollard/cache.Cache).get -/
def F188 (x0 : Option Addr) (x1 : Int) (R : Ending → Heap → Prop) (H : Heap) : Prop :=
  HCalls Tryz.prog 197 #[Value.pointer x0, Value.int IntKind.i64 x1] H (Sp.retK (fun v1 H2 =>
  dInt IntKind.i64 v1 (fun n3 =>
  sB (n3 != 0) (R (Ending.returned (Value.tuple #[Value.pointer none, Value.int IntKind.i64 n3])) H2) (nz x0 (fun a4 =>
  ld H2 (Addr.add a4 2) (fun v5 =>
  dMap v5 (fun p6 =>
  semW Tryz.prog (Instr.lookup 201 (Value.map p6) (Value.int IntKind.i64 x1) true) (pnR R) H2 (fun v9 H10 =>
  dT 2 v9 (fun v11 v12 =>
  dPtr v11 (fun p13 =>
  dBl v12 (fun b14 =>
  jn (α := VFH 1) (fun v15 H16 =>
  ∀ v17 v18 v19 v20 v21 v22 v23 v24 v25 v26 v27 v28 v29 v30 v31 v32 v33 v34 v35 v36 v37 v38 v39 v40 v41 v42 v43 v44 v45 : Value,
  dPtr v15 (fun p46 =>
  nz x0 (fun a47 =>
  ld H16 (Addr.add a47 3) (fun v48 =>
  dInt IntKind.i64 v48 (fun n49 =>
  wr IntKind.i64 (n49 + 1) (fun n50 =>
  nz x0 (fun a51 =>
  st H16 (Addr.add a51 3) (Value.int IntKind.i64 n50) (fun H52 =>
  nz x0 (fun a53 =>
  ld H52 (Addr.add a53 3) (fun v54 =>
  dInt IntKind.i64 v54 (fun n55 =>
  nz p46 (fun a56 =>
  st H52 (Addr.add a56 2) (Value.int IntKind.i64 n55) (fun H57 =>
  R (Ending.returned (Value.tuple #[Value.pointer p46, Value.int IntKind.i64 0])) H57))))))))))))) (fun k58 =>
  sB b14 (nz x0 (fun a59 =>
  ld H10 (Addr.add a59 4) (fun v60 =>
  dInt IntKind.i64 v60 (fun n61 =>
  wr IntKind.i64 (n61 + 1) (fun n62 =>
  nz x0 (fun a63 =>
  st H10 (Addr.add a63 4) (Value.int IntKind.i64 n62) (fun H64 =>
  k58 (Value.pointer p13) H64))))))) (nz x0 (fun a65 =>
  ld H10 (Addr.add a65 5) (fun v66 =>
  dInt IntKind.i64 v66 (fun n67 =>
  wr IntKind.i64 (n67 + 1) (fun n68 =>
  nz x0 (fun a69 =>
  st H10 (Addr.add a69 5) (Value.int IntKind.i64 n68) (fun H70 =>
  HCalls Tryz.prog 231 #[Value.pointer x0, Value.int IntKind.i64 x1] H70 (Sp.retK (fun v71 H72 =>
  dT 2 v71 (fun v73 v74 =>
  dPtr v73 (fun p75 =>
  dInt IntKind.i64 v74 (fun n76 =>
  sB (n76 != 0) (R (Ending.returned (Value.tuple #[Value.pointer none, Value.int IntKind.i64 n76])) H72) (k58 (Value.pointer p75) H72))))) (pnR R)))))))))))))))))))) (pnR R))
theorem F188_eq (x0 : Option Addr) (x1 : Int) (R : Ending → Heap → Prop) (H : Heap) : F188 x0 x1 R H = vc Tryz.prog (codeOf Tryz.f188) (.node none .leaf (.node none .leaf (.node none .leaf (.node (some ⟨[(7, 254)], [4, 5, 9, 10, 26, 27, 28, 29, 30, 31, 32, 33, 34, 35, 36, 37, 38, 39, 40, 41, 42, 43, 44, 45, 46, 47, 48, 49, 50]⟩) .leaf .leaf)))) (postV Tryz.prog Tryz.f188 R) ⟨#[Value.pointer x0, Value.int IntKind.i64 x1] ++ Array.replicate (Tryz.f188.ntmps - 2) undef, []⟩ H := by kernel_rfl
theorem F188_calls {R : Ending → Heap → Prop} {H : Heap} (x0 : Option Addr) (x1 : Int) (h : F188 x0 x1 R H) : HCalls Tryz.prog 188 #[Value.pointer x0, Value.int IntKind.i64 x1] H R :=
  calls_by (F := F188 x0 x1 R H) (.node none .leaf (.node none .leaf (.node none .leaf (.node (some ⟨[(7, 254)], [4, 5, 9, 10, 26, 27, 28, 29, 30, 31, 32, 33, 34, 35, 36, 37, 38, 39, 40, 41, 42, 43, 44, 45, 46, 47, 48, 49, 50]⟩) .leaf .leaf)))) Tryz.func188 rfl (F188_eq x0 x1 R H) h
end Go.Proofs.YtngploohhmfaiaaGreat.E
/- Contracts of functions. -/
namespace Go.Proofs.YtngploohhmfaiaaGreat.E
open Go Go.Proofs
set_option linter.unusedVariables false
/-- bytes.Clone -/
theorem c_clone (τ : Nat) {xa : Option Addr} {xn : Nat} (xc : Nat) {l : List UInt8} {τx : Nat} {s : TH} (hx : Sl s xa (bvs l) τx) (hn : l.length = xn) (h0 : xa = none → xn = 0) (hb : xn ≤ 1000000000) : TRet Tryz.prog 48 #[.slice xa xn xc] s fun v s' => ∃ a' c', v = .slice a' xn c' ∧ Ch [] s s' ∧ Own s' a' xn c' 5 1 (bvs l) τ ∧ (a' = none ↔ xa = none) := by
  refine F48_calls _ _ _  ?_
  unfold F48
  first | refine sB_d (fun hsB1 => ?_) (fun hsB1 => ?_) | refine sB_nd (fun hsB1 => ?_) (fun hsB1 => ?_) | refine sB_n (fun hsB1 => ?_) (fun hsB1 => ?_) | refine sB_i (fun hsB1 => ?_) (fun hsB1 => ?_)
  ·
    refine ret_t ?_
    have hxa : xa = none := by simpa using hsB1
    have hl : l = [] := List.eq_nil_of_length_eq_zero (by have := h0 hxa; omega)
    have h0' := h0 hxa
    subst hl h0'
    exact ⟨none, 0, rfl, (Ch.refl [] s), Own.nil _ _ _ _, by simp [hxa]⟩
  ·
    refine al_t τ fun r1 s2 hr1 b_1 c_2 z_3 => ?_
    have x_4 := hx.mv c_2 (tagn (by simp))
    refine app_i u38 in5 rfl (b_1.own0 1) x_4 (by rw [bvs_len]; omega) (bvs_one l) h0 (by unfold maxLen; omega) fun s6 a1 c1 o_7 c_50 hnil => ?_
    have c_5 := c_50.toL rfl
    have z_6 := c_5.size
    refine dSl_i ?_
    refine ret_t ?_
    have hxa : xa ≠ none := by intro h; simp [h] at hsB1
    rw [Nat.zero_add, List.nil_append] at o_7
    simp only [Nat.zero_add]
    exact ⟨a1, c1, rfl, (((Ch.refl [] s).ch c_2 (by simp)).chl c_5 (by simp) (by simp <;> omega)), o_7, by simp [hxa, hnil.1]⟩
/-- math/bits.Mul64 -/
theorem c_mul64 {s : TH} : TRet Tryz.prog 235 #[.int .u64 1, .int .u64 128] s fun v s' => v = .tuple #[.int .u64 0, .int .u64 128] ∧ Ch [] s s' := by
  refine F235_calls _ _  ?_
  unfold F235
  refine nm_a fun n1 hn1 => ?_
  refine ask_t (by decide) ?_
  refine nm_a fun n2 hn2 => ?_
  refine nm_a fun n3 hn3 => ?_
  refine ask_t (by decide) ?_
  refine nm_a fun n4 hn4 => ?_
  refine wr_a fun n5 hn5 => ?_
  refine wr_a fun n6 hn6 => ?_
  refine ask_t (by decide) ?_
  refine nm_a fun n7 hn7 => ?_
  refine wr_a fun n8 hn8 => ?_
  refine nm_a fun n9 hn9 => ?_
  refine ask_t (by decide) ?_
  refine nm_a fun n10 hn10 => ?_
  refine wr_a fun n11 hn11 => ?_
  refine wr_a fun n12 hn12 => ?_
  refine wr_a fun n13 hn13 => ?_
  refine wr_a fun n14 hn14 => ?_
  refine ask_t (by decide) ?_
  refine nm_a fun n15 hn15 => ?_
  refine wr_a fun n16 hn16 => ?_
  refine wr_a fun n17 hn17 => ?_
  refine ret_t ?_
  exact ⟨by subst_vars; rfl, (Ch.refl [] s)⟩
/-- math/bits.Mul -/
theorem c_mul {s : TH} : TRet Tryz.prog 200 #[.int .u64 1, .int .u64 128] s fun v s' => v = .tuple #[.int .u64 0, .int .u64 128] ∧ Ch [] s s' := by
  refine F200_calls _ _  ?_
  unfold F200
  refine tcall (c_mul64) ?_
  rintro _ s2 ⟨rfl, c_1⟩
  have z_2 := c_1.size
  refine dT2 ?_
  refine dInt_i ?_
  refine dInt_i ?_
  refine ret_t ?_
  exact ⟨rfl, ((Ch.refl [] s).ch c_1 (by simp))⟩
/-- bytes.Repeat -/
theorem c_rep (τ : Nat) {ad : Addr} {b : UInt8} {τx : Nat} {s : TH} (hx : Sl s (some ad) (bvs [b]) τx) : TRet Tryz.prog 155 #[.slice (some ad) 1 1, .int .i64 128] s fun v s' => ∃ r, v = .slice (some ⟨r, 0, none⟩) 128 128 ∧ Ch [] s s' ∧ Sl s' (some ⟨r, 0, none⟩) (bvs (List.replicate 128 b)) τ := by
  refine F155_calls _ _ _ _  ?_
  unfold F155
  refine sB_f (by rfl) ?_
  refine jn_u ?_
  refine sB_f (by decide) ?_
  intro _ _ _
  refine wr_a fun n7 hn7 => ?_
  obtain rfl : n7 = 1 := by subst hn7; rfl
  refine wr_a fun n8 hn8 => ?_
  obtain rfl : n8 = 128 := by subst hn8; rfl
  refine tcall (c_mul) ?_
  rintro _ s10 ⟨rfl, c_1⟩
  have z_2 := c_1.size
  refine dT2 ?_
  refine dInt_i ?_
  refine dInt_i ?_
  refine jn_u ?_
  refine jn_u ?_
  refine sB_f (by decide) ?_
  intro _ _ _ _ _
  refine dBl_i ?_
  refine sB_f (by decide) ?_
  intro _ _ _ _ _ _ _
  refine wr_a fun n23 hn23 => ?_
  obtain ⟨N, hN, rfl⟩ : ∃ N : Nat, N = 128 ∧ n23 = (N : Int) := ⟨128, rfl, by subst hn23; rfl⟩
  refine sB_f (by decide) ?_
  refine jn_u ?_
  refine sB_d (fun hsB6 => by exfalso; omega) (fun hsB6 => ?_)
  intro _ _ _ _ _ _ _ _ _ _ _ _
  refine dInt_i ?_
  refine mnz_t τ (ps := #[3]) N (Tryz.func201) (by kernel_rfl) (by kernel_rfl) (by kernel_rfl) (by kernel_rfl) u38 (by omega) fun s44 rr L0 hrr rr_5 c_3 hL0 => ?_
  have z_4 := c_3.size
  refine dSl_i ?_
  refine ask_t (by omega) ?_
  simp only [slO_zero, Int.toNat_natCast, Int.toNat_zero, Nat.sub_zero]
  have x_6 := hx.mv c_1 (tagn (by simp))
  have x_7 := x_6.mv c_3 (tagn (by simp))
  refine copy_t u38 in5 rr_5 x_7 rfl (bvs_one _) (fun h => by cases h) (by simp; omega) fun s51 rr_10 c_8 hsz => ?_
  have z_9 := c_8.size
  refine dInt_i ?_
  refine ⟨fun vs H' => ∃ s' : TH, s'.h = H' ∧ ∃ m, vs = [.int .i64 m] ∧ ChL [] [rr] s51 s' ∧ (∃ (k : Nat) (L : List Value), m = k ∧ 1 ≤ k ∧ k ≤ N ∧ N ≤ L.length ∧ Blk s' rr L 5 τ ∧ L.take k = List.replicate k (bv b)), fun vs H' => match vs with | [.int .i64 m] => (N - m).toNat | _ => 0, ⟨s51, rfl, _, rfl, ChL.refl _ _ _, ?_⟩, ?_⟩
  ·
    have hm : min 1 N = 1 := by omega
    refine ⟨min 1 N, _, rfl, by omega, by omega, ?_, rr_10, ?_⟩
    · simp [hm, bvs]; omega
    · simp [hm, bvs]
  ·
    intro m _ _ _ _ _ _ _ _ _ _ _ _ _ _ _ _ H72 hI
    obtain ⟨s72, rfl, m_, hvs, c_11, k, L, rfl, hk1, hk2, hL, rr_13, hLk⟩ := hI
    cases hvs
    have z_12 := c_11.size
    refine sB_d (fun hsB7 => ?_) (fun hsB7 => ?_)
    ·
      refine min_i ?_
      refine dInt_i ?_
      refine ask_t (by omega) ?_
      refine ask_t (by omega) ?_
      have hmin : (min (k : Int) (N : Int)).toNat = k := by omega
      simp only [hmin]
      have hsl : Sl s72 (some ⟨rr, 0, none⟩) (L.take k) τ := Sl.of rr_13 (by rw [List.drop_zero, List.length_take]; congr 1; omega)
      rw [show slO (some ⟨rr, 0, none⟩ : Option Addr) 1 (k : Int) (N : Int) = some ⟨rr, k, none⟩ from by rw [slA_mk, if_neg (by omega)]; simp]
      refine copy_t u38 in5 rr_13 hsl (by rw [List.length_take]; omega) (by rw [hLk]; intro u hu; rw [List.eq_of_mem_replicate hu]; rfl) (fun h => by cases h) (by omega) fun s82 rr_16 c_14 hsz => ?_
      have z_15 := c_14.size
      refine dInt_i ?_
      refine wr_t (by omega) ?_
      refine ⟨⟨s82, rfl, _, rfl, (((ChL.refl [] [rr] s51).chl c_11 (by simp) (by simp <;> omega)).on c_14 (by simp)), ?_⟩, ?_⟩
      ·
        refine ⟨k + min k (N - k), _, by omega, by omega, by omega, ?_, rr_16, ?_⟩
        · simp; omega
        · exact rep_grow hLk (by omega) _
      ·
        simp <;> omega
    ·
      refine ret_t ?_
      have hkN : k = N := by omega
      subst hkN hN
      exact ⟨rr, rfl, (((((Ch.refl [] s).ch c_1 (by simp)).ch c_3 (by simp)).on_new c_8 (by omega)).chl c_11 (by simp) (by simp <;> omega)), Sl.of rr_13 (by simpa [bvs] using hLk)⟩
end Go.Proofs.YtngploohhmfaiaaGreat.E
