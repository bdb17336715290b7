/- My own texts, joined. -/
import Derived.Deep.QuietTactic
import Derived.KernelRfl
import Derived.Maps.Own
import Derived.Shelf.SlIterI.Nil
import Derived.Shelf.SlLaysF
import Derived.Shelf.SlSortCmp.NoneTotal
import Derived.Test.YtdlelcpkelginaaGreatProg
import Derived.WalkKit
import Derived.Test.YtdlelcpkelginaaGreatCK4
/- The functions' forms in the engine's words, printed by my own program. -/
namespace Go.Proofs.YtdlelcpkelginaaGreat.E
open Go Go.Proofs
set_option linter.unusedVariables false
/-- (*bollard/cache.Cache).Get -/
def F170 (x0 : Option Addr) (x1 : Int) (R : Ending → Heap → Prop) (H : Heap) : Prop :=
  HCalls Tryz.prog 278 #[Value.pointer x0, Value.int IntKind.i64 x1] H (Sp.retK (fun v1 H2 =>
  dT 2 v1 (fun v3 v4 =>
  dPtr v3 (fun p5 =>
  dInt IntKind.i64 v4 (fun n6 =>
  sB (n6 != 0) (R (Ending.returned (Value.tuple #[Value.slice none 0 0, Value.int IntKind.i64 n6])) H2) (nz p5 (fun a7 =>
  ld H2 a7 (fun v8 =>
  dSl v8 (fun p9 r10 r11 =>
  HCalls Tryz.prog 21 #[Value.slice p9 r10 r11] H2 (Sp.retK (fun v12 H13 =>
  dSl v12 (fun p14 r15 r16 =>
  R (Ending.returned (Value.tuple #[Value.slice p14 r15 r16, Value.int IntKind.i64 0])) H13)) (pnR R)))))))))) (pnR R))
theorem F170_eq (x0 : Option Addr) (x1 : Int) (R : Ending → Heap → Prop) (H : Heap) : F170 x0 x1 R H = vc Tryz.prog (codeOf Tryz.f170) .leaf (postV Tryz.prog Tryz.f170 R) ⟨#[Value.pointer x0, Value.int IntKind.i64 x1] ++ Array.replicate (Tryz.f170.ntmps - 2) undef, []⟩ H := by kernel_rfl
theorem F170_calls {R : Ending → Heap → Prop} {H : Heap} (x0 : Option Addr) (x1 : Int) (h : F170 x0 x1 R H) : HCalls Tryz.prog 170 #[Value.pointer x0, Value.int IntKind.i64 x1] H R :=
  calls_by (F := F170 x0 x1 R H) .leaf Tryz.func170 rfl (F170_eq x0 x1 R H) h
/-- (*bollard/patch.Set).Now -/
def F171 (x0 : Option Addr) (x1 : Int) (x2a : Option Addr) (x2n : Nat) (x2c : Nat) (R : Ending → Heap → Prop) (H : Heap) : Prop :=
  HCalls Tryz.prog 172 #[Value.pointer x0] H (Sp.retK (fun v1 H2 =>
  dBl v1 (fun b3 =>
  sB (!b3) (R (Ending.returned (Value.tuple #[Value.slice none 0 0, Value.int IntKind.i64 2])) H2) (sB ((↑x2n : Int) != 128) (R (Ending.returned (Value.tuple #[Value.slice none 0 0, Value.int IntKind.i64 1])) H2) (HCalls Tryz.prog 199 #[Value.pointer x0, Value.int IntKind.i64 x1] H2 (Sp.retK (fun v4 H5 =>
  dSl v4 (fun p6 r7 r8 =>
  HCalls Tryz.prog 279 #[Value.pointer x0, Value.slice x2a x2n x2c, Value.slice p6 r7 r8] H5 (Sp.retK (fun v9 H10 =>
  dSl v9 (fun p11 r12 r13 =>
  R (Ending.returned (Value.tuple #[Value.slice p11 r12 r13, Value.int IntKind.i64 0])) H10)) (pnR R)))) (pnR R)))))) (pnR R))
theorem F171_eq (x0 : Option Addr) (x1 : Int) (x2a : Option Addr) (x2n : Nat) (x2c : Nat) (R : Ending → Heap → Prop) (H : Heap) : F171 x0 x1 x2a x2n x2c R H = vc Tryz.prog (codeOf Tryz.f171) .leaf (postV Tryz.prog Tryz.f171 R) ⟨#[Value.pointer x0, Value.int IntKind.i64 x1, Value.slice x2a x2n x2c] ++ Array.replicate (Tryz.f171.ntmps - 3) undef, []⟩ H := by kernel_rfl
theorem F171_calls {R : Ending → Heap → Prop} {H : Heap} (x0 : Option Addr) (x1 : Int) (x2a : Option Addr) (x2n : Nat) (x2c : Nat) (h : F171 x0 x1 x2a x2n x2c R H) : HCalls Tryz.prog 171 #[Value.pointer x0, Value.int IntKind.i64 x1, Value.slice x2a x2n x2c] H R :=
  calls_by (F := F171 x0 x1 x2a x2n x2c R H) .leaf Tryz.func171 rfl (F171_eq x0 x1 x2a x2n x2c R H) h
/-- (*bollard/patch.Set).own -/
def F172 (x0 : Option Addr) (R : Ending → Heap → Prop) (H : Heap) : Prop :=
  sB (!Option.isNone x0) (nz x0 (fun a1 =>
  ld H (Addr.add a1 3) (fun v2 =>
  dBl v2 (fun b3 =>
  R (Ending.returned (Value.bool b3)) H)))) (R (Ending.returned (Value.bool false)) H)
theorem F172_eq (x0 : Option Addr) (R : Ending → Heap → Prop) (H : Heap) : F172 x0 R H = vc Tryz.prog (codeOf Tryz.f172) .leaf (postV Tryz.prog Tryz.f172 R) ⟨#[Value.pointer x0] ++ Array.replicate (Tryz.f172.ntmps - 1) undef, []⟩ H := by kernel_rfl
theorem F172_calls {R : Ending → Heap → Prop} {H : Heap} (x0 : Option Addr) (h : F172 x0 R H) : HCalls Tryz.prog 172 #[Value.pointer x0] H R :=
  calls_by (F := F172 x0 R H) .leaf Tryz.func172 rfl (F172_eq x0 R H) h
/-- slices.Clone[[]byte,byte] -/
def F177 (x0a : Option Addr) (x0n : Nat) (x0c : Nat) (R : Ending → Heap → Prop) (H : Heap) : Prop :=
  sB (Option.isNone x0a) (R (Ending.returned (Value.slice none 0 0)) H) (al H (Obj.cells #[] 5) (fun r1 H2 =>
  semW Tryz.prog (Builtin.append_ #[46, 46] 46 #[Value.slice (some (Addr.mk r1 0 none)) 0 0, Value.slice x0a x0n x0c]) (pnR R) H2 (fun v5 H6 =>
  dSl v5 (fun p7 r8 r9 =>
  R (Ending.returned (Value.slice p7 r8 r9)) H6))))
theorem F177_eq (x0a : Option Addr) (x0n : Nat) (x0c : Nat) (R : Ending → Heap → Prop) (H : Heap) : F177 x0a x0n x0c R H = vc Tryz.prog (codeOf Tryz.f177) .leaf (postV Tryz.prog Tryz.f177 R) ⟨#[Value.slice x0a x0n x0c] ++ Array.replicate (Tryz.f177.ntmps - 1) undef, []⟩ H := by kernel_rfl
theorem F177_calls {R : Ending → Heap → Prop} {H : Heap} (x0a : Option Addr) (x0n : Nat) (x0c : Nat) (h : F177 x0a x0n x0c R H) : HCalls Tryz.prog 177 #[Value.slice x0a x0n x0c] H R :=
  calls_by (F := F177 x0a x0n x0c R H) .leaf Tryz.func177 rfl (F177_eq x0a x0n x0c R H) h
/-- (*bollard/volume.Volume).Old -/
def F180 (x0 : Option Addr) (x1 : Int) (R : Ending → Heap → Prop) (H : Heap) : Prop :=
  HCalls Tryz.prog 68 #[Value.pointer x0] H (Sp.retK (fun v1 H2 =>
  dBl v1 (fun b3 =>
  sB (!b3) (R (Ending.returned (Value.tuple #[Value.slice none 0 0, Value.int IntKind.i64 2])) H2) (nz x0 (fun a4 =>
  jn (α := VFH 1) (fun v5 H6 =>
  ∀ v7 v8 v9 v10 v11 v12 v13 v14 v15 v16 v17 v18 : Value,
  dBl v5 (fun b19 =>
  sB b19 (HCallsD Tryz.prog 69 #[Value.pointer (some a4)] FrameMode.returning H6 (fun e20 u21 H22 =>
  match e20 with
| Ending.returned v => leavesV Tryz.prog Tryz.f180 (Act.tmps (Act.mk #[Value.pointer x0, Value.int IntKind.i64 x1, undef, undef, Value.slice none 0 0, Value.int IntKind.i64 3, undef, undef, Value.pointer x0, Value.bool b3, Value.bool !b3, Value.pointer x0, Value.pointer (some a4), Value.pointer (some a4), v7, v8, v9, v10, v11, v12, v13, v14, v15, v16, v17, v18, Value.bool b19, undef, undef, undef, undef, undef, undef, undef, undef, undef, undef, undef, undef, undef, undef, undef, undef, undef, undef] [Deferred.mk (Target.fn (Fn.func 69) #[]) #[Value.pointer (some a4)]])) R [] (settle u21) H22
| Ending.panicked c => leavesV Tryz.prog Tryz.f180 (Act.tmps (Act.mk #[Value.pointer x0, Value.int IntKind.i64 x1, undef, undef, Value.slice none 0 0, Value.int IntKind.i64 3, undef, undef, Value.pointer x0, Value.bool b3, Value.bool !b3, Value.pointer x0, Value.pointer (some a4), Value.pointer (some a4), v7, v8, v9, v10, v11, v12, v13, v14, v15, v16, v17, v18, Value.bool b19, undef, undef, undef, undef, undef, undef, undef, undef, undef, undef, undef, undef, undef, undef, undef, undef, undef, undef] [Deferred.mk (Target.fn (Fn.func 69) #[]) #[Value.pointer (some a4)]])) R [] (raised u21 c) H22
| Ending.outgrown => False)) (nz x0 (fun a23 =>
  ld H6 (Addr.add (Addr.add a23 6) 3) (fun v24 =>
  dMap v24 (fun p25 =>
  semW Tryz.prog (Instr.lookup 98 (Value.map p25) (Value.int IntKind.i64 x1) true) (fun c26 H27 =>
  HCallsD Tryz.prog 69 #[Value.pointer (some a4)] (FrameMode.panicking c26) H27 (fun e28 u29 H30 =>
  match e28 with
| Ending.returned v => leavesV Tryz.prog Tryz.f180 (Act.tmps (Act.mk #[Value.pointer x0, Value.int IntKind.i64 x1, undef, undef, Value.slice none 0 0, Value.int IntKind.i64 0, undef, undef, Value.pointer x0, Value.bool b3, Value.bool !b3, Value.pointer x0, Value.pointer (some a4), Value.pointer (some a4), v7, v8, v9, v10, v11, v12, v13, v14, v15, v16, v17, v18, Value.bool b19, undef, Value.pointer x0, Value.pointer (some a23), Value.pointer (some (Addr.add a23 6)), Value.pointer (some (Addr.add (Addr.add a23 6) 3)), Value.map p25, Value.int IntKind.i64 x1, undef, undef, undef, undef, undef, undef, undef, undef, undef, undef, undef] [Deferred.mk (Target.fn (Fn.func 69) #[]) #[Value.pointer (some a4)]])) R [] (settle u29) H30
| Ending.panicked c => leavesV Tryz.prog Tryz.f180 (Act.tmps (Act.mk #[Value.pointer x0, Value.int IntKind.i64 x1, undef, undef, Value.slice none 0 0, Value.int IntKind.i64 0, undef, undef, Value.pointer x0, Value.bool b3, Value.bool !b3, Value.pointer x0, Value.pointer (some a4), Value.pointer (some a4), v7, v8, v9, v10, v11, v12, v13, v14, v15, v16, v17, v18, Value.bool b19, undef, Value.pointer x0, Value.pointer (some a23), Value.pointer (some (Addr.add a23 6)), Value.pointer (some (Addr.add (Addr.add a23 6) 3)), Value.map p25, Value.int IntKind.i64 x1, undef, undef, undef, undef, undef, undef, undef, undef, undef, undef, undef] [Deferred.mk (Target.fn (Fn.func 69) #[]) #[Value.pointer (some a4)]])) R [] (raised u29 c) H30
| Ending.outgrown => False)) H6 (fun v31 H32 =>
  dT 2 v31 (fun v33 v34 =>
  dSl v33 (fun p35 r36 r37 =>
  dBl v34 (fun b38 =>
  sB b38 (HCalls Tryz.prog 177 #[Value.slice p35 r36 r37] H32 (Sp.retK (fun v39 H40 =>
  dSl v39 (fun p41 r42 r43 =>
  HCallsD Tryz.prog 69 #[Value.pointer (some a4)] FrameMode.returning H40 (fun e44 u45 H46 =>
  match e44 with
| Ending.returned v => leavesV Tryz.prog Tryz.f180 (Act.tmps (Act.mk #[Value.pointer x0, Value.int IntKind.i64 x1, undef, undef, Value.slice p41 r42 r43, Value.int IntKind.i64 0, Value.slice p35 r36 r37, Value.bool b38, Value.pointer x0, Value.bool b3, Value.bool !b3, Value.pointer x0, Value.pointer (some a4), Value.pointer (some a4), v7, v8, v9, v10, v11, v12, v13, v14, v15, v16, v17, v18, Value.bool b19, Value.tuple #[Value.slice p35 r36 r37, Value.bool b38], Value.pointer x0, Value.pointer (some a23), Value.pointer (some (Addr.add a23 6)), Value.pointer (some (Addr.add (Addr.add a23 6) 3)), Value.map p25, Value.int IntKind.i64 x1, Value.tuple #[Value.slice p35 r36 r37, Value.bool b38], Value.slice p35 r36 r37, Value.bool b38, Value.bool b38, Value.slice p35 r36 r37, Value.slice p41 r42 r43, undef, undef, undef, undef, undef] [Deferred.mk (Target.fn (Fn.func 69) #[]) #[Value.pointer (some a4)]])) R [] (settle u45) H46
| Ending.panicked c => leavesV Tryz.prog Tryz.f180 (Act.tmps (Act.mk #[Value.pointer x0, Value.int IntKind.i64 x1, undef, undef, Value.slice p41 r42 r43, Value.int IntKind.i64 0, Value.slice p35 r36 r37, Value.bool b38, Value.pointer x0, Value.bool b3, Value.bool !b3, Value.pointer x0, Value.pointer (some a4), Value.pointer (some a4), v7, v8, v9, v10, v11, v12, v13, v14, v15, v16, v17, v18, Value.bool b19, Value.tuple #[Value.slice p35 r36 r37, Value.bool b38], Value.pointer x0, Value.pointer (some a23), Value.pointer (some (Addr.add a23 6)), Value.pointer (some (Addr.add (Addr.add a23 6) 3)), Value.map p25, Value.int IntKind.i64 x1, Value.tuple #[Value.slice p35 r36 r37, Value.bool b38], Value.slice p35 r36 r37, Value.bool b38, Value.bool b38, Value.slice p35 r36 r37, Value.slice p41 r42 r43, undef, undef, undef, undef, undef] [Deferred.mk (Target.fn (Fn.func 69) #[]) #[Value.pointer (some a4)]])) R [] (raised u45 c) H46
| Ending.outgrown => False))) (fun c47 H48 =>
  HCallsD Tryz.prog 69 #[Value.pointer (some a4)] (FrameMode.panicking c47) H48 (fun e49 u50 H51 =>
  match e49 with
| Ending.returned v => leavesV Tryz.prog Tryz.f180 (Act.tmps (Act.mk #[Value.pointer x0, Value.int IntKind.i64 x1, undef, undef, Value.slice none 0 0, Value.int IntKind.i64 0, Value.slice p35 r36 r37, Value.bool b38, Value.pointer x0, Value.bool b3, Value.bool !b3, Value.pointer x0, Value.pointer (some a4), Value.pointer (some a4), v7, v8, v9, v10, v11, v12, v13, v14, v15, v16, v17, v18, Value.bool b19, Value.tuple #[Value.slice p35 r36 r37, Value.bool b38], Value.pointer x0, Value.pointer (some a23), Value.pointer (some (Addr.add a23 6)), Value.pointer (some (Addr.add (Addr.add a23 6) 3)), Value.map p25, Value.int IntKind.i64 x1, Value.tuple #[Value.slice p35 r36 r37, Value.bool b38], Value.slice p35 r36 r37, Value.bool b38, Value.bool b38, Value.slice p35 r36 r37, undef, undef, undef, undef, undef, undef] [Deferred.mk (Target.fn (Fn.func 69) #[]) #[Value.pointer (some a4)]])) R [] (settle u50) H51
| Ending.panicked c => leavesV Tryz.prog Tryz.f180 (Act.tmps (Act.mk #[Value.pointer x0, Value.int IntKind.i64 x1, undef, undef, Value.slice none 0 0, Value.int IntKind.i64 0, Value.slice p35 r36 r37, Value.bool b38, Value.pointer x0, Value.bool b3, Value.bool !b3, Value.pointer x0, Value.pointer (some a4), Value.pointer (some a4), v7, v8, v9, v10, v11, v12, v13, v14, v15, v16, v17, v18, Value.bool b19, Value.tuple #[Value.slice p35 r36 r37, Value.bool b38], Value.pointer x0, Value.pointer (some a23), Value.pointer (some (Addr.add a23 6)), Value.pointer (some (Addr.add (Addr.add a23 6) 3)), Value.map p25, Value.int IntKind.i64 x1, Value.tuple #[Value.slice p35 r36 r37, Value.bool b38], Value.slice p35 r36 r37, Value.bool b38, Value.bool b38, Value.slice p35 r36 r37, undef, undef, undef, undef, undef, undef] [Deferred.mk (Target.fn (Fn.func 69) #[]) #[Value.pointer (some a4)]])) R [] (raised u50 c) H51
| Ending.outgrown => False)))) (HCalls Tryz.prog 71 #[Value.pointer x0, Value.int IntKind.i64 x1] H32 (Sp.retK (fun v52 H53 =>
  dT 2 v52 (fun v54 v55 =>
  dSl v54 (fun p56 r57 r58 =>
  dInt IntKind.i64 v55 (fun n59 =>
  HCallsD Tryz.prog 69 #[Value.pointer (some a4)] FrameMode.returning H53 (fun e60 u61 H62 =>
  match e60 with
| Ending.returned v => leavesV Tryz.prog Tryz.f180 (Act.tmps (Act.mk #[Value.pointer x0, Value.int IntKind.i64 x1, undef, undef, Value.slice p56 r57 r58, Value.int IntKind.i64 n59, Value.slice p35 r36 r37, Value.bool b38, Value.pointer x0, Value.bool b3, Value.bool !b3, Value.pointer x0, Value.pointer (some a4), Value.pointer (some a4), v7, v8, v9, v10, v11, v12, v13, v14, v15, v16, v17, v18, Value.bool b19, Value.tuple #[Value.slice p35 r36 r37, Value.bool b38], Value.pointer x0, Value.pointer (some a23), Value.pointer (some (Addr.add a23 6)), Value.pointer (some (Addr.add (Addr.add a23 6) 3)), Value.map p25, Value.int IntKind.i64 x1, Value.tuple #[Value.slice p35 r36 r37, Value.bool b38], Value.slice p35 r36 r37, Value.bool b38, Value.bool b38, undef, undef, Value.pointer x0, Value.int IntKind.i64 x1, Value.tuple #[Value.slice p56 r57 r58, Value.int IntKind.i64 n59], Value.slice p56 r57 r58, Value.int IntKind.i64 n59] [Deferred.mk (Target.fn (Fn.func 69) #[]) #[Value.pointer (some a4)]])) R [] (settle u61) H62
| Ending.panicked c => leavesV Tryz.prog Tryz.f180 (Act.tmps (Act.mk #[Value.pointer x0, Value.int IntKind.i64 x1, undef, undef, Value.slice p56 r57 r58, Value.int IntKind.i64 n59, Value.slice p35 r36 r37, Value.bool b38, Value.pointer x0, Value.bool b3, Value.bool !b3, Value.pointer x0, Value.pointer (some a4), Value.pointer (some a4), v7, v8, v9, v10, v11, v12, v13, v14, v15, v16, v17, v18, Value.bool b19, Value.tuple #[Value.slice p35 r36 r37, Value.bool b38], Value.pointer x0, Value.pointer (some a23), Value.pointer (some (Addr.add a23 6)), Value.pointer (some (Addr.add (Addr.add a23 6) 3)), Value.map p25, Value.int IntKind.i64 x1, Value.tuple #[Value.slice p35 r36 r37, Value.bool b38], Value.slice p35 r36 r37, Value.bool b38, Value.bool b38, undef, undef, Value.pointer x0, Value.int IntKind.i64 x1, Value.tuple #[Value.slice p56 r57 r58, Value.int IntKind.i64 n59], Value.slice p56 r57 r58, Value.int IntKind.i64 n59] [Deferred.mk (Target.fn (Fn.func 69) #[]) #[Value.pointer (some a4)]])) R [] (raised u61 c) H62
| Ending.outgrown => False))))) (fun c63 H64 =>
  HCallsD Tryz.prog 69 #[Value.pointer (some a4)] (FrameMode.panicking c63) H64 (fun e65 u66 H67 =>
  match e65 with
| Ending.returned v => leavesV Tryz.prog Tryz.f180 (Act.tmps (Act.mk #[Value.pointer x0, Value.int IntKind.i64 x1, undef, undef, Value.slice none 0 0, Value.int IntKind.i64 0, Value.slice p35 r36 r37, Value.bool b38, Value.pointer x0, Value.bool b3, Value.bool !b3, Value.pointer x0, Value.pointer (some a4), Value.pointer (some a4), v7, v8, v9, v10, v11, v12, v13, v14, v15, v16, v17, v18, Value.bool b19, Value.tuple #[Value.slice p35 r36 r37, Value.bool b38], Value.pointer x0, Value.pointer (some a23), Value.pointer (some (Addr.add a23 6)), Value.pointer (some (Addr.add (Addr.add a23 6) 3)), Value.map p25, Value.int IntKind.i64 x1, Value.tuple #[Value.slice p35 r36 r37, Value.bool b38], Value.slice p35 r36 r37, Value.bool b38, Value.bool b38, undef, undef, Value.pointer x0, Value.int IntKind.i64 x1, undef, undef, undef] [Deferred.mk (Target.fn (Fn.func 69) #[]) #[Value.pointer (some a4)]])) R [] (settle u66) H67
| Ending.panicked c => leavesV Tryz.prog Tryz.f180 (Act.tmps (Act.mk #[Value.pointer x0, Value.int IntKind.i64 x1, undef, undef, Value.slice none 0 0, Value.int IntKind.i64 0, Value.slice p35 r36 r37, Value.bool b38, Value.pointer x0, Value.bool b3, Value.bool !b3, Value.pointer x0, Value.pointer (some a4), Value.pointer (some a4), v7, v8, v9, v10, v11, v12, v13, v14, v15, v16, v17, v18, Value.bool b19, Value.tuple #[Value.slice p35 r36 r37, Value.bool b38], Value.pointer x0, Value.pointer (some a23), Value.pointer (some (Addr.add a23 6)), Value.pointer (some (Addr.add (Addr.add a23 6) 3)), Value.map p25, Value.int IntKind.i64 x1, Value.tuple #[Value.slice p35 r36 r37, Value.bool b38], Value.slice p35 r36 r37, Value.bool b38, Value.bool b38, undef, undef, Value.pointer x0, Value.int IntKind.i64 x1, undef, undef, undef] [Deferred.mk (Target.fn (Fn.func 69) #[]) #[Value.pointer (some a4)]])) R [] (raised u66 c) H67
| Ending.outgrown => False)))))))))))))) (fun k68 =>
  nz x0 (fun a69 =>
  ld H2 (Addr.add a69 6) (fun v70 =>
  dBl v70 (fun b71 =>
  sB (!b71) (k68 (Value.bool true) H2) (nz x0 (fun a72 =>
  ld H2 (Addr.add (Addr.add a72 6) 1) (fun v73 =>
  dBl v73 (fun b74 =>
  k68 (Value.bool b74) H2)))))))))))) (pnR R))
theorem F180_eq (x0 : Option Addr) (x1 : Int) (R : Ending → Heap → Prop) (H : Heap) : F180 x0 x1 R H = vc Tryz.prog (codeOf Tryz.f180) (.node none .leaf (.node none .leaf (.node none .leaf (.node none (.node (some ⟨[(26, 4)], [14, 15, 16, 17, 18, 19, 20, 21, 22, 23, 24, 25]⟩) .leaf .leaf) .leaf)))) (postV Tryz.prog Tryz.f180 R) ⟨#[Value.pointer x0, Value.int IntKind.i64 x1] ++ Array.replicate (Tryz.f180.ntmps - 2) undef, []⟩ H := by kernel_rfl
theorem F180_calls {R : Ending → Heap → Prop} {H : Heap} (x0 : Option Addr) (x1 : Int) (h : F180 x0 x1 R H) : HCalls Tryz.prog 180 #[Value.pointer x0, Value.int IntKind.i64 x1] H R :=
  calls_by (F := F180 x0 x1 R H) (.node none .leaf (.node none .leaf (.node none .leaf (.node none (.node (some ⟨[(26, 4)], [14, 15, 16, 17, 18, 19, 20, 21, 22, 23, 24, 25]⟩) .leaf .leaf) .leaf)))) Tryz.func180 rfl (F180_eq x0 x1 R H) h
/-- slices.IndexFunc[[][]byte,[]byte] -/
def F181 (x0a : Option Addr) (x0n : Nat) (x0c : Nat) (x1g : Nat) (x1f : Array Value) (x1c : Array Value) (R : Ending → Heap → Prop) (H : Heap) : Prop :=
  ∃ I1 : List Value → Heap → Prop,
  ∃ I2 : List Value → Heap → Nat,
  (I1 ([Value.int IntKind.i64 0]) H) ∧
  ∀ n3 : Int,
  ∀ v4 v5 v6 v7 v8 v9 v10 v11 v12 v13 v14 v15 : Value,
  ∀ H16 : Heap,
  (I1 ([Value.int IntKind.i64 n3]) H16) →
  sB (decide (n3 < (↑x0n : Int))) (nz x0a (fun a18 =>
  ask ((0 : Int) ≤ n3 ∧ n3 < (↑x0n : Int)) (ld H16 (Addr.add a18 (Int.toNat n3 * 1)) (fun v19 =>
  dSl v19 (fun p20 r21 r22 =>
  gB (plainFn Tryz.prog x1g) (HCalls Tryz.prog x1g (argsOf x1f [Value.slice p20 r21 r22] x1c) H16 (Sp.retK (fun v23 H24 =>
  dBl v23 (fun b25 =>
  sB b25 (R (Ending.returned (Value.int IntKind.i64 n3)) H24) (wr IntKind.i64 (n3 + 1) (fun n26 =>
  (I1 ([Value.int IntKind.i64 n26]) H24) ∧
  (I2 [Value.int IntKind.i64 n26] H24) < (I2 [Value.int IntKind.i64 n3] H16))))) (pnR R)))))))) (R (Ending.returned (Value.int IntKind.i64 (-1))) H16)
theorem F181_eq (x0a : Option Addr) (x0n : Nat) (x0c : Nat) (x1g : Nat) (x1f : Array Value) (x1c : Array Value) (R : Ending → Heap → Prop) (H : Heap) : F181 x0a x0n x0c x1g x1f x1c R H = vc Tryz.prog (codeOf Tryz.f181) (.node none .leaf (.node none (.node none .leaf (.node none (.node (some ⟨[(8, 3)], [4, 5, 9, 10, 11, 12, 13, 14, 15, 16, 17, 18]⟩) .leaf .leaf) .leaf)) .leaf)) (postV Tryz.prog Tryz.f181 R) ⟨#[Value.slice x0a x0n x0c, Value.func (Fn.func x1g) x1f x1c] ++ Array.replicate (Tryz.f181.ntmps - 2) undef, []⟩ H := by kernel_rfl
theorem F181_calls {R : Ending → Heap → Prop} {H : Heap} (x0a : Option Addr) (x0n : Nat) (x0c : Nat) (x1g : Nat) (x1f : Array Value) (x1c : Array Value) (h : F181 x0a x0n x0c x1g x1f x1c R H) : HCalls Tryz.prog 181 #[Value.slice x0a x0n x0c, Value.func (Fn.func x1g) x1f x1c] H R :=
  calls_by (F := F181 x0a x0n x0c x1g x1f x1c R H) (.node none .leaf (.node none (.node none .leaf (.node none (.node (some ⟨[(8, 3)], [4, 5, 9, 10, 11, 12, 13, 14, 15, 16, 17, 18]⟩) .leaf .leaf) .leaf)) .leaf)) Tryz.func181 rfl (F181_eq x0a x0n x0c x1g x1f x1c R H) h
/-- bollard/cache.New -/
def F182 (x0 : Option Addr) (x1 : Int) (R : Ending → Heap → Prop) (H : Heap) : Prop :=
  HCalls Tryz.prog 164 #[Value.pointer x0] H (Sp.retK (fun v1 H2 =>
  dInt IntKind.i64 v1 (fun n3 =>
  sB (n3 == 0) (R (Ending.returned (Value.tuple #[Value.pointer none, Value.int IntKind.i64 2])) H2) (jn (α := VFH 1) (fun v4 H5 =>
  ∀ v6 v7 v8 v9 v10 : Value,
  dBl v4 (fun b11 =>
  sB b11 (R (Ending.returned (Value.tuple #[Value.pointer none, Value.int IntKind.i64 1])) H5) (al H5 (Obj.map #[] 0) (fun r12 H13 =>
  al H13 (Obj.cells #[Value.pointer x0, Value.int IntKind.i64 x1, Value.map (some r12), Value.int IntKind.i64 0, Value.int IntKind.i64 0, Value.int IntKind.i64 0] 351) (fun r14 H15 =>
  R (Ending.returned (Value.tuple #[Value.pointer (some (Addr.mk r14 0 none)), Value.int IntKind.i64 0])) H15))))) (fun k16 =>
  sB (decide (x1 < 1)) (k16 (Value.bool true) H2) (k16 (Value.bool (decide (x1 > 64))) H2))))) (pnR R))
theorem F182_eq (x0 : Option Addr) (x1 : Int) (R : Ending → Heap → Prop) (H : Heap) : F182 x0 x1 R H = vc Tryz.prog (codeOf Tryz.f182) (.node none .leaf (.node none .leaf (.node none (.node (some ⟨[(14, 4)], [9, 10, 11, 12, 13]⟩) .leaf .leaf) .leaf))) (postV Tryz.prog Tryz.f182 R) ⟨#[Value.pointer x0, Value.int IntKind.i64 x1] ++ Array.replicate (Tryz.f182.ntmps - 2) undef, []⟩ H := by kernel_rfl
theorem F182_calls {R : Ending → Heap → Prop} {H : Heap} (x0 : Option Addr) (x1 : Int) (h : F182 x0 x1 R H) : HCalls Tryz.prog 182 #[Value.pointer x0, Value.int IntKind.i64 x1] H R :=
  calls_by (F := F182 x0 x1 R H) (.node none .leaf (.node none .leaf (.node none (.node (some ⟨[(14, 4)], [9, 10, 11, 12, 13]⟩) .leaf .leaf) .leaf))) Tryz.func182 rfl (F182_eq x0 x1 R H) h
/-- bollard/patch.New -/
def F183  (R : Ending → Heap → Prop) (H : Heap) : Prop :=
  al H (Obj.map #[] 0) (fun r1 H2 =>
  al H2 (Obj.map #[] 0) (fun r3 H4 =>
  al H4 (Obj.cells #[Value.int IntKind.i64 0, Value.map (some r1), Value.map (some r3), Value.bool true] 260) (fun r5 H6 =>
  R (Ending.returned (Value.pointer (some (Addr.mk r5 0 none)))) H6)))
theorem F183_eq  (R : Ending → Heap → Prop) (H : Heap) : F183  R H = vc Tryz.prog (codeOf Tryz.f183) .leaf (postV Tryz.prog Tryz.f183 R) ⟨#[] ++ Array.replicate (Tryz.f183.ntmps - 0) undef, []⟩ H := by kernel_rfl
theorem F183_calls {R : Ending → Heap → Prop} {H : Heap}  (h : F183  R H) : HCalls Tryz.prog 183 #[] H R :=
  calls_by (F := F183  R H) .leaf Tryz.func183 rfl (F183_eq  R H) h
/-- bollard/bollardref06.New -/
def F185 (x0 : Option Addr) (x1 : Int) (R : Ending → Heap → Prop) (H : Heap) : Prop :=
  sB (Option.isNone x0) (R (Ending.returned (Value.tuple #[Value.pointer none, Value.int IntKind.i64 2])) H) (jn (α := VFH 1) (fun v1 H2 =>
  ∀ v3 v4 v5 v6 v7 : Value,
  dBl v1 (fun b8 =>
  sB b8 (R (Ending.returned (Value.tuple #[Value.pointer none, Value.int IntKind.i64 1])) H2) (al H2 (Obj.cells #[Value.pointer x0, Value.int IntKind.i64 x1, Value.slice none 0 0, Value.int IntKind.i64 0, Value.int IntKind.i64 0] 354) (fun r9 H10 =>
  R (Ending.returned (Value.tuple #[Value.pointer (some (Addr.mk r9 0 none)), Value.int IntKind.i64 0])) H10)))) (fun k11 =>
  sB (decide (x1 < 1)) (k11 (Value.bool true) H) (k11 (Value.bool (decide (x1 > 64))) H)))
theorem F185_eq (x0 : Option Addr) (x1 : Int) (R : Ending → Heap → Prop) (H : Heap) : F185 x0 x1 R H = vc Tryz.prog (codeOf Tryz.f185) (.node none .leaf (.node none .leaf (.node none (.node (some ⟨[(13, 4)], [8, 9, 10, 11, 12]⟩) .leaf .leaf) .leaf))) (postV Tryz.prog Tryz.f185 R) ⟨#[Value.pointer x0, Value.int IntKind.i64 x1] ++ Array.replicate (Tryz.f185.ntmps - 2) undef, []⟩ H := by kernel_rfl
theorem F185_calls {R : Ending → Heap → Prop} {H : Heap} (x0 : Option Addr) (x1 : Int) (h : F185 x0 x1 R H) : HCalls Tryz.prog 185 #[Value.pointer x0, Value.int IntKind.i64 x1] H R :=
  calls_by (F := F185 x0 x1 R H) (.node none .leaf (.node none .leaf (.node none (.node (some ⟨[(13, 4)], [8, 9, 10, 11, 12]⟩) .leaf .leaf) .leaf))) Tryz.func185 rfl (F185_eq x0 x1 R H) h
/-- bollard/bollardref03.may -/
def F191 (x0_0 : Value) (x0_1 : Value) (x0_2 : Value) (R : Ending → Heap → Prop) (H : Heap) : Prop :=
  al H (Obj.cells #[x0_0, x0_1, x0_2] 23) (fun r1 H2 =>
  ld H2 (Addr.mk r1 0 none) (fun v3 =>
  dInt IntKind.i64 v3 (fun n4 =>
  sB (decide (n4 ≥ 1)) (ld H2 (Addr.mk r1 0 none) (fun v5 =>
  dInt IntKind.i64 v5 (fun n6 =>
  sB (decide (n6 ≤ 8)) (ld H2 (Addr.mk r1 1 none) (fun v7 =>
  dInt IntKind.i64 v7 (fun n8 =>
  sB (decide (n8 ≥ 8)) (ld H2 (Addr.mk r1 1 none) (fun v9 =>
  dInt IntKind.i64 v9 (fun n10 =>
  sB (decide (n10 ≤ 256)) (ld H2 (Addr.mk r1 2 none) (fun v11 =>
  dInt IntKind.i64 v11 (fun n12 =>
  sB (decide (n12 ≥ 4)) (ld H2 (Addr.mk r1 2 none) (fun v13 =>
  dInt IntKind.i64 v13 (fun n14 =>
  sB (decide (n14 ≤ 64)) (ld H2 (Addr.mk r1 2 none) (fun v15 =>
  dInt IntKind.i64 v15 (fun n16 =>
  ask ((4 : Int) ≠ (0 : Int)) (nm (Int.tmod n16 4) (fun n17 =>
  sB (n17 == 0) (ld H2 (Addr.mk r1 1 none) (fun v18 =>
  dInt IntKind.i64 v18 (fun n19 =>
  ld H2 (Addr.mk r1 2 none) (fun v20 =>
  dInt IntKind.i64 v20 (fun n21 =>
  ask ((4 : Int) ≠ (0 : Int)) (wr IntKind.i64 (Int.tdiv n21 4) (fun n22 =>
  wr IntKind.i64 (3 + n22) (fun n23 =>
  R (Ending.returned (Value.bool (decide (n19 ≥ n23)))) H2)))))))) (R (Ending.returned (Value.bool false)) H2)))))) (R (Ending.returned (Value.bool false)) H2)))) (R (Ending.returned (Value.bool false)) H2)))) (R (Ending.returned (Value.bool false)) H2)))) (R (Ending.returned (Value.bool false)) H2)))) (R (Ending.returned (Value.bool false)) H2)))) (R (Ending.returned (Value.bool false)) H2))))
theorem F191_eq (x0_0 : Value) (x0_1 : Value) (x0_2 : Value) (R : Ending → Heap → Prop) (H : Heap) : F191 x0_0 x0_1 x0_2 R H = vc Tryz.prog (codeOf Tryz.f191) .leaf (postV Tryz.prog Tryz.f191 R) ⟨#[Value.agg #[x0_0, x0_1, x0_2]] ++ Array.replicate (Tryz.f191.ntmps - 1) undef, []⟩ H := by kernel_rfl
theorem F191_calls {R : Ending → Heap → Prop} {H : Heap} (x0_0 : Value) (x0_1 : Value) (x0_2 : Value) (h : F191 x0_0 x0_1 x0_2 R H) : HCalls Tryz.prog 191 #[Value.agg #[x0_0, x0_1, x0_2]] H R :=
  calls_by (F := F191 x0_0 x0_1 x0_2 R H) .leaf Tryz.func191 rfl (F191_eq x0_0 x0_1 x0_2 R H) h
/-- (*bollard/patch.Set).Of -/
def F199 (x0 : Option Addr) (x1 : Int) (R : Ending → Heap → Prop) (H : Heap) : Prop :=
  al H (Obj.cells #[Value.pointer x0] 96) (fun r1 H2 =>
  al H2 (Obj.cells #[Value.int IntKind.i64 x1] 3) (fun r3 H4 =>
  ld H4 (Addr.mk r1 0 none) (fun v5 =>
  dPtr v5 (fun p6 =>
  HCalls Tryz.prog 172 #[Value.pointer p6] H4 (Sp.retK (fun v7 H8 =>
  dBl v7 (fun b9 =>
  sB (!b9) (R (Ending.returned (Value.slice none 0 0)) H8) (ld H8 (Addr.mk r1 0 none) (fun v10 =>
  dPtr v10 (fun p11 =>
  HCalls Tryz.prog 292 #[Value.pointer p11] H8 (Sp.retK (fun v12 H13 =>
  dSl v12 (fun p14 r15 r16 =>
  HCalls Tryz.prog 234 #[Value.slice p14 r15 r16, Value.func (Fn.func 293) #[] #[Value.pointer (some (Addr.mk r1 0 none)), Value.pointer (some (Addr.mk r3 0 none))]] H13 (Sp.retK (fun v17 H18 =>
  dSl v17 (fun p19 r20 r21 =>
  R (Ending.returned (Value.slice p19 r20 r21)) H18)) (pnR R)))) (pnR R))))))) (pnR R))))))
theorem F199_eq (x0 : Option Addr) (x1 : Int) (R : Ending → Heap → Prop) (H : Heap) : F199 x0 x1 R H = vc Tryz.prog (codeOf Tryz.f199) .leaf (postV Tryz.prog Tryz.f199 R) ⟨#[Value.pointer x0, Value.int IntKind.i64 x1] ++ Array.replicate (Tryz.f199.ntmps - 2) undef, []⟩ H := by kernel_rfl
theorem F199_calls {R : Ending → Heap → Prop} {H : Heap} (x0 : Option Addr) (x1 : Int) (h : F199 x0 x1 R H) : HCalls Tryz.prog 199 #[Value.pointer x0, Value.int IntKind.i64 x1] H R :=
  calls_by (F := F199 x0 x1 R H) .leaf Tryz.func199 rfl (F199_eq x0 x1 R H) h
/-- bollard/geom.split -/
def F206 (x0 : Int) (x1 : Int) (x2 : Int) (R : Ending → Heap → Prop) (H : Heap) : Prop :=
  wr IntKind.i64 (x2 - 1) (fun n1 =>
  HCalls Tryz.prog 165 #[Value.int IntKind.i64 x0, Value.int IntKind.i64 0, Value.int IntKind.i64 n1] H (Sp.retK (fun v2 H3 =>
  dBl v2 (fun b4 =>
  sB (!b4) (R (Ending.returned (Value.tuple #[Value.int IntKind.i64 0, Value.int IntKind.i64 0, Value.bool false])) H3) (ask (x1 ≠ (0 : Int)) (wr IntKind.i64 (Int.tdiv x0 x1) (fun n5 =>
  ask (x1 ≠ (0 : Int)) (nm (Int.tmod x0 x1) (fun n6 =>
  R (Ending.returned (Value.tuple #[Value.int IntKind.i64 n5, Value.int IntKind.i64 n6, Value.bool true])) H3))))))) (pnR R)))
theorem F206_eq (x0 : Int) (x1 : Int) (x2 : Int) (R : Ending → Heap → Prop) (H : Heap) : F206 x0 x1 x2 R H = vc Tryz.prog (codeOf Tryz.f206) .leaf (postV Tryz.prog Tryz.f206 R) ⟨#[Value.int IntKind.i64 x0, Value.int IntKind.i64 x1, Value.int IntKind.i64 x2] ++ Array.replicate (Tryz.f206.ntmps - 3) undef, []⟩ H := by kernel_rfl
theorem F206_calls {R : Ending → Heap → Prop} {H : Heap} (x0 : Int) (x1 : Int) (x2 : Int) (h : F206 x0 x1 x2 R H) : HCalls Tryz.prog 206 #[Value.int IntKind.i64 x0, Value.int IntKind.i64 x1, Value.int IntKind.i64 x2] H R :=
  calls_by (F := F206 x0 x1 x2 R H) .leaf Tryz.func206 rfl (F206_eq x0 x1 x2 R H) h
end Go.Proofs.YtdlelcpkelginaaGreat.E
/- Contracts of functions. -/
namespace Go.Proofs.YtdlelcpkelginaaGreat.E
open Go Go.Proofs
set_option linter.unusedVariables false
set_option linter.unusedSimpArgs false
/-- bytes.Clone -/
theorem c_clone (τ : Nat) {xa : Option Addr} {xn : Nat} (xc : Nat) {l : List UInt8} {τx : Nat} {s : TH} (hx : Sl s xa (bvs l) τx) (hn : l.length = xn) (h0 : xa = none → xn = 0) (hb : xn ≤ 1000000000) : TRet Tryz.prog 21 #[.slice xa xn xc] s fun v s' => ∃ a' c', v = .slice a' xn c' ∧ Ch [] s s' ∧ Own s' a' xn c' 5 1 (bvs l) τ ∧ (a' = none ↔ xa = none) := by
  refine F21_calls _ _ _  ?_
  unfold F21
  first | refine sB_d (fun hsB1 => ?_) (fun hsB1 => ?_) | refine sB_nd (fun hsB1 => ?_) (fun hsB1 => ?_) | refine sB_n (fun hsB1 => ?_) (fun hsB1 => ?_) | refine sB_i (fun hsB1 => ?_) (fun hsB1 => ?_)
  ·
    refine ret_t ?_
    have hxa : xa = none := by simpa using hsB1
    have hl : l = [] := List.eq_nil_of_length_eq_zero (by have := h0 hxa; omega)
    have h0' := h0 hxa
    subst hl h0'
    exact ⟨none, 0, rfl, (Ch.refl [] s), Own.nil _ _ _ _, by simp [hxa]⟩
  ·
    refine al_t τ fun r1 s2 hr1 b_1 c_2 z_3 => ?_
    have x_4 := hx.mv c_2 (tagn (by simp))
    refine app_i u46 in5 rfl (b_1.own0 1) x_4 (by rw [bvs_len]; omega) (bvs_one l) h0 (by unfold maxLen; omega) fun s6 a1 c1 o_7 c_50 hnil => ?_
    have c_5 := c_50.toL rfl
    have z_6 := c_5.size
    refine dSl_i ?_
    refine ret_t ?_
    have hxa : xa ≠ none := by intro h; simp [h] at hsB1
    rw [Nat.zero_add, List.nil_append] at o_7
    simp only [Nat.zero_add]
    exact ⟨a1, c1, rfl, (((Ch.refl [] s).ch c_2 (by simp)).chl c_5 (by simp) (by simp <;> omega)), o_7, by simp [hxa, hnil.1]⟩
-- no form: math/bits.Mul64
-- no form: math/bits.Mul
-- no form: bytes.Repeat
end Go.Proofs.YtdlelcpkelginaaGreat.E
/- Contracts of functions. -/
namespace Go.Proofs.YtdlelcpkelginaaGreat.E
open Go Go.Proofs
set_option linter.unusedVariables false
set_option linter.unusedSimpArgs false
/-- (*bollard/disk.Disk).made -/
theorem c_made (d T : Nat) (D : DiskM) (s : TH) (hT : 10 ≤ T) (hd : Disk s d T D) : TRet Tryz.prog 375 #[.pointer (some ⟨d, 0, none⟩)] s fun v s' => v = .bool true ∧ Ch [] s s' := by
  obtain ⟨pa, pc, qa, qc, hs, qs, fr, fm, hD⟩ := id hd
  have hblk := hD.blk
  have hrows := hD.rows
  have hbrel := hD.brel
  have hque := hD.que
  have hqrel := hD.qrel
  have hfails := hD.fails
  refine F375_calls _  ?_
  unfold F375
  refine sB_t (by rfl) ?_
  refine nz_i ?_
  refine ld_t hblk rfl ?_
  refine dSl_i ?_
  refine ret_t ?_
  exact ⟨ret_b (by have := hD.nb; simp; omega), (Ch.refl [] s)⟩
/-- (*bollard/disk.Disk).Blocks -/
theorem c_blocks (d T : Nat) (D : DiskM) (s : TH) (hT : 10 ≤ T) (hd : Disk s d T D) : TRet Tryz.prog 164 #[.pointer (some ⟨d, 0, none⟩)] s fun v s' => v = .int .i64 (D.blocks.length : Int) ∧ Ch [] s s' := by
  obtain ⟨pa, pc, qa, qc, hs, qs, fr, fm, hD⟩ := id hd
  have hblk := hD.blk
  have hrows := hD.rows
  have hbrel := hD.brel
  have hque := hD.que
  have hqrel := hD.qrel
  have hfails := hD.fails
  refine F164_calls _  ?_
  unfold F164
  refine sB_f (by rfl) ?_
  refine nz_i ?_
  refine ld_t hblk rfl ?_
  refine dSl_i ?_
  refine ret_t ?_
  exact ⟨rfl, (Ch.refl [] s)⟩
/-- (*bollard/disk.Disk).look -/
theorem c_look (d T : Nat) (D : DiskM) (b : Int) (s : TH) (hT : 10 ≤ T) (hd : Disk s d T D) : TRet Tryz.prog 372 #[.pointer (some ⟨d, 0, none⟩), .int .i64 b] s fun v s' => v = .int .i64 (if D.has b then 0 else 1) ∧ Ch [] s s' := by
  obtain ⟨pa, pc, qa, qc, hs, qs, fr, fm, hD⟩ := id hd
  have hblk := hD.blk
  have hrows := hD.rows
  have hbrel := hD.brel
  have hque := hD.que
  have hqrel := hD.qrel
  have hfails := hD.fails
  refine F372_calls _ _  ?_
  unfold F372
  refine tcall (c_made _ _ _ _ hT hd) ?_
  rintro _ s2 ⟨rfl, c_1⟩
  have z_2 := c_1.size
  refine dBl_i ?_
  refine sB_f (by rfl) ?_
  refine jn_u ?_
  refine sB_d (fun hsB2 => ?_) (fun hsB2 => ?_)
  ·
    intro _ _ _ _ _ _ _ _ _ _
    refine dBl_i ?_
    refine sB_t (by rfl) ?_
    refine ret_t ?_
    exact ⟨ret_i (by first | rw [if_pos (by unfold DiskM.has; omega)] | rw [if_neg (by unfold DiskM.has; omega)]), ((Ch.refl [] s).ch c_1 (by simp))⟩
  ·
    refine nz_i ?_
    have blk_3 := hblk.ch c_1 (by simp)
    refine ld_t blk_3 rfl ?_
    refine dSl_i ?_
    intro _ _ _ _ _ _ _ _ _ _
    refine dBl_i ?_
    refine sB_d (fun hsB4 => ?_) (fun hsB4 => ?_)
    ·
      refine ret_t ?_
      exact ⟨ret_i (by first | rw [if_pos (by unfold DiskM.has; omega)] | rw [if_neg (by unfold DiskM.has; omega)]), ((Ch.refl [] s).ch c_1 (by simp))⟩
    ·
      refine ret_t ?_
      exact ⟨ret_i (by first | rw [if_pos (by unfold DiskM.has; omega)] | rw [if_neg (by unfold DiskM.has; omega)]), ((Ch.refl [] s).ch c_1 (by simp))⟩
theorem BRel.snoc {s : TH} {τ : Nat} {hs : List Hd} {bs : List (List UInt8)} (h : BRel s τ hs bs) {p : Hd} {b : List UInt8} (hp : ByAt s τ p b) : BRel s τ (hs ++ [p]) (bs ++ [b]) := by
  refine ⟨by simp [h.len], fun i x y hx hy => ?_⟩
  by_cases hi : i < bs.length
  · rw [List.getElem?_append_left (by rw [h.len]; exact hi)] at hx
    rw [List.getElem?_append_left hi] at hy
    exact h.at_ i x y hx hy
  · rw [List.getElem?_append_right (by rw [h.len]; omega)] at hx
    rw [List.getElem?_append_right (by omega)] at hy
    rw [h.len] at hx
    cases hd : i - bs.length with
    | zero => rw [hd] at hx hy; simp at hx hy; subst hx hy; exact hp
    | succ k => rw [hd] at hx; simp at hx
theorem BRel.nil (s : TH) (τ : Nat) : BRel s τ [] [] := ⟨rfl, fun i p b h _ => by simp at h⟩
theorem QRel.nil (s : TH) (τ : Nat) : QRel s τ [] [] := ⟨rfl, fun i p b h _ => by simp at h⟩
-- no form: bollard/disk.New
/-- (*bollard/disk.Disk).Read -/
theorem c_dread (d T τ : Nat) (D : DiskM) (b : Int) {l : List UInt8} (s : TH) (hT : 10 ≤ T) (hd : Disk s d T D) (hb : D.has b) (hl : D.blocks[b.toNat]? = some l) (hf : D.fails b ≤ 0) : TRet Tryz.prog 385 #[.pointer (some ⟨d, 0, none⟩), .int .i64 b] s fun v s' => ∃ a c, v = .tuple #[.slice a 128 c, .int .i64 0] ∧ Ch [] s s' ∧ Own s' a 128 c 5 1 (bvs l) τ := by
  obtain ⟨pa, pc, qa, qc, hs, qs, fr, fm, hD⟩ := id hd
  have hblk := hD.blk
  have hrows := hD.rows
  have hbrel := hD.brel
  have hque := hD.que
  have hqrel := hD.qrel
  have hfails := hD.fails
  refine F385_calls _ _  ?_
  unfold F385
  refine tcall (c_look _ _ _ _ _ hT hd) ?_
  rintro _ s2 ⟨rfl, c_1⟩
  have z_2 := c_1.size
  refine dInt_i ?_
  refine sB_ne (fun hsB1 => ?_) (fun hsB1 => ?_)
  ·
    refine ret_t ?_
    exact absurd (if_pos hb) hsB1
  ·
    have hb1 := hb; unfold DiskM.has at hb1
    obtain ⟨p, hp⟩ : ∃ p, hs[b.toNat]? = some p := ⟨hs[b.toNat]'(by rw [hD.brel.len]; omega), by simp⟩
    obtain ⟨ap, rfl⟩ : ∃ ap, pa = some ap := by
      have h0 := hD.nb
      rcases hD.rows.2 with ⟨_, h2, _⟩ | ⟨g, o, L, h2, _⟩
      · omega
      · exact ⟨_, h2⟩
    refine nz_i ?_
    have blk_3 := hblk.ch c_1 (by simp)
    refine ld_t blk_3 rfl ?_
    refine dMap_i ?_
    have fails_4 := hfails.ch c_1 (by simp)
    refine look_g keyI u77 z3 fails_4 b (hD.fok b) ?_
    refine dInt_i ?_
    refine sB_d (fun hsB2 => by exfalso; omega) (fun hsB2 => ?_)
    refine nz_i ?_
    refine ld_t blk_3 rfl ?_
    refine dSl_i ?_
    refine nz_i ?_
    refine ask_t (by omega) ?_
    have rows_5 := hrows.mv c_1 (tagn (by simp))
    refine ld_sl rows_5.sl (by rw [Nat.mul_one]; exact bcell hp) ?_
    refine dSl_i ?_
    have brel_6 := hbrel.mv c_1 (tagn (by simp))
    refine tcall (c_clone τ _ (brel_6.at_ _ _ _ hp hl).sl (brel_6.at_ _ _ _ hp hl).len (fun h => by obtain ⟨y, hy⟩ := (hD.brel.at_ _ _ _ hp hl).ne; rw [h] at hy; cases hy) (by omega)) ?_
    rintro _ s36 ⟨xa2, xc2, rfl, c_7, nx_9, hxn⟩
    have z_8 := c_7.size
    refine dSl_i ?_
    refine ret_t ?_
    exact ⟨xa2, xc2, rfl, (((Ch.refl [] s).ch c_1 (by simp)).ch c_7 (by simp)), nx_9⟩
end Go.Proofs.YtdlelcpkelginaaGreat.E
/- The shelf's contracts, laid at this program, in plain words. -/
namespace Go.Proofs
open Go.Shelf
def Tryz.collectA_ren : Go.Shelf.Ren := ⟨fun | 8 => 398 | 11 => 417 | n => n, fun | 26 => 3 | 28 => 404 | 24 => 74 | 0 => 0 | 33 => 124 | 4 => 4 | n => n, fun | n => n⟩
theorem Tryz.collectA : Go.Proofs.SlLaysZI.n8 Tryz.prog Tryz.collectA_ren :=
  { mixed := by kernel_rfl,
    f8 := ⟨Tryz.f398.name, by decide, Tryz.func398.trans (congrArg some (by kernel_rfl))⟩,
    f11 := ⟨Tryz.f417.name, by decide, Tryz.func417.trans (congrArg some (by kernel_rfl))⟩,
    t0 := Tryz.underlying0,
    a0 := Tryz.isAgg0,
    z0 := Tryz.sizeOf0,
    v0 := Tryz.zeroValue0,
    t24 := Tryz.underlying74,
    a24 := Tryz.isAgg74,
    z24 := Tryz.sizeOf74,
    v24 := Tryz.zeroValue74,
    t26 := Tryz.underlying3,
    a26 := Tryz.isAgg3,
    z26 := Tryz.sizeOf3,
    v26 := Tryz.zeroValue3,
    t28 := Tryz.underlying404,
    a28 := Tryz.isAgg404,
    z28 := Tryz.sizeOf404,
    v28 := Tryz.zeroValue404,
    i26 := by kernel_rfl }
def Tryz.keysA_ren : Go.Shelf.Ren := ⟨fun | 7 => 423 | 10 => 430 | n => n, fun | 23 => 349 | 26 => 3 | 3 => 340 | 28 => 404 | 0 => 0 | 27 => 403 | 33 => 124 | 4 => 4 | n => n, fun | n => n⟩
theorem Tryz.keysA : Go.Proofs.SlLaysZI.n7 Tryz.prog Tryz.keysA_ren :=
  { mixed := by kernel_rfl,
    f7 := ⟨Tryz.f423.name, by decide, Tryz.func423.trans (congrArg some (by kernel_rfl))⟩,
    f10 := ⟨Tryz.f430.name, by decide, Tryz.func430.trans (congrArg some (by kernel_rfl))⟩,
    t0 := Tryz.underlying0,
    a0 := Tryz.isAgg0,
    z0 := Tryz.sizeOf0,
    v0 := Tryz.zeroValue0,
    t4 := Tryz.underlying4,
    a4 := Tryz.isAgg4,
    z4 := Tryz.sizeOf4,
    v4 := Tryz.zeroValue4,
    t23 := Tryz.underlying349,
    a23 := Tryz.isAgg349,
    z23 := Tryz.sizeOf349,
    v23 := Tryz.zeroValue349,
    t26 := Tryz.underlying3,
    a26 := Tryz.isAgg3,
    z26 := Tryz.sizeOf3,
    v26 := Tryz.zeroValue3,
    t27 := Tryz.underlying403,
    a27 := Tryz.isAgg403,
    z27 := Tryz.sizeOf403,
    v27 := Tryz.zeroValue403,
    t28 := Tryz.underlying404,
    a28 := Tryz.isAgg404,
    z28 := Tryz.sizeOf404,
    v28 := Tryz.zeroValue404,
    t33 := Tryz.underlying124,
    a33 := Tryz.isAgg124,
    z33 := Tryz.sizeOf124,
    v33 := Tryz.zeroValue124 }
def Tryz.keysB_ren : Go.Shelf.Ren := ⟨fun | 7 => 351 | 10 => 399 | n => n, fun | 23 => 258 | 26 => 3 | 3 => 262 | 28 => 404 | 0 => 0 | 27 => 403 | 33 => 124 | 4 => 4 | n => n, fun | n => n⟩
theorem Tryz.keysB : Go.Proofs.SlLaysZI.n7 Tryz.prog Tryz.keysB_ren :=
  { mixed := by kernel_rfl,
    f7 := ⟨Tryz.f351.name, by decide, Tryz.func351.trans (congrArg some (by kernel_rfl))⟩,
    f10 := ⟨Tryz.f399.name, by decide, Tryz.func399.trans (congrArg some (by kernel_rfl))⟩,
    t0 := Tryz.underlying0,
    a0 := Tryz.isAgg0,
    z0 := Tryz.sizeOf0,
    v0 := Tryz.zeroValue0,
    t4 := Tryz.underlying4,
    a4 := Tryz.isAgg4,
    z4 := Tryz.sizeOf4,
    v4 := Tryz.zeroValue4,
    t23 := Tryz.underlying258,
    a23 := Tryz.isAgg258,
    z23 := Tryz.sizeOf258,
    v23 := Tryz.zeroValue258,
    t26 := Tryz.underlying3,
    a26 := Tryz.isAgg3,
    z26 := Tryz.sizeOf3,
    v26 := Tryz.zeroValue3,
    t27 := Tryz.underlying403,
    a27 := Tryz.isAgg403,
    z27 := Tryz.sizeOf403,
    v27 := Tryz.zeroValue403,
    t28 := Tryz.underlying404,
    a28 := Tryz.isAgg404,
    z28 := Tryz.sizeOf404,
    v28 := Tryz.zeroValue404,
    t33 := Tryz.underlying124,
    a33 := Tryz.isAgg124,
    z33 := Tryz.sizeOf124,
    v33 := Tryz.zeroValue124 }
def Tryz.sortFA_ren : Go.Shelf.Ren := ⟨fun | 6 => 429 | 15 => 348 | 14 => 434 | 28 => 395 | 29 => 396 | 20 => 437 | 21 => 438 | 22 => 439 | 23 => 440 | 24 => 441 | 25 => 442 | 26 => 443 | 27 => 444 | 46 => 445 | 47 => 412 | 48 => 413 | 49 => 446 | 50 => 447 | 57 => 448 | n => n, fun | 22 => 74 | 24 => 3 | 25 => 457 | 3 => 3 | 39 => 30 | 0 => 0 | 53 => 90 | 55 => 443 | 4 => 4 | 46 => 435 | 45 => 434 | 50 => 75 | 5 => 5 | 9 => 9 | 66 => 449 | 70 => 185 | 76 => 458 | 77 => 200 | n => n, fun | n => n⟩
theorem Tryz.sortFA : Go.Proofs.SlLaysF.n6 Tryz.prog Tryz.sortFA_ren :=
  { mixed := by kernel_rfl,
    f6 := ⟨Tryz.f429.name, by decide, Tryz.func429.trans (congrArg some (by kernel_rfl))⟩,
    f14 := ⟨Tryz.f434.name, by decide, Tryz.func434.trans (congrArg some (by kernel_rfl))⟩,
    f15 := Tryz.func348.trans (congrArg some (by kernel_rfl)),
    f20 := ⟨Tryz.f437.name, by decide, Tryz.func437.trans (congrArg some (by kernel_rfl))⟩,
    f21 := ⟨Tryz.f438.name, by decide, Tryz.func438.trans (congrArg some (by kernel_rfl))⟩,
    f22 := ⟨Tryz.f439.name, by decide, Tryz.func439.trans (congrArg some (by kernel_rfl))⟩,
    f23 := ⟨Tryz.f440.name, by decide, Tryz.func440.trans (congrArg some (by kernel_rfl))⟩,
    f24 := ⟨Tryz.f441.name, by decide, Tryz.func441.trans (congrArg some (by kernel_rfl))⟩,
    f25 := ⟨Tryz.f442.name, by decide, Tryz.func442.trans (congrArg some (by kernel_rfl))⟩,
    f26 := ⟨Tryz.f443.name, by decide, Tryz.func443.trans (congrArg some (by kernel_rfl))⟩,
    f27 := ⟨Tryz.f444.name, by decide, Tryz.func444.trans (congrArg some (by kernel_rfl))⟩,
    f28 := Tryz.func395.trans (congrArg some (by kernel_rfl)),
    f29 := Tryz.func396.trans (congrArg some (by kernel_rfl)),
    f46 := ⟨Tryz.f445.name, by decide, Tryz.func445.trans (congrArg some (by kernel_rfl))⟩,
    f47 := Tryz.func412.trans (congrArg some (by kernel_rfl)),
    f48 := Tryz.func413.trans (congrArg some (by kernel_rfl)),
    f49 := ⟨Tryz.f446.name, by decide, Tryz.func446.trans (congrArg some (by kernel_rfl))⟩,
    f50 := ⟨Tryz.f447.name, by decide, Tryz.func447.trans (congrArg some (by kernel_rfl))⟩,
    f57 := ⟨Tryz.f448.name, by decide, Tryz.func448.trans (congrArg some (by kernel_rfl))⟩,
    t0 := Tryz.underlying0,
    a0 := Tryz.isAgg0,
    z0 := Tryz.sizeOf0,
    v0 := Tryz.zeroValue0,
    t3 := Tryz.underlying3,
    a3 := Tryz.isAgg3,
    z3 := Tryz.sizeOf3,
    v3 := Tryz.zeroValue3,
    t4 := Tryz.underlying4,
    a4 := Tryz.isAgg4,
    z4 := Tryz.sizeOf4,
    v4 := Tryz.zeroValue4,
    t5 := Tryz.underlying5,
    a5 := Tryz.isAgg5,
    z5 := Tryz.sizeOf5,
    v5 := Tryz.zeroValue5,
    t9 := Tryz.underlying9,
    a9 := Tryz.isAgg9,
    z9 := Tryz.sizeOf9,
    v9 := Tryz.zeroValue9,
    t22 := Tryz.underlying74,
    a22 := Tryz.isAgg74,
    z22 := Tryz.sizeOf74,
    v22 := Tryz.zeroValue74,
    a24 := Tryz.isAgg3,
    z24 := Tryz.sizeOf3,
    t25 := Tryz.underlying457,
    a25 := Tryz.isAgg457,
    z25 := Tryz.sizeOf457,
    v25 := Tryz.zeroValue457,
    t39 := Tryz.underlying30,
    a39 := Tryz.isAgg30,
    z39 := Tryz.sizeOf30,
    v39 := Tryz.zeroValue30,
    t45 := Tryz.underlying434,
    a45 := Tryz.isAgg434,
    z45 := Tryz.sizeOf434,
    v45 := Tryz.zeroValue434,
    t46 := Tryz.underlying435,
    a46 := Tryz.isAgg435,
    z46 := Tryz.sizeOf435,
    v46 := Tryz.zeroValue435,
    t50 := Tryz.underlying75,
    a50 := Tryz.isAgg75,
    z50 := Tryz.sizeOf75,
    v50 := Tryz.zeroValue75,
    t53 := Tryz.underlying90,
    a53 := Tryz.isAgg90,
    z53 := Tryz.sizeOf90,
    v53 := Tryz.zeroValue90,
    t55 := Tryz.underlying443,
    a55 := Tryz.isAgg443,
    z55 := Tryz.sizeOf443,
    v55 := Tryz.zeroValue443,
    t66 := Tryz.underlying449,
    a66 := Tryz.isAgg449,
    z66 := Tryz.sizeOf449,
    v66 := Tryz.zeroValue449,
    t70 := Tryz.underlying185,
    a70 := Tryz.isAgg185,
    z70 := Tryz.sizeOf185,
    v70 := Tryz.zeroValue185,
    t76 := Tryz.underlying458,
    a76 := Tryz.isAgg458,
    z76 := Tryz.sizeOf458,
    v76 := Tryz.zeroValue458,
    t77 := Tryz.underlying200,
    a77 := Tryz.isAgg200,
    z77 := Tryz.sizeOf200,
    v77 := Tryz.zeroValue200 }
end Go.Proofs
/- Contracts of functions. -/
namespace Go.Proofs.YtdlelcpkelginaaGreat.E
open Go Go.Proofs Go.RowKit Go.Maps Go.Shelf Go.Sort
set_option linter.unusedVariables false
set_option linter.unusedSimpArgs false
/-- a contract of the kit's, of a call that turns nothing old, in states with marks: all that is new has one mark -/
theorem tret_new (τ : Nat) {P : Program} {f : FuncId} {args : Array Value} {s : TH} {Q : Value → TH → Prop}
    (h : ∀ w : World, w.heap = s.h → Calls P f args w fun e w' => ∃ v, e = .returned v ∧ Go.RowKit.Below w.heap.size w w' ∧ Q v ⟨w'.heap, fun j => if j < s.h.size then s.g j else τ⟩) :
    TRet P f args s fun v s' => Q v s' ∧ Ch [] s s' := fun w hw =>
  (h w hw).mono fun e w' ⟨v, he, hb, hq⟩ => ⟨⟨v, ⟨w'.heap, fun j => if j < s.h.size then s.g j else τ⟩, he, rfl, hq, ⟨by rw [← hw]; exact hb.size, fun j hj => by simp [hj], fun j hj _ => by rw [← hw]; exact hb.block j (by rw [hw]; exact hj)⟩⟩, ⟨hb.os, hb.tape, hb.output⟩⟩
theorem own_of_row {w' : World} {B e k n : Nat} {v : Value} {xs : List Value} {τ : Nat} {g : Nat → Nat} (h : w'.ownsRow B e k v n xs) (hg : ∀ j, B ≤ j → g j = τ) : ∃ a c, v = .slice a n c ∧ Own ⟨w'.heap, g⟩ a n c e k xs τ ∧ ∀ b, a = some b → B ≤ b.block := by
  rcases h.2 with ⟨rfl, rfl⟩ | ⟨b, cap, cur, rfl, hb, hc, h1, h2, h3, h4⟩
  · exact ⟨none, 0, rfl, ⟨h.1, .inl ⟨rfl, rfl, rfl⟩⟩, fun b hb => by cases hb⟩
  · exact ⟨_, cap, rfl, ⟨h.1, .inr ⟨b, 0, cur.toList, rfl, ⟨by simpa using hc, hg b hb⟩, h1, h2, by simp [h3], by simpa using h4⟩⟩, fun b hb => by cases hb; assumption⟩
def inI64 (x : Int) : Prop := -9223372036854775808 ≤ x ∧ x ≤ 9223372036854775807
theorem wf_i64 {x : Int} (h : inI64 x) : (Lit.int .i64 x).wf = true := by
  unfold inI64 at h
  have e1 : IntKind.i64.min = -9223372036854775808 := by decide
  have e2 : IntKind.i64.max = 9223372036854775807 := by decide
  simp only [Lit.wf, e1, e2, Bool.and_eq_true, decide_eq_true_eq]
  exact h
/-- a map of numbers in the kit's words: what its values are is left open -/
theorem owns_of {P : Program} {K : TypeId} (hK : P.underlying K = some (.int .i64)) {s : TH} {r τ : Nat} {m : List (Int × Value)} (h : MapK (Value.int .i64) s r m τ) (w : World) (hw : w.heap = s.h) (hn : m.length ≤ 17592186044416) (hk : ∀ k ∈ m.map (·.1), inI64 k) :
    ∃ D0 : DataW Unit, w.ownsMap P K (fun _ => some (.nil, [])) r m.length D0 ∧ (intKeys D0).Perm (m.map (·.1)) ∧ Go.Maps.size D0 = m.length := by
  obtain ⟨es, ck, hg, he⟩ := h.get
  have hlen : es.length = m.length := by have := congrArg List.length he.key; simpa using this
  have hread : ∀ x ∈ es, ∃ k, x.key = .int .i64 k ∧ inI64 k := fun x hx => by
    have : x.key ∈ es.map (·.key) := List.mem_map.2 ⟨x, hx, rfl⟩
    rw [he.key] at this
    obtain ⟨p, hp, hpx⟩ := List.mem_map.1 this
    exact ⟨p.1, hpx.symm, hk _ (List.mem_map.2 ⟨p, hp, rfl⟩)⟩
  have hrd : ∀ (x : MapEntry) (k : Int), x.key = .int .i64 k → inI64 k → Go.WideElems.rd (H := Unit) P K (fun _ => some (.nil, [])) x = some (.int .i64 k, .nil) := fun x k hx hk => by
    obtain ⟨xk, xv, xb⟩ := x
    cases hx
    exact Go.WideElems.rd_mk (R := fun _ => some (.nil, [])) (yv := (.nil, [])) (keyOf_int_mk hK (wf_i64 hk)) rfl
  have hnd : (es.map (·.key)).Nodup := by
    rw [he.key]
    exact List.pairwise_map.2 ((List.pairwise_map.1 h.nd).imp fun {a b} hab => by simpa using hab)
  refine ⟨.map ((es.map (Go.WideElems.rg P K (fun _ => some (.nil, [])))).foldr DataW.insert []), ⟨es.toArray, ck, by rw [hw]; exact hg, ⟨by unfold maxLen; simp; omega, ⟨by simpa using he.old, by simpa using he.born, by simpa using hnd⟩, ?_⟩, by simp; omega, by simp⟩, ?_, ?_⟩
  · intro x hx
    obtain ⟨k, h1, h2⟩ := hread x (by simpa using hx)
    exact ⟨_, hrd x k h1 h2⟩
  · have hp := Go.WideShapes.sorted_perm (es.map (Go.WideElems.rg (H := Unit) P K (fun _ => some (.nil, []))))
    have hq := hp.map (fun p => Go.intOf p.1)
    refine hq.trans (List.Perm.of_eq ?_)
    rw [List.map_map]
    have e1 : es.map ((fun p : Lit × DataW Unit => Go.intOf p.1) ∘ Go.WideElems.rg P K (fun _ => some (.nil, []))) = es.map (fun x => match x.key with | .int _ k => k | _ => 0) := by
      apply List.map_congr_left
      intro x hx
      obtain ⟨k, h1, h2⟩ := hread x hx
      simp only [Function.comp, Go.WideElems.rg_of (hrd x k h1 h2), h1]
      rfl
    rw [e1]
    have e2 : es.map (fun x => match x.key with | .int _ k => k | _ => 0) = (es.map (·.key)).map (fun v => match v with | .int _ k => k | _ => 0) := by rw [List.map_map]; rfl
    rw [e2, he.key, List.map_map]
    rfl
  · show (List.foldr DataW.insert [] _).length = _
    rw [(Go.WideShapes.sorted_perm _).length_eq, List.length_map, hlen]
/-- slices.Collect over maps.Keys of a map of numbers -/
theorem c_collect (τ : Nat) (Bm r tb τb τm : Nat) {m : List (Int × Value)} {s : TH} (hB : Blk s Bm [.map (some r)] tb τb) (hm : MapK (Value.int .i64) s r m τm) (hn : m.length ≤ 17592186044416) (hk : ∀ k ∈ m.map (·.1), inI64 k) :
    TRet Tryz.prog 398 #[.func (.func 430) #[] #[.pointer (some ⟨Bm, 0, none⟩)]] s fun v s' => (∃ a c ss, v = .slice a m.length c ∧ ss.Perm (m.map (·.1)) ∧ Own s' a m.length c 3 1 (ivs ss) τ ∧ ∀ b, a = some b → s.h.size ≤ b.block) ∧ Ch [] s s' :=
  tret_new τ fun w hw => by
    have hm0 : w.cell? ⟨Bm, 0, none⟩ = some (.map (some r)) := by rw [cell_eq, hw]; exact hB.cell 0
    obtain ⟨D0, ho, hp, hsz⟩ := owns_of (P := Tryz.prog) (K := 3) (by kernel_rfl) hm w hw hn hk
    have hseq : SeqGives Fence.wide 4 Tryz.prog 430 #[.pointer (some ⟨Bm, 0, none⟩)] encZ (fun ss : List Int => ss.Perm (intKeys D0)) (Go.Maps.size D0) w :=
      AnyZI.keys_gives (ρ := Tryz.keysA_ren) { Tryz.keysA with } Fence.wide 4 trivial rfl (by omega) Bm r m.length D0 w (by rw [hw]; exact hB.lt) hm0 ho
    have h := AnyZI.collect_in (ρ := Tryz.collectA_ren) Tryz.collectA Fence.wide 6 trivial trivial rfl (by omega) 430 #[.pointer (some ⟨Bm, 0, none⟩)] trivial (enters_of Tryz.func430 (by kernel_rfl) rfl) _ (Go.Maps.size D0) (by rw [hsz]; unfold maxLen; omega) (by rw [hsz]; omega) w hseq
    refine ((callsIn_wide (n := 6)).1 h).mono ?_
    rintro e w' ⟨v, ss, rfl, hs, hrow, hv, hb⟩
    have hp2 := hs.trans hp
    have hl : ss.length = m.length := by rw [hp2.length_eq]; simp
    obtain ⟨a, c, rfl, hO, hnew⟩ := own_of_row (g := fun j => if j < s.h.size then s.g j else τ) (τ := τ) hrow (fun j hj => by rw [if_neg (by rw [← hw]; omega)])
    rw [hl] at hO ⊢
    exact ⟨_, rfl, hb, a, c, ss, rfl, hp2, hO, by rw [← hw]; exact hnew⟩
end Go.Proofs.YtdlelcpkelginaaGreat.E
/- Contracts of functions. -/
namespace Go.Proofs.YtdlelcpkelginaaGreat.E
open Go Go.Proofs Go.RowKit Go.Maps Go.Shelf Go.Sort
set_option linter.unusedVariables false
set_option linter.unusedSimpArgs false
set_option maxHeartbeats 400000 in
theorem held1 {f0 c r : Nat} {m : List (Int × Value)} {bx by_ : Nat} (x y ux uy : Int) {s : TH} {τ : Nat} (w : World) (hw : w.heap = s.h) (h0 : w.cell? ⟨f0, 0, none⟩ = some (.pointer (some ⟨c, 0, none⟩))) (h1 : w.cell? ⟨c, 2, none⟩ = some (.map (some r)))
    (hm : MapK (Value.int .i64) s r m τ) (hx : mget x m = some (.pointer (some ⟨bx, 0, none⟩))) (hy : mget y m = some (.pointer (some ⟨by_, 0, none⟩)))
    (hbx : w.cell? ⟨bx, 2, none⟩ = some (.int .i64 ux)) (hby : w.cell? ⟨by_, 2, none⟩ = some (.int .i64 uy)) (hux : 0 ≤ ux ∧ ux ≤ 9223372036854775807) (huy : 0 ≤ uy ∧ uy ≤ 9223372036854775807) :
    Calls Tryz.prog 424 #[.int .i64 x, .int .i64 y, .pointer (some ⟨f0, 0, none⟩)] w fun e w' => e = .returned (.int .i64 (ux - uy)) ∧ ∃ n, w' = w.drewN n := by
  have L1 : RowKit.Hid (∀ n, (Instr.lookup 349 (.map (some r)) (.int .i64 x) false).run Tryz.prog (w.drewN n) = .ok (.pointer (some ⟨bx, 0, none⟩)) (w.drewN n)) := fun n => by
    have := run_look keyI u349 z340 hm x false (w.drewN n) hw
    rw [hx] at this; exact this
  have L2 : RowKit.Hid (∀ n, (Instr.lookup 349 (.map (some r)) (.int .i64 y) false).run Tryz.prog (w.drewN n) = .ok (.pointer (some ⟨by_, 0, none⟩)) (w.drewN n)) := fun n => by
    have := run_look keyI u349 z340 hm y false (w.drewN n) hw
    rw [hy] at this; exact this
  have hwr : IntKind.i64.wrap (ux - uy) = ux - uy := wrap_id (by omega) (by omega)
  clear hm hx hy hw
  go_enter Tryz.func424, Tryz.ntmps424
  go_wp2
  refine wp_region_quiet_lit (by kernel_rfl) (by kernel_rfl) ?_
  iterate 5 (refine wpQuiet_step (fun K hK => ?_); go_simp; refine hK _ ?_; clear hK K)
  refine wpQuiet_step (fun K hK => ?_)
  go_simp
  refine ⟨_, fun a => by rw [L1.out a]; exact ⟨rfl, rfl⟩, hK _ ?_⟩
  clear hK K
  iterate 8 (refine wpQuiet_step (fun K hK => ?_); go_simp; refine hK _ ?_; clear hK K)
  refine wpQuiet_step (fun K hK => ?_)
  go_simp
  refine ⟨_, fun a => by rw [L2.out a]; exact ⟨rfl, rfl⟩, hK _ ?_⟩
  clear hK K
  iterate 5 (refine wpQuiet_step (fun K hK => ?_); go_simp; refine hK _ ?_; clear hK K)
  refine wpQuiet_nil ?_
  rintro _ ⟨nq, rfl⟩
  go_wp2
  go_ret
  exact ⟨rfl, nq, rfl⟩
section
variable {α : Type} [Inhabited α]
theorem sortW_get (enc : α → Value) (w : World) (blk off m : Nat) (dk : Array α) (os : Array Obj) (j : Nat) (hj : j < w.heap.size) : (sortWorld enc w blk off m dk os).heap[j]? = if blk = j then (w.heap[j]?).map (Go.Sort.onCells (Go.Sort.putCells enc off dk)) else w.heap[j]? := by
  show ((w.heap.modify blk _) ++ os)[j]? = _
  rw [Array.getElem?_append_left (by simpa using hj), Array.getElem?_modify]
theorem sortW_on {enc : α → Value} {w : World} {s : TH} (hw : w.heap = s.h) (blk off m : Nat) (dk : Array α) (os : Array Obj) : On blk s ⟨(sortWorld enc w blk off m dk os).heap, s.g⟩ := by
  refine ⟨?_, fun _ _ => rfl, fun j hj hn => ?_⟩
  · show s.h.size ≤ ((w.heap.modify blk _) ++ os).size
    simp [hw]
  · show (sortWorld enc w blk off m dk os).heap[j]? = _
    rw [sortW_get _ _ _ _ _ _ _ _ (by rw [hw]; exact hj), if_neg (fun e => hn e.symm), hw]
theorem putCells_get (enc : α → Value) (off : Nat) (d : Array α) (c : Array Value) (j : Nat) : (Go.Sort.putCells enc off d c)[j]? = (c[j]?).map fun x => if off ≤ j ∧ j < off + d.size then enc d[j - off]! else x := by
  unfold Go.Sort.putCells
  rw [Array.getElem?_mapIdx]
theorem sortW_own {enc : α → Value} {w : World} {s : TH} (hw : w.heap = s.h) {g o n c e τ : Nat} {xs : List Value} (hO : Own s (some ⟨g, o, none⟩) n c e 1 xs τ) (m : Nat) (dk : Array α) (hd : dk.size = n) (os : Array Obj) :
    Own ⟨(sortWorld enc w g o m dk os).heap, s.g⟩ (some ⟨g, o, none⟩) n c e 1 (dk.toList.map enc) τ := by
  rcases hO.2 with ⟨h0, _⟩ | ⟨g', o', L, h0, h1, h2, h3, h4, h5⟩
  · cases h0
  · cases h0
    have hg : (sortWorld enc w g o m dk os).heap[g]? = some (.cells (Go.Sort.putCells enc o dk L.toArray) e (0, 0)) := by
      rw [sortW_get _ _ _ _ _ _ _ _ (by rw [hw]; exact h1.lt), if_pos rfl, hw, h1.get]
      rfl
    refine ⟨by simp [hd], .inr ⟨g, o, (Go.Sort.putCells enc o dk L.toArray).toList, rfl, ⟨by simpa using hg, h1.tag⟩, h2, h3, by simpa [Go.Sort.putCells] using h4, ?_⟩⟩
    apply List.ext_getElem?
    intro i
    rw [List.getElem?_take, List.getElem?_drop]
    by_cases hi : i < n
    · rw [if_pos (by omega), Array.getElem?_toList, putCells_get]
      have hL : o + i < L.length := by omega
      simp [hL, hd, hi]
    · rw [if_neg (by omega), List.getElem?_eq_none (by simp; omega)]
end
/-- a cache's buffers: each key's pointer, and when it was used last -/
structure UsedAt (s : TH) (m : List (Int × Value)) (u : Int → Int) (τb : Nat) : Prop where
  at_ : ∀ k ∈ m.map (·.1), ∃ b lb tb, mget k m = some (.pointer (some ⟨b, 0, none⟩)) ∧ Blk s b lb tb τb ∧ lb[2]? = some (.int .i64 (u k)) ∧ 0 ≤ u k ∧ u k ≤ 9223372036854775807
  inj : ∀ x ∈ m.map (·.1), ∀ y ∈ m.map (·.1), u x = u y → x = y
theorem UsedAt.mv {s s' : TH} {m : List (Int × Value)} {u : Int → Int} {τb : Nat} {B : Nat → Prop} (h : UsedAt s m u τb) (c : Chg B s s') (hn : ∀ j, j < s.h.size → s.g j = τb → ¬ B j) : UsedAt s' m u τb :=
  ⟨fun k hk => by
    obtain ⟨b, lb, tb, h1, h2, h3⟩ := h.at_ k hk
    exact ⟨b, lb, tb, h1, h2.mv c (hn b h2.lt h2.tag), h3⟩, h.inj⟩
abbrev leU (u : Int → Int) : Int → Int → Bool := fun x y => decide (u x ≤ u y)
theorem c_sortHeld {a : Option Addr} {n c f0 cc r tf τf tc τc τm τb τ : Nat} {ss : List Int} {m : List (Int × Value)} {lc : List Value} {s : TH} (u : Int → Int) (hO : Own s a n c 3 1 (ivs ss) τ) (hn : n ≤ 17592186044416) (hF : Blk s f0 [.pointer (some ⟨cc, 0, none⟩)] tf τf) (hC : Blk s cc lc tc τc) (hC2 : lc[2]? = some (.map (some r)))
    (hm : MapK (Value.int .i64) s r m τm) (hU : UsedAt s m u τb) (hs : ∀ x ∈ ss, x ∈ m.map (·.1)) (ht : τf ≠ τ ∧ τc ≠ τ ∧ τm ≠ τ ∧ τb ≠ τ) :
    TRet Tryz.prog 429 #[.slice a n c, .func (.func 424) #[] #[.pointer (some ⟨f0, 0, none⟩)]] s fun v s' => v = .tuple #[] ∧ OnA a s s' ∧ Own s' a n c 3 1 (ivs (ss.mergeSort (leU u))) τ := by
  have hl : ss.length = n := by have := hO.1; rw [ivs_len] at this; omega
  by_cases h0 : n = 0
  · subst h0
    have hss : ss = [] := List.eq_nil_of_length_eq_zero hl
    subst hss
    intro w hw
    refine (AnyF.slices_SortFunc_none (ρ := Tryz.sortFA_ren) { Tryz.sortFA with } a c (.func (.func 424) #[] #[.pointer (some ⟨f0, 0, none⟩)]) w).mono ?_
    rintro e w' ⟨rfl, rfl⟩
    exact ⟨⟨_, s, rfl, hw.symm, rfl, ⟨Nat.le_refl _, fun _ _ => rfl, fun _ _ _ => rfl⟩, by simpa using hO⟩, Like.refl _⟩
  obtain ⟨g, o, rfl⟩ : ∃ g o, a = some ⟨g, o, none⟩ := by
    rcases hO.2 with ⟨_, h, _⟩ | ⟨g, o, L, h, _⟩
    · exact absurd h h0
    · exact ⟨g, o, h⟩
  have hgt : s.g g = τ := hO.tagOf
  intro w hw
  let K := {k : Int // k ∈ m.map (·.1)}
  let enc : K → Value := fun k => .int .i64 k.1
  let cf : K → K → Int := fun x y => u x.1 - u y.1
  let d : Array K := (ss.attach.map fun x => ⟨x.1, hs x.1 x.2⟩).toArray
  have hd : d.size = n := by simp [d, hl]
  obtain ⟨x0, hx0⟩ : ∃ x, x ∈ ss := by cases ss with | nil => simp at hl; omega | cons x _ => exact ⟨x, by simp⟩
  letI : Inhabited K := ⟨⟨x0, hs x0 hx0⟩⟩
  have hdm : d.toList.map (fun k : K => k.1) = ss := by
    simp [d, Function.comp_def]
  have hne : ∀ j, s.g j ≠ τ → j ≠ g := fun j hj e => hj (by rw [e]; exact hgt)
  have hcmp : CmpLays1 Tryz.prog 424 #[.pointer (some ⟨f0, 0, none⟩)] enc cf g o n w := by
    intro m0 os dk hdk x y
    have hon := sortW_on (enc := enc) hw g o m0 dk os
    obtain ⟨bx, lx, tx, x1, x2, x3, x4⟩ := hU.at_ x.1 x.2
    obtain ⟨by_, ly, ty, y1, y2, y3, y4⟩ := hU.at_ y.1 y.2
    have e0 := hF.on hon (hne _ (by rw [hF.tag]; exact ht.1))
    have e1 := hC.on hon (hne _ (by rw [hC.tag]; exact ht.2.1))
    have e2 := hm.on hon (hne _ (by rw [hm.tag]; exact ht.2.2.1))
    have e3 := x2.on hon (hne _ (by rw [x2.tag]; exact ht.2.2.2))
    have e4 := y2.on hon (hne _ (by rw [y2.tag]; exact ht.2.2.2))
    have h := held1 (s := ⟨(sortWorld enc w g o m0 dk os).heap, s.g⟩) x.1 y.1 (u x.1) (u y.1) (sortWorld enc w g o m0 dk os) rfl (e0.cell 0) ((e1.cell 2).trans hC2) e2 x1 y1 ((e3.cell 2).trans x3) ((e4.cell 2).trans y3) x4 y4
    refine h.mono ?_
    rintro e w' ⟨rfl, q, rfl⟩
    exact ⟨rfl, q, #[], (grow_empty _).symm⟩
  have hH : Go.Sort.Holds enc w g o d := by
    intro j hj
    have hj' : j < n := by rw [← hd]; exact hj
    have hcell := hO.sl.cells w hw j (enc d[j]!) (by
      have : (ivs ss)[j]? = some (enc d[j]!) := by
        rw [← hdm]
        simp [ivs, enc, hj]
      exact this)
    rw [add_mk] at hcell
    refine ⟨hcell, ?_⟩
    rcases hO.2 with ⟨h, _⟩ | ⟨g', o', L, h, h1, _⟩
    · cases h
    · cases h
      rw [frozen_eq, hw]; exact h1.frozen _
  have hlt : ∀ x y : K, ltOf cf x y = decide (u x.1 < u y.1) := fun x y => by
    unfold ltOf
    by_cases h : u x.1 < u y.1
    · rw [decide_eq_true h]; exact decide_eq_true (by show u x.1 - u y.1 < 0; omega)
    · rw [decide_eq_false h]; exact decide_eq_false (by show ¬ (u x.1 - u y.1 < 0); omega)
  have hO2 : SWO (ltOf cf) := ⟨fun x => by rw [hlt]; simp, fun x y z h1 h2 => by rw [hlt] at *; simp at *; omega, fun x y z h1 h2 => by rw [hlt] at *; simp at *; omega⟩
  have hT : ∀ x y, (ltOf cf) x y = false → (ltOf cf) y x = false → x = y := fun x y h1 h2 => by
    rw [hlt] at h1 h2; simp at h1 h2
    exact Subtype.ext (hU.inj x.1 x.2 y.1 y.2 (by omega))
  have hS := Any.slices_SortFunc_total (ρ := Tryz.sortFA_ren) Tryz.sortFA enc (fun _ => rfl) cf hO2 424 #[.pointer (some ⟨f0, 0, none⟩)] g o c d w (enters_of Tryz.func424 (by kernel_rfl) rfl) (by rw [hd]; exact hcmp) hH (by rw [hw]; rcases hO.2 with ⟨h, _⟩ | ⟨g', o', L, h, h1, _⟩ <;> cases h; exact h1.lt) (by rw [hd]; omega) hT
  rw [hd] at hS
  refine hS.mono ?_
  rintro e w' ⟨rfl, n', os, rfl⟩
  refine ⟨⟨_, ⟨_, s.g⟩, rfl, rfl, rfl, Chg.mono (sortW_on (enc := enc) hw g o n' _ os) (fun j hj e => by simp [e]), ?_⟩, rfl, rfl, rfl⟩
  have := sortW_own (enc := enc) hw hO n' (d.toList.mergeSort fun x y => !(ltOf cf) y x).toArray (by simp [hd]) os
  have e : ((d.toList.mergeSort fun x y => !(ltOf cf) y x).toArray.toList.map enc) = ivs (ss.mergeSort (leU u)) := by
    show (d.toList.mergeSort _).map ((Value.int .i64) ∘ fun k : K => k.1) = _
    rw [← List.map_map, ← hdm]
    unfold ivs
    congr 1
    apply List.map_mergeSort
    intro x _ y _
    rw [hlt]
    by_cases h : u x.1 ≤ u y.1 <;> simp [leU, h] <;> omega
  rw [e] at this
  exact this
theorem c_sfun {Bm r tb τb0 τm f0 cc tf τf tc τc τu : Nat} (τ : Nat) {m : List (Int × Value)} {lc : List Value} {s : TH} (u : Int → Int) (hB : Blk s Bm [.map (some r)] tb τb0) (hm : MapK (Value.int .i64) s r m τm) (hn : m.length ≤ 17592186044416) (hk : ∀ k ∈ m.map (·.1), inI64 k)
    (hF : Blk s f0 [.pointer (some ⟨cc, 0, none⟩)] tf τf) (hC : Blk s cc lc tc τc) (hC2 : lc[2]? = some (.map (some r))) (hU : UsedAt s m u τu) :
    TRet Tryz.prog 422 #[.func (.func 430) #[] #[.pointer (some ⟨Bm, 0, none⟩)], .func (.func 424) #[] #[.pointer (some ⟨f0, 0, none⟩)]] s fun v s' => ∃ (a : Option Addr) (c : Nat) (ss : List Int), v = .slice a m.length c ∧ ss.Perm (m.map (·.1)) ∧ Ch [] s s' ∧ Own s' a m.length c 3 1 (ivs (ss.mergeSort (leU u))) τ := by
  refine F422_calls _ _ _ _ _ _ ?_
  unfold F422
  obtain ⟨τ', hτ⟩ : ∃ τ', τf ≠ τ' ∧ τc ≠ τ' ∧ τm ≠ τ' ∧ τu ≠ τ' := ⟨τf + τc + τm + τu + 1, by omega⟩
  refine tcall (c_collect τ' _ _ _ _ _ hB hm hn hk) ?_
  rintro _ s1 ⟨⟨a, c, ss, rfl, hp, hO, hnew⟩, c1⟩
  refine dSl_i ?_
  refine tcall (c_sortHeld u hO hn (hF.ch c1 (by simp)) (hC.ch c1 (by simp)) hC2 (hm.ch c1 (by simp)) (hU.mv c1 (tagn (by simp))) (fun x hx => hp.mem_iff.1 hx) hτ) ?_
  rintro _ s2 ⟨rfl, c2, hO2⟩
  have c3 : Ch [] s s2 := Chg.trans c1 c2 fun j hj hB => by
    cases a with
    | none => simp at hB
    | some b => simp at hB; have := hnew b rfl; omega
  -- the row's mark: as asked
  let s3 : TH := ⟨s2.h, fun j => if j < s.h.size then s2.g j else τ⟩
  have c4 : Ch [] s s3 := ⟨c3.size, fun j hj => by show (if j < s.h.size then s2.g j else τ) = _; rw [if_pos hj]; exact c3.tag j hj, c3.get⟩
  refine ret_t (s := s3) ⟨a, c, ss, rfl, hp, c4, hO2.1, hO2.2.imp id ?_⟩
  rintro ⟨g, o, L, h1, h2, h3⟩
  refine ⟨g, o, L, h1, ⟨h2.get, ?_⟩, h3⟩
  have := hnew _ h1
  show (if g < s.h.size then s2.g g else τ) = τ
  rw [if_neg (by simp at this; omega)]
end Go.Proofs.YtdlelcpkelginaaGreat.E
/- The plain law of GeomApart: which blocks are what; no program here. -/
namespace Go.Proofs.YtdlelcpkelginaaGreat.E
open Go
set_option linter.unusedVariables false
theorem dm {b q t : Int} (hb : 0 < b) (h0 : 0 ≤ t) (h1 : t < b) : (q * b + t) / b = q ∧ (q * b + t) % b = t :=
  (Int.ediv_emod_unique hb).2 ⟨by rw [Int.mul_comm b q]; omega, h0, h1⟩
/-- a block of inodes -/
def tab (b c x : Int) : Prop := 2 ≤ x % b ∧ x % b < 2 + c / 4
instance (b c x : Int) : Decidable (tab b c x) := by unfold tab; infer_instance
def f1 (b c n x : Int) : Int := if x < n * b ∧ ¬ tab b c x then 1 else 0
/-! inodes -/
theorem mget_none {κ : Type} [DecidableEq κ] {k : κ} {m : List (κ × Value)} (h : k ∉ m.map (·.1)) : mget k m = none := by
  induction m with
  | nil => rfl
  | cons p m ih =>
    obtain ⟨k', v⟩ := p
    simp only [List.map_cons, List.mem_cons, not_or] at h
    simp only [mget, if_neg h.1]; exact ih h.2
theorem mset_new {κ : Type} [DecidableEq κ] {k : κ} {x : Value} {m : List (κ × Value)} (h : k ∉ m.map (·.1)) : mset k x m = m ++ [(k, x)] := by
  induction m with
  | nil => rfl
  | cons p m ih =>
    obtain ⟨k', v⟩ := p
    simp only [List.map_cons, List.mem_cons, not_or] at h
    simp only [mset, if_neg h.1, ih h.2]; rfl
theorem mget_mset {κ : Type} [DecidableEq κ] {k k' : κ} {x : Value} {m : List (κ × Value)} : mget k (mset k' x m) = if k = k' then some x else mget k m := by
  induction m with
  | nil => simp only [mset, mget]
  | cons p m ih =>
    obtain ⟨k2, v⟩ := p
    by_cases h : k' = k2
    · subst h; simp only [mset, if_pos, mget]; by_cases h2 : k = k' <;> simp [h2]
    · simp only [mset, if_neg h, mget, ih]
      by_cases h2 : k = k2
      · subst h2; simp [Ne.symm h]
      · simp [h2]
end Go.Proofs.YtdlelcpkelginaaGreat.E
/- Contracts of functions. -/
namespace Go.Proofs.YtdlelcpkelginaaGreat.E
open Go Go.Proofs Go.RowKit Go.Maps Go.Shelf Go.Sort
set_option linter.unusedVariables false
set_option linter.unusedSimpArgs false
theorem mget_mdel {m : List (Int × Value)} (hn : (m.map (·.1)).Nodup) (k k' : Int) : mget k (mdel k' m) = if k = k' then none else mget k m := by
  induction m with
  | nil => simp [mdel, mget]
  | cons p m ih =>
    rw [List.map_cons, List.nodup_cons] at hn
    rw [mdel]
    by_cases h : k' = p.1
    · rw [if_pos h]
      by_cases hk : k = k'
      · rw [if_pos hk]
        exact mget_none (by rw [hk, h]; exact hn.1)
      · rw [if_neg hk, mget, if_neg (by omega)]
    · rw [if_neg h, mget, ih hn.2, mget]
      by_cases hk : k = p.1
      · rw [if_pos hk, if_pos hk, if_neg (by omega)]
      · rw [if_neg hk, if_neg hk]
theorem keys_mdel {m : List (Int × Value)} (k : Int) : (mdel k m).map (·.1) = (m.map (·.1)).erase k := by
  induction m with
  | nil => rfl
  | cons p m ih =>
    rw [mdel, List.map_cons, List.erase_cons]
    by_cases h : k = p.1
    · simp [h]
    · rw [if_neg h, if_neg (by simpa using fun e => h e.symm), List.map_cons, ih]
/-- a buffer; a cache -/
structure BufM where
  blk : Int
  by_ : List UInt8
  pins : Int
  used : Int
structure CacheM where
  l : List BufM
  bound : Int
  clock : Int
  hits : Int
  misses : Int
def rmB (l : List BufM) (b : Int) : List BufM := l.filter fun x => !(x.blk == b)
def freeB (l : List BufM) : Option BufM := l.find? fun x => x.pins == 0
def CacheM.room (C : CacheM) : Option (List BufM) := if (C.l.length : Int) < C.bound then some C.l else (freeB C.l).map fun v => rmB C.l v.blk
def CacheM.find (C : CacheM) (b : Int) : Option BufM := C.l.find? fun x => x.blk == b
def CacheM.get (C : CacheM) (bs : List (List UInt8)) (b : Int) : CacheM × Int :=
  match C.find b with
  | some x => ({ C with l := rmB C.l b ++ [{ x with used := C.clock + 1 }], clock := C.clock + 1, hits := C.hits + 1 }, 0)
  | none =>
    match C.room with
    | none => ({ C with misses := C.misses + 1 }, 60)
    | some l => ({ C with l := l ++ [⟨b, (bs[b.toNat]?).getD [], 0, C.clock + 1⟩], clock := C.clock + 1, misses := C.misses + 1 }, 0)
def bufv (p : Hd) (pins used : Int) : List Value := [.slice p.1 128 p.2, .int .i64 pins, .int .i64 used]
structure Bufs (s : TH) (τ : Nat) (l : List BufM) (bp : Int → Nat) (bh : Int → Hd) : Prop where
  at_ : ∀ x ∈ l, Blk s (bp x.blk) (bufv (bh x.blk) x.pins x.used) 344 τ
theorem Bufs.mv {s s' : TH} {τ : Nat} {l : List BufM} {bp : Int → Nat} {bh : Int → Hd} {B : Nat → Prop} (h : Bufs s τ l bp bh) (c : Chg B s s') (hn : ∀ j, j < s.h.size → s.g j = τ → ¬ B j) : Bufs s' τ l bp bh :=
  ⟨fun x hx => (h.at_ x hx).mv c (hn _ (h.at_ x hx).lt (h.at_ x hx).tag)⟩
structure BufY (s : TH) (τ : Nat) (l : List BufM) (bh : Int → Hd) : Prop where
  at_ : ∀ x ∈ l, ByAt s τ (bh x.blk) x.by_
theorem BufY.mv {s s' : TH} {τ : Nat} {l : List BufM} {bh : Int → Hd} {B : Nat → Prop} (h : BufY s τ l bh) (c : Chg B s s') (hn : ∀ j, j < s.h.size → s.g j = τ → ¬ B j) : BufY s' τ l bh := ⟨fun x hx => (h.at_ x hx).mv c hn⟩
structure MapOf (m : List (Int × Value)) (l : List BufM) (bp : Int → Nat) : Prop where
  keys : (m.map (·.1)).Perm (l.map (·.blk))
  at_ : ∀ x ∈ l, mget x.blk m = some (.pointer (some ⟨bp x.blk, 0, none⟩))
  inj : ∀ x ∈ l, ∀ y ∈ l, bp x.blk = bp y.blk → x.blk = y.blk
  nd : (l.map (·.blk)).Nodup
  rng : ∀ x ∈ l, 0 ≤ x.blk ∧ x.blk < 2048
structure CacheP (s : TH) (c T d : Nat) (C : CacheM) (r : Nat) (m : List (Int × Value)) (bp : Int → Nat) (bh : Int → Hd) : Prop where
  blk : Blk s c [.pointer (some ⟨d, 0, none⟩), .int .i64 C.bound, .map (some r), .int .i64 C.clock, .int .i64 C.hits, .int .i64 C.misses] 351 T
  map : MapK (Value.int .i64) s r m (T + 1)
  bufs : Bufs s (T + 2) C.l bp bh
  bufy : BufY s (T + 3) C.l bh
  mo : MapOf m C.l bp
  bnd : 1 ≤ C.bound ∧ C.bound ≤ 64
  len : (C.l.length : Int) ≤ C.bound
structure COk (C : CacheM) : Prop where
  srt : C.l.Pairwise fun x y => x.used < y.used
  rng : ∀ x ∈ C.l, 0 ≤ x.used ∧ x.used ≤ C.clock
  clk : 0 ≤ C.clock ∧ C.clock ≤ 9223372036854775807
  cnt : 0 ≤ C.hits ∧ C.hits ≤ 9223372036854775807 ∧ 0 ≤ C.misses ∧ C.misses ≤ 9223372036854775807
  pin : ∀ x ∈ C.l, 0 ≤ x.pins ∧ x.pins ≤ 100
/-- a cache over a disk, in memory -/
structure Cache (s : TH) (c T d : Nat) (C : CacheM) : Prop where
  p : ∃ r m bp bh, CacheP s c T d C r m bp bh
  ok : COk C
theorem CacheP.mv {s s' : TH} {c T d r : Nat} {C : CacheM} {m : List (Int × Value)} {bp : Int → Nat} {bh : Int → Hd} {B : Nat → Prop} (h : CacheP s c T d C r m bp bh) (k : Chg B s s') (hn : ∀ j, j < s.h.size → T ≤ s.g j → s.g j < T + 10 → ¬ B j) : CacheP s' c T d C r m bp bh :=
  ⟨h.blk.mv k (of_rng hn (Nat.le_refl _) (by omega) c h.blk.lt h.blk.tag), h.map.mv k (of_rng hn (by omega) (by omega) r h.map.lt h.map.tag), h.bufs.mv k (of_rng hn (by omega) (by omega)), h.bufy.mv k (of_rng hn (by omega) (by omega)), h.mo, h.bnd, h.len⟩
theorem Cache.mv {s s' : TH} {c T d : Nat} {C : CacheM} {B : Nat → Prop} (h : Cache s c T d C) (k : Chg B s s') (hn : ∀ j, j < s.h.size → T ≤ s.g j → s.g j < T + 10 → ¬ B j) : Cache s' c T d C := by
  obtain ⟨⟨r, m, bp, bh, hp⟩, ok⟩ := h
  exact ⟨⟨r, m, bp, bh, hp.mv k hn⟩, ok⟩
def usedOf (l : List BufM) (k : Int) : Int := ((l.find? fun x => x.blk == k).map (·.used)).getD 0
theorem find_nd {l : List BufM} (hn : (l.map (·.blk)).Nodup) {x : BufM} (hx : x ∈ l) : (l.find? fun y => y.blk == x.blk) = some x := by
  induction l with
  | nil => cases hx
  | cons y l ih =>
    rw [List.map_cons, List.nodup_cons] at hn
    rw [List.find?_cons]
    rcases List.mem_cons.1 hx with rfl | hx
    · simp
    · have : (y.blk == x.blk) = false := by
        simp only [beq_eq_false_iff_ne]
        intro e; exact hn.1 (by rw [e]; exact List.mem_map.2 ⟨x, hx, rfl⟩)
      rw [this]; exact ih hn.2 hx
theorem usedOf_eq {l : List BufM} (hn : (l.map (·.blk)).Nodup) {x : BufM} (hx : x ∈ l) : usedOf l x.blk = x.used := by unfold usedOf; rw [find_nd hn hx]; rfl
theorem used_ne {l : List BufM} (h : l.Pairwise fun x y => x.used < y.used) : ∀ x ∈ l, ∀ y ∈ l, x.used = y.used → x.blk = y.blk := by
  induction l with
  | nil => intro x hx; cases hx
  | cons z l ih =>
    rw [List.pairwise_cons] at h
    intro x hx y hy e
    rcases List.mem_cons.1 hx with hx1 | hx1 <;> rcases List.mem_cons.1 hy with hy1 | hy1
    · rw [hx1, hy1]
    · have := h.1 y hy1; rw [hx1] at e; omega
    · have := h.1 x hx1; rw [hy1] at e; omega
    · exact ih h.2 x hx1 y hy1 e
theorem CacheP.usedAt {s : TH} {c T d r : Nat} {C : CacheM} {m : List (Int × Value)} {bp : Int → Nat} {bh : Int → Hd} (h : CacheP s c T d C r m bp bh) (ok : COk C) : UsedAt s m (usedOf C.l) (T + 2) := by
  have hmem : ∀ k ∈ m.map (·.1), ∃ x ∈ C.l, x.blk = k := fun k hk => by
    have := h.mo.keys.mem_iff.1 hk
    obtain ⟨x, hx, e⟩ := List.mem_map.1 this
    exact ⟨x, hx, e⟩
  refine ⟨fun k hk => ?_, fun a ha b hb e => ?_⟩
  · obtain ⟨x, hx, rfl⟩ := hmem k hk
    have h1 := ok.rng x hx
    have h2 := ok.clk
    exact ⟨_, _, _, h.mo.at_ x hx, h.bufs.at_ x hx, by rw [usedOf_eq h.mo.nd hx]; rfl, by rw [usedOf_eq h.mo.nd hx]; omega, by rw [usedOf_eq h.mo.nd hx]; omega⟩
  · obtain ⟨x, hx, rfl⟩ := hmem a ha
    obtain ⟨y, hy, rfl⟩ := hmem b hb
    rw [usedOf_eq h.mo.nd hx, usedOf_eq h.mo.nd hy] at e
    exact used_ne ok.srt x hx y hy e
/-- the keys, sorted by when they were used, are the blocks in their order -/
theorem sorted_keys {l : List BufM} {ss : List Int} (hn : (l.map (·.blk)).Nodup) (hs : l.Pairwise fun x y => x.used < y.used) (hp : ss.Perm (l.map (·.blk))) : ss.mergeSort (leU (usedOf l)) = l.map (·.blk) := by
  have h1 : (ss.mergeSort (leU (usedOf l))).Perm (l.map (·.blk)) := (List.mergeSort_perm ss _).trans hp
  have htot : ∀ a b : Int, (leU (usedOf l) a b || leU (usedOf l) b a) = true := fun a b => by simp [leU]; omega
  have htr : ∀ a b c : Int, leU (usedOf l) a b = true → leU (usedOf l) b c = true → leU (usedOf l) a c = true := fun a b c h1 h2 => by simp [leU] at *; omega
  have h2 := List.pairwise_mergeSort htr htot ss
  have h3 : (l.map (·.blk)).Pairwise fun a b => leU (usedOf l) a b = true := by
    rw [List.pairwise_map]
    refine hs.imp_of_mem fun {a b} ha hb hab => ?_
    simp only [leU]
    rw [usedOf_eq hn ha, usedOf_eq hn hb]
    exact decide_eq_true (by omega)
  refine h1.eq_of_pairwise (le := fun a b => leU (usedOf l) a b = true) (fun a b ha hb h4 h5 => ?_) h2 h3
  have ha' := h1.mem_iff.1 ha
  obtain ⟨x, hx, rfl⟩ := List.mem_map.1 ha'
  obtain ⟨y, hy, rfl⟩ := List.mem_map.1 hb
  simp [leU] at h4 h5
  rw [usedOf_eq hn hx, usedOf_eq hn hy] at h4 h5
  exact used_ne hs x hx y hy (by omega)
theorem MapOf.get_none {m : List (Int × Value)} {l : List BufM} {bp : Int → Nat} (h : MapOf m l bp) {b : Int} (hf : (l.find? fun x => x.blk == b) = none) : mget b m = none := mget_none (fun hm => by
  have := h.keys.mem_iff.1 hm
  obtain ⟨x, hx, e⟩ := List.mem_map.1 this
  have := List.find?_eq_none.1 hf x hx
  simp [e] at this)
theorem find_mem {l : List BufM} {b : Int} {x : BufM} (hf : (l.find? fun x => x.blk == b) = some x) : x ∈ l ∧ x.blk = b := ⟨List.mem_of_find?_eq_some hf, by simpa using List.find?_some hf⟩
theorem MapOf.get_some {m : List (Int × Value)} {l : List BufM} {bp : Int → Nat} (h : MapOf m l bp) {b : Int} {x : BufM} (hf : (l.find? fun x => x.blk == b) = some x) : mget b m = some (.pointer (some ⟨bp b, 0, none⟩)) := by
  obtain ⟨h1, rfl⟩ := find_mem hf; exact h.at_ x h1
theorem rmB_mem {l : List BufM} {b : Int} {x : BufM} : x ∈ rmB l b ↔ x ∈ l ∧ x.blk ≠ b := by unfold rmB; simp
theorem rmB_sub (l : List BufM) (b : Int) : (rmB l b).Sublist l := List.filter_sublist
theorem rmB_keys {l : List BufM} (hn : (l.map (·.blk)).Nodup) (b : Int) : (rmB l b).map (·.blk) = (l.map (·.blk)).erase b := by
  rw [hn.erase_eq_filter, List.filter_map]
  unfold rmB
  congr 1
theorem MapOf.del {m : List (Int × Value)} {l : List BufM} {bp : Int → Nat} (h : MapOf m l bp) (hm : (m.map (·.1)).Nodup) (b : Int) : MapOf (mdel b m) (rmB l b) bp :=
  ⟨by rw [keys_mdel, rmB_keys h.nd]; exact h.keys.erase b, fun x hx => by rw [mget_mdel hm, if_neg (rmB_mem.1 hx).2]; exact h.at_ x (rmB_mem.1 hx).1,
    fun x hx y hy => h.inj x (rmB_mem.1 hx).1 y (rmB_mem.1 hy).1, h.nd.sublist ((rmB_sub l b).map _), fun x hx => h.rng x (rmB_mem.1 hx).1⟩
theorem MapOf.add {m : List (Int × Value)} {l : List BufM} {bp : Int → Nat} (h : MapOf m l bp) (x : BufM) (p : Nat) (hx : x.blk ∉ l.map (·.blk)) (hr : 0 ≤ x.blk ∧ x.blk < 2048) (hp : ∀ y ∈ l, bp y.blk ≠ p) :
    MapOf (mset x.blk (.pointer (some ⟨p, 0, none⟩)) m) (l ++ [x]) (fun k => if k = x.blk then p else bp k) := by
  have hk : x.blk ∉ m.map (·.1) := fun e => hx (h.keys.mem_iff.1 e)
  have hne : ∀ y ∈ l, y.blk ≠ x.blk := fun y hy e => hx (e ▸ List.mem_map.2 ⟨y, hy, rfl⟩)
  refine ⟨?_, fun y hy => ?_, fun y hy z hz e => ?_, ?_, fun y hy => ?_⟩
  · rw [mset_new hk]; simpa using h.keys.append_right [x.blk]
  · rw [mget_mset]
    rcases List.mem_append.1 hy with hy | hy
    · rw [if_neg (hne y hy)]; simp only [if_neg (hne y hy)]; exact h.at_ y hy
    · simp at hy; subst hy; simp
  · rcases List.mem_append.1 hy with hy1 | hy1 <;> rcases List.mem_append.1 hz with hz1 | hz1
    · simp only [if_neg (hne y hy1), if_neg (hne z hz1)] at e; exact h.inj y hy1 z hz1 e
    · rw [List.mem_singleton] at hz1; rw [hz1] at e
      simp only [if_neg (hne y hy1), if_true] at e
      exact absurd e (hp y hy1)
    · rw [List.mem_singleton] at hy1; rw [hy1] at e
      simp only [if_neg (hne z hz1), if_true] at e
      exact absurd e.symm (hp z hz1)
    · rw [List.mem_singleton] at hy1 hz1; rw [hy1, hz1]
  · rw [List.map_append, List.nodup_append]
    refine ⟨h.nd, by simp, fun a ha b hb e => ?_⟩
    simp at hb; subst hb; subst e; exact hx ha
  · rcases List.mem_append.1 hy with hy | hy
    · exact h.rng y hy
    · simp at hy; subst hy; exact hr
/-- another order, other counts: the map is the same -/
theorem MapOf.again {m : List (Int × Value)} {l l' : List BufM} {bp : Int → Nat} (h : MapOf m l bp) (hp : (l'.map (·.blk)).Perm (l.map (·.blk))) : MapOf m l' bp := by
  have hmem : ∀ x ∈ l', ∃ y ∈ l, y.blk = x.blk := fun x hx => by
    obtain ⟨y, hy, e⟩ := List.mem_map.1 (hp.mem_iff.1 (List.mem_map.2 ⟨x, hx, rfl⟩)); exact ⟨y, hy, e⟩
  refine ⟨h.keys.trans hp.symm, fun x hx => ?_, fun x hx y hy e => ?_, hp.nodup_iff.2 h.nd, fun x hx => ?_⟩
  · obtain ⟨y, hy, e⟩ := hmem x hx; rw [← e]; exact h.at_ y hy
  · obtain ⟨x', hx', ex⟩ := hmem x hx
    obtain ⟨y', hy', ey⟩ := hmem y hy
    rw [← ex, ← ey] at e ⊢; exact h.inj x' hx' y' hy' e
  · obtain ⟨y, hy, e⟩ := hmem x hx; rw [← e]; exact h.rng y hy
end Go.Proofs.YtdlelcpkelginaaGreat.E
/- Contracts of functions. -/
namespace Go.Proofs.YtdlelcpkelginaaGreat.E
open Go Go.Proofs Go.RowKit Go.Maps Go.Shelf Go.Sort
set_option linter.unusedVariables false
set_option linter.unusedSimpArgs false
/-- maps.Keys[map[int]*bollard/cache.buffer,int,*bollard/cache.buffer] -/
theorem c_keys (r : Nat) (s : TH) : TRet Tryz.prog 423 #[.map (some r)] s fun v s' => ∃ B, v = .func (.func 430) #[] #[.pointer (some ⟨B, 0, none⟩)] ∧ Ch [] s s' ∧ Blk s' B [.map (some r)] 349 0 := by
  refine F423_calls _  ?_
  unfold F423
  refine al_t 0 fun r1 s2 hr1 b_1 c_2 z_3 => ?_
  refine ret_t ?_
  exact ⟨r1, rfl, ((Ch.refl [] s).ch c_2 (by simp)), b_1⟩
/-- (*bollard/cache.Cache).look -/
theorem c_clook (c T d Td : Nat) (C : CacheM) (D : DiskM) (b : Int) (s : TH) (hT : 10 ≤ T) (hTd : 10 ≤ Td) (hTT : T + 10 ≤ Td ∨ Td + 10 ≤ T) (hc : Cache s c T d C) (hd : Disk s d Td D) : TRet Tryz.prog 345 #[.pointer (some ⟨c, 0, none⟩), .int .i64 b] s fun v s' => v = .int .i64 (if D.has b then 0 else 1) ∧ Ch [] s s' := by
  obtain ⟨⟨r, m, bp, bh, hP⟩, ok⟩ := id hc
  have hcb := hP.blk
  have hcm := hP.map
  have hbu := hP.bufs
  have hby := hP.bufy
  refine F345_calls _ _  ?_
  unfold F345
  refine jn_u ?_
  refine sB_f (by rfl) ?_
  refine nz_i ?_
  first | refine ld_t hcb rfl ?_
  refine dMap_i ?_
  intro _ _ _ _ _ _ _ _
  refine dBl_i ?_
  refine sB_f (by rfl) ?_
  refine jn_u ?_
  refine sB_d (fun hsB3 => ?_) (fun hsB3 => ?_)
  ·
    intro _ _ _ _ _ _ _ _ _ _
    refine dBl_i ?_
    refine sB_t (by rfl) ?_
    refine ret_t ?_
    exact ⟨ret_i (by first | rw [if_pos (by unfold DiskM.has; omega)] | rw [if_neg (by unfold DiskM.has; omega)]), (Ch.refl [] s)⟩
  ·
    refine nz_i ?_
    first | refine ld_t hcb rfl ?_
    refine dPtr_i ?_
    refine tcall (c_blocks _ _ _ _ hTd hd) ?_
    rintro _ s30 ⟨rfl, c_1⟩
    have z_2 := c_1.size
    refine dInt_i ?_
    intro _ _ _ _ _ _ _ _ _ _
    refine dBl_i ?_
    refine sB_d (fun hsB5 => ?_) (fun hsB5 => ?_)
    ·
      refine ret_t ?_
      exact ⟨ret_i (by first | rw [if_pos (by unfold DiskM.has; omega)] | rw [if_neg (by unfold DiskM.has; omega)]), ((Ch.refl [] s).ch c_1 (by simp))⟩
    ·
      refine ret_t ?_
      exact ⟨ret_i (by first | rw [if_pos (by unfold DiskM.has; omega)] | rw [if_neg (by unfold DiskM.has; omega)]), ((Ch.refl [] s).ch c_1 (by simp))⟩
/-- (*bollard/cache.Cache).Held -/
theorem c_held (c T d : Nat) (C : CacheM) (τ : Nat) (s : TH) (hT : 10 ≤ T) (hc : Cache s c T d C) : TRet Tryz.prog 410 #[.pointer (some ⟨c, 0, none⟩)] s fun v s' => ∃ a c', v = .slice a C.l.length c' ∧ Ch [] s s' ∧ Own s' a C.l.length c' 3 1 (ivs (C.l.map (·.blk))) τ := by
  obtain ⟨⟨r, m, bp, bh, hP⟩, ok⟩ := id hc
  have hcb := hP.blk
  have hcm := hP.map
  have hbu := hP.bufs
  have hby := hP.bufy
  refine F410_calls _  ?_
  unfold F410
  refine al_t 0 fun r1 s2 hr1 b_1 c_2 z_3 => ?_
  refine ld_t b_1 rfl ?_
  refine dPtr_i ?_
  refine sB_f (by rfl) ?_
  refine ld_t b_1 rfl ?_
  refine dPtr_i ?_
  refine nz_i ?_
  have cb_4 := hcb.ch c_2 (by simp)
  first | refine ld_t cb_4 rfl ?_
  refine dMap_i ?_
  refine tcall (c_keys r _) ?_
  rintro _ s11 ⟨B, rfl, c_5, B_7⟩
  have z_6 := c_5.size
  have hU := (hP.usedAt ok).mv (((Ch.refl [] s).ch c_2 (by simp)).ch c_5 (by simp)) (tagn (by simp))
  have hml : m.length = C.l.length := by have := hP.mo.keys.length_eq; simpa using this
  have hmk : ∀ k ∈ m.map (·.1), inI64 k := fun k hk => by
    obtain ⟨x, hx, rfl⟩ := List.mem_map.1 (hP.mo.keys.mem_iff.1 hk)
    have := hP.mo.rng x hx
    unfold inI64; omega
  have hle := hP.len
  have hbn := hP.bnd
  have cm_8 := hcm.ch c_2 (by simp)
  have cm_9 := cm_8.ch c_5 (by simp)
  have r1_10 := b_1.ch c_5 (by simp)
  have cb_11 := cb_4.ch c_5 (by simp)
  refine tcall (c_sfun τ (usedOf C.l) B_7 cm_9 (by omega) hmk r1_10 cb_11 rfl hU) ?_
  rintro _ s13 ⟨a2, c2, ss, rfl, hss, c_12, o_14⟩
  have z_13 := c_12.size
  refine dSl_i ?_
  refine ret_t ?_
  have ho := o_14
  rw [sorted_keys hP.mo.nd ok.srt (hss.trans hP.mo.keys), hml] at ho
  rw [hml]
  exact ⟨a2, c2, rfl, ((((Ch.refl [] s).ch c_2 (by simp)).ch c_5 (by simp)).ch c_12 (by simp)), ho⟩
end Go.Proofs.YtdlelcpkelginaaGreat.E
/- Contracts of functions. -/
namespace Go.Proofs.YtdlelcpkelginaaGreat.E
open Go Go.Proofs Go.RowKit Go.Maps Go.Shelf Go.Sort
set_option linter.unusedVariables false
set_option linter.unusedSimpArgs false
theorem freeB_some {l : List BufM} {k : Nat} {x : BufM} (h : l[k]? = some x) (hp : x.pins = 0) (ha : ∀ j y, j < k → l[j]? = some y → y.pins ≠ 0) : freeB l = some x := by
  unfold freeB
  induction l generalizing k with
  | nil => simp at h
  | cons y l ih =>
    cases k with
    | zero => simp at h; subst h; simp [hp]
    | succ k =>
      rw [List.find?_cons]
      have := ha 0 y (by omega) (by simp)
      rw [show (y.pins == 0) = false by simpa using this]
      exact ih (by simpa using h) (fun j z hj hz => ha (j + 1) z (by omega) (by simpa using hz))
theorem freeB_none {l : List BufM} (ha : ∀ j y, j < l.length → l[j]? = some y → y.pins ≠ 0) : freeB l = none := by
  unfold freeB
  rw [List.find?_eq_none]
  intro x hx
  obtain ⟨j, hj, e⟩ := List.getElem_of_mem hx
  have := ha j x hj (by rw [List.getElem?_eq_getElem hj, e])
  simpa using this
theorem freeB_mem {l : List BufM} {x : BufM} (h : freeB l = some x) : x ∈ l ∧ x.pins = 0 := ⟨List.mem_of_find?_eq_some h, by simpa using List.find?_some h⟩
theorem Disk.nb {s : TH} {d T : Nat} {D : DiskM} (h : Disk s d T D) : 1 ≤ D.blocks.length ∧ D.blocks.length ≤ 2048 := by obtain ⟨_, _, _, _, _, _, _, _, h⟩ := h; exact h.nb
theorem find_nmem {l : List BufM} {b : Int} (h : (l.find? fun x => x.blk == b) = none) : b ∉ l.map (·.blk) := fun e => by
  obtain ⟨x, hx, e⟩ := List.mem_map.1 e
  have := List.find?_eq_none.1 h x hx
  simp [e] at this
theorem rmB_len {l : List BufM} (hn : (l.map (·.blk)).Nodup) {x : BufM} (hx : x ∈ l) : (rmB l x.blk).length + 1 = l.length := by
  have h1 : x.blk ∈ l.map (·.blk) := List.mem_map.2 ⟨x, hx, rfl⟩
  have h2 := congrArg List.length (rmB_keys hn x.blk)
  rw [List.length_map, List.length_erase_of_mem h1, List.length_map] at h2
  have := List.length_pos_of_mem hx
  omega
theorem Bufs.sub {s : TH} {τ : Nat} {l l' : List BufM} {bp : Int → Nat} {bh : Int → Hd} (h : Bufs s τ l bp bh) (hs : l'.Sublist l) : Bufs s τ l' bp bh := ⟨fun x hx => h.at_ x (hs.subset hx)⟩
theorem BufY.sub {s : TH} {τ : Nat} {l l' : List BufM} {bh : Int → Hd} (h : BufY s τ l bh) (hs : l'.Sublist l) : BufY s τ l' bh := ⟨fun x hx => h.at_ x (hs.subset hx)⟩
theorem addB {s : TH} {c T d r p : Nat} {C : CacheM} {m1 : List (Int × Value)} {l1 : List BufM} {bp : Int → Nat} {bh : Int → Hd} {xa : Option Addr} {xc : Nat} {b : Int} {l : List UInt8} (_ : 10 ≤ T)
    (hblk : Blk s c [.pointer (some ⟨d, 0, none⟩), .int .i64 C.bound, .map (some r), .int .i64 C.clock, .int .i64 C.hits, .int .i64 C.misses] 351 T) (hmap : MapK (Value.int .i64) s r (mset b (.pointer (some ⟨p, 0, none⟩)) m1) (T + 1))
    (hb : Bufs s (T + 2) l1 bp bh) (hy : BufY s (T + 3) l1 bh) (mo : MapOf m1 l1 bp) (hbn : b ∉ l1.map (·.blk)) (hrng : 0 ≤ b ∧ b < 2048) (hp : Blk s p (bufv (xa, xc) 0 0) 344 (T + 2)) (hpn : ∀ y ∈ l1, bp y.blk ≠ p)
    (hx : ByAt s (T + 3) (xa, xc) l) (bnd : 1 ≤ C.bound ∧ C.bound ≤ 64) (len : (l1.length : Int) + 1 ≤ C.bound) :
    CacheP s c T d { C with l := l1 ++ [⟨b, l, 0, 0⟩] } r (mset b (.pointer (some ⟨p, 0, none⟩)) m1) (fun k => if k = b then p else bp k) (fun k => if k = b then (xa, xc) else bh k) := by
  have hne : ∀ y ∈ l1, y.blk ≠ b := fun y hy e => hbn (e ▸ List.mem_map.2 ⟨y, hy, rfl⟩)
  refine ⟨hblk, hmap, ⟨fun y hy' => ?_⟩, ⟨fun y hy' => ?_⟩, mo.add ⟨b, l, 0, 0⟩ p hbn hrng hpn, bnd, by simpa using len⟩
  · rcases List.mem_append.1 hy' with h | h
    · simp only [if_neg (hne y h)]; exact hb.at_ y h
    · rw [List.mem_singleton] at h; subst h; simpa using hp
  · rcases List.mem_append.1 hy' with h | h
    · simp only [if_neg (hne y h)]; exact hy.at_ y h
    · rw [List.mem_singleton] at h; subst h; simpa using hx
/-- (*bollard/cache.Cache).victim -/
theorem c_victim (c T d : Nat) (C : CacheM) (s : TH) (hT : 10 ≤ T) (hc : Cache s c T d C) : TRet Tryz.prog 384 #[.pointer (some ⟨c, 0, none⟩)] s fun v s' => ∃ n b, v = .tuple #[.int .i64 n, .bool b] ∧ Ch [] s s' ∧ ((b = true ∧ ∃ x, freeB C.l = some x ∧ n = x.blk) ∨ (b = false ∧ freeB C.l = none)) := by
  obtain ⟨⟨r, m, bp, bh, hP⟩, ok⟩ := id hc
  have hcb := hP.blk
  have hcm := hP.map
  have hbu := hP.bufs
  have hby := hP.bufy
  refine F384_calls _  ?_
  unfold F384
  refine tcall (c_held c T d C 0 _ hT hc) ?_
  rintro _ s2 ⟨a2, c2, rfl, c_1, o_3⟩
  have z_2 := c_1.size
  refine dSl_i ?_
  refine ⟨fun vs H' => ∃ s' : TH, s'.h = H' ∧ ∃ i, vs = [.int .i64 i] ∧ ChL [] [] s2 s' ∧ (∃ k : Nat, i = k ∧ k ≤ C.l.length ∧ ∀ j y, j < k → C.l[j]? = some y → y.pins ≠ 0), fun vs H' => match vs with | [.int .i64 i] => ((C.l.length : Int) - i).toNat | _ => 0, ⟨s2, rfl, _, rfl, ChL.refl _ _ _, ?_⟩, ?_⟩
  ·
    exact ⟨0, rfl, by omega, fun j x h => by omega⟩
  ·
    intro i _ _ _ _ _ _ _ _ _ _ _ _ _ _ _ _ _ _ H27 hI
    obtain ⟨s27, rfl, i_, hvs, c_4, k, rfl, hk, hall⟩ := hI
    cases hvs
    have z_5 := c_4.size
    refine sB_d (fun hsB1 => ?_) (fun hsB1 => ?_)
    ·
      have o_6 := o_3.mv c_4 (tagL (by simp <;> omega) (by simp))
      have hk2 : k < C.l.length := by omega
      obtain ⟨x, hx⟩ : ∃ x, C.l[k]? = some x := ⟨C.l[k], by simp [hk2]⟩
      have hxm := List.mem_of_getElem? hx
      obtain ⟨a, rfl⟩ := o_6.ne_none (by omega)
      have hlen := hP.len
      have hbnd := hP.bnd
      refine nz_i ?_
      refine ask_t (by omega) ?_
      refine ld_sl o_6.sl (by rw [Int.toNat_natCast, Nat.mul_one]; show (ivs _)[k]? = some (.int .i64 x.blk); simp [ivs, hx]) ?_
      refine dInt_i ?_
      refine nz_i ?_
      have cb_7 := hcb.ch c_1 (by simp)
      have cb_8 := cb_7.chl c_4 (by simp <;> omega) (by simp <;> omega)
      first | refine ld_t cb_8 rfl ?_
      refine dMap_i ?_
      have cm_9 := hcm.ch c_1 (by simp)
      have cm_10 := cm_9.chl c_4 (by simp <;> omega) (by simp <;> omega)
      refine look_s keyI u349 z340 cm_10 x.blk (hP.mo.at_ x hxm) ?_
      refine dPtr_i ?_
      refine nz_i ?_
      have bu_11 := hbu.mv c_1 (tagn (by simp))
      have bu_12 := bu_11.mv c_4 (tagL (by simp <;> omega) (by simp))
      refine ld_t (bu_12.at_ x hxm) rfl ?_
      refine dInt_i ?_
      refine sB_eq (fun hsB2 => ?_) (fun hsB2 => ?_)
      ·
        refine ret_t ?_
        exact ⟨_, _, rfl, (((Ch.refl [] s).ch c_1 (by simp)).chl c_4 (by simp) (by simp <;> omega)), .inl ⟨rfl, x, freeB_some hx hsB2 hall, rfl⟩⟩
      ·
        refine wr_t (by omega) ?_
        refine ⟨⟨s27, rfl, _, rfl, ((ChL.refl [] [] s2).chl c_4 (by simp) (by simp <;> omega)), ?_⟩, ?_⟩
        ·
          refine ⟨k + 1, by omega, by omega, fun j y hj hy => ?_⟩
          by_cases e : j = k
          · subst e; rw [hx] at hy; cases hy; exact hsB2
          · exact hall j y (by omega) hy
        ·
          simp only []; omega
    ·
      refine ret_t ?_
      exact ⟨_, _, rfl, (((Ch.refl [] s).ch c_1 (by simp)).chl c_4 (by simp) (by simp <;> omega)), .inr ⟨rfl, freeB_none fun j y hj hy => hall j y (by omega) hy⟩⟩
/-- (*bollard/cache.Cache).load -/
theorem c_load (c T d Td : Nat) (C : CacheM) (D : DiskM) (b : Int) {l : List UInt8} (s : TH) (hT : 10 ≤ T) (hTd : 10 ≤ Td) (hTT : T + 10 ≤ Td ∨ Td + 10 ≤ T) (hc : Cache s c T d C) (hd : Disk s d Td D) (hb : D.has b) (hl : D.blocks[b.toNat]? = some l) (hf : D.fails b ≤ 0) (hnf : C.find b = none) : TRet Tryz.prog 346 #[.pointer (some ⟨c, 0, none⟩), .int .i64 b] s fun v s' => ∃ q e, v = .tuple #[.pointer q, .int .i64 e] ∧ Ch [T, T + 1, T + 2, T + 3] s s' ∧ ((e = 60 ∧ C.room = none ∧ q = none ∧ Cache s' c T d C) ∨ (e = 0 ∧ ∃ l' r' m' bp' bh', C.room = some l' ∧ q = some ⟨bp' b, 0, none⟩ ∧ CacheP s' c T d { C with l := l' ++ [⟨b, l, 0, 0⟩] } r' m' bp' bh')) := by
  obtain ⟨⟨r, m, bp, bh, hP⟩, ok⟩ := id hc
  have hcb := hP.blk
  have hcm := hP.map
  have hbu := hP.bufs
  have hby := hP.bufy
  refine F346_calls _ _  ?_
  unfold F346
  refine nz_i ?_
  first | refine ld_t hcb rfl ?_
  refine dMap_i ?_
  refine nz_i ?_
  first | refine ld_t hcb rfl ?_
  refine dInt_i ?_
  refine mlen_t u349 hcm ?_
  have hml : m.length = C.l.length := by have := hP.mo.keys.length_eq; simpa using this
  refine dInt_i ?_
  refine ⟨?_, ?_⟩
  ·
    first | refine ld_t hcb rfl ?_
    refine dInt_i ?_
    rfl
  ·
    refine tcall (c_victim c T d C _ hT hc) ?_
    rintro _ s15 ⟨vn, vb, rfl, c_1, hvic⟩
    have z_2 := c_1.size
    refine dT2 ?_
    refine dInt_i ?_
    refine dBl_i ?_
    refine jn_u ?_
    refine sB_d (fun hsB1 => ?_) (fun hsB1 => ?_)
    ·
      intro _ _ _ _
      refine dBl_i ?_
      refine sB_n (fun hsB2 => ?_) (fun hsB2 => ?_)
      ·
        refine ret_t ?_
        have c_3 := hc.mv c_1 (rngn (by simp <;> omega))
        refine ⟨_, _, rfl, ((Ch.refl [T, T + 1, T + 2, T + 3] s).ch c_1 (by simp)), .inl ⟨rfl, ?_, rfl, c_3⟩⟩
        rcases hvic with ⟨h1, _⟩ | ⟨_, h1⟩
        · rw [hsB2] at h1; cases h1
        · unfold CacheM.room; rw [if_neg (by omega), h1]; rfl
      ·
        rcases hvic with ⟨hv1, x, hx, rfl⟩ | ⟨hv1, _⟩
        rotate_left
        · rw [hv1] at hsB2; cases hsB2
        refine nz_i ?_
        have cb_4 := hcb.ch c_1 (by simp)
        first | refine ld_t cb_4 rfl ?_
        refine dPtr_i ?_
        have D_5 := hd.mv c_1 (rngn (by simp <;> omega))
        refine tcall (c_dread d Td (T + 3) D b _ hTd D_5 hb hl hf) ?_
        rintro _ s31 ⟨xa, xc, rfl, c_6, x_8⟩
        have z_7 := c_6.size
        refine dT2 ?_
        refine dSl_i ?_
        refine dInt_i ?_
        refine sB_f (by rfl) ?_
        refine jn_u ?_
        refine sB_d (fun hsB4 => ?_) (fun hsB4 => by exfalso; omega)
        refine nz_i ?_
        have cb_9 := cb_4.ch c_6 (by simp)
        first | refine ld_t cb_9 rfl ?_
        refine dMap_i ?_
        have cm_10 := hcm.ch c_1 (by simp)
        have cm_11 := cm_10.ch c_6 (by simp)
        refine del_t keyI u349 cm_11 x.blk fun s69 cm_14 c_12 hsz => ?_
        have z_13 := c_12.size
        intro _ _ _ _ _ _
        refine nz_i ?_
        have cb_15 := cb_9.on c_12 (by intro he; have h1 := cb_9.tag; have h2 := cm_11.tag; rw [he] at h1; rw [h1] at h2; revert h2; simp <;> omega)
        first | refine ld_t cb_15 rfl ?_
        refine dMap_i ?_
        refine al_t (T + 2) fun r48 s49 hr48 b_16 c_17 z_18 => ?_
        have cm_19 := cm_14.ch c_17 (by simp)
        refine upd_t keyI u349 cm_19 b (.pointer (some ⟨r48, 0, none⟩)) fun s53 cm_22 c_20 hsz2 => ?_
        have z_21 := c_20.size
        refine nz_i ?_
        have cb_23 := cb_15.ch c_17 (by simp)
        have cb_24 := cb_23.on c_20 (by intro he; have h1 := cb_23.tag; have h2 := cm_19.tag; rw [he] at h1; rw [h1] at h2; revert h2; simp <;> omega)
        first | refine ld_t cb_24 rfl ?_
        refine dMap_i ?_
        refine look_s keyI u349 z340 cm_22 b (by rw [mget_mset, if_pos rfl]) ?_
        refine dPtr_i ?_
        refine ret_t ?_
        have bu_25 := hbu.mv c_1 (tagn (by simp))
        have bu_26 := bu_25.mv c_6 (tagn (by simp))
        have bu_27 := bu_26.mv c_12 (onn (by rw [cm_11.tag]; omega))
        have bu_28 := bu_27.mv c_17 (tagn (by simp))
        have bu_29 := bu_28.mv c_20 (onn (by rw [cm_19.tag]; omega))
        have by_30 := hby.mv c_1 (tagn (by simp))
        have by_31 := by_30.mv c_6 (tagn (by simp))
        have by_32 := by_31.mv c_12 (onn (by rw [cm_11.tag]; omega))
        have by_33 := by_32.mv c_17 (tagn (by simp))
        have by_34 := by_33.mv c_20 (onn (by rw [cm_19.tag]; omega))
        have r48_35 := b_16.on c_20 (by intro he; have h1 := b_16.tag; have h2 := cm_19.tag; rw [he] at h1; rw [h1] at h2; revert h2; simp <;> omega)
        have x_36 := x_8.mv c_12 (onn (by rw [cm_11.tag]; omega))
        have x_37 := x_36.mv c_17 (tagn (by simp))
        have x_38 := x_37.mv c_20 (onn (by rw [cm_19.tag]; omega))
        have hbd : 0 ≤ b ∧ b < 2048 := by have h1 := hb; unfold DiskM.has at h1; have h2 := hd.nb; omega
        have hnb := find_nmem hnf
        have hnew : ∀ y ∈ rmB C.l x.blk, bp y.blk ≠ r48 := fun y hy => by have := (hbu.at_ y (rmB_mem.1 hy).1).lt; omega
        have hxm := freeB_mem hx
        have hlen := rmB_len hP.mo.nd hxm.1
        have hle := hP.len
        refine ⟨_, _, rfl, ((((((Ch.refl [T, T + 1, T + 2, T + 3] s).ch c_1 (by simp)).ch c_6 (by simp)).on_tag c_12 cm_11.tag (by simp)).ch c_17 (by simp)).on_tag c_20 cm_19.tag (by simp)), .inr ⟨rfl, _, _, _, _, _, ?_, ?_, addB hT cb_24 cm_22 (bu_29.sub (rmB_sub _ _)) (by_34.sub (rmB_sub _ _)) (hP.mo.del hP.map.nd x.blk) (fun h => hnb (((rmB_sub _ _).map _).subset h)) hbd r48_35 hnew ⟨x_38.sl, by have := x_38.1; rw [bvs_len] at this; omega⟩ hP.bnd (by omega)⟩⟩
        · unfold CacheM.room; rw [if_neg (by omega), hx]; rfl
        · simp
    ·
      intro _ _ _ _
      refine dBl_i ?_
      refine sB_f (by rfl) ?_
      refine nz_i ?_
      have cb_39 := hcb.ch c_1 (by simp)
      first | refine ld_t cb_39 rfl ?_
      refine dPtr_i ?_
      have D_40 := hd.mv c_1 (rngn (by simp <;> omega))
      refine tcall (c_dread d Td (T + 3) D b _ hTd D_40 hb hl hf) ?_
      rintro _ s31 ⟨xa, xc, rfl, c_41, x_43⟩
      have z_42 := c_41.size
      refine dT2 ?_
      refine dSl_i ?_
      refine dInt_i ?_
      refine sB_f (by rfl) ?_
      refine jn_u ?_
      refine sB_d (fun hsB7 => by exfalso; omega) (fun hsB7 => ?_)
      intro _ _ _ _ _ _
      refine nz_i ?_
      have cb_44 := cb_39.ch c_41 (by simp)
      first | refine ld_t cb_44 rfl ?_
      refine dMap_i ?_
      refine al_t (T + 2) fun r48 s49 hr48 b_45 c_46 z_47 => ?_
      have cm_48 := hcm.ch c_1 (by simp)
      have cm_49 := cm_48.ch c_41 (by simp)
      have cm_50 := cm_49.ch c_46 (by simp)
      refine upd_t keyI u349 cm_50 b (.pointer (some ⟨r48, 0, none⟩)) fun s53 cm_53 c_51 hsz2 => ?_
      have z_52 := c_51.size
      refine nz_i ?_
      have cb_54 := cb_44.ch c_46 (by simp)
      have cb_55 := cb_54.on c_51 (by intro he; have h1 := cb_54.tag; have h2 := cm_50.tag; rw [he] at h1; rw [h1] at h2; revert h2; simp <;> omega)
      first | refine ld_t cb_55 rfl ?_
      refine dMap_i ?_
      refine look_s keyI u349 z340 cm_53 b (by rw [mget_mset, if_pos rfl]) ?_
      refine dPtr_i ?_
      refine ret_t ?_
      have bu_56 := hbu.mv c_1 (tagn (by simp))
      have bu_57 := bu_56.mv c_41 (tagn (by simp))
      have bu_58 := bu_57.mv c_46 (tagn (by simp))
      have bu_59 := bu_58.mv c_51 (onn (by rw [cm_50.tag]; omega))
      have by_60 := hby.mv c_1 (tagn (by simp))
      have by_61 := by_60.mv c_41 (tagn (by simp))
      have by_62 := by_61.mv c_46 (tagn (by simp))
      have by_63 := by_62.mv c_51 (onn (by rw [cm_50.tag]; omega))
      have r48_64 := b_45.on c_51 (by intro he; have h1 := b_45.tag; have h2 := cm_50.tag; rw [he] at h1; rw [h1] at h2; revert h2; simp <;> omega)
      have x_65 := x_43.mv c_46 (tagn (by simp))
      have x_66 := x_65.mv c_51 (onn (by rw [cm_50.tag]; omega))
      have hbd : 0 ≤ b ∧ b < 2048 := by have h1 := hb; unfold DiskM.has at h1; have h2 := hd.nb; omega
      have hnb := find_nmem hnf
      have hnew : ∀ y ∈ C.l, bp y.blk ≠ r48 := fun y hy => by have := (hbu.at_ y hy).lt; omega
      refine ⟨_, _, rfl, (((((Ch.refl [T, T + 1, T + 2, T + 3] s).ch c_1 (by simp)).ch c_41 (by simp)).ch c_46 (by simp)).on_tag c_51 cm_50.tag (by simp)), .inr ⟨rfl, _, _, _, _, _, ?_, ?_, addB hT cb_55 cm_53 bu_59 by_63 hP.mo hnb hbd r48_64 hnew ⟨x_66.sl, by have := x_66.1; rw [bvs_len] at this; omega⟩ hP.bnd (by omega)⟩⟩
      · unfold CacheM.room; rw [if_pos (by omega)]
      · simp
end Go.Proofs.YtdlelcpkelginaaGreat.E
/- Contracts of functions. -/
namespace Go.Proofs.YtdlelcpkelginaaGreat.E
open Go Go.Proofs Go.RowKit Go.Maps Go.Shelf Go.Sort
set_option linter.unusedVariables false
set_option linter.unusedSimpArgs false
theorem get_hit {C : CacheM} {bs : List (List UInt8)} {b : Int} {x : BufM} (h : C.find b = some x) : C.get bs b = ({ C with l := rmB C.l b ++ [{ x with used := C.clock + 1 }], clock := C.clock + 1, hits := C.hits + 1 }, 0) := by unfold CacheM.get; rw [h]
theorem get_full {C : CacheM} {bs : List (List UInt8)} {b : Int} (h : C.find b = none) (hr : C.room = none) : C.get bs b = ({ C with misses := C.misses + 1 }, 60) := by unfold CacheM.get; rw [h]; simp only; rw [hr]
theorem get_load {C : CacheM} {bs : List (List UInt8)} {b : Int} {l : List BufM} {y : List UInt8} (h : C.find b = none) (hr : C.room = some l) (hy : bs[b.toNat]? = some y) : C.get bs b = ({ C with l := l ++ [⟨b, y, 0, C.clock + 1⟩], clock := C.clock + 1, misses := C.misses + 1 }, 0) := by unfold CacheM.get; rw [h]; simp only; rw [hr, hy]; rfl
theorem room_mem {C : CacheM} {l : List BufM} (h : C.room = some l) : l.Sublist C.l := by
  unfold CacheM.room at h
  split at h
  · cases h; exact List.Sublist.refl _
  · cases hf : freeB C.l with
    | none => rw [hf] at h; cases h
    | some v => rw [hf] at h; cases h; exact rmB_sub _ _
theorem COk.push {C C' : CacheM} (ok : COk C) {l1 : List BufM} (hs : l1.Sublist C.l) {x : BufM} (hx : x.used = C.clock + 1) (hl : C'.l = l1 ++ [x]) (hk : C'.clock = C.clock + 1) (hb : C.clock + 1 ≤ 9223372036854775807) (hc : 0 ≤ C'.hits ∧ C'.hits ≤ 9223372036854775807 ∧ 0 ≤ C'.misses ∧ C'.misses ≤ 9223372036854775807) (hp : 0 ≤ x.pins ∧ x.pins ≤ 100) : COk C' := by
  have h0 := ok.clk
  refine ⟨?_, fun y hy => ?_, by omega, hc, fun y hy => ?_⟩
  · rw [hl, List.pairwise_append]
    refine ⟨ok.srt.sublist hs, List.pairwise_singleton _ _, fun a ha z hz => ?_⟩
    rw [List.mem_singleton] at hz; subst hz
    have := ok.rng a (hs.subset ha); omega
  · rw [hl, List.mem_append] at hy
    rcases hy with hy | hy
    · have := ok.rng y (hs.subset hy); omega
    · rw [List.mem_singleton] at hy; subst hy; omega
  · rw [hl, List.mem_append] at hy
    rcases hy with hy | hy
    · exact ok.pin y (hs.subset hy)
    · rw [List.mem_singleton] at hy; subst hy; exact hp
theorem Bufs.one {s2 s3 : TH} {τ : Nat} {l l' : List BufM} {bp : Int → Nat} {bh bh' : Int → Hd} {b pins used : Int} (h : Bufs s2 τ l bp bh) (hon : On (bp b) s2 s3) (hb : Blk s3 (bp b) (bufv (bh' b) pins used) 344 τ)
    (hl : ∀ y ∈ l', (y ∈ l ∧ bp y.blk ≠ bp b ∧ bh' y.blk = bh y.blk) ∨ (y.blk = b ∧ y.pins = pins ∧ y.used = used)) : Bufs s3 τ l' bp bh' :=
  ⟨fun y hy => by
    rcases hl y hy with ⟨h1, h2, h3⟩ | ⟨h1, h2, h3⟩
    · rw [h3]; exact (h.at_ y h1).on hon h2
    · rw [h1, h2, h3]; exact hb⟩
theorem MapOf.pne {m : List (Int × Value)} {l : List BufM} {bp : Int → Nat} (h : MapOf m l bp) {x y : BufM} (hx : x ∈ l) (hy : y ∈ l) (hn : y.blk ≠ x.blk) : bp y.blk ≠ bp x.blk := fun e => hn (h.inj y hy x hx e)
/-- a buffer that was used goes behind all others -/
theorem touch_keys {l : List BufM} (hn : (l.map (·.blk)).Nodup) {x : BufM} (hx : x ∈ l) (u : Int) : ((rmB l x.blk ++ [{ x with used := u }] : List BufM).map (·.blk)).Perm (l.map (·.blk)) := by
  rw [List.map_append, rmB_keys hn]
  have h : (l.map (·.blk)).Perm (x.blk :: (l.map (·.blk)).erase x.blk) := List.perm_cons_erase (List.mem_map.2 ⟨x, hx, rfl⟩)
  exact (List.perm_append_comm).trans h.symm
theorem rmB_add {l : List BufM} {x : BufM} (h : x.blk ∉ l.map (·.blk)) : rmB (l ++ [x]) x.blk = l := by
  unfold rmB
  rw [List.filter_append]
  simp only [List.filter_cons, beq_self_eq_true, Bool.not_true, Bool.false_eq_true, if_false, List.filter_nil, List.append_nil]
  rw [List.filter_eq_self]
  intro y hy
  have : y.blk ≠ x.blk := fun e => h (e ▸ List.mem_map.2 ⟨y, hy, rfl⟩)
  simpa using this
theorem touchP {s2 s3 : TH} {c T d r : Nat} {C1 C2 : CacheM} {m : List (Int × Value)} {bp : Int → Nat} {bh : Int → Hd} {x : BufM} {u : Int} (hblk : Blk s3 c [.pointer (some ⟨d, 0, none⟩), .int .i64 C2.bound, .map (some r), .int .i64 C2.clock, .int .i64 C2.hits, .int .i64 C2.misses] 351 T)
    (hmap : MapK (Value.int .i64) s3 r m (T + 1)) (hbu : Bufs s2 (T + 2) C1.l bp bh) (hy : BufY s3 (T + 3) C1.l bh) (mo : MapOf m C1.l bp) (hx : x ∈ C1.l) (hon : On (bp x.blk) s2 s3) (hb : Blk s3 (bp x.blk) (bufv (bh x.blk) x.pins u) 344 (T + 2))
    (hl : C2.l = rmB C1.l x.blk ++ [{ x with used := u }]) (bnd : 1 ≤ C2.bound ∧ C2.bound ≤ 64) (len : (C1.l.length : Int) ≤ C2.bound) : CacheP s3 c T d C2 r m bp bh := by
  have hp := touch_keys mo.nd hx u
  refine ⟨hblk, hmap, hbu.one hon hb fun y hy' => ?_, ⟨fun y hy' => ?_⟩, by rw [hl]; exact mo.again hp, bnd, by rw [hl]; have := hp.length_eq; simp only [List.length_map] at this; omega⟩
  · rw [hl, List.mem_append] at hy'
    rcases hy' with h | h
    · exact .inl ⟨(rmB_mem.1 h).1, mo.pne hx (rmB_mem.1 h).1 (rmB_mem.1 h).2, rfl⟩
    · rw [List.mem_singleton] at h; subst h; exact .inr ⟨rfl, rfl, rfl⟩
  · rw [hl, List.mem_append] at hy'
    rcases hy' with h | h
    · exact hy.at_ y (rmB_mem.1 h).1
    · rw [List.mem_singleton] at h; subst h; exact hy.at_ x hx
/-- (*bollard/cache.Cache).get -/
theorem c_get (c T d Td : Nat) (C : CacheM) (D : DiskM) (b : Int) (s : TH) (hT : 10 ≤ T) (hTd : 10 ≤ Td) (hTT : T + 10 ≤ Td ∨ Td + 10 ≤ T) (hc : Cache s c T d C) (hd : Disk s d Td D) (hl : D.has b → ∃ l, D.blocks[b.toNat]? = some l) (hf : D.fails b ≤ 0) (hk : C.clock < 9223372036854775807 ∧ C.hits < 9223372036854775807 ∧ C.misses < 9223372036854775807) : TRet Tryz.prog 278 #[.pointer (some ⟨c, 0, none⟩), .int .i64 b] s fun v s' => ∃ q e, v = .tuple #[.pointer q, .int .i64 e] ∧ Ch [T, T + 1, T + 2, T + 3] s s' ∧ ((¬ D.has b ∧ e = 1 ∧ Cache s' c T d C) ∨ (D.has b ∧ e = (C.get D.blocks b).2 ∧ Cache s' c T d (C.get D.blocks b).1 ∧ (e = 0 → ∃ r m bp bh, ∃ x : BufM, CacheP s' c T d (C.get D.blocks b).1 r m bp bh ∧ q = some ⟨bp b, 0, none⟩ ∧ x ∈ (C.get D.blocks b).1.l ∧ x.blk = b))) := by
  obtain ⟨⟨r, m, bp, bh, hP⟩, ok⟩ := id hc
  have hcb := hP.blk
  have hcm := hP.map
  have hbu := hP.bufs
  have hby := hP.bufy
  refine F278_calls _ _  ?_
  unfold F278
  refine tcall (c_clook c T d Td C D b _ hT hTd hTT hc hd) ?_
  rintro _ s2 ⟨rfl, c_1⟩
  have z_2 := c_1.size
  refine dInt_i ?_
  refine sB_ne (fun hsB1 => ?_) (fun hsB1 => ?_)
  ·
    refine ret_t ?_
    have c_3 := hc.mv c_1 (rngn (by simp <;> omega))
    have hn : ¬ D.has b := fun h => hsB1 (if_pos h)
    exact ⟨_, _, rfl, ((Ch.refl [T, T + 1, T + 2, T + 3] s).ch c_1 (by simp)), .inl ⟨hn, if_neg hn, c_3⟩⟩
  ·
    have hh : D.has b := by
      by_cases h : D.has b
      · exact h
      · rw [if_neg h] at hsB1; cases hsB1
    refine nz_i ?_
    have cb_4 := hcb.ch c_1 (by simp)
    first | refine ld_t cb_4 rfl ?_
    refine dMap_i ?_
    rcases hfd : C.find b with _ | x
    ·
      have cm_5 := hcm.ch c_1 (by simp)
      refine look_okn keyI u349 z340 cm_5 b (hP.mo.get_none hfd) ?_
      refine dT2 ?_
      refine dPtr_i ?_
      refine dBl_i ?_
      refine jn_u ?_
      refine sB_f (by rfl) ?_
      refine nz_i ?_
      first | refine ld_t cb_4 rfl ?_
      refine dInt_i ?_
      refine wr_t (by have := ok.cnt; have := ok.clk; omega) ?_
      refine nz_i ?_
      refine st_t cb_4 rfl (by simp) fun s70 b_6 c_7 z_8 => ?_
      obtain ⟨l0, hl0⟩ := hl hh
      have cm_9 := cm_5.on c_7 (by intro he; have h1 := cm_5.tag; have h2 := cb_4.tag; rw [he] at h1; rw [h1] at h2; revert h2; simp <;> omega)
      have bu_10 := hbu.mv c_1 (tagn (by simp))
      have bu_11 := bu_10.mv c_7 (onn (by rw [cb_4.tag]; omega))
      have by_12 := hby.mv c_1 (tagn (by simp))
      have by_13 := by_12.mv c_7 (onn (by rw [cb_4.tag]; omega))
      have hC1 : Cache s70 c T d { C with misses := C.misses + 1 } := ⟨⟨r, m, bp, bh, ⟨b_6, cm_9, bu_11, by_13, hP.mo, hP.bnd, hP.len⟩⟩, ⟨ok.srt, ok.rng, ok.clk, ⟨ok.cnt.1, ok.cnt.2.1, by have := ok.cnt; simp only; omega, by simp only; omega⟩, ok.pin⟩⟩
      have D_14 := hd.mv c_1 (rngn (by simp <;> omega))
      have D_15 := D_14.mv c_7 (rngO (by rw [cb_4.tag]; omega))
      refine tcall (c_load c T d Td _ D b _ hT hTd hTT hC1 D_15 hh hl0 hf hfd) ?_
      rintro _ s72 ⟨q, e, rfl, c_16, hres⟩
      have z_17 := c_16.size
      refine dT2 ?_
      refine dPtr_i ?_
      refine dInt_i ?_
      refine sB_ne (fun hsB3 => ?_) (fun hsB3 => ?_)
      ·
        refine ret_t ?_
        rcases hres with ⟨rfl, hr, rfl, hC2⟩ | ⟨h1, _⟩
        · rw [get_full hfd hr]; exact ⟨_, _, rfl, ((((Ch.refl [T, T + 1, T + 2, T + 3] s).ch c_1 (by simp)).on_tag c_7 cb_4.tag (by simp)).ch c_16 (by simp)), .inr ⟨hh, rfl, hC2, fun h => by cases h⟩⟩
        · exact absurd h1 hsB3
      ·
        intro _ _ _ _ _ _ _ _ _ _ _ _ _ _ _ _ _ _ _ _ _ _ _ _ _ _ _ _ _
        refine dPtr_i ?_
        rcases hres with ⟨h1, _⟩ | ⟨_, l2, r2, m2, bp2, bh2, hr, rfl, hP2⟩
        · rw [h1] at hsB3; cases hsB3
        have hcb2 : Blk s72 c [.pointer (some ⟨d, 0, none⟩), .int .i64 C.bound, .map (some r2), .int .i64 C.clock, .int .i64 C.hits, .int .i64 (C.misses + 1)] 351 T := hP2.blk
        have hcm2 := hP2.map
        have hbu2 := hP2.bufs
        have hby2 := hP2.bufy
        have hxm : (⟨b, l0, 0, 0⟩ : BufM) ∈ l2 ++ [⟨b, l0, 0, 0⟩] := by simp
        refine nz_i ?_
        first | refine ld_t hcb2 rfl ?_
        refine dInt_i ?_
        refine wr_t (by have := ok.cnt; have := ok.clk; omega) ?_
        refine nz_i ?_
        refine st_t hcb2 rfl (by simp) fun s52 b_18 c_19 z_20 => ?_
        refine nz_i ?_
        first | refine ld_t b_18 rfl ?_
        refine dInt_i ?_
        have bu_21 := hbu2.mv c_19 (onn (by rw [hcb2.tag]; omega))
        have hxb := (bu_21).at_ _ hxm
        have hbu3 := bu_21
        refine nz_i ?_
        refine st_t hxb rfl (by simp [bufv]) fun s57 b_22 c_23 z_24 => ?_
        refine ret_t ?_
        have cb_25 := b_18.on c_23 (by intro he; have h1 := b_18.tag; have h2 := hxb.tag; rw [he] at h1; rw [h1] at h2; revert h2; simp <;> omega)
        have cm_26 := hcm2.on c_19 (by intro he; have h1 := hcm2.tag; have h2 := hcb2.tag; rw [he] at h1; rw [h1] at h2; revert h2; simp <;> omega)
        have cm_27 := cm_26.on c_23 (by intro he; have h1 := cm_26.tag; have h2 := hxb.tag; rw [he] at h1; rw [h1] at h2; revert h2; simp <;> omega)
        have by_28 := hby2.mv c_19 (onn (by rw [hcb2.tag]; omega))
        have by_29 := by_28.mv c_23 (onn (by rw [hxb.tag]; omega))
        have hnb : b ∉ l2.map (·.blk) := fun h => find_nmem hfd (((room_mem hr).map _).subset h)
        rw [get_load hfd hr hl0]
        have hPP : CacheP s57 c T d { C with l := l2 ++ [⟨b, l0, 0, C.clock + 1⟩], clock := C.clock + 1, misses := C.misses + 1 } r2 m2 bp2 bh2 := touchP (C1 := { C with misses := C.misses + 1, l := l2 ++ [⟨b, l0, 0, 0⟩] }) cb_25 cm_27 hbu3 by_29 hP2.mo hxm c_23 b_22 (by rw [rmB_add (l := l2) (x := ⟨b, l0, 0, 0⟩) hnb]) hP.bnd hP2.len
        exact ⟨_, _, rfl, ((((((Ch.refl [T, T + 1, T + 2, T + 3] s).ch c_1 (by simp)).on_tag c_7 cb_4.tag (by simp)).ch c_16 (by simp)).on_tag c_19 hcb2.tag (by simp)).on_tag c_23 hxb.tag (by simp)), .inr ⟨hh, rfl, ⟨⟨_, _, _, _, hPP⟩, ok.push (room_mem hr) rfl rfl rfl (by omega) (by have := ok.cnt; simp only; omega) (by simp)⟩, fun _ => ⟨_, _, _, _, _, hPP, rfl, List.mem_append_right _ (List.mem_singleton.2 rfl), rfl⟩⟩⟩
    ·
      have cm_30 := hcm.ch c_1 (by simp)
      refine look_oks keyI u349 z340 cm_30 b (hP.mo.get_some hfd) ?_
      refine dT2 ?_
      refine dPtr_i ?_
      refine dBl_i ?_
      refine jn_u ?_
      refine sB_t (by rfl) ?_
      refine nz_i ?_
      first | refine ld_t cb_4 rfl ?_
      refine dInt_i ?_
      refine wr_t (by have := ok.cnt; have := ok.clk; omega) ?_
      refine nz_i ?_
      refine st_t cb_4 rfl (by simp) fun s64 b_31 c_32 z_33 => ?_
      intro _ _ _ _ _ _ _ _ _ _ _ _ _ _ _ _ _ _ _ _ _ _ _ _ _ _ _ _ _
      refine dPtr_i ?_
      refine nz_i ?_
      first | refine ld_t b_31 rfl ?_
      refine dInt_i ?_
      refine wr_t (by have := ok.cnt; have := ok.clk; omega) ?_
      refine nz_i ?_
      refine st_t b_31 rfl (by simp) fun s52 b_34 c_35 z_36 => ?_
      have bu_37 := hbu.mv c_1 (tagn (by simp))
      have bu_38 := bu_37.mv c_32 (onn (by rw [cb_4.tag]; omega))
      have bu_39 := bu_38.mv c_35 (onn (by rw [b_31.tag]; omega))
      obtain ⟨hxm, rfl⟩ := find_mem hfd
      have hxb := (bu_39).at_ x hxm
      have hbu2 := bu_39
      refine nz_i ?_
      first | refine ld_t b_34 rfl ?_
      refine dInt_i ?_
      refine nz_i ?_
      refine st_t hxb rfl (by simp [bufv]) fun s57 b_40 c_41 z_42 => ?_
      refine ret_t ?_
      have cb_43 := b_34.on c_41 (by intro he; have h1 := b_34.tag; have h2 := hxb.tag; rw [he] at h1; rw [h1] at h2; revert h2; simp <;> omega)
      have cm_44 := cm_30.on c_32 (by intro he; have h1 := cm_30.tag; have h2 := cb_4.tag; rw [he] at h1; rw [h1] at h2; revert h2; simp <;> omega)
      have cm_45 := cm_44.on c_35 (by intro he; have h1 := cm_44.tag; have h2 := b_31.tag; rw [he] at h1; rw [h1] at h2; revert h2; simp <;> omega)
      have cm_46 := cm_45.on c_41 (by intro he; have h1 := cm_45.tag; have h2 := hxb.tag; rw [he] at h1; rw [h1] at h2; revert h2; simp <;> omega)
      have by_47 := hby.mv c_1 (tagn (by simp))
      have by_48 := by_47.mv c_32 (onn (by rw [cb_4.tag]; omega))
      have by_49 := by_48.mv c_35 (onn (by rw [b_31.tag]; omega))
      have by_50 := by_49.mv c_41 (onn (by rw [hxb.tag]; omega))
      rw [get_hit hfd]
      have hPP : CacheP s57 c T d { C with l := rmB C.l x.blk ++ [{ x with used := C.clock + 1 }], clock := C.clock + 1, hits := C.hits + 1 } r m bp bh := touchP (C1 := C) cb_43 cm_46 hbu2 by_50 hP.mo hxm c_41 b_40 rfl hP.bnd hP.len
      exact ⟨_, _, rfl, (((((Ch.refl [T, T + 1, T + 2, T + 3] s).ch c_1 (by simp)).on_tag c_32 cb_4.tag (by simp)).on_tag c_35 b_31.tag (by simp)).on_tag c_41 hxb.tag (by simp)), .inr ⟨hh, rfl, ⟨⟨_, _, _, _, hPP⟩, ok.push (rmB_sub _ _) rfl rfl rfl (by omega) (by have := ok.cnt; simp only; omega) (ok.pin x hxm)⟩, fun _ => ⟨_, _, _, _, _, hPP, rfl, List.mem_append_right _ (List.mem_singleton.2 rfl), rfl⟩⟩⟩
end Go.Proofs.YtdlelcpkelginaaGreat.E
/- Contracts of functions. -/
namespace Go.Proofs.YtdlelcpkelginaaGreat.E
open Go Go.Proofs Go.RowKit Go.Maps Go.Shelf Go.Sort
set_option linter.unusedVariables false
set_option linter.unusedSimpArgs false
def CacheM.bytes (C : CacheM) (b : Int) : List UInt8 := ((C.find b).map (·.by_)).getD []
theorem bytes_eq {C : CacheM} (hn : (C.l.map (·.blk)).Nodup) {x : BufM} (hx : x ∈ C.l) : C.bytes x.blk = x.by_ := by unfold CacheM.bytes CacheM.find; rw [find_nd hn hx]; rfl
/-- a buffer is changed in its place -/
def updB (l : List BufM) (b : Int) (f : BufM → BufM) : List BufM := l.map fun x => if x.blk = b then f x else x
def CacheM.put (C : CacheM) (b : Int) (y : List UInt8) : CacheM := { C with l := updB C.l b fun x => { x with by_ := y } }
def CacheM.pin1 (C : CacheM) (b : Int) : CacheM × Int :=
  match C.find b with
  | none => (C, 3)
  | some x => if x.pins ≥ 100 then (C, 3) else ({ C with l := updB C.l b fun x => { x with pins := x.pins + 1 } }, 0)
def CacheM.pin (C : CacheM) (bs : List (List UInt8)) (b : Int) : CacheM × Int := if (C.get bs b).2 = 0 then (C.get bs b).1.pin1 b else C.get bs b
theorem updB_mem {l : List BufM} {b : Int} {f : BufM → BufM} {y : BufM} (h : y ∈ updB l b f) : ∃ x ∈ l, (x.blk ≠ b ∧ y = x) ∨ (x.blk = b ∧ y = f x) := by
  unfold updB at h
  obtain ⟨x, hx, e⟩ := List.mem_map.1 h
  refine ⟨x, hx, ?_⟩
  by_cases hb : x.blk = b
  · rw [if_pos hb] at e; exact .inr ⟨hb, e.symm⟩
  · rw [if_neg hb] at e; exact .inl ⟨hb, e.symm⟩
theorem COk.upd {C C' : CacheM} (ok : COk C) {b : Int} {f : BufM → BufM} (hl : C'.l = updB C.l b f) (hu : ∀ x, (f x).used = x.used) (hp : ∀ x ∈ C.l, x.blk = b → 0 ≤ (f x).pins ∧ (f x).pins ≤ 100) (h1 : C'.clock = C.clock) (h2 : C'.hits = C.hits) (h3 : C'.misses = C.misses) : COk C' := by
  have hk := ok.clk
  have hc := ok.cnt
  refine ⟨?_, fun y hy => ?_, by omega, by omega, fun y hy => ?_⟩
  · rw [hl]; unfold updB; rw [List.pairwise_map]
    refine ok.srt.imp fun {a z} h => ?_
    have e : ∀ x : BufM, (if x.blk = b then f x else x).used = x.used := fun x => by split <;> simp [hu]
    rw [e, e]; exact h
  · rw [hl] at hy
    obtain ⟨x, hx, ⟨_, rfl⟩ | ⟨_, rfl⟩⟩ := updB_mem hy
    · have := ok.rng y hx; omega
    · have := ok.rng x hx; rw [hu]; omega
  · rw [hl] at hy
    obtain ⟨x, hx, ⟨_, rfl⟩ | ⟨hb, rfl⟩⟩ := updB_mem hy
    · exact ok.pin y hx
    · exact hp x hx hb
/-- (*bollard/cache.Cache).Get -/
theorem c_Get (c T d Td : Nat) (C : CacheM) (D : DiskM) (b : Int) (τ : Nat) (s : TH) (hT : 10 ≤ T) (hTd : 10 ≤ Td) (hTT : T + 10 ≤ Td ∨ Td + 10 ≤ T) (hc : Cache s c T d C) (hd : Disk s d Td D) (hl : D.has b → ∃ l, D.blocks[b.toNat]? = some l) (hf : D.fails b ≤ 0) (hk : C.clock < 9223372036854775807 ∧ C.hits < 9223372036854775807 ∧ C.misses < 9223372036854775807) : TRet Tryz.prog 170 #[.pointer (some ⟨c, 0, none⟩), .int .i64 b] s fun v s' => ∃ a n cc e, v = .tuple #[.slice a n cc, .int .i64 e] ∧ Ch [T, T + 1, T + 2, T + 3] s s' ∧ ((¬ D.has b ∧ e = 1 ∧ Cache s' c T d C) ∨ (D.has b ∧ e = (C.get D.blocks b).2 ∧ Cache s' c T d (C.get D.blocks b).1 ∧ (e = 0 → n = 128 ∧ Own s' a 128 cc 5 1 (bvs ((C.get D.blocks b).1.bytes b)) τ ∧ ((C.get D.blocks b).1.bytes b).length = 128))) := by
  refine F170_calls _ _  ?_
  unfold F170
  refine tcall (c_get c T d Td C D b _ hT hTd hTT hc hd hl hf hk) ?_
  rintro _ s2 ⟨q, e, rfl, c_1, hres⟩
  have z_2 := c_1.size
  refine dT2 ?_
  refine dPtr_i ?_
  refine dInt_i ?_
  refine sB_ne (fun hsB1 => ?_) (fun hsB1 => ?_)
  ·
    refine ret_t ?_
    refine ⟨_, _, _, _, rfl, ((Ch.refl [T, T + 1, T + 2, T + 3] s).ch c_1 (by simp)), ?_⟩
    rcases hres with ⟨h1, h2, h3⟩ | ⟨h1, h2, h3, h4⟩
    · exact .inl ⟨h1, h2, h3⟩
    · exact .inr ⟨h1, h2, h3, fun h => absurd h hsB1⟩
  ·
    rcases hres with ⟨_, h1, _⟩ | ⟨hh, he, hC, hx⟩
    · rw [h1] at hsB1; cases hsB1
    obtain ⟨r, m, bp, bh, x, hP, rfl, hxm, rfl⟩ := hx hsB1
    have hxb := hP.bufs.at_ x hxm
    have hyb := hP.bufy.at_ x hxm
    have hPr := hP
    refine nz_i ?_
    first | refine ld_t hxb rfl ?_
    refine dSl_i ?_
    refine tcall (c_clone τ _ hyb.sl hyb.len (fun h => by obtain ⟨y, hy⟩ := hyb.ne; rw [h] at hy; cases hy) (by omega)) ?_
    rintro _ s13 ⟨ya, yc, rfl, c_3, ny_5, hyn⟩
    have z_4 := c_3.size
    refine dSl_i ?_
    refine ret_t ?_
    have P_6 := hPr.mv c_3 (rngn (by simp <;> omega))
    have hby := bytes_eq hP.mo.nd hxm
    exact ⟨_, _, _, _, rfl, (((Ch.refl [T, T + 1, T + 2, T + 3] s).ch c_1 (by simp)).ch c_3 (by simp)), .inr ⟨hh, by rw [← he, hsB1], ⟨⟨_, _, _, _, P_6⟩, hC.ok⟩, fun _ => ⟨rfl, by rw [hby]; exact ny_5, by rw [hby]; exact hyb.len⟩⟩⟩
-- no form: (*bollard/cache.Cache).Unpin
-- no form: (*bollard/cache.Cache).Pin
-- no form: (*bollard/cache.Cache).Hits
end Go.Proofs.YtdlelcpkelginaaGreat.E
