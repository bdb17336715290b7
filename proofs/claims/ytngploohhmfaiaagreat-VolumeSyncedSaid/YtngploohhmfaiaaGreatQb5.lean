/- My own texts, joined. -/
import Derived.KernelRfl
import Derived.Test.YtngploohhmfaiaaGreatProg
import Derived.Test.YtngploohhmfaiaaGreatQb4
/- The functions' forms in the engine's words, printed by my own program. -/
namespace Go.Proofs.YtngploohhmfaiaaGreat.E
open Go Go.Proofs
set_option linter.unusedVariables false
/-- (*bollard/volume.Volume).Freeze -/
def F51 (x0 : Option Addr) (x1 : Int) (R : Ending → Heap → Prop) (H : Heap) : Prop :=
  HCalls Tryz.prog 68 #[Value.pointer x0] H (Sp.retK (fun v1 H2 =>
  dBl v1 (fun b3 =>
  sB (!b3) (R (Ending.returned (Value.int IntKind.i64 2)) H2) (nz x0 (fun a4 =>
  nz x0 (fun a5 =>
  ld H2 (Addr.add a5 6) (fun v6 =>
  dBl v6 (fun b7 =>
  sB b7 (HCallsD Tryz.prog 69 #[Value.pointer (some a4)] FrameMode.returning H2 (fun e8 u9 H10 =>
  match e8 with
| Ending.returned v => leavesV Tryz.prog Tryz.f51 (Act.tmps (Act.mk #[Value.pointer x0, Value.int IntKind.i64 x1, undef, undef, Value.int IntKind.i64 3, Value.pointer x0, Value.bool b3, Value.bool !b3, Value.pointer x0, Value.pointer (some a4), Value.pointer (some a4), Value.bool b7, Value.pointer x0, Value.pointer (some a5), Value.pointer (some (Addr.add a5 6)), Value.pointer (some (Addr.add a5 6)), Value.bool b7, undef, undef, undef, undef, undef, undef, undef, undef, undef, undef, undef, undef, undef] [Deferred.mk (Target.fn (Fn.func 69) #[]) #[Value.pointer (some a4)]])) R [] (settle u9) H10
| Ending.panicked c => leavesV Tryz.prog Tryz.f51 (Act.tmps (Act.mk #[Value.pointer x0, Value.int IntKind.i64 x1, undef, undef, Value.int IntKind.i64 3, Value.pointer x0, Value.bool b3, Value.bool !b3, Value.pointer x0, Value.pointer (some a4), Value.pointer (some a4), Value.bool b7, Value.pointer x0, Value.pointer (some a5), Value.pointer (some (Addr.add a5 6)), Value.pointer (some (Addr.add a5 6)), Value.bool b7, undef, undef, undef, undef, undef, undef, undef, undef, undef, undef, undef, undef, undef] [Deferred.mk (Target.fn (Fn.func 69) #[]) #[Value.pointer (some a4)]])) R [] (raised u9 c) H10
| Ending.outgrown => False)) (jn (α := VFH 1) (fun v11 H12 =>
  ∀ v13 v14 v15 v16 v17 v18 : Value,
  dBl v11 (fun b19 =>
  sB b19 (HCallsD Tryz.prog 69 #[Value.pointer (some a4)] FrameMode.returning H12 (fun e20 u21 H22 =>
  match e20 with
| Ending.returned v => leavesV Tryz.prog Tryz.f51 (Act.tmps (Act.mk #[Value.pointer x0, Value.int IntKind.i64 x1, undef, undef, Value.int IntKind.i64 1, Value.pointer x0, Value.bool b3, Value.bool !b3, Value.pointer x0, Value.pointer (some a4), Value.pointer (some a4), Value.bool b7, Value.pointer x0, Value.pointer (some a5), Value.pointer (some (Addr.add a5 6)), Value.pointer (some (Addr.add a5 6)), Value.bool b7, Value.bool b19, v13, v14, v15, v16, v17, v18, undef, undef, undef, undef, undef, undef] [Deferred.mk (Target.fn (Fn.func 69) #[]) #[Value.pointer (some a4)]])) R [] (settle u21) H22
| Ending.panicked c => leavesV Tryz.prog Tryz.f51 (Act.tmps (Act.mk #[Value.pointer x0, Value.int IntKind.i64 x1, undef, undef, Value.int IntKind.i64 1, Value.pointer x0, Value.bool b3, Value.bool !b3, Value.pointer x0, Value.pointer (some a4), Value.pointer (some a4), Value.bool b7, Value.pointer x0, Value.pointer (some a5), Value.pointer (some (Addr.add a5 6)), Value.pointer (some (Addr.add a5 6)), Value.bool b7, Value.bool b19, v13, v14, v15, v16, v17, v18, undef, undef, undef, undef, undef, undef] [Deferred.mk (Target.fn (Fn.func 69) #[]) #[Value.pointer (some a4)]])) R [] (raised u21 c) H22
| Ending.outgrown => False)) (al H12 (Obj.map #[] 0) (fun r23 H24 =>
  nz x0 (fun a25 =>
  st H24 (Addr.add a25 6) (Value.bool true) (fun H26 =>
  st H26 (Addr.add (Addr.add a25 6) 1) (Value.bool false) (fun H27 =>
  st H27 (Addr.add (Addr.add a25 6) 2) (Value.int IntKind.i64 x1) (fun H28 =>
  st H28 (Addr.add (Addr.add a25 6) 3) (Value.map (some r23)) (fun H29 =>
  HCallsD Tryz.prog 69 #[Value.pointer (some a4)] FrameMode.returning H29 (fun e30 u31 H32 =>
  match e30 with
| Ending.returned v => leavesV Tryz.prog Tryz.f51 (Act.tmps (Act.mk #[Value.pointer x0, Value.int IntKind.i64 x1, undef, undef, Value.int IntKind.i64 0, Value.pointer x0, Value.bool b3, Value.bool !b3, Value.pointer x0, Value.pointer (some a4), Value.pointer (some a4), Value.bool b7, Value.pointer x0, Value.pointer (some a5), Value.pointer (some (Addr.add a5 6)), Value.pointer (some (Addr.add a5 6)), Value.bool b7, Value.bool b19, v13, v14, v15, v16, v17, v18, Value.pointer x0, Value.int IntKind.i64 x1, Value.map (some r23), Value.agg #[Value.bool true, Value.bool false, Value.int IntKind.i64 x1, Value.map (some r23)], Value.pointer (some a25), Value.pointer (some (Addr.add a25 6))] [Deferred.mk (Target.fn (Fn.func 69) #[]) #[Value.pointer (some a4)]])) R [] (settle u31) H32
| Ending.panicked c => leavesV Tryz.prog Tryz.f51 (Act.tmps (Act.mk #[Value.pointer x0, Value.int IntKind.i64 x1, undef, undef, Value.int IntKind.i64 0, Value.pointer x0, Value.bool b3, Value.bool !b3, Value.pointer x0, Value.pointer (some a4), Value.pointer (some a4), Value.bool b7, Value.pointer x0, Value.pointer (some a5), Value.pointer (some (Addr.add a5 6)), Value.pointer (some (Addr.add a5 6)), Value.bool b7, Value.bool b19, v13, v14, v15, v16, v17, v18, Value.pointer x0, Value.int IntKind.i64 x1, Value.map (some r23), Value.agg #[Value.bool true, Value.bool false, Value.int IntKind.i64 x1, Value.map (some r23)], Value.pointer (some a25), Value.pointer (some (Addr.add a25 6))] [Deferred.mk (Target.fn (Fn.func 69) #[]) #[Value.pointer (some a4)]])) R [] (raised u31 c) H32
| Ending.outgrown => False)))))))))) (fun k33 =>
  sB (decide (x1 < 0)) (k33 (Value.bool true) H2) (k33 (Value.bool (decide (x1 > 65536))) H2)))))))))) (pnR R))
theorem F51_eq (x0 : Option Addr) (x1 : Int) (R : Ending → Heap → Prop) (H : Heap) : F51 x0 x1 R H = vc Tryz.prog (codeOf Tryz.f51) (.node none .leaf (.node none .leaf (.node none .leaf (.node none (.node none (.node none .leaf (.node none .leaf (.node (some ⟨[(17, 4)], [18, 19, 20, 21, 22, 23]⟩) .leaf .leaf))) .leaf) .leaf)))) (postV Tryz.prog Tryz.f51 R) ⟨#[Value.pointer x0, Value.int IntKind.i64 x1] ++ Array.replicate (Tryz.f51.ntmps - 2) undef, []⟩ H := by kernel_rfl
theorem F51_calls {R : Ending → Heap → Prop} {H : Heap} (x0 : Option Addr) (x1 : Int) (h : F51 x0 x1 R H) : HCalls Tryz.prog 51 #[Value.pointer x0, Value.int IntKind.i64 x1] H R :=
  calls_by (F := F51 x0 x1 R H) (.node none .leaf (.node none .leaf (.node none .leaf (.node none (.node none (.node none .leaf (.node none .leaf (.node (some ⟨[(17, 4)], [18, 19, 20, 21, 22, 23]⟩) .leaf .leaf))) .leaf) .leaf)))) Tryz.func51 rfl (F51_eq x0 x1 R H) h
/-- (*bollard/volume.Volume).Last -/
def F52 (x0 : Option Addr) (R : Ending → Heap → Prop) (H : Heap) : Prop :=
  HCalls Tryz.prog 68 #[Value.pointer x0] H (Sp.retK (fun v1 H2 =>
  dBl v1 (fun b3 =>
  sB (!b3) (R (Ending.returned (Value.int IntKind.i64 0)) H2) (nz x0 (fun a4 =>
  nz x0 (fun a5 =>
  ld H2 (Addr.add a5 4) (fun v6 =>
  dPtr v6 (fun p7 =>
  HCalls Tryz.prog 105 #[Value.pointer p7] H2 (Sp.retK (fun v8 H9 =>
  dInt IntKind.i64 v8 (fun n10 =>
  HCallsD Tryz.prog 69 #[Value.pointer (some a4)] FrameMode.returning H9 (fun e11 u12 H13 =>
  match e11 with
| Ending.returned v => leavesV Tryz.prog Tryz.f52 (Act.tmps (Act.mk #[Value.pointer x0, undef, Value.int IntKind.i64 n10, Value.pointer x0, Value.bool b3, Value.bool !b3, Value.pointer x0, Value.pointer (some a4), Value.pointer (some a4), Value.pointer x0, Value.pointer (some a5), Value.pointer (some (Addr.add a5 4)), Value.pointer p7, Value.int IntKind.i64 n10] [Deferred.mk (Target.fn (Fn.func 69) #[]) #[Value.pointer (some a4)]])) R [] (settle u12) H13
| Ending.panicked c => leavesV Tryz.prog Tryz.f52 (Act.tmps (Act.mk #[Value.pointer x0, undef, Value.int IntKind.i64 n10, Value.pointer x0, Value.bool b3, Value.bool !b3, Value.pointer x0, Value.pointer (some a4), Value.pointer (some a4), Value.pointer x0, Value.pointer (some a5), Value.pointer (some (Addr.add a5 4)), Value.pointer p7, Value.int IntKind.i64 n10] [Deferred.mk (Target.fn (Fn.func 69) #[]) #[Value.pointer (some a4)]])) R [] (raised u12 c) H13
| Ending.outgrown => False))) (fun c14 H15 =>
  HCallsD Tryz.prog 69 #[Value.pointer (some a4)] (FrameMode.panicking c14) H15 (fun e16 u17 H18 =>
  match e16 with
| Ending.returned v => leavesV Tryz.prog Tryz.f52 (Act.tmps (Act.mk #[Value.pointer x0, undef, Value.int IntKind.i64 0, Value.pointer x0, Value.bool b3, Value.bool !b3, Value.pointer x0, Value.pointer (some a4), Value.pointer (some a4), Value.pointer x0, Value.pointer (some a5), Value.pointer (some (Addr.add a5 4)), Value.pointer p7, undef] [Deferred.mk (Target.fn (Fn.func 69) #[]) #[Value.pointer (some a4)]])) R [] (settle u17) H18
| Ending.panicked c => leavesV Tryz.prog Tryz.f52 (Act.tmps (Act.mk #[Value.pointer x0, undef, Value.int IntKind.i64 0, Value.pointer x0, Value.bool b3, Value.bool !b3, Value.pointer x0, Value.pointer (some a4), Value.pointer (some a4), Value.pointer x0, Value.pointer (some a5), Value.pointer (some (Addr.add a5 4)), Value.pointer p7, undef] [Deferred.mk (Target.fn (Fn.func 69) #[]) #[Value.pointer (some a4)]])) R [] (raised u17 c) H18
| Ending.outgrown => False)))))))))) (pnR R))
theorem F52_eq (x0 : Option Addr) (R : Ending → Heap → Prop) (H : Heap) : F52 x0 R H = vc Tryz.prog (codeOf Tryz.f52) .leaf (postV Tryz.prog Tryz.f52 R) ⟨#[Value.pointer x0] ++ Array.replicate (Tryz.f52.ntmps - 1) undef, []⟩ H := by kernel_rfl
theorem F52_calls {R : Ending → Heap → Prop} {H : Heap} (x0 : Option Addr) (h : F52 x0 R H) : HCalls Tryz.prog 52 #[Value.pointer x0] H R :=
  calls_by (F := F52 x0 R H) .leaf Tryz.func52 rfl (F52_eq x0 R H) h
/-- bollard/bollardlaw09.change -/
def F53 (x0 : Option Addr) (x1_0 : Value) (x1_1 : Value) (x1_2 : Value) (x1_3 : Value) (x1_4 : Value) (x1_5 : Value) (R : Ending → Heap → Prop) (H : Heap) : Prop :=
  al H (Obj.cells #[x1_0, x1_1, x1_2, x1_3, x1_4, x1_5] 125) (fun r1 H2 =>
  ld H2 (Addr.mk r1 4 none) (fun v3 =>
  dSl v3 (fun p4 r5 r6 =>
  ld H2 (Addr.mk r1 4 none) (fun v7 =>
  dSl v7 (fun p8 r9 r10 =>
  semW Tryz.prog (Builtin.min_ #[3, 3] 3 #[Value.int IntKind.i64 (↑r9 : Int), Value.int IntKind.i64 128]) (pnR R) H2 (fun v13 H14 =>
  dInt IntKind.i64 v13 (fun n15 =>
  ask ((0 : Int) ≤ (0 : Int) ∧ (0 : Int) ≤ n15 ∧ n15 ≤ (↑r6 : Int) ∧ (↑r6 : Int) ≤ (↑r6 : Int)) (jn (α := VFH 1) (fun v16 H17 =>
  ∀ v18 v19 v20 v21 v22 v23 v24 : Value,
  dSl v16 (fun p25 r26 r27 =>
  ld H17 (Addr.mk r1 5 none) (fun v28 =>
  dSl v28 (fun p29 r30 r31 =>
  ∃ I32 : List Value → Heap → Prop,
  ∃ I33 : List Value → Heap → Nat,
  (I32 ([Value.slice none 0 0, Value.int IntKind.i64 0]) H17) ∧
  ∀ p34 : Option Addr,
  ∀ r35 : Nat,
  ∀ r36 : Nat,
  ∀ n37 : Int,
  ∀ v38 v39 v40 v41 v42 v43 v44 v45 v46 v47 v48 v49 v50 v51 v52 v53 v54 v55 v56 : Value,
  ∀ H57 : Heap,
  (I32 ([Value.slice p34 r35 r36, Value.int IntKind.i64 n37]) H57) →
  sB (decide (n37 < (↑r30 : Int))) (jn (α := VFH 1) (fun v59 H60 =>
  ∀ v61 v62 v63 v64 v65 v66 v67 v68 v69 v70 v71 v72 v73 v74 v75 v76 v77 : Value,
  dSl v59 (fun p78 r79 r80 =>
  wr IntKind.i64 (n37 + 1) (fun n81 =>
  (I32 ([Value.slice p78 r79 r80, Value.int IntKind.i64 n81]) H60) ∧
  (I33 [Value.slice p78 r79 r80, Value.int IntKind.i64 n81] H60) < (I33 [Value.slice p34 r35 r36, Value.int IntKind.i64 n37] H57)))) (fun k82 =>
  nz p29 (fun a83 =>
  ask ((0 : Int) ≤ n37 ∧ n37 < (↑r30 : Int)) (ld H57 (Addr.add a83 (Int.toNat n37 * 1)) (fun v84 =>
  dInt IntKind.i64 v84 (fun n85 =>
  HCalls Tryz.prog 52 #[Value.pointer x0] H57 (Sp.retK (fun v86 H87 =>
  dInt IntKind.i64 v86 (fun n88 =>
  sB (decide (n88 > 0)) (wr IntKind.u64 n85 (fun n89 =>
  HCalls Tryz.prog 52 #[Value.pointer x0] H87 (Sp.retK (fun v90 H91 =>
  dInt IntKind.i64 v90 (fun n92 =>
  wr IntKind.u64 n92 (fun n93 =>
  ask (n93 ≠ (0 : Int)) (nm (Int.tmod n89 n93) (fun n94 =>
  wr IntKind.i64 n94 (fun n95 =>
  wr IntKind.i64 (1 + n95) (fun n96 =>
  al H91 (Obj.cells #[Value.int IntKind.i64 n96] 3) (fun r97 H98 =>
  semW Tryz.prog (Builtin.append_ #[73, 73] 73 #[Value.slice p34 r35 r36, Value.slice (some (Addr.mk r97 0 none)) 1 1]) (pnR R) H98 (fun v101 H102 =>
  dSl v101 (fun p103 r104 r105 =>
  k82 (Value.slice p103 r104 r105) H102)))))))))) (pnR R)))) (k82 (Value.slice p34 r35 r36) H87))) (pnR R)))))))) (ld H57 (Addr.mk r1 1 none) (fun v110 =>
  dInt IntKind.i64 v110 (fun n111 =>
  wr IntKind.u64 n111 (fun n112 =>
  ld H57 (Addr.mk r1 2 none) (fun v113 =>
  dInt IntKind.i64 v113 (fun n114 =>
  wr IntKind.u64 n114 (fun n115 =>
  (HCalls Tryz.prog 24 #[Value.pointer x0] H57 (Sp.retK (fun v116 H117 =>
  dInt IntKind.i64 v116 (fun n118 =>
  (ld H117 (Addr.mk r1 2 none) (fun v119 =>
  dInt IntKind.i64 v119 (fun n120 =>
  (Value.int IntKind.i64 n120) = (Value.int IntKind.i64 n114)))) ∧
  (ld H117 (Addr.mk r1 1 none) (fun v121 =>
  dInt IntKind.i64 v121 (fun n122 =>
  (Value.int IntKind.i64 n122) = (Value.int IntKind.i64 n111)))) ∧
  wr IntKind.u64 n118 (fun n123 =>
  ask (n123 ≠ (0 : Int)) (nm (Int.tmod n112 n123) (fun n124 =>
  wr IntKind.i64 n124 (fun n125 =>
  (ld H117 (Addr.mk r1 2 none) (fun v126 =>
  dInt IntKind.i64 v126 (fun n127 =>
  (Value.int IntKind.i64 n127) = (Value.int IntKind.i64 n114)))) ∧
  (ld H117 (Addr.mk r1 1 none) (fun v128 =>
  dInt IntKind.i64 v128 (fun n129 =>
  (Value.int IntKind.i64 n129) = (Value.int IntKind.i64 n111)))) ∧
  wr IntKind.i64 (129 - (↑r26 : Int)) (fun n130 =>
  wr IntKind.u64 n130 (fun n131 =>
  ask (n131 ≠ (0 : Int)) (nm (Int.tmod n115 n131) (fun n132 =>
  wr IntKind.i64 n132 (fun n133 =>
  HCalls Tryz.prog 25 #[Value.pointer x0, Value.int IntKind.i64 n125, Value.int IntKind.i64 n133, Value.slice p25 r26 r27, Value.slice p34 r35 r36] H117 (Sp.retK (fun v134 H135 =>
  dT 2 v134 (fun v136 v137 =>
  dInt IntKind.i64 v136 (fun n138 =>
  dInt IntKind.i64 v137 (fun n139 =>
  sB (n139 == 0) (HCalls Tryz.prog 52 #[Value.pointer x0] H135 (Sp.retK (fun v140 H141 =>
  dInt IntKind.i64 v140 (fun n142 =>
  R (Ending.returned (Value.bool (n138 == n142))) H141)) (pnR R))) (R (Ending.returned (Value.bool false)) H135))))) nopR)))))))))))) nopR)) ∧
  (ld H57 (Addr.mk r1 2 none) (fun v149 =>
  dInt IntKind.i64 v149 (fun n150 =>
  (Value.int IntKind.i64 n150) = (Value.int IntKind.i64 n114)))) ∧
  (ld H57 (Addr.mk r1 1 none) (fun v151 =>
  dInt IntKind.i64 v151 (fun n152 =>
  (Value.int IntKind.i64 n152) = (Value.int IntKind.i64 n111)))) ∧
  wr IntKind.i64 (129 - (↑r26 : Int)) (fun n153 =>
  wr IntKind.u64 n153 (fun n154 =>
  ask (n154 ≠ (0 : Int)) (nm (Int.tmod n115 n154) (fun n155 =>
  wr IntKind.i64 n155 (fun n156 =>
  HCalls Tryz.prog 24 #[Value.pointer x0] H57 (Sp.retK (fun v157 H158 =>
  dInt IntKind.i64 v157 (fun n159 =>
  (ld H158 (Addr.mk r1 2 none) (fun v160 =>
  dInt IntKind.i64 v160 (fun n161 =>
  (Value.int IntKind.i64 n161) = (Value.int IntKind.i64 n114)))) ∧
  (ld H158 (Addr.mk r1 1 none) (fun v162 =>
  dInt IntKind.i64 v162 (fun n163 =>
  (Value.int IntKind.i64 n163) = (Value.int IntKind.i64 n111)))) ∧
  wr IntKind.u64 n159 (fun n164 =>
  ask (n164 ≠ (0 : Int)) (nm (Int.tmod n112 n164) (fun n165 =>
  wr IntKind.i64 n165 (fun n166 =>
  HCalls Tryz.prog 25 #[Value.pointer x0, Value.int IntKind.i64 n166, Value.int IntKind.i64 n156, Value.slice p25 r26 r27, Value.slice p34 r35 r36] H158 (Sp.retK (fun v167 H168 =>
  dT 2 v167 (fun v169 v170 =>
  dInt IntKind.i64 v169 (fun n171 =>
  dInt IntKind.i64 v170 (fun n172 =>
  sB (n172 == 0) (HCalls Tryz.prog 52 #[Value.pointer x0] H168 (Sp.retK (fun v173 H174 =>
  dInt IntKind.i64 v173 (fun n175 =>
  R (Ending.returned (Value.bool (n171 == n175))) H174)) (pnR R))) (R (Ending.returned (Value.bool false)) H168))))) nopR))))))) nopR))))))))))))))))) (fun k182 =>
  sB ((↑(Int.toNat n15 - Int.toNat 0) : Int) == 0) (ld H14 (Addr.mk r1 3 none) (fun v183 =>
  dInt IntKind.i64 v183 (fun n184 =>
  wr IntKind.u8 n184 (fun n185 =>
  al H14 (Obj.cells #[Value.int IntKind.u8 n185] 5) (fun r186 H187 =>
  k182 (Value.slice (some (Addr.mk r186 0 none)) 1 1) H187))))) (k182 (Value.slice (slO p4 1 0 (↑r6 : Int)) (Int.toNat n15 - Int.toNat 0) (Int.toNat (↑r6 : Int) - Int.toNat 0)) H14))))))))))
theorem F53_eq (x0 : Option Addr) (x1_0 : Value) (x1_1 : Value) (x1_2 : Value) (x1_3 : Value) (x1_4 : Value) (x1_5 : Value) (R : Ending → Heap → Prop) (H : Heap) : F53 x0 x1_0 x1_1 x1_2 x1_3 x1_4 x1_5 R H = vc Tryz.prog (codeOf Tryz.f53) (.node none .leaf (.node none .leaf (.node (some ⟨[(5, 38)], [18, 19, 20, 21, 22, 23, 24]⟩) .leaf (.node none .leaf (.node none (.node none .leaf (.node none (.node (some ⟨[(6, 73), (28, 3)], [8, 29, 30, 31, 32, 33, 34, 35, 36, 37, 38, 39, 40, 41, 42, 43, 44, 45, 46]⟩) (.node none .leaf (.node none .leaf (.node (some ⟨[(6, 73)], [8, 30, 31, 32, 33, 34, 35, 36, 37, 38, 39, 40, 41, 42, 43, 44, 45]⟩) .leaf .leaf))) .leaf) .leaf)) .leaf))))) (postV Tryz.prog Tryz.f53 R) ⟨#[Value.pointer x0, Value.agg #[x1_0, x1_1, x1_2, x1_3, x1_4, x1_5]] ++ Array.replicate (Tryz.f53.ntmps - 2) undef, []⟩ H := by kernel_rfl
theorem F53_calls {R : Ending → Heap → Prop} {H : Heap} (x0 : Option Addr) (x1_0 : Value) (x1_1 : Value) (x1_2 : Value) (x1_3 : Value) (x1_4 : Value) (x1_5 : Value) (h : F53 x0 x1_0 x1_1 x1_2 x1_3 x1_4 x1_5 R H) : HCalls Tryz.prog 53 #[Value.pointer x0, Value.agg #[x1_0, x1_1, x1_2, x1_3, x1_4, x1_5]] H R :=
  calls_by (F := F53 x0 x1_0 x1_1 x1_2 x1_3 x1_4 x1_5 R H) (.node none .leaf (.node none .leaf (.node (some ⟨[(5, 38)], [18, 19, 20, 21, 22, 23, 24]⟩) .leaf (.node none .leaf (.node none (.node none .leaf (.node none (.node (some ⟨[(6, 73), (28, 3)], [8, 29, 30, 31, 32, 33, 34, 35, 36, 37, 38, 39, 40, 41, 42, 43, 44, 45, 46]⟩) (.node none .leaf (.node none .leaf (.node (some ⟨[(6, 73)], [8, 30, 31, 32, 33, 34, 35, 36, 37, 38, 39, 40, 41, 42, 43, 44, 45]⟩) .leaf .leaf))) .leaf) .leaf)) .leaf))))) Tryz.func53 rfl (F53_eq x0 x1_0 x1_1 x1_2 x1_3 x1_4 x1_5 R H) h
/-- (*bollard/volume.Volume).Undo -/
def F54 (x0 : Option Addr) (x1 : Int) (R : Ending → Heap → Prop) (H : Heap) : Prop :=
  HCalls Tryz.prog 68 #[Value.pointer x0] H (Sp.retK (fun v1 H2 =>
  dBl v1 (fun b3 =>
  sB (!b3) (R (Ending.returned (Value.int IntKind.i64 2)) H2) (nz x0 (fun a4 =>
  nz x0 (fun a5 =>
  ld H2 (Addr.add a5 4) (fun v6 =>
  dPtr v6 (fun p7 =>
  HCalls Tryz.prog 106 #[Value.pointer p7, Value.int IntKind.i64 x1] H2 (Sp.retK (fun v8 H9 =>
  dInt IntKind.i64 v8 (fun n10 =>
  HCallsD Tryz.prog 69 #[Value.pointer (some a4)] FrameMode.returning H9 (fun e11 u12 H13 =>
  match e11 with
| Ending.returned v => leavesV Tryz.prog Tryz.f54 (Act.tmps (Act.mk #[Value.pointer x0, Value.int IntKind.i64 x1, undef, undef, Value.int IntKind.i64 n10, Value.pointer x0, Value.bool b3, Value.bool !b3, Value.pointer x0, Value.pointer (some a4), Value.pointer (some a4), Value.pointer x0, Value.pointer (some a5), Value.pointer (some (Addr.add a5 4)), Value.pointer p7, Value.int IntKind.i64 x1, Value.int IntKind.i64 n10] [Deferred.mk (Target.fn (Fn.func 69) #[]) #[Value.pointer (some a4)]])) R [] (settle u12) H13
| Ending.panicked c => leavesV Tryz.prog Tryz.f54 (Act.tmps (Act.mk #[Value.pointer x0, Value.int IntKind.i64 x1, undef, undef, Value.int IntKind.i64 n10, Value.pointer x0, Value.bool b3, Value.bool !b3, Value.pointer x0, Value.pointer (some a4), Value.pointer (some a4), Value.pointer x0, Value.pointer (some a5), Value.pointer (some (Addr.add a5 4)), Value.pointer p7, Value.int IntKind.i64 x1, Value.int IntKind.i64 n10] [Deferred.mk (Target.fn (Fn.func 69) #[]) #[Value.pointer (some a4)]])) R [] (raised u12 c) H13
| Ending.outgrown => False))) (fun c14 H15 =>
  HCallsD Tryz.prog 69 #[Value.pointer (some a4)] (FrameMode.panicking c14) H15 (fun e16 u17 H18 =>
  match e16 with
| Ending.returned v => leavesV Tryz.prog Tryz.f54 (Act.tmps (Act.mk #[Value.pointer x0, Value.int IntKind.i64 x1, undef, undef, Value.int IntKind.i64 0, Value.pointer x0, Value.bool b3, Value.bool !b3, Value.pointer x0, Value.pointer (some a4), Value.pointer (some a4), Value.pointer x0, Value.pointer (some a5), Value.pointer (some (Addr.add a5 4)), Value.pointer p7, Value.int IntKind.i64 x1, undef] [Deferred.mk (Target.fn (Fn.func 69) #[]) #[Value.pointer (some a4)]])) R [] (settle u17) H18
| Ending.panicked c => leavesV Tryz.prog Tryz.f54 (Act.tmps (Act.mk #[Value.pointer x0, Value.int IntKind.i64 x1, undef, undef, Value.int IntKind.i64 0, Value.pointer x0, Value.bool b3, Value.bool !b3, Value.pointer x0, Value.pointer (some a4), Value.pointer (some a4), Value.pointer x0, Value.pointer (some a5), Value.pointer (some (Addr.add a5 4)), Value.pointer p7, Value.int IntKind.i64 x1, undef] [Deferred.mk (Target.fn (Fn.func 69) #[]) #[Value.pointer (some a4)]])) R [] (raised u17 c) H18
| Ending.outgrown => False)))))))))) (pnR R))
theorem F54_eq (x0 : Option Addr) (x1 : Int) (R : Ending → Heap → Prop) (H : Heap) : F54 x0 x1 R H = vc Tryz.prog (codeOf Tryz.f54) .leaf (postV Tryz.prog Tryz.f54 R) ⟨#[Value.pointer x0, Value.int IntKind.i64 x1] ++ Array.replicate (Tryz.f54.ntmps - 2) undef, []⟩ H := by kernel_rfl
theorem F54_calls {R : Ending → Heap → Prop} {H : Heap} (x0 : Option Addr) (x1 : Int) (h : F54 x0 x1 R H) : HCalls Tryz.prog 54 #[Value.pointer x0, Value.int IntKind.i64 x1] H R :=
  calls_by (F := F54 x0 x1 R H) .leaf Tryz.func54 rfl (F54_eq x0 x1 R H) h
/-- (*bollard/volume.Volume).Old -/
def F55 (x0 : Option Addr) (x1 : Int) (R : Ending → Heap → Prop) (H : Heap) : Prop :=
  HCalls Tryz.prog 68 #[Value.pointer x0] H (Sp.retK (fun v1 H2 =>
  dBl v1 (fun b3 =>
  sB (!b3) (R (Ending.returned (Value.tuple #[Value.slice none 0 0, Value.int IntKind.i64 2])) H2) (nz x0 (fun a4 =>
  jn (α := VFH 1) (fun v5 H6 =>
  ∀ v7 v8 v9 v10 v11 v12 v13 v14 v15 v16 v17 v18 : Value,
  dBl v5 (fun b19 =>
  sB b19 (HCallsD Tryz.prog 69 #[Value.pointer (some a4)] FrameMode.returning H6 (fun e20 u21 H22 =>
  match e20 with
| Ending.returned v => leavesV Tryz.prog Tryz.f55 (Act.tmps (Act.mk #[Value.pointer x0, Value.int IntKind.i64 x1, undef, undef, Value.slice none 0 0, Value.int IntKind.i64 3, undef, undef, Value.pointer x0, Value.bool b3, Value.bool !b3, Value.pointer x0, Value.pointer (some a4), Value.pointer (some a4), v7, v8, v9, v10, v11, v12, v13, v14, v15, v16, v17, v18, Value.bool b19, undef, undef, undef, undef, undef, undef, undef, undef, undef, undef, undef, undef, undef, undef, undef, undef, undef, undef] [Deferred.mk (Target.fn (Fn.func 69) #[]) #[Value.pointer (some a4)]])) R [] (settle u21) H22
| Ending.panicked c => leavesV Tryz.prog Tryz.f55 (Act.tmps (Act.mk #[Value.pointer x0, Value.int IntKind.i64 x1, undef, undef, Value.slice none 0 0, Value.int IntKind.i64 3, undef, undef, Value.pointer x0, Value.bool b3, Value.bool !b3, Value.pointer x0, Value.pointer (some a4), Value.pointer (some a4), v7, v8, v9, v10, v11, v12, v13, v14, v15, v16, v17, v18, Value.bool b19, undef, undef, undef, undef, undef, undef, undef, undef, undef, undef, undef, undef, undef, undef, undef, undef, undef, undef] [Deferred.mk (Target.fn (Fn.func 69) #[]) #[Value.pointer (some a4)]])) R [] (raised u21 c) H22
| Ending.outgrown => False)) (nz x0 (fun a23 =>
  ld H6 (Addr.add (Addr.add a23 6) 3) (fun v24 =>
  dMap v24 (fun p25 =>
  semW Tryz.prog (Instr.lookup 53 (Value.map p25) (Value.int IntKind.i64 x1) true) (fun c26 H27 =>
  HCallsD Tryz.prog 69 #[Value.pointer (some a4)] (FrameMode.panicking c26) H27 (fun e28 u29 H30 =>
  match e28 with
| Ending.returned v => leavesV Tryz.prog Tryz.f55 (Act.tmps (Act.mk #[Value.pointer x0, Value.int IntKind.i64 x1, undef, undef, Value.slice none 0 0, Value.int IntKind.i64 0, undef, undef, Value.pointer x0, Value.bool b3, Value.bool !b3, Value.pointer x0, Value.pointer (some a4), Value.pointer (some a4), v7, v8, v9, v10, v11, v12, v13, v14, v15, v16, v17, v18, Value.bool b19, undef, Value.pointer x0, Value.pointer (some a23), Value.pointer (some (Addr.add a23 6)), Value.pointer (some (Addr.add (Addr.add a23 6) 3)), Value.map p25, Value.int IntKind.i64 x1, undef, undef, undef, undef, undef, undef, undef, undef, undef, undef, undef] [Deferred.mk (Target.fn (Fn.func 69) #[]) #[Value.pointer (some a4)]])) R [] (settle u29) H30
| Ending.panicked c => leavesV Tryz.prog Tryz.f55 (Act.tmps (Act.mk #[Value.pointer x0, Value.int IntKind.i64 x1, undef, undef, Value.slice none 0 0, Value.int IntKind.i64 0, undef, undef, Value.pointer x0, Value.bool b3, Value.bool !b3, Value.pointer x0, Value.pointer (some a4), Value.pointer (some a4), v7, v8, v9, v10, v11, v12, v13, v14, v15, v16, v17, v18, Value.bool b19, undef, Value.pointer x0, Value.pointer (some a23), Value.pointer (some (Addr.add a23 6)), Value.pointer (some (Addr.add (Addr.add a23 6) 3)), Value.map p25, Value.int IntKind.i64 x1, undef, undef, undef, undef, undef, undef, undef, undef, undef, undef, undef] [Deferred.mk (Target.fn (Fn.func 69) #[]) #[Value.pointer (some a4)]])) R [] (raised u29 c) H30
| Ending.outgrown => False)) H6 (fun v31 H32 =>
  dT 2 v31 (fun v33 v34 =>
  dSl v33 (fun p35 r36 r37 =>
  dBl v34 (fun b38 =>
  sB b38 (HCalls Tryz.prog 107 #[Value.slice p35 r36 r37] H32 (Sp.retK (fun v39 H40 =>
  dSl v39 (fun p41 r42 r43 =>
  HCallsD Tryz.prog 69 #[Value.pointer (some a4)] FrameMode.returning H40 (fun e44 u45 H46 =>
  match e44 with
| Ending.returned v => leavesV Tryz.prog Tryz.f55 (Act.tmps (Act.mk #[Value.pointer x0, Value.int IntKind.i64 x1, undef, undef, Value.slice p41 r42 r43, Value.int IntKind.i64 0, Value.slice p35 r36 r37, Value.bool b38, Value.pointer x0, Value.bool b3, Value.bool !b3, Value.pointer x0, Value.pointer (some a4), Value.pointer (some a4), v7, v8, v9, v10, v11, v12, v13, v14, v15, v16, v17, v18, Value.bool b19, Value.tuple #[Value.slice p35 r36 r37, Value.bool b38], Value.pointer x0, Value.pointer (some a23), Value.pointer (some (Addr.add a23 6)), Value.pointer (some (Addr.add (Addr.add a23 6) 3)), Value.map p25, Value.int IntKind.i64 x1, Value.tuple #[Value.slice p35 r36 r37, Value.bool b38], Value.slice p35 r36 r37, Value.bool b38, Value.bool b38, Value.slice p35 r36 r37, Value.slice p41 r42 r43, undef, undef, undef, undef, undef] [Deferred.mk (Target.fn (Fn.func 69) #[]) #[Value.pointer (some a4)]])) R [] (settle u45) H46
| Ending.panicked c => leavesV Tryz.prog Tryz.f55 (Act.tmps (Act.mk #[Value.pointer x0, Value.int IntKind.i64 x1, undef, undef, Value.slice p41 r42 r43, Value.int IntKind.i64 0, Value.slice p35 r36 r37, Value.bool b38, Value.pointer x0, Value.bool b3, Value.bool !b3, Value.pointer x0, Value.pointer (some a4), Value.pointer (some a4), v7, v8, v9, v10, v11, v12, v13, v14, v15, v16, v17, v18, Value.bool b19, Value.tuple #[Value.slice p35 r36 r37, Value.bool b38], Value.pointer x0, Value.pointer (some a23), Value.pointer (some (Addr.add a23 6)), Value.pointer (some (Addr.add (Addr.add a23 6) 3)), Value.map p25, Value.int IntKind.i64 x1, Value.tuple #[Value.slice p35 r36 r37, Value.bool b38], Value.slice p35 r36 r37, Value.bool b38, Value.bool b38, Value.slice p35 r36 r37, Value.slice p41 r42 r43, undef, undef, undef, undef, undef] [Deferred.mk (Target.fn (Fn.func 69) #[]) #[Value.pointer (some a4)]])) R [] (raised u45 c) H46
| Ending.outgrown => False))) (fun c47 H48 =>
  HCallsD Tryz.prog 69 #[Value.pointer (some a4)] (FrameMode.panicking c47) H48 (fun e49 u50 H51 =>
  match e49 with
| Ending.returned v => leavesV Tryz.prog Tryz.f55 (Act.tmps (Act.mk #[Value.pointer x0, Value.int IntKind.i64 x1, undef, undef, Value.slice none 0 0, Value.int IntKind.i64 0, Value.slice p35 r36 r37, Value.bool b38, Value.pointer x0, Value.bool b3, Value.bool !b3, Value.pointer x0, Value.pointer (some a4), Value.pointer (some a4), v7, v8, v9, v10, v11, v12, v13, v14, v15, v16, v17, v18, Value.bool b19, Value.tuple #[Value.slice p35 r36 r37, Value.bool b38], Value.pointer x0, Value.pointer (some a23), Value.pointer (some (Addr.add a23 6)), Value.pointer (some (Addr.add (Addr.add a23 6) 3)), Value.map p25, Value.int IntKind.i64 x1, Value.tuple #[Value.slice p35 r36 r37, Value.bool b38], Value.slice p35 r36 r37, Value.bool b38, Value.bool b38, Value.slice p35 r36 r37, undef, undef, undef, undef, undef, undef] [Deferred.mk (Target.fn (Fn.func 69) #[]) #[Value.pointer (some a4)]])) R [] (settle u50) H51
| Ending.panicked c => leavesV Tryz.prog Tryz.f55 (Act.tmps (Act.mk #[Value.pointer x0, Value.int IntKind.i64 x1, undef, undef, Value.slice none 0 0, Value.int IntKind.i64 0, Value.slice p35 r36 r37, Value.bool b38, Value.pointer x0, Value.bool b3, Value.bool !b3, Value.pointer x0, Value.pointer (some a4), Value.pointer (some a4), v7, v8, v9, v10, v11, v12, v13, v14, v15, v16, v17, v18, Value.bool b19, Value.tuple #[Value.slice p35 r36 r37, Value.bool b38], Value.pointer x0, Value.pointer (some a23), Value.pointer (some (Addr.add a23 6)), Value.pointer (some (Addr.add (Addr.add a23 6) 3)), Value.map p25, Value.int IntKind.i64 x1, Value.tuple #[Value.slice p35 r36 r37, Value.bool b38], Value.slice p35 r36 r37, Value.bool b38, Value.bool b38, Value.slice p35 r36 r37, undef, undef, undef, undef, undef, undef] [Deferred.mk (Target.fn (Fn.func 69) #[]) #[Value.pointer (some a4)]])) R [] (raised u50 c) H51
| Ending.outgrown => False)))) (HCalls Tryz.prog 72 #[Value.pointer x0, Value.int IntKind.i64 x1] H32 (Sp.retK (fun v52 H53 =>
  dT 2 v52 (fun v54 v55 =>
  dSl v54 (fun p56 r57 r58 =>
  dInt IntKind.i64 v55 (fun n59 =>
  HCallsD Tryz.prog 69 #[Value.pointer (some a4)] FrameMode.returning H53 (fun e60 u61 H62 =>
  match e60 with
| Ending.returned v => leavesV Tryz.prog Tryz.f55 (Act.tmps (Act.mk #[Value.pointer x0, Value.int IntKind.i64 x1, undef, undef, Value.slice p56 r57 r58, Value.int IntKind.i64 n59, Value.slice p35 r36 r37, Value.bool b38, Value.pointer x0, Value.bool b3, Value.bool !b3, Value.pointer x0, Value.pointer (some a4), Value.pointer (some a4), v7, v8, v9, v10, v11, v12, v13, v14, v15, v16, v17, v18, Value.bool b19, Value.tuple #[Value.slice p35 r36 r37, Value.bool b38], Value.pointer x0, Value.pointer (some a23), Value.pointer (some (Addr.add a23 6)), Value.pointer (some (Addr.add (Addr.add a23 6) 3)), Value.map p25, Value.int IntKind.i64 x1, Value.tuple #[Value.slice p35 r36 r37, Value.bool b38], Value.slice p35 r36 r37, Value.bool b38, Value.bool b38, undef, undef, Value.pointer x0, Value.int IntKind.i64 x1, Value.tuple #[Value.slice p56 r57 r58, Value.int IntKind.i64 n59], Value.slice p56 r57 r58, Value.int IntKind.i64 n59] [Deferred.mk (Target.fn (Fn.func 69) #[]) #[Value.pointer (some a4)]])) R [] (settle u61) H62
| Ending.panicked c => leavesV Tryz.prog Tryz.f55 (Act.tmps (Act.mk #[Value.pointer x0, Value.int IntKind.i64 x1, undef, undef, Value.slice p56 r57 r58, Value.int IntKind.i64 n59, Value.slice p35 r36 r37, Value.bool b38, Value.pointer x0, Value.bool b3, Value.bool !b3, Value.pointer x0, Value.pointer (some a4), Value.pointer (some a4), v7, v8, v9, v10, v11, v12, v13, v14, v15, v16, v17, v18, Value.bool b19, Value.tuple #[Value.slice p35 r36 r37, Value.bool b38], Value.pointer x0, Value.pointer (some a23), Value.pointer (some (Addr.add a23 6)), Value.pointer (some (Addr.add (Addr.add a23 6) 3)), Value.map p25, Value.int IntKind.i64 x1, Value.tuple #[Value.slice p35 r36 r37, Value.bool b38], Value.slice p35 r36 r37, Value.bool b38, Value.bool b38, undef, undef, Value.pointer x0, Value.int IntKind.i64 x1, Value.tuple #[Value.slice p56 r57 r58, Value.int IntKind.i64 n59], Value.slice p56 r57 r58, Value.int IntKind.i64 n59] [Deferred.mk (Target.fn (Fn.func 69) #[]) #[Value.pointer (some a4)]])) R [] (raised u61 c) H62
| Ending.outgrown => False))))) (fun c63 H64 =>
  HCallsD Tryz.prog 69 #[Value.pointer (some a4)] (FrameMode.panicking c63) H64 (fun e65 u66 H67 =>
  match e65 with
| Ending.returned v => leavesV Tryz.prog Tryz.f55 (Act.tmps (Act.mk #[Value.pointer x0, Value.int IntKind.i64 x1, undef, undef, Value.slice none 0 0, Value.int IntKind.i64 0, Value.slice p35 r36 r37, Value.bool b38, Value.pointer x0, Value.bool b3, Value.bool !b3, Value.pointer x0, Value.pointer (some a4), Value.pointer (some a4), v7, v8, v9, v10, v11, v12, v13, v14, v15, v16, v17, v18, Value.bool b19, Value.tuple #[Value.slice p35 r36 r37, Value.bool b38], Value.pointer x0, Value.pointer (some a23), Value.pointer (some (Addr.add a23 6)), Value.pointer (some (Addr.add (Addr.add a23 6) 3)), Value.map p25, Value.int IntKind.i64 x1, Value.tuple #[Value.slice p35 r36 r37, Value.bool b38], Value.slice p35 r36 r37, Value.bool b38, Value.bool b38, undef, undef, Value.pointer x0, Value.int IntKind.i64 x1, undef, undef, undef] [Deferred.mk (Target.fn (Fn.func 69) #[]) #[Value.pointer (some a4)]])) R [] (settle u66) H67
| Ending.panicked c => leavesV Tryz.prog Tryz.f55 (Act.tmps (Act.mk #[Value.pointer x0, Value.int IntKind.i64 x1, undef, undef, Value.slice none 0 0, Value.int IntKind.i64 0, Value.slice p35 r36 r37, Value.bool b38, Value.pointer x0, Value.bool b3, Value.bool !b3, Value.pointer x0, Value.pointer (some a4), Value.pointer (some a4), v7, v8, v9, v10, v11, v12, v13, v14, v15, v16, v17, v18, Value.bool b19, Value.tuple #[Value.slice p35 r36 r37, Value.bool b38], Value.pointer x0, Value.pointer (some a23), Value.pointer (some (Addr.add a23 6)), Value.pointer (some (Addr.add (Addr.add a23 6) 3)), Value.map p25, Value.int IntKind.i64 x1, Value.tuple #[Value.slice p35 r36 r37, Value.bool b38], Value.slice p35 r36 r37, Value.bool b38, Value.bool b38, undef, undef, Value.pointer x0, Value.int IntKind.i64 x1, undef, undef, undef] [Deferred.mk (Target.fn (Fn.func 69) #[]) #[Value.pointer (some a4)]])) R [] (raised u66 c) H67
| Ending.outgrown => False)))))))))))))) (fun k68 =>
  nz x0 (fun a69 =>
  ld H2 (Addr.add a69 6) (fun v70 =>
  dBl v70 (fun b71 =>
  sB (!b71) (k68 (Value.bool true) H2) (nz x0 (fun a72 =>
  ld H2 (Addr.add (Addr.add a72 6) 1) (fun v73 =>
  dBl v73 (fun b74 =>
  k68 (Value.bool b74) H2)))))))))))) (pnR R))
theorem F55_eq (x0 : Option Addr) (x1 : Int) (R : Ending → Heap → Prop) (H : Heap) : F55 x0 x1 R H = vc Tryz.prog (codeOf Tryz.f55) (.node none .leaf (.node none .leaf (.node none .leaf (.node none (.node (some ⟨[(26, 4)], [14, 15, 16, 17, 18, 19, 20, 21, 22, 23, 24, 25]⟩) .leaf .leaf) .leaf)))) (postV Tryz.prog Tryz.f55 R) ⟨#[Value.pointer x0, Value.int IntKind.i64 x1] ++ Array.replicate (Tryz.f55.ntmps - 2) undef, []⟩ H := by kernel_rfl
theorem F55_calls {R : Ending → Heap → Prop} {H : Heap} (x0 : Option Addr) (x1 : Int) (h : F55 x0 x1 R H) : HCalls Tryz.prog 55 #[Value.pointer x0, Value.int IntKind.i64 x1] H R :=
  calls_by (F := F55 x0 x1 R H) (.node none .leaf (.node none .leaf (.node none .leaf (.node none (.node (some ⟨[(26, 4)], [14, 15, 16, 17, 18, 19, 20, 21, 22, 23, 24, 25]⟩) .leaf .leaf) .leaf)))) Tryz.func55 rfl (F55_eq x0 x1 R H) h
/-- bytes.Equal -/
def F56 (x0a : Option Addr) (x0n : Nat) (x0c : Nat) (x1a : Option Addr) (x1n : Nat) (x1c : Nat) (R : Ending → Heap → Prop) (H : Heap) : Prop :=
  semW Tryz.prog (convert 38 9 (Value.slice x0a x0n x0c)) (pnR R) H (fun v3 H4 =>
  dStr v3 (fun s5 =>
  semW Tryz.prog (convert 38 9 (Value.slice x1a x1n x1c)) (pnR R) H4 (fun v8 H9 =>
  dStr v8 (fun s10 =>
  R (Ending.returned (Value.bool (ByteArray.toList s5 == ByteArray.toList s10))) H9))))
theorem F56_eq (x0a : Option Addr) (x0n : Nat) (x0c : Nat) (x1a : Option Addr) (x1n : Nat) (x1c : Nat) (R : Ending → Heap → Prop) (H : Heap) : F56 x0a x0n x0c x1a x1n x1c R H = vc Tryz.prog (codeOf Tryz.f56) .leaf (postV Tryz.prog Tryz.f56 R) ⟨#[Value.slice x0a x0n x0c, Value.slice x1a x1n x1c] ++ Array.replicate (Tryz.f56.ntmps - 2) undef, []⟩ H := by kernel_rfl
theorem F56_calls {R : Ending → Heap → Prop} {H : Heap} (x0a : Option Addr) (x0n : Nat) (x0c : Nat) (x1a : Option Addr) (x1n : Nat) (x1c : Nat) (h : F56 x0a x0n x0c x1a x1n x1c R H) : HCalls Tryz.prog 56 #[Value.slice x0a x0n x0c, Value.slice x1a x1n x1c] H R :=
  calls_by (F := F56 x0a x0n x0c x1a x1n x1c R H) .leaf Tryz.func56 rfl (F56_eq x0a x0n x0c x1a x1n x1c R H) h
/-- (*bollard/volume.Volume).Broken -/
def F57 (x0 : Option Addr) (R : Ending → Heap → Prop) (H : Heap) : Prop :=
  HCalls Tryz.prog 68 #[Value.pointer x0] H (Sp.retK (fun v1 H2 =>
  dBl v1 (fun b3 =>
  sB (!b3) (R (Ending.returned (Value.bool false)) H2) (nz x0 (fun a4 =>
  nz x0 (fun a5 =>
  ld H2 (Addr.add (Addr.add a5 6) 1) (fun v6 =>
  dBl v6 (fun b7 =>
  HCallsD Tryz.prog 69 #[Value.pointer (some a4)] FrameMode.returning H2 (fun e8 u9 H10 =>
  match e8 with
| Ending.returned v => leavesV Tryz.prog Tryz.f57 (Act.tmps (Act.mk #[Value.pointer x0, undef, Value.bool b7, Value.pointer x0, Value.bool b3, Value.bool !b3, Value.pointer x0, Value.pointer (some a4), Value.pointer (some a4), Value.pointer x0, Value.pointer (some a5), Value.pointer (some (Addr.add a5 6)), Value.pointer (some (Addr.add (Addr.add a5 6) 1)), Value.bool b7] [Deferred.mk (Target.fn (Fn.func 69) #[]) #[Value.pointer (some a4)]])) R [] (settle u9) H10
| Ending.panicked c => leavesV Tryz.prog Tryz.f57 (Act.tmps (Act.mk #[Value.pointer x0, undef, Value.bool b7, Value.pointer x0, Value.bool b3, Value.bool !b3, Value.pointer x0, Value.pointer (some a4), Value.pointer (some a4), Value.pointer x0, Value.pointer (some a5), Value.pointer (some (Addr.add a5 6)), Value.pointer (some (Addr.add (Addr.add a5 6) 1)), Value.bool b7] [Deferred.mk (Target.fn (Fn.func 69) #[]) #[Value.pointer (some a4)]])) R [] (raised u9 c) H10
| Ending.outgrown => False)))))))) (pnR R))
theorem F57_eq (x0 : Option Addr) (R : Ending → Heap → Prop) (H : Heap) : F57 x0 R H = vc Tryz.prog (codeOf Tryz.f57) .leaf (postV Tryz.prog Tryz.f57 R) ⟨#[Value.pointer x0] ++ Array.replicate (Tryz.f57.ntmps - 1) undef, []⟩ H := by kernel_rfl
theorem F57_calls {R : Ending → Heap → Prop} {H : Heap} (x0 : Option Addr) (h : F57 x0 R H) : HCalls Tryz.prog 57 #[Value.pointer x0] H R :=
  calls_by (F := F57 x0 R H) .leaf Tryz.func57 rfl (F57_eq x0 R H) h
/-- (*bollard/volume.Volume).Kept -/
def F58 (x0 : Option Addr) (R : Ending → Heap → Prop) (H : Heap) : Prop :=
  HCalls Tryz.prog 68 #[Value.pointer x0] H (Sp.retK (fun v1 H2 =>
  dBl v1 (fun b3 =>
  sB (!b3) (R (Ending.returned (Value.int IntKind.i64 0)) H2) (nz x0 (fun a4 =>
  nz x0 (fun a5 =>
  ld H2 (Addr.add (Addr.add a5 6) 3) (fun v6 =>
  dMap v6 (fun p7 =>
  semW Tryz.prog (Builtin.len_ #[53] 3 #[Value.map p7]) (fun c8 H9 =>
  HCallsD Tryz.prog 69 #[Value.pointer (some a4)] (FrameMode.panicking c8) H9 (fun e10 u11 H12 =>
  match e10 with
| Ending.returned v => leavesV Tryz.prog Tryz.f58 (Act.tmps (Act.mk #[Value.pointer x0, undef, Value.int IntKind.i64 0, Value.pointer x0, Value.bool b3, Value.bool !b3, Value.pointer x0, Value.pointer (some a4), Value.pointer (some a4), Value.pointer x0, Value.pointer (some a5), Value.pointer (some (Addr.add a5 6)), Value.pointer (some (Addr.add (Addr.add a5 6) 3)), Value.map p7, undef] [Deferred.mk (Target.fn (Fn.func 69) #[]) #[Value.pointer (some a4)]])) R [] (settle u11) H12
| Ending.panicked c => leavesV Tryz.prog Tryz.f58 (Act.tmps (Act.mk #[Value.pointer x0, undef, Value.int IntKind.i64 0, Value.pointer x0, Value.bool b3, Value.bool !b3, Value.pointer x0, Value.pointer (some a4), Value.pointer (some a4), Value.pointer x0, Value.pointer (some a5), Value.pointer (some (Addr.add a5 6)), Value.pointer (some (Addr.add (Addr.add a5 6) 3)), Value.map p7, undef] [Deferred.mk (Target.fn (Fn.func 69) #[]) #[Value.pointer (some a4)]])) R [] (raised u11 c) H12
| Ending.outgrown => False)) H2 (fun v13 H14 =>
  dInt IntKind.i64 v13 (fun n15 =>
  HCallsD Tryz.prog 69 #[Value.pointer (some a4)] FrameMode.returning H14 (fun e16 u17 H18 =>
  match e16 with
| Ending.returned v => leavesV Tryz.prog Tryz.f58 (Act.tmps (Act.mk #[Value.pointer x0, undef, Value.int IntKind.i64 n15, Value.pointer x0, Value.bool b3, Value.bool !b3, Value.pointer x0, Value.pointer (some a4), Value.pointer (some a4), Value.pointer x0, Value.pointer (some a5), Value.pointer (some (Addr.add a5 6)), Value.pointer (some (Addr.add (Addr.add a5 6) 3)), Value.map p7, Value.int IntKind.i64 n15] [Deferred.mk (Target.fn (Fn.func 69) #[]) #[Value.pointer (some a4)]])) R [] (settle u17) H18
| Ending.panicked c => leavesV Tryz.prog Tryz.f58 (Act.tmps (Act.mk #[Value.pointer x0, undef, Value.int IntKind.i64 n15, Value.pointer x0, Value.bool b3, Value.bool !b3, Value.pointer x0, Value.pointer (some a4), Value.pointer (some a4), Value.pointer x0, Value.pointer (some a5), Value.pointer (some (Addr.add a5 6)), Value.pointer (some (Addr.add (Addr.add a5 6) 3)), Value.map p7, Value.int IntKind.i64 n15] [Deferred.mk (Target.fn (Fn.func 69) #[]) #[Value.pointer (some a4)]])) R [] (raised u17 c) H18
| Ending.outgrown => False)))))))))) (pnR R))
theorem F58_eq (x0 : Option Addr) (R : Ending → Heap → Prop) (H : Heap) : F58 x0 R H = vc Tryz.prog (codeOf Tryz.f58) .leaf (postV Tryz.prog Tryz.f58 R) ⟨#[Value.pointer x0] ++ Array.replicate (Tryz.f58.ntmps - 1) undef, []⟩ H := by kernel_rfl
theorem F58_calls {R : Ending → Heap → Prop} {H : Heap} (x0 : Option Addr) (h : F58 x0 R H) : HCalls Tryz.prog 58 #[Value.pointer x0] H R :=
  calls_by (F := F58 x0 R H) .leaf Tryz.func58 rfl (F58_eq x0 R H) h
end Go.Proofs.YtngploohhmfaiaaGreat.E
/- The functions' forms in the engine's words, printed by my own program. -/
namespace Go.Proofs.YtngploohhmfaiaaGreat.E
open Go Go.Proofs
set_option linter.unusedVariables false
/-- (*bollard/volume.Volume).Sync -/
def F59 (x0 : Option Addr) (x1a : Option Addr) (x1n : Nat) (x1c : Nat) (R : Ending → Heap → Prop) (H : Heap) : Prop :=
  HCalls Tryz.prog 68 #[Value.pointer x0] H (Sp.retK (fun v1 H2 =>
  dBl v1 (fun b3 =>
  sB (!b3) (R (Ending.returned (Value.int IntKind.i64 2)) H2) (nz x0 (fun a4 =>
  ∃ I5 : List Value → Heap → Prop,
  ∃ I6 : List Value → Heap → Nat,
  (I5 ([Value.int IntKind.i64 0]) H2) ∧
  ∀ n7 : Int,
  ∀ v8 v9 v10 v11 v12 v13 v14 v15 v16 v17 v18 v19 v20 v21 v22 v23 v24 : Value,
  ∀ H25 : Heap,
  (I5 ([Value.int IntKind.i64 n7]) H25) →
  sB (decide (n7 < (↑x1n : Int))) (nz x1a (fun a27 =>
  ask ((0 : Int) ≤ n7 ∧ n7 < (↑x1n : Int)) (ld H25 (Addr.add a27 (Int.toNat n7 * 1)) (fun v28 =>
  dInt IntKind.i64 v28 (fun n29 =>
  jn (α := VFH 1) (fun v30 H31 =>
  ∀ v32 v33 v34 v35 v36 v37 v38 v39 v40 v41 : Value,
  dBl v30 (fun b42 =>
  sB b42 (HCallsD Tryz.prog 69 #[Value.pointer (some a4)] FrameMode.returning H31 (fun e43 u44 H45 =>
  match e43 with
| Ending.returned v => leavesV Tryz.prog Tryz.f59 (Act.tmps (Act.mk #[Value.pointer x0, Value.slice x1a x1n x1c, undef, undef, Value.int IntKind.i64 70, undef, Value.int IntKind.i64 n29, undef, Value.pointer x0, Value.bool b3, Value.bool !b3, Value.pointer x0, Value.pointer (some a4), Value.pointer (some a4), Value.slice x1a x1n x1c, Value.int IntKind.i64 (↑x1n : Int), Value.int IntKind.i64 n7, Value.bool (decide (n7 < (↑x1n : Int))), Value.pointer (some (Addr.add a27 (Int.toNat n7 * 1))), Value.int IntKind.i64 n29, v32, v33, v34, v35, v36, v37, v38, v39, v40, v41, Value.bool b42, v24, undef, undef, undef, undef, undef, undef, undef, undef, undef, undef, undef, undef, undef, undef, undef, undef] [Deferred.mk (Target.fn (Fn.func 69) #[]) #[Value.pointer (some a4)]])) R [] (settle u44) H45
| Ending.panicked c => leavesV Tryz.prog Tryz.f59 (Act.tmps (Act.mk #[Value.pointer x0, Value.slice x1a x1n x1c, undef, undef, Value.int IntKind.i64 70, undef, Value.int IntKind.i64 n29, undef, Value.pointer x0, Value.bool b3, Value.bool !b3, Value.pointer x0, Value.pointer (some a4), Value.pointer (some a4), Value.slice x1a x1n x1c, Value.int IntKind.i64 (↑x1n : Int), Value.int IntKind.i64 n7, Value.bool (decide (n7 < (↑x1n : Int))), Value.pointer (some (Addr.add a27 (Int.toNat n7 * 1))), Value.int IntKind.i64 n29, v32, v33, v34, v35, v36, v37, v38, v39, v40, v41, Value.bool b42, v24, undef, undef, undef, undef, undef, undef, undef, undef, undef, undef, undef, undef, undef, undef, undef, undef] [Deferred.mk (Target.fn (Fn.func 69) #[]) #[Value.pointer (some a4)]])) R [] (raised u44 c) H45
| Ending.outgrown => False)) (wr IntKind.i64 (n7 + 1) (fun n46 =>
  (I5 ([Value.int IntKind.i64 n46]) H31) ∧
  (I6 [Value.int IntKind.i64 n46] H31) < (I6 [Value.int IntKind.i64 n7] H25))))) (fun k47 =>
  sB (decide (n29 < 1)) (k47 (Value.bool true) H25) (nz x0 (fun a48 =>
  ld H25 (Addr.add a48 4) (fun v49 =>
  dPtr v49 (fun p50 =>
  HCalls Tryz.prog 105 #[Value.pointer p50] H25 (Sp.retK (fun v51 H52 =>
  dInt IntKind.i64 v51 (fun n53 =>
  k47 (Value.bool (decide (n29 > n53))) H52)) (fun c54 H55 =>
  HCallsD Tryz.prog 69 #[Value.pointer (some a4)] (FrameMode.panicking c54) H55 (fun e56 u57 H58 =>
  match e56 with
| Ending.returned v => leavesV Tryz.prog Tryz.f59 (Act.tmps (Act.mk #[Value.pointer x0, Value.slice x1a x1n x1c, undef, undef, v8, undef, Value.int IntKind.i64 n29, undef, Value.pointer x0, Value.bool b3, Value.bool !b3, Value.pointer x0, Value.pointer (some a4), Value.pointer (some a4), Value.slice x1a x1n x1c, Value.int IntKind.i64 (↑x1n : Int), Value.int IntKind.i64 n7, Value.bool (decide (n7 < (↑x1n : Int))), Value.pointer (some (Addr.add a27 (Int.toNat n7 * 1))), Value.int IntKind.i64 n29, Value.int IntKind.i64 n29, Value.bool (decide (n29 < 1)), Value.bool false, Value.int IntKind.i64 n29, Value.pointer x0, Value.pointer (some a48), Value.pointer (some (Addr.add a48 4)), Value.pointer p50, v21, v22, v23, v24, undef, undef, undef, undef, undef, undef, undef, undef, undef, undef, undef, undef, undef, undef, undef, undef] [Deferred.mk (Target.fn (Fn.func 69) #[]) #[Value.pointer (some a4)]])) R [] (settle u57) H58
| Ending.panicked c => leavesV Tryz.prog Tryz.f59 (Act.tmps (Act.mk #[Value.pointer x0, Value.slice x1a x1n x1c, undef, undef, v8, undef, Value.int IntKind.i64 n29, undef, Value.pointer x0, Value.bool b3, Value.bool !b3, Value.pointer x0, Value.pointer (some a4), Value.pointer (some a4), Value.slice x1a x1n x1c, Value.int IntKind.i64 (↑x1n : Int), Value.int IntKind.i64 n7, Value.bool (decide (n7 < (↑x1n : Int))), Value.pointer (some (Addr.add a27 (Int.toNat n7 * 1))), Value.int IntKind.i64 n29, Value.int IntKind.i64 n29, Value.bool (decide (n29 < 1)), Value.bool false, Value.int IntKind.i64 n29, Value.pointer x0, Value.pointer (some a48), Value.pointer (some (Addr.add a48 4)), Value.pointer p50, v21, v22, v23, v24, undef, undef, undef, undef, undef, undef, undef, undef, undef, undef, undef, undef, undef, undef, undef, undef] [Deferred.mk (Target.fn (Fn.func 69) #[]) #[Value.pointer (some a4)]])) R [] (raised u57 c) H58
| Ending.outgrown => False))))))))))))) (HCalls Tryz.prog 108 #[Value.pointer x0] H25 (Sp.retK (fun v59 H60 =>
  dBl v59 (fun b61 =>
  sB (!b61) (HCallsD Tryz.prog 69 #[Value.pointer (some a4)] FrameMode.returning H60 (fun e62 u63 H64 =>
  match e62 with
| Ending.returned v => leavesV Tryz.prog Tryz.f59 (Act.tmps (Act.mk #[Value.pointer x0, Value.slice x1a x1n x1c, undef, undef, Value.int IntKind.i64 4, undef, v9, undef, Value.pointer x0, Value.bool b3, Value.bool !b3, Value.pointer x0, Value.pointer (some a4), Value.pointer (some a4), Value.slice x1a x1n x1c, Value.int IntKind.i64 (↑x1n : Int), Value.int IntKind.i64 n7, Value.bool (decide (n7 < (↑x1n : Int))), v11, v12, v13, v14, v15, v16, v17, v18, v19, v20, v21, v22, v23, v24, Value.pointer x0, Value.bool b61, Value.bool !b61, undef, undef, undef, undef, undef, undef, undef, undef, undef, undef, undef, undef, undef] [Deferred.mk (Target.fn (Fn.func 69) #[]) #[Value.pointer (some a4)]])) R [] (settle u63) H64
| Ending.panicked c => leavesV Tryz.prog Tryz.f59 (Act.tmps (Act.mk #[Value.pointer x0, Value.slice x1a x1n x1c, undef, undef, Value.int IntKind.i64 4, undef, v9, undef, Value.pointer x0, Value.bool b3, Value.bool !b3, Value.pointer x0, Value.pointer (some a4), Value.pointer (some a4), Value.slice x1a x1n x1c, Value.int IntKind.i64 (↑x1n : Int), Value.int IntKind.i64 n7, Value.bool (decide (n7 < (↑x1n : Int))), v11, v12, v13, v14, v15, v16, v17, v18, v19, v20, v21, v22, v23, v24, Value.pointer x0, Value.bool b61, Value.bool !b61, undef, undef, undef, undef, undef, undef, undef, undef, undef, undef, undef, undef, undef] [Deferred.mk (Target.fn (Fn.func 69) #[]) #[Value.pointer (some a4)]])) R [] (raised u63 c) H64
| Ending.outgrown => False)) (∃ I65 : List Value → Heap → Prop,
  ∃ I66 : List Value → Heap → Nat,
  (I65 [] H60) ∧
  ∀ v67 v68 v69 v70 v71 v72 v73 v74 v75 v76 v77 v78 v79 v80 v81 : Value,
  ∀ H82 : Heap,
  (I65 [] H82) →
  nz x0 (fun a84 =>
  ld H82 (Addr.add a84 4) (fun v85 =>
  dPtr v85 (fun p86 =>
  HCalls Tryz.prog 109 #[Value.pointer p86, Value.slice x1a x1n x1c] H82 (Sp.retK (fun v87 H88 =>
  dSl v87 (fun p89 r90 r91 =>
  sB ((↑r90 : Int) == 0) (HCallsD Tryz.prog 69 #[Value.pointer (some a4)] FrameMode.returning H88 (fun e92 u93 H94 =>
  match e92 with
| Ending.returned v => leavesV Tryz.prog Tryz.f59 (Act.tmps (Act.mk #[Value.pointer x0, Value.slice x1a x1n x1c, undef, undef, Value.int IntKind.i64 0, undef, v9, Value.slice p89 r90 r91, Value.pointer x0, Value.bool b3, Value.bool !b3, Value.pointer x0, Value.pointer (some a4), Value.pointer (some a4), Value.slice x1a x1n x1c, Value.int IntKind.i64 (↑x1n : Int), Value.int IntKind.i64 n7, Value.bool (decide (n7 < (↑x1n : Int))), v11, v12, v13, v14, v15, v16, v17, v18, v19, v20, v21, v22, v23, v24, Value.pointer x0, Value.bool b61, Value.bool !b61, Value.pointer x0, Value.pointer (some a84), Value.pointer (some (Addr.add a84 4)), Value.pointer p86, Value.slice x1a x1n x1c, Value.slice p89 r90 r91, Value.slice p89 r90 r91, Value.int IntKind.i64 (↑r90 : Int), Value.bool ((↑r90 : Int) == 0), v78, v79, v80, v81] [Deferred.mk (Target.fn (Fn.func 69) #[]) #[Value.pointer (some a4)]])) R [] (settle u93) H94
| Ending.panicked c => leavesV Tryz.prog Tryz.f59 (Act.tmps (Act.mk #[Value.pointer x0, Value.slice x1a x1n x1c, undef, undef, Value.int IntKind.i64 0, undef, v9, Value.slice p89 r90 r91, Value.pointer x0, Value.bool b3, Value.bool !b3, Value.pointer x0, Value.pointer (some a4), Value.pointer (some a4), Value.slice x1a x1n x1c, Value.int IntKind.i64 (↑x1n : Int), Value.int IntKind.i64 n7, Value.bool (decide (n7 < (↑x1n : Int))), v11, v12, v13, v14, v15, v16, v17, v18, v19, v20, v21, v22, v23, v24, Value.pointer x0, Value.bool b61, Value.bool !b61, Value.pointer x0, Value.pointer (some a84), Value.pointer (some (Addr.add a84 4)), Value.pointer p86, Value.slice x1a x1n x1c, Value.slice p89 r90 r91, Value.slice p89 r90 r91, Value.int IntKind.i64 (↑r90 : Int), Value.bool ((↑r90 : Int) == 0), v78, v79, v80, v81] [Deferred.mk (Target.fn (Fn.func 69) #[]) #[Value.pointer (some a4)]])) R [] (raised u93 c) H94
| Ending.outgrown => False)) (HCalls Tryz.prog 110 #[Value.pointer x0, Value.slice p89 r90 r91] H88 (Sp.retK (fun v95 H96 =>
  dBl v95 (fun b97 =>
  sB (!b97) (HCallsD Tryz.prog 69 #[Value.pointer (some a4)] FrameMode.returning H96 (fun e98 u99 H100 =>
  match e98 with
| Ending.returned v => leavesV Tryz.prog Tryz.f59 (Act.tmps (Act.mk #[Value.pointer x0, Value.slice x1a x1n x1c, undef, undef, Value.int IntKind.i64 4, undef, v9, Value.slice p89 r90 r91, Value.pointer x0, Value.bool b3, Value.bool !b3, Value.pointer x0, Value.pointer (some a4), Value.pointer (some a4), Value.slice x1a x1n x1c, Value.int IntKind.i64 (↑x1n : Int), Value.int IntKind.i64 n7, Value.bool (decide (n7 < (↑x1n : Int))), v11, v12, v13, v14, v15, v16, v17, v18, v19, v20, v21, v22, v23, v24, Value.pointer x0, Value.bool b61, Value.bool !b61, Value.pointer x0, Value.pointer (some a84), Value.pointer (some (Addr.add a84 4)), Value.pointer p86, Value.slice x1a x1n x1c, Value.slice p89 r90 r91, Value.slice p89 r90 r91, Value.int IntKind.i64 (↑r90 : Int), Value.bool ((↑r90 : Int) == 0), Value.pointer x0, Value.slice p89 r90 r91, Value.bool b97, Value.bool !b97] [Deferred.mk (Target.fn (Fn.func 69) #[]) #[Value.pointer (some a4)]])) R [] (settle u99) H100
| Ending.panicked c => leavesV Tryz.prog Tryz.f59 (Act.tmps (Act.mk #[Value.pointer x0, Value.slice x1a x1n x1c, undef, undef, Value.int IntKind.i64 4, undef, v9, Value.slice p89 r90 r91, Value.pointer x0, Value.bool b3, Value.bool !b3, Value.pointer x0, Value.pointer (some a4), Value.pointer (some a4), Value.slice x1a x1n x1c, Value.int IntKind.i64 (↑x1n : Int), Value.int IntKind.i64 n7, Value.bool (decide (n7 < (↑x1n : Int))), v11, v12, v13, v14, v15, v16, v17, v18, v19, v20, v21, v22, v23, v24, Value.pointer x0, Value.bool b61, Value.bool !b61, Value.pointer x0, Value.pointer (some a84), Value.pointer (some (Addr.add a84 4)), Value.pointer p86, Value.slice x1a x1n x1c, Value.slice p89 r90 r91, Value.slice p89 r90 r91, Value.int IntKind.i64 (↑r90 : Int), Value.bool ((↑r90 : Int) == 0), Value.pointer x0, Value.slice p89 r90 r91, Value.bool b97, Value.bool !b97] [Deferred.mk (Target.fn (Fn.func 69) #[]) #[Value.pointer (some a4)]])) R [] (raised u99 c) H100
| Ending.outgrown => False)) ((I65 [] H96) ∧
  (I66 [] H96) < (I66 [] H82)))) (fun c101 H102 =>
  HCallsD Tryz.prog 69 #[Value.pointer (some a4)] (FrameMode.panicking c101) H102 (fun e103 u104 H105 =>
  match e103 with
| Ending.returned v => leavesV Tryz.prog Tryz.f59 (Act.tmps (Act.mk #[Value.pointer x0, Value.slice x1a x1n x1c, undef, undef, v67, undef, v9, Value.slice p89 r90 r91, Value.pointer x0, Value.bool b3, Value.bool !b3, Value.pointer x0, Value.pointer (some a4), Value.pointer (some a4), Value.slice x1a x1n x1c, Value.int IntKind.i64 (↑x1n : Int), Value.int IntKind.i64 n7, Value.bool (decide (n7 < (↑x1n : Int))), v11, v12, v13, v14, v15, v16, v17, v18, v19, v20, v21, v22, v23, v24, Value.pointer x0, Value.bool b61, Value.bool !b61, Value.pointer x0, Value.pointer (some a84), Value.pointer (some (Addr.add a84 4)), Value.pointer p86, Value.slice x1a x1n x1c, Value.slice p89 r90 r91, Value.slice p89 r90 r91, Value.int IntKind.i64 (↑r90 : Int), Value.bool ((↑r90 : Int) == 0), Value.pointer x0, Value.slice p89 r90 r91, v80, v81] [Deferred.mk (Target.fn (Fn.func 69) #[]) #[Value.pointer (some a4)]])) R [] (settle u104) H105
| Ending.panicked c => leavesV Tryz.prog Tryz.f59 (Act.tmps (Act.mk #[Value.pointer x0, Value.slice x1a x1n x1c, undef, undef, v67, undef, v9, Value.slice p89 r90 r91, Value.pointer x0, Value.bool b3, Value.bool !b3, Value.pointer x0, Value.pointer (some a4), Value.pointer (some a4), Value.slice x1a x1n x1c, Value.int IntKind.i64 (↑x1n : Int), Value.int IntKind.i64 n7, Value.bool (decide (n7 < (↑x1n : Int))), v11, v12, v13, v14, v15, v16, v17, v18, v19, v20, v21, v22, v23, v24, Value.pointer x0, Value.bool b61, Value.bool !b61, Value.pointer x0, Value.pointer (some a84), Value.pointer (some (Addr.add a84 4)), Value.pointer p86, Value.slice x1a x1n x1c, Value.slice p89 r90 r91, Value.slice p89 r90 r91, Value.int IntKind.i64 (↑r90 : Int), Value.bool ((↑r90 : Int) == 0), Value.pointer x0, Value.slice p89 r90 r91, v80, v81] [Deferred.mk (Target.fn (Fn.func 69) #[]) #[Value.pointer (some a4)]])) R [] (raised u104 c) H105
| Ending.outgrown => False)))))) (fun c106 H107 =>
  HCallsD Tryz.prog 69 #[Value.pointer (some a4)] (FrameMode.panicking c106) H107 (fun e108 u109 H110 =>
  match e108 with
| Ending.returned v => leavesV Tryz.prog Tryz.f59 (Act.tmps (Act.mk #[Value.pointer x0, Value.slice x1a x1n x1c, undef, undef, v67, undef, v9, v68, Value.pointer x0, Value.bool b3, Value.bool !b3, Value.pointer x0, Value.pointer (some a4), Value.pointer (some a4), Value.slice x1a x1n x1c, Value.int IntKind.i64 (↑x1n : Int), Value.int IntKind.i64 n7, Value.bool (decide (n7 < (↑x1n : Int))), v11, v12, v13, v14, v15, v16, v17, v18, v19, v20, v21, v22, v23, v24, Value.pointer x0, Value.bool b61, Value.bool !b61, Value.pointer x0, Value.pointer (some a84), Value.pointer (some (Addr.add a84 4)), Value.pointer p86, Value.slice x1a x1n x1c, v74, v75, v76, v77, v78, v79, v80, v81] [Deferred.mk (Target.fn (Fn.func 69) #[]) #[Value.pointer (some a4)]])) R [] (settle u109) H110
| Ending.panicked c => leavesV Tryz.prog Tryz.f59 (Act.tmps (Act.mk #[Value.pointer x0, Value.slice x1a x1n x1c, undef, undef, v67, undef, v9, v68, Value.pointer x0, Value.bool b3, Value.bool !b3, Value.pointer x0, Value.pointer (some a4), Value.pointer (some a4), Value.slice x1a x1n x1c, Value.int IntKind.i64 (↑x1n : Int), Value.int IntKind.i64 n7, Value.bool (decide (n7 < (↑x1n : Int))), v11, v12, v13, v14, v15, v16, v17, v18, v19, v20, v21, v22, v23, v24, Value.pointer x0, Value.bool b61, Value.bool !b61, Value.pointer x0, Value.pointer (some a84), Value.pointer (some (Addr.add a84 4)), Value.pointer p86, Value.slice x1a x1n x1c, v74, v75, v76, v77, v78, v79, v80, v81] [Deferred.mk (Target.fn (Fn.func 69) #[]) #[Value.pointer (some a4)]])) R [] (raised u109 c) H110
| Ending.outgrown => False))))))))) (fun c111 H112 =>
  HCallsD Tryz.prog 69 #[Value.pointer (some a4)] (FrameMode.panicking c111) H112 (fun e113 u114 H115 =>
  match e113 with
| Ending.returned v => leavesV Tryz.prog Tryz.f59 (Act.tmps (Act.mk #[Value.pointer x0, Value.slice x1a x1n x1c, undef, undef, v8, undef, v9, undef, Value.pointer x0, Value.bool b3, Value.bool !b3, Value.pointer x0, Value.pointer (some a4), Value.pointer (some a4), Value.slice x1a x1n x1c, Value.int IntKind.i64 (↑x1n : Int), Value.int IntKind.i64 n7, Value.bool (decide (n7 < (↑x1n : Int))), v11, v12, v13, v14, v15, v16, v17, v18, v19, v20, v21, v22, v23, v24, Value.pointer x0, undef, undef, undef, undef, undef, undef, undef, undef, undef, undef, undef, undef, undef, undef, undef] [Deferred.mk (Target.fn (Fn.func 69) #[]) #[Value.pointer (some a4)]])) R [] (settle u114) H115
| Ending.panicked c => leavesV Tryz.prog Tryz.f59 (Act.tmps (Act.mk #[Value.pointer x0, Value.slice x1a x1n x1c, undef, undef, v8, undef, v9, undef, Value.pointer x0, Value.bool b3, Value.bool !b3, Value.pointer x0, Value.pointer (some a4), Value.pointer (some a4), Value.slice x1a x1n x1c, Value.int IntKind.i64 (↑x1n : Int), Value.int IntKind.i64 n7, Value.bool (decide (n7 < (↑x1n : Int))), v11, v12, v13, v14, v15, v16, v17, v18, v19, v20, v21, v22, v23, v24, Value.pointer x0, undef, undef, undef, undef, undef, undef, undef, undef, undef, undef, undef, undef, undef, undef, undef] [Deferred.mk (Target.fn (Fn.func 69) #[]) #[Value.pointer (some a4)]])) R [] (raised u114 c) H115
| Ending.outgrown => False)))))))) (pnR R))
theorem F59_eq (x0 : Option Addr) (x1a : Option Addr) (x1n : Nat) (x1c : Nat) (R : Ending → Heap → Prop) (H : Heap) : F59 x0 x1a x1n x1c R H = vc Tryz.prog (codeOf Tryz.f59) (.node none .leaf (.node none .leaf (.node none .leaf (.node none (.node none .leaf (.node none (.node (some ⟨[(16, 3)], [4, 6, 17, 18, 19, 20, 21, 22, 23, 24, 25, 26, 27, 28, 29, 30, 31]⟩) (.node none .leaf (.node none .leaf (.node none (.node none (.node none .leaf (.node (some ⟨[(30, 4)], [20, 21, 22, 23, 24, 25, 26, 27, 28, 29]⟩) .leaf .leaf)) .leaf) .leaf))) .leaf) .leaf)) (.node none .leaf (.node none (.node (some ⟨[], [4, 7, 35, 36, 37, 38, 39, 40, 41, 42, 43, 44, 45, 46, 47]⟩) .leaf .leaf) .leaf)))))) (postV Tryz.prog Tryz.f59 R) ⟨#[Value.pointer x0, Value.slice x1a x1n x1c] ++ Array.replicate (Tryz.f59.ntmps - 2) undef, []⟩ H := by kernel_rfl
theorem F59_calls {R : Ending → Heap → Prop} {H : Heap} (x0 : Option Addr) (x1a : Option Addr) (x1n : Nat) (x1c : Nat) (h : F59 x0 x1a x1n x1c R H) : HCalls Tryz.prog 59 #[Value.pointer x0, Value.slice x1a x1n x1c] H R :=
  calls_by (F := F59 x0 x1a x1n x1c R H) (.node none .leaf (.node none .leaf (.node none .leaf (.node none (.node none .leaf (.node none (.node (some ⟨[(16, 3)], [4, 6, 17, 18, 19, 20, 21, 22, 23, 24, 25, 26, 27, 28, 29, 30, 31]⟩) (.node none .leaf (.node none .leaf (.node none (.node none (.node none .leaf (.node (some ⟨[(30, 4)], [20, 21, 22, 23, 24, 25, 26, 27, 28, 29]⟩) .leaf .leaf)) .leaf) .leaf))) .leaf) .leaf)) (.node none .leaf (.node none (.node (some ⟨[], [4, 7, 35, 36, 37, 38, 39, 40, 41, 42, 43, 44, 45, 46, 47]⟩) .leaf .leaf) .leaf)))))) Tryz.func59 rfl (F59_eq x0 x1a x1n x1c R H) h
/-- (*bollard/volume.Volume).IsDone -/
def F60 (x0 : Option Addr) (x1 : Int) (R : Ending → Heap → Prop) (H : Heap) : Prop :=
  HCalls Tryz.prog 68 #[Value.pointer x0] H (Sp.retK (fun v1 H2 =>
  dBl v1 (fun b3 =>
  sB (!b3) (R (Ending.returned (Value.bool false)) H2) (nz x0 (fun a4 =>
  nz x0 (fun a5 =>
  ld H2 (Addr.add a5 4) (fun v6 =>
  dPtr v6 (fun p7 =>
  HCalls Tryz.prog 111 #[Value.pointer p7, Value.int IntKind.i64 x1] H2 (Sp.retK (fun v8 H9 =>
  dBl v8 (fun b10 =>
  HCallsD Tryz.prog 69 #[Value.pointer (some a4)] FrameMode.returning H9 (fun e11 u12 H13 =>
  match e11 with
| Ending.returned v => leavesV Tryz.prog Tryz.f60 (Act.tmps (Act.mk #[Value.pointer x0, Value.int IntKind.i64 x1, undef, undef, Value.bool b10, Value.pointer x0, Value.bool b3, Value.bool !b3, Value.pointer x0, Value.pointer (some a4), Value.pointer (some a4), Value.pointer x0, Value.pointer (some a5), Value.pointer (some (Addr.add a5 4)), Value.pointer p7, Value.int IntKind.i64 x1, Value.bool b10] [Deferred.mk (Target.fn (Fn.func 69) #[]) #[Value.pointer (some a4)]])) R [] (settle u12) H13
| Ending.panicked c => leavesV Tryz.prog Tryz.f60 (Act.tmps (Act.mk #[Value.pointer x0, Value.int IntKind.i64 x1, undef, undef, Value.bool b10, Value.pointer x0, Value.bool b3, Value.bool !b3, Value.pointer x0, Value.pointer (some a4), Value.pointer (some a4), Value.pointer x0, Value.pointer (some a5), Value.pointer (some (Addr.add a5 4)), Value.pointer p7, Value.int IntKind.i64 x1, Value.bool b10] [Deferred.mk (Target.fn (Fn.func 69) #[]) #[Value.pointer (some a4)]])) R [] (raised u12 c) H13
| Ending.outgrown => False))) (fun c14 H15 =>
  HCallsD Tryz.prog 69 #[Value.pointer (some a4)] (FrameMode.panicking c14) H15 (fun e16 u17 H18 =>
  match e16 with
| Ending.returned v => leavesV Tryz.prog Tryz.f60 (Act.tmps (Act.mk #[Value.pointer x0, Value.int IntKind.i64 x1, undef, undef, Value.bool false, Value.pointer x0, Value.bool b3, Value.bool !b3, Value.pointer x0, Value.pointer (some a4), Value.pointer (some a4), Value.pointer x0, Value.pointer (some a5), Value.pointer (some (Addr.add a5 4)), Value.pointer p7, Value.int IntKind.i64 x1, undef] [Deferred.mk (Target.fn (Fn.func 69) #[]) #[Value.pointer (some a4)]])) R [] (settle u17) H18
| Ending.panicked c => leavesV Tryz.prog Tryz.f60 (Act.tmps (Act.mk #[Value.pointer x0, Value.int IntKind.i64 x1, undef, undef, Value.bool false, Value.pointer x0, Value.bool b3, Value.bool !b3, Value.pointer x0, Value.pointer (some a4), Value.pointer (some a4), Value.pointer x0, Value.pointer (some a5), Value.pointer (some (Addr.add a5 4)), Value.pointer p7, Value.int IntKind.i64 x1, undef] [Deferred.mk (Target.fn (Fn.func 69) #[]) #[Value.pointer (some a4)]])) R [] (raised u17 c) H18
| Ending.outgrown => False)))))))))) (pnR R))
theorem F60_eq (x0 : Option Addr) (x1 : Int) (R : Ending → Heap → Prop) (H : Heap) : F60 x0 x1 R H = vc Tryz.prog (codeOf Tryz.f60) .leaf (postV Tryz.prog Tryz.f60 R) ⟨#[Value.pointer x0, Value.int IntKind.i64 x1] ++ Array.replicate (Tryz.f60.ntmps - 2) undef, []⟩ H := by kernel_rfl
theorem F60_calls {R : Ending → Heap → Prop} {H : Heap} (x0 : Option Addr) (x1 : Int) (h : F60 x0 x1 R H) : HCalls Tryz.prog 60 #[Value.pointer x0, Value.int IntKind.i64 x1] H R :=
  calls_by (F := F60 x0 x1 R H) .leaf Tryz.func60 rfl (F60_eq x0 x1 R H) h
/-- (*bollard/volume.Volume).held -/
def F68 (x0 : Option Addr) (R : Ending → Heap → Prop) (H : Heap) : Prop :=
  sB (Option.isNone x0) (R (Ending.returned (Value.bool false)) H) (nz x0 (fun a1 =>
  HCalls Tryz.prog 113 #[Value.pointer (some a1)] H (Sp.retK (fun v2 H3 =>
  nz x0 (fun a4 =>
  ld H3 (Addr.add a4 2) (fun v5 =>
  dPtr v5 (fun p6 =>
  sB (Option.isNone p6) (nz x0 (fun a7 =>
  HCalls Tryz.prog 69 #[Value.pointer (some a7)] H3 (Sp.retK (fun v8 H9 =>
  R (Ending.returned (Value.bool false)) H9) (pnR R)))) (R (Ending.returned (Value.bool true)) H3))))) (pnR R))))
theorem F68_eq (x0 : Option Addr) (R : Ending → Heap → Prop) (H : Heap) : F68 x0 R H = vc Tryz.prog (codeOf Tryz.f68) .leaf (postV Tryz.prog Tryz.f68 R) ⟨#[Value.pointer x0] ++ Array.replicate (Tryz.f68.ntmps - 1) undef, []⟩ H := by kernel_rfl
theorem F68_calls {R : Ending → Heap → Prop} {H : Heap} (x0 : Option Addr) (h : F68 x0 R H) : HCalls Tryz.prog 68 #[Value.pointer x0] H R :=
  calls_by (F := F68 x0 R H) .leaf Tryz.func68 rfl (F68_eq x0 R H) h
/-- (*bollard/disk.Disk).Blocks -/
def F70 (x0 : Option Addr) (R : Ending → Heap → Prop) (H : Heap) : Prop :=
  sB (Option.isNone x0) (R (Ending.returned (Value.int IntKind.i64 0)) H) (nz x0 (fun a1 =>
  ld H a1 (fun v2 =>
  dSl v2 (fun p3 r4 r5 =>
  R (Ending.returned (Value.int IntKind.i64 (↑r4 : Int))) H))))
theorem F70_eq (x0 : Option Addr) (R : Ending → Heap → Prop) (H : Heap) : F70 x0 R H = vc Tryz.prog (codeOf Tryz.f70) .leaf (postV Tryz.prog Tryz.f70 R) ⟨#[Value.pointer x0] ++ Array.replicate (Tryz.f70.ntmps - 1) undef, []⟩ H := by kernel_rfl
theorem F70_calls {R : Ending → Heap → Prop} {H : Heap} (x0 : Option Addr) (h : F70 x0 R H) : HCalls Tryz.prog 70 #[Value.pointer x0] H R :=
  calls_by (F := F70 x0 R H) .leaf Tryz.func70 rfl (F70_eq x0 R H) h
/-- (*bollard/volume.Volume).has -/
def F71 (x0 : Option Addr) (x1 : Int) (R : Ending → Heap → Prop) (H : Heap) : Prop :=
  sB (decide (x1 ≥ 0)) (nz x0 (fun a1 =>
  ld H (Addr.add a1 2) (fun v2 =>
  dPtr v2 (fun p3 =>
  HCalls Tryz.prog 70 #[Value.pointer p3] H (Sp.retK (fun v4 H5 =>
  dInt IntKind.i64 v4 (fun n6 =>
  R (Ending.returned (Value.bool (decide (x1 < n6)))) H5)) (pnR R)))))) (R (Ending.returned (Value.bool false)) H)
theorem F71_eq (x0 : Option Addr) (x1 : Int) (R : Ending → Heap → Prop) (H : Heap) : F71 x0 x1 R H = vc Tryz.prog (codeOf Tryz.f71) .leaf (postV Tryz.prog Tryz.f71 R) ⟨#[Value.pointer x0, Value.int IntKind.i64 x1] ++ Array.replicate (Tryz.f71.ntmps - 2) undef, []⟩ H := by kernel_rfl
theorem F71_calls {R : Ending → Heap → Prop} {H : Heap} (x0 : Option Addr) (x1 : Int) (h : F71 x0 x1 R H) : HCalls Tryz.prog 71 #[Value.pointer x0, Value.int IntKind.i64 x1] H R :=
  calls_by (F := F71 x0 x1 R H) .leaf Tryz.func71 rfl (F71_eq x0 x1 R H) h
/-- (*bollard/volume.Volume).read -/
def F72 (x0 : Option Addr) (x1 : Int) (R : Ending → Heap → Prop) (H : Heap) : Prop :=
  HCalls Tryz.prog 71 #[Value.pointer x0, Value.int IntKind.i64 x1] H (Sp.retK (fun v1 H2 =>
  dBl v1 (fun b3 =>
  sB (!b3) (R (Ending.returned (Value.tuple #[Value.slice none 0 0, Value.int IntKind.i64 90])) H2) (nz x0 (fun a4 =>
  ld H2 (Addr.add a4 3) (fun v5 =>
  dPtr v5 (fun p6 =>
  HCalls Tryz.prog 125 #[Value.pointer p6, Value.int IntKind.i64 x1] H2 (Sp.retK (fun v7 H8 =>
  dT 2 v7 (fun v9 v10 =>
  dSl v9 (fun p11 r12 r13 =>
  dInt IntKind.i64 v10 (fun n14 =>
  sB (n14 != 0) (R (Ending.returned (Value.tuple #[Value.slice none 0 0, Value.int IntKind.i64 n14])) H8) (nz x0 (fun a15 =>
  ld H8 (Addr.add a15 4) (fun v16 =>
  dPtr v16 (fun p17 =>
  HCalls Tryz.prog 126 #[Value.pointer p17, Value.int IntKind.i64 x1, Value.slice p11 r12 r13] H8 (Sp.retK (fun v18 H19 =>
  dT 2 v18 (fun v20 v21 =>
  dSl v20 (fun p22 r23 r24 =>
  dInt IntKind.i64 v21 (fun n25 =>
  R (Ending.returned (Value.tuple #[Value.slice p22 r23 r24, Value.int IntKind.i64 n25])) H19)))) (pnR R)))))))))) (pnR R)))))))) (pnR R))
theorem F72_eq (x0 : Option Addr) (x1 : Int) (R : Ending → Heap → Prop) (H : Heap) : F72 x0 x1 R H = vc Tryz.prog (codeOf Tryz.f72) .leaf (postV Tryz.prog Tryz.f72 R) ⟨#[Value.pointer x0, Value.int IntKind.i64 x1] ++ Array.replicate (Tryz.f72.ntmps - 2) undef, []⟩ H := by kernel_rfl
theorem F72_calls {R : Ending → Heap → Prop} {H : Heap} (x0 : Option Addr) (x1 : Int) (h : F72 x0 x1 R H) : HCalls Tryz.prog 72 #[Value.pointer x0, Value.int IntKind.i64 x1] H R :=
  calls_by (F := F72 x0 x1 R H) .leaf Tryz.func72 rfl (F72_eq x0 x1 R H) h
/-- (*bollard/patch.Set).Add -/
def F73 (x0 : Option Addr) (x1 : Int) (x2 : Int) (x3a : Option Addr) (x3n : Nat) (x3c : Nat) (x4a : Option Addr) (x4n : Nat) (x4c : Nat) (R : Ending → Heap → Prop) (H : Heap) : Prop :=
  al H (Obj.cells #[Value.pointer x0] 51) (fun r1 H2 =>
  ld H2 (Addr.mk r1 0 none) (fun v3 =>
  dPtr v3 (fun p4 =>
  HCalls Tryz.prog 127 #[Value.pointer p4] H2 (Sp.retK (fun v5 H6 =>
  dBl v5 (fun b7 =>
  sB (!b7) (R (Ending.returned (Value.tuple #[Value.int IntKind.i64 0, Value.int IntKind.i64 2])) H6) (HCalls Tryz.prog 128 #[Value.int IntKind.i64 x1, Value.int IntKind.i64 x2, Value.slice x3a x3n x3c] H6 (Sp.retK (fun v8 H9 =>
  dBl v8 (fun b10 =>
  sB (!b10) (R (Ending.returned (Value.tuple #[Value.int IntKind.i64 0, Value.int IntKind.i64 1])) H9) (HCalls Tryz.prog 88 #[Value.slice x4a x4n x4c, Value.func (Fn.func 129) #[] #[Value.pointer (some (Addr.mk r1 0 none))]] H9 (Sp.retK (fun v11 H12 =>
  dBl v11 (fun b13 =>
  sB b13 (R (Ending.returned (Value.tuple #[Value.int IntKind.i64 0, Value.int IntKind.i64 70])) H12) (ld H12 (Addr.mk r1 0 none) (fun v14 =>
  dPtr v14 (fun p15 =>
  nz p15 (fun a16 =>
  ld H12 a16 (fun v17 =>
  dInt IntKind.i64 v17 (fun n18 =>
  wr IntKind.i64 (n18 + 1) (fun n19 =>
  (HCalls Tryz.prog 107 #[Value.slice x3a x3n x3c] H12 (Sp.retK (fun v20 H21 =>
  dSl v20 (fun p22 r23 r24 =>
  (ld H21 a16 (fun v25 =>
  dInt IntKind.i64 v25 (fun n26 =>
  (Value.int IntKind.i64 n26) = (Value.int IntKind.i64 n18)))) ∧
  (ld H21 (Addr.mk r1 0 none) (fun v27 =>
  dPtr v27 (fun p28 =>
  (Value.pointer p28) = (Value.pointer p15)))) ∧
  al H21 (Obj.cells #[Value.int IntKind.i64 0, Value.int IntKind.i64 0, Value.int IntKind.i64 0, Value.slice none 0 0, Value.slice none 0 0] 194) (fun r29 H30 =>
  (ld H30 a16 (fun v31 =>
  dInt IntKind.i64 v31 (fun n32 =>
  (Value.int IntKind.i64 n32) = (Value.int IntKind.i64 n18)))) ∧
  (ld H30 (Addr.mk r1 0 none) (fun v33 =>
  dPtr v33 (fun p34 =>
  (Value.pointer p34) = (Value.pointer p15)))) ∧
  st H30 (Addr.mk r29 0 none) (Value.int IntKind.i64 n19) (fun H35 =>
  st H35 (Addr.mk r29 1 none) (Value.int IntKind.i64 x1) (fun H36 =>
  st H36 (Addr.mk r29 2 none) (Value.int IntKind.i64 x2) (fun H37 =>
  st H37 (Addr.mk r29 3 none) (Value.slice p22 r23 r24) (fun H38 =>
  st H38 (Addr.mk r29 4 none) (Value.slice none 0 0) (fun H39 =>
  HCalls Tryz.prog 131 #[Value.slice x4a x4n x4c] H39 (Sp.retK (fun v40 H41 =>
  dSl v40 (fun p42 r43 r44 =>
  ld H41 (Addr.mk r1 0 none) (fun v45 =>
  dPtr v45 (fun p46 =>
  nz p46 (fun a47 =>
  ld H41 (Addr.add a47 2) (fun v48 =>
  dMap v48 (fun p49 =>
  semW Tryz.prog (Instr.range 190 (Value.map p49)) (pnR R) H41 (fun v52 H53 =>
  ∃ I54 : List Value → Heap → Prop,
  ∃ I55 : List Value → Heap → Nat,
  (I54 ([Value.slice p42 r43 r44]) H53) ∧
  ∀ p56 : Option Addr,
  ∀ r57 : Nat,
  ∀ r58 : Nat,
  ∀ v59 v60 v61 v62 v63 v64 v65 v66 v67 v68 v69 v70 v71 v72 : Value,
  ∀ H73 : Heap,
  (I54 ([Value.slice p56 r57 r58]) H73) →
  semW Tryz.prog (Instr.next v52 false 0) (pnR R) H73 (fun v77 H78 =>
  dNx v77 (ld H78 (Addr.mk r1 0 none) (fun v79 =>
  dPtr v79 (fun p80 =>
  HCalls Tryz.prog 133 #[Value.pointer p80, Value.slice p56 r57 r58] H78 (Sp.retK (fun v81 H82 =>
  dSl v81 (fun p83 r84 r85 =>
  st H82 (Addr.mk r29 4 none) (Value.slice p83 r84 r85) (fun H86 =>
  ld H86 (Addr.mk r1 0 none) (fun v87 =>
  dPtr v87 (fun p88 =>
  nz p88 (fun a89 =>
  ld H86 a89 (fun v90 =>
  dInt IntKind.i64 v90 (fun n91 =>
  wr IntKind.i64 (n91 + 1) (fun n92 =>
  nz p88 (fun a93 =>
  st H86 a93 (Value.int IntKind.i64 n92) (fun H94 =>
  ld H94 (Addr.mk r1 0 none) (fun v95 =>
  dPtr v95 (fun p96 =>
  nz p96 (fun a97 =>
  ld H94 (Addr.add a97 2) (fun v98 =>
  dMap v98 (fun p99 =>
  ld H94 (Addr.mk r1 0 none) (fun v100 =>
  dPtr v100 (fun p101 =>
  nz p101 (fun a102 =>
  ld H94 a102 (fun v103 =>
  dInt IntKind.i64 v103 (fun n104 =>
  ld H94 (Addr.mk r29 0 none) (fun v105 =>
  ld H94 (Addr.mk r29 1 none) (fun v106 =>
  ld H94 (Addr.mk r29 2 none) (fun v107 =>
  ld H94 (Addr.mk r29 3 none) (fun v108 =>
  ld H94 (Addr.mk r29 4 none) (fun v109 =>
  semW Tryz.prog (Instr.mapUpdate 190 (Value.map p99) (Value.int IntKind.i64 n104) (Value.agg #[v105, v106, v107, v108, v109])) nopR H94 (fun x112 H113 =>
  ld H113 (Addr.mk r1 0 none) (fun v114 =>
  dPtr v114 (fun p115 =>
  nz p115 (fun a116 =>
  ld H113 a116 (fun v117 =>
  dInt IntKind.i64 v117 (fun n118 =>
  R (Ending.returned (Value.tuple #[Value.int IntKind.i64 n118, Value.int IntKind.i64 0])) H113)))))))))))))))))))))))))))))))) (pnR R))))) (fun v121 v122 =>
  semW Tryz.prog (Instr.entry v52) (pnR R) H78 (fun v125 H126 =>
  dT 2 v125 (fun v127 v128 =>
  dInt IntKind.i64 v127 (fun n129 =>
  dA 5 v128 (fun v130 v131 v132 v133 v134 =>
  al H126 (Obj.cells #[Value.int IntKind.i64 0, Value.int IntKind.i64 0, Value.int IntKind.i64 0, Value.slice none 0 0, Value.slice none 0 0] 194) (fun r135 H136 =>
  st H136 (Addr.mk r135 0 none) v130 (fun H137 =>
  st H137 (Addr.mk r135 1 none) v131 (fun H138 =>
  st H138 (Addr.mk r135 2 none) v132 (fun H139 =>
  st H139 (Addr.mk r135 3 none) v133 (fun H140 =>
  st H140 (Addr.mk r135 4 none) v134 (fun H141 =>
  ld H141 (Addr.mk r29 0 none) (fun v142 =>
  ld H141 (Addr.mk r29 1 none) (fun v143 =>
  ld H141 (Addr.mk r29 2 none) (fun v144 =>
  ld H141 (Addr.mk r29 3 none) (fun v145 =>
  ld H141 (Addr.mk r29 4 none) (fun v146 =>
  ld H141 (Addr.mk r135 0 none) (fun v147 =>
  ld H141 (Addr.mk r135 1 none) (fun v148 =>
  ld H141 (Addr.mk r135 2 none) (fun v149 =>
  ld H141 (Addr.mk r135 3 none) (fun v150 =>
  ld H141 (Addr.mk r135 4 none) (fun v151 =>
  HCalls Tryz.prog 132 #[Value.agg #[v142, v143, v144, v145, v146], Value.agg #[v147, v148, v149, v150, v151]] H141 (Sp.retK (fun v152 H153 =>
  dBl v152 (fun b154 =>
  sB b154 (al H153 (Obj.cells #[Value.int IntKind.i64 n129] 3) (fun r155 H156 =>
  semW Tryz.prog (Builtin.append_ #[73, 73] 73 #[Value.slice p56 r57 r58, Value.slice (some (Addr.mk r155 0 none)) 1 1]) (pnR R) H156 (fun v159 H160 =>
  dSl v159 (fun p161 r162 r163 =>
  (I54 ([Value.slice p161 r162 r163]) H160) ∧
  (I55 [Value.slice p161 r162 r163] H160) < (I55 [Value.slice p56 r57 r58] H73))))) ((I54 ([Value.slice p56 r57 r58]) H153) ∧
  (I55 [Value.slice p56 r57 r58] H153) < (I55 [Value.slice p56 r57 r58] H73)))) (pnR R)))))))))))))))))))))))))))))))) (pnR R)))))))))) nopR)) ∧
  al H12 (Obj.cells #[Value.int IntKind.i64 0, Value.int IntKind.i64 0, Value.int IntKind.i64 0, Value.slice none 0 0, Value.slice none 0 0] 194) (fun r170 H171 =>
  (ld H171 a16 (fun v172 =>
  dInt IntKind.i64 v172 (fun n173 =>
  (Value.int IntKind.i64 n173) = (Value.int IntKind.i64 n18)))) ∧
  (ld H171 (Addr.mk r1 0 none) (fun v174 =>
  dPtr v174 (fun p175 =>
  (Value.pointer p175) = (Value.pointer p15)))) ∧
  HCalls Tryz.prog 107 #[Value.slice x3a x3n x3c] H171 (Sp.retK (fun v176 H177 =>
  dSl v176 (fun p178 r179 r180 =>
  (ld H177 a16 (fun v181 =>
  dInt IntKind.i64 v181 (fun n182 =>
  (Value.int IntKind.i64 n182) = (Value.int IntKind.i64 n18)))) ∧
  (ld H177 (Addr.mk r1 0 none) (fun v183 =>
  dPtr v183 (fun p184 =>
  (Value.pointer p184) = (Value.pointer p15)))) ∧
  st H177 (Addr.mk r170 0 none) (Value.int IntKind.i64 n19) (fun H185 =>
  st H185 (Addr.mk r170 1 none) (Value.int IntKind.i64 x1) (fun H186 =>
  st H186 (Addr.mk r170 2 none) (Value.int IntKind.i64 x2) (fun H187 =>
  st H187 (Addr.mk r170 3 none) (Value.slice p178 r179 r180) (fun H188 =>
  st H188 (Addr.mk r170 4 none) (Value.slice none 0 0) (fun H189 =>
  HCalls Tryz.prog 131 #[Value.slice x4a x4n x4c] H189 (Sp.retK (fun v190 H191 =>
  dSl v190 (fun p192 r193 r194 =>
  ld H191 (Addr.mk r1 0 none) (fun v195 =>
  dPtr v195 (fun p196 =>
  nz p196 (fun a197 =>
  ld H191 (Addr.add a197 2) (fun v198 =>
  dMap v198 (fun p199 =>
  semW Tryz.prog (Instr.range 190 (Value.map p199)) (pnR R) H191 (fun v202 H203 =>
  ∃ I204 : List Value → Heap → Prop,
  ∃ I205 : List Value → Heap → Nat,
  (I204 ([Value.slice p192 r193 r194]) H203) ∧
  ∀ p206 : Option Addr,
  ∀ r207 : Nat,
  ∀ r208 : Nat,
  ∀ v209 v210 v211 v212 v213 v214 v215 v216 v217 v218 v219 v220 v221 v222 : Value,
  ∀ H223 : Heap,
  (I204 ([Value.slice p206 r207 r208]) H223) →
  semW Tryz.prog (Instr.next v202 false 0) (pnR R) H223 (fun v227 H228 =>
  dNx v227 (ld H228 (Addr.mk r1 0 none) (fun v229 =>
  dPtr v229 (fun p230 =>
  HCalls Tryz.prog 133 #[Value.pointer p230, Value.slice p206 r207 r208] H228 (Sp.retK (fun v231 H232 =>
  dSl v231 (fun p233 r234 r235 =>
  st H232 (Addr.mk r170 4 none) (Value.slice p233 r234 r235) (fun H236 =>
  ld H236 (Addr.mk r1 0 none) (fun v237 =>
  dPtr v237 (fun p238 =>
  nz p238 (fun a239 =>
  ld H236 a239 (fun v240 =>
  dInt IntKind.i64 v240 (fun n241 =>
  wr IntKind.i64 (n241 + 1) (fun n242 =>
  nz p238 (fun a243 =>
  st H236 a243 (Value.int IntKind.i64 n242) (fun H244 =>
  ld H244 (Addr.mk r1 0 none) (fun v245 =>
  dPtr v245 (fun p246 =>
  nz p246 (fun a247 =>
  ld H244 (Addr.add a247 2) (fun v248 =>
  dMap v248 (fun p249 =>
  ld H244 (Addr.mk r1 0 none) (fun v250 =>
  dPtr v250 (fun p251 =>
  nz p251 (fun a252 =>
  ld H244 a252 (fun v253 =>
  dInt IntKind.i64 v253 (fun n254 =>
  ld H244 (Addr.mk r170 0 none) (fun v255 =>
  ld H244 (Addr.mk r170 1 none) (fun v256 =>
  ld H244 (Addr.mk r170 2 none) (fun v257 =>
  ld H244 (Addr.mk r170 3 none) (fun v258 =>
  ld H244 (Addr.mk r170 4 none) (fun v259 =>
  semW Tryz.prog (Instr.mapUpdate 190 (Value.map p249) (Value.int IntKind.i64 n254) (Value.agg #[v255, v256, v257, v258, v259])) nopR H244 (fun x262 H263 =>
  ld H263 (Addr.mk r1 0 none) (fun v264 =>
  dPtr v264 (fun p265 =>
  nz p265 (fun a266 =>
  ld H263 a266 (fun v267 =>
  dInt IntKind.i64 v267 (fun n268 =>
  R (Ending.returned (Value.tuple #[Value.int IntKind.i64 n268, Value.int IntKind.i64 0])) H263)))))))))))))))))))))))))))))))) (pnR R))))) (fun v271 v272 =>
  semW Tryz.prog (Instr.entry v202) (pnR R) H228 (fun v275 H276 =>
  dT 2 v275 (fun v277 v278 =>
  dInt IntKind.i64 v277 (fun n279 =>
  dA 5 v278 (fun v280 v281 v282 v283 v284 =>
  al H276 (Obj.cells #[Value.int IntKind.i64 0, Value.int IntKind.i64 0, Value.int IntKind.i64 0, Value.slice none 0 0, Value.slice none 0 0] 194) (fun r285 H286 =>
  st H286 (Addr.mk r285 0 none) v280 (fun H287 =>
  st H287 (Addr.mk r285 1 none) v281 (fun H288 =>
  st H288 (Addr.mk r285 2 none) v282 (fun H289 =>
  st H289 (Addr.mk r285 3 none) v283 (fun H290 =>
  st H290 (Addr.mk r285 4 none) v284 (fun H291 =>
  ld H291 (Addr.mk r170 0 none) (fun v292 =>
  ld H291 (Addr.mk r170 1 none) (fun v293 =>
  ld H291 (Addr.mk r170 2 none) (fun v294 =>
  ld H291 (Addr.mk r170 3 none) (fun v295 =>
  ld H291 (Addr.mk r170 4 none) (fun v296 =>
  ld H291 (Addr.mk r285 0 none) (fun v297 =>
  ld H291 (Addr.mk r285 1 none) (fun v298 =>
  ld H291 (Addr.mk r285 2 none) (fun v299 =>
  ld H291 (Addr.mk r285 3 none) (fun v300 =>
  ld H291 (Addr.mk r285 4 none) (fun v301 =>
  HCalls Tryz.prog 132 #[Value.agg #[v292, v293, v294, v295, v296], Value.agg #[v297, v298, v299, v300, v301]] H291 (Sp.retK (fun v302 H303 =>
  dBl v302 (fun b304 =>
  sB b304 (al H303 (Obj.cells #[Value.int IntKind.i64 n279] 3) (fun r305 H306 =>
  semW Tryz.prog (Builtin.append_ #[73, 73] 73 #[Value.slice p206 r207 r208, Value.slice (some (Addr.mk r305 0 none)) 1 1]) (pnR R) H306 (fun v309 H310 =>
  dSl v309 (fun p311 r312 r313 =>
  (I204 ([Value.slice p311 r312 r313]) H310) ∧
  (I205 [Value.slice p311 r312 r313] H310) < (I205 [Value.slice p206 r207 r208] H223))))) ((I204 ([Value.slice p206 r207 r208]) H303) ∧
  (I205 [Value.slice p206 r207 r208] H303) < (I205 [Value.slice p206 r207 r208] H223)))) (pnR R)))))))))))))))))))))))))))))))) (pnR R))))))))) nopR))))))))))) (pnR R))))) (pnR R))))) (pnR R)))))
theorem F73_eq (x0 : Option Addr) (x1 : Int) (x2 : Int) (x3a : Option Addr) (x3n : Nat) (x3c : Nat) (x4a : Option Addr) (x4n : Nat) (x4c : Nat) (R : Ending → Heap → Prop) (H : Heap) : F73 x0 x1 x2 x3a x3n x3c x4a x4n x4c R H = vc Tryz.prog (codeOf Tryz.f73) (.node none .leaf (.node none .leaf (.node none .leaf (.node none .leaf (.node none (.node none .leaf (.node none (.node (some ⟨[(13, 73)], [14, 15, 47, 48, 49, 50, 51, 52, 53, 54, 55, 56, 57, 58]⟩) .leaf .leaf) .leaf)) .leaf))))) (postV Tryz.prog Tryz.f73 R) ⟨#[Value.pointer x0, Value.int IntKind.i64 x1, Value.int IntKind.i64 x2, Value.slice x3a x3n x3c, Value.slice x4a x4n x4c] ++ Array.replicate (Tryz.f73.ntmps - 5) undef, []⟩ H := by kernel_rfl
theorem F73_calls {R : Ending → Heap → Prop} {H : Heap} (x0 : Option Addr) (x1 : Int) (x2 : Int) (x3a : Option Addr) (x3n : Nat) (x3c : Nat) (x4a : Option Addr) (x4n : Nat) (x4c : Nat) (h : F73 x0 x1 x2 x3a x3n x3c x4a x4n x4c R H) : HCalls Tryz.prog 73 #[Value.pointer x0, Value.int IntKind.i64 x1, Value.int IntKind.i64 x2, Value.slice x3a x3n x3c, Value.slice x4a x4n x4c] H R :=
  calls_by (F := F73 x0 x1 x2 x3a x3n x3c x4a x4n x4c R H) (.node none .leaf (.node none .leaf (.node none .leaf (.node none .leaf (.node none (.node none .leaf (.node none (.node (some ⟨[(13, 73)], [14, 15, 47, 48, 49, 50, 51, 52, 53, 54, 55, 56, 57, 58]⟩) .leaf .leaf) .leaf)) .leaf))))) Tryz.func73 rfl (F73_eq x0 x1 x2 x3a x3n x3c x4a x4n x4c R H) h
end Go.Proofs.YtngploohhmfaiaaGreat.E
/- The functions' forms in the engine's words, printed by my own program. -/
namespace Go.Proofs.YtngploohhmfaiaaGreat.E
open Go Go.Proofs
set_option linter.unusedVariables false
/-- bollard/cache.New -/
def F81 (x0 : Option Addr) (x1 : Int) (R : Ending → Heap → Prop) (H : Heap) : Prop :=
  HCalls Tryz.prog 70 #[Value.pointer x0] H (Sp.retK (fun v1 H2 =>
  dInt IntKind.i64 v1 (fun n3 =>
  sB (n3 == 0) (R (Ending.returned (Value.tuple #[Value.pointer none, Value.int IntKind.i64 2])) H2) (jn (α := VFH 1) (fun v4 H5 =>
  ∀ v6 v7 v8 v9 v10 : Value,
  dBl v4 (fun b11 =>
  sB b11 (R (Ending.returned (Value.tuple #[Value.pointer none, Value.int IntKind.i64 1])) H5) (al H5 (Obj.map #[] 0) (fun r12 H13 =>
  al H13 (Obj.cells #[Value.pointer x0, Value.int IntKind.i64 x1, Value.map (some r12), Value.int IntKind.i64 0, Value.int IntKind.i64 0, Value.int IntKind.i64 0] 203) (fun r14 H15 =>
  R (Ending.returned (Value.tuple #[Value.pointer (some (Addr.mk r14 0 none)), Value.int IntKind.i64 0])) H15))))) (fun k16 =>
  sB (decide (x1 < 1)) (k16 (Value.bool true) H2) (k16 (Value.bool (decide (x1 > 64))) H2))))) (pnR R))
theorem F81_eq (x0 : Option Addr) (x1 : Int) (R : Ending → Heap → Prop) (H : Heap) : F81 x0 x1 R H = vc Tryz.prog (codeOf Tryz.f81) (.node none .leaf (.node none .leaf (.node none (.node (some ⟨[(14, 4)], [9, 10, 11, 12, 13]⟩) .leaf .leaf) .leaf))) (postV Tryz.prog Tryz.f81 R) ⟨#[Value.pointer x0, Value.int IntKind.i64 x1] ++ Array.replicate (Tryz.f81.ntmps - 2) undef, []⟩ H := by kernel_rfl
theorem F81_calls {R : Ending → Heap → Prop} {H : Heap} (x0 : Option Addr) (x1 : Int) (h : F81 x0 x1 R H) : HCalls Tryz.prog 81 #[Value.pointer x0, Value.int IntKind.i64 x1] H R :=
  calls_by (F := F81 x0 x1 R H) (.node none .leaf (.node none .leaf (.node none (.node (some ⟨[(14, 4)], [9, 10, 11, 12, 13]⟩) .leaf .leaf) .leaf))) Tryz.func81 rfl (F81_eq x0 x1 R H) h
/-- bollard/patch.New -/
def F82  (R : Ending → Heap → Prop) (H : Heap) : Prop :=
  al H (Obj.map #[] 0) (fun r1 H2 =>
  al H2 (Obj.map #[] 0) (fun r3 H4 =>
  al H4 (Obj.cells #[Value.int IntKind.i64 0, Value.map (some r1), Value.map (some r3), Value.bool true] 192) (fun r5 H6 =>
  R (Ending.returned (Value.pointer (some (Addr.mk r5 0 none)))) H6)))
theorem F82_eq  (R : Ending → Heap → Prop) (H : Heap) : F82  R H = vc Tryz.prog (codeOf Tryz.f82) .leaf (postV Tryz.prog Tryz.f82 R) ⟨#[] ++ Array.replicate (Tryz.f82.ntmps - 0) undef, []⟩ H := by kernel_rfl
theorem F82_calls {R : Ending → Heap → Prop} {H : Heap}  (h : F82  R H) : HCalls Tryz.prog 82 #[] H R :=
  calls_by (F := F82  R H) .leaf Tryz.func82 rfl (F82_eq  R H) h
/-- (*bollard/volume.Volume).ready -/
def F83 (x0 : Option Addr) (R : Ending → Heap → Prop) (H : Heap) : Prop :=
  al H (Obj.cells #[Value.pointer x0] 30) (fun r1 H2 =>
  ask ((0 : Int) ≤ (128 : Int) ∧ (128 : Int) ≤ (128 : Int) ∧ (128 : Int) ≤ (281474976710656 : Int) ∧ (128 : Int) ≤ (9223372036854775807 : Int)) (al H2 (Obj.cells (List.toArray (rowZ [Value.int IntKind.u8 0] (Int.toNat 128))) 5) (fun r3 H4 =>
  al H4 (Obj.cells #[Value.slice none 0 0] 38) (fun r5 H6 =>
  st H6 (Addr.mk r5 0 none) (Value.slice (some (Addr.mk r3 0 none)) (Int.toNat 128) (Int.toNat 128)) (fun H7 =>
  ld H7 (Addr.mk r1 0 none) (fun v8 =>
  dPtr v8 (fun p9 =>
  nz p9 (fun a10 =>
  ld H7 (Addr.add a10 4) (fun v11 =>
  dPtr v11 (fun p12 =>
  HCalls Tryz.prog 99 #[Value.pointer p12] H7 (Sp.retK (fun v13 H14 =>
  dSl v13 (fun p15 r16 r17 =>
  HCalls Tryz.prog 140 #[Value.slice p15 r16 r17, Value.func (Fn.func 141) #[] #[Value.pointer (some (Addr.mk r1 0 none)), Value.pointer (some (Addr.mk r5 0 none))]] H14 (Sp.retK (fun v18 H19 =>
  dSl v18 (fun p20 r21 r22 =>
  R (Ending.returned (Value.slice p20 r21 r22)) H19)) (pnR R)))) (pnR R))))))))))))
theorem F83_eq (x0 : Option Addr) (R : Ending → Heap → Prop) (H : Heap) : F83 x0 R H = vc Tryz.prog (codeOf Tryz.f83) .leaf (postV Tryz.prog Tryz.f83 R) ⟨#[Value.pointer x0] ++ Array.replicate (Tryz.f83.ntmps - 1) undef, []⟩ H := by kernel_rfl
theorem F83_calls {R : Ending → Heap → Prop} {H : Heap} (x0 : Option Addr) (h : F83 x0 R H) : HCalls Tryz.prog 83 #[Value.pointer x0] H R :=
  calls_by (F := F83 x0 R H) .leaf Tryz.func83 rfl (F83_eq x0 R H) h
/-- (*bollard/volume.Volume).write -/
def F84 (x0 : Option Addr) (x1 : Int) (R : Ending → Heap → Prop) (H : Heap) : Prop :=
  HCalls Tryz.prog 71 #[Value.pointer x0, Value.int IntKind.i64 x1] H (Sp.retK (fun v1 H2 =>
  dBl v1 (fun b3 =>
  sB (!b3) (R (Ending.returned (Value.int IntKind.i64 90)) H2) (HCalls Tryz.prog 143 #[Value.pointer x0, Value.int IntKind.i64 x1] H2 (Sp.retK (fun v4 H5 =>
  dBl v4 (fun b6 =>
  sB b6 (R (Ending.returned (Value.int IntKind.i64 3)) H5) (nz x0 (fun a7 =>
  ld H5 (Addr.add a7 4) (fun v8 =>
  dPtr v8 (fun p9 =>
  ask ((0 : Int) ≤ (128 : Int) ∧ (128 : Int) ≤ (128 : Int) ∧ (128 : Int) ≤ (281474976710656 : Int) ∧ (128 : Int) ≤ (9223372036854775807 : Int)) (al H5 (Obj.cells (List.toArray (rowZ [Value.int IntKind.u8 0] (Int.toNat 128))) 5) (fun r10 H11 =>
  (ld H11 (Addr.add a7 4) (fun v12 =>
  dPtr v12 (fun p13 =>
  (Value.pointer p13) = (Value.pointer p9)))) ∧
  HCalls Tryz.prog 142 #[Value.pointer p9, Value.int IntKind.i64 x1, Value.slice (some (Addr.mk r10 0 none)) (Int.toNat 128) (Int.toNat 128)] H11 (Sp.retK (fun v14 H15 =>
  dT 3 v14 (fun v16 v17 v18 =>
  dSl v16 (fun p19 r20 r21 =>
  dSl v17 (fun p22 r23 r24 =>
  dInt IntKind.i64 v18 (fun n25 =>
  sB (n25 != 0) (R (Ending.returned (Value.int IntKind.i64 n25)) H15) (nz x0 (fun a26 =>
  ld H15 (Addr.add a26 3) (fun v27 =>
  dPtr v27 (fun p28 =>
  HCalls Tryz.prog 125 #[Value.pointer p28, Value.int IntKind.i64 x1] H15 (Sp.retK (fun v29 H30 =>
  dT 2 v29 (fun v31 v32 =>
  dSl v31 (fun p33 r34 r35 =>
  dInt IntKind.i64 v32 (fun n36 =>
  sB (n36 != 0) (R (Ending.returned (Value.int IntKind.i64 n36)) H30) (nz x0 (fun a37 =>
  ld H30 (Addr.add a37 4) (fun v38 =>
  dPtr v38 (fun p39 =>
  HCalls Tryz.prog 142 #[Value.pointer p39, Value.int IntKind.i64 x1, Value.slice p33 r34 r35] H30 (Sp.retK (fun v40 H41 =>
  dT 3 v40 (fun v42 v43 v44 =>
  dSl v42 (fun p45 r46 r47 =>
  dSl v43 (fun p48 r49 r50 =>
  dInt IntKind.i64 v44 (fun n51 =>
  sB (n51 != 0) (R (Ending.returned (Value.int IntKind.i64 n51)) H41) (nz x0 (fun a52 =>
  ld H41 (Addr.add a52 2) (fun v53 =>
  dPtr v53 (fun p54 =>
  HCalls Tryz.prog 144 #[Value.pointer p54, Value.int IntKind.i64 x1, Value.slice p45 r46 r47] H41 (Sp.retK (fun v55 H56 =>
  dT 2 v55 (fun v57 v58 =>
  dInt IntKind.i64 v57 (fun n59 =>
  dInt IntKind.i64 v58 (fun n60 =>
  jn (α := VFH 0) (fun H61 =>
  ∀ v62 v63 v64 v65 v66 v67 v68 v69 v70 v71 v72 : Value,
  R (Ending.returned (Value.int IntKind.i64 n60)) H61) (fun k73 =>
  sB (n60 == 0) (nz x0 (fun a74 =>
  ld H56 (Addr.add a74 5) (fun v75 =>
  dMap v75 (fun p76 =>
  semW Tryz.prog (Instr.mapUpdate 52 (Value.map p76) (Value.int IntKind.i64 n59) (Value.agg #[Value.int IntKind.i64 x1, Value.slice p45 r46 r47, Value.slice p48 r49 r50])) (pnR R) H56 (fun x79 H80 =>
  k73 H80))))) (k73 H56)))))) (pnR R))))))))))) (pnR R)))))))))) (pnR R))))))))))) nopR))))))))) (pnR R))))) (pnR R))
theorem F84_eq (x0 : Option Addr) (x1 : Int) (R : Ending → Heap → Prop) (H : Heap) : F84 x0 x1 R H = vc Tryz.prog (codeOf Tryz.f84) (.node none .leaf (.node none .leaf (.node none .leaf (.node none .leaf (.node none .leaf (.node none .leaf (.node none .leaf (.node none .leaf (.node none .leaf (.node (some ⟨[], [71, 72, 73, 74, 75, 76, 77, 78, 79, 80, 81]⟩) .leaf .leaf)))))))))) (postV Tryz.prog Tryz.f84 R) ⟨#[Value.pointer x0, Value.int IntKind.i64 x1] ++ Array.replicate (Tryz.f84.ntmps - 2) undef, []⟩ H := by kernel_rfl
theorem F84_calls {R : Ending → Heap → Prop} {H : Heap} (x0 : Option Addr) (x1 : Int) (h : F84 x0 x1 R H) : HCalls Tryz.prog 84 #[Value.pointer x0, Value.int IntKind.i64 x1] H R :=
  calls_by (F := F84 x0 x1 R H) (.node none .leaf (.node none .leaf (.node none .leaf (.node none .leaf (.node none .leaf (.node none .leaf (.node none .leaf (.node none .leaf (.node none .leaf (.node (some ⟨[], [71, 72, 73, 74, 75, 76, 77, 78, 79, 80, 81]⟩) .leaf .leaf)))))))))) Tryz.func84 rfl (F84_eq x0 x1 R H) h
/-- (*bollard/volume.Volume).complete -/
def F85 (x0 : Option Addr) (x1 : Int) (x2 : Bool) (R : Ending → Heap → Prop) (H : Heap) : Prop :=
  nz x0 (fun a1 =>
  ld H (Addr.add a1 2) (fun v2 =>
  dPtr v2 (fun p3 =>
  HCalls Tryz.prog 36 #[Value.pointer p3] H (Sp.retK (fun v4 H5 =>
  dSl v4 (fun p6 r7 r8 =>
  jn (α := VFH 1) (fun v9 H10 =>
  ∀ v11 v12 v13 v14 v15 v16 v17 : Value,
  dBl v9 (fun b18 =>
  sB b18 (R (Ending.returned (Value.int IntKind.i64 1)) H10) (nz x0 (fun a19 =>
  ld H10 (Addr.add a19 5) (fun v20 =>
  dMap v20 (fun p21 =>
  nz p6 (fun a22 =>
  ask ((0 : Int) ≤ x1 ∧ x1 < (↑r7 : Int)) (ld H10 (Addr.add a22 (Int.toNat x1 * 3)) (fun v23 =>
  dInt IntKind.i64 v23 (fun n24 =>
  (semW Tryz.prog (Instr.lookup 52 (Value.map p21) (Value.int IntKind.i64 n24) true) nopR H10 (fun v27 H28 =>
  dT 2 v27 (fun v29 v30 =>
  dA 3 v29 (fun v31 v32 v33 =>
  dBl v30 (fun b34 =>
  al H28 (Obj.cells #[Value.int IntKind.i64 0, Value.slice none 0 0, Value.slice none 0 0] 153) (fun r35 H36 =>
  st H36 (Addr.mk r35 0 none) v31 (fun H37 =>
  st H37 (Addr.mk r35 1 none) v32 (fun H38 =>
  st H38 (Addr.mk r35 2 none) v33 (fun H39 =>
  nz x0 (fun a40 =>
  ld H39 (Addr.add a40 5) (fun v41 =>
  dMap v41 (fun p42 =>
  nz p6 (fun a43 =>
  ask ((0 : Int) ≤ x1 ∧ x1 < (↑r7 : Int)) (ld H39 (Addr.add a43 (Int.toNat x1 * 3)) (fun v44 =>
  dInt IntKind.i64 v44 (fun n45 =>
  semW Tryz.prog (Builtin.delete_ #[52, 3] 0 #[Value.map p42, Value.int IntKind.i64 n45]) nopR H39 (fun v48 H49 =>
  nz x0 (fun a50 =>
  ld H49 (Addr.add a50 2) (fun v51 =>
  dPtr v51 (fun p52 =>
  nz p6 (fun a53 =>
  ask ((0 : Int) ≤ x1 ∧ x1 < (↑r7 : Int)) (ld H49 (Addr.add a53 (Int.toNat x1 * 3)) (fun v54 =>
  dInt IntKind.i64 v54 (fun n55 =>
  HCalls Tryz.prog 145 #[Value.pointer p52, Value.int IntKind.i64 n55, Value.bool x2] H49 (Sp.retK (fun v56 H57 =>
  dInt IntKind.i64 v56 (fun n58 =>
  jn (α := VFH 1) (fun v59 H60 =>
  ∀ v61 v62 v63 v64 v65 v66 v67 v68 v69 : Value,
  dBl v59 (fun b70 =>
  sB b70 (R (Ending.returned (Value.int IntKind.i64 n58)) H60) (nz x0 (fun a71 =>
  ld H60 (Addr.add a71 3) (fun v72 =>
  dPtr v72 (fun p73 =>
  ld H60 (Addr.mk r35 0 none) (fun v74 =>
  dInt IntKind.i64 v74 (fun n75 =>
  ld H60 (Addr.mk r35 1 none) (fun v76 =>
  dSl v76 (fun p77 r78 r79 =>
  HCalls Tryz.prog 146 #[Value.pointer p73, Value.int IntKind.i64 n75, Value.slice p77 r78 r79] H60 (Sp.retK (fun v80 H81 =>
  dInt IntKind.i64 v80 (fun n82 =>
  sB (n82 != 0) (R (Ending.returned (Value.int IntKind.i64 n82)) H81) (nz x0 (fun a83 =>
  ld H81 (Addr.add a83 4) (fun v84 =>
  dPtr v84 (fun p85 =>
  ld H81 (Addr.mk r35 2 none) (fun v86 =>
  dSl v86 (fun p87 r88 r89 =>
  HCalls Tryz.prog 147 #[Value.pointer p85, Value.slice p87 r88 r89] H81 (Sp.retK (fun v90 H91 =>
  dInt IntKind.i64 v90 (fun n92 =>
  R (Ending.returned (Value.int IntKind.i64 n92)) H91)) nopR))))))))) nopR))))))))))) (fun k97 =>
  sB (n58 != 0) (k97 (Value.bool true) H57) (sB (!x2) (k97 (Value.bool true) H57) (k97 (Value.bool !b34) H57))))) nopR))))))))))))))))))))))))) ∧
  al H10 (Obj.cells #[Value.int IntKind.i64 0, Value.slice none 0 0, Value.slice none 0 0] 153) (fun r100 H101 =>
  (ld H101 (Addr.add a22 (Int.toNat x1 * 3)) (fun v102 =>
  dInt IntKind.i64 v102 (fun n103 =>
  (Value.int IntKind.i64 n103) = (Value.int IntKind.i64 n24)))) ∧
  (ld H101 (Addr.add a19 5) (fun v104 =>
  dMap v104 (fun p105 =>
  (Value.map p105) = (Value.map p21)))) ∧
  semW Tryz.prog (Instr.lookup 52 (Value.map p21) (Value.int IntKind.i64 n24) true) nopR H101 (fun v108 H109 =>
  dT 2 v108 (fun v110 v111 =>
  dA 3 v110 (fun v112 v113 v114 =>
  dBl v111 (fun b115 =>
  st H109 (Addr.mk r100 0 none) v112 (fun H116 =>
  st H116 (Addr.mk r100 1 none) v113 (fun H117 =>
  st H117 (Addr.mk r100 2 none) v114 (fun H118 =>
  nz x0 (fun a119 =>
  ld H118 (Addr.add a119 5) (fun v120 =>
  dMap v120 (fun p121 =>
  nz p6 (fun a122 =>
  ask ((0 : Int) ≤ x1 ∧ x1 < (↑r7 : Int)) (ld H118 (Addr.add a122 (Int.toNat x1 * 3)) (fun v123 =>
  dInt IntKind.i64 v123 (fun n124 =>
  semW Tryz.prog (Builtin.delete_ #[52, 3] 0 #[Value.map p121, Value.int IntKind.i64 n124]) nopR H118 (fun v127 H128 =>
  nz x0 (fun a129 =>
  ld H128 (Addr.add a129 2) (fun v130 =>
  dPtr v130 (fun p131 =>
  nz p6 (fun a132 =>
  ask ((0 : Int) ≤ x1 ∧ x1 < (↑r7 : Int)) (ld H128 (Addr.add a132 (Int.toNat x1 * 3)) (fun v133 =>
  dInt IntKind.i64 v133 (fun n134 =>
  HCalls Tryz.prog 145 #[Value.pointer p131, Value.int IntKind.i64 n134, Value.bool x2] H128 (Sp.retK (fun v135 H136 =>
  dInt IntKind.i64 v135 (fun n137 =>
  jn (α := VFH 1) (fun v138 H139 =>
  ∀ v140 v141 v142 v143 v144 v145 v146 v147 v148 : Value,
  dBl v138 (fun b149 =>
  sB b149 (R (Ending.returned (Value.int IntKind.i64 n137)) H139) (nz x0 (fun a150 =>
  ld H139 (Addr.add a150 3) (fun v151 =>
  dPtr v151 (fun p152 =>
  ld H139 (Addr.mk r100 0 none) (fun v153 =>
  dInt IntKind.i64 v153 (fun n154 =>
  ld H139 (Addr.mk r100 1 none) (fun v155 =>
  dSl v155 (fun p156 r157 r158 =>
  HCalls Tryz.prog 146 #[Value.pointer p152, Value.int IntKind.i64 n154, Value.slice p156 r157 r158] H139 (Sp.retK (fun v159 H160 =>
  dInt IntKind.i64 v159 (fun n161 =>
  sB (n161 != 0) (R (Ending.returned (Value.int IntKind.i64 n161)) H160) (nz x0 (fun a162 =>
  ld H160 (Addr.add a162 4) (fun v163 =>
  dPtr v163 (fun p164 =>
  ld H160 (Addr.mk r100 2 none) (fun v165 =>
  dSl v165 (fun p166 r167 r168 =>
  HCalls Tryz.prog 147 #[Value.pointer p164, Value.slice p166 r167 r168] H160 (Sp.retK (fun v169 H170 =>
  dInt IntKind.i64 v169 (fun n171 =>
  R (Ending.returned (Value.int IntKind.i64 n171)) H170)) nopR))))))))) nopR))))))))))) (fun k176 =>
  sB (n137 != 0) (k176 (Value.bool true) H136) (sB (!x2) (k176 (Value.bool true) H136) (k176 (Value.bool !b115) H136))))) nopR)))))))))))))))))))))))))))))))))) (fun k179 =>
  sB (decide (x1 < 0)) (k179 (Value.bool true) H5) (k179 (Value.bool (decide (x1 ≥ (↑r7 : Int)))) H5)))) (pnR R)))))
theorem F85_eq (x0 : Option Addr) (x1 : Int) (x2 : Bool) (R : Ending → Heap → Prop) (H : Heap) : F85 x0 x1 x2 R H = vc Tryz.prog (codeOf Tryz.f85) (.node none .leaf (.node none .leaf (.node none (.node (some ⟨[(23, 4)], [16, 17, 18, 19, 20, 21, 22]⟩) .leaf .leaf) (.node none .leaf (.node none .leaf (.node none .leaf (.node none (.node (some ⟨[(66, 4)], [57, 58, 59, 60, 61, 62, 63, 64, 65]⟩) .leaf .leaf) .leaf))))))) (postV Tryz.prog Tryz.f85 R) ⟨#[Value.pointer x0, Value.int IntKind.i64 x1, Value.bool x2] ++ Array.replicate (Tryz.f85.ntmps - 3) undef, []⟩ H := by kernel_rfl
theorem F85_calls {R : Ending → Heap → Prop} {H : Heap} (x0 : Option Addr) (x1 : Int) (x2 : Bool) (h : F85 x0 x1 x2 R H) : HCalls Tryz.prog 85 #[Value.pointer x0, Value.int IntKind.i64 x1, Value.bool x2] H R :=
  calls_by (F := F85 x0 x1 x2 R H) (.node none .leaf (.node none .leaf (.node none (.node (some ⟨[(23, 4)], [16, 17, 18, 19, 20, 21, 22]⟩) .leaf .leaf) (.node none .leaf (.node none .leaf (.node none .leaf (.node none (.node (some ⟨[(66, 4)], [57, 58, 59, 60, 61, 62, 63, 64, 65]⟩) .leaf .leaf) .leaf))))))) Tryz.func85 rfl (F85_eq x0 x1 x2 R H) h
/-- bollard/disk.sent -/
def F86 (x0a : Option Addr) (x0n : Nat) (x0c : Nat) (R : Ending → Heap → Prop) (H : Heap) : Prop :=
  ∃ I1 : List Value → Heap → Prop,
  ∃ I2 : List Value → Heap → Nat,
  (I1 ([Value.slice none 0 0, Value.int IntKind.i64 0]) H) ∧
  ∀ p3 : Option Addr,
  ∀ r4 : Nat,
  ∀ r5 : Nat,
  ∀ n6 : Int,
  ∀ v7 v8 v9 v10 v11 v12 v13 v14 v15 v16 v17 v18 v19 : Value,
  ∀ H20 : Heap,
  (I1 ([Value.slice p3 r4 r5, Value.int IntKind.i64 n6]) H20) →
  sB (decide (n6 < (↑x0n : Int))) (nz x0a (fun a22 =>
  ask ((0 : Int) ≤ n6 ∧ n6 < (↑x0n : Int)) (ld H20 (Addr.add a22 (Int.toNat n6 * 3)) (fun v23 =>
  ld H20 (Addr.add (Addr.add a22 (Int.toNat n6 * 3)) 1) (fun v24 =>
  ld H20 (Addr.add (Addr.add a22 (Int.toNat n6 * 3)) 2) (fun v25 =>
  al H20 (Obj.cells #[Value.int IntKind.i64 0, Value.int IntKind.i64 0, Value.slice none 0 0] 96) (fun r26 H27 =>
  st H27 (Addr.mk r26 0 none) v23 (fun H28 =>
  st H28 (Addr.mk r26 1 none) v24 (fun H29 =>
  st H29 (Addr.mk r26 2 none) v25 (fun H30 =>
  ld H30 (Addr.mk r26 2 none) (fun v31 =>
  dSl v31 (fun p32 r33 r34 =>
  HCalls Tryz.prog 48 #[Value.slice p32 r33 r34] H30 (Sp.retK (fun v35 H36 =>
  dSl v35 (fun p37 r38 r39 =>
  st H36 (Addr.mk r26 2 none) (Value.slice p37 r38 r39) (fun H40 =>
  ld H40 (Addr.mk r26 0 none) (fun v41 =>
  ld H40 (Addr.mk r26 1 none) (fun v42 =>
  ld H40 (Addr.mk r26 2 none) (fun v43 =>
  al H40 (Obj.cells #[v41, v42, v43] 96) (fun r44 H45 =>
  semW Tryz.prog (Builtin.append_ #[93, 93] 93 #[Value.slice p3 r4 r5, Value.slice (some (Addr.mk r44 0 none)) 1 1]) (pnR R) H45 (fun v48 H49 =>
  dSl v48 (fun p50 r51 r52 =>
  wr IntKind.i64 (n6 + 1) (fun n53 =>
  (I1 ([Value.slice p50 r51 r52, Value.int IntKind.i64 n53]) H49) ∧
  (I2 [Value.slice p50 r51 r52, Value.int IntKind.i64 n53] H49) < (I2 [Value.slice p3 r4 r5, Value.int IntKind.i64 n6] H20))))))))))) (pnR R)))))))))))))) (R (Ending.returned (Value.slice p3 r4 r5)) H20)
theorem F86_eq (x0a : Option Addr) (x0n : Nat) (x0c : Nat) (R : Ending → Heap → Prop) (H : Heap) : F86 x0a x0n x0c R H = vc Tryz.prog (codeOf Tryz.f86) (.node none .leaf (.node none .leaf (.node none (.node none .leaf (.node none (.node (some ⟨[(3, 93), (8, 3)], [5, 9, 10, 11, 12, 13, 14, 15, 16, 17, 18, 19, 20]⟩) .leaf .leaf) .leaf)) .leaf))) (postV Tryz.prog Tryz.f86 R) ⟨#[Value.slice x0a x0n x0c] ++ Array.replicate (Tryz.f86.ntmps - 1) undef, []⟩ H := by kernel_rfl
theorem F86_calls {R : Ending → Heap → Prop} {H : Heap} (x0a : Option Addr) (x0n : Nat) (x0c : Nat) (h : F86 x0a x0n x0c R H) : HCalls Tryz.prog 86 #[Value.slice x0a x0n x0c] H R :=
  calls_by (F := F86 x0a x0n x0c R H) (.node none .leaf (.node none .leaf (.node none (.node none .leaf (.node none (.node (some ⟨[(3, 93), (8, 3)], [5, 9, 10, 11, 12, 13, 14, 15, 16, 17, 18, 19, 20]⟩) .leaf .leaf) .leaf)) .leaf))) Tryz.func86 rfl (F86_eq x0a x0n x0c R H) h
/-- (*bollard/disk.Disk).made -/
def F87 (x0 : Option Addr) (R : Ending → Heap → Prop) (H : Heap) : Prop :=
  sB (!Option.isNone x0) (nz x0 (fun a1 =>
  ld H a1 (fun v2 =>
  dSl v2 (fun p3 r4 r5 =>
  R (Ending.returned (Value.bool (decide ((↑r4 : Int) > 0)))) H)))) (R (Ending.returned (Value.bool false)) H)
theorem F87_eq (x0 : Option Addr) (R : Ending → Heap → Prop) (H : Heap) : F87 x0 R H = vc Tryz.prog (codeOf Tryz.f87) .leaf (postV Tryz.prog Tryz.f87 R) ⟨#[Value.pointer x0] ++ Array.replicate (Tryz.f87.ntmps - 1) undef, []⟩ H := by kernel_rfl
theorem F87_calls {R : Ending → Heap → Prop} {H : Heap} (x0 : Option Addr) (h : F87 x0 R H) : HCalls Tryz.prog 87 #[Value.pointer x0] H R :=
  calls_by (F := F87 x0 R H) .leaf Tryz.func87 rfl (F87_eq x0 R H) h
/-- slices.ContainsFunc[[]int,int] -/
def F88 (x0a : Option Addr) (x0n : Nat) (x0c : Nat) (x1g : Nat) (x1f : Array Value) (x1c : Array Value) (R : Ending → Heap → Prop) (H : Heap) : Prop :=
  HCalls Tryz.prog 148 #[Value.slice x0a x0n x0c, Value.func (Fn.func x1g) x1f x1c] H (Sp.retK (fun v1 H2 =>
  dInt IntKind.i64 v1 (fun n3 =>
  R (Ending.returned (Value.bool (decide (n3 ≥ 0)))) H2)) (pnR R))
theorem F88_eq (x0a : Option Addr) (x0n : Nat) (x0c : Nat) (x1g : Nat) (x1f : Array Value) (x1c : Array Value) (R : Ending → Heap → Prop) (H : Heap) : F88 x0a x0n x0c x1g x1f x1c R H = vc Tryz.prog (codeOf Tryz.f88) .leaf (postV Tryz.prog Tryz.f88 R) ⟨#[Value.slice x0a x0n x0c, Value.func (Fn.func x1g) x1f x1c] ++ Array.replicate (Tryz.f88.ntmps - 2) undef, []⟩ H := by kernel_rfl
theorem F88_calls {R : Ending → Heap → Prop} {H : Heap} (x0a : Option Addr) (x0n : Nat) (x0c : Nat) (x1g : Nat) (x1f : Array Value) (x1c : Array Value) (h : F88 x0a x0n x0c x1g x1f x1c R H) : HCalls Tryz.prog 88 #[Value.slice x0a x0n x0c, Value.func (Fn.func x1g) x1f x1c] H R :=
  calls_by (F := F88 x0a x0n x0c x1g x1f x1c R H) .leaf Tryz.func88 rfl (F88_eq x0a x0n x0c x1g x1f x1c R H) h
/-- (*bollard/disk.Disk).place -/
def F90 (x0 : Option Addr) (x1 : Int) (R : Ending → Heap → Prop) (H : Heap) : Prop :=
  al H (Obj.cells #[Value.int IntKind.i64 x1] 3) (fun r1 H2 =>
  nz x0 (fun a3 =>
  ld H2 (Addr.add a3 1) (fun v4 =>
  dSl v4 (fun p5 r6 r7 =>
  HCalls Tryz.prog 149 #[Value.slice p5 r6 r7, Value.func (Fn.func 150) #[] #[Value.pointer (some (Addr.mk r1 0 none))]] H2 (Sp.retK (fun v8 H9 =>
  dInt IntKind.i64 v8 (fun n10 =>
  R (Ending.returned (Value.int IntKind.i64 n10)) H9)) (pnR R))))))
theorem F90_eq (x0 : Option Addr) (x1 : Int) (R : Ending → Heap → Prop) (H : Heap) : F90 x0 x1 R H = vc Tryz.prog (codeOf Tryz.f90) .leaf (postV Tryz.prog Tryz.f90 R) ⟨#[Value.pointer x0, Value.int IntKind.i64 x1] ++ Array.replicate (Tryz.f90.ntmps - 2) undef, []⟩ H := by kernel_rfl
theorem F90_calls {R : Ending → Heap → Prop} {H : Heap} (x0 : Option Addr) (x1 : Int) (h : F90 x0 x1 R H) : HCalls Tryz.prog 90 #[Value.pointer x0, Value.int IntKind.i64 x1] H R :=
  calls_by (F := F90 x0 x1 R H) .leaf Tryz.func90 rfl (F90_eq x0 x1 R H) h
/-- bollard/disk.image -/
def F91 (x0a : Option Addr) (x0n : Nat) (x0c : Nat) (R : Ending → Heap → Prop) (H : Heap) : Prop :=
  ∃ I1 : List Value → Heap → Prop,
  ∃ I2 : List Value → Heap → Nat,
  (I1 ([Value.slice none 0 0, Value.int IntKind.i64 0]) H) ∧
  ∀ p3 : Option Addr,
  ∀ r4 : Nat,
  ∀ r5 : Nat,
  ∀ n6 : Int,
  ∀ v7 v8 v9 v10 v11 v12 v13 v14 v15 v16 : Value,
  ∀ H17 : Heap,
  (I1 ([Value.slice p3 r4 r5, Value.int IntKind.i64 n6]) H17) →
  sB (decide (n6 < (↑x0n : Int))) (nz x0a (fun a19 =>
  ask ((0 : Int) ≤ n6 ∧ n6 < (↑x0n : Int)) (ld H17 (Addr.add a19 (Int.toNat n6 * 1)) (fun v20 =>
  dSl v20 (fun p21 r22 r23 =>
  HCalls Tryz.prog 48 #[Value.slice p21 r22 r23] H17 (Sp.retK (fun v24 H25 =>
  dSl v24 (fun p26 r27 r28 =>
  al H25 (Obj.cells #[Value.slice p26 r27 r28] 38) (fun r29 H30 =>
  semW Tryz.prog (Builtin.append_ #[42, 42] 42 #[Value.slice p3 r4 r5, Value.slice (some (Addr.mk r29 0 none)) 1 1]) (pnR R) H30 (fun v33 H34 =>
  dSl v33 (fun p35 r36 r37 =>
  wr IntKind.i64 (n6 + 1) (fun n38 =>
  (I1 ([Value.slice p35 r36 r37, Value.int IntKind.i64 n38]) H34) ∧
  (I2 [Value.slice p35 r36 r37, Value.int IntKind.i64 n38] H34) < (I2 [Value.slice p3 r4 r5, Value.int IntKind.i64 n6] H17))))))) (pnR R))))))) (R (Ending.returned (Value.slice p3 r4 r5)) H17)
theorem F91_eq (x0a : Option Addr) (x0n : Nat) (x0c : Nat) (R : Ending → Heap → Prop) (H : Heap) : F91 x0a x0n x0c R H = vc Tryz.prog (codeOf Tryz.f91) (.node none .leaf (.node none .leaf (.node none (.node none .leaf (.node none (.node (some ⟨[(3, 42), (8, 3)], [5, 9, 10, 11, 12, 13, 14, 15, 16, 17]⟩) .leaf .leaf) .leaf)) .leaf))) (postV Tryz.prog Tryz.f91 R) ⟨#[Value.slice x0a x0n x0c] ++ Array.replicate (Tryz.f91.ntmps - 1) undef, []⟩ H := by kernel_rfl
theorem F91_calls {R : Ending → Heap → Prop} {H : Heap} (x0a : Option Addr) (x0n : Nat) (x0c : Nat) (h : F91 x0a x0n x0c R H) : HCalls Tryz.prog 91 #[Value.slice x0a x0n x0c] H R :=
  calls_by (F := F91 x0a x0n x0c R H) (.node none .leaf (.node none .leaf (.node none (.node none .leaf (.node none (.node (some ⟨[(3, 42), (8, 3)], [5, 9, 10, 11, 12, 13, 14, 15, 16, 17]⟩) .leaf .leaf) .leaf)) .leaf))) Tryz.func91 rfl (F91_eq x0a x0n x0c R H) h
/-- bollard/disk.Of -/
def F97 (x0a : Option Addr) (x0n : Nat) (x0c : Nat) (R : Ending → Heap → Prop) (H : Heap) : Prop :=
  jn (α := VFH 1) (fun v1 H2 =>
  ∀ v3 v4 v5 v6 v7 v8 v9 v10 v11 v12 v13 v14 : Value,
  dBl v1 (fun b15 =>
  sB b15 (R (Ending.returned (Value.tuple #[Value.pointer none, Value.int IntKind.i64 1])) H2) (HCalls Tryz.prog 91 #[Value.slice x0a x0n x0c] H2 (Sp.retK (fun v16 H17 =>
  dSl v16 (fun p18 r19 r20 =>
  al H17 (Obj.map #[] 0) (fun r21 H22 =>
  al H22 (Obj.cells #[Value.slice p18 r19 r20, Value.slice none 0 0, Value.map (some r21), Value.int IntKind.i64 0] 133) (fun r23 H24 =>
  R (Ending.returned (Value.tuple #[Value.pointer (some (Addr.mk r23 0 none)), Value.int IntKind.i64 0])) H24)))) (pnR R))))) (fun k27 =>
  sB (decide ((↑x0n : Int) < 1)) (k27 (Value.bool true) H) (sB (decide ((↑x0n : Int) > 2048)) (k27 (Value.bool true) H) (HCalls Tryz.prog 154 #[Value.slice x0a x0n x0c, Value.func (Fn.func 153) #[] #[]] H (Sp.retK (fun v28 H29 =>
  dBl v28 (fun b30 =>
  k27 (Value.bool b30) H29)) (pnR R)))))
theorem F97_eq (x0a : Option Addr) (x0n : Nat) (x0c : Nat) (R : Ending → Heap → Prop) (H : Heap) : F97 x0a x0n x0c R H = vc Tryz.prog (codeOf Tryz.f97) (.node none .leaf (.node none .leaf (.node none (.node (some ⟨[(17, 4)], [5, 6, 7, 8, 9, 10, 11, 12, 13, 14, 15, 16]⟩) .leaf .leaf) .leaf))) (postV Tryz.prog Tryz.f97 R) ⟨#[Value.slice x0a x0n x0c] ++ Array.replicate (Tryz.f97.ntmps - 1) undef, []⟩ H := by kernel_rfl
theorem F97_calls {R : Ending → Heap → Prop} {H : Heap} (x0a : Option Addr) (x0n : Nat) (x0c : Nat) (h : F97 x0a x0n x0c R H) : HCalls Tryz.prog 97 #[Value.slice x0a x0n x0c] H R :=
  calls_by (F := F97 x0a x0n x0c R H) (.node none .leaf (.node none .leaf (.node none (.node (some ⟨[(17, 4)], [5, 6, 7, 8, 9, 10, 11, 12, 13, 14, 15, 16]⟩) .leaf .leaf) .leaf))) Tryz.func97 rfl (F97_eq x0a x0n x0c R H) h
/-- bollard/bollardlaw09.blocks -/
def F98 (x0 : Int) (R : Ending → Heap → Prop) (H : Heap) : Prop :=
  wr IntKind.u64 x0 (fun n1 =>
  ask ((8 : Int) ≠ (0 : Int)) (nm (Int.tmod n1 8) (fun n2 =>
  wr IntKind.i64 n2 (fun n3 =>
  wr IntKind.i64 (1 + n3) (fun n4 =>
  ∃ I5 : List Value → Heap → Prop,
  ∃ I6 : List Value → Heap → Nat,
  (I5 ([Value.slice none 0 0, Value.int IntKind.i64 0]) H) ∧
  ∀ p7 : Option Addr,
  ∀ r8 : Nat,
  ∀ r9 : Nat,
  ∀ n10 : Int,
  ∀ v11 v12 v13 v14 v15 v16 v17 v18 v19 v20 v21 v22 : Value,
  ∀ H23 : Heap,
  (I5 ([Value.slice p7 r8 r9, Value.int IntKind.i64 n10]) H23) →
  sB (decide (n10 < n4)) (wr IntKind.i64 (n10 + 1) (fun n25 =>
  wr IntKind.u8 n25 (fun n26 =>
  al H23 (Obj.cells #[Value.int IntKind.u8 n26] 5) (fun r27 H28 =>
  HCalls Tryz.prog 155 #[Value.slice (some (Addr.mk r27 0 none)) 1 1, Value.int IntKind.i64 128] H28 (Sp.retK (fun v29 H30 =>
  dSl v29 (fun p31 r32 r33 =>
  al H30 (Obj.cells #[Value.slice p31 r32 r33] 38) (fun r34 H35 =>
  semW Tryz.prog (Builtin.append_ #[42, 42] 42 #[Value.slice p7 r8 r9, Value.slice (some (Addr.mk r34 0 none)) 1 1]) (pnR R) H35 (fun v38 H39 =>
  dSl v38 (fun p40 r41 r42 =>
  wr IntKind.i64 (n10 + 1) (fun n43 =>
  (I5 ([Value.slice p40 r41 r42, Value.int IntKind.i64 n43]) H39) ∧
  (I6 [Value.slice p40 r41 r42, Value.int IntKind.i64 n43] H39) < (I6 [Value.slice p7 r8 r9, Value.int IntKind.i64 n10] H23))))))) (pnR R)))))) (R (Ending.returned (Value.slice p7 r8 r9)) H23))))))
theorem F98_eq (x0 : Int) (R : Ending → Heap → Prop) (H : Heap) : F98 x0 R H = vc Tryz.prog (codeOf Tryz.f98) (.node none .leaf (.node none .leaf (.node none (.node none .leaf (.node none (.node (some ⟨[(3, 42), (10, 3)], [4, 11, 12, 13, 14, 15, 16, 17, 18, 19, 20, 21]⟩) .leaf .leaf) .leaf)) .leaf))) (postV Tryz.prog Tryz.f98 R) ⟨#[Value.int IntKind.i64 x0] ++ Array.replicate (Tryz.f98.ntmps - 1) undef, []⟩ H := by kernel_rfl
theorem F98_calls {R : Ending → Heap → Prop} {H : Heap} (x0 : Int) (h : F98 x0 R H) : HCalls Tryz.prog 98 #[Value.int IntKind.i64 x0] H R :=
  calls_by (F := F98 x0 R H) (.node none .leaf (.node none .leaf (.node none (.node none .leaf (.node none (.node (some ⟨[(3, 42), (10, 3)], [4, 11, 12, 13, 14, 15, 16, 17, 18, 19, 20, 21]⟩) .leaf .leaf) .leaf)) .leaf))) Tryz.func98 rfl (F98_eq x0 R H) h
end Go.Proofs.YtngploohhmfaiaaGreat.E
