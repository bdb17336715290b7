/- The functions' forms in the engine's words, printed by my own program. -/
import Derived.Test.YtngploohhmfaiaaGreatProg
import Derived.Test.YtngploohhmfaiaaGreatEng11
import Derived.KernelRfl
namespace Go.Proofs.YtngploohhmfaiaaGreat.E
open Go Go.Proofs
set_option linter.unusedVariables false
/-- bollard/bollardlaw10.SnapNobody -/
def F3 (x0 : Int) (R : Ending → Heap → Prop) (H : Heap) : Prop :=
  al H (Obj.cells #[Value.int IntKind.i32 0, Value.int IntKind.u32 0, Value.pointer none, Value.int IntKind.i64 0, Value.int IntKind.i64 0, Value.int IntKind.i64 0, Value.int IntKind.i64 0, Value.bool false] 36) (fun r1 H2 =>
  al H2 (Obj.cells #[Value.pointer none, Value.pointer (some (Addr.mk r1 0 none))] 22) (fun r3 H4 =>
  ∃ I5 : List Value → Heap → Prop,
  ∃ I6 : List Value → Heap → Nat,
  (I5 ([Value.int IntKind.i64 0]) H4) ∧
  ∀ n7 : Int,
  ∀ v8 v9 v10 v11 v12 v13 v14 v15 v16 v17 v18 v19 v20 v21 v22 v23 v24 v25 v26 v27 v28 v29 v30 v31 v32 v33 v34 v35 v36 v37 v38 v39 v40 v41 v42 v43 v44 v45 v46 v47 v48 v49 v50 v51 v52 v53 v54 v55 v56 v57 v58 v59 v60 v61 v62 v63 v64 v65 v66 v67 : Value,
  ∀ H68 : Heap,
  (I5 ([Value.int IntKind.i64 n7]) H68) →
  sB (decide (n7 < 2)) (ask ((0 : Int) ≤ n7 ∧ n7 < (2 : Int)) (ld H68 (Addr.add (Addr.mk r3 0 none) (Int.toNat n7 * 1)) (fun v70 =>
  dPtr v70 (fun p71 =>
  HCalls Tryz.prog 15 #[Value.pointer p71, Value.int IntKind.i64 x0] H68 (Sp.retK (fun v72 H73 =>
  dT 2 v72 (fun v74 v75 =>
  dSl v74 (fun p76 r77 r78 =>
  dInt IntKind.i64 v75 (fun n79 =>
  HCalls Tryz.prog 16 #[Value.pointer p71] H73 (Sp.retK (fun v80 H81 =>
  dT 2 v80 (fun v82 v83 =>
  dSl v82 (fun p84 r85 r86 =>
  dInt IntKind.i64 v83 (fun n87 =>
  jn (α := VFH 1) (fun v88 H89 =>
  ∀ v90 v91 v92 v93 v94 v95 v96 v97 v98 v99 v100 v101 v102 v103 v104 v105 v106 v107 v108 v109 v110 v111 v112 v113 v114 v115 v116 v117 v118 v119 v120 v121 v122 v123 v124 v125 v126 v127 : Value,
  dBl v88 (fun b128 =>
  sB b128 (R (Ending.returned (Value.bool false)) H89) (wr IntKind.i64 (n7 + 1) (fun n129 =>
  (I5 ([Value.int IntKind.i64 n129]) H89) ∧
  (I6 [Value.int IntKind.i64 n129] H89) < (I6 [Value.int IntKind.i64 n7] H68))))) (fun k130 =>
  wr IntKind.i64 ((↑r77 : Int) + (↑r85 : Int)) (fun n131 =>
  sB (decide (n131 > 0)) (k130 (Value.bool true) H81) (sB (n79 != 2) (k130 (Value.bool true) H81) (sB (n87 != 2) (k130 (Value.bool true) H81) (HCalls Tryz.prog 17 #[Value.pointer p71] H81 (Sp.retK (fun v132 H133 =>
  dInt IntKind.i64 v132 (fun n134 =>
  sB (n134 != 2) (k130 (Value.bool true) H133) (HCalls Tryz.prog 18 #[Value.pointer p71] H133 (Sp.retK (fun v135 H136 =>
  dInt IntKind.i64 v135 (fun n137 =>
  sB (n137 != 0) (k130 (Value.bool true) H136) (HCalls Tryz.prog 19 #[Value.pointer p71] H136 (Sp.retK (fun v138 H139 =>
  dA 3 v138 (fun v140 v141 v142 =>
  semW Tryz.prog (eqSem BinOp.neq 32 (Operand.tmp 63) (Operand.tmp 64) (Value.agg #[v140, v141, v142]) (Value.agg #[Value.int IntKind.i64 0, Value.int IntKind.i64 0, Value.int IntKind.i64 0])) (pnR R) H139 (fun v145 H146 =>
  dBl v145 (fun b147 =>
  sB b147 (k130 (Value.bool true) H146) (HCalls Tryz.prog 20 #[Value.pointer p71] H146 (Sp.retK (fun v148 H149 =>
  dInt IntKind.i64 v148 (fun n150 =>
  sB (n150 != 0) (k130 (Value.bool true) H149) (HCalls Tryz.prog 21 #[Value.pointer p71] H149 (Sp.retK (fun v151 H152 =>
  dBl v151 (fun b153 =>
  k130 (Value.bool b153) H152)) (pnR R))))) (pnR R))))))) (pnR R))))) (pnR R))))) (pnR R))))))))))) (pnR R)))))) (pnR R)))))) (al H68 (Obj.cells #[Value.int IntKind.i32 0, Value.int IntKind.u32 0, Value.pointer none, Value.pointer none, Value.pointer none, Value.map none, Value.bool false, Value.bool false, Value.int IntKind.i64 0, Value.map none] 57) (fun r168 H169 =>
  al H169 (Obj.cells #[Value.pointer none, Value.pointer (some (Addr.mk r168 0 none))] 30) (fun r170 H171 =>
  ∃ I172 : List Value → Heap → Prop,
  ∃ I173 : List Value → Heap → Nat,
  (I172 ([Value.int IntKind.i64 0]) H171) ∧
  ∀ n174 : Int,
  ∀ v175 v176 v177 v178 v179 v180 v181 v182 v183 v184 v185 v186 v187 v188 v189 v190 v191 v192 v193 v194 : Value,
  ∀ H195 : Heap,
  (I172 ([Value.int IntKind.i64 n174]) H195) →
  sB (decide (n174 < 2)) (ask ((0 : Int) ≤ n174 ∧ n174 < (2 : Int)) (ld H195 (Addr.add (Addr.mk r170 0 none) (Int.toNat n174 * 1)) (fun v197 =>
  dPtr v197 (fun p198 =>
  HCalls Tryz.prog 22 #[Value.pointer p198, Value.agg #[Value.int IntKind.i64 1, Value.int IntKind.i64 8, Value.int IntKind.i64 4], Value.int IntKind.i64 1, Value.int IntKind.i64 1] H195 (Sp.retK (fun v199 H200 =>
  dT 2 v199 (fun v201 v202 =>
  dPtr v201 (fun p203 =>
  dInt IntKind.i64 v202 (fun n204 =>
  jn (α := VFH 1) (fun v205 H206 =>
  ∀ v207 v208 v209 v210 v211 : Value,
  dBl v205 (fun b212 =>
  sB b212 (R (Ending.returned (Value.bool false)) H206) (wr IntKind.i64 (n174 + 1) (fun n213 =>
  (I172 ([Value.int IntKind.i64 n213]) H206) ∧
  (I173 [Value.int IntKind.i64 n213] H206) < (I173 [Value.int IntKind.i64 n174] H195))))) (fun k214 =>
  sB (!Option.isNone p203) (k214 (Value.bool true) H200) (k214 (Value.bool (n204 != 2)) H200)))))) (pnR R)))))) (HCalls Tryz.prog 23 #[Value.agg #[Value.int IntKind.i64 0, Value.int IntKind.i64 0, Value.int IntKind.i64 0]] H195 (Sp.retK (fun v217 H218 =>
  dT 3 v217 (fun v219 v220 v221 =>
  dPtr v219 (fun p222 =>
  dA 3 v220 (fun v223 v224 v225 =>
  dBl v221 (fun b226 =>
  al H218 (Obj.cells #[Value.int IntKind.i64 0, Value.int IntKind.i64 0, Value.int IntKind.i64 0] 32) (fun r227 H228 =>
  st H228 (Addr.mk r227 0 none) v223 (fun H229 =>
  st H229 (Addr.mk r227 1 none) v224 (fun H230 =>
  st H230 (Addr.mk r227 2 none) v225 (fun H231 =>
  sB (!b226) (R (Ending.returned (Value.bool false)) H231) (nz p222 (fun a232 =>
  ld H231 (Addr.add a232 1) (fun v233 =>
  dPtr v233 (fun p234 =>
  ld H231 (Addr.mk r227 0 none) (fun v235 =>
  ld H231 (Addr.mk r227 1 none) (fun v236 =>
  ld H231 (Addr.mk r227 2 none) (fun v237 =>
  HCalls Tryz.prog 22 #[Value.pointer p234, Value.agg #[v235, v236, v237], Value.int IntKind.i64 3, Value.int IntKind.i64 0] H231 (Sp.retK (fun v238 H239 =>
  dT 2 v238 (fun v240 v241 =>
  dPtr v240 (fun p242 =>
  dInt IntKind.i64 v241 (fun n243 =>
  sB (n243 == 0) (HCalls Tryz.prog 18 #[Value.pointer p242] H239 (Sp.retK (fun v244 H245 =>
  dInt IntKind.i64 v244 (fun n246 =>
  R (Ending.returned (Value.bool (n246 == 3))) H245)) (pnR R))) (R (Ending.returned (Value.bool false)) H239))))) nopR))))))))))))))))) (pnR R))))))))
theorem F3_eq (x0 : Int) (R : Ending → Heap → Prop) (H : Heap) : F3 x0 R H = vc Tryz.prog (codeOf Tryz.f3) (.node none .leaf (.node none (.node none .leaf (.node none (.node (some ⟨[(22, 3)], [2, 4, 5, 6, 7, 8, 23, 24, 25, 26, 27, 28, 29, 30, 31, 32, 33, 34, 35, 36, 37, 38, 39, 40, 41, 42, 43, 44, 45, 46, 47, 48, 49, 50, 51, 52, 53, 54, 55, 56, 57, 58, 59, 60, 61, 62, 63, 64, 65, 66, 67, 68, 69, 70, 71, 72, 73, 74, 75, 76]⟩) (.node none .leaf (.node none .leaf (.node none (.node none (.node none .leaf (.node none .leaf (.node none .leaf (.node (some ⟨[(75, 4)], [37, 38, 39, 40, 41, 42, 43, 44, 45, 46, 47, 48, 49, 50, 51, 52, 53, 54, 55, 56, 57, 58, 59, 60, 61, 62, 63, 64, 65, 66, 67, 68, 69, 70, 71, 72, 73, 74]⟩) .leaf .leaf)))) .leaf) .leaf))) .leaf) .leaf)) (.node none (.node none .leaf (.node none (.node (some ⟨[(81, 3)], [2, 10, 11, 12, 82, 83, 84, 85, 86, 87, 88, 89, 90, 91, 92, 93, 94, 95, 96, 97]⟩) (.node none .leaf (.node none .leaf (.node none (.node none (.node none .leaf (.node none .leaf (.node (some ⟨[(96, 4)], [91, 92, 93, 94, 95]⟩) .leaf .leaf))) .leaf) .leaf))) .leaf) .leaf)) .leaf))) (postV Tryz.prog Tryz.f3 R) ⟨#[Value.int IntKind.i64 x0] ++ Array.replicate (Tryz.f3.ntmps - 1) undef, []⟩ H := by kernel_rfl
theorem F3_calls {R : Ending → Heap → Prop} {H : Heap} (x0 : Int) (h : F3 x0 R H) : HCalls Tryz.prog 3 #[Value.int IntKind.i64 x0] H R :=
  calls_by (F := F3 x0 R H) (.node none .leaf (.node none (.node none .leaf (.node none (.node (some ⟨[(22, 3)], [2, 4, 5, 6, 7, 8, 23, 24, 25, 26, 27, 28, 29, 30, 31, 32, 33, 34, 35, 36, 37, 38, 39, 40, 41, 42, 43, 44, 45, 46, 47, 48, 49, 50, 51, 52, 53, 54, 55, 56, 57, 58, 59, 60, 61, 62, 63, 64, 65, 66, 67, 68, 69, 70, 71, 72, 73, 74, 75, 76]⟩) (.node none .leaf (.node none .leaf (.node none (.node none (.node none .leaf (.node none .leaf (.node none .leaf (.node (some ⟨[(75, 4)], [37, 38, 39, 40, 41, 42, 43, 44, 45, 46, 47, 48, 49, 50, 51, 52, 53, 54, 55, 56, 57, 58, 59, 60, 61, 62, 63, 64, 65, 66, 67, 68, 69, 70, 71, 72, 73, 74]⟩) .leaf .leaf)))) .leaf) .leaf))) .leaf) .leaf)) (.node none (.node none .leaf (.node none (.node (some ⟨[(81, 3)], [2, 10, 11, 12, 82, 83, 84, 85, 86, 87, 88, 89, 90, 91, 92, 93, 94, 95, 96, 97]⟩) (.node none .leaf (.node none .leaf (.node none (.node none (.node none .leaf (.node none .leaf (.node (some ⟨[(96, 4)], [91, 92, 93, 94, 95]⟩) .leaf .leaf))) .leaf) .leaf))) .leaf) .leaf)) .leaf))) Tryz.func3 rfl (F3_eq x0 R H) h
/-- bollard/bollardlaw10.SnapFull -/
def F4 (x0_0 : Value) (x0_1 : Value) (x0_2 : Value) (x1 : Int) (x2 : Int) (R : Ending → Heap → Prop) (H : Heap) : Prop :=
  al H (Obj.cells #[x0_0, x0_1, x0_2] 32) (fun r1 H2 =>
  ld H2 (Addr.mk r1 0 none) (fun v3 =>
  ld H2 (Addr.mk r1 1 none) (fun v4 =>
  ld H2 (Addr.mk r1 2 none) (fun v5 =>
  HCalls Tryz.prog 23 #[Value.agg #[v3, v4, v5]] H2 (Sp.retK (fun v6 H7 =>
  dT 3 v6 (fun v8 v9 v10 =>
  dPtr v8 (fun p11 =>
  dA 3 v9 (fun v12 v13 v14 =>
  dBl v10 (fun b15 =>
  st H7 (Addr.mk r1 0 none) v12 (fun H16 =>
  st H16 (Addr.mk r1 1 none) v13 (fun H17 =>
  st H17 (Addr.mk r1 2 none) v14 (fun H18 =>
  sB (!b15) (R (Ending.returned (Value.bool false)) H18) (wr IntKind.u64 x1 (fun n19 =>
  nz p11 (fun a20 =>
  ld H18 (Addr.add a20 1) (fun v21 =>
  dPtr v21 (fun p22 =>
  HCalls Tryz.prog 24 #[Value.pointer p22] H18 (Sp.retK (fun v23 H24 =>
  dInt IntKind.i64 v23 (fun n25 =>
  wr IntKind.u64 n25 (fun n26 =>
  ask (n26 ≠ (0 : Int)) (nm (Int.tmod n19 n26) (fun n27 =>
  wr IntKind.i64 n27 (fun n28 =>
  nz p11 (fun a29 =>
  ld H24 (Addr.add a29 1) (fun v30 =>
  dPtr v30 (fun p31 =>
  ld H24 (Addr.mk r1 0 none) (fun v32 =>
  ld H24 (Addr.mk r1 1 none) (fun v33 =>
  ld H24 (Addr.mk r1 2 none) (fun v34 =>
  HCalls Tryz.prog 22 #[Value.pointer p31, Value.agg #[v32, v33, v34], Value.int IntKind.i64 1, Value.int IntKind.i64 0] H24 (Sp.retK (fun v35 H36 =>
  dT 2 v35 (fun v37 v38 =>
  dPtr v37 (fun p39 =>
  dInt IntKind.i64 v38 (fun n40 =>
  jn (α := VFH 1) (fun v41 H42 =>
  ∀ v43 v44 v45 v46 v47 v48 v49 v50 v51 v52 : Value,
  dBl v41 (fun b53 =>
  sB b53 (R (Ending.returned (Value.bool false)) H42) (nz p11 (fun a54 =>
  ld H42 (Addr.add a54 1) (fun v55 =>
  dPtr v55 (fun p56 =>
  wr IntKind.u8 x2 (fun n57 =>
  al H42 (Obj.cells #[Value.int IntKind.u8 n57] 5) (fun r58 H59 =>
  HCalls Tryz.prog 25 #[Value.pointer p56, Value.int IntKind.i64 n28, Value.int IntKind.i64 0, Value.slice (some (Addr.mk r58 0 none)) 1 1, Value.slice none 0 0] H59 (Sp.retK (fun v60 H61 =>
  dT 2 v60 (fun v62 v63 =>
  dInt IntKind.i64 v62 (fun n64 =>
  dInt IntKind.i64 v63 (fun n65 =>
  jn (α := VFH 1) (fun v66 H67 =>
  ∀ v68 v69 v70 v71 v72 v73 : Value,
  dBl v66 (fun b74 =>
  sB b74 (R (Ending.returned (Value.bool false)) H67) (HCalls Tryz.prog 15 #[Value.pointer p39, Value.int IntKind.i64 n28] H67 (Sp.retK (fun v75 H76 =>
  dT 2 v75 (fun v77 v78 =>
  dSl v77 (fun p79 r80 r81 =>
  dInt IntKind.i64 v78 (fun n82 =>
  nz p11 (fun a83 =>
  ld H76 (Addr.add a83 1) (fun v84 =>
  dPtr v84 (fun p85 =>
  HCalls Tryz.prog 26 #[Value.pointer p85, Value.int IntKind.i64 n28] H76 (Sp.retK (fun v86 H87 =>
  dT 2 v86 (fun v88 v89 =>
  dSl v88 (fun p90 r91 r92 =>
  dInt IntKind.i64 v89 (fun n93 =>
  sB (n82 == 3) (sB (n93 == 0) (nz p90 (fun a94 =>
  ask ((0 : Int) ≤ (0 : Int) ∧ (0 : Int) < (↑r91 : Int)) (ld H87 (Addr.add a94 (Int.toNat 0 * 1)) (fun v95 =>
  dInt IntKind.u8 v95 (fun n96 =>
  wr IntKind.u8 x2 (fun n97 =>
  sB (n96 == n97) (HCalls Tryz.prog 17 #[Value.pointer p39] H87 (Sp.retK (fun v98 H99 =>
  dInt IntKind.i64 v98 (fun n100 =>
  R (Ending.returned (Value.bool (n100 == 0))) H99)) (pnR R))) (R (Ending.returned (Value.bool false)) H87))))))) (R (Ending.returned (Value.bool false)) H87)) (R (Ending.returned (Value.bool false)) H87))))) (pnR R))))))))) (pnR R))))) (fun k107 =>
  sB (n65 != 0) (k107 (Value.bool true) H61) (HCalls Tryz.prog 21 #[Value.pointer p39] H61 (Sp.retK (fun v108 H109 =>
  dBl v108 (fun b110 =>
  k107 (Value.bool !b110) H109)) (pnR R)))))))) (pnR R)))))))))) (fun k115 =>
  sB (n40 != 0) (k115 (Value.bool true) H36) (HCalls Tryz.prog 21 #[Value.pointer p39] H36 (Sp.retK (fun v116 H117 =>
  dBl v116 (fun b118 =>
  sB b118 (k115 (Value.bool true) H117) (HCalls Tryz.prog 20 #[Value.pointer p39] H117 (Sp.retK (fun v119 H120 =>
  dInt IntKind.i64 v119 (fun n121 =>
  k115 (Value.bool (n121 != 0)) H120)) (pnR R))))) (pnR R)))))))) nopR))))))))))))) (pnR R))))))))))))))) (pnR R))))))
theorem F4_eq (x0_0 : Value) (x0_1 : Value) (x0_2 : Value) (x1 : Int) (x2 : Int) (R : Ending → Heap → Prop) (H : Heap) : F4 x0_0 x0_1 x0_2 x1 x2 R H = vc Tryz.prog (codeOf Tryz.f4) (.node none .leaf (.node none .leaf (.node none .leaf (.node none .leaf (.node none .leaf (.node none (.node (some ⟨[(52, 4)], [42, 43, 44, 45, 46, 47, 48, 49, 50, 51]⟩) .leaf .leaf) (.node none (.node none .leaf (.node (some ⟨[(71, 4)], [65, 66, 67, 68, 69, 70]⟩) .leaf .leaf)) .leaf))))))) (postV Tryz.prog Tryz.f4 R) ⟨#[Value.agg #[x0_0, x0_1, x0_2], Value.int IntKind.i64 x1, Value.int IntKind.i64 x2] ++ Array.replicate (Tryz.f4.ntmps - 3) undef, []⟩ H := by kernel_rfl
theorem F4_calls {R : Ending → Heap → Prop} {H : Heap} (x0_0 : Value) (x0_1 : Value) (x0_2 : Value) (x1 : Int) (x2 : Int) (h : F4 x0_0 x0_1 x0_2 x1 x2 R H) : HCalls Tryz.prog 4 #[Value.agg #[x0_0, x0_1, x0_2], Value.int IntKind.i64 x1, Value.int IntKind.i64 x2] H R :=
  calls_by (F := F4 x0_0 x0_1 x0_2 x1 x2 R H) (.node none .leaf (.node none .leaf (.node none .leaf (.node none .leaf (.node none .leaf (.node none (.node (some ⟨[(52, 4)], [42, 43, 44, 45, 46, 47, 48, 49, 50, 51]⟩) .leaf .leaf) (.node none (.node none .leaf (.node (some ⟨[(71, 4)], [65, 66, 67, 68, 69, 70]⟩) .leaf .leaf)) .leaf))))))) Tryz.func4 rfl (F4_eq x0_0 x0_1 x0_2 x1 x2 R H) h
/-- bollard/bollardlaw09.VolumeCrash -/
def F6 (x0a : Option Addr) (x0n : Nat) (x0c : Nat) (x1a : Option Addr) (x1n : Nat) (x1c : Nat) (x2 : Int) (R : Ending → Heap → Prop) (H : Heap) : Prop :=
  HCalls Tryz.prog 30 #[Value.int IntKind.i64 8] H (Sp.retK (fun v1 H2 =>
  dT 2 v1 (fun v3 v4 =>
  dPtr v3 (fun p5 =>
  dInt IntKind.i64 v4 (fun n6 =>
  HCalls Tryz.prog 31 #[Value.pointer p5, Value.int IntKind.i64 8] H2 (Sp.retK (fun v7 H8 =>
  dT 2 v7 (fun v9 v10 =>
  dPtr v9 (fun p11 =>
  dInt IntKind.i64 v10 (fun n12 =>
  jn (α := VFH 1) (fun v13 H14 =>
  ∀ v15 v16 v17 v18 v19 : Value,
  dBl v13 (fun b20 =>
  sB b20 (R (Ending.returned (Value.bool false)) H14) (jn (α := VFH 1) (fun v21 H22 =>
  ∀ v23 v24 v25 v26 v27 v28 v29 v30 v31 v32 v33 v34 v35 v36 v37 v38 v39 v40 v41 v42 v43 v44 v45 v46 v47 v48 v49 v50 v51 v52 v53 v54 v55 v56 v57 v58 v59 v60 v61 v62 v63 v64 v65 v66 v67 v68 v69 v70 v71 v72 v73 v74 v75 v76 v77 v78 v79 v80 : Value,
  dSl v21 (fun p81 r82 r83 =>
  jn (α := VFH 0) (fun H84 =>
  ∀ v85 v86 v87 v88 v89 v90 v91 v92 v93 v94 v95 v96 v97 v98 v99 v100 v101 v102 v103 v104 v105 v106 v107 v108 v109 v110 v111 v112 v113 v114 v115 v116 v117 v118 v119 v120 v121 v122 v123 v124 v125 v126 v127 v128 v129 v130 v131 v132 v133 v134 v135 v136 v137 v138 : Value,
  HCalls Tryz.prog 36 #[Value.pointer p5] H84 (Sp.retK (fun v139 H140 =>
  dSl v139 (fun p141 r142 r143 =>
  ∃ I144 : List Value → Heap → Prop,
  ∃ I145 : List Value → Heap → Nat,
  (I144 ([Value.slice none 0 0, Value.int IntKind.i64 0]) H140) ∧
  ∀ p146 : Option Addr,
  ∀ r147 : Nat,
  ∀ r148 : Nat,
  ∀ n149 : Int,
  ∀ v150 v151 v152 v153 v154 v155 v156 v157 v158 v159 v160 v161 v162 v163 v164 v165 v166 : Value,
  ∀ H167 : Heap,
  (I144 ([Value.slice p146 r147 r148, Value.int IntKind.i64 n149]) H167) →
  sB (decide (n149 < (↑r142 : Int))) (jn (α := VFH 1) (fun v169 H170 =>
  ∀ v171 v172 v173 v174 v175 v176 v177 v178 v179 v180 v181 v182 v183 v184 v185 : Value,
  dSl v169 (fun p186 r187 r188 =>
  wr IntKind.i64 (n149 + 1) (fun n189 =>
  (I144 ([Value.slice p186 r187 r188, Value.int IntKind.i64 n189]) H170) ∧
  (I145 [Value.slice p186 r187 r188, Value.int IntKind.i64 n189] H170) < (I145 [Value.slice p146 r147 r148, Value.int IntKind.i64 n149] H167)))) (fun k190 =>
  nz p141 (fun a191 =>
  ask ((0 : Int) ≤ n149 ∧ n149 < (↑r142 : Int)) (ld H167 (Addr.add a191 (Int.toNat n149 * 3)) (fun v192 =>
  ld H167 (Addr.add (Addr.add a191 (Int.toNat n149 * 3)) 1) (fun v193 =>
  ld H167 (Addr.add (Addr.add a191 (Int.toNat n149 * 3)) 2) (fun v194 =>
  al H167 (Obj.cells #[Value.int IntKind.i64 0, Value.int IntKind.i64 0, Value.slice none 0 0] 96) (fun r195 H196 =>
  st H196 (Addr.mk r195 0 none) v192 (fun H197 =>
  st H197 (Addr.mk r195 1 none) v193 (fun H198 =>
  st H198 (Addr.mk r195 2 none) v194 (fun H199 =>
  ask ((0 : Int) ≤ n149) (nm (Int.fdiv x2 (2 ^ min (Int.toNat n149) 64)) (fun n200 =>
  nm (IntKind.wrap IntKind.u64 (↑(BitVec.toNat (BitVec.ofInt 64 n200 &&& BitVec.ofInt 64 1)) : Int)) (fun n201 =>
  sB (n201 == 1) (ld H199 (Addr.mk r195 0 none) (fun v202 =>
  dInt IntKind.i64 v202 (fun n203 =>
  al H199 (Obj.cells #[Value.int IntKind.i64 n203] 3) (fun r204 H205 =>
  semW Tryz.prog (Builtin.append_ #[73, 73] 73 #[Value.slice p146 r147 r148, Value.slice (some (Addr.mk r204 0 none)) 1 1]) (pnR R) H205 (fun v208 H209 =>
  dSl v208 (fun p210 r211 r212 =>
  k190 (Value.slice p210 r211 r212) H209)))))) (k190 (Value.slice p146 r147 r148) H199))))))))))))))) (HCalls Tryz.prog 37 #[Value.pointer p5, Value.slice p146 r147 r148] H167 (Sp.retK (fun v213 H214 =>
  dInt IntKind.i64 v213 (fun n215 =>
  sB (n215 != 0) (R (Ending.returned (Value.bool false)) H214) (HCalls Tryz.prog 38 #[Value.pointer p5] H214 (Sp.retK (fun v216 H217 =>
  dSl v216 (fun p218 r219 r220 =>
  ∃ I221 : List Value → Heap → Prop,
  ∃ I222 : List Value → Heap → Nat,
  (I221 ([Value.int IntKind.i64 0]) H217) ∧
  ∀ n223 : Int,
  ∀ v224 v225 v226 v227 v228 v229 v230 v231 v232 v233 v234 v235 v236 v237 v238 v239 v240 v241 v242 v243 v244 v245 v246 v247 v248 v249 v250 v251 v252 v253 v254 v255 v256 v257 v258 v259 : Value,
  ∀ H260 : Heap,
  (I221 ([Value.int IntKind.i64 n223]) H260) →
  sB (decide (n223 < (↑r82 : Int))) (jn (α := VFH 0) (fun H262 =>
  ∀ v263 v264 v265 v266 v267 v268 v269 v270 v271 v272 v273 v274 v275 v276 v277 v278 v279 v280 v281 v282 v283 v284 v285 v286 v287 v288 v289 v290 v291 v292 v293 v294 v295 v296 : Value,
  wr IntKind.i64 (n223 + 1) (fun n297 =>
  (I221 ([Value.int IntKind.i64 n297]) H262) ∧
  (I222 [Value.int IntKind.i64 n297] H262) < (I222 [Value.int IntKind.i64 n223] H260))) (fun k298 =>
  nz p81 (fun a299 =>
  ask ((0 : Int) ≤ n223 ∧ n223 < (↑r82 : Int)) (ld H260 (Addr.add a299 (Int.toNat n223 * 1)) (fun v300 =>
  dSl v300 (fun p301 r302 r303 =>
  ask ((8 : Int) ≠ (0 : Int)) (nm (Int.tmod n223 8) (fun n304 =>
  nz p218 (fun a305 =>
  ask ((0 : Int) ≤ n304 ∧ n304 < (↑r219 : Int)) (ld H260 (Addr.add a305 (Int.toNat n304 * 1)) (fun v306 =>
  dSl v306 (fun p307 r308 r309 =>
  nz p307 (fun a310 =>
  ask ((0 : Int) ≤ n223 ∧ n223 < (↑r308 : Int)) (ld H260 (Addr.add a310 (Int.toNat n223 * 1)) (fun v311 =>
  dInt IntKind.u8 v311 (fun n312 =>
  sB (n312 == 0) (k298 H260) (∃ I313 : List Value → Heap → Prop,
  ∃ I314 : List Value → Heap → Nat,
  (I313 ([Value.int IntKind.i64 0]) H260) ∧
  ∀ n315 : Int,
  ∀ v316 v317 v318 v319 v320 v321 v322 v323 v324 v325 v326 v327 v328 v329 v330 v331 v332 : Value,
  ∀ H333 : Heap,
  (I313 ([Value.int IntKind.i64 n315]) H333) →
  sB (decide (n315 < (↑r302 : Int))) (nz p301 (fun a335 =>
  ask ((0 : Int) ≤ n315 ∧ n315 < (↑r302 : Int)) (ld H333 (Addr.add a335 (Int.toNat n315 * 1)) (fun v336 =>
  dInt IntKind.i64 v336 (fun n337 =>
  wr IntKind.i64 (n337 - 1) (fun n338 =>
  ask ((8 : Int) ≠ (0 : Int)) (nm (Int.tmod n338 8) (fun n339 =>
  nz p218 (fun a340 =>
  ask ((0 : Int) ≤ n339 ∧ n339 < (↑r219 : Int)) (ld H333 (Addr.add a340 (Int.toNat n339 * 1)) (fun v341 =>
  dSl v341 (fun p342 r343 r344 =>
  wr IntKind.i64 (n337 - 1) (fun n345 =>
  nz p342 (fun a346 =>
  ask ((0 : Int) ≤ n345 ∧ n345 < (↑r343 : Int)) (ld H333 (Addr.add a346 (Int.toNat n345 * 1)) (fun v347 =>
  dInt IntKind.u8 v347 (fun n348 =>
  sB (n348 == 0) (R (Ending.returned (Value.bool false)) H333) (wr IntKind.i64 (n315 + 1) (fun n349 =>
  (I313 ([Value.int IntKind.i64 n349]) H333) ∧
  (I314 [Value.int IntKind.i64 n349] H333) < (I314 [Value.int IntKind.i64 n315] H333)))))))))))))))))))) (k298 H333)))))))))))))))))) (R (Ending.returned (Value.bool true)) H260))) (pnR R))))) (pnR R))))) (pnR R))) (fun k356 =>
  ∃ I357 : List Value → Heap → Prop,
  ∃ I358 : List Value → Heap → Nat,
  (I357 ([Value.int IntKind.i64 0]) H22) ∧
  ∀ n359 : Int,
  ∀ v360 v361 v362 v363 v364 v365 v366 v367 v368 v369 v370 v371 v372 v373 v374 v375 v376 v377 v378 v379 v380 v381 v382 v383 v384 v385 v386 v387 v388 v389 v390 v391 v392 v393 v394 v395 v396 v397 v398 v399 v400 v401 v402 v403 v404 v405 v406 v407 v408 v409 v410 : Value,
  ∀ H411 : Heap,
  (I357 ([Value.int IntKind.i64 n359]) H411) →
  sB (decide (n359 < (↑x1n : Int))) (jn (α := VFH 0) (fun H413 =>
  ∀ v414 v415 v416 v417 v418 v419 v420 v421 v422 v423 v424 v425 v426 v427 v428 v429 v430 v431 v432 v433 v434 v435 v436 v437 v438 v439 v440 v441 v442 v443 v444 v445 v446 v447 v448 v449 v450 v451 v452 v453 v454 v455 v456 v457 v458 v459 v460 v461 v462 : Value,
  wr IntKind.i64 (n359 + 1) (fun n463 =>
  (I357 ([Value.int IntKind.i64 n463]) H413) ∧
  (I358 [Value.int IntKind.i64 n463] H413) < (I358 [Value.int IntKind.i64 n359] H411))) (fun k464 =>
  nz x1a (fun a465 =>
  ask ((0 : Int) ≤ n359 ∧ n359 < (↑x1n : Int)) (ld H411 (Addr.add a465 (Int.toNat n359 * 1)) (fun v466 =>
  dInt IntKind.i64 v466 (fun n467 =>
  HCalls Tryz.prog 32 #[Value.pointer p11] H411 (Sp.retK (fun v468 H469 =>
  dSl v468 (fun p470 r471 r472 =>
  sB (decide (n359 ≥ 30)) (k356 H469) (jn (α := VFH 1) (fun v473 H474 =>
  ∀ v475 v476 v477 v478 v479 v480 v481 : Value,
  dBl v473 (fun b482 =>
  sB b482 (wr IntKind.u64 n467 (fun n483 =>
  wr IntKind.u64 ((↑r471 : Int)) (fun n484 =>
  ask (n484 ≠ (0 : Int)) (nm (Int.tmod n483 n484) (fun n485 =>
  wr IntKind.i64 n485 (fun n486 =>
  nz p470 (fun a487 =>
  ask ((0 : Int) ≤ n486 ∧ n486 < (↑r471 : Int)) (ld H474 (Addr.add a487 (Int.toNat n486 * 1)) (fun v488 =>
  dInt IntKind.i64 v488 (fun n489 =>
  HCalls Tryz.prog 33 #[Value.pointer p11, Value.int IntKind.i64 n489] H474 (Sp.retK (fun v490 H491 =>
  dInt IntKind.i64 v490 (fun n492 =>
  sB (n492 != 0) (R (Ending.returned (Value.bool false)) H491) (k464 H491))) (pnR R)))))))))))) (HCalls Tryz.prog 34 #[Value.pointer p11] H474 (Sp.retK (fun v495 H496 =>
  dSl v495 (fun p497 r498 r499 =>
  sB (decide ((↑r498 : Int) > 0)) (wr IntKind.u64 n467 (fun n500 =>
  HCalls Tryz.prog 34 #[Value.pointer p11] H496 (Sp.retK (fun v501 H502 =>
  dSl v501 (fun p503 r504 r505 =>
  wr IntKind.u64 ((↑r504 : Int)) (fun n506 =>
  ask (n506 ≠ (0 : Int)) (nm (Int.tmod n500 n506) (fun n507 =>
  wr IntKind.i64 n507 (fun n508 =>
  ask ((2 : Int) ≠ (0 : Int)) (nm (Int.tmod n467 2) (fun n509 =>
  HCalls Tryz.prog 35 #[Value.pointer p11, Value.int IntKind.i64 n508, Value.bool (n509 == 0)] H502 (Sp.retK (fun v510 H511 =>
  dInt IntKind.i64 v510 (fun n512 =>
  k464 H511)) (pnR R)))))))))) (pnR R)))) (k464 H496))) (pnR R))))) (fun k519 =>
  sB (decide ((↑r471 : Int) > 0)) (ask ((3 : Int) ≠ (0 : Int)) (nm (Int.tmod n467 3) (fun n520 =>
  k519 (Value.bool (n520 != 0)) H469))) (k519 (Value.bool false) H469))))) (pnR R)))))))) (k356 H411)))) (fun k523 =>
  ∃ I524 : List Value → Heap → Prop,
  ∃ I525 : List Value → Heap → Nat,
  (I524 ([Value.slice none 0 0, Value.int IntKind.i64 0]) H14) ∧
  ∀ p526 : Option Addr,
  ∀ r527 : Nat,
  ∀ r528 : Nat,
  ∀ n529 : Int,
  ∀ v530 v531 v532 v533 v534 v535 v536 v537 v538 v539 v540 v541 v542 v543 v544 v545 v546 v547 v548 v549 v550 v551 v552 v553 v554 v555 v556 v557 v558 v559 v560 v561 v562 v563 v564 v565 v566 v567 v568 v569 v570 v571 v572 v573 v574 v575 v576 v577 v578 v579 v580 v581 v582 v583 v584 : Value,
  ∀ H585 : Heap,
  (I524 ([Value.slice p526 r527 r528, Value.int IntKind.i64 n529]) H585) →
  sB (decide (n529 < (↑x0n : Int))) (nz x0a (fun a587 =>
  ask ((0 : Int) ≤ n529 ∧ n529 < (↑x0n : Int)) (ld H585 (Addr.add a587 (Int.toNat n529 * 1)) (fun v588 =>
  dSl v588 (fun p589 r590 r591 =>
  sB (decide (n529 ≥ 60)) (k523 (Value.slice p526 r527 r528) H585) (∃ I592 : List Value → Heap → Prop,
  ∃ I593 : List Value → Heap → Nat,
  (I592 ([Value.slice none 0 0, Value.int IntKind.i64 0]) H585) ∧
  ∀ p594 : Option Addr,
  ∀ r595 : Nat,
  ∀ r596 : Nat,
  ∀ n597 : Int,
  ∀ v598 v599 v600 v601 v602 v603 v604 v605 v606 v607 v608 v609 v610 v611 v612 v613 v614 : Value,
  ∀ H615 : Heap,
  (I592 ([Value.slice p594 r595 r596, Value.int IntKind.i64 n597]) H615) →
  sB (decide (n597 < (↑r590 : Int))) (jn (α := VFH 1) (fun v617 H618 =>
  ∀ v619 v620 v621 v622 v623 v624 v625 v626 v627 v628 v629 v630 v631 v632 v633 : Value,
  dSl v617 (fun p634 r635 r636 =>
  wr IntKind.i64 (n597 + 1) (fun n637 =>
  (I592 ([Value.slice p634 r635 r636, Value.int IntKind.i64 n637]) H618) ∧
  (I593 [Value.slice p634 r635 r636, Value.int IntKind.i64 n637] H618) < (I593 [Value.slice p594 r595 r596, Value.int IntKind.i64 n597] H615)))) (fun k638 =>
  nz p589 (fun a639 =>
  ask ((0 : Int) ≤ n597 ∧ n597 < (↑r590 : Int)) (ld H615 (Addr.add a639 (Int.toNat n597 * 1)) (fun v640 =>
  dInt IntKind.i64 v640 (fun n641 =>
  sB (decide (n529 > 0)) (wr IntKind.u64 n641 (fun n642 =>
  wr IntKind.u64 n529 (fun n643 =>
  ask (n643 ≠ (0 : Int)) (nm (Int.tmod n642 n643) (fun n644 =>
  wr IntKind.i64 n644 (fun n645 =>
  wr IntKind.i64 (1 + n645) (fun n646 =>
  al H615 (Obj.cells #[Value.int IntKind.i64 n646] 3) (fun r647 H648 =>
  semW Tryz.prog (Builtin.append_ #[73, 73] 73 #[Value.slice p594 r595 r596, Value.slice (some (Addr.mk r647 0 none)) 1 1]) (pnR R) H648 (fun v651 H652 =>
  dSl v651 (fun p653 r654 r655 =>
  k638 (Value.slice p653 r654 r655) H652)))))))))) (k638 (Value.slice p594 r595 r596) H615))))))) (ask ((8 : Int) ≠ (0 : Int)) (nm (Int.tmod n529 8) (fun n656 =>
  al H615 (Obj.cells #[Value.int IntKind.u8 1] 5) (fun r657 H658 =>
  HCalls Tryz.prog 25 #[Value.pointer p11, Value.int IntKind.i64 n656, Value.int IntKind.i64 n529, Value.slice (some (Addr.mk r657 0 none)) 1 1, Value.slice p594 r595 r596] H658 (Sp.retK (fun v659 H660 =>
  dT 2 v659 (fun v661 v662 =>
  dInt IntKind.i64 v661 (fun n663 =>
  dInt IntKind.i64 v662 (fun n664 =>
  jn (α := VFH 1) (fun v665 H666 =>
  ∀ v667 v668 v669 v670 v671 v672 v673 : Value,
  dBl v665 (fun b674 =>
  sB b674 (R (Ending.returned (Value.bool false)) H666) (al H666 (Obj.cells #[Value.slice p594 r595 r596] 73) (fun r675 H676 =>
  semW Tryz.prog (Builtin.append_ #[84, 84] 84 #[Value.slice p526 r527 r528, Value.slice (some (Addr.mk r675 0 none)) 1 1]) (pnR R) H676 (fun v679 H680 =>
  dSl v679 (fun p681 r682 r683 =>
  wr IntKind.i64 (n529 + 1) (fun n684 =>
  (I524 ([Value.slice p681 r682 r683, Value.int IntKind.i64 n684]) H680) ∧
  (I525 [Value.slice p681 r682 r683, Value.int IntKind.i64 n684] H680) < (I525 [Value.slice p526 r527 r528, Value.int IntKind.i64 n529] H585)))))))) (fun k685 =>
  sB (n664 != 0) (k685 (Value.bool true) H660) (wr IntKind.i64 (n529 + 1) (fun n686 =>
  k685 (Value.bool (n663 != n686)) H660))))))) (pnR R)))))))))))) (k523 (Value.slice p526 r527 r528) H585))))) (fun k689 =>
  sB (n6 != 0) (k689 (Value.bool true) H8) (k689 (Value.bool (n12 != 0)) H8)))))) (pnR R)))))) (pnR R))
theorem F6_eq (x0a : Option Addr) (x0n : Nat) (x0c : Nat) (x1a : Option Addr) (x1n : Nat) (x1c : Nat) (x2 : Int) (R : Ending → Heap → Prop) (H : Heap) : F6 x0a x0n x0c x1a x1n x1c x2 R H = vc Tryz.prog (codeOf Tryz.f6) (.node none .leaf (.node none .leaf (.node none .leaf (.node none (.node (some ⟨[(44, 4)], [39, 40, 41, 42, 43]⟩) .leaf .leaf) (.node none .leaf (.node (some ⟨[(11, 84)], [6, 12, 13, 14, 16, 17, 18, 45, 46, 47, 48, 49, 50, 51, 52, 53, 54, 55, 56, 57, 58, 59, 60, 61, 62, 63, 64, 65, 66, 67, 68, 69, 70, 71, 72, 73, 74, 75, 76, 77, 78, 79, 80, 81, 82, 83, 84, 85, 86, 87, 88, 89, 90, 91, 92, 93, 94, 95]⟩) (.node none .leaf (.node none (.node (some ⟨[(11, 84), (47, 3)], [6, 12, 13, 14, 16, 17, 18, 48, 49, 50, 51, 52, 53, 54, 55, 56, 57, 58, 59, 60, 61, 62, 63, 64, 65, 66, 67, 68, 69, 70, 71, 72, 73, 74, 75, 76, 77, 78, 79, 80, 81, 82, 83, 84, 85, 86, 87, 88, 89, 90, 91, 92, 93, 94, 95]⟩) (.node none .leaf (.node none .leaf (.node none (.node none (.node none .leaf (.node none .leaf (.node none .leaf (.node none (.node none .leaf (.node none (.node (some ⟨[(14, 73), (56, 3)], [16, 57, 58, 59, 60, 61, 62, 63, 64, 65, 66, 67, 68, 69, 70, 71, 72]⟩) (.node none .leaf (.node none .leaf (.node (some ⟨[(14, 73)], [16, 58, 59, 60, 61, 62, 63, 64, 65, 66, 67, 68, 69, 70, 71]⟩) .leaf .leaf))) .leaf) .leaf)) (.node none (.node none .leaf (.node (some ⟨[(90, 4)], [83, 84, 85, 86, 87, 88, 89]⟩) .leaf .leaf)) .leaf))))) .leaf) .leaf))) .leaf) .leaf)) (.node (some ⟨[], [6, 19, 20, 21, 96, 97, 98, 99, 100, 101, 102, 103, 104, 105, 106, 107, 108, 109, 110, 111, 112, 113, 114, 115, 116, 117, 118, 119, 120, 121, 122, 123, 124, 125, 126, 127, 128, 129, 130, 131, 132, 133, 134, 135, 136, 137, 138, 139, 140, 141, 142, 143, 144, 145]⟩) (.node none .leaf (.node none (.node (some ⟨[(98, 3)], [6, 19, 20, 21, 99, 100, 101, 102, 103, 104, 105, 106, 107, 108, 109, 110, 111, 112, 113, 114, 115, 116, 117, 118, 119, 120, 121, 122, 123, 124, 125, 126, 127, 128, 129, 130, 131, 132, 133, 134, 135, 136, 137, 138, 139, 140, 141, 142, 143, 144, 145]⟩) (.node none .leaf (.node none .leaf (.node (some ⟨[], [6, 19, 20, 21, 100, 101, 102, 103, 104, 105, 106, 107, 108, 109, 110, 111, 112, 113, 114, 115, 116, 117, 118, 119, 120, 121, 122, 123, 124, 125, 126, 127, 128, 129, 130, 131, 132, 133, 134, 135, 136, 137, 138, 139, 140, 141, 142, 143, 144]⟩) (.node none (.node none .leaf (.node none .leaf (.node none .leaf (.node (some ⟨[(114, 4)], [107, 108, 109, 110, 111, 112, 113]⟩) .leaf .leaf)))) .leaf) .leaf))) .leaf) .leaf)) (.node none .leaf (.node none (.node none .leaf (.node none (.node (some ⟨[(22, 73), (149, 3)], [23, 24, 150, 151, 152, 153, 154, 155, 156, 157, 158, 159, 160, 161, 162, 163, 164]⟩) (.node none .leaf (.node none .leaf (.node (some ⟨[(22, 73)], [23, 24, 151, 152, 153, 154, 155, 156, 157, 158, 159, 160, 161, 162, 163]⟩) .leaf .leaf))) .leaf) .leaf)) (.node none .leaf (.node none .leaf (.node none (.node none .leaf (.node none (.node (some ⟨[(173, 3)], [6, 26, 27, 29, 174, 175, 176, 177, 178, 179, 180, 181, 182, 183, 184, 185, 186, 187, 188, 189, 190, 191, 192, 193, 194, 195, 196, 197, 198, 199, 200, 201, 202, 203, 204, 205]⟩) (.node none .leaf (.node none .leaf (.node (some ⟨[], [6, 26, 27, 29, 175, 176, 177, 178, 179, 180, 181, 182, 183, 184, 185, 186, 187, 188, 189, 190, 191, 192, 193, 194, 195, 196, 197, 198, 199, 200, 201, 202, 203, 204]⟩) (.node none (.node none .leaf (.node none .leaf (.node none .leaf (.node none (.node (some ⟨[(189, 3)], [6, 29, 190, 191, 192, 193, 194, 195, 196, 197, 198, 199, 200, 201, 202, 203, 204]⟩) .leaf .leaf) .leaf)))) .leaf) .leaf))) .leaf) .leaf)) .leaf)))))))))))) (postV Tryz.prog Tryz.f6 R) ⟨#[Value.slice x0a x0n x0c, Value.slice x1a x1n x1c, Value.int IntKind.u64 x2] ++ Array.replicate (Tryz.f6.ntmps - 3) undef, []⟩ H := by kernel_rfl
theorem F6_calls {R : Ending → Heap → Prop} {H : Heap} (x0a : Option Addr) (x0n : Nat) (x0c : Nat) (x1a : Option Addr) (x1n : Nat) (x1c : Nat) (x2 : Int) (h : F6 x0a x0n x0c x1a x1n x1c x2 R H) : HCalls Tryz.prog 6 #[Value.slice x0a x0n x0c, Value.slice x1a x1n x1c, Value.int IntKind.u64 x2] H R :=
  calls_by (F := F6 x0a x0n x0c x1a x1n x1c x2 R H) (.node none .leaf (.node none .leaf (.node none .leaf (.node none (.node (some ⟨[(44, 4)], [39, 40, 41, 42, 43]⟩) .leaf .leaf) (.node none .leaf (.node (some ⟨[(11, 84)], [6, 12, 13, 14, 16, 17, 18, 45, 46, 47, 48, 49, 50, 51, 52, 53, 54, 55, 56, 57, 58, 59, 60, 61, 62, 63, 64, 65, 66, 67, 68, 69, 70, 71, 72, 73, 74, 75, 76, 77, 78, 79, 80, 81, 82, 83, 84, 85, 86, 87, 88, 89, 90, 91, 92, 93, 94, 95]⟩) (.node none .leaf (.node none (.node (some ⟨[(11, 84), (47, 3)], [6, 12, 13, 14, 16, 17, 18, 48, 49, 50, 51, 52, 53, 54, 55, 56, 57, 58, 59, 60, 61, 62, 63, 64, 65, 66, 67, 68, 69, 70, 71, 72, 73, 74, 75, 76, 77, 78, 79, 80, 81, 82, 83, 84, 85, 86, 87, 88, 89, 90, 91, 92, 93, 94, 95]⟩) (.node none .leaf (.node none .leaf (.node none (.node none (.node none .leaf (.node none .leaf (.node none .leaf (.node none (.node none .leaf (.node none (.node (some ⟨[(14, 73), (56, 3)], [16, 57, 58, 59, 60, 61, 62, 63, 64, 65, 66, 67, 68, 69, 70, 71, 72]⟩) (.node none .leaf (.node none .leaf (.node (some ⟨[(14, 73)], [16, 58, 59, 60, 61, 62, 63, 64, 65, 66, 67, 68, 69, 70, 71]⟩) .leaf .leaf))) .leaf) .leaf)) (.node none (.node none .leaf (.node (some ⟨[(90, 4)], [83, 84, 85, 86, 87, 88, 89]⟩) .leaf .leaf)) .leaf))))) .leaf) .leaf))) .leaf) .leaf)) (.node (some ⟨[], [6, 19, 20, 21, 96, 97, 98, 99, 100, 101, 102, 103, 104, 105, 106, 107, 108, 109, 110, 111, 112, 113, 114, 115, 116, 117, 118, 119, 120, 121, 122, 123, 124, 125, 126, 127, 128, 129, 130, 131, 132, 133, 134, 135, 136, 137, 138, 139, 140, 141, 142, 143, 144, 145]⟩) (.node none .leaf (.node none (.node (some ⟨[(98, 3)], [6, 19, 20, 21, 99, 100, 101, 102, 103, 104, 105, 106, 107, 108, 109, 110, 111, 112, 113, 114, 115, 116, 117, 118, 119, 120, 121, 122, 123, 124, 125, 126, 127, 128, 129, 130, 131, 132, 133, 134, 135, 136, 137, 138, 139, 140, 141, 142, 143, 144, 145]⟩) (.node none .leaf (.node none .leaf (.node (some ⟨[], [6, 19, 20, 21, 100, 101, 102, 103, 104, 105, 106, 107, 108, 109, 110, 111, 112, 113, 114, 115, 116, 117, 118, 119, 120, 121, 122, 123, 124, 125, 126, 127, 128, 129, 130, 131, 132, 133, 134, 135, 136, 137, 138, 139, 140, 141, 142, 143, 144]⟩) (.node none (.node none .leaf (.node none .leaf (.node none .leaf (.node (some ⟨[(114, 4)], [107, 108, 109, 110, 111, 112, 113]⟩) .leaf .leaf)))) .leaf) .leaf))) .leaf) .leaf)) (.node none .leaf (.node none (.node none .leaf (.node none (.node (some ⟨[(22, 73), (149, 3)], [23, 24, 150, 151, 152, 153, 154, 155, 156, 157, 158, 159, 160, 161, 162, 163, 164]⟩) (.node none .leaf (.node none .leaf (.node (some ⟨[(22, 73)], [23, 24, 151, 152, 153, 154, 155, 156, 157, 158, 159, 160, 161, 162, 163]⟩) .leaf .leaf))) .leaf) .leaf)) (.node none .leaf (.node none .leaf (.node none (.node none .leaf (.node none (.node (some ⟨[(173, 3)], [6, 26, 27, 29, 174, 175, 176, 177, 178, 179, 180, 181, 182, 183, 184, 185, 186, 187, 188, 189, 190, 191, 192, 193, 194, 195, 196, 197, 198, 199, 200, 201, 202, 203, 204, 205]⟩) (.node none .leaf (.node none .leaf (.node (some ⟨[], [6, 26, 27, 29, 175, 176, 177, 178, 179, 180, 181, 182, 183, 184, 185, 186, 187, 188, 189, 190, 191, 192, 193, 194, 195, 196, 197, 198, 199, 200, 201, 202, 203, 204]⟩) (.node none (.node none .leaf (.node none .leaf (.node none .leaf (.node none (.node (some ⟨[(189, 3)], [6, 29, 190, 191, 192, 193, 194, 195, 196, 197, 198, 199, 200, 201, 202, 203, 204]⟩) .leaf .leaf) .leaf)))) .leaf) .leaf))) .leaf) .leaf)) .leaf)))))))))))) Tryz.func6 rfl (F6_eq x0a x0n x0c x1a x1n x1c x2 R H) h
/-- bollard/bollardlaw11.AllocInodes -/
def F7 (x0_0 : Value) (x0_1 : Value) (x0_2 : Value) (x1 : Int) (x2 : Bool) (R : Ending → Heap → Prop) (H : Heap) : Prop :=
  al H (Obj.cells #[x0_0, x0_1, x0_2] 32) (fun r1 H2 =>
  ld H2 (Addr.mk r1 0 none) (fun v3 =>
  ld H2 (Addr.mk r1 1 none) (fun v4 =>
  ld H2 (Addr.mk r1 2 none) (fun v5 =>
  HCalls Tryz.prog 23 #[Value.agg #[v3, v4, v5]] H2 (Sp.retK (fun v6 H7 =>
  dT 3 v6 (fun v8 v9 v10 =>
  dPtr v8 (fun p11 =>
  dA 3 v9 (fun v12 v13 v14 =>
  dBl v10 (fun b15 =>
  st H7 (Addr.mk r1 0 none) v12 (fun H16 =>
  st H16 (Addr.mk r1 1 none) v13 (fun H17 =>
  st H17 (Addr.mk r1 2 none) v14 (fun H18 =>
  sB (!b15) (R (Ending.returned (Value.bool false)) H18) (wr IntKind.u64 x1 (fun n19 =>
  ld H18 (Addr.mk r1 0 none) (fun v20 =>
  dInt IntKind.i64 v20 (fun n21 =>
  wr IntKind.u64 n21 (fun n22 =>
  ask (n22 ≠ (0 : Int)) (nm (Int.tmod n19 n22) (fun n23 =>
  wr IntKind.i64 n23 (fun n24 =>
  al H18 (Obj.map #[] 0) (fun r25 H26 =>
  semW Tryz.prog (Instr.mapUpdate 99 (Value.map (some r25)) (Value.int IntKind.i64 0) (Value.bool true)) (pnR R) H26 (fun x29 H30 =>
  semW Tryz.prog (Instr.mapUpdate 99 (Value.map (some r25)) (Value.int IntKind.i64 1) (Value.bool true)) (pnR R) H30 (fun x33 H34 =>
  semW Tryz.prog (Instr.mapUpdate 99 (Value.map (some r25)) (Value.int IntKind.i64 2) (Value.bool true)) (pnR R) H34 (fun x37 H38 =>
  ld H38 (Addr.mk r1 0 none) (fun v39 =>
  dInt IntKind.i64 v39 (fun n40 =>
  ld H38 (Addr.mk r1 2 none) (fun v41 =>
  dInt IntKind.i64 v41 (fun n42 =>
  wr IntKind.i64 (n40 * n42) (fun n43 =>
  ∃ I44 : List Value → Heap → Prop,
  ∃ I45 : List Value → Heap → Nat,
  (I44 ([Value.int IntKind.i64 0]) H38) ∧
  ∀ n46 : Int,
  ∀ v47 v48 v49 v50 v51 v52 v53 v54 v55 v56 v57 v58 v59 v60 v61 v62 v63 v64 v65 v66 v67 v68 v69 v70 v71 v72 v73 v74 v75 v76 v77 v78 v79 v80 v81 v82 v83 v84 v85 v86 v87 v88 v89 v90 v91 v92 v93 v94 v95 v96 v97 v98 v99 v100 v101 : Value,
  ∀ H102 : Heap,
  (I44 ([Value.int IntKind.i64 n46]) H102) →
  sB (decide (n46 < n43)) (nz p11 (fun a104 =>
  ld H102 (Addr.add a104 1) (fun v105 =>
  dPtr v105 (fun p106 =>
  ld H102 (Addr.mk r1 0 none) (fun v107 =>
  ld H102 (Addr.mk r1 1 none) (fun v108 =>
  ld H102 (Addr.mk r1 2 none) (fun v109 =>
  HCalls Tryz.prog 39 #[Value.pointer p106, Value.agg #[v107, v108, v109]] H102 (Sp.retK (fun v110 H111 =>
  dT 3 v110 (fun v112 v113 v114 =>
  dInt IntKind.i64 v112 (fun n115 =>
  dInt IntKind.i64 v113 (fun n116 =>
  dInt IntKind.i64 v114 (fun n117 =>
  sB (n117 != 0) (R (Ending.returned (Value.bool false)) H111) (nz p11 (fun a118 =>
  ld H111 (Addr.add a118 1) (fun v119 =>
  dPtr v119 (fun p120 =>
  ld H111 (Addr.mk r1 0 none) (fun v121 =>
  ld H111 (Addr.mk r1 1 none) (fun v122 =>
  ld H111 (Addr.mk r1 2 none) (fun v123 =>
  HCalls Tryz.prog 40 #[Value.pointer p120, Value.agg #[v121, v122, v123], Value.int IntKind.i64 n24, Value.bool x2] H111 (Sp.retK (fun v124 H125 =>
  dT 3 v124 (fun v126 v127 v128 =>
  dInt IntKind.i64 v126 (fun n129 =>
  dInt IntKind.i64 v127 (fun n130 =>
  dInt IntKind.i64 v128 (fun n131 =>
  sB (n131 == 5) (sB (n116 == 0) (semW Tryz.prog (Builtin.len_ #[99] 3 #[Value.map (some r25)]) (pnR R) H125 (fun v134 H135 =>
  dInt IntKind.i64 v134 (fun n136 =>
  ld H135 (Addr.mk r1 0 none) (fun v137 =>
  dInt IntKind.i64 v137 (fun n138 =>
  ld H135 (Addr.mk r1 2 none) (fun v139 =>
  dInt IntKind.i64 v139 (fun n140 =>
  wr IntKind.i64 (n138 * n140) (fun n141 =>
  R (Ending.returned (Value.bool (n136 == n141))) H135)))))))) (R (Ending.returned (Value.bool false)) H125)) (jn (α := VFH 1) (fun v142 H143 =>
  ∀ v144 v145 v146 v147 v148 v149 : Value,
  dBl v142 (fun b150 =>
  sB b150 (R (Ending.returned (Value.bool false)) H143) (semW Tryz.prog (Instr.mapUpdate 99 (Value.map (some r25)) (Value.int IntKind.i64 n129) (Value.bool true)) (pnR R) H143 (fun x153 H154 =>
  wr IntKind.i64 (n46 + 1) (fun n155 =>
  (I44 ([Value.int IntKind.i64 n155]) H154) ∧
  (I45 [Value.int IntKind.i64 n155] H154) < (I45 [Value.int IntKind.i64 n46] H102)))))) (fun k156 =>
  sB (n131 != 0) (k156 (Value.bool true) H125) (semW Tryz.prog (Instr.lookup 99 (Value.map (some r25)) (Value.int IntKind.i64 n129) false) (pnR R) H125 (fun v159 H160 =>
  dBl v159 (fun b161 =>
  k156 (Value.bool b161) H160)))))))))) nopR))))))))))))) nopR)))))))) (R (Ending.returned (Value.bool false)) H102)))))))))))))))))))))))))) (pnR R))))))
theorem F7_eq (x0_0 : Value) (x0_1 : Value) (x0_2 : Value) (x1 : Int) (x2 : Bool) (R : Ending → Heap → Prop) (H : Heap) : F7 x0_0 x0_1 x0_2 x1 x2 R H = vc Tryz.prog (codeOf Tryz.f7) (.node none .leaf (.node none .leaf (.node none .leaf (.node none .leaf (.node none .leaf (.node none (.node none .leaf (.node none (.node (some ⟨[(37, 3)], [6, 10, 11, 12, 13, 14, 38, 39, 40, 41, 42, 43, 44, 45, 46, 47, 48, 49, 50, 51, 52, 53, 54, 55, 56, 57, 58, 59, 60, 61, 62, 63, 64, 65, 66, 67, 68, 69, 70, 71, 72, 73, 74, 75, 76, 77, 78, 79, 80, 81, 82, 83, 84, 85, 86]⟩) (.node none .leaf (.node none .leaf (.node none (.node none (.node none .leaf (.node none .leaf (.node none .leaf (.node none .leaf (.node none (.node (some ⟨[(83, 4)], [77, 78, 79, 80, 81, 82]⟩) .leaf .leaf) .leaf))))) .leaf) .leaf))) .leaf) .leaf)) .leaf)))))) (postV Tryz.prog Tryz.f7 R) ⟨#[Value.agg #[x0_0, x0_1, x0_2], Value.int IntKind.i64 x1, Value.bool x2] ++ Array.replicate (Tryz.f7.ntmps - 3) undef, []⟩ H := by kernel_rfl
theorem F7_calls {R : Ending → Heap → Prop} {H : Heap} (x0_0 : Value) (x0_1 : Value) (x0_2 : Value) (x1 : Int) (x2 : Bool) (h : F7 x0_0 x0_1 x0_2 x1 x2 R H) : HCalls Tryz.prog 7 #[Value.agg #[x0_0, x0_1, x0_2], Value.int IntKind.i64 x1, Value.bool x2] H R :=
  calls_by (F := F7 x0_0 x0_1 x0_2 x1 x2 R H) (.node none .leaf (.node none .leaf (.node none .leaf (.node none .leaf (.node none .leaf (.node none (.node none .leaf (.node none (.node (some ⟨[(37, 3)], [6, 10, 11, 12, 13, 14, 38, 39, 40, 41, 42, 43, 44, 45, 46, 47, 48, 49, 50, 51, 52, 53, 54, 55, 56, 57, 58, 59, 60, 61, 62, 63, 64, 65, 66, 67, 68, 69, 70, 71, 72, 73, 74, 75, 76, 77, 78, 79, 80, 81, 82, 83, 84, 85, 86]⟩) (.node none .leaf (.node none .leaf (.node none (.node none (.node none .leaf (.node none .leaf (.node none .leaf (.node none .leaf (.node none (.node (some ⟨[(83, 4)], [77, 78, 79, 80, 81, 82]⟩) .leaf .leaf) .leaf))))) .leaf) .leaf))) .leaf) .leaf)) .leaf)))))) Tryz.func7 rfl (F7_eq x0_0 x0_1 x0_2 x1 x2 R H) h
end Go.Proofs.YtngploohhmfaiaaGreat.E
