/- My own texts, joined. -/
import Derived.KernelRfl
import Derived.Test.YtngploohhmfaiaaGreatProg
import Derived.Test.YtngploohhmfaiaaGreatAs6
/- The functions' forms in the engine's words, printed by my own program. -/
namespace Go.Proofs.YtngploohhmfaiaaGreat.E
open Go Go.Proofs
set_option linter.unusedVariables false
/-- bollard/alloc.Block -/
def F29 (x0 : Option Addr) (x1_0 : Value) (x1_1 : Value) (x1_2 : Value) (x2 : Int) (x3a : Option Addr) (x3n : Nat) (x3c : Nat) (R : Ending → Heap → Prop) (H : Heap) : Prop :=
  al H (Obj.cells #[x1_0, x1_1, x1_2] 32) (fun r1 H2 =>
  ld H2 (Addr.mk r1 0 none) (fun v3 =>
  ld H2 (Addr.mk r1 1 none) (fun v4 =>
  ld H2 (Addr.mk r1 2 none) (fun v5 =>
  HCalls Tryz.prog 74 #[Value.pointer x0, Value.agg #[v3, v4, v5]] H2 (Sp.retK (fun v6 H7 =>
  dInt IntKind.i64 v6 (fun n8 =>
  sB (n8 != 0) (R (Ending.returned (Value.tuple #[Value.int IntKind.i64 0, Value.int IntKind.i64 0, Value.int IntKind.i64 n8])) H7) (jn (α := VFH 1) (fun v9 H10 =>
  ∀ v11 v12 v13 v14 v15 v16 v17 v18 : Value,
  dBl v9 (fun b19 =>
  sB b19 (R (Ending.returned (Value.tuple #[Value.int IntKind.i64 0, Value.int IntKind.i64 0, Value.int IntKind.i64 1])) H10) (ld H10 (Addr.mk r1 0 none) (fun v20 =>
  ld H10 (Addr.mk r1 1 none) (fun v21 =>
  ld H10 (Addr.mk r1 2 none) (fun v22 =>
  HCalls Tryz.prog 76 #[Value.agg #[v20, v21, v22], Value.int IntKind.i64 x2] H10 (Sp.retK (fun v23 H24 =>
  dSl v23 (fun p25 r26 r27 =>
  ∃ I28 : List Value → Heap → Prop,
  ∃ I29 : List Value → Heap → Nat,
  (I28 ([Value.int IntKind.i64 0]) H24) ∧
  ∀ n30 : Int,
  ∀ v31 v32 v33 v34 v35 v36 v37 v38 v39 v40 v41 v42 v43 v44 v45 v46 v47 v48 v49 v50 v51 v52 v53 v54 v55 v56 v57 v58 v59 v60 v61 v62 v63 v64 v65 v66 v67 v68 v69 v70 v71 v72 v73 v74 v75 v76 v77 v78 v79 v80 v81 v82 v83 v84 v85 v86 v87 v88 v89 v90 v91 v92 v93 v94 v95 v96 v97 v98 v99 v100 v101 v102 v103 v104 : Value,
  ∀ H105 : Heap,
  (I28 ([Value.int IntKind.i64 n30]) H105) →
  sB (decide (n30 < (↑r26 : Int))) (nz p25 (fun a107 =>
  ask ((0 : Int) ≤ n30 ∧ n30 < (↑r26 : Int)) (ld H105 (Addr.add a107 (Int.toNat n30 * 1)) (fun v108 =>
  dInt IntKind.i64 v108 (fun n109 =>
  ld H105 (Addr.mk r1 0 none) (fun v110 =>
  ld H105 (Addr.mk r1 1 none) (fun v111 =>
  ld H105 (Addr.mk r1 2 none) (fun v112 =>
  HCalls Tryz.prog 75 #[Value.pointer x0, Value.agg #[v110, v111, v112], Value.int IntKind.i64 n109] H105 (Sp.retK (fun v113 H114 =>
  dT 2 v113 (fun v115 v116 =>
  dA 41 v115 (fun v117 v118 v119 v120 v121 v122 v123 v124 v125 v126 v127 v128 v129 v130 v131 v132 v133 v134 v135 v136 v137 v138 v139 v140 v141 v142 v143 v144 v145 v146 v147 v148 v149 v150 v151 v152 v153 v154 v155 v156 v157 =>
  dInt IntKind.i64 v116 (fun n158 =>
  al H114 (Obj.cells #[Value.int IntKind.i64 0, Value.int IntKind.u8 0, Value.int IntKind.u8 0, Value.int IntKind.u8 0, Value.int IntKind.u8 0, Value.int IntKind.u8 0, Value.int IntKind.u8 0, Value.int IntKind.u8 0, Value.int IntKind.u8 0, Value.int IntKind.u8 0, Value.int IntKind.u8 0, Value.int IntKind.u8 0, Value.int IntKind.u8 0, Value.int IntKind.u8 0, Value.int IntKind.u8 0, Value.int IntKind.u8 0, Value.int IntKind.u8 0, Value.int IntKind.u8 0, Value.int IntKind.u8 0, Value.int IntKind.u8 0, Value.int IntKind.u8 0, Value.int IntKind.u8 0, Value.int IntKind.u8 0, Value.int IntKind.u8 0, Value.int IntKind.u8 0, Value.int IntKind.u8 0, Value.int IntKind.u8 0, Value.int IntKind.u8 0, Value.int IntKind.u8 0, Value.int IntKind.u8 0, Value.int IntKind.u8 0, Value.int IntKind.u8 0, Value.int IntKind.u8 0, Value.int IntKind.u8 0, Value.int IntKind.u8 0, Value.int IntKind.u8 0, Value.int IntKind.u8 0, Value.int IntKind.u8 0, Value.int IntKind.u8 0, Value.int IntKind.u8 0, Value.int IntKind.u8 0] 77) (fun r159 H160 =>
  st H160 (Addr.mk r159 0 none) v117 (fun H161 =>
  st H161 (Addr.mk r159 1 none) v118 (fun H162 =>
  st H162 (Addr.mk r159 2 none) v119 (fun H163 =>
  st H163 (Addr.mk r159 3 none) v120 (fun H164 =>
  st H164 (Addr.mk r159 4 none) v121 (fun H165 =>
  st H165 (Addr.mk r159 5 none) v122 (fun H166 =>
  st H166 (Addr.mk r159 6 none) v123 (fun H167 =>
  st H167 (Addr.mk r159 7 none) v124 (fun H168 =>
  st H168 (Addr.mk r159 8 none) v125 (fun H169 =>
  st H169 (Addr.mk r159 9 none) v126 (fun H170 =>
  st H170 (Addr.mk r159 10 none) v127 (fun H171 =>
  st H171 (Addr.mk r159 11 none) v128 (fun H172 =>
  st H172 (Addr.mk r159 12 none) v129 (fun H173 =>
  st H173 (Addr.mk r159 13 none) v130 (fun H174 =>
  st H174 (Addr.mk r159 14 none) v131 (fun H175 =>
  st H175 (Addr.mk r159 15 none) v132 (fun H176 =>
  st H176 (Addr.mk r159 16 none) v133 (fun H177 =>
  st H177 (Addr.mk r159 17 none) v134 (fun H178 =>
  st H178 (Addr.mk r159 18 none) v135 (fun H179 =>
  st H179 (Addr.mk r159 19 none) v136 (fun H180 =>
  st H180 (Addr.mk r159 20 none) v137 (fun H181 =>
  st H181 (Addr.mk r159 21 none) v138 (fun H182 =>
  st H182 (Addr.mk r159 22 none) v139 (fun H183 =>
  st H183 (Addr.mk r159 23 none) v140 (fun H184 =>
  st H184 (Addr.mk r159 24 none) v141 (fun H185 =>
  st H185 (Addr.mk r159 25 none) v142 (fun H186 =>
  st H186 (Addr.mk r159 26 none) v143 (fun H187 =>
  st H187 (Addr.mk r159 27 none) v144 (fun H188 =>
  st H188 (Addr.mk r159 28 none) v145 (fun H189 =>
  st H189 (Addr.mk r159 29 none) v146 (fun H190 =>
  st H190 (Addr.mk r159 30 none) v147 (fun H191 =>
  st H191 (Addr.mk r159 31 none) v148 (fun H192 =>
  st H192 (Addr.mk r159 32 none) v149 (fun H193 =>
  st H193 (Addr.mk r159 33 none) v150 (fun H194 =>
  st H194 (Addr.mk r159 34 none) v151 (fun H195 =>
  st H195 (Addr.mk r159 35 none) v152 (fun H196 =>
  st H196 (Addr.mk r159 36 none) v153 (fun H197 =>
  st H197 (Addr.mk r159 37 none) v154 (fun H198 =>
  st H198 (Addr.mk r159 38 none) v155 (fun H199 =>
  st H199 (Addr.mk r159 39 none) v156 (fun H200 =>
  st H200 (Addr.mk r159 40 none) v157 (fun H201 =>
  sB (n158 != 0) (R (Ending.returned (Value.tuple #[Value.int IntKind.i64 0, Value.int IntKind.i64 0, Value.int IntKind.i64 n158])) H201) (ld H201 (Addr.mk r1 0 none) (fun v202 =>
  ld H201 (Addr.mk r1 1 none) (fun v203 =>
  ld H201 (Addr.mk r1 2 none) (fun v204 =>
  HCalls Tryz.prog 77 #[Value.agg #[v202, v203, v204], Value.int IntKind.i64 n109] H201 (Sp.retK (fun v205 H206 =>
  dT 3 v205 (fun v207 v208 v209 =>
  dInt IntKind.i64 v207 (fun n210 =>
  dInt IntKind.i64 v208 (fun n211 =>
  dBl v209 (fun b212 =>
  ld H206 (Addr.mk r1 0 none) (fun v213 =>
  ld H206 (Addr.mk r1 1 none) (fun v214 =>
  ld H206 (Addr.mk r1 2 none) (fun v215 =>
  HCalls Tryz.prog 78 #[Value.agg #[v213, v214, v215], Value.int IntKind.i64 n210] H206 (Sp.retK (fun v216 H217 =>
  dT 3 v216 (fun v218 v219 v220 =>
  dInt IntKind.i64 v218 (fun n221 =>
  dInt IntKind.i64 v219 (fun n222 =>
  dBl v220 (fun b223 =>
  ask ((0 : Int) ≤ (0 : Int) ∧ (0 : Int) ≤ (32 : Int) ∧ (32 : Int) ≤ (32 : Int) ∧ (32 : Int) ≤ (32 : Int)) (wr IntKind.i64 (n222 + n211) (fun n224 =>
  HCalls Tryz.prog 79 #[Value.slice (slO (some (Addr.mk r159 9 none)) 1 0 32) (Int.toNat 32 - Int.toNat 0) (Int.toNat 32 - Int.toNat 0), Value.int IntKind.i64 n222, Value.int IntKind.i64 n224] H217 (Sp.retK (fun v225 H226 =>
  dT 2 v225 (fun v227 v228 =>
  dInt IntKind.i64 v227 (fun n229 =>
  dBl v228 (fun b230 =>
  sB (!b230) (wr IntKind.i64 (n30 + 1) (fun n231 =>
  (I28 ([Value.int IntKind.i64 n231]) H226) ∧
  (I29 [Value.int IntKind.i64 n231] H226) < (I29 [Value.int IntKind.i64 n30] H105))) (ld H226 (Addr.mk r1 0 none) (fun v232 =>
  ld H226 (Addr.mk r1 1 none) (fun v233 =>
  ld H226 (Addr.mk r1 2 none) (fun v234 =>
  ld H226 (Addr.mk r159 0 none) (fun v235 =>
  ld H226 (Addr.mk r159 1 none) (fun v236 =>
  ld H226 (Addr.mk r159 2 none) (fun v237 =>
  ld H226 (Addr.mk r159 3 none) (fun v238 =>
  ld H226 (Addr.mk r159 4 none) (fun v239 =>
  ld H226 (Addr.mk r159 5 none) (fun v240 =>
  ld H226 (Addr.mk r159 6 none) (fun v241 =>
  ld H226 (Addr.mk r159 7 none) (fun v242 =>
  ld H226 (Addr.mk r159 8 none) (fun v243 =>
  ld H226 (Addr.mk r159 9 none) (fun v244 =>
  ld H226 (Addr.mk r159 10 none) (fun v245 =>
  ld H226 (Addr.mk r159 11 none) (fun v246 =>
  ld H226 (Addr.mk r159 12 none) (fun v247 =>
  ld H226 (Addr.mk r159 13 none) (fun v248 =>
  ld H226 (Addr.mk r159 14 none) (fun v249 =>
  ld H226 (Addr.mk r159 15 none) (fun v250 =>
  ld H226 (Addr.mk r159 16 none) (fun v251 =>
  ld H226 (Addr.mk r159 17 none) (fun v252 =>
  ld H226 (Addr.mk r159 18 none) (fun v253 =>
  ld H226 (Addr.mk r159 19 none) (fun v254 =>
  ld H226 (Addr.mk r159 20 none) (fun v255 =>
  ld H226 (Addr.mk r159 21 none) (fun v256 =>
  ld H226 (Addr.mk r159 22 none) (fun v257 =>
  ld H226 (Addr.mk r159 23 none) (fun v258 =>
  ld H226 (Addr.mk r159 24 none) (fun v259 =>
  ld H226 (Addr.mk r159 25 none) (fun v260 =>
  ld H226 (Addr.mk r159 26 none) (fun v261 =>
  ld H226 (Addr.mk r159 27 none) (fun v262 =>
  ld H226 (Addr.mk r159 28 none) (fun v263 =>
  ld H226 (Addr.mk r159 29 none) (fun v264 =>
  ld H226 (Addr.mk r159 30 none) (fun v265 =>
  ld H226 (Addr.mk r159 31 none) (fun v266 =>
  ld H226 (Addr.mk r159 32 none) (fun v267 =>
  ld H226 (Addr.mk r159 33 none) (fun v268 =>
  ld H226 (Addr.mk r159 34 none) (fun v269 =>
  ld H226 (Addr.mk r159 35 none) (fun v270 =>
  ld H226 (Addr.mk r159 36 none) (fun v271 =>
  ld H226 (Addr.mk r159 37 none) (fun v272 =>
  ld H226 (Addr.mk r159 38 none) (fun v273 =>
  ld H226 (Addr.mk r159 39 none) (fun v274 =>
  ld H226 (Addr.mk r159 40 none) (fun v275 =>
  HCalls Tryz.prog 80 #[Value.pointer x0, Value.agg #[v232, v233, v234], Value.agg #[v235, v236, v237, v238, v239, v240, v241, v242, v243, v244, v245, v246, v247, v248, v249, v250, v251, v252, v253, v254, v255, v256, v257, v258, v259, v260, v261, v262, v263, v264, v265, v266, v267, v268, v269, v270, v271, v272, v273, v274, v275], Value.int IntKind.i64 12, Value.int IntKind.i64 n229, Value.bool true, Value.slice x3a x3n x3c] H226 (Sp.retK (fun v276 H277 =>
  dT 2 v276 (fun v278 v279 =>
  dInt IntKind.i64 v278 (fun n280 =>
  dInt IntKind.i64 v279 (fun n281 =>
  sB (n281 != 0) (R (Ending.returned (Value.tuple #[Value.int IntKind.i64 0, Value.int IntKind.i64 0, Value.int IntKind.i64 n281])) H277) (ld H277 (Addr.mk r1 1 none) (fun v282 =>
  dInt IntKind.i64 v282 (fun n283 =>
  wr IntKind.i64 (n109 * n283) (fun n284 =>
  wr IntKind.i64 (n284 + n229) (fun n285 =>
  R (Ending.returned (Value.tuple #[Value.int IntKind.i64 n285, Value.int IntKind.i64 n280, Value.int IntKind.i64 0])) H277))))))))) (pnR R))))))))))))))))))))))))))))))))))))))))))))))))))) (pnR R))))))))) (pnR R)))))))))) (pnR R)))))))))))))))))))))))))))))))))))))))))))))))))))) (pnR R)))))))))) (R (Ending.returned (Value.tuple #[Value.int IntKind.i64 0, Value.int IntKind.i64 0, Value.int IntKind.i64 5])) H105))) (pnR R)))))))) (fun k298 =>
  sB (decide (x2 < 0)) (k298 (Value.bool true) H7) (ld H7 (Addr.mk r1 0 none) (fun v299 =>
  dInt IntKind.i64 v299 (fun n300 =>
  k298 (Value.bool (decide (x2 ≥ n300))) H7))))))) (pnR R))))))
theorem F29_eq (x0 : Option Addr) (x1_0 : Value) (x1_1 : Value) (x1_2 : Value) (x2 : Int) (x3a : Option Addr) (x3n : Nat) (x3c : Nat) (R : Ending → Heap → Prop) (H : Heap) : F29 x0 x1_0 x1_1 x1_2 x2 x3a x3n x3c R H = vc Tryz.prog (codeOf Tryz.f29) (.node none .leaf (.node none .leaf (.node none (.node none (.node none .leaf (.node none .leaf (.node (some ⟨[(32, 4)], [33, 34, 35, 36, 37, 38, 39, 40]⟩) .leaf .leaf))) .leaf) (.node none (.node none .leaf (.node none (.node (some ⟨[(45, 3)], [8, 9, 10, 13, 14, 15, 16, 17, 18, 19, 20, 21, 22, 23, 24, 46, 47, 48, 49, 50, 51, 52, 53, 54, 55, 56, 57, 58, 59, 60, 61, 62, 63, 64, 65, 66, 67, 68, 69, 70, 71, 72, 73, 74, 75, 76, 77, 78, 79, 80, 81, 82, 83, 84, 85, 86, 87, 88, 89, 90, 91, 92, 93, 94, 95, 96, 97, 98, 99, 100, 101, 102, 103, 104]⟩) .leaf .leaf) .leaf)) .leaf)))) (postV Tryz.prog Tryz.f29 R) ⟨#[Value.pointer x0, Value.agg #[x1_0, x1_1, x1_2], Value.int IntKind.i64 x2, Value.slice x3a x3n x3c] ++ Array.replicate (Tryz.f29.ntmps - 4) undef, []⟩ H := by kernel_rfl
theorem F29_calls {R : Ending → Heap → Prop} {H : Heap} (x0 : Option Addr) (x1_0 : Value) (x1_1 : Value) (x1_2 : Value) (x2 : Int) (x3a : Option Addr) (x3n : Nat) (x3c : Nat) (h : F29 x0 x1_0 x1_1 x1_2 x2 x3a x3n x3c R H) : HCalls Tryz.prog 29 #[Value.pointer x0, Value.agg #[x1_0, x1_1, x1_2], Value.int IntKind.i64 x2, Value.slice x3a x3n x3c] H R :=
  calls_by (F := F29 x0 x1_0 x1_1 x1_2 x2 x3a x3n x3c R H) (.node none .leaf (.node none .leaf (.node none (.node none (.node none .leaf (.node none .leaf (.node (some ⟨[(32, 4)], [33, 34, 35, 36, 37, 38, 39, 40]⟩) .leaf .leaf))) .leaf) (.node none (.node none .leaf (.node none (.node (some ⟨[(45, 3)], [8, 9, 10, 13, 14, 15, 16, 17, 18, 19, 20, 21, 22, 23, 24, 46, 47, 48, 49, 50, 51, 52, 53, 54, 55, 56, 57, 58, 59, 60, 61, 62, 63, 64, 65, 66, 67, 68, 69, 70, 71, 72, 73, 74, 75, 76, 77, 78, 79, 80, 81, 82, 83, 84, 85, 86, 87, 88, 89, 90, 91, 92, 93, 94, 95, 96, 97, 98, 99, 100, 101, 102, 103, 104]⟩) .leaf .leaf) .leaf)) .leaf)))) Tryz.func29 rfl (F29_eq x0 x1_0 x1_1 x1_2 x2 x3a x3n x3c R H) h
/-- bollard/alloc.Room -/
def F39 (x0 : Option Addr) (x1_0 : Value) (x1_1 : Value) (x1_2 : Value) (R : Ending → Heap → Prop) (H : Heap) : Prop :=
  al H (Obj.cells #[x1_0, x1_1, x1_2] 32) (fun r1 H2 =>
  ld H2 (Addr.mk r1 0 none) (fun v3 =>
  ld H2 (Addr.mk r1 1 none) (fun v4 =>
  ld H2 (Addr.mk r1 2 none) (fun v5 =>
  HCalls Tryz.prog 74 #[Value.pointer x0, Value.agg #[v3, v4, v5]] H2 (Sp.retK (fun v6 H7 =>
  dInt IntKind.i64 v6 (fun n8 =>
  sB (n8 != 0) (R (Ending.returned (Value.tuple #[Value.int IntKind.i64 0, Value.int IntKind.i64 0, Value.int IntKind.i64 n8])) H7) (ld H7 (Addr.mk r1 0 none) (fun v9 =>
  dInt IntKind.i64 v9 (fun n10 =>
  ∃ I11 : List Value → Heap → Prop,
  ∃ I12 : List Value → Heap → Nat,
  (I11 ([Value.int IntKind.i64 0, Value.int IntKind.i64 0, Value.int IntKind.i64 0]) H7) ∧
  ∀ n13 : Int,
  ∀ n14 : Int,
  ∀ n15 : Int,
  ∀ v16 v17 v18 v19 v20 v21 v22 v23 v24 v25 v26 v27 v28 v29 v30 v31 v32 v33 v34 v35 v36 v37 v38 v39 v40 v41 v42 v43 v44 v45 v46 v47 v48 v49 v50 v51 v52 v53 v54 v55 v56 v57 v58 v59 v60 v61 v62 v63 v64 v65 v66 v67 v68 v69 v70 v71 v72 v73 v74 v75 v76 v77 v78 v79 v80 : Value,
  ∀ H81 : Heap,
  (I11 ([Value.int IntKind.i64 n13, Value.int IntKind.i64 n14, Value.int IntKind.i64 n15]) H81) →
  sB (decide (n15 < n10)) (ld H81 (Addr.mk r1 0 none) (fun v83 =>
  ld H81 (Addr.mk r1 1 none) (fun v84 =>
  ld H81 (Addr.mk r1 2 none) (fun v85 =>
  HCalls Tryz.prog 75 #[Value.pointer x0, Value.agg #[v83, v84, v85], Value.int IntKind.i64 n15] H81 (Sp.retK (fun v86 H87 =>
  dT 2 v86 (fun v88 v89 =>
  dA 41 v88 (fun v90 v91 v92 v93 v94 v95 v96 v97 v98 v99 v100 v101 v102 v103 v104 v105 v106 v107 v108 v109 v110 v111 v112 v113 v114 v115 v116 v117 v118 v119 v120 v121 v122 v123 v124 v125 v126 v127 v128 v129 v130 =>
  dInt IntKind.i64 v89 (fun n131 =>
  al H87 (Obj.cells #[Value.int IntKind.i64 0, Value.int IntKind.u8 0, Value.int IntKind.u8 0, Value.int IntKind.u8 0, Value.int IntKind.u8 0, Value.int IntKind.u8 0, Value.int IntKind.u8 0, Value.int IntKind.u8 0, Value.int IntKind.u8 0, Value.int IntKind.u8 0, Value.int IntKind.u8 0, Value.int IntKind.u8 0, Value.int IntKind.u8 0, Value.int IntKind.u8 0, Value.int IntKind.u8 0, Value.int IntKind.u8 0, Value.int IntKind.u8 0, Value.int IntKind.u8 0, Value.int IntKind.u8 0, Value.int IntKind.u8 0, Value.int IntKind.u8 0, Value.int IntKind.u8 0, Value.int IntKind.u8 0, Value.int IntKind.u8 0, Value.int IntKind.u8 0, Value.int IntKind.u8 0, Value.int IntKind.u8 0, Value.int IntKind.u8 0, Value.int IntKind.u8 0, Value.int IntKind.u8 0, Value.int IntKind.u8 0, Value.int IntKind.u8 0, Value.int IntKind.u8 0, Value.int IntKind.u8 0, Value.int IntKind.u8 0, Value.int IntKind.u8 0, Value.int IntKind.u8 0, Value.int IntKind.u8 0, Value.int IntKind.u8 0, Value.int IntKind.u8 0, Value.int IntKind.u8 0] 77) (fun r132 H133 =>
  st H133 (Addr.mk r132 0 none) v90 (fun H134 =>
  st H134 (Addr.mk r132 1 none) v91 (fun H135 =>
  st H135 (Addr.mk r132 2 none) v92 (fun H136 =>
  st H136 (Addr.mk r132 3 none) v93 (fun H137 =>
  st H137 (Addr.mk r132 4 none) v94 (fun H138 =>
  st H138 (Addr.mk r132 5 none) v95 (fun H139 =>
  st H139 (Addr.mk r132 6 none) v96 (fun H140 =>
  st H140 (Addr.mk r132 7 none) v97 (fun H141 =>
  st H141 (Addr.mk r132 8 none) v98 (fun H142 =>
  st H142 (Addr.mk r132 9 none) v99 (fun H143 =>
  st H143 (Addr.mk r132 10 none) v100 (fun H144 =>
  st H144 (Addr.mk r132 11 none) v101 (fun H145 =>
  st H145 (Addr.mk r132 12 none) v102 (fun H146 =>
  st H146 (Addr.mk r132 13 none) v103 (fun H147 =>
  st H147 (Addr.mk r132 14 none) v104 (fun H148 =>
  st H148 (Addr.mk r132 15 none) v105 (fun H149 =>
  st H149 (Addr.mk r132 16 none) v106 (fun H150 =>
  st H150 (Addr.mk r132 17 none) v107 (fun H151 =>
  st H151 (Addr.mk r132 18 none) v108 (fun H152 =>
  st H152 (Addr.mk r132 19 none) v109 (fun H153 =>
  st H153 (Addr.mk r132 20 none) v110 (fun H154 =>
  st H154 (Addr.mk r132 21 none) v111 (fun H155 =>
  st H155 (Addr.mk r132 22 none) v112 (fun H156 =>
  st H156 (Addr.mk r132 23 none) v113 (fun H157 =>
  st H157 (Addr.mk r132 24 none) v114 (fun H158 =>
  st H158 (Addr.mk r132 25 none) v115 (fun H159 =>
  st H159 (Addr.mk r132 26 none) v116 (fun H160 =>
  st H160 (Addr.mk r132 27 none) v117 (fun H161 =>
  st H161 (Addr.mk r132 28 none) v118 (fun H162 =>
  st H162 (Addr.mk r132 29 none) v119 (fun H163 =>
  st H163 (Addr.mk r132 30 none) v120 (fun H164 =>
  st H164 (Addr.mk r132 31 none) v121 (fun H165 =>
  st H165 (Addr.mk r132 32 none) v122 (fun H166 =>
  st H166 (Addr.mk r132 33 none) v123 (fun H167 =>
  st H167 (Addr.mk r132 34 none) v124 (fun H168 =>
  st H168 (Addr.mk r132 35 none) v125 (fun H169 =>
  st H169 (Addr.mk r132 36 none) v126 (fun H170 =>
  st H170 (Addr.mk r132 37 none) v127 (fun H171 =>
  st H171 (Addr.mk r132 38 none) v128 (fun H172 =>
  st H172 (Addr.mk r132 39 none) v129 (fun H173 =>
  st H173 (Addr.mk r132 40 none) v130 (fun H174 =>
  sB (n131 != 0) (R (Ending.returned (Value.tuple #[Value.int IntKind.i64 0, Value.int IntKind.i64 0, Value.int IntKind.i64 n131])) H174) (ld H174 (Addr.mk r1 0 none) (fun v175 =>
  ld H174 (Addr.mk r1 1 none) (fun v176 =>
  ld H174 (Addr.mk r1 2 none) (fun v177 =>
  HCalls Tryz.prog 77 #[Value.agg #[v175, v176, v177], Value.int IntKind.i64 n15] H174 (Sp.retK (fun v178 H179 =>
  dT 3 v178 (fun v180 v181 v182 =>
  dInt IntKind.i64 v180 (fun n183 =>
  dInt IntKind.i64 v181 (fun n184 =>
  dBl v182 (fun b185 =>
  ld H179 (Addr.mk r1 0 none) (fun v186 =>
  ld H179 (Addr.mk r1 1 none) (fun v187 =>
  ld H179 (Addr.mk r1 2 none) (fun v188 =>
  HCalls Tryz.prog 78 #[Value.agg #[v186, v187, v188], Value.int IntKind.i64 n183] H179 (Sp.retK (fun v189 H190 =>
  dT 3 v189 (fun v191 v192 v193 =>
  dInt IntKind.i64 v191 (fun n194 =>
  dInt IntKind.i64 v192 (fun n195 =>
  dBl v193 (fun b196 =>
  ask ((0 : Int) ≤ (0 : Int) ∧ (0 : Int) ≤ (32 : Int) ∧ (32 : Int) ≤ (32 : Int) ∧ (32 : Int) ≤ (32 : Int)) (wr IntKind.i64 (n195 + n184) (fun n197 =>
  ask ((0 : Int) ≤ (0 : Int) ∧ (0 : Int) ≤ (32 : Int) ∧ (32 : Int) ≤ (32 : Int) ∧ (32 : Int) ≤ (32 : Int)) (HCalls Tryz.prog 92 #[Value.slice (slO (some (Addr.mk r132 9 none)) 1 0 32) (Int.toNat 32 - Int.toNat 0) (Int.toNat 32 - Int.toNat 0), Value.int IntKind.i64 n197] H190 (Sp.retK (fun v198 H199 =>
  dInt IntKind.i64 v198 (fun n200 =>
  wr IntKind.i64 (n184 - n200) (fun n201 =>
  HCalls Tryz.prog 92 #[Value.slice (slO (some (Addr.mk r132 9 none)) 1 0 32) (Int.toNat 32 - Int.toNat 0) (Int.toNat 32 - Int.toNat 0), Value.int IntKind.i64 n195] H199 (Sp.retK (fun v202 H203 =>
  dInt IntKind.i64 v202 (fun n204 =>
  wr IntKind.i64 (n201 + n204) (fun n205 =>
  wr IntKind.i64 (n13 + n205) (fun n206 =>
  ld H203 (Addr.mk r1 0 none) (fun v207 =>
  ld H203 (Addr.mk r1 1 none) (fun v208 =>
  ld H203 (Addr.mk r1 2 none) (fun v209 =>
  ld H203 (Addr.mk r132 0 none) (fun v210 =>
  ld H203 (Addr.mk r132 1 none) (fun v211 =>
  ld H203 (Addr.mk r132 2 none) (fun v212 =>
  ld H203 (Addr.mk r132 3 none) (fun v213 =>
  ld H203 (Addr.mk r132 4 none) (fun v214 =>
  ld H203 (Addr.mk r132 5 none) (fun v215 =>
  ld H203 (Addr.mk r132 6 none) (fun v216 =>
  ld H203 (Addr.mk r132 7 none) (fun v217 =>
  ld H203 (Addr.mk r132 8 none) (fun v218 =>
  ld H203 (Addr.mk r132 9 none) (fun v219 =>
  ld H203 (Addr.mk r132 10 none) (fun v220 =>
  ld H203 (Addr.mk r132 11 none) (fun v221 =>
  ld H203 (Addr.mk r132 12 none) (fun v222 =>
  ld H203 (Addr.mk r132 13 none) (fun v223 =>
  ld H203 (Addr.mk r132 14 none) (fun v224 =>
  ld H203 (Addr.mk r132 15 none) (fun v225 =>
  ld H203 (Addr.mk r132 16 none) (fun v226 =>
  ld H203 (Addr.mk r132 17 none) (fun v227 =>
  ld H203 (Addr.mk r132 18 none) (fun v228 =>
  ld H203 (Addr.mk r132 19 none) (fun v229 =>
  ld H203 (Addr.mk r132 20 none) (fun v230 =>
  ld H203 (Addr.mk r132 21 none) (fun v231 =>
  ld H203 (Addr.mk r132 22 none) (fun v232 =>
  ld H203 (Addr.mk r132 23 none) (fun v233 =>
  ld H203 (Addr.mk r132 24 none) (fun v234 =>
  ld H203 (Addr.mk r132 25 none) (fun v235 =>
  ld H203 (Addr.mk r132 26 none) (fun v236 =>
  ld H203 (Addr.mk r132 27 none) (fun v237 =>
  ld H203 (Addr.mk r132 28 none) (fun v238 =>
  ld H203 (Addr.mk r132 29 none) (fun v239 =>
  ld H203 (Addr.mk r132 30 none) (fun v240 =>
  ld H203 (Addr.mk r132 31 none) (fun v241 =>
  ld H203 (Addr.mk r132 32 none) (fun v242 =>
  ld H203 (Addr.mk r132 33 none) (fun v243 =>
  ld H203 (Addr.mk r132 34 none) (fun v244 =>
  ld H203 (Addr.mk r132 35 none) (fun v245 =>
  ld H203 (Addr.mk r132 36 none) (fun v246 =>
  ld H203 (Addr.mk r132 37 none) (fun v247 =>
  ld H203 (Addr.mk r132 38 none) (fun v248 =>
  ld H203 (Addr.mk r132 39 none) (fun v249 =>
  ld H203 (Addr.mk r132 40 none) (fun v250 =>
  HCalls Tryz.prog 93 #[Value.agg #[v207, v208, v209], Value.agg #[v210, v211, v212, v213, v214, v215, v216, v217, v218, v219, v220, v221, v222, v223, v224, v225, v226, v227, v228, v229, v230, v231, v232, v233, v234, v235, v236, v237, v238, v239, v240, v241, v242, v243, v244, v245, v246, v247, v248, v249, v250]] H203 (Sp.retK (fun v251 H252 =>
  dT 2 v251 (fun v253 v254 =>
  dInt IntKind.i64 v253 (fun n255 =>
  dInt IntKind.i64 v254 (fun n256 =>
  wr IntKind.i64 (n14 + n256) (fun n257 =>
  wr IntKind.i64 (n15 + 1) (fun n258 =>
  (I11 ([Value.int IntKind.i64 n206, Value.int IntKind.i64 n257, Value.int IntKind.i64 n258]) H252) ∧
  (I12 [Value.int IntKind.i64 n206, Value.int IntKind.i64 n257, Value.int IntKind.i64 n258] H252) < (I12 [Value.int IntKind.i64 n13, Value.int IntKind.i64 n14, Value.int IntKind.i64 n15] H81))))))) (pnR R)))))))))))))))))))))))))))))))))))))))))))))))))) nopR)))) nopR))))))))) (pnR R)))))))))) (pnR R)))))))))))))))))))))))))))))))))))))))))))))))))))) (pnR R)))))) (R (Ending.returned (Value.tuple #[Value.int IntKind.i64 n13, Value.int IntKind.i64 n14, Value.int IntKind.i64 0])) H81)))))) (pnR R))))))
theorem F39_eq (x0 : Option Addr) (x1_0 : Value) (x1_1 : Value) (x1_2 : Value) (R : Ending → Heap → Prop) (H : Heap) : F39 x0 x1_0 x1_1 x1_2 R H = vc Tryz.prog (codeOf Tryz.f39) (.node none .leaf (.node none .leaf (.node none .leaf (.node none .leaf (.node none (.node none .leaf (.node none (.node (some ⟨[(8, 3), (9, 3), (29, 3)], [4, 5, 6, 10, 11, 12, 13, 14, 15, 16, 17, 18, 19, 20, 30, 31, 32, 33, 34, 35, 36, 37, 38, 39, 40, 41, 42, 43, 44, 45, 46, 47, 48, 49, 50, 51, 52, 53, 54, 55, 56, 57, 58, 59, 60, 61, 62, 63, 64, 65, 66, 67, 68, 69, 70, 71, 72, 73, 74, 75, 76, 77, 78, 79, 80]⟩) .leaf .leaf) .leaf)) .leaf))))) (postV Tryz.prog Tryz.f39 R) ⟨#[Value.pointer x0, Value.agg #[x1_0, x1_1, x1_2]] ++ Array.replicate (Tryz.f39.ntmps - 2) undef, []⟩ H := by kernel_rfl
theorem F39_calls {R : Ending → Heap → Prop} {H : Heap} (x0 : Option Addr) (x1_0 : Value) (x1_1 : Value) (x1_2 : Value) (h : F39 x0 x1_0 x1_1 x1_2 R H) : HCalls Tryz.prog 39 #[Value.pointer x0, Value.agg #[x1_0, x1_1, x1_2]] H R :=
  calls_by (F := F39 x0 x1_0 x1_1 x1_2 R H) (.node none .leaf (.node none .leaf (.node none .leaf (.node none .leaf (.node none (.node none .leaf (.node none (.node (some ⟨[(8, 3), (9, 3), (29, 3)], [4, 5, 6, 10, 11, 12, 13, 14, 15, 16, 17, 18, 19, 20, 30, 31, 32, 33, 34, 35, 36, 37, 38, 39, 40, 41, 42, 43, 44, 45, 46, 47, 48, 49, 50, 51, 52, 53, 54, 55, 56, 57, 58, 59, 60, 61, 62, 63, 64, 65, 66, 67, 68, 69, 70, 71, 72, 73, 74, 75, 76, 77, 78, 79, 80]⟩) .leaf .leaf) .leaf)) .leaf))))) Tryz.func39 rfl (F39_eq x0 x1_0 x1_1 x1_2 R H) h
/-- bollard/alloc.HasBlock -/
def F41 (x0 : Option Addr) (x1_0 : Value) (x1_1 : Value) (x1_2 : Value) (x2 : Int) (R : Ending → Heap → Prop) (H : Heap) : Prop :=
  al H (Obj.cells #[x1_0, x1_1, x1_2] 32) (fun r1 H2 =>
  ld H2 (Addr.mk r1 0 none) (fun v3 =>
  ld H2 (Addr.mk r1 1 none) (fun v4 =>
  ld H2 (Addr.mk r1 2 none) (fun v5 =>
  HCalls Tryz.prog 74 #[Value.pointer x0, Value.agg #[v3, v4, v5]] H2 (Sp.retK (fun v6 H7 =>
  dInt IntKind.i64 v6 (fun n8 =>
  sB (n8 != 0) (R (Ending.returned (Value.tuple #[Value.bool false, Value.int IntKind.i64 n8])) H7) (ld H7 (Addr.mk r1 0 none) (fun v9 =>
  ld H7 (Addr.mk r1 1 none) (fun v10 =>
  ld H7 (Addr.mk r1 2 none) (fun v11 =>
  HCalls Tryz.prog 94 #[Value.agg #[v9, v10, v11], Value.int IntKind.i64 x2] H7 (Sp.retK (fun v12 H13 =>
  dBl v12 (fun b14 =>
  sB (!b14) (R (Ending.returned (Value.tuple #[Value.bool false, Value.int IntKind.i64 90])) H13) (ld H13 (Addr.mk r1 0 none) (fun v15 =>
  ld H13 (Addr.mk r1 1 none) (fun v16 =>
  ld H13 (Addr.mk r1 2 none) (fun v17 =>
  HCalls Tryz.prog 78 #[Value.agg #[v15, v16, v17], Value.int IntKind.i64 x2] H13 (Sp.retK (fun v18 H19 =>
  dT 3 v18 (fun v20 v21 v22 =>
  dInt IntKind.i64 v20 (fun n23 =>
  dInt IntKind.i64 v21 (fun n24 =>
  dBl v22 (fun b25 =>
  ld H19 (Addr.mk r1 0 none) (fun v26 =>
  ld H19 (Addr.mk r1 1 none) (fun v27 =>
  ld H19 (Addr.mk r1 2 none) (fun v28 =>
  HCalls Tryz.prog 95 #[Value.pointer x0, Value.agg #[v26, v27, v28], Value.int IntKind.i64 n23, Value.int IntKind.i64 n24, Value.int IntKind.i64 12] H19 (Sp.retK (fun v29 H30 =>
  dT 3 v29 (fun v31 v32 v33 =>
  dA 41 v31 (fun v34 v35 v36 v37 v38 v39 v40 v41 v42 v43 v44 v45 v46 v47 v48 v49 v50 v51 v52 v53 v54 v55 v56 v57 v58 v59 v60 v61 v62 v63 v64 v65 v66 v67 v68 v69 v70 v71 v72 v73 v74 =>
  dBl v32 (fun b75 =>
  dInt IntKind.i64 v33 (fun n76 =>
  al H30 (Obj.cells #[Value.int IntKind.i64 0, Value.int IntKind.u8 0, Value.int IntKind.u8 0, Value.int IntKind.u8 0, Value.int IntKind.u8 0, Value.int IntKind.u8 0, Value.int IntKind.u8 0, Value.int IntKind.u8 0, Value.int IntKind.u8 0, Value.int IntKind.u8 0, Value.int IntKind.u8 0, Value.int IntKind.u8 0, Value.int IntKind.u8 0, Value.int IntKind.u8 0, Value.int IntKind.u8 0, Value.int IntKind.u8 0, Value.int IntKind.u8 0, Value.int IntKind.u8 0, Value.int IntKind.u8 0, Value.int IntKind.u8 0, Value.int IntKind.u8 0, Value.int IntKind.u8 0, Value.int IntKind.u8 0, Value.int IntKind.u8 0, Value.int IntKind.u8 0, Value.int IntKind.u8 0, Value.int IntKind.u8 0, Value.int IntKind.u8 0, Value.int IntKind.u8 0, Value.int IntKind.u8 0, Value.int IntKind.u8 0, Value.int IntKind.u8 0, Value.int IntKind.u8 0, Value.int IntKind.u8 0, Value.int IntKind.u8 0, Value.int IntKind.u8 0, Value.int IntKind.u8 0, Value.int IntKind.u8 0, Value.int IntKind.u8 0, Value.int IntKind.u8 0, Value.int IntKind.u8 0] 77) (fun r77 H78 =>
  st H78 (Addr.mk r77 0 none) v34 (fun H79 =>
  st H79 (Addr.mk r77 1 none) v35 (fun H80 =>
  st H80 (Addr.mk r77 2 none) v36 (fun H81 =>
  st H81 (Addr.mk r77 3 none) v37 (fun H82 =>
  st H82 (Addr.mk r77 4 none) v38 (fun H83 =>
  st H83 (Addr.mk r77 5 none) v39 (fun H84 =>
  st H84 (Addr.mk r77 6 none) v40 (fun H85 =>
  st H85 (Addr.mk r77 7 none) v41 (fun H86 =>
  st H86 (Addr.mk r77 8 none) v42 (fun H87 =>
  st H87 (Addr.mk r77 9 none) v43 (fun H88 =>
  st H88 (Addr.mk r77 10 none) v44 (fun H89 =>
  st H89 (Addr.mk r77 11 none) v45 (fun H90 =>
  st H90 (Addr.mk r77 12 none) v46 (fun H91 =>
  st H91 (Addr.mk r77 13 none) v47 (fun H92 =>
  st H92 (Addr.mk r77 14 none) v48 (fun H93 =>
  st H93 (Addr.mk r77 15 none) v49 (fun H94 =>
  st H94 (Addr.mk r77 16 none) v50 (fun H95 =>
  st H95 (Addr.mk r77 17 none) v51 (fun H96 =>
  st H96 (Addr.mk r77 18 none) v52 (fun H97 =>
  st H97 (Addr.mk r77 19 none) v53 (fun H98 =>
  st H98 (Addr.mk r77 20 none) v54 (fun H99 =>
  st H99 (Addr.mk r77 21 none) v55 (fun H100 =>
  st H100 (Addr.mk r77 22 none) v56 (fun H101 =>
  st H101 (Addr.mk r77 23 none) v57 (fun H102 =>
  st H102 (Addr.mk r77 24 none) v58 (fun H103 =>
  st H103 (Addr.mk r77 25 none) v59 (fun H104 =>
  st H104 (Addr.mk r77 26 none) v60 (fun H105 =>
  st H105 (Addr.mk r77 27 none) v61 (fun H106 =>
  st H106 (Addr.mk r77 28 none) v62 (fun H107 =>
  st H107 (Addr.mk r77 29 none) v63 (fun H108 =>
  st H108 (Addr.mk r77 30 none) v64 (fun H109 =>
  st H109 (Addr.mk r77 31 none) v65 (fun H110 =>
  st H110 (Addr.mk r77 32 none) v66 (fun H111 =>
  st H111 (Addr.mk r77 33 none) v67 (fun H112 =>
  st H112 (Addr.mk r77 34 none) v68 (fun H113 =>
  st H113 (Addr.mk r77 35 none) v69 (fun H114 =>
  st H114 (Addr.mk r77 36 none) v70 (fun H115 =>
  st H115 (Addr.mk r77 37 none) v71 (fun H116 =>
  st H116 (Addr.mk r77 38 none) v72 (fun H117 =>
  st H117 (Addr.mk r77 39 none) v73 (fun H118 =>
  st H118 (Addr.mk r77 40 none) v74 (fun H119 =>
  R (Ending.returned (Value.tuple #[Value.bool b75, Value.int IntKind.i64 n76])) H119))))))))))))))))))))))))))))))))))))))))))))))) (pnR R)))))))))) (pnR R)))))))) (pnR R)))))))) (pnR R))))))
theorem F41_eq (x0 : Option Addr) (x1_0 : Value) (x1_1 : Value) (x1_2 : Value) (x2 : Int) (R : Ending → Heap → Prop) (H : Heap) : F41 x0 x1_0 x1_1 x1_2 x2 R H = vc Tryz.prog (codeOf Tryz.f41) .leaf (postV Tryz.prog Tryz.f41 R) ⟨#[Value.pointer x0, Value.agg #[x1_0, x1_1, x1_2], Value.int IntKind.i64 x2] ++ Array.replicate (Tryz.f41.ntmps - 3) undef, []⟩ H := by kernel_rfl
theorem F41_calls {R : Ending → Heap → Prop} {H : Heap} (x0 : Option Addr) (x1_0 : Value) (x1_1 : Value) (x1_2 : Value) (x2 : Int) (h : F41 x0 x1_0 x1_1 x1_2 x2 R H) : HCalls Tryz.prog 41 #[Value.pointer x0, Value.agg #[x1_0, x1_1, x1_2], Value.int IntKind.i64 x2] H R :=
  calls_by (F := F41 x0 x1_0 x1_1 x1_2 x2 R H) .leaf Tryz.func41 rfl (F41_eq x0 x1_0 x1_1 x1_2 x2 R H) h
end Go.Proofs.YtngploohhmfaiaaGreat.E
/- The functions' forms in the engine's words, printed by my own program. -/
namespace Go.Proofs.YtngploohhmfaiaaGreat.E
open Go Go.Proofs
set_option linter.unusedVariables false
/-- bollard/alloc.HasInode -/
def F50 (x0 : Option Addr) (x1_0 : Value) (x1_1 : Value) (x1_2 : Value) (x2 : Int) (R : Ending → Heap → Prop) (H : Heap) : Prop :=
  al H (Obj.cells #[x1_0, x1_1, x1_2] 32) (fun r1 H2 =>
  ld H2 (Addr.mk r1 0 none) (fun v3 =>
  ld H2 (Addr.mk r1 1 none) (fun v4 =>
  ld H2 (Addr.mk r1 2 none) (fun v5 =>
  HCalls Tryz.prog 74 #[Value.pointer x0, Value.agg #[v3, v4, v5]] H2 (Sp.retK (fun v6 H7 =>
  dInt IntKind.i64 v6 (fun n8 =>
  sB (n8 != 0) (R (Ending.returned (Value.tuple #[Value.bool false, Value.int IntKind.i64 n8])) H7) (ld H7 (Addr.mk r1 0 none) (fun v9 =>
  ld H7 (Addr.mk r1 1 none) (fun v10 =>
  ld H7 (Addr.mk r1 2 none) (fun v11 =>
  HCalls Tryz.prog 104 #[Value.agg #[v9, v10, v11], Value.int IntKind.i64 x2] H7 (Sp.retK (fun v12 H13 =>
  dT 3 v12 (fun v14 v15 v16 =>
  dInt IntKind.i64 v14 (fun n17 =>
  dInt IntKind.i64 v15 (fun n18 =>
  dBl v16 (fun b19 =>
  sB (!b19) (R (Ending.returned (Value.tuple #[Value.bool false, Value.int IntKind.i64 130])) H13) (ld H13 (Addr.mk r1 0 none) (fun v20 =>
  ld H13 (Addr.mk r1 1 none) (fun v21 =>
  ld H13 (Addr.mk r1 2 none) (fun v22 =>
  HCalls Tryz.prog 95 #[Value.pointer x0, Value.agg #[v20, v21, v22], Value.int IntKind.i64 n17, Value.int IntKind.i64 n18, Value.int IntKind.i64 4] H13 (Sp.retK (fun v23 H24 =>
  dT 3 v23 (fun v25 v26 v27 =>
  dA 41 v25 (fun v28 v29 v30 v31 v32 v33 v34 v35 v36 v37 v38 v39 v40 v41 v42 v43 v44 v45 v46 v47 v48 v49 v50 v51 v52 v53 v54 v55 v56 v57 v58 v59 v60 v61 v62 v63 v64 v65 v66 v67 v68 =>
  dBl v26 (fun b69 =>
  dInt IntKind.i64 v27 (fun n70 =>
  al H24 (Obj.cells #[Value.int IntKind.i64 0, Value.int IntKind.u8 0, Value.int IntKind.u8 0, Value.int IntKind.u8 0, Value.int IntKind.u8 0, Value.int IntKind.u8 0, Value.int IntKind.u8 0, Value.int IntKind.u8 0, Value.int IntKind.u8 0, Value.int IntKind.u8 0, Value.int IntKind.u8 0, Value.int IntKind.u8 0, Value.int IntKind.u8 0, Value.int IntKind.u8 0, Value.int IntKind.u8 0, Value.int IntKind.u8 0, Value.int IntKind.u8 0, Value.int IntKind.u8 0, Value.int IntKind.u8 0, Value.int IntKind.u8 0, Value.int IntKind.u8 0, Value.int IntKind.u8 0, Value.int IntKind.u8 0, Value.int IntKind.u8 0, Value.int IntKind.u8 0, Value.int IntKind.u8 0, Value.int IntKind.u8 0, Value.int IntKind.u8 0, Value.int IntKind.u8 0, Value.int IntKind.u8 0, Value.int IntKind.u8 0, Value.int IntKind.u8 0, Value.int IntKind.u8 0, Value.int IntKind.u8 0, Value.int IntKind.u8 0, Value.int IntKind.u8 0, Value.int IntKind.u8 0, Value.int IntKind.u8 0, Value.int IntKind.u8 0, Value.int IntKind.u8 0, Value.int IntKind.u8 0] 77) (fun r71 H72 =>
  st H72 (Addr.mk r71 0 none) v28 (fun H73 =>
  st H73 (Addr.mk r71 1 none) v29 (fun H74 =>
  st H74 (Addr.mk r71 2 none) v30 (fun H75 =>
  st H75 (Addr.mk r71 3 none) v31 (fun H76 =>
  st H76 (Addr.mk r71 4 none) v32 (fun H77 =>
  st H77 (Addr.mk r71 5 none) v33 (fun H78 =>
  st H78 (Addr.mk r71 6 none) v34 (fun H79 =>
  st H79 (Addr.mk r71 7 none) v35 (fun H80 =>
  st H80 (Addr.mk r71 8 none) v36 (fun H81 =>
  st H81 (Addr.mk r71 9 none) v37 (fun H82 =>
  st H82 (Addr.mk r71 10 none) v38 (fun H83 =>
  st H83 (Addr.mk r71 11 none) v39 (fun H84 =>
  st H84 (Addr.mk r71 12 none) v40 (fun H85 =>
  st H85 (Addr.mk r71 13 none) v41 (fun H86 =>
  st H86 (Addr.mk r71 14 none) v42 (fun H87 =>
  st H87 (Addr.mk r71 15 none) v43 (fun H88 =>
  st H88 (Addr.mk r71 16 none) v44 (fun H89 =>
  st H89 (Addr.mk r71 17 none) v45 (fun H90 =>
  st H90 (Addr.mk r71 18 none) v46 (fun H91 =>
  st H91 (Addr.mk r71 19 none) v47 (fun H92 =>
  st H92 (Addr.mk r71 20 none) v48 (fun H93 =>
  st H93 (Addr.mk r71 21 none) v49 (fun H94 =>
  st H94 (Addr.mk r71 22 none) v50 (fun H95 =>
  st H95 (Addr.mk r71 23 none) v51 (fun H96 =>
  st H96 (Addr.mk r71 24 none) v52 (fun H97 =>
  st H97 (Addr.mk r71 25 none) v53 (fun H98 =>
  st H98 (Addr.mk r71 26 none) v54 (fun H99 =>
  st H99 (Addr.mk r71 27 none) v55 (fun H100 =>
  st H100 (Addr.mk r71 28 none) v56 (fun H101 =>
  st H101 (Addr.mk r71 29 none) v57 (fun H102 =>
  st H102 (Addr.mk r71 30 none) v58 (fun H103 =>
  st H103 (Addr.mk r71 31 none) v59 (fun H104 =>
  st H104 (Addr.mk r71 32 none) v60 (fun H105 =>
  st H105 (Addr.mk r71 33 none) v61 (fun H106 =>
  st H106 (Addr.mk r71 34 none) v62 (fun H107 =>
  st H107 (Addr.mk r71 35 none) v63 (fun H108 =>
  st H108 (Addr.mk r71 36 none) v64 (fun H109 =>
  st H109 (Addr.mk r71 37 none) v65 (fun H110 =>
  st H110 (Addr.mk r71 38 none) v66 (fun H111 =>
  st H111 (Addr.mk r71 39 none) v67 (fun H112 =>
  st H112 (Addr.mk r71 40 none) v68 (fun H113 =>
  R (Ending.returned (Value.tuple #[Value.bool b69, Value.int IntKind.i64 n70])) H113))))))))))))))))))))))))))))))))))))))))))))))) (pnR R))))))))))) (pnR R)))))))) (pnR R))))))
theorem F50_eq (x0 : Option Addr) (x1_0 : Value) (x1_1 : Value) (x1_2 : Value) (x2 : Int) (R : Ending → Heap → Prop) (H : Heap) : F50 x0 x1_0 x1_1 x1_2 x2 R H = vc Tryz.prog (codeOf Tryz.f50) .leaf (postV Tryz.prog Tryz.f50 R) ⟨#[Value.pointer x0, Value.agg #[x1_0, x1_1, x1_2], Value.int IntKind.i64 x2] ++ Array.replicate (Tryz.f50.ntmps - 3) undef, []⟩ H := by kernel_rfl
theorem F50_calls {R : Ending → Heap → Prop} {H : Heap} (x0 : Option Addr) (x1_0 : Value) (x1_1 : Value) (x1_2 : Value) (x2 : Int) (h : F50 x0 x1_0 x1_1 x1_2 x2 R H) : HCalls Tryz.prog 50 #[Value.pointer x0, Value.agg #[x1_0, x1_1, x1_2], Value.int IntKind.i64 x2] H R :=
  calls_by (F := F50 x0 x1_0 x1_1 x1_2 x2 R H) .leaf Tryz.func50 rfl (F50_eq x0 x1_0 x1_1 x1_2 x2 R H) h
set_option maxRecDepth 8000
end Go.Proofs.YtngploohhmfaiaaGreat.E
/- The functions' forms in the engine's words, printed by my own program. -/
namespace Go.Proofs.YtngploohhmfaiaaGreat.E
open Go Go.Proofs
set_option linter.unusedVariables false
/-- bollard/alloc.Header -/
def F27 (x0 : Option Addr) (x1_0 : Value) (x1_1 : Value) (x1_2 : Value) (x2 : Int) (R : Ending → Heap → Prop) (H : Heap) : Prop :=
  al H (Obj.cells #[x1_0, x1_1, x1_2] 32) (fun r1 H2 =>
  al H2 (Obj.cells #[Value.int IntKind.i64 0, Value.int IntKind.u8 0, Value.int IntKind.u8 0, Value.int IntKind.u8 0, Value.int IntKind.u8 0, Value.int IntKind.u8 0, Value.int IntKind.u8 0, Value.int IntKind.u8 0, Value.int IntKind.u8 0, Value.int IntKind.u8 0, Value.int IntKind.u8 0, Value.int IntKind.u8 0, Value.int IntKind.u8 0, Value.int IntKind.u8 0, Value.int IntKind.u8 0, Value.int IntKind.u8 0, Value.int IntKind.u8 0, Value.int IntKind.u8 0, Value.int IntKind.u8 0, Value.int IntKind.u8 0, Value.int IntKind.u8 0, Value.int IntKind.u8 0, Value.int IntKind.u8 0, Value.int IntKind.u8 0, Value.int IntKind.u8 0, Value.int IntKind.u8 0, Value.int IntKind.u8 0, Value.int IntKind.u8 0, Value.int IntKind.u8 0, Value.int IntKind.u8 0, Value.int IntKind.u8 0, Value.int IntKind.u8 0, Value.int IntKind.u8 0, Value.int IntKind.u8 0, Value.int IntKind.u8 0, Value.int IntKind.u8 0, Value.int IntKind.u8 0, Value.int IntKind.u8 0, Value.int IntKind.u8 0, Value.int IntKind.u8 0, Value.int IntKind.u8 0] 77) (fun r3 H4 =>
  ld H4 (Addr.mk r1 0 none) (fun v5 =>
  ld H4 (Addr.mk r1 1 none) (fun v6 =>
  ld H4 (Addr.mk r1 2 none) (fun v7 =>
  HCalls Tryz.prog 74 #[Value.pointer x0, Value.agg #[v5, v6, v7]] H4 (Sp.retK (fun v8 H9 =>
  dInt IntKind.i64 v8 (fun n10 =>
  sB (n10 != 0) (st H9 (Addr.mk r3 0 none) (Value.int IntKind.i64 0) (fun H11 =>
  st H11 (Addr.mk r3 1 none) (Value.int IntKind.u8 0) (fun H12 =>
  st H12 (Addr.mk r3 2 none) (Value.int IntKind.u8 0) (fun H13 =>
  st H13 (Addr.mk r3 3 none) (Value.int IntKind.u8 0) (fun H14 =>
  st H14 (Addr.mk r3 4 none) (Value.int IntKind.u8 0) (fun H15 =>
  st H15 (Addr.mk r3 5 none) (Value.int IntKind.u8 0) (fun H16 =>
  st H16 (Addr.mk r3 6 none) (Value.int IntKind.u8 0) (fun H17 =>
  st H17 (Addr.mk r3 7 none) (Value.int IntKind.u8 0) (fun H18 =>
  st H18 (Addr.mk r3 8 none) (Value.int IntKind.u8 0) (fun H19 =>
  st H19 (Addr.mk r3 9 none) (Value.int IntKind.u8 0) (fun H20 =>
  st H20 (Addr.mk r3 10 none) (Value.int IntKind.u8 0) (fun H21 =>
  st H21 (Addr.mk r3 11 none) (Value.int IntKind.u8 0) (fun H22 =>
  st H22 (Addr.mk r3 12 none) (Value.int IntKind.u8 0) (fun H23 =>
  st H23 (Addr.mk r3 13 none) (Value.int IntKind.u8 0) (fun H24 =>
  st H24 (Addr.mk r3 14 none) (Value.int IntKind.u8 0) (fun H25 =>
  st H25 (Addr.mk r3 15 none) (Value.int IntKind.u8 0) (fun H26 =>
  st H26 (Addr.mk r3 16 none) (Value.int IntKind.u8 0) (fun H27 =>
  st H27 (Addr.mk r3 17 none) (Value.int IntKind.u8 0) (fun H28 =>
  st H28 (Addr.mk r3 18 none) (Value.int IntKind.u8 0) (fun H29 =>
  st H29 (Addr.mk r3 19 none) (Value.int IntKind.u8 0) (fun H30 =>
  st H30 (Addr.mk r3 20 none) (Value.int IntKind.u8 0) (fun H31 =>
  st H31 (Addr.mk r3 21 none) (Value.int IntKind.u8 0) (fun H32 =>
  st H32 (Addr.mk r3 22 none) (Value.int IntKind.u8 0) (fun H33 =>
  st H33 (Addr.mk r3 23 none) (Value.int IntKind.u8 0) (fun H34 =>
  st H34 (Addr.mk r3 24 none) (Value.int IntKind.u8 0) (fun H35 =>
  st H35 (Addr.mk r3 25 none) (Value.int IntKind.u8 0) (fun H36 =>
  st H36 (Addr.mk r3 26 none) (Value.int IntKind.u8 0) (fun H37 =>
  st H37 (Addr.mk r3 27 none) (Value.int IntKind.u8 0) (fun H38 =>
  st H38 (Addr.mk r3 28 none) (Value.int IntKind.u8 0) (fun H39 =>
  st H39 (Addr.mk r3 29 none) (Value.int IntKind.u8 0) (fun H40 =>
  st H40 (Addr.mk r3 30 none) (Value.int IntKind.u8 0) (fun H41 =>
  st H41 (Addr.mk r3 31 none) (Value.int IntKind.u8 0) (fun H42 =>
  st H42 (Addr.mk r3 32 none) (Value.int IntKind.u8 0) (fun H43 =>
  st H43 (Addr.mk r3 33 none) (Value.int IntKind.u8 0) (fun H44 =>
  st H44 (Addr.mk r3 34 none) (Value.int IntKind.u8 0) (fun H45 =>
  st H45 (Addr.mk r3 35 none) (Value.int IntKind.u8 0) (fun H46 =>
  st H46 (Addr.mk r3 36 none) (Value.int IntKind.u8 0) (fun H47 =>
  st H47 (Addr.mk r3 37 none) (Value.int IntKind.u8 0) (fun H48 =>
  st H48 (Addr.mk r3 38 none) (Value.int IntKind.u8 0) (fun H49 =>
  st H49 (Addr.mk r3 39 none) (Value.int IntKind.u8 0) (fun H50 =>
  st H50 (Addr.mk r3 40 none) (Value.int IntKind.u8 0) (fun H51 =>
  ld H51 (Addr.mk r3 0 none) (fun v52 =>
  ld H51 (Addr.mk r3 1 none) (fun v53 =>
  ld H51 (Addr.mk r3 2 none) (fun v54 =>
  ld H51 (Addr.mk r3 3 none) (fun v55 =>
  ld H51 (Addr.mk r3 4 none) (fun v56 =>
  ld H51 (Addr.mk r3 5 none) (fun v57 =>
  ld H51 (Addr.mk r3 6 none) (fun v58 =>
  ld H51 (Addr.mk r3 7 none) (fun v59 =>
  ld H51 (Addr.mk r3 8 none) (fun v60 =>
  ld H51 (Addr.mk r3 9 none) (fun v61 =>
  ld H51 (Addr.mk r3 10 none) (fun v62 =>
  ld H51 (Addr.mk r3 11 none) (fun v63 =>
  ld H51 (Addr.mk r3 12 none) (fun v64 =>
  ld H51 (Addr.mk r3 13 none) (fun v65 =>
  ld H51 (Addr.mk r3 14 none) (fun v66 =>
  ld H51 (Addr.mk r3 15 none) (fun v67 =>
  ld H51 (Addr.mk r3 16 none) (fun v68 =>
  ld H51 (Addr.mk r3 17 none) (fun v69 =>
  ld H51 (Addr.mk r3 18 none) (fun v70 =>
  ld H51 (Addr.mk r3 19 none) (fun v71 =>
  ld H51 (Addr.mk r3 20 none) (fun v72 =>
  ld H51 (Addr.mk r3 21 none) (fun v73 =>
  ld H51 (Addr.mk r3 22 none) (fun v74 =>
  ld H51 (Addr.mk r3 23 none) (fun v75 =>
  ld H51 (Addr.mk r3 24 none) (fun v76 =>
  ld H51 (Addr.mk r3 25 none) (fun v77 =>
  ld H51 (Addr.mk r3 26 none) (fun v78 =>
  ld H51 (Addr.mk r3 27 none) (fun v79 =>
  ld H51 (Addr.mk r3 28 none) (fun v80 =>
  ld H51 (Addr.mk r3 29 none) (fun v81 =>
  ld H51 (Addr.mk r3 30 none) (fun v82 =>
  ld H51 (Addr.mk r3 31 none) (fun v83 =>
  ld H51 (Addr.mk r3 32 none) (fun v84 =>
  ld H51 (Addr.mk r3 33 none) (fun v85 =>
  ld H51 (Addr.mk r3 34 none) (fun v86 =>
  ld H51 (Addr.mk r3 35 none) (fun v87 =>
  ld H51 (Addr.mk r3 36 none) (fun v88 =>
  ld H51 (Addr.mk r3 37 none) (fun v89 =>
  ld H51 (Addr.mk r3 38 none) (fun v90 =>
  ld H51 (Addr.mk r3 39 none) (fun v91 =>
  ld H51 (Addr.mk r3 40 none) (fun v92 =>
  R (Ending.returned (Value.tuple #[Value.agg #[v52, v53, v54, v55, v56, v57, v58, v59, v60, v61, v62, v63, v64, v65, v66, v67, v68, v69, v70, v71, v72, v73, v74, v75, v76, v77, v78, v79, v80, v81, v82, v83, v84, v85, v86, v87, v88, v89, v90, v91, v92], Value.int IntKind.i64 n10])) H51))))))))))))))))))))))))))))))))))))))))))))))))))))))))))))))))))))))))))))))))))) (ld H9 (Addr.mk r1 0 none) (fun v93 =>
  ld H9 (Addr.mk r1 1 none) (fun v94 =>
  ld H9 (Addr.mk r1 2 none) (fun v95 =>
  HCalls Tryz.prog 75 #[Value.pointer x0, Value.agg #[v93, v94, v95], Value.int IntKind.i64 x2] H9 (Sp.retK (fun v96 H97 =>
  dT 2 v96 (fun v98 v99 =>
  dA 41 v98 (fun v100 v101 v102 v103 v104 v105 v106 v107 v108 v109 v110 v111 v112 v113 v114 v115 v116 v117 v118 v119 v120 v121 v122 v123 v124 v125 v126 v127 v128 v129 v130 v131 v132 v133 v134 v135 v136 v137 v138 v139 v140 =>
  dInt IntKind.i64 v99 (fun n141 =>
  st H97 (Addr.mk r3 0 none) v100 (fun H142 =>
  st H142 (Addr.mk r3 1 none) v101 (fun H143 =>
  st H143 (Addr.mk r3 2 none) v102 (fun H144 =>
  st H144 (Addr.mk r3 3 none) v103 (fun H145 =>
  st H145 (Addr.mk r3 4 none) v104 (fun H146 =>
  st H146 (Addr.mk r3 5 none) v105 (fun H147 =>
  st H147 (Addr.mk r3 6 none) v106 (fun H148 =>
  st H148 (Addr.mk r3 7 none) v107 (fun H149 =>
  st H149 (Addr.mk r3 8 none) v108 (fun H150 =>
  st H150 (Addr.mk r3 9 none) v109 (fun H151 =>
  st H151 (Addr.mk r3 10 none) v110 (fun H152 =>
  st H152 (Addr.mk r3 11 none) v111 (fun H153 =>
  st H153 (Addr.mk r3 12 none) v112 (fun H154 =>
  st H154 (Addr.mk r3 13 none) v113 (fun H155 =>
  st H155 (Addr.mk r3 14 none) v114 (fun H156 =>
  st H156 (Addr.mk r3 15 none) v115 (fun H157 =>
  st H157 (Addr.mk r3 16 none) v116 (fun H158 =>
  st H158 (Addr.mk r3 17 none) v117 (fun H159 =>
  st H159 (Addr.mk r3 18 none) v118 (fun H160 =>
  st H160 (Addr.mk r3 19 none) v119 (fun H161 =>
  st H161 (Addr.mk r3 20 none) v120 (fun H162 =>
  st H162 (Addr.mk r3 21 none) v121 (fun H163 =>
  st H163 (Addr.mk r3 22 none) v122 (fun H164 =>
  st H164 (Addr.mk r3 23 none) v123 (fun H165 =>
  st H165 (Addr.mk r3 24 none) v124 (fun H166 =>
  st H166 (Addr.mk r3 25 none) v125 (fun H167 =>
  st H167 (Addr.mk r3 26 none) v126 (fun H168 =>
  st H168 (Addr.mk r3 27 none) v127 (fun H169 =>
  st H169 (Addr.mk r3 28 none) v128 (fun H170 =>
  st H170 (Addr.mk r3 29 none) v129 (fun H171 =>
  st H171 (Addr.mk r3 30 none) v130 (fun H172 =>
  st H172 (Addr.mk r3 31 none) v131 (fun H173 =>
  st H173 (Addr.mk r3 32 none) v132 (fun H174 =>
  st H174 (Addr.mk r3 33 none) v133 (fun H175 =>
  st H175 (Addr.mk r3 34 none) v134 (fun H176 =>
  st H176 (Addr.mk r3 35 none) v135 (fun H177 =>
  st H177 (Addr.mk r3 36 none) v136 (fun H178 =>
  st H178 (Addr.mk r3 37 none) v137 (fun H179 =>
  st H179 (Addr.mk r3 38 none) v138 (fun H180 =>
  st H180 (Addr.mk r3 39 none) v139 (fun H181 =>
  st H181 (Addr.mk r3 40 none) v140 (fun H182 =>
  ld H182 (Addr.mk r3 0 none) (fun v183 =>
  ld H182 (Addr.mk r3 1 none) (fun v184 =>
  ld H182 (Addr.mk r3 2 none) (fun v185 =>
  ld H182 (Addr.mk r3 3 none) (fun v186 =>
  ld H182 (Addr.mk r3 4 none) (fun v187 =>
  ld H182 (Addr.mk r3 5 none) (fun v188 =>
  ld H182 (Addr.mk r3 6 none) (fun v189 =>
  ld H182 (Addr.mk r3 7 none) (fun v190 =>
  ld H182 (Addr.mk r3 8 none) (fun v191 =>
  ld H182 (Addr.mk r3 9 none) (fun v192 =>
  ld H182 (Addr.mk r3 10 none) (fun v193 =>
  ld H182 (Addr.mk r3 11 none) (fun v194 =>
  ld H182 (Addr.mk r3 12 none) (fun v195 =>
  ld H182 (Addr.mk r3 13 none) (fun v196 =>
  ld H182 (Addr.mk r3 14 none) (fun v197 =>
  ld H182 (Addr.mk r3 15 none) (fun v198 =>
  ld H182 (Addr.mk r3 16 none) (fun v199 =>
  ld H182 (Addr.mk r3 17 none) (fun v200 =>
  ld H182 (Addr.mk r3 18 none) (fun v201 =>
  ld H182 (Addr.mk r3 19 none) (fun v202 =>
  ld H182 (Addr.mk r3 20 none) (fun v203 =>
  ld H182 (Addr.mk r3 21 none) (fun v204 =>
  ld H182 (Addr.mk r3 22 none) (fun v205 =>
  ld H182 (Addr.mk r3 23 none) (fun v206 =>
  ld H182 (Addr.mk r3 24 none) (fun v207 =>
  ld H182 (Addr.mk r3 25 none) (fun v208 =>
  ld H182 (Addr.mk r3 26 none) (fun v209 =>
  ld H182 (Addr.mk r3 27 none) (fun v210 =>
  ld H182 (Addr.mk r3 28 none) (fun v211 =>
  ld H182 (Addr.mk r3 29 none) (fun v212 =>
  ld H182 (Addr.mk r3 30 none) (fun v213 =>
  ld H182 (Addr.mk r3 31 none) (fun v214 =>
  ld H182 (Addr.mk r3 32 none) (fun v215 =>
  ld H182 (Addr.mk r3 33 none) (fun v216 =>
  ld H182 (Addr.mk r3 34 none) (fun v217 =>
  ld H182 (Addr.mk r3 35 none) (fun v218 =>
  ld H182 (Addr.mk r3 36 none) (fun v219 =>
  ld H182 (Addr.mk r3 37 none) (fun v220 =>
  ld H182 (Addr.mk r3 38 none) (fun v221 =>
  ld H182 (Addr.mk r3 39 none) (fun v222 =>
  ld H182 (Addr.mk r3 40 none) (fun v223 =>
  R (Ending.returned (Value.tuple #[Value.agg #[v183, v184, v185, v186, v187, v188, v189, v190, v191, v192, v193, v194, v195, v196, v197, v198, v199, v200, v201, v202, v203, v204, v205, v206, v207, v208, v209, v210, v211, v212, v213, v214, v215, v216, v217, v218, v219, v220, v221, v222, v223], Value.int IntKind.i64 n141])) H182)))))))))))))))))))))))))))))))))))))))))))))))))))))))))))))))))))))))))))))))))))))) (pnR R)))))))) (pnR R)))))))
theorem F27_eq (x0 : Option Addr) (x1_0 : Value) (x1_1 : Value) (x1_2 : Value) (x2 : Int) (R : Ending → Heap → Prop) (H : Heap) : F27 x0 x1_0 x1_1 x1_2 x2 R H = vc Tryz.prog (codeOf Tryz.f27) .leaf (postV Tryz.prog Tryz.f27 R) ⟨#[Value.pointer x0, Value.agg #[x1_0, x1_1, x1_2], Value.int IntKind.i64 x2] ++ Array.replicate (Tryz.f27.ntmps - 3) undef, []⟩ H := by kernel_rfl
theorem F27_calls {R : Ending → Heap → Prop} {H : Heap} (x0 : Option Addr) (x1_0 : Value) (x1_1 : Value) (x1_2 : Value) (x2 : Int) (h : F27 x0 x1_0 x1_1 x1_2 x2 R H) : HCalls Tryz.prog 27 #[Value.pointer x0, Value.agg #[x1_0, x1_1, x1_2], Value.int IntKind.i64 x2] H R :=
  calls_by (F := F27 x0 x1_0 x1_1 x1_2 x2 R H) .leaf Tryz.func27 rfl (F27_eq x0 x1_0 x1_1 x1_2 x2 R H) h
set_option maxRecDepth 8000
end Go.Proofs.YtngploohhmfaiaaGreat.E
/- The functions' forms in the engine's words, printed by my own program. -/
namespace Go.Proofs.YtngploohhmfaiaaGreat.E
open Go Go.Proofs
set_option linter.unusedVariables false
set_option maxRecDepth 8000
/-- bollard/alloc.Inode -/
def F40 (x0 : Option Addr) (x1_0 : Value) (x1_1 : Value) (x1_2 : Value) (x2 : Int) (x3 : Bool) (R : Ending → Heap → Prop) (H : Heap) : Prop :=
  al H (Obj.cells #[x1_0, x1_1, x1_2] 32) (fun r1 H2 =>
  ld H2 (Addr.mk r1 0 none) (fun v3 =>
  ld H2 (Addr.mk r1 1 none) (fun v4 =>
  ld H2 (Addr.mk r1 2 none) (fun v5 =>
  HCalls Tryz.prog 74 #[Value.pointer x0, Value.agg #[v3, v4, v5]] H2 (Sp.retK (fun v6 H7 =>
  dInt IntKind.i64 v6 (fun n8 =>
  sB (n8 != 0) (R (Ending.returned (Value.tuple #[Value.int IntKind.i64 0, Value.int IntKind.i64 0, Value.int IntKind.i64 n8])) H7) (jn (α := VFH 1) (fun v9 H10 =>
  ∀ v11 v12 v13 v14 v15 v16 v17 v18 : Value,
  dBl v9 (fun b19 =>
  sB b19 (R (Ending.returned (Value.tuple #[Value.int IntKind.i64 0, Value.int IntKind.i64 0, Value.int IntKind.i64 1])) H10) (ld H10 (Addr.mk r1 0 none) (fun v20 =>
  dInt IntKind.i64 v20 (fun n21 =>
  ask ((0 : Int) ≤ n21 ∧ n21 ≤ n21 ∧ (48 : Int) * n21 ≤ (281474976710656 : Int) ∧ n21 ≤ (9223372036854775807 : Int)) (al H10 (Obj.cells (List.toArray (rowZ [Value.int IntKind.i64 0, Value.int IntKind.u8 0, Value.int IntKind.u8 0, Value.int IntKind.u8 0, Value.int IntKind.u8 0, Value.int IntKind.u8 0, Value.int IntKind.u8 0, Value.int IntKind.u8 0, Value.int IntKind.u8 0, Value.int IntKind.u8 0, Value.int IntKind.u8 0, Value.int IntKind.u8 0, Value.int IntKind.u8 0, Value.int IntKind.u8 0, Value.int IntKind.u8 0, Value.int IntKind.u8 0, Value.int IntKind.u8 0, Value.int IntKind.u8 0, Value.int IntKind.u8 0, Value.int IntKind.u8 0, Value.int IntKind.u8 0, Value.int IntKind.u8 0, Value.int IntKind.u8 0, Value.int IntKind.u8 0, Value.int IntKind.u8 0, Value.int IntKind.u8 0, Value.int IntKind.u8 0, Value.int IntKind.u8 0, Value.int IntKind.u8 0, Value.int IntKind.u8 0, Value.int IntKind.u8 0, Value.int IntKind.u8 0, Value.int IntKind.u8 0, Value.int IntKind.u8 0, Value.int IntKind.u8 0, Value.int IntKind.u8 0, Value.int IntKind.u8 0, Value.int IntKind.u8 0, Value.int IntKind.u8 0, Value.int IntKind.u8 0, Value.int IntKind.u8 0] (Int.toNat n21))) 77) (fun r22 H23 =>
  ∃ I24 : List Value → Heap → Prop,
  ∃ I25 : List Value → Heap → Nat,
  (I24 ([Value.int IntKind.i64 0]) H23) ∧
  ∀ n26 : Int,
  ∀ v27 v28 v29 v30 v31 v32 v33 v34 v35 v36 v37 v38 v39 v40 v41 v42 v43 v44 v45 v46 v47 v48 v49 v50 v51 v52 : Value,
  ∀ H53 : Heap,
  (I24 ([Value.int IntKind.i64 n26]) H53) →
  jn (α := VFH 1) (fun v55 H56 =>
  ∀ v57 v58 v59 v60 v61 v62 : Value,
  dBl v55 (fun b63 =>
  sB b63 (ld H56 (Addr.mk r1 0 none) (fun v64 =>
  ld H56 (Addr.mk r1 1 none) (fun v65 =>
  ld H56 (Addr.mk r1 2 none) (fun v66 =>
  HCalls Tryz.prog 75 #[Value.pointer x0, Value.agg #[v64, v65, v66], Value.int IntKind.i64 n26] H56 (Sp.retK (fun v67 H68 =>
  dT 2 v67 (fun v69 v70 =>
  dA 41 v69 (fun v71 v72 v73 v74 v75 v76 v77 v78 v79 v80 v81 v82 v83 v84 v85 v86 v87 v88 v89 v90 v91 v92 v93 v94 v95 v96 v97 v98 v99 v100 v101 v102 v103 v104 v105 v106 v107 v108 v109 v110 v111 =>
  dInt IntKind.i64 v70 (fun n112 =>
  ask ((0 : Int) ≤ n26 ∧ n26 < (↑(Int.toNat n21) : Int)) (st H68 (Addr.add (Addr.mk r22 0 none) (Int.toNat n26 * 41)) v71 (fun H113 =>
  st H113 (Addr.add (Addr.add (Addr.mk r22 0 none) (Int.toNat n26 * 41)) 1) v72 (fun H114 =>
  st H114 (Addr.add (Addr.add (Addr.mk r22 0 none) (Int.toNat n26 * 41)) 2) v73 (fun H115 =>
  st H115 (Addr.add (Addr.add (Addr.mk r22 0 none) (Int.toNat n26 * 41)) 3) v74 (fun H116 =>
  st H116 (Addr.add (Addr.add (Addr.mk r22 0 none) (Int.toNat n26 * 41)) 4) v75 (fun H117 =>
  st H117 (Addr.add (Addr.add (Addr.mk r22 0 none) (Int.toNat n26 * 41)) 5) v76 (fun H118 =>
  st H118 (Addr.add (Addr.add (Addr.mk r22 0 none) (Int.toNat n26 * 41)) 6) v77 (fun H119 =>
  st H119 (Addr.add (Addr.add (Addr.mk r22 0 none) (Int.toNat n26 * 41)) 7) v78 (fun H120 =>
  st H120 (Addr.add (Addr.add (Addr.mk r22 0 none) (Int.toNat n26 * 41)) 8) v79 (fun H121 =>
  st H121 (Addr.add (Addr.add (Addr.mk r22 0 none) (Int.toNat n26 * 41)) 9) v80 (fun H122 =>
  st H122 (Addr.add (Addr.add (Addr.mk r22 0 none) (Int.toNat n26 * 41)) 10) v81 (fun H123 =>
  st H123 (Addr.add (Addr.add (Addr.mk r22 0 none) (Int.toNat n26 * 41)) 11) v82 (fun H124 =>
  st H124 (Addr.add (Addr.add (Addr.mk r22 0 none) (Int.toNat n26 * 41)) 12) v83 (fun H125 =>
  st H125 (Addr.add (Addr.add (Addr.mk r22 0 none) (Int.toNat n26 * 41)) 13) v84 (fun H126 =>
  st H126 (Addr.add (Addr.add (Addr.mk r22 0 none) (Int.toNat n26 * 41)) 14) v85 (fun H127 =>
  st H127 (Addr.add (Addr.add (Addr.mk r22 0 none) (Int.toNat n26 * 41)) 15) v86 (fun H128 =>
  st H128 (Addr.add (Addr.add (Addr.mk r22 0 none) (Int.toNat n26 * 41)) 16) v87 (fun H129 =>
  st H129 (Addr.add (Addr.add (Addr.mk r22 0 none) (Int.toNat n26 * 41)) 17) v88 (fun H130 =>
  st H130 (Addr.add (Addr.add (Addr.mk r22 0 none) (Int.toNat n26 * 41)) 18) v89 (fun H131 =>
  st H131 (Addr.add (Addr.add (Addr.mk r22 0 none) (Int.toNat n26 * 41)) 19) v90 (fun H132 =>
  st H132 (Addr.add (Addr.add (Addr.mk r22 0 none) (Int.toNat n26 * 41)) 20) v91 (fun H133 =>
  st H133 (Addr.add (Addr.add (Addr.mk r22 0 none) (Int.toNat n26 * 41)) 21) v92 (fun H134 =>
  st H134 (Addr.add (Addr.add (Addr.mk r22 0 none) (Int.toNat n26 * 41)) 22) v93 (fun H135 =>
  st H135 (Addr.add (Addr.add (Addr.mk r22 0 none) (Int.toNat n26 * 41)) 23) v94 (fun H136 =>
  st H136 (Addr.add (Addr.add (Addr.mk r22 0 none) (Int.toNat n26 * 41)) 24) v95 (fun H137 =>
  st H137 (Addr.add (Addr.add (Addr.mk r22 0 none) (Int.toNat n26 * 41)) 25) v96 (fun H138 =>
  st H138 (Addr.add (Addr.add (Addr.mk r22 0 none) (Int.toNat n26 * 41)) 26) v97 (fun H139 =>
  st H139 (Addr.add (Addr.add (Addr.mk r22 0 none) (Int.toNat n26 * 41)) 27) v98 (fun H140 =>
  st H140 (Addr.add (Addr.add (Addr.mk r22 0 none) (Int.toNat n26 * 41)) 28) v99 (fun H141 =>
  st H141 (Addr.add (Addr.add (Addr.mk r22 0 none) (Int.toNat n26 * 41)) 29) v100 (fun H142 =>
  st H142 (Addr.add (Addr.add (Addr.mk r22 0 none) (Int.toNat n26 * 41)) 30) v101 (fun H143 =>
  st H143 (Addr.add (Addr.add (Addr.mk r22 0 none) (Int.toNat n26 * 41)) 31) v102 (fun H144 =>
  st H144 (Addr.add (Addr.add (Addr.mk r22 0 none) (Int.toNat n26 * 41)) 32) v103 (fun H145 =>
  st H145 (Addr.add (Addr.add (Addr.mk r22 0 none) (Int.toNat n26 * 41)) 33) v104 (fun H146 =>
  st H146 (Addr.add (Addr.add (Addr.mk r22 0 none) (Int.toNat n26 * 41)) 34) v105 (fun H147 =>
  st H147 (Addr.add (Addr.add (Addr.mk r22 0 none) (Int.toNat n26 * 41)) 35) v106 (fun H148 =>
  st H148 (Addr.add (Addr.add (Addr.mk r22 0 none) (Int.toNat n26 * 41)) 36) v107 (fun H149 =>
  st H149 (Addr.add (Addr.add (Addr.mk r22 0 none) (Int.toNat n26 * 41)) 37) v108 (fun H150 =>
  st H150 (Addr.add (Addr.add (Addr.mk r22 0 none) (Int.toNat n26 * 41)) 38) v109 (fun H151 =>
  st H151 (Addr.add (Addr.add (Addr.mk r22 0 none) (Int.toNat n26 * 41)) 39) v110 (fun H152 =>
  st H152 (Addr.add (Addr.add (Addr.mk r22 0 none) (Int.toNat n26 * 41)) 40) v111 (fun H153 =>
  sB (n112 != 0) (R (Ending.returned (Value.tuple #[Value.int IntKind.i64 0, Value.int IntKind.i64 0, Value.int IntKind.i64 n112])) H153) (wr IntKind.i64 (n26 + 1) (fun n154 =>
  (I24 ([Value.int IntKind.i64 n154]) H153) ∧
  (I25 [Value.int IntKind.i64 n154] H153) < (I25 [Value.int IntKind.i64 n26] H53))))))))))))))))))))))))))))))))))))))))))))))))) (pnR R)))))) (al H56 (Obj.cells #[Value.int IntKind.i64 0, Value.int IntKind.u8 0, Value.int IntKind.u8 0, Value.int IntKind.u8 0, Value.int IntKind.u8 0, Value.int IntKind.u8 0, Value.int IntKind.u8 0, Value.int IntKind.u8 0, Value.int IntKind.u8 0, Value.int IntKind.u8 0, Value.int IntKind.u8 0, Value.int IntKind.u8 0, Value.int IntKind.u8 0, Value.int IntKind.u8 0, Value.int IntKind.u8 0, Value.int IntKind.u8 0, Value.int IntKind.u8 0, Value.int IntKind.u8 0, Value.int IntKind.u8 0, Value.int IntKind.u8 0, Value.int IntKind.u8 0, Value.int IntKind.u8 0, Value.int IntKind.u8 0, Value.int IntKind.u8 0, Value.int IntKind.u8 0, Value.int IntKind.u8 0, Value.int IntKind.u8 0, Value.int IntKind.u8 0, Value.int IntKind.u8 0, Value.int IntKind.u8 0, Value.int IntKind.u8 0, Value.int IntKind.u8 0, Value.int IntKind.u8 0, Value.int IntKind.u8 0, Value.int IntKind.u8 0, Value.int IntKind.u8 0, Value.int IntKind.u8 0, Value.int IntKind.u8 0, Value.int IntKind.u8 0, Value.int IntKind.u8 0, Value.int IntKind.u8 0] 77) (fun r157 H158 =>
  jn (α := VFH 1) (fun v159 H160 =>
  ∀ v161 v162 v163 v164 v165 v166 v167 v168 v169 v170 v171 v172 v173 v174 v175 v176 v177 v178 v179 v180 v181 v182 v183 v184 v185 v186 v187 v188 v189 v190 v191 v192 v193 v194 v195 v196 v197 v198 v199 v200 v201 v202 v203 v204 v205 v206 : Value,
  dInt IntKind.i64 v159 (fun n207 =>
  sB (n207 == 0) (R (Ending.returned (Value.tuple #[Value.int IntKind.i64 0, Value.int IntKind.i64 0, Value.int IntKind.i64 5])) H160) (ld H160 (Addr.mk r1 0 none) (fun v208 =>
  ld H160 (Addr.mk r1 1 none) (fun v209 =>
  ld H160 (Addr.mk r1 2 none) (fun v210 =>
  ld H160 (Addr.mk r157 0 none) (fun v211 =>
  ld H160 (Addr.mk r157 1 none) (fun v212 =>
  ld H160 (Addr.mk r157 2 none) (fun v213 =>
  ld H160 (Addr.mk r157 3 none) (fun v214 =>
  ld H160 (Addr.mk r157 4 none) (fun v215 =>
  ld H160 (Addr.mk r157 5 none) (fun v216 =>
  ld H160 (Addr.mk r157 6 none) (fun v217 =>
  ld H160 (Addr.mk r157 7 none) (fun v218 =>
  ld H160 (Addr.mk r157 8 none) (fun v219 =>
  ld H160 (Addr.mk r157 9 none) (fun v220 =>
  ld H160 (Addr.mk r157 10 none) (fun v221 =>
  ld H160 (Addr.mk r157 11 none) (fun v222 =>
  ld H160 (Addr.mk r157 12 none) (fun v223 =>
  ld H160 (Addr.mk r157 13 none) (fun v224 =>
  ld H160 (Addr.mk r157 14 none) (fun v225 =>
  ld H160 (Addr.mk r157 15 none) (fun v226 =>
  ld H160 (Addr.mk r157 16 none) (fun v227 =>
  ld H160 (Addr.mk r157 17 none) (fun v228 =>
  ld H160 (Addr.mk r157 18 none) (fun v229 =>
  ld H160 (Addr.mk r157 19 none) (fun v230 =>
  ld H160 (Addr.mk r157 20 none) (fun v231 =>
  ld H160 (Addr.mk r157 21 none) (fun v232 =>
  ld H160 (Addr.mk r157 22 none) (fun v233 =>
  ld H160 (Addr.mk r157 23 none) (fun v234 =>
  ld H160 (Addr.mk r157 24 none) (fun v235 =>
  ld H160 (Addr.mk r157 25 none) (fun v236 =>
  ld H160 (Addr.mk r157 26 none) (fun v237 =>
  ld H160 (Addr.mk r157 27 none) (fun v238 =>
  ld H160 (Addr.mk r157 28 none) (fun v239 =>
  ld H160 (Addr.mk r157 29 none) (fun v240 =>
  ld H160 (Addr.mk r157 30 none) (fun v241 =>
  ld H160 (Addr.mk r157 31 none) (fun v242 =>
  ld H160 (Addr.mk r157 32 none) (fun v243 =>
  ld H160 (Addr.mk r157 33 none) (fun v244 =>
  ld H160 (Addr.mk r157 34 none) (fun v245 =>
  ld H160 (Addr.mk r157 35 none) (fun v246 =>
  ld H160 (Addr.mk r157 36 none) (fun v247 =>
  ld H160 (Addr.mk r157 37 none) (fun v248 =>
  ld H160 (Addr.mk r157 38 none) (fun v249 =>
  ld H160 (Addr.mk r157 39 none) (fun v250 =>
  ld H160 (Addr.mk r157 40 none) (fun v251 =>
  HCalls Tryz.prog 93 #[Value.agg #[v208, v209, v210], Value.agg #[v211, v212, v213, v214, v215, v216, v217, v218, v219, v220, v221, v222, v223, v224, v225, v226, v227, v228, v229, v230, v231, v232, v233, v234, v235, v236, v237, v238, v239, v240, v241, v242, v243, v244, v245, v246, v247, v248, v249, v250, v251]] H160 (Sp.retK (fun v252 H253 =>
  dT 2 v252 (fun v254 v255 =>
  dInt IntKind.i64 v254 (fun n256 =>
  dInt IntKind.i64 v255 (fun n257 =>
  ld H253 (Addr.mk r1 0 none) (fun v258 =>
  ld H253 (Addr.mk r1 1 none) (fun v259 =>
  ld H253 (Addr.mk r1 2 none) (fun v260 =>
  ld H253 (Addr.mk r157 0 none) (fun v261 =>
  ld H253 (Addr.mk r157 1 none) (fun v262 =>
  ld H253 (Addr.mk r157 2 none) (fun v263 =>
  ld H253 (Addr.mk r157 3 none) (fun v264 =>
  ld H253 (Addr.mk r157 4 none) (fun v265 =>
  ld H253 (Addr.mk r157 5 none) (fun v266 =>
  ld H253 (Addr.mk r157 6 none) (fun v267 =>
  ld H253 (Addr.mk r157 7 none) (fun v268 =>
  ld H253 (Addr.mk r157 8 none) (fun v269 =>
  ld H253 (Addr.mk r157 9 none) (fun v270 =>
  ld H253 (Addr.mk r157 10 none) (fun v271 =>
  ld H253 (Addr.mk r157 11 none) (fun v272 =>
  ld H253 (Addr.mk r157 12 none) (fun v273 =>
  ld H253 (Addr.mk r157 13 none) (fun v274 =>
  ld H253 (Addr.mk r157 14 none) (fun v275 =>
  ld H253 (Addr.mk r157 15 none) (fun v276 =>
  ld H253 (Addr.mk r157 16 none) (fun v277 =>
  ld H253 (Addr.mk r157 17 none) (fun v278 =>
  ld H253 (Addr.mk r157 18 none) (fun v279 =>
  ld H253 (Addr.mk r157 19 none) (fun v280 =>
  ld H253 (Addr.mk r157 20 none) (fun v281 =>
  ld H253 (Addr.mk r157 21 none) (fun v282 =>
  ld H253 (Addr.mk r157 22 none) (fun v283 =>
  ld H253 (Addr.mk r157 23 none) (fun v284 =>
  ld H253 (Addr.mk r157 24 none) (fun v285 =>
  ld H253 (Addr.mk r157 25 none) (fun v286 =>
  ld H253 (Addr.mk r157 26 none) (fun v287 =>
  ld H253 (Addr.mk r157 27 none) (fun v288 =>
  ld H253 (Addr.mk r157 28 none) (fun v289 =>
  ld H253 (Addr.mk r157 29 none) (fun v290 =>
  ld H253 (Addr.mk r157 30 none) (fun v291 =>
  ld H253 (Addr.mk r157 31 none) (fun v292 =>
  ld H253 (Addr.mk r157 32 none) (fun v293 =>
  ld H253 (Addr.mk r157 33 none) (fun v294 =>
  ld H253 (Addr.mk r157 34 none) (fun v295 =>
  ld H253 (Addr.mk r157 35 none) (fun v296 =>
  ld H253 (Addr.mk r157 36 none) (fun v297 =>
  ld H253 (Addr.mk r157 37 none) (fun v298 =>
  ld H253 (Addr.mk r157 38 none) (fun v299 =>
  ld H253 (Addr.mk r157 39 none) (fun v300 =>
  ld H253 (Addr.mk r157 40 none) (fun v301 =>
  HCalls Tryz.prog 80 #[Value.pointer x0, Value.agg #[v258, v259, v260], Value.agg #[v261, v262, v263, v264, v265, v266, v267, v268, v269, v270, v271, v272, v273, v274, v275, v276, v277, v278, v279, v280, v281, v282, v283, v284, v285, v286, v287, v288, v289, v290, v291, v292, v293, v294, v295, v296, v297, v298, v299, v300, v301], Value.int IntKind.i64 4, Value.int IntKind.i64 n256, Value.bool true, Value.slice none 0 0] H253 (Sp.retK (fun v302 H303 =>
  dT 2 v302 (fun v304 v305 =>
  dInt IntKind.i64 v304 (fun n306 =>
  dInt IntKind.i64 v305 (fun n307 =>
  sB (n307 != 0) (R (Ending.returned (Value.tuple #[Value.int IntKind.i64 0, Value.int IntKind.i64 0, Value.int IntKind.i64 n307])) H303) (ld H303 (Addr.mk r157 0 none) (fun v308 =>
  dInt IntKind.i64 v308 (fun n309 =>
  ld H303 (Addr.mk r1 2 none) (fun v310 =>
  dInt IntKind.i64 v310 (fun n311 =>
  wr IntKind.i64 (n309 * n311) (fun n312 =>
  wr IntKind.i64 (n312 + n256) (fun n313 =>
  R (Ending.returned (Value.tuple #[Value.int IntKind.i64 n313, Value.int IntKind.i64 n306, Value.int IntKind.i64 0])) H303))))))))))) (pnR R)))))))))))))))))))))))))))))))))))))))))))))))))) (pnR R))))))))))))))))))))))))))))))))))))))))))))))))) (fun k318 =>
  ld H158 (Addr.mk r1 0 none) (fun v319 =>
  ld H158 (Addr.mk r1 1 none) (fun v320 =>
  ld H158 (Addr.mk r1 2 none) (fun v321 =>
  HCalls Tryz.prog 76 #[Value.agg #[v319, v320, v321], Value.int IntKind.i64 x2] H158 (Sp.retK (fun v322 H323 =>
  dSl v322 (fun p324 r325 r326 =>
  ∃ I327 : List Value → Heap → Prop,
  ∃ I328 : List Value → Heap → Nat,
  (I327 ([Value.int IntKind.i64 0, Value.int IntKind.i64 0]) H323) ∧
  ∀ n329 : Int,
  ∀ n330 : Int,
  ∀ v331 v332 v333 v334 v335 v336 v337 v338 v339 v340 v341 v342 v343 v344 v345 v346 v347 v348 v349 v350 v351 v352 v353 v354 v355 v356 v357 v358 v359 v360 v361 v362 v363 v364 v365 v366 v367 v368 v369 v370 v371 : Value,
  ∀ H372 : Heap,
  (I327 ([Value.int IntKind.i64 n329, Value.int IntKind.i64 n330]) H372) →
  sB (decide (n330 < (↑r325 : Int))) (jn (α := VFH 1) (fun v374 H375 =>
  ∀ v376 v377 v378 v379 v380 v381 v382 v383 v384 v385 v386 v387 v388 v389 v390 v391 v392 v393 v394 v395 v396 v397 v398 v399 v400 v401 v402 v403 v404 v405 v406 v407 v408 v409 v410 v411 v412 v413 v414 : Value,
  dInt IntKind.i64 v374 (fun n415 =>
  wr IntKind.i64 (n330 + 1) (fun n416 =>
  (I327 ([Value.int IntKind.i64 n415, Value.int IntKind.i64 n416]) H375) ∧
  (I328 [Value.int IntKind.i64 n415, Value.int IntKind.i64 n416] H375) < (I328 [Value.int IntKind.i64 n329, Value.int IntKind.i64 n330] H372)))) (fun k417 =>
  nz p324 (fun a418 =>
  ask ((0 : Int) ≤ n330 ∧ n330 < (↑r325 : Int)) (ld H372 (Addr.add a418 (Int.toNat n330 * 1)) (fun v419 =>
  dInt IntKind.i64 v419 (fun n420 =>
  ask ((0 : Int) ≤ n420 ∧ n420 < (↑(Int.toNat n21) : Int)) (ld H372 (Addr.add (Addr.mk r22 0 none) (Int.toNat n420 * 41)) (fun v421 =>
  ld H372 (Addr.add (Addr.add (Addr.mk r22 0 none) (Int.toNat n420 * 41)) 1) (fun v422 =>
  ld H372 (Addr.add (Addr.add (Addr.mk r22 0 none) (Int.toNat n420 * 41)) 2) (fun v423 =>
  ld H372 (Addr.add (Addr.add (Addr.mk r22 0 none) (Int.toNat n420 * 41)) 3) (fun v424 =>
  ld H372 (Addr.add (Addr.add (Addr.mk r22 0 none) (Int.toNat n420 * 41)) 4) (fun v425 =>
  ld H372 (Addr.add (Addr.add (Addr.mk r22 0 none) (Int.toNat n420 * 41)) 5) (fun v426 =>
  ld H372 (Addr.add (Addr.add (Addr.mk r22 0 none) (Int.toNat n420 * 41)) 6) (fun v427 =>
  ld H372 (Addr.add (Addr.add (Addr.mk r22 0 none) (Int.toNat n420 * 41)) 7) (fun v428 =>
  ld H372 (Addr.add (Addr.add (Addr.mk r22 0 none) (Int.toNat n420 * 41)) 8) (fun v429 =>
  ld H372 (Addr.add (Addr.add (Addr.mk r22 0 none) (Int.toNat n420 * 41)) 9) (fun v430 =>
  ld H372 (Addr.add (Addr.add (Addr.mk r22 0 none) (Int.toNat n420 * 41)) 10) (fun v431 =>
  ld H372 (Addr.add (Addr.add (Addr.mk r22 0 none) (Int.toNat n420 * 41)) 11) (fun v432 =>
  ld H372 (Addr.add (Addr.add (Addr.mk r22 0 none) (Int.toNat n420 * 41)) 12) (fun v433 =>
  ld H372 (Addr.add (Addr.add (Addr.mk r22 0 none) (Int.toNat n420 * 41)) 13) (fun v434 =>
  ld H372 (Addr.add (Addr.add (Addr.mk r22 0 none) (Int.toNat n420 * 41)) 14) (fun v435 =>
  ld H372 (Addr.add (Addr.add (Addr.mk r22 0 none) (Int.toNat n420 * 41)) 15) (fun v436 =>
  ld H372 (Addr.add (Addr.add (Addr.mk r22 0 none) (Int.toNat n420 * 41)) 16) (fun v437 =>
  ld H372 (Addr.add (Addr.add (Addr.mk r22 0 none) (Int.toNat n420 * 41)) 17) (fun v438 =>
  ld H372 (Addr.add (Addr.add (Addr.mk r22 0 none) (Int.toNat n420 * 41)) 18) (fun v439 =>
  ld H372 (Addr.add (Addr.add (Addr.mk r22 0 none) (Int.toNat n420 * 41)) 19) (fun v440 =>
  ld H372 (Addr.add (Addr.add (Addr.mk r22 0 none) (Int.toNat n420 * 41)) 20) (fun v441 =>
  ld H372 (Addr.add (Addr.add (Addr.mk r22 0 none) (Int.toNat n420 * 41)) 21) (fun v442 =>
  ld H372 (Addr.add (Addr.add (Addr.mk r22 0 none) (Int.toNat n420 * 41)) 22) (fun v443 =>
  ld H372 (Addr.add (Addr.add (Addr.mk r22 0 none) (Int.toNat n420 * 41)) 23) (fun v444 =>
  ld H372 (Addr.add (Addr.add (Addr.mk r22 0 none) (Int.toNat n420 * 41)) 24) (fun v445 =>
  ld H372 (Addr.add (Addr.add (Addr.mk r22 0 none) (Int.toNat n420 * 41)) 25) (fun v446 =>
  ld H372 (Addr.add (Addr.add (Addr.mk r22 0 none) (Int.toNat n420 * 41)) 26) (fun v447 =>
  ld H372 (Addr.add (Addr.add (Addr.mk r22 0 none) (Int.toNat n420 * 41)) 27) (fun v448 =>
  ld H372 (Addr.add (Addr.add (Addr.mk r22 0 none) (Int.toNat n420 * 41)) 28) (fun v449 =>
  ld H372 (Addr.add (Addr.add (Addr.mk r22 0 none) (Int.toNat n420 * 41)) 29) (fun v450 =>
  ld H372 (Addr.add (Addr.add (Addr.mk r22 0 none) (Int.toNat n420 * 41)) 30) (fun v451 =>
  ld H372 (Addr.add (Addr.add (Addr.mk r22 0 none) (Int.toNat n420 * 41)) 31) (fun v452 =>
  ld H372 (Addr.add (Addr.add (Addr.mk r22 0 none) (Int.toNat n420 * 41)) 32) (fun v453 =>
  ld H372 (Addr.add (Addr.add (Addr.mk r22 0 none) (Int.toNat n420 * 41)) 33) (fun v454 =>
  ld H372 (Addr.add (Addr.add (Addr.mk r22 0 none) (Int.toNat n420 * 41)) 34) (fun v455 =>
  ld H372 (Addr.add (Addr.add (Addr.mk r22 0 none) (Int.toNat n420 * 41)) 35) (fun v456 =>
  ld H372 (Addr.add (Addr.add (Addr.mk r22 0 none) (Int.toNat n420 * 41)) 36) (fun v457 =>
  ld H372 (Addr.add (Addr.add (Addr.mk r22 0 none) (Int.toNat n420 * 41)) 37) (fun v458 =>
  ld H372 (Addr.add (Addr.add (Addr.mk r22 0 none) (Int.toNat n420 * 41)) 38) (fun v459 =>
  ld H372 (Addr.add (Addr.add (Addr.mk r22 0 none) (Int.toNat n420 * 41)) 39) (fun v460 =>
  ld H372 (Addr.add (Addr.add (Addr.mk r22 0 none) (Int.toNat n420 * 41)) 40) (fun v461 =>
  al H372 (Obj.cells #[Value.int IntKind.i64 0, Value.int IntKind.u8 0, Value.int IntKind.u8 0, Value.int IntKind.u8 0, Value.int IntKind.u8 0, Value.int IntKind.u8 0, Value.int IntKind.u8 0, Value.int IntKind.u8 0, Value.int IntKind.u8 0, Value.int IntKind.u8 0, Value.int IntKind.u8 0, Value.int IntKind.u8 0, Value.int IntKind.u8 0, Value.int IntKind.u8 0, Value.int IntKind.u8 0, Value.int IntKind.u8 0, Value.int IntKind.u8 0, Value.int IntKind.u8 0, Value.int IntKind.u8 0, Value.int IntKind.u8 0, Value.int IntKind.u8 0, Value.int IntKind.u8 0, Value.int IntKind.u8 0, Value.int IntKind.u8 0, Value.int IntKind.u8 0, Value.int IntKind.u8 0, Value.int IntKind.u8 0, Value.int IntKind.u8 0, Value.int IntKind.u8 0, Value.int IntKind.u8 0, Value.int IntKind.u8 0, Value.int IntKind.u8 0, Value.int IntKind.u8 0, Value.int IntKind.u8 0, Value.int IntKind.u8 0, Value.int IntKind.u8 0, Value.int IntKind.u8 0, Value.int IntKind.u8 0, Value.int IntKind.u8 0, Value.int IntKind.u8 0, Value.int IntKind.u8 0] 77) (fun r462 H463 =>
  st H463 (Addr.mk r462 0 none) v421 (fun H464 =>
  st H464 (Addr.mk r462 1 none) v422 (fun H465 =>
  st H465 (Addr.mk r462 2 none) v423 (fun H466 =>
  st H466 (Addr.mk r462 3 none) v424 (fun H467 =>
  st H467 (Addr.mk r462 4 none) v425 (fun H468 =>
  st H468 (Addr.mk r462 5 none) v426 (fun H469 =>
  st H469 (Addr.mk r462 6 none) v427 (fun H470 =>
  st H470 (Addr.mk r462 7 none) v428 (fun H471 =>
  st H471 (Addr.mk r462 8 none) v429 (fun H472 =>
  st H472 (Addr.mk r462 9 none) v430 (fun H473 =>
  st H473 (Addr.mk r462 10 none) v431 (fun H474 =>
  st H474 (Addr.mk r462 11 none) v432 (fun H475 =>
  st H475 (Addr.mk r462 12 none) v433 (fun H476 =>
  st H476 (Addr.mk r462 13 none) v434 (fun H477 =>
  st H477 (Addr.mk r462 14 none) v435 (fun H478 =>
  st H478 (Addr.mk r462 15 none) v436 (fun H479 =>
  st H479 (Addr.mk r462 16 none) v437 (fun H480 =>
  st H480 (Addr.mk r462 17 none) v438 (fun H481 =>
  st H481 (Addr.mk r462 18 none) v439 (fun H482 =>
  st H482 (Addr.mk r462 19 none) v440 (fun H483 =>
  st H483 (Addr.mk r462 20 none) v441 (fun H484 =>
  st H484 (Addr.mk r462 21 none) v442 (fun H485 =>
  st H485 (Addr.mk r462 22 none) v443 (fun H486 =>
  st H486 (Addr.mk r462 23 none) v444 (fun H487 =>
  st H487 (Addr.mk r462 24 none) v445 (fun H488 =>
  st H488 (Addr.mk r462 25 none) v446 (fun H489 =>
  st H489 (Addr.mk r462 26 none) v447 (fun H490 =>
  st H490 (Addr.mk r462 27 none) v448 (fun H491 =>
  st H491 (Addr.mk r462 28 none) v449 (fun H492 =>
  st H492 (Addr.mk r462 29 none) v450 (fun H493 =>
  st H493 (Addr.mk r462 30 none) v451 (fun H494 =>
  st H494 (Addr.mk r462 31 none) v452 (fun H495 =>
  st H495 (Addr.mk r462 32 none) v453 (fun H496 =>
  st H496 (Addr.mk r462 33 none) v454 (fun H497 =>
  st H497 (Addr.mk r462 34 none) v455 (fun H498 =>
  st H498 (Addr.mk r462 35 none) v456 (fun H499 =>
  st H499 (Addr.mk r462 36 none) v457 (fun H500 =>
  st H500 (Addr.mk r462 37 none) v458 (fun H501 =>
  st H501 (Addr.mk r462 38 none) v459 (fun H502 =>
  st H502 (Addr.mk r462 39 none) v460 (fun H503 =>
  st H503 (Addr.mk r462 40 none) v461 (fun H504 =>
  jn (α := VFH 0) (fun H505 =>
  ∀ v506 v507 v508 v509 v510 v511 v512 v513 v514 v515 v516 v517 v518 v519 v520 v521 : Value,
  ld H505 (Addr.mk r1 0 none) (fun v522 =>
  ld H505 (Addr.mk r1 1 none) (fun v523 =>
  ld H505 (Addr.mk r1 2 none) (fun v524 =>
  ld H505 (Addr.mk r462 0 none) (fun v525 =>
  ld H505 (Addr.mk r462 1 none) (fun v526 =>
  ld H505 (Addr.mk r462 2 none) (fun v527 =>
  ld H505 (Addr.mk r462 3 none) (fun v528 =>
  ld H505 (Addr.mk r462 4 none) (fun v529 =>
  ld H505 (Addr.mk r462 5 none) (fun v530 =>
  ld H505 (Addr.mk r462 6 none) (fun v531 =>
  ld H505 (Addr.mk r462 7 none) (fun v532 =>
  ld H505 (Addr.mk r462 8 none) (fun v533 =>
  ld H505 (Addr.mk r462 9 none) (fun v534 =>
  ld H505 (Addr.mk r462 10 none) (fun v535 =>
  ld H505 (Addr.mk r462 11 none) (fun v536 =>
  ld H505 (Addr.mk r462 12 none) (fun v537 =>
  ld H505 (Addr.mk r462 13 none) (fun v538 =>
  ld H505 (Addr.mk r462 14 none) (fun v539 =>
  ld H505 (Addr.mk r462 15 none) (fun v540 =>
  ld H505 (Addr.mk r462 16 none) (fun v541 =>
  ld H505 (Addr.mk r462 17 none) (fun v542 =>
  ld H505 (Addr.mk r462 18 none) (fun v543 =>
  ld H505 (Addr.mk r462 19 none) (fun v544 =>
  ld H505 (Addr.mk r462 20 none) (fun v545 =>
  ld H505 (Addr.mk r462 21 none) (fun v546 =>
  ld H505 (Addr.mk r462 22 none) (fun v547 =>
  ld H505 (Addr.mk r462 23 none) (fun v548 =>
  ld H505 (Addr.mk r462 24 none) (fun v549 =>
  ld H505 (Addr.mk r462 25 none) (fun v550 =>
  ld H505 (Addr.mk r462 26 none) (fun v551 =>
  ld H505 (Addr.mk r462 27 none) (fun v552 =>
  ld H505 (Addr.mk r462 28 none) (fun v553 =>
  ld H505 (Addr.mk r462 29 none) (fun v554 =>
  ld H505 (Addr.mk r462 30 none) (fun v555 =>
  ld H505 (Addr.mk r462 31 none) (fun v556 =>
  ld H505 (Addr.mk r462 32 none) (fun v557 =>
  ld H505 (Addr.mk r462 33 none) (fun v558 =>
  ld H505 (Addr.mk r462 34 none) (fun v559 =>
  ld H505 (Addr.mk r462 35 none) (fun v560 =>
  ld H505 (Addr.mk r462 36 none) (fun v561 =>
  ld H505 (Addr.mk r462 37 none) (fun v562 =>
  ld H505 (Addr.mk r462 38 none) (fun v563 =>
  ld H505 (Addr.mk r462 39 none) (fun v564 =>
  ld H505 (Addr.mk r462 40 none) (fun v565 =>
  HCalls Tryz.prog 93 #[Value.agg #[v522, v523, v524], Value.agg #[v525, v526, v527, v528, v529, v530, v531, v532, v533, v534, v535, v536, v537, v538, v539, v540, v541, v542, v543, v544, v545, v546, v547, v548, v549, v550, v551, v552, v553, v554, v555, v556, v557, v558, v559, v560, v561, v562, v563, v564, v565]] H505 (Sp.retK (fun v566 H567 =>
  dT 2 v566 (fun v568 v569 =>
  dInt IntKind.i64 v568 (fun n570 =>
  dInt IntKind.i64 v569 (fun n571 =>
  sB (decide (n571 > n329)) (ld H567 (Addr.mk r462 0 none) (fun v572 =>
  ld H567 (Addr.mk r462 1 none) (fun v573 =>
  ld H567 (Addr.mk r462 2 none) (fun v574 =>
  ld H567 (Addr.mk r462 3 none) (fun v575 =>
  ld H567 (Addr.mk r462 4 none) (fun v576 =>
  ld H567 (Addr.mk r462 5 none) (fun v577 =>
  ld H567 (Addr.mk r462 6 none) (fun v578 =>
  ld H567 (Addr.mk r462 7 none) (fun v579 =>
  ld H567 (Addr.mk r462 8 none) (fun v580 =>
  ld H567 (Addr.mk r462 9 none) (fun v581 =>
  ld H567 (Addr.mk r462 10 none) (fun v582 =>
  ld H567 (Addr.mk r462 11 none) (fun v583 =>
  ld H567 (Addr.mk r462 12 none) (fun v584 =>
  ld H567 (Addr.mk r462 13 none) (fun v585 =>
  ld H567 (Addr.mk r462 14 none) (fun v586 =>
  ld H567 (Addr.mk r462 15 none) (fun v587 =>
  ld H567 (Addr.mk r462 16 none) (fun v588 =>
  ld H567 (Addr.mk r462 17 none) (fun v589 =>
  ld H567 (Addr.mk r462 18 none) (fun v590 =>
  ld H567 (Addr.mk r462 19 none) (fun v591 =>
  ld H567 (Addr.mk r462 20 none) (fun v592 =>
  ld H567 (Addr.mk r462 21 none) (fun v593 =>
  ld H567 (Addr.mk r462 22 none) (fun v594 =>
  ld H567 (Addr.mk r462 23 none) (fun v595 =>
  ld H567 (Addr.mk r462 24 none) (fun v596 =>
  ld H567 (Addr.mk r462 25 none) (fun v597 =>
  ld H567 (Addr.mk r462 26 none) (fun v598 =>
  ld H567 (Addr.mk r462 27 none) (fun v599 =>
  ld H567 (Addr.mk r462 28 none) (fun v600 =>
  ld H567 (Addr.mk r462 29 none) (fun v601 =>
  ld H567 (Addr.mk r462 30 none) (fun v602 =>
  ld H567 (Addr.mk r462 31 none) (fun v603 =>
  ld H567 (Addr.mk r462 32 none) (fun v604 =>
  ld H567 (Addr.mk r462 33 none) (fun v605 =>
  ld H567 (Addr.mk r462 34 none) (fun v606 =>
  ld H567 (Addr.mk r462 35 none) (fun v607 =>
  ld H567 (Addr.mk r462 36 none) (fun v608 =>
  ld H567 (Addr.mk r462 37 none) (fun v609 =>
  ld H567 (Addr.mk r462 38 none) (fun v610 =>
  ld H567 (Addr.mk r462 39 none) (fun v611 =>
  ld H567 (Addr.mk r462 40 none) (fun v612 =>
  st H567 (Addr.mk r157 0 none) v572 (fun H613 =>
  st H613 (Addr.mk r157 1 none) v573 (fun H614 =>
  st H614 (Addr.mk r157 2 none) v574 (fun H615 =>
  st H615 (Addr.mk r157 3 none) v575 (fun H616 =>
  st H616 (Addr.mk r157 4 none) v576 (fun H617 =>
  st H617 (Addr.mk r157 5 none) v577 (fun H618 =>
  st H618 (Addr.mk r157 6 none) v578 (fun H619 =>
  st H619 (Addr.mk r157 7 none) v579 (fun H620 =>
  st H620 (Addr.mk r157 8 none) v580 (fun H621 =>
  st H621 (Addr.mk r157 9 none) v581 (fun H622 =>
  st H622 (Addr.mk r157 10 none) v582 (fun H623 =>
  st H623 (Addr.mk r157 11 none) v583 (fun H624 =>
  st H624 (Addr.mk r157 12 none) v584 (fun H625 =>
  st H625 (Addr.mk r157 13 none) v585 (fun H626 =>
  st H626 (Addr.mk r157 14 none) v586 (fun H627 =>
  st H627 (Addr.mk r157 15 none) v587 (fun H628 =>
  st H628 (Addr.mk r157 16 none) v588 (fun H629 =>
  st H629 (Addr.mk r157 17 none) v589 (fun H630 =>
  st H630 (Addr.mk r157 18 none) v590 (fun H631 =>
  st H631 (Addr.mk r157 19 none) v591 (fun H632 =>
  st H632 (Addr.mk r157 20 none) v592 (fun H633 =>
  st H633 (Addr.mk r157 21 none) v593 (fun H634 =>
  st H634 (Addr.mk r157 22 none) v594 (fun H635 =>
  st H635 (Addr.mk r157 23 none) v595 (fun H636 =>
  st H636 (Addr.mk r157 24 none) v596 (fun H637 =>
  st H637 (Addr.mk r157 25 none) v597 (fun H638 =>
  st H638 (Addr.mk r157 26 none) v598 (fun H639 =>
  st H639 (Addr.mk r157 27 none) v599 (fun H640 =>
  st H640 (Addr.mk r157 28 none) v600 (fun H641 =>
  st H641 (Addr.mk r157 29 none) v601 (fun H642 =>
  st H642 (Addr.mk r157 30 none) v602 (fun H643 =>
  st H643 (Addr.mk r157 31 none) v603 (fun H644 =>
  st H644 (Addr.mk r157 32 none) v604 (fun H645 =>
  st H645 (Addr.mk r157 33 none) v605 (fun H646 =>
  st H646 (Addr.mk r157 34 none) v606 (fun H647 =>
  st H647 (Addr.mk r157 35 none) v607 (fun H648 =>
  st H648 (Addr.mk r157 36 none) v608 (fun H649 =>
  st H649 (Addr.mk r157 37 none) v609 (fun H650 =>
  st H650 (Addr.mk r157 38 none) v610 (fun H651 =>
  st H651 (Addr.mk r157 39 none) v611 (fun H652 =>
  st H652 (Addr.mk r157 40 none) v612 (fun H653 =>
  sB (!x3) (k318 (Value.int IntKind.i64 n571) H653) (k417 (Value.int IntKind.i64 n571) H653)))))))))))))))))))))))))))))))))))))))))))))))))))))))))))))))))))))))))))))))))))) (k417 (Value.int IntKind.i64 n329) H567))))) (pnR R))))))))))))))))))))))))))))))))))))))))))))))) (fun k656 =>
  sB (!x3) (ld H504 (Addr.mk r1 0 none) (fun v657 =>
  ld H504 (Addr.mk r1 1 none) (fun v658 =>
  ld H504 (Addr.mk r1 2 none) (fun v659 =>
  HCalls Tryz.prog 75 #[Value.pointer x0, Value.agg #[v657, v658, v659], Value.int IntKind.i64 n420] H504 (Sp.retK (fun v660 H661 =>
  dT 2 v660 (fun v662 v663 =>
  dA 41 v662 (fun v664 v665 v666 v667 v668 v669 v670 v671 v672 v673 v674 v675 v676 v677 v678 v679 v680 v681 v682 v683 v684 v685 v686 v687 v688 v689 v690 v691 v692 v693 v694 v695 v696 v697 v698 v699 v700 v701 v702 v703 v704 =>
  dInt IntKind.i64 v663 (fun n705 =>
  st H661 (Addr.mk r462 0 none) v664 (fun H706 =>
  st H706 (Addr.mk r462 1 none) v665 (fun H707 =>
  st H707 (Addr.mk r462 2 none) v666 (fun H708 =>
  st H708 (Addr.mk r462 3 none) v667 (fun H709 =>
  st H709 (Addr.mk r462 4 none) v668 (fun H710 =>
  st H710 (Addr.mk r462 5 none) v669 (fun H711 =>
  st H711 (Addr.mk r462 6 none) v670 (fun H712 =>
  st H712 (Addr.mk r462 7 none) v671 (fun H713 =>
  st H713 (Addr.mk r462 8 none) v672 (fun H714 =>
  st H714 (Addr.mk r462 9 none) v673 (fun H715 =>
  st H715 (Addr.mk r462 10 none) v674 (fun H716 =>
  st H716 (Addr.mk r462 11 none) v675 (fun H717 =>
  st H717 (Addr.mk r462 12 none) v676 (fun H718 =>
  st H718 (Addr.mk r462 13 none) v677 (fun H719 =>
  st H719 (Addr.mk r462 14 none) v678 (fun H720 =>
  st H720 (Addr.mk r462 15 none) v679 (fun H721 =>
  st H721 (Addr.mk r462 16 none) v680 (fun H722 =>
  st H722 (Addr.mk r462 17 none) v681 (fun H723 =>
  st H723 (Addr.mk r462 18 none) v682 (fun H724 =>
  st H724 (Addr.mk r462 19 none) v683 (fun H725 =>
  st H725 (Addr.mk r462 20 none) v684 (fun H726 =>
  st H726 (Addr.mk r462 21 none) v685 (fun H727 =>
  st H727 (Addr.mk r462 22 none) v686 (fun H728 =>
  st H728 (Addr.mk r462 23 none) v687 (fun H729 =>
  st H729 (Addr.mk r462 24 none) v688 (fun H730 =>
  st H730 (Addr.mk r462 25 none) v689 (fun H731 =>
  st H731 (Addr.mk r462 26 none) v690 (fun H732 =>
  st H732 (Addr.mk r462 27 none) v691 (fun H733 =>
  st H733 (Addr.mk r462 28 none) v692 (fun H734 =>
  st H734 (Addr.mk r462 29 none) v693 (fun H735 =>
  st H735 (Addr.mk r462 30 none) v694 (fun H736 =>
  st H736 (Addr.mk r462 31 none) v695 (fun H737 =>
  st H737 (Addr.mk r462 32 none) v696 (fun H738 =>
  st H738 (Addr.mk r462 33 none) v697 (fun H739 =>
  st H739 (Addr.mk r462 34 none) v698 (fun H740 =>
  st H740 (Addr.mk r462 35 none) v699 (fun H741 =>
  st H741 (Addr.mk r462 36 none) v700 (fun H742 =>
  st H742 (Addr.mk r462 37 none) v701 (fun H743 =>
  st H743 (Addr.mk r462 38 none) v702 (fun H744 =>
  st H744 (Addr.mk r462 39 none) v703 (fun H745 =>
  st H745 (Addr.mk r462 40 none) v704 (fun H746 =>
  sB (n705 != 0) (R (Ending.returned (Value.tuple #[Value.int IntKind.i64 0, Value.int IntKind.i64 0, Value.int IntKind.i64 n705])) H746) (k656 H746)))))))))))))))))))))))))))))))))))))))))))))) (pnR R)))))) (k656 H504)))))))))))))))))))))))))))))))))))))))))))))))))))))))))))))))))))))))))))))))))))))))))))) (k318 (Value.int IntKind.i64 n329) H372))) (pnR R)))))))))) (fun k751 =>
  sB x3 (ld H53 (Addr.mk r1 0 none) (fun v752 =>
  dInt IntKind.i64 v752 (fun n753 =>
  k751 (Value.bool (decide (n26 < n753))) H53))) (k751 (Value.bool false) H53))))))))) (fun k754 =>
  sB (decide (x2 < 0)) (k754 (Value.bool true) H7) (ld H7 (Addr.mk r1 0 none) (fun v755 =>
  dInt IntKind.i64 v755 (fun n756 =>
  k754 (Value.bool (decide (x2 ≥ n756))) H7))))))) (pnR R))))))
theorem F40_eq (x0 : Option Addr) (x1_0 : Value) (x1_1 : Value) (x1_2 : Value) (x2 : Int) (x3 : Bool) (R : Ending → Heap → Prop) (H : Heap) : F40 x0 x1_0 x1_1 x1_2 x2 x3 R H = vc Tryz.prog (codeOf Tryz.f40) (.node none .leaf (.node none (.node none .leaf (.node none (.node none (.node none .leaf (.node none .leaf (.node (some ⟨[(31, 4)], [32, 33, 34, 35, 36, 37, 38, 39]⟩) .leaf .leaf))) .leaf) (.node none .leaf (.node none (.node none .leaf (.node none (.node (some ⟨[(13, 3)], [8, 9, 10, 11, 43, 44, 45, 46, 47, 48, 49, 50, 51, 52, 53, 54, 55, 56, 57, 58, 59, 60, 61, 62, 63, 64]⟩) (.node none (.node (some ⟨[(49, 4)], [43, 44, 45, 46, 47, 48]⟩) .leaf .leaf) .leaf) .leaf) .leaf)) (.node none .leaf (.node none .leaf (.node none .leaf (.node (some ⟨[(15, 3)], [8, 9, 10, 11, 17, 18, 19, 20, 65, 66, 67, 68, 69, 70, 71, 72, 73, 74, 75, 76, 77, 78, 79, 80, 81, 82, 83, 84, 85, 86, 87, 88, 89, 90, 91, 92, 93, 94, 95, 96, 97, 98, 99, 100, 101, 102]⟩) (.node none .leaf (.node none (.node (some ⟨[(15, 3), (69, 3)], [8, 9, 10, 11, 17, 18, 19, 20, 70, 71, 72, 73, 74, 75, 76, 77, 78, 79, 80, 81, 82, 83, 84, 85, 86, 87, 88, 89, 90, 91, 92, 93, 94, 95, 96, 97, 98, 99, 100, 101, 102]⟩) (.node none .leaf (.node none .leaf (.node (some ⟨[(15, 3)], [8, 9, 10, 11, 17, 18, 19, 20, 71, 72, 73, 74, 75, 76, 77, 78, 79, 80, 81, 82, 83, 84, 85, 86, 87, 88, 89, 90, 91, 92, 93, 94, 95, 96, 97, 98, 99, 100, 101]⟩) (.node none (.node none .leaf (.node none .leaf (.node (some ⟨[], [8, 9, 10, 11, 77, 78, 79, 80, 81, 82, 83, 84, 85, 86, 87, 88]⟩) .leaf .leaf))) .leaf) .leaf))) .leaf) .leaf)) .leaf)))))))) .leaf)) (postV Tryz.prog Tryz.f40 R) ⟨#[Value.pointer x0, Value.agg #[x1_0, x1_1, x1_2], Value.int IntKind.i64 x2, Value.bool x3] ++ Array.replicate (Tryz.f40.ntmps - 4) undef, []⟩ H := by kernel_rfl
theorem F40_calls {R : Ending → Heap → Prop} {H : Heap} (x0 : Option Addr) (x1_0 : Value) (x1_1 : Value) (x1_2 : Value) (x2 : Int) (x3 : Bool) (h : F40 x0 x1_0 x1_1 x1_2 x2 x3 R H) : HCalls Tryz.prog 40 #[Value.pointer x0, Value.agg #[x1_0, x1_1, x1_2], Value.int IntKind.i64 x2, Value.bool x3] H R :=
  calls_by (F := F40 x0 x1_0 x1_1 x1_2 x2 x3 R H) (.node none .leaf (.node none (.node none .leaf (.node none (.node none (.node none .leaf (.node none .leaf (.node (some ⟨[(31, 4)], [32, 33, 34, 35, 36, 37, 38, 39]⟩) .leaf .leaf))) .leaf) (.node none .leaf (.node none (.node none .leaf (.node none (.node (some ⟨[(13, 3)], [8, 9, 10, 11, 43, 44, 45, 46, 47, 48, 49, 50, 51, 52, 53, 54, 55, 56, 57, 58, 59, 60, 61, 62, 63, 64]⟩) (.node none (.node (some ⟨[(49, 4)], [43, 44, 45, 46, 47, 48]⟩) .leaf .leaf) .leaf) .leaf) .leaf)) (.node none .leaf (.node none .leaf (.node none .leaf (.node (some ⟨[(15, 3)], [8, 9, 10, 11, 17, 18, 19, 20, 65, 66, 67, 68, 69, 70, 71, 72, 73, 74, 75, 76, 77, 78, 79, 80, 81, 82, 83, 84, 85, 86, 87, 88, 89, 90, 91, 92, 93, 94, 95, 96, 97, 98, 99, 100, 101, 102]⟩) (.node none .leaf (.node none (.node (some ⟨[(15, 3), (69, 3)], [8, 9, 10, 11, 17, 18, 19, 20, 70, 71, 72, 73, 74, 75, 76, 77, 78, 79, 80, 81, 82, 83, 84, 85, 86, 87, 88, 89, 90, 91, 92, 93, 94, 95, 96, 97, 98, 99, 100, 101, 102]⟩) (.node none .leaf (.node none .leaf (.node (some ⟨[(15, 3)], [8, 9, 10, 11, 17, 18, 19, 20, 71, 72, 73, 74, 75, 76, 77, 78, 79, 80, 81, 82, 83, 84, 85, 86, 87, 88, 89, 90, 91, 92, 93, 94, 95, 96, 97, 98, 99, 100, 101]⟩) (.node none (.node none .leaf (.node none .leaf (.node (some ⟨[], [8, 9, 10, 11, 77, 78, 79, 80, 81, 82, 83, 84, 85, 86, 87, 88]⟩) .leaf .leaf))) .leaf) .leaf))) .leaf) .leaf)) .leaf)))))))) .leaf)) Tryz.func40 rfl (F40_eq x0 x1_0 x1_1 x1_2 x2 x3 R H) h
end Go.Proofs.YtngploohhmfaiaaGreat.E
/- Contracts of functions. -/
namespace Go.Proofs.YtngploohhmfaiaaGreat.E
open Go Go.Proofs Go.RowKit Go.Maps Go.Shelf Go.Sort
set_option linter.unusedVariables false
set_option linter.unusedSimpArgs false
theorem undo_last {P : PatchM} (ok : POk P) : P.undo P.last = (P, 0) := by
  have hl := ok.lst
  unfold PatchM.undo
  rw [if_neg (by omega), if_neg (by
    intro hh
    obtain ⟨j, hj, h2⟩ := List.any_eq_true.1 hh
    have := ok.dn j hj
    simp at h2; omega)]
  have : P.l.filter (fun x => decide (x.id ≤ P.last)) = P.l := List.filter_eq_self.2 fun x hx => by have := ok.rng x hx; simpa using this.2
  simp [this]
/-- bollard/alloc.ready -/
theorem c_readyE (vp d U : Nat) (V : VolM) (a b c : Int) (s : TH) (hv : VolL s vp d U V 0) (hU : 10 ≤ U) (hc : canG a b c) (hb : V.D.blocks.length < a * b) : TRet Tryz.prog 74 #[.pointer (some ⟨vp, 0, none⟩), .agg #[.int .i64 a, .int .i64 b, .int .i64 c]] s fun v s' => v = .int .i64 170 ∧ Ch [U, U + 30, U + 32] s s' ∧ VolL s' vp d U V 0 := by
  have hab : 1 * 8 ≤ a * b := Int.mul_le_mul (by unfold canG at hc; omega) (by unfold canG at hc; omega) (by omega) (by unfold canG at hc; omega)
  obtain ⟨M, hM, hM0, hMa, hMb, hMc, hMd, hMe, hMf⟩ := fresh6 s (U + 50) 0 0 0 0 0
  refine F74_calls _ _ _ _  ?_
  unfold F74
  refine al_t (M + 1) fun r1 s2 hr1 b_1 c_2 z_3 => ?_
  have h_4 := hv.mv c_2 (rngn50 (by simp))
  refine tcall (c_VLast _ _ _ _ _ (by omega) h_4) ?_
  rintro v_6 s_5 ⟨rfl, c_8, call1a⟩
  have z_9 := c_8.size
  refine dInt_i ?_
  refine tcall (c_VUndo _ _ _ _ _ _ (by omega) call1a) ?_
  rintro v_11 s_10 ⟨rfl, c_13, call2a⟩
  have z_14 := c_13.size
  rw [undo_last hv.pokk] at call2a ⊢
  refine dInt_i ?_
  refine sB_f (by rfl) ?_
  have h_15 := b_1.ch (c_8.app c_13) (by simp <;> omega)
  refine ld_t h_15 rfl ?_
  refine ld_t h_15 rfl ?_
  refine ld_t h_15 rfl ?_
  refine tcall (gc_can a b c _) ?_
  rintro v_17 s_16 ⟨rfl, c_19⟩
  have z_20 := c_19.size
  rw [if_pos hc]
  refine dInt_i ?_
  refine jn_u ?_
  refine jn_u ?_
  refine sB_t (by rfl) ?_
  have h_21 := h_15.ch c_19 (by simp)
  refine ld_t h_21 rfl ?_
  refine ld_t h_21 rfl ?_
  refine ld_t h_21 rfl ?_
  have h_22 := call2a.mv c_19 (rngn50 (by simp))
  refine tcall (c_VBlocks2 _ _ _ _ _ (by omega) h_22) ?_
  rintro v_24 s_23 ⟨rfl, c_26, call4a⟩
  have z_27 := c_26.size
  refine dInt_i ?_
  refine ⟨?_, ?_⟩
  ·
    have h_28 := h_21.ch c_26 (by simp <;> omega)
    refine ld_t h_28 rfl ?_
    refine ld_t h_28 rfl ?_
    refine ld_t h_28 rfl ?_
    rfl
  ·
    refine tcall (gc_blocks a b c hc _) ?_
    rintro v_30 s_29 ⟨rfl, c_32⟩
    have z_33 := c_32.size
    refine dInt_i ?_
    intro _
    intros
    refine dBl_i ?_
    refine sB_d (fun hsB3 => ?_) (fun hsB3 => ?_)
    ·
      intro _
      intros
      refine dInt_i ?_
      refine ret_t ?_
      have h_34 := call4a.mv c_32 (rngn50 (by simp))
      exact ⟨rfl, (((((((Ch.refl [U, U + 30, U + 32] s).ch c_2 (by simp)).ch c_8 (by simp)).ch c_13 (by simp)).ch c_19 (by simp)).ch c_26 (by simp)).ch c_32 (by simp)), h_34⟩
    ·
      intro _
      intros
      refine dInt_i ?_
      refine ret_t ?_
      have h_35 := call4a.mv c_32 (rngn50 (by simp))
      exfalso; simp_all
set_option maxRecDepth 20000 in
theorem dA41 {v0 v1 v2 v3 v4 v5 v6 v7 v8 v9 v10 v11 v12 v13 v14 v15 v16 v17 v18 v19 v20 v21 v22 v23 v24 v25 v26 v27 v28 v29 v30 v31 v32 v33 v34 v35 v36 v37 v38 v39 v40 : Value} {k : VF 41} (h : (k : Value → Value → Value → Value → Value → Value → Value → Value → Value → Value → Value → Value → Value → Value → Value → Value → Value → Value → Value → Value → Value → Value → Value → Value → Value → Value → Value → Value → Value → Value → Value → Value → Value → Value → Value → Value → Value → Value → Value → Value → Value → Prop) v0 v1 v2 v3 v4 v5 v6 v7 v8 v9 v10 v11 v12 v13 v14 v15 v16 v17 v18 v19 v20 v21 v22 v23 v24 v25 v26 v27 v28 v29 v30 v31 v32 v33 v34 v35 v36 v37 v38 v39 v40) : dA 41 (.agg ([v0, v1, v2, v3, v4, v5, v6, v7, v8, v9, v10, v11, v12, v13, v14, v15, v16, v17, v18, v19, v20, v21, v22, v23, v24, v25, v26, v27, v28, v29, v30, v31, v32, v33, v34, v35, v36, v37, v38, v39, v40] : List Value).toArray) k := h
set_option maxRecDepth 20000 in
theorem ld41 {s : TH} {r t τ : Nat} {w0 w1 w2 w3 w4 w5 w6 w7 w8 w9 w10 w11 w12 w13 w14 w15 w16 w17 w18 w19 w20 w21 w22 w23 w24 w25 w26 w27 w28 w29 w30 w31 w32 w33 w34 w35 w36 w37 w38 w39 w40 : Value} {k : Value → Value → Value → Value → Value → Value → Value → Value → Value → Value → Value → Value → Value → Value → Value → Value → Value → Value → Value → Value → Value → Value → Value → Value → Value → Value → Value → Value → Value → Value → Value → Value → Value → Value → Value → Value → Value → Value → Value → Value → Value → Prop} (h : Blk s r [w0, w1, w2, w3, w4, w5, w6, w7, w8, w9, w10, w11, w12, w13, w14, w15, w16, w17, w18, w19, w20, w21, w22, w23, w24, w25, w26, w27, w28, w29, w30, w31, w32, w33, w34, w35, w36, w37, w38, w39, w40] t τ) (hk : k w0 w1 w2 w3 w4 w5 w6 w7 w8 w9 w10 w11 w12 w13 w14 w15 w16 w17 w18 w19 w20 w21 w22 w23 w24 w25 w26 w27 w28 w29 w30 w31 w32 w33 w34 w35 w36 w37 w38 w39 w40) : ld s.h ⟨r, 0, none⟩ fun v0 => ld s.h ⟨r, 1, none⟩ fun v1 => ld s.h ⟨r, 2, none⟩ fun v2 => ld s.h ⟨r, 3, none⟩ fun v3 => ld s.h ⟨r, 4, none⟩ fun v4 => ld s.h ⟨r, 5, none⟩ fun v5 => ld s.h ⟨r, 6, none⟩ fun v6 => ld s.h ⟨r, 7, none⟩ fun v7 => ld s.h ⟨r, 8, none⟩ fun v8 => ld s.h ⟨r, 9, none⟩ fun v9 => ld s.h ⟨r, 10, none⟩ fun v10 => ld s.h ⟨r, 11, none⟩ fun v11 => ld s.h ⟨r, 12, none⟩ fun v12 => ld s.h ⟨r, 13, none⟩ fun v13 => ld s.h ⟨r, 14, none⟩ fun v14 => ld s.h ⟨r, 15, none⟩ fun v15 => ld s.h ⟨r, 16, none⟩ fun v16 => ld s.h ⟨r, 17, none⟩ fun v17 => ld s.h ⟨r, 18, none⟩ fun v18 => ld s.h ⟨r, 19, none⟩ fun v19 => ld s.h ⟨r, 20, none⟩ fun v20 => ld s.h ⟨r, 21, none⟩ fun v21 => ld s.h ⟨r, 22, none⟩ fun v22 => ld s.h ⟨r, 23, none⟩ fun v23 => ld s.h ⟨r, 24, none⟩ fun v24 => ld s.h ⟨r, 25, none⟩ fun v25 => ld s.h ⟨r, 26, none⟩ fun v26 => ld s.h ⟨r, 27, none⟩ fun v27 => ld s.h ⟨r, 28, none⟩ fun v28 => ld s.h ⟨r, 29, none⟩ fun v29 => ld s.h ⟨r, 30, none⟩ fun v30 => ld s.h ⟨r, 31, none⟩ fun v31 => ld s.h ⟨r, 32, none⟩ fun v32 => ld s.h ⟨r, 33, none⟩ fun v33 => ld s.h ⟨r, 34, none⟩ fun v34 => ld s.h ⟨r, 35, none⟩ fun v35 => ld s.h ⟨r, 36, none⟩ fun v36 => ld s.h ⟨r, 37, none⟩ fun v37 => ld s.h ⟨r, 38, none⟩ fun v38 => ld s.h ⟨r, 39, none⟩ fun v39 => ld s.h ⟨r, 40, none⟩ fun v40 => k v0 v1 v2 v3 v4 v5 v6 v7 v8 v9 v10 v11 v12 v13 v14 v15 v16 v17 v18 v19 v20 v21 v22 v23 v24 v25 v26 v27 v28 v29 v30 v31 v32 v33 v34 v35 v36 v37 v38 v39 v40 := by
  refine ld_t h rfl ?_
  refine ld_t h rfl ?_
  refine ld_t h rfl ?_
  refine ld_t h rfl ?_
  refine ld_t h rfl ?_
  refine ld_t h rfl ?_
  refine ld_t h rfl ?_
  refine ld_t h rfl ?_
  refine ld_t h rfl ?_
  refine ld_t h rfl ?_
  refine ld_t h rfl ?_
  refine ld_t h rfl ?_
  refine ld_t h rfl ?_
  refine ld_t h rfl ?_
  refine ld_t h rfl ?_
  refine ld_t h rfl ?_
  refine ld_t h rfl ?_
  refine ld_t h rfl ?_
  refine ld_t h rfl ?_
  refine ld_t h rfl ?_
  refine ld_t h rfl ?_
  refine ld_t h rfl ?_
  refine ld_t h rfl ?_
  refine ld_t h rfl ?_
  refine ld_t h rfl ?_
  refine ld_t h rfl ?_
  refine ld_t h rfl ?_
  refine ld_t h rfl ?_
  refine ld_t h rfl ?_
  refine ld_t h rfl ?_
  refine ld_t h rfl ?_
  refine ld_t h rfl ?_
  refine ld_t h rfl ?_
  refine ld_t h rfl ?_
  refine ld_t h rfl ?_
  refine ld_t h rfl ?_
  refine ld_t h rfl ?_
  refine ld_t h rfl ?_
  refine ld_t h rfl ?_
  refine ld_t h rfl ?_
  refine ld_t h rfl ?_
  exact hk
/-- cells stored one behind another -/
def stsL (H : Heap) (r : Nat) : Nat → List Value → (Heap → Prop) → Prop
  | _, [], k => k H
  | i, v :: vs, k => st H ⟨r, i, none⟩ v fun H' => stsL H' r (i + 1) vs k
theorem stsL_t {r t τ : Nat} {k : Heap → Prop} : ∀ (vs : List Value) (i : Nat) (l : List Value) (s : TH), Blk s r l t τ → l.length = i + vs.length → (∀ v ∈ vs, oneC v = true) →
    (∀ s' : TH, Blk s' r (l.take i ++ vs) t τ → On r s s' → s.h.size = s'.h.size → k s'.h) → stsL s.h r i vs k
  | [], i, l, s, h, hl, h1, hk => by
    refine hk s ?_ ⟨Nat.le_refl _, fun _ _ => rfl, fun _ _ _ => rfl⟩ rfl
    rw [List.take_of_length_le (by simp at hl; omega), List.append_nil]; exact h
  | v :: vs, i, l, s, h, hl, h1, hk => by
    rw [List.length_cons] at hl
    refine st_t h (h1 v (by simp)) (by omega) fun s' b c z => ?_
    refine stsL_t vs (i + 1) (l.set i v) s' b (by rw [List.length_set]; omega) (fun u hu => h1 u (by simp [hu])) fun s2 b2 c2 z2 => hk s2 ?_ (c.trans c2 fun _ _ h => h) (z.trans z2)
    have e : (l.set i v).take (i + 1) ++ vs = l.take i ++ v :: vs := by
      rw [List.take_add_one, List.getElem?_set_self (by omega), List.take_set_of_le (Nat.le_refl _)]
      simp
    rw [← e]; exact b2
theorem gv_one (n : Int) (il bl : List UInt8) : ∀ v ∈ gv n il bl, oneC v = true := by
  intro v hv
  unfold gv at hv
  rcases List.mem_cons.1 hv with rfl | hv
  · rfl
  · rcases List.mem_append.1 hv with hv | hv <;> (unfold bvs at hv; obtain ⟨b, _, rfl⟩ := List.mem_map.1 hv; rfl)
set_option maxRecDepth 20000 in
/-- all cells of a header are stored -/
theorem stG {s : TH} {r t τ : Nat} {l : List Value} {k : Heap → Prop} (n : Int) {il bl : List UInt8} (h8 : il.length = 8) (h32 : bl.length = 32) {v0 v1 v2 v3 v4 v5 v6 v7 v8 v9 v10 v11 v12 v13 v14 v15 v16 v17 v18 v19 v20 v21 v22 v23 v24 v25 v26 v27 v28 v29 v30 v31 v32 v33 v34 v35 v36 v37 v38 v39 v40 : Value} (he : gv n il bl = [v0, v1, v2, v3, v4, v5, v6, v7, v8, v9, v10, v11, v12, v13, v14, v15, v16, v17, v18, v19, v20, v21, v22, v23, v24, v25, v26, v27, v28, v29, v30, v31, v32, v33, v34, v35, v36, v37, v38, v39, v40]) (h : Blk s r l t τ) (hl : l.length = 41)
    (hk : ∀ s' : TH, Blk s' r (gv n il bl) t τ → On r s s' → s.h.size = s'.h.size → k s'.h) : st s.h ⟨r, 0, none⟩ v0 fun H0 => st H0 ⟨r, 1, none⟩ v1 fun H1 => st H1 ⟨r, 2, none⟩ v2 fun H2 => st H2 ⟨r, 3, none⟩ v3 fun H3 => st H3 ⟨r, 4, none⟩ v4 fun H4 => st H4 ⟨r, 5, none⟩ v5 fun H5 => st H5 ⟨r, 6, none⟩ v6 fun H6 => st H6 ⟨r, 7, none⟩ v7 fun H7 => st H7 ⟨r, 8, none⟩ v8 fun H8 => st H8 ⟨r, 9, none⟩ v9 fun H9 => st H9 ⟨r, 10, none⟩ v10 fun H10 => st H10 ⟨r, 11, none⟩ v11 fun H11 => st H11 ⟨r, 12, none⟩ v12 fun H12 => st H12 ⟨r, 13, none⟩ v13 fun H13 => st H13 ⟨r, 14, none⟩ v14 fun H14 => st H14 ⟨r, 15, none⟩ v15 fun H15 => st H15 ⟨r, 16, none⟩ v16 fun H16 => st H16 ⟨r, 17, none⟩ v17 fun H17 => st H17 ⟨r, 18, none⟩ v18 fun H18 => st H18 ⟨r, 19, none⟩ v19 fun H19 => st H19 ⟨r, 20, none⟩ v20 fun H20 => st H20 ⟨r, 21, none⟩ v21 fun H21 => st H21 ⟨r, 22, none⟩ v22 fun H22 => st H22 ⟨r, 23, none⟩ v23 fun H23 => st H23 ⟨r, 24, none⟩ v24 fun H24 => st H24 ⟨r, 25, none⟩ v25 fun H25 => st H25 ⟨r, 26, none⟩ v26 fun H26 => st H26 ⟨r, 27, none⟩ v27 fun H27 => st H27 ⟨r, 28, none⟩ v28 fun H28 => st H28 ⟨r, 29, none⟩ v29 fun H29 => st H29 ⟨r, 30, none⟩ v30 fun H30 => st H30 ⟨r, 31, none⟩ v31 fun H31 => st H31 ⟨r, 32, none⟩ v32 fun H32 => st H32 ⟨r, 33, none⟩ v33 fun H33 => st H33 ⟨r, 34, none⟩ v34 fun H34 => st H34 ⟨r, 35, none⟩ v35 fun H35 => st H35 ⟨r, 36, none⟩ v36 fun H36 => st H36 ⟨r, 37, none⟩ v37 fun H37 => st H37 ⟨r, 38, none⟩ v38 fun H38 => st H38 ⟨r, 39, none⟩ v39 fun H39 => st H39 ⟨r, 40, none⟩ v40 fun H40 => k H40 := by
  have h0 := stsL_t (k := k) (gv n il bl) 0 l s h (by rw [gv_len h8 h32, hl]) (gv_one n il bl) fun s' b c z => hk s' (by simpa using b) c z
  rw [he] at h0
  exact h0
/-- where a group's header lies -/
def hB (n B : Nat) : Int := (n : Int) * (B : Int) + 1
end Go.Proofs.YtngploohhmfaiaaGreat.E
/- The functions' forms in the engine's words, printed by my own program. -/
namespace Go.Proofs.YtngploohhmfaiaaGreat.E
open Go Go.Proofs
set_option linter.unusedVariables false
set_option maxRecDepth 30000
/-- bollard/bollardlaw11.AllocNobody -/
def F11 (x0_0 : Value) (x0_1 : Value) (x0_2 : Value) (x1 : Int) (R : Ending → Heap → Prop) (H : Heap) : Prop :=
  al H (Obj.cells #[x0_0, x0_1, x0_2] 32) (fun r1 H2 =>
  al H2 (Obj.cells #[Value.int IntKind.i32 0, Value.int IntKind.u32 0, Value.pointer none, Value.pointer none, Value.pointer none, Value.map none, Value.bool false, Value.bool false, Value.int IntKind.i64 0, Value.map none] 57) (fun r3 H4 =>
  al H4 (Obj.cells #[Value.pointer none, Value.pointer (some (Addr.mk r3 0 none))] 30) (fun r5 H6 =>
  ∃ I7 : List Value → Heap → Prop,
  ∃ I8 : List Value → Heap → Nat,
  (I7 ([Value.int IntKind.i64 0]) H6) ∧
  ∀ n9 : Int,
  ∀ v10 v11 v12 v13 v14 v15 v16 v17 v18 v19 v20 v21 v22 v23 v24 v25 v26 v27 v28 v29 v30 v31 v32 v33 v34 v35 v36 v37 v38 v39 v40 v41 v42 v43 v44 v45 v46 v47 v48 v49 v50 v51 v52 v53 v54 v55 v56 v57 v58 v59 v60 v61 v62 v63 v64 v65 v66 v67 v68 v69 v70 v71 v72 v73 v74 v75 v76 v77 v78 v79 v80 v81 v82 v83 v84 v85 v86 v87 v88 v89 v90 v91 v92 v93 v94 v95 v96 v97 v98 v99 v100 v101 v102 v103 v104 v105 v106 v107 v108 v109 v110 : Value,
  ∀ H111 : Heap,
  (I7 ([Value.int IntKind.i64 n9]) H111) →
  sB (decide (n9 < 2)) (ask ((0 : Int) ≤ n9 ∧ n9 < (2 : Int)) (ld H111 (Addr.add (Addr.mk r5 0 none) (Int.toNat n9 * 1)) (fun v113 =>
  dPtr v113 (fun p114 =>
  ld H111 (Addr.mk r1 0 none) (fun v115 =>
  ld H111 (Addr.mk r1 1 none) (fun v116 =>
  ld H111 (Addr.mk r1 2 none) (fun v117 =>
  HCalls Tryz.prog 27 #[Value.pointer p114, Value.agg #[v115, v116, v117], Value.int IntKind.i64 x1] H111 (Sp.retK (fun v118 H119 =>
  dT 2 v118 (fun v120 v121 =>
  dA 41 v120 (fun v122 v123 v124 v125 v126 v127 v128 v129 v130 v131 v132 v133 v134 v135 v136 v137 v138 v139 v140 v141 v142 v143 v144 v145 v146 v147 v148 v149 v150 v151 v152 v153 v154 v155 v156 v157 v158 v159 v160 v161 v162 =>
  dInt IntKind.i64 v121 (fun n163 =>
  al H119 (Obj.cells #[Value.int IntKind.i64 0, Value.int IntKind.u8 0, Value.int IntKind.u8 0, Value.int IntKind.u8 0, Value.int IntKind.u8 0, Value.int IntKind.u8 0, Value.int IntKind.u8 0, Value.int IntKind.u8 0, Value.int IntKind.u8 0, Value.int IntKind.u8 0, Value.int IntKind.u8 0, Value.int IntKind.u8 0, Value.int IntKind.u8 0, Value.int IntKind.u8 0, Value.int IntKind.u8 0, Value.int IntKind.u8 0, Value.int IntKind.u8 0, Value.int IntKind.u8 0, Value.int IntKind.u8 0, Value.int IntKind.u8 0, Value.int IntKind.u8 0, Value.int IntKind.u8 0, Value.int IntKind.u8 0, Value.int IntKind.u8 0, Value.int IntKind.u8 0, Value.int IntKind.u8 0, Value.int IntKind.u8 0, Value.int IntKind.u8 0, Value.int IntKind.u8 0, Value.int IntKind.u8 0, Value.int IntKind.u8 0, Value.int IntKind.u8 0, Value.int IntKind.u8 0, Value.int IntKind.u8 0, Value.int IntKind.u8 0, Value.int IntKind.u8 0, Value.int IntKind.u8 0, Value.int IntKind.u8 0, Value.int IntKind.u8 0, Value.int IntKind.u8 0, Value.int IntKind.u8 0] 77) (fun r164 H165 =>
  st H165 (Addr.mk r164 0 none) v122 (fun H166 =>
  st H166 (Addr.mk r164 1 none) v123 (fun H167 =>
  st H167 (Addr.mk r164 2 none) v124 (fun H168 =>
  st H168 (Addr.mk r164 3 none) v125 (fun H169 =>
  st H169 (Addr.mk r164 4 none) v126 (fun H170 =>
  st H170 (Addr.mk r164 5 none) v127 (fun H171 =>
  st H171 (Addr.mk r164 6 none) v128 (fun H172 =>
  st H172 (Addr.mk r164 7 none) v129 (fun H173 =>
  st H173 (Addr.mk r164 8 none) v130 (fun H174 =>
  st H174 (Addr.mk r164 9 none) v131 (fun H175 =>
  st H175 (Addr.mk r164 10 none) v132 (fun H176 =>
  st H176 (Addr.mk r164 11 none) v133 (fun H177 =>
  st H177 (Addr.mk r164 12 none) v134 (fun H178 =>
  st H178 (Addr.mk r164 13 none) v135 (fun H179 =>
  st H179 (Addr.mk r164 14 none) v136 (fun H180 =>
  st H180 (Addr.mk r164 15 none) v137 (fun H181 =>
  st H181 (Addr.mk r164 16 none) v138 (fun H182 =>
  st H182 (Addr.mk r164 17 none) v139 (fun H183 =>
  st H183 (Addr.mk r164 18 none) v140 (fun H184 =>
  st H184 (Addr.mk r164 19 none) v141 (fun H185 =>
  st H185 (Addr.mk r164 20 none) v142 (fun H186 =>
  st H186 (Addr.mk r164 21 none) v143 (fun H187 =>
  st H187 (Addr.mk r164 22 none) v144 (fun H188 =>
  st H188 (Addr.mk r164 23 none) v145 (fun H189 =>
  st H189 (Addr.mk r164 24 none) v146 (fun H190 =>
  st H190 (Addr.mk r164 25 none) v147 (fun H191 =>
  st H191 (Addr.mk r164 26 none) v148 (fun H192 =>
  st H192 (Addr.mk r164 27 none) v149 (fun H193 =>
  st H193 (Addr.mk r164 28 none) v150 (fun H194 =>
  st H194 (Addr.mk r164 29 none) v151 (fun H195 =>
  st H195 (Addr.mk r164 30 none) v152 (fun H196 =>
  st H196 (Addr.mk r164 31 none) v153 (fun H197 =>
  st H197 (Addr.mk r164 32 none) v154 (fun H198 =>
  st H198 (Addr.mk r164 33 none) v155 (fun H199 =>
  st H199 (Addr.mk r164 34 none) v156 (fun H200 =>
  st H200 (Addr.mk r164 35 none) v157 (fun H201 =>
  st H201 (Addr.mk r164 36 none) v158 (fun H202 =>
  st H202 (Addr.mk r164 37 none) v159 (fun H203 =>
  st H203 (Addr.mk r164 38 none) v160 (fun H204 =>
  st H204 (Addr.mk r164 39 none) v161 (fun H205 =>
  st H205 (Addr.mk r164 40 none) v162 (fun H206 =>
  ld H206 (Addr.mk r1 0 none) (fun v207 =>
  ld H206 (Addr.mk r1 1 none) (fun v208 =>
  ld H206 (Addr.mk r1 2 none) (fun v209 =>
  HCalls Tryz.prog 29 #[Value.pointer p114, Value.agg #[v207, v208, v209], Value.int IntKind.i64 x1, Value.slice none 0 0] H206 (Sp.retK (fun v210 H211 =>
  dT 3 v210 (fun v212 v213 v214 =>
  dInt IntKind.i64 v212 (fun n215 =>
  dInt IntKind.i64 v213 (fun n216 =>
  dInt IntKind.i64 v214 (fun n217 =>
  ld H211 (Addr.mk r1 0 none) (fun v218 =>
  ld H211 (Addr.mk r1 1 none) (fun v219 =>
  ld H211 (Addr.mk r1 2 none) (fun v220 =>
  HCalls Tryz.prog 40 #[Value.pointer p114, Value.agg #[v218, v219, v220], Value.int IntKind.i64 x1, Value.bool true] H211 (Sp.retK (fun v221 H222 =>
  dT 3 v221 (fun v223 v224 v225 =>
  dInt IntKind.i64 v223 (fun n226 =>
  dInt IntKind.i64 v224 (fun n227 =>
  dInt IntKind.i64 v225 (fun n228 =>
  ld H222 (Addr.mk r1 0 none) (fun v229 =>
  ld H222 (Addr.mk r1 1 none) (fun v230 =>
  ld H222 (Addr.mk r1 2 none) (fun v231 =>
  HCalls Tryz.prog 42 #[Value.pointer p114, Value.agg #[v229, v230, v231], Value.int IntKind.i64 x1, Value.slice none 0 0] H222 (Sp.retK (fun v232 H233 =>
  dT 2 v232 (fun v234 v235 =>
  dInt IntKind.i64 v234 (fun n236 =>
  dInt IntKind.i64 v235 (fun n237 =>
  ld H233 (Addr.mk r1 0 none) (fun v238 =>
  ld H233 (Addr.mk r1 1 none) (fun v239 =>
  ld H233 (Addr.mk r1 2 none) (fun v240 =>
  HCalls Tryz.prog 49 #[Value.pointer p114, Value.agg #[v238, v239, v240], Value.int IntKind.i64 x1, Value.slice none 0 0] H233 (Sp.retK (fun v241 H242 =>
  dT 2 v241 (fun v243 v244 =>
  dInt IntKind.i64 v243 (fun n245 =>
  dInt IntKind.i64 v244 (fun n246 =>
  ld H242 (Addr.mk r1 0 none) (fun v247 =>
  ld H242 (Addr.mk r1 1 none) (fun v248 =>
  ld H242 (Addr.mk r1 2 none) (fun v249 =>
  HCalls Tryz.prog 41 #[Value.pointer p114, Value.agg #[v247, v248, v249], Value.int IntKind.i64 x1] H242 (Sp.retK (fun v250 H251 =>
  dT 2 v250 (fun v252 v253 =>
  dBl v252 (fun b254 =>
  dInt IntKind.i64 v253 (fun n255 =>
  ld H251 (Addr.mk r1 0 none) (fun v256 =>
  ld H251 (Addr.mk r1 1 none) (fun v257 =>
  ld H251 (Addr.mk r1 2 none) (fun v258 =>
  HCalls Tryz.prog 50 #[Value.pointer p114, Value.agg #[v256, v257, v258], Value.int IntKind.i64 x1] H251 (Sp.retK (fun v259 H260 =>
  dT 2 v259 (fun v261 v262 =>
  dBl v261 (fun b263 =>
  dInt IntKind.i64 v262 (fun n264 =>
  ld H260 (Addr.mk r1 0 none) (fun v265 =>
  ld H260 (Addr.mk r1 1 none) (fun v266 =>
  ld H260 (Addr.mk r1 2 none) (fun v267 =>
  HCalls Tryz.prog 39 #[Value.pointer p114, Value.agg #[v265, v266, v267]] H260 (Sp.retK (fun v268 H269 =>
  dT 3 v268 (fun v270 v271 v272 =>
  dInt IntKind.i64 v270 (fun n273 =>
  dInt IntKind.i64 v271 (fun n274 =>
  dInt IntKind.i64 v272 (fun n275 =>
  al H269 (Obj.cells #[Value.int IntKind.i64 n163, Value.int IntKind.i64 n217, Value.int IntKind.i64 n228, Value.int IntKind.i64 n237, Value.int IntKind.i64 n246, Value.int IntKind.i64 n255, Value.int IntKind.i64 n264, Value.int IntKind.i64 n275] 39) (fun r276 H277 =>
  ∃ I278 : List Value → Heap → Prop,
  ∃ I279 : List Value → Heap → Nat,
  (I278 ([Value.int IntKind.i64 0]) H277) ∧
  ∀ n280 : Int,
  ∀ v281 v282 v283 v284 v285 v286 v287 v288 : Value,
  ∀ H289 : Heap,
  (I278 ([Value.int IntKind.i64 n280]) H289) →
  sB (decide (n280 < 8)) (ask ((0 : Int) ≤ n280 ∧ n280 < (8 : Int)) (ld H289 (Addr.add (Addr.mk r276 0 none) (Int.toNat n280 * 1)) (fun v291 =>
  dInt IntKind.i64 v291 (fun n292 =>
  sB (n292 != 2) (R (Ending.returned (Value.bool false)) H289) (wr IntKind.i64 (n280 + 1) (fun n293 =>
  (I278 ([Value.int IntKind.i64 n293]) H289) ∧
  (I279 [Value.int IntKind.i64 n293] H289) < (I279 [Value.int IntKind.i64 n280] H289))))))) (wr IntKind.i64 (n9 + 1) (fun n294 =>
  (I7 ([Value.int IntKind.i64 n294]) H289) ∧
  (I8 [Value.int IntKind.i64 n294] H289) < (I8 [Value.int IntKind.i64 n9] H111))))))))) (pnR R))))))))) (pnR R))))))))) (pnR R))))))))) (pnR R))))))))) (pnR R)))))))))) (pnR R)))))))))) (pnR R))))))))))))))))))))))))))))))))))))))))))))))))))) (pnR R))))))))) (HCalls Tryz.prog 23 #[Value.agg #[Value.int IntKind.i64 1, Value.int IntKind.i64 8, Value.int IntKind.i64 4]] H111 (Sp.retK (fun v311 H312 =>
  dT 3 v311 (fun v313 v314 v315 =>
  dPtr v313 (fun p316 =>
  dA 3 v314 (fun v317 v318 v319 =>
  dBl v315 (fun b320 =>
  al H312 (Obj.cells #[Value.int IntKind.i64 0, Value.int IntKind.i64 0, Value.int IntKind.i64 0] 32) (fun r321 H322 =>
  st H322 (Addr.mk r321 0 none) v317 (fun H323 =>
  st H323 (Addr.mk r321 1 none) v318 (fun H324 =>
  st H324 (Addr.mk r321 2 none) v319 (fun H325 =>
  sB (!b320) (R (Ending.returned (Value.bool false)) H325) (nz p316 (fun a326 =>
  ld H325 (Addr.add a326 1) (fun v327 =>
  dPtr v327 (fun p328 =>
  HCalls Tryz.prog 29 #[Value.pointer p328, Value.agg #[Value.int IntKind.i64 8, Value.int IntKind.i64 256, Value.int IntKind.i64 64], Value.int IntKind.i64 0, Value.slice none 0 0] H325 (Sp.retK (fun v329 H330 =>
  dT 3 v329 (fun v331 v332 v333 =>
  dInt IntKind.i64 v331 (fun n334 =>
  dInt IntKind.i64 v332 (fun n335 =>
  dInt IntKind.i64 v333 (fun n336 =>
  R (Ending.returned (Value.bool (n336 == 170))) H330))))) (pnR R))))))))))))))) (pnR R))))))
theorem F11_eq (x0_0 : Value) (x0_1 : Value) (x0_2 : Value) (x1 : Int) (R : Ending → Heap → Prop) (H : Heap) : F11 x0_0 x0_1 x0_2 x1 R H = vc Tryz.prog (codeOf Tryz.f11) (.node none .leaf (.node none (.node none .leaf (.node none (.node (some ⟨[(38, 3)], [4, 6, 7, 8, 9, 10, 11, 12, 13, 14, 15, 16, 17, 18, 19, 20, 21, 22, 23, 24, 25, 27, 39, 40, 41, 42, 43, 44, 45, 46, 47, 48, 49, 50, 51, 52, 53, 54, 55, 56, 57, 58, 59, 60, 61, 62, 63, 64, 65, 66, 67, 68, 69, 70, 71, 72, 73, 74, 75, 76, 77, 78, 79, 80, 81, 82, 83, 84, 85, 86, 87, 88, 89, 90, 91, 92, 93, 94, 95, 96, 97, 98, 99, 100, 101, 102, 103, 104, 105, 106, 107, 108, 109, 110, 111, 112, 113, 114, 115, 116, 117]⟩) (.node none .leaf (.node none .leaf (.node none (.node none (.node none .leaf (.node none .leaf (.node none .leaf (.node none .leaf (.node none .leaf (.node none .leaf (.node none .leaf (.node none .leaf (.node none .leaf (.node none .leaf (.node none (.node (some ⟨[(110, 3)], [4, 27, 111, 112, 113, 114, 115, 116]⟩) .leaf .leaf) .leaf))))))))))) .leaf) .leaf))) .leaf) .leaf)) .leaf)) (postV Tryz.prog Tryz.f11 R) ⟨#[Value.agg #[x0_0, x0_1, x0_2], Value.int IntKind.i64 x1] ++ Array.replicate (Tryz.f11.ntmps - 2) undef, []⟩ H := by kernel_rfl
theorem F11_calls {R : Ending → Heap → Prop} {H : Heap} (x0_0 : Value) (x0_1 : Value) (x0_2 : Value) (x1 : Int) (h : F11 x0_0 x0_1 x0_2 x1 R H) : HCalls Tryz.prog 11 #[Value.agg #[x0_0, x0_1, x0_2], Value.int IntKind.i64 x1] H R :=
  calls_by (F := F11 x0_0 x0_1 x0_2 x1 R H) (.node none .leaf (.node none (.node none .leaf (.node none (.node (some ⟨[(38, 3)], [4, 6, 7, 8, 9, 10, 11, 12, 13, 14, 15, 16, 17, 18, 19, 20, 21, 22, 23, 24, 25, 27, 39, 40, 41, 42, 43, 44, 45, 46, 47, 48, 49, 50, 51, 52, 53, 54, 55, 56, 57, 58, 59, 60, 61, 62, 63, 64, 65, 66, 67, 68, 69, 70, 71, 72, 73, 74, 75, 76, 77, 78, 79, 80, 81, 82, 83, 84, 85, 86, 87, 88, 89, 90, 91, 92, 93, 94, 95, 96, 97, 98, 99, 100, 101, 102, 103, 104, 105, 106, 107, 108, 109, 110, 111, 112, 113, 114, 115, 116, 117]⟩) (.node none .leaf (.node none .leaf (.node none (.node none (.node none .leaf (.node none .leaf (.node none .leaf (.node none .leaf (.node none .leaf (.node none .leaf (.node none .leaf (.node none .leaf (.node none .leaf (.node none .leaf (.node none (.node (some ⟨[(110, 3)], [4, 27, 111, 112, 113, 114, 115, 116]⟩) .leaf .leaf) .leaf))))))))))) .leaf) .leaf))) .leaf) .leaf)) .leaf)) Tryz.func11 rfl (F11_eq x0_0 x0_1 x0_2 x1 R H) h
end Go.Proofs.YtngploohhmfaiaaGreat.E
