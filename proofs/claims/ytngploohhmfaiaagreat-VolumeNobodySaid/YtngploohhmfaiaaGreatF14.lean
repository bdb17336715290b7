/- The functions' forms in the engine's words, printed by my own program. -/
import Derived.Test.YtngploohhmfaiaaGreatProg
import Derived.Test.YtngploohhmfaiaaGreatEng11
import Derived.KernelRfl
namespace Go.Proofs.YtngploohhmfaiaaGreat.E
open Go Go.Proofs
set_option linter.unusedVariables false
/-- bollard/bollardlaw09.VolumeNobody -/
def F14 (x0 : Int) (x1 : Int) (R : Ending → Heap → Prop) (H : Heap) : Prop :=
  al H (Obj.cells #[Value.int IntKind.i32 0, Value.int IntKind.u32 0, Value.pointer none, Value.pointer none, Value.pointer none, Value.map none, Value.bool false, Value.bool false, Value.int IntKind.i64 0, Value.map none] 57) (fun r1 H2 =>
  al H2 (Obj.cells #[Value.pointer none, Value.pointer (some (Addr.mk r1 0 none))] 30) (fun r3 H4 =>
  ∃ I5 : List Value → Heap → Prop,
  ∃ I6 : List Value → Heap → Nat,
  (I5 ([Value.int IntKind.i64 0]) H4) ∧
  ∀ n7 : Int,
  ∀ v8 v9 v10 v11 v12 v13 v14 v15 v16 v17 v18 v19 v20 v21 v22 v23 v24 v25 v26 v27 v28 v29 v30 v31 v32 v33 v34 v35 v36 v37 v38 v39 v40 v41 v42 v43 v44 v45 v46 v47 v48 v49 v50 v51 v52 v53 v54 v55 v56 v57 v58 v59 v60 v61 v62 v63 v64 v65 v66 v67 v68 v69 v70 v71 v72 v73 v74 v75 v76 v77 v78 v79 v80 v81 v82 v83 v84 v85 v86 v87 v88 v89 v90 v91 v92 v93 v94 v95 v96 v97 v98 v99 v100 v101 v102 v103 v104 v105 v106 v107 v108 v109 v110 v111 v112 v113 v114 v115 v116 v117 v118 v119 v120 v121 v122 v123 v124 v125 v126 v127 v128 v129 v130 v131 : Value,
  ∀ H132 : Heap,
  (I5 ([Value.int IntKind.i64 n7]) H132) →
  sB (decide (n7 < 2)) (ask ((0 : Int) ≤ n7 ∧ n7 < (2 : Int)) (ld H132 (Addr.add (Addr.mk r3 0 none) (Int.toNat n7 * 1)) (fun v134 =>
  dPtr v134 (fun p135 =>
  HCalls Tryz.prog 26 #[Value.pointer p135, Value.int IntKind.i64 x0] H132 (Sp.retK (fun v136 H137 =>
  dT 2 v136 (fun v138 v139 =>
  dSl v138 (fun p140 r141 r142 =>
  dInt IntKind.i64 v139 (fun n143 =>
  al H137 (Obj.cells #[Value.int IntKind.u8 1] 5) (fun r144 H145 =>
  HCalls Tryz.prog 25 #[Value.pointer p135, Value.int IntKind.i64 x0, Value.int IntKind.i64 0, Value.slice (some (Addr.mk r144 0 none)) 1 1, Value.slice none 0 0] H145 (Sp.retK (fun v146 H147 =>
  dT 2 v146 (fun v148 v149 =>
  dInt IntKind.i64 v148 (fun n150 =>
  dInt IntKind.i64 v149 (fun n151 =>
  HCalls Tryz.prog 55 #[Value.pointer p135, Value.int IntKind.i64 x0] H147 (Sp.retK (fun v152 H153 =>
  dT 2 v152 (fun v154 v155 =>
  dSl v154 (fun p156 r157 r158 =>
  dInt IntKind.i64 v155 (fun n159 =>
  jn (α := VFH 1) (fun v160 H161 =>
  ∀ v162 v163 v164 v165 v166 v167 v168 v169 v170 v171 v172 v173 v174 v175 v176 v177 v178 v179 v180 v181 v182 v183 v184 v185 v186 v187 v188 v189 v190 v191 v192 v193 v194 v195 v196 v197 v198 v199 v200 : Value,
  dBl v160 (fun b201 =>
  sB b201 (R (Ending.returned (Value.bool false)) H161) (jn (α := VFH 1) (fun v202 H203 =>
  ∀ v204 v205 v206 v207 v208 v209 v210 v211 v212 v213 v214 v215 v216 v217 v218 v219 v220 v221 v222 v223 v224 v225 v226 v227 v228 v229 v230 v231 v232 v233 v234 v235 v236 v237 v238 v239 v240 v241 v242 v243 v244 v245 v246 v247 v248 v249 v250 v251 v252 v253 v254 v255 : Value,
  dBl v202 (fun b256 =>
  sB b256 (R (Ending.returned (Value.bool false)) H203) (wr IntKind.i64 (n7 + 1) (fun n257 =>
  (I5 ([Value.int IntKind.i64 n257]) H203) ∧
  (I6 [Value.int IntKind.i64 n257] H203) < (I6 [Value.int IntKind.i64 n7] H132))))) (fun k258 =>
  HCalls Tryz.prog 59 #[Value.pointer p135, Value.slice none 0 0] H161 (Sp.retK (fun v259 H260 =>
  dInt IntKind.i64 v259 (fun n261 =>
  sB (n261 != 2) (k258 (Value.bool true) H260) (HCalls Tryz.prog 51 #[Value.pointer p135, Value.int IntKind.i64 x1] H260 (Sp.retK (fun v262 H263 =>
  dInt IntKind.i64 v262 (fun n264 =>
  sB (n264 != 2) (k258 (Value.bool true) H263) (HCalls Tryz.prog 61 #[Value.pointer p135] H263 (Sp.retK (fun v265 H266 =>
  dInt IntKind.i64 v265 (fun n267 =>
  sB (n267 != 2) (k258 (Value.bool true) H266) (HCalls Tryz.prog 60 #[Value.pointer p135, Value.int IntKind.i64 x1] H266 (Sp.retK (fun v268 H269 =>
  dBl v268 (fun b270 =>
  sB b270 (k258 (Value.bool true) H269) (HCalls Tryz.prog 57 #[Value.pointer p135] H269 (Sp.retK (fun v271 H272 =>
  dBl v271 (fun b273 =>
  sB b273 (k258 (Value.bool true) H272) (HCalls Tryz.prog 58 #[Value.pointer p135] H272 (Sp.retK (fun v274 H275 =>
  dInt IntKind.i64 v274 (fun n276 =>
  HCalls Tryz.prog 52 #[Value.pointer p135] H275 (Sp.retK (fun v277 H278 =>
  dInt IntKind.i64 v277 (fun n279 =>
  wr IntKind.i64 (n276 + n279) (fun n280 =>
  HCalls Tryz.prog 24 #[Value.pointer p135] H278 (Sp.retK (fun v281 H282 =>
  dInt IntKind.i64 v281 (fun n283 =>
  wr IntKind.i64 (n280 + n283) (fun n284 =>
  sB (n284 != 0) (k258 (Value.bool true) H282) (HCalls Tryz.prog 45 #[Value.pointer p135] H282 (Sp.retK (fun v285 H286 =>
  dSl v285 (fun p287 r288 r289 =>
  HCalls Tryz.prog 62 #[Value.pointer p135, Value.int IntKind.i64 x0] H286 (Sp.retK (fun v290 H291 =>
  dSl v290 (fun p292 r293 r294 =>
  wr IntKind.i64 ((↑r288 : Int) + (↑r293 : Int)) (fun n295 =>
  HCalls Tryz.prog 32 #[Value.pointer p135] H291 (Sp.retK (fun v296 H297 =>
  dSl v296 (fun p298 r299 r300 =>
  wr IntKind.i64 (n295 + (↑r299 : Int)) (fun n301 =>
  HCalls Tryz.prog 34 #[Value.pointer p135] H297 (Sp.retK (fun v302 H303 =>
  dSl v302 (fun p304 r305 r306 =>
  wr IntKind.i64 (n301 + (↑r305 : Int)) (fun n307 =>
  k258 (Value.bool (decide (n307 > 0))) H303))) (pnR R))))) (pnR R))))) (pnR R)))) (pnR R)))))) (pnR R))))) (pnR R)))) (pnR R))))) (pnR R))))) (pnR R))))) (pnR R))))) (pnR R))))) (pnR R)))))) (fun k332 =>
  wr IntKind.i64 ((↑r141 : Int) + (↑r157 : Int)) (fun n333 =>
  sB (decide (n333 > 0)) (k332 (Value.bool true) H153) (sB (n150 != 0) (k332 (Value.bool true) H153) (sB (n143 != 2) (k332 (Value.bool true) H153) (sB (n151 != 2) (k332 (Value.bool true) H153) (sB (n159 != 2) (k332 (Value.bool true) H153) (HCalls Tryz.prog 54 #[Value.pointer p135, Value.int IntKind.i64 x1] H153 (Sp.retK (fun v334 H335 =>
  dInt IntKind.i64 v334 (fun n336 =>
  sB (n336 != 2) (k332 (Value.bool true) H335) (HCalls Tryz.prog 33 #[Value.pointer p135, Value.int IntKind.i64 x0] H335 (Sp.retK (fun v337 H338 =>
  dInt IntKind.i64 v337 (fun n339 =>
  sB (n339 != 2) (k332 (Value.bool true) H338) (HCalls Tryz.prog 35 #[Value.pointer p135, Value.int IntKind.i64 x1, Value.bool true] H338 (Sp.retK (fun v340 H341 =>
  dInt IntKind.i64 v340 (fun n342 =>
  k332 (Value.bool (n342 != 2)) H341)) (pnR R))))) (pnR R))))) (pnR R))))))))))))) (pnR R)))))) (pnR R))))))) (pnR R)))))) (al H132 (Obj.cells #[Value.slice none 0 0, Value.slice none 0 0, Value.map none, Value.int IntKind.i64 0] 133) (fun r355 H356 =>
  al H356 (Obj.cells #[Value.pointer none, Value.pointer (some (Addr.mk r355 0 none))] 49) (fun r357 H358 =>
  ∃ I359 : List Value → Heap → Prop,
  ∃ I360 : List Value → Heap → Nat,
  (I359 ([Value.int IntKind.i64 0]) H358) ∧
  ∀ n361 : Int,
  ∀ v362 v363 v364 v365 v366 v367 v368 v369 v370 v371 v372 v373 v374 v375 v376 v377 v378 v379 v380 : Value,
  ∀ H381 : Heap,
  (I359 ([Value.int IntKind.i64 n361]) H381) →
  sB (decide (n361 < 2)) (ask ((0 : Int) ≤ n361 ∧ n361 < (2 : Int)) (ld H381 (Addr.add (Addr.mk r357 0 none) (Int.toNat n361 * 1)) (fun v383 =>
  dPtr v383 (fun p384 =>
  HCalls Tryz.prog 31 #[Value.pointer p384, Value.int IntKind.i64 4] H381 (Sp.retK (fun v385 H386 =>
  dT 2 v385 (fun v387 v388 =>
  dPtr v387 (fun p389 =>
  dInt IntKind.i64 v388 (fun n390 =>
  jn (α := VFH 1) (fun v391 H392 =>
  ∀ v393 v394 v395 v396 v397 : Value,
  dBl v391 (fun b398 =>
  sB b398 (R (Ending.returned (Value.bool false)) H392) (wr IntKind.i64 (n361 + 1) (fun n399 =>
  (I359 ([Value.int IntKind.i64 n399]) H392) ∧
  (I360 [Value.int IntKind.i64 n399] H392) < (I360 [Value.int IntKind.i64 n361] H381))))) (fun k400 =>
  sB (!Option.isNone p389) (k400 (Value.bool true) H386) (k400 (Value.bool (n390 != 2)) H386)))))) (pnR R)))))) (HCalls Tryz.prog 43 #[Value.int IntKind.i64 2, Value.slice none 0 0] H381 (Sp.retK (fun v403 H404 =>
  dT 3 v403 (fun v405 v406 v407 =>
  dPtr v405 (fun p408 =>
  dPtr v406 (fun p409 =>
  dBl v407 (fun b410 =>
  sB b410 (HCalls Tryz.prog 24 #[Value.pointer p408] H404 (Sp.retK (fun v411 H412 =>
  dInt IntKind.i64 v411 (fun n413 =>
  R (Ending.returned (Value.bool (n413 == 3))) H412)) (pnR R))) (R (Ending.returned (Value.bool false)) H404)))))) (pnR R))))))))
theorem F14_eq (x0 : Int) (x1 : Int) (R : Ending → Heap → Prop) (H : Heap) : F14 x0 x1 R H = vc Tryz.prog (codeOf Tryz.f14) (.node none .leaf (.node none (.node none .leaf (.node none (.node (some ⟨[(24, 3)], [4, 6, 7, 8, 9, 10, 11, 12, 25, 26, 27, 28, 29, 30, 31, 32, 33, 34, 35, 36, 37, 38, 39, 40, 41, 42, 43, 44, 45, 46, 47, 48, 49, 50, 51, 52, 53, 54, 55, 56, 57, 58, 59, 60, 61, 62, 63, 64, 65, 66, 67, 68, 69, 70, 71, 72, 73, 74, 75, 76, 77, 78, 79, 80, 81, 82, 83, 84, 85, 86, 87, 88, 89, 90, 91, 92, 93, 94, 95, 96, 97, 98, 99, 100, 101, 102, 103, 104, 105, 106, 107, 108, 109, 110, 111, 112, 113, 114, 115, 116, 117, 118, 119, 120, 121, 122, 123, 124, 125, 126, 127, 128, 129, 130, 131, 132, 133, 134, 135, 136, 137, 138, 139, 140]⟩) (.node none .leaf (.node none .leaf (.node none (.node none (.node none .leaf (.node none .leaf (.node none .leaf (.node none .leaf (.node none (.node (some ⟨[(86, 4)], [47, 48, 49, 50, 51, 52, 53, 54, 55, 56, 57, 58, 59, 60, 61, 62, 63, 64, 65, 66, 67, 68, 69, 70, 71, 72, 73, 74, 75, 76, 77, 78, 79, 80, 81, 82, 83, 84, 85]⟩) .leaf .leaf) (.node (some ⟨[(139, 4)], [87, 88, 89, 90, 91, 92, 93, 94, 95, 96, 97, 98, 99, 100, 101, 102, 103, 104, 105, 106, 107, 108, 109, 110, 111, 112, 113, 114, 115, 116, 117, 118, 119, 120, 121, 122, 123, 124, 125, 126, 127, 128, 129, 130, 131, 132, 133, 134, 135, 136, 137, 138]⟩) .leaf .leaf)))))) .leaf) .leaf))) .leaf) .leaf)) (.node none (.node none .leaf (.node none (.node (some ⟨[(145, 3)], [4, 14, 15, 16, 146, 147, 148, 149, 150, 151, 152, 153, 154, 155, 156, 157, 158, 159, 160]⟩) (.node none .leaf (.node none .leaf (.node none (.node none (.node none .leaf (.node none .leaf (.node (some ⟨[(159, 4)], [154, 155, 156, 157, 158]⟩) .leaf .leaf))) .leaf) .leaf))) .leaf) .leaf)) .leaf))) (postV Tryz.prog Tryz.f14 R) ⟨#[Value.int IntKind.i64 x0, Value.int IntKind.i64 x1] ++ Array.replicate (Tryz.f14.ntmps - 2) undef, []⟩ H := by kernel_rfl
theorem F14_calls {R : Ending → Heap → Prop} {H : Heap} (x0 : Int) (x1 : Int) (h : F14 x0 x1 R H) : HCalls Tryz.prog 14 #[Value.int IntKind.i64 x0, Value.int IntKind.i64 x1] H R :=
  calls_by (F := F14 x0 x1 R H) (.node none .leaf (.node none (.node none .leaf (.node none (.node (some ⟨[(24, 3)], [4, 6, 7, 8, 9, 10, 11, 12, 25, 26, 27, 28, 29, 30, 31, 32, 33, 34, 35, 36, 37, 38, 39, 40, 41, 42, 43, 44, 45, 46, 47, 48, 49, 50, 51, 52, 53, 54, 55, 56, 57, 58, 59, 60, 61, 62, 63, 64, 65, 66, 67, 68, 69, 70, 71, 72, 73, 74, 75, 76, 77, 78, 79, 80, 81, 82, 83, 84, 85, 86, 87, 88, 89, 90, 91, 92, 93, 94, 95, 96, 97, 98, 99, 100, 101, 102, 103, 104, 105, 106, 107, 108, 109, 110, 111, 112, 113, 114, 115, 116, 117, 118, 119, 120, 121, 122, 123, 124, 125, 126, 127, 128, 129, 130, 131, 132, 133, 134, 135, 136, 137, 138, 139, 140]⟩) (.node none .leaf (.node none .leaf (.node none (.node none (.node none .leaf (.node none .leaf (.node none .leaf (.node none .leaf (.node none (.node (some ⟨[(86, 4)], [47, 48, 49, 50, 51, 52, 53, 54, 55, 56, 57, 58, 59, 60, 61, 62, 63, 64, 65, 66, 67, 68, 69, 70, 71, 72, 73, 74, 75, 76, 77, 78, 79, 80, 81, 82, 83, 84, 85]⟩) .leaf .leaf) (.node (some ⟨[(139, 4)], [87, 88, 89, 90, 91, 92, 93, 94, 95, 96, 97, 98, 99, 100, 101, 102, 103, 104, 105, 106, 107, 108, 109, 110, 111, 112, 113, 114, 115, 116, 117, 118, 119, 120, 121, 122, 123, 124, 125, 126, 127, 128, 129, 130, 131, 132, 133, 134, 135, 136, 137, 138]⟩) .leaf .leaf)))))) .leaf) .leaf))) .leaf) .leaf)) (.node none (.node none .leaf (.node none (.node (some ⟨[(145, 3)], [4, 14, 15, 16, 146, 147, 148, 149, 150, 151, 152, 153, 154, 155, 156, 157, 158, 159, 160]⟩) (.node none .leaf (.node none .leaf (.node none (.node none (.node none .leaf (.node none .leaf (.node (some ⟨[(159, 4)], [154, 155, 156, 157, 158]⟩) .leaf .leaf))) .leaf) .leaf))) .leaf) .leaf)) .leaf))) Tryz.func14 rfl (F14_eq x0 x1 R H) h
end Go.Proofs.YtngploohhmfaiaaGreat.E
