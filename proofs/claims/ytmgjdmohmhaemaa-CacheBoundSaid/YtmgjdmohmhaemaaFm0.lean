/- The functions' forms in the engine's words, printed by my own program. -/
import Derived.Test.YtmgjdmohmhaemaaProg
import Derived.Test.YtmgjdmohmhaemaaEng11
import Derived.KernelRfl
namespace Go.Proofs.Ytmgjdmohmhaemaa.E
open Go Go.Proofs
set_option linter.unusedVariables false
/-- bollard/bollardlaw04.GeomApart -/
def F3 (x0_0 : Value) (x0_1 : Value) (x0_2 : Value) (R : Ending → Heap → Prop) (H : Heap) : Prop :=
  al H (Obj.cells #[x0_0, x0_1, x0_2] 23) (fun r1 H2 =>
  ld H2 (Addr.mk r1 0 none) (fun v3 =>
  ld H2 (Addr.mk r1 1 none) (fun v4 =>
  ld H2 (Addr.mk r1 2 none) (fun v5 =>
  HCalls Try.prog 9 #[Value.agg #[v3, v4, v5]] H2 (Sp.retK (fun v6 H7 =>
  dInt IntKind.i64 v6 (fun n8 =>
  sB (n8 != 0) (ld H7 (Addr.mk r1 0 none) (fun v9 =>
  ld H7 (Addr.mk r1 1 none) (fun v10 =>
  ld H7 (Addr.mk r1 2 none) (fun v11 =>
  HCalls Try.prog 10 #[Value.agg #[v9, v10, v11]] H7 (Sp.retK (fun v12 H13 =>
  dInt IntKind.i64 v12 (fun n14 =>
  R (Ending.returned (Value.bool (n14 == 170))) H13)) (pnR R)))))) (ld H7 (Addr.mk r1 0 none) (fun v17 =>
  ld H7 (Addr.mk r1 1 none) (fun v18 =>
  ld H7 (Addr.mk r1 2 none) (fun v19 =>
  HCalls Try.prog 11 #[Value.agg #[v17, v18, v19]] H7 (Sp.retK (fun v20 H21 =>
  dInt IntKind.i64 v20 (fun n22 =>
  ask ((0 : Int) ≤ n22 ∧ n22 ≤ n22 ∧ (8 : Int) * n22 ≤ (281474976710656 : Int) ∧ n22 ≤ (9223372036854775807 : Int)) (al H21 (Obj.cells (List.toArray (rowZ [Value.int IntKind.i64 0] (Int.toNat n22))) 3) (fun r23 H24 =>
  ld H24 (Addr.mk r1 0 none) (fun v25 =>
  dInt IntKind.i64 v25 (fun n26 =>
  ld H24 (Addr.mk r1 1 none) (fun v27 =>
  dInt IntKind.i64 v27 (fun n28 =>
  wr IntKind.i64 (n26 * n28) (fun n29 =>
  sB ((↑(Int.toNat n22) : Int) != n29) (R (Ending.returned (Value.bool false)) H24) (ld H24 (Addr.mk r1 0 none) (fun v30 =>
  dInt IntKind.i64 v30 (fun n31 =>
  ∃ I32 : List Value → Heap → Prop,
  ∃ I33 : List Value → Heap → Nat,
  (I32 ([Value.int IntKind.i64 0]) H24) ∧
  ∀ n34 : Int,
  ∀ v35 v36 v37 v38 v39 v40 v41 v42 v43 v44 v45 v46 v47 v48 v49 v50 v51 v52 v53 v54 v55 v56 v57 v58 v59 v60 v61 v62 v63 v64 v65 v66 v67 v68 v69 v70 v71 v72 v73 v74 v75 v76 v77 v78 v79 v80 v81 v82 v83 v84 v85 v86 v87 v88 v89 v90 : Value,
  ∀ H91 : Heap,
  (I32 ([Value.int IntKind.i64 n34]) H91) →
  sB (decide (n34 < n31)) (ld H91 (Addr.mk r1 0 none) (fun v93 =>
  ld H91 (Addr.mk r1 1 none) (fun v94 =>
  ld H91 (Addr.mk r1 2 none) (fun v95 =>
  HCalls Try.prog 12 #[Value.agg #[v93, v94, v95], Value.int IntKind.i64 n34] H91 (Sp.retK (fun v96 H97 =>
  dT 2 v96 (fun v98 v99 =>
  dInt IntKind.i64 v98 (fun n100 =>
  dBl v99 (fun b101 =>
  ld H97 (Addr.mk r1 0 none) (fun v102 =>
  ld H97 (Addr.mk r1 1 none) (fun v103 =>
  ld H97 (Addr.mk r1 2 none) (fun v104 =>
  HCalls Try.prog 13 #[Value.agg #[v102, v103, v104], Value.int IntKind.i64 n34] H97 (Sp.retK (fun v105 H106 =>
  dT 2 v105 (fun v107 v108 =>
  dInt IntKind.i64 v107 (fun n109 =>
  dBl v108 (fun b110 =>
  ld H106 (Addr.mk r1 0 none) (fun v111 =>
  ld H106 (Addr.mk r1 1 none) (fun v112 =>
  ld H106 (Addr.mk r1 2 none) (fun v113 =>
  HCalls Try.prog 14 #[Value.agg #[v111, v112, v113], Value.int IntKind.i64 n34] H106 (Sp.retK (fun v114 H115 =>
  dT 3 v114 (fun v116 v117 v118 =>
  dInt IntKind.i64 v116 (fun n119 =>
  dInt IntKind.i64 v117 (fun n120 =>
  dBl v118 (fun b121 =>
  ask ((0 : Int) ≤ n100 ∧ n100 < (↑(Int.toNat n22) : Int)) (ld H115 (Addr.add (Addr.mk r23 0 none) (Int.toNat n100 * 1)) (fun v122 =>
  dInt IntKind.i64 v122 (fun n123 =>
  wr IntKind.i64 (n123 + 1) (fun n124 =>
  ask ((0 : Int) ≤ n100 ∧ n100 < (↑(Int.toNat n22) : Int)) (st H115 (Addr.add (Addr.mk r23 0 none) (Int.toNat n100 * 1)) (Value.int IntKind.i64 n124) (fun H125 =>
  ask ((0 : Int) ≤ n109 ∧ n109 < (↑(Int.toNat n22) : Int)) (ld H125 (Addr.add (Addr.mk r23 0 none) (Int.toNat n109 * 1)) (fun v126 =>
  dInt IntKind.i64 v126 (fun n127 =>
  wr IntKind.i64 (n127 + 1) (fun n128 =>
  ask ((0 : Int) ≤ n109 ∧ n109 < (↑(Int.toNat n22) : Int)) (st H125 (Addr.add (Addr.mk r23 0 none) (Int.toNat n109 * 1)) (Value.int IntKind.i64 n128) (fun H129 =>
  ∃ I130 : List Value → Heap → Prop,
  ∃ I131 : List Value → Heap → Nat,
  (I130 ([Value.int IntKind.i64 0]) H129) ∧
  ∀ n132 : Int,
  ∀ v133 v134 v135 v136 v137 v138 v139 v140 v141 v142 v143 v144 : Value,
  ∀ H145 : Heap,
  (I130 ([Value.int IntKind.i64 n132]) H145) →
  sB (decide (n132 < n120)) (wr IntKind.i64 (n119 + n132) (fun n147 =>
  ask ((0 : Int) ≤ n147 ∧ n147 < (↑(Int.toNat n22) : Int)) (ld H145 (Addr.add (Addr.mk r23 0 none) (Int.toNat n147 * 1)) (fun v148 =>
  dInt IntKind.i64 v148 (fun n149 =>
  wr IntKind.i64 (n149 + 1) (fun n150 =>
  ask ((0 : Int) ≤ n147 ∧ n147 < (↑(Int.toNat n22) : Int)) (st H145 (Addr.add (Addr.mk r23 0 none) (Int.toNat n147 * 1)) (Value.int IntKind.i64 n150) (fun H151 =>
  wr IntKind.i64 (n132 + 1) (fun n152 =>
  (I130 ([Value.int IntKind.i64 n152]) H151) ∧
  (I131 [Value.int IntKind.i64 n152] H151) < (I131 [Value.int IntKind.i64 n132] H145)))))))))) (wr IntKind.i64 (n34 + 1) (fun n153 =>
  (I32 ([Value.int IntKind.i64 n153]) H145) ∧
  (I33 [Value.int IntKind.i64 n153] H145) < (I33 [Value.int IntKind.i64 n34] H91)))))))))))))))))))) (pnR R))))))))) (pnR R))))))))) (pnR R)))))) (al H91 (Obj.map #[] 0) (fun r160 H161 =>
  al H161 (Obj.map #[] 0) (fun r162 H163 =>
  ld H163 (Addr.mk r1 0 none) (fun v164 =>
  ld H163 (Addr.mk r1 1 none) (fun v165 =>
  ld H163 (Addr.mk r1 2 none) (fun v166 =>
  HCalls Try.prog 15 #[Value.agg #[v164, v165, v166]] H163 (Sp.retK (fun v167 H168 =>
  dInt IntKind.i64 v167 (fun n169 =>
  ∃ I170 : List Value → Heap → Prop,
  ∃ I171 : List Value → Heap → Nat,
  (I170 ([Value.int IntKind.i64 0]) H168) ∧
  ∀ n172 : Int,
  ∀ v173 v174 v175 v176 v177 v178 v179 v180 v181 v182 v183 v184 v185 v186 v187 v188 v189 v190 v191 v192 v193 v194 v195 v196 v197 v198 v199 v200 v201 v202 v203 v204 v205 v206 v207 v208 v209 v210 v211 v212 v213 v214 v215 v216 v217 v218 v219 v220 v221 : Value,
  ∀ H222 : Heap,
  (I170 ([Value.int IntKind.i64 n172]) H222) →
  sB (decide (n172 < n169)) (ld H222 (Addr.mk r1 0 none) (fun v224 =>
  ld H222 (Addr.mk r1 1 none) (fun v225 =>
  ld H222 (Addr.mk r1 2 none) (fun v226 =>
  HCalls Try.prog 16 #[Value.agg #[v224, v225, v226], Value.int IntKind.i64 n172] H222 (Sp.retK (fun v227 H228 =>
  dT 3 v227 (fun v229 v230 v231 =>
  dInt IntKind.i64 v229 (fun n232 =>
  dInt IntKind.i64 v230 (fun n233 =>
  dBl v231 (fun b234 =>
  jn (α := VFH 1) (fun v235 H236 =>
  ∀ v237 v238 v239 v240 v241 v242 v243 v244 v245 v246 v247 v248 v249 v250 v251 v252 v253 : Value,
  dBl v235 (fun b254 =>
  sB b254 (R (Ending.returned (Value.bool false)) H236) (semW Try.prog (Instr.mapUpdate 32 (Value.map (some r160)) (Value.agg #[Value.int IntKind.i64 n232, Value.int IntKind.i64 n233]) (Value.bool true)) (pnR R) H236 (fun x257 H258 =>
  jn (α := VFH 0) (fun H259 =>
  ∀ v260 v261 v262 v263 v264 v265 v266 v267 v268 v269 : Value,
  semW Try.prog (Instr.mapUpdate 33 (Value.map (some r162)) (Value.int IntKind.i64 n232) (Value.bool true)) (pnR R) H259 (fun x272 H273 =>
  wr IntKind.i64 (n172 + 1) (fun n274 =>
  (I170 ([Value.int IntKind.i64 n274]) H273) ∧
  (I171 [Value.int IntKind.i64 n274] H273) < (I171 [Value.int IntKind.i64 n172] H222)))) (fun k275 =>
  semW Try.prog (Instr.lookup 33 (Value.map (some r162)) (Value.int IntKind.i64 n232) false) (pnR R) H258 (fun v278 H279 =>
  dBl v278 (fun b280 =>
  sB (!b280) (ask ((0 : Int) ≤ n232 ∧ n232 < (↑(Int.toNat n22) : Int)) (ld H279 (Addr.add (Addr.mk r23 0 none) (Int.toNat n232 * 1)) (fun v281 =>
  dInt IntKind.i64 v281 (fun n282 =>
  wr IntKind.i64 (n282 + 1) (fun n283 =>
  ask ((0 : Int) ≤ n232 ∧ n232 < (↑(Int.toNat n22) : Int)) (st H279 (Addr.add (Addr.mk r23 0 none) (Int.toNat n232 * 1)) (Value.int IntKind.i64 n283) (fun H284 =>
  k275 H284))))))) (k275 H279)))))))) (fun k285 =>
  sB (!b234) (k285 (Value.bool true) H228) (semW Try.prog (Instr.lookup 32 (Value.map (some r160)) (Value.agg #[Value.int IntKind.i64 n232, Value.int IntKind.i64 n233]) false) (pnR R) H228 (fun v288 H289 =>
  dBl v288 (fun b290 =>
  sB b290 (k285 (Value.bool true) H289) (ask ((32 : Int) ≠ (0 : Int)) (nm (Int.tmod n233 32) (fun n291 =>
  sB (n291 != 0) (k285 (Value.bool true) H289) (k285 (Value.bool (decide (n233 ≥ 128))) H289))))))))))))) (pnR R)))))) (∃ I294 : List Value → Heap → Prop,
  ∃ I295 : List Value → Heap → Nat,
  (I294 ([Value.int IntKind.i64 0]) H222) ∧
  ∀ n296 : Int,
  ∀ v297 v298 v299 v300 v301 v302 v303 v304 v305 v306 v307 v308 v309 v310 v311 v312 v313 v314 v315 : Value,
  ∀ H316 : Heap,
  (I294 ([Value.int IntKind.i64 n296]) H316) →
  sB (decide (n296 < (↑(Int.toNat n22) : Int))) (ask ((0 : Int) ≤ n296 ∧ n296 < (↑(Int.toNat n22) : Int)) (ld H316 (Addr.add (Addr.mk r23 0 none) (Int.toNat n296 * 1)) (fun v318 =>
  dInt IntKind.i64 v318 (fun n319 =>
  jn (α := VFH 1) (fun v320 H321 =>
  ∀ v322 v323 v324 v325 v326 v327 v328 v329 v330 v331 : Value,
  dBl v320 (fun b332 =>
  sB b332 (R (Ending.returned (Value.bool false)) H321) (wr IntKind.i64 (n296 + 1) (fun n333 =>
  (I294 ([Value.int IntKind.i64 n333]) H321) ∧
  (I295 [Value.int IntKind.i64 n333] H321) < (I295 [Value.int IntKind.i64 n296] H316))))) (fun k334 =>
  sB (n319 != 1) (k334 (Value.bool true) H316) (ld H316 (Addr.mk r1 0 none) (fun v335 =>
  ld H316 (Addr.mk r1 1 none) (fun v336 =>
  ld H316 (Addr.mk r1 2 none) (fun v337 =>
  ld H316 (Addr.mk r1 0 none) (fun v338 =>
  ld H316 (Addr.mk r1 1 none) (fun v339 =>
  ld H316 (Addr.mk r1 2 none) (fun v340 =>
  HCalls Try.prog 17 #[Value.agg #[v335, v336, v337], Value.int IntKind.i64 n296] H316 (Sp.retK (fun v341 H342 =>
  dBl v341 (fun b343 =>
  (ld H342 (Addr.mk r1 0 none) (fun v344 =>
  ld H342 (Addr.mk r1 1 none) (fun v345 =>
  ld H342 (Addr.mk r1 2 none) (fun v346 =>
  (Value.agg #[v344, v345, v346]) = (Value.agg #[v338, v339, v340]))))) ∧
  HCalls Try.prog 18 #[Value.agg #[v338, v339, v340], Value.int IntKind.i64 n296] H342 (Sp.retK (fun v347 H348 =>
  dBl v347 (fun b349 =>
  k334 (Value.bool !b343 == b349) H348)) nopR))) nopR))))))))))))) (semW Try.prog (Builtin.len_ #[32] 3 #[Value.map (some r160)]) (pnR R) H316 (fun v356 H357 =>
  dInt IntKind.i64 v356 (fun n358 =>
  ld H357 (Addr.mk r1 0 none) (fun v359 =>
  dInt IntKind.i64 v359 (fun n360 =>
  ld H357 (Addr.mk r1 2 none) (fun v361 =>
  dInt IntKind.i64 v361 (fun n362 =>
  wr IntKind.i64 (n360 * n362) (fun n363 =>
  R (Ending.returned (Value.bool (n358 == n363))) H357))))))))))) (pnR R)))))))))))))))))))) (pnR R)))))))) (pnR R))))))
theorem F3_eq (x0_0 : Value) (x0_1 : Value) (x0_2 : Value) (R : Ending → Heap → Prop) (H : Heap) : F3 x0_0 x0_1 x0_2 R H = vc Try.prog (codeOf Try.f3) (.node none .leaf (.node none .leaf (.node none .leaf (.node none .leaf (.node none (.node none .leaf (.node none (.node (some ⟨[(40, 3)], [4, 5, 6, 7, 8, 9, 10, 11, 12, 41, 42, 43, 44, 45, 46, 47, 48, 49, 50, 51, 52, 53, 54, 55, 56, 57, 58, 59, 60, 61, 62, 63, 64, 65, 66, 67, 68, 69, 70, 71, 72, 73, 74, 75, 76, 77, 78, 79, 80, 81, 82, 83, 84, 85, 86, 87]⟩) (.node none .leaf (.node none .leaf (.node none (.node none (.node none .leaf (.node none .leaf (.node none .leaf (.node none .leaf (.node none .leaf (.node none .leaf (.node none .leaf (.node none (.node (some ⟨[(75, 3)], [12, 76, 77, 78, 79, 80, 81, 82, 83, 84, 85, 86]⟩) .leaf .leaf) .leaf)))))))) .leaf) .leaf))) .leaf) .leaf)) (.node none .leaf (.node none .leaf (.node none (.node none .leaf (.node none (.node (some ⟨[(92, 3)], [2, 15, 16, 17, 18, 93, 94, 95, 96, 97, 98, 99, 100, 101, 102, 103, 104, 105, 106, 107, 108, 109, 110, 111, 112, 113, 114, 115, 116, 117, 118, 119, 120, 121, 122, 123, 124, 125, 126, 127, 128, 129, 130, 131, 132, 133, 134, 135, 136]⟩) (.node none .leaf (.node none .leaf (.node none (.node none (.node none .leaf (.node none .leaf (.node none (.node (some ⟨[(119, 4)], [102, 103, 104, 105, 106, 107, 108, 109, 110, 111, 112, 113, 114, 115, 116, 117, 118]⟩) .leaf .leaf) (.node none .leaf (.node (some ⟨[], [124, 125, 126, 127, 128, 129, 130, 131, 132, 133]⟩) .leaf .leaf))))) .leaf) .leaf))) .leaf) .leaf)) (.node none (.node none .leaf (.node none (.node (some ⟨[(139, 3)], [2, 19, 20, 140, 141, 142, 143, 144, 145, 146, 147, 148, 149, 150, 151, 152, 153, 154, 155]⟩) (.node none .leaf (.node none .leaf (.node none (.node none (.node none .leaf (.node (some ⟨[(154, 4)], [144, 145, 146, 147, 148, 149, 150, 151, 152, 153]⟩) .leaf .leaf)) .leaf) .leaf))) .leaf) .leaf)) .leaf))))))))) (postV Try.prog Try.f3 R) ⟨#[Value.agg #[x0_0, x0_1, x0_2]] ++ Array.replicate (Try.f3.ntmps - 1) undef, []⟩ H := by kernel_rfl
theorem F3_calls {R : Ending → Heap → Prop} {H : Heap} (x0_0 : Value) (x0_1 : Value) (x0_2 : Value) (h : F3 x0_0 x0_1 x0_2 R H) : HCalls Try.prog 3 #[Value.agg #[x0_0, x0_1, x0_2]] H R :=
  calls_by (F := F3 x0_0 x0_1 x0_2 R H) (.node none .leaf (.node none .leaf (.node none .leaf (.node none .leaf (.node none (.node none .leaf (.node none (.node (some ⟨[(40, 3)], [4, 5, 6, 7, 8, 9, 10, 11, 12, 41, 42, 43, 44, 45, 46, 47, 48, 49, 50, 51, 52, 53, 54, 55, 56, 57, 58, 59, 60, 61, 62, 63, 64, 65, 66, 67, 68, 69, 70, 71, 72, 73, 74, 75, 76, 77, 78, 79, 80, 81, 82, 83, 84, 85, 86, 87]⟩) (.node none .leaf (.node none .leaf (.node none (.node none (.node none .leaf (.node none .leaf (.node none .leaf (.node none .leaf (.node none .leaf (.node none .leaf (.node none .leaf (.node none (.node (some ⟨[(75, 3)], [12, 76, 77, 78, 79, 80, 81, 82, 83, 84, 85, 86]⟩) .leaf .leaf) .leaf)))))))) .leaf) .leaf))) .leaf) .leaf)) (.node none .leaf (.node none .leaf (.node none (.node none .leaf (.node none (.node (some ⟨[(92, 3)], [2, 15, 16, 17, 18, 93, 94, 95, 96, 97, 98, 99, 100, 101, 102, 103, 104, 105, 106, 107, 108, 109, 110, 111, 112, 113, 114, 115, 116, 117, 118, 119, 120, 121, 122, 123, 124, 125, 126, 127, 128, 129, 130, 131, 132, 133, 134, 135, 136]⟩) (.node none .leaf (.node none .leaf (.node none (.node none (.node none .leaf (.node none .leaf (.node none (.node (some ⟨[(119, 4)], [102, 103, 104, 105, 106, 107, 108, 109, 110, 111, 112, 113, 114, 115, 116, 117, 118]⟩) .leaf .leaf) (.node none .leaf (.node (some ⟨[], [124, 125, 126, 127, 128, 129, 130, 131, 132, 133]⟩) .leaf .leaf))))) .leaf) .leaf))) .leaf) .leaf)) (.node none (.node none .leaf (.node none (.node (some ⟨[(139, 3)], [2, 19, 20, 140, 141, 142, 143, 144, 145, 146, 147, 148, 149, 150, 151, 152, 153, 154, 155]⟩) (.node none .leaf (.node none .leaf (.node none (.node none (.node none .leaf (.node (some ⟨[(154, 4)], [144, 145, 146, 147, 148, 149, 150, 151, 152, 153]⟩) .leaf .leaf)) .leaf) .leaf))) .leaf) .leaf)) .leaf))))))))) Try.func3 rfl (F3_eq x0_0 x0_1 x0_2 R H) h
/-- bollard/bollardlaw17.MkfsMakes -/
def F4 (x0_0 : Value) (x0_1 : Value) (x0_2 : Value) (R : Ending → Heap → Prop) (H : Heap) : Prop :=
  al H (Obj.cells #[x0_0, x0_1, x0_2] 23) (fun r1 H2 =>
  ld H2 (Addr.mk r1 0 none) (fun v3 =>
  ld H2 (Addr.mk r1 1 none) (fun v4 =>
  ld H2 (Addr.mk r1 2 none) (fun v5 =>
  HCalls Try.prog 19 #[Value.agg #[v3, v4, v5]] H2 (Sp.retK (fun v6 H7 =>
  dT 2 v6 (fun v8 v9 =>
  dSl v8 (fun p10 r11 r12 =>
  dInt IntKind.i64 v9 (fun n13 =>
  ld H7 (Addr.mk r1 0 none) (fun v14 =>
  ld H7 (Addr.mk r1 1 none) (fun v15 =>
  ld H7 (Addr.mk r1 2 none) (fun v16 =>
  HCalls Try.prog 20 #[Value.agg #[v14, v15, v16]] H7 (Sp.retK (fun v17 H18 =>
  dT 2 v17 (fun v19 v20 =>
  dSl v19 (fun p21 r22 r23 =>
  dInt IntKind.i64 v20 (fun n24 =>
  sB (n13 == n24) (HCalls Try.prog 21 #[Value.slice p10 r11 r12, Value.slice p21 r22 r23] H18 (Sp.retK (fun v25 H26 =>
  dBl v25 (fun b27 =>
  R (Ending.returned (Value.bool b27)) H26)) (pnR R))) (R (Ending.returned (Value.bool false)) H18))))) (pnR R))))))))) (pnR R))))))
theorem F4_eq (x0_0 : Value) (x0_1 : Value) (x0_2 : Value) (R : Ending → Heap → Prop) (H : Heap) : F4 x0_0 x0_1 x0_2 R H = vc Try.prog (codeOf Try.f4) .leaf (postV Try.prog Try.f4 R) ⟨#[Value.agg #[x0_0, x0_1, x0_2]] ++ Array.replicate (Try.f4.ntmps - 1) undef, []⟩ H := by kernel_rfl
theorem F4_calls {R : Ending → Heap → Prop} {H : Heap} (x0_0 : Value) (x0_1 : Value) (x0_2 : Value) (h : F4 x0_0 x0_1 x0_2 R H) : HCalls Try.prog 4 #[Value.agg #[x0_0, x0_1, x0_2]] H R :=
  calls_by (F := F4 x0_0 x0_1 x0_2 R H) .leaf Try.func4 rfl (F4_eq x0_0 x0_1 x0_2 R H) h
/-- bollard/bollardlaw06.CacheOldest -/
def F5 (x0 : Int) (x1 : Int) (x2a : Option Addr) (x2n : Nat) (x2c : Nat) (R : Ending → Heap → Prop) (H : Heap) : Prop :=
  wr IntKind.u64 x1 (fun n1 =>
  ask ((8 : Int) ≠ (0 : Int)) (nm (Int.tmod n1 8) (fun n2 =>
  wr IntKind.i64 n2 (fun n3 =>
  wr IntKind.i64 (1 + n3) (fun n4 =>
  HCalls Try.prog 22 #[Value.int IntKind.i64 x0, Value.int IntKind.i64 n4] H (Sp.retK (fun v5 H6 =>
  dT 5 v5 (fun v7 v8 v9 v10 v11 =>
  dPtr v7 (fun p12 =>
  dPtr v8 (fun p13 =>
  dPtr v9 (fun p14 =>
  dPtr v10 (fun p15 =>
  dBl v11 (fun b16 =>
  jn (α := VFH 1) (fun v17 H18 =>
  ∀ v19 v20 v21 v22 v23 : Value,
  dBl v17 (fun b24 =>
  sB b24 (R (Ending.returned (Value.bool false)) H18) (∃ I25 : List Value → Heap → Prop,
  ∃ I26 : List Value → Heap → Nat,
  (I25 ([Value.slice none 0 0, Value.int IntKind.i64 0]) H18) ∧
  ∀ p27 : Option Addr,
  ∀ r28 : Nat,
  ∀ r29 : Nat,
  ∀ n30 : Int,
  ∀ v31 v32 v33 v34 v35 v36 v37 v38 v39 v40 v41 v42 v43 v44 v45 v46 v47 v48 v49 v50 v51 v52 v53 v54 v55 v56 v57 v58 v59 v60 v61 v62 v63 v64 v65 v66 v67 v68 v69 v70 v71 v72 v73 v74 v75 v76 v77 v78 v79 v80 v81 v82 v83 : Value,
  ∀ H84 : Heap,
  (I25 ([Value.slice p27 r28 r29, Value.int IntKind.i64 n30]) H84) →
  sB (decide (n30 < (↑x2n : Int))) (nz x2a (fun a86 =>
  ask ((0 : Int) ≤ n30 ∧ n30 < (↑x2n : Int)) (ld H84 (Addr.add a86 (Int.toNat n30 * 1)) (fun v87 =>
  dInt IntKind.i64 v87 (fun n88 =>
  wr IntKind.u64 n88 (fun n89 =>
  wr IntKind.u64 x0 (fun n90 =>
  ask ((12 : Int) ≠ (0 : Int)) (nm (Int.tmod n90 12) (fun n91 =>
  wr IntKind.i64 n91 (fun n92 =>
  wr IntKind.i64 (1 + n92) (fun n93 =>
  wr IntKind.u64 n93 (fun n94 =>
  ask (n94 ≠ (0 : Int)) (nm (Int.tmod n89 n94) (fun n95 =>
  wr IntKind.i64 n95 (fun n96 =>
  HCalls Try.prog 23 #[Value.pointer p12, Value.int IntKind.i64 n96] H84 (Sp.retK (fun v97 H98 =>
  dT 2 v97 (fun v99 v100 =>
  dSl v99 (fun p101 r102 r103 =>
  dInt IntKind.i64 v100 (fun n104 =>
  sB (n104 != 0) (R (Ending.returned (Value.bool false)) H98) (jn (α := VFH 1) (fun v105 H106 =>
  ∀ v107 v108 v109 v110 v111 v112 v113 v114 v115 v116 v117 : Value,
  dSl v105 (fun p118 r119 r120 =>
  al H106 (Obj.cells #[Value.int IntKind.i64 n96] 3) (fun r121 H122 =>
  semW Try.prog (Builtin.append_ #[26, 26] 26 #[Value.slice p118 r119 r120, Value.slice (some (Addr.mk r121 0 none)) 1 1]) (pnR R) H122 (fun v125 H126 =>
  dSl v125 (fun p127 r128 r129 =>
  jn (α := VFH 1) (fun v130 H131 =>
  ∀ v132 v133 v134 v135 v136 v137 : Value,
  dSl v130 (fun p138 r139 r140 =>
  HCalls Try.prog 27 #[Value.pointer p12] H131 (Sp.retK (fun v141 H142 =>
  dSl v141 (fun p143 r144 r145 =>
  HCalls Try.prog 26 #[Value.slice p143 r144 r145, Value.slice p138 r139 r140] H142 (Sp.retK (fun v146 H147 =>
  dBl v146 (fun b148 =>
  sB (!b148) (R (Ending.returned (Value.bool false)) H147) (wr IntKind.i64 (n30 + 1) (fun n149 =>
  (I25 ([Value.slice p138 r139 r140, Value.int IntKind.i64 n149]) H147) ∧
  (I26 [Value.slice p138 r139 r140, Value.int IntKind.i64 n149] H147) < (I26 [Value.slice p27 r28 r29, Value.int IntKind.i64 n30] H84))))) (pnR R)))) (pnR R)))) (fun k154 =>
  sB (decide ((↑r128 : Int) > n4)) (ask ((0 : Int) ≤ (1 : Int) ∧ (1 : Int) ≤ (↑r128 : Int) ∧ (↑r128 : Int) ≤ (↑r129 : Int) ∧ (↑r129 : Int) ≤ (↑r129 : Int)) (k154 (Value.slice (slO p127 1 1 (↑r129 : Int)) (Int.toNat (↑r128 : Int) - Int.toNat 1) (Int.toNat (↑r129 : Int) - Int.toNat 1)) H126)) (k154 (Value.slice p127 r128 r129) H126))))))) (fun k155 =>
  HCalls Try.prog 24 #[Value.slice p27 r28 r29, Value.int IntKind.i64 n96] H98 (Sp.retK (fun v156 H157 =>
  dInt IntKind.i64 v156 (fun n158 =>
  sB (decide (n158 ≥ 0)) (wr IntKind.i64 (n158 + 1) (fun n159 =>
  HCalls Try.prog 25 #[Value.slice p27 r28 r29, Value.int IntKind.i64 n158, Value.int IntKind.i64 n159] H157 (Sp.retK (fun v160 H161 =>
  dSl v160 (fun p162 r163 r164 =>
  k155 (Value.slice p162 r163 r164) H161)) (pnR R)))) (k155 (Value.slice p27 r28 r29) H157))) (pnR R)))))))) (pnR R))))))))))))))))) (HCalls Try.prog 28 #[Value.pointer p12] H84 (Sp.retK (fun v171 H172 =>
  dT 2 v171 (fun v173 v174 =>
  dInt IntKind.i64 v173 (fun n175 =>
  dInt IntKind.i64 v174 (fun n176 =>
  wr IntKind.i64 (n175 + n176) (fun n177 =>
  R (Ending.returned (Value.bool (n177 == (↑x2n : Int)))) H172))))) (pnR R)))))) (fun k180 =>
  sB (!b16) (k180 (Value.bool true) H6) (k180 (Value.bool (Option.isNone p13)) H6))))))))) (pnR R)))))))
theorem F5_eq (x0 : Int) (x1 : Int) (x2a : Option Addr) (x2n : Nat) (x2c : Nat) (R : Ending → Heap → Prop) (H : Heap) : F5 x0 x1 x2a x2n x2c R H = vc Try.prog (codeOf Try.f5) (.node none .leaf (.node none .leaf (.node none .leaf (.node none (.node (some ⟨[(40, 4)], [35, 36, 37, 38, 39]⟩) .leaf .leaf) (.node none .leaf (.node none (.node none .leaf (.node none (.node (some ⟨[(12, 26), (43, 3)], [6, 14, 15, 16, 17, 18, 44, 45, 46, 47, 48, 49, 50, 51, 52, 53, 54, 55, 56, 57, 58, 59, 60, 61, 62, 63, 64, 65, 66, 67, 68, 69, 70, 71, 72, 73, 74, 75, 76, 77, 78, 79, 80, 81, 82, 83, 84, 85, 86, 87, 88, 89, 90]⟩) (.node none .leaf (.node none .leaf (.node none (.node none (.node none .leaf (.node none .leaf (.node none .leaf (.node (some ⟨[(12, 26)], [18, 65, 66, 67, 68, 69, 70, 71, 72, 73, 74]⟩) .leaf (.node none .leaf (.node (some ⟨[(12, 26)], [79, 80, 81, 82, 83, 84]⟩) .leaf .leaf)))))) .leaf) .leaf))) .leaf) .leaf)) .leaf)))))) (postV Try.prog Try.f5 R) ⟨#[Value.int IntKind.i64 x0, Value.int IntKind.i64 x1, Value.slice x2a x2n x2c] ++ Array.replicate (Try.f5.ntmps - 3) undef, []⟩ H := by kernel_rfl
theorem F5_calls {R : Ending → Heap → Prop} {H : Heap} (x0 : Int) (x1 : Int) (x2a : Option Addr) (x2n : Nat) (x2c : Nat) (h : F5 x0 x1 x2a x2n x2c R H) : HCalls Try.prog 5 #[Value.int IntKind.i64 x0, Value.int IntKind.i64 x1, Value.slice x2a x2n x2c] H R :=
  calls_by (F := F5 x0 x1 x2a x2n x2c R H) (.node none .leaf (.node none .leaf (.node none .leaf (.node none (.node (some ⟨[(40, 4)], [35, 36, 37, 38, 39]⟩) .leaf .leaf) (.node none .leaf (.node none (.node none .leaf (.node none (.node (some ⟨[(12, 26), (43, 3)], [6, 14, 15, 16, 17, 18, 44, 45, 46, 47, 48, 49, 50, 51, 52, 53, 54, 55, 56, 57, 58, 59, 60, 61, 62, 63, 64, 65, 66, 67, 68, 69, 70, 71, 72, 73, 74, 75, 76, 77, 78, 79, 80, 81, 82, 83, 84, 85, 86, 87, 88, 89, 90]⟩) (.node none .leaf (.node none .leaf (.node none (.node none (.node none .leaf (.node none .leaf (.node none .leaf (.node (some ⟨[(12, 26)], [18, 65, 66, 67, 68, 69, 70, 71, 72, 73, 74]⟩) .leaf (.node none .leaf (.node (some ⟨[(12, 26)], [79, 80, 81, 82, 83, 84]⟩) .leaf .leaf)))))) .leaf) .leaf))) .leaf) .leaf)) .leaf)))))) Try.func5 rfl (F5_eq x0 x1 x2a x2n x2c R H) h
/-- bollard/bollardlaw06.CacheTells -/
def F6 (x0 : Int) (x1 : Int) (x2a : Option Addr) (x2n : Nat) (x2c : Nat) (R : Ending → Heap → Prop) (H : Heap) : Prop :=
  wr IntKind.u64 x1 (fun n1 =>
  ask ((8 : Int) ≠ (0 : Int)) (nm (Int.tmod n1 8) (fun n2 =>
  wr IntKind.i64 n2 (fun n3 =>
  wr IntKind.i64 (1 + n3) (fun n4 =>
  HCalls Try.prog 22 #[Value.int IntKind.i64 x0, Value.int IntKind.i64 n4] H (Sp.retK (fun v5 H6 =>
  dT 5 v5 (fun v7 v8 v9 v10 v11 =>
  dPtr v7 (fun p12 =>
  dPtr v8 (fun p13 =>
  dPtr v9 (fun p14 =>
  dPtr v10 (fun p15 =>
  dBl v11 (fun b16 =>
  jn (α := VFH 1) (fun v17 H18 =>
  ∀ v19 v20 v21 v22 v23 : Value,
  dBl v17 (fun b24 =>
  sB b24 (R (Ending.returned (Value.bool false)) H18) (al H18 (Obj.map #[] 0) (fun r25 H26 =>
  ∃ I27 : List Value → Heap → Prop,
  ∃ I28 : List Value → Heap → Nat,
  (I27 ([Value.int IntKind.i64 0]) H26) ∧
  ∀ n29 : Int,
  ∀ v30 v31 v32 v33 v34 v35 v36 v37 v38 v39 v40 v41 v42 v43 v44 v45 v46 v47 v48 v49 v50 v51 v52 v53 v54 v55 v56 v57 v58 v59 v60 v61 v62 v63 v64 v65 v66 v67 v68 v69 v70 v71 v72 v73 v74 v75 v76 v77 v78 v79 v80 v81 v82 v83 v84 v85 v86 v87 v88 v89 v90 v91 v92 v93 v94 v95 v96 v97 v98 v99 v100 v101 v102 v103 v104 v105 v106 v107 v108 v109 v110 v111 v112 : Value,
  ∀ H113 : Heap,
  (I27 ([Value.int IntKind.i64 n29]) H113) →
  sB (decide (n29 < (↑x2n : Int))) (jn (α := VFH 0) (fun H115 =>
  ∀ v116 v117 v118 v119 v120 v121 v122 v123 v124 v125 v126 v127 v128 v129 v130 v131 v132 v133 v134 v135 v136 v137 v138 v139 v140 v141 v142 v143 v144 v145 v146 v147 v148 v149 v150 v151 v152 v153 v154 v155 v156 v157 v158 v159 v160 v161 v162 v163 v164 v165 v166 v167 v168 v169 v170 v171 v172 v173 v174 v175 v176 v177 v178 v179 v180 v181 v182 v183 v184 v185 v186 v187 v188 v189 v190 v191 v192 v193 v194 v195 v196 : Value,
  wr IntKind.i64 (n29 + 1) (fun n197 =>
  (I27 ([Value.int IntKind.i64 n197]) H115) ∧
  (I28 [Value.int IntKind.i64 n197] H115) < (I28 [Value.int IntKind.i64 n29] H113))) (fun k198 =>
  nz x2a (fun a199 =>
  ask ((0 : Int) ≤ n29 ∧ n29 < (↑x2n : Int)) (ld H113 (Addr.add a199 (Int.toNat n29 * 4)) (fun v200 =>
  ld H113 (Addr.add (Addr.add a199 (Int.toNat n29 * 4)) 1) (fun v201 =>
  ld H113 (Addr.add (Addr.add a199 (Int.toNat n29 * 4)) 2) (fun v202 =>
  ld H113 (Addr.add (Addr.add a199 (Int.toNat n29 * 4)) 3) (fun v203 =>
  al H113 (Obj.cells #[Value.int IntKind.i64 0, Value.int IntKind.i64 0, Value.int IntKind.i64 0, Value.slice none 0 0] 61) (fun r204 H205 =>
  st H205 (Addr.mk r204 0 none) v200 (fun H206 =>
  st H206 (Addr.mk r204 1 none) v201 (fun H207 =>
  st H207 (Addr.mk r204 2 none) v202 (fun H208 =>
  st H208 (Addr.mk r204 3 none) v203 (fun H209 =>
  ld H209 (Addr.mk r204 1 none) (fun v210 =>
  dInt IntKind.i64 v210 (fun n211 =>
  wr IntKind.u64 n211 (fun n212 =>
  HCalls Try.prog 29 #[Value.pointer p14] H209 (Sp.retK (fun v213 H214 =>
  dInt IntKind.i64 v213 (fun n215 =>
  (ld H214 (Addr.mk r204 1 none) (fun v216 =>
  dInt IntKind.i64 v216 (fun n217 =>
  (Value.int IntKind.i64 n217) = (Value.int IntKind.i64 n211)))) ∧
  wr IntKind.u64 n215 (fun n218 =>
  ask (n218 ≠ (0 : Int)) (nm (Int.tmod n212 n218) (fun n219 =>
  wr IntKind.i64 n219 (fun n220 =>
  ld H214 (Addr.mk r204 0 none) (fun v221 =>
  dInt IntKind.i64 v221 (fun n222 =>
  ask ((2 : Int) ≠ (0 : Int)) (nm (Int.tmod n222 2) (fun n223 =>
  sB (n223 == 0) (ld H214 (Addr.mk r204 2 none) (fun v224 =>
  dInt IntKind.i64 v224 (fun n225 =>
  wr IntKind.u8 n225 (fun n226 =>
  al H214 (Obj.cells #[Value.int IntKind.u8 n226] 5) (fun r227 H228 =>
  HCalls Try.prog 30 #[Value.slice (some (Addr.mk r227 0 none)) 1 1, Value.int IntKind.i64 128] H228 (Sp.retK (fun v229 H230 =>
  dSl v229 (fun p231 r232 r233 =>
  HCalls Try.prog 31 #[Value.pointer p12, Value.int IntKind.i64 n220, Value.slice p231 r232 r233] H230 (Sp.retK (fun v234 H235 =>
  dInt IntKind.i64 v234 (fun n236 =>
  sB (n236 != 0) (R (Ending.returned (Value.bool false)) H235) (HCalls Try.prog 27 #[Value.pointer p12] H235 (Sp.retK (fun v237 H238 =>
  dSl v237 (fun p239 r240 r241 =>
  HCalls Try.prog 32 #[Value.slice p239 r240 r241, Value.int IntKind.i64 n220] H238 (Sp.retK (fun v242 H243 =>
  dBl v242 (fun b244 =>
  sB b244 (semW Try.prog (Instr.mapUpdate 59 (Value.map (some r25)) (Value.int IntKind.i64 n220) (Value.slice p231 r232 r233)) (pnR R) H243 (fun x247 H248 =>
  k198 H248)) (k198 H243))) (pnR R)))) (pnR R))))) (pnR R)))) (pnR R))))))) (HCalls Try.prog 23 #[Value.pointer p12, Value.int IntKind.i64 n220] H214 (Sp.retK (fun v257 H258 =>
  dT 2 v257 (fun v259 v260 =>
  dSl v259 (fun p261 r262 r263 =>
  dInt IntKind.i64 v260 (fun n264 =>
  semW Try.prog (Instr.lookup 59 (Value.map (some r25)) (Value.int IntKind.i64 n220) true) (pnR R) H258 (fun v267 H268 =>
  dT 2 v267 (fun v269 v270 =>
  dSl v269 (fun p271 r272 r273 =>
  dBl v270 (fun b274 =>
  jn (α := VFH 1) (fun v275 H276 =>
  ∀ v277 v278 v279 v280 v281 v282 v283 v284 : Value,
  dSl v275 (fun p285 r286 r287 =>
  jn (α := VFH 1) (fun v288 H289 =>
  ∀ v290 v291 v292 v293 v294 v295 v296 : Value,
  dBl v288 (fun b297 =>
  sB b297 (R (Ending.returned (Value.bool false)) H289) (semW Try.prog (Instr.range 59 (Value.map (some r25))) (pnR R) H289 (fun v300 H301 =>
  ∃ I302 : List Value → Heap → Prop,
  ∃ I303 : List Value → Heap → Nat,
  (I302 [] H301) ∧
  ∀ v304 v305 v306 v307 v308 v309 v310 v311 v312 v313 v314 v315 : Value,
  ∀ H316 : Heap,
  (I302 [] H316) →
  semW Try.prog (Instr.next v300 false 0) (pnR R) H316 (fun v320 H321 =>
  dNx v320 (k198 H321) (fun v322 v323 =>
  semW Try.prog (Instr.entry v300) (pnR R) H321 (fun v326 H327 =>
  dT 2 v326 (fun v328 v329 =>
  dInt IntKind.i64 v328 (fun n330 =>
  HCalls Try.prog 27 #[Value.pointer p12] H327 (Sp.retK (fun v331 H332 =>
  dSl v331 (fun p333 r334 r335 =>
  HCalls Try.prog 32 #[Value.slice p333 r334 r335, Value.int IntKind.i64 n330] H332 (Sp.retK (fun v336 H337 =>
  dBl v336 (fun b338 =>
  sB (!b338) (semW Try.prog (Builtin.delete_ #[59, 3] 0 #[Value.map (some r25), Value.int IntKind.i64 n330]) (pnR R) H337 (fun v341 H342 =>
  (I302 [] H342) ∧
  (I303 [] H342) < (I303 [] H316))) ((I302 [] H337) ∧
  (I303 [] H337) < (I303 [] H316)))) (pnR R)))) (pnR R))))))))))) (fun k347 =>
  sB (n264 != 0) (k347 (Value.bool true) H276) (HCalls Try.prog 34 #[Value.slice p261 r262 r263, Value.slice p285 r286 r287] H276 (Sp.retK (fun v348 H349 =>
  dBl v348 (fun b350 =>
  k347 (Value.bool !b350) H349)) (pnR R)))))) (fun k353 =>
  sB (!b274) (HCalls Try.prog 33 #[Value.pointer p14, Value.int IntKind.i64 n220] H268 (Sp.retK (fun v354 H355 =>
  dT 2 v354 (fun v356 v357 =>
  dSl v356 (fun p358 r359 r360 =>
  dInt IntKind.i64 v357 (fun n361 =>
  k353 (Value.slice p358 r359 r360) H355)))) (pnR R))) (k353 (Value.slice p271 r272 r273) H268)))))))))) (pnR R))))))))))))) nopR))))))))))))))))) (HCalls Try.prog 27 #[Value.pointer p12] H113 (Sp.retK (fun v368 H369 =>
  dSl v368 (fun p370 r371 r372 =>
  R (Ending.returned (Value.bool (decide ((↑r371 : Int) ≤ n4)))) H369)) (pnR R))))))) (fun k375 =>
  sB (!b16) (k375 (Value.bool true) H6) (k375 (Value.bool (Option.isNone p13)) H6))))))))) (pnR R)))))))
theorem F6_eq (x0 : Int) (x1 : Int) (x2a : Option Addr) (x2n : Nat) (x2c : Nat) (R : Ending → Heap → Prop) (H : Heap) : F6 x0 x1 x2a x2n x2c R H = vc Try.prog (codeOf Try.f6) (.node none .leaf (.node none .leaf (.node none .leaf (.node none (.node (some ⟨[(41, 4)], [36, 37, 38, 39, 40]⟩) .leaf .leaf) (.node none .leaf (.node none (.node none .leaf (.node none (.node (some ⟨[(45, 3)], [6, 14, 15, 16, 17, 18, 19, 20, 21, 46, 47, 48, 49, 50, 51, 52, 53, 54, 55, 56, 57, 58, 59, 60, 61, 62, 63, 64, 65, 66, 67, 68, 69, 70, 71, 72, 73, 74, 75, 76, 77, 78, 79, 80, 81, 82, 83, 84, 85, 86, 87, 88, 89, 90, 91, 92, 93, 94, 95, 96, 97, 98, 99, 100, 101, 102, 103, 104, 105, 106, 107, 108, 109, 110, 111, 112, 113, 114, 115, 116, 117, 118, 119]⟩) (.node none .leaf (.node none .leaf (.node (some ⟨[], [6, 14, 15, 16, 17, 18, 19, 20, 21, 47, 48, 49, 50, 51, 52, 53, 54, 55, 56, 57, 58, 59, 60, 61, 62, 63, 64, 65, 66, 67, 68, 69, 70, 71, 72, 73, 74, 75, 76, 77, 78, 79, 80, 81, 82, 83, 84, 85, 86, 87, 88, 89, 90, 91, 92, 93, 94, 95, 96, 97, 98, 99, 100, 101, 102, 103, 104, 105, 106, 107, 108, 109, 110, 111, 112, 113, 114, 115, 116, 117, 118]⟩) (.node none (.node none .leaf (.node none .leaf (.node none .leaf (.node none .leaf (.node none .leaf (.node (some ⟨[(19, 48)], [90, 91, 92, 93, 94, 95, 96, 97]⟩) .leaf (.node none (.node (some ⟨[(105, 4)], [98, 99, 100, 101, 102, 103, 104]⟩) .leaf .leaf) (.node none .leaf (.node none (.node (some ⟨[], [21, 108, 109, 110, 111, 112, 113, 114, 115, 116, 117, 118]⟩) .leaf .leaf) .leaf))))))))) .leaf) .leaf))) .leaf) .leaf)) .leaf)))))) (postV Try.prog Try.f6 R) ⟨#[Value.int IntKind.i64 x0, Value.int IntKind.i64 x1, Value.slice x2a x2n x2c] ++ Array.replicate (Try.f6.ntmps - 3) undef, []⟩ H := by kernel_rfl
theorem F6_calls {R : Ending → Heap → Prop} {H : Heap} (x0 : Int) (x1 : Int) (x2a : Option Addr) (x2n : Nat) (x2c : Nat) (h : F6 x0 x1 x2a x2n x2c R H) : HCalls Try.prog 6 #[Value.int IntKind.i64 x0, Value.int IntKind.i64 x1, Value.slice x2a x2n x2c] H R :=
  calls_by (F := F6 x0 x1 x2a x2n x2c R H) (.node none .leaf (.node none .leaf (.node none .leaf (.node none (.node (some ⟨[(41, 4)], [36, 37, 38, 39, 40]⟩) .leaf .leaf) (.node none .leaf (.node none (.node none .leaf (.node none (.node (some ⟨[(45, 3)], [6, 14, 15, 16, 17, 18, 19, 20, 21, 46, 47, 48, 49, 50, 51, 52, 53, 54, 55, 56, 57, 58, 59, 60, 61, 62, 63, 64, 65, 66, 67, 68, 69, 70, 71, 72, 73, 74, 75, 76, 77, 78, 79, 80, 81, 82, 83, 84, 85, 86, 87, 88, 89, 90, 91, 92, 93, 94, 95, 96, 97, 98, 99, 100, 101, 102, 103, 104, 105, 106, 107, 108, 109, 110, 111, 112, 113, 114, 115, 116, 117, 118, 119]⟩) (.node none .leaf (.node none .leaf (.node (some ⟨[], [6, 14, 15, 16, 17, 18, 19, 20, 21, 47, 48, 49, 50, 51, 52, 53, 54, 55, 56, 57, 58, 59, 60, 61, 62, 63, 64, 65, 66, 67, 68, 69, 70, 71, 72, 73, 74, 75, 76, 77, 78, 79, 80, 81, 82, 83, 84, 85, 86, 87, 88, 89, 90, 91, 92, 93, 94, 95, 96, 97, 98, 99, 100, 101, 102, 103, 104, 105, 106, 107, 108, 109, 110, 111, 112, 113, 114, 115, 116, 117, 118]⟩) (.node none (.node none .leaf (.node none .leaf (.node none .leaf (.node none .leaf (.node none .leaf (.node (some ⟨[(19, 48)], [90, 91, 92, 93, 94, 95, 96, 97]⟩) .leaf (.node none (.node (some ⟨[(105, 4)], [98, 99, 100, 101, 102, 103, 104]⟩) .leaf .leaf) (.node none .leaf (.node none (.node (some ⟨[], [21, 108, 109, 110, 111, 112, 113, 114, 115, 116, 117, 118]⟩) .leaf .leaf) .leaf))))))))) .leaf) .leaf))) .leaf) .leaf)) .leaf)))))) Try.func6 rfl (F6_eq x0 x1 x2a x2n x2c R H) h
/-- bollard/bollardlaw06.CacheNobody -/
def F7 (x0 : Int) (R : Ending → Heap → Prop) (H : Heap) : Prop :=
  al H (Obj.cells #[Value.pointer none, Value.int IntKind.i64 0, Value.map none, Value.int IntKind.i64 0, Value.int IntKind.i64 0, Value.int IntKind.i64 0] 71) (fun r1 H2 =>
  al H2 (Obj.cells #[Value.pointer none, Value.pointer (some (Addr.mk r1 0 none))] 42) (fun r3 H4 =>
  ∃ I5 : List Value → Heap → Prop,
  ∃ I6 : List Value → Heap → Nat,
  (I5 ([Value.int IntKind.i64 0]) H4) ∧
  ∀ n7 : Int,
  ∀ v8 v9 v10 v11 v12 v13 v14 v15 v16 v17 v18 v19 v20 v21 v22 v23 v24 v25 v26 v27 v28 v29 v30 v31 v32 v33 v34 v35 v36 v37 v38 v39 v40 v41 v42 v43 v44 v45 v46 v47 v48 v49 v50 v51 v52 v53 v54 v55 v56 v57 v58 v59 v60 v61 v62 v63 v64 v65 v66 v67 v68 v69 v70 v71 v72 v73 v74 : Value,
  ∀ H75 : Heap,
  (I5 ([Value.int IntKind.i64 n7]) H75) →
  sB (decide (n7 < 2)) (ask ((0 : Int) ≤ n7 ∧ n7 < (2 : Int)) (ld H75 (Addr.add (Addr.mk r3 0 none) (Int.toNat n7 * 1)) (fun v77 =>
  dPtr v77 (fun p78 =>
  HCalls Try.prog 23 #[Value.pointer p78, Value.int IntKind.i64 x0] H75 (Sp.retK (fun v79 H80 =>
  dT 2 v79 (fun v81 v82 =>
  dSl v81 (fun p83 r84 r85 =>
  dInt IntKind.i64 v82 (fun n86 =>
  HCalls Try.prog 28 #[Value.pointer p78] H80 (Sp.retK (fun v87 H88 =>
  dT 2 v87 (fun v89 v90 =>
  dInt IntKind.i64 v89 (fun n91 =>
  dInt IntKind.i64 v90 (fun n92 =>
  jn (α := VFH 1) (fun v93 H94 =>
  ∀ v95 v96 v97 v98 v99 v100 v101 v102 v103 v104 v105 v106 v107 v108 v109 v110 v111 v112 v113 v114 v115 v116 v117 v118 v119 v120 v121 v122 v123 v124 v125 v126 v127 v128 v129 v130 v131 v132 v133 v134 v135 v136 v137 v138 v139 : Value,
  dBl v93 (fun b140 =>
  sB b140 (R (Ending.returned (Value.bool false)) H94) (wr IntKind.i64 (n7 + 1) (fun n141 =>
  (I5 ([Value.int IntKind.i64 n141]) H94) ∧
  (I6 [Value.int IntKind.i64 n141] H94) < (I6 [Value.int IntKind.i64 n7] H75))))) (fun k142 =>
  sB (decide ((↑r84 : Int) > 0)) (k142 (Value.bool true) H88) (sB (n86 != 2) (k142 (Value.bool true) H88) (ask ((0 : Int) ≤ (128 : Int) ∧ (128 : Int) ≤ (128 : Int) ∧ (128 : Int) ≤ (281474976710656 : Int) ∧ (128 : Int) ≤ (9223372036854775807 : Int)) (al H88 (Obj.cells (List.toArray (rowZ [Value.int IntKind.u8 0] (Int.toNat 128))) 5) (fun r143 H144 =>
  HCalls Try.prog 31 #[Value.pointer p78, Value.int IntKind.i64 x0, Value.slice (some (Addr.mk r143 0 none)) (Int.toNat 128) (Int.toNat 128)] H144 (Sp.retK (fun v145 H146 =>
  dInt IntKind.i64 v145 (fun n147 =>
  sB (n147 != 2) (k142 (Value.bool true) H146) (HCalls Try.prog 35 #[Value.pointer p78, Value.int IntKind.i64 x0] H146 (Sp.retK (fun v148 H149 =>
  dInt IntKind.i64 v148 (fun n150 =>
  sB (n150 != 2) (k142 (Value.bool true) H149) (HCalls Try.prog 36 #[Value.pointer p78, Value.int IntKind.i64 x0] H149 (Sp.retK (fun v151 H152 =>
  dInt IntKind.i64 v151 (fun n153 =>
  sB (n153 != 2) (k142 (Value.bool true) H152) (HCalls Try.prog 37 #[Value.pointer p78, Value.int IntKind.i64 x0] H152 (Sp.retK (fun v154 H155 =>
  dInt IntKind.i64 v154 (fun n156 =>
  sB (n156 != 2) (k142 (Value.bool true) H155) (HCalls Try.prog 27 #[Value.pointer p78] H155 (Sp.retK (fun v157 H158 =>
  dSl v157 (fun p159 r160 r161 =>
  sB (decide ((↑r160 : Int) > 0)) (k142 (Value.bool true) H158) (sB (n91 != 0) (k142 (Value.bool true) H158) (k142 (Value.bool (n92 != 0)) H158)))) (pnR R))))) (pnR R))))) (pnR R))))) (pnR R))))) (pnR R))))))))))) (pnR R)))))) (pnR R)))))) (al H75 (Obj.cells #[Value.slice none 0 0, Value.slice none 0 0, Value.map none, Value.int IntKind.i64 0] 77) (fun r176 H177 =>
  al H177 (Obj.cells #[Value.pointer none, Value.pointer (some (Addr.mk r176 0 none))] 44) (fun r178 H179 =>
  ∃ I180 : List Value → Heap → Prop,
  ∃ I181 : List Value → Heap → Nat,
  (I180 ([Value.int IntKind.i64 0]) H179) ∧
  ∀ n182 : Int,
  ∀ v183 v184 v185 v186 v187 v188 v189 v190 v191 v192 v193 v194 v195 v196 v197 v198 v199 v200 v201 : Value,
  ∀ H202 : Heap,
  (I180 ([Value.int IntKind.i64 n182]) H202) →
  sB (decide (n182 < 2)) (ask ((0 : Int) ≤ n182 ∧ n182 < (2 : Int)) (ld H202 (Addr.add (Addr.mk r178 0 none) (Int.toNat n182 * 1)) (fun v204 =>
  dPtr v204 (fun p205 =>
  HCalls Try.prog 38 #[Value.pointer p205, Value.int IntKind.i64 5] H202 (Sp.retK (fun v206 H207 =>
  dT 2 v206 (fun v208 v209 =>
  dPtr v208 (fun p210 =>
  dInt IntKind.i64 v209 (fun n211 =>
  jn (α := VFH 1) (fun v212 H213 =>
  ∀ v214 v215 v216 v217 v218 : Value,
  dBl v212 (fun b219 =>
  sB b219 (R (Ending.returned (Value.bool false)) H213) (wr IntKind.i64 (n182 + 1) (fun n220 =>
  (I180 ([Value.int IntKind.i64 n220]) H213) ∧
  (I181 [Value.int IntKind.i64 n220] H213) < (I181 [Value.int IntKind.i64 n182] H202))))) (fun k221 =>
  sB (!Option.isNone p210) (k221 (Value.bool true) H207) (k221 (Value.bool (n211 != 2)) H207)))))) (pnR R)))))) (HCalls Try.prog 22 #[Value.int IntKind.i64 3, Value.int IntKind.i64 2] H202 (Sp.retK (fun v224 H225 =>
  dT 5 v224 (fun v226 v227 v228 v229 v230 =>
  dPtr v226 (fun p231 =>
  dPtr v227 (fun p232 =>
  dPtr v228 (fun p233 =>
  dPtr v229 (fun p234 =>
  dBl v230 (fun b235 =>
  sB b235 (R (Ending.returned (Value.bool !Option.isNone p232)) H225) (R (Ending.returned (Value.bool false)) H225)))))))) (pnR R))))))))
theorem F7_eq (x0 : Int) (R : Ending → Heap → Prop) (H : Heap) : F7 x0 R H = vc Try.prog (codeOf Try.f7) (.node none .leaf (.node none (.node none .leaf (.node none (.node (some ⟨[(22, 3)], [2, 4, 5, 6, 7, 8, 23, 24, 25, 26, 27, 28, 29, 30, 31, 32, 33, 34, 35, 36, 37, 38, 39, 40, 41, 42, 43, 44, 45, 46, 47, 48, 49, 50, 51, 52, 53, 54, 55, 56, 57, 58, 59, 60, 61, 62, 63, 64, 65, 66, 67, 68, 69, 70, 71, 72, 73, 74, 75, 76, 77, 78, 79, 80, 81, 82, 83]⟩) (.node none .leaf (.node none .leaf (.node none (.node none (.node none .leaf (.node none .leaf (.node none .leaf (.node (some ⟨[(82, 4)], [37, 38, 39, 40, 41, 42, 43, 44, 45, 46, 47, 48, 49, 50, 51, 52, 53, 54, 55, 56, 57, 58, 59, 60, 61, 62, 63, 64, 65, 66, 67, 68, 69, 70, 71, 72, 73, 74, 75, 76, 77, 78, 79, 80, 81]⟩) .leaf .leaf)))) .leaf) .leaf))) .leaf) .leaf)) (.node none (.node none .leaf (.node none (.node (some ⟨[(88, 3)], [2, 10, 11, 12, 89, 90, 91, 92, 93, 94, 95, 96, 97, 98, 99, 100, 101, 102, 103]⟩) (.node none .leaf (.node none .leaf (.node none (.node none (.node none .leaf (.node none .leaf (.node (some ⟨[(102, 4)], [97, 98, 99, 100, 101]⟩) .leaf .leaf))) .leaf) .leaf))) .leaf) .leaf)) .leaf))) (postV Try.prog Try.f7 R) ⟨#[Value.int IntKind.i64 x0] ++ Array.replicate (Try.f7.ntmps - 1) undef, []⟩ H := by kernel_rfl
theorem F7_calls {R : Ending → Heap → Prop} {H : Heap} (x0 : Int) (h : F7 x0 R H) : HCalls Try.prog 7 #[Value.int IntKind.i64 x0] H R :=
  calls_by (F := F7 x0 R H) (.node none .leaf (.node none (.node none .leaf (.node none (.node (some ⟨[(22, 3)], [2, 4, 5, 6, 7, 8, 23, 24, 25, 26, 27, 28, 29, 30, 31, 32, 33, 34, 35, 36, 37, 38, 39, 40, 41, 42, 43, 44, 45, 46, 47, 48, 49, 50, 51, 52, 53, 54, 55, 56, 57, 58, 59, 60, 61, 62, 63, 64, 65, 66, 67, 68, 69, 70, 71, 72, 73, 74, 75, 76, 77, 78, 79, 80, 81, 82, 83]⟩) (.node none .leaf (.node none .leaf (.node none (.node none (.node none .leaf (.node none .leaf (.node none .leaf (.node (some ⟨[(82, 4)], [37, 38, 39, 40, 41, 42, 43, 44, 45, 46, 47, 48, 49, 50, 51, 52, 53, 54, 55, 56, 57, 58, 59, 60, 61, 62, 63, 64, 65, 66, 67, 68, 69, 70, 71, 72, 73, 74, 75, 76, 77, 78, 79, 80, 81]⟩) .leaf .leaf)))) .leaf) .leaf))) .leaf) .leaf)) (.node none (.node none .leaf (.node none (.node (some ⟨[(88, 3)], [2, 10, 11, 12, 89, 90, 91, 92, 93, 94, 95, 96, 97, 98, 99, 100, 101, 102, 103]⟩) (.node none .leaf (.node none .leaf (.node none (.node none (.node none .leaf (.node none .leaf (.node (some ⟨[(102, 4)], [97, 98, 99, 100, 101]⟩) .leaf .leaf))) .leaf) .leaf))) .leaf) .leaf)) .leaf))) Try.func7 rfl (F7_eq x0 R H) h
/-- bollard/bollardlaw06.CacheBound -/
def F8 (x0 : Int) (x1 : Int) (x2a : Option Addr) (x2n : Nat) (x2c : Nat) (R : Ending → Heap → Prop) (H : Heap) : Prop :=
  wr IntKind.u64 x1 (fun n1 =>
  ask ((8 : Int) ≠ (0 : Int)) (nm (Int.tmod n1 8) (fun n2 =>
  wr IntKind.i64 n2 (fun n3 =>
  wr IntKind.i64 (1 + n3) (fun n4 =>
  HCalls Try.prog 22 #[Value.int IntKind.i64 x0, Value.int IntKind.i64 n4] H (Sp.retK (fun v5 H6 =>
  dT 5 v5 (fun v7 v8 v9 v10 v11 =>
  dPtr v7 (fun p12 =>
  dPtr v8 (fun p13 =>
  dPtr v9 (fun p14 =>
  dPtr v10 (fun p15 =>
  dBl v11 (fun b16 =>
  jn (α := VFH 1) (fun v17 H18 =>
  ∀ v19 v20 v21 v22 v23 : Value,
  dBl v17 (fun b24 =>
  sB b24 (R (Ending.returned (Value.bool false)) H18) (al H18 (Obj.map #[] 0) (fun r25 H26 =>
  ∃ I27 : List Value → Heap → Prop,
  ∃ I28 : List Value → Heap → Nat,
  (I27 ([Value.int IntKind.i64 0]) H26) ∧
  ∀ n29 : Int,
  ∀ v30 v31 v32 v33 v34 v35 v36 v37 v38 v39 v40 v41 v42 v43 v44 v45 v46 v47 v48 v49 v50 v51 v52 v53 v54 v55 v56 v57 v58 v59 v60 v61 v62 v63 v64 v65 v66 v67 v68 v69 v70 v71 v72 v73 v74 v75 v76 v77 v78 v79 v80 v81 v82 v83 v84 v85 v86 v87 v88 v89 v90 v91 v92 v93 v94 v95 v96 v97 v98 v99 v100 v101 v102 v103 v104 v105 v106 v107 v108 v109 v110 : Value,
  ∀ H111 : Heap,
  (I27 ([Value.int IntKind.i64 n29]) H111) →
  sB (decide (n29 < (↑x2n : Int))) (nz x2a (fun a113 =>
  ask ((0 : Int) ≤ n29 ∧ n29 < (↑x2n : Int)) (ld H111 (Addr.add a113 (Int.toNat n29 * 4)) (fun v114 =>
  ld H111 (Addr.add (Addr.add a113 (Int.toNat n29 * 4)) 1) (fun v115 =>
  ld H111 (Addr.add (Addr.add a113 (Int.toNat n29 * 4)) 2) (fun v116 =>
  ld H111 (Addr.add (Addr.add a113 (Int.toNat n29 * 4)) 3) (fun v117 =>
  al H111 (Obj.cells #[Value.int IntKind.i64 0, Value.int IntKind.i64 0, Value.int IntKind.i64 0, Value.slice none 0 0] 61) (fun r118 H119 =>
  st H119 (Addr.mk r118 0 none) v114 (fun H120 =>
  st H120 (Addr.mk r118 1 none) v115 (fun H121 =>
  st H121 (Addr.mk r118 2 none) v116 (fun H122 =>
  st H122 (Addr.mk r118 3 none) v117 (fun H123 =>
  ld H123 (Addr.mk r118 1 none) (fun v124 =>
  dInt IntKind.i64 v124 (fun n125 =>
  wr IntKind.u64 n125 (fun n126 =>
  ask ((12 : Int) ≠ (0 : Int)) (nm (Int.tmod n126 12) (fun n127 =>
  wr IntKind.i64 n127 (fun n128 =>
  jn (α := VFH 0) (fun H129 =>
  ∀ v130 v131 v132 v133 v134 v135 v136 v137 v138 v139 v140 v141 v142 v143 v144 v145 v146 v147 v148 v149 v150 v151 v152 v153 v154 v155 v156 v157 v158 v159 v160 v161 v162 v163 v164 v165 v166 : Value,
  HCalls Try.prog 27 #[Value.pointer p12] H129 (Sp.retK (fun v167 H168 =>
  dSl v167 (fun p169 r170 r171 =>
  sB (decide ((↑r170 : Int) > n4)) (R (Ending.returned (Value.bool false)) H168) (semW Try.prog (Instr.range 75 (Value.map (some r25))) (pnR R) H168 (fun v174 H175 =>
  ∃ I176 : List Value → Heap → Prop,
  ∃ I177 : List Value → Heap → Nat,
  (I176 [] H175) ∧
  ∀ v178 v179 v180 v181 v182 v183 v184 v185 v186 v187 v188 v189 v190 v191 v192 v193 : Value,
  ∀ H194 : Heap,
  (I176 [] H194) →
  semW Try.prog (Instr.next v174 false 0) (pnR R) H194 (fun v198 H199 =>
  dNx v198 (HCalls Try.prog 39 #[Value.slice p169 r170 r171] H199 (Sp.retK (fun v200 H201 =>
  HCalls Try.prog 40 #[Value.slice p169 r170 r171] H201 (Sp.retK (fun v202 H203 =>
  dSl v202 (fun p204 r205 r206 =>
  HCalls Try.prog 27 #[Value.pointer p12] H203 (Sp.retK (fun v207 H208 =>
  dSl v207 (fun p209 r210 r211 =>
  sB ((↑r205 : Int) != (↑r210 : Int)) (R (Ending.returned (Value.bool false)) H208) (wr IntKind.i64 (n29 + 1) (fun n212 =>
  (I27 ([Value.int IntKind.i64 n212]) H208) ∧
  (I28 [Value.int IntKind.i64 n212] H208) < (I28 [Value.int IntKind.i64 n29] H111))))) (pnR R)))) (pnR R))) (pnR R))) (fun v219 v220 =>
  semW Try.prog (Instr.entry v174) (pnR R) H199 (fun v223 H224 =>
  dT 2 v223 (fun v225 v226 =>
  dInt IntKind.i64 v225 (fun n227 =>
  dInt IntKind.i64 v226 (fun n228 =>
  jn (α := VFH 1) (fun v229 H230 =>
  ∀ v231 v232 v233 v234 v235 v236 v237 : Value,
  dBl v229 (fun b238 =>
  sB b238 (R (Ending.returned (Value.bool false)) H230) ((I176 [] H230) ∧
  (I177 [] H230) < (I177 [] H194)))) (fun k239 =>
  sB (decide (n228 > 0)) (HCalls Try.prog 32 #[Value.slice p169 r170 r171, Value.int IntKind.i64 n227] H224 (Sp.retK (fun v240 H241 =>
  dBl v240 (fun b242 =>
  k239 (Value.bool !b242) H241)) (pnR R))) (k239 (Value.bool false) H224)))))))))))) (pnR R))) (fun k247 =>
  ld H123 (Addr.mk r118 0 none) (fun v248 =>
  dInt IntKind.i64 v248 (fun n249 =>
  wr IntKind.u64 n249 (fun n250 =>
  ask ((3 : Int) ≠ (0 : Int)) (nm (Int.tmod n250 3) (fun n251 =>
  wr IntKind.i64 n251 (fun n252 =>
  sB (n252 == 0) (HCalls Try.prog 23 #[Value.pointer p12, Value.int IntKind.i64 n128] H123 (Sp.retK (fun v253 H254 =>
  dT 2 v253 (fun v255 v256 =>
  dSl v255 (fun p257 r258 r259 =>
  dInt IntKind.i64 v256 (fun n260 =>
  k247 H254)))) (pnR R))) (sB (n252 == 1) (HCalls Try.prog 36 #[Value.pointer p12, Value.int IntKind.i64 n128] H123 (Sp.retK (fun v263 H264 =>
  dInt IntKind.i64 v263 (fun n265 =>
  sB (n265 == 0) (semW Try.prog (Instr.lookup 75 (Value.map (some r25)) (Value.int IntKind.i64 n128) false) (pnR R) H264 (fun v268 H269 =>
  dInt IntKind.i64 v268 (fun n270 =>
  wr IntKind.i64 (n270 + 1) (fun n271 =>
  semW Try.prog (Instr.mapUpdate 75 (Value.map (some r25)) (Value.int IntKind.i64 n128) (Value.int IntKind.i64 n271)) (pnR R) H269 (fun x274 H275 =>
  k247 H275))))) (k247 H264))) (pnR R))) ((HCalls Try.prog 37 #[Value.pointer p12, Value.int IntKind.i64 n128] H123 (Sp.retK (fun v278 H279 =>
  dInt IntKind.i64 v278 (fun n280 =>
  semW Try.prog (Instr.lookup 75 (Value.map (some r25)) (Value.int IntKind.i64 n128) false) nopR H279 (fun v283 H284 =>
  dInt IntKind.i64 v283 (fun n285 =>
  sB (!(n280 == 0) == decide (n285 > 0)) (R (Ending.returned (Value.bool false)) H284) (semW Try.prog (Instr.lookup 75 (Value.map (some r25)) (Value.int IntKind.i64 n128) false) (pnR R) H284 (fun v288 H289 =>
  dInt IntKind.i64 v288 (fun n290 =>
  wr IntKind.i64 (n290 - 1) (fun n291 =>
  semW Try.prog (Builtin.max_ #[3, 3] 3 #[Value.int IntKind.i64 0, Value.int IntKind.i64 n291]) (pnR R) H289 (fun v294 H295 =>
  dInt IntKind.i64 v294 (fun n296 =>
  semW Try.prog (Instr.mapUpdate 75 (Value.map (some r25)) (Value.int IntKind.i64 n128) (Value.int IntKind.i64 n296)) (pnR R) H295 (fun x299 H300 =>
  k247 H300))))))))))) nopR)) ∧
  semW Try.prog (Instr.lookup 75 (Value.map (some r25)) (Value.int IntKind.i64 n128) false) nopR H123 (fun v305 H306 =>
  dInt IntKind.i64 v305 (fun n307 =>
  HCalls Try.prog 37 #[Value.pointer p12, Value.int IntKind.i64 n128] H306 (Sp.retK (fun v308 H309 =>
  dInt IntKind.i64 v308 (fun n310 =>
  sB (!(n310 == 0) == decide (n307 > 0)) (R (Ending.returned (Value.bool false)) H309) (semW Try.prog (Instr.lookup 75 (Value.map (some r25)) (Value.int IntKind.i64 n128) false) (pnR R) H309 (fun v313 H314 =>
  dInt IntKind.i64 v313 (fun n315 =>
  wr IntKind.i64 (n315 - 1) (fun n316 =>
  semW Try.prog (Builtin.max_ #[3, 3] 3 #[Value.int IntKind.i64 0, Value.int IntKind.i64 n316]) (pnR R) H314 (fun v319 H320 =>
  dInt IntKind.i64 v319 (fun n321 =>
  semW Try.prog (Instr.mapUpdate 75 (Value.map (some r25)) (Value.int IntKind.i64 n128) (Value.int IntKind.i64 n321)) (pnR R) H320 (fun x324 H325 =>
  k247 H325))))))))) nopR)))))))))))))))))))))))))))))) (HCalls Try.prog 27 #[Value.pointer p12] H111 (Sp.retK (fun v328 H329 =>
  dSl v328 (fun p330 r331 r332 =>
  R (Ending.returned (Value.bool (decide ((↑r331 : Int) ≤ n4)))) H329)) (pnR R))))))) (fun k335 =>
  sB (!b16) (k335 (Value.bool true) H6) (k335 (Value.bool (Option.isNone p13)) H6))))))))) (pnR R)))))))
theorem F8_eq (x0 : Int) (x1 : Int) (x2a : Option Addr) (x2n : Nat) (x2c : Nat) (R : Ending → Heap → Prop) (H : Heap) : F8 x0 x1 x2a x2n x2c R H = vc Try.prog (codeOf Try.f8) (.node none .leaf (.node none .leaf (.node none .leaf (.node none (.node (some ⟨[(38, 4)], [33, 34, 35, 36, 37]⟩) .leaf .leaf) (.node none .leaf (.node none (.node none .leaf (.node none (.node (some ⟨[(42, 3)], [6, 14, 15, 16, 17, 18, 43, 44, 45, 46, 47, 48, 49, 50, 51, 52, 53, 54, 55, 56, 57, 58, 59, 60, 61, 62, 63, 64, 65, 66, 67, 68, 69, 70, 71, 72, 73, 74, 75, 76, 77, 78, 79, 80, 81, 82, 83, 84, 85, 86, 87, 88, 89, 90, 91, 92, 93, 94, 95, 96, 97, 98, 99, 100, 101, 102, 103, 104, 105, 106, 107, 108, 109, 110, 111, 112, 113, 114, 115, 116, 117]⟩) (.node none .leaf (.node none .leaf (.node none (.node none (.node none .leaf (.node none .leaf (.node (some ⟨[], [6, 51, 52, 53, 54, 55, 56, 57, 58, 59, 60, 61, 62, 63, 64, 65, 66, 67, 68, 69, 70, 71, 72, 73, 74, 75, 76, 77, 78, 79, 80, 81, 82, 83, 84, 85, 86]⟩) .leaf (.node none .leaf (.node none .leaf (.node none (.node none .leaf (.node none (.node (some ⟨[], [6, 17, 18, 95, 96, 97, 98, 99, 100, 101, 102, 103, 104, 105, 106, 107]⟩) (.node none .leaf (.node none .leaf (.node none (.node none .leaf (.node (some ⟨[(107, 4)], [100, 101, 102, 103, 104, 105, 106]⟩) .leaf .leaf)) .leaf))) .leaf) .leaf)) .leaf)))))) .leaf) .leaf))) .leaf) .leaf)) .leaf)))))) (postV Try.prog Try.f8 R) ⟨#[Value.int IntKind.i64 x0, Value.int IntKind.i64 x1, Value.slice x2a x2n x2c] ++ Array.replicate (Try.f8.ntmps - 3) undef, []⟩ H := by kernel_rfl
theorem F8_calls {R : Ending → Heap → Prop} {H : Heap} (x0 : Int) (x1 : Int) (x2a : Option Addr) (x2n : Nat) (x2c : Nat) (h : F8 x0 x1 x2a x2n x2c R H) : HCalls Try.prog 8 #[Value.int IntKind.i64 x0, Value.int IntKind.i64 x1, Value.slice x2a x2n x2c] H R :=
  calls_by (F := F8 x0 x1 x2a x2n x2c R H) (.node none .leaf (.node none .leaf (.node none .leaf (.node none (.node (some ⟨[(38, 4)], [33, 34, 35, 36, 37]⟩) .leaf .leaf) (.node none .leaf (.node none (.node none .leaf (.node none (.node (some ⟨[(42, 3)], [6, 14, 15, 16, 17, 18, 43, 44, 45, 46, 47, 48, 49, 50, 51, 52, 53, 54, 55, 56, 57, 58, 59, 60, 61, 62, 63, 64, 65, 66, 67, 68, 69, 70, 71, 72, 73, 74, 75, 76, 77, 78, 79, 80, 81, 82, 83, 84, 85, 86, 87, 88, 89, 90, 91, 92, 93, 94, 95, 96, 97, 98, 99, 100, 101, 102, 103, 104, 105, 106, 107, 108, 109, 110, 111, 112, 113, 114, 115, 116, 117]⟩) (.node none .leaf (.node none .leaf (.node none (.node none (.node none .leaf (.node none .leaf (.node (some ⟨[], [6, 51, 52, 53, 54, 55, 56, 57, 58, 59, 60, 61, 62, 63, 64, 65, 66, 67, 68, 69, 70, 71, 72, 73, 74, 75, 76, 77, 78, 79, 80, 81, 82, 83, 84, 85, 86]⟩) .leaf (.node none .leaf (.node none .leaf (.node none (.node none .leaf (.node none (.node (some ⟨[], [6, 17, 18, 95, 96, 97, 98, 99, 100, 101, 102, 103, 104, 105, 106, 107]⟩) (.node none .leaf (.node none .leaf (.node none (.node none .leaf (.node (some ⟨[(107, 4)], [100, 101, 102, 103, 104, 105, 106]⟩) .leaf .leaf)) .leaf))) .leaf) .leaf)) .leaf)))))) .leaf) .leaf))) .leaf) .leaf)) .leaf)))))) Try.func8 rfl (F8_eq x0 x1 x2a x2n x2c R H) h
/-- bollard/bollardref04.Can -/
def F9 (x0_0 : Value) (x0_1 : Value) (x0_2 : Value) (R : Ending → Heap → Prop) (H : Heap) : Prop :=
  al H (Obj.cells #[x0_0, x0_1, x0_2] 23) (fun r1 H2 =>
  jn (α := VFH 1) (fun v3 H4 =>
  ∀ v5 v6 v7 v8 v9 v10 v11 v12 v13 v14 v15 v16 v17 v18 v19 v20 v21 v22 v23 v24 v25 v26 v27 v28 v29 v30 v31 v32 v33 v34 v35 v36 v37 v38 v39 v40 v41 v42 v43 v44 v45 v46 : Value,
  dBl v3 (fun b47 =>
  sB b47 (R (Ending.returned (Value.int IntKind.i64 170)) H4) (R (Ending.returned (Value.int IntKind.i64 0)) H4))) (fun k48 =>
  ld H2 (Addr.mk r1 0 none) (fun v49 =>
  dInt IntKind.i64 v49 (fun n50 =>
  sB (decide (n50 < 1)) (k48 (Value.bool true) H2) (ld H2 (Addr.mk r1 0 none) (fun v51 =>
  dInt IntKind.i64 v51 (fun n52 =>
  sB (decide (n52 > 8)) (k48 (Value.bool true) H2) (ld H2 (Addr.mk r1 1 none) (fun v53 =>
  dInt IntKind.i64 v53 (fun n54 =>
  sB (decide (n54 < 8)) (k48 (Value.bool true) H2) (ld H2 (Addr.mk r1 1 none) (fun v55 =>
  dInt IntKind.i64 v55 (fun n56 =>
  sB (decide (n56 > 256)) (k48 (Value.bool true) H2) (ld H2 (Addr.mk r1 2 none) (fun v57 =>
  dInt IntKind.i64 v57 (fun n58 =>
  sB (decide (n58 < 4)) (k48 (Value.bool true) H2) (ld H2 (Addr.mk r1 2 none) (fun v59 =>
  dInt IntKind.i64 v59 (fun n60 =>
  sB (decide (n60 > 64)) (k48 (Value.bool true) H2) (ld H2 (Addr.mk r1 2 none) (fun v61 =>
  dInt IntKind.i64 v61 (fun n62 =>
  ask ((4 : Int) ≠ (0 : Int)) (nm (Int.tmod n62 4) (fun n63 =>
  sB (n63 != 0) (k48 (Value.bool true) H2) (ld H2 (Addr.mk r1 1 none) (fun v64 =>
  dInt IntKind.i64 v64 (fun n65 =>
  ld H2 (Addr.mk r1 2 none) (fun v66 =>
  dInt IntKind.i64 v66 (fun n67 =>
  ask ((4 : Int) ≠ (0 : Int)) (wr IntKind.i64 (Int.tdiv n67 4) (fun n68 =>
  wr IntKind.i64 (3 + n68) (fun n69 =>
  k48 (Value.bool (decide (n65 < n69))) H2))))))))))))))))))))))))))))))))
theorem F9_eq (x0_0 : Value) (x0_1 : Value) (x0_2 : Value) (R : Ending → Heap → Prop) (H : Heap) : F9 x0_0 x0_1 x0_2 R H = vc Try.prog (codeOf Try.f9) (.node none .leaf (.node none (.node (some ⟨[(45, 4)], [3, 4, 5, 6, 7, 8, 9, 10, 11, 12, 13, 14, 15, 16, 17, 18, 19, 20, 21, 22, 23, 24, 25, 26, 27, 28, 29, 30, 31, 32, 33, 34, 35, 36, 37, 38, 39, 40, 41, 42, 43, 44]⟩) .leaf .leaf) .leaf)) (postV Try.prog Try.f9 R) ⟨#[Value.agg #[x0_0, x0_1, x0_2]] ++ Array.replicate (Try.f9.ntmps - 1) undef, []⟩ H := by kernel_rfl
theorem F9_calls {R : Ending → Heap → Prop} {H : Heap} (x0_0 : Value) (x0_1 : Value) (x0_2 : Value) (h : F9 x0_0 x0_1 x0_2 R H) : HCalls Try.prog 9 #[Value.agg #[x0_0, x0_1, x0_2]] H R :=
  calls_by (F := F9 x0_0 x0_1 x0_2 R H) (.node none .leaf (.node none (.node (some ⟨[(45, 4)], [3, 4, 5, 6, 7, 8, 9, 10, 11, 12, 13, 14, 15, 16, 17, 18, 19, 20, 21, 22, 23, 24, 25, 26, 27, 28, 29, 30, 31, 32, 33, 34, 35, 36, 37, 38, 39, 40, 41, 42, 43, 44]⟩) .leaf .leaf) .leaf)) Try.func9 rfl (F9_eq x0_0 x0_1 x0_2 R H) h
/-- bollard/geom.Can -/
def F10 (x0_0 : Value) (x0_1 : Value) (x0_2 : Value) (R : Ending → Heap → Prop) (H : Heap) : Prop :=
  al H (Obj.cells #[x0_0, x0_1, x0_2] 23) (fun r1 H2 =>
  jn (α := VFH 1) (fun v3 H4 =>
  ∀ v5 v6 v7 v8 v9 v10 v11 v12 v13 v14 v15 v16 v17 : Value,
  dBl v3 (fun b18 =>
  jn (α := VFH 1) (fun v19 H20 =>
  ∀ v21 v22 v23 v24 v25 v26 v27 v28 v29 v30 v31 v32 v33 v34 v35 : Value,
  dBl v19 (fun b36 =>
  sB b36 (R (Ending.returned (Value.int IntKind.i64 170)) H20) (R (Ending.returned (Value.int IntKind.i64 0)) H20))) (fun k37 =>
  sB (!b18) (k37 (Value.bool true) H4) (ld H4 (Addr.mk r1 2 none) (fun v38 =>
  dInt IntKind.i64 v38 (fun n39 =>
  ask ((4 : Int) ≠ (0 : Int)) (nm (Int.tmod n39 4) (fun n40 =>
  sB (n40 != 0) (k37 (Value.bool true) H4) (ld H4 (Addr.mk r1 1 none) (fun v41 =>
  dInt IntKind.i64 v41 (fun n42 =>
  ld H4 (Addr.mk r1 0 none) (fun v43 =>
  ld H4 (Addr.mk r1 1 none) (fun v44 =>
  ld H4 (Addr.mk r1 2 none) (fun v45 =>
  HCalls Try.prog 42 #[Value.agg #[v43, v44, v45]] H4 (Sp.retK (fun v46 H47 =>
  dInt IntKind.i64 v46 (fun n48 =>
  (ld H47 (Addr.mk r1 1 none) (fun v49 =>
  dInt IntKind.i64 v49 (fun n50 =>
  (Value.int IntKind.i64 n50) = (Value.int IntKind.i64 n42)))) ∧
  wr IntKind.i64 (n48 + 1) (fun n51 =>
  k37 (Value.bool (decide (n42 < n51))) H47))) nopR))))))))))))))) (fun k54 =>
  ld H2 (Addr.mk r1 0 none) (fun v55 =>
  dInt IntKind.i64 v55 (fun n56 =>
  HCalls Try.prog 41 #[Value.int IntKind.i64 n56, Value.int IntKind.i64 1, Value.int IntKind.i64 8] H2 (Sp.retK (fun v57 H58 =>
  dBl v57 (fun b59 =>
  sB b59 (ld H58 (Addr.mk r1 1 none) (fun v60 =>
  dInt IntKind.i64 v60 (fun n61 =>
  HCalls Try.prog 41 #[Value.int IntKind.i64 n61, Value.int IntKind.i64 8, Value.int IntKind.i64 256] H58 (Sp.retK (fun v62 H63 =>
  dBl v62 (fun b64 =>
  sB b64 (ld H63 (Addr.mk r1 2 none) (fun v65 =>
  dInt IntKind.i64 v65 (fun n66 =>
  HCalls Try.prog 41 #[Value.int IntKind.i64 n66, Value.int IntKind.i64 4, Value.int IntKind.i64 64] H63 (Sp.retK (fun v67 H68 =>
  dBl v67 (fun b69 =>
  k54 (Value.bool b69) H68)) (pnR R))))) (k54 (Value.bool false) H63))) (pnR R))))) (k54 (Value.bool false) H58))) (pnR R))))))
theorem F10_eq (x0_0 : Value) (x0_1 : Value) (x0_2 : Value) (R : Ending → Heap → Prop) (H : Heap) : F10 x0_0 x0_1 x0_2 R H = vc Try.prog (codeOf Try.f10) (.node none .leaf (.node (some ⟨[(3, 4)], [4, 5, 6, 7, 8, 9, 10, 11, 12, 13, 14, 15, 16]⟩) .leaf (.node none (.node (some ⟨[(32, 4)], [17, 18, 19, 20, 21, 22, 23, 24, 25, 26, 27, 28, 29, 30, 31]⟩) .leaf .leaf) .leaf))) (postV Try.prog Try.f10 R) ⟨#[Value.agg #[x0_0, x0_1, x0_2]] ++ Array.replicate (Try.f10.ntmps - 1) undef, []⟩ H := by kernel_rfl
theorem F10_calls {R : Ending → Heap → Prop} {H : Heap} (x0_0 : Value) (x0_1 : Value) (x0_2 : Value) (h : F10 x0_0 x0_1 x0_2 R H) : HCalls Try.prog 10 #[Value.agg #[x0_0, x0_1, x0_2]] H R :=
  calls_by (F := F10 x0_0 x0_1 x0_2 R H) (.node none .leaf (.node (some ⟨[(3, 4)], [4, 5, 6, 7, 8, 9, 10, 11, 12, 13, 14, 15, 16]⟩) .leaf (.node none (.node (some ⟨[(32, 4)], [17, 18, 19, 20, 21, 22, 23, 24, 25, 26, 27, 28, 29, 30, 31]⟩) .leaf .leaf) .leaf))) Try.func10 rfl (F10_eq x0_0 x0_1 x0_2 R H) h
/-- bollard/geom.Blocks -/
def F11 (x0_0 : Value) (x0_1 : Value) (x0_2 : Value) (R : Ending → Heap → Prop) (H : Heap) : Prop :=
  al H (Obj.cells #[x0_0, x0_1, x0_2] 23) (fun r1 H2 =>
  ld H2 (Addr.mk r1 0 none) (fun v3 =>
  ld H2 (Addr.mk r1 1 none) (fun v4 =>
  ld H2 (Addr.mk r1 2 none) (fun v5 =>
  ld H2 (Addr.mk r1 1 none) (fun v6 =>
  dInt IntKind.i64 v6 (fun n7 =>
  HCalls Try.prog 43 #[Value.agg #[v3, v4, v5], Value.int IntKind.i64 n7] H2 (Sp.retK (fun v8 H9 =>
  dInt IntKind.i64 v8 (fun n10 =>
  R (Ending.returned (Value.int IntKind.i64 n10)) H9)) (pnR R))))))))
theorem F11_eq (x0_0 : Value) (x0_1 : Value) (x0_2 : Value) (R : Ending → Heap → Prop) (H : Heap) : F11 x0_0 x0_1 x0_2 R H = vc Try.prog (codeOf Try.f11) .leaf (postV Try.prog Try.f11 R) ⟨#[Value.agg #[x0_0, x0_1, x0_2]] ++ Array.replicate (Try.f11.ntmps - 1) undef, []⟩ H := by kernel_rfl
theorem F11_calls {R : Ending → Heap → Prop} {H : Heap} (x0_0 : Value) (x0_1 : Value) (x0_2 : Value) (h : F11 x0_0 x0_1 x0_2 R H) : HCalls Try.prog 11 #[Value.agg #[x0_0, x0_1, x0_2]] H R :=
  calls_by (F := F11 x0_0 x0_1 x0_2 R H) .leaf Try.func11 rfl (F11_eq x0_0 x0_1 x0_2 R H) h
end Go.Proofs.Ytmgjdmohmhaemaa.E
