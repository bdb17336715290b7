/- My own texts, joined. -/
import Derived.KernelRfl
import Derived.Test.YtdlelcpkelginaaGreatProg
import Derived.Test.YtdlelcpkelginaaGreatCK3
/- The functions' forms in the engine's words, printed by my own program. -/
namespace Go.Proofs.YtdlelcpkelginaaGreat.E
open Go Go.Proofs
set_option linter.unusedVariables false
/-- (*bollard/check.Checker).Step -/
def F40 (x0 : Option Addr) (R : Ending → Heap → Prop) (H : Heap) : Prop :=
  jn (α := VFH 1) (fun v1 H2 =>
  ∀ v3 v4 v5 v6 v7 v8 v9 v10 : Value,
  dBl v1 (fun b11 =>
  sB b11 (R (Ending.returned (Value.tuple #[Value.slice none 0 0, Value.int IntKind.i64 2])) H2) (HCalls Tryz.prog 42 #[Value.pointer x0] H2 (Sp.retK (fun v12 H13 =>
  dBl v12 (fun b14 =>
  sB b14 (R (Ending.returned (Value.tuple #[Value.slice none 0 0, Value.int IntKind.i64 190])) H13) (nz x0 (fun a15 =>
  ld H13 (Addr.add a15 5) (fun v16 =>
  dInt IntKind.i64 v16 (fun n17 =>
  nz x0 (fun a18 =>
  ld H13 (Addr.add (Addr.add a18 5) 1) (fun v19 =>
  dInt IntKind.i64 v19 (fun n20 =>
  nz x0 (fun a21 =>
  ld H13 (Addr.add (Addr.add a21 5) 2) (fun v22 =>
  dMap v22 (fun p23 =>
  nz x0 (fun a24 =>
  ld H13 (Addr.add (Addr.add a24 5) 3) (fun v25 =>
  dMap v25 (fun p26 =>
  nz x0 (fun a27 =>
  ld H13 (Addr.add (Addr.add a27 5) 4) (fun v28 =>
  dSl v28 (fun p29 r30 r31 =>
  (HCalls Tryz.prog 122 #[Value.map p23] H13 (Sp.retK (fun v32 H33 =>
  dMap v32 (fun p34 =>
  (ld H33 (Addr.add (Addr.add a27 5) 4) (fun v35 =>
  dSl v35 (fun p36 r37 r38 =>
  (Value.slice p36 r37 r38) = (Value.slice p29 r30 r31)))) ∧
  (ld H33 (Addr.add (Addr.add a24 5) 3) (fun v39 =>
  dMap v39 (fun p40 =>
  (Value.map p40) = (Value.map p26)))) ∧
  (ld H33 (Addr.add (Addr.add a18 5) 1) (fun v41 =>
  dInt IntKind.i64 v41 (fun n42 =>
  (Value.int IntKind.i64 n42) = (Value.int IntKind.i64 n20)))) ∧
  (ld H33 (Addr.add a15 5) (fun v43 =>
  dInt IntKind.i64 v43 (fun n44 =>
  (Value.int IntKind.i64 n44) = (Value.int IntKind.i64 n17)))) ∧
  (HCalls Tryz.prog 123 #[Value.map p26] H33 (Sp.retK (fun v45 H46 =>
  dMap v45 (fun p47 =>
  (ld H46 (Addr.add (Addr.add a27 5) 4) (fun v48 =>
  dSl v48 (fun p49 r50 r51 =>
  (Value.slice p49 r50 r51) = (Value.slice p29 r30 r31)))) ∧
  (ld H46 (Addr.add (Addr.add a18 5) 1) (fun v52 =>
  dInt IntKind.i64 v52 (fun n53 =>
  (Value.int IntKind.i64 n53) = (Value.int IntKind.i64 n20)))) ∧
  (ld H46 (Addr.add a15 5) (fun v54 =>
  dInt IntKind.i64 v54 (fun n55 =>
  (Value.int IntKind.i64 n55) = (Value.int IntKind.i64 n17)))) ∧
  (HCalls Tryz.prog 124 #[Value.slice p29 r30 r31] H46 (Sp.retK (fun v56 H57 =>
  dSl v56 (fun p58 r59 r60 =>
  (ld H57 (Addr.add (Addr.add a18 5) 1) (fun v61 =>
  dInt IntKind.i64 v61 (fun n62 =>
  (Value.int IntKind.i64 n62) = (Value.int IntKind.i64 n20)))) ∧
  (ld H57 (Addr.add a15 5) (fun v63 =>
  dInt IntKind.i64 v63 (fun n64 =>
  (Value.int IntKind.i64 n64) = (Value.int IntKind.i64 n17)))) ∧
  al H57 (Obj.cells #[Value.int IntKind.i64 0, Value.int IntKind.i64 0, Value.map none, Value.map none, Value.slice none 0 0] 110) (fun r65 H66 =>
  (ld H66 (Addr.add (Addr.add a18 5) 1) (fun v67 =>
  dInt IntKind.i64 v67 (fun n68 =>
  (Value.int IntKind.i64 n68) = (Value.int IntKind.i64 n20)))) ∧
  (ld H66 (Addr.add a15 5) (fun v69 =>
  dInt IntKind.i64 v69 (fun n70 =>
  (Value.int IntKind.i64 n70) = (Value.int IntKind.i64 n17)))) ∧
  st H66 (Addr.mk r65 0 none) (Value.int IntKind.i64 n17) (fun H71 =>
  st H71 (Addr.mk r65 1 none) (Value.int IntKind.i64 n20) (fun H72 =>
  st H72 (Addr.mk r65 2 none) (Value.map p34) (fun H73 =>
  st H73 (Addr.mk r65 3 none) (Value.map p47) (fun H74 =>
  st H74 (Addr.mk r65 4 none) (Value.slice p58 r59 r60) (fun H75 =>
  HCalls Tryz.prog 125 #[Value.pointer x0] H75 (Sp.retK (fun v76 H77 =>
  dT 2 v76 (fun v78 v79 =>
  dSl v78 (fun p80 r81 r82 =>
  dInt IntKind.i64 v79 (fun n83 =>
  sB (n83 != 0) (ld H77 (Addr.mk r65 0 none) (fun v84 =>
  ld H77 (Addr.mk r65 1 none) (fun v85 =>
  ld H77 (Addr.mk r65 2 none) (fun v86 =>
  ld H77 (Addr.mk r65 3 none) (fun v87 =>
  ld H77 (Addr.mk r65 4 none) (fun v88 =>
  nz x0 (fun a89 =>
  st H77 (Addr.add a89 5) v84 (fun H90 =>
  st H90 (Addr.add (Addr.add a89 5) 1) v85 (fun H91 =>
  st H91 (Addr.add (Addr.add a89 5) 2) v86 (fun H92 =>
  st H92 (Addr.add (Addr.add a89 5) 3) v87 (fun H93 =>
  st H93 (Addr.add (Addr.add a89 5) 4) v88 (fun H94 =>
  R (Ending.returned (Value.tuple #[Value.slice none 0 0, Value.int IntKind.i64 n83])) H94)))))))))))) (R (Ending.returned (Value.tuple #[Value.slice p80 r81 r82, Value.int IntKind.i64 0])) H77))))) (pnR R)))))))))) nopR)) ∧
  al H46 (Obj.cells #[Value.int IntKind.i64 0, Value.int IntKind.i64 0, Value.map none, Value.map none, Value.slice none 0 0] 110) (fun r99 H100 =>
  (ld H100 (Addr.add (Addr.add a27 5) 4) (fun v101 =>
  dSl v101 (fun p102 r103 r104 =>
  (Value.slice p102 r103 r104) = (Value.slice p29 r30 r31)))) ∧
  (ld H100 (Addr.add (Addr.add a18 5) 1) (fun v105 =>
  dInt IntKind.i64 v105 (fun n106 =>
  (Value.int IntKind.i64 n106) = (Value.int IntKind.i64 n20)))) ∧
  (ld H100 (Addr.add a15 5) (fun v107 =>
  dInt IntKind.i64 v107 (fun n108 =>
  (Value.int IntKind.i64 n108) = (Value.int IntKind.i64 n17)))) ∧
  HCalls Tryz.prog 124 #[Value.slice p29 r30 r31] H100 (Sp.retK (fun v109 H110 =>
  dSl v109 (fun p111 r112 r113 =>
  (ld H110 (Addr.add (Addr.add a18 5) 1) (fun v114 =>
  dInt IntKind.i64 v114 (fun n115 =>
  (Value.int IntKind.i64 n115) = (Value.int IntKind.i64 n20)))) ∧
  (ld H110 (Addr.add a15 5) (fun v116 =>
  dInt IntKind.i64 v116 (fun n117 =>
  (Value.int IntKind.i64 n117) = (Value.int IntKind.i64 n17)))) ∧
  st H110 (Addr.mk r99 0 none) (Value.int IntKind.i64 n17) (fun H118 =>
  st H118 (Addr.mk r99 1 none) (Value.int IntKind.i64 n20) (fun H119 =>
  st H119 (Addr.mk r99 2 none) (Value.map p34) (fun H120 =>
  st H120 (Addr.mk r99 3 none) (Value.map p47) (fun H121 =>
  st H121 (Addr.mk r99 4 none) (Value.slice p111 r112 r113) (fun H122 =>
  HCalls Tryz.prog 125 #[Value.pointer x0] H122 (Sp.retK (fun v123 H124 =>
  dT 2 v123 (fun v125 v126 =>
  dSl v125 (fun p127 r128 r129 =>
  dInt IntKind.i64 v126 (fun n130 =>
  sB (n130 != 0) (ld H124 (Addr.mk r99 0 none) (fun v131 =>
  ld H124 (Addr.mk r99 1 none) (fun v132 =>
  ld H124 (Addr.mk r99 2 none) (fun v133 =>
  ld H124 (Addr.mk r99 3 none) (fun v134 =>
  ld H124 (Addr.mk r99 4 none) (fun v135 =>
  nz x0 (fun a136 =>
  st H124 (Addr.add a136 5) v131 (fun H137 =>
  st H137 (Addr.add (Addr.add a136 5) 1) v132 (fun H138 =>
  st H138 (Addr.add (Addr.add a136 5) 2) v133 (fun H139 =>
  st H139 (Addr.add (Addr.add a136 5) 3) v134 (fun H140 =>
  st H140 (Addr.add (Addr.add a136 5) 4) v135 (fun H141 =>
  R (Ending.returned (Value.tuple #[Value.slice none 0 0, Value.int IntKind.i64 n130])) H141)))))))))))) (R (Ending.returned (Value.tuple #[Value.slice p127 r128 r129, Value.int IntKind.i64 0])) H124))))) (pnR R))))))))) nopR)))) nopR)) ∧
  al H33 (Obj.cells #[Value.int IntKind.i64 0, Value.int IntKind.i64 0, Value.map none, Value.map none, Value.slice none 0 0] 110) (fun r148 H149 =>
  (ld H149 (Addr.add (Addr.add a27 5) 4) (fun v150 =>
  dSl v150 (fun p151 r152 r153 =>
  (Value.slice p151 r152 r153) = (Value.slice p29 r30 r31)))) ∧
  (ld H149 (Addr.add (Addr.add a24 5) 3) (fun v154 =>
  dMap v154 (fun p155 =>
  (Value.map p155) = (Value.map p26)))) ∧
  (ld H149 (Addr.add (Addr.add a18 5) 1) (fun v156 =>
  dInt IntKind.i64 v156 (fun n157 =>
  (Value.int IntKind.i64 n157) = (Value.int IntKind.i64 n20)))) ∧
  (ld H149 (Addr.add a15 5) (fun v158 =>
  dInt IntKind.i64 v158 (fun n159 =>
  (Value.int IntKind.i64 n159) = (Value.int IntKind.i64 n17)))) ∧
  HCalls Tryz.prog 123 #[Value.map p26] H149 (Sp.retK (fun v160 H161 =>
  dMap v160 (fun p162 =>
  (ld H161 (Addr.add (Addr.add a27 5) 4) (fun v163 =>
  dSl v163 (fun p164 r165 r166 =>
  (Value.slice p164 r165 r166) = (Value.slice p29 r30 r31)))) ∧
  (ld H161 (Addr.add (Addr.add a18 5) 1) (fun v167 =>
  dInt IntKind.i64 v167 (fun n168 =>
  (Value.int IntKind.i64 n168) = (Value.int IntKind.i64 n20)))) ∧
  (ld H161 (Addr.add a15 5) (fun v169 =>
  dInt IntKind.i64 v169 (fun n170 =>
  (Value.int IntKind.i64 n170) = (Value.int IntKind.i64 n17)))) ∧
  HCalls Tryz.prog 124 #[Value.slice p29 r30 r31] H161 (Sp.retK (fun v171 H172 =>
  dSl v171 (fun p173 r174 r175 =>
  (ld H172 (Addr.add (Addr.add a18 5) 1) (fun v176 =>
  dInt IntKind.i64 v176 (fun n177 =>
  (Value.int IntKind.i64 n177) = (Value.int IntKind.i64 n20)))) ∧
  (ld H172 (Addr.add a15 5) (fun v178 =>
  dInt IntKind.i64 v178 (fun n179 =>
  (Value.int IntKind.i64 n179) = (Value.int IntKind.i64 n17)))) ∧
  st H172 (Addr.mk r148 0 none) (Value.int IntKind.i64 n17) (fun H180 =>
  st H180 (Addr.mk r148 1 none) (Value.int IntKind.i64 n20) (fun H181 =>
  st H181 (Addr.mk r148 2 none) (Value.map p34) (fun H182 =>
  st H182 (Addr.mk r148 3 none) (Value.map p162) (fun H183 =>
  st H183 (Addr.mk r148 4 none) (Value.slice p173 r174 r175) (fun H184 =>
  HCalls Tryz.prog 125 #[Value.pointer x0] H184 (Sp.retK (fun v185 H186 =>
  dT 2 v185 (fun v187 v188 =>
  dSl v187 (fun p189 r190 r191 =>
  dInt IntKind.i64 v188 (fun n192 =>
  sB (n192 != 0) (ld H186 (Addr.mk r148 0 none) (fun v193 =>
  ld H186 (Addr.mk r148 1 none) (fun v194 =>
  ld H186 (Addr.mk r148 2 none) (fun v195 =>
  ld H186 (Addr.mk r148 3 none) (fun v196 =>
  ld H186 (Addr.mk r148 4 none) (fun v197 =>
  nz x0 (fun a198 =>
  st H186 (Addr.add a198 5) v193 (fun H199 =>
  st H199 (Addr.add (Addr.add a198 5) 1) v194 (fun H200 =>
  st H200 (Addr.add (Addr.add a198 5) 2) v195 (fun H201 =>
  st H201 (Addr.add (Addr.add a198 5) 3) v196 (fun H202 =>
  st H202 (Addr.add (Addr.add a198 5) 4) v197 (fun H203 =>
  R (Ending.returned (Value.tuple #[Value.slice none 0 0, Value.int IntKind.i64 n192])) H203)))))))))))) (R (Ending.returned (Value.tuple #[Value.slice p189 r190 r191, Value.int IntKind.i64 0])) H186))))) (pnR R))))))))) nopR))) nopR)))) nopR)) ∧
  al H13 (Obj.cells #[Value.int IntKind.i64 0, Value.int IntKind.i64 0, Value.map none, Value.map none, Value.slice none 0 0] 110) (fun r212 H213 =>
  (ld H213 (Addr.add (Addr.add a27 5) 4) (fun v214 =>
  dSl v214 (fun p215 r216 r217 =>
  (Value.slice p215 r216 r217) = (Value.slice p29 r30 r31)))) ∧
  (ld H213 (Addr.add (Addr.add a24 5) 3) (fun v218 =>
  dMap v218 (fun p219 =>
  (Value.map p219) = (Value.map p26)))) ∧
  (ld H213 (Addr.add (Addr.add a21 5) 2) (fun v220 =>
  dMap v220 (fun p221 =>
  (Value.map p221) = (Value.map p23)))) ∧
  (ld H213 (Addr.add (Addr.add a18 5) 1) (fun v222 =>
  dInt IntKind.i64 v222 (fun n223 =>
  (Value.int IntKind.i64 n223) = (Value.int IntKind.i64 n20)))) ∧
  (ld H213 (Addr.add a15 5) (fun v224 =>
  dInt IntKind.i64 v224 (fun n225 =>
  (Value.int IntKind.i64 n225) = (Value.int IntKind.i64 n17)))) ∧
  HCalls Tryz.prog 122 #[Value.map p23] H213 (Sp.retK (fun v226 H227 =>
  dMap v226 (fun p228 =>
  (ld H227 (Addr.add (Addr.add a27 5) 4) (fun v229 =>
  dSl v229 (fun p230 r231 r232 =>
  (Value.slice p230 r231 r232) = (Value.slice p29 r30 r31)))) ∧
  (ld H227 (Addr.add (Addr.add a24 5) 3) (fun v233 =>
  dMap v233 (fun p234 =>
  (Value.map p234) = (Value.map p26)))) ∧
  (ld H227 (Addr.add (Addr.add a18 5) 1) (fun v235 =>
  dInt IntKind.i64 v235 (fun n236 =>
  (Value.int IntKind.i64 n236) = (Value.int IntKind.i64 n20)))) ∧
  (ld H227 (Addr.add a15 5) (fun v237 =>
  dInt IntKind.i64 v237 (fun n238 =>
  (Value.int IntKind.i64 n238) = (Value.int IntKind.i64 n17)))) ∧
  HCalls Tryz.prog 123 #[Value.map p26] H227 (Sp.retK (fun v239 H240 =>
  dMap v239 (fun p241 =>
  (ld H240 (Addr.add (Addr.add a27 5) 4) (fun v242 =>
  dSl v242 (fun p243 r244 r245 =>
  (Value.slice p243 r244 r245) = (Value.slice p29 r30 r31)))) ∧
  (ld H240 (Addr.add (Addr.add a18 5) 1) (fun v246 =>
  dInt IntKind.i64 v246 (fun n247 =>
  (Value.int IntKind.i64 n247) = (Value.int IntKind.i64 n20)))) ∧
  (ld H240 (Addr.add a15 5) (fun v248 =>
  dInt IntKind.i64 v248 (fun n249 =>
  (Value.int IntKind.i64 n249) = (Value.int IntKind.i64 n17)))) ∧
  HCalls Tryz.prog 124 #[Value.slice p29 r30 r31] H240 (Sp.retK (fun v250 H251 =>
  dSl v250 (fun p252 r253 r254 =>
  (ld H251 (Addr.add (Addr.add a18 5) 1) (fun v255 =>
  dInt IntKind.i64 v255 (fun n256 =>
  (Value.int IntKind.i64 n256) = (Value.int IntKind.i64 n20)))) ∧
  (ld H251 (Addr.add a15 5) (fun v257 =>
  dInt IntKind.i64 v257 (fun n258 =>
  (Value.int IntKind.i64 n258) = (Value.int IntKind.i64 n17)))) ∧
  st H251 (Addr.mk r212 0 none) (Value.int IntKind.i64 n17) (fun H259 =>
  st H259 (Addr.mk r212 1 none) (Value.int IntKind.i64 n20) (fun H260 =>
  st H260 (Addr.mk r212 2 none) (Value.map p228) (fun H261 =>
  st H261 (Addr.mk r212 3 none) (Value.map p241) (fun H262 =>
  st H262 (Addr.mk r212 4 none) (Value.slice p252 r253 r254) (fun H263 =>
  HCalls Tryz.prog 125 #[Value.pointer x0] H263 (Sp.retK (fun v264 H265 =>
  dT 2 v264 (fun v266 v267 =>
  dSl v266 (fun p268 r269 r270 =>
  dInt IntKind.i64 v267 (fun n271 =>
  sB (n271 != 0) (ld H265 (Addr.mk r212 0 none) (fun v272 =>
  ld H265 (Addr.mk r212 1 none) (fun v273 =>
  ld H265 (Addr.mk r212 2 none) (fun v274 =>
  ld H265 (Addr.mk r212 3 none) (fun v275 =>
  ld H265 (Addr.mk r212 4 none) (fun v276 =>
  nz x0 (fun a277 =>
  st H265 (Addr.add a277 5) v272 (fun H278 =>
  st H278 (Addr.add (Addr.add a277 5) 1) v273 (fun H279 =>
  st H279 (Addr.add (Addr.add a277 5) 2) v274 (fun H280 =>
  st H280 (Addr.add (Addr.add a277 5) 3) v275 (fun H281 =>
  st H281 (Addr.add (Addr.add a277 5) 4) v276 (fun H282 =>
  R (Ending.returned (Value.tuple #[Value.slice none 0 0, Value.int IntKind.i64 n271])) H282)))))))))))) (R (Ending.returned (Value.tuple #[Value.slice p268 r269 r270, Value.int IntKind.i64 0])) H265))))) (pnR R))))))))) nopR))) nopR))) nopR)))))))))))))))))))) (pnR R))))) (fun k293 =>
  sB (Option.isNone x0) (k293 (Value.bool true) H) (nz x0 (fun a294 =>
  ld H a294 (fun v295 =>
  dPtr v295 (fun p296 =>
  k293 (Value.bool (Option.isNone p296)) H)))))
theorem F40_eq (x0 : Option Addr) (R : Ending → Heap → Prop) (H : Heap) : F40 x0 R H = vc Tryz.prog (codeOf Tryz.f40) (.node none .leaf (.node none (.node (some ⟨[(15, 4)], [7, 8, 9, 10, 11, 12, 13, 14]⟩) .leaf .leaf) .leaf)) (postV Tryz.prog Tryz.f40 R) ⟨#[Value.pointer x0] ++ Array.replicate (Tryz.f40.ntmps - 1) undef, []⟩ H := by kernel_rfl
theorem F40_calls {R : Ending → Heap → Prop} {H : Heap} (x0 : Option Addr) (h : F40 x0 R H) : HCalls Tryz.prog 40 #[Value.pointer x0] H R :=
  calls_by (F := F40 x0 R H) (.node none .leaf (.node none (.node (some ⟨[(15, 4)], [7, 8, 9, 10, 11, 12, 13, 14]⟩) .leaf .leaf) .leaf)) Tryz.func40 rfl (F40_eq x0 R H) h
/-- (*bollard/check.Checker).Pass -/
def F41 (x0 : Option Addr) (R : Ending → Heap → Prop) (H : Heap) : Prop :=
  jn (α := VFH 1) (fun v1 H2 =>
  ∀ v3 v4 v5 v6 v7 v8 v9 v10 v11 v12 v13 v14 v15 v16 : Value,
  dBl v1 (fun b17 =>
  sB b17 (R (Ending.returned (Value.int IntKind.i64 0)) H2) (nz x0 (fun a18 =>
  ld H2 (Addr.add a18 5) (fun v19 =>
  dInt IntKind.i64 v19 (fun n20 =>
  wr IntKind.i64 (n20 + 1) (fun n21 =>
  R (Ending.returned (Value.int IntKind.i64 n21)) H2))))))) (fun k22 =>
  sB (Option.isNone x0) (k22 (Value.bool true) H) (nz x0 (fun a23 =>
  ld H (Addr.add a23 5) (fun v24 =>
  dInt IntKind.i64 v24 (fun n25 =>
  nz x0 (fun a26 =>
  ld H (Addr.add a26 4) (fun v27 =>
  dSl v27 (fun p28 r29 r30 =>
  (ld H (Addr.add a23 5) (fun v31 =>
  dInt IntKind.i64 v31 (fun n32 =>
  (Value.int IntKind.i64 n32) = (Value.int IntKind.i64 n25)))) ∧
  k22 (Value.bool (decide (n25 ≥ (↑r29 : Int)))) H))))))))
theorem F41_eq (x0 : Option Addr) (R : Ending → Heap → Prop) (H : Heap) : F41 x0 R H = vc Tryz.prog (codeOf Tryz.f41) (.node none .leaf (.node none (.node (some ⟨[(17, 4)], [3, 4, 5, 6, 7, 8, 9, 10, 11, 12, 13, 14, 15, 16]⟩) .leaf .leaf) .leaf)) (postV Tryz.prog Tryz.f41 R) ⟨#[Value.pointer x0] ++ Array.replicate (Tryz.f41.ntmps - 1) undef, []⟩ H := by kernel_rfl
theorem F41_calls {R : Ending → Heap → Prop} {H : Heap} (x0 : Option Addr) (h : F41 x0 R H) : HCalls Tryz.prog 41 #[Value.pointer x0] H R :=
  calls_by (F := F41 x0 R H) (.node none .leaf (.node none (.node (some ⟨[(17, 4)], [3, 4, 5, 6, 7, 8, 9, 10, 11, 12, 13, 14, 15, 16]⟩) .leaf .leaf) .leaf)) Tryz.func41 rfl (F41_eq x0 R H) h
/-- (*bollard/check.Checker).Done -/
def F42 (x0 : Option Addr) (R : Ending → Heap → Prop) (H : Heap) : Prop :=
  HCalls Tryz.prog 41 #[Value.pointer x0] H (Sp.retK (fun v1 H2 =>
  dInt IntKind.i64 v1 (fun n3 =>
  R (Ending.returned (Value.bool (n3 == 0))) H2)) (pnR R))
theorem F42_eq (x0 : Option Addr) (R : Ending → Heap → Prop) (H : Heap) : F42 x0 R H = vc Tryz.prog (codeOf Tryz.f42) .leaf (postV Tryz.prog Tryz.f42 R) ⟨#[Value.pointer x0] ++ Array.replicate (Tryz.f42.ntmps - 1) undef, []⟩ H := by kernel_rfl
theorem F42_calls {R : Ending → Heap → Prop} {H : Heap} (x0 : Option Addr) (h : F42 x0 R H) : HCalls Tryz.prog 42 #[Value.pointer x0] H R :=
  calls_by (F := F42 x0 R H) .leaf Tryz.func42 rfl (F42_eq x0 R H) h
/-- (*bollard/check.Checker).Steps -/
def F43 (x0 : Option Addr) (R : Ending → Heap → Prop) (H : Heap) : Prop :=
  jn (α := VFH 1) (fun v1 H2 =>
  ∀ v3 v4 v5 v6 v7 v8 v9 v10 : Value,
  dBl v1 (fun b11 =>
  sB b11 (R (Ending.returned (Value.int IntKind.i64 0)) H2) (nz x0 (fun a12 =>
  ld H2 (Addr.add a12 1) (fun v13 =>
  ld H2 (Addr.add (Addr.add a12 1) 1) (fun v14 =>
  ld H2 (Addr.add (Addr.add a12 1) 2) (fun v15 =>
  nz x0 (fun a16 =>
  ld H2 (Addr.add a16 1) (fun v17 =>
  dInt IntKind.i64 v17 (fun n18 =>
  HCalls Tryz.prog 126 #[Value.agg #[v13, v14, v15]] H2 (Sp.retK (fun v19 H20 =>
  dInt IntKind.i64 v19 (fun n21 =>
  (ld H20 (Addr.add a16 1) (fun v22 =>
  dInt IntKind.i64 v22 (fun n23 =>
  (Value.int IntKind.i64 n23) = (Value.int IntKind.i64 n18)))) ∧
  wr IntKind.i64 (3 * n21) (fun n24 =>
  wr IntKind.i64 (n24 + n18) (fun n25 =>
  R (Ending.returned (Value.int IntKind.i64 n25)) H20)))) nopR))))))))))) (fun k28 =>
  sB (Option.isNone x0) (k28 (Value.bool true) H) (nz x0 (fun a29 =>
  ld H a29 (fun v30 =>
  dPtr v30 (fun p31 =>
  k28 (Value.bool (Option.isNone p31)) H)))))
theorem F43_eq (x0 : Option Addr) (R : Ending → Heap → Prop) (H : Heap) : F43 x0 R H = vc Tryz.prog (codeOf Tryz.f43) (.node none .leaf (.node none (.node (some ⟨[(11, 4)], [3, 4, 5, 6, 7, 8, 9, 10]⟩) .leaf .leaf) .leaf)) (postV Tryz.prog Tryz.f43 R) ⟨#[Value.pointer x0] ++ Array.replicate (Tryz.f43.ntmps - 1) undef, []⟩ H := by kernel_rfl
theorem F43_calls {R : Ending → Heap → Prop} {H : Heap} (x0 : Option Addr) (h : F43 x0 R H) : HCalls Tryz.prog 43 #[Value.pointer x0] H R :=
  calls_by (F := F43 x0 R H) (.node none .leaf (.node none (.node (some ⟨[(11, 4)], [3, 4, 5, 6, 7, 8, 9, 10]⟩) .leaf .leaf) .leaf)) Tryz.func43 rfl (F43_eq x0 R H) h
/-- bollard/bollardplain.Of -/
def F54 (x0a : Option Addr) (x0n : Nat) (x0c : Nat) (x1 : Int) (R : Ending → Heap → Prop) (H : Heap) : Prop :=
  al H (Obj.cells #[Value.pointer none, Value.pointer none, Value.pointer none, Value.pointer none] 40) (fun r1 H2 =>
  HCalls Tryz.prog 27 #[Value.slice x0a x0n x0c] H2 (Sp.retK (fun v3 H4 =>
  dSl v3 (fun p5 r6 r7 =>
  HCalls Tryz.prog 26 #[Value.slice p5 r6 r7] H4 (Sp.retK (fun v8 H9 =>
  dT 2 v8 (fun v10 v11 =>
  dPtr v10 (fun p12 =>
  dInt IntKind.i64 v11 (fun n13 =>
  HCalls Tryz.prog 28 #[Value.slice x0a x0n x0c] H9 (Sp.retK (fun v14 H15 =>
  dT 2 v14 (fun v16 v17 =>
  dPtr v16 (fun p18 =>
  dInt IntKind.i64 v17 (fun n19 =>
  jn (α := VFH 1) (fun v20 H21 =>
  ∀ v22 v23 v24 v25 v26 v27 v28 v29 v30 v31 : Value,
  dBl v20 (fun b32 =>
  sB b32 (sB (n13 == n19) (sB (Option.isNone p12) (R (Ending.returned (Value.tuple #[Value.pointer none, Value.bool (Option.isNone p18)])) H21) (R (Ending.returned (Value.tuple #[Value.pointer none, Value.bool false])) H21)) (R (Ending.returned (Value.tuple #[Value.pointer none, Value.bool false])) H21)) (HCalls Tryz.prog 81 #[Value.pointer p12, Value.int IntKind.i64 x1] H21 (Sp.retK (fun v33 H34 =>
  dT 2 v33 (fun v35 v36 =>
  dPtr v35 (fun p37 =>
  dInt IntKind.i64 v36 (fun n38 =>
  HCalls Tryz.prog 84 #[Value.pointer p18, Value.int IntKind.i64 x1] H34 (Sp.retK (fun v39 H40 =>
  dT 2 v39 (fun v41 v42 =>
  dPtr v41 (fun p43 =>
  dInt IntKind.i64 v42 (fun n44 =>
  jn (α := VFH 1) (fun v45 H46 =>
  ∀ v47 v48 v49 v50 v51 v52 v53 v54 v55 : Value,
  dBl v45 (fun b56 =>
  sB b56 (R (Ending.returned (Value.tuple #[Value.pointer none, Value.bool false])) H46) (sB (Option.isNone p43) (R (Ending.returned (Value.tuple #[Value.pointer none, Value.bool true])) H46) (st H46 (Addr.mk r1 0 none) (Value.pointer p12) (fun H57 =>
  st H57 (Addr.mk r1 1 none) (Value.pointer p37) (fun H58 =>
  st H58 (Addr.mk r1 2 none) (Value.pointer p18) (fun H59 =>
  st H59 (Addr.mk r1 3 none) (Value.pointer p43) (fun H60 =>
  R (Ending.returned (Value.tuple #[Value.pointer (some (Addr.mk r1 0 none)), Value.bool true])) H60)))))))) (fun k61 =>
  sB (n38 != n44) (k61 (Value.bool true) H40) (k61 (Value.bool !Option.isNone p37 == Option.isNone p43) H40)))))) (pnR R)))))) (pnR R))))) (fun k66 =>
  sB (n13 != n19) (k66 (Value.bool true) H15) (sB (Option.isNone p12) (k66 (Value.bool true) H15) (k66 (Value.bool (Option.isNone p18)) H15))))))) (pnR R)))))) (pnR R)))) (pnR R)))
theorem F54_eq (x0a : Option Addr) (x0n : Nat) (x0c : Nat) (x1 : Int) (R : Ending → Heap → Prop) (H : Heap) : F54 x0a x0n x0c x1 R H = vc Tryz.prog (codeOf Tryz.f54) (.node none .leaf (.node none .leaf (.node none .leaf (.node none .leaf (.node none (.node (some ⟨[(36, 4)], [26, 27, 28, 29, 30, 31, 32, 33, 34, 35]⟩) .leaf .leaf) (.node none .leaf (.node none .leaf (.node none (.node (some ⟨[(69, 4)], [60, 61, 62, 63, 64, 65, 66, 67, 68]⟩) .leaf .leaf) .leaf)))))))) (postV Tryz.prog Tryz.f54 R) ⟨#[Value.slice x0a x0n x0c, Value.int IntKind.i64 x1] ++ Array.replicate (Tryz.f54.ntmps - 2) undef, []⟩ H := by kernel_rfl
theorem F54_calls {R : Ending → Heap → Prop} {H : Heap} (x0a : Option Addr) (x0n : Nat) (x0c : Nat) (x1 : Int) (h : F54 x0a x0n x0c x1 R H) : HCalls Tryz.prog 54 #[Value.slice x0a x0n x0c, Value.int IntKind.i64 x1] H R :=
  calls_by (F := F54 x0a x0n x0c x1 R H) (.node none .leaf (.node none .leaf (.node none .leaf (.node none .leaf (.node none (.node (some ⟨[(36, 4)], [26, 27, 28, 29, 30, 31, 32, 33, 34, 35]⟩) .leaf .leaf) (.node none .leaf (.node none .leaf (.node none (.node (some ⟨[(69, 4)], [60, 61, 62, 63, 64, 65, 66, 67, 68]⟩) .leaf .leaf) .leaf)))))))) Tryz.func54 rfl (F54_eq x0a x0n x0c x1 R H) h
end Go.Proofs.YtdlelcpkelginaaGreat.E
/- The functions' forms in the engine's words, printed by my own program. -/
namespace Go.Proofs.YtdlelcpkelginaaGreat.E
open Go Go.Proofs
set_option linter.unusedVariables false
/-- bollard/bollardref03.EncodeDinode -/
def F61 (x0_0 : Value) (x0_1 : Value) (x0_2 : Value) (x0_3 : Value) (x0_4 : Value) (x0_5 : Value) (x0_6 : Value) (x0_7 : Value) (x0_8 : Value) (R : Ending → Heap → Prop) (H : Heap) : Prop :=
  al H (Obj.cells #[x0_0, x0_1, x0_2, x0_3, x0_4, x0_5, x0_6, x0_7, x0_8] 26) (fun r1 H2 =>
  ld H2 (Addr.mk r1 0 none) (fun v3 =>
  ld H2 (Addr.mk r1 1 none) (fun v4 =>
  ld H2 (Addr.mk r1 2 none) (fun v5 =>
  ld H2 (Addr.mk r1 3 none) (fun v6 =>
  ld H2 (Addr.mk r1 4 none) (fun v7 =>
  ld H2 (Addr.mk r1 5 none) (fun v8 =>
  ld H2 (Addr.mk r1 6 none) (fun v9 =>
  ld H2 (Addr.mk r1 7 none) (fun v10 =>
  ld H2 (Addr.mk r1 8 none) (fun v11 =>
  HCalls Tryz.prog 154 #[Value.agg #[v3, v4, v5, v6, v7, v8, v9, v10, v11]] H2 (Sp.retK (fun v12 H13 =>
  dBl v12 (fun b14 =>
  sB (!b14) (R (Ending.returned (Value.tuple #[Value.slice none 0 0, Value.int IntKind.i64 1])) H13) (ask ((0 : Int) ≤ (32 : Int) ∧ (32 : Int) ≤ (32 : Int) ∧ (32 : Int) ≤ (281474976710656 : Int) ∧ (32 : Int) ≤ (9223372036854775807 : Int)) (al H13 (Obj.cells (List.toArray (rowZ [Value.int IntKind.u8 0] (Int.toNat 32))) 5) (fun r15 H16 =>
  ld H16 (Addr.mk r1 0 none) (fun v17 =>
  dInt IntKind.i64 v17 (fun n18 =>
  sB (n18 == 0) (R (Ending.returned (Value.tuple #[Value.slice (some (Addr.mk r15 0 none)) (Int.toNat 32) (Int.toNat 32), Value.int IntKind.i64 0])) H16) (ld H16 (Addr.mk r1 0 none) (fun v19 =>
  dInt IntKind.i64 v19 (fun n20 =>
  HCalls Tryz.prog 155 #[Value.slice (some (Addr.mk r15 0 none)) (Int.toNat 32) (Int.toNat 32), Value.int IntKind.i64 0, Value.int IntKind.i64 1, Value.int IntKind.i64 n20] H16 (Sp.retK (fun v21 H22 =>
  dSl v21 (fun p23 r24 r25 =>
  ld H22 (Addr.mk r1 1 none) (fun v26 =>
  dInt IntKind.i64 v26 (fun n27 =>
  HCalls Tryz.prog 155 #[Value.slice p23 r24 r25, Value.int IntKind.i64 2, Value.int IntKind.i64 2, Value.int IntKind.i64 n27] H22 (Sp.retK (fun v28 H29 =>
  dSl v28 (fun p30 r31 r32 =>
  ld H29 (Addr.mk r1 2 none) (fun v33 =>
  dInt IntKind.i64 v33 (fun n34 =>
  HCalls Tryz.prog 155 #[Value.slice p30 r31 r32, Value.int IntKind.i64 4, Value.int IntKind.i64 4, Value.int IntKind.i64 n34] H29 (Sp.retK (fun v35 H36 =>
  dSl v35 (fun p37 r38 r39 =>
  ld H36 (Addr.mk r1 3 none) (fun v40 =>
  ld H36 (Addr.mk r1 4 none) (fun v41 =>
  ld H36 (Addr.mk r1 5 none) (fun v42 =>
  ld H36 (Addr.mk r1 6 none) (fun v43 =>
  ∃ I44 : List Value → Heap → Prop,
  ∃ I45 : List Value → Heap → Nat,
  (I44 ([Value.slice p37 r38 r39, Value.int IntKind.i64 0]) H36) ∧
  ∀ p46 : Option Addr,
  ∀ r47 : Nat,
  ∀ r48 : Nat,
  ∀ n49 : Int,
  ∀ v50 v51 v52 v53 v54 v55 v56 v57 v58 v59 v60 v61 : Value,
  ∀ H62 : Heap,
  (I44 ([Value.slice p46 r47 r48, Value.int IntKind.i64 n49]) H62) →
  sB (decide (n49 < 4)) (ask ((0 : Int) ≤ n49 ∧ n49 < (4 : Int)) (oV ([v40, v41, v42, v43][Int.toNat n49 * 1]?) (fun v64 =>
  dInt IntKind.i64 v64 (fun n65 =>
  wr IntKind.i64 (2 * n49) (fun n66 =>
  wr IntKind.i64 (8 + n66) (fun n67 =>
  HCalls Tryz.prog 155 #[Value.slice p46 r47 r48, Value.int IntKind.i64 n67, Value.int IntKind.i64 2, Value.int IntKind.i64 n65] H62 (Sp.retK (fun v68 H69 =>
  dSl v68 (fun p70 r71 r72 =>
  wr IntKind.i64 (n49 + 1) (fun n73 =>
  (I44 ([Value.slice p70 r71 r72, Value.int IntKind.i64 n73]) H69) ∧
  (I45 [Value.slice p70 r71 r72, Value.int IntKind.i64 n73] H69) < (I45 [Value.slice p46 r47 r48, Value.int IntKind.i64 n49] H62)))) (pnR R)))))))) (ld H62 (Addr.mk r1 7 none) (fun v76 =>
  dInt IntKind.i64 v76 (fun n77 =>
  HCalls Tryz.prog 155 #[Value.slice p46 r47 r48, Value.int IntKind.i64 16, Value.int IntKind.i64 2, Value.int IntKind.i64 n77] H62 (Sp.retK (fun v78 H79 =>
  dSl v78 (fun p80 r81 r82 =>
  ld H79 (Addr.mk r1 8 none) (fun v83 =>
  dInt IntKind.i64 v83 (fun n84 =>
  HCalls Tryz.prog 155 #[Value.slice p80 r81 r82, Value.int IntKind.i64 18, Value.int IntKind.i64 2, Value.int IntKind.i64 n84] H79 (Sp.retK (fun v85 H86 =>
  dSl v85 (fun p87 r88 r89 =>
  HCalls Tryz.prog 156 #[Value.slice p87 r88 r89] H86 (Sp.retK (fun v90 H91 =>
  dT 2 v90 (fun v92 v93 =>
  dSl v92 (fun p94 r95 r96 =>
  dInt IntKind.i64 v93 (fun n97 =>
  R (Ending.returned (Value.tuple #[Value.slice p94 r95 r96, Value.int IntKind.i64 n97])) H91)))) (pnR R)))) (pnR R)))))) (pnR R))))))))))) (pnR R)))))) (pnR R)))))) (pnR R)))))))))))) (pnR R))))))))))))
theorem F61_eq (x0_0 : Value) (x0_1 : Value) (x0_2 : Value) (x0_3 : Value) (x0_4 : Value) (x0_5 : Value) (x0_6 : Value) (x0_7 : Value) (x0_8 : Value) (R : Ending → Heap → Prop) (H : Heap) : F61 x0_0 x0_1 x0_2 x0_3 x0_4 x0_5 x0_6 x0_7 x0_8 R H = vc Tryz.prog (codeOf Tryz.f61) (.node none .leaf (.node none .leaf (.node none .leaf (.node none .leaf (.node none .leaf (.node none .leaf (.node none .leaf (.node none (.node none .leaf (.node none (.node (some ⟨[(4, 46), (29, 3)], [5, 6, 30, 31, 32, 33, 34, 35, 36, 37, 38, 39]⟩) .leaf .leaf) .leaf)) .leaf)))))))) (postV Tryz.prog Tryz.f61 R) ⟨#[Value.agg #[x0_0, x0_1, x0_2, x0_3, x0_4, x0_5, x0_6, x0_7, x0_8]] ++ Array.replicate (Tryz.f61.ntmps - 1) undef, []⟩ H := by kernel_rfl
theorem F61_calls {R : Ending → Heap → Prop} {H : Heap} (x0_0 : Value) (x0_1 : Value) (x0_2 : Value) (x0_3 : Value) (x0_4 : Value) (x0_5 : Value) (x0_6 : Value) (x0_7 : Value) (x0_8 : Value) (h : F61 x0_0 x0_1 x0_2 x0_3 x0_4 x0_5 x0_6 x0_7 x0_8 R H) : HCalls Tryz.prog 61 #[Value.agg #[x0_0, x0_1, x0_2, x0_3, x0_4, x0_5, x0_6, x0_7, x0_8]] H R :=
  calls_by (F := F61 x0_0 x0_1 x0_2 x0_3 x0_4 x0_5 x0_6 x0_7 x0_8 R H) (.node none .leaf (.node none .leaf (.node none .leaf (.node none .leaf (.node none .leaf (.node none .leaf (.node none .leaf (.node none (.node none .leaf (.node none (.node (some ⟨[(4, 46), (29, 3)], [5, 6, 30, 31, 32, 33, 34, 35, 36, 37, 38, 39]⟩) .leaf .leaf) .leaf)) .leaf)))))))) Tryz.func61 rfl (F61_eq x0_0 x0_1 x0_2 x0_3 x0_4 x0_5 x0_6 x0_7 x0_8 R H) h
/-- (*bollard/volume.Volume).Blocks -/
def F64 (x0 : Option Addr) (R : Ending → Heap → Prop) (H : Heap) : Prop :=
  HCalls Tryz.prog 68 #[Value.pointer x0] H (Sp.retK (fun v1 H2 =>
  dBl v1 (fun b3 =>
  sB (!b3) (R (Ending.returned (Value.int IntKind.i64 0)) H2) (nz x0 (fun a4 =>
  nz x0 (fun a5 =>
  ld H2 (Addr.add a5 2) (fun v6 =>
  dPtr v6 (fun p7 =>
  HCalls Tryz.prog 164 #[Value.pointer p7] H2 (Sp.retK (fun v8 H9 =>
  dInt IntKind.i64 v8 (fun n10 =>
  HCallsD Tryz.prog 69 #[Value.pointer (some a4)] FrameMode.returning H9 (fun e11 u12 H13 =>
  match e11 with
| Ending.returned v => leavesV Tryz.prog Tryz.f64 (Act.tmps (Act.mk #[Value.pointer x0, undef, Value.int IntKind.i64 n10, Value.pointer x0, Value.bool b3, Value.bool !b3, Value.pointer x0, Value.pointer (some a4), Value.pointer (some a4), Value.pointer x0, Value.pointer (some a5), Value.pointer (some (Addr.add a5 2)), Value.pointer p7, Value.int IntKind.i64 n10] [Deferred.mk (Target.fn (Fn.func 69) #[]) #[Value.pointer (some a4)]])) R [] (settle u12) H13
| Ending.panicked c => leavesV Tryz.prog Tryz.f64 (Act.tmps (Act.mk #[Value.pointer x0, undef, Value.int IntKind.i64 n10, Value.pointer x0, Value.bool b3, Value.bool !b3, Value.pointer x0, Value.pointer (some a4), Value.pointer (some a4), Value.pointer x0, Value.pointer (some a5), Value.pointer (some (Addr.add a5 2)), Value.pointer p7, Value.int IntKind.i64 n10] [Deferred.mk (Target.fn (Fn.func 69) #[]) #[Value.pointer (some a4)]])) R [] (raised u12 c) H13
| Ending.outgrown => False))) (fun c14 H15 =>
  HCallsD Tryz.prog 69 #[Value.pointer (some a4)] (FrameMode.panicking c14) H15 (fun e16 u17 H18 =>
  match e16 with
| Ending.returned v => leavesV Tryz.prog Tryz.f64 (Act.tmps (Act.mk #[Value.pointer x0, undef, Value.int IntKind.i64 0, Value.pointer x0, Value.bool b3, Value.bool !b3, Value.pointer x0, Value.pointer (some a4), Value.pointer (some a4), Value.pointer x0, Value.pointer (some a5), Value.pointer (some (Addr.add a5 2)), Value.pointer p7, undef] [Deferred.mk (Target.fn (Fn.func 69) #[]) #[Value.pointer (some a4)]])) R [] (settle u17) H18
| Ending.panicked c => leavesV Tryz.prog Tryz.f64 (Act.tmps (Act.mk #[Value.pointer x0, undef, Value.int IntKind.i64 0, Value.pointer x0, Value.bool b3, Value.bool !b3, Value.pointer x0, Value.pointer (some a4), Value.pointer (some a4), Value.pointer x0, Value.pointer (some a5), Value.pointer (some (Addr.add a5 2)), Value.pointer p7, undef] [Deferred.mk (Target.fn (Fn.func 69) #[]) #[Value.pointer (some a4)]])) R [] (raised u17 c) H18
| Ending.outgrown => False)))))))))) (pnR R))
theorem F64_eq (x0 : Option Addr) (R : Ending → Heap → Prop) (H : Heap) : F64 x0 R H = vc Tryz.prog (codeOf Tryz.f64) .leaf (postV Tryz.prog Tryz.f64 R) ⟨#[Value.pointer x0] ++ Array.replicate (Tryz.f64.ntmps - 1) undef, []⟩ H := by kernel_rfl
theorem F64_calls {R : Ending → Heap → Prop} {H : Heap} (x0 : Option Addr) (h : F64 x0 R H) : HCalls Tryz.prog 64 #[Value.pointer x0] H R :=
  calls_by (F := F64 x0 R H) .leaf Tryz.func64 rfl (F64_eq x0 R H) h
/-- bollard/geom.Can -/
def F65 (x0_0 : Value) (x0_1 : Value) (x0_2 : Value) (R : Ending → Heap → Prop) (H : Heap) : Prop :=
  al H (Obj.cells #[x0_0, x0_1, x0_2] 23) (fun r1 H2 =>
  jn (α := VFH 1) (fun v3 H4 =>
  ∀ v5 v6 v7 v8 v9 v10 v11 v12 v13 v14 v15 v16 v17 : Value,
  dBl v3 (fun b18 =>
  jn (α := VFH 1) (fun v19 H20 =>
  ∀ v21 v22 v23 v24 v25 v26 v27 v28 v29 v30 v31 v32 v33 v34 v35 : Value,
  dBl v19 (fun b36 =>
  sB b36 (R (Ending.returned (Value.int IntKind.i64 170)) H20) (R (Ending.returned (Value.int IntKind.i64 0)) H20))) (fun k37 =>
  sB (!b18) (k37 (Value.bool true) H4) (ld H4 (Addr.mk r1 2 none) (fun v38 =>
  dInt IntKind.i64 v38 (fun n39 =>
  ask ((4 : Int) ≠ (0 : Int)) (nm (Int.tmod n39 4) (fun n40 =>
  sB (n40 != 0) (k37 (Value.bool true) H4) (ld H4 (Addr.mk r1 1 none) (fun v41 =>
  dInt IntKind.i64 v41 (fun n42 =>
  ld H4 (Addr.mk r1 0 none) (fun v43 =>
  ld H4 (Addr.mk r1 1 none) (fun v44 =>
  ld H4 (Addr.mk r1 2 none) (fun v45 =>
  HCalls Tryz.prog 166 #[Value.agg #[v43, v44, v45]] H4 (Sp.retK (fun v46 H47 =>
  dInt IntKind.i64 v46 (fun n48 =>
  (ld H47 (Addr.mk r1 1 none) (fun v49 =>
  dInt IntKind.i64 v49 (fun n50 =>
  (Value.int IntKind.i64 n50) = (Value.int IntKind.i64 n42)))) ∧
  wr IntKind.i64 (n48 + 1) (fun n51 =>
  k37 (Value.bool (decide (n42 < n51))) H47))) nopR))))))))))))))) (fun k54 =>
  ld H2 (Addr.mk r1 0 none) (fun v55 =>
  dInt IntKind.i64 v55 (fun n56 =>
  HCalls Tryz.prog 165 #[Value.int IntKind.i64 n56, Value.int IntKind.i64 1, Value.int IntKind.i64 8] H2 (Sp.retK (fun v57 H58 =>
  dBl v57 (fun b59 =>
  sB b59 (ld H58 (Addr.mk r1 1 none) (fun v60 =>
  dInt IntKind.i64 v60 (fun n61 =>
  HCalls Tryz.prog 165 #[Value.int IntKind.i64 n61, Value.int IntKind.i64 8, Value.int IntKind.i64 256] H58 (Sp.retK (fun v62 H63 =>
  dBl v62 (fun b64 =>
  sB b64 (ld H63 (Addr.mk r1 2 none) (fun v65 =>
  dInt IntKind.i64 v65 (fun n66 =>
  HCalls Tryz.prog 165 #[Value.int IntKind.i64 n66, Value.int IntKind.i64 4, Value.int IntKind.i64 64] H63 (Sp.retK (fun v67 H68 =>
  dBl v67 (fun b69 =>
  k54 (Value.bool b69) H68)) (pnR R))))) (k54 (Value.bool false) H63))) (pnR R))))) (k54 (Value.bool false) H58))) (pnR R))))))
theorem F65_eq (x0_0 : Value) (x0_1 : Value) (x0_2 : Value) (R : Ending → Heap → Prop) (H : Heap) : F65 x0_0 x0_1 x0_2 R H = vc Tryz.prog (codeOf Tryz.f65) (.node none .leaf (.node (some ⟨[(3, 4)], [4, 5, 6, 7, 8, 9, 10, 11, 12, 13, 14, 15, 16]⟩) .leaf (.node none (.node (some ⟨[(32, 4)], [17, 18, 19, 20, 21, 22, 23, 24, 25, 26, 27, 28, 29, 30, 31]⟩) .leaf .leaf) .leaf))) (postV Tryz.prog Tryz.f65 R) ⟨#[Value.agg #[x0_0, x0_1, x0_2]] ++ Array.replicate (Tryz.f65.ntmps - 1) undef, []⟩ H := by kernel_rfl
theorem F65_calls {R : Ending → Heap → Prop} {H : Heap} (x0_0 : Value) (x0_1 : Value) (x0_2 : Value) (h : F65 x0_0 x0_1 x0_2 R H) : HCalls Tryz.prog 65 #[Value.agg #[x0_0, x0_1, x0_2]] H R :=
  calls_by (F := F65 x0_0 x0_1 x0_2 R H) (.node none .leaf (.node (some ⟨[(3, 4)], [4, 5, 6, 7, 8, 9, 10, 11, 12, 13, 14, 15, 16]⟩) .leaf (.node none (.node (some ⟨[(32, 4)], [17, 18, 19, 20, 21, 22, 23, 24, 25, 26, 27, 28, 29, 30, 31]⟩) .leaf .leaf) .leaf))) Tryz.func65 rfl (F65_eq x0_0 x0_1 x0_2 R H) h
/-- bollard/geom.Blocks -/
def F66 (x0_0 : Value) (x0_1 : Value) (x0_2 : Value) (R : Ending → Heap → Prop) (H : Heap) : Prop :=
  al H (Obj.cells #[x0_0, x0_1, x0_2] 23) (fun r1 H2 =>
  ld H2 (Addr.mk r1 0 none) (fun v3 =>
  ld H2 (Addr.mk r1 1 none) (fun v4 =>
  ld H2 (Addr.mk r1 2 none) (fun v5 =>
  ld H2 (Addr.mk r1 1 none) (fun v6 =>
  dInt IntKind.i64 v6 (fun n7 =>
  HCalls Tryz.prog 167 #[Value.agg #[v3, v4, v5], Value.int IntKind.i64 n7] H2 (Sp.retK (fun v8 H9 =>
  dInt IntKind.i64 v8 (fun n10 =>
  R (Ending.returned (Value.int IntKind.i64 n10)) H9)) (pnR R))))))))
theorem F66_eq (x0_0 : Value) (x0_1 : Value) (x0_2 : Value) (R : Ending → Heap → Prop) (H : Heap) : F66 x0_0 x0_1 x0_2 R H = vc Tryz.prog (codeOf Tryz.f66) .leaf (postV Tryz.prog Tryz.f66 R) ⟨#[Value.agg #[x0_0, x0_1, x0_2]] ++ Array.replicate (Tryz.f66.ntmps - 1) undef, []⟩ H := by kernel_rfl
theorem F66_calls {R : Ending → Heap → Prop} {H : Heap} (x0_0 : Value) (x0_1 : Value) (x0_2 : Value) (h : F66 x0_0 x0_1 x0_2 R H) : HCalls Tryz.prog 66 #[Value.agg #[x0_0, x0_1, x0_2]] H R :=
  calls_by (F := F66 x0_0 x0_1 x0_2 R H) .leaf Tryz.func66 rfl (F66_eq x0_0 x0_1 x0_2 R H) h
/-- (*bollard/volume.Volume).Freeze -/
def F67 (x0 : Option Addr) (x1 : Int) (R : Ending → Heap → Prop) (H : Heap) : Prop :=
  HCalls Tryz.prog 68 #[Value.pointer x0] H (Sp.retK (fun v1 H2 =>
  dBl v1 (fun b3 =>
  sB (!b3) (R (Ending.returned (Value.int IntKind.i64 2)) H2) (nz x0 (fun a4 =>
  nz x0 (fun a5 =>
  ld H2 (Addr.add a5 6) (fun v6 =>
  dBl v6 (fun b7 =>
  sB b7 (HCallsD Tryz.prog 69 #[Value.pointer (some a4)] FrameMode.returning H2 (fun e8 u9 H10 =>
  match e8 with
| Ending.returned v => leavesV Tryz.prog Tryz.f67 (Act.tmps (Act.mk #[Value.pointer x0, Value.int IntKind.i64 x1, undef, undef, Value.int IntKind.i64 3, Value.pointer x0, Value.bool b3, Value.bool !b3, Value.pointer x0, Value.pointer (some a4), Value.pointer (some a4), Value.bool b7, Value.pointer x0, Value.pointer (some a5), Value.pointer (some (Addr.add a5 6)), Value.pointer (some (Addr.add a5 6)), Value.bool b7, undef, undef, undef, undef, undef, undef, undef, undef, undef, undef, undef, undef, undef] [Deferred.mk (Target.fn (Fn.func 69) #[]) #[Value.pointer (some a4)]])) R [] (settle u9) H10
| Ending.panicked c => leavesV Tryz.prog Tryz.f67 (Act.tmps (Act.mk #[Value.pointer x0, Value.int IntKind.i64 x1, undef, undef, Value.int IntKind.i64 3, Value.pointer x0, Value.bool b3, Value.bool !b3, Value.pointer x0, Value.pointer (some a4), Value.pointer (some a4), Value.bool b7, Value.pointer x0, Value.pointer (some a5), Value.pointer (some (Addr.add a5 6)), Value.pointer (some (Addr.add a5 6)), Value.bool b7, undef, undef, undef, undef, undef, undef, undef, undef, undef, undef, undef, undef, undef] [Deferred.mk (Target.fn (Fn.func 69) #[]) #[Value.pointer (some a4)]])) R [] (raised u9 c) H10
| Ending.outgrown => False)) (jn (α := VFH 1) (fun v11 H12 =>
  ∀ v13 v14 v15 v16 v17 v18 : Value,
  dBl v11 (fun b19 =>
  sB b19 (HCallsD Tryz.prog 69 #[Value.pointer (some a4)] FrameMode.returning H12 (fun e20 u21 H22 =>
  match e20 with
| Ending.returned v => leavesV Tryz.prog Tryz.f67 (Act.tmps (Act.mk #[Value.pointer x0, Value.int IntKind.i64 x1, undef, undef, Value.int IntKind.i64 1, Value.pointer x0, Value.bool b3, Value.bool !b3, Value.pointer x0, Value.pointer (some a4), Value.pointer (some a4), Value.bool b7, Value.pointer x0, Value.pointer (some a5), Value.pointer (some (Addr.add a5 6)), Value.pointer (some (Addr.add a5 6)), Value.bool b7, Value.bool b19, v13, v14, v15, v16, v17, v18, undef, undef, undef, undef, undef, undef] [Deferred.mk (Target.fn (Fn.func 69) #[]) #[Value.pointer (some a4)]])) R [] (settle u21) H22
| Ending.panicked c => leavesV Tryz.prog Tryz.f67 (Act.tmps (Act.mk #[Value.pointer x0, Value.int IntKind.i64 x1, undef, undef, Value.int IntKind.i64 1, Value.pointer x0, Value.bool b3, Value.bool !b3, Value.pointer x0, Value.pointer (some a4), Value.pointer (some a4), Value.bool b7, Value.pointer x0, Value.pointer (some a5), Value.pointer (some (Addr.add a5 6)), Value.pointer (some (Addr.add a5 6)), Value.bool b7, Value.bool b19, v13, v14, v15, v16, v17, v18, undef, undef, undef, undef, undef, undef] [Deferred.mk (Target.fn (Fn.func 69) #[]) #[Value.pointer (some a4)]])) R [] (raised u21 c) H22
| Ending.outgrown => False)) (al H12 (Obj.map #[] 0) (fun r23 H24 =>
  nz x0 (fun a25 =>
  st H24 (Addr.add a25 6) (Value.bool true) (fun H26 =>
  st H26 (Addr.add (Addr.add a25 6) 1) (Value.bool false) (fun H27 =>
  st H27 (Addr.add (Addr.add a25 6) 2) (Value.int IntKind.i64 x1) (fun H28 =>
  st H28 (Addr.add (Addr.add a25 6) 3) (Value.map (some r23)) (fun H29 =>
  HCallsD Tryz.prog 69 #[Value.pointer (some a4)] FrameMode.returning H29 (fun e30 u31 H32 =>
  match e30 with
| Ending.returned v => leavesV Tryz.prog Tryz.f67 (Act.tmps (Act.mk #[Value.pointer x0, Value.int IntKind.i64 x1, undef, undef, Value.int IntKind.i64 0, Value.pointer x0, Value.bool b3, Value.bool !b3, Value.pointer x0, Value.pointer (some a4), Value.pointer (some a4), Value.bool b7, Value.pointer x0, Value.pointer (some a5), Value.pointer (some (Addr.add a5 6)), Value.pointer (some (Addr.add a5 6)), Value.bool b7, Value.bool b19, v13, v14, v15, v16, v17, v18, Value.pointer x0, Value.int IntKind.i64 x1, Value.map (some r23), Value.agg #[Value.bool true, Value.bool false, Value.int IntKind.i64 x1, Value.map (some r23)], Value.pointer (some a25), Value.pointer (some (Addr.add a25 6))] [Deferred.mk (Target.fn (Fn.func 69) #[]) #[Value.pointer (some a4)]])) R [] (settle u31) H32
| Ending.panicked c => leavesV Tryz.prog Tryz.f67 (Act.tmps (Act.mk #[Value.pointer x0, Value.int IntKind.i64 x1, undef, undef, Value.int IntKind.i64 0, Value.pointer x0, Value.bool b3, Value.bool !b3, Value.pointer x0, Value.pointer (some a4), Value.pointer (some a4), Value.bool b7, Value.pointer x0, Value.pointer (some a5), Value.pointer (some (Addr.add a5 6)), Value.pointer (some (Addr.add a5 6)), Value.bool b7, Value.bool b19, v13, v14, v15, v16, v17, v18, Value.pointer x0, Value.int IntKind.i64 x1, Value.map (some r23), Value.agg #[Value.bool true, Value.bool false, Value.int IntKind.i64 x1, Value.map (some r23)], Value.pointer (some a25), Value.pointer (some (Addr.add a25 6))] [Deferred.mk (Target.fn (Fn.func 69) #[]) #[Value.pointer (some a4)]])) R [] (raised u31 c) H32
| Ending.outgrown => False)))))))))) (fun k33 =>
  sB (decide (x1 < 0)) (k33 (Value.bool true) H2) (k33 (Value.bool (decide (x1 > 65536))) H2)))))))))) (pnR R))
theorem F67_eq (x0 : Option Addr) (x1 : Int) (R : Ending → Heap → Prop) (H : Heap) : F67 x0 x1 R H = vc Tryz.prog (codeOf Tryz.f67) (.node none .leaf (.node none .leaf (.node none .leaf (.node none (.node none (.node none .leaf (.node none .leaf (.node (some ⟨[(17, 4)], [18, 19, 20, 21, 22, 23]⟩) .leaf .leaf))) .leaf) .leaf)))) (postV Tryz.prog Tryz.f67 R) ⟨#[Value.pointer x0, Value.int IntKind.i64 x1] ++ Array.replicate (Tryz.f67.ntmps - 2) undef, []⟩ H := by kernel_rfl
theorem F67_calls {R : Ending → Heap → Prop} {H : Heap} (x0 : Option Addr) (x1 : Int) (h : F67 x0 x1 R H) : HCalls Tryz.prog 67 #[Value.pointer x0, Value.int IntKind.i64 x1] H R :=
  calls_by (F := F67 x0 x1 R H) (.node none .leaf (.node none .leaf (.node none .leaf (.node none (.node none (.node none .leaf (.node none .leaf (.node (some ⟨[(17, 4)], [18, 19, 20, 21, 22, 23]⟩) .leaf .leaf))) .leaf) .leaf)))) Tryz.func67 rfl (F67_eq x0 x1 R H) h
/-- (*bollard/volume.Volume).held -/
def F68 (x0 : Option Addr) (R : Ending → Heap → Prop) (H : Heap) : Prop :=
  sB (Option.isNone x0) (R (Ending.returned (Value.bool false)) H) (nz x0 (fun a1 =>
  HCalls Tryz.prog 168 #[Value.pointer (some a1)] H (Sp.retK (fun v2 H3 =>
  nz x0 (fun a4 =>
  ld H3 (Addr.add a4 2) (fun v5 =>
  dPtr v5 (fun p6 =>
  sB (Option.isNone p6) (nz x0 (fun a7 =>
  HCalls Tryz.prog 69 #[Value.pointer (some a7)] H3 (Sp.retK (fun v8 H9 =>
  R (Ending.returned (Value.bool false)) H9) (pnR R)))) (R (Ending.returned (Value.bool true)) H3))))) (pnR R))))
theorem F68_eq (x0 : Option Addr) (R : Ending → Heap → Prop) (H : Heap) : F68 x0 R H = vc Tryz.prog (codeOf Tryz.f68) .leaf (postV Tryz.prog Tryz.f68 R) ⟨#[Value.pointer x0] ++ Array.replicate (Tryz.f68.ntmps - 1) undef, []⟩ H := by kernel_rfl
theorem F68_calls {R : Ending → Heap → Prop} {H : Heap} (x0 : Option Addr) (h : F68 x0 R H) : HCalls Tryz.prog 68 #[Value.pointer x0] H R :=
  calls_by (F := F68 x0 R H) .leaf Tryz.func68 rfl (F68_eq x0 R H) h
/-- (*bollard/volume.Volume).has -/
def F70 (x0 : Option Addr) (x1 : Int) (R : Ending → Heap → Prop) (H : Heap) : Prop :=
  sB (decide (x1 ≥ 0)) (nz x0 (fun a1 =>
  ld H (Addr.add a1 2) (fun v2 =>
  dPtr v2 (fun p3 =>
  HCalls Tryz.prog 164 #[Value.pointer p3] H (Sp.retK (fun v4 H5 =>
  dInt IntKind.i64 v4 (fun n6 =>
  R (Ending.returned (Value.bool (decide (x1 < n6)))) H5)) (pnR R)))))) (R (Ending.returned (Value.bool false)) H)
theorem F70_eq (x0 : Option Addr) (x1 : Int) (R : Ending → Heap → Prop) (H : Heap) : F70 x0 x1 R H = vc Tryz.prog (codeOf Tryz.f70) .leaf (postV Tryz.prog Tryz.f70 R) ⟨#[Value.pointer x0, Value.int IntKind.i64 x1] ++ Array.replicate (Tryz.f70.ntmps - 2) undef, []⟩ H := by kernel_rfl
theorem F70_calls {R : Ending → Heap → Prop} {H : Heap} (x0 : Option Addr) (x1 : Int) (h : F70 x0 x1 R H) : HCalls Tryz.prog 70 #[Value.pointer x0, Value.int IntKind.i64 x1] H R :=
  calls_by (F := F70 x0 x1 R H) .leaf Tryz.func70 rfl (F70_eq x0 x1 R H) h
/-- (*bollard/volume.Volume).read -/
def F71 (x0 : Option Addr) (x1 : Int) (R : Ending → Heap → Prop) (H : Heap) : Prop :=
  HCalls Tryz.prog 70 #[Value.pointer x0, Value.int IntKind.i64 x1] H (Sp.retK (fun v1 H2 =>
  dBl v1 (fun b3 =>
  sB (!b3) (R (Ending.returned (Value.tuple #[Value.slice none 0 0, Value.int IntKind.i64 90])) H2) (nz x0 (fun a4 =>
  ld H2 (Addr.add a4 3) (fun v5 =>
  dPtr v5 (fun p6 =>
  HCalls Tryz.prog 170 #[Value.pointer p6, Value.int IntKind.i64 x1] H2 (Sp.retK (fun v7 H8 =>
  dT 2 v7 (fun v9 v10 =>
  dSl v9 (fun p11 r12 r13 =>
  dInt IntKind.i64 v10 (fun n14 =>
  sB (n14 != 0) (R (Ending.returned (Value.tuple #[Value.slice none 0 0, Value.int IntKind.i64 n14])) H8) (nz x0 (fun a15 =>
  ld H8 (Addr.add a15 4) (fun v16 =>
  dPtr v16 (fun p17 =>
  HCalls Tryz.prog 171 #[Value.pointer p17, Value.int IntKind.i64 x1, Value.slice p11 r12 r13] H8 (Sp.retK (fun v18 H19 =>
  dT 2 v18 (fun v20 v21 =>
  dSl v20 (fun p22 r23 r24 =>
  dInt IntKind.i64 v21 (fun n25 =>
  R (Ending.returned (Value.tuple #[Value.slice p22 r23 r24, Value.int IntKind.i64 n25])) H19)))) (pnR R)))))))))) (pnR R)))))))) (pnR R))
theorem F71_eq (x0 : Option Addr) (x1 : Int) (R : Ending → Heap → Prop) (H : Heap) : F71 x0 x1 R H = vc Tryz.prog (codeOf Tryz.f71) .leaf (postV Tryz.prog Tryz.f71 R) ⟨#[Value.pointer x0, Value.int IntKind.i64 x1] ++ Array.replicate (Tryz.f71.ntmps - 2) undef, []⟩ H := by kernel_rfl
theorem F71_calls {R : Ending → Heap → Prop} {H : Heap} (x0 : Option Addr) (x1 : Int) (h : F71 x0 x1 R H) : HCalls Tryz.prog 71 #[Value.pointer x0, Value.int IntKind.i64 x1] H R :=
  calls_by (F := F71 x0 x1 R H) .leaf Tryz.func71 rfl (F71_eq x0 x1 R H) h
end Go.Proofs.YtdlelcpkelginaaGreat.E
/- The functions' forms in the engine's words, printed by my own program. -/
namespace Go.Proofs.YtdlelcpkelginaaGreat.E
open Go Go.Proofs
set_option linter.unusedVariables false
/-- (*bollard/snap.Snap).there -/
def F73 (x0 : Option Addr) (R : Ending → Heap → Prop) (H : Heap) : Prop :=
  jn (α := VFH 1) (fun v1 H2 =>
  ∀ v3 v4 v5 v6 v7 v8 v9 v10 v11 : Value,
  dBl v1 (fun b12 =>
  sB b12 (R (Ending.returned (Value.int IntKind.i64 2)) H2) (nz x0 (fun a13 =>
  HCalls Tryz.prog 168 #[Value.pointer (some a13)] H2 (Sp.retK (fun v14 H15 =>
  nz x0 (fun a16 =>
  nz x0 (fun a17 =>
  ld H15 (Addr.add a17 7) (fun v18 =>
  dBl v18 (fun b19 =>
  sB b19 (HCallsD Tryz.prog 69 #[Value.pointer (some a16)] FrameMode.returning H15 (fun e20 u21 H22 =>
  match e20 with
| Ending.returned v => leavesV Tryz.prog Tryz.f73 (Act.tmps (Act.mk #[Value.pointer x0, undef, Value.int IntKind.i64 100, v3, v4, v5, v6, v7, v8, v9, v10, v11, Value.bool b12, Value.pointer x0, Value.pointer (some a13), Value.pointer (some a13), v14, Value.pointer x0, Value.pointer (some a16), Value.pointer (some a16), Value.pointer x0, Value.pointer (some a17), Value.pointer (some (Addr.add a17 7)), Value.bool b19] [Deferred.mk (Target.fn (Fn.func 69) #[]) #[Value.pointer (some a16)]])) R [] (settle u21) H22
| Ending.panicked c => leavesV Tryz.prog Tryz.f73 (Act.tmps (Act.mk #[Value.pointer x0, undef, Value.int IntKind.i64 100, v3, v4, v5, v6, v7, v8, v9, v10, v11, Value.bool b12, Value.pointer x0, Value.pointer (some a13), Value.pointer (some a13), v14, Value.pointer x0, Value.pointer (some a16), Value.pointer (some a16), Value.pointer x0, Value.pointer (some a17), Value.pointer (some (Addr.add a17 7)), Value.bool b19] [Deferred.mk (Target.fn (Fn.func 69) #[]) #[Value.pointer (some a16)]])) R [] (raised u21 c) H22
| Ending.outgrown => False)) (HCallsD Tryz.prog 69 #[Value.pointer (some a16)] FrameMode.returning H15 (fun e23 u24 H25 =>
  match e23 with
| Ending.returned v => leavesV Tryz.prog Tryz.f73 (Act.tmps (Act.mk #[Value.pointer x0, undef, Value.int IntKind.i64 0, v3, v4, v5, v6, v7, v8, v9, v10, v11, Value.bool b12, Value.pointer x0, Value.pointer (some a13), Value.pointer (some a13), v14, Value.pointer x0, Value.pointer (some a16), Value.pointer (some a16), Value.pointer x0, Value.pointer (some a17), Value.pointer (some (Addr.add a17 7)), Value.bool b19] [Deferred.mk (Target.fn (Fn.func 69) #[]) #[Value.pointer (some a16)]])) R [] (settle u24) H25
| Ending.panicked c => leavesV Tryz.prog Tryz.f73 (Act.tmps (Act.mk #[Value.pointer x0, undef, Value.int IntKind.i64 0, v3, v4, v5, v6, v7, v8, v9, v10, v11, Value.bool b12, Value.pointer x0, Value.pointer (some a13), Value.pointer (some a13), v14, Value.pointer x0, Value.pointer (some a16), Value.pointer (some a16), Value.pointer x0, Value.pointer (some a17), Value.pointer (some (Addr.add a17 7)), Value.bool b19] [Deferred.mk (Target.fn (Fn.func 69) #[]) #[Value.pointer (some a16)]])) R [] (raised u24 c) H25
| Ending.outgrown => False))))))) (pnR R)))))) (fun k28 =>
  sB (Option.isNone x0) (k28 (Value.bool true) H) (nz x0 (fun a29 =>
  ld H (Addr.add a29 2) (fun v30 =>
  dPtr v30 (fun p31 =>
  k28 (Value.bool (Option.isNone p31)) H)))))
theorem F73_eq (x0 : Option Addr) (R : Ending → Heap → Prop) (H : Heap) : F73 x0 R H = vc Tryz.prog (codeOf Tryz.f73) (.node none .leaf (.node none (.node (some ⟨[(12, 4)], [3, 4, 5, 6, 7, 8, 9, 10, 11]⟩) .leaf .leaf) .leaf)) (postV Tryz.prog Tryz.f73 R) ⟨#[Value.pointer x0] ++ Array.replicate (Tryz.f73.ntmps - 1) undef, []⟩ H := by kernel_rfl
theorem F73_calls {R : Ending → Heap → Prop} {H : Heap} (x0 : Option Addr) (h : F73 x0 R H) : HCalls Tryz.prog 73 #[Value.pointer x0] H R :=
  calls_by (F := F73 x0 R H) (.node none .leaf (.node none (.node (some ⟨[(12, 4)], [3, 4, 5, 6, 7, 8, 9, 10, 11]⟩) .leaf .leaf) .leaf)) Tryz.func73 rfl (F73_eq x0 R H) h
/-- (*bollard/snap.Snap).Read -/
def F74 (x0 : Option Addr) (x1 : Int) (R : Ending → Heap → Prop) (H : Heap) : Prop :=
  HCalls Tryz.prog 73 #[Value.pointer x0] H (Sp.retK (fun v1 H2 =>
  dInt IntKind.i64 v1 (fun n3 =>
  sB (n3 != 0) (R (Ending.returned (Value.tuple #[Value.slice none 0 0, Value.int IntKind.i64 n3])) H2) (nz x0 (fun a4 =>
  ld H2 (Addr.add a4 2) (fun v5 =>
  dPtr v5 (fun p6 =>
  HCalls Tryz.prog 180 #[Value.pointer p6, Value.int IntKind.i64 x1] H2 (Sp.retK (fun v7 H8 =>
  dT 2 v7 (fun v9 v10 =>
  dSl v9 (fun p11 r12 r13 =>
  dInt IntKind.i64 v10 (fun n14 =>
  R (Ending.returned (Value.tuple #[Value.slice p11 r12 r13, Value.int IntKind.i64 n14])) H8)))) (pnR R)))))))) (pnR R))
theorem F74_eq (x0 : Option Addr) (x1 : Int) (R : Ending → Heap → Prop) (H : Heap) : F74 x0 x1 R H = vc Tryz.prog (codeOf Tryz.f74) .leaf (postV Tryz.prog Tryz.f74 R) ⟨#[Value.pointer x0, Value.int IntKind.i64 x1] ++ Array.replicate (Tryz.f74.ntmps - 2) undef, []⟩ H := by kernel_rfl
theorem F74_calls {R : Ending → Heap → Prop} {H : Heap} (x0 : Option Addr) (x1 : Int) (h : F74 x0 x1 R H) : HCalls Tryz.prog 74 #[Value.pointer x0, Value.int IntKind.i64 x1] H R :=
  calls_by (F := F74 x0 x1 R H) .leaf Tryz.func74 rfl (F74_eq x0 x1 R H) h
/-- (*bollard/volume.Volume).Thaw -/
def F76 (x0 : Option Addr) (R : Ending → Heap → Prop) (H : Heap) : Prop :=
  HCalls Tryz.prog 68 #[Value.pointer x0] H (Sp.retK (fun v1 H2 =>
  dBl v1 (fun b3 =>
  sB (!b3) (R (Ending.returned (Value.int IntKind.i64 2)) H2) (nz x0 (fun a4 =>
  nz x0 (fun a5 =>
  ld H2 (Addr.add a5 6) (fun v6 =>
  dBl v6 (fun b7 =>
  sB (!b7) (HCallsD Tryz.prog 69 #[Value.pointer (some a4)] FrameMode.returning H2 (fun e8 u9 H10 =>
  match e8 with
| Ending.returned v => leavesV Tryz.prog Tryz.f76 (Act.tmps (Act.mk #[Value.pointer x0, undef, Value.int IntKind.i64 3, Value.pointer x0, Value.bool b3, Value.bool !b3, Value.pointer x0, Value.pointer (some a4), Value.pointer (some a4), Value.pointer x0, Value.pointer (some a5), Value.pointer (some (Addr.add a5 6)), Value.pointer (some (Addr.add a5 6)), Value.bool b7, Value.bool !b7, undef, undef, undef, undef] [Deferred.mk (Target.fn (Fn.func 69) #[]) #[Value.pointer (some a4)]])) R [] (settle u9) H10
| Ending.panicked c => leavesV Tryz.prog Tryz.f76 (Act.tmps (Act.mk #[Value.pointer x0, undef, Value.int IntKind.i64 3, Value.pointer x0, Value.bool b3, Value.bool !b3, Value.pointer x0, Value.pointer (some a4), Value.pointer (some a4), Value.pointer x0, Value.pointer (some a5), Value.pointer (some (Addr.add a5 6)), Value.pointer (some (Addr.add a5 6)), Value.bool b7, Value.bool !b7, undef, undef, undef, undef] [Deferred.mk (Target.fn (Fn.func 69) #[]) #[Value.pointer (some a4)]])) R [] (raised u9 c) H10
| Ending.outgrown => False)) (nz x0 (fun a11 =>
  st H2 (Addr.add a11 6) (Value.bool false) (fun H12 =>
  st H12 (Addr.add (Addr.add a11 6) 1) (Value.bool false) (fun H13 =>
  st H13 (Addr.add (Addr.add a11 6) 2) (Value.int IntKind.i64 0) (fun H14 =>
  st H14 (Addr.add (Addr.add a11 6) 3) (Value.map none) (fun H15 =>
  HCallsD Tryz.prog 69 #[Value.pointer (some a4)] FrameMode.returning H15 (fun e16 u17 H18 =>
  match e16 with
| Ending.returned v => leavesV Tryz.prog Tryz.f76 (Act.tmps (Act.mk #[Value.pointer x0, undef, Value.int IntKind.i64 0, Value.pointer x0, Value.bool b3, Value.bool !b3, Value.pointer x0, Value.pointer (some a4), Value.pointer (some a4), Value.pointer x0, Value.pointer (some a5), Value.pointer (some (Addr.add a5 6)), Value.pointer (some (Addr.add a5 6)), Value.bool b7, Value.bool !b7, Value.pointer x0, Value.agg #[Value.bool false, Value.bool false, Value.int IntKind.i64 0, Value.map none], Value.pointer (some a11), Value.pointer (some (Addr.add a11 6))] [Deferred.mk (Target.fn (Fn.func 69) #[]) #[Value.pointer (some a4)]])) R [] (settle u17) H18
| Ending.panicked c => leavesV Tryz.prog Tryz.f76 (Act.tmps (Act.mk #[Value.pointer x0, undef, Value.int IntKind.i64 0, Value.pointer x0, Value.bool b3, Value.bool !b3, Value.pointer x0, Value.pointer (some a4), Value.pointer (some a4), Value.pointer x0, Value.pointer (some a5), Value.pointer (some (Addr.add a5 6)), Value.pointer (some (Addr.add a5 6)), Value.bool b7, Value.bool !b7, Value.pointer x0, Value.agg #[Value.bool false, Value.bool false, Value.int IntKind.i64 0, Value.map none], Value.pointer (some a11), Value.pointer (some (Addr.add a11 6))] [Deferred.mk (Target.fn (Fn.func 69) #[]) #[Value.pointer (some a4)]])) R [] (raised u17 c) H18
| Ending.outgrown => False)))))))))))))) (pnR R))
theorem F76_eq (x0 : Option Addr) (R : Ending → Heap → Prop) (H : Heap) : F76 x0 R H = vc Tryz.prog (codeOf Tryz.f76) .leaf (postV Tryz.prog Tryz.f76 R) ⟨#[Value.pointer x0] ++ Array.replicate (Tryz.f76.ntmps - 1) undef, []⟩ H := by kernel_rfl
theorem F76_calls {R : Ending → Heap → Prop} {H : Heap} (x0 : Option Addr) (h : F76 x0 R H) : HCalls Tryz.prog 76 #[Value.pointer x0] H R :=
  calls_by (F := F76 x0 R H) .leaf Tryz.func76 rfl (F76_eq x0 R H) h
/-- bollard/disk.Of$1 -/
def F77 (x0a : Option Addr) (x0n : Nat) (x0c : Nat) (R : Ending → Heap → Prop) (H : Heap) : Prop :=
  R (Ending.returned (Value.bool ((↑x0n : Int) != 128))) H
theorem F77_eq (x0a : Option Addr) (x0n : Nat) (x0c : Nat) (R : Ending → Heap → Prop) (H : Heap) : F77 x0a x0n x0c R H = vc Tryz.prog (codeOf Tryz.f77) .leaf (postV Tryz.prog Tryz.f77 R) ⟨#[Value.slice x0a x0n x0c] ++ Array.replicate (Tryz.f77.ntmps - 1) undef, []⟩ H := by kernel_rfl
theorem F77_calls {R : Ending → Heap → Prop} {H : Heap} (x0a : Option Addr) (x0n : Nat) (x0c : Nat) (h : F77 x0a x0n x0c R H) : HCalls Tryz.prog 77 #[Value.slice x0a x0n x0c] H R :=
  calls_by (F := F77 x0a x0n x0c R H) .leaf Tryz.func77 rfl (F77_eq x0a x0n x0c R H) h
/-- slices.ContainsFunc[[][]byte,[]byte] -/
def F78 (x0a : Option Addr) (x0n : Nat) (x0c : Nat) (x1g : Nat) (x1f : Array Value) (x1c : Array Value) (R : Ending → Heap → Prop) (H : Heap) : Prop :=
  HCalls Tryz.prog 181 #[Value.slice x0a x0n x0c, Value.func (Fn.func x1g) x1f x1c] H (Sp.retK (fun v1 H2 =>
  dInt IntKind.i64 v1 (fun n3 =>
  R (Ending.returned (Value.bool (decide (n3 ≥ 0)))) H2)) (pnR R))
theorem F78_eq (x0a : Option Addr) (x0n : Nat) (x0c : Nat) (x1g : Nat) (x1f : Array Value) (x1c : Array Value) (R : Ending → Heap → Prop) (H : Heap) : F78 x0a x0n x0c x1g x1f x1c R H = vc Tryz.prog (codeOf Tryz.f78) .leaf (postV Tryz.prog Tryz.f78 R) ⟨#[Value.slice x0a x0n x0c, Value.func (Fn.func x1g) x1f x1c] ++ Array.replicate (Tryz.f78.ntmps - 2) undef, []⟩ H := by kernel_rfl
theorem F78_calls {R : Ending → Heap → Prop} {H : Heap} (x0a : Option Addr) (x0n : Nat) (x0c : Nat) (x1g : Nat) (x1f : Array Value) (x1c : Array Value) (h : F78 x0a x0n x0c x1g x1f x1c R H) : HCalls Tryz.prog 78 #[Value.slice x0a x0n x0c, Value.func (Fn.func x1g) x1f x1c] H R :=
  calls_by (F := F78 x0a x0n x0c x1g x1f x1c R H) .leaf Tryz.func78 rfl (F78_eq x0a x0n x0c x1g x1f x1c R H) h
/-- bollard/disk.image -/
def F79 (x0a : Option Addr) (x0n : Nat) (x0c : Nat) (R : Ending → Heap → Prop) (H : Heap) : Prop :=
  ∃ I1 : List Value → Heap → Prop,
  ∃ I2 : List Value → Heap → Nat,
  (I1 ([Value.slice none 0 0, Value.int IntKind.i64 0]) H) ∧
  ∀ p3 : Option Addr,
  ∀ r4 : Nat,
  ∀ r5 : Nat,
  ∀ n6 : Int,
  ∀ v7 v8 v9 v10 v11 v12 v13 v14 v15 v16 : Value,
  ∀ H17 : Heap,
  (I1 ([Value.slice p3 r4 r5, Value.int IntKind.i64 n6]) H17) →
  sB (decide (n6 < (↑x0n : Int))) (nz x0a (fun a19 =>
  ask ((0 : Int) ≤ n6 ∧ n6 < (↑x0n : Int)) (ld H17 (Addr.add a19 (Int.toNat n6 * 1)) (fun v20 =>
  dSl v20 (fun p21 r22 r23 =>
  HCalls Tryz.prog 21 #[Value.slice p21 r22 r23] H17 (Sp.retK (fun v24 H25 =>
  dSl v24 (fun p26 r27 r28 =>
  al H25 (Obj.cells #[Value.slice p26 r27 r28] 46) (fun r29 H30 =>
  semW Tryz.prog (Builtin.append_ #[50, 50] 50 #[Value.slice p3 r4 r5, Value.slice (some (Addr.mk r29 0 none)) 1 1]) (pnR R) H30 (fun v33 H34 =>
  dSl v33 (fun p35 r36 r37 =>
  wr IntKind.i64 (n6 + 1) (fun n38 =>
  (I1 ([Value.slice p35 r36 r37, Value.int IntKind.i64 n38]) H34) ∧
  (I2 [Value.slice p35 r36 r37, Value.int IntKind.i64 n38] H34) < (I2 [Value.slice p3 r4 r5, Value.int IntKind.i64 n6] H17))))))) (pnR R))))))) (R (Ending.returned (Value.slice p3 r4 r5)) H17)
theorem F79_eq (x0a : Option Addr) (x0n : Nat) (x0c : Nat) (R : Ending → Heap → Prop) (H : Heap) : F79 x0a x0n x0c R H = vc Tryz.prog (codeOf Tryz.f79) (.node none .leaf (.node none .leaf (.node none (.node none .leaf (.node none (.node (some ⟨[(3, 50), (8, 3)], [5, 9, 10, 11, 12, 13, 14, 15, 16, 17]⟩) .leaf .leaf) .leaf)) .leaf))) (postV Tryz.prog Tryz.f79 R) ⟨#[Value.slice x0a x0n x0c] ++ Array.replicate (Tryz.f79.ntmps - 1) undef, []⟩ H := by kernel_rfl
theorem F79_calls {R : Ending → Heap → Prop} {H : Heap} (x0a : Option Addr) (x0n : Nat) (x0c : Nat) (h : F79 x0a x0n x0c R H) : HCalls Tryz.prog 79 #[Value.slice x0a x0n x0c] H R :=
  calls_by (F := F79 x0a x0n x0c R H) (.node none .leaf (.node none .leaf (.node none (.node none .leaf (.node none (.node (some ⟨[(3, 50), (8, 3)], [5, 9, 10, 11, 12, 13, 14, 15, 16, 17]⟩) .leaf .leaf) .leaf)) .leaf))) Tryz.func79 rfl (F79_eq x0a x0n x0c R H) h
/-- bollard/bollardref02.copied -/
def F80 (x0a : Option Addr) (x0n : Nat) (x0c : Nat) (R : Ending → Heap → Prop) (H : Heap) : Prop :=
  al H (Obj.cells #[] 5) (fun r1 H2 =>
  semW Tryz.prog (Builtin.append_ #[46, 46] 46 #[Value.slice (some (Addr.mk r1 0 none)) 0 0, Value.slice x0a x0n x0c]) (pnR R) H2 (fun v5 H6 =>
  dSl v5 (fun p7 r8 r9 =>
  R (Ending.returned (Value.slice p7 r8 r9)) H6)))
theorem F80_eq (x0a : Option Addr) (x0n : Nat) (x0c : Nat) (R : Ending → Heap → Prop) (H : Heap) : F80 x0a x0n x0c R H = vc Tryz.prog (codeOf Tryz.f80) .leaf (postV Tryz.prog Tryz.f80 R) ⟨#[Value.slice x0a x0n x0c] ++ Array.replicate (Tryz.f80.ntmps - 1) undef, []⟩ H := by kernel_rfl
theorem F80_calls {R : Ending → Heap → Prop} {H : Heap} (x0a : Option Addr) (x0n : Nat) (x0c : Nat) (h : F80 x0a x0n x0c R H) : HCalls Tryz.prog 80 #[Value.slice x0a x0n x0c] H R :=
  calls_by (F := F80 x0a x0n x0c R H) .leaf Tryz.func80 rfl (F80_eq x0a x0n x0c R H) h
/-- bollard/volume.Open -/
def F81 (x0 : Option Addr) (x1 : Int) (R : Ending → Heap → Prop) (H : Heap) : Prop :=
  HCalls Tryz.prog 182 #[Value.pointer x0, Value.int IntKind.i64 x1] H (Sp.retK (fun v1 H2 =>
  dT 2 v1 (fun v3 v4 =>
  dPtr v3 (fun p5 =>
  dInt IntKind.i64 v4 (fun n6 =>
  sB (n6 != 0) (R (Ending.returned (Value.tuple #[Value.pointer none, Value.int IntKind.i64 n6])) H2) (HCalls Tryz.prog 183 #[] H2 (Sp.retK (fun v7 H8 =>
  dPtr v7 (fun p9 =>
  al H8 (Obj.map #[] 0) (fun r10 H11 =>
  al H11 (Obj.cells #[Value.int IntKind.i32 0, Value.int IntKind.u32 0, Value.pointer x0, Value.pointer p5, Value.pointer p9, Value.map (some r10), Value.bool false, Value.bool false, Value.int IntKind.i64 0, Value.map none] 102) (fun r12 H13 =>
  R (Ending.returned (Value.tuple #[Value.pointer (some (Addr.mk r12 0 none)), Value.int IntKind.i64 0])) H13)))) (pnR R))))))) (pnR R))
theorem F81_eq (x0 : Option Addr) (x1 : Int) (R : Ending → Heap → Prop) (H : Heap) : F81 x0 x1 R H = vc Tryz.prog (codeOf Tryz.f81) .leaf (postV Tryz.prog Tryz.f81 R) ⟨#[Value.pointer x0, Value.int IntKind.i64 x1] ++ Array.replicate (Tryz.f81.ntmps - 2) undef, []⟩ H := by kernel_rfl
theorem F81_calls {R : Ending → Heap → Prop} {H : Heap} (x0 : Option Addr) (x1 : Int) (h : F81 x0 x1 R H) : HCalls Tryz.prog 81 #[Value.pointer x0, Value.int IntKind.i64 x1] H R :=
  calls_by (F := F81 x0 x1 R H) .leaf Tryz.func81 rfl (F81_eq x0 x1 R H) h
/-- bollard/bollardref09.Open -/
def F84 (x0 : Option Addr) (x1 : Int) (R : Ending → Heap → Prop) (H : Heap) : Prop :=
  sB (Option.isNone x0) (R (Ending.returned (Value.tuple #[Value.pointer none, Value.int IntKind.i64 2])) H) (HCalls Tryz.prog 185 #[Value.pointer x0, Value.int IntKind.i64 x1] H (Sp.retK (fun v1 H2 =>
  dT 2 v1 (fun v3 v4 =>
  dPtr v3 (fun p5 =>
  dInt IntKind.i64 v4 (fun n6 =>
  sB (n6 != 0) (R (Ending.returned (Value.tuple #[Value.pointer none, Value.int IntKind.i64 n6])) H2) (al H2 (Obj.cells #[Value.slice none 0 0, Value.int IntKind.i64 0] 273) (fun r7 H8 =>
  al H8 (Obj.cells #[Value.pointer x0, Value.pointer p5, Value.pointer (some (Addr.mk r7 0 none)), Value.slice none 0 0, Value.bool false, Value.bool false, Value.int IntKind.i64 0, Value.slice none 0 0] 248) (fun r9 H10 =>
  R (Ending.returned (Value.tuple #[Value.pointer (some (Addr.mk r9 0 none)), Value.int IntKind.i64 0])) H10))))))) (pnR R)))
theorem F84_eq (x0 : Option Addr) (x1 : Int) (R : Ending → Heap → Prop) (H : Heap) : F84 x0 x1 R H = vc Tryz.prog (codeOf Tryz.f84) .leaf (postV Tryz.prog Tryz.f84 R) ⟨#[Value.pointer x0, Value.int IntKind.i64 x1] ++ Array.replicate (Tryz.f84.ntmps - 2) undef, []⟩ H := by kernel_rfl
theorem F84_calls {R : Ending → Heap → Prop} {H : Heap} (x0 : Option Addr) (x1 : Int) (h : F84 x0 x1 R H) : HCalls Tryz.prog 84 #[Value.pointer x0, Value.int IntKind.i64 x1] H R :=
  calls_by (F := F84 x0 x1 R H) .leaf Tryz.func84 rfl (F84_eq x0 x1 R H) h
/-- bollard/bollardref03.EncodeSuper -/
def F89 (x0_0 : Value) (x0_1 : Value) (x0_2 : Value) (x0_3 : Value) (R : Ending → Heap → Prop) (H : Heap) : Prop :=
  al H (Obj.cells #[x0_0, x0_1, x0_2, x0_3] 163) (fun r1 H2 =>
  jn (α := VFH 1) (fun v3 H4 =>
  ∀ v5 v6 v7 v8 v9 v10 v11 v12 v13 v14 v15 v16 v17 : Value,
  dBl v3 (fun b18 =>
  sB b18 (R (Ending.returned (Value.tuple #[Value.slice none 0 0, Value.int IntKind.i64 1])) H4) (al H4 (Obj.cells #[Value.int IntKind.u8 98, Value.int IntKind.u8 111, Value.int IntKind.u8 108, Value.int IntKind.u8 108] 5) (fun r19 H20 =>
  semW Tryz.prog (convert 46 46 (Value.slice (some (Addr.mk r19 0 none)) 4 4)) (pnR R) H20 (fun v23 H24 =>
  dSl v23 (fun p25 r26 r27 =>
  semW Tryz.prog (Builtin.append_ #[46, 3] 46 #[Value.slice p25 r26 r27, Value.int IntKind.i64 124]) (pnR R) H24 (fun v30 H31 =>
  dSl v30 (fun p32 r33 r34 =>
  ld H31 (Addr.mk r1 0 none) (fun v35 =>
  dInt IntKind.i64 v35 (fun n36 =>
  HCalls Tryz.prog 155 #[Value.slice p32 r33 r34, Value.int IntKind.i64 4, Value.int IntKind.i64 1, Value.int IntKind.i64 n36] H31 (Sp.retK (fun v37 H38 =>
  dSl v37 (fun p39 r40 r41 =>
  ld H38 (Addr.mk r1 1 none) (fun v42 =>
  dInt IntKind.i64 v42 (fun n43 =>
  wr IntKind.i64 (n43 - 1) (fun n44 =>
  HCalls Tryz.prog 155 #[Value.slice p39 r40 r41, Value.int IntKind.i64 5, Value.int IntKind.i64 1, Value.int IntKind.i64 n44] H38 (Sp.retK (fun v45 H46 =>
  dSl v45 (fun p47 r48 r49 =>
  ld H46 (Addr.mk r1 2 none) (fun v50 =>
  dInt IntKind.i64 v50 (fun n51 =>
  HCalls Tryz.prog 155 #[Value.slice p47 r48 r49, Value.int IntKind.i64 6, Value.int IntKind.i64 1, Value.int IntKind.i64 n51] H46 (Sp.retK (fun v52 H53 =>
  dSl v52 (fun p54 r55 r56 =>
  ld H53 (Addr.mk r1 3 none) (fun v57 =>
  dInt IntKind.i64 v57 (fun n58 =>
  HCalls Tryz.prog 155 #[Value.slice p54 r55 r56, Value.int IntKind.i64 8, Value.int IntKind.i64 4, Value.int IntKind.i64 n58] H53 (Sp.retK (fun v59 H60 =>
  dSl v59 (fun p61 r62 r63 =>
  HCalls Tryz.prog 156 #[Value.slice p61 r62 r63] H60 (Sp.retK (fun v64 H65 =>
  dT 2 v64 (fun v66 v67 =>
  dSl v66 (fun p68 r69 r70 =>
  dInt IntKind.i64 v67 (fun n71 =>
  R (Ending.returned (Value.tuple #[Value.slice p68 r69 r70, Value.int IntKind.i64 n71])) H65)))) (pnR R)))) (pnR R)))))) (pnR R)))))) (pnR R))))))) (pnR R)))))))))))) (fun k82 =>
  ld H2 (Addr.mk r1 0 none) (fun v83 =>
  ld H2 (Addr.mk r1 1 none) (fun v84 =>
  ld H2 (Addr.mk r1 2 none) (fun v85 =>
  HCalls Tryz.prog 191 #[Value.agg #[v83, v84, v85]] H2 (Sp.retK (fun v86 H87 =>
  dBl v86 (fun b88 =>
  sB (!b88) (k82 (Value.bool true) H87) (ld H87 (Addr.mk r1 3 none) (fun v89 =>
  dInt IntKind.i64 v89 (fun n90 =>
  sB (decide (n90 < 0)) (k82 (Value.bool true) H87) (ld H87 (Addr.mk r1 3 none) (fun v91 =>
  dInt IntKind.i64 v91 (fun n92 =>
  k82 (Value.bool (decide (n92 ≥ 4294967296))) H87)))))))) (pnR R)))))))
theorem F89_eq (x0_0 : Value) (x0_1 : Value) (x0_2 : Value) (x0_3 : Value) (R : Ending → Heap → Prop) (H : Heap) : F89 x0_0 x0_1 x0_2 x0_3 R H = vc Tryz.prog (codeOf Tryz.f89) (.node none .leaf (.node none (.node (some ⟨[(18, 4)], [5, 6, 7, 8, 9, 10, 11, 12, 13, 14, 15, 16, 17]⟩) .leaf .leaf) .leaf)) (postV Tryz.prog Tryz.f89 R) ⟨#[Value.agg #[x0_0, x0_1, x0_2, x0_3]] ++ Array.replicate (Tryz.f89.ntmps - 1) undef, []⟩ H := by kernel_rfl
theorem F89_calls {R : Ending → Heap → Prop} {H : Heap} (x0_0 : Value) (x0_1 : Value) (x0_2 : Value) (x0_3 : Value) (h : F89 x0_0 x0_1 x0_2 x0_3 R H) : HCalls Tryz.prog 89 #[Value.agg #[x0_0, x0_1, x0_2, x0_3]] H R :=
  calls_by (F := F89 x0_0 x0_1 x0_2 x0_3 R H) (.node none .leaf (.node none (.node (some ⟨[(18, 4)], [5, 6, 7, 8, 9, 10, 11, 12, 13, 14, 15, 16, 17]⟩) .leaf .leaf) .leaf)) Tryz.func89 rfl (F89_eq x0_0 x0_1 x0_2 x0_3 R H) h
end Go.Proofs.YtdlelcpkelginaaGreat.E
/- The functions' forms in the engine's words, printed by my own program. -/
namespace Go.Proofs.YtdlelcpkelginaaGreat.E
open Go Go.Proofs
set_option linter.unusedVariables false
/-- bollard/geom.Owner -/
def F106 (x0_0 : Value) (x0_1 : Value) (x0_2 : Value) (x1 : Int) (R : Ending → Heap → Prop) (H : Heap) : Prop :=
  al H (Obj.cells #[x0_0, x0_1, x0_2] 23) (fun r1 H2 =>
  ld H2 (Addr.mk r1 2 none) (fun v3 =>
  dInt IntKind.i64 v3 (fun n4 =>
  ld H2 (Addr.mk r1 0 none) (fun v5 =>
  ld H2 (Addr.mk r1 1 none) (fun v6 =>
  ld H2 (Addr.mk r1 2 none) (fun v7 =>
  HCalls Tryz.prog 126 #[Value.agg #[v5, v6, v7]] H2 (Sp.retK (fun v8 H9 =>
  dInt IntKind.i64 v8 (fun n10 =>
  (ld H9 (Addr.mk r1 2 none) (fun v11 =>
  dInt IntKind.i64 v11 (fun n12 =>
  (Value.int IntKind.i64 n12) = (Value.int IntKind.i64 n4)))) ∧
  HCalls Tryz.prog 206 #[Value.int IntKind.i64 x1, Value.int IntKind.i64 n4, Value.int IntKind.i64 n10] H9 (Sp.retK (fun v13 H14 =>
  dT 3 v13 (fun v15 v16 v17 =>
  dInt IntKind.i64 v15 (fun n18 =>
  dInt IntKind.i64 v16 (fun n19 =>
  dBl v17 (fun b20 =>
  R (Ending.returned (Value.tuple #[Value.int IntKind.i64 n18, Value.int IntKind.i64 n19, Value.bool b20])) H14))))) nopR))) nopR)))))))
theorem F106_eq (x0_0 : Value) (x0_1 : Value) (x0_2 : Value) (x1 : Int) (R : Ending → Heap → Prop) (H : Heap) : F106 x0_0 x0_1 x0_2 x1 R H = vc Tryz.prog (codeOf Tryz.f106) .leaf (postV Tryz.prog Tryz.f106 R) ⟨#[Value.agg #[x0_0, x0_1, x0_2], Value.int IntKind.i64 x1] ++ Array.replicate (Tryz.f106.ntmps - 2) undef, []⟩ H := by kernel_rfl
theorem F106_calls {R : Ending → Heap → Prop} {H : Heap} (x0_0 : Value) (x0_1 : Value) (x0_2 : Value) (x1 : Int) (h : F106 x0_0 x0_1 x0_2 x1 R H) : HCalls Tryz.prog 106 #[Value.agg #[x0_0, x0_1, x0_2], Value.int IntKind.i64 x1] H R :=
  calls_by (F := F106 x0_0 x0_1 x0_2 x1 R H) .leaf Tryz.func106 rfl (F106_eq x0_0 x0_1 x0_2 x1 R H) h
/-- maps.Clone[map[int]struct{},int,struct{}] -/
def F122 (x0 : Option Nat) (R : Ending → Heap → Prop) (H : Heap) : Prop :=
  sB (Option.isNone x0) (R (Ending.returned (Value.map none)) H) (semW Tryz.prog (entS 221 #[Value.iface 108 (Value.map x0)]) (pnR R) H (fun v3 H4 =>
  semW Tryz.prog (Instr.typeAssert v3 20 108 false) (pnR R) H4 (fun v7 H8 =>
  dMap v7 (fun p9 =>
  R (Ending.returned (Value.map p9)) H8))))
theorem F122_eq (x0 : Option Nat) (R : Ending → Heap → Prop) (H : Heap) : F122 x0 R H = vc Tryz.prog (codeOf Tryz.f122) .leaf (postV Tryz.prog Tryz.f122 R) ⟨#[Value.map x0] ++ Array.replicate (Tryz.f122.ntmps - 1) undef, []⟩ H := by kernel_rfl
theorem F122_calls {R : Ending → Heap → Prop} {H : Heap} (x0 : Option Nat) (h : F122 x0 R H) : HCalls Tryz.prog 122 #[Value.map x0] H R :=
  calls_by (F := F122 x0 R H) .leaf Tryz.func122 rfl (F122_eq x0 R H) h
/-- maps.Clone[map[int]int,int,int] -/
def F123 (x0 : Option Nat) (R : Ending → Heap → Prop) (H : Heap) : Prop :=
  sB (Option.isNone x0) (R (Ending.returned (Value.map none)) H) (semW Tryz.prog (entS 221 #[Value.iface 77 (Value.map x0)]) (pnR R) H (fun v3 H4 =>
  semW Tryz.prog (Instr.typeAssert v3 20 77 false) (pnR R) H4 (fun v7 H8 =>
  dMap v7 (fun p9 =>
  R (Ending.returned (Value.map p9)) H8))))
theorem F123_eq (x0 : Option Nat) (R : Ending → Heap → Prop) (H : Heap) : F123 x0 R H = vc Tryz.prog (codeOf Tryz.f123) .leaf (postV Tryz.prog Tryz.f123 R) ⟨#[Value.map x0] ++ Array.replicate (Tryz.f123.ntmps - 1) undef, []⟩ H := by kernel_rfl
theorem F123_calls {R : Ending → Heap → Prop} {H : Heap} (x0 : Option Nat) (h : F123 x0 R H) : HCalls Tryz.prog 123 #[Value.map x0] H R :=
  calls_by (F := F123 x0 R H) .leaf Tryz.func123 rfl (F123_eq x0 R H) h
/-- slices.Clone[[]int,int] -/
def F124 (x0a : Option Addr) (x0n : Nat) (x0c : Nat) (R : Ending → Heap → Prop) (H : Heap) : Prop :=
  sB (Option.isNone x0a) (R (Ending.returned (Value.slice none 0 0)) H) (al H (Obj.cells #[] 3) (fun r1 H2 =>
  semW Tryz.prog (Builtin.append_ #[74, 74] 74 #[Value.slice (some (Addr.mk r1 0 none)) 0 0, Value.slice x0a x0n x0c]) (pnR R) H2 (fun v5 H6 =>
  dSl v5 (fun p7 r8 r9 =>
  R (Ending.returned (Value.slice p7 r8 r9)) H6))))
theorem F124_eq (x0a : Option Addr) (x0n : Nat) (x0c : Nat) (R : Ending → Heap → Prop) (H : Heap) : F124 x0a x0n x0c R H = vc Tryz.prog (codeOf Tryz.f124) .leaf (postV Tryz.prog Tryz.f124 R) ⟨#[Value.slice x0a x0n x0c] ++ Array.replicate (Tryz.f124.ntmps - 1) undef, []⟩ H := by kernel_rfl
theorem F124_calls {R : Ending → Heap → Prop} {H : Heap} (x0a : Option Addr) (x0n : Nat) (x0c : Nat) (h : F124 x0a x0n x0c R H) : HCalls Tryz.prog 124 #[Value.slice x0a x0n x0c] H R :=
  calls_by (F := F124 x0a x0n x0c R H) .leaf Tryz.func124 rfl (F124_eq x0a x0n x0c R H) h
end Go.Proofs.YtdlelcpkelginaaGreat.E
/- The functions' forms in the engine's words, printed by my own program. -/
namespace Go.Proofs.YtdlelcpkelginaaGreat.E
open Go Go.Proofs
set_option linter.unusedVariables false
/-- (*bollard/check.Checker).step -/
def F125 (x0 : Option Addr) (R : Ending → Heap → Prop) (H : Heap) : Prop :=
  nz x0 (fun a1 =>
  ld H (Addr.add a1 4) (fun v2 =>
  dSl v2 (fun p3 r4 r5 =>
  nz x0 (fun a6 =>
  ld H (Addr.add a6 5) (fun v7 =>
  dInt IntKind.i64 v7 (fun n8 =>
  nz p3 (fun a9 =>
  ask ((0 : Int) ≤ n8 ∧ n8 < (↑r4 : Int)) (ld H (Addr.add a9 (Int.toNat n8 * 2)) (fun v10 =>
  dFn v10 (fun x11 w12 w13 =>
  gB (plainFn Tryz.prog x11) (HCalls Tryz.prog x11 (argsOf w12 [Value.pointer x0] w13) H (Sp.retK (fun v14 H15 =>
  dT 2 v14 (fun v16 v17 =>
  dSl v16 (fun p18 r19 r20 =>
  dInt IntKind.i64 v17 (fun n21 =>
  sB (n21 != 0) (R (Ending.returned (Value.tuple #[Value.slice none 0 0, Value.int IntKind.i64 n21])) H15) (nz x0 (fun a22 =>
  ld H15 (Addr.add (Addr.add a22 5) 1) (fun v23 =>
  dInt IntKind.i64 v23 (fun n24 =>
  wr IntKind.i64 (n24 + 1) (fun n25 =>
  nz x0 (fun a26 =>
  st H15 (Addr.add (Addr.add a26 5) 1) (Value.int IntKind.i64 n25) (fun H27 =>
  HCalls Tryz.prog 222 #[Value.pointer x0] H27 (Sp.retK (fun v28 H29 =>
  dInt IntKind.i64 v28 (fun n30 =>
  R (Ending.returned (Value.tuple #[Value.slice p18 r19 r20, Value.int IntKind.i64 n30])) H29)) (pnR R))))))))))))) nopR))))))))))))
theorem F125_eq (x0 : Option Addr) (R : Ending → Heap → Prop) (H : Heap) : F125 x0 R H = vc Tryz.prog (codeOf Tryz.f125) .leaf (postV Tryz.prog Tryz.f125 R) ⟨#[Value.pointer x0] ++ Array.replicate (Tryz.f125.ntmps - 1) undef, []⟩ H := by kernel_rfl
theorem F125_calls {R : Ending → Heap → Prop} {H : Heap} (x0 : Option Addr) (h : F125 x0 R H) : HCalls Tryz.prog 125 #[Value.pointer x0] H R :=
  calls_by (F := F125 x0 R H) .leaf Tryz.func125 rfl (F125_eq x0 R H) h
/-- bollard/geom.Inodes -/
def F126 (x0_0 : Value) (x0_1 : Value) (x0_2 : Value) (R : Ending → Heap → Prop) (H : Heap) : Prop :=
  al H (Obj.cells #[x0_0, x0_1, x0_2] 23) (fun r1 H2 =>
  ld H2 (Addr.mk r1 0 none) (fun v3 =>
  ld H2 (Addr.mk r1 1 none) (fun v4 =>
  ld H2 (Addr.mk r1 2 none) (fun v5 =>
  ld H2 (Addr.mk r1 2 none) (fun v6 =>
  dInt IntKind.i64 v6 (fun n7 =>
  HCalls Tryz.prog 167 #[Value.agg #[v3, v4, v5], Value.int IntKind.i64 n7] H2 (Sp.retK (fun v8 H9 =>
  dInt IntKind.i64 v8 (fun n10 =>
  R (Ending.returned (Value.int IntKind.i64 n10)) H9)) (pnR R))))))))
theorem F126_eq (x0_0 : Value) (x0_1 : Value) (x0_2 : Value) (R : Ending → Heap → Prop) (H : Heap) : F126 x0_0 x0_1 x0_2 R H = vc Tryz.prog (codeOf Tryz.f126) .leaf (postV Tryz.prog Tryz.f126 R) ⟨#[Value.agg #[x0_0, x0_1, x0_2]] ++ Array.replicate (Tryz.f126.ntmps - 1) undef, []⟩ H := by kernel_rfl
theorem F126_calls {R : Ending → Heap → Prop} {H : Heap} (x0_0 : Value) (x0_1 : Value) (x0_2 : Value) (h : F126 x0_0 x0_1 x0_2 R H) : HCalls Tryz.prog 126 #[Value.agg #[x0_0, x0_1, x0_2]] H R :=
  calls_by (F := F126 x0_0 x0_1 x0_2 R H) .leaf Tryz.func126 rfl (F126_eq x0_0 x0_1 x0_2 R H) h
/-- (*bollard/snap.Snap).Geom -/
def F127 (x0 : Option Addr) (R : Ending → Heap → Prop) (H : Heap) : Prop :=
  al H (Obj.cells #[Value.int IntKind.i64 0, Value.int IntKind.i64 0, Value.int IntKind.i64 0] 23) (fun r1 H2 =>
  sB (Option.isNone x0) (st H2 (Addr.mk r1 0 none) (Value.int IntKind.i64 0) (fun H3 =>
  st H3 (Addr.mk r1 1 none) (Value.int IntKind.i64 0) (fun H4 =>
  st H4 (Addr.mk r1 2 none) (Value.int IntKind.i64 0) (fun H5 =>
  ld H5 (Addr.mk r1 0 none) (fun v6 =>
  ld H5 (Addr.mk r1 1 none) (fun v7 =>
  ld H5 (Addr.mk r1 2 none) (fun v8 =>
  R (Ending.returned (Value.agg #[v6, v7, v8])) H5))))))) (nz x0 (fun a9 =>
  ld H2 (Addr.add (Addr.add a9 2) 1) (fun v10 =>
  ld H2 (Addr.add (Addr.add (Addr.add a9 2) 1) 1) (fun v11 =>
  ld H2 (Addr.add (Addr.add (Addr.add a9 2) 1) 2) (fun v12 =>
  st H2 (Addr.mk r1 0 none) v10 (fun H13 =>
  st H13 (Addr.mk r1 1 none) v11 (fun H14 =>
  st H14 (Addr.mk r1 2 none) v12 (fun H15 =>
  ld H15 (Addr.mk r1 0 none) (fun v16 =>
  ld H15 (Addr.mk r1 1 none) (fun v17 =>
  ld H15 (Addr.mk r1 2 none) (fun v18 =>
  R (Ending.returned (Value.agg #[v16, v17, v18])) H15))))))))))))
theorem F127_eq (x0 : Option Addr) (R : Ending → Heap → Prop) (H : Heap) : F127 x0 R H = vc Tryz.prog (codeOf Tryz.f127) .leaf (postV Tryz.prog Tryz.f127 R) ⟨#[Value.pointer x0] ++ Array.replicate (Tryz.f127.ntmps - 1) undef, []⟩ H := by kernel_rfl
theorem F127_calls {R : Ending → Heap → Prop} {H : Heap} (x0 : Option Addr) (h : F127 x0 R H) : HCalls Tryz.prog 127 #[Value.pointer x0] H R :=
  calls_by (F := F127 x0 R H) .leaf Tryz.func127 rfl (F127_eq x0 R H) h
/-- bollard/check.passes -/
def F128  (R : Ending → Heap → Prop) (H : Heap) : Prop :=
  al H (Obj.cells #[Value.func (Fn.func 223) #[] #[], Value.func (Fn.func 224) #[] #[], Value.func (Fn.func 225) #[] #[], Value.func (Fn.func 226) #[] #[], Value.func (Fn.func 227) #[] #[], Value.func (Fn.func 224) #[] #[], Value.func (Fn.func 228) #[] #[], Value.func (Fn.func 229) #[] #[]] 306) (fun r1 H2 =>
  R (Ending.returned (Value.slice (some (Addr.mk r1 0 none)) 4 4)) H2)
theorem F128_eq  (R : Ending → Heap → Prop) (H : Heap) : F128  R H = vc Tryz.prog (codeOf Tryz.f128) .leaf (postV Tryz.prog Tryz.f128 R) ⟨#[] ++ Array.replicate (Tryz.f128.ntmps - 0) undef, []⟩ H := by kernel_rfl
theorem F128_calls {R : Ending → Heap → Prop} {H : Heap}  (h : F128  R H) : HCalls Tryz.prog 128 #[] H R :=
  calls_by (F := F128  R H) .leaf Tryz.func128 rfl (F128_eq  R H) h
/-- bollard/bollardref04.Can -/
def F138 (x0_0 : Value) (x0_1 : Value) (x0_2 : Value) (R : Ending → Heap → Prop) (H : Heap) : Prop :=
  al H (Obj.cells #[x0_0, x0_1, x0_2] 23) (fun r1 H2 =>
  jn (α := VFH 1) (fun v3 H4 =>
  ∀ v5 v6 v7 v8 v9 v10 v11 v12 v13 v14 v15 v16 v17 v18 v19 v20 v21 v22 v23 v24 v25 v26 v27 v28 v29 v30 v31 v32 v33 v34 v35 v36 v37 v38 v39 v40 v41 v42 v43 v44 v45 v46 : Value,
  dBl v3 (fun b47 =>
  sB b47 (R (Ending.returned (Value.int IntKind.i64 170)) H4) (R (Ending.returned (Value.int IntKind.i64 0)) H4))) (fun k48 =>
  ld H2 (Addr.mk r1 0 none) (fun v49 =>
  dInt IntKind.i64 v49 (fun n50 =>
  sB (decide (n50 < 1)) (k48 (Value.bool true) H2) (ld H2 (Addr.mk r1 0 none) (fun v51 =>
  dInt IntKind.i64 v51 (fun n52 =>
  sB (decide (n52 > 8)) (k48 (Value.bool true) H2) (ld H2 (Addr.mk r1 1 none) (fun v53 =>
  dInt IntKind.i64 v53 (fun n54 =>
  sB (decide (n54 < 8)) (k48 (Value.bool true) H2) (ld H2 (Addr.mk r1 1 none) (fun v55 =>
  dInt IntKind.i64 v55 (fun n56 =>
  sB (decide (n56 > 256)) (k48 (Value.bool true) H2) (ld H2 (Addr.mk r1 2 none) (fun v57 =>
  dInt IntKind.i64 v57 (fun n58 =>
  sB (decide (n58 < 4)) (k48 (Value.bool true) H2) (ld H2 (Addr.mk r1 2 none) (fun v59 =>
  dInt IntKind.i64 v59 (fun n60 =>
  sB (decide (n60 > 64)) (k48 (Value.bool true) H2) (ld H2 (Addr.mk r1 2 none) (fun v61 =>
  dInt IntKind.i64 v61 (fun n62 =>
  ask ((4 : Int) ≠ (0 : Int)) (nm (Int.tmod n62 4) (fun n63 =>
  sB (n63 != 0) (k48 (Value.bool true) H2) (ld H2 (Addr.mk r1 1 none) (fun v64 =>
  dInt IntKind.i64 v64 (fun n65 =>
  ld H2 (Addr.mk r1 2 none) (fun v66 =>
  dInt IntKind.i64 v66 (fun n67 =>
  ask ((4 : Int) ≠ (0 : Int)) (wr IntKind.i64 (Int.tdiv n67 4) (fun n68 =>
  wr IntKind.i64 (3 + n68) (fun n69 =>
  k48 (Value.bool (decide (n65 < n69))) H2))))))))))))))))))))))))))))))))
theorem F138_eq (x0_0 : Value) (x0_1 : Value) (x0_2 : Value) (R : Ending → Heap → Prop) (H : Heap) : F138 x0_0 x0_1 x0_2 R H = vc Tryz.prog (codeOf Tryz.f138) (.node none .leaf (.node none (.node (some ⟨[(45, 4)], [3, 4, 5, 6, 7, 8, 9, 10, 11, 12, 13, 14, 15, 16, 17, 18, 19, 20, 21, 22, 23, 24, 25, 26, 27, 28, 29, 30, 31, 32, 33, 34, 35, 36, 37, 38, 39, 40, 41, 42, 43, 44]⟩) .leaf .leaf) .leaf)) (postV Tryz.prog Tryz.f138 R) ⟨#[Value.agg #[x0_0, x0_1, x0_2]] ++ Array.replicate (Tryz.f138.ntmps - 1) undef, []⟩ H := by kernel_rfl
theorem F138_calls {R : Ending → Heap → Prop} {H : Heap} (x0_0 : Value) (x0_1 : Value) (x0_2 : Value) (h : F138 x0_0 x0_1 x0_2 R H) : HCalls Tryz.prog 138 #[Value.agg #[x0_0, x0_1, x0_2]] H R :=
  calls_by (F := F138 x0_0 x0_1 x0_2 R H) (.node none .leaf (.node none (.node (some ⟨[(45, 4)], [3, 4, 5, 6, 7, 8, 9, 10, 11, 12, 13, 14, 15, 16, 17, 18, 19, 20, 21, 22, 23, 24, 25, 26, 27, 28, 29, 30, 31, 32, 33, 34, 35, 36, 37, 38, 39, 40, 41, 42, 43, 44]⟩) .leaf .leaf) .leaf)) Tryz.func138 rfl (F138_eq x0_0 x0_1 x0_2 R H) h
/-- bollard/bollardref12.Encode -/
def F140 (x0a : Option Addr) (x0n : Nat) (x0c : Nat) (R : Ending → Heap → Prop) (H : Heap) : Prop :=
  jn (α := VFH 1) (fun v1 H2 =>
  ∀ v3 v4 v5 v6 v7 v8 : Value,
  dBl v1 (fun b9 =>
  sB b9 (R (Ending.returned (Value.tuple #[Value.slice none 0 0, Value.int IntKind.i64 1])) H2) (∃ I10 : List Value → Heap → Prop,
  ∃ I11 : List Value → Heap → Nat,
  (I10 ([Value.slice none 0 0, Value.int IntKind.i64 0]) H2) ∧
  ∀ p12 : Option Addr,
  ∀ r13 : Nat,
  ∀ r14 : Nat,
  ∀ n15 : Int,
  ∀ v16 v17 v18 v19 v20 v21 v22 v23 v24 v25 v26 v27 v28 v29 v30 v31 v32 v33 v34 : Value,
  ∀ H35 : Heap,
  (I10 ([Value.slice p12 r13 r14, Value.int IntKind.i64 n15]) H35) →
  sB (decide (n15 < (↑x0n : Int))) (nz x0a (fun a37 =>
  ask ((0 : Int) ≤ n15 ∧ n15 < (↑x0n : Int)) (ld H35 (Addr.add a37 (Int.toNat n15 * 2)) (fun v38 =>
  ld H35 (Addr.add (Addr.add a37 (Int.toNat n15 * 2)) 1) (fun v39 =>
  al H35 (Obj.cells #[Value.int IntKind.i64 0, Value.string (ByteArray.mk #[])] 228) (fun r40 H41 =>
  st H41 (Addr.mk r40 0 none) v38 (fun H42 =>
  st H42 (Addr.mk r40 1 none) v39 (fun H43 =>
  ld H43 (Addr.mk r40 0 none) (fun v44 =>
  ld H43 (Addr.mk r40 1 none) (fun v45 =>
  HCalls Tryz.prog 251 #[Value.agg #[v44, v45]] H43 (Sp.retK (fun v46 H47 =>
  dT 2 v46 (fun v48 v49 =>
  dSl v48 (fun p50 r51 r52 =>
  dInt IntKind.i64 v49 (fun n53 =>
  sB (n53 != 0) (R (Ending.returned (Value.tuple #[Value.slice none 0 0, Value.int IntKind.i64 1])) H47) (semW Tryz.prog (Builtin.append_ #[46, 46] 46 #[Value.slice p12 r13 r14, Value.slice p50 r51 r52]) (pnR R) H47 (fun v56 H57 =>
  dSl v56 (fun p58 r59 r60 =>
  wr IntKind.i64 (n15 + 1) (fun n61 =>
  (I10 ([Value.slice p58 r59 r60, Value.int IntKind.i64 n61]) H57) ∧
  (I11 [Value.slice p58 r59 r60, Value.int IntKind.i64 n61] H57) < (I11 [Value.slice p12 r13 r14, Value.int IntKind.i64 n15] H35))))))))) (pnR R)))))))))))) (wr IntKind.i64 (128 - (↑r13 : Int)) (fun n64 =>
  semW Tryz.prog (Builtin.append_ #[46, 3] 46 #[Value.slice p12 r13 r14, Value.int IntKind.i64 n64]) (pnR R) H35 (fun v67 H68 =>
  dSl v67 (fun p69 r70 r71 =>
  R (Ending.returned (Value.tuple #[Value.slice p69 r70 r71, Value.int IntKind.i64 0])) H68))))))) (fun k72 =>
  sB (decide ((↑x0n : Int) > 8)) (k72 (Value.bool true) H) (HCalls Tryz.prog 250 #[Value.slice x0a x0n x0c] H (Sp.retK (fun v73 H74 =>
  dBl v73 (fun b75 =>
  k72 (Value.bool b75) H74)) (pnR R))))
theorem F140_eq (x0a : Option Addr) (x0n : Nat) (x0c : Nat) (R : Ending → Heap → Prop) (H : Heap) : F140 x0a x0n x0c R H = vc Tryz.prog (codeOf Tryz.f140) (.node none .leaf (.node none (.node (some ⟨[(15, 4)], [9, 10, 11, 12, 13, 14]⟩) .leaf .leaf) (.node none .leaf (.node none (.node none .leaf (.node none (.node (some ⟨[(4, 46), (18, 3)], [2, 3, 6, 7, 8, 19, 20, 21, 22, 23, 24, 25, 26, 27, 28, 29, 30, 31, 32]⟩) .leaf .leaf) .leaf)) .leaf)))) (postV Tryz.prog Tryz.f140 R) ⟨#[Value.slice x0a x0n x0c] ++ Array.replicate (Tryz.f140.ntmps - 1) undef, []⟩ H := by kernel_rfl
theorem F140_calls {R : Ending → Heap → Prop} {H : Heap} (x0a : Option Addr) (x0n : Nat) (x0c : Nat) (h : F140 x0a x0n x0c R H) : HCalls Tryz.prog 140 #[Value.slice x0a x0n x0c] H R :=
  calls_by (F := F140 x0a x0n x0c R H) (.node none .leaf (.node none (.node (some ⟨[(15, 4)], [9, 10, 11, 12, 13, 14]⟩) .leaf .leaf) (.node none .leaf (.node none (.node none .leaf (.node none (.node (some ⟨[(4, 46), (18, 3)], [2, 3, 6, 7, 8, 19, 20, 21, 22, 23, 24, 25, 26, 27, 28, 29, 30, 31, 32]⟩) .leaf .leaf) .leaf)) .leaf)))) Tryz.func140 rfl (F140_eq x0a x0n x0c R H) h
/-- bollard/geom.Inode -/
def F141 (x0_0 : Value) (x0_1 : Value) (x0_2 : Value) (x1 : Int) (R : Ending → Heap → Prop) (H : Heap) : Prop :=
  al H (Obj.cells #[x0_0, x0_1, x0_2] 23) (fun r1 H2 =>
  ld H2 (Addr.mk r1 0 none) (fun v3 =>
  ld H2 (Addr.mk r1 1 none) (fun v4 =>
  ld H2 (Addr.mk r1 2 none) (fun v5 =>
  HCalls Tryz.prog 106 #[Value.agg #[v3, v4, v5], Value.int IntKind.i64 x1] H2 (Sp.retK (fun v6 H7 =>
  dT 3 v6 (fun v8 v9 v10 =>
  dInt IntKind.i64 v8 (fun n11 =>
  dInt IntKind.i64 v9 (fun n12 =>
  dBl v10 (fun b13 =>
  sB (!b13) (R (Ending.returned (Value.tuple #[Value.int IntKind.i64 0, Value.int IntKind.i64 0, Value.bool false])) H7) (ld H7 (Addr.mk r1 0 none) (fun v14 =>
  ld H7 (Addr.mk r1 1 none) (fun v15 =>
  ld H7 (Addr.mk r1 2 none) (fun v16 =>
  ask ((4 : Int) ≠ (0 : Int)) (wr IntKind.i64 (Int.tdiv n12 4) (fun n17 =>
  wr IntKind.i64 (2 + n17) (fun n18 =>
  HCalls Tryz.prog 213 #[Value.agg #[v14, v15, v16], Value.int IntKind.i64 n11, Value.int IntKind.i64 n18] H7 (Sp.retK (fun v19 H20 =>
  dT 2 v19 (fun v21 v22 =>
  dInt IntKind.i64 v21 (fun n23 =>
  dBl v22 (fun b24 =>
  ask ((4 : Int) ≠ (0 : Int)) (nm (Int.tmod n12 4) (fun n25 =>
  wr IntKind.i64 (n25 * 32) (fun n26 =>
  R (Ending.returned (Value.tuple #[Value.int IntKind.i64 n23, Value.int IntKind.i64 n26, Value.bool true])) H20))))))) (pnR R)))))))))))))) (pnR R))))))
theorem F141_eq (x0_0 : Value) (x0_1 : Value) (x0_2 : Value) (x1 : Int) (R : Ending → Heap → Prop) (H : Heap) : F141 x0_0 x0_1 x0_2 x1 R H = vc Tryz.prog (codeOf Tryz.f141) .leaf (postV Tryz.prog Tryz.f141 R) ⟨#[Value.agg #[x0_0, x0_1, x0_2], Value.int IntKind.i64 x1] ++ Array.replicate (Tryz.f141.ntmps - 2) undef, []⟩ H := by kernel_rfl
theorem F141_calls {R : Ending → Heap → Prop} {H : Heap} (x0_0 : Value) (x0_1 : Value) (x0_2 : Value) (x1 : Int) (h : F141 x0_0 x0_1 x0_2 x1 R H) : HCalls Tryz.prog 141 #[Value.agg #[x0_0, x0_1, x0_2], Value.int IntKind.i64 x1] H R :=
  calls_by (F := F141 x0_0 x0_1 x0_2 x1 R H) .leaf Tryz.func141 rfl (F141_eq x0_0 x0_1 x0_2 x1 R H) h
/-- bollard/bollardref03.mayDinode -/
def F154 (x0_0 : Value) (x0_1 : Value) (x0_2 : Value) (x0_3 : Value) (x0_4 : Value) (x0_5 : Value) (x0_6 : Value) (x0_7 : Value) (x0_8 : Value) (R : Ending → Heap → Prop) (H : Heap) : Prop :=
  al H (Obj.cells #[x0_0, x0_1, x0_2, x0_3, x0_4, x0_5, x0_6, x0_7, x0_8] 26) (fun r1 H2 =>
  ld H2 (Addr.mk r1 0 none) (fun v3 =>
  dInt IntKind.i64 v3 (fun n4 =>
  sB (n4 == 0) (ld H2 (Addr.mk r1 0 none) (fun v5 =>
  ld H2 (Addr.mk r1 1 none) (fun v6 =>
  ld H2 (Addr.mk r1 2 none) (fun v7 =>
  ld H2 (Addr.mk r1 3 none) (fun v8 =>
  ld H2 (Addr.mk r1 4 none) (fun v9 =>
  ld H2 (Addr.mk r1 5 none) (fun v10 =>
  ld H2 (Addr.mk r1 6 none) (fun v11 =>
  ld H2 (Addr.mk r1 7 none) (fun v12 =>
  ld H2 (Addr.mk r1 8 none) (fun v13 =>
  semW Tryz.prog (eqSem BinOp.eql 26 (Operand.tmp 8) (Operand.tmp 9) (Value.agg #[v5, v6, v7, v8, v9, v10, v11, v12, v13]) (Value.agg #[Value.int IntKind.i64 0, Value.int IntKind.i64 0, Value.int IntKind.i64 0, Value.int IntKind.i64 0, Value.int IntKind.i64 0, Value.int IntKind.i64 0, Value.int IntKind.i64 0, Value.int IntKind.i64 0, Value.int IntKind.i64 0])) (pnR R) H2 (fun v16 H17 =>
  dBl v16 (fun b18 =>
  R (Ending.returned (Value.bool b18)) H17)))))))))))) (jn (α := VFH 1) (fun v19 H20 =>
  ∀ v21 v22 v23 v24 v25 v26 v27 v28 v29 v30 v31 v32 v33 v34 v35 v36 v37 v38 v39 v40 v41 v42 v43 v44 v45 v46 v47 : Value,
  dBl v19 (fun b48 =>
  sB b48 (R (Ending.returned (Value.bool false)) H20) (ld H20 (Addr.mk r1 3 none) (fun v49 =>
  ld H20 (Addr.mk r1 4 none) (fun v50 =>
  ld H20 (Addr.mk r1 5 none) (fun v51 =>
  ld H20 (Addr.mk r1 6 none) (fun v52 =>
  ∃ I53 : List Value → Heap → Prop,
  ∃ I54 : List Value → Heap → Nat,
  (I53 ([Value.int IntKind.i64 0]) H20) ∧
  ∀ n55 : Int,
  ∀ v56 v57 v58 v59 v60 v61 v62 v63 : Value,
  ∀ H64 : Heap,
  (I53 ([Value.int IntKind.i64 n55]) H64) →
  sB (decide (n55 < 4)) (ask ((0 : Int) ≤ n55 ∧ n55 < (4 : Int)) (oV ([v49, v50, v51, v52][Int.toNat n55 * 1]?) (fun v66 =>
  dInt IntKind.i64 v66 (fun n67 =>
  HCalls Tryz.prog 260 #[Value.int IntKind.i64 n67] H64 (Sp.retK (fun v68 H69 =>
  dBl v68 (fun b70 =>
  sB (!b70) (R (Ending.returned (Value.bool false)) H69) (wr IntKind.i64 (n55 + 1) (fun n71 =>
  (I53 ([Value.int IntKind.i64 n71]) H69) ∧
  (I54 [Value.int IntKind.i64 n71] H69) < (I54 [Value.int IntKind.i64 n55] H64))))) (pnR R)))))) (ld H64 (Addr.mk r1 7 none) (fun v74 =>
  dInt IntKind.i64 v74 (fun n75 =>
  HCalls Tryz.prog 260 #[Value.int IntKind.i64 n75] H64 (Sp.retK (fun v76 H77 =>
  dBl v76 (fun b78 =>
  sB b78 (ld H77 (Addr.mk r1 8 none) (fun v79 =>
  dInt IntKind.i64 v79 (fun n80 =>
  HCalls Tryz.prog 260 #[Value.int IntKind.i64 n80] H77 (Sp.retK (fun v81 H82 =>
  dBl v81 (fun b83 =>
  sB b83 (ld H82 (Addr.mk r1 0 none) (fun v84 =>
  dInt IntKind.i64 v84 (fun n85 =>
  sB (n85 != 2) (R (Ending.returned (Value.bool true)) H82) (ld H82 (Addr.mk r1 2 none) (fun v86 =>
  dInt IntKind.i64 v86 (fun n87 =>
  ask ((128 : Int) ≠ (0 : Int)) (nm (Int.tmod n87 128) (fun n88 =>
  R (Ending.returned (Value.bool (n88 == 0))) H82)))))))) (R (Ending.returned (Value.bool false)) H82))) (pnR R))))) (R (Ending.returned (Value.bool false)) H77))) (pnR R)))))))))))) (fun k93 =>
  ld H2 (Addr.mk r1 0 none) (fun v94 =>
  dInt IntKind.i64 v94 (fun n95 =>
  sB (n95 != 1) (ld H2 (Addr.mk r1 0 none) (fun v96 =>
  dInt IntKind.i64 v96 (fun n97 =>
  sB (n97 != 2) (k93 (Value.bool true) H2) (ld H2 (Addr.mk r1 1 none) (fun v98 =>
  dInt IntKind.i64 v98 (fun n99 =>
  sB (decide (n99 < 0)) (k93 (Value.bool true) H2) (ld H2 (Addr.mk r1 1 none) (fun v100 =>
  dInt IntKind.i64 v100 (fun n101 =>
  sB (decide (n101 > 1000)) (k93 (Value.bool true) H2) (ld H2 (Addr.mk r1 2 none) (fun v102 =>
  dInt IntKind.i64 v102 (fun n103 =>
  sB (decide (n103 < 0)) (k93 (Value.bool true) H2) (ld H2 (Addr.mk r1 2 none) (fun v104 =>
  dInt IntKind.i64 v104 (fun n105 =>
  k93 (Value.bool (decide (n105 > 532992))) H2))))))))))))))) (ld H2 (Addr.mk r1 1 none) (fun v106 =>
  dInt IntKind.i64 v106 (fun n107 =>
  sB (decide (n107 < 0)) (k93 (Value.bool true) H2) (ld H2 (Addr.mk r1 1 none) (fun v108 =>
  dInt IntKind.i64 v108 (fun n109 =>
  sB (decide (n109 > 1000)) (k93 (Value.bool true) H2) (ld H2 (Addr.mk r1 2 none) (fun v110 =>
  dInt IntKind.i64 v110 (fun n111 =>
  sB (decide (n111 < 0)) (k93 (Value.bool true) H2) (ld H2 (Addr.mk r1 2 none) (fun v112 =>
  dInt IntKind.i64 v112 (fun n113 =>
  k93 (Value.bool (decide (n113 > 532992))) H2)))))))))))))))))))
theorem F154_eq (x0_0 : Value) (x0_1 : Value) (x0_2 : Value) (x0_3 : Value) (x0_4 : Value) (x0_5 : Value) (x0_6 : Value) (x0_7 : Value) (x0_8 : Value) (R : Ending → Heap → Prop) (H : Heap) : F154 x0_0 x0_1 x0_2 x0_3 x0_4 x0_5 x0_6 x0_7 x0_8 R H = vc Tryz.prog (codeOf Tryz.f154) (.node none .leaf (.node none .leaf (.node none (.node (some ⟨[(38, 4)], [11, 12, 13, 14, 15, 16, 17, 18, 19, 20, 21, 22, 23, 24, 25, 26, 27, 28, 29, 30, 31, 32, 33, 34, 35, 36, 37]⟩) .leaf .leaf) (.node none (.node none .leaf (.node none (.node (some ⟨[(41, 3)], [2, 4, 42, 43, 44, 45, 46, 47]⟩) .leaf .leaf) .leaf)) .leaf)))) (postV Tryz.prog Tryz.f154 R) ⟨#[Value.agg #[x0_0, x0_1, x0_2, x0_3, x0_4, x0_5, x0_6, x0_7, x0_8]] ++ Array.replicate (Tryz.f154.ntmps - 1) undef, []⟩ H := by kernel_rfl
theorem F154_calls {R : Ending → Heap → Prop} {H : Heap} (x0_0 : Value) (x0_1 : Value) (x0_2 : Value) (x0_3 : Value) (x0_4 : Value) (x0_5 : Value) (x0_6 : Value) (x0_7 : Value) (x0_8 : Value) (h : F154 x0_0 x0_1 x0_2 x0_3 x0_4 x0_5 x0_6 x0_7 x0_8 R H) : HCalls Tryz.prog 154 #[Value.agg #[x0_0, x0_1, x0_2, x0_3, x0_4, x0_5, x0_6, x0_7, x0_8]] H R :=
  calls_by (F := F154 x0_0 x0_1 x0_2 x0_3 x0_4 x0_5 x0_6 x0_7 x0_8 R H) (.node none .leaf (.node none .leaf (.node none (.node (some ⟨[(38, 4)], [11, 12, 13, 14, 15, 16, 17, 18, 19, 20, 21, 22, 23, 24, 25, 26, 27, 28, 29, 30, 31, 32, 33, 34, 35, 36, 37]⟩) .leaf .leaf) (.node none (.node none .leaf (.node none (.node (some ⟨[(41, 3)], [2, 4, 42, 43, 44, 45, 46, 47]⟩) .leaf .leaf) .leaf)) .leaf)))) Tryz.func154 rfl (F154_eq x0_0 x0_1 x0_2 x0_3 x0_4 x0_5 x0_6 x0_7 x0_8 R H) h
/-- bollard/bollardref03.number -/
def F155 (x0a : Option Addr) (x0n : Nat) (x0c : Nat) (x1 : Int) (x2 : Int) (x3 : Int) (R : Ending → Heap → Prop) (H : Heap) : Prop :=
  HCalls Tryz.prog 261 #[Value.slice x0a x0n x0c, Value.int IntKind.i64 x1, Value.int IntKind.i64 x2, Value.int IntKind.i64 x3] H (Sp.retK (fun v1 H2 =>
  dT 2 v1 (fun v3 v4 =>
  dSl v3 (fun p5 r6 r7 =>
  dInt IntKind.i64 v4 (fun n8 =>
  R (Ending.returned (Value.slice p5 r6 r7)) H2)))) (pnR R))
theorem F155_eq (x0a : Option Addr) (x0n : Nat) (x0c : Nat) (x1 : Int) (x2 : Int) (x3 : Int) (R : Ending → Heap → Prop) (H : Heap) : F155 x0a x0n x0c x1 x2 x3 R H = vc Tryz.prog (codeOf Tryz.f155) .leaf (postV Tryz.prog Tryz.f155 R) ⟨#[Value.slice x0a x0n x0c, Value.int IntKind.i64 x1, Value.int IntKind.i64 x2, Value.int IntKind.i64 x3] ++ Array.replicate (Tryz.f155.ntmps - 4) undef, []⟩ H := by kernel_rfl
theorem F155_calls {R : Ending → Heap → Prop} {H : Heap} (x0a : Option Addr) (x0n : Nat) (x0c : Nat) (x1 : Int) (x2 : Int) (x3 : Int) (h : F155 x0a x0n x0c x1 x2 x3 R H) : HCalls Tryz.prog 155 #[Value.slice x0a x0n x0c, Value.int IntKind.i64 x1, Value.int IntKind.i64 x2, Value.int IntKind.i64 x3] H R :=
  calls_by (F := F155 x0a x0n x0c x1 x2 x3 R H) .leaf Tryz.func155 rfl (F155_eq x0a x0n x0c x1 x2 x3 R H) h
/-- bollard/bollardref01.Seal -/
def F156 (x0a : Option Addr) (x0n : Nat) (x0c : Nat) (R : Ending → Heap → Prop) (H : Heap) : Prop :=
  sB (decide ((↑x0n : Int) < 4)) (R (Ending.returned (Value.tuple #[Value.slice none 0 0, Value.int IntKind.i64 10])) H) (wr IntKind.i64 ((↑x0n : Int) - 4) (fun n1 =>
  wr IntKind.i64 ((↑x0n : Int) - 4) (fun n2 =>
  ask ((0 : Int) ≤ (0 : Int) ∧ (0 : Int) ≤ n2 ∧ n2 ≤ (↑x0c : Int) ∧ (↑x0c : Int) ≤ (↑x0c : Int)) (HCalls Tryz.prog 262 #[Value.slice (slO x0a 1 0 (↑x0c : Int)) (Int.toNat n2 - Int.toNat 0) (Int.toNat (↑x0c : Int) - Int.toNat 0)] H (Sp.retK (fun v3 H4 =>
  dInt IntKind.i64 v3 (fun n5 =>
  HCalls Tryz.prog 261 #[Value.slice x0a x0n x0c, Value.int IntKind.i64 n1, Value.int IntKind.i64 4, Value.int IntKind.i64 n5] H4 (Sp.retK (fun v6 H7 =>
  dT 2 v6 (fun v8 v9 =>
  dSl v8 (fun p10 r11 r12 =>
  dInt IntKind.i64 v9 (fun n13 =>
  R (Ending.returned (Value.tuple #[Value.slice p10 r11 r12, Value.int IntKind.i64 n13])) H7)))) (pnR R)))) (pnR R))))))
theorem F156_eq (x0a : Option Addr) (x0n : Nat) (x0c : Nat) (R : Ending → Heap → Prop) (H : Heap) : F156 x0a x0n x0c R H = vc Tryz.prog (codeOf Tryz.f156) .leaf (postV Tryz.prog Tryz.f156 R) ⟨#[Value.slice x0a x0n x0c] ++ Array.replicate (Tryz.f156.ntmps - 1) undef, []⟩ H := by kernel_rfl
theorem F156_calls {R : Ending → Heap → Prop} {H : Heap} (x0a : Option Addr) (x0n : Nat) (x0c : Nat) (h : F156 x0a x0n x0c R H) : HCalls Tryz.prog 156 #[Value.slice x0a x0n x0c] H R :=
  calls_by (F := F156 x0a x0n x0c R H) .leaf Tryz.func156 rfl (F156_eq x0a x0n x0c R H) h
/-- (*bollard/disk.Disk).Blocks -/
def F164 (x0 : Option Addr) (R : Ending → Heap → Prop) (H : Heap) : Prop :=
  sB (Option.isNone x0) (R (Ending.returned (Value.int IntKind.i64 0)) H) (nz x0 (fun a1 =>
  ld H a1 (fun v2 =>
  dSl v2 (fun p3 r4 r5 =>
  R (Ending.returned (Value.int IntKind.i64 (↑r4 : Int))) H))))
theorem F164_eq (x0 : Option Addr) (R : Ending → Heap → Prop) (H : Heap) : F164 x0 R H = vc Tryz.prog (codeOf Tryz.f164) .leaf (postV Tryz.prog Tryz.f164 R) ⟨#[Value.pointer x0] ++ Array.replicate (Tryz.f164.ntmps - 1) undef, []⟩ H := by kernel_rfl
theorem F164_calls {R : Ending → Heap → Prop} {H : Heap} (x0 : Option Addr) (h : F164 x0 R H) : HCalls Tryz.prog 164 #[Value.pointer x0] H R :=
  calls_by (F := F164 x0 R H) .leaf Tryz.func164 rfl (F164_eq x0 R H) h
/-- bollard/geom.between -/
def F165 (x0 : Int) (x1 : Int) (x2 : Int) (R : Ending → Heap → Prop) (H : Heap) : Prop :=
  sB (decide (x0 ≥ x1)) (R (Ending.returned (Value.bool (decide (x0 ≤ x2)))) H) (R (Ending.returned (Value.bool false)) H)
theorem F165_eq (x0 : Int) (x1 : Int) (x2 : Int) (R : Ending → Heap → Prop) (H : Heap) : F165 x0 x1 x2 R H = vc Tryz.prog (codeOf Tryz.f165) .leaf (postV Tryz.prog Tryz.f165 R) ⟨#[Value.int IntKind.i64 x0, Value.int IntKind.i64 x1, Value.int IntKind.i64 x2] ++ Array.replicate (Tryz.f165.ntmps - 3) undef, []⟩ H := by kernel_rfl
theorem F165_calls {R : Ending → Heap → Prop} {H : Heap} (x0 : Int) (x1 : Int) (x2 : Int) (h : F165 x0 x1 x2 R H) : HCalls Tryz.prog 165 #[Value.int IntKind.i64 x0, Value.int IntKind.i64 x1, Value.int IntKind.i64 x2] H R :=
  calls_by (F := F165 x0 x1 x2 R H) .leaf Tryz.func165 rfl (F165_eq x0 x1 x2 R H) h
/-- bollard/geom.front -/
def F166 (x0_0 : Value) (x0_1 : Value) (x0_2 : Value) (R : Ending → Heap → Prop) (H : Heap) : Prop :=
  al H (Obj.cells #[x0_0, x0_1, x0_2] 23) (fun r1 H2 =>
  ld H2 (Addr.mk r1 2 none) (fun v3 =>
  dInt IntKind.i64 v3 (fun n4 =>
  ask ((4 : Int) ≠ (0 : Int)) (wr IntKind.i64 (Int.tdiv n4 4) (fun n5 =>
  wr IntKind.i64 (2 + n5) (fun n6 =>
  R (Ending.returned (Value.int IntKind.i64 n6)) H2))))))
theorem F166_eq (x0_0 : Value) (x0_1 : Value) (x0_2 : Value) (R : Ending → Heap → Prop) (H : Heap) : F166 x0_0 x0_1 x0_2 R H = vc Tryz.prog (codeOf Tryz.f166) .leaf (postV Tryz.prog Tryz.f166 R) ⟨#[Value.agg #[x0_0, x0_1, x0_2]] ++ Array.replicate (Tryz.f166.ntmps - 1) undef, []⟩ H := by kernel_rfl
theorem F166_calls {R : Ending → Heap → Prop} {H : Heap} (x0_0 : Value) (x0_1 : Value) (x0_2 : Value) (h : F166 x0_0 x0_1 x0_2 R H) : HCalls Tryz.prog 166 #[Value.agg #[x0_0, x0_1, x0_2]] H R :=
  calls_by (F := F166 x0_0 x0_1 x0_2 R H) .leaf Tryz.func166 rfl (F166_eq x0_0 x0_1 x0_2 R H) h
/-- bollard/geom.all -/
def F167 (x0_0 : Value) (x0_1 : Value) (x0_2 : Value) (x1 : Int) (R : Ending → Heap → Prop) (H : Heap) : Prop :=
  al H (Obj.cells #[x0_0, x0_1, x0_2] 23) (fun r1 H2 =>
  ld H2 (Addr.mk r1 0 none) (fun v3 =>
  ld H2 (Addr.mk r1 1 none) (fun v4 =>
  ld H2 (Addr.mk r1 2 none) (fun v5 =>
  HCalls Tryz.prog 65 #[Value.agg #[v3, v4, v5]] H2 (Sp.retK (fun v6 H7 =>
  dInt IntKind.i64 v6 (fun n8 =>
  sB (n8 != 0) (R (Ending.returned (Value.int IntKind.i64 0)) H7) (ld H7 (Addr.mk r1 0 none) (fun v9 =>
  dInt IntKind.i64 v9 (fun n10 =>
  wr IntKind.i64 (n10 * x1) (fun n11 =>
  R (Ending.returned (Value.int IntKind.i64 n11)) H7)))))) (pnR R))))))
theorem F167_eq (x0_0 : Value) (x0_1 : Value) (x0_2 : Value) (x1 : Int) (R : Ending → Heap → Prop) (H : Heap) : F167 x0_0 x0_1 x0_2 x1 R H = vc Tryz.prog (codeOf Tryz.f167) .leaf (postV Tryz.prog Tryz.f167 R) ⟨#[Value.agg #[x0_0, x0_1, x0_2], Value.int IntKind.i64 x1] ++ Array.replicate (Tryz.f167.ntmps - 2) undef, []⟩ H := by kernel_rfl
theorem F167_calls {R : Ending → Heap → Prop} {H : Heap} (x0_0 : Value) (x0_1 : Value) (x0_2 : Value) (x1 : Int) (h : F167 x0_0 x0_1 x0_2 x1 R H) : HCalls Tryz.prog 167 #[Value.agg #[x0_0, x0_1, x0_2], Value.int IntKind.i64 x1] H R :=
  calls_by (F := F167 x0_0 x0_1 x0_2 x1 R H) .leaf Tryz.func167 rfl (F167_eq x0_0 x0_1 x0_2 x1 R H) h
end Go.Proofs.YtdlelcpkelginaaGreat.E
