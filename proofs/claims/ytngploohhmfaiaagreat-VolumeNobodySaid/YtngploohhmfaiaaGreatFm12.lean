/- The functions' forms in the engine's words, printed by my own program. -/
import Derived.Test.YtngploohhmfaiaaGreatProg
import Derived.Test.YtngploohhmfaiaaGreatEng11
import Derived.KernelRfl
namespace Go.Proofs.YtngploohhmfaiaaGreat.E
open Go Go.Proofs
set_option linter.unusedVariables false
/-- (*bollard/bollardref02.Disk).Read -/
def F251 (x0 : Option Addr) (x1 : Int) (R : Ending → Heap → Prop) (H : Heap) : Prop :=
  HCalls Tryz.prog 254 #[Value.pointer x0, Value.int IntKind.i64 x1] H (Sp.retK (fun v1 H2 =>
  dBl v1 (fun b3 =>
  sB (!b3) (R (Ending.returned (Value.tuple #[Value.slice none 0 0, Value.int IntKind.i64 1])) H2) (nz x0 (fun a4 =>
  ld H2 (Addr.add a4 2) (fun v5 =>
  dSl v5 (fun p6 r7 r8 =>
  nz p6 (fun a9 =>
  ask ((0 : Int) ≤ x1 ∧ x1 < (↑r7 : Int)) (ld H2 (Addr.add a9 (Int.toNat x1 * 1)) (fun v10 =>
  dInt IntKind.i64 v10 (fun n11 =>
  sB (decide (n11 > 0)) (nz x0 (fun a12 =>
  ld H2 (Addr.add a12 2) (fun v13 =>
  dSl v13 (fun p14 r15 r16 =>
  nz p14 (fun a17 =>
  ask ((0 : Int) ≤ x1 ∧ x1 < (↑r15 : Int)) (ld H2 (Addr.add a17 (Int.toNat x1 * 1)) (fun v18 =>
  dInt IntKind.i64 v18 (fun n19 =>
  wr IntKind.i64 (n19 - 1) (fun n20 =>
  nz p14 (fun a21 =>
  ask ((0 : Int) ≤ x1 ∧ x1 < (↑r15 : Int)) (st H2 (Addr.add a21 (Int.toNat x1 * 1)) (Value.int IntKind.i64 n20) (fun H22 =>
  R (Ending.returned (Value.tuple #[Value.slice none 0 0, Value.int IntKind.i64 4])) H22)))))))))))) (nz x0 (fun a23 =>
  ld H2 a23 (fun v24 =>
  dSl v24 (fun p25 r26 r27 =>
  nz p25 (fun a28 =>
  ask ((0 : Int) ≤ x1 ∧ x1 < (↑r26 : Int)) (ld H2 (Addr.add a28 (Int.toNat x1 * 1)) (fun v29 =>
  dSl v29 (fun p30 r31 r32 =>
  HCalls Tryz.prog 181 #[Value.slice p30 r31 r32] H2 (Sp.retK (fun v33 H34 =>
  dSl v33 (fun p35 r36 r37 =>
  R (Ending.returned (Value.tuple #[Value.slice p35 r36 r37, Value.int IntKind.i64 0])) H34)) (pnR R)))))))))))))))))))) (pnR R))
theorem F251_eq (x0 : Option Addr) (x1 : Int) (R : Ending → Heap → Prop) (H : Heap) : F251 x0 x1 R H = vc Tryz.prog (codeOf Tryz.f251) .leaf (postV Tryz.prog Tryz.f251 R) ⟨#[Value.pointer x0, Value.int IntKind.i64 x1] ++ Array.replicate (Tryz.f251.ntmps - 2) undef, []⟩ H := by kernel_rfl
theorem F251_calls {R : Ending → Heap → Prop} {H : Heap} (x0 : Option Addr) (x1 : Int) (h : F251 x0 x1 R H) : HCalls Tryz.prog 251 #[Value.pointer x0, Value.int IntKind.i64 x1] H R :=
  calls_by (F := F251 x0 x1 R H) .leaf Tryz.func251 rfl (F251_eq x0 x1 R H) h
/-- (*bollard/bollardref07.Set).may -/
def F252 (x0 : Option Addr) (x1 : Int) (R : Ending → Heap → Prop) (H : Heap) : Prop :=
  HCalls Tryz.prog 257 #[Value.pointer x0, Value.int IntKind.i64 x1] H (Sp.retK (fun v1 H2 =>
  dSl v1 (fun p3 r4 r5 =>
  ∃ I6 : List Value → Heap → Prop,
  ∃ I7 : List Value → Heap → Nat,
  (I6 ([Value.slice p3 r4 r5, Value.bool true]) H2) ∧
  ∀ p8 : Option Addr,
  ∀ r9 : Nat,
  ∀ r10 : Nat,
  ∀ b11 : Bool,
  ∀ v12 v13 v14 v15 v16 v17 v18 v19 v20 v21 v22 v23 v24 v25 v26 v27 v28 v29 v30 v31 v32 v33 v34 v35 v36 v37 v38 v39 v40 v41 v42 v43 v44 v45 v46 v47 v48 v49 v50 v51 v52 v53 v54 v55 : Value,
  ∀ H56 : Heap,
  (I6 ([Value.slice p8 r9 r10, Value.bool b11]) H56) →
  sB b11 (∃ I58 : List Value → Heap → Prop,
  ∃ I59 : List Value → Heap → Nat,
  (I58 ([Value.bool false, Value.slice none 0 0, Value.int IntKind.i64 0]) H56) ∧
  ∀ b60 : Bool,
  ∀ p61 : Option Addr,
  ∀ r62 : Nat,
  ∀ r63 : Nat,
  ∀ n64 : Int,
  ∀ v65 v66 v67 v68 v69 v70 v71 v72 v73 v74 v75 v76 v77 v78 v79 v80 v81 v82 v83 v84 v85 v86 v87 v88 v89 v90 v91 v92 v93 v94 v95 v96 v97 v98 v99 v100 v101 v102 : Value,
  ∀ H103 : Heap,
  (I58 ([Value.bool b60, Value.slice p61 r62 r63, Value.int IntKind.i64 n64]) H103) →
  sB (decide (n64 < (↑r9 : Int))) (jn (α := VFH 2) (fun v105 v106 H107 =>
  ∀ v108 v109 v110 v111 v112 v113 v114 v115 v116 v117 v118 v119 v120 v121 v122 v123 v124 v125 v126 v127 v128 v129 v130 v131 v132 v133 v134 v135 v136 v137 v138 v139 v140 v141 v142 v143 : Value,
  dBl v105 (fun b144 =>
  dSl v106 (fun p145 r146 r147 =>
  wr IntKind.i64 (n64 + 1) (fun n148 =>
  (I58 ([Value.bool b144, Value.slice p145 r146 r147, Value.int IntKind.i64 n148]) H107) ∧
  (I59 [Value.bool b144, Value.slice p145 r146 r147, Value.int IntKind.i64 n148] H107) < (I59 [Value.bool b60, Value.slice p61 r62 r63, Value.int IntKind.i64 n64] H103))))) (fun k149 =>
  nz p8 (fun a150 =>
  ask ((0 : Int) ≤ n64 ∧ n64 < (↑r9 : Int)) (ld H103 (Addr.add a150 (Int.toNat n64 * 1)) (fun v151 =>
  dInt IntKind.i64 v151 (fun n152 =>
  nz x0 (fun a153 =>
  ld H103 a153 (fun v154 =>
  dSl v154 (fun p155 r156 r157 =>
  HCalls Tryz.prog 256 #[Value.pointer x0, Value.int IntKind.i64 n152] H103 (Sp.retK (fun v158 H159 =>
  dInt IntKind.i64 v158 (fun n160 =>
  (ld H159 a153 (fun v161 =>
  dSl v161 (fun p162 r163 r164 =>
  (Value.slice p162 r163 r164) = (Value.slice p155 r156 r157)))) ∧
  nz p155 (fun a165 =>
  ask ((0 : Int) ≤ n160 ∧ n160 < (↑r156 : Int)) (ld H159 (Addr.add (Addr.add a165 (Int.toNat n160 * 5)) 4) (fun v166 =>
  dSl v166 (fun p167 r168 r169 =>
  ∃ I170 : List Value → Heap → Prop,
  ∃ I171 : List Value → Heap → Nat,
  (I170 ([Value.bool true, Value.int IntKind.i64 0]) H159) ∧
  ∀ b172 : Bool,
  ∀ n173 : Int,
  ∀ v174 v175 v176 v177 v178 v179 v180 v181 v182 v183 v184 v185 v186 v187 v188 : Value,
  ∀ H189 : Heap,
  (I170 ([Value.bool b172, Value.int IntKind.i64 n173]) H189) →
  sB (decide (n173 < (↑r168 : Int))) (jn (α := VFH 1) (fun v191 H192 =>
  ∀ v193 v194 v195 v196 v197 v198 v199 v200 v201 v202 v203 v204 v205 : Value,
  dBl v191 (fun b206 =>
  wr IntKind.i64 (n173 + 1) (fun n207 =>
  (I170 ([Value.bool b206, Value.int IntKind.i64 n207]) H192) ∧
  (I171 [Value.bool b206, Value.int IntKind.i64 n207] H192) < (I171 [Value.bool b172, Value.int IntKind.i64 n173] H189)))) (fun k208 =>
  nz p167 (fun a209 =>
  ask ((0 : Int) ≤ n173 ∧ n173 < (↑r168 : Int)) (ld H189 (Addr.add a209 (Int.toNat n173 * 1)) (fun v210 =>
  dInt IntKind.i64 v210 (fun n211 =>
  jn (α := VFH 1) (fun v212 H213 =>
  ∀ v214 v215 v216 v217 v218 v219 v220 v221 v222 : Value,
  dBl v212 (fun b223 =>
  sB b223 (k208 (Value.bool false) H213) (k208 (Value.bool b172) H213))) (fun k224 =>
  HCalls Tryz.prog 256 #[Value.pointer x0, Value.int IntKind.i64 n211] H189 (Sp.retK (fun v225 H226 =>
  dInt IntKind.i64 v225 (fun n227 =>
  sB (decide (n227 ≥ 0)) (HCalls Tryz.prog 214 #[Value.slice p8 r9 r10, Value.int IntKind.i64 n211] H226 (Sp.retK (fun v228 H229 =>
  dBl v228 (fun b230 =>
  k224 (Value.bool !b230) H229)) (pnR R))) (k224 (Value.bool false) H226))) (pnR R))))))))) (sB b172 (al H189 (Obj.cells #[Value.int IntKind.i64 n152] 3) (fun r235 H236 =>
  semW Tryz.prog (Builtin.append_ #[73, 73] 73 #[Value.slice p61 r62 r63, Value.slice (some (Addr.mk r235 0 none)) 1 1]) (pnR R) H236 (fun v239 H240 =>
  dSl v239 (fun p241 r242 r243 =>
  k149 (Value.bool b60) (Value.slice p241 r242 r243) H240)))) (k149 (Value.bool true) (Value.slice p61 r62 r63) H189)))))))) nopR)))))))))) ((I6 ([Value.slice p61 r62 r63, Value.bool b60]) H103) ∧
  (I7 [Value.slice p61 r62 r63, Value.bool b60] H103) < (I7 [Value.slice p8 r9 r10, Value.bool b11] H56))) (R (Ending.returned (Value.slice p8 r9 r10)) H56))) (pnR R))
theorem F252_eq (x0 : Option Addr) (x1 : Int) (R : Ending → Heap → Prop) (H : Heap) : F252 x0 x1 R H = vc Tryz.prog (codeOf Tryz.f252) (.node none .leaf (.node none .leaf (.node none (.node none .leaf (.node none (.node (some ⟨[(5, 73), (6, 4)], [7, 9, 10, 12, 16, 17, 18, 19, 20, 21, 22, 23, 24, 25, 26, 27, 28, 29, 30, 31, 32, 33, 34, 35, 36, 37, 38, 39, 40, 41, 42, 43, 44, 45, 46, 47, 48, 49, 50, 51, 52, 53, 54, 55]⟩) (.node none .leaf (.node none (.node none .leaf (.node none .leaf (.node none (.node none .leaf (.node none (.node (some ⟨[(6, 4), (7, 73), (19, 3)], [9, 10, 12, 20, 21, 22, 23, 24, 25, 26, 27, 28, 29, 30, 31, 32, 33, 34, 35, 36, 37, 38, 39, 40, 41, 42, 43, 44, 45, 46, 47, 48, 49, 50, 51, 52, 53, 54]⟩) (.node none .leaf (.node none .leaf (.node (some ⟨[(6, 4), (7, 73)], [9, 10, 12, 21, 22, 23, 24, 25, 26, 27, 28, 29, 30, 31, 32, 33, 34, 35, 36, 37, 38, 39, 40, 41, 42, 43, 44, 45, 46, 47, 48, 49, 50, 51, 52, 53]⟩) (.node none (.node none .leaf (.node none .leaf (.node none (.node none .leaf (.node none (.node (some ⟨[(10, 4), (34, 3)], [12, 35, 36, 37, 38, 39, 40, 41, 42, 43, 44, 45, 46, 47, 48]⟩) (.node none .leaf (.node none .leaf (.node (some ⟨[(10, 4)], [12, 36, 37, 38, 39, 40, 41, 42, 43, 44, 45, 46, 47]⟩) (.node none (.node none .leaf (.node (some ⟨[(47, 4)], [38, 39, 40, 41, 42, 43, 44, 45, 46]⟩) .leaf .leaf)) .leaf) .leaf))) .leaf) .leaf)) .leaf))) .leaf) .leaf))) .leaf) .leaf)) .leaf))) .leaf)) .leaf) .leaf)) .leaf))) (postV Tryz.prog Tryz.f252 R) ⟨#[Value.pointer x0, Value.int IntKind.i64 x1] ++ Array.replicate (Tryz.f252.ntmps - 2) undef, []⟩ H := by kernel_rfl
theorem F252_calls {R : Ending → Heap → Prop} {H : Heap} (x0 : Option Addr) (x1 : Int) (h : F252 x0 x1 R H) : HCalls Tryz.prog 252 #[Value.pointer x0, Value.int IntKind.i64 x1] H R :=
  calls_by (F := F252 x0 x1 R H) (.node none .leaf (.node none .leaf (.node none (.node none .leaf (.node none (.node (some ⟨[(5, 73), (6, 4)], [7, 9, 10, 12, 16, 17, 18, 19, 20, 21, 22, 23, 24, 25, 26, 27, 28, 29, 30, 31, 32, 33, 34, 35, 36, 37, 38, 39, 40, 41, 42, 43, 44, 45, 46, 47, 48, 49, 50, 51, 52, 53, 54, 55]⟩) (.node none .leaf (.node none (.node none .leaf (.node none .leaf (.node none (.node none .leaf (.node none (.node (some ⟨[(6, 4), (7, 73), (19, 3)], [9, 10, 12, 20, 21, 22, 23, 24, 25, 26, 27, 28, 29, 30, 31, 32, 33, 34, 35, 36, 37, 38, 39, 40, 41, 42, 43, 44, 45, 46, 47, 48, 49, 50, 51, 52, 53, 54]⟩) (.node none .leaf (.node none .leaf (.node (some ⟨[(6, 4), (7, 73)], [9, 10, 12, 21, 22, 23, 24, 25, 26, 27, 28, 29, 30, 31, 32, 33, 34, 35, 36, 37, 38, 39, 40, 41, 42, 43, 44, 45, 46, 47, 48, 49, 50, 51, 52, 53]⟩) (.node none (.node none .leaf (.node none .leaf (.node none (.node none .leaf (.node none (.node (some ⟨[(10, 4), (34, 3)], [12, 35, 36, 37, 38, 39, 40, 41, 42, 43, 44, 45, 46, 47, 48]⟩) (.node none .leaf (.node none .leaf (.node (some ⟨[(10, 4)], [12, 36, 37, 38, 39, 40, 41, 42, 43, 44, 45, 46, 47]⟩) (.node none (.node none .leaf (.node (some ⟨[(47, 4)], [38, 39, 40, 41, 42, 43, 44, 45, 46]⟩) .leaf .leaf)) .leaf) .leaf))) .leaf) .leaf)) .leaf))) .leaf) .leaf))) .leaf) .leaf)) .leaf))) .leaf)) .leaf) .leaf)) .leaf))) Tryz.func252 rfl (F252_eq x0 x1 R H) h
/-- (*bollard/bollardref07.Set).over -/
def F253 (x0 : Option Addr) (x1 : Int) (x2a : Option Addr) (x2n : Nat) (x2c : Nat) (x3a : Option Addr) (x3n : Nat) (x3c : Nat) (R : Ending → Heap → Prop) (H : Heap) : Prop :=
  al H (Obj.cells #[] 5) (fun r1 H2 =>
  semW Tryz.prog (Builtin.append_ #[38, 38] 38 #[Value.slice (some (Addr.mk r1 0 none)) 0 0, Value.slice x2a x2n x2c]) (pnR R) H2 (fun v5 H6 =>
  dSl v5 (fun p7 r8 r9 =>
  nz x0 (fun a10 =>
  ld H6 a10 (fun v11 =>
  dSl v11 (fun p12 r13 r14 =>
  ∃ I15 : List Value → Heap → Prop,
  ∃ I16 : List Value → Heap → Nat,
  (I15 ([Value.int IntKind.i64 0]) H6) ∧
  ∀ n17 : Int,
  ∀ v18 v19 v20 v21 v22 v23 v24 v25 v26 v27 v28 v29 v30 v31 v32 v33 v34 v35 v36 v37 v38 v39 : Value,
  ∀ H40 : Heap,
  (I15 ([Value.int IntKind.i64 n17]) H40) →
  sB (decide (n17 < (↑r13 : Int))) (jn (α := VFH 0) (fun H42 =>
  ∀ v43 v44 v45 v46 v47 v48 v49 v50 v51 v52 v53 v54 v55 v56 v57 v58 v59 v60 v61 v62 : Value,
  wr IntKind.i64 (n17 + 1) (fun n63 =>
  (I15 ([Value.int IntKind.i64 n63]) H42) ∧
  (I16 [Value.int IntKind.i64 n63] H42) < (I16 [Value.int IntKind.i64 n17] H40))) (fun k64 =>
  nz p12 (fun a65 =>
  ask ((0 : Int) ≤ n17 ∧ n17 < (↑r13 : Int)) (ld H40 (Addr.add a65 (Int.toNat n17 * 5)) (fun v66 =>
  ld H40 (Addr.add (Addr.add a65 (Int.toNat n17 * 5)) 1) (fun v67 =>
  ld H40 (Addr.add (Addr.add a65 (Int.toNat n17 * 5)) 2) (fun v68 =>
  ld H40 (Addr.add (Addr.add a65 (Int.toNat n17 * 5)) 3) (fun v69 =>
  ld H40 (Addr.add (Addr.add a65 (Int.toNat n17 * 5)) 4) (fun v70 =>
  al H40 (Obj.cells #[Value.int IntKind.i64 0, Value.int IntKind.i64 0, Value.int IntKind.i64 0, Value.slice none 0 0, Value.slice none 0 0] 194) (fun r71 H72 =>
  st H72 (Addr.mk r71 0 none) v66 (fun H73 =>
  st H73 (Addr.mk r71 1 none) v67 (fun H74 =>
  st H74 (Addr.mk r71 2 none) v68 (fun H75 =>
  st H75 (Addr.mk r71 3 none) v69 (fun H76 =>
  st H76 (Addr.mk r71 4 none) v70 (fun H77 =>
  jn (α := VFH 1) (fun v78 H79 =>
  ∀ v80 v81 v82 v83 v84 v85 v86 v87 v88 : Value,
  dBl v78 (fun b89 =>
  sB b89 (ld H79 (Addr.mk r71 2 none) (fun v90 =>
  dInt IntKind.i64 v90 (fun n91 =>
  ask ((0 : Int) ≤ n91 ∧ n91 ≤ (↑r8 : Int) ∧ (↑r8 : Int) ≤ (↑r9 : Int) ∧ (↑r9 : Int) ≤ (↑r9 : Int)) (ld H79 (Addr.mk r71 3 none) (fun v92 =>
  dSl v92 (fun p93 r94 r95 =>
  semW Tryz.prog (Builtin.copy_ #[38, 38] 3 #[Value.slice (slO p7 1 n91 (↑r9 : Int)) (Int.toNat (↑r8 : Int) - Int.toNat n91) (Int.toNat (↑r9 : Int) - Int.toNat n91), Value.slice p93 r94 r95]) nopR H79 (fun v98 H99 =>
  dInt IntKind.i64 v98 (fun n100 =>
  k64 H99)))))))) (k64 H79))) (fun k101 =>
  ld H77 (Addr.mk r71 1 none) (fun v102 =>
  dInt IntKind.i64 v102 (fun n103 =>
  sB (n103 == x1) (ld H77 (Addr.mk r71 0 none) (fun v104 =>
  dInt IntKind.i64 v104 (fun n105 =>
  HCalls Tryz.prog 214 #[Value.slice x3a x3n x3c, Value.int IntKind.i64 n105] H77 (Sp.retK (fun v106 H107 =>
  dBl v106 (fun b108 =>
  k101 (Value.bool b108) H107)) (pnR R))))) (k101 (Value.bool false) H77))))))))))))))))))) (R (Ending.returned (Value.slice p7 r8 r9)) H40)))))))
theorem F253_eq (x0 : Option Addr) (x1 : Int) (x2a : Option Addr) (x2n : Nat) (x2c : Nat) (x3a : Option Addr) (x3n : Nat) (x3c : Nat) (R : Ending → Heap → Prop) (H : Heap) : F253 x0 x1 x2a x2n x2c x3a x3n x3c R H = vc Tryz.prog (codeOf Tryz.f253) (.node none .leaf (.node none .leaf (.node none (.node none .leaf (.node none (.node (some ⟨[(20, 3)], [11, 21, 22, 23, 24, 25, 26, 27, 28, 29, 30, 31, 32, 33, 34, 35, 36, 37, 38, 39, 40, 41]⟩) (.node none .leaf (.node none .leaf (.node (some ⟨[], [11, 22, 23, 24, 25, 26, 27, 28, 29, 30, 31, 32, 33, 34, 35, 36, 37, 38, 39, 40]⟩) (.node none (.node none .leaf (.node (some ⟨[(33, 4)], [24, 25, 26, 27, 28, 29, 30, 31, 32]⟩) .leaf .leaf)) .leaf) .leaf))) .leaf) .leaf)) .leaf))) (postV Tryz.prog Tryz.f253 R) ⟨#[Value.pointer x0, Value.int IntKind.i64 x1, Value.slice x2a x2n x2c, Value.slice x3a x3n x3c] ++ Array.replicate (Tryz.f253.ntmps - 4) undef, []⟩ H := by kernel_rfl
theorem F253_calls {R : Ending → Heap → Prop} {H : Heap} (x0 : Option Addr) (x1 : Int) (x2a : Option Addr) (x2n : Nat) (x2c : Nat) (x3a : Option Addr) (x3n : Nat) (x3c : Nat) (h : F253 x0 x1 x2a x2n x2c x3a x3n x3c R H) : HCalls Tryz.prog 253 #[Value.pointer x0, Value.int IntKind.i64 x1, Value.slice x2a x2n x2c, Value.slice x3a x3n x3c] H R :=
  calls_by (F := F253 x0 x1 x2a x2n x2c x3a x3n x3c R H) (.node none .leaf (.node none .leaf (.node none (.node none .leaf (.node none (.node (some ⟨[(20, 3)], [11, 21, 22, 23, 24, 25, 26, 27, 28, 29, 30, 31, 32, 33, 34, 35, 36, 37, 38, 39, 40, 41]⟩) (.node none .leaf (.node none .leaf (.node (some ⟨[], [11, 22, 23, 24, 25, 26, 27, 28, 29, 30, 31, 32, 33, 34, 35, 36, 37, 38, 39, 40]⟩) (.node none (.node none .leaf (.node (some ⟨[(33, 4)], [24, 25, 26, 27, 28, 29, 30, 31, 32]⟩) .leaf .leaf)) .leaf) .leaf))) .leaf) .leaf)) .leaf))) Tryz.func253 rfl (F253_eq x0 x1 x2a x2n x2c x3a x3n x3c R H) h
/-- (*bollard/bollardref02.Disk).has -/
def F254 (x0 : Option Addr) (x1 : Int) (R : Ending → Heap → Prop) (H : Heap) : Prop :=
  sB (decide (x1 ≥ 0)) (nz x0 (fun a1 =>
  ld H a1 (fun v2 =>
  dSl v2 (fun p3 r4 r5 =>
  R (Ending.returned (Value.bool (decide (x1 < (↑r4 : Int))))) H)))) (R (Ending.returned (Value.bool false)) H)
theorem F254_eq (x0 : Option Addr) (x1 : Int) (R : Ending → Heap → Prop) (H : Heap) : F254 x0 x1 R H = vc Tryz.prog (codeOf Tryz.f254) .leaf (postV Tryz.prog Tryz.f254 R) ⟨#[Value.pointer x0, Value.int IntKind.i64 x1] ++ Array.replicate (Tryz.f254.ntmps - 2) undef, []⟩ H := by kernel_rfl
theorem F254_calls {R : Ending → Heap → Prop} {H : Heap} (x0 : Option Addr) (x1 : Int) (h : F254 x0 x1 R H) : HCalls Tryz.prog 254 #[Value.pointer x0, Value.int IntKind.i64 x1] H R :=
  calls_by (F := F254 x0 x1 R H) .leaf Tryz.func254 rfl (F254_eq x0 x1 R H) h
/-- (*bollard/bollardref02.Disk).find -/
def F255 (x0 : Option Addr) (x1 : Int) (R : Ending → Heap → Prop) (H : Heap) : Prop :=
  nz x0 (fun a1 =>
  ld H (Addr.add a1 1) (fun v2 =>
  dSl v2 (fun p3 r4 r5 =>
  ∃ I6 : List Value → Heap → Prop,
  ∃ I7 : List Value → Heap → Nat,
  (I6 ([Value.int IntKind.i64 0]) H) ∧
  ∀ n8 : Int,
  ∀ v9 v10 v11 v12 v13 v14 v15 v16 v17 v18 v19 v20 v21 : Value,
  ∀ H22 : Heap,
  (I6 ([Value.int IntKind.i64 n8]) H22) →
  sB (decide (n8 < (↑r4 : Int))) (nz p3 (fun a24 =>
  ask ((0 : Int) ≤ n8 ∧ n8 < (↑r4 : Int)) (ld H22 (Addr.add a24 (Int.toNat n8 * 3)) (fun v25 =>
  ld H22 (Addr.add (Addr.add a24 (Int.toNat n8 * 3)) 1) (fun v26 =>
  ld H22 (Addr.add (Addr.add a24 (Int.toNat n8 * 3)) 2) (fun v27 =>
  al H22 (Obj.cells #[Value.int IntKind.i64 0, Value.int IntKind.i64 0, Value.slice none 0 0] 96) (fun r28 H29 =>
  st H29 (Addr.mk r28 0 none) v25 (fun H30 =>
  st H30 (Addr.mk r28 1 none) v26 (fun H31 =>
  st H31 (Addr.mk r28 2 none) v27 (fun H32 =>
  ld H32 (Addr.mk r28 0 none) (fun v33 =>
  dInt IntKind.i64 v33 (fun n34 =>
  sB (n34 == x1) (R (Ending.returned (Value.int IntKind.i64 n8)) H32) (wr IntKind.i64 (n8 + 1) (fun n35 =>
  (I6 ([Value.int IntKind.i64 n35]) H32) ∧
  (I7 [Value.int IntKind.i64 n35] H32) < (I7 [Value.int IntKind.i64 n8] H22))))))))))))))) (R (Ending.returned (Value.int IntKind.i64 (-1))) H22))))
theorem F255_eq (x0 : Option Addr) (x1 : Int) (R : Ending → Heap → Prop) (H : Heap) : F255 x0 x1 R H = vc Tryz.prog (codeOf Tryz.f255) (.node none .leaf (.node none (.node none .leaf (.node none (.node (some ⟨[(12, 3)], [4, 5, 6, 13, 14, 15, 16, 17, 18, 19, 20, 21, 22]⟩) .leaf .leaf) .leaf)) .leaf)) (postV Tryz.prog Tryz.f255 R) ⟨#[Value.pointer x0, Value.int IntKind.i64 x1] ++ Array.replicate (Tryz.f255.ntmps - 2) undef, []⟩ H := by kernel_rfl
theorem F255_calls {R : Ending → Heap → Prop} {H : Heap} (x0 : Option Addr) (x1 : Int) (h : F255 x0 x1 R H) : HCalls Tryz.prog 255 #[Value.pointer x0, Value.int IntKind.i64 x1] H R :=
  calls_by (F := F255 x0 x1 R H) (.node none .leaf (.node none (.node none .leaf (.node none (.node (some ⟨[(12, 3)], [4, 5, 6, 13, 14, 15, 16, 17, 18, 19, 20, 21, 22]⟩) .leaf .leaf) .leaf)) .leaf)) Tryz.func255 rfl (F255_eq x0 x1 R H) h
/-- (*bollard/bollardref07.Set).find -/
def F256 (x0 : Option Addr) (x1 : Int) (R : Ending → Heap → Prop) (H : Heap) : Prop :=
  nz x0 (fun a1 =>
  ld H a1 (fun v2 =>
  dSl v2 (fun p3 r4 r5 =>
  ∃ I6 : List Value → Heap → Prop,
  ∃ I7 : List Value → Heap → Nat,
  (I6 ([Value.int IntKind.i64 0]) H) ∧
  ∀ n8 : Int,
  ∀ v9 v10 v11 v12 v13 v14 v15 v16 v17 v18 v19 v20 v21 : Value,
  ∀ H22 : Heap,
  (I6 ([Value.int IntKind.i64 n8]) H22) →
  sB (decide (n8 < (↑r4 : Int))) (nz p3 (fun a24 =>
  ask ((0 : Int) ≤ n8 ∧ n8 < (↑r4 : Int)) (ld H22 (Addr.add a24 (Int.toNat n8 * 5)) (fun v25 =>
  ld H22 (Addr.add (Addr.add a24 (Int.toNat n8 * 5)) 1) (fun v26 =>
  ld H22 (Addr.add (Addr.add a24 (Int.toNat n8 * 5)) 2) (fun v27 =>
  ld H22 (Addr.add (Addr.add a24 (Int.toNat n8 * 5)) 3) (fun v28 =>
  ld H22 (Addr.add (Addr.add a24 (Int.toNat n8 * 5)) 4) (fun v29 =>
  al H22 (Obj.cells #[Value.int IntKind.i64 0, Value.int IntKind.i64 0, Value.int IntKind.i64 0, Value.slice none 0 0, Value.slice none 0 0] 194) (fun r30 H31 =>
  st H31 (Addr.mk r30 0 none) v25 (fun H32 =>
  st H32 (Addr.mk r30 1 none) v26 (fun H33 =>
  st H33 (Addr.mk r30 2 none) v27 (fun H34 =>
  st H34 (Addr.mk r30 3 none) v28 (fun H35 =>
  st H35 (Addr.mk r30 4 none) v29 (fun H36 =>
  ld H36 (Addr.mk r30 0 none) (fun v37 =>
  dInt IntKind.i64 v37 (fun n38 =>
  sB (n38 == x1) (R (Ending.returned (Value.int IntKind.i64 n8)) H36) (wr IntKind.i64 (n8 + 1) (fun n39 =>
  (I6 ([Value.int IntKind.i64 n39]) H36) ∧
  (I7 [Value.int IntKind.i64 n39] H36) < (I7 [Value.int IntKind.i64 n8] H22))))))))))))))))))) (R (Ending.returned (Value.int IntKind.i64 (-1))) H22))))
theorem F256_eq (x0 : Option Addr) (x1 : Int) (R : Ending → Heap → Prop) (H : Heap) : F256 x0 x1 R H = vc Tryz.prog (codeOf Tryz.f256) (.node none .leaf (.node none (.node none .leaf (.node none (.node (some ⟨[(12, 3)], [4, 5, 6, 13, 14, 15, 16, 17, 18, 19, 20, 21, 22]⟩) .leaf .leaf) .leaf)) .leaf)) (postV Tryz.prog Tryz.f256 R) ⟨#[Value.pointer x0, Value.int IntKind.i64 x1] ++ Array.replicate (Tryz.f256.ntmps - 2) undef, []⟩ H := by kernel_rfl
theorem F256_calls {R : Ending → Heap → Prop} {H : Heap} (x0 : Option Addr) (x1 : Int) (h : F256 x0 x1 R H) : HCalls Tryz.prog 256 #[Value.pointer x0, Value.int IntKind.i64 x1] H R :=
  calls_by (F := F256 x0 x1 R H) (.node none .leaf (.node none (.node none .leaf (.node none (.node (some ⟨[(12, 3)], [4, 5, 6, 13, 14, 15, 16, 17, 18, 19, 20, 21, 22]⟩) .leaf .leaf) .leaf)) .leaf)) Tryz.func256 rfl (F256_eq x0 x1 R H) h
/-- (*bollard/bollardref07.Set).Of -/
def F257 (x0 : Option Addr) (x1 : Int) (R : Ending → Heap → Prop) (H : Heap) : Prop :=
  nz x0 (fun a1 =>
  ld H a1 (fun v2 =>
  dSl v2 (fun p3 r4 r5 =>
  ∃ I6 : List Value → Heap → Prop,
  ∃ I7 : List Value → Heap → Nat,
  (I6 ([Value.slice none 0 0, Value.int IntKind.i64 0]) H) ∧
  ∀ p8 : Option Addr,
  ∀ r9 : Nat,
  ∀ r10 : Nat,
  ∀ n11 : Int,
  ∀ v12 v13 v14 v15 v16 v17 v18 v19 v20 v21 v22 v23 v24 v25 : Value,
  ∀ H26 : Heap,
  (I6 ([Value.slice p8 r9 r10, Value.int IntKind.i64 n11]) H26) →
  sB (decide (n11 < (↑r4 : Int))) (jn (α := VFH 1) (fun v28 H29 =>
  ∀ v30 v31 v32 v33 v34 v35 v36 v37 v38 v39 v40 v41 : Value,
  dSl v28 (fun p42 r43 r44 =>
  wr IntKind.i64 (n11 + 1) (fun n45 =>
  (I6 ([Value.slice p42 r43 r44, Value.int IntKind.i64 n45]) H29) ∧
  (I7 [Value.slice p42 r43 r44, Value.int IntKind.i64 n45] H29) < (I7 [Value.slice p8 r9 r10, Value.int IntKind.i64 n11] H26)))) (fun k46 =>
  nz p3 (fun a47 =>
  ask ((0 : Int) ≤ n11 ∧ n11 < (↑r4 : Int)) (ld H26 (Addr.add a47 (Int.toNat n11 * 5)) (fun v48 =>
  ld H26 (Addr.add (Addr.add a47 (Int.toNat n11 * 5)) 1) (fun v49 =>
  ld H26 (Addr.add (Addr.add a47 (Int.toNat n11 * 5)) 2) (fun v50 =>
  ld H26 (Addr.add (Addr.add a47 (Int.toNat n11 * 5)) 3) (fun v51 =>
  ld H26 (Addr.add (Addr.add a47 (Int.toNat n11 * 5)) 4) (fun v52 =>
  al H26 (Obj.cells #[Value.int IntKind.i64 0, Value.int IntKind.i64 0, Value.int IntKind.i64 0, Value.slice none 0 0, Value.slice none 0 0] 194) (fun r53 H54 =>
  st H54 (Addr.mk r53 0 none) v48 (fun H55 =>
  st H55 (Addr.mk r53 1 none) v49 (fun H56 =>
  st H56 (Addr.mk r53 2 none) v50 (fun H57 =>
  st H57 (Addr.mk r53 3 none) v51 (fun H58 =>
  st H58 (Addr.mk r53 4 none) v52 (fun H59 =>
  ld H59 (Addr.mk r53 1 none) (fun v60 =>
  dInt IntKind.i64 v60 (fun n61 =>
  sB (n61 == x1) (ld H59 (Addr.mk r53 0 none) (fun v62 =>
  dInt IntKind.i64 v62 (fun n63 =>
  al H59 (Obj.cells #[Value.int IntKind.i64 n63] 3) (fun r64 H65 =>
  semW Tryz.prog (Builtin.append_ #[73, 73] 73 #[Value.slice p8 r9 r10, Value.slice (some (Addr.mk r64 0 none)) 1 1]) (pnR R) H65 (fun v68 H69 =>
  dSl v68 (fun p70 r71 r72 =>
  k46 (Value.slice p70 r71 r72) H69)))))) (k46 (Value.slice p8 r9 r10) H59)))))))))))))))))) (R (Ending.returned (Value.slice p8 r9 r10)) H26))))
theorem F257_eq (x0 : Option Addr) (x1 : Int) (R : Ending → Heap → Prop) (H : Heap) : F257 x0 x1 R H = vc Tryz.prog (codeOf Tryz.f257) (.node none .leaf (.node none .leaf (.node none (.node none .leaf (.node none (.node (some ⟨[(5, 73), (13, 3)], [7, 14, 15, 16, 17, 18, 19, 20, 21, 22, 23, 24, 25, 26]⟩) (.node none .leaf (.node none .leaf (.node (some ⟨[(5, 73)], [7, 15, 16, 17, 18, 19, 20, 21, 22, 23, 24, 25]⟩) .leaf .leaf))) .leaf) .leaf)) .leaf))) (postV Tryz.prog Tryz.f257 R) ⟨#[Value.pointer x0, Value.int IntKind.i64 x1] ++ Array.replicate (Tryz.f257.ntmps - 2) undef, []⟩ H := by kernel_rfl
theorem F257_calls {R : Ending → Heap → Prop} {H : Heap} (x0 : Option Addr) (x1 : Int) (h : F257 x0 x1 R H) : HCalls Tryz.prog 257 #[Value.pointer x0, Value.int IntKind.i64 x1] H R :=
  calls_by (F := F257 x0 x1 R H) (.node none .leaf (.node none .leaf (.node none (.node none .leaf (.node none (.node (some ⟨[(5, 73), (13, 3)], [7, 14, 15, 16, 17, 18, 19, 20, 21, 22, 23, 24, 25, 26]⟩) (.node none .leaf (.node none .leaf (.node (some ⟨[(5, 73)], [7, 15, 16, 17, 18, 19, 20, 21, 22, 23, 24, 25]⟩) .leaf .leaf))) .leaf) .leaf)) .leaf))) Tryz.func257 rfl (F257_eq x0 x1 R H) h
/-- maps.Keys[map[int]bollard/api.Patch,int,bollard/api.Patch]$1 -/
def F259 (x0g : Nat) (x0f : Array Value) (x0c : Array Value) (f0 : Addr) (R : Ending → Heap → Prop) (H : Heap) : Prop :=
  ld H f0 (fun v1 =>
  dMap v1 (fun p2 =>
  semW Tryz.prog (Instr.range 190 (Value.map p2)) (pnR R) H (fun v5 H6 =>
  ∃ I7 : List Value → Heap → Prop,
  ∃ I8 : List Value → Heap → Nat,
  (I7 [] H6) ∧
  ∀ v9 v10 v11 v12 v13 v14 v15 v16 v17 : Value,
  ∀ H18 : Heap,
  (I7 [] H18) →
  semW Tryz.prog (Instr.next v5 false 0) (pnR R) H18 (fun v22 H23 =>
  dNx v22 (R (Ending.returned (Value.tuple #[])) H23) (fun v24 v25 =>
  semW Tryz.prog (Instr.entry v5) (pnR R) H23 (fun v28 H29 =>
  dT 2 v28 (fun v30 v31 =>
  dInt IntKind.i64 v30 (fun n32 =>
  gB (plainFn Tryz.prog x0g) (HCalls Tryz.prog x0g (argsOf x0f [Value.int IntKind.i64 n32] x0c) H29 (Sp.retK (fun v33 H34 =>
  dBl v33 (fun b35 =>
  sB (!b35) (R (Ending.returned (Value.tuple #[])) H34) ((I7 [] H34) ∧
  (I8 [] H34) < (I8 [] H18)))) (pnR R)))))))))))
theorem F259_eq (x0g : Nat) (x0f : Array Value) (x0c : Array Value) (f0 : Addr) (R : Ending → Heap → Prop) (H : Heap) : F259 x0g x0f x0c f0 R H = vc Tryz.prog (codeOf Tryz.f259) (.node none .leaf (.node none (.node (some ⟨[], [3, 6, 7, 8, 9, 10, 11, 12, 13]⟩) .leaf .leaf) .leaf)) (postV Tryz.prog Tryz.f259 R) ⟨#[Value.func (Fn.func x0g) x0f x0c, Value.pointer (some f0)] ++ Array.replicate (Tryz.f259.ntmps - 2) undef, []⟩ H := by kernel_rfl
theorem F259_calls {R : Ending → Heap → Prop} {H : Heap} (x0g : Nat) (x0f : Array Value) (x0c : Array Value) (f0 : Addr) (h : F259 x0g x0f x0c f0 R H) : HCalls Tryz.prog 259 #[Value.func (Fn.func x0g) x0f x0c, Value.pointer (some f0)] H R :=
  calls_by (F := F259 x0g x0f x0c f0 R H) (.node none .leaf (.node none (.node (some ⟨[], [3, 6, 7, 8, 9, 10, 11, 12, 13]⟩) .leaf .leaf) .leaf)) Tryz.func259 rfl (F259_eq x0g x0f x0c f0 R H) h
/-- (*bollard/cache.Cache).victim -/
def F265 (x0 : Option Addr) (R : Ending → Heap → Prop) (H : Heap) : Prop :=
  HCalls Tryz.prog 273 #[Value.pointer x0] H (Sp.retK (fun v1 H2 =>
  dSl v1 (fun p3 r4 r5 =>
  ∃ I6 : List Value → Heap → Prop,
  ∃ I7 : List Value → Heap → Nat,
  (I6 ([Value.int IntKind.i64 0]) H2) ∧
  ∀ n8 : Int,
  ∀ v9 v10 v11 v12 v13 v14 v15 v16 v17 v18 v19 v20 v21 v22 v23 v24 v25 v26 : Value,
  ∀ H27 : Heap,
  (I6 ([Value.int IntKind.i64 n8]) H27) →
  sB (decide (n8 < (↑r4 : Int))) (nz p3 (fun a29 =>
  ask ((0 : Int) ≤ n8 ∧ n8 < (↑r4 : Int)) (ld H27 (Addr.add a29 (Int.toNat n8 * 1)) (fun v30 =>
  dInt IntKind.i64 v30 (fun n31 =>
  nz x0 (fun a32 =>
  ld H27 (Addr.add a32 2) (fun v33 =>
  dMap v33 (fun p34 =>
  semW Tryz.prog (Instr.lookup 201 (Value.map p34) (Value.int IntKind.i64 n31) false) (pnR R) H27 (fun v37 H38 =>
  dPtr v37 (fun p39 =>
  nz p39 (fun a40 =>
  ld H38 (Addr.add a40 1) (fun v41 =>
  dInt IntKind.i64 v41 (fun n42 =>
  sB (n42 == 0) (R (Ending.returned (Value.tuple #[Value.int IntKind.i64 n31, Value.bool true])) H38) (wr IntKind.i64 (n8 + 1) (fun n43 =>
  (I6 ([Value.int IntKind.i64 n43]) H38) ∧
  (I7 [Value.int IntKind.i64 n43] H38) < (I7 [Value.int IntKind.i64 n8] H27)))))))))))))))) (R (Ending.returned (Value.tuple #[Value.int IntKind.i64 0, Value.bool false])) H27))) (pnR R))
theorem F265_eq (x0 : Option Addr) (R : Ending → Heap → Prop) (H : Heap) : F265 x0 R H = vc Tryz.prog (codeOf Tryz.f265) (.node none .leaf (.node none (.node none .leaf (.node none (.node (some ⟨[(9, 3)], [2, 3, 5, 10, 11, 12, 13, 14, 15, 16, 17, 18, 19, 20, 21, 22, 23, 24]⟩) .leaf .leaf) .leaf)) .leaf)) (postV Tryz.prog Tryz.f265 R) ⟨#[Value.pointer x0] ++ Array.replicate (Tryz.f265.ntmps - 1) undef, []⟩ H := by kernel_rfl
theorem F265_calls {R : Ending → Heap → Prop} {H : Heap} (x0 : Option Addr) (h : F265 x0 R H) : HCalls Tryz.prog 265 #[Value.pointer x0] H R :=
  calls_by (F := F265 x0 R H) (.node none .leaf (.node none (.node none .leaf (.node none (.node (some ⟨[(9, 3)], [2, 3, 5, 10, 11, 12, 13, 14, 15, 16, 17, 18, 19, 20, 21, 22, 23, 24]⟩) .leaf .leaf) .leaf)) .leaf)) Tryz.func265 rfl (F265_eq x0 R H) h
/-- (*bollard/disk.Disk).Read -/
def F266 (x0 : Option Addr) (x1 : Int) (R : Ending → Heap → Prop) (H : Heap) : Prop :=
  HCalls Tryz.prog 193 #[Value.pointer x0, Value.int IntKind.i64 x1] H (Sp.retK (fun v1 H2 =>
  dInt IntKind.i64 v1 (fun n3 =>
  sB (n3 != 0) (R (Ending.returned (Value.tuple #[Value.slice none 0 0, Value.int IntKind.i64 n3])) H2) (nz x0 (fun a4 =>
  ld H2 (Addr.add a4 2) (fun v5 =>
  dMap v5 (fun p6 =>
  semW Tryz.prog (Instr.lookup 131 (Value.map p6) (Value.int IntKind.i64 x1) false) (pnR R) H2 (fun v9 H10 =>
  dInt IntKind.i64 v9 (fun n11 =>
  sB (decide (n11 > 0)) (nz x0 (fun a12 =>
  ld H10 (Addr.add a12 2) (fun v13 =>
  dMap v13 (fun p14 =>
  semW Tryz.prog (Instr.lookup 131 (Value.map p14) (Value.int IntKind.i64 x1) false) (pnR R) H10 (fun v17 H18 =>
  dInt IntKind.i64 v17 (fun n19 =>
  wr IntKind.i64 (n19 - 1) (fun n20 =>
  semW Tryz.prog (Instr.mapUpdate 131 (Value.map p14) (Value.int IntKind.i64 x1) (Value.int IntKind.i64 n20)) (pnR R) H18 (fun x23 H24 =>
  R (Ending.returned (Value.tuple #[Value.slice none 0 0, Value.int IntKind.i64 4])) H24)))))))) (nz x0 (fun a25 =>
  ld H10 a25 (fun v26 =>
  dSl v26 (fun p27 r28 r29 =>
  nz p27 (fun a30 =>
  ask ((0 : Int) ≤ x1 ∧ x1 < (↑r28 : Int)) (ld H10 (Addr.add a30 (Int.toNat x1 * 1)) (fun v31 =>
  dSl v31 (fun p32 r33 r34 =>
  HCalls Tryz.prog 48 #[Value.slice p32 r33 r34] H10 (Sp.retK (fun v35 H36 =>
  dSl v35 (fun p37 r38 r39 =>
  R (Ending.returned (Value.tuple #[Value.slice p37 r38 r39, Value.int IntKind.i64 0])) H36)) (pnR R)))))))))))))))))) (pnR R))
theorem F266_eq (x0 : Option Addr) (x1 : Int) (R : Ending → Heap → Prop) (H : Heap) : F266 x0 x1 R H = vc Tryz.prog (codeOf Tryz.f266) .leaf (postV Tryz.prog Tryz.f266 R) ⟨#[Value.pointer x0, Value.int IntKind.i64 x1] ++ Array.replicate (Tryz.f266.ntmps - 2) undef, []⟩ H := by kernel_rfl
theorem F266_calls {R : Ending → Heap → Prop} {H : Heap} (x0 : Option Addr) (x1 : Int) (h : F266 x0 x1 R H) : HCalls Tryz.prog 266 #[Value.pointer x0, Value.int IntKind.i64 x1] H R :=
  calls_by (F := F266 x0 x1 R H) .leaf Tryz.func266 rfl (F266_eq x0 x1 R H) h
/-- (*bollard/cache.Cache).Held -/
def F273 (x0 : Option Addr) (R : Ending → Heap → Prop) (H : Heap) : Prop :=
  al H (Obj.cells #[Value.pointer x0] 50) (fun r1 H2 =>
  ld H2 (Addr.mk r1 0 none) (fun v3 =>
  dPtr v3 (fun p4 =>
  sB (Option.isNone p4) (R (Ending.returned (Value.slice none 0 0)) H2) (ld H2 (Addr.mk r1 0 none) (fun v5 =>
  dPtr v5 (fun p6 =>
  nz p6 (fun a7 =>
  ld H2 (Addr.add a7 2) (fun v8 =>
  dMap v8 (fun p9 =>
  HCalls Tryz.prog 276 #[Value.map p9] H2 (Sp.retK (fun v10 H11 =>
  HCalls Tryz.prog 275 #[v10, Value.func (Fn.func 277) #[] #[Value.pointer (some (Addr.mk r1 0 none))]] H11 (Sp.retK (fun v12 H13 =>
  dSl v12 (fun p14 r15 r16 =>
  R (Ending.returned (Value.slice p14 r15 r16)) H13)) (pnR R))) (pnR R)))))))))))
theorem F273_eq (x0 : Option Addr) (R : Ending → Heap → Prop) (H : Heap) : F273 x0 R H = vc Tryz.prog (codeOf Tryz.f273) .leaf (postV Tryz.prog Tryz.f273 R) ⟨#[Value.pointer x0] ++ Array.replicate (Tryz.f273.ntmps - 1) undef, []⟩ H := by kernel_rfl
theorem F273_calls {R : Ending → Heap → Prop} {H : Heap} (x0 : Option Addr) (h : F273 x0 R H) : HCalls Tryz.prog 273 #[Value.pointer x0] H R :=
  calls_by (F := F273 x0 R H) .leaf Tryz.func273 rfl (F273_eq x0 R H) h
/-- slices.SortedFunc[int] -/
def F275 (x0g : Nat) (x0f : Array Value) (x0c : Array Value) (x1g : Nat) (x1f : Array Value) (x1c : Array Value) (R : Ending → Heap → Prop) (H : Heap) : Prop :=
  HCalls Tryz.prog 216 #[Value.func (Fn.func x0g) x0f x0c] H (Sp.retK (fun v1 H2 =>
  dSl v1 (fun p3 r4 r5 =>
  HCalls Tryz.prog 278 #[Value.slice p3 r4 r5, Value.func (Fn.func x1g) x1f x1c] H2 (Sp.retK (fun v6 H7 =>
  R (Ending.returned (Value.slice p3 r4 r5)) H7) (pnR R)))) (pnR R))
theorem F275_eq (x0g : Nat) (x0f : Array Value) (x0c : Array Value) (x1g : Nat) (x1f : Array Value) (x1c : Array Value) (R : Ending → Heap → Prop) (H : Heap) : F275 x0g x0f x0c x1g x1f x1c R H = vc Tryz.prog (codeOf Tryz.f275) .leaf (postV Tryz.prog Tryz.f275 R) ⟨#[Value.func (Fn.func x0g) x0f x0c, Value.func (Fn.func x1g) x1f x1c] ++ Array.replicate (Tryz.f275.ntmps - 2) undef, []⟩ H := by kernel_rfl
theorem F275_calls {R : Ending → Heap → Prop} {H : Heap} (x0g : Nat) (x0f : Array Value) (x0c : Array Value) (x1g : Nat) (x1f : Array Value) (x1c : Array Value) (h : F275 x0g x0f x0c x1g x1f x1c R H) : HCalls Tryz.prog 275 #[Value.func (Fn.func x0g) x0f x0c, Value.func (Fn.func x1g) x1f x1c] H R :=
  calls_by (F := F275 x0g x0f x0c x1g x1f x1c R H) .leaf Tryz.func275 rfl (F275_eq x0g x0f x0c x1g x1f x1c R H) h
/-- maps.Keys[map[int]*bollard/cache.buffer,int,*bollard/cache.buffer] -/
def F276 (x0 : Option Nat) (R : Ending → Heap → Prop) (H : Heap) : Prop :=
  al H (Obj.cells #[Value.map x0] 201) (fun r1 H2 =>
  R (Ending.returned (Value.func (Fn.func 279) #[] #[Value.pointer (some (Addr.mk r1 0 none))])) H2)
theorem F276_eq (x0 : Option Nat) (R : Ending → Heap → Prop) (H : Heap) : F276 x0 R H = vc Tryz.prog (codeOf Tryz.f276) .leaf (postV Tryz.prog Tryz.f276 R) ⟨#[Value.map x0] ++ Array.replicate (Tryz.f276.ntmps - 1) undef, []⟩ H := by kernel_rfl
theorem F276_calls {R : Ending → Heap → Prop} {H : Heap} (x0 : Option Nat) (h : F276 x0 R H) : HCalls Tryz.prog 276 #[Value.map x0] H R :=
  calls_by (F := F276 x0 R H) .leaf Tryz.func276 rfl (F276_eq x0 R H) h
/-- (*bollard/cache.Cache).Held$1 -/
def F277 (x0 : Int) (x1 : Int) (f0 : Addr) (R : Ending → Heap → Prop) (H : Heap) : Prop :=
  ld H f0 (fun v1 =>
  dPtr v1 (fun p2 =>
  nz p2 (fun a3 =>
  ld H (Addr.add a3 2) (fun v4 =>
  dMap v4 (fun p5 =>
  ld H f0 (fun v6 =>
  dPtr v6 (fun p7 =>
  nz p7 (fun a8 =>
  ld H (Addr.add a8 2) (fun v9 =>
  dMap v9 (fun p10 =>
  (semW Tryz.prog (Instr.lookup 201 (Value.map p5) (Value.int IntKind.i64 x0) false) nopR H (fun v13 H14 =>
  dPtr v13 (fun p15 =>
  (ld H14 (Addr.add a8 2) (fun v16 =>
  dMap v16 (fun p17 =>
  (Value.map p17) = (Value.map p10)))) ∧
  (ld H14 f0 (fun v18 =>
  dPtr v18 (fun p19 =>
  (Value.pointer p19) = (Value.pointer p7)))) ∧
  nz p15 (fun a20 =>
  ld H14 (Addr.add a20 2) (fun v21 =>
  dInt IntKind.i64 v21 (fun n22 =>
  semW Tryz.prog (Instr.lookup 201 (Value.map p10) (Value.int IntKind.i64 x1) false) nopR H14 (fun v25 H26 =>
  dPtr v25 (fun p27 =>
  (ld H26 (Addr.add a20 2) (fun v28 =>
  dInt IntKind.i64 v28 (fun n29 =>
  (Value.int IntKind.i64 n29) = (Value.int IntKind.i64 n22)))) ∧
  nz p27 (fun a30 =>
  ld H26 (Addr.add a30 2) (fun v31 =>
  dInt IntKind.i64 v31 (fun n32 =>
  wr IntKind.i64 (n22 - n32) (fun n33 =>
  R (Ending.returned (Value.int IntKind.i64 n33)) H26)))))))))))) ∧
  semW Tryz.prog (Instr.lookup 201 (Value.map p10) (Value.int IntKind.i64 x1) false) nopR H (fun v36 H37 =>
  dPtr v36 (fun p38 =>
  (ld H37 (Addr.add a3 2) (fun v39 =>
  dMap v39 (fun p40 =>
  (Value.map p40) = (Value.map p5)))) ∧
  (ld H37 f0 (fun v41 =>
  dPtr v41 (fun p42 =>
  (Value.pointer p42) = (Value.pointer p2)))) ∧
  nz p38 (fun a43 =>
  ld H37 (Addr.add a43 2) (fun v44 =>
  dInt IntKind.i64 v44 (fun n45 =>
  semW Tryz.prog (Instr.lookup 201 (Value.map p5) (Value.int IntKind.i64 x0) false) nopR H37 (fun v48 H49 =>
  dPtr v48 (fun p50 =>
  (ld H49 (Addr.add a43 2) (fun v51 =>
  dInt IntKind.i64 v51 (fun n52 =>
  (Value.int IntKind.i64 n52) = (Value.int IntKind.i64 n45)))) ∧
  nz p50 (fun a53 =>
  ld H49 (Addr.add a53 2) (fun v54 =>
  dInt IntKind.i64 v54 (fun n55 =>
  wr IntKind.i64 (n55 - n45) (fun n56 =>
  R (Ending.returned (Value.int IntKind.i64 n56)) H49)))))))))))))))))))))
theorem F277_eq (x0 : Int) (x1 : Int) (f0 : Addr) (R : Ending → Heap → Prop) (H : Heap) : F277 x0 x1 f0 R H = vc Tryz.prog (codeOf Tryz.f277) .leaf (postV Tryz.prog Tryz.f277 R) ⟨#[Value.int IntKind.i64 x0, Value.int IntKind.i64 x1, Value.pointer (some f0)] ++ Array.replicate (Tryz.f277.ntmps - 3) undef, []⟩ H := by kernel_rfl
theorem F277_calls {R : Ending → Heap → Prop} {H : Heap} (x0 : Int) (x1 : Int) (f0 : Addr) (h : F277 x0 x1 f0 R H) : HCalls Tryz.prog 277 #[Value.int IntKind.i64 x0, Value.int IntKind.i64 x1, Value.pointer (some f0)] H R :=
  calls_by (F := F277 x0 x1 f0 R H) .leaf Tryz.func277 rfl (F277_eq x0 x1 f0 R H) h
/-- maps.Keys[map[int]*bollard/cache.buffer,int,*bollard/cache.buffer]$1 -/
def F279 (x0g : Nat) (x0f : Array Value) (x0c : Array Value) (f0 : Addr) (R : Ending → Heap → Prop) (H : Heap) : Prop :=
  ld H f0 (fun v1 =>
  dMap v1 (fun p2 =>
  semW Tryz.prog (Instr.range 201 (Value.map p2)) (pnR R) H (fun v5 H6 =>
  ∃ I7 : List Value → Heap → Prop,
  ∃ I8 : List Value → Heap → Nat,
  (I7 [] H6) ∧
  ∀ v9 v10 v11 v12 v13 v14 v15 v16 v17 : Value,
  ∀ H18 : Heap,
  (I7 [] H18) →
  semW Tryz.prog (Instr.next v5 false 0) (pnR R) H18 (fun v22 H23 =>
  dNx v22 (R (Ending.returned (Value.tuple #[])) H23) (fun v24 v25 =>
  semW Tryz.prog (Instr.entry v5) (pnR R) H23 (fun v28 H29 =>
  dT 2 v28 (fun v30 v31 =>
  dInt IntKind.i64 v30 (fun n32 =>
  gB (plainFn Tryz.prog x0g) (HCalls Tryz.prog x0g (argsOf x0f [Value.int IntKind.i64 n32] x0c) H29 (Sp.retK (fun v33 H34 =>
  dBl v33 (fun b35 =>
  sB (!b35) (R (Ending.returned (Value.tuple #[])) H34) ((I7 [] H34) ∧
  (I8 [] H34) < (I8 [] H18)))) (pnR R)))))))))))
theorem F279_eq (x0g : Nat) (x0f : Array Value) (x0c : Array Value) (f0 : Addr) (R : Ending → Heap → Prop) (H : Heap) : F279 x0g x0f x0c f0 R H = vc Tryz.prog (codeOf Tryz.f279) (.node none .leaf (.node none (.node (some ⟨[], [3, 6, 7, 8, 9, 10, 11, 12, 13]⟩) .leaf .leaf) .leaf)) (postV Tryz.prog Tryz.f279 R) ⟨#[Value.func (Fn.func x0g) x0f x0c, Value.pointer (some f0)] ++ Array.replicate (Tryz.f279.ntmps - 2) undef, []⟩ H := by kernel_rfl
theorem F279_calls {R : Ending → Heap → Prop} {H : Heap} (x0g : Nat) (x0f : Array Value) (x0c : Array Value) (f0 : Addr) (h : F279 x0g x0f x0c f0 R H) : HCalls Tryz.prog 279 #[Value.func (Fn.func x0g) x0f x0c, Value.pointer (some f0)] H R :=
  calls_by (F := F279 x0g x0f x0c f0 R H) (.node none .leaf (.node none (.node (some ⟨[], [3, 6, 7, 8, 9, 10, 11, 12, 13]⟩) .leaf .leaf) .leaf)) Tryz.func279 rfl (F279_eq x0g x0f x0c f0 R H) h
end Go.Proofs.YtngploohhmfaiaaGreat.E
