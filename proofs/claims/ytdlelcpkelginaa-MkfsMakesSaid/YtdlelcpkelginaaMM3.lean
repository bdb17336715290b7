/- My own texts, joined. -/
import Derived.KernelRfl
import Derived.Test.YtdlelcpkelginaaProg
import Derived.Test.YtdlelcpkelginaaMM2
/- The functions' forms in the engine's words, printed by my own program. -/
namespace Go.Proofs.Ytdlelcpkelginaa.E
open Go Go.Proofs
set_option linter.unusedVariables false
set_option maxRecDepth 100000
/-- bollard/bollardlaw17.MkfsMakes -/
def F3 (x0_0 : Value) (x0_1 : Value) (x0_2 : Value) (R : Ending → Heap → Prop) (H : Heap) : Prop :=
  al H (Obj.cells #[x0_0, x0_1, x0_2] 23) (fun r1 H2 =>
  ld H2 (Addr.mk r1 0 none) (fun v3 =>
  ld H2 (Addr.mk r1 1 none) (fun v4 =>
  ld H2 (Addr.mk r1 2 none) (fun v5 =>
  HCalls Try.prog 4 #[Value.agg #[v3, v4, v5]] H2 (Sp.retK (fun v6 H7 =>
  dT 2 v6 (fun v8 v9 =>
  dSl v8 (fun p10 r11 r12 =>
  dInt IntKind.i64 v9 (fun n13 =>
  ld H7 (Addr.mk r1 0 none) (fun v14 =>
  ld H7 (Addr.mk r1 1 none) (fun v15 =>
  ld H7 (Addr.mk r1 2 none) (fun v16 =>
  HCalls Try.prog 5 #[Value.agg #[v14, v15, v16]] H7 (Sp.retK (fun v17 H18 =>
  dT 2 v17 (fun v19 v20 =>
  dSl v19 (fun p21 r22 r23 =>
  dInt IntKind.i64 v20 (fun n24 =>
  sB (n13 == n24) (HCalls Try.prog 6 #[Value.slice p10 r11 r12, Value.slice p21 r22 r23] H18 (Sp.retK (fun v25 H26 =>
  dBl v25 (fun b27 =>
  R (Ending.returned (Value.bool b27)) H26)) (pnR R))) (R (Ending.returned (Value.bool false)) H18))))) (pnR R))))))))) (pnR R))))))
theorem F3_eq (x0_0 : Value) (x0_1 : Value) (x0_2 : Value) (R : Ending → Heap → Prop) (H : Heap) : F3 x0_0 x0_1 x0_2 R H = vc Try.prog (codeOf Try.f3) .leaf (postV Try.prog Try.f3 R) ⟨#[Value.agg #[x0_0, x0_1, x0_2]] ++ Array.replicate (Try.f3.ntmps - 1) undef, []⟩ H := by kernel_rfl
theorem F3_calls {R : Ending → Heap → Prop} {H : Heap} (x0_0 : Value) (x0_1 : Value) (x0_2 : Value) (h : F3 x0_0 x0_1 x0_2 R H) : HCalls Try.prog 3 #[Value.agg #[x0_0, x0_1, x0_2]] H R :=
  calls_by (F := F3 x0_0 x0_1 x0_2 R H) .leaf Try.func3 rfl (F3_eq x0_0 x0_1 x0_2 R H) h
/-- bollard/mkfs.Make -/
def F4 (x0_0 : Value) (x0_1 : Value) (x0_2 : Value) (R : Ending → Heap → Prop) (H : Heap) : Prop :=
  al H (Obj.cells #[x0_0, x0_1, x0_2] 23) (fun r1 H2 =>
  ld H2 (Addr.mk r1 0 none) (fun v3 =>
  ld H2 (Addr.mk r1 1 none) (fun v4 =>
  ld H2 (Addr.mk r1 2 none) (fun v5 =>
  HCalls Try.prog 7 #[Value.agg #[v3, v4, v5]] H2 (Sp.retK (fun v6 H7 =>
  dInt IntKind.i64 v6 (fun n8 =>
  sB (n8 != 0) (R (Ending.returned (Value.tuple #[Value.slice none 0 0, Value.int IntKind.i64 n8])) H7) (ld H7 (Addr.mk r1 0 none) (fun v9 =>
  ld H7 (Addr.mk r1 1 none) (fun v10 =>
  ld H7 (Addr.mk r1 2 none) (fun v11 =>
  HCalls Try.prog 8 #[Value.agg #[v9, v10, v11]] H7 (Sp.retK (fun v12 H13 =>
  dInt IntKind.i64 v12 (fun n14 =>
  ask ((0 : Int) ≤ n14 ∧ n14 ≤ n14 ∧ (24 : Int) * n14 ≤ (281474976710656 : Int) ∧ n14 ≤ (9223372036854775807 : Int)) (al H13 (Obj.cells (List.toArray (rowZ [Value.slice none 0 0] (Int.toNat n14))) 32) (fun r15 H16 =>
  ∃ I17 : List Value → Heap → Prop,
  ∃ I18 : List Value → Heap → Nat,
  (I17 ([Value.int IntKind.i64 0]) H16) ∧
  ∀ n19 : Int,
  ∀ v20 v21 v22 v23 v24 v25 v26 v27 : Value,
  ∀ H28 : Heap,
  (I17 ([Value.int IntKind.i64 n19]) H28) →
  sB (decide (n19 < (↑(Int.toNat n14) : Int))) (ask ((0 : Int) ≤ (128 : Int) ∧ (128 : Int) ≤ (128 : Int) ∧ (128 : Int) ≤ (281474976710656 : Int) ∧ (128 : Int) ≤ (9223372036854775807 : Int)) (al H28 (Obj.cells (List.toArray (rowZ [Value.int IntKind.u8 0] (Int.toNat 128))) 5) (fun r30 H31 =>
  ask ((0 : Int) ≤ n19 ∧ n19 < (↑(Int.toNat n14) : Int)) (st H31 (Addr.add (Addr.mk r15 0 none) (Int.toNat n19 * 1)) (Value.slice (some (Addr.mk r30 0 none)) (Int.toNat 128) (Int.toNat 128)) (fun H32 =>
  wr IntKind.i64 (n19 + 1) (fun n33 =>
  (I17 ([Value.int IntKind.i64 n33]) H32) ∧
  (I18 [Value.int IntKind.i64 n33] H32) < (I18 [Value.int IntKind.i64 n19] H28))))))) (ld H28 (Addr.mk r1 0 none) (fun v34 =>
  dInt IntKind.i64 v34 (fun n35 =>
  ∃ I36 : List Value → Heap → Prop,
  ∃ I37 : List Value → Heap → Nat,
  (I36 ([Value.int IntKind.i64 0]) H28) ∧
  ∀ n38 : Int,
  ∀ v39 v40 v41 v42 v43 v44 v45 v46 v47 v48 v49 v50 v51 v52 v53 v54 v55 v56 v57 v58 v59 v60 v61 v62 v63 v64 v65 v66 v67 v68 v69 v70 v71 v72 v73 v74 v75 : Value,
  ∀ H76 : Heap,
  (I36 ([Value.int IntKind.i64 n38]) H76) →
  sB (decide (n38 < n35)) (ld H76 (Addr.mk r1 0 none) (fun v78 =>
  ld H76 (Addr.mk r1 1 none) (fun v79 =>
  ld H76 (Addr.mk r1 2 none) (fun v80 =>
  HCalls Try.prog 9 #[Value.agg #[v78, v79, v80], Value.int IntKind.i64 n38] H76 (Sp.retK (fun v81 H82 =>
  dT 2 v81 (fun v83 v84 =>
  dInt IntKind.i64 v83 (fun n85 =>
  dBl v84 (fun b86 =>
  ld H82 (Addr.mk r1 0 none) (fun v87 =>
  ld H82 (Addr.mk r1 1 none) (fun v88 =>
  ld H82 (Addr.mk r1 2 none) (fun v89 =>
  HCalls Try.prog 10 #[Value.agg #[v87, v88, v89, Value.int IntKind.i64 0]] H82 (Sp.retK (fun v90 H91 =>
  dT 2 v90 (fun v92 v93 =>
  dSl v92 (fun p94 r95 r96 =>
  dInt IntKind.i64 v93 (fun n97 =>
  ask ((0 : Int) ≤ n85 ∧ n85 < (↑(Int.toNat n14) : Int)) (st H91 (Addr.add (Addr.mk r15 0 none) (Int.toNat n85 * 1)) (Value.slice p94 r95 r96) (fun H98 =>
  ld H98 (Addr.mk r1 0 none) (fun v99 =>
  ld H98 (Addr.mk r1 1 none) (fun v100 =>
  ld H98 (Addr.mk r1 2 none) (fun v101 =>
  HCalls Try.prog 11 #[Value.agg #[v99, v100, v101], Value.int IntKind.i64 n38] H98 (Sp.retK (fun v102 H103 =>
  dT 2 v102 (fun v104 v105 =>
  dInt IntKind.i64 v104 (fun n106 =>
  dBl v105 (fun b107 =>
  ld H103 (Addr.mk r1 0 none) (fun v108 =>
  ld H103 (Addr.mk r1 1 none) (fun v109 =>
  ld H103 (Addr.mk r1 2 none) (fun v110 =>
  HCalls Try.prog 13 #[Value.agg #[v108, v109, v110], Value.int IntKind.i64 n38] H103 (Sp.retK (fun v111 H112 =>
  dA 41 v111 (fun v113 v114 v115 v116 v117 v118 v119 v120 v121 v122 v123 v124 v125 v126 v127 v128 v129 v130 v131 v132 v133 v134 v135 v136 v137 v138 v139 v140 v141 v142 v143 v144 v145 v146 v147 v148 v149 v150 v151 v152 v153 =>
  HCalls Try.prog 12 #[Value.agg #[v113, v114, v115, v116, v117, v118, v119, v120, v121, v122, v123, v124, v125, v126, v127, v128, v129, v130, v131, v132, v133, v134, v135, v136, v137, v138, v139, v140, v141, v142, v143, v144, v145, v146, v147, v148, v149, v150, v151, v152, v153]] H112 (Sp.retK (fun v154 H155 =>
  dT 2 v154 (fun v156 v157 =>
  dSl v156 (fun p158 r159 r160 =>
  dInt IntKind.i64 v157 (fun n161 =>
  ask ((0 : Int) ≤ n106 ∧ n106 < (↑(Int.toNat n14) : Int)) (st H155 (Addr.add (Addr.mk r15 0 none) (Int.toNat n106 * 1)) (Value.slice p158 r159 r160) (fun H162 =>
  wr IntKind.i64 (n38 + 1) (fun n163 =>
  (I36 ([Value.int IntKind.i64 n163]) H162) ∧
  (I37 [Value.int IntKind.i64 n163] H162) < (I37 [Value.int IntKind.i64 n38] H76)))))))) (pnR R)))) (pnR R))))))))) (pnR R))))))))))) (pnR R))))))))) (pnR R)))))) (ld H76 (Addr.mk r1 0 none) (fun v174 =>
  ld H76 (Addr.mk r1 1 none) (fun v175 =>
  ld H76 (Addr.mk r1 2 none) (fun v176 =>
  HCalls Try.prog 14 #[Value.agg #[v174, v175, v176], Value.int IntKind.i64 0] H76 (Sp.retK (fun v177 H178 =>
  dT 3 v177 (fun v179 v180 v181 =>
  dInt IntKind.i64 v179 (fun n182 =>
  dInt IntKind.i64 v180 (fun n183 =>
  dBl v181 (fun b184 =>
  HCalls Try.prog 15 #[Value.agg #[Value.int IntKind.i64 2, Value.int IntKind.i64 2, Value.int IntKind.i64 128, Value.int IntKind.i64 n182, Value.int IntKind.i64 0, Value.int IntKind.i64 0, Value.int IntKind.i64 0, Value.int IntKind.i64 0, Value.int IntKind.i64 0]] H178 (Sp.retK (fun v185 H186 =>
  dT 2 v185 (fun v187 v188 =>
  dSl v187 (fun p189 r190 r191 =>
  dInt IntKind.i64 v188 (fun n192 =>
  ld H186 (Addr.mk r1 0 none) (fun v193 =>
  ld H186 (Addr.mk r1 1 none) (fun v194 =>
  ld H186 (Addr.mk r1 2 none) (fun v195 =>
  HCalls Try.prog 16 #[Value.agg #[v193, v194, v195], Value.int IntKind.i64 2] H186 (Sp.retK (fun v196 H197 =>
  dT 3 v196 (fun v198 v199 v200 =>
  dInt IntKind.i64 v198 (fun n201 =>
  dInt IntKind.i64 v199 (fun n202 =>
  dBl v200 (fun b203 =>
  ask ((0 : Int) ≤ n201 ∧ n201 < (↑(Int.toNat n14) : Int)) (ld H197 (Addr.add (Addr.mk r15 0 none) (Int.toNat n201 * 1)) (fun v204 =>
  dSl v204 (fun p205 r206 r207 =>
  ask ((0 : Int) ≤ n202 ∧ n202 ≤ (↑r206 : Int) ∧ (↑r206 : Int) ≤ (↑r207 : Int) ∧ (↑r207 : Int) ≤ (↑r207 : Int)) (semW Try.prog (Builtin.copy_ #[32, 32] 3 #[Value.slice (slO p205 1 n202 (↑r207 : Int)) (Int.toNat (↑r206 : Int) - Int.toNat n202) (Int.toNat (↑r207 : Int) - Int.toNat n202), Value.slice p189 r190 r191]) (pnR R) H197 (fun v210 H211 =>
  dInt IntKind.i64 v210 (fun n212 =>
  al H211 (Obj.cells #[Value.int IntKind.i64 2, Value.string (ByteArray.mk #[UInt8.ofBitVec 46#8]), Value.int IntKind.i64 2, Value.string (ByteArray.mk #[UInt8.ofBitVec 46#8, UInt8.ofBitVec 46#8])] 53) (fun r213 H214 =>
  HCalls Try.prog 17 #[Value.slice (some (Addr.mk r213 0 none)) 2 2] H214 (Sp.retK (fun v215 H216 =>
  dT 2 v215 (fun v217 v218 =>
  dSl v217 (fun p219 r220 r221 =>
  dInt IntKind.i64 v218 (fun n222 =>
  ask ((0 : Int) ≤ n182 ∧ n182 < (↑(Int.toNat n14) : Int)) (st H216 (Addr.add (Addr.mk r15 0 none) (Int.toNat n182 * 1)) (Value.slice p219 r220 r221) (fun H223 =>
  R (Ending.returned (Value.tuple #[Value.slice (some (Addr.mk r15 0 none)) (Int.toNat n14) (Int.toNat n14), Value.int IntKind.i64 0])) H223)))))) (pnR R)))))))))))))) (pnR R))))))))) (pnR R))))))) (pnR R))))))))))))) (pnR R)))))))) (pnR R))))))
theorem F4_eq (x0_0 : Value) (x0_1 : Value) (x0_2 : Value) (R : Ending → Heap → Prop) (H : Heap) : F4 x0_0 x0_1 x0_2 R H = vc Try.prog (codeOf Try.f4) (.node none .leaf (.node none .leaf (.node none .leaf (.node none (.node none .leaf (.node none (.node (some ⟨[(28, 3)], [6, 29, 30, 31, 32, 33, 34, 35]⟩) .leaf .leaf) .leaf)) (.node none (.node none .leaf (.node none (.node (some ⟨[(38, 3)], [7, 8, 9, 39, 40, 41, 42, 43, 44, 45, 46, 47, 48, 49, 50, 51, 52, 53, 54, 55, 56, 57, 58, 59, 60, 61, 62, 63, 64, 65, 66, 67, 68, 69, 70, 71, 72]⟩) .leaf .leaf) .leaf)) .leaf))))) (postV Try.prog Try.f4 R) ⟨#[Value.agg #[x0_0, x0_1, x0_2]] ++ Array.replicate (Try.f4.ntmps - 1) undef, []⟩ H := by kernel_rfl
theorem F4_calls {R : Ending → Heap → Prop} {H : Heap} (x0_0 : Value) (x0_1 : Value) (x0_2 : Value) (h : F4 x0_0 x0_1 x0_2 R H) : HCalls Try.prog 4 #[Value.agg #[x0_0, x0_1, x0_2]] H R :=
  calls_by (F := F4 x0_0 x0_1 x0_2 R H) (.node none .leaf (.node none .leaf (.node none .leaf (.node none (.node none .leaf (.node none (.node (some ⟨[(28, 3)], [6, 29, 30, 31, 32, 33, 34, 35]⟩) .leaf .leaf) .leaf)) (.node none (.node none .leaf (.node none (.node (some ⟨[(38, 3)], [7, 8, 9, 39, 40, 41, 42, 43, 44, 45, 46, 47, 48, 49, 50, 51, 52, 53, 54, 55, 56, 57, 58, 59, 60, 61, 62, 63, 64, 65, 66, 67, 68, 69, 70, 71, 72]⟩) .leaf .leaf) .leaf)) .leaf))))) Try.func4 rfl (F4_eq x0_0 x0_1 x0_2 R H) h
/-- bollard/bollardref17.Make -/
def F5 (x0_0 : Value) (x0_1 : Value) (x0_2 : Value) (R : Ending → Heap → Prop) (H : Heap) : Prop :=
  al H (Obj.cells #[x0_0, x0_1, x0_2] 23) (fun r1 H2 =>
  ld H2 (Addr.mk r1 0 none) (fun v3 =>
  ld H2 (Addr.mk r1 1 none) (fun v4 =>
  ld H2 (Addr.mk r1 2 none) (fun v5 =>
  HCalls Try.prog 18 #[Value.agg #[v3, v4, v5]] H2 (Sp.retK (fun v6 H7 =>
  dInt IntKind.i64 v6 (fun n8 =>
  sB (n8 != 0) (R (Ending.returned (Value.tuple #[Value.slice none 0 0, Value.int IntKind.i64 170])) H7) (ld H7 (Addr.mk r1 0 none) (fun v9 =>
  dInt IntKind.i64 v9 (fun n10 =>
  ∃ I11 : List Value → Heap → Prop,
  ∃ I12 : List Value → Heap → Nat,
  (I11 ([Value.slice none 0 0, Value.int IntKind.i64 0]) H7) ∧
  ∀ p13 : Option Addr,
  ∀ r14 : Nat,
  ∀ r15 : Nat,
  ∀ n16 : Int,
  ∀ v17 v18 v19 v20 v21 v22 v23 v24 v25 : Value,
  ∀ H26 : Heap,
  (I11 ([Value.slice p13 r14 r15, Value.int IntKind.i64 n16]) H26) →
  sB (decide (n16 < n10)) (ld H26 (Addr.mk r1 0 none) (fun v28 =>
  ld H26 (Addr.mk r1 1 none) (fun v29 =>
  ld H26 (Addr.mk r1 2 none) (fun v30 =>
  HCalls Try.prog 19 #[Value.agg #[v28, v29, v30], Value.int IntKind.i64 n16] H26 (Sp.retK (fun v31 H32 =>
  dSl v31 (fun p33 r34 r35 =>
  semW Try.prog (Builtin.append_ #[24, 24] 24 #[Value.slice p13 r14 r15, Value.slice p33 r34 r35]) (pnR R) H32 (fun v38 H39 =>
  dSl v38 (fun p40 r41 r42 =>
  wr IntKind.i64 (n16 + 1) (fun n43 =>
  (I11 ([Value.slice p40 r41 r42, Value.int IntKind.i64 n43]) H39) ∧
  (I12 [Value.slice p40 r41 r42, Value.int IntKind.i64 n43] H39) < (I12 [Value.slice p13 r14 r15, Value.int IntKind.i64 n16] H26)))))) (pnR R)))))) (ld H26 (Addr.mk r1 2 none) (fun v46 =>
  dInt IntKind.i64 v46 (fun n47 =>
  ask ((4 : Int) ≠ (0 : Int)) (wr IntKind.i64 (Int.tdiv n47 4) (fun n48 =>
  wr IntKind.i64 (2 + n48) (fun n49 =>
  HCalls Try.prog 20 #[Value.agg #[Value.int IntKind.i64 2, Value.int IntKind.i64 2, Value.int IntKind.i64 128, Value.int IntKind.i64 n49, Value.int IntKind.i64 0, Value.int IntKind.i64 0, Value.int IntKind.i64 0, Value.int IntKind.i64 0, Value.int IntKind.i64 0]] H26 (Sp.retK (fun v50 H51 =>
  dT 2 v50 (fun v52 v53 =>
  dSl v52 (fun p54 r55 r56 =>
  dInt IntKind.i64 v53 (fun n57 =>
  nz p13 (fun a58 =>
  ask ((0 : Int) ≤ (2 : Int) ∧ (2 : Int) < (↑r14 : Int)) (ld H51 (Addr.add a58 (Int.toNat 2 * 1)) (fun v59 =>
  dSl v59 (fun p60 r61 r62 =>
  ask ((0 : Int) ≤ (64 : Int) ∧ (64 : Int) ≤ (↑r61 : Int) ∧ (↑r61 : Int) ≤ (↑r62 : Int) ∧ (↑r62 : Int) ≤ (↑r62 : Int)) (semW Try.prog (Builtin.copy_ #[32, 32] 3 #[Value.slice (slO p60 1 64 (↑r62 : Int)) (Int.toNat (↑r61 : Int) - Int.toNat 64) (Int.toNat (↑r62 : Int) - Int.toNat 64), Value.slice p54 r55 r56]) (pnR R) H51 (fun v65 H66 =>
  dInt IntKind.i64 v65 (fun n67 =>
  al H66 (Obj.cells #[Value.int IntKind.i64 2, Value.string (ByteArray.mk #[UInt8.ofBitVec 46#8]), Value.int IntKind.i64 2, Value.string (ByteArray.mk #[UInt8.ofBitVec 46#8, UInt8.ofBitVec 46#8])] 53) (fun r68 H69 =>
  HCalls Try.prog 21 #[Value.slice (some (Addr.mk r68 0 none)) 2 2] H69 (Sp.retK (fun v70 H71 =>
  dT 2 v70 (fun v72 v73 =>
  dSl v72 (fun p74 r75 r76 =>
  dInt IntKind.i64 v73 (fun n77 =>
  nz p13 (fun a78 =>
  ask ((0 : Int) ≤ n49 ∧ n49 < (↑r14 : Int)) (st H71 (Addr.add a78 (Int.toNat n49 * 1)) (Value.slice p74 r75 r76) (fun H79 =>
  R (Ending.returned (Value.tuple #[Value.slice p13 r14 r15, Value.int IntKind.i64 0])) H79))))))) (pnR R)))))))))))))) (pnR R))))))))))))) (pnR R))))))
theorem F5_eq (x0_0 : Value) (x0_1 : Value) (x0_2 : Value) (R : Ending → Heap → Prop) (H : Heap) : F5 x0_0 x0_1 x0_2 R H = vc Try.prog (codeOf Try.f5) (.node none .leaf (.node none .leaf (.node none .leaf (.node none (.node none .leaf (.node none (.node (some ⟨[(4, 24), (16, 3)], [5, 17, 18, 19, 20, 21, 22, 23, 24]⟩) .leaf .leaf) .leaf)) .leaf)))) (postV Try.prog Try.f5 R) ⟨#[Value.agg #[x0_0, x0_1, x0_2]] ++ Array.replicate (Try.f5.ntmps - 1) undef, []⟩ H := by kernel_rfl
theorem F5_calls {R : Ending → Heap → Prop} {H : Heap} (x0_0 : Value) (x0_1 : Value) (x0_2 : Value) (h : F5 x0_0 x0_1 x0_2 R H) : HCalls Try.prog 5 #[Value.agg #[x0_0, x0_1, x0_2]] H R :=
  calls_by (F := F5 x0_0 x0_1 x0_2 R H) (.node none .leaf (.node none .leaf (.node none .leaf (.node none (.node none .leaf (.node none (.node (some ⟨[(4, 24), (16, 3)], [5, 17, 18, 19, 20, 21, 22, 23, 24]⟩) .leaf .leaf) .leaf)) .leaf)))) Try.func5 rfl (F5_eq x0_0 x0_1 x0_2 R H) h
/-- bollard/bollardplain.SameImage -/
def F6 (x0a : Option Addr) (x0n : Nat) (x0c : Nat) (x1a : Option Addr) (x1n : Nat) (x1c : Nat) (R : Ending → Heap → Prop) (H : Heap) : Prop :=
  HCalls Try.prog 22 #[Value.slice x0a x0n x0c, Value.slice x1a x1n x1c, Value.func (Fn.func 23) #[] #[]] H (Sp.retK (fun v1 H2 =>
  dBl v1 (fun b3 =>
  R (Ending.returned (Value.bool b3)) H2)) (pnR R))
theorem F6_eq (x0a : Option Addr) (x0n : Nat) (x0c : Nat) (x1a : Option Addr) (x1n : Nat) (x1c : Nat) (R : Ending → Heap → Prop) (H : Heap) : F6 x0a x0n x0c x1a x1n x1c R H = vc Try.prog (codeOf Try.f6) .leaf (postV Try.prog Try.f6 R) ⟨#[Value.slice x0a x0n x0c, Value.slice x1a x1n x1c] ++ Array.replicate (Try.f6.ntmps - 2) undef, []⟩ H := by kernel_rfl
theorem F6_calls {R : Ending → Heap → Prop} {H : Heap} (x0a : Option Addr) (x0n : Nat) (x0c : Nat) (x1a : Option Addr) (x1n : Nat) (x1c : Nat) (h : F6 x0a x0n x0c x1a x1n x1c R H) : HCalls Try.prog 6 #[Value.slice x0a x0n x0c, Value.slice x1a x1n x1c] H R :=
  calls_by (F := F6 x0a x0n x0c x1a x1n x1c R H) .leaf Try.func6 rfl (F6_eq x0a x0n x0c x1a x1n x1c R H) h
/-- bollard/geom.Can -/
def F7 (x0_0 : Value) (x0_1 : Value) (x0_2 : Value) (R : Ending → Heap → Prop) (H : Heap) : Prop :=
  al H (Obj.cells #[x0_0, x0_1, x0_2] 23) (fun r1 H2 =>
  jn (α := VFH 1) (fun v3 H4 =>
  ∀ v5 v6 v7 v8 v9 v10 v11 v12 v13 v14 v15 v16 v17 : Value,
  dBl v3 (fun b18 =>
  jn (α := VFH 1) (fun v19 H20 =>
  ∀ v21 v22 v23 v24 v25 v26 v27 v28 v29 v30 v31 v32 v33 v34 v35 : Value,
  dBl v19 (fun b36 =>
  sB b36 (R (Ending.returned (Value.int IntKind.i64 170)) H20) (R (Ending.returned (Value.int IntKind.i64 0)) H20))) (fun k37 =>
  sB (!b18) (k37 (Value.bool true) H4) (ld H4 (Addr.mk r1 2 none) (fun v38 =>
  dInt IntKind.i64 v38 (fun n39 =>
  ask ((4 : Int) ≠ (0 : Int)) (nm (Int.tmod n39 4) (fun n40 =>
  sB (n40 != 0) (k37 (Value.bool true) H4) (ld H4 (Addr.mk r1 1 none) (fun v41 =>
  dInt IntKind.i64 v41 (fun n42 =>
  ld H4 (Addr.mk r1 0 none) (fun v43 =>
  ld H4 (Addr.mk r1 1 none) (fun v44 =>
  ld H4 (Addr.mk r1 2 none) (fun v45 =>
  HCalls Try.prog 25 #[Value.agg #[v43, v44, v45]] H4 (Sp.retK (fun v46 H47 =>
  dInt IntKind.i64 v46 (fun n48 =>
  (ld H47 (Addr.mk r1 1 none) (fun v49 =>
  dInt IntKind.i64 v49 (fun n50 =>
  (Value.int IntKind.i64 n50) = (Value.int IntKind.i64 n42)))) ∧
  wr IntKind.i64 (n48 + 1) (fun n51 =>
  k37 (Value.bool (decide (n42 < n51))) H47))) nopR))))))))))))))) (fun k54 =>
  ld H2 (Addr.mk r1 0 none) (fun v55 =>
  dInt IntKind.i64 v55 (fun n56 =>
  HCalls Try.prog 24 #[Value.int IntKind.i64 n56, Value.int IntKind.i64 1, Value.int IntKind.i64 8] H2 (Sp.retK (fun v57 H58 =>
  dBl v57 (fun b59 =>
  sB b59 (ld H58 (Addr.mk r1 1 none) (fun v60 =>
  dInt IntKind.i64 v60 (fun n61 =>
  HCalls Try.prog 24 #[Value.int IntKind.i64 n61, Value.int IntKind.i64 8, Value.int IntKind.i64 256] H58 (Sp.retK (fun v62 H63 =>
  dBl v62 (fun b64 =>
  sB b64 (ld H63 (Addr.mk r1 2 none) (fun v65 =>
  dInt IntKind.i64 v65 (fun n66 =>
  HCalls Try.prog 24 #[Value.int IntKind.i64 n66, Value.int IntKind.i64 4, Value.int IntKind.i64 64] H63 (Sp.retK (fun v67 H68 =>
  dBl v67 (fun b69 =>
  k54 (Value.bool b69) H68)) (pnR R))))) (k54 (Value.bool false) H63))) (pnR R))))) (k54 (Value.bool false) H58))) (pnR R))))))
theorem F7_eq (x0_0 : Value) (x0_1 : Value) (x0_2 : Value) (R : Ending → Heap → Prop) (H : Heap) : F7 x0_0 x0_1 x0_2 R H = vc Try.prog (codeOf Try.f7) (.node none .leaf (.node (some ⟨[(3, 4)], [4, 5, 6, 7, 8, 9, 10, 11, 12, 13, 14, 15, 16]⟩) .leaf (.node none (.node (some ⟨[(32, 4)], [17, 18, 19, 20, 21, 22, 23, 24, 25, 26, 27, 28, 29, 30, 31]⟩) .leaf .leaf) .leaf))) (postV Try.prog Try.f7 R) ⟨#[Value.agg #[x0_0, x0_1, x0_2]] ++ Array.replicate (Try.f7.ntmps - 1) undef, []⟩ H := by kernel_rfl
theorem F7_calls {R : Ending → Heap → Prop} {H : Heap} (x0_0 : Value) (x0_1 : Value) (x0_2 : Value) (h : F7 x0_0 x0_1 x0_2 R H) : HCalls Try.prog 7 #[Value.agg #[x0_0, x0_1, x0_2]] H R :=
  calls_by (F := F7 x0_0 x0_1 x0_2 R H) (.node none .leaf (.node (some ⟨[(3, 4)], [4, 5, 6, 7, 8, 9, 10, 11, 12, 13, 14, 15, 16]⟩) .leaf (.node none (.node (some ⟨[(32, 4)], [17, 18, 19, 20, 21, 22, 23, 24, 25, 26, 27, 28, 29, 30, 31]⟩) .leaf .leaf) .leaf))) Try.func7 rfl (F7_eq x0_0 x0_1 x0_2 R H) h
/-- bollard/geom.Blocks -/
def F8 (x0_0 : Value) (x0_1 : Value) (x0_2 : Value) (R : Ending → Heap → Prop) (H : Heap) : Prop :=
  al H (Obj.cells #[x0_0, x0_1, x0_2] 23) (fun r1 H2 =>
  ld H2 (Addr.mk r1 0 none) (fun v3 =>
  ld H2 (Addr.mk r1 1 none) (fun v4 =>
  ld H2 (Addr.mk r1 2 none) (fun v5 =>
  ld H2 (Addr.mk r1 1 none) (fun v6 =>
  dInt IntKind.i64 v6 (fun n7 =>
  HCalls Try.prog 26 #[Value.agg #[v3, v4, v5], Value.int IntKind.i64 n7] H2 (Sp.retK (fun v8 H9 =>
  dInt IntKind.i64 v8 (fun n10 =>
  R (Ending.returned (Value.int IntKind.i64 n10)) H9)) (pnR R))))))))
theorem F8_eq (x0_0 : Value) (x0_1 : Value) (x0_2 : Value) (R : Ending → Heap → Prop) (H : Heap) : F8 x0_0 x0_1 x0_2 R H = vc Try.prog (codeOf Try.f8) .leaf (postV Try.prog Try.f8 R) ⟨#[Value.agg #[x0_0, x0_1, x0_2]] ++ Array.replicate (Try.f8.ntmps - 1) undef, []⟩ H := by kernel_rfl
theorem F8_calls {R : Ending → Heap → Prop} {H : Heap} (x0_0 : Value) (x0_1 : Value) (x0_2 : Value) (h : F8 x0_0 x0_1 x0_2 R H) : HCalls Try.prog 8 #[Value.agg #[x0_0, x0_1, x0_2]] H R :=
  calls_by (F := F8 x0_0 x0_1 x0_2 R H) .leaf Try.func8 rfl (F8_eq x0_0 x0_1 x0_2 R H) h
/-- bollard/geom.Super -/
def F9 (x0_0 : Value) (x0_1 : Value) (x0_2 : Value) (x1 : Int) (R : Ending → Heap → Prop) (H : Heap) : Prop :=
  al H (Obj.cells #[x0_0, x0_1, x0_2] 23) (fun r1 H2 =>
  ld H2 (Addr.mk r1 0 none) (fun v3 =>
  ld H2 (Addr.mk r1 1 none) (fun v4 =>
  ld H2 (Addr.mk r1 2 none) (fun v5 =>
  HCalls Try.prog 27 #[Value.agg #[v3, v4, v5], Value.int IntKind.i64 x1, Value.int IntKind.i64 0] H2 (Sp.retK (fun v6 H7 =>
  dT 2 v6 (fun v8 v9 =>
  dInt IntKind.i64 v8 (fun n10 =>
  dBl v9 (fun b11 =>
  R (Ending.returned (Value.tuple #[Value.int IntKind.i64 n10, Value.bool b11])) H7)))) (pnR R))))))
theorem F9_eq (x0_0 : Value) (x0_1 : Value) (x0_2 : Value) (x1 : Int) (R : Ending → Heap → Prop) (H : Heap) : F9 x0_0 x0_1 x0_2 x1 R H = vc Try.prog (codeOf Try.f9) .leaf (postV Try.prog Try.f9 R) ⟨#[Value.agg #[x0_0, x0_1, x0_2], Value.int IntKind.i64 x1] ++ Array.replicate (Try.f9.ntmps - 2) undef, []⟩ H := by kernel_rfl
theorem F9_calls {R : Ending → Heap → Prop} {H : Heap} (x0_0 : Value) (x0_1 : Value) (x0_2 : Value) (x1 : Int) (h : F9 x0_0 x0_1 x0_2 x1 R H) : HCalls Try.prog 9 #[Value.agg #[x0_0, x0_1, x0_2], Value.int IntKind.i64 x1] H R :=
  calls_by (F := F9 x0_0 x0_1 x0_2 x1 R H) .leaf Try.func9 rfl (F9_eq x0_0 x0_1 x0_2 x1 R H) h
/-- bollard/layout.EncodeSuper -/
def F10 (x0_0 : Value) (x0_1 : Value) (x0_2 : Value) (x0_3 : Value) (R : Ending → Heap → Prop) (H : Heap) : Prop :=
  al H (Obj.cells #[x0_0, x0_1, x0_2, x0_3] 38) (fun r1 H2 =>
  ld H2 (Addr.mk r1 0 none) (fun v3 =>
  dInt IntKind.i64 v3 (fun n4 =>
  ld H2 (Addr.mk r1 1 none) (fun v5 =>
  dInt IntKind.i64 v5 (fun n6 =>
  wr IntKind.i64 (n6 - 1) (fun n7 =>
  ld H2 (Addr.mk r1 2 none) (fun v8 =>
  dInt IntKind.i64 v8 (fun n9 =>
  ld H2 (Addr.mk r1 3 none) (fun v10 =>
  dInt IntKind.i64 v10 (fun n11 =>
  al H2 (Obj.cells #[Value.int IntKind.i64 1, Value.int IntKind.i64 255, Value.int IntKind.i64 n4, Value.int IntKind.i64 1, Value.int IntKind.i64 255, Value.int IntKind.i64 n7, Value.int IntKind.i64 1, Value.int IntKind.i64 255, Value.int IntKind.i64 n9, Value.int IntKind.i64 1, Value.int IntKind.i64 0, Value.int IntKind.i64 0, Value.int IntKind.i64 4, Value.int IntKind.i64 4294967295, Value.int IntKind.i64 n11] 62) (fun r12 H13 =>
  jn (α := VFH 1) (fun v14 H15 =>
  ∀ v16 v17 v18 v19 v20 v21 v22 v23 : Value,
  dBl v14 (fun b24 =>
  sB b24 (R (Ending.returned (Value.tuple #[Value.slice none 0 0, Value.int IntKind.i64 1])) H15) (al H15 (Obj.cells #[Value.int IntKind.u8 98, Value.int IntKind.u8 111, Value.int IntKind.u8 108, Value.int IntKind.u8 108] 5) (fun r25 H26 =>
  semW Try.prog (convert 32 32 (Value.slice (some (Addr.mk r25 0 none)) 4 4)) (pnR R) H26 (fun v29 H30 =>
  dSl v29 (fun p31 r32 r33 =>
  HCalls Try.prog 32 #[Value.slice p31 r32 r33, Value.slice (some (Addr.mk r12 0 none)) 5 5] H30 (Sp.retK (fun v34 H35 =>
  dSl v34 (fun p36 r37 r38 =>
  HCalls Try.prog 31 #[Value.slice p36 r37 r38, Value.int IntKind.i64 128] H35 (Sp.retK (fun v39 H40 =>
  dSl v39 (fun p41 r42 r43 =>
  HCalls Try.prog 30 #[Value.slice p41 r42 r43] H40 (Sp.retK (fun v44 H45 =>
  dT 2 v44 (fun v46 v47 =>
  dSl v46 (fun p48 r49 r50 =>
  dInt IntKind.i64 v47 (fun n51 =>
  R (Ending.returned (Value.tuple #[Value.slice p48 r49 r50, Value.int IntKind.i64 n51])) H45)))) (pnR R)))) (pnR R)))) (pnR R)))))))) (fun k58 =>
  ld H13 (Addr.mk r1 0 none) (fun v59 =>
  ld H13 (Addr.mk r1 1 none) (fun v60 =>
  ld H13 (Addr.mk r1 2 none) (fun v61 =>
  HCalls Try.prog 28 #[Value.agg #[v59, v60, v61]] H13 (Sp.retK (fun v62 H63 =>
  dBl v62 (fun b64 =>
  sB (!b64) (k58 (Value.bool true) H63) (HCalls Try.prog 29 #[Value.slice (some (Addr.mk r12 0 none)) 5 5] H63 (Sp.retK (fun v65 H66 =>
  dBl v65 (fun b67 =>
  k58 (Value.bool !b67) H66)) (pnR R))))) (pnR R)))))))))))))))))
theorem F10_eq (x0_0 : Value) (x0_1 : Value) (x0_2 : Value) (x0_3 : Value) (R : Ending → Heap → Prop) (H : Heap) : F10 x0_0 x0_1 x0_2 x0_3 R H = vc Try.prog (codeOf Try.f10) (.node none .leaf (.node none .leaf (.node none (.node (some ⟨[(31, 4)], [23, 24, 25, 26, 27, 28, 29, 30]⟩) .leaf .leaf) .leaf))) (postV Try.prog Try.f10 R) ⟨#[Value.agg #[x0_0, x0_1, x0_2, x0_3]] ++ Array.replicate (Try.f10.ntmps - 1) undef, []⟩ H := by kernel_rfl
theorem F10_calls {R : Ending → Heap → Prop} {H : Heap} (x0_0 : Value) (x0_1 : Value) (x0_2 : Value) (x0_3 : Value) (h : F10 x0_0 x0_1 x0_2 x0_3 R H) : HCalls Try.prog 10 #[Value.agg #[x0_0, x0_1, x0_2, x0_3]] H R :=
  calls_by (F := F10 x0_0 x0_1 x0_2 x0_3 R H) (.node none .leaf (.node none .leaf (.node none (.node (some ⟨[(31, 4)], [23, 24, 25, 26, 27, 28, 29, 30]⟩) .leaf .leaf) .leaf))) Try.func10 rfl (F10_eq x0_0 x0_1 x0_2 x0_3 R H) h
/-- bollard/geom.Header -/
def F11 (x0_0 : Value) (x0_1 : Value) (x0_2 : Value) (x1 : Int) (R : Ending → Heap → Prop) (H : Heap) : Prop :=
  al H (Obj.cells #[x0_0, x0_1, x0_2] 23) (fun r1 H2 =>
  ld H2 (Addr.mk r1 0 none) (fun v3 =>
  ld H2 (Addr.mk r1 1 none) (fun v4 =>
  ld H2 (Addr.mk r1 2 none) (fun v5 =>
  HCalls Try.prog 27 #[Value.agg #[v3, v4, v5], Value.int IntKind.i64 x1, Value.int IntKind.i64 1] H2 (Sp.retK (fun v6 H7 =>
  dT 2 v6 (fun v8 v9 =>
  dInt IntKind.i64 v8 (fun n10 =>
  dBl v9 (fun b11 =>
  R (Ending.returned (Value.tuple #[Value.int IntKind.i64 n10, Value.bool b11])) H7)))) (pnR R))))))
theorem F11_eq (x0_0 : Value) (x0_1 : Value) (x0_2 : Value) (x1 : Int) (R : Ending → Heap → Prop) (H : Heap) : F11 x0_0 x0_1 x0_2 x1 R H = vc Try.prog (codeOf Try.f11) .leaf (postV Try.prog Try.f11 R) ⟨#[Value.agg #[x0_0, x0_1, x0_2], Value.int IntKind.i64 x1] ++ Array.replicate (Try.f11.ntmps - 2) undef, []⟩ H := by kernel_rfl
theorem F11_calls {R : Ending → Heap → Prop} {H : Heap} (x0_0 : Value) (x0_1 : Value) (x0_2 : Value) (x1 : Int) (h : F11 x0_0 x0_1 x0_2 x1 R H) : HCalls Try.prog 11 #[Value.agg #[x0_0, x0_1, x0_2], Value.int IntKind.i64 x1] H R :=
  calls_by (F := F11 x0_0 x0_1 x0_2 x1 R H) .leaf Try.func11 rfl (F11_eq x0_0 x0_1 x0_2 x1 R H) h
/-- bollard/layout.EncodeGroup -/
def F12 (x0_0 : Value) (x0_1 : Value) (x0_2 : Value) (x0_3 : Value) (x0_4 : Value) (x0_5 : Value) (x0_6 : Value) (x0_7 : Value) (x0_8 : Value) (x0_9 : Value) (x0_10 : Value) (x0_11 : Value) (x0_12 : Value) (x0_13 : Value) (x0_14 : Value) (x0_15 : Value) (x0_16 : Value) (x0_17 : Value) (x0_18 : Value) (x0_19 : Value) (x0_20 : Value) (x0_21 : Value) (x0_22 : Value) (x0_23 : Value) (x0_24 : Value) (x0_25 : Value) (x0_26 : Value) (x0_27 : Value) (x0_28 : Value) (x0_29 : Value) (x0_30 : Value) (x0_31 : Value) (x0_32 : Value) (x0_33 : Value) (x0_34 : Value) (x0_35 : Value) (x0_36 : Value) (x0_37 : Value) (x0_38 : Value) (x0_39 : Value) (x0_40 : Value) (R : Ending → Heap → Prop) (H : Heap) : Prop :=
  al H (Obj.cells #[x0_0, x0_1, x0_2, x0_3, x0_4, x0_5, x0_6, x0_7, x0_8, x0_9, x0_10, x0_11, x0_12, x0_13, x0_14, x0_15, x0_16, x0_17, x0_18, x0_19, x0_20, x0_21, x0_22, x0_23, x0_24, x0_25, x0_26, x0_27, x0_28, x0_29, x0_30, x0_31, x0_32, x0_33, x0_34, x0_35, x0_36, x0_37, x0_38, x0_39, x0_40] 43) (fun r1 H2 =>
  jn (α := VFH 1) (fun v3 H4 =>
  ∀ v5 v6 v7 v8 v9 v10 v11 : Value,
  dBl v3 (fun b12 =>
  sB b12 (R (Ending.returned (Value.tuple #[Value.slice none 0 0, Value.int IntKind.i64 1])) H4) (al H4 (Obj.cells #[Value.int IntKind.u8 104, Value.int IntKind.u8 100] 5) (fun r13 H14 =>
  semW Try.prog (convert 32 32 (Value.slice (some (Addr.mk r13 0 none)) 2 2)) (pnR R) H14 (fun v17 H18 =>
  dSl v17 (fun p19 r20 r21 =>
  ld H18 (Addr.mk r1 0 none) (fun v22 =>
  dInt IntKind.i64 v22 (fun n23 =>
  wr IntKind.u8 n23 (fun n24 =>
  al H18 (Obj.cells #[Value.int IntKind.u8 n24, Value.int IntKind.u8 0] 5) (fun r25 H26 =>
  semW Try.prog (Builtin.append_ #[32, 32] 32 #[Value.slice p19 r20 r21, Value.slice (some (Addr.mk r25 0 none)) 2 2]) (pnR R) H26 (fun v29 H30 =>
  dSl v29 (fun p31 r32 r33 =>
  ask ((0 : Int) ≤ (0 : Int) ∧ (0 : Int) ≤ (8 : Int) ∧ (8 : Int) ≤ (8 : Int) ∧ (8 : Int) ≤ (8 : Int)) (semW Try.prog (Builtin.append_ #[32, 32] 32 #[Value.slice p31 r32 r33, Value.slice (slO (some (Addr.mk r1 1 none)) 1 0 8) (Int.toNat 8 - Int.toNat 0) (Int.toNat 8 - Int.toNat 0)]) (pnR R) H30 (fun v36 H37 =>
  dSl v36 (fun p38 r39 r40 =>
  ask ((0 : Int) ≤ (0 : Int) ∧ (0 : Int) ≤ (32 : Int) ∧ (32 : Int) ≤ (32 : Int) ∧ (32 : Int) ≤ (32 : Int)) (semW Try.prog (Builtin.append_ #[32, 32] 32 #[Value.slice p38 r39 r40, Value.slice (slO (some (Addr.mk r1 9 none)) 1 0 32) (Int.toNat 32 - Int.toNat 0) (Int.toNat 32 - Int.toNat 0)]) (pnR R) H37 (fun v43 H44 =>
  dSl v43 (fun p45 r46 r47 =>
  HCalls Try.prog 31 #[Value.slice p45 r46 r47, Value.int IntKind.i64 128] H44 (Sp.retK (fun v48 H49 =>
  dSl v48 (fun p50 r51 r52 =>
  R (Ending.returned (Value.tuple #[Value.slice p50 r51 r52, Value.int IntKind.i64 0])) H49)) (pnR R)))))))))))))))))))) (fun k55 =>
  ld H2 (Addr.mk r1 0 none) (fun v56 =>
  dInt IntKind.i64 v56 (fun n57 =>
  sB (decide (n57 < 0)) (k55 (Value.bool true) H2) (ld H2 (Addr.mk r1 0 none) (fun v58 =>
  dInt IntKind.i64 v58 (fun n59 =>
  k55 (Value.bool (decide (n59 ≥ 8))) H2)))))))
theorem F12_eq (x0_0 : Value) (x0_1 : Value) (x0_2 : Value) (x0_3 : Value) (x0_4 : Value) (x0_5 : Value) (x0_6 : Value) (x0_7 : Value) (x0_8 : Value) (x0_9 : Value) (x0_10 : Value) (x0_11 : Value) (x0_12 : Value) (x0_13 : Value) (x0_14 : Value) (x0_15 : Value) (x0_16 : Value) (x0_17 : Value) (x0_18 : Value) (x0_19 : Value) (x0_20 : Value) (x0_21 : Value) (x0_22 : Value) (x0_23 : Value) (x0_24 : Value) (x0_25 : Value) (x0_26 : Value) (x0_27 : Value) (x0_28 : Value) (x0_29 : Value) (x0_30 : Value) (x0_31 : Value) (x0_32 : Value) (x0_33 : Value) (x0_34 : Value) (x0_35 : Value) (x0_36 : Value) (x0_37 : Value) (x0_38 : Value) (x0_39 : Value) (x0_40 : Value) (R : Ending → Heap → Prop) (H : Heap) : F12 x0_0 x0_1 x0_2 x0_3 x0_4 x0_5 x0_6 x0_7 x0_8 x0_9 x0_10 x0_11 x0_12 x0_13 x0_14 x0_15 x0_16 x0_17 x0_18 x0_19 x0_20 x0_21 x0_22 x0_23 x0_24 x0_25 x0_26 x0_27 x0_28 x0_29 x0_30 x0_31 x0_32 x0_33 x0_34 x0_35 x0_36 x0_37 x0_38 x0_39 x0_40 R H = vc Try.prog (codeOf Try.f12) (.node none .leaf (.node none (.node (some ⟨[(12, 4)], [5, 6, 7, 8, 9, 10, 11]⟩) .leaf .leaf) .leaf)) (postV Try.prog Try.f12 R) ⟨#[Value.agg #[x0_0, x0_1, x0_2, x0_3, x0_4, x0_5, x0_6, x0_7, x0_8, x0_9, x0_10, x0_11, x0_12, x0_13, x0_14, x0_15, x0_16, x0_17, x0_18, x0_19, x0_20, x0_21, x0_22, x0_23, x0_24, x0_25, x0_26, x0_27, x0_28, x0_29, x0_30, x0_31, x0_32, x0_33, x0_34, x0_35, x0_36, x0_37, x0_38, x0_39, x0_40]] ++ Array.replicate (Try.f12.ntmps - 1) undef, []⟩ H := by kernel_rfl
theorem F12_calls {R : Ending → Heap → Prop} {H : Heap} (x0_0 : Value) (x0_1 : Value) (x0_2 : Value) (x0_3 : Value) (x0_4 : Value) (x0_5 : Value) (x0_6 : Value) (x0_7 : Value) (x0_8 : Value) (x0_9 : Value) (x0_10 : Value) (x0_11 : Value) (x0_12 : Value) (x0_13 : Value) (x0_14 : Value) (x0_15 : Value) (x0_16 : Value) (x0_17 : Value) (x0_18 : Value) (x0_19 : Value) (x0_20 : Value) (x0_21 : Value) (x0_22 : Value) (x0_23 : Value) (x0_24 : Value) (x0_25 : Value) (x0_26 : Value) (x0_27 : Value) (x0_28 : Value) (x0_29 : Value) (x0_30 : Value) (x0_31 : Value) (x0_32 : Value) (x0_33 : Value) (x0_34 : Value) (x0_35 : Value) (x0_36 : Value) (x0_37 : Value) (x0_38 : Value) (x0_39 : Value) (x0_40 : Value) (h : F12 x0_0 x0_1 x0_2 x0_3 x0_4 x0_5 x0_6 x0_7 x0_8 x0_9 x0_10 x0_11 x0_12 x0_13 x0_14 x0_15 x0_16 x0_17 x0_18 x0_19 x0_20 x0_21 x0_22 x0_23 x0_24 x0_25 x0_26 x0_27 x0_28 x0_29 x0_30 x0_31 x0_32 x0_33 x0_34 x0_35 x0_36 x0_37 x0_38 x0_39 x0_40 R H) : HCalls Try.prog 12 #[Value.agg #[x0_0, x0_1, x0_2, x0_3, x0_4, x0_5, x0_6, x0_7, x0_8, x0_9, x0_10, x0_11, x0_12, x0_13, x0_14, x0_15, x0_16, x0_17, x0_18, x0_19, x0_20, x0_21, x0_22, x0_23, x0_24, x0_25, x0_26, x0_27, x0_28, x0_29, x0_30, x0_31, x0_32, x0_33, x0_34, x0_35, x0_36, x0_37, x0_38, x0_39, x0_40]] H R :=
  calls_by (F := F12 x0_0 x0_1 x0_2 x0_3 x0_4 x0_5 x0_6 x0_7 x0_8 x0_9 x0_10 x0_11 x0_12 x0_13 x0_14 x0_15 x0_16 x0_17 x0_18 x0_19 x0_20 x0_21 x0_22 x0_23 x0_24 x0_25 x0_26 x0_27 x0_28 x0_29 x0_30 x0_31 x0_32 x0_33 x0_34 x0_35 x0_36 x0_37 x0_38 x0_39 x0_40 R H) (.node none .leaf (.node none (.node (some ⟨[(12, 4)], [5, 6, 7, 8, 9, 10, 11]⟩) .leaf .leaf) .leaf)) Try.func12 rfl (F12_eq x0_0 x0_1 x0_2 x0_3 x0_4 x0_5 x0_6 x0_7 x0_8 x0_9 x0_10 x0_11 x0_12 x0_13 x0_14 x0_15 x0_16 x0_17 x0_18 x0_19 x0_20 x0_21 x0_22 x0_23 x0_24 x0_25 x0_26 x0_27 x0_28 x0_29 x0_30 x0_31 x0_32 x0_33 x0_34 x0_35 x0_36 x0_37 x0_38 x0_39 x0_40 R H) h
/-- bollard/mkfs.header -/
def F13 (x0_0 : Value) (x0_1 : Value) (x0_2 : Value) (x1 : Int) (R : Ending → Heap → Prop) (H : Heap) : Prop :=
  al H (Obj.cells #[x0_0, x0_1, x0_2] 23) (fun r1 H2 =>
  al H2 (Obj.cells #[Value.int IntKind.i64 0, Value.int IntKind.u8 0, Value.int IntKind.u8 0, Value.int IntKind.u8 0, Value.int IntKind.u8 0, Value.int IntKind.u8 0, Value.int IntKind.u8 0, Value.int IntKind.u8 0, Value.int IntKind.u8 0, Value.int IntKind.u8 0, Value.int IntKind.u8 0, Value.int IntKind.u8 0, Value.int IntKind.u8 0, Value.int IntKind.u8 0, Value.int IntKind.u8 0, Value.int IntKind.u8 0, Value.int IntKind.u8 0, Value.int IntKind.u8 0, Value.int IntKind.u8 0, Value.int IntKind.u8 0, Value.int IntKind.u8 0, Value.int IntKind.u8 0, Value.int IntKind.u8 0, Value.int IntKind.u8 0, Value.int IntKind.u8 0, Value.int IntKind.u8 0, Value.int IntKind.u8 0, Value.int IntKind.u8 0, Value.int IntKind.u8 0, Value.int IntKind.u8 0, Value.int IntKind.u8 0, Value.int IntKind.u8 0, Value.int IntKind.u8 0, Value.int IntKind.u8 0, Value.int IntKind.u8 0, Value.int IntKind.u8 0, Value.int IntKind.u8 0, Value.int IntKind.u8 0, Value.int IntKind.u8 0, Value.int IntKind.u8 0, Value.int IntKind.u8 0] 43) (fun r3 H4 =>
  al H4 (Obj.cells #[Value.int IntKind.i64 0, Value.int IntKind.u8 0, Value.int IntKind.u8 0, Value.int IntKind.u8 0, Value.int IntKind.u8 0, Value.int IntKind.u8 0, Value.int IntKind.u8 0, Value.int IntKind.u8 0, Value.int IntKind.u8 0, Value.int IntKind.u8 0, Value.int IntKind.u8 0, Value.int IntKind.u8 0, Value.int IntKind.u8 0, Value.int IntKind.u8 0, Value.int IntKind.u8 0, Value.int IntKind.u8 0, Value.int IntKind.u8 0, Value.int IntKind.u8 0, Value.int IntKind.u8 0, Value.int IntKind.u8 0, Value.int IntKind.u8 0, Value.int IntKind.u8 0, Value.int IntKind.u8 0, Value.int IntKind.u8 0, Value.int IntKind.u8 0, Value.int IntKind.u8 0, Value.int IntKind.u8 0, Value.int IntKind.u8 0, Value.int IntKind.u8 0, Value.int IntKind.u8 0, Value.int IntKind.u8 0, Value.int IntKind.u8 0, Value.int IntKind.u8 0, Value.int IntKind.u8 0, Value.int IntKind.u8 0, Value.int IntKind.u8 0, Value.int IntKind.u8 0, Value.int IntKind.u8 0, Value.int IntKind.u8 0, Value.int IntKind.u8 0, Value.int IntKind.u8 0] 43) (fun r5 H6 =>
  st H6 (Addr.mk r5 0 none) (Value.int IntKind.i64 x1) (fun H7 =>
  st H7 (Addr.mk r5 1 none) (Value.int IntKind.u8 0) (fun H8 =>
  st H8 (Addr.mk r5 2 none) (Value.int IntKind.u8 0) (fun H9 =>
  st H9 (Addr.mk r5 3 none) (Value.int IntKind.u8 0) (fun H10 =>
  st H10 (Addr.mk r5 4 none) (Value.int IntKind.u8 0) (fun H11 =>
  st H11 (Addr.mk r5 5 none) (Value.int IntKind.u8 0) (fun H12 =>
  st H12 (Addr.mk r5 6 none) (Value.int IntKind.u8 0) (fun H13 =>
  st H13 (Addr.mk r5 7 none) (Value.int IntKind.u8 0) (fun H14 =>
  st H14 (Addr.mk r5 8 none) (Value.int IntKind.u8 0) (fun H15 =>
  st H15 (Addr.mk r5 9 none) (Value.int IntKind.u8 0) (fun H16 =>
  st H16 (Addr.mk r5 10 none) (Value.int IntKind.u8 0) (fun H17 =>
  st H17 (Addr.mk r5 11 none) (Value.int IntKind.u8 0) (fun H18 =>
  st H18 (Addr.mk r5 12 none) (Value.int IntKind.u8 0) (fun H19 =>
  st H19 (Addr.mk r5 13 none) (Value.int IntKind.u8 0) (fun H20 =>
  st H20 (Addr.mk r5 14 none) (Value.int IntKind.u8 0) (fun H21 =>
  st H21 (Addr.mk r5 15 none) (Value.int IntKind.u8 0) (fun H22 =>
  st H22 (Addr.mk r5 16 none) (Value.int IntKind.u8 0) (fun H23 =>
  st H23 (Addr.mk r5 17 none) (Value.int IntKind.u8 0) (fun H24 =>
  st H24 (Addr.mk r5 18 none) (Value.int IntKind.u8 0) (fun H25 =>
  st H25 (Addr.mk r5 19 none) (Value.int IntKind.u8 0) (fun H26 =>
  st H26 (Addr.mk r5 20 none) (Value.int IntKind.u8 0) (fun H27 =>
  st H27 (Addr.mk r5 21 none) (Value.int IntKind.u8 0) (fun H28 =>
  st H28 (Addr.mk r5 22 none) (Value.int IntKind.u8 0) (fun H29 =>
  st H29 (Addr.mk r5 23 none) (Value.int IntKind.u8 0) (fun H30 =>
  st H30 (Addr.mk r5 24 none) (Value.int IntKind.u8 0) (fun H31 =>
  st H31 (Addr.mk r5 25 none) (Value.int IntKind.u8 0) (fun H32 =>
  st H32 (Addr.mk r5 26 none) (Value.int IntKind.u8 0) (fun H33 =>
  st H33 (Addr.mk r5 27 none) (Value.int IntKind.u8 0) (fun H34 =>
  st H34 (Addr.mk r5 28 none) (Value.int IntKind.u8 0) (fun H35 =>
  st H35 (Addr.mk r5 29 none) (Value.int IntKind.u8 0) (fun H36 =>
  st H36 (Addr.mk r5 30 none) (Value.int IntKind.u8 0) (fun H37 =>
  st H37 (Addr.mk r5 31 none) (Value.int IntKind.u8 0) (fun H38 =>
  st H38 (Addr.mk r5 32 none) (Value.int IntKind.u8 0) (fun H39 =>
  st H39 (Addr.mk r5 33 none) (Value.int IntKind.u8 0) (fun H40 =>
  st H40 (Addr.mk r5 34 none) (Value.int IntKind.u8 0) (fun H41 =>
  st H41 (Addr.mk r5 35 none) (Value.int IntKind.u8 0) (fun H42 =>
  st H42 (Addr.mk r5 36 none) (Value.int IntKind.u8 0) (fun H43 =>
  st H43 (Addr.mk r5 37 none) (Value.int IntKind.u8 0) (fun H44 =>
  st H44 (Addr.mk r5 38 none) (Value.int IntKind.u8 0) (fun H45 =>
  st H45 (Addr.mk r5 39 none) (Value.int IntKind.u8 0) (fun H46 =>
  st H46 (Addr.mk r5 40 none) (Value.int IntKind.u8 0) (fun H47 =>
  ld H47 (Addr.mk r1 0 none) (fun v48 =>
  ld H47 (Addr.mk r1 1 none) (fun v49 =>
  ld H47 (Addr.mk r1 2 none) (fun v50 =>
  HCalls Try.prog 14 #[Value.agg #[v48, v49, v50], Value.int IntKind.i64 x1] H47 (Sp.retK (fun v51 H52 =>
  dT 3 v51 (fun v53 v54 v55 =>
  dInt IntKind.i64 v53 (fun n56 =>
  dInt IntKind.i64 v54 (fun n57 =>
  dBl v55 (fun b58 =>
  ld H52 (Addr.mk r1 0 none) (fun v59 =>
  ld H52 (Addr.mk r1 1 none) (fun v60 =>
  ld H52 (Addr.mk r1 2 none) (fun v61 =>
  HCalls Try.prog 33 #[Value.agg #[v59, v60, v61], Value.int IntKind.i64 n56] H52 (Sp.retK (fun v62 H63 =>
  dT 3 v62 (fun v64 v65 v66 =>
  dInt IntKind.i64 v64 (fun n67 =>
  dInt IntKind.i64 v65 (fun n68 =>
  dBl v66 (fun b69 =>
  ∃ I70 : List Value → Heap → Prop,
  ∃ I71 : List Value → Heap → Nat,
  (I70 ([Value.int IntKind.i64 0]) H63) ∧
  ∀ n72 : Int,
  ∀ v73 v74 v75 v76 v77 v78 v79 v80 v81 : Value,
  ∀ H82 : Heap,
  (I70 ([Value.int IntKind.i64 n72]) H82) →
  sB (decide (n72 < n68)) (ask ((0 : Int) ≤ (0 : Int) ∧ (0 : Int) ≤ (32 : Int) ∧ (32 : Int) ≤ (32 : Int) ∧ (32 : Int) ≤ (32 : Int)) (al H82 (Obj.cells #[Value.int IntKind.i64 n72] 3) (fun r84 H85 =>
  HCalls Try.prog 34 #[Value.slice (slO (some (Addr.mk r5 9 none)) 1 0 32) (Int.toNat 32 - Int.toNat 0) (Int.toNat 32 - Int.toNat 0), Value.slice (some (Addr.mk r84 0 none)) 1 1] H85 (Sp.retK (fun v86 H87 =>
  wr IntKind.i64 (n72 + 1) (fun n88 =>
  (I70 ([Value.int IntKind.i64 n88]) H87) ∧
  (I71 [Value.int IntKind.i64 n88] H87) < (I71 [Value.int IntKind.i64 n72] H82))) (pnR R))))) (jn (α := VFH 0) (fun H91 =>
  ∀ v92 v93 v94 v95 v96 v97 v98 v99 v100 v101 v102 : Value,
  ld H91 (Addr.mk r5 0 none) (fun v103 =>
  ld H91 (Addr.mk r5 1 none) (fun v104 =>
  ld H91 (Addr.mk r5 2 none) (fun v105 =>
  ld H91 (Addr.mk r5 3 none) (fun v106 =>
  ld H91 (Addr.mk r5 4 none) (fun v107 =>
  ld H91 (Addr.mk r5 5 none) (fun v108 =>
  ld H91 (Addr.mk r5 6 none) (fun v109 =>
  ld H91 (Addr.mk r5 7 none) (fun v110 =>
  ld H91 (Addr.mk r5 8 none) (fun v111 =>
  ld H91 (Addr.mk r5 9 none) (fun v112 =>
  ld H91 (Addr.mk r5 10 none) (fun v113 =>
  ld H91 (Addr.mk r5 11 none) (fun v114 =>
  ld H91 (Addr.mk r5 12 none) (fun v115 =>
  ld H91 (Addr.mk r5 13 none) (fun v116 =>
  ld H91 (Addr.mk r5 14 none) (fun v117 =>
  ld H91 (Addr.mk r5 15 none) (fun v118 =>
  ld H91 (Addr.mk r5 16 none) (fun v119 =>
  ld H91 (Addr.mk r5 17 none) (fun v120 =>
  ld H91 (Addr.mk r5 18 none) (fun v121 =>
  ld H91 (Addr.mk r5 19 none) (fun v122 =>
  ld H91 (Addr.mk r5 20 none) (fun v123 =>
  ld H91 (Addr.mk r5 21 none) (fun v124 =>
  ld H91 (Addr.mk r5 22 none) (fun v125 =>
  ld H91 (Addr.mk r5 23 none) (fun v126 =>
  ld H91 (Addr.mk r5 24 none) (fun v127 =>
  ld H91 (Addr.mk r5 25 none) (fun v128 =>
  ld H91 (Addr.mk r5 26 none) (fun v129 =>
  ld H91 (Addr.mk r5 27 none) (fun v130 =>
  ld H91 (Addr.mk r5 28 none) (fun v131 =>
  ld H91 (Addr.mk r5 29 none) (fun v132 =>
  ld H91 (Addr.mk r5 30 none) (fun v133 =>
  ld H91 (Addr.mk r5 31 none) (fun v134 =>
  ld H91 (Addr.mk r5 32 none) (fun v135 =>
  ld H91 (Addr.mk r5 33 none) (fun v136 =>
  ld H91 (Addr.mk r5 34 none) (fun v137 =>
  ld H91 (Addr.mk r5 35 none) (fun v138 =>
  ld H91 (Addr.mk r5 36 none) (fun v139 =>
  ld H91 (Addr.mk r5 37 none) (fun v140 =>
  ld H91 (Addr.mk r5 38 none) (fun v141 =>
  ld H91 (Addr.mk r5 39 none) (fun v142 =>
  ld H91 (Addr.mk r5 40 none) (fun v143 =>
  st H91 (Addr.mk r3 0 none) v103 (fun H144 =>
  st H144 (Addr.mk r3 1 none) v104 (fun H145 =>
  st H145 (Addr.mk r3 2 none) v105 (fun H146 =>
  st H146 (Addr.mk r3 3 none) v106 (fun H147 =>
  st H147 (Addr.mk r3 4 none) v107 (fun H148 =>
  st H148 (Addr.mk r3 5 none) v108 (fun H149 =>
  st H149 (Addr.mk r3 6 none) v109 (fun H150 =>
  st H150 (Addr.mk r3 7 none) v110 (fun H151 =>
  st H151 (Addr.mk r3 8 none) v111 (fun H152 =>
  st H152 (Addr.mk r3 9 none) v112 (fun H153 =>
  st H153 (Addr.mk r3 10 none) v113 (fun H154 =>
  st H154 (Addr.mk r3 11 none) v114 (fun H155 =>
  st H155 (Addr.mk r3 12 none) v115 (fun H156 =>
  st H156 (Addr.mk r3 13 none) v116 (fun H157 =>
  st H157 (Addr.mk r3 14 none) v117 (fun H158 =>
  st H158 (Addr.mk r3 15 none) v118 (fun H159 =>
  st H159 (Addr.mk r3 16 none) v119 (fun H160 =>
  st H160 (Addr.mk r3 17 none) v120 (fun H161 =>
  st H161 (Addr.mk r3 18 none) v121 (fun H162 =>
  st H162 (Addr.mk r3 19 none) v122 (fun H163 =>
  st H163 (Addr.mk r3 20 none) v123 (fun H164 =>
  st H164 (Addr.mk r3 21 none) v124 (fun H165 =>
  st H165 (Addr.mk r3 22 none) v125 (fun H166 =>
  st H166 (Addr.mk r3 23 none) v126 (fun H167 =>
  st H167 (Addr.mk r3 24 none) v127 (fun H168 =>
  st H168 (Addr.mk r3 25 none) v128 (fun H169 =>
  st H169 (Addr.mk r3 26 none) v129 (fun H170 =>
  st H170 (Addr.mk r3 27 none) v130 (fun H171 =>
  st H171 (Addr.mk r3 28 none) v131 (fun H172 =>
  st H172 (Addr.mk r3 29 none) v132 (fun H173 =>
  st H173 (Addr.mk r3 30 none) v133 (fun H174 =>
  st H174 (Addr.mk r3 31 none) v134 (fun H175 =>
  st H175 (Addr.mk r3 32 none) v135 (fun H176 =>
  st H176 (Addr.mk r3 33 none) v136 (fun H177 =>
  st H177 (Addr.mk r3 34 none) v137 (fun H178 =>
  st H178 (Addr.mk r3 35 none) v138 (fun H179 =>
  st H179 (Addr.mk r3 36 none) v139 (fun H180 =>
  st H180 (Addr.mk r3 37 none) v140 (fun H181 =>
  st H181 (Addr.mk r3 38 none) v141 (fun H182 =>
  st H182 (Addr.mk r3 39 none) v142 (fun H183 =>
  st H183 (Addr.mk r3 40 none) v143 (fun H184 =>
  ld H184 (Addr.mk r3 0 none) (fun v185 =>
  ld H184 (Addr.mk r3 1 none) (fun v186 =>
  ld H184 (Addr.mk r3 2 none) (fun v187 =>
  ld H184 (Addr.mk r3 3 none) (fun v188 =>
  ld H184 (Addr.mk r3 4 none) (fun v189 =>
  ld H184 (Addr.mk r3 5 none) (fun v190 =>
  ld H184 (Addr.mk r3 6 none) (fun v191 =>
  ld H184 (Addr.mk r3 7 none) (fun v192 =>
  ld H184 (Addr.mk r3 8 none) (fun v193 =>
  ld H184 (Addr.mk r3 9 none) (fun v194 =>
  ld H184 (Addr.mk r3 10 none) (fun v195 =>
  ld H184 (Addr.mk r3 11 none) (fun v196 =>
  ld H184 (Addr.mk r3 12 none) (fun v197 =>
  ld H184 (Addr.mk r3 13 none) (fun v198 =>
  ld H184 (Addr.mk r3 14 none) (fun v199 =>
  ld H184 (Addr.mk r3 15 none) (fun v200 =>
  ld H184 (Addr.mk r3 16 none) (fun v201 =>
  ld H184 (Addr.mk r3 17 none) (fun v202 =>
  ld H184 (Addr.mk r3 18 none) (fun v203 =>
  ld H184 (Addr.mk r3 19 none) (fun v204 =>
  ld H184 (Addr.mk r3 20 none) (fun v205 =>
  ld H184 (Addr.mk r3 21 none) (fun v206 =>
  ld H184 (Addr.mk r3 22 none) (fun v207 =>
  ld H184 (Addr.mk r3 23 none) (fun v208 =>
  ld H184 (Addr.mk r3 24 none) (fun v209 =>
  ld H184 (Addr.mk r3 25 none) (fun v210 =>
  ld H184 (Addr.mk r3 26 none) (fun v211 =>
  ld H184 (Addr.mk r3 27 none) (fun v212 =>
  ld H184 (Addr.mk r3 28 none) (fun v213 =>
  ld H184 (Addr.mk r3 29 none) (fun v214 =>
  ld H184 (Addr.mk r3 30 none) (fun v215 =>
  ld H184 (Addr.mk r3 31 none) (fun v216 =>
  ld H184 (Addr.mk r3 32 none) (fun v217 =>
  ld H184 (Addr.mk r3 33 none) (fun v218 =>
  ld H184 (Addr.mk r3 34 none) (fun v219 =>
  ld H184 (Addr.mk r3 35 none) (fun v220 =>
  ld H184 (Addr.mk r3 36 none) (fun v221 =>
  ld H184 (Addr.mk r3 37 none) (fun v222 =>
  ld H184 (Addr.mk r3 38 none) (fun v223 =>
  ld H184 (Addr.mk r3 39 none) (fun v224 =>
  ld H184 (Addr.mk r3 40 none) (fun v225 =>
  R (Ending.returned (Value.agg #[v185, v186, v187, v188, v189, v190, v191, v192, v193, v194, v195, v196, v197, v198, v199, v200, v201, v202, v203, v204, v205, v206, v207, v208, v209, v210, v211, v212, v213, v214, v215, v216, v217, v218, v219, v220, v221, v222, v223, v224, v225])) H184)))))))))))))))))))))))))))))))))))))))))))))))))))))))))))))))))))))))))))))))))))))))))))))))))))))))))))))))))))))))))))) (fun k226 =>
  sB (x1 == 0) (ask ((0 : Int) ≤ (0 : Int) ∧ (0 : Int) ≤ (32 : Int) ∧ (32 : Int) ≤ (32 : Int) ∧ (32 : Int) ≤ (32 : Int)) (al H82 (Obj.cells #[Value.int IntKind.i64 n68] 3) (fun r227 H228 =>
  HCalls Try.prog 34 #[Value.slice (slO (some (Addr.mk r5 9 none)) 1 0 32) (Int.toNat 32 - Int.toNat 0) (Int.toNat 32 - Int.toNat 0), Value.slice (some (Addr.mk r227 0 none)) 1 1] H228 (Sp.retK (fun v229 H230 =>
  ask ((0 : Int) ≤ (0 : Int) ∧ (0 : Int) ≤ (8 : Int) ∧ (8 : Int) ≤ (8 : Int) ∧ (8 : Int) ≤ (8 : Int)) (al H230 (Obj.cells #[Value.int IntKind.i64 0, Value.int IntKind.i64 1, Value.int IntKind.i64 2] 3) (fun r231 H232 =>
  HCalls Try.prog 34 #[Value.slice (slO (some (Addr.mk r5 1 none)) 1 0 8) (Int.toNat 8 - Int.toNat 0) (Int.toNat 8 - Int.toNat 0), Value.slice (some (Addr.mk r231 0 none)) 3 3] H232 (Sp.retK (fun v233 H234 =>
  k226 H234) (pnR R))))) (pnR R))))) (k226 H82)))))))) (pnR R)))))))))) (pnR R)))))))))))))))))))))))))))))))))))))))))))))))))
theorem F13_eq (x0_0 : Value) (x0_1 : Value) (x0_2 : Value) (x1 : Int) (R : Ending → Heap → Prop) (H : Heap) : F13 x0_0 x0_1 x0_2 x1 R H = vc Try.prog (codeOf Try.f13) (.node none .leaf (.node none .leaf (.node none .leaf (.node none .leaf (.node none (.node none .leaf (.node none (.node (some ⟨[(30, 3)], [12, 31, 32, 33, 34, 35, 36, 37, 38]⟩) .leaf .leaf) .leaf)) (.node (some ⟨[], [39, 40, 41, 42, 43, 44, 45, 46, 47, 48, 49]⟩) .leaf .leaf)))))) (postV Try.prog Try.f13 R) ⟨#[Value.agg #[x0_0, x0_1, x0_2], Value.int IntKind.i64 x1] ++ Array.replicate (Try.f13.ntmps - 2) undef, []⟩ H := by kernel_rfl
theorem F13_calls {R : Ending → Heap → Prop} {H : Heap} (x0_0 : Value) (x0_1 : Value) (x0_2 : Value) (x1 : Int) (h : F13 x0_0 x0_1 x0_2 x1 R H) : HCalls Try.prog 13 #[Value.agg #[x0_0, x0_1, x0_2], Value.int IntKind.i64 x1] H R :=
  calls_by (F := F13 x0_0 x0_1 x0_2 x1 R H) (.node none .leaf (.node none .leaf (.node none .leaf (.node none .leaf (.node none (.node none .leaf (.node none (.node (some ⟨[(30, 3)], [12, 31, 32, 33, 34, 35, 36, 37, 38]⟩) .leaf .leaf) .leaf)) (.node (some ⟨[], [39, 40, 41, 42, 43, 44, 45, 46, 47, 48, 49]⟩) .leaf .leaf)))))) Try.func13 rfl (F13_eq x0_0 x0_1 x0_2 x1 R H) h
/-- bollard/geom.Data -/
def F14 (x0_0 : Value) (x0_1 : Value) (x0_2 : Value) (x1 : Int) (R : Ending → Heap → Prop) (H : Heap) : Prop :=
  al H (Obj.cells #[x0_0, x0_1, x0_2] 23) (fun r1 H2 =>
  ld H2 (Addr.mk r1 0 none) (fun v3 =>
  ld H2 (Addr.mk r1 1 none) (fun v4 =>
  ld H2 (Addr.mk r1 2 none) (fun v5 =>
  ld H2 (Addr.mk r1 0 none) (fun v6 =>
  ld H2 (Addr.mk r1 1 none) (fun v7 =>
  ld H2 (Addr.mk r1 2 none) (fun v8 =>
  HCalls Try.prog 25 #[Value.agg #[v6, v7, v8]] H2 (Sp.retK (fun v9 H10 =>
  dInt IntKind.i64 v9 (fun n11 =>
  (ld H10 (Addr.mk r1 0 none) (fun v12 =>
  ld H10 (Addr.mk r1 1 none) (fun v13 =>
  ld H10 (Addr.mk r1 2 none) (fun v14 =>
  (Value.agg #[v12, v13, v14]) = (Value.agg #[v3, v4, v5]))))) ∧
  HCalls Try.prog 27 #[Value.agg #[v3, v4, v5], Value.int IntKind.i64 x1, Value.int IntKind.i64 n11] H10 (Sp.retK (fun v15 H16 =>
  dT 2 v15 (fun v17 v18 =>
  dInt IntKind.i64 v17 (fun n19 =>
  dBl v18 (fun b20 =>
  sB (!b20) (R (Ending.returned (Value.tuple #[Value.int IntKind.i64 0, Value.int IntKind.i64 0, Value.bool false])) H16) (ld H16 (Addr.mk r1 1 none) (fun v21 =>
  dInt IntKind.i64 v21 (fun n22 =>
  ld H16 (Addr.mk r1 0 none) (fun v23 =>
  ld H16 (Addr.mk r1 1 none) (fun v24 =>
  ld H16 (Addr.mk r1 2 none) (fun v25 =>
  HCalls Try.prog 25 #[Value.agg #[v23, v24, v25]] H16 (Sp.retK (fun v26 H27 =>
  dInt IntKind.i64 v26 (fun n28 =>
  (ld H27 (Addr.mk r1 1 none) (fun v29 =>
  dInt IntKind.i64 v29 (fun n30 =>
  (Value.int IntKind.i64 n30) = (Value.int IntKind.i64 n22)))) ∧
  wr IntKind.i64 (n22 - n28) (fun n31 =>
  R (Ending.returned (Value.tuple #[Value.int IntKind.i64 n19, Value.int IntKind.i64 n31, Value.bool true])) H27))) nopR))))))))))) nopR))) nopR))))))))
theorem F14_eq (x0_0 : Value) (x0_1 : Value) (x0_2 : Value) (x1 : Int) (R : Ending → Heap → Prop) (H : Heap) : F14 x0_0 x0_1 x0_2 x1 R H = vc Try.prog (codeOf Try.f14) .leaf (postV Try.prog Try.f14 R) ⟨#[Value.agg #[x0_0, x0_1, x0_2], Value.int IntKind.i64 x1] ++ Array.replicate (Try.f14.ntmps - 2) undef, []⟩ H := by kernel_rfl
theorem F14_calls {R : Ending → Heap → Prop} {H : Heap} (x0_0 : Value) (x0_1 : Value) (x0_2 : Value) (x1 : Int) (h : F14 x0_0 x0_1 x0_2 x1 R H) : HCalls Try.prog 14 #[Value.agg #[x0_0, x0_1, x0_2], Value.int IntKind.i64 x1] H R :=
  calls_by (F := F14 x0_0 x0_1 x0_2 x1 R H) .leaf Try.func14 rfl (F14_eq x0_0 x0_1 x0_2 x1 R H) h
/-- bollard/layout.EncodeDinode -/
def F15 (x0_0 : Value) (x0_1 : Value) (x0_2 : Value) (x0_3 : Value) (x0_4 : Value) (x0_5 : Value) (x0_6 : Value) (x0_7 : Value) (x0_8 : Value) (R : Ending → Heap → Prop) (H : Heap) : Prop :=
  al H (Obj.cells #[x0_0, x0_1, x0_2, x0_3, x0_4, x0_5, x0_6, x0_7, x0_8] 50) (fun r1 H2 =>
  ld H2 (Addr.mk r1 0 none) (fun v3 =>
  dInt IntKind.i64 v3 (fun n4 =>
  ld H2 (Addr.mk r1 1 none) (fun v5 =>
  dInt IntKind.i64 v5 (fun n6 =>
  ld H2 (Addr.mk r1 2 none) (fun v7 =>
  dInt IntKind.i64 v7 (fun n8 =>
  al H2 (Obj.cells #[Value.int IntKind.i64 1, Value.int IntKind.i64 2, Value.int IntKind.i64 n4, Value.int IntKind.i64 1, Value.int IntKind.i64 0, Value.int IntKind.i64 0, Value.int IntKind.i64 2, Value.int IntKind.i64 1000, Value.int IntKind.i64 n6, Value.int IntKind.i64 4, Value.int IntKind.i64 532992, Value.int IntKind.i64 n8] 62) (fun r9 H10 =>
  ld H10 (Addr.mk r1 3 none) (fun v11 =>
  ld H10 (Addr.mk r1 4 none) (fun v12 =>
  ld H10 (Addr.mk r1 5 none) (fun v13 =>
  ld H10 (Addr.mk r1 6 none) (fun v14 =>
  ∃ I15 : List Value → Heap → Prop,
  ∃ I16 : List Value → Heap → Nat,
  (I15 ([Value.slice (some (Addr.mk r9 0 none)) 4 4, Value.int IntKind.i64 0]) H10) ∧
  ∀ p17 : Option Addr,
  ∀ r18 : Nat,
  ∀ r19 : Nat,
  ∀ n20 : Int,
  ∀ v21 v22 v23 v24 v25 v26 v27 v28 v29 : Value,
  ∀ H30 : Heap,
  (I15 ([Value.slice p17 r18 r19, Value.int IntKind.i64 n20]) H30) →
  sB (decide (n20 < 4)) (ask ((0 : Int) ≤ n20 ∧ n20 < (4 : Int)) (oV ([v11, v12, v13, v14][Int.toNat n20 * 1]?) (fun v32 =>
  dInt IntKind.i64 v32 (fun n33 =>
  al H30 (Obj.cells #[Value.int IntKind.i64 2, Value.int IntKind.i64 2047, Value.int IntKind.i64 n33] 62) (fun r34 H35 =>
  semW Try.prog (Builtin.append_ #[63, 63] 63 #[Value.slice p17 r18 r19, Value.slice (some (Addr.mk r34 0 none)) 1 1]) (pnR R) H35 (fun v38 H39 =>
  dSl v38 (fun p40 r41 r42 =>
  wr IntKind.i64 (n20 + 1) (fun n43 =>
  (I15 ([Value.slice p40 r41 r42, Value.int IntKind.i64 n43]) H39) ∧
  (I16 [Value.slice p40 r41 r42, Value.int IntKind.i64 n43] H39) < (I16 [Value.slice p17 r18 r19, Value.int IntKind.i64 n20] H30))))))))) (ld H30 (Addr.mk r1 7 none) (fun v44 =>
  dInt IntKind.i64 v44 (fun n45 =>
  ld H30 (Addr.mk r1 8 none) (fun v46 =>
  dInt IntKind.i64 v46 (fun n47 =>
  al H30 (Obj.cells #[Value.int IntKind.i64 2, Value.int IntKind.i64 2047, Value.int IntKind.i64 n45, Value.int IntKind.i64 2, Value.int IntKind.i64 2047, Value.int IntKind.i64 n47] 62) (fun r48 H49 =>
  semW Try.prog (Builtin.append_ #[63, 63] 63 #[Value.slice p17 r18 r19, Value.slice (some (Addr.mk r48 0 none)) 2 2]) (pnR R) H49 (fun v52 H53 =>
  dSl v52 (fun p54 r55 r56 =>
  jn (α := VFH 1) (fun v57 H58 =>
  ∀ v59 v60 v61 v62 v63 v64 v65 : Value,
  dBl v57 (fun b66 =>
  sB b66 (R (Ending.returned (Value.tuple #[Value.slice none 0 0, Value.int IntKind.i64 1])) H58) (HCalls Try.prog 32 #[Value.slice none 0 0, Value.slice p54 r55 r56] H58 (Sp.retK (fun v67 H68 =>
  dSl v67 (fun p69 r70 r71 =>
  HCalls Try.prog 31 #[Value.slice p69 r70 r71, Value.int IntKind.i64 32] H68 (Sp.retK (fun v72 H73 =>
  dSl v72 (fun p74 r75 r76 =>
  ld H73 (Addr.mk r1 0 none) (fun v77 =>
  dInt IntKind.i64 v77 (fun n78 =>
  sB (n78 == 0) (R (Ending.returned (Value.tuple #[Value.slice p74 r75 r76, Value.int IntKind.i64 0])) H73) (HCalls Try.prog 30 #[Value.slice p74 r75 r76] H73 (Sp.retK (fun v79 H80 =>
  dT 2 v79 (fun v81 v82 =>
  dSl v81 (fun p83 r84 r85 =>
  dInt IntKind.i64 v82 (fun n86 =>
  R (Ending.returned (Value.tuple #[Value.slice p83 r84 r85, Value.int IntKind.i64 n86])) H80)))) (pnR R))))))) (pnR R)))) (pnR R))))) (fun k93 =>
  ld H53 (Addr.mk r1 0 none) (fun v94 =>
  ld H53 (Addr.mk r1 1 none) (fun v95 =>
  ld H53 (Addr.mk r1 2 none) (fun v96 =>
  ld H53 (Addr.mk r1 3 none) (fun v97 =>
  ld H53 (Addr.mk r1 4 none) (fun v98 =>
  ld H53 (Addr.mk r1 5 none) (fun v99 =>
  ld H53 (Addr.mk r1 6 none) (fun v100 =>
  ld H53 (Addr.mk r1 7 none) (fun v101 =>
  ld H53 (Addr.mk r1 8 none) (fun v102 =>
  HCalls Try.prog 35 #[Value.agg #[v94, v95, v96, v97, v98, v99, v100, v101, v102]] H53 (Sp.retK (fun v103 H104 =>
  dBl v103 (fun b105 =>
  sB (!b105) (k93 (Value.bool true) H104) (HCalls Try.prog 29 #[Value.slice p54 r55 r56] H104 (Sp.retK (fun v106 H107 =>
  dBl v106 (fun b108 =>
  k93 (Value.bool !b108) H107)) (pnR R))))) (pnR R))))))))))))))))))))))))))))))))
theorem F15_eq (x0_0 : Value) (x0_1 : Value) (x0_2 : Value) (x0_3 : Value) (x0_4 : Value) (x0_5 : Value) (x0_6 : Value) (x0_7 : Value) (x0_8 : Value) (R : Ending → Heap → Prop) (H : Heap) : F15 x0_0 x0_1 x0_2 x0_3 x0_4 x0_5 x0_6 x0_7 x0_8 R H = vc Try.prog (codeOf Try.f15) (.node none .leaf (.node none .leaf (.node none (.node none .leaf (.node none (.node (some ⟨[(4, 63), (21, 3)], [6, 22, 23, 24, 25, 26, 27, 28, 29]⟩) .leaf .leaf) .leaf)) (.node none .leaf (.node none (.node (some ⟨[(46, 4)], [39, 40, 41, 42, 43, 44, 45]⟩) .leaf .leaf) .leaf))))) (postV Try.prog Try.f15 R) ⟨#[Value.agg #[x0_0, x0_1, x0_2, x0_3, x0_4, x0_5, x0_6, x0_7, x0_8]] ++ Array.replicate (Try.f15.ntmps - 1) undef, []⟩ H := by kernel_rfl
theorem F15_calls {R : Ending → Heap → Prop} {H : Heap} (x0_0 : Value) (x0_1 : Value) (x0_2 : Value) (x0_3 : Value) (x0_4 : Value) (x0_5 : Value) (x0_6 : Value) (x0_7 : Value) (x0_8 : Value) (h : F15 x0_0 x0_1 x0_2 x0_3 x0_4 x0_5 x0_6 x0_7 x0_8 R H) : HCalls Try.prog 15 #[Value.agg #[x0_0, x0_1, x0_2, x0_3, x0_4, x0_5, x0_6, x0_7, x0_8]] H R :=
  calls_by (F := F15 x0_0 x0_1 x0_2 x0_3 x0_4 x0_5 x0_6 x0_7 x0_8 R H) (.node none .leaf (.node none .leaf (.node none (.node none .leaf (.node none (.node (some ⟨[(4, 63), (21, 3)], [6, 22, 23, 24, 25, 26, 27, 28, 29]⟩) .leaf .leaf) .leaf)) (.node none .leaf (.node none (.node (some ⟨[(46, 4)], [39, 40, 41, 42, 43, 44, 45]⟩) .leaf .leaf) .leaf))))) Try.func15 rfl (F15_eq x0_0 x0_1 x0_2 x0_3 x0_4 x0_5 x0_6 x0_7 x0_8 R H) h
/-- bollard/geom.Inode -/
def F16 (x0_0 : Value) (x0_1 : Value) (x0_2 : Value) (x1 : Int) (R : Ending → Heap → Prop) (H : Heap) : Prop :=
  al H (Obj.cells #[x0_0, x0_1, x0_2] 23) (fun r1 H2 =>
  ld H2 (Addr.mk r1 0 none) (fun v3 =>
  ld H2 (Addr.mk r1 1 none) (fun v4 =>
  ld H2 (Addr.mk r1 2 none) (fun v5 =>
  HCalls Try.prog 36 #[Value.agg #[v3, v4, v5], Value.int IntKind.i64 x1] H2 (Sp.retK (fun v6 H7 =>
  dT 3 v6 (fun v8 v9 v10 =>
  dInt IntKind.i64 v8 (fun n11 =>
  dInt IntKind.i64 v9 (fun n12 =>
  dBl v10 (fun b13 =>
  sB (!b13) (R (Ending.returned (Value.tuple #[Value.int IntKind.i64 0, Value.int IntKind.i64 0, Value.bool false])) H7) (ld H7 (Addr.mk r1 0 none) (fun v14 =>
  ld H7 (Addr.mk r1 1 none) (fun v15 =>
  ld H7 (Addr.mk r1 2 none) (fun v16 =>
  ask ((4 : Int) ≠ (0 : Int)) (wr IntKind.i64 (Int.tdiv n12 4) (fun n17 =>
  wr IntKind.i64 (2 + n17) (fun n18 =>
  HCalls Try.prog 27 #[Value.agg #[v14, v15, v16], Value.int IntKind.i64 n11, Value.int IntKind.i64 n18] H7 (Sp.retK (fun v19 H20 =>
  dT 2 v19 (fun v21 v22 =>
  dInt IntKind.i64 v21 (fun n23 =>
  dBl v22 (fun b24 =>
  ask ((4 : Int) ≠ (0 : Int)) (nm (Int.tmod n12 4) (fun n25 =>
  wr IntKind.i64 (n25 * 32) (fun n26 =>
  R (Ending.returned (Value.tuple #[Value.int IntKind.i64 n23, Value.int IntKind.i64 n26, Value.bool true])) H20))))))) (pnR R)))))))))))))) (pnR R))))))
theorem F16_eq (x0_0 : Value) (x0_1 : Value) (x0_2 : Value) (x1 : Int) (R : Ending → Heap → Prop) (H : Heap) : F16 x0_0 x0_1 x0_2 x1 R H = vc Try.prog (codeOf Try.f16) .leaf (postV Try.prog Try.f16 R) ⟨#[Value.agg #[x0_0, x0_1, x0_2], Value.int IntKind.i64 x1] ++ Array.replicate (Try.f16.ntmps - 2) undef, []⟩ H := by kernel_rfl
theorem F16_calls {R : Ending → Heap → Prop} {H : Heap} (x0_0 : Value) (x0_1 : Value) (x0_2 : Value) (x1 : Int) (h : F16 x0_0 x0_1 x0_2 x1 R H) : HCalls Try.prog 16 #[Value.agg #[x0_0, x0_1, x0_2], Value.int IntKind.i64 x1] H R :=
  calls_by (F := F16 x0_0 x0_1 x0_2 x1 R H) .leaf Try.func16 rfl (F16_eq x0_0 x0_1 x0_2 x1 R H) h
end Go.Proofs.Ytdlelcpkelginaa.E
/- The functions' forms in the engine's words, printed by my own program. -/
namespace Go.Proofs.Ytdlelcpkelginaa.E
open Go Go.Proofs
set_option linter.unusedVariables false
set_option maxRecDepth 100000
/-- bollard/dirs.Encode -/
def F17 (x0a : Option Addr) (x0n : Nat) (x0c : Nat) (R : Ending → Heap → Prop) (H : Heap) : Prop :=
  jn (α := VFH 1) (fun v1 H2 =>
  ∀ v3 v4 v5 v6 v7 v8 : Value,
  dBl v1 (fun b9 =>
  sB b9 (R (Ending.returned (Value.tuple #[Value.slice none 0 0, Value.int IntKind.i64 1])) H2) (ask ((0 : Int) ≤ (128 : Int) ∧ (128 : Int) ≤ (128 : Int) ∧ (128 : Int) ≤ (281474976710656 : Int) ∧ (128 : Int) ≤ (9223372036854775807 : Int)) (al H2 (Obj.cells (List.toArray (rowZ [Value.int IntKind.u8 0] (Int.toNat 128))) 5) (fun r10 H11 =>
  ∃ I12 : List Value → Heap → Prop,
  ∃ I13 : List Value → Heap → Nat,
  (I12 ([Value.int IntKind.i64 0]) H11) ∧
  ∀ n14 : Int,
  ∀ v15 v16 v17 v18 v19 v20 v21 v22 v23 v24 v25 v26 v27 v28 v29 v30 v31 v32 v33 v34 v35 v36 v37 v38 : Value,
  ∀ H39 : Heap,
  (I12 ([Value.int IntKind.i64 n14]) H39) →
  sB (decide (n14 < (↑x0n : Int))) (nz x0a (fun a41 =>
  ask ((0 : Int) ≤ n14 ∧ n14 < (↑x0n : Int)) (ld H39 (Addr.add a41 (Int.toNat n14 * 2)) (fun v42 =>
  ld H39 (Addr.add (Addr.add a41 (Int.toNat n14 * 2)) 1) (fun v43 =>
  al H39 (Obj.cells #[Value.int IntKind.i64 0, Value.string (ByteArray.mk #[])] 53) (fun r44 H45 =>
  st H45 (Addr.mk r44 0 none) v42 (fun H46 =>
  st H46 (Addr.mk r44 1 none) v43 (fun H47 =>
  ld H47 (Addr.mk r44 0 none) (fun v48 =>
  ld H47 (Addr.mk r44 1 none) (fun v49 =>
  HCalls Try.prog 38 #[Value.agg #[v48, v49]] H47 (Sp.retK (fun v50 H51 =>
  dT 2 v50 (fun v52 v53 =>
  dSl v52 (fun p54 r55 r56 =>
  dInt IntKind.i64 v53 (fun n57 =>
  sB (n57 != 0) (R (Ending.returned (Value.tuple #[Value.slice none 0 0, Value.int IntKind.i64 1])) H51) (wr IntKind.i64 (n14 * 16) (fun n58 =>
  ask ((0 : Int) ≤ n58 ∧ n58 ≤ (↑(Int.toNat (128 : Int)) : Int) ∧ (↑(Int.toNat (128 : Int)) : Int) ≤ (↑(Int.toNat (128 : Int)) : Int) ∧ (↑(Int.toNat (128 : Int)) : Int) ≤ (↑(Int.toNat (128 : Int)) : Int)) (semW Try.prog (Builtin.copy_ #[32, 32] 3 #[Value.slice (slO (some (Addr.mk r10 0 none)) 1 n58 (↑(Int.toNat 128) : Int)) (Int.toNat (↑(Int.toNat 128) : Int) - Int.toNat n58) (Int.toNat (↑(Int.toNat 128) : Int) - Int.toNat n58), Value.slice p54 r55 r56]) (pnR R) H51 (fun v61 H62 =>
  dInt IntKind.i64 v61 (fun n63 =>
  wr IntKind.i64 (n14 + 1) (fun n64 =>
  (I12 ([Value.int IntKind.i64 n64]) H62) ∧
  (I13 [Value.int IntKind.i64 n64] H62) < (I13 [Value.int IntKind.i64 n14] H39))))))))))) (pnR R)))))))))))) (R (Ending.returned (Value.tuple #[Value.slice (some (Addr.mk r10 0 none)) (Int.toNat 128) (Int.toNat 128), Value.int IntKind.i64 0])) H39)))))) (fun k67 =>
  sB (decide ((↑x0n : Int) > 8)) (k67 (Value.bool true) H) (HCalls Try.prog 37 #[Value.slice x0a x0n x0c] H (Sp.retK (fun v68 H69 =>
  dBl v68 (fun b70 =>
  k67 (Value.bool b70) H69)) (pnR R))))
theorem F17_eq (x0a : Option Addr) (x0n : Nat) (x0c : Nat) (R : Ending → Heap → Prop) (H : Heap) : F17 x0a x0n x0c R H = vc Try.prog (codeOf Try.f17) (.node none .leaf (.node none (.node (some ⟨[(15, 4)], [9, 10, 11, 12, 13, 14]⟩) .leaf .leaf) (.node none .leaf (.node none (.node none .leaf (.node none (.node (some ⟨[(19, 3)], [2, 3, 5, 6, 7, 8, 20, 21, 22, 23, 24, 25, 26, 27, 28, 29, 30, 31, 32, 33, 34, 35, 36, 37]⟩) .leaf .leaf) .leaf)) .leaf)))) (postV Try.prog Try.f17 R) ⟨#[Value.slice x0a x0n x0c] ++ Array.replicate (Try.f17.ntmps - 1) undef, []⟩ H := by kernel_rfl
theorem F17_calls {R : Ending → Heap → Prop} {H : Heap} (x0a : Option Addr) (x0n : Nat) (x0c : Nat) (h : F17 x0a x0n x0c R H) : HCalls Try.prog 17 #[Value.slice x0a x0n x0c] H R :=
  calls_by (F := F17 x0a x0n x0c R H) (.node none .leaf (.node none (.node (some ⟨[(15, 4)], [9, 10, 11, 12, 13, 14]⟩) .leaf .leaf) (.node none .leaf (.node none (.node none .leaf (.node none (.node (some ⟨[(19, 3)], [2, 3, 5, 6, 7, 8, 20, 21, 22, 23, 24, 25, 26, 27, 28, 29, 30, 31, 32, 33, 34, 35, 36, 37]⟩) .leaf .leaf) .leaf)) .leaf)))) Try.func17 rfl (F17_eq x0a x0n x0c R H) h
/-- bollard/bollardref04.Can -/
def F18 (x0_0 : Value) (x0_1 : Value) (x0_2 : Value) (R : Ending → Heap → Prop) (H : Heap) : Prop :=
  al H (Obj.cells #[x0_0, x0_1, x0_2] 23) (fun r1 H2 =>
  jn (α := VFH 1) (fun v3 H4 =>
  ∀ v5 v6 v7 v8 v9 v10 v11 v12 v13 v14 v15 v16 v17 v18 v19 v20 v21 v22 v23 v24 v25 v26 v27 v28 v29 v30 v31 v32 v33 v34 v35 v36 v37 v38 v39 v40 v41 v42 v43 v44 v45 v46 : Value,
  dBl v3 (fun b47 =>
  sB b47 (R (Ending.returned (Value.int IntKind.i64 170)) H4) (R (Ending.returned (Value.int IntKind.i64 0)) H4))) (fun k48 =>
  ld H2 (Addr.mk r1 0 none) (fun v49 =>
  dInt IntKind.i64 v49 (fun n50 =>
  sB (decide (n50 < 1)) (k48 (Value.bool true) H2) (ld H2 (Addr.mk r1 0 none) (fun v51 =>
  dInt IntKind.i64 v51 (fun n52 =>
  sB (decide (n52 > 8)) (k48 (Value.bool true) H2) (ld H2 (Addr.mk r1 1 none) (fun v53 =>
  dInt IntKind.i64 v53 (fun n54 =>
  sB (decide (n54 < 8)) (k48 (Value.bool true) H2) (ld H2 (Addr.mk r1 1 none) (fun v55 =>
  dInt IntKind.i64 v55 (fun n56 =>
  sB (decide (n56 > 256)) (k48 (Value.bool true) H2) (ld H2 (Addr.mk r1 2 none) (fun v57 =>
  dInt IntKind.i64 v57 (fun n58 =>
  sB (decide (n58 < 4)) (k48 (Value.bool true) H2) (ld H2 (Addr.mk r1 2 none) (fun v59 =>
  dInt IntKind.i64 v59 (fun n60 =>
  sB (decide (n60 > 64)) (k48 (Value.bool true) H2) (ld H2 (Addr.mk r1 2 none) (fun v61 =>
  dInt IntKind.i64 v61 (fun n62 =>
  ask ((4 : Int) ≠ (0 : Int)) (nm (Int.tmod n62 4) (fun n63 =>
  sB (n63 != 0) (k48 (Value.bool true) H2) (ld H2 (Addr.mk r1 1 none) (fun v64 =>
  dInt IntKind.i64 v64 (fun n65 =>
  ld H2 (Addr.mk r1 2 none) (fun v66 =>
  dInt IntKind.i64 v66 (fun n67 =>
  ask ((4 : Int) ≠ (0 : Int)) (wr IntKind.i64 (Int.tdiv n67 4) (fun n68 =>
  wr IntKind.i64 (3 + n68) (fun n69 =>
  k48 (Value.bool (decide (n65 < n69))) H2))))))))))))))))))))))))))))))))
theorem F18_eq (x0_0 : Value) (x0_1 : Value) (x0_2 : Value) (R : Ending → Heap → Prop) (H : Heap) : F18 x0_0 x0_1 x0_2 R H = vc Try.prog (codeOf Try.f18) (.node none .leaf (.node none (.node (some ⟨[(45, 4)], [3, 4, 5, 6, 7, 8, 9, 10, 11, 12, 13, 14, 15, 16, 17, 18, 19, 20, 21, 22, 23, 24, 25, 26, 27, 28, 29, 30, 31, 32, 33, 34, 35, 36, 37, 38, 39, 40, 41, 42, 43, 44]⟩) .leaf .leaf) .leaf)) (postV Try.prog Try.f18 R) ⟨#[Value.agg #[x0_0, x0_1, x0_2]] ++ Array.replicate (Try.f18.ntmps - 1) undef, []⟩ H := by kernel_rfl
theorem F18_calls {R : Ending → Heap → Prop} {H : Heap} (x0_0 : Value) (x0_1 : Value) (x0_2 : Value) (h : F18 x0_0 x0_1 x0_2 R H) : HCalls Try.prog 18 #[Value.agg #[x0_0, x0_1, x0_2]] H R :=
  calls_by (F := F18 x0_0 x0_1 x0_2 R H) (.node none .leaf (.node none (.node (some ⟨[(45, 4)], [3, 4, 5, 6, 7, 8, 9, 10, 11, 12, 13, 14, 15, 16, 17, 18, 19, 20, 21, 22, 23, 24, 25, 26, 27, 28, 29, 30, 31, 32, 33, 34, 35, 36, 37, 38, 39, 40, 41, 42, 43, 44]⟩) .leaf .leaf) .leaf)) Try.func18 rfl (F18_eq x0_0 x0_1 x0_2 R H) h
/-- bollard/bollardref17.group -/
def F19 (x0_0 : Value) (x0_1 : Value) (x0_2 : Value) (x1 : Int) (R : Ending → Heap → Prop) (H : Heap) : Prop :=
  al H (Obj.cells #[x0_0, x0_1, x0_2] 23) (fun r1 H2 =>
  ld H2 (Addr.mk r1 0 none) (fun v3 =>
  ld H2 (Addr.mk r1 1 none) (fun v4 =>
  ld H2 (Addr.mk r1 2 none) (fun v5 =>
  HCalls Try.prog 39 #[Value.agg #[v3, v4, v5, Value.int IntKind.i64 0]] H2 (Sp.retK (fun v6 H7 =>
  dT 2 v6 (fun v8 v9 =>
  dSl v8 (fun p10 r11 r12 =>
  dInt IntKind.i64 v9 (fun n13 =>
  al H7 (Obj.cells #[Value.int IntKind.i64 0, Value.int IntKind.u8 0, Value.int IntKind.u8 0, Value.int IntKind.u8 0, Value.int IntKind.u8 0, Value.int IntKind.u8 0, Value.int IntKind.u8 0, Value.int IntKind.u8 0, Value.int IntKind.u8 0, Value.int IntKind.u8 0, Value.int IntKind.u8 0, Value.int IntKind.u8 0, Value.int IntKind.u8 0, Value.int IntKind.u8 0, Value.int IntKind.u8 0, Value.int IntKind.u8 0, Value.int IntKind.u8 0, Value.int IntKind.u8 0, Value.int IntKind.u8 0, Value.int IntKind.u8 0, Value.int IntKind.u8 0, Value.int IntKind.u8 0, Value.int IntKind.u8 0, Value.int IntKind.u8 0, Value.int IntKind.u8 0, Value.int IntKind.u8 0, Value.int IntKind.u8 0, Value.int IntKind.u8 0, Value.int IntKind.u8 0, Value.int IntKind.u8 0, Value.int IntKind.u8 0, Value.int IntKind.u8 0, Value.int IntKind.u8 0, Value.int IntKind.u8 0, Value.int IntKind.u8 0, Value.int IntKind.u8 0, Value.int IntKind.u8 0, Value.int IntKind.u8 0, Value.int IntKind.u8 0, Value.int IntKind.u8 0, Value.int IntKind.u8 0] 43) (fun r14 H15 =>
  st H15 (Addr.mk r14 0 none) (Value.int IntKind.i64 x1) (fun H16 =>
  st H16 (Addr.mk r14 1 none) (Value.int IntKind.u8 0) (fun H17 =>
  st H17 (Addr.mk r14 2 none) (Value.int IntKind.u8 0) (fun H18 =>
  st H18 (Addr.mk r14 3 none) (Value.int IntKind.u8 0) (fun H19 =>
  st H19 (Addr.mk r14 4 none) (Value.int IntKind.u8 0) (fun H20 =>
  st H20 (Addr.mk r14 5 none) (Value.int IntKind.u8 0) (fun H21 =>
  st H21 (Addr.mk r14 6 none) (Value.int IntKind.u8 0) (fun H22 =>
  st H22 (Addr.mk r14 7 none) (Value.int IntKind.u8 0) (fun H23 =>
  st H23 (Addr.mk r14 8 none) (Value.int IntKind.u8 0) (fun H24 =>
  st H24 (Addr.mk r14 9 none) (Value.int IntKind.u8 0) (fun H25 =>
  st H25 (Addr.mk r14 10 none) (Value.int IntKind.u8 0) (fun H26 =>
  st H26 (Addr.mk r14 11 none) (Value.int IntKind.u8 0) (fun H27 =>
  st H27 (Addr.mk r14 12 none) (Value.int IntKind.u8 0) (fun H28 =>
  st H28 (Addr.mk r14 13 none) (Value.int IntKind.u8 0) (fun H29 =>
  st H29 (Addr.mk r14 14 none) (Value.int IntKind.u8 0) (fun H30 =>
  st H30 (Addr.mk r14 15 none) (Value.int IntKind.u8 0) (fun H31 =>
  st H31 (Addr.mk r14 16 none) (Value.int IntKind.u8 0) (fun H32 =>
  st H32 (Addr.mk r14 17 none) (Value.int IntKind.u8 0) (fun H33 =>
  st H33 (Addr.mk r14 18 none) (Value.int IntKind.u8 0) (fun H34 =>
  st H34 (Addr.mk r14 19 none) (Value.int IntKind.u8 0) (fun H35 =>
  st H35 (Addr.mk r14 20 none) (Value.int IntKind.u8 0) (fun H36 =>
  st H36 (Addr.mk r14 21 none) (Value.int IntKind.u8 0) (fun H37 =>
  st H37 (Addr.mk r14 22 none) (Value.int IntKind.u8 0) (fun H38 =>
  st H38 (Addr.mk r14 23 none) (Value.int IntKind.u8 0) (fun H39 =>
  st H39 (Addr.mk r14 24 none) (Value.int IntKind.u8 0) (fun H40 =>
  st H40 (Addr.mk r14 25 none) (Value.int IntKind.u8 0) (fun H41 =>
  st H41 (Addr.mk r14 26 none) (Value.int IntKind.u8 0) (fun H42 =>
  st H42 (Addr.mk r14 27 none) (Value.int IntKind.u8 0) (fun H43 =>
  st H43 (Addr.mk r14 28 none) (Value.int IntKind.u8 0) (fun H44 =>
  st H44 (Addr.mk r14 29 none) (Value.int IntKind.u8 0) (fun H45 =>
  st H45 (Addr.mk r14 30 none) (Value.int IntKind.u8 0) (fun H46 =>
  st H46 (Addr.mk r14 31 none) (Value.int IntKind.u8 0) (fun H47 =>
  st H47 (Addr.mk r14 32 none) (Value.int IntKind.u8 0) (fun H48 =>
  st H48 (Addr.mk r14 33 none) (Value.int IntKind.u8 0) (fun H49 =>
  st H49 (Addr.mk r14 34 none) (Value.int IntKind.u8 0) (fun H50 =>
  st H50 (Addr.mk r14 35 none) (Value.int IntKind.u8 0) (fun H51 =>
  st H51 (Addr.mk r14 36 none) (Value.int IntKind.u8 0) (fun H52 =>
  st H52 (Addr.mk r14 37 none) (Value.int IntKind.u8 0) (fun H53 =>
  st H53 (Addr.mk r14 38 none) (Value.int IntKind.u8 0) (fun H54 =>
  st H54 (Addr.mk r14 39 none) (Value.int IntKind.u8 0) (fun H55 =>
  st H55 (Addr.mk r14 40 none) (Value.int IntKind.u8 0) (fun H56 =>
  ld H56 (Addr.mk r1 2 none) (fun v57 =>
  dInt IntKind.i64 v57 (fun n58 =>
  ask ((4 : Int) ≠ (0 : Int)) (wr IntKind.i64 (Int.tdiv n58 4) (fun n59 =>
  wr IntKind.i64 (2 + n59) (fun n60 =>
  ∃ I61 : List Value → Heap → Prop,
  ∃ I62 : List Value → Heap → Nat,
  (I61 ([Value.int IntKind.i64 0]) H56) ∧
  ∀ n63 : Int,
  ∀ v64 v65 v66 v67 v68 v69 v70 v71 v72 v73 v74 v75 v76 v77 v78 v79 v80 : Value,
  ∀ H81 : Heap,
  (I61 ([Value.int IntKind.i64 n63]) H81) →
  sB (decide (n63 < n60)) (ask ((0 : Int) ≤ (0 : Int) ∧ (0 : Int) ≤ (32 : Int) ∧ (32 : Int) ≤ (32 : Int) ∧ (32 : Int) ≤ (32 : Int)) (HCalls Try.prog 40 #[Value.slice (slO (some (Addr.mk r14 9 none)) 1 0 32) (Int.toNat 32 - Int.toNat 0) (Int.toNat 32 - Int.toNat 0), Value.int IntKind.i64 n63, Value.bool true] H81 (Sp.retK (fun v83 H84 =>
  dT 2 v83 (fun v85 v86 =>
  dSl v85 (fun p87 r88 r89 =>
  dInt IntKind.i64 v86 (fun n90 =>
  ask ((0 : Int) ≤ (0 : Int) ∧ (0 : Int) ≤ (32 : Int) ∧ (32 : Int) ≤ (32 : Int) ∧ (32 : Int) ≤ (32 : Int)) (semW Try.prog (Builtin.copy_ #[32, 32] 3 #[Value.slice (slO (some (Addr.mk r14 9 none)) 1 0 32) (Int.toNat 32 - Int.toNat 0) (Int.toNat 32 - Int.toNat 0), Value.slice p87 r88 r89]) (pnR R) H84 (fun v93 H94 =>
  dInt IntKind.i64 v93 (fun n95 =>
  wr IntKind.i64 (n63 + 1) (fun n96 =>
  (I61 ([Value.int IntKind.i64 n96]) H94) ∧
  (I62 [Value.int IntKind.i64 n96] H94) < (I62 [Value.int IntKind.i64 n63] H81))))))))) (pnR R)))) (jn (α := VFH 0) (fun H99 =>
  ∀ v100 v101 v102 v103 v104 v105 v106 v107 v108 v109 v110 v111 v112 v113 v114 v115 v116 v117 v118 v119 : Value,
  ld H99 (Addr.mk r14 0 none) (fun v120 =>
  ld H99 (Addr.mk r14 1 none) (fun v121 =>
  ld H99 (Addr.mk r14 2 none) (fun v122 =>
  ld H99 (Addr.mk r14 3 none) (fun v123 =>
  ld H99 (Addr.mk r14 4 none) (fun v124 =>
  ld H99 (Addr.mk r14 5 none) (fun v125 =>
  ld H99 (Addr.mk r14 6 none) (fun v126 =>
  ld H99 (Addr.mk r14 7 none) (fun v127 =>
  ld H99 (Addr.mk r14 8 none) (fun v128 =>
  ld H99 (Addr.mk r14 9 none) (fun v129 =>
  ld H99 (Addr.mk r14 10 none) (fun v130 =>
  ld H99 (Addr.mk r14 11 none) (fun v131 =>
  ld H99 (Addr.mk r14 12 none) (fun v132 =>
  ld H99 (Addr.mk r14 13 none) (fun v133 =>
  ld H99 (Addr.mk r14 14 none) (fun v134 =>
  ld H99 (Addr.mk r14 15 none) (fun v135 =>
  ld H99 (Addr.mk r14 16 none) (fun v136 =>
  ld H99 (Addr.mk r14 17 none) (fun v137 =>
  ld H99 (Addr.mk r14 18 none) (fun v138 =>
  ld H99 (Addr.mk r14 19 none) (fun v139 =>
  ld H99 (Addr.mk r14 20 none) (fun v140 =>
  ld H99 (Addr.mk r14 21 none) (fun v141 =>
  ld H99 (Addr.mk r14 22 none) (fun v142 =>
  ld H99 (Addr.mk r14 23 none) (fun v143 =>
  ld H99 (Addr.mk r14 24 none) (fun v144 =>
  ld H99 (Addr.mk r14 25 none) (fun v145 =>
  ld H99 (Addr.mk r14 26 none) (fun v146 =>
  ld H99 (Addr.mk r14 27 none) (fun v147 =>
  ld H99 (Addr.mk r14 28 none) (fun v148 =>
  ld H99 (Addr.mk r14 29 none) (fun v149 =>
  ld H99 (Addr.mk r14 30 none) (fun v150 =>
  ld H99 (Addr.mk r14 31 none) (fun v151 =>
  ld H99 (Addr.mk r14 32 none) (fun v152 =>
  ld H99 (Addr.mk r14 33 none) (fun v153 =>
  ld H99 (Addr.mk r14 34 none) (fun v154 =>
  ld H99 (Addr.mk r14 35 none) (fun v155 =>
  ld H99 (Addr.mk r14 36 none) (fun v156 =>
  ld H99 (Addr.mk r14 37 none) (fun v157 =>
  ld H99 (Addr.mk r14 38 none) (fun v158 =>
  ld H99 (Addr.mk r14 39 none) (fun v159 =>
  ld H99 (Addr.mk r14 40 none) (fun v160 =>
  HCalls Try.prog 41 #[Value.agg #[v120, v121, v122, v123, v124, v125, v126, v127, v128, v129, v130, v131, v132, v133, v134, v135, v136, v137, v138, v139, v140, v141, v142, v143, v144, v145, v146, v147, v148, v149, v150, v151, v152, v153, v154, v155, v156, v157, v158, v159, v160]] H99 (Sp.retK (fun v161 H162 =>
  dT 2 v161 (fun v163 v164 =>
  dSl v163 (fun p165 r166 r167 =>
  dInt IntKind.i64 v164 (fun n168 =>
  al H162 (Obj.cells #[Value.slice p10 r11 r12, Value.slice p165 r166 r167] 32) (fun r169 H170 =>
  ∃ I171 : List Value → Heap → Prop,
  ∃ I172 : List Value → Heap → Nat,
  (I171 ([Value.slice (some (Addr.mk r169 0 none)) 2 2]) H170) ∧
  ∀ p173 : Option Addr,
  ∀ r174 : Nat,
  ∀ r175 : Nat,
  ∀ v176 v177 v178 v179 v180 v181 v182 v183 v184 : Value,
  ∀ H185 : Heap,
  (I171 ([Value.slice p173 r174 r175]) H185) →
  ld H185 (Addr.mk r1 1 none) (fun v187 =>
  dInt IntKind.i64 v187 (fun n188 =>
  sB (decide ((↑r174 : Int) < n188)) (ask ((0 : Int) ≤ (128 : Int) ∧ (128 : Int) ≤ (128 : Int) ∧ (128 : Int) ≤ (281474976710656 : Int) ∧ (128 : Int) ≤ (9223372036854775807 : Int)) (al H185 (Obj.cells (List.toArray (rowZ [Value.int IntKind.u8 0] (Int.toNat 128))) 5) (fun r189 H190 =>
  al H190 (Obj.cells #[Value.slice (some (Addr.mk r189 0 none)) (Int.toNat 128) (Int.toNat 128)] 32) (fun r191 H192 =>
  semW Try.prog (Builtin.append_ #[24, 24] 24 #[Value.slice p173 r174 r175, Value.slice (some (Addr.mk r191 0 none)) 1 1]) (pnR R) H192 (fun v195 H196 =>
  dSl v195 (fun p197 r198 r199 =>
  (I171 ([Value.slice p197 r198 r199]) H196) ∧
  (I172 [Value.slice p197 r198 r199] H196) < (I172 [Value.slice p173 r174 r175] H185))))))) (R (Ending.returned (Value.slice p173 r174 r175)) H185)))))))) (pnR R)))))))))))))))))))))))))))))))))))))))))))) (fun k202 =>
  sB (x1 == 0) (ask ((0 : Int) ≤ (0 : Int) ∧ (0 : Int) ≤ (32 : Int) ∧ (32 : Int) ≤ (32 : Int) ∧ (32 : Int) ≤ (32 : Int)) (ld H81 (Addr.mk r1 2 none) (fun v203 =>
  dInt IntKind.i64 v203 (fun n204 =>
  ask ((4 : Int) ≠ (0 : Int)) (wr IntKind.i64 (Int.tdiv n204 4) (fun n205 =>
  wr IntKind.i64 (2 + n205) (fun n206 =>
  HCalls Try.prog 40 #[Value.slice (slO (some (Addr.mk r14 9 none)) 1 0 32) (Int.toNat 32 - Int.toNat 0) (Int.toNat 32 - Int.toNat 0), Value.int IntKind.i64 n206, Value.bool true] H81 (Sp.retK (fun v207 H208 =>
  dT 2 v207 (fun v209 v210 =>
  dSl v209 (fun p211 r212 r213 =>
  dInt IntKind.i64 v210 (fun n214 =>
  ask ((0 : Int) ≤ (0 : Int) ∧ (0 : Int) ≤ (32 : Int) ∧ (32 : Int) ≤ (32 : Int) ∧ (32 : Int) ≤ (32 : Int)) (semW Try.prog (Builtin.copy_ #[32, 32] 3 #[Value.slice (slO (some (Addr.mk r14 9 none)) 1 0 32) (Int.toNat 32 - Int.toNat 0) (Int.toNat 32 - Int.toNat 0), Value.slice p211 r212 r213]) (pnR R) H208 (fun v217 H218 =>
  dInt IntKind.i64 v217 (fun n219 =>
  ask ((0 : Int) ≤ (0 : Int) ∧ (0 : Int) < (8 : Int)) (st H218 (Addr.add (Addr.mk r14 1 none) (Int.toNat 0 * 1)) (Value.int IntKind.u8 7) (fun H220 =>
  k202 H220))))))))) nopR)))))))) (k202 H81)))))))))))))))))))))))))))))))))))))))))))))))))))))) (pnR R))))))
theorem F19_eq (x0_0 : Value) (x0_1 : Value) (x0_2 : Value) (x1 : Int) (R : Ending → Heap → Prop) (H : Heap) : F19 x0_0 x0_1 x0_2 x1 R H = vc Try.prog (codeOf Try.f19) (.node none .leaf (.node none .leaf (.node none .leaf (.node none (.node none .leaf (.node none (.node (some ⟨[(28, 3)], [8, 9, 10, 29, 30, 31, 32, 33, 34, 35, 36, 37, 38, 39, 40, 41, 42]⟩) .leaf .leaf) .leaf)) (.node (some ⟨[], [11, 12, 43, 44, 45, 46, 47, 48, 49, 50, 51, 52, 53, 54, 55, 56, 57, 58, 59, 60]⟩) .leaf (.node none .leaf (.node none .leaf (.node none (.node none (.node (some ⟨[(15, 24)], [69, 70, 71, 72, 73, 74, 75, 76, 77]⟩) .leaf .leaf) .leaf) .leaf)))))))) (postV Try.prog Try.f19 R) ⟨#[Value.agg #[x0_0, x0_1, x0_2], Value.int IntKind.i64 x1] ++ Array.replicate (Try.f19.ntmps - 2) undef, []⟩ H := by kernel_rfl
theorem F19_calls {R : Ending → Heap → Prop} {H : Heap} (x0_0 : Value) (x0_1 : Value) (x0_2 : Value) (x1 : Int) (h : F19 x0_0 x0_1 x0_2 x1 R H) : HCalls Try.prog 19 #[Value.agg #[x0_0, x0_1, x0_2], Value.int IntKind.i64 x1] H R :=
  calls_by (F := F19 x0_0 x0_1 x0_2 x1 R H) (.node none .leaf (.node none .leaf (.node none .leaf (.node none (.node none .leaf (.node none (.node (some ⟨[(28, 3)], [8, 9, 10, 29, 30, 31, 32, 33, 34, 35, 36, 37, 38, 39, 40, 41, 42]⟩) .leaf .leaf) .leaf)) (.node (some ⟨[], [11, 12, 43, 44, 45, 46, 47, 48, 49, 50, 51, 52, 53, 54, 55, 56, 57, 58, 59, 60]⟩) .leaf (.node none .leaf (.node none .leaf (.node none (.node none (.node (some ⟨[(15, 24)], [69, 70, 71, 72, 73, 74, 75, 76, 77]⟩) .leaf .leaf) .leaf) .leaf)))))))) Try.func19 rfl (F19_eq x0_0 x0_1 x0_2 x1 R H) h
/-- bollard/bollardref03.EncodeDinode -/
def F20 (x0_0 : Value) (x0_1 : Value) (x0_2 : Value) (x0_3 : Value) (x0_4 : Value) (x0_5 : Value) (x0_6 : Value) (x0_7 : Value) (x0_8 : Value) (R : Ending → Heap → Prop) (H : Heap) : Prop :=
  al H (Obj.cells #[x0_0, x0_1, x0_2, x0_3, x0_4, x0_5, x0_6, x0_7, x0_8] 50) (fun r1 H2 =>
  ld H2 (Addr.mk r1 0 none) (fun v3 =>
  ld H2 (Addr.mk r1 1 none) (fun v4 =>
  ld H2 (Addr.mk r1 2 none) (fun v5 =>
  ld H2 (Addr.mk r1 3 none) (fun v6 =>
  ld H2 (Addr.mk r1 4 none) (fun v7 =>
  ld H2 (Addr.mk r1 5 none) (fun v8 =>
  ld H2 (Addr.mk r1 6 none) (fun v9 =>
  ld H2 (Addr.mk r1 7 none) (fun v10 =>
  ld H2 (Addr.mk r1 8 none) (fun v11 =>
  HCalls Try.prog 42 #[Value.agg #[v3, v4, v5, v6, v7, v8, v9, v10, v11]] H2 (Sp.retK (fun v12 H13 =>
  dBl v12 (fun b14 =>
  sB (!b14) (R (Ending.returned (Value.tuple #[Value.slice none 0 0, Value.int IntKind.i64 1])) H13) (ask ((0 : Int) ≤ (32 : Int) ∧ (32 : Int) ≤ (32 : Int) ∧ (32 : Int) ≤ (281474976710656 : Int) ∧ (32 : Int) ≤ (9223372036854775807 : Int)) (al H13 (Obj.cells (List.toArray (rowZ [Value.int IntKind.u8 0] (Int.toNat 32))) 5) (fun r15 H16 =>
  ld H16 (Addr.mk r1 0 none) (fun v17 =>
  dInt IntKind.i64 v17 (fun n18 =>
  sB (n18 == 0) (R (Ending.returned (Value.tuple #[Value.slice (some (Addr.mk r15 0 none)) (Int.toNat 32) (Int.toNat 32), Value.int IntKind.i64 0])) H16) (ld H16 (Addr.mk r1 0 none) (fun v19 =>
  dInt IntKind.i64 v19 (fun n20 =>
  HCalls Try.prog 43 #[Value.slice (some (Addr.mk r15 0 none)) (Int.toNat 32) (Int.toNat 32), Value.int IntKind.i64 0, Value.int IntKind.i64 1, Value.int IntKind.i64 n20] H16 (Sp.retK (fun v21 H22 =>
  dSl v21 (fun p23 r24 r25 =>
  ld H22 (Addr.mk r1 1 none) (fun v26 =>
  dInt IntKind.i64 v26 (fun n27 =>
  HCalls Try.prog 43 #[Value.slice p23 r24 r25, Value.int IntKind.i64 2, Value.int IntKind.i64 2, Value.int IntKind.i64 n27] H22 (Sp.retK (fun v28 H29 =>
  dSl v28 (fun p30 r31 r32 =>
  ld H29 (Addr.mk r1 2 none) (fun v33 =>
  dInt IntKind.i64 v33 (fun n34 =>
  HCalls Try.prog 43 #[Value.slice p30 r31 r32, Value.int IntKind.i64 4, Value.int IntKind.i64 4, Value.int IntKind.i64 n34] H29 (Sp.retK (fun v35 H36 =>
  dSl v35 (fun p37 r38 r39 =>
  ld H36 (Addr.mk r1 3 none) (fun v40 =>
  ld H36 (Addr.mk r1 4 none) (fun v41 =>
  ld H36 (Addr.mk r1 5 none) (fun v42 =>
  ld H36 (Addr.mk r1 6 none) (fun v43 =>
  ∃ I44 : List Value → Heap → Prop,
  ∃ I45 : List Value → Heap → Nat,
  (I44 ([Value.slice p37 r38 r39, Value.int IntKind.i64 0]) H36) ∧
  ∀ p46 : Option Addr,
  ∀ r47 : Nat,
  ∀ r48 : Nat,
  ∀ n49 : Int,
  ∀ v50 v51 v52 v53 v54 v55 v56 v57 v58 v59 v60 v61 : Value,
  ∀ H62 : Heap,
  (I44 ([Value.slice p46 r47 r48, Value.int IntKind.i64 n49]) H62) →
  sB (decide (n49 < 4)) (ask ((0 : Int) ≤ n49 ∧ n49 < (4 : Int)) (oV ([v40, v41, v42, v43][Int.toNat n49 * 1]?) (fun v64 =>
  dInt IntKind.i64 v64 (fun n65 =>
  wr IntKind.i64 (2 * n49) (fun n66 =>
  wr IntKind.i64 (8 + n66) (fun n67 =>
  HCalls Try.prog 43 #[Value.slice p46 r47 r48, Value.int IntKind.i64 n67, Value.int IntKind.i64 2, Value.int IntKind.i64 n65] H62 (Sp.retK (fun v68 H69 =>
  dSl v68 (fun p70 r71 r72 =>
  wr IntKind.i64 (n49 + 1) (fun n73 =>
  (I44 ([Value.slice p70 r71 r72, Value.int IntKind.i64 n73]) H69) ∧
  (I45 [Value.slice p70 r71 r72, Value.int IntKind.i64 n73] H69) < (I45 [Value.slice p46 r47 r48, Value.int IntKind.i64 n49] H62)))) (pnR R)))))))) (ld H62 (Addr.mk r1 7 none) (fun v76 =>
  dInt IntKind.i64 v76 (fun n77 =>
  HCalls Try.prog 43 #[Value.slice p46 r47 r48, Value.int IntKind.i64 16, Value.int IntKind.i64 2, Value.int IntKind.i64 n77] H62 (Sp.retK (fun v78 H79 =>
  dSl v78 (fun p80 r81 r82 =>
  ld H79 (Addr.mk r1 8 none) (fun v83 =>
  dInt IntKind.i64 v83 (fun n84 =>
  HCalls Try.prog 43 #[Value.slice p80 r81 r82, Value.int IntKind.i64 18, Value.int IntKind.i64 2, Value.int IntKind.i64 n84] H79 (Sp.retK (fun v85 H86 =>
  dSl v85 (fun p87 r88 r89 =>
  HCalls Try.prog 44 #[Value.slice p87 r88 r89] H86 (Sp.retK (fun v90 H91 =>
  dT 2 v90 (fun v92 v93 =>
  dSl v92 (fun p94 r95 r96 =>
  dInt IntKind.i64 v93 (fun n97 =>
  R (Ending.returned (Value.tuple #[Value.slice p94 r95 r96, Value.int IntKind.i64 n97])) H91)))) (pnR R)))) (pnR R)))))) (pnR R))))))))))) (pnR R)))))) (pnR R)))))) (pnR R)))))))))))) (pnR R))))))))))))
theorem F20_eq (x0_0 : Value) (x0_1 : Value) (x0_2 : Value) (x0_3 : Value) (x0_4 : Value) (x0_5 : Value) (x0_6 : Value) (x0_7 : Value) (x0_8 : Value) (R : Ending → Heap → Prop) (H : Heap) : F20 x0_0 x0_1 x0_2 x0_3 x0_4 x0_5 x0_6 x0_7 x0_8 R H = vc Try.prog (codeOf Try.f20) (.node none .leaf (.node none .leaf (.node none .leaf (.node none .leaf (.node none .leaf (.node none .leaf (.node none .leaf (.node none (.node none .leaf (.node none (.node (some ⟨[(4, 32), (29, 3)], [5, 6, 30, 31, 32, 33, 34, 35, 36, 37, 38, 39]⟩) .leaf .leaf) .leaf)) .leaf)))))))) (postV Try.prog Try.f20 R) ⟨#[Value.agg #[x0_0, x0_1, x0_2, x0_3, x0_4, x0_5, x0_6, x0_7, x0_8]] ++ Array.replicate (Try.f20.ntmps - 1) undef, []⟩ H := by kernel_rfl
theorem F20_calls {R : Ending → Heap → Prop} {H : Heap} (x0_0 : Value) (x0_1 : Value) (x0_2 : Value) (x0_3 : Value) (x0_4 : Value) (x0_5 : Value) (x0_6 : Value) (x0_7 : Value) (x0_8 : Value) (h : F20 x0_0 x0_1 x0_2 x0_3 x0_4 x0_5 x0_6 x0_7 x0_8 R H) : HCalls Try.prog 20 #[Value.agg #[x0_0, x0_1, x0_2, x0_3, x0_4, x0_5, x0_6, x0_7, x0_8]] H R :=
  calls_by (F := F20 x0_0 x0_1 x0_2 x0_3 x0_4 x0_5 x0_6 x0_7 x0_8 R H) (.node none .leaf (.node none .leaf (.node none .leaf (.node none .leaf (.node none .leaf (.node none .leaf (.node none .leaf (.node none (.node none .leaf (.node none (.node (some ⟨[(4, 32), (29, 3)], [5, 6, 30, 31, 32, 33, 34, 35, 36, 37, 38, 39]⟩) .leaf .leaf) .leaf)) .leaf)))))))) Try.func20 rfl (F20_eq x0_0 x0_1 x0_2 x0_3 x0_4 x0_5 x0_6 x0_7 x0_8 R H) h
/-- bollard/bollardref12.Encode -/
def F21 (x0a : Option Addr) (x0n : Nat) (x0c : Nat) (R : Ending → Heap → Prop) (H : Heap) : Prop :=
  jn (α := VFH 1) (fun v1 H2 =>
  ∀ v3 v4 v5 v6 v7 v8 : Value,
  dBl v1 (fun b9 =>
  sB b9 (R (Ending.returned (Value.tuple #[Value.slice none 0 0, Value.int IntKind.i64 1])) H2) (∃ I10 : List Value → Heap → Prop,
  ∃ I11 : List Value → Heap → Nat,
  (I10 ([Value.slice none 0 0, Value.int IntKind.i64 0]) H2) ∧
  ∀ p12 : Option Addr,
  ∀ r13 : Nat,
  ∀ r14 : Nat,
  ∀ n15 : Int,
  ∀ v16 v17 v18 v19 v20 v21 v22 v23 v24 v25 v26 v27 v28 v29 v30 v31 v32 v33 v34 : Value,
  ∀ H35 : Heap,
  (I10 ([Value.slice p12 r13 r14, Value.int IntKind.i64 n15]) H35) →
  sB (decide (n15 < (↑x0n : Int))) (nz x0a (fun a37 =>
  ask ((0 : Int) ≤ n15 ∧ n15 < (↑x0n : Int)) (ld H35 (Addr.add a37 (Int.toNat n15 * 2)) (fun v38 =>
  ld H35 (Addr.add (Addr.add a37 (Int.toNat n15 * 2)) 1) (fun v39 =>
  al H35 (Obj.cells #[Value.int IntKind.i64 0, Value.string (ByteArray.mk #[])] 53) (fun r40 H41 =>
  st H41 (Addr.mk r40 0 none) v38 (fun H42 =>
  st H42 (Addr.mk r40 1 none) v39 (fun H43 =>
  ld H43 (Addr.mk r40 0 none) (fun v44 =>
  ld H43 (Addr.mk r40 1 none) (fun v45 =>
  HCalls Try.prog 46 #[Value.agg #[v44, v45]] H43 (Sp.retK (fun v46 H47 =>
  dT 2 v46 (fun v48 v49 =>
  dSl v48 (fun p50 r51 r52 =>
  dInt IntKind.i64 v49 (fun n53 =>
  sB (n53 != 0) (R (Ending.returned (Value.tuple #[Value.slice none 0 0, Value.int IntKind.i64 1])) H47) (semW Try.prog (Builtin.append_ #[32, 32] 32 #[Value.slice p12 r13 r14, Value.slice p50 r51 r52]) (pnR R) H47 (fun v56 H57 =>
  dSl v56 (fun p58 r59 r60 =>
  wr IntKind.i64 (n15 + 1) (fun n61 =>
  (I10 ([Value.slice p58 r59 r60, Value.int IntKind.i64 n61]) H57) ∧
  (I11 [Value.slice p58 r59 r60, Value.int IntKind.i64 n61] H57) < (I11 [Value.slice p12 r13 r14, Value.int IntKind.i64 n15] H35))))))))) (pnR R)))))))))))) (wr IntKind.i64 (128 - (↑r13 : Int)) (fun n64 =>
  semW Try.prog (Builtin.append_ #[32, 3] 32 #[Value.slice p12 r13 r14, Value.int IntKind.i64 n64]) (pnR R) H35 (fun v67 H68 =>
  dSl v67 (fun p69 r70 r71 =>
  R (Ending.returned (Value.tuple #[Value.slice p69 r70 r71, Value.int IntKind.i64 0])) H68))))))) (fun k72 =>
  sB (decide ((↑x0n : Int) > 8)) (k72 (Value.bool true) H) (HCalls Try.prog 45 #[Value.slice x0a x0n x0c] H (Sp.retK (fun v73 H74 =>
  dBl v73 (fun b75 =>
  k72 (Value.bool b75) H74)) (pnR R))))
theorem F21_eq (x0a : Option Addr) (x0n : Nat) (x0c : Nat) (R : Ending → Heap → Prop) (H : Heap) : F21 x0a x0n x0c R H = vc Try.prog (codeOf Try.f21) (.node none .leaf (.node none (.node (some ⟨[(15, 4)], [9, 10, 11, 12, 13, 14]⟩) .leaf .leaf) (.node none .leaf (.node none (.node none .leaf (.node none (.node (some ⟨[(4, 32), (18, 3)], [2, 3, 6, 7, 8, 19, 20, 21, 22, 23, 24, 25, 26, 27, 28, 29, 30, 31, 32]⟩) .leaf .leaf) .leaf)) .leaf)))) (postV Try.prog Try.f21 R) ⟨#[Value.slice x0a x0n x0c] ++ Array.replicate (Try.f21.ntmps - 1) undef, []⟩ H := by kernel_rfl
theorem F21_calls {R : Ending → Heap → Prop} {H : Heap} (x0a : Option Addr) (x0n : Nat) (x0c : Nat) (h : F21 x0a x0n x0c R H) : HCalls Try.prog 21 #[Value.slice x0a x0n x0c] H R :=
  calls_by (F := F21 x0a x0n x0c R H) (.node none .leaf (.node none (.node (some ⟨[(15, 4)], [9, 10, 11, 12, 13, 14]⟩) .leaf .leaf) (.node none .leaf (.node none (.node none .leaf (.node none (.node (some ⟨[(4, 32), (18, 3)], [2, 3, 6, 7, 8, 19, 20, 21, 22, 23, 24, 25, 26, 27, 28, 29, 30, 31, 32]⟩) .leaf .leaf) .leaf)) .leaf)))) Try.func21 rfl (F21_eq x0a x0n x0c R H) h
/-- slices.EqualFunc[[][]byte,[][]byte,[]byte,[]byte] -/
def F22 (x0a : Option Addr) (x0n : Nat) (x0c : Nat) (x1a : Option Addr) (x1n : Nat) (x1c : Nat) (x2g : Nat) (x2f : Array Value) (x2c : Array Value) (R : Ending → Heap → Prop) (H : Heap) : Prop :=
  sB ((↑x0n : Int) != (↑x1n : Int)) (R (Ending.returned (Value.bool false)) H) (∃ I1 : List Value → Heap → Prop,
  ∃ I2 : List Value → Heap → Nat,
  (I1 ([Value.int IntKind.i64 0]) H) ∧
  ∀ n3 : Int,
  ∀ v4 v5 v6 v7 v8 v9 v10 v11 v12 v13 v14 v15 v16 v17 v18 v19 v20 v21 : Value,
  ∀ H22 : Heap,
  (I1 ([Value.int IntKind.i64 n3]) H22) →
  sB (decide (n3 < (↑x0n : Int))) (nz x0a (fun a24 =>
  ask ((0 : Int) ≤ n3 ∧ n3 < (↑x0n : Int)) (ld H22 (Addr.add a24 (Int.toNat n3 * 1)) (fun v25 =>
  dSl v25 (fun p26 r27 r28 =>
  nz x1a (fun a29 =>
  ask ((0 : Int) ≤ n3 ∧ n3 < (↑x1n : Int)) (ld H22 (Addr.add a29 (Int.toNat n3 * 1)) (fun v30 =>
  dSl v30 (fun p31 r32 r33 =>
  gB (plainFn Try.prog x2g) (HCalls Try.prog x2g (argsOf x2f [Value.slice p26 r27 r28, Value.slice p31 r32 r33] x2c) H22 (Sp.retK (fun v34 H35 =>
  dBl v34 (fun b36 =>
  sB (!b36) (R (Ending.returned (Value.bool false)) H35) (wr IntKind.i64 (n3 + 1) (fun n37 =>
  (I1 ([Value.int IntKind.i64 n37]) H35) ∧
  (I2 [Value.int IntKind.i64 n37] H35) < (I2 [Value.int IntKind.i64 n3] H22))))) (pnR R)))))))))))) (R (Ending.returned (Value.bool true)) H22))
theorem F22_eq (x0a : Option Addr) (x0n : Nat) (x0c : Nat) (x1a : Option Addr) (x1n : Nat) (x1c : Nat) (x2g : Nat) (x2f : Array Value) (x2c : Array Value) (R : Ending → Heap → Prop) (H : Heap) : F22 x0a x0n x0c x1a x1n x1c x2g x2f x2c R H = vc Try.prog (codeOf Try.f22) (.node none .leaf (.node none .leaf (.node none (.node none .leaf (.node none (.node (some ⟨[(17, 3)], [6, 7, 8, 9, 18, 19, 20, 21, 22, 23, 24, 25, 26, 27, 28, 29, 30, 31]⟩) .leaf .leaf) .leaf)) .leaf))) (postV Try.prog Try.f22 R) ⟨#[Value.slice x0a x0n x0c, Value.slice x1a x1n x1c, Value.func (Fn.func x2g) x2f x2c] ++ Array.replicate (Try.f22.ntmps - 3) undef, []⟩ H := by kernel_rfl
theorem F22_calls {R : Ending → Heap → Prop} {H : Heap} (x0a : Option Addr) (x0n : Nat) (x0c : Nat) (x1a : Option Addr) (x1n : Nat) (x1c : Nat) (x2g : Nat) (x2f : Array Value) (x2c : Array Value) (h : F22 x0a x0n x0c x1a x1n x1c x2g x2f x2c R H) : HCalls Try.prog 22 #[Value.slice x0a x0n x0c, Value.slice x1a x1n x1c, Value.func (Fn.func x2g) x2f x2c] H R :=
  calls_by (F := F22 x0a x0n x0c x1a x1n x1c x2g x2f x2c R H) (.node none .leaf (.node none .leaf (.node none (.node none .leaf (.node none (.node (some ⟨[(17, 3)], [6, 7, 8, 9, 18, 19, 20, 21, 22, 23, 24, 25, 26, 27, 28, 29, 30, 31]⟩) .leaf .leaf) .leaf)) .leaf))) Try.func22 rfl (F22_eq x0a x0n x0c x1a x1n x1c x2g x2f x2c R H) h
/-- bytes.Equal -/
def F23 (x0a : Option Addr) (x0n : Nat) (x0c : Nat) (x1a : Option Addr) (x1n : Nat) (x1c : Nat) (R : Ending → Heap → Prop) (H : Heap) : Prop :=
  semW Try.prog (convert 32 9 (Value.slice x0a x0n x0c)) (pnR R) H (fun v3 H4 =>
  dStr v3 (fun s5 =>
  semW Try.prog (convert 32 9 (Value.slice x1a x1n x1c)) (pnR R) H4 (fun v8 H9 =>
  dStr v8 (fun s10 =>
  R (Ending.returned (Value.bool (ByteArray.toList s5 == ByteArray.toList s10))) H9))))
theorem F23_eq (x0a : Option Addr) (x0n : Nat) (x0c : Nat) (x1a : Option Addr) (x1n : Nat) (x1c : Nat) (R : Ending → Heap → Prop) (H : Heap) : F23 x0a x0n x0c x1a x1n x1c R H = vc Try.prog (codeOf Try.f23) .leaf (postV Try.prog Try.f23 R) ⟨#[Value.slice x0a x0n x0c, Value.slice x1a x1n x1c] ++ Array.replicate (Try.f23.ntmps - 2) undef, []⟩ H := by kernel_rfl
theorem F23_calls {R : Ending → Heap → Prop} {H : Heap} (x0a : Option Addr) (x0n : Nat) (x0c : Nat) (x1a : Option Addr) (x1n : Nat) (x1c : Nat) (h : F23 x0a x0n x0c x1a x1n x1c R H) : HCalls Try.prog 23 #[Value.slice x0a x0n x0c, Value.slice x1a x1n x1c] H R :=
  calls_by (F := F23 x0a x0n x0c x1a x1n x1c R H) .leaf Try.func23 rfl (F23_eq x0a x0n x0c x1a x1n x1c R H) h
/-- bollard/geom.between -/
def F24 (x0 : Int) (x1 : Int) (x2 : Int) (R : Ending → Heap → Prop) (H : Heap) : Prop :=
  sB (decide (x0 ≥ x1)) (R (Ending.returned (Value.bool (decide (x0 ≤ x2)))) H) (R (Ending.returned (Value.bool false)) H)
theorem F24_eq (x0 : Int) (x1 : Int) (x2 : Int) (R : Ending → Heap → Prop) (H : Heap) : F24 x0 x1 x2 R H = vc Try.prog (codeOf Try.f24) .leaf (postV Try.prog Try.f24 R) ⟨#[Value.int IntKind.i64 x0, Value.int IntKind.i64 x1, Value.int IntKind.i64 x2] ++ Array.replicate (Try.f24.ntmps - 3) undef, []⟩ H := by kernel_rfl
theorem F24_calls {R : Ending → Heap → Prop} {H : Heap} (x0 : Int) (x1 : Int) (x2 : Int) (h : F24 x0 x1 x2 R H) : HCalls Try.prog 24 #[Value.int IntKind.i64 x0, Value.int IntKind.i64 x1, Value.int IntKind.i64 x2] H R :=
  calls_by (F := F24 x0 x1 x2 R H) .leaf Try.func24 rfl (F24_eq x0 x1 x2 R H) h
/-- bollard/geom.front -/
def F25 (x0_0 : Value) (x0_1 : Value) (x0_2 : Value) (R : Ending → Heap → Prop) (H : Heap) : Prop :=
  al H (Obj.cells #[x0_0, x0_1, x0_2] 23) (fun r1 H2 =>
  ld H2 (Addr.mk r1 2 none) (fun v3 =>
  dInt IntKind.i64 v3 (fun n4 =>
  ask ((4 : Int) ≠ (0 : Int)) (wr IntKind.i64 (Int.tdiv n4 4) (fun n5 =>
  wr IntKind.i64 (2 + n5) (fun n6 =>
  R (Ending.returned (Value.int IntKind.i64 n6)) H2))))))
theorem F25_eq (x0_0 : Value) (x0_1 : Value) (x0_2 : Value) (R : Ending → Heap → Prop) (H : Heap) : F25 x0_0 x0_1 x0_2 R H = vc Try.prog (codeOf Try.f25) .leaf (postV Try.prog Try.f25 R) ⟨#[Value.agg #[x0_0, x0_1, x0_2]] ++ Array.replicate (Try.f25.ntmps - 1) undef, []⟩ H := by kernel_rfl
theorem F25_calls {R : Ending → Heap → Prop} {H : Heap} (x0_0 : Value) (x0_1 : Value) (x0_2 : Value) (h : F25 x0_0 x0_1 x0_2 R H) : HCalls Try.prog 25 #[Value.agg #[x0_0, x0_1, x0_2]] H R :=
  calls_by (F := F25 x0_0 x0_1 x0_2 R H) .leaf Try.func25 rfl (F25_eq x0_0 x0_1 x0_2 R H) h
/-- bollard/geom.all -/
def F26 (x0_0 : Value) (x0_1 : Value) (x0_2 : Value) (x1 : Int) (R : Ending → Heap → Prop) (H : Heap) : Prop :=
  al H (Obj.cells #[x0_0, x0_1, x0_2] 23) (fun r1 H2 =>
  ld H2 (Addr.mk r1 0 none) (fun v3 =>
  ld H2 (Addr.mk r1 1 none) (fun v4 =>
  ld H2 (Addr.mk r1 2 none) (fun v5 =>
  HCalls Try.prog 7 #[Value.agg #[v3, v4, v5]] H2 (Sp.retK (fun v6 H7 =>
  dInt IntKind.i64 v6 (fun n8 =>
  sB (n8 != 0) (R (Ending.returned (Value.int IntKind.i64 0)) H7) (ld H7 (Addr.mk r1 0 none) (fun v9 =>
  dInt IntKind.i64 v9 (fun n10 =>
  wr IntKind.i64 (n10 * x1) (fun n11 =>
  R (Ending.returned (Value.int IntKind.i64 n11)) H7)))))) (pnR R))))))
theorem F26_eq (x0_0 : Value) (x0_1 : Value) (x0_2 : Value) (x1 : Int) (R : Ending → Heap → Prop) (H : Heap) : F26 x0_0 x0_1 x0_2 x1 R H = vc Try.prog (codeOf Try.f26) .leaf (postV Try.prog Try.f26 R) ⟨#[Value.agg #[x0_0, x0_1, x0_2], Value.int IntKind.i64 x1] ++ Array.replicate (Try.f26.ntmps - 2) undef, []⟩ H := by kernel_rfl
theorem F26_calls {R : Ending → Heap → Prop} {H : Heap} (x0_0 : Value) (x0_1 : Value) (x0_2 : Value) (x1 : Int) (h : F26 x0_0 x0_1 x0_2 x1 R H) : HCalls Try.prog 26 #[Value.agg #[x0_0, x0_1, x0_2], Value.int IntKind.i64 x1] H R :=
  calls_by (F := F26 x0_0 x0_1 x0_2 x1 R H) .leaf Try.func26 rfl (F26_eq x0_0 x0_1 x0_2 x1 R H) h
/-- bollard/geom.at -/
def F27 (x0_0 : Value) (x0_1 : Value) (x0_2 : Value) (x1 : Int) (x2 : Int) (R : Ending → Heap → Prop) (H : Heap) : Prop :=
  al H (Obj.cells #[x0_0, x0_1, x0_2] 23) (fun r1 H2 =>
  jn (α := VFH 1) (fun v3 H4 =>
  ∀ v5 v6 v7 v8 v9 v10 v11 v12 v13 v14 : Value,
  dBl v3 (fun b15 =>
  sB b15 (R (Ending.returned (Value.tuple #[Value.int IntKind.i64 0, Value.bool false])) H4) (ld H4 (Addr.mk r1 1 none) (fun v16 =>
  dInt IntKind.i64 v16 (fun n17 =>
  wr IntKind.i64 (x1 * n17) (fun n18 =>
  wr IntKind.i64 (n18 + x2) (fun n19 =>
  R (Ending.returned (Value.tuple #[Value.int IntKind.i64 n19, Value.bool true])) H4))))))) (fun k20 =>
  ld H2 (Addr.mk r1 0 none) (fun v21 =>
  ld H2 (Addr.mk r1 1 none) (fun v22 =>
  ld H2 (Addr.mk r1 2 none) (fun v23 =>
  HCalls Try.prog 7 #[Value.agg #[v21, v22, v23]] H2 (Sp.retK (fun v24 H25 =>
  dInt IntKind.i64 v24 (fun n26 =>
  sB (n26 != 0) (k20 (Value.bool true) H25) (ld H25 (Addr.mk r1 0 none) (fun v27 =>
  dInt IntKind.i64 v27 (fun n28 =>
  wr IntKind.i64 (n28 - 1) (fun n29 =>
  HCalls Try.prog 24 #[Value.int IntKind.i64 x1, Value.int IntKind.i64 0, Value.int IntKind.i64 n29] H25 (Sp.retK (fun v30 H31 =>
  dBl v30 (fun b32 =>
  k20 (Value.bool !b32) H31)) (pnR R)))))))) (pnR R)))))))
theorem F27_eq (x0_0 : Value) (x0_1 : Value) (x0_2 : Value) (x1 : Int) (x2 : Int) (R : Ending → Heap → Prop) (H : Heap) : F27 x0_0 x0_1 x0_2 x1 x2 R H = vc Try.prog (codeOf Try.f27) (.node none .leaf (.node none (.node (some ⟨[(18, 4)], [8, 9, 10, 11, 12, 13, 14, 15, 16, 17]⟩) .leaf .leaf) .leaf)) (postV Try.prog Try.f27 R) ⟨#[Value.agg #[x0_0, x0_1, x0_2], Value.int IntKind.i64 x1, Value.int IntKind.i64 x2] ++ Array.replicate (Try.f27.ntmps - 3) undef, []⟩ H := by kernel_rfl
theorem F27_calls {R : Ending → Heap → Prop} {H : Heap} (x0_0 : Value) (x0_1 : Value) (x0_2 : Value) (x1 : Int) (x2 : Int) (h : F27 x0_0 x0_1 x0_2 x1 x2 R H) : HCalls Try.prog 27 #[Value.agg #[x0_0, x0_1, x0_2], Value.int IntKind.i64 x1, Value.int IntKind.i64 x2] H R :=
  calls_by (F := F27 x0_0 x0_1 x0_2 x1 x2 R H) (.node none .leaf (.node none (.node (some ⟨[(18, 4)], [8, 9, 10, 11, 12, 13, 14, 15, 16, 17]⟩) .leaf .leaf) .leaf)) Try.func27 rfl (F27_eq x0_0 x0_1 x0_2 x1 x2 R H) h
/-- bollard/layout.mayGeom -/
def F28 (x0_0 : Value) (x0_1 : Value) (x0_2 : Value) (R : Ending → Heap → Prop) (H : Heap) : Prop :=
  al H (Obj.cells #[x0_0, x0_1, x0_2] 23) (fun r1 H2 =>
  ld H2 (Addr.mk r1 0 none) (fun v3 =>
  dInt IntKind.i64 v3 (fun n4 =>
  sB (decide (n4 ≥ 1)) (ld H2 (Addr.mk r1 0 none) (fun v5 =>
  dInt IntKind.i64 v5 (fun n6 =>
  sB (decide (n6 ≤ 8)) (ld H2 (Addr.mk r1 1 none) (fun v7 =>
  dInt IntKind.i64 v7 (fun n8 =>
  sB (decide (n8 ≥ 8)) (ld H2 (Addr.mk r1 1 none) (fun v9 =>
  dInt IntKind.i64 v9 (fun n10 =>
  sB (decide (n10 ≤ 256)) (ld H2 (Addr.mk r1 2 none) (fun v11 =>
  dInt IntKind.i64 v11 (fun n12 =>
  sB (decide (n12 ≥ 4)) (ld H2 (Addr.mk r1 2 none) (fun v13 =>
  dInt IntKind.i64 v13 (fun n14 =>
  sB (decide (n14 ≤ 64)) (ld H2 (Addr.mk r1 2 none) (fun v15 =>
  dInt IntKind.i64 v15 (fun n16 =>
  ask ((4 : Int) ≠ (0 : Int)) (nm (Int.tmod n16 4) (fun n17 =>
  sB (n17 == 0) (ld H2 (Addr.mk r1 1 none) (fun v18 =>
  dInt IntKind.i64 v18 (fun n19 =>
  ld H2 (Addr.mk r1 2 none) (fun v20 =>
  dInt IntKind.i64 v20 (fun n21 =>
  ask ((4 : Int) ≠ (0 : Int)) (wr IntKind.i64 (Int.tdiv n21 4) (fun n22 =>
  wr IntKind.i64 (3 + n22) (fun n23 =>
  R (Ending.returned (Value.bool (decide (n19 ≥ n23)))) H2)))))))) (R (Ending.returned (Value.bool false)) H2)))))) (R (Ending.returned (Value.bool false)) H2)))) (R (Ending.returned (Value.bool false)) H2)))) (R (Ending.returned (Value.bool false)) H2)))) (R (Ending.returned (Value.bool false)) H2)))) (R (Ending.returned (Value.bool false)) H2)))) (R (Ending.returned (Value.bool false)) H2))))
theorem F28_eq (x0_0 : Value) (x0_1 : Value) (x0_2 : Value) (R : Ending → Heap → Prop) (H : Heap) : F28 x0_0 x0_1 x0_2 R H = vc Try.prog (codeOf Try.f28) .leaf (postV Try.prog Try.f28 R) ⟨#[Value.agg #[x0_0, x0_1, x0_2]] ++ Array.replicate (Try.f28.ntmps - 1) undef, []⟩ H := by kernel_rfl
theorem F28_calls {R : Ending → Heap → Prop} {H : Heap} (x0_0 : Value) (x0_1 : Value) (x0_2 : Value) (h : F28 x0_0 x0_1 x0_2 R H) : HCalls Try.prog 28 #[Value.agg #[x0_0, x0_1, x0_2]] H R :=
  calls_by (F := F28 x0_0 x0_1 x0_2 R H) .leaf Try.func28 rfl (F28_eq x0_0 x0_1 x0_2 R H) h
/-- bollard/layout.fit -/
def F29 (x0a : Option Addr) (x0n : Nat) (x0c : Nat) (R : Ending → Heap → Prop) (H : Heap) : Prop :=
  ∃ I1 : List Value → Heap → Prop,
  ∃ I2 : List Value → Heap → Nat,
  (I1 ([Value.int IntKind.i64 0]) H) ∧
  ∀ n3 : Int,
  ∀ v4 v5 v6 v7 v8 v9 v10 v11 v12 v13 v14 v15 v16 v17 v18 v19 : Value,
  ∀ H20 : Heap,
  (I1 ([Value.int IntKind.i64 n3]) H20) →
  sB (decide (n3 < (↑x0n : Int))) (nz x0a (fun a22 =>
  ask ((0 : Int) ≤ n3 ∧ n3 < (↑x0n : Int)) (ld H20 (Addr.add a22 (Int.toNat n3 * 3)) (fun v23 =>
  ld H20 (Addr.add (Addr.add a22 (Int.toNat n3 * 3)) 1) (fun v24 =>
  ld H20 (Addr.add (Addr.add a22 (Int.toNat n3 * 3)) 2) (fun v25 =>
  al H20 (Obj.cells #[Value.int IntKind.i64 0, Value.int IntKind.i64 0, Value.int IntKind.i64 0] 62) (fun r26 H27 =>
  st H27 (Addr.mk r26 0 none) v23 (fun H28 =>
  st H28 (Addr.mk r26 1 none) v24 (fun H29 =>
  st H29 (Addr.mk r26 2 none) v25 (fun H30 =>
  jn (α := VFH 1) (fun v31 H32 =>
  ∀ v33 v34 v35 v36 v37 v38 v39 v40 v41 : Value,
  dBl v31 (fun b42 =>
  sB b42 (R (Ending.returned (Value.bool false)) H32) (wr IntKind.i64 (n3 + 1) (fun n43 =>
  (I1 ([Value.int IntKind.i64 n43]) H32) ∧
  (I2 [Value.int IntKind.i64 n43] H32) < (I2 [Value.int IntKind.i64 n3] H20))))) (fun k44 =>
  ld H30 (Addr.mk r26 2 none) (fun v45 =>
  dInt IntKind.i64 v45 (fun n46 =>
  sB (decide (n46 < 0)) (k44 (Value.bool true) H30) (ld H30 (Addr.mk r26 2 none) (fun v47 =>
  dInt IntKind.i64 v47 (fun n48 =>
  ld H30 (Addr.mk r26 1 none) (fun v49 =>
  dInt IntKind.i64 v49 (fun n50 =>
  k44 (Value.bool (decide (n48 > n50))) H30)))))))))))))))))) (R (Ending.returned (Value.bool true)) H20)
theorem F29_eq (x0a : Option Addr) (x0n : Nat) (x0c : Nat) (R : Ending → Heap → Prop) (H : Heap) : F29 x0a x0n x0c R H = vc Try.prog (codeOf Try.f29) (.node none .leaf (.node none (.node none .leaf (.node none (.node (some ⟨[(7, 3)], [2, 4, 8, 9, 10, 11, 12, 13, 14, 15, 16, 17, 18, 19, 20, 21]⟩) (.node none .leaf (.node none .leaf (.node none (.node none (.node none .leaf (.node (some ⟨[(20, 4)], [11, 12, 13, 14, 15, 16, 17, 18, 19]⟩) .leaf .leaf)) .leaf) .leaf))) .leaf) .leaf)) .leaf)) (postV Try.prog Try.f29 R) ⟨#[Value.slice x0a x0n x0c] ++ Array.replicate (Try.f29.ntmps - 1) undef, []⟩ H := by kernel_rfl
theorem F29_calls {R : Ending → Heap → Prop} {H : Heap} (x0a : Option Addr) (x0n : Nat) (x0c : Nat) (h : F29 x0a x0n x0c R H) : HCalls Try.prog 29 #[Value.slice x0a x0n x0c] H R :=
  calls_by (F := F29 x0a x0n x0c R H) (.node none .leaf (.node none (.node none .leaf (.node none (.node (some ⟨[(7, 3)], [2, 4, 8, 9, 10, 11, 12, 13, 14, 15, 16, 17, 18, 19, 20, 21]⟩) (.node none .leaf (.node none .leaf (.node none (.node none (.node none .leaf (.node (some ⟨[(20, 4)], [11, 12, 13, 14, 15, 16, 17, 18, 19]⟩) .leaf .leaf)) .leaf) .leaf))) .leaf) .leaf)) .leaf)) Try.func29 rfl (F29_eq x0a x0n x0c R H) h
/-- bollard/word.Seal -/
def F30 (x0a : Option Addr) (x0n : Nat) (x0c : Nat) (R : Ending → Heap → Prop) (H : Heap) : Prop :=
  wr IntKind.i64 ((↑x0n : Int) - 4) (fun n1 =>
  sB (decide (n1 < 0)) (R (Ending.returned (Value.tuple #[Value.slice none 0 0, Value.int IntKind.i64 10])) H) (ask ((0 : Int) ≤ (0 : Int) ∧ (0 : Int) ≤ n1 ∧ n1 ≤ (↑x0c : Int) ∧ (↑x0c : Int) ≤ (↑x0c : Int)) (HCalls Try.prog 48 #[Value.slice (slO x0a 1 0 (↑x0c : Int)) (Int.toNat n1 - Int.toNat 0) (Int.toNat (↑x0c : Int) - Int.toNat 0)] H (Sp.retK (fun v2 H3 =>
  dInt IntKind.i64 v2 (fun n4 =>
  HCalls Try.prog 47 #[Value.slice x0a x0n x0c, Value.int IntKind.i64 n1, Value.int IntKind.i64 4, Value.int IntKind.i64 n4] H3 (Sp.retK (fun v5 H6 =>
  dT 2 v5 (fun v7 v8 =>
  dSl v7 (fun p9 r10 r11 =>
  dInt IntKind.i64 v8 (fun n12 =>
  R (Ending.returned (Value.tuple #[Value.slice p9 r10 r11, Value.int IntKind.i64 n12])) H6)))) (pnR R)))) (pnR R)))))
theorem F30_eq (x0a : Option Addr) (x0n : Nat) (x0c : Nat) (R : Ending → Heap → Prop) (H : Heap) : F30 x0a x0n x0c R H = vc Try.prog (codeOf Try.f30) .leaf (postV Try.prog Try.f30 R) ⟨#[Value.slice x0a x0n x0c] ++ Array.replicate (Try.f30.ntmps - 1) undef, []⟩ H := by kernel_rfl
theorem F30_calls {R : Ending → Heap → Prop} {H : Heap} (x0a : Option Addr) (x0n : Nat) (x0c : Nat) (h : F30 x0a x0n x0c R H) : HCalls Try.prog 30 #[Value.slice x0a x0n x0c] H R :=
  calls_by (F := F30 x0a x0n x0c R H) .leaf Try.func30 rfl (F30_eq x0a x0n x0c R H) h
/-- bollard/layout.full -/
def F31 (x0a : Option Addr) (x0n : Nat) (x0c : Nat) (x1 : Int) (R : Ending → Heap → Prop) (H : Heap) : Prop :=
  ask ((0 : Int) ≤ x1 ∧ x1 ≤ x1 ∧ (1 : Int) * x1 ≤ (281474976710656 : Int) ∧ x1 ≤ (9223372036854775807 : Int)) (al H (Obj.cells (List.toArray (rowZ [Value.int IntKind.u8 0] (Int.toNat x1))) 5) (fun r1 H2 =>
  semW Try.prog (Builtin.copy_ #[32, 32] 3 #[Value.slice (some (Addr.mk r1 0 none)) (Int.toNat x1) (Int.toNat x1), Value.slice x0a x0n x0c]) (pnR R) H2 (fun v5 H6 =>
  dInt IntKind.i64 v5 (fun n7 =>
  ask ((0 : Int) ≤ (0 : Int) ∧ (0 : Int) ≤ x1 ∧ x1 ≤ x1 ∧ x1 ≤ (↑(Int.toNat x1) : Int)) (R (Ending.returned (Value.slice (slO (some (Addr.mk r1 0 none)) 1 0 x1) (Int.toNat x1 - Int.toNat 0) (Int.toNat x1 - Int.toNat 0))) H6)))))
theorem F31_eq (x0a : Option Addr) (x0n : Nat) (x0c : Nat) (x1 : Int) (R : Ending → Heap → Prop) (H : Heap) : F31 x0a x0n x0c x1 R H = vc Try.prog (codeOf Try.f31) .leaf (postV Try.prog Try.f31 R) ⟨#[Value.slice x0a x0n x0c, Value.int IntKind.i64 x1] ++ Array.replicate (Try.f31.ntmps - 2) undef, []⟩ H := by kernel_rfl
theorem F31_calls {R : Ending → Heap → Prop} {H : Heap} (x0a : Option Addr) (x0n : Nat) (x0c : Nat) (x1 : Int) (h : F31 x0a x0n x0c x1 R H) : HCalls Try.prog 31 #[Value.slice x0a x0n x0c, Value.int IntKind.i64 x1] H R :=
  calls_by (F := F31 x0a x0n x0c x1 R H) .leaf Try.func31 rfl (F31_eq x0a x0n x0c x1 R H) h
/-- bollard/layout.fields -/
def F32 (x0a : Option Addr) (x0n : Nat) (x0c : Nat) (x1a : Option Addr) (x1n : Nat) (x1c : Nat) (R : Ending → Heap → Prop) (H : Heap) : Prop :=
  ∃ I1 : List Value → Heap → Prop,
  ∃ I2 : List Value → Heap → Nat,
  (I1 ([Value.slice x0a x0n x0c, Value.int IntKind.i64 0]) H) ∧
  ∀ p3 : Option Addr,
  ∀ r4 : Nat,
  ∀ r5 : Nat,
  ∀ n6 : Int,
  ∀ v7 v8 v9 v10 v11 v12 v13 v14 v15 v16 v17 v18 v19 v20 v21 v22 v23 v24 v25 v26 v27 : Value,
  ∀ H28 : Heap,
  (I1 ([Value.slice p3 r4 r5, Value.int IntKind.i64 n6]) H28) →
  sB (decide (n6 < (↑x1n : Int))) (nz x1a (fun a30 =>
  ask ((0 : Int) ≤ n6 ∧ n6 < (↑x1n : Int)) (ld H28 (Addr.add a30 (Int.toNat n6 * 3)) (fun v31 =>
  ld H28 (Addr.add (Addr.add a30 (Int.toNat n6 * 3)) 1) (fun v32 =>
  ld H28 (Addr.add (Addr.add a30 (Int.toNat n6 * 3)) 2) (fun v33 =>
  al H28 (Obj.cells #[Value.int IntKind.i64 0, Value.int IntKind.i64 0, Value.int IntKind.i64 0] 62) (fun r34 H35 =>
  st H35 (Addr.mk r34 0 none) v31 (fun H36 =>
  st H36 (Addr.mk r34 1 none) v32 (fun H37 =>
  st H37 (Addr.mk r34 2 none) v33 (fun H38 =>
  ld H38 (Addr.mk r34 0 none) (fun v39 =>
  dInt IntKind.i64 v39 (fun n40 =>
  ∃ I41 : List Value → Heap → Prop,
  ∃ I42 : List Value → Heap → Nat,
  (I41 ([Value.slice p3 r4 r5, Value.int IntKind.i64 0]) H38) ∧
  ∀ p43 : Option Addr,
  ∀ r44 : Nat,
  ∀ r45 : Nat,
  ∀ n46 : Int,
  ∀ v47 v48 v49 v50 v51 v52 v53 v54 v55 v56 v57 v58 v59 : Value,
  ∀ H60 : Heap,
  (I41 ([Value.slice p43 r44 r45, Value.int IntKind.i64 n46]) H60) →
  sB (decide (n46 < n40)) (ld H60 (Addr.mk r34 2 none) (fun v62 =>
  dInt IntKind.i64 v62 (fun n63 =>
  wr IntKind.i64 (8 * n46) (fun n64 =>
  ask ((0 : Int) ≤ n64) (nm (Int.fdiv n63 (2 ^ min (Int.toNat n64) 64)) (fun n65 =>
  wr IntKind.u8 n65 (fun n66 =>
  al H60 (Obj.cells #[Value.int IntKind.u8 n66] 5) (fun r67 H68 =>
  semW Try.prog (Builtin.append_ #[32, 32] 32 #[Value.slice p43 r44 r45, Value.slice (some (Addr.mk r67 0 none)) 1 1]) (pnR R) H68 (fun v71 H72 =>
  dSl v71 (fun p73 r74 r75 =>
  wr IntKind.i64 (n46 + 1) (fun n76 =>
  (I41 ([Value.slice p73 r74 r75, Value.int IntKind.i64 n76]) H72) ∧
  (I42 [Value.slice p73 r74 r75, Value.int IntKind.i64 n76] H72) < (I42 [Value.slice p43 r44 r45, Value.int IntKind.i64 n46] H60)))))))))))) (wr IntKind.i64 (n6 + 1) (fun n77 =>
  (I1 ([Value.slice p43 r44 r45, Value.int IntKind.i64 n77]) H60) ∧
  (I2 [Value.slice p43 r44 r45, Value.int IntKind.i64 n77] H60) < (I2 [Value.slice p3 r4 r5, Value.int IntKind.i64 n6] H28))))))))))))))) (R (Ending.returned (Value.slice p3 r4 r5)) H28)
theorem F32_eq (x0a : Option Addr) (x0n : Nat) (x0c : Nat) (x1a : Option Addr) (x1n : Nat) (x1c : Nat) (R : Ending → Heap → Prop) (H : Heap) : F32 x0a x0n x0c x1a x1n x1c R H = vc Try.prog (codeOf Try.f32) (.node none .leaf (.node none (.node none .leaf (.node none (.node (some ⟨[(0, 32), (10, 3)], [6, 7, 11, 12, 13, 14, 15, 16, 17, 18, 19, 20, 21, 22, 23, 24, 25, 26, 27, 28, 29]⟩) (.node none .leaf (.node none .leaf (.node none (.node none (.node none .leaf (.node none .leaf (.node none (.node (some ⟨[(0, 32), (16, 3)], [7, 17, 18, 19, 20, 21, 22, 23, 24, 25, 26, 27, 28]⟩) .leaf .leaf) .leaf))) .leaf) .leaf))) .leaf) .leaf)) .leaf)) (postV Try.prog Try.f32 R) ⟨#[Value.slice x0a x0n x0c, Value.slice x1a x1n x1c] ++ Array.replicate (Try.f32.ntmps - 2) undef, []⟩ H := by kernel_rfl
theorem F32_calls {R : Ending → Heap → Prop} {H : Heap} (x0a : Option Addr) (x0n : Nat) (x0c : Nat) (x1a : Option Addr) (x1n : Nat) (x1c : Nat) (h : F32 x0a x0n x0c x1a x1n x1c R H) : HCalls Try.prog 32 #[Value.slice x0a x0n x0c, Value.slice x1a x1n x1c] H R :=
  calls_by (F := F32 x0a x0n x0c x1a x1n x1c R H) (.node none .leaf (.node none (.node none .leaf (.node none (.node (some ⟨[(0, 32), (10, 3)], [6, 7, 11, 12, 13, 14, 15, 16, 17, 18, 19, 20, 21, 22, 23, 24, 25, 26, 27, 28, 29]⟩) (.node none .leaf (.node none .leaf (.node none (.node none (.node none .leaf (.node none .leaf (.node none (.node (some ⟨[(0, 32), (16, 3)], [7, 17, 18, 19, 20, 21, 22, 23, 24, 25, 26, 27, 28]⟩) .leaf .leaf) .leaf))) .leaf) .leaf))) .leaf) .leaf)) .leaf)) Try.func32 rfl (F32_eq x0a x0n x0c x1a x1n x1c R H) h
/-- bollard/geom.Group -/
def F33 (x0_0 : Value) (x0_1 : Value) (x0_2 : Value) (x1 : Int) (R : Ending → Heap → Prop) (H : Heap) : Prop :=
  al H (Obj.cells #[x0_0, x0_1, x0_2] 23) (fun r1 H2 =>
  ld H2 (Addr.mk r1 1 none) (fun v3 =>
  dInt IntKind.i64 v3 (fun n4 =>
  ld H2 (Addr.mk r1 0 none) (fun v5 =>
  ld H2 (Addr.mk r1 1 none) (fun v6 =>
  ld H2 (Addr.mk r1 2 none) (fun v7 =>
  HCalls Try.prog 8 #[Value.agg #[v5, v6, v7]] H2 (Sp.retK (fun v8 H9 =>
  dInt IntKind.i64 v8 (fun n10 =>
  (ld H9 (Addr.mk r1 1 none) (fun v11 =>
  dInt IntKind.i64 v11 (fun n12 =>
  (Value.int IntKind.i64 n12) = (Value.int IntKind.i64 n4)))) ∧
  HCalls Try.prog 49 #[Value.int IntKind.i64 x1, Value.int IntKind.i64 n4, Value.int IntKind.i64 n10] H9 (Sp.retK (fun v13 H14 =>
  dT 3 v13 (fun v15 v16 v17 =>
  dInt IntKind.i64 v15 (fun n18 =>
  dInt IntKind.i64 v16 (fun n19 =>
  dBl v17 (fun b20 =>
  R (Ending.returned (Value.tuple #[Value.int IntKind.i64 n18, Value.int IntKind.i64 n19, Value.bool b20])) H14))))) nopR))) nopR)))))))
theorem F33_eq (x0_0 : Value) (x0_1 : Value) (x0_2 : Value) (x1 : Int) (R : Ending → Heap → Prop) (H : Heap) : F33 x0_0 x0_1 x0_2 x1 R H = vc Try.prog (codeOf Try.f33) .leaf (postV Try.prog Try.f33 R) ⟨#[Value.agg #[x0_0, x0_1, x0_2], Value.int IntKind.i64 x1] ++ Array.replicate (Try.f33.ntmps - 2) undef, []⟩ H := by kernel_rfl
theorem F33_calls {R : Ending → Heap → Prop} {H : Heap} (x0_0 : Value) (x0_1 : Value) (x0_2 : Value) (x1 : Int) (h : F33 x0_0 x0_1 x0_2 x1 R H) : HCalls Try.prog 33 #[Value.agg #[x0_0, x0_1, x0_2], Value.int IntKind.i64 x1] H R :=
  calls_by (F := F33 x0_0 x0_1 x0_2 x1 R H) .leaf Try.func33 rfl (F33_eq x0_0 x0_1 x0_2 x1 R H) h
/-- bollard/mkfs.set -/
def F34 (x0a : Option Addr) (x0n : Nat) (x0c : Nat) (x1a : Option Addr) (x1n : Nat) (x1c : Nat) (R : Ending → Heap → Prop) (H : Heap) : Prop :=
  ∃ I1 : List Value → Heap → Prop,
  ∃ I2 : List Value → Heap → Nat,
  (I1 ([Value.int IntKind.i64 0]) H) ∧
  ∀ n3 : Int,
  ∀ v4 v5 v6 v7 v8 v9 v10 v11 v12 v13 v14 v15 v16 v17 v18 v19 : Value,
  ∀ H20 : Heap,
  (I1 ([Value.int IntKind.i64 n3]) H20) →
  sB (decide (n3 < (↑x1n : Int))) (nz x1a (fun a22 =>
  ask ((0 : Int) ≤ n3 ∧ n3 < (↑x1n : Int)) (ld H20 (Addr.add a22 (Int.toNat n3 * 1)) (fun v23 =>
  dInt IntKind.i64 v23 (fun n24 =>
  HCalls Try.prog 50 #[Value.slice x0a x0n x0c, Value.int IntKind.i64 n24, Value.bool true] H20 (Sp.retK (fun v25 H26 =>
  dT 2 v25 (fun v27 v28 =>
  dSl v27 (fun p29 r30 r31 =>
  dInt IntKind.i64 v28 (fun n32 =>
  semW Try.prog (Builtin.copy_ #[32, 32] 3 #[Value.slice x0a x0n x0c, Value.slice p29 r30 r31]) (pnR R) H26 (fun v35 H36 =>
  dInt IntKind.i64 v35 (fun n37 =>
  wr IntKind.i64 (n3 + 1) (fun n38 =>
  (I1 ([Value.int IntKind.i64 n38]) H36) ∧
  (I2 [Value.int IntKind.i64 n38] H36) < (I2 [Value.int IntKind.i64 n3] H20)))))))) (pnR R))))))) (R (Ending.returned (Value.tuple #[])) H20)
theorem F34_eq (x0a : Option Addr) (x0n : Nat) (x0c : Nat) (x1a : Option Addr) (x1n : Nat) (x1c : Nat) (R : Ending → Heap → Prop) (H : Heap) : F34 x0a x0n x0c x1a x1n x1c R H = vc Try.prog (codeOf Try.f34) (.node none .leaf (.node none (.node (some ⟨[(10, 3)], [5, 6, 7, 11, 12, 13, 14, 15, 16, 17, 18, 19, 20, 21, 22, 23]⟩) .leaf .leaf) .leaf)) (postV Try.prog Try.f34 R) ⟨#[Value.slice x0a x0n x0c, Value.slice x1a x1n x1c] ++ Array.replicate (Try.f34.ntmps - 2) undef, []⟩ H := by kernel_rfl
theorem F34_calls {R : Ending → Heap → Prop} {H : Heap} (x0a : Option Addr) (x0n : Nat) (x0c : Nat) (x1a : Option Addr) (x1n : Nat) (x1c : Nat) (h : F34 x0a x0n x0c x1a x1n x1c R H) : HCalls Try.prog 34 #[Value.slice x0a x0n x0c, Value.slice x1a x1n x1c] H R :=
  calls_by (F := F34 x0a x0n x0c x1a x1n x1c R H) (.node none .leaf (.node none (.node (some ⟨[(10, 3)], [5, 6, 7, 11, 12, 13, 14, 15, 16, 17, 18, 19, 20, 21, 22, 23]⟩) .leaf .leaf) .leaf)) Try.func34 rfl (F34_eq x0a x0n x0c x1a x1n x1c R H) h
/-- bollard/layout.mayDinode -/
def F35 (x0_0 : Value) (x0_1 : Value) (x0_2 : Value) (x0_3 : Value) (x0_4 : Value) (x0_5 : Value) (x0_6 : Value) (x0_7 : Value) (x0_8 : Value) (R : Ending → Heap → Prop) (H : Heap) : Prop :=
  al H (Obj.cells #[x0_0, x0_1, x0_2, x0_3, x0_4, x0_5, x0_6, x0_7, x0_8] 50) (fun r1 H2 =>
  ld H2 (Addr.mk r1 0 none) (fun v3 =>
  dInt IntKind.i64 v3 (fun n4 =>
  sB (n4 == 0) (ld H2 (Addr.mk r1 0 none) (fun v5 =>
  ld H2 (Addr.mk r1 1 none) (fun v6 =>
  ld H2 (Addr.mk r1 2 none) (fun v7 =>
  ld H2 (Addr.mk r1 3 none) (fun v8 =>
  ld H2 (Addr.mk r1 4 none) (fun v9 =>
  ld H2 (Addr.mk r1 5 none) (fun v10 =>
  ld H2 (Addr.mk r1 6 none) (fun v11 =>
  ld H2 (Addr.mk r1 7 none) (fun v12 =>
  ld H2 (Addr.mk r1 8 none) (fun v13 =>
  semW Try.prog (eqSem BinOp.eql 50 (Operand.tmp 7) (Operand.tmp 8) (Value.agg #[v5, v6, v7, v8, v9, v10, v11, v12, v13]) (Value.agg #[Value.int IntKind.i64 0, Value.int IntKind.i64 0, Value.int IntKind.i64 0, Value.int IntKind.i64 0, Value.int IntKind.i64 0, Value.int IntKind.i64 0, Value.int IntKind.i64 0, Value.int IntKind.i64 0, Value.int IntKind.i64 0])) (pnR R) H2 (fun v16 H17 =>
  dBl v16 (fun b18 =>
  R (Ending.returned (Value.bool b18)) H17)))))))))))) (sB (n4 == 1) (R (Ending.returned (Value.bool true)) H2) (sB (n4 == 2) (ld H2 (Addr.mk r1 2 none) (fun v19 =>
  dInt IntKind.i64 v19 (fun n20 =>
  ask ((128 : Int) ≠ (0 : Int)) (nm (Int.tmod n20 128) (fun n21 =>
  R (Ending.returned (Value.bool (n21 == 0))) H2))))) (R (Ending.returned (Value.bool false)) H2))))))
theorem F35_eq (x0_0 : Value) (x0_1 : Value) (x0_2 : Value) (x0_3 : Value) (x0_4 : Value) (x0_5 : Value) (x0_6 : Value) (x0_7 : Value) (x0_8 : Value) (R : Ending → Heap → Prop) (H : Heap) : F35 x0_0 x0_1 x0_2 x0_3 x0_4 x0_5 x0_6 x0_7 x0_8 R H = vc Try.prog (codeOf Try.f35) .leaf (postV Try.prog Try.f35 R) ⟨#[Value.agg #[x0_0, x0_1, x0_2, x0_3, x0_4, x0_5, x0_6, x0_7, x0_8]] ++ Array.replicate (Try.f35.ntmps - 1) undef, []⟩ H := by kernel_rfl
theorem F35_calls {R : Ending → Heap → Prop} {H : Heap} (x0_0 : Value) (x0_1 : Value) (x0_2 : Value) (x0_3 : Value) (x0_4 : Value) (x0_5 : Value) (x0_6 : Value) (x0_7 : Value) (x0_8 : Value) (h : F35 x0_0 x0_1 x0_2 x0_3 x0_4 x0_5 x0_6 x0_7 x0_8 R H) : HCalls Try.prog 35 #[Value.agg #[x0_0, x0_1, x0_2, x0_3, x0_4, x0_5, x0_6, x0_7, x0_8]] H R :=
  calls_by (F := F35 x0_0 x0_1 x0_2 x0_3 x0_4 x0_5 x0_6 x0_7 x0_8 R H) .leaf Try.func35 rfl (F35_eq x0_0 x0_1 x0_2 x0_3 x0_4 x0_5 x0_6 x0_7 x0_8 R H) h
/-- bollard/geom.Owner -/
def F36 (x0_0 : Value) (x0_1 : Value) (x0_2 : Value) (x1 : Int) (R : Ending → Heap → Prop) (H : Heap) : Prop :=
  al H (Obj.cells #[x0_0, x0_1, x0_2] 23) (fun r1 H2 =>
  ld H2 (Addr.mk r1 2 none) (fun v3 =>
  dInt IntKind.i64 v3 (fun n4 =>
  ld H2 (Addr.mk r1 0 none) (fun v5 =>
  ld H2 (Addr.mk r1 1 none) (fun v6 =>
  ld H2 (Addr.mk r1 2 none) (fun v7 =>
  HCalls Try.prog 51 #[Value.agg #[v5, v6, v7]] H2 (Sp.retK (fun v8 H9 =>
  dInt IntKind.i64 v8 (fun n10 =>
  (ld H9 (Addr.mk r1 2 none) (fun v11 =>
  dInt IntKind.i64 v11 (fun n12 =>
  (Value.int IntKind.i64 n12) = (Value.int IntKind.i64 n4)))) ∧
  HCalls Try.prog 49 #[Value.int IntKind.i64 x1, Value.int IntKind.i64 n4, Value.int IntKind.i64 n10] H9 (Sp.retK (fun v13 H14 =>
  dT 3 v13 (fun v15 v16 v17 =>
  dInt IntKind.i64 v15 (fun n18 =>
  dInt IntKind.i64 v16 (fun n19 =>
  dBl v17 (fun b20 =>
  R (Ending.returned (Value.tuple #[Value.int IntKind.i64 n18, Value.int IntKind.i64 n19, Value.bool b20])) H14))))) nopR))) nopR)))))))
theorem F36_eq (x0_0 : Value) (x0_1 : Value) (x0_2 : Value) (x1 : Int) (R : Ending → Heap → Prop) (H : Heap) : F36 x0_0 x0_1 x0_2 x1 R H = vc Try.prog (codeOf Try.f36) .leaf (postV Try.prog Try.f36 R) ⟨#[Value.agg #[x0_0, x0_1, x0_2], Value.int IntKind.i64 x1] ++ Array.replicate (Try.f36.ntmps - 2) undef, []⟩ H := by kernel_rfl
theorem F36_calls {R : Ending → Heap → Prop} {H : Heap} (x0_0 : Value) (x0_1 : Value) (x0_2 : Value) (x1 : Int) (h : F36 x0_0 x0_1 x0_2 x1 R H) : HCalls Try.prog 36 #[Value.agg #[x0_0, x0_1, x0_2], Value.int IntKind.i64 x1] H R :=
  calls_by (F := F36 x0_0 x0_1 x0_2 x1 R H) .leaf Try.func36 rfl (F36_eq x0_0 x0_1 x0_2 x1 R H) h
end Go.Proofs.Ytdlelcpkelginaa.E
