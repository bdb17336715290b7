/- The functions' forms in the engine's words, printed by my own program. -/
import Derived.Test.YtmgjdmohmhaemaaProg
import Derived.Test.YtmgjdmohmhaemaaEng11
import Derived.KernelRfl
namespace Go.Proofs.Ytmgjdmohmhaemaa.E
open Go Go.Proofs
set_option linter.unusedVariables false
/-- slices.partitionEqualCmpFunc[int] -/
def F147 (x0a : Option Addr) (x0n : Nat) (x0c : Nat) (x1 : Int) (x2 : Int) (x3 : Int) (x4g : Nat) (x4f : Array Value) (x4c : Array Value) (R : Ending → Heap → Prop) (H : Heap) : Prop :=
  nz x0a (fun a1 =>
  ask ((0 : Int) ≤ x3 ∧ x3 < (↑x0n : Int)) (ld H (Addr.add a1 (Int.toNat x3 * 1)) (fun v2 =>
  dInt IntKind.i64 v2 (fun n3 =>
  nz x0a (fun a4 =>
  ask ((0 : Int) ≤ x1 ∧ x1 < (↑x0n : Int)) (ld H (Addr.add a4 (Int.toNat x1 * 1)) (fun v5 =>
  dInt IntKind.i64 v5 (fun n6 =>
  nz x0a (fun a7 =>
  ask ((0 : Int) ≤ x1 ∧ x1 < (↑x0n : Int)) (st H (Addr.add a7 (Int.toNat x1 * 1)) (Value.int IntKind.i64 n3) (fun H8 =>
  nz x0a (fun a9 =>
  ask ((0 : Int) ≤ x3 ∧ x3 < (↑x0n : Int)) (st H8 (Addr.add a9 (Int.toNat x3 * 1)) (Value.int IntKind.i64 n6) (fun H10 =>
  wr IntKind.i64 (x1 + 1) (fun n11 =>
  wr IntKind.i64 (x2 - 1) (fun n12 =>
  ∃ I13 : List Value → Heap → Prop,
  ∃ I14 : List Value → Heap → Nat,
  (I13 ([Value.int IntKind.i64 n11, Value.int IntKind.i64 n12]) H10) ∧
  ∀ n15 : Int,
  ∀ n16 : Int,
  ∀ v17 v18 v19 v20 v21 v22 v23 v24 v25 v26 v27 v28 v29 v30 v31 v32 v33 v34 v35 v36 v37 v38 v39 v40 v41 v42 v43 v44 v45 v46 v47 v48 v49 v50 v51 v52 v53 v54 v55 v56 v57 v58 v59 v60 v61 v62 v63 v64 v65 v66 v67 v68 v69 v70 v71 v72 v73 v74 : Value,
  ∀ H75 : Heap,
  (I13 ([Value.int IntKind.i64 n15, Value.int IntKind.i64 n16]) H75) →
  ∃ I77 : List Value → Heap → Prop,
  ∃ I78 : List Value → Heap → Nat,
  (I77 ([Value.int IntKind.i64 n15]) H75) ∧
  ∀ n79 : Int,
  ∀ v80 v81 v82 v83 v84 v85 v86 v87 v88 v89 v90 v91 v92 v93 v94 v95 v96 v97 v98 : Value,
  ∀ H99 : Heap,
  (I77 ([Value.int IntKind.i64 n79]) H99) →
  jn (α := VFH 1) (fun v101 H102 =>
  ∀ v103 v104 v105 v106 v107 v108 v109 v110 v111 v112 v113 v114 v115 v116 v117 v118 : Value,
  dBl v101 (fun b119 =>
  sB b119 (wr IntKind.i64 (n79 + 1) (fun n120 =>
  (I77 ([Value.int IntKind.i64 n120]) H102) ∧
  (I78 [Value.int IntKind.i64 n120] H102) < (I78 [Value.int IntKind.i64 n79] H99))) (∃ I121 : List Value → Heap → Prop,
  ∃ I122 : List Value → Heap → Nat,
  (I121 ([Value.int IntKind.i64 n16]) H102) ∧
  ∀ n123 : Int,
  ∀ v124 v125 v126 v127 v128 v129 v130 v131 v132 v133 v134 v135 v136 v137 v138 v139 v140 v141 : Value,
  ∀ H142 : Heap,
  (I121 ([Value.int IntKind.i64 n123]) H142) →
  jn (α := VFH 1) (fun v144 H145 =>
  ∀ v146 v147 v148 v149 v150 v151 v152 v153 v154 v155 v156 v157 v158 v159 v160 : Value,
  dBl v144 (fun b161 =>
  sB b161 (wr IntKind.i64 (n123 - 1) (fun n162 =>
  (I121 ([Value.int IntKind.i64 n162]) H145) ∧
  (I122 [Value.int IntKind.i64 n162] H145) < (I122 [Value.int IntKind.i64 n123] H142))) (sB (decide (n79 > n123)) (R (Ending.returned (Value.int IntKind.i64 n79)) H145) (nz x0a (fun a163 =>
  ask ((0 : Int) ≤ n123 ∧ n123 < (↑x0n : Int)) (ld H145 (Addr.add a163 (Int.toNat n123 * 1)) (fun v164 =>
  dInt IntKind.i64 v164 (fun n165 =>
  nz x0a (fun a166 =>
  ask ((0 : Int) ≤ n79 ∧ n79 < (↑x0n : Int)) (ld H145 (Addr.add a166 (Int.toNat n79 * 1)) (fun v167 =>
  dInt IntKind.i64 v167 (fun n168 =>
  nz x0a (fun a169 =>
  ask ((0 : Int) ≤ n79 ∧ n79 < (↑x0n : Int)) (st H145 (Addr.add a169 (Int.toNat n79 * 1)) (Value.int IntKind.i64 n165) (fun H170 =>
  nz x0a (fun a171 =>
  ask ((0 : Int) ≤ n123 ∧ n123 < (↑x0n : Int)) (st H170 (Addr.add a171 (Int.toNat n123 * 1)) (Value.int IntKind.i64 n168) (fun H172 =>
  wr IntKind.i64 (n79 + 1) (fun n173 =>
  wr IntKind.i64 (n123 - 1) (fun n174 =>
  (I13 ([Value.int IntKind.i64 n173, Value.int IntKind.i64 n174]) H172) ∧
  (I14 [Value.int IntKind.i64 n173, Value.int IntKind.i64 n174] H172) < (I14 [Value.int IntKind.i64 n15, Value.int IntKind.i64 n16] H75))))))))))))))))))))) (fun k175 =>
  sB (decide (n79 ≤ n123)) (nz x0a (fun a176 =>
  ask ((0 : Int) ≤ x1 ∧ x1 < (↑x0n : Int)) (ld H142 (Addr.add a176 (Int.toNat x1 * 1)) (fun v177 =>
  dInt IntKind.i64 v177 (fun n178 =>
  nz x0a (fun a179 =>
  ask ((0 : Int) ≤ n123 ∧ n123 < (↑x0n : Int)) (ld H142 (Addr.add a179 (Int.toNat n123 * 1)) (fun v180 =>
  dInt IntKind.i64 v180 (fun n181 =>
  gB (plainFn Try.prog x4g) (HCalls Try.prog x4g (argsOf x4f [Value.int IntKind.i64 n178, Value.int IntKind.i64 n181] x4c) H142 (Sp.retK (fun v182 H183 =>
  dInt IntKind.i64 v182 (fun n184 =>
  k175 (Value.bool (decide (n184 < 0))) H183)) nopR))))))))))) (k175 (Value.bool false) H142))))) (fun k187 =>
  sB (decide (n79 ≤ n16)) (nz x0a (fun a188 =>
  ask ((0 : Int) ≤ x1 ∧ x1 < (↑x0n : Int)) (ld H99 (Addr.add a188 (Int.toNat x1 * 1)) (fun v189 =>
  dInt IntKind.i64 v189 (fun n190 =>
  nz x0a (fun a191 =>
  ask ((0 : Int) ≤ n79 ∧ n79 < (↑x0n : Int)) (ld H99 (Addr.add a191 (Int.toNat n79 * 1)) (fun v192 =>
  dInt IntKind.i64 v192 (fun n193 =>
  gB (plainFn Try.prog x4g) (HCalls Try.prog x4g (argsOf x4f [Value.int IntKind.i64 n190, Value.int IntKind.i64 n193] x4c) H99 (Sp.retK (fun v194 H195 =>
  dInt IntKind.i64 v194 (fun n196 =>
  k187 (Value.bool !decide (n196 < 0)) H195)) nopR))))))))))) (k187 (Value.bool false) H99))))))))))))))))))
theorem F147_eq (x0a : Option Addr) (x0n : Nat) (x0c : Nat) (x1 : Int) (x2 : Int) (x3 : Int) (x4g : Nat) (x4f : Array Value) (x4c : Array Value) (R : Ending → Heap → Prop) (H : Heap) : F147 x0a x0n x0c x1 x2 x3 x4g x4f x4c R H = vc Try.prog (codeOf Try.f147) (.node none .leaf (.node none .leaf (.node none .leaf (.node none (.node none (.node (some ⟨[(11, 3), (12, 3)], [31, 32, 33, 34, 35, 36, 37, 38, 39, 40, 41, 42, 43, 44, 45, 46, 47, 48, 49, 50, 51, 52, 53, 54, 55, 56, 57, 58, 59, 60, 61, 62, 63, 64, 65, 66, 67, 68, 69, 70, 71, 72, 73, 74, 75, 76, 77, 78, 79, 80, 81, 82, 83, 84, 85, 86, 87, 88]⟩) (.node none (.node none (.node none (.node (some ⟨[(11, 3)], [31, 32, 33, 34, 35, 36, 37, 38, 39, 40, 41, 42, 43, 44, 45, 46, 47, 48, 49]⟩) (.node none (.node (some ⟨[(47, 4)], [31, 32, 33, 34, 35, 36, 37, 38, 39, 40, 41, 42, 43, 44, 45, 46]⟩) .leaf .leaf) .leaf) .leaf) .leaf) (.node none (.node none (.node (some ⟨[(12, 3)], [50, 51, 52, 53, 54, 55, 56, 57, 58, 59, 60, 61, 62, 63, 64, 65, 66, 67]⟩) (.node none (.node (some ⟨[(65, 4)], [50, 51, 52, 53, 54, 55, 56, 57, 58, 59, 60, 61, 62, 63, 64]⟩) .leaf .leaf) .leaf) .leaf) .leaf) .leaf)) .leaf) .leaf) .leaf) .leaf)))) (postV Try.prog Try.f147 R) ⟨#[Value.slice x0a x0n x0c, Value.int IntKind.i64 x1, Value.int IntKind.i64 x2, Value.int IntKind.i64 x3, Value.func (Fn.func x4g) x4f x4c] ++ Array.replicate (Try.f147.ntmps - 5) undef, []⟩ H := by kernel_rfl
theorem F147_calls {R : Ending → Heap → Prop} {H : Heap} (x0a : Option Addr) (x0n : Nat) (x0c : Nat) (x1 : Int) (x2 : Int) (x3 : Int) (x4g : Nat) (x4f : Array Value) (x4c : Array Value) (h : F147 x0a x0n x0c x1 x2 x3 x4g x4f x4c R H) : HCalls Try.prog 147 #[Value.slice x0a x0n x0c, Value.int IntKind.i64 x1, Value.int IntKind.i64 x2, Value.int IntKind.i64 x3, Value.func (Fn.func x4g) x4f x4c] H R :=
  calls_by (.node none .leaf (.node none .leaf (.node none .leaf (.node none (.node none (.node (some ⟨[(11, 3), (12, 3)], [31, 32, 33, 34, 35, 36, 37, 38, 39, 40, 41, 42, 43, 44, 45, 46, 47, 48, 49, 50, 51, 52, 53, 54, 55, 56, 57, 58, 59, 60, 61, 62, 63, 64, 65, 66, 67, 68, 69, 70, 71, 72, 73, 74, 75, 76, 77, 78, 79, 80, 81, 82, 83, 84, 85, 86, 87, 88]⟩) (.node none (.node none (.node none (.node (some ⟨[(11, 3)], [31, 32, 33, 34, 35, 36, 37, 38, 39, 40, 41, 42, 43, 44, 45, 46, 47, 48, 49]⟩) (.node none (.node (some ⟨[(47, 4)], [31, 32, 33, 34, 35, 36, 37, 38, 39, 40, 41, 42, 43, 44, 45, 46]⟩) .leaf .leaf) .leaf) .leaf) .leaf) (.node none (.node none (.node (some ⟨[(12, 3)], [50, 51, 52, 53, 54, 55, 56, 57, 58, 59, 60, 61, 62, 63, 64, 65, 66, 67]⟩) (.node none (.node (some ⟨[(65, 4)], [50, 51, 52, 53, 54, 55, 56, 57, 58, 59, 60, 61, 62, 63, 64]⟩) .leaf .leaf) .leaf) .leaf) .leaf) .leaf)) .leaf) .leaf) .leaf) .leaf)))) Try.func147 rfl (F147_eq x0a x0n x0c x1 x2 x3 x4g x4f x4c R H) h
/-- slices.order2Ordered[int] -/
def F149 (x0a : Option Addr) (x0n : Nat) (x0c : Nat) (x1 : Int) (x2 : Int) (x3 : Option Addr) (R : Ending → Heap → Prop) (H : Heap) : Prop :=
  nz x0a (fun a1 =>
  ask ((0 : Int) ≤ x2 ∧ x2 < (↑x0n : Int)) (ld H (Addr.add a1 (Int.toNat x2 * 1)) (fun v2 =>
  dInt IntKind.i64 v2 (fun n3 =>
  nz x0a (fun a4 =>
  ask ((0 : Int) ≤ x1 ∧ x1 < (↑x0n : Int)) (ld H (Addr.add a4 (Int.toNat x1 * 1)) (fun v5 =>
  dInt IntKind.i64 v5 (fun n6 =>
  HCalls Try.prog 114 #[Value.int IntKind.i64 n3, Value.int IntKind.i64 n6] H (Sp.retK (fun v7 H8 =>
  dBl v7 (fun b9 =>
  sB b9 (nz x3 (fun a10 =>
  ld H8 a10 (fun v11 =>
  dInt IntKind.i64 v11 (fun n12 =>
  wr IntKind.i64 (n12 + 1) (fun n13 =>
  nz x3 (fun a14 =>
  st H8 a14 (Value.int IntKind.i64 n13) (fun H15 =>
  R (Ending.returned (Value.tuple #[Value.int IntKind.i64 x2, Value.int IntKind.i64 x1])) H15))))))) (R (Ending.returned (Value.tuple #[Value.int IntKind.i64 x1, Value.int IntKind.i64 x2])) H8))) nopR)))))))))
theorem F149_eq (x0a : Option Addr) (x0n : Nat) (x0c : Nat) (x1 : Int) (x2 : Int) (x3 : Option Addr) (R : Ending → Heap → Prop) (H : Heap) : F149 x0a x0n x0c x1 x2 x3 R H = vc Try.prog (codeOf Try.f149) .leaf (postV Try.prog Try.f149 R) ⟨#[Value.slice x0a x0n x0c, Value.int IntKind.i64 x1, Value.int IntKind.i64 x2, Value.pointer x3] ++ Array.replicate (Try.f149.ntmps - 4) undef, []⟩ H := by kernel_rfl
theorem F149_calls {R : Ending → Heap → Prop} {H : Heap} (x0a : Option Addr) (x0n : Nat) (x0c : Nat) (x1 : Int) (x2 : Int) (x3 : Option Addr) (h : F149 x0a x0n x0c x1 x2 x3 R H) : HCalls Try.prog 149 #[Value.slice x0a x0n x0c, Value.int IntKind.i64 x1, Value.int IntKind.i64 x2, Value.pointer x3] H R :=
  calls_by .leaf Try.func149 rfl (F149_eq x0a x0n x0c x1 x2 x3 R H) h
/-- slices.siftDownCmpFunc[int] -/
def F150 (x0a : Option Addr) (x0n : Nat) (x0c : Nat) (x1 : Int) (x2 : Int) (x3 : Int) (x4g : Nat) (x4f : Array Value) (x4c : Array Value) (R : Ending → Heap → Prop) (H : Heap) : Prop :=
  ∃ I1 : List Value → Heap → Prop,
  ∃ I2 : List Value → Heap → Nat,
  (I1 ([Value.int IntKind.i64 x1]) H) ∧
  ∀ n3 : Int,
  ∀ v4 v5 v6 v7 v8 v9 v10 v11 v12 v13 v14 v15 v16 v17 v18 v19 v20 v21 v22 v23 v24 v25 v26 v27 v28 v29 v30 v31 v32 v33 v34 v35 v36 v37 v38 v39 v40 v41 v42 v43 v44 v45 v46 v47 v48 v49 v50 v51 v52 v53 v54 v55 v56 v57 v58 v59 v60 v61 v62 v63 v64 v65 v66 v67 v68 v69 v70 v71 v72 v73 : Value,
  ∀ H74 : Heap,
  (I1 ([Value.int IntKind.i64 n3]) H74) →
  wr IntKind.i64 (2 * n3) (fun n76 =>
  wr IntKind.i64 (n76 + 1) (fun n77 =>
  sB (decide (n77 ≥ x2)) (R (Ending.returned (Value.tuple #[])) H74) (jn (α := VFH 1) (fun v78 H79 =>
  ∀ v80 v81 v82 v83 v84 v85 v86 v87 v88 v89 v90 v91 v92 v93 v94 v95 v96 v97 v98 v99 v100 v101 v102 v103 : Value,
  dInt IntKind.i64 v78 (fun n104 =>
  wr IntKind.i64 (x3 + n3) (fun n105 =>
  nz x0a (fun a106 =>
  ask ((0 : Int) ≤ n105 ∧ n105 < (↑x0n : Int)) (ld H79 (Addr.add a106 (Int.toNat n105 * 1)) (fun v107 =>
  dInt IntKind.i64 v107 (fun n108 =>
  wr IntKind.i64 (x3 + n104) (fun n109 =>
  nz x0a (fun a110 =>
  ask ((0 : Int) ≤ n109 ∧ n109 < (↑x0n : Int)) (ld H79 (Addr.add a110 (Int.toNat n109 * 1)) (fun v111 =>
  dInt IntKind.i64 v111 (fun n112 =>
  gB (plainFn Try.prog x4g) (HCalls Try.prog x4g (argsOf x4f [Value.int IntKind.i64 n108, Value.int IntKind.i64 n112] x4c) H79 (Sp.retK (fun v113 H114 =>
  dInt IntKind.i64 v113 (fun n115 =>
  sB (!decide (n115 < 0)) (R (Ending.returned (Value.tuple #[])) H114) (wr IntKind.i64 (x3 + n3) (fun n116 =>
  wr IntKind.i64 (x3 + n104) (fun n117 =>
  wr IntKind.i64 (x3 + n104) (fun n118 =>
  nz x0a (fun a119 =>
  ask ((0 : Int) ≤ n118 ∧ n118 < (↑x0n : Int)) (ld H114 (Addr.add a119 (Int.toNat n118 * 1)) (fun v120 =>
  dInt IntKind.i64 v120 (fun n121 =>
  wr IntKind.i64 (x3 + n3) (fun n122 =>
  nz x0a (fun a123 =>
  ask ((0 : Int) ≤ n122 ∧ n122 < (↑x0n : Int)) (ld H114 (Addr.add a123 (Int.toNat n122 * 1)) (fun v124 =>
  dInt IntKind.i64 v124 (fun n125 =>
  nz x0a (fun a126 =>
  ask ((0 : Int) ≤ n116 ∧ n116 < (↑x0n : Int)) (st H114 (Addr.add a126 (Int.toNat n116 * 1)) (Value.int IntKind.i64 n121) (fun H127 =>
  nz x0a (fun a128 =>
  ask ((0 : Int) ≤ n117 ∧ n117 < (↑x0n : Int)) (st H127 (Addr.add a128 (Int.toNat n117 * 1)) (Value.int IntKind.i64 n125) (fun H129 =>
  (I1 ([Value.int IntKind.i64 n104]) H129) ∧
  (I2 [Value.int IntKind.i64 n104] H129) < (I2 [Value.int IntKind.i64 n3] H74)))))))))))))))))))))) nopR)))))))))))))) (fun k132 =>
  jn (α := VFH 1) (fun v133 H134 =>
  ∀ v135 v136 v137 v138 v139 v140 v141 v142 v143 v144 v145 v146 v147 v148 v149 v150 v151 v152 v153 v154 v155 : Value,
  dBl v133 (fun b156 =>
  sB b156 (wr IntKind.i64 (n77 + 1) (fun n157 =>
  k132 (Value.int IntKind.i64 n157) H134)) (k132 (Value.int IntKind.i64 n77) H134))) (fun k158 =>
  wr IntKind.i64 (n77 + 1) (fun n159 =>
  sB (decide (n159 < x2)) (wr IntKind.i64 (x3 + n77) (fun n160 =>
  nz x0a (fun a161 =>
  ask ((0 : Int) ≤ n160 ∧ n160 < (↑x0n : Int)) (ld H74 (Addr.add a161 (Int.toNat n160 * 1)) (fun v162 =>
  dInt IntKind.i64 v162 (fun n163 =>
  wr IntKind.i64 (x3 + n77) (fun n164 =>
  wr IntKind.i64 (n164 + 1) (fun n165 =>
  nz x0a (fun a166 =>
  ask ((0 : Int) ≤ n165 ∧ n165 < (↑x0n : Int)) (ld H74 (Addr.add a166 (Int.toNat n165 * 1)) (fun v167 =>
  dInt IntKind.i64 v167 (fun n168 =>
  gB (plainFn Try.prog x4g) (HCalls Try.prog x4g (argsOf x4f [Value.int IntKind.i64 n163, Value.int IntKind.i64 n168] x4c) H74 (Sp.retK (fun v169 H170 =>
  dInt IntKind.i64 v169 (fun n171 =>
  k158 (Value.bool (decide (n171 < 0))) H170)) nopR)))))))))))))) (k158 (Value.bool false) H74)))))))
theorem F150_eq (x0a : Option Addr) (x0n : Nat) (x0c : Nat) (x1 : Int) (x2 : Int) (x3 : Int) (x4g : Nat) (x4f : Array Value) (x4c : Array Value) (R : Ending → Heap → Prop) (H : Heap) : F150 x0a x0n x0c x1 x2 x3 x4g x4f x4c R H = vc Try.prog (codeOf Try.f150) (.node none .leaf (.node none (.node (some ⟨[(10, 3)], [11, 13, 14, 15, 16, 17, 18, 19, 20, 21, 22, 23, 24, 25, 26, 27, 28, 29, 30, 31, 32, 33, 34, 35, 36, 37, 38, 39, 40, 41, 42, 43, 44, 45, 46, 47, 48, 49, 50, 51, 52, 53, 54, 55, 56, 57, 58, 59, 60, 61, 62, 63, 64, 65, 66, 67, 68, 69, 70, 71, 72, 73, 74, 75, 76, 77, 78, 79, 80, 81]⟩) (.node none (.node none .leaf (.node none .leaf (.node (some ⟨[(11, 3)], [19, 20, 21, 22, 23, 24, 25, 26, 27, 28, 29, 30, 31, 32, 33, 34, 35, 36, 37, 38, 39, 40, 41, 42]⟩) (.node (some ⟨[(40, 4)], [19, 20, 21, 22, 23, 24, 25, 26, 27, 28, 29, 30, 31, 32, 33, 34, 35, 36, 37, 38, 39]⟩) .leaf .leaf) .leaf))) .leaf) .leaf) .leaf)) (postV Try.prog Try.f150 R) ⟨#[Value.slice x0a x0n x0c, Value.int IntKind.i64 x1, Value.int IntKind.i64 x2, Value.int IntKind.i64 x3, Value.func (Fn.func x4g) x4f x4c] ++ Array.replicate (Try.f150.ntmps - 5) undef, []⟩ H := by kernel_rfl
theorem F150_calls {R : Ending → Heap → Prop} {H : Heap} (x0a : Option Addr) (x0n : Nat) (x0c : Nat) (x1 : Int) (x2 : Int) (x3 : Int) (x4g : Nat) (x4f : Array Value) (x4c : Array Value) (h : F150 x0a x0n x0c x1 x2 x3 x4g x4f x4c R H) : HCalls Try.prog 150 #[Value.slice x0a x0n x0c, Value.int IntKind.i64 x1, Value.int IntKind.i64 x2, Value.int IntKind.i64 x3, Value.func (Fn.func x4g) x4f x4c] H R :=
  calls_by (.node none .leaf (.node none (.node (some ⟨[(10, 3)], [11, 13, 14, 15, 16, 17, 18, 19, 20, 21, 22, 23, 24, 25, 26, 27, 28, 29, 30, 31, 32, 33, 34, 35, 36, 37, 38, 39, 40, 41, 42, 43, 44, 45, 46, 47, 48, 49, 50, 51, 52, 53, 54, 55, 56, 57, 58, 59, 60, 61, 62, 63, 64, 65, 66, 67, 68, 69, 70, 71, 72, 73, 74, 75, 76, 77, 78, 79, 80, 81]⟩) (.node none (.node none .leaf (.node none .leaf (.node (some ⟨[(11, 3)], [19, 20, 21, 22, 23, 24, 25, 26, 27, 28, 29, 30, 31, 32, 33, 34, 35, 36, 37, 38, 39, 40, 41, 42]⟩) (.node (some ⟨[(40, 4)], [19, 20, 21, 22, 23, 24, 25, 26, 27, 28, 29, 30, 31, 32, 33, 34, 35, 36, 37, 38, 39]⟩) .leaf .leaf) .leaf))) .leaf) .leaf) .leaf)) Try.func150 rfl (F150_eq x0a x0n x0c x1 x2 x3 x4g x4f x4c R H) h
/-- slices.medianAdjacentCmpFunc[int] -/
def F151 (x0a : Option Addr) (x0n : Nat) (x0c : Nat) (x1 : Int) (x2 : Option Addr) (x3g : Nat) (x3f : Array Value) (x3c : Array Value) (R : Ending → Heap → Prop) (H : Heap) : Prop :=
  wr IntKind.i64 (x1 - 1) (fun n1 =>
  wr IntKind.i64 (x1 + 1) (fun n2 =>
  HCalls Try.prog 152 #[Value.slice x0a x0n x0c, Value.int IntKind.i64 n1, Value.int IntKind.i64 x1, Value.int IntKind.i64 n2, Value.pointer x2, Value.func (Fn.func x3g) x3f x3c] H (Sp.retK (fun v3 H4 =>
  dInt IntKind.i64 v3 (fun n5 =>
  R (Ending.returned (Value.int IntKind.i64 n5)) H4)) (pnR R))))
theorem F151_eq (x0a : Option Addr) (x0n : Nat) (x0c : Nat) (x1 : Int) (x2 : Option Addr) (x3g : Nat) (x3f : Array Value) (x3c : Array Value) (R : Ending → Heap → Prop) (H : Heap) : F151 x0a x0n x0c x1 x2 x3g x3f x3c R H = vc Try.prog (codeOf Try.f151) .leaf (postV Try.prog Try.f151 R) ⟨#[Value.slice x0a x0n x0c, Value.int IntKind.i64 x1, Value.pointer x2, Value.func (Fn.func x3g) x3f x3c] ++ Array.replicate (Try.f151.ntmps - 4) undef, []⟩ H := by kernel_rfl
theorem F151_calls {R : Ending → Heap → Prop} {H : Heap} (x0a : Option Addr) (x0n : Nat) (x0c : Nat) (x1 : Int) (x2 : Option Addr) (x3g : Nat) (x3f : Array Value) (x3c : Array Value) (h : F151 x0a x0n x0c x1 x2 x3g x3f x3c R H) : HCalls Try.prog 151 #[Value.slice x0a x0n x0c, Value.int IntKind.i64 x1, Value.pointer x2, Value.func (Fn.func x3g) x3f x3c] H R :=
  calls_by .leaf Try.func151 rfl (F151_eq x0a x0n x0c x1 x2 x3g x3f x3c R H) h
/-- slices.medianCmpFunc[int] -/
def F152 (x0a : Option Addr) (x0n : Nat) (x0c : Nat) (x1 : Int) (x2 : Int) (x3 : Int) (x4 : Option Addr) (x5g : Nat) (x5f : Array Value) (x5c : Array Value) (R : Ending → Heap → Prop) (H : Heap) : Prop :=
  HCalls Try.prog 153 #[Value.slice x0a x0n x0c, Value.int IntKind.i64 x1, Value.int IntKind.i64 x2, Value.pointer x4, Value.func (Fn.func x5g) x5f x5c] H (Sp.retK (fun v1 H2 =>
  dT 2 v1 (fun v3 v4 =>
  dInt IntKind.i64 v3 (fun n5 =>
  dInt IntKind.i64 v4 (fun n6 =>
  HCalls Try.prog 153 #[Value.slice x0a x0n x0c, Value.int IntKind.i64 n6, Value.int IntKind.i64 x3, Value.pointer x4, Value.func (Fn.func x5g) x5f x5c] H2 (Sp.retK (fun v7 H8 =>
  dT 2 v7 (fun v9 v10 =>
  dInt IntKind.i64 v9 (fun n11 =>
  dInt IntKind.i64 v10 (fun n12 =>
  HCalls Try.prog 153 #[Value.slice x0a x0n x0c, Value.int IntKind.i64 n5, Value.int IntKind.i64 n11, Value.pointer x4, Value.func (Fn.func x5g) x5f x5c] H8 (Sp.retK (fun v13 H14 =>
  dT 2 v13 (fun v15 v16 =>
  dInt IntKind.i64 v15 (fun n17 =>
  dInt IntKind.i64 v16 (fun n18 =>
  R (Ending.returned (Value.int IntKind.i64 n18)) H14)))) (pnR R)))))) (pnR R)))))) (pnR R))
theorem F152_eq (x0a : Option Addr) (x0n : Nat) (x0c : Nat) (x1 : Int) (x2 : Int) (x3 : Int) (x4 : Option Addr) (x5g : Nat) (x5f : Array Value) (x5c : Array Value) (R : Ending → Heap → Prop) (H : Heap) : F152 x0a x0n x0c x1 x2 x3 x4 x5g x5f x5c R H = vc Try.prog (codeOf Try.f152) .leaf (postV Try.prog Try.f152 R) ⟨#[Value.slice x0a x0n x0c, Value.int IntKind.i64 x1, Value.int IntKind.i64 x2, Value.int IntKind.i64 x3, Value.pointer x4, Value.func (Fn.func x5g) x5f x5c] ++ Array.replicate (Try.f152.ntmps - 6) undef, []⟩ H := by kernel_rfl
theorem F152_calls {R : Ending → Heap → Prop} {H : Heap} (x0a : Option Addr) (x0n : Nat) (x0c : Nat) (x1 : Int) (x2 : Int) (x3 : Int) (x4 : Option Addr) (x5g : Nat) (x5f : Array Value) (x5c : Array Value) (h : F152 x0a x0n x0c x1 x2 x3 x4 x5g x5f x5c R H) : HCalls Try.prog 152 #[Value.slice x0a x0n x0c, Value.int IntKind.i64 x1, Value.int IntKind.i64 x2, Value.int IntKind.i64 x3, Value.pointer x4, Value.func (Fn.func x5g) x5f x5c] H R :=
  calls_by .leaf Try.func152 rfl (F152_eq x0a x0n x0c x1 x2 x3 x4 x5g x5f x5c R H) h
/-- slices.order2CmpFunc[int] -/
def F153 (x0a : Option Addr) (x0n : Nat) (x0c : Nat) (x1 : Int) (x2 : Int) (x3 : Option Addr) (x4g : Nat) (x4f : Array Value) (x4c : Array Value) (R : Ending → Heap → Prop) (H : Heap) : Prop :=
  nz x0a (fun a1 =>
  ask ((0 : Int) ≤ x2 ∧ x2 < (↑x0n : Int)) (ld H (Addr.add a1 (Int.toNat x2 * 1)) (fun v2 =>
  dInt IntKind.i64 v2 (fun n3 =>
  nz x0a (fun a4 =>
  ask ((0 : Int) ≤ x1 ∧ x1 < (↑x0n : Int)) (ld H (Addr.add a4 (Int.toNat x1 * 1)) (fun v5 =>
  dInt IntKind.i64 v5 (fun n6 =>
  gB (plainFn Try.prog x4g) (HCalls Try.prog x4g (argsOf x4f [Value.int IntKind.i64 n3, Value.int IntKind.i64 n6] x4c) H (Sp.retK (fun v7 H8 =>
  dInt IntKind.i64 v7 (fun n9 =>
  sB (decide (n9 < 0)) (nz x3 (fun a10 =>
  ld H8 a10 (fun v11 =>
  dInt IntKind.i64 v11 (fun n12 =>
  wr IntKind.i64 (n12 + 1) (fun n13 =>
  nz x3 (fun a14 =>
  st H8 a14 (Value.int IntKind.i64 n13) (fun H15 =>
  R (Ending.returned (Value.tuple #[Value.int IntKind.i64 x2, Value.int IntKind.i64 x1])) H15))))))) (R (Ending.returned (Value.tuple #[Value.int IntKind.i64 x1, Value.int IntKind.i64 x2])) H8))) nopR))))))))))
theorem F153_eq (x0a : Option Addr) (x0n : Nat) (x0c : Nat) (x1 : Int) (x2 : Int) (x3 : Option Addr) (x4g : Nat) (x4f : Array Value) (x4c : Array Value) (R : Ending → Heap → Prop) (H : Heap) : F153 x0a x0n x0c x1 x2 x3 x4g x4f x4c R H = vc Try.prog (codeOf Try.f153) .leaf (postV Try.prog Try.f153 R) ⟨#[Value.slice x0a x0n x0c, Value.int IntKind.i64 x1, Value.int IntKind.i64 x2, Value.pointer x3, Value.func (Fn.func x4g) x4f x4c] ++ Array.replicate (Try.f153.ntmps - 5) undef, []⟩ H := by kernel_rfl
theorem F153_calls {R : Ending → Heap → Prop} {H : Heap} (x0a : Option Addr) (x0n : Nat) (x0c : Nat) (x1 : Int) (x2 : Int) (x3 : Option Addr) (x4g : Nat) (x4f : Array Value) (x4c : Array Value) (h : F153 x0a x0n x0c x1 x2 x3 x4g x4f x4c R H) : HCalls Try.prog 153 #[Value.slice x0a x0n x0c, Value.int IntKind.i64 x1, Value.int IntKind.i64 x2, Value.pointer x3, Value.func (Fn.func x4g) x4f x4c] H R :=
  calls_by .leaf Try.func153 rfl (F153_eq x0a x0n x0c x1 x2 x3 x4g x4f x4c R H) h
end Go.Proofs.Ytmgjdmohmhaemaa.E
