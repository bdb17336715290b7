/- My own texts, joined. -/
import Derived.KernelRfl
import Derived.Test.YtklppdodadkcnaaGreatProg
import Derived.Test.YtklppdodadkcnaaGreatIP3
/- The functions' forms in the engine's words, printed by my own program. -/
namespace Go.Proofs.YtklppdodadkcnaaGreat.E
open Go Go.Proofs
set_option linter.unusedVariables false
set_option maxRecDepth 100000
/-- bollard/layout.DecodeDinode -/
def F24 (x0a : Option Addr) (x0n : Nat) (x0c : Nat) (R : Ending → Heap → Prop) (H : Heap) : Prop :=
  al H (Obj.cells #[Value.int IntKind.i64 0, Value.int IntKind.i64 0, Value.int IntKind.i64 0, Value.int IntKind.i64 0, Value.int IntKind.i64 0, Value.int IntKind.i64 0, Value.int IntKind.i64 0, Value.int IntKind.i64 0, Value.int IntKind.i64 0] 26) (fun r1 H2 =>
  sB ((↑x0n : Int) != 32) (st H2 (Addr.mk r1 0 none) (Value.int IntKind.i64 0) (fun H3 =>
  st H3 (Addr.mk r1 1 none) (Value.int IntKind.i64 0) (fun H4 =>
  st H4 (Addr.mk r1 2 none) (Value.int IntKind.i64 0) (fun H5 =>
  st H5 (Addr.mk r1 3 none) (Value.int IntKind.i64 0) (fun H6 =>
  st H6 (Addr.mk r1 4 none) (Value.int IntKind.i64 0) (fun H7 =>
  st H7 (Addr.mk r1 5 none) (Value.int IntKind.i64 0) (fun H8 =>
  st H8 (Addr.mk r1 6 none) (Value.int IntKind.i64 0) (fun H9 =>
  st H9 (Addr.mk r1 7 none) (Value.int IntKind.i64 0) (fun H10 =>
  st H10 (Addr.mk r1 8 none) (Value.int IntKind.i64 0) (fun H11 =>
  ld H11 (Addr.mk r1 0 none) (fun v12 =>
  ld H11 (Addr.mk r1 1 none) (fun v13 =>
  ld H11 (Addr.mk r1 2 none) (fun v14 =>
  ld H11 (Addr.mk r1 3 none) (fun v15 =>
  ld H11 (Addr.mk r1 4 none) (fun v16 =>
  ld H11 (Addr.mk r1 5 none) (fun v17 =>
  ld H11 (Addr.mk r1 6 none) (fun v18 =>
  ld H11 (Addr.mk r1 7 none) (fun v19 =>
  ld H11 (Addr.mk r1 8 none) (fun v20 =>
  R (Ending.returned (Value.tuple #[Value.agg #[v12, v13, v14, v15, v16, v17, v18, v19, v20], Value.int IntKind.i64 6])) H11))))))))))))))))))) (HCalls Tryz.prog 64 #[Value.slice x0a x0n x0c] H2 (Sp.retK (fun v21 H22 =>
  dBl v21 (fun b23 =>
  sB b23 (st H22 (Addr.mk r1 0 none) (Value.int IntKind.i64 0) (fun H24 =>
  st H24 (Addr.mk r1 1 none) (Value.int IntKind.i64 0) (fun H25 =>
  st H25 (Addr.mk r1 2 none) (Value.int IntKind.i64 0) (fun H26 =>
  st H26 (Addr.mk r1 3 none) (Value.int IntKind.i64 0) (fun H27 =>
  st H27 (Addr.mk r1 4 none) (Value.int IntKind.i64 0) (fun H28 =>
  st H28 (Addr.mk r1 5 none) (Value.int IntKind.i64 0) (fun H29 =>
  st H29 (Addr.mk r1 6 none) (Value.int IntKind.i64 0) (fun H30 =>
  st H30 (Addr.mk r1 7 none) (Value.int IntKind.i64 0) (fun H31 =>
  st H31 (Addr.mk r1 8 none) (Value.int IntKind.i64 0) (fun H32 =>
  ld H32 (Addr.mk r1 0 none) (fun v33 =>
  ld H32 (Addr.mk r1 1 none) (fun v34 =>
  ld H32 (Addr.mk r1 2 none) (fun v35 =>
  ld H32 (Addr.mk r1 3 none) (fun v36 =>
  ld H32 (Addr.mk r1 4 none) (fun v37 =>
  ld H32 (Addr.mk r1 5 none) (fun v38 =>
  ld H32 (Addr.mk r1 6 none) (fun v39 =>
  ld H32 (Addr.mk r1 7 none) (fun v40 =>
  ld H32 (Addr.mk r1 8 none) (fun v41 =>
  R (Ending.returned (Value.tuple #[Value.agg #[v33, v34, v35, v36, v37, v38, v39, v40, v41], Value.int IntKind.i64 0])) H32))))))))))))))))))) (HCalls Tryz.prog 65 #[Value.slice x0a x0n x0c] H22 (Sp.retK (fun v42 H43 =>
  dBl v42 (fun b44 =>
  sB (!b44) (st H43 (Addr.mk r1 0 none) (Value.int IntKind.i64 0) (fun H45 =>
  st H45 (Addr.mk r1 1 none) (Value.int IntKind.i64 0) (fun H46 =>
  st H46 (Addr.mk r1 2 none) (Value.int IntKind.i64 0) (fun H47 =>
  st H47 (Addr.mk r1 3 none) (Value.int IntKind.i64 0) (fun H48 =>
  st H48 (Addr.mk r1 4 none) (Value.int IntKind.i64 0) (fun H49 =>
  st H49 (Addr.mk r1 5 none) (Value.int IntKind.i64 0) (fun H50 =>
  st H50 (Addr.mk r1 6 none) (Value.int IntKind.i64 0) (fun H51 =>
  st H51 (Addr.mk r1 7 none) (Value.int IntKind.i64 0) (fun H52 =>
  st H52 (Addr.mk r1 8 none) (Value.int IntKind.i64 0) (fun H53 =>
  ld H53 (Addr.mk r1 0 none) (fun v54 =>
  ld H53 (Addr.mk r1 1 none) (fun v55 =>
  ld H53 (Addr.mk r1 2 none) (fun v56 =>
  ld H53 (Addr.mk r1 3 none) (fun v57 =>
  ld H53 (Addr.mk r1 4 none) (fun v58 =>
  ld H53 (Addr.mk r1 5 none) (fun v59 =>
  ld H53 (Addr.mk r1 6 none) (fun v60 =>
  ld H53 (Addr.mk r1 7 none) (fun v61 =>
  ld H53 (Addr.mk r1 8 none) (fun v62 =>
  R (Ending.returned (Value.tuple #[Value.agg #[v54, v55, v56, v57, v58, v59, v60, v61, v62], Value.int IntKind.i64 30])) H53))))))))))))))))))) (HCalls Tryz.prog 66 #[Value.slice x0a x0n x0c] H43 (Sp.retK (fun v63 H64 =>
  dPtr v63 (fun p65 =>
  HCalls Tryz.prog 67 #[Value.pointer p65, Value.int IntKind.i64 1] H64 (Sp.retK (fun v66 H67 =>
  dInt IntKind.i64 v66 (fun n68 =>
  al H67 (Obj.cells #[Value.int IntKind.i64 0, Value.int IntKind.i64 0, Value.int IntKind.i64 0, Value.int IntKind.i64 0, Value.int IntKind.i64 0, Value.int IntKind.i64 0, Value.int IntKind.i64 0, Value.int IntKind.i64 0, Value.int IntKind.i64 0] 26) (fun r69 H70 =>
  st H70 (Addr.mk r69 0 none) (Value.int IntKind.i64 n68) (fun H71 =>
  st H71 (Addr.mk r69 1 none) (Value.int IntKind.i64 0) (fun H72 =>
  st H72 (Addr.mk r69 2 none) (Value.int IntKind.i64 0) (fun H73 =>
  st H73 (Addr.mk r69 3 none) (Value.int IntKind.i64 0) (fun H74 =>
  st H74 (Addr.mk r69 4 none) (Value.int IntKind.i64 0) (fun H75 =>
  st H75 (Addr.mk r69 5 none) (Value.int IntKind.i64 0) (fun H76 =>
  st H76 (Addr.mk r69 6 none) (Value.int IntKind.i64 0) (fun H77 =>
  st H77 (Addr.mk r69 7 none) (Value.int IntKind.i64 0) (fun H78 =>
  st H78 (Addr.mk r69 8 none) (Value.int IntKind.i64 0) (fun H79 =>
  HCalls Tryz.prog 68 #[Value.pointer p65, Value.int IntKind.i64 1] H79 (Sp.retK (fun v80 H81 =>
  HCalls Tryz.prog 67 #[Value.pointer p65, Value.int IntKind.i64 2] H81 (Sp.retK (fun v82 H83 =>
  dInt IntKind.i64 v82 (fun n84 =>
  HCalls Tryz.prog 67 #[Value.pointer p65, Value.int IntKind.i64 4] H83 (Sp.retK (fun v85 H86 =>
  dInt IntKind.i64 v85 (fun n87 =>
  st H86 (Addr.mk r69 1 none) (Value.int IntKind.i64 n84) (fun H88 =>
  st H88 (Addr.mk r69 2 none) (Value.int IntKind.i64 n87) (fun H89 =>
  ∃ I90 : List Value → Heap → Prop,
  ∃ I91 : List Value → Heap → Nat,
  (I90 ([Value.int IntKind.i64 0]) H89) ∧
  ∀ n92 : Int,
  ∀ v93 v94 v95 v96 v97 v98 v99 v100 v101 : Value,
  ∀ H102 : Heap,
  (I90 ([Value.int IntKind.i64 n92]) H102) →
  sB (decide (n92 < 4)) (HCalls Tryz.prog 67 #[Value.pointer p65, Value.int IntKind.i64 2] H102 (Sp.retK (fun v104 H105 =>
  dInt IntKind.i64 v104 (fun n106 =>
  ask ((0 : Int) ≤ n92 ∧ n92 < (4 : Int)) (st H105 (Addr.add (Addr.mk r69 3 none) (Int.toNat n92 * 1)) (Value.int IntKind.i64 n106) (fun H107 =>
  wr IntKind.i64 (n92 + 1) (fun n108 =>
  (I90 ([Value.int IntKind.i64 n108]) H107) ∧
  (I91 [Value.int IntKind.i64 n108] H107) < (I91 [Value.int IntKind.i64 n92] H102)))))) (pnR R))) (HCalls Tryz.prog 67 #[Value.pointer p65, Value.int IntKind.i64 2] H102 (Sp.retK (fun v111 H112 =>
  dInt IntKind.i64 v111 (fun n113 =>
  HCalls Tryz.prog 67 #[Value.pointer p65, Value.int IntKind.i64 2] H112 (Sp.retK (fun v114 H115 =>
  dInt IntKind.i64 v114 (fun n116 =>
  st H115 (Addr.mk r69 7 none) (Value.int IntKind.i64 n113) (fun H117 =>
  st H117 (Addr.mk r69 8 none) (Value.int IntKind.i64 n116) (fun H118 =>
  ld H118 (Addr.mk r69 0 none) (fun v119 =>
  ld H118 (Addr.mk r69 1 none) (fun v120 =>
  ld H118 (Addr.mk r69 2 none) (fun v121 =>
  ld H118 (Addr.mk r69 3 none) (fun v122 =>
  ld H118 (Addr.mk r69 4 none) (fun v123 =>
  ld H118 (Addr.mk r69 5 none) (fun v124 =>
  ld H118 (Addr.mk r69 6 none) (fun v125 =>
  ld H118 (Addr.mk r69 7 none) (fun v126 =>
  ld H118 (Addr.mk r69 8 none) (fun v127 =>
  HCalls Tryz.prog 25 #[Value.agg #[v119, v120, v121, v122, v123, v124, v125, v126, v127]] H118 (Sp.retK (fun v128 H129 =>
  dT 2 v128 (fun v130 v131 =>
  dSl v130 (fun p132 r133 r134 =>
  dInt IntKind.i64 v131 (fun n135 =>
  jn (α := VFH 1) (fun v136 H137 =>
  ∀ v138 v139 v140 v141 v142 v143 v144 : Value,
  dBl v136 (fun b145 =>
  sB b145 (st H137 (Addr.mk r1 0 none) (Value.int IntKind.i64 0) (fun H146 =>
  st H146 (Addr.mk r1 1 none) (Value.int IntKind.i64 0) (fun H147 =>
  st H147 (Addr.mk r1 2 none) (Value.int IntKind.i64 0) (fun H148 =>
  st H148 (Addr.mk r1 3 none) (Value.int IntKind.i64 0) (fun H149 =>
  st H149 (Addr.mk r1 4 none) (Value.int IntKind.i64 0) (fun H150 =>
  st H150 (Addr.mk r1 5 none) (Value.int IntKind.i64 0) (fun H151 =>
  st H151 (Addr.mk r1 6 none) (Value.int IntKind.i64 0) (fun H152 =>
  st H152 (Addr.mk r1 7 none) (Value.int IntKind.i64 0) (fun H153 =>
  st H153 (Addr.mk r1 8 none) (Value.int IntKind.i64 0) (fun H154 =>
  ld H154 (Addr.mk r1 0 none) (fun v155 =>
  ld H154 (Addr.mk r1 1 none) (fun v156 =>
  ld H154 (Addr.mk r1 2 none) (fun v157 =>
  ld H154 (Addr.mk r1 3 none) (fun v158 =>
  ld H154 (Addr.mk r1 4 none) (fun v159 =>
  ld H154 (Addr.mk r1 5 none) (fun v160 =>
  ld H154 (Addr.mk r1 6 none) (fun v161 =>
  ld H154 (Addr.mk r1 7 none) (fun v162 =>
  ld H154 (Addr.mk r1 8 none) (fun v163 =>
  R (Ending.returned (Value.tuple #[Value.agg #[v155, v156, v157, v158, v159, v160, v161, v162, v163], Value.int IntKind.i64 6])) H154))))))))))))))))))) (ld H137 (Addr.mk r69 0 none) (fun v164 =>
  ld H137 (Addr.mk r69 1 none) (fun v165 =>
  ld H137 (Addr.mk r69 2 none) (fun v166 =>
  ld H137 (Addr.mk r69 3 none) (fun v167 =>
  ld H137 (Addr.mk r69 4 none) (fun v168 =>
  ld H137 (Addr.mk r69 5 none) (fun v169 =>
  ld H137 (Addr.mk r69 6 none) (fun v170 =>
  ld H137 (Addr.mk r69 7 none) (fun v171 =>
  ld H137 (Addr.mk r69 8 none) (fun v172 =>
  st H137 (Addr.mk r1 0 none) v164 (fun H173 =>
  st H173 (Addr.mk r1 1 none) v165 (fun H174 =>
  st H174 (Addr.mk r1 2 none) v166 (fun H175 =>
  st H175 (Addr.mk r1 3 none) v167 (fun H176 =>
  st H176 (Addr.mk r1 4 none) v168 (fun H177 =>
  st H177 (Addr.mk r1 5 none) v169 (fun H178 =>
  st H178 (Addr.mk r1 6 none) v170 (fun H179 =>
  st H179 (Addr.mk r1 7 none) v171 (fun H180 =>
  st H180 (Addr.mk r1 8 none) v172 (fun H181 =>
  ld H181 (Addr.mk r1 0 none) (fun v182 =>
  ld H181 (Addr.mk r1 1 none) (fun v183 =>
  ld H181 (Addr.mk r1 2 none) (fun v184 =>
  ld H181 (Addr.mk r1 3 none) (fun v185 =>
  ld H181 (Addr.mk r1 4 none) (fun v186 =>
  ld H181 (Addr.mk r1 5 none) (fun v187 =>
  ld H181 (Addr.mk r1 6 none) (fun v188 =>
  ld H181 (Addr.mk r1 7 none) (fun v189 =>
  ld H181 (Addr.mk r1 8 none) (fun v190 =>
  R (Ending.returned (Value.tuple #[Value.agg #[v182, v183, v184, v185, v186, v187, v188, v189, v190], Value.int IntKind.i64 0])) H181)))))))))))))))))))))))))))))) (fun k191 =>
  sB (n135 != 0) (k191 (Value.bool true) H129) (HCalls Tryz.prog 69 #[Value.slice p132 r133 r134, Value.slice x0a x0n x0c] H129 (Sp.retK (fun v192 H193 =>
  dBl v192 (fun b194 =>
  k191 (Value.bool !b194) H193)) (pnR R)))))))) (pnR R))))))))))))))) (pnR R)))) (pnR R))))))) (pnR R)))) (pnR R))) (pnR R)))))))))))))) (pnR R)))) (pnR R))))) (pnR R))))) (pnR R))))
theorem F24_eq (x0a : Option Addr) (x0n : Nat) (x0c : Nat) (R : Ending → Heap → Prop) (H : Heap) : F24 x0a x0n x0c R H = vc Tryz.prog (codeOf Tryz.f24) (.node none .leaf (.node none .leaf (.node none .leaf (.node none .leaf (.node none .leaf (.node none .leaf (.node none (.node none .leaf (.node none (.node (some ⟨[(36, 3)], [6, 37, 38, 39, 40, 41, 42, 43, 44]⟩) .leaf .leaf) .leaf)) (.node none .leaf (.node none .leaf (.node none (.node (some ⟨[(63, 4)], [56, 57, 58, 59, 60, 61, 62]⟩) .leaf .leaf) .leaf)))))))))) (postV Tryz.prog Tryz.f24 R) ⟨#[Value.slice x0a x0n x0c] ++ Array.replicate (Tryz.f24.ntmps - 1) undef, []⟩ H := by kernel_rfl
theorem F24_calls {R : Ending → Heap → Prop} {H : Heap} (x0a : Option Addr) (x0n : Nat) (x0c : Nat) (h : F24 x0a x0n x0c R H) : HCalls Tryz.prog 24 #[Value.slice x0a x0n x0c] H R :=
  calls_by (F := F24 x0a x0n x0c R H) (.node none .leaf (.node none .leaf (.node none .leaf (.node none .leaf (.node none .leaf (.node none .leaf (.node none (.node none .leaf (.node none (.node (some ⟨[(36, 3)], [6, 37, 38, 39, 40, 41, 42, 43, 44]⟩) .leaf .leaf) .leaf)) (.node none .leaf (.node none .leaf (.node none (.node (some ⟨[(63, 4)], [56, 57, 58, 59, 60, 61, 62]⟩) .leaf .leaf) .leaf)))))))))) Tryz.func24 rfl (F24_eq x0a x0n x0c R H) h
/-- bollard/layout.EncodeDinode -/
def F25 (x0_0 : Value) (x0_1 : Value) (x0_2 : Value) (x0_3 : Value) (x0_4 : Value) (x0_5 : Value) (x0_6 : Value) (x0_7 : Value) (x0_8 : Value) (R : Ending → Heap → Prop) (H : Heap) : Prop :=
  al H (Obj.cells #[x0_0, x0_1, x0_2, x0_3, x0_4, x0_5, x0_6, x0_7, x0_8] 26) (fun r1 H2 =>
  ld H2 (Addr.mk r1 0 none) (fun v3 =>
  dInt IntKind.i64 v3 (fun n4 =>
  ld H2 (Addr.mk r1 1 none) (fun v5 =>
  dInt IntKind.i64 v5 (fun n6 =>
  ld H2 (Addr.mk r1 2 none) (fun v7 =>
  dInt IntKind.i64 v7 (fun n8 =>
  al H2 (Obj.cells #[Value.int IntKind.i64 1, Value.int IntKind.i64 2, Value.int IntKind.i64 n4, Value.int IntKind.i64 1, Value.int IntKind.i64 0, Value.int IntKind.i64 0, Value.int IntKind.i64 2, Value.int IntKind.i64 1000, Value.int IntKind.i64 n6, Value.int IntKind.i64 4, Value.int IntKind.i64 532992, Value.int IntKind.i64 n8] 147) (fun r9 H10 =>
  ld H10 (Addr.mk r1 3 none) (fun v11 =>
  ld H10 (Addr.mk r1 4 none) (fun v12 =>
  ld H10 (Addr.mk r1 5 none) (fun v13 =>
  ld H10 (Addr.mk r1 6 none) (fun v14 =>
  ∃ I15 : List Value → Heap → Prop,
  ∃ I16 : List Value → Heap → Nat,
  (I15 ([Value.slice (some (Addr.mk r9 0 none)) 4 4, Value.int IntKind.i64 0]) H10) ∧
  ∀ p17 : Option Addr,
  ∀ r18 : Nat,
  ∀ r19 : Nat,
  ∀ n20 : Int,
  ∀ v21 v22 v23 v24 v25 v26 v27 v28 v29 : Value,
  ∀ H30 : Heap,
  (I15 ([Value.slice p17 r18 r19, Value.int IntKind.i64 n20]) H30) →
  sB (decide (n20 < 4)) (ask ((0 : Int) ≤ n20 ∧ n20 < (4 : Int)) (oV ([v11, v12, v13, v14][Int.toNat n20 * 1]?) (fun v32 =>
  dInt IntKind.i64 v32 (fun n33 =>
  al H30 (Obj.cells #[Value.int IntKind.i64 2, Value.int IntKind.i64 2047, Value.int IntKind.i64 n33] 147) (fun r34 H35 =>
  semW Tryz.prog (Builtin.append_ #[148, 148] 148 #[Value.slice p17 r18 r19, Value.slice (some (Addr.mk r34 0 none)) 1 1]) (pnR R) H35 (fun v38 H39 =>
  dSl v38 (fun p40 r41 r42 =>
  wr IntKind.i64 (n20 + 1) (fun n43 =>
  (I15 ([Value.slice p40 r41 r42, Value.int IntKind.i64 n43]) H39) ∧
  (I16 [Value.slice p40 r41 r42, Value.int IntKind.i64 n43] H39) < (I16 [Value.slice p17 r18 r19, Value.int IntKind.i64 n20] H30))))))))) (ld H30 (Addr.mk r1 7 none) (fun v44 =>
  dInt IntKind.i64 v44 (fun n45 =>
  ld H30 (Addr.mk r1 8 none) (fun v46 =>
  dInt IntKind.i64 v46 (fun n47 =>
  al H30 (Obj.cells #[Value.int IntKind.i64 2, Value.int IntKind.i64 2047, Value.int IntKind.i64 n45, Value.int IntKind.i64 2, Value.int IntKind.i64 2047, Value.int IntKind.i64 n47] 147) (fun r48 H49 =>
  semW Tryz.prog (Builtin.append_ #[148, 148] 148 #[Value.slice p17 r18 r19, Value.slice (some (Addr.mk r48 0 none)) 2 2]) (pnR R) H49 (fun v52 H53 =>
  dSl v52 (fun p54 r55 r56 =>
  jn (α := VFH 1) (fun v57 H58 =>
  ∀ v59 v60 v61 v62 v63 v64 v65 : Value,
  dBl v57 (fun b66 =>
  sB b66 (R (Ending.returned (Value.tuple #[Value.slice none 0 0, Value.int IntKind.i64 1])) H58) (HCalls Tryz.prog 73 #[Value.slice none 0 0, Value.slice p54 r55 r56] H58 (Sp.retK (fun v67 H68 =>
  dSl v67 (fun p69 r70 r71 =>
  HCalls Tryz.prog 72 #[Value.slice p69 r70 r71, Value.int IntKind.i64 32] H68 (Sp.retK (fun v72 H73 =>
  dSl v72 (fun p74 r75 r76 =>
  ld H73 (Addr.mk r1 0 none) (fun v77 =>
  dInt IntKind.i64 v77 (fun n78 =>
  sB (n78 == 0) (R (Ending.returned (Value.tuple #[Value.slice p74 r75 r76, Value.int IntKind.i64 0])) H73) (HCalls Tryz.prog 74 #[Value.slice p74 r75 r76] H73 (Sp.retK (fun v79 H80 =>
  dT 2 v79 (fun v81 v82 =>
  dSl v81 (fun p83 r84 r85 =>
  dInt IntKind.i64 v82 (fun n86 =>
  R (Ending.returned (Value.tuple #[Value.slice p83 r84 r85, Value.int IntKind.i64 n86])) H80)))) (pnR R))))))) (pnR R)))) (pnR R))))) (fun k93 =>
  ld H53 (Addr.mk r1 0 none) (fun v94 =>
  ld H53 (Addr.mk r1 1 none) (fun v95 =>
  ld H53 (Addr.mk r1 2 none) (fun v96 =>
  ld H53 (Addr.mk r1 3 none) (fun v97 =>
  ld H53 (Addr.mk r1 4 none) (fun v98 =>
  ld H53 (Addr.mk r1 5 none) (fun v99 =>
  ld H53 (Addr.mk r1 6 none) (fun v100 =>
  ld H53 (Addr.mk r1 7 none) (fun v101 =>
  ld H53 (Addr.mk r1 8 none) (fun v102 =>
  HCalls Tryz.prog 70 #[Value.agg #[v94, v95, v96, v97, v98, v99, v100, v101, v102]] H53 (Sp.retK (fun v103 H104 =>
  dBl v103 (fun b105 =>
  sB (!b105) (k93 (Value.bool true) H104) (HCalls Tryz.prog 71 #[Value.slice p54 r55 r56] H104 (Sp.retK (fun v106 H107 =>
  dBl v106 (fun b108 =>
  k93 (Value.bool !b108) H107)) (pnR R))))) (pnR R))))))))))))))))))))))))))))))))
theorem F25_eq (x0_0 : Value) (x0_1 : Value) (x0_2 : Value) (x0_3 : Value) (x0_4 : Value) (x0_5 : Value) (x0_6 : Value) (x0_7 : Value) (x0_8 : Value) (R : Ending → Heap → Prop) (H : Heap) : F25 x0_0 x0_1 x0_2 x0_3 x0_4 x0_5 x0_6 x0_7 x0_8 R H = vc Tryz.prog (codeOf Tryz.f25) (.node none .leaf (.node none .leaf (.node none (.node none .leaf (.node none (.node (some ⟨[(4, 148), (21, 3)], [6, 22, 23, 24, 25, 26, 27, 28, 29]⟩) .leaf .leaf) .leaf)) (.node none .leaf (.node none (.node (some ⟨[(46, 4)], [39, 40, 41, 42, 43, 44, 45]⟩) .leaf .leaf) .leaf))))) (postV Tryz.prog Tryz.f25 R) ⟨#[Value.agg #[x0_0, x0_1, x0_2, x0_3, x0_4, x0_5, x0_6, x0_7, x0_8]] ++ Array.replicate (Tryz.f25.ntmps - 1) undef, []⟩ H := by kernel_rfl
theorem F25_calls {R : Ending → Heap → Prop} {H : Heap} (x0_0 : Value) (x0_1 : Value) (x0_2 : Value) (x0_3 : Value) (x0_4 : Value) (x0_5 : Value) (x0_6 : Value) (x0_7 : Value) (x0_8 : Value) (h : F25 x0_0 x0_1 x0_2 x0_3 x0_4 x0_5 x0_6 x0_7 x0_8 R H) : HCalls Tryz.prog 25 #[Value.agg #[x0_0, x0_1, x0_2, x0_3, x0_4, x0_5, x0_6, x0_7, x0_8]] H R :=
  calls_by (F := F25 x0_0 x0_1 x0_2 x0_3 x0_4 x0_5 x0_6 x0_7 x0_8 R H) (.node none .leaf (.node none .leaf (.node none (.node none .leaf (.node none (.node (some ⟨[(4, 148), (21, 3)], [6, 22, 23, 24, 25, 26, 27, 28, 29]⟩) .leaf .leaf) .leaf)) (.node none .leaf (.node none (.node (some ⟨[(46, 4)], [39, 40, 41, 42, 43, 44, 45]⟩) .leaf .leaf) .leaf))))) Tryz.func25 rfl (F25_eq x0_0 x0_1 x0_2 x0_3 x0_4 x0_5 x0_6 x0_7 x0_8 R H) h
/-- (*bollard/volume.Volume).Change -/
def F26 (x0 : Option Addr) (x1 : Int) (x2 : Int) (x3a : Option Addr) (x3n : Nat) (x3c : Nat) (x4a : Option Addr) (x4n : Nat) (x4c : Nat) (R : Ending → Heap → Prop) (H : Heap) : Prop :=
  HCalls Tryz.prog 61 #[Value.pointer x0] H (Sp.retK (fun v1 H2 =>
  dBl v1 (fun b3 =>
  sB (!b3) (R (Ending.returned (Value.tuple #[Value.int IntKind.i64 0, Value.int IntKind.i64 2])) H2) (nz x0 (fun a4 =>
  HCalls Tryz.prog 75 #[Value.pointer x0, Value.int IntKind.i64 x1] H2 (Sp.retK (fun v5 H6 =>
  dBl v5 (fun b7 =>
  sB (!b7) (HCallsD Tryz.prog 62 #[Value.pointer (some a4)] FrameMode.returning H6 (fun e8 u9 H10 =>
  match e8 with
| Ending.returned v => leavesV Tryz.prog Tryz.f26 (Act.tmps (Act.mk #[Value.pointer x0, Value.int IntKind.i64 x1, Value.int IntKind.i64 x2, Value.slice x3a x3n x3c, Value.slice x4a x4n x4c, undef, undef, undef, undef, undef, Value.int IntKind.i64 0, Value.int IntKind.i64 90, undef, undef, undef, undef, undef, undef, undef, undef, Value.pointer x0, Value.bool b3, Value.bool !b3, Value.pointer x0, Value.pointer (some a4), Value.pointer (some a4), Value.pointer x0, Value.int IntKind.i64 x1, Value.bool b7, Value.bool !b7, undef, undef, undef, undef, undef, undef, undef, undef, undef, undef, undef, undef, undef, undef, undef, undef, undef, undef, undef, undef, undef, undef, undef, undef, undef, undef, undef, undef, undef, undef, undef, undef, undef, undef, undef, undef, undef, undef, undef, undef, undef, undef, undef, undef, undef, undef, undef, undef, undef, undef, undef, undef, undef, undef, undef, undef, undef, undef, undef, undef, undef, undef, undef, undef, undef, undef, undef, undef, undef, undef, undef, undef, undef, undef, undef, undef, undef, undef, undef, undef, undef, undef, undef] [Deferred.mk (Target.fn (Fn.func 62) #[]) #[Value.pointer (some a4)]])) R [] (settle u9) H10
| Ending.panicked c => leavesV Tryz.prog Tryz.f26 (Act.tmps (Act.mk #[Value.pointer x0, Value.int IntKind.i64 x1, Value.int IntKind.i64 x2, Value.slice x3a x3n x3c, Value.slice x4a x4n x4c, undef, undef, undef, undef, undef, Value.int IntKind.i64 0, Value.int IntKind.i64 90, undef, undef, undef, undef, undef, undef, undef, undef, Value.pointer x0, Value.bool b3, Value.bool !b3, Value.pointer x0, Value.pointer (some a4), Value.pointer (some a4), Value.pointer x0, Value.int IntKind.i64 x1, Value.bool b7, Value.bool !b7, undef, undef, undef, undef, undef, undef, undef, undef, undef, undef, undef, undef, undef, undef, undef, undef, undef, undef, undef, undef, undef, undef, undef, undef, undef, undef, undef, undef, undef, undef, undef, undef, undef, undef, undef, undef, undef, undef, undef, undef, undef, undef, undef, undef, undef, undef, undef, undef, undef, undef, undef, undef, undef, undef, undef, undef, undef, undef, undef, undef, undef, undef, undef, undef, undef, undef, undef, undef, undef, undef, undef, undef, undef, undef, undef, undef, undef, undef, undef, undef, undef, undef, undef] [Deferred.mk (Target.fn (Fn.func 62) #[]) #[Value.pointer (some a4)]])) R [] (raised u9 c) H10
| Ending.outgrown => False)) (nz x0 (fun a11 =>
  ld H6 (Addr.add (Addr.add a11 6) 3) (fun v12 =>
  dMap v12 (fun p13 =>
  semW Tryz.prog (Instr.lookup 72 (Value.map p13) (Value.int IntKind.i64 x1) true) (fun c14 H15 =>
  HCallsD Tryz.prog 62 #[Value.pointer (some a4)] (FrameMode.panicking c14) H15 (fun e16 u17 H18 =>
  match e16 with
| Ending.returned v => leavesV Tryz.prog Tryz.f26 (Act.tmps (Act.mk #[Value.pointer x0, Value.int IntKind.i64 x1, Value.int IntKind.i64 x2, Value.slice x3a x3n x3c, Value.slice x4a x4n x4c, undef, undef, undef, undef, undef, Value.int IntKind.i64 0, Value.int IntKind.i64 0, undef, undef, undef, undef, undef, undef, undef, undef, Value.pointer x0, Value.bool b3, Value.bool !b3, Value.pointer x0, Value.pointer (some a4), Value.pointer (some a4), Value.pointer x0, Value.int IntKind.i64 x1, Value.bool b7, Value.bool !b7, undef, Value.pointer x0, Value.pointer (some a11), Value.pointer (some (Addr.add a11 6)), Value.pointer (some (Addr.add (Addr.add a11 6) 3)), Value.map p13, Value.int IntKind.i64 x1, undef, undef, undef, undef, undef, undef, undef, undef, undef, undef, undef, undef, undef, undef, undef, undef, undef, undef, undef, undef, undef, undef, undef, undef, undef, undef, undef, undef, undef, undef, undef, undef, undef, undef, undef, undef, undef, undef, undef, undef, undef, undef, undef, undef, undef, undef, undef, undef, undef, undef, undef, undef, undef, undef, undef, undef, undef, undef, undef, undef, undef, undef, undef, undef, undef, undef, undef, undef, undef, undef, undef, undef, undef, undef, undef, undef] [Deferred.mk (Target.fn (Fn.func 62) #[]) #[Value.pointer (some a4)]])) R [] (settle u17) H18
| Ending.panicked c => leavesV Tryz.prog Tryz.f26 (Act.tmps (Act.mk #[Value.pointer x0, Value.int IntKind.i64 x1, Value.int IntKind.i64 x2, Value.slice x3a x3n x3c, Value.slice x4a x4n x4c, undef, undef, undef, undef, undef, Value.int IntKind.i64 0, Value.int IntKind.i64 0, undef, undef, undef, undef, undef, undef, undef, undef, Value.pointer x0, Value.bool b3, Value.bool !b3, Value.pointer x0, Value.pointer (some a4), Value.pointer (some a4), Value.pointer x0, Value.int IntKind.i64 x1, Value.bool b7, Value.bool !b7, undef, Value.pointer x0, Value.pointer (some a11), Value.pointer (some (Addr.add a11 6)), Value.pointer (some (Addr.add (Addr.add a11 6) 3)), Value.map p13, Value.int IntKind.i64 x1, undef, undef, undef, undef, undef, undef, undef, undef, undef, undef, undef, undef, undef, undef, undef, undef, undef, undef, undef, undef, undef, undef, undef, undef, undef, undef, undef, undef, undef, undef, undef, undef, undef, undef, undef, undef, undef, undef, undef, undef, undef, undef, undef, undef, undef, undef, undef, undef, undef, undef, undef, undef, undef, undef, undef, undef, undef, undef, undef, undef, undef, undef, undef, undef, undef, undef, undef, undef, undef, undef, undef, undef, undef, undef, undef, undef] [Deferred.mk (Target.fn (Fn.func 62) #[]) #[Value.pointer (some a4)]])) R [] (raised u17 c) H18
| Ending.outgrown => False)) H6 (fun v19 H20 =>
  dT 2 v19 (fun v21 v22 =>
  dSl v21 (fun p23 r24 r25 =>
  dBl v22 (fun b26 =>
  jn (α := VFH 1) (fun v27 H28 =>
  ∀ v29 v30 v31 v32 v33 v34 v35 v36 v37 v38 v39 v40 v41 v42 v43 v44 v45 : Value,
  dBl v27 (fun b46 =>
  jn (α := VFH 1) (fun v47 H48 =>
  ∀ v49 v50 v51 v52 v53 v54 v55 v56 v57 v58 v59 v60 v61 v62 v63 : Value,
  dSl v47 (fun p64 r65 r66 =>
  nz x0 (fun a67 =>
  ld H48 (Addr.add a67 4) (fun v68 =>
  dPtr v68 (fun p69 =>
  HCalls Tryz.prog 76 #[Value.pointer p69, Value.int IntKind.i64 x1, Value.int IntKind.i64 x2, Value.slice x3a x3n x3c, Value.slice x4a x4n x4c] H48 (Sp.retK (fun v70 H71 =>
  dT 2 v70 (fun v72 v73 =>
  dInt IntKind.i64 v72 (fun n74 =>
  dInt IntKind.i64 v73 (fun n75 =>
  sB (n75 != 0) (HCallsD Tryz.prog 62 #[Value.pointer (some a4)] FrameMode.returning H71 (fun e76 u77 H78 =>
  match e76 with
| Ending.returned v => leavesV Tryz.prog Tryz.f26 (Act.tmps (Act.mk #[Value.pointer x0, Value.int IntKind.i64 x1, Value.int IntKind.i64 x2, Value.slice x3a x3n x3c, Value.slice x4a x4n x4c, undef, undef, undef, undef, undef, Value.int IntKind.i64 0, Value.int IntKind.i64 n75, Value.slice p23 r24 r25, Value.bool b26, Value.bool b46, Value.slice p64 r65 r66, v51, v52, Value.int IntKind.i64 n74, Value.int IntKind.i64 n75, Value.pointer x0, Value.bool b3, Value.bool !b3, Value.pointer x0, Value.pointer (some a4), Value.pointer (some a4), Value.pointer x0, Value.int IntKind.i64 x1, Value.bool b7, Value.bool !b7, Value.tuple #[Value.slice p23 r24 r25, Value.bool b26], Value.pointer x0, Value.pointer (some a11), Value.pointer (some (Addr.add a11 6)), Value.pointer (some (Addr.add (Addr.add a11 6) 3)), Value.map p13, Value.int IntKind.i64 x1, Value.tuple #[Value.slice p23 r24 r25, Value.bool b26], Value.slice p23 r24 r25, Value.bool b26, v29, v30, v31, v32, v33, v34, v35, v36, v37, v38, v39, v40, v41, v42, v43, v44, v45, v53, v54, v55, v56, v57, v58, v59, v60, v61, v62, v63, Value.tuple #[Value.int IntKind.i64 n74, Value.int IntKind.i64 n75], Value.pointer x0, Value.pointer (some a67), Value.pointer (some (Addr.add a67 4)), Value.pointer p69, Value.int IntKind.i64 x1, Value.int IntKind.i64 x2, Value.slice x3a x3n x3c, Value.slice x4a x4n x4c, Value.tuple #[Value.int IntKind.i64 n74, Value.int IntKind.i64 n75], Value.int IntKind.i64 n74, Value.int IntKind.i64 n75, Value.int IntKind.i64 n75, Value.bool (n75 != 0), Value.int IntKind.i64 n75, undef, undef, undef, undef, undef, undef, undef, undef, undef, undef, undef, undef, undef, undef, undef, undef, undef, undef, undef, undef, undef, undef, undef, undef, undef, undef, undef, undef, undef, undef] [Deferred.mk (Target.fn (Fn.func 62) #[]) #[Value.pointer (some a4)]])) R [] (settle u77) H78
| Ending.panicked c => leavesV Tryz.prog Tryz.f26 (Act.tmps (Act.mk #[Value.pointer x0, Value.int IntKind.i64 x1, Value.int IntKind.i64 x2, Value.slice x3a x3n x3c, Value.slice x4a x4n x4c, undef, undef, undef, undef, undef, Value.int IntKind.i64 0, Value.int IntKind.i64 n75, Value.slice p23 r24 r25, Value.bool b26, Value.bool b46, Value.slice p64 r65 r66, v51, v52, Value.int IntKind.i64 n74, Value.int IntKind.i64 n75, Value.pointer x0, Value.bool b3, Value.bool !b3, Value.pointer x0, Value.pointer (some a4), Value.pointer (some a4), Value.pointer x0, Value.int IntKind.i64 x1, Value.bool b7, Value.bool !b7, Value.tuple #[Value.slice p23 r24 r25, Value.bool b26], Value.pointer x0, Value.pointer (some a11), Value.pointer (some (Addr.add a11 6)), Value.pointer (some (Addr.add (Addr.add a11 6) 3)), Value.map p13, Value.int IntKind.i64 x1, Value.tuple #[Value.slice p23 r24 r25, Value.bool b26], Value.slice p23 r24 r25, Value.bool b26, v29, v30, v31, v32, v33, v34, v35, v36, v37, v38, v39, v40, v41, v42, v43, v44, v45, v53, v54, v55, v56, v57, v58, v59, v60, v61, v62, v63, Value.tuple #[Value.int IntKind.i64 n74, Value.int IntKind.i64 n75], Value.pointer x0, Value.pointer (some a67), Value.pointer (some (Addr.add a67 4)), Value.pointer p69, Value.int IntKind.i64 x1, Value.int IntKind.i64 x2, Value.slice x3a x3n x3c, Value.slice x4a x4n x4c, Value.tuple #[Value.int IntKind.i64 n74, Value.int IntKind.i64 n75], Value.int IntKind.i64 n74, Value.int IntKind.i64 n75, Value.int IntKind.i64 n75, Value.bool (n75 != 0), Value.int IntKind.i64 n75, undef, undef, undef, undef, undef, undef, undef, undef, undef, undef, undef, undef, undef, undef, undef, undef, undef, undef, undef, undef, undef, undef, undef, undef, undef, undef, undef, undef, undef, undef] [Deferred.mk (Target.fn (Fn.func 62) #[]) #[Value.pointer (some a4)]])) R [] (raised u77 c) H78
| Ending.outgrown => False)) (jn (α := VFH 0) (fun H79 =>
  ∀ v80 v81 v82 v83 v84 v85 v86 v87 v88 v89 v90 v91 v92 v93 v94 v95 v96 v97 v98 v99 v100 v101 v102 v103 v104 v105 v106 v107 v108 : Value,
  HCallsD Tryz.prog 62 #[Value.pointer (some a4)] FrameMode.returning H79 (fun e109 u110 H111 =>
  match e109 with
| Ending.returned v => leavesV Tryz.prog Tryz.f26 (Act.tmps (Act.mk #[Value.pointer x0, Value.int IntKind.i64 x1, Value.int IntKind.i64 x2, Value.slice x3a x3n x3c, Value.slice x4a x4n x4c, undef, undef, undef, undef, undef, Value.int IntKind.i64 n74, Value.int IntKind.i64 0, Value.slice p23 r24 r25, Value.bool b26, Value.bool b46, Value.slice p64 r65 r66, v51, v52, Value.int IntKind.i64 n74, Value.int IntKind.i64 n75, Value.pointer x0, Value.bool b3, Value.bool !b3, Value.pointer x0, Value.pointer (some a4), Value.pointer (some a4), Value.pointer x0, Value.int IntKind.i64 x1, Value.bool b7, Value.bool !b7, Value.tuple #[Value.slice p23 r24 r25, Value.bool b26], Value.pointer x0, Value.pointer (some a11), Value.pointer (some (Addr.add a11 6)), Value.pointer (some (Addr.add (Addr.add a11 6) 3)), Value.map p13, Value.int IntKind.i64 x1, Value.tuple #[Value.slice p23 r24 r25, Value.bool b26], Value.slice p23 r24 r25, Value.bool b26, v29, v30, v31, v32, v33, v34, v35, v36, v37, v38, v39, v40, v41, v42, v43, v44, v45, v53, v54, v55, v56, v57, v58, v59, v60, v61, v62, v63, Value.tuple #[Value.int IntKind.i64 n74, Value.int IntKind.i64 n75], Value.pointer x0, Value.pointer (some a67), Value.pointer (some (Addr.add a67 4)), Value.pointer p69, Value.int IntKind.i64 x1, Value.int IntKind.i64 x2, Value.slice x3a x3n x3c, Value.slice x4a x4n x4c, Value.tuple #[Value.int IntKind.i64 n74, Value.int IntKind.i64 n75], Value.int IntKind.i64 n74, Value.int IntKind.i64 n75, Value.int IntKind.i64 n75, Value.bool (n75 != 0), undef, v80, v81, v82, v83, v84, v85, v86, v87, v88, v89, v90, v91, v92, v93, v94, v95, v96, v97, v98, v99, v100, v101, v102, v103, v104, v105, v106, v107, v108, Value.int IntKind.i64 n74] [Deferred.mk (Target.fn (Fn.func 62) #[]) #[Value.pointer (some a4)]])) R [] (settle u110) H111
| Ending.panicked c => leavesV Tryz.prog Tryz.f26 (Act.tmps (Act.mk #[Value.pointer x0, Value.int IntKind.i64 x1, Value.int IntKind.i64 x2, Value.slice x3a x3n x3c, Value.slice x4a x4n x4c, undef, undef, undef, undef, undef, Value.int IntKind.i64 n74, Value.int IntKind.i64 0, Value.slice p23 r24 r25, Value.bool b26, Value.bool b46, Value.slice p64 r65 r66, v51, v52, Value.int IntKind.i64 n74, Value.int IntKind.i64 n75, Value.pointer x0, Value.bool b3, Value.bool !b3, Value.pointer x0, Value.pointer (some a4), Value.pointer (some a4), Value.pointer x0, Value.int IntKind.i64 x1, Value.bool b7, Value.bool !b7, Value.tuple #[Value.slice p23 r24 r25, Value.bool b26], Value.pointer x0, Value.pointer (some a11), Value.pointer (some (Addr.add a11 6)), Value.pointer (some (Addr.add (Addr.add a11 6) 3)), Value.map p13, Value.int IntKind.i64 x1, Value.tuple #[Value.slice p23 r24 r25, Value.bool b26], Value.slice p23 r24 r25, Value.bool b26, v29, v30, v31, v32, v33, v34, v35, v36, v37, v38, v39, v40, v41, v42, v43, v44, v45, v53, v54, v55, v56, v57, v58, v59, v60, v61, v62, v63, Value.tuple #[Value.int IntKind.i64 n74, Value.int IntKind.i64 n75], Value.pointer x0, Value.pointer (some a67), Value.pointer (some (Addr.add a67 4)), Value.pointer p69, Value.int IntKind.i64 x1, Value.int IntKind.i64 x2, Value.slice x3a x3n x3c, Value.slice x4a x4n x4c, Value.tuple #[Value.int IntKind.i64 n74, Value.int IntKind.i64 n75], Value.int IntKind.i64 n74, Value.int IntKind.i64 n75, Value.int IntKind.i64 n75, Value.bool (n75 != 0), undef, v80, v81, v82, v83, v84, v85, v86, v87, v88, v89, v90, v91, v92, v93, v94, v95, v96, v97, v98, v99, v100, v101, v102, v103, v104, v105, v106, v107, v108, Value.int IntKind.i64 n74] [Deferred.mk (Target.fn (Fn.func 62) #[]) #[Value.pointer (some a4)]])) R [] (raised u110 c) H111
| Ending.outgrown => False)) (fun k112 =>
  jn (α := VFH 1) (fun v113 H114 =>
  ∀ v115 v116 v117 v118 v119 v120 v121 v122 v123 v124 v125 v126 v127 v128 v129 : Value,
  dBl v113 (fun b130 =>
  sB b130 (nz x0 (fun a131 =>
  ld H114 (Addr.add (Addr.add a131 6) 3) (fun v132 =>
  dMap v132 (fun p133 =>
  semW Tryz.prog (Instr.mapUpdate 72 (Value.map p133) (Value.int IntKind.i64 x1) (Value.slice p64 r65 r66)) (fun c134 H135 =>
  HCallsD Tryz.prog 62 #[Value.pointer (some a4)] (FrameMode.panicking c134) H135 (fun e136 u137 H138 =>
  match e136 with
| Ending.returned v => leavesV Tryz.prog Tryz.f26 (Act.tmps (Act.mk #[Value.pointer x0, Value.int IntKind.i64 x1, Value.int IntKind.i64 x2, Value.slice x3a x3n x3c, Value.slice x4a x4n x4c, undef, undef, undef, undef, undef, v49, v50, Value.slice p23 r24 r25, Value.bool b26, Value.bool b46, Value.slice p64 r65 r66, v51, v52, Value.int IntKind.i64 n74, Value.int IntKind.i64 n75, Value.pointer x0, Value.bool b3, Value.bool !b3, Value.pointer x0, Value.pointer (some a4), Value.pointer (some a4), Value.pointer x0, Value.int IntKind.i64 x1, Value.bool b7, Value.bool !b7, Value.tuple #[Value.slice p23 r24 r25, Value.bool b26], Value.pointer x0, Value.pointer (some a11), Value.pointer (some (Addr.add a11 6)), Value.pointer (some (Addr.add (Addr.add a11 6) 3)), Value.map p13, Value.int IntKind.i64 x1, Value.tuple #[Value.slice p23 r24 r25, Value.bool b26], Value.slice p23 r24 r25, Value.bool b26, v29, v30, v31, v32, v33, v34, v35, v36, v37, v38, v39, v40, v41, v42, v43, v44, v45, v53, v54, v55, v56, v57, v58, v59, v60, v61, v62, v63, Value.tuple #[Value.int IntKind.i64 n74, Value.int IntKind.i64 n75], Value.pointer x0, Value.pointer (some a67), Value.pointer (some (Addr.add a67 4)), Value.pointer p69, Value.int IntKind.i64 x1, Value.int IntKind.i64 x2, Value.slice x3a x3n x3c, Value.slice x4a x4n x4c, Value.tuple #[Value.int IntKind.i64 n74, Value.int IntKind.i64 n75], Value.int IntKind.i64 n74, Value.int IntKind.i64 n75, Value.int IntKind.i64 n75, Value.bool (n75 != 0), undef, Value.bool b130, v115, v116, v117, v118, v119, v120, v121, v122, v123, v124, v125, v126, v127, v128, v129, Value.pointer x0, Value.pointer (some a131), Value.pointer (some (Addr.add a131 6)), Value.pointer (some (Addr.add (Addr.add a131 6) 3)), Value.map p133, Value.int IntKind.i64 x1, Value.slice p64 r65 r66, undef, undef, undef, undef, undef, undef, undef] [Deferred.mk (Target.fn (Fn.func 62) #[]) #[Value.pointer (some a4)]])) R [] (settle u137) H138
| Ending.panicked c => leavesV Tryz.prog Tryz.f26 (Act.tmps (Act.mk #[Value.pointer x0, Value.int IntKind.i64 x1, Value.int IntKind.i64 x2, Value.slice x3a x3n x3c, Value.slice x4a x4n x4c, undef, undef, undef, undef, undef, v49, v50, Value.slice p23 r24 r25, Value.bool b26, Value.bool b46, Value.slice p64 r65 r66, v51, v52, Value.int IntKind.i64 n74, Value.int IntKind.i64 n75, Value.pointer x0, Value.bool b3, Value.bool !b3, Value.pointer x0, Value.pointer (some a4), Value.pointer (some a4), Value.pointer x0, Value.int IntKind.i64 x1, Value.bool b7, Value.bool !b7, Value.tuple #[Value.slice p23 r24 r25, Value.bool b26], Value.pointer x0, Value.pointer (some a11), Value.pointer (some (Addr.add a11 6)), Value.pointer (some (Addr.add (Addr.add a11 6) 3)), Value.map p13, Value.int IntKind.i64 x1, Value.tuple #[Value.slice p23 r24 r25, Value.bool b26], Value.slice p23 r24 r25, Value.bool b26, v29, v30, v31, v32, v33, v34, v35, v36, v37, v38, v39, v40, v41, v42, v43, v44, v45, v53, v54, v55, v56, v57, v58, v59, v60, v61, v62, v63, Value.tuple #[Value.int IntKind.i64 n74, Value.int IntKind.i64 n75], Value.pointer x0, Value.pointer (some a67), Value.pointer (some (Addr.add a67 4)), Value.pointer p69, Value.int IntKind.i64 x1, Value.int IntKind.i64 x2, Value.slice x3a x3n x3c, Value.slice x4a x4n x4c, Value.tuple #[Value.int IntKind.i64 n74, Value.int IntKind.i64 n75], Value.int IntKind.i64 n74, Value.int IntKind.i64 n75, Value.int IntKind.i64 n75, Value.bool (n75 != 0), undef, Value.bool b130, v115, v116, v117, v118, v119, v120, v121, v122, v123, v124, v125, v126, v127, v128, v129, Value.pointer x0, Value.pointer (some a131), Value.pointer (some (Addr.add a131 6)), Value.pointer (some (Addr.add (Addr.add a131 6) 3)), Value.map p133, Value.int IntKind.i64 x1, Value.slice p64 r65 r66, undef, undef, undef, undef, undef, undef, undef] [Deferred.mk (Target.fn (Fn.func 62) #[]) #[Value.pointer (some a4)]])) R [] (raised u137 c) H138
| Ending.outgrown => False)) H114 (fun x139 H140 =>
  k112 H140))))) (sB b46 (nz x0 (fun a141 =>
  st H114 (Addr.add (Addr.add a141 6) 1) (Value.bool true) (fun H142 =>
  k112 H142))) (k112 H114)))) (fun k143 =>
  sB b46 (nz x0 (fun a144 =>
  ld H71 (Addr.add (Addr.add a144 6) 3) (fun v145 =>
  dMap v145 (fun p146 =>
  nz x0 (fun a147 =>
  ld H71 (Addr.add (Addr.add a147 6) 2) (fun v148 =>
  dInt IntKind.i64 v148 (fun n149 =>
  semW Tryz.prog (Builtin.len_ #[72] 3 #[Value.map p146]) nopR H71 (fun v152 H153 =>
  dInt IntKind.i64 v152 (fun n154 =>
  (ld H153 (Addr.add (Addr.add a147 6) 2) (fun v155 =>
  dInt IntKind.i64 v155 (fun n156 =>
  (Value.int IntKind.i64 n156) = (Value.int IntKind.i64 n149)))) ∧
  k143 (Value.bool (decide (n154 < n149))) H153))))))))) (k143 (Value.bool false) H71)))))))) (fun c157 H158 =>
  HCallsD Tryz.prog 62 #[Value.pointer (some a4)] (FrameMode.panicking c157) H158 (fun e159 u160 H161 =>
  match e159 with
| Ending.returned v => leavesV Tryz.prog Tryz.f26 (Act.tmps (Act.mk #[Value.pointer x0, Value.int IntKind.i64 x1, Value.int IntKind.i64 x2, Value.slice x3a x3n x3c, Value.slice x4a x4n x4c, undef, undef, undef, undef, undef, v49, v50, Value.slice p23 r24 r25, Value.bool b26, Value.bool b46, Value.slice p64 r65 r66, v51, v52, undef, undef, Value.pointer x0, Value.bool b3, Value.bool !b3, Value.pointer x0, Value.pointer (some a4), Value.pointer (some a4), Value.pointer x0, Value.int IntKind.i64 x1, Value.bool b7, Value.bool !b7, Value.tuple #[Value.slice p23 r24 r25, Value.bool b26], Value.pointer x0, Value.pointer (some a11), Value.pointer (some (Addr.add a11 6)), Value.pointer (some (Addr.add (Addr.add a11 6) 3)), Value.map p13, Value.int IntKind.i64 x1, Value.tuple #[Value.slice p23 r24 r25, Value.bool b26], Value.slice p23 r24 r25, Value.bool b26, v29, v30, v31, v32, v33, v34, v35, v36, v37, v38, v39, v40, v41, v42, v43, v44, v45, v53, v54, v55, v56, v57, v58, v59, v60, v61, v62, v63, undef, Value.pointer x0, Value.pointer (some a67), Value.pointer (some (Addr.add a67 4)), Value.pointer p69, Value.int IntKind.i64 x1, Value.int IntKind.i64 x2, Value.slice x3a x3n x3c, Value.slice x4a x4n x4c, undef, undef, undef, undef, undef, undef, undef, undef, undef, undef, undef, undef, undef, undef, undef, undef, undef, undef, undef, undef, undef, undef, undef, undef, undef, undef, undef, undef, undef, undef, undef, undef, undef, undef, undef, undef] [Deferred.mk (Target.fn (Fn.func 62) #[]) #[Value.pointer (some a4)]])) R [] (settle u160) H161
| Ending.panicked c => leavesV Tryz.prog Tryz.f26 (Act.tmps (Act.mk #[Value.pointer x0, Value.int IntKind.i64 x1, Value.int IntKind.i64 x2, Value.slice x3a x3n x3c, Value.slice x4a x4n x4c, undef, undef, undef, undef, undef, v49, v50, Value.slice p23 r24 r25, Value.bool b26, Value.bool b46, Value.slice p64 r65 r66, v51, v52, undef, undef, Value.pointer x0, Value.bool b3, Value.bool !b3, Value.pointer x0, Value.pointer (some a4), Value.pointer (some a4), Value.pointer x0, Value.int IntKind.i64 x1, Value.bool b7, Value.bool !b7, Value.tuple #[Value.slice p23 r24 r25, Value.bool b26], Value.pointer x0, Value.pointer (some a11), Value.pointer (some (Addr.add a11 6)), Value.pointer (some (Addr.add (Addr.add a11 6) 3)), Value.map p13, Value.int IntKind.i64 x1, Value.tuple #[Value.slice p23 r24 r25, Value.bool b26], Value.slice p23 r24 r25, Value.bool b26, v29, v30, v31, v32, v33, v34, v35, v36, v37, v38, v39, v40, v41, v42, v43, v44, v45, v53, v54, v55, v56, v57, v58, v59, v60, v61, v62, v63, undef, Value.pointer x0, Value.pointer (some a67), Value.pointer (some (Addr.add a67 4)), Value.pointer p69, Value.int IntKind.i64 x1, Value.int IntKind.i64 x2, Value.slice x3a x3n x3c, Value.slice x4a x4n x4c, undef, undef, undef, undef, undef, undef, undef, undef, undef, undef, undef, undef, undef, undef, undef, undef, undef, undef, undef, undef, undef, undef, undef, undef, undef, undef, undef, undef, undef, undef, undef, undef, undef, undef, undef, undef] [Deferred.mk (Target.fn (Fn.func 62) #[]) #[Value.pointer (some a4)]])) R [] (raised u160 c) H161
| Ending.outgrown => False)))))))) (fun k162 =>
  sB b46 (HCalls Tryz.prog 63 #[Value.pointer x0, Value.int IntKind.i64 x1] H28 (Sp.retK (fun v163 H164 =>
  dT 2 v163 (fun v165 v166 =>
  dSl v165 (fun p167 r168 r169 =>
  dInt IntKind.i64 v166 (fun n170 =>
  sB (n170 != 0) (HCallsD Tryz.prog 62 #[Value.pointer (some a4)] FrameMode.returning H164 (fun e171 u172 H173 =>
  match e171 with
| Ending.returned v => leavesV Tryz.prog Tryz.f26 (Act.tmps (Act.mk #[Value.pointer x0, Value.int IntKind.i64 x1, Value.int IntKind.i64 x2, Value.slice x3a x3n x3c, Value.slice x4a x4n x4c, undef, undef, undef, undef, undef, Value.int IntKind.i64 0, Value.int IntKind.i64 n170, Value.slice p23 r24 r25, Value.bool b26, Value.bool b46, Value.slice none 0 0, Value.slice p167 r168 r169, Value.int IntKind.i64 n170, undef, undef, Value.pointer x0, Value.bool b3, Value.bool !b3, Value.pointer x0, Value.pointer (some a4), Value.pointer (some a4), Value.pointer x0, Value.int IntKind.i64 x1, Value.bool b7, Value.bool !b7, Value.tuple #[Value.slice p23 r24 r25, Value.bool b26], Value.pointer x0, Value.pointer (some a11), Value.pointer (some (Addr.add a11 6)), Value.pointer (some (Addr.add (Addr.add a11 6) 3)), Value.map p13, Value.int IntKind.i64 x1, Value.tuple #[Value.slice p23 r24 r25, Value.bool b26], Value.slice p23 r24 r25, Value.bool b26, v29, v30, v31, v32, v33, v34, v35, v36, v37, v38, v39, v40, v41, v42, v43, v44, v45, Value.bool b46, Value.tuple #[Value.slice p167 r168 r169, Value.int IntKind.i64 n170], Value.pointer x0, Value.int IntKind.i64 x1, Value.tuple #[Value.slice p167 r168 r169, Value.int IntKind.i64 n170], Value.slice p167 r168 r169, Value.int IntKind.i64 n170, Value.int IntKind.i64 n170, Value.bool (n170 != 0), Value.int IntKind.i64 n170, undef, undef, undef, undef, undef, undef, undef, undef, undef, undef, undef, undef, undef, undef, undef, undef, undef, undef, undef, undef, undef, undef, undef, undef, undef, undef, undef, undef, undef, undef, undef, undef, undef, undef, undef, undef, undef, undef, undef, undef, undef, undef, undef, undef, undef, undef] [Deferred.mk (Target.fn (Fn.func 62) #[]) #[Value.pointer (some a4)]])) R [] (settle u172) H173
| Ending.panicked c => leavesV Tryz.prog Tryz.f26 (Act.tmps (Act.mk #[Value.pointer x0, Value.int IntKind.i64 x1, Value.int IntKind.i64 x2, Value.slice x3a x3n x3c, Value.slice x4a x4n x4c, undef, undef, undef, undef, undef, Value.int IntKind.i64 0, Value.int IntKind.i64 n170, Value.slice p23 r24 r25, Value.bool b26, Value.bool b46, Value.slice none 0 0, Value.slice p167 r168 r169, Value.int IntKind.i64 n170, undef, undef, Value.pointer x0, Value.bool b3, Value.bool !b3, Value.pointer x0, Value.pointer (some a4), Value.pointer (some a4), Value.pointer x0, Value.int IntKind.i64 x1, Value.bool b7, Value.bool !b7, Value.tuple #[Value.slice p23 r24 r25, Value.bool b26], Value.pointer x0, Value.pointer (some a11), Value.pointer (some (Addr.add a11 6)), Value.pointer (some (Addr.add (Addr.add a11 6) 3)), Value.map p13, Value.int IntKind.i64 x1, Value.tuple #[Value.slice p23 r24 r25, Value.bool b26], Value.slice p23 r24 r25, Value.bool b26, v29, v30, v31, v32, v33, v34, v35, v36, v37, v38, v39, v40, v41, v42, v43, v44, v45, Value.bool b46, Value.tuple #[Value.slice p167 r168 r169, Value.int IntKind.i64 n170], Value.pointer x0, Value.int IntKind.i64 x1, Value.tuple #[Value.slice p167 r168 r169, Value.int IntKind.i64 n170], Value.slice p167 r168 r169, Value.int IntKind.i64 n170, Value.int IntKind.i64 n170, Value.bool (n170 != 0), Value.int IntKind.i64 n170, undef, undef, undef, undef, undef, undef, undef, undef, undef, undef, undef, undef, undef, undef, undef, undef, undef, undef, undef, undef, undef, undef, undef, undef, undef, undef, undef, undef, undef, undef, undef, undef, undef, undef, undef, undef, undef, undef, undef, undef, undef, undef, undef, undef, undef, undef] [Deferred.mk (Target.fn (Fn.func 62) #[]) #[Value.pointer (some a4)]])) R [] (raised u172 c) H173
| Ending.outgrown => False)) (k162 (Value.slice p167 r168 r169) H164))))) (fun c174 H175 =>
  HCallsD Tryz.prog 62 #[Value.pointer (some a4)] (FrameMode.panicking c174) H175 (fun e176 u177 H178 =>
  match e176 with
| Ending.returned v => leavesV Tryz.prog Tryz.f26 (Act.tmps (Act.mk #[Value.pointer x0, Value.int IntKind.i64 x1, Value.int IntKind.i64 x2, Value.slice x3a x3n x3c, Value.slice x4a x4n x4c, undef, undef, undef, undef, undef, Value.int IntKind.i64 0, Value.int IntKind.i64 0, Value.slice p23 r24 r25, Value.bool b26, Value.bool b46, Value.slice none 0 0, undef, undef, undef, undef, Value.pointer x0, Value.bool b3, Value.bool !b3, Value.pointer x0, Value.pointer (some a4), Value.pointer (some a4), Value.pointer x0, Value.int IntKind.i64 x1, Value.bool b7, Value.bool !b7, Value.tuple #[Value.slice p23 r24 r25, Value.bool b26], Value.pointer x0, Value.pointer (some a11), Value.pointer (some (Addr.add a11 6)), Value.pointer (some (Addr.add (Addr.add a11 6) 3)), Value.map p13, Value.int IntKind.i64 x1, Value.tuple #[Value.slice p23 r24 r25, Value.bool b26], Value.slice p23 r24 r25, Value.bool b26, v29, v30, v31, v32, v33, v34, v35, v36, v37, v38, v39, v40, v41, v42, v43, v44, v45, Value.bool b46, undef, Value.pointer x0, Value.int IntKind.i64 x1, undef, undef, undef, undef, undef, undef, undef, undef, undef, undef, undef, undef, undef, undef, undef, undef, undef, undef, undef, undef, undef, undef, undef, undef, undef, undef, undef, undef, undef, undef, undef, undef, undef, undef, undef, undef, undef, undef, undef, undef, undef, undef, undef, undef, undef, undef, undef, undef, undef, undef, undef, undef] [Deferred.mk (Target.fn (Fn.func 62) #[]) #[Value.pointer (some a4)]])) R [] (settle u177) H178
| Ending.panicked c => leavesV Tryz.prog Tryz.f26 (Act.tmps (Act.mk #[Value.pointer x0, Value.int IntKind.i64 x1, Value.int IntKind.i64 x2, Value.slice x3a x3n x3c, Value.slice x4a x4n x4c, undef, undef, undef, undef, undef, Value.int IntKind.i64 0, Value.int IntKind.i64 0, Value.slice p23 r24 r25, Value.bool b26, Value.bool b46, Value.slice none 0 0, undef, undef, undef, undef, Value.pointer x0, Value.bool b3, Value.bool !b3, Value.pointer x0, Value.pointer (some a4), Value.pointer (some a4), Value.pointer x0, Value.int IntKind.i64 x1, Value.bool b7, Value.bool !b7, Value.tuple #[Value.slice p23 r24 r25, Value.bool b26], Value.pointer x0, Value.pointer (some a11), Value.pointer (some (Addr.add a11 6)), Value.pointer (some (Addr.add (Addr.add a11 6) 3)), Value.map p13, Value.int IntKind.i64 x1, Value.tuple #[Value.slice p23 r24 r25, Value.bool b26], Value.slice p23 r24 r25, Value.bool b26, v29, v30, v31, v32, v33, v34, v35, v36, v37, v38, v39, v40, v41, v42, v43, v44, v45, Value.bool b46, undef, Value.pointer x0, Value.int IntKind.i64 x1, undef, undef, undef, undef, undef, undef, undef, undef, undef, undef, undef, undef, undef, undef, undef, undef, undef, undef, undef, undef, undef, undef, undef, undef, undef, undef, undef, undef, undef, undef, undef, undef, undef, undef, undef, undef, undef, undef, undef, undef, undef, undef, undef, undef, undef, undef, undef, undef, undef, undef, undef, undef] [Deferred.mk (Target.fn (Fn.func 62) #[]) #[Value.pointer (some a4)]])) R [] (raised u177 c) H178
| Ending.outgrown => False)))) (k162 (Value.slice none 0 0) H28)))) (fun k179 =>
  nz x0 (fun a180 =>
  ld H20 (Addr.add a180 6) (fun v181 =>
  dBl v181 (fun b182 =>
  sB b182 (nz x0 (fun a183 =>
  ld H20 (Addr.add (Addr.add a183 6) 1) (fun v184 =>
  dBl v184 (fun b185 =>
  sB (!b185) (k179 (Value.bool !b26) H20) (k179 (Value.bool false) H20))))) (k179 (Value.bool false) H20))))))))))))))) (fun c186 H187 =>
  HCallsD Tryz.prog 62 #[Value.pointer (some a4)] (FrameMode.panicking c186) H187 (fun e188 u189 H190 =>
  match e188 with
| Ending.returned v => leavesV Tryz.prog Tryz.f26 (Act.tmps (Act.mk #[Value.pointer x0, Value.int IntKind.i64 x1, Value.int IntKind.i64 x2, Value.slice x3a x3n x3c, Value.slice x4a x4n x4c, undef, undef, undef, undef, undef, Value.int IntKind.i64 0, Value.int IntKind.i64 0, undef, undef, undef, undef, undef, undef, undef, undef, Value.pointer x0, Value.bool b3, Value.bool !b3, Value.pointer x0, Value.pointer (some a4), Value.pointer (some a4), Value.pointer x0, Value.int IntKind.i64 x1, undef, undef, undef, undef, undef, undef, undef, undef, undef, undef, undef, undef, undef, undef, undef, undef, undef, undef, undef, undef, undef, undef, undef, undef, undef, undef, undef, undef, undef, undef, undef, undef, undef, undef, undef, undef, undef, undef, undef, undef, undef, undef, undef, undef, undef, undef, undef, undef, undef, undef, undef, undef, undef, undef, undef, undef, undef, undef, undef, undef, undef, undef, undef, undef, undef, undef, undef, undef, undef, undef, undef, undef, undef, undef, undef, undef, undef, undef, undef, undef, undef, undef, undef, undef, undef] [Deferred.mk (Target.fn (Fn.func 62) #[]) #[Value.pointer (some a4)]])) R [] (settle u189) H190
| Ending.panicked c => leavesV Tryz.prog Tryz.f26 (Act.tmps (Act.mk #[Value.pointer x0, Value.int IntKind.i64 x1, Value.int IntKind.i64 x2, Value.slice x3a x3n x3c, Value.slice x4a x4n x4c, undef, undef, undef, undef, undef, Value.int IntKind.i64 0, Value.int IntKind.i64 0, undef, undef, undef, undef, undef, undef, undef, undef, Value.pointer x0, Value.bool b3, Value.bool !b3, Value.pointer x0, Value.pointer (some a4), Value.pointer (some a4), Value.pointer x0, Value.int IntKind.i64 x1, undef, undef, undef, undef, undef, undef, undef, undef, undef, undef, undef, undef, undef, undef, undef, undef, undef, undef, undef, undef, undef, undef, undef, undef, undef, undef, undef, undef, undef, undef, undef, undef, undef, undef, undef, undef, undef, undef, undef, undef, undef, undef, undef, undef, undef, undef, undef, undef, undef, undef, undef, undef, undef, undef, undef, undef, undef, undef, undef, undef, undef, undef, undef, undef, undef, undef, undef, undef, undef, undef, undef, undef, undef, undef, undef, undef, undef, undef, undef, undef, undef, undef, undef, undef, undef] [Deferred.mk (Target.fn (Fn.func 62) #[]) #[Value.pointer (some a4)]])) R [] (raised u189 c) H190
| Ending.outgrown => False))))))) (pnR R))
theorem F26_eq (x0 : Option Addr) (x1 : Int) (x2 : Int) (x3a : Option Addr) (x3n : Nat) (x3c : Nat) (x4a : Option Addr) (x4n : Nat) (x4c : Nat) (R : Ending → Heap → Prop) (H : Heap) : F26 x0 x1 x2 x3a x3n x3c x4a x4n x4c R H = vc Tryz.prog (codeOf Tryz.f26) (.node none .leaf (.node none .leaf (.node none .leaf (.node none .leaf (.node none .leaf (.node (some ⟨[(14, 4)], [40, 41, 42, 43, 44, 45, 46, 47, 48, 49, 50, 51, 52, 53, 54, 55, 56]⟩) .leaf (.node none .leaf (.node (some ⟨[(15, 85)], [10, 11, 16, 17, 57, 58, 59, 60, 61, 62, 63, 64, 65, 66, 67]⟩) .leaf (.node none .leaf (.node none .leaf (.node (some ⟨[], [83, 84, 85, 86, 87, 88, 89, 90, 91, 92, 93, 94, 95, 96, 97, 98, 99, 100, 101, 102, 103, 104, 105, 106, 107, 108, 109, 110, 111]⟩) (.node none (.node (some ⟨[(83, 4)], [84, 85, 86, 87, 88, 89, 90, 91, 92, 93, 94, 95, 96, 97, 98]⟩) .leaf .leaf) .leaf) .leaf))))))))))) (postV Tryz.prog Tryz.f26 R) ⟨#[Value.pointer x0, Value.int IntKind.i64 x1, Value.int IntKind.i64 x2, Value.slice x3a x3n x3c, Value.slice x4a x4n x4c] ++ Array.replicate (Tryz.f26.ntmps - 5) undef, []⟩ H := by kernel_rfl
theorem F26_calls {R : Ending → Heap → Prop} {H : Heap} (x0 : Option Addr) (x1 : Int) (x2 : Int) (x3a : Option Addr) (x3n : Nat) (x3c : Nat) (x4a : Option Addr) (x4n : Nat) (x4c : Nat) (h : F26 x0 x1 x2 x3a x3n x3c x4a x4n x4c R H) : HCalls Tryz.prog 26 #[Value.pointer x0, Value.int IntKind.i64 x1, Value.int IntKind.i64 x2, Value.slice x3a x3n x3c, Value.slice x4a x4n x4c] H R :=
  calls_by (F := F26 x0 x1 x2 x3a x3n x3c x4a x4n x4c R H) (.node none .leaf (.node none .leaf (.node none .leaf (.node none .leaf (.node none .leaf (.node (some ⟨[(14, 4)], [40, 41, 42, 43, 44, 45, 46, 47, 48, 49, 50, 51, 52, 53, 54, 55, 56]⟩) .leaf (.node none .leaf (.node (some ⟨[(15, 85)], [10, 11, 16, 17, 57, 58, 59, 60, 61, 62, 63, 64, 65, 66, 67]⟩) .leaf (.node none .leaf (.node none .leaf (.node (some ⟨[], [83, 84, 85, 86, 87, 88, 89, 90, 91, 92, 93, 94, 95, 96, 97, 98, 99, 100, 101, 102, 103, 104, 105, 106, 107, 108, 109, 110, 111]⟩) (.node none (.node (some ⟨[(83, 4)], [84, 85, 86, 87, 88, 89, 90, 91, 92, 93, 94, 95, 96, 97, 98]⟩) .leaf .leaf) .leaf) .leaf))))))))))) Tryz.func26 rfl (F26_eq x0 x1 x2 x3a x3n x3c x4a x4n x4c R H) h
/-- bollard/bollardref11.Fine -/
def F27 (x0 : Option Addr) (x1_0 : Value) (x1_1 : Value) (x1_2 : Value) (R : Ending → Heap → Prop) (H : Heap) : Prop :=
  al H (Obj.cells #[x1_0, x1_1, x1_2] 23) (fun r1 H2 =>
  sB (Option.isNone x0) (R (Ending.returned (Value.int IntKind.i64 2)) H2) (jn (α := VFH 1) (fun v3 H4 =>
  ∀ v5 v6 v7 v8 v9 v10 v11 v12 v13 : Value,
  dBl v3 (fun b14 =>
  sB b14 (R (Ending.returned (Value.int IntKind.i64 170)) H4) (R (Ending.returned (Value.int IntKind.i64 0)) H4))) (fun k15 =>
  ld H2 (Addr.mk r1 0 none) (fun v16 =>
  ld H2 (Addr.mk r1 1 none) (fun v17 =>
  ld H2 (Addr.mk r1 2 none) (fun v18 =>
  HCalls Tryz.prog 52 #[Value.agg #[v16, v17, v18]] H2 (Sp.retK (fun v19 H20 =>
  dInt IntKind.i64 v19 (fun n21 =>
  sB (n21 != 0) (k15 (Value.bool true) H20) (ld H20 (Addr.mk r1 0 none) (fun v22 =>
  ld H20 (Addr.mk r1 1 none) (fun v23 =>
  ld H20 (Addr.mk r1 2 none) (fun v24 =>
  HCalls Tryz.prog 77 #[Value.pointer x0] H20 (Sp.retK (fun v25 H26 =>
  dInt IntKind.i64 v25 (fun n27 =>
  (ld H26 (Addr.mk r1 0 none) (fun v28 =>
  ld H26 (Addr.mk r1 1 none) (fun v29 =>
  ld H26 (Addr.mk r1 2 none) (fun v30 =>
  (Value.agg #[v28, v29, v30]) = (Value.agg #[v22, v23, v24]))))) ∧
  HCalls Tryz.prog 78 #[Value.agg #[v22, v23, v24]] H26 (Sp.retK (fun v31 H32 =>
  dInt IntKind.i64 v31 (fun n33 =>
  k15 (Value.bool (decide (n27 < n33))) H32)) nopR))) nopR))))))) nopR)))))))
theorem F27_eq (x0 : Option Addr) (x1_0 : Value) (x1_1 : Value) (x1_2 : Value) (R : Ending → Heap → Prop) (H : Heap) : F27 x0 x1_0 x1_1 x1_2 R H = vc Tryz.prog (codeOf Tryz.f27) (.node none .leaf (.node none .leaf (.node none (.node (some ⟨[(16, 4)], [7, 8, 9, 10, 11, 12, 13, 14, 15]⟩) .leaf .leaf) .leaf))) (postV Tryz.prog Tryz.f27 R) ⟨#[Value.pointer x0, Value.agg #[x1_0, x1_1, x1_2]] ++ Array.replicate (Tryz.f27.ntmps - 2) undef, []⟩ H := by kernel_rfl
theorem F27_calls {R : Ending → Heap → Prop} {H : Heap} (x0 : Option Addr) (x1_0 : Value) (x1_1 : Value) (x1_2 : Value) (h : F27 x0 x1_0 x1_1 x1_2 R H) : HCalls Tryz.prog 27 #[Value.pointer x0, Value.agg #[x1_0, x1_1, x1_2]] H R :=
  calls_by (F := F27 x0 x1_0 x1_1 x1_2 R H) (.node none .leaf (.node none .leaf (.node none (.node (some ⟨[(16, 4)], [7, 8, 9, 10, 11, 12, 13, 14, 15]⟩) .leaf .leaf) .leaf))) Tryz.func27 rfl (F27_eq x0 x1_0 x1_1 x1_2 R H) h
/-- bollard/bollardref04.Inode -/
def F28 (x0_0 : Value) (x0_1 : Value) (x0_2 : Value) (x1 : Int) (R : Ending → Heap → Prop) (H : Heap) : Prop :=
  al H (Obj.cells #[x0_0, x0_1, x0_2] 23) (fun r1 H2 =>
  ld H2 (Addr.mk r1 0 none) (fun v3 =>
  ld H2 (Addr.mk r1 1 none) (fun v4 =>
  ld H2 (Addr.mk r1 2 none) (fun v5 =>
  HCalls Tryz.prog 79 #[Value.agg #[v3, v4, v5], Value.int IntKind.i64 x1] H2 (Sp.retK (fun v6 H7 =>
  dT 3 v6 (fun v8 v9 v10 =>
  dInt IntKind.i64 v8 (fun n11 =>
  dInt IntKind.i64 v9 (fun n12 =>
  dBl v10 (fun b13 =>
  sB (!b13) (R (Ending.returned (Value.tuple #[Value.int IntKind.i64 0, Value.int IntKind.i64 0, Value.bool false])) H7) (ld H7 (Addr.mk r1 1 none) (fun v14 =>
  dInt IntKind.i64 v14 (fun n15 =>
  wr IntKind.i64 (n11 * n15) (fun n16 =>
  wr IntKind.i64 (n16 + 2) (fun n17 =>
  ask ((4 : Int) ≠ (0 : Int)) (wr IntKind.i64 (Int.tdiv n12 4) (fun n18 =>
  wr IntKind.i64 (n17 + n18) (fun n19 =>
  ask ((4 : Int) ≠ (0 : Int)) (nm (Int.tmod n12 4) (fun n20 =>
  wr IntKind.i64 (32 * n20) (fun n21 =>
  R (Ending.returned (Value.tuple #[Value.int IntKind.i64 n19, Value.int IntKind.i64 n21, Value.bool true])) H7)))))))))))))))) (pnR R))))))
theorem F28_eq (x0_0 : Value) (x0_1 : Value) (x0_2 : Value) (x1 : Int) (R : Ending → Heap → Prop) (H : Heap) : F28 x0_0 x0_1 x0_2 x1 R H = vc Tryz.prog (codeOf Tryz.f28) .leaf (postV Tryz.prog Tryz.f28 R) ⟨#[Value.agg #[x0_0, x0_1, x0_2], Value.int IntKind.i64 x1] ++ Array.replicate (Tryz.f28.ntmps - 2) undef, []⟩ H := by kernel_rfl
theorem F28_calls {R : Ending → Heap → Prop} {H : Heap} (x0_0 : Value) (x0_1 : Value) (x0_2 : Value) (x1 : Int) (h : F28 x0_0 x0_1 x0_2 x1 R H) : HCalls Tryz.prog 28 #[Value.agg #[x0_0, x0_1, x0_2], Value.int IntKind.i64 x1] H R :=
  calls_by (F := F28 x0_0 x0_1 x0_2 x1 R H) .leaf Tryz.func28 rfl (F28_eq x0_0 x0_1 x0_2 x1 R H) h
end Go.Proofs.YtklppdodadkcnaaGreat.E
/- The functions' forms in the engine's words, printed by my own program. -/
namespace Go.Proofs.YtklppdodadkcnaaGreat.E
open Go Go.Proofs
set_option linter.unusedVariables false
set_option maxRecDepth 100000
/-- bollard/bollardref03.EncodeDinode -/
def F29 (x0_0 : Value) (x0_1 : Value) (x0_2 : Value) (x0_3 : Value) (x0_4 : Value) (x0_5 : Value) (x0_6 : Value) (x0_7 : Value) (x0_8 : Value) (R : Ending → Heap → Prop) (H : Heap) : Prop :=
  al H (Obj.cells #[x0_0, x0_1, x0_2, x0_3, x0_4, x0_5, x0_6, x0_7, x0_8] 26) (fun r1 H2 =>
  ld H2 (Addr.mk r1 0 none) (fun v3 =>
  ld H2 (Addr.mk r1 1 none) (fun v4 =>
  ld H2 (Addr.mk r1 2 none) (fun v5 =>
  ld H2 (Addr.mk r1 3 none) (fun v6 =>
  ld H2 (Addr.mk r1 4 none) (fun v7 =>
  ld H2 (Addr.mk r1 5 none) (fun v8 =>
  ld H2 (Addr.mk r1 6 none) (fun v9 =>
  ld H2 (Addr.mk r1 7 none) (fun v10 =>
  ld H2 (Addr.mk r1 8 none) (fun v11 =>
  HCalls Tryz.prog 80 #[Value.agg #[v3, v4, v5, v6, v7, v8, v9, v10, v11]] H2 (Sp.retK (fun v12 H13 =>
  dBl v12 (fun b14 =>
  sB (!b14) (R (Ending.returned (Value.tuple #[Value.slice none 0 0, Value.int IntKind.i64 1])) H13) (ask ((0 : Int) ≤ (32 : Int) ∧ (32 : Int) ≤ (32 : Int) ∧ (32 : Int) ≤ (281474976710656 : Int) ∧ (32 : Int) ≤ (9223372036854775807 : Int)) (al H13 (Obj.cells (List.toArray (rowZ [Value.int IntKind.u8 0] (Int.toNat 32))) 5) (fun r15 H16 =>
  ld H16 (Addr.mk r1 0 none) (fun v17 =>
  dInt IntKind.i64 v17 (fun n18 =>
  sB (n18 == 0) (R (Ending.returned (Value.tuple #[Value.slice (some (Addr.mk r15 0 none)) (Int.toNat 32) (Int.toNat 32), Value.int IntKind.i64 0])) H16) (ld H16 (Addr.mk r1 0 none) (fun v19 =>
  dInt IntKind.i64 v19 (fun n20 =>
  HCalls Tryz.prog 81 #[Value.slice (some (Addr.mk r15 0 none)) (Int.toNat 32) (Int.toNat 32), Value.int IntKind.i64 0, Value.int IntKind.i64 1, Value.int IntKind.i64 n20] H16 (Sp.retK (fun v21 H22 =>
  dSl v21 (fun p23 r24 r25 =>
  ld H22 (Addr.mk r1 1 none) (fun v26 =>
  dInt IntKind.i64 v26 (fun n27 =>
  HCalls Tryz.prog 81 #[Value.slice p23 r24 r25, Value.int IntKind.i64 2, Value.int IntKind.i64 2, Value.int IntKind.i64 n27] H22 (Sp.retK (fun v28 H29 =>
  dSl v28 (fun p30 r31 r32 =>
  ld H29 (Addr.mk r1 2 none) (fun v33 =>
  dInt IntKind.i64 v33 (fun n34 =>
  HCalls Tryz.prog 81 #[Value.slice p30 r31 r32, Value.int IntKind.i64 4, Value.int IntKind.i64 4, Value.int IntKind.i64 n34] H29 (Sp.retK (fun v35 H36 =>
  dSl v35 (fun p37 r38 r39 =>
  ld H36 (Addr.mk r1 3 none) (fun v40 =>
  ld H36 (Addr.mk r1 4 none) (fun v41 =>
  ld H36 (Addr.mk r1 5 none) (fun v42 =>
  ld H36 (Addr.mk r1 6 none) (fun v43 =>
  ∃ I44 : List Value → Heap → Prop,
  ∃ I45 : List Value → Heap → Nat,
  (I44 ([Value.slice p37 r38 r39, Value.int IntKind.i64 0]) H36) ∧
  ∀ p46 : Option Addr,
  ∀ r47 : Nat,
  ∀ r48 : Nat,
  ∀ n49 : Int,
  ∀ v50 v51 v52 v53 v54 v55 v56 v57 v58 v59 v60 v61 : Value,
  ∀ H62 : Heap,
  (I44 ([Value.slice p46 r47 r48, Value.int IntKind.i64 n49]) H62) →
  sB (decide (n49 < 4)) (ask ((0 : Int) ≤ n49 ∧ n49 < (4 : Int)) (oV ([v40, v41, v42, v43][Int.toNat n49 * 1]?) (fun v64 =>
  dInt IntKind.i64 v64 (fun n65 =>
  wr IntKind.i64 (2 * n49) (fun n66 =>
  wr IntKind.i64 (8 + n66) (fun n67 =>
  HCalls Tryz.prog 81 #[Value.slice p46 r47 r48, Value.int IntKind.i64 n67, Value.int IntKind.i64 2, Value.int IntKind.i64 n65] H62 (Sp.retK (fun v68 H69 =>
  dSl v68 (fun p70 r71 r72 =>
  wr IntKind.i64 (n49 + 1) (fun n73 =>
  (I44 ([Value.slice p70 r71 r72, Value.int IntKind.i64 n73]) H69) ∧
  (I45 [Value.slice p70 r71 r72, Value.int IntKind.i64 n73] H69) < (I45 [Value.slice p46 r47 r48, Value.int IntKind.i64 n49] H62)))) (pnR R)))))))) (ld H62 (Addr.mk r1 7 none) (fun v76 =>
  dInt IntKind.i64 v76 (fun n77 =>
  HCalls Tryz.prog 81 #[Value.slice p46 r47 r48, Value.int IntKind.i64 16, Value.int IntKind.i64 2, Value.int IntKind.i64 n77] H62 (Sp.retK (fun v78 H79 =>
  dSl v78 (fun p80 r81 r82 =>
  ld H79 (Addr.mk r1 8 none) (fun v83 =>
  dInt IntKind.i64 v83 (fun n84 =>
  HCalls Tryz.prog 81 #[Value.slice p80 r81 r82, Value.int IntKind.i64 18, Value.int IntKind.i64 2, Value.int IntKind.i64 n84] H79 (Sp.retK (fun v85 H86 =>
  dSl v85 (fun p87 r88 r89 =>
  HCalls Tryz.prog 82 #[Value.slice p87 r88 r89] H86 (Sp.retK (fun v90 H91 =>
  dT 2 v90 (fun v92 v93 =>
  dSl v92 (fun p94 r95 r96 =>
  dInt IntKind.i64 v93 (fun n97 =>
  R (Ending.returned (Value.tuple #[Value.slice p94 r95 r96, Value.int IntKind.i64 n97])) H91)))) (pnR R)))) (pnR R)))))) (pnR R))))))))))) (pnR R)))))) (pnR R)))))) (pnR R)))))))))))) (pnR R))))))))))))
theorem F29_eq (x0_0 : Value) (x0_1 : Value) (x0_2 : Value) (x0_3 : Value) (x0_4 : Value) (x0_5 : Value) (x0_6 : Value) (x0_7 : Value) (x0_8 : Value) (R : Ending → Heap → Prop) (H : Heap) : F29 x0_0 x0_1 x0_2 x0_3 x0_4 x0_5 x0_6 x0_7 x0_8 R H = vc Tryz.prog (codeOf Tryz.f29) (.node none .leaf (.node none .leaf (.node none .leaf (.node none .leaf (.node none .leaf (.node none .leaf (.node none .leaf (.node none (.node none .leaf (.node none (.node (some ⟨[(4, 85), (29, 3)], [5, 6, 30, 31, 32, 33, 34, 35, 36, 37, 38, 39]⟩) .leaf .leaf) .leaf)) .leaf)))))))) (postV Tryz.prog Tryz.f29 R) ⟨#[Value.agg #[x0_0, x0_1, x0_2, x0_3, x0_4, x0_5, x0_6, x0_7, x0_8]] ++ Array.replicate (Tryz.f29.ntmps - 1) undef, []⟩ H := by kernel_rfl
theorem F29_calls {R : Ending → Heap → Prop} {H : Heap} (x0_0 : Value) (x0_1 : Value) (x0_2 : Value) (x0_3 : Value) (x0_4 : Value) (x0_5 : Value) (x0_6 : Value) (x0_7 : Value) (x0_8 : Value) (h : F29 x0_0 x0_1 x0_2 x0_3 x0_4 x0_5 x0_6 x0_7 x0_8 R H) : HCalls Tryz.prog 29 #[Value.agg #[x0_0, x0_1, x0_2, x0_3, x0_4, x0_5, x0_6, x0_7, x0_8]] H R :=
  calls_by (F := F29 x0_0 x0_1 x0_2 x0_3 x0_4 x0_5 x0_6 x0_7 x0_8 R H) (.node none .leaf (.node none .leaf (.node none .leaf (.node none .leaf (.node none .leaf (.node none .leaf (.node none .leaf (.node none (.node none .leaf (.node none (.node (some ⟨[(4, 85), (29, 3)], [5, 6, 30, 31, 32, 33, 34, 35, 36, 37, 38, 39]⟩) .leaf .leaf) .leaf)) .leaf)))))))) Tryz.func29 rfl (F29_eq x0_0 x0_1 x0_2 x0_3 x0_4 x0_5 x0_6 x0_7 x0_8 R H) h
/-- (*bollard/bollardref09.Volume).Change -/
def F30 (x0 : Option Addr) (x1 : Int) (x2 : Int) (x3a : Option Addr) (x3n : Nat) (x3c : Nat) (x4a : Option Addr) (x4n : Nat) (x4c : Nat) (R : Ending → Heap → Prop) (H : Heap) : Prop :=
  HCalls Tryz.prog 83 #[Value.pointer x0, Value.int IntKind.i64 x1] H (Sp.retK (fun v1 H2 =>
  dBl v1 (fun b3 =>
  sB (!b3) (R (Ending.returned (Value.tuple #[Value.int IntKind.i64 0, Value.int IntKind.i64 90])) H2) (jn (α := VFH 1) (fun v4 H5 =>
  ∀ v6 v7 v8 v9 v10 v11 v12 v13 v14 v15 v16 v17 v18 v19 v20 v21 v22 : Value,
  dBl v4 (fun b23 =>
  jn (α := VFH 1) (fun v24 H25 =>
  ∀ v26 v27 v28 v29 v30 v31 v32 v33 v34 v35 v36 v37 v38 v39 v40 : Value,
  dSl v24 (fun p41 r42 r43 =>
  nz x0 (fun a44 =>
  ld H25 (Addr.add a44 2) (fun v45 =>
  dPtr v45 (fun p46 =>
  HCalls Tryz.prog 86 #[Value.pointer p46, Value.int IntKind.i64 x1, Value.int IntKind.i64 x2, Value.slice x3a x3n x3c, Value.slice x4a x4n x4c] H25 (Sp.retK (fun v47 H48 =>
  dT 2 v47 (fun v49 v50 =>
  dInt IntKind.i64 v49 (fun n51 =>
  dInt IntKind.i64 v50 (fun n52 =>
  sB (n52 != 0) (R (Ending.returned (Value.tuple #[Value.int IntKind.i64 0, Value.int IntKind.i64 n52])) H48) (jn (α := VFH 0) (fun H53 =>
  ∀ v54 v55 v56 v57 v58 v59 v60 v61 v62 v63 v64 v65 v66 v67 v68 v69 v70 v71 v72 v73 v74 v75 v76 v77 v78 v79 v80 v81 v82 : Value,
  R (Ending.returned (Value.tuple #[Value.int IntKind.i64 n51, Value.int IntKind.i64 0])) H53) (fun k83 =>
  jn (α := VFH 1) (fun v84 H85 =>
  ∀ v86 v87 v88 v89 v90 v91 v92 v93 v94 v95 v96 v97 : Value,
  dBl v84 (fun b98 =>
  sB b98 (nz x0 (fun a99 =>
  st H85 (Addr.add a99 5) (Value.bool true) (fun H100 =>
  k83 H100))) (sB b23 (nz x0 (fun a101 =>
  ld H85 (Addr.add a101 7) (fun v102 =>
  dSl v102 (fun p103 r104 r105 =>
  al H85 (Obj.cells #[Value.int IntKind.i64 x1, Value.slice p41 r42 r43] 165) (fun r106 H107 =>
  semW Tryz.prog (Builtin.append_ #[161, 161] 161 #[Value.slice p103 r104 r105, Value.slice (some (Addr.mk r106 0 none)) 1 1]) (pnR R) H107 (fun v110 H111 =>
  dSl v110 (fun p112 r113 r114 =>
  nz x0 (fun a115 =>
  st H111 (Addr.add a115 7) (Value.slice p112 r113 r114) (fun H116 =>
  k83 H116))))))))) (k83 H85)))) (fun k117 =>
  sB b23 (nz x0 (fun a118 =>
  ld H48 (Addr.add a118 7) (fun v119 =>
  dSl v119 (fun p120 r121 r122 =>
  nz x0 (fun a123 =>
  ld H48 (Addr.add a123 6) (fun v124 =>
  dInt IntKind.i64 v124 (fun n125 =>
  (ld H48 (Addr.add a123 6) (fun v126 =>
  dInt IntKind.i64 v126 (fun n127 =>
  (Value.int IntKind.i64 n127) = (Value.int IntKind.i64 n125)))) ∧
  k117 (Value.bool (decide ((↑r121 : Int) ≥ n125))) H48))))))) (k117 (Value.bool false) H48)))))))) (pnR R))))))) (fun k130 =>
  sB b23 (HCalls Tryz.prog 85 #[Value.pointer x0, Value.int IntKind.i64 x1] H5 (Sp.retK (fun v131 H132 =>
  dT 2 v131 (fun v133 v134 =>
  dSl v133 (fun p135 r136 r137 =>
  dInt IntKind.i64 v134 (fun n138 =>
  sB (n138 != 0) (R (Ending.returned (Value.tuple #[Value.int IntKind.i64 0, Value.int IntKind.i64 n138])) H132) (k130 (Value.slice p135 r136 r137) H132))))) (pnR R))) (k130 (Value.slice none 0 0) H5)))) (fun k141 =>
  nz x0 (fun a142 =>
  ld H2 (Addr.add a142 4) (fun v143 =>
  dBl v143 (fun b144 =>
  sB b144 (nz x0 (fun a145 =>
  ld H2 (Addr.add a145 5) (fun v146 =>
  dBl v146 (fun b147 =>
  sB (!b147) (HCalls Tryz.prog 84 #[Value.pointer x0, Value.int IntKind.i64 x1] H2 (Sp.retK (fun v148 H149 =>
  dBl v148 (fun b150 =>
  k141 (Value.bool !b150) H149)) (pnR R))) (k141 (Value.bool false) H2))))) (k141 (Value.bool false) H2)))))))) (pnR R))
theorem F30_eq (x0 : Option Addr) (x1 : Int) (x2 : Int) (x3a : Option Addr) (x3n : Nat) (x3c : Nat) (x4a : Option Addr) (x4n : Nat) (x4c : Nat) (R : Ending → Heap → Prop) (H : Heap) : F30 x0 x1 x2 x3a x3n x3c x4a x4n x4c R H = vc Tryz.prog (codeOf Tryz.f30) (.node none .leaf (.node none .leaf (.node (some ⟨[(12, 4)], [22, 23, 24, 25, 26, 27, 28, 29, 30, 31, 32, 33, 34, 35, 36, 37, 38]⟩) .leaf (.node none .leaf (.node (some ⟨[(13, 85)], [10, 11, 14, 15, 39, 40, 41, 42, 43, 44, 45, 46, 47, 48, 49]⟩) .leaf (.node none .leaf (.node none .leaf (.node (some ⟨[], [65, 66, 67, 68, 69, 70, 71, 72, 73, 74, 75, 76, 77, 78, 79, 80, 81, 82, 83, 84, 85, 86, 87, 88, 89, 90, 91, 92, 93]⟩) (.node (some ⟨[(77, 4)], [65, 66, 67, 68, 69, 70, 71, 72, 73, 74, 75, 76]⟩) .leaf .leaf) .leaf)))))))) (postV Tryz.prog Tryz.f30 R) ⟨#[Value.pointer x0, Value.int IntKind.i64 x1, Value.int IntKind.i64 x2, Value.slice x3a x3n x3c, Value.slice x4a x4n x4c] ++ Array.replicate (Tryz.f30.ntmps - 5) undef, []⟩ H := by kernel_rfl
theorem F30_calls {R : Ending → Heap → Prop} {H : Heap} (x0 : Option Addr) (x1 : Int) (x2 : Int) (x3a : Option Addr) (x3n : Nat) (x3c : Nat) (x4a : Option Addr) (x4n : Nat) (x4c : Nat) (h : F30 x0 x1 x2 x3a x3n x3c x4a x4n x4c R H) : HCalls Tryz.prog 30 #[Value.pointer x0, Value.int IntKind.i64 x1, Value.int IntKind.i64 x2, Value.slice x3a x3n x3c, Value.slice x4a x4n x4c] H R :=
  calls_by (F := F30 x0 x1 x2 x3a x3n x3c x4a x4n x4c R H) (.node none .leaf (.node none .leaf (.node (some ⟨[(12, 4)], [22, 23, 24, 25, 26, 27, 28, 29, 30, 31, 32, 33, 34, 35, 36, 37, 38]⟩) .leaf (.node none .leaf (.node (some ⟨[(13, 85)], [10, 11, 14, 15, 39, 40, 41, 42, 43, 44, 45, 46, 47, 48, 49]⟩) .leaf (.node none .leaf (.node none .leaf (.node (some ⟨[], [65, 66, 67, 68, 69, 70, 71, 72, 73, 74, 75, 76, 77, 78, 79, 80, 81, 82, 83, 84, 85, 86, 87, 88, 89, 90, 91, 92, 93]⟩) (.node (some ⟨[(77, 4)], [65, 66, 67, 68, 69, 70, 71, 72, 73, 74, 75, 76]⟩) .leaf .leaf) .leaf)))))))) Tryz.func30 rfl (F30_eq x0 x1 x2 x3a x3n x3c x4a x4n x4c R H) h
/-- (*bollard/volume.Volume).Blocks -/
def F32 (x0 : Option Addr) (R : Ending → Heap → Prop) (H : Heap) : Prop :=
  HCalls Tryz.prog 61 #[Value.pointer x0] H (Sp.retK (fun v1 H2 =>
  dBl v1 (fun b3 =>
  sB (!b3) (R (Ending.returned (Value.int IntKind.i64 0)) H2) (nz x0 (fun a4 =>
  nz x0 (fun a5 =>
  ld H2 (Addr.add a5 2) (fun v6 =>
  dPtr v6 (fun p7 =>
  HCalls Tryz.prog 89 #[Value.pointer p7] H2 (Sp.retK (fun v8 H9 =>
  dInt IntKind.i64 v8 (fun n10 =>
  HCallsD Tryz.prog 62 #[Value.pointer (some a4)] FrameMode.returning H9 (fun e11 u12 H13 =>
  match e11 with
| Ending.returned v => leavesV Tryz.prog Tryz.f32 (Act.tmps (Act.mk #[Value.pointer x0, undef, Value.int IntKind.i64 n10, Value.pointer x0, Value.bool b3, Value.bool !b3, Value.pointer x0, Value.pointer (some a4), Value.pointer (some a4), Value.pointer x0, Value.pointer (some a5), Value.pointer (some (Addr.add a5 2)), Value.pointer p7, Value.int IntKind.i64 n10] [Deferred.mk (Target.fn (Fn.func 62) #[]) #[Value.pointer (some a4)]])) R [] (settle u12) H13
| Ending.panicked c => leavesV Tryz.prog Tryz.f32 (Act.tmps (Act.mk #[Value.pointer x0, undef, Value.int IntKind.i64 n10, Value.pointer x0, Value.bool b3, Value.bool !b3, Value.pointer x0, Value.pointer (some a4), Value.pointer (some a4), Value.pointer x0, Value.pointer (some a5), Value.pointer (some (Addr.add a5 2)), Value.pointer p7, Value.int IntKind.i64 n10] [Deferred.mk (Target.fn (Fn.func 62) #[]) #[Value.pointer (some a4)]])) R [] (raised u12 c) H13
| Ending.outgrown => False))) (fun c14 H15 =>
  HCallsD Tryz.prog 62 #[Value.pointer (some a4)] (FrameMode.panicking c14) H15 (fun e16 u17 H18 =>
  match e16 with
| Ending.returned v => leavesV Tryz.prog Tryz.f32 (Act.tmps (Act.mk #[Value.pointer x0, undef, Value.int IntKind.i64 0, Value.pointer x0, Value.bool b3, Value.bool !b3, Value.pointer x0, Value.pointer (some a4), Value.pointer (some a4), Value.pointer x0, Value.pointer (some a5), Value.pointer (some (Addr.add a5 2)), Value.pointer p7, undef] [Deferred.mk (Target.fn (Fn.func 62) #[]) #[Value.pointer (some a4)]])) R [] (settle u17) H18
| Ending.panicked c => leavesV Tryz.prog Tryz.f32 (Act.tmps (Act.mk #[Value.pointer x0, undef, Value.int IntKind.i64 0, Value.pointer x0, Value.bool b3, Value.bool !b3, Value.pointer x0, Value.pointer (some a4), Value.pointer (some a4), Value.pointer x0, Value.pointer (some a5), Value.pointer (some (Addr.add a5 2)), Value.pointer p7, undef] [Deferred.mk (Target.fn (Fn.func 62) #[]) #[Value.pointer (some a4)]])) R [] (raised u17 c) H18
| Ending.outgrown => False)))))))))) (pnR R))
theorem F32_eq (x0 : Option Addr) (R : Ending → Heap → Prop) (H : Heap) : F32 x0 R H = vc Tryz.prog (codeOf Tryz.f32) .leaf (postV Tryz.prog Tryz.f32 R) ⟨#[Value.pointer x0] ++ Array.replicate (Tryz.f32.ntmps - 1) undef, []⟩ H := by kernel_rfl
theorem F32_calls {R : Ending → Heap → Prop} {H : Heap} (x0 : Option Addr) (h : F32 x0 R H) : HCalls Tryz.prog 32 #[Value.pointer x0] H R :=
  calls_by (F := F32 x0 R H) .leaf Tryz.func32 rfl (F32_eq x0 R H) h
/-- bollard/geom.Owner -/
def F33 (x0_0 : Value) (x0_1 : Value) (x0_2 : Value) (x1 : Int) (R : Ending → Heap → Prop) (H : Heap) : Prop :=
  al H (Obj.cells #[x0_0, x0_1, x0_2] 23) (fun r1 H2 =>
  ld H2 (Addr.mk r1 2 none) (fun v3 =>
  dInt IntKind.i64 v3 (fun n4 =>
  ld H2 (Addr.mk r1 0 none) (fun v5 =>
  ld H2 (Addr.mk r1 1 none) (fun v6 =>
  ld H2 (Addr.mk r1 2 none) (fun v7 =>
  HCalls Tryz.prog 91 #[Value.agg #[v5, v6, v7]] H2 (Sp.retK (fun v8 H9 =>
  dInt IntKind.i64 v8 (fun n10 =>
  (ld H9 (Addr.mk r1 2 none) (fun v11 =>
  dInt IntKind.i64 v11 (fun n12 =>
  (Value.int IntKind.i64 n12) = (Value.int IntKind.i64 n4)))) ∧
  HCalls Tryz.prog 90 #[Value.int IntKind.i64 x1, Value.int IntKind.i64 n4, Value.int IntKind.i64 n10] H9 (Sp.retK (fun v13 H14 =>
  dT 3 v13 (fun v15 v16 v17 =>
  dInt IntKind.i64 v15 (fun n18 =>
  dInt IntKind.i64 v16 (fun n19 =>
  dBl v17 (fun b20 =>
  R (Ending.returned (Value.tuple #[Value.int IntKind.i64 n18, Value.int IntKind.i64 n19, Value.bool b20])) H14))))) nopR))) nopR)))))))
theorem F33_eq (x0_0 : Value) (x0_1 : Value) (x0_2 : Value) (x1 : Int) (R : Ending → Heap → Prop) (H : Heap) : F33 x0_0 x0_1 x0_2 x1 R H = vc Tryz.prog (codeOf Tryz.f33) .leaf (postV Tryz.prog Tryz.f33 R) ⟨#[Value.agg #[x0_0, x0_1, x0_2], Value.int IntKind.i64 x1] ++ Array.replicate (Tryz.f33.ntmps - 2) undef, []⟩ H := by kernel_rfl
theorem F33_calls {R : Ending → Heap → Prop} {H : Heap} (x0_0 : Value) (x0_1 : Value) (x0_2 : Value) (x1 : Int) (h : F33 x0_0 x0_1 x0_2 x1 R H) : HCalls Tryz.prog 33 #[Value.agg #[x0_0, x0_1, x0_2], Value.int IntKind.i64 x1] H R :=
  calls_by (F := F33 x0_0 x0_1 x0_2 x1 R H) .leaf Tryz.func33 rfl (F33_eq x0_0 x0_1 x0_2 x1 R H) h
end Go.Proofs.YtklppdodadkcnaaGreat.E
/- The functions' forms in the engine's words, printed by my own program. -/
namespace Go.Proofs.YtklppdodadkcnaaGreat.E
open Go Go.Proofs
set_option linter.unusedVariables false
set_option maxRecDepth 100000
/-- bollard/inode.fine -/
def F39 (x0 : Option Addr) (x1_0 : Value) (x1_1 : Value) (x1_2 : Value) (R : Ending → Heap → Prop) (H : Heap) : Prop :=
  al H (Obj.cells #[x1_0, x1_1, x1_2] 23) (fun r1 H2 =>
  HCalls Tryz.prog 32 #[Value.pointer x0] H2 (Sp.retK (fun v3 H4 =>
  dInt IntKind.i64 v3 (fun n5 =>
  sB (n5 == 0) (R (Ending.returned (Value.int IntKind.i64 2)) H4) (jn (α := VFH 1) (fun v6 H7 =>
  ∀ v8 v9 v10 v11 v12 v13 v14 v15 v16 : Value,
  dBl v6 (fun b17 =>
  sB b17 (R (Ending.returned (Value.int IntKind.i64 170)) H7) (R (Ending.returned (Value.int IntKind.i64 0)) H7))) (fun k18 =>
  ld H4 (Addr.mk r1 0 none) (fun v19 =>
  ld H4 (Addr.mk r1 1 none) (fun v20 =>
  ld H4 (Addr.mk r1 2 none) (fun v21 =>
  HCalls Tryz.prog 96 #[Value.agg #[v19, v20, v21]] H4 (Sp.retK (fun v22 H23 =>
  dInt IntKind.i64 v22 (fun n24 =>
  sB (n24 != 0) (k18 (Value.bool true) H23) (ld H23 (Addr.mk r1 0 none) (fun v25 =>
  ld H23 (Addr.mk r1 1 none) (fun v26 =>
  ld H23 (Addr.mk r1 2 none) (fun v27 =>
  HCalls Tryz.prog 32 #[Value.pointer x0] H23 (Sp.retK (fun v28 H29 =>
  dInt IntKind.i64 v28 (fun n30 =>
  (ld H29 (Addr.mk r1 0 none) (fun v31 =>
  ld H29 (Addr.mk r1 1 none) (fun v32 =>
  ld H29 (Addr.mk r1 2 none) (fun v33 =>
  (Value.agg #[v31, v32, v33]) = (Value.agg #[v25, v26, v27]))))) ∧
  HCalls Tryz.prog 97 #[Value.agg #[v25, v26, v27]] H29 (Sp.retK (fun v34 H35 =>
  dInt IntKind.i64 v34 (fun n36 =>
  k18 (Value.bool (decide (n30 < n36))) H35)) nopR))) nopR))))))) nopR)))))))) (pnR R)))
theorem F39_eq (x0 : Option Addr) (x1_0 : Value) (x1_1 : Value) (x1_2 : Value) (R : Ending → Heap → Prop) (H : Heap) : F39 x0 x1_0 x1_1 x1_2 R H = vc Tryz.prog (codeOf Tryz.f39) (.node none .leaf (.node none .leaf (.node none (.node (some ⟨[(17, 4)], [8, 9, 10, 11, 12, 13, 14, 15, 16]⟩) .leaf .leaf) .leaf))) (postV Tryz.prog Tryz.f39 R) ⟨#[Value.pointer x0, Value.agg #[x1_0, x1_1, x1_2]] ++ Array.replicate (Tryz.f39.ntmps - 2) undef, []⟩ H := by kernel_rfl
theorem F39_calls {R : Ending → Heap → Prop} {H : Heap} (x0 : Option Addr) (x1_0 : Value) (x1_1 : Value) (x1_2 : Value) (h : F39 x0 x1_0 x1_1 x1_2 R H) : HCalls Tryz.prog 39 #[Value.pointer x0, Value.agg #[x1_0, x1_1, x1_2]] H R :=
  calls_by (F := F39 x0 x1_0 x1_1 x1_2 R H) (.node none .leaf (.node none .leaf (.node none (.node (some ⟨[(17, 4)], [8, 9, 10, 11, 12, 13, 14, 15, 16]⟩) .leaf .leaf) .leaf))) Tryz.func39 rfl (F39_eq x0 x1_0 x1_1 x1_2 R H) h
end Go.Proofs.YtklppdodadkcnaaGreat.E
/- The functions' forms in the engine's words, printed by my own program. -/
namespace Go.Proofs.YtklppdodadkcnaaGreat.E
open Go Go.Proofs
set_option linter.unusedVariables false
set_option maxRecDepth 100000
/-- bollard/bollardref04.Can -/
def F52 (x0_0 : Value) (x0_1 : Value) (x0_2 : Value) (R : Ending → Heap → Prop) (H : Heap) : Prop :=
  al H (Obj.cells #[x0_0, x0_1, x0_2] 23) (fun r1 H2 =>
  jn (α := VFH 1) (fun v3 H4 =>
  ∀ v5 v6 v7 v8 v9 v10 v11 v12 v13 v14 v15 v16 v17 v18 v19 v20 v21 v22 v23 v24 v25 v26 v27 v28 v29 v30 v31 v32 v33 v34 v35 v36 v37 v38 v39 v40 v41 v42 v43 v44 v45 v46 : Value,
  dBl v3 (fun b47 =>
  sB b47 (R (Ending.returned (Value.int IntKind.i64 170)) H4) (R (Ending.returned (Value.int IntKind.i64 0)) H4))) (fun k48 =>
  ld H2 (Addr.mk r1 0 none) (fun v49 =>
  dInt IntKind.i64 v49 (fun n50 =>
  sB (decide (n50 < 1)) (k48 (Value.bool true) H2) (ld H2 (Addr.mk r1 0 none) (fun v51 =>
  dInt IntKind.i64 v51 (fun n52 =>
  sB (decide (n52 > 8)) (k48 (Value.bool true) H2) (ld H2 (Addr.mk r1 1 none) (fun v53 =>
  dInt IntKind.i64 v53 (fun n54 =>
  sB (decide (n54 < 8)) (k48 (Value.bool true) H2) (ld H2 (Addr.mk r1 1 none) (fun v55 =>
  dInt IntKind.i64 v55 (fun n56 =>
  sB (decide (n56 > 256)) (k48 (Value.bool true) H2) (ld H2 (Addr.mk r1 2 none) (fun v57 =>
  dInt IntKind.i64 v57 (fun n58 =>
  sB (decide (n58 < 4)) (k48 (Value.bool true) H2) (ld H2 (Addr.mk r1 2 none) (fun v59 =>
  dInt IntKind.i64 v59 (fun n60 =>
  sB (decide (n60 > 64)) (k48 (Value.bool true) H2) (ld H2 (Addr.mk r1 2 none) (fun v61 =>
  dInt IntKind.i64 v61 (fun n62 =>
  ask ((4 : Int) ≠ (0 : Int)) (nm (Int.tmod n62 4) (fun n63 =>
  sB (n63 != 0) (k48 (Value.bool true) H2) (ld H2 (Addr.mk r1 1 none) (fun v64 =>
  dInt IntKind.i64 v64 (fun n65 =>
  ld H2 (Addr.mk r1 2 none) (fun v66 =>
  dInt IntKind.i64 v66 (fun n67 =>
  ask ((4 : Int) ≠ (0 : Int)) (wr IntKind.i64 (Int.tdiv n67 4) (fun n68 =>
  wr IntKind.i64 (3 + n68) (fun n69 =>
  k48 (Value.bool (decide (n65 < n69))) H2))))))))))))))))))))))))))))))))
theorem F52_eq (x0_0 : Value) (x0_1 : Value) (x0_2 : Value) (R : Ending → Heap → Prop) (H : Heap) : F52 x0_0 x0_1 x0_2 R H = vc Tryz.prog (codeOf Tryz.f52) (.node none .leaf (.node none (.node (some ⟨[(45, 4)], [3, 4, 5, 6, 7, 8, 9, 10, 11, 12, 13, 14, 15, 16, 17, 18, 19, 20, 21, 22, 23, 24, 25, 26, 27, 28, 29, 30, 31, 32, 33, 34, 35, 36, 37, 38, 39, 40, 41, 42, 43, 44]⟩) .leaf .leaf) .leaf)) (postV Tryz.prog Tryz.f52 R) ⟨#[Value.agg #[x0_0, x0_1, x0_2]] ++ Array.replicate (Tryz.f52.ntmps - 1) undef, []⟩ H := by kernel_rfl
theorem F52_calls {R : Ending → Heap → Prop} {H : Heap} (x0_0 : Value) (x0_1 : Value) (x0_2 : Value) (h : F52 x0_0 x0_1 x0_2 R H) : HCalls Tryz.prog 52 #[Value.agg #[x0_0, x0_1, x0_2]] H R :=
  calls_by (F := F52 x0_0 x0_1 x0_2 R H) (.node none .leaf (.node none (.node (some ⟨[(45, 4)], [3, 4, 5, 6, 7, 8, 9, 10, 11, 12, 13, 14, 15, 16, 17, 18, 19, 20, 21, 22, 23, 24, 25, 26, 27, 28, 29, 30, 31, 32, 33, 34, 35, 36, 37, 38, 39, 40, 41, 42, 43, 44]⟩) .leaf .leaf) .leaf)) Tryz.func52 rfl (F52_eq x0_0 x0_1 x0_2 R H) h
/-- bollard/bollardref17.group -/
def F53 (x0_0 : Value) (x0_1 : Value) (x0_2 : Value) (x1 : Int) (R : Ending → Heap → Prop) (H : Heap) : Prop :=
  al H (Obj.cells #[x0_0, x0_1, x0_2] 23) (fun r1 H2 =>
  ld H2 (Addr.mk r1 0 none) (fun v3 =>
  ld H2 (Addr.mk r1 1 none) (fun v4 =>
  ld H2 (Addr.mk r1 2 none) (fun v5 =>
  HCalls Tryz.prog 110 #[Value.agg #[v3, v4, v5, Value.int IntKind.i64 0]] H2 (Sp.retK (fun v6 H7 =>
  dT 2 v6 (fun v8 v9 =>
  dSl v8 (fun p10 r11 r12 =>
  dInt IntKind.i64 v9 (fun n13 =>
  al H7 (Obj.cells #[Value.int IntKind.i64 0, Value.int IntKind.u8 0, Value.int IntKind.u8 0, Value.int IntKind.u8 0, Value.int IntKind.u8 0, Value.int IntKind.u8 0, Value.int IntKind.u8 0, Value.int IntKind.u8 0, Value.int IntKind.u8 0, Value.int IntKind.u8 0, Value.int IntKind.u8 0, Value.int IntKind.u8 0, Value.int IntKind.u8 0, Value.int IntKind.u8 0, Value.int IntKind.u8 0, Value.int IntKind.u8 0, Value.int IntKind.u8 0, Value.int IntKind.u8 0, Value.int IntKind.u8 0, Value.int IntKind.u8 0, Value.int IntKind.u8 0, Value.int IntKind.u8 0, Value.int IntKind.u8 0, Value.int IntKind.u8 0, Value.int IntKind.u8 0, Value.int IntKind.u8 0, Value.int IntKind.u8 0, Value.int IntKind.u8 0, Value.int IntKind.u8 0, Value.int IntKind.u8 0, Value.int IntKind.u8 0, Value.int IntKind.u8 0, Value.int IntKind.u8 0, Value.int IntKind.u8 0, Value.int IntKind.u8 0, Value.int IntKind.u8 0, Value.int IntKind.u8 0, Value.int IntKind.u8 0, Value.int IntKind.u8 0, Value.int IntKind.u8 0, Value.int IntKind.u8 0] 118) (fun r14 H15 =>
  st H15 (Addr.mk r14 0 none) (Value.int IntKind.i64 x1) (fun H16 =>
  st H16 (Addr.mk r14 1 none) (Value.int IntKind.u8 0) (fun H17 =>
  st H17 (Addr.mk r14 2 none) (Value.int IntKind.u8 0) (fun H18 =>
  st H18 (Addr.mk r14 3 none) (Value.int IntKind.u8 0) (fun H19 =>
  st H19 (Addr.mk r14 4 none) (Value.int IntKind.u8 0) (fun H20 =>
  st H20 (Addr.mk r14 5 none) (Value.int IntKind.u8 0) (fun H21 =>
  st H21 (Addr.mk r14 6 none) (Value.int IntKind.u8 0) (fun H22 =>
  st H22 (Addr.mk r14 7 none) (Value.int IntKind.u8 0) (fun H23 =>
  st H23 (Addr.mk r14 8 none) (Value.int IntKind.u8 0) (fun H24 =>
  st H24 (Addr.mk r14 9 none) (Value.int IntKind.u8 0) (fun H25 =>
  st H25 (Addr.mk r14 10 none) (Value.int IntKind.u8 0) (fun H26 =>
  st H26 (Addr.mk r14 11 none) (Value.int IntKind.u8 0) (fun H27 =>
  st H27 (Addr.mk r14 12 none) (Value.int IntKind.u8 0) (fun H28 =>
  st H28 (Addr.mk r14 13 none) (Value.int IntKind.u8 0) (fun H29 =>
  st H29 (Addr.mk r14 14 none) (Value.int IntKind.u8 0) (fun H30 =>
  st H30 (Addr.mk r14 15 none) (Value.int IntKind.u8 0) (fun H31 =>
  st H31 (Addr.mk r14 16 none) (Value.int IntKind.u8 0) (fun H32 =>
  st H32 (Addr.mk r14 17 none) (Value.int IntKind.u8 0) (fun H33 =>
  st H33 (Addr.mk r14 18 none) (Value.int IntKind.u8 0) (fun H34 =>
  st H34 (Addr.mk r14 19 none) (Value.int IntKind.u8 0) (fun H35 =>
  st H35 (Addr.mk r14 20 none) (Value.int IntKind.u8 0) (fun H36 =>
  st H36 (Addr.mk r14 21 none) (Value.int IntKind.u8 0) (fun H37 =>
  st H37 (Addr.mk r14 22 none) (Value.int IntKind.u8 0) (fun H38 =>
  st H38 (Addr.mk r14 23 none) (Value.int IntKind.u8 0) (fun H39 =>
  st H39 (Addr.mk r14 24 none) (Value.int IntKind.u8 0) (fun H40 =>
  st H40 (Addr.mk r14 25 none) (Value.int IntKind.u8 0) (fun H41 =>
  st H41 (Addr.mk r14 26 none) (Value.int IntKind.u8 0) (fun H42 =>
  st H42 (Addr.mk r14 27 none) (Value.int IntKind.u8 0) (fun H43 =>
  st H43 (Addr.mk r14 28 none) (Value.int IntKind.u8 0) (fun H44 =>
  st H44 (Addr.mk r14 29 none) (Value.int IntKind.u8 0) (fun H45 =>
  st H45 (Addr.mk r14 30 none) (Value.int IntKind.u8 0) (fun H46 =>
  st H46 (Addr.mk r14 31 none) (Value.int IntKind.u8 0) (fun H47 =>
  st H47 (Addr.mk r14 32 none) (Value.int IntKind.u8 0) (fun H48 =>
  st H48 (Addr.mk r14 33 none) (Value.int IntKind.u8 0) (fun H49 =>
  st H49 (Addr.mk r14 34 none) (Value.int IntKind.u8 0) (fun H50 =>
  st H50 (Addr.mk r14 35 none) (Value.int IntKind.u8 0) (fun H51 =>
  st H51 (Addr.mk r14 36 none) (Value.int IntKind.u8 0) (fun H52 =>
  st H52 (Addr.mk r14 37 none) (Value.int IntKind.u8 0) (fun H53 =>
  st H53 (Addr.mk r14 38 none) (Value.int IntKind.u8 0) (fun H54 =>
  st H54 (Addr.mk r14 39 none) (Value.int IntKind.u8 0) (fun H55 =>
  st H55 (Addr.mk r14 40 none) (Value.int IntKind.u8 0) (fun H56 =>
  ld H56 (Addr.mk r1 2 none) (fun v57 =>
  dInt IntKind.i64 v57 (fun n58 =>
  ask ((4 : Int) ≠ (0 : Int)) (wr IntKind.i64 (Int.tdiv n58 4) (fun n59 =>
  wr IntKind.i64 (2 + n59) (fun n60 =>
  ∃ I61 : List Value → Heap → Prop,
  ∃ I62 : List Value → Heap → Nat,
  (I61 ([Value.int IntKind.i64 0]) H56) ∧
  ∀ n63 : Int,
  ∀ v64 v65 v66 v67 v68 v69 v70 v71 v72 v73 v74 v75 v76 v77 v78 v79 v80 : Value,
  ∀ H81 : Heap,
  (I61 ([Value.int IntKind.i64 n63]) H81) →
  sB (decide (n63 < n60)) (ask ((0 : Int) ≤ (0 : Int) ∧ (0 : Int) ≤ (32 : Int) ∧ (32 : Int) ≤ (32 : Int) ∧ (32 : Int) ≤ (32 : Int)) (HCalls Tryz.prog 111 #[Value.slice (slO (some (Addr.mk r14 9 none)) 1 0 32) (Int.toNat 32 - Int.toNat 0) (Int.toNat 32 - Int.toNat 0), Value.int IntKind.i64 n63, Value.bool true] H81 (Sp.retK (fun v83 H84 =>
  dT 2 v83 (fun v85 v86 =>
  dSl v85 (fun p87 r88 r89 =>
  dInt IntKind.i64 v86 (fun n90 =>
  ask ((0 : Int) ≤ (0 : Int) ∧ (0 : Int) ≤ (32 : Int) ∧ (32 : Int) ≤ (32 : Int) ∧ (32 : Int) ≤ (32 : Int)) (semW Tryz.prog (Builtin.copy_ #[85, 85] 3 #[Value.slice (slO (some (Addr.mk r14 9 none)) 1 0 32) (Int.toNat 32 - Int.toNat 0) (Int.toNat 32 - Int.toNat 0), Value.slice p87 r88 r89]) (pnR R) H84 (fun v93 H94 =>
  dInt IntKind.i64 v93 (fun n95 =>
  wr IntKind.i64 (n63 + 1) (fun n96 =>
  (I61 ([Value.int IntKind.i64 n96]) H94) ∧
  (I62 [Value.int IntKind.i64 n96] H94) < (I62 [Value.int IntKind.i64 n63] H81))))))))) (pnR R)))) (jn (α := VFH 0) (fun H99 =>
  ∀ v100 v101 v102 v103 v104 v105 v106 v107 v108 v109 v110 v111 v112 v113 v114 v115 v116 v117 v118 v119 : Value,
  ld H99 (Addr.mk r14 0 none) (fun v120 =>
  ld H99 (Addr.mk r14 1 none) (fun v121 =>
  ld H99 (Addr.mk r14 2 none) (fun v122 =>
  ld H99 (Addr.mk r14 3 none) (fun v123 =>
  ld H99 (Addr.mk r14 4 none) (fun v124 =>
  ld H99 (Addr.mk r14 5 none) (fun v125 =>
  ld H99 (Addr.mk r14 6 none) (fun v126 =>
  ld H99 (Addr.mk r14 7 none) (fun v127 =>
  ld H99 (Addr.mk r14 8 none) (fun v128 =>
  ld H99 (Addr.mk r14 9 none) (fun v129 =>
  ld H99 (Addr.mk r14 10 none) (fun v130 =>
  ld H99 (Addr.mk r14 11 none) (fun v131 =>
  ld H99 (Addr.mk r14 12 none) (fun v132 =>
  ld H99 (Addr.mk r14 13 none) (fun v133 =>
  ld H99 (Addr.mk r14 14 none) (fun v134 =>
  ld H99 (Addr.mk r14 15 none) (fun v135 =>
  ld H99 (Addr.mk r14 16 none) (fun v136 =>
  ld H99 (Addr.mk r14 17 none) (fun v137 =>
  ld H99 (Addr.mk r14 18 none) (fun v138 =>
  ld H99 (Addr.mk r14 19 none) (fun v139 =>
  ld H99 (Addr.mk r14 20 none) (fun v140 =>
  ld H99 (Addr.mk r14 21 none) (fun v141 =>
  ld H99 (Addr.mk r14 22 none) (fun v142 =>
  ld H99 (Addr.mk r14 23 none) (fun v143 =>
  ld H99 (Addr.mk r14 24 none) (fun v144 =>
  ld H99 (Addr.mk r14 25 none) (fun v145 =>
  ld H99 (Addr.mk r14 26 none) (fun v146 =>
  ld H99 (Addr.mk r14 27 none) (fun v147 =>
  ld H99 (Addr.mk r14 28 none) (fun v148 =>
  ld H99 (Addr.mk r14 29 none) (fun v149 =>
  ld H99 (Addr.mk r14 30 none) (fun v150 =>
  ld H99 (Addr.mk r14 31 none) (fun v151 =>
  ld H99 (Addr.mk r14 32 none) (fun v152 =>
  ld H99 (Addr.mk r14 33 none) (fun v153 =>
  ld H99 (Addr.mk r14 34 none) (fun v154 =>
  ld H99 (Addr.mk r14 35 none) (fun v155 =>
  ld H99 (Addr.mk r14 36 none) (fun v156 =>
  ld H99 (Addr.mk r14 37 none) (fun v157 =>
  ld H99 (Addr.mk r14 38 none) (fun v158 =>
  ld H99 (Addr.mk r14 39 none) (fun v159 =>
  ld H99 (Addr.mk r14 40 none) (fun v160 =>
  HCalls Tryz.prog 112 #[Value.agg #[v120, v121, v122, v123, v124, v125, v126, v127, v128, v129, v130, v131, v132, v133, v134, v135, v136, v137, v138, v139, v140, v141, v142, v143, v144, v145, v146, v147, v148, v149, v150, v151, v152, v153, v154, v155, v156, v157, v158, v159, v160]] H99 (Sp.retK (fun v161 H162 =>
  dT 2 v161 (fun v163 v164 =>
  dSl v163 (fun p165 r166 r167 =>
  dInt IntKind.i64 v164 (fun n168 =>
  al H162 (Obj.cells #[Value.slice p10 r11 r12, Value.slice p165 r166 r167] 85) (fun r169 H170 =>
  ∃ I171 : List Value → Heap → Prop,
  ∃ I172 : List Value → Heap → Nat,
  (I171 ([Value.slice (some (Addr.mk r169 0 none)) 2 2]) H170) ∧
  ∀ p173 : Option Addr,
  ∀ r174 : Nat,
  ∀ r175 : Nat,
  ∀ v176 v177 v178 v179 v180 v181 v182 v183 v184 : Value,
  ∀ H185 : Heap,
  (I171 ([Value.slice p173 r174 r175]) H185) →
  ld H185 (Addr.mk r1 1 none) (fun v187 =>
  dInt IntKind.i64 v187 (fun n188 =>
  sB (decide ((↑r174 : Int) < n188)) (ask ((0 : Int) ≤ (128 : Int) ∧ (128 : Int) ≤ (128 : Int) ∧ (128 : Int) ≤ (281474976710656 : Int) ∧ (128 : Int) ≤ (9223372036854775807 : Int)) (al H185 (Obj.cells (List.toArray (rowZ [Value.int IntKind.u8 0] (Int.toNat 128))) 5) (fun r189 H190 =>
  al H190 (Obj.cells #[Value.slice (some (Addr.mk r189 0 none)) (Int.toNat 128) (Int.toNat 128)] 85) (fun r191 H192 =>
  semW Tryz.prog (Builtin.append_ #[49, 49] 49 #[Value.slice p173 r174 r175, Value.slice (some (Addr.mk r191 0 none)) 1 1]) (pnR R) H192 (fun v195 H196 =>
  dSl v195 (fun p197 r198 r199 =>
  (I171 ([Value.slice p197 r198 r199]) H196) ∧
  (I172 [Value.slice p197 r198 r199] H196) < (I172 [Value.slice p173 r174 r175] H185))))))) (R (Ending.returned (Value.slice p173 r174 r175)) H185)))))))) (pnR R)))))))))))))))))))))))))))))))))))))))))))) (fun k202 =>
  sB (x1 == 0) (ask ((0 : Int) ≤ (0 : Int) ∧ (0 : Int) ≤ (32 : Int) ∧ (32 : Int) ≤ (32 : Int) ∧ (32 : Int) ≤ (32 : Int)) (ld H81 (Addr.mk r1 2 none) (fun v203 =>
  dInt IntKind.i64 v203 (fun n204 =>
  ask ((4 : Int) ≠ (0 : Int)) (wr IntKind.i64 (Int.tdiv n204 4) (fun n205 =>
  wr IntKind.i64 (2 + n205) (fun n206 =>
  HCalls Tryz.prog 111 #[Value.slice (slO (some (Addr.mk r14 9 none)) 1 0 32) (Int.toNat 32 - Int.toNat 0) (Int.toNat 32 - Int.toNat 0), Value.int IntKind.i64 n206, Value.bool true] H81 (Sp.retK (fun v207 H208 =>
  dT 2 v207 (fun v209 v210 =>
  dSl v209 (fun p211 r212 r213 =>
  dInt IntKind.i64 v210 (fun n214 =>
  ask ((0 : Int) ≤ (0 : Int) ∧ (0 : Int) ≤ (32 : Int) ∧ (32 : Int) ≤ (32 : Int) ∧ (32 : Int) ≤ (32 : Int)) (semW Tryz.prog (Builtin.copy_ #[85, 85] 3 #[Value.slice (slO (some (Addr.mk r14 9 none)) 1 0 32) (Int.toNat 32 - Int.toNat 0) (Int.toNat 32 - Int.toNat 0), Value.slice p211 r212 r213]) (pnR R) H208 (fun v217 H218 =>
  dInt IntKind.i64 v217 (fun n219 =>
  ask ((0 : Int) ≤ (0 : Int) ∧ (0 : Int) < (8 : Int)) (st H218 (Addr.add (Addr.mk r14 1 none) (Int.toNat 0 * 1)) (Value.int IntKind.u8 7) (fun H220 =>
  k202 H220))))))))) nopR)))))))) (k202 H81)))))))))))))))))))))))))))))))))))))))))))))))))))))) (pnR R))))))
theorem F53_eq (x0_0 : Value) (x0_1 : Value) (x0_2 : Value) (x1 : Int) (R : Ending → Heap → Prop) (H : Heap) : F53 x0_0 x0_1 x0_2 x1 R H = vc Tryz.prog (codeOf Tryz.f53) (.node none .leaf (.node none .leaf (.node none .leaf (.node none (.node none .leaf (.node none (.node (some ⟨[(28, 3)], [8, 9, 10, 29, 30, 31, 32, 33, 34, 35, 36, 37, 38, 39, 40, 41, 42]⟩) .leaf .leaf) .leaf)) (.node (some ⟨[], [11, 12, 43, 44, 45, 46, 47, 48, 49, 50, 51, 52, 53, 54, 55, 56, 57, 58, 59, 60]⟩) .leaf (.node none .leaf (.node none .leaf (.node none (.node none (.node (some ⟨[(15, 49)], [69, 70, 71, 72, 73, 74, 75, 76, 77]⟩) .leaf .leaf) .leaf) .leaf)))))))) (postV Tryz.prog Tryz.f53 R) ⟨#[Value.agg #[x0_0, x0_1, x0_2], Value.int IntKind.i64 x1] ++ Array.replicate (Tryz.f53.ntmps - 2) undef, []⟩ H := by kernel_rfl
theorem F53_calls {R : Ending → Heap → Prop} {H : Heap} (x0_0 : Value) (x0_1 : Value) (x0_2 : Value) (x1 : Int) (h : F53 x0_0 x0_1 x0_2 x1 R H) : HCalls Tryz.prog 53 #[Value.agg #[x0_0, x0_1, x0_2], Value.int IntKind.i64 x1] H R :=
  calls_by (F := F53 x0_0 x0_1 x0_2 x1 R H) (.node none .leaf (.node none .leaf (.node none .leaf (.node none (.node none .leaf (.node none (.node (some ⟨[(28, 3)], [8, 9, 10, 29, 30, 31, 32, 33, 34, 35, 36, 37, 38, 39, 40, 41, 42]⟩) .leaf .leaf) .leaf)) (.node (some ⟨[], [11, 12, 43, 44, 45, 46, 47, 48, 49, 50, 51, 52, 53, 54, 55, 56, 57, 58, 59, 60]⟩) .leaf (.node none .leaf (.node none .leaf (.node none (.node none (.node (some ⟨[(15, 49)], [69, 70, 71, 72, 73, 74, 75, 76, 77]⟩) .leaf .leaf) .leaf) .leaf)))))))) Tryz.func53 rfl (F53_eq x0_0 x0_1 x0_2 x1 R H) h
/-- bollard/bollardref12.Encode -/
def F54 (x0a : Option Addr) (x0n : Nat) (x0c : Nat) (R : Ending → Heap → Prop) (H : Heap) : Prop :=
  jn (α := VFH 1) (fun v1 H2 =>
  ∀ v3 v4 v5 v6 v7 v8 : Value,
  dBl v1 (fun b9 =>
  sB b9 (R (Ending.returned (Value.tuple #[Value.slice none 0 0, Value.int IntKind.i64 1])) H2) (∃ I10 : List Value → Heap → Prop,
  ∃ I11 : List Value → Heap → Nat,
  (I10 ([Value.slice none 0 0, Value.int IntKind.i64 0]) H2) ∧
  ∀ p12 : Option Addr,
  ∀ r13 : Nat,
  ∀ r14 : Nat,
  ∀ n15 : Int,
  ∀ v16 v17 v18 v19 v20 v21 v22 v23 v24 v25 v26 v27 v28 v29 v30 v31 v32 v33 v34 : Value,
  ∀ H35 : Heap,
  (I10 ([Value.slice p12 r13 r14, Value.int IntKind.i64 n15]) H35) →
  sB (decide (n15 < (↑x0n : Int))) (nz x0a (fun a37 =>
  ask ((0 : Int) ≤ n15 ∧ n15 < (↑x0n : Int)) (ld H35 (Addr.add a37 (Int.toNat n15 * 2)) (fun v38 =>
  ld H35 (Addr.add (Addr.add a37 (Int.toNat n15 * 2)) 1) (fun v39 =>
  al H35 (Obj.cells #[Value.int IntKind.i64 0, Value.string (ByteArray.mk #[])] 129) (fun r40 H41 =>
  st H41 (Addr.mk r40 0 none) v38 (fun H42 =>
  st H42 (Addr.mk r40 1 none) v39 (fun H43 =>
  ld H43 (Addr.mk r40 0 none) (fun v44 =>
  ld H43 (Addr.mk r40 1 none) (fun v45 =>
  HCalls Tryz.prog 114 #[Value.agg #[v44, v45]] H43 (Sp.retK (fun v46 H47 =>
  dT 2 v46 (fun v48 v49 =>
  dSl v48 (fun p50 r51 r52 =>
  dInt IntKind.i64 v49 (fun n53 =>
  sB (n53 != 0) (R (Ending.returned (Value.tuple #[Value.slice none 0 0, Value.int IntKind.i64 1])) H47) (semW Tryz.prog (Builtin.append_ #[85, 85] 85 #[Value.slice p12 r13 r14, Value.slice p50 r51 r52]) (pnR R) H47 (fun v56 H57 =>
  dSl v56 (fun p58 r59 r60 =>
  wr IntKind.i64 (n15 + 1) (fun n61 =>
  (I10 ([Value.slice p58 r59 r60, Value.int IntKind.i64 n61]) H57) ∧
  (I11 [Value.slice p58 r59 r60, Value.int IntKind.i64 n61] H57) < (I11 [Value.slice p12 r13 r14, Value.int IntKind.i64 n15] H35))))))))) (pnR R)))))))))))) (wr IntKind.i64 (128 - (↑r13 : Int)) (fun n64 =>
  semW Tryz.prog (Builtin.append_ #[85, 3] 85 #[Value.slice p12 r13 r14, Value.int IntKind.i64 n64]) (pnR R) H35 (fun v67 H68 =>
  dSl v67 (fun p69 r70 r71 =>
  R (Ending.returned (Value.tuple #[Value.slice p69 r70 r71, Value.int IntKind.i64 0])) H68))))))) (fun k72 =>
  sB (decide ((↑x0n : Int) > 8)) (k72 (Value.bool true) H) (HCalls Tryz.prog 113 #[Value.slice x0a x0n x0c] H (Sp.retK (fun v73 H74 =>
  dBl v73 (fun b75 =>
  k72 (Value.bool b75) H74)) (pnR R))))
theorem F54_eq (x0a : Option Addr) (x0n : Nat) (x0c : Nat) (R : Ending → Heap → Prop) (H : Heap) : F54 x0a x0n x0c R H = vc Tryz.prog (codeOf Tryz.f54) (.node none .leaf (.node none (.node (some ⟨[(15, 4)], [9, 10, 11, 12, 13, 14]⟩) .leaf .leaf) (.node none .leaf (.node none (.node none .leaf (.node none (.node (some ⟨[(4, 85), (18, 3)], [2, 3, 6, 7, 8, 19, 20, 21, 22, 23, 24, 25, 26, 27, 28, 29, 30, 31, 32]⟩) .leaf .leaf) .leaf)) .leaf)))) (postV Tryz.prog Tryz.f54 R) ⟨#[Value.slice x0a x0n x0c] ++ Array.replicate (Tryz.f54.ntmps - 1) undef, []⟩ H := by kernel_rfl
theorem F54_calls {R : Ending → Heap → Prop} {H : Heap} (x0a : Option Addr) (x0n : Nat) (x0c : Nat) (h : F54 x0a x0n x0c R H) : HCalls Tryz.prog 54 #[Value.slice x0a x0n x0c] H R :=
  calls_by (F := F54 x0a x0n x0c R H) (.node none .leaf (.node none (.node (some ⟨[(15, 4)], [9, 10, 11, 12, 13, 14]⟩) .leaf .leaf) (.node none .leaf (.node none (.node none .leaf (.node none (.node (some ⟨[(4, 85), (18, 3)], [2, 3, 6, 7, 8, 19, 20, 21, 22, 23, 24, 25, 26, 27, 28, 29, 30, 31, 32]⟩) .leaf .leaf) .leaf)) .leaf)))) Tryz.func54 rfl (F54_eq x0a x0n x0c R H) h
/-- bollard/disk.Of -/
def F55 (x0a : Option Addr) (x0n : Nat) (x0c : Nat) (R : Ending → Heap → Prop) (H : Heap) : Prop :=
  jn (α := VFH 1) (fun v1 H2 =>
  ∀ v3 v4 v5 v6 v7 v8 v9 v10 v11 v12 v13 v14 : Value,
  dBl v1 (fun b15 =>
  sB b15 (R (Ending.returned (Value.tuple #[Value.pointer none, Value.int IntKind.i64 1])) H2) (HCalls Tryz.prog 117 #[Value.slice x0a x0n x0c] H2 (Sp.retK (fun v16 H17 =>
  dSl v16 (fun p18 r19 r20 =>
  al H17 (Obj.map #[] 0) (fun r21 H22 =>
  al H22 (Obj.cells #[Value.slice p18 r19 r20, Value.slice none 0 0, Value.map (some r21), Value.int IntKind.i64 0] 192) (fun r23 H24 =>
  R (Ending.returned (Value.tuple #[Value.pointer (some (Addr.mk r23 0 none)), Value.int IntKind.i64 0])) H24)))) (pnR R))))) (fun k27 =>
  sB (decide ((↑x0n : Int) < 1)) (k27 (Value.bool true) H) (sB (decide ((↑x0n : Int) > 2048)) (k27 (Value.bool true) H) (HCalls Tryz.prog 116 #[Value.slice x0a x0n x0c, Value.func (Fn.func 115) #[] #[]] H (Sp.retK (fun v28 H29 =>
  dBl v28 (fun b30 =>
  k27 (Value.bool b30) H29)) (pnR R)))))
theorem F55_eq (x0a : Option Addr) (x0n : Nat) (x0c : Nat) (R : Ending → Heap → Prop) (H : Heap) : F55 x0a x0n x0c R H = vc Tryz.prog (codeOf Tryz.f55) (.node none .leaf (.node none .leaf (.node none (.node (some ⟨[(17, 4)], [5, 6, 7, 8, 9, 10, 11, 12, 13, 14, 15, 16]⟩) .leaf .leaf) .leaf))) (postV Tryz.prog Tryz.f55 R) ⟨#[Value.slice x0a x0n x0c] ++ Array.replicate (Tryz.f55.ntmps - 1) undef, []⟩ H := by kernel_rfl
theorem F55_calls {R : Ending → Heap → Prop} {H : Heap} (x0a : Option Addr) (x0n : Nat) (x0c : Nat) (h : F55 x0a x0n x0c R H) : HCalls Tryz.prog 55 #[Value.slice x0a x0n x0c] H R :=
  calls_by (F := F55 x0a x0n x0c R H) (.node none .leaf (.node none .leaf (.node none (.node (some ⟨[(17, 4)], [5, 6, 7, 8, 9, 10, 11, 12, 13, 14, 15, 16]⟩) .leaf .leaf) .leaf))) Tryz.func55 rfl (F55_eq x0a x0n x0c R H) h
/-- bollard/bollardplain.Image -/
def F56 (x0a : Option Addr) (x0n : Nat) (x0c : Nat) (R : Ending → Heap → Prop) (H : Heap) : Prop :=
  ∃ I1 : List Value → Heap → Prop,
  ∃ I2 : List Value → Heap → Nat,
  (I1 ([Value.slice none 0 0, Value.int IntKind.i64 0]) H) ∧
  ∀ p3 : Option Addr,
  ∀ r4 : Nat,
  ∀ r5 : Nat,
  ∀ n6 : Int,
  ∀ v7 v8 v9 v10 v11 v12 v13 v14 v15 v16 : Value,
  ∀ H17 : Heap,
  (I1 ([Value.slice p3 r4 r5, Value.int IntKind.i64 n6]) H17) →
  sB (decide (n6 < (↑x0n : Int))) (nz x0a (fun a19 =>
  ask ((0 : Int) ≤ n6 ∧ n6 < (↑x0n : Int)) (ld H17 (Addr.add a19 (Int.toNat n6 * 1)) (fun v20 =>
  dSl v20 (fun p21 r22 r23 =>
  HCalls Tryz.prog 118 #[Value.slice p21 r22 r23] H17 (Sp.retK (fun v24 H25 =>
  dSl v24 (fun p26 r27 r28 =>
  al H25 (Obj.cells #[Value.slice p26 r27 r28] 85) (fun r29 H30 =>
  semW Tryz.prog (Builtin.append_ #[49, 49] 49 #[Value.slice p3 r4 r5, Value.slice (some (Addr.mk r29 0 none)) 1 1]) (pnR R) H30 (fun v33 H34 =>
  dSl v33 (fun p35 r36 r37 =>
  wr IntKind.i64 (n6 + 1) (fun n38 =>
  (I1 ([Value.slice p35 r36 r37, Value.int IntKind.i64 n38]) H34) ∧
  (I2 [Value.slice p35 r36 r37, Value.int IntKind.i64 n38] H34) < (I2 [Value.slice p3 r4 r5, Value.int IntKind.i64 n6] H17))))))) (pnR R))))))) (R (Ending.returned (Value.slice p3 r4 r5)) H17)
theorem F56_eq (x0a : Option Addr) (x0n : Nat) (x0c : Nat) (R : Ending → Heap → Prop) (H : Heap) : F56 x0a x0n x0c R H = vc Tryz.prog (codeOf Tryz.f56) (.node none .leaf (.node none .leaf (.node none (.node none .leaf (.node none (.node (some ⟨[(3, 49), (8, 3)], [5, 9, 10, 11, 12, 13, 14, 15, 16, 17]⟩) .leaf .leaf) .leaf)) .leaf))) (postV Tryz.prog Tryz.f56 R) ⟨#[Value.slice x0a x0n x0c] ++ Array.replicate (Tryz.f56.ntmps - 1) undef, []⟩ H := by kernel_rfl
theorem F56_calls {R : Ending → Heap → Prop} {H : Heap} (x0a : Option Addr) (x0n : Nat) (x0c : Nat) (h : F56 x0a x0n x0c R H) : HCalls Tryz.prog 56 #[Value.slice x0a x0n x0c] H R :=
  calls_by (F := F56 x0a x0n x0c R H) (.node none .leaf (.node none .leaf (.node none (.node none .leaf (.node none (.node (some ⟨[(3, 49), (8, 3)], [5, 9, 10, 11, 12, 13, 14, 15, 16, 17]⟩) .leaf .leaf) .leaf)) .leaf))) Tryz.func56 rfl (F56_eq x0a x0n x0c R H) h
/-- bollard/bollardref02.Of -/
def F57 (x0a : Option Addr) (x0n : Nat) (x0c : Nat) (R : Ending → Heap → Prop) (H : Heap) : Prop :=
  jn (α := VFH 1) (fun v1 H2 =>
  ∀ v3 v4 v5 v6 v7 v8 v9 : Value,
  dBl v1 (fun b10 =>
  sB b10 (R (Ending.returned (Value.tuple #[Value.pointer none, Value.int IntKind.i64 1])) H2) (ask ((0 : Int) ≤ (↑x0n : Int) ∧ (↑x0n : Int) ≤ (↑x0n : Int) ∧ (8 : Int) * (↑x0n : Int) ≤ (281474976710656 : Int) ∧ (↑x0n : Int) ≤ (9223372036854775807 : Int)) (al H2 (Obj.cells (List.toArray (rowZ [Value.int IntKind.i64 0] (Int.toNat (↑x0n : Int)))) 3) (fun r11 H12 =>
  al H12 (Obj.cells #[Value.slice none 0 0, Value.slice none 0 0, Value.slice (some (Addr.mk r11 0 none)) (Int.toNat (↑x0n : Int)) (Int.toNat (↑x0n : Int)), Value.int IntKind.i64 0] 195) (fun r13 H14 =>
  ∃ I15 : List Value → Heap → Prop,
  ∃ I16 : List Value → Heap → Nat,
  (I15 ([Value.int IntKind.i64 0]) H14) ∧
  ∀ n17 : Int,
  ∀ v18 v19 v20 v21 v22 v23 v24 v25 v26 v27 v28 v29 v30 v31 v32 v33 v34 v35 v36 v37 v38 : Value,
  ∀ H39 : Heap,
  (I15 ([Value.int IntKind.i64 n17]) H39) →
  sB (decide (n17 < (↑x0n : Int))) (nz x0a (fun a41 =>
  ask ((0 : Int) ≤ n17 ∧ n17 < (↑x0n : Int)) (ld H39 (Addr.add a41 (Int.toNat n17 * 1)) (fun v42 =>
  dSl v42 (fun p43 r44 r45 =>
  sB ((↑r44 : Int) != 128) (R (Ending.returned (Value.tuple #[Value.pointer none, Value.int IntKind.i64 1])) H39) (ld H39 (Addr.mk r13 0 none) (fun v46 =>
  dSl v46 (fun p47 r48 r49 =>
  HCalls Tryz.prog 119 #[Value.slice p43 r44 r45] H39 (Sp.retK (fun v50 H51 =>
  dSl v50 (fun p52 r53 r54 =>
  (ld H51 (Addr.mk r13 0 none) (fun v55 =>
  dSl v55 (fun p56 r57 r58 =>
  (Value.slice p56 r57 r58) = (Value.slice p47 r48 r49)))) ∧
  al H51 (Obj.cells #[Value.slice p52 r53 r54] 85) (fun r59 H60 =>
  (ld H60 (Addr.mk r13 0 none) (fun v61 =>
  dSl v61 (fun p62 r63 r64 =>
  (Value.slice p62 r63 r64) = (Value.slice p47 r48 r49)))) ∧
  semW Tryz.prog (Builtin.append_ #[49, 49] 49 #[Value.slice p47 r48 r49, Value.slice (some (Addr.mk r59 0 none)) 1 1]) nopR H60 (fun v67 H68 =>
  dSl v67 (fun p69 r70 r71 =>
  st H68 (Addr.mk r13 0 none) (Value.slice p69 r70 r71) (fun H72 =>
  wr IntKind.i64 (n17 + 1) (fun n73 =>
  (I15 ([Value.int IntKind.i64 n73]) H72) ∧
  (I16 [Value.int IntKind.i64 n73] H72) < (I16 [Value.int IntKind.i64 n17] H39)))))))) nopR))))))))) (R (Ending.returned (Value.tuple #[Value.pointer (some (Addr.mk r13 0 none)), Value.int IntKind.i64 0])) H39))))))) (fun k76 =>
  sB (decide ((↑x0n : Int) < 1)) (k76 (Value.bool true) H) (k76 (Value.bool (decide ((↑x0n : Int) > 2048))) H))
theorem F57_eq (x0a : Option Addr) (x0n : Nat) (x0c : Nat) (R : Ending → Heap → Prop) (H : Heap) : F57 x0a x0n x0c R H = vc Tryz.prog (codeOf Tryz.f57) (.node none .leaf (.node none (.node (some ⟨[(14, 4)], [7, 8, 9, 10, 11, 12, 13]⟩) .leaf .leaf) (.node none .leaf (.node none (.node none .leaf (.node none (.node (some ⟨[(22, 3)], [2, 3, 6, 23, 24, 25, 26, 27, 28, 29, 30, 31, 32, 33, 34, 35, 36, 37, 38, 39, 40]⟩) .leaf .leaf) .leaf)) .leaf)))) (postV Tryz.prog Tryz.f57 R) ⟨#[Value.slice x0a x0n x0c] ++ Array.replicate (Tryz.f57.ntmps - 1) undef, []⟩ H := by kernel_rfl
theorem F57_calls {R : Ending → Heap → Prop} {H : Heap} (x0a : Option Addr) (x0n : Nat) (x0c : Nat) (h : F57 x0a x0n x0c R H) : HCalls Tryz.prog 57 #[Value.slice x0a x0n x0c] H R :=
  calls_by (F := F57 x0a x0n x0c R H) (.node none .leaf (.node none (.node (some ⟨[(14, 4)], [7, 8, 9, 10, 11, 12, 13]⟩) .leaf .leaf) (.node none .leaf (.node none (.node none .leaf (.node none (.node (some ⟨[(22, 3)], [2, 3, 6, 23, 24, 25, 26, 27, 28, 29, 30, 31, 32, 33, 34, 35, 36, 37, 38, 39, 40]⟩) .leaf .leaf) .leaf)) .leaf)))) Tryz.func57 rfl (F57_eq x0a x0n x0c R H) h
/-- bollard/volume.Open -/
def F58 (x0 : Option Addr) (x1 : Int) (R : Ending → Heap → Prop) (H : Heap) : Prop :=
  HCalls Tryz.prog 120 #[Value.pointer x0, Value.int IntKind.i64 x1] H (Sp.retK (fun v1 H2 =>
  dT 2 v1 (fun v3 v4 =>
  dPtr v3 (fun p5 =>
  dInt IntKind.i64 v4 (fun n6 =>
  sB (n6 != 0) (R (Ending.returned (Value.tuple #[Value.pointer none, Value.int IntKind.i64 n6])) H2) (HCalls Tryz.prog 121 #[] H2 (Sp.retK (fun v7 H8 =>
  dPtr v7 (fun p9 =>
  al H8 (Obj.map #[] 0) (fun r10 H11 =>
  al H11 (Obj.cells #[Value.int IntKind.i32 0, Value.int IntKind.u32 0, Value.pointer x0, Value.pointer p5, Value.pointer p9, Value.map (some r10), Value.bool false, Value.bool false, Value.int IntKind.i64 0, Value.map none] 76) (fun r12 H13 =>
  R (Ending.returned (Value.tuple #[Value.pointer (some (Addr.mk r12 0 none)), Value.int IntKind.i64 0])) H13)))) (pnR R))))))) (pnR R))
theorem F58_eq (x0 : Option Addr) (x1 : Int) (R : Ending → Heap → Prop) (H : Heap) : F58 x0 x1 R H = vc Tryz.prog (codeOf Tryz.f58) .leaf (postV Tryz.prog Tryz.f58 R) ⟨#[Value.pointer x0, Value.int IntKind.i64 x1] ++ Array.replicate (Tryz.f58.ntmps - 2) undef, []⟩ H := by kernel_rfl
theorem F58_calls {R : Ending → Heap → Prop} {H : Heap} (x0 : Option Addr) (x1 : Int) (h : F58 x0 x1 R H) : HCalls Tryz.prog 58 #[Value.pointer x0, Value.int IntKind.i64 x1] H R :=
  calls_by (F := F58 x0 x1 R H) .leaf Tryz.func58 rfl (F58_eq x0 x1 R H) h
/-- bollard/bollardref09.Open -/
def F59 (x0 : Option Addr) (x1 : Int) (R : Ending → Heap → Prop) (H : Heap) : Prop :=
  sB (Option.isNone x0) (R (Ending.returned (Value.tuple #[Value.pointer none, Value.int IntKind.i64 2])) H) (HCalls Tryz.prog 122 #[Value.pointer x0, Value.int IntKind.i64 x1] H (Sp.retK (fun v1 H2 =>
  dT 2 v1 (fun v3 v4 =>
  dPtr v3 (fun p5 =>
  dInt IntKind.i64 v4 (fun n6 =>
  sB (n6 != 0) (R (Ending.returned (Value.tuple #[Value.pointer none, Value.int IntKind.i64 n6])) H2) (al H2 (Obj.cells #[Value.slice none 0 0, Value.int IntKind.i64 0] 203) (fun r7 H8 =>
  al H8 (Obj.cells #[Value.pointer x0, Value.pointer p5, Value.pointer (some (Addr.mk r7 0 none)), Value.slice none 0 0, Value.bool false, Value.bool false, Value.int IntKind.i64 0, Value.slice none 0 0] 163) (fun r9 H10 =>
  R (Ending.returned (Value.tuple #[Value.pointer (some (Addr.mk r9 0 none)), Value.int IntKind.i64 0])) H10))))))) (pnR R)))
theorem F59_eq (x0 : Option Addr) (x1 : Int) (R : Ending → Heap → Prop) (H : Heap) : F59 x0 x1 R H = vc Tryz.prog (codeOf Tryz.f59) .leaf (postV Tryz.prog Tryz.f59 R) ⟨#[Value.pointer x0, Value.int IntKind.i64 x1] ++ Array.replicate (Tryz.f59.ntmps - 2) undef, []⟩ H := by kernel_rfl
theorem F59_calls {R : Ending → Heap → Prop} {H : Heap} (x0 : Option Addr) (x1 : Int) (h : F59 x0 x1 R H) : HCalls Tryz.prog 59 #[Value.pointer x0, Value.int IntKind.i64 x1] H R :=
  calls_by (F := F59 x0 x1 R H) .leaf Tryz.func59 rfl (F59_eq x0 x1 R H) h
/-- bollard/geom.Inode -/
def F60 (x0_0 : Value) (x0_1 : Value) (x0_2 : Value) (x1 : Int) (R : Ending → Heap → Prop) (H : Heap) : Prop :=
  al H (Obj.cells #[x0_0, x0_1, x0_2] 23) (fun r1 H2 =>
  ld H2 (Addr.mk r1 0 none) (fun v3 =>
  ld H2 (Addr.mk r1 1 none) (fun v4 =>
  ld H2 (Addr.mk r1 2 none) (fun v5 =>
  HCalls Tryz.prog 33 #[Value.agg #[v3, v4, v5], Value.int IntKind.i64 x1] H2 (Sp.retK (fun v6 H7 =>
  dT 3 v6 (fun v8 v9 v10 =>
  dInt IntKind.i64 v8 (fun n11 =>
  dInt IntKind.i64 v9 (fun n12 =>
  dBl v10 (fun b13 =>
  sB (!b13) (R (Ending.returned (Value.tuple #[Value.int IntKind.i64 0, Value.int IntKind.i64 0, Value.bool false])) H7) (ld H7 (Addr.mk r1 0 none) (fun v14 =>
  ld H7 (Addr.mk r1 1 none) (fun v15 =>
  ld H7 (Addr.mk r1 2 none) (fun v16 =>
  ask ((4 : Int) ≠ (0 : Int)) (wr IntKind.i64 (Int.tdiv n12 4) (fun n17 =>
  wr IntKind.i64 (2 + n17) (fun n18 =>
  HCalls Tryz.prog 101 #[Value.agg #[v14, v15, v16], Value.int IntKind.i64 n11, Value.int IntKind.i64 n18] H7 (Sp.retK (fun v19 H20 =>
  dT 2 v19 (fun v21 v22 =>
  dInt IntKind.i64 v21 (fun n23 =>
  dBl v22 (fun b24 =>
  ask ((4 : Int) ≠ (0 : Int)) (nm (Int.tmod n12 4) (fun n25 =>
  wr IntKind.i64 (n25 * 32) (fun n26 =>
  R (Ending.returned (Value.tuple #[Value.int IntKind.i64 n23, Value.int IntKind.i64 n26, Value.bool true])) H20))))))) (pnR R)))))))))))))) (pnR R))))))
theorem F60_eq (x0_0 : Value) (x0_1 : Value) (x0_2 : Value) (x1 : Int) (R : Ending → Heap → Prop) (H : Heap) : F60 x0_0 x0_1 x0_2 x1 R H = vc Tryz.prog (codeOf Tryz.f60) .leaf (postV Tryz.prog Tryz.f60 R) ⟨#[Value.agg #[x0_0, x0_1, x0_2], Value.int IntKind.i64 x1] ++ Array.replicate (Tryz.f60.ntmps - 2) undef, []⟩ H := by kernel_rfl
theorem F60_calls {R : Ending → Heap → Prop} {H : Heap} (x0_0 : Value) (x0_1 : Value) (x0_2 : Value) (x1 : Int) (h : F60 x0_0 x0_1 x0_2 x1 R H) : HCalls Tryz.prog 60 #[Value.agg #[x0_0, x0_1, x0_2], Value.int IntKind.i64 x1] H R :=
  calls_by (F := F60 x0_0 x0_1 x0_2 x1 R H) .leaf Tryz.func60 rfl (F60_eq x0_0 x0_1 x0_2 x1 R H) h
/-- (*bollard/volume.Volume).held -/
def F61 (x0 : Option Addr) (R : Ending → Heap → Prop) (H : Heap) : Prop :=
  sB (Option.isNone x0) (R (Ending.returned (Value.bool false)) H) (nz x0 (fun a1 =>
  HCalls Tryz.prog 123 #[Value.pointer (some a1)] H (Sp.retK (fun v2 H3 =>
  nz x0 (fun a4 =>
  ld H3 (Addr.add a4 2) (fun v5 =>
  dPtr v5 (fun p6 =>
  sB (Option.isNone p6) (nz x0 (fun a7 =>
  HCalls Tryz.prog 62 #[Value.pointer (some a7)] H3 (Sp.retK (fun v8 H9 =>
  R (Ending.returned (Value.bool false)) H9) (pnR R)))) (R (Ending.returned (Value.bool true)) H3))))) (pnR R))))
theorem F61_eq (x0 : Option Addr) (R : Ending → Heap → Prop) (H : Heap) : F61 x0 R H = vc Tryz.prog (codeOf Tryz.f61) .leaf (postV Tryz.prog Tryz.f61 R) ⟨#[Value.pointer x0] ++ Array.replicate (Tryz.f61.ntmps - 1) undef, []⟩ H := by kernel_rfl
theorem F61_calls {R : Ending → Heap → Prop} {H : Heap} (x0 : Option Addr) (h : F61 x0 R H) : HCalls Tryz.prog 61 #[Value.pointer x0] H R :=
  calls_by (F := F61 x0 R H) .leaf Tryz.func61 rfl (F61_eq x0 R H) h
/-- (*bollard/volume.Volume).read -/
def F63 (x0 : Option Addr) (x1 : Int) (R : Ending → Heap → Prop) (H : Heap) : Prop :=
  HCalls Tryz.prog 75 #[Value.pointer x0, Value.int IntKind.i64 x1] H (Sp.retK (fun v1 H2 =>
  dBl v1 (fun b3 =>
  sB (!b3) (R (Ending.returned (Value.tuple #[Value.slice none 0 0, Value.int IntKind.i64 90])) H2) (nz x0 (fun a4 =>
  ld H2 (Addr.add a4 3) (fun v5 =>
  dPtr v5 (fun p6 =>
  HCalls Tryz.prog 125 #[Value.pointer p6, Value.int IntKind.i64 x1] H2 (Sp.retK (fun v7 H8 =>
  dT 2 v7 (fun v9 v10 =>
  dSl v9 (fun p11 r12 r13 =>
  dInt IntKind.i64 v10 (fun n14 =>
  sB (n14 != 0) (R (Ending.returned (Value.tuple #[Value.slice none 0 0, Value.int IntKind.i64 n14])) H8) (nz x0 (fun a15 =>
  ld H8 (Addr.add a15 4) (fun v16 =>
  dPtr v16 (fun p17 =>
  HCalls Tryz.prog 126 #[Value.pointer p17, Value.int IntKind.i64 x1, Value.slice p11 r12 r13] H8 (Sp.retK (fun v18 H19 =>
  dT 2 v18 (fun v20 v21 =>
  dSl v20 (fun p22 r23 r24 =>
  dInt IntKind.i64 v21 (fun n25 =>
  R (Ending.returned (Value.tuple #[Value.slice p22 r23 r24, Value.int IntKind.i64 n25])) H19)))) (pnR R)))))))))) (pnR R)))))))) (pnR R))
theorem F63_eq (x0 : Option Addr) (x1 : Int) (R : Ending → Heap → Prop) (H : Heap) : F63 x0 x1 R H = vc Tryz.prog (codeOf Tryz.f63) .leaf (postV Tryz.prog Tryz.f63 R) ⟨#[Value.pointer x0, Value.int IntKind.i64 x1] ++ Array.replicate (Tryz.f63.ntmps - 2) undef, []⟩ H := by kernel_rfl
theorem F63_calls {R : Ending → Heap → Prop} {H : Heap} (x0 : Option Addr) (x1 : Int) (h : F63 x0 x1 R H) : HCalls Tryz.prog 63 #[Value.pointer x0, Value.int IntKind.i64 x1] H R :=
  calls_by (F := F63 x0 x1 R H) .leaf Tryz.func63 rfl (F63_eq x0 x1 R H) h
/-- bollard/layout.zero -/
def F64 (x0a : Option Addr) (x0n : Nat) (x0c : Nat) (R : Ending → Heap → Prop) (H : Heap) : Prop :=
  ∃ I1 : List Value → Heap → Prop,
  ∃ I2 : List Value → Heap → Nat,
  (I1 ([Value.int IntKind.i64 0]) H) ∧
  ∀ n3 : Int,
  ∀ v4 v5 v6 v7 v8 v9 v10 v11 : Value,
  ∀ H12 : Heap,
  (I1 ([Value.int IntKind.i64 n3]) H12) →
  sB (decide (n3 < (↑x0n : Int))) (nz x0a (fun a14 =>
  ask ((0 : Int) ≤ n3 ∧ n3 < (↑x0n : Int)) (ld H12 (Addr.add a14 (Int.toNat n3 * 1)) (fun v15 =>
  dInt IntKind.u8 v15 (fun n16 =>
  sB (n16 != 0) (R (Ending.returned (Value.bool false)) H12) (wr IntKind.i64 (n3 + 1) (fun n17 =>
  (I1 ([Value.int IntKind.i64 n17]) H12) ∧
  (I2 [Value.int IntKind.i64 n17] H12) < (I2 [Value.int IntKind.i64 n3] H12)))))))) (R (Ending.returned (Value.bool true)) H12)
theorem F64_eq (x0a : Option Addr) (x0n : Nat) (x0c : Nat) (R : Ending → Heap → Prop) (H : Heap) : F64 x0a x0n x0c R H = vc Tryz.prog (codeOf Tryz.f64) (.node none .leaf (.node none (.node none .leaf (.node none (.node (some ⟨[(7, 3)], [2, 4, 8, 9, 10, 11, 12, 13]⟩) .leaf .leaf) .leaf)) .leaf)) (postV Tryz.prog Tryz.f64 R) ⟨#[Value.slice x0a x0n x0c] ++ Array.replicate (Tryz.f64.ntmps - 1) undef, []⟩ H := by kernel_rfl
theorem F64_calls {R : Ending → Heap → Prop} {H : Heap} (x0a : Option Addr) (x0n : Nat) (x0c : Nat) (h : F64 x0a x0n x0c R H) : HCalls Tryz.prog 64 #[Value.slice x0a x0n x0c] H R :=
  calls_by (F := F64 x0a x0n x0c R H) (.node none .leaf (.node none (.node none .leaf (.node none (.node (some ⟨[(7, 3)], [2, 4, 8, 9, 10, 11, 12, 13]⟩) .leaf .leaf) .leaf)) .leaf)) Tryz.func64 rfl (F64_eq x0a x0n x0c R H) h
/-- bollard/word.Sealed -/
def F65 (x0a : Option Addr) (x0n : Nat) (x0c : Nat) (R : Ending → Heap → Prop) (H : Heap) : Prop :=
  wr IntKind.i64 ((↑x0n : Int) - 4) (fun n1 =>
  semW Tryz.prog (Builtin.max_ #[3, 3] 3 #[Value.int IntKind.i64 n1, Value.int IntKind.i64 0]) (pnR R) H (fun v4 H5 =>
  dInt IntKind.i64 v4 (fun n6 =>
  HCalls Tryz.prog 127 #[Value.slice x0a x0n x0c, Value.int IntKind.i64 n6, Value.int IntKind.i64 4] H5 (Sp.retK (fun v7 H8 =>
  dT 2 v7 (fun v9 v10 =>
  dInt IntKind.i64 v9 (fun n11 =>
  dInt IntKind.i64 v10 (fun n12 =>
  sB (n12 == 0) (wr IntKind.i64 ((↑x0n : Int) - 4) (fun n13 =>
  ask ((0 : Int) ≤ (0 : Int) ∧ (0 : Int) ≤ n13 ∧ n13 ≤ (↑x0c : Int) ∧ (↑x0c : Int) ≤ (↑x0c : Int)) (HCalls Tryz.prog 128 #[Value.slice (slO x0a 1 0 (↑x0c : Int)) (Int.toNat n13 - Int.toNat 0) (Int.toNat (↑x0c : Int) - Int.toNat 0)] H8 (Sp.retK (fun v14 H15 =>
  dInt IntKind.i64 v14 (fun n16 =>
  R (Ending.returned (Value.bool (n11 == n16))) H15)) (pnR R))))) (R (Ending.returned (Value.bool false)) H8))))) (pnR R)))))
theorem F65_eq (x0a : Option Addr) (x0n : Nat) (x0c : Nat) (R : Ending → Heap → Prop) (H : Heap) : F65 x0a x0n x0c R H = vc Tryz.prog (codeOf Tryz.f65) .leaf (postV Tryz.prog Tryz.f65 R) ⟨#[Value.slice x0a x0n x0c] ++ Array.replicate (Tryz.f65.ntmps - 1) undef, []⟩ H := by kernel_rfl
theorem F65_calls {R : Ending → Heap → Prop} {H : Heap} (x0a : Option Addr) (x0n : Nat) (x0c : Nat) (h : F65 x0a x0n x0c R H) : HCalls Tryz.prog 65 #[Value.slice x0a x0n x0c] H R :=
  calls_by (F := F65 x0a x0n x0c R H) .leaf Tryz.func65 rfl (F65_eq x0a x0n x0c R H) h
/-- bollard/word.Over -/
def F66 (x0a : Option Addr) (x0n : Nat) (x0c : Nat) (R : Ending → Heap → Prop) (H : Heap) : Prop :=
  semW Tryz.prog (Builtin.append_ #[85, 85] 85 #[Value.slice none 0 0, Value.slice x0a x0n x0c]) (pnR R) H (fun v3 H4 =>
  dSl v3 (fun p5 r6 r7 =>
  al H4 (Obj.cells #[Value.slice p5 r6 r7, Value.int IntKind.i64 0, Value.int IntKind.i64 0, Value.bool true] 209) (fun r8 H9 =>
  R (Ending.returned (Value.pointer (some (Addr.mk r8 0 none)))) H9)))
theorem F66_eq (x0a : Option Addr) (x0n : Nat) (x0c : Nat) (R : Ending → Heap → Prop) (H : Heap) : F66 x0a x0n x0c R H = vc Tryz.prog (codeOf Tryz.f66) .leaf (postV Tryz.prog Tryz.f66 R) ⟨#[Value.slice x0a x0n x0c] ++ Array.replicate (Tryz.f66.ntmps - 1) undef, []⟩ H := by kernel_rfl
theorem F66_calls {R : Ending → Heap → Prop} {H : Heap} (x0a : Option Addr) (x0n : Nat) (x0c : Nat) (h : F66 x0a x0n x0c R H) : HCalls Tryz.prog 66 #[Value.slice x0a x0n x0c] H R :=
  calls_by (F := F66 x0a x0n x0c R H) .leaf Tryz.func66 rfl (F66_eq x0a x0n x0c R H) h
/-- (*bollard/word.Reader).Take -/
def F67 (x0 : Option Addr) (x1 : Int) (R : Ending → Heap → Prop) (H : Heap) : Prop :=
  al H (Obj.cells #[Value.pointer x0] 142) (fun r1 H2 =>
  al H2 (Obj.cells #[Value.int IntKind.i64 x1] 3) (fun r3 H4 =>
  al H4 (Obj.cells #[Value.int IntKind.i64 0] 3) (fun r5 H6 =>
  st H6 (Addr.mk r5 0 none) (Value.int IntKind.i64 0) (fun H7 =>
  ld H7 (Addr.mk r1 0 none) (fun v8 =>
  dPtr v8 (fun p9 =>
  HCalls Tryz.prog 129 #[Value.pointer p9, Value.func (Fn.func 130) #[] #[Value.pointer (some (Addr.mk r1 0 none)), Value.pointer (some (Addr.mk r3 0 none)), Value.pointer (some (Addr.mk r5 0 none))]] H7 (Sp.retK (fun v10 H11 =>
  ld H11 (Addr.mk r5 0 none) (fun v12 =>
  dInt IntKind.i64 v12 (fun n13 =>
  R (Ending.returned (Value.int IntKind.i64 n13)) H11))) (pnR R))))))))
theorem F67_eq (x0 : Option Addr) (x1 : Int) (R : Ending → Heap → Prop) (H : Heap) : F67 x0 x1 R H = vc Tryz.prog (codeOf Tryz.f67) .leaf (postV Tryz.prog Tryz.f67 R) ⟨#[Value.pointer x0, Value.int IntKind.i64 x1] ++ Array.replicate (Tryz.f67.ntmps - 2) undef, []⟩ H := by kernel_rfl
theorem F67_calls {R : Ending → Heap → Prop} {H : Heap} (x0 : Option Addr) (x1 : Int) (h : F67 x0 x1 R H) : HCalls Tryz.prog 67 #[Value.pointer x0, Value.int IntKind.i64 x1] H R :=
  calls_by (F := F67 x0 x1 R H) .leaf Tryz.func67 rfl (F67_eq x0 x1 R H) h
/-- (*bollard/word.Reader).Skip -/
def F68 (x0 : Option Addr) (x1 : Int) (R : Ending → Heap → Prop) (H : Heap) : Prop :=
  al H (Obj.cells #[Value.pointer x0] 142) (fun r1 H2 =>
  al H2 (Obj.cells #[Value.int IntKind.i64 x1] 3) (fun r3 H4 =>
  ld H4 (Addr.mk r1 0 none) (fun v5 =>
  dPtr v5 (fun p6 =>
  HCalls Tryz.prog 129 #[Value.pointer p6, Value.func (Fn.func 132) #[] #[Value.pointer (some (Addr.mk r1 0 none)), Value.pointer (some (Addr.mk r3 0 none))]] H4 (Sp.retK (fun v7 H8 =>
  R (Ending.returned (Value.tuple #[])) H8) (pnR R))))))
theorem F68_eq (x0 : Option Addr) (x1 : Int) (R : Ending → Heap → Prop) (H : Heap) : F68 x0 x1 R H = vc Tryz.prog (codeOf Tryz.f68) .leaf (postV Tryz.prog Tryz.f68 R) ⟨#[Value.pointer x0, Value.int IntKind.i64 x1] ++ Array.replicate (Tryz.f68.ntmps - 2) undef, []⟩ H := by kernel_rfl
theorem F68_calls {R : Ending → Heap → Prop} {H : Heap} (x0 : Option Addr) (x1 : Int) (h : F68 x0 x1 R H) : HCalls Tryz.prog 68 #[Value.pointer x0, Value.int IntKind.i64 x1] H R :=
  calls_by (F := F68 x0 x1 R H) .leaf Tryz.func68 rfl (F68_eq x0 x1 R H) h
/-- bollard/layout.same -/
def F69 (x0a : Option Addr) (x0n : Nat) (x0c : Nat) (x1a : Option Addr) (x1n : Nat) (x1c : Nat) (R : Ending → Heap → Prop) (H : Heap) : Prop :=
  semW Tryz.prog (convert 85 9 (Value.slice x0a x0n x0c)) (pnR R) H (fun v3 H4 =>
  dStr v3 (fun s5 =>
  semW Tryz.prog (convert 85 9 (Value.slice x1a x1n x1c)) (pnR R) H4 (fun v8 H9 =>
  dStr v8 (fun s10 =>
  R (Ending.returned (Value.bool (ByteArray.toList s5 == ByteArray.toList s10))) H9))))
theorem F69_eq (x0a : Option Addr) (x0n : Nat) (x0c : Nat) (x1a : Option Addr) (x1n : Nat) (x1c : Nat) (R : Ending → Heap → Prop) (H : Heap) : F69 x0a x0n x0c x1a x1n x1c R H = vc Tryz.prog (codeOf Tryz.f69) .leaf (postV Tryz.prog Tryz.f69 R) ⟨#[Value.slice x0a x0n x0c, Value.slice x1a x1n x1c] ++ Array.replicate (Tryz.f69.ntmps - 2) undef, []⟩ H := by kernel_rfl
theorem F69_calls {R : Ending → Heap → Prop} {H : Heap} (x0a : Option Addr) (x0n : Nat) (x0c : Nat) (x1a : Option Addr) (x1n : Nat) (x1c : Nat) (h : F69 x0a x0n x0c x1a x1n x1c R H) : HCalls Tryz.prog 69 #[Value.slice x0a x0n x0c, Value.slice x1a x1n x1c] H R :=
  calls_by (F := F69 x0a x0n x0c x1a x1n x1c R H) .leaf Tryz.func69 rfl (F69_eq x0a x0n x0c x1a x1n x1c R H) h
end Go.Proofs.YtklppdodadkcnaaGreat.E
