/- My own texts, joined. -/
import Derived.JoinedOf
import Derived.KernelRfl
import Derived.Shelf.SlMaps.Clone
import Derived.Test.YtdlelcpkelginaaGreatProg
import Derived.WalkKit
import Derived.Test.YtdlelcpkelginaaGreatCK8
/- Contracts of functions. -/
namespace Go.Proofs.YtdlelcpkelginaaGreat.E
open Go Go.Proofs Go.RowKit Go.Maps Go.Shelf Go.Sort
set_option linter.unusedVariables false
set_option linter.unusedSimpArgs false
theorem dA9 {x0 x1 x2 x3 x4 x5 x6 x7 x8 : Value} {k : VF 9} (h : (k : Value → Value → Value → Value → Value → Value → Value → Value → Value → Prop) x0 x1 x2 x3 x4 x5 x6 x7 x8) : dA 9 (.agg #[x0, x1, x2, x3, x4, x5, x6, x7, x8]) k := h
/-- a word of two bytes -/
def w16 (l : List UInt8) (k : Nat) : Nat := (l.getD (2 * k) 0).toNat + 256 * (l.getD (2 * k + 1) 0).toNat
theorem w16_zero (k : Nat) : w16 zB128 k = 0 := by
  unfold w16 zB128
  have h : ∀ j : Nat, (List.replicate 128 (0 : UInt8)).getD j 0 = 0 := fun j => by
    rw [List.getD_eq_getElem?_getD, List.getElem?_replicate]
    split <;> rfl
  rw [h, h]; rfl
/-- an inode -/
structure DinM where
  m : Nat
  l : Nat
  z : Nat
  d0 : Nat
  d1 : Nat
  d2 : Nat
  d3 : Nat
  e1 : Nat
  e2 : Nat
def DinM.top (D : DinM) : Nat → Nat
  | 0 => D.d0
  | 1 => D.d1
  | 2 => D.d2
  | 3 => D.d3
  | 4 => D.e1
  | _ => D.e2
def DinM.put (D : DinM) (k b : Nat) : DinM := match k with
  | 0 => { D with d0 := b }
  | 1 => { D with d1 := b }
  | 2 => { D with d2 := b }
  | 3 => { D with d3 := b }
  | 4 => { D with e1 := b }
  | _ => { D with e2 := b }
/-- an address in an indirect block; 0 of none -/
def in16 (now : Nat → List UInt8) (b k : Nat) : Nat := if b = 0 then 0 else w16 (now b) k
inductive Pos where
  | top (k : Nat)
  | one (j : Nat)
  | two (j : Nat)
  | thr (j k : Nat)
  deriving DecidableEq
def Pos.ok : Pos → Prop
  | .top k => k < 6
  | .one j => j < 64
  | .two j => j < 64
  | .thr j k => j < 64 ∧ k < 64
def slot (now : Nat → List UInt8) (D : DinM) : Pos → Nat
  | .top k => D.top k
  | .one j => in16 now (D.top 4) j
  | .two j => in16 now (D.top 5) j
  | .thr j k => in16 now (in16 now (D.top 5) j) k
/-- does a place hold an indirect block's address? -/
def Pos.fan : Pos → Prop
  | .top k => 4 ≤ k
  | .two _ => True
  | _ => False
def FanOk (l : List UInt8) : Prop := l.length = 128 ∧ ∀ k, k < 64 → w16 l k < 2048
theorem FanOk.zero : FanOk zB128 := ⟨zB128_len, fun k _ => by rw [w16_zero]; decide⟩
structure TreeOk (now : Nat → List UInt8) (D : DinM) (al : Nat → Prop) : Prop where
  inj : ∀ p q, Pos.ok p → Pos.ok q → slot now D p ≠ 0 → slot now D p = slot now D q → p = q
  alc : ∀ p, Pos.ok p → slot now D p ≠ 0 → al (slot now D p)
  fan : ∀ p, Pos.ok p → p.fan → slot now D p ≠ 0 → FanOk (now (slot now D p))
section
variable {now now' : Nat → List UInt8} {D : DinM} {al : Nat → Prop}
theorem in16_same {b k : Nat} (h : b ≠ 0 → now' b = now b) : in16 now' b k = in16 now b k := by
  unfold in16
  by_cases e : b = 0
  · rw [if_pos e, if_pos e]
  · rw [if_neg e, if_neg e, h e]
/-- nothing of the tree has turned -/
theorem slot_same (h : TreeOk now D al) (hs : ∀ x, al x → now' x = now x) : ∀ q, q.ok → slot now' D q = slot now D q := by
  have hE1 : D.top 4 ≠ 0 → now' (D.top 4) = now (D.top 4) := fun e => hs _ (h.alc (.top 4) (show 4 < 6 by decide) e)
  have hE2 : D.top 5 ≠ 0 → now' (D.top 5) = now (D.top 5) := fun e => hs _ (h.alc (.top 5) (show 5 < 6 by decide) e)
  intro q hq
  cases q with
  | top k => rfl
  | one j => exact in16_same hE1
  | two j => exact in16_same hE2
  | thr j k =>
    show in16 now' (in16 now' (D.top 5) j) k = in16 now (in16 now (D.top 5) j) k
    rw [in16_same hE2]
    exact in16_same fun e => hs _ (h.alc (.two j) hq.1 e)
theorem TreeOk.same (h : TreeOk now D al) {al' : Nat → Prop} (hs : ∀ x, al x → now' x = now x) (ha : ∀ x, al x → al' x) : TreeOk now' D al' where
  inj p q hp hq h0 he := by rw [slot_same h hs p hp] at h0 he; rw [slot_same h hs q hq] at he; exact h.inj p q hp hq h0 he
  alc p hp h0 := by rw [slot_same h hs p hp] at h0 ⊢; exact ha _ (h.alc p hp h0)
  fan p hp hf h0 := by rw [slot_same h hs p hp] at h0 ⊢; rw [hs _ (h.alc p hp h0)]; exact h.fan p hp hf h0
end
def DinM.ok (D : DinM) : Prop := D = ⟨0, 0, 0, 0, 0, 0, 0, 0, 0⟩ ∨ DinOk D.m D.l D.z D.d0 D.d1 D.d2 D.d3 D.e1 D.e2
/-- where a group's header lies -/
def hB (n B : Nat) : Int := (n : Int) * (B : Int) + 1
end Go.Proofs.YtdlelcpkelginaaGreat.E
/- Contracts of functions. -/
namespace Go.Proofs.YtdlelcpkelginaaGreat.E
open Go Go.Proofs Go.RowKit Go.Maps Go.Shelf Go.Sort
set_option linter.unusedVariables false
set_option linter.unusedSimpArgs false
set_option maxRecDepth 100000 in
/-- bollard/bollardlaw19.CheckNobody -/
def F9 (x0 : Int) (R : Ending → Heap → Prop) (H : Heap) : Prop :=
  al H (Obj.cells #[Value.pointer none, Value.int IntKind.i64 0, Value.int IntKind.i64 0, Value.int IntKind.i64 0, Value.slice none 0 0, Value.int IntKind.i64 0, Value.int IntKind.i64 0, Value.map none, Value.map none, Value.slice none 0 0] 112) (fun r1 H2 =>
  al H2 (Obj.cells #[Value.pointer none, Value.pointer (some (Addr.mk r1 0 none))] 106) (fun r3 H4 =>
  ∃ I5 : List Value → Heap → Prop,
  ∃ I6 : List Value → Heap → Nat,
  (I5 ([Value.int IntKind.i64 0]) H4) ∧
  ∀ n7 : Int,
  ∀ v8 v9 v10 v11 v12 v13 v14 v15 v16 v17 v18 v19 v20 v21 v22 v23 v24 v25 v26 v27 v28 v29 v30 v31 v32 v33 v34 v35 v36 v37 v38 v39 v40 v41 v42 : Value,
  ∀ H43 : Heap,
  (I5 ([Value.int IntKind.i64 n7]) H43) →
  sB (decide (n7 < 2)) (ask ((0 : Int) ≤ n7 ∧ n7 < (2 : Int)) (ld H43 (Addr.add (Addr.mk r3 0 none) (Int.toNat n7 * 1)) (fun v45 =>
  dPtr v45 (fun p46 =>
  HCalls Tryz.prog 40 #[Value.pointer p46] H43 (Sp.retK (fun v47 H48 =>
  dT 2 v47 (fun v49 v50 =>
  dSl v49 (fun p51 r52 r53 =>
  dInt IntKind.i64 v50 (fun n54 =>
  jn (α := VFH 1) (fun v55 H56 =>
  ∀ v57 v58 v59 v60 v61 v62 v63 v64 v65 v66 v67 v68 v69 v70 v71 v72 v73 v74 v75 v76 v77 : Value,
  dBl v55 (fun b78 =>
  sB b78 (R (Ending.returned (Value.bool false)) H56) (wr IntKind.i64 (n7 + 1) (fun n79 =>
  (I5 ([Value.int IntKind.i64 n79]) H56) ∧
  (I6 [Value.int IntKind.i64 n79] H56) < (I6 [Value.int IntKind.i64 n7] H43))))) (fun k80 =>
  sB (decide ((↑r52 : Int) > 0)) (k80 (Value.bool true) H48) (sB (n54 != 2) (k80 (Value.bool true) H48) (HCalls Tryz.prog 41 #[Value.pointer p46] H48 (Sp.retK (fun v81 H82 =>
  dInt IntKind.i64 v81 (fun n83 =>
  sB (n83 != 0) (k80 (Value.bool true) H82) (HCalls Tryz.prog 42 #[Value.pointer p46] H82 (Sp.retK (fun v84 H85 =>
  dBl v84 (fun b86 =>
  sB (!b86) (k80 (Value.bool true) H85) (HCalls Tryz.prog 43 #[Value.pointer p46] H85 (Sp.retK (fun v87 H88 =>
  dInt IntKind.i64 v87 (fun n89 =>
  k80 (Value.bool (n89 != 0)) H88)) (pnR R))))) (pnR R))))) (pnR R))))))))) (pnR R)))))) (al H43 (Obj.cells #[Value.int IntKind.i32 0, Value.int IntKind.u32 0, Value.pointer none, Value.int IntKind.i64 0, Value.int IntKind.i64 0, Value.int IntKind.i64 0, Value.int IntKind.i64 0, Value.bool false] 120) (fun r98 H99 =>
  al H99 (Obj.cells #[Value.pointer none, Value.pointer (some (Addr.mk r98 0 none))] 52) (fun r100 H101 =>
  ∃ I102 : List Value → Heap → Prop,
  ∃ I103 : List Value → Heap → Nat,
  (I102 ([Value.int IntKind.i64 0]) H101) ∧
  ∀ n104 : Int,
  ∀ v105 v106 v107 v108 v109 v110 v111 v112 v113 v114 v115 v116 v117 v118 v119 v120 v121 v122 v123 : Value,
  ∀ H124 : Heap,
  (I102 ([Value.int IntKind.i64 n104]) H124) →
  sB (decide (n104 < 2)) (ask ((0 : Int) ≤ n104 ∧ n104 < (2 : Int)) (ld H124 (Addr.add (Addr.mk r100 0 none) (Int.toNat n104 * 1)) (fun v126 =>
  dPtr v126 (fun p127 =>
  HCalls Tryz.prog 44 #[Value.pointer p127] H124 (Sp.retK (fun v128 H129 =>
  dT 2 v128 (fun v130 v131 =>
  dPtr v130 (fun p132 =>
  dInt IntKind.i64 v131 (fun n133 =>
  jn (α := VFH 1) (fun v134 H135 =>
  ∀ v136 v137 v138 v139 v140 : Value,
  dBl v134 (fun b141 =>
  sB b141 (R (Ending.returned (Value.bool false)) H135) (wr IntKind.i64 (n104 + 1) (fun n142 =>
  (I102 ([Value.int IntKind.i64 n142]) H135) ∧
  (I103 [Value.int IntKind.i64 n142] H135) < (I103 [Value.int IntKind.i64 n104] H124))))) (fun k143 =>
  sB (!Option.isNone p132) (k143 (Value.bool true) H129) (k143 (Value.bool (n133 != 2)) H129)))))) (pnR R)))))) (HCalls Tryz.prog 13 #[Value.agg #[Value.int IntKind.i64 0, Value.int IntKind.i64 0, Value.int IntKind.i64 0]] H124 (Sp.retK (fun v146 H147 =>
  dT 3 v146 (fun v148 v149 v150 =>
  dPtr v148 (fun p151 =>
  dA 3 v149 (fun v152 v153 v154 =>
  dBl v150 (fun b155 =>
  al H147 (Obj.cells #[Value.int IntKind.i64 0, Value.int IntKind.i64 0, Value.int IntKind.i64 0] 23) (fun r156 H157 =>
  st H157 (Addr.mk r156 0 none) v152 (fun H158 =>
  st H158 (Addr.mk r156 1 none) v153 (fun H159 =>
  st H159 (Addr.mk r156 2 none) v154 (fun H160 =>
  sB (!b155) (R (Ending.returned (Value.bool false)) H160) (nz p151 (fun a161 =>
  ld H160 (Addr.add a161 1) (fun v162 =>
  dPtr v162 (fun p163 =>
  ld H160 (Addr.mk r156 0 none) (fun v164 =>
  ld H160 (Addr.mk r156 1 none) (fun v165 =>
  ld H160 (Addr.mk r156 2 none) (fun v166 =>
  HCalls Tryz.prog 19 #[Value.pointer p163, Value.agg #[v164, v165, v166], Value.int IntKind.i64 1, Value.int IntKind.i64 5] H160 (Sp.retK (fun v167 H168 =>
  dT 2 v167 (fun v169 v170 =>
  dPtr v169 (fun p171 =>
  dInt IntKind.i64 v170 (fun n172 =>
  sB (n172 != 0) (R (Ending.returned (Value.bool false)) H168) (HCalls Tryz.prog 44 #[Value.pointer p171] H168 (Sp.retK (fun v173 H174 =>
  dT 2 v173 (fun v175 v176 =>
  dPtr v175 (fun p177 =>
  dInt IntKind.i64 v176 (fun n178 =>
  jn (α := VFH 1) (fun v179 H180 =>
  ∀ v181 v182 v183 v184 v185 v186 v187 v188 v189 v190 v191 : Value,
  dBl v179 (fun b192 =>
  sB b192 (R (Ending.returned (Value.bool false)) H180) (HCalls Tryz.prog 40 #[Value.pointer p177] H180 (Sp.retK (fun v193 H194 =>
  dT 2 v193 (fun v195 v196 =>
  dSl v195 (fun p197 r198 r199 =>
  dInt IntKind.i64 v196 (fun n200 =>
  HCalls Tryz.prog 44 #[Value.pointer p171] H194 (Sp.retK (fun v201 H202 =>
  dT 2 v201 (fun v203 v204 =>
  dPtr v203 (fun p205 =>
  dInt IntKind.i64 v204 (fun n206 =>
  sB (n200 == 100) (sB (Option.isNone p205) (R (Ending.returned (Value.bool (n206 == 100))) H202) (R (Ending.returned (Value.bool false)) H202)) (R (Ending.returned (Value.bool false)) H202))))) (pnR R)))))) (pnR R))))) (fun k211 =>
  sB (n178 != 0) (k211 (Value.bool true) H174) (HCalls Tryz.prog 41 #[Value.pointer p177] H174 (Sp.retK (fun v212 H213 =>
  dInt IntKind.i64 v212 (fun n214 =>
  sB (n214 != 1) (k211 (Value.bool true) H213) (HCalls Tryz.prog 24 #[Value.pointer p171] H213 (Sp.retK (fun v215 H216 =>
  dInt IntKind.i64 v215 (fun n217 =>
  k211 (Value.bool (n217 != 0)) H216)) (pnR R))))) (pnR R)))))))) (pnR R))))))) nopR))))))))))))))))) (pnR R))))))))
set_option maxRecDepth 100000 in
theorem F9_eq (x0 : Int) (R : Ending → Heap → Prop) (H : Heap) : F9 x0 R H = vc Tryz.prog (codeOf Tryz.f9) (.node none .leaf (.node none (.node none .leaf (.node none (.node (some ⟨[(23, 3)], [2, 4, 5, 6, 24, 25, 26, 27, 28, 29, 30, 31, 32, 33, 34, 35, 36, 37, 38, 39, 40, 41, 42, 43, 44, 45, 46, 47, 48, 49, 50, 51, 52, 53, 54]⟩) (.node none .leaf (.node none .leaf (.node none (.node none (.node none .leaf (.node none .leaf (.node (some ⟨[(53, 4)], [32, 33, 34, 35, 36, 37, 38, 39, 40, 41, 42, 43, 44, 45, 46, 47, 48, 49, 50, 51, 52]⟩) .leaf .leaf))) .leaf) .leaf))) .leaf) .leaf)) (.node none (.node none .leaf (.node none (.node (some ⟨[(59, 3)], [2, 8, 9, 10, 60, 61, 62, 63, 64, 65, 66, 67, 68, 69, 70, 71, 72, 73, 74]⟩) (.node none .leaf (.node none .leaf (.node none (.node none (.node none .leaf (.node none .leaf (.node (some ⟨[(73, 4)], [68, 69, 70, 71, 72]⟩) .leaf .leaf))) .leaf) .leaf))) .leaf) .leaf)) (.node none .leaf (.node none .leaf (.node none .leaf (.node none .leaf (.node none .leaf (.node none (.node (some ⟨[(110, 4)], [99, 100, 101, 102, 103, 104, 105, 106, 107, 108, 109]⟩) .leaf .leaf) .leaf))))))))) (postV Tryz.prog Tryz.f9 R) ⟨#[Value.int IntKind.i64 x0] ++ Array.replicate (Tryz.f9.ntmps - 1) undef, []⟩ H := by kernel_rfl
set_option maxRecDepth 100000 in
theorem F9_calls {R : Ending → Heap → Prop} {H : Heap} (x0 : Int) (h : F9 x0 R H) : HCalls Tryz.prog 9 #[Value.int IntKind.i64 x0] H R :=
  calls_by (F := F9 x0 R H) (.node none .leaf (.node none (.node none .leaf (.node none (.node (some ⟨[(23, 3)], [2, 4, 5, 6, 24, 25, 26, 27, 28, 29, 30, 31, 32, 33, 34, 35, 36, 37, 38, 39, 40, 41, 42, 43, 44, 45, 46, 47, 48, 49, 50, 51, 52, 53, 54]⟩) (.node none .leaf (.node none .leaf (.node none (.node none (.node none .leaf (.node none .leaf (.node (some ⟨[(53, 4)], [32, 33, 34, 35, 36, 37, 38, 39, 40, 41, 42, 43, 44, 45, 46, 47, 48, 49, 50, 51, 52]⟩) .leaf .leaf))) .leaf) .leaf))) .leaf) .leaf)) (.node none (.node none .leaf (.node none (.node (some ⟨[(59, 3)], [2, 8, 9, 10, 60, 61, 62, 63, 64, 65, 66, 67, 68, 69, 70, 71, 72, 73, 74]⟩) (.node none .leaf (.node none .leaf (.node none (.node none (.node none .leaf (.node none .leaf (.node (some ⟨[(73, 4)], [68, 69, 70, 71, 72]⟩) .leaf .leaf))) .leaf) .leaf))) .leaf) .leaf)) (.node none .leaf (.node none .leaf (.node none .leaf (.node none .leaf (.node none .leaf (.node none (.node (some ⟨[(110, 4)], [99, 100, 101, 102, 103, 104, 105, 106, 107, 108, 109]⟩) .leaf .leaf) .leaf))))))))) Tryz.func9 rfl (F9_eq x0 R H) h
/-- a snapshot that no call made -/
structure NoS (s : TH) (p : Option Addr) (τ : Nat) : Prop where
  h : p = none ∨ ∃ c, p = some ⟨c, 0, none⟩ ∧ Blk s c [.int .i32 0, .int .u32 0, .pointer none, .int .i64 0, .int .i64 0, .int .i64 0, .int .i64 0, .bool false] 120 τ
theorem NoS.mv {s s' : TH} {p : Option Addr} {τ : Nat} {B : Nat → Prop} (h : NoS s p τ) (c : Chg B s s') (hn : ∀ j, j < s.h.size → s.g j = τ → ¬ B j) : NoS s' p τ := by
  rcases h.h with h | ⟨r, h1, h2⟩
  · exact ⟨.inl h⟩
  · exact ⟨.inr ⟨r, h1, h2.mv c (hn r h2.lt h2.tag)⟩⟩
/-- (*bollard/snap.Snap).there -/
theorem o_theren (s : TH) : TRet Tryz.prog 73 #[.pointer none] s fun v s' => v = .int .i64 2 ∧ Ch [] s s' := by
  refine F73_calls _  ?_
  unfold F73
  refine jn_u ?_
  refine sB_t (by rfl) ?_
  intro _
  intros
  refine dBl_i ?_
  refine sB_t (by rfl) ?_
  refine ret_t ?_
  exact ⟨rfl, (Ch.refl [] s)⟩
/-- (*bollard/snap.Snap).there -/
theorem o_therez (r τ : Nat) (s : TH) (hr : Blk s r [.int .i32 0, .int .u32 0, .pointer none, .int .i64 0, .int .i64 0, .int .i64 0, .int .i64 0, .bool false] 120 τ) : TRet Tryz.prog 73 #[.pointer (some ⟨r, 0, none⟩)] s fun v s' => v = .int .i64 2 ∧ Ch [] s s' := by
  refine F73_calls _  ?_
  unfold F73
  refine jn_u ?_
  refine sB_f (by rfl) ?_
  refine nz_i ?_
  refine ld_t hr rfl ?_
  refine dPtr_i ?_
  intro _
  intros
  refine dBl_i ?_
  refine sB_t (by rfl) ?_
  refine ret_t ?_
  exact ⟨rfl, (Ch.refl [] s)⟩
theorem o_there (p : Option Addr) (τ : Nat) {s : TH} (h : NoS s p τ) : TRet Tryz.prog 73 #[.pointer p] s fun v s' => v = .int .i64 2 ∧ Ch [] s s' := by
  rcases h.h with rfl | ⟨c, rfl, hb⟩
  · exact o_theren s
  · exact o_therez c τ s hb
/-- (*bollard/snap.Snap).Read -/
theorem o_sRead (k : Int) (p : Option Addr) (τ : Nat) {s : TH} (h : NoS s p τ) : TRet Tryz.prog 74 #[.pointer p, .int .i64 k] s fun v s' => v = .tuple #[.slice none 0 0, .int .i64 2] ∧ Ch [] s s' := by
  refine F74_calls _ _  ?_
  unfold F74
  refine tcall (o_there p τ h) ?_
  rintro v_2 s_1 ⟨rfl, c_4⟩
  have z_5 := c_4.size
  refine dInt_i ?_
  refine sB_t (by rfl) ?_
  refine ret_t ?_
  exact ⟨rfl, ((Ch.refl [] s).ch c_4 (by simp))⟩
/-- a checker that no call made -/
structure NoK (s : TH) (p : Option Addr) (τ : Nat) : Prop where
  h : p = none ∨ ∃ c, p = some ⟨c, 0, none⟩ ∧ Blk s c [.pointer none, .int .i64 0, .int .i64 0, .int .i64 0, .slice none 0 0, .int .i64 0, .int .i64 0, .map none, .map none, .slice none 0 0] 112 τ
theorem NoK.mv {s s' : TH} {p : Option Addr} {τ : Nat} {B : Nat → Prop} (h : NoK s p τ) (c : Chg B s s') (hn : ∀ j, j < s.h.size → s.g j = τ → ¬ B j) : NoK s' p τ := by
  rcases h.h with h | ⟨r, h1, h2⟩
  · exact ⟨.inl h⟩
  · exact ⟨.inr ⟨r, h1, h2.mv c (hn r h2.lt h2.tag)⟩⟩
/-- (*bollard/check.Checker).Pass -/
theorem o_kPassn (s : TH) : TRet Tryz.prog 41 #[.pointer none] s fun v s' => v = .int .i64 0 ∧ Ch [] s s' := by
  refine F41_calls _  ?_
  unfold F41
  refine jn_u ?_
  refine sB_t (by rfl) ?_
  intro _
  intros
  refine dBl_i ?_
  refine sB_t (by rfl) ?_
  refine ret_t ?_
  exact ⟨rfl, (Ch.refl [] s)⟩
/-- (*bollard/check.Checker).Pass -/
theorem o_kPassz (r τ : Nat) (s : TH) (hr : Blk s r [.pointer none, .int .i64 0, .int .i64 0, .int .i64 0, .slice none 0 0, .int .i64 0, .int .i64 0, .map none, .map none, .slice none 0 0] 112 τ) : TRet Tryz.prog 41 #[.pointer (some ⟨r, 0, none⟩)] s fun v s' => v = .int .i64 0 ∧ Ch [] s s' := by
  refine F41_calls _  ?_
  unfold F41
  refine jn_u ?_
  refine sB_f (by rfl) ?_
  refine nz_i ?_
  refine ld_t hr rfl ?_
  refine dInt_i ?_
  refine nz_i ?_
  refine ld_t hr rfl ?_
  refine dSl_i ?_
  refine ⟨?_, ?_⟩
  ·
    refine ld_t hr rfl ?_
    refine dInt_i ?_
    rfl
  ·
    intro _
    intros
    refine dBl_i ?_
    refine sB_d (fun hsB2 => ?_) (fun hsB2 => by exfalso; omega)
    refine ret_t ?_
    exact ⟨rfl, (Ch.refl [] s)⟩
theorem o_kPass (p : Option Addr) (τ : Nat) {s : TH} (h : NoK s p τ) : TRet Tryz.prog 41 #[.pointer p] s fun v s' => v = .int .i64 0 ∧ Ch [] s s' := by
  rcases h.h with rfl | ⟨c, rfl, hb⟩
  · exact o_kPassn s
  · exact o_kPassz c τ s hb
/-- (*bollard/check.Checker).Steps -/
theorem o_kStepsn (s : TH) : TRet Tryz.prog 43 #[.pointer none] s fun v s' => v = .int .i64 0 ∧ Ch [] s s' := by
  refine F43_calls _  ?_
  unfold F43
  refine jn_u ?_
  refine sB_t (by rfl) ?_
  intro _
  intros
  refine dBl_i ?_
  refine sB_t (by rfl) ?_
  refine ret_t ?_
  exact ⟨rfl, (Ch.refl [] s)⟩
/-- (*bollard/check.Checker).Steps -/
theorem o_kStepsz (r τ : Nat) (s : TH) (hr : Blk s r [.pointer none, .int .i64 0, .int .i64 0, .int .i64 0, .slice none 0 0, .int .i64 0, .int .i64 0, .map none, .map none, .slice none 0 0] 112 τ) : TRet Tryz.prog 43 #[.pointer (some ⟨r, 0, none⟩)] s fun v s' => v = .int .i64 0 ∧ Ch [] s s' := by
  refine F43_calls _  ?_
  unfold F43
  refine jn_u ?_
  refine sB_f (by rfl) ?_
  refine nz_i ?_
  refine ld_t hr rfl ?_
  refine dPtr_i ?_
  intro _
  intros
  refine dBl_i ?_
  refine sB_t (by rfl) ?_
  refine ret_t ?_
  exact ⟨rfl, (Ch.refl [] s)⟩
theorem o_kSteps (p : Option Addr) (τ : Nat) {s : TH} (h : NoK s p τ) : TRet Tryz.prog 43 #[.pointer p] s fun v s' => v = .int .i64 0 ∧ Ch [] s s' := by
  rcases h.h with rfl | ⟨c, rfl, hb⟩
  · exact o_kStepsn s
  · exact o_kStepsz c τ s hb
/-- (*bollard/check.Checker).Step -/
theorem o_kStepn (s : TH) : TRet Tryz.prog 40 #[.pointer none] s fun v s' => v = .tuple #[.slice none 0 0, .int .i64 2] ∧ Ch [] s s' := by
  refine F40_calls _  ?_
  unfold F40
  refine jn_u ?_
  refine sB_t (by rfl) ?_
  intro _
  intros
  refine dBl_i ?_
  refine sB_t (by rfl) ?_
  refine ret_t ?_
  exact ⟨rfl, (Ch.refl [] s)⟩
/-- (*bollard/check.Checker).Step -/
theorem o_kStepz (r τ : Nat) (s : TH) (hr : Blk s r [.pointer none, .int .i64 0, .int .i64 0, .int .i64 0, .slice none 0 0, .int .i64 0, .int .i64 0, .map none, .map none, .slice none 0 0] 112 τ) : TRet Tryz.prog 40 #[.pointer (some ⟨r, 0, none⟩)] s fun v s' => v = .tuple #[.slice none 0 0, .int .i64 2] ∧ Ch [] s s' := by
  refine F40_calls _  ?_
  unfold F40
  refine jn_u ?_
  refine sB_f (by rfl) ?_
  refine nz_i ?_
  refine ld_t hr rfl ?_
  refine dPtr_i ?_
  intro _
  intros
  refine dBl_i ?_
  refine sB_t (by rfl) ?_
  refine ret_t ?_
  exact ⟨rfl, (Ch.refl [] s)⟩
theorem o_kStep (p : Option Addr) (τ : Nat) {s : TH} (h : NoK s p τ) : TRet Tryz.prog 40 #[.pointer p] s fun v s' => v = .tuple #[.slice none 0 0, .int .i64 2] ∧ Ch [] s s' := by
  rcases h.h with rfl | ⟨c, rfl, hb⟩
  · exact o_kStepn s
  · exact o_kStepz c τ s hb
/-- (*bollard/check.Checker).Done -/
theorem o_kDone (p : Option Addr) (τ : Nat) {s : TH} (h : NoK s p τ) : TRet Tryz.prog 42 #[.pointer p] s fun v s' => v = .bool true ∧ Ch [] s s' := by
  refine F42_calls _  ?_
  unfold F42
  refine tcall (o_kPass p τ h) ?_
  rintro v_2 s_1 ⟨rfl, c_4⟩
  have z_5 := c_4.size
  refine dInt_i ?_
  refine ret_t ?_
  exact ⟨rfl, ((Ch.refl [] s).ch c_4 (by simp))⟩
/-- bollard/check.New -/
theorem o_kNew (p : Option Addr) (τ : Nat) {s : TH} (h : NoS s p τ) : TRet Tryz.prog 44 #[.pointer p] s fun v s' => v = .tuple #[.pointer none, .int .i64 2] ∧ Ch [] s s' := by
  refine F44_calls _  ?_
  unfold F44
  refine tcall (o_sRead (-1) p τ h) ?_
  rintro v_2 s_1 ⟨rfl, c_4⟩
  have z_5 := c_4.size
  refine dT2 ?_
  refine dSl_i ?_
  refine dInt_i ?_
  refine jn_u ?_
  refine sB_t (by rfl) ?_
  intro _
  intros
  refine dBl_i ?_
  refine sB_t (by rfl) ?_
  refine ret_t ?_
  exact ⟨rfl, ((Ch.refl [] s).ch c_4 (by simp))⟩
/-- (*bollard/volume.Volume).Old -/
theorem c_VOldN (vp d U : Nat) (V : VolM) (b : Int) (s : TH) (hU : 10 ≤ U) (hv : VolL s vp d U V 0) (hn : V.n < 1000000000000000000) (hb : ¬ V.D.has b) (hon : V.old.on = true) (hbr : V.old.broken = false) (hkp : V.old.kept = []) : TRet Tryz.prog 180 #[.pointer (some ⟨vp, 0, none⟩), .int .i64 b] s fun v s' => v = .tuple #[.slice none 0 0, .int .i64 90] ∧ Ch [U, U + 20, U + 21, U + 22, U + 23] s s' ∧ VolL s' vp d U V 0 := by
  obtain ⟨⟨c, p, rw_, rk, mw, mk, hV⟩, ok⟩ := id hv
  have hvb := hV.blk
  have hvw := hV.wm
  have hvv := hV.wv
  have hvo := hV.om
  have hvk := hV.kv
  have hvD := hV.dk
  have hvC := hV.ca
  have hvP := hV.ps
  have hn0 := ok.n0
  have hpok := hV.ps.ok
  have hplst := hV.ps.ok.lst
  have hnb := hV.dk.nb
  obtain ⟨M, hM, hM0, hMa, hMb, hMc, hMd, hMe, hMf⟩ := fresh6 s (U + 50) 0 0 0 0 0
  refine F180_calls _ _  ?_
  unfold F180
  refine tcall (c_vheld _ _ hvb) ?_
  rintro v_2 s_1 ⟨rfl, c_4, call1a⟩
  have z_5 := c_4.size
  have hV1 := hV.relock c_4 call1a
  have hv1 : VolL s_1 vp d U V 1 := ⟨⟨_, _, _, _, _, _, hV1⟩, ok⟩
  refine dBl_i ?_
  refine sB_f (by rfl) ?_
  refine nz_i ?_
  refine jn_u ?_
  refine nz_i ?_
  refine ld_t call1a rfl ?_
  refine dBl_i ?_
  refine sB_f (by simp only [*]; rfl) ?_
  refine nz_i ?_
  refine ld_t call1a rfl ?_
  refine dBl_i ?_
  intro _
  intros
  refine dBl_i ?_
  refine sB_f (by assumption) ?_
  refine nz_i ?_
  refine ld_t call1a rfl ?_
  refine dMap_i ?_
  have hkf : kfind V.old.kept b = none := by rw [hkp]; rfl
  have h_6 := hvk.mv c_4 (tagn (by simp))
  have hkg := KMap.get (b := b) h_6
  rw [hkf] at hkg
  have h_7 := hvo.mv c_4 (tagn (by simp))
  refine olook_n keyI um98 z46 h_7 hkg ?_
  refine dT2 ?_
  refine dSl_i ?_
  refine dBl_i ?_
  refine sB_f (by rfl) ?_
  refine tcall (c_vread _ _ _ _ _ (M + 10) _ _ (by omega) hv1 (by omega)) ?_
  rintro v_9 s_8 ⟨c_11, call2a⟩
  have z_12 := c_11.size
  rcases call2a with ⟨rfl, hnb2, hv2⟩ | ⟨a2, c2_, rfl, hh, hv2, ho2⟩
  ·
    have hvx := hv2
    obtain ⟨⟨c2, p2, rw2, rk2, mw2, mk2, hV2⟩, ok2⟩ := id hvx
    have hvb2 := hV2.blk
    refine dT2 ?_
    refine dSl_i ?_
    refine dInt_i ?_
    refine c_door Tryz.muLib hvb2 (by rfl) (fun _ => by rfl) fun s_13 b_14 c_15 z_16 => ?_
    have c_15t := on_ch hvb2 c_15
    refine ret_t ?_
    exact ⟨rfl, ((((Ch.refl [U, U + 20, U + 21, U + 22, U + 23] s).ch c_4 (by simp)).ch c_11 (by simp)).ch c_15t (by simp)), ⟨⟨_, _, _, _, _, _, hV2.relock c_15t b_14⟩, ok2⟩⟩
  ·
    exact absurd hh hb
/-- (*bollard/snap.Snap).Read -/
theorem c_sreadG (sp σ vp : Nat) (a b c gen : Int) (k : Int) (s : TH) (hs : Blk s sp [.int .i32 0, .int .u32 0, .pointer (some ⟨vp, 0, none⟩), .int .i64 a, .int .i64 b, .int .i64 c, .int .i64 gen, .bool true] 120 σ) : TRet Tryz.prog 74 #[.pointer (some ⟨sp, 0, none⟩), .int .i64 k] s fun v s' => v = .tuple #[.slice none 0 0, .int .i64 100] ∧ Ch [σ] s s' ∧ Blk s' sp [.int .i32 0, .int .u32 0, .pointer (some ⟨vp, 0, none⟩), .int .i64 a, .int .i64 b, .int .i64 c, .int .i64 gen, .bool true] 120 σ := by
  refine F74_calls _ _  ?_
  unfold F74
  refine tcall (c_stherG sp σ vp a b c gen _ hs) ?_
  rintro v_2 s_1 ⟨rfl, c_4, call1a⟩
  have z_5 := c_4.size
  refine dInt_i ?_
  refine sB_t (by rfl) ?_
  refine ret_t ?_
  exact ⟨rfl, ((Ch.refl [σ] s).ch c_4 (by simp)), call1a⟩
/-- (*bollard/snap.Snap).Geom -/
theorem c_sgeom2 (sp σ vp : Nat) (a b c gen : Int) (s : TH) (gone : Bool) (hs : Blk s sp [.int .i32 0, .int .u32 0, .pointer (some ⟨vp, 0, none⟩), .int .i64 a, .int .i64 b, .int .i64 c, .int .i64 gen, .bool gone] 120 σ) : TRet Tryz.prog 127 #[.pointer (some ⟨sp, 0, none⟩)] s fun v s' => v = .agg #[.int .i64 a, .int .i64 b, .int .i64 c] ∧ Ch [] s s' := by
  obtain ⟨M, hM, hM0, hMa, hMb, hMc, hMd, hMe, hMf⟩ := fresh6 s σ 0 0 0 0 0
  refine F127_calls _  ?_
  unfold F127
  refine al_t (M + 1) fun r1 s2 hr1 b_1 c_2 z_3 => ?_
  refine sB_f (by rfl) ?_
  refine nz_i ?_
  have h_4 := hs.ch c_2 (by simp)
  refine ld_t h_4 rfl ?_
  refine ld_t h_4 rfl ?_
  refine ld_t h_4 rfl ?_
  refine st_t b_1 rfl (by simp) fun s13 b_5 c_6o z_7 => ?_
  have c_6 := on_ch b_1 c_6o
  refine st_t b_5 rfl (by simp) fun s14 b_8 c_9o z_10 => ?_
  have c_9 := on_ch b_5 c_9o
  refine st_t b_8 rfl (by simp) fun s15 b_11 c_12o z_13 => ?_
  have c_12 := on_ch b_8 c_12o
  refine ld_t b_11 rfl ?_
  refine ld_t b_11 rfl ?_
  refine ld_t b_11 rfl ?_
  refine ret_t ?_
  exact ⟨rfl, (((((Ch.refl [] s).ch c_2 (by simp)).fr c_6 hM (by simp)).fr c_9 hM (by simp)).fr c_12 hM (by simp))⟩
/-- (*bollard/snap.Snap).Read -/
theorem c_sreadN (sp σ vp : Nat) (a b c gen : Int) (d U : Nat) (V : VolM) (k : Int) (s : TH) (hs : Blk s sp [.int .i32 0, .int .u32 0, .pointer (some ⟨vp, 0, none⟩), .int .i64 a, .int .i64 b, .int .i64 c, .int .i64 gen, .bool false] 120 σ) (hv : VolL s vp d U V 0) (hU : 10 ≤ U) (hσ : σ < U ∨ U + 50 ≤ σ) (hn : V.n < 1000000000000000000) (hb : ¬ V.D.has k) (hon : V.old.on = true) (hbr : V.old.broken = false) (hkp : V.old.kept = []) : TRet Tryz.prog 74 #[.pointer (some ⟨sp, 0, none⟩), .int .i64 k] s fun v s' => v = .tuple #[.slice none 0 0, .int .i64 90] ∧ Ch [σ, U, U + 20, U + 21, U + 22, U + 23] s s' ∧ Blk s' sp [.int .i32 0, .int .u32 0, .pointer (some ⟨vp, 0, none⟩), .int .i64 a, .int .i64 b, .int .i64 c, .int .i64 gen, .bool false] 120 σ ∧ VolL s' vp d U V 0 := by
  refine F74_calls _ _  ?_
  unfold F74
  refine tcall (c_sthere sp σ vp a b c gen _ hs) ?_
  rintro v_2 s_1 ⟨rfl, c_4, call1a⟩
  have z_5 := c_4.size
  refine dInt_i ?_
  refine sB_f (by rfl) ?_
  refine nz_i ?_
  refine ld_t call1a rfl ?_
  refine dPtr_i ?_
  have h_6 := hv.mv c_4 (rngn50 (by simp <;> omega))
  refine tcall (c_VOldN vp d U V k _ hU h_6 hn hb hon hbr hkp) ?_
  rintro v_8 s_7 ⟨rfl, c_10, call2a⟩
  have z_11 := c_10.size
  refine dT2 ?_
  refine dSl_i ?_
  refine dInt_i ?_
  refine ret_t ?_
  have h_12 := call1a.ch c_10 (by simp <;> omega)
  exact ⟨rfl, (((Ch.refl [σ, U, U + 20, U + 21, U + 22, U + 23] s).ch c_4 (by simp)).ch c_10 (by simp)), h_12, call2a⟩
/-- bollard/check.passes -/
theorem c_kpasses (τ : Nat) (s : TH) : TRet Tryz.prog 128 #[] s fun v s' => ∃ q, v = .slice (some ⟨q, 0, none⟩) 4 4 ∧ Ch [] s s' ∧ Blk s' q [.func (.func 223) #[] #[], .func (.func 224) #[] #[], .func (.func 225) #[] #[], .func (.func 226) #[] #[], .func (.func 227) #[] #[], .func (.func 224) #[] #[], .func (.func 228) #[] #[], .func (.func 229) #[] #[]] 306 τ := by
  obtain ⟨M, hM, hM0, hMa, hMb, hMc, hMd, hMe, hMf⟩ := fresh6 s τ 0 0 0 0 0
  refine F128_calls  ?_
  unfold F128
  refine al_t (M + 1) fun r1 s2 hr1 b_1 c_2 z_3 => ?_
  exact ret_t' (s' := remark s2 (M + 1) τ) rfl ⟨_, rfl, remark_ch ((Ch.refl [] s).ch c_2 (by simp)) hM (by omega), (b_1).remark⟩
/-- bollard/check.New -/
theorem c_kNew (sp σ vp : Nat) (a b c gen : Int) (d U : Nat) (V : VolM) (τ : Nat) (s : TH) (hs : Blk s sp [.int .i32 0, .int .u32 0, .pointer (some ⟨vp, 0, none⟩), .int .i64 a, .int .i64 b, .int .i64 c, .int .i64 gen, .bool false] 120 σ) (hv : VolL s vp d U V 0) (hU : 10 ≤ U) (hσ : σ < U ∨ U + 50 ≤ σ) (hn : V.n < 1000000000000000000) (hon : V.old.on = true) (hbr : V.old.broken = false) (hkp : V.old.kept = []) (hτ : U + 50 ≤ τ ∧ σ < τ) : TRet Tryz.prog 44 #[.pointer (some ⟨sp, 0, none⟩)] s fun v s' => ∃ k q m1 m2, v = .tuple #[.pointer (some ⟨k, 0, none⟩), .int .i64 0] ∧ Ch [σ, U, U + 20, U + 21, U + 22, U + 23] s s' ∧ Blk s' sp [.int .i32 0, .int .u32 0, .pointer (some ⟨vp, 0, none⟩), .int .i64 a, .int .i64 b, .int .i64 c, .int .i64 gen, .bool false] 120 σ ∧ VolL s' vp d U V 0 ∧ Blk s' k [.pointer (some ⟨sp, 0, none⟩), .int .i64 a, .int .i64 b, .int .i64 c, .slice (some ⟨q, 0, none⟩) 4 4, .int .i64 0, .int .i64 0, .map (some m1), .map (some m2), .slice none 0 0] 112 τ ∧ Blk s' q [.func (.func 223) #[] #[], .func (.func 224) #[] #[], .func (.func 225) #[] #[], .func (.func 226) #[] #[], .func (.func 227) #[] #[], .func (.func 224) #[] #[], .func (.func 228) #[] #[], .func (.func 229) #[] #[]] 306 (τ + 1) ∧ MapK (Value.int .i64) s' m1 [] (τ + 2) ∧ MapK (Value.int .i64) s' m2 [] (τ + 2) := by
  obtain ⟨M, hM, hM0, hMa, hMb, hMc, hMd, hMe, hMf⟩ := fresh6 s σ (U + 60) (τ + 3) 0 0 0
  refine F44_calls _  ?_
  unfold F44
  refine tcall (c_sreadN sp σ vp a b c gen d U V (-1) _ hs hv hU hσ hn (by unfold DiskM.has; omega) hon hbr hkp) ?_
  rintro v_2 s_1 ⟨rfl, c_4, call1a, call1b⟩
  have z_5 := c_4.size
  refine dT2 ?_
  refine dSl_i ?_
  refine dInt_i ?_
  refine jn_u ?_
  refine sB_f (by rfl) ?_
  intro _
  intros
  refine dBl_i ?_
  refine sB_f (by rfl) ?_
  refine tcall (c_sgeom2 sp σ vp a b c gen _ false call1a) ?_
  rintro v_7 s_6 ⟨rfl, c_9⟩
  have z_10 := c_9.size
  refine dA3 ?_
  refine tcall (c_kpasses (M + 10) _) ?_
  rintro v_12 s_11 ⟨qcall3, rfl, c_14, call3a⟩
  have z_15 := c_14.size
  refine dSl_i ?_
  refine alm_t (Value.int .i64) (M + 1) fun r27 s28 hr27 b_16 c_17 z_18 => ?_
  refine alm_t (Value.int .i64) (M + 2) fun r29 s30 hr29 b_19 c_20 z_21 => ?_
  refine al_t (M + 3) fun r31 s32 hr31 b_22 c_23 z_24 => ?_
  have h_25 := call1a.ch ((((c_9.app c_14).app c_17).app c_20).app c_23) (by simp)
  have h_26 := call1b.mv ((((c_9.app c_14).app c_17).app c_20).app c_23) (rngn50 (by simp))
  have h_27 := call3a.ch ((c_17.app c_20).app c_23) (by simp)
  have h_28 := b_16.ch (c_20.app c_23) (by simp)
  have h_29 := b_19.ch c_23 (by simp)
  exact ret_t' (s' := remark (remark (remark (remark s32 (M + 3) τ) (M + 10) (τ + 1)) (M + 1) (τ + 2)) (M + 2) (τ + 2)) rfl ⟨_, _, _, _, rfl, remark_ch (remark_ch (remark_ch (remark_ch (((((((Ch.refl [σ, U, U + 20, U + 21, U + 22, U + 23] s).ch c_4 (by simp)).ch c_9 (by simp)).ch c_14 (by simp)).ch c_17 (by simp)).ch c_20 (by simp)).ch c_23 (by simp)) hM (by omega)) hM (by omega)) hM (by omega)) hM (by omega), (((((h_25)).keep (by omega)).keep (by omega)).keep (by omega)).keep (by omega), (((((h_26)).keep (by omega)).keep (by omega)).keep (by omega)).keep (by omega), (((((b_22)).remark).keep (by omega)).keep (by omega)).keep (by omega), (((((h_27)).keep (by omega)).remark).keep (by omega)).keep (by omega), (((((h_28)).keep (by omega)).keep (by omega)).remark).keep (by omega), (((((h_29)).keep (by omega)).keep (by omega)).keep (by omega)).remark⟩
set_option maxRecDepth 100000 in
theorem mclone_t (τ : Nat) {κ : Type} {kf : κ → Value} {E : List PanicEntry → Heap → Prop} {s : TH} {r tg τm : Nat} {m : List (κ × Value)} {K : Value → Heap → Prop} (hm : MapK kf s r m τm)
    (hk : ∀ (r' : Nat) (s' : TH), MapK kf s' r' m τ → Ch [] s s' → s.h.size + 1 = s'.h.size → K (.iface tg (.map (some r'))) s'.h) :
    semW Tryz.prog (entS 221 #[.iface tg (.map (some r))]) E s.h K := .mk fun w hw => by
  obtain ⟨es, ck, hg, he⟩ := hm.get
  have hr : (entS 221 #[.iface tg (.map (some r))]).run Tryz.prog w = .ok (.iface tg (.map (some w.heap.size))) (w.alloc (.map es.toArray ck)) := by
    unfold entS
    rw [Sem.run_bind, run_callFunc_extern Tryz.func221 (by kernel_rfl) (by kernel_rfl) (by kernel_rfl) (e := Extern.MapsClone.clone) (by kernel_rfl), run_maps_clone_sl (P := Tryz.prog) w tg (by rw [hw]; exact hg)]
    rfl
  rw [hr]
  refine ⟨?_, rfl, rfl, rfl⟩
  have := hk s.h.size ⟨s.h.push (.map es.toArray ck), upd s.g s.h.size τ⟩ ⟨⟨es, ck, by simp, he⟩, by simp [upd], hm.nd⟩ (pushed _ _ _) (by simp)
  rw [hw]
  show K _ (w.heap.push _)
  rw [hw]
  simpa using this
theorem tass_m {P : Program} {E : List PanicEntry → Heap → Prop} {s : TH} {tg xT k e : TypeId} {v : Value} {K : Value → Heap → Prop} (h : P.underlying tg = some (.map k e)) (hk : K v s.h) :
    semW P (Instr.typeAssert (.iface tg v) xT tg false) E s.h K := .mk fun w hw => by
  rw [run_typeAssert_map_sl w tg xT k e v h]
  exact ⟨by rw [hw]; exact hk, Like.refl w⟩
/-- maps.Clone[map[int]struct{},int,struct{}] -/
theorem c_mcloneO (r τ : Nat) (m : List (Int × Value)) (s : TH) (hm : MapK (Value.int .i64) s r m τ) : TRet Tryz.prog 122 #[.map (some r)] s fun v s' => ∃ q, v = .map (some q) ∧ Ch [] s s' := by
  obtain ⟨M, hM, hM0, hMa, hMb, hMc, hMd, hMe, hMf⟩ := fresh6 s τ 0 0 0 0 0
  refine F122_calls _  ?_
  unfold F122
  refine sB_f (by rfl) ?_
  refine mclone_t (M + 4) hm fun s_1 q q1_4 c_2 _ => ?_
  have z_3 := c_2.size
  refine tass_m (k := 3) (e := 88) (by kernel_rfl) ?_
  refine dMap_i ?_
  refine ret_t ?_
  exact ⟨_, rfl, ((Ch.refl [] s).ch c_2 (by simp))⟩
/-- maps.Clone[map[int]int,int,int] -/
theorem c_mcloneC (r τ : Nat) (m : List (Int × Value)) (s : TH) (hm : MapK (Value.int .i64) s r m τ) : TRet Tryz.prog 123 #[.map (some r)] s fun v s' => ∃ q, v = .map (some q) ∧ Ch [] s s' := by
  obtain ⟨M, hM, hM0, hMa, hMb, hMc, hMd, hMe, hMf⟩ := fresh6 s τ 0 0 0 0 0
  refine F123_calls _  ?_
  unfold F123
  refine sB_f (by rfl) ?_
  refine mclone_t (M + 4) hm fun s_1 q q1_4 c_2 _ => ?_
  have z_3 := c_2.size
  refine tass_m (k := 3) (e := 3) (by kernel_rfl) ?_
  refine dMap_i ?_
  refine ret_t ?_
  exact ⟨_, rfl, ((Ch.refl [] s).ch c_2 (by simp))⟩
/-- slices.Clone[[]int,int] -/
theorem c_sclone0 (s : TH) : TRet Tryz.prog 124 #[.slice none 0 0] s fun v s' => v = .slice none 0 0 ∧ Ch [] s s' := by
  refine F124_calls _ _ _  ?_
  unfold F124
  refine sB_t (by rfl) ?_
  refine ret_t ?_
  exact ⟨rfl, (Ch.refl [] s)⟩
/-- (*bollard/check.Checker).Pass -/
theorem c_kPass1 (kp σk q m1 m2 sp σ vp : Nat) (a b c gen : Int) (s : TH) (hk : Blk s kp [.pointer (some ⟨sp, 0, none⟩), .int .i64 a, .int .i64 b, .int .i64 c, .slice (some ⟨q, 0, none⟩) 4 4, .int .i64 0, .int .i64 0, .map (some m1), .map (some m2), .slice none 0 0] 112 σk)  : TRet Tryz.prog 41 #[.pointer (some ⟨kp, 0, none⟩)] s fun v s' => v = .int .i64 1 ∧ Ch [] s s' := by
  refine F41_calls _  ?_
  unfold F41
  refine jn_u ?_
  refine sB_f (by rfl) ?_
  refine nz_i ?_
  refine ld_t hk rfl ?_
  refine dInt_i ?_
  refine nz_i ?_
  refine ld_t hk rfl ?_
  refine dSl_i ?_
  refine ⟨?_, ?_⟩
  ·
    refine ld_t hk rfl ?_
    refine dInt_i ?_
    rfl
  ·
    intro _
    intros
    refine dBl_i ?_
    refine sB_d (fun hsB2 => by exfalso; omega) (fun hsB2 => ?_)
    refine nz_i ?_
    refine ld_t hk rfl ?_
    refine dInt_i ?_
    refine wr_t (by omega) ?_
    refine ret_t ?_
    exact ⟨rfl, (Ch.refl [] s)⟩
/-- (*bollard/check.Checker).Done -/
theorem c_kDone1 (kp σk q m1 m2 sp σ vp : Nat) (a b c gen : Int) (s : TH) (hk : Blk s kp [.pointer (some ⟨sp, 0, none⟩), .int .i64 a, .int .i64 b, .int .i64 c, .slice (some ⟨q, 0, none⟩) 4 4, .int .i64 0, .int .i64 0, .map (some m1), .map (some m2), .slice none 0 0] 112 σk)  : TRet Tryz.prog 42 #[.pointer (some ⟨kp, 0, none⟩)] s fun v s' => v = .bool false ∧ Ch [] s s' := by
  refine F42_calls _  ?_
  unfold F42
  refine tcall (c_kPass1 kp σk q m1 m2 sp σ vp a b c gen _ hk) ?_
  rintro v_2 s_1 ⟨rfl, c_4⟩
  have z_5 := c_4.size
  refine dInt_i ?_
  refine ret_t ?_
  exact ⟨rfl, ((Ch.refl [] s).ch c_4 (by simp))⟩
/-- (*bollard/check.Checker).inode -/
theorem c_kino (kp σk q m1 m2 sp σ vp : Nat) (a b c gen : Int) (s : TH) (hk : Blk s kp [.pointer (some ⟨sp, 0, none⟩), .int .i64 a, .int .i64 b, .int .i64 c, .slice (some ⟨q, 0, none⟩) 4 4, .int .i64 0, .int .i64 0, .map (some m1), .map (some m2), .slice none 0 0] 112 σk) (hs : Blk s sp [.int .i32 0, .int .u32 0, .pointer (some ⟨vp, 0, none⟩), .int .i64 a, .int .i64 b, .int .i64 c, .int .i64 gen, .bool true] 120 σ) (hne : σ ≠ σk) (hcan : canG a b c) : TRet Tryz.prog 299 #[.pointer (some ⟨kp, 0, none⟩), .int .i64 0] s fun v s' => v = .tuple #[.agg #[.int .i64 0, .int .i64 0, .int .i64 0, .int .i64 0, .int .i64 0, .int .i64 0, .int .i64 0, .int .i64 0, .int .i64 0], .int .i64 100] ∧ Ch [σ] s s' ∧ Blk s' kp [.pointer (some ⟨sp, 0, none⟩), .int .i64 a, .int .i64 b, .int .i64 c, .slice (some ⟨q, 0, none⟩) 4 4, .int .i64 0, .int .i64 0, .map (some m1), .map (some m2), .slice none 0 0] 112 σk ∧ Blk s' sp [.int .i32 0, .int .u32 0, .pointer (some ⟨vp, 0, none⟩), .int .i64 a, .int .i64 b, .int .i64 c, .int .i64 gen, .bool true] 120 σ := by
  have hac : 1 * 4 ≤ a * c := Int.mul_le_mul (by unfold canG at hcan; omega) (by unfold canG at hcan; omega) (by omega) (by unfold canG at hcan; omega)
  obtain ⟨M, hM, hM0, hMa, hMb, hMc, hMd, hMe, hMf⟩ := fresh6 s σk σ 0 0 0 0
  refine F299_calls _ _  ?_
  unfold F299
  refine al_t (M + 1) fun r1 s2 hr1 b_1 c_2 z_3 => ?_
  refine nz_i ?_
  have h_4 := hk.ch c_2 (by simp)
  refine ld_t h_4 rfl ?_
  refine ld_t h_4 rfl ?_
  refine ld_t h_4 rfl ?_
  refine tcall (gc_inode a b c 0 hcan (by omega) _) ?_
  rintro v_6 s_5 ⟨rfl, c_8⟩
  have z_9 := c_8.size
  refine dT3 ?_
  refine dInt_i ?_
  refine dInt_i ?_
  refine dBl_i ?_
  refine sB_f (by rfl) ?_
  refine nz_i ?_
  have h_10 := h_4.ch c_8 (by simp)
  refine ld_t h_10 rfl ?_
  refine dPtr_i ?_
  have h_11 := hs.ch (c_2.app c_8) (by simp)
  refine tcall (c_sreadG sp σ vp a b c gen _ _ h_11) ?_
  rintro v_13 s_12 ⟨rfl, c_15, call2a⟩
  have z_16 := c_15.size
  refine dT2 ?_
  refine dSl_i ?_
  refine dInt_i ?_
  refine sB_t (by rfl) ?_
  have h_20 := b_1.ch (c_8.app c_15) (by simp <;> omega)
  refine st_t h_20 rfl (by simp) fun s44 b_17 c_18o z_19 => ?_
  have c_18 := on_ch h_20 c_18o
  refine st_t b_17 rfl (by simp) fun s45 b_21 c_22o z_23 => ?_
  have c_22 := on_ch b_17 c_22o
  refine st_t b_21 rfl (by simp) fun s46 b_24 c_25o z_26 => ?_
  have c_25 := on_ch b_21 c_25o
  refine st_t b_24 rfl (by simp) fun s47 b_27 c_28o z_29 => ?_
  have c_28 := on_ch b_24 c_28o
  refine st_t b_27 rfl (by simp) fun s48 b_30 c_31o z_32 => ?_
  have c_31 := on_ch b_27 c_31o
  refine st_t b_30 rfl (by simp) fun s49 b_33 c_34o z_35 => ?_
  have c_34 := on_ch b_30 c_34o
  refine st_t b_33 rfl (by simp) fun s50 b_36 c_37o z_38 => ?_
  have c_37 := on_ch b_33 c_37o
  refine st_t b_36 rfl (by simp) fun s51 b_39 c_40o z_41 => ?_
  have c_40 := on_ch b_36 c_40o
  refine st_t b_39 rfl (by simp) fun s52 b_42 c_43o z_44 => ?_
  have c_43 := on_ch b_39 c_43o
  refine ld_t b_42 rfl ?_
  refine ld_t b_42 rfl ?_
  refine ld_t b_42 rfl ?_
  refine ld_t b_42 rfl ?_
  refine ld_t b_42 rfl ?_
  refine ld_t b_42 rfl ?_
  refine ld_t b_42 rfl ?_
  refine ld_t b_42 rfl ?_
  refine ld_t b_42 rfl ?_
  refine ret_t ?_
  have h_45 := h_10.ch (((((((((c_15.app c_18).app c_22).app c_25).app c_28).app c_31).app c_34).app c_37).app c_40).app c_43) (by simp <;> omega)
  have h_46 := call2a.ch ((((((((c_18.app c_22).app c_25).app c_28).app c_31).app c_34).app c_37).app c_40).app c_43) (by simp <;> omega)
  exact ⟨rfl, (((((((((((((Ch.refl [σ] s).ch c_2 (by simp)).ch c_8 (by simp)).ch c_15 (by simp)).fr c_18 hM (by simp)).fr c_22 hM (by simp)).fr c_25 hM (by simp)).fr c_28 hM (by simp)).fr c_31 hM (by simp)).fr c_34 hM (by simp)).fr c_37 hM (by simp)).fr c_40 hM (by simp)).fr c_43 hM (by simp)), h_45, h_46⟩
/-- bollard/check.blocks -/
theorem c_kblocks (kp σk q m1 m2 sp σ vp : Nat) (a b c gen : Int) (s : TH) (hk : Blk s kp [.pointer (some ⟨sp, 0, none⟩), .int .i64 a, .int .i64 b, .int .i64 c, .slice (some ⟨q, 0, none⟩) 4 4, .int .i64 0, .int .i64 0, .map (some m1), .map (some m2), .slice none 0 0] 112 σk) (hs : Blk s sp [.int .i32 0, .int .u32 0, .pointer (some ⟨vp, 0, none⟩), .int .i64 a, .int .i64 b, .int .i64 c, .int .i64 gen, .bool true] 120 σ) (hne : σ ≠ σk) (hcan : canG a b c) : TRet Tryz.prog 223 #[.pointer (some ⟨kp, 0, none⟩)] s fun v s' => v = .tuple #[.slice none 0 0, .int .i64 100] ∧ Ch [σ] s s' ∧ Blk s' kp [.pointer (some ⟨sp, 0, none⟩), .int .i64 a, .int .i64 b, .int .i64 c, .slice (some ⟨q, 0, none⟩) 4 4, .int .i64 0, .int .i64 0, .map (some m1), .map (some m2), .slice none 0 0] 112 σk ∧ Blk s' sp [.int .i32 0, .int .u32 0, .pointer (some ⟨vp, 0, none⟩), .int .i64 a, .int .i64 b, .int .i64 c, .int .i64 gen, .bool true] 120 σ := by
  obtain ⟨M, hM, hM0, hMa, hMb, hMc, hMd, hMe, hMf⟩ := fresh6 s σk σ 0 0 0 0
  refine F223_calls _  ?_
  unfold F223
  refine nz_i ?_
  refine ld_t hk rfl ?_
  refine dInt_i ?_
  refine tcall (c_kino kp σk q m1 m2 sp σ vp a b c gen _ hk hs hne hcan) ?_
  rintro v_2 s_1 ⟨rfl, c_4, call1a, call1b⟩
  have z_5 := c_4.size
  refine dT2 ?_
  refine dA9 ?_
  refine dInt_i ?_
  refine al_t (M + 1) fun r18 s19 hr18 b_6 c_7 z_8 => ?_
  refine st_t b_6 rfl (by simp) fun s20 b_9 c_10o z_11 => ?_
  have c_10 := on_ch b_6 c_10o
  refine st_t b_9 rfl (by simp) fun s21 b_12 c_13o z_14 => ?_
  have c_13 := on_ch b_9 c_13o
  refine st_t b_12 rfl (by simp) fun s22 b_15 c_16o z_17 => ?_
  have c_16 := on_ch b_12 c_16o
  refine st_t b_15 rfl (by simp) fun s23 b_18 c_19o z_20 => ?_
  have c_19 := on_ch b_15 c_19o
  refine st_t b_18 rfl (by simp) fun s24 b_21 c_22o z_23 => ?_
  have c_22 := on_ch b_18 c_22o
  refine st_t b_21 rfl (by simp) fun s25 b_24 c_25o z_26 => ?_
  have c_25 := on_ch b_21 c_25o
  refine st_t b_24 rfl (by simp) fun s26 b_27 c_28o z_29 => ?_
  have c_28 := on_ch b_24 c_28o
  refine st_t b_27 rfl (by simp) fun s27 b_30 c_31o z_32 => ?_
  have c_31 := on_ch b_27 c_31o
  refine st_t b_30 rfl (by simp) fun s28 b_33 c_34o z_35 => ?_
  have c_34 := on_ch b_30 c_34o
  refine sB_t (by rfl) ?_
  refine ret_t ?_
  have h_36 := call1a.ch (((((((((c_7.app c_10).app c_13).app c_16).app c_19).app c_22).app c_25).app c_28).app c_31).app c_34) (by simp <;> omega)
  have h_37 := call1b.ch (((((((((c_7.app c_10).app c_13).app c_16).app c_19).app c_22).app c_25).app c_28).app c_31).app c_34) (by simp <;> omega)
  exact ⟨rfl, ((((((((((((Ch.refl [σ] s).ch c_4 (by simp)).ch c_7 (by simp)).fr c_10 hM (by simp)).fr c_13 hM (by simp)).fr c_16 hM (by simp)).fr c_19 hM (by simp)).fr c_22 hM (by simp)).fr c_25 hM (by simp)).fr c_28 hM (by simp)).fr c_31 hM (by simp)).fr c_34 hM (by simp)), h_36, h_37⟩
set_option maxRecDepth 100000 in
/-- (*bollard/check.Checker).step -/
theorem c_kstep (kp σk q m1 m2 sp σ vp : Nat) (a b c gen : Int) (τq : Nat) (s : TH) (hk : Blk s kp [.pointer (some ⟨sp, 0, none⟩), .int .i64 a, .int .i64 b, .int .i64 c, .slice (some ⟨q, 0, none⟩) 4 4, .int .i64 0, .int .i64 0, .map (some m1), .map (some m2), .slice none 0 0] 112 σk) (hs : Blk s sp [.int .i32 0, .int .u32 0, .pointer (some ⟨vp, 0, none⟩), .int .i64 a, .int .i64 b, .int .i64 c, .int .i64 gen, .bool true] 120 σ) (hne : σ ≠ σk) (hq : Blk s q [.func (.func 223) #[] #[], .func (.func 224) #[] #[], .func (.func 225) #[] #[], .func (.func 226) #[] #[], .func (.func 227) #[] #[], .func (.func 224) #[] #[], .func (.func 228) #[] #[], .func (.func 229) #[] #[]] 306 τq) (hcan : canG a b c) : TRet Tryz.prog 125 #[.pointer (some ⟨kp, 0, none⟩)] s fun v s' => v = .tuple #[.slice none 0 0, .int .i64 100] ∧ Ch [σ] s s' ∧ Blk s' kp [.pointer (some ⟨sp, 0, none⟩), .int .i64 a, .int .i64 b, .int .i64 c, .slice (some ⟨q, 0, none⟩) 4 4, .int .i64 0, .int .i64 0, .map (some m1), .map (some m2), .slice none 0 0] 112 σk ∧ Blk s' sp [.int .i32 0, .int .u32 0, .pointer (some ⟨vp, 0, none⟩), .int .i64 a, .int .i64 b, .int .i64 c, .int .i64 gen, .bool true] 120 σ := by
  refine F125_calls _  ?_
  unfold F125
  refine nz_i ?_
  refine ld_t hk rfl ?_
  refine dSl_i ?_
  refine nz_i ?_
  refine ld_t hk rfl ?_
  refine dInt_i ?_
  refine nz_i ?_
  refine ask_t (by omega) ?_
  refine ld_t hq rfl ?_
  refine dFn_i ?_
  refine gB_i rfl ?_
  simp only [argsOf, List.nil_append, List.append_nil]
  refine tcall (c_kblocks kp σk q m1 m2 sp σ vp a b c gen _ hk hs hne hcan) ?_
  rintro v_2 s_1 ⟨rfl, c_4, call1a, call1b⟩
  have z_5 := c_4.size
  refine dT2 ?_
  refine dSl_i ?_
  refine dInt_i ?_
  refine sB_t (by rfl) ?_
  refine ret_t ?_
  exact ⟨rfl, ((Ch.refl [σ] s).ch c_4 (by simp)), call1a, call1b⟩
/-- (*bollard/check.Checker).Step -/
theorem c_kStepG (kp σk q m1 m2 sp σ vp : Nat) (a b c gen : Int) (τq : Nat) (τm : Nat) (s : TH) (hk : Blk s kp [.pointer (some ⟨sp, 0, none⟩), .int .i64 a, .int .i64 b, .int .i64 c, .slice (some ⟨q, 0, none⟩) 4 4, .int .i64 0, .int .i64 0, .map (some m1), .map (some m2), .slice none 0 0] 112 σk) (hs : Blk s sp [.int .i32 0, .int .u32 0, .pointer (some ⟨vp, 0, none⟩), .int .i64 a, .int .i64 b, .int .i64 c, .int .i64 gen, .bool true] 120 σ) (hne : σ ≠ σk) (hq : Blk s q [.func (.func 223) #[] #[], .func (.func 224) #[] #[], .func (.func 225) #[] #[], .func (.func 226) #[] #[], .func (.func 227) #[] #[], .func (.func 224) #[] #[], .func (.func 228) #[] #[], .func (.func 229) #[] #[]] 306 τq) (hm1 : MapK (Value.int .i64) s m1 [] τm) (hm2 : MapK (Value.int .i64) s m2 [] τm) (hnm : σk ≠ τm ∧ σ ≠ τm ∧ σk ≠ τq ∧ σ ≠ τq) (hcan : canG a b c) : TRet Tryz.prog 40 #[.pointer (some ⟨kp, 0, none⟩)] s fun v s' => v = .tuple #[.slice none 0 0, .int .i64 100] ∧ Ch [σ, σk] s s' ∧ Blk s' sp [.int .i32 0, .int .u32 0, .pointer (some ⟨vp, 0, none⟩), .int .i64 a, .int .i64 b, .int .i64 c, .int .i64 gen, .bool true] 120 σ := by
  obtain ⟨M, hM, hM0, hMa, hMb, hMc, hMd, hMe, hMf⟩ := fresh6 s σk σ τq τm 0 0
  refine F40_calls _  ?_
  unfold F40
  refine jn_u ?_
  refine sB_f (by rfl) ?_
  refine nz_i ?_
  refine ld_t hk rfl ?_
  refine dPtr_i ?_
  intro _
  intros
  refine dBl_i ?_
  refine sB_f (by rfl) ?_
  refine tcall (c_kDone1 kp σk q m1 m2 sp σ vp a b c gen _ hk) ?_
  rintro v_2 s_1 ⟨rfl, c_4⟩
  have z_5 := c_4.size
  refine dBl_i ?_
  refine sB_f (by rfl) ?_
  refine nz_i ?_
  have h_6 := hk.ch c_4 (by simp)
  refine ld_t h_6 rfl ?_
  refine dInt_i ?_
  refine nz_i ?_
  refine ld_t h_6 rfl ?_
  refine dInt_i ?_
  refine nz_i ?_
  refine ld_t h_6 rfl ?_
  refine dMap_i ?_
  refine nz_i ?_
  refine ld_t h_6 rfl ?_
  refine dMap_i ?_
  refine nz_i ?_
  refine ld_t h_6 rfl ?_
  refine dSl_i ?_
  refine ⟨?_, ?_⟩
  ·
    have h_7 := hm1.ch c_4 (by simp)
    refine tcall (c_mcloneO _ _ _ _ h_7) ?_
    rintro v_9 s_8 ⟨qcall2, rfl, c_11⟩
    have z_12 := c_11.size
    refine dMap_i ?_
    refine ⟨?_, ?_⟩
    ·
      have h_13 := h_6.ch c_11 (by simp)
      refine ld_t h_13 rfl ?_
      refine dSl_i ?_
      rfl
    ·
      refine ⟨?_, ?_⟩
      ·
        have h_14 := h_6.ch c_11 (by simp)
        refine ld_t h_14 rfl ?_
        refine dMap_i ?_
        rfl
      ·
        refine ⟨?_, ?_⟩
        ·
          have h_15 := h_6.ch c_11 (by simp)
          refine ld_t h_15 rfl ?_
          refine dInt_i ?_
          rfl
        ·
          refine ⟨?_, ?_⟩
          ·
            have h_16 := h_6.ch c_11 (by simp)
            refine ld_t h_16 rfl ?_
            refine dInt_i ?_
            rfl
          ·
            refine ⟨?_, ?_⟩
            ·
              have h_17 := hm2.ch (c_4.app c_11) (by simp)
              refine tcall (c_mcloneC _ _ _ _ h_17) ?_
              rintro v_19 s_18 ⟨qcall3, rfl, c_21⟩
              have z_22 := c_21.size
              refine dMap_i ?_
              refine ⟨?_, ?_⟩
              ·
                have h_23 := h_6.ch (c_11.app c_21) (by simp)
                refine ld_t h_23 rfl ?_
                refine dSl_i ?_
                rfl
              ·
                refine ⟨?_, ?_⟩
                ·
                  have h_24 := h_6.ch (c_11.app c_21) (by simp)
                  refine ld_t h_24 rfl ?_
                  refine dInt_i ?_
                  rfl
                ·
                  refine ⟨?_, ?_⟩
                  ·
                    have h_25 := h_6.ch (c_11.app c_21) (by simp)
                    refine ld_t h_25 rfl ?_
                    refine dInt_i ?_
                    rfl
                  ·
                    refine ⟨?_, ?_⟩
                    ·
                      refine tcall (c_sclone0 _) ?_
                      rintro v_27 s_26 ⟨rfl, c_29⟩
                      have z_30 := c_29.size
                      refine dSl_i ?_
                      refine ⟨?_, ?_⟩
                      ·
                        have h_31 := h_6.ch ((c_11.app c_21).app c_29) (by simp)
                        refine ld_t h_31 rfl ?_
                        refine dInt_i ?_
                        rfl
                      ·
                        refine ⟨?_, ?_⟩
                        ·
                          have h_32 := h_6.ch ((c_11.app c_21).app c_29) (by simp)
                          refine ld_t h_32 rfl ?_
                          refine dInt_i ?_
                          rfl
                        ·
                          refine al_t (M + 1) fun r65 s66 hr65 b_33 c_34 z_35 => ?_
                          refine ⟨?_, ?_⟩
                          ·
                            have h_36 := h_6.ch (((c_11.app c_21).app c_29).app c_34) (by simp)
                            refine ld_t h_36 rfl ?_
                            refine dInt_i ?_
                            rfl
                          ·
                            refine ⟨?_, ?_⟩
                            ·
                              have h_37 := h_6.ch (((c_11.app c_21).app c_29).app c_34) (by simp)
                              refine ld_t h_37 rfl ?_
                              refine dInt_i ?_
                              rfl
                            ·
                              refine st_t b_33 rfl (by simp) fun s71 b_38 c_39o z_40 => ?_
                              have c_39 := on_ch b_33 c_39o
                              refine st_t b_38 rfl (by simp) fun s72 b_41 c_42o z_43 => ?_
                              have c_42 := on_ch b_38 c_42o
                              refine st_t b_41 rfl (by simp) fun s73 b_44 c_45o z_46 => ?_
                              have c_45 := on_ch b_41 c_45o
                              refine st_t b_44 rfl (by simp) fun s74 b_47 c_48o z_49 => ?_
                              have c_48 := on_ch b_44 c_48o
                              refine st_t b_47 rfl (by simp) fun s75 b_50 c_51o z_52 => ?_
                              have c_51 := on_ch b_47 c_51o
                              have h_53 := h_6.ch ((((((((c_11.app c_21).app c_29).app c_34).app c_39).app c_42).app c_45).app c_48).app c_51) (by simp <;> omega)
                              have h_54 := hs.ch (((((((((c_4.app c_11).app c_21).app c_29).app c_34).app c_39).app c_42).app c_45).app c_48).app c_51) (by simp <;> omega)
                              have h_55 := hq.ch (((((((((c_4.app c_11).app c_21).app c_29).app c_34).app c_39).app c_42).app c_45).app c_48).app c_51) (by simp <;> omega)
                              refine tcall (c_kstep kp σk q m1 m2 sp σ vp a b c gen τq _ h_53 h_54 hne h_55 hcan) ?_
                              rintro v_57 s_56 ⟨rfl, c_59, call5a, call5b⟩
                              have z_60 := c_59.size
                              refine dT2 ?_
                              refine dSl_i ?_
                              refine dInt_i ?_
                              refine sB_t (by rfl) ?_
                              have h_61 := b_50.ch c_59 (by simp <;> omega)
                              refine ld_t h_61 rfl ?_
                              refine ld_t h_61 rfl ?_
                              refine ld_t h_61 rfl ?_
                              refine ld_t h_61 rfl ?_
                              refine ld_t h_61 rfl ?_
                              refine nz_i ?_
                              refine st_t (r := kp) (i := 5) call5a rfl (by simp) fun s90 b_62 c_63o z_64 => ?_
                              have c_63 := on_ch call5a c_63o
                              refine st_t (r := kp) (i := 6) b_62 rfl (by simp) fun s91 b_65 c_66o z_67 => ?_
                              have c_66 := on_ch b_62 c_66o
                              refine st_t (r := kp) (i := 7) b_65 rfl (by simp) fun s92 b_68 c_69o z_70 => ?_
                              have c_69 := on_ch b_65 c_69o
                              refine st_t (r := kp) (i := 8) b_68 rfl (by simp) fun s93 b_71 c_72o z_73 => ?_
                              have c_72 := on_ch b_68 c_72o
                              refine st_t (r := kp) (i := 9) b_71 rfl (by simp) fun s94 b_74 c_75o z_76 => ?_
                              have c_75 := on_ch b_71 c_75o
                              refine ret_t ?_
                              have h_77 := call5b.ch ((((c_63.app c_66).app c_69).app c_72).app c_75) (by simp <;> omega)
                              exact ⟨rfl, (((((((((((((((((Ch.refl [σ, σk] s).ch c_4 (by simp)).ch c_11 (by simp)).ch c_21 (by simp)).ch c_29 (by simp)).ch c_34 (by simp)).fr c_39 hM (by simp)).fr c_42 hM (by simp)).fr c_45 hM (by simp)).fr c_48 hM (by simp)).fr c_51 hM (by simp)).ch c_59 (by simp)).ch c_63 (by simp)).ch c_66 (by simp)).ch c_69 (by simp)).ch c_72 (by simp)).ch c_75 (by simp)), h_77⟩
                    ·
                      refine al_t (M + 1) fun r99 s100 hr99 b_78 c_79 z_80 => ?_
                      refine ⟨?_, ?_⟩
                      ·
                        have h_81 := h_6.ch ((c_11.app c_21).app c_79) (by simp)
                        refine ld_t h_81 rfl ?_
                        refine dSl_i ?_
                        rfl
                      ·
                        refine ⟨?_, ?_⟩
                        ·
                          have h_82 := h_6.ch ((c_11.app c_21).app c_79) (by simp)
                          refine ld_t h_82 rfl ?_
                          refine dInt_i ?_
                          rfl
                        ·
                          refine ⟨?_, ?_⟩
                          ·
                            have h_83 := h_6.ch ((c_11.app c_21).app c_79) (by simp)
                            refine ld_t h_83 rfl ?_
                            refine dInt_i ?_
                            rfl
                          ·
                            refine tcall (c_sclone0 _) ?_
                            rintro v_85 s_84 ⟨rfl, c_87⟩
                            have z_88 := c_87.size
                            refine dSl_i ?_
                            refine ⟨?_, ?_⟩
                            ·
                              have h_89 := h_6.ch (((c_11.app c_21).app c_79).app c_87) (by simp)
                              refine ld_t h_89 rfl ?_
                              refine dInt_i ?_
                              rfl
                            ·
                              refine ⟨?_, ?_⟩
                              ·
                                have h_90 := h_6.ch (((c_11.app c_21).app c_79).app c_87) (by simp)
                                refine ld_t h_90 rfl ?_
                                refine dInt_i ?_
                                rfl
                              ·
                                have h_94 := b_78.ch c_87 (by simp)
                                refine st_t h_94 rfl (by simp) fun s118 b_91 c_92o z_93 => ?_
                                have c_92 := on_ch h_94 c_92o
                                refine st_t b_91 rfl (by simp) fun s119 b_95 c_96o z_97 => ?_
                                have c_96 := on_ch b_91 c_96o
                                refine st_t b_95 rfl (by simp) fun s120 b_98 c_99o z_100 => ?_
                                have c_99 := on_ch b_95 c_99o
                                refine st_t b_98 rfl (by simp) fun s121 b_101 c_102o z_103 => ?_
                                have c_102 := on_ch b_98 c_102o
                                refine st_t b_101 rfl (by simp) fun s122 b_104 c_105o z_106 => ?_
                                have c_105 := on_ch b_101 c_105o
                                have h_107 := h_6.ch ((((((((c_11.app c_21).app c_79).app c_87).app c_92).app c_96).app c_99).app c_102).app c_105) (by simp <;> omega)
                                have h_108 := hs.ch (((((((((c_4.app c_11).app c_21).app c_79).app c_87).app c_92).app c_96).app c_99).app c_102).app c_105) (by simp <;> omega)
                                have h_109 := hq.ch (((((((((c_4.app c_11).app c_21).app c_79).app c_87).app c_92).app c_96).app c_99).app c_102).app c_105) (by simp <;> omega)
                                refine tcall (c_kstep kp σk q m1 m2 sp σ vp a b c gen τq _ h_107 h_108 hne h_109 hcan) ?_
                                rintro v_111 s_110 ⟨rfl, c_113, call7a, call7b⟩
                                have z_114 := c_113.size
                                refine dT2 ?_
                                refine dSl_i ?_
                                refine dInt_i ?_
                                refine sB_t (by rfl) ?_
                                have h_115 := b_104.ch c_113 (by simp <;> omega)
                                refine ld_t h_115 rfl ?_
                                refine ld_t h_115 rfl ?_
                                refine ld_t h_115 rfl ?_
                                refine ld_t h_115 rfl ?_
                                refine ld_t h_115 rfl ?_
                                refine nz_i ?_
                                refine st_t (r := kp) (i := 5) call7a rfl (by simp) fun s137 b_116 c_117o z_118 => ?_
                                have c_117 := on_ch call7a c_117o
                                refine st_t (r := kp) (i := 6) b_116 rfl (by simp) fun s138 b_119 c_120o z_121 => ?_
                                have c_120 := on_ch b_116 c_120o
                                refine st_t (r := kp) (i := 7) b_119 rfl (by simp) fun s139 b_122 c_123o z_124 => ?_
                                have c_123 := on_ch b_119 c_123o
                                refine st_t (r := kp) (i := 8) b_122 rfl (by simp) fun s140 b_125 c_126o z_127 => ?_
                                have c_126 := on_ch b_122 c_126o
                                refine st_t (r := kp) (i := 9) b_125 rfl (by simp) fun s141 b_128 c_129o z_130 => ?_
                                have c_129 := on_ch b_125 c_129o
                                refine ret_t ?_
                                have h_131 := call7b.ch ((((c_117.app c_120).app c_123).app c_126).app c_129) (by simp <;> omega)
                                exact ⟨rfl, (((((((((((((((((Ch.refl [σ, σk] s).ch c_4 (by simp)).ch c_11 (by simp)).ch c_21 (by simp)).ch c_79 (by simp)).ch c_87 (by simp)).fr c_92 hM (by simp)).fr c_96 hM (by simp)).fr c_99 hM (by simp)).fr c_102 hM (by simp)).fr c_105 hM (by simp)).ch c_113 (by simp)).ch c_117 (by simp)).ch c_120 (by simp)).ch c_123 (by simp)).ch c_126 (by simp)).ch c_129 (by simp)), h_131⟩
            ·
              refine al_t (M + 1) fun r148 s149 hr148 b_132 c_133 z_134 => ?_
              refine ⟨?_, ?_⟩
              ·
                have h_135 := h_6.ch (c_11.app c_133) (by simp)
                refine ld_t h_135 rfl ?_
                refine dSl_i ?_
                rfl
              ·
                refine ⟨?_, ?_⟩
                ·
                  have h_136 := h_6.ch (c_11.app c_133) (by simp)
                  refine ld_t h_136 rfl ?_
                  refine dMap_i ?_
                  rfl
                ·
                  refine ⟨?_, ?_⟩
                  ·
                    have h_137 := h_6.ch (c_11.app c_133) (by simp)
                    refine ld_t h_137 rfl ?_
                    refine dInt_i ?_
                    rfl
                  ·
                    refine ⟨?_, ?_⟩
                    ·
                      have h_138 := h_6.ch (c_11.app c_133) (by simp)
                      refine ld_t h_138 rfl ?_
                      refine dInt_i ?_
                      rfl
                    ·
                      have h_139 := hm2.ch ((c_4.app c_11).app c_133) (by simp)
                      refine tcall (c_mcloneC _ _ _ _ h_139) ?_
                      rintro v_141 s_140 ⟨qcall8, rfl, c_143⟩
                      have z_144 := c_143.size
                      refine dMap_i ?_
                      refine ⟨?_, ?_⟩
                      ·
                        have h_145 := h_6.ch ((c_11.app c_133).app c_143) (by simp)
                        refine ld_t h_145 rfl ?_
                        refine dSl_i ?_
                        rfl
                      ·
                        refine ⟨?_, ?_⟩
                        ·
                          have h_146 := h_6.ch ((c_11.app c_133).app c_143) (by simp)
                          refine ld_t h_146 rfl ?_
                          refine dInt_i ?_
                          rfl
                        ·
                          refine ⟨?_, ?_⟩
                          ·
                            have h_147 := h_6.ch ((c_11.app c_133).app c_143) (by simp)
                            refine ld_t h_147 rfl ?_
                            refine dInt_i ?_
                            rfl
                          ·
                            refine tcall (c_sclone0 _) ?_
                            rintro v_149 s_148 ⟨rfl, c_151⟩
                            have z_152 := c_151.size
                            refine dSl_i ?_
                            refine ⟨?_, ?_⟩
                            ·
                              have h_153 := h_6.ch (((c_11.app c_133).app c_143).app c_151) (by simp)
                              refine ld_t h_153 rfl ?_
                              refine dInt_i ?_
                              rfl
                            ·
                              refine ⟨?_, ?_⟩
                              ·
                                have h_154 := h_6.ch (((c_11.app c_133).app c_143).app c_151) (by simp)
                                refine ld_t h_154 rfl ?_
                                refine dInt_i ?_
                                rfl
                              ·
                                have h_158 := b_132.ch (c_143.app c_151) (by simp)
                                refine st_t h_158 rfl (by simp) fun s180 b_155 c_156o z_157 => ?_
                                have c_156 := on_ch h_158 c_156o
                                refine st_t b_155 rfl (by simp) fun s181 b_159 c_160o z_161 => ?_
                                have c_160 := on_ch b_155 c_160o
                                refine st_t b_159 rfl (by simp) fun s182 b_162 c_163o z_164 => ?_
                                have c_163 := on_ch b_159 c_163o
                                refine st_t b_162 rfl (by simp) fun s183 b_165 c_166o z_167 => ?_
                                have c_166 := on_ch b_162 c_166o
                                refine st_t b_165 rfl (by simp) fun s184 b_168 c_169o z_170 => ?_
                                have c_169 := on_ch b_165 c_169o
                                have h_171 := h_6.ch ((((((((c_11.app c_133).app c_143).app c_151).app c_156).app c_160).app c_163).app c_166).app c_169) (by simp <;> omega)
                                have h_172 := hs.ch (((((((((c_4.app c_11).app c_133).app c_143).app c_151).app c_156).app c_160).app c_163).app c_166).app c_169) (by simp <;> omega)
                                have h_173 := hq.ch (((((((((c_4.app c_11).app c_133).app c_143).app c_151).app c_156).app c_160).app c_163).app c_166).app c_169) (by simp <;> omega)
                                refine tcall (c_kstep kp σk q m1 m2 sp σ vp a b c gen τq _ h_171 h_172 hne h_173 hcan) ?_
                                rintro v_175 s_174 ⟨rfl, c_177, call10a, call10b⟩
                                have z_178 := c_177.size
                                refine dT2 ?_
                                refine dSl_i ?_
                                refine dInt_i ?_
                                refine sB_t (by rfl) ?_
                                have h_179 := b_168.ch c_177 (by simp <;> omega)
                                refine ld_t h_179 rfl ?_
                                refine ld_t h_179 rfl ?_
                                refine ld_t h_179 rfl ?_
                                refine ld_t h_179 rfl ?_
                                refine ld_t h_179 rfl ?_
                                refine nz_i ?_
                                refine st_t (r := kp) (i := 5) call10a rfl (by simp) fun s199 b_180 c_181o z_182 => ?_
                                have c_181 := on_ch call10a c_181o
                                refine st_t (r := kp) (i := 6) b_180 rfl (by simp) fun s200 b_183 c_184o z_185 => ?_
                                have c_184 := on_ch b_180 c_184o
                                refine st_t (r := kp) (i := 7) b_183 rfl (by simp) fun s201 b_186 c_187o z_188 => ?_
                                have c_187 := on_ch b_183 c_187o
                                refine st_t (r := kp) (i := 8) b_186 rfl (by simp) fun s202 b_189 c_190o z_191 => ?_
                                have c_190 := on_ch b_186 c_190o
                                refine st_t (r := kp) (i := 9) b_189 rfl (by simp) fun s203 b_192 c_193o z_194 => ?_
                                have c_193 := on_ch b_189 c_193o
                                refine ret_t ?_
                                have h_195 := call10b.ch ((((c_181.app c_184).app c_187).app c_190).app c_193) (by simp <;> omega)
                                exact ⟨rfl, (((((((((((((((((Ch.refl [σ, σk] s).ch c_4 (by simp)).ch c_11 (by simp)).ch c_133 (by simp)).ch c_143 (by simp)).ch c_151 (by simp)).fr c_156 hM (by simp)).fr c_160 hM (by simp)).fr c_163 hM (by simp)).fr c_166 hM (by simp)).fr c_169 hM (by simp)).ch c_177 (by simp)).ch c_181 (by simp)).ch c_184 (by simp)).ch c_187 (by simp)).ch c_190 (by simp)).ch c_193 (by simp)), h_195⟩
  ·
    refine al_t (M + 1) fun r212 s213 hr212 b_196 c_197 z_198 => ?_
    refine ⟨?_, ?_⟩
    ·
      have h_199 := h_6.ch c_197 (by simp)
      refine ld_t h_199 rfl ?_
      refine dSl_i ?_
      rfl
    ·
      refine ⟨?_, ?_⟩
      ·
        have h_200 := h_6.ch c_197 (by simp)
        refine ld_t h_200 rfl ?_
        refine dMap_i ?_
        rfl
      ·
        refine ⟨?_, ?_⟩
        ·
          have h_201 := h_6.ch c_197 (by simp)
          refine ld_t h_201 rfl ?_
          refine dMap_i ?_
          rfl
        ·
          refine ⟨?_, ?_⟩
          ·
            have h_202 := h_6.ch c_197 (by simp)
            refine ld_t h_202 rfl ?_
            refine dInt_i ?_
            rfl
          ·
            refine ⟨?_, ?_⟩
            ·
              have h_203 := h_6.ch c_197 (by simp)
              refine ld_t h_203 rfl ?_
              refine dInt_i ?_
              rfl
            ·
              have h_204 := hm1.ch (c_4.app c_197) (by simp)
              refine tcall (c_mcloneO _ _ _ _ h_204) ?_
              rintro v_206 s_205 ⟨qcall11, rfl, c_208⟩
              have z_209 := c_208.size
              refine dMap_i ?_
              refine ⟨?_, ?_⟩
              ·
                have h_210 := h_6.ch (c_197.app c_208) (by simp)
                refine ld_t h_210 rfl ?_
                refine dSl_i ?_
                rfl
              ·
                refine ⟨?_, ?_⟩
                ·
                  have h_211 := h_6.ch (c_197.app c_208) (by simp)
                  refine ld_t h_211 rfl ?_
                  refine dMap_i ?_
                  rfl
                ·
                  refine ⟨?_, ?_⟩
                  ·
                    have h_212 := h_6.ch (c_197.app c_208) (by simp)
                    refine ld_t h_212 rfl ?_
                    refine dInt_i ?_
                    rfl
                  ·
                    refine ⟨?_, ?_⟩
                    ·
                      have h_213 := h_6.ch (c_197.app c_208) (by simp)
                      refine ld_t h_213 rfl ?_
                      refine dInt_i ?_
                      rfl
                    ·
                      have h_214 := hm2.ch ((c_4.app c_197).app c_208) (by simp)
                      refine tcall (c_mcloneC _ _ _ _ h_214) ?_
                      rintro v_216 s_215 ⟨qcall12, rfl, c_218⟩
                      have z_219 := c_218.size
                      refine dMap_i ?_
                      refine ⟨?_, ?_⟩
                      ·
                        have h_220 := h_6.ch ((c_197.app c_208).app c_218) (by simp)
                        refine ld_t h_220 rfl ?_
                        refine dSl_i ?_
                        rfl
                      ·
                        refine ⟨?_, ?_⟩
                        ·
                          have h_221 := h_6.ch ((c_197.app c_208).app c_218) (by simp)
                          refine ld_t h_221 rfl ?_
                          refine dInt_i ?_
                          rfl
                        ·
                          refine ⟨?_, ?_⟩
                          ·
                            have h_222 := h_6.ch ((c_197.app c_208).app c_218) (by simp)
                            refine ld_t h_222 rfl ?_
                            refine dInt_i ?_
                            rfl
                          ·
                            refine tcall (c_sclone0 _) ?_
                            rintro v_224 s_223 ⟨rfl, c_226⟩
                            have z_227 := c_226.size
                            refine dSl_i ?_
                            refine ⟨?_, ?_⟩
                            ·
                              have h_228 := h_6.ch (((c_197.app c_208).app c_218).app c_226) (by simp)
                              refine ld_t h_228 rfl ?_
                              refine dInt_i ?_
                              rfl
                            ·
                              refine ⟨?_, ?_⟩
                              ·
                                have h_229 := h_6.ch (((c_197.app c_208).app c_218).app c_226) (by simp)
                                refine ld_t h_229 rfl ?_
                                refine dInt_i ?_
                                rfl
                              ·
                                have h_233 := b_196.ch ((c_208.app c_218).app c_226) (by simp)
                                refine st_t h_233 rfl (by simp) fun s259 b_230 c_231o z_232 => ?_
                                have c_231 := on_ch h_233 c_231o
                                refine st_t b_230 rfl (by simp) fun s260 b_234 c_235o z_236 => ?_
                                have c_235 := on_ch b_230 c_235o
                                refine st_t b_234 rfl (by simp) fun s261 b_237 c_238o z_239 => ?_
                                have c_238 := on_ch b_234 c_238o
                                refine st_t b_237 rfl (by simp) fun s262 b_240 c_241o z_242 => ?_
                                have c_241 := on_ch b_237 c_241o
                                refine st_t b_240 rfl (by simp) fun s263 b_243 c_244o z_245 => ?_
                                have c_244 := on_ch b_240 c_244o
                                have h_246 := h_6.ch ((((((((c_197.app c_208).app c_218).app c_226).app c_231).app c_235).app c_238).app c_241).app c_244) (by simp <;> omega)
                                have h_247 := hs.ch (((((((((c_4.app c_197).app c_208).app c_218).app c_226).app c_231).app c_235).app c_238).app c_241).app c_244) (by simp <;> omega)
                                have h_248 := hq.ch (((((((((c_4.app c_197).app c_208).app c_218).app c_226).app c_231).app c_235).app c_238).app c_241).app c_244) (by simp <;> omega)
                                refine tcall (c_kstep kp σk q m1 m2 sp σ vp a b c gen τq _ h_246 h_247 hne h_248 hcan) ?_
                                rintro v_250 s_249 ⟨rfl, c_252, call14a, call14b⟩
                                have z_253 := c_252.size
                                refine dT2 ?_
                                refine dSl_i ?_
                                refine dInt_i ?_
                                refine sB_t (by rfl) ?_
                                have h_254 := b_243.ch c_252 (by simp <;> omega)
                                refine ld_t h_254 rfl ?_
                                refine ld_t h_254 rfl ?_
                                refine ld_t h_254 rfl ?_
                                refine ld_t h_254 rfl ?_
                                refine ld_t h_254 rfl ?_
                                refine nz_i ?_
                                refine st_t (r := kp) (i := 5) call14a rfl (by simp) fun s278 b_255 c_256o z_257 => ?_
                                have c_256 := on_ch call14a c_256o
                                refine st_t (r := kp) (i := 6) b_255 rfl (by simp) fun s279 b_258 c_259o z_260 => ?_
                                have c_259 := on_ch b_255 c_259o
                                refine st_t (r := kp) (i := 7) b_258 rfl (by simp) fun s280 b_261 c_262o z_263 => ?_
                                have c_262 := on_ch b_258 c_262o
                                refine st_t (r := kp) (i := 8) b_261 rfl (by simp) fun s281 b_264 c_265o z_266 => ?_
                                have c_265 := on_ch b_261 c_265o
                                refine st_t (r := kp) (i := 9) b_264 rfl (by simp) fun s282 b_267 c_268o z_269 => ?_
                                have c_268 := on_ch b_264 c_268o
                                refine ret_t ?_
                                have h_270 := call14b.ch ((((c_256.app c_259).app c_262).app c_265).app c_268) (by simp <;> omega)
                                exact ⟨rfl, (((((((((((((((((Ch.refl [σ, σk] s).ch c_4 (by simp)).ch c_197 (by simp)).ch c_208 (by simp)).ch c_218 (by simp)).ch c_226 (by simp)).fr c_231 hM (by simp)).fr c_235 hM (by simp)).fr c_238 hM (by simp)).fr c_241 hM (by simp)).fr c_244 hM (by simp)).ch c_252 (by simp)).ch c_256 (by simp)).ch c_259 (by simp)).ch c_262 (by simp)).ch c_265 (by simp)).ch c_268 (by simp)), h_270⟩
/-- bollard/check.New -/
theorem c_kNewG (sp σ vp : Nat) (a b c gen : Int) (s : TH) (hs : Blk s sp [.int .i32 0, .int .u32 0, .pointer (some ⟨vp, 0, none⟩), .int .i64 a, .int .i64 b, .int .i64 c, .int .i64 gen, .bool true] 120 σ) : TRet Tryz.prog 44 #[.pointer (some ⟨sp, 0, none⟩)] s fun v s' => v = .tuple #[.pointer none, .int .i64 100] ∧ Ch [σ] s s' ∧ Blk s' sp [.int .i32 0, .int .u32 0, .pointer (some ⟨vp, 0, none⟩), .int .i64 a, .int .i64 b, .int .i64 c, .int .i64 gen, .bool true] 120 σ := by
  refine F44_calls _  ?_
  unfold F44
  refine tcall (c_sreadG sp σ vp a b c gen _ _ hs) ?_
  rintro v_2 s_1 ⟨rfl, c_4, call1a⟩
  have z_5 := c_4.size
  refine dT2 ?_
  refine dSl_i ?_
  refine dInt_i ?_
  refine jn_u ?_
  refine sB_f (by rfl) ?_
  intro _
  intros
  refine dBl_i ?_
  refine sB_t (by rfl) ?_
  refine ret_t ?_
  exact ⟨rfl, ((Ch.refl [σ] s).ch c_4 (by simp)), call1a⟩
/-- bollard/bollardlaw19.CheckNobody -/
theorem w_cknobody (U : Nat) (n : Int) (s : TH) (hU : 10 ≤ U) : TRet Tryz.prog 9 #[.int .i64 n] s fun v s' => v = .bool true ∧ Ch [U, U + 3, U + 11, U + 20, U + 21, U + 22, U + 23, U + 30, U + 32] s s' := by
  obtain ⟨M, hM, hM0, hMa, hMb, hMc, hMd, hMe, hMf⟩ := fresh6 s (U + 60) 0 0 0 0 0
  refine F9_calls _  ?_
  unfold F9
  refine al_t (M + 1) fun r1 s2 hr1 b_1 c_2 z_3 => ?_
  refine al_t (M + 2) fun r3 s4 hr3 b_4 c_5 z_6 => ?_
  refine ⟨fun vs H' => ∃ s' : TH, s'.h = H' ∧ ∃ i, vs = [.int .i64 i] ∧ Ch [] s4 s' ∧ (∃ kk : Nat, i = kk ∧ kk ≤ 2), fun vs H' => match vs with | [.int .i64 i] => (2 - i).toNat | _ => 0, ⟨s4, rfl, _, rfl, Ch.refl _ _, ?_⟩, ?_⟩
  ·
    exact ⟨0, rfl, by omega⟩
  ·
    intro i _ _ _ _ _ _ _ _ _ _ _ _ _ _ _ _ _ _ _ _ _ _ _ _ _ _ _ _ _ _ _ _ _ _ _ H_ hI_8
    obtain ⟨s_7, rfl, i_, hvs, c_9, kk, rfl, hk⟩ := hI_8
    cases hvs
    have z_10 := c_9.size
    refine sB_d (fun hsB1 => ?_) (fun hsB1 => ?_)
    ·
      refine ask_t (by omega) ?_
      have h_11 := b_1.ch (c_5.app c_9) (by simp)
      obtain ⟨p, hp, hno⟩ : ∃ p, ([.pointer none, .pointer (some ⟨r1, 0, none⟩)] : List Value)[kk]? = some (.pointer p) ∧ NoK s_7 p (M + 1) := by rcases (by omega : kk = 0 ∨ kk = 1) with rfl | rfl <;> first | exact ⟨none, rfl, ⟨.inl rfl⟩⟩ | exact ⟨_, rfl, ⟨.inr ⟨r1, rfl, h_11⟩⟩⟩
      have h_12 := b_4.ch c_9 (by simp)
      refine ld_sl (h_12).sl (by rw [Int.toNat_natCast, Nat.mul_one]; exact hp) ?_
      refine dPtr_i ?_
      refine tcall (o_kStep p (M + 1) hno) ?_
      rintro v_14 s_13 ⟨rfl, c_16⟩
      have z_17 := c_16.size
      refine dT2 ?_
      refine dSl_i ?_
      refine dInt_i ?_
      refine jn_u ?_
      refine sB_d (fun hsB2 => by exfalso; omega) (fun hsB2 => ?_)
      refine sB_f (by rfl) ?_
      have h_18 := hno.mv c_16 (tagn (by simp))
      refine tcall (o_kPass p (M + 1) h_18) ?_
      rintro v_20 s_19 ⟨rfl, c_22⟩
      have z_23 := c_22.size
      refine dInt_i ?_
      refine sB_f (by rfl) ?_
      have h_24 := h_18.mv c_22 (tagn (by simp))
      refine tcall (o_kDone p (M + 1) h_24) ?_
      rintro v_26 s_25 ⟨rfl, c_28⟩
      have z_29 := c_28.size
      refine dBl_i ?_
      refine sB_f (by rfl) ?_
      have h_30 := h_24.mv c_28 (tagn (by simp))
      refine tcall (o_kSteps p (M + 1) h_30) ?_
      rintro v_32 s_31 ⟨rfl, c_34⟩
      have z_35 := c_34.size
      refine dInt_i ?_
      intro _
      intros
      refine dBl_i ?_
      refine sB_f (by rfl) ?_
      refine wr_t (by omega) ?_
      refine ⟨⟨s_31, rfl, _, rfl, ((((((Ch.refl [] s4).ch c_9 (by simp)).ch c_16 (by simp)).ch c_22 (by simp)).ch c_28 (by simp)).ch c_34 (by simp)), ?_⟩, ?_⟩
      ·
        exact ⟨kk + 1, by omega, by omega⟩
      ·
        simp only []; omega
    ·
      refine al_t (M + 3) fun r98 s99 hr98 b_36 c_37 z_38 => ?_
      refine al_t (M + 9) fun r100 s101 hr100 b_39 c_40 z_41 => ?_
      refine ⟨fun vs H' => ∃ s' : TH, s'.h = H' ∧ ∃ i, vs = [.int .i64 i] ∧ Ch [] s101 s' ∧ (∃ kk : Nat, i = kk ∧ kk ≤ 2), fun vs H' => match vs with | [.int .i64 i] => (2 - i).toNat | _ => 0, ⟨s101, rfl, _, rfl, Ch.refl _ _, ?_⟩, ?_⟩
      ·
        exact ⟨0, rfl, by omega⟩
      ·
        intro i _ _ _ _ _ _ _ _ _ _ _ _ _ _ _ _ _ _ _ H_ hI_43
        obtain ⟨s_42, rfl, i_, hvs, c_44, kk, rfl, hk⟩ := hI_43
        cases hvs
        have z_45 := c_44.size
        refine sB_d (fun hsB7 => ?_) (fun hsB7 => ?_)
        ·
          refine ask_t (by omega) ?_
          have h_46 := b_36.ch (c_40.app c_44) (by simp)
          obtain ⟨p, hp, hno⟩ : ∃ p, ([.pointer none, .pointer (some ⟨r98, 0, none⟩)] : List Value)[kk]? = some (.pointer p) ∧ NoS s_42 p (M + 3) := by rcases (by omega : kk = 0 ∨ kk = 1) with rfl | rfl <;> first | exact ⟨none, rfl, ⟨.inl rfl⟩⟩ | exact ⟨_, rfl, ⟨.inr ⟨r98, rfl, h_46⟩⟩⟩
          have h_47 := b_39.ch c_44 (by simp)
          refine ld_sl (h_47).sl (by rw [Int.toNat_natCast, Nat.mul_one]; exact hp) ?_
          refine dPtr_i ?_
          refine tcall (o_kNew p (M + 3) hno) ?_
          rintro v_49 s_48 ⟨rfl, c_51⟩
          have z_52 := c_51.size
          refine dT2 ?_
          refine dPtr_i ?_
          refine dInt_i ?_
          refine jn_u ?_
          refine sB_f (by rfl) ?_
          intro _
          intros
          refine dBl_i ?_
          refine sB_f (by rfl) ?_
          refine wr_t (by omega) ?_
          refine ⟨⟨s_48, rfl, _, rfl, (((Ch.refl [] s101).ch c_44 (by simp)).ch c_51 (by simp)), ?_⟩, ?_⟩
          ·
            exact ⟨kk + 1, by omega, by omega⟩
          ·
            simp only []; omega
        ·
          refine tcall (c_fresh U (M + 10) 0 0 0 _ hU (by omega)) ?_
          rintro v_54 s_53 ⟨pcall6, vpcall6, dcall6, xcall6, ycall6, Gcall6, Bcall6, Ncall6, rfl, c_56, call6a, call6b, call6c, call6d⟩
          have z_57 := c_56.size
          have hgb := call6a.gb
          have hfl := fresh_len call6a
          have hcan := call6a.can
          refine dT3 ?_
          refine dPtr_i ?_
          refine dA3 ?_
          refine dBl_i ?_
          refine al_t (M + 9) fun r156 s157 hr156 b_58 c_59 z_60 => ?_
          refine st_t b_58 rfl (by simp) fun s158 b_61 c_62o z_63 => ?_
          have c_62 := on_ch b_58 c_62o
          refine st_t b_61 rfl (by simp) fun s159 b_64 c_65o z_66 => ?_
          have c_65 := on_ch b_61 c_65o
          refine st_t b_64 rfl (by simp) fun s160 b_67 c_68o z_69 => ?_
          have c_68 := on_ch b_64 c_68o
          refine sB_f (by rfl) ?_
          refine nz_i ?_
          have h_70 := call6c.ch (((c_59.app c_62).app c_65).app c_68) (by simp)
          refine ld_t h_70 rfl ?_
          refine dPtr_i ?_
          refine ld_t b_67 rfl ?_
          refine ld_t b_67 rfl ?_
          refine ld_t b_67 rfl ?_
          have h_71 := call6d.mv (((c_59.app c_62).app c_65).app c_68) (rngn50 (by simp <;> omega))
          refine tcall (c_take vpcall6 dcall6 U _ _ _ _ 1 5 _ h_71 hU hcan (by rw [hfl]; omega) (by omega) (by rw [fresh_freeze (by omega)]) (M + 12) (by omega)) ?_
          rintro v_73 s_72 ⟨spcall7, rfl, c_75, call7a, call7b⟩
          have z_76 := c_75.size
          rw [fresh_freeze (by omega)] at call7b
          obtain ⟨V1, hV1⟩ : ∃ V1 : VolM, V1 = { VolM.fresh (makeL Gcall6 Bcall6 Ncall6) with old := ⟨true, false, 5, []⟩ } := ⟨_, rfl⟩
          have hvv : VolL s_72 vpcall6 dcall6 U V1 0 := by rw [hV1]; exact call7b
          have ho1 : V1.old = ⟨true, false, 5, []⟩ := by rw [hV1]
          have hn1 : V1.n = 0 := by rw [hV1]; rfl
          clear call7b
          refine dT2 ?_
          refine dPtr_i ?_
          refine dInt_i ?_
          refine sB_f (by rfl) ?_
          refine tcall (c_kNew spcall7 (M + 12) vpcall6 _ _ _ 1 dcall6 U V1 (M + 20) _ call7a hvv hU (by omega) (by omega) (by rw [ho1]) (by rw [ho1]) (by rw [ho1]) (by omega)) ?_
          rintro v_78 s_77 ⟨kcall8, qcall8, m1call8, m2call8, rfl, c_80, call8a, call8b, call8c, call8d, call8e, call8f⟩
          have z_81 := c_80.size
          refine dT2 ?_
          refine dPtr_i ?_
          refine dInt_i ?_
          refine jn_u ?_
          refine sB_f (by rfl) ?_
          refine tcall (c_kPass1 kcall8 (M + 20) qcall8 m1call8 m2call8 spcall7 (M + 12) vpcall6 _ _ _ 1 _ call8c) ?_
          rintro v_83 s_82 ⟨rfl, c_85⟩
          have z_86 := c_85.size
          refine dInt_i ?_
          refine sB_f (by rfl) ?_
          have h_87 := call8a.ch c_85 (by simp)
          have h_88 := call8b.mv c_85 (rngn50 (by simp))
          refine tcall (c_sdrop spcall7 (M + 12) vpcall6 _ _ _ 1 _ dcall6 U V1 h_87 h_88 hU (by omega) (by unfold VolM.thaw; rw [ho1]; rfl)) ?_
          rintro v_90 s_89 ⟨rfl, c_92, call10a, call10b⟩
          have z_93 := c_92.size
          refine dInt_i ?_
          intro _
          intros
          refine dBl_i ?_
          refine sB_f (by rfl) ?_
          have h_94 := call8c.ch (c_85.app c_92) (by simp <;> omega)
          have h_95 := call8d.ch (c_85.app c_92) (by simp <;> omega)
          have h_96 := call8e.ch (c_85.app c_92) (by simp <;> omega)
          have h_97 := call8f.ch (c_85.app c_92) (by simp <;> omega)
          refine tcall (c_kStepG kcall8 (M + 20) qcall8 m1call8 m2call8 spcall7 (M + 12) vpcall6 _ _ _ 1 (M + 20 + 1) (M + 20 + 2) _ h_94 call10a (by omega) h_95 h_96 h_97 (by omega) hcan) ?_
          rintro v_99 s_98 ⟨rfl, c_101, call11a⟩
          have z_102 := c_101.size
          refine dT2 ?_
          refine dSl_i ?_
          refine dInt_i ?_
          refine tcall (c_kNewG spcall7 (M + 12) vpcall6 _ _ _ 1 _ call11a) ?_
          rintro v_104 s_103 ⟨rfl, c_106, call12a⟩
          have z_107 := c_106.size
          refine dT2 ?_
          refine dPtr_i ?_
          refine dInt_i ?_
          refine sB_t (by rfl) ?_
          refine sB_t (by rfl) ?_
          refine ret_t ?_
          exact ⟨rfl, ((((((((((((((((((Ch.refl [U, U + 3, U + 11, U + 20, U + 21, U + 22, U + 23, U + 30, U + 32] s).ch c_2 (by simp)).ch c_5 (by simp)).ch c_9 (by simp)).ch c_37 (by simp)).ch c_40 (by simp)).ch c_44 (by simp)).ch c_56 (by simp)).ch c_59 (by simp)).fr c_62 hM (by simp)).fr c_65 hM (by simp)).fr c_68 hM (by simp)).ch c_75 (by simp)).fr c_80 hM (by simp)).ch c_85 (by simp)).fr c_92 hM (by simp)).fr c_101 hM (by simp)).fr c_106 hM (by simp))⟩
end Go.Proofs.YtdlelcpkelginaaGreat.E
/- From a contract in states with marks to the kit's walk of a law. -/
namespace Go.Proofs.YtdlelcpkelginaaGreat.E
open Go Go.RowKit
set_option linter.unusedVariables false
theorem walkB {P : Program} {f : FuncId} {args : Array Value} {W : World}
    (h : TRet P f args ⟨W.heap, fun _ => 0⟩ fun v s' => v = .bool true ∧ Ch [] ⟨W.heap, fun _ => 0⟩ s') :
    Calls P f args W fun e W' => e = .returned (.bool true) ∧ Below W.heap.size W W' :=
  (h W rfl).mono fun e w' ⟨⟨v, s', he, hs, hv, hc⟩, hl⟩ =>
    ⟨by rw [he, hv], ⟨hl.os, hl.tape, hl.output, by rw [← hs]; exact hc.size, fun k hk => by rw [← hs]; exact hc.get k hk (by simp)⟩⟩
theorem walkT {P : Program} {f : FuncId} {args : Array Value} {W : World} {T : List Nat} (hT : 0 ∉ T)
    (h : TRet P f args ⟨W.heap, fun _ => 0⟩ fun v s' => v = .bool true ∧ Ch T ⟨W.heap, fun _ => 0⟩ s') :
    Calls P f args W fun e W' => e = .returned (.bool true) ∧ Below W.heap.size W W' :=
  walkB (h.mono fun v s' ⟨h1, h2⟩ => ⟨h1, Chg.mono h2 fun j _ hB => absurd hB hT⟩)
end Go.Proofs.YtdlelcpkelginaaGreat.E
/- The closed facts of a row, one by one. -/
namespace Go.Proofs.YtdlelcpkelginaaGreat.E
open Go
def kindsOf (P : Program) (fn : Func) (c : OpenClaim) : List (Option IntKind) := if c.domain.isEmpty then [] else fn.params.toList.map fun t => match P.underlying t with | some (.int k) => some k | _ => none
theorem andb {a b : Bool} (h : a = true) (k : b = true) : (a && b) = true := by rw [h, k]; rfl
theorem joined_of {P : Program} {f : FuncId} {fn : Func} {s : ChangeSpec} {c : OpenClaim}
    (j0 : (c.wf (OpenSpec.ofChange s)) = true)
    (j1 : (laidOutB P) = true)
    (j2 : (mapsRowed P) = true)
    (j3 : (fn.params.all (P.readableRec ·)) = true)
    (j4 : (namedTie P c.named s.vars) = true)
    (j5 : ((c.stops == [])) = true)
    (j6 : ((P.stops == [])) = true)
    (j7 : ((c.knobs == [])) = true)
    (j8 : ((P.stopKnobs == [])) = true)
    (j9 : ((c.inPlace == P.inPlace f)) = true)
    (j10 : ((c.unfollowed == P.unfollowed f)) = true)
    (j11 : ((c.recurses == P.recurses f)) = true)
    (j12 : ((c.named == P.varsNamed f)) = true)
    (j13 : ((c.maps == (fn.params.toList ++ s.plain.varTypes P).any (P.mapsRec ·))) = true)
    (j14 : ((c.ifaces == (fn.params.toList ++ s.plain.varTypes P).any (P.ifacesRec ·))) = true)
    (j15 : ((c.mapsOut == P.mapsAmong fn.resultTypes.toList)) = true)
    (j16 : ((c.loops == (fn.params.toList ++ s.plain.varTypes P).any (P.loopsFrom ·))) = true)
    (j17 : ((c.wideKeys == (fn.params.toList ++ s.plain.varTypes P ++ fn.resultTypes.toList).any (P.wideKeysFrom ·))) = true)
    (j18 : (s.vars.all (P.varReadable ·)) = true)
    (j19 : (fn.resultTypes.all (fun t => P.readableRec t && decide (t < P.types.size))) = true)
    (j20 : ((c.ifacesOut == fn.resultTypes.toList.any (P.ifacesRec ·))) = true)
    (j21 : ((c.loopsOut == fn.resultTypes.toList.any (P.loopsFrom ·))) = true)
    (j22 : ((c.plainKeys == P.plainKeys)) = true)
    (j23 : (c.shortTexts.isNone) = true)
    (j24 : (P.stopsHeard) = true)
    (j25 : (P.mayEnter) = true)
    (j26 : ((c.lifted == P.liftsFinal)) = true)
    (j27 : ((P.make == some c.make)) = true)
    (j28 : ((c.kinds == kindsOf P fn c)) = true)
    (j29 : ((c.pinned == c.pinnedBy)) = true)
    (j30 : ((c.veiled == (fn.params.toList ++ s.plain.varTypes P ++ fn.resultTypes.toList).any (P.veiledRec ·))) = true)
    (j31 : (c.veiledFits P fn.params.toList (fn.params.toList ++ s.plain.varTypes P ++ fn.resultTypes.toList)) = true)
    : joinedFacts P f fn s c = true := by
  unfold joinedFacts
  exact (andb (andb (andb (andb (andb (andb (andb (andb (andb (andb (andb (andb (andb (andb (andb (andb (andb (andb (andb (andb (andb (andb (andb (andb (andb (andb (andb (andb (andb (andb (andb j0 j1) j2) j3) j4) j5) j6) j7) j8) j9) j10) j11) j12) j13) j14) j15) j16) j17) j18) j19) j20) j21) j22) j23) j24) j25) j26) j27) j28) j29) j30) j31)
end Go.Proofs.YtdlelcpkelginaaGreat.E
