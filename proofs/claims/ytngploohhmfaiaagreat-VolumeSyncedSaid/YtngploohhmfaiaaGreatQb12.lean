/- My own texts, joined. -/
import Derived.ChangeArms
import Derived.DataReads
import Derived.KernelRfl
import Derived.ProofKit
import Derived.Test.YtngploohhmfaiaaGreatProg
import Derived.WalkKit
import Derived.WideShapes
import Derived.Test.YtngploohhmfaiaaGreatQb11
/- Contracts of functions. -/
namespace Go.Proofs.YtngploohhmfaiaaGreat.E
open Go Go.Proofs Go.RowKit Go.Maps Go.Shelf Go.Sort
set_option linter.unusedVariables false
set_option linter.unusedSimpArgs false
theorem VolP.relock {s s' : TH} {v d U : Nat} {V : VolM} {lk lk' : Int} {c p rw : Nat} {rk : Option Nat} {mw mk : List (Int × Value)} (h : VolP s v d U V lk c p rw rk mw mk) (k : Ch [U] s s')
    (hb : Blk s' v [.int .i32 lk', .int .u32 0, .pointer (some ⟨d, 0, none⟩), .pointer (some ⟨c, 0, none⟩), .pointer (some ⟨p, 0, none⟩), .map (some rw), .bool V.old.on, .bool V.old.broken, .int .i64 V.old.room, .map rk] 57 U) : VolP s' v d U V lk' c p rw rk mw mk :=
  ⟨hb, h.wm.ch k (by simp), h.wv.mv k (tagn (by simp)), h.kn, h.om.mv k (tagn (by simp)), h.kv.mv k (tagn (by simp)), h.dk.mv k (rngn (by simp <;> omega)), h.ca.mv k (rngn (by simp <;> omega)), h.ps.mv k (rngn (by simp <;> omega))⟩
/-- (*bollard/volume.Volume).Last -/
theorem c_VLast (vp d U : Nat) (V : VolM)  (s : TH) (hU : 10 ≤ U) (hv : VolL s vp d U V 0) : TRet Tryz.prog 52 #[.pointer (some ⟨vp, 0, none⟩)] s fun v s' => v = .int .i64 V.P.last ∧ Ch [U] s s' ∧ VolL s' vp d U V 0 := by
  obtain ⟨⟨c, p, rw_, rk, mw, mk, hV⟩, ok⟩ := id hv
  have hvb := hV.blk
  have hvw := hV.wm
  have hvv := hV.wv
  have hvo := hV.om
  have hvk := hV.kv
  have hvD := hV.dk
  have hvC := hV.ca
  have hvP := hV.ps
  have hn0 := ok.n0
  have hpok := hV.ps.ok
  have hplst := hV.ps.ok.lst
  have hnb := hV.dk.nb
  refine F52_calls _  ?_
  unfold F52
  refine tcall (c_vheld _ _ hvb) ?_
  rintro v_2 s_1 ⟨rfl, c_4, call1a⟩
  have z_5 := c_4.size
  have hV1 := hV.relock c_4 call1a
  have hv1 : VolL s_1 vp d U V 1 := ⟨⟨_, _, _, _, _, _, hV1⟩, ok⟩
  refine dBl_i ?_
  refine sB_f (by rfl) ?_
  refine nz_i ?_
  refine nz_i ?_
  refine ld_t call1a rfl ?_
  refine dPtr_i ?_
  have h_6 := hvP.mv c_4 (rngn (by simp))
  refine tcall (c_plast _ _ _ _ (by omega) h_6) ?_
  rintro v_8 s_7 ⟨rfl, c_10⟩
  have z_11 := c_10.size
  refine dInt_i ?_
  have h_12 := call1a.ch c_10 (by simp)
  refine c_door Tryz.muLib h_12 (by rfl) (fun _ => by rfl) fun s_13 b_14 c_15 z_16 => ?_
  have c_15t := on_ch h_12 c_15
  refine ret_t ?_
  have h_17 := hvw.ch ((c_4.app c_10).app c_15t) (by simp)
  have h_18 := hvv.mv ((c_4.app c_10).app c_15t) (tagn (by simp))
  have h_19 := hvo.mv ((c_4.app c_10).app c_15t) (tagn (by simp))
  have h_20 := hvk.mv ((c_4.app c_10).app c_15t) (tagn (by simp))
  have h_21 := hvD.mv ((c_4.app c_10).app c_15t) (rngn (by simp))
  have h_22 := hvC.mv ((c_4.app c_10).app c_15t) (rngn (by simp))
  have h_23 := h_6.mv (c_10.app c_15t) (rngn (by simp))
  exact ⟨rfl, ((((Ch.refl [U] s).ch c_4 (by simp)).ch c_10 (by simp)).ch c_15t (by simp)), ⟨⟨_, _, _, _, _, _, b_14, h_17, h_18, hV.kn, h_19, h_20, h_21, h_22, h_23⟩, ok⟩⟩
/-- (*bollard/volume.Volume).Kept -/
theorem c_VKept (vp d U : Nat) (V : VolM)  (s : TH) (hU : 10 ≤ U) (hv : VolL s vp d U V 0) : TRet Tryz.prog 58 #[.pointer (some ⟨vp, 0, none⟩)] s fun v s' => v = .int .i64 V.old.kept.length ∧ Ch [U] s s' ∧ VolL s' vp d U V 0 := by
  obtain ⟨⟨c, p, rw_, rk, mw, mk, hV⟩, ok⟩ := id hv
  have hvb := hV.blk
  have hvw := hV.wm
  have hvv := hV.wv
  have hvo := hV.om
  have hvk := hV.kv
  have hvD := hV.dk
  have hvC := hV.ca
  have hvP := hV.ps
  have hn0 := ok.n0
  have hpok := hV.ps.ok
  have hplst := hV.ps.ok.lst
  have hnb := hV.dk.nb
  refine F58_calls _  ?_
  unfold F58
  refine tcall (c_vheld _ _ hvb) ?_
  rintro v_2 s_1 ⟨rfl, c_4, call1a⟩
  have z_5 := c_4.size
  have hV1 := hV.relock c_4 call1a
  have hv1 : VolL s_1 vp d U V 1 := ⟨⟨_, _, _, _, _, _, hV1⟩, ok⟩
  refine dBl_i ?_
  refine sB_f (by rfl) ?_
  refine nz_i ?_
  refine nz_i ?_
  refine ld_t call1a rfl ?_
  refine dMap_i ?_
  have hkl : mk.length = V.old.kept.length := by have := congrArg List.length hvk.keys; simpa using this
  have h_6 := hvo.mv c_4 (tagn (by simp))
  refine olen um53 h_6 ?_
  refine dInt_i ?_
  refine c_door Tryz.muLib call1a (by rfl) (fun _ => by rfl) fun s_7 b_8 c_9 z_10 => ?_
  have c_9t := on_ch call1a c_9
  refine ret_t ?_
  have h_11 := hvw.ch (c_4.app c_9t) (by simp)
  have h_12 := hvv.mv (c_4.app c_9t) (tagn (by simp))
  have h_13 := h_6.mv c_9t (tagn (by simp))
  have h_14 := hvk.mv (c_4.app c_9t) (tagn (by simp))
  have h_15 := hvD.mv (c_4.app c_9t) (rngn (by simp))
  have h_16 := hvC.mv (c_4.app c_9t) (rngn (by simp))
  have h_17 := hvP.mv (c_4.app c_9t) (rngn (by simp))
  rw [← hkl]
  exact ⟨rfl, (((Ch.refl [U] s).ch c_4 (by simp)).ch c_9t (by simp)), ⟨⟨_, _, _, _, _, _, b_8, h_11, h_12, hV.kn, h_13, h_14, h_15, h_16, h_17⟩, ok⟩⟩
/-- (*bollard/volume.Volume).Broken -/
theorem c_VBroken (vp d U : Nat) (V : VolM)  (s : TH) (hU : 10 ≤ U) (hv : VolL s vp d U V 0) : TRet Tryz.prog 57 #[.pointer (some ⟨vp, 0, none⟩)] s fun v s' => v = .bool V.old.broken ∧ Ch [U] s s' ∧ VolL s' vp d U V 0 := by
  obtain ⟨⟨c, p, rw_, rk, mw, mk, hV⟩, ok⟩ := id hv
  have hvb := hV.blk
  have hvw := hV.wm
  have hvv := hV.wv
  have hvo := hV.om
  have hvk := hV.kv
  have hvD := hV.dk
  have hvC := hV.ca
  have hvP := hV.ps
  have hn0 := ok.n0
  have hpok := hV.ps.ok
  have hplst := hV.ps.ok.lst
  have hnb := hV.dk.nb
  refine F57_calls _  ?_
  unfold F57
  refine tcall (c_vheld _ _ hvb) ?_
  rintro v_2 s_1 ⟨rfl, c_4, call1a⟩
  have z_5 := c_4.size
  have hV1 := hV.relock c_4 call1a
  have hv1 : VolL s_1 vp d U V 1 := ⟨⟨_, _, _, _, _, _, hV1⟩, ok⟩
  refine dBl_i ?_
  refine sB_f (by rfl) ?_
  refine nz_i ?_
  refine nz_i ?_
  refine ld_t call1a rfl ?_
  refine dBl_i ?_
  refine c_door Tryz.muLib call1a (by rfl) (fun _ => by rfl) fun s_6 b_7 c_8 z_9 => ?_
  have c_8t := on_ch call1a c_8
  refine ret_t ?_
  have h_10 := hvw.ch (c_4.app c_8t) (by simp)
  have h_11 := hvv.mv (c_4.app c_8t) (tagn (by simp))
  have h_12 := hvo.mv (c_4.app c_8t) (tagn (by simp))
  have h_13 := hvk.mv (c_4.app c_8t) (tagn (by simp))
  have h_14 := hvD.mv (c_4.app c_8t) (rngn (by simp))
  have h_15 := hvC.mv (c_4.app c_8t) (rngn (by simp))
  have h_16 := hvP.mv (c_4.app c_8t) (rngn (by simp))
  exact ⟨rfl, (((Ch.refl [U] s).ch c_4 (by simp)).ch c_8t (by simp)), ⟨⟨_, _, _, _, _, _, b_7, h_10, h_11, hV.kn, h_12, h_13, h_14, h_15, h_16⟩, ok⟩⟩
/-- (*bollard/volume.Volume).Blocks -/
theorem c_VBlocks2 (vp d U : Nat) (V : VolM)  (s : TH) (hU : 10 ≤ U) (hv : VolL s vp d U V 0) : TRet Tryz.prog 24 #[.pointer (some ⟨vp, 0, none⟩)] s fun v s' => v = .int .i64 V.D.blocks.length ∧ Ch [U] s s' ∧ VolL s' vp d U V 0 := by
  obtain ⟨⟨c, p, rw_, rk, mw, mk, hV⟩, ok⟩ := id hv
  have hvb := hV.blk
  have hvw := hV.wm
  have hvv := hV.wv
  have hvo := hV.om
  have hvk := hV.kv
  have hvD := hV.dk
  have hvC := hV.ca
  have hvP := hV.ps
  have hn0 := ok.n0
  have hpok := hV.ps.ok
  have hplst := hV.ps.ok.lst
  have hnb := hV.dk.nb
  refine F24_calls _  ?_
  unfold F24
  refine tcall (c_vheld _ _ hvb) ?_
  rintro v_2 s_1 ⟨rfl, c_4, call1a⟩
  have z_5 := c_4.size
  have hV1 := hV.relock c_4 call1a
  have hv1 : VolL s_1 vp d U V 1 := ⟨⟨_, _, _, _, _, _, hV1⟩, ok⟩
  refine dBl_i ?_
  refine sB_f (by rfl) ?_
  refine nz_i ?_
  refine nz_i ?_
  refine ld_t call1a rfl ?_
  refine dPtr_i ?_
  have h_6 := hvD.mv c_4 (rngn (by simp))
  refine tcall (c_blocks _ _ _ _ (by omega) h_6) ?_
  rintro v_8 s_7 ⟨rfl, c_10⟩
  have z_11 := c_10.size
  refine dInt_i ?_
  have h_12 := call1a.ch c_10 (by simp)
  refine c_door Tryz.muLib h_12 (by rfl) (fun _ => by rfl) fun s_13 b_14 c_15 z_16 => ?_
  have c_15t := on_ch h_12 c_15
  refine ret_t ?_
  have h_17 := hvw.ch ((c_4.app c_10).app c_15t) (by simp)
  have h_18 := hvv.mv ((c_4.app c_10).app c_15t) (tagn (by simp))
  have h_19 := hvo.mv ((c_4.app c_10).app c_15t) (tagn (by simp))
  have h_20 := hvk.mv ((c_4.app c_10).app c_15t) (tagn (by simp))
  have h_21 := h_6.mv (c_10.app c_15t) (rngn (by simp))
  have h_22 := hvC.mv ((c_4.app c_10).app c_15t) (rngn (by simp))
  have h_23 := hvP.mv ((c_4.app c_10).app c_15t) (rngn (by simp))
  exact ⟨rfl, ((((Ch.refl [U] s).ch c_4 (by simp)).ch c_10 (by simp)).ch c_15t (by simp)), ⟨⟨_, _, _, _, _, _, b_14, h_17, h_18, hV.kn, h_19, h_20, h_21, h_22, h_23⟩, ok⟩⟩
/-- (*bollard/volume.Volume).IsDone -/
theorem c_VIsDone (vp d U : Nat) (V : VolM) (i : Int) (s : TH) (hU : 10 ≤ U) (hv : VolL s vp d U V 0) : TRet Tryz.prog 60 #[.pointer (some ⟨vp, 0, none⟩), .int .i64 i] s fun v s' => v = .bool (decide (i ∈ V.P.done)) ∧ Ch [U] s s' ∧ VolL s' vp d U V 0 := by
  obtain ⟨⟨c, p, rw_, rk, mw, mk, hV⟩, ok⟩ := id hv
  have hvb := hV.blk
  have hvw := hV.wm
  have hvv := hV.wv
  have hvo := hV.om
  have hvk := hV.kv
  have hvD := hV.dk
  have hvC := hV.ca
  have hvP := hV.ps
  have hn0 := ok.n0
  have hpok := hV.ps.ok
  have hplst := hV.ps.ok.lst
  have hnb := hV.dk.nb
  refine F60_calls _ _  ?_
  unfold F60
  refine tcall (c_vheld _ _ hvb) ?_
  rintro v_2 s_1 ⟨rfl, c_4, call1a⟩
  have z_5 := c_4.size
  have hV1 := hV.relock c_4 call1a
  have hv1 : VolL s_1 vp d U V 1 := ⟨⟨_, _, _, _, _, _, hV1⟩, ok⟩
  refine dBl_i ?_
  refine sB_f (by rfl) ?_
  refine nz_i ?_
  refine nz_i ?_
  refine ld_t call1a rfl ?_
  refine dPtr_i ?_
  have h_6 := hvP.mv c_4 (rngn (by simp))
  refine tcall (c_isdone _ _ _ _ _ (by omega) h_6) ?_
  rintro v_8 s_7 ⟨rfl, c_10⟩
  have z_11 := c_10.size
  refine dBl_i ?_
  have h_12 := call1a.ch c_10 (by simp)
  refine c_door Tryz.muLib h_12 (by rfl) (fun _ => by rfl) fun s_13 b_14 c_15 z_16 => ?_
  have c_15t := on_ch h_12 c_15
  refine ret_t ?_
  have h_17 := hvw.ch ((c_4.app c_10).app c_15t) (by simp)
  have h_18 := hvv.mv ((c_4.app c_10).app c_15t) (tagn (by simp))
  have h_19 := hvo.mv ((c_4.app c_10).app c_15t) (tagn (by simp))
  have h_20 := hvk.mv ((c_4.app c_10).app c_15t) (tagn (by simp))
  have h_21 := hvD.mv ((c_4.app c_10).app c_15t) (rngn (by simp))
  have h_22 := hvC.mv ((c_4.app c_10).app c_15t) (rngn (by simp))
  have h_23 := h_6.mv (c_10.app c_15t) (rngn (by simp))
  exact ⟨rfl, ((((Ch.refl [U] s).ch c_4 (by simp)).ch c_10 (by simp)).ch c_15t (by simp)), ⟨⟨_, _, _, _, _, _, b_14, h_17, h_18, hV.kn, h_19, h_20, h_21, h_22, h_23⟩, ok⟩⟩
/-- (*bollard/volume.Volume).Dirty -/
theorem c_VDirty (vp d U : Nat) (V : VolM) (τ : Nat) (s : TH) (hU : 10 ≤ U) (hv : VolL s vp d U V 0) (hτ : τ < U ∨ U + 50 ≤ τ) : TRet Tryz.prog 45 #[.pointer (some ⟨vp, 0, none⟩)] s fun v s' => ∃ a c, v = .slice a V.P.blocks.length c ∧ Ch [U] s s' ∧ Own s' a V.P.blocks.length c 3 1 (ivs V.P.blocks) τ ∧ VolL s' vp d U V 0 := by
  obtain ⟨⟨c, p, rw_, rk, mw, mk, hV⟩, ok⟩ := id hv
  have hvb := hV.blk
  have hvw := hV.wm
  have hvv := hV.wv
  have hvo := hV.om
  have hvk := hV.kv
  have hvD := hV.dk
  have hvC := hV.ca
  have hvP := hV.ps
  have hn0 := ok.n0
  have hpok := hV.ps.ok
  have hplst := hV.ps.ok.lst
  have hnb := hV.dk.nb
  refine F45_calls _  ?_
  unfold F45
  refine tcall (c_vheld _ _ hvb) ?_
  rintro v_2 s_1 ⟨rfl, c_4, call1a⟩
  have z_5 := c_4.size
  have hV1 := hV.relock c_4 call1a
  have hv1 : VolL s_1 vp d U V 1 := ⟨⟨_, _, _, _, _, _, hV1⟩, ok⟩
  refine dBl_i ?_
  refine sB_f (by rfl) ?_
  refine nz_i ?_
  refine nz_i ?_
  refine ld_t call1a rfl ?_
  refine dPtr_i ?_
  have h_6 := hvP.mv c_4 (rngn (by simp))
  refine tcall (c_pblocks _ _ _ τ _ (by omega) h_6) ?_
  rintro v_8 s_7 ⟨acall2, ccall2, rfl, c_10, call2a⟩
  have z_11 := c_10.size
  refine dSl_i ?_
  have h_12 := call1a.ch c_10 (by simp)
  refine c_door Tryz.muLib h_12 (by rfl) (fun _ => by rfl) fun s_13 b_14 c_15 z_16 => ?_
  have c_15t := on_ch h_12 c_15
  refine ret_t ?_
  have h_17 := call2a.mv c_15t (tagn (by simp <;> omega))
  have h_18 := hvw.ch ((c_4.app c_10).app c_15t) (by simp)
  have h_19 := hvv.mv ((c_4.app c_10).app c_15t) (tagn (by simp))
  have h_20 := hvo.mv ((c_4.app c_10).app c_15t) (tagn (by simp))
  have h_21 := hvk.mv ((c_4.app c_10).app c_15t) (tagn (by simp))
  have h_22 := hvD.mv ((c_4.app c_10).app c_15t) (rngn (by simp))
  have h_23 := hvC.mv ((c_4.app c_10).app c_15t) (rngn (by simp))
  have h_24 := h_6.mv (c_10.app c_15t) (rngn (by simp))
  exact ⟨_, _, rfl, ((((Ch.refl [U] s).ch c_4 (by simp)).ch c_10 (by simp)).ch c_15t (by simp)), h_17, ⟨⟨_, _, _, _, _, _, b_14, h_18, h_19, hV.kn, h_20, h_21, h_22, h_23, h_24⟩, ok⟩⟩
/-- (*bollard/volume.Volume).Undo -/
theorem c_VUndo (vp d U : Nat) (V : VolM) (i : Int) (s : TH) (hU : 10 ≤ U) (hv : VolL s vp d U V 0) : TRet Tryz.prog 54 #[.pointer (some ⟨vp, 0, none⟩), .int .i64 i] s fun v s' => v = .int .i64 (V.P.undo i).2 ∧ Ch [U, U + 30, U + 32] s s' ∧ VolL s' vp d U { V with P := (V.P.undo i).1 } 0 := by
  obtain ⟨⟨c, p, rw_, rk, mw, mk, hV⟩, ok⟩ := id hv
  have hvb := hV.blk
  have hvw := hV.wm
  have hvv := hV.wv
  have hvo := hV.om
  have hvk := hV.kv
  have hvD := hV.dk
  have hvC := hV.ca
  have hvP := hV.ps
  have hn0 := ok.n0
  have hpok := hV.ps.ok
  have hplst := hV.ps.ok.lst
  have hnb := hV.dk.nb
  obtain ⟨M, hM, hM0, hMa, hMb, hMc, hMd, hMe, hMf⟩ := fresh6 s (U + 50) 0 0 0 0 0
  refine F54_calls _ _  ?_
  unfold F54
  refine tcall (c_vheld _ _ hvb) ?_
  rintro v_2 s_1 ⟨rfl, c_4, call1a⟩
  have z_5 := c_4.size
  have hV1 := hV.relock c_4 call1a
  have hv1 : VolL s_1 vp d U V 1 := ⟨⟨_, _, _, _, _, _, hV1⟩, ok⟩
  refine dBl_i ?_
  refine sB_f (by rfl) ?_
  refine nz_i ?_
  refine nz_i ?_
  refine ld_t call1a rfl ?_
  refine dPtr_i ?_
  have h_6 := hvP.mv c_4 (rngn (by simp))
  refine tcall (c_undo _ _ _ _ _ (by omega) h_6) ?_
  rintro v_8 s_7 ⟨rfl, c_10, call2a⟩
  have z_11 := c_10.size
  refine dInt_i ?_
  have h_12 := call1a.ch c_10 (by simp <;> omega)
  refine c_door Tryz.muLib h_12 (by rfl) (fun _ => by rfl) fun s_13 b_14 c_15 z_16 => ?_
  have c_15t := on_ch h_12 c_15
  refine ret_t ?_
  have h_17 := hvw.ch ((c_4.app c_10).app c_15t) (by simp)
  have h_18 := hvv.mv ((c_4.app c_10).app c_15t) (tagn (by simp))
  have h_19 := hvo.mv ((c_4.app c_10).app c_15t) (tagn (by simp))
  have h_20 := hvk.mv ((c_4.app c_10).app c_15t) (tagn (by simp))
  have h_21 := hvD.mv ((c_4.app c_10).app c_15t) (rngn (by simp))
  have h_22 := hvC.mv ((c_4.app c_10).app c_15t) (rngn (by simp))
  have h_23 := call2a.mv c_15t (rngn (by simp))
  exact ⟨rfl, ((((Ch.refl [U, U + 30, U + 32] s).ch c_4 (by simp)).fr c_10 hM (by simp)).ch c_15t (by simp)), ⟨⟨_, _, _, _, _, _, b_14, h_17, h_18, hV.kn, h_19, h_20, h_21, h_22, h_23⟩, ⟨ok.que, ok.wid, ok.wsr, ok.lst, ok.n0, ok.nof, ok.len, ok.wlen, ok.wids⟩⟩⟩
/-- (*bollard/volume.Volume).Ready -/
theorem c_VReady (vp d U : Nat) (V : VolM) (τ : Nat) (s : TH) (hU : 10 ≤ U) (hv : VolL s vp d U V 0) (hτ : τ < U ∨ U + 50 ≤ τ) : TRet Tryz.prog 32 #[.pointer (some ⟨vp, 0, none⟩)] s fun v s' => ∃ a c, v = .slice a V.ready.length c ∧ Ch [U] s s' ∧ Own s' a V.ready.length c 3 1 (ivs V.ready) τ ∧ VolL s' vp d U V 0 := by
  obtain ⟨⟨c, p, rw_, rk, mw, mk, hV⟩, ok⟩ := id hv
  have hvb := hV.blk
  have hvw := hV.wm
  have hvv := hV.wv
  have hvo := hV.om
  have hvk := hV.kv
  have hvD := hV.dk
  have hvC := hV.ca
  have hvP := hV.ps
  have hn0 := ok.n0
  have hpok := hV.ps.ok
  have hplst := hV.ps.ok.lst
  have hnb := hV.dk.nb
  refine F32_calls _  ?_
  unfold F32
  refine tcall (c_vheld _ _ hvb) ?_
  rintro v_2 s_1 ⟨rfl, c_4, call1a⟩
  have z_5 := c_4.size
  have hV1 := hV.relock c_4 call1a
  have hv1 : VolL s_1 vp d U V 1 := ⟨⟨_, _, _, _, _, _, hV1⟩, ok⟩
  refine dBl_i ?_
  refine sB_f (by rfl) ?_
  refine nz_i ?_
  refine tcall (c_vready _ _ _ _ _ τ _ (by omega) hv1) ?_
  rintro v_7 s_6 ⟨acall2, ccall2, rfl, c_9, call2a⟩
  have z_10 := c_9.size
  refine dSl_i ?_
  have h_11 := call1a.ch c_9 (by simp)
  refine c_door Tryz.muLib h_11 (by rfl) (fun _ => by rfl) fun s_12 b_13 c_14 z_15 => ?_
  have c_14t := on_ch h_11 c_14
  refine ret_t ?_
  have h_16 := call2a.mv c_14t (tagn (by simp <;> omega))
  have h_17 := hvw.ch ((c_4.app c_9).app c_14t) (by simp)
  have h_18 := hvv.mv ((c_4.app c_9).app c_14t) (tagn (by simp))
  have h_19 := hvo.mv ((c_4.app c_9).app c_14t) (tagn (by simp))
  have h_20 := hvk.mv ((c_4.app c_9).app c_14t) (tagn (by simp))
  have h_21 := hvD.mv ((c_4.app c_9).app c_14t) (rngn (by simp))
  have h_22 := hvC.mv ((c_4.app c_9).app c_14t) (rngn (by simp))
  have h_23 := hvP.mv ((c_4.app c_9).app c_14t) (rngn (by simp))
  exact ⟨_, _, rfl, ((((Ch.refl [U] s).ch c_4 (by simp)).ch c_9 (by simp)).ch c_14t (by simp)), h_16, ⟨⟨_, _, _, _, _, _, b_13, h_17, h_18, hV.kn, h_19, h_20, h_21, h_22, h_23⟩, ok⟩⟩
/-- (*bollard/volume.Volume).Write -/
theorem c_VWrite (vp d U : Nat) (V : VolM) (b : Int) (s : TH) (hU : 10 ≤ U) (hv : VolL s vp d U V 0) (hn : V.n < 1000000000000000000) : TRet Tryz.prog 33 #[.pointer (some ⟨vp, 0, none⟩), .int .i64 b] s fun v s' => v = .int .i64 (V.write b).2 ∧ Ch [U, U + 1, U + 10, U + 11, U + 12, U + 13, U + 14, U + 20, U + 21, U + 22, U + 23] s s' ∧ VolL s' vp d U (V.write b).1 0 := by
  obtain ⟨⟨c, p, rw_, rk, mw, mk, hV⟩, ok⟩ := id hv
  have hvb := hV.blk
  have hvw := hV.wm
  have hvv := hV.wv
  have hvo := hV.om
  have hvk := hV.kv
  have hvD := hV.dk
  have hvC := hV.ca
  have hvP := hV.ps
  have hn0 := ok.n0
  have hpok := hV.ps.ok
  have hplst := hV.ps.ok.lst
  have hnb := hV.dk.nb
  refine F33_calls _ _  ?_
  unfold F33
  refine tcall (c_vheld _ _ hvb) ?_
  rintro v_2 s_1 ⟨rfl, c_4, call1a⟩
  have z_5 := c_4.size
  have hV1 := hV.relock c_4 call1a
  have hv1 : VolL s_1 vp d U V 1 := ⟨⟨_, _, _, _, _, _, hV1⟩, ok⟩
  refine dBl_i ?_
  refine sB_f (by rfl) ?_
  refine nz_i ?_
  refine tcall (c_vwrite _ _ _ _ _ _ _ (by omega) hv1 (by omega)) ?_
  rintro v_7 s_6 ⟨rfl, c_9, call2a⟩
  have z_10 := c_9.size
  have hvx := call2a
  obtain ⟨⟨c2, p2, rw2, rk2, mw2, mk2, hV2⟩, ok2⟩ := id hvx
  have hvb2 := hV2.blk
  refine dInt_i ?_
  refine c_door Tryz.muLib hvb2 (by rfl) (fun _ => by rfl) fun s_11 b_12 c_13 z_14 => ?_
  have c_13t := on_ch hvb2 c_13
  refine ret_t ?_
  exact ⟨rfl, ((((Ch.refl [U, U + 1, U + 10, U + 11, U + 12, U + 13, U + 14, U + 20, U + 21, U + 22, U + 23] s).ch c_4 (by simp)).ch c_9 (by simp)).ch c_13t (by simp)), ⟨⟨_, _, _, _, _, _, hV2.relock c_13t b_12⟩, ok2⟩⟩
/-- (*bollard/volume.Volume).Complete -/
theorem c_VComplete (vp d U : Nat) (V : VolM) (k : Int) (fok : Bool) (s : TH) (hU : 10 ≤ U) (hv : VolL s vp d U V 0) : TRet Tryz.prog 35 #[.pointer (some ⟨vp, 0, none⟩), .int .i64 k, .bool fok] s fun v s' => v = .int .i64 (V.compl k fok).2 ∧ Ch [U, U + 1, U + 10, U + 11, U + 12, U + 13, U + 14, U + 20, U + 21, U + 22, U + 23, U + 31, U + 32] s s' ∧ VolL s' vp d U (V.compl k fok).1 0 := by
  obtain ⟨⟨c, p, rw_, rk, mw, mk, hV⟩, ok⟩ := id hv
  have hvb := hV.blk
  have hvw := hV.wm
  have hvv := hV.wv
  have hvo := hV.om
  have hvk := hV.kv
  have hvD := hV.dk
  have hvC := hV.ca
  have hvP := hV.ps
  have hn0 := ok.n0
  have hpok := hV.ps.ok
  have hplst := hV.ps.ok.lst
  have hnb := hV.dk.nb
  refine F35_calls _ _ _  ?_
  unfold F35
  refine tcall (c_vheld _ _ hvb) ?_
  rintro v_2 s_1 ⟨rfl, c_4, call1a⟩
  have z_5 := c_4.size
  have hV1 := hV.relock c_4 call1a
  have hv1 : VolL s_1 vp d U V 1 := ⟨⟨_, _, _, _, _, _, hV1⟩, ok⟩
  refine dBl_i ?_
  refine sB_f (by rfl) ?_
  refine nz_i ?_
  refine tcall (c_vcomplete _ _ _ _ _ _ _ _ (by omega) hv1) ?_
  rintro v_7 s_6 ⟨rfl, c_9, call2a⟩
  have z_10 := c_9.size
  have hvx := call2a
  obtain ⟨⟨c2, p2, rw2, rk2, mw2, mk2, hV2⟩, ok2⟩ := id hvx
  have hvb2 := hV2.blk
  refine dInt_i ?_
  refine c_door Tryz.muLib hvb2 (by rfl) (fun _ => by rfl) fun s_11 b_12 c_13 z_14 => ?_
  have c_13t := on_ch hvb2 c_13
  refine ret_t ?_
  exact ⟨rfl, ((((Ch.refl [U, U + 1, U + 10, U + 11, U + 12, U + 13, U + 14, U + 20, U + 21, U + 22, U + 23, U + 31, U + 32] s).ch c_4 (by simp)).ch c_9 (by simp)).ch c_13t (by simp)), ⟨⟨_, _, _, _, _, _, hV2.relock c_13t b_12⟩, ok2⟩⟩
/-- (*bollard/volume.Volume).Read -/
theorem c_VRead (vp d U : Nat) (V : VolM) (τ : Nat) (b : Int) (s : TH) (hU : 10 ≤ U) (hv : VolL s vp d U V 0) (hn : V.n < 1000000000000000000) (hb : V.D.has b) (hτ : τ < U ∨ U + 50 ≤ τ) : TRet Tryz.prog 26 #[.pointer (some ⟨vp, 0, none⟩), .int .i64 b] s fun v s' => ∃ a c, v = .tuple #[.slice a 128 c, .int .i64 0] ∧ Ch [U, U + 20, U + 21, U + 22, U + 23] s s' ∧ Own s' a 128 c 5 1 (bvs (V.now b)) τ ∧ VolL s' vp d U V.tick 0 := by
  obtain ⟨⟨c, p, rw_, rk, mw, mk, hV⟩, ok⟩ := id hv
  have hvb := hV.blk
  have hvw := hV.wm
  have hvv := hV.wv
  have hvo := hV.om
  have hvk := hV.kv
  have hvD := hV.dk
  have hvC := hV.ca
  have hvP := hV.ps
  have hn0 := ok.n0
  have hpok := hV.ps.ok
  have hplst := hV.ps.ok.lst
  have hnb := hV.dk.nb
  refine F26_calls _ _  ?_
  unfold F26
  refine tcall (c_vheld _ _ hvb) ?_
  rintro v_2 s_1 ⟨rfl, c_4, call1a⟩
  have z_5 := c_4.size
  have hV1 := hV.relock c_4 call1a
  have hv1 : VolL s_1 vp d U V 1 := ⟨⟨_, _, _, _, _, _, hV1⟩, ok⟩
  refine dBl_i ?_
  refine sB_f (by rfl) ?_
  refine nz_i ?_
  refine tcall (c_vread _ _ _ _ _ τ _ _ (by omega) hv1 (by omega)) ?_
  rintro v_7 s_6 ⟨c_9, call2a⟩
  have z_10 := c_9.size
  rcases call2a with ⟨rfl, hnb2, hv2⟩ | ⟨a2, c2_, rfl, hh, hv2, ho2⟩
  ·
    exact absurd hb hnb2
  ·
    have hvx := hv2
    obtain ⟨⟨c2, p2, rw2, rk2, mw2, mk2, hV2⟩, ok2⟩ := id hvx
    have hvb2 := hV2.blk
    refine dT2 ?_
    refine dSl_i ?_
    refine dInt_i ?_
    refine c_door Tryz.muLib hvb2 (by rfl) (fun _ => by rfl) fun s_11 b_12 c_13 z_14 => ?_
    have c_13t := on_ch hvb2 c_13
    refine ret_t ?_
    have h_15 := ho2.mv c_13t (tagn (by simp <;> omega))
    exact ⟨_, _, rfl, ((((Ch.refl [U, U + 20, U + 21, U + 22, U + 23] s).ch c_4 (by simp)).ch c_9 (by simp)).ch c_13t (by simp)), h_15, ⟨⟨_, _, _, _, _, _, hV2.relock c_13t b_12⟩, ok2⟩⟩
def VolM.first (V : VolM) (b : Int) : Bool := V.old.on && !V.old.broken && (kfind V.old.kept b).isNone
def VolM.keep (V : VolM) (b : Int) : OldM := if V.first b = true then (if (V.old.kept.length : Int) < V.old.room then { V.old with kept := V.old.kept ++ [(b, V.now b)] } else { V.old with broken := true }) else V.old
def VolM.ticks (V : VolM) (b : Int) : Int := if V.first b = true then V.n + 1 else V.n
def VolM.change (V : VolM) (b o : Int) (y : List UInt8) (needs : List Int) : VolM × Int × Int :=
  if ¬ V.D.has b then (V, 0, 90)
  else if (V.P.add b o y needs).2.2 ≠ 0 then ({ V with n := V.ticks b }, 0, (V.P.add b o y needs).2.2)
  else ({ V with n := V.ticks b, P := (V.P.add b o y needs).1, old := V.keep b }, (V.P.add b o y needs).2.1, 0)
theorem olook_k {P : Program} {E : List PanicEntry → Heap → Prop} {T Kt Et : TypeId} {s : TH} {rk : Option Nat} {mk : List (Int × Value)} {l : List (Int × List UInt8)} {τ τ' : Nat} {b : Int} {K : Value → Heap → Prop} (ko : KeyOk P Kt (Value.int .i64)) (hT : P.underlying T = some (.map Kt Et)) (hz : ∀ w, (zeroValue Et).run P w = .ok (.slice none 0 0) w) (h : OMap s rk mk τ) (hv : KMap s τ' mk l)
    (hk : ∀ a n c, K (.tuple #[.slice a n c, .bool (kfind l b).isSome]) s.h) : semW P (Instr.lookup T (.map rk) (.int .i64 b) true) E s.h K := by
  have hg := KMap.get (b := b) hv
  cases hf : kfind l b with
  | none => rw [hf] at hg hk; exact olook_n ko hT hz h hg (hk _ _ _)
  | some y => rw [hf] at hg hk; obtain ⟨a, c, h1, _⟩ := hg; exact olook_s ko hT hz h h1 (hk _ _ _)
theorem add_err {P : PatchM} {b o : Int} {y : List UInt8} {needs : List Int} (h : (P.add b o y needs).2.2 ≠ 0) : (P.add b o y needs).1 = P := by
  unfold PatchM.add at h ⊢
  split
  · rfl
  · split
    · rfl
    · rename_i h1 h2
      rw [if_neg h1, if_neg h2] at h; exact absurd rfl h
theorem VOk.with {V : VolM} (ok : VOk V) {n : Int} (P : PatchM) (o : OldM) (hn : V.n ≤ n ∧ n ≤ 1000000000000000000) : VOk { V with n := n, P := P, old := o } :=
  ⟨ok.que, ok.wid, ok.wsr, by have := ok.lst; exact ⟨this.1, by show V.D.last ≤ n; omega⟩, by have := ok.n0; exact ⟨by show 0 ≤ n; omega, hn.2⟩, ok.nof, ok.len, ok.wlen, ok.wids⟩
theorem CacheV.up {s : TH} {c T d : Nat} {bs : List (List UInt8)} {n m : Int} (h : CacheV s c T d bs n) (hm : n ≤ m) : CacheV s c T d bs m := by
  obtain ⟨C, h1, h2, h3, h4, h5⟩ := h
  exact ⟨C, h1, h2, by omega, by omega, by omega⟩
/-- (*bollard/volume.Volume).Change -/
theorem c_VChange (vp d U : Nat) (V : VolM) (b o : Int) {xa : Option Addr} {xn : Nat} (xc : Nat) {y : List UInt8} {τx : Nat} {na : Option Addr} {nn : Nat} (nc : Nat) {needs : List Int} {τn : Nat} (s : TH) (hU : 10 ≤ U) (hv : VolL s vp d U V 0) (hx : Sl s xa (bvs y) τx) (hxn : y.length = xn) (hn : Sl s na (ivs needs) τn) (hnn : needs.length = nn) (hb : (nn : Int) + V.P.last ≤ 17592186044000) (hl : V.P.last < 1000000) (hk : V.n < 1000000000000000000) (hτ : (τx < U ∨ U + 50 ≤ τx) ∧ (τn < U ∨ U + 50 ≤ τn)) : TRet Tryz.prog 25 #[.pointer (some ⟨vp, 0, none⟩), .int .i64 b, .int .i64 o, .slice xa xn xc, .slice na nn nc] s fun v s' => v = .tuple #[.int .i64 (V.change b o y needs).2.1, .int .i64 (V.change b o y needs).2.2] ∧ Ch [U, U + 3, U + 20, U + 21, U + 22, U + 23, U + 30, U + 32] s s' ∧ VolL s' vp d U (V.change b o y needs).1 0 := by
  obtain ⟨⟨c, p, rw_, rk, mw, mk, hV⟩, ok⟩ := id hv
  have hvb := hV.blk
  have hvw := hV.wm
  have hvv := hV.wv
  have hvo := hV.om
  have hvk := hV.kv
  have hvD := hV.dk
  have hvC := hV.ca
  have hvP := hV.ps
  have hn0 := ok.n0
  have hpok := hV.ps.ok
  have hplst := hV.ps.ok.lst
  have hnb := hV.dk.nb
  obtain ⟨M, hM, hM0, hMa, hMb, hMc, hMd, hMe, hMf⟩ := fresh6 s (U + 50) τx τn 0 0 0
  refine F25_calls _ _ _ _ _ _ _ _ _  ?_
  unfold F25
  refine tcall (c_vheld _ _ hvb) ?_
  rintro v_2 s_1 ⟨rfl, c_4, call1a⟩
  have z_5 := c_4.size
  have hV1 := hV.relock c_4 call1a
  have hv1 : VolL s_1 vp d U V 1 := ⟨⟨_, _, _, _, _, _, hV1⟩, ok⟩
  refine dBl_i ?_
  refine sB_f (by rfl) ?_
  refine nz_i ?_
  refine tcall (c_vhas _ _ _ _ _ _ _ (by omega) hv1) ?_
  rintro v_7 s_6 ⟨rfl, c_9⟩
  have z_10 := c_9.size
  refine dBl_i ?_
  refine sB_nd (fun hsB2 => ?_) (fun hsB2 => ?_)
  ·
    have h_11 := call1a.ch c_9 (by simp)
    refine c_door Tryz.muLib h_11 (by rfl) (fun _ => by rfl) fun s_12 b_13 c_14 z_15 => ?_
    have c_14t := on_ch h_11 c_14
    refine ret_t ?_
    have h_16 := hvw.ch ((c_4.app c_9).app c_14t) (by simp)
    have h_17 := hvv.mv ((c_4.app c_9).app c_14t) (tagn (by simp))
    have h_18 := hvo.mv ((c_4.app c_9).app c_14t) (tagn (by simp))
    have h_19 := hvk.mv ((c_4.app c_9).app c_14t) (tagn (by simp))
    have h_20 := hvD.mv ((c_4.app c_9).app c_14t) (rngn (by simp))
    have h_21 := hvC.mv ((c_4.app c_9).app c_14t) (rngn (by simp))
    have h_22 := hvP.mv ((c_4.app c_9).app c_14t) (rngn (by simp))
    rw [show V.change b o y needs = (V, 0, 90) from by unfold VolM.change; rw [if_pos (by simpa using hsB2)]]
    exact ⟨rfl, ((((Ch.refl [U, U + 3, U + 20, U + 21, U + 22, U + 23, U + 30, U + 32] s).ch c_4 (by simp)).ch c_9 (by simp)).ch c_14t (by simp)), ⟨⟨_, _, _, _, _, _, b_13, h_16, h_17, hV.kn, h_18, h_19, h_20, h_21, h_22⟩, ok⟩⟩
  ·
    refine nz_i ?_
    have h_23 := call1a.ch c_9 (by simp)
    refine ld_t h_23 rfl ?_
    refine dMap_i ?_
    have h_24 := hvo.mv (c_4.app c_9) (tagn (by simp))
    have h_25 := hvk.mv (c_4.app c_9) (tagn (by simp))
    refine olook_k keyI um53 z38 h_24 h_25 fun ka kn kc => ?_
    refine dT2 ?_
    refine dSl_i ?_
    refine dBl_i ?_
    refine jn1 (fun fv s' => Ch [] s_6 s' ∧ (fv = .bool (V.first b))) ?_ ?_
    ·
      rintro fv s_26 ⟨c_27, rfl⟩
      have z_28 := c_27.size
      intro _
      intros
      refine dBl_i ?_
      refine jn_u ?_
      refine sB_i (fun hsB3 => ?_) (fun hsB3 => ?_)
      ·
        have hfirst : V.first b = true := by assumption
        have hhas : V.D.has b := by simpa using hsB2
        have hf2 := hfirst
        unfold VolM.first at hf2
        simp only [Bool.and_eq_true, Bool.not_eq_true', Option.isNone_iff_eq_none] at hf2
        have h_29 := hv1.mv (c_9.app c_27) (rngn50 (by simp))
        refine tcall (c_vread _ _ _ _ _ (U + 4) _ _ (by omega) h_29 (by omega)) ?_
        rintro v_31 s_30 ⟨c_33, call3a⟩
        have z_34 := c_33.size
        rcases call3a with ⟨rfl, hnb2, hv2⟩ | ⟨a2, c2_, rfl, hh, hv2, ho2⟩
        ·
          exact absurd hhas hnb2
        ·
          obtain ⟨⟨c2, p2, rw2, rk2, mw2, mk2, hV2⟩, ok2⟩ := id hv2
          obtain ⟨kr, hkr⟩ := Option.isSome_iff_exists.1 (hV2.kn hf2.1.1)
          subst hkr
          have hvb2 : Blk s_30 vp [.int .i32 1, .int .u32 0, .pointer (some ⟨d, 0, none⟩), .pointer (some ⟨c2, 0, none⟩), .pointer (some ⟨p2, 0, none⟩), .map (some rw2), .bool V.old.on, .bool V.old.broken, .int .i64 V.old.room, .map (some kr)] 57 U := hV2.blk
          have hvw2 := hV2.wm
          have hvv2 : WMap s_30 (U + 2) mw2 V.way := hV2.wv
          have hvo2 : OMap s_30 (some kr) mk2 (U + 3) := hV2.om
          have hvk2 : KMap s_30 (U + 4) mk2 V.old.kept := hV2.kv
          have hvD2 : Disk s_30 d (U + 10) V.D := hV2.dk
          have hvC2 : CacheV s_30 c2 (U + 20) d V.D.blocks (V.n + 1) := hV2.ca
          have hvP2 : PSet s_30 p2 (U + 30) V.P := hV2.ps
          have hkm := hvo2.at_ _ rfl
          have hkl : mk2.length = V.old.kept.length := by have := congrArg List.length hvk2.keys; simpa using this
          refine dT2 ?_
          refine dSl_i ?_
          refine dInt_i ?_
          refine sB_f (by rfl) ?_
          intro _
          intros
          refine dSl_i ?_
          refine nz_i ?_
          refine ld_t hvb2 rfl ?_
          refine dPtr_i ?_
          have h_35 := hx.mv (((c_4.app c_9).app c_27).app c_33) (tagn (by simp <;> omega))
          have h_36 := hn.mv (((c_4.app c_9).app c_27).app c_33) (tagn (by simp <;> omega))
          refine tcall (c_add _ _ _ _ _ _ _ _ (by omega) hvP2 h_35 hxn h_36 hnn hb hl) ?_
          rintro v_38 s_37 ⟨rfl, c_40, call4a⟩
          have z_41 := c_40.size
          refine dT2 ?_
          refine dInt_i ?_
          refine dInt_i ?_
          refine sB_nd (fun hsB5 => ?_) (fun hsB5 => ?_)
          ·
            have h_42 := hvb2.ch c_40 (by simp <;> omega)
            refine c_door Tryz.muLib h_42 (by rfl) (fun _ => by rfl) fun s_43 b_44 c_45 z_46 => ?_
            have c_45t := on_ch h_42 c_45
            refine ret_t ?_
            have h_47 := call4a.mv c_45t (rngn (by simp))
            have h_48 := hvw2.ch (c_40.app c_45t) (by simp)
            have h_49 := hvv2.mv (c_40.app c_45t) (tagn (by simp))
            have h_50 := hvo2.mv (c_40.app c_45t) (tagn (by simp))
            have h_51 := hvk2.mv (c_40.app c_45t) (tagn (by simp))
            have h_52 := hvD2.mv (c_40.app c_45t) (rngn (by simp))
            have h_53 := hvC2.mv (c_40.app c_45t) (rngn (by simp))
            have ht : V.ticks b = V.n + 1 := by unfold VolM.ticks; rw [if_pos hfirst]
            have hc : V.change b o y needs = ({ V with n := V.ticks b }, 0, (V.P.add b o y needs).2.2) := by unfold VolM.change; rw [if_neg (by simpa using hsB2), if_pos hsB5]
            rw [hc]
            have hP := h_47
            rw [add_err hsB5] at hP
            exact ⟨rfl, (((((((Ch.refl [U, U + 3, U + 20, U + 21, U + 22, U + 23, U + 30, U + 32] s).ch c_4 (by simp)).ch c_9 (by simp)).ch c_27 (by simp)).ch c_33 (by simp)).fr c_40 hM (by simp)).ch c_45t (by simp)), ⟨⟨_, _, _, _, _, _, b_44, h_48, h_49, hV2.kn, h_50, h_51, h_52, by rw [ht]; exact h_53, hP⟩, ok.with V.P V.old (by rw [ht]; omega)⟩⟩
          ·
            refine jn_u ?_
            refine jn_u ?_
            refine sB_t (by assumption) ?_
            refine nz_i ?_
            have h_54 := hvb2.ch c_40 (by simp <;> omega)
            refine ld_t h_54 rfl ?_
            refine dMap_i ?_
            refine nz_i ?_
            refine ld_t h_54 rfl ?_
            refine dInt_i ?_
            have h_55 := hkm.ch c_40 (by simp)
            refine mlen_t um53 h_55 ?_
            refine dInt_i ?_
            refine ⟨?_, ?_⟩
            ·
              refine ld_t h_54 rfl ?_
              refine dInt_i ?_
              rfl
            ·
              intro _
              intros
              refine dBl_i ?_
              refine sB_d (fun hsB7 => ?_) (fun hsB7 => ?_)
              ·
                refine nz_i ?_
                refine ld_t h_54 rfl ?_
                refine dMap_i ?_
                refine upd_t keyI um53 h_55 b (Value.slice a2 128 c2_) fun s_60 m_61 c_62o z_63 => ?_
                have c_62 : Ch [U + 3] s_37 s_60 := Chg.mono c_62o fun j _ e => by subst e; rw [h_55.tag]; simp
                intro _
                intros
                have h_64 := h_54.ch c_62 (by simp)
                refine c_door Tryz.muLib h_64 (by rfl) (fun _ => by rfl) fun s_65 b_66 c_67 z_68 => ?_
                have c_67t := on_ch h_64 c_67
                refine ret_t ?_
                have h_69 := hvw2.ch ((c_40.app c_62).app c_67t) (by simp)
                have h_70 := hvv2.mv ((c_40.app c_62).app c_67t) (tagn (by simp))
                have h_71 := m_61.ch c_67t (by simp)
                have h_72 := ho2.mv ((c_40.app c_62).app c_67t) (tagn (by simp))
                have h_73 := hvk2.mv ((c_40.app c_62).app c_67t) (tagn (by simp))
                have h_74 := hvD2.mv ((c_40.app c_62).app c_67t) (rngn (by simp))
                have h_75 := hvC2.mv ((c_40.app c_62).app c_67t) (rngn (by simp))
                have h_76 := call4a.mv (c_62.app c_67t) (rngn (by simp))
                have ht : V.ticks b = V.n + 1 := by unfold VolM.ticks; rw [if_pos hfirst]
                have hkp : V.keep b = { V.old with kept := V.old.kept ++ [(b, V.now b)] } := by unfold VolM.keep; rw [if_pos hfirst, if_pos (by omega)]
                have hc : V.change b o y needs = ({ V with n := V.ticks b, P := (V.P.add b o y needs).1, old := V.keep b }, (V.P.add b o y needs).2.1, 0) := by unfold VolM.change; rw [if_neg (by simpa using hsB2), if_neg (by simpa using hsB5)]
                rw [hc]
                rw [hkp]
                exact ⟨rfl, ((((((((Ch.refl [U, U + 3, U + 20, U + 21, U + 22, U + 23, U + 30, U + 32] s).ch c_4 (by simp)).ch c_9 (by simp)).ch c_27 (by simp)).ch c_33 (by simp)).fr c_40 hM (by simp)).ch c_62 (by simp)).ch c_67t (by simp)), ⟨⟨_, _, _, _, _, _, b_66, h_69, h_70, fun _ => rfl, OMap.of h_71, KMap.snoc h_72.sl (by have := h_72.1; rw [bvs_len] at this; omega) h_73 hf2.2, h_74, by rw [ht]; exact h_75, h_76⟩, ok.with _ _ (by rw [ht]; omega)⟩⟩
              ·
                refine sB_t (by assumption) ?_
                refine nz_i ?_
                refine st_t (i := 7) h_54 rfl (by simp) fun s142 b_77 c_78o z_79 => ?_
                have c_78 := on_ch h_54 c_78o
                intro _
                intros
                refine c_door Tryz.muLib b_77 (by rfl) (fun _ => by rfl) fun s_80 b_81 c_82 z_83 => ?_
                have c_82t := on_ch b_77 c_82
                refine ret_t ?_
                have h_84 := hvw2.ch ((c_40.app c_78).app c_82t) (by simp)
                have h_85 := hvv2.mv ((c_40.app c_78).app c_82t) (tagn (by simp))
                have h_86 := hvo2.mv ((c_40.app c_78).app c_82t) (tagn (by simp))
                have h_87 := hvk2.mv ((c_40.app c_78).app c_82t) (tagn (by simp))
                have h_88 := hvD2.mv ((c_40.app c_78).app c_82t) (rngn (by simp))
                have h_89 := hvC2.mv ((c_40.app c_78).app c_82t) (rngn (by simp))
                have h_90 := call4a.mv (c_78.app c_82t) (rngn (by simp))
                have ht : V.ticks b = V.n + 1 := by unfold VolM.ticks; rw [if_pos hfirst]
                have hkp : V.keep b = { V.old with broken := true } := by unfold VolM.keep; rw [if_pos hfirst, if_neg (by omega)]
                have hc : V.change b o y needs = ({ V with n := V.ticks b, P := (V.P.add b o y needs).1, old := V.keep b }, (V.P.add b o y needs).2.1, 0) := by unfold VolM.change; rw [if_neg (by simpa using hsB2), if_neg (by simpa using hsB5)]
                rw [hc]
                rw [hkp]
                exact ⟨rfl, ((((((((Ch.refl [U, U + 3, U + 20, U + 21, U + 22, U + 23, U + 30, U + 32] s).ch c_4 (by simp)).ch c_9 (by simp)).ch c_27 (by simp)).ch c_33 (by simp)).fr c_40 hM (by simp)).ch c_78 (by simp)).ch c_82t (by simp)), ⟨⟨_, _, _, _, _, _, b_81, h_84, h_85, fun _ => rfl, h_86, h_87, h_88, by rw [ht]; exact h_89, h_90⟩, ok.with _ _ (by rw [ht]; omega)⟩⟩
      ·
        intro _
        intros
        refine dSl_i ?_
        refine nz_i ?_
        have h_91 := h_23.ch c_27 (by simp)
        refine ld_t h_91 rfl ?_
        refine dPtr_i ?_
        have h_92 := hvP.mv ((c_4.app c_9).app c_27) (rngn (by simp))
        have h_93 := hx.mv ((c_4.app c_9).app c_27) (tagn (by simp <;> omega))
        have h_94 := hn.mv ((c_4.app c_9).app c_27) (tagn (by simp <;> omega))
        refine tcall (c_add _ _ _ _ _ _ _ _ (by omega) h_92 h_93 hxn h_94 hnn hb hl) ?_
        rintro v_96 s_95 ⟨rfl, c_98, call5a⟩
        have z_99 := c_98.size
        refine dT2 ?_
        refine dInt_i ?_
        refine dInt_i ?_
        refine sB_nd (fun hsB9 => ?_) (fun hsB9 => ?_)
        ·
          have h_100 := h_91.ch c_98 (by simp <;> omega)
          refine c_door Tryz.muLib h_100 (by rfl) (fun _ => by rfl) fun s_101 b_102 c_103 z_104 => ?_
          have c_103t := on_ch h_100 c_103
          refine ret_t ?_
          have h_105 := call5a.mv c_103t (rngn (by simp))
          have h_106 := hvw.ch ((((c_4.app c_9).app c_27).app c_98).app c_103t) (by simp)
          have h_107 := hvv.mv ((((c_4.app c_9).app c_27).app c_98).app c_103t) (tagn (by simp))
          have h_108 := h_24.mv ((c_27.app c_98).app c_103t) (tagn (by simp))
          have h_109 := h_25.mv ((c_27.app c_98).app c_103t) (tagn (by simp))
          have h_110 := hvD.mv ((((c_4.app c_9).app c_27).app c_98).app c_103t) (rngn (by simp))
          have h_111 := hvC.mv ((((c_4.app c_9).app c_27).app c_98).app c_103t) (rngn (by simp))
          have ht : V.ticks b = V.n := by unfold VolM.ticks; rw [if_neg (by simpa using hsB3)]
          have hc : V.change b o y needs = ({ V with n := V.ticks b }, 0, (V.P.add b o y needs).2.2) := by unfold VolM.change; rw [if_neg (by simpa using hsB2), if_pos hsB9]
          rw [hc]
          have hP := h_105
          rw [add_err hsB9] at hP
          exact ⟨rfl, ((((((Ch.refl [U, U + 3, U + 20, U + 21, U + 22, U + 23, U + 30, U + 32] s).ch c_4 (by simp)).ch c_9 (by simp)).ch c_27 (by simp)).fr c_98 hM (by simp)).ch c_103t (by simp)), ⟨⟨_, _, _, _, _, _, b_102, h_106, h_107, hV.kn, h_108, h_109, h_110, by rw [ht]; exact h_111, hP⟩, ok.with V.P V.old (by rw [ht]; omega)⟩⟩
        ·
          refine jn_u ?_
          refine jn_u ?_
          refine sB_f (by assumption) ?_
          intro _
          intros
          refine dBl_i ?_
          refine sB_f (by rfl) ?_
          refine sB_f (by assumption) ?_
          intro _
          intros
          have h_112 := h_91.ch c_98 (by simp <;> omega)
          refine c_door Tryz.muLib h_112 (by rfl) (fun _ => by rfl) fun s_113 b_114 c_115 z_116 => ?_
          have c_115t := on_ch h_112 c_115
          refine ret_t ?_
          have h_117 := hvw.ch ((((c_4.app c_9).app c_27).app c_98).app c_115t) (by simp)
          have h_118 := hvv.mv ((((c_4.app c_9).app c_27).app c_98).app c_115t) (tagn (by simp))
          have h_119 := h_24.mv ((c_27.app c_98).app c_115t) (tagn (by simp))
          have h_120 := h_25.mv ((c_27.app c_98).app c_115t) (tagn (by simp))
          have h_121 := hvD.mv ((((c_4.app c_9).app c_27).app c_98).app c_115t) (rngn (by simp))
          have h_122 := hvC.mv ((((c_4.app c_9).app c_27).app c_98).app c_115t) (rngn (by simp))
          have h_123 := call5a.mv c_115t (rngn (by simp))
          have ht : V.ticks b = V.n := by unfold VolM.ticks; rw [if_neg (by simpa using hsB3)]
          have hkp : V.keep b = V.old := by unfold VolM.keep; rw [if_neg (by simpa using hsB3)]
          have hc : V.change b o y needs = ({ V with n := V.ticks b, P := (V.P.add b o y needs).1, old := V.keep b }, (V.P.add b o y needs).2.1, 0) := by unfold VolM.change; rw [if_neg (by simpa using hsB2), if_neg (by simpa using hsB9)]
          rw [hc]
          rw [hkp]
          exact ⟨rfl, ((((((Ch.refl [U, U + 3, U + 20, U + 21, U + 22, U + 23, U + 30, U + 32] s).ch c_4 (by simp)).ch c_9 (by simp)).ch c_27 (by simp)).fr c_98 hM (by simp)).ch c_115t (by simp)), ⟨⟨_, _, _, _, _, _, b_114, h_117, h_118, hV.kn, h_119, h_120, h_121, by rw [ht]; exact h_122, h_123⟩, ok.with _ _ (by rw [ht]; omega)⟩⟩
    ·
      intro K_124 hK_124
      refine nz_i ?_
      refine ld_t h_23 rfl ?_
      refine dBl_i ?_
      refine sB_i (fun hsB13 => ?_) (fun hsB13 => ?_)
      ·
        refine nz_i ?_
        refine ld_t h_23 rfl ?_
        refine dBl_i ?_
        refine sB_n (fun hsB14 => ?_) (fun hsB14 => ?_)
        ·
          refine hK_124 _ _ ⟨(Ch.refl [] s_6), ?_⟩
          first | rfl | (unfold VolM.first; simp [*])
        ·
          refine hK_124 _ _ ⟨(Ch.refl [] s_6), ?_⟩
          first | rfl | (unfold VolM.first; simp [*])
      ·
        refine hK_124 _ _ ⟨(Ch.refl [] s_6), ?_⟩
        first | rfl | (unfold VolM.first; simp [*])
def VolM.freeze (V : VolM) (room : Int) : VolM × Int :=
  if V.old.on = true then (V, 3) else if room < 0 ∨ room > 65536 then (V, 1) else ({ V with old := ⟨true, false, room, []⟩ }, 0)
def VolM.oldb (V : VolM) (b : Int) : List UInt8 := (kfind V.old.kept b).getD (V.now b)
theorem OMap.nil (s : TH) (τ : Nat) : OMap s none [] τ := ⟨fun r e => (by cases e), fun _ => rfl⟩
theorem VOk.oldw {V : VolM} (ok : VOk V) (o : OldM) : VOk { V with old := o } := ⟨ok.que, ok.wid, ok.wsr, ok.lst, ok.n0, ok.nof, ok.len, ok.wlen, ok.wids⟩
/-- (*bollard/volume.Volume).Freeze -/
theorem c_VFreeze (vp d U : Nat) (V : VolM) (room : Int) (s : TH) (hU : 10 ≤ U) (hv : VolL s vp d U V 0) : TRet Tryz.prog 51 #[.pointer (some ⟨vp, 0, none⟩), .int .i64 room] s fun v s' => v = .int .i64 (V.freeze room).2 ∧ Ch [U, U + 3] s s' ∧ VolL s' vp d U (V.freeze room).1 0 := by
  obtain ⟨⟨c, p, rw_, rk, mw, mk, hV⟩, ok⟩ := id hv
  have hvb := hV.blk
  have hvw := hV.wm
  have hvv := hV.wv
  have hvo := hV.om
  have hvk := hV.kv
  have hvD := hV.dk
  have hvC := hV.ca
  have hvP := hV.ps
  have hn0 := ok.n0
  have hpok := hV.ps.ok
  have hplst := hV.ps.ok.lst
  have hnb := hV.dk.nb
  refine F51_calls _ _  ?_
  unfold F51
  refine tcall (c_vheld _ _ hvb) ?_
  rintro v_2 s_1 ⟨rfl, c_4, call1a⟩
  have z_5 := c_4.size
  have hV1 := hV.relock c_4 call1a
  have hv1 : VolL s_1 vp d U V 1 := ⟨⟨_, _, _, _, _, _, hV1⟩, ok⟩
  refine dBl_i ?_
  refine sB_f (by rfl) ?_
  refine nz_i ?_
  refine nz_i ?_
  refine ld_t call1a rfl ?_
  refine dBl_i ?_
  refine sB_i (fun hsB2 => ?_) (fun hsB2 => ?_)
  ·
    refine c_door Tryz.muLib call1a (by rfl) (fun _ => by rfl) fun s_6 b_7 c_8 z_9 => ?_
    have c_8t := on_ch call1a c_8
    refine ret_t ?_
    have h_10 := hvw.ch (c_4.app c_8t) (by simp)
    have h_11 := hvv.mv (c_4.app c_8t) (tagn (by simp))
    have h_12 := hvo.mv (c_4.app c_8t) (tagn (by simp))
    have h_13 := hvk.mv (c_4.app c_8t) (tagn (by simp))
    have h_14 := hvD.mv (c_4.app c_8t) (rngn (by simp))
    have h_15 := hvC.mv (c_4.app c_8t) (rngn (by simp))
    have h_16 := hvP.mv (c_4.app c_8t) (rngn (by simp))
    rw [show V.freeze room = (V, 3) from by unfold VolM.freeze; rw [if_pos (by assumption)]]
    exact ⟨rfl, (((Ch.refl [U, U + 3] s).ch c_4 (by simp)).ch c_8t (by simp)), ⟨⟨_, _, _, _, _, _, b_7, h_10, h_11, hV.kn, h_12, h_13, h_14, h_15, h_16⟩, ok⟩⟩
  ·
    refine jn_u ?_
    refine sB_d (fun hsB3 => ?_) (fun hsB3 => ?_)
    ·
      intro _
      intros
      refine dBl_i ?_
      refine sB_t (by rfl) ?_
      refine c_door Tryz.muLib call1a (by rfl) (fun _ => by rfl) fun s_17 b_18 c_19 z_20 => ?_
      have c_19t := on_ch call1a c_19
      refine ret_t ?_
      have h_21 := hvw.ch (c_4.app c_19t) (by simp)
      have h_22 := hvv.mv (c_4.app c_19t) (tagn (by simp))
      have h_23 := hvo.mv (c_4.app c_19t) (tagn (by simp))
      have h_24 := hvk.mv (c_4.app c_19t) (tagn (by simp))
      have h_25 := hvD.mv (c_4.app c_19t) (rngn (by simp))
      have h_26 := hvC.mv (c_4.app c_19t) (rngn (by simp))
      have h_27 := hvP.mv (c_4.app c_19t) (rngn (by simp))
      rw [show V.freeze room = (V, 1) from by unfold VolM.freeze; rw [if_neg (by simp only [*]; simp), if_pos (by omega)]]
      exact ⟨rfl, (((Ch.refl [U, U + 3] s).ch c_4 (by simp)).ch c_19t (by simp)), ⟨⟨_, _, _, _, _, _, b_18, h_21, h_22, hV.kn, h_23, h_24, h_25, h_26, h_27⟩, ok⟩⟩
    ·
      intro _
      intros
      refine dBl_i ?_
      refine sB_d (fun hsB5 => ?_) (fun hsB5 => ?_)
      ·
        refine c_door Tryz.muLib call1a (by rfl) (fun _ => by rfl) fun s_28 b_29 c_30 z_31 => ?_
        have c_30t := on_ch call1a c_30
        refine ret_t ?_
        have h_32 := hvw.ch (c_4.app c_30t) (by simp)
        have h_33 := hvv.mv (c_4.app c_30t) (tagn (by simp))
        have h_34 := hvo.mv (c_4.app c_30t) (tagn (by simp))
        have h_35 := hvk.mv (c_4.app c_30t) (tagn (by simp))
        have h_36 := hvD.mv (c_4.app c_30t) (rngn (by simp))
        have h_37 := hvC.mv (c_4.app c_30t) (rngn (by simp))
        have h_38 := hvP.mv (c_4.app c_30t) (rngn (by simp))
        rw [show V.freeze room = (V, 1) from by unfold VolM.freeze; rw [if_neg (by simp only [*]; simp), if_pos (by omega)]]
        exact ⟨rfl, (((Ch.refl [U, U + 3] s).ch c_4 (by simp)).ch c_30t (by simp)), ⟨⟨_, _, _, _, _, _, b_29, h_32, h_33, hV.kn, h_34, h_35, h_36, h_37, h_38⟩, ok⟩⟩
      ·
        refine alm_t (Value.int .i64) (U + 3) fun r23 s24 hr23 b_39 c_40 z_41 => ?_
        refine nz_i ?_
        have h_45 := call1a.ch c_40 (by simp)
        refine st_t (r := vp) (i := 6) h_45 rfl (by simp) fun s26 b_42 c_43o z_44 => ?_
        have c_43 := on_ch h_45 c_43o
        refine st_t (r := vp) (i := 7) b_42 rfl (by simp) fun s27 b_46 c_47o z_48 => ?_
        have c_47 := on_ch b_42 c_47o
        refine st_t (r := vp) (i := 8) b_46 rfl (by simp) fun s28 b_49 c_50o z_51 => ?_
        have c_50 := on_ch b_46 c_50o
        refine st_t (r := vp) (i := 9) b_49 rfl (by simp) fun s29 b_52 c_53o z_54 => ?_
        have c_53 := on_ch b_49 c_53o
        refine c_door Tryz.muLib b_52 (by rfl) (fun _ => by rfl) fun s_55 b_56 c_57 z_58 => ?_
        have c_57t := on_ch b_52 c_57
        refine ret_t ?_
        have h_59 := hvw.ch ((((((c_4.app c_40).app c_43).app c_47).app c_50).app c_53).app c_57t) (by simp)
        have h_60 := hvv.mv ((((((c_4.app c_40).app c_43).app c_47).app c_50).app c_53).app c_57t) (tagn (by simp))
        have h_61 := b_39.ch ((((c_43.app c_47).app c_50).app c_53).app c_57t) (by simp)
        have h_62 := hvD.mv ((((((c_4.app c_40).app c_43).app c_47).app c_50).app c_53).app c_57t) (rngn (by simp))
        have h_63 := hvC.mv ((((((c_4.app c_40).app c_43).app c_47).app c_50).app c_53).app c_57t) (rngn (by simp))
        have h_64 := hvP.mv ((((((c_4.app c_40).app c_43).app c_47).app c_50).app c_53).app c_57t) (rngn (by simp))
        rw [show V.freeze room = ({ V with old := ⟨true, false, room, []⟩ }, 0) from by unfold VolM.freeze; rw [if_neg (by simp only [*]; simp), if_neg (by omega)]]
        exact ⟨rfl, ((((((((Ch.refl [U, U + 3] s).ch c_4 (by simp)).ch c_40 (by simp)).ch c_43 (by simp)).ch c_47 (by simp)).ch c_50 (by simp)).ch c_53 (by simp)).ch c_57t (by simp)), ⟨⟨_, _, _, _, _, _, b_56, h_59, h_60, fun _ => rfl, OMap.of h_61, trivial, h_62, h_63, h_64⟩, ok.oldw _⟩⟩
/-- (*bollard/volume.Volume).Old -/
theorem c_VOld (vp d U : Nat) (V : VolM) (τ : Nat) (b : Int) (s : TH) (hU : 10 ≤ U) (hv : VolL s vp d U V 0) (hn : V.n < 1000000000000000000) (hb : V.D.has b) (hτ : τ < U ∨ U + 50 ≤ τ) : TRet Tryz.prog 55 #[.pointer (some ⟨vp, 0, none⟩), .int .i64 b] s fun v s' => Ch [U, U + 20, U + 21, U + 22, U + 23] s s' ∧ (((V.old.on = false ∨ V.old.broken = true) ∧ v = .tuple #[.slice none 0 0, .int .i64 3] ∧ VolL s' vp d U V 0) ∨ (∃ a c, V.old.on = true ∧ V.old.broken = false ∧ v = .tuple #[.slice a 128 c, .int .i64 0] ∧ VolL s' vp d U V.tick 0 ∧ Own s' a 128 c 5 1 (bvs (V.oldb b)) τ)) := by
  obtain ⟨⟨c, p, rw_, rk, mw, mk, hV⟩, ok⟩ := id hv
  have hvb := hV.blk
  have hvw := hV.wm
  have hvv := hV.wv
  have hvo := hV.om
  have hvk := hV.kv
  have hvD := hV.dk
  have hvC := hV.ca
  have hvP := hV.ps
  have hn0 := ok.n0
  have hpok := hV.ps.ok
  have hplst := hV.ps.ok.lst
  have hnb := hV.dk.nb
  refine F55_calls _ _  ?_
  unfold F55
  refine tcall (c_vheld _ _ hvb) ?_
  rintro v_2 s_1 ⟨rfl, c_4, call1a⟩
  have z_5 := c_4.size
  have hV1 := hV.relock c_4 call1a
  have hv1 : VolL s_1 vp d U V 1 := ⟨⟨_, _, _, _, _, _, hV1⟩, ok⟩
  refine dBl_i ?_
  refine sB_f (by rfl) ?_
  refine nz_i ?_
  refine jn_u ?_
  refine nz_i ?_
  refine ld_t call1a rfl ?_
  refine dBl_i ?_
  refine sB_n (fun hsB2 => ?_) (fun hsB2 => ?_)
  ·
    intro _
    intros
    refine dBl_i ?_
    refine sB_t (by rfl) ?_
    refine c_door Tryz.muLib call1a (by rfl) (fun _ => by rfl) fun s_6 b_7 c_8 z_9 => ?_
    have c_8t := on_ch call1a c_8
    refine ret_t ?_
    have h_10 := hvw.ch (c_4.app c_8t) (by simp)
    have h_11 := hvv.mv (c_4.app c_8t) (tagn (by simp))
    have h_12 := hvo.mv (c_4.app c_8t) (tagn (by simp))
    have h_13 := hvk.mv (c_4.app c_8t) (tagn (by simp))
    have h_14 := hvD.mv (c_4.app c_8t) (rngn (by simp))
    have h_15 := hvC.mv (c_4.app c_8t) (rngn (by simp))
    have h_16 := hvP.mv (c_4.app c_8t) (rngn (by simp))
    exact ⟨(((Ch.refl [U, U + 20, U + 21, U + 22, U + 23] s).ch c_4 (by simp)).ch c_8t (by simp)), .inl ⟨.inl (by assumption), rfl, ⟨⟨_, _, _, _, _, _, b_7, h_10, h_11, hV.kn, h_12, h_13, h_14, h_15, h_16⟩, ok⟩⟩⟩
  ·
    refine nz_i ?_
    refine ld_t call1a rfl ?_
    refine dBl_i ?_
    intro _
    intros
    refine dBl_i ?_
    refine sB_i (fun hsB4 => ?_) (fun hsB4 => ?_)
    ·
      refine c_door Tryz.muLib call1a (by rfl) (fun _ => by rfl) fun s_17 b_18 c_19 z_20 => ?_
      have c_19t := on_ch call1a c_19
      refine ret_t ?_
      have h_21 := hvw.ch (c_4.app c_19t) (by simp)
      have h_22 := hvv.mv (c_4.app c_19t) (tagn (by simp))
      have h_23 := hvo.mv (c_4.app c_19t) (tagn (by simp))
      have h_24 := hvk.mv (c_4.app c_19t) (tagn (by simp))
      have h_25 := hvD.mv (c_4.app c_19t) (rngn (by simp))
      have h_26 := hvC.mv (c_4.app c_19t) (rngn (by simp))
      have h_27 := hvP.mv (c_4.app c_19t) (rngn (by simp))
      exact ⟨(((Ch.refl [U, U + 20, U + 21, U + 22, U + 23] s).ch c_4 (by simp)).ch c_19t (by simp)), .inl ⟨.inr (by assumption), rfl, ⟨⟨_, _, _, _, _, _, b_18, h_21, h_22, hV.kn, h_23, h_24, h_25, h_26, h_27⟩, ok⟩⟩⟩
    ·
      refine nz_i ?_
      refine ld_t call1a rfl ?_
      refine dMap_i ?_
      have hon : V.old.on = true := by assumption
      have hbr : V.old.broken = false := by assumption
      have h_28 := hvk.mv c_4 (tagn (by simp))
      have hkg := KMap.get (b := b) h_28
      rcases hkf : kfind V.old.kept b with _ | yk
      ·
        rw [hkf] at hkg
        have h_29 := hvo.mv c_4 (tagn (by simp))
        refine olook_n keyI um53 z38 h_29 hkg ?_
        refine dT2 ?_
        refine dSl_i ?_
        refine dBl_i ?_
        refine sB_f (by rfl) ?_
        refine tcall (c_vread _ _ _ _ _ τ _ _ (by omega) hv1 (by omega)) ?_
        rintro v_31 s_30 ⟨c_33, call2a⟩
        have z_34 := c_33.size
        rcases call2a with ⟨rfl, hnb2, hv2⟩ | ⟨a2, c2_, rfl, hh, hv2, ho2⟩
        ·
          exact absurd hb hnb2
        ·
          have hvx := hv2
          obtain ⟨⟨c2, p2, rw2, rk2, mw2, mk2, hV2⟩, ok2⟩ := id hvx
          have hvb2 := hV2.blk
          refine dT2 ?_
          refine dSl_i ?_
          refine dInt_i ?_
          refine c_door Tryz.muLib hvb2 (by rfl) (fun _ => by rfl) fun s_35 b_36 c_37 z_38 => ?_
          have c_37t := on_ch hvb2 c_37
          refine ret_t ?_
          have h_39 := ho2.mv c_37t (tagn (by simp <;> omega))
          exact ⟨((((Ch.refl [U, U + 20, U + 21, U + 22, U + 23] s).ch c_4 (by simp)).ch c_33 (by simp)).ch c_37t (by simp)), .inr ⟨_, _, hon, hbr, rfl, ⟨⟨_, _, _, _, _, _, hV2.relock c_37t b_36⟩, ok2⟩, by unfold VolM.oldb; rw [hkf]; exact h_39⟩⟩
      ·
        rw [hkf] at hkg
        obtain ⟨ka, kc, hkg1, hkg2, hkg3⟩ := hkg
        have h_40 := hvo.mv c_4 (tagn (by simp))
        refine olook_s keyI um53 z38 h_40 hkg1 ?_
        refine dT2 ?_
        refine dSl_i ?_
        refine dBl_i ?_
        refine sB_t (by rfl) ?_
        refine tcall (c_cloneB τ _ hkg2 hkg3 (by omega)) ?_
        rintro v_42 s_41 ⟨acall3, ccall3, rfl, c_44, call3a⟩
        have z_45 := c_44.size
        refine dSl_i ?_
        have h_46 := call1a.ch c_44 (by simp)
        refine c_door Tryz.muLib h_46 (by rfl) (fun _ => by rfl) fun s_47 b_48 c_49 z_50 => ?_
        have c_49t := on_ch h_46 c_49
        refine ret_t ?_
        have h_51 := call3a.mv c_49t (tagn (by simp <;> omega))
        have h_52 := hvw.ch ((c_4.app c_44).app c_49t) (by simp)
        have h_53 := hvv.mv ((c_4.app c_44).app c_49t) (tagn (by simp))
        have h_54 := h_40.mv (c_44.app c_49t) (tagn (by simp))
        have h_55 := h_28.mv (c_44.app c_49t) (tagn (by simp))
        have h_56 := hvD.mv ((c_4.app c_44).app c_49t) (rngn (by simp))
        have h_57 := hvC.mv ((c_4.app c_44).app c_49t) (rngn (by simp))
        have h_58 := hvP.mv ((c_4.app c_44).app c_49t) (rngn (by simp))
        have ho4 := h_51
        exact ⟨((((Ch.refl [U, U + 20, U + 21, U + 22, U + 23] s).ch c_4 (by simp)).ch c_44 (by simp)).ch c_49t (by simp)), .inr ⟨_, _, hon, hbr, rfl, ⟨⟨_, _, _, _, _, _, b_48, h_52, h_53, hV.kn, h_54, h_55, h_56, (h_57).up (by show V.n ≤ V.n + 1; omega), h_58⟩, ok.tick hn⟩, by unfold VolM.oldb; rw [hkf]; exact h_51⟩⟩
end Go.Proofs.YtngploohhmfaiaaGreat.E
/- Contracts of functions. -/
namespace Go.Proofs.YtngploohhmfaiaaGreat.E
open Go Go.Proofs Go.RowKit Go.Maps Go.Shelf Go.Sort
set_option linter.unusedVariables false
set_option linter.unusedSimpArgs false
theorem OMap.keep {s : TH} {rk : Option Nat} {mk : List (Int × Value)} {σ μ τ : Nat} (h : OMap s rk mk σ) (hn : σ ≠ μ) : OMap (remark s μ τ) rk mk σ := ⟨fun r e => (h.at_ r e).keep hn, h.no⟩
theorem WMap.keep {s : TH} {σ μ τ : Nat} (hn : σ ≠ μ) : ∀ {m : List (Int × Value)} {l : List (Int × WayM)}, WMap s σ m l → WMap (remark s μ τ) σ m l
  | [], [], h => trivial
  | e :: m, p :: l, h => by
    obtain ⟨h1, ⟨ba, bc, ia, ic, g1, g2, g3, g4⟩, h2⟩ := h
    exact ⟨h1, ⟨ba, bc, ia, ic, g1, g2.keep hn, g3.keep hn, g4⟩, WMap.keep hn h2⟩
  | [], _ :: _, h => h.elim
  | _ :: _, [], h => h.elim
theorem KMap.keep {s : TH} {σ μ τ : Nat} (hn : σ ≠ μ) : ∀ {m : List (Int × Value)} {l : List (Int × List UInt8)}, KMap s σ m l → KMap (remark s μ τ) σ m l
  | [], [], h => trivial
  | e :: m, p :: l, ⟨h1, ⟨a, c, g1, g2, g3⟩, h2⟩ => ⟨h1, ⟨a, c, g1, g2.keep hn, g3⟩, KMap.keep hn h2⟩
  | [], _ :: _, h => h.elim
  | _ :: _, [], h => h.elim
theorem PMap.keep {s : TH} {σ μ τ : Nat} (hn : σ ≠ μ) : ∀ {m : List (Int × Value)} {l : List PatM}, PMap s σ m l → PMap (remark s μ τ) σ m l
  | [], [], h => trivial
  | e :: m, p :: l, h => by
    obtain ⟨h1, ⟨ba, bc, na, nc, g1, g2, g3⟩, h2⟩ := h
    exact ⟨h1, ⟨ba, bc, na, nc, g1, g2.keep hn, g3.keep hn⟩, PMap.keep hn h2⟩
  | [], _ :: _, h => h.elim
  | _ :: _, [], h => h.elim
theorem PSet.keep {s : TH} {p T μ τ : Nat} {P : PatchM} (h : PSet s p T P) (hn : μ < T ∨ T + 10 ≤ μ) : PSet (remark s μ τ) p T P := by
  obtain ⟨⟨r1, r2, m1, m2, hp⟩, ok⟩ := h
  exact ⟨⟨r1, r2, m1, m2, hp.blk.keep (by omega), hp.dm.keep (by omega), hp.lm.keep (by omega), PMap.keep (by omega) hp.pm, hp.dk, hp.dv⟩, ok⟩
theorem Disk.keep {s : TH} {d T μ τ : Nat} {D : DiskM} (h : Disk s d T D) (hn : μ < T ∨ T + 10 ≤ μ) : Disk (remark s μ τ) d T D := by
  obtain ⟨pa, pc, qa, qc, hs, qs, fr, fm, h⟩ := h
  exact ⟨pa, pc, qa, qc, hs, qs, fr, fm, h.blk.keep (by omega), h.rows.keep (by omega), h.brel.keep (by omega), h.que.keep (by omega), h.qrel.keep (by omega), h.fails.keep (by omega), h.fok, h.nb, h.nq, h.qin⟩
theorem CacheV.keep {s : TH} {c T d μ τ : Nat} {bs : List (List UInt8)} {n : Int} (h : CacheV s c T d bs n) (hn : μ < T ∨ T + 10 ≤ μ) : CacheV (remark s μ τ) c T d bs n := by
  obtain ⟨C, ⟨⟨r, m, bp, bh, hp⟩, ok⟩, h2⟩ := h
  exact ⟨C, ⟨⟨r, m, bp, bh, hp.blk.keep (by omega), hp.map.keep (by omega), ⟨fun x hx => (hp.bufs.at_ x hx).keep (by omega)⟩, ⟨fun x hx => ⟨(hp.bufy.at_ x hx).sl.keep (by omega), (hp.bufy.at_ x hx).len⟩⟩, hp.mo, hp.bnd, hp.len⟩, ok⟩, h2⟩
theorem VolL.keep {s : TH} {v d U μ τ : Nat} {V : VolM} {lk : Int} (h : VolL s v d U V lk) (hn : μ < U ∨ U + 50 ≤ μ) : VolL (remark s μ τ) v d U V lk := by
  obtain ⟨⟨c, p, rw, rk, mw, mk, h⟩, ok⟩ := h
  exact ⟨⟨c, p, rw, rk, mw, mk, h.blk.keep (by omega), h.wm.keep (by omega), WMap.keep (by omega) h.wv, h.kn, h.om.keep (by omega), KMap.keep (by omega) h.kv, h.dk.keep (by omega), h.ca.keep (by omega), h.ps.keep (by omega)⟩, ok⟩
def VolM.wayb (V : VolM) : List Int := V.way.map fun p => p.2.blk
/-- (*bollard/volume.Volume).Way -/
theorem c_VWay (vp d U : Nat) (V : VolM) (τ : Nat) (s : TH) (hU : 10 ≤ U) (hv : VolL s vp d U V 0) (hτ : τ < U ∨ U + 50 ≤ τ) : TRet Tryz.prog 34 #[.pointer (some ⟨vp, 0, none⟩)] s fun v s' => ∃ a c, v = .slice a V.wayb.length c ∧ Ch [U] s s' ∧ Own s' a V.wayb.length c 3 1 (ivs V.wayb) τ ∧ VolL s' vp d U V 0 := by
  obtain ⟨⟨c, p, rw_, rk, mw, mk, hV⟩, ok⟩ := id hv
  have hvb := hV.blk
  have hvw := hV.wm
  have hvv := hV.wv
  have hvo := hV.om
  have hvk := hV.kv
  have hvD := hV.dk
  have hvC := hV.ca
  have hvP := hV.ps
  have hn0 := ok.n0
  have hpok := hV.ps.ok
  have hplst := hV.ps.ok.lst
  have hnb := hV.dk.nb
  obtain ⟨M, hM, hM0, hMa, hMb, hMc, hMd, hMe, hMf⟩ := fresh6 s (U + 50) τ 0 0 0 0
  refine F34_calls _  ?_
  unfold F34
  refine tcall (c_vheld _ _ hvb) ?_
  rintro v_2 s_1 ⟨rfl, c_4, call1a⟩
  have z_5 := c_4.size
  have hV1 := hV.relock c_4 call1a
  have hv1 : VolL s_1 vp d U V 1 := ⟨⟨_, _, _, _, _, _, hV1⟩, ok⟩
  refine dBl_i ?_
  refine sB_f (by rfl) ?_
  refine nz_i ?_
  refine nz_i ?_
  refine ld_t call1a rfl ?_
  refine dPtr_i ?_
  have h_6 := hvD.mv c_4 (rngn (by simp))
  refine tcall (c_queue (M + 6) d (U + 10) V.D _ (by omega) h_6) ?_
  rintro v_8 s_7 ⟨acall2, ccall2, qscall2, rfl, c_10, call2a, call2b⟩
  have z_11 := c_10.size
  have hwl := ok.wlen
  refine dSl_i ?_
  refine ⟨fun vs H' => ∃ s' : TH, s'.h = H' ∧ ∃ q qn qc i, vs = [.slice q qn qc, .int .i64 i] ∧ Ch [M + 1, M + 9] s_7 s' ∧ (∃ kk : Nat, i = kk ∧ kk ≤ V.D.queue.length ∧ qn = kk ∧ Own s' q qn qc 3 1 (ivs ((V.way.take kk).map fun p => p.2.blk)) (M + 1)), fun vs H' => match vs with | [.slice q qn qc, .int .i64 i] => ((V.D.queue.length : Int) - i).toNat | _ => 0, ⟨s_7, rfl, _, _, _, _, rfl, Ch.refl _ _, ?_⟩, ?_⟩
  ·
    exact ⟨0, rfl, by omega, rfl, by simpa [ivs] using Own.nil _ _ _ _⟩
  ·
    intro q qn qc i _ _ _ _ _ _ _ _ _ _ _ _ _ _ _ _ _ _ _ _ _ _ _ H_ hI_13
    obtain ⟨s_12, rfl, q_, qn_, qc_, i_, hvs, c_14, kk, rfl, hk, hq, ho⟩ := hI_13
    cases hvs
    have z_15 := c_14.size
    have hwq0 := wlen_q ok
    refine sB_d (fun hsB2 => ?_) (fun hsB2 => ?_)
    ·
      refine jn_u ?_
      have h_16 := call2a.mv c_14 (tagn (by simp))
      obtain ⟨a_17, rfl⟩ := h_16.ne_none (by omega)
      refine nz_i ?_
      refine ask_t (by omega) ?_
      have h_18 := call2b.mv c_14 (tagn (by simp))
      have h_19 := hvv.mv ((c_4.app c_10).app c_14) (tagn (by simp <;> omega))
      have hwq := wlen_q ok
      obtain ⟨pw, hpw⟩ : ∃ p, V.way[kk]? = some p := ⟨V.way[kk]'(by omega), by simp⟩
      have hpq := way_q ok hpw
      have hql := (h_18).len
      obtain ⟨y, hy⟩ : ∃ y, qscall2[kk]? = some y := ⟨qscall2[kk]'(by omega), by simp⟩
      have hyi := (h_18).at_ kk y _ hy hpq
      have hyi2 : y.1 = pw.1 := hyi.1
      have hyi3 : y.2.1 = pw.2.blk := hyi.2.1
      obtain ⟨wv, hwv, ⟨ba1, bc1, ia1, ic1, hxv, sb1, si1, hl1⟩⟩ := WMap.get h_19 ok.wnd hpw
      subst hxv
      refine ld_sl (h_16).sl (by rw [Int.toNat_natCast]; exact qcell0 hy) ?_
      refine ld_sl2 (h_16).sl (by rw [Int.toNat_natCast]; exact qcell1 hy) ?_
      refine ld_sl2 (h_16).sl (by rw [Int.toNat_natCast]; exact qcell2 hy) ?_
      refine al_t (M + 9) fun r76 s77 hr76 b_20 c_21 z_22 => ?_
      refine st_t b_20 rfl (by simp) fun s78 b_23 c_24o z_25 => ?_
      have c_24 := on_ch b_20 c_24o
      refine st_t b_23 rfl (by simp) fun s79 b_26 c_27o z_28 => ?_
      have c_27 := on_ch b_23 c_27o
      refine st_t b_26 rfl (by simp) fun s80 b_29 c_30o z_31 => ?_
      have c_30 := on_ch b_26 c_30o
      refine nz_i ?_
      have h_32 := call1a.ch (((((c_10.app c_14).app c_21).app c_24).app c_27).app c_30) (by simp <;> omega)
      refine ld_t h_32 rfl ?_
      refine dMap_i ?_
      refine ld_t b_29 rfl ?_
      refine dInt_i ?_
      refine ⟨?_, ?_⟩
      ·
        have h_33 := hvw.ch ((((((c_4.app c_10).app c_14).app c_21).app c_24).app c_27).app c_30) (by simp <;> omega)
        refine look_oks keyI um52 z153 h_33 y.1 (by rw [hyi2]; exact hwv) ?_
        refine dT2 ?_
        refine dA3 ?_
        refine dBl_i ?_
        refine al_t (M + 9) fun r96 s97 hr96 b_34 c_35 z_36 => ?_
        refine st_t b_34 rfl (by simp) fun s98 b_37 c_38o z_39 => ?_
        have c_38 := on_ch b_34 c_38o
        refine st_t b_37 rfl (by simp) fun s99 b_40 c_41o z_42 => ?_
        have c_41 := on_ch b_37 c_41o
        refine st_t b_40 rfl (by simp) fun s100 b_43 c_44o z_45 => ?_
        have c_44 := on_ch b_40 c_44o
        refine sB_t (by rfl) ?_
        have h_47 := b_29.ch c_35 (by simp)
        have h_48 := h_47.on c_38o (by omega)
        have h_49 := h_48.on c_41o (by omega)
        have h_50 := h_49.on c_44o (by omega)
        refine ld_t h_50 rfl ?_
        refine dInt_i ?_
        refine al_t (M + 9) fun r103 s104 hr103 b_51 c_52 z_53 => ?_
        have h_56 := ho.mv ((((((((c_21.app c_24).app c_27).app c_30).app c_35).app c_38).app c_41).app c_44).app c_52) (tagn (by simp))
        refine app_i1 u73 in3 h_56 b_51 (by omega) fun s_57 a_54 k_55 o_58 c_59 => ?_
        have z_60 := c_59.size
        refine dSl_i ?_
        intro _
        intros
        refine dSl_i ?_
        refine wr_t (by omega) ?_
        refine ⟨⟨s_57, rfl, _, _, _, _, rfl, ((((((((((((Ch.refl [M + 1, M + 9] s_7).ch c_14 (by simp)).ch c_21 (by simp)).ch c_24 (by simp)).ch c_27 (by simp)).ch c_30 (by simp)).ch c_35 (by simp)).ch c_38 (by simp)).ch c_41 (by simp)).ch c_44 (by simp)).ch c_52 (by simp)).ch c_59 (by simp)), ?_⟩, ?_⟩
        ·
          refine ⟨kk + 1, by omega, by omega, by omega, ?_⟩
          have ho := o_58
          rw [hyi3] at ho
          rw [List.take_add_one, hpw, List.map_append]
          exact ho
        ·
          simp only []; omega
      ·
        refine al_t (M + 9) fun r115 s116 hr115 b_61 c_62 z_63 => ?_
        refine ⟨?_, ?_⟩
        ·
          have h_64 := b_29.ch c_62 (by simp)
          refine ld_t h_64 rfl ?_
          refine dInt_i ?_
          rfl
        ·
          refine ⟨?_, ?_⟩
          ·
            have h_65 := h_32.ch c_62 (by simp)
            refine ld_t h_65 rfl ?_
            refine dMap_i ?_
            rfl
          ·
            have h_66 := hvw.ch (((((((c_4.app c_10).app c_14).app c_21).app c_24).app c_27).app c_30).app c_62) (by simp <;> omega)
            refine look_oks keyI um52 z153 h_66 y.1 (by rw [hyi2]; exact hwv) ?_
            refine dT2 ?_
            refine dA3 ?_
            refine dBl_i ?_
            refine st_t b_61 rfl (by simp) fun s131 b_67 c_68o z_69 => ?_
            have c_68 := on_ch b_61 c_68o
            refine st_t b_67 rfl (by simp) fun s132 b_70 c_71o z_72 => ?_
            have c_71 := on_ch b_67 c_71o
            refine st_t b_70 rfl (by simp) fun s133 b_73 c_74o z_75 => ?_
            have c_74 := on_ch b_70 c_74o
            refine sB_t (by rfl) ?_
            have h_77 := b_29.ch c_62 (by simp)
            have h_78 := h_77.on c_68o (by omega)
            have h_79 := h_78.on c_71o (by omega)
            have h_80 := h_79.on c_74o (by omega)
            refine ld_t h_80 rfl ?_
            refine dInt_i ?_
            refine al_t (M + 9) fun r136 s137 hr136 b_81 c_82 z_83 => ?_
            have h_86 := ho.mv ((((((((c_21.app c_24).app c_27).app c_30).app c_62).app c_68).app c_71).app c_74).app c_82) (tagn (by simp))
            refine app_i1 u73 in3 h_86 b_81 (by omega) fun s_87 a_84 k_85 o_88 c_89 => ?_
            have z_90 := c_89.size
            refine dSl_i ?_
            intro _
            intros
            refine dSl_i ?_
            refine wr_t (by omega) ?_
            refine ⟨⟨s_87, rfl, _, _, _, _, rfl, ((((((((((((Ch.refl [M + 1, M + 9] s_7).ch c_14 (by simp)).ch c_21 (by simp)).ch c_24 (by simp)).ch c_27 (by simp)).ch c_30 (by simp)).ch c_62 (by simp)).ch c_68 (by simp)).ch c_71 (by simp)).ch c_74 (by simp)).ch c_82 (by simp)).ch c_89 (by simp)), ?_⟩, ?_⟩
            ·
              refine ⟨kk + 1, by omega, by omega, by omega, ?_⟩
              have ho := o_88
              rw [hyi3] at ho
              rw [List.take_add_one, hpw, List.map_append]
              exact ho
            ·
              simp only []; omega
    ·
      have h_91 := call1a.ch (c_10.app c_14) (by simp <;> omega)
      refine c_door Tryz.muLib h_91 (by rfl) (fun _ => by rfl) fun s_92 b_93 c_94 z_95 => ?_
      have c_94t := on_ch h_91 c_94
      have h_96 := ho.mv c_94t (tagn (by simp <;> omega))
      have h_97 := hvw.ch (((c_4.app c_10).app c_14).app c_94t) (by simp <;> omega)
      have h_98 := hvv.mv (((c_4.app c_10).app c_14).app c_94t) (tagn (by simp <;> omega))
      have h_99 := hvo.mv (((c_4.app c_10).app c_14).app c_94t) (tagn (by simp <;> omega))
      have h_100 := hvk.mv (((c_4.app c_10).app c_14).app c_94t) (tagn (by simp <;> omega))
      have h_101 := h_6.mv ((c_10.app c_14).app c_94t) (rngn (by simp <;> omega))
      have h_102 := hvC.mv (((c_4.app c_10).app c_14).app c_94t) (rngn (by simp <;> omega))
      have h_103 := hvP.mv (((c_4.app c_10).app c_14).app c_94t) (rngn (by simp <;> omega))
      have hwq0 := wlen_q ok
      have ho := h_96
      rw [List.take_of_length_le (by omega)] at ho
      obtain rfl : qn = V.wayb.length := by unfold VolM.wayb; rw [List.length_map]; omega
      refine ret_t' (s' := remark s_92 (M + 1) τ) rfl ⟨_, _, rfl, remark_ch (((((Ch.refl [U] s).ch c_4 (by simp)).ch c_10 (by simp)).fr c_14 hM (by simp)).ch c_94t (by simp)) hM (by omega), ho.remark, ?_⟩
      exact VolL.keep ⟨⟨_, _, _, _, _, _, b_93, h_97, h_98, hV.kn, h_99, h_100, h_101, h_102, h_103⟩, ok⟩ (by omega)
def drainN : Nat → VolM → Bool → VolM × Bool
  | 0, V, f => (V, f)
  | n + 1, V, f => drainN n (V.compl 0 true).1 (f && ((V.compl 0 true).2 == 0))
def VolM.drain (V : VolM) : VolM × Bool := drainN V.way.length V true
def wrStep (cl : List Int) (r : VolM × Bool) (b : Int) : VolM × Bool :=
  if ((r.1.P.of b).any fun i => decide (i ∈ cl)) = true ∧ r.1.way.length < 64 then ((r.1.write b).1, r.2 && ((r.1.write b).2 == 0)) else r
def VolM.round (V : VolM) (cl : List Int) : VolM × Bool :=
  let r := V.drain.1.ready.foldl (wrStep cl) V.drain
  (r.1.drain.1, r.1.drain.2 && r.2)
theorem compl_n {V : VolM} {k : Int} {b : Bool} : (V.compl k b).1.n = V.n := by
  unfold VolM.compl
  split
  · rfl
  · split
    · rfl
    · split <;> rfl
theorem drainN_n : ∀ (n : Nat) (V : VolM) (f : Bool), (drainN n V f).1.n = V.n
  | 0, V, f => rfl
  | n + 1, V, f => by rw [drainN, drainN_n n, compl_n]
theorem write_n {V : VolM} {b : Int} : (V.write b).1.n ≤ V.n + 1 ∧ V.n ≤ (V.write b).1.n := by
  unfold VolM.write
  split
  · simp only; omega
  · split
    · simp only; omega
    · split
      · simp only; omega
      · split
        · show V.n + 1 ≤ _ ∧ _ ≤ V.n + 1; omega
        · show V.n + 1 ≤ _ ∧ _ ≤ V.n + 1; omega
theorem write_P {V : VolM} {b : Int} : (V.write b).1.P = V.P := by
  unfold VolM.write
  split
  · rfl
  · split
    · rfl
    · split
      · rfl
      · split <;> rfl
theorem wrStep_n (cl : List Int) (r : VolM × Bool) (b : Int) : (wrStep cl r b).1.n ≤ r.1.n + 1 ∧ r.1.n ≤ (wrStep cl r b).1.n := by
  unfold wrStep
  split
  · exact write_n
  · omega
theorem wrSteps_n (cl : List Int) : ∀ (l : List Int) (r : VolM × Bool), (l.foldl (wrStep cl) r).1.n ≤ r.1.n + l.length ∧ r.1.n ≤ (l.foldl (wrStep cl) r).1.n
  | [], r => by simp
  | b :: l, r => by
    have h1 := wrSteps_n cl l (wrStep cl r b)
    have h2 := wrStep_n cl r b
    simp only [List.foldl_cons, List.length_cons]; omega
theorem ready_len {V : VolM} (pok : POk V.P) : (V.ready.length : Int) ≤ V.P.last := by
  have h1 : V.ready.length ≤ V.P.blocks.length := List.length_filter_le _ _
  have := blocks_len pok; omega
/-- (*bollard/volume.Volume).drain -/
theorem c_vdrain (vp d U : Nat) (V : VolM) (lk : Int)  (s : TH) (hU : 10 ≤ U) (hv : VolL s vp d U V lk) : TRet Tryz.prog 108 #[.pointer (some ⟨vp, 0, none⟩)] s fun v s' => v = .bool V.drain.2 ∧ Ch [U + 1, U + 10, U + 11, U + 12, U + 13, U + 14, U + 20, U + 21, U + 22, U + 23, U + 31, U + 32] s s' ∧ VolL s' vp d U V.drain.1 lk := by
  obtain ⟨⟨c, p, rw_, rk, mw, mk, hV⟩, ok⟩ := id hv
  have hvb := hV.blk
  have hvw := hV.wm
  have hvv := hV.wv
  have hvo := hV.om
  have hvk := hV.kv
  have hvD := hV.dk
  have hvC := hV.ca
  have hvP := hV.ps
  have hn0 := ok.n0
  have hpok := hV.ps.ok
  have hplst := hV.ps.ok.lst
  have hnb := hV.dk.nb
  obtain ⟨M, hM, hM0, hMa, hMb, hMc, hMd, hMe, hMf⟩ := fresh6 s (U + 50) 0 0 0 0 0
  refine F108_calls _  ?_
  unfold F108
  refine nz_i ?_
  refine ld_t hvb rfl ?_
  refine dPtr_i ?_
  refine tcall (c_queue (M + 6) d (U + 10) V.D _ (by omega) hvD) ?_
  rintro v_2 s_1 ⟨acall1, ccall1, qscall1, rfl, c_4, call1a, call1b⟩
  have z_5 := c_4.size
  have hwl := ok.wlen
  have hwq := wlen_q ok
  refine dSl_i ?_
  refine ⟨fun vs H' => ∃ s' : TH, s'.h = H' ∧ ∃ f i, vs = [.bool f, .int .i64 i] ∧ Ch [U + 1, U + 10, U + 11, U + 12, U + 13, U + 14, U + 20, U + 21, U + 22, U + 23, U + 31, U + 32] s_1 s' ∧ (∃ (m : Nat) (V' : VolM), i = m ∧ m ≤ 64 ∧ VolL s' vp d U V' lk ∧ drainN m V' f = V.drain), fun vs H' => match vs with | [.bool f, .int .i64 i] => i.toNat | _ => 0, ⟨s_1, rfl, _, _, rfl, Ch.refl _ _, ?_⟩, ?_⟩
  ·
    have h_6 := hv.mv c_4 (rngn50 (by simp))
    exact ⟨_, V, by rw [wlen_q ok], ok.wlen, h_6, rfl⟩
  ·
    intro f i _ _ _ _ _ _ _ _ _ _ H_ hI_8
    obtain ⟨s_7, rfl, f_, i_, hvs, c_9, m, V', rfl, hm, hv', hdr⟩ := hI_8
    cases hvs
    have z_10 := c_9.size
    refine sB_d (fun hsB1 => ?_) (fun hsB1 => ?_)
    ·
      refine jn_u ?_
      obtain ⟨m, rfl⟩ : ∃ m2, m = m2 + 1 := ⟨m - 1, by omega⟩
      refine tcall (c_vcomplete vp d U V' lk 0 true _ hU hv') ?_
      rintro v_12 s_11 ⟨rfl, c_14, call2a⟩
      have z_15 := c_14.size
      refine dInt_i ?_
      refine sB_d (fun hsB2 => ?_) (fun hsB2 => ?_)
      ·
        intro _
        intros
        refine dBl_i ?_
        refine wr_t (by omega) ?_
        refine ⟨⟨s_11, rfl, _, _, rfl, (((Ch.refl [U + 1, U + 10, U + 11, U + 12, U + 13, U + 14, U + 20, U + 21, U + 22, U + 23, U + 31, U + 32] s_1).ch c_9 (by simp)).ch c_14 (by simp)), ?_⟩, ?_⟩
        ·
          refine ⟨m, (V'.compl 0 true).1, by omega, by omega, call2a, ?_⟩
          rw [drainN] at hdr
          rw [show (f && ((V'.compl 0 true).2 == 0)) = f from by rw [hsB2]; simp] at hdr
          exact hdr
        ·
          simp only []; omega
      ·
        intro _
        intros
        refine dBl_i ?_
        refine wr_t (by omega) ?_
        refine ⟨⟨s_11, rfl, _, _, rfl, (((Ch.refl [U + 1, U + 10, U + 11, U + 12, U + 13, U + 14, U + 20, U + 21, U + 22, U + 23, U + 31, U + 32] s_1).ch c_9 (by simp)).ch c_14 (by simp)), ?_⟩, ?_⟩
        ·
          refine ⟨m, (V'.compl 0 true).1, by omega, by omega, call2a, ?_⟩
          rw [drainN] at hdr
          rw [show (f && ((V'.compl 0 true).2 == 0)) = false from by rw [show ((V'.compl 0 true).2 == 0) = false by simpa using hsB2, Bool.and_false]] at hdr
          exact hdr
        ·
          simp only []; omega
    ·
      refine ret_t ?_
      obtain rfl : m = 0 := by omega
      rw [← hdr]
      exact ⟨rfl, (((Ch.refl [U + 1, U + 10, U + 11, U + 12, U + 13, U + 14, U + 20, U + 21, U + 22, U + 23, U + 31, U + 32] s).ch c_4 (by simp)).ch c_9 (by simp)), hv'⟩
/-- (*bollard/volume.Volume).round$1 -/
theorem c_vround1 (x : Int) {r t1 τ1 : Nat} {a : Option Addr} {n : Nat} (c : Nat) {l : List Int} {τ : Nat} (s : TH) (hr : Blk s r [.slice a n c] t1 τ1) (hl : Sl s a (ivs l) τ) (hn : l.length = n) (hb : n ≤ 140737488355328) : TRet Tryz.prog 168 #[.int .i64 x, .pointer (some ⟨r, 0, none⟩)] s fun v s' => v = .bool (decide (x ∈ l)) ∧ Ch [] s s' := by
  refine F168_calls _ _  ?_
  unfold F168
  refine ld_t hr rfl ?_
  refine dSl_i ?_
  refine tcall (c_ctInt _ _ hl (by omega) (by omega)) ?_
  rintro v_2 s_1 ⟨rfl, c_4⟩
  have z_5 := c_4.size
  refine dBl_i ?_
  refine ret_t ?_
  exact ⟨rfl, ((Ch.refl [] s).ch c_4 (by simp))⟩
/-- (*bollard/volume.Volume).round -/
theorem c_vround (vp d U : Nat) (V : VolM) (lk : Int) {xa : Option Addr} {xn : Nat} (xc : Nat) {cl : List Int} {τx : Nat} (s : TH) (hU : 10 ≤ U) (hv : VolL s vp d U V lk) (hx : Sl s xa (ivs cl) τx) (hxn : cl.length = xn) (hxb : xn ≤ 140737488355328) (hτx : τx < U ∨ U + 50 ≤ τx) (hn : V.n < 100000000000000000) : TRet Tryz.prog 110 #[.pointer (some ⟨vp, 0, none⟩), .slice xa xn xc] s fun v s' => v = .bool (V.round cl).2 ∧ Ch [U + 1, U + 10, U + 11, U + 12, U + 13, U + 14, U + 20, U + 21, U + 22, U + 23, U + 31, U + 32] s s' ∧ VolL s' vp d U (V.round cl).1 lk := by
  obtain ⟨⟨c, p, rw_, rk, mw, mk, hV⟩, ok⟩ := id hv
  have hvb := hV.blk
  have hvw := hV.wm
  have hvv := hV.wv
  have hvo := hV.om
  have hvk := hV.kv
  have hvD := hV.dk
  have hvC := hV.ca
  have hvP := hV.ps
  have hn0 := ok.n0
  have hpok := hV.ps.ok
  have hplst := hV.ps.ok.lst
  have hnb := hV.dk.nb
  obtain ⟨M, hM, hM0, hMa, hMb, hMc, hMd, hMe, hMf⟩ := fresh6 s (U + 50) τx 0 0 0 0
  refine F110_calls _ _ _ _  ?_
  unfold F110
  refine al_t (M + 1) fun r1 s2 hr1 b_1 c_2 z_3 => ?_
  have h_4 := hv.mv c_2 (rngn50 (by simp))
  refine tcall (c_vdrain _ _ _ _ _ _ (by omega) h_4) ?_
  rintro v_6 s_5 ⟨rfl, c_8, call1a⟩
  have z_9 := c_8.size
  have hdn := drainN_n V.way.length V true
  refine dBl_i ?_
  refine tcall (c_vready _ _ _ _ _ (M + 4) _ (by omega) call1a) ?_
  rintro v_11 s_10 ⟨acall2, ccall2, rfl, c_13, call2a⟩
  have z_14 := c_13.size
  have h_15 := call1a.mv c_13 (rngn50 (by simp))
  have hvs2 := h_15
  obtain ⟨⟨c2, p2, rw2, rk2, mw2, mk2, hV2⟩, ok2⟩ := id hvs2
  have hvb2 := hV2.blk
  have hvD2 := hV2.dk
  have hvP2 := hV2.ps
  have hrl := ready_len hV2.ps.ok
  have hpl2 := hV2.ps.ok.lst
  refine dSl_i ?_
  refine ⟨fun vs H' => ∃ s' : TH, s'.h = H' ∧ ∃ f i, vs = [.bool f, .int .i64 i] ∧ Ch [U + 1, U + 10, U + 11, U + 12, U + 13, U + 14, U + 20, U + 21, U + 22, U + 23, U + 31, U + 32, M + 9] s_10 s' ∧ (∃ (k : Nat) (V' : VolM), i = k ∧ k ≤ V.drain.1.ready.length ∧ VolL s' vp d U V' lk ∧ (V', f) = (V.drain.1.ready.take k).foldl (wrStep cl) V.drain ∧ V'.n ≤ V.n + k ∧ V.n ≤ V'.n), fun vs H' => match vs with | [.bool f, .int .i64 i] => ((V.drain.1.ready.length : Int) - i).toNat | _ => 0, ⟨s_10, rfl, _, _, rfl, Ch.refl _ _, ?_⟩, ?_⟩
  ·
    exact ⟨0, V.drain.1, rfl, by omega, hvs2, rfl, by show (drainN V.way.length V true).1.n ≤ _; omega, by show _ ≤ (drainN V.way.length V true).1.n; omega⟩
  ·
    intro f i _ _ _ _ _ _ _ _ _ _ _ _ _ _ _ _ _ _ _ _ _ _ _ _ _ _ _ _ _ _ _ H_ hI_17
    obtain ⟨s_16, rfl, f_, i_, hvs, c_18, k, V', rfl, hk, hv3, heq, hn1, hn2⟩ := hI_17
    cases hvs
    have z_19 := c_18.size
    have hvs3 := hv3
    obtain ⟨⟨c3, p3, rw3, rk3, mw3, mk3, hV3⟩, ok3⟩ := id hvs3
    have hvb3 := hV3.blk
    have hvD3 := hV3.dk
    have hvP3 := hV3.ps
    refine sB_d (fun hsB1 => ?_) (fun hsB1 => ?_)
    ·
      refine jn_u ?_
      have h_20 := call2a.mv c_18 (tagn (by simp <;> omega))
      obtain ⟨a_21, rfl⟩ := h_20.ne_none (by omega)
      refine nz_i ?_
      refine ask_t (by omega) ?_
      refine ld_iv h_20.sl (by omega) (by omega) fun vel1 hel1 => ?_
      rw [Int.toNat_natCast] at hel1
      refine dInt_i ?_
      refine nz_i ?_
      refine ld_t hvb3 rfl ?_
      refine dPtr_i ?_
      refine tcall (c_pof _ _ _ (M + 9) _ _ (by omega) hvP3) ?_
      rintro v_23 s_22 ⟨acall3, ccall3, rfl, c_25, call3a⟩
      have z_26 := c_25.size
      have hol := of_len hV3.ps.ok vel1
      have hpl3 := hV3.ps.ok.lst
      refine dSl_i ?_
      have h_27 := b_1.ch (((c_8.app c_13).app c_18).app c_25) (by simp <;> omega)
      have hrf := h_27
      have h_28 := hx.mv ((((c_2.app c_8).app c_13).app c_18).app c_25) (tagn (by simp <;> omega))
      have hxf := h_28
      refine tcall (c_ctIntF _ (fun y => decide (y ∈ cl)) call3a.sl rfl (by omega) (by kernel_rfl) (fun s1 y hy hc => c_vround1 y _ s1 (hrf.ch hc (by simp)) (hxf.mv hc (tagn (by simp))) hxn hxb)) ?_
      rintro v_30 s_29 ⟨rfl, c_32⟩
      have z_33 := c_32.size
      refine dBl_i ?_
      refine jn_u ?_
      refine sB_i (fun hsB2 => ?_) (fun hsB2 => ?_)
      ·
        refine nz_i ?_
        have h_34 := hvb3.ch (c_25.app c_32) (by simp)
        refine ld_t h_34 rfl ?_
        refine dPtr_i ?_
        have h_35 := hvD3.mv (c_25.app c_32) (rngn (by simp))
        refine tcall (c_queue (M + 9) d (U + 10) V'.D _ (by omega) h_35) ?_
        rintro v_37 s_36 ⟨acall5, ccall5, qscall5, rfl, c_39, call5a, call5b⟩
        have z_40 := c_39.size
        have hwq := wlen_q ok3
        refine dSl_i ?_
        intro _
        intros
        refine dBl_i ?_
        refine sB_d (fun hsB3 => ?_) (fun hsB3 => ?_)
        ·
          have h_41 := hvs3.mv ((c_25.app c_32).app c_39) (rngn50 (by simp))
          refine tcall (c_vwrite vp d U V' lk vel1 _ hU h_41 (by omega)) ?_
          rintro v_43 s_42 ⟨rfl, c_45, call6a⟩
          have z_46 := c_45.size
          refine dInt_i ?_
          refine sB_d (fun hsB4 => ?_) (fun hsB4 => ?_)
          ·
            intro _
            intros
            refine dBl_i ?_
            refine wr_t (by omega) ?_
            refine ⟨⟨s_42, rfl, _, _, rfl, ((((((Ch.refl [U + 1, U + 10, U + 11, U + 12, U + 13, U + 14, U + 20, U + 21, U + 22, U + 23, U + 31, U + 32, M + 9] s_10).ch c_18 (by simp)).ch c_25 (by simp)).ch c_32 (by simp)).ch c_39 (by simp)).ch c_45 (by simp)), ?_⟩, ?_⟩
            ·
              have hw := write_n (V := V') (b := vel1)
              refine ⟨k + 1, _, by omega, by omega, call6a, ?_, ?_⟩
              · rw [foldl_take _ _ hel1, ← heq]
                unfold wrStep
                rw [if_pos ⟨hsB2, by simp only; omega⟩]
                simp only [hsB4]; simp
              · omega
            ·
              simp only []; omega
          ·
            intro _
            intros
            refine dBl_i ?_
            refine wr_t (by omega) ?_
            refine ⟨⟨s_42, rfl, _, _, rfl, ((((((Ch.refl [U + 1, U + 10, U + 11, U + 12, U + 13, U + 14, U + 20, U + 21, U + 22, U + 23, U + 31, U + 32, M + 9] s_10).ch c_18 (by simp)).ch c_25 (by simp)).ch c_32 (by simp)).ch c_39 (by simp)).ch c_45 (by simp)), ?_⟩, ?_⟩
            ·
              have hw := write_n (V := V') (b := vel1)
              refine ⟨k + 1, _, by omega, by omega, call6a, ?_, ?_⟩
              · rw [foldl_take _ _ hel1, ← heq]
                unfold wrStep
                rw [if_pos ⟨hsB2, by simp only; omega⟩]
                simp only [show ((V'.write vel1).2 == 0) = false by simpa using hsB4, Bool.and_false]
              · omega
            ·
              simp only []; omega
        ·
          intro _
          intros
          refine dBl_i ?_
          refine wr_t (by omega) ?_
          refine ⟨⟨s_36, rfl, _, _, rfl, (((((Ch.refl [U + 1, U + 10, U + 11, U + 12, U + 13, U + 14, U + 20, U + 21, U + 22, U + 23, U + 31, U + 32, M + 9] s_10).ch c_18 (by simp)).ch c_25 (by simp)).ch c_32 (by simp)).ch c_39 (by simp)), ?_⟩, ?_⟩
          ·
            have h_47 := hvs3.mv ((c_25.app c_32).app c_39) (rngn50 (by simp))
            have hw := write_n (V := V') (b := vel1)
            refine ⟨k + 1, _, by omega, by omega, h_47, ?_, ?_⟩
            · rw [foldl_take _ _ hel1, ← heq]
              unfold wrStep
              rw [if_neg (fun h => by have h2 := h.2; simp only at h2; omega)]
            · omega
          ·
            simp only []; omega
      ·
        intro _
        intros
        refine dBl_i ?_
        refine sB_f (by rfl) ?_
        intro _
        intros
        refine dBl_i ?_
        refine wr_t (by omega) ?_
        refine ⟨⟨s_29, rfl, _, _, rfl, ((((Ch.refl [U + 1, U + 10, U + 11, U + 12, U + 13, U + 14, U + 20, U + 21, U + 22, U + 23, U + 31, U + 32, M + 9] s_10).ch c_18 (by simp)).ch c_25 (by simp)).ch c_32 (by simp)), ?_⟩, ?_⟩
        ·
          have h_48 := hvs3.mv (c_25.app c_32) (rngn50 (by simp))
          have hw := write_n (V := V') (b := vel1)
          refine ⟨k + 1, _, by omega, by omega, h_48, ?_, ?_⟩
          · rw [foldl_take _ _ hel1, ← heq]
            unfold wrStep
            rw [if_neg (fun h => by have h2 := h.1; simp only at h2; rw [hsB2] at h2; cases h2)]
          · omega
        ·
          simp only []; omega
    ·
      refine tcall (c_vdrain _ _ _ _ _ _ (by omega) hvs3) ?_
      rintro v_50 s_49 ⟨rfl, c_52, call7a⟩
      have z_53 := c_52.size
      refine dBl_i ?_
      refine sB_i (fun hsB6 => ?_) (fun hsB6 => ?_)
      ·
        refine ret_t ?_
        have hkn : V.drain.1.ready.take k = V.drain.1.ready := List.take_of_length_le (by omega)
        rw [hkn] at heq
        rw [show V.round cl = (V'.drain.1, V'.drain.2 && f) from by unfold VolM.round; simp only; rw [← heq]]
        exact ⟨by rw [hsB6]; rfl, ((((((Ch.refl [U + 1, U + 10, U + 11, U + 12, U + 13, U + 14, U + 20, U + 21, U + 22, U + 23, U + 31, U + 32] s).ch c_2 (by simp)).ch c_8 (by simp)).ch c_13 (by simp)).fr c_18 hM (by simp)).ch c_52 (by simp)), call7a⟩
      ·
        refine ret_t ?_
        have hkn : V.drain.1.ready.take k = V.drain.1.ready := List.take_of_length_le (by omega)
        rw [hkn] at heq
        rw [show V.round cl = (V'.drain.1, V'.drain.2 && f) from by unfold VolM.round; simp only; rw [← heq]]
        exact ⟨by rw [hsB6]; rfl, ((((((Ch.refl [U + 1, U + 10, U + 11, U + 12, U + 13, U + 14, U + 20, U + 21, U + 22, U + 23, U + 31, U + 32] s).ch c_2 (by simp)).ch c_8 (by simp)).ch c_13 (by simp)).fr c_18 hM (by simp)).ch c_52 (by simp)), call7a⟩
theorem compl_cons {V : VolM} {x : Int × WayM} {w : List (Int × WayM)} (h : V.way = x :: w) : (V.compl 0 true).1 = V.landed 0 x.2 ∧ (V.compl 0 true).2 = (V.P.doneP x.2.ids).2 := by
  unfold VolM.compl
  rw [if_neg (by rw [h, List.length_cons]; omega), show V.way[Int.toNat 0]? = some x by rw [h]; rfl]
  exact ⟨rfl, rfl⟩
theorem landed_way {V : VolM} {x : Int × WayM} {w : List (Int × WayM)} (h : V.way = x :: w) (y : WayM) : (V.landed 0 y).way = w := by
  show V.way.eraseIdx 0 = w; rw [h]; rfl
theorem drainN_way : ∀ (n : Nat) (V : VolM) (f : Bool), V.way.length = n → (drainN n V f).1.way = []
  | 0, V, f, h => List.eq_nil_of_length_eq_zero h
  | n + 1, V, f, h => by
    obtain ⟨x, w, e⟩ := List.exists_cons_of_ne_nil (l := V.way) (fun e => by rw [e] at h; simp at h)
    rw [drainN, (compl_cons e).1]
    exact drainN_way n _ _ (by rw [landed_way e]; rw [e] at h; simpa using h)
theorem doneP_sub {P : PatchM} (ids : List Int) : (P.doneP ids).1.l.Sublist P.l := by
  unfold PatchM.doneP
  split
  · exact List.Sublist.refl _
  · split
    · exact List.filter_sublist
    · exact List.Sublist.refl _
theorem doneP_less {P : PatchM} {ids : List Int} (h : (P.doneP ids).2 = 0) {i : Int} (hi : i ∈ ids) (ha : i ∈ P.all) : (P.doneP ids).1.l.length < P.l.length := by
  unfold PatchM.doneP at h ⊢
  split
  · rename_i h1; rw [if_pos h1] at h; cases h
  · rename_i h1
    rw [if_neg h1] at h
    split
    · obtain ⟨x, hx, rfl⟩ := List.mem_map.1 ha
      have hp : x.id ∈ P.pend ids := List.mem_filter.2 ⟨ha, by simpa using hi⟩
      show (P.l.filter _).length < P.l.length
      rcases Nat.lt_or_eq_of_le (List.length_filter_le (fun x => !decide (x.id ∈ P.pend ids)) P.l) with h2 | h2
      · exact h2
      · have h3 := (List.length_filter_eq_length_iff.1 h2) x hx
        simp [hp] at h3
    · rename_i h2; rw [if_neg h2] at h; cases h
theorem drainN_f : ∀ (n : Nat) (V : VolM) (f : Bool), (drainN n V f).2 = true → f = true
  | 0, V, f, h => h
  | n + 1, V, f, h => by
    have := drainN_f n _ _ h
    exact (Bool.and_eq_true _ _ ▸ this).1
theorem compl_sub (V : VolM) (k : Int) (b : Bool) : (V.compl k b).1.P.l.Sublist V.P.l := by
  unfold VolM.compl
  split
  · exact List.Sublist.refl _
  · split
    · exact List.Sublist.refl _
    · split
      · exact List.Sublist.refl _
      · exact doneP_sub _
theorem drainN_sub : ∀ (n : Nat) (V : VolM) (f : Bool), (drainN n V f).1.P.l.Sublist V.P.l
  | 0, V, f => List.Sublist.refl _
  | n + 1, V, f => (drainN_sub n _ _).trans (compl_sub V 0 true)
theorem drain_less {V : VolM} (h : V.drain.2 = true) (hne : V.way ≠ []) (hw : ∀ p ∈ V.way, ∃ i ∈ p.2.ids, i ∈ V.P.all) : V.drain.1.P.l.length < V.P.l.length := by
  obtain ⟨x, w, e⟩ := List.exists_cons_of_ne_nil hne
  unfold VolM.drain at h ⊢
  rw [e, List.length_cons, drainN] at h ⊢
  have h2 := drainN_f _ _ _ h
  rw [Bool.true_and, beq_iff_eq, (compl_cons e).2] at h2
  obtain ⟨i, hi, ha⟩ := hw x (by rw [e]; simp)
  have h3 := doneP_less h2 hi ha
  have h4 := (drainN_sub w.length (V.compl 0 true).1 (true && ((V.compl 0 true).2 == 0))).length_le
  have h5 : (V.compl 0 true).1.P.l.length = (V.P.doneP x.2.ids).1.l.length := by rw [(compl_cons e).1]; rfl
  omega
theorem mem_fsteps {P : PatchM} {i : Int} : ∀ (ids l : List Int), i ∈ l → i ∈ ids.foldl P.fstep l
  | [], l, h => h
  | j :: ids, l, h => mem_fsteps ids _ (by
      unfold PatchM.fstep
      split
      · split
        · exact List.mem_append_left _ h
        · exact h
      · exact h)
theorem mem_free {P : PatchM} {i : Int} {x : PatM} (hx : P.find i = some x) (hp : P.pend x.needs = []) : ∀ (ids l : List Int), i ∈ ids → i ∈ ids.foldl P.fstep l
  | j :: ids, l, h => by
    rcases List.mem_cons.1 h with rfl | h
    · refine mem_fsteps ids _ ?_
      unfold PatchM.fstep
      rw [hx]
      simp only [hp, List.all_nil, if_true]
      simp
    · exact mem_free hx hp ids _ h
theorem free_of {P : PatchM} {b : Int} (h : ∃ i, i ∈ P.free b) : b ∈ P.blocks := by
  obtain ⟨i, hi⟩ := h
  have := free_sub hi
  unfold PatchM.of at this
  obtain ⟨x, hx, _⟩ := List.mem_map.1 this
  have h2 := List.mem_filter.1 hx
  exact mem_blocks.2 ⟨x, h2.1, by simpa using h2.2⟩
/-- the first of what must be on the disk may be written -/
theorem clos_ready {V : VolM} (pok : POk V.P) (hw : V.way = []) {ids : List Int} (hc : V.P.clos ids ≠ []) : ∃ b ∈ V.ready, ((V.P.of b).any fun i => decide (i ∈ V.P.clos ids)) = true := by
  obtain ⟨i, l, e⟩ := List.exists_cons_of_ne_nil hc
  have hi : i ∈ V.P.clos ids := by rw [e]; simp
  have hmin : ∀ j ∈ V.P.clos ids, i ≤ j := fun j hj => by
    have hs := clos_srt pok ids
    rw [e, List.pairwise_cons] at hs
    rw [e] at hj
    rcases List.mem_cons.1 hj with rfl | hj
    · exact Int.le_refl _
    · have := hs.1 j hj; omega
  have hr := mem_clos.1 hi
  obtain ⟨x, hx⟩ := Option.isSome_iff_exists.1 (find_isSome.2 hr.all)
  obtain ⟨hxm, hxi⟩ := POk.find_mem hx
  have hp : V.P.pend x.needs = [] := by
    refine List.eq_nil_iff_forall_not_mem.2 fun n hn => ?_
    have h1 := hmin n (mem_clos.2 (hr.step hx hn))
    have h2 := pok.nds x hxm n (pend_sub hn).2
    omega
  have hof : i ∈ V.P.of x.blk := List.mem_map.2 ⟨x, List.mem_filter.2 ⟨hxm, by simp⟩, hxi⟩
  have hfr : i ∈ V.P.free x.blk := mem_free hx hp _ _ hof
  refine ⟨x.blk, List.mem_filter.2 ⟨free_of ⟨i, hfr⟩, ?_⟩, List.any_eq_true.2 ⟨i, hof, by simpa using hi⟩⟩
  have h1 : (V.P.free x.blk).isEmpty = false := by
    cases h : V.P.free x.blk with
    | nil => rw [h] at hfr; cases hfr
    | cons => rfl
  have h2 : V.going x.blk = false := by unfold VolM.going; rw [hw]; rfl
  rw [h1, h2]; rfl
structure WrI (V : VolM) (r : VolM × Bool) : Prop where
  P : r.1.P = V.P
  w : ∀ p ∈ r.1.way, ∃ i ∈ p.2.ids, i ∈ V.P.all
theorem WrI.step {V : VolM} {cl : List Int} {r : VolM × Bool} {b : Int} (h : WrI V r) : WrI V (wrStep cl r b) := by
  unfold wrStep
  split
  · refine ⟨write_P.trans h.P, fun p hp => ?_⟩
    unfold VolM.write at hp
    split at hp
    · exact h.w p hp
    · split at hp
      · exact h.w p hp
      · split at hp
        · exact h.w p hp
        · rename_i hf
          split at hp
          · exact h.w p hp
          · rcases List.mem_append.1 (show p ∈ r.1.way ++ [_] from hp) with h1 | h1
            · exact h.w p h1
            · rw [List.mem_singleton] at h1; subst h1
              obtain ⟨i, l, e⟩ := List.exists_cons_of_ne_nil hf
              refine ⟨i, by show i ∈ r.1.P.free b; rw [e]; simp, ?_⟩
              have : i ∈ r.1.P.free b := by rw [e]; simp
              rw [← h.P]; exact of_sub (free_sub this)
  · exact h
theorem WrI.steps {V : VolM} {cl : List Int} : ∀ (l : List Int) {r : VolM × Bool}, WrI V r → WrI V (l.foldl (wrStep cl) r)
  | [], r, h => h
  | b :: l, r, h => WrI.steps l h.step
theorem wrStep_f {cl : List Int} {r : VolM × Bool} {b : Int} (h : (wrStep cl r b).2 = true) : r.2 = true := by
  unfold wrStep at h
  split at h
  · exact (Bool.and_eq_true _ _ ▸ h).1
  · exact h
theorem wrStep_way {cl : List Int} {r : VolM × Bool} {b : Int} (h : r.1.way ≠ []) : (wrStep cl r b).1.way ≠ [] := by
  unfold wrStep
  split
  · unfold VolM.write
    split
    · exact h
    · split
      · exact h
      · split
        · exact h
        · split
          · exact h
          · show r.1.way ++ [_] ≠ []; simp
  · exact h
theorem wrSteps_f {cl : List Int} : ∀ (l : List Int) {r : VolM × Bool}, (l.foldl (wrStep cl) r).2 = true → r.2 = true
  | [], r, h => h
  | b :: l, r, h => wrStep_f (wrSteps_f l h)
theorem wrSteps_way {cl : List Int} : ∀ (l : List Int) {r : VolM × Bool}, r.1.way ≠ [] → (l.foldl (wrStep cl) r).1.way ≠ []
  | [], r, h => h
  | b :: l, r, h => wrSteps_way l (wrStep_way h)
theorem wrSteps_want {V : VolM} {cl : List Int} : ∀ (l : List Int) {r : VolM × Bool} {b : Int}, WrI V r → b ∈ l → ((V.P.of b).any fun i => decide (i ∈ cl)) = true → (l.foldl (wrStep cl) r).2 = true → (l.foldl (wrStep cl) r).1.way ≠ []
  | c :: l, r, b, hI, hb, hw, hf => by
    rcases List.mem_cons.1 hb with rfl | hb
    · refine wrSteps_way l ?_
      have h1 := wrSteps_f l hf
      unfold wrStep at h1 ⊢
      by_cases hlt : r.1.way.length < 64
      · rw [if_pos ⟨by rw [hI.P]; exact hw, hlt⟩] at h1 ⊢
        have h2 := (Bool.and_eq_true _ _ ▸ h1).2
        rw [beq_iff_eq] at h2
        unfold VolM.write at h2 ⊢
        split
        · rename_i g; rw [if_pos g] at h2; cases h2
        · rename_i g; rw [if_neg g] at h2
          split
          · rename_i g; rw [if_pos g] at h2; cases h2
          · rename_i g; rw [if_neg g] at h2
            split
            · rename_i g; rw [if_pos g] at h2; cases h2
            · rename_i g; rw [if_neg g] at h2
              split
              · rename_i g; rw [if_pos g] at h2; cases h2
              · show r.1.way ++ [_] ≠ []; simp
      · rw [if_neg (fun g => hlt g.2)]
        intro e; rw [e] at hlt; simp at hlt
    · exact wrSteps_want l hI.step hb hw hf
theorem drain_nil {V : VolM} (hw : V.way = []) : V.drain = (V, true) := by unfold VolM.drain; rw [hw]; rfl
theorem round_less {V : VolM} (pok : POk V.P) (hw : V.way = []) {ids : List Int} (hc : V.P.clos ids ≠ []) (hr : (V.round (V.P.clos ids)).2 = true) : (V.round (V.P.clos ids)).1.P.l.length < V.P.l.length := by
  obtain ⟨b, hb, hany⟩ := clos_ready pok hw hc
  unfold VolM.round at hr ⊢
  rw [drain_nil hw] at hr ⊢
  simp only at hr ⊢
  have hI : WrI V (V, true) := ⟨rfl, fun p hp => by rw [hw] at hp; cases hp⟩
  have hI2 := hI.steps (cl := V.P.clos ids) V.ready
  have h1 := Bool.and_eq_true _ _ ▸ hr
  have h2 := wrSteps_want V.ready hI hb hany h1.2
  have h3 := drain_less h1.1 h2 (fun p hp => by rw [hI2.P]; exact hI2.w p hp)
  rw [hI2.P] at h3
  exact h3
theorem round_way {V : VolM} (cl : List Int) : (V.round cl).1.way = [] := drainN_way _ _ _ rfl
theorem round_n {V : VolM} (pok : POk V.drain.1.P) (cl : List Int) : (V.round cl).1.n ≤ V.n + V.drain.1.P.last ∧ V.n ≤ (V.round cl).1.n := by
  have h1 : V.drain.1.n = V.n := drainN_n _ _ _
  have h2 := wrSteps_n cl V.drain.1.ready V.drain
  have h3 := ready_len pok
  have h4 : (V.round cl).1.n = (V.drain.1.ready.foldl (wrStep cl) V.drain).1.n := drainN_n _ _ _
  omega
inductive Rounds (ids : List Int) (V : VolM) : VolM → Prop
  | refl : Rounds ids V V
  | step {W : VolM} : Rounds ids V W → W.P.clos ids ≠ [] → (W.round (W.P.clos ids)).2 = true → Rounds ids V (W.round (W.P.clos ids)).1
/-- how many patches wait, told by the heap -/
def pszH (H : Heap) (v : Nat) : Nat := match cellH H ⟨v, 4, none⟩ with
  | some (.pointer (some a)) => (match cellH H ⟨a.block, 2, none⟩ with
    | some (.map (some r)) => (match H[r]? with
      | some (.map es _) => es.size
      | _ => 0)
    | _ => 0)
  | _ => 0
theorem psz_eq {s : TH} {v d U : Nat} {V : VolM} {lk : Int} (h : VolL s v d U V lk) : pszH s.h v = V.P.l.length := by
  obtain ⟨⟨c, p, rw, rk, mw, mk, hV⟩, ok⟩ := h
  obtain ⟨⟨r1, r2, m1, m2, hp⟩, pok⟩ := hV.ps
  unfold pszH
  rw [hV.blk.cell]
  simp only [List.getElem?_cons_succ, List.getElem?_cons_zero]
  rw [hp.blk.cell]
  simp only [List.getElem?_cons_succ, List.getElem?_cons_zero]
  obtain ⟨es, ck, hg, he⟩ := hp.lm.get
  rw [hg]
  have h1 := congrArg List.length he.key
  have h2 := congrArg List.length hp.pm.keys
  simp at h1 h2
  simp only [List.size_toArray]
  omega
/-- (*bollard/volume.Volume).Sync -/
theorem c_VSync (vp d U : Nat) (V : VolM) {xa : Option Addr} {xn : Nat} (xc : Nat) {ids : List Int} {τx : Nat} (s : TH) (hU : 10 ≤ U) (hv : VolL s vp d U V 0) (hx : Sl s xa (ivs ids) τx) (hxn : ids.length = xn) (hxb : xn ≤ 17592186044000) (hτx : τx < U ∨ U + 50 ≤ τx) (hn : V.n < 10000000000000000) : TRet Tryz.prog 59 #[.pointer (some ⟨vp, 0, none⟩), .slice xa xn xc] s fun v s' => ∃ e W, v = .int .i64 e ∧ Ch [U, U + 1, U + 10, U + 11, U + 12, U + 13, U + 14, U + 20, U + 21, U + 22, U + 23, U + 31, U + 32] s s' ∧ VolL s' vp d U W 0 ∧ ((e = 70 ∧ W = V) ∨ (V.drain.2 = false ∧ e = 4 ∧ W = V.drain.1) ∨ (V.drain.2 = true ∧ ∃ V', Rounds ids V.drain.1 V' ∧ ((V'.P.clos ids = [] ∧ e = 0 ∧ W = V') ∨ (V'.P.clos ids ≠ [] ∧ (V'.round (V'.P.clos ids)).2 = false ∧ e = 4 ∧ W = (V'.round (V'.P.clos ids)).1)))) ∧ (e = 70 → ∃ i ∈ ids, ¬ (1 ≤ i ∧ i ≤ V.P.last)) := by
  obtain ⟨⟨c, p, rw_, rk, mw, mk, hV⟩, ok⟩ := id hv
  have hvb := hV.blk
  have hvw := hV.wm
  have hvv := hV.wv
  have hvo := hV.om
  have hvk := hV.kv
  have hvD := hV.dk
  have hvC := hV.ca
  have hvP := hV.ps
  have hn0 := ok.n0
  have hpok := hV.ps.ok
  have hplst := hV.ps.ok.lst
  have hnb := hV.dk.nb
  obtain ⟨M, hM, hM0, hMa, hMb, hMc, hMd, hMe, hMf⟩ := fresh6 s (U + 50) τx 0 0 0 0
  refine F59_calls _ _ _ _  ?_
  unfold F59
  refine tcall (c_vheld _ _ hvb) ?_
  rintro v_2 s_1 ⟨rfl, c_4, call1a⟩
  have z_5 := c_4.size
  have hV1 := hV.relock c_4 call1a
  have hv1 : VolL s_1 vp d U V 1 := ⟨⟨_, _, _, _, _, _, hV1⟩, ok⟩
  refine dBl_i ?_
  refine sB_f (by rfl) ?_
  refine nz_i ?_
  refine ⟨fun vs H' => ∃ s' : TH, s'.h = H' ∧ ∃ i, vs = [.int .i64 i] ∧ Ch [] s_1 s' ∧ (∃ k : Nat, i = k ∧ k ≤ xn), fun vs H' => match vs with | [.int .i64 i] => ((xn : Int) - i).toNat | _ => 0, ⟨s_1, rfl, _, rfl, Ch.refl _ _, ?_⟩, ?_⟩
  ·
    exact ⟨0, rfl, by omega⟩
  ·
    intro i _ _ _ _ _ _ _ _ _ _ _ _ _ _ _ _ _ H_ hI_7
    obtain ⟨s_6, rfl, i_, hvs, c_8, k, rfl, hk⟩ := hI_7
    cases hvs
    have z_9 := c_8.size
    refine sB_d (fun hsB2 => ?_) (fun hsB2 => ?_)
    ·
      have h_10 := hx.mv (c_4.app c_8) (tagn (by simp <;> omega))
      obtain ⟨a_11, rfl⟩ := h_10.ne_none (by simp [bvs_len, ivs_len]; omega)
      refine nz_i ?_
      refine ask_t (by omega) ?_
      refine ld_iv h_10 (by omega) (by omega) fun vel1 hel1 => ?_
      rw [Int.toNat_natCast] at hel1
      refine dInt_i ?_
      refine jn_u ?_
      refine sB_d (fun hsB3 => ?_) (fun hsB3 => ?_)
      ·
        intro _
        intros
        refine dBl_i ?_
        refine sB_t (by rfl) ?_
        have h_12 := call1a.ch c_8 (by simp)
        refine c_door Tryz.muLib h_12 (by rfl) (fun _ => by rfl) fun s_13 b_14 c_15 z_16 => ?_
        have c_15t := on_ch h_12 c_15
        refine ret_t ?_
        have h_17 := hvw.ch ((c_4.app c_8).app c_15t) (by simp)
        have h_18 := hvv.mv ((c_4.app c_8).app c_15t) (tagn (by simp))
        have h_19 := hvo.mv ((c_4.app c_8).app c_15t) (tagn (by simp))
        have h_20 := hvk.mv ((c_4.app c_8).app c_15t) (tagn (by simp))
        have h_21 := hvD.mv ((c_4.app c_8).app c_15t) (rngn (by simp))
        have h_22 := hvC.mv ((c_4.app c_8).app c_15t) (rngn (by simp))
        have h_23 := hvP.mv ((c_4.app c_8).app c_15t) (rngn (by simp))
        exact ⟨_, _, rfl, ((((Ch.refl [U, U + 1, U + 10, U + 11, U + 12, U + 13, U + 14, U + 20, U + 21, U + 22, U + 23, U + 31, U + 32] s).ch c_4 (by simp)).ch c_8 (by simp)).ch c_15t (by simp)), ⟨⟨_, _, _, _, _, _, b_14, h_17, h_18, hV.kn, h_19, h_20, h_21, h_22, h_23⟩, ok⟩, .inl ⟨rfl, rfl⟩, fun _ => ⟨_, List.mem_of_getElem? hel1, by omega⟩⟩
      ·
        refine nz_i ?_
        have h_24 := call1a.ch c_8 (by simp)
        refine ld_t h_24 rfl ?_
        refine dPtr_i ?_
        have h_25 := hvP.mv (c_4.app c_8) (rngn (by simp))
        refine tcall (c_plast _ _ _ _ (by omega) h_25) ?_
        rintro v_27 s_26 ⟨rfl, c_29⟩
        have z_30 := c_29.size
        refine dInt_i ?_
        intro _
        intros
        refine dBl_i ?_
        refine sB_d (fun hsB5 => ?_) (fun hsB5 => ?_)
        ·
          have h_31 := h_24.ch c_29 (by simp)
          refine c_door Tryz.muLib h_31 (by rfl) (fun _ => by rfl) fun s_32 b_33 c_34 z_35 => ?_
          have c_34t := on_ch h_31 c_34
          refine ret_t ?_
          have h_36 := hvw.ch (((c_4.app c_8).app c_29).app c_34t) (by simp)
          have h_37 := hvv.mv (((c_4.app c_8).app c_29).app c_34t) (tagn (by simp))
          have h_38 := hvo.mv (((c_4.app c_8).app c_29).app c_34t) (tagn (by simp))
          have h_39 := hvk.mv (((c_4.app c_8).app c_29).app c_34t) (tagn (by simp))
          have h_40 := hvD.mv (((c_4.app c_8).app c_29).app c_34t) (rngn (by simp))
          have h_41 := hvC.mv (((c_4.app c_8).app c_29).app c_34t) (rngn (by simp))
          have h_42 := h_25.mv (c_29.app c_34t) (rngn (by simp))
          exact ⟨_, _, rfl, (((((Ch.refl [U, U + 1, U + 10, U + 11, U + 12, U + 13, U + 14, U + 20, U + 21, U + 22, U + 23, U + 31, U + 32] s).ch c_4 (by simp)).ch c_8 (by simp)).ch c_29 (by simp)).ch c_34t (by simp)), ⟨⟨_, _, _, _, _, _, b_33, h_36, h_37, hV.kn, h_38, h_39, h_40, h_41, h_42⟩, ok⟩, .inl ⟨rfl, rfl⟩, fun _ => ⟨_, List.mem_of_getElem? hel1, by omega⟩⟩
        ·
          refine wr_t (by omega) ?_
          refine ⟨⟨s_26, rfl, _, rfl, (((Ch.refl [] s_1).ch c_8 (by simp)).ch c_29 (by simp)), ?_⟩, ?_⟩
          ·
            exact ⟨k + 1, by omega, by omega⟩
          ·
            simp only []; omega
    ·
      have h_43 := call1a.ch c_8 (by simp)
      have h_44 := hvw.ch (c_4.app c_8) (by simp)
      have h_45 := hvv.mv (c_4.app c_8) (tagn (by simp))
      have h_46 := hvo.mv (c_4.app c_8) (tagn (by simp))
      have h_47 := hvk.mv (c_4.app c_8) (tagn (by simp))
      have h_48 := hvD.mv (c_4.app c_8) (rngn (by simp))
      have h_49 := hvC.mv (c_4.app c_8) (rngn (by simp))
      have h_50 := hvP.mv (c_4.app c_8) (rngn (by simp))
      have hv2 : VolL s_6 vp d U V 1 := ⟨⟨_, _, _, _, _, _, h_43, h_44, h_45, hV.kn, h_46, h_47, h_48, h_49, h_50⟩, ok⟩
      refine tcall (c_vdrain vp d U V 1 _ hU hv2) ?_
      rintro v_52 s_51 ⟨rfl, c_54, call3a⟩
      have z_55 := c_54.size
      have hvs2 := call3a
      obtain ⟨⟨c2, p2, rw2, rk2, mw2, mk2, hV2⟩, ok2⟩ := id hvs2
      have hvb2 := hV2.blk
      have hvD2 := hV2.dk
      have hvP2 := hV2.ps
      have hdn := drainN_n V.way.length V true
      have hdw := drainN_way V.way.length V true rfl
      have hds := (drainN_sub V.way.length V true).length_le
      have hpl2 := hV2.ps.ok.lst
      have hll2 := hV2.ps.ok.lenl
      refine dBl_i ?_
      refine sB_n (fun hsB6 => ?_) (fun hsB6 => ?_)
      ·
        refine c_door Tryz.muLib hvb2 (by rfl) (fun _ => by rfl) fun s_56 b_57 c_58 z_59 => ?_
        have c_58t := on_ch hvb2 c_58
        refine ret_t ?_
        exact ⟨_, _, rfl, (((((Ch.refl [U, U + 1, U + 10, U + 11, U + 12, U + 13, U + 14, U + 20, U + 21, U + 22, U + 23, U + 31, U + 32] s).ch c_4 (by simp)).ch c_8 (by simp)).ch c_54 (by simp)).ch c_58t (by simp)), ⟨⟨_, _, _, _, _, _, hV2.relock c_58t b_57⟩, ok2⟩, .inr (.inl ⟨by assumption, rfl, rfl⟩), fun h => by cases h⟩
      ·
        refine ⟨fun vs H' => ∃ s' : TH, s'.h = H' ∧ vs = [] ∧ Ch [U, U + 1, U + 10, U + 11, U + 12, U + 13, U + 14, U + 20, U + 21, U + 22, U + 23, U + 31, U + 32, M + 9] s_51 s' ∧ (∃ V', VolL s' vp d U V' 1 ∧ Rounds ids V.drain.1 V' ∧ V'.way = [] ∧ V'.n + (V'.P.l.length : Int) * 1000000 ≤ V.drain.1.n + (V.drain.1.P.l.length : Int) * 1000000), fun vs H' => match vs with | [] => pszH H' vp | _ => 0, ⟨s_51, rfl, rfl, Ch.refl _ _, ?_⟩, ?_⟩
        ·
          exact ⟨V.drain.1, hvs2, .refl, hdw, Int.le_refl _⟩
        ·
          intro  _ _ _ _ _ _ _ _ _ _ _ _ _ _ _ H_ hI_61
          obtain ⟨s_60, rfl, hvs, c_62, V', hv3, hR, hw3, hn3⟩ := hI_61
          cases hvs
          have z_63 := c_62.size
          have hvs3 := hv3
          obtain ⟨⟨c3, p3, rw3, rk3, mw3, mk3, hV3⟩, ok3⟩ := id hvs3
          have hvb3 := hV3.blk
          have hvD3 := hV3.dk
          have hvP3 := hV3.ps
          have hpl3 := hV3.ps.ok.lst
          have hdn1 : V.drain.1.n = V.n := hdn
          refine nz_i ?_
          refine ld_t hvb3 rfl ?_
          refine dPtr_i ?_
          have h_64 := hx.mv (((c_4.app c_8).app c_54).app c_62) (tagn (by simp <;> omega))
          refine tcall (c_pclos p3 (U + 30) V'.P (M + 9) _ _ (by omega) hvP3 h_64 hxn (by omega)) ?_
          rintro v_66 s_65 ⟨acall4, ccall4, rfl, c_68, call4a⟩
          have z_69 := c_68.size
          have hcl := clos_len hV3.ps.ok ids
          have hV3b := hV3.mv c_68 (rngn50 (by simp <;> omega))
          refine dSl_i ?_
          refine sB_d (fun hsB7 => ?_) (fun hsB7 => ?_)
          ·
            have h_70 := hvb3.ch c_68 (by simp)
            refine c_door Tryz.muLib h_70 (by rfl) (fun _ => by rfl) fun s_71 b_72 c_73 z_74 => ?_
            have c_73t := on_ch h_70 c_73
            refine ret_t ?_
            exact ⟨_, _, rfl, (((((((Ch.refl [U, U + 1, U + 10, U + 11, U + 12, U + 13, U + 14, U + 20, U + 21, U + 22, U + 23, U + 31, U + 32] s).ch c_4 (by simp)).ch c_8 (by simp)).ch c_54 (by simp)).fr c_62 hM (by simp)).ch c_68 (by simp)).ch c_73t (by simp)), ⟨⟨_, _, _, _, _, _, hV3b.relock c_73t b_72⟩, ok3⟩, .inr (.inr ⟨by assumption, V', hR, .inl ⟨List.eq_nil_of_length_eq_zero (by omega), rfl, rfl⟩⟩), fun h => by cases h⟩
          ·
            have h_75 := hvs3.mv c_68 (rngn50 (by simp))
            refine tcall (c_vround vp d U V' 1 _ _ hU h_75 call4a.sl rfl (by omega) (by omega) (by omega)) ?_
            rintro v_77 s_76 ⟨rfl, c_79, call5a⟩
            have z_80 := c_79.size
            have hvs4 := call5a
            obtain ⟨⟨c4, p4, rw4, rk4, mw4, mk4, hV4⟩, ok4⟩ := id hvs4
            have hvb4 := hV4.blk
            have hvD4 := hV4.dk
            have hvP4 := hV4.ps
            refine dBl_i ?_
            refine sB_n (fun hsB8 => ?_) (fun hsB8 => ?_)
            ·
              refine c_door Tryz.muLib hvb4 (by rfl) (fun _ => by rfl) fun s_81 b_82 c_83 z_84 => ?_
              have c_83t := on_ch hvb4 c_83
              refine ret_t ?_
              exact ⟨_, _, rfl, ((((((((Ch.refl [U, U + 1, U + 10, U + 11, U + 12, U + 13, U + 14, U + 20, U + 21, U + 22, U + 23, U + 31, U + 32] s).ch c_4 (by simp)).ch c_8 (by simp)).ch c_54 (by simp)).fr c_62 hM (by simp)).ch c_68 (by simp)).ch c_79 (by simp)).ch c_83t (by simp)), ⟨⟨_, _, _, _, _, _, hV4.relock c_83t b_82⟩, ok4⟩, .inr (.inr ⟨by assumption, V', hR, .inr ⟨fun e => hsB7 (by rw [e]; rfl), by assumption, rfl, rfl⟩⟩), fun h => by cases h⟩
            ·
              refine ⟨⟨s_76, rfl, rfl, ((((Ch.refl [U, U + 1, U + 10, U + 11, U + 12, U + 13, U + 14, U + 20, U + 21, U + 22, U + 23, U + 31, U + 32, M + 9] s_51).ch c_62 (by simp)).ch c_68 (by simp)).ch c_79 (by simp)), ?_⟩, ?_⟩
              ·
                have hcne : V'.P.clos ids ≠ [] := fun e => hsB7 (by rw [e]; rfl)
                have hrn := round_n (V := V') (by rw [drain_nil hw3]; exact hV3.ps.ok) (V'.P.clos ids)
                rw [drain_nil hw3] at hrn
                have hrl := round_less hV3.ps.ok hw3 hcne hsB8
                simp only at hrn
                exact ⟨_, hvs4, hR.step hcne hsB8, round_way _, by omega⟩
              ·
                have hcne : V'.P.clos ids ≠ [] := fun e => hsB7 (by rw [e]; rfl)
                show pszH _ vp < pszH _ vp
                rw [psz_eq hvs4, psz_eq hv3]
                exact round_less hV3.ps.ok hw3 hcne hsB8
end Go.Proofs.YtngploohhmfaiaaGreat.E
/- What a law's arguments are: rows of cells that read as values of a type; slices of them, in states with marks. -/
namespace Go.Proofs.YtngploohhmfaiaaGreat.E
open Go Go.WideShapes
set_option linter.unusedVariables false
/-- a row of cells that reads as a value of a type -/
def Rd {H : Type} (enc : TypeId × Value → H) (P : Program) (W : World) (t : TypeId) (row : List Value) : Prop := ∃ fuel y, DataW.trod enc P W 0 (fun _ => true) true fuel t row = some y
section
variable {H : Type} {enc : TypeId × Value → H} {P : Program} {W : World} {t e : TypeId} {row : List Value}
theorem rd_int {k : IntKind} (ht : P.underlying t = some (.int k)) (h : Rd enc P W t row) : ∃ x, row = [.int k x] ∧ (Lit.int k x).wf = true := by
  obtain ⟨f, y, h⟩ := h
  obtain ⟨n, h1, _, h2⟩ := DataW.trod_int ht h
  exact ⟨n, h1, h2⟩
theorem flat_get {k : Nat} : ∀ {rows : List (List Value)}, (∀ r ∈ rows, r.length = k) → ∀ {j : Nat} {v : Value}, rows.flatten[j]? = some v → ∃ i m r, j = i * k + m ∧ m < k ∧ rows[i]? = some r ∧ r[m]? = some v
  | [], _, j, v, h => by simp at h
  | r :: rows, hk, j, v, h => by
    rw [List.flatten_cons] at h
    have hr := hk r (by simp)
    by_cases hj : j < k
    · rw [List.getElem?_append_left (by omega)] at h
      exact ⟨0, j, r, by omega, hj, by simp, h⟩
    · rw [List.getElem?_append_right (by omega)] at h
      obtain ⟨i, m, r', h1, h2, h3, h4⟩ := flat_get (fun r' h' => hk r' (List.mem_cons_of_mem _ h')) h
      exact ⟨i + 1, m, r', by rw [Nat.add_mul, Nat.one_mul]; omega, h2, by simpa using h3, h4⟩
theorem sl_rows {a : Addr} {k : Nat} {rows : List (List Value)} (hk : ∀ r ∈ rows, r.length = k) (h : ∀ i r, rows[i]? = some r → ∀ m, m < k → W.cell? ((a.add (i * k)).add m) = r[m]?) : Sl ⟨W.heap, fun _ => 0⟩ (some a) rows.flatten 0 := by
  by_cases he : rows.flatten = []
  · exact .inl he
  right
  have h0 : ∃ v, W.cell? a = some v := by
    obtain ⟨v, hv⟩ : ∃ v, rows.flatten[0]? = some v := by
      cases hf : rows.flatten with
      | nil => exact absurd hf he
      | cons v l => exact ⟨v, by simp⟩
    obtain ⟨i, m, r, h1, h2, h3, h4⟩ := flat_get hk hv
    obtain rfl : m = 0 := by omega
    have hi : i * k = 0 := by omega
    have := h i r h3 0 h2
    rw [hi] at this
    refine ⟨v, ?_⟩
    rw [← h4, ← this]
    simp [Addr.add]
  obtain ⟨v0, hv0⟩ := h0
  obtain ⟨g, o, sp⟩ := a
  have hsp : sp = none := by
    cases sp with
    | none => rfl
    | some x =>
      rw [cell_eq] at hv0
      unfold cellH at hv0
      split at hv0 <;> simp at hv0
  subst hsp
  have hlt : g < W.heap.size := by
    rw [cell_eq] at hv0
    unfold cellH at hv0
    split at hv0
    · rename_i hg; exact (Array.getElem?_eq_some_iff.1 hg).1
    · cases hv0
  refine ⟨g, o, rfl, hlt, rfl, fun j v hv => ?_⟩
  obtain ⟨i, m, r, h1, h2, h3, h4⟩ := flat_get hk hv
  have := h i r h3 m h2
  rw [add_mk, add_mk, h4, cell_eq] at this
  rw [h1, ← Nat.add_assoc]; exact this
theorem rd_sl (ht : P.underlying t = some (.slice e)) (h : Rd enc P W t row) : ∃ (a : Option Addr) (n c : Nat) (rows : List (List Value)), row = [.slice a n c] ∧ n ≤ c ∧ c ≤ maxLen ∧ (a = none → n = 0) ∧ rows.length = n ∧ (∀ r ∈ rows, r.length = P.cellsOf e ∧ Rd enc P W e r) ∧ Sl ⟨W.heap, fun _ => 0⟩ a rows.flatten 0 := by
  obtain ⟨f, y, h⟩ := h
  rcases DataW.trod_slice ht h with ⟨h0, _⟩ | ⟨a, len, cap, elems, rest, n, rfl, rfl, rfl, hb, hl, hm, hlen, hel, _⟩
  · exact ⟨none, 0, 0, [], h0, by omega, by omega, fun _ => rfl, rfl, fun r hr => (List.not_mem_nil hr).elim, .inl rfl⟩
  · have hrow : ∀ i, i < len → ∃ r, W.cells? 0 (a.add (i * P.cellsOf e)) (P.cellsOf e) = some r ∧ Rd enc P W e r := fun i hi => by
      have h1 := hel i hi
      rw [List.getElem?_eq_getElem (by omega)] at h1
      obtain ⟨r, h2, h3⟩ := Option.bind_eq_some_iff.1 h1
      exact ⟨r, h2, n, _, h3⟩
    let rows := (List.range len).map fun i => (W.cells? 0 (a.add (i * P.cellsOf e)) (P.cellsOf e)).getD []
    have hget : ∀ i r, rows[i]? = some r → W.cells? 0 (a.add (i * P.cellsOf e)) (P.cellsOf e) = some r ∧ Rd enc P W e r := fun i r hr => by
      have hi : i < len := by
        have := (List.getElem?_eq_some_iff.1 hr).1
        simpa [rows] using this
      obtain ⟨r', h1, h2⟩ := hrow i hi
      simp [rows, hi, h1] at hr
      subst hr; exact ⟨h1, h2⟩
    have hmem : ∀ r ∈ rows, r.length = P.cellsOf e ∧ Rd enc P W e r := fun r hr => by
      obtain ⟨i, hi⟩ := List.getElem?_of_mem hr
      obtain ⟨h1, h2⟩ := hget i r hi
      exact ⟨(World.cells?_some h1).2.1, h2⟩
    exact ⟨some a, len, cap, rows, rfl, hl, hm, (fun h => by cases h), by simp [rows], hmem, sl_rows (fun r hr => (hmem r hr).1) fun i r hr m hm => (World.cells?_some (hget i r hr).1).2.2 m hm⟩
/-- a slice of whole numbers -/
theorem rd_ints (ht : P.underlying t = some (.slice e)) (he : P.underlying e = some (.int .i64)) (h : Rd enc P W t row) : ∃ (a : Option Addr) (n c : Nat) (ls : List Int), row = [.slice a n c] ∧ n ≤ c ∧ c ≤ maxLen ∧ (a = none → n = 0) ∧ ls.length = n ∧ Sl ⟨W.heap, fun _ => 0⟩ a (ivs ls) 0 ∧ ∀ x ∈ ls, (Lit.int .i64 x).wf = true := by
  obtain ⟨a, n, c, rows, h1, h2, h3, h4, h5, h6, h7⟩ := rd_sl ht h
  have hx : ∀ l : List (List Value), (∀ r ∈ l, r.length = P.cellsOf e ∧ Rd enc P W e r) → ∃ ls : List Int, ls.length = l.length ∧ l.flatten = ivs ls ∧ ∀ x ∈ ls, (Lit.int .i64 x).wf = true := by
    intro l
    induction l with
    | nil => intro _; exact ⟨[], rfl, rfl, fun x hx => (List.not_mem_nil hx).elim⟩
    | cons r l ih =>
      intro hr
      obtain ⟨ls, k1, k2, k3⟩ := ih fun r' h' => hr r' (List.mem_cons_of_mem _ h')
      obtain ⟨x, rfl, hw⟩ := rd_int he (hr r (by simp)).2
      refine ⟨x :: ls, by simp [k1], by simp [k2, ivs], fun y hy => ?_⟩
      rcases List.mem_cons.1 hy with rfl | hy
      · exact hw
      · exact k3 y hy
  obtain ⟨ls, k1, k2, k3⟩ := hx rows h6
  exact ⟨a, n, c, ls, h1, h2, h3, h4, by omega, by rw [← k2]; exact h7, k3⟩
/-- a slice of bytes -/
theorem rd_bytes (ht : P.underlying t = some (.slice e)) (he : P.underlying e = some (.int .u8)) (h : Rd enc P W t row) : ∃ (a : Option Addr) (n c : Nat) (ls : List UInt8), row = [.slice a n c] ∧ n ≤ c ∧ c ≤ maxLen ∧ (a = none → n = 0) ∧ ls.length = n ∧ Sl ⟨W.heap, fun _ => 0⟩ a (bvs ls) 0 := by
  obtain ⟨a, n, c, rows, h1, h2, h3, h4, h5, h6, h7⟩ := rd_sl ht h
  have hx : ∀ l : List (List Value), (∀ r ∈ l, r.length = P.cellsOf e ∧ Rd enc P W e r) → ∃ ls : List UInt8, ls.length = l.length ∧ l.flatten = bvs ls := by
    intro l
    induction l with
    | nil => intro _; exact ⟨[], rfl, rfl⟩
    | cons r l ih =>
      intro hr
      obtain ⟨ls, k1, k2⟩ := ih fun r' h' => hr r' (List.mem_cons_of_mem _ h')
      obtain ⟨x, rfl, hw⟩ := rd_int he (hr r (by simp)).2
      have e1 : IntKind.u8.min = 0 := by decide
      have e2 : IntKind.u8.max = 255 := by decide
      simp only [Lit.wf, e1, e2, Bool.and_eq_true, decide_eq_true_eq] at hw
      refine ⟨UInt8.ofNat x.toNat :: ls, by simp [k1], ?_⟩
      have : bv (UInt8.ofNat x.toNat) = .int .u8 x := by
        unfold bv
        have : (UInt8.ofNat x.toNat).toNat = x.toNat % 256 := rfl
        rw [this]
        congr 1
        omega
      simp [k2, bvs, this]
  obtain ⟨ls, k1, k2⟩ := hx rows h6
  exact ⟨a, n, c, ls, h1, h2, h3, h4, by omega, by rw [← k2]; exact h7⟩
theorem open_v {v : Value} {a : Option Addr} {n c : Nat} {r : Reach} {b0 : Nat} (ht : P.underlying t = some (.slice e)) (hval : Value.okWide P W r b0 t v) (h : v.cells.toList = [.slice a n c]) : v = .slice a n c := by
  obtain ⟨a', n', c', rfl⟩ := okWide_slice ht hval
  simp [Value.cells] at h
  obtain ⟨rfl, rfl, rfl⟩ := h; rfl
end
end Go.Proofs.YtngploohhmfaiaaGreat.E
/- From a contract in states with marks to the kit's walk of a law. -/
namespace Go.Proofs.YtngploohhmfaiaaGreat.E
open Go Go.RowKit
set_option linter.unusedVariables false
theorem walkB {P : Program} {f : FuncId} {args : Array Value} {W : World}
    (h : TRet P f args ⟨W.heap, fun _ => 0⟩ fun v s' => v = .bool true ∧ Ch [] ⟨W.heap, fun _ => 0⟩ s') :
    Calls P f args W fun e W' => e = .returned (.bool true) ∧ Below W.heap.size W W' :=
  (h W rfl).mono fun e w' ⟨⟨v, s', he, hs, hv, hc⟩, hl⟩ =>
    ⟨by rw [he, hv], ⟨hl.os, hl.tape, hl.output, by rw [← hs]; exact hc.size, fun k hk => by rw [← hs]; exact hc.get k hk (by simp)⟩⟩
theorem walkT {P : Program} {f : FuncId} {args : Array Value} {W : World} {T : List Nat} (hT : 0 ∉ T)
    (h : TRet P f args ⟨W.heap, fun _ => 0⟩ fun v s' => v = .bool true ∧ Ch T ⟨W.heap, fun _ => 0⟩ s') :
    Calls P f args W fun e W' => e = .returned (.bool true) ∧ Below W.heap.size W W' :=
  walkB (h.mono fun v s' ⟨h1, h2⟩ => ⟨h1, Chg.mono h2 fun j _ hB => absurd hB hT⟩)
end Go.Proofs.YtngploohhmfaiaaGreat.E
