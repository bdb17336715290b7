/- My own texts, joined. -/
import Derived.Handed
import Derived.JoinedOf
import Derived.KernelRfl
import Derived.Test.YtngploohhmfaiaaGreatProg
import Derived.Test.YtngploohhmfaiaaGreatQc10
/- Contracts of functions. -/
namespace Go.Proofs.YtngploohhmfaiaaGreat.E
open Go Go.Proofs Go.RowKit Go.Maps Go.Shelf Go.Sort
set_option linter.unusedVariables false
set_option linter.unusedSimpArgs false
def crashed (q : List SentM) (bs : List (List UInt8)) (ids : List Int) : List (List UInt8) := ids.foldl (fun bs i => match q[(ixf (fun m : SentM => m.id == i) q).toNat]? with
  | some m => bs.set m.blk.toNat m.by_
  | none => bs) bs
theorem crashed_snoc (q : List SentM) (bs : List (List UInt8)) (ids : List Int) (i : Int) : crashed q bs (ids ++ [i]) = match q[(ixf (fun m : SentM => m.id == i) q).toNat]? with
  | some m => (crashed q bs ids).set m.blk.toNat m.by_
  | none => crashed q bs ids := by unfold crashed; rw [List.foldl_append]; rfl
theorem ixf_ge {α : Type} {p : α → Bool} {l : List α} (h : 0 ≤ ixf p l) : ∃ (k : Nat) (x : α), ixf p l = (k : Int) ∧ l[k]? = some x ∧ p x = true := by
  rcases ixf_cases p l with ⟨h3, _⟩ | ⟨k, x, h3, h4, h5⟩
  · omega
  · exact ⟨k, x, h3, h4, h5⟩
theorem mclr_t {P : Program} {E : List PanicEntry → Heap → Prop} {T Kt Et t2 : TypeId} {s : TH} {r τ : Nat} {m : List (Int × Value)} {K : Value → Heap → Prop} (hT : P.underlying T = some (.map Kt Et)) (h : MapK (Value.int .i64) s r m τ) (hk : ∀ s' : TH, MapK (Value.int .i64) s' r [] τ → On r s s' → s.h.size = s'.h.size → K (.tuple #[]) s'.h) :
    semW P (Builtin.clear_ #[T] t2 #[.map (some r)]) E s.h K := .mk fun w hw => by
  obtain ⟨es, ck, hg, he⟩ := h.get
  have h1 : (getObj r).run P w = .ok (.map es.toArray ck) w := by
    show Sem.run P (.getObj r .pure) w = _
    simp only [Sem.run, hw, hg]
  obtain ⟨h8, h9⟩ := setmap_on (es' := []) (ck' := ck) (m' := []) h ⟨rfl, rfl, by simp, by simp⟩ (by simp)
  unfold Builtin.clear_
  simp [run_under hT, h1]
  simp only [Sem.run_map, run_setmap hg _ w hw]
  have := hk _ h8 h9 (by simp)
  exact ⟨by rw [hw]; exact this, rfl, rfl, rfl⟩
theorem crashed_len (q : List SentM) : ∀ (ids : List Int) (bs : List (List UInt8)), (crashed q bs ids).length = bs.length
  | [], bs => rfl
  | i :: ids, bs => by
    have h := crashed_len q ids (match q[(ixf (fun m : SentM => m.id == i) q).toNat]? with
      | some m => bs.set m.blk.toNat m.by_
      | none => bs)
    refine h.trans ?_
    split
    · rw [List.length_set]
    · rfl
/-- (*bollard/disk.Disk).Crash$1 -/
theorem c_crash1 (d T r τ : Nat) (D : DiskM) (i : Int) (s : TH) (hT : 10 ≤ T) (hd : Disk s d T D) (hr : Blk s r [.pointer (some ⟨d, 0, none⟩)] 49 τ) : TRet Tryz.prog 89 #[.int .i64 i, .pointer (some ⟨r, 0, none⟩)] s fun v s' => v = .bool (decide (ixf (fun m : SentM => m.id == i) D.queue < 0)) ∧ Ch [] s s' := by
  refine F89_calls _ _  ?_
  unfold F89
  refine ld_t hr rfl ?_
  refine dPtr_i ?_
  refine tcall (c_place d T D i _ hT hd) ?_
  rintro v_2 s_1 ⟨kcall1, rfl, call1a, c_4⟩
  have z_5 := c_4.size
  refine dInt_i ?_
  refine ret_t ?_
  subst call1a
  exact ⟨rfl, ((Ch.refl [] s).ch c_4 (by simp))⟩
theorem um131 : Tryz.prog.underlying 131 = some (.map 3 3) := by kernel_rfl
/-- (*bollard/disk.Disk).Crash -/
theorem c_crash (d T : Nat) (D : DiskM) {xa : Option Addr} {xn : Nat} (xc : Nat) {ids : List Int} {τx : Nat} (s : TH) (hT : 10 ≤ T) (hd : Disk s d T D) (hx : Sl s xa (ivs ids) τx) (hxn : ids.length = xn) (hxb : xn ≤ 1000) (hf : ∀ i ∈ ids, 0 ≤ ixf (fun m : SentM => m.id == i) D.queue) (hτ : τx < T ∨ T + 10 ≤ τx) : TRet Tryz.prog 37 #[.pointer (some ⟨d, 0, none⟩), .slice xa xn xc] s fun v s' => v = .int .i64 0 ∧ Ch [T, T + 1, T + 4] s s' ∧ Disk s' d T ⟨crashed D.queue D.blocks ids, [], fun _ => 0, D.last⟩ := by
  obtain ⟨M, hM, hM0, hMa, hMb, hMc, hMd, hMe, hMf⟩ := fresh6 s (T + 10) τx 0 0 0 0
  refine F37_calls _ _ _ _  ?_
  unfold F37
  refine al_t (M + 1) fun r1 s2 hr1 b_1 c_2 z_3 => ?_
  refine ld_t b_1 rfl ?_
  refine dPtr_i ?_
  have h_4 := hd.mv c_2 (rngn (by simp))
  refine tcall (c_made d T D _ hT h_4) ?_
  rintro v_6 s_5 ⟨rfl, c_8⟩
  have z_9 := c_8.size
  refine dBl_i ?_
  refine sB_f (by rfl) ?_
  have h_10 := hx.mv (c_2.app c_8) (tagn (by simp))
  have h_11 := h_4.mv c_8 (rngn (by simp))
  have h_12 := b_1.ch c_8 (by simp)
  refine tcall (c_ctIntF xc (fun i => decide (ixf (fun m : SentM => m.id == i) D.queue < 0)) h_10 hxn (by omega) (by kernel_rfl) (fun s1 y hy k => c_crash1 d T r1 (M + 1) D y s1 hT ((h_11).mv k (rngn (by simp))) ((h_12).ch k (by simp)))) ?_
  rintro v_14 s_13 ⟨rfl, c_16⟩
  have z_17 := c_16.size
  have hany : (ids.any fun i => decide (ixf (fun m : SentM => m.id == i) D.queue < 0)) = false := List.any_eq_false.2 fun i hi => by have := hf i hi; simp; omega
  rw [hany]
  have h_18 := h_11.mv c_16 (rngn (by simp))
  obtain ⟨pa, pc, qa, qc, hs, qs, fr, fm, hP⟩ := id (h_18)
  have hpb := hP.blk
  have hpr := hP.rows
  have hpl := hP.brel
  have hpq := hP.que
  have hpqr := hP.qrel
  have hpf := hP.fails
  have hnb := hP.nb
  have hnq := hP.nq
  refine dBl_i ?_
  refine sB_f (by rfl) ?_
  refine ⟨fun vs H' => ∃ s' : TH, s'.h = H' ∧ ∃ i, vs = [.int .i64 i] ∧ Ch [T + 1, M + 9] s_13 s' ∧ (∃ (kk : Nat) (hs' : List Hd), i = kk ∧ kk ≤ xn ∧ Own s' pa D.blocks.length pc 38 1 (hs'.flatMap hd1) (T + 1) ∧ BRel s' (T + 3) hs' (crashed D.queue D.blocks (ids.take kk))), fun vs H' => match vs with | [.int .i64 i] => ((xn : Int) - i).toNat | _ => 0, ⟨s_13, rfl, _, rfl, Ch.refl _ _, ?_⟩, ?_⟩
  ·
    exact ⟨0, hs, rfl, by omega, hpr, by simpa [crashed] using hpl⟩
  ·
    intro i _ _ _ _ _ _ _ _ _ _ _ _ _ _ _ _ _ _ _ _ _ _ _ _ _ H_ hI_20
    obtain ⟨s_19, rfl, i_, hvs, c_21, kk, hs', rfl, hk, ho, hb⟩ := hI_20
    cases hvs
    have z_22 := c_21.size
    refine sB_d (fun hsB3 => ?_) (fun hsB3 => ?_)
    ·
      have h_23 := h_10.mv (c_16.app c_21) (tagn (by simp <;> omega))
      obtain ⟨a_24, rfl⟩ := h_23.ne_none (by simp [bvs_len, ivs_len]; omega)
      refine nz_i ?_
      refine ask_t (by omega) ?_
      refine ld_iv h_23 (by omega) (by omega) fun vel1 hel1 => ?_
      rw [Int.toNat_natCast] at hel1
      refine dInt_i ?_
      have h_25 := h_12.ch (c_16.app c_21) (by simp <;> omega)
      refine ld_t h_25 rfl ?_
      refine dPtr_i ?_
      refine nz_i ?_
      have h_26 := hpb.ch c_21 (by simp <;> omega)
      refine ld_t h_26 rfl ?_
      refine dSl_i ?_
      refine ld_t h_25 rfl ?_
      refine dPtr_i ?_
      refine ⟨?_, ?_⟩
      ·
        have h_27 := hpq.mv c_21 (tagn (by simp <;> omega))
        have h_28 := hpqr.mv c_21 (tagn (by simp <;> omega))
        have h_29 := hpf.ch c_21 (by simp <;> omega)
        have hbl : ({ D with blocks := crashed D.queue D.blocks (ids.take kk) } : DiskM).blocks.length = D.blocks.length := crashed_len _ _ _
        have hDk : Disk s_19 d T { D with blocks := crashed D.queue D.blocks (ids.take kk) } := ⟨pa, pc, qa, qc, hs', qs, fr, fm, ⟨by rw [hbl]; exact h_26, by rw [hbl]; exact ho, hb, h_27, h_28, h_29, hP.fok, by rw [hbl]; exact hnb, hnq, fun m hm => by rw [hbl]; exact hP.qin m hm⟩⟩
        refine tcall (c_place d T { D with blocks := crashed D.queue D.blocks (ids.take kk) } vel1 _ hT hDk) ?_
        rintro v_31 s_30 ⟨kcall3, rfl, call3a, c_33⟩
        have z_34 := c_33.size
        obtain ⟨kq, mm, h3, h4, h5⟩ := ixf_ge (hf vel1 (List.mem_of_getElem? hel1))
        obtain rfl : kcall3 = (kq : Int) := call3a.trans h3
        have hkq : kq < D.queue.length := (List.getElem?_eq_some_iff.1 h4).1
        obtain ⟨qx, hqx⟩ : ∃ x, qs[kq]? = some x := ⟨qs[kq]'(by rw [hP.qrel.len]; exact hkq), by simp [hP.qrel.len, hkq]⟩
        have hQ := hP.qrel.at_ kq qx mm hqx h4
        have hin := hP.qin mm (List.mem_of_getElem? h4)
        have hQ1 := hQ.2.1
        refine dInt_i ?_
        refine ⟨?_, ?_⟩
        ·
          have h_35 := h_26.ch c_33 (by simp)
          refine ld_t h_35 rfl ?_
          refine dSl_i ?_
          rfl
        ·
          refine ⟨?_, ?_⟩
          ·
            have h_36 := h_25.ch c_33 (by simp)
            refine ld_t h_36 rfl ?_
            refine dPtr_i ?_
            rfl
          ·
            have h_37 := h_27.mv c_33 (tagn (by simp))
            obtain ⟨a_38, rfl⟩ := h_37.ne_none (by omega)
            refine nz_i ?_
            refine ask_t (by omega) ?_
            refine ld_sl (h_37).sl (by rw [Int.toNat_natCast]; exact qcell0 hqx) ?_
            refine ld_sl2 (h_37).sl (by rw [Int.toNat_natCast]; exact qcell1 hqx) ?_
            refine ld_sl2 (h_37).sl (by rw [Int.toNat_natCast]; exact qcell2 hqx) ?_
            refine al_t (M + 9) fun r66 s67 hr66 b_39 c_40 z_41 => ?_
            refine ⟨?_, ?_⟩
            ·
              have h_42 := h_37.mv c_40 (tagn (by simp))
              refine ld_sl (h_42).sl (by rw [Int.toNat_natCast]; exact qcell0 hqx) ?_
              refine ld_sl2 (h_42).sl (by rw [Int.toNat_natCast]; exact qcell1 hqx) ?_
              refine ld_sl2 (h_42).sl (by rw [Int.toNat_natCast]; exact qcell2 hqx) ?_
              rfl
            ·
              refine ⟨?_, ?_⟩
              ·
                have h_43 := h_26.ch (c_33.app c_40) (by simp)
                refine ld_t h_43 rfl ?_
                refine dSl_i ?_
                rfl
              ·
                refine ⟨?_, ?_⟩
                ·
                  have h_44 := h_25.ch (c_33.app c_40) (by simp)
                  refine ld_t h_44 rfl ?_
                  refine dPtr_i ?_
                  rfl
                ·
                  refine st_t b_39 rfl (by simp) fun s77 b_45 c_46o z_47 => ?_
                  have c_46 := on_ch b_39 c_46o
                  refine st_t b_45 rfl (by simp) fun s78 b_48 c_49o z_50 => ?_
                  have c_49 := on_ch b_45 c_49o
                  refine st_t b_48 rfl (by simp) fun s79 b_51 c_52o z_53 => ?_
                  have c_52 := on_ch b_48 c_52o
                  have h_54 := h_25.ch ((((c_33.app c_40).app c_46).app c_49).app c_52) (by simp)
                  refine ld_t h_54 rfl ?_
                  refine dPtr_i ?_
                  refine nz_i ?_
                  have h_55 := h_26.ch ((((c_33.app c_40).app c_46).app c_49).app c_52) (by simp <;> omega)
                  refine ld_t h_55 rfl ?_
                  refine dSl_i ?_
                  refine ld_t b_51 rfl ?_
                  refine dInt_i ?_
                  refine ld_t b_51 rfl ?_
                  refine dSl_i ?_
                  have h_56 := h_28.mv ((((c_33.app c_40).app c_46).app c_49).app c_52) (tagn (by simp <;> omega))
                  refine tcall (c_clone (T + 3) _ ((h_56).at_ kq qx mm hqx h4).2.2.sl ((h_56).at_ kq qx mm hqx h4).2.2.len (fun h => by obtain ⟨y, hy⟩ := ((h_56).at_ kq qx mm hqx h4).2.2.ne; rw [h] at hy; cases hy) (by omega)) ?_
                  rintro v_58 s_57 ⟨acall4, ccall4, rfl, c_60, call4a, call4b⟩
                  have z_61 := c_60.size
                  refine dSl_i ?_
                  refine ⟨?_, ?_⟩
                  ·
                    have h_62 := b_51.ch c_60 (by simp)
                    refine ld_t h_62 rfl ?_
                    refine dInt_i ?_
                    rfl
                  ·
                    refine ⟨?_, ?_⟩
                    ·
                      have h_63 := h_55.ch c_60 (by simp)
                      refine ld_t h_63 rfl ?_
                      refine dSl_i ?_
                      rfl
                    ·
                      refine ⟨?_, ?_⟩
                      ·
                        have h_64 := h_54.ch c_60 (by simp)
                        refine ld_t h_64 rfl ?_
                        refine dPtr_i ?_
                        rfl
                      ·
                        have h_65 := ho.mv (((((c_33.app c_40).app c_46).app c_49).app c_52).app c_60) (tagn (by simp <;> omega))
                        obtain ⟨a_66, rfl⟩ := h_65.ne_none (by omega)
                        refine nz_i ?_
                        refine ask_t (by omega) ?_
                        have h_70 := ho.mv (((((c_33.app c_40).app c_46).app c_49).app c_52).app c_60) (tagn (by simp <;> omega))
                        refine Own.st h_70 rfl (by omega) fun s107 b_67 c_68o z_69 => ?_
                        have c_68 := Ch.on_tag (T := [T + 1]) (Ch.refl _ _) c_68o h_70.tagOf (by simp)
                        refine wr_t (by omega) ?_
                        refine ⟨⟨s107, rfl, _, rfl, (((((((((Ch.refl [T + 1, M + 9] s_13).ch c_21 (by simp)).ch c_33 (by simp)).ch c_40 (by simp)).ch c_46 (by simp)).ch c_49 (by simp)).ch c_52 (by simp)).ch c_60 (by simp)).ch c_68 (by simp)), ?_⟩, ?_⟩
                        ·
                          have h_71 := hb.mv ((((((c_33.app c_40).app c_46).app c_49).app c_52).app c_60).app c_68) (tagn (by simp <;> omega))
                          have h_72 := call4a.mv c_68 (tagn (by simp))
                          have hr := b_67
                          rw [Nat.mul_one, fm_set1 _ _ (acall4, ccall4), hQ1] at hr
                          have hbr := (h_71).set mm.blk.toNat (p := (acall4, ccall4)) (b := mm.by_) ⟨(h_72).sl, hQ.2.2.len⟩
                          exact ⟨kk + 1, _, by omega, by omega, hr, by rw [List.take_add_one, hel1, Option.toList_some, crashed_snoc, h3, Int.toNat_natCast, h4]; exact hbr⟩
                        ·
                          simp only []; omega
      ·
        refine al_t (M + 9) fun r113 s114 hr113 b_73 c_74 z_75 => ?_
        refine ⟨?_, ?_⟩
        ·
          have h_76 := h_25.ch c_74 (by simp)
          refine ld_t h_76 rfl ?_
          refine dPtr_i ?_
          rfl
        ·
          refine ⟨?_, ?_⟩
          ·
            have h_77 := h_26.ch c_74 (by simp)
            refine ld_t h_77 rfl ?_
            refine dSl_i ?_
            rfl
          ·
            refine ⟨?_, ?_⟩
            ·
              have h_78 := h_25.ch c_74 (by simp)
              refine ld_t h_78 rfl ?_
              refine dPtr_i ?_
              rfl
            ·
              have h_79 := h_26.ch c_74 (by simp)
              have h_80 := ho.mv c_74 (tagn (by simp))
              have h_81 := hb.mv c_74 (tagn (by simp))
              have h_82 := hpq.mv (c_21.app c_74) (tagn (by simp <;> omega))
              have h_83 := hpqr.mv (c_21.app c_74) (tagn (by simp <;> omega))
              have h_84 := hpf.ch (c_21.app c_74) (by simp <;> omega)
              have hbl : ({ D with blocks := crashed D.queue D.blocks (ids.take kk) } : DiskM).blocks.length = D.blocks.length := crashed_len _ _ _
              have hDk : Disk s114 d T { D with blocks := crashed D.queue D.blocks (ids.take kk) } := ⟨pa, pc, qa, qc, hs', qs, fr, fm, ⟨by rw [hbl]; exact h_79, by rw [hbl]; exact h_80, h_81, h_82, h_83, h_84, hP.fok, by rw [hbl]; exact hnb, hnq, fun m hm => by rw [hbl]; exact hP.qin m hm⟩⟩
              refine tcall (c_place d T { D with blocks := crashed D.queue D.blocks (ids.take kk) } vel1 _ hT hDk) ?_
              rintro v_86 s_85 ⟨kcall5, rfl, call5a, c_88⟩
              have z_89 := c_88.size
              obtain ⟨kq, mm, h3, h4, h5⟩ := ixf_ge (hf vel1 (List.mem_of_getElem? hel1))
              obtain rfl : kcall5 = (kq : Int) := call5a.trans h3
              have hkq : kq < D.queue.length := (List.getElem?_eq_some_iff.1 h4).1
              obtain ⟨qx, hqx⟩ : ∃ x, qs[kq]? = some x := ⟨qs[kq]'(by rw [hP.qrel.len]; exact hkq), by simp [hP.qrel.len, hkq]⟩
              have hQ := hP.qrel.at_ kq qx mm hqx h4
              have hin := hP.qin mm (List.mem_of_getElem? h4)
              have hQ1 := hQ.2.1
              refine dInt_i ?_
              refine ⟨?_, ?_⟩
              ·
                have h_90 := h_79.ch c_88 (by simp)
                refine ld_t h_90 rfl ?_
                refine dSl_i ?_
                rfl
              ·
                refine ⟨?_, ?_⟩
                ·
                  have h_91 := h_25.ch (c_74.app c_88) (by simp)
                  refine ld_t h_91 rfl ?_
                  refine dPtr_i ?_
                  rfl
                ·
                  have h_92 := h_82.mv c_88 (tagn (by simp))
                  obtain ⟨a_93, rfl⟩ := h_92.ne_none (by omega)
                  refine nz_i ?_
                  refine ask_t (by omega) ?_
                  refine ld_sl (h_92).sl (by rw [Int.toNat_natCast]; exact qcell0 hqx) ?_
                  refine ld_sl2 (h_92).sl (by rw [Int.toNat_natCast]; exact qcell1 hqx) ?_
                  refine ld_sl2 (h_92).sl (by rw [Int.toNat_natCast]; exact qcell2 hqx) ?_
                  have h_97 := b_73.ch c_88 (by simp)
                  refine st_t h_97 rfl (by simp) fun s136 b_94 c_95o z_96 => ?_
                  have c_95 := on_ch h_97 c_95o
                  refine st_t b_94 rfl (by simp) fun s137 b_98 c_99o z_100 => ?_
                  have c_99 := on_ch b_94 c_99o
                  refine st_t b_98 rfl (by simp) fun s138 b_101 c_102o z_103 => ?_
                  have c_102 := on_ch b_98 c_102o
                  have h_104 := h_25.ch ((((c_74.app c_88).app c_95).app c_99).app c_102) (by simp)
                  refine ld_t h_104 rfl ?_
                  refine dPtr_i ?_
                  refine nz_i ?_
                  have h_105 := h_79.ch (((c_88.app c_95).app c_99).app c_102) (by simp <;> omega)
                  refine ld_t h_105 rfl ?_
                  refine dSl_i ?_
                  refine ld_t b_101 rfl ?_
                  refine dInt_i ?_
                  refine ld_t b_101 rfl ?_
                  refine dSl_i ?_
                  have h_106 := h_83.mv (((c_88.app c_95).app c_99).app c_102) (tagn (by simp <;> omega))
                  refine tcall (c_clone (T + 3) _ ((h_106).at_ kq qx mm hqx h4).2.2.sl ((h_106).at_ kq qx mm hqx h4).2.2.len (fun h => by obtain ⟨y, hy⟩ := ((h_106).at_ kq qx mm hqx h4).2.2.ne; rw [h] at hy; cases hy) (by omega)) ?_
                  rintro v_108 s_107 ⟨acall6, ccall6, rfl, c_110, call6a, call6b⟩
                  have z_111 := c_110.size
                  refine dSl_i ?_
                  refine ⟨?_, ?_⟩
                  ·
                    have h_112 := b_101.ch c_110 (by simp)
                    refine ld_t h_112 rfl ?_
                    refine dInt_i ?_
                    rfl
                  ·
                    refine ⟨?_, ?_⟩
                    ·
                      have h_113 := h_105.ch c_110 (by simp)
                      refine ld_t h_113 rfl ?_
                      refine dSl_i ?_
                      rfl
                    ·
                      refine ⟨?_, ?_⟩
                      ·
                        have h_114 := h_104.ch c_110 (by simp)
                        refine ld_t h_114 rfl ?_
                        refine dPtr_i ?_
                        rfl
                      ·
                        have h_115 := ho.mv (((((c_74.app c_88).app c_95).app c_99).app c_102).app c_110) (tagn (by simp <;> omega))
                        obtain ⟨a_116, rfl⟩ := h_115.ne_none (by omega)
                        refine nz_i ?_
                        refine ask_t (by omega) ?_
                        have h_120 := h_80.mv ((((c_88.app c_95).app c_99).app c_102).app c_110) (tagn (by simp <;> omega))
                        refine Own.st h_120 rfl (by omega) fun s166 b_117 c_118o z_119 => ?_
                        have c_118 := Ch.on_tag (T := [T + 1]) (Ch.refl _ _) c_118o h_120.tagOf (by simp)
                        refine wr_t (by omega) ?_
                        refine ⟨⟨s166, rfl, _, rfl, (((((((((Ch.refl [T + 1, M + 9] s_13).ch c_21 (by simp)).ch c_74 (by simp)).ch c_88 (by simp)).ch c_95 (by simp)).ch c_99 (by simp)).ch c_102 (by simp)).ch c_110 (by simp)).ch c_118 (by simp)), ?_⟩, ?_⟩
                        ·
                          have h_121 := h_81.mv (((((c_88.app c_95).app c_99).app c_102).app c_110).app c_118) (tagn (by simp <;> omega))
                          have h_122 := call6a.mv c_118 (tagn (by simp))
                          have hr := b_117
                          rw [Nat.mul_one, fm_set1 _ _ (acall6, ccall6), hQ1] at hr
                          have hbr := (h_121).set mm.blk.toNat (p := (acall6, ccall6)) (b := mm.by_) ⟨(h_122).sl, hQ.2.2.len⟩
                          exact ⟨kk + 1, _, by omega, by omega, hr, by rw [List.take_add_one, hel1, Option.toList_some, crashed_snoc, h3, Int.toNat_natCast, h4]; exact hbr⟩
                        ·
                          simp only []; omega
    ·
      have h_123 := h_12.ch (c_16.app c_21) (by simp <;> omega)
      refine ld_t h_123 rfl ?_
      refine dPtr_i ?_
      refine nz_i ?_
      have h_127 := hpb.ch c_21 (by simp <;> omega)
      refine st_t (r := d) (i := 1) h_127 rfl (by simp) fun s175 b_124 c_125o z_126 => ?_
      have c_125 := on_ch h_127 c_125o
      have h_128 := h_123.ch c_125 (by simp <;> omega)
      refine ld_t h_128 rfl ?_
      refine dPtr_i ?_
      refine nz_i ?_
      refine ld_t b_124 rfl ?_
      refine dMap_i ?_
      have h_129 := hpf.ch (c_21.app c_125) (by simp <;> omega)
      have hitf := h_129
      refine mclr_t um131 hitf fun s_130 hpf_133 c_131o _ => ?_
      have c_131 : Ch [T + 4] s175 s_130 := Chg.mono c_131o fun j _ e => by subst e; rw [hitf.tag]; simp
      have z_132 := c_131.size
      refine ret_t ?_
      have h_134 := hb.mv (c_125.app c_131) (tagn (by simp))
      have h_135 := b_124.ch c_131 (by simp)
      have h_136 := ho.mv (c_125.app c_131) (tagn (by simp))
      have hids : ids.take kk = ids := List.take_of_length_le (by omega)
      have hbb := h_134
      rw [hids] at hbb
      have hbl : (⟨crashed D.queue D.blocks ids, [], fun _ => 0, D.last⟩ : DiskM).blocks.length = D.blocks.length := crashed_len _ _ _
      exact ⟨rfl, (((((((Ch.refl [T, T + 1, T + 4] s).ch c_2 (by simp)).ch c_8 (by simp)).ch c_16 (by simp)).fr c_21 hM (by simp)).ch c_125 (by simp)).ch c_131 (by simp)), pa, pc, none, 0, hs', [], fr, [], ⟨by rw [hbl]; exact h_135, by rw [hbl]; exact h_136, hbb, Own.nil _ _ _ _, QRel.nil _ _, hpf_133, fun b => rfl, by rw [hbl]; exact hnb, by simp, fun m hm => (List.not_mem_nil hm).elim⟩⟩
theorem erase_ne {l : List (Int × WayM)} {k : Nat} {x : Int × WayM} (h : (l.map fun p => p.2.blk).Nodup) (hk : l[k]? = some x) : ∀ p ∈ l.eraseIdx k, p.2.blk ≠ x.2.blk := by
  intro p hp
  obtain ⟨hlt, e⟩ := List.getElem?_eq_some_iff.1 hk
  rw [List.eraseIdx_eq_take_drop_succ] at hp
  have hl : l = l.take k ++ x :: l.drop (k + 1) := by
    conv => lhs; rw [← List.take_append_drop k l]
    rw [List.drop_eq_getElem_cons hlt, e]
  rw [hl, List.map_append, List.map_cons, List.nodup_append] at h
  obtain ⟨_, h2, h3⟩ := h
  rw [List.nodup_cons] at h2
  rcases List.mem_append.1 hp with hp | hp
  · exact h3 _ (List.mem_map.2 ⟨p, hp, rfl⟩) _ (by simp)
  · exact fun e2 => h2.1 (e2 ▸ List.mem_map.2 ⟨p, hp, rfl⟩)
theorem WayI.lost {V0 V : VolM} (h : WayI V0 V) (k : Nat) : WayI V0 (V.lost k) :=
  ⟨h.pok, h.len, h.bl, h.lst, h.ov, h.has, h.now, fun p hp => h.w p (List.mem_of_mem_eraseIdx hp), h.nd.sublist ((List.eraseIdx_sublist _ _).map _)⟩
theorem WayI.landedK {V0 V : VolM} (h : WayI V0 V) {k : Nat} {x : Int × WayM} (e : V.way[k]? = some x) : (V.P.doneP x.2.ids).2 = 0 ∧ WayI V0 (V.landed k x.2) := by
  obtain ⟨hb, hcs, hby⟩ := h.w x (List.mem_of_getElem? e)
  have hd := hcs.done h.pok
  have eP : (V.landed k x.2).P = V.P.fin x.2.ids := by show (V.P.doneP x.2.ids).1 = _; rw [hd]
  have hpok2 : POk (V.P.fin x.2.ids) := h.pok.fin _ fun i hi => of_sub (hcs.sub i hi)
  have hbl : ∀ c, c ≠ x.2.blk → V.D.has c → (V.landed k x.2).blk c = V.blk c := fun c hc hh => by
    show (V.D.blocks.set x.2.blk.toNat x.2.by_).getD c.toNat [] = V.D.blocks.getD c.toNat []
    unfold DiskM.has at hb hh
    rw [List.getD_eq_getElem?_getD, List.getElem?_set_ne (by omega), ← List.getD_eq_getElem?_getD]
  refine ⟨by rw [hd], ⟨by rw [eP]; exact hpok2, fun y hy => ?_, by show (V.D.blocks.set _ _).length = _; rw [List.length_set]; exact h.bl, by rw [eP]; exact h.lst, by rw [eP]; exact h.ov.fin _, ?_, fun c hc => ?_, ?_, h.nd.sublist ((List.eraseIdx_sublist _ _).map _)⟩⟩
  · rcases List.mem_or_eq_of_mem_set (show y ∈ V.D.blocks.set x.2.blk.toNat x.2.by_ from hy) with h1 | h1
    · exact h.len y h1
    · rw [h1, hby]; exact over_len h.pok _ (blk_len' h.len hb)
  · intro y hy
    rw [eP] at hy
    have := h.has y (List.mem_filter.1 hy).1
    show 0 ≤ y.blk ∧ y.blk < ((V.D.blocks.set _ _).length : Int)
    rw [List.length_set]; exact this
  · have hcV : V.D.has c := (has_len h.bl).2 hc
    rw [← h.now c hc]
    unfold VolM.now
    rw [eP]
    by_cases hcb : c = x.2.blk
    · subst hcb
      have : (V.landed k x.2).blk x.2.blk = x.2.by_ := by
        show (V.D.blocks.set x.2.blk.toNat x.2.by_).getD x.2.blk.toNat [] = _
        unfold DiskM.has at hb
        rw [List.getD_eq_getElem?_getD, List.getElem?_set_self (by omega)]; rfl
      rw [this, hby]
      exact hcs.now h.pok h.ov (blk_len' h.len hb)
    · rw [hbl c hcb hcV, over_of hpok2, over_of h.pok, fin_of_ne hcs.sub h.pok hcb]
  · intro p hp
    obtain ⟨g1, g2, g3⟩ := h.w p (List.mem_of_mem_eraseIdx (show p ∈ V.way.eraseIdx k from hp))
    have hpb := erase_ne h.nd e p hp
    have ho := hcs.other h.pok g2 hpb
    refine ⟨?_, by rw [eP]; exact ho.1, by rw [eP, ho.2, hbl _ hpb g1]; exact g3⟩
    show 0 ≤ p.2.blk ∧ p.2.blk < ((V.D.blocks.set _ _).length : Int)
    rw [List.length_set]; exact g1
/-- a byte a patch: what of a disk is set is done -/
structure Mk (of : List (List Int)) (V : VolM) : Prop where
  nb : V.D.blocks.length = 8
  lst : V.P.last = of.length
  ofr : ∀ (i : Nat) l, of[i]? = some l → ∀ n ∈ l, 1 ≤ n ∧ n ≤ i
  p : ∀ x ∈ V.P.l, x.off = x.id - 1 ∧ x.blk = (x.id - 1) % 8 ∧ x.by_ = [1] ∧ ∀ l, of[(x.id - 1).toNat]? = some l → ∀ n ∈ l, n ∈ V.P.all → n ∈ x.needs
  d : ∀ i ∈ V.P.done, ∀ l, of[(i - 1).toNat]? = some l → ∀ n ∈ l, n ∈ V.P.done
  z : ∀ (j : Nat) b, j < 128 → V.D.has b → (V.blk b)[j]? = some (if (j : Int) + 1 ∈ V.P.done ∧ b = (j : Int) % 8 then 1 else 0)
theorem Mk.byte {of : List (List Int)} {V : VolM} (h : Mk of V) (pok : POk V.P) (len : ∀ y ∈ V.D.blocks, y.length = 128) {b : Int} {S : List Int} (hb : V.D.has b) (hs : CS V.P b S) {j : Nat} (hj : j < 128) :
    (V.P.over (V.blk b) S)[j]? = some (if ((j : Int) + 1 ∈ V.P.done ∨ (j : Int) + 1 ∈ S) ∧ b = (j : Int) % 8 then 1 else 0) := by
  rw [hs.over pok, ovL_get (blk_len' len hb) j _ fun x hx => pok.fitX (List.mem_filter.1 (List.mem_filter.1 hx).1).1]
  have hS : (j : Int) + 1 ∈ S → b = (j : Int) % 8 := fun hm => by
    obtain ⟨x, hx, h1, h2⟩ := of_mem.1 (hs.sub _ hm)
    have := (h.p x hx).2.1
    rw [h1, h2] at this; rw [this]; congr 1; omega
  cases e : lastC j ((V.P.l.filter fun x => x.blk == b).filter fun x => decide (x.id ∈ S)) with
  | some x =>
    obtain ⟨hx, hc⟩ := lastC_mem e
    obtain ⟨hx1, hx2⟩ := List.mem_filter.1 hx
    obtain ⟨hx3, hx4⟩ := List.mem_filter.1 hx1
    obtain ⟨p1, p2, p3, _⟩ := h.p x hx3
    have hr := pok.rng x hx3
    unfold cov at hc
    rw [decide_eq_true_eq, p3, List.length_singleton] at hc
    have hid : x.id = (j : Int) + 1 := by omega
    have hin : (j : Int) + 1 ∈ S := by rw [← hid]; simpa using hx2
    rw [if_pos ⟨.inr hin, hS hin⟩]
    simp only
    rw [p3, show j - x.off.toNat = 0 by omega]; rfl
  | none =>
    have hn := lastC_none.1 e
    simp only
    rw [h.z j b hj hb]
    have hnS : (j : Int) + 1 ∉ S := fun hm => by
      obtain ⟨x, hx, h1, h2⟩ := of_mem.1 (hs.sub _ hm)
      obtain ⟨p1, p2, p3, _⟩ := h.p x hx
      have := hn x (List.mem_filter.2 ⟨List.mem_filter.2 ⟨hx, by simpa using h1⟩, by rw [h2]; simpa using hm⟩)
      unfold cov at this
      rw [decide_eq_false_iff_not, p3, List.length_singleton] at this
      omega
    simp [hnS]
theorem Mk.need {of : List (List Int)} {V : VolM} (h : Mk of V) (pok : POk V.P) {b : Int} {S : List Int} (hs : CS V.P b S) {i : Int} (hi : i ∈ S) {l : List Int} (hl : of[(i - 1).toNat]? = some l) {n : Int} (hn : n ∈ l) : n ∈ V.P.done ∨ n ∈ S := by
  obtain ⟨x, hx, h1, h2⟩ := of_mem.1 (hs.sub i hi)
  have hr := pok.rng x hx
  have hq := h.ofr _ l hl n hn
  rcases pok.all n hq.1 (by omega) with h3 | h3
  · exact .inl h3
  · right
    subst h2
    have h4 := (h.p x hx).2.2.2 l hl n hn h3
    exact hs.cl x.id hi x (find_by pok.nodup hx) n (List.mem_filter.2 ⟨h3, by simpa using h4⟩)
theorem Mk.landed {of : List (List Int)} {V0 V : VolM} (h : Mk of V) (hw : WayI V0 V) {k : Nat} {x : Int × WayM} (e : V.way[k]? = some x) : Mk of (V.landed k x.2) := by
  obtain ⟨hb, hcs, hby⟩ := hw.w x (List.mem_of_getElem? e)
  have hd := hcs.done hw.pok
  have eP : (V.landed k x.2).P = V.P.fin x.2.ids := by show (V.P.doneP x.2.ids).1 = _; rw [hd]
  have hbS : ∀ j : Nat, (j : Int) + 1 ∈ x.2.ids → x.2.blk = (j : Int) % 8 := fun j hm => by
    obtain ⟨y, hy, h1, h2⟩ := of_mem.1 (hcs.sub _ hm)
    have := (h.p y hy).2.1
    rw [h1, h2] at this; rw [this]; congr 1; omega
  refine ⟨by show (V.D.blocks.set _ _).length = 8; rw [List.length_set]; exact h.nb, by rw [eP]; exact h.lst, h.ofr, fun y hy => ?_, fun i hi l hl n hn => ?_, fun j b hj hb2 => ?_⟩
  · rw [eP] at hy
    obtain ⟨p1, p2, p3, p4⟩ := h.p y (List.mem_filter.1 hy).1
    refine ⟨p1, p2, p3, fun l hl n hn ha => p4 l hl n hn ?_⟩
    rw [eP] at ha
    obtain ⟨z, hz, rfl⟩ := List.mem_map.1 ha
    exact List.mem_map.2 ⟨z, (List.mem_filter.1 hz).1, rfl⟩
  · rw [eP] at hi ⊢
    rcases List.mem_append.1 (show i ∈ V.P.done ++ x.2.ids from hi) with hi | hi
    · exact List.mem_append_left _ (h.d i hi l hl n hn)
    · rcases h.need hw.pok hcs hi hl hn with h1 | h1
      · exact List.mem_append_left _ h1
      · exact List.mem_append_right _ h1
  · rw [eP]
    show _ = some (if (j : Int) + 1 ∈ V.P.done ++ x.2.ids ∧ b = (j : Int) % 8 then 1 else 0)
    have hb3 : V.D.has b := by
      have : 0 ≤ b ∧ b < ((V.D.blocks.set x.2.blk.toNat x.2.by_).length : Int) := hb2
      rw [List.length_set] at this; exact this
    simp only [List.mem_append]
    by_cases hc : b = x.2.blk
    · have : (V.landed k x.2).blk b = x.2.by_ := by
        subst hc
        show (V.D.blocks.set x.2.blk.toNat x.2.by_).getD x.2.blk.toNat [] = _
        unfold DiskM.has at hb
        rw [List.getD_eq_getElem?_getD, List.getElem?_set_self (by omega)]; rfl
      rw [this, hby, hc]
      exact h.byte hw.pok hw.len hb hcs hj
    · have : (V.landed k x.2).blk b = V.blk b := by
        show (V.D.blocks.set x.2.blk.toNat x.2.by_).getD b.toNat [] = V.D.blocks.getD b.toNat []
        unfold DiskM.has at hb hb3
        rw [List.getD_eq_getElem?_getD, List.getElem?_set_ne (by omega), ← List.getD_eq_getElem?_getD]
      rw [this, h.z j b hj hb3]
      by_cases hm : (j : Int) + 1 ∈ x.2.ids
      · have h1 := hbS j hm
        rw [if_neg (fun g => hc (g.2.trans h1.symm)), if_neg (fun g => hc (g.2.trans h1.symm))]
      · simp [hm]
theorem Mk.lost {of : List (List Int)} {V : VolM} (h : Mk of V) (k : Nat) : Mk of (V.lost k) := ⟨h.nb, h.lst, h.ofr, h.p, h.d, h.z⟩
theorem Mk.sent {of : List (List Int)} {V : VolM} (h : Mk of V) (b : Int) : Mk of (V.sent b) := ⟨h.nb, h.lst, h.ofr, h.p, h.d, h.z⟩
theorem Mk.change {of : List (List Int)} {V : VolM} (h : Mk of V) (pok : POk V.P) {ids : List Int} (hids : ∀ n ∈ ids, 1 ≤ n ∧ n ≤ of.length) {n : Int} {K : OldM} (e : (V.P.add ((of.length : Int) % 8) of.length [1] ids).1 = { V.P with last := V.P.last + 1, l := V.P.l ++ [V.P.newP ((of.length : Int) % 8) of.length [1] ids] }) :
    Mk (of ++ [ids]) { V with n := n, P := (V.P.add ((of.length : Int) % 8) of.length [1] ids).1, old := K } := by
  rw [e]
  have hl := h.lst
  refine ⟨h.nb, by show V.P.last + 1 = _; rw [List.length_append, List.length_singleton]; omega, fun i l hi m hm => ?_, fun x hx => ?_, fun i hi l hl2 m hm => ?_, h.z⟩
  · by_cases hlt : i < of.length
    · rw [List.getElem?_append_left hlt] at hi; exact h.ofr i l hi m hm
    · rw [List.getElem?_append_right (by omega)] at hi
      by_cases h0 : i - of.length = 0
      · rw [h0] at hi; simp at hi; subst hi
        have := hids m hm; omega
      · rw [List.getElem?_eq_none (by simp; omega)] at hi; cases hi
  · rcases List.mem_append.1 (show x ∈ V.P.l ++ [_] from hx) with hx | hx
    · obtain ⟨p1, p2, p3, p4⟩ := h.p x hx
      have hr := pok.rng x hx
      refine ⟨p1, p2, p3, fun l hl2 m hm ha => ?_⟩
      rw [List.getElem?_append_left (by omega)] at hl2
      refine p4 l hl2 m hm ?_
      have hq := h.ofr _ l hl2 m hm
      obtain ⟨z, hz, rfl⟩ := List.mem_map.1 ha
      rcases List.mem_append.1 (show z ∈ V.P.l ++ [_] from hz) with hz | hz
      · exact List.mem_map.2 ⟨z, hz, rfl⟩
      · rw [List.mem_singleton] at hz; subst hz
        have hq2 : V.P.last + 1 ≤ ((x.id - 1).toNat : Int) := hq.2
        omega
    · rw [List.mem_singleton] at hx; subst hx
      refine ⟨by show (of.length : Int) = V.P.last + 1 - 1; omega, by show (of.length : Int) % 8 = (V.P.last + 1 - 1) % 8; rw [hl]; congr 1; omega, rfl, fun l hl2 m hm ha => ?_⟩
      have hl2 : (of ++ [ids])[(V.P.last + 1 - 1).toNat]? = some l := hl2
      rw [List.getElem?_append_right (by omega), show (V.P.last + 1 - 1).toNat - of.length = 0 by omega] at hl2
      simp at hl2; subst hl2
      have hq := hids m hm
      obtain ⟨z, hz, rfl⟩ := List.mem_map.1 ha
      rcases List.mem_append.1 (show z ∈ V.P.l ++ [_] from hz) with hz | hz
      · exact List.mem_map.2 ⟨z, List.mem_filter.2 ⟨hz, by simp [hm]⟩, rfl⟩
      · rw [List.mem_singleton] at hz; subst hz
        have hq2 : V.P.last + 1 ≤ (of.length : Int) := hq.2
        omega
  · have hr := pok.dn i hi
    rw [List.getElem?_append_left (by omega)] at hl2
    exact h.d i hi l hl2 m hm
theorem crashed_cs {V0 V : VolM} (h : WayI V0 V) (hq : V.D.queue = V.way.map sentOf) : ∀ (ids : List Int) (bs : List (List UInt8)), bs.length = V.D.blocks.length → (∀ b, V.D.has b → ∃ S, CS V.P b S ∧ bs[b.toNat]? = some (V.P.over (V.blk b) S)) → ∀ b, V.D.has b → ∃ S, CS V.P b S ∧ (crashed V.D.queue bs ids)[b.toNat]? = some (V.P.over (V.blk b) S)
  | [], bs, _, hb => hb
  | i :: ids, bs, hl, hb => by
    refine crashed_cs h hq ids _ ?_ ?_
    · dsimp only
      split
      · rw [List.length_set]; exact hl
      · exact hl
    · intro b hh
      dsimp only
      split
      · rename_i m hm
        have hm2 := List.mem_of_getElem? hm
        rw [hq] at hm2
        obtain ⟨p, hp, rfl⟩ := List.mem_map.1 hm2
        obtain ⟨g1, g2, g3⟩ := h.w p hp
        show ∃ S, _ ∧ (bs.set p.2.blk.toNat p.2.by_)[b.toNat]? = _
        by_cases hc : b = p.2.blk
        · subst hc
          refine ⟨p.2.ids, g2, ?_⟩
          unfold DiskM.has at hh
          rw [List.getElem?_set_self (by omega), g3]
        · obtain ⟨S, s1, s2⟩ := hb b hh
          refine ⟨S, s1, ?_⟩
          unfold DiskM.has at hh g1
          rw [List.getElem?_set_ne (by omega)]; exact s2
      · exact hb b hh
/-- whichever writes are done when it crashes, the disk has, of each patch that it has, all that this needs -/
theorem crash_ok {of : List (List Int)} {V0 V : VolM} (hm : Mk of V) (h : WayI V0 V) (hq : V.D.queue = V.way.map sentOf) (ids : List Int) (hof : of.length ≤ 100) :
    ∃ f : Int → Nat → UInt8, (∀ b, 0 ≤ b → b < 8 → ∃ row, (crashed V.D.queue V.D.blocks ids)[b.toNat]? = some row ∧ row.length = 128 ∧ ∀ j, j < 128 → row[j]? = some (f b j)) ∧
      ∀ (i : Nat) l, of[i]? = some l → f ((i : Int) % 8) i ≠ 0 → ∀ n ∈ l, 1 ≤ n ∧ n ≤ i ∧ f ((n - 1) % 8) (n - 1).toNat ≠ 0 := by
  have hcs := crashed_cs h hq ids V.D.blocks rfl fun b hb => ⟨[], ⟨List.Pairwise.nil, by simp, by simp⟩, blk_get hb⟩
  have hhas : ∀ b : Int, 0 ≤ b → b < 8 → V.D.has b := fun b h1 h2 => ⟨h1, by rw [hm.nb]; exact h2⟩
  have hch : ∀ b : Int, ∃ S, 0 ≤ b → b < 8 → CS V.P b S ∧ (crashed V.D.queue V.D.blocks ids)[b.toNat]? = some (V.P.over (V.blk b) S) := fun b => by
    by_cases hb : 0 ≤ b ∧ b < 8
    · obtain ⟨S, h1⟩ := hcs b (hhas b hb.1 hb.2); exact ⟨S, fun _ _ => h1⟩
    · exact ⟨[], fun h1 h2 => absurd ⟨h1, h2⟩ hb⟩
  let S := fun b => Classical.choose (hch b)
  have hS : ∀ b : Int, 0 ≤ b → b < 8 → CS V.P b (S b) ∧ (crashed V.D.queue V.D.blocks ids)[b.toNat]? = some (V.P.over (V.blk b) (S b)) := fun b => Classical.choose_spec (hch b)
  refine ⟨fun b j => if ((j : Int) + 1 ∈ V.P.done ∨ (j : Int) + 1 ∈ S b) ∧ b = (j : Int) % 8 then 1 else 0, fun b h1 h2 => ?_, fun i l hl hne n hn => ?_⟩
  · obtain ⟨g1, g2⟩ := hS b h1 h2
    exact ⟨_, g2, over_len h.pok _ (blk_len' h.len (hhas b h1 h2)), fun j hj => hm.byte h.pok h.len (hhas b h1 h2) g1 hj⟩
  · have hr := hm.ofr i l hl n hn
    refine ⟨hr.1, hr.2, ?_⟩
    dsimp only at hne ⊢
    have hi : ((i : Int) + 1 ∈ V.P.done ∨ (i : Int) + 1 ∈ S ((i : Int) % 8)) := by
      by_cases g : ((i : Int) + 1 ∈ V.P.done ∨ (i : Int) + 1 ∈ S ((i : Int) % 8)) ∧ (i : Int) % 8 = (i : Int) % 8
      · exact g.1
      · rw [if_neg g] at hne; exact absurd rfl hne
    have e1 : (((n - 1).toNat : Nat) : Int) = n - 1 := by omega
    rw [e1, show n - 1 + 1 = n by omega]
    have hl2 : of[((i : Int) + 1 - 1).toNat]? = some l := by rw [show ((i : Int) + 1 - 1).toNat = i by omega]; exact hl
    have : n ∈ V.P.done ∨ n ∈ S ((n - 1) % 8) := by
      rcases hi with hi | hi
      · exact .inl (hm.d _ hi l hl2 n hn)
      · obtain ⟨g1, _⟩ := hS ((i : Int) % 8) (by omega) (by omega)
        rcases hm.need h.pok g1 hi hl2 hn with h1 | h1
        · exact .inl h1
        · right
          obtain ⟨x, hx, h2, h3⟩ := of_mem.1 (g1.sub n h1)
          have := (hm.p x hx).2.1
          rw [h2, h3] at this
          rw [← this]; exact h1
    rw [if_pos ⟨this, rfl⟩]
    decide
theorem inS73 : (Tryz.prog.info? 73).map (fun i => (i.zero, i.size, i.bytes)) = some (some (.slice none 0 0), 1, 24) := by kernel_rfl
structure NV where
  a : Option Addr
  c : Nat
  l : List Int
def nv1 (x : NV) : List Value := [.slice x.a x.l.length x.c]
theorem nv1_len (x : NV) : (nv1 x).length = 1 := rfl
theorem nvcell {ls : List NV} {k : Nat} {x : NV} (h : ls[k]? = some x) : (ls.flatMap nv1)[k]? = some (.slice x.a x.l.length x.c) := by have := fm_get nv1_len ls k 0 x h (by omega); rw [Nat.mul_one, Nat.add_zero] at this; exact this
structure Nsi (s : TH) (τ : Nat) (l : List NV) : Prop where
  at_ : ∀ x ∈ l, Sl s x.a (ivs x.l) τ ∧ (x.a = none → x.l.length = 0) ∧ x.l.length ≤ 17592186043904
theorem Nsi.mv {s s' : TH} {τ : Nat} {l : List NV} {B : Nat → Prop} (h : Nsi s τ l) (c : Chg B s s') (hn : ∀ j, j < s.h.size → s.g j = τ → ¬ B j) : Nsi s' τ l := ⟨fun x hx => ⟨(h.at_ x hx).1.mv c hn, (h.at_ x hx).2⟩⟩
structure Nss (s : TH) (μ : Nat) (l : List NV) : Prop where
  at_ : ∀ x ∈ l, ∃ σ, μ ≤ σ ∧ Sl s x.a (ivs x.l) σ ∧ x.l.length ≤ 17592186043904
theorem Nss.mv {s s' : TH} {μ : Nat} {l : List NV} {B : Nat → Prop} (h : Nss s μ l) (c : Chg B s s') (hn : ∀ j, j < s.h.size → μ ≤ s.g j → ¬ B j) : Nss s' μ l := ⟨fun x hx => by
  obtain ⟨σ, h1, h2, h3⟩ := h.at_ x hx
  exact ⟨σ, h1, h2.mv c fun j hj e => hn j hj (by omega), h3⟩⟩
theorem rngnUp {s : TH} {T : Nat} {L : List Nat} (h : ∀ τ ∈ L, τ < T) : ∀ j, j < s.h.size → T ≤ s.g j → ¬ s.g j ∈ L := fun j _ h1 h3 => by have := h _ h3; omega
theorem Nss.nil (s : TH) (μ : Nat) : Nss s μ [] := ⟨fun x hx => (List.not_mem_nil hx).elim⟩
theorem Nss.snoc {s : TH} {μ σ : Nat} {l : List NV} {x : NV} (h : Nss s μ l) (hσ : μ ≤ σ) (hx : Sl s x.a (ivs x.l) σ) (hl : x.l.length ≤ 17592186043904) : Nss s μ (l ++ [x]) := ⟨fun y hy => by
  rcases List.mem_append.1 hy with hy | hy
  · exact h.at_ y hy
  · rw [List.mem_singleton] at hy; subst hy; exact ⟨σ, hσ, hx, hl⟩⟩
/-- the volume of the law at its start -/
def bs8 : List (List UInt8) := List.replicate 8 (List.replicate 128 0)
theorem bs8_len : ∀ y ∈ bs8, y.length = 128 := fun y hy => by rw [List.eq_of_mem_replicate hy]; simp
structure Ch1 (of : List (List Int)) (V : VolM) : Prop where
  mks : Mk of V
  w : WayI V V
  way : V.way = []
  old : V.old = ⟨false, false, 0, []⟩
  n : V.n = 0
theorem Ch1.start : Ch1 [] (VolM.fresh bs8) where
  mks := ⟨by show bs8.length = 8; simp [bs8], rfl, fun i l h => by simp at h, fun x hx => (List.not_mem_nil hx).elim, fun x hx => (List.not_mem_nil hx).elim, fun j b hj hb => by
    rw [if_neg (fun h => (List.not_mem_nil h.1).elim)]
    show (bs8.getD b.toNat [])[j]? = some 0
    have hb2 : 0 ≤ b ∧ b < ((bs8.length : Nat) : Int) := hb
    have h8 : bs8.length = 8 := by simp [bs8]
    rw [List.getD_eq_getElem?_getD]
    unfold bs8 at hb2 ⊢
    rw [List.length_replicate] at hb2
    rw [List.getElem?_replicate, if_pos (by omega)]
    show (List.replicate 128 (0 : UInt8))[j]? = some 0
    rw [List.getElem?_replicate, if_pos hj]⟩
  w := ⟨⟨List.Pairwise.nil, fun x hx => (List.not_mem_nil hx).elim, fun x hx => (List.not_mem_nil hx).elim, fun x hx => (List.not_mem_nil hx).elim, fun x hx => (List.not_mem_nil hx).elim, fun x hx => (List.not_mem_nil hx).elim, fun i h1 h2 => absurd (Int.le_trans h1 h2) (by show ¬ (1 : Int) ≤ 0; decide), fun x hx => (List.not_mem_nil hx).elim, (by decide : (0 : Int) ≤ 0 ∧ (0 : Int) ≤ 1000000)⟩, bs8_len, rfl, rfl, fun x hx => (List.not_mem_nil hx).elim, fun x hx => (List.not_mem_nil hx).elim, fun _ _ => rfl, fun x hx => (List.not_mem_nil hx).elim, List.nodup_nil⟩
  way := rfl
  old := rfl
  n := rfl
theorem Ch1.change {of : List (List Int)} {V : VolM} (h : Ch1 of V) {ids : List Int} (hids : ∀ n ∈ ids, 1 ≤ n ∧ n ≤ of.length) (hl : of.length < 100) :
    (V.change ((of.length : Int) % 8) of.length [1] ids).2.1 = (of.length : Int) + 1 ∧ (V.change ((of.length : Int) % 8) of.length [1] ids).2.2 = 0 ∧ Ch1 (of ++ [ids]) (V.change ((of.length : Int) % 8) of.length [1] ids).1 := by
  have hb : V.D.has ((of.length : Int) % 8) := ⟨by omega, by rw [h.mks.nb]; omega⟩
  have hf : fitsP ((of.length : Int) % 8) of.length (([1] : List UInt8).length : Int) := by unfold fitsP; simp; omega
  have hlst := h.mks.lst
  obtain ⟨h1, h2, h3, ⟨⟨b', o', y', n', hc⟩⟩⟩ := change_ok (V := V) hb hf (fun n hn => by have := hids n hn; omega)
  have e := add_ok (P := V.P) hf (fun n hn => by have := hids n hn; omega)
  have hfst : V.first ((of.length : Int) % 8) = false := by unfold VolM.first; rw [h.old]; rfl
  have ec : (V.change ((of.length : Int) % 8) of.length [1] ids).1 = { V with n := V.ticks ((of.length : Int) % 8), P := (V.P.add ((of.length : Int) % 8) of.length [1] ids).1, old := V.keep ((of.length : Int) % 8) } := by
    unfold VolM.change
    rw [if_neg (by simpa using hb), if_neg (by rw [e]; simp)]
  have hPl : (V.P.add ((of.length : Int) % 8) of.length [1] ids).1 = { V.P with last := V.P.last + 1, l := V.P.l ++ [V.P.newP ((of.length : Int) % 8) of.length [1] ids] } := by rw [e]
  refine ⟨by rw [h1, hlst], h2, ?_⟩
  rw [ec]
  have hpok : POk (V.P.add ((of.length : Int) % 8) of.length [1] ids).1 := by rw [hPl]; exact h.w.pok.add hf (by omega)
  refine ⟨h.mks.change h.w.pok hids hPl, ⟨hpok, h.w.len, rfl, rfl, by show POv (V.P.add _ _ _ _).1; rw [hPl]; exact POv.add h.w.pok h.w.ov hf, fun x hx => ?_, fun _ _ => rfl, by show ∀ p ∈ V.way, _; rw [h.way]; simp, by show (V.way.map _).Nodup; rw [h.way]; simp⟩, h.way, by show V.keep _ = _; unfold VolM.keep; rw [if_neg (by rw [hfst]; simp)]; exact h.old, by show V.ticks _ = 0; unfold VolM.ticks; rw [if_neg (by rw [hfst]; simp)]; exact h.n⟩
  have hx : x ∈ (V.P.add ((of.length : Int) % 8) of.length [1] ids).1.l := hx
  rw [hPl] at hx
  rcases List.mem_append.1 hx with hx | hx
  · exact h.w.has x hx
  · rw [List.mem_singleton] at hx; subst hx; exact hb
/-- writes on the way, some of them landed -/
structure Ch2 (of : List (List Int)) (V0 V : VolM) : Prop where
  mks : Mk of V
  w : WayI V0 V
theorem Ch2.wlen {of : List (List Int)} {V0 V : VolM} (h : Ch2 of V0 V) : V.way.length ≤ 8 := by
  have := nodup_len h.w.nd (n := 8) fun x hx => by
    obtain ⟨p, hp, rfl⟩ := List.mem_map.1 hx
    have := (h.w.w p hp).1
    unfold DiskM.has at this
    rw [h.mks.nb] at this; exact this
  simpa using this
theorem Ch2.write {of : List (List Int)} {V0 V : VolM} (h : Ch2 of V0 V) {b : Int} (hb : b ∈ V.ready) : (V.write b).2 = 0 ∧ Ch2 of V0 (V.write b).1 ∧ (V.write b).1.n = V.n + 1 := by
  have hw := h.wlen
  have e := write_ready h.w.has hb (by omega)
  rw [e]
  refine ⟨rfl, ⟨h.mks.sent b, h.w.sent (ready_has h.w.has hb) fun hm => ?_⟩, rfl⟩
  obtain ⟨p, hp, e2⟩ := List.mem_map.1 hm
  have := List.any_eq_false.1 (ready_free hb).2 p hp
  simp [e2] at this
theorem Ch2.compl {of : List (List Int)} {V0 V : VolM} (h : Ch2 of V0 V) (k : Int) (f : Bool) : Ch2 of V0 (V.compl k f).1 ∧ (V.compl k f).1.n = V.n := by
  refine ⟨?_, compl_n⟩
  unfold VolM.compl
  split
  · exact h
  · split
    · exact h
    · rename_i w hw
      split
      · exact ⟨h.mks.lost _, h.w.lost _⟩
      · exact ⟨h.mks.landed h.w hw, (h.w.landedK hw).2⟩
theorem ixf_nn {α : Type} {p : α → Bool} {l : List α} {x : α} (hx : x ∈ l) (hp : p x = true) : 0 ≤ ixf p l := by
  rcases ixf_cases p l with ⟨_, h2⟩ | ⟨k, y, h3, _⟩
  · have := h2 x hx; rw [hp] at this; cases this
  · omega
theorem tmod8 {a n : Int} (ha : 0 ≤ a) (h : n = Int.tmod a 8) : n = a % 8 := by rw [h, Int.tmod_eq_emod_of_nonneg ha]
/-- bollard/bollardlaw09.VolumeCrash -/
theorem w_vcrash (U : Nat) {a : Option Addr} {n : Nat} (c : Nat) {ls : List NV} {oa : Option Addr} {on : Nat} (oc : Nat) {os : List Int} (mask : Int) {τ : Nat} {s : TH} (hU : 10 ≤ U) (hq : Sl s a (ls.flatMap nv1) τ) (hd : Nsi s τ ls) (hln : ls.length = n) (hn2 : n ≤ 17592186043904) (ha : a = none → n = 0) (ho : Sl s oa (ivs os) τ) (hon : os.length = on) (hon2 : on ≤ 17592186043904) (ho0 : oa = none → on = 0) (hτ : τ < U ∨ U + 50 ≤ τ) : TRet Tryz.prog 6 #[.slice a n c, .slice oa on oc, .int .u64 mask] s fun v s' => v = .bool true ∧ Ch [U, U + 1, U + 3, U + 10, U + 11, U + 12, U + 13, U + 14, U + 20, U + 21, U + 22, U + 23, U + 30, U + 31, U + 32] s s' := by
  obtain ⟨M, hM, hM0, hMa, hMb, hMc, hMd, hMe, hMf⟩ := fresh6 s τ (U + 60) 0 0 0 0
  refine F6_calls _ _ _ _ _ _ _  ?_
  unfold F6
  refine tcall (c_dnew (U + 10) 8 _ (by omega) (by omega)) ?_
  rintro v_2 s_1 ⟨dcall1, rfl, c_4, call1a⟩
  have z_5 := c_4.size
  have hdk : Disk s_1 dcall1 (U + 10) (diskOf bs8) := call1a
  refine dT2 ?_
  refine dPtr_i ?_
  refine dInt_i ?_
  refine tcall (c_vopen2 U dcall1 bs8 8 _ hU hdk bs8_len (by omega)) ?_
  rintro v_7 s_6 ⟨rcall2, rfl, c_9, call2a⟩
  have z_10 := c_9.size
  refine dT2 ?_
  refine dPtr_i ?_
  refine dInt_i ?_
  refine jn_u ?_
  refine sB_f (by rfl) ?_
  intro _
  intros
  refine dBl_i ?_
  refine sB_f (by rfl) ?_
  refine jn1 (fun fv s' => Ch [U, U + 1, U + 3, U + 10, U + 11, U + 12, U + 13, U + 14, U + 20, U + 21, U + 22, U + 23, U + 30, U + 31, U + 32, M + 2, M + 9] s_6 s' ∧ (∃ pa pc rows V, fv = .slice pa rows.length pc ∧ rows.length ≤ 60 ∧ Ch1 (rows.map (·.l)) V ∧ Own s' pa rows.length pc 73 1 (rows.flatMap nv1) (M + 2) ∧ Nss s' (M + 20) rows ∧ VolL s' rcall2 dcall1 U V 0)) ?_ ?_
  ·
    rintro fv s_11 ⟨c_12, pa, pc, rows, V, rfl, hr60, hC, hro, hns, hv⟩
    have z_13 := c_12.size
    intro _
    intros
    refine dSl_i ?_
    refine jn0 (fun s' => Ch [U, U + 1, U + 3, U + 10, U + 11, U + 12, U + 13, U + 14, U + 20, U + 21, U + 22, U + 23, U + 30, U + 31, U + 32, M + 9] s_11 s' ∧ (∃ V', Ch2 (rows.map (·.l)) V V' ∧ VolL s' rcall2 dcall1 U V' 0)) ?_ ?_
    ·
      rintro  s_14 ⟨c_15, V', h2, hv2⟩
      have z_16 := c_15.size
      intro _
      intros
      obtain ⟨⟨cq, pq, rwq, rkq, mwq, mkq, hVq⟩, okq⟩ := id hv2
      refine tcall (c_queue (M + 6) dcall1 (U + 10) V'.D _ (by omega) hVq.dk) ?_
      rintro v_18 s_17 ⟨acall3, ccall3, qscall3, rfl, c_20, call3a, call3b⟩
      have z_21 := c_20.size
      have hql := wlen_q okq
      have hwl := h2.wlen
      have hcl := (call3b).len
      refine dSl_i ?_
      refine ⟨fun vs H' => ∃ s' : TH, s'.h = H' ∧ ∃ qa qn qc i, vs = [.slice qa qn qc, .int .i64 i] ∧ Ch [M + 5, M + 9] s_17 s' ∧ (∃ (kk : Nat) (done : List Int), i = kk ∧ kk ≤ V'.D.queue.length ∧ qn = done.length ∧ done.length ≤ kk ∧ Own s' qa qn qc 3 1 (ivs done) (M + 5) ∧ (∀ i ∈ done, ∃ m ∈ V'.D.queue, m.id = i)), fun vs H' => match vs with | [.slice qa qn qc, .int .i64 i] => ((V'.D.queue.length : Int) - i).toNat | _ => 0, ⟨s_17, rfl, _, _, _, _, rfl, Ch.refl _ _, ?_⟩, ?_⟩
      ·
        exact ⟨0, [], rfl, by omega, rfl, by simp, Own.nil _ _ _ _, fun i hi => (List.not_mem_nil hi).elim⟩
      ·
        intro qa qn qc i _ _ _ _ _ _ _ _ _ _ _ _ _ _ _ _ _ H_ hI_23
        obtain ⟨s_22, rfl, qa_, qn_, qc_, i_, hvs, c_24, kk, done, rfl, hkq, hqn, hdl, hdo, hdone⟩ := hI_23
        cases hvs
        have z_25 := c_24.size
        refine sB_d (fun hsB3 => ?_) (fun hsB3 => ?_)
        ·
          refine jn_u ?_
          have h_26 := call3a.mv c_24 (tagn (by simp))
          obtain ⟨a_27, rfl⟩ := h_26.ne_none (by omega)
          refine nz_i ?_
          refine ask_t (by omega) ?_
          obtain ⟨qy, hqy⟩ : ∃ y, qscall3[kk]? = some y := ⟨qscall3[kk]'(by omega), by simp⟩
          obtain ⟨qm, hqm⟩ : ∃ m, V'.D.queue[kk]? = some m := ⟨V'.D.queue[kk]'(by omega), by simp⟩
          have h_28 := call3b.mv c_24 (tagn (by simp))
          have hqr := (h_28).at_ kk qy qm hqy hqm
          refine ld_sl (h_26).sl (by rw [Int.toNat_natCast]; exact qcell0 hqy) ?_
          refine ld_sl2 (h_26).sl (by rw [Int.toNat_natCast]; exact qcell1 hqy) ?_
          refine ld_sl2 (h_26).sl (by rw [Int.toNat_natCast]; exact qcell2 hqy) ?_
          refine al_t (M + 9) fun r195 s196 hr195 b_29 c_30 z_31 => ?_
          refine st_t b_29 rfl (by simp) fun s197 b_32 c_33o z_34 => ?_
          have c_33 := on_ch b_29 c_33o
          refine st_t b_32 rfl (by simp) fun s198 b_35 c_36o z_37 => ?_
          have c_36 := on_ch b_32 c_36o
          refine st_t b_35 rfl (by simp) fun s199 b_38 c_39o z_40 => ?_
          have c_39 := on_ch b_35 c_39o
          refine ask_t (by omega) ?_
          refine nm_a fun n200 hn200 => ?_
          refine nm_a fun n201 hn201 => ?_
          refine sB_d (fun hsB4 => ?_) (fun hsB4 => ?_)
          ·
            refine ld_t b_38 rfl ?_
            refine dInt_i ?_
            refine al_t (M + 9) fun r204 s205 hr204 b_41 c_42 z_43 => ?_
            have h_46 := hdo.mv ((((c_30.app c_33).app c_36).app c_39).app c_42) (tagn (by simp))
            refine app_i1 u73 in3 h_46 b_41 (by omega) fun s_47 a_44 k_45 o_48 c_49 => ?_
            have z_50 := c_49.size
            refine dSl_i ?_
            intro _
            intros
            refine dSl_i ?_
            refine wr_t (by omega) ?_
            refine ⟨⟨s_47, rfl, _, _, _, _, rfl, ((((((((Ch.refl [M + 5, M + 9] s_17).ch c_24 (by simp)).ch c_30 (by simp)).ch c_33 (by simp)).ch c_36 (by simp)).ch c_39 (by simp)).ch c_42 (by simp)).ch c_49 (by simp)), ?_⟩, ?_⟩
            ·
              exact ⟨kk + 1, done ++ [qy.1], by omega, by omega, by rw [List.length_append, hqn]; rfl, by rw [List.length_append, List.length_singleton]; omega, o_48, fun i hi => by (rcases List.mem_append.1 hi with h | h; exact hdone i h; rw [List.mem_singleton] at h; exact ⟨qm, List.mem_of_getElem? hqm, by rw [h]; exact hqr.1.symm⟩)⟩
            ·
              simp only []; omega
          ·
            intro _
            intros
            refine dSl_i ?_
            refine wr_t (by omega) ?_
            refine ⟨⟨s199, rfl, _, _, _, _, rfl, ((((((Ch.refl [M + 5, M + 9] s_17).ch c_24 (by simp)).ch c_30 (by simp)).ch c_33 (by simp)).ch c_36 (by simp)).ch c_39 (by simp)), ?_⟩, ?_⟩
            ·
              have h_51 := hdo.mv (((c_30.app c_33).app c_36).app c_39) (tagn (by simp))
              exact ⟨kk + 1, done, by omega, by omega, hqn, by omega, h_51, hdone⟩
            ·
              simp only []; omega
        ·
          have h_52 := hv2.mv (c_20.app c_24) (rngn50 (by simp <;> omega))
          have hvr := h_52
          obtain ⟨⟨cr, pr, rwr, rkr, mwr, mkr, hVr⟩, okr⟩ := id hvr
          refine tcall (c_crash dcall1 (U + 10) V'.D qc _ (by omega) hVr.dk (hdo).sl hqn.symm (by omega) (fun i hi => by obtain ⟨m, hm, e⟩ := hdone i hi; exact ixf_nn hm (by simp [e])) (by omega)) ?_
          rintro v_54 s_53 ⟨rfl, c_56, call4a⟩
          have z_57 := c_56.size
          obtain ⟨f, hf1, hf2⟩ := crash_ok h2.mks h2.w okr.que done (by simp; omega)
          have hcl8 : (crashed V'.D.queue V'.D.blocks done).length = 8 := (crashed_len _ _ _).trans h2.mks.nb
          refine dInt_i ?_
          refine sB_f (by rfl) ?_
          refine tcall (c_dimage dcall1 (U + 10) M _ _ call4a (by omega)) ?_
          rintro v_59 s_58 ⟨acall5, ccall5, hscall5, rfl, c_61, call5a, call5b⟩
          have z_62 := c_61.size
          have hil := (call5b).len
          refine dSl_i ?_
          refine ⟨fun vs H' => ∃ s' : TH, s'.h = H' ∧ ∃ i, vs = [.int .i64 i] ∧ Ch [] s_58 s' ∧ (∃ kk2 : Nat, i = kk2 ∧ kk2 ≤ rows.length), fun vs H' => match vs with | [.int .i64 i] => ((rows.length : Int) - i).toNat | _ => 0, ⟨s_58, rfl, _, rfl, Ch.refl _ _, ?_⟩, ?_⟩
          ·
            exact ⟨0, rfl, by omega⟩
          ·
            intro i _ _ _ _ _ _ _ _ _ _ _ _ _ _ _ _ _ _ _ _ _ _ _ _ _ _ _ _ _ _ _ _ _ _ _ _ H_ hI_64
            obtain ⟨s_63, rfl, i_, hvs, c_65, kk2, rfl, hkr⟩ := hI_64
            cases hvs
            have z_66 := c_65.size
            refine sB_d (fun hsB6 => ?_) (fun hsB6 => ?_)
            ·
              refine jn_u ?_
              have h_67 := hro.mv (((((c_15.app c_20).app c_24).app c_56).app c_61).app c_65) (tagn (by simp <;> omega))
              obtain ⟨a_68, rfl⟩ := h_67.ne_none (by omega)
              refine nz_i ?_
              refine ask_t (by omega) ?_
              obtain ⟨x, hx⟩ : ∃ x, rows[kk2]? = some x := ⟨rows[kk2]'(by omega), by simp⟩
              have h_69 := hns.mv (((((c_15.app c_20).app c_24).app c_56).app c_61).app c_65) (rngnUp (by simp <;> omega))
              obtain ⟨σ, hσ, hxs0, hxlen⟩ := (h_69).at_ x (List.mem_of_getElem? hx)
              obtain ⟨xa, xc, xl⟩ := x
              have hxs : Sl s_63 xa (ivs xl) σ := hxs0
              have hxlen2 : xl.length ≤ 17592186043904 := hxlen
              have hof : (rows.map (·.l))[kk2]? = some xl := by rw [List.getElem?_map, hx]; rfl
              refine ld_sl (h_67).sl (by rw [Int.toNat_natCast, Nat.mul_one]; exact (show _ = some (.slice xa xl.length xc) from nvcell hx)) ?_
              refine dSl_i ?_
              refine ask_t (by omega) ?_
              refine nm_a fun n304 hn304 => ?_
              have qn304 := tmod_rng (by omega) (by omega) hn304
              have h_70 := call5a.mv c_65 (tagn (by simp))
              obtain ⟨a_71, rfl⟩ := h_70.ne_none (by simp [bvs_len, ivs_len]; omega)
              refine nz_i ?_
              refine ask_t (by simp <;> omega) ?_
              have hn8 := tmod8 (by omega) hn304
              obtain ⟨row, hr1, hr2, hr3⟩ := hf1 n304 (by omega) (by omega)
              obtain ⟨p, hp⟩ : ∃ p, hscall5[n304.toNat]? = some p := ⟨hscall5[n304.toNat]'(by rw [hil]; show _ < (crashed _ _ _).length; omega), by simp⟩
              have h_72 := call5b.mv c_65 (tagn (by simp))
              have hby := (h_72).at_ _ _ _ hp hr1
              obtain ⟨ra, rc⟩ := p
              have hrs : Sl s_63 ra (bvs row) (M + 3) := hby.sl
              refine ld_sl (h_70).sl (by rw [Nat.mul_one]; exact (show _ = some (.slice ra 128 rc) from bcell hp)) ?_
              refine dSl_i ?_
              obtain ⟨a_73, rfl⟩ := hrs.ne_none (by simp [bvs_len, ivs_len]; omega)
              refine nz_i ?_
              refine ask_t (by omega) ?_
              refine ld_sl hrs (by rw [Int.toNat_natCast, Nat.mul_one]; exact (show (bvs row)[kk2]? = some (bv (f n304 kk2)) from by unfold bvs; rw [List.getElem?_map, hr3 kk2 (by omega)]; rfl)) ?_
              refine dInt_i ?_
              refine sB_d (fun hsB7 => ?_) (fun hsB7 => ?_)
              ·
                intro _
                intros
                refine wr_t (by omega) ?_
                refine ⟨⟨s_63, rfl, _, rfl, ((Ch.refl [] s_58).ch c_65 (by simp)), ?_⟩, ?_⟩
                ·
                  exact ⟨kk2 + 1, by omega, by omega⟩
                ·
                  simp only []; omega
              ·
                refine ⟨fun vs H' => ∃ s' : TH, s'.h = H' ∧ ∃ i, vs = [.int .i64 i] ∧ Ch [] s_63 s' ∧ (∃ mm : Nat, i = mm ∧ mm ≤ xl.length), fun vs H' => match vs with | [.int .i64 i] => ((xl.length : Int) - i).toNat | _ => 0, ⟨s_63, rfl, _, rfl, Ch.refl _ _, ?_⟩, ?_⟩
                ·
                  exact ⟨0, rfl, by omega⟩
                ·
                  intro i _ _ _ _ _ _ _ _ _ _ _ _ _ _ _ _ _ H_ hI_75
                  obtain ⟨s_74, rfl, i_, hvs, c_76, mm, rfl, hmm⟩ := hI_75
                  cases hvs
                  have z_77 := c_76.size
                  refine sB_d (fun hsB8 => ?_) (fun hsB8 => ?_)
                  ·
                    have h_78 := hxs.mv c_76 (tagn (by simp))
                    obtain ⟨a_79, rfl⟩ := h_78.ne_none (by simp [bvs_len, ivs_len]; omega)
                    refine nz_i ?_
                    refine ask_t (by omega) ?_
                    obtain ⟨nv, hnv⟩ : ∃ v, xl[mm]? = some v := ⟨xl[mm]'(by omega), by simp⟩
                    obtain ⟨hb1, hb2, hb3⟩ := hf2 kk2 xl hof (fun e => hsB7 (by rw [hn8, e]; rfl)) nv (List.mem_of_getElem? hnv)
                    refine ld_sl h_78 (by rw [Int.toNat_natCast, Nat.mul_one]; exact ivs_get hnv) ?_
                    refine dInt_i ?_
                    refine wr_t (by omega) ?_
                    refine ask_t (by omega) ?_
                    refine nm_a fun n339 hn339 => ?_
                    have qn339 := tmod_rng (by omega) (by omega) hn339
                    refine nz_i ?_
                    refine ask_t (by simp <;> omega) ?_
                    have hn9 := tmod8 (by omega) hn339
                    obtain ⟨row2, hs1, hs2, hs3⟩ := hf1 n339 (by omega) (by omega)
                    obtain ⟨p2, hp2⟩ : ∃ p, hscall5[n339.toNat]? = some p := ⟨hscall5[n339.toNat]'(by rw [hil]; show _ < (crashed _ _ _).length; omega), by simp⟩
                    have h_80 := h_72.mv c_76 (tagn (by simp))
                    have hby2 := (h_80).at_ _ _ _ hp2 hs1
                    obtain ⟨ra2, rc2⟩ := p2
                    have hrs2 : Sl s_74 ra2 (bvs row2) (M + 3) := hby2.sl
                    have h_81 := h_70.mv c_76 (tagn (by simp))
                    refine ld_sl (h_81).sl (by rw [Nat.mul_one]; exact (show _ = some (.slice ra2 128 rc2) from bcell hp2)) ?_
                    refine dSl_i ?_
                    refine wr_t (by omega) ?_
                    obtain ⟨a_82, rfl⟩ := hrs2.ne_none (by simp [bvs_len, ivs_len]; omega)
                    refine nz_i ?_
                    refine ask_t (by omega) ?_
                    refine ld_sl hrs2 (by rw [Nat.mul_one]; exact (show (bvs row2)[(nv - 1).toNat]? = some (bv (f n339 (nv - 1).toNat)) from by unfold bvs; rw [List.getElem?_map, hs3 _ (by omega)]; rfl)) ?_
                    refine dInt_i ?_
                    refine sB_d (fun hsB9 => ?_) (fun hsB9 => ?_)
                    ·
                      refine ret_t ?_
                      exact absurd (UInt8.toNat_inj.1 (show (f ((nv - 1) % 8) (nv - 1).toNat).toNat = (0 : UInt8).toNat from by rw [← hn9]; show _ = 0; omega)) hb3
                    ·
                      refine wr_t (by omega) ?_
                      refine ⟨⟨s_74, rfl, _, rfl, ((Ch.refl [] s_63).ch c_76 (by simp)), ?_⟩, ?_⟩
                      ·
                        exact ⟨mm + 1, by omega, by omega⟩
                      ·
                        simp only []; omega
                  ·
                    intro _
                    intros
                    refine wr_t (by omega) ?_
                    refine ⟨⟨s_74, rfl, _, rfl, (((Ch.refl [] s_58).ch c_65 (by simp)).ch c_76 (by simp)), ?_⟩, ?_⟩
                    ·
                      exact ⟨kk2 + 1, by omega, by omega⟩
                    ·
                      simp only []; omega
            ·
              refine ret_t ?_
              exact ⟨rfl, ((((((((((Ch.refl [U, U + 1, U + 3, U + 10, U + 11, U + 12, U + 13, U + 14, U + 20, U + 21, U + 22, U + 23, U + 30, U + 31, U + 32] s).fr c_4 hM (by simp)).ch c_9 (by simp)).fr c_12 hM (by simp)).fr c_15 hM (by simp)).ch c_20 (by simp)).fr c_24 hM (by simp)).fr c_56 hM (by simp)).fr c_61 hM (by simp)).ch c_65 (by simp))⟩
    ·
      intro K_83 hK_83
      refine ⟨fun vs H' => ∃ s' : TH, s'.h = H' ∧ ∃ i, vs = [.int .i64 i] ∧ Ch [U, U + 1, U + 3, U + 10, U + 11, U + 12, U + 13, U + 14, U + 20, U + 21, U + 22, U + 23, U + 30, U + 31, U + 32, M + 9] s_11 s' ∧ (∃ (kk : Nat) (V' : VolM), i = kk ∧ kk ≤ 30 ∧ kk ≤ on ∧ Ch2 (rows.map (·.l)) V V' ∧ V'.n ≤ kk ∧ VolL s' rcall2 dcall1 U V' 0), fun vs H' => match vs with | [.int .i64 i] => ((on : Int) - i).toNat | _ => 0, ⟨s_11, rfl, _, rfl, Ch.refl _ _, ?_⟩, ?_⟩
      ·
        exact ⟨0, V, rfl, by omega, by omega, ⟨hC.mks, hC.w⟩, by rw [hC.n]; omega, hv⟩
      ·
        intro i _ _ _ _ _ _ _ _ _ _ _ _ _ _ _ _ _ _ _ _ _ _ _ _ _ _ _ _ _ _ _ _ _ _ _ _ _ _ _ _ _ _ _ _ _ _ _ _ _ _ _ H_ hI_85
        obtain ⟨s_84, rfl, i_, hvs, c_86, kk, V', rfl, hk30, hkn, h2, hn0, hv2⟩ := hI_85
        cases hvs
        have z_87 := c_86.size
        refine sB_d (fun hsB10 => ?_) (fun hsB10 => ?_)
        ·
          refine jn_u ?_
          have h_88 := ho.mv (((c_4.app c_9).app c_12).app c_86) (tagn (by simp <;> omega))
          obtain ⟨a_89, rfl⟩ := h_88.ne_none (by simp [bvs_len, ivs_len]; omega)
          refine nz_i ?_
          refine ask_t (by omega) ?_
          refine ld_iv h_88 (by omega) (by omega) fun vel1 hel1 => ?_
          rw [Int.toNat_natCast] at hel1
          refine dInt_i ?_
          refine tcall (c_VReady _ _ _ _ τ _ (by omega) hv2 (by omega)) ?_
          rintro v_91 s_90 ⟨acall6, ccall6, rfl, c_93, call6a, call6b⟩
          have z_94 := c_93.size
          have hrb := ready_len (call6b).pok
          have hplst := (call6b).pok.lst
          refine dSl_i ?_
          refine sB_d (fun hsB11 => ?_) (fun hsB11 => ?_)
          ·
            refine hK_83 _ ⟨(((Ch.refl [U, U + 1, U + 3, U + 10, U + 11, U + 12, U + 13, U + 14, U + 20, U + 21, U + 22, U + 23, U + 30, U + 31, U + 32, M + 9] s_11).ch c_86 (by simp)).ch c_93 (by simp)), ?_⟩
            exact ⟨_, h2, call6b⟩
          ·
            refine jn_u ?_
            refine sB_d (fun hsB12 => ?_) (fun hsB12 => ?_)
            ·
              refine ask_t (by omega) ?_
              refine nm_a fun n520 hn520 => ?_
              intro _
              intros
              refine dBl_i ?_
              refine sB_nd (fun hsB13 => ?_) (fun hsB13 => ?_)
              ·
                refine wr_a fun n483 hn483 => ?_
                rw [wrap_u64] at hn483
                refine wr_a fun n484 hn484 => ?_
                rw [wrap_u64] at hn484
                refine ask_t (by omega) ?_
                refine nm_a fun n485 hn485 => ?_
                have qn485 := tmod_rng (by omega) (by omega) hn485
                refine wr_t (by omega) ?_
                obtain ⟨a_95, rfl⟩ := call6a.ne_none (by omega)
                refine nz_i ?_
                refine ask_t (by omega) ?_
                refine ld_iv call6a.sl (by omega) (by omega) fun vel2 hel2 => ?_
                refine dInt_i ?_
                refine tcall (c_VWrite _ _ _ _ _ _ (by omega) call6b (by omega)) ?_
                rintro v_97 s_96 ⟨rfl, c_99, call7a⟩
                have z_100 := c_99.size
                obtain ⟨hw1, hw2, hw3⟩ := h2.write (List.mem_of_getElem? hel2)
                rw [hw1]
                refine dInt_i ?_
                refine sB_f (by rfl) ?_
                intro _
                intros
                refine wr_t (by omega) ?_
                refine ⟨⟨s_96, rfl, _, rfl, ((((Ch.refl [U, U + 1, U + 3, U + 10, U + 11, U + 12, U + 13, U + 14, U + 20, U + 21, U + 22, U + 23, U + 30, U + 31, U + 32, M + 9] s_11).ch c_86 (by simp)).ch c_93 (by simp)).ch c_99 (by simp)), ?_⟩, ?_⟩
                ·
                  exact ⟨kk + 1, _, by omega, by omega, by omega, hw2, by rw [hw3]; omega, call7a⟩
                ·
                  simp only []; omega
              ·
                refine tcall (c_VWay _ _ _ _ τ _ (by omega) call6b (by omega)) ?_
                rintro v_102 s_101 ⟨acall8, ccall8, rfl, c_104, call8a, call8b⟩
                have z_105 := c_104.size
                have hwl := h2.wlen
                have hwb : V'.wayb.length = V'.way.length := by unfold VolM.wayb; rw [List.length_map]
                refine dSl_i ?_
                refine sB_d (fun hsB15 => ?_) (fun hsB15 => ?_)
                ·
                  refine wr_a fun n500 hn500 => ?_
                  rw [wrap_u64] at hn500
                  refine tcall (c_VWay _ _ _ _ τ _ (by omega) call8b (by omega)) ?_
                  rintro v_107 s_106 ⟨acall9, ccall9, rfl, c_109, call9a, call9b⟩
                  have z_110 := c_109.size
                  have hwl := h2.wlen
                  have hwb : V'.wayb.length = V'.way.length := by unfold VolM.wayb; rw [List.length_map]
                  refine dSl_i ?_
                  refine wr_a fun n506 hn506 => ?_
                  rw [wrap_u64] at hn506
                  refine ask_t (by omega) ?_
                  refine nm_a fun n507 hn507 => ?_
                  have qn507 := tmod_rng (by omega) (by omega) hn507
                  refine wr_t (by omega) ?_
                  refine ask_t (by omega) ?_
                  refine nm_a fun n509 hn509 => ?_
                  refine tcall (c_VComplete _ _ _ _ _ _ _ (by omega) call9b) ?_
                  rintro v_112 s_111 ⟨rfl, c_114, call10a⟩
                  have z_115 := c_114.size
                  have hcc := h2.compl n507 (n509 == 0)
                  refine dInt_i ?_
                  intro _
                  intros
                  refine wr_t (by omega) ?_
                  refine ⟨⟨s_111, rfl, _, rfl, ((((((Ch.refl [U, U + 1, U + 3, U + 10, U + 11, U + 12, U + 13, U + 14, U + 20, U + 21, U + 22, U + 23, U + 30, U + 31, U + 32, M + 9] s_11).ch c_86 (by simp)).ch c_93 (by simp)).ch c_104 (by simp)).ch c_109 (by simp)).ch c_114 (by simp)), ?_⟩, ?_⟩
                  ·
                    exact ⟨kk + 1, _, by omega, by omega, by omega, hcc.1, by rw [hcc.2]; omega, call10a⟩
                  ·
                    simp only []; omega
                ·
                  intro _
                  intros
                  refine wr_t (by omega) ?_
                  refine ⟨⟨s_101, rfl, _, rfl, ((((Ch.refl [U, U + 1, U + 3, U + 10, U + 11, U + 12, U + 13, U + 14, U + 20, U + 21, U + 22, U + 23, U + 30, U + 31, U + 32, M + 9] s_11).ch c_86 (by simp)).ch c_93 (by simp)).ch c_104 (by simp)), ?_⟩, ?_⟩
                  ·
                    exact ⟨kk + 1, _, by omega, by omega, by omega, h2, by omega, call8b⟩
                  ·
                    simp only []; omega
            ·
              intro _
              intros
              refine dBl_i ?_
              refine sB_f (by rfl) ?_
              refine tcall (c_VWay _ _ _ _ τ _ (by omega) call6b (by omega)) ?_
              rintro v_117 s_116 ⟨acall11, ccall11, rfl, c_119, call11a, call11b⟩
              have z_120 := c_119.size
              have hwl := h2.wlen
              have hwb : V'.wayb.length = V'.way.length := by unfold VolM.wayb; rw [List.length_map]
              refine dSl_i ?_
              refine sB_d (fun hsB17 => ?_) (fun hsB17 => ?_)
              ·
                refine wr_a fun n500 hn500 => ?_
                rw [wrap_u64] at hn500
                refine tcall (c_VWay _ _ _ _ τ _ (by omega) call11b (by omega)) ?_
                rintro v_122 s_121 ⟨acall12, ccall12, rfl, c_124, call12a, call12b⟩
                have z_125 := c_124.size
                have hwl := h2.wlen
                have hwb : V'.wayb.length = V'.way.length := by unfold VolM.wayb; rw [List.length_map]
                refine dSl_i ?_
                refine wr_a fun n506 hn506 => ?_
                rw [wrap_u64] at hn506
                refine ask_t (by omega) ?_
                refine nm_a fun n507 hn507 => ?_
                have qn507 := tmod_rng (by omega) (by omega) hn507
                refine wr_t (by omega) ?_
                refine ask_t (by omega) ?_
                refine nm_a fun n509 hn509 => ?_
                refine tcall (c_VComplete _ _ _ _ _ _ _ (by omega) call12b) ?_
                rintro v_127 s_126 ⟨rfl, c_129, call13a⟩
                have z_130 := c_129.size
                have hcc := h2.compl n507 (n509 == 0)
                refine dInt_i ?_
                intro _
                intros
                refine wr_t (by omega) ?_
                refine ⟨⟨s_126, rfl, _, rfl, ((((((Ch.refl [U, U + 1, U + 3, U + 10, U + 11, U + 12, U + 13, U + 14, U + 20, U + 21, U + 22, U + 23, U + 30, U + 31, U + 32, M + 9] s_11).ch c_86 (by simp)).ch c_93 (by simp)).ch c_119 (by simp)).ch c_124 (by simp)).ch c_129 (by simp)), ?_⟩, ?_⟩
                ·
                  exact ⟨kk + 1, _, by omega, by omega, by omega, hcc.1, by rw [hcc.2]; omega, call13a⟩
                ·
                  simp only []; omega
              ·
                intro _
                intros
                refine wr_t (by omega) ?_
                refine ⟨⟨s_116, rfl, _, rfl, ((((Ch.refl [U, U + 1, U + 3, U + 10, U + 11, U + 12, U + 13, U + 14, U + 20, U + 21, U + 22, U + 23, U + 30, U + 31, U + 32, M + 9] s_11).ch c_86 (by simp)).ch c_93 (by simp)).ch c_119 (by simp)), ?_⟩, ?_⟩
                ·
                  exact ⟨kk + 1, _, by omega, by omega, by omega, h2, by omega, call11b⟩
                ·
                  simp only []; omega
        ·
          refine hK_83 _ ⟨((Ch.refl [U, U + 1, U + 3, U + 10, U + 11, U + 12, U + 13, U + 14, U + 20, U + 21, U + 22, U + 23, U + 30, U + 31, U + 32, M + 9] s_11).ch c_86 (by simp)), ?_⟩
          exact ⟨_, h2, hv2⟩
  ·
    intro K_131 hK_131
    refine ⟨fun vs H' => ∃ s' : TH, s'.h = H' ∧ ∃ pa pn pc i, vs = [.slice pa pn pc, .int .i64 i] ∧ Ch [U, U + 1, U + 3, U + 10, U + 11, U + 12, U + 13, U + 14, U + 20, U + 21, U + 22, U + 23, U + 30, U + 31, U + 32, M + 2, M + 9] s_6 s' ∧ (∃ (rows : List NV) (V : VolM), i = rows.length ∧ pn = rows.length ∧ rows.length ≤ 60 ∧ rows.length ≤ n ∧ Ch1 (rows.map (·.l)) V ∧ Own s' pa pn pc 73 1 (rows.flatMap nv1) (M + 2) ∧ Nss s' (M + 20) rows ∧ VolL s' rcall2 dcall1 U V 0), fun vs H' => match vs with | [.slice pa pn pc, .int .i64 i] => ((n : Int) - i).toNat | _ => 0, ⟨s_6, rfl, _, _, _, _, rfl, Ch.refl _ _, ?_⟩, ?_⟩
    ·
      exact ⟨[], _, rfl, rfl, by simp, by simp, Ch1.start, Own.nil _ _ _ _, Nss.nil _ _, call2a⟩
    ·
      intro pa pn pc i _ _ _ _ _ _ _ _ _ _ _ _ _ _ _ _ _ _ _ _ _ _ _ _ _ _ _ _ _ _ _ _ _ _ _ _ _ _ _ _ _ _ _ _ _ _ _ _ _ _ _ _ _ _ _ H_ hI_133
      obtain ⟨s_132, rfl, pa_, pn_, pc_, i_, hvs, c_134, rows, V, rfl, rfl, hr60, hrn, hC, hro, hns, hv⟩ := hI_133
      cases hvs
      have z_135 := c_134.size
      refine sB_d (fun hsB18 => ?_) (fun hsB18 => ?_)
      ·
        obtain ⟨a_1, rfl⟩ := Option.ne_none_iff_exists'.1 (fun e => absurd (ha e) (by omega))
        refine nz_i ?_
        refine ask_t (by omega) ?_
        obtain ⟨x, hx⟩ : ∃ x, ls[rows.length]? = some x := ⟨ls[rows.length]'(by omega), by simp⟩
        have h_136 := hd.mv ((c_4.app c_9).app c_134) (tagn (by simp <;> omega))
        obtain ⟨hxs0, hxz, hxlen⟩ := (h_136).at_ x (List.mem_of_getElem? hx)
        obtain ⟨xa, xc, xl⟩ := x
        have hxs : Sl s_132 xa (ivs xl) τ := hxs0
        have hxlen2 : xl.length ≤ 17592186043904 := hxlen
        have h_137 := hq.mv ((c_4.app c_9).app c_134) (tagn (by simp <;> omega))
        refine ld_sl h_137 (by rw [Int.toNat_natCast, Nat.mul_one]; exact (show _ = some (.slice xa xl.length xc) from nvcell hx)) ?_
        refine dSl_i ?_
        refine sB_d (fun hsB19 => ?_) (fun hsB19 => ?_)
        ·
          refine hK_131 _ _ ⟨((Ch.refl [U, U + 1, U + 3, U + 10, U + 11, U + 12, U + 13, U + 14, U + 20, U + 21, U + 22, U + 23, U + 30, U + 31, U + 32, M + 2, M + 9] s_6).ch c_134 (by simp)), ?_⟩
          exact ⟨_, _, rows, V, rfl, hr60, hC, hro, hns, hv⟩
        ·
          obtain ⟨M2, hM2, hM20, hM2a, hM2b, hM2c, hM2d, hM2e, hM2f⟩ := fresh6 s_132 (M + 20) 0 0 0 0 0
          refine ⟨fun vs H' => ∃ s' : TH, s'.h = H' ∧ ∃ qa qn qc i, vs = [.slice qa qn qc, .int .i64 i] ∧ Ch [] s_132 s' ∧ (∃ (kk : Nat) (ids : List Int), i = kk ∧ kk ≤ xl.length ∧ qn = ids.length ∧ ids.length ≤ kk ∧ (∀ n ∈ ids, 1 ≤ n ∧ n ≤ rows.length) ∧ Own s' qa qn qc 3 1 (ivs ids) (M2 + 5)), fun vs H' => match vs with | [.slice qa qn qc, .int .i64 i] => ((xl.length : Int) - i).toNat | _ => 0, ⟨s_132, rfl, _, _, _, _, rfl, Ch.refl _ _, ?_⟩, ?_⟩
          ·
            exact ⟨0, [], rfl, by omega, rfl, by simp, fun n hn => (List.not_mem_nil hn).elim, Own.nil _ _ _ _⟩
          ·
            intro qa qn qc i _ _ _ _ _ _ _ _ _ _ _ _ _ _ _ _ _ H_ hI_139
            obtain ⟨s_138, rfl, qa_, qn_, qc_, i_, hvs, c_140, kk, ids, rfl, hkl, rfl, hil, hids, hio⟩ := hI_139
            cases hvs
            have z_141 := c_140.size
            refine sB_d (fun hsB20 => ?_) (fun hsB20 => ?_)
            ·
              refine jn_u ?_
              have h_142 := hxs.mv c_140 (tagn (by simp))
              obtain ⟨a_143, rfl⟩ := h_142.ne_none (by simp [bvs_len, ivs_len]; omega)
              refine nz_i ?_
              refine ask_t (by omega) ?_
              have h_144 := hxs0.mv c_140 (tagn (by simp))
              refine ld_iv h_144 (by omega) (by omega) fun vel3 hel3 => ?_
              rw [Int.toNat_natCast] at hel3
              refine dInt_i ?_
              refine sB_d (fun hsB21 => ?_) (fun hsB21 => ?_)
              ·
                refine wr_a fun n642 hn642 => ?_
                rw [wrap_u64] at hn642
                refine wr_a fun n643 hn643 => ?_
                rw [wrap_u64] at hn643
                refine ask_t (by omega) ?_
                refine nm_a fun n644 hn644 => ?_
                have qn644 := tmod_rng (by omega) (by omega) hn644
                refine wr_t (by omega) ?_
                refine wr_t (by omega) ?_
                refine al_t (M2 + 9) fun r647 s648 hr647 b_145 c_146 z_147 => ?_
                have h_150 := hio.mv c_146 (tagn (by simp))
                refine app_i1 u73 in3 h_150 b_145 (by omega) fun s_151 a_148 k_149 o_152 c_153 => ?_
                have z_154 := c_153.size
                refine dSl_i ?_
                intro _
                intros
                refine dSl_i ?_
                refine wr_t (by omega) ?_
                refine ⟨⟨s_151, rfl, _, _, _, _, rfl, ((((Ch.refl [] s_132).ch c_140 (by simp)).ch c_146 (by simp)).fr c_153 hM2 (by simp)), ?_⟩, ?_⟩
                ·
                  exact ⟨kk + 1, ids ++ [1 + n644], by omega, by omega, by rw [List.length_append]; rfl, by rw [List.length_append, List.length_singleton]; omega, fun n hn => by (rcases List.mem_append.1 hn with h | h; exact hids n h; rw [List.mem_singleton] at h; omega), o_152⟩
                ·
                  simp only []; omega
              ·
                intro _
                intros
                refine dSl_i ?_
                refine wr_t (by omega) ?_
                refine ⟨⟨s_138, rfl, _, _, _, _, rfl, ((Ch.refl [] s_132).ch c_140 (by simp)), ?_⟩, ?_⟩
                ·
                  exact ⟨kk + 1, ids, by omega, by omega, rfl, by omega, hids, hio⟩
                ·
                  simp only []; omega
            ·
              refine ask_t (by omega) ?_
              refine nm_a fun n656 hn656 => ?_
              have qn656 := tmod_rng (by omega) (by omega) hn656
              refine al_t (M + 9) fun r657 s658 hr657 b_155 c_156 z_157 => ?_
              have hn8 := tmod8 (by omega) hn656
              subst hn8
              have hlst := hC.mks.lst
              rw [List.length_map] at hlst
              have hbx : Sl s658 (some ⟨r657, 0, none⟩) (bvs [1]) (M + 9) := (b_155).sl
              have h_158 := hio.mv c_156 (tagn (by simp))
              have h_159 := hv.mv (c_140.app c_156) (rngn50 (by simp))
              refine tcall (c_VChange _ _ _ _ _ _ _ _ _ (by omega) h_159 hbx rfl (h_158).sl rfl (by omega) (by omega) (by rw [hC.n]; omega) (by omega)) ?_
              rintro v_161 s_160 ⟨rfl, c_163, call14a⟩
              have z_164 := c_163.size
              have hcg := hC.change (ids := ids) (by rw [List.length_map]; exact hids) (by rw [List.length_map]; omega)
              rw [List.length_map] at hcg
              rw [hcg.1, hcg.2.1]
              refine dT2 ?_
              refine dInt_i ?_
              refine dInt_i ?_
              refine jn_u ?_
              refine sB_f (by rfl) ?_
              refine wr_t (by omega) ?_
              intro _
              intros
              refine dBl_i ?_
              refine sB_nd (fun hsB23 => by exfalso; omega) (fun hsB23 => ?_)
              refine al_t (M + 9) fun r675 s676 hr675 b_165 c_166 z_167 => ?_
              have h_168 := hro.mv (((c_140.app c_156).app c_163).app c_166) (tagn (by simp <;> omega))
              refine app_i u84 inS73 rfl h_168 (b_165).sl (m := 1) (k := 1) rfl (by intro u hu; simp at hu; subst hu; rfl) (by simp) (by unfold maxLen; omega) fun s_169 pa2 pc2 rows_172 c_170o _ => ?_
              have c_170 := c_170o.ch h_168 (T := [M + 2]) (by simp)
              have z_171 := c_170.size
              refine dSl_i ?_
              refine wr_t (by omega) ?_
              refine ⟨⟨s_169, rfl, _, _, _, _, rfl, (((((((Ch.refl [U, U + 1, U + 3, U + 10, U + 11, U + 12, U + 13, U + 14, U + 20, U + 21, U + 22, U + 23, U + 30, U + 31, U + 32, M + 2, M + 9] s_6).ch c_134 (by simp)).ch c_140 (by simp)).ch c_156 (by simp)).ch c_163 (by simp)).ch c_166 (by simp)).ch c_170 (by simp)), ?_⟩, ?_⟩
              ·
                have h_173 := hns.mv ((((c_140.app c_156).app c_163).app c_166).app c_170) (rngnUp (by simp <;> omega))
                have h_174 := h_158.mv ((c_163.app c_166).app c_170) (tagn (by simp <;> omega))
                have h_175 := call14a.mv (c_166.app c_170) (rngn50 (by simp <;> omega))
                have hrr := rows_172
                exact ⟨rows ++ [⟨qa, qc, ids⟩], _, by rw [List.length_append, List.length_singleton]; omega, by rw [List.length_append, List.length_singleton], by rw [List.length_append, List.length_singleton]; omega, by rw [List.length_append, List.length_singleton]; omega, by rw [List.map_append]; exact hcg.2.2, by simpa [nv1] using hrr, (h_173).snoc (σ := M2 + 5) (by omega) (h_174).sl (by show ids.length ≤ _; omega), h_175⟩
              ·
                simp only []; omega
      ·
        refine hK_131 _ _ ⟨((Ch.refl [U, U + 1, U + 3, U + 10, U + 11, U + 12, U + 13, U + 14, U + 20, U + 21, U + 22, U + 23, U + 30, U + 31, U + 32, M + 2, M + 9] s_6).ch c_134 (by simp)), ?_⟩
        exact ⟨_, _, rows, V, rfl, hr60, hC, hro, hns, hv⟩
end Go.Proofs.YtngploohhmfaiaaGreat.E
/- What a law's arguments are, with the form's own reach: no slice takes more bytes than a process has. -/
namespace Go.Proofs.YtngploohhmfaiaaGreat.E
open Go Go.WideShapes Go.ChangeShapes
set_option linter.unusedVariables false
section
variable {H : Type} {enc : TypeId × Value → H} {P : Program} {W : World} {t e : TypeId} {row : List Value}
theorem weightsEach_get {B : Nat} : ∀ {ts : List TypeId} {ds : List (DataW H)} {i : Nat} {t : TypeId} {d : DataW H}, ts[i]? = some t → ds[i]? = some d → (∀ x ∈ DataW.weightsEach P ts ds, x ≤ B) → ∀ x ∈ d.weights P t, x ≤ B
  | [], _, i, t, d, h1, _, _ => by simp at h1
  | t0 :: ts, [], i, t, d, _, h2, _ => by simp at h2
  | t0 :: ts, d0 :: ds, 0, t, d, h1, h2, h => by
    simp at h1 h2; subst h1 h2
    intro x hx; exact h x (by unfold DataW.weightsEach; exact List.mem_append_left _ hx)
  | t0 :: ts, d0 :: ds, i + 1, t, d, h1, h2, h => by
    simp at h1 h2
    exact weightsEach_get h1 h2 fun x hx => h x (by unfold DataW.weightsEach; exact List.mem_append_right _ hx)
theorem weightsAll_mem {B : Nat} : ∀ {ds : List (DataW H)} {d : DataW H}, d ∈ ds → (∀ x ∈ DataW.weightsAll P e ds, x ≤ B) → ∀ x ∈ d.weights P e, x ≤ B
  | d0 :: ds, d, hd, h => by
    rcases List.mem_cons.1 hd with rfl | hd
    · intro x hx; exact h x (by unfold DataW.weightsAll; exact List.mem_append_left _ hx)
    · exact weightsAll_mem hd fun x hx => h x (by unfold DataW.weightsAll; exact List.mem_append_right _ hx)
theorem weights_all {ts : List TypeId} {ds : List (DataW H)} (h : (DataW.weightsEach P ts ds).all (· ≤ reachBytes) = true) : ∀ x ∈ DataW.weightsEach P ts ds, x ≤ reachBytes := fun x hx => by
  have := List.all_eq_true.1 h x hx; simpa using this
/-- a row of cells that reads as a value of a type, nothing in it too large -/
def Rdw {H : Type} (enc : TypeId × Value → H) (P : Program) (W : World) (t : TypeId) (row : List Value) : Prop := ∃ fuel y, DataW.trod enc P W 0 (fun _ => true) true fuel t row = some y ∧ ∀ x ∈ y.1.weights P t, x ≤ reachBytes
theorem Rdw.rd (h : Rdw enc P W t row) : Rd enc P W t row := by obtain ⟨f, y, h, _⟩ := h; exact ⟨f, y, h⟩
theorem rdw_of {v : Value} {d : DataW H} {ps : List MemPlace} (h : DataW.Trod enc P W 0 (fun _ => true) true t v d ps) (hw : ∀ x ∈ d.weights P t, x ≤ reachBytes) : Rdw enc P W t v.cells.toList := by
  obtain ⟨f, h⟩ := h; exact ⟨f, _, h, hw⟩
theorem rdw_sl (ht : P.underlying t = some (.slice e)) (h : Rdw enc P W t row) : ∃ (a : Option Addr) (n c : Nat) (rows : List (List Value)), row = [.slice a n c] ∧ n ≤ c ∧ n * P.bytesOf e ≤ reachBytes ∧ (a = none → n = 0) ∧ rows.length = n ∧ (∀ r ∈ rows, r.length = P.cellsOf e ∧ Rdw enc P W e r) ∧ Sl ⟨W.heap, fun _ => 0⟩ a rows.flatten 0 := by
  obtain ⟨f, y, h, hw⟩ := h
  rcases DataW.trod_slice ht h with ⟨h0, _⟩ | ⟨a, len, cap, elems, rest, n, rfl, rfl, rfl, hb, hl, hm, hlen, hel, _⟩
  · exact ⟨none, 0, 0, [], h0, by omega, by simp, fun _ => rfl, rfl, fun r hr => (List.not_mem_nil hr).elim, .inl rfl⟩
  · unfold DataW.weights at hw
    rw [ht] at hw
    simp only [List.length_map] at hw
    have hbig : len * P.bytesOf e ≤ reachBytes := by
      have h1 := hw ((elems.length + rest.length) * P.bytesOf e) (by simp)
      have h2 : len * P.bytesOf e ≤ (elems.length + rest.length) * P.bytesOf e := Nat.mul_le_mul_right _ (by omega)
      omega
    have hrow : ∀ i, i < len → ∃ r, W.cells? 0 (a.add (i * P.cellsOf e)) (P.cellsOf e) = some r ∧ Rdw enc P W e r := fun i hi => by
      have h1 := hel i hi
      rw [List.getElem?_eq_getElem (by omega)] at h1
      obtain ⟨r, h2, h3⟩ := Option.bind_eq_some_iff.1 h1
      refine ⟨r, h2, n, _, h3, weightsAll_mem (ds := elems.map (·.1)) (List.mem_map.2 ⟨_, List.getElem_mem _, rfl⟩) fun x hx => hw x ?_⟩
      exact List.mem_cons_of_mem _ (List.mem_append_left _ hx)
    let rows := (List.range len).map fun i => (W.cells? 0 (a.add (i * P.cellsOf e)) (P.cellsOf e)).getD []
    have hget : ∀ i r, rows[i]? = some r → W.cells? 0 (a.add (i * P.cellsOf e)) (P.cellsOf e) = some r ∧ Rdw enc P W e r := fun i r hr => by
      have hi : i < len := by
        have := (List.getElem?_eq_some_iff.1 hr).1
        simpa [rows] using this
      obtain ⟨r', h1, h2⟩ := hrow i hi
      simp [rows, hi, h1] at hr
      subst hr; exact ⟨h1, h2⟩
    have hmem : ∀ r ∈ rows, r.length = P.cellsOf e ∧ Rdw enc P W e r := fun r hr => by
      obtain ⟨i, hi⟩ := List.getElem?_of_mem hr
      obtain ⟨h1, h2⟩ := hget i r hi
      exact ⟨(World.cells?_some h1).2.1, h2⟩
    exact ⟨some a, len, cap, rows, rfl, hl, hbig, (fun h => by cases h), by simp [rows], hmem, sl_rows (fun r hr => (hmem r hr).1) fun i r hr m hm => (World.cells?_some (hget i r hr).1).2.2 m hm⟩
theorem rdw_ints (ht : P.underlying t = some (.slice e)) (he : P.underlying e = some (.int .i64)) (h8 : P.bytesOf e = 8) (h : Rdw enc P W t row) : ∃ (a : Option Addr) (n c : Nat) (ls : List Int), row = [.slice a n c] ∧ n ≤ c ∧ n ≤ 17592186043904 ∧ (a = none → n = 0) ∧ ls.length = n ∧ Sl ⟨W.heap, fun _ => 0⟩ a (ivs ls) 0 := by
  obtain ⟨a, n, c, ls, h1, h2, _, h3, h4, h5, _⟩ := rd_ints ht he h.rd
  obtain ⟨a', n', c', _, g1, _, g3, _⟩ := rdw_sl ht h
  rw [h1] at g1
  cases g1
  rw [h8] at g3
  unfold reachBytes at g3
  exact ⟨a, n, c, ls, h1, h2, by omega, h3, h4, h5⟩
end
theorem rih_sized {H : Type} {enc : TypeId × Value → H} {a : Assume} {C : Checked} {os : Os} {f : FuncId} {fn : Func} {s : ChangeSpec} {conds : List PathCond} {apart fresh handsOn again : Bool}
    (own : ownKnob C.prog.godebug = none) (started : os.Started) (noInit : C.prog.inits.idxOf? f = none) (hfn : C.prog.funcs[f]? = some fn)
    (witness : ∃ (w : World) (tape : Tape) (i : Input), w.os = os ∧ (w.forCall tape i).Shaped C.prog ∧ i.vars = [] ∧ Input.okWide C.prog (w.forCall tape i) .any w.heap.size f i ∧
      s.pre6 enc C.prog fn conds apart (w.forCall tape i).memory i.args ∧ a.holds C.prog (lone (Frame.enter C.prog f i.args .normal) [] (w.forCall tape i)))
    (contract : ∀ (W : World) (base : Nat) (args : Array Value) (ds gs : List (DataW H)) (before : List MemPlace),
      (∀ (j : Nat) t v, fn.params[j]? = some t → args[j]? = some v → Value.okWide C.prog W .any base t v) →
      DataW.Whole enc C.prog fn.params.toList s.vars apart W args.toList ds gs before →
      (DataW.weightsEach C.prog (fn.params.toList ++ s.plain.varTypes C.prog) (ds ++ gs)).all (· ≤ reachBytes) = true →
      Calls C.prog f args W fun e W' => ∃ v, e = .returned v ∧ s.post enc C.prog fn apart fresh handsOn again W args v W') :
    ReturnsInHanded a C os f .any (s.pre6 enc C.prog fn conds apart) (s.post enc C.prog fn apart fresh handsOn again) := by
  refine returnsInHanded_of_calls own started noInit witness ?_
  intro w tape i _ _ _ hok hpre _
  obtain ⟨_, _, _, fn', hfn', _, _, _, _, hval⟩ := hok
  have e : fn' = fn := Option.some.inj (hfn'.symm.trans hfn)
  subst e
  obtain ⟨⟨ds, gs, before, hw, _⟩, hz⟩ := hpre
  have hw' := DataW.Whole.of_heap (w' := w.forCall tape i) (by rfl) hw
  refine (contract (w.forCall tape i) w.heap.size i.args ds gs before hval hw' (hz.weights hw)).mono fun e W' ⟨v, he, hp⟩ => ?_
  subst he
  exact ChangeSpec.post_blind hp
end Go.Proofs.YtngploohhmfaiaaGreat.E
/- Rows of whole numbers, as an argument. -/
namespace Go.Proofs.YtngploohhmfaiaaGreat.E
open Go Go.WideShapes
set_option linter.unusedVariables false
theorem rdw_ns {H : Type} {enc : TypeId × Value → H} {W : World} : ∀ {rows : List (List Value)}, (∀ r ∈ rows, r.length = Tryz.prog.cellsOf 73 ∧ Rdw enc Tryz.prog W 73 r) → ∃ ls : List NV, ls.length = rows.length ∧ rows.flatten = ls.flatMap nv1 ∧ Nsi ⟨W.heap, fun _ => 0⟩ 0 ls
  | [], _ => ⟨[], rfl, rfl, ⟨fun x hx => (List.not_mem_nil hx).elim⟩⟩
  | r :: rows, h => by
    obtain ⟨ls, h1, h2, h3⟩ := rdw_ns (rows := rows) fun r' h' => h r' (List.mem_cons_of_mem _ h')
    obtain ⟨a, n, c, l, e, n1, n2, n3, n4, n5⟩ := rdw_ints Tryz.underlying73 Tryz.underlying3 (by kernel_rfl) (h r (by simp)).2
    subst n4
    refine ⟨⟨a, c, l⟩ :: ls, by simp [h1], by rw [List.flatten_cons, h2, e]; rfl, ⟨fun y hy => ?_⟩⟩
    rcases List.mem_cons.1 hy with rfl | hy
    · exact ⟨n5, n3, n2⟩
    · exact h3.at_ y hy
end Go.Proofs.YtngploohhmfaiaaGreat.E
/- The closed facts of a row, one by one. -/
namespace Go.Proofs.YtngploohhmfaiaaGreat.E
open Go
def kindsOf (P : Program) (fn : Func) (c : OpenClaim) : List (Option IntKind) := if c.domain.isEmpty then [] else fn.params.toList.map fun t => match P.underlying t with | some (.int k) => some k | _ => none
theorem andb {a b : Bool} (h : a = true) (k : b = true) : (a && b) = true := by rw [h, k]; rfl
theorem joined_of {P : Program} {f : FuncId} {fn : Func} {s : ChangeSpec} {c : OpenClaim}
    (j0 : (c.wf (OpenSpec.ofChange s)) = true)
    (j1 : (laidOutB P) = true)
    (j2 : (mapsRowed P) = true)
    (j3 : (fn.params.all (P.readableRec ·)) = true)
    (j4 : (namedTie P c.named s.vars) = true)
    (j5 : ((c.stops == [])) = true)
    (j6 : ((P.stops == [])) = true)
    (j7 : ((c.knobs == [])) = true)
    (j8 : ((P.stopKnobs == [])) = true)
    (j9 : ((c.inPlace == P.inPlace f)) = true)
    (j10 : ((c.unfollowed == P.unfollowed f)) = true)
    (j11 : ((c.recurses == P.recurses f)) = true)
    (j12 : ((c.named == P.varsNamed f)) = true)
    (j13 : ((c.maps == (fn.params.toList ++ s.plain.varTypes P).any (P.mapsRec ·))) = true)
    (j14 : ((c.ifaces == (fn.params.toList ++ s.plain.varTypes P).any (P.ifacesRec ·))) = true)
    (j15 : ((c.mapsOut == P.mapsAmong fn.resultTypes.toList)) = true)
    (j16 : ((c.loops == (fn.params.toList ++ s.plain.varTypes P).any (P.loopsFrom ·))) = true)
    (j17 : ((c.wideKeys == (fn.params.toList ++ s.plain.varTypes P ++ fn.resultTypes.toList).any (P.wideKeysFrom ·))) = true)
    (j18 : (s.vars.all (P.varReadable ·)) = true)
    (j19 : (fn.resultTypes.all (fun t => P.readableRec t && decide (t < P.types.size))) = true)
    (j20 : ((c.ifacesOut == fn.resultTypes.toList.any (P.ifacesRec ·))) = true)
    (j21 : ((c.loopsOut == fn.resultTypes.toList.any (P.loopsFrom ·))) = true)
    (j22 : ((c.plainKeys == P.plainKeys)) = true)
    (j23 : (c.shortTexts.isNone) = true)
    (j24 : (P.stopsHeard) = true)
    (j25 : (P.mayEnter) = true)
    (j26 : ((c.lifted == P.liftsFinal)) = true)
    (j27 : ((P.make == some c.make)) = true)
    (j28 : ((c.kinds == kindsOf P fn c)) = true)
    (j29 : ((c.pinned == c.pinnedBy)) = true)
    (j30 : ((c.veiled == (fn.params.toList ++ s.plain.varTypes P ++ fn.resultTypes.toList).any (P.veiledRec ·))) = true)
    (j31 : (c.veiledFits P fn.params.toList (fn.params.toList ++ s.plain.varTypes P ++ fn.resultTypes.toList)) = true)
    : joinedFacts P f fn s c = true := by
  unfold joinedFacts
  exact (andb (andb (andb (andb (andb (andb (andb (andb (andb (andb (andb (andb (andb (andb (andb (andb (andb (andb (andb (andb (andb (andb (andb (andb (andb (andb (andb (andb (andb (andb (andb j0 j1) j2) j3) j4) j5) j6) j7) j8) j9) j10) j11) j12) j13) j14) j15) j16) j17) j18) j19) j20) j21) j22) j23) j24) j25) j26) j27) j28) j29) j30) j31)
end Go.Proofs.YtngploohhmfaiaaGreat.E
