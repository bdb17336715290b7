/- Contracts of functions. -/
import Derived.Test.YtmgjdmohmhaemaaProg
import Derived.KernelRfl
import Derived.Test.YtmgjdmohmhaemaaLib2
import Derived.Test.YtmgjdmohmhaemaaCr
namespace Go.Proofs.Ytmgjdmohmhaemaa.E
open Go Go.Proofs Go.RowKit Go.Maps Go.Shelf Go.Sort
set_option linter.unusedVariables false
/-- maps.Keys[map[int]*bollard/cache.buffer,int,*bollard/cache.buffer] -/
theorem c_keys (r : Nat) (s : TH) : TRet Try.prog 67 #[.map (some r)] s fun v s' => ∃ B, v = .func (.func 105) #[] #[.pointer (some ⟨B, 0, none⟩)] ∧ Ch [] s s' ∧ Blk s' B [.map (some r)] 69 0 := by
  refine F67_calls _  ?_
  unfold F67
  refine al_t 0 fun r1 s2 hr1 b_1 c_2 z_3 => ?_
  refine ret_t ?_
  exact ⟨r1, rfl, ((Ch.refl [] s).ch c_2 (by simp)), b_1⟩

/-- (*bollard/cache.Cache).look -/
theorem c_clook (c T d Td : Nat) (C : CacheM) (D : DiskM) (b : Int) (s : TH) (hT : 10 ≤ T) (hTd : 10 ≤ Td) (hTT : T + 10 ≤ Td ∨ Td + 10 ≤ T) (hc : Cache s c T d C) (hd : Disk s d Td D) : TRet Try.prog 71 #[.pointer (some ⟨c, 0, none⟩), .int .i64 b] s fun v s' => v = .int .i64 (if D.has b then 0 else 1) ∧ Ch [] s s' := by
  obtain ⟨⟨r, m, bp, bh, hP⟩, ok⟩ := id hc
  have hcb := hP.blk
  have hcm := hP.map
  have hbu := hP.bufs
  have hby := hP.bufy
  refine F71_calls _ _  ?_
  unfold F71
  refine jn_u ?_
  refine sB_f (by rfl) ?_
  refine nz_i ?_
  first | refine ld_t hcb rfl ?_
  refine dMap_i ?_
  intro _ _ _ _ _ _ _ _
  refine dBl_i ?_
  refine sB_f (by rfl) ?_
  refine jn_u ?_
  refine sB_d (fun hsB3 => ?_) (fun hsB3 => ?_)
  ·
    intro _ _ _ _ _ _ _ _ _ _
    refine dBl_i ?_
    refine sB_t (by rfl) ?_
    refine ret_t ?_
    exact ⟨ret_i (by first | rw [if_pos (by unfold DiskM.has; omega)] | rw [if_neg (by unfold DiskM.has; omega)]), (Ch.refl [] s)⟩
  ·
    refine nz_i ?_
    first | refine ld_t hcb rfl ?_
    refine dPtr_i ?_
    refine tcall (c_blocks _ _ _ _ hTd hd) ?_
    rintro _ s30 ⟨rfl, c_1⟩
    have z_2 := c_1.size
    refine dInt_i ?_
    intro _ _ _ _ _ _ _ _ _ _
    refine dBl_i ?_
    refine sB_d (fun hsB5 => ?_) (fun hsB5 => ?_)
    ·
      refine ret_t ?_
      exact ⟨ret_i (by first | rw [if_pos (by unfold DiskM.has; omega)] | rw [if_neg (by unfold DiskM.has; omega)]), ((Ch.refl [] s).ch c_1 (by simp))⟩
    ·
      refine ret_t ?_
      exact ⟨ret_i (by first | rw [if_pos (by unfold DiskM.has; omega)] | rw [if_neg (by unfold DiskM.has; omega)]), ((Ch.refl [] s).ch c_1 (by simp))⟩

/-- (*bollard/cache.Cache).Held -/
theorem c_held (c T d : Nat) (C : CacheM) (τ : Nat) (s : TH) (hT : 10 ≤ T) (hc : Cache s c T d C) : TRet Try.prog 27 #[.pointer (some ⟨c, 0, none⟩)] s fun v s' => ∃ a c', v = .slice a C.l.length c' ∧ Ch [] s s' ∧ Own s' a C.l.length c' 3 1 (ivs (C.l.map (·.blk))) τ := by
  obtain ⟨⟨r, m, bp, bh, hP⟩, ok⟩ := id hc
  have hcb := hP.blk
  have hcm := hP.map
  have hbu := hP.bufs
  have hby := hP.bufy
  refine F27_calls _  ?_
  unfold F27
  refine al_t 0 fun r1 s2 hr1 b_1 c_2 z_3 => ?_
  refine ld_t b_1 rfl ?_
  refine dPtr_i ?_
  refine sB_f (by rfl) ?_
  refine ld_t b_1 rfl ?_
  refine dPtr_i ?_
  refine nz_i ?_
  have cb_4 := hcb.ch c_2 (by simp)
  first | refine ld_t cb_4 rfl ?_
  refine dMap_i ?_
  refine tcall (c_keys r _) ?_
  rintro _ s11 ⟨B, rfl, c_5, B_7⟩
  have z_6 := c_5.size
  have hU := (hP.usedAt ok).mv (((Ch.refl [] s).ch c_2 (by simp)).ch c_5 (by simp)) (tagn (by simp))
  have hml : m.length = C.l.length := by have := hP.mo.keys.length_eq; simpa using this
  have hmk : ∀ k ∈ m.map (·.1), inI64 k := fun k hk => by
    obtain ⟨x, hx, rfl⟩ := List.mem_map.1 (hP.mo.keys.mem_iff.1 hk)
    have := hP.mo.rng x hx
    unfold inI64; omega
  have hle := hP.len
  have hbn := hP.bnd
  have cm_8 := hcm.ch c_2 (by simp)
  have cm_9 := cm_8.ch c_5 (by simp)
  have r1_10 := b_1.ch c_5 (by simp)
  have cb_11 := cb_4.ch c_5 (by simp)
  refine tcall (c_sfun τ (usedOf C.l) B_7 cm_9 (by omega) hmk r1_10 cb_11 rfl hU) ?_
  rintro _ s13 ⟨a2, c2, ss, rfl, hss, c_12, o_14⟩
  have z_13 := c_12.size
  refine dSl_i ?_
  refine ret_t ?_
  have ho := o_14
  rw [sorted_keys hP.mo.nd ok.srt (hss.trans hP.mo.keys), hml] at ho
  rw [hml]
  exact ⟨a2, c2, rfl, ((((Ch.refl [] s).ch c_2 (by simp)).ch c_5 (by simp)).ch c_12 (by simp)), ho⟩

end Go.Proofs.Ytmgjdmohmhaemaa.E
