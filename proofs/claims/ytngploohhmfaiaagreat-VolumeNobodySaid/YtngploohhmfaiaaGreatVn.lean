/- Contracts of functions. -/
import Derived.Test.YtngploohhmfaiaaGreatProg
import Derived.KernelRfl
import Derived.Test.YtngploohhmfaiaaGreatLib2
import Derived.Test.YtngploohhmfaiaaGreatF14
import Derived.Test.YtngploohhmfaiaaGreatFm0
import Derived.Test.YtngploohhmfaiaaGreatFm1
import Derived.Test.YtngploohhmfaiaaGreatFm10
import Derived.Test.YtngploohhmfaiaaGreatFm11
import Derived.Test.YtngploohhmfaiaaGreatFm12
import Derived.Test.YtngploohhmfaiaaGreatFm2
import Derived.Test.YtngploohhmfaiaaGreatFm3
import Derived.Test.YtngploohhmfaiaaGreatFm4
import Derived.Test.YtngploohhmfaiaaGreatFm5
import Derived.Test.YtngploohhmfaiaaGreatFm6
import Derived.Test.YtngploohhmfaiaaGreatFm7
import Derived.Test.YtngploohhmfaiaaGreatFm8
import Derived.Test.YtngploohhmfaiaaGreatFm9
import Derived.Test.YtngploohhmfaiaaGreatLib9
import Derived.Test.YtngploohhmfaiaaGreatMu
namespace Go.Proofs.YtngploohhmfaiaaGreat.E
open Go Go.Proofs
set_option linter.unusedVariables false
/-- (*bollard/volume.Volume).held -/
theorem o_vheldn (s : TH) : TRet Tryz.prog 68 #[.pointer none] s fun v s' => v = .bool false ∧ Ch [] s s' := by
  refine F68_calls _  ?_
  unfold F68
  refine sB_t (by rfl) ?_
  refine ret_t ?_
  exact ⟨rfl, (Ch.refl [] s)⟩

/-- (*bollard/volume.Volume).held -/
theorem o_vheldz (r τ : Nat) (s : TH) (hr : Blk s r [.int .i32 0, .int .u32 0, .pointer none, .pointer none, .pointer none, .map none, .bool false, .bool false, .int .i64 0, .map none] 57 τ) : TRet Tryz.prog 68 #[.pointer (some ⟨r, 0, none⟩)] s fun v s' => v = .bool false ∧ Ch [τ] s s' ∧ Blk s' r [.int .i32 0, .int .u32 0, .pointer none, .pointer none, .pointer none, .map none, .bool false, .bool false, .int .i64 0, .map none] 57 τ := by
  refine F68_calls _  ?_
  unfold F68
  refine sB_f (by rfl) ?_
  refine nz_i ?_
  refine tcall (c_mlock Tryz.muLib hr rfl) ?_
  rintro _ s3 ⟨rfl, c_1, v_3⟩
  have z_2 := c_1.size
  refine nz_i ?_
  refine ld_t v_3 rfl ?_
  refine dPtr_i ?_
  refine sB_t (by rfl) ?_
  refine nz_i ?_
  refine tcall (c_munlock Tryz.muLib v_3 rfl) ?_
  rintro _ s9 ⟨rfl, c_4, v_6⟩
  have z_5 := c_4.size
  refine ret_t ?_
  exact ⟨rfl, (((Ch.refl [τ] s).ch c_1 (by simp)).ch c_4 (by simp)), v_6⟩


/-- a volume that no call made -/
structure NoV (s : TH) (p : Option Addr) (τ : Nat) : Prop where
  h : p = none ∨ ∃ c, p = some ⟨c, 0, none⟩ ∧ Blk s c [.int .i32 0, .int .u32 0, .pointer none, .pointer none, .pointer none, .map none, .bool false, .bool false, .int .i64 0, .map none] 57 τ
theorem NoV.mv {s s' : TH} {p : Option Addr} {τ : Nat} {B : Nat → Prop} (h : NoV s p τ) (c : Chg B s s') (hn : ∀ j, j < s.h.size → s.g j = τ → ¬ B j) : NoV s' p τ := by
  rcases h.h with h | ⟨r, h1, h2⟩
  · exact ⟨.inl h⟩
  · exact ⟨.inr ⟨r, h1, h2.mv c (hn r h2.lt h2.tag)⟩⟩
theorem o_vheldb (r τ : Nat) {s : TH} (hr : Blk s r [.int .i32 0, .int .u32 0, .pointer none, .pointer none, .pointer none, .map none, .bool false, .bool false, .int .i64 0, .map none] 57 τ) : TRet Tryz.prog 68 #[.pointer (some ⟨r, 0, none⟩)] s fun v s' => v = .bool false ∧ Ch [] s s' := by
  have h := o_vheldz r 1 ⟨s.h, fun j => if j = r then 1 else 0⟩ ⟨hr.get, by simp⟩
  refine HCalls.mono h fun e H' ⟨v, s1, he, hs, hv, hc, hb⟩ => ⟨v, ⟨s1.h, s.g⟩, he, hs, hv, ⟨hc.size, fun _ _ => rfl, fun j hj _ => ?_⟩⟩
  by_cases e : j = r
  · subst e
    exact hb.get.trans hr.get.symm
  · exact hc.get j hj (by simp [e])
theorem o_vheld (p : Option Addr) (τ : Nat) {s : TH} (h : NoV s p τ) : TRet Tryz.prog 68 #[.pointer p] s fun v s' => v = .bool false ∧ Ch [] s s' := by
  rcases h.h with rfl | ⟨c, rfl, hb⟩
  · exact o_vheldn s
  · exact o_vheldb c τ hb

/-- (*bollard/volume.Volume).Read -/
theorem o_VRead (b : Int) (p : Option Addr) (τ : Nat) {s : TH} (h : NoV s p τ) : TRet Tryz.prog 26 #[.pointer p, .int .i64 b] s fun v s' => v = .tuple #[.slice none 0 0, .int .i64 2] ∧ Ch [] s s' := by
  refine F26_calls _ _  ?_
  unfold F26
  refine tcall (o_vheld p τ h) ?_
  rintro _ s2 ⟨rfl, c_1⟩
  have z_2 := c_1.size
  refine dBl_i ?_
  refine sB_t (by rfl) ?_
  refine ret_t ?_
  exact ⟨rfl, ((Ch.refl [] s).ch c_1 (by simp))⟩

/-- (*bollard/volume.Volume).Change -/
theorem o_VChange (b k : Int) (xa : Option Addr) (xn xc : Nat) (ya : Option Addr) (yn yc : Nat) (p : Option Addr) (τ : Nat) {s : TH} (h : NoV s p τ) : TRet Tryz.prog 25 #[.pointer p, .int .i64 b, .int .i64 k, .slice xa xn xc, .slice ya yn yc] s fun v s' => v = .tuple #[.int .i64 0, .int .i64 2] ∧ Ch [] s s' := by
  refine F25_calls _ _ _ _ _ _ _ _ _  ?_
  unfold F25
  refine tcall (o_vheld p τ h) ?_
  rintro _ s2 ⟨rfl, c_1⟩
  have z_2 := c_1.size
  refine dBl_i ?_
  refine sB_t (by rfl) ?_
  refine ret_t ?_
  exact ⟨rfl, ((Ch.refl [] s).ch c_1 (by simp))⟩

/-- (*bollard/volume.Volume).Old -/
theorem o_VOld (b : Int) (p : Option Addr) (τ : Nat) {s : TH} (h : NoV s p τ) : TRet Tryz.prog 55 #[.pointer p, .int .i64 b] s fun v s' => v = .tuple #[.slice none 0 0, .int .i64 2] ∧ Ch [] s s' := by
  refine F55_calls _ _  ?_
  unfold F55
  refine tcall (o_vheld p τ h) ?_
  rintro _ s2 ⟨rfl, c_1⟩
  have z_2 := c_1.size
  refine dBl_i ?_
  refine sB_t (by rfl) ?_
  refine ret_t ?_
  exact ⟨rfl, ((Ch.refl [] s).ch c_1 (by simp))⟩

/-- (*bollard/volume.Volume).Undo -/
theorem o_VUndo (b : Int) (p : Option Addr) (τ : Nat) {s : TH} (h : NoV s p τ) : TRet Tryz.prog 54 #[.pointer p, .int .i64 b] s fun v s' => v = .int .i64 2 ∧ Ch [] s s' := by
  refine F54_calls _ _  ?_
  unfold F54
  refine tcall (o_vheld p τ h) ?_
  rintro _ s2 ⟨rfl, c_1⟩
  have z_2 := c_1.size
  refine dBl_i ?_
  refine sB_t (by rfl) ?_
  refine ret_t ?_
  exact ⟨rfl, ((Ch.refl [] s).ch c_1 (by simp))⟩

/-- (*bollard/volume.Volume).Write -/
theorem o_VWrite (b : Int) (p : Option Addr) (τ : Nat) {s : TH} (h : NoV s p τ) : TRet Tryz.prog 33 #[.pointer p, .int .i64 b] s fun v s' => v = .int .i64 2 ∧ Ch [] s s' := by
  refine F33_calls _ _  ?_
  unfold F33
  refine tcall (o_vheld p τ h) ?_
  rintro _ s2 ⟨rfl, c_1⟩
  have z_2 := c_1.size
  refine dBl_i ?_
  refine sB_t (by rfl) ?_
  refine ret_t ?_
  exact ⟨rfl, ((Ch.refl [] s).ch c_1 (by simp))⟩

/-- (*bollard/volume.Volume).Complete -/
theorem o_VComplete (b : Int) (u : Bool) (p : Option Addr) (τ : Nat) {s : TH} (h : NoV s p τ) : TRet Tryz.prog 35 #[.pointer p, .int .i64 b, .bool u] s fun v s' => v = .int .i64 2 ∧ Ch [] s s' := by
  refine F35_calls _ _ _  ?_
  unfold F35
  refine tcall (o_vheld p τ h) ?_
  rintro _ s2 ⟨rfl, c_1⟩
  have z_2 := c_1.size
  refine dBl_i ?_
  refine sB_t (by rfl) ?_
  refine ret_t ?_
  exact ⟨rfl, ((Ch.refl [] s).ch c_1 (by simp))⟩

/-- (*bollard/volume.Volume).Sync -/
theorem o_VSync (xa : Option Addr) (xn xc : Nat) (p : Option Addr) (τ : Nat) {s : TH} (h : NoV s p τ) : TRet Tryz.prog 59 #[.pointer p, .slice xa xn xc] s fun v s' => v = .int .i64 2 ∧ Ch [] s s' := by
  refine F59_calls _ _ _ _  ?_
  unfold F59
  refine tcall (o_vheld p τ h) ?_
  rintro _ s2 ⟨rfl, c_1⟩
  have z_2 := c_1.size
  refine dBl_i ?_
  refine sB_t (by rfl) ?_
  refine ret_t ?_
  exact ⟨rfl, ((Ch.refl [] s).ch c_1 (by simp))⟩

/-- (*bollard/volume.Volume).Freeze -/
theorem o_VFreeze (b : Int) (p : Option Addr) (τ : Nat) {s : TH} (h : NoV s p τ) : TRet Tryz.prog 51 #[.pointer p, .int .i64 b] s fun v s' => v = .int .i64 2 ∧ Ch [] s s' := by
  refine F51_calls _ _  ?_
  unfold F51
  refine tcall (o_vheld p τ h) ?_
  rintro _ s2 ⟨rfl, c_1⟩
  have z_2 := c_1.size
  refine dBl_i ?_
  refine sB_t (by rfl) ?_
  refine ret_t ?_
  exact ⟨rfl, ((Ch.refl [] s).ch c_1 (by simp))⟩

/-- (*bollard/volume.Volume).Thaw -/
theorem o_VThaw  (p : Option Addr) (τ : Nat) {s : TH} (h : NoV s p τ) : TRet Tryz.prog 61 #[.pointer p] s fun v s' => v = .int .i64 2 ∧ Ch [] s s' := by
  refine F61_calls _  ?_
  unfold F61
  refine tcall (o_vheld p τ h) ?_
  rintro _ s2 ⟨rfl, c_1⟩
  have z_2 := c_1.size
  refine dBl_i ?_
  refine sB_t (by rfl) ?_
  refine ret_t ?_
  exact ⟨rfl, ((Ch.refl [] s).ch c_1 (by simp))⟩

/-- (*bollard/volume.Volume).IsDone -/
theorem o_VIsDone (b : Int) (p : Option Addr) (τ : Nat) {s : TH} (h : NoV s p τ) : TRet Tryz.prog 60 #[.pointer p, .int .i64 b] s fun v s' => v = .bool false ∧ Ch [] s s' := by
  refine F60_calls _ _  ?_
  unfold F60
  refine tcall (o_vheld p τ h) ?_
  rintro _ s2 ⟨rfl, c_1⟩
  have z_2 := c_1.size
  refine dBl_i ?_
  refine sB_t (by rfl) ?_
  refine ret_t ?_
  exact ⟨rfl, ((Ch.refl [] s).ch c_1 (by simp))⟩

/-- (*bollard/volume.Volume).Broken -/
theorem o_VBroken  (p : Option Addr) (τ : Nat) {s : TH} (h : NoV s p τ) : TRet Tryz.prog 57 #[.pointer p] s fun v s' => v = .bool false ∧ Ch [] s s' := by
  refine F57_calls _  ?_
  unfold F57
  refine tcall (o_vheld p τ h) ?_
  rintro _ s2 ⟨rfl, c_1⟩
  have z_2 := c_1.size
  refine dBl_i ?_
  refine sB_t (by rfl) ?_
  refine ret_t ?_
  exact ⟨rfl, ((Ch.refl [] s).ch c_1 (by simp))⟩

/-- (*bollard/volume.Volume).Kept -/
theorem o_VKept  (p : Option Addr) (τ : Nat) {s : TH} (h : NoV s p τ) : TRet Tryz.prog 58 #[.pointer p] s fun v s' => v = .int .i64 0 ∧ Ch [] s s' := by
  refine F58_calls _  ?_
  unfold F58
  refine tcall (o_vheld p τ h) ?_
  rintro _ s2 ⟨rfl, c_1⟩
  have z_2 := c_1.size
  refine dBl_i ?_
  refine sB_t (by rfl) ?_
  refine ret_t ?_
  exact ⟨rfl, ((Ch.refl [] s).ch c_1 (by simp))⟩

/-- (*bollard/volume.Volume).Last -/
theorem o_VLast  (p : Option Addr) (τ : Nat) {s : TH} (h : NoV s p τ) : TRet Tryz.prog 52 #[.pointer p] s fun v s' => v = .int .i64 0 ∧ Ch [] s s' := by
  refine F52_calls _  ?_
  unfold F52
  refine tcall (o_vheld p τ h) ?_
  rintro _ s2 ⟨rfl, c_1⟩
  have z_2 := c_1.size
  refine dBl_i ?_
  refine sB_t (by rfl) ?_
  refine ret_t ?_
  exact ⟨rfl, ((Ch.refl [] s).ch c_1 (by simp))⟩

/-- (*bollard/volume.Volume).Blocks -/
theorem o_VBlocks  (p : Option Addr) (τ : Nat) {s : TH} (h : NoV s p τ) : TRet Tryz.prog 24 #[.pointer p] s fun v s' => v = .int .i64 0 ∧ Ch [] s s' := by
  refine F24_calls _  ?_
  unfold F24
  refine tcall (o_vheld p τ h) ?_
  rintro _ s2 ⟨rfl, c_1⟩
  have z_2 := c_1.size
  refine dBl_i ?_
  refine sB_t (by rfl) ?_
  refine ret_t ?_
  exact ⟨rfl, ((Ch.refl [] s).ch c_1 (by simp))⟩

/-- (*bollard/volume.Volume).Dirty -/
theorem o_VDirty  (p : Option Addr) (τ : Nat) {s : TH} (h : NoV s p τ) : TRet Tryz.prog 45 #[.pointer p] s fun v s' => v = .slice none 0 0 ∧ Ch [] s s' := by
  refine F45_calls _  ?_
  unfold F45
  refine tcall (o_vheld p τ h) ?_
  rintro _ s2 ⟨rfl, c_1⟩
  have z_2 := c_1.size
  refine dBl_i ?_
  refine sB_t (by rfl) ?_
  refine ret_t ?_
  exact ⟨rfl, ((Ch.refl [] s).ch c_1 (by simp))⟩

/-- (*bollard/volume.Volume).Pending -/
theorem o_VPending (b : Int) (p : Option Addr) (τ : Nat) {s : TH} (h : NoV s p τ) : TRet Tryz.prog 62 #[.pointer p, .int .i64 b] s fun v s' => v = .slice none 0 0 ∧ Ch [] s s' := by
  refine F62_calls _ _  ?_
  unfold F62
  refine tcall (o_vheld p τ h) ?_
  rintro _ s2 ⟨rfl, c_1⟩
  have z_2 := c_1.size
  refine dBl_i ?_
  refine sB_t (by rfl) ?_
  refine ret_t ?_
  exact ⟨rfl, ((Ch.refl [] s).ch c_1 (by simp))⟩

/-- (*bollard/volume.Volume).Ready -/
theorem o_VReady  (p : Option Addr) (τ : Nat) {s : TH} (h : NoV s p τ) : TRet Tryz.prog 32 #[.pointer p] s fun v s' => v = .slice none 0 0 ∧ Ch [] s s' := by
  refine F32_calls _  ?_
  unfold F32
  refine tcall (o_vheld p τ h) ?_
  rintro _ s2 ⟨rfl, c_1⟩
  have z_2 := c_1.size
  refine dBl_i ?_
  refine sB_t (by rfl) ?_
  refine ret_t ?_
  exact ⟨rfl, ((Ch.refl [] s).ch c_1 (by simp))⟩

/-- (*bollard/volume.Volume).Way -/
theorem o_VWay  (p : Option Addr) (τ : Nat) {s : TH} (h : NoV s p τ) : TRet Tryz.prog 34 #[.pointer p] s fun v s' => v = .slice none 0 0 ∧ Ch [] s s' := by
  refine F34_calls _  ?_
  unfold F34
  refine tcall (o_vheld p τ h) ?_
  rintro _ s2 ⟨rfl, c_1⟩
  have z_2 := c_1.size
  refine dBl_i ?_
  refine sB_t (by rfl) ?_
  refine ret_t ?_
  exact ⟨rfl, ((Ch.refl [] s).ch c_1 (by simp))⟩

end Go.Proofs.YtngploohhmfaiaaGreat.E
