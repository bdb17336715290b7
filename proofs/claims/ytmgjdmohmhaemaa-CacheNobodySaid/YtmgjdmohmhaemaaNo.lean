/- Contracts of functions. -/
import Derived.Test.YtmgjdmohmhaemaaProg
import Derived.KernelRfl
import Derived.Test.YtmgjdmohmhaemaaLib2
import Derived.Test.YtmgjdmohmhaemaaCa
namespace Go.Proofs.Ytmgjdmohmhaemaa.E
open Go Go.Proofs
set_option linter.unusedVariables false
/-- (*bollard/cache.Cache).look -/
theorem o_lookn (b : Int) (s : TH) : TRet Try.prog 71 #[.pointer none, .int .i64 b] s fun v s' => v = .int .i64 2 ∧ Ch [] s s' := by
  refine F71_calls _ _  ?_
  unfold F71
  refine jn_u ?_
  refine sB_t (by rfl) ?_
  intro _ _ _ _ _ _ _ _
  refine dBl_i ?_
  refine sB_t (by rfl) ?_
  refine ret_t ?_
  exact ⟨rfl, (Ch.refl [] s)⟩

/-- (*bollard/cache.Cache).get -/
theorem o_getn (b : Int) (s : TH) : TRet Try.prog 64 #[.pointer none, .int .i64 b] s fun v s' => v = .tuple #[.pointer none, .int .i64 2] ∧ Ch [] s s' := by
  refine F64_calls _ _  ?_
  unfold F64
  refine tcall (o_lookn _ _) ?_
  rintro _ s2 ⟨rfl, c_1⟩
  have z_2 := c_1.size
  refine dInt_i ?_
  refine sB_t (by rfl) ?_
  refine ret_t ?_
  exact ⟨rfl, ((Ch.refl [] s).ch c_1 (by simp))⟩

/-- (*bollard/cache.Cache).Get -/
theorem o_Getn (b : Int) (s : TH) : TRet Try.prog 23 #[.pointer none, .int .i64 b] s fun v s' => v = .tuple #[.slice none 0 0, .int .i64 2] ∧ Ch [] s s' := by
  refine F23_calls _ _  ?_
  unfold F23
  refine tcall (o_getn _ _) ?_
  rintro _ s2 ⟨rfl, c_1⟩
  have z_2 := c_1.size
  refine dT2 ?_
  refine dPtr_i ?_
  refine dInt_i ?_
  refine sB_t (by rfl) ?_
  refine ret_t ?_
  exact ⟨rfl, ((Ch.refl [] s).ch c_1 (by simp))⟩

/-- (*bollard/cache.Cache).Put -/
theorem o_Putn (b : Int) (xa : Option Addr) (xn xc : Nat) (s : TH) : TRet Try.prog 31 #[.pointer none, .int .i64 b, .slice xa xn xc] s fun v s' => v = .int .i64 2 ∧ Ch [] s s' := by
  refine F31_calls _ _ _ _ _  ?_
  unfold F31
  refine tcall (o_lookn _ _) ?_
  rintro _ s2 ⟨rfl, c_1⟩
  have z_2 := c_1.size
  refine dInt_i ?_
  refine sB_t (by rfl) ?_
  refine ret_t ?_
  exact ⟨rfl, ((Ch.refl [] s).ch c_1 (by simp))⟩

/-- (*bollard/cache.Cache).Drop -/
theorem o_Dropn (b : Int) (s : TH) : TRet Try.prog 35 #[.pointer none, .int .i64 b] s fun v s' => v = .int .i64 2 ∧ Ch [] s s' := by
  refine F35_calls _ _  ?_
  unfold F35
  refine tcall (o_lookn _ _) ?_
  rintro _ s2 ⟨rfl, c_1⟩
  have z_2 := c_1.size
  refine dInt_i ?_
  refine sB_t (by rfl) ?_
  refine ret_t ?_
  exact ⟨rfl, ((Ch.refl [] s).ch c_1 (by simp))⟩

/-- (*bollard/cache.Cache).Pin -/
theorem o_Pinn (b : Int) (s : TH) : TRet Try.prog 36 #[.pointer none, .int .i64 b] s fun v s' => v = .int .i64 2 ∧ Ch [] s s' := by
  refine F36_calls _ _  ?_
  unfold F36
  refine tcall (o_getn _ _) ?_
  rintro _ s2 ⟨rfl, c_1⟩
  have z_2 := c_1.size
  refine dT2 ?_
  refine dPtr_i ?_
  refine dInt_i ?_
  refine sB_t (by rfl) ?_
  refine ret_t ?_
  exact ⟨rfl, ((Ch.refl [] s).ch c_1 (by simp))⟩

/-- (*bollard/cache.Cache).Unpin -/
theorem o_Unpinn (b : Int) (s : TH) : TRet Try.prog 37 #[.pointer none, .int .i64 b] s fun v s' => v = .int .i64 2 ∧ Ch [] s s' := by
  refine F37_calls _ _  ?_
  unfold F37
  refine tcall (o_lookn _ _) ?_
  rintro _ s2 ⟨rfl, c_1⟩
  have z_2 := c_1.size
  refine dInt_i ?_
  refine sB_t (by rfl) ?_
  refine ret_t ?_
  exact ⟨rfl, ((Ch.refl [] s).ch c_1 (by simp))⟩

/-- (*bollard/cache.Cache).Hits -/
theorem o_Hitsn (s : TH) : TRet Try.prog 28 #[.pointer none] s fun v s' => v = .tuple #[.int .i64 0, .int .i64 0] ∧ Ch [] s s' := by
  refine F28_calls _  ?_
  unfold F28
  refine sB_t (by rfl) ?_
  refine ret_t ?_
  exact ⟨rfl, (Ch.refl [] s)⟩

/-- (*bollard/cache.Cache).look -/
theorem o_lookz (c τ : Nat) (b : Int) (s : TH) (hc : Blk s c [.pointer none, .int .i64 0, .map none, .int .i64 0, .int .i64 0, .int .i64 0] 71 τ) : TRet Try.prog 71 #[.pointer (some ⟨c, 0, none⟩), .int .i64 b] s fun v s' => v = .int .i64 2 ∧ Ch [] s s' := by
  refine F71_calls _ _  ?_
  unfold F71
  refine jn_u ?_
  refine sB_f (by rfl) ?_
  refine nz_i ?_
  refine ld_t hc rfl ?_
  refine dMap_i ?_
  intro _ _ _ _ _ _ _ _
  refine dBl_i ?_
  refine sB_t (by rfl) ?_
  refine ret_t ?_
  exact ⟨rfl, (Ch.refl [] s)⟩

/-- (*bollard/cache.Cache).get -/
theorem o_getz (c τ : Nat) (b : Int) (s : TH) (hc : Blk s c [.pointer none, .int .i64 0, .map none, .int .i64 0, .int .i64 0, .int .i64 0] 71 τ) : TRet Try.prog 64 #[.pointer (some ⟨c, 0, none⟩), .int .i64 b] s fun v s' => v = .tuple #[.pointer none, .int .i64 2] ∧ Ch [] s s' := by
  refine F64_calls _ _  ?_
  unfold F64
  refine tcall (o_lookz _ _ _ _ hc) ?_
  rintro _ s2 ⟨rfl, c_1⟩
  have z_2 := c_1.size
  refine dInt_i ?_
  refine sB_t (by rfl) ?_
  refine ret_t ?_
  exact ⟨rfl, ((Ch.refl [] s).ch c_1 (by simp))⟩

/-- (*bollard/cache.Cache).Get -/
theorem o_Getz (c τ : Nat) (b : Int) (s : TH) (hc : Blk s c [.pointer none, .int .i64 0, .map none, .int .i64 0, .int .i64 0, .int .i64 0] 71 τ) : TRet Try.prog 23 #[.pointer (some ⟨c, 0, none⟩), .int .i64 b] s fun v s' => v = .tuple #[.slice none 0 0, .int .i64 2] ∧ Ch [] s s' := by
  refine F23_calls _ _  ?_
  unfold F23
  refine tcall (o_getz _ _ _ _ hc) ?_
  rintro _ s2 ⟨rfl, c_1⟩
  have z_2 := c_1.size
  refine dT2 ?_
  refine dPtr_i ?_
  refine dInt_i ?_
  refine sB_t (by rfl) ?_
  refine ret_t ?_
  exact ⟨rfl, ((Ch.refl [] s).ch c_1 (by simp))⟩

/-- (*bollard/cache.Cache).Put -/
theorem o_Putz (c τ : Nat) (b : Int) (xa : Option Addr) (xn xc : Nat) (s : TH) (hc : Blk s c [.pointer none, .int .i64 0, .map none, .int .i64 0, .int .i64 0, .int .i64 0] 71 τ) : TRet Try.prog 31 #[.pointer (some ⟨c, 0, none⟩), .int .i64 b, .slice xa xn xc] s fun v s' => v = .int .i64 2 ∧ Ch [] s s' := by
  refine F31_calls _ _ _ _ _  ?_
  unfold F31
  refine tcall (o_lookz _ _ _ _ hc) ?_
  rintro _ s2 ⟨rfl, c_1⟩
  have z_2 := c_1.size
  refine dInt_i ?_
  refine sB_t (by rfl) ?_
  refine ret_t ?_
  exact ⟨rfl, ((Ch.refl [] s).ch c_1 (by simp))⟩

/-- (*bollard/cache.Cache).Drop -/
theorem o_Dropz (c τ : Nat) (b : Int) (s : TH) (hc : Blk s c [.pointer none, .int .i64 0, .map none, .int .i64 0, .int .i64 0, .int .i64 0] 71 τ) : TRet Try.prog 35 #[.pointer (some ⟨c, 0, none⟩), .int .i64 b] s fun v s' => v = .int .i64 2 ∧ Ch [] s s' := by
  refine F35_calls _ _  ?_
  unfold F35
  refine tcall (o_lookz _ _ _ _ hc) ?_
  rintro _ s2 ⟨rfl, c_1⟩
  have z_2 := c_1.size
  refine dInt_i ?_
  refine sB_t (by rfl) ?_
  refine ret_t ?_
  exact ⟨rfl, ((Ch.refl [] s).ch c_1 (by simp))⟩

/-- (*bollard/cache.Cache).Pin -/
theorem o_Pinz (c τ : Nat) (b : Int) (s : TH) (hc : Blk s c [.pointer none, .int .i64 0, .map none, .int .i64 0, .int .i64 0, .int .i64 0] 71 τ) : TRet Try.prog 36 #[.pointer (some ⟨c, 0, none⟩), .int .i64 b] s fun v s' => v = .int .i64 2 ∧ Ch [] s s' := by
  refine F36_calls _ _  ?_
  unfold F36
  refine tcall (o_getz _ _ _ _ hc) ?_
  rintro _ s2 ⟨rfl, c_1⟩
  have z_2 := c_1.size
  refine dT2 ?_
  refine dPtr_i ?_
  refine dInt_i ?_
  refine sB_t (by rfl) ?_
  refine ret_t ?_
  exact ⟨rfl, ((Ch.refl [] s).ch c_1 (by simp))⟩

/-- (*bollard/cache.Cache).Unpin -/
theorem o_Unpinz (c τ : Nat) (b : Int) (s : TH) (hc : Blk s c [.pointer none, .int .i64 0, .map none, .int .i64 0, .int .i64 0, .int .i64 0] 71 τ) : TRet Try.prog 37 #[.pointer (some ⟨c, 0, none⟩), .int .i64 b] s fun v s' => v = .int .i64 2 ∧ Ch [] s s' := by
  refine F37_calls _ _  ?_
  unfold F37
  refine tcall (o_lookz _ _ _ _ hc) ?_
  rintro _ s2 ⟨rfl, c_1⟩
  have z_2 := c_1.size
  refine dInt_i ?_
  refine sB_t (by rfl) ?_
  refine ret_t ?_
  exact ⟨rfl, ((Ch.refl [] s).ch c_1 (by simp))⟩

/-- (*bollard/cache.Cache).Hits -/
theorem o_Hitsz (c τ : Nat) (s : TH) (hc : Blk s c [.pointer none, .int .i64 0, .map none, .int .i64 0, .int .i64 0, .int .i64 0] 71 τ) : TRet Try.prog 28 #[.pointer (some ⟨c, 0, none⟩)] s fun v s' => v = .tuple #[.int .i64 0, .int .i64 0] ∧ Ch [] s s' := by
  refine F28_calls _  ?_
  unfold F28
  refine sB_f (by rfl) ?_
  refine nz_i ?_
  refine ld_t hc rfl ?_
  refine dInt_i ?_
  refine nz_i ?_
  refine ld_t hc rfl ?_
  refine dInt_i ?_
  refine ret_t ?_
  exact ⟨rfl, (Ch.refl [] s)⟩

/-- (*bollard/disk.Disk).Blocks -/
theorem o_Blocksn (s : TH) : TRet Try.prog 29 #[.pointer none] s fun v s' => v = .int .i64 0 ∧ Ch [] s s' := by
  refine F29_calls _  ?_
  unfold F29
  refine sB_t (by rfl) ?_
  refine ret_t ?_
  exact ⟨rfl, (Ch.refl [] s)⟩

/-- bollard/cache.New -/
theorem o_Newn (b : Int) (s : TH) : TRet Try.prog 38 #[.pointer none, .int .i64 b] s fun v s' => v = .tuple #[.pointer none, .int .i64 2] ∧ Ch [] s s' := by
  refine F38_calls _ _  ?_
  unfold F38
  refine tcall (o_Blocksn _) ?_
  rintro _ s2 ⟨rfl, c_1⟩
  have z_2 := c_1.size
  refine dInt_i ?_
  refine sB_t (by rfl) ?_
  refine ret_t ?_
  exact ⟨rfl, ((Ch.refl [] s).ch c_1 (by simp))⟩

/-- (*bollard/disk.Disk).Blocks -/
theorem o_Blocksz (d τ : Nat) (s : TH) (hc : Blk s d [.slice none 0 0, .slice none 0 0, .map none, .int .i64 0] 77 τ) : TRet Try.prog 29 #[.pointer (some ⟨d, 0, none⟩)] s fun v s' => v = .int .i64 0 ∧ Ch [] s s' := by
  refine F29_calls _  ?_
  unfold F29
  refine sB_f (by rfl) ?_
  refine nz_i ?_
  refine ld_t hc rfl ?_
  refine dSl_i ?_
  refine ret_t ?_
  exact ⟨rfl, (Ch.refl [] s)⟩

/-- bollard/cache.New -/
theorem o_Newz (d τ : Nat) (b : Int) (s : TH) (hc : Blk s d [.slice none 0 0, .slice none 0 0, .map none, .int .i64 0] 77 τ) : TRet Try.prog 38 #[.pointer (some ⟨d, 0, none⟩), .int .i64 b] s fun v s' => v = .tuple #[.pointer none, .int .i64 2] ∧ Ch [] s s' := by
  refine F38_calls _ _  ?_
  unfold F38
  refine tcall (o_Blocksz _ _ _ hc) ?_
  rintro _ s2 ⟨rfl, c_1⟩
  have z_2 := c_1.size
  refine dInt_i ?_
  refine sB_t (by rfl) ?_
  refine ret_t ?_
  exact ⟨rfl, ((Ch.refl [] s).ch c_1 (by simp))⟩

/-- (*bollard/cache.Cache).Held -/
theorem o_Heldn (s : TH) : TRet Try.prog 27 #[.pointer none] s fun v s' => v = .slice none 0 0 ∧ Ch [] s s' := by
  refine F27_calls _  ?_
  unfold F27
  refine al_t 0 fun r1 s2 hr1 b_1 c_2 z_3 => ?_
  refine ld_t b_1 rfl ?_
  refine dPtr_i ?_
  refine sB_t (by rfl) ?_
  refine ret_t ?_
  exact ⟨rfl, ((Ch.refl [] s).ch c_2 (by simp))⟩


/-- a cache that no call made -/
structure NoC (s : TH) (p : Option Addr) (τ : Nat) : Prop where
  h : p = none ∨ ∃ c, p = some ⟨c, 0, none⟩ ∧ Blk s c [.pointer none, .int .i64 0, .map none, .int .i64 0, .int .i64 0, .int .i64 0] 71 τ
theorem NoC.mv {s s' : TH} {p : Option Addr} {τ : Nat} {B : Nat → Prop} (h : NoC s p τ) (c : Chg B s s') (hn : ∀ j, j < s.h.size → s.g j = τ → ¬ B j) : NoC s' p τ := by
  rcases h.h with h | ⟨r, h1, h2⟩
  · exact ⟨.inl h⟩
  · exact ⟨.inr ⟨r, h1, h2.mv c (hn r h2.lt h2.tag)⟩⟩
/-- a disk that no call made -/
structure NoD (s : TH) (p : Option Addr) (τ : Nat) : Prop where
  h : p = none ∨ ∃ c, p = some ⟨c, 0, none⟩ ∧ Blk s c [.slice none 0 0, .slice none 0 0, .map none, .int .i64 0] 77 τ
theorem NoD.mv {s s' : TH} {p : Option Addr} {τ : Nat} {B : Nat → Prop} (h : NoD s p τ) (c : Chg B s s') (hn : ∀ j, j < s.h.size → s.g j = τ → ¬ B j) : NoD s' p τ := by
  rcases h.h with h | ⟨r, h1, h2⟩
  · exact ⟨.inl h⟩
  · exact ⟨.inr ⟨r, h1, h2.mv c (hn r h2.lt h2.tag)⟩⟩

theorem o_Get (b : Int) (p : Option Addr) (τ : Nat) {s : TH} (h : NoC s p τ) : TRet Try.prog 23 #[.pointer p, .int .i64 b] s fun v s' => v = .tuple #[.slice none 0 0, .int .i64 2] ∧ Ch [] s s' ∧ NoC s' p τ := by
  have hk := h
  rcases h.h with rfl | ⟨c, rfl, hb⟩
  · exact (o_Getn b s).mono fun v s' h2 => ⟨h2.1, h2.2, hk.mv h2.2 (tagn (by simp))⟩
  · exact (o_Getz c τ b s hb).mono fun v s' h2 => ⟨h2.1, h2.2, hk.mv h2.2 (tagn (by simp))⟩

theorem o_Put (b : Int) (xa : Option Addr) (xn xc : Nat) (p : Option Addr) (τ : Nat) {s : TH} (h : NoC s p τ) : TRet Try.prog 31 #[.pointer p, .int .i64 b, .slice xa xn xc] s fun v s' => v = .int .i64 2 ∧ Ch [] s s' ∧ NoC s' p τ := by
  have hk := h
  rcases h.h with rfl | ⟨c, rfl, hb⟩
  · exact (o_Putn b xa xn xc s).mono fun v s' h2 => ⟨h2.1, h2.2, hk.mv h2.2 (tagn (by simp))⟩
  · exact (o_Putz c τ b xa xn xc s hb).mono fun v s' h2 => ⟨h2.1, h2.2, hk.mv h2.2 (tagn (by simp))⟩

theorem o_Drop (b : Int) (p : Option Addr) (τ : Nat) {s : TH} (h : NoC s p τ) : TRet Try.prog 35 #[.pointer p, .int .i64 b] s fun v s' => v = .int .i64 2 ∧ Ch [] s s' ∧ NoC s' p τ := by
  have hk := h
  rcases h.h with rfl | ⟨c, rfl, hb⟩
  · exact (o_Dropn b s).mono fun v s' h2 => ⟨h2.1, h2.2, hk.mv h2.2 (tagn (by simp))⟩
  · exact (o_Dropz c τ b s hb).mono fun v s' h2 => ⟨h2.1, h2.2, hk.mv h2.2 (tagn (by simp))⟩

theorem o_Pin (b : Int) (p : Option Addr) (τ : Nat) {s : TH} (h : NoC s p τ) : TRet Try.prog 36 #[.pointer p, .int .i64 b] s fun v s' => v = .int .i64 2 ∧ Ch [] s s' ∧ NoC s' p τ := by
  have hk := h
  rcases h.h with rfl | ⟨c, rfl, hb⟩
  · exact (o_Pinn b s).mono fun v s' h2 => ⟨h2.1, h2.2, hk.mv h2.2 (tagn (by simp))⟩
  · exact (o_Pinz c τ b s hb).mono fun v s' h2 => ⟨h2.1, h2.2, hk.mv h2.2 (tagn (by simp))⟩

theorem o_Unpin (b : Int) (p : Option Addr) (τ : Nat) {s : TH} (h : NoC s p τ) : TRet Try.prog 37 #[.pointer p, .int .i64 b] s fun v s' => v = .int .i64 2 ∧ Ch [] s s' ∧ NoC s' p τ := by
  have hk := h
  rcases h.h with rfl | ⟨c, rfl, hb⟩
  · exact (o_Unpinn b s).mono fun v s' h2 => ⟨h2.1, h2.2, hk.mv h2.2 (tagn (by simp))⟩
  · exact (o_Unpinz c τ b s hb).mono fun v s' h2 => ⟨h2.1, h2.2, hk.mv h2.2 (tagn (by simp))⟩

theorem o_Hits  (p : Option Addr) (τ : Nat) {s : TH} (h : NoC s p τ) : TRet Try.prog 28 #[.pointer p] s fun v s' => v = .tuple #[.int .i64 0, .int .i64 0] ∧ Ch [] s s' ∧ NoC s' p τ := by
  have hk := h
  rcases h.h with rfl | ⟨c, rfl, hb⟩
  · exact (o_Hitsn  s).mono fun v s' h2 => ⟨h2.1, h2.2, hk.mv h2.2 (tagn (by simp))⟩
  · exact (o_Hitsz c τ  s hb).mono fun v s' h2 => ⟨h2.1, h2.2, hk.mv h2.2 (tagn (by simp))⟩

theorem o_New (b : Int) (p : Option Addr) (τ : Nat) {s : TH} (h : NoD s p τ) : TRet Try.prog 38 #[.pointer p, .int .i64 b] s fun v s' => v = .tuple #[.pointer none, .int .i64 2] ∧ Ch [] s s' := by
  rcases h.h with rfl | ⟨c, rfl, hb⟩
  · exact o_Newn b s
  · exact o_Newz c τ b s hb

end Go.Proofs.Ytmgjdmohmhaemaa.E
