/- My own texts, joined. -/
import Derived.KernelRfl
import Derived.Laws.StructEq
import Derived.Test.YtklppdodadkcnaaGreatProg
import Derived.Test.YtklppdodadkcnaaGreatIP9
/- Contracts of functions. -/
namespace Go.Proofs.YtklppdodadkcnaaGreat.E
open Go Go.Proofs
set_option linter.unusedVariables false
set_option linter.unusedSimpArgs false
theorem eqf_last {P : Program} {d : Nat} {xs ys : Array Value} {f : Field} {a b : Value} {r : Bool} {w : World} (hn : (f.name == "_") = false) (ha : (part f.type xs f.offset).run P w = .ok a w) (hb : (part f.type ys f.offset).run P w = .ok b w) (he : (Op.equalIn d f.type a b).run P w = .ok r w) : (Op.eqFields d xs ys [f]).run P w = .ok r w := by
  have hn' : f.name ≠ "_" := by simpa using hn
  simp only [Op.eqFields, if_pos hn', Sem.run_bind, ha, hb, he, Result.andThen_ok]
  cases r <;> simp
theorem eqf_cons {P : Program} {d : Nat} {xs ys : Array Value} {f : Field} {fs : List Field} {a b : Value} {r s : Bool} {w : World} (hn : (f.name == "_") = false) (ha : (part f.type xs f.offset).run P w = .ok a w) (hb : (part f.type ys f.offset).run P w = .ok b w) (he : (Op.equalIn d f.type a b).run P w = .ok r w) (hr : (Op.eqFields d xs ys fs).run P w = .ok s w) : (Op.eqFields d xs ys (f :: fs)).run P w = .ok (r && s) w := by
  have hn' : f.name ≠ "_" := by simpa using hn
  rw [Op.eqFields]
  simp only [if_pos hn', Sem.run_bind, ha, hb, he, Result.andThen_ok]
  cases r
  · simp
  · simpa using hr
theorem ent_fields : Tryz.prog.fieldsOf 129 = #[{ name := "Ino", type := 3, offset := 0, embedded := false, tag := "", pkgPath := "", byteOffset := 0 }, { name := "Name", type := 9, offset := 1, embedded := false, tag := "", pkgPath := "", byteOffset := 8 }] := by kernel_rfl
theorem eq_ent {E : List PanicEntry → Heap → Prop} {s : TH} {a b : Int} {c d : ByteArray} {x y : Operand} {K : Value → Heap → Prop} (hk : K (.bool (a == b && c == d)) s.h) :
    semW Tryz.prog (eqSem .eql 129 x y (.agg #[.int .i64 a, .string c]) (.agg #[.int .i64 b, .string d])) E s.h K := .mk fun w hw => by
  have hgt : Tryz.prog.eqGuardType Tryz.prog.depth 129 = false := by kernel_rfl
  have hs : Tryz.prog.stoodInHeld 129 = false := by kernel_rfl
  have hu : Tryz.prog.underlying 129 = some (.struct (Tryz.prog.fieldsOf 129)) := by kernel_rfl
  have hf : ∀ n, (Op.eqFields (n + 1) #[.int .i64 a, .string c] #[.int .i64 b, .string d] (Tryz.prog.fieldsOf 129).toList).run Tryz.prog w = .ok (a == b && c == d) w := by
    intro n
    rw [ent_fields]
    refine eqf_cons (a := .int .i64 a) (b := .int .i64 b) (by decide) ?_ ?_ ?_ (eqf_last (a := .string c) (b := .string d) (by decide) ?_ ?_ ?_)
    · simp [part, Tryz.sizeOf3, Tryz.isAgg3]
    · simp [part, Tryz.sizeOf3, Tryz.isAgg3]
    · simp [Op.equalIn, Tryz.runUnderlying3]
    · simp [part, Tryz.sizeOf9, Tryz.isAgg9]
    · simp [part, Tryz.sizeOf9, Tryz.isAgg9]
    · simp [Op.equalIn, Tryz.runUnderlying9]
  have hr : (eqSem .eql 129 x y (.agg #[.int .i64 a, .string c]) (.agg #[.int .i64 b, .string d])).run Tryz.prog w = .ok (.bool (a == b && c == d)) w := by
    have he : (Op.equalIn Op.maxDepth 129 (.agg #[.int .i64 a, .string c]) (.agg #[.int .i64 b, .string d])).run Tryz.prog w = .ok (a == b && c == d) w := by
      show (Op.equalIn (9999 + 1) 129 _ _).run _ w = _
      rw [run_equalIn_struct (P := Tryz.prog) w 9999 129 _ _ hu hs]
      exact hf 9998
    simp [eqSem, eqGuard, hgt, binOp, Op.equal, he]
  rw [hr]; exact ⟨by rw [hw]; exact hk, Like.refl w⟩
def entL (i : Nat) (d : List UInt8) : List UInt8 :=
  (wrL (wrL (List.replicate 16 0) 0 2 i) 2 1 d.length).take 3 ++ d.take 13 ++ (wrL (wrL (List.replicate 16 0) 0 2 i) 2 1 d.length).drop (3 + (d.take 13).length)
theorem entL_len (i : Nat) (d : List UInt8) : (entL i d).length = 16 := by unfold entL; simp [wrL_len]; omega
/-- bollard/bollardref03.IsName -/
theorem c_nameD1 {s : TH} : TRet Tryz.prog 160 #[.string ⟨#[46]⟩] s fun v s' => v = .bool false ∧ Ch [] s s' := by
  refine F160_calls _  ?_
  unfold F160
  refine jn_u ?_
  refine sB_f (by simp [ByteArray.toList_mk]) ?_
  refine sB_f (by rfl) ?_
  refine sB_t (by simp [ByteArray.toList_mk]) ?_
  intro _ _ _ _ _ _ _ _ _ _ _ _ _ _
  refine dBl_i ?_
  refine sB_t (by rfl) ?_
  refine ret_t ?_
  exact ⟨rfl, (Ch.refl [] s)⟩
/-- bollard/bollardref03.EncodeEntry -/
theorem c_encEnt1 (τ i : Nat) {s : TH} (hτ : τ ≠ 0) (hi : 1 ≤ i ∧ i ≤ 511) : TRet Tryz.prog 114 #[.agg #[.int .i64 (i : Int), .string ⟨#[46]⟩]] s fun v s' => ∃ a' c', v = .tuple #[.slice a' 16 c', .int .i64 0] ∧ Ch [τ] s s' ∧ Own s' a' 16 c' 5 1 (bvs (entL i (#[46] : Array UInt8).toList)) τ := by
  refine F114_calls _ _  ?_
  unfold F114
  refine al_t 0 fun r1 s2 hr1 b_1 c_2 z_3 => ?_
  refine ask_t (by omega) ?_
  refine al_t 0 fun r3 s4 hr3 b_4 c_5 z_6 => ?_
  have hz0 := b_4.sl
  rw [rowZ_by] at hz0
  have r1_7 := b_1.ch c_5 (by simp)
  refine ld_t r1_7 rfl ?_
  refine ld_t r1_7 rfl ?_
  refine eq_ent ?_
  refine dBl_i ?_
  refine sB_f (by simp; omega) ?_
  refine jn_u ?_
  refine ld_t r1_7 rfl ?_
  refine dInt_i ?_
  refine sB_d (fun hsB2 => by exfalso; omega) (fun hsB2 => ?_)
  refine ld_t r1_7 rfl ?_
  refine dInt_i ?_
  refine sB_d (fun hsB3 => by exfalso; omega) (fun hsB3 => ?_)
  refine ld_t r1_7 rfl ?_
  refine dStr_i ?_
  refine tcall (c_nameD1) ?_
  rintro _ s71 ⟨rfl, c_8⟩
  have z_9 := c_8.size
  refine dBl_i ?_
  refine sB_t (by rfl) ?_
  have r1_10 := r1_7.ch c_8 (by simp)
  refine ld_t r1_10 rfl ?_
  refine dStr_i ?_
  refine sB_f (by simp [ByteArray.toList_mk]) ?_
  intro _ _ _ _ _ _ _ _ _ _ _ _ _ _ _ _ _ _ _ _ _ _ _
  refine dBl_i ?_
  refine sB_f (by rfl) ?_
  refine ld_t r1_10 rfl ?_
  refine dInt_i ?_
  have z_11 := hz0.mv c_8 (tagn (by simp))
  refine tcall (c_rnum τ _ z_11 (by simp) (by intro h; cases h) (by omega) 0 2 i (by omega) (by omega) (by omega)) ?_
  rintro _ s41 ⟨a2, c2, rfl, c_12, o_14⟩
  have z_13 := c_12.size
  refine dSl_i ?_
  have r1_15 := r1_10.ch c_12 (by intro h; simp only [List.mem_cons, List.not_mem_nil, or_false] at h <;> omega)
  refine ld_t r1_15 rfl ?_
  refine dStr_i ?_
  refine tcall (c_rnum τ _ o_14.sl (by simp [wrL_len]) o_14.none_iff (by omega) 2 1 (ByteArray.size ⟨#[46]⟩) (by omega) (by omega) (by decide)) ?_
  rintro _ s48 ⟨a3, c3, rfl, c_16, o_18⟩
  have z_17 := c_16.size
  refine dSl_i ?_
  refine ask_t (by have := (o_18).le; omega) ?_
  have r1_19 := r1_15.ch c_16 (by intro h; simp only [List.mem_cons, List.not_mem_nil, or_false] at h <;> omega)
  refine ld_t r1_19 rfl ?_
  refine dStr_i ?_
  obtain ⟨ad, rfl⟩ := Own.ne_none o_18 (by omega)
  simp only [Int.toNat_natCast]
  rw [show Int.toNat 3 = 3 from rfl]
  refine copy_os (p := 3) #[46] u85 in5 o_18 (by omega) fun s57 o2_22 c_200 hsz => ?_
  have c_20 := c_200.ch (T := [τ]) o_18 (by simp)
  have z_21 := c_20.size
  refine dInt_i ?_
  refine ret_t ?_
  exact ⟨_, _, rfl, (((((((Ch.refl [τ] s).ch c_2 (by simp)).ch c_5 (by simp)).ch c_8 (by simp)).ch c_12 (by simp)).ch c_16 (by simp)).ch c_20 (by simp)), o2_22⟩
/-- bollard/bollardref03.IsName -/
theorem c_nameD2 {s : TH} : TRet Tryz.prog 160 #[.string ⟨#[46, 46]⟩] s fun v s' => v = .bool false ∧ Ch [] s s' := by
  refine F160_calls _  ?_
  unfold F160
  refine jn_u ?_
  refine sB_f (by simp [ByteArray.toList_mk]) ?_
  refine sB_f (by rfl) ?_
  refine sB_f (by simp [ByteArray.toList_mk]) ?_
  intro _ _ _ _ _ _ _ _ _ _ _ _ _ _
  refine dBl_i ?_
  refine sB_t (by simp [ByteArray.toList_mk]) ?_
  refine ret_t ?_
  exact ⟨rfl, (Ch.refl [] s)⟩
/-- bollard/bollardref03.EncodeEntry -/
theorem c_encEnt2 (τ i : Nat) {s : TH} (hτ : τ ≠ 0) (hi : 1 ≤ i ∧ i ≤ 511) : TRet Tryz.prog 114 #[.agg #[.int .i64 (i : Int), .string ⟨#[46, 46]⟩]] s fun v s' => ∃ a' c', v = .tuple #[.slice a' 16 c', .int .i64 0] ∧ Ch [τ] s s' ∧ Own s' a' 16 c' 5 1 (bvs (entL i (#[46, 46] : Array UInt8).toList)) τ := by
  refine F114_calls _ _  ?_
  unfold F114
  refine al_t 0 fun r1 s2 hr1 b_1 c_2 z_3 => ?_
  refine ask_t (by omega) ?_
  refine al_t 0 fun r3 s4 hr3 b_4 c_5 z_6 => ?_
  have hz0 := b_4.sl
  rw [rowZ_by] at hz0
  have r1_7 := b_1.ch c_5 (by simp)
  refine ld_t r1_7 rfl ?_
  refine ld_t r1_7 rfl ?_
  refine eq_ent ?_
  refine dBl_i ?_
  refine sB_f (by simp; omega) ?_
  refine jn_u ?_
  refine ld_t r1_7 rfl ?_
  refine dInt_i ?_
  refine sB_d (fun hsB2 => by exfalso; omega) (fun hsB2 => ?_)
  refine ld_t r1_7 rfl ?_
  refine dInt_i ?_
  refine sB_d (fun hsB3 => by exfalso; omega) (fun hsB3 => ?_)
  refine ld_t r1_7 rfl ?_
  refine dStr_i ?_
  refine tcall (c_nameD2) ?_
  rintro _ s71 ⟨rfl, c_8⟩
  have z_9 := c_8.size
  refine dBl_i ?_
  refine sB_t (by rfl) ?_
  have r1_10 := r1_7.ch c_8 (by simp)
  refine ld_t r1_10 rfl ?_
  refine dStr_i ?_
  refine sB_t (by simp [ByteArray.toList_mk]) ?_
  refine ld_t r1_10 rfl ?_
  refine dStr_i ?_
  intro _ _ _ _ _ _ _ _ _ _ _ _ _ _ _ _ _ _ _ _ _ _ _
  refine dBl_i ?_
  refine sB_f (by simp [ByteArray.toList_mk]) ?_
  refine ld_t r1_10 rfl ?_
  refine dInt_i ?_
  have z_11 := hz0.mv c_8 (tagn (by simp))
  refine tcall (c_rnum τ _ z_11 (by simp) (by intro h; cases h) (by omega) 0 2 i (by omega) (by omega) (by omega)) ?_
  rintro _ s41 ⟨a2, c2, rfl, c_12, o_14⟩
  have z_13 := c_12.size
  refine dSl_i ?_
  have r1_15 := r1_10.ch c_12 (by intro h; simp only [List.mem_cons, List.not_mem_nil, or_false] at h <;> omega)
  refine ld_t r1_15 rfl ?_
  refine dStr_i ?_
  refine tcall (c_rnum τ _ o_14.sl (by simp [wrL_len]) o_14.none_iff (by omega) 2 1 (ByteArray.size ⟨#[46, 46]⟩) (by omega) (by omega) (by decide)) ?_
  rintro _ s48 ⟨a3, c3, rfl, c_16, o_18⟩
  have z_17 := c_16.size
  refine dSl_i ?_
  refine ask_t (by have := (o_18).le; omega) ?_
  have r1_19 := r1_15.ch c_16 (by intro h; simp only [List.mem_cons, List.not_mem_nil, or_false] at h <;> omega)
  refine ld_t r1_19 rfl ?_
  refine dStr_i ?_
  obtain ⟨ad, rfl⟩ := Own.ne_none o_18 (by omega)
  simp only [Int.toNat_natCast]
  rw [show Int.toNat 3 = 3 from rfl]
  refine copy_os (p := 3) #[46, 46] u85 in5 o_18 (by omega) fun s57 o2_22 c_200 hsz => ?_
  have c_20 := c_200.ch (T := [τ]) o_18 (by simp)
  have z_21 := c_20.size
  refine dInt_i ?_
  refine ret_t ?_
  exact ⟨_, _, rfl, (((((((Ch.refl [τ] s).ch c_2 (by simp)).ch c_5 (by simp)).ch c_8 (by simp)).ch c_12 (by simp)).ch c_16 (by simp)).ch c_20 (by simp)), o2_22⟩
end Go.Proofs.YtklppdodadkcnaaGreat.E
/- Contracts of functions. -/
namespace Go.Proofs.YtklppdodadkcnaaGreat.E
open Go Go.Proofs
set_option linter.unusedVariables false
set_option linter.unusedSimpArgs false
/-- an entry, as it lies in memory -/
def ev (e : Nat × ByteArray) : List Value := [.int .i64 (e.1 : Int), .string e.2]
theorem ev_len (e : Nat × ByteArray) : (ev e).length = 2 := rfl
theorem ecell0 {es : List (Nat × ByteArray)} {k : Nat} {e : Nat × ByteArray} (h : es[k]? = some e) : (es.flatMap ev)[k * 2]? = some (.int .i64 (e.1 : Int)) := fm_get ev_len es k 0 e h (by omega)
theorem ecell1 {es : List (Nat × ByteArray)} {k : Nat} {e : Nat × ByteArray} (h : es[k]? = some e) : (es.flatMap ev)[k * 2 + 1]? = some (.string e.2) := fm_get ev_len es k 1 e h (by omega)
def Dot (d : ByteArray) : Prop := d = ⟨#[46]⟩ ∨ d = ⟨#[46, 46]⟩
theorem c_encEntD (τ i : Nat) (d : ByteArray) {s : TH} (hτ : τ ≠ 0) (hi : 1 ≤ i ∧ i ≤ 511) (hd : Dot d) : TRet Tryz.prog 114 #[.agg #[.int .i64 (i : Int), .string d]] s fun v s' => ∃ a' c', v = .tuple #[.slice a' 16 c', .int .i64 0] ∧ Ch [τ] s s' ∧ Own s' a' 16 c' 5 1 (bvs (entL i d.data.toList)) τ := by
  rcases hd with rfl | rfl
  · exact c_encEnt1 τ i hτ hi
  · exact c_encEnt2 τ i hτ hi
def entsL : List (Nat × ByteArray) → List UInt8
  | [] => []
  | e :: es => entL e.1 e.2.data.toList ++ entsL es
theorem entsL_snoc (es : List (Nat × ByteArray)) (e : Nat × ByteArray) : entsL (es ++ [e]) = entsL es ++ entL e.1 e.2.data.toList := by
  induction es with
  | nil => simp [entsL]
  | cons x es ih => simp [entsL, ih]
theorem entsL_len (es : List (Nat × ByteArray)) : (entsL es).length = 16 * es.length := by
  induction es with
  | nil => rfl
  | cons x es ih => simp [entsL, ih, entL_len]; omega
def dirsL (es : List (Nat × ByteArray)) : List UInt8 := entsL es ++ List.replicate (128 - 16 * es.length) 0
/-- bollard/bollardref12.clash -/
theorem c_clash {xa : Option Addr} {n : Nat} (xc : Nat) {es : List (Nat × ByteArray)} {τx : Nat} {s : TH} (hx : Sl s xa (es.flatMap ev) τx) (hn : es.length = n) (hc : n ≤ xc) (hb : n ≤ 8) (hnc : ∀ (i j : Nat) (e f : Nat × ByteArray), j < i → es[i]? = some e → es[j]? = some f → ¬ (e.1 ≠ 0 ∧ f.1 ≠ 0 ∧ e.2.toList = f.2.toList)) : TRet Tryz.prog 113 #[.slice xa n xc] s fun v s' => v = .bool false ∧ Ch [] s s' := by
  refine F113_calls _ _ _  ?_
  unfold F113
  refine ⟨fun vs H' => ∃ s' : TH, s'.h = H' ∧ ∃ m, vs = [.int .i64 m] ∧ ChL [] [] s s' ∧ (∃ k : Nat, m = k ∧ k ≤ n), fun vs H' => match vs with | [.int .i64 m] => ((n : Int) - m).toNat | _ => 0, ⟨s, rfl, _, rfl, ChL.refl _ _ _, ?_⟩, ?_⟩
  ·
    exact ⟨0, rfl, by omega⟩
  ·
    intro m _ _ _ _ _ _ _ _ _ _ _ _ _ _ _ _ _ _ _ _ _ _ _ _ _ _ _ _ _ _ _ _ _ H37 hI
    obtain ⟨s37, rfl, m_, hvs, c_1, k, rfl, hk⟩ := hI
    cases hvs
    have z_2 := c_1.size
    refine sB_d (fun hsB1 => ?_) (fun hsB1 => ?_)
    ·
      have hk2 : k < n := by omega
      obtain ⟨e, he⟩ : ∃ e, es[k]? = some e := ⟨es[k]'(by omega), by simp⟩
      obtain ⟨a, rfl⟩ := hx.some (fun h => by have := ecell0 he; rw [h] at this; simp at this)
      refine nz_i ?_
      refine ask_t (by omega) ?_
      have x_3 := hx.mv c_1 (tagL (by simp <;> omega) (by simp))
      refine ld_sl x_3 (by rw [Int.toNat_natCast]; exact ecell0 he) ?_
      refine ld_sl2 x_3 (by rw [Int.toNat_natCast]; exact ecell1 he) ?_
      refine al_t (τx + 1) fun r42 s43 hr42 b_4 c_5 z_6 => ?_
      refine st_t b_4 rfl (by simp) fun s44 b_7 c_8 z_9 => ?_
      refine st_t b_7 rfl (by simp) fun s45 b_10 c_11 z_12 => ?_
      refine ask_t (by omega) ?_
      refine ⟨fun vs H' => ∃ s' : TH, s'.h = H' ∧ ∃ q, vs = [.int .i64 q] ∧ ChL [] [] s45 s' ∧ (∃ j : Nat, q = j ∧ j ≤ k), fun vs H' => match vs with | [.int .i64 q] => ((k : Int) - q).toNat | _ => 0, ⟨s45, rfl, _, rfl, ChL.refl _ _ _, ?_⟩, ?_⟩
      ·
        exact ⟨0, rfl, by omega⟩
      ·
        intro q _ _ _ _ _ _ _ _ _ _ _ _ _ _ _ _ _ _ _ _ _ H70 hI
        obtain ⟨s70, rfl, q_, hvs, c_13, j, rfl, hj⟩ := hI
        cases hvs
        have z_14 := c_13.size
        refine sB_d (fun hsB2 => ?_) (fun hsB2 => ?_)
        ·
          rw [slO_zero]
          have hj2 : j < k := by omega
          obtain ⟨f, hf⟩ : ∃ f, es[j]? = some f := ⟨es[j]'(by omega), by simp⟩
          refine nz_i ?_
          refine ask_t (by omega) ?_
          have x_15 := x_3.mv c_5 (tagn (by simp))
          have x_16 := x_15.mv c_8 (onn (by rw [b_4.tag]; omega))
          have x_17 := x_16.mv c_11 (onn (by rw [b_7.tag]; omega))
          have x_18 := x_17.mv c_13 (tagL (by simp <;> omega) (by simp))
          refine ld_sl x_18 (by rw [Int.toNat_natCast]; exact ecell0 hf) ?_
          refine ld_sl2 x_18 (by rw [Int.toNat_natCast]; exact ecell1 hf) ?_
          refine al_t (τx + 1) fun r75 s76 hr75 b_19 c_20 z_21 => ?_
          refine st_t b_19 rfl (by simp) fun s77 b_22 c_23 z_24 => ?_
          refine st_t b_22 rfl (by simp) fun s78 b_25 c_26 z_27 => ?_
          refine jn_u ?_
          have r42_28 := b_10.chl c_13 (by simp <;> omega) (by simp <;> omega)
          have r42_29 := r42_28.ch c_20 (by simp)
          have r42_30 := r42_29.on c_23 (by omega)
          have r42_31 := r42_30.on c_26 (by omega)
          refine ld_t r42_31 rfl ?_
          refine dInt_i ?_
          refine sB_ne (fun hsB3 => ?_) (fun hsB3 => ?_)
          ·
            refine ld_t b_25 rfl ?_
            refine dInt_i ?_
            refine sB_ne (fun hsB4 => ?_) (fun hsB4 => ?_)
            ·
              refine ld_t r42_31 rfl ?_
              refine dStr_i ?_
              refine ld_t b_25 rfl ?_
              refine dStr_i ?_
              intro _ _ _ _ _ _ _ _ _ _ _ _ _ _
              refine dBl_i ?_
              refine sB_f (by have := hnc k j e f hj2 he hf; simp only [beq_eq_false_iff_ne]; intro h; exact this ⟨by omega, by omega, h⟩) ?_
              refine wr_t (by omega) ?_
              refine ⟨⟨s78, rfl, _, rfl, (((((ChL.refl [] [] s45).chl c_13 (by simp) (by simp <;> omega)).ch c_20 (by simp)).on_new c_23 (by omega)).on_new c_26 (by omega)), ?_⟩, ?_⟩
              ·
                exact ⟨j + 1, by omega, by omega⟩
              ·
                simp only []; omega
            ·
              intro _ _ _ _ _ _ _ _ _ _ _ _ _ _
              refine dBl_i ?_
              refine sB_f (by rfl) ?_
              refine wr_t (by omega) ?_
              refine ⟨⟨s78, rfl, _, rfl, (((((ChL.refl [] [] s45).chl c_13 (by simp) (by simp <;> omega)).ch c_20 (by simp)).on_new c_23 (by omega)).on_new c_26 (by omega)), ?_⟩, ?_⟩
              ·
                exact ⟨j + 1, by omega, by omega⟩
              ·
                simp only []; omega
          ·
            intro _ _ _ _ _ _ _ _ _ _ _ _ _ _
            refine dBl_i ?_
            refine sB_f (by rfl) ?_
            refine wr_t (by omega) ?_
            refine ⟨⟨s78, rfl, _, rfl, (((((ChL.refl [] [] s45).chl c_13 (by simp) (by simp <;> omega)).ch c_20 (by simp)).on_new c_23 (by omega)).on_new c_26 (by omega)), ?_⟩, ?_⟩
            ·
              exact ⟨j + 1, by omega, by omega⟩
            ·
              simp only []; omega
        ·
          refine wr_t (by omega) ?_
          refine ⟨⟨s70, rfl, _, rfl, ((((((ChL.refl [] [] s).chl c_1 (by simp) (by simp <;> omega)).ch c_5 (by simp)).on_new c_8 (by omega)).on_new c_11 (by omega)).chl c_13 (by simp) (by simp <;> omega)), ?_⟩, ?_⟩
          ·
            exact ⟨k + 1, by omega, by omega⟩
          ·
            simp only []; omega
    ·
      refine ret_t ?_
      exact ⟨rfl, ((Ch.refl [] s).chl c_1 (by simp) (by simp <;> omega))⟩
/-- bollard/bollardref12.Encode -/
theorem c_encDirs (τ : Nat) {xa : Option Addr} {n : Nat} (xc : Nat) {es : List (Nat × ByteArray)} {τx : Nat} {s : TH} (hx : Sl s xa (es.flatMap ev) τx) (hn : es.length = n) (hc : n ≤ xc) (hb : n ≤ 8) (hnc : ∀ (i j : Nat) (e f : Nat × ByteArray), j < i → es[i]? = some e → es[j]? = some f → ¬ (e.1 ≠ 0 ∧ f.1 ≠ 0 ∧ e.2.toList = f.2.toList)) (hτ : τ ≠ 0) (hτx : τx ≠ τ) (hτ2 : τx ≠ τ + 1) (h1 : 1 ≤ n ∧ n < 8) (hd : ∀ e ∈ es, Dot e.2 ∧ 1 ≤ e.1 ∧ e.1 ≤ 511) : TRet Tryz.prog 54 #[.slice xa n xc] s fun v s' => ∃ a' c', v = .tuple #[.slice a' 128 c', .int .i64 0] ∧ Ch [τ, τ + 1] s s' ∧ Own s' a' 128 c' 5 1 (bvs (dirsL es)) τ := by
  refine F54_calls _ _ _  ?_
  unfold F54
  refine jn_u ?_
  refine sB_d (fun hsB1 => by exfalso; omega) (fun hsB1 => ?_)
  refine tcall (c_clash xc hx hn hc hb hnc) ?_
  rintro _ s74 ⟨rfl, c_1⟩
  have z_2 := c_1.size
  refine dBl_i ?_
  intro _ _ _ _ _ _
  refine dBl_i ?_
  refine sB_f (by rfl) ?_
  refine ⟨fun vs H' => ∃ s' : TH, s'.h = H' ∧ ∃ pa pn pc m, vs = [.slice pa pn pc, .int .i64 m] ∧ ChL [τ, τ + 1] [] s74 s' ∧ (∃ k : Nat, m = k ∧ k ≤ n ∧ pn = 16 * k ∧ Own s' pa (16 * k) pc 5 1 (bvs (entsL (es.take k))) τ), fun vs H' => match vs with | [.slice pa pn pc, .int .i64 m] => ((n : Int) - m).toNat | _ => 0, ⟨s74, rfl, _, _, _, _, rfl, ChL.refl _ _ _, ?_⟩, ?_⟩
  ·
    exact ⟨0, rfl, by omega, rfl, Own.nil _ _ _ _⟩
  ·
    intro pa pn pc m _ _ _ _ _ _ _ _ _ _ _ _ _ _ _ _ _ _ _ H35 hI
    obtain ⟨s35, rfl, pa_, pn_, pc_, m_, hvs, c_3, k, rfl, hk, rfl, o_5⟩ := hI
    cases hvs
    have z_4 := c_3.size
    refine sB_d (fun hsB3 => ?_) (fun hsB3 => ?_)
    ·
      have hk2 : k < n := by omega
      obtain ⟨e, he⟩ : ∃ e, es[k]? = some e := ⟨es[k]'(by omega), by simp⟩
      obtain ⟨a, rfl⟩ := hx.some (fun h => by have := ecell0 he; rw [h] at this; simp at this)
      refine nz_i ?_
      refine ask_t (by omega) ?_
      have x_6 := hx.mv c_1 (tagn (by simp))
      have x_7 := x_6.mv c_3 (tagL (by simp <;> omega) (by simp))
      refine ld_sl x_7 (by rw [Int.toNat_natCast]; exact ecell0 he) ?_
      refine ld_sl2 x_7 (by rw [Int.toNat_natCast]; exact ecell1 he) ?_
      refine al_t 0 fun r40 s41 hr40 b_8 c_9 z_10 => ?_
      refine st_t b_8 rfl (by simp) fun s42 b_11 c_12 z_13 => ?_
      refine st_t b_11 rfl (by simp) fun s43 b_14 c_15 z_16 => ?_
      refine ld_t b_14 rfl ?_
      refine ld_t b_14 rfl ?_
      have hde := hd e (List.mem_of_getElem? he)
      refine tcall (c_encEntD (τ + 1) e.1 e.2 (by omega) hde.2 hde.1) ?_
      rintro _ s47 ⟨a2, c2, rfl, c_17, en_19⟩
      have z_18 := c_17.size
      refine dT2 ?_
      refine dSl_i ?_
      refine dInt_i ?_
      refine sB_f (by rfl) ?_
      have o_20 := o_5.mv c_9 (tagn (by simp))
      have o_21 := o_20.mv c_12 (onn (by rw [b_8.tag]; omega))
      have o_22 := o_21.mv c_15 (onn (by rw [b_11.tag]; omega))
      have o_23 := o_22.mv c_17 (tagn (by intro h; simp only [List.mem_cons, List.not_mem_nil, or_false] at h <;> omega))
      refine app_i u85 in5 rfl o_23 en_19.sl (m := 16) (by rw [bvs_len, entL_len]) (bvs_one _) (fun h => by have := en_19.none_iff h; omega) (by unfold maxLen; omega) fun s57 pa2 pc2 o_26 c_240 _ => ?_
      have c_24 := c_240.ch (T := [τ]) o_23 (by simp)
      have z_25 := c_24.size
      refine dSl_i ?_
      refine wr_t (by omega) ?_
      refine ⟨⟨s57, rfl, _, _, _, _, rfl, (((((((ChL.refl [τ, τ + 1] [] s74).chl c_3 (by simp) (by simp <;> omega)).ch c_9 (by simp)).on_new c_12 (by omega)).on_new c_15 (by omega)).ch c_17 (by simp)).ch c_24 (by simp)), ?_⟩, ?_⟩
      ·
        exact ⟨k + 1, by omega, by omega, by omega, by have ho := o_26; rw [show 16 * k + 16 = 16 * (k + 1) by omega] at ho; rw [List.take_add_one, he]; show Own _ _ _ _ _ _ (bvs (entsL (es.take k ++ [e]))) _; rw [entsL_snoc]; simpa [bvs] using ho⟩
      ·
        simp only []; omega
    ·
      obtain rfl : k = n := by omega
      refine wr_t (by omega) ?_
      rw [show (128 - ((16 * k : Nat) : Int)) = ((128 - 16 * k : Nat) : Int) by omega]
      refine appz_i u85 u3 in5 o_5 (by obtain ⟨b, rfl⟩ := Own.ne_none o_5 (by omega); simp) (by omega) (by omega) fun s68 pa3 pc3 o_29 c_270 => ?_
      have c_27 := c_270.ch (T := [τ]) o_5 (by simp)
      have z_28 := c_27.size
      refine dSl_i ?_
      refine ret_t ?_
      have ho := o_29
      rw [show 16 * k + (128 - 16 * k) = 128 by omega, List.take_of_length_le (by omega)] at ho
      exact ⟨pa3, pc3, by rw [show 16 * k + (128 - 16 * k) = 128 by omega], ((((Ch.refl [τ, τ + 1] s).ch c_1 (by simp)).chl c_3 (by simp) (by simp <;> omega)).ch c_27 (by simp)), by unfold dirsL; rw [hn]; exact ho⟩
end Go.Proofs.YtklppdodadkcnaaGreat.E
/- Contracts of functions. -/
namespace Go.Proofs.YtklppdodadkcnaaGreat.E
open Go Go.Proofs
set_option linter.unusedVariables false
set_option linter.unusedSimpArgs false
/-- a geometry that may be -/
def canG (a b c : Int) : Prop := (1 ≤ a ∧ a ≤ 8) ∧ (8 ≤ b ∧ b ≤ 256) ∧ (4 ≤ c ∧ c ≤ 64) ∧ c % 4 = 0 ∧ 3 + c / 4 ≤ b
instance (a b c : Int) : Decidable (canG a b c) := by unfold canG; infer_instance
theorem tdiv4 {c : Int} (h : 0 ≤ c) : c.tdiv 4 = c / 4 := Int.tdiv_eq_ediv_of_nonneg h
theorem tmod4 {c : Int} (h : 0 ≤ c) : c.tmod 4 = c % 4 := Int.tmod_eq_emod_of_nonneg h
theorem wr_tq {a b m : Int} {k : Int → Prop} (h : a.tdiv b = m) (hm : -9223372036854775808 ≤ m ∧ m ≤ 9223372036854775807) (hk : k m) : wr .i64 (a.tdiv b) k := wr_t (by rw [h]; exact hm) (by rw [h]; exact hk)
theorem mul_le {a b c d : Int} (h0 : 0 ≤ a) (h1 : a ≤ c) (h2 : 0 ≤ b) (h3 : b ≤ d) : 0 ≤ a * b ∧ a * b ≤ c * d :=
  ⟨Int.mul_nonneg h0 h2, Int.mul_le_mul h1 h3 h2 (Int.le_trans h0 h1)⟩
/-- bollard/geom.between -/
theorem gc_between (n l m : Int) (s : TH) : TRet Tryz.prog 151 #[.int .i64 n, .int .i64 l, .int .i64 m] s fun v s' => v = .bool (decide (l ≤ n ∧ n ≤ m)) ∧ Ch [] s s' := by
  refine F151_calls _ _ _  ?_
  unfold F151
  refine sB_d (fun hsB1 => ?_) (fun hsB1 => ?_)
  ·
    refine ret_t ?_
    exact ⟨ret_b (by simp <;> omega), (Ch.refl [] s)⟩
  ·
    refine ret_t ?_
    exact ⟨ret_b (by simp <;> omega), (Ch.refl [] s)⟩
/-- bollard/geom.front -/
theorem gc_front (a b c : Int) (hc : 0 ≤ c ∧ c ≤ 1000) (s : TH) : TRet Tryz.prog 102 #[.agg #[.int .i64 a, .int .i64 b, .int .i64 c]] s fun v s' => v = .int .i64 (2 + c / 4) ∧ Ch [] s s' := by
  refine F102_calls _ _ _  ?_
  unfold F102
  refine al_t 0 fun r1 s2 hr1 b_1 c_2 z_3 => ?_
  refine ld_t b_1 rfl ?_
  refine dInt_i ?_
  refine ask_t (by decide) ?_
  refine wr_tq (tdiv4 hc.1) (by omega) ?_
  refine wr_t (by omega) ?_
  refine ret_t ?_
  exact ⟨rfl, ((Ch.refl [] s).ch c_2 (by simp))⟩
/-- bollard/geom.Can -/
theorem gc_can (a b c : Int)  (s : TH) : TRet Tryz.prog 96 #[.agg #[.int .i64 a, .int .i64 b, .int .i64 c]] s fun v s' => v = .int .i64 (if canG a b c then 0 else 170) ∧ Ch [] s s' := by
  refine F96_calls _ _ _  ?_
  unfold F96
  refine al_t 0 fun r1 s2 hr1 b_1 c_2 z_3 => ?_
  refine jn_u ?_
  refine ld_t b_1 rfl ?_
  refine dInt_i ?_
  refine tcall (gc_between _ _ _ _) ?_
  rintro _ s58 ⟨rfl, c_4⟩
  have z_5 := c_4.size
  refine dBl_i ?_
  first | refine sB_d (fun hsB1 => ?_) (fun hsB1 => ?_) | refine sB_nd (fun hsB1 => ?_) (fun hsB1 => ?_) | refine sB_n (fun hsB1 => ?_) (fun hsB1 => ?_) | refine sB_i (fun hsB1 => ?_) (fun hsB1 => ?_)
  ·
    have r1_6 := b_1.ch c_4 (by simp)
    refine ld_t r1_6 rfl ?_
    refine dInt_i ?_
    refine tcall (gc_between _ _ _ _) ?_
    rintro _ s63 ⟨rfl, c_7⟩
    have z_8 := c_7.size
    refine dBl_i ?_
    first | refine sB_d (fun hsB2 => ?_) (fun hsB2 => ?_) | refine sB_nd (fun hsB2 => ?_) (fun hsB2 => ?_) | refine sB_n (fun hsB2 => ?_) (fun hsB2 => ?_) | refine sB_i (fun hsB2 => ?_) (fun hsB2 => ?_)
    ·
      have r1_9 := r1_6.ch c_7 (by simp)
      refine ld_t r1_9 rfl ?_
      refine dInt_i ?_
      refine tcall (gc_between _ _ _ _) ?_
      rintro _ s68 ⟨rfl, c_10⟩
      have z_11 := c_10.size
      refine dBl_i ?_
      intro _ _ _ _ _ _ _ _ _ _ _ _ _
      refine dBl_i ?_
      refine jn_u ?_
      first | refine sB_d (fun hsB3 => ?_) (fun hsB3 => ?_) | refine sB_nd (fun hsB3 => ?_) (fun hsB3 => ?_) | refine sB_n (fun hsB3 => ?_) (fun hsB3 => ?_) | refine sB_i (fun hsB3 => ?_) (fun hsB3 => ?_)
      ·
        intro _ _ _ _ _ _ _ _ _ _ _ _ _ _ _
        refine dBl_i ?_
        refine sB_t (by rfl) ?_
        refine ret_t ?_
        exact ⟨ret_i (by first | rw [if_pos (by unfold canG; omega)] | rw [if_neg (by unfold canG; omega)]), (((((Ch.refl [] s).ch c_2 (by simp)).ch c_4 (by simp)).ch c_7 (by simp)).ch c_10 (by simp))⟩
      ·
        have r1_12 := r1_9.ch c_10 (by simp)
        refine ld_t r1_12 rfl ?_
        refine dInt_i ?_
        refine ask_t (by decide) ?_
        refine nm_t (tmod4 (by omega)) ?_
        refine sB_ne (fun hsB5 => ?_) (fun hsB5 => ?_)
        ·
          intro _ _ _ _ _ _ _ _ _ _ _ _ _ _ _
          refine dBl_i ?_
          refine sB_t (by rfl) ?_
          refine ret_t ?_
          exact ⟨ret_i (by first | rw [if_pos (by unfold canG; omega)] | rw [if_neg (by unfold canG; omega)]), (((((Ch.refl [] s).ch c_2 (by simp)).ch c_4 (by simp)).ch c_7 (by simp)).ch c_10 (by simp))⟩
        ·
          refine ld_t r1_12 rfl ?_
          refine dInt_i ?_
          refine ld_t r1_12 rfl ?_
          refine ld_t r1_12 rfl ?_
          refine ld_t r1_12 rfl ?_
          refine tcall (gc_front _ _ _ (by omega) _) ?_
          rintro _ s47 ⟨rfl, c_13⟩
          have z_14 := c_13.size
          refine dInt_i ?_
          refine ⟨?_, ?_⟩
          ·
            have r1_15 := r1_12.ch c_13 (by simp)
            refine ld_t r1_15 rfl ?_
            refine dInt_i ?_
            rfl
          ·
            refine wr_t (by omega) ?_
            intro _ _ _ _ _ _ _ _ _ _ _ _ _ _ _
            refine dBl_i ?_
            refine sB_d (fun hsB7 => ?_) (fun hsB7 => ?_)
            ·
              refine ret_t ?_
              exact ⟨ret_i (by first | rw [if_pos (by unfold canG; omega)] | rw [if_neg (by unfold canG; omega)]), ((((((Ch.refl [] s).ch c_2 (by simp)).ch c_4 (by simp)).ch c_7 (by simp)).ch c_10 (by simp)).ch c_13 (by simp))⟩
            ·
              refine ret_t ?_
              exact ⟨ret_i (by first | rw [if_pos (by unfold canG; omega)] | rw [if_neg (by unfold canG; omega)]), ((((((Ch.refl [] s).ch c_2 (by simp)).ch c_4 (by simp)).ch c_7 (by simp)).ch c_10 (by simp)).ch c_13 (by simp))⟩
    ·
      intro _ _ _ _ _ _ _ _ _ _ _ _ _
      refine dBl_i ?_
      refine jn_u ?_
      refine sB_t (by rfl) ?_
      intro _ _ _ _ _ _ _ _ _ _ _ _ _ _ _
      refine dBl_i ?_
      refine sB_t (by rfl) ?_
      refine ret_t ?_
      exact ⟨ret_i (by first | rw [if_pos (by unfold canG; omega)] | rw [if_neg (by unfold canG; omega)]), ((((Ch.refl [] s).ch c_2 (by simp)).ch c_4 (by simp)).ch c_7 (by simp))⟩
  ·
    intro _ _ _ _ _ _ _ _ _ _ _ _ _
    refine dBl_i ?_
    refine jn_u ?_
    refine sB_t (by rfl) ?_
    intro _ _ _ _ _ _ _ _ _ _ _ _ _ _ _
    refine dBl_i ?_
    refine sB_t (by rfl) ?_
    refine ret_t ?_
    exact ⟨ret_i (by first | rw [if_pos (by unfold canG; omega)] | rw [if_neg (by unfold canG; omega)]), (((Ch.refl [] s).ch c_2 (by simp)).ch c_4 (by simp))⟩
/-- bollard/bollardref04.Can -/
theorem gc_rcan (a b c : Int)  (s : TH) : TRet Tryz.prog 52 #[.agg #[.int .i64 a, .int .i64 b, .int .i64 c]] s fun v s' => v = .int .i64 (if canG a b c then 0 else 170) ∧ Ch [] s s' := by
  refine F52_calls _ _ _  ?_
  unfold F52
  refine al_t 0 fun r1 s2 hr1 b_1 c_2 z_3 => ?_
  refine jn_u ?_
  refine ld_t b_1 rfl ?_
  refine dInt_i ?_
  refine sB_d (fun hsB1 => ?_) (fun hsB1 => ?_)
  ·
    intro _ _ _ _ _ _ _ _ _ _ _ _ _ _ _ _ _ _ _ _ _ _ _ _ _ _ _ _ _ _ _ _ _ _ _ _ _ _ _ _ _ _
    refine dBl_i ?_
    refine sB_t (by rfl) ?_
    refine ret_t ?_
    exact ⟨ret_i (by first | rw [if_pos (by unfold canG; omega)] | rw [if_neg (by unfold canG; omega)]), ((Ch.refl [] s).ch c_2 (by simp))⟩
  ·
    refine ld_t b_1 rfl ?_
    refine dInt_i ?_
    refine sB_d (fun hsB3 => ?_) (fun hsB3 => ?_)
    ·
      intro _ _ _ _ _ _ _ _ _ _ _ _ _ _ _ _ _ _ _ _ _ _ _ _ _ _ _ _ _ _ _ _ _ _ _ _ _ _ _ _ _ _
      refine dBl_i ?_
      refine sB_t (by rfl) ?_
      refine ret_t ?_
      exact ⟨ret_i (by first | rw [if_pos (by unfold canG; omega)] | rw [if_neg (by unfold canG; omega)]), ((Ch.refl [] s).ch c_2 (by simp))⟩
    ·
      refine ld_t b_1 rfl ?_
      refine dInt_i ?_
      refine sB_d (fun hsB5 => ?_) (fun hsB5 => ?_)
      ·
        intro _ _ _ _ _ _ _ _ _ _ _ _ _ _ _ _ _ _ _ _ _ _ _ _ _ _ _ _ _ _ _ _ _ _ _ _ _ _ _ _ _ _
        refine dBl_i ?_
        refine sB_t (by rfl) ?_
        refine ret_t ?_
        exact ⟨ret_i (by first | rw [if_pos (by unfold canG; omega)] | rw [if_neg (by unfold canG; omega)]), ((Ch.refl [] s).ch c_2 (by simp))⟩
      ·
        refine ld_t b_1 rfl ?_
        refine dInt_i ?_
        refine sB_d (fun hsB7 => ?_) (fun hsB7 => ?_)
        ·
          intro _ _ _ _ _ _ _ _ _ _ _ _ _ _ _ _ _ _ _ _ _ _ _ _ _ _ _ _ _ _ _ _ _ _ _ _ _ _ _ _ _ _
          refine dBl_i ?_
          refine sB_t (by rfl) ?_
          refine ret_t ?_
          exact ⟨ret_i (by first | rw [if_pos (by unfold canG; omega)] | rw [if_neg (by unfold canG; omega)]), ((Ch.refl [] s).ch c_2 (by simp))⟩
        ·
          refine ld_t b_1 rfl ?_
          refine dInt_i ?_
          refine sB_d (fun hsB9 => ?_) (fun hsB9 => ?_)
          ·
            intro _ _ _ _ _ _ _ _ _ _ _ _ _ _ _ _ _ _ _ _ _ _ _ _ _ _ _ _ _ _ _ _ _ _ _ _ _ _ _ _ _ _
            refine dBl_i ?_
            refine sB_t (by rfl) ?_
            refine ret_t ?_
            exact ⟨ret_i (by first | rw [if_pos (by unfold canG; omega)] | rw [if_neg (by unfold canG; omega)]), ((Ch.refl [] s).ch c_2 (by simp))⟩
          ·
            refine ld_t b_1 rfl ?_
            refine dInt_i ?_
            refine sB_d (fun hsB11 => ?_) (fun hsB11 => ?_)
            ·
              intro _ _ _ _ _ _ _ _ _ _ _ _ _ _ _ _ _ _ _ _ _ _ _ _ _ _ _ _ _ _ _ _ _ _ _ _ _ _ _ _ _ _
              refine dBl_i ?_
              refine sB_t (by rfl) ?_
              refine ret_t ?_
              exact ⟨ret_i (by first | rw [if_pos (by unfold canG; omega)] | rw [if_neg (by unfold canG; omega)]), ((Ch.refl [] s).ch c_2 (by simp))⟩
            ·
              refine ld_t b_1 rfl ?_
              refine dInt_i ?_
              refine ask_t (by decide) ?_
              refine nm_t (tmod4 (by omega)) ?_
              refine sB_ne (fun hsB13 => ?_) (fun hsB13 => ?_)
              ·
                intro _ _ _ _ _ _ _ _ _ _ _ _ _ _ _ _ _ _ _ _ _ _ _ _ _ _ _ _ _ _ _ _ _ _ _ _ _ _ _ _ _ _
                refine dBl_i ?_
                refine sB_t (by rfl) ?_
                refine ret_t ?_
                exact ⟨ret_i (by first | rw [if_pos (by unfold canG; omega)] | rw [if_neg (by unfold canG; omega)]), ((Ch.refl [] s).ch c_2 (by simp))⟩
              ·
                refine ld_t b_1 rfl ?_
                refine dInt_i ?_
                refine ld_t b_1 rfl ?_
                refine dInt_i ?_
                refine ask_t (by decide) ?_
                refine wr_tq (tdiv4 (by omega)) (by omega) ?_
                refine wr_t (by omega) ?_
                intro _ _ _ _ _ _ _ _ _ _ _ _ _ _ _ _ _ _ _ _ _ _ _ _ _ _ _ _ _ _ _ _ _ _ _ _ _ _ _ _ _ _
                refine dBl_i ?_
                refine sB_d (fun hsB15 => ?_) (fun hsB15 => ?_)
                ·
                  refine ret_t ?_
                  exact ⟨ret_i (by first | rw [if_pos (by unfold canG; omega)] | rw [if_neg (by unfold canG; omega)]), ((Ch.refl [] s).ch c_2 (by simp))⟩
                ·
                  refine ret_t ?_
                  exact ⟨ret_i (by first | rw [if_pos (by unfold canG; omega)] | rw [if_neg (by unfold canG; omega)]), ((Ch.refl [] s).ch c_2 (by simp))⟩
/-- bollard/geom.all -/
theorem gc_all (a b c : Int) (e : Int) (hv : canG a b c) (he : 0 ≤ e ∧ e ≤ 10000) (s : TH) : TRet Tryz.prog 152 #[.agg #[.int .i64 a, .int .i64 b, .int .i64 c], .int .i64 e] s fun v s' => v = .int .i64 (a * e) ∧ Ch [] s s' := by
  refine F152_calls _ _ _ _  ?_
  unfold F152
  refine al_t 0 fun r1 s2 hr1 b_1 c_2 z_3 => ?_
  refine ld_t b_1 rfl ?_
  refine ld_t b_1 rfl ?_
  refine ld_t b_1 rfl ?_
  refine tcall (gc_can _ _ _ _) ?_
  rintro _ s7 ⟨rfl, c_4⟩
  have z_5 := c_4.size
  rw [if_pos hv]
  refine dInt_i ?_
  refine sB_f rfl ?_
  have r1_6 := b_1.ch c_4 (by simp)
  refine ld_t r1_6 rfl ?_
  refine dInt_i ?_
  refine wr_t (by unfold canG at hv; have := mul_le (a := a) (b := e) (c := 8) (d := 10000) (by omega) (by omega) he.1 he.2; omega) ?_
  refine ret_t ?_
  exact ⟨rfl, (((Ch.refl [] s).ch c_2 (by simp)).ch c_4 (by simp))⟩
/-- bollard/geom.at -/
theorem gc_at (a b c : Int) (n p : Int) (hv : canG a b c) (hn : 0 ≤ n ∧ n < a) (hp : 0 ≤ p ∧ p ≤ 10000) (s : TH) : TRet Tryz.prog 101 #[.agg #[.int .i64 a, .int .i64 b, .int .i64 c], .int .i64 n, .int .i64 p] s fun v s' => v = .tuple #[.int .i64 (n * b + p), .bool true] ∧ Ch [] s s' := by
  have hm := mul_le (a := n) (b := b) (c := 8) (d := 256) (by omega) (by unfold canG at hv; omega) (by unfold canG at hv; omega) (by unfold canG at hv; omega)
  refine F101_calls _ _ _ _ _  ?_
  unfold F101
  refine al_t 0 fun r1 s2 hr1 b_1 c_2 z_3 => ?_
  refine jn_u ?_
  refine ld_t b_1 rfl ?_
  refine ld_t b_1 rfl ?_
  refine ld_t b_1 rfl ?_
  refine tcall (gc_can _ _ _ _) ?_
  rintro _ s25 ⟨rfl, c_4⟩
  have z_5 := c_4.size
  rw [if_pos hv]
  refine dInt_i ?_
  refine sB_f rfl ?_
  have r1_6 := b_1.ch c_4 (by simp)
  refine ld_t r1_6 rfl ?_
  refine dInt_i ?_
  refine wr_t (by unfold canG at hv; omega) ?_
  refine tcall (gc_between _ _ _ _) ?_
  rintro _ s31 ⟨rfl, c_7⟩
  have z_8 := c_7.size
  refine dBl_i ?_
  intro _ _ _ _ _ _ _ _ _ _
  refine dBl_i ?_
  first | refine sB_d (fun hsB2 => by exfalso; omega) (fun hsB2 => ?_) | refine sB_nd (fun hsB2 => by exfalso; omega) (fun hsB2 => ?_)
  have r1_9 := r1_6.ch c_7 (by simp)
  refine ld_t r1_9 rfl ?_
  refine dInt_i ?_
  refine wr_t (by omega) ?_
  refine wr_t (by omega) ?_
  refine ret_t ?_
  exact ⟨rfl, ((((Ch.refl [] s).ch c_2 (by simp)).ch c_4 (by simp)).ch c_7 (by simp))⟩
/-- bollard/geom.Blocks -/
theorem gc_blocks (a b c : Int) (hv : canG a b c)  (s : TH) : TRet Tryz.prog 97 #[.agg #[.int .i64 a, .int .i64 b, .int .i64 c]] s fun v s' => v = .int .i64 (a * b) ∧ Ch [] s s' := by
  refine F97_calls _ _ _  ?_
  unfold F97
  refine al_t 0 fun r1 s2 hr1 b_1 c_2 z_3 => ?_
  refine ld_t b_1 rfl ?_
  refine ld_t b_1 rfl ?_
  refine ld_t b_1 rfl ?_
  refine ld_t b_1 rfl ?_
  refine dInt_i ?_
  refine tcall (gc_all _ _ _ _ hv (by first | omega | (unfold canG at hv; omega)) _) ?_
  rintro _ s9 ⟨rfl, c_4⟩
  have z_5 := c_4.size
  refine dInt_i ?_
  refine ret_t ?_
  exact ⟨rfl, (((Ch.refl [] s).ch c_2 (by simp)).ch c_4 (by simp))⟩
/-- bollard/geom.Inodes -/
theorem gc_inodes (a b c : Int) (hv : canG a b c)  (s : TH) : TRet Tryz.prog 91 #[.agg #[.int .i64 a, .int .i64 b, .int .i64 c]] s fun v s' => v = .int .i64 (a * c) ∧ Ch [] s s' := by
  refine F91_calls _ _ _  ?_
  unfold F91
  refine al_t 0 fun r1 s2 hr1 b_1 c_2 z_3 => ?_
  refine ld_t b_1 rfl ?_
  refine ld_t b_1 rfl ?_
  refine ld_t b_1 rfl ?_
  refine ld_t b_1 rfl ?_
  refine dInt_i ?_
  refine tcall (gc_all _ _ _ _ hv (by first | omega | (unfold canG at hv; omega)) _) ?_
  rintro _ s9 ⟨rfl, c_4⟩
  have z_5 := c_4.size
  refine dInt_i ?_
  refine ret_t ?_
  exact ⟨rfl, (((Ch.refl [] s).ch c_2 (by simp)).ch c_4 (by simp))⟩
-- no form: bollard/geom.Super
/-- bollard/geom.split -/
theorem gc_split (n e t : Int) (hn : 0 ≤ n ∧ n < t) (he : 0 < e) (ht : t ≤ 1000000) (s : TH) : TRet Tryz.prog 90 #[.int .i64 n, .int .i64 e, .int .i64 t] s fun v s' => v = .tuple #[.int .i64 (n / e), .int .i64 (n % e), .bool true] ∧ Ch [] s s' := by
  have h1 := Int.tdiv_eq_ediv_of_nonneg (b := e) hn.1
  have h2 := Int.tmod_eq_emod_of_nonneg (b := e) hn.1
  have h3 : 0 ≤ n / e ∧ n / e ≤ n := ⟨Int.ediv_nonneg hn.1 (by omega), Int.ediv_le_self _ hn.1⟩
  refine F90_calls _ _ _  ?_
  unfold F90
  refine wr_t (by omega) ?_
  refine tcall (gc_between _ _ _ _) ?_
  rintro _ s3 ⟨rfl, c_1⟩
  have z_2 := c_1.size
  refine dBl_i ?_
  first | refine sB_d (fun hsB1 => by exfalso; omega) (fun hsB1 => ?_) | refine sB_nd (fun hsB1 => by exfalso; omega) (fun hsB1 => ?_)
  refine ask_t (by omega) ?_
  refine wr_tq h1 (by omega) ?_
  refine ask_t (by omega) ?_
  refine nm_t h2 ?_
  refine ret_t ?_
  exact ⟨rfl, ((Ch.refl [] s).ch c_1 (by simp))⟩
/-- bollard/geom.Owner -/
theorem gc_owner (a b c : Int) (n : Int) (hv : canG a b c) (hn : 0 ≤ n ∧ n < a * c) (s : TH) : TRet Tryz.prog 33 #[.agg #[.int .i64 a, .int .i64 b, .int .i64 c], .int .i64 n] s fun v s' => v = .tuple #[.int .i64 (n / c), .int .i64 (n % c), .bool true] ∧ Ch [] s s' := by
  have hac := mul_le (a := a) (b := c) (c := 8) (d := 64) (by unfold canG at hv; omega) (by unfold canG at hv; omega) (by unfold canG at hv; omega) (by unfold canG at hv; omega)
  refine F33_calls _ _ _ _  ?_
  unfold F33
  refine al_t 0 fun r1 s2 hr1 b_1 c_2 z_3 => ?_
  refine ld_t b_1 rfl ?_
  refine dInt_i ?_
  refine ld_t b_1 rfl ?_
  refine ld_t b_1 rfl ?_
  refine ld_t b_1 rfl ?_
  refine tcall (gc_inodes _ _ _ hv _) ?_
  rintro _ s9 ⟨rfl, c_4⟩
  have z_5 := c_4.size
  refine dInt_i ?_
  refine ⟨?_, ?_⟩
  ·
    have r1_6 := b_1.ch c_4 (by simp)
    refine ld_t r1_6 rfl ?_
    refine dInt_i ?_
    rfl
  ·
    refine tcall (gc_split _ _ _ (by omega) (by first | omega | (unfold canG at hv; omega)) (by first | omega | (unfold canG at hv; omega)) _) ?_
    rintro _ s14 ⟨rfl, c_7⟩
    have z_8 := c_7.size
    refine dT3 ?_
    refine dInt_i ?_
    refine dInt_i ?_
    refine dBl_i ?_
    refine ret_t ?_
    exact ⟨rfl, ((((Ch.refl [] s).ch c_2 (by simp)).ch c_4 (by simp)).ch c_7 (by simp))⟩
/-- bollard/geom.Inode -/
theorem gc_inode (a b c : Int) (n : Int) (hv : canG a b c) (hn : 0 ≤ n ∧ n < a * c) (s : TH) : TRet Tryz.prog 60 #[.agg #[.int .i64 a, .int .i64 b, .int .i64 c], .int .i64 n] s fun v s' => v = .tuple #[.int .i64 (n / c * b + (2 + n % c / 4)), .int .i64 (n % c % 4 * 32), .bool true] ∧ Ch [] s s' := by
  have hac := mul_le (a := a) (b := c) (c := 8) (d := 64) (by unfold canG at hv; omega) (by unfold canG at hv; omega) (by unfold canG at hv; omega) (by unfold canG at hv; omega)
  have hdm : 0 ≤ n % c ∧ n % c < c ∧ 0 ≤ n / c ∧ n / c < a := ⟨Int.emod_nonneg _ (by unfold canG at hv; omega), Int.emod_lt_of_pos _ (by unfold canG at hv; omega), Int.ediv_nonneg hn.1 (by unfold canG at hv; omega), Int.ediv_lt_of_lt_mul (by unfold canG at hv; omega) hn.2⟩
  refine F60_calls _ _ _ _  ?_
  unfold F60
  refine al_t 0 fun r1 s2 hr1 b_1 c_2 z_3 => ?_
  refine ld_t b_1 rfl ?_
  refine ld_t b_1 rfl ?_
  refine ld_t b_1 rfl ?_
  refine tcall (gc_owner _ _ _ _ hv (by omega) _) ?_
  rintro _ s7 ⟨rfl, c_4⟩
  have z_5 := c_4.size
  refine dT3 ?_
  refine dInt_i ?_
  refine dInt_i ?_
  refine dBl_i ?_
  refine sB_f rfl ?_
  have r1_6 := b_1.ch c_4 (by simp)
  refine ld_t r1_6 rfl ?_
  refine ld_t r1_6 rfl ?_
  refine ld_t r1_6 rfl ?_
  refine ask_t (by decide) ?_
  refine wr_tq (tdiv4 hdm.1) (by unfold canG at hv; omega) ?_
  refine wr_t (by unfold canG at hv; omega) ?_
  refine tcall (gc_at _ _ _ _ _ hv (by omega) (by first | omega | (unfold canG at hv; omega)) _) ?_
  rintro _ s20 ⟨rfl, c_7⟩
  have z_8 := c_7.size
  refine dT2 ?_
  refine dInt_i ?_
  refine dBl_i ?_
  refine ask_t (by decide) ?_
  refine nm_t (tmod4 hdm.1) ?_
  refine wr_t (by unfold canG at hv; omega) ?_
  refine ret_t ?_
  exact ⟨rfl, ((((Ch.refl [] s).ch c_2 (by simp)).ch c_4 (by simp)).ch c_7 (by simp))⟩
/-- bollard/bollardref04.Blocks -/
theorem gc_rblocks (a b c : Int) (hv : canG a b c)  (s : TH) : TRet Tryz.prog 78 #[.agg #[.int .i64 a, .int .i64 b, .int .i64 c]] s fun v s' => v = .int .i64 (a * b) ∧ Ch [] s s' := by
  have hab := mul_le (a := a) (b := b) (c := 8) (d := 256) (by unfold canG at hv; omega) (by unfold canG at hv; omega) (by unfold canG at hv; omega) (by unfold canG at hv; omega)
  refine F78_calls _ _ _  ?_
  unfold F78
  refine al_t 0 fun r1 s2 hr1 b_1 c_2 z_3 => ?_
  refine ld_t b_1 rfl ?_
  refine ld_t b_1 rfl ?_
  refine ld_t b_1 rfl ?_
  refine tcall (gc_rcan _ _ _ _) ?_
  rintro _ s7 ⟨rfl, c_4⟩
  have z_5 := c_4.size
  rw [if_pos hv]
  refine dInt_i ?_
  refine sB_f rfl ?_
  have r1_6 := b_1.ch c_4 (by simp)
  refine ld_t r1_6 rfl ?_
  refine dInt_i ?_
  refine ld_t r1_6 rfl ?_
  refine dInt_i ?_
  refine wr_t (by omega) ?_
  refine ret_t ?_
  exact ⟨rfl, (((Ch.refl [] s).ch c_2 (by simp)).ch c_4 (by simp))⟩
-- no form: bollard/bollardref04.Group
-- no form: bollard/bollardref04.IsData
end Go.Proofs.YtklppdodadkcnaaGreat.E
/- The functions' forms in the engine's words, printed by my own program. -/
namespace Go.Proofs.YtklppdodadkcnaaGreat.E
open Go Go.Proofs
set_option linter.unusedVariables false
set_option maxRecDepth 100000
/-- (*bollard/bollardref07.Set).Add -/
def F86 (x0 : Option Addr) (x1 : Int) (x2 : Int) (x3a : Option Addr) (x3n : Nat) (x3c : Nat) (x4a : Option Addr) (x4n : Nat) (x4c : Nat) (R : Ending → Heap → Prop) (H : Heap) : Prop :=
  jn (α := VFH 1) (fun v1 H2 =>
  ∀ v3 v4 v5 v6 v7 v8 v9 v10 v11 v12 v13 v14 v15 v16 v17 v18 v19 v20 v21 v22 v23 v24 : Value,
  dBl v1 (fun b25 =>
  sB b25 (R (Ending.returned (Value.tuple #[Value.int IntKind.i64 0, Value.int IntKind.i64 1])) H2) (∃ I26 : List Value → Heap → Prop,
  ∃ I27 : List Value → Heap → Nat,
  (I26 ([Value.int IntKind.i64 0]) H2) ∧
  ∀ n28 : Int,
  ∀ v29 v30 v31 v32 v33 v34 v35 v36 v37 v38 v39 v40 v41 v42 v43 v44 v45 : Value,
  ∀ H46 : Heap,
  (I26 ([Value.int IntKind.i64 n28]) H46) →
  sB (decide (n28 < (↑x4n : Int))) (nz x4a (fun a48 =>
  ask ((0 : Int) ≤ n28 ∧ n28 < (↑x4n : Int)) (ld H46 (Addr.add a48 (Int.toNat n28 * 1)) (fun v49 =>
  dInt IntKind.i64 v49 (fun n50 =>
  jn (α := VFH 1) (fun v51 H52 =>
  ∀ v53 v54 v55 v56 v57 v58 v59 v60 v61 : Value,
  dBl v51 (fun b62 =>
  sB b62 (R (Ending.returned (Value.tuple #[Value.int IntKind.i64 0, Value.int IntKind.i64 70])) H52) (wr IntKind.i64 (n28 + 1) (fun n63 =>
  (I26 ([Value.int IntKind.i64 n63]) H52) ∧
  (I27 [Value.int IntKind.i64 n63] H52) < (I27 [Value.int IntKind.i64 n28] H46))))) (fun k64 =>
  sB (decide (n50 < 1)) (k64 (Value.bool true) H46) (nz x0 (fun a65 =>
  ld H46 (Addr.add a65 1) (fun v66 =>
  dInt IntKind.i64 v66 (fun n67 =>
  k64 (Value.bool (decide (n50 > n67))) H46)))))))))) (nz x0 (fun a68 =>
  ld H46 (Addr.add a68 1) (fun v69 =>
  dInt IntKind.i64 v69 (fun n70 =>
  wr IntKind.i64 (n70 + 1) (fun n71 =>
  (al H46 (Obj.cells #[] 5) (fun r72 H73 =>
  (ld H73 (Addr.add a68 1) (fun v74 =>
  dInt IntKind.i64 v74 (fun n75 =>
  (Value.int IntKind.i64 n75) = (Value.int IntKind.i64 n70)))) ∧
  (semW Tryz.prog (Builtin.append_ #[85, 85] 85 #[Value.slice (some (Addr.mk r72 0 none)) 0 0, Value.slice x3a x3n x3c]) nopR H73 (fun v78 H79 =>
  dSl v78 (fun p80 r81 r82 =>
  (ld H79 (Addr.add a68 1) (fun v83 =>
  dInt IntKind.i64 v83 (fun n84 =>
  (Value.int IntKind.i64 n84) = (Value.int IntKind.i64 n70)))) ∧
  al H79 (Obj.cells #[Value.int IntKind.i64 0, Value.int IntKind.i64 0, Value.int IntKind.i64 0, Value.slice none 0 0, Value.slice none 0 0] 220) (fun r85 H86 =>
  (ld H86 (Addr.add a68 1) (fun v87 =>
  dInt IntKind.i64 v87 (fun n88 =>
  (Value.int IntKind.i64 n88) = (Value.int IntKind.i64 n70)))) ∧
  st H86 (Addr.mk r85 0 none) (Value.int IntKind.i64 n71) (fun H89 =>
  st H89 (Addr.mk r85 1 none) (Value.int IntKind.i64 x1) (fun H90 =>
  st H90 (Addr.mk r85 2 none) (Value.int IntKind.i64 x2) (fun H91 =>
  st H91 (Addr.mk r85 3 none) (Value.slice p80 r81 r82) (fun H92 =>
  st H92 (Addr.mk r85 4 none) (Value.slice none 0 0) (fun H93 =>
  nz x0 (fun a94 =>
  ld H93 a94 (fun v95 =>
  dSl v95 (fun p96 r97 r98 =>
  ∃ I99 : List Value → Heap → Prop,
  ∃ I100 : List Value → Heap → Nat,
  (I99 ([Value.int IntKind.i64 0]) H93) ∧
  ∀ n101 : Int,
  ∀ v102 v103 v104 v105 v106 v107 v108 v109 v110 v111 v112 v113 v114 v115 v116 v117 v118 v119 v120 v121 v122 : Value,
  ∀ H123 : Heap,
  (I99 ([Value.int IntKind.i64 n101]) H123) →
  sB (decide (n101 < (↑r97 : Int))) (jn (α := VFH 0) (fun H125 =>
  ∀ v126 v127 v128 v129 v130 v131 v132 v133 v134 v135 v136 v137 v138 v139 v140 v141 v142 v143 v144 : Value,
  wr IntKind.i64 (n101 + 1) (fun n145 =>
  (I99 ([Value.int IntKind.i64 n145]) H125) ∧
  (I100 [Value.int IntKind.i64 n145] H125) < (I100 [Value.int IntKind.i64 n101] H123))) (fun k146 =>
  nz p96 (fun a147 =>
  ask ((0 : Int) ≤ n101 ∧ n101 < (↑r97 : Int)) (ld H123 (Addr.add a147 (Int.toNat n101 * 5)) (fun v148 =>
  ld H123 (Addr.add (Addr.add a147 (Int.toNat n101 * 5)) 1) (fun v149 =>
  ld H123 (Addr.add (Addr.add a147 (Int.toNat n101 * 5)) 2) (fun v150 =>
  ld H123 (Addr.add (Addr.add a147 (Int.toNat n101 * 5)) 3) (fun v151 =>
  ld H123 (Addr.add (Addr.add a147 (Int.toNat n101 * 5)) 4) (fun v152 =>
  al H123 (Obj.cells #[Value.int IntKind.i64 0, Value.int IntKind.i64 0, Value.int IntKind.i64 0, Value.slice none 0 0, Value.slice none 0 0] 220) (fun r153 H154 =>
  st H154 (Addr.mk r153 0 none) v148 (fun H155 =>
  st H155 (Addr.mk r153 1 none) v149 (fun H156 =>
  st H156 (Addr.mk r153 2 none) v150 (fun H157 =>
  st H157 (Addr.mk r153 3 none) v151 (fun H158 =>
  st H158 (Addr.mk r153 4 none) v152 (fun H159 =>
  jn (α := VFH 1) (fun v160 H161 =>
  ∀ v162 v163 v164 v165 v166 v167 v168 v169 : Value,
  dBl v160 (fun b170 =>
  sB b170 (ld H161 (Addr.mk r85 4 none) (fun v171 =>
  dSl v171 (fun p172 r173 r174 =>
  ld H161 (Addr.mk r153 0 none) (fun v175 =>
  dInt IntKind.i64 v175 (fun n176 =>
  al H161 (Obj.cells #[Value.int IntKind.i64 n176] 3) (fun r177 H178 =>
  semW Tryz.prog (Builtin.append_ #[45, 45] 45 #[Value.slice p172 r173 r174, Value.slice (some (Addr.mk r177 0 none)) 1 1]) (pnR R) H178 (fun v181 H182 =>
  dSl v181 (fun p183 r184 r185 =>
  st H182 (Addr.mk r85 4 none) (Value.slice p183 r184 r185) (fun H186 =>
  k146 H186))))))))) (k146 H161))) (fun k187 =>
  ld H159 (Addr.mk r153 0 none) (fun v188 =>
  dInt IntKind.i64 v188 (fun n189 =>
  HCalls Tryz.prog 149 #[Value.slice x4a x4n x4c, Value.int IntKind.i64 n189] H159 (Sp.retK (fun v190 H191 =>
  dBl v190 (fun b192 =>
  sB b192 (k187 (Value.bool true) H191) (ld H191 (Addr.mk r85 0 none) (fun v193 =>
  ld H191 (Addr.mk r85 1 none) (fun v194 =>
  ld H191 (Addr.mk r85 2 none) (fun v195 =>
  ld H191 (Addr.mk r85 3 none) (fun v196 =>
  ld H191 (Addr.mk r85 4 none) (fun v197 =>
  ld H191 (Addr.mk r153 0 none) (fun v198 =>
  ld H191 (Addr.mk r153 1 none) (fun v199 =>
  ld H191 (Addr.mk r153 2 none) (fun v200 =>
  ld H191 (Addr.mk r153 3 none) (fun v201 =>
  ld H191 (Addr.mk r153 4 none) (fun v202 =>
  HCalls Tryz.prog 150 #[Value.agg #[v193, v194, v195, v196, v197], Value.agg #[v198, v199, v200, v201, v202]] H191 (Sp.retK (fun v203 H204 =>
  dBl v203 (fun b205 =>
  k187 (Value.bool b205) H204)) (pnR R))))))))))))))) (pnR R)))))))))))))))))))) (nz x0 (fun a210 =>
  ld H123 (Addr.add a210 1) (fun v211 =>
  dInt IntKind.i64 v211 (fun n212 =>
  wr IntKind.i64 (n212 + 1) (fun n213 =>
  nz x0 (fun a214 =>
  st H123 (Addr.add a214 1) (Value.int IntKind.i64 n213) (fun H215 =>
  nz x0 (fun a216 =>
  ld H215 a216 (fun v217 =>
  dSl v217 (fun p218 r219 r220 =>
  ld H215 (Addr.mk r85 0 none) (fun v221 =>
  ld H215 (Addr.mk r85 1 none) (fun v222 =>
  ld H215 (Addr.mk r85 2 none) (fun v223 =>
  ld H215 (Addr.mk r85 3 none) (fun v224 =>
  ld H215 (Addr.mk r85 4 none) (fun v225 =>
  al H215 (Obj.cells #[v221, v222, v223, v224, v225] 220) (fun r226 H227 =>
  (ld H227 a216 (fun v228 =>
  dSl v228 (fun p229 r230 r231 =>
  (Value.slice p229 r230 r231) = (Value.slice p218 r219 r220)))) ∧
  semW Tryz.prog (Builtin.append_ #[201, 201] 201 #[Value.slice p218 r219 r220, Value.slice (some (Addr.mk r226 0 none)) 1 1]) nopR H227 (fun v234 H235 =>
  dSl v234 (fun p236 r237 r238 =>
  nz x0 (fun a239 =>
  st H235 a239 (Value.slice p236 r237 r238) (fun H240 =>
  nz x0 (fun a241 =>
  ld H240 (Addr.add a241 1) (fun v242 =>
  dInt IntKind.i64 v242 (fun n243 =>
  R (Ending.returned (Value.tuple #[Value.int IntKind.i64 n243, Value.int IntKind.i64 0])) H240))))))))))))))))))))))))))))))))))) ∧
  al H73 (Obj.cells #[Value.int IntKind.i64 0, Value.int IntKind.i64 0, Value.int IntKind.i64 0, Value.slice none 0 0, Value.slice none 0 0] 220) (fun r244 H245 =>
  (ld H245 (Addr.add a68 1) (fun v246 =>
  dInt IntKind.i64 v246 (fun n247 =>
  (Value.int IntKind.i64 n247) = (Value.int IntKind.i64 n70)))) ∧
  semW Tryz.prog (Builtin.append_ #[85, 85] 85 #[Value.slice (some (Addr.mk r72 0 none)) 0 0, Value.slice x3a x3n x3c]) nopR H245 (fun v250 H251 =>
  dSl v250 (fun p252 r253 r254 =>
  (ld H251 (Addr.add a68 1) (fun v255 =>
  dInt IntKind.i64 v255 (fun n256 =>
  (Value.int IntKind.i64 n256) = (Value.int IntKind.i64 n70)))) ∧
  st H251 (Addr.mk r244 0 none) (Value.int IntKind.i64 n71) (fun H257 =>
  st H257 (Addr.mk r244 1 none) (Value.int IntKind.i64 x1) (fun H258 =>
  st H258 (Addr.mk r244 2 none) (Value.int IntKind.i64 x2) (fun H259 =>
  st H259 (Addr.mk r244 3 none) (Value.slice p252 r253 r254) (fun H260 =>
  st H260 (Addr.mk r244 4 none) (Value.slice none 0 0) (fun H261 =>
  nz x0 (fun a262 =>
  ld H261 a262 (fun v263 =>
  dSl v263 (fun p264 r265 r266 =>
  ∃ I267 : List Value → Heap → Prop,
  ∃ I268 : List Value → Heap → Nat,
  (I267 ([Value.int IntKind.i64 0]) H261) ∧
  ∀ n269 : Int,
  ∀ v270 v271 v272 v273 v274 v275 v276 v277 v278 v279 v280 v281 v282 v283 v284 v285 v286 v287 v288 v289 v290 : Value,
  ∀ H291 : Heap,
  (I267 ([Value.int IntKind.i64 n269]) H291) →
  sB (decide (n269 < (↑r265 : Int))) (jn (α := VFH 0) (fun H293 =>
  ∀ v294 v295 v296 v297 v298 v299 v300 v301 v302 v303 v304 v305 v306 v307 v308 v309 v310 v311 v312 : Value,
  wr IntKind.i64 (n269 + 1) (fun n313 =>
  (I267 ([Value.int IntKind.i64 n313]) H293) ∧
  (I268 [Value.int IntKind.i64 n313] H293) < (I268 [Value.int IntKind.i64 n269] H291))) (fun k314 =>
  nz p264 (fun a315 =>
  ask ((0 : Int) ≤ n269 ∧ n269 < (↑r265 : Int)) (ld H291 (Addr.add a315 (Int.toNat n269 * 5)) (fun v316 =>
  ld H291 (Addr.add (Addr.add a315 (Int.toNat n269 * 5)) 1) (fun v317 =>
  ld H291 (Addr.add (Addr.add a315 (Int.toNat n269 * 5)) 2) (fun v318 =>
  ld H291 (Addr.add (Addr.add a315 (Int.toNat n269 * 5)) 3) (fun v319 =>
  ld H291 (Addr.add (Addr.add a315 (Int.toNat n269 * 5)) 4) (fun v320 =>
  al H291 (Obj.cells #[Value.int IntKind.i64 0, Value.int IntKind.i64 0, Value.int IntKind.i64 0, Value.slice none 0 0, Value.slice none 0 0] 220) (fun r321 H322 =>
  st H322 (Addr.mk r321 0 none) v316 (fun H323 =>
  st H323 (Addr.mk r321 1 none) v317 (fun H324 =>
  st H324 (Addr.mk r321 2 none) v318 (fun H325 =>
  st H325 (Addr.mk r321 3 none) v319 (fun H326 =>
  st H326 (Addr.mk r321 4 none) v320 (fun H327 =>
  jn (α := VFH 1) (fun v328 H329 =>
  ∀ v330 v331 v332 v333 v334 v335 v336 v337 : Value,
  dBl v328 (fun b338 =>
  sB b338 (ld H329 (Addr.mk r244 4 none) (fun v339 =>
  dSl v339 (fun p340 r341 r342 =>
  ld H329 (Addr.mk r321 0 none) (fun v343 =>
  dInt IntKind.i64 v343 (fun n344 =>
  al H329 (Obj.cells #[Value.int IntKind.i64 n344] 3) (fun r345 H346 =>
  semW Tryz.prog (Builtin.append_ #[45, 45] 45 #[Value.slice p340 r341 r342, Value.slice (some (Addr.mk r345 0 none)) 1 1]) (pnR R) H346 (fun v349 H350 =>
  dSl v349 (fun p351 r352 r353 =>
  st H350 (Addr.mk r244 4 none) (Value.slice p351 r352 r353) (fun H354 =>
  k314 H354))))))))) (k314 H329))) (fun k355 =>
  ld H327 (Addr.mk r321 0 none) (fun v356 =>
  dInt IntKind.i64 v356 (fun n357 =>
  HCalls Tryz.prog 149 #[Value.slice x4a x4n x4c, Value.int IntKind.i64 n357] H327 (Sp.retK (fun v358 H359 =>
  dBl v358 (fun b360 =>
  sB b360 (k355 (Value.bool true) H359) (ld H359 (Addr.mk r244 0 none) (fun v361 =>
  ld H359 (Addr.mk r244 1 none) (fun v362 =>
  ld H359 (Addr.mk r244 2 none) (fun v363 =>
  ld H359 (Addr.mk r244 3 none) (fun v364 =>
  ld H359 (Addr.mk r244 4 none) (fun v365 =>
  ld H359 (Addr.mk r321 0 none) (fun v366 =>
  ld H359 (Addr.mk r321 1 none) (fun v367 =>
  ld H359 (Addr.mk r321 2 none) (fun v368 =>
  ld H359 (Addr.mk r321 3 none) (fun v369 =>
  ld H359 (Addr.mk r321 4 none) (fun v370 =>
  HCalls Tryz.prog 150 #[Value.agg #[v361, v362, v363, v364, v365], Value.agg #[v366, v367, v368, v369, v370]] H359 (Sp.retK (fun v371 H372 =>
  dBl v371 (fun b373 =>
  k355 (Value.bool b373) H372)) (pnR R))))))))))))))) (pnR R)))))))))))))))))))) (nz x0 (fun a378 =>
  ld H291 (Addr.add a378 1) (fun v379 =>
  dInt IntKind.i64 v379 (fun n380 =>
  wr IntKind.i64 (n380 + 1) (fun n381 =>
  nz x0 (fun a382 =>
  st H291 (Addr.add a382 1) (Value.int IntKind.i64 n381) (fun H383 =>
  nz x0 (fun a384 =>
  ld H383 a384 (fun v385 =>
  dSl v385 (fun p386 r387 r388 =>
  ld H383 (Addr.mk r244 0 none) (fun v389 =>
  ld H383 (Addr.mk r244 1 none) (fun v390 =>
  ld H383 (Addr.mk r244 2 none) (fun v391 =>
  ld H383 (Addr.mk r244 3 none) (fun v392 =>
  ld H383 (Addr.mk r244 4 none) (fun v393 =>
  al H383 (Obj.cells #[v389, v390, v391, v392, v393] 220) (fun r394 H395 =>
  (ld H395 a384 (fun v396 =>
  dSl v396 (fun p397 r398 r399 =>
  (Value.slice p397 r398 r399) = (Value.slice p386 r387 r388)))) ∧
  semW Tryz.prog (Builtin.append_ #[201, 201] 201 #[Value.slice p386 r387 r388, Value.slice (some (Addr.mk r394 0 none)) 1 1]) nopR H395 (fun v402 H403 =>
  dSl v402 (fun p404 r405 r406 =>
  nz x0 (fun a407 =>
  st H403 a407 (Value.slice p404 r405 r406) (fun H408 =>
  nz x0 (fun a409 =>
  ld H408 (Addr.add a409 1) (fun v410 =>
  dInt IntKind.i64 v410 (fun n411 =>
  R (Ending.returned (Value.tuple #[Value.int IntKind.i64 n411, Value.int IntKind.i64 0])) H408)))))))))))))))))))))))))))))))))))) ∧
  al H46 (Obj.cells #[Value.int IntKind.i64 0, Value.int IntKind.i64 0, Value.int IntKind.i64 0, Value.slice none 0 0, Value.slice none 0 0] 220) (fun r412 H413 =>
  (ld H413 (Addr.add a68 1) (fun v414 =>
  dInt IntKind.i64 v414 (fun n415 =>
  (Value.int IntKind.i64 n415) = (Value.int IntKind.i64 n70)))) ∧
  al H413 (Obj.cells #[] 5) (fun r416 H417 =>
  (ld H417 (Addr.add a68 1) (fun v418 =>
  dInt IntKind.i64 v418 (fun n419 =>
  (Value.int IntKind.i64 n419) = (Value.int IntKind.i64 n70)))) ∧
  semW Tryz.prog (Builtin.append_ #[85, 85] 85 #[Value.slice (some (Addr.mk r416 0 none)) 0 0, Value.slice x3a x3n x3c]) nopR H417 (fun v422 H423 =>
  dSl v422 (fun p424 r425 r426 =>
  (ld H423 (Addr.add a68 1) (fun v427 =>
  dInt IntKind.i64 v427 (fun n428 =>
  (Value.int IntKind.i64 n428) = (Value.int IntKind.i64 n70)))) ∧
  st H423 (Addr.mk r412 0 none) (Value.int IntKind.i64 n71) (fun H429 =>
  st H429 (Addr.mk r412 1 none) (Value.int IntKind.i64 x1) (fun H430 =>
  st H430 (Addr.mk r412 2 none) (Value.int IntKind.i64 x2) (fun H431 =>
  st H431 (Addr.mk r412 3 none) (Value.slice p424 r425 r426) (fun H432 =>
  st H432 (Addr.mk r412 4 none) (Value.slice none 0 0) (fun H433 =>
  nz x0 (fun a434 =>
  ld H433 a434 (fun v435 =>
  dSl v435 (fun p436 r437 r438 =>
  ∃ I439 : List Value → Heap → Prop,
  ∃ I440 : List Value → Heap → Nat,
  (I439 ([Value.int IntKind.i64 0]) H433) ∧
  ∀ n441 : Int,
  ∀ v442 v443 v444 v445 v446 v447 v448 v449 v450 v451 v452 v453 v454 v455 v456 v457 v458 v459 v460 v461 v462 : Value,
  ∀ H463 : Heap,
  (I439 ([Value.int IntKind.i64 n441]) H463) →
  sB (decide (n441 < (↑r437 : Int))) (jn (α := VFH 0) (fun H465 =>
  ∀ v466 v467 v468 v469 v470 v471 v472 v473 v474 v475 v476 v477 v478 v479 v480 v481 v482 v483 v484 : Value,
  wr IntKind.i64 (n441 + 1) (fun n485 =>
  (I439 ([Value.int IntKind.i64 n485]) H465) ∧
  (I440 [Value.int IntKind.i64 n485] H465) < (I440 [Value.int IntKind.i64 n441] H463))) (fun k486 =>
  nz p436 (fun a487 =>
  ask ((0 : Int) ≤ n441 ∧ n441 < (↑r437 : Int)) (ld H463 (Addr.add a487 (Int.toNat n441 * 5)) (fun v488 =>
  ld H463 (Addr.add (Addr.add a487 (Int.toNat n441 * 5)) 1) (fun v489 =>
  ld H463 (Addr.add (Addr.add a487 (Int.toNat n441 * 5)) 2) (fun v490 =>
  ld H463 (Addr.add (Addr.add a487 (Int.toNat n441 * 5)) 3) (fun v491 =>
  ld H463 (Addr.add (Addr.add a487 (Int.toNat n441 * 5)) 4) (fun v492 =>
  al H463 (Obj.cells #[Value.int IntKind.i64 0, Value.int IntKind.i64 0, Value.int IntKind.i64 0, Value.slice none 0 0, Value.slice none 0 0] 220) (fun r493 H494 =>
  st H494 (Addr.mk r493 0 none) v488 (fun H495 =>
  st H495 (Addr.mk r493 1 none) v489 (fun H496 =>
  st H496 (Addr.mk r493 2 none) v490 (fun H497 =>
  st H497 (Addr.mk r493 3 none) v491 (fun H498 =>
  st H498 (Addr.mk r493 4 none) v492 (fun H499 =>
  jn (α := VFH 1) (fun v500 H501 =>
  ∀ v502 v503 v504 v505 v506 v507 v508 v509 : Value,
  dBl v500 (fun b510 =>
  sB b510 (ld H501 (Addr.mk r412 4 none) (fun v511 =>
  dSl v511 (fun p512 r513 r514 =>
  ld H501 (Addr.mk r493 0 none) (fun v515 =>
  dInt IntKind.i64 v515 (fun n516 =>
  al H501 (Obj.cells #[Value.int IntKind.i64 n516] 3) (fun r517 H518 =>
  semW Tryz.prog (Builtin.append_ #[45, 45] 45 #[Value.slice p512 r513 r514, Value.slice (some (Addr.mk r517 0 none)) 1 1]) (pnR R) H518 (fun v521 H522 =>
  dSl v521 (fun p523 r524 r525 =>
  st H522 (Addr.mk r412 4 none) (Value.slice p523 r524 r525) (fun H526 =>
  k486 H526))))))))) (k486 H501))) (fun k527 =>
  ld H499 (Addr.mk r493 0 none) (fun v528 =>
  dInt IntKind.i64 v528 (fun n529 =>
  HCalls Tryz.prog 149 #[Value.slice x4a x4n x4c, Value.int IntKind.i64 n529] H499 (Sp.retK (fun v530 H531 =>
  dBl v530 (fun b532 =>
  sB b532 (k527 (Value.bool true) H531) (ld H531 (Addr.mk r412 0 none) (fun v533 =>
  ld H531 (Addr.mk r412 1 none) (fun v534 =>
  ld H531 (Addr.mk r412 2 none) (fun v535 =>
  ld H531 (Addr.mk r412 3 none) (fun v536 =>
  ld H531 (Addr.mk r412 4 none) (fun v537 =>
  ld H531 (Addr.mk r493 0 none) (fun v538 =>
  ld H531 (Addr.mk r493 1 none) (fun v539 =>
  ld H531 (Addr.mk r493 2 none) (fun v540 =>
  ld H531 (Addr.mk r493 3 none) (fun v541 =>
  ld H531 (Addr.mk r493 4 none) (fun v542 =>
  HCalls Tryz.prog 150 #[Value.agg #[v533, v534, v535, v536, v537], Value.agg #[v538, v539, v540, v541, v542]] H531 (Sp.retK (fun v543 H544 =>
  dBl v543 (fun b545 =>
  k527 (Value.bool b545) H544)) (pnR R))))))))))))))) (pnR R)))))))))))))))))))) (nz x0 (fun a550 =>
  ld H463 (Addr.add a550 1) (fun v551 =>
  dInt IntKind.i64 v551 (fun n552 =>
  wr IntKind.i64 (n552 + 1) (fun n553 =>
  nz x0 (fun a554 =>
  st H463 (Addr.add a554 1) (Value.int IntKind.i64 n553) (fun H555 =>
  nz x0 (fun a556 =>
  ld H555 a556 (fun v557 =>
  dSl v557 (fun p558 r559 r560 =>
  ld H555 (Addr.mk r412 0 none) (fun v561 =>
  ld H555 (Addr.mk r412 1 none) (fun v562 =>
  ld H555 (Addr.mk r412 2 none) (fun v563 =>
  ld H555 (Addr.mk r412 3 none) (fun v564 =>
  ld H555 (Addr.mk r412 4 none) (fun v565 =>
  al H555 (Obj.cells #[v561, v562, v563, v564, v565] 220) (fun r566 H567 =>
  (ld H567 a556 (fun v568 =>
  dSl v568 (fun p569 r570 r571 =>
  (Value.slice p569 r570 r571) = (Value.slice p558 r559 r560)))) ∧
  semW Tryz.prog (Builtin.append_ #[201, 201] 201 #[Value.slice p558 r559 r560, Value.slice (some (Addr.mk r566 0 none)) 1 1]) nopR H567 (fun v574 H575 =>
  dSl v574 (fun p576 r577 r578 =>
  nz x0 (fun a579 =>
  st H575 a579 (Value.slice p576 r577 r578) (fun H580 =>
  nz x0 (fun a581 =>
  ld H580 (Addr.add a581 1) (fun v582 =>
  dInt IntKind.i64 v582 (fun n583 =>
  R (Ending.returned (Value.tuple #[Value.int IntKind.i64 n583, Value.int IntKind.i64 0])) H580))))))))))))))))))))))))))))))))))))))))))) (fun k584 =>
  sB (decide (x1 < 0)) (k584 (Value.bool true) H) (sB (decide (x2 < 0)) (k584 (Value.bool true) H) (sB ((↑x3n : Int) == 0) (k584 (Value.bool true) H) (sB (decide ((↑x3n : Int) > 128)) (k584 (Value.bool true) H) (wr IntKind.i64 (128 - (↑x3n : Int)) (fun n585 =>
  k584 (Value.bool (decide (x2 > n585))) H))))))
theorem F86_eq (x0 : Option Addr) (x1 : Int) (x2 : Int) (x3a : Option Addr) (x3n : Nat) (x3c : Nat) (x4a : Option Addr) (x4n : Nat) (x4c : Nat) (R : Ending → Heap → Prop) (H : Heap) : F86 x0 x1 x2 x3a x3n x3c x4a x4n x4c R H = vc Tryz.prog (codeOf Tryz.f86) (.node none .leaf (.node none (.node (some ⟨[(39, 4)], [17, 18, 19, 20, 21, 22, 23, 24, 25, 26, 27, 28, 29, 30, 31, 32, 33, 34, 35, 36, 37, 38]⟩) .leaf .leaf) (.node none (.node none .leaf (.node none (.node (some ⟨[(42, 3)], [10, 11, 13, 43, 44, 45, 46, 47, 48, 49, 50, 51, 52, 53, 54, 55, 56]⟩) (.node none .leaf (.node none .leaf (.node none (.node none (.node none .leaf (.node (some ⟨[(55, 4)], [46, 47, 48, 49, 50, 51, 52, 53, 54]⟩) .leaf .leaf)) .leaf) .leaf))) .leaf) .leaf)) (.node none .leaf (.node none (.node none .leaf (.node none (.node (some ⟨[(73, 3)], [16, 74, 75, 76, 77, 78, 79, 80, 81, 82, 83, 84, 85, 86, 87, 88, 89, 90, 91, 92, 93]⟩) (.node none .leaf (.node none .leaf (.node (some ⟨[], [16, 75, 76, 77, 78, 79, 80, 81, 82, 83, 84, 85, 86, 87, 88, 89, 90, 91, 92]⟩) (.node none (.node none .leaf (.node (some ⟨[(85, 4)], [77, 78, 79, 80, 81, 82, 83, 84]⟩) .leaf .leaf)) .leaf) .leaf))) .leaf) .leaf)) .leaf))))) (postV Tryz.prog Tryz.f86 R) ⟨#[Value.pointer x0, Value.int IntKind.i64 x1, Value.int IntKind.i64 x2, Value.slice x3a x3n x3c, Value.slice x4a x4n x4c] ++ Array.replicate (Tryz.f86.ntmps - 5) undef, []⟩ H := by kernel_rfl
theorem F86_calls {R : Ending → Heap → Prop} {H : Heap} (x0 : Option Addr) (x1 : Int) (x2 : Int) (x3a : Option Addr) (x3n : Nat) (x3c : Nat) (x4a : Option Addr) (x4n : Nat) (x4c : Nat) (h : F86 x0 x1 x2 x3a x3n x3c x4a x4n x4c R H) : HCalls Tryz.prog 86 #[Value.pointer x0, Value.int IntKind.i64 x1, Value.int IntKind.i64 x2, Value.slice x3a x3n x3c, Value.slice x4a x4n x4c] H R :=
  calls_by (F := F86 x0 x1 x2 x3a x3n x3c x4a x4n x4c R H) (.node none .leaf (.node none (.node (some ⟨[(39, 4)], [17, 18, 19, 20, 21, 22, 23, 24, 25, 26, 27, 28, 29, 30, 31, 32, 33, 34, 35, 36, 37, 38]⟩) .leaf .leaf) (.node none (.node none .leaf (.node none (.node (some ⟨[(42, 3)], [10, 11, 13, 43, 44, 45, 46, 47, 48, 49, 50, 51, 52, 53, 54, 55, 56]⟩) (.node none .leaf (.node none .leaf (.node none (.node none (.node none .leaf (.node (some ⟨[(55, 4)], [46, 47, 48, 49, 50, 51, 52, 53, 54]⟩) .leaf .leaf)) .leaf) .leaf))) .leaf) .leaf)) (.node none .leaf (.node none (.node none .leaf (.node none (.node (some ⟨[(73, 3)], [16, 74, 75, 76, 77, 78, 79, 80, 81, 82, 83, 84, 85, 86, 87, 88, 89, 90, 91, 92, 93]⟩) (.node none .leaf (.node none .leaf (.node (some ⟨[], [16, 75, 76, 77, 78, 79, 80, 81, 82, 83, 84, 85, 86, 87, 88, 89, 90, 91, 92]⟩) (.node none (.node none .leaf (.node (some ⟨[(85, 4)], [77, 78, 79, 80, 81, 82, 83, 84]⟩) .leaf .leaf)) .leaf) .leaf))) .leaf) .leaf)) .leaf))))) Tryz.func86 rfl (F86_eq x0 x1 x2 x3a x3n x3c x4a x4n x4c R H) h
end Go.Proofs.YtklppdodadkcnaaGreat.E
/- Contracts of functions. -/
namespace Go.Proofs.YtklppdodadkcnaaGreat.E
open Go Go.Proofs Go.RowKit Go.Maps Go.Shelf Go.Sort
set_option linter.unusedVariables false
set_option linter.unusedSimpArgs false
/-- the marks of a state, turned by a function -/
def remarkF (s : TH) (φ : Nat → Nat) : TH := ⟨s.h, fun j => φ (s.g j)⟩
theorem remarkF_ch {T : List Nat} {s s' : TH} {M : Nat} {φ : Nat → Nat} (c : Ch T s s') (hM : ∀ j, j < s.h.size → s.g j < M) (hφ : ∀ m, m < M → φ m = m) : Ch T s (remarkF s' φ) :=
  ⟨c.size, fun j hj => by show φ (s'.g j) = s.g j; rw [c.tag j hj]; exact hφ _ (hM j hj), c.get⟩
section
variable {s : TH} {φ : Nat → Nat}
theorem Blk.rf {r : Nat} {l : List Value} {t τ : Nat} (h : Blk s r l t τ) : Blk (remarkF s φ) r l t (φ τ) := ⟨h.get, congrArg φ h.tag⟩
theorem Sl.rf {a : Option Addr} {l : List Value} {τ : Nat} (h : Sl s a l τ) : Sl (remarkF s φ) a l (φ τ) := by
  rcases h with h | ⟨g, o, h1, h2, h3, h4⟩
  · exact .inl h
  · exact .inr ⟨g, o, h1, h2, congrArg φ h3, h4⟩
theorem Own.rf {a : Option Addr} {n c e k : Nat} {xs : List Value} {τ : Nat} (h : Own s a n c e k xs τ) : Own (remarkF s φ) a n c e k xs (φ τ) := by
  refine ⟨h.1, h.2.imp id ?_⟩
  rintro ⟨g, o, L, h1, h2, h3⟩
  exact ⟨g, o, L, h1, h2.rf, h3⟩
theorem ByAt.rf {τ : Nat} {p : Hd} {b : List UInt8} (h : ByAt s τ p b) : ByAt (remarkF s φ) (φ τ) p b := ⟨h.sl.rf, h.len⟩
theorem BRel.rf {τ : Nat} {hs : List Hd} {bs : List (List UInt8)} (h : BRel s τ hs bs) : BRel (remarkF s φ) (φ τ) hs bs := ⟨h.len, fun i p b h1 h2 => (h.at_ i p b h1 h2).rf⟩
end
/-- rows of bytes: the third with a mark of its own, and owned -/
structure B2 (s : TH) (τa τb : Nat) (hs : List Hd) (bs : List (List UInt8)) : Prop where
  len : hs.length = bs.length
  at_ : ∀ (i : Nat) (p : Hd) (b : List UInt8), i ≠ 2 → hs[i]? = some p → bs[i]? = some b → ByAt s τb p b
  two : ∀ (p : Hd) (b : List UInt8), hs[2]? = some p → bs[2]? = some b → b.length = 128 ∧ Own s p.1 128 p.2 5 1 (bvs b) τa
theorem B2.ch {s s' : TH} {τa τb : Nat} {hs : List Hd} {bs : List (List UInt8)} {T : List Nat} (h : B2 s τa τb hs bs) (c : Ch T s s') (ha : τa ∉ T) (hb : τb ∉ T) : B2 s' τa τb hs bs :=
  ⟨h.len, fun i p b h0 h1 h2 => (h.at_ i p b h0 h1 h2).mv c (tagn hb), fun p b h1 h2 => ⟨(h.two p b h1 h2).1, (h.two p b h1 h2).2.mv c (tagn ha)⟩⟩
theorem B2.rf {s : TH} {φ : Nat → Nat} {τa τb : Nat} {hs : List Hd} {bs : List (List UInt8)} (h : B2 s τa τb hs bs) : B2 (remarkF s φ) (φ τa) (φ τb) hs bs :=
  ⟨h.len, fun i p b h0 h1 h2 => (h.at_ i p b h0 h1 h2).rf, fun p b h1 h2 => ⟨(h.two p b h1 h2).1, (h.two p b h1 h2).2.rf⟩⟩
theorem B2.brel {s : TH} {τ : Nat} {hs : List Hd} {bs : List (List UInt8)} (h : B2 s τ τ hs bs) : BRel s τ hs bs := ⟨h.len, fun i p b h1 h2 => by
  by_cases e : i = 2
  · subst e; exact ⟨(h.two p b h1 h2).2.sl, (h.two p b h1 h2).1⟩
  · exact h.at_ i p b e h1 h2⟩
theorem B2.snoc {s : TH} {τa τb : Nat} {hs : List Hd} {bs : List (List UInt8)} (h : B2 s τa τb hs bs) {p : Hd} {b : List UInt8} (hl : b.length = 128) (ho : Own s p.1 128 p.2 5 1 (bvs b) (if hs.length = 2 then τa else τb)) : B2 s τa τb (hs ++ [p]) (bs ++ [b]) := by
  have e := h.len
  refine ⟨by simp [e], fun i q x h0 h1 h2 => ?_, fun q x h1 h2 => ?_⟩
  · rcases Nat.lt_trichotomy i hs.length with h3 | h3 | h3
    · rw [List.getElem?_append_left h3] at h1; rw [List.getElem?_append_left (by omega)] at h2; exact h.at_ i q x h0 h1 h2
    · subst h3
      rw [if_neg h0] at ho
      rw [List.getElem?_append_right (Nat.le_refl _), Nat.sub_self] at h1
      rw [List.getElem?_append_right (by omega), e, Nat.sub_self] at h2
      simp at h1 h2; subst h1 h2; exact ⟨ho.sl, hl⟩
    · rw [List.getElem?_eq_none (by simp; omega)] at h1; cases h1
  · rcases Nat.lt_trichotomy 2 hs.length with h3 | h3 | h3
    · rw [List.getElem?_append_left h3] at h1; rw [List.getElem?_append_left (by omega)] at h2; exact h.two q x h1 h2
    · rw [if_pos h3.symm] at ho
      rw [List.getElem?_append_right (by omega), ← h3, Nat.sub_self] at h1
      rw [List.getElem?_append_right (by omega), ← e, ← h3, Nat.sub_self] at h2
      simp at h1 h2; subst h1 h2; exact ⟨hl, ho⟩
    · rw [List.getElem?_eq_none (by simp; omega)] at h1; cases h1
theorem B2.app {s : TH} {τa τb : Nat} {hs hs' : List Hd} {bs bs' : List (List UInt8)} (h : B2 s τa τb hs bs) (k : BRel s τb hs' bs') (h3 : 3 ≤ hs.length) : B2 s τa τb (hs ++ hs') (bs ++ bs') := by
  have e := h.len
  refine ⟨by simp [e, k.len], fun i q x h0 h1 h2 => ?_, fun q x h1 h2 => ?_⟩
  · by_cases h4 : i < hs.length
    · rw [List.getElem?_append_left h4] at h1; rw [List.getElem?_append_left (by omega)] at h2; exact h.at_ i q x h0 h1 h2
    · rw [List.getElem?_append_right (by omega)] at h1; rw [List.getElem?_append_right (by omega), ← e] at h2; exact k.at_ _ q x h1 h2
  · rw [List.getElem?_append_left (by omega)] at h1; rw [List.getElem?_append_left (by omega)] at h2; exact h.two q x h1 h2
theorem copy_blk {P : Program} {t t2 ty e : TypeId} {E : List PanicEntry → Heap → Prop} {s : TH} {r o n c mc tb : Nat} {xa : Option Addr} {L : List Value} {x : List UInt8} {τ τx : Nat} {K : Value → Heap → Prop}
    (ht : P.underlying t = some (.slice e)) (hi' : (P.info? e).map (fun i => (i.zero, i.size, i.bytes)) = some (some (.int .u8 0), 1, 1))
    (hB : Blk s r L tb τ) (hx : Sl s xa (bvs x) τx) (hm : x.length = n) (hn : 0 < n) (ho : o + n ≤ L.length)
    (hk : ∀ s' : TH, Blk s' r (L.take o ++ bvs x ++ L.drop (o + n)) tb τ → On r s s' → s.h.size = s'.h.size → K (.int .i64 (n : Int)) s'.h) :
    semW P (Builtin.copy_ #[t, t2] ty #[.slice (some ⟨r, o, none⟩) n c, .slice xa n mc]) E s.h K := .mk fun w hw => by
  obtain ⟨i, hi, hz, hs, hby⟩ := info_of hi'
  obtain ⟨b, rfl⟩ := hx.some (fun h => by have := congrArg List.length h; rw [bvs_len, List.length_nil] at this; omega)
  have hfw := run_firstCells_some (P := P) w 1 n b n mc (bvs x) (by rw [bvs_len]; omega) fun j u hu => hx.cells w hw j u hu
  have hst := run_storeCells_at P r o tb (bvs x) 0 L.toArray w (by rw [hw]; exact hB.get) (by simp [bvs_len]; omega) (bvs_one _)
  simp only [Nat.add_zero, bvs_len] at hst
  have hr : (Builtin.copy_ #[t, t2] ty #[.slice (some ⟨r, o, none⟩) n c, .slice (some b) n mc]).run P w = .ok (.int .i64 (n : Int)) (w.setRow r (L.take o ++ bvs x ++ L.drop (o + n)).toArray) := by
    simp [Builtin.copy_, run_underlying ht, sizeOf, typeInfo, hi, hs, hfw, hst, goInt, Builtin.lenOf, hm]
  rw [hr]
  have hset : (w.setRow r (L.take o ++ bvs x ++ L.drop (o + n)).toArray).heap[r]? = some (.cells (L.take o ++ bvs x ++ L.drop (o + n)).toArray tb (0, 0)) := setRow_heap w r L.toArray _ tb _ (by rw [hw]; exact hB.get)
  have hK := hk ⟨(w.setRow r (L.take o ++ bvs x ++ L.drop (o + n)).toArray).heap, s.g⟩ ⟨hset, hB.tag⟩ ⟨by simp [← hw], fun _ _ => rfl, fun j hj hn => ?_⟩ (by simp [← hw])
  · exact ⟨hK, rfl, rfl, rfl⟩
  · show (w.setRow r _).heap[j]? = _
    rw [setRow_other w r j _ (fun e => hn (by simp [e])), hw]
theorem st_same {s : TH} {r i t τ : Nat} {l : List Value} {v : Value} {k : Heap → Prop} (h : Blk s r l t τ) (h1 : oneC v = true) (hv : l[i]? = some v) (hk : ∀ s' : TH, Blk s' r l t τ → On r s s' → s.h.size = s'.h.size → k s'.h) : st s.h ⟨r, i, none⟩ v k := by
  obtain ⟨hi, hg⟩ := List.getElem?_eq_some_iff.1 hv
  refine st_t h h1 hi fun s' b c z => hk s' ?_ c z
  rw [← hg, List.set_getElem_self] at b
  exact b
/-- a group's header, as it lies in memory -/
def gv (n : Int) (il bl : List UInt8) : List Value := .int .i64 n :: (bvs il ++ bvs bl)
def hdL (n : Nat) (il bl : List UInt8) : List UInt8 := [104, 100, UInt8.ofNat n, 0] ++ il ++ bl ++ List.replicate 84 0
theorem hdL_len (n : Nat) {il bl : List UInt8} (h1 : il.length = 8) (h2 : bl.length = 32) : (hdL n il bl).length = 128 := by simp [hdL, h1, h2]
theorem gv_bits {n : Int} {il bl x : List UInt8} (h1 : il.length = 8) (h2 : bl.length = 32) : (gv n il bl).take 9 ++ bvs x ++ (gv n il bl).drop (9 + 32) = gv n il x := by
  have e1 : (bvs il).length = 8 := by rw [bvs_len, h1]
  have e2 : (bvs bl).length = 32 := by rw [bvs_len, h2]
  unfold gv
  rw [show (9 : Nat) = 8 + 1 from rfl, List.take_succ_cons, show 8 + 1 + 32 = 40 + 1 from rfl, List.drop_succ_cons, List.take_append_of_le_length (by omega), List.take_of_length_le (by omega), List.drop_eq_nil_of_le (by simp [e1, e2])]
  simp
theorem gv_len {n : Int} {il bl : List UInt8} (h1 : il.length = 8) (h2 : bl.length = 32) : (gv n il bl).length = 41 := by simp [gv, bvs_len, h1, h2]
theorem gv_slB {s : TH} {r t τ : Nat} {n : Int} {il bl : List UInt8} (h : Blk s r (gv n il bl) t τ) (h1 : il.length = 8) (h2 : bl.length = 32) : Sl s (some ⟨r, 9, none⟩) (bvs bl) τ := Sl.of h (by
  have e1 : (bvs il).length = 8 := by rw [bvs_len, h1]
  have e2 : (bvs bl).length = 32 := by rw [bvs_len, h2]
  unfold gv
  rw [show (9 : Nat) = 8 + 1 from rfl, List.drop_succ_cons, List.drop_append_of_le_length (by omega), List.drop_eq_nil_of_le (by omega)]
  simp)
theorem gv_slI {s : TH} {r t τ : Nat} {n : Int} {il bl : List UInt8} (h : Blk s r (gv n il bl) t τ) (h1 : il.length = 8) (h2 : bl.length = 32) : Sl s (some ⟨r, 1, none⟩) (bvs il) τ := Sl.of h (by
  have e1 : (bvs il).length = 8 := by rw [bvs_len, h1]
  unfold gv
  rw [show (1 : Nat) = 0 + 1 from rfl, List.drop_succ_cons, List.drop_zero, List.take_append_of_le_length (by omega), List.take_of_length_le (by omega)])
/-- the first bits of a row are set -/
def setsB (l : List UInt8) : Nat → List UInt8
  | 0 => l
  | k + 1 => setB (setsB l k) k
theorem setsB_len (l : List UInt8) (k : Nat) : (setsB l k).length = l.length := by
  induction k with
  | zero => rfl
  | succ k ih => rw [setsB, setB_len, ih]
def zB32 : List UInt8 := List.replicate 32 0
theorem sets32 (k : Nat) : (setsB zB32 k).length = 32 := setsB_len _ _
def iL (n : Nat) : List UInt8 := [if n = 0 then 7 else 0, 0, 0, 0, 0, 0, 0, 0]
def nB (n N : Nat) : Nat := 2 + N / 4 + if n = 0 then 1 else 0
def zB128 : List UInt8 := List.replicate 128 0
theorem zB128_len : zB128.length = 128 := List.length_replicate
/-- a new group's blocks -/
def grpL (G B N n : Nat) : List (List UInt8) := [superL G B N 0, hdL n (iL n) (setsB zB32 (nB n N))] ++ List.replicate (B - 2) zB128
theorem grpL_len {G B N n : Nat} (h : 2 ≤ B) : (grpL G B N n).length = B := by simp [grpL]; omega
theorem B2.two2 {s : TH} {τa τb : Nat} {a1 a2 : Option Addr} {c1 c2 : Nat} {l1 l2 : List UInt8} (h1 : Own s a1 128 c1 5 1 (bvs l1) τb) (h2 : Own s a2 128 c2 5 1 (bvs l2) τb) (e1 : l1.length = 128) (e2 : l2.length = 128) : B2 s τa τb [(a1, c1), (a2, c2)] [l1, l2] := by
  refine ⟨rfl, fun i p b h0 g1 g2 => ?_, fun p b g1 g2 => by simp at g1⟩
  rcases i with _ | _ | i
  · simp at g1 g2; subst g1 g2; exact ⟨h1.sl, e1⟩
  · simp at g1 g2; subst g1 g2; exact ⟨h2.sl, e2⟩
  · simp at g1
theorem u8n {n : Nat} (h : n ≤ 200) : IntKind.u8.wrap (n : Int) = ((UInt8.ofNat n).toNat : Int) := by
  have e : IntKind.u8.wrap (n : Int) = (n : Int) % 256 := rfl
  have e2 : (UInt8.ofNat n).toNat = n % 256 := rfl
  rw [e, e2]; omega
theorem rowz (k : Nat) : rowZ [.int .u8 0] k = bvs (List.replicate k 0) := by
  induction k with
  | zero => rfl
  | succ k ih => rw [List.replicate_succ, bvs, List.map_cons, ← bvs, ← ih]; rfl
theorem len32 {l : List UInt8} (h0 : l.length = 32) : ∃ b0 b1 b2 b3 b4 b5 b6 b7 b8 b9 b10 b11 b12 b13 b14 b15 b16 b17 b18 b19 b20 b21 b22 b23 b24 b25 b26 b27 b28 b29 b30 b31 : UInt8, l = [b0, b1, b2, b3, b4, b5, b6, b7, b8, b9, b10, b11, b12, b13, b14, b15, b16, b17, b18, b19, b20, b21, b22, b23, b24, b25, b26, b27, b28, b29, b30, b31] := by
  obtain ⟨b0, l, rfl⟩ := List.exists_cons_of_length_eq_add_one (n := 31) (by exact h0)
  have h1 : l.length = 31 := by simpa using h0
  obtain ⟨b1, l, rfl⟩ := List.exists_cons_of_length_eq_add_one (n := 30) (by exact h1)
  have h2 : l.length = 30 := by simpa using h1
  obtain ⟨b2, l, rfl⟩ := List.exists_cons_of_length_eq_add_one (n := 29) (by exact h2)
  have h3 : l.length = 29 := by simpa using h2
  obtain ⟨b3, l, rfl⟩ := List.exists_cons_of_length_eq_add_one (n := 28) (by exact h3)
  have h4 : l.length = 28 := by simpa using h3
  obtain ⟨b4, l, rfl⟩ := List.exists_cons_of_length_eq_add_one (n := 27) (by exact h4)
  have h5 : l.length = 27 := by simpa using h4
  obtain ⟨b5, l, rfl⟩ := List.exists_cons_of_length_eq_add_one (n := 26) (by exact h5)
  have h6 : l.length = 26 := by simpa using h5
  obtain ⟨b6, l, rfl⟩ := List.exists_cons_of_length_eq_add_one (n := 25) (by exact h6)
  have h7 : l.length = 25 := by simpa using h6
  obtain ⟨b7, l, rfl⟩ := List.exists_cons_of_length_eq_add_one (n := 24) (by exact h7)
  have h8 : l.length = 24 := by simpa using h7
  obtain ⟨b8, l, rfl⟩ := List.exists_cons_of_length_eq_add_one (n := 23) (by exact h8)
  have h9 : l.length = 23 := by simpa using h8
  obtain ⟨b9, l, rfl⟩ := List.exists_cons_of_length_eq_add_one (n := 22) (by exact h9)
  have h10 : l.length = 22 := by simpa using h9
  obtain ⟨b10, l, rfl⟩ := List.exists_cons_of_length_eq_add_one (n := 21) (by exact h10)
  have h11 : l.length = 21 := by simpa using h10
  obtain ⟨b11, l, rfl⟩ := List.exists_cons_of_length_eq_add_one (n := 20) (by exact h11)
  have h12 : l.length = 20 := by simpa using h11
  obtain ⟨b12, l, rfl⟩ := List.exists_cons_of_length_eq_add_one (n := 19) (by exact h12)
  have h13 : l.length = 19 := by simpa using h12
  obtain ⟨b13, l, rfl⟩ := List.exists_cons_of_length_eq_add_one (n := 18) (by exact h13)
  have h14 : l.length = 18 := by simpa using h13
  obtain ⟨b14, l, rfl⟩ := List.exists_cons_of_length_eq_add_one (n := 17) (by exact h14)
  have h15 : l.length = 17 := by simpa using h14
  obtain ⟨b15, l, rfl⟩ := List.exists_cons_of_length_eq_add_one (n := 16) (by exact h15)
  have h16 : l.length = 16 := by simpa using h15
  obtain ⟨b16, l, rfl⟩ := List.exists_cons_of_length_eq_add_one (n := 15) (by exact h16)
  have h17 : l.length = 15 := by simpa using h16
  obtain ⟨b17, l, rfl⟩ := List.exists_cons_of_length_eq_add_one (n := 14) (by exact h17)
  have h18 : l.length = 14 := by simpa using h17
  obtain ⟨b18, l, rfl⟩ := List.exists_cons_of_length_eq_add_one (n := 13) (by exact h18)
  have h19 : l.length = 13 := by simpa using h18
  obtain ⟨b19, l, rfl⟩ := List.exists_cons_of_length_eq_add_one (n := 12) (by exact h19)
  have h20 : l.length = 12 := by simpa using h19
  obtain ⟨b20, l, rfl⟩ := List.exists_cons_of_length_eq_add_one (n := 11) (by exact h20)
  have h21 : l.length = 11 := by simpa using h20
  obtain ⟨b21, l, rfl⟩ := List.exists_cons_of_length_eq_add_one (n := 10) (by exact h21)
  have h22 : l.length = 10 := by simpa using h21
  obtain ⟨b22, l, rfl⟩ := List.exists_cons_of_length_eq_add_one (n := 9) (by exact h22)
  have h23 : l.length = 9 := by simpa using h22
  obtain ⟨b23, l, rfl⟩ := List.exists_cons_of_length_eq_add_one (n := 8) (by exact h23)
  have h24 : l.length = 8 := by simpa using h23
  obtain ⟨b24, l, rfl⟩ := List.exists_cons_of_length_eq_add_one (n := 7) (by exact h24)
  have h25 : l.length = 7 := by simpa using h24
  obtain ⟨b25, l, rfl⟩ := List.exists_cons_of_length_eq_add_one (n := 6) (by exact h25)
  have h26 : l.length = 6 := by simpa using h25
  obtain ⟨b26, l, rfl⟩ := List.exists_cons_of_length_eq_add_one (n := 5) (by exact h26)
  have h27 : l.length = 5 := by simpa using h26
  obtain ⟨b27, l, rfl⟩ := List.exists_cons_of_length_eq_add_one (n := 4) (by exact h27)
  have h28 : l.length = 4 := by simpa using h27
  obtain ⟨b28, l, rfl⟩ := List.exists_cons_of_length_eq_add_one (n := 3) (by exact h28)
  have h29 : l.length = 3 := by simpa using h28
  obtain ⟨b29, l, rfl⟩ := List.exists_cons_of_length_eq_add_one (n := 2) (by exact h29)
  have h30 : l.length = 2 := by simpa using h29
  obtain ⟨b30, l, rfl⟩ := List.exists_cons_of_length_eq_add_one (n := 1) (by exact h30)
  have h31 : l.length = 1 := by simpa using h30
  obtain ⟨b31, l, rfl⟩ := List.exists_cons_of_length_eq_add_one (n := 0) (by exact h31)
  have h32 : l.length = 0 := by simpa using h31
  obtain rfl := List.eq_nil_of_length_eq_zero h32
  exact ⟨b0, b1, b2, b3, b4, b5, b6, b7, b8, b9, b10, b11, b12, b13, b14, b15, b16, b17, b18, b19, b20, b21, b22, b23, b24, b25, b26, b27, b28, b29, b30, b31, rfl⟩
/-- bollard/bollardref03.EncodeGroup -/
theorem c_encGroup (τ n : Nat) (i0 i1 i2 i3 i4 i5 i6 i7 b0 b1 b2 b3 b4 b5 b6 b7 b8 b9 b10 b11 b12 b13 b14 b15 b16 b17 b18 b19 b20 b21 b22 b23 b24 b25 b26 b27 b28 b29 b30 b31 : UInt8) (s : TH) (hn : n ≤ 7) : TRet Tryz.prog 112 #[.agg (gv (n : Int) [i0, i1, i2, i3, i4, i5, i6, i7] [b0, b1, b2, b3, b4, b5, b6, b7, b8, b9, b10, b11, b12, b13, b14, b15, b16, b17, b18, b19, b20, b21, b22, b23, b24, b25, b26, b27, b28, b29, b30, b31]).toArray] s fun v s' => ∃ a' c', v = .tuple #[.slice a' 128 c', .int .i64 0] ∧ Ch [] s s' ∧ Own s' a' 128 c' 5 1 (bvs (hdL n [i0, i1, i2, i3, i4, i5, i6, i7] [b0, b1, b2, b3, b4, b5, b6, b7, b8, b9, b10, b11, b12, b13, b14, b15, b16, b17, b18, b19, b20, b21, b22, b23, b24, b25, b26, b27, b28, b29, b30, b31])) τ := by
  obtain ⟨M, hM, hM0, hMa, hMb, hMc, hMd, hMe, hMf⟩ := fresh6 s τ 0 0 0 0 0
  refine F112_calls _ _ _ _ _ _ _ _ _ _ _ _ _ _ _ _ _ _ _ _ _ _ _ _ _ _ _ _ _ _ _ _ _ _ _ _ _ _ _ _ _  ?_
  unfold F112
  refine al_t (M + 1) fun r1 s2 hr1 b_1 c_2 z_3 => ?_
  have hg1 : Blk s2 r1 (gv (n : Int) [i0, i1, i2, i3, i4, i5, i6, i7] [b0, b1, b2, b3, b4, b5, b6, b7, b8, b9, b10, b11, b12, b13, b14, b15, b16, b17, b18, b19, b20, b21, b22, b23, b24, b25, b26, b27, b28, b29, b30, b31]) 118 (M + 1) := b_1
  clear b_1
  refine jn_u ?_
  refine ld_t hg1 rfl ?_
  refine dInt_i ?_
  refine sB_d (fun hsB1 => by exfalso; omega) (fun hsB1 => ?_)
  refine ld_t hg1 rfl ?_
  refine dInt_i ?_
  intro _
  intros
  refine dBl_i ?_
  refine sB_d (fun hsB2 => by exfalso; omega) (fun hsB2 => ?_)
  refine al_t (M + 2) fun r13 s14 hr13 b_4 c_5 z_6 => ?_
  refine conv_lit u85 u5 (show Blk _ _ (bvs [104, 100]) _ _ from b_4) rfl fun s_7 lit_10 c_8o hsz => ?_
  have c_8 := on_ch b_4 c_8o
  have z_9 := c_8.size
  refine dSl_i ?_
  have h_11 := hg1.ch (c_5.app c_8) (by simp)
  refine ld_t h_11 rfl ?_
  refine dInt_i ?_
  refine wr_a fun n24 hn24 => ?_
  refine al_t (M + 3) fun r25 s26 hr25 b_12 c_13 z_14 => ?_
  have h_15 := lit_10.mv c_13 (tagn (by simp))
  refine app_g (x := [UInt8.ofNat n, 0]) (M + 4) u85 in5 h_15 rfl (by have h := (b_12).sl; rw [hn24, u8n (by omega)] at h; exact h) rfl (by omega) (by omega) fun s_16 a2 c2 o_19 c_17 hne => ?_
  have z_18 := c_17.size
  refine dSl_i ?_
  refine ask_t (by omega) ?_
  refine ask_t (by omega) ?_
  rw [slO_zero]
  have h_20 := h_11.ch (c_13.app c_17) (by simp)
  refine app_bv u85 in5 o_19 (gv_slI h_20 rfl rfl) rfl (by omega) fun s_21 a3 c3 o_24 c_22 => ?_
  have z_23 := c_22.size
  refine dSl_i ?_
  rw [slO_zero]
  have h_25 := h_20.ch c_22 (by simp)
  refine app_bv u85 in5 o_24 (gv_slB h_25 rfl rfl) rfl (by omega) fun s_26 a4 c4 o_29 c_27 => ?_
  have z_28 := c_27.size
  refine dSl_i ?_
  refine appz_i (m := 84) u85 u3 in5 o_29 (by obtain ⟨b, rfl⟩ := Own.ne_none o_29 (by omega); simp) (by omega) (by omega) fun s_30 a5 c5 o_33 c_31o => ?_
  have c_31 := c_31o.ch o_29 (T := [M + 4]) (by simp)
  have z_32 := c_31.size
  refine dSl_i ?_
  have ho := o_33
  refine ret_t' (s' := remarkF s_30 fun m => if m = M + 4 then τ else m) rfl ⟨_, _, rfl, remarkF_ch (((((((((Ch.refl [] s).ch c_2 (by simp)).ch c_5 (by simp)).fr c_8 hM (by simp)).ch c_13 (by simp)).ch c_17 (by simp)).fr c_22 hM (by simp)).fr c_27 hM (by simp)).fr c_31 hM (by simp)) hM (fun m hm => if_neg (by omega)), ?_⟩
  have h2 := ho.rf (φ := fun m => if m = M + 4 then τ else m)
  rw [if_pos rfl] at h2
  exact h2
/-- bollard/bollardref17.group -/
theorem c_group (τo τa τb : Nat) (G B N n : Nat) (s : TH) (hv : GeoOk G B N) (hn : n < G) : TRet Tryz.prog 53 #[.agg #[.int .i64 (G : Int), .int .i64 (B : Int), .int .i64 (N : Int)], .int .i64 (n : Int)] s fun v s' => ∃ a' c' hs, v = .slice a' B c' ∧ Ch [] s s' ∧ Own s' a' B c' 85 1 (hs.flatMap hd1) τo ∧ B2 s' τa τb hs (grpL G B N n) := by
  have hv2 := hv
  unfold GeoOk at hv2
  obtain ⟨M, hM, hM0, hMa, hMb, hMc, hMd, hMe, hMf⟩ := fresh6 s τo τa τb 0 0 0
  refine F53_calls _ _ _ _  ?_
  unfold F53
  refine al_t (M + 1) fun r1 s2 hr1 b_1 c_2 z_3 => ?_
  refine ld_t b_1 rfl ?_
  refine ld_t b_1 rfl ?_
  refine ld_t b_1 rfl ?_
  refine tcall (c_encSuper (M + 6) G B N 0 (by omega) hv (by decide)) ?_
  rintro v_5 s_4 ⟨acall1, ccall1, rfl, c_7, call1a⟩
  have z_8 := c_7.size
  refine dT2 ?_
  refine dSl_i ?_
  refine dInt_i ?_
  refine al_t (M + 2) fun r14 s15 hr14 b_9 c_10 z_11 => ?_
  have hg0 : Blk s15 r14 (gv 0 [0, 0, 0, 0, 0, 0, 0, 0] (setsB zB32 0)) 118 (M + 2) := b_9
  refine st_t hg0 rfl (by decide) fun s16 b_12 c_13o z_14 => ?_
  have c_13 := on_ch hg0 c_13o
  have hg1 : Blk s16 r14 (gv (n : Int) [0, 0, 0, 0, 0, 0, 0, 0] (setsB zB32 0)) 118 (M + 2) := b_12
  refine st_same hg1 rfl rfl fun s17 b_15 c_16o z_17 => ?_
  have c_16 := on_ch hg1 c_16o
  refine st_same b_15 rfl rfl fun s18 b_18 c_19o z_20 => ?_
  have c_19 := on_ch b_15 c_19o
  refine st_same b_18 rfl rfl fun s19 b_21 c_22o z_23 => ?_
  have c_22 := on_ch b_18 c_22o
  refine st_same b_21 rfl rfl fun s20 b_24 c_25o z_26 => ?_
  have c_25 := on_ch b_21 c_25o
  refine st_same b_24 rfl rfl fun s21 b_27 c_28o z_29 => ?_
  have c_28 := on_ch b_24 c_28o
  refine st_same b_27 rfl rfl fun s22 b_30 c_31o z_32 => ?_
  have c_31 := on_ch b_27 c_31o
  refine st_same b_30 rfl rfl fun s23 b_33 c_34o z_35 => ?_
  have c_34 := on_ch b_30 c_34o
  refine st_same b_33 rfl rfl fun s24 b_36 c_37o z_38 => ?_
  have c_37 := on_ch b_33 c_37o
  refine st_same b_36 rfl rfl fun s25 b_39 c_40o z_41 => ?_
  have c_40 := on_ch b_36 c_40o
  refine st_same b_39 rfl rfl fun s26 b_42 c_43o z_44 => ?_
  have c_43 := on_ch b_39 c_43o
  refine st_same b_42 rfl rfl fun s27 b_45 c_46o z_47 => ?_
  have c_46 := on_ch b_42 c_46o
  refine st_same b_45 rfl rfl fun s28 b_48 c_49o z_50 => ?_
  have c_49 := on_ch b_45 c_49o
  refine st_same b_48 rfl rfl fun s29 b_51 c_52o z_53 => ?_
  have c_52 := on_ch b_48 c_52o
  refine st_same b_51 rfl rfl fun s30 b_54 c_55o z_56 => ?_
  have c_55 := on_ch b_51 c_55o
  refine st_same b_54 rfl rfl fun s31 b_57 c_58o z_59 => ?_
  have c_58 := on_ch b_54 c_58o
  refine st_same b_57 rfl rfl fun s32 b_60 c_61o z_62 => ?_
  have c_61 := on_ch b_57 c_61o
  refine st_same b_60 rfl rfl fun s33 b_63 c_64o z_65 => ?_
  have c_64 := on_ch b_60 c_64o
  refine st_same b_63 rfl rfl fun s34 b_66 c_67o z_68 => ?_
  have c_67 := on_ch b_63 c_67o
  refine st_same b_66 rfl rfl fun s35 b_69 c_70o z_71 => ?_
  have c_70 := on_ch b_66 c_70o
  refine st_same b_69 rfl rfl fun s36 b_72 c_73o z_74 => ?_
  have c_73 := on_ch b_69 c_73o
  refine st_same b_72 rfl rfl fun s37 b_75 c_76o z_77 => ?_
  have c_76 := on_ch b_72 c_76o
  refine st_same b_75 rfl rfl fun s38 b_78 c_79o z_80 => ?_
  have c_79 := on_ch b_75 c_79o
  refine st_same b_78 rfl rfl fun s39 b_81 c_82o z_83 => ?_
  have c_82 := on_ch b_78 c_82o
  refine st_same b_81 rfl rfl fun s40 b_84 c_85o z_86 => ?_
  have c_85 := on_ch b_81 c_85o
  refine st_same b_84 rfl rfl fun s41 b_87 c_88o z_89 => ?_
  have c_88 := on_ch b_84 c_88o
  refine st_same b_87 rfl rfl fun s42 b_90 c_91o z_92 => ?_
  have c_91 := on_ch b_87 c_91o
  refine st_same b_90 rfl rfl fun s43 b_93 c_94o z_95 => ?_
  have c_94 := on_ch b_90 c_94o
  refine st_same b_93 rfl rfl fun s44 b_96 c_97o z_98 => ?_
  have c_97 := on_ch b_93 c_97o
  refine st_same b_96 rfl rfl fun s45 b_99 c_100o z_101 => ?_
  have c_100 := on_ch b_96 c_100o
  refine st_same b_99 rfl rfl fun s46 b_102 c_103o z_104 => ?_
  have c_103 := on_ch b_99 c_103o
  refine st_same b_102 rfl rfl fun s47 b_105 c_106o z_107 => ?_
  have c_106 := on_ch b_102 c_106o
  refine st_same b_105 rfl rfl fun s48 b_108 c_109o z_110 => ?_
  have c_109 := on_ch b_105 c_109o
  refine st_same b_108 rfl rfl fun s49 b_111 c_112o z_113 => ?_
  have c_112 := on_ch b_108 c_112o
  refine st_same b_111 rfl rfl fun s50 b_114 c_115o z_116 => ?_
  have c_115 := on_ch b_111 c_115o
  refine st_same b_114 rfl rfl fun s51 b_117 c_118o z_119 => ?_
  have c_118 := on_ch b_114 c_118o
  refine st_same b_117 rfl rfl fun s52 b_120 c_121o z_122 => ?_
  have c_121 := on_ch b_117 c_121o
  refine st_same b_120 rfl rfl fun s53 b_123 c_124o z_125 => ?_
  have c_124 := on_ch b_120 c_124o
  refine st_same b_123 rfl rfl fun s54 b_126 c_127o z_128 => ?_
  have c_127 := on_ch b_123 c_127o
  refine st_same b_126 rfl rfl fun s55 b_129 c_130o z_131 => ?_
  have c_130 := on_ch b_126 c_130o
  refine st_same b_129 rfl rfl fun s56 b_132 c_133o z_134 => ?_
  have c_133 := on_ch b_129 c_133o
  have h_135 := b_1.ch ((((((((((((((((((((((((((((((((((((((((((c_7.app c_10).app c_13).app c_16).app c_19).app c_22).app c_25).app c_28).app c_31).app c_34).app c_37).app c_40).app c_43).app c_46).app c_49).app c_52).app c_55).app c_58).app c_61).app c_64).app c_67).app c_70).app c_73).app c_76).app c_79).app c_82).app c_85).app c_88).app c_91).app c_94).app c_97).app c_100).app c_103).app c_106).app c_109).app c_112).app c_115).app c_118).app c_121).app c_124).app c_127).app c_130).app c_133) (by simp)
  refine ld_t h_135 rfl ?_
  refine dInt_i ?_
  refine ask_t (by omega) ?_
  have hq4 : Int.tdiv (N : Int) 4 = ((N / 4 : Nat) : Int) := by rw [Int.tdiv_eq_ediv_of_nonneg (by omega)]; omega
  rw [hq4]
  refine wr_t (by omega) ?_
  refine wr_t (by omega) ?_
  refine ⟨fun vs H' => ∃ s' : TH, s'.h = H' ∧ ∃ i, vs = [.int .i64 i] ∧ Ch [M + 2, M + 10] s56 s' ∧ (∃ k : Nat, i = k ∧ k ≤ 2 + N / 4 ∧ Blk s' r14 (gv (n : Int) [0, 0, 0, 0, 0, 0, 0, 0] (setsB zB32 k)) 118 (M + 2)), fun vs H' => match vs with | [.int .i64 i] => (((2 + N / 4 : Nat) : Int) - i).toNat | _ => 0, ⟨s56, rfl, _, rfl, Ch.refl _ _, ?_⟩, ?_⟩
  ·
    exact ⟨0, rfl, by omega, b_132⟩
  ·
    intro i _ _ _ _ _ _ _ _ _ _ _ _ _ _ _ _ _ H_ hI_137
    obtain ⟨s_136, rfl, i_, hvs, c_138, k, rfl, hk, hb⟩ := hI_137
    cases hvs
    have z_139 := c_138.size
    refine sB_d (fun hsB1 => ?_) (fun hsB1 => ?_)
    ·
      refine ask_t (by omega) ?_
      rw [slO_zero]
      refine tcall (c_rwith (M + 10) 32 (gv_slB hb rfl (sets32 _)) (sets32 _) (fun h => by cases h) (by decide) k (by omega) (by omega)) ?_
      rintro v_141 s_140 ⟨acall2, ccall2, rfl, c_143, call2a⟩
      have z_144 := c_143.size
      refine dT2 ?_
      refine dSl_i ?_
      refine dInt_i ?_
      refine ask_t (by omega) ?_
      have h_145 := hb.ch c_143 (by simp)
      refine copy_blk (n := 32) u85 in5 h_145 (call2a).sl (by rw [setB_len, sets32]) (by decide) (by rw [gv_len rfl (sets32 _)]; decide) fun s_146 r14_149 c_147o _ => ?_
      have c_147 := on_ch h_145 c_147o
      have z_148 := c_147.size
      refine dInt_i ?_
      refine wr_t (by omega) ?_
      refine ⟨⟨s_146, rfl, _, rfl, ((((Ch.refl [M + 2, M + 10] s56).ch c_138 (by simp)).ch c_143 (by simp)).ch c_147 (by simp)), ?_⟩, ?_⟩
      ·
        exact ⟨k + 1, by omega, by omega, by have h := r14_149; rw [gv_bits rfl (sets32 _)] at h; exact h⟩
      ·
        simp only []; omega
    ·
      refine jn0 (fun s' => Ch [M + 2, M + 10] s_136 s' ∧ (Blk s' r14 (gv (n : Int) (iL n) (setsB zB32 (nB n N))) 118 (M + 2))) ?_ ?_
      ·
        rintro  s_150 ⟨c_151, hb⟩
        have z_152 := c_151.size
        obtain ⟨b0, b1, b2, b3, b4, b5, b6, b7, b8, b9, b10, b11, b12, b13, b14, b15, b16, b17, b18, b19, b20, b21, b22, b23, b24, b25, b26, b27, b28, b29, b30, b31, hbb⟩ := len32 (sets32 (nB n N))
        have hg7 := hb
        rw [hbb] at hg7
        intro _
        intros
        refine ld_t hg7 rfl ?_
        refine ld_t hg7 rfl ?_
        refine ld_t hg7 rfl ?_
        refine ld_t hg7 rfl ?_
        refine ld_t hg7 rfl ?_
        refine ld_t hg7 rfl ?_
        refine ld_t hg7 rfl ?_
        refine ld_t hg7 rfl ?_
        refine ld_t hg7 rfl ?_
        refine ld_t hg7 rfl ?_
        refine ld_t hg7 rfl ?_
        refine ld_t hg7 rfl ?_
        refine ld_t hg7 rfl ?_
        refine ld_t hg7 rfl ?_
        refine ld_t hg7 rfl ?_
        refine ld_t hg7 rfl ?_
        refine ld_t hg7 rfl ?_
        refine ld_t hg7 rfl ?_
        refine ld_t hg7 rfl ?_
        refine ld_t hg7 rfl ?_
        refine ld_t hg7 rfl ?_
        refine ld_t hg7 rfl ?_
        refine ld_t hg7 rfl ?_
        refine ld_t hg7 rfl ?_
        refine ld_t hg7 rfl ?_
        refine ld_t hg7 rfl ?_
        refine ld_t hg7 rfl ?_
        refine ld_t hg7 rfl ?_
        refine ld_t hg7 rfl ?_
        refine ld_t hg7 rfl ?_
        refine ld_t hg7 rfl ?_
        refine ld_t hg7 rfl ?_
        refine ld_t hg7 rfl ?_
        refine ld_t hg7 rfl ?_
        refine ld_t hg7 rfl ?_
        refine ld_t hg7 rfl ?_
        refine ld_t hg7 rfl ?_
        refine ld_t hg7 rfl ?_
        refine ld_t hg7 rfl ?_
        refine ld_t hg7 rfl ?_
        refine ld_t hg7 rfl ?_
        refine tcall (c_encGroup (M + 6) n (if n = 0 then 7 else 0) 0 0 0 0 0 0 0 b0 b1 b2 b3 b4 b5 b6 b7 b8 b9 b10 b11 b12 b13 b14 b15 b16 b17 b18 b19 b20 b21 b22 b23 b24 b25 b26 b27 b28 b29 b30 b31 _ (by omega)) ?_
        rintro v_154 s_153 ⟨acall3, ccall3, rfl, c_156, call3a⟩
        have z_157 := c_156.size
        rw [show [if n = 0 then 7 else 0, 0, 0, 0, 0, 0, 0, 0] = iL n from rfl, ← hbb] at call3a
        refine dT2 ?_
        refine dSl_i ?_
        refine dInt_i ?_
        refine al_t (M + 5) fun r169 s170 hr169 b_158 c_159 z_160 => ?_
        refine ⟨fun vs H' => ∃ s' : TH, s'.h = H' ∧ ∃ pa pn pc, vs = [.slice pa pn pc] ∧ Ch [M + 5] s170 s' ∧ (∃ hs : List Hd, hs.length = pn ∧ 2 ≤ pn ∧ pn ≤ B ∧ Own s' pa pn pc 85 1 (hs.flatMap hd1) (M + 5) ∧ B2 s' (M + 8) (M + 6) hs ([superL G B N 0, hdL n (iL n) (setsB zB32 (nB n N))] ++ List.replicate (pn - 2) zB128)), fun vs H' => match vs with | [.slice pa pn pc] => B - pn | _ => 0, ⟨s170, rfl, _, _, _, rfl, Ch.refl _ _, ?_⟩, ?_⟩
        ·
          have h_161 := call1a.mv (((((((((((((((((((((((((((((((((((((((((((((c_10.app c_13).app c_16).app c_19).app c_22).app c_25).app c_28).app c_31).app c_34).app c_37).app c_40).app c_43).app c_46).app c_49).app c_52).app c_55).app c_58).app c_61).app c_64).app c_67).app c_70).app c_73).app c_76).app c_79).app c_82).app c_85).app c_88).app c_91).app c_94).app c_97).app c_100).app c_103).app c_106).app c_109).app c_112).app c_115).app c_118).app c_121).app c_124).app c_127).app c_130).app c_133).app c_138).app c_151).app c_156).app c_159) (tagn (by simp))
          have h_162 := call3a.mv c_159 (tagn (by simp))
          exact ⟨[(acall1, ccall1), (acall3, ccall3)], rfl, by omega, by omega, (b_158).own 1 rfl (by unfold maxLen; omega), B2.two2 h_161 h_162 (superL_len _ _ _ _) (hdL_len _ rfl (sets32 _))⟩
        ·
          intro pa pn pc _ _ _ _ _ _ _ _ _ H_ hI_164
          obtain ⟨s_163, rfl, pa_, pn_, pc_, hvs, c_165, hs, hl, hk1, hk2, ho, hb2⟩ := hI_164
          cases hvs
          have z_166 := c_165.size
          obtain ⟨μ, hμ, hμ2⟩ : ∃ μ, μ = (if pn = 2 then M + 8 else M + 6) ∧ M + 6 ≤ μ := ⟨_, rfl, by split <;> omega⟩
          have h_167 := h_135.ch ((((c_138.app c_151).app c_156).app c_159).app c_165) (by simp)
          refine ld_t h_167 rfl ?_
          refine dInt_i ?_
          refine sB_d (fun hsB2 => ?_) (fun hsB2 => ?_)
          ·
            refine ask_t (by omega) ?_
            refine al_t μ fun r189 s190 hr189 b_168 c_169 z_170 => ?_
            refine al_t (M + 9) fun r191 s192 hr191 b_171 c_172 z_173 => ?_
            have h_174 := ho.mv (c_169.app c_172) (tagn (by simp))
            refine app_i u49 in85 rfl h_174 (b_171).sl (m := 1) (k := 1) rfl (by intro u hu; simp at hu; subst hu; rfl) (by simp) (by unfold maxLen; omega) fun s_175 pa2 pc2 o_178 c_176o _ => ?_
            have c_176 := c_176o.ch h_174 (T := [M + 5]) (by simp)
            have z_177 := c_176.size
            refine dSl_i ?_
            refine ⟨⟨s_175, rfl, _, _, _, rfl, (((((Ch.refl [M + 5] s170).ch c_165 (by simp)).ch c_169 (by simp)).ch c_172 (by simp)).ch c_176 (by simp)), ?_⟩, ?_⟩
            ·
              have h_179 := b_168.ch (c_172.app c_176) (by simp <;> omega)
              have h_180 := hb2.ch ((c_169.app c_172).app c_176) (by simp <;> omega) (by simp <;> omega)
              have ho2 := (h_179).own (n := 128) 1 (by rw [show Int.toNat 128 = 128 from rfl, rowz, bvs_len]; rfl) (by unfold maxLen; omega)
              rw [show Int.toNat 128 = 128 from rfl, rowz, hμ, ← hl] at ho2
              exact ⟨hs ++ [(some ⟨r189, 0, none⟩, 128)], by simp [hl], by omega, by omega, by have h := o_178; simpa [hd1] using h, by rw [show pn + 1 - 2 = (pn - 2) + 1 by omega, List.replicate_succ', ← List.append_assoc]; exact (h_180).snoc zB128_len ho2⟩
            ·
              simp only []; omega
          ·
            obtain rfl : pn = B := by omega
            obtain ⟨φ, hφ⟩ : ∃ φ : Nat → Nat, φ = fun m => if m = M + 5 then τo else if m = M + 6 then τb else if m = M + 8 then τa else m := ⟨_, rfl⟩
            have f5 : φ (M + 5) = τo := by subst hφ; exact if_pos rfl
            have f6 : φ (M + 6) = τb := by subst hφ; simp
            have f8 : φ (M + 8) = τa := by subst hφ; simp
            have h1 := (ho).rf (φ := φ)
            have h2 := (hb2).rf (φ := φ)
            rw [f5] at h1
            rw [f6, f8] at h2
            exact ret_t' (s' := remarkF s_163 φ) rfl ⟨_, _, _, rfl, remarkF_ch ((((((((((((((((((((((((((((((((((((((((((((((((((Ch.refl [] s).ch c_2 (by simp)).fr c_7 hM (by simp)).ch c_10 (by simp)).fr c_13 hM (by simp)).fr c_16 hM (by simp)).fr c_19 hM (by simp)).fr c_22 hM (by simp)).fr c_25 hM (by simp)).fr c_28 hM (by simp)).fr c_31 hM (by simp)).fr c_34 hM (by simp)).fr c_37 hM (by simp)).fr c_40 hM (by simp)).fr c_43 hM (by simp)).fr c_46 hM (by simp)).fr c_49 hM (by simp)).fr c_52 hM (by simp)).fr c_55 hM (by simp)).fr c_58 hM (by simp)).fr c_61 hM (by simp)).fr c_64 hM (by simp)).fr c_67 hM (by simp)).fr c_70 hM (by simp)).fr c_73 hM (by simp)).fr c_76 hM (by simp)).fr c_79 hM (by simp)).fr c_82 hM (by simp)).fr c_85 hM (by simp)).fr c_88 hM (by simp)).fr c_91 hM (by simp)).fr c_94 hM (by simp)).fr c_97 hM (by simp)).fr c_100 hM (by simp)).fr c_103 hM (by simp)).fr c_106 hM (by simp)).fr c_109 hM (by simp)).fr c_112 hM (by simp)).fr c_115 hM (by simp)).fr c_118 hM (by simp)).fr c_121 hM (by simp)).fr c_124 hM (by simp)).fr c_127 hM (by simp)).fr c_130 hM (by simp)).fr c_133 hM (by simp)).fr c_138 hM (by simp)).fr c_151 hM (by simp)).ch c_156 (by simp)).ch c_159 (by simp)).fr c_165 hM (by simp)) hM (fun m hm => by subst hφ; simp only; rw [if_neg (by omega), if_neg (by omega), if_neg (by omega)]), h1, h2⟩
      ·
        intro K_181 hK_181
        refine sB_d (fun hsB3 => ?_) (fun hsB3 => ?_)
        ·
          refine ask_t (by omega) ?_
          have h_182 := h_135.ch c_138 (by simp)
          refine ld_t h_182 rfl ?_
          refine dInt_i ?_
          refine ask_t (by omega) ?_
          refine wr_t (by omega) ?_
          refine wr_t (by omega) ?_
          rw [slO_zero]
          obtain rfl : n = 0 := by omega
          rw [hq4, show (2 + ((N / 4 : Nat) : Int)) = ((2 + N / 4 : Nat) : Int) by omega]
          obtain rfl : k = 2 + N / 4 := by omega
          refine tcall (c_rwith (M + 10) 32 (gv_slB hb rfl (sets32 _)) (sets32 _) (fun h => by cases h) (by decide) (2 + N / 4) (by omega) (by omega)) ?_
          rintro v_184 s_183 ⟨acall4, ccall4, rfl, c_186, call4a⟩
          have z_187 := c_186.size
          refine dT2 ?_
          refine dSl_i ?_
          refine dInt_i ?_
          refine ask_t (by omega) ?_
          have h_188 := hb.ch c_186 (by simp)
          refine copy_blk (n := 32) u85 in5 h_188 (call4a).sl (by rw [setB_len, sets32]) (by decide) (by rw [gv_len rfl (sets32 _)]; decide) fun s_189 r14_192 c_190o _ => ?_
          have c_190 := on_ch h_188 c_190o
          have z_191 := c_190.size
          have hg5 := r14_192
          rw [gv_bits rfl (sets32 _)] at hg5
          refine dInt_i ?_
          refine ask_t (by omega) ?_
          refine st_t (r := r14) (i := 1) hg5 rfl (by rw [gv_len rfl (by rw [setB_len, sets32])]; decide) fun s220 b_193 c_194o z_195 => ?_
          have c_194 := on_ch hg5 c_194o
          refine hK_181 _ ⟨((((Ch.refl [M + 2, M + 10] s_136).ch c_186 (by simp)).ch c_190 (by simp)).ch c_194 (by simp)), ?_⟩
          exact b_193
        ·
          refine hK_181 _ ⟨(Ch.refl [M + 2, M + 10] s_136), ?_⟩
          have hn0 : n ≠ 0 := by omega
          obtain rfl : k = 2 + N / 4 := by omega
          have h := hb
          rw [show iL n = [0, 0, 0, 0, 0, 0, 0, 0] from by unfold iL; rw [if_neg hn0], show nB n N = 2 + N / 4 from by unfold nB; rw [if_neg hn0]; rfl]
          exact h
/-- the blocks of a volume's first groups, as they are made first -/
def mkL (G B N : Nat) : Nat → List (List UInt8)
  | 0 => []
  | k + 1 => mkL G B N k ++ grpL G B N k
theorem mkL_len {G B N : Nat} (h : 2 ≤ B) : ∀ k, (mkL G B N k).length = k * B
  | 0 => by simp [mkL]
  | k + 1 => by rw [mkL, List.length_append, mkL_len h k, grpL_len h, Nat.succ_mul]
theorem mkL_two {G B N : Nat} (h : 3 ≤ B) : ∀ {k : Nat}, 1 ≤ k → (mkL G B N k)[2]? = some zB128
  | 1, _ => by
    rw [mkL, mkL, List.nil_append, grpL, List.getElem?_append_right (by simp)]
    show (List.replicate (B - 2) zB128)[0]? = _
    rw [List.getElem?_replicate, if_pos (by omega)]
  | k + 2, _ => by
    rw [mkL, List.getElem?_append_left, mkL_two h (by omega)]
    rw [mkL_len (by omega)]
    have : 1 * 3 ≤ (k + 1) * B := Nat.mul_le_mul (by omega) h
    omega
def dots : List (Nat × ByteArray) := [(2, ⟨#[46]⟩), (2, ⟨#[46, 46]⟩)]
def rootL (N : Nat) : List UInt8 := overlay zB128 64 (dinL 2 2 128 (2 + N / 4) 0 0 0 0 0)
/-- a new volume's blocks -/
def makeL (G B N : Nat) : List (List UInt8) := ((mkL G B N G).set 2 (rootL N)).set (2 + N / 4) (dirsL dots)
theorem makeL_len {G B N : Nat} (h : 2 ≤ B) : (makeL G B N).length = G * B := by simp [makeL, mkL_len h]
theorem dots_nc (i j : Nat) (e f : Nat × ByteArray) (h : j < i) (h1 : dots[i]? = some e) (h2 : dots[j]? = some f) : ¬ (e.1 ≠ 0 ∧ f.1 ≠ 0 ∧ e.2.toList = f.2.toList) := by
  rcases i with _ | _ | i
  · omega
  · obtain rfl : j = 0 := by omega
    cases h1; cases h2
    exact fun h => by have h := congrArg List.length h.2.2; simp at h
  · cases h1
theorem dots_ok : ∀ e ∈ dots, Dot e.2 ∧ 1 ≤ e.1 ∧ e.1 ≤ 511 := by
  intro e he
  simp only [dots, List.mem_cons, List.not_mem_nil, or_false] at he
  rcases he with rfl | rfl
  · exact ⟨.inl rfl, by decide, by decide⟩
  · exact ⟨.inr rfl, by decide, by decide⟩
theorem dots_len : (dirsL dots).length = 128 := by unfold dirsL; rw [List.length_append, entsL_len]; rfl
theorem hd1_one (hs : List Hd) : ∀ u ∈ hs.flatMap hd1, u.oneCell' = true := by
  intro u hu
  obtain ⟨p, _, hp⟩ := List.mem_flatMap.1 hu
  simp [hd1] at hp; subst hp; rfl
theorem B2.cp {s s' : TH} {τa τb : Nat} {hs : List Hd} {bs : List (List UInt8)} (h : B2 s τa τb hs bs) (c : Ch [τa] s s') (hne : τa ≠ τb) {p : Hd} {b : List UInt8} (hp : hs[2]? = some p) (hl : b.length = 128) (ho : Own s' p.1 128 p.2 5 1 (bvs b) τa) : B2 s' τa τb hs (bs.set 2 b) := by
  refine ⟨by simp [h.len], fun i q x h0 h1 h2 => ?_, fun q x h1 h2 => ?_⟩
  · rw [List.getElem?_set_ne (by omega)] at h2; exact (h.at_ i q x h0 h1 h2).mv c (tagn (by simp; exact fun e => hne e.symm))
  · rw [hp] at h1; cases h1
    have h3 : 2 < bs.length := by rw [← h.len]; exact (List.getElem?_eq_some_iff.1 hp).1
    rw [List.getElem?_set_self h3] at h2; cases h2
    exact ⟨hl, ho⟩
/-- bollard/bollardref17.Make -/
theorem c_make (τo τb : Nat) (G B N : Nat) (s : TH) (hv : GeoOk G B N) : TRet Tryz.prog 20 #[.agg #[.int .i64 (G : Int), .int .i64 (B : Int), .int .i64 (N : Int)]] s fun v s' => ∃ a' c' hs, v = .tuple #[.slice a' (G * B) c', .int .i64 0] ∧ Ch [] s s' ∧ Own s' a' (G * B) c' 85 1 (hs.flatMap hd1) τo ∧ BRel s' τb hs (makeL G B N) := by
  have hv2 := hv
  unfold GeoOk at hv2
  have hcan : canG (G : Int) (B : Int) (N : Int) := by unfold canG; omega
  have hGB : 1 * 8 ≤ G * B := Nat.mul_le_mul (by omega) (by omega)
  have hBG : 1 * B ≤ G * B := Nat.mul_le_mul (by omega) (Nat.le_refl _)
  obtain ⟨M, hM, hM0, hMa, hMb, hMc, hMd, hMe, hMf⟩ := fresh6 s τo τb 0 0 0 0
  refine F20_calls _ _ _  ?_
  unfold F20
  refine al_t (M + 1) fun r1 s2 hr1 b_1 c_2 z_3 => ?_
  refine ld_t b_1 rfl ?_
  refine ld_t b_1 rfl ?_
  refine ld_t b_1 rfl ?_
  refine tcall (gc_rcan (G : Int) (B : Int) (N : Int) _) ?_
  rintro v_5 s_4 ⟨rfl, c_7⟩
  have z_8 := c_7.size
  rw [if_pos hcan]
  refine dInt_i ?_
  refine sB_f (by rfl) ?_
  have h_9 := b_1.ch c_7 (by simp)
  refine ld_t h_9 rfl ?_
  refine dInt_i ?_
  refine ⟨fun vs H' => ∃ s' : TH, s'.h = H' ∧ ∃ pa pn pc i, vs = [.slice pa pn pc, .int .i64 i] ∧ Ch [M + 5] s_4 s' ∧ (∃ (k : Nat) (hs : List Hd), i = k ∧ k ≤ G ∧ pn = k * B ∧ Own s' pa pn pc 85 1 (hs.flatMap hd1) (M + 5) ∧ B2 s' (M + 8) (M + 6) hs (mkL G B N k)), fun vs H' => match vs with | [.slice pa pn pc, .int .i64 i] => ((G : Int) - i).toNat | _ => 0, ⟨s_4, rfl, _, _, _, _, rfl, Ch.refl _ _, ?_⟩, ?_⟩
  ·
    exact ⟨0, [], rfl, by omega, by simp, Own.nil _ _ _ _, ⟨rfl, fun i p b _ h _ => by simp at h, fun p b h _ => by simp at h⟩⟩
  ·
    intro pa pn pc i _ _ _ _ _ _ _ _ _ H_ hI_11
    obtain ⟨s_10, rfl, pa_, pn_, pc_, i_, hvs, c_12, k, hs, rfl, hk, hpn, ho, hb2⟩ := hI_11
    cases hvs
    have z_13 := c_12.size
    obtain ⟨μ, hμ, hμ2⟩ : ∃ μ, μ = (if k = 0 then M + 8 else M + 6) ∧ M + 6 ≤ μ := ⟨_, rfl, by split <;> omega⟩
    have hkB : k * B ≤ 8 * 256 := Nat.mul_le_mul (by omega) (by omega)
    have hhl := hb2.len
    rw [mkL_len (by omega)] at hhl
    refine sB_d (fun hsB2 => ?_) (fun hsB2 => ?_)
    ·
      have h_14 := h_9.ch c_12 (by simp)
      refine ld_t h_14 rfl ?_
      refine ld_t h_14 rfl ?_
      refine ld_t h_14 rfl ?_
      refine tcall (c_group (M + 10) μ (M + 6) G B N k _ hv (by omega)) ?_
      rintro v_16 s_15 ⟨acall2, ccall2, hscall2, rfl, c_18, call2a, call2b⟩
      have z_19 := c_18.size
      refine dSl_i ?_
      have h_20 := ho.mv c_18 (tagn (by simp))
      refine app_i u49 in85 rfl h_20 (call2a).sl (m := B) (k := 1) ((call2a).1) (hd1_one _) (call2a).none_iff (by unfold maxLen; omega) fun s_21 pa2 pc2 o_24 c_22o _ => ?_
      have c_22 := c_22o.ch h_20 (T := [M + 5]) (by simp)
      have z_23 := c_22.size
      refine dSl_i ?_
      refine wr_t (by omega) ?_
      refine ⟨⟨s_21, rfl, _, _, _, _, rfl, ((((Ch.refl [M + 5] s_4).ch c_12 (by simp)).ch c_18 (by simp)).ch c_22 (by simp)), ?_⟩, ?_⟩
      ·
        have h_25 := call2b.ch c_22 (by simp <;> omega) (by simp <;> omega)
        have h_26 := hb2.ch (c_18.app c_22) (by simp <;> omega) (by simp <;> omega)
        have hb3 : B2 s_21 μ (M + 6) hscall2 (grpL G B N k) := h_25
        have hb4 : B2 s_21 (M + 8) (M + 6) hs (mkL G B N k) := h_26
        refine ⟨k + 1, hs ++ hscall2, by omega, by omega, by rw [hpn, Nat.succ_mul], by have h := o_24; simpa [List.flatMap_append] using h, ?_⟩
        by_cases hk0 : k = 0
        · subst hk0
          have he : hs = [] := List.eq_nil_of_length_eq_zero (by rw [hhl]; simp)
          subst he
          rw [if_pos rfl] at hμ; subst hμ
          exact hb3
        · rw [if_neg hk0] at hμ; subst hμ
          have h1B : 1 * 8 ≤ k * B := Nat.mul_le_mul (by omega) (by omega)
          exact hb4.app hb3.brel (by omega)
      ·
        simp only []; omega
    ·
      have h_27 := h_9.ch c_12 (by simp)
      refine ld_t h_27 rfl ?_
      refine dInt_i ?_
      refine ask_t (by omega) ?_
      refine wr_t (by simp <;> omega) ?_
      refine wr_t (by simp <;> omega) ?_
      have hq4 : Int.tdiv (N : Int) 4 = ((N / 4 : Nat) : Int) := by rw [Int.tdiv_eq_ediv_of_nonneg (by omega)]; omega
      obtain rfl : k = G := by omega
      rw [hq4, show (2 + ((N / 4 : Nat) : Int)) = ((2 + N / 4 : Nat) : Int) by omega]
      refine tcall (c_encDin (M + 12) 2 2 128 (2 + N / 4) 0 0 0 0 0 (by omega) (by unfold DinOk; omega)) ?_
      rintro v_29 s_28 ⟨acall3, ccall3, rfl, c_31, call3a⟩
      have z_32 := c_31.size
      obtain ⟨⟨a2, c2⟩, hx2⟩ : ∃ x, hs[2]? = some x := ⟨hs[2]'(by omega), by simp⟩
      have h_33 := hb2.ch c_31 (by simp <;> omega) (by simp <;> omega)
      have hb0 := h_33
      have ho2 := (hb0.two _ _ hx2 (mkL_two (by omega) (by omega))).2
      obtain ⟨ax, hax⟩ := ho2.ne_none (by omega)
      simp only at hax
      subst hax
      have ho5 : Own s_28 (some ax) 128 c2 5 1 (bvs zB128) (M + 8) := ho2
      have hc2 : 128 ≤ c2 := ho5.le
      refine dT2 ?_
      refine dSl_i ?_
      refine dInt_i ?_
      have h_34 := ho.mv c_31 (tagn (by simp))
      obtain ⟨a_35, rfl⟩ := h_34.ne_none (by omega)
      refine nz_i ?_
      refine ask_t (by omega) ?_
      refine ld_sl (v := .slice (some ax) 128 c2) (h_34).sl (bcell hx2) ?_
      refine dSl_i ?_
      refine ask_t (by omega) ?_
      refine copy_sl (p := 64) (n := 128) u85 in5 ho5 (call3a).sl (dinL_len _ _ _ _ _ _ _ _ _) (by decide) (by decide) fun s_36 ho3 c_37 _ => ?_
      have z_38 := c_37.size
      have hb5 := hb0.cp c_37 (by omega) hx2 (by rw [overlay_len (by rw [dinL_len, zB128_len]; decide)]; exact zB128_len) ho3
      refine dInt_i ?_
      refine al_t (M + 9) fun r68 s69 hr68 b_39 c_40 z_41 => ?_
      refine tcall (c_encDirs (M + 14) 2 (es := dots) (show Sl _ _ (dots.flatMap ev) _ from (b_39).sl) rfl (by omega) (by omega) dots_nc (by omega) (by omega) (by omega) (by omega) dots_ok) ?_
      rintro v_43 s_42 ⟨acall4, ccall4, rfl, c_45, call4a⟩
      have z_46 := c_45.size
      refine dT2 ?_
      refine dSl_i ?_
      refine dInt_i ?_
      refine nz_i ?_
      refine ask_t (by omega) ?_
      have h_50 := h_34.mv ((c_37.app c_40).app c_45) (tagn (by simp))
      refine Own.st h_50 rfl (by rw [Nat.mul_one, Int.toNat_natCast]; omega) fun s79 b_47 c_48o z_49 => ?_
      have c_48 := Ch.on_tag (T := [M + 5]) (Ch.refl _ _) c_48o h_50.tagOf (by simp)
      have h_51 := hb5.ch ((c_40.app c_45).app c_48) (by simp <;> omega) (by simp <;> omega)
      have h_52 := call4a.mv c_48 (tagn (by simp))
      obtain ⟨φ, hφ⟩ : ∃ φ : Nat → Nat, φ = fun m => if m = M + 5 then τo else if m = M + 6 then τb else if m = M + 8 then τb else if m = M + 14 then τb else m := ⟨_, rfl⟩
      have f5 : φ (M + 5) = τo := by subst hφ; exact if_pos rfl
      have f6 : φ (M + 6) = τb := by subst hφ; simp
      have f8 : φ (M + 8) = τb := by subst hφ; simp
      have f14 : φ (M + 14) = τb := by subst hφ; simp
      have h1 := (b_47).rf (φ := φ)
      have h2 := (h_51).rf (φ := φ)
      have h3 := (h_52).rf (φ := φ)
      rw [Int.toNat_natCast, Nat.mul_one, fm_set1 _ _ (acall4, ccall4), f5, hpn] at h1
      rw [f6, f8] at h2
      rw [f14] at h3
      rw [hpn]
      exact ret_t' (s' := remarkF s79 φ) rfl ⟨_, _, _, rfl, remarkF_ch (((((((((Ch.refl [] s).ch c_2 (by simp)).ch c_7 (by simp)).fr c_12 hM (by simp)).fr c_31 hM (by simp)).fr c_37 hM (by simp)).ch c_40 (by simp)).fr c_45 hM (by simp <;> omega)).fr c_48 hM (by simp)) hM (fun m hm => by subst hφ; simp only; rw [if_neg (by omega), if_neg (by omega), if_neg (by omega), if_neg (by omega)]), h1, (h2.brel).set (2 + N / 4) ⟨h3.sl, dots_len⟩⟩
/-- bollard/bollardref17.Make -/
theorem c_makeN (a b c : Int) (s : TH) (hv : ¬ canG a b c) : TRet Tryz.prog 20 #[.agg #[.int .i64 a, .int .i64 b, .int .i64 c]] s fun v s' => v = .tuple #[.slice none 0 0, .int .i64 170] ∧ Ch [] s s' := by
  obtain ⟨M, hM, hM0, hMa, hMb, hMc, hMd, hMe, hMf⟩ := fresh6 s 0 0 0 0 0 0
  refine F20_calls _ _ _  ?_
  unfold F20
  refine al_t (M + 1) fun r1 s2 hr1 b_1 c_2 z_3 => ?_
  refine ld_t b_1 rfl ?_
  refine ld_t b_1 rfl ?_
  refine ld_t b_1 rfl ?_
  refine tcall (gc_rcan a b c _) ?_
  rintro v_5 s_4 ⟨rfl, c_7⟩
  have z_8 := c_7.size
  rw [if_neg hv]
  refine dInt_i ?_
  refine sB_t (by rfl) ?_
  refine ret_t ?_
  exact ⟨rfl, (((Ch.refl [] s).ch c_2 (by simp)).ch c_7 (by simp))⟩
/-- bollard/bollardplain.Image -/
theorem c_pimage (τo τr : Nat) {xa : Option Addr} {n : Nat} (xc : Nat) {hs : List Hd} {bs : List (List UInt8)} {τx τb : Nat} {s : TH} (hq : Sl s xa (hs.flatMap hd1) τx) (hb : BRel s τb hs bs) (hn : hs.length = n) (hn2 : 1 ≤ n ∧ n ≤ 2048) : TRet Tryz.prog 56 #[.slice xa n xc] s fun v s' => ∃ a c hs', v = .slice a n c ∧ Ch [] s s' ∧ Own s' a n c 85 1 (hs'.flatMap hd1) τo ∧ BRel s' τr hs' bs := by
  obtain ⟨M, hM, hM0, hMa, hMb, hMc, hMd, hMe, hMf⟩ := fresh6 s τx τb τo τr 0 0
  refine F56_calls _ _ _  ?_
  unfold F56
  refine ⟨fun vs H' => ∃ s' : TH, s'.h = H' ∧ ∃ pa pn pc i, vs = [.slice pa pn pc, .int .i64 i] ∧ Ch [M + 5] s s' ∧ (∃ (kk : Nat) (hs' : List Hd), i = kk ∧ kk ≤ n ∧ pn = kk ∧ Own s' pa pn pc 85 1 (hs'.flatMap hd1) (M + 5) ∧ BRel s' (M + 6) hs' (bs.take kk)), fun vs H' => match vs with | [.slice pa pn pc, .int .i64 i] => ((n : Int) - i).toNat | _ => 0, ⟨s, rfl, _, _, _, _, rfl, Ch.refl _ _, ?_⟩, ?_⟩
  ·
    exact ⟨0, [], rfl, by omega, rfl, Own.nil _ _ _ _, BRel.nil _ _⟩
  ·
    intro pa pn pc i _ _ _ _ _ _ _ _ _ _ H_ hI_2
    obtain ⟨s_1, rfl, pa_, pn_, pc_, i_, hvs, c_3, kk, hs', rfl, hk, rfl, ho, hb2⟩ := hI_2
    cases hvs
    have z_4 := c_3.size
    refine sB_d (fun hsB1 => ?_) (fun hsB1 => ?_)
    ·
      have hk2 : pn < n := by omega
      obtain ⟨x, hx⟩ : ∃ x, hs[pn]? = some x := ⟨hs[pn]'(by omega), by simp⟩
      obtain ⟨y, hy⟩ : ∃ y, bs[pn]? = some y := ⟨bs[pn]'(by rw [← hb.len]; omega), by simp⟩
      obtain ⟨ax, rfl⟩ := hq.some (fun e => by have := bcell hx; rw [e] at this; simp at this)
      refine nz_i ?_
      refine ask_t (by omega) ?_
      have h_5 := hq.mv c_3 (tagn (by simp <;> omega))
      refine ld_sl (v := .slice x.1 128 x.2) h_5 (by rw [Int.toNat_natCast, Nat.mul_one]; exact bcell hx) ?_
      refine dSl_i ?_
      have h_6 := hb.mv c_3 (tagn (by simp <;> omega))
      refine tcall (c_clone (M + 6) _ ((h_6).at_ _ _ _ hx hy).sl ((h_6).at_ _ _ _ hx hy).len (fun h => by obtain ⟨z, hz⟩ := ((h_6).at_ _ _ _ hx hy).ne; rw [h] at hz; cases hz) (by omega)) ?_
      rintro v_8 s_7 ⟨acall1, ccall1, rfl, c_10, call1a, call1b⟩
      have z_11 := c_10.size
      refine dSl_i ?_
      refine al_t (M + 9) fun r29 s30 hr29 b_12 c_13 z_14 => ?_
      have h_15 := ho.mv (c_10.app c_13) (tagn (by simp))
      refine app_i u49 in85 rfl h_15 (b_12).sl (m := 1) (k := 1) rfl (by intro u hu; simp at hu; subst hu; rfl) (by simp) (by unfold maxLen; omega) fun s_16 pa2 pc2 o_19 c_17o _ => ?_
      have c_17 := c_17o.ch h_15 (T := [M + 5]) (by simp)
      have z_18 := c_17.size
      refine dSl_i ?_
      refine wr_t (by omega) ?_
      refine ⟨⟨s_16, rfl, _, _, _, _, rfl, (((((Ch.refl [M + 5] s).ch c_3 (by simp)).ch c_10 (by simp)).ch c_13 (by simp)).ch c_17 (by simp)), ?_⟩, ?_⟩
      ·
        have h_20 := hb2.mv ((c_10.app c_13).app c_17) (tagn (by simp))
        have h_21 := call1a.mv (c_13.app c_17) (tagn (by simp))
        have h_22 := h_6.mv ((c_10.app c_13).app c_17) (tagn (by simp <;> omega))
        exact ⟨pn + 1, hs' ++ [(acall1, ccall1)], by omega, by omega, rfl, by have h := o_19; simpa [hd1] using h, by rw [List.take_add_one, hy]; exact (h_20).snoc ⟨(h_21).sl, ((h_22).at_ _ _ _ hx hy).len⟩⟩
      ·
        simp only []; omega
    ·
      obtain rfl : pn = n := by omega
      obtain ⟨φ, hφ⟩ : ∃ φ : Nat → Nat, φ = fun m => if m = M + 5 then τo else if m = M + 6 then τr else m := ⟨_, rfl⟩
      have f5 : φ (M + 5) = τo := by subst hφ; exact if_pos rfl
      have f6 : φ (M + 6) = τr := by subst hφ; simp
      have h1 := (ho).rf (φ := φ)
      have h2 := (hb2).rf (φ := φ)
      rw [f5] at h1
      rw [f6, List.take_of_length_le (by rw [← hb.len]; omega)] at h2
      exact ret_t' (s' := remarkF s_1 φ) rfl ⟨_, _, _, rfl, remarkF_ch ((Ch.refl [] s).fr c_3 hM (by simp)) hM (fun m hm => by subst hφ; simp only; rw [if_neg (by omega), if_neg (by omega)]), h1, h2⟩
/-- bollard/bollardref02.copied -/
theorem c_copied {xa : Option Addr} {xn : Nat} (xc : Nat) {l : List UInt8} {τx : Nat} {s : TH} (hx : Sl s xa (bvs l) τx) (hn : l.length = xn) (hb : xn ≤ 1000000000) : TRet Tryz.prog 119 #[.slice xa xn xc] s fun v s' => ∃ a c, v = .slice a xn c ∧ Ch [] s s' := by
  obtain ⟨M, hM, hM0, hMa, hMb, hMc, hMd, hMe, hMf⟩ := fresh6 s τx 0 0 0 0 0
  refine F119_calls _ _ _  ?_
  unfold F119
  refine al_t (M + 1) fun r1 s2 hr1 b_1 c_2 z_3 => ?_
  have h_4 := hx.mv c_2 (tagn (by simp))
  refine app_bv (xs := []) u85 in5 ((b_1).own0 1) h_4 hn (by omega) fun s_5 a1 c1 o_8 c_6 => ?_
  have z_7 := c_6.size
  refine dSl_i ?_
  refine ret_t ?_
  exact ⟨_, _, by rw [Nat.zero_add], (((Ch.refl [] s).ch c_2 (by simp)).fr c_6 hM (by simp))⟩
/-- bollard/bollardref06.New -/
theorem c_r6new (d : Nat) (b : Int) (s : TH) (hb : 1 ≤ b ∧ b ≤ 64) : TRet Tryz.prog 122 #[.pointer (some ⟨d, 0, none⟩), .int .i64 b] s fun v s' => ∃ c, v = .tuple #[.pointer (some ⟨c, 0, none⟩), .int .i64 0] ∧ Ch [] s s' := by
  obtain ⟨M, hM, hM0, hMa, hMb, hMc, hMd, hMe, hMf⟩ := fresh6 s 0 0 0 0 0 0
  refine F122_calls _ _  ?_
  unfold F122
  refine sB_f (by rfl) ?_
  refine jn_u ?_
  refine sB_d (fun hsB2 => by exfalso; omega) (fun hsB2 => ?_)
  intro _
  intros
  refine dBl_i ?_
  refine sB_d (fun hsB3 => by exfalso; omega) (fun hsB3 => ?_)
  refine al_t (M + 1) fun r9 s10 hr9 b_1 c_2 z_3 => ?_
  refine ret_t ?_
  exact ⟨_, rfl, ((Ch.refl [] s).ch c_2 (by simp))⟩
end Go.Proofs.YtklppdodadkcnaaGreat.E
