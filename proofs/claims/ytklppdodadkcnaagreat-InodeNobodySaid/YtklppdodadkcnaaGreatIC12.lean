/- My own texts, joined. -/
import Derived.KernelRfl
import Derived.Shelf.Slices.In.SortNone
import Derived.Shelf.Sort.Plain
import Derived.Test.YtklppdodadkcnaaGreatProg
import Derived.Test.YtklppdodadkcnaaGreatIC11
namespace Go.Proofs.YtklppdodadkcnaaGreat.E
open Go Go.Proofs Go.RowKit Go.Maps Go.Shelf Go.Sort
set_option linter.unusedVariables false
set_option linter.unusedSimpArgs false
theorem c_keys (r : Nat) (s : TH) : TRet Tryz.prog 228 #[.map (some r)] s fun v s' => ∃ B, v = .func (.func 234) #[] #[.pointer (some ⟨B, 0, none⟩)] ∧ Ch [] s s' ∧ Blk s' B [.map (some r)] 232 0 := by
 refine F228_calls _  ?_
 unfold F228
 refine al_t 0 fun r1 s2 c a b d => ?_
 refine ret_t ?_
 exact ⟨r1, rfl, ((Ch.refl [] s).ch b (by simp)), a⟩
theorem c_clook (c T d Td : Nat) (C : CacheM) (D : DiskM) (b : Int) (s : TH) (hT : 10 ≤ T) (hTd : 10 ≤ Td) (hTT : T + 10 ≤ Td ∨ Td + 10 ≤ T) (hc : Cache s c T d C) (hd : Disk s d Td D) : TRet Tryz.prog 189 #[.pointer (some ⟨c, 0, none⟩), .int .i64 b] s fun v s' => v = .int .i64 (if D.has b then 0 else 1) ∧ Ch [] s s' := by
 obtain ⟨⟨r, m, bp, bh, hP⟩, ok⟩ := id hc
 have hcb := hP.blk
 have hcm := hP.map
 have hbu := hP.bufs
 have hby := hP.bufy
 refine F189_calls _ _  ?_
 unfold F189
 refine jn_u ?_
 refine sB_f (by rfl) (nz_i ?_)
 first | refine ld_t hcb rfl ?_
 refine dMap_i ?_
 intro _ _ _ _ _ _ _ _
 refine dBl_i (sB_f (by rfl) ?_)
 refine jn_u ?_
 refine sB_d (fun e => ?_) (fun e => ?_)
 ·
  intro _ _ _ _ _ _ _ _ _ _
  refine dBl_i (sB_t (by rfl) ?_)
  refine ret_t ?_
  exact ⟨ret_i (by first | rw [if_pos (by unfold DiskM.has; omega)] | rw [if_neg (by unfold DiskM.has; omega)]), (Ch.refl [] s)⟩
 ·
  refine nz_i ?_
  first | refine ld_t hcb rfl ?_
  refine dPtr_i ?_
  refine tcall (c_blocks _ _ _ _ hTd hd) ?_
  rintro _ g ⟨rfl, a⟩
  have h := a.size
  refine dInt_i ?_
  intro _ _ _ _ _ _ _ _ _ _
  refine dBl_i ?_
  refine sB_d (fun f => ?_) (fun f => ?_)
  ·
   refine ret_t ?_
   exact ⟨ret_i (by first | rw [if_pos (by unfold DiskM.has; omega)] | rw [if_neg (by unfold DiskM.has; omega)]), ((Ch.refl [] s).ch a (by simp))⟩
  ·
   refine ret_t ?_
   exact ⟨ret_i (by first | rw [if_pos (by unfold DiskM.has; omega)] | rw [if_neg (by unfold DiskM.has; omega)]), ((Ch.refl [] s).ch a (by simp))⟩
theorem c_held (c T d : Nat) (C : CacheM) (τ : Nat) (s : TH) (hT : 10 ≤ T) (hc : Cache s c T d C) : TRet Tryz.prog 217 #[.pointer (some ⟨c, 0, none⟩)] s fun v s' => ∃ a c', v = .slice a C.l.length c' ∧ Ch [] s s' ∧ Own s' a C.l.length c' 3 1 (ivs (C.l.map (·.blk))) τ := by
 obtain ⟨⟨r, m, bp, bh, hP⟩, ok⟩ := id hc
 have hcb := hP.blk
 have hcm := hP.map
 have hbu := hP.bufs
 have hby := hP.bufy
 refine F217_calls _  ?_
 unfold F217
 refine al_t 0 fun r1 s2 q f e t => ?_
 refine ld_t f rfl (dPtr_i (sB_f (by rfl) (ld_t f rfl (dPtr_i (nz_i ?_)))))
 have g := hcb.ch e (by simp)
 first | refine ld_t g rfl ?_
 refine dMap_i ?_
 refine tcall (c_keys r _) ?_
 rintro _ u ⟨B, rfl, b, B_7⟩
 have w := b.size
 have hU := (hP.usedAt ok).mv (((Ch.refl [] s).ch e (by simp)).ch b (by simp)) (tagn (by simp))
 have hml : m.length = C.l.length := by have := hP.mo.keys.length_eq; simpa using this
 have hmk : ∀ k ∈ m.map (·.1), inI64 k := fun k hk => by
  obtain ⟨x, hx, rfl⟩ := List.mem_map.1 (hP.mo.keys.mem_iff.1 hk)
  have := hP.mo.rng x hx
  unfold inI64; omega
 have hle := hP.len
 have hbn := hP.bnd
 have j := hcm.ch e (by simp)
 have n := j.ch b (by simp)
 have r1_10 := f.ch b (by simp)
 have i := g.ch b (by simp)
 refine tcall (c_sfun τ (usedOf C.l) B_7 n (by omega) hmk r1_10 i rfl hU) ?_
 rintro _ y ⟨a2, c2, ss, rfl, hss, h, o⟩
 have p := h.size
 refine dSl_i ?_
 refine ret_t ?_
 have ho := o
 rw [sorted_keys hP.mo.nd ok.srt (hss.trans hP.mo.keys), hml] at ho
 rw [hml]
 exact ⟨a2, c2, rfl, ((((Ch.refl [] s).ch e (by simp)).ch b (by simp)).ch h (by simp)), ho⟩
end Go.Proofs.YtklppdodadkcnaaGreat.E
namespace Go.Proofs.YtklppdodadkcnaaGreat.E
open Go Go.Proofs Go.RowKit Go.Maps Go.Shelf Go.Sort
set_option linter.unusedVariables false
set_option linter.unusedSimpArgs false
theorem freeB_some {l : List BufM} {k : Nat} {x : BufM} (h : l[k]? = some x) (hp : x.pins = 0) (ha : ∀ j y, j < k → l[j]? = some y → y.pins ≠ 0) : freeB l = some x := by
 unfold freeB
 induction l generalizing k with
 | nil => simp at h
 | cons y l ih =>
  cases k with
  | zero => simp at h; subst h; simp [hp]
  | succ k =>
   rw [List.find?_cons]
   have := ha 0 y (by omega) (by simp)
   rw [show (y.pins == 0) = false by simpa using this]
   exact ih (by simpa using h) (fun j z hj hz => ha (j + 1) z (by omega) (by simpa using hz))
theorem freeB_none {l : List BufM} (ha : ∀ j y, j < l.length → l[j]? = some y → y.pins ≠ 0) : freeB l = none := by
 unfold freeB
 rw [List.find?_eq_none]
 intro x hx
 obtain ⟨j, hj, e⟩ := List.getElem_of_mem hx
 have := ha j x hj (by rw [List.getElem?_eq_getElem hj, e])
 simpa using this
theorem freeB_mem {l : List BufM} {x : BufM} (h : freeB l = some x) : x ∈ l ∧ x.pins = 0 := ⟨List.mem_of_find?_eq_some h, by simpa using List.find?_some h⟩
theorem Disk.nb {s : TH} {d T : Nat} {D : DiskM} (h : Disk s d T D) : 1 ≤ D.blocks.length ∧ D.blocks.length ≤ 2048 := by obtain ⟨_, _, _, _, _, _, _, _, h⟩ := h; exact h.nb
theorem find_nmem {l : List BufM} {b : Int} (h : (l.find? fun x => x.blk == b) = none) : b ∉ l.map (·.blk) := fun e => by
 obtain ⟨x, hx, e⟩ := List.mem_map.1 e
 have := List.find?_eq_none.1 h x hx
 simp [e] at this
theorem rmB_len {l : List BufM} (hn : (l.map (·.blk)).Nodup) {x : BufM} (hx : x ∈ l) : (rmB l x.blk).length + 1 = l.length := by
 have h1 : x.blk ∈ l.map (·.blk) := List.mem_map.2 ⟨x, hx, rfl⟩
 have h2 := congrArg List.length (rmB_keys hn x.blk)
 rw [List.length_map, List.length_erase_of_mem h1, List.length_map] at h2
 have := List.length_pos_of_mem hx
 omega
theorem Bufs.sub {s : TH} {τ : Nat} {l l' : List BufM} {bp : Int → Nat} {bh : Int → Hd} (h : Bufs s τ l bp bh) (hs : l'.Sublist l) : Bufs s τ l' bp bh := ⟨fun x hx => h.at_ x (hs.subset hx)⟩
theorem BufY.sub {s : TH} {τ : Nat} {l l' : List BufM} {bh : Int → Hd} (h : BufY s τ l bh) (hs : l'.Sublist l) : BufY s τ l' bh := ⟨fun x hx => h.at_ x (hs.subset hx)⟩
theorem addB {s : TH} {c T d r p : Nat} {C : CacheM} {m1 : List (Int × Value)} {l1 : List BufM} {bp : Int → Nat} {bh : Int → Hd} {xa : Option Addr} {xc : Nat} {b : Int} {l : List UInt8} (_ : 10 ≤ T)
  (hblk : Blk s c [.pointer (some ⟨d, 0, none⟩), .int .i64 C.bound, .map (some r), .int .i64 C.clock, .int .i64 C.hits, .int .i64 C.misses] 234 T) (hmap : MapK (Value.int .i64) s r (mset b (.pointer (some ⟨p, 0, none⟩)) m1) (T + 1))
  (hb : Bufs s (T + 2) l1 bp bh) (hy : BufY s (T + 3) l1 bh) (mo : MapOf m1 l1 bp) (hbn : b ∉ l1.map (·.blk)) (hrng : 0 ≤ b ∧ b < 2048) (hp : Blk s p (bufv (xa, xc) 0 0) 248 (T + 2)) (hpn : ∀ y ∈ l1, bp y.blk ≠ p)
  (hx : ByAt s (T + 3) (xa, xc) l) (bnd : 1 ≤ C.bound ∧ C.bound ≤ 64) (len : (l1.length : Int) + 1 ≤ C.bound) :
  CacheP s c T d { C with l := l1 ++ [⟨b, l, 0, 0⟩] } r (mset b (.pointer (some ⟨p, 0, none⟩)) m1) (fun k => if k = b then p else bp k) (fun k => if k = b then (xa, xc) else bh k) := by
 have hne : ∀ y ∈ l1, y.blk ≠ b := fun y hy e => hbn (e ▸ List.mem_map.2 ⟨y, hy, rfl⟩)
 refine ⟨hblk, hmap, ⟨fun y hy' => ?_⟩, ⟨fun y hy' => ?_⟩, mo.add ⟨b, l, 0, 0⟩ p hbn hrng hpn, bnd, by simpa using len⟩
 ·rcases List.mem_append.1 hy' with h | h
  ·simp only [if_neg (hne y h)]; exact hb.at_ y h
  ·rw [List.mem_singleton] at h; subst h; simpa using hp
 ·rcases List.mem_append.1 hy' with h | h
  ·simp only [if_neg (hne y h)]; exact hy.at_ y h
  ·rw [List.mem_singleton] at h; subst h; simpa using hx
theorem c_victim (c T d : Nat) (C : CacheM) (s : TH) (hT : 10 ≤ T) (hc : Cache s c T d C) : TRet Tryz.prog 202 #[.pointer (some ⟨c, 0, none⟩)] s fun v s' => ∃ n b, v = .tuple #[.int .i64 n, .bool b] ∧ Ch [] s s' ∧ ((b = true ∧ ∃ x, freeB C.l = some x ∧ n = x.blk) ∨ (b = false ∧ freeB C.l = none)) := by
 obtain ⟨⟨r, m, bp, bh, hP⟩, ok⟩ := id hc
 have hcb := hP.blk
 have hcm := hP.map
 have hbu := hP.bufs
 have hby := hP.bufy
 refine F202_calls _  ?_
 unfold F202
 refine tcall (c_held c T d C 0 _ hT hc) ?_
 rintro _ s2 ⟨a2, c2, rfl, g, D⟩
 have F := g.size
 refine dSl_i ?_
 refine ⟨fun vs H' => ∃ s' : TH, s'.h = H' ∧ ∃ i, vs = [.int .i64 i] ∧ ChL [] [] s2 s' ∧ (∃ k : Nat, i = k ∧ k ≤ C.l.length ∧ ∀ j y, j < k → C.l[j]? = some y → y.pins ≠ 0), fun vs H' => match vs with | [.int .i64 i] => ((C.l.length : Int) - i).toNat | _ => 0, ⟨s2, rfl, _, rfl, ChL.refl _ _ _, ?_⟩, ?_⟩
 ·
  exact ⟨0, rfl, by omega, fun j x h => by omega⟩
 ·
  intro i _ _ _ _ _ _ _ _ _ _ _ _ _ _ _ _ _ _ G hI
  obtain ⟨E, rfl, i_, hvs, f, k, rfl, hk, hall⟩ := hI
  cases hvs
  have H := f.size
  refine sB_d (fun w => ?_) (fun w => ?_)
  ·
   have u := D.mv f (tagL (by simp <;> omega) (by simp))
   have hk2 : k < C.l.length := by omega
   obtain ⟨x, hx⟩ : ∃ x, C.l[k]? = some x := ⟨C.l[k], by simp [hk2]⟩
   have hxm := List.mem_of_getElem? hx
   obtain ⟨a, rfl⟩ := u.ne_none (by omega)
   have hlen := hP.len
   have hbnd := hP.bnd
   refine nz_i (ask_t (by omega) ?_)
   refine ld_sl u.sl (by rw [Int.toNat_natCast, Nat.mul_one]; show (ivs _)[k]? = some (.int .i64 x.blk); simp [ivs, hx]) ?_
   refine dInt_i (nz_i ?_)
   have z := hcb.ch g (by simp)
   have A := z.chl f (by simp <;> omega) (by simp <;> omega)
   first | refine ld_t A rfl ?_
   refine dMap_i ?_
   have B := hcm.ch g (by simp)
   have p := B.chl f (by simp <;> omega) (by simp <;> omega)
   refine look_s keyI u232 z244 p x.blk (hP.mo.at_ x hxm) ?_
   refine dPtr_i (nz_i ?_)
   have q := hbu.mv g (tagn (by simp))
   have t := q.mv f (tagL (by simp <;> omega) (by simp))
   refine ld_t (t.at_ x hxm) rfl ?_
   refine dInt_i ?_
   refine sB_eq (fun o => ?_) (fun o => ?_)
   ·
    refine ret_t ?_
    exact ⟨_, _, rfl, (((Ch.refl [] s).ch g (by simp)).chl f (by simp) (by simp <;> omega)), .inl ⟨rfl, x, freeB_some hx o hall, rfl⟩⟩
   ·
    refine wr_t (by omega) ?_
    refine ⟨⟨E, rfl, _, rfl, ((ChL.refl [] [] s2).chl f (by simp) (by simp <;> omega)), ?_⟩, ?_⟩
    ·
     refine ⟨k + 1, by omega, by omega, fun j y hj hy => ?_⟩
     by_cases e : j = k
     ·subst e; rw [hx] at hy; cases hy; exact o
     ·exact hall j y (by omega) hy
    ·
     simp only []; omega
  ·
   refine ret_t ?_
   exact ⟨_, _, rfl, (((Ch.refl [] s).ch g (by simp)).chl f (by simp) (by simp <;> omega)), .inr ⟨rfl, freeB_none fun j y hj hy => hall j y (by omega) hy⟩⟩
theorem c_load (c T d Td : Nat) (C : CacheM) (D : DiskM) (b : Int) {l : List UInt8} (s : TH) (hT : 10 ≤ T) (hTd : 10 ≤ Td) (hTT : T + 10 ≤ Td ∨ Td + 10 ≤ T) (hc : Cache s c T d C) (hd : Disk s d Td D) (hb : D.has b) (hl : D.blocks[b.toNat]? = some l) (hf : D.fails b ≤ 0) (hnf : C.find b = none) : TRet Tryz.prog 190 #[.pointer (some ⟨c, 0, none⟩), .int .i64 b] s fun v s' => ∃ q e, v = .tuple #[.pointer q, .int .i64 e] ∧ Ch [T, T + 1, T + 2, T + 3] s s' ∧ ((e = 60 ∧ C.room = none ∧ q = none ∧ Cache s' c T d C) ∨ (e = 0 ∧ ∃ l' r' m' bp' bh', C.room = some l' ∧ q = some ⟨bp' b, 0, none⟩ ∧ CacheP s' c T d { C with l := l' ++ [⟨b, l, 0, 0⟩] } r' m' bp' bh')) := by
 obtain ⟨⟨r, m, bp, bh, hP⟩, ok⟩ := id hc
 have hcb := hP.blk
 have hcm := hP.map
 have hbu := hP.bufs
 have hby := hP.bufy
 refine F190_calls _ _  ?_
 unfold F190
 refine nz_i ?_
 first | refine ld_t hcb rfl ?_
 refine dMap_i (nz_i ?_)
 first | refine ld_t hcb rfl ?_
 refine dInt_i ?_
 refine mlen_t u232 hcm ?_
 have hml : m.length = C.l.length := by have := hP.mo.keys.length_eq; simpa using this
 refine dInt_i ?_
 refine ⟨?_, ?_⟩
 ·
  first | refine ld_t hcb rfl ?_
  refine dInt_i ?_
  rfl
 ·
  refine tcall (c_victim c T d C _ hT hc) ?_
  rintro _ aJ ⟨vn, vb, rfl, a, hvic⟩
  have aK := a.size
  refine dT2 (dInt_i (dBl_i ?_))
  refine jn_u ?_
  refine sB_d (fun ao => ?_) (fun ao => ?_)
  ·
   intro _ _ _ _
   refine dBl_i ?_
   refine sB_n (fun w => ?_) (fun w => ?_)
   ·
    refine ret_t ?_
    have ay := hc.mv a (rngn (by simp <;> omega))
    refine ⟨_, _, rfl, ((Ch.refl [T, T + 1, T + 2, T + 3] s).ch a (by simp)), .inl ⟨rfl, ?_, rfl, ay⟩⟩
    rcases hvic with ⟨h1, _⟩ | ⟨_, h1⟩
    ·rw [w] at h1; cases h1
    ·unfold CacheM.room; rw [if_neg (by omega), h1]; rfl
   ·
    rcases hvic with ⟨hv1, x, hx, rfl⟩ | ⟨hv1, _⟩
    rotate_left
    ·rw [hv1] at w; cases w
    refine nz_i ?_
    have M := hcb.ch a (by simp)
    first | refine ld_t M rfl ?_
    refine dPtr_i ?_
    have D_5 := hd.mv a (rngn (by simp <;> omega))
    refine tcall (c_dread d Td (T + 3) D b _ hTd D_5 hb hl hf) ?_
    rintro _ az ⟨xa, xc, rfl, u, aA⟩
    have aL := u.size
    refine dT2 (dSl_i (dInt_i (sB_f (by rfl) ?_)))
    refine jn_u ?_
    refine sB_d (fun ap => ?_) (fun ap => by exfalso; omega)
    refine nz_i ?_
    have A := M.ch u (by simp)
    first | refine ld_t A rfl ?_
    refine dMap_i ?_
    have R := hcm.ch a (by simp)
    have i := R.ch u (by simp)
    refine del_t keyI u232 i x.blk fun aM S n hsz => ?_
    have aD := n.size
    intro _ _ _ _ _ _
    refine nz_i ?_
    have B := A.on n (by intro he; have h1 := A.tag; have h2 := i.tag; rw [he] at h1; rw [h1] at h2; revert h2; simp <;> omega)
    first | refine ld_t B rfl ?_
    refine dMap_i ?_
    refine al_t (T + 2) fun z aB aq N o aE => ?_
    have f := S.ch o (by simp)
    refine upd_t keyI u232 f b (.pointer (some ⟨z, 0, none⟩)) fun aC E j hsz2 => ?_
    have aF := j.size
    refine nz_i ?_
    have F := B.ch o (by simp)
    have G := F.on j (by intro he; have h1 := F.tag; have h2 := f.tag; rw [he] at h1; rw [h1] at h2; revert h2; simp <;> omega)
    first | refine ld_t G rfl ?_
    refine dMap_i ?_
    refine look_s keyI u232 z244 E b (by rw [mget_mset, if_pos rfl]) ?_
    refine dPtr_i ?_
    refine ret_t ?_
    have U := hbu.mv a (tagn (by simp))
    have V := U.mv u (tagn (by simp))
    have W := V.mv n (onn (by rw [i.tag]; omega))
    have X := W.mv o (tagn (by simp))
    have Y := X.mv j (onn (by rw [f.tag]; omega))
    have Z := hby.mv a (tagn (by simp))
    have aa := Z.mv u (tagn (by simp))
    have ab := aa.mv n (onn (by rw [i.tag]; omega))
    have ac := ab.mv o (tagn (by simp))
    have ad := ac.mv j (onn (by rw [f.tag]; omega))
    have r48_35 := N.on j (by intro he; have h1 := N.tag; have h2 := f.tag; rw [he] at h1; rw [h1] at h2; revert h2; simp <;> omega)
    have ar := aA.mv n (onn (by rw [i.tag]; omega))
    have au := ar.mv o (tagn (by simp))
    have O := au.mv j (onn (by rw [f.tag]; omega))
    have hbd : 0 ≤ b ∧ b < 2048 := by have h1 := hb; unfold DiskM.has at h1; have h2 := hd.nb; omega
    have hnb := find_nmem hnf
    have hnew : ∀ y ∈ rmB C.l x.blk, bp y.blk ≠ z := fun y hy => by have := (hbu.at_ y (rmB_mem.1 hy).1).lt; omega
    have hxm := freeB_mem hx
    have hlen := rmB_len hP.mo.nd hxm.1
    have hle := hP.len
    refine ⟨_, _, rfl, ((((((Ch.refl [T, T + 1, T + 2, T + 3] s).ch a (by simp)).ch u (by simp)).on_tag n i.tag (by simp)).ch o (by simp)).on_tag j f.tag (by simp)), .inr ⟨rfl, _, _, _, _, _, ?_, ?_, addB hT G E (Y.sub (rmB_sub _ _)) (ad.sub (rmB_sub _ _)) (hP.mo.del hP.map.nd x.blk) (fun h => hnb (((rmB_sub _ _).map _).subset h)) hbd r48_35 hnew ⟨O.sl, by have := O.1; rw [bvs_len] at this; omega⟩ hP.bnd (by omega)⟩⟩
    ·unfold CacheM.room; rw [if_neg (by omega), hx]; rfl
    ·simp
  ·
   intro _ _ _ _
   refine dBl_i (sB_f (by rfl) (nz_i ?_))
   have H := hcb.ch a (by simp)
   first | refine ld_t H rfl ?_
   refine dPtr_i ?_
   have D_40 := hd.mv a (rngn (by simp <;> omega))
   refine tcall (c_dread d Td (T + 3) D b _ hTd D_40 hb hl hf) ?_
   rintro _ az ⟨xa, xc, rfl, p, av⟩
   have aG := p.size
   refine dT2 (dSl_i (dInt_i (sB_f (by rfl) ?_)))
   refine jn_u ?_
   refine sB_d (fun aw => by exfalso; omega) (fun aw => ?_)
   intro _ _ _ _ _ _
   refine nz_i ?_
   have I := H.ch p (by simp)
   first | refine ld_t I rfl ?_
   refine dMap_i ?_
   refine al_t (T + 2) fun z aB aq P t aH => ?_
   have ae := hcm.ch a (by simp)
   have af := ae.ch p (by simp)
   have g := af.ch t (by simp)
   refine upd_t keyI u232 g b (.pointer (some ⟨z, 0, none⟩)) fun aC J k hsz2 => ?_
   have aI := k.size
   refine nz_i ?_
   have K := I.ch t (by simp)
   have L := K.on k (by intro he; have h1 := K.tag; have h2 := g.tag; rw [he] at h1; rw [h1] at h2; revert h2; simp <;> omega)
   first | refine ld_t L rfl ?_
   refine dMap_i ?_
   refine look_s keyI u232 z244 J b (by rw [mget_mset, if_pos rfl]) ?_
   refine dPtr_i ?_
   refine ret_t ?_
   have ag := hbu.mv a (tagn (by simp))
   have ah := ag.mv p (tagn (by simp))
   have ai := ah.mv t (tagn (by simp))
   have aj := ai.mv k (onn (by rw [g.tag]; omega))
   have ak := hby.mv a (tagn (by simp))
   have al := ak.mv p (tagn (by simp))
   have am := al.mv t (tagn (by simp))
   have an := am.mv k (onn (by rw [g.tag]; omega))
   have r48_64 := P.on k (by intro he; have h1 := P.tag; have h2 := g.tag; rw [he] at h1; rw [h1] at h2; revert h2; simp <;> omega)
   have ax := av.mv t (tagn (by simp))
   have Q := ax.mv k (onn (by rw [g.tag]; omega))
   have hbd : 0 ≤ b ∧ b < 2048 := by have h1 := hb; unfold DiskM.has at h1; have h2 := hd.nb; omega
   have hnb := find_nmem hnf
   have hnew : ∀ y ∈ C.l, bp y.blk ≠ z := fun y hy => by have := (hbu.at_ y hy).lt; omega
   refine ⟨_, _, rfl, (((((Ch.refl [T, T + 1, T + 2, T + 3] s).ch a (by simp)).ch p (by simp)).ch t (by simp)).on_tag k g.tag (by simp)), .inr ⟨rfl, _, _, _, _, _, ?_, ?_, addB hT L J aj an hP.mo hnb hbd r48_64 hnew ⟨Q.sl, by have := Q.1; rw [bvs_len] at this; omega⟩ hP.bnd (by omega)⟩⟩
   ·unfold CacheM.room; rw [if_pos (by omega)]
   ·simp
end Go.Proofs.YtklppdodadkcnaaGreat.E
namespace Go.Proofs.YtklppdodadkcnaaGreat.E
open Go Go.Proofs Go.RowKit Go.Maps Go.Shelf Go.Sort
set_option linter.unusedVariables false
set_option linter.unusedSimpArgs false
theorem get_hit {C : CacheM} {bs : List (List UInt8)} {b : Int} {x : BufM} (h : C.find b = some x) : C.get bs b = ({ C with l := rmB C.l b ++ [{ x with used := C.clock + 1 }], clock := C.clock + 1, hits := C.hits + 1 }, 0) := by unfold CacheM.get; rw [h]
theorem get_full {C : CacheM} {bs : List (List UInt8)} {b : Int} (h : C.find b = none) (hr : C.room = none) : C.get bs b = ({ C with misses := C.misses + 1 }, 60) := by unfold CacheM.get; rw [h]; simp only; rw [hr]
theorem get_load {C : CacheM} {bs : List (List UInt8)} {b : Int} {l : List BufM} {y : List UInt8} (h : C.find b = none) (hr : C.room = some l) (hy : bs[b.toNat]? = some y) : C.get bs b = ({ C with l := l ++ [⟨b, y, 0, C.clock + 1⟩], clock := C.clock + 1, misses := C.misses + 1 }, 0) := by unfold CacheM.get; rw [h]; simp only; rw [hr, hy]; rfl
theorem room_mem {C : CacheM} {l : List BufM} (h : C.room = some l) : l.Sublist C.l := by
 unfold CacheM.room at h
 split at h
 ·cases h; exact List.Sublist.refl _
 ·cases hf : freeB C.l with
  | none => rw [hf] at h; cases h
  | some v => rw [hf] at h; cases h; exact rmB_sub _ _
theorem COk.push {C C' : CacheM} (ok : COk C) {l1 : List BufM} (hs : l1.Sublist C.l) {x : BufM} (hx : x.used = C.clock + 1) (hl : C'.l = l1 ++ [x]) (hk : C'.clock = C.clock + 1) (hb : C.clock + 1 ≤ 9223372036854775807) (hc : 0 ≤ C'.hits ∧ C'.hits ≤ 9223372036854775807 ∧ 0 ≤ C'.misses ∧ C'.misses ≤ 9223372036854775807) (hp : 0 ≤ x.pins ∧ x.pins ≤ 100) : COk C' := by
 have h0 := ok.clk
 refine ⟨?_, fun y hy => ?_, by omega, hc, fun y hy => ?_⟩
 ·rw [hl, List.pairwise_append]
  refine ⟨ok.srt.sublist hs, List.pairwise_singleton _ _, fun a ha z hz => ?_⟩
  rw [List.mem_singleton] at hz; subst hz
  have := ok.rng a (hs.subset ha); omega
 ·rw [hl, List.mem_append] at hy
  rcases hy with hy | hy
  ·have := ok.rng y (hs.subset hy); omega
  ·rw [List.mem_singleton] at hy; subst hy; omega
 ·rw [hl, List.mem_append] at hy
  rcases hy with hy | hy
  ·exact ok.pin y (hs.subset hy)
  ·rw [List.mem_singleton] at hy; subst hy; exact hp
theorem Bufs.one {s2 s3 : TH} {τ : Nat} {l l' : List BufM} {bp : Int → Nat} {bh bh' : Int → Hd} {b pins used : Int} (h : Bufs s2 τ l bp bh) (hon : On (bp b) s2 s3) (hb : Blk s3 (bp b) (bufv (bh' b) pins used) 248 τ)
  (hl : ∀ y ∈ l', (y ∈ l ∧ bp y.blk ≠ bp b ∧ bh' y.blk = bh y.blk) ∨ (y.blk = b ∧ y.pins = pins ∧ y.used = used)) : Bufs s3 τ l' bp bh' :=
 ⟨fun y hy => by
  rcases hl y hy with ⟨h1, h2, h3⟩ | ⟨h1, h2, h3⟩
  ·rw [h3]; exact (h.at_ y h1).on hon h2
  ·rw [h1, h2, h3]; exact hb⟩
theorem MapOf.pne {m : List (Int × Value)} {l : List BufM} {bp : Int → Nat} (h : MapOf m l bp) {x y : BufM} (hx : x ∈ l) (hy : y ∈ l) (hn : y.blk ≠ x.blk) : bp y.blk ≠ bp x.blk := fun e => hn (h.inj y hy x hx e)
theorem touch_keys {l : List BufM} (hn : (l.map (·.blk)).Nodup) {x : BufM} (hx : x ∈ l) (u : Int) : ((rmB l x.blk ++ [{ x with used := u }] : List BufM).map (·.blk)).Perm (l.map (·.blk)) := by
 rw [List.map_append, rmB_keys hn]
 have h : (l.map (·.blk)).Perm (x.blk :: (l.map (·.blk)).erase x.blk) := List.perm_cons_erase (List.mem_map.2 ⟨x, hx, rfl⟩)
 exact (List.perm_append_comm).trans h.symm
theorem rmB_add {l : List BufM} {x : BufM} (h : x.blk ∉ l.map (·.blk)) : rmB (l ++ [x]) x.blk = l := by
 unfold rmB
 rw [List.filter_append]
 simp only [List.filter_cons, beq_self_eq_true, Bool.not_true, Bool.false_eq_true, if_false, List.filter_nil, List.append_nil]
 rw [List.filter_eq_self]
 intro y hy
 have : y.blk ≠ x.blk := fun e => h (e ▸ List.mem_map.2 ⟨y, hy, rfl⟩)
 simpa using this
theorem touchP {s2 s3 : TH} {c T d r : Nat} {C1 C2 : CacheM} {m : List (Int × Value)} {bp : Int → Nat} {bh : Int → Hd} {x : BufM} {u : Int} (hblk : Blk s3 c [.pointer (some ⟨d, 0, none⟩), .int .i64 C2.bound, .map (some r), .int .i64 C2.clock, .int .i64 C2.hits, .int .i64 C2.misses] 234 T)
  (hmap : MapK (Value.int .i64) s3 r m (T + 1)) (hbu : Bufs s2 (T + 2) C1.l bp bh) (hy : BufY s3 (T + 3) C1.l bh) (mo : MapOf m C1.l bp) (hx : x ∈ C1.l) (hon : On (bp x.blk) s2 s3) (hb : Blk s3 (bp x.blk) (bufv (bh x.blk) x.pins u) 248 (T + 2))
  (hl : C2.l = rmB C1.l x.blk ++ [{ x with used := u }]) (bnd : 1 ≤ C2.bound ∧ C2.bound ≤ 64) (len : (C1.l.length : Int) ≤ C2.bound) : CacheP s3 c T d C2 r m bp bh := by
 have hp := touch_keys mo.nd hx u
 refine ⟨hblk, hmap, hbu.one hon hb fun y hy' => ?_, ⟨fun y hy' => ?_⟩, by rw [hl]; exact mo.again hp, bnd, by rw [hl]; have := hp.length_eq; simp only [List.length_map] at this; omega⟩
 ·rw [hl, List.mem_append] at hy'
  rcases hy' with h | h
  ·exact .inl ⟨(rmB_mem.1 h).1, mo.pne hx (rmB_mem.1 h).1 (rmB_mem.1 h).2, rfl⟩
  ·rw [List.mem_singleton] at h; subst h; exact .inr ⟨rfl, rfl, rfl⟩
 ·rw [hl, List.mem_append] at hy'
  rcases hy' with h | h
  ·exact hy.at_ y (rmB_mem.1 h).1
  ·rw [List.mem_singleton] at h; subst h; exact hy.at_ x hx
theorem c_get (c T d Td : Nat) (C : CacheM) (D : DiskM) (b : Int) (s : TH) (hT : 10 ≤ T) (hTd : 10 ≤ Td) (hTT : T + 10 ≤ Td ∨ Td + 10 ≤ T) (hc : Cache s c T d C) (hd : Disk s d Td D) (hl : D.has b → ∃ l, D.blocks[b.toNat]? = some l) (hf : D.fails b ≤ 0) (hk : C.clock < 9223372036854775807 ∧ C.hits < 9223372036854775807 ∧ C.misses < 9223372036854775807) : TRet Tryz.prog 168 #[.pointer (some ⟨c, 0, none⟩), .int .i64 b] s fun v s' => ∃ q e, v = .tuple #[.pointer q, .int .i64 e] ∧ Ch [T, T + 1, T + 2, T + 3] s s' ∧ ((¬ D.has b ∧ e = 1 ∧ Cache s' c T d C) ∨ (D.has b ∧ e = (C.get D.blocks b).2 ∧ Cache s' c T d (C.get D.blocks b).1 ∧ (e = 0 → ∃ r m bp bh, ∃ x : BufM, CacheP s' c T d (C.get D.blocks b).1 r m bp bh ∧ q = some ⟨bp b, 0, none⟩ ∧ x ∈ (C.get D.blocks b).1.l ∧ x.blk = b))) := by
 obtain ⟨⟨r, m, bp, bh, hP⟩, ok⟩ := id hc
 have hcb := hP.blk
 have hcm := hP.map
 have hbu := hP.bufs
 have hby := hP.bufy
 refine F168_calls _ _  ?_
 unfold F168
 refine tcall (c_clook c T d Td C D b _ hT hTd hTT hc hd) ?_
 rintro _ s2 ⟨rfl, f⟩
 have ap := f.size
 refine dInt_i ?_
 refine sB_ne (fun n => ?_) (fun n => ?_)
 ·
  refine ret_t ?_
  have ae := hc.mv f (rngn (by simp <;> omega))
  have hn : ¬ D.has b := fun h => n (if_pos h)
  exact ⟨_, _, rfl, ((Ch.refl [T, T + 1, T + 2, T + 3] s).ch f (by simp)), .inl ⟨hn, if_neg hn, ae⟩⟩
 ·
  have hh : D.has b := by
   by_cases h : D.has b
   ·exact h
   ·rw [if_neg h] at n; cases n
  refine nz_i ?_
  have a := hcb.ch f (by simp)
  first | refine ld_t a rfl ?_
  refine dMap_i ?_
  rcases hfd : C.find b with _ | x
  ·
   have y := hcm.ch f (by simp)
   refine look_okn keyI u232 z244 y b (hP.mo.get_none hfd) ?_
   refine dT2 (dPtr_i (dBl_i ?_))
   refine jn_u ?_
   refine sB_f (by rfl) (nz_i ?_)
   first | refine ld_t a rfl ?_
   refine dInt_i ?_
   refine wr_t (by have := ok.cnt; have := ok.clk; omega) ?_
   refine nz_i ?_
   refine st_t a rfl (by simp) fun af ag k aq => ?_
   obtain ⟨l0, hl0⟩ := hl hh
   have ab := y.on k (by intro he; have h1 := y.tag; have h2 := a.tag; rw [he] at h1; rw [h1] at h2; revert h2; simp <;> omega)
   have K := hbu.mv f (tagn (by simp))
   have L := K.mv k (onn (by rw [a.tag]; omega))
   have M := hby.mv f (tagn (by simp))
   have N := M.mv k (onn (by rw [a.tag]; omega))
   have hC1 : Cache af c T d { C with misses := C.misses + 1 } := ⟨⟨r, m, bp, bh, ⟨ag, ab, L, N, hP.mo, hP.bnd, hP.len⟩⟩, ⟨ok.srt, ok.rng, ok.clk, ⟨ok.cnt.1, ok.cnt.2.1, by have := ok.cnt; simp only; omega, by simp only; omega⟩, ok.pin⟩⟩
   have D_14 := hd.mv f (rngn (by simp <;> omega))
   have D_15 := D_14.mv k (rngO (by rw [a.tag]; omega))
   refine tcall (c_load c T d Td _ D b _ hT hTd hTT hC1 D_15 hh hl0 hf hfd) ?_
   rintro _ ah ⟨q, e, rfl, z, hres⟩
   have aj := z.size
   refine dT2 (dPtr_i (dInt_i ?_))
   refine sB_ne (fun o => ?_) (fun o => ?_)
   ·
    refine ret_t ?_
    rcases hres with ⟨rfl, hr, rfl, hC2⟩ | ⟨h1, _⟩
    ·rw [get_full hfd hr]; exact ⟨_, _, rfl, ((((Ch.refl [T, T + 1, T + 2, T + 3] s).ch f (by simp)).on_tag k a.tag (by simp)).ch z (by simp)), .inr ⟨hh, rfl, hC2, fun h => by cases h⟩⟩
    ·exact absurd h1 o
   ·
    intro _ _ _ _ _ _ _ _ _ _ _ _ _ _ _ _ _ _ _ _ _ _ _ _ _ _ _ _ _
    refine dPtr_i ?_
    rcases hres with ⟨h1, _⟩ | ⟨_, l2, r2, m2, bp2, bh2, hr, rfl, hP2⟩
    ·rw [h1] at o; cases o
    have hcb2 : Blk ah c [.pointer (some ⟨d, 0, none⟩), .int .i64 C.bound, .map (some r2), .int .i64 C.clock, .int .i64 C.hits, .int .i64 (C.misses + 1)] 234 T := hP2.blk
    have hcm2 := hP2.map
    have hbu2 := hP2.bufs
    have hby2 := hP2.bufy
    have hxm : (⟨b, l0, 0, 0⟩ : BufM) ∈ l2 ++ [⟨b, l0, 0, 0⟩] := by simp
    refine nz_i ?_
    first | refine ld_t hcb2 rfl ?_
    refine dInt_i ?_
    refine wr_t (by have := ok.cnt; have := ok.clk; omega) ?_
    refine nz_i ?_
    refine st_t hcb2 rfl (by simp) fun ai A p ak => ?_
    refine nz_i ?_
    first | refine ld_t A rfl ?_
    refine dInt_i ?_
    have E := hbu2.mv p (onn (by rw [hcb2.tag]; omega))
    have hxb := (E).at_ _ hxm
    have hbu3 := E
    refine nz_i ?_
    refine st_t hxb rfl (by simp [bufv]) fun J ac i al => ?_
    refine ret_t ?_
    have O := A.on i (by intro he; have h1 := A.tag; have h2 := hxb.tag; rw [he] at h1; rw [h1] at h2; revert h2; simp <;> omega)
    have F := hcm2.on p (by intro he; have h1 := hcm2.tag; have h2 := hcb2.tag; rw [he] at h1; rw [h1] at h2; revert h2; simp <;> omega)
    have P := F.on i (by intro he; have h1 := F.tag; have h2 := hxb.tag; rw [he] at h1; rw [h1] at h2; revert h2; simp <;> omega)
    have Q := hby2.mv p (onn (by rw [hcb2.tag]; omega))
    have R := Q.mv i (onn (by rw [hxb.tag]; omega))
    have hnb : b ∉ l2.map (·.blk) := fun h => find_nmem hfd (((room_mem hr).map _).subset h)
    rw [get_load hfd hr hl0]
    have hPP : CacheP J c T d { C with l := l2 ++ [⟨b, l0, 0, C.clock + 1⟩], clock := C.clock + 1, misses := C.misses + 1 } r2 m2 bp2 bh2 := touchP (C1 := { C with misses := C.misses + 1, l := l2 ++ [⟨b, l0, 0, 0⟩] }) O P hbu3 R hP2.mo hxm i ac (by rw [rmB_add (l := l2) (x := ⟨b, l0, 0, 0⟩) hnb]) hP.bnd hP2.len
    exact ⟨_, _, rfl, ((((((Ch.refl [T, T + 1, T + 2, T + 3] s).ch f (by simp)).on_tag k a.tag (by simp)).ch z (by simp)).on_tag p hcb2.tag (by simp)).on_tag i hxb.tag (by simp)), .inr ⟨hh, rfl, ⟨⟨_, _, _, _, hPP⟩, ok.push (room_mem hr) rfl rfl rfl (by omega) (by have := ok.cnt; simp only; omega) (by simp)⟩, fun _ => ⟨_, _, _, _, _, hPP, rfl, List.mem_append_right _ (List.mem_singleton.2 rfl), rfl⟩⟩⟩
  ·
   have t := hcm.ch f (by simp)
   refine look_oks keyI u232 z244 t b (hP.mo.get_some hfd) ?_
   refine dT2 (dPtr_i (dBl_i ?_))
   refine jn_u ?_
   refine sB_t (by rfl) (nz_i ?_)
   first | refine ld_t a rfl ?_
   refine dInt_i ?_
   refine wr_t (by have := ok.cnt; have := ok.clk; omega) ?_
   refine nz_i ?_
   refine st_t a rfl (by simp) fun ar g u am => ?_
   intro _ _ _ _ _ _ _ _ _ _ _ _ _ _ _ _ _ _ _ _ _ _ _ _ _ _ _ _ _
   refine dPtr_i (nz_i ?_)
   first | refine ld_t g rfl ?_
   refine dInt_i ?_
   refine wr_t (by have := ok.cnt; have := ok.clk; omega) ?_
   refine nz_i ?_
   refine st_t g rfl (by simp) fun ai B w an => ?_
   have S := hbu.mv f (tagn (by simp))
   have U := S.mv u (onn (by rw [a.tag]; omega))
   have G := U.mv w (onn (by rw [g.tag]; omega))
   obtain ⟨hxm, rfl⟩ := find_mem hfd
   have hxb := (G).at_ x hxm
   have hbu2 := G
   refine nz_i ?_
   first | refine ld_t B rfl ?_
   refine dInt_i (nz_i ?_)
   refine st_t hxb rfl (by simp [bufv]) fun J ad j ao => ?_
   refine ret_t ?_
   have V := B.on j (by intro he; have h1 := B.tag; have h2 := hxb.tag; rw [he] at h1; rw [h1] at h2; revert h2; simp <;> omega)
   have H := t.on u (by intro he; have h1 := t.tag; have h2 := a.tag; rw [he] at h1; rw [h1] at h2; revert h2; simp <;> omega)
   have I := H.on w (by intro he; have h1 := H.tag; have h2 := g.tag; rw [he] at h1; rw [h1] at h2; revert h2; simp <;> omega)
   have W := I.on j (by intro he; have h1 := I.tag; have h2 := hxb.tag; rw [he] at h1; rw [h1] at h2; revert h2; simp <;> omega)
   have X := hby.mv f (tagn (by simp))
   have Y := X.mv u (onn (by rw [a.tag]; omega))
   have Z := Y.mv w (onn (by rw [g.tag]; omega))
   have aa := Z.mv j (onn (by rw [hxb.tag]; omega))
   rw [get_hit hfd]
   have hPP : CacheP J c T d { C with l := rmB C.l x.blk ++ [{ x with used := C.clock + 1 }], clock := C.clock + 1, hits := C.hits + 1 } r m bp bh := touchP (C1 := C) V W hbu2 aa hP.mo hxm j ad rfl hP.bnd hP.len
   exact ⟨_, _, rfl, (((((Ch.refl [T, T + 1, T + 2, T + 3] s).ch f (by simp)).on_tag u a.tag (by simp)).on_tag w g.tag (by simp)).on_tag j hxb.tag (by simp)), .inr ⟨hh, rfl, ⟨⟨_, _, _, _, hPP⟩, ok.push (rmB_sub _ _) rfl rfl rfl (by omega) (by have := ok.cnt; simp only; omega) (ok.pin x hxm)⟩, fun _ => ⟨_, _, _, _, _, hPP, rfl, List.mem_append_right _ (List.mem_singleton.2 rfl), rfl⟩⟩⟩
end Go.Proofs.YtklppdodadkcnaaGreat.E
namespace Go.Proofs.YtklppdodadkcnaaGreat.E
open Go Go.Proofs Go.RowKit Go.Maps Go.Shelf Go.Sort
set_option linter.unusedVariables false
set_option linter.unusedSimpArgs false
def CacheM.bytes (C : CacheM) (b : Int) : List UInt8 := ((C.find b).map (·.by_)).getD []
theorem bytes_eq {C : CacheM} (hn : (C.l.map (·.blk)).Nodup) {x : BufM} (hx : x ∈ C.l) : C.bytes x.blk = x.by_ := by unfold CacheM.bytes CacheM.find; rw [find_nd hn hx]; rfl
def updB (l : List BufM) (b : Int) (f : BufM → BufM) : List BufM := l.map fun x => if x.blk = b then f x else x
def CacheM.put (C : CacheM) (b : Int) (y : List UInt8) : CacheM := { C with l := updB C.l b fun x => { x with by_ := y } }
def CacheM.pin1 (C : CacheM) (b : Int) : CacheM × Int :=
 match C.find b with
 | none => (C, 3)
 | some x => if x.pins ≥ 100 then (C, 3) else ({ C with l := updB C.l b fun x => { x with pins := x.pins + 1 } }, 0)
def CacheM.pin (C : CacheM) (bs : List (List UInt8)) (b : Int) : CacheM × Int := if (C.get bs b).2 = 0 then (C.get bs b).1.pin1 b else C.get bs b
theorem updB_mem {l : List BufM} {b : Int} {f : BufM → BufM} {y : BufM} (h : y ∈ updB l b f) : ∃ x ∈ l, (x.blk ≠ b ∧ y = x) ∨ (x.blk = b ∧ y = f x) := by
 unfold updB at h
 obtain ⟨x, hx, e⟩ := List.mem_map.1 h
 refine ⟨x, hx, ?_⟩
 by_cases hb : x.blk = b
 ·rw [if_pos hb] at e; exact .inr ⟨hb, e.symm⟩
 ·rw [if_neg hb] at e; exact .inl ⟨hb, e.symm⟩
theorem COk.upd {C C' : CacheM} (ok : COk C) {b : Int} {f : BufM → BufM} (hl : C'.l = updB C.l b f) (hu : ∀ x, (f x).used = x.used) (hp : ∀ x ∈ C.l, x.blk = b → 0 ≤ (f x).pins ∧ (f x).pins ≤ 100) (h1 : C'.clock = C.clock) (h2 : C'.hits = C.hits) (h3 : C'.misses = C.misses) : COk C' := by
 have hk := ok.clk
 have hc := ok.cnt
 refine ⟨?_, fun y hy => ?_, by omega, by omega, fun y hy => ?_⟩
 ·rw [hl]; unfold updB; rw [List.pairwise_map]
  refine ok.srt.imp fun {a z} h => ?_
  have e : ∀ x : BufM, (if x.blk = b then f x else x).used = x.used := fun x => by split <;> simp [hu]
  rw [e, e]; exact h
 ·rw [hl] at hy
  obtain ⟨x, hx, ⟨_, rfl⟩ | ⟨_, rfl⟩⟩ := updB_mem hy
  ·have := ok.rng y hx; omega
  ·have := ok.rng x hx; rw [hu]; omega
 ·rw [hl] at hy
  obtain ⟨x, hx, ⟨_, rfl⟩ | ⟨hb, rfl⟩⟩ := updB_mem hy
  ·exact ok.pin y hx
  ·exact hp x hx hb
theorem c_Get (c T d Td : Nat) (C : CacheM) (D : DiskM) (b : Int) (τ : Nat) (s : TH) (hT : 10 ≤ T) (hTd : 10 ≤ Td) (hTT : T + 10 ≤ Td ∨ Td + 10 ≤ T) (hc : Cache s c T d C) (hd : Disk s d Td D) (hl : D.has b → ∃ l, D.blocks[b.toNat]? = some l) (hf : D.fails b ≤ 0) (hk : C.clock < 9223372036854775807 ∧ C.hits < 9223372036854775807 ∧ C.misses < 9223372036854775807) : TRet Tryz.prog 125 #[.pointer (some ⟨c, 0, none⟩), .int .i64 b] s fun v s' => ∃ a n cc e, v = .tuple #[.slice a n cc, .int .i64 e] ∧ Ch [T, T + 1, T + 2, T + 3] s s' ∧ ((¬ D.has b ∧ e = 1 ∧ Cache s' c T d C) ∨ (D.has b ∧ e = (C.get D.blocks b).2 ∧ Cache s' c T d (C.get D.blocks b).1 ∧ (e = 0 → n = 128 ∧ Own s' a 128 cc 5 1 (bvs ((C.get D.blocks b).1.bytes b)) τ ∧ ((C.get D.blocks b).1.bytes b).length = 128))) := by
 refine F125_calls _ _  ?_
 unfold F125
 refine tcall (c_get c T d Td C D b _ hT hTd hTT hc hd hl hf hk) ?_
 rintro _ s2 ⟨q, e, rfl, g, hres⟩
 have k := g.size
 refine dT2 (dPtr_i (dInt_i ?_))
 refine sB_ne (fun f => ?_) (fun f => ?_)
 ·
  refine ret_t ?_
  refine ⟨_, _, _, _, rfl, ((Ch.refl [T, T + 1, T + 2, T + 3] s).ch g (by simp)), ?_⟩
  rcases hres with ⟨h1, h2, h3⟩ | ⟨h1, h2, h3, h4⟩
  ·exact .inl ⟨h1, h2, h3⟩
  ·exact .inr ⟨h1, h2, h3, fun h => absurd h f⟩
 ·
  rcases hres with ⟨_, h1, _⟩ | ⟨hh, he, hC, hx⟩
  ·rw [h1] at f; cases f
  obtain ⟨r, m, bp, bh, x, hP, rfl, hxm, rfl⟩ := hx f
  have hxb := hP.bufs.at_ x hxm
  have hyb := hP.bufy.at_ x hxm
  have hPr := hP
  refine nz_i ?_
  first | refine ld_t hxb rfl ?_
  refine dSl_i ?_
  refine tcall (c_clone τ _ hyb.sl hyb.len (fun h => by obtain ⟨y, hy⟩ := hyb.ne; rw [h] at hy; cases hy) (by omega)) ?_
  rintro _ o ⟨ya, yc, rfl, i, j, hyn⟩
  have p := i.size
  refine dSl_i ?_
  refine ret_t ?_
  have P_6 := hPr.mv i (rngn (by simp <;> omega))
  have hby := bytes_eq hP.mo.nd hxm
  exact ⟨_, _, _, _, rfl, (((Ch.refl [T, T + 1, T + 2, T + 3] s).ch g (by simp)).ch i (by simp)), .inr ⟨hh, by rw [← he, f], ⟨⟨_, _, _, _, P_6⟩, hC.ok⟩, fun _ => ⟨rfl, by rw [hby]; exact j, by rw [hby]; exact hyb.len⟩⟩⟩
-- no form: (*bollard/cache.Cache).Put
-- no form: (*bollard/cache.Cache).Unpin
-- no form: (*bollard/cache.Cache).Pin
-- no form: (*bollard/cache.Cache).Hits
end Go.Proofs.YtklppdodadkcnaaGreat.E
namespace Go.Proofs
open Go.Shelf
def Tryz.sortIA_ren : Go.Shelf.Ren := ⟨fun | 189 => 174 | 125 => 195 | 257 => 194 | 128 => 215 | 129 => 216 | 294 => 206 | 295 => 207 | 296 => 208 | 297 => 209 | 298 => 210 | 299 => 211 | 216 => 212 | 300 => 213 | 301 => 214 | 328 => 221 | 329 => 222 | 330 => 223 | 331 => 224 | 332 => 225 | 215 => 226 | 343 => 232 | n => n, fun | 28 => 45 | 3 => 3 | 46 => 30 | 0 => 0 | 51 => 64 | 53 => 286 | 4 => 4 | 183 => 278 | 182 => 277 | 131 => 46 | 5 => 5 | 9 => 9 | 218 => 287 | 222 => 107 | 228 => 296 | 229 => 122 | n => n, fun | n => n⟩
theorem Tryz.sortIA : Go.Proofs.Lays.n189 Tryz.prog Tryz.sortIA_ren :=
 {mixed := by kernel_rfl,
  f125 := Tryz.func195.trans (congrArg some (by kernel_rfl)),
  f128 := Tryz.func215.trans (congrArg some (by kernel_rfl)),
  f129 := Tryz.func216.trans (congrArg some (by kernel_rfl)),
  f189 := Tryz.func174.trans (congrArg some (by kernel_rfl)),
  f215 := Tryz.func226.trans (congrArg some (by kernel_rfl)),
  f216 := Tryz.func212.trans (congrArg some (by kernel_rfl)),
  f257 := Tryz.func194.trans (congrArg some (by kernel_rfl)),
  f294 := Tryz.func206.trans (congrArg some (by kernel_rfl)),
  f295 := Tryz.func207.trans (congrArg some (by kernel_rfl)),
  f296 := Tryz.func208.trans (congrArg some (by kernel_rfl)),
  f297 := Tryz.func209.trans (congrArg some (by kernel_rfl)),
  f298 := Tryz.func210.trans (congrArg some (by kernel_rfl)),
  f299 := Tryz.func211.trans (congrArg some (by kernel_rfl)),
  f300 := Tryz.func213.trans (congrArg some (by kernel_rfl)),
  f301 := Tryz.func214.trans (congrArg some (by kernel_rfl)),
  f328 := Tryz.func221.trans (congrArg some (by kernel_rfl)),
  f329 := Tryz.func222.trans (congrArg some (by kernel_rfl)),
  f330 := Tryz.func223.trans (congrArg some (by kernel_rfl)),
  f331 := Tryz.func224.trans (congrArg some (by kernel_rfl)),
  f332 := Tryz.func225.trans (congrArg some (by kernel_rfl)),
  f343 := Tryz.func232.trans (congrArg some (by kernel_rfl)),
  t0 := Tryz.underlying0,
  a0 := Tryz.isAgg0,
  z0 := Tryz.sizeOf0,
  v0 := Tryz.zeroValue0,
  t3 := Tryz.underlying3,
  a3 := Tryz.isAgg3,
  z3 := Tryz.sizeOf3,
  v3 := Tryz.zeroValue3,
  t4 := Tryz.underlying4,
  a4 := Tryz.isAgg4,
  z4 := Tryz.sizeOf4,
  v4 := Tryz.zeroValue4,
  t5 := Tryz.underlying5,
  a5 := Tryz.isAgg5,
  z5 := Tryz.sizeOf5,
  v5 := Tryz.zeroValue5,
  t9 := Tryz.underlying9,
  a9 := Tryz.isAgg9,
  z9 := Tryz.sizeOf9,
  v9 := Tryz.zeroValue9,
  t28 := Tryz.underlying45,
  a28 := Tryz.isAgg45,
  z28 := Tryz.sizeOf45,
  v28 := Tryz.zeroValue45,
  t46 := Tryz.underlying30,
  a46 := Tryz.isAgg30,
  z46 := Tryz.sizeOf30,
  v46 := Tryz.zeroValue30,
  t51 := Tryz.underlying64,
  a51 := Tryz.isAgg64,
  z51 := Tryz.sizeOf64,
  v51 := Tryz.zeroValue64,
  t53 := Tryz.underlying286,
  a53 := Tryz.isAgg286,
  z53 := Tryz.sizeOf286,
  v53 := Tryz.zeroValue286,
  t131 := Tryz.underlying46,
  a131 := Tryz.isAgg46,
  z131 := Tryz.sizeOf46,
  v131 := Tryz.zeroValue46,
  t182 := Tryz.underlying277,
  a182 := Tryz.isAgg277,
  z182 := Tryz.sizeOf277,
  v182 := Tryz.zeroValue277,
  t183 := Tryz.underlying278,
  a183 := Tryz.isAgg278,
  z183 := Tryz.sizeOf278,
  v183 := Tryz.zeroValue278,
  t218 := Tryz.underlying287,
  a218 := Tryz.isAgg287,
  z218 := Tryz.sizeOf287,
  v218 := Tryz.zeroValue287,
  t222 := Tryz.underlying107,
  a222 := Tryz.isAgg107,
  z222 := Tryz.sizeOf107,
  v222 := Tryz.zeroValue107,
  t228 := Tryz.underlying296,
  a228 := Tryz.isAgg296,
  z228 := Tryz.sizeOf296,
  v228 := Tryz.zeroValue296,
  t229 := Tryz.underlying122,
  a229 := Tryz.isAgg122,
  z229 := Tryz.sizeOf122,
  v229 := Tryz.zeroValue122 }
end Go.Proofs
namespace Go.Proofs.YtklppdodadkcnaaGreat.E
open Go Go.Proofs Go.RowKit Go.Maps Go.Shelf Go.Sort
set_option linter.unusedVariables false
set_option linter.unusedSimpArgs false
theorem c_sortInt {a : Option Addr} {n c τ : Nat} {l : List Int} {s : TH} (hO : Own s a n c 3 1 (ivs l) τ) (hn : n ≤ 17592186044416) :
  TRet Tryz.prog 174 #[.slice a n c] s fun v s' => v = .tuple #[] ∧ Ch [τ] s s' ∧ Own s' a n c 3 1 (ivs (l.mergeSort fun x y => decide (x ≤ y))) τ := by
 have hl : l.length = n := by have := hO.1; rw [ivs_len] at this; omega
 by_cases h0 : n = 0
 ·subst h0
  have hss : l = [] := List.eq_nil_of_length_eq_zero hl
  subst hss
  intro w hw
  refine (Any.slices_Sort_int_none Tryz.sortIA a c w).mono ?_
  rintro e w' ⟨rfl, rfl⟩
  exact ⟨⟨_, s, rfl, hw.symm, rfl, Ch.refl _ _, by simpa using hO⟩, Like.refl _⟩
 obtain ⟨g, o, rfl⟩ : ∃ g o, a = some ⟨g, o, none⟩ := by
  rcases hO.2 with ⟨_, h, _⟩ | ⟨g, o, L, h, _⟩
  ·exact absurd h h0
  ·exact ⟨g, o, h⟩
 have hgt : s.g g = τ := hO.tagOf
 intro w hw
 have hH : Go.Sort.Holds (Value.int .i64) w g o l.toArray := by
  intro j hj
  have hj' : j < l.length := by simpa using hj
  have hcell := hO.sl.cells w hw j (.int .i64 l.toArray[j]!) (by simp [ivs, hj'])
  rw [add_mk] at hcell
  refine ⟨hcell, ?_⟩
  rcases hO.2 with ⟨h, _⟩ | ⟨g', o', L, h, h1, _⟩
  ·cases h
  ·cases h
   rw [frozen_eq, hw]; exact h1.frozen _
 have hS := Any.slices_Sort_int Tryz.sortIA g o c l w hH (by rw [hw]; rcases hO.2 with ⟨h, _⟩ | ⟨g', o', L, h, h1, _⟩ <;> cases h; exact h1.lt) (by omega)
 rw [hl] at hS
 refine hS.mono ?_
 rintro e w' ⟨rfl, n', os, rfl⟩
 refine ⟨⟨_, ⟨_, s.g⟩, rfl, rfl, rfl, Chg.mono (sortW_on (enc := Value.int .i64) hw g o n' _ os) (fun j hj e => by subst e; show s.g j ∈ [τ]; rw [hgt]; simp), ?_⟩, rfl, rfl, rfl⟩
 have := sortW_own (enc := Value.int .i64) hw hO n' (l.mergeSort fun x y => decide (x ≤ y)).toArray (by simp [hl]) os
 exact this
theorem ivs_set (l : List Int) (i : Nat) (x : Int) : (ivs l).set i (.int .i64 x) = ivs (l.set i x) := by simp [ivs, List.map_set]
theorem snoc_ind {α : Type} {p : List α → Prop} (h0 : p []) (h1 : ∀ l x, p l → p (l ++ [x])) (l : List α) : p l := by
 rw [← l.reverse_reverse]
 induction l.reverse with
 | nil => exact h0
 | cons x t ih => rw [List.reverse_cons]; exact h1 _ x ih
def cptS (acc : List Int) (x : Int) : List Int := if acc.getLast? = some x then acc else acc ++ [x]
def cpt (l : List Int) : List Int := l.foldl cptS []
theorem cpt_snoc (l : List Int) (x : Int) : cpt (l ++ [x]) = cptS (cpt l) x := by simp [cpt, List.foldl_append]
theorem cpt_last (l : List Int) : (cpt l).getLast? = l.getLast? := by
 induction l using snoc_ind with
 | h0 => rfl
 | h1 l x ih =>
  rw [cpt_snoc]
  unfold cptS
  by_cases h : (cpt l).getLast? = some x
  ·rw [if_pos h, h]; simp
  ·rw [if_neg h]; simp
theorem cpt_take {l : List Int} {k : Nat} {x : Int} (h : l[k]? = some x) : cpt (l.take (k + 1)) = if (l.take k).getLast? = some x then cpt (l.take k) else cpt (l.take k) ++ [x] := by
 rw [List.take_add_one, h, Option.toList_some, cpt_snoc]
 unfold cptS
 rw [cpt_last]
theorem last_take {l : List Int} {k : Nat} {y : Int} (h : l[k]? = some y) : (l.take (k + 1)).getLast? = some y := by
 rw [List.take_add_one, h]; simp
theorem c_compact {a : Option Addr} {n c τ : Nat} {l : List Int} {s : TH} (hO : Own s a n c 3 1 (ivs l) τ) (hn : n ≤ 17592186044416) : TRet Tryz.prog 175 #[.slice a n c] s fun v s' => v = .slice a (cpt l).length c ∧ Ch [τ] s s' ∧ Own s' a (cpt l).length c 3 1 (ivs (cpt l)) τ := by
 have hl : l.length = n := by have := hO.1; rw [ivs_len] at this; omega
 have hle := hO.le
 refine F175_calls _ _ _  ?_
 unfold F175
 refine sB_d (fun B => ?_) (fun B => ?_)
 ·
  refine ret_t ?_
  have e : cpt l = l := by
   match l, hl with
   | [], _ => rfl
   | [x], _ => rfl
   | x :: y :: l, h => simp at h; omega
  rw [e, hl]
  exact ⟨rfl, (Ch.refl [τ] s), hO⟩
 ·
  refine ⟨fun vs H' => ∃ s' : TH, s'.h = H' ∧ ∃ i, vs = [.int .i64 i] ∧ ChL [τ] [] s s' ∧ (∃ k : Nat, i = k ∧ 1 ≤ k ∧ k ≤ n ∧ cpt (l.take k) = l.take k ∧ Own s' a n c 3 1 (ivs l) τ), fun vs H' => match vs with | [.int .i64 i] => ((n : Int) - i).toNat | _ => 0, ⟨s, rfl, _, rfl, ChL.refl _ _ _, ?_⟩, ?_⟩
  ·
   refine ⟨1, rfl, by omega, by omega, ?_, hO⟩
   match l, hl with
   | [], h => simp at h; omega
   | x :: l, _ => rfl
  ·
   intro i _ _ _ _ _ _ _ _ _ _ _ _ _ _ _ _ _ _ _ _ _ _ _ _ _ _ _ _ _ _ _ _ _ _ _ _ _ _ _ _ _ _ _ _ _ _ _ _ _ _ _ _ _ K hI
   obtain ⟨g, rfl, i_, hvs, r, k, rfl, hk1, hk, hcp, f⟩ := hI
   cases hvs
   have L := r.size
   refine sB_d (fun C => ?_) (fun C => ?_)
   ·
    have hk2 : k < n := by omega
    obtain ⟨x, hx⟩ : ∃ x, l[k]? = some x := ⟨l[k], by simp [hl, hk2]⟩
    obtain ⟨y, hy⟩ : ∃ y, l[k - 1]? = some y := ⟨l[k - 1]'(by omega), by simp⟩
    obtain ⟨b, rfl⟩ := f.ne_none (by omega)
    refine nz_i (ask_t (by omega) ?_)
    refine ld_sl f.sl (by rw [Int.toNat_natCast, Nat.mul_one]; exact ivs_get hx) ?_
    refine dInt_i (wr_t (by omega) ?_)
    rw [show ((k : Int) - 1) = ((k - 1 : Nat) : Int) from by omega]
    refine nz_i (ask_t (by omega) ?_)
    refine ld_sl f.sl (by rw [Int.toNat_natCast, Nat.mul_one]; exact ivs_get hy) ?_
    refine dInt_i ?_
    refine sB_eq (fun j => ?_) (fun j => ?_)
    ·
     refine ask_t (by omega) ?_
     refine ⟨fun vs H' => ∃ s' : TH, s'.h = H' ∧ ∃ i2 k2, vs = [.int .i64 i2, .int .i64 k2] ∧ ChL [τ] [] g s' ∧ (∃ (p q : Nat) (X : List Int), i2 = p ∧ k2 = q ∧ 1 ≤ q ∧ k + q ≤ n ∧ 1 ≤ p ∧ p + 1 ≤ k + q ∧ Own s' (some b) n c 3 1 (ivs X) τ ∧ X.drop (k + q - 1) = l.drop (k + q - 1) ∧ X.take p = cpt (l.take (k + q))), fun vs H' => match vs with | [.int .i64 i2, .int .i64 k2] => ((n : Int) - k2).toNat | _ => 0, ⟨g, rfl, _, _, rfl, ChL.refl _ _ _, ?_⟩, ?_⟩
     ·
      refine ⟨k, 1, l, rfl, rfl, by omega, by omega, by omega, by omega, f, rfl, ?_⟩
      rw [cpt_take hx, show k = (k - 1) + 1 by omega, last_take hy, if_pos (by rw [j]), show k - 1 + 1 = k by omega, hcp]
     ·
      intro i2 k2 _ _ _ _ _ _ _ _ _ _ _ _ _ _ _ _ _ _ _ _ _ _ _ _ _ M hI
      obtain ⟨F, rfl, i2_, k2_, hvs, t, p, q, X, rfl, rfl, hq1, hq, hp1, hp, d, hX1, hX2⟩ := hI
      cases hvs
      have N := t.size
      have hXn : X.length = n := by have := d.len; rw [ivs_len] at this; omega
      refine sB_d (fun w => ?_) (fun w => ?_)
      all_goals simp only [Int.toNat_natCast] at w
      ·
       refine jn_u ?_
       have hkq : k + q < n := by omega
       obtain ⟨x2, hx2⟩ : ∃ x, l[k + q]? = some x := ⟨l[k + q]'(by omega), by simp⟩
       obtain ⟨y2, hy2⟩ : ∃ y, l[k + q - 1]? = some y := ⟨l[k + q - 1]'(by omega), by simp⟩
       have hXx : X[k + q]? = some x2 := by have := congrArg (·[1]?) hX1; simp only [List.getElem?_drop] at this; rw [show k + q - 1 + 1 = k + q by omega] at this; rw [this, hx2]
       have hXy : X[k + q - 1]? = some y2 := by have := congrArg (·[0]?) hX1; simp only [List.getElem?_drop, Nat.add_zero] at this; rw [this, hy2]
       have hcut := d.cut (m := k) (by omega)
       rw [Nat.mul_one, ivs_drop] at hcut
       obtain ⟨b2, hb2⟩ := hcut.ne_none (by rw [ivs_len, List.length_drop]; have := d.len; rw [ivs_len] at this; omega)
       rw [hb2] at hcut ⊢
       refine nz_i (ask_t (by omega) ?_)
       refine ld_sl hcut (by rw [Int.toNat_natCast, Nat.mul_one]; exact ivs_get (by rw [List.getElem?_drop]; exact hXx)) ?_
       refine dInt_i (wr_t (by omega) ?_)
       rw [show ((q : Int) - 1) = ((q - 1 : Nat) : Int) from by omega]
       refine nz_i (ask_t (by omega) ?_)
       refine ld_sl hcut (by rw [Int.toNat_natCast, Nat.mul_one]; exact ivs_get (by rw [List.getElem?_drop, show k + (q - 1) = k + q - 1 by omega]; exact hXy)) ?_
       refine dInt_i ?_
       refine sB_ne (fun o => ?_) (fun o => ?_)
       ·
        refine nz_i (ask_t (by omega) ?_)
        refine ld_sl hcut (by rw [Int.toNat_natCast, Nat.mul_one]; exact ivs_get (by rw [List.getElem?_drop]; exact hXx)) ?_
        refine dInt_i (nz_i (ask_t (by omega) ?_))
        refine Own.st d rfl (by rw [Int.toNat_natCast]; omega) fun D G H O => ?_
        have E := Ch.on_tag (T := [τ]) (Ch.refl _ _) H d.tagOf (by simp)
        refine wr_t (by omega) ?_
        intro _ _ _ _ _ _ _ _ _ _ _ _ _ _ _ _ _ _ _
        refine dInt_i (wr_t (by omega) ?_)
        refine ⟨⟨D, rfl, _, _, rfl, (((ChL.refl [τ] [] g).chl t (by simp) (by simp <;> omega)).ch E (by simp)), ?_⟩, ?_⟩
        ·
         refine ⟨p + 1, q + 1, X.set p x2, by omega, by omega, by omega, by omega, by omega, by omega, ?_, ?_, ?_⟩
         ·have h := G
          rw [Int.toNat_natCast, Nat.mul_one, ivs_set] at h
          exact h
         ·rw [show k + (q + 1) - 1 = k + q - 1 + 1 by omega, List.drop_set_of_lt (by omega), ← List.drop_drop, hX1, List.drop_drop]
         ·rw [show k + (q + 1) = k + q + 1 by omega, cpt_take hx2, show k + q = k + q - 1 + 1 by omega, last_take hy2, if_neg (by intro e; cases e; exact o rfl), show k + q - 1 + 1 = k + q by omega, ← hX2, List.take_add_one, List.getElem?_set_self (by have := (List.getElem?_eq_some_iff.1 hXx).1; omega), List.take_set_of_le (Nat.le_refl _)]
          rfl
        ·
         first | omega | (simp only []; omega)
       ·
        intro _ _ _ _ _ _ _ _ _ _ _ _ _ _ _ _ _ _ _
        refine dInt_i (wr_t (by omega) ?_)
        refine ⟨⟨F, rfl, _, _, rfl, ((ChL.refl [τ] [] g).chl t (by simp) (by simp <;> omega)), ?_⟩, ?_⟩
        ·
         refine ⟨p, q + 1, X, by omega, by omega, by omega, by omega, by omega, by omega, d, ?_, ?_⟩
         ·rw [show k + (q + 1) - 1 = k + q - 1 + 1 by omega, ← List.drop_drop, hX1, List.drop_drop]
         ·rw [show k + (q + 1) = k + q + 1 by omega, cpt_take hx2, show k + q = k + q - 1 + 1 by omega, last_take hy2, if_pos (by rw [o]), show k + q - 1 + 1 = k + q by omega, hX2]
        ·
         first | omega | (simp only []; omega)
      ·
       refine ask_t (by omega) ?_
       simp only [Int.toNat_natCast]
       refine clear_t u45 in3 rfl (by intro u hu; simp [Value.cells] at hu; subst hu; rfl) (d.pre (m := p) (by omega)) (m := n) (by omega) (by omega) fun I q2_13 A _ => ?_
       have z := A.ch (T := [τ]) (d.pre (m := p) (by omega)) (by simp)
       have J := z.size
       refine ask_t (by omega) ?_
       refine ret_t ?_
       have hkn : k + q = n := by omega
       rw [hkn, List.take_of_length_le (l := l) (by omega)] at hX2
       have hpl : (cpt l).length = p := by rw [← hX2, List.length_take]; omega
       have hO2 := q2_13
       rw [Nat.mul_one, ivs_take, hX2] at hO2
       rw [hpl]
       simp only [slO_zero, Int.toNat_zero, Nat.sub_zero]
       exact ⟨trivial, ((((Ch.refl [τ] s).chl r (by simp) (by simp <;> omega)).chl t (by simp) (by simp <;> omega)).ch z (by simp)), hO2⟩
    ·
     refine wr_t (by omega) ?_
     refine ⟨⟨g, rfl, _, rfl, ((ChL.refl [τ] [] s).chl r (by simp) (by simp <;> omega)), ?_⟩, ?_⟩
     ·
      refine ⟨k + 1, by omega, by omega, by omega, ?_, f⟩
      rw [cpt_take hx, show k = (k - 1) + 1 by omega, last_take hy, if_neg (by intro e; cases e; exact j rfl), show k - 1 + 1 = k by omega, hcp, List.take_add_one, hx]
      rfl
     ·
      first | omega | (simp only []; omega)
   ·
    refine ret_t ?_
    have hkn : k = n := by omega
    rw [hkn, List.take_of_length_le (by omega)] at hcp
    rw [hcp, hl]
    exact ⟨rfl, ((Ch.refl [τ] s).chl r (by simp) (by simp <;> omega)), f⟩
end Go.Proofs.YtklppdodadkcnaaGreat.E
