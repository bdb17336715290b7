/- My own texts, joined. -/
import Derived.DeepKeys
import Derived.KernelRfl
import Derived.Laws.StructEq
import Derived.Recover
import Derived.Tactics2
import Derived.Test.YtkaikaodhegmhaaGreatProg
import Derived.WalkKit
import Derived.Test.YtkaikaodhegmhaaGreatSS11
namespace Go.Proofs.YtkaikaodhegmhaaGreat.E
open Go Go.Proofs Go.RowKit Go.Maps Go.Shelf Go.Sort
set_option linter.unusedVariables false
set_option linter.unusedSimpArgs false
def remarkF (s:TH) (φ:Nat->Nat):TH:=⟨s.h,fun j=>φ (s.g j)⟩
theorem remarkF_ch {T:List Nat} {s s':TH} {M:Nat} {φ:Nat->Nat} (c:Ch T s s') (hM: ∀j,j<s.h.size->s.g j<M) (hφ: ∀m,m<M->φ m=m):Ch T s (remarkF s' φ):=
 ⟨c.size,fun j hj=>by show φ (s'.g j)=s.g j;rw [c.tag j hj];exact hφ _ (hM j hj),c.get⟩
section
variable {s :TH} {φ:Nat->Nat}
theorem Blk.rf {r:Nat} {l:List Value} {t τ:Nat} (h:Blk s r l t τ):Blk (remarkF s φ) r l t (φ τ):=⟨h.get,congrArg φ h.tag⟩
theorem Sl.rf {a:Option Addr} {l:List Value} {τ:Nat} (h:Sl s a l τ):Sl (remarkF s φ) a l (φ τ):=by
 rcases h with h|⟨g,o,h1,h2,h3,h4⟩
 ·exact .inl h
 exact .inr ⟨g,o,h1,h2,congrArg φ h3,h4⟩
theorem Own.rf {a:Option Addr} {n c e k:Nat} {xs:List Value} {τ:Nat} (h:Own s a n c e k xs τ):Own (remarkF s φ) a n c e k xs (φ τ):=by
 refine ⟨h.1,h.2.imp id ?_⟩
 rintro ⟨g,o,L,h1,h2,h3⟩
 exact ⟨g,o,L,h1,h2.rf,h3⟩
theorem ByAt.rf {τ:Nat} {p:Hd} {b:List UInt8} (h:ByAt s τ p b):ByAt (remarkF s φ) (φ τ) p b:=⟨h.sl.rf,h.len⟩
theorem BRel.rf {τ:Nat} {hs:List Hd} {bs:List (List UInt8)} (h:BRel s τ hs bs):BRel (remarkF s φ) (φ τ) hs bs:=⟨h.len,fun i p b h1 h2=>(h.at_ i p b h1 h2).rf⟩
end
structure B2 (s:TH) (τa τb:Nat) (hs:List Hd) (bs:List (List UInt8)):Prop where
 len:hs.length=bs.length
 at_: ∀(i:Nat) (p:Hd) (b:List UInt8),i≠2->hs[i]? =some p->bs[i]? =some b->ByAt s τb p b
 two: ∀(p:Hd) (b:List UInt8),hs[2]? =some p->bs[2]? =some b->b.length=128/\Own s p.1 128 p.2 5 1 (bvs b) τa
theorem B2.ch {s s':TH} {τa τb:Nat} {hs:List Hd} {bs:List (List UInt8)} {T:List Nat} (h:B2 s τa τb hs bs) (c:Ch T s s') (ha:τa∉T) (hb:τb∉T):B2 s' τa τb hs bs:=
 ⟨h.len,fun i p b h0 h1 h2=>(h.at_ i p b h0 h1 h2).mv c (tagn hb),fun p b h1 h2=>⟨(h.two p b h1 h2).1,(h.two p b h1 h2).2.mv c (tagn ha)⟩⟩
theorem B2.rf {s:TH} {φ:Nat->Nat} {τa τb:Nat} {hs:List Hd} {bs:List (List UInt8)} (h:B2 s τa τb hs bs):B2 (remarkF s φ) (φ τa) (φ τb) hs bs:=
 ⟨h.len,fun i p b h0 h1 h2=>(h.at_ i p b h0 h1 h2).rf,fun p b h1 h2=>⟨(h.two p b h1 h2).1,(h.two p b h1 h2).2.rf⟩⟩
theorem B2.brel {s:TH} {τ:Nat} {hs:List Hd} {bs:List (List UInt8)} (h:B2 s τ τ hs bs):BRel s τ hs bs:=⟨h.len,fun i p b h1 h2=>by
 by_cases e:i=2
 ·subst e;exact ⟨(h.two p b h1 h2).2.sl,(h.two p b h1 h2).1⟩
 exact h.at_ i p b e h1 h2⟩
theorem B2.snoc {s:TH} {τa τb:Nat} {hs:List Hd} {bs:List (List UInt8)} (h:B2 s τa τb hs bs) {p:Hd} {b:List UInt8} (hl:b.length=128) (ho:Own s p.1 128 p.2 5 1 (bvs b) (if hs.length=2 then τa else τb)):B2 s τa τb (hs++[p]) (bs++[b]):=by
 have e:=h.len
 refine ⟨by simp [e],fun i q x h0 h1 h2=>?_,fun q x h1 h2=>?_⟩
 ·rcases Nat.lt_trichotomy i hs.length with h3|h3|h3
  ·rw [List.getElem?_append_left h3] at h1;rw [List.getElem?_append_left (by omega)] at h2;exact h.at_ i q x h0 h1 h2
  ·subst h3
   rw [if_neg h0] at ho
   rw [List.getElem?_append_right (Nat.le_refl _),Nat.sub_self] at h1
   rw [List.getElem?_append_right (by omega),e,Nat.sub_self] at h2
   simp at h1 h2;subst h1 h2;exact ⟨ho.sl,hl⟩
  rw [List.getElem?_eq_none (by simp;omega)] at h1;cases h1
 rcases Nat.lt_trichotomy 2 hs.length with h3|h3|h3
 ·rw [List.getElem?_append_left h3] at h1;rw [List.getElem?_append_left (by omega)] at h2;exact h.two q x h1 h2
 ·rw [if_pos h3.symm] at ho
  rw [List.getElem?_append_right (by omega), ←h3,Nat.sub_self] at h1
  rw [List.getElem?_append_right (by omega), ←e, ←h3,Nat.sub_self] at h2
  simp at h1 h2;subst h1 h2;exact ⟨hl,ho⟩
 rw [List.getElem?_eq_none (by simp;omega)] at h1;cases h1
theorem B2.app {s:TH} {τa τb:Nat} {hs hs':List Hd} {bs bs':List (List UInt8)} (h:B2 s τa τb hs bs) (k:BRel s τb hs' bs') (h3:3<=hs.length):B2 s τa τb (hs++hs') (bs++bs'):=by
 have e:=h.len
 refine ⟨by simp [e,k.len],fun i q x h0 h1 h2=>?_,fun q x h1 h2=>?_⟩
 ·by_cases h4:i<hs.length
  ·rw [List.getElem?_append_left h4] at h1;rw [List.getElem?_append_left (by omega)] at h2;exact h.at_ i q x h0 h1 h2
  rw [List.getElem?_append_right (by omega)] at h1;rw [List.getElem?_append_right (by omega), ←e] at h2;exact k.at_ _ q x h1 h2
 rw [List.getElem?_append_left (by omega)] at h1;rw [List.getElem?_append_left (by omega)] at h2;exact h.two q x h1 h2
theorem copy_blk {P:Program} {t t2 ty e:TypeId} {E:List PanicEntry->Heap->Prop} {s:TH} {r o n c mc tb:Nat} {xa:Option Addr} {L:List Value} {x:List UInt8} {τ τx:Nat} {K:Value->Heap->Prop}
  (ht:P.underlying t=some (.slice e)) (hi':(P.info? e).map (fun i=>(i.zero,i.size,i.bytes))=some (some (.int .u8 0),1,1))
  (hB:Blk s r L tb τ) (hx:Sl s xa (bvs x) τx) (hm:x.length=n) (hn:0<n) (ho:o+n<=L.length)
  (hk: ∀s':TH,Blk s' r (L.take o++bvs x++L.drop (o+n)) tb τ->On r s s'->s.h.size=s'.h.size->K (.int .i64 (n:Int)) s'.h):
  semW P (Builtin.copy_ #[t,t2] ty #[.slice (some ⟨r,o,none⟩) n c,.slice xa n mc]) E s.h K:=.mk fun w hw=>by
 obtain ⟨i,hi,hz,hs,hby⟩:=info_of hi'
 obtain ⟨b,rfl⟩:=hx.some (fun h=>by have:=congrArg List.length h;rw [bvs_len,List.length_nil] at this;omega)
 have hfw:=run_firstCells_some (P:=P) w 1 n b n mc (bvs x) (by rw [bvs_len];omega) fun j u hu=>hx.cells w hw j u hu
 have hst:=run_storeCells_at P r o tb (bvs x) 0 L.toArray w (by rw [hw];exact hB.get) (by simp [bvs_len];omega) (bvs_one _)
 simp only [Nat.add_zero,bvs_len] at hst
 have hr:(Builtin.copy_ #[t,t2] ty #[.slice (some ⟨r,o,none⟩) n c,.slice (some b) n mc]).run P w=.ok (.int .i64 (n:Int)) (w.setRow r (L.take o++bvs x++L.drop (o+n)).toArray):=by
  simp [Builtin.copy_,run_underlying ht,sizeOf,typeInfo,hi,hs,hfw,hst,goInt,Builtin.lenOf,hm]
 rw [hr]
 have hset:(w.setRow r (L.take o++bvs x++L.drop (o+n)).toArray).heap[r]? =some (.cells (L.take o++bvs x++L.drop (o+n)).toArray tb (0,0)):=setRow_heap w r L.toArray _ tb _ (by rw [hw];exact hB.get)
 have hK:=hk ⟨(w.setRow r (L.take o++bvs x++L.drop (o+n)).toArray).heap,s.g⟩ ⟨hset,hB.tag⟩ ⟨by simp [←hw],fun _ _=>rfl,fun j hj hn=>?_⟩ (by simp [←hw])
 ·exact ⟨hK,rfl,rfl,rfl⟩
 ·show (w.setRow r _).heap[j]? =_
  rw [setRow_other w r j _ (fun e=>hn (by simp [e])),hw]
theorem st_same {s:TH} {r i t τ:Nat} {l:List Value} {v:Value} {k:Heap->Prop} (h:Blk s r l t τ) (h1:oneC v=true) (hv:l[i]? =some v) (hk: ∀s':TH,Blk s' r l t τ->On r s s'->s.h.size=s'.h.size->k s'.h):st s.h ⟨r,i,none⟩ v k:=by
 obtain ⟨hi,hg⟩:=List.getElem?_eq_some_iff.1 hv
 refine st_t h h1 hi fun s' b c z=>hk s' ?_ c z
 rw [←hg,List.set_getElem_self] at b
 exact b
def gv (n:Int) (il bl:List UInt8):List Value:=.int .i64 n::(bvs il++bvs bl)
def hdL (n:Nat) (il bl:List UInt8):List UInt8:=[104,100,UInt8.ofNat n,0]++il++bl++List.replicate 84 0
theorem hdL_len (n:Nat) {il bl:List UInt8} (h1:il.length=8) (h2:bl.length=32):(hdL n il bl).length=128:=by simp [hdL,h1,h2]
theorem gv_bits {n:Int} {il bl x:List UInt8} (h1:il.length=8) (h2:bl.length=32):(gv n il bl).take 9++bvs x++(gv n il bl).drop (9+32)=gv n il x:=by
 have e1:(bvs il).length=8:=by rw [bvs_len,h1]
 have e2:(bvs bl).length=32:=by rw [bvs_len,h2]
 unfold gv
 rw [show (9:Nat)=8+1 from rfl,List.take_succ_cons,show 8+1+32=40+1 from rfl,List.drop_succ_cons,List.take_append_of_le_length (by omega),List.take_of_length_le (by omega),List.drop_eq_nil_of_le (by simp [e1,e2])]
 simp
theorem gv_len {n:Int} {il bl:List UInt8} (h1:il.length=8) (h2:bl.length=32):(gv n il bl).length=41:=by simp [gv,bvs_len,h1,h2]
theorem gv_slB {s:TH} {r t τ:Nat} {n:Int} {il bl:List UInt8} (h:Blk s r (gv n il bl) t τ) (h1:il.length=8) (h2:bl.length=32):Sl s (some ⟨r,9,none⟩) (bvs bl) τ:=Sl.of h (by
 have e1:(bvs il).length=8:=by rw [bvs_len,h1]
 have e2:(bvs bl).length=32:=by rw [bvs_len,h2]
 unfold gv
 rw [show (9:Nat)=8+1 from rfl,List.drop_succ_cons,List.drop_append_of_le_length (by omega),List.drop_eq_nil_of_le (by omega)]
 simp)
theorem gv_slI {s:TH} {r t τ:Nat} {n:Int} {il bl:List UInt8} (h:Blk s r (gv n il bl) t τ) (h1:il.length=8) (h2:bl.length=32):Sl s (some ⟨r,1,none⟩) (bvs il) τ:=Sl.of h (by
 have e1:(bvs il).length=8:=by rw [bvs_len,h1]
 unfold gv
 rw [show (1:Nat)=0+1 from rfl,List.drop_succ_cons,List.drop_zero,List.take_append_of_le_length (by omega),List.take_of_length_le (by omega)])
def setsB (l:List UInt8):Nat->List UInt8
 |0=>l
 |k+1=>setB (setsB l k) k
theorem setsB_len (l:List UInt8) (k:Nat):(setsB l k).length=l.length:=by
 induction k with
 |zero=>rfl
 |succ k ih=>rw [setsB,setB_len,ih]
def zB32 :List UInt8:=List.replicate 32 0
theorem sets32 (k:Nat):(setsB zB32 k).length=32:=setsB_len _ _
def iL (n:Nat):List UInt8:=[if n=0 then 7 else 0,0,0,0,0,0,0,0]
def nB (n N:Nat):Nat:=2+N/4+if n=0 then 1 else 0
def zB128 :List UInt8:=List.replicate 128 0
theorem zB128_len :zB128.length=128:=List.length_replicate
def grpL (G B N n:Nat):List (List UInt8):=[superL G B N 0,hdL n (iL n) (setsB zB32 (nB n N))]++List.replicate (B - 2) zB128
theorem grpL_len {G B N n:Nat} (h:2<=B):(grpL G B N n).length=B:=by simp [grpL];omega
theorem B2.two2 {s:TH} {τa τb:Nat} {a1 a2:Option Addr} {c1 c2:Nat} {l1 l2:List UInt8} (h1:Own s a1 128 c1 5 1 (bvs l1) τb) (h2:Own s a2 128 c2 5 1 (bvs l2) τb) (e1:l1.length=128) (e2:l2.length=128):B2 s τa τb [(a1,c1),(a2,c2)] [l1,l2]:=by
 refine ⟨rfl,fun i p b h0 g1 g2=>?_,fun p b g1 g2=>by simp at g1⟩
 rcases i with _|_|i
 ·simp at g1 g2;subst g1 g2;exact ⟨h1.sl,e1⟩
 ·simp at g1 g2;subst g1 g2;exact ⟨h2.sl,e2⟩
 simp at g1
theorem u8n {n:Nat} (h:n<=200):IntKind.u8.wrap (n:Int)=((UInt8.ofNat n).toNat:Int):=by
 have e:IntKind.u8.wrap (n:Int)=(n:Int)%256:=rfl
 have e2:(UInt8.ofNat n).toNat=n%256:=rfl
 rw [e,e2];omega
theorem rowz (k:Nat):rowZ [.int .u8 0] k=bvs (List.replicate k 0):=by
 induction k with
 |zero=>rfl
 |succ k ih=>rw [List.replicate_succ,bvs,List.map_cons, ←bvs, ←ih];rfl
theorem len32 {l:List UInt8} (h0:l.length=32): ∃b0 b1 b2 b3 b4 b5 b6 b7 b8 b9 b10 b11 b12 b13 b14 b15 b16 b17 b18 b19 b20 b21 b22 b23 b24 b25 b26 b27 b28 b29 b30 b31:UInt8,l=[b0,b1,b2,b3,b4,b5,b6,b7,b8,b9,b10,b11,b12,b13,b14,b15,b16,b17,b18,b19,b20,b21,b22,b23,b24,b25,b26,b27,b28,b29,b30,b31]:=by
 obtain ⟨b0,l,rfl⟩:=List.exists_cons_of_length_eq_add_one (n:=31) (by exact h0)
 have h1:l.length=31:=by simpa using h0
 obtain ⟨b1,l,rfl⟩:=List.exists_cons_of_length_eq_add_one (n:=30) (by exact h1)
 have h2:l.length=30:=by simpa using h1
 obtain ⟨b2,l,rfl⟩:=List.exists_cons_of_length_eq_add_one (n:=29) (by exact h2)
 have h3:l.length=29:=by simpa using h2
 obtain ⟨b3,l,rfl⟩:=List.exists_cons_of_length_eq_add_one (n:=28) (by exact h3)
 have h4:l.length=28:=by simpa using h3
 obtain ⟨b4,l,rfl⟩:=List.exists_cons_of_length_eq_add_one (n:=27) (by exact h4)
 have h5:l.length=27:=by simpa using h4
 obtain ⟨b5,l,rfl⟩:=List.exists_cons_of_length_eq_add_one (n:=26) (by exact h5)
 have h6:l.length=26:=by simpa using h5
 obtain ⟨b6,l,rfl⟩:=List.exists_cons_of_length_eq_add_one (n:=25) (by exact h6)
 have h7:l.length=25:=by simpa using h6
 obtain ⟨b7,l,rfl⟩:=List.exists_cons_of_length_eq_add_one (n:=24) (by exact h7)
 have h8:l.length=24:=by simpa using h7
 obtain ⟨b8,l,rfl⟩:=List.exists_cons_of_length_eq_add_one (n:=23) (by exact h8)
 have h9:l.length=23:=by simpa using h8
 obtain ⟨b9,l,rfl⟩:=List.exists_cons_of_length_eq_add_one (n:=22) (by exact h9)
 have h10:l.length=22:=by simpa using h9
 obtain ⟨b10,l,rfl⟩:=List.exists_cons_of_length_eq_add_one (n:=21) (by exact h10)
 have h11:l.length=21:=by simpa using h10
 obtain ⟨b11,l,rfl⟩:=List.exists_cons_of_length_eq_add_one (n:=20) (by exact h11)
 have h12:l.length=20:=by simpa using h11
 obtain ⟨b12,l,rfl⟩:=List.exists_cons_of_length_eq_add_one (n:=19) (by exact h12)
 have h13:l.length=19:=by simpa using h12
 obtain ⟨b13,l,rfl⟩:=List.exists_cons_of_length_eq_add_one (n:=18) (by exact h13)
 have h14:l.length=18:=by simpa using h13
 obtain ⟨b14,l,rfl⟩:=List.exists_cons_of_length_eq_add_one (n:=17) (by exact h14)
 have h15:l.length=17:=by simpa using h14
 obtain ⟨b15,l,rfl⟩:=List.exists_cons_of_length_eq_add_one (n:=16) (by exact h15)
 have h16:l.length=16:=by simpa using h15
 obtain ⟨b16,l,rfl⟩:=List.exists_cons_of_length_eq_add_one (n:=15) (by exact h16)
 have h17:l.length=15:=by simpa using h16
 obtain ⟨b17,l,rfl⟩:=List.exists_cons_of_length_eq_add_one (n:=14) (by exact h17)
 have h18:l.length=14:=by simpa using h17
 obtain ⟨b18,l,rfl⟩:=List.exists_cons_of_length_eq_add_one (n:=13) (by exact h18)
 have h19:l.length=13:=by simpa using h18
 obtain ⟨b19,l,rfl⟩:=List.exists_cons_of_length_eq_add_one (n:=12) (by exact h19)
 have h20:l.length=12:=by simpa using h19
 obtain ⟨b20,l,rfl⟩:=List.exists_cons_of_length_eq_add_one (n:=11) (by exact h20)
 have h21:l.length=11:=by simpa using h20
 obtain ⟨b21,l,rfl⟩:=List.exists_cons_of_length_eq_add_one (n:=10) (by exact h21)
 have h22:l.length=10:=by simpa using h21
 obtain ⟨b22,l,rfl⟩:=List.exists_cons_of_length_eq_add_one (n:=9) (by exact h22)
 have h23:l.length=9:=by simpa using h22
 obtain ⟨b23,l,rfl⟩:=List.exists_cons_of_length_eq_add_one (n:=8) (by exact h23)
 have h24:l.length=8:=by simpa using h23
 obtain ⟨b24,l,rfl⟩:=List.exists_cons_of_length_eq_add_one (n:=7) (by exact h24)
 have h25:l.length=7:=by simpa using h24
 obtain ⟨b25,l,rfl⟩:=List.exists_cons_of_length_eq_add_one (n:=6) (by exact h25)
 have h26:l.length=6:=by simpa using h25
 obtain ⟨b26,l,rfl⟩:=List.exists_cons_of_length_eq_add_one (n:=5) (by exact h26)
 have h27:l.length=5:=by simpa using h26
 obtain ⟨b27,l,rfl⟩:=List.exists_cons_of_length_eq_add_one (n:=4) (by exact h27)
 have h28:l.length=4:=by simpa using h27
 obtain ⟨b28,l,rfl⟩:=List.exists_cons_of_length_eq_add_one (n:=3) (by exact h28)
 have h29:l.length=3:=by simpa using h28
 obtain ⟨b29,l,rfl⟩:=List.exists_cons_of_length_eq_add_one (n:=2) (by exact h29)
 have h30:l.length=2:=by simpa using h29
 obtain ⟨b30,l,rfl⟩:=List.exists_cons_of_length_eq_add_one (n:=1) (by exact h30)
 have h31:l.length=1:=by simpa using h30
 obtain ⟨b31,l,rfl⟩:=List.exists_cons_of_length_eq_add_one (n:=0) (by exact h31)
 have h32:l.length=0:=by simpa using h31
 obtain rfl:=List.eq_nil_of_length_eq_zero h32
 exact ⟨b0,b1,b2,b3,b4,b5,b6,b7,b8,b9,b10,b11,b12,b13,b14,b15,b16,b17,b18,b19,b20,b21,b22,b23,b24,b25,b26,b27,b28,b29,b30,b31,rfl⟩
theorem c_encGroup (τ n:Nat) (i0 i1 i2 i3 i4 i5 i6 i7 b0 b1 b2 b3 b4 b5 b6 b7 b8 b9 f g i j k l o p q r t u w y z A B C D E F G:UInt8) (s:TH) (hn:n<=7):TRet Tryz.prog 195 #[.agg (gv (n:Int) [i0,i1,i2,i3,i4,i5,i6,i7] [b0,b1,b2,b3,b4,b5,b6,b7,b8,b9,f,g,i,j,k,l,o,p,q,r,t,u,w,y,z,A,B,C,D,E,F,G]).toArray] s fun v s'=>∃a' c',v=.tuple #[.slice a' 128 c',.int .i64 0]/\Ch [] s s'/\Own s' a' 128 c' 5 1 (bvs (hdL n [i0,i1,i2,i3,i4,i5,i6,i7] [b0,b1,b2,b3,b4,b5,b6,b7,b8,b9,f,g,i,j,k,l,o,p,q,r,t,u,w,y,z,A,B,C,D,E,F,G])) τ:=by
 obtain ⟨M,hM,hM0,hMa,hMb,hMc,hMd,hMe,hMf⟩:=fresh6 s τ 0 0 0 0 0
 refine F195_calls _ _ _ _ _ _ _ _ _ _ _ _ _ _ _ _ _ _ _ _ _ _ _ _ _ _ _ _ _ _ _ _ _ _ _ _ _ _ _ _ _  ?_
 unfold F195
 refine al_t (M+1) fun r1 s2 ao P ad ap=>?_
 have hg1:Blk s2 r1 (gv (n:Int) [i0,i1,i2,i3,i4,i5,i6,i7] [b0,b1,b2,b3,b4,b5,b6,b7,b8,b9,f,g,i,j,k,l,o,p,q,r,t,u,w,y,z,A,B,C,D,E,F,G]) 252 (M+1):=P
 clear P
 refine jn_u ?_
 refine ld_t hg1 rfl (dInt_i ?_)
 refine sB_d (fun S=>by exfalso;omega) (fun S=>?_)
 refine ld_t hg1 rfl (dInt_i ?_)
 intro _
 intros
 refine dBl_i ?_
 refine sB_d (fun U=>by exfalso;omega) (fun U=>?_)
 refine al_t (M+2) fun aq ar ae Q R au=>?_
 refine conv_lit u49 u5 (show Blk _ _ (bvs [104,100]) _ _ from Q) rfl fun av H V hsz=>?_
 have I:=on_ch Q V
 have aw:=I.size
 refine dSl_i ?_
 have J:=hg1.ch (R.app I) (by simp)
 refine ld_t J rfl (dInt_i ?_)
 refine wr_a fun ax hn24=>?_
 refine al_t (M+3) fun ay az af W a ag=>?_
 have X:=H.mv a (tagn (by simp))
 refine app_g (x:=[UInt8.ofNat n,0]) (M+4) u49 in5 X rfl (by have h:=(W).sl;rw [hn24,u8n (by omega)] at h;exact h) rfl (by omega) (by omega) fun ah a2 c2 Y c hne=>?_
 have ai:=c.size
 refine dSl_i (ask_t (by omega) (ask_t (by omega) ?_))
 rw [slO_zero]
 have K:=J.ch (a.app c) (by simp)
 refine app_bv u49 in5 Y (gv_slI K rfl rfl) rfl (by omega) fun aj a3 c3 Z d=>?_
 have ak:=d.size
 refine dSl_i ?_
 rw [slO_zero]
 have aa:=K.ch d (by simp)
 refine app_bv u49 in5 Z (gv_slB aa rfl rfl) rfl (by omega) fun al a4 c4 e L=>?_
 have am:=L.size
 refine dSl_i ?_
 refine appz_i (m:=84) u49 u3 in5 e (by obtain ⟨b,rfl⟩:=Own.ne_none e (by omega);simp) (by omega) (by omega) fun ab a5 c5 ac O=>?_
 have N:=O.ch e (T:=[M+4]) (by simp)
 have an:=N.size
 refine dSl_i ?_
 have ho:=ac
 refine ret_t' (s':=remarkF ab fun m=>if m=M+4 then τ else m) rfl ⟨_,_,rfl,remarkF_ch (((((((((Ch.refl [] s).ch ad (by simp)).ch R (by simp)).fr I hM (by simp)).ch a (by simp)).ch c (by simp)).fr d hM (by simp)).fr L hM (by simp)).fr N hM (by simp)) hM (fun m hm=>if_neg (by omega)),?_⟩
 have h2:=ho.rf (φ:=fun m=>if m=M+4 then τ else m)
 rw [if_pos rfl] at h2
 exact h2
theorem c_group (τo τa τb:Nat) (G B N n:Nat) (s:TH) (hv:GeoOk G B N) (hn:n<G):TRet Tryz.prog 100 #[.agg #[.int .i64 (G:Int),.int .i64 (B:Int),.int .i64 (N:Int)],.int .i64 (n:Int)] s fun v s'=>∃a' c' hs,v=.slice a' B c'/\Ch [] s s'/\Own s' a' B c' 49 1 (hs.flatMap hd1) τo/\B2 s' τa τb hs (grpL G B N n):=by
 have hv2:=hv
 unfold GeoOk at hv2
 obtain ⟨M,hM,hM0,hMa,hMb,hMc,hMd,hMe,hMf⟩:=fresh6 s τo τa τb 0 0 0
 refine F100_calls _ _ _ _  ?_
 unfold F100
 refine al_t (M+1) fun r1 s2 ep av cK eq=>?_
 refine ld_t av rfl (ld_t av rfl (ld_t av rfl ?_))
 refine tcall (c_encSuper (M+6) G B N 0 (by omega) hv (by decide)) ?_
 rintro er es ⟨aL,aM,rfl,aN,aO⟩
 have et:=aN.size
 refine dT2 (dSl_i (dInt_i ?_))
 refine al_t (M+2) fun J cL dP cM L dQ=>?_
 have hg0:Blk cL J (gv 0 [0,0,0,0,0,0,0,0] (setsB zB32 0)) 252 (M+2):=cM
 refine st_t hg0 rfl (by decide) fun cN cF bE dR=>?_
 have O:=on_ch hg0 bE
 have hg1:Blk cN J (gv (n:Int) [0,0,0,0,0,0,0,0] (setsB zB32 0)) 252 (M+2):=cF
 refine st_same hg1 rfl rfl fun eu aP bF dS=>?_
 have P:=on_ch hg1 bF
 refine st_same aP rfl rfl fun ev aQ bG dT=>?_
 have Q:=on_ch aP bG
 refine st_same aQ rfl rfl fun ew aR bH dU=>?_
 have R:=on_ch aQ bH
 refine st_same aR rfl rfl fun ex aS bI dV=>?_
 have S:=on_ch aR bI
 refine st_same aS rfl rfl fun ey aT bJ dW=>?_
 have U:=on_ch aS bJ
 refine st_same aT rfl rfl fun ez aU bK dX=>?_
 have V:=on_ch aT bK
 refine st_same aU rfl rfl fun eA aV bL dY=>?_
 have W:=on_ch aU bL
 refine st_same aV rfl rfl fun eB aW bM dZ=>?_
 have X:=on_ch aV bM
 refine st_same aW rfl rfl fun eC aX bN d0=>?_
 have Y:=on_ch aW bN
 refine st_same aX rfl rfl fun eD aY bO d1=>?_
 have Z:=on_ch aX bO
 refine st_same aY rfl rfl fun eE aZ bP d2=>?_
 have aa:=on_ch aY bP
 refine st_same aZ rfl rfl fun eF a0 bQ d3=>?_
 have ab:=on_ch aZ bQ
 refine st_same a0 rfl rfl fun eG a1 bR d4=>?_
 have ac:=on_ch a0 bR
 refine st_same a1 rfl rfl fun eH a2 bS d5=>?_
 have ad:=on_ch a1 bS
 refine st_same a2 rfl rfl fun eI a3 bT d6=>?_
 have ae:=on_ch a2 bT
 refine st_same a3 rfl rfl fun eJ a4 bU d7=>?_
 have af:=on_ch a3 bU
 refine st_same a4 rfl rfl fun eK a5 bV d8=>?_
 have ag:=on_ch a4 bV
 refine st_same a5 rfl rfl fun eL a6 bW d9=>?_
 have ah:=on_ch a5 bW
 refine st_same a6 rfl rfl fun eM a7 bX ea=>?_
 have ai:=on_ch a6 bX
 refine st_same a7 rfl rfl fun eN a8 bY eb=>?_
 have aj:=on_ch a7 bY
 refine st_same a8 rfl rfl fun eO a9 bZ ec=>?_
 have ak:=on_ch a8 bZ
 refine st_same a9 rfl rfl fun eP ba ca ed=>?_
 have al:=on_ch a9 ca
 refine st_same ba rfl rfl fun eQ bb cb ee=>?_
 have am:=on_ch ba cb
 refine st_same bb rfl rfl fun eR bc cc ef=>?_
 have an:=on_ch bb cc
 refine st_same bc rfl rfl fun eS bd cd eg=>?_
 have ao:=on_ch bc cd
 refine st_same bd rfl rfl fun eT be ce eh=>?_
 have ap:=on_ch bd ce
 refine st_same be rfl rfl fun eU bf cf ei=>?_
 have aq:=on_ch be cf
 refine st_same bf rfl rfl fun eV bg cg ej=>?_
 have ar:=on_ch bf cg
 refine st_same bg rfl rfl fun eW bh bi de=>?_
 have j:=on_ch bg bi
 refine st_same bh rfl rfl fun eX aw bj df=>?_
 have l:=on_ch bh bj
 refine st_same aw rfl rfl fun eY ax bk dg=>?_
 have o:=on_ch aw bk
 refine st_same ax rfl rfl fun eZ ay bl dh=>?_
 have p:=on_ch ax bl
 refine st_same ay rfl rfl fun e0 az bm di=>?_
 have q:=on_ch ay bm
 refine st_same az rfl rfl fun e1 aA bn dj=>?_
 have t:=on_ch az bn
 refine st_same aA rfl rfl fun e2 aB bo dk=>?_
 have w:=on_ch aA bo
 refine st_same aB rfl rfl fun e3 aC bp dl=>?_
 have x:=on_ch aB bp
 refine st_same aC rfl rfl fun e4 aD bq dm=>?_
 have y:=on_ch aC bq
 refine st_same aD rfl rfl fun e5 aE br dn=>?_
 have z:=on_ch aD br
 refine st_same aE rfl rfl fun e6 aF bs dp=>?_
 have A:=on_ch aE bs
 refine st_same aF rfl rfl fun bt ci bu dq=>?_
 have C:=on_ch aF bu
 have cj:=((((((((((((((((((((((((((((((((((((((((((aN.app L).app O).app P).app Q).app R).app S).app U).app V).app W).app X).app Y).app Z).app aa).app ab).app ac).app ad).app ae).app af).app ag).app ah).app ai).app aj).app ak).app al).app am).app an).app ao).app ap).app aq).app ar).app j).app l).app o).app p).app q).app t).app w).app x).app y).app z).app A).app C)
 have D:=av.ch cj (by simp)
 refine ld_t D rfl (dInt_i (ask_t (by omega) ?_))
 have hq4:Int.tdiv (N:Int) 4=((N/4:Nat):Int):=by rw [Int.tdiv_eq_ediv_of_nonneg (by omega)];omega
 rw [hq4]
 refine wr_t (by omega) (wr_t (by omega) ?_)
 refine ⟨fun vs H'=>∃s':TH,s'.h=H'/\∃i,vs=[.int .i64 i]/\Ch [M+2,M+10] bt s'/\(∃k:Nat,i=k/\k<=2+N/4/\Blk s' J (gv (n:Int) [0,0,0,0,0,0,0,0] (setsB zB32 k)) 252 (M+2)),fun vs H'=>match vs with|[.int .i64 i]=>(((2+N/4:Nat):Int) - i).toNat|_=>0,⟨bt,rfl,_,rfl,Ch.refl _ _,?_⟩,?_⟩
 ·exact ⟨0,rfl,by omega,ci⟩
 intro i
 iterate 17 intro _
 intro H_ hI_138
 obtain ⟨E,rfl,i_,hvs,a,k,rfl,hk,hb⟩:=hI_138
 cases hvs
 have dr:=a.size
 refine sB_d (fun cG=>?_) (fun cG=>?_)
 ·refine ask_t (by omega) ?_
  rw [slO_zero]
  refine tcall (c_rwith (M+10) 32 (gv_slB hb rfl (sets32 _)) (sets32 _) (fun h=>by cases h) (by decide) k (by omega) (by omega)) ?_
  rintro ds dt ⟨cO,cP,rfl,F,bv⟩
  have du:=F.size
  refine dT2 (dSl_i (dInt_i (ask_t (by omega) ?_)))
  have aG:=hb.ch F (by simp)
  refine copy_blk (n:=32) u49 in5 aG (bv).sl (by rw [setB_len,sets32]) (by decide) (by rw [gv_len rfl (sets32 _)];decide) fun ck r14_150 bw _=>?_
  have aH:=on_ch aG bw
  have dv:=aH.size
  refine dInt_i (wr_t (by omega) ?_)
  have cl:=((a.app F).app aH)
  refine ⟨⟨ck,rfl,_,rfl,((Ch.refl [M+2,M+10] bt).ch cl (by simp)),?_⟩,?_⟩
  ·exact ⟨k+1,by omega,by omega,by have h:=r14_150;rw [gv_bits rfl (sets32 _)] at h;exact h⟩
  simp only [];omega
 refine jn0 (fun s'=>Ch [M+2,M+10] E s'/\(Blk s' J (gv (n:Int) (iL n) (setsB zB32 (nB n N))) 252 (M+2))) ?_ ?_
 ·rintro  dw ⟨b,hb⟩
  have dx:=b.size
  obtain ⟨b0,b1,b2,b3,b4,b5,b6,b7,b8,b9,cQ,cR,cS,cT,cU,cV,cW,cX,cY,cZ,c0,c1,c2,c3,c4,c5,c6,c7,c8,c9,da,db,hbb⟩:=len32 (sets32 (nB n N))
  have hg7:=hb
  rw [hbb] at hg7
  intro _
  intros
  refine ld_t hg7 rfl (ld_t hg7 rfl (ld_t hg7 rfl (ld_t hg7 rfl (ld_t hg7 rfl (ld_t hg7 rfl (ld_t hg7 rfl (ld_t hg7 rfl ?_)))))))
  refine ld_t hg7 rfl (ld_t hg7 rfl (ld_t hg7 rfl (ld_t hg7 rfl (ld_t hg7 rfl (ld_t hg7 rfl (ld_t hg7 rfl (ld_t hg7 rfl ?_)))))))
  refine ld_t hg7 rfl (ld_t hg7 rfl (ld_t hg7 rfl (ld_t hg7 rfl (ld_t hg7 rfl (ld_t hg7 rfl (ld_t hg7 rfl (ld_t hg7 rfl ?_)))))))
  refine ld_t hg7 rfl (ld_t hg7 rfl (ld_t hg7 rfl (ld_t hg7 rfl (ld_t hg7 rfl (ld_t hg7 rfl (ld_t hg7 rfl (ld_t hg7 rfl ?_)))))))
  refine ld_t hg7 rfl (ld_t hg7 rfl (ld_t hg7 rfl (ld_t hg7 rfl (ld_t hg7 rfl (ld_t hg7 rfl (ld_t hg7 rfl (ld_t hg7 rfl ?_)))))))
  refine ld_t hg7 rfl ?_
  refine tcall (c_encGroup (M+6) n (if n=0 then 7 else 0) 0 0 0 0 0 0 0 b0 b1 b2 b3 b4 b5 b6 b7 b8 b9 cQ cR cS cT cU cV cW cX cY cZ c0 c1 c2 c3 c4 c5 c6 c7 c8 c9 da db _ (by omega)) ?_
  rintro dy dz ⟨bx,bz,rfl,c,K⟩
  have dA:=c.size
  rw [show [if n=0 then 7 else 0,0,0,0,0,0,0,0]=iL n from rfl, ←hbb] at K
  refine dT2 (dSl_i (dInt_i ?_))
  refine al_t (M+5) fun ek au dB cm d dC=>?_
  refine ⟨fun vs H'=>∃s':TH,s'.h=H'/\∃pa pn pc,vs=[.slice pa pn pc]/\Ch [M+5] au s'/\(∃hs:List Hd,hs.length=pn/\2<=pn/\pn<=B/\Own s' pa pn pc 49 1 (hs.flatMap hd1) (M+5)/\B2 s' (M+8) (M+6) hs ([superL G B N 0,hdL n (iL n) (setsB zB32 (nB n N))]++List.replicate (pn - 2) zB128)),fun vs H'=>match vs with|[.slice pa pn pc]=>B - pn|_=>0,⟨au,rfl,_,_,_,rfl,Ch.refl _ _,?_⟩,?_⟩
  ·have cn:=(((((((((((((((((((((((((((((((((((((((((((((L.app O).app P).app Q).app R).app S).app U).app V).app W).app X).app Y).app Z).app aa).app ab).app ac).app ad).app ae).app af).app ag).app ah).app ai).app aj).app ak).app al).app am).app an).app ao).app ap).app aq).app ar).app j).app l).app o).app p).app q).app t).app w).app x).app y).app z).app A).app C).app a).app b).app c).app d)
   have co:=aO.mv cn (tagn (by simp))
   have cp:=K.mv d (tagn (by simp))
   exact ⟨[(aL,aM),(bx,bz)],rfl,by omega,by omega,(cm).own 1 rfl (by unfold maxLen;omega),B2.two2 co cp (superL_len _ _ _ _) (hdL_len _ rfl (sets32 _))⟩
  intro pa pn pc
  iterate 9 intro _
  intro H_ hI_167
  obtain ⟨cq,rfl,pa_,pn_,pc_,hvs,e,hs,hl,hk1,hk2,ho,hb2⟩:=hI_167
  cases hvs
  have dD:=e.size
  obtain ⟨μ,hμ,hμ2⟩: ∃μ,μ=(if pn=2 then M+8 else M+6)/\M+6<=μ:=⟨_,rfl,by split<;>omega⟩
  have cr:=((((a.app b).app c).app d).app e)
  have cs:=D.ch cr (by simp)
  refine ld_t cs rfl (dInt_i ?_)
  refine sB_d (fun cH=>?_) (fun cH=>?_)
  ·refine ask_t (by omega) ?_
   refine al_t μ fun cI el dE ct H dF=>?_
   refine al_t (M+9) fun em en dG cu f dH=>?_
   have aI:=ho.mv (H.app f) (tagn (by simp))
   refine app_i u22 in49 rfl aI (cu).sl (m:=1) (k:=1) rfl (by intro u hu;simp at hu;subst hu;rfl) (by simp) (by unfold maxLen;omega) fun cv pa2 pc2 cw bA _=>?_
   have g:=bA.ch aI (T:=[M+5]) (by simp)
   have dI:=g.size
   refine dSl_i ?_
   have cx:=(((e.app H).app f).app g)
   refine ⟨⟨cv,rfl,_,_,_,rfl,((Ch.refl [M+5] au).ch cx (by simp)),?_⟩,?_⟩
   ·have cy:=ct.ch (f.app g) (by simp<;>omega)
    have cz:=((H.app f).app g)
    have cA:=hb2.ch cz (by simp<;>omega) (by simp<;>omega)
    have ho2:=(cy).own (n:=128) 1 (by rw [show Int.toNat 128=128 from rfl,rowz,bvs_len];rfl) (by unfold maxLen;omega)
    rw [show Int.toNat 128=128 from rfl,rowz,hμ, ←hl] at ho2
    exact ⟨hs++[(some ⟨cI,0,none⟩,128)],by simp [hl],by omega,by omega,by have h:=cw;simpa [hd1] using h,by rw [show pn+1 - 2=(pn - 2)+1 by omega,List.replicate_succ', ←List.append_assoc];exact (cA).snoc zB128_len ho2⟩
   simp only [];omega
  obtain rfl:pn=B:=by omega
  obtain ⟨φ,hφ⟩: ∃φ:Nat->Nat,φ=fun m=>if m=M+5 then τo else if m=M+6 then τb else if m=M+8 then τa else m:=⟨_,rfl⟩
  have f5:φ (M+5)=τo:=by subst hφ;exact if_pos rfl
  have f6:φ (M+6)=τb:=by subst hφ;simp
  have f8:φ (M+8)=τa:=by subst hφ;simp
  have h1:=(ho).rf (φ:=φ)
  have h2:=(hb2).rf (φ:=φ)
  rw [f5] at h1
  rw [f6,f8] at h2
  exact ret_t' (s':=remarkF cq φ) rfl ⟨_,_,_,rfl,remarkF_ch ((((((((((((((((((((((((((((((((((((((((((((((((((Ch.refl [] s).ch cK (by simp)).fr aN hM (by simp)).ch L (by simp)).fr O hM (by simp)).fr P hM (by simp)).fr Q hM (by simp)).fr R hM (by simp)).fr S hM (by simp)).fr U hM (by simp)).fr V hM (by simp)).fr W hM (by simp)).fr X hM (by simp)).fr Y hM (by simp)).fr Z hM (by simp)).fr aa hM (by simp)).fr ab hM (by simp)).fr ac hM (by simp)).fr ad hM (by simp)).fr ae hM (by simp)).fr af hM (by simp)).fr ag hM (by simp)).fr ah hM (by simp)).fr ai hM (by simp)).fr aj hM (by simp)).fr ak hM (by simp)).fr al hM (by simp)).fr am hM (by simp)).fr an hM (by simp)).fr ao hM (by simp)).fr ap hM (by simp)).fr aq hM (by simp)).fr ar hM (by simp)).fr j hM (by simp)).fr l hM (by simp)).fr o hM (by simp)).fr p hM (by simp)).fr q hM (by simp)).fr t hM (by simp)).fr w hM (by simp)).fr x hM (by simp)).fr y hM (by simp)).fr z hM (by simp)).fr A hM (by simp)).fr C hM (by simp)).fr a hM (by simp)).fr b hM (by simp)).ch c (by simp)).ch d (by simp)).fr e hM (by simp)) hM (fun m hm=>by subst hφ;simp only;rw [if_neg (by omega),if_neg (by omega),if_neg (by omega)]),h1,h2⟩
 intro K_187 hK_187
 refine sB_d (fun cJ=>?_) (fun cJ=>?_)
 ·refine ask_t (by omega) ?_
  have cB:=D.ch a (by simp)
  refine ld_t cB rfl (dInt_i (ask_t (by omega) (wr_t (by omega) (wr_t (by omega) ?_))))
  rw [slO_zero]
  obtain rfl:n=0:=by omega
  rw [hq4,show (2+((N/4:Nat):Int))=((2+N/4:Nat):Int) by omega]
  obtain rfl:k=2+N/4:=by omega
  refine tcall (c_rwith (M+10) 32 (gv_slB hb rfl (sets32 _)) (sets32 _) (fun h=>by cases h) (by decide) (2+N/4) (by omega) (by omega)) ?_
  rintro dJ dK ⟨dc,dd,rfl,I,bB⟩
  have dL:=I.size
  refine dT2 (dSl_i (dInt_i (ask_t (by omega) ?_)))
  have aJ:=hb.ch I (by simp)
  refine copy_blk (n:=32) u49 in5 aJ (bB).sl (by rw [setB_len,sets32]) (by decide) (by rw [gv_len rfl (sets32 _)];decide) fun dM r14_198 bC _=>?_
  have aK:=on_ch aJ bC
  have dN:=aK.size
  have hg5:=r14_198
  rw [gv_bits rfl (sets32 _)] at hg5
  refine dInt_i (ask_t (by omega) ?_)
  refine st_t (r:=J) (i:=1) hg5 rfl (by rw [gv_len rfl (by rw [setB_len,sets32])];decide) fun eo cC bD dO=>?_
  have cD:=on_ch hg5 bD
  have cE:=((I.app aK).app cD)
  refine hK_187 _ ⟨((Ch.refl [M+2,M+10] E).ch cE (by simp)),?_⟩
  exact cC
 refine hK_187 _ ⟨(Ch.refl [M+2,M+10] E),?_⟩
 have hn0:n≠0:=by omega
 obtain rfl:k=2+N/4:=by omega
 have h:=hb
 rw [show iL n=[0,0,0,0,0,0,0,0] from by unfold iL;rw [if_neg hn0],show nB n N=2+N/4 from by unfold nB;rw [if_neg hn0];rfl]
 exact h
def mkL (G B N:Nat):Nat->List (List UInt8)
 |0=>[]
 |k+1=>mkL G B N k++grpL G B N k
theorem mkL_len {G B N:Nat} (h:2<=B): ∀k,(mkL G B N k).length=k*B
 |0=>by simp [mkL]
 |k+1=>by rw [mkL,List.length_append,mkL_len h k,grpL_len h,Nat.succ_mul]
theorem mkL_two {G B N:Nat} (h:3<=B): ∀ {k:Nat},1<=k->(mkL G B N k)[2]? =some zB128
 |1,_=>by
  rw [mkL,mkL,List.nil_append,grpL,List.getElem?_append_right (by simp)]
  show (List.replicate (B - 2) zB128)[0]? =_
  rw [List.getElem?_replicate,if_pos (by omega)]
 |k+2,_=>by
  rw [mkL,List.getElem?_append_left,mkL_two h (by omega)]
  rw [mkL_len (by omega)]
  have:1*3<=(k+1)*B:=Nat.mul_le_mul (by omega) h
  omega
def dots :List (Nat×ByteArray):=[(2,⟨#[46]⟩),(2,⟨#[46,46]⟩)]
def rootL (N:Nat):List UInt8:=overlay zB128 64 (dinL 2 2 128 (2+N/4) 0 0 0 0 0)
def makeL (G B N:Nat):List (List UInt8):=((mkL G B N G).set 2 (rootL N)).set (2+N/4) (dirsL dots)
theorem makeL_len {G B N:Nat} (h:2<=B):(makeL G B N).length=G*B:=by simp [makeL,mkL_len h]
theorem dots_nc (i j:Nat) (e f:Nat×ByteArray) (h:j<i) (h1:dots[i]? =some e) (h2:dots[j]? =some f): ¬(e.1≠0/\f.1≠0/\e.2.toList=f.2.toList):=by
 rcases i with _|_|i
 ·omega
 ·obtain rfl:j=0:=by omega
  cases h1;cases h2
  exact fun h=>by have h:=congrArg List.length h.2.2;simp at h
 cases h1
theorem dots_ok : ∀e∈dots,Dot e.2/\1<=e.1/\e.1<=511:=by
 intro e he
 simp only [dots,List.mem_cons,List.not_mem_nil,or_false] at he
 rcases he with rfl|rfl
 ·exact ⟨.inl rfl,by decide,by decide⟩
 exact ⟨.inr rfl,by decide,by decide⟩
theorem dots_len :(dirsL dots).length=128:=by unfold dirsL;rw [List.length_append,entsL_len];rfl
theorem hd1_one (hs:List Hd): ∀u∈hs.flatMap hd1,u.oneCell'=true:=by
 intro u hu
 obtain ⟨p,_,hp⟩:=List.mem_flatMap.1 hu
 simp [hd1] at hp;subst hp;rfl
theorem B2.cp {s s':TH} {τa τb:Nat} {hs:List Hd} {bs:List (List UInt8)} (h:B2 s τa τb hs bs) (c:Ch [τa] s s') (hne:τa≠τb) {p:Hd} {b:List UInt8} (hp:hs[2]? =some p) (hl:b.length=128) (ho:Own s' p.1 128 p.2 5 1 (bvs b) τa):B2 s' τa τb hs (bs.set 2 b):=by
 refine ⟨by simp [h.len],fun i q x h0 h1 h2=>?_,fun q x h1 h2=>?_⟩
 ·rw [List.getElem?_set_ne (by omega)] at h2;exact (h.at_ i q x h0 h1 h2).mv c (tagn (by simp;exact fun e=>hne e.symm))
 rw [hp] at h1;cases h1
 have h3:2<bs.length:=by rw [←h.len];exact (List.getElem?_eq_some_iff.1 hp).1
 rw [List.getElem?_set_self h3] at h2;cases h2
 exact ⟨hl,ho⟩
theorem c_make (τo τb:Nat) (G B N:Nat) (s:TH) (hv:GeoOk G B N):TRet Tryz.prog 40 #[.agg #[.int .i64 (G:Int),.int .i64 (B:Int),.int .i64 (N:Int)]] s fun v s'=>∃a' c' hs,v=.tuple #[.slice a' (G*B) c',.int .i64 0]/\Ch [] s s'/\Own s' a' (G*B) c' 49 1 (hs.flatMap hd1) τo/\BRel s' τb hs (makeL G B N):=by
 have hv2:=hv
 unfold GeoOk at hv2
 have hcan:canG (G:Int) (B:Int) (N:Int):=by unfold canG;omega
 have hGB:1*8<=G*B:=Nat.mul_le_mul (by omega) (by omega)
 have hBG:1*B<=G*B:=Nat.mul_le_mul (by omega) (Nat.le_refl _)
 obtain ⟨M,hM,hM0,hMa,hMb,hMc,hMd,hMe,hMf⟩:=fresh6 s τo τb 0 0 0 0
 refine F40_calls _ _ _  ?_
 unfold F40
 refine al_t (M+1) fun r1 s2 aD w ad aE=>?_
 refine ld_t w rfl (ld_t w rfl (ld_t w rfl ?_))
 refine tcall (gc_rcan (G:Int) (B:Int) (N:Int) _) ?_
 rintro aF y ⟨rfl,z⟩
 have aG:=z.size
 rw [if_pos hcan]
 refine dInt_i (sB_f (by rfl) ?_)
 have A:=w.ch z (by simp)
 refine ld_t A rfl (dInt_i ?_)
 refine ⟨fun vs H'=>∃s':TH,s'.h=H'/\∃pa pn pc i,vs=[.slice pa pn pc,.int .i64 i]/\Ch [M+5] y s'/\(∃(k:Nat) (hs:List Hd),i=k/\k<=G/\pn=k*B/\Own s' pa pn pc 49 1 (hs.flatMap hd1) (M+5)/\B2 s' (M+8) (M+6) hs (mkL G B N k)),fun vs H'=>match vs with|[.slice pa pn pc,.int .i64 i]=>((G:Int) - i).toNat|_=>0,⟨y,rfl,_,_,_,_,rfl,Ch.refl _ _,?_⟩,?_⟩
 ·exact ⟨0,[],rfl,by omega,by simp,Own.nil _ _ _ _,⟨rfl,fun i p b _ h _=>by simp at h,fun p b h _=>by simp at h⟩⟩
 intro pa pn pc i
 iterate 9 intro _
 intro H_ hI_11
 obtain ⟨aj,rfl,pa_,pn_,pc_,i_,hvs,a,k,hs,rfl,hk,hpn,ho,hb2⟩:=hI_11
 cases hvs
 have ak:=a.size
 obtain ⟨μ,hμ,hμ2⟩: ∃μ,μ=(if k=0 then M+8 else M+6)/\M+6<=μ:=⟨_,rfl,by split<;>omega⟩
 have hkB:k*B<=8*256:=Nat.mul_le_mul (by omega) (by omega)
 have hhl:=hb2.len
 rw [mkL_len (by omega)] at hhl
 refine sB_d (fun O=>?_) (fun O=>?_)
 ·have o:=A.ch a (by simp)
  refine ld_t o rfl (ld_t o rfl (ld_t o rfl ?_))
  refine tcall (c_group (M+10) μ (M+6) G B N k _ hv (by omega)) ?_
  rintro al am ⟨ae,af,d,rfl,e,c,C⟩
  have an:=e.size
  refine dSl_i ?_
  have D:=ho.mv e (tagn (by simp))
  refine app_i u22 in49 rfl D (c).sl (m:=B) (k:=1) ((c).1) (hd1_one _) (c).none_iff (by unfold maxLen;omega) fun q pa2 pc2 P K _=>?_
  have f:=K.ch D (T:=[M+5]) (by simp)
  have ao:=f.size
  refine dSl_i (wr_t (by omega) ?_)
  have Q:=((a.app e).app f)
  refine ⟨⟨q,rfl,_,_,_,_,rfl,((Ch.refl [M+5] y).ch Q (by simp)),?_⟩,?_⟩
  ·have R:=C.ch f (by simp<;>omega) (by simp<;>omega)
   have S:=hb2.ch (e.app f) (by simp<;>omega) (by simp<;>omega)
   have hb3:B2 q μ (M+6) d (grpL G B N k):=R
   have hb4:B2 q (M+8) (M+6) hs (mkL G B N k):=S
   refine ⟨k+1,hs++d,by omega,by omega,by rw [hpn,Nat.succ_mul],by have h:=P;simpa [List.flatMap_append] using h,?_⟩
   by_cases hk0:k=0
   ·subst hk0
    have he:hs=[]:=List.eq_nil_of_length_eq_zero (by rw [hhl];simp)
    subst he
    rw [if_pos rfl] at hμ;subst hμ
    exact hb3
   rw [if_neg hk0] at hμ;subst hμ
   have h1B:1*8<=k*B:=Nat.mul_le_mul (by omega) (by omega)
   exact hb4.app hb3.brel (by omega)
  simp only [];omega
 have U:=A.ch a (by simp)
 refine ld_t U rfl (dInt_i (ask_t (by omega) ?_))
 refine wr_t (by simp<;>omega) ?_
 refine wr_t (by simp<;>omega) ?_
 have hq4:Int.tdiv (N:Int) 4=((N/4:Nat):Int):=by rw [Int.tdiv_eq_ediv_of_nonneg (by omega)];omega
 obtain rfl:k=G:=by omega
 rw [hq4,show (2+((N/4:Nat):Int))=((2+N/4:Nat):Int) by omega]
 refine tcall (c_encDin (M+12) 2 2 128 (2+N/4) 0 0 0 0 0 (by omega) (by unfold DinOk;omega)) ?_
 rintro ap V ⟨ag,ah,rfl,g,E⟩
 have aq:=g.size
 obtain ⟨⟨a2,c2⟩,hx2⟩: ∃x,hs[2]? =some x:=⟨hs[2]'(by omega),by simp⟩
 have W:=hb2.ch g (by simp<;>omega) (by simp<;>omega)
 have hb0:=W
 have ho2:=(hb0.two _ _ hx2 (mkL_two (by omega) (by omega))).2
 obtain ⟨ax,hax⟩:=ho2.ne_none (by omega)
 simp only at hax
 subst hax
 have ho5:Own V (some ax) 128 c2 5 1 (bvs zB128) (M+8):=ho2
 have hc2:128<=c2:=ho5.le
 refine dT2 (dSl_i (dInt_i ?_))
 have r:=ho.mv g (tagn (by simp))
 obtain ⟨ar,rfl⟩:=r.ne_none (by omega)
 refine nz_i (ask_t (by omega) ?_)
 refine ld_sl (v:=.slice (some ax) 128 c2) (r).sl (bcell hx2) ?_
 refine dSl_i (ask_t (by omega) ?_)
 refine copy_sl (p:=64) (n:=128) u49 in5 ho5 (E).sl (dinL_len _ _ _ _ _ _ _ _ _) (by decide) (by decide) fun au ho3 j _=>?_
 have av:=j.size
 have hb5:=hb0.cp j (by omega) hx2 (by rw [overlay_len (by rw [dinL_len,zB128_len];decide)];exact zB128_len) ho3
 refine dInt_i ?_
 refine al_t (M+9) fun aH aI aw X t ay=>?_
 refine tcall (c_encDirs (M+14) 2 (es:=dots) (show Sl _ _ (dots.flatMap ev) _ from (X).sl) rfl (by omega) (by omega) dots_nc (by omega) (by omega) (by omega) (by omega) dots_ok) ?_
 rintro az aA ⟨F,H,rfl,l,I⟩
 have aB:=l.size
 refine dT2 (dSl_i (dInt_i (nz_i (ask_t (by omega) ?_))))
 have Y:=((j.app t).app l)
 have J:=r.mv Y (tagn (by simp))
 refine Own.st J rfl (by rw [Nat.mul_one,Int.toNat_natCast];omega) fun ai Z L aC=>?_
 have u:=Ch.on_tag (T:=[M+5]) (Ch.refl _ _) L J.tagOf (by simp)
 have aa:=((t.app l).app u)
 have ab:=hb5.ch aa (by simp<;>omega) (by simp<;>omega)
 have ac:=I.mv u (tagn (by simp))
 obtain ⟨φ,hφ⟩: ∃φ:Nat->Nat,φ=fun m=>if m=M+5 then τo else if m=M+6 then τb else if m=M+8 then τb else if m=M+14 then τb else m:=⟨_,rfl⟩
 have f5:φ (M+5)=τo:=by subst hφ;exact if_pos rfl
 have f6:φ (M+6)=τb:=by subst hφ;simp
 have f8:φ (M+8)=τb:=by subst hφ;simp
 have f14:φ (M+14)=τb:=by subst hφ;simp
 have h1:=(Z).rf (φ:=φ)
 have h2:=(ab).rf (φ:=φ)
 have h3:=(ac).rf (φ:=φ)
 rw [Int.toNat_natCast,Nat.mul_one,fm_set1 _ _ (F,H),f5,hpn] at h1
 rw [f6,f8] at h2
 rw [f14] at h3
 rw [hpn]
 exact ret_t' (s':=remarkF ai φ) rfl ⟨_,_,_,rfl,remarkF_ch (((((((((Ch.refl [] s).ch ad (by simp)).ch z (by simp)).fr a hM (by simp)).fr g hM (by simp)).fr j hM (by simp)).ch t (by simp)).fr l hM (by simp<;>omega)).fr u hM (by simp)) hM (fun m hm=>by subst hφ;simp only;rw [if_neg (by omega),if_neg (by omega),if_neg (by omega),if_neg (by omega)]),h1,(h2.brel).set (2+N/4) ⟨h3.sl,dots_len⟩⟩
theorem c_makeN (a b c:Int) (s:TH) (hv: ¬canG a b c):TRet Tryz.prog 40 #[.agg #[.int .i64 a,.int .i64 b,.int .i64 c]] s fun v s'=>v=.tuple #[.slice none 0 0,.int .i64 170]/\Ch [] s s':=by
 obtain ⟨M,hM,hM0,hMa,hMb,hMc,hMd,hMe,hMf⟩:=fresh6 s 0 0 0 0 0 0
 refine F40_calls _ _ _  ?_
 unfold F40
 refine al_t (M+1) fun r1 s2 g d f h=>?_
 refine ld_t d rfl (ld_t d rfl (ld_t d rfl ?_))
 refine tcall (gc_rcan a b c _) ?_
 rintro i j ⟨rfl,e⟩
 have k:=e.size
 rw [if_neg hv]
 refine dInt_i (sB_t (by rfl) ?_)
 refine ret_t ?_
 exact ⟨rfl,(((Ch.refl [] s).ch f (by simp)).ch e (by simp))⟩
theorem c_pimage (τo τr:Nat) {xa:Option Addr} {n:Nat} (xc:Nat) {hs:List Hd} {bs:List (List UInt8)} {τx τb:Nat} {s:TH} (hq:Sl s xa (hs.flatMap hd1) τx) (hb:BRel s τb hs bs) (hn:hs.length=n) (hn2:1<=n/\n<=2048):TRet Tryz.prog 21 #[.slice xa n xc] s fun v s'=>∃a c hs',v=.slice a n c/\Ch [] s s'/\Own s' a n c 49 1 (hs'.flatMap hd1) τo/\BRel s' τr hs' bs:=by
 obtain ⟨M,hM,hM0,hMa,hMb,hMc,hMd,hMe,hMf⟩:=fresh6 s τx τb τo τr 0 0
 refine F21_calls _ _ _  ?_
 unfold F21
 refine ⟨fun vs H'=>∃s':TH,s'.h=H'/\∃pa pn pc i,vs=[.slice pa pn pc,.int .i64 i]/\Ch [M+5] s s'/\(∃(kk:Nat) (hs':List Hd),i=kk/\kk<=n/\pn=kk/\Own s' pa pn pc 49 1 (hs'.flatMap hd1) (M+5)/\BRel s' (M+6) hs' (bs.take kk)),fun vs H'=>match vs with|[.slice pa pn pc,.int .i64 i]=>((n:Int) - i).toNat|_=>0,⟨s,rfl,_,_,_,_,rfl,Ch.refl _ _,?_⟩,?_⟩
 ·exact ⟨0,[],rfl,by omega,rfl,Own.nil _ _ _ _,BRel.nil _ _⟩
 intro pa pn pc i
 iterate 10 intro _
 intro H_ hI_2
 obtain ⟨H,rfl,pa_,pn_,pc_,i_,hvs,g,kk,hs',rfl,hk,rfl,ho,hb2⟩:=hI_2
 cases hvs
 have P:=g.size
 refine sB_d (fun w=>?_) (fun w=>?_)
 ·have hk2:pn<n:=by omega
  obtain ⟨x,hx⟩: ∃x,hs[pn]? =some x:=⟨hs[pn]'(by omega),by simp⟩
  obtain ⟨y,hy⟩: ∃y,bs[pn]? =some y:=⟨bs[pn]'(by rw [←hb.len];omega),by simp⟩
  obtain ⟨ax,rfl⟩:=hq.some (fun e=>by have:=bcell hx;rw [e] at this;simp at this)
  refine nz_i (ask_t (by omega) ?_)
  have I:=hq.mv g (tagn (by simp<;>omega))
  refine ld_sl (v:=.slice x.1 128 x.2) I (by rw [Int.toNat_natCast,Nat.mul_one];exact bcell hx) ?_
  refine dSl_i ?_
  have j:=hb.mv g (tagn (by simp<;>omega))
  refine tcall (c_clone (M+6) _ ((j).at_ _ _ _ hx hy).sl ((j).at_ _ _ _ hx hy).len (fun h=>by obtain ⟨z,hz⟩:=((j).at_ _ _ _ hx hy).ne;rw [h] at hz;cases hz) (by omega)) ?_
  rintro Q R ⟨l,o,rfl,b,p,J⟩
  have K:=b.size
  refine dSl_i ?_
  refine al_t (M+9) fun S U L A d N=>?_
  have q:=ho.mv (b.app d) (tagn (by simp))
  refine app_i u22 in49 rfl q (A).sl (m:=1) (k:=1) rfl (by intro u hu;simp at hu;subst hu;rfl) (by simp) (by unfold maxLen;omega) fun B pa2 pc2 C t _=>?_
  have f:=t.ch q (T:=[M+5]) (by simp)
  have O:=f.size
  refine dSl_i (wr_t (by omega) ?_)
  have D:=(((g.app b).app d).app f)
  refine ⟨⟨B,rfl,_,_,_,_,rfl,((Ch.refl [M+5] s).ch D (by simp)),?_⟩,?_⟩
  ·have r:=((b.app d).app f)
   have E:=hb2.mv r (tagn (by simp))
   have F:=p.mv (d.app f) (tagn (by simp))
   have G:=j.mv r (tagn (by simp<;>omega))
   exact ⟨pn+1,hs'++[(l,o)],by omega,by omega,rfl,by have h:=C;simpa [hd1] using h,by rw [List.take_add_one,hy];exact (E).snoc ⟨(F).sl,((G).at_ _ _ _ hx hy).len⟩⟩
  simp only [];omega
 obtain rfl:pn=n:=by omega
 obtain ⟨φ,hφ⟩: ∃φ:Nat->Nat,φ=fun m=>if m=M+5 then τo else if m=M+6 then τr else m:=⟨_,rfl⟩
 have f5:φ (M+5)=τo:=by subst hφ;exact if_pos rfl
 have f6:φ (M+6)=τr:=by subst hφ;simp
 have h1:=(ho).rf (φ:=φ)
 have h2:=(hb2).rf (φ:=φ)
 rw [f5] at h1
 rw [f6,List.take_of_length_le (by rw [←hb.len];omega)] at h2
 exact ret_t' (s':=remarkF H φ) rfl ⟨_,_,_,rfl,remarkF_ch ((Ch.refl [] s).fr g hM (by simp)) hM (fun m hm=>by subst hφ;simp only;rw [if_neg (by omega),if_neg (by omega)]),h1,h2⟩
end Go.Proofs.YtkaikaodhegmhaaGreat.E
namespace Go.Proofs.YtkaikaodhegmhaaGreat.E
open Go Go.Proofs Go.RowKit Go.Maps Go.Shelf Go.Sort
set_option linter.unusedVariables false
set_option linter.unusedSimpArgs false
theorem BRel.l128 {s:TH} {τ:Nat} {hs:List Hd} {bs:List (List UInt8)} (h:BRel s τ hs bs): ∀y∈bs,y.length=128:=by
 intro y hy
 obtain ⟨i,hi⟩:=List.getElem?_of_mem hy
 have hl:i<bs.length:=(List.getElem?_eq_some_iff.1 hi).1
 exact (h.at_ i (hs[i]'(by rw [h.len];exact hl)) y (by simp) hi).len
theorem c_sthere (sp σ vp:Nat) (a b c gen:Int) (s:TH) (hs:Blk s sp [.int .i32 0,.int .u32 0,.pointer (some ⟨vp,0,none⟩),.int .i64 a,.int .i64 b,.int .i64 c,.int .i64 gen,.bool false] 114 σ):TRet Tryz.prog 49 #[.pointer (some ⟨sp,0,none⟩)] s fun v s'=>v=.int .i64 0/\Ch [σ] s s'/\Blk s' sp [.int .i32 0,.int .u32 0,.pointer (some ⟨vp,0,none⟩),.int .i64 a,.int .i64 b,.int .i64 c,.int .i64 gen,.bool false] 114 σ:=by
 refine F49_calls _  ?_
 unfold F49
 refine jn_u ?_
 refine sB_f (by rfl) (nz_i (ld_t hs rfl (dPtr_i ?_)))
 intro _
 intros
 refine dBl_i (sB_f (by rfl) (nz_i ?_))
 refine tcall (c_mlock Tryz.muLib hs rfl) ?_
 rintro i j ⟨rfl,e,d⟩
 have k:=e.size
 refine nz_i (nz_i (ld_t d rfl (dBl_i (sB_f (by rfl) ?_))))
 refine c_door Tryz.muLib d (by rfl) (fun _=>by rfl) fun l g h m=>?_
 have f:=on_ch d h
 refine ret_t ?_
 exact ⟨rfl,(((Ch.refl [σ] s).ch e (by simp)).ch f (by simp)),g⟩
theorem c_stherG (sp σ vp:Nat) (a b c gen:Int) (s:TH) (hs:Blk s sp [.int .i32 0,.int .u32 0,.pointer (some ⟨vp,0,none⟩),.int .i64 a,.int .i64 b,.int .i64 c,.int .i64 gen,.bool true] 114 σ):TRet Tryz.prog 49 #[.pointer (some ⟨sp,0,none⟩)] s fun v s'=>v=.int .i64 100/\Ch [σ] s s'/\Blk s' sp [.int .i32 0,.int .u32 0,.pointer (some ⟨vp,0,none⟩),.int .i64 a,.int .i64 b,.int .i64 c,.int .i64 gen,.bool true] 114 σ:=by
 refine F49_calls _  ?_
 unfold F49
 refine jn_u ?_
 refine sB_f (by rfl) (nz_i (ld_t hs rfl (dPtr_i ?_)))
 intro _
 intros
 refine dBl_i (sB_f (by rfl) (nz_i ?_))
 refine tcall (c_mlock Tryz.muLib hs rfl) ?_
 rintro i j ⟨rfl,e,d⟩
 have k:=e.size
 refine nz_i (nz_i (ld_t d rfl (dBl_i (sB_t (by rfl) ?_))))
 refine c_door Tryz.muLib d (by rfl) (fun _=>by rfl) fun l g h m=>?_
 have f:=on_ch d h
 refine ret_t ?_
 exact ⟨rfl,(((Ch.refl [σ] s).ch e (by simp)).ch f (by simp)),g⟩
theorem c_sgen (sp σ vp:Nat) (a b c gen:Int) (s:TH) (gone:Bool) (hs:Blk s sp [.int .i32 0,.int .u32 0,.pointer (some ⟨vp,0,none⟩),.int .i64 a,.int .i64 b,.int .i64 c,.int .i64 gen,.bool gone] 114 σ):TRet Tryz.prog 19 #[.pointer (some ⟨sp,0,none⟩)] s fun v s'=>v=.int .i64 gen/\Ch [] s s':=by
 refine F19_calls _  ?_
 unfold F19
 refine sB_f (by rfl) (nz_i (ld_t hs rfl (dInt_i ?_)))
 refine ret_t ?_
 exact ⟨rfl,(Ch.refl [] s)⟩
theorem c_sdrop (sp σ vp:Nat) (a b c gen:Int) (s:TH) (d U:Nat) (V:VolM) (hs:Blk s sp [.int .i32 0,.int .u32 0,.pointer (some ⟨vp,0,none⟩),.int .i64 a,.int .i64 b,.int .i64 c,.int .i64 gen,.bool false] 114 σ) (hv:VolL s vp d U V 0) (hU:10<=U) (hσ:σ<U∨U+50<=σ) (ht:V.thaw.2=0):TRet Tryz.prog 18 #[.pointer (some ⟨sp,0,none⟩)] s fun v s'=>v=.int .i64 0/\Ch [σ,U] s s'/\Blk s' sp [.int .i32 0,.int .u32 0,.pointer (some ⟨vp,0,none⟩),.int .i64 a,.int .i64 b,.int .i64 c,.int .i64 gen,.bool true] 114 σ/\VolL s' vp d U V.thaw.1 0:=by
 refine F18_calls _  ?_
 unfold F18
 refine tcall (c_sthere sp σ vp a b c gen _ hs) ?_
 rintro u w ⟨rfl,g,e⟩
 have x:=g.size
 refine dInt_i (sB_f (by rfl) (nz_i (ld_t e rfl (dPtr_i ?_))))
 have p:=hv.mv g (rngn50 (by simp<;>omega))
 refine tcall (c_VThaw _ _ _ _ _ (by omega) p) ?_
 rintro y z ⟨rfl,f,h⟩
 have q:=f.size
 rw [ht]
 refine dInt_i (sB_f (by rfl) (nz_i ?_))
 have j:=e.ch f (by simp<;>omega)
 refine st_t (r:=sp) (i:=7) j rfl (by simp) fun A m l t=>?_
 have k:=on_ch j l
 refine ret_t ?_
 have n:=((g.app f).app k)
 have o:=h.mv k (rngn50 (by simp<;>omega))
 exact ⟨rfl,((Ch.refl [σ,U] s).ch n (by simp)),m,o⟩
theorem c_sread (sp σ vp:Nat) (a b c gen:Int) (s:TH) (d U:Nat) (V:VolM) (τ:Nat) (k:Int) (hs:Blk s sp [.int .i32 0,.int .u32 0,.pointer (some ⟨vp,0,none⟩),.int .i64 a,.int .i64 b,.int .i64 c,.int .i64 gen,.bool false] 114 σ) (hv:VolL s vp d U V 0) (hU:10<=U) (hσ:σ<U∨U+50<=σ) (hn:V.n<1000000000000000000) (hb:V.D.has k) (hτ:(τ<U∨U+50<=τ)/\τ≠σ):TRet Tryz.prog 50 #[.pointer (some ⟨sp,0,none⟩),.int .i64 k] s fun v s'=>Ch [σ,U,U+20,U+21,U+22,U+23] s s'/\Blk s' sp [.int .i32 0,.int .u32 0,.pointer (some ⟨vp,0,none⟩),.int .i64 a,.int .i64 b,.int .i64 c,.int .i64 gen,.bool false] 114 σ/\(((V.old.on=false∨V.old.broken=true)/\v=.tuple #[.slice none 0 0,.int .i64 3]/\VolL s' vp d U V 0)∨(∃a c,V.old.on=true/\V.old.broken=false/\v=.tuple #[.slice a 128 c,.int .i64 0]/\VolL s' vp d U V.tick 0/\Own s' a 128 c 5 1 (bvs (V.oldb k)) τ)):=by
 refine F50_calls _ _  ?_
 unfold F50
 refine tcall (c_sthere sp σ vp a b c gen _ hs) ?_
 rintro o p ⟨rfl,g,e⟩
 have q:=g.size
 refine dInt_i (sB_f (by rfl) (nz_i (ld_t e rfl (dPtr_i ?_))))
 have l:=hv.mv g (rngn50 (by simp<;>omega))
 refine tcall (c_VOld _ _ _ _ τ _ _ (by omega) l (by omega) (by omega) (by omega)) ?_
 rintro r t ⟨f,h⟩
 have m:=f.size
 rcases h with ⟨h1,rfl,hv2⟩|⟨ax,cx,h1,h2,rfl,hv2,ho2⟩
 ·refine dT2 (dSl_i (dInt_i ?_))
  refine ret_t ?_
  have i:=e.ch f (by simp<;>omega)
  exact ⟨(((Ch.refl [σ,U,U+20,U+21,U+22,U+23] s).ch g (by simp)).ch f (by simp)),i,.inl ⟨h1,rfl,hv2⟩⟩
 refine dT2 (dSl_i (dInt_i ?_))
 refine ret_t ?_
 have j:=e.ch f (by simp<;>omega)
 exact ⟨(((Ch.refl [σ,U,U+20,U+21,U+22,U+23] s).ch g (by simp)).ch f (by simp)),j,.inr ⟨_,_,h1,h2,rfl,hv2,ho2⟩⟩
theorem c_take (vp d U:Nat) (V:VolM) (a b c gen room:Int) (s:TH) (hv:VolL s vp d U V 0) (hU:10<=U) (hc:canG a b c) (hb:a*b<=V.D.blocks.length) (hgen:1<=gen/\gen<=1099511627776) (hf:(V.freeze room).2=0) (σ:Nat) (hσ:σ<U∨U+50<=σ):TRet Tryz.prog 14 #[.pointer (some ⟨vp,0,none⟩),.agg #[.int .i64 a,.int .i64 b,.int .i64 c],.int .i64 gen,.int .i64 room] s fun v s'=>∃sp,v=.tuple #[.pointer (some ⟨sp,0,none⟩),.int .i64 0]/\Ch [U,U+3] s s'/\Blk s' sp [.int .i32 0,.int .u32 0,.pointer (some ⟨vp,0,none⟩),.int .i64 a,.int .i64 b,.int .i64 c,.int .i64 gen,.bool false] 114 σ/\VolL s' vp d U (V.freeze room).1 0:=by
 have hab:1*8<=a*b:=Int.mul_le_mul (by unfold canG at hc;omega) (by unfold canG at hc;omega) (by omega) (by unfold canG at hc;omega)
 obtain ⟨M,hM,hM0,hMa,hMb,hMc,hMd,hMe,hMf⟩:=fresh6 s (U+60) σ 0 0 0 0
 refine F14_calls _ _ _ _ _ _  ?_
 unfold F14
 refine al_t (M+1) fun r1 s2 Z F r aa=>?_
 have G:=hv.mv r (rngn50 (by simp))
 refine tcall (c_VBlocks2 _ _ _ _ _ (by omega) G) ?_
 rintro ab ac ⟨rfl,m,n⟩
 have ad:=m.size
 refine dInt_i ?_
 refine sB_d (fun t=>by exfalso;omega) (fun t=>?_)
 refine jn_u ?_
 have f:=F.ch m (by simp<;>omega)
 refine ld_t f rfl (ld_t f rfl (ld_t f rfl ?_))
 refine tcall (gc_can a b c _) ?_
 rintro I J ⟨rfl,g⟩
 have K:=g.size
 rw [if_pos hc]
 refine dInt_i (sB_f (by rfl) ?_)
 have e:=f.ch g (by simp)
 refine ld_t e rfl (ld_t e rfl (ld_t e rfl ?_))
 have u:=n.mv g (rngn50 (by simp))
 refine tcall (c_VBlocks2 _ _ _ _ _ (by omega) u) ?_
 rintro L N ⟨rfl,h,o⟩
 have O:=h.size
 refine dInt_i ?_
 refine ⟨?_,?_⟩
 ·have j:=e.ch h (by simp<;>omega)
  refine ld_t j rfl (ld_t j rfl (ld_t j rfl ?_))
  rfl
 refine tcall (gc_blocks a b c hc _) ?_
 rintro P Q ⟨rfl,i⟩
 have R:=i.size
 refine dInt_i ?_
 intro _
 intros
 refine dBl_i ?_
 refine sB_d (fun w=>by exfalso;omega) (fun w=>?_)
 refine jn_u ?_
 refine sB_d (fun x=>by exfalso;omega) (fun x=>?_)
 intro _
 intros
 refine dBl_i ?_
 refine sB_d (fun y=>by exfalso;omega) (fun y=>?_)
 have z:=o.mv i (rngn50 (by simp))
 refine tcall (c_VFreeze _ _ _ _ _ _ (by omega) z) ?_
 rintro S T ⟨rfl,k,p⟩
 have W:=k.size
 rw [hf]
 refine dInt_i (sB_f (by rfl) ?_)
 have A:=((h.app i).app k)
 have l:=e.ch A (by simp<;>omega)
 refine ld_t l rfl (ld_t l rfl (ld_t l rfl ?_))
 refine al_t (M+2) fun ae H X B q Y=>?_
 have C:=((((((r.app m).app g).app h).app i).app k).app q)
 have E:=p.mv q (rngn50 (by simp))
 refine ret_t' (s':=remark H (M+2) σ) rfl ⟨_,rfl,remark_ch ((Ch.refl [U,U+3] s).ch C (by simp)) hM (by omega),(B).remark,(E).keep (by omega)⟩
structure ChT (V:VolM) (b o:Int) (y:List UInt8) (V':VolM):Prop where
 now:V'.now b=overlay (V.now b) o.toNat y
 ne: ∀c,c≠b->V'.now c=V.now c
 D:V'.D=V.D
 old:V'.old=V.keep b
 last:V'.P.last=V.P.last+1
 n:V'.n=V.ticks b
 way:V'.way=V.way
 done:V'.P.done=V.P.done
 l: ∃p:PatM,V'.P.l=V.P.l++[p]/\p.id=V.P.last+1
theorem sl_nil (s:TH) (τ:Nat):Sl s none (ivs []) τ:=.inl rfl
theorem GeoOk.can {G B N:Nat} (h:GeoOk G B N):canG (G:Int) (B:Int) (N:Int):=by unfold GeoOk at h;unfold canG;omega
theorem GeoOk.gb {G B N:Nat} (h:GeoOk G B N):8<=G*B/\G*B<=2048:=by
 unfold GeoOk at h
 have h1:1*8<=G*B:=Nat.mul_le_mul (by omega) (by omega)
 have h2:G*B<=8*256:=Nat.mul_le_mul (by omega) (by omega)
 omega
theorem fresh_len {G B N:Nat} (h:GeoOk G B N):(VolM.fresh (makeL G B N)).D.blocks.length=G*B:=makeL_len (by unfold GeoOk at h;omega)
end Go.Proofs.YtkaikaodhegmhaaGreat.E
namespace Go.Proofs.YtkaikaodhegmhaaGreat.E
open Go Go.Proofs Go.RowKit Go.Maps Go.Shelf Go.Sort
set_option linter.unusedVariables false
set_option linter.unusedSimpArgs false
def hB (n B:Nat):Int:=(n:Int)*(B:Int)+1
theorem hB_inj {n m B:Nat} (hB1:2<=B) (h:hB n B=hB m B):n=m:=by
 unfold hB at h
 have h2:(n:Int)*(B:Int)=(m:Int)*(B:Int):=by omega
 exact Int.natCast_inj.1 (Int.eq_of_mul_eq_mul_right (by omega) h2)
def VolM.tk (V:VolM) (k:Int):VolM:={ V with n:=V.n+k }
theorem tk_tick (V:VolM) (k:Int):(V.tk k).tick=V.tk (k+1):=by unfold VolM.tk VolM.tick;simp only;rw [Int.add_assoc]
theorem tk_zero (V:VolM):V.tk 0=V:=by unfold VolM.tk;rw [Int.add_zero]
structure AS (G B:Nat) (V:VolM) (A:Nat->List UInt8×List UInt8):Prop where
 len:V.D.blocks.length=G*B
 l8: ∀n,n<G->(A n).1.length=8
 l32: ∀n,n<G->(A n).2.length=32
 now: ∀n,n<G->V.now (hB n B)=hdL n (A n).1 (A n).2
theorem AS.tk {G B:Nat} {V:VolM} {A:Nat->List UInt8×List UInt8} (h:AS G B V A) (k:Int):AS G B (V.tk k) A:=⟨h.len,h.l8,h.l32,h.now⟩
theorem overlay1 (l:List UInt8) (p:Nat) (x:UInt8) (h:p<l.length):overlay l p [x]=l.set p x:=by
 unfold overlay
 rw [List.set_eq_take_append_cons_drop,if_pos h]
 simp
theorem hdL_setB {n:Nat} {il bl:List UInt8} (h8:il.length=8) (h32:bl.length=32) {q:Nat} (hq:q<32) (x:UInt8):overlay (hdL n il bl) ((12+(q:Int)).toNat) [x]=hdL n il (bl.set q x):=by
 have e:(12+(q:Int)).toNat=12+q:=by omega
 rw [e,overlay1 _ _ _ (by rw [hdL_len n h8 h32];omega)]
 unfold hdL
 have e4:([104,100,UInt8.ofNat n,0]++il:List UInt8).length=12:=by simp [h8]
 rw [List.append_assoc ([104,100,UInt8.ofNat n,0]++il) bl,List.set_append,if_neg (by rw [e4];omega),e4,Nat.add_sub_cancel_left,List.set_append,if_pos (by omega), ←List.append_assoc]
def updA (A:Nat->List UInt8×List UInt8) (n:Nat) (bl:List UInt8):Nat->List UInt8×List UInt8:=fun m=>if m=n then ((A n).1,bl) else A m
theorem AS.up {G B:Nat} {V V':VolM} {A:Nat->List UInt8×List UInt8} (h:AS G B V A) (hB2:2<=B) {n q:Nat} (hn:n<G) (hq:q<32) {x:UInt8} (c:ChT V (hB n B) (12+(q:Int)) [x] V'):AS G B V' (updA A n ((A n).2.set q x)):=by
 refine ⟨by rw [c.D];exact h.len,fun m hm=>?_,fun m hm=>?_,fun m hm=>?_⟩
 ·unfold updA;split
  ·exact h.l8 n hn
  exact h.l8 m hm
 ·unfold updA;split
  ·rw [List.length_set];exact h.l32 n hn
  exact h.l32 m hm
 unfold updA
 by_cases e:m=n
 ·subst e;rw [if_pos rfl,c.now,h.now m hn,hdL_setB (h.l8 m hn) (h.l32 m hn) hq]
 rw [if_neg e,c.ne _ (fun h2=>e (hB_inj hB2 h2))];exact h.now m hm
theorem c_beq {xa:Option Addr} {xn:Nat} (xc:Nat) {l:List UInt8} {τx:Nat} {ya:Option Addr} {yn:Nat} (yc:Nat) {m:List UInt8} {τy:Nat} {s:TH} (hx:Sl s xa (bvs l) τx) (hn:l.length=xn) (h0:xa=none->xn=0) (hy:Sl s ya (bvs m) τy) (hm:m.length=yn) (g0:ya=none->yn=0):TRet Tryz.prog 37 #[.slice xa xn xc,.slice ya yn yc] s fun v s'=>v=.bool (decide (l=m))/\Ch [] s s':=by
 refine F37_calls _ _ _ _ _ _  ?_
 unfold F37
 refine conv_bs u49 u5 (by kernel_rfl) hx hn h0 ?_
 refine dStr_i ?_
 refine conv_bs u49 u5 (by kernel_rfl) hy hm g0 ?_
 refine dStr_i ?_
 refine ret_t ?_
 exact ⟨ret_b (by simp only [ByteArray.toList_mk];by_cases h:l=m<;>simp [h]),(Ch.refl [] s)⟩
set_option maxRecDepth 100000 in
/-- slices.EqualFunc[[][]byte,[][]byte,[]byte,[]byte] -/
theorem c_eqrows {xa:Option Addr} (xc:Nat) {hs:List Hd} {τx σx:Nat} {ya:Option Addr} (yc n:Nat) {gs:List Hd} {τy σy:Nat} {bs:List (List UInt8)} (s:TH) (hx:Sl s xa (hs.flatMap hd1) τx) (hy:Sl s ya (gs.flatMap hd1) τy) (hb:BRel s σx hs bs) (gb:BRel s σy gs bs) (hn:bs.length=n) (hn2:n<=2048):TRet Tryz.prog 36 #[.slice xa n xc,.slice ya n yc,.func (.func 37) #[] #[]] s fun v s'=>v=.bool true/\Ch [] s s':=by
 have hl1:=hb.len
 have hl2:=gb.len
 refine F36_calls _ _ _ _ _ _ _ _ _  ?_
 unfold F36
 refine sB_nd (fun k=>by exfalso;omega) (fun k=>?_)
 refine ⟨fun vs H'=>∃s':TH,s'.h=H'/\∃i,vs=[.int .i64 i]/\Ch [] s s'/\(∃kk:Nat,i=kk/\kk<=n),fun vs H'=>match vs with|[.int .i64 i]=>((n:Int) - i).toNat|_=>0,⟨s,rfl,_,rfl,Ch.refl _ _,?_⟩,?_⟩
 ·exact ⟨0,rfl,by omega⟩
 intro i
 iterate 18 intro _
 intro H_ hI_2
 obtain ⟨w,rfl,i_,hvs,c,kk,rfl,hk⟩:=hI_2
 cases hvs
 have x:=c.size
 refine sB_d (fun l=>?_) (fun l=>?_)
 ·obtain ⟨p,hp⟩: ∃p,hs[kk]? =some p:=⟨hs[kk]'(by omega),by simp⟩
  obtain ⟨q,hq⟩: ∃q,gs[kk]? =some q:=⟨gs[kk]'(by omega),by simp⟩
  obtain ⟨bb,hbb⟩: ∃b,bs[kk]? =some b:=⟨bs[kk]'(by omega),by simp⟩
  obtain ⟨a,rfl⟩:=hx.some (fun e=>by have:=bcell hp;rw [e] at this;simp at this)
  obtain ⟨a2,rfl⟩:=hy.some (fun e=>by have:=bcell hq;rw [e] at this;simp at this)
  refine nz_i (ask_t (by omega) ?_)
  have m:=hx.mv c (tagn (by simp))
  refine ld_sl m (by rw [Int.toNat_natCast,Nat.mul_one];exact bcell hp) ?_
  refine dSl_i (nz_i (ask_t (by omega) ?_))
  have o:=hy.mv c (tagn (by simp))
  refine ld_sl o (by rw [Int.toNat_natCast,Nat.mul_one];exact bcell hq) ?_
  refine dSl_i ?_
  refine gB_i rfl ?_
  have d:=hb.mv c (tagn (by simp))
  have f:=gb.mv c (tagn (by simp))
  refine tcall (c_beq _ _ ((d).at_ _ _ _ hp hbb).sl ((d).at_ _ _ _ hp hbb).len (fun h=>by obtain ⟨y,hy⟩:=((d).at_ _ _ _ hp hbb).ne;rw [h] at hy;cases hy) ((f).at_ _ _ _ hq hbb).sl ((f).at_ _ _ _ hq hbb).len (fun h=>by obtain ⟨y,hy⟩:=((f).at_ _ _ _ hq hbb).ne;rw [h] at hy;cases hy)) ?_
  rintro t r ⟨rfl,g⟩
  have u:=g.size
  refine dBl_i ?_
  refine sB_nd (fun j=>?_) (fun j=>?_)
  ·refine ret_t ?_
   exact absurd rfl j
  refine wr_t (by omega) ?_
  refine ⟨⟨r,rfl,_,rfl,(((Ch.refl [] s).ch c (by simp)).ch g (by simp)),?_⟩,?_⟩
  ·exact ⟨kk+1,by omega,by omega⟩
  simp only [];omega
 refine ret_t ?_
 exact ⟨rfl,((Ch.refl [] s).ch c (by simp))⟩
theorem c_same {xa:Option Addr} (xc:Nat) {hs:List Hd} {τx σx:Nat} {ya:Option Addr} (yc n m:Nat) {gs:List Hd} {τy σy:Nat} {bs:List (List UInt8)} (s:TH) (hx:Sl s xa (hs.flatMap hd1) τx) (hy:Sl s ya (gs.flatMap hd1) τy) (hb:BRel s σx hs bs) (gb:BRel s σy gs bs) (hn:bs.length=n) (hm:bs.length=m) (hn2:n<=2048):TRet Tryz.prog 10 #[.slice xa n xc,.slice ya m yc] s fun v s'=>v=.bool true/\Ch [] s s':=by
 subst hn
 subst hm
 refine F10_calls _ _ _ _ _ _  ?_
 unfold F10
 refine tcall (c_eqrows xc yc _ _ hx hy hb gb rfl hn2) ?_
 rintro b c ⟨rfl,a⟩
 have d:=a.size
 refine dBl_i ?_
 refine ret_t ?_
 exact ⟨rfl,((Ch.refl [] s).ch a (by simp))⟩
def VolM.nows (V:VolM):List (List UInt8):=(List.range V.D.blocks.length).map fun (k:Nat)=>V.now (k:Int)
theorem c_pnow2 (p vp d U:Nat) (V:VolM) (vd vx vy:Value) (τp τr τb:Nat) (s:TH) (hU:10<=U) (hv:VolL s vp d U V 0) (hp:Blk s p [vd,.pointer (some ⟨vp,0,none⟩),vx,vy] 41 τp) (hn:V.n<100000000) (hτ:(τr<U∨U+50<=τr)/\(τb<U∨U+50<=τb)/\(τp<U∨U+50<=τp)):TRet Tryz.prog 11 #[.pointer (some ⟨p,0,none⟩)] s fun v s'=>∃a c hs,v=.slice a V.D.blocks.length c/\Ch [U,U+20,U+21,U+22,U+23] s s'/\Own s' a V.D.blocks.length c 49 1 (hs.flatMap hd1) τr/\BRel s' τb hs V.nows/\VolL s' vp d U (V.tk V.D.blocks.length) 0:=by
 have hnb:=hv.p.choose_spec.choose_spec.choose_spec.choose_spec.choose_spec.choose_spec.dk.nb
 obtain ⟨M,hM,hM0,hMa,hMb,hMc,hMd,hMe,hMf⟩:=fresh6 s (U+60) τp τr τb 0 0
 refine F11_calls _  ?_
 unfold F11
 refine nz_i (ld_t hp rfl (dPtr_i ?_))
 refine tcall (c_VBlocks2 _ _ _ _ _ (by omega) hv) ?_
 rintro S j ⟨rfl,l,o⟩
 have W:=l.size
 refine dInt_i ?_
 refine ⟨fun vs H'=>∃s':TH,s'.h=H'/\∃pa pn pc i,vs=[.slice pa pn pc,.int .i64 i]/\Ch [U,U+20,U+21,U+22,U+23,M+1,M+9] j s'/\(∃(kk:Nat) (hs:List Hd),i=kk/\pn=kk/\kk<=V.D.blocks.length/\Own s' pa pn pc 49 1 (hs.flatMap hd1) (M+1)/\BRel s' τb hs ((List.range kk).map fun (k:Nat)=>V.now (k:Int))/\VolL s' vp d U (V.tk kk) 0),fun vs H'=>match vs with|[.slice pa pn pc,.int .i64 i]=>((V.D.blocks.length:Int) - i).toNat|_=>0,⟨j,rfl,_,_,_,_,rfl,Ch.refl _ _,?_⟩,?_⟩
 ·exact ⟨0,[],rfl,rfl,by omega,Own.nil _ _ _ _,BRel.nil _ _,by rw [show ((0:Nat):Int)=0 from rfl,tk_zero];exact o⟩
 intro pa pn pc i
 iterate 19 intro _
 intro H_ hI_7
 obtain ⟨K,rfl,pa_,pn_,pc_,i_,hvs,g,kk,hs,rfl,rfl,hk,ho,hb,hv2⟩:=hI_7
 cases hvs
 have X:=g.size
 refine sB_d (fun A=>?_) (fun A=>?_)
 ·refine nz_i ?_
  have B:=hp.ch (l.app g) (by simp<;>omega)
  refine ld_t B rfl (dPtr_i ?_)
  refine tcall (c_VRead _ _ _ _ τb _ _ (by omega) hv2 (by show V.n+_<_;omega) (show V.D.has _ from ⟨by omega,by omega⟩) (by omega)) ?_
  rintro L N ⟨q,r,rfl,f,t,w⟩
  have O:=f.size
  refine dT2 (dSl_i (dInt_i ?_))
  refine al_t (M+9) fun Y Z P C b Q=>?_
  have x:=ho.mv (f.app b) (tagn (by simp<;>omega))
  refine app_i u22 in49 rfl x (C).sl (m:=1) (k:=1) rfl (by intro u hu;simp at hu;subst hu;rfl) (by simp) (by unfold maxLen;omega) fun E pa2 pc2 F z _=>?_
  have e:=z.ch x (T:=[M+1]) (by simp)
  have R:=e.size
  refine dSl_i (wr_t (by omega) ?_)
  have G:=(((g.app f).app b).app e)
  refine ⟨⟨E,rfl,_,_,_,_,rfl,((Ch.refl [U,U+20,U+21,U+22,U+23,M+1,M+9] j).ch G (by simp)),?_⟩,?_⟩
  ·have H:=((f.app b).app e)
   have I:=hb.mv H (tagn (by simp<;>omega))
   have y:=t.mv (b.app e) (tagn (by simp<;>omega))
   have J:=w.mv (b.app e) (rngn50 (by simp<;>omega))
   exact ⟨pn+1,hs++[(q,r)],by omega,by omega,by omega,by have h:=F;simpa [hd1] using h,by rw [List.range_succ,List.map_append];exact (I).snoc ⟨(y).sl,by have:=(y).1;rw [bvs_len] at this;exact this⟩,by rw [show ((pn+1:Nat):Int)=(pn:Int)+1 by omega, ←tk_tick];exact J⟩
  simp only [];omega
 obtain rfl:pn=V.D.blocks.length:=by omega
 refine ret_t' (s':=remark K (M+1) τr) rfl ⟨_,_,_,rfl,remark_ch (((Ch.refl [U,U+20,U+21,U+22,U+23] s).ch l (by simp)).fr g hM (by simp)) hM (by omega),(ho).remark,(hb).keep (by omega),(hv2).keep (by omega)⟩
abbrev Hn :=Option Addr×Nat×Nat
def hn1 (p:Hn):List Value:=[.slice p.1 p.2.1 p.2.2]
structure GRel (s:TH) (τ:Nat) (hs:List Hn) (bs:List (List UInt8)):Prop where
 len:hs.length=bs.length
 at_: ∀(i:Nat) (p:Hn) (b:List UInt8),hs[i]? =some p->bs[i]? =some b->Sl s p.1 (bvs b) τ/\b.length=p.2.1/\(p.1=none->p.2.1=0)/\p.2.1<=140737488351232/\p.2.1<=p.2.2
theorem GRel.mv {s s':TH} {τ:Nat} {hs:List Hn} {bs:List (List UInt8)} {C:Nat->Prop} (h:GRel s τ hs bs) (c:Chg C s s') (hn: ∀j,j<s.h.size->s.g j=τ->¬C j):GRel s' τ hs bs:=⟨h.len,fun i p b h1 h2=>⟨(h.at_ i p b h1 h2).1.mv c hn,(h.at_ i p b h1 h2).2⟩⟩
theorem GRel.nil (s:TH) (τ:Nat):GRel s τ [] []:=⟨rfl,fun i p b h _=>by simp at h⟩
theorem GRel.cons {s:TH} {τ:Nat} {hs:List Hn} {bs:List (List UInt8)} (h:GRel s τ hs bs) {a:Option Addr} {n c:Nat} {l:List UInt8} (h1:Sl s a (bvs l) τ) (h2:l.length=n) (h3:a=none->n=0) (h4:n<=140737488351232) (h5:n<=c):GRel s τ ((a,n,c)::hs) (l::bs):=
 ⟨by simp [h.len],fun i p b g1 g2=>by
  cases i with
  |zero=>simp at g1 g2;subst g1 g2;exact ⟨h1,h2,h3,h4,h5⟩
  |succ i=>exact h.at_ i p b (by simpa using g1) (by simpa using g2)⟩
def toHd (p:Hn):Hd:=(p.1,p.2.2)
theorem GRel.brel {s:TH} {τ:Nat} {hs:List Hn} {bs:List (List UInt8)} (h:GRel s τ hs bs) (hl: ∀b∈bs,b.length=128):BRel s τ (hs.map toHd) bs/\hs.flatMap hn1=(hs.map toHd).flatMap hd1:=by
 have e: ∀p∈hs,p.2.1=128:=fun p hp=>by
  obtain ⟨i,hi⟩:=List.getElem?_of_mem hp
  have hb:i<bs.length:=by rw [←h.len];exact (List.getElem?_eq_some_iff.1 hi).1
  have:=(h.at_ i p _ hi (List.getElem?_eq_getElem hb)).2.1
  rw [←this];exact hl _ (List.getElem_mem hb)
 refine ⟨⟨by simp [h.len],fun i p b h1 h2=>?_⟩,?_⟩
 ·rw [List.getElem?_map] at h1
  obtain ⟨q,hq,rfl⟩:=Option.map_eq_some_iff.1 h1
  have g:=h.at_ i q b hq h2
  exact ⟨g.1,by rw [g.2.1];exact e q (List.mem_of_getElem? hq)⟩
 clear h
 induction hs with
 |nil=>rfl
 |cons p hs ih=>
  rw [List.flatMap_cons,List.map_cons,List.flatMap_cons,ih (fun q hq=>e q (List.mem_cons_of_mem _ hq))]
  have:=e p (by simp)
  unfold hn1 hd1 toHd
  rw [this]
end Go.Proofs.YtkaikaodhegmhaaGreat.E
