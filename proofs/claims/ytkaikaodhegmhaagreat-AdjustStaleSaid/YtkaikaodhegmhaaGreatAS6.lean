/- My own texts, joined. -/
import Derived.ChangeArms
import Derived.DataReads
import Derived.DeepKeys
import Derived.Handed
import Derived.JoinedOf
import Derived.KernelRfl
import Derived.Laws.StructEq
import Derived.OpenShut
import Derived.ProofKit
import Derived.Recover
import Derived.Tactics2
import Derived.Test.YtkaikaodhegmhaaGreatProg
import Derived.WalkKit
import Derived.WideShapes
import Derived.Test.YtkaikaodhegmhaaGreatAS5
namespace Go.Proofs.YtkaikaodhegmhaaGreat.E
open Go Go.Proofs
set_option linter.unusedVariables false
set_option linter.unusedSimpArgs false
theorem bvs_set (l:List UInt8) (i:Nat) (b:UInt8):(bvs l).set i (.int .u8 (b.toNat:Int))=bvs (l.set i b):=by unfold bvs;rw [List.map_set];rfl
def wrL (l:List UInt8) (p:Nat):Nat->Nat->List UInt8
 |0,_=>l
 |k+1,n=>(wrL l p k n).set (p+k) (UInt8.ofNat (n/256^k%256))
theorem wrL_len (l:List UInt8) (p k n:Nat):(wrL l p k n).length=l.length:=by
 induction k with
 |zero=>rfl
 |succ k ih=>rw [wrL,List.length_set,ih]
theorem u8q (q:Nat):IntKind.u8.wrap ((q%256:Nat):Int)=((UInt8.ofNat (q%256)).toNat:Int):=by
 have e:IntKind.u8.wrap ((q%256:Nat):Int)=((q%256:Nat):Int)%256:=rfl
 have e2:(UInt8.ofNat (q%256)).toNat=(q%256)%256:=rfl
 rw [e,e2];omega
theorem tm256 (q:Nat):Int.tmod (q:Int) 256=((q%256:Nat):Int):=by
 rw [Int.tmod_eq_emod_of_nonneg (by omega)];omega
theorem td256 (n k:Nat):Int.tdiv ((n/256^k:Nat):Int) 256=((n/256^(k+1):Nat):Int):=by
 rw [Int.tdiv_eq_ediv_of_nonneg (Int.natCast_nonneg _),Nat.pow_succ, ←Nat.div_div_eq_div_mul]
 generalize n/256^k=q
 omega
theorem pow_w (w:Nat) (h:1<=w/\w<=4):IntKind.i64.wrap (1*2^min (Int.toNat (8*(w:Int))) 64)=((256^w:Nat):Int)/\256^w<=4294967296:=by
 rcases (by omega:w=1∨w=2∨w=3∨w=4) with rfl|rfl|rfl|rfl<;>exact ⟨by decide,by decide⟩
def sumS (l:List UInt8):Nat×Nat:=l.foldl (fun z b=>((z.1+b.toNat)%65521,(z.2+(z.1+b.toNat)%65521)%65521)) (1,0)
def sumN (l:List UInt8):Nat:=(sumS l).2*65536+(sumS l).1
theorem sumS_snoc (l:List UInt8) (b:UInt8):sumS (l++[b])=(((sumS l).1+b.toNat)%65521,((sumS l).2+((sumS l).1+b.toNat)%65521)%65521):=by unfold sumS;rw [List.foldl_append];rfl
theorem sumS_lt (l:List UInt8):(sumS l).1<65521/\(sumS l).2<65521:=by
 rcases List.eq_nil_or_concat l with rfl|⟨m,b,rfl⟩
 ·exact ⟨by decide,by decide⟩
 rw [List.concat_eq_append,sumS_snoc];exact ⟨Nat.mod_lt _ (by decide),Nat.mod_lt _ (by decide)⟩
theorem bvs_get {l:List UInt8} {k:Nat} {b:UInt8} (h:l[k]? =some b):(bvs l)[k]? =some (.int .u8 (b.toNat:Int)):=by unfold bvs;rw [List.getElem?_map,h];rfl
theorem c_rput (τ:Nat) {xa:Option Addr} {xn:Nat} (xc:Nat) {l:List UInt8} {τx:Nat} {s:TH} (hx:Sl s xa (bvs l) τx) (hn:l.length=xn) (h0:xa=none->xn=0) (hb:xn<=1000000000) (p w n:Nat) (hw:1<=w/\w<=4) (hp:p+w<=xn) (hN:n<256^w):TRet Tryz.prog 223 #[.slice xa xn xc,.int .i64 (p:Int),.int .i64 (w:Int),.int .i64 (n:Int)] s fun v s'=>∃a' c',v=.tuple #[.slice a' xn c',.int .i64 0]/\Ch [τ] s s'/\Own s' a' xn c' 5 1 (bvs (wrL l p w n)) τ:=by
 obtain ⟨M,hM⟩: ∃M:Nat,M=256^w:=⟨_,rfl⟩
 have hpw:=pow_w w hw
 rw [←hM] at hN hpw
 refine F223_calls _ _ _ _ _ _  ?_
 unfold F223
 refine jn_u ?_
 refine sB_d (fun g=>by exfalso;omega) (fun g=>?_)
 refine sB_d (fun i=>by exfalso;omega) (fun i=>?_)
 refine sB_d (fun o=>by exfalso;omega) (fun o=>?_)
 refine sB_d (fun r=>by exfalso;omega) (fun r=>?_)
 refine wr_t (by omega) (ask_t (by omega) ?_)
 refine nm_a fun H hn63=>?_
 rw [hpw.1] at hn63
 iterate 20 intro _
 refine dBl_i ?_
 refine sB_d (fun t=>by exfalso;omega) (fun t=>?_)
 refine wr_t (by omega) ?_
 refine sB_d (fun u=>by exfalso;omega) (fun u=>?_)
 refine al_t τ fun I J F C d K=>?_
 have D:=hx.mv d (tagn (by simp))
 refine app_i u49 in5 rfl (C.own0 1) D (by rw [bvs_len];omega) (bvs_one l) h0 (by unfold maxLen;omega) fun b a1 c1 e x hnil=>?_
 have f:=x.toL rfl
 have L:=f.size
 rw [Nat.zero_add,List.nil_append] at e
 simp only [Nat.zero_add]
 refine dSl_i ?_
 refine ⟨fun vs H'=>∃s':TH,s'.h=H'/\∃m j,vs=[.int .i64 m,.int .i64 j]/\ChL [τ] [] b s'/\(∃k:Nat,j=k/\k<=w/\m=((n/256^k:Nat):Int)/\Own s' a1 xn c1 5 1 (bvs (wrL l p k n)) τ),fun vs H'=>match vs with|[.int .i64 m,.int .i64 j]=>((w:Int) - j).toNat|_=>0,⟨b,rfl,_,_,rfl,ChL.refl _ _ _,?_⟩,?_⟩
 ·exact ⟨0,rfl,by omega,by simp,e⟩
 intro m j
 iterate 14 intro _
 intro N hI
 obtain ⟨O,rfl,m_,j_,hvs,c,k,rfl,hk,rfl,a⟩:=hI
 cases hvs
 have P:=c.size
 refine sB_d (fun y=>?_) (fun y=>?_)
 ·refine wr_t (by omega) (ask_t (by omega) ?_)
  rw [tm256]
  refine nm_a fun Q hn55=>?_
  subst hn55
  refine wr_a fun R hn56=>?_
  rw [u8q] at hn56
  subst hn56
  obtain ⟨ad,rfl⟩:=Own.ne_none a (by omega)
  refine nz_i (ask_t (by omega) ?_)
  refine Own.st a rfl (by omega) fun E z A G=>?_
  have B:=Ch.on_tag (T:=[τ]) (Ch.refl _ _) A a.tagOf (by simp)
  refine ask_t (by omega) ?_
  have hle:n/256^(k+1)<=n:=Nat.div_le_self _ _
  obtain ⟨q,hq⟩: ∃q,q=n/256^(k+1):=⟨_,rfl⟩
  rw [td256, ←hq]
  rw [←hq] at hle
  refine wr_t (by omega) (wr_t (by omega) ?_)
  refine ⟨⟨E,rfl,_,_,rfl,(((ChL.refl [τ] [] b).chl c (by simp) (by simp<;>omega)).ch B (by simp)),?_⟩,?_⟩
  ·have ho:=z
   rw [show Int.toNat ((p:Int)+(k:Int))*1=p+k by omega,bvs_set] at ho
   exact ⟨k+1,by omega,by omega,by rw [hq],ho⟩
  simp only [];omega
 refine ret_t ?_
 obtain rfl:k=w:=by omega
 exact ⟨a1,c1,rfl,((((Ch.refl [τ] s).ch d (by simp)).chl f (by simp) (by simp<;>omega)).chl c (by simp) (by simp<;>omega)),a⟩
theorem c_rnum (τ:Nat) {xa:Option Addr} {xn:Nat} (xc:Nat) {l:List UInt8} {τx:Nat} {s:TH} (hx:Sl s xa (bvs l) τx) (hn:l.length=xn) (h0:xa=none->xn=0) (hb:xn<=1000000000) (p w n:Nat) (hw:1<=w/\w<=4) (hp:p+w<=xn) (hN:n<256^w):TRet Tryz.prog 138 #[.slice xa xn xc,.int .i64 (p:Int),.int .i64 (w:Int),.int .i64 (n:Int)] s fun v s'=>∃a' c',v=.slice a' xn c'/\Ch [τ] s s'/\Own s' a' xn c' 5 1 (bvs (wrL l p w n)) τ:=by
 refine F138_calls _ _ _ _ _ _  ?_
 unfold F138
 refine tcall (c_rput τ xc hx hn h0 hb p w n hw hp hN) ?_
 rintro _ s2 ⟨a',c',rfl,a,b⟩
 have c:=a.size
 refine dT2 (dSl_i (dInt_i ?_))
 refine ret_t ?_
 exact ⟨a',c',rfl,((Ch.refl [τ] s).ch a (by simp)),b⟩
theorem c_rsum {xa:Option Addr} {xn:Nat} (xc:Nat) {l:List UInt8} {τx:Nat} {s:TH} (hx:Sl s xa (bvs l) τx) (hn:l.length=xn) (hb:xn<=1000000000):TRet Tryz.prog 152 #[.slice xa xn xc] s fun v s'=>v=.int .i64 (sumN l:Int)/\Ch [] s s':=by
 refine F152_calls _ _ _  ?_
 unfold F152
 refine ⟨fun vs H'=>∃s':TH,s'.h=H'/\∃x1 y1 m,vs=[.int .i64 x1,.int .i64 y1,.int .i64 m]/\ChL [] [] s s'/\(∃k:Nat,m=k/\k<=xn/\x1=((sumS (l.take k)).1:Int)/\y1=((sumS (l.take k)).2:Int)),fun vs H'=>match vs with|[.int .i64 x1,.int .i64 y1,.int .i64 m]=>((xn:Int) - m).toNat|_=>0,⟨s,rfl,_,_,_,rfl,ChL.refl _ _ _,?_⟩,?_⟩
 ·exact ⟨0,rfl,by omega,rfl,rfl⟩
 intro x1 y1 m
 iterate 14 intro _
 intro g hI
 obtain ⟨d,rfl,x1_,y1_,m_,hvs,a,k,rfl,hk,rfl,rfl⟩:=hI
 cases hvs
 have i:=a.size
 refine sB_d (fun c=>?_) (fun c=>?_)
 ·have hk2:k<xn:=by omega
  obtain ⟨b,hbk⟩: ∃b,l[k]? =some b:=⟨l[k]'(by omega),by simp⟩
  obtain ⟨ad,rfl⟩:=hx.some (fun e=>by have:=bvs_get hbk;rw [e] at this;simp at this)
  have hlt:=sumS_lt (l.take k)
  have hb8:=b.toNat_lt
  refine nz_i (ask_t (by omega) ?_)
  have f:=hx.mv a (tagL (by simp<;>omega) (by simp))
  refine ld_sl f (by rw [Int.toNat_natCast,Nat.mul_one];exact bvs_get hbk) ?_
  refine dInt_i (wr_t (by omega) (wr_t (by omega) (ask_t (by omega) ?_)))
  refine nm_a fun j hn27=>?_
  rw [Int.tmod_eq_emod_of_nonneg (by omega)] at hn27
  refine wr_t (by omega) (ask_t (by omega) ?_)
  refine nm_a fun n hn29=>?_
  rw [Int.tmod_eq_emod_of_nonneg (by omega)] at hn29
  refine wr_t (by omega) ?_
  refine ⟨⟨d,rfl,_,_,_,rfl,((ChL.refl [] [] s).chl a (by simp) (by simp<;>omega)),?_⟩,?_⟩
  ·have hs:=sumS_snoc (l.take k) b
   rw [show l.take k++[b]=l.take (k+1) by rw [List.take_add_one,hbk];rfl] at hs
   exact ⟨k+1,by omega,by omega,by rw [hs];simp only [];omega,by rw [hs];simp only [];omega⟩
  simp only [];omega
 have hlt:=sumS_lt (l.take k)
 refine wr_t (by omega) (wr_t (by omega) ?_)
 refine ret_t ?_
 obtain rfl:k=xn:=by omega
 rw [List.take_of_length_le (by omega)]
 exact ⟨ret_i (by unfold sumN;omega),((Ch.refl [] s).chl a (by simp) (by simp<;>omega))⟩
theorem Sl.takeB {s:TH} {a:Option Addr} {l:List UInt8} {τ:Nat} (h:Sl s a (bvs l) τ) (k:Nat):Sl s a (bvs (l.take k)) τ:=by
 rcases h with h|⟨g,o,h1,h2,h3,h4⟩
 ·left
  have:l=[]:=by simpa [bvs] using h
  subst this;simp [bvs]
 refine .inr ⟨g,o,h1,h2,h3,fun j v hv=>h4 j v ?_⟩
 unfold bvs at hv ⊢
 rw [List.map_take,List.getElem?_take] at hv
 split at hv
 ·exact hv
 cases hv
def sealL (l:List UInt8):List UInt8:=wrL l (l.length - 4) 4 (sumN (l.take (l.length - 4)))
theorem sealL_len (l:List UInt8):(sealL l).length=l.length:=wrL_len _ _ _ _
theorem sumN_lt (l:List UInt8):sumN l<256^4:=by
 have:=sumS_lt l
 unfold sumN
 omega
def superBase :List UInt8:=[98,111,108,108]++List.replicate 124 0
def superL (g b n m:Nat):List UInt8:=sealL (wrL (wrL (wrL (wrL superBase 4 1 g) 5 1 (b - 1)) 6 1 n) 8 4 m)
theorem superL_len (g b n m:Nat):(superL g b n m).length=128:=by unfold superL;rw [sealL_len,wrL_len,wrL_len,wrL_len,wrL_len];rfl
def GeoOk (g b n:Nat):Prop:=1<=g/\g<=8/\8<=b/\b<=256/\4<=n/\n<=64/\n%4=0/\3+n/4<=b
theorem c_rseal (τ:Nat) {xa:Option Addr} {xn:Nat} (xc:Nat) {l:List UInt8} {τx:Nat} {s:TH} (hx:Sl s xa (bvs l) τx) (hn:l.length=xn) (h0:xa=none->xn=0) (hb:xn<=1000000000) (hc:xn<=xc) (h4:4<=xn):TRet Tryz.prog 139 #[.slice xa xn xc] s fun v s'=>∃a' c',v=.tuple #[.slice a' xn c',.int .i64 0]/\Ch [τ] s s'/\Own s' a' xn c' 5 1 (bvs (sealL l)) τ:=by
 refine F139_calls _ _ _  ?_
 unfold F139
 refine sB_d (fun c=>by exfalso;omega) (fun c=>?_)
 refine wr_t (by omega) ?_
 rw [show ((xn:Int) - 4)=((xn - 4:Nat):Int) by omega]
 refine wr_t (by omega) (ask_t (by omega) ?_)
 simp only [slO_zero,Int.toNat_zero,Nat.sub_zero,Int.toNat_natCast]
 refine tcall (c_rsum (xn:=xn - 4) xc (hx.takeB (xn - 4)) (by simp;omega) (by omega)) ?_
 rintro _ s4 ⟨rfl,a⟩
 have f:=a.size
 refine dInt_i ?_
 have d:=hx.mv a (tagn (by simp))
 refine tcall (c_rput τ xc d hn h0 hb (xn - 4) 4 (sumN (l.take (xn - 4))) (by omega) (by omega) (sumN_lt _)) ?_
 rintro _ s7 ⟨a',c',rfl,b,e⟩
 have g:=b.size
 refine dT2 (dSl_i (dInt_i ?_))
 refine ret_t ?_
 exact ⟨a',c',rfl,(((Ch.refl [τ] s).ch a (by simp)).ch b (by simp)),by unfold sealL;rw [hn];exact e⟩
theorem c_rmay (g b n:Nat) {s:TH} (hv:GeoOk g b n):TRet Tryz.prog 137 #[.agg #[.int .i64 (g:Int),.int .i64 (b:Int),.int .i64 (n:Int)]] s fun v s'=>v=.bool true/\Ch [] s s':=by
 have hv2:=hv
 unfold GeoOk at hv2
 refine F137_calls _ _ _  ?_
 unfold F137
 refine al_t 0 fun r1 s2 l a k m=>?_
 refine ld_t a rfl (dInt_i ?_)
 refine sB_d (fun c=>?_) (fun c=>by exfalso;omega)
 refine ld_t a rfl (dInt_i ?_)
 refine sB_d (fun d=>?_) (fun d=>by exfalso;omega)
 refine ld_t a rfl (dInt_i ?_)
 refine sB_d (fun e=>?_) (fun e=>by exfalso;omega)
 refine ld_t a rfl (dInt_i ?_)
 refine sB_d (fun f=>?_) (fun f=>by exfalso;omega)
 refine ld_t a rfl (dInt_i ?_)
 refine sB_d (fun h=>?_) (fun h=>by exfalso;omega)
 refine ld_t a rfl (dInt_i ?_)
 refine sB_d (fun i=>?_) (fun i=>by exfalso;omega)
 refine ld_t a rfl (dInt_i (ask_t (by omega) ?_))
 refine nm_a fun o hn17=>?_
 rw [Int.tmod_eq_emod_of_nonneg (by omega)] at hn17
 refine sB_eq (fun j=>?_) (fun j=>by exfalso;omega)
 refine ld_t a rfl (dInt_i (ld_t a rfl (dInt_i (ask_t (by omega) ?_))))
 rw [Int.tdiv_eq_ediv_of_nonneg (by omega)]
 refine wr_t (by omega) (wr_t (by omega) ?_)
 refine ret_t ?_
 exact ⟨ret_b (by simp;omega),((Ch.refl [] s).ch k (by simp))⟩
theorem c_encSuper (τ:Nat) (g b n m:Nat) {s:TH} (hτ:τ≠0) (hv:GeoOk g b n) (hm:m<4294967296):TRet Tryz.prog 60 #[.agg #[.int .i64 (g:Int),.int .i64 (b:Int),.int .i64 (n:Int),.int .i64 (m:Int)]] s fun v s'=>∃a' c',v=.tuple #[.slice a' 128 c',.int .i64 0]/\Ch [τ] s s'/\Own s' a' 128 c' 5 1 (bvs (superL g b n m)) τ:=by
 have hv2:=hv
 unfold GeoOk at hv2
 refine F60_calls _ _ _ _  ?_
 unfold F60
 refine al_t 0 fun r1 s2 S j A T=>?_
 refine jn_u ?_
 refine ld_t j rfl (ld_t j rfl (ld_t j rfl ?_))
 refine tcall (c_rmay g b n hv) ?_
 rintro _ U ⟨rfl,k⟩
 have V:=k.size
 refine dBl_i (sB_f (by rfl) ?_)
 have r1_6:=j.ch k (by simp)
 refine ld_t r1_6 rfl (dInt_i ?_)
 refine sB_d (fun x=>by exfalso;omega) (fun x=>?_)
 refine ld_t r1_6 rfl (dInt_i ?_)
 iterate 13 intro _
 refine dBl_i ?_
 refine sB_d (fun y=>by exfalso;omega) (fun y=>?_)
 refine al_t 0 fun W X K B w Y=>?_
 refine conv_lit u49 u5 (show Blk _ _ (bvs [98,111,108,108]) _ _ from B) rfl fun Z l a hsz=>?_
 have L:=a.size
 refine dSl_i ?_
 refine appz_g (m:=124) τ u49 u3 in5 l rfl (by omega) (by omega) fun aa a2 c2 o c hne=>?_
 have M:=c.size
 refine dSl_i ?_
 have r1_16:=r1_6.ch w (by simp)
 have r1_17:=r1_16.on a (by omega)
 have r1_18:=r1_17.ch c (by simp)
 refine ld_t r1_18 rfl (dInt_i ?_)
 refine tcall (c_rnum τ _ o.sl (by simp [wrL_len,superBase]) o.none_iff (by omega) 4 1 g (by omega) (by omega) (by unfold GeoOk at hv;omega)) ?_
 rintro _ ab ⟨C,D,rfl,d,p⟩
 have N:=d.size
 refine dSl_i ?_
 have r1_22:=r1_18.ch d (by intro h;simp only [List.mem_cons,List.not_mem_nil,or_false] at h<;>omega)
 refine ld_t r1_22 rfl (dInt_i (wr_t (by omega) ?_))
 rw [show ((b:Int) - 1)=((b - 1:Nat):Int) by omega]
 refine tcall (c_rnum τ _ p.sl (by simp [wrL_len,superBase]) p.none_iff (by omega) 5 1 (b - 1) (by omega) (by omega) (by unfold GeoOk at hv;omega)) ?_
 rintro _ ac ⟨E,F,rfl,e,q⟩
 have O:=e.size
 refine dSl_i ?_
 have r1_26:=r1_22.ch e (by intro h;simp only [List.mem_cons,List.not_mem_nil,or_false] at h<;>omega)
 refine ld_t r1_26 rfl (dInt_i ?_)
 refine tcall (c_rnum τ _ q.sl (by simp [wrL_len,superBase]) q.none_iff (by omega) 6 1 n (by omega) (by omega) (by unfold GeoOk at hv;omega)) ?_
 rintro _ ad ⟨G,H,rfl,f,r⟩
 have P:=f.size
 refine dSl_i ?_
 have r1_30:=r1_26.ch f (by intro h;simp only [List.mem_cons,List.not_mem_nil,or_false] at h<;>omega)
 refine ld_t r1_30 rfl (dInt_i ?_)
 refine tcall (c_rnum τ _ r.sl (by simp [wrL_len,superBase]) r.none_iff (by omega) 8 4 m (by omega) (by omega) (by omega)) ?_
 rintro _ ae ⟨I,J,rfl,t,i⟩
 have Q:=t.size
 refine dSl_i ?_
 refine tcall (c_rseal τ _ i.sl (by simp [wrL_len,superBase]) i.none_iff (by omega) i.le (by omega)) ?_
 rintro _ af ⟨a6,c6,rfl,u,z⟩
 have R:=u.size
 refine dT2 (dSl_i (dInt_i ?_))
 refine ret_t ?_
 exact ⟨a6,c6,rfl,(((((((((((Ch.refl [τ] s).ch A (by simp)).ch k (by simp)).ch w (by simp)).on_new a (by omega)).ch c (by simp)).ch d (by simp)).ch e (by simp)).ch f (by simp)).ch t (by simp)).ch u (by simp)),z⟩
end Go.Proofs.YtkaikaodhegmhaaGreat.E
namespace Go.Proofs.YtkaikaodhegmhaaGreat.E
open Go Go.Proofs
set_option linter.unusedVariables false
set_option linter.unusedSimpArgs false
def ev (e:Nat×ByteArray):List Value:=[.int .i64 (e.1:Int),.string e.2]
end Go.Proofs.YtkaikaodhegmhaaGreat.E
namespace Go.Proofs.YtkaikaodhegmhaaGreat.E
open Go Go.Proofs
set_option linter.unusedVariables false
set_option linter.unusedSimpArgs false
def canG (a b c:Int):Prop:=(1<=a/\a<=8)/\(8<=b/\b<=256)/\(4<=c/\c<=64)/\c%4=0/\3+c/4<=b
instance (a b c : Int) : Decidable (canG a b c) := by unfold canG; infer_instance
theorem tdiv4 {c:Int} (h:0<=c):c.tdiv 4=c/4:=Int.tdiv_eq_ediv_of_nonneg h
theorem tmod4 {c:Int} (h:0<=c):c.tmod 4=c%4:=Int.tmod_eq_emod_of_nonneg h
theorem wr_tq {a b m:Int} {k:Int->Prop} (h:a.tdiv b=m) (hm: -9223372036854775808<=m/\m<=9223372036854775807) (hk:k m):wr .i64 (a.tdiv b) k:=wr_t (by rw [h];exact hm) (by rw [h];exact hk)
theorem mul_le {a b c d:Int} (h0:0<=a) (h1:a<=c) (h2:0<=b) (h3:b<=d):0<=a*b/\a*b<=c*d:=
 ⟨Int.mul_nonneg h0 h2,Int.mul_le_mul h1 h3 h2 (Int.le_trans h0 h1)⟩
theorem gc_between (n l m:Int) (s:TH):TRet Tryz.prog 110 #[.int .i64 n,.int .i64 l,.int .i64 m] s fun v s'=>v=.bool (decide (l<=n/\n<=m))/\Ch [] s s':=by
 refine F110_calls _ _ _  ?_
 unfold F110
 refine sB_d (fun hsB1=>?_) (fun hsB1=>?_)
 ·refine ret_t ?_
  exact ⟨ret_b (by simp<;>omega),(Ch.refl [] s)⟩
 refine ret_t ?_
 exact ⟨ret_b (by simp<;>omega),(Ch.refl [] s)⟩
theorem gc_front (a b c:Int) (hc:0<=c/\c<=1000) (s:TH):TRet Tryz.prog 111 #[.agg #[.int .i64 a,.int .i64 b,.int .i64 c]] s fun v s'=>v=.int .i64 (2+c/4)/\Ch [] s s':=by
 refine F111_calls _ _ _  ?_
 unfold F111
 refine al_t 0 fun r1 s2 hr1 b_1 c_2 z_3=>?_
 refine ld_t b_1 rfl ?_
 refine dInt_i ?_
 refine ask_t (by decide) ?_
 refine wr_tq (tdiv4 hc.1) (by omega) ?_
 refine wr_t (by omega) ?_
 refine ret_t ?_
 exact ⟨rfl,((Ch.refl [] s).ch c_2 (by simp))⟩
theorem gc_can (a b c:Int)  (s:TH):TRet Tryz.prog 43 #[.agg #[.int .i64 a,.int .i64 b,.int .i64 c]] s fun v s'=>v=.int .i64 (if canG a b c then 0 else 170)/\Ch [] s s':=by
 refine F43_calls _ _ _  ?_
 unfold F43
 refine al_t 0 fun r1 s2 hr1 b_1 c_2 z_3=>?_
 refine jn_u ?_
 refine ld_t b_1 rfl ?_
 refine dInt_i ?_
 refine tcall (gc_between _ _ _ _) ?_
 rintro _ s58 ⟨rfl,c_4⟩
 have z_5:=c_4.size
 refine dBl_i ?_
 first|refine sB_d (fun hsB1=>?_) (fun hsB1=>?_)|refine sB_nd (fun hsB1=>?_) (fun hsB1=>?_)|refine sB_n (fun hsB1=>?_) (fun hsB1=>?_)|refine sB_i (fun hsB1=>?_) (fun hsB1=>?_)
 ·have r1_6:=b_1.ch c_4 (by simp)
  refine ld_t r1_6 rfl ?_
  refine dInt_i ?_
  refine tcall (gc_between _ _ _ _) ?_
  rintro _ s63 ⟨rfl,c_7⟩
  have z_8:=c_7.size
  refine dBl_i ?_
  first|refine sB_d (fun hsB2=>?_) (fun hsB2=>?_)|refine sB_nd (fun hsB2=>?_) (fun hsB2=>?_)|refine sB_n (fun hsB2=>?_) (fun hsB2=>?_)|refine sB_i (fun hsB2=>?_) (fun hsB2=>?_)
  ·have r1_9:=r1_6.ch c_7 (by simp)
   refine ld_t r1_9 rfl ?_
   refine dInt_i ?_
   refine tcall (gc_between _ _ _ _) ?_
   rintro _ s68 ⟨rfl,c_10⟩
   have z_11:=c_10.size
   refine dBl_i ?_
   iterate 13 intro _
   refine dBl_i ?_
   refine jn_u ?_
   first|refine sB_d (fun hsB3=>?_) (fun hsB3=>?_)|refine sB_nd (fun hsB3=>?_) (fun hsB3=>?_)|refine sB_n (fun hsB3=>?_) (fun hsB3=>?_)|refine sB_i (fun hsB3=>?_) (fun hsB3=>?_)
   ·iterate 15 intro _
    refine dBl_i ?_
    refine sB_t (by rfl) ?_
    refine ret_t ?_
    exact ⟨ret_i (by first|rw [if_pos (by unfold canG;omega)]|rw [if_neg (by unfold canG;omega)]),(((((Ch.refl [] s).ch c_2 (by simp)).ch c_4 (by simp)).ch c_7 (by simp)).ch c_10 (by simp))⟩
   have r1_12:=r1_9.ch c_10 (by simp)
   refine ld_t r1_12 rfl ?_
   refine dInt_i ?_
   refine ask_t (by decide) ?_
   refine nm_t (tmod4 (by omega)) ?_
   refine sB_ne (fun hsB5=>?_) (fun hsB5=>?_)
   ·iterate 15 intro _
    refine dBl_i ?_
    refine sB_t (by rfl) ?_
    refine ret_t ?_
    exact ⟨ret_i (by first|rw [if_pos (by unfold canG;omega)]|rw [if_neg (by unfold canG;omega)]),(((((Ch.refl [] s).ch c_2 (by simp)).ch c_4 (by simp)).ch c_7 (by simp)).ch c_10 (by simp))⟩
   refine ld_t r1_12 rfl ?_
   refine dInt_i ?_
   refine ld_t r1_12 rfl ?_
   refine ld_t r1_12 rfl ?_
   refine ld_t r1_12 rfl ?_
   refine tcall (gc_front _ _ _ (by omega) _) ?_
   rintro _ s47 ⟨rfl,c_13⟩
   have z_14:=c_13.size
   refine dInt_i ?_
   refine ⟨?_,?_⟩
   ·have r1_15:=r1_12.ch c_13 (by simp)
    refine ld_t r1_15 rfl ?_
    refine dInt_i ?_
    rfl
   refine wr_t (by omega) ?_
   iterate 15 intro _
   refine dBl_i ?_
   refine sB_d (fun hsB7=>?_) (fun hsB7=>?_)
   ·refine ret_t ?_
    exact ⟨ret_i (by first|rw [if_pos (by unfold canG;omega)]|rw [if_neg (by unfold canG;omega)]),((((((Ch.refl [] s).ch c_2 (by simp)).ch c_4 (by simp)).ch c_7 (by simp)).ch c_10 (by simp)).ch c_13 (by simp))⟩
   refine ret_t ?_
   exact ⟨ret_i (by first|rw [if_pos (by unfold canG;omega)]|rw [if_neg (by unfold canG;omega)]),((((((Ch.refl [] s).ch c_2 (by simp)).ch c_4 (by simp)).ch c_7 (by simp)).ch c_10 (by simp)).ch c_13 (by simp))⟩
  iterate 13 intro _
  refine dBl_i ?_
  refine jn_u ?_
  refine sB_t (by rfl) ?_
  iterate 15 intro _
  refine dBl_i ?_
  refine sB_t (by rfl) ?_
  refine ret_t ?_
  exact ⟨ret_i (by first|rw [if_pos (by unfold canG;omega)]|rw [if_neg (by unfold canG;omega)]),((((Ch.refl [] s).ch c_2 (by simp)).ch c_4 (by simp)).ch c_7 (by simp))⟩
 iterate 13 intro _
 refine dBl_i ?_
 refine jn_u ?_
 refine sB_t (by rfl) ?_
 iterate 15 intro _
 refine dBl_i ?_
 refine sB_t (by rfl) ?_
 refine ret_t ?_
 exact ⟨ret_i (by first|rw [if_pos (by unfold canG;omega)]|rw [if_neg (by unfold canG;omega)]),(((Ch.refl [] s).ch c_2 (by simp)).ch c_4 (by simp))⟩
theorem gc_rcan (a b c:Int)  (s:TH):TRet Tryz.prog 78 #[.agg #[.int .i64 a,.int .i64 b,.int .i64 c]] s fun v s'=>v=.int .i64 (if canG a b c then 0 else 170)/\Ch [] s s':=by
 refine F78_calls _ _ _  ?_
 unfold F78
 refine al_t 0 fun r1 s2 hr1 b_1 c_2 z_3=>?_
 refine jn_u ?_
 refine ld_t b_1 rfl ?_
 refine dInt_i ?_
 refine sB_d (fun hsB1=>?_) (fun hsB1=>?_)
 ·iterate 42 intro _
  refine dBl_i ?_
  refine sB_t (by rfl) ?_
  refine ret_t ?_
  exact ⟨ret_i (by first|rw [if_pos (by unfold canG;omega)]|rw [if_neg (by unfold canG;omega)]),((Ch.refl [] s).ch c_2 (by simp))⟩
 refine ld_t b_1 rfl ?_
 refine dInt_i ?_
 refine sB_d (fun hsB3=>?_) (fun hsB3=>?_)
 ·iterate 42 intro _
  refine dBl_i ?_
  refine sB_t (by rfl) ?_
  refine ret_t ?_
  exact ⟨ret_i (by first|rw [if_pos (by unfold canG;omega)]|rw [if_neg (by unfold canG;omega)]),((Ch.refl [] s).ch c_2 (by simp))⟩
 refine ld_t b_1 rfl ?_
 refine dInt_i ?_
 refine sB_d (fun hsB5=>?_) (fun hsB5=>?_)
 ·iterate 42 intro _
  refine dBl_i ?_
  refine sB_t (by rfl) ?_
  refine ret_t ?_
  exact ⟨ret_i (by first|rw [if_pos (by unfold canG;omega)]|rw [if_neg (by unfold canG;omega)]),((Ch.refl [] s).ch c_2 (by simp))⟩
 refine ld_t b_1 rfl ?_
 refine dInt_i ?_
 refine sB_d (fun hsB7=>?_) (fun hsB7=>?_)
 ·iterate 42 intro _
  refine dBl_i ?_
  refine sB_t (by rfl) ?_
  refine ret_t ?_
  exact ⟨ret_i (by first|rw [if_pos (by unfold canG;omega)]|rw [if_neg (by unfold canG;omega)]),((Ch.refl [] s).ch c_2 (by simp))⟩
 refine ld_t b_1 rfl ?_
 refine dInt_i ?_
 refine sB_d (fun hsB9=>?_) (fun hsB9=>?_)
 ·iterate 42 intro _
  refine dBl_i ?_
  refine sB_t (by rfl) ?_
  refine ret_t ?_
  exact ⟨ret_i (by first|rw [if_pos (by unfold canG;omega)]|rw [if_neg (by unfold canG;omega)]),((Ch.refl [] s).ch c_2 (by simp))⟩
 refine ld_t b_1 rfl ?_
 refine dInt_i ?_
 refine sB_d (fun hsB11=>?_) (fun hsB11=>?_)
 ·iterate 42 intro _
  refine dBl_i ?_
  refine sB_t (by rfl) ?_
  refine ret_t ?_
  exact ⟨ret_i (by first|rw [if_pos (by unfold canG;omega)]|rw [if_neg (by unfold canG;omega)]),((Ch.refl [] s).ch c_2 (by simp))⟩
 refine ld_t b_1 rfl ?_
 refine dInt_i ?_
 refine ask_t (by decide) ?_
 refine nm_t (tmod4 (by omega)) ?_
 refine sB_ne (fun hsB13=>?_) (fun hsB13=>?_)
 ·iterate 42 intro _
  refine dBl_i ?_
  refine sB_t (by rfl) ?_
  refine ret_t ?_
  exact ⟨ret_i (by first|rw [if_pos (by unfold canG;omega)]|rw [if_neg (by unfold canG;omega)]),((Ch.refl [] s).ch c_2 (by simp))⟩
 refine ld_t b_1 rfl ?_
 refine dInt_i ?_
 refine ld_t b_1 rfl ?_
 refine dInt_i ?_
 refine ask_t (by decide) ?_
 refine wr_tq (tdiv4 (by omega)) (by omega) ?_
 refine wr_t (by omega) ?_
 iterate 42 intro _
 refine dBl_i ?_
 refine sB_d (fun hsB15=>?_) (fun hsB15=>?_)
 ·refine ret_t ?_
  exact ⟨ret_i (by first|rw [if_pos (by unfold canG;omega)]|rw [if_neg (by unfold canG;omega)]),((Ch.refl [] s).ch c_2 (by simp))⟩
 refine ret_t ?_
 exact ⟨ret_i (by first|rw [if_pos (by unfold canG;omega)]|rw [if_neg (by unfold canG;omega)]),((Ch.refl [] s).ch c_2 (by simp))⟩
theorem gc_all (a b c:Int) (e:Int) (hv:canG a b c) (he:0<=e/\e<=10000) (s:TH):TRet Tryz.prog 112 #[.agg #[.int .i64 a,.int .i64 b,.int .i64 c],.int .i64 e] s fun v s'=>v=.int .i64 (a*e)/\Ch [] s s':=by
 refine F112_calls _ _ _ _  ?_
 unfold F112
 refine al_t 0 fun r1 s2 hr1 b_1 c_2 z_3=>?_
 refine ld_t b_1 rfl ?_
 refine ld_t b_1 rfl ?_
 refine ld_t b_1 rfl ?_
 refine tcall (gc_can _ _ _ _) ?_
 rintro _ s7 ⟨rfl,c_4⟩
 have z_5:=c_4.size
 rw [if_pos hv]
 refine dInt_i ?_
 refine sB_f rfl ?_
 have r1_6:=b_1.ch c_4 (by simp)
 refine ld_t r1_6 rfl ?_
 refine dInt_i ?_
 refine wr_t (by unfold canG at hv;have:=mul_le (a:=a) (b:=e) (c:=8) (d:=10000) (by omega) (by omega) he.1 he.2;omega) ?_
 refine ret_t ?_
 exact ⟨rfl,(((Ch.refl [] s).ch c_2 (by simp)).ch c_4 (by simp))⟩
theorem gc_blocks (a b c:Int) (hv:canG a b c)  (s:TH):TRet Tryz.prog 44 #[.agg #[.int .i64 a,.int .i64 b,.int .i64 c]] s fun v s'=>v=.int .i64 (a*b)/\Ch [] s s':=by
 refine F44_calls _ _ _  ?_
 unfold F44
 refine al_t 0 fun r1 s2 hr1 b_1 c_2 z_3=>?_
 refine ld_t b_1 rfl ?_
 refine ld_t b_1 rfl ?_
 refine ld_t b_1 rfl ?_
 refine ld_t b_1 rfl ?_
 refine dInt_i ?_
 refine tcall (gc_all _ _ _ _ hv (by first|omega|(unfold canG at hv;omega)) _) ?_
 rintro _ s9 ⟨rfl,c_4⟩
 have z_5:=c_4.size
 refine dInt_i ?_
 refine ret_t ?_
 exact ⟨rfl,(((Ch.refl [] s).ch c_2 (by simp)).ch c_4 (by simp))⟩
-- no form: bollard/geom.Super
-- no form: bollard/geom.Data
theorem gc_rblocks (a b c:Int) (hv:canG a b c)  (s:TH):TRet Tryz.prog 28 #[.agg #[.int .i64 a,.int .i64 b,.int .i64 c]] s fun v s'=>v=.int .i64 (a*b)/\Ch [] s s':=by
 have hab:=mul_le (a:=a) (b:=b) (c:=8) (d:=256) (by unfold canG at hv;omega) (by unfold canG at hv;omega) (by unfold canG at hv;omega) (by unfold canG at hv;omega)
 refine F28_calls _ _ _  ?_
 unfold F28
 refine al_t 0 fun r1 s2 hr1 b_1 c_2 z_3=>?_
 refine ld_t b_1 rfl ?_
 refine ld_t b_1 rfl ?_
 refine ld_t b_1 rfl ?_
 refine tcall (gc_rcan _ _ _ _) ?_
 rintro _ s7 ⟨rfl,c_4⟩
 have z_5:=c_4.size
 rw [if_pos hv]
 refine dInt_i ?_
 refine sB_f rfl ?_
 have r1_6:=b_1.ch c_4 (by simp)
 refine ld_t r1_6 rfl ?_
 refine dInt_i ?_
 refine ld_t r1_6 rfl ?_
 refine dInt_i ?_
 refine wr_t (by omega) ?_
 refine ret_t ?_
 exact ⟨rfl,(((Ch.refl [] s).ch c_2 (by simp)).ch c_4 (by simp))⟩
-- no form: bollard/bollardref04.Group
-- no form: bollard/bollardref04.IsData
end Go.Proofs.YtkaikaodhegmhaaGreat.E
namespace Go.Proofs.YtkaikaodhegmhaaGreat.E
open Go Go.Proofs Go.RowKit Go.Maps Go.Shelf Go.Sort
set_option linter.unusedVariables false
set_option linter.unusedSimpArgs false
def remarkF (s:TH) (φ:Nat->Nat):TH:=⟨s.h,fun j=>φ (s.g j)⟩
theorem remarkF_ch {T:List Nat} {s s':TH} {M:Nat} {φ:Nat->Nat} (c:Ch T s s') (hM: ∀j,j<s.h.size->s.g j<M) (hφ: ∀m,m<M->φ m=m):Ch T s (remarkF s' φ):=
 ⟨c.size,fun j hj=>by show φ (s'.g j)=s.g j;rw [c.tag j hj];exact hφ _ (hM j hj),c.get⟩
section
variable {s :TH} {φ:Nat->Nat}
theorem Blk.rf {r:Nat} {l:List Value} {t τ:Nat} (h:Blk s r l t τ):Blk (remarkF s φ) r l t (φ τ):=⟨h.get,congrArg φ h.tag⟩
theorem Sl.rf {a:Option Addr} {l:List Value} {τ:Nat} (h:Sl s a l τ):Sl (remarkF s φ) a l (φ τ):=by
 rcases h with h|⟨g,o,h1,h2,h3,h4⟩
 ·exact .inl h
 exact .inr ⟨g,o,h1,h2,congrArg φ h3,h4⟩
theorem Own.rf {a:Option Addr} {n c e k:Nat} {xs:List Value} {τ:Nat} (h:Own s a n c e k xs τ):Own (remarkF s φ) a n c e k xs (φ τ):=by
 refine ⟨h.1,h.2.imp id ?_⟩
 rintro ⟨g,o,L,h1,h2,h3⟩
 exact ⟨g,o,L,h1,h2.rf,h3⟩
theorem ByAt.rf {τ:Nat} {p:Hd} {b:List UInt8} (h:ByAt s τ p b):ByAt (remarkF s φ) (φ τ) p b:=⟨h.sl.rf,h.len⟩
theorem BRel.rf {τ:Nat} {hs:List Hd} {bs:List (List UInt8)} (h:BRel s τ hs bs):BRel (remarkF s φ) (φ τ) hs bs:=⟨h.len,fun i p b h1 h2=>(h.at_ i p b h1 h2).rf⟩
end
structure B2 (s:TH) (τa τb:Nat) (hs:List Hd) (bs:List (List UInt8)):Prop where
 len:hs.length=bs.length
 at_: ∀(i:Nat) (p:Hd) (b:List UInt8),i≠2->hs[i]? =some p->bs[i]? =some b->ByAt s τb p b
 two: ∀(p:Hd) (b:List UInt8),hs[2]? =some p->bs[2]? =some b->b.length=128/\Own s p.1 128 p.2 5 1 (bvs b) τa
theorem B2.ch {s s':TH} {τa τb:Nat} {hs:List Hd} {bs:List (List UInt8)} {T:List Nat} (h:B2 s τa τb hs bs) (c:Ch T s s') (ha:τa∉T) (hb:τb∉T):B2 s' τa τb hs bs:=
 ⟨h.len,fun i p b h0 h1 h2=>(h.at_ i p b h0 h1 h2).mv c (tagn hb),fun p b h1 h2=>⟨(h.two p b h1 h2).1,(h.two p b h1 h2).2.mv c (tagn ha)⟩⟩
theorem B2.rf {s:TH} {φ:Nat->Nat} {τa τb:Nat} {hs:List Hd} {bs:List (List UInt8)} (h:B2 s τa τb hs bs):B2 (remarkF s φ) (φ τa) (φ τb) hs bs:=
 ⟨h.len,fun i p b h0 h1 h2=>(h.at_ i p b h0 h1 h2).rf,fun p b h1 h2=>⟨(h.two p b h1 h2).1,(h.two p b h1 h2).2.rf⟩⟩
theorem B2.brel {s:TH} {τ:Nat} {hs:List Hd} {bs:List (List UInt8)} (h:B2 s τ τ hs bs):BRel s τ hs bs:=⟨h.len,fun i p b h1 h2=>by
 by_cases e:i=2
 ·subst e;exact ⟨(h.two p b h1 h2).2.sl,(h.two p b h1 h2).1⟩
 exact h.at_ i p b e h1 h2⟩
theorem B2.snoc {s:TH} {τa τb:Nat} {hs:List Hd} {bs:List (List UInt8)} (h:B2 s τa τb hs bs) {p:Hd} {b:List UInt8} (hl:b.length=128) (ho:Own s p.1 128 p.2 5 1 (bvs b) (if hs.length=2 then τa else τb)):B2 s τa τb (hs++[p]) (bs++[b]):=by
 have e:=h.len
 refine ⟨by simp [e],fun i q x h0 h1 h2=>?_,fun q x h1 h2=>?_⟩
 ·rcases Nat.lt_trichotomy i hs.length with h3|h3|h3
  ·rw [List.getElem?_append_left h3] at h1;rw [List.getElem?_append_left (by omega)] at h2;exact h.at_ i q x h0 h1 h2
  ·subst h3
   rw [if_neg h0] at ho
   rw [List.getElem?_append_right (Nat.le_refl _),Nat.sub_self] at h1
   rw [List.getElem?_append_right (by omega),e,Nat.sub_self] at h2
   simp at h1 h2;subst h1 h2;exact ⟨ho.sl,hl⟩
  rw [List.getElem?_eq_none (by simp;omega)] at h1;cases h1
 rcases Nat.lt_trichotomy 2 hs.length with h3|h3|h3
 ·rw [List.getElem?_append_left h3] at h1;rw [List.getElem?_append_left (by omega)] at h2;exact h.two q x h1 h2
 ·rw [if_pos h3.symm] at ho
  rw [List.getElem?_append_right (by omega), ←h3,Nat.sub_self] at h1
  rw [List.getElem?_append_right (by omega), ←e, ←h3,Nat.sub_self] at h2
  simp at h1 h2;subst h1 h2;exact ⟨hl,ho⟩
 rw [List.getElem?_eq_none (by simp;omega)] at h1;cases h1
theorem B2.app {s:TH} {τa τb:Nat} {hs hs':List Hd} {bs bs':List (List UInt8)} (h:B2 s τa τb hs bs) (k:BRel s τb hs' bs') (h3:3<=hs.length):B2 s τa τb (hs++hs') (bs++bs'):=by
 have e:=h.len
 refine ⟨by simp [e,k.len],fun i q x h0 h1 h2=>?_,fun q x h1 h2=>?_⟩
 ·by_cases h4:i<hs.length
  ·rw [List.getElem?_append_left h4] at h1;rw [List.getElem?_append_left (by omega)] at h2;exact h.at_ i q x h0 h1 h2
  rw [List.getElem?_append_right (by omega)] at h1;rw [List.getElem?_append_right (by omega), ←e] at h2;exact k.at_ _ q x h1 h2
 rw [List.getElem?_append_left (by omega)] at h1;rw [List.getElem?_append_left (by omega)] at h2;exact h.two q x h1 h2
def hdL (n:Nat) (il bl:List UInt8):List UInt8:=[104,100,UInt8.ofNat n,0]++il++bl++List.replicate 84 0
theorem c_pimage (τo τr:Nat) {xa:Option Addr} {n:Nat} (xc:Nat) {hs:List Hd} {bs:List (List UInt8)} {τx τb:Nat} {s:TH} (hq:Sl s xa (hs.flatMap hd1) τx) (hb:BRel s τb hs bs) (hn:hs.length=n) (hn2:1<=n/\n<=2048):TRet Tryz.prog 21 #[.slice xa n xc] s fun v s'=>∃a c hs',v=.slice a n c/\Ch [] s s'/\Own s' a n c 49 1 (hs'.flatMap hd1) τo/\BRel s' τr hs' bs:=by
 obtain ⟨M,hM,hM0,hMa,hMb,hMc,hMd,hMe,hMf⟩:=fresh6 s τx τb τo τr 0 0
 refine F21_calls _ _ _  ?_
 unfold F21
 refine ⟨fun vs H'=>∃s':TH,s'.h=H'/\∃pa pn pc i,vs=[.slice pa pn pc,.int .i64 i]/\Ch [M+5] s s'/\(∃(kk:Nat) (hs':List Hd),i=kk/\kk<=n/\pn=kk/\Own s' pa pn pc 49 1 (hs'.flatMap hd1) (M+5)/\BRel s' (M+6) hs' (bs.take kk)),fun vs H'=>match vs with|[.slice pa pn pc,.int .i64 i]=>((n:Int) - i).toNat|_=>0,⟨s,rfl,_,_,_,_,rfl,Ch.refl _ _,?_⟩,?_⟩
 ·exact ⟨0,[],rfl,by omega,rfl,Own.nil _ _ _ _,BRel.nil _ _⟩
 intro pa pn pc i
 iterate 10 intro _
 intro H_ hI_2
 obtain ⟨H,rfl,pa_,pn_,pc_,i_,hvs,g,kk,hs',rfl,hk,rfl,ho,hb2⟩:=hI_2
 cases hvs
 have P:=g.size
 refine sB_d (fun w=>?_) (fun w=>?_)
 ·have hk2:pn<n:=by omega
  obtain ⟨x,hx⟩: ∃x,hs[pn]? =some x:=⟨hs[pn]'(by omega),by simp⟩
  obtain ⟨y,hy⟩: ∃y,bs[pn]? =some y:=⟨bs[pn]'(by rw [←hb.len];omega),by simp⟩
  obtain ⟨ax,rfl⟩:=hq.some (fun e=>by have:=bcell hx;rw [e] at this;simp at this)
  refine nz_i (ask_t (by omega) ?_)
  have I:=hq.mv g (tagn (by simp<;>omega))
  refine ld_sl (v:=.slice x.1 128 x.2) I (by rw [Int.toNat_natCast,Nat.mul_one];exact bcell hx) ?_
  refine dSl_i ?_
  have j:=hb.mv g (tagn (by simp<;>omega))
  refine tcall (c_clone (M+6) _ ((j).at_ _ _ _ hx hy).sl ((j).at_ _ _ _ hx hy).len (fun h=>by obtain ⟨z,hz⟩:=((j).at_ _ _ _ hx hy).ne;rw [h] at hz;cases hz) (by omega)) ?_
  rintro Q R ⟨l,o,rfl,b,p,J⟩
  have K:=b.size
  refine dSl_i ?_
  refine al_t (M+9) fun S U L A d N=>?_
  have q:=ho.mv (b.app d) (tagn (by simp))
  refine app_i u22 in49 rfl q (A).sl (m:=1) (k:=1) rfl (by intro u hu;simp at hu;subst hu;rfl) (by simp) (by unfold maxLen;omega) fun B pa2 pc2 C t _=>?_
  have f:=t.ch q (T:=[M+5]) (by simp)
  have O:=f.size
  refine dSl_i (wr_t (by omega) ?_)
  have D:=(((g.app b).app d).app f)
  refine ⟨⟨B,rfl,_,_,_,_,rfl,((Ch.refl [M+5] s).ch D (by simp)),?_⟩,?_⟩
  ·have r:=((b.app d).app f)
   have E:=hb2.mv r (tagn (by simp))
   have F:=p.mv (d.app f) (tagn (by simp))
   have G:=j.mv r (tagn (by simp<;>omega))
   exact ⟨pn+1,hs'++[(l,o)],by omega,by omega,rfl,by have h:=C;simpa [hd1] using h,by rw [List.take_add_one,hy];exact (E).snoc ⟨(F).sl,((G).at_ _ _ _ hx hy).len⟩⟩
  simp only [];omega
 obtain rfl:pn=n:=by omega
 obtain ⟨φ,hφ⟩: ∃φ:Nat->Nat,φ=fun m=>if m=M+5 then τo else if m=M+6 then τr else m:=⟨_,rfl⟩
 have f5:φ (M+5)=τo:=by subst hφ;exact if_pos rfl
 have f6:φ (M+6)=τr:=by subst hφ;simp
 have h1:=(ho).rf (φ:=φ)
 have h2:=(hb2).rf (φ:=φ)
 rw [f5] at h1
 rw [f6,List.take_of_length_le (by rw [←hb.len];omega)] at h2
 exact ret_t' (s':=remarkF H φ) rfl ⟨_,_,_,rfl,remarkF_ch ((Ch.refl [] s).fr g hM (by simp)) hM (fun m hm=>by subst hφ;simp only;rw [if_neg (by omega),if_neg (by omega)]),h1,h2⟩
theorem c_copied {xa:Option Addr} {xn:Nat} (xc:Nat) {l:List UInt8} {τx:Nat} {s:TH} (hx:Sl s xa (bvs l) τx) (hn:l.length=xn) (hb:xn<=1000000000):TRet Tryz.prog 55 #[.slice xa xn xc] s fun v s'=>∃a c,v=.slice a xn c/\Ch [] s s':=by
 obtain ⟨M,hM,hM0,hMa,hMb,hMc,hMd,hMe,hMf⟩:=fresh6 s τx 0 0 0 0 0
 refine F55_calls _ _ _  ?_
 unfold F55
 refine al_t (M+1) fun r1 s2 g e b h=>?_
 have f:=hx.mv b (tagn (by simp))
 refine app_bv (xs:=[]) u49 in5 ((e).own0 1) f hn (by omega) fun i a1 c1 j d=>?_
 have k:=d.size
 refine dSl_i ?_
 refine ret_t ?_
 exact ⟨_,_,by rw [Nat.zero_add],(((Ch.refl [] s).ch b (by simp)).fr d hM (by simp))⟩
theorem c_rof {xa:Option Addr} {n:Nat} (xc:Nat) {hs:List Hd} {bs:List (List UInt8)} {τx τb:Nat} {s:TH} (hq:Sl s xa (hs.flatMap hd1) τx) (hb:BRel s τb hs bs) (hn:hs.length=n) (hn2:1<=n/\n<=2048):TRet Tryz.prog 22 #[.slice xa n xc] s fun v s'=>∃d,v=.tuple #[.pointer (some ⟨d,0,none⟩),.int .i64 0]/\Ch [] s s':=by
 obtain ⟨M,hM,hM0,hMa,hMb,hMc,hMd,hMe,hMf⟩:=fresh6 s τx τb 0 0 0 0
 refine F22_calls _ _ _  ?_
 unfold F22
 refine jn_u ?_
 refine sB_d (fun C=>by exfalso;omega) (fun C=>?_)
 intro _
 intros
 refine dBl_i ?_
 refine sB_d (fun D=>by exfalso;omega) (fun D=>?_)
 refine ask_t (by omega) ?_
 refine al_t (M+1) fun P af U ag A ah=>?_
 refine al_t (M+2) fun Q g V R B ai=>?_
 refine ⟨fun vs H'=>∃s':TH,s'.h=H'/\∃i,vs=[.int .i64 i]/\Ch [M+2,M+5] g s'/\(∃(kk:Nat) (hs':List Hd) (pa:Option Addr) (pc:Nat),i=kk/\kk<=n/\Blk s' Q [.slice pa kk pc,.slice none 0 0,.slice (some ⟨P,0,none⟩) n n,.int .i64 0] 123 (M+2)/\Own s' pa kk pc 49 1 (hs'.flatMap hd1) (M+5)),fun vs H'=>match vs with|[.int .i64 i]=>((n:Int) - i).toNat|_=>0,⟨g,rfl,_,rfl,Ch.refl _ _,?_⟩,?_⟩
 ·exact ⟨0,[],none,0,rfl,by omega,R,Own.nil _ _ _ _⟩
 intro i
 iterate 21 intro _
 intro H_ hI_8
 obtain ⟨aj,rfl,i_,hvs,f,kk,hs',pa,pc,rfl,hk,hr,ho⟩:=hI_8
 cases hvs
 have W:=f.size
 refine sB_d (fun E=>?_) (fun E=>?_)
 ·have hk2:kk<n:=by omega
  obtain ⟨x,hx⟩: ∃x,hs[kk]? =some x:=⟨hs[kk]'(by omega),by simp⟩
  obtain ⟨y,hy⟩: ∃y,bs[kk]? =some y:=⟨bs[kk]'(by rw [←hb.len];omega),by simp⟩
  obtain ⟨ax,rfl⟩:=hq.some (fun e=>by have:=bcell hx;rw [e] at this;simp at this)
  refine nz_i (ask_t (by omega) ?_)
  have j:=((A.app B).app f)
  have F:=hq.mv j (tagn (by simp<;>omega))
  refine ld_sl (v:=.slice x.1 128 x.2) F (by rw [Int.toNat_natCast,Nat.mul_one];exact bcell hx) ?_
  refine dSl_i (sB_f (by rfl) (ld_t hr rfl (dSl_i ?_)))
  have l:=hb.mv j (tagn (by simp<;>omega))
  refine tcall (c_copied _ ((l).at_ _ _ _ hx hy).sl ((l).at_ _ _ _ hx hy).len (by omega)) ?_
  rintro X Y ⟨o,p,rfl,a⟩
  have Z:=a.size
  refine dSl_i ?_
  refine ⟨?_,?_⟩
  ·have G:=hr.ch a (by simp)
   refine ld_t G rfl (dSl_i ?_)
   rfl
  refine al_t (M+9) fun ak al aa H b ab=>?_
  refine ⟨?_,?_⟩
  ·have I:=hr.ch (a.app b) (by simp)
   refine ld_t I rfl (dSl_i ?_)
   rfl
  have q:=ho.mv (a.app b) (tagn (by simp))
  refine app_i u22 in49 rfl q (H).sl (m:=1) (k:=1) rfl (by intro u hu;simp at hu;subst hu;rfl) (by simp) (by unfold maxLen;omega) fun ac pa2 pc2 J w _=>?_
  have c:=w.ch q (T:=[M+5]) (by simp)
  have ad:=c.size
  refine dSl_i ?_
  have K:=((a.app b).app c)
  have r:=hr.ch K (by simp)
  refine st_t r rfl (by simp) fun S L z ae=>?_
  have t:=on_ch r z
  refine wr_t (by omega) ?_
  have N:=((((f.app a).app b).app c).app t)
  refine ⟨⟨S,rfl,_,rfl,((Ch.refl [M+2,M+5] g).ch N (by simp)),?_⟩,?_⟩
  ·have O:=J.mv t (tagn (by simp))
   exact ⟨kk+1,hs'++[(o,p)],_,_,by omega,by omega,L,by have h:=O;simpa [hd1] using h⟩
  simp only [];omega
 refine ret_t ?_
 exact ⟨_,rfl,((((Ch.refl [] s).ch A (by simp)).ch B (by simp)).fr f hM (by simp))⟩
theorem c_r6new (d:Nat) (b:Int) (s:TH) (hb:1<=b/\b<=64):TRet Tryz.prog 81 #[.pointer (some ⟨d,0,none⟩),.int .i64 b] s fun v s'=>∃c,v=.tuple #[.pointer (some ⟨c,0,none⟩),.int .i64 0]/\Ch [] s s':=by
 obtain ⟨M,hM,hM0,hMa,hMb,hMc,hMd,hMe,hMf⟩:=fresh6 s 0 0 0 0 0 0
 refine F81_calls _ _  ?_
 unfold F81
 refine sB_f (by rfl) ?_
 refine jn_u ?_
 refine sB_d (fun a=>by exfalso;omega) (fun a=>?_)
 intro _
 intros
 refine dBl_i ?_
 refine sB_d (fun e=>by exfalso;omega) (fun e=>?_)
 refine al_t (M+1) fun r9 g h i f j=>?_
 refine ret_t ?_
 exact ⟨_,rfl,((Ch.refl [] s).ch f (by simp))⟩
theorem c_r9open (d:Nat) (b:Int) (s:TH) (hb:1<=b/\b<=64):TRet Tryz.prog 30 #[.pointer (some ⟨d,0,none⟩),.int .i64 b] s fun v s'=>∃c,v=.tuple #[.pointer (some ⟨c,0,none⟩),.int .i64 0]/\Ch [] s s':=by
 obtain ⟨M,hM,hM0,hMa,hMb,hMc,hMd,hMe,hMf⟩:=fresh6 s 0 0 0 0 0 0
 refine F30_calls _ _  ?_
 unfold F30
 refine sB_f (by rfl) ?_
 refine tcall (c_r6new d b _ hb) ?_
 rintro j k ⟨g,rfl,a⟩
 have l:=a.size
 refine dT2 (dPtr_i (dInt_i (sB_f (by rfl) ?_)))
 refine al_t (M+1) fun r7 s8 m n h o=>?_
 refine al_t (M+2) fun r9 p q r e i=>?_
 refine ret_t ?_
 have f:=((a.app h).app e)
 exact ⟨_,rfl,((Ch.refl [] s).ch f (by simp))⟩
end Go.Proofs.YtkaikaodhegmhaaGreat.E
namespace Go.Proofs.YtkaikaodhegmhaaGreat.E
open Go Go.Proofs Go.RowKit Go.Maps Go.Shelf Go.Sort
set_option linter.unusedVariables false
set_option linter.unusedSimpArgs false
theorem BRel.l128 {s:TH} {τ:Nat} {hs:List Hd} {bs:List (List UInt8)} (h:BRel s τ hs bs): ∀y∈bs,y.length=128:=by
 intro y hy
 obtain ⟨i,hi⟩:=List.getElem?_of_mem hy
 have hl:i<bs.length:=(List.getElem?_eq_some_iff.1 hi).1
 exact (h.at_ i (hs[i]'(by rw [h.len];exact hl)) y (by simp) hi).len
theorem c_plof (U τp:Nat) {xa:Option Addr} {n:Nat} (xc:Nat) {hs:List Hd} {bs:List (List UInt8)} {τx τb:Nat} {s:TH} (hU:10<=U) (hq:Sl s xa (hs.flatMap hd1) τx) (hb:BRel s τb hs bs) (hn:hs.length=n) (hn2:1<=n/\n<=2048) (hτ:(τx<U∨U+50<=τx)/\(τb<U∨U+50<=τb)/\(τp<U∨U+50<=τp)):TRet Tryz.prog 7 #[.slice xa n xc,.int .i64 64] s fun v s'=>∃p vp d x y,v=.tuple #[.pointer (some ⟨p,0,none⟩),.bool true]/\Ch [U+11] s s'/\Blk s' p [.pointer (some ⟨d,0,none⟩),.pointer (some ⟨vp,0,none⟩),.pointer (some ⟨x,0,none⟩),.pointer (some ⟨y,0,none⟩)] 41 τp/\VolL s' vp d U (VolM.fresh bs) 0:=by
 have hl128:=hb.l128
 obtain ⟨M,hM,hM0,hMa,hMb,hMc,hMd,hMe,hMf⟩:=fresh6 s τx τb (U+60) τp 0 0
 refine F7_calls _ _ _ _  ?_
 unfold F7
 refine al_t (M+1) fun r1 s2 ap R h aq=>?_
 have F:=hq.mv h (tagn (by simp))
 have G:=hb.mv h (tagn (by simp))
 refine tcall (c_pimage (M+10) (M+12) xc F G hn hn2) ?_
 rintro ar au ⟨S,T,Q,rfl,e,i,f⟩
 have Y:=e.size
 refine dSl_i ?_
 have hln:=(f).len
 have hlb:=hb.len
 refine tcall (c_of (U+10) _ (by omega) (i).sl f (by rw [hln, ←hlb];exact hn) hn2 (by omega) (by omega)) ?_
 rintro Z aa ⟨j,rfl,a,k⟩
 have ab:=a.size
 refine dT2 (dPtr_i (dInt_i ?_))
 have H:=F.mv (e.app a) (tagn (by simp<;>omega))
 have I:=G.mv (e.app a) (tagn (by simp<;>omega))
 refine tcall (c_rof xc H I hn hn2) ?_
 rintro ac ad ⟨l,rfl,b⟩
 have ae:=b.size
 refine dT2 (dPtr_i (dInt_i ?_))
 refine jn_u ?_
 refine sB_f (by rfl) (sB_f (by rfl) ?_)
 intro _
 intros
 refine dBl_i (sB_f (by rfl) ?_)
 have J:=k.mv b (rngn (by simp))
 refine tcall (c_vopen2 U j bs 64 _ hU J hl128 (by omega)) ?_
 rintro af ag ⟨V,rfl,g,m⟩
 have ah:=g.size
 refine dT2 (dPtr_i (dInt_i ?_))
 refine tcall (c_r9open l 64 _ (by omega)) ?_
 rintro ai aj ⟨W,rfl,c⟩
 have ak:=c.size
 refine dT2 (dPtr_i (dInt_i ?_))
 refine jn_u ?_
 refine sB_f (by rfl) ?_
 intro _
 intros
 refine dBl_i (sB_f (by rfl) (sB_f (by rfl) ?_))
 have K:=((((e.app a).app b).app g).app c)
 have o:=R.ch K (by simp<;>omega)
 refine st_t o rfl (by simp) fun av q B al=>?_
 have r:=on_ch o B
 refine st_t q rfl (by simp) fun aw t C am=>?_
 have u:=on_ch q C
 refine st_t t rfl (by simp) fun ax w D an=>?_
 have z:=on_ch t D
 refine st_t w rfl (by simp) fun X L E ao=>?_
 have A:=on_ch w E
 have N:=((b.app g).app c)
 have O:=((((c.app r).app u).app z).app A)
 have P:=m.mv O (rngn50 (by simp<;>omega))
 refine ret_t' (s':=remark X (M+1) τp) rfl ⟨_,_,_,_,_,rfl,remark_ch (((((((((Ch.refl [U+11] s).ch h (by simp)).ch e (by simp)).fr a hM (by simp<;>omega)).ch N (by simp)).fr r hM (by simp)).fr u hM (by simp)).fr z hM (by simp)).fr A hM (by simp)) hM (by omega),(L).remark,(P).keep (by omega)⟩
theorem GeoOk.can {G B N:Nat} (h:GeoOk G B N):canG (G:Int) (B:Int) (N:Int):=by unfold GeoOk at h;unfold canG;omega
theorem GeoOk.gb {G B N:Nat} (h:GeoOk G B N):8<=G*B/\G*B<=2048:=by
 unfold GeoOk at h
 have h1:1*8<=G*B:=Nat.mul_le_mul (by omega) (by omega)
 have h2:G*B<=8*256:=Nat.mul_le_mul (by omega) (by omega)
 omega
end Go.Proofs.YtkaikaodhegmhaaGreat.E
namespace Go.Proofs.YtkaikaodhegmhaaGreat.E
open Go Go.Proofs Go.RowKit Go.Maps Go.Shelf Go.Sort
set_option linter.unusedVariables false
set_option linter.unusedSimpArgs false
def hB (n B:Nat):Int:=(n:Int)*(B:Int)+1
def VolM.tk (V:VolM) (k:Int):VolM:={ V with n:=V.n+k }
theorem tk_tick (V:VolM) (k:Int):(V.tk k).tick=V.tk (k+1):=by unfold VolM.tk VolM.tick;simp only;rw [Int.add_assoc]
theorem tk_zero (V:VolM):V.tk 0=V:=by unfold VolM.tk;rw [Int.add_zero]
structure AS (G B:Nat) (V:VolM) (A:Nat->List UInt8×List UInt8):Prop where
 len:V.D.blocks.length=G*B
 l8: ∀n,n<G->(A n).1.length=8
 l32: ∀n,n<G->(A n).2.length=32
 now: ∀n,n<G->V.now (hB n B)=hdL n (A n).1 (A n).2
theorem AS.tk {G B:Nat} {V:VolM} {A:Nat->List UInt8×List UInt8} (h:AS G B V A) (k:Int):AS G B (V.tk k) A:=⟨h.len,h.l8,h.l32,h.now⟩
theorem c_beq {xa:Option Addr} {xn:Nat} (xc:Nat) {l:List UInt8} {τx:Nat} {ya:Option Addr} {yn:Nat} (yc:Nat) {m:List UInt8} {τy:Nat} {s:TH} (hx:Sl s xa (bvs l) τx) (hn:l.length=xn) (h0:xa=none->xn=0) (hy:Sl s ya (bvs m) τy) (hm:m.length=yn) (g0:ya=none->yn=0):TRet Tryz.prog 37 #[.slice xa xn xc,.slice ya yn yc] s fun v s'=>v=.bool (decide (l=m))/\Ch [] s s':=by
 refine F37_calls _ _ _ _ _ _  ?_
 unfold F37
 refine conv_bs u49 u5 (by kernel_rfl) hx hn h0 ?_
 refine dStr_i ?_
 refine conv_bs u49 u5 (by kernel_rfl) hy hm g0 ?_
 refine dStr_i ?_
 refine ret_t ?_
 exact ⟨ret_b (by simp only [ByteArray.toList_mk];by_cases h:l=m<;>simp [h]),(Ch.refl [] s)⟩
set_option maxRecDepth 100000 in
/-- slices.EqualFunc[[][]byte,[][]byte,[]byte,[]byte] -/
theorem c_eqrows {xa:Option Addr} (xc:Nat) {hs:List Hd} {τx σx:Nat} {ya:Option Addr} (yc n:Nat) {gs:List Hd} {τy σy:Nat} {bs:List (List UInt8)} (s:TH) (hx:Sl s xa (hs.flatMap hd1) τx) (hy:Sl s ya (gs.flatMap hd1) τy) (hb:BRel s σx hs bs) (gb:BRel s σy gs bs) (hn:bs.length=n) (hn2:n<=2048):TRet Tryz.prog 36 #[.slice xa n xc,.slice ya n yc,.func (.func 37) #[] #[]] s fun v s'=>v=.bool true/\Ch [] s s':=by
 have hl1:=hb.len
 have hl2:=gb.len
 refine F36_calls _ _ _ _ _ _ _ _ _  ?_
 unfold F36
 refine sB_nd (fun k=>by exfalso;omega) (fun k=>?_)
 refine ⟨fun vs H'=>∃s':TH,s'.h=H'/\∃i,vs=[.int .i64 i]/\Ch [] s s'/\(∃kk:Nat,i=kk/\kk<=n),fun vs H'=>match vs with|[.int .i64 i]=>((n:Int) - i).toNat|_=>0,⟨s,rfl,_,rfl,Ch.refl _ _,?_⟩,?_⟩
 ·exact ⟨0,rfl,by omega⟩
 intro i
 iterate 18 intro _
 intro H_ hI_2
 obtain ⟨w,rfl,i_,hvs,c,kk,rfl,hk⟩:=hI_2
 cases hvs
 have x:=c.size
 refine sB_d (fun l=>?_) (fun l=>?_)
 ·obtain ⟨p,hp⟩: ∃p,hs[kk]? =some p:=⟨hs[kk]'(by omega),by simp⟩
  obtain ⟨q,hq⟩: ∃q,gs[kk]? =some q:=⟨gs[kk]'(by omega),by simp⟩
  obtain ⟨bb,hbb⟩: ∃b,bs[kk]? =some b:=⟨bs[kk]'(by omega),by simp⟩
  obtain ⟨a,rfl⟩:=hx.some (fun e=>by have:=bcell hp;rw [e] at this;simp at this)
  obtain ⟨a2,rfl⟩:=hy.some (fun e=>by have:=bcell hq;rw [e] at this;simp at this)
  refine nz_i (ask_t (by omega) ?_)
  have m:=hx.mv c (tagn (by simp))
  refine ld_sl m (by rw [Int.toNat_natCast,Nat.mul_one];exact bcell hp) ?_
  refine dSl_i (nz_i (ask_t (by omega) ?_))
  have o:=hy.mv c (tagn (by simp))
  refine ld_sl o (by rw [Int.toNat_natCast,Nat.mul_one];exact bcell hq) ?_
  refine dSl_i ?_
  refine gB_i rfl ?_
  have d:=hb.mv c (tagn (by simp))
  have f:=gb.mv c (tagn (by simp))
  refine tcall (c_beq _ _ ((d).at_ _ _ _ hp hbb).sl ((d).at_ _ _ _ hp hbb).len (fun h=>by obtain ⟨y,hy⟩:=((d).at_ _ _ _ hp hbb).ne;rw [h] at hy;cases hy) ((f).at_ _ _ _ hq hbb).sl ((f).at_ _ _ _ hq hbb).len (fun h=>by obtain ⟨y,hy⟩:=((f).at_ _ _ _ hq hbb).ne;rw [h] at hy;cases hy)) ?_
  rintro t r ⟨rfl,g⟩
  have u:=g.size
  refine dBl_i ?_
  refine sB_nd (fun j=>?_) (fun j=>?_)
  ·refine ret_t ?_
   exact absurd rfl j
  refine wr_t (by omega) ?_
  refine ⟨⟨r,rfl,_,rfl,(((Ch.refl [] s).ch c (by simp)).ch g (by simp)),?_⟩,?_⟩
  ·exact ⟨kk+1,by omega,by omega⟩
  simp only [];omega
 refine ret_t ?_
 exact ⟨rfl,((Ch.refl [] s).ch c (by simp))⟩
theorem c_same {xa:Option Addr} (xc:Nat) {hs:List Hd} {τx σx:Nat} {ya:Option Addr} (yc n m:Nat) {gs:List Hd} {τy σy:Nat} {bs:List (List UInt8)} (s:TH) (hx:Sl s xa (hs.flatMap hd1) τx) (hy:Sl s ya (gs.flatMap hd1) τy) (hb:BRel s σx hs bs) (gb:BRel s σy gs bs) (hn:bs.length=n) (hm:bs.length=m) (hn2:n<=2048):TRet Tryz.prog 10 #[.slice xa n xc,.slice ya m yc] s fun v s'=>v=.bool true/\Ch [] s s':=by
 subst hn
 subst hm
 refine F10_calls _ _ _ _ _ _  ?_
 unfold F10
 refine tcall (c_eqrows xc yc _ _ hx hy hb gb rfl hn2) ?_
 rintro b c ⟨rfl,a⟩
 have d:=a.size
 refine dBl_i ?_
 refine ret_t ?_
 exact ⟨rfl,((Ch.refl [] s).ch a (by simp))⟩
def VolM.nows (V:VolM):List (List UInt8):=(List.range V.D.blocks.length).map fun (k:Nat)=>V.now (k:Int)
theorem c_pnow2 (p vp d U:Nat) (V:VolM) (vd vx vy:Value) (τp τr τb:Nat) (s:TH) (hU:10<=U) (hv:VolL s vp d U V 0) (hp:Blk s p [vd,.pointer (some ⟨vp,0,none⟩),vx,vy] 41 τp) (hn:V.n<100000000) (hτ:(τr<U∨U+50<=τr)/\(τb<U∨U+50<=τb)/\(τp<U∨U+50<=τp)):TRet Tryz.prog 11 #[.pointer (some ⟨p,0,none⟩)] s fun v s'=>∃a c hs,v=.slice a V.D.blocks.length c/\Ch [U,U+20,U+21,U+22,U+23] s s'/\Own s' a V.D.blocks.length c 49 1 (hs.flatMap hd1) τr/\BRel s' τb hs V.nows/\VolL s' vp d U (V.tk V.D.blocks.length) 0:=by
 have hnb:=hv.p.choose_spec.choose_spec.choose_spec.choose_spec.choose_spec.choose_spec.dk.nb
 obtain ⟨M,hM,hM0,hMa,hMb,hMc,hMd,hMe,hMf⟩:=fresh6 s (U+60) τp τr τb 0 0
 refine F11_calls _  ?_
 unfold F11
 refine nz_i (ld_t hp rfl (dPtr_i ?_))
 refine tcall (c_VBlocks2 _ _ _ _ _ (by omega) hv) ?_
 rintro S j ⟨rfl,l,o⟩
 have W:=l.size
 refine dInt_i ?_
 refine ⟨fun vs H'=>∃s':TH,s'.h=H'/\∃pa pn pc i,vs=[.slice pa pn pc,.int .i64 i]/\Ch [U,U+20,U+21,U+22,U+23,M+1,M+9] j s'/\(∃(kk:Nat) (hs:List Hd),i=kk/\pn=kk/\kk<=V.D.blocks.length/\Own s' pa pn pc 49 1 (hs.flatMap hd1) (M+1)/\BRel s' τb hs ((List.range kk).map fun (k:Nat)=>V.now (k:Int))/\VolL s' vp d U (V.tk kk) 0),fun vs H'=>match vs with|[.slice pa pn pc,.int .i64 i]=>((V.D.blocks.length:Int) - i).toNat|_=>0,⟨j,rfl,_,_,_,_,rfl,Ch.refl _ _,?_⟩,?_⟩
 ·exact ⟨0,[],rfl,rfl,by omega,Own.nil _ _ _ _,BRel.nil _ _,by rw [show ((0:Nat):Int)=0 from rfl,tk_zero];exact o⟩
 intro pa pn pc i
 iterate 19 intro _
 intro H_ hI_7
 obtain ⟨K,rfl,pa_,pn_,pc_,i_,hvs,g,kk,hs,rfl,rfl,hk,ho,hb,hv2⟩:=hI_7
 cases hvs
 have X:=g.size
 refine sB_d (fun A=>?_) (fun A=>?_)
 ·refine nz_i ?_
  have B:=hp.ch (l.app g) (by simp<;>omega)
  refine ld_t B rfl (dPtr_i ?_)
  refine tcall (c_VRead _ _ _ _ τb _ _ (by omega) hv2 (by show V.n+_<_;omega) (show V.D.has _ from ⟨by omega,by omega⟩) (by omega)) ?_
  rintro L N ⟨q,r,rfl,f,t,w⟩
  have O:=f.size
  refine dT2 (dSl_i (dInt_i ?_))
  refine al_t (M+9) fun Y Z P C b Q=>?_
  have x:=ho.mv (f.app b) (tagn (by simp<;>omega))
  refine app_i u22 in49 rfl x (C).sl (m:=1) (k:=1) rfl (by intro u hu;simp at hu;subst hu;rfl) (by simp) (by unfold maxLen;omega) fun E pa2 pc2 F z _=>?_
  have e:=z.ch x (T:=[M+1]) (by simp)
  have R:=e.size
  refine dSl_i (wr_t (by omega) ?_)
  have G:=(((g.app f).app b).app e)
  refine ⟨⟨E,rfl,_,_,_,_,rfl,((Ch.refl [U,U+20,U+21,U+22,U+23,M+1,M+9] j).ch G (by simp)),?_⟩,?_⟩
  ·have H:=((f.app b).app e)
   have I:=hb.mv H (tagn (by simp<;>omega))
   have y:=t.mv (b.app e) (tagn (by simp<;>omega))
   have J:=w.mv (b.app e) (rngn50 (by simp<;>omega))
   exact ⟨pn+1,hs++[(q,r)],by omega,by omega,by omega,by have h:=F;simpa [hd1] using h,by rw [List.range_succ,List.map_append];exact (I).snoc ⟨(y).sl,by have:=(y).1;rw [bvs_len] at this;exact this⟩,by rw [show ((pn+1:Nat):Int)=(pn:Int)+1 by omega, ←tk_tick];exact J⟩
  simp only [];omega
 obtain rfl:pn=V.D.blocks.length:=by omega
 refine ret_t' (s':=remark K (M+1) τr) rfl ⟨_,_,_,rfl,remark_ch (((Ch.refl [U,U+20,U+21,U+22,U+23] s).ch l (by simp)).fr g hM (by simp)) hM (by omega),(ho).remark,(hb).keep (by omega),(hv2).keep (by omega)⟩
abbrev Hn :=Option Addr×Nat×Nat
def hn1 (p:Hn):List Value:=[.slice p.1 p.2.1 p.2.2]
theorem hn1_len (p:Hn):(hn1 p).length=1:=rfl
structure GRel (s:TH) (τ:Nat) (hs:List Hn) (bs:List (List UInt8)):Prop where
 len:hs.length=bs.length
 at_: ∀(i:Nat) (p:Hn) (b:List UInt8),hs[i]? =some p->bs[i]? =some b->Sl s p.1 (bvs b) τ/\b.length=p.2.1/\(p.1=none->p.2.1=0)/\p.2.1<=140737488351232/\p.2.1<=p.2.2
theorem GRel.mv {s s':TH} {τ:Nat} {hs:List Hn} {bs:List (List UInt8)} {C:Nat->Prop} (h:GRel s τ hs bs) (c:Chg C s s') (hn: ∀j,j<s.h.size->s.g j=τ->¬C j):GRel s' τ hs bs:=⟨h.len,fun i p b h1 h2=>⟨(h.at_ i p b h1 h2).1.mv c hn,(h.at_ i p b h1 h2).2⟩⟩
theorem GRel.nil (s:TH) (τ:Nat):GRel s τ [] []:=⟨rfl,fun i p b h _=>by simp at h⟩
theorem GRel.cons {s:TH} {τ:Nat} {hs:List Hn} {bs:List (List UInt8)} (h:GRel s τ hs bs) {a:Option Addr} {n c:Nat} {l:List UInt8} (h1:Sl s a (bvs l) τ) (h2:l.length=n) (h3:a=none->n=0) (h4:n<=140737488351232) (h5:n<=c):GRel s τ ((a,n,c)::hs) (l::bs):=
 ⟨by simp [h.len],fun i p b g1 g2=>by
  cases i with
  |zero=>simp at g1 g2;subst g1 g2;exact ⟨h1,h2,h3,h4,h5⟩
  |succ i=>exact h.at_ i p b (by simpa using g1) (by simpa using g2)⟩
theorem gcell {hs:List Hn} {m:Nat} {x:Hn} (h:hs[m]? =some x):(hs.flatMap hn1)[m]? =some (.slice x.1 x.2.1 x.2.2):=by
 have:=fm_get hn1_len hs m 0 x h (by omega);simpa [hn1] using this
theorem dA4 {a b c d:Value} {k:VF 4} (h:(k:Value->Value->Value->Value->Prop) a b c d):dA 4 (.agg #[a,b,c,d]) k:=h
def toHd (p:Hn):Hd:=(p.1,p.2.2)
theorem GRel.brel {s:TH} {τ:Nat} {hs:List Hn} {bs:List (List UInt8)} (h:GRel s τ hs bs) (hl: ∀b∈bs,b.length=128):BRel s τ (hs.map toHd) bs/\hs.flatMap hn1=(hs.map toHd).flatMap hd1:=by
 have e: ∀p∈hs,p.2.1=128:=fun p hp=>by
  obtain ⟨i,hi⟩:=List.getElem?_of_mem hp
  have hb:i<bs.length:=by rw [←h.len];exact (List.getElem?_eq_some_iff.1 hi).1
  have:=(h.at_ i p _ hi (List.getElem?_eq_getElem hb)).2.1
  rw [←this];exact hl _ (List.getElem_mem hb)
 refine ⟨⟨by simp [h.len],fun i p b h1 h2=>?_⟩,?_⟩
 ·rw [List.getElem?_map] at h1
  obtain ⟨q,hq,rfl⟩:=Option.map_eq_some_iff.1 h1
  have g:=h.at_ i q b hq h2
  exact ⟨g.1,by rw [g.2.1];exact e q (List.mem_of_getElem? hq)⟩
 clear h
 induction hs with
 |nil=>rfl
 |cons p hs ih=>
  rw [List.flatMap_cons,List.map_cons,List.flatMap_cons,ih (fun q hq=>e q (List.mem_cons_of_mem _ hq))]
  have:=e p (by simp)
  unfold hn1 hd1 toHd
  rw [this]
def hiN (l:List UInt8) (p w:Nat):Nat->Nat
 |0=>0
 |j+1=>hiN l p w j*256+(l.getD (p+(w - (j+1))) 0).toNat
def rgN (l:List UInt8) (p w:Nat):Nat:=hiN l p w w
theorem hiN_lt (l:List UInt8) (p w:Nat): ∀j,hiN l p w j<256^j
 |0=>by rw [hiN];decide
 |j+1=>by
  have h:=hiN_lt l p w j
  have:=(l.getD (p+(w - (j+1))) 0).toNat_lt
  rw [hiN,Nat.pow_succ]
  omega
theorem c_rget1 (p w:Nat) {xa:Option Addr} {xn:Nat} (xc:Nat) {l:List UInt8} {τx:Nat} {s:TH} (hx:Sl s xa (bvs l) τx) (hn:l.length=xn) (hw:1<=w/\w<=4) (hp:p+w<=xn) (hb:xn<=1000000000):TRet Tryz.prog 151 #[.slice xa xn xc,.int .i64 (p:Int),.int .i64 (w:Int)] s fun v s'=>v=.tuple #[.int .i64 (rgN l p w:Int),.int .i64 0]/\Ch [] s s':=by
 refine F151_calls _ _ _ _ _  ?_
 unfold F151
 refine jn_u ?_
 refine sB_d (fun c=>by exfalso;omega) (fun c=>?_)
 refine sB_d (fun d=>by exfalso;omega) (fun d=>?_)
 intro _
 intros
 refine dBl_i ?_
 refine sB_d (fun f=>by exfalso;omega) (fun f=>?_)
 refine wr_t (by omega) ?_
 refine sB_d (fun g=>by exfalso;omega) (fun g=>?_)
 refine wr_t (by omega) ?_
 refine ⟨fun vs H'=>∃s':TH,s'.h=H'/\∃n1 i,vs=[.int .i64 n1,.int .i64 i]/\Ch [] s s'/\(∃j:Nat,i=(w:Int) - 1 - j/\j<=w/\n1=(hiN l p w j:Int)),fun vs H'=>match vs with|[.int .i64 n1,.int .i64 i]=>(i+1).toNat|_=>0,⟨s,rfl,_,_,rfl,Ch.refl _ _,?_⟩,?_⟩
 ·exact ⟨0,by omega,by omega,rfl⟩
 intro n1 i
 iterate 14 intro _
 intro H_ hI_2
 obtain ⟨m,rfl,n1_,i_,hvs,a,j,rfl,hj,rfl⟩:=hI_2
 cases hvs
 have o:=a.size
 have hlt:=hiN_lt l p w j
 refine sB_d (fun k=>?_) (fun k=>?_)
 ·have hpj:(256:Nat)^j<=256^3:=Nat.pow_le_pow_right (by decide) (by omega)
  have e3:(256:Nat)^3=16777216:=by decide
  refine wr_t (by omega) ?_
  obtain ⟨q,hq⟩: ∃q,q=p+(w - (j+1)):=⟨_,rfl⟩
  refine wr_t (by omega) ?_
  rw [show (p:Int)+((w:Int) - 1 - (j:Int))=(q:Int) by omega]
  obtain ⟨b,hbk⟩: ∃b,l[q]? =some b:=⟨l[q]'(by omega),by simp⟩
  obtain ⟨ad,rfl⟩:=hx.some (fun e=>by have:=bvs_get hbk;rw [e] at this;simp at this)
  have hb8:=b.toNat_lt
  refine nz_i (ask_t (by omega) ?_)
  have n:=hx.mv a (tagn (by simp))
  refine ld_sl n (by rw [Int.toNat_natCast,Nat.mul_one];exact bvs_get hbk) ?_
  refine dInt_i (wr_t (by omega) (wr_t (by omega) (wr_t (by omega) ?_)))
  refine ⟨⟨m,rfl,_,_,rfl,((Ch.refl [] s).ch a (by simp)),?_⟩,?_⟩
  ·refine ⟨j+1,by omega,by omega,?_⟩
   rw [hiN, ←hq,List.getD_eq_getElem?_getD,hbk]
   simp only [Option.getD_some];omega
  simp only [];omega
 refine ret_t ?_
 obtain rfl:j=w:=by omega
 exact ⟨rfl,((Ch.refl [] s).ch a (by simp))⟩
theorem c_rget3 (p w:Nat) {xa:Option Addr} {xn:Nat} (xc:Nat) {l:List UInt8} {τx:Nat} {s:TH} (hx:Sl s xa (bvs l) τx) (hn:l.length=xn) (hw:1<=w/\w<=4) (hp:p+w<=xn) (hb:xn<=1000000000):TRet Tryz.prog 76 #[.slice xa xn xc,.int .i64 (p:Int),.int .i64 (w:Int)] s fun v s'=>v=.int .i64 (rgN l p w:Int)/\Ch [] s s':=by
 refine F76_calls _ _ _ _ _  ?_
 unfold F76
 refine tcall (c_rget1 p w xc hx hn hw hp hb) ?_
 rintro b c ⟨rfl,a⟩
 have d:=a.size
 refine dT2 (dInt_i (dInt_i ?_))
 refine ret_t ?_
 exact ⟨rfl,((Ch.refl [] s).ch a (by simp))⟩
theorem c_rsealed {xa:Option Addr} {xn:Nat} (xc:Nat) {l:List UInt8} {τx:Nat} {s:TH} (hx:Sl s xa (bvs l) τx) (hn:l.length=xn) (h0:xa=none->xn=0) (h4:4<=xn) (hb:xn<=1000000000) (hc:xn<=xc):TRet Tryz.prog 75 #[.slice xa xn xc] s fun v s'=>v=.bool (decide (rgN l (xn - 4) 4=sumN (l.take (xn - 4))))/\Ch [] s s':=by
 have d:((xn:Int) - 4)=((xn - 4:Nat):Int):=by omega
 refine F75_calls _ _ _  ?_
 unfold F75
 refine sB_d (fun c=>by exfalso;omega) (fun c=>?_)
 refine wr_t (by omega) ?_
 rw [d]
 refine tcall (c_rget1 (xn - 4) 4 xc hx hn (by omega) (by omega) hb) ?_
 rintro g h ⟨rfl,a⟩
 have i:=a.size
 refine dT2 (dInt_i (dInt_i (wr_t (by omega) (ask_t (by omega) ?_))))
 simp only [slO_zero,Int.toNat_zero,Nat.sub_zero,Int.toNat_natCast]
 have e:=hx.mv a (tagn (by simp))
 refine tcall (c_rsum (xn:=xn - 4) xc (e.takeB (xn - 4)) (by simp;omega) (by omega)) ?_
 rintro j k ⟨rfl,b⟩
 have f:=b.size
 refine dInt_i ?_
 refine ret_t ?_
 exact ⟨ret_b (by first|exact decide_eq_decide.2 (by omega)|(simp;omega)),(((Ch.refl [] s).ch a (by simp)).ch b (by simp))⟩
theorem c_r03may (a b c:Int) (s:TH) (hb:0<=c/\c<=1000000):TRet Tryz.prog 137 #[.agg #[.int .i64 a,.int .i64 b,.int .i64 c]] s fun v s'=>v=.bool (decide (canG a b c))/\Ch [] s s':=by
 obtain ⟨M,hM,hM0,hMa,hMb,hMc,hMd,hMe,hMf⟩:=fresh6 s 0 0 0 0 0 0
 refine F137_calls _ _ _  ?_
 unfold F137
 refine al_t (M+1) fun r1 s2 m d e n=>?_
 refine ld_t d rfl (dInt_i ?_)
 refine sB_d (fun f=>?_) (fun f=>?_)
 ·refine ld_t d rfl (dInt_i ?_)
  refine sB_d (fun g=>?_) (fun g=>?_)
  ·refine ld_t d rfl (dInt_i ?_)
   refine sB_d (fun h=>?_) (fun h=>?_)
   ·refine ld_t d rfl (dInt_i ?_)
    refine sB_d (fun i=>?_) (fun i=>?_)
    ·refine ld_t d rfl (dInt_i ?_)
     refine sB_d (fun j=>?_) (fun j=>?_)
     ·refine ld_t d rfl (dInt_i ?_)
      refine sB_d (fun k=>?_) (fun k=>?_)
      ·refine ld_t d rfl (dInt_i (ask_t (by omega) ?_))
       refine nm_t (tmod4 (by omega)) ?_
       refine sB_d (fun l=>?_) (fun l=>?_)
       ·refine ld_t d rfl (dInt_i (ld_t d rfl (dInt_i (ask_t (by omega) ?_))))
        refine wr_tq (tdiv4 (by omega)) (by omega) ?_
        refine wr_t (by omega) ?_
        refine ret_t ?_
        exact ⟨ret_b (by first|exact (decide_eq_true (by unfold canG;omega)).symm|exact (decide_eq_false (by unfold canG;omega)).symm|exact decide_eq_decide.2 (by unfold canG;omega)),((Ch.refl [] s).ch e (by simp))⟩
       refine ret_t ?_
       exact ⟨ret_b (by first|exact (decide_eq_true (by unfold canG;omega)).symm|exact (decide_eq_false (by unfold canG;omega)).symm|exact decide_eq_decide.2 (by unfold canG;omega)),((Ch.refl [] s).ch e (by simp))⟩
      refine ret_t ?_
      exact ⟨ret_b (by first|exact (decide_eq_true (by unfold canG;omega)).symm|exact (decide_eq_false (by unfold canG;omega)).symm|exact decide_eq_decide.2 (by unfold canG;omega)),((Ch.refl [] s).ch e (by simp))⟩
     refine ret_t ?_
     exact ⟨ret_b (by first|exact (decide_eq_true (by unfold canG;omega)).symm|exact (decide_eq_false (by unfold canG;omega)).symm|exact decide_eq_decide.2 (by unfold canG;omega)),((Ch.refl [] s).ch e (by simp))⟩
    refine ret_t ?_
    exact ⟨ret_b (by first|exact (decide_eq_true (by unfold canG;omega)).symm|exact (decide_eq_false (by unfold canG;omega)).symm|exact decide_eq_decide.2 (by unfold canG;omega)),((Ch.refl [] s).ch e (by simp))⟩
   refine ret_t ?_
   exact ⟨ret_b (by first|exact (decide_eq_true (by unfold canG;omega)).symm|exact (decide_eq_false (by unfold canG;omega)).symm|exact decide_eq_decide.2 (by unfold canG;omega)),((Ch.refl [] s).ch e (by simp))⟩
  refine ret_t ?_
  exact ⟨ret_b (by first|exact (decide_eq_true (by unfold canG;omega)).symm|exact (decide_eq_false (by unfold canG;omega)).symm|exact decide_eq_decide.2 (by unfold canG;omega)),((Ch.refl [] s).ch e (by simp))⟩
 refine ret_t ?_
 exact ⟨ret_b (by first|exact (decide_eq_true (by unfold canG;omega)).symm|exact (decide_eq_false (by unfold canG;omega)).symm|exact decide_eq_decide.2 (by unfold canG;omega)),((Ch.refl [] s).ch e (by simp))⟩
theorem c_rencSN (a b c m:Int) (s:TH) (hb:0<=c/\c<=1000000) (hv: ¬canG a b c):TRet Tryz.prog 60 #[.agg #[.int .i64 a,.int .i64 b,.int .i64 c,.int .i64 m]] s fun v s'=>v=.tuple #[.slice none 0 0,.int .i64 1]/\Ch [] s s':=by
 obtain ⟨M,hM,hM0,hMa,hMb,hMc,hMd,hMe,hMf⟩:=fresh6 s 0 0 0 0 0 0
 refine F60_calls _ _ _ _  ?_
 unfold F60
 refine al_t (M+1) fun r1 s2 g d f h=>?_
 refine jn_u ?_
 refine ld_t d rfl (ld_t d rfl (ld_t d rfl ?_))
 refine tcall (c_r03may a b c _ hb) ?_
 rintro i j ⟨rfl,e⟩
 have k:=e.size
 rw [decide_eq_false hv]
 refine dBl_i (sB_t (by rfl) ?_)
 intro _
 intros
 refine dBl_i (sB_t (by rfl) ?_)
 refine ret_t ?_
 exact ⟨rfl,(((Ch.refl [] s).ch f (by simp)).ch e (by simp))⟩
theorem c_rencS2 (τ:Nat) (a b c m:Nat) (s:TH) (hτ:τ≠0) (hc:c<=1000000) (hm:m<4294967296):TRet Tryz.prog 60 #[.agg #[.int .i64 (a:Int),.int .i64 (b:Int),.int .i64 (c:Int),.int .i64 (m:Int)]] s fun v s'=>∃(ad:Option Addr) (n c':Nat) (e:Int),v=.tuple #[.slice ad n c',.int .i64 e]/\Ch [τ] s s'/\((e=1/\¬canG a b c)∨(e=0/\canG a b c/\n=128/\Own s' ad 128 c' 5 1 (bvs (superL a b c m)) τ)):=by
 by_cases hv:canG a b c
 ·refine (c_encSuper τ a b c m hτ (by unfold canG at hv;unfold GeoOk;omega) hm).mono ?_
  rintro v s' ⟨ad,c',rfl,h1,h2⟩
  exact ⟨ad,128,c',0,rfl,h1,.inr ⟨rfl,hv,rfl,h2⟩⟩
 refine (c_rencSN a b c m s (by omega) hv).mono ?_
 rintro v s' ⟨rfl,h1⟩
 exact ⟨none,0,0,1,rfl,h1.less (by simp),.inl ⟨rfl,hv⟩⟩
theorem c_rsame3 {xa:Option Addr} {xn:Nat} (xc:Nat) {l:List UInt8} {τx:Nat} {ya:Option Addr} {yn:Nat} (yc:Nat) {m:List UInt8} {τy:Nat} {s:TH} (hx:Sl s xa (bvs l) τx) (hn:l.length=xn) (h0:xa=none->xn=0) (hy:Sl s ya (bvs m) τy) (hm:m.length=yn) (g0:ya=none->yn=0):TRet Tryz.prog 77 #[.slice xa xn xc,.slice ya yn yc] s fun v s'=>v=.bool (decide (l=m))/\Ch [] s s':=by
 refine F77_calls _ _ _ _ _ _  ?_
 unfold F77
 refine conv_bs u49 u5 (by kernel_rfl) hx hn h0 ?_
 refine dStr_i ?_
 refine conv_bs u49 u5 (by kernel_rfl) hy hm g0 ?_
 refine dStr_i ?_
 refine ret_t ?_
 exact ⟨ret_b (by simp only [ByteArray.toList_mk];by_cases h:l=m<;>simp [h]),(Ch.refl [] s)⟩
theorem c_rdecS1 {xa:Option Addr} {xn:Nat} (xc:Nat) {l:List UInt8} {τx:Nat} {s:TH} (hx:Sl s xa (bvs l) τx) (hn:l.length=xn) (h0:xa=none->xn=0) (hb:xn<=1000000000000000) (hc:xn<=xc):TRet Tryz.prog 27 #[.slice xa xn xc] s fun v s'=>∃a b c m e:Int,v=.tuple #[.agg #[.int .i64 a,.int .i64 b,.int .i64 c,.int .i64 m],.int .i64 e]/\Ch [] s s'/\(e=0->canG a b c):=by
 have hpre:Sl s (slO xa 1 0 (xc:Int)) (bvs (l.take 4)) τx:=by rw [show bvs (l.take 4)=(bvs l).take 4 from by unfold bvs;rw [List.map_take]];exact hx.pre0 4 xc
 obtain ⟨M,hM,hM0,hMa,hMb,hMc,hMd,hMe,hMf⟩:=fresh6 s τx 0 0 0 0 0
 refine F27_calls _ _ _  ?_
 unfold F27
 refine al_t (M+1) fun r1 s2 co u w cp=>?_
 refine sB_nd (fun a5=>?_) (fun a5=>?_)
 ·refine st_t u rfl (by simp) fun s3 a3 a6 cq=>?_
  have bq:=on_ch u a6
  refine st_t a3 rfl (by simp) fun s4 a4 a7 cr=>?_
  have br:=on_ch a3 a7
  refine st_t a4 rfl (by simp) fun s5 P aw bN=>?_
  have a8:=on_ch a4 aw
  refine st_t P rfl (by simp) fun s6 C ax bO=>?_
  have a9:=on_ch P ax
  refine ld_t C rfl (ld_t C rfl (ld_t C rfl (ld_t C rfl ?_)))
  refine ret_t ?_
  exact ⟨_,_,_,_,_,rfl,((((((Ch.refl [] s).ch w (by simp)).fr bq hM (by simp)).fr br hM (by simp)).fr a8 hM (by simp)).fr a9 hM (by simp)),fun h=>absurd h (by decide)⟩
 refine ask_t (by omega) ?_
 have ba:=hpre.mv w (tagn (by simp))
 refine conv_bs (l:=l.take 4) u49 u5 (by kernel_rfl) ba (by rw [List.length_take,hn];exact (by omega:min 4 xn=Int.toNat 4 - Int.toNat 0)) (fun h=>by cases xa<;>simp_all [slO]) ?_
 refine dStr_i ?_
 refine sB_n (fun bb=>?_) (fun bb=>?_)
 ·refine st_t u rfl (by simp) fun cs Q ay bP=>?_
  have bc:=on_ch u ay
  refine st_t Q rfl (by simp) fun ct R az bQ=>?_
  have bd:=on_ch Q az
  refine st_t R rfl (by simp) fun cu S aA bR=>?_
  have be:=on_ch R aA
  refine st_t S rfl (by simp) fun cv D aB bS=>?_
  have bf:=on_ch S aB
  refine ld_t D rfl (ld_t D rfl (ld_t D rfl (ld_t D rfl ?_)))
  refine ret_t ?_
  exact ⟨_,_,_,_,_,rfl,((((((Ch.refl [] s).ch w (by simp)).fr bc hM (by simp)).fr bd hM (by simp)).fr be hM (by simp)).fr bf hM (by simp)),fun h=>absurd h (by decide)⟩
 have T:=hx.mv w (tagn (by simp))
 refine tcall (c_rsealed xc T hn h0 (by omega) (by omega) hc) ?_
 rintro bT bU ⟨rfl,d⟩
 have bV:=d.size
 refine dBl_i ?_
 refine sB_nd (fun bg=>?_) (fun bg=>?_)
 ·have U:=u.ch d (by simp)
  refine st_t U rfl (by simp) fun cw V aC bW=>?_
  have bh:=on_ch U aC
  refine st_t V rfl (by simp) fun cx W aD bX=>?_
  have bi:=on_ch V aD
  refine st_t W rfl (by simp) fun cy X aE bY=>?_
  have bj:=on_ch W aE
  refine st_t X rfl (by simp) fun cz E aF bZ=>?_
  have bk:=on_ch X aF
  refine ld_t E rfl (ld_t E rfl (ld_t E rfl (ld_t E rfl ?_)))
  refine ret_t ?_
  exact ⟨_,_,_,_,_,rfl,(((((((Ch.refl [] s).ch w (by simp)).ch d (by simp)).fr bh hM (by simp)).fr bi hM (by simp)).fr bj hM (by simp)).fr bk hM (by simp)),fun h=>absurd h (by decide)⟩
 have Y:=T.mv d (tagn (by simp))
 refine tcall (c_rget3 4 1 xc Y hn (by omega) (by omega) (by omega)) ?_
 rintro b0 b1 ⟨rfl,g⟩
 have b2:=g.size
 have hg4:rgN l 4 1<256:=hiN_lt l 4 1 1
 refine dInt_i ?_
 have Z:=Y.mv g (tagn (by simp))
 refine tcall (c_rget3 5 1 xc Z hn (by omega) (by omega) (by omega)) ?_
 rintro b3 b4 ⟨rfl,i⟩
 have b5:=i.size
 have hg5:rgN l 5 1<256:=hiN_lt l 5 1 1
 refine dInt_i (wr_t (by omega) ?_)
 rw [show ((rgN l 5 1:Nat):Int)+1=((rgN l 5 1+1:Nat):Int) from rfl]
 have aa:=Z.mv i (tagn (by simp))
 refine tcall (c_rget3 6 1 xc aa hn (by omega) (by omega) (by omega)) ?_
 rintro b6 b7 ⟨rfl,j⟩
 have b8:=j.size
 have hg6:rgN l 6 1<256:=hiN_lt l 6 1 1
 refine dInt_i ?_
 have ab:=aa.mv j (tagn (by simp))
 refine tcall (c_rget3 8 4 xc ab hn (by omega) (by omega) (by omega)) ?_
 rintro b9 ca ⟨rfl,k⟩
 have cb:=k.size
 have hg8:rgN l 8 4<4294967296:=hiN_lt l 8 4 4
 refine dInt_i ?_
 refine al_t (M+2) fun cA cB cc ac o cd=>?_
 refine st_t ac rfl (by simp) fun cC ad aG ce=>?_
 have p:=on_ch ac aG
 refine st_t ad rfl (by simp) fun cD ae aH cf=>?_
 have q:=on_ch ad aH
 refine st_t ae rfl (by simp) fun cE af aI cg=>?_
 have r:=on_ch ae aI
 refine st_t af rfl (by simp) fun cF B aJ ci=>?_
 have t:=on_ch af aJ
 refine ld_t B rfl (ld_t B rfl (ld_t B rfl (ld_t B rfl ?_)))
 refine tcall (c_rencS2 (M+10) (rgN l 4 1) (rgN l 5 1+1) (rgN l 6 1) (rgN l 8 4) _ (by omega) (by omega) (by omega)) ?_
 rintro cj ck ⟨bp,bs,bt,bu,rfl,f,ag⟩
 have cl:=f.size
 rcases ag with ⟨rfl,hng⟩|⟨rfl,hcg,rfl,ho⟩
 ·refine dT2 (dSl_i (dInt_i ?_))
  refine jn_u ?_
  refine sB_t (by rfl) ?_
  intro _
  intros
  refine dBl_i (sB_t (by rfl) ?_)
  have bl:=((((((((((d.app g).app i).app j).app k).app o).app p).app q).app r).app t).app f)
  have ah:=u.ch bl (by simp)
  refine st_t ah rfl (by simp) fun cG ai aK cm=>?_
  have bm:=on_ch ah aK
  refine st_t ai rfl (by simp) fun cH aj aL cn=>?_
  have bn:=on_ch ai aL
  refine st_t aj rfl (by simp) fun cI F ak bv=>?_
  have aM:=on_ch aj ak
  refine st_t F rfl (by simp) fun cJ x al bw=>?_
  have aN:=on_ch F al
  refine ld_t x rfl (ld_t x rfl (ld_t x rfl (ld_t x rfl ?_)))
  refine ret_t ?_
  have aO:=((((((w.app d).app g).app i).app j).app k).app o)
  exact ⟨_,_,_,_,_,rfl,(((((((((((Ch.refl [] s).ch aO (by simp)).fr p hM (by simp)).fr q hM (by simp)).fr r hM (by simp)).fr t hM (by simp)).fr f hM (by simp)).fr bm hM (by simp)).fr bn hM (by simp)).fr aM hM (by simp)).fr aN hM (by simp)),fun h=>absurd h (by decide)⟩
 refine dT2 (dSl_i (dInt_i ?_))
 refine jn_u ?_
 refine sB_f (by rfl) ?_
 have aP:=((((((k.app o).app p).app q).app r).app t).app f)
 have aQ:=ab.mv aP (tagn (by simp<;>omega))
 refine tcall (c_rsame3 _ _ aQ hn h0 (ho).sl (superL_len _ _ _ _) (fun h=>by have:=(ho).none_iff h;omega)) ?_
 rintro bx bz ⟨rfl,n⟩
 have bA:=n.size
 refine dBl_i ?_
 intro _
 intros
 refine dBl_i ?_
 refine sB_nd (fun bo=>?_) (fun bo=>?_)
 ·have aR:=(((((((((((d.app g).app i).app j).app k).app o).app p).app q).app r).app t).app f).app n)
  have G:=u.ch aR (by simp)
  refine st_t G rfl (by simp) fun bB H am bC=>?_
  have aS:=on_ch G am
  refine st_t H rfl (by simp) fun bD I an bE=>?_
  have aT:=on_ch H an
  refine st_t I rfl (by simp) fun bF J ao bG=>?_
  have aU:=on_ch I ao
  refine st_t J rfl (by simp) fun bH y ap bI=>?_
  have aV:=on_ch J ap
  refine ld_t y rfl (ld_t y rfl (ld_t y rfl (ld_t y rfl ?_)))
  refine ret_t ?_
  have aW:=((((((w.app d).app g).app i).app j).app k).app o)
  exact ⟨_,_,_,_,_,rfl,((((((((((((Ch.refl [] s).ch aW (by simp)).fr p hM (by simp)).fr q hM (by simp)).fr r hM (by simp)).fr t hM (by simp)).fr f hM (by simp)).ch n (by simp)).fr aS hM (by simp)).fr aT hM (by simp)).fr aU hM (by simp)).fr aV hM (by simp)),fun h=>absurd h (by decide)⟩
 have z:=B.ch (f.app n) (by simp)
 refine ld_t z rfl (ld_t z rfl (ld_t z rfl (ld_t z rfl ?_)))
 have aX:=(((((((((((d.app g).app i).app j).app k).app o).app p).app q).app r).app t).app f).app n)
 have K:=u.ch aX (by simp)
 refine st_t K rfl (by simp) fun cK L aq bJ=>?_
 have aY:=on_ch K aq
 refine st_t L rfl (by simp) fun cL N ar bK=>?_
 have aZ:=on_ch L ar
 refine st_t N rfl (by simp) fun cM O au bL=>?_
 have a0:=on_ch N au
 refine st_t O rfl (by simp) fun cN A av bM=>?_
 have a1:=on_ch O av
 refine ld_t A rfl (ld_t A rfl (ld_t A rfl (ld_t A rfl ?_)))
 refine ret_t ?_
 have a2:=((((((w.app d).app g).app i).app j).app k).app o)
 exact ⟨_,_,_,_,_,rfl,((((((((((((Ch.refl [] s).ch a2 (by simp)).fr p hM (by simp)).fr q hM (by simp)).fr r hM (by simp)).fr t hM (by simp)).fr f hM (by simp)).ch n (by simp)).fr aY hM (by simp)).fr aZ hM (by simp)).fr a0 hM (by simp)).fr a1 hM (by simp)),fun _=>hcg⟩
theorem c_r18geom {xa:Option Addr} {n:Nat} (xc:Nat) {hs:List Hn} {bs:List (List UInt8)} {τx τb:Nat} {s:TH} (hq:Sl s xa (hs.flatMap hn1) τx) (hb:GRel s τb hs bs) (hn:hs.length=n) (h0:xa=none->n=0) (hn2:n<=17592186043904):TRet Tryz.prog 6 #[.slice xa n xc] s fun v s'=>∃a b c e:Int,v=.tuple #[.agg #[.int .i64 a,.int .i64 b,.int .i64 c],.int .i64 e]/\Ch [] s s'/\(e=0->canG a b c/\a*b=n/\∀y∈bs,y.length=128):=by
 have hbl:=hb.len
 obtain ⟨M,hM,hM0,hMa,hMb,hMc,hMd,hMe,hMf⟩:=fresh6 s τx τb 0 0 0 0
 refine F6_calls _ _ _  ?_
 unfold F6
 refine al_t (M+1) fun r1 s2 bu u t bv=>?_
 refine sB_d (fun av=>?_) (fun av=>?_)
 ·refine st_t u rfl (by simp) fun s3 ar aw bw=>?_
  have aZ:=on_ch u aw
  refine st_t ar rfl (by simp) fun s4 au ax bx=>?_
  have a0:=on_ch ar ax
  refine st_t au rfl (by simp) fun s5 x aa a3=>?_
  have ay:=on_ch au aa
  refine ld_t x rfl (ld_t x rfl (ld_t x rfl ?_))
  refine ret_t ?_
  exact ⟨_,_,_,_,rfl,(((((Ch.refl [] s).ch t (by simp)).fr aZ hM (by simp)).fr a0 hM (by simp)).fr ay hM (by simp)),fun h=>absurd h (by decide)⟩
 refine ⟨fun vs H'=>∃s':TH,s'.h=H'/\∃i,vs=[.int .i64 i]/\Ch [] s2 s'/\(∃k:Nat,i=k/\k<=n/\∀(j:Nat) (y:List UInt8),j<k->bs[j]? =some y->y.length=128),fun vs H'=>match vs with|[.int .i64 i]=>((n:Int) - i).toNat|_=>0,⟨s2,rfl,_,rfl,Ch.refl _ _,?_⟩,?_⟩
 ·exact ⟨0,rfl,by omega,fun j y h=>by omega⟩
 intro i
 iterate 10 intro _
 intro H_ hI_14
 obtain ⟨az,rfl,i_,hvs,d,k,rfl,hk,hall⟩:=hI_14
 cases hvs
 have a4:=d.size
 refine sB_d (fun aA=>?_) (fun aA=>?_)
 ·obtain ⟨p,hp⟩: ∃p,hs[k]? =some p:=⟨hs[k]'(by omega),by simp⟩
  obtain ⟨y,hy⟩: ∃y,bs[k]? =some y:=⟨bs[k]'(by omega),by simp⟩
  have hpy:=hb.at_ k p y hp hy
  obtain ⟨a,rfl⟩:=Option.ne_none_iff_exists'.1 (fun e=>absurd (h0 e) (by omega))
  refine nz_i (ask_t (by omega) ?_)
  have aB:=hq.mv (t.app d) (tagn (by simp))
  refine ld_sl (v:=.slice p.1 p.2.1 p.2.2) aB (by rw [Int.toNat_natCast,Nat.mul_one];exact gcell hp) ?_
  refine dSl_i ?_
  refine sB_nd (fun aC=>?_) (fun aC=>?_)
  ·have F:=u.ch d (by simp)
   refine st_t F rfl (by simp) fun bz G ab a5=>?_
   have aD:=on_ch F ab
   refine st_t G rfl (by simp) fun bA H ac a6=>?_
   have aE:=on_ch G ac
   refine st_t H rfl (by simp) fun bB A ad a7=>?_
   have aF:=on_ch H ad
   refine ld_t A rfl (ld_t A rfl (ld_t A rfl ?_))
   refine ret_t ?_
   exact ⟨_,_,_,_,rfl,((((((Ch.refl [] s).ch t (by simp)).ch d (by simp)).fr aD hM (by simp)).fr aE hM (by simp)).fr aF hM (by simp)),fun h=>absurd h (by decide)⟩
  refine wr_t (by omega) ?_
  refine ⟨⟨az,rfl,_,rfl,((Ch.refl [] s2).ch d (by simp)),?_⟩,?_⟩
  ·exact ⟨k+1,by omega,by omega,fun j z hj hz=>by
    by_cases e:j=k
    ·subst e;rw [hy] at hz;cases hz;omega
    exact hall j z (by omega) hz⟩
  simp only [];omega
 obtain ⟨p,hp⟩: ∃p,hs[0]? =some p:=⟨hs[0]'(by omega),by simp⟩
 obtain ⟨y,hy⟩: ∃y,bs[0]? =some y:=⟨bs[0]'(by omega),by simp⟩
 have hpy:=hb.at_ 0 p y hp hy
 obtain rfl:k=n:=by omega
 have hy128:=hall 0 y (by omega) hy
 obtain ⟨a,rfl⟩:=Option.ne_none_iff_exists'.1 (fun e=>absurd (h0 e) (by omega))
 refine nz_i (ask_t (by omega) ?_)
 have aG:=hq.mv (t.app d) (tagn (by simp))
 refine ld_sl (j:=0) (v:=.slice p.1 p.2.1 p.2.2) aG (gcell hp) ?_
 refine dSl_i ?_
 have aH:=hb.mv (t.app d) (tagn (by simp))
 refine tcall (c_rdecS1 p.2.2 ((aH).at_ 0 p y hp hy).1 hpy.2.1 hpy.2.2.1 (by omega) hpy.2.2.2.2) ?_
 rintro a8 a9 ⟨I,J,K,a1,a2,rfl,f,L⟩
 have ba:=f.size
 refine dT2 (dA4 (dInt_i ?_))
 refine al_t (M+9) fun bC bD bb N g bc=>?_
 refine st_t N rfl (by simp) fun bE O ae bd=>?_
 have l:=on_ch N ae
 refine st_t O rfl (by simp) fun bF P af be=>?_
 have m:=on_ch O af
 refine st_t P rfl (by simp) fun bG Q ag bf=>?_
 have o:=on_ch P ag
 refine st_t Q rfl (by simp) fun bH w ah bg=>?_
 have q:=on_ch Q ah
 refine sB_nd (fun aI=>?_) (fun aI=>?_)
 ·have aJ:=((((((d.app f).app g).app l).app m).app o).app q)
  have R:=u.ch aJ (by simp)
  refine st_t R rfl (by simp) fun bI S ai bh=>?_
  have aK:=on_ch R ai
  refine st_t S rfl (by simp) fun bJ T aj bi=>?_
  have aL:=on_ch S aj
  refine st_t T rfl (by simp) fun bK B ak bj=>?_
  have aM:=on_ch T ak
  refine ld_t B rfl (ld_t B rfl (ld_t B rfl ?_))
  refine ret_t ?_
  have aN:=(((t.app d).app f).app g)
  exact ⟨_,_,_,_,rfl,(((((((((Ch.refl [] s).ch aN (by simp)).fr l hM (by simp)).fr m hM (by simp)).fr o hM (by simp)).fr q hM (by simp)).fr aK hM (by simp)).fr aL hM (by simp)).fr aM hM (by simp)),fun h=>by omega⟩
 refine ld_t w rfl (ld_t w rfl (ld_t w rfl ?_))
 have hcg:=L (by omega)
 refine tcall (gc_rblocks I J K hcg _) ?_
 rintro bk bl ⟨rfl,r⟩
 have bm:=r.size
 refine dInt_i ?_
 refine sB_nd (fun aO=>?_) (fun aO=>?_)
 ·have aP:=(((((((d.app f).app g).app l).app m).app o).app q).app r)
  have U:=u.ch aP (by simp)
  refine st_t U rfl (by simp) fun bL V al bn=>?_
  have aQ:=on_ch U al
  refine st_t V rfl (by simp) fun bM W am bo=>?_
  have aR:=on_ch V am
  refine st_t W rfl (by simp) fun bN C an bp=>?_
  have aS:=on_ch W an
  refine ld_t C rfl (ld_t C rfl (ld_t C rfl ?_))
  refine ret_t ?_
  have aT:=(((t.app d).app f).app g)
  exact ⟨_,_,_,_,rfl,((((((((((Ch.refl [] s).ch aT (by simp)).fr l hM (by simp)).fr m hM (by simp)).fr o hM (by simp)).fr q hM (by simp)).ch r (by simp)).fr aQ hM (by simp)).fr aR hM (by simp)).fr aS hM (by simp)),fun h=>absurd h (by decide)⟩
 have D:=w.ch r (by simp)
 refine ld_t D rfl (ld_t D rfl (ld_t D rfl ?_))
 have aU:=(((((((d.app f).app g).app l).app m).app o).app q).app r)
 have X:=u.ch aU (by simp)
 refine st_t X rfl (by simp) fun bO Y ao bq=>?_
 have aV:=on_ch X ao
 refine st_t Y rfl (by simp) fun bP Z ap br=>?_
 have aW:=on_ch Y ap
 refine st_t Z rfl (by simp) fun bQ E aq bt=>?_
 have aX:=on_ch Z aq
 refine ld_t E rfl (ld_t E rfl (ld_t E rfl ?_))
 refine ret_t ?_
 have aY:=(((t.app d).app f).app g)
 exact ⟨_,_,_,_,rfl,((((((((((Ch.refl [] s).ch aY (by simp)).fr l hM (by simp)).fr m hM (by simp)).fr o hM (by simp)).fr q hM (by simp)).ch r (by simp)).fr aV hM (by simp)).fr aW hM (by simp)).fr aX hM (by simp)),fun _=>⟨hcg,by omega,fun z hz=>by
  obtain ⟨j,hj⟩:=List.getElem?_of_mem hz
  exact hall j z (by have:=(List.getElem?_eq_some_iff.1 hj).1;omega) hj⟩⟩
theorem c_stale (vp d U:Nat) (V:VolM) (G B N:Nat) (q0 q1 q2 q3 gen:Int) (s:TH) (hv:VolL s vp d U V 0) (hU:10<=U) (hg:GeoOk G B N) (hl:V.D.blocks.length=G*B) (hr:q3≠gen):TRet Tryz.prog 31 #[.pointer (some ⟨vp,0,none⟩),.agg #[.int .i64 (G:Int),.int .i64 (B:Int),.int .i64 (N:Int)],.slice none 0 0,.agg #[.int .i64 q0,.int .i64 q1,.int .i64 q2,.int .i64 q3],.int .i64 gen] s fun v s'=>v=.tuple #[.pointer none,.int .i64 200]/\Ch [U] s s'/\VolL s' vp d U V 0:=by
 have hcan:=hg.can
 have hg2:=hg
 unfold GeoOk at hg2
 have hgb:=hg.gb
 have hgbI:(G:Int)*(B:Int)=((G*B:Nat):Int):=(Int.natCast_mul G B).symm
 obtain ⟨M,hM,hM0,hMa,hMb,hMc,hMd,hMe,hMf⟩:=fresh6 s (U+50) 0 0 0 0 0
 refine F31_calls _ _ _ _ _ _ _ _ _ _ _ _  ?_
 unfold F31
 refine al_t (M+1) fun r1 s2 O w l P=>?_
 refine al_t (M+2) fun r3 s4 Q x i R=>?_
 have y:=hv.mv (l.app i) (rngn50 (by simp))
 refine tcall (c_VBlocks2 _ _ _ _ _ (by omega) y) ?_
 rintro S T ⟨rfl,b,j⟩
 have z:=b.size
 refine dInt_i ?_
 refine sB_d (fun m=>by exfalso;omega) (fun m=>?_)
 refine jn_u ?_
 have c:=w.ch (i.app b) (by simp<;>omega)
 refine ld_t c rfl (ld_t c rfl (ld_t c rfl ?_))
 refine tcall (gc_can (G:Int) (B:Int) (N:Int) _) ?_
 rintro A C ⟨rfl,a⟩
 have E:=a.size
 rw [if_pos hcan]
 refine dInt_i (sB_f (by rfl) ?_)
 have e:=c.ch a (by simp)
 refine ld_t e rfl (ld_t e rfl (ld_t e rfl ?_))
 have n:=j.mv a (rngn50 (by simp))
 refine tcall (c_VBlocks2 _ _ _ _ _ (by omega) n) ?_
 rintro F H ⟨rfl,f,k⟩
 have I:=f.size
 refine dInt_i ?_
 refine ⟨?_,?_⟩
 ·have h:=e.ch f (by simp<;>omega)
  refine ld_t h rfl (ld_t h rfl (ld_t h rfl ?_))
  rfl
 refine tcall (gc_blocks (G:Int) (B:Int) (N:Int) hcan _) ?_
 rintro J K ⟨rfl,g⟩
 have L:=g.size
 rw [hgbI]
 refine dInt_i ?_
 intro _
 intros
 refine dBl_i ?_
 refine sB_d (fun o=>by exfalso;omega) (fun o=>?_)
 have p:=(((b.app a).app f).app g)
 have q:=x.ch p (by simp<;>omega)
 refine ld_t q rfl (dInt_i ?_)
 refine sB_nd (fun r=>?_) (fun r=>by exfalso;omega)
 refine ret_t ?_
 have t:=(((((l.app i).app b).app a).app f).app g)
 have u:=k.mv g (rngn50 (by simp))
 exact ⟨rfl,((Ch.refl [U] s).ch t (by simp)),u⟩
theorem c_adostale (vp d U:Nat) (V:VolM) (G B N:Nat) (q0 q1 q2 q3 gen:Int) (s:TH) (hv:VolL s vp d U V 0) (hU:10<=U) (hg:GeoOk G B N) (hl:V.D.blocks.length=G*B) (hr:q3≠gen):TRet Tryz.prog 8 #[.pointer (some ⟨vp,0,none⟩),.agg #[.int .i64 (G:Int),.int .i64 (B:Int),.int .i64 (N:Int)],.slice none 0 0,.agg #[.int .i64 q0,.int .i64 q1,.int .i64 q2,.int .i64 q3],.int .i64 gen] s fun v s'=>v=.tuple #[.slice none 0 0,.int .i64 200]/\Ch [U] s s'/\VolL s' vp d U V 0:=by
 obtain ⟨M,hM,hM0,hMa,hMb,hMc,hMd,hMe,hMf⟩:=fresh6 s (U+50) 0 0 0 0 0
 refine F8_calls _ _ _ _ _ _ _ _ _ _ _ _  ?_
 unfold F8
 refine al_t (M+1) fun r1 s2 m i g n=>?_
 refine al_t (M+2) fun r3 s4 o a b p=>?_
 have c:=i.ch b (by simp)
 refine ld_t c rfl (ld_t c rfl (ld_t c rfl (ld_t a rfl (ld_t a rfl (ld_t a rfl (ld_t a rfl ?_))))))
 have j:=hv.mv (g.app b) (rngn50 (by simp))
 refine tcall (c_stale vp d U V G B N q0 q1 q2 q3 gen _ j hU hg hl hr) ?_
 rintro k q ⟨rfl,e,f⟩
 have l:=e.size
 refine dT2 (dPtr_i (dInt_i (sB_t (by rfl) ?_)))
 refine ret_t ?_
 have h:=((g.app b).app e)
 exact ⟨rfl,((Ch.refl [U] s).ch h (by simp)),f⟩
theorem fresh_nows (bs:List (List UInt8)):(VolM.fresh bs).nows=bs:=by
 apply List.ext_getElem?
 intro i
 unfold VolM.nows
 rw [List.getElem?_map]
 by_cases h:i<bs.length
 ·rw [List.getElem?_range (show i<(VolM.fresh bs).D.blocks.length from h),List.getElem?_eq_getElem h]
  show some (bs.getD (Int.toNat (i:Int)) [])=_
  rw [Int.toNat_natCast,List.getD_eq_getElem?_getD,List.getElem?_eq_getElem h];rfl
 have e:(List.range (VolM.fresh bs).D.blocks.length)[i]? =none:=List.getElem?_eq_none (by rw [List.length_range];exact (by omega:bs.length<=i))
 rw [e,List.getElem?_eq_none (show bs.length<=i by omega)];rfl
theorem fresh_blocks (bs:List (List UInt8)):(VolM.fresh bs).P.blocks=[]:=by
 apply List.eq_nil_iff_forall_not_mem.2
 intro b hb
 obtain ⟨x,hx,_⟩:=mem_blocks.1 hb
 exact (List.not_mem_nil (show x∈([]:List PatM) from hx)).elim
theorem w_astale (U:Nat) {xa:Option Addr} {n:Nat} (xc:Nat) {hs:List Hn} {bs:List (List UInt8)} (q0 q1 q2 q3 gen:Int) {τ:Nat} {s:TH} (hU:10<=U) (hq:Sl s xa (hs.flatMap hn1) τ) (hb:GRel s τ hs bs) (hn:hs.length=n) (h0:xa=none->n=0) (hn2:n<=17592186043904) (hτ:τ<U∨U+50<=τ):TRet Tryz.prog 3 #[.slice xa n xc,.agg #[.int .i64 q0,.int .i64 q1,.int .i64 q2,.int .i64 q3],.int .i64 gen] s fun v s'=>v=.bool true/\Ch [U,U+3,U+11,U+20,U+21,U+22,U+23,U+30,U+32] s s':=by
 obtain ⟨M,hM,hM0,hMa,hMb,hMc,hMd,hMe,hMf⟩:=fresh6 s τ (U+60) 0 0 0 0
 refine F3_calls _ _ _ _ _ _ _ _  ?_
 unfold F3
 refine al_t (M+1) fun r1 s2 aQ aj k aR=>?_
 have V:=hq.mv k (tagn (by simp))
 have W:=hb.mv k (tagn (by simp))
 refine tcall (c_r18geom xc V W hn h0 hn2) ?_
 rintro aS aT ⟨u,w,x,ak,rfl,l,y⟩
 have av:=l.size
 refine dT2 (dA3 (dInt_i ?_))
 refine al_t (M+2) fun aU aV aw z d ax=>?_
 refine st_t z rfl (by simp) fun aW A R ay=>?_
 have e:=on_ch z R
 refine st_t A rfl (by simp) fun aX C S az=>?_
 have f:=on_ch A S
 refine st_t C rfl (by simp) fun aY X T aA=>?_
 have g:=on_ch C T
 refine jn_u ?_
 refine sB_nd (fun Y=>?_) (fun Y=>?_)
 ·intro _
  intros
  refine dBl_i (sB_t (by rfl) ?_)
  refine ret_t ?_
  have Z:=((k.app l).app d)
  exact ⟨rfl,(((((Ch.refl [U,U+3,U+11,U+20,U+21,U+22,U+23,U+30,U+32] s).ch Z (by simp)).fr e hM (by simp)).fr f hM (by simp)).fr g hM (by simp))⟩
 have q:=((((l.app d).app e).app f).app g)
 have D:=aj.ch q (by simp)
 refine ld_t D rfl (dInt_i ?_)
 intro _
 intros
 refine dBl_i ?_
 refine sB_d (fun aa=>?_) (fun aa=>?_)
 ·refine ret_t ?_
  have ab:=((k.app l).app d)
  exact ⟨rfl,(((((Ch.refl [U,U+3,U+11,U+20,U+21,U+22,U+23,U+30,U+32] s).ch ab (by simp)).fr e hM (by simp)).fr f hM (by simp)).fr g hM (by simp))⟩
 obtain ⟨hcan,hgbn,E⟩:=y (by omega)
 have hcan2:=hcan
 unfold canG at hcan2
 obtain ⟨G,hG⟩:=Int.eq_ofNat_of_zero_le (a:=u) (by omega)
 obtain ⟨B,hB⟩:=Int.eq_ofNat_of_zero_le (a:=w) (by omega)
 obtain ⟨N,hN⟩:=Int.eq_ofNat_of_zero_le (a:=x) (by omega)
 subst hG hB hN
 have hg:GeoOk G B N:=by unfold GeoOk;omega
 have hgb:=hg.gb
 have hgbe:n=G*B:=by have:=Int.natCast_mul G B;omega
 have F:=W.mv q (tagn (by simp<;>omega))
 have hbr:=(F).brel E
 have ac:=V.mv q (tagn (by simp<;>omega))
 have hq2:=ac
 rw [hbr.2] at hq2
 refine tcall (c_plof U (M+10) xc hU hq2 hbr.1 (by rw [List.length_map];exact hn) (by omega) (by omega)) ?_
 rintro aB aC ⟨H,c,m,al,am,rfl,b,o,I⟩
 have aD:=b.size
 refine dT2 (dPtr_i (dBl_i ?_))
 refine jn_u ?_
 refine sB_f (by rfl) ?_
 intro _
 intros
 refine dBl_i (sB_f (by rfl) (nz_i (ld_t o rfl (dPtr_i ?_))))
 have r:=X.ch b (by simp<;>omega)
 refine ld_t r rfl (ld_t r rfl (ld_t r rfl ?_))
 have h:=D.ch b (by simp<;>omega)
 refine ld_t h rfl (ld_t h rfl (ld_t h rfl (ld_t h rfl ?_)))
 refine tcall (c_adostale c m U (VolM.fresh bs) G B N q0 q1 q2 q3 gen _ I hU hg (by show bs.length=_;have:=hb.len;omega) (by omega)) ?_
 rintro aE aF ⟨rfl,i,J⟩
 have aG:=i.size
 refine dT2 (dSl_i (dInt_i (sB_t (by rfl) (nz_i ?_))))
 have K:=o.ch i (by simp<;>omega)
 refine ld_t K rfl (dPtr_i ?_)
 refine tcall (c_VDirty _ _ _ _ (M+20) _ (by omega) J (by omega)) ?_
 rintro aH aI ⟨an,ao,rfl,j,ap,L⟩
 have aJ:=j.size
 rw [fresh_blocks]
 refine dSl_i (sB_t (by rfl) ?_)
 have ad:=K.ch j (by simp<;>omega)
 refine tcall (c_pnow2 H c m U (VolM.fresh bs) _ _ _ (M+10) (M+22) (M+23) _ hU L ad (by show (0:Int)<_;decide) (by omega)) ?_
 rintro aK aL ⟨aq,ar,ai,rfl,t,O,p,au⟩
 have aM:=t.size
 rw [fresh_nows] at p
 refine dSl_i ?_
 have P:=(((b.app i).app j).app t)
 have ae:=F.mv P (tagn (by simp<;>omega))
 have hbr2:=(ae).brel E
 have af:=hq2.mv P (tagn (by simp<;>omega))
 have hq3:=af
 refine tcall (c_same _ _ _ _ _ (O).sl hq3 p hbr2.1 rfl (by have:=hb.len;omega) (by show bs.length<=2048;have:=hb.len;omega)) ?_
 rintro aN aO ⟨rfl,Q⟩
 have aP:=Q.size
 refine dBl_i ?_
 refine ret_t ?_
 have ag:=((k.app l).app d)
 have ah:=(((i.app j).app t).app Q)
 exact ⟨rfl,(((((((Ch.refl [U,U+3,U+11,U+20,U+21,U+22,U+23,U+30,U+32] s).ch ag (by simp)).fr e hM (by simp)).fr f hM (by simp)).fr g hM (by simp)).ch b (by simp)).ch ah (by simp))⟩
end Go.Proofs.YtkaikaodhegmhaaGreat.E
namespace Go.Proofs.YtkaikaodhegmhaaGreat.E
open Go Go.WideShapes
set_option linter.unusedVariables false
def Rd {H:Type} (enc:TypeId×Value->H) (P:Program) (W:World) (t:TypeId) (row:List Value):Prop:=∃fuel y,DataW.trod enc P W 0 (fun _=>true) true fuel t row=some y
section
variable {H :Type} {enc:TypeId×Value->H} {P:Program} {W:World} {t e:TypeId} {row:List Value}
theorem rd_of {v:Value} {d:DataW H} {ps:List MemPlace} (h:DataW.Trod enc P W 0 (fun _=>true) true t v d ps):Rd enc P W t v.cells.toList:=by
 obtain ⟨f,h⟩:=h;exact ⟨f,_,h⟩
theorem rd_int {k:IntKind} (ht:P.underlying t=some (.int k)) (h:Rd enc P W t row): ∃x,row=[.int k x]/\(Lit.int k x).wf=true:=by
 obtain ⟨f,y,h⟩:=h
 obtain ⟨n,h1,_,h2⟩:=DataW.trod_int ht h
 exact ⟨n,h1,h2⟩
theorem rd_struct {fs:Array Field} (ht:P.underlying t=some (.struct fs)) (h:Rd enc P W t row):row.length=P.cellsOf t/\∀(i:Nat) (f:Field),fs[i]? =some f->Rd enc P W f.type ((row.drop f.offset).take (P.cellsOf f.type)):=by
 obtain ⟨f,y,h⟩:=h
 obtain ⟨xs,n,rfl,rfl,h1,h2,h3⟩:=DataW.trod_struct ht h
 refine ⟨h1,fun i f hf=>?_⟩
 have hi:i<xs.length:=by rw [h2];exact (Array.getElem?_eq_some_iff.1 hf).1
 exact ⟨n,xs[i],by rw [h3 i f hf];simp [hi]⟩
theorem flat_get {k:Nat}: ∀ {rows:List (List Value)},(∀r∈rows,r.length=k)->∀ {j:Nat} {v:Value},rows.flatten[j]? =some v->∃i m r,j=i*k+m/\m<k/\rows[i]? =some r/\r[m]? =some v
 |[],_,j,v,h=>by simp at h
 |r::rows,hk,j,v,h=>by
  rw [List.flatten_cons] at h
  have hr:=hk r (by simp)
  by_cases hj:j<k
  ·rw [List.getElem?_append_left (by omega)] at h
   exact ⟨0,j,r,by omega,hj,by simp,h⟩
  rw [List.getElem?_append_right (by omega)] at h
  obtain ⟨i,m,r',h1,h2,h3,h4⟩:=flat_get (fun r' h'=>hk r' (List.mem_cons_of_mem _ h')) h
  exact ⟨i+1,m,r',by rw [Nat.add_mul,Nat.one_mul];omega,h2,by simpa using h3,h4⟩
theorem sl_rows {a:Addr} {k:Nat} {rows:List (List Value)} (hk: ∀r∈rows,r.length=k) (h: ∀i r,rows[i]? =some r->∀m,m<k->W.cell? ((a.add (i*k)).add m)=r[m]?):Sl ⟨W.heap,fun _=>0⟩ (some a) rows.flatten 0:=by
 by_cases he:rows.flatten=[]
 ·exact .inl he
 right
 have h0: ∃v,W.cell? a=some v:=by
  obtain ⟨v,hv⟩: ∃v,rows.flatten[0]? =some v:=by
   cases hf:rows.flatten with
   |nil=>exact absurd hf he
   |cons v l=>exact ⟨v,by simp⟩
  obtain ⟨i,m,r,h1,h2,h3,h4⟩:=flat_get hk hv
  obtain rfl:m=0:=by omega
  have hi:i*k=0:=by omega
  have:=h i r h3 0 h2
  rw [hi] at this
  refine ⟨v,?_⟩
  rw [←h4, ←this]
  simp [Addr.add]
 obtain ⟨v0,hv0⟩:=h0
 obtain ⟨g,o,sp⟩:=a
 have hsp:sp=none:=by
  cases sp with
  |none=>rfl
  |some x=>
   rw [cell_eq] at hv0
   unfold cellH at hv0
   split at hv0<;>simp at hv0
 subst hsp
 have hlt:g<W.heap.size:=by
  rw [cell_eq] at hv0
  unfold cellH at hv0
  split at hv0
  ·rename_i hg;exact (Array.getElem?_eq_some_iff.1 hg).1
  cases hv0
 refine ⟨g,o,rfl,hlt,rfl,fun j v hv=>?_⟩
 obtain ⟨i,m,r,h1,h2,h3,h4⟩:=flat_get hk hv
 have:=h i r h3 m h2
 rw [add_mk,add_mk,h4,cell_eq] at this
 rw [h1, ←Nat.add_assoc];exact this
theorem rd_sl (ht:P.underlying t=some (.slice e)) (h:Rd enc P W t row): ∃(a:Option Addr) (n c:Nat) (rows:List (List Value)),row=[.slice a n c]/\n<=c/\c<=maxLen/\(a=none->n=0)/\rows.length=n/\(∀r∈rows,r.length=P.cellsOf e/\Rd enc P W e r)/\Sl ⟨W.heap,fun _=>0⟩ a rows.flatten 0:=by
 obtain ⟨f,y,h⟩:=h
 rcases DataW.trod_slice ht h with ⟨h0,_⟩|⟨a,len,cap,elems,rest,n,rfl,rfl,rfl,hb,hl,hm,hlen,hel,_⟩
 ·exact ⟨none,0,0,[],h0,by omega,by omega,fun _=>rfl,rfl,fun r hr=>(List.not_mem_nil hr).elim,.inl rfl⟩
 have hrow: ∀i,i<len->∃r,W.cells? 0 (a.add (i*P.cellsOf e)) (P.cellsOf e)=some r/\Rd enc P W e r:=fun i hi=>by
  have h1:=hel i hi
  rw [List.getElem?_eq_getElem (by omega)] at h1
  obtain ⟨r,h2,h3⟩:=Option.bind_eq_some_iff.1 h1
  exact ⟨r,h2,n,_,h3⟩
 let rows:=(List.range len).map fun i=>(W.cells? 0 (a.add (i*P.cellsOf e)) (P.cellsOf e)).getD []
 have hget: ∀i r,rows[i]? =some r->W.cells? 0 (a.add (i*P.cellsOf e)) (P.cellsOf e)=some r/\Rd enc P W e r:=fun i r hr=>by
  have hi:i<len:=by
   have:=(List.getElem?_eq_some_iff.1 hr).1
   simpa [rows] using this
  obtain ⟨r',h1,h2⟩:=hrow i hi
  simp [rows,hi,h1] at hr
  subst hr;exact ⟨h1,h2⟩
 have hmem: ∀r∈rows,r.length=P.cellsOf e/\Rd enc P W e r:=fun r hr=>by
  obtain ⟨i,hi⟩:=List.getElem?_of_mem hr
  obtain ⟨h1,h2⟩:=hget i r hi
  exact ⟨(World.cells?_some h1).2.1,h2⟩
 exact ⟨some a,len,cap,rows,rfl,hl,hm,(fun h=>by cases h),by simp [rows],hmem,sl_rows (fun r hr=>(hmem r hr).1) fun i r hr m hm=>(World.cells?_some (hget i r hr).1).2.2 m hm⟩
theorem rd_bytes (ht:P.underlying t=some (.slice e)) (he:P.underlying e=some (.int .u8)) (h:Rd enc P W t row): ∃(a:Option Addr) (n c:Nat) (ls:List UInt8),row=[.slice a n c]/\n<=c/\c<=maxLen/\(a=none->n=0)/\ls.length=n/\Sl ⟨W.heap,fun _=>0⟩ a (bvs ls) 0:=by
 obtain ⟨a,n,c,rows,h1,h2,h3,h4,h5,h6,h7⟩:=rd_sl ht h
 have hx: ∀l:List (List Value),(∀r∈l,r.length=P.cellsOf e/\Rd enc P W e r)->∃ls:List UInt8,ls.length=l.length/\l.flatten=bvs ls:=by
  intro l
  induction l with
  |nil=>intro _;exact ⟨[],rfl,rfl⟩
  |cons r l ih=>
   intro hr
   obtain ⟨ls,k1,k2⟩:=ih fun r' h'=>hr r' (List.mem_cons_of_mem _ h')
   obtain ⟨x,rfl,hw⟩:=rd_int he (hr r (by simp)).2
   have e1:IntKind.u8.min=0:=by decide
   have e2:IntKind.u8.max=255:=by decide
   simp only [Lit.wf,e1,e2,Bool.and_eq_true,decide_eq_true_eq] at hw
   refine ⟨UInt8.ofNat x.toNat::ls,by simp [k1],?_⟩
   have:bv (UInt8.ofNat x.toNat)=.int .u8 x:=by
    unfold bv
    have:(UInt8.ofNat x.toNat).toNat=x.toNat%256:=rfl
    rw [this]
    congr 1
    omega
   simp [k2,bvs,this]
 obtain ⟨ls,k1,k2⟩:=hx rows h6
 exact ⟨a,n,c,ls,h1,h2,h3,h4,by omega,by rw [←k2];exact h7⟩
theorem open_v {v:Value} {a:Option Addr} {n c:Nat} {r:Reach} {b0:Nat} (ht:P.underlying t=some (.slice e)) (hval:Value.okWide P W r b0 t v) (h:v.cells.toList=[.slice a n c]):v=.slice a n c:=by
 obtain ⟨a',n',c',rfl⟩:=okWide_slice ht hval
 simp [Value.cells] at h
 obtain ⟨rfl,rfl,rfl⟩:=h;rfl
end
end Go.Proofs.YtkaikaodhegmhaaGreat.E
namespace Go.Proofs.YtkaikaodhegmhaaGreat.E
open Go Go.WideShapes Go.ChangeShapes
set_option linter.unusedVariables false
section
variable {H :Type} {enc:TypeId×Value->H} {P:Program} {W:World} {t e:TypeId} {row:List Value}
theorem weightsEach_get {B:Nat}: ∀ {ts:List TypeId} {ds:List (DataW H)} {i:Nat} {t:TypeId} {d:DataW H},ts[i]? =some t->ds[i]? =some d->(∀x∈DataW.weightsEach P ts ds,x<=B)->∀x∈d.weights P t,x<=B
 |[],_,i,t,d,h1,_,_=>by simp at h1
 |t0::ts,[],i,t,d,_,h2,_=>by simp at h2
 |t0::ts,d0::ds,0,t,d,h1,h2,h=>by
  simp at h1 h2;subst h1 h2
  intro x hx;exact h x (by unfold DataW.weightsEach;exact List.mem_append_left _ hx)
 |t0::ts,d0::ds,i+1,t,d,h1,h2,h=>by
  simp at h1 h2
  exact weightsEach_get h1 h2 fun x hx=>h x (by unfold DataW.weightsEach;exact List.mem_append_right _ hx)
theorem weightsAll_mem {B:Nat}: ∀ {ds:List (DataW H)} {d:DataW H},d∈ds->(∀x∈DataW.weightsAll P e ds,x<=B)->∀x∈d.weights P e,x<=B
 |d0::ds,d,hd,h=>by
  rcases List.mem_cons.1 hd with rfl|hd
  ·intro x hx;exact h x (by unfold DataW.weightsAll;exact List.mem_append_left _ hx)
  exact weightsAll_mem hd fun x hx=>h x (by unfold DataW.weightsAll;exact List.mem_append_right _ hx)
theorem weights_all {ts:List TypeId} {ds:List (DataW H)} (h:(DataW.weightsEach P ts ds).all (· <=reachBytes)=true): ∀x∈DataW.weightsEach P ts ds,x<=reachBytes:=fun x hx=>by
 have:=List.all_eq_true.1 h x hx;simpa using this
def Rdw {H:Type} (enc:TypeId×Value->H) (P:Program) (W:World) (t:TypeId) (row:List Value):Prop:=∃fuel y,DataW.trod enc P W 0 (fun _=>true) true fuel t row=some y/\∀x∈y.1.weights P t,x<=reachBytes
theorem Rdw.rd (h:Rdw enc P W t row):Rd enc P W t row:=by obtain ⟨f,y,h,_⟩:=h;exact ⟨f,y,h⟩
theorem rdw_of {v:Value} {d:DataW H} {ps:List MemPlace} (h:DataW.Trod enc P W 0 (fun _=>true) true t v d ps) (hw: ∀x∈d.weights P t,x<=reachBytes):Rdw enc P W t v.cells.toList:=by
 obtain ⟨f,h⟩:=h;exact ⟨f,_,h,hw⟩
theorem rdw_sl (ht:P.underlying t=some (.slice e)) (h:Rdw enc P W t row): ∃(a:Option Addr) (n c:Nat) (rows:List (List Value)),row=[.slice a n c]/\n<=c/\n*P.bytesOf e<=reachBytes/\(a=none->n=0)/\rows.length=n/\(∀r∈rows,r.length=P.cellsOf e/\Rdw enc P W e r)/\Sl ⟨W.heap,fun _=>0⟩ a rows.flatten 0:=by
 obtain ⟨f,y,h,hw⟩:=h
 rcases DataW.trod_slice ht h with ⟨h0,_⟩|⟨a,len,cap,elems,rest,n,rfl,rfl,rfl,hb,hl,hm,hlen,hel,_⟩
 ·exact ⟨none,0,0,[],h0,by omega,by simp,fun _=>rfl,rfl,fun r hr=>(List.not_mem_nil hr).elim,.inl rfl⟩
 unfold DataW.weights at hw
 rw [ht] at hw
 simp only [List.length_map] at hw
 have hbig:len*P.bytesOf e<=reachBytes:=by
  have h1:=hw ((elems.length+rest.length)*P.bytesOf e) (by simp)
  have h2:len*P.bytesOf e<=(elems.length+rest.length)*P.bytesOf e:=Nat.mul_le_mul_right _ (by omega)
  omega
 have hrow: ∀i,i<len->∃r,W.cells? 0 (a.add (i*P.cellsOf e)) (P.cellsOf e)=some r/\Rdw enc P W e r:=fun i hi=>by
  have h1:=hel i hi
  rw [List.getElem?_eq_getElem (by omega)] at h1
  obtain ⟨r,h2,h3⟩:=Option.bind_eq_some_iff.1 h1
  refine ⟨r,h2,n,_,h3,weightsAll_mem (ds:=elems.map (·.1)) (List.mem_map.2 ⟨_,List.getElem_mem _,rfl⟩) fun x hx=>hw x ?_⟩
  exact List.mem_cons_of_mem _ (List.mem_append_left _ hx)
 let rows:=(List.range len).map fun i=>(W.cells? 0 (a.add (i*P.cellsOf e)) (P.cellsOf e)).getD []
 have hget: ∀i r,rows[i]? =some r->W.cells? 0 (a.add (i*P.cellsOf e)) (P.cellsOf e)=some r/\Rdw enc P W e r:=fun i r hr=>by
  have hi:i<len:=by
   have:=(List.getElem?_eq_some_iff.1 hr).1
   simpa [rows] using this
  obtain ⟨r',h1,h2⟩:=hrow i hi
  simp [rows,hi,h1] at hr
  subst hr;exact ⟨h1,h2⟩
 have hmem: ∀r∈rows,r.length=P.cellsOf e/\Rdw enc P W e r:=fun r hr=>by
  obtain ⟨i,hi⟩:=List.getElem?_of_mem hr
  obtain ⟨h1,h2⟩:=hget i r hi
  exact ⟨(World.cells?_some h1).2.1,h2⟩
 exact ⟨some a,len,cap,rows,rfl,hl,hbig,(fun h=>by cases h),by simp [rows],hmem,sl_rows (fun r hr=>(hmem r hr).1) fun i r hr m hm=>(World.cells?_some (hget i r hr).1).2.2 m hm⟩
end
theorem rih_sized {H:Type} {enc:TypeId×Value->H} {a:Assume} {C:Checked} {os:Os} {f:FuncId} {fn:Func} {s:ChangeSpec} {conds:List PathCond} {apart fresh handsOn again:Bool}
  (own:ownKnob C.prog.godebug=none) (started:os.Started) (noInit:C.prog.inits.idxOf? f=none) (hfn:C.prog.funcs[f]? =some fn)
  (witness: ∃(w:World) (tape:Tape) (i:Input),w.os=os/\(w.forCall tape i).Shaped C.prog/\i.vars=[]/\Input.okWide C.prog (w.forCall tape i) .any w.heap.size f i/\
   s.pre6 enc C.prog fn conds apart (w.forCall tape i).memory i.args/\a.holds C.prog (lone (Frame.enter C.prog f i.args .normal) [] (w.forCall tape i)))
  (contract: ∀(W:World) (base:Nat) (args:Array Value) (ds gs:List (DataW H)) (before:List MemPlace),
   (∀(j:Nat) t v,fn.params[j]? =some t->args[j]? =some v->Value.okWide C.prog W .any base t v)->
   DataW.Whole enc C.prog fn.params.toList s.vars apart W args.toList ds gs before->
   (DataW.weightsEach C.prog (fn.params.toList++s.plain.varTypes C.prog) (ds++gs)).all (· <=reachBytes)=true->
   Calls C.prog f args W fun e W'=>∃v,e=.returned v/\s.post enc C.prog fn apart fresh handsOn again W args v W'):
  ReturnsInHanded a C os f .any (s.pre6 enc C.prog fn conds apart) (s.post enc C.prog fn apart fresh handsOn again):=by
 refine returnsInHanded_of_calls own started noInit witness ?_
 intro w tape i _ _ _ hok hpre _
 obtain ⟨_,_,_,fn',hfn',_,_,_,_,hval⟩:=hok
 have e:fn'=fn:=Option.some.inj (hfn'.symm.trans hfn)
 subst e
 obtain ⟨⟨ds,gs,before,hw,_⟩,hz⟩:=hpre
 have hw':=DataW.Whole.of_heap (w':=w.forCall tape i) (by rfl) hw
 refine (contract (w.forCall tape i) w.heap.size i.args ds gs before hval hw' (hz.weights hw)).mono fun e W' ⟨v,he,hp⟩=>?_
 subst he
 exact ChangeSpec.post_blind hp
end Go.Proofs.YtkaikaodhegmhaaGreat.E
namespace Go.Proofs.YtkaikaodhegmhaaGreat.E
open Go Go.WideShapes
set_option linter.unusedVariables false
theorem rdw_bs {H:Type} {enc:TypeId×Value->H} {W:World}: ∀ {rows:List (List Value)},(∀r∈rows,r.length=Tryz.prog.cellsOf 49/\Rdw enc Tryz.prog W 49 r)->∃(hs:List Hn) (bs:List (List UInt8)),hs.length=rows.length/\rows.flatten=hs.flatMap hn1/\GRel ⟨W.heap,fun _=>0⟩ 0 hs bs
 |[],_=>⟨[],[],rfl,rfl,GRel.nil _ _⟩
 |r::rows,h=>by
  obtain ⟨hs,bs,h1,h2,h3⟩:=rdw_bs (rows:=rows) fun r' h'=>h r' (List.mem_cons_of_mem _ h')
  obtain ⟨a,n,c,l,e,b1,b2,b3,b4,b5⟩:=rd_bytes Tryz.underlying49 Tryz.underlying5 (h r (by simp)).2.rd
  obtain ⟨a',n',c',_,e',_,b6,_⟩:=rdw_sl Tryz.underlying49 (h r (by simp)).2
  rw [e] at e'
  cases e'
  have h1b:Tryz.prog.bytesOf 5=1:=by kernel_rfl
  rw [h1b] at b6
  unfold reachBytes at b6
  exact ⟨(a,n,c)::hs,l::bs,by simp [h1],by rw [List.flatten_cons,h2,e];rfl,h3.cons b5 b4 b3 (by omega) b1⟩
end Go.Proofs.YtkaikaodhegmhaaGreat.E
namespace Go.Proofs.YtkaikaodhegmhaaGreat.E
open Go Go.WideShapes
set_option linter.unusedVariables false
section
variable {H :Type} {enc:TypeId×Value->H} {P:Program} {W:World} {t e:TypeId} {row:List Value}
theorem rd_one4 {I:TypeId} {c:Value} (hI:P.underlying I=some (.int .i64)) (h:Rd enc P W I [c]): ∃x,c=.int .i64 x/\(Lit.int .i64 x).wf=true:=by
 obtain ⟨x,h1,h2⟩:=rd_int hI h
 exact ⟨x,by simpa using h1,h2⟩
theorem open_req {fs:Array Field} {I:TypeId} {r:Reach} {b0:Nat} {v:Value} {d:DataW H} {ps:List MemPlace} (hs:P.underlying t=some (.struct fs)) (hC:P.cellsOf t=4)
  (hF:fs.toList.map (fun f=>(f.type,f.offset))=[(I,0),(I,1),(I,2),(I,3)]) (hI:P.underlying I=some (.int .i64)) (hIc:P.cellsOf I=1)
  (hv:Value.okWide P W r b0 t v) (h:DataW.Trod enc P W 0 (fun _=>true) true t v d ps):
  ∃a0 a1 a2 a3:Int,v=.agg #[.int .i64 a0,.int .i64 a1,.int .i64 a2,.int .i64 a3]/\
   (Lit.int .i64 a0).wf=true/\(Lit.int .i64 a1).wf=true/\(Lit.int .i64 a2).wf=true/\(Lit.int .i64 a3).wf=true:=by
 obtain ⟨cs,rfl,hsz⟩:=okWide_struct hs hv
 obtain ⟨hl,hf⟩:=rd_struct hs (rd_of h)
 have hcl:(Value.agg cs).cells.toList=cs.toList:=rfl
 rw [hcl] at hf
 have hlen:cs.toList.length=4:=by rw [Array.length_toList,hsz,hC]
 obtain ⟨l,hl2⟩: ∃l,cs.toList=l:=⟨_,rfl⟩
 rw [hl2] at hf hlen
 obtain ⟨fl,hfl⟩: ∃l,fs.toList=l:=⟨_,rfl⟩
 rw [hfl] at hF
 have hg: ∀i,fs[i]? =fl[i]? :=fun i=>by rw [←hfl,Array.getElem?_toList]
 obtain ⟨c0,c1,c2,c3,rfl⟩: ∃c0 c1 c2 c3,l=[c0,c1,c2,c3]:=by
  match l,hlen with
  |[c0,c1,c2,c3],_=>exact ⟨_,_,_,_,rfl⟩
 have h6:fl.length=4:=by simpa using congrArg List.length hF
 obtain ⟨f0,f1,f2,f3,rfl⟩: ∃f0 f1 f2 f3,fl=[f0,f1,f2,f3]:=by
  match fl,h6 with
  |[f0,f1,f2,f3],_=>exact ⟨_,_,_,_,rfl⟩
 simp only [List.map_cons,List.map_nil,List.cons.injEq,Prod.mk.injEq,and_true] at hF
 obtain ⟨⟨t0,o0⟩,⟨t1,o1⟩,⟨t2,o2⟩,⟨t3,o3⟩⟩:=hF
 have k0:=hf 0 f0 (by rw [hg];rfl)
 have k1:=hf 1 f1 (by rw [hg];rfl)
 have k2:=hf 2 f2 (by rw [hg];rfl)
 have k3:=hf 3 f3 (by rw [hg];rfl)
 rw [t0,o0,hIc] at k0
 rw [t1,o1,hIc] at k1
 rw [t2,o2,hIc] at k2
 rw [t3,o3,hIc] at k3
 obtain ⟨a0,rfl,w0⟩:=rd_one4 hI k0
 obtain ⟨a1,rfl,w1⟩:=rd_one4 hI k1
 obtain ⟨a2,rfl,w2⟩:=rd_one4 hI k2
 obtain ⟨a3,rfl,w3⟩:=rd_one4 hI k3
 exact ⟨a0,a1,a2,a3,congrArg Value.agg (Array.toList_inj.1 hl2),w0,w1,w2,w3⟩
end
end Go.Proofs.YtkaikaodhegmhaaGreat.E
namespace Go.Proofs.YtkaikaodhegmhaaGreat.E
open Go Go.RowKit
set_option linter.unusedVariables false
theorem walkB {P:Program} {f:FuncId} {args:Array Value} {W:World}
  (h:TRet P f args ⟨W.heap,fun _=>0⟩ fun v s'=>v=.bool true/\Ch [] ⟨W.heap,fun _=>0⟩ s'):
  Calls P f args W fun e W'=>e=.returned (.bool true)/\Below W.heap.size W W':=
 (h W rfl).mono fun e w' ⟨⟨v,s',he,hs,hv,hc⟩,hl⟩=>
  ⟨by rw [he,hv],⟨hl.os,hl.tape,hl.output,by rw [←hs];exact hc.size,fun k hk=>by rw [←hs];exact hc.get k hk (by simp)⟩⟩
theorem walkT {P:Program} {f:FuncId} {args:Array Value} {W:World} {T:List Nat} (hT:0∉T)
  (h:TRet P f args ⟨W.heap,fun _=>0⟩ fun v s'=>v=.bool true/\Ch T ⟨W.heap,fun _=>0⟩ s'):
  Calls P f args W fun e W'=>e=.returned (.bool true)/\Below W.heap.size W W':=
 walkB (h.mono fun v s' ⟨h1,h2⟩=>⟨h1,Chg.mono h2 fun j _ hB=>absurd hB hT⟩)
end Go.Proofs.YtkaikaodhegmhaaGreat.E
namespace Go.Proofs.YtkaikaodhegmhaaGreat.E
open Go
def kindsOf (P:Program) (fn:Func) (c:OpenClaim):List (Option IntKind):=if c.domain.isEmpty then [] else fn.params.toList.map fun t=>match P.underlying t with|some (.int k)=>some k|_=>none
theorem andb {a b:Bool} (h:a=true) (k:b=true):(a&&b)=true:=by rw [h,k];rfl
theorem joined_of {P:Program} {f:FuncId} {fn:Func} {s:ChangeSpec} {c:OpenClaim}
  (j0:(c.wf (OpenSpec.ofChange s))=true)
  (j1:(laidOutB P)=true)
  (j2:(mapsRowed P)=true)
  (j3:(fn.params.all (P.readableRec ·))=true)
  (j4:(namedTie P c.named s.vars)=true)
  (j5:((c.stops==[]))=true)
  (j6:((P.stops==[]))=true)
  (j7:((c.knobs==[]))=true)
  (j8:((P.stopKnobs==[]))=true)
  (j9:((c.inPlace==P.inPlace f))=true)
  (j10:((c.unfollowed==P.unfollowed f))=true)
  (j11:((c.recurses==P.recurses f))=true)
  (j12:((c.named==P.varsNamed f))=true)
  (j13:((c.maps==(fn.params.toList++s.plain.varTypes P).any (P.mapsRec ·)))=true)
  (j14:((c.ifaces==(fn.params.toList++s.plain.varTypes P).any (P.ifacesRec ·)))=true)
  (j15:((c.mapsOut==P.mapsAmong fn.resultTypes.toList))=true)
  (j16:((c.loops==(fn.params.toList++s.plain.varTypes P).any (P.loopsFrom ·)))=true)
  (j17:((c.wideKeys==(fn.params.toList++s.plain.varTypes P++fn.resultTypes.toList).any (P.wideKeysFrom ·)))=true)
  (j18:(s.vars.all (P.varReadable ·))=true)
  (j19:(fn.resultTypes.all (fun t=>P.readableRec t&&decide (t<P.types.size)))=true)
  (j20:((c.ifacesOut==fn.resultTypes.toList.any (P.ifacesRec ·)))=true)
  (j21:((c.loopsOut==fn.resultTypes.toList.any (P.loopsFrom ·)))=true)
  (j22:((c.plainKeys==P.plainKeys))=true)
  (j23:(c.shortTexts.isNone)=true)
  (j24:(P.stopsHeard)=true)
  (j25:(P.mayEnter)=true)
  (j26:((c.lifted==P.liftsFinal))=true)
  (j27:((P.make==some c.make))=true)
  (j28:((c.kinds==kindsOf P fn c))=true)
  (j29:((c.pinned==c.pinnedBy))=true)
  (j30:((c.veiled==(fn.params.toList++s.plain.varTypes P++fn.resultTypes.toList).any (P.veiledRec ·)))=true)
  (j31:(c.veiledFits P fn.params.toList (fn.params.toList++s.plain.varTypes P++fn.resultTypes.toList))=true)
  :joinedFacts P f fn s c=true:=by
 unfold joinedFacts
 exact (andb (andb (andb (andb (andb (andb (andb (andb (andb (andb (andb (andb (andb (andb (andb (andb (andb (andb (andb (andb (andb (andb (andb (andb (andb (andb (andb (andb (andb (andb (andb j0 j1) j2) j3) j4) j5) j6) j7) j8) j9) j10) j11) j12) j13) j14) j15) j16) j17) j18) j19) j20) j21) j22) j23) j24) j25) j26) j27) j28) j29) j30) j31)
end Go.Proofs.YtkaikaodhegmhaaGreat.E
