/- My own texts, joined. -/
import Derived.KernelRfl
import Derived.Laws.StructEq
import Derived.Test.YtkaikaodhegmhaaGreatProg
import Derived.Test.YtkaikaodhegmhaaGreatSS10
namespace Go.Proofs.YtkaikaodhegmhaaGreat.E
open Go Go.Proofs
set_option linter.unusedVariables false
set_option linter.unusedSimpArgs false
theorem bvs_set (l:List UInt8) (i:Nat) (b:UInt8):(bvs l).set i (.int .u8 (b.toNat:Int))=bvs (l.set i b):=by unfold bvs;rw [List.map_set];rfl
def wrL (l:List UInt8) (p:Nat):Nat->Nat->List UInt8
 |0,_=>l
 |k+1,n=>(wrL l p k n).set (p+k) (UInt8.ofNat (n/256^k%256))
theorem wrL_len (l:List UInt8) (p k n:Nat):(wrL l p k n).length=l.length:=by
 induction k with
 |zero=>rfl
 |succ k ih=>rw [wrL,List.length_set,ih]
theorem u8q (q:Nat):IntKind.u8.wrap ((q%256:Nat):Int)=((UInt8.ofNat (q%256)).toNat:Int):=by
 have e:IntKind.u8.wrap ((q%256:Nat):Int)=((q%256:Nat):Int)%256:=rfl
 have e2:(UInt8.ofNat (q%256)).toNat=(q%256)%256:=rfl
 rw [e,e2];omega
theorem tm256 (q:Nat):Int.tmod (q:Int) 256=((q%256:Nat):Int):=by
 rw [Int.tmod_eq_emod_of_nonneg (by omega)];omega
theorem td256 (n k:Nat):Int.tdiv ((n/256^k:Nat):Int) 256=((n/256^(k+1):Nat):Int):=by
 rw [Int.tdiv_eq_ediv_of_nonneg (Int.natCast_nonneg _),Nat.pow_succ, ←Nat.div_div_eq_div_mul]
 generalize n/256^k=q
 omega
theorem pow_w (w:Nat) (h:1<=w/\w<=4):IntKind.i64.wrap (1*2^min (Int.toNat (8*(w:Int))) 64)=((256^w:Nat):Int)/\256^w<=4294967296:=by
 rcases (by omega:w=1∨w=2∨w=3∨w=4) with rfl|rfl|rfl|rfl<;>exact ⟨by decide,by decide⟩
def sumS (l:List UInt8):Nat×Nat:=l.foldl (fun z b=>((z.1+b.toNat)%65521,(z.2+(z.1+b.toNat)%65521)%65521)) (1,0)
def sumN (l:List UInt8):Nat:=(sumS l).2*65536+(sumS l).1
theorem sumS_snoc (l:List UInt8) (b:UInt8):sumS (l++[b])=(((sumS l).1+b.toNat)%65521,((sumS l).2+((sumS l).1+b.toNat)%65521)%65521):=by unfold sumS;rw [List.foldl_append];rfl
theorem sumS_lt (l:List UInt8):(sumS l).1<65521/\(sumS l).2<65521:=by
 rcases List.eq_nil_or_concat l with rfl|⟨m,b,rfl⟩
 ·exact ⟨by decide,by decide⟩
 rw [List.concat_eq_append,sumS_snoc];exact ⟨Nat.mod_lt _ (by decide),Nat.mod_lt _ (by decide)⟩
theorem bvs_get {l:List UInt8} {k:Nat} {b:UInt8} (h:l[k]? =some b):(bvs l)[k]? =some (.int .u8 (b.toNat:Int)):=by unfold bvs;rw [List.getElem?_map,h];rfl
theorem c_rput (τ:Nat) {xa:Option Addr} {xn:Nat} (xc:Nat) {l:List UInt8} {τx:Nat} {s:TH} (hx:Sl s xa (bvs l) τx) (hn:l.length=xn) (h0:xa=none->xn=0) (hb:xn<=1000000000) (p w n:Nat) (hw:1<=w/\w<=4) (hp:p+w<=xn) (hN:n<256^w):TRet Tryz.prog 223 #[.slice xa xn xc,.int .i64 (p:Int),.int .i64 (w:Int),.int .i64 (n:Int)] s fun v s'=>∃a' c',v=.tuple #[.slice a' xn c',.int .i64 0]/\Ch [τ] s s'/\Own s' a' xn c' 5 1 (bvs (wrL l p w n)) τ:=by
 obtain ⟨M,hM⟩: ∃M:Nat,M=256^w:=⟨_,rfl⟩
 have hpw:=pow_w w hw
 rw [←hM] at hN hpw
 refine F223_calls _ _ _ _ _ _  ?_
 unfold F223
 refine jn_u ?_
 refine sB_d (fun g=>by exfalso;omega) (fun g=>?_)
 refine sB_d (fun i=>by exfalso;omega) (fun i=>?_)
 refine sB_d (fun o=>by exfalso;omega) (fun o=>?_)
 refine sB_d (fun r=>by exfalso;omega) (fun r=>?_)
 refine wr_t (by omega) (ask_t (by omega) ?_)
 refine nm_a fun H hn63=>?_
 rw [hpw.1] at hn63
 iterate 20 intro _
 refine dBl_i ?_
 refine sB_d (fun t=>by exfalso;omega) (fun t=>?_)
 refine wr_t (by omega) ?_
 refine sB_d (fun u=>by exfalso;omega) (fun u=>?_)
 refine al_t τ fun I J F C d K=>?_
 have D:=hx.mv d (tagn (by simp))
 refine app_i u49 in5 rfl (C.own0 1) D (by rw [bvs_len];omega) (bvs_one l) h0 (by unfold maxLen;omega) fun b a1 c1 e x hnil=>?_
 have f:=x.toL rfl
 have L:=f.size
 rw [Nat.zero_add,List.nil_append] at e
 simp only [Nat.zero_add]
 refine dSl_i ?_
 refine ⟨fun vs H'=>∃s':TH,s'.h=H'/\∃m j,vs=[.int .i64 m,.int .i64 j]/\ChL [τ] [] b s'/\(∃k:Nat,j=k/\k<=w/\m=((n/256^k:Nat):Int)/\Own s' a1 xn c1 5 1 (bvs (wrL l p k n)) τ),fun vs H'=>match vs with|[.int .i64 m,.int .i64 j]=>((w:Int) - j).toNat|_=>0,⟨b,rfl,_,_,rfl,ChL.refl _ _ _,?_⟩,?_⟩
 ·exact ⟨0,rfl,by omega,by simp,e⟩
 intro m j
 iterate 14 intro _
 intro N hI
 obtain ⟨O,rfl,m_,j_,hvs,c,k,rfl,hk,rfl,a⟩:=hI
 cases hvs
 have P:=c.size
 refine sB_d (fun y=>?_) (fun y=>?_)
 ·refine wr_t (by omega) (ask_t (by omega) ?_)
  rw [tm256]
  refine nm_a fun Q hn55=>?_
  subst hn55
  refine wr_a fun R hn56=>?_
  rw [u8q] at hn56
  subst hn56
  obtain ⟨ad,rfl⟩:=Own.ne_none a (by omega)
  refine nz_i (ask_t (by omega) ?_)
  refine Own.st a rfl (by omega) fun E z A G=>?_
  have B:=Ch.on_tag (T:=[τ]) (Ch.refl _ _) A a.tagOf (by simp)
  refine ask_t (by omega) ?_
  have hle:n/256^(k+1)<=n:=Nat.div_le_self _ _
  obtain ⟨q,hq⟩: ∃q,q=n/256^(k+1):=⟨_,rfl⟩
  rw [td256, ←hq]
  rw [←hq] at hle
  refine wr_t (by omega) (wr_t (by omega) ?_)
  refine ⟨⟨E,rfl,_,_,rfl,(((ChL.refl [τ] [] b).chl c (by simp) (by simp<;>omega)).ch B (by simp)),?_⟩,?_⟩
  ·have ho:=z
   rw [show Int.toNat ((p:Int)+(k:Int))*1=p+k by omega,bvs_set] at ho
   exact ⟨k+1,by omega,by omega,by rw [hq],ho⟩
  simp only [];omega
 refine ret_t ?_
 obtain rfl:k=w:=by omega
 exact ⟨a1,c1,rfl,((((Ch.refl [τ] s).ch d (by simp)).chl f (by simp) (by simp<;>omega)).chl c (by simp) (by simp<;>omega)),a⟩
theorem c_rnum (τ:Nat) {xa:Option Addr} {xn:Nat} (xc:Nat) {l:List UInt8} {τx:Nat} {s:TH} (hx:Sl s xa (bvs l) τx) (hn:l.length=xn) (h0:xa=none->xn=0) (hb:xn<=1000000000) (p w n:Nat) (hw:1<=w/\w<=4) (hp:p+w<=xn) (hN:n<256^w):TRet Tryz.prog 138 #[.slice xa xn xc,.int .i64 (p:Int),.int .i64 (w:Int),.int .i64 (n:Int)] s fun v s'=>∃a' c',v=.slice a' xn c'/\Ch [τ] s s'/\Own s' a' xn c' 5 1 (bvs (wrL l p w n)) τ:=by
 refine F138_calls _ _ _ _ _ _  ?_
 unfold F138
 refine tcall (c_rput τ xc hx hn h0 hb p w n hw hp hN) ?_
 rintro _ s2 ⟨a',c',rfl,a,b⟩
 have c:=a.size
 refine dT2 (dSl_i (dInt_i ?_))
 refine ret_t ?_
 exact ⟨a',c',rfl,((Ch.refl [τ] s).ch a (by simp)),b⟩
theorem c_rsum {xa:Option Addr} {xn:Nat} (xc:Nat) {l:List UInt8} {τx:Nat} {s:TH} (hx:Sl s xa (bvs l) τx) (hn:l.length=xn) (hb:xn<=1000000000):TRet Tryz.prog 152 #[.slice xa xn xc] s fun v s'=>v=.int .i64 (sumN l:Int)/\Ch [] s s':=by
 refine F152_calls _ _ _  ?_
 unfold F152
 refine ⟨fun vs H'=>∃s':TH,s'.h=H'/\∃x1 y1 m,vs=[.int .i64 x1,.int .i64 y1,.int .i64 m]/\ChL [] [] s s'/\(∃k:Nat,m=k/\k<=xn/\x1=((sumS (l.take k)).1:Int)/\y1=((sumS (l.take k)).2:Int)),fun vs H'=>match vs with|[.int .i64 x1,.int .i64 y1,.int .i64 m]=>((xn:Int) - m).toNat|_=>0,⟨s,rfl,_,_,_,rfl,ChL.refl _ _ _,?_⟩,?_⟩
 ·exact ⟨0,rfl,by omega,rfl,rfl⟩
 intro x1 y1 m
 iterate 14 intro _
 intro g hI
 obtain ⟨d,rfl,x1_,y1_,m_,hvs,a,k,rfl,hk,rfl,rfl⟩:=hI
 cases hvs
 have i:=a.size
 refine sB_d (fun c=>?_) (fun c=>?_)
 ·have hk2:k<xn:=by omega
  obtain ⟨b,hbk⟩: ∃b,l[k]? =some b:=⟨l[k]'(by omega),by simp⟩
  obtain ⟨ad,rfl⟩:=hx.some (fun e=>by have:=bvs_get hbk;rw [e] at this;simp at this)
  have hlt:=sumS_lt (l.take k)
  have hb8:=b.toNat_lt
  refine nz_i (ask_t (by omega) ?_)
  have f:=hx.mv a (tagL (by simp<;>omega) (by simp))
  refine ld_sl f (by rw [Int.toNat_natCast,Nat.mul_one];exact bvs_get hbk) ?_
  refine dInt_i (wr_t (by omega) (wr_t (by omega) (ask_t (by omega) ?_)))
  refine nm_a fun j hn27=>?_
  rw [Int.tmod_eq_emod_of_nonneg (by omega)] at hn27
  refine wr_t (by omega) (ask_t (by omega) ?_)
  refine nm_a fun n hn29=>?_
  rw [Int.tmod_eq_emod_of_nonneg (by omega)] at hn29
  refine wr_t (by omega) ?_
  refine ⟨⟨d,rfl,_,_,_,rfl,((ChL.refl [] [] s).chl a (by simp) (by simp<;>omega)),?_⟩,?_⟩
  ·have hs:=sumS_snoc (l.take k) b
   rw [show l.take k++[b]=l.take (k+1) by rw [List.take_add_one,hbk];rfl] at hs
   exact ⟨k+1,by omega,by omega,by rw [hs];simp only [];omega,by rw [hs];simp only [];omega⟩
  simp only [];omega
 have hlt:=sumS_lt (l.take k)
 refine wr_t (by omega) (wr_t (by omega) ?_)
 refine ret_t ?_
 obtain rfl:k=xn:=by omega
 rw [List.take_of_length_le (by omega)]
 exact ⟨ret_i (by unfold sumN;omega),((Ch.refl [] s).chl a (by simp) (by simp<;>omega))⟩
theorem Sl.takeB {s:TH} {a:Option Addr} {l:List UInt8} {τ:Nat} (h:Sl s a (bvs l) τ) (k:Nat):Sl s a (bvs (l.take k)) τ:=by
 rcases h with h|⟨g,o,h1,h2,h3,h4⟩
 ·left
  have:l=[]:=by simpa [bvs] using h
  subst this;simp [bvs]
 refine .inr ⟨g,o,h1,h2,h3,fun j v hv=>h4 j v ?_⟩
 unfold bvs at hv ⊢
 rw [List.map_take,List.getElem?_take] at hv
 split at hv
 ·exact hv
 cases hv
def sealL (l:List UInt8):List UInt8:=wrL l (l.length - 4) 4 (sumN (l.take (l.length - 4)))
theorem sealL_len (l:List UInt8):(sealL l).length=l.length:=wrL_len _ _ _ _
theorem sumN_lt (l:List UInt8):sumN l<256^4:=by
 have:=sumS_lt l
 unfold sumN
 omega
def superBase :List UInt8:=[98,111,108,108]++List.replicate 124 0
def superL (g b n m:Nat):List UInt8:=sealL (wrL (wrL (wrL (wrL superBase 4 1 g) 5 1 (b - 1)) 6 1 n) 8 4 m)
theorem superL_len (g b n m:Nat):(superL g b n m).length=128:=by unfold superL;rw [sealL_len,wrL_len,wrL_len,wrL_len,wrL_len];rfl
def GeoOk (g b n:Nat):Prop:=1<=g/\g<=8/\8<=b/\b<=256/\4<=n/\n<=64/\n%4=0/\3+n/4<=b
theorem c_rseal (τ:Nat) {xa:Option Addr} {xn:Nat} (xc:Nat) {l:List UInt8} {τx:Nat} {s:TH} (hx:Sl s xa (bvs l) τx) (hn:l.length=xn) (h0:xa=none->xn=0) (hb:xn<=1000000000) (hc:xn<=xc) (h4:4<=xn):TRet Tryz.prog 139 #[.slice xa xn xc] s fun v s'=>∃a' c',v=.tuple #[.slice a' xn c',.int .i64 0]/\Ch [τ] s s'/\Own s' a' xn c' 5 1 (bvs (sealL l)) τ:=by
 refine F139_calls _ _ _  ?_
 unfold F139
 refine sB_d (fun c=>by exfalso;omega) (fun c=>?_)
 refine wr_t (by omega) ?_
 rw [show ((xn:Int) - 4)=((xn - 4:Nat):Int) by omega]
 refine wr_t (by omega) (ask_t (by omega) ?_)
 simp only [slO_zero,Int.toNat_zero,Nat.sub_zero,Int.toNat_natCast]
 refine tcall (c_rsum (xn:=xn - 4) xc (hx.takeB (xn - 4)) (by simp;omega) (by omega)) ?_
 rintro _ s4 ⟨rfl,a⟩
 have f:=a.size
 refine dInt_i ?_
 have d:=hx.mv a (tagn (by simp))
 refine tcall (c_rput τ xc d hn h0 hb (xn - 4) 4 (sumN (l.take (xn - 4))) (by omega) (by omega) (sumN_lt _)) ?_
 rintro _ s7 ⟨a',c',rfl,b,e⟩
 have g:=b.size
 refine dT2 (dSl_i (dInt_i ?_))
 refine ret_t ?_
 exact ⟨a',c',rfl,(((Ch.refl [τ] s).ch a (by simp)).ch b (by simp)),by unfold sealL;rw [hn];exact e⟩
theorem c_rmay (g b n:Nat) {s:TH} (hv:GeoOk g b n):TRet Tryz.prog 137 #[.agg #[.int .i64 (g:Int),.int .i64 (b:Int),.int .i64 (n:Int)]] s fun v s'=>v=.bool true/\Ch [] s s':=by
 have hv2:=hv
 unfold GeoOk at hv2
 refine F137_calls _ _ _  ?_
 unfold F137
 refine al_t 0 fun r1 s2 l a k m=>?_
 refine ld_t a rfl (dInt_i ?_)
 refine sB_d (fun c=>?_) (fun c=>by exfalso;omega)
 refine ld_t a rfl (dInt_i ?_)
 refine sB_d (fun d=>?_) (fun d=>by exfalso;omega)
 refine ld_t a rfl (dInt_i ?_)
 refine sB_d (fun e=>?_) (fun e=>by exfalso;omega)
 refine ld_t a rfl (dInt_i ?_)
 refine sB_d (fun f=>?_) (fun f=>by exfalso;omega)
 refine ld_t a rfl (dInt_i ?_)
 refine sB_d (fun h=>?_) (fun h=>by exfalso;omega)
 refine ld_t a rfl (dInt_i ?_)
 refine sB_d (fun i=>?_) (fun i=>by exfalso;omega)
 refine ld_t a rfl (dInt_i (ask_t (by omega) ?_))
 refine nm_a fun o hn17=>?_
 rw [Int.tmod_eq_emod_of_nonneg (by omega)] at hn17
 refine sB_eq (fun j=>?_) (fun j=>by exfalso;omega)
 refine ld_t a rfl (dInt_i (ld_t a rfl (dInt_i (ask_t (by omega) ?_))))
 rw [Int.tdiv_eq_ediv_of_nonneg (by omega)]
 refine wr_t (by omega) (wr_t (by omega) ?_)
 refine ret_t ?_
 exact ⟨ret_b (by simp;omega),((Ch.refl [] s).ch k (by simp))⟩
theorem c_encSuper (τ:Nat) (g b n m:Nat) {s:TH} (hτ:τ≠0) (hv:GeoOk g b n) (hm:m<4294967296):TRet Tryz.prog 60 #[.agg #[.int .i64 (g:Int),.int .i64 (b:Int),.int .i64 (n:Int),.int .i64 (m:Int)]] s fun v s'=>∃a' c',v=.tuple #[.slice a' 128 c',.int .i64 0]/\Ch [τ] s s'/\Own s' a' 128 c' 5 1 (bvs (superL g b n m)) τ:=by
 have hv2:=hv
 unfold GeoOk at hv2
 refine F60_calls _ _ _ _  ?_
 unfold F60
 refine al_t 0 fun r1 s2 S j A T=>?_
 refine jn_u ?_
 refine ld_t j rfl (ld_t j rfl (ld_t j rfl ?_))
 refine tcall (c_rmay g b n hv) ?_
 rintro _ U ⟨rfl,k⟩
 have V:=k.size
 refine dBl_i (sB_f (by rfl) ?_)
 have r1_6:=j.ch k (by simp)
 refine ld_t r1_6 rfl (dInt_i ?_)
 refine sB_d (fun x=>by exfalso;omega) (fun x=>?_)
 refine ld_t r1_6 rfl (dInt_i ?_)
 iterate 13 intro _
 refine dBl_i ?_
 refine sB_d (fun y=>by exfalso;omega) (fun y=>?_)
 refine al_t 0 fun W X K B w Y=>?_
 refine conv_lit u49 u5 (show Blk _ _ (bvs [98,111,108,108]) _ _ from B) rfl fun Z l a hsz=>?_
 have L:=a.size
 refine dSl_i ?_
 refine appz_g (m:=124) τ u49 u3 in5 l rfl (by omega) (by omega) fun aa a2 c2 o c hne=>?_
 have M:=c.size
 refine dSl_i ?_
 have r1_16:=r1_6.ch w (by simp)
 have r1_17:=r1_16.on a (by omega)
 have r1_18:=r1_17.ch c (by simp)
 refine ld_t r1_18 rfl (dInt_i ?_)
 refine tcall (c_rnum τ _ o.sl (by simp [wrL_len,superBase]) o.none_iff (by omega) 4 1 g (by omega) (by omega) (by unfold GeoOk at hv;omega)) ?_
 rintro _ ab ⟨C,D,rfl,d,p⟩
 have N:=d.size
 refine dSl_i ?_
 have r1_22:=r1_18.ch d (by intro h;simp only [List.mem_cons,List.not_mem_nil,or_false] at h<;>omega)
 refine ld_t r1_22 rfl (dInt_i (wr_t (by omega) ?_))
 rw [show ((b:Int) - 1)=((b - 1:Nat):Int) by omega]
 refine tcall (c_rnum τ _ p.sl (by simp [wrL_len,superBase]) p.none_iff (by omega) 5 1 (b - 1) (by omega) (by omega) (by unfold GeoOk at hv;omega)) ?_
 rintro _ ac ⟨E,F,rfl,e,q⟩
 have O:=e.size
 refine dSl_i ?_
 have r1_26:=r1_22.ch e (by intro h;simp only [List.mem_cons,List.not_mem_nil,or_false] at h<;>omega)
 refine ld_t r1_26 rfl (dInt_i ?_)
 refine tcall (c_rnum τ _ q.sl (by simp [wrL_len,superBase]) q.none_iff (by omega) 6 1 n (by omega) (by omega) (by unfold GeoOk at hv;omega)) ?_
 rintro _ ad ⟨G,H,rfl,f,r⟩
 have P:=f.size
 refine dSl_i ?_
 have r1_30:=r1_26.ch f (by intro h;simp only [List.mem_cons,List.not_mem_nil,or_false] at h<;>omega)
 refine ld_t r1_30 rfl (dInt_i ?_)
 refine tcall (c_rnum τ _ r.sl (by simp [wrL_len,superBase]) r.none_iff (by omega) 8 4 m (by omega) (by omega) (by omega)) ?_
 rintro _ ae ⟨I,J,rfl,t,i⟩
 have Q:=t.size
 refine dSl_i ?_
 refine tcall (c_rseal τ _ i.sl (by simp [wrL_len,superBase]) i.none_iff (by omega) i.le (by omega)) ?_
 rintro _ af ⟨a6,c6,rfl,u,z⟩
 have R:=u.size
 refine dT2 (dSl_i (dInt_i ?_))
 refine ret_t ?_
 exact ⟨a6,c6,rfl,(((((((((((Ch.refl [τ] s).ch A (by simp)).ch k (by simp)).ch w (by simp)).on_new a (by omega)).ch c (by simp)).ch d (by simp)).ch e (by simp)).ch f (by simp)).ch t (by simp)).ch u (by simp)),z⟩
end Go.Proofs.YtkaikaodhegmhaaGreat.E
namespace Go.Proofs.YtkaikaodhegmhaaGreat.E
open Go Go.Proofs
set_option linter.unusedVariables false
set_option linter.unusedSimpArgs false
def hasB (l:List UInt8) (i:Nat):Bool:=((l.getD (i/8) 0).toNat/2^(i%8))%2==1
def xorB (b:UInt8) (k:Nat):UInt8:=UInt8.ofBitVec (b.toBitVec ^^^ BitVec.ofNat 8 (2^k))
def setB (l:List UInt8) (i:Nat):List UInt8:=if hasB l i=true then l else l.set (i/8) (xorB (l.getD (i/8) 0) (i%8))
theorem setB_len (l:List UInt8) (i:Nat):(setB l i).length=l.length:=by unfold setB;split<;>simp
theorem td8 (i:Nat):Int.tdiv (i:Int) 8=((i/8:Nat):Int):=by rw [Int.tdiv_eq_ediv_of_nonneg (by omega)];omega
theorem tm8 (i:Nat):Int.tmod (i:Int) 8=((i%8:Nat):Int):=by rw [Int.tmod_eq_emod_of_nonneg (by omega)];omega
theorem shr8 (b k:Nat) (hk:k<8):Int.fdiv (b:Int) (2^min (Int.toNat (k:Int)) 8)=((b/2^k:Nat):Int):=by
 rw [Int.toNat_natCast,Nat.min_eq_left (by omega),Int.fdiv_eq_ediv_of_nonneg _ (by exact Int.le_of_lt (Int.pow_pos (by omega)))]
 rw [Int.natCast_ediv,Int.natCast_pow];rfl
theorem tm2 (q:Nat):Int.tmod (q:Int) 2=((q%2:Nat):Int):=by rw [Int.tmod_eq_emod_of_nonneg (by omega)];omega
theorem shl8 (k:Nat) (hk:k<8):IntKind.u8.wrap (1*2^min (Int.toNat (k:Int)) 8)=((2^k:Nat):Int):=by
 rcases (by omega:k=0∨k=1∨k=2∨k=3∨k=4∨k=5∨k=6∨k=7) with rfl|rfl|rfl|rfl|rfl|rfl|rfl|rfl<;>decide
theorem xor8 (b:UInt8) (k:Nat):IntKind.u8.wrap (BitVec.toNat (BitVec.ofInt 8 (b.toNat:Int) ^^^ BitVec.ofInt 8 ((2^k:Nat):Int)):Int)=((xorB b k).toNat:Int):=by
 have e1:BitVec.ofInt 8 (b.toNat:Int)=b.toBitVec:=by
  rw [BitVec.ofInt_natCast];simp
 have e2:BitVec.ofInt 8 ((2^k:Nat):Int)=BitVec.ofNat 8 (2^k):=BitVec.ofInt_natCast 8 (2^k)
 rw [e1,e2]
 show (_:Int)%256=_
 have:=(b.toBitVec ^^^ BitVec.ofNat 8 (2^k)).isLt
 unfold xorB
 show ((BitVec.toNat (b.toBitVec ^^^ BitVec.ofNat 8 (2^k)):Nat):Int)%256=((BitVec.toNat (b.toBitVec ^^^ BitVec.ofNat 8 (2^k)):Nat):Int)
 omega
theorem c_rhasb {xa:Option Addr} {xn:Nat} (xc:Nat) {l:List UInt8} {τx:Nat} {s:TH} (hx:Sl s xa (bvs l) τx) (hn:l.length=xn) (i:Nat) (hi:i<=100000000000):TRet Tryz.prog 269 #[.slice xa xn xc,.int .i64 (i:Int)] s fun v s'=>v=.bool (hasB l i)/\Ch [] s s':=by
 refine F269_calls _ _ _ _  ?_
 unfold F269
 refine sB_d (fun a=>?_) (fun a=>by exfalso;omega)
 refine ask_t (by omega) ?_
 try rw [td8]
 refine wr_t (by omega) ?_
 refine sB_d (fun c=>?_) (fun c=>?_)
 ·refine ask_t (by omega) ?_
  try rw [td8]
  refine wr_t (by omega) ?_
  obtain ⟨b,hbk⟩: ∃b,l[i/8]? =some b:=⟨l[i/8]'(by omega),by simp⟩
  have hgd:l.getD (i/8) 0=b:=by rw [List.getD_eq_getElem?_getD,hbk];rfl
  obtain ⟨ad,rfl⟩:=hx.some (fun e=>by have:=bvs_get hbk;rw [e] at this;simp at this)
  refine nz_i (ask_t (by omega) ?_)
  refine ld_sl hx (by rw [Int.toNat_natCast,Nat.mul_one];exact bvs_get hbk) ?_
  refine dInt_i (ask_t (by omega) ?_)
  rw [tm8]
  refine nm_t rfl ?_
  refine ask_t (by omega) ?_
  rw [shr8 _ _ (by omega)]
  refine nm_t rfl ?_
  refine ask_t (by omega) ?_
  rw [tm2]
  refine nm_t rfl ?_
  refine ret_t ?_
  exact ⟨ret_b (by unfold hasB;rw [hgd];apply Bool.eq_iff_iff.2;simp only [beq_iff_eq];omega),(Ch.refl [] s)⟩
 refine ret_t ?_
 exact ⟨ret_b (by unfold hasB;rw [List.getD_eq_getElem?_getD,List.getElem?_eq_none (by omega)];simp),(Ch.refl [] s)⟩
theorem c_rwith (τ:Nat) {xa:Option Addr} {xn:Nat} (xc:Nat) {l:List UInt8} {τx:Nat} {s:TH} (hx:Sl s xa (bvs l) τx) (hn:l.length=xn) (h0:xa=none->xn=0) (hb:xn<=1000000000) (i:Nat) (hi:i/8<xn) (hne:τx≠τ):TRet Tryz.prog 194 #[.slice xa xn xc,.int .i64 (i:Int),.bool true] s fun v s'=>∃a' c',v=.tuple #[.slice a' xn c',.int .i64 0]/\Ch [τ] s s'/\Own s' a' xn c' 5 1 (bvs (setB l i)) τ:=by
 refine F194_calls _ _ _ _ _  ?_
 unfold F194
 refine jn_u ?_
 refine sB_d (fun k=>by exfalso;omega) (fun k=>?_)
 refine ask_t (by omega) ?_
 try rw [td8]
 refine wr_t (by omega) ?_
 iterate 8 intro _
 refine dBl_i ?_
 refine sB_d (fun m=>by exfalso;omega) (fun m=>?_)
 refine al_t τ fun z A w h f B=>?_
 have j:=hx.mv f (tagn (by simp))
 refine app_i u49 in5 rfl (h.own0 1) j (by rw [bvs_len];omega) (bvs_one l) h0 (by unfold maxLen;omega) fun C a1 c1 g n hnil=>?_
 have e:=n.toL rfl
 have D:=e.size
 rw [Nat.zero_add,List.nil_append] at g
 simp only [Nat.zero_add]
 refine dSl_i ?_
 refine jn_u ?_
 have u:=j.mv e (tagL (by simp<;>omega) (by intro r hr;simp only [List.mem_cons,List.not_mem_nil,or_false] at hr;rcases hr with rfl<;>first|(rw [h.tag];simp<;>omega)))
 refine tcall (c_rhasb xc u hn i (by omega)) ?_
 rintro _ E ⟨rfl,d⟩
 have x:=d.size
 refine dBl_i ?_
 first|refine sB_d (fun a=>?_) (fun a=>?_)|refine sB_nd (fun a=>?_) (fun a=>?_)|refine sB_n (fun a=>?_) (fun a=>?_)|refine sB_i (fun a=>?_) (fun a=>?_)
 ·refine ask_t (by omega) ?_
  try rw [td8]
  refine wr_t (by omega) (ask_t (by omega) ?_)
  try rw [td8]
  refine wr_t (by omega) ?_
  have c:=g.mv d (tagn (by simp))
  have hnh:hasB l i=false:=by simpa using a
  obtain ⟨b,hbk⟩: ∃b,l[i/8]? =some b:=⟨l[i/8]'(by omega),by simp⟩
  have hgd:l.getD (i/8) 0=b:=by rw [List.getD_eq_getElem?_getD,hbk];rfl
  obtain ⟨ad,rfl⟩:=Own.ne_none c (by omega)
  refine nz_i (ask_t (by omega) ?_)
  refine ld_sl (c.sl) (by rw [Int.toNat_natCast,Nat.mul_one];exact bvs_get hbk) ?_
  refine dInt_i (ask_t (by omega) ?_)
  rw [tm8]
  refine nm_t rfl ?_
  refine ask_t (by omega) ?_
  rw [shl8 _ (by omega)]
  refine nm_t rfl ?_
  rw [xor8]
  refine nm_t rfl ?_
  refine nz_i (ask_t (by omega) ?_)
  refine Own.st c rfl (by omega) fun F o p y=>?_
  have q:=Ch.on_tag (T:=[τ]) (Ch.refl _ _) p c.tagOf (by simp)
  iterate 18 intro _
  refine ret_t ?_
  have ho:=o
  rw [show Int.toNat ((i/8:Nat):Int)*1=i/8 by omega,bvs_set] at ho
  exact ⟨_,c1,rfl,(((((Ch.refl [τ] s).ch f (by simp)).chl e (by simp) (by simp<;>omega)).ch d (by simp)).ch q (by simp)),by unfold setB;rw [if_neg (by simp [hnh]),hgd];exact ho⟩
 iterate 18 intro _
 refine ret_t ?_
 have t:=g.mv d (tagn (by simp))
 have hh:hasB l i=true:=by simpa using a
 exact ⟨a1,c1,rfl,((((Ch.refl [τ] s).ch f (by simp)).chl e (by simp) (by simp<;>omega)).ch d (by simp)),by unfold setB;rw [if_pos hh];exact t⟩
end Go.Proofs.YtkaikaodhegmhaaGreat.E
namespace Go.Proofs.YtkaikaodhegmhaaGreat.E
open Go Go.Proofs
set_option linter.unusedVariables false
set_option linter.unusedSimpArgs false
theorem rowZ_by (n:Nat):rowZ [.int .u8 0] n=bvs (List.replicate n 0):=by
 induction n with
 |zero=>rfl
 |succ n ih=>rw [List.replicate_succ,bvs,List.map_cons, ←bvs, ←ih];rfl
def DinOk (m l z:Nat) (d0 d1 d2 d3 e1 e2:Nat):Prop:=(m=1∨m=2)/\l<=1000/\z<=532992/\d0<2048/\d1<2048/\d2<2048/\d3<2048/\e1<2048/\e2<2048/\(m=2->z%128=0)
def dirL (l:List UInt8) (d:List Nat):Nat->List UInt8
 |0=>l
 |k+1=>wrL (dirL l d k) (8+2*k) 2 (d.getD k 0)
theorem dirL_len (l:List UInt8) (d:List Nat) (k:Nat):(dirL l d k).length=l.length:=by
 induction k with
 |zero=>rfl
 |succ k ih=>rw [dirL,wrL_len,ih]
def dinL (m l z d0 d1 d2 d3 e1 e2:Nat):List UInt8:=
 sealL (wrL (wrL (dirL (wrL (wrL (wrL (List.replicate 32 0) 0 1 m) 2 2 l) 4 4 z) [d0,d1,d2,d3] 4) 16 2 e1) 18 2 e2)
theorem dinL_len (m l z d0 d1 d2 d3 e1 e2:Nat):(dinL m l z d0 d1 d2 d3 e1 e2).length=32:=by unfold dinL;rw [sealL_len,wrL_len,wrL_len,dirL_len,wrL_len,wrL_len,wrL_len];simp
theorem c_raddr (n:Nat) {s:TH}:TRet Tryz.prog 270 #[.int .i64 (n:Int)] s fun v s'=>v=.bool (decide (n<2048))/\Ch [] s s':=by
 refine F270_calls _  ?_
 unfold F270
 refine sB_d (fun a=>?_) (fun a=>by exfalso;omega)
 refine ret_t ?_
 exact ⟨ret_b (by apply Bool.eq_iff_iff.2;simp only [decide_eq_true_eq];omega),(Ch.refl [] s)⟩
theorem c_rmayd (m l z d0 d1 d2 d3 e1 e2:Nat) {s:TH} (hv:DinOk m l z d0 d1 d2 d3 e1 e2):TRet Tryz.prog 196 #[.agg #[.int .i64 (m:Int),.int .i64 (l:Int),.int .i64 (z:Int),.int .i64 (d0:Int),.int .i64 (d1:Int),.int .i64 (d2:Int),.int .i64 (d3:Int),.int .i64 (e1:Int),.int .i64 (e2:Int)]] s fun v s'=>v=.bool true/\Ch [] s s':=by
 have hv2:=hv
 unfold DinOk at hv2
 refine F196_calls _ _ _ _ _ _ _ _ _  ?_
 unfold F196
 refine al_t 0 fun r1 s2 F a q G=>?_
 refine ld_t a rfl (dInt_i ?_)
 refine sB_eq (fun u=>by exfalso;omega) (fun u=>?_)
 refine jn1 (fun r s'=>ChL [] [] s2 s'/\(r=Value.bool false)) ?_ ?_
 ·rintro r f ⟨e,rfl⟩
  have H:=e.size
  iterate 27 intro _
  refine dBl_i (sB_f (by rfl) ?_)
  have r1_6:=a.chl e (by simp<;>omega) (by simp<;>omega)
  refine ld_t r1_6 rfl (ld_t r1_6 rfl (ld_t r1_6 rfl (ld_t r1_6 rfl ?_)))
  refine ⟨fun vs H'=>∃s':TH,s'.h=H'/\∃i0,vs=[.int .i64 i0]/\ChL [] [] f s'/\(∃k:Nat,i0=k/\k<=4),fun vs H'=>match vs with|[.int .i64 i0]=>(4 - i0).toNat|_=>0,⟨f,rfl,_,rfl,ChL.refl _ _ _,?_⟩,?_⟩
  ·exact ⟨0,rfl,by omega⟩
  intro i0
  iterate 8 intro _
  intro I hI
  obtain ⟨J,rfl,i0_,hvs,d,k,rfl,hk⟩:=hI
  cases hvs
  have K:=d.size
  refine sB_d (fun w=>?_) (fun w=>?_)
  ·refine ask_t (by omega) ?_
   obtain ⟨dk,hdk,hgk,hdl⟩: ∃dk:Nat,([Value.int .i64 (d0:Int),.int .i64 (d1:Int),.int .i64 (d2:Int),.int .i64 (d3:Int)]:List Value)[Int.toNat (k:Int)*1]? =some (.int .i64 (dk:Int))/\[d0,d1,d2,d3].getD k 0=dk/\dk<2048:=by rcases (by omega:k=0∨k=1∨k=2∨k=3) with rfl|rfl|rfl|rfl<;>first|exact ⟨d0,rfl,rfl,by omega⟩|exact ⟨d1,rfl,rfl,by omega⟩|exact ⟨d2,rfl,rfl,by omega⟩|exact ⟨d3,rfl,rfl,by omega⟩
   refine oV_i hdk ?_
   refine dInt_i ?_
   refine tcall (c_raddr dk) ?_
   rintro _ B ⟨rfl,t⟩
   have C:=t.size
   refine dBl_i ?_
   refine sB_f (by simp [hdl]) ?_
   refine wr_t (by omega) ?_
   refine ⟨⟨B,rfl,_,rfl,(((ChL.refl [] [] f).chl d (by simp) (by simp<;>omega)).ch t (by simp)),?_⟩,?_⟩
   ·exact ⟨k+1,by omega,by omega⟩
   simp only [];omega
  have r1_11:=r1_6.chl d (by simp<;>omega) (by simp<;>omega)
  refine ld_t r1_11 rfl (dInt_i ?_)
  refine tcall (c_raddr e1) ?_
  rintro _ L ⟨rfl,b⟩
  have D:=b.size
  refine dBl_i ?_
  refine sB_t (by simp;omega) ?_
  have r1_14:=r1_11.ch b (by simp)
  refine ld_t r1_14 rfl (dInt_i ?_)
  refine tcall (c_raddr e2) ?_
  rintro _ M ⟨rfl,c⟩
  have E:=c.size
  refine dBl_i ?_
  refine sB_t (by simp;omega) ?_
  have r1_17:=r1_14.ch c (by simp)
  refine ld_t r1_17 rfl (dInt_i ?_)
  refine sB_ne (fun x=>?_) (fun x=>?_)
  ·refine ret_t ?_
   exact ⟨ret_b (by first|rfl|(have hz:=hv2.2.2.2.2.2.2.2.2.2 (by omega);exact beq_iff_eq.2 (by omega))),((((((Ch.refl [] s).ch q (by simp)).chl e (by simp) (by simp<;>omega)).chl d (by simp) (by simp<;>omega)).ch b (by simp)).ch c (by simp))⟩
  refine ld_t r1_17 rfl (dInt_i (ask_t (by omega) ?_))
  refine nm_a fun N hn88=>?_
  rw [Int.tmod_eq_emod_of_nonneg (by omega)] at hn88
  refine ret_t ?_
  exact ⟨ret_b (by first|rfl|(have hz:=hv2.2.2.2.2.2.2.2.2.2 (by omega);exact beq_iff_eq.2 (by omega))),((((((Ch.refl [] s).ch q (by simp)).chl e (by simp) (by simp<;>omega)).chl d (by simp) (by simp<;>omega)).ch b (by simp)).ch c (by simp))⟩
 intro k93 hk93
 refine ld_t a rfl (dInt_i ?_)
 refine sB_ne (fun y=>?_) (fun y=>?_)
 ·refine ld_t a rfl (dInt_i ?_)
  refine sB_ne (fun A=>by exfalso;omega) (fun A=>?_)
  refine ld_t a rfl (dInt_i ?_)
  refine sB_d (fun g=>by exfalso;omega) (fun g=>?_)
  refine ld_t a rfl (dInt_i ?_)
  refine sB_d (fun i=>by exfalso;omega) (fun i=>?_)
  refine ld_t a rfl (dInt_i ?_)
  refine sB_d (fun j=>by exfalso;omega) (fun j=>?_)
  refine ld_t a rfl (dInt_i ?_)
  refine hk93 _ _ ⟨(ChL.refl [] [] s2),?_⟩
  exact congrArg Value.bool (by simp;omega)
 refine ld_t a rfl (dInt_i ?_)
 refine sB_d (fun n=>by exfalso;omega) (fun n=>?_)
 refine ld_t a rfl (dInt_i ?_)
 refine sB_d (fun o=>by exfalso;omega) (fun o=>?_)
 refine ld_t a rfl (dInt_i ?_)
 refine sB_d (fun p=>by exfalso;omega) (fun p=>?_)
 refine ld_t a rfl (dInt_i ?_)
 refine hk93 _ _ ⟨(ChL.refl [] [] s2),?_⟩
 exact congrArg Value.bool (by simp;omega)
theorem c_encDin (τ:Nat) (m l z d0 d1 d2 d3 e1 e2:Nat) {s:TH} (hτ:τ≠0) (hv:DinOk m l z d0 d1 d2 d3 e1 e2):TRet Tryz.prog 101 #[.agg #[.int .i64 (m:Int),.int .i64 (l:Int),.int .i64 (z:Int),.int .i64 (d0:Int),.int .i64 (d1:Int),.int .i64 (d2:Int),.int .i64 (d3:Int),.int .i64 (e1:Int),.int .i64 (e2:Int)]] s fun v s'=>∃a' c',v=.tuple #[.slice a' 32 c',.int .i64 0]/\Ch [τ] s s'/\Own s' a' 32 c' 5 1 (bvs (dinL m l z d0 d1 d2 d3 e1 e2)) τ:=by
 have hv2:=hv
 unfold DinOk at hv2
 refine F101_calls _ _ _ _ _ _ _ _ _  ?_
 unfold F101
 refine al_t 0 fun r1 s2 ab a D ac=>?_
 refine ld_t a rfl (ld_t a rfl (ld_t a rfl (ld_t a rfl (ld_t a rfl (ld_t a rfl (ld_t a rfl (ld_t a rfl ?_)))))))
 refine ld_t a rfl ?_
 refine tcall (c_rmayd _ _ _ _ _ _ _ _ _ hv) ?_
 rintro _ ad ⟨rfl,j⟩
 have ae:=j.size
 refine dBl_i (sB_f (by rfl) (ask_t (by omega) ?_))
 refine al_t 0 fun af ag S E w ah=>?_
 have hz0:=E.sl
 rw [rowZ_by] at hz0
 have r1_9:=a.ch j (by simp)
 have r1_10:=r1_9.ch w (by simp)
 refine ld_t r1_10 rfl (dInt_i ?_)
 refine sB_eq (fun x=>by exfalso;omega) (fun x=>?_)
 refine ld_t r1_10 rfl (dInt_i ?_)
 refine tcall (c_rnum τ _ hz0 (by simp) (by intro h;cases h) (by omega) 0 1 m (by omega) (by omega) (by omega)) ?_
 rintro _ ai ⟨F,G,rfl,d,n⟩
 have T:=d.size
 refine dSl_i ?_
 have r1_14:=r1_10.ch d (by intro h;simp only [List.mem_cons,List.not_mem_nil,or_false] at h<;>omega)
 refine ld_t r1_14 rfl (dInt_i ?_)
 refine tcall (c_rnum τ _ n.sl (by simp [wrL_len,dirL_len]) n.none_iff (by omega) 2 2 l (by omega) (by omega) (by omega)) ?_
 rintro _ aj ⟨H,I,rfl,e,o⟩
 have U:=e.size
 refine dSl_i ?_
 have r1_18:=r1_14.ch e (by intro h;simp only [List.mem_cons,List.not_mem_nil,or_false] at h<;>omega)
 refine ld_t r1_18 rfl (dInt_i ?_)
 refine tcall (c_rnum τ _ o.sl (by simp [wrL_len,dirL_len]) o.none_iff (by omega) 4 4 z (by omega) (by omega) (by omega)) ?_
 rintro _ p ⟨J,K,rfl,f,y⟩
 have V:=f.size
 refine dSl_i ?_
 have r1_22:=r1_18.ch f (by intro h;simp only [List.mem_cons,List.not_mem_nil,or_false] at h<;>omega)
 refine ld_t r1_22 rfl (ld_t r1_22 rfl (ld_t r1_22 rfl (ld_t r1_22 rfl ?_)))
 refine ⟨fun vs H'=>∃s':TH,s'.h=H'/\∃pa pn pc i0,vs=[.slice pa pn pc,.int .i64 i0]/\ChL [τ] [] p s'/\(∃k:Nat,i0=k/\k<=4/\pn=32/\Own s' pa 32 pc 5 1 (bvs (dirL (wrL (wrL (wrL (List.replicate 32 0) 0 1 m) 2 2 l) 4 4 z) [d0,d1,d2,d3] k)) τ),fun vs H'=>match vs with|[.slice pa pn pc,.int .i64 i0]=>(4 - i0).toNat|_=>0,⟨p,rfl,_,_,_,_,rfl,ChL.refl _ _ _,?_⟩,?_⟩
 ·exact ⟨0,rfl,by omega,rfl,y⟩
 intro pa pn pc i0
 iterate 12 intro _
 intro ak hI
 obtain ⟨al,rfl,pa_,pn_,pc_,i0_,hvs,b,k,rfl,hk,rfl,c⟩:=hI
 cases hvs
 have W:=b.size
 refine sB_d (fun A=>?_) (fun A=>?_)
 ·refine ask_t (by omega) ?_
  obtain ⟨dk,hdk,hgk,hdl⟩: ∃dk:Nat,([Value.int .i64 (d0:Int),.int .i64 (d1:Int),.int .i64 (d2:Int),.int .i64 (d3:Int)]:List Value)[Int.toNat (k:Int)*1]? =some (.int .i64 (dk:Int))/\[d0,d1,d2,d3].getD k 0=dk/\dk<2048:=by rcases (by omega:k=0∨k=1∨k=2∨k=3) with rfl|rfl|rfl|rfl<;>first|exact ⟨d0,rfl,rfl,by omega⟩|exact ⟨d1,rfl,rfl,by omega⟩|exact ⟨d2,rfl,rfl,by omega⟩|exact ⟨d3,rfl,rfl,by omega⟩
  refine oV_i hdk ?_
  refine dInt_i (wr_t (by omega) (wr_t (by omega) ?_))
  rw [show (8+2*(k:Int))=((8+2*k:Nat):Int) by omega]
  refine tcall (c_rnum τ _ c.sl (by simp [wrL_len,dirL_len]) c.none_iff (by omega) (8+2*k) 2 dk (by omega) (by omega) (by omega)) ?_
  rintro _ L ⟨M,N,rfl,q,B⟩
  have X:=q.size
  refine dSl_i (wr_t (by omega) ?_)
  refine ⟨⟨L,rfl,_,_,_,_,rfl,(((ChL.refl [τ] [] p).chl b (by simp) (by simp<;>omega)).ch q (by simp)),?_⟩,?_⟩
  ·exact ⟨k+1,by omega,by omega,rfl,by have ho:=B;rw [dirL,hgk];exact ho⟩
  simp only [];omega
 have r1_29:=r1_22.chl b (by simp<;>omega) (by simp<;>omega)
 refine ld_t r1_29 rfl (dInt_i ?_)
 obtain rfl:k=4:=by omega
 refine tcall (c_rnum τ _ c.sl (by simp [wrL_len,dirL_len]) c.none_iff (by omega) 16 2 e1 (by omega) (by omega) (by omega)) ?_
 rintro _ am ⟨O,P,rfl,g,r⟩
 have Y:=g.size
 refine dSl_i ?_
 have r1_33:=r1_29.ch g (by intro h;simp only [List.mem_cons,List.not_mem_nil,or_false] at h<;>omega)
 refine ld_t r1_33 rfl (dInt_i ?_)
 refine tcall (c_rnum τ _ r.sl (by simp [wrL_len,dirL_len]) r.none_iff (by omega) 18 2 e2 (by omega) (by omega) (by omega)) ?_
 rintro _ an ⟨Q,R,rfl,t,i⟩
 have Z:=t.size
 refine dSl_i ?_
 refine tcall (c_rseal τ _ i.sl (by simp [wrL_len,dirL_len]) i.none_iff (by omega) i.le (by omega)) ?_
 rintro _ ao ⟨a8,c8,rfl,u,C⟩
 have aa:=u.size
 refine dT2 (dSl_i (dInt_i ?_))
 refine ret_t ?_
 exact ⟨a8,c8,rfl,(((((((((((Ch.refl [τ] s).ch D (by simp)).ch j (by simp)).ch w (by simp)).ch d (by simp)).ch e (by simp)).ch f (by simp)).chl b (by simp) (by simp<;>omega)).ch g (by simp)).ch t (by simp)).ch u (by simp)),C⟩
end Go.Proofs.YtkaikaodhegmhaaGreat.E
namespace Go.Proofs.YtkaikaodhegmhaaGreat.E
open Go Go.Proofs
set_option linter.unusedVariables false
set_option linter.unusedSimpArgs false
theorem eqf_last {P:Program} {d:Nat} {xs ys:Array Value} {f:Field} {a b:Value} {r:Bool} {w:World} (hn:(f.name== "_")=false) (ha:(part f.type xs f.offset).run P w=.ok a w) (hb:(part f.type ys f.offset).run P w=.ok b w) (he:(Op.equalIn d f.type a b).run P w=.ok r w):(Op.eqFields d xs ys [f]).run P w=.ok r w:=by
 have hn':f.name≠ "_" :=by simpa using hn
 simp only [Op.eqFields,if_pos hn',Sem.run_bind,ha,hb,he,Result.andThen_ok]
 cases r<;>simp
theorem eqf_cons {P:Program} {d:Nat} {xs ys:Array Value} {f:Field} {fs:List Field} {a b:Value} {r s:Bool} {w:World} (hn:(f.name== "_")=false) (ha:(part f.type xs f.offset).run P w=.ok a w) (hb:(part f.type ys f.offset).run P w=.ok b w) (he:(Op.equalIn d f.type a b).run P w=.ok r w) (hr:(Op.eqFields d xs ys fs).run P w=.ok s w):(Op.eqFields d xs ys (f::fs)).run P w=.ok (r&&s) w:=by
 have hn':f.name≠ "_" :=by simpa using hn
 rw [Op.eqFields]
 simp only [if_pos hn',Sem.run_bind,ha,hb,he,Result.andThen_ok]
 cases r
 ·simp
 simpa using hr
theorem ent_fields:Tryz.prog.fieldsOf 170=#[{ name:= "Ino",type:=3,offset:=0,embedded:=false,tag:= "",pkgPath:= "",byteOffset:=0 },{ name:= "Name",type:=9,offset:=1,embedded:=false,tag:= "",pkgPath:= "",byteOffset:=8 }]:=by kernel_rfl
theorem eq_ent {E:List PanicEntry->Heap->Prop} {s:TH} {a b:Int} {c d:ByteArray} {x y:Operand} {K:Value->Heap->Prop} (hk:K (.bool (a==b&&c==d)) s.h):
  semW Tryz.prog (eqSem .eql 170 x y (.agg #[.int .i64 a,.string c]) (.agg #[.int .i64 b,.string d])) E s.h K:=.mk fun w hw=>by
 have hgt:Tryz.prog.eqGuardType Tryz.prog.depth 170=false:=by kernel_rfl
 have hs:Tryz.prog.stoodInHeld 170=false:=by kernel_rfl
 have hu:Tryz.prog.underlying 170=some (.struct (Tryz.prog.fieldsOf 170)):=by kernel_rfl
 have hf: ∀n,(Op.eqFields (n+1) #[.int .i64 a,.string c] #[.int .i64 b,.string d] (Tryz.prog.fieldsOf 170).toList).run Tryz.prog w=.ok (a==b&&c==d) w:=by
  intro n
  rw [ent_fields]
  refine eqf_cons (a:=.int .i64 a) (b:=.int .i64 b) (by decide) ?_ ?_ ?_ (eqf_last (a:=.string c) (b:=.string d) (by decide) ?_ ?_ ?_)
  ·simp [part,Tryz.sizeOf3,Tryz.isAgg3]
  ·simp [part,Tryz.sizeOf3,Tryz.isAgg3]
  ·simp [Op.equalIn,Tryz.runUnderlying3]
  ·simp [part,Tryz.sizeOf9,Tryz.isAgg9]
  ·simp [part,Tryz.sizeOf9,Tryz.isAgg9]
  ·simp [Op.equalIn,Tryz.runUnderlying9]
 have hr:(eqSem .eql 170 x y (.agg #[.int .i64 a,.string c]) (.agg #[.int .i64 b,.string d])).run Tryz.prog w=.ok (.bool (a==b&&c==d)) w:=by
  have he:(Op.equalIn Op.maxDepth 170 (.agg #[.int .i64 a,.string c]) (.agg #[.int .i64 b,.string d])).run Tryz.prog w=.ok (a==b&&c==d) w:=by
   show (Op.equalIn (9999+1) 170 _ _).run _ w=_
   rw [run_equalIn_struct (P:=Tryz.prog) w 9999 170 _ _ hu hs]
   exact hf 9998
  simp [eqSem,eqGuard,hgt,binOp,Op.equal,he]
 rw [hr];exact ⟨by rw [hw];exact hk,Like.refl w⟩
def entL (i:Nat) (d:List UInt8):List UInt8:=
 (wrL (wrL (List.replicate 16 0) 0 2 i) 2 1 d.length).take 3++d.take 13++(wrL (wrL (List.replicate 16 0) 0 2 i) 2 1 d.length).drop (3+(d.take 13).length)
theorem entL_len (i:Nat) (d:List UInt8):(entL i d).length=16:=by unfold entL;simp [wrL_len];omega
theorem c_nameD1 {s:TH}:TRet Tryz.prog 271 #[.string ⟨#[46]⟩] s fun v s'=>v=.bool false/\Ch [] s s':=by
 refine F271_calls _  ?_
 unfold F271
 refine jn_u ?_
 refine sB_f (by simp [ByteArray.toList_mk]) ?_
 refine sB_f (by rfl) ?_
 refine sB_t (by simp [ByteArray.toList_mk]) ?_
 iterate 14 intro _
 refine dBl_i (sB_t (by rfl) ?_)
 refine ret_t ?_
 exact ⟨rfl,(Ch.refl [] s)⟩
theorem c_encEnt1 (τ i:Nat) {s:TH} (hτ:τ≠0) (hi:1<=i/\i<=511):TRet Tryz.prog 198 #[.agg #[.int .i64 (i:Int),.string ⟨#[46]⟩]] s fun v s'=>∃a' c',v=.tuple #[.slice a' 16 c',.int .i64 0]/\Ch [τ] s s'/\Own s' a' 16 c' 5 1 (bvs (entL i (#[46]:Array UInt8).toList)) τ:=by
 refine F198_calls _ _  ?_
 unfold F198
 refine al_t 0 fun r1 s2 w n o x=>?_
 refine ask_t (by omega) ?_
 refine al_t 0 fun r3 s4 y q j z=>?_
 have hz0:=q.sl
 rw [rowZ_by] at hz0
 have r1_7:=n.ch j (by simp)
 refine ld_t r1_7 rfl (ld_t r1_7 rfl ?_)
 refine eq_ent ?_
 refine dBl_i ?_
 refine sB_f (by simp;omega) ?_
 refine jn_u ?_
 refine ld_t r1_7 rfl (dInt_i ?_)
 refine sB_d (fun k=>by exfalso;omega) (fun k=>?_)
 refine ld_t r1_7 rfl (dInt_i ?_)
 refine sB_d (fun l=>by exfalso;omega) (fun l=>?_)
 refine ld_t r1_7 rfl (dStr_i ?_)
 refine tcall (c_nameD1) ?_
 rintro _ A ⟨rfl,d⟩
 have B:=d.size
 refine dBl_i (sB_t (by rfl) ?_)
 have r1_10:=r1_7.ch d (by simp)
 refine ld_t r1_10 rfl (dStr_i ?_)
 refine sB_f (by simp [ByteArray.toList_mk]) ?_
 iterate 23 intro _
 refine dBl_i (sB_f (by rfl) (ld_t r1_10 rfl (dInt_i ?_)))
 have m:=hz0.mv d (tagn (by simp))
 refine tcall (c_rnum τ _ m (by simp) (by intro h;cases h) (by omega) 0 2 i (by omega) (by omega) (by omega)) ?_
 rintro _ C ⟨a2,c2,rfl,b,e⟩
 have r:=b.size
 refine dSl_i ?_
 have r1_15:=r1_10.ch b (by intro h;simp only [List.mem_cons,List.not_mem_nil,or_false] at h<;>omega)
 refine ld_t r1_15 rfl (dStr_i ?_)
 refine tcall (c_rnum τ _ e.sl (by simp [wrL_len]) e.none_iff (by omega) 2 1 (ByteArray.size ⟨#[46]⟩) (by omega) (by omega) (by decide)) ?_
 rintro _ D ⟨a3,c3,rfl,c,a⟩
 have t:=c.size
 refine dSl_i ?_
 refine ask_t (by have:=(a).le;omega) ?_
 have r1_19:=r1_15.ch c (by intro h;simp only [List.mem_cons,List.not_mem_nil,or_false] at h<;>omega)
 refine ld_t r1_19 rfl (dStr_i ?_)
 obtain ⟨ad,rfl⟩:=Own.ne_none a (by omega)
 simp only [Int.toNat_natCast]
 rw [show Int.toNat 3=3 from rfl]
 refine copy_os (p:=3) #[46] u49 in5 a (by omega) fun E o2_22 g hsz=>?_
 have f:=g.ch (T:=[τ]) a (by simp)
 have u:=f.size
 refine dInt_i ?_
 refine ret_t ?_
 exact ⟨_,_,rfl,(((((((Ch.refl [τ] s).ch o (by simp)).ch j (by simp)).ch d (by simp)).ch b (by simp)).ch c (by simp)).ch f (by simp)),o2_22⟩
theorem c_nameD2 {s:TH}:TRet Tryz.prog 271 #[.string ⟨#[46,46]⟩] s fun v s'=>v=.bool false/\Ch [] s s':=by
 refine F271_calls _  ?_
 unfold F271
 refine jn_u ?_
 refine sB_f (by simp [ByteArray.toList_mk]) ?_
 refine sB_f (by rfl) ?_
 refine sB_f (by simp [ByteArray.toList_mk]) ?_
 iterate 14 intro _
 refine dBl_i ?_
 refine sB_t (by simp [ByteArray.toList_mk]) ?_
 refine ret_t ?_
 exact ⟨rfl,(Ch.refl [] s)⟩
theorem c_encEnt2 (τ i:Nat) {s:TH} (hτ:τ≠0) (hi:1<=i/\i<=511):TRet Tryz.prog 198 #[.agg #[.int .i64 (i:Int),.string ⟨#[46,46]⟩]] s fun v s'=>∃a' c',v=.tuple #[.slice a' 16 c',.int .i64 0]/\Ch [τ] s s'/\Own s' a' 16 c' 5 1 (bvs (entL i (#[46,46]:Array UInt8).toList)) τ:=by
 refine F198_calls _ _  ?_
 unfold F198
 refine al_t 0 fun r1 s2 w n o x=>?_
 refine ask_t (by omega) ?_
 refine al_t 0 fun r3 s4 y q j z=>?_
 have hz0:=q.sl
 rw [rowZ_by] at hz0
 have r1_7:=n.ch j (by simp)
 refine ld_t r1_7 rfl (ld_t r1_7 rfl ?_)
 refine eq_ent ?_
 refine dBl_i ?_
 refine sB_f (by simp;omega) ?_
 refine jn_u ?_
 refine ld_t r1_7 rfl (dInt_i ?_)
 refine sB_d (fun k=>by exfalso;omega) (fun k=>?_)
 refine ld_t r1_7 rfl (dInt_i ?_)
 refine sB_d (fun l=>by exfalso;omega) (fun l=>?_)
 refine ld_t r1_7 rfl (dStr_i ?_)
 refine tcall (c_nameD2) ?_
 rintro _ A ⟨rfl,d⟩
 have B:=d.size
 refine dBl_i (sB_t (by rfl) ?_)
 have r1_10:=r1_7.ch d (by simp)
 refine ld_t r1_10 rfl (dStr_i ?_)
 refine sB_t (by simp [ByteArray.toList_mk]) ?_
 refine ld_t r1_10 rfl (dStr_i ?_)
 iterate 23 intro _
 refine dBl_i ?_
 refine sB_f (by simp [ByteArray.toList_mk]) ?_
 refine ld_t r1_10 rfl (dInt_i ?_)
 have m:=hz0.mv d (tagn (by simp))
 refine tcall (c_rnum τ _ m (by simp) (by intro h;cases h) (by omega) 0 2 i (by omega) (by omega) (by omega)) ?_
 rintro _ C ⟨a2,c2,rfl,b,e⟩
 have r:=b.size
 refine dSl_i ?_
 have r1_15:=r1_10.ch b (by intro h;simp only [List.mem_cons,List.not_mem_nil,or_false] at h<;>omega)
 refine ld_t r1_15 rfl (dStr_i ?_)
 refine tcall (c_rnum τ _ e.sl (by simp [wrL_len]) e.none_iff (by omega) 2 1 (ByteArray.size ⟨#[46,46]⟩) (by omega) (by omega) (by decide)) ?_
 rintro _ D ⟨a3,c3,rfl,c,a⟩
 have t:=c.size
 refine dSl_i ?_
 refine ask_t (by have:=(a).le;omega) ?_
 have r1_19:=r1_15.ch c (by intro h;simp only [List.mem_cons,List.not_mem_nil,or_false] at h<;>omega)
 refine ld_t r1_19 rfl (dStr_i ?_)
 obtain ⟨ad,rfl⟩:=Own.ne_none a (by omega)
 simp only [Int.toNat_natCast]
 rw [show Int.toNat 3=3 from rfl]
 refine copy_os (p:=3) #[46,46] u49 in5 a (by omega) fun E o2_22 g hsz=>?_
 have f:=g.ch (T:=[τ]) a (by simp)
 have u:=f.size
 refine dInt_i ?_
 refine ret_t ?_
 exact ⟨_,_,rfl,(((((((Ch.refl [τ] s).ch o (by simp)).ch j (by simp)).ch d (by simp)).ch b (by simp)).ch c (by simp)).ch f (by simp)),o2_22⟩
end Go.Proofs.YtkaikaodhegmhaaGreat.E
namespace Go.Proofs.YtkaikaodhegmhaaGreat.E
open Go Go.Proofs
set_option linter.unusedVariables false
set_option linter.unusedSimpArgs false
def ev (e:Nat×ByteArray):List Value:=[.int .i64 (e.1:Int),.string e.2]
theorem ev_len (e:Nat×ByteArray):(ev e).length=2:=rfl
theorem ecell0 {es:List (Nat×ByteArray)} {k:Nat} {e:Nat×ByteArray} (h:es[k]? =some e):(es.flatMap ev)[k*2]? =some (.int .i64 (e.1:Int)):=fm_get ev_len es k 0 e h (by omega)
theorem ecell1 {es:List (Nat×ByteArray)} {k:Nat} {e:Nat×ByteArray} (h:es[k]? =some e):(es.flatMap ev)[k*2+1]? =some (.string e.2):=fm_get ev_len es k 1 e h (by omega)
def Dot (d:ByteArray):Prop:=d=⟨#[46]⟩∨d=⟨#[46,46]⟩
theorem c_encEntD (τ i:Nat) (d:ByteArray) {s:TH} (hτ:τ≠0) (hi:1<=i/\i<=511) (hd:Dot d):TRet Tryz.prog 198 #[.agg #[.int .i64 (i:Int),.string d]] s fun v s'=>∃a' c',v=.tuple #[.slice a' 16 c',.int .i64 0]/\Ch [τ] s s'/\Own s' a' 16 c' 5 1 (bvs (entL i d.data.toList)) τ:=by
 rcases hd with rfl|rfl
 ·exact c_encEnt1 τ i hτ hi
 exact c_encEnt2 τ i hτ hi
def entsL :List (Nat×ByteArray)->List UInt8
 |[]=>[]
 |e::es=>entL e.1 e.2.data.toList++entsL es
theorem entsL_snoc (es:List (Nat×ByteArray)) (e:Nat×ByteArray):entsL (es++[e])=entsL es++entL e.1 e.2.data.toList:=by
 induction es with
 |nil=>simp [entsL]
 |cons x es ih=>simp [entsL,ih]
theorem entsL_len (es:List (Nat×ByteArray)):(entsL es).length=16*es.length:=by
 induction es with
 |nil=>rfl
 |cons x es ih=>simp [entsL,ih,entL_len];omega
def dirsL (es:List (Nat×ByteArray)):List UInt8:=entsL es++List.replicate (128 - 16*es.length) 0
theorem c_clash {xa:Option Addr} {n:Nat} (xc:Nat) {es:List (Nat×ByteArray)} {τx:Nat} {s:TH} (hx:Sl s xa (es.flatMap ev) τx) (hn:es.length=n) (hc:n<=xc) (hb:n<=8) (hnc: ∀(i j:Nat) (e f:Nat×ByteArray),j<i->es[i]? =some e->es[j]? =some f->¬(e.1≠0/\f.1≠0/\e.2.toList=f.2.toList)):TRet Tryz.prog 197 #[.slice xa n xc] s fun v s'=>v=.bool false/\Ch [] s s':=by
 refine F197_calls _ _ _  ?_
 unfold F197
 refine ⟨fun vs H'=>∃s':TH,s'.h=H'/\∃m,vs=[.int .i64 m]/\ChL [] [] s s'/\(∃k:Nat,m=k/\k<=n),fun vs H'=>match vs with|[.int .i64 m]=>((n:Int) - m).toNat|_=>0,⟨s,rfl,_,rfl,ChL.refl _ _ _,?_⟩,?_⟩
 ·exact ⟨0,rfl,by omega⟩
 intro m
 iterate 33 intro _
 intro T hI
 obtain ⟨U,rfl,m_,hvs,o,k,rfl,hk⟩:=hI
 cases hvs
 have V:=o.size
 refine sB_d (fun B=>?_) (fun B=>?_)
 ·have hk2:k<n:=by omega
  obtain ⟨e,he⟩: ∃e,es[k]? =some e:=⟨es[k]'(by omega),by simp⟩
  obtain ⟨a,rfl⟩:=hx.some (fun h=>by have:=ecell0 he;rw [h] at this;simp at this)
  refine nz_i (ask_t (by omega) ?_)
  have p:=hx.mv o (tagL (by simp<;>omega) (by simp))
  refine ld_sl p (by rw [Int.toNat_natCast];exact ecell0 he) ?_
  refine ld_sl2 p (by rw [Int.toNat_natCast];exact ecell1 he) ?_
  refine al_t (τx+1) fun W X M x y Y=>?_
  refine st_t x rfl (by simp) fun Z z A aa=>?_
  refine st_t z rfl (by simp) fun l C r N=>?_
  refine ask_t (by omega) ?_
  refine ⟨fun vs H'=>∃s':TH,s'.h=H'/\∃q,vs=[.int .i64 q]/\ChL [] [] l s'/\(∃j:Nat,q=j/\j<=k),fun vs H'=>match vs with|[.int .i64 q]=>((k:Int) - q).toNat|_=>0,⟨l,rfl,_,rfl,ChL.refl _ _ _,?_⟩,?_⟩
  ·exact ⟨0,rfl,by omega⟩
  intro q
  iterate 21 intro _
  intro ab hI
  obtain ⟨L,rfl,q_,hvs,b,j,rfl,hj⟩:=hI
  cases hvs
  have O:=b.size
  refine sB_d (fun D=>?_) (fun D=>?_)
  ·rw [slO_zero]
   have hj2:j<k:=by omega
   obtain ⟨f,hf⟩: ∃f,es[j]? =some f:=⟨es[j]'(by omega),by simp⟩
   refine nz_i (ask_t (by omega) ?_)
   have E:=p.mv y (tagn (by simp))
   have F:=E.mv A (onn (by rw [x.tag];omega))
   have G:=F.mv r (onn (by rw [z.tag];omega))
   have t:=G.mv b (tagL (by simp<;>omega) (by simp))
   refine ld_sl t (by rw [Int.toNat_natCast];exact ecell0 hf) ?_
   refine ld_sl2 t (by rw [Int.toNat_natCast];exact ecell1 hf) ?_
   refine al_t (τx+1) fun ac ad P H c Q=>?_
   refine st_t H rfl (by simp) fun ae I d R=>?_
   refine st_t I rfl (by simp) fun u w g S=>?_
   refine jn_u ?_
   have r42_28:=C.chl b (by simp<;>omega) (by simp<;>omega)
   have r42_29:=r42_28.ch c (by simp)
   have r42_30:=r42_29.on d (by omega)
   have r42_31:=r42_30.on g (by omega)
   refine ld_t r42_31 rfl (dInt_i ?_)
   refine sB_ne (fun J=>?_) (fun J=>?_)
   ·refine ld_t w rfl (dInt_i ?_)
    refine sB_ne (fun K=>?_) (fun K=>?_)
    ·refine ld_t r42_31 rfl (dStr_i (ld_t w rfl (dStr_i ?_)))
     iterate 14 intro _
     refine dBl_i ?_
     refine sB_f (by have:=hnc k j e f hj2 he hf;simp only [beq_eq_false_iff_ne];intro h;exact this ⟨by omega,by omega,h⟩) ?_
     refine wr_t (by omega) ?_
     refine ⟨⟨u,rfl,_,rfl,(((((ChL.refl [] [] l).chl b (by simp) (by simp<;>omega)).ch c (by simp)).on_new d (by omega)).on_new g (by omega)),?_⟩,?_⟩
     ·exact ⟨j+1,by omega,by omega⟩
     simp only [];omega
    iterate 14 intro _
    refine dBl_i (sB_f (by rfl) (wr_t (by omega) ?_))
    refine ⟨⟨u,rfl,_,rfl,(((((ChL.refl [] [] l).chl b (by simp) (by simp<;>omega)).ch c (by simp)).on_new d (by omega)).on_new g (by omega)),?_⟩,?_⟩
    ·exact ⟨j+1,by omega,by omega⟩
    simp only [];omega
   iterate 14 intro _
   refine dBl_i (sB_f (by rfl) (wr_t (by omega) ?_))
   refine ⟨⟨u,rfl,_,rfl,(((((ChL.refl [] [] l).chl b (by simp) (by simp<;>omega)).ch c (by simp)).on_new d (by omega)).on_new g (by omega)),?_⟩,?_⟩
   ·exact ⟨j+1,by omega,by omega⟩
   simp only [];omega
  refine wr_t (by omega) ?_
  refine ⟨⟨L,rfl,_,rfl,((((((ChL.refl [] [] s).chl o (by simp) (by simp<;>omega)).ch y (by simp)).on_new A (by omega)).on_new r (by omega)).chl b (by simp) (by simp<;>omega)),?_⟩,?_⟩
  ·exact ⟨k+1,by omega,by omega⟩
  simp only [];omega
 refine ret_t ?_
 exact ⟨rfl,((Ch.refl [] s).chl o (by simp) (by simp<;>omega))⟩
theorem c_encDirs (τ:Nat) {xa:Option Addr} {n:Nat} (xc:Nat) {es:List (Nat×ByteArray)} {τx:Nat} {s:TH} (hx:Sl s xa (es.flatMap ev) τx) (hn:es.length=n) (hc:n<=xc) (hb:n<=8) (hnc: ∀(i j:Nat) (e f:Nat×ByteArray),j<i->es[i]? =some e->es[j]? =some f->¬(e.1≠0/\f.1≠0/\e.2.toList=f.2.toList)) (hτ:τ≠0) (hτx:τx≠τ) (hτ2:τx≠τ+1) (h1:1<=n/\n<8) (hd: ∀e∈es,Dot e.2/\1<=e.1/\e.1<=511):TRet Tryz.prog 102 #[.slice xa n xc] s fun v s'=>∃a' c',v=.tuple #[.slice a' 128 c',.int .i64 0]/\Ch [τ,τ+1] s s'/\Own s' a' 128 c' 5 1 (bvs (dirsL es)) τ:=by
 refine F102_calls _ _ _  ?_
 unfold F102
 refine jn_u ?_
 refine sB_d (fun E=>by exfalso;omega) (fun E=>?_)
 refine tcall (c_clash xc hx hn hc hb hnc) ?_
 rintro _ o ⟨rfl,p⟩
 have V:=p.size
 refine dBl_i ?_
 intro _ _ _ _ _ _
 refine dBl_i (sB_f (by rfl) ?_)
 refine ⟨fun vs H'=>∃s':TH,s'.h=H'/\∃pa pn pc m,vs=[.slice pa pn pc,.int .i64 m]/\ChL [τ,τ+1] [] o s'/\(∃k:Nat,m=k/\k<=n/\pn=16*k/\Own s' pa (16*k) pc 5 1 (bvs (entsL (es.take k))) τ),fun vs H'=>match vs with|[.slice pa pn pc,.int .i64 m]=>((n:Int) - m).toNat|_=>0,⟨o,rfl,_,_,_,_,rfl,ChL.refl _ _ _,?_⟩,?_⟩
 ·exact ⟨0,rfl,by omega,rfl,Own.nil _ _ _ _⟩
 intro pa pn pc m
 iterate 19 intro _
 intro W hI
 obtain ⟨X,rfl,pa_,pn_,pc_,m_,hvs,d,k,rfl,hk,rfl,g⟩:=hI
 cases hvs
 have Y:=d.size
 refine sB_d (fun F=>?_) (fun F=>?_)
 ·have hk2:k<n:=by omega
  obtain ⟨e,he⟩: ∃e,es[k]? =some e:=⟨es[k]'(by omega),by simp⟩
  obtain ⟨a,rfl⟩:=hx.some (fun h=>by have:=ecell0 he;rw [h] at this;simp at this)
  refine nz_i (ask_t (by omega) ?_)
  have L:=hx.mv p (tagn (by simp))
  have B:=L.mv d (tagL (by simp<;>omega) (by simp))
  refine ld_sl B (by rw [Int.toNat_natCast];exact ecell0 he) ?_
  refine ld_sl2 B (by rw [Int.toNat_natCast];exact ecell1 he) ?_
  refine al_t 0 fun Z aa N C D O=>?_
  refine st_t C rfl (by simp) fun ab q r P=>?_
  refine st_t q rfl (by simp) fun ac t u Q=>?_
  refine ld_t t rfl (ld_t t rfl ?_)
  have hde:=hd e (List.mem_of_getElem? he)
  refine tcall (c_encEntD (τ+1) e.1 e.2 (by omega) hde.2 hde.1) ?_
  rintro _ ad ⟨a2,c2,rfl,c,l⟩
  have R:=c.size
  refine dT2 (dSl_i (dInt_i (sB_f (by rfl) ?_)))
  have G:=g.mv D (tagn (by simp))
  have H:=G.mv r (onn (by rw [C.tag];omega))
  have I:=H.mv u (onn (by rw [q.tag];omega))
  have w:=I.mv c (tagn (by intro h;simp only [List.mem_cons,List.not_mem_nil,or_false] at h<;>omega))
  refine app_i u49 in5 rfl w l.sl (m:=16) (by rw [bvs_len,entL_len]) (bvs_one _) (fun h=>by have:=l.none_iff h;omega) (by unfold maxLen;omega) fun M pa2 pc2 J z _=>?_
  have x:=z.ch (T:=[τ]) w (by simp)
  have S:=x.size
  refine dSl_i (wr_t (by omega) ?_)
  refine ⟨⟨M,rfl,_,_,_,_,rfl,(((((((ChL.refl [τ,τ+1] [] o).chl d (by simp) (by simp<;>omega)).ch D (by simp)).on_new r (by omega)).on_new u (by omega)).ch c (by simp)).ch x (by simp)),?_⟩,?_⟩
  ·exact ⟨k+1,by omega,by omega,by omega,by have ho:=J;rw [show 16*k+16=16*(k+1) by omega] at ho;rw [List.take_add_one,he];show Own _ _ _ _ _ _ (bvs (entsL (es.take k++[e]))) _;rw [entsL_snoc];simpa [bvs] using ho⟩
  simp only [];omega
 obtain rfl:k=n:=by omega
 refine wr_t (by omega) ?_
 rw [show (128 - ((16*k:Nat):Int))=((128 - 16*k:Nat):Int) by omega]
 refine appz_i u49 u3 in5 g (by obtain ⟨b,rfl⟩:=Own.ne_none g (by omega);simp) (by omega) (by omega) fun ae pa3 pc3 K A=>?_
 have y:=A.ch (T:=[τ]) g (by simp)
 have U:=y.size
 refine dSl_i ?_
 refine ret_t ?_
 have ho:=K
 rw [show 16*k+(128 - 16*k)=128 by omega,List.take_of_length_le (by omega)] at ho
 exact ⟨pa3,pc3,by rw [show 16*k+(128 - 16*k)=128 by omega],((((Ch.refl [τ,τ+1] s).ch p (by simp)).chl d (by simp) (by simp<;>omega)).ch y (by simp)),by unfold dirsL;rw [hn];exact ho⟩
end Go.Proofs.YtkaikaodhegmhaaGreat.E
namespace Go.Proofs.YtkaikaodhegmhaaGreat.E
open Go Go.Proofs
set_option linter.unusedVariables false
set_option linter.unusedSimpArgs false
def canG (a b c:Int):Prop:=(1<=a/\a<=8)/\(8<=b/\b<=256)/\(4<=c/\c<=64)/\c%4=0/\3+c/4<=b
instance (a b c : Int) : Decidable (canG a b c) := by unfold canG; infer_instance
theorem tdiv4 {c:Int} (h:0<=c):c.tdiv 4=c/4:=Int.tdiv_eq_ediv_of_nonneg h
theorem tmod4 {c:Int} (h:0<=c):c.tmod 4=c%4:=Int.tmod_eq_emod_of_nonneg h
theorem wr_tq {a b m:Int} {k:Int->Prop} (h:a.tdiv b=m) (hm: -9223372036854775808<=m/\m<=9223372036854775807) (hk:k m):wr .i64 (a.tdiv b) k:=wr_t (by rw [h];exact hm) (by rw [h];exact hk)
theorem mul_le {a b c d:Int} (h0:0<=a) (h1:a<=c) (h2:0<=b) (h3:b<=d):0<=a*b/\a*b<=c*d:=
 ⟨Int.mul_nonneg h0 h2,Int.mul_le_mul h1 h3 h2 (Int.le_trans h0 h1)⟩
theorem gc_between (n l m:Int) (s:TH):TRet Tryz.prog 110 #[.int .i64 n,.int .i64 l,.int .i64 m] s fun v s'=>v=.bool (decide (l<=n/\n<=m))/\Ch [] s s':=by
 refine F110_calls _ _ _  ?_
 unfold F110
 refine sB_d (fun hsB1=>?_) (fun hsB1=>?_)
 ·refine ret_t ?_
  exact ⟨ret_b (by simp<;>omega),(Ch.refl [] s)⟩
 refine ret_t ?_
 exact ⟨ret_b (by simp<;>omega),(Ch.refl [] s)⟩
theorem gc_front (a b c:Int) (hc:0<=c/\c<=1000) (s:TH):TRet Tryz.prog 111 #[.agg #[.int .i64 a,.int .i64 b,.int .i64 c]] s fun v s'=>v=.int .i64 (2+c/4)/\Ch [] s s':=by
 refine F111_calls _ _ _  ?_
 unfold F111
 refine al_t 0 fun r1 s2 hr1 b_1 c_2 z_3=>?_
 refine ld_t b_1 rfl ?_
 refine dInt_i ?_
 refine ask_t (by decide) ?_
 refine wr_tq (tdiv4 hc.1) (by omega) ?_
 refine wr_t (by omega) ?_
 refine ret_t ?_
 exact ⟨rfl,((Ch.refl [] s).ch c_2 (by simp))⟩
theorem gc_can (a b c:Int)  (s:TH):TRet Tryz.prog 43 #[.agg #[.int .i64 a,.int .i64 b,.int .i64 c]] s fun v s'=>v=.int .i64 (if canG a b c then 0 else 170)/\Ch [] s s':=by
 refine F43_calls _ _ _  ?_
 unfold F43
 refine al_t 0 fun r1 s2 hr1 b_1 c_2 z_3=>?_
 refine jn_u ?_
 refine ld_t b_1 rfl ?_
 refine dInt_i ?_
 refine tcall (gc_between _ _ _ _) ?_
 rintro _ s58 ⟨rfl,c_4⟩
 have z_5:=c_4.size
 refine dBl_i ?_
 first|refine sB_d (fun hsB1=>?_) (fun hsB1=>?_)|refine sB_nd (fun hsB1=>?_) (fun hsB1=>?_)|refine sB_n (fun hsB1=>?_) (fun hsB1=>?_)|refine sB_i (fun hsB1=>?_) (fun hsB1=>?_)
 ·have r1_6:=b_1.ch c_4 (by simp)
  refine ld_t r1_6 rfl ?_
  refine dInt_i ?_
  refine tcall (gc_between _ _ _ _) ?_
  rintro _ s63 ⟨rfl,c_7⟩
  have z_8:=c_7.size
  refine dBl_i ?_
  first|refine sB_d (fun hsB2=>?_) (fun hsB2=>?_)|refine sB_nd (fun hsB2=>?_) (fun hsB2=>?_)|refine sB_n (fun hsB2=>?_) (fun hsB2=>?_)|refine sB_i (fun hsB2=>?_) (fun hsB2=>?_)
  ·have r1_9:=r1_6.ch c_7 (by simp)
   refine ld_t r1_9 rfl ?_
   refine dInt_i ?_
   refine tcall (gc_between _ _ _ _) ?_
   rintro _ s68 ⟨rfl,c_10⟩
   have z_11:=c_10.size
   refine dBl_i ?_
   iterate 13 intro _
   refine dBl_i ?_
   refine jn_u ?_
   first|refine sB_d (fun hsB3=>?_) (fun hsB3=>?_)|refine sB_nd (fun hsB3=>?_) (fun hsB3=>?_)|refine sB_n (fun hsB3=>?_) (fun hsB3=>?_)|refine sB_i (fun hsB3=>?_) (fun hsB3=>?_)
   ·iterate 15 intro _
    refine dBl_i ?_
    refine sB_t (by rfl) ?_
    refine ret_t ?_
    exact ⟨ret_i (by first|rw [if_pos (by unfold canG;omega)]|rw [if_neg (by unfold canG;omega)]),(((((Ch.refl [] s).ch c_2 (by simp)).ch c_4 (by simp)).ch c_7 (by simp)).ch c_10 (by simp))⟩
   have r1_12:=r1_9.ch c_10 (by simp)
   refine ld_t r1_12 rfl ?_
   refine dInt_i ?_
   refine ask_t (by decide) ?_
   refine nm_t (tmod4 (by omega)) ?_
   refine sB_ne (fun hsB5=>?_) (fun hsB5=>?_)
   ·iterate 15 intro _
    refine dBl_i ?_
    refine sB_t (by rfl) ?_
    refine ret_t ?_
    exact ⟨ret_i (by first|rw [if_pos (by unfold canG;omega)]|rw [if_neg (by unfold canG;omega)]),(((((Ch.refl [] s).ch c_2 (by simp)).ch c_4 (by simp)).ch c_7 (by simp)).ch c_10 (by simp))⟩
   refine ld_t r1_12 rfl ?_
   refine dInt_i ?_
   refine ld_t r1_12 rfl ?_
   refine ld_t r1_12 rfl ?_
   refine ld_t r1_12 rfl ?_
   refine tcall (gc_front _ _ _ (by omega) _) ?_
   rintro _ s47 ⟨rfl,c_13⟩
   have z_14:=c_13.size
   refine dInt_i ?_
   refine ⟨?_,?_⟩
   ·have r1_15:=r1_12.ch c_13 (by simp)
    refine ld_t r1_15 rfl ?_
    refine dInt_i ?_
    rfl
   refine wr_t (by omega) ?_
   iterate 15 intro _
   refine dBl_i ?_
   refine sB_d (fun hsB7=>?_) (fun hsB7=>?_)
   ·refine ret_t ?_
    exact ⟨ret_i (by first|rw [if_pos (by unfold canG;omega)]|rw [if_neg (by unfold canG;omega)]),((((((Ch.refl [] s).ch c_2 (by simp)).ch c_4 (by simp)).ch c_7 (by simp)).ch c_10 (by simp)).ch c_13 (by simp))⟩
   refine ret_t ?_
   exact ⟨ret_i (by first|rw [if_pos (by unfold canG;omega)]|rw [if_neg (by unfold canG;omega)]),((((((Ch.refl [] s).ch c_2 (by simp)).ch c_4 (by simp)).ch c_7 (by simp)).ch c_10 (by simp)).ch c_13 (by simp))⟩
  iterate 13 intro _
  refine dBl_i ?_
  refine jn_u ?_
  refine sB_t (by rfl) ?_
  iterate 15 intro _
  refine dBl_i ?_
  refine sB_t (by rfl) ?_
  refine ret_t ?_
  exact ⟨ret_i (by first|rw [if_pos (by unfold canG;omega)]|rw [if_neg (by unfold canG;omega)]),((((Ch.refl [] s).ch c_2 (by simp)).ch c_4 (by simp)).ch c_7 (by simp))⟩
 iterate 13 intro _
 refine dBl_i ?_
 refine jn_u ?_
 refine sB_t (by rfl) ?_
 iterate 15 intro _
 refine dBl_i ?_
 refine sB_t (by rfl) ?_
 refine ret_t ?_
 exact ⟨ret_i (by first|rw [if_pos (by unfold canG;omega)]|rw [if_neg (by unfold canG;omega)]),(((Ch.refl [] s).ch c_2 (by simp)).ch c_4 (by simp))⟩
theorem gc_rcan (a b c:Int)  (s:TH):TRet Tryz.prog 78 #[.agg #[.int .i64 a,.int .i64 b,.int .i64 c]] s fun v s'=>v=.int .i64 (if canG a b c then 0 else 170)/\Ch [] s s':=by
 refine F78_calls _ _ _  ?_
 unfold F78
 refine al_t 0 fun r1 s2 hr1 b_1 c_2 z_3=>?_
 refine jn_u ?_
 refine ld_t b_1 rfl ?_
 refine dInt_i ?_
 refine sB_d (fun hsB1=>?_) (fun hsB1=>?_)
 ·iterate 42 intro _
  refine dBl_i ?_
  refine sB_t (by rfl) ?_
  refine ret_t ?_
  exact ⟨ret_i (by first|rw [if_pos (by unfold canG;omega)]|rw [if_neg (by unfold canG;omega)]),((Ch.refl [] s).ch c_2 (by simp))⟩
 refine ld_t b_1 rfl ?_
 refine dInt_i ?_
 refine sB_d (fun hsB3=>?_) (fun hsB3=>?_)
 ·iterate 42 intro _
  refine dBl_i ?_
  refine sB_t (by rfl) ?_
  refine ret_t ?_
  exact ⟨ret_i (by first|rw [if_pos (by unfold canG;omega)]|rw [if_neg (by unfold canG;omega)]),((Ch.refl [] s).ch c_2 (by simp))⟩
 refine ld_t b_1 rfl ?_
 refine dInt_i ?_
 refine sB_d (fun hsB5=>?_) (fun hsB5=>?_)
 ·iterate 42 intro _
  refine dBl_i ?_
  refine sB_t (by rfl) ?_
  refine ret_t ?_
  exact ⟨ret_i (by first|rw [if_pos (by unfold canG;omega)]|rw [if_neg (by unfold canG;omega)]),((Ch.refl [] s).ch c_2 (by simp))⟩
 refine ld_t b_1 rfl ?_
 refine dInt_i ?_
 refine sB_d (fun hsB7=>?_) (fun hsB7=>?_)
 ·iterate 42 intro _
  refine dBl_i ?_
  refine sB_t (by rfl) ?_
  refine ret_t ?_
  exact ⟨ret_i (by first|rw [if_pos (by unfold canG;omega)]|rw [if_neg (by unfold canG;omega)]),((Ch.refl [] s).ch c_2 (by simp))⟩
 refine ld_t b_1 rfl ?_
 refine dInt_i ?_
 refine sB_d (fun hsB9=>?_) (fun hsB9=>?_)
 ·iterate 42 intro _
  refine dBl_i ?_
  refine sB_t (by rfl) ?_
  refine ret_t ?_
  exact ⟨ret_i (by first|rw [if_pos (by unfold canG;omega)]|rw [if_neg (by unfold canG;omega)]),((Ch.refl [] s).ch c_2 (by simp))⟩
 refine ld_t b_1 rfl ?_
 refine dInt_i ?_
 refine sB_d (fun hsB11=>?_) (fun hsB11=>?_)
 ·iterate 42 intro _
  refine dBl_i ?_
  refine sB_t (by rfl) ?_
  refine ret_t ?_
  exact ⟨ret_i (by first|rw [if_pos (by unfold canG;omega)]|rw [if_neg (by unfold canG;omega)]),((Ch.refl [] s).ch c_2 (by simp))⟩
 refine ld_t b_1 rfl ?_
 refine dInt_i ?_
 refine ask_t (by decide) ?_
 refine nm_t (tmod4 (by omega)) ?_
 refine sB_ne (fun hsB13=>?_) (fun hsB13=>?_)
 ·iterate 42 intro _
  refine dBl_i ?_
  refine sB_t (by rfl) ?_
  refine ret_t ?_
  exact ⟨ret_i (by first|rw [if_pos (by unfold canG;omega)]|rw [if_neg (by unfold canG;omega)]),((Ch.refl [] s).ch c_2 (by simp))⟩
 refine ld_t b_1 rfl ?_
 refine dInt_i ?_
 refine ld_t b_1 rfl ?_
 refine dInt_i ?_
 refine ask_t (by decide) ?_
 refine wr_tq (tdiv4 (by omega)) (by omega) ?_
 refine wr_t (by omega) ?_
 iterate 42 intro _
 refine dBl_i ?_
 refine sB_d (fun hsB15=>?_) (fun hsB15=>?_)
 ·refine ret_t ?_
  exact ⟨ret_i (by first|rw [if_pos (by unfold canG;omega)]|rw [if_neg (by unfold canG;omega)]),((Ch.refl [] s).ch c_2 (by simp))⟩
 refine ret_t ?_
 exact ⟨ret_i (by first|rw [if_pos (by unfold canG;omega)]|rw [if_neg (by unfold canG;omega)]),((Ch.refl [] s).ch c_2 (by simp))⟩
theorem gc_all (a b c:Int) (e:Int) (hv:canG a b c) (he:0<=e/\e<=10000) (s:TH):TRet Tryz.prog 112 #[.agg #[.int .i64 a,.int .i64 b,.int .i64 c],.int .i64 e] s fun v s'=>v=.int .i64 (a*e)/\Ch [] s s':=by
 refine F112_calls _ _ _ _  ?_
 unfold F112
 refine al_t 0 fun r1 s2 hr1 b_1 c_2 z_3=>?_
 refine ld_t b_1 rfl ?_
 refine ld_t b_1 rfl ?_
 refine ld_t b_1 rfl ?_
 refine tcall (gc_can _ _ _ _) ?_
 rintro _ s7 ⟨rfl,c_4⟩
 have z_5:=c_4.size
 rw [if_pos hv]
 refine dInt_i ?_
 refine sB_f rfl ?_
 have r1_6:=b_1.ch c_4 (by simp)
 refine ld_t r1_6 rfl ?_
 refine dInt_i ?_
 refine wr_t (by unfold canG at hv;have:=mul_le (a:=a) (b:=e) (c:=8) (d:=10000) (by omega) (by omega) he.1 he.2;omega) ?_
 refine ret_t ?_
 exact ⟨rfl,(((Ch.refl [] s).ch c_2 (by simp)).ch c_4 (by simp))⟩
theorem gc_blocks (a b c:Int) (hv:canG a b c)  (s:TH):TRet Tryz.prog 44 #[.agg #[.int .i64 a,.int .i64 b,.int .i64 c]] s fun v s'=>v=.int .i64 (a*b)/\Ch [] s s':=by
 refine F44_calls _ _ _  ?_
 unfold F44
 refine al_t 0 fun r1 s2 hr1 b_1 c_2 z_3=>?_
 refine ld_t b_1 rfl ?_
 refine ld_t b_1 rfl ?_
 refine ld_t b_1 rfl ?_
 refine ld_t b_1 rfl ?_
 refine dInt_i ?_
 refine tcall (gc_all _ _ _ _ hv (by first|omega|(unfold canG at hv;omega)) _) ?_
 rintro _ s9 ⟨rfl,c_4⟩
 have z_5:=c_4.size
 refine dInt_i ?_
 refine ret_t ?_
 exact ⟨rfl,(((Ch.refl [] s).ch c_2 (by simp)).ch c_4 (by simp))⟩
-- no form: bollard/geom.Super
-- no form: bollard/geom.Data
-- no form: bollard/bollardref04.Group
-- no form: bollard/bollardref04.IsData
end Go.Proofs.YtkaikaodhegmhaaGreat.E
namespace Go.Proofs.YtkaikaodhegmhaaGreat.E
open Go Go.Proofs
set_option linter.unusedVariables false
set_option linter.unusedSimpArgs false
structure RDiskP (s:TH) (d T:Nat) (D:DiskM) (pa:Option Addr) (pc:Nat) (qa:Option Addr) (qc:Nat) (hs:List Hd) (qs:List (Int×Int×Hd)) (fa:Option Addr) (fc:Nat) (fl:List Int):Prop where
 blk:Blk s d [.slice pa D.blocks.length pc,.slice qa D.queue.length qc,.slice fa D.blocks.length fc,.int .i64 D.last] 123 T
 rows:Own s pa D.blocks.length pc 49 1 (hs.flatMap hd1) (T+1)
 brel:BRel s (T+3) hs D.blocks
 que:Own s qa D.queue.length qc 197 3 (qs.flatMap qv) (T+2)
 qrel:QRel s (T+3) qs D.queue
 fails:Own s fa D.blocks.length fc 3 1 (fl.map (Value.int .i64)) (T+4)
 fok: ∀(i:Nat) (x:Int),fl[i]? =some x->x=D.fails i
 nb:1<=D.blocks.length/\D.blocks.length<=2048
 nq:D.queue.length<=64
 qin: ∀m∈D.queue,0<=m.blk/\m.blk<D.blocks.length
def RDisk (s:TH) (d T:Nat) (D:DiskM):Prop:=∃pa pc qa qc hs qs fa fc fl,RDiskP s d T D pa pc qa qc hs qs fa fc fl
theorem RDisk.mv {s s':TH} {d T:Nat} {D:DiskM} {C:Nat->Prop} (h:RDisk s d T D) (c:Chg C s s') (hn: ∀j,j<s.h.size->T<=s.g j->s.g j<T+10->¬C j):RDisk s' d T D:=by
 obtain ⟨pa,pc,qa,qc,hs,qs,fa,fc,fl,h⟩:=h
 exact ⟨pa,pc,qa,qc,hs,qs,fa,fc,fl,h.blk.mv c (of_rng hn (Nat.le_refl _) (by omega) d h.blk.lt h.blk.tag),h.rows.mv c (of_rng hn (by omega) (by omega)),h.brel.mv c (of_rng hn (by omega) (by omega)),h.que.mv c (of_rng hn (by omega) (by omega)),h.qrel.mv c (of_rng hn (by omega) (by omega)),h.fails.mv c (of_rng hn (by omega) (by omega)),h.fok,h.nb,h.nq,h.qin⟩
theorem rowZ_int (n:Nat):rowZ [.int .i64 0] n=(List.replicate n (0:Int)).map (Value.int .i64):=by
 induction n with
 |zero=>rfl
 |succ n ih=>rw [List.replicate_succ,List.map_cons, ←ih];rfl
theorem c_copiedR (τ:Nat) {xa:Option Addr} {xn:Nat} (xc:Nat) {l:List UInt8} {τx:Nat} {s:TH} (hx:Sl s xa (bvs l) τx) (hn:l.length=xn) (h0:xa=none->xn=0) (hb:xn<=1000000000):TRet Tryz.prog 55 #[.slice xa xn xc] s fun v s'=>∃a' c',v=.slice a' xn c'/\Ch [] s s'/\Own s' a' xn c' 5 1 (bvs l) τ:=by
 refine F55_calls _ _ _  ?_
 unfold F55
 refine al_t τ fun r1 s2 g e a h=>?_
 have f:=hx.mv a (tagn (by simp))
 refine app_i u49 in5 rfl (e.own0 1) f (by rw [bvs_len];omega) (bvs_one l) h0 (by unfold maxLen;omega) fun s6 a1 c1 b d hnil=>?_
 have c:=d.toL rfl
 have i:=c.size
 refine dSl_i ?_
 refine ret_t ?_
 rw [Nat.zero_add,List.nil_append] at b
 simp only [Nat.zero_add]
 exact ⟨a1,c1,rfl,(((Ch.refl [] s).ch a (by simp)).chl c (by simp) (by simp<;>omega)),b⟩
theorem c_rhas (d T:Nat) (D:DiskM) (b:Int) (s:TH) (hT:10<=T) (hd:RDisk s d T D):TRet Tryz.prog 274 #[.pointer (some ⟨d,0,none⟩),.int .i64 b] s fun v s'=>v=.bool (decide (D.has b))/\Ch [] s s':=by
 obtain ⟨pa,pc,qa,qc,hs,qs,fa,fc,fl,hD⟩:=id hd
 have hblk:=hD.blk
 have hrows:=hD.rows
 have hbrel:=hD.brel
 have hque:=hD.que
 have hqrel:=hD.qrel
 have hfails:=hD.fails
 refine F274_calls _ _  ?_
 unfold F274
 refine sB_d (fun a=>?_) (fun a=>?_)
 ·refine nz_i (ld_t hblk rfl (dSl_i ?_))
  refine ret_t ?_
  exact ⟨ret_b (by first|exact decide_eq_decide.2 (by unfold DiskM.has;omega)|exact (decide_eq_false (by unfold DiskM.has;omega)).symm),(Ch.refl [] s)⟩
 refine ret_t ?_
 exact ⟨ret_b (by first|exact decide_eq_decide.2 (by unfold DiskM.has;omega)|exact (decide_eq_false (by unfold DiskM.has;omega)).symm),(Ch.refl [] s)⟩
theorem c_rfind (d T:Nat) (D:DiskM) (b:Int) (s:TH) (hT:10<=T) (hd:RDisk s d T D):TRet Tryz.prog 278 #[.pointer (some ⟨d,0,none⟩),.int .i64 b] s fun v s'=>∃k:Int,v=.int .i64 k/\k=ixf (fun x:SentM=>x.id==b) D.queue/\Ch [] s s':=by
 obtain ⟨pa,pc,qa,qc,hs,qs,fa,fc,fl,hD⟩:=id hd
 have hblk:=hD.blk
 have hrows:=hD.rows
 have hbrel:=hD.brel
 have hque:=hD.que
 have hqrel:=hD.qrel
 have hfails:=hD.fails
 refine F278_calls _ _  ?_
 unfold F278
 refine nz_i (ld_t hblk rfl (dSl_i ?_))
 refine ⟨fun vs H'=>∃s':TH,s'.h=H'/\∃m,vs=[.int .i64 m]/\ChL [] [] s s'/\(∃k:Nat,m=k/\k<=D.queue.length/\∀j x,j<k->qs[j]? =some x->(x.1==b)=false),fun vs H'=>match vs with|[.int .i64 m]=>(D.queue.length - m).toNat|_=>0,⟨s,rfl,_,rfl,ChL.refl _ _ _,?_⟩,?_⟩
 ·exact ⟨0,rfl,by omega,fun j x h=>by omega⟩
 intro m
 iterate 13 intro _
 intro B hI
 obtain ⟨C,rfl,m_,hvs,c,k,rfl,hk,hall⟩:=hI
 cases hvs
 have E:=c.size
 refine sB_d (fun o=>?_) (fun o=>?_)
 ·have hk2:k<qs.length:=by rw [hD.qrel.len];omega
  obtain ⟨x,hx⟩: ∃x,qs[k]? =some x:=⟨qs[k],by simp⟩
  obtain ⟨aq,rfl⟩:=hD.que.sl.some (fun e=>by have:=qcell0 hx;rw [e] at this;simp at this)
  refine nz_i (ask_t (by omega) ?_)
  have a:=hque.mv c (tagL (by simp<;>omega) (by simp))
  refine ld_sl a.sl (by rw [Int.toNat_natCast];exact qcell0 hx) ?_
  refine ld_sl2 a.sl (by rw [Int.toNat_natCast];exact qcell1 hx) ?_
  refine ld_sl2 a.sl (by rw [Int.toNat_natCast];exact qcell2 hx) ?_
  refine al_t 0 fun F G w r l H=>?_
  refine st_t r rfl (by simp) fun I t n J=>?_
  refine st_t t rfl (by simp) fun K p g z=>?_
  refine st_t p rfl (by simp) fun u q i A=>?_
  refine ld_t q rfl (dInt_i ?_)
  refine sB_eq (fun f=>?_) (fun f=>?_)
  ·refine ret_t ?_
   exact ⟨_,rfl,by rw [←ixf_qrel hD.qrel (fun x=>x.1==b) (fun x=>x.id==b) (fun x m h1 h2=>by rw [h1])];exact (ixf_some hx (by simpa using f) hall).symm,((((((Ch.refl [] s).chl c (by simp) (by simp<;>omega)).ch l (by simp)).on_new n (by omega)).on_new g (by omega)).on_new i (by omega))⟩
  refine wr_t (by have:=hD.nq;omega) ?_
  refine ⟨⟨u,rfl,_,rfl,((((((ChL.refl [] [] s).chl c (by simp) (by simp<;>omega)).ch l (by simp)).on_new n (by omega)).on_new g (by omega)).on_new i (by omega)),?_⟩,?_⟩
  ·refine ⟨k+1,by omega,by omega,fun j y hj hy=>?_⟩
   by_cases e:j=k
   ·subst e;rw [hx] at hy;cases hy;simpa using f
   exact hall j y (by omega) hy
  simp only [];omega
 refine ret_t ?_
 exact ⟨_,rfl,by rw [←ixf_qrel hD.qrel (fun x=>x.1==b) (fun x=>x.id==b) (fun x m h1 h2=>by rw [h1])];exact (ixf_none fun j y hj hy=>hall j y (by rw [hD.qrel.len] at hj;omega) hy).symm,((Ch.refl [] s).chl c (by simp) (by simp<;>omega))⟩
-- no form: bollard/bollardref02.New
theorem c_rwrite (d T:Nat) (D:DiskM) (b:Int) {xa:Option Addr} (xn xc:Nat) {l:List UInt8} {τx:Nat} (s:TH) (hT:10<=T) (hd:RDisk s d T D) (hx:Sl s xa (bvs l) τx) (hxl:l.length=xn) (hx1:xn<=1000000) (hx2:τx≠T) (hlast:0<=D.last/\D.last<=1000000000000000000):TRet Tryz.prog 201 #[.pointer (some ⟨d,0,none⟩),.int .i64 b,.slice xa xn xc] s fun v s'=>v=.tuple #[.int .i64 (D.write b l).2.1,.int .i64 (D.write b l).2.2]/\Ch [T,T+1,T+2,T+3,T+4] s s'/\RDisk s' d T (D.write b l).1:=by
 obtain ⟨pa,pc,qa,qc,hs,qs,fa,fc,fl,hD⟩:=id hd
 have hblk:=hD.blk
 have hrows:=hD.rows
 have hbrel:=hD.brel
 have hque:=hD.que
 have hqrel:=hD.qrel
 have hfails:=hD.fails
 refine F201_calls _ _ _ _ _  ?_
 unfold F201
 refine jn_u ?_
 refine tcall (c_rhas _ _ _ _ _ hT hd) ?_
 rintro _ H ⟨rfl,c⟩
 have aC:=c.size
 refine dBl_i ?_
 first|refine sB_d (fun n=>?_) (fun n=>?_)|refine sB_nd (fun n=>?_) (fun n=>?_)|refine sB_n (fun n=>?_) (fun n=>?_)|refine sB_i (fun n=>?_) (fun n=>?_)
 ·iterate 8 intro _
  refine dBl_i (sB_t (by rfl) ?_)
  refine ret_t ?_
  have D_3:=hd.mv c (rngn (by simp<;>omega))
  rw [write_1 (.inl (by simpa using n))]
  exact ⟨rfl,((Ch.refl [T,T+1,T+2,T+3,T+4] s).ch c (by simp)),D_3⟩
 iterate 8 intro _
 refine dBl_i ?_
 refine sB_ne (fun af=>?_) (fun af=>?_)
 ·refine ret_t ?_
  have D_4:=hd.mv c (rngn (by simp<;>omega))
  rw [write_1 (.inr (by omega))]
  exact ⟨rfl,((Ch.refl [T,T+1,T+2,T+3,T+4] s).ch c (by simp)),D_4⟩
 have hh:D.has b:=by simpa using n
 obtain rfl:xn=128:=by omega
 refine nz_i ?_
 have G:=hblk.ch c (by simp)
 refine ld_t G rfl (dSl_i ?_)
 refine ⟨fun vs H'=>∃s':TH,s'.h=H'/\∃m,vs=[.int .i64 m]/\ChL [] [] H s'/\(∃k:Nat,m=k/\k<=D.queue.length/\∀j x,j<k->qs[j]? =some x->(x.2.1==b)=false),fun vs H'=>match vs with|[.int .i64 m]=>(D.queue.length - m).toNat|_=>0,⟨H,rfl,_,rfl,ChL.refl _ _ _,?_⟩,?_⟩
 ·exact ⟨0,rfl,by omega,fun j x h=>by omega⟩
 intro m
 iterate 11 intro _
 intro aD hI
 obtain ⟨aE,rfl,m_,hvs,g,k,rfl,hk,hall⟩:=hI
 cases hvs
 have aF:=g.size
 refine sB_d (fun ag=>?_) (fun ag=>?_)
 ·have hk2:k<qs.length:=by rw [hD.qrel.len];omega
  obtain ⟨x,hx⟩: ∃x,qs[k]? =some x:=⟨qs[k],by simp⟩
  obtain ⟨aq,rfl⟩:=hD.que.sl.some (fun e=>by have:=qcell0 hx;rw [e] at this;simp at this)
  refine nz_i (ask_t (by omega) ?_)
  have Z:=hque.mv c (tagn (by simp))
  have w:=Z.mv g (tagL (by simp<;>omega) (by simp))
  refine ld_sl w.sl (by rw [Int.toNat_natCast];exact qcell0 hx) ?_
  refine ld_sl2 w.sl (by rw [Int.toNat_natCast];exact qcell1 hx) ?_
  refine ld_sl2 w.sl (by rw [Int.toNat_natCast];exact qcell2 hx) ?_
  refine al_t 0 fun aG aH ao I A ap=>?_
  refine st_t I rfl (by simp) fun aI J B ar=>?_
  refine st_t J rfl (by simp) fun aJ K C au=>?_
  refine st_t K rfl (by simp) fun an ah E av=>?_
  refine ld_t ah rfl (dInt_i ?_)
  refine sB_eq (fun F=>?_) (fun F=>?_)
  ·refine ret_t ?_
   have D_22:=hd.mv c (rngn (by simp<;>omega))
   have D_23:=D_22.mv g (rngL (by simp<;>omega) (by simp))
   have D_24:=D_23.mv A (rngn (by simp<;>omega))
   have D_25:=D_24.mv B (rngO (by rw [I.tag];omega))
   have D_26:=D_25.mv C (rngO (by rw [J.tag];omega))
   have D_27:=D_26.mv E (rngO (by rw [K.tag];omega))
   have h3:ixf (fun x:Int×Int×Hd=>x.2.1==b) qs=k:=ixf_some hx (by simpa using F) hall
   rw [ixf_qrel hD.qrel (fun x=>x.2.1==b) (fun m=>m.blk==b) (fun x m _ h2=>by rw [h2])] at h3
   rw [write_2 hh hxl (by omega)]
   exact ⟨rfl,(((((((Ch.refl [T,T+1,T+2,T+3,T+4] s).ch c (by simp)).chl g (by simp) (by simp<;>omega)).ch A (by simp)).on_new B (by omega)).on_new C (by omega)).on_new E (by omega)),D_27⟩
  refine wr_t (by have:=hD.nq;omega) ?_
  refine ⟨⟨an,rfl,_,rfl,((((((ChL.refl [] [] H).chl g (by simp) (by simp<;>omega)).ch A (by simp)).on_new B (by omega)).on_new C (by omega)).on_new E (by omega)),?_⟩,?_⟩
  ·refine ⟨k+1,by omega,by omega,fun j y hj hy=>?_⟩
   by_cases e:j=k
   ·subst e;rw [hx] at hy;cases hy;simpa using F
   exact hall j y (by omega) hy
  simp only [];omega
 have h3:ixf (fun x:Int×Int×Hd=>x.2.1==b) qs= -1:=ixf_none fun j y hj hy=>hall j y (by rw [hD.qrel.len] at hj;omega) hy
 rw [ixf_qrel hD.qrel (fun x=>x.2.1==b) (fun m=>m.blk==b) (fun x m _ h2=>by rw [h2])] at h3
 refine nz_i ?_
 have a:=G.chl g (by simp<;>omega) (by simp<;>omega)
 refine ld_t a rfl (dSl_i ?_)
 refine sB_d (fun ai=>?_) (fun ai=>?_)
 ·refine ret_t ?_
  have D_29:=hd.mv c (rngn (by simp<;>omega))
  have D_30:=D_29.mv g (rngL (by simp<;>omega) (by simp))
  rw [write_3 hh hxl (by omega) (by omega)]
  exact ⟨rfl,(((Ch.refl [T,T+1,T+2,T+3,T+4] s).ch c (by simp)).chl g (by simp) (by simp<;>omega)),D_30⟩
 refine nz_i (ld_t a rfl (dInt_i (wr_t (by omega) (nz_i ?_))))
 refine st_t a rfl (by simp) fun aK t q aw=>?_
 refine nz_i (ld_t t rfl (dSl_i (nz_i (ld_t t rfl (dInt_i ?_)))))
 have aj:=hx.mv c (tagn (by simp))
 have ak:=aj.mv g (tagL (by simp<;>omega) (by simp))
 have al:=ak.mv q (onn (by rw [a.tag];omega))
 refine tcall (c_copiedR (T+3) _ al hxl (fun h=>by obtain ⟨y,hy⟩:=hx.some (fun e=>by have:=congrArg List.length e;simp only [bvs_len,List.length_nil] at this;omega);rw [h] at hy;cases hy) (by omega)) ?_
 rintro _ aL ⟨xa2,xc2,rfl,i,aa⟩
 have ax:=i.size
 refine dSl_i ?_
 refine ⟨?_,?_⟩
 ·have L:=t.ch i (by simp)
  refine ld_t L rfl (dInt_i ?_)
  rfl
 refine ⟨?_,?_⟩
 ·have M:=t.ch i (by simp)
  refine ld_t M rfl (dSl_i ?_)
  rfl
 refine al_t 0 fun aM aN ay am o az=>?_
 refine ⟨?_,?_⟩
 ·have N:=t.ch i (by simp)
  have O:=N.ch o (by simp)
  refine ld_t O rfl (dSl_i ?_)
  rfl
 have P:=hque.mv c (tagn (by simp))
 have Q:=P.mv g (tagL (by simp<;>omega) (by simp))
 have R:=Q.mv q (onn (by rw [a.tag];omega))
 have S:=R.mv i (tagn (by simp))
 have z:=S.mv o (tagn (by simp))
 refine app_i u119 in197 rfl z am.sl (m:=1) (k:=3) rfl (by intro u hu;simp at hu;rcases hu with rfl|rfl|rfl<;>rfl) (by simp) (by have:=hD.nq;unfold maxLen;omega) fun aO qa2 qc2 U ab _=>?_
 have p:=ab.ch (T:=[T+2]) z (by simp)
 have aA:=p.size
 refine dSl_i (nz_i ?_)
 have V:=t.ch i (by simp)
 have W:=V.ch o (by simp)
 have f:=W.ch p (by intro h;simp only [List.mem_cons,List.not_mem_nil,or_false] at h<;>omega)
 refine st_t f rfl (by simp) fun aP X r aB=>?_
 refine nz_i (ld_t X rfl (dInt_i ?_))
 refine ret_t ?_
 have rows_61:=hrows.mv c (tagn (by simp))
 have rows_62:=rows_61.mv g (tagL (by simp<;>omega) (by simp))
 have rows_63:=rows_62.mv q (onn (by rw [a.tag];omega))
 have rows_64:=rows_63.mv i (tagn (by simp))
 have rows_65:=rows_64.mv o (tagn (by simp))
 have rows_66:=rows_65.mv p (tagn (by intro h;simp only [List.mem_cons,List.not_mem_nil,or_false] at h<;>omega))
 have rows_67:=rows_66.mv r (onn (by rw [f.tag];omega))
 have brel_68:=hbrel.mv c (tagn (by simp))
 have brel_69:=brel_68.mv g (tagL (by simp<;>omega) (by simp))
 have brel_70:=brel_69.mv q (onn (by rw [a.tag];omega))
 have brel_71:=brel_70.mv i (tagn (by simp))
 have brel_72:=brel_71.mv o (tagn (by simp))
 have brel_73:=brel_72.mv p (tagn (by intro h;simp only [List.mem_cons,List.not_mem_nil,or_false] at h<;>omega))
 have brel_74:=brel_73.mv r (onn (by rw [f.tag];omega))
 have Y:=U.mv r (onn (by rw [f.tag];omega))
 have qrel_76:=hqrel.mv c (tagn (by simp))
 have qrel_77:=qrel_76.mv g (tagL (by simp<;>omega) (by simp))
 have qrel_78:=qrel_77.mv q (onn (by rw [a.tag];omega))
 have qrel_79:=qrel_78.mv i (tagn (by simp))
 have qrel_80:=qrel_79.mv o (tagn (by simp))
 have qrel_81:=qrel_80.mv p (tagn (by intro h;simp only [List.mem_cons,List.not_mem_nil,or_false] at h<;>omega))
 have qrel_82:=qrel_81.mv r (onn (by rw [f.tag];omega))
 have ac:=aa.mv o (tagn (by simp))
 have ad:=ac.mv p (tagn (by intro h;simp only [List.mem_cons,List.not_mem_nil,or_false] at h<;>omega))
 have ae:=ad.mv r (onn (by rw [f.tag];omega))
 have fails_86:=hfails.mv c (tagn (by simp))
 have fails_87:=fails_86.mv g (tagL (by simp<;>omega) (by simp))
 have fails_88:=fails_87.mv q (onn (by rw [a.tag];omega))
 have fails_89:=fails_88.mv i (tagn (by simp))
 have fails_90:=fails_89.mv o (tagn (by simp))
 have fails_91:=fails_90.mv p (tagn (by intro h;simp only [List.mem_cons,List.not_mem_nil,or_false] at h<;>omega))
 have fails_92:=fails_91.mv r (onn (by rw [f.tag];omega))
 rw [write_4 hh hxl (by omega) (by omega)]
 exact ⟨rfl,((((((((Ch.refl [T,T+1,T+2,T+3,T+4] s).ch c (by simp)).chl g (by simp) (by simp<;>omega)).on_tag q a.tag (by simp)).ch i (by simp)).ch o (by simp)).ch p (by simp)).on_tag r f.tag (by simp)),pa,pc,qa2,qc2,hs,qs++[(D.last+1,b,(xa2,xc2))],fa,fc,fl,⟨by simpa using X,rows_67,brel_74,by simpa [qv] using Y,qrel_82.snoc ⟨rfl,rfl,⟨ae.sl,hxl⟩⟩,fails_92,hD.fok,hD.nb,by simp;omega,fun m hm=>by rcases List.mem_append.1 hm with hm|hm<;>first|exact hD.qin m hm|(simp at hm;subst hm;unfold DiskM.has at hh;exact hh)⟩⟩
theorem sl_keep {s s':TH} {a:Option Addr} {l:List Value} {τ:Nat} {B:Nat->Prop} (h:Sl s a l τ) (C:Chg B s s') (hn: ∀b,a=some b->¬B b.block):Sl s' a l τ:=by
 rcases h with h|⟨g,o,h1,h2,h3,h4⟩
 ·exact .inl h
 exact .inr ⟨g,o,h1,Nat.lt_of_lt_of_le h2 C.size,(C.tag g h2).trans h3,fun j v hv=>by rw [cellH_of (C.get g h2 (hn _ h1))];exact h4 j v hv⟩
theorem slO_block {a:Addr} {k:Nat} {i m:Int} {b:Addr} (h:slO (some a) k i m=some b):b.block=a.block:=by
 unfold slO slA Addr.add at h
 simp only [Option.map_some,Option.some.injEq] at h
 subst h
 split<;>(try split)<;>rfl
theorem Own.blt {s:TH} {a:Addr} {n c e k:Nat} {xs:List Value} {τ:Nat} (h:Own s (some a) n c e k xs τ):a.block<s.h.size:=by
 rcases h.2 with ⟨h0,_⟩|⟨g,o,L,h2,h3,_⟩
 ·cases h0
 cases h2;exact h3.lt
theorem c_rcomplete (d T:Nat) (D:DiskM) (n0:Int) (ok:Bool) (s:TH) (hT:10<=T) (hd:RDisk s d T D):TRet Tryz.prog 203 #[.pointer (some ⟨d,0,none⟩),.int .i64 n0,.bool ok] s fun v s'=>v=.int .i64 (D.complete n0 ok).2/\Ch [T,T+1,T+2,T+3,T+4] s s'/\RDisk s' d T (D.complete n0 ok).1:=by
 obtain ⟨pa,pc,qa,qc,hs,qs,fa,fc,fl,hD⟩:=id hd
 have hblk:=hD.blk
 have hrows:=hD.rows
 have hbrel:=hD.brel
 have hque:=hD.que
 have hqrel:=hD.qrel
 have hfails:=hD.fails
 refine F203_calls _ _ _  ?_
 unfold F203
 refine tcall (c_rfind _ _ _ _ _ hT hd) ?_
 rintro _ s2 ⟨k,rfl,hk,r⟩
 have aH:=r.size
 refine dInt_i ?_
 refine sB_d (fun ar=>?_) (fun ar=>?_)
 ·refine ret_t ?_
  have D_3:=hd.mv r (rngn (by simp<;>omega))
  rw [compl_1 (by omega)]
  exact ⟨rfl,((Ch.refl [T,T+1,T+2,T+3,T+4] s).ch r (by simp)),D_3⟩
 rcases ixf_cases (fun x:SentM=>x.id==n0) D.queue with ⟨h1,_⟩|⟨i,m,h1,hm,_⟩
 ·omega
 obtain rfl:k=i:=by omega
 have hi:i<D.queue.length:=(List.getElem?_eq_some_iff.1 hm).1
 obtain ⟨x,hx⟩: ∃x,qs[i]? =some x:=⟨qs[i]'(by rw [hD.qrel.len];exact hi),by simp [hD.qrel.len,hi]⟩
 have hQ:=hD.qrel.at_ i x m hx hm
 have hin:=hD.qin m (List.mem_of_getElem? hm)
 obtain ⟨aq,rfl⟩:=hD.que.sl.some (fun e=>by have:=qcell0 hx;rw [e] at this;simp at this)
 have hql:=hD.que.le
 have haq:=hD.que.blt
 have hnq:=hD.nq
 refine nz_i ?_
 have P:=hblk.ch r (by simp)
 refine ld_t P rfl (dSl_i (nz_i (ask_t (by omega) ?_)))
 have F:=hque.mv r (tagn (by simp))
 refine ld_sl F.sl (by rw [Int.toNat_natCast];exact qcell0 hx) ?_
 refine ld_sl2 F.sl (by rw [Int.toNat_natCast];exact qcell1 hx) ?_
 refine ld_sl2 F.sl (by rw [Int.toNat_natCast];exact qcell2 hx) ?_
 refine al_t 0 fun aI aJ ax C B aK=>?_
 refine st_t C rfl (by simp) fun aL E n ay=>?_
 refine st_t E rfl (by simp) fun aM t p az=>?_
 refine st_t t rfl (by simp) fun aN au q aA=>?_
 refine nz_i ?_
 have I:=P.ch B (by simp)
 have J:=I.on n (by intro he;have h1:=I.tag;have h2:=C.tag;rw [he] at h1;rw [h1] at h2;revert h2;simp<;>omega)
 have K:=J.on p (by intro he;have h1:=J.tag;have h2:=E.tag;rw [he] at h1;rw [h1] at h2;revert h2;simp<;>omega)
 have z:=K.on q (by intro he;have h1:=K.tag;have h2:=t.tag;rw [he] at h1;rw [h1] at h2;revert h2;simp<;>omega)
 refine ld_t z rfl (dSl_i (ask_t (by omega) (nz_i (ld_t z rfl (dSl_i (wr_t (by omega) (ask_t (by omega) ?_)))))))
 refine al_t (T+2) fun aO aP aB Y c aC=>?_
 refine ⟨?_,?_⟩
 ·have Z:=z.ch c (by simp)
  refine ld_t Z rfl (dSl_i ?_)
  rfl
 refine ⟨?_,?_⟩
 ·have aa:=z.ch c (by simp)
  refine ld_t aa rfl (dSl_i ?_)
  rfl
 have ab:=F.mv B (tagn (by simp))
 have ac:=ab.mv n (onn (by rw [C.tag];omega))
 have ad:=ac.mv p (onn (by rw [E.tag];omega))
 have ae:=ad.mv q (onn (by rw [t.tag];omega))
 have G:=ae.mv c (tagn (by simp))
 have hcut:=G.cut (m:=i+1) (by omega)
 simp only [Int.toNat_natCast,Int.toNat_zero,Nat.sub_zero,slO_zero]
 refine app_i u119 in197 rfl (Y.own0 3) (G.pre (m:=i) (by omega)).sl (G.pre (m:=i) (by omega)).len (fun u hu=>one_fm qs 0 u (by rw [List.drop_zero];exact List.mem_of_mem_take hu)) (fun h=>by cases h) (by unfold maxLen;omega) fun aQ a1 c1 N Q hnil=>?_
 have f:=Q.ch (T:=[T+2]) (Y.own0 3) (by simp);have hcut2:=sl_keep hcut Q (fun b hb=>by rw [slO_block hb];simp only [Option.map_some,Option.some.injEq];omega)
 have aD:=f.size
 rw [Nat.zero_add,List.nil_append] at N
 simp only [Nat.zero_add]
 refine dSl_i ?_
 refine ⟨?_,?_⟩
 ·have af:=z.ch c (by simp)
  have ag:=af.ch f (by intro h;simp only [List.mem_cons,List.not_mem_nil,or_false] at h<;>omega)
  refine ld_t ag rfl (dSl_i ?_)
  rfl
 rw [show ((i:Int)+1)=((i+1:Nat):Int) from by omega]
 simp only [Int.toNat_natCast]
 refine app_i u119 in197 rfl N hcut2 (m:=D.queue.length - (i+1)) (k:=3) (by rw [List.length_drop,hD.que.len, ←Nat.sub_mul]) (one_fm qs _) (by intro h;rcases Nat.lt_or_ge (i+1) D.queue.length with h2|h2<;>first|(exfalso;cases hs':slO (some aq) 3 ((i+1:Nat):Int) (qc:Int)<;>simp_all [slO])|omega) (by unfold maxLen;omega) fun aR qa2 qc2 M al _=>?_
 have j:=al.ch (T:=[T+2]) N (by simp)
 have aE:=j.size
 refine dSl_i (nz_i ?_)
 have ah:=z.ch c (by simp)
 have ai:=ah.ch f (by intro h;simp only [List.mem_cons,List.not_mem_nil,or_false] at h<;>omega)
 have a:=ai.ch j (by intro h;simp only [List.mem_cons,List.not_mem_nil,or_false] at h<;>omega)
 refine st_t a rfl (by simp) fun aS H l aF=>?_
 refine sB_n (fun O=>?_) (fun O=>?_)
 ·refine ret_t ?_
  have aj:=M.mv l (onn (by rw [a.tag];omega))
  have rows_47:=hrows.mv r (tagn (by simp))
  have rows_48:=rows_47.mv B (tagn (by simp))
  have rows_49:=rows_48.mv n (onn (by rw [C.tag];omega))
  have rows_50:=rows_49.mv p (onn (by rw [E.tag];omega))
  have rows_51:=rows_50.mv q (onn (by rw [t.tag];omega))
  have rows_52:=rows_51.mv c (tagn (by simp))
  have rows_53:=rows_52.mv f (tagn (by intro h;simp only [List.mem_cons,List.not_mem_nil,or_false] at h<;>omega))
  have rows_54:=rows_53.mv j (tagn (by intro h;simp only [List.mem_cons,List.not_mem_nil,or_false] at h<;>omega))
  have rows_55:=rows_54.mv l (onn (by rw [a.tag];omega))
  have brel_56:=hbrel.mv r (tagn (by simp))
  have brel_57:=brel_56.mv B (tagn (by simp))
  have brel_58:=brel_57.mv n (onn (by rw [C.tag];omega))
  have brel_59:=brel_58.mv p (onn (by rw [E.tag];omega))
  have brel_60:=brel_59.mv q (onn (by rw [t.tag];omega))
  have brel_61:=brel_60.mv c (tagn (by simp))
  have brel_62:=brel_61.mv f (tagn (by intro h;simp only [List.mem_cons,List.not_mem_nil,or_false] at h<;>omega))
  have brel_63:=brel_62.mv j (tagn (by intro h;simp only [List.mem_cons,List.not_mem_nil,or_false] at h<;>omega))
  have brel_64:=brel_63.mv l (onn (by rw [a.tag];omega))
  have qrel_65:=hqrel.mv r (tagn (by simp))
  have qrel_66:=qrel_65.mv B (tagn (by simp))
  have qrel_67:=qrel_66.mv n (onn (by rw [C.tag];omega))
  have qrel_68:=qrel_67.mv p (onn (by rw [E.tag];omega))
  have qrel_69:=qrel_68.mv q (onn (by rw [t.tag];omega))
  have qrel_70:=qrel_69.mv c (tagn (by simp))
  have qrel_71:=qrel_70.mv f (tagn (by intro h;simp only [List.mem_cons,List.not_mem_nil,or_false] at h<;>omega))
  have qrel_72:=qrel_71.mv j (tagn (by intro h;simp only [List.mem_cons,List.not_mem_nil,or_false] at h<;>omega))
  have qrel_73:=qrel_72.mv l (onn (by rw [a.tag];omega))
  have fails_74:=hfails.mv r (tagn (by simp))
  have fails_75:=fails_74.mv B (tagn (by simp))
  have fails_76:=fails_75.mv n (onn (by rw [C.tag];omega))
  have fails_77:=fails_76.mv p (onn (by rw [E.tag];omega))
  have fails_78:=fails_77.mv q (onn (by rw [t.tag];omega))
  have fails_79:=fails_78.mv c (tagn (by simp))
  have fails_80:=fails_79.mv f (tagn (by intro h;simp only [List.mem_cons,List.not_mem_nil,or_false] at h<;>omega))
  have fails_81:=fails_80.mv j (tagn (by intro h;simp only [List.mem_cons,List.not_mem_nil,or_false] at h<;>omega))
  have fails_82:=fails_81.mv l (onn (by rw [a.tag];omega))
  subst O
  rw [compl_2 h1 hm]
  have hle:(D.queue.eraseIdx i).length=i+(D.queue.length - (i+1)):=by rw [List.length_eraseIdx,if_pos hi];omega
  have hb:=H
  have hq:=aj
  rw [fm_erase qv_len] at hq
  exact ⟨rfl,((((((((((Ch.refl [T,T+1,T+2,T+3,T+4] s).ch r (by simp)).ch B (by simp)).on_new n (by omega)).on_new p (by omega)).on_new q (by omega)).ch c (by simp)).ch f (by simp)).ch j (by simp)).on_tag l a.tag (by simp)),pa,pc,qa2,qc2,hs,qs.eraseIdx i,fa,fc,fl,⟨by simpa [hle] using hb,rows_55,brel_64,by simp only [hle];exact hq,qrel_73.erase i,fails_82,hD.fok,hD.nb,by simp only [hle];omega,fun m hm=>hD.qin m (List.mem_of_mem_eraseIdx hm)⟩⟩
 obtain ⟨ap,rfl⟩: ∃ap,pa=some ap:=by
  have h0:=hD.nb
  rcases hD.rows.2 with ⟨_,h2,_⟩|⟨g,o,L,h2,_⟩
  ·omega
  exact ⟨_,h2⟩
 refine nz_i (ld_t H rfl (dSl_i ?_))
 have r13_83:=au.ch c (by simp)
 have r13_84:=r13_83.ch f (by intro h;simp only [List.mem_cons,List.not_mem_nil,or_false] at h<;>omega)
 have r13_85:=r13_84.ch j (by intro h;simp only [List.mem_cons,List.not_mem_nil,or_false] at h<;>omega)
 have r13_86:=r13_85.on l (by intro he;have h1:=r13_85.tag;have h2:=a.tag;rw [he] at h1;rw [h1] at h2;revert h2;simp<;>omega)
 refine ld_t r13_86 rfl (dInt_i (ld_t r13_86 rfl (dSl_i ?_)))
 have qrel_87:=hqrel.mv r (tagn (by simp))
 have qrel_88:=qrel_87.mv B (tagn (by simp))
 have qrel_89:=qrel_88.mv n (onn (by rw [C.tag];omega))
 have qrel_90:=qrel_89.mv p (onn (by rw [E.tag];omega))
 have qrel_91:=qrel_90.mv q (onn (by rw [t.tag];omega))
 have qrel_92:=qrel_91.mv c (tagn (by simp))
 have qrel_93:=qrel_92.mv f (tagn (by intro h;simp only [List.mem_cons,List.not_mem_nil,or_false] at h<;>omega))
 have qrel_94:=qrel_93.mv j (tagn (by intro h;simp only [List.mem_cons,List.not_mem_nil,or_false] at h<;>omega))
 have qrel_95:=qrel_94.mv l (onn (by rw [a.tag];omega))
 refine tcall (c_copiedR (T+3) _ (qrel_95.at_ i x m hx hm).2.2.sl (qrel_95.at_ i x m hx hm).2.2.len (fun h=>by obtain ⟨y,hy⟩:=hQ.2.2.ne;rw [h] at hy;cases hy) (by omega)) ?_
 rintro _ aT ⟨xa2,xc2,rfl,w,am⟩
 have aG:=w.size
 refine dSl_i ?_
 refine ⟨?_,?_⟩
 ·have r13_99:=r13_86.ch w (by simp)
  refine ld_t r13_99 rfl (dInt_i ?_)
  rfl
 refine ⟨?_,?_⟩
 ·have R:=H.ch w (by simp)
  refine ld_t R rfl (dSl_i ?_)
  rfl
 refine nz_i ?_
 refine ask_t (by rw [hQ.2.1];omega) ?_
 have rows_101:=hrows.mv r (tagn (by simp))
 have rows_102:=rows_101.mv B (tagn (by simp))
 have rows_103:=rows_102.mv n (onn (by rw [C.tag];omega))
 have rows_104:=rows_103.mv p (onn (by rw [E.tag];omega))
 have rows_105:=rows_104.mv q (onn (by rw [t.tag];omega))
 have rows_106:=rows_105.mv c (tagn (by simp))
 have rows_107:=rows_106.mv f (tagn (by intro h;simp only [List.mem_cons,List.not_mem_nil,or_false] at h<;>omega))
 have rows_108:=rows_107.mv j (tagn (by intro h;simp only [List.mem_cons,List.not_mem_nil,or_false] at h<;>omega))
 have rows_109:=rows_108.mv l (onn (by rw [a.tag];omega))
 have rows_110:=rows_109.mv w (tagn (by simp))
 refine Own.st rows_110 rfl (by have:=hin;rw [hQ.2.1];omega) fun av an ao aw=>?_
 have A:=Ch.on_tag (T:=[T+1]) (Ch.refl _ _) ao rows_110.tagOf (by simp)
 refine ret_t ?_
 have S:=H.ch w (by simp)
 have U:=S.ch A (by intro h;simp only [List.mem_cons,List.not_mem_nil,or_false] at h<;>omega)
 have V:=M.mv l (onn (by rw [a.tag];omega))
 have W:=V.mv w (tagn (by simp))
 have X:=W.mv A (tagn (by intro h;simp only [List.mem_cons,List.not_mem_nil,or_false] at h<;>omega))
 have ak:=am.mv A (tagn (by intro h;simp only [List.mem_cons,List.not_mem_nil,or_false] at h<;>omega))
 have brel_121:=hbrel.mv r (tagn (by simp))
 have brel_122:=brel_121.mv B (tagn (by simp))
 have brel_123:=brel_122.mv n (onn (by rw [C.tag];omega))
 have brel_124:=brel_123.mv p (onn (by rw [E.tag];omega))
 have brel_125:=brel_124.mv q (onn (by rw [t.tag];omega))
 have brel_126:=brel_125.mv c (tagn (by simp))
 have brel_127:=brel_126.mv f (tagn (by intro h;simp only [List.mem_cons,List.not_mem_nil,or_false] at h<;>omega))
 have brel_128:=brel_127.mv j (tagn (by intro h;simp only [List.mem_cons,List.not_mem_nil,or_false] at h<;>omega))
 have brel_129:=brel_128.mv l (onn (by rw [a.tag];omega))
 have brel_130:=brel_129.mv w (tagn (by simp))
 have brel_131:=brel_130.mv A (tagn (by intro h;simp only [List.mem_cons,List.not_mem_nil,or_false] at h<;>omega))
 have qrel_132:=qrel_95.mv w (tagn (by simp))
 have qrel_133:=qrel_132.mv A (tagn (by intro h;simp only [List.mem_cons,List.not_mem_nil,or_false] at h<;>omega))
 have fails_134:=hfails.mv r (tagn (by simp))
 have fails_135:=fails_134.mv B (tagn (by simp))
 have fails_136:=fails_135.mv n (onn (by rw [C.tag];omega))
 have fails_137:=fails_136.mv p (onn (by rw [E.tag];omega))
 have fails_138:=fails_137.mv q (onn (by rw [t.tag];omega))
 have fails_139:=fails_138.mv c (tagn (by simp))
 have fails_140:=fails_139.mv f (tagn (by intro h;simp only [List.mem_cons,List.not_mem_nil,or_false] at h<;>omega))
 have fails_141:=fails_140.mv j (tagn (by intro h;simp only [List.mem_cons,List.not_mem_nil,or_false] at h<;>omega))
 have fails_142:=fails_141.mv l (onn (by rw [a.tag];omega))
 have fails_143:=fails_142.mv w (tagn (by simp))
 have fails_144:=fails_143.mv A (tagn (by intro h;simp only [List.mem_cons,List.not_mem_nil,or_false] at h<;>omega))
 subst O
 rw [compl_3 h1 hm]
 have hle:(D.queue.eraseIdx i).length=i+(D.queue.length - (i+1)):=by rw [List.length_eraseIdx,if_pos hi];omega
 have hb:=U
 have hq:=X
 rw [fm_erase qv_len] at hq
 have hr:=an
 rw [Nat.mul_one,show (hs.flatMap hd1).set x.2.1.toNat (.slice xa2 128 xc2)=_ from fm_set1 hs x.2.1.toNat (xa2,xc2),hQ.2.1] at hr
 have hbb:ByAt av (T+3) (xa2,xc2) m.by_:=⟨ak.sl,hQ.2.2.len⟩
 exact ⟨rfl,((((((((((((Ch.refl [T,T+1,T+2,T+3,T+4] s).ch r (by simp)).ch B (by simp)).on_new n (by omega)).on_new p (by omega)).on_new q (by omega)).ch c (by simp)).ch f (by simp)).ch j (by simp)).on_tag l a.tag (by simp)).ch w (by simp)).ch A (by simp)),some ap,pc,qa2,qc2,hs.set m.blk.toNat (xa2,xc2),qs.eraseIdx i,fa,fc,fl,⟨by simpa [hle] using hb,by simpa using hr,brel_131.set _ hbb,by simp only [hle];exact hq,qrel_133.erase i,by simpa using fails_144,hD.fok,by simpa using hD.nb,by simp only [hle];omega,fun m hm=>by simpa using hD.qin m (List.mem_of_mem_eraseIdx hm)⟩⟩
end Go.Proofs.YtkaikaodhegmhaaGreat.E
