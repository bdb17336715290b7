/- My own texts, joined. -/
import Derived.Deep.QuietTactic
import Derived.KernelRfl
import Derived.Maps.Own
import Derived.Shelf.SlIterI.Nil
import Derived.Shelf.SlLaysF
import Derived.Shelf.SlSortCmp.NoneTotal
import Derived.Test.YtkaikaodhegmhaaGreatProg
import Derived.WalkKit
import Derived.Test.YtkaikaodhegmhaaGreatSS5
namespace Go.Proofs.YtkaikaodhegmhaaGreat.E
open Go Go.Proofs
set_option linter.unusedVariables false
set_option linter.unusedSimpArgs false
theorem c_made (d T:Nat) (D:DiskM) (s:TH) (hT:10<=T) (hd:Disk s d T D):TRet Tryz.prog 310 #[.pointer (some ⟨d,0,none⟩)] s fun v s'=>v=.bool true/\Ch [] s s':=by
 obtain ⟨pa,pc,qa,qc,hs,qs,fr,fm,hD⟩:=id hd
 have hblk:=hD.blk
 have hrows:=hD.rows
 have hbrel:=hD.brel
 have hque:=hD.que
 have hqrel:=hD.qrel
 have hfails:=hD.fails
 refine F310_calls _  ?_
 unfold F310
 refine sB_t (by rfl) (nz_i (ld_t hblk rfl (dSl_i ?_)))
 refine ret_t ?_
 exact ⟨ret_b (by have:=hD.nb;simp;omega),(Ch.refl [] s)⟩
theorem c_blocks (d T:Nat) (D:DiskM) (s:TH) (hT:10<=T) (hd:Disk s d T D):TRet Tryz.prog 99 #[.pointer (some ⟨d,0,none⟩)] s fun v s'=>v=.int .i64 (D.blocks.length:Int)/\Ch [] s s':=by
 obtain ⟨pa,pc,qa,qc,hs,qs,fr,fm,hD⟩:=id hd
 have hblk:=hD.blk
 have hrows:=hD.rows
 have hbrel:=hD.brel
 have hque:=hD.que
 have hqrel:=hD.qrel
 have hfails:=hD.fails
 refine F99_calls _  ?_
 unfold F99
 refine sB_f (by rfl) (nz_i (ld_t hblk rfl (dSl_i ?_)))
 refine ret_t ?_
 exact ⟨rfl,(Ch.refl [] s)⟩
theorem c_look (d T:Nat) (D:DiskM) (b:Int) (s:TH) (hT:10<=T) (hd:Disk s d T D):TRet Tryz.prog 307 #[.pointer (some ⟨d,0,none⟩),.int .i64 b] s fun v s'=>v=.int .i64 (if D.has b then 0 else 1)/\Ch [] s s':=by
 obtain ⟨pa,pc,qa,qc,hs,qs,fr,fm,hD⟩:=id hd
 have hblk:=hD.blk
 have hrows:=hD.rows
 have hbrel:=hD.brel
 have hque:=hD.que
 have hqrel:=hD.qrel
 have hfails:=hD.fails
 refine F307_calls _ _  ?_
 unfold F307
 refine tcall (c_made _ _ _ _ hT hd) ?_
 rintro _ s2 ⟨rfl,a⟩
 have g:=a.size
 refine dBl_i (sB_f (by rfl) ?_)
 refine jn_u ?_
 refine sB_d (fun e=>?_) (fun e=>?_)
 ·iterate 10 intro _
  refine dBl_i (sB_t (by rfl) ?_)
  refine ret_t ?_
  exact ⟨ret_i (by first|rw [if_pos (by unfold DiskM.has;omega)]|rw [if_neg (by unfold DiskM.has;omega)]),((Ch.refl [] s).ch a (by simp))⟩
 refine nz_i ?_
 have c:=hblk.ch a (by simp)
 refine ld_t c rfl (dSl_i ?_)
 iterate 10 intro _
 refine dBl_i ?_
 refine sB_d (fun f=>?_) (fun f=>?_)
 ·refine ret_t ?_
  exact ⟨ret_i (by first|rw [if_pos (by unfold DiskM.has;omega)]|rw [if_neg (by unfold DiskM.has;omega)]),((Ch.refl [] s).ch a (by simp))⟩
 refine ret_t ?_
 exact ⟨ret_i (by first|rw [if_pos (by unfold DiskM.has;omega)]|rw [if_neg (by unfold DiskM.has;omega)]),((Ch.refl [] s).ch a (by simp))⟩
theorem c_ixSent {qa:Option Addr} {n:Nat} (qc:Nat) {g:Nat} {xf xc:Array Value} {qs:List (Int×Int×Hd)} {τ:Nat} {s:TH} (p:Int×Int×Hd->Bool) (hq:Sl s qa (qs.flatMap qv) τ) (hn:qs.length=n) (hn2:n<=1000000) (hg:plainFn Tryz.prog g=true) (hp: ∀(s1:TH) (x:Int×Int×Hd),Ch [] s s1->TRet Tryz.prog g (argsOf xf [.agg #[.int .i64 x.1,.int .i64 x.2.1,.slice x.2.2.1 128 x.2.2.2]] xc) s1 fun v s2=>v=.bool (p x)/\Ch [] s1 s2):TRet Tryz.prog 325 #[.slice qa n qc,.func (.func g) xf xc] s fun v s'=>v=.int .i64 (ixf p qs)/\Ch [] s s':=by
 refine F325_calls _ _ _ _ _ _  ?_
 unfold F325
 refine ⟨fun vs H'=>∃s':TH,s'.h=H'/\∃m,vs=[.int .i64 m]/\ChL [] [] s s'/\(∃k:Nat,m=k/\k<=n/\∀j x,j<k->qs[j]? =some x->p x=false),fun vs H'=>match vs with|[.int .i64 m]=>((n:Int) - m).toNat|_=>0,⟨s,rfl,_,rfl,ChL.refl _ _ _,?_⟩,?_⟩
 ·exact ⟨0,rfl,by omega,fun j x h=>by omega⟩
 intro m
 iterate 12 intro _
 intro o hI
 obtain ⟨q,rfl,m_,hvs,c,k,rfl,hk,hall⟩:=hI
 cases hvs
 have r:=c.size
 refine sB_d (fun i=>?_) (fun i=>?_)
 ·have hk2:k<n:=by omega
  obtain ⟨x,hx⟩: ∃x,qs[k]? =some x:=⟨qs[k],by simp [hn,hk2]⟩
  obtain ⟨a,rfl⟩:=hq.some (fun e=>by have:=qcell0 hx;rw [e] at this;simp at this)
  refine nz_i (ask_t (by omega) ?_)
  have d:=hq.mv c (tagL (by simp<;>omega) (by simp))
  refine ld_sl d (by rw [Int.toNat_natCast];exact qcell0 hx) ?_
  refine ld_sl2 d (by rw [Int.toNat_natCast];exact qcell1 hx) ?_
  refine ld_sl2 d (by rw [Int.toNat_natCast];exact qcell2 hx) ?_
  rw [gB_eq hg]
  refine tcall (hp _ x ((Ch.refl [] s).chl c (by simp) (by simp<;>omega))) ?_
  rintro _ l ⟨rfl,f⟩
  have t:=f.size
  refine dBl_i ?_
  first|refine sB_d (fun b=>?_) (fun b=>?_)|refine sB_nd (fun b=>?_) (fun b=>?_)|refine sB_n (fun b=>?_) (fun b=>?_)|refine sB_i (fun b=>?_) (fun b=>?_)
  ·refine ret_t ?_
   exact ⟨ret_i (ixf_some hx b hall).symm,(((Ch.refl [] s).chl c (by simp) (by simp<;>omega)).ch f (by simp))⟩
  refine wr_t (by omega) ?_
  refine ⟨⟨l,rfl,_,rfl,(((ChL.refl [] [] s).chl c (by simp) (by simp<;>omega)).ch f (by simp)),?_⟩,?_⟩
  ·refine ⟨k+1,by omega,by omega,fun j y hj hy=>?_⟩
   by_cases e:j=k
   ·subst e;rw [hx] at hy;cases hy;exact b
   exact hall j y (by omega) hy
  simp only [];omega
 refine ret_t ?_
 exact ⟨ret_i (ixf_none fun j y hj hy=>hall j y (by omega) hy).symm,((Ch.refl [] s).chl c (by simp) (by simp<;>omega))⟩
theorem c_ctSent {qa:Option Addr} {n:Nat} (qc:Nat) {g:Nat} {xf xc:Array Value} {qs:List (Int×Int×Hd)} {τ:Nat} {s:TH} (p:Int×Int×Hd->Bool) (hq:Sl s qa (qs.flatMap qv) τ) (hn:qs.length=n) (hn2:n<=1000000) (hg:plainFn Tryz.prog g=true) (hp: ∀(s1:TH) (x:Int×Int×Hd),Ch [] s s1->TRet Tryz.prog g (argsOf xf [.agg #[.int .i64 x.1,.int .i64 x.2.1,.slice x.2.2.1 128 x.2.2.2]] xc) s1 fun v s2=>v=.bool (p x)/\Ch [] s1 s2):TRet Tryz.prog 308 #[.slice qa n qc,.func (.func g) xf xc] s fun v s'=>v=.bool (decide (ixf p qs>=0))/\Ch [] s s':=by
 refine F308_calls _ _ _ _ _ _  ?_
 unfold F308
 refine tcall (c_ixSent qc p hq hn hn2 hg hp) ?_
 rintro _ s2 ⟨rfl,a⟩
 have b:=a.size
 refine dInt_i ?_
 refine ret_t ?_
 exact ⟨rfl,((Ch.refl [] s).ch a (by simp))⟩
theorem c_w1 (b i k:Int) (p:Hd) (r t:Nat) {s:TH} (hr:Blk s r [.int .i64 b] t 0):TRet Tryz.prog 309 #[.agg #[.int .i64 i,.int .i64 k,.slice p.1 128 p.2],.pointer (some ⟨r,0,none⟩)] s fun v s'=>v=.bool (k==b)/\Ch [] s s':=by
 refine F309_calls _ _ _ _  ?_
 unfold F309
 refine al_t 0 fun r1 s2 e c a f=>?_
 refine ld_t c rfl (dInt_i ?_)
 have d:=hr.ch a (by simp)
 refine ld_t d rfl (dInt_i ?_)
 refine ret_t ?_
 exact ⟨rfl,((Ch.refl [] s).ch a (by simp))⟩
theorem c_p1 (b i k:Int) (p:Hd) (r t:Nat) {s:TH} (hr:Blk s r [.int .i64 b] t 0):TRet Tryz.prog 326 #[.agg #[.int .i64 i,.int .i64 k,.slice p.1 128 p.2],.pointer (some ⟨r,0,none⟩)] s fun v s'=>v=.bool (i==b)/\Ch [] s s':=by
 refine F326_calls _ _ _ _  ?_
 unfold F326
 refine al_t 0 fun r1 s2 e c a f=>?_
 refine ld_t c rfl (dInt_i ?_)
 have d:=hr.ch a (by simp)
 refine ld_t d rfl (dInt_i ?_)
 refine ret_t ?_
 exact ⟨rfl,((Ch.refl [] s).ch a (by simp))⟩
theorem c_place (d T:Nat) (D:DiskM) (b:Int) (s:TH) (hT:10<=T) (hd:Disk s d T D):TRet Tryz.prog 311 #[.pointer (some ⟨d,0,none⟩),.int .i64 b] s fun v s'=>∃k:Int,v=.int .i64 k/\(k=ixf (fun x:SentM=>x.id==b) D.queue)/\Ch [] s s':=by
 obtain ⟨pa,pc,qa,qc,hs,qs,fr,fm,hD⟩:=id hd
 have hblk:=hD.blk
 have hrows:=hD.rows
 have hbrel:=hD.brel
 have hque:=hD.que
 have hqrel:=hD.qrel
 have hfails:=hD.fails
 refine F311_calls _ _  ?_
 unfold F311
 refine al_t 0 fun r1 s2 h g a i=>?_
 refine nz_i ?_
 have c:=hblk.ch a (by simp)
 refine ld_t c rfl (dSl_i ?_)
 have e:=hque.mv a (tagn (by simp))
 refine tcall (c_ixSent _ (fun x=>x.1==b) e.sl (by rw [hD.qrel.len]) (by have:=hD.nq;omega) (by kernel_rfl) (fun s1 x c1=>c_p1 b x.1 x.2.1 x.2.2 r1 _ (g.ch c1 (by simp)))) ?_
 rintro _ s9 ⟨rfl,f⟩
 have j:=f.size
 refine dInt_i ?_
 refine ret_t ?_
 exact ⟨_,rfl,ixf_qrel hD.qrel (fun x=>x.1==b) (fun x=>x.id==b) (fun x m h1 h2=>by rw [h1]),(((Ch.refl [] s).ch a (by simp)).ch f (by simp))⟩
theorem c_delSent {a:Option Addr} {n c:Nat} (i:Nat) {qs:List (Int×Int×Hd)} {τ:Nat} {s:TH} (hq:Own s a n c 197 3 (qs.flatMap qv) τ) (hi:i<n) (hn:n<=1000):TRet Tryz.prog 312 #[.slice a n c,.int .i64 (i:Int),.int .i64 ((i:Int)+1)] s fun v s'=>∃a' c',v=.slice a' (n - 1) c'/\Ch [τ] s s'/\Own s' a' (n - 1) c' 197 3 ((qs.eraseIdx i).flatMap qv) τ:=by
 rw [show ((i:Int)+1)=((i+1:Nat):Int) from by omega]
 have hle:=hq.le
 refine F312_calls _ _ _ _ _  ?_
 unfold F312
 refine ask_t (by omega) ?_
 refine sB_eq (fun f=>by exfalso;omega) (fun f=>?_)
 refine ask_t (by omega) (ask_t (by omega) ?_)
 simp only [Int.toNat_natCast,Int.toNat_zero,Nat.sub_zero,slO_zero]
 refine app_i u119 in197 rfl (hq.pre (m:=i) (by omega)) (hq.cut (m:=i+1) (by omega)) (by rw [List.length_drop,hq.len, ←Nat.sub_mul]) (one_fm _ _) (by intro h;have:=hq.none_iff;cases ha:a with|none=>have:=this ha;omega|some b=>(rw [ha] at h;cases h)) (by unfold maxLen;omega) fun s4 a2 c2 q2_3 g hnil=>?_
 have d:=g.ch (T:=[τ]) hq (by simp)
 have k:=d.size
 refine dSl_i (ask_t (by omega) ?_)
 obtain ⟨rfl,rfl⟩:=hnil.2 (by omega)
 try simp only [Int.toNat_natCast]
 have hin:i+(n - (i+1))=n - 1:=by omega
 rw [hin] at q2_3 ⊢
 rw [fm_erase qv_len] at q2_3
 refine clear_t u119 in197 rfl (by intro u hu;simp [Value.cells] at hu;rcases hu with rfl|rfl|rfl<;>rfl) q2_3 (m:=n) (by omega) (by omega) fun l q3_6 j _=>?_
 have e:=j.ch (T:=[τ]) q2_3 (by simp)
 have o:=e.size
 refine ret_t ?_
 exact ⟨_,_,rfl,(((Ch.refl [τ] s).ch d (by simp)).ch e (by simp)),q3_6⟩
theorem c_write (d T:Nat) (D:DiskM) (b:Int) {xa:Option Addr} (xn xc:Nat) {l:List UInt8} {τx:Nat} (s:TH) (hT:10<=T) (hd:Disk s d T D) (hx:Sl s xa (bvs l) τx) (hxl:l.length=xn) (hx1:xn<=1000000) (hx2:τx≠T) (hlast:0<=D.last/\D.last<=1000000000000000000):TRet Tryz.prog 272 #[.pointer (some ⟨d,0,none⟩),.int .i64 b,.slice xa xn xc] s fun v s'=>v=.tuple #[.int .i64 (D.write b l).2.1,.int .i64 (D.write b l).2.2]/\Ch [T,T+1,T+2,T+3,T+4] s s'/\Disk s' d T (D.write b l).1:=by
 obtain ⟨pa,pc,qa,qc,hs,qs,fr,fm,hD⟩:=id hd
 have hblk:=hD.blk
 have hrows:=hD.rows
 have hbrel:=hD.brel
 have hque:=hD.que
 have hqrel:=hD.qrel
 have hfails:=hD.fails
 refine F272_calls _ _ _ _ _  ?_
 unfold F272
 refine al_t 0 fun r1 s2 am X n an=>?_
 refine ld_t X rfl (dInt_i ?_)
 have D_4:=hd.mv n (rngn (by simp<;>omega))
 refine tcall (c_look _ _ _ _ _ hT D_4) ?_
 rintro _ s6 ⟨rfl,f⟩
 have ao:=f.size
 refine dInt_i ?_
 refine sB_ne (fun w=>?_) (fun w=>?_)
 ·refine ret_t ?_
  have D_7:=D_4.mv f (rngn (by simp<;>omega))
  have hn: ¬D.has b:=fun h=>w (if_pos h)
  rw [write_1 (.inl hn),if_neg hn]
  exact ⟨rfl,(((Ch.refl [T,T+1,T+2,T+3,T+4] s).ch n (by simp)).ch f (by simp)),D_7⟩
 refine sB_ne (fun Y=>?_) (fun Y=>?_)
 ·refine ret_t ?_
  have D_8:=D_4.mv f (rngn (by simp<;>omega))
  rw [write_1 (.inr (by omega))]
  exact ⟨rfl,(((Ch.refl [T,T+1,T+2,T+3,T+4] s).ch n (by simp)).ch f (by simp)),D_8⟩
 obtain rfl:xn=128:=by omega
 have hh:D.has b:=by
  by_cases h:D.has b
  ·exact h
  rw [if_neg h] at w;cases w
 refine nz_i ?_
 have Q:=hblk.ch n (by simp)
 have z:=Q.ch f (by simp)
 refine ld_t z rfl (dSl_i ?_)
 have C:=hque.mv n (tagn (by simp))
 have A:=C.mv f (tagn (by simp))
 have r1_13:=X.ch f (by simp)
 refine tcall (c_ctSent _ (fun x=>x.2.1==b) A.sl (by rw [hD.qrel.len]) (by have:=hD.nq;omega) (by kernel_rfl) (fun s1 x c1=>c_w1 b x.1 x.2.1 x.2.2 r1 _ (r1_13.ch c1 (by simp)))) ?_
 rintro _ ap ⟨rfl,c⟩
 have af:=c.size
 refine dBl_i ?_
 first|refine sB_d (fun i=>?_) (fun i=>?_)|refine sB_nd (fun i=>?_) (fun i=>?_)|refine sB_n (fun i=>?_) (fun i=>?_)|refine sB_i (fun i=>?_) (fun i=>?_)
 ·refine ret_t ?_
  have D_16:=D_4.mv f (rngn (by simp<;>omega))
  have D_17:=D_16.mv c (rngn (by simp<;>omega))
  rw [ixf_qrel hD.qrel (fun x=>x.2.1==b) (fun m=>m.blk==b) (fun x m _ h2=>by rw [h2])] at i
  rw [write_2 hh hxl i]
  exact ⟨rfl,((((Ch.refl [T,T+1,T+2,T+3,T+4] s).ch n (by simp)).ch f (by simp)).ch c (by simp)),D_17⟩
 rw [ixf_qrel hD.qrel (fun x=>x.2.1==b) (fun m=>m.blk==b) (fun x m _ h2=>by rw [h2])] at i
 refine nz_i ?_
 have a:=z.ch c (by simp)
 refine ld_t a rfl (dSl_i ?_)
 refine sB_d (fun Z=>?_) (fun Z=>?_)
 ·refine ret_t ?_
  have D_19:=D_4.mv f (rngn (by simp<;>omega))
  have D_20:=D_19.mv c (rngn (by simp<;>omega))
  rw [write_3 hh hxl i (by omega)]
  exact ⟨rfl,((((Ch.refl [T,T+1,T+2,T+3,T+4] s).ch n (by simp)).ch f (by simp)).ch c (by simp)),D_20⟩
 refine nz_i (ld_t a rfl (dInt_i (wr_t (by omega) (nz_i ?_))))
 refine st_t a rfl (by simp) fun aq t p ag=>?_
 refine nz_i (ld_t t rfl (dSl_i (nz_i (ld_t t rfl (dInt_i ?_)))))
 have r1_24:=r1_13.ch c (by simp)
 have r1_25:=r1_24.on p (by intro he;have h1:=r1_24.tag;have h2:=a.tag;rw [he] at h1;rw [h1] at h2;revert h2;simp<;>omega)
 refine ld_t r1_25 rfl (dInt_i ?_)
 have aa:=hx.mv n (tagn (by simp))
 have ab:=aa.mv f (tagn (by simp))
 have ac:=ab.mv c (tagn (by simp))
 have ad:=ac.mv p (onn (by rw [a.tag];omega))
 refine tcall (c_clone (T+3) _ ad hxl (fun h=>by obtain ⟨y,hy⟩:=hx.some (fun e=>by have:=congrArg List.length e;simp only [bvs_len,List.length_nil] at this;omega);rw [h] at hy;cases hy) (by omega)) ?_
 rintro _ ar ⟨xa2,xc2,rfl,j,R,hxn⟩
 have ah:=j.size
 refine dSl_i ?_
 refine ⟨?_,?_⟩
 ·have r1_33:=r1_25.ch j (by simp)
  refine ld_t r1_33 rfl (dInt_i ?_)
  rfl
 refine ⟨?_,?_⟩
 ·have E:=t.ch j (by simp)
  refine ld_t E rfl (dInt_i ?_)
  rfl
 refine ⟨?_,?_⟩
 ·have F:=t.ch j (by simp)
  refine ld_t F rfl (dSl_i ?_)
  rfl
 refine al_t 0 fun au av ai ae o aj=>?_
 refine ⟨?_,?_⟩
 ·have G:=t.ch j (by simp)
  have H:=G.ch o (by simp)
  refine ld_t H rfl (dSl_i ?_)
  rfl
 have I:=A.mv c (tagn (by simp))
 have J:=I.mv p (onn (by rw [a.tag];omega))
 have K:=J.mv j (tagn (by simp))
 have B:=K.mv o (tagn (by simp))
 refine app_i u119 in197 rfl B ae.sl (m:=1) (k:=3) rfl (by intro u hu;simp at hu;rcases hu with rfl|rfl|rfl<;>rfl) (by simp) (by have:=hD.nq;unfold maxLen;omega) fun aw qa2 qc2 L S _=>?_
 have q:=S.ch (T:=[T+2]) B (by simp)
 have ak:=q.size
 refine dSl_i (nz_i ?_)
 have M:=t.ch j (by simp)
 have N:=M.ch o (by simp)
 have g:=N.ch q (by intro h;simp only [List.mem_cons,List.not_mem_nil,or_false] at h<;>omega)
 refine st_t g rfl (by simp) fun ax O r al=>?_
 refine nz_i (ld_t O rfl (dInt_i ?_))
 refine ret_t ?_
 have rows_54:=hrows.mv n (tagn (by simp))
 have rows_55:=rows_54.mv f (tagn (by simp))
 have rows_56:=rows_55.mv c (tagn (by simp))
 have rows_57:=rows_56.mv p (onn (by rw [a.tag];omega))
 have rows_58:=rows_57.mv j (tagn (by simp))
 have rows_59:=rows_58.mv o (tagn (by simp))
 have rows_60:=rows_59.mv q (tagn (by intro h;simp only [List.mem_cons,List.not_mem_nil,or_false] at h<;>omega))
 have rows_61:=rows_60.mv r (onn (by rw [g.tag];omega))
 have brel_62:=hbrel.mv n (tagn (by simp))
 have brel_63:=brel_62.mv f (tagn (by simp))
 have brel_64:=brel_63.mv c (tagn (by simp))
 have brel_65:=brel_64.mv p (onn (by rw [a.tag];omega))
 have brel_66:=brel_65.mv j (tagn (by simp))
 have brel_67:=brel_66.mv o (tagn (by simp))
 have brel_68:=brel_67.mv q (tagn (by intro h;simp only [List.mem_cons,List.not_mem_nil,or_false] at h<;>omega))
 have brel_69:=brel_68.mv r (onn (by rw [g.tag];omega))
 have P:=L.mv r (onn (by rw [g.tag];omega))
 have qrel_71:=hqrel.mv n (tagn (by simp))
 have qrel_72:=qrel_71.mv f (tagn (by simp))
 have qrel_73:=qrel_72.mv c (tagn (by simp))
 have qrel_74:=qrel_73.mv p (onn (by rw [a.tag];omega))
 have qrel_75:=qrel_74.mv j (tagn (by simp))
 have qrel_76:=qrel_75.mv o (tagn (by simp))
 have qrel_77:=qrel_76.mv q (tagn (by intro h;simp only [List.mem_cons,List.not_mem_nil,or_false] at h<;>omega))
 have qrel_78:=qrel_77.mv r (onn (by rw [g.tag];omega))
 have U:=R.mv o (tagn (by simp))
 have V:=U.mv q (tagn (by intro h;simp only [List.mem_cons,List.not_mem_nil,or_false] at h<;>omega))
 have W:=V.mv r (onn (by rw [g.tag];omega))
 have fails_82:=hfails.ch n (by simp)
 have fails_83:=fails_82.ch f (by simp)
 have fails_84:=fails_83.ch c (by simp)
 have fails_85:=fails_84.on p (by intro he;have h1:=fails_84.tag;have h2:=a.tag;rw [he] at h1;rw [h1] at h2;revert h2;simp<;>omega)
 have fails_86:=fails_85.ch j (by simp)
 have fails_87:=fails_86.ch o (by simp)
 have fails_88:=fails_87.ch q (by intro h;simp only [List.mem_cons,List.not_mem_nil,or_false] at h<;>omega)
 have fails_89:=fails_88.on r (by intro he;have h1:=fails_88.tag;have h2:=g.tag;rw [he] at h1;rw [h1] at h2;revert h2;simp<;>omega)
 rw [write_4 hh hxl i (by omega)]
 exact ⟨rfl,(((((((((Ch.refl [T,T+1,T+2,T+3,T+4] s).ch n (by simp)).ch f (by simp)).ch c (by simp)).on_tag p a.tag (by simp)).ch j (by simp)).ch o (by simp)).ch q (by simp)).on_tag r g.tag (by simp)),pa,pc,qa2,qc2,hs,qs++[(D.last+1,b,(xa2,xc2))],fr,fm,⟨by simpa using O,rows_61,brel_69,by simpa [qv] using P,qrel_78.snoc ⟨rfl,rfl,⟨W.sl,hxl⟩⟩,fails_89,hD.fok,hD.nb,by simp;omega,fun m hm=>by rcases List.mem_append.1 hm with hm|hm<;>first|exact hD.qin m hm|(simp at hm;subst hm;unfold DiskM.has at hh;exact hh)⟩⟩
theorem c_complete (d T:Nat) (D:DiskM) (n0:Int) (ok:Bool) (s:TH) (hT:10<=T) (hd:Disk s d T D):TRet Tryz.prog 275 #[.pointer (some ⟨d,0,none⟩),.int .i64 n0,.bool ok] s fun v s'=>v=.int .i64 (D.complete n0 ok).2/\Ch [T,T+1,T+2,T+3,T+4] s s'/\Disk s' d T (D.complete n0 ok).1:=by
 obtain ⟨pa,pc,qa,qc,hs,qs,fr,fm,hD⟩:=id hd
 have hblk:=hD.blk
 have hrows:=hD.rows
 have hbrel:=hD.brel
 have hque:=hD.que
 have hqrel:=hD.qrel
 have hfails:=hD.fails
 refine F275_calls _ _ _  ?_
 unfold F275
 refine tcall (c_made _ _ _ _ hT hd) ?_
 rintro _ s2 ⟨rfl,p⟩
 have ah:=p.size
 refine dBl_i (sB_f (by rfl) ?_)
 have D_3:=hd.mv p (rngn (by simp<;>omega))
 refine tcall (c_place _ _ _ _ _ hT D_3) ?_
 rintro _ s5 ⟨k,rfl,hk,q⟩
 have ai:=q.size
 refine dInt_i ?_
 refine sB_d (fun U=>?_) (fun U=>?_)
 ·refine ret_t ?_
  have D_6:=D_3.mv q (rngn (by simp<;>omega))
  rw [compl_1 (by omega)]
  exact ⟨rfl,(((Ch.refl [T,T+1,T+2,T+3,T+4] s).ch p (by simp)).ch q (by simp)),D_6⟩
 refine nz_i ?_
 have R:=hblk.ch p (by simp)
 have H:=R.ch q (by simp)
 refine ld_t H rfl (dSl_i ?_)
 rcases ixf_cases (fun x:SentM=>x.id==n0) D.queue with ⟨h1,_⟩|⟨i,m,h1,hm,_⟩
 ·omega
 obtain rfl:k=i:=by omega
 have hi:i<D.queue.length:=(List.getElem?_eq_some_iff.1 hm).1
 obtain ⟨x,hx⟩: ∃x,qs[i]? =some x:=⟨qs[i]'(by rw [hD.qrel.len];exact hi),by simp [hD.qrel.len,hi]⟩
 have hQ:=hD.qrel.at_ i x m hx hm
 have hin:=hD.qin m (List.mem_of_getElem? hm)
 obtain ⟨aq,rfl⟩:=hD.que.sl.some (fun e=>by have:=qcell0 hx;rw [e] at this;simp at this)
 refine nz_i (ask_t (by omega) ?_)
 have S:=hque.mv p (tagn (by simp))
 have w:=S.mv q (tagn (by simp))
 refine ld_sl w.sl (by rw [Int.toNat_natCast];exact qcell0 hx) ?_
 refine ld_sl2 w.sl (by rw [Int.toNat_natCast];exact qcell1 hx) ?_
 refine ld_sl2 w.sl (by rw [Int.toNat_natCast];exact qcell2 hx) ?_
 refine al_t 0 fun aj ak Z r f aa=>?_
 refine st_t r rfl (by simp) fun al t j ab=>?_
 refine st_t t rfl (by simp) fun am u l ac=>?_
 refine st_t u rfl (by simp) fun an V n ad=>?_
 refine nz_i ?_
 have z:=H.ch f (by simp)
 have A:=z.on j (by intro he;have h1:=z.tag;have h2:=r.tag;rw [he] at h1;rw [h1] at h2;revert h2;simp<;>omega)
 have B:=A.on l (by intro he;have h1:=A.tag;have h2:=t.tag;rw [he] at h1;rw [h1] at h2;revert h2;simp<;>omega)
 have C:=B.on n (by intro he;have h1:=B.tag;have h2:=u.tag;rw [he] at h1;rw [h1] at h2;revert h2;simp<;>omega)
 refine ld_t C rfl (dSl_i ?_)
 refine wr_t (by have:=hD.nq;omega) ?_
 have I:=w.mv f (tagn (by simp))
 have J:=I.mv j (onn (by rw [r.tag];omega))
 have K:=J.mv l (onn (by rw [t.tag];omega))
 have M:=K.mv n (onn (by rw [u.tag];omega))
 refine tcall (c_delSent i M (by omega) (by have:=hD.nq;omega)) ?_
 rintro _ ao ⟨qa2,qc2,rfl,b,E⟩
 have ae:=b.size
 refine dSl_i (nz_i ?_)
 have a:=C.ch b (by intro h;simp only [List.mem_cons,List.not_mem_nil,or_false] at h<;>omega)
 refine st_t a rfl (by simp) fun ar F c af=>?_
 refine sB_n (fun G=>?_) (fun G=>?_)
 ·refine ret_t ?_
  have N:=E.mv c (onn (by rw [a.tag];omega))
  have rows_39:=hrows.mv p (tagn (by simp))
  have rows_40:=rows_39.mv q (tagn (by simp))
  have rows_41:=rows_40.mv f (tagn (by simp))
  have rows_42:=rows_41.mv j (onn (by rw [r.tag];omega))
  have rows_43:=rows_42.mv l (onn (by rw [t.tag];omega))
  have rows_44:=rows_43.mv n (onn (by rw [u.tag];omega))
  have rows_45:=rows_44.mv b (tagn (by intro h;simp only [List.mem_cons,List.not_mem_nil,or_false] at h<;>omega))
  have rows_46:=rows_45.mv c (onn (by rw [a.tag];omega))
  have brel_47:=hbrel.mv p (tagn (by simp))
  have brel_48:=brel_47.mv q (tagn (by simp))
  have brel_49:=brel_48.mv f (tagn (by simp))
  have brel_50:=brel_49.mv j (onn (by rw [r.tag];omega))
  have brel_51:=brel_50.mv l (onn (by rw [t.tag];omega))
  have brel_52:=brel_51.mv n (onn (by rw [u.tag];omega))
  have brel_53:=brel_52.mv b (tagn (by intro h;simp only [List.mem_cons,List.not_mem_nil,or_false] at h<;>omega))
  have brel_54:=brel_53.mv c (onn (by rw [a.tag];omega))
  have qrel_55:=hqrel.mv p (tagn (by simp))
  have qrel_56:=qrel_55.mv q (tagn (by simp))
  have qrel_57:=qrel_56.mv f (tagn (by simp))
  have qrel_58:=qrel_57.mv j (onn (by rw [r.tag];omega))
  have qrel_59:=qrel_58.mv l (onn (by rw [t.tag];omega))
  have qrel_60:=qrel_59.mv n (onn (by rw [u.tag];omega))
  have qrel_61:=qrel_60.mv b (tagn (by intro h;simp only [List.mem_cons,List.not_mem_nil,or_false] at h<;>omega))
  have qrel_62:=qrel_61.mv c (onn (by rw [a.tag];omega))
  have fails_63:=hfails.ch p (by simp)
  have fails_64:=fails_63.ch q (by simp)
  have fails_65:=fails_64.ch f (by simp)
  have fails_66:=fails_65.on j (by intro he;have h1:=fails_65.tag;have h2:=r.tag;rw [he] at h1;rw [h1] at h2;revert h2;simp<;>omega)
  have fails_67:=fails_66.on l (by intro he;have h1:=fails_66.tag;have h2:=t.tag;rw [he] at h1;rw [h1] at h2;revert h2;simp<;>omega)
  have fails_68:=fails_67.on n (by intro he;have h1:=fails_67.tag;have h2:=u.tag;rw [he] at h1;rw [h1] at h2;revert h2;simp<;>omega)
  have fails_69:=fails_68.ch b (by intro h;simp only [List.mem_cons,List.not_mem_nil,or_false] at h<;>omega)
  have fails_70:=fails_69.on c (by intro he;have h1:=fails_69.tag;have h2:=a.tag;rw [he] at h1;rw [h1] at h2;revert h2;simp<;>omega)
  subst G
  rw [compl_2 h1 hm]
  have hle:(D.queue.eraseIdx i).length=D.queue.length - 1:=by rw [List.length_eraseIdx,if_pos hi]
  have hb:=F
  have hq:=N
  exact ⟨rfl,(((((((((Ch.refl [T,T+1,T+2,T+3,T+4] s).ch p (by simp)).ch q (by simp)).ch f (by simp)).on_new j (by omega)).on_new l (by omega)).on_new n (by omega)).ch b (by simp)).on_tag c a.tag (by simp)),pa,pc,qa2,qc2,hs,qs.eraseIdx i,fr,fm,⟨by simpa [hle] using hb,rows_46,brel_54,by simp only [hle];exact hq,qrel_62.erase i,fails_70,hD.fok,hD.nb,by simp only [hle];have:=hD.nq;omega,fun m hm=>hD.qin m (List.mem_of_mem_eraseIdx hm)⟩⟩
 refine nz_i (ld_t F rfl (dSl_i ?_))
 have r16_71:=V.ch b (by intro h;simp only [List.mem_cons,List.not_mem_nil,or_false] at h<;>omega)
 have r16_72:=r16_71.on c (by intro he;have h1:=r16_71.tag;have h2:=a.tag;rw [he] at h1;rw [h1] at h2;revert h2;simp<;>omega)
 refine ld_t r16_72 rfl (dInt_i (ld_t r16_72 rfl (dSl_i ?_)))
 obtain ⟨ap,rfl⟩: ∃ap,pa=some ap:=by
  have h0:=hD.nb
  rcases hD.rows.2 with ⟨_,h2,_⟩|⟨g,o,L,h2,_⟩
  ·omega
  exact ⟨_,h2⟩
 refine nz_i ?_
 refine ask_t (by rw [hQ.2.1];omega) ?_
 have rows_73:=hrows.mv p (tagn (by simp))
 have rows_74:=rows_73.mv q (tagn (by simp))
 have rows_75:=rows_74.mv f (tagn (by simp))
 have rows_76:=rows_75.mv j (onn (by rw [r.tag];omega))
 have rows_77:=rows_76.mv l (onn (by rw [t.tag];omega))
 have rows_78:=rows_77.mv n (onn (by rw [u.tag];omega))
 have rows_79:=rows_78.mv b (tagn (by intro h;simp only [List.mem_cons,List.not_mem_nil,or_false] at h<;>omega))
 have rows_80:=rows_79.mv c (onn (by rw [a.tag];omega))
 refine Own.st rows_80 rfl (by have:=hin;rw [hQ.2.1];omega) fun Y W X ag=>?_
 have y:=Ch.on_tag (T:=[T+1]) (Ch.refl _ _) X rows_80.tagOf (by simp)
 refine ret_t ?_
 have O:=F.ch y (by intro h;simp only [List.mem_cons,List.not_mem_nil,or_false] at h<;>omega)
 have P:=E.mv c (onn (by rw [a.tag];omega))
 have Q:=P.mv y (tagn (by intro h;simp only [List.mem_cons,List.not_mem_nil,or_false] at h<;>omega))
 have qrel_88:=hqrel.mv p (tagn (by simp))
 have qrel_89:=qrel_88.mv q (tagn (by simp))
 have qrel_90:=qrel_89.mv f (tagn (by simp))
 have qrel_91:=qrel_90.mv j (onn (by rw [r.tag];omega))
 have qrel_92:=qrel_91.mv l (onn (by rw [t.tag];omega))
 have qrel_93:=qrel_92.mv n (onn (by rw [u.tag];omega))
 have qrel_94:=qrel_93.mv b (tagn (by intro h;simp only [List.mem_cons,List.not_mem_nil,or_false] at h<;>omega))
 have qrel_95:=qrel_94.mv c (onn (by rw [a.tag];omega))
 have qrel_96:=qrel_95.mv y (tagn (by intro h;simp only [List.mem_cons,List.not_mem_nil,or_false] at h<;>omega))
 have brel_97:=hbrel.mv p (tagn (by simp))
 have brel_98:=brel_97.mv q (tagn (by simp))
 have brel_99:=brel_98.mv f (tagn (by simp))
 have brel_100:=brel_99.mv j (onn (by rw [r.tag];omega))
 have brel_101:=brel_100.mv l (onn (by rw [t.tag];omega))
 have brel_102:=brel_101.mv n (onn (by rw [u.tag];omega))
 have brel_103:=brel_102.mv b (tagn (by intro h;simp only [List.mem_cons,List.not_mem_nil,or_false] at h<;>omega))
 have brel_104:=brel_103.mv c (onn (by rw [a.tag];omega))
 have brel_105:=brel_104.mv y (tagn (by intro h;simp only [List.mem_cons,List.not_mem_nil,or_false] at h<;>omega))
 have fails_106:=hfails.ch p (by simp)
 have fails_107:=fails_106.ch q (by simp)
 have fails_108:=fails_107.ch f (by simp)
 have fails_109:=fails_108.on j (by intro he;have h1:=fails_108.tag;have h2:=r.tag;rw [he] at h1;rw [h1] at h2;revert h2;simp<;>omega)
 have fails_110:=fails_109.on l (by intro he;have h1:=fails_109.tag;have h2:=t.tag;rw [he] at h1;rw [h1] at h2;revert h2;simp<;>omega)
 have fails_111:=fails_110.on n (by intro he;have h1:=fails_110.tag;have h2:=u.tag;rw [he] at h1;rw [h1] at h2;revert h2;simp<;>omega)
 have fails_112:=fails_111.ch b (by intro h;simp only [List.mem_cons,List.not_mem_nil,or_false] at h<;>omega)
 have fails_113:=fails_112.on c (by intro he;have h1:=fails_112.tag;have h2:=a.tag;rw [he] at h1;rw [h1] at h2;revert h2;simp<;>omega)
 have fails_114:=fails_113.ch y (by intro h;simp only [List.mem_cons,List.not_mem_nil,or_false] at h<;>omega)
 subst G
 rw [compl_3 h1 hm]
 have hle:(D.queue.eraseIdx i).length=D.queue.length - 1:=by rw [List.length_eraseIdx,if_pos hi]
 have hb:=O
 have hq:=Q
 have hr:=W
 rw [Nat.mul_one,fm_set1,hQ.2.1] at hr
 have hbb:ByAt Y (T+3) x.2.2 m.by_:=(qrel_96.at_ i x m hx hm).2.2
 exact ⟨rfl,((((((((((Ch.refl [T,T+1,T+2,T+3,T+4] s).ch p (by simp)).ch q (by simp)).ch f (by simp)).on_new j (by omega)).on_new l (by omega)).on_new n (by omega)).ch b (by simp)).on_tag c a.tag (by simp)).ch y (by simp)),some ap,pc,qa2,qc2,hs.set m.blk.toNat x.2.2,qs.eraseIdx i,fr,fm,⟨by simpa [hle] using hb,by simpa using hr,brel_105.set _ hbb,by simp only [hle];exact hq,qrel_96.erase i,fails_114,hD.fok,by simpa using hD.nb,by simp only [hle];have:=hD.nq;omega,fun m hm=>by simpa using hD.qin m (List.mem_of_mem_eraseIdx hm)⟩⟩
theorem rowZ_bvs (n:Nat):rowZ [.int .u8 0] n=bvs (List.replicate n 0):=by
 induction n with
 |zero=>rfl
 |succ n ih=>rw [List.replicate_succ,bvs,List.map_cons, ←bvs, ←ih];rfl
theorem BRel.snoc {s:TH} {τ:Nat} {hs:List Hd} {bs:List (List UInt8)} (h:BRel s τ hs bs) {p:Hd} {b:List UInt8} (hp:ByAt s τ p b):BRel s τ (hs++[p]) (bs++[b]):=by
 refine ⟨by simp [h.len],fun i x y hx hy=>?_⟩
 by_cases hi:i<bs.length
 ·rw [List.getElem?_append_left (by rw [h.len];exact hi)] at hx
  rw [List.getElem?_append_left hi] at hy
  exact h.at_ i x y hx hy
 rw [List.getElem?_append_right (by rw [h.len];omega)] at hx
 rw [List.getElem?_append_right (by omega)] at hy
 rw [h.len] at hx
 cases hd:i - bs.length with
 |zero=>rw [hd] at hx hy;simp at hx hy;subst hx hy;exact hp
 |succ k=>rw [hd] at hx;simp at hx
theorem BRel.nil (s:TH) (τ:Nat):BRel s τ [] []:=⟨rfl,fun i p b h _=>by simp at h⟩
theorem QRel.nil (s:TH) (τ:Nat):QRel s τ [] []:=⟨rfl,fun i p b h _=>by simp at h⟩
-- no form: bollard/disk.New
theorem c_dread (d T τ:Nat) (D:DiskM) (b:Int) {l:List UInt8} (s:TH) (hT:10<=T) (hd:Disk s d T D) (hb:D.has b) (hl:D.blocks[b.toNat]? =some l) (hf:D.fails b<=0):TRet Tryz.prog 315 #[.pointer (some ⟨d,0,none⟩),.int .i64 b] s fun v s'=>∃a c,v=.tuple #[.slice a 128 c,.int .i64 0]/\Ch [] s s'/\Own s' a 128 c 5 1 (bvs l) τ:=by
 obtain ⟨pa,pc,qa,qc,hs,qs,fr,fm,hD⟩:=id hd
 have hblk:=hD.blk
 have hrows:=hD.rows
 have hbrel:=hD.brel
 have hque:=hD.que
 have hqrel:=hD.qrel
 have hfails:=hD.fails
 refine F315_calls _ _  ?_
 unfold F315
 refine tcall (c_look _ _ _ _ _ hT hd) ?_
 rintro _ s2 ⟨rfl,e⟩
 have n:=e.size
 refine dInt_i ?_
 refine sB_ne (fun i=>?_) (fun i=>?_)
 ·refine ret_t ?_
  exact absurd (if_pos hb) i
 have hb1:=hb;unfold DiskM.has at hb1
 obtain ⟨p,hp⟩: ∃p,hs[b.toNat]? =some p:=⟨hs[b.toNat]'(by rw [hD.brel.len];omega),by simp⟩
 obtain ⟨ap,rfl⟩: ∃ap,pa=some ap:=by
  have h0:=hD.nb
  rcases hD.rows.2 with ⟨_,h2,_⟩|⟨g,o,L,h2,_⟩
  ·omega
  exact ⟨_,h2⟩
 refine nz_i ?_
 have f:=hblk.ch e (by simp)
 refine ld_t f rfl (dMap_i ?_)
 have fails_4:=hfails.ch e (by simp)
 refine look_g keyI u118 z3 fails_4 b (hD.fok b) ?_
 refine dInt_i ?_
 refine sB_d (fun k=>by exfalso;omega) (fun k=>?_)
 refine nz_i (ld_t f rfl (dSl_i (nz_i (ask_t (by omega) ?_))))
 have rows_5:=hrows.mv e (tagn (by simp))
 refine ld_sl rows_5.sl (by rw [Nat.mul_one];exact bcell hp) ?_
 refine dSl_i ?_
 have brel_6:=hbrel.mv e (tagn (by simp))
 refine tcall (c_clone τ _ (brel_6.at_ _ _ _ hp hl).sl (brel_6.at_ _ _ _ hp hl).len (fun h=>by obtain ⟨y,hy⟩:=(hD.brel.at_ _ _ _ hp hl).ne;rw [h] at hy;cases hy) (by omega)) ?_
 rintro _ q ⟨xa2,xc2,rfl,j,m,hxn⟩
 have r:=j.size
 refine dSl_i ?_
 refine ret_t ?_
 exact ⟨xa2,xc2,rfl,(((Ch.refl [] s).ch e (by simp)).ch j (by simp)),m⟩
end Go.Proofs.YtkaikaodhegmhaaGreat.E
namespace Go.Proofs
open Go.Shelf
def Tryz.collectA_ren :Go.Shelf.Ren:=⟨fun|8=>288|11=>321|n=>n,fun|26=>3|28=>293|24=>33|0=>0|33=>108|4=>4|n=>n,fun|n=>n⟩
theorem Tryz.collectA :Go.Proofs.SlLaysZI.n8 Tryz.prog Tryz.collectA_ren:=
 {mixed:=by kernel_rfl,
  f8:=⟨Tryz.f288.name,by decide,Tryz.func288.trans (congrArg some (by kernel_rfl))⟩,
  f11:=⟨Tryz.f321.name,by decide,Tryz.func321.trans (congrArg some (by kernel_rfl))⟩,
  t0:=Tryz.underlying0,
  a0:=Tryz.isAgg0,
  z0:=Tryz.sizeOf0,
  v0:=Tryz.zeroValue0,
  t24:=Tryz.underlying33,
  a24:=Tryz.isAgg33,
  z24:=Tryz.sizeOf33,
  v24:=Tryz.zeroValue33,
  t26:=Tryz.underlying3,
  a26:=Tryz.isAgg3,
  z26:=Tryz.sizeOf3,
  v26:=Tryz.zeroValue3,
  t28:=Tryz.underlying293,
  a28:=Tryz.isAgg293,
  z28:=Tryz.sizeOf293,
  v28:=Tryz.zeroValue293,
  i26:=by kernel_rfl }
def Tryz.keysA_ren :Go.Shelf.Ren:=⟨fun|7=>335|10=>343|n=>n,fun|23=>208|26=>3|3=>263|28=>293|0=>0|27=>292|33=>108|4=>4|n=>n,fun|n=>n⟩
theorem Tryz.keysA :Go.Proofs.SlLaysZI.n7 Tryz.prog Tryz.keysA_ren:=
 {mixed:=by kernel_rfl,
  f7:=⟨Tryz.f335.name,by decide,Tryz.func335.trans (congrArg some (by kernel_rfl))⟩,
  f10:=⟨Tryz.f343.name,by decide,Tryz.func343.trans (congrArg some (by kernel_rfl))⟩,
  t0:=Tryz.underlying0,
  a0:=Tryz.isAgg0,
  z0:=Tryz.sizeOf0,
  v0:=Tryz.zeroValue0,
  t4:=Tryz.underlying4,
  a4:=Tryz.isAgg4,
  z4:=Tryz.sizeOf4,
  v4:=Tryz.zeroValue4,
  t23:=Tryz.underlying208,
  a23:=Tryz.isAgg208,
  z23:=Tryz.sizeOf208,
  v23:=Tryz.zeroValue208,
  t26:=Tryz.underlying3,
  a26:=Tryz.isAgg3,
  z26:=Tryz.sizeOf3,
  v26:=Tryz.zeroValue3,
  t27:=Tryz.underlying292,
  a27:=Tryz.isAgg292,
  z27:=Tryz.sizeOf292,
  v27:=Tryz.zeroValue292,
  t28:=Tryz.underlying293,
  a28:=Tryz.isAgg293,
  z28:=Tryz.sizeOf293,
  v28:=Tryz.zeroValue293,
  t33:=Tryz.underlying108,
  a33:=Tryz.isAgg108,
  z33:=Tryz.sizeOf108,
  v33:=Tryz.zeroValue108 }
def Tryz.keysB_ren :Go.Shelf.Ren:=⟨fun|7=>285|10=>317|n=>n,fun|23=>159|26=>3|3=>163|28=>293|0=>0|27=>292|33=>108|4=>4|n=>n,fun|n=>n⟩
theorem Tryz.keysB :Go.Proofs.SlLaysZI.n7 Tryz.prog Tryz.keysB_ren:=
 {mixed:=by kernel_rfl,
  f7:=⟨Tryz.f285.name,by decide,Tryz.func285.trans (congrArg some (by kernel_rfl))⟩,
  f10:=⟨Tryz.f317.name,by decide,Tryz.func317.trans (congrArg some (by kernel_rfl))⟩,
  t0:=Tryz.underlying0,
  a0:=Tryz.isAgg0,
  z0:=Tryz.sizeOf0,
  v0:=Tryz.zeroValue0,
  t4:=Tryz.underlying4,
  a4:=Tryz.isAgg4,
  z4:=Tryz.sizeOf4,
  v4:=Tryz.zeroValue4,
  t23:=Tryz.underlying159,
  a23:=Tryz.isAgg159,
  z23:=Tryz.sizeOf159,
  v23:=Tryz.zeroValue159,
  t26:=Tryz.underlying3,
  a26:=Tryz.isAgg3,
  z26:=Tryz.sizeOf3,
  v26:=Tryz.zeroValue3,
  t27:=Tryz.underlying292,
  a27:=Tryz.isAgg292,
  z27:=Tryz.sizeOf292,
  v27:=Tryz.zeroValue292,
  t28:=Tryz.underlying293,
  a28:=Tryz.isAgg293,
  z28:=Tryz.sizeOf293,
  v28:=Tryz.zeroValue293,
  t33:=Tryz.underlying108,
  a33:=Tryz.isAgg108,
  z33:=Tryz.sizeOf108,
  v33:=Tryz.zeroValue108 }
def Tryz.sortFA_ren :Go.Shelf.Ren:=⟨fun|6=>342|15=>193|14=>349|28=>267|29=>268|20=>354|21=>355|22=>356|23=>357|24=>358|25=>359|26=>360|27=>361|46=>363|47=>302|48=>303|49=>364|50=>365|57=>366|n=>n,fun|22=>33|24=>3|25=>373|3=>3|39=>172|0=>0|53=>90|55=>327|4=>4|46=>319|45=>318|50=>288|5=>5|9=>9|66=>343|70=>309|76=>355|77=>356|n=>n,fun|n=>n⟩
theorem Tryz.sortFA :Go.Proofs.SlLaysF.n6 Tryz.prog Tryz.sortFA_ren:=
 {mixed:=by kernel_rfl,
  f6:=⟨Tryz.f342.name,by decide,Tryz.func342.trans (congrArg some (by kernel_rfl))⟩,
  f14:=⟨Tryz.f349.name,by decide,Tryz.func349.trans (congrArg some (by kernel_rfl))⟩,
  f15:=Tryz.func193.trans (congrArg some (by kernel_rfl)),
  f20:=⟨Tryz.f354.name,by decide,Tryz.func354.trans (congrArg some (by kernel_rfl))⟩,
  f21:=⟨Tryz.f355.name,by decide,Tryz.func355.trans (congrArg some (by kernel_rfl))⟩,
  f22:=⟨Tryz.f356.name,by decide,Tryz.func356.trans (congrArg some (by kernel_rfl))⟩,
  f23:=⟨Tryz.f357.name,by decide,Tryz.func357.trans (congrArg some (by kernel_rfl))⟩,
  f24:=⟨Tryz.f358.name,by decide,Tryz.func358.trans (congrArg some (by kernel_rfl))⟩,
  f25:=⟨Tryz.f359.name,by decide,Tryz.func359.trans (congrArg some (by kernel_rfl))⟩,
  f26:=⟨Tryz.f360.name,by decide,Tryz.func360.trans (congrArg some (by kernel_rfl))⟩,
  f27:=⟨Tryz.f361.name,by decide,Tryz.func361.trans (congrArg some (by kernel_rfl))⟩,
  f28:=Tryz.func267.trans (congrArg some (by kernel_rfl)),
  f29:=Tryz.func268.trans (congrArg some (by kernel_rfl)),
  f46:=⟨Tryz.f363.name,by decide,Tryz.func363.trans (congrArg some (by kernel_rfl))⟩,
  f47:=Tryz.func302.trans (congrArg some (by kernel_rfl)),
  f48:=Tryz.func303.trans (congrArg some (by kernel_rfl)),
  f49:=⟨Tryz.f364.name,by decide,Tryz.func364.trans (congrArg some (by kernel_rfl))⟩,
  f50:=⟨Tryz.f365.name,by decide,Tryz.func365.trans (congrArg some (by kernel_rfl))⟩,
  f57:=⟨Tryz.f366.name,by decide,Tryz.func366.trans (congrArg some (by kernel_rfl))⟩,
  t0:=Tryz.underlying0,
  a0:=Tryz.isAgg0,
  z0:=Tryz.sizeOf0,
  v0:=Tryz.zeroValue0,
  t3:=Tryz.underlying3,
  a3:=Tryz.isAgg3,
  z3:=Tryz.sizeOf3,
  v3:=Tryz.zeroValue3,
  t4:=Tryz.underlying4,
  a4:=Tryz.isAgg4,
  z4:=Tryz.sizeOf4,
  v4:=Tryz.zeroValue4,
  t5:=Tryz.underlying5,
  a5:=Tryz.isAgg5,
  z5:=Tryz.sizeOf5,
  v5:=Tryz.zeroValue5,
  t9:=Tryz.underlying9,
  a9:=Tryz.isAgg9,
  z9:=Tryz.sizeOf9,
  v9:=Tryz.zeroValue9,
  t22:=Tryz.underlying33,
  a22:=Tryz.isAgg33,
  z22:=Tryz.sizeOf33,
  v22:=Tryz.zeroValue33,
  a24:=Tryz.isAgg3,
  z24:=Tryz.sizeOf3,
  t25:=Tryz.underlying373,
  a25:=Tryz.isAgg373,
  z25:=Tryz.sizeOf373,
  v25:=Tryz.zeroValue373,
  t39:=Tryz.underlying172,
  a39:=Tryz.isAgg172,
  z39:=Tryz.sizeOf172,
  v39:=Tryz.zeroValue172,
  t45:=Tryz.underlying318,
  a45:=Tryz.isAgg318,
  z45:=Tryz.sizeOf318,
  v45:=Tryz.zeroValue318,
  t46:=Tryz.underlying319,
  a46:=Tryz.isAgg319,
  z46:=Tryz.sizeOf319,
  v46:=Tryz.zeroValue319,
  t50:=Tryz.underlying288,
  a50:=Tryz.isAgg288,
  z50:=Tryz.sizeOf288,
  v50:=Tryz.zeroValue288,
  t53:=Tryz.underlying90,
  a53:=Tryz.isAgg90,
  z53:=Tryz.sizeOf90,
  v53:=Tryz.zeroValue90,
  t55:=Tryz.underlying327,
  a55:=Tryz.isAgg327,
  z55:=Tryz.sizeOf327,
  v55:=Tryz.zeroValue327,
  t66:=Tryz.underlying343,
  a66:=Tryz.isAgg343,
  z66:=Tryz.sizeOf343,
  v66:=Tryz.zeroValue343,
  t70:=Tryz.underlying309,
  a70:=Tryz.isAgg309,
  z70:=Tryz.sizeOf309,
  v70:=Tryz.zeroValue309,
  t76:=Tryz.underlying355,
  a76:=Tryz.isAgg355,
  z76:=Tryz.sizeOf355,
  v76:=Tryz.zeroValue355,
  t77:=Tryz.underlying356,
  a77:=Tryz.isAgg356,
  z77:=Tryz.sizeOf356,
  v77:=Tryz.zeroValue356 }
end Go.Proofs
namespace Go.Proofs.YtkaikaodhegmhaaGreat.E
open Go Go.Proofs Go.RowKit Go.Maps Go.Shelf Go.Sort
set_option linter.unusedVariables false
set_option linter.unusedSimpArgs false
theorem tret_new (τ:Nat) {P:Program} {f:FuncId} {args:Array Value} {s:TH} {Q:Value->TH->Prop}
  (h: ∀w:World,w.heap=s.h->Calls P f args w fun e w'=>∃v,e=.returned v/\Go.RowKit.Below w.heap.size w w'/\Q v ⟨w'.heap,fun j=>if j<s.h.size then s.g j else τ⟩):
  TRet P f args s fun v s'=>Q v s'/\Ch [] s s':=fun w hw=>
 (h w hw).mono fun e w' ⟨v,he,hb,hq⟩=>⟨⟨v,⟨w'.heap,fun j=>if j<s.h.size then s.g j else τ⟩,he,rfl,hq,⟨by rw [←hw];exact hb.size,fun j hj=>by simp [hj],fun j hj _=>by rw [←hw];exact hb.block j (by rw [hw];exact hj)⟩⟩,⟨hb.os,hb.tape,hb.output⟩⟩
theorem own_of_row {w':World} {B e k n:Nat} {v:Value} {xs:List Value} {τ:Nat} {g:Nat->Nat} (h:w'.ownsRow B e k v n xs) (hg: ∀j,B<=j->g j=τ): ∃a c,v=.slice a n c/\Own ⟨w'.heap,g⟩ a n c e k xs τ/\∀b,a=some b->B<=b.block:=by
 rcases h.2 with ⟨rfl,rfl⟩|⟨b,cap,cur,rfl,hb,hc,h1,h2,h3,h4⟩
 ·exact ⟨none,0,rfl,⟨h.1,.inl ⟨rfl,rfl,rfl⟩⟩,fun b hb=>by cases hb⟩
 exact ⟨_,cap,rfl,⟨h.1,.inr ⟨b,0,cur.toList,rfl,⟨by simpa using hc,hg b hb⟩,h1,h2,by simp [h3],by simpa using h4⟩⟩,fun b hb=>by cases hb;assumption⟩
def inI64 (x:Int):Prop:= -9223372036854775808<=x/\x<=9223372036854775807
theorem wf_i64 {x:Int} (h:inI64 x):(Lit.int .i64 x).wf=true:=by
 unfold inI64 at h
 have e1:IntKind.i64.min= -9223372036854775808:=by decide
 have e2:IntKind.i64.max=9223372036854775807:=by decide
 simp only [Lit.wf,e1,e2,Bool.and_eq_true,decide_eq_true_eq]
 exact h
theorem owns_of {P:Program} {K:TypeId} (hK:P.underlying K=some (.int .i64)) {s:TH} {r τ:Nat} {m:List (Int×Value)} (h:MapK (Value.int .i64) s r m τ) (w:World) (hw:w.heap=s.h) (hn:m.length<=17592186044416) (hk: ∀k∈m.map (·.1),inI64 k):
  ∃D0:DataW Unit,w.ownsMap P K (fun _=>some (.nil,[])) r m.length D0/\(intKeys D0).Perm (m.map (·.1))/\Go.Maps.size D0=m.length:=by
 obtain ⟨es,ck,hg,he⟩:=h.get
 have hlen:es.length=m.length:=by have:=congrArg List.length he.key;simpa using this
 have hread: ∀x∈es,∃k,x.key=.int .i64 k/\inI64 k:=fun x hx=>by
  have:x.key∈es.map (·.key):=List.mem_map.2 ⟨x,hx,rfl⟩
  rw [he.key] at this
  obtain ⟨p,hp,hpx⟩:=List.mem_map.1 this
  exact ⟨p.1,hpx.symm,hk _ (List.mem_map.2 ⟨p,hp,rfl⟩)⟩
 have hrd: ∀(x:MapEntry) (k:Int),x.key=.int .i64 k->inI64 k->Go.WideElems.rd (H:=Unit) P K (fun _=>some (.nil,[])) x=some (.int .i64 k,.nil):=fun x k hx hk=>by
  obtain ⟨xk,xv,xb⟩:=x
  cases hx
  exact Go.WideElems.rd_mk (R:=fun _=>some (.nil,[])) (yv:=(.nil,[])) (keyOf_int_mk hK (wf_i64 hk)) rfl
 have hnd:(es.map (·.key)).Nodup:=by
  rw [he.key]
  exact List.pairwise_map.2 ((List.pairwise_map.1 h.nd).imp fun {a b} hab=>by simpa using hab)
 refine ⟨.map ((es.map (Go.WideElems.rg P K (fun _=>some (.nil,[])))).foldr DataW.insert []),⟨es.toArray,ck,by rw [hw];exact hg,⟨by unfold maxLen;simp;omega,⟨by simpa using he.old,by simpa using he.born,by simpa using hnd⟩,?_⟩,by simp;omega,by simp⟩,?_,?_⟩
 ·intro x hx
  obtain ⟨k,h1,h2⟩:=hread x (by simpa using hx)
  exact ⟨_,hrd x k h1 h2⟩
 ·have hp:=Go.WideShapes.sorted_perm (es.map (Go.WideElems.rg (H:=Unit) P K (fun _=>some (.nil,[]))))
  have hq:=hp.map (fun p=>Go.intOf p.1)
  refine hq.trans (List.Perm.of_eq ?_)
  rw [List.map_map]
  have e1:es.map ((fun p:Lit×DataW Unit=>Go.intOf p.1) ∘ Go.WideElems.rg P K (fun _=>some (.nil,[])))=es.map (fun x=>match x.key with|.int _ k=>k|_=>0):=by
   apply List.map_congr_left
   intro x hx
   obtain ⟨k,h1,h2⟩:=hread x hx
   simp only [Function.comp,Go.WideElems.rg_of (hrd x k h1 h2),h1]
   rfl
  rw [e1]
  have e2:es.map (fun x=>match x.key with|.int _ k=>k|_=>0)=(es.map (·.key)).map (fun v=>match v with|.int _ k=>k|_=>0):=by rw [List.map_map];rfl
  rw [e2,he.key,List.map_map]
  rfl
 ·show (List.foldr DataW.insert [] _).length=_
  rw [(Go.WideShapes.sorted_perm _).length_eq,List.length_map,hlen]
theorem c_collect (τ:Nat) (Bm r tb τb τm:Nat) {m:List (Int×Value)} {s:TH} (hB:Blk s Bm [.map (some r)] tb τb) (hm:MapK (Value.int .i64) s r m τm) (hn:m.length<=17592186044416) (hk: ∀k∈m.map (·.1),inI64 k):
  TRet Tryz.prog 288 #[.func (.func 343) #[] #[.pointer (some ⟨Bm,0,none⟩)]] s fun v s'=>(∃a c ss,v=.slice a m.length c/\ss.Perm (m.map (·.1))/\Own s' a m.length c 3 1 (ivs ss) τ/\∀b,a=some b->s.h.size<=b.block)/\Ch [] s s':=
 tret_new τ fun w hw=>by
  have hm0:w.cell? ⟨Bm,0,none⟩=some (.map (some r)):=by rw [cell_eq,hw];exact hB.cell 0
  obtain ⟨D0,ho,hp,hsz⟩:=owns_of (P:=Tryz.prog) (K:=3) (by kernel_rfl) hm w hw hn hk
  have hseq:SeqGives Fence.wide 4 Tryz.prog 343 #[.pointer (some ⟨Bm,0,none⟩)] encZ (fun ss:List Int=>ss.Perm (intKeys D0)) (Go.Maps.size D0) w:=
   AnyZI.keys_gives (ρ:=Tryz.keysA_ren) { Tryz.keysA with } Fence.wide 4 trivial rfl (by omega) Bm r m.length D0 w (by rw [hw];exact hB.lt) hm0 ho
  have h:=AnyZI.collect_in (ρ:=Tryz.collectA_ren) Tryz.collectA Fence.wide 6 trivial trivial rfl (by omega) 343 #[.pointer (some ⟨Bm,0,none⟩)] trivial (enters_of Tryz.func343 (by kernel_rfl) rfl) _ (Go.Maps.size D0) (by rw [hsz];unfold maxLen;omega) (by rw [hsz];omega) w hseq
  refine ((callsIn_wide (n:=6)).1 h).mono ?_
  rintro e w' ⟨v,ss,rfl,hs,hrow,hv,hb⟩
  have hp2:=hs.trans hp
  have hl:ss.length=m.length:=by rw [hp2.length_eq];simp
  obtain ⟨a,c,rfl,hO,hnew⟩:=own_of_row (g:=fun j=>if j<s.h.size then s.g j else τ) (τ:=τ) hrow (fun j hj=>by rw [if_neg (by rw [←hw];omega)])
  rw [hl] at hO ⊢
  exact ⟨_,rfl,hb,a,c,ss,rfl,hp2,hO,by rw [←hw];exact hnew⟩
end Go.Proofs.YtkaikaodhegmhaaGreat.E
namespace Go.Proofs.YtkaikaodhegmhaaGreat.E
open Go Go.Proofs Go.RowKit Go.Maps Go.Shelf Go.Sort
set_option linter.unusedVariables false
set_option linter.unusedSimpArgs false
set_option maxHeartbeats 400000 in
theorem held1 {f0 c r:Nat} {m:List (Int×Value)} {bx by_:Nat} (x y ux uy:Int) {s:TH} {τ:Nat} (w:World) (hw:w.heap=s.h) (h0:w.cell? ⟨f0,0,none⟩=some (.pointer (some ⟨c,0,none⟩))) (h1:w.cell? ⟨c,2,none⟩=some (.map (some r)))
  (hm:MapK (Value.int .i64) s r m τ) (hx:mget x m=some (.pointer (some ⟨bx,0,none⟩))) (hy:mget y m=some (.pointer (some ⟨by_,0,none⟩)))
  (hbx:w.cell? ⟨bx,2,none⟩=some (.int .i64 ux)) (hby:w.cell? ⟨by_,2,none⟩=some (.int .i64 uy)) (hux:0<=ux/\ux<=9223372036854775807) (huy:0<=uy/\uy<=9223372036854775807):
  Calls Tryz.prog 336 #[.int .i64 x,.int .i64 y,.pointer (some ⟨f0,0,none⟩)] w fun e w'=>e=.returned (.int .i64 (ux - uy))/\∃n,w'=w.drewN n:=by
 have L1:RowKit.Hid (∀n,(Instr.lookup 208 (.map (some r)) (.int .i64 x) false).run Tryz.prog (w.drewN n)=.ok (.pointer (some ⟨bx,0,none⟩)) (w.drewN n)):=fun n=>by
  have:=run_look keyI u208 z263 hm x false (w.drewN n) hw
  rw [hx] at this;exact this
 have L2:RowKit.Hid (∀n,(Instr.lookup 208 (.map (some r)) (.int .i64 y) false).run Tryz.prog (w.drewN n)=.ok (.pointer (some ⟨by_,0,none⟩)) (w.drewN n)):=fun n=>by
  have:=run_look keyI u208 z263 hm y false (w.drewN n) hw
  rw [hy] at this;exact this
 have hwr:IntKind.i64.wrap (ux - uy)=ux - uy:=wrap_id (by omega) (by omega)
 clear hm hx hy hw
 go_enter Tryz.func336,Tryz.ntmps336
 go_wp2
 refine wp_region_quiet_lit (by kernel_rfl) (by kernel_rfl) ?_
 iterate 5 (refine wpQuiet_step (fun K hK=>?_);go_simp;refine hK _ ?_;clear hK K)
 refine wpQuiet_step (fun K hK=>?_)
 go_simp
 refine ⟨_,fun a=>by rw [L1.out a];exact ⟨rfl,rfl⟩,hK _ ?_⟩
 clear hK K
 iterate 8 (refine wpQuiet_step (fun K hK=>?_);go_simp;refine hK _ ?_;clear hK K)
 refine wpQuiet_step (fun K hK=>?_)
 go_simp
 refine ⟨_,fun a=>by rw [L2.out a];exact ⟨rfl,rfl⟩,hK _ ?_⟩
 clear hK K
 iterate 5 (refine wpQuiet_step (fun K hK=>?_);go_simp;refine hK _ ?_;clear hK K)
 refine wpQuiet_nil ?_
 rintro _ ⟨nq,rfl⟩
 go_wp2
 go_ret
 exact ⟨rfl,nq,rfl⟩
section
variable {α :Type} [Inhabited α]
theorem sortW_get (enc:α->Value) (w:World) (blk off m:Nat) (dk:Array α) (os:Array Obj) (j:Nat) (hj:j<w.heap.size):(sortWorld enc w blk off m dk os).heap[j]? =if blk=j then (w.heap[j]?).map (Go.Sort.onCells (Go.Sort.putCells enc off dk)) else w.heap[j]? :=by
 show ((w.heap.modify blk _)++os)[j]? =_
 rw [Array.getElem?_append_left (by simpa using hj),Array.getElem?_modify]
theorem sortW_on {enc:α->Value} {w:World} {s:TH} (hw:w.heap=s.h) (blk off m:Nat) (dk:Array α) (os:Array Obj):On blk s ⟨(sortWorld enc w blk off m dk os).heap,s.g⟩:=by
 refine ⟨?_,fun _ _=>rfl,fun j hj hn=>?_⟩
 ·show s.h.size<=((w.heap.modify blk _)++os).size
  simp [hw]
 show (sortWorld enc w blk off m dk os).heap[j]? =_
 rw [sortW_get _ _ _ _ _ _ _ _ (by rw [hw];exact hj),if_neg (fun e=>hn e.symm),hw]
theorem putCells_get (enc:α->Value) (off:Nat) (d:Array α) (c:Array Value) (j:Nat):(Go.Sort.putCells enc off d c)[j]? =(c[j]?).map fun x=>if off<=j/\j<off+d.size then enc d[j - off]! else x:=by
 unfold Go.Sort.putCells
 rw [Array.getElem?_mapIdx]
theorem sortW_own {enc:α->Value} {w:World} {s:TH} (hw:w.heap=s.h) {g o n c e τ:Nat} {xs:List Value} (hO:Own s (some ⟨g,o,none⟩) n c e 1 xs τ) (m:Nat) (dk:Array α) (hd:dk.size=n) (os:Array Obj):
  Own ⟨(sortWorld enc w g o m dk os).heap,s.g⟩ (some ⟨g,o,none⟩) n c e 1 (dk.toList.map enc) τ:=by
 rcases hO.2 with ⟨h0,_⟩|⟨g',o',L,h0,h1,h2,h3,h4,h5⟩
 ·cases h0
 ·cases h0
  have hg:(sortWorld enc w g o m dk os).heap[g]? =some (.cells (Go.Sort.putCells enc o dk L.toArray) e (0,0)):=by
   rw [sortW_get _ _ _ _ _ _ _ _ (by rw [hw];exact h1.lt),if_pos rfl,hw,h1.get]
   rfl
  refine ⟨by simp [hd],.inr ⟨g,o,(Go.Sort.putCells enc o dk L.toArray).toList,rfl,⟨by simpa using hg,h1.tag⟩,h2,h3,by simpa [Go.Sort.putCells] using h4,?_⟩⟩
  apply List.ext_getElem?
  intro i
  rw [List.getElem?_take,List.getElem?_drop]
  by_cases hi:i<n
  ·rw [if_pos (by omega),Array.getElem?_toList,putCells_get]
   have hL:o+i<L.length:=by omega
   simp [hL,hd,hi]
  ·rw [if_neg (by omega),List.getElem?_eq_none (by simp;omega)]
end
structure UsedAt (s:TH) (m:List (Int×Value)) (u:Int->Int) (τb:Nat):Prop where
 at_: ∀k∈m.map (·.1),∃b lb tb,mget k m=some (.pointer (some ⟨b,0,none⟩))/\Blk s b lb tb τb/\lb[2]? =some (.int .i64 (u k))/\0<=u k/\u k<=9223372036854775807
 inj: ∀x∈m.map (·.1),∀y∈m.map (·.1),u x=u y->x=y
theorem UsedAt.mv {s s':TH} {m:List (Int×Value)} {u:Int->Int} {τb:Nat} {B:Nat->Prop} (h:UsedAt s m u τb) (c:Chg B s s') (hn: ∀j,j<s.h.size->s.g j=τb->¬B j):UsedAt s' m u τb:=
 ⟨fun k hk=>by
  obtain ⟨b,lb,tb,h1,h2,h3⟩:=h.at_ k hk
  exact ⟨b,lb,tb,h1,h2.mv c (hn b h2.lt h2.tag),h3⟩,h.inj⟩
abbrev leU (u:Int->Int):Int->Int->Bool:=fun x y=>decide (u x<=u y)
theorem c_sortHeld {a:Option Addr} {n c f0 cc r tf τf tc τc τm τb τ:Nat} {ss:List Int} {m:List (Int×Value)} {lc:List Value} {s:TH} (u:Int->Int) (hO:Own s a n c 3 1 (ivs ss) τ) (hn:n<=17592186044416) (hF:Blk s f0 [.pointer (some ⟨cc,0,none⟩)] tf τf) (hC:Blk s cc lc tc τc) (hC2:lc[2]? =some (.map (some r)))
  (hm:MapK (Value.int .i64) s r m τm) (hU:UsedAt s m u τb) (hs: ∀x∈ss,x∈m.map (·.1)) (ht:τf≠τ/\τc≠τ/\τm≠τ/\τb≠τ):
  TRet Tryz.prog 342 #[.slice a n c,.func (.func 336) #[] #[.pointer (some ⟨f0,0,none⟩)]] s fun v s'=>v=.tuple #[]/\OnA a s s'/\Own s' a n c 3 1 (ivs (ss.mergeSort (leU u))) τ:=by
 have hl:ss.length=n:=by have:=hO.1;rw [ivs_len] at this;omega
 by_cases h0:n=0
 ·subst h0
  have hss:ss=[]:=List.eq_nil_of_length_eq_zero hl
  subst hss
  intro w hw
  refine (AnyF.slices_SortFunc_none (ρ:=Tryz.sortFA_ren) { Tryz.sortFA with } a c (.func (.func 336) #[] #[.pointer (some ⟨f0,0,none⟩)]) w).mono ?_
  rintro e w' ⟨rfl,rfl⟩
  exact ⟨⟨_,s,rfl,hw.symm,rfl,⟨Nat.le_refl _,fun _ _=>rfl,fun _ _ _=>rfl⟩,by simpa using hO⟩,Like.refl _⟩
 obtain ⟨g,o,rfl⟩: ∃g o,a=some ⟨g,o,none⟩:=by
  rcases hO.2 with ⟨_,h,_⟩|⟨g,o,L,h,_⟩
  ·exact absurd h h0
  ·exact ⟨g,o,h⟩
 have hgt:s.g g=τ:=hO.tagOf
 intro w hw
 let K:={k:Int // k∈m.map (·.1)}
 let enc:K->Value:=fun k=>.int .i64 k.1
 let cf:K->K->Int:=fun x y=>u x.1 - u y.1
 let d:Array K:=(ss.attach.map fun x=>⟨x.1,hs x.1 x.2⟩).toArray
 have hd:d.size=n:=by simp [d,hl]
 obtain ⟨x0,hx0⟩: ∃x,x∈ss:=by cases ss with|nil=>simp at hl;omega|cons x _=>exact ⟨x,by simp⟩
 letI:Inhabited K:=⟨⟨x0,hs x0 hx0⟩⟩
 have hdm:d.toList.map (fun k:K=>k.1)=ss:=by
  simp [d,Function.comp_def]
 have hne: ∀j,s.g j≠τ->j≠g:=fun j hj e=>hj (by rw [e];exact hgt)
 have hcmp:CmpLays1 Tryz.prog 336 #[.pointer (some ⟨f0,0,none⟩)] enc cf g o n w:=by
  intro m0 os dk hdk x y
  have hon:=sortW_on (enc:=enc) hw g o m0 dk os
  obtain ⟨bx,lx,tx,x1,x2,x3,x4⟩:=hU.at_ x.1 x.2
  obtain ⟨by_,ly,ty,y1,y2,y3,y4⟩:=hU.at_ y.1 y.2
  have e0:=hF.on hon (hne _ (by rw [hF.tag];exact ht.1))
  have e1:=hC.on hon (hne _ (by rw [hC.tag];exact ht.2.1))
  have e2:=hm.on hon (hne _ (by rw [hm.tag];exact ht.2.2.1))
  have e3:=x2.on hon (hne _ (by rw [x2.tag];exact ht.2.2.2))
  have e4:=y2.on hon (hne _ (by rw [y2.tag];exact ht.2.2.2))
  have h:=held1 (s:=⟨(sortWorld enc w g o m0 dk os).heap,s.g⟩) x.1 y.1 (u x.1) (u y.1) (sortWorld enc w g o m0 dk os) rfl (e0.cell 0) ((e1.cell 2).trans hC2) e2 x1 y1 ((e3.cell 2).trans x3) ((e4.cell 2).trans y3) x4 y4
  refine h.mono ?_
  rintro e w' ⟨rfl,q,rfl⟩
  exact ⟨rfl,q,#[],(grow_empty _).symm⟩
 have hH:Go.Sort.Holds enc w g o d:=by
  intro j hj
  have hj':j<n:=by rw [←hd];exact hj
  have hcell:=hO.sl.cells w hw j (enc d[j]!) (by
   have:(ivs ss)[j]? =some (enc d[j]!):=by
    rw [←hdm]
    simp [ivs,enc,hj]
   exact this)
  rw [add_mk] at hcell
  refine ⟨hcell,?_⟩
  rcases hO.2 with ⟨h,_⟩|⟨g',o',L,h,h1,_⟩
  ·cases h
  ·cases h
   rw [frozen_eq,hw];exact h1.frozen _
 have hlt: ∀x y:K,ltOf cf x y=decide (u x.1<u y.1):=fun x y=>by
  unfold ltOf
  by_cases h:u x.1<u y.1
  ·rw [decide_eq_true h];exact decide_eq_true (by show u x.1 - u y.1<0;omega)
  ·rw [decide_eq_false h];exact decide_eq_false (by show ¬(u x.1 - u y.1<0);omega)
 have hO2:SWO (ltOf cf):=⟨fun x=>by rw [hlt];simp,fun x y z h1 h2=>by rw [hlt] at*;simp at*;omega,fun x y z h1 h2=>by rw [hlt] at*;simp at*;omega⟩
 have hT: ∀x y,(ltOf cf) x y=false->(ltOf cf) y x=false->x=y:=fun x y h1 h2=>by
  rw [hlt] at h1 h2;simp at h1 h2
  exact Subtype.ext (hU.inj x.1 x.2 y.1 y.2 (by omega))
 have hS:=Any.slices_SortFunc_total (ρ:=Tryz.sortFA_ren) Tryz.sortFA enc (fun _=>rfl) cf hO2 336 #[.pointer (some ⟨f0,0,none⟩)] g o c d w (enters_of Tryz.func336 (by kernel_rfl) rfl) (by rw [hd];exact hcmp) hH (by rw [hw];rcases hO.2 with ⟨h,_⟩|⟨g',o',L,h,h1,_⟩<;>cases h;exact h1.lt) (by rw [hd];omega) hT
 rw [hd] at hS
 refine hS.mono ?_
 rintro e w' ⟨rfl,n',os,rfl⟩
 refine ⟨⟨_,⟨_,s.g⟩,rfl,rfl,rfl,Chg.mono (sortW_on (enc:=enc) hw g o n' _ os) (fun j hj e=>by simp [e]),?_⟩,rfl,rfl,rfl⟩
 have:=sortW_own (enc:=enc) hw hO n' (d.toList.mergeSort fun x y=> !(ltOf cf) y x).toArray (by simp [hd]) os
 have e:((d.toList.mergeSort fun x y=> !(ltOf cf) y x).toArray.toList.map enc)=ivs (ss.mergeSort (leU u)):=by
  show (d.toList.mergeSort _).map ((Value.int .i64) ∘ fun k:K=>k.1)=_
  rw [←List.map_map, ←hdm]
  unfold ivs
  congr 1
  apply List.map_mergeSort
  intro x _ y _
  rw [hlt]
  by_cases h:u x.1<=u y.1<;>simp [leU,h]<;>omega
 rw [e] at this
 exact this
theorem c_sfun {Bm r tb τb0 τm f0 cc tf τf tc τc τu:Nat} (τ:Nat) {m:List (Int×Value)} {lc:List Value} {s:TH} (u:Int->Int) (hB:Blk s Bm [.map (some r)] tb τb0) (hm:MapK (Value.int .i64) s r m τm) (hn:m.length<=17592186044416) (hk: ∀k∈m.map (·.1),inI64 k)
  (hF:Blk s f0 [.pointer (some ⟨cc,0,none⟩)] tf τf) (hC:Blk s cc lc tc τc) (hC2:lc[2]? =some (.map (some r))) (hU:UsedAt s m u τu):
  TRet Tryz.prog 334 #[.func (.func 343) #[] #[.pointer (some ⟨Bm,0,none⟩)],.func (.func 336) #[] #[.pointer (some ⟨f0,0,none⟩)]] s fun v s'=>∃(a:Option Addr) (c:Nat) (ss:List Int),v=.slice a m.length c/\ss.Perm (m.map (·.1))/\Ch [] s s'/\Own s' a m.length c 3 1 (ivs (ss.mergeSort (leU u))) τ:=by
 refine F334_calls _ _ _ _ _ _ ?_
 unfold F334
 obtain ⟨τ',hτ⟩: ∃τ',τf≠τ'/\τc≠τ'/\τm≠τ'/\τu≠τ':=⟨τf+τc+τm+τu+1,by omega⟩
 refine tcall (c_collect τ' _ _ _ _ _ hB hm hn hk) ?_
 rintro _ s1 ⟨⟨a,c,ss,rfl,hp,hO,hnew⟩,c1⟩
 refine dSl_i ?_
 refine tcall (c_sortHeld u hO hn (hF.ch c1 (by simp)) (hC.ch c1 (by simp)) hC2 (hm.ch c1 (by simp)) (hU.mv c1 (tagn (by simp))) (fun x hx=>hp.mem_iff.1 hx) hτ) ?_
 rintro _ s2 ⟨rfl,c2,hO2⟩
 have c3:Ch [] s s2:=Chg.trans c1 c2 fun j hj hB=>by
  cases a with
  |none=>simp at hB
  |some b=>simp at hB;have:=hnew b rfl;omega
 -- the row's mark: as asked
 let s3:TH:=⟨s2.h,fun j=>if j<s.h.size then s2.g j else τ⟩
 have c4:Ch [] s s3:=⟨c3.size,fun j hj=>by show (if j<s.h.size then s2.g j else τ)=_;rw [if_pos hj];exact c3.tag j hj,c3.get⟩
 refine ret_t (s:=s3) ⟨a,c,ss,rfl,hp,c4,hO2.1,hO2.2.imp id ?_⟩
 rintro ⟨g,o,L,h1,h2,h3⟩
 refine ⟨g,o,L,h1,⟨h2.get,?_⟩,h3⟩
 have:=hnew _ h1
 show (if g<s.h.size then s2.g g else τ)=τ
 rw [if_neg (by simp at this;omega)]
end Go.Proofs.YtkaikaodhegmhaaGreat.E
namespace Go.Proofs.YtkaikaodhegmhaaGreat.E
open Go
set_option linter.unusedVariables false
theorem dm {b q t:Int} (hb:0<b) (h0:0<=t) (h1:t<b):(q*b+t)/b=q/\(q*b+t)%b=t:=
 (Int.ediv_emod_unique hb).2 ⟨by rw [Int.mul_comm b q];omega,h0,h1⟩
def tab (b c x:Int):Prop:=2<=x%b/\x%b<2+c/4
instance (b c x : Int) : Decidable (tab b c x) := by unfold tab; infer_instance
def f1 (b c n x:Int):Int:=if x<n*b/\¬tab b c x then 1 else 0
theorem mget_none {κ:Type} [DecidableEq κ] {k:κ} {m:List (κ×Value)} (h:k∉m.map (·.1)):mget k m=none:=by
 induction m with
 |nil=>rfl
 |cons p m ih=>
  obtain ⟨k',v⟩:=p
  simp only [List.map_cons,List.mem_cons,not_or] at h
  simp only [mget,if_neg h.1];exact ih h.2
theorem mset_new {κ:Type} [DecidableEq κ] {k:κ} {x:Value} {m:List (κ×Value)} (h:k∉m.map (·.1)):mset k x m=m++[(k,x)]:=by
 induction m with
 |nil=>rfl
 |cons p m ih=>
  obtain ⟨k',v⟩:=p
  simp only [List.map_cons,List.mem_cons,not_or] at h
  simp only [mset,if_neg h.1,ih h.2];rfl
theorem mget_mset {κ:Type} [DecidableEq κ] {k k':κ} {x:Value} {m:List (κ×Value)}:mget k (mset k' x m)=if k=k' then some x else mget k m:=by
 induction m with
 |nil=>simp only [mset,mget]
 |cons p m ih=>
  obtain ⟨k2,v⟩:=p
  by_cases h:k'=k2
  ·subst h;simp only [mset,if_pos,mget];by_cases h2:k=k'<;>simp [h2]
  simp only [mset,if_neg h,mget,ih]
  by_cases h2:k=k2
  ·subst h2;simp [Ne.symm h]
  simp [h2]
end Go.Proofs.YtkaikaodhegmhaaGreat.E
namespace Go.Proofs.YtkaikaodhegmhaaGreat.E
open Go Go.Proofs Go.RowKit Go.Maps Go.Shelf Go.Sort
set_option linter.unusedVariables false
set_option linter.unusedSimpArgs false
theorem mget_mdel {m:List (Int×Value)} (hn:(m.map (·.1)).Nodup) (k k':Int):mget k (mdel k' m)=if k=k' then none else mget k m:=by
 induction m with
 |nil=>simp [mdel,mget]
 |cons p m ih=>
  rw [List.map_cons,List.nodup_cons] at hn
  rw [mdel]
  by_cases h:k'=p.1
  ·rw [if_pos h]
   by_cases hk:k=k'
   ·rw [if_pos hk]
    exact mget_none (by rw [hk,h];exact hn.1)
   rw [if_neg hk,mget,if_neg (by omega)]
  rw [if_neg h,mget,ih hn.2,mget]
  by_cases hk:k=p.1
  ·rw [if_pos hk,if_pos hk,if_neg (by omega)]
  rw [if_neg hk,if_neg hk]
theorem keys_mdel {m:List (Int×Value)} (k:Int):(mdel k m).map (·.1)=(m.map (·.1)).erase k:=by
 induction m with
 |nil=>rfl
 |cons p m ih=>
  rw [mdel,List.map_cons,List.erase_cons]
  by_cases h:k=p.1
  ·simp [h]
  rw [if_neg h,if_neg (by simpa using fun e=>h e.symm),List.map_cons,ih]
structure BufM where
 blk:Int
 by_:List UInt8
 pins:Int
 used:Int
structure CacheM where
 l:List BufM
 bound:Int
 clock:Int
 hits:Int
 misses:Int
def rmB (l:List BufM) (b:Int):List BufM:=l.filter fun x=> !(x.blk==b)
def freeB (l:List BufM):Option BufM:=l.find? fun x=>x.pins==0
def CacheM.room (C:CacheM):Option (List BufM):=if (C.l.length:Int)<C.bound then some C.l else (freeB C.l).map fun v=>rmB C.l v.blk
def CacheM.find (C:CacheM) (b:Int):Option BufM:=C.l.find? fun x=>x.blk==b
def CacheM.get (C:CacheM) (bs:List (List UInt8)) (b:Int):CacheM×Int:=
 match C.find b with
 |some x=>({ C with l:=rmB C.l b++[{ x with used:=C.clock+1 }],clock:=C.clock+1,hits:=C.hits+1 },0)
 |none=>
  match C.room with
  |none=>({ C with misses:=C.misses+1 },60)
  |some l=>({ C with l:=l++[⟨b,(bs[b.toNat]?).getD [],0,C.clock+1⟩],clock:=C.clock+1,misses:=C.misses+1 },0)
def bufv (p:Hd) (pins used:Int):List Value:=[.slice p.1 128 p.2,.int .i64 pins,.int .i64 used]
structure Bufs (s:TH) (τ:Nat) (l:List BufM) (bp:Int->Nat) (bh:Int->Hd):Prop where
 at_: ∀x∈l,Blk s (bp x.blk) (bufv (bh x.blk) x.pins x.used) 267 τ
theorem Bufs.mv {s s':TH} {τ:Nat} {l:List BufM} {bp:Int->Nat} {bh:Int->Hd} {B:Nat->Prop} (h:Bufs s τ l bp bh) (c:Chg B s s') (hn: ∀j,j<s.h.size->s.g j=τ->¬B j):Bufs s' τ l bp bh:=
 ⟨fun x hx=>(h.at_ x hx).mv c (hn _ (h.at_ x hx).lt (h.at_ x hx).tag)⟩
structure BufY (s:TH) (τ:Nat) (l:List BufM) (bh:Int->Hd):Prop where
 at_: ∀x∈l,ByAt s τ (bh x.blk) x.by_
theorem BufY.mv {s s':TH} {τ:Nat} {l:List BufM} {bh:Int->Hd} {B:Nat->Prop} (h:BufY s τ l bh) (c:Chg B s s') (hn: ∀j,j<s.h.size->s.g j=τ->¬B j):BufY s' τ l bh:=⟨fun x hx=>(h.at_ x hx).mv c hn⟩
structure MapOf (m:List (Int×Value)) (l:List BufM) (bp:Int->Nat):Prop where
 keys:(m.map (·.1)).Perm (l.map (·.blk))
 at_: ∀x∈l,mget x.blk m=some (.pointer (some ⟨bp x.blk,0,none⟩))
 inj: ∀x∈l,∀y∈l,bp x.blk=bp y.blk->x.blk=y.blk
 nd:(l.map (·.blk)).Nodup
 rng: ∀x∈l,0<=x.blk/\x.blk<2048
structure CacheP (s:TH) (c T d:Nat) (C:CacheM) (r:Nat) (m:List (Int×Value)) (bp:Int->Nat) (bh:Int->Hd):Prop where
 blk:Blk s c [.pointer (some ⟨d,0,none⟩),.int .i64 C.bound,.map (some r),.int .i64 C.clock,.int .i64 C.hits,.int .i64 C.misses] 210 T
 map:MapK (Value.int .i64) s r m (T+1)
 bufs:Bufs s (T+2) C.l bp bh
 bufy:BufY s (T+3) C.l bh
 mo:MapOf m C.l bp
 bnd:1<=C.bound/\C.bound<=64
 len:(C.l.length:Int)<=C.bound
structure COk (C:CacheM):Prop where
 srt:C.l.Pairwise fun x y=>x.used<y.used
 rng: ∀x∈C.l,0<=x.used/\x.used<=C.clock
 clk:0<=C.clock/\C.clock<=9223372036854775807
 cnt:0<=C.hits/\C.hits<=9223372036854775807/\0<=C.misses/\C.misses<=9223372036854775807
 pin: ∀x∈C.l,0<=x.pins/\x.pins<=100
structure Cache (s:TH) (c T d:Nat) (C:CacheM):Prop where
 p: ∃r m bp bh,CacheP s c T d C r m bp bh
 ok:COk C
theorem CacheP.mv {s s':TH} {c T d r:Nat} {C:CacheM} {m:List (Int×Value)} {bp:Int->Nat} {bh:Int->Hd} {B:Nat->Prop} (h:CacheP s c T d C r m bp bh) (k:Chg B s s') (hn: ∀j,j<s.h.size->T<=s.g j->s.g j<T+10->¬B j):CacheP s' c T d C r m bp bh:=
 ⟨h.blk.mv k (of_rng hn (Nat.le_refl _) (by omega) c h.blk.lt h.blk.tag),h.map.mv k (of_rng hn (by omega) (by omega) r h.map.lt h.map.tag),h.bufs.mv k (of_rng hn (by omega) (by omega)),h.bufy.mv k (of_rng hn (by omega) (by omega)),h.mo,h.bnd,h.len⟩
theorem Cache.mv {s s':TH} {c T d:Nat} {C:CacheM} {B:Nat->Prop} (h:Cache s c T d C) (k:Chg B s s') (hn: ∀j,j<s.h.size->T<=s.g j->s.g j<T+10->¬B j):Cache s' c T d C:=by
 obtain ⟨⟨r,m,bp,bh,hp⟩,ok⟩:=h
 exact ⟨⟨r,m,bp,bh,hp.mv k hn⟩,ok⟩
def usedOf (l:List BufM) (k:Int):Int:=((l.find? fun x=>x.blk==k).map (·.used)).getD 0
theorem find_nd {l:List BufM} (hn:(l.map (·.blk)).Nodup) {x:BufM} (hx:x∈l):(l.find? fun y=>y.blk==x.blk)=some x:=by
 induction l with
 |nil=>cases hx
 |cons y l ih=>
  rw [List.map_cons,List.nodup_cons] at hn
  rw [List.find?_cons]
  rcases List.mem_cons.1 hx with rfl|hx
  ·simp
  have:(y.blk==x.blk)=false:=by
   simp only [beq_eq_false_iff_ne]
   intro e;exact hn.1 (by rw [e];exact List.mem_map.2 ⟨x,hx,rfl⟩)
  rw [this];exact ih hn.2 hx
theorem usedOf_eq {l:List BufM} (hn:(l.map (·.blk)).Nodup) {x:BufM} (hx:x∈l):usedOf l x.blk=x.used:=by unfold usedOf;rw [find_nd hn hx];rfl
theorem used_ne {l:List BufM} (h:l.Pairwise fun x y=>x.used<y.used): ∀x∈l,∀y∈l,x.used=y.used->x.blk=y.blk:=by
 induction l with
 |nil=>intro x hx;cases hx
 |cons z l ih=>
  rw [List.pairwise_cons] at h
  intro x hx y hy e
  rcases List.mem_cons.1 hx with hx1|hx1<;>rcases List.mem_cons.1 hy with hy1|hy1
  ·rw [hx1,hy1]
  ·have:=h.1 y hy1;rw [hx1] at e;omega
  ·have:=h.1 x hx1;rw [hy1] at e;omega
  exact ih h.2 x hx1 y hy1 e
theorem CacheP.usedAt {s:TH} {c T d r:Nat} {C:CacheM} {m:List (Int×Value)} {bp:Int->Nat} {bh:Int->Hd} (h:CacheP s c T d C r m bp bh) (ok:COk C):UsedAt s m (usedOf C.l) (T+2):=by
 have hmem: ∀k∈m.map (·.1),∃x∈C.l,x.blk=k:=fun k hk=>by
  have:=h.mo.keys.mem_iff.1 hk
  obtain ⟨x,hx,e⟩:=List.mem_map.1 this
  exact ⟨x,hx,e⟩
 refine ⟨fun k hk=>?_,fun a ha b hb e=>?_⟩
 ·obtain ⟨x,hx,rfl⟩:=hmem k hk
  have h1:=ok.rng x hx
  have h2:=ok.clk
  exact ⟨_,_,_,h.mo.at_ x hx,h.bufs.at_ x hx,by rw [usedOf_eq h.mo.nd hx];rfl,by rw [usedOf_eq h.mo.nd hx];omega,by rw [usedOf_eq h.mo.nd hx];omega⟩
 obtain ⟨x,hx,rfl⟩:=hmem a ha
 obtain ⟨y,hy,rfl⟩:=hmem b hb
 rw [usedOf_eq h.mo.nd hx,usedOf_eq h.mo.nd hy] at e
 exact used_ne ok.srt x hx y hy e
theorem sorted_keys {l:List BufM} {ss:List Int} (hn:(l.map (·.blk)).Nodup) (hs:l.Pairwise fun x y=>x.used<y.used) (hp:ss.Perm (l.map (·.blk))):ss.mergeSort (leU (usedOf l))=l.map (·.blk):=by
 have h1:(ss.mergeSort (leU (usedOf l))).Perm (l.map (·.blk)):=(List.mergeSort_perm ss _).trans hp
 have htot: ∀a b:Int,(leU (usedOf l) a b||leU (usedOf l) b a)=true:=fun a b=>by simp [leU];omega
 have htr: ∀a b c:Int,leU (usedOf l) a b=true->leU (usedOf l) b c=true->leU (usedOf l) a c=true:=fun a b c h1 h2=>by simp [leU] at*;omega
 have h2:=List.pairwise_mergeSort htr htot ss
 have h3:(l.map (·.blk)).Pairwise fun a b=>leU (usedOf l) a b=true:=by
  rw [List.pairwise_map]
  refine hs.imp_of_mem fun {a b} ha hb hab=>?_
  simp only [leU]
  rw [usedOf_eq hn ha,usedOf_eq hn hb]
  exact decide_eq_true (by omega)
 refine h1.eq_of_pairwise (le:=fun a b=>leU (usedOf l) a b=true) (fun a b ha hb h4 h5=>?_) h2 h3
 have ha':=h1.mem_iff.1 ha
 obtain ⟨x,hx,rfl⟩:=List.mem_map.1 ha'
 obtain ⟨y,hy,rfl⟩:=List.mem_map.1 hb
 simp [leU] at h4 h5
 rw [usedOf_eq hn hx,usedOf_eq hn hy] at h4 h5
 exact used_ne hs x hx y hy (by omega)
theorem MapOf.get_none {m:List (Int×Value)} {l:List BufM} {bp:Int->Nat} (h:MapOf m l bp) {b:Int} (hf:(l.find? fun x=>x.blk==b)=none):mget b m=none:=mget_none (fun hm=>by
 have:=h.keys.mem_iff.1 hm
 obtain ⟨x,hx,e⟩:=List.mem_map.1 this
 have:=List.find?_eq_none.1 hf x hx
 simp [e] at this)
theorem find_mem {l:List BufM} {b:Int} {x:BufM} (hf:(l.find? fun x=>x.blk==b)=some x):x∈l/\x.blk=b:=⟨List.mem_of_find?_eq_some hf,by simpa using List.find?_some hf⟩
theorem MapOf.get_some {m:List (Int×Value)} {l:List BufM} {bp:Int->Nat} (h:MapOf m l bp) {b:Int} {x:BufM} (hf:(l.find? fun x=>x.blk==b)=some x):mget b m=some (.pointer (some ⟨bp b,0,none⟩)):=by
 obtain ⟨h1,rfl⟩:=find_mem hf;exact h.at_ x h1
theorem rmB_mem {l:List BufM} {b:Int} {x:BufM}:x∈rmB l b↔x∈l/\x.blk≠b:=by unfold rmB;simp
theorem rmB_sub (l:List BufM) (b:Int):(rmB l b).Sublist l:=List.filter_sublist
theorem rmB_keys {l:List BufM} (hn:(l.map (·.blk)).Nodup) (b:Int):(rmB l b).map (·.blk)=(l.map (·.blk)).erase b:=by
 rw [hn.erase_eq_filter,List.filter_map]
 unfold rmB
 congr 1
theorem MapOf.del {m:List (Int×Value)} {l:List BufM} {bp:Int->Nat} (h:MapOf m l bp) (hm:(m.map (·.1)).Nodup) (b:Int):MapOf (mdel b m) (rmB l b) bp:=
 ⟨by rw [keys_mdel,rmB_keys h.nd];exact h.keys.erase b,fun x hx=>by rw [mget_mdel hm,if_neg (rmB_mem.1 hx).2];exact h.at_ x (rmB_mem.1 hx).1,
  fun x hx y hy=>h.inj x (rmB_mem.1 hx).1 y (rmB_mem.1 hy).1,h.nd.sublist ((rmB_sub l b).map _),fun x hx=>h.rng x (rmB_mem.1 hx).1⟩
theorem MapOf.add {m:List (Int×Value)} {l:List BufM} {bp:Int->Nat} (h:MapOf m l bp) (x:BufM) (p:Nat) (hx:x.blk∉l.map (·.blk)) (hr:0<=x.blk/\x.blk<2048) (hp: ∀y∈l,bp y.blk≠p):
  MapOf (mset x.blk (.pointer (some ⟨p,0,none⟩)) m) (l++[x]) (fun k=>if k=x.blk then p else bp k):=by
 have hk:x.blk∉m.map (·.1):=fun e=>hx (h.keys.mem_iff.1 e)
 have hne: ∀y∈l,y.blk≠x.blk:=fun y hy e=>hx (e▸List.mem_map.2 ⟨y,hy,rfl⟩)
 refine ⟨?_,fun y hy=>?_,fun y hy z hz e=>?_,?_,fun y hy=>?_⟩
 ·rw [mset_new hk];simpa using h.keys.append_right [x.blk]
 ·rw [mget_mset]
  rcases List.mem_append.1 hy with hy|hy
  ·rw [if_neg (hne y hy)];simp only [if_neg (hne y hy)];exact h.at_ y hy
  ·simp at hy;subst hy;simp
 ·rcases List.mem_append.1 hy with hy1|hy1<;>rcases List.mem_append.1 hz with hz1|hz1
  ·simp only [if_neg (hne y hy1),if_neg (hne z hz1)] at e;exact h.inj y hy1 z hz1 e
  ·rw [List.mem_singleton] at hz1;rw [hz1] at e
   simp only [if_neg (hne y hy1),if_true] at e
   exact absurd e (hp y hy1)
  ·rw [List.mem_singleton] at hy1;rw [hy1] at e
   simp only [if_neg (hne z hz1),if_true] at e
   exact absurd e.symm (hp z hz1)
  ·rw [List.mem_singleton] at hy1 hz1;rw [hy1,hz1]
 ·rw [List.map_append,List.nodup_append]
  refine ⟨h.nd,by simp,fun a ha b hb e=>?_⟩
  simp at hb;subst hb;subst e;exact hx ha
 ·rcases List.mem_append.1 hy with hy|hy
  ·exact h.rng y hy
  ·simp at hy;subst hy;exact hr
theorem MapOf.again {m:List (Int×Value)} {l l':List BufM} {bp:Int->Nat} (h:MapOf m l bp) (hp:(l'.map (·.blk)).Perm (l.map (·.blk))):MapOf m l' bp:=by
 have hmem: ∀x∈l',∃y∈l,y.blk=x.blk:=fun x hx=>by
  obtain ⟨y,hy,e⟩:=List.mem_map.1 (hp.mem_iff.1 (List.mem_map.2 ⟨x,hx,rfl⟩));exact ⟨y,hy,e⟩
 refine ⟨h.keys.trans hp.symm,fun x hx=>?_,fun x hx y hy e=>?_,hp.nodup_iff.2 h.nd,fun x hx=>?_⟩
 ·obtain ⟨y,hy,e⟩:=hmem x hx;rw [←e];exact h.at_ y hy
 ·obtain ⟨x',hx',ex⟩:=hmem x hx
  obtain ⟨y',hy',ey⟩:=hmem y hy
  rw [←ex, ←ey] at e ⊢;exact h.inj x' hx' y' hy' e
 obtain ⟨y,hy,e⟩:=hmem x hx;rw [←e];exact h.rng y hy
end Go.Proofs.YtkaikaodhegmhaaGreat.E
namespace Go.Proofs.YtkaikaodhegmhaaGreat.E
open Go Go.Proofs Go.RowKit Go.Maps Go.Shelf Go.Sort
set_option linter.unusedVariables false
set_option linter.unusedSimpArgs false
theorem c_keys (r:Nat) (s:TH):TRet Tryz.prog 335 #[.map (some r)] s fun v s'=>∃B,v=.func (.func 343) #[] #[.pointer (some ⟨B,0,none⟩)]/\Ch [] s s'/\Blk s' B [.map (some r)] 208 0:=by
 refine F335_calls _  ?_
 unfold F335
 refine al_t 0 fun r1 s2 c a b d=>?_
 refine ret_t ?_
 exact ⟨r1,rfl,((Ch.refl [] s).ch b (by simp)),a⟩
theorem c_clook (c T d Td:Nat) (C:CacheM) (D:DiskM) (b:Int) (s:TH) (hT:10<=T) (hTd:10<=Td) (hTT:T+10<=Td∨Td+10<=T) (hc:Cache s c T d C) (hd:Disk s d Td D):TRet Tryz.prog 280 #[.pointer (some ⟨c,0,none⟩),.int .i64 b] s fun v s'=>v=.int .i64 (if D.has b then 0 else 1)/\Ch [] s s':=by
 obtain ⟨⟨r,m,bp,bh,hP⟩,ok⟩:=id hc
 have hcb:=hP.blk
 have hcm:=hP.map
 have hbu:=hP.bufs
 have hby:=hP.bufy
 refine F280_calls _ _  ?_
 unfold F280
 refine jn_u ?_
 refine sB_f (by rfl) (nz_i ?_)
 first|refine ld_t hcb rfl ?_
 refine dMap_i ?_
 iterate 8 intro _
 refine dBl_i (sB_f (by rfl) ?_)
 refine jn_u ?_
 refine sB_d (fun e=>?_) (fun e=>?_)
 ·iterate 10 intro _
  refine dBl_i (sB_t (by rfl) ?_)
  refine ret_t ?_
  exact ⟨ret_i (by first|rw [if_pos (by unfold DiskM.has;omega)]|rw [if_neg (by unfold DiskM.has;omega)]),(Ch.refl [] s)⟩
 refine nz_i ?_
 first|refine ld_t hcb rfl ?_
 refine dPtr_i ?_
 refine tcall (c_blocks _ _ _ _ hTd hd) ?_
 rintro _ g ⟨rfl,a⟩
 have h:=a.size
 refine dInt_i ?_
 iterate 10 intro _
 refine dBl_i ?_
 refine sB_d (fun f=>?_) (fun f=>?_)
 ·refine ret_t ?_
  exact ⟨ret_i (by first|rw [if_pos (by unfold DiskM.has;omega)]|rw [if_neg (by unfold DiskM.has;omega)]),((Ch.refl [] s).ch a (by simp))⟩
 refine ret_t ?_
 exact ⟨ret_i (by first|rw [if_pos (by unfold DiskM.has;omega)]|rw [if_neg (by unfold DiskM.has;omega)]),((Ch.refl [] s).ch a (by simp))⟩
theorem c_held (c T d:Nat) (C:CacheM) (τ:Nat) (s:TH) (hT:10<=T) (hc:Cache s c T d C):TRet Tryz.prog 327 #[.pointer (some ⟨c,0,none⟩)] s fun v s'=>∃a c',v=.slice a C.l.length c'/\Ch [] s s'/\Own s' a C.l.length c' 3 1 (ivs (C.l.map (·.blk))) τ:=by
 obtain ⟨⟨r,m,bp,bh,hP⟩,ok⟩:=id hc
 have hcb:=hP.blk
 have hcm:=hP.map
 have hbu:=hP.bufs
 have hby:=hP.bufy
 refine F327_calls _  ?_
 unfold F327
 refine al_t 0 fun r1 s2 q f e t=>?_
 refine ld_t f rfl (dPtr_i (sB_f (by rfl) (ld_t f rfl (dPtr_i (nz_i ?_)))))
 have g:=hcb.ch e (by simp)
 first|refine ld_t g rfl ?_
 refine dMap_i ?_
 refine tcall (c_keys r _) ?_
 rintro _ u ⟨B,rfl,b,B_7⟩
 have w:=b.size
 have hU:=(hP.usedAt ok).mv (((Ch.refl [] s).ch e (by simp)).ch b (by simp)) (tagn (by simp))
 have hml:m.length=C.l.length:=by have:=hP.mo.keys.length_eq;simpa using this
 have hmk: ∀k∈m.map (·.1),inI64 k:=fun k hk=>by
  obtain ⟨x,hx,rfl⟩:=List.mem_map.1 (hP.mo.keys.mem_iff.1 hk)
  have:=hP.mo.rng x hx
  unfold inI64;omega
 have hle:=hP.len
 have hbn:=hP.bnd
 have j:=hcm.ch e (by simp)
 have n:=j.ch b (by simp)
 have r1_10:=f.ch b (by simp)
 have i:=g.ch b (by simp)
 refine tcall (c_sfun τ (usedOf C.l) B_7 n (by omega) hmk r1_10 i rfl hU) ?_
 rintro _ y ⟨a2,c2,ss,rfl,hss,h,o⟩
 have p:=h.size
 refine dSl_i ?_
 refine ret_t ?_
 have ho:=o
 rw [sorted_keys hP.mo.nd ok.srt (hss.trans hP.mo.keys),hml] at ho
 rw [hml]
 exact ⟨a2,c2,rfl,((((Ch.refl [] s).ch e (by simp)).ch b (by simp)).ch h (by simp)),ho⟩
end Go.Proofs.YtkaikaodhegmhaaGreat.E
namespace Go.Proofs.YtkaikaodhegmhaaGreat.E
open Go Go.Proofs Go.RowKit Go.Maps Go.Shelf Go.Sort
set_option linter.unusedVariables false
set_option linter.unusedSimpArgs false
theorem freeB_some {l:List BufM} {k:Nat} {x:BufM} (h:l[k]? =some x) (hp:x.pins=0) (ha: ∀j y,j<k->l[j]? =some y->y.pins≠0):freeB l=some x:=by
 unfold freeB
 induction l generalizing k with
 |nil=>simp at h
 |cons y l ih=>
  cases k with
  |zero=>simp at h;subst h;simp [hp]
  |succ k=>
   rw [List.find?_cons]
   have:=ha 0 y (by omega) (by simp)
   rw [show (y.pins==0)=false by simpa using this]
   exact ih (by simpa using h) (fun j z hj hz=>ha (j+1) z (by omega) (by simpa using hz))
theorem freeB_none {l:List BufM} (ha: ∀j y,j<l.length->l[j]? =some y->y.pins≠0):freeB l=none:=by
 unfold freeB
 rw [List.find?_eq_none]
 intro x hx
 obtain ⟨j,hj,e⟩:=List.getElem_of_mem hx
 have:=ha j x hj (by rw [List.getElem?_eq_getElem hj,e])
 simpa using this
theorem freeB_mem {l:List BufM} {x:BufM} (h:freeB l=some x):x∈l/\x.pins=0:=⟨List.mem_of_find?_eq_some h,by simpa using List.find?_some h⟩
theorem Disk.nb {s:TH} {d T:Nat} {D:DiskM} (h:Disk s d T D):1<=D.blocks.length/\D.blocks.length<=2048:=by obtain ⟨_,_,_,_,_,_,_,_,h⟩:=h;exact h.nb
theorem find_nmem {l:List BufM} {b:Int} (h:(l.find? fun x=>x.blk==b)=none):b∉l.map (·.blk):=fun e=>by
 obtain ⟨x,hx,e⟩:=List.mem_map.1 e
 have:=List.find?_eq_none.1 h x hx
 simp [e] at this
theorem rmB_len {l:List BufM} (hn:(l.map (·.blk)).Nodup) {x:BufM} (hx:x∈l):(rmB l x.blk).length+1=l.length:=by
 have h1:x.blk∈l.map (·.blk):=List.mem_map.2 ⟨x,hx,rfl⟩
 have h2:=congrArg List.length (rmB_keys hn x.blk)
 rw [List.length_map,List.length_erase_of_mem h1,List.length_map] at h2
 have:=List.length_pos_of_mem hx
 omega
theorem Bufs.sub {s:TH} {τ:Nat} {l l':List BufM} {bp:Int->Nat} {bh:Int->Hd} (h:Bufs s τ l bp bh) (hs:l'.Sublist l):Bufs s τ l' bp bh:=⟨fun x hx=>h.at_ x (hs.subset hx)⟩
theorem BufY.sub {s:TH} {τ:Nat} {l l':List BufM} {bh:Int->Hd} (h:BufY s τ l bh) (hs:l'.Sublist l):BufY s τ l' bh:=⟨fun x hx=>h.at_ x (hs.subset hx)⟩
theorem addB {s:TH} {c T d r p:Nat} {C:CacheM} {m1:List (Int×Value)} {l1:List BufM} {bp:Int->Nat} {bh:Int->Hd} {xa:Option Addr} {xc:Nat} {b:Int} {l:List UInt8} (_:10<=T)
  (hblk:Blk s c [.pointer (some ⟨d,0,none⟩),.int .i64 C.bound,.map (some r),.int .i64 C.clock,.int .i64 C.hits,.int .i64 C.misses] 210 T) (hmap:MapK (Value.int .i64) s r (mset b (.pointer (some ⟨p,0,none⟩)) m1) (T+1))
  (hb:Bufs s (T+2) l1 bp bh) (hy:BufY s (T+3) l1 bh) (mo:MapOf m1 l1 bp) (hbn:b∉l1.map (·.blk)) (hrng:0<=b/\b<2048) (hp:Blk s p (bufv (xa,xc) 0 0) 267 (T+2)) (hpn: ∀y∈l1,bp y.blk≠p)
  (hx:ByAt s (T+3) (xa,xc) l) (bnd:1<=C.bound/\C.bound<=64) (len:(l1.length:Int)+1<=C.bound):
  CacheP s c T d { C with l:=l1++[⟨b,l,0,0⟩] } r (mset b (.pointer (some ⟨p,0,none⟩)) m1) (fun k=>if k=b then p else bp k) (fun k=>if k=b then (xa,xc) else bh k):=by
 have hne: ∀y∈l1,y.blk≠b:=fun y hy e=>hbn (e▸List.mem_map.2 ⟨y,hy,rfl⟩)
 refine ⟨hblk,hmap,⟨fun y hy'=>?_⟩,⟨fun y hy'=>?_⟩,mo.add ⟨b,l,0,0⟩ p hbn hrng hpn,bnd,by simpa using len⟩
 ·rcases List.mem_append.1 hy' with h|h
  ·simp only [if_neg (hne y h)];exact hb.at_ y h
  ·rw [List.mem_singleton] at h;subst h;simpa using hp
 ·rcases List.mem_append.1 hy' with h|h
  ·simp only [if_neg (hne y h)];exact hy.at_ y h
  ·rw [List.mem_singleton] at h;subst h;simpa using hx
theorem c_victim (c T d:Nat) (C:CacheM) (s:TH) (hT:10<=T) (hc:Cache s c T d C):TRet Tryz.prog 314 #[.pointer (some ⟨c,0,none⟩)] s fun v s'=>∃n b,v=.tuple #[.int .i64 n,.bool b]/\Ch [] s s'/\((b=true/\∃x,freeB C.l=some x/\n=x.blk)∨(b=false/\freeB C.l=none)):=by
 obtain ⟨⟨r,m,bp,bh,hP⟩,ok⟩:=id hc
 have hcb:=hP.blk
 have hcm:=hP.map
 have hbu:=hP.bufs
 have hby:=hP.bufy
 refine F314_calls _  ?_
 unfold F314
 refine tcall (c_held c T d C 0 _ hT hc) ?_
 rintro _ s2 ⟨a2,c2,rfl,g,D⟩
 have F:=g.size
 refine dSl_i ?_
 refine ⟨fun vs H'=>∃s':TH,s'.h=H'/\∃i,vs=[.int .i64 i]/\ChL [] [] s2 s'/\(∃k:Nat,i=k/\k<=C.l.length/\∀j y,j<k->C.l[j]? =some y->y.pins≠0),fun vs H'=>match vs with|[.int .i64 i]=>((C.l.length:Int) - i).toNat|_=>0,⟨s2,rfl,_,rfl,ChL.refl _ _ _,?_⟩,?_⟩
 ·exact ⟨0,rfl,by omega,fun j x h=>by omega⟩
 intro i
 iterate 18 intro _
 intro G hI
 obtain ⟨E,rfl,i_,hvs,f,k,rfl,hk,hall⟩:=hI
 cases hvs
 have H:=f.size
 refine sB_d (fun w=>?_) (fun w=>?_)
 ·have u:=D.mv f (tagL (by simp<;>omega) (by simp))
  have hk2:k<C.l.length:=by omega
  obtain ⟨x,hx⟩: ∃x,C.l[k]? =some x:=⟨C.l[k],by simp [hk2]⟩
  have hxm:=List.mem_of_getElem? hx
  obtain ⟨a,rfl⟩:=u.ne_none (by omega)
  have hlen:=hP.len
  have hbnd:=hP.bnd
  refine nz_i (ask_t (by omega) ?_)
  refine ld_sl u.sl (by rw [Int.toNat_natCast,Nat.mul_one];show (ivs _)[k]? =some (.int .i64 x.blk);simp [ivs,hx]) ?_
  refine dInt_i (nz_i ?_)
  have z:=hcb.ch g (by simp)
  have A:=z.chl f (by simp<;>omega) (by simp<;>omega)
  first|refine ld_t A rfl ?_
  refine dMap_i ?_
  have B:=hcm.ch g (by simp)
  have p:=B.chl f (by simp<;>omega) (by simp<;>omega)
  refine look_s keyI u208 z263 p x.blk (hP.mo.at_ x hxm) ?_
  refine dPtr_i (nz_i ?_)
  have q:=hbu.mv g (tagn (by simp))
  have t:=q.mv f (tagL (by simp<;>omega) (by simp))
  refine ld_t (t.at_ x hxm) rfl ?_
  refine dInt_i ?_
  refine sB_eq (fun o=>?_) (fun o=>?_)
  ·refine ret_t ?_
   exact ⟨_,_,rfl,(((Ch.refl [] s).ch g (by simp)).chl f (by simp) (by simp<;>omega)),.inl ⟨rfl,x,freeB_some hx o hall,rfl⟩⟩
  refine wr_t (by omega) ?_
  refine ⟨⟨E,rfl,_,rfl,((ChL.refl [] [] s2).chl f (by simp) (by simp<;>omega)),?_⟩,?_⟩
  ·refine ⟨k+1,by omega,by omega,fun j y hj hy=>?_⟩
   by_cases e:j=k
   ·subst e;rw [hx] at hy;cases hy;exact o
   exact hall j y (by omega) hy
  simp only [];omega
 refine ret_t ?_
 exact ⟨_,_,rfl,(((Ch.refl [] s).ch g (by simp)).chl f (by simp) (by simp<;>omega)),.inr ⟨rfl,freeB_none fun j y hj hy=>hall j y (by omega) hy⟩⟩
theorem c_load (c T d Td:Nat) (C:CacheM) (D:DiskM) (b:Int) {l:List UInt8} (s:TH) (hT:10<=T) (hTd:10<=Td) (hTT:T+10<=Td∨Td+10<=T) (hc:Cache s c T d C) (hd:Disk s d Td D) (hb:D.has b) (hl:D.blocks[b.toNat]? =some l) (hf:D.fails b<=0) (hnf:C.find b=none):TRet Tryz.prog 281 #[.pointer (some ⟨c,0,none⟩),.int .i64 b] s fun v s'=>∃q e,v=.tuple #[.pointer q,.int .i64 e]/\Ch [T,T+1,T+2,T+3] s s'/\((e=60/\C.room=none/\q=none/\Cache s' c T d C)∨(e=0/\∃l' r' m' bp' bh',C.room=some l'/\q=some ⟨bp' b,0,none⟩/\CacheP s' c T d { C with l:=l'++[⟨b,l,0,0⟩] } r' m' bp' bh')):=by
 obtain ⟨⟨r,m,bp,bh,hP⟩,ok⟩:=id hc
 have hcb:=hP.blk
 have hcm:=hP.map
 have hbu:=hP.bufs
 have hby:=hP.bufy
 refine F281_calls _ _  ?_
 unfold F281
 refine nz_i ?_
 first|refine ld_t hcb rfl ?_
 refine dMap_i (nz_i ?_)
 first|refine ld_t hcb rfl ?_
 refine dInt_i ?_
 refine mlen_t u208 hcm ?_
 have hml:m.length=C.l.length:=by have:=hP.mo.keys.length_eq;simpa using this
 refine dInt_i ?_
 refine ⟨?_,?_⟩
 ·first|refine ld_t hcb rfl ?_
  refine dInt_i ?_
  rfl
 refine tcall (c_victim c T d C _ hT hc) ?_
 rintro _ aJ ⟨vn,vb,rfl,a,hvic⟩
 have aK:=a.size
 refine dT2 (dInt_i (dBl_i ?_))
 refine jn_u ?_
 refine sB_d (fun ao=>?_) (fun ao=>?_)
 ·intro _ _ _ _
  refine dBl_i ?_
  refine sB_n (fun w=>?_) (fun w=>?_)
  ·refine ret_t ?_
   have ay:=hc.mv a (rngn (by simp<;>omega))
   refine ⟨_,_,rfl,((Ch.refl [T,T+1,T+2,T+3] s).ch a (by simp)),.inl ⟨rfl,?_,rfl,ay⟩⟩
   rcases hvic with ⟨h1,_⟩|⟨_,h1⟩
   ·rw [w] at h1;cases h1
   unfold CacheM.room;rw [if_neg (by omega),h1];rfl
  rcases hvic with ⟨hv1,x,hx,rfl⟩|⟨hv1,_⟩
  rotate_left
  ·rw [hv1] at w;cases w
  refine nz_i ?_
  have M:=hcb.ch a (by simp)
  first|refine ld_t M rfl ?_
  refine dPtr_i ?_
  have D_5:=hd.mv a (rngn (by simp<;>omega))
  refine tcall (c_dread d Td (T+3) D b _ hTd D_5 hb hl hf) ?_
  rintro _ az ⟨xa,xc,rfl,u,aA⟩
  have aL:=u.size
  refine dT2 (dSl_i (dInt_i (sB_f (by rfl) ?_)))
  refine jn_u ?_
  refine sB_d (fun ap=>?_) (fun ap=>by exfalso;omega)
  refine nz_i ?_
  have A:=M.ch u (by simp)
  first|refine ld_t A rfl ?_
  refine dMap_i ?_
  have R:=hcm.ch a (by simp)
  have i:=R.ch u (by simp)
  refine del_t keyI u208 i x.blk fun aM S n hsz=>?_
  have aD:=n.size
  intro _ _ _ _ _ _
  refine nz_i ?_
  have B:=A.on n (by intro he;have h1:=A.tag;have h2:=i.tag;rw [he] at h1;rw [h1] at h2;revert h2;simp<;>omega)
  first|refine ld_t B rfl ?_
  refine dMap_i ?_
  refine al_t (T+2) fun z aB aq N o aE=>?_
  have f:=S.ch o (by simp)
  refine upd_t keyI u208 f b (.pointer (some ⟨z,0,none⟩)) fun aC E j hsz2=>?_
  have aF:=j.size
  refine nz_i ?_
  have F:=B.ch o (by simp)
  have G:=F.on j (by intro he;have h1:=F.tag;have h2:=f.tag;rw [he] at h1;rw [h1] at h2;revert h2;simp<;>omega)
  first|refine ld_t G rfl ?_
  refine dMap_i ?_
  refine look_s keyI u208 z263 E b (by rw [mget_mset,if_pos rfl]) ?_
  refine dPtr_i ?_
  refine ret_t ?_
  have U:=hbu.mv a (tagn (by simp))
  have V:=U.mv u (tagn (by simp))
  have W:=V.mv n (onn (by rw [i.tag];omega))
  have X:=W.mv o (tagn (by simp))
  have Y:=X.mv j (onn (by rw [f.tag];omega))
  have Z:=hby.mv a (tagn (by simp))
  have aa:=Z.mv u (tagn (by simp))
  have ab:=aa.mv n (onn (by rw [i.tag];omega))
  have ac:=ab.mv o (tagn (by simp))
  have ad:=ac.mv j (onn (by rw [f.tag];omega))
  have r48_35:=N.on j (by intro he;have h1:=N.tag;have h2:=f.tag;rw [he] at h1;rw [h1] at h2;revert h2;simp<;>omega)
  have ar:=aA.mv n (onn (by rw [i.tag];omega))
  have au:=ar.mv o (tagn (by simp))
  have O:=au.mv j (onn (by rw [f.tag];omega))
  have hbd:0<=b/\b<2048:=by have h1:=hb;unfold DiskM.has at h1;have h2:=hd.nb;omega
  have hnb:=find_nmem hnf
  have hnew: ∀y∈rmB C.l x.blk,bp y.blk≠z:=fun y hy=>by have:=(hbu.at_ y (rmB_mem.1 hy).1).lt;omega
  have hxm:=freeB_mem hx
  have hlen:=rmB_len hP.mo.nd hxm.1
  have hle:=hP.len
  refine ⟨_,_,rfl,((((((Ch.refl [T,T+1,T+2,T+3] s).ch a (by simp)).ch u (by simp)).on_tag n i.tag (by simp)).ch o (by simp)).on_tag j f.tag (by simp)),.inr ⟨rfl,_,_,_,_,_,?_,?_,addB hT G E (Y.sub (rmB_sub _ _)) (ad.sub (rmB_sub _ _)) (hP.mo.del hP.map.nd x.blk) (fun h=>hnb (((rmB_sub _ _).map _).subset h)) hbd r48_35 hnew ⟨O.sl,by have:=O.1;rw [bvs_len] at this;omega⟩ hP.bnd (by omega)⟩⟩
  ·unfold CacheM.room;rw [if_neg (by omega),hx];rfl
  simp
 intro _ _ _ _
 refine dBl_i (sB_f (by rfl) (nz_i ?_))
 have H:=hcb.ch a (by simp)
 first|refine ld_t H rfl ?_
 refine dPtr_i ?_
 have D_40:=hd.mv a (rngn (by simp<;>omega))
 refine tcall (c_dread d Td (T+3) D b _ hTd D_40 hb hl hf) ?_
 rintro _ az ⟨xa,xc,rfl,p,av⟩
 have aG:=p.size
 refine dT2 (dSl_i (dInt_i (sB_f (by rfl) ?_)))
 refine jn_u ?_
 refine sB_d (fun aw=>by exfalso;omega) (fun aw=>?_)
 intro _ _ _ _ _ _
 refine nz_i ?_
 have I:=H.ch p (by simp)
 first|refine ld_t I rfl ?_
 refine dMap_i ?_
 refine al_t (T+2) fun z aB aq P t aH=>?_
 have ae:=hcm.ch a (by simp)
 have af:=ae.ch p (by simp)
 have g:=af.ch t (by simp)
 refine upd_t keyI u208 g b (.pointer (some ⟨z,0,none⟩)) fun aC J k hsz2=>?_
 have aI:=k.size
 refine nz_i ?_
 have K:=I.ch t (by simp)
 have L:=K.on k (by intro he;have h1:=K.tag;have h2:=g.tag;rw [he] at h1;rw [h1] at h2;revert h2;simp<;>omega)
 first|refine ld_t L rfl ?_
 refine dMap_i ?_
 refine look_s keyI u208 z263 J b (by rw [mget_mset,if_pos rfl]) ?_
 refine dPtr_i ?_
 refine ret_t ?_
 have ag:=hbu.mv a (tagn (by simp))
 have ah:=ag.mv p (tagn (by simp))
 have ai:=ah.mv t (tagn (by simp))
 have aj:=ai.mv k (onn (by rw [g.tag];omega))
 have ak:=hby.mv a (tagn (by simp))
 have al:=ak.mv p (tagn (by simp))
 have am:=al.mv t (tagn (by simp))
 have an:=am.mv k (onn (by rw [g.tag];omega))
 have r48_64:=P.on k (by intro he;have h1:=P.tag;have h2:=g.tag;rw [he] at h1;rw [h1] at h2;revert h2;simp<;>omega)
 have ax:=av.mv t (tagn (by simp))
 have Q:=ax.mv k (onn (by rw [g.tag];omega))
 have hbd:0<=b/\b<2048:=by have h1:=hb;unfold DiskM.has at h1;have h2:=hd.nb;omega
 have hnb:=find_nmem hnf
 have hnew: ∀y∈C.l,bp y.blk≠z:=fun y hy=>by have:=(hbu.at_ y hy).lt;omega
 refine ⟨_,_,rfl,(((((Ch.refl [T,T+1,T+2,T+3] s).ch a (by simp)).ch p (by simp)).ch t (by simp)).on_tag k g.tag (by simp)),.inr ⟨rfl,_,_,_,_,_,?_,?_,addB hT L J aj an hP.mo hnb hbd r48_64 hnew ⟨Q.sl,by have:=Q.1;rw [bvs_len] at this;omega⟩ hP.bnd (by omega)⟩⟩
 ·unfold CacheM.room;rw [if_pos (by omega)]
 simp
end Go.Proofs.YtkaikaodhegmhaaGreat.E
namespace Go.Proofs.YtkaikaodhegmhaaGreat.E
open Go Go.Proofs Go.RowKit Go.Maps Go.Shelf Go.Sort
set_option linter.unusedVariables false
set_option linter.unusedSimpArgs false
theorem get_hit {C:CacheM} {bs:List (List UInt8)} {b:Int} {x:BufM} (h:C.find b=some x):C.get bs b=({ C with l:=rmB C.l b++[{ x with used:=C.clock+1 }],clock:=C.clock+1,hits:=C.hits+1 },0):=by unfold CacheM.get;rw [h]
theorem get_full {C:CacheM} {bs:List (List UInt8)} {b:Int} (h:C.find b=none) (hr:C.room=none):C.get bs b=({ C with misses:=C.misses+1 },60):=by unfold CacheM.get;rw [h];simp only;rw [hr]
theorem get_load {C:CacheM} {bs:List (List UInt8)} {b:Int} {l:List BufM} {y:List UInt8} (h:C.find b=none) (hr:C.room=some l) (hy:bs[b.toNat]? =some y):C.get bs b=({ C with l:=l++[⟨b,y,0,C.clock+1⟩],clock:=C.clock+1,misses:=C.misses+1 },0):=by unfold CacheM.get;rw [h];simp only;rw [hr,hy];rfl
theorem room_mem {C:CacheM} {l:List BufM} (h:C.room=some l):l.Sublist C.l:=by
 unfold CacheM.room at h
 split at h
 ·cases h;exact List.Sublist.refl _
 cases hf:freeB C.l with
 |none=>rw [hf] at h;cases h
 |some v=>rw [hf] at h;cases h;exact rmB_sub _ _
theorem COk.push {C C':CacheM} (ok:COk C) {l1:List BufM} (hs:l1.Sublist C.l) {x:BufM} (hx:x.used=C.clock+1) (hl:C'.l=l1++[x]) (hk:C'.clock=C.clock+1) (hb:C.clock+1<=9223372036854775807) (hc:0<=C'.hits/\C'.hits<=9223372036854775807/\0<=C'.misses/\C'.misses<=9223372036854775807) (hp:0<=x.pins/\x.pins<=100):COk C':=by
 have h0:=ok.clk
 refine ⟨?_,fun y hy=>?_,by omega,hc,fun y hy=>?_⟩
 ·rw [hl,List.pairwise_append]
  refine ⟨ok.srt.sublist hs,List.pairwise_singleton _ _,fun a ha z hz=>?_⟩
  rw [List.mem_singleton] at hz;subst hz
  have:=ok.rng a (hs.subset ha);omega
 ·rw [hl,List.mem_append] at hy
  rcases hy with hy|hy
  ·have:=ok.rng y (hs.subset hy);omega
  rw [List.mem_singleton] at hy;subst hy;omega
 rw [hl,List.mem_append] at hy
 rcases hy with hy|hy
 ·exact ok.pin y (hs.subset hy)
 rw [List.mem_singleton] at hy;subst hy;exact hp
theorem Bufs.one {s2 s3:TH} {τ:Nat} {l l':List BufM} {bp:Int->Nat} {bh bh':Int->Hd} {b pins used:Int} (h:Bufs s2 τ l bp bh) (hon:On (bp b) s2 s3) (hb:Blk s3 (bp b) (bufv (bh' b) pins used) 267 τ)
  (hl: ∀y∈l',(y∈l/\bp y.blk≠bp b/\bh' y.blk=bh y.blk)∨(y.blk=b/\y.pins=pins/\y.used=used)):Bufs s3 τ l' bp bh':=
 ⟨fun y hy=>by
  rcases hl y hy with ⟨h1,h2,h3⟩|⟨h1,h2,h3⟩
  ·rw [h3];exact (h.at_ y h1).on hon h2
  ·rw [h1,h2,h3];exact hb⟩
theorem MapOf.pne {m:List (Int×Value)} {l:List BufM} {bp:Int->Nat} (h:MapOf m l bp) {x y:BufM} (hx:x∈l) (hy:y∈l) (hn:y.blk≠x.blk):bp y.blk≠bp x.blk:=fun e=>hn (h.inj y hy x hx e)
theorem touch_keys {l:List BufM} (hn:(l.map (·.blk)).Nodup) {x:BufM} (hx:x∈l) (u:Int):((rmB l x.blk++[{ x with used:=u }]:List BufM).map (·.blk)).Perm (l.map (·.blk)):=by
 rw [List.map_append,rmB_keys hn]
 have h:(l.map (·.blk)).Perm (x.blk::(l.map (·.blk)).erase x.blk):=List.perm_cons_erase (List.mem_map.2 ⟨x,hx,rfl⟩)
 exact (List.perm_append_comm).trans h.symm
theorem rmB_add {l:List BufM} {x:BufM} (h:x.blk∉l.map (·.blk)):rmB (l++[x]) x.blk=l:=by
 unfold rmB
 rw [List.filter_append]
 simp only [List.filter_cons,beq_self_eq_true,Bool.not_true,Bool.false_eq_true,if_false,List.filter_nil,List.append_nil]
 rw [List.filter_eq_self]
 intro y hy
 have:y.blk≠x.blk:=fun e=>h (e▸List.mem_map.2 ⟨y,hy,rfl⟩)
 simpa using this
theorem touchP {s2 s3:TH} {c T d r:Nat} {C1 C2:CacheM} {m:List (Int×Value)} {bp:Int->Nat} {bh:Int->Hd} {x:BufM} {u:Int} (hblk:Blk s3 c [.pointer (some ⟨d,0,none⟩),.int .i64 C2.bound,.map (some r),.int .i64 C2.clock,.int .i64 C2.hits,.int .i64 C2.misses] 210 T)
  (hmap:MapK (Value.int .i64) s3 r m (T+1)) (hbu:Bufs s2 (T+2) C1.l bp bh) (hy:BufY s3 (T+3) C1.l bh) (mo:MapOf m C1.l bp) (hx:x∈C1.l) (hon:On (bp x.blk) s2 s3) (hb:Blk s3 (bp x.blk) (bufv (bh x.blk) x.pins u) 267 (T+2))
  (hl:C2.l=rmB C1.l x.blk++[{ x with used:=u }]) (bnd:1<=C2.bound/\C2.bound<=64) (len:(C1.l.length:Int)<=C2.bound):CacheP s3 c T d C2 r m bp bh:=by
 have hp:=touch_keys mo.nd hx u
 refine ⟨hblk,hmap,hbu.one hon hb fun y hy'=>?_,⟨fun y hy'=>?_⟩,by rw [hl];exact mo.again hp,bnd,by rw [hl];have:=hp.length_eq;simp only [List.length_map] at this;omega⟩
 ·rw [hl,List.mem_append] at hy'
  rcases hy' with h|h
  ·exact .inl ⟨(rmB_mem.1 h).1,mo.pne hx (rmB_mem.1 h).1 (rmB_mem.1 h).2,rfl⟩
  ·rw [List.mem_singleton] at h;subst h;exact .inr ⟨rfl,rfl,rfl⟩
 ·rw [hl,List.mem_append] at hy'
  rcases hy' with h|h
  ·exact hy.at_ y (rmB_mem.1 h).1
  ·rw [List.mem_singleton] at h;subst h;exact hy.at_ x hx
theorem c_get (c T d Td:Nat) (C:CacheM) (D:DiskM) (b:Int) (s:TH) (hT:10<=T) (hTd:10<=Td) (hTT:T+10<=Td∨Td+10<=T) (hc:Cache s c T d C) (hd:Disk s d Td D) (hl:D.has b->∃l,D.blocks[b.toNat]? =some l) (hf:D.fails b<=0) (hk:C.clock<9223372036854775807/\C.hits<9223372036854775807/\C.misses<9223372036854775807):TRet Tryz.prog 208 #[.pointer (some ⟨c,0,none⟩),.int .i64 b] s fun v s'=>∃q e,v=.tuple #[.pointer q,.int .i64 e]/\Ch [T,T+1,T+2,T+3] s s'/\((¬D.has b/\e=1/\Cache s' c T d C)∨(D.has b/\e=(C.get D.blocks b).2/\Cache s' c T d (C.get D.blocks b).1/\(e=0->∃r m bp bh,∃x:BufM,CacheP s' c T d (C.get D.blocks b).1 r m bp bh/\q=some ⟨bp b,0,none⟩/\x∈(C.get D.blocks b).1.l/\x.blk=b))):=by
 obtain ⟨⟨r,m,bp,bh,hP⟩,ok⟩:=id hc
 have hcb:=hP.blk
 have hcm:=hP.map
 have hbu:=hP.bufs
 have hby:=hP.bufy
 refine F208_calls _ _  ?_
 unfold F208
 refine tcall (c_clook c T d Td C D b _ hT hTd hTT hc hd) ?_
 rintro _ s2 ⟨rfl,f⟩
 have ap:=f.size
 refine dInt_i ?_
 refine sB_ne (fun n=>?_) (fun n=>?_)
 ·refine ret_t ?_
  have ae:=hc.mv f (rngn (by simp<;>omega))
  have hn: ¬D.has b:=fun h=>n (if_pos h)
  exact ⟨_,_,rfl,((Ch.refl [T,T+1,T+2,T+3] s).ch f (by simp)),.inl ⟨hn,if_neg hn,ae⟩⟩
 have hh:D.has b:=by
  by_cases h:D.has b
  ·exact h
  rw [if_neg h] at n;cases n
 refine nz_i ?_
 have a:=hcb.ch f (by simp)
 first|refine ld_t a rfl ?_
 refine dMap_i ?_
 rcases hfd:C.find b with _|x
 ·have y:=hcm.ch f (by simp)
  refine look_okn keyI u208 z263 y b (hP.mo.get_none hfd) ?_
  refine dT2 (dPtr_i (dBl_i ?_))
  refine jn_u ?_
  refine sB_f (by rfl) (nz_i ?_)
  first|refine ld_t a rfl ?_
  refine dInt_i ?_
  refine wr_t (by have:=ok.cnt;have:=ok.clk;omega) ?_
  refine nz_i ?_
  refine st_t a rfl (by simp) fun af ag k aq=>?_
  obtain ⟨l0,hl0⟩:=hl hh
  have ab:=y.on k (by intro he;have h1:=y.tag;have h2:=a.tag;rw [he] at h1;rw [h1] at h2;revert h2;simp<;>omega)
  have K:=hbu.mv f (tagn (by simp))
  have L:=K.mv k (onn (by rw [a.tag];omega))
  have M:=hby.mv f (tagn (by simp))
  have N:=M.mv k (onn (by rw [a.tag];omega))
  have hC1:Cache af c T d { C with misses:=C.misses+1 }:=⟨⟨r,m,bp,bh,⟨ag,ab,L,N,hP.mo,hP.bnd,hP.len⟩⟩,⟨ok.srt,ok.rng,ok.clk,⟨ok.cnt.1,ok.cnt.2.1,by have:=ok.cnt;simp only;omega,by simp only;omega⟩,ok.pin⟩⟩
  have D_14:=hd.mv f (rngn (by simp<;>omega))
  have D_15:=D_14.mv k (rngO (by rw [a.tag];omega))
  refine tcall (c_load c T d Td _ D b _ hT hTd hTT hC1 D_15 hh hl0 hf hfd) ?_
  rintro _ ah ⟨q,e,rfl,z,hres⟩
  have aj:=z.size
  refine dT2 (dPtr_i (dInt_i ?_))
  refine sB_ne (fun o=>?_) (fun o=>?_)
  ·refine ret_t ?_
   rcases hres with ⟨rfl,hr,rfl,hC2⟩|⟨h1,_⟩
   ·rw [get_full hfd hr];exact ⟨_,_,rfl,((((Ch.refl [T,T+1,T+2,T+3] s).ch f (by simp)).on_tag k a.tag (by simp)).ch z (by simp)),.inr ⟨hh,rfl,hC2,fun h=>by cases h⟩⟩
   exact absurd h1 o
  iterate 29 intro _
  refine dPtr_i ?_
  rcases hres with ⟨h1,_⟩|⟨_,l2,r2,m2,bp2,bh2,hr,rfl,hP2⟩
  ·rw [h1] at o;cases o
  have hcb2:Blk ah c [.pointer (some ⟨d,0,none⟩),.int .i64 C.bound,.map (some r2),.int .i64 C.clock,.int .i64 C.hits,.int .i64 (C.misses+1)] 210 T:=hP2.blk
  have hcm2:=hP2.map
  have hbu2:=hP2.bufs
  have hby2:=hP2.bufy
  have hxm:(⟨b,l0,0,0⟩:BufM)∈l2++[⟨b,l0,0,0⟩]:=by simp
  refine nz_i ?_
  first|refine ld_t hcb2 rfl ?_
  refine dInt_i ?_
  refine wr_t (by have:=ok.cnt;have:=ok.clk;omega) ?_
  refine nz_i ?_
  refine st_t hcb2 rfl (by simp) fun ai A p ak=>?_
  refine nz_i ?_
  first|refine ld_t A rfl ?_
  refine dInt_i ?_
  have E:=hbu2.mv p (onn (by rw [hcb2.tag];omega))
  have hxb:=(E).at_ _ hxm
  have hbu3:=E
  refine nz_i ?_
  refine st_t hxb rfl (by simp [bufv]) fun J ac i al=>?_
  refine ret_t ?_
  have O:=A.on i (by intro he;have h1:=A.tag;have h2:=hxb.tag;rw [he] at h1;rw [h1] at h2;revert h2;simp<;>omega)
  have F:=hcm2.on p (by intro he;have h1:=hcm2.tag;have h2:=hcb2.tag;rw [he] at h1;rw [h1] at h2;revert h2;simp<;>omega)
  have P:=F.on i (by intro he;have h1:=F.tag;have h2:=hxb.tag;rw [he] at h1;rw [h1] at h2;revert h2;simp<;>omega)
  have Q:=hby2.mv p (onn (by rw [hcb2.tag];omega))
  have R:=Q.mv i (onn (by rw [hxb.tag];omega))
  have hnb:b∉l2.map (·.blk):=fun h=>find_nmem hfd (((room_mem hr).map _).subset h)
  rw [get_load hfd hr hl0]
  have hPP:CacheP J c T d { C with l:=l2++[⟨b,l0,0,C.clock+1⟩],clock:=C.clock+1,misses:=C.misses+1 } r2 m2 bp2 bh2:=touchP (C1:={ C with misses:=C.misses+1,l:=l2++[⟨b,l0,0,0⟩] }) O P hbu3 R hP2.mo hxm i ac (by rw [rmB_add (l:=l2) (x:=⟨b,l0,0,0⟩) hnb]) hP.bnd hP2.len
  exact ⟨_,_,rfl,((((((Ch.refl [T,T+1,T+2,T+3] s).ch f (by simp)).on_tag k a.tag (by simp)).ch z (by simp)).on_tag p hcb2.tag (by simp)).on_tag i hxb.tag (by simp)),.inr ⟨hh,rfl,⟨⟨_,_,_,_,hPP⟩,ok.push (room_mem hr) rfl rfl rfl (by omega) (by have:=ok.cnt;simp only;omega) (by simp)⟩,fun _=>⟨_,_,_,_,_,hPP,rfl,List.mem_append_right _ (List.mem_singleton.2 rfl),rfl⟩⟩⟩
 have t:=hcm.ch f (by simp)
 refine look_oks keyI u208 z263 t b (hP.mo.get_some hfd) ?_
 refine dT2 (dPtr_i (dBl_i ?_))
 refine jn_u ?_
 refine sB_t (by rfl) (nz_i ?_)
 first|refine ld_t a rfl ?_
 refine dInt_i ?_
 refine wr_t (by have:=ok.cnt;have:=ok.clk;omega) ?_
 refine nz_i ?_
 refine st_t a rfl (by simp) fun ar g u am=>?_
 iterate 29 intro _
 refine dPtr_i (nz_i ?_)
 first|refine ld_t g rfl ?_
 refine dInt_i ?_
 refine wr_t (by have:=ok.cnt;have:=ok.clk;omega) ?_
 refine nz_i ?_
 refine st_t g rfl (by simp) fun ai B w an=>?_
 have S:=hbu.mv f (tagn (by simp))
 have U:=S.mv u (onn (by rw [a.tag];omega))
 have G:=U.mv w (onn (by rw [g.tag];omega))
 obtain ⟨hxm,rfl⟩:=find_mem hfd
 have hxb:=(G).at_ x hxm
 have hbu2:=G
 refine nz_i ?_
 first|refine ld_t B rfl ?_
 refine dInt_i (nz_i ?_)
 refine st_t hxb rfl (by simp [bufv]) fun J ad j ao=>?_
 refine ret_t ?_
 have V:=B.on j (by intro he;have h1:=B.tag;have h2:=hxb.tag;rw [he] at h1;rw [h1] at h2;revert h2;simp<;>omega)
 have H:=t.on u (by intro he;have h1:=t.tag;have h2:=a.tag;rw [he] at h1;rw [h1] at h2;revert h2;simp<;>omega)
 have I:=H.on w (by intro he;have h1:=H.tag;have h2:=g.tag;rw [he] at h1;rw [h1] at h2;revert h2;simp<;>omega)
 have W:=I.on j (by intro he;have h1:=I.tag;have h2:=hxb.tag;rw [he] at h1;rw [h1] at h2;revert h2;simp<;>omega)
 have X:=hby.mv f (tagn (by simp))
 have Y:=X.mv u (onn (by rw [a.tag];omega))
 have Z:=Y.mv w (onn (by rw [g.tag];omega))
 have aa:=Z.mv j (onn (by rw [hxb.tag];omega))
 rw [get_hit hfd]
 have hPP:CacheP J c T d { C with l:=rmB C.l x.blk++[{ x with used:=C.clock+1 }],clock:=C.clock+1,hits:=C.hits+1 } r m bp bh:=touchP (C1:=C) V W hbu2 aa hP.mo hxm j ad rfl hP.bnd hP.len
 exact ⟨_,_,rfl,(((((Ch.refl [T,T+1,T+2,T+3] s).ch f (by simp)).on_tag u a.tag (by simp)).on_tag w g.tag (by simp)).on_tag j hxb.tag (by simp)),.inr ⟨hh,rfl,⟨⟨_,_,_,_,hPP⟩,ok.push (rmB_sub _ _) rfl rfl rfl (by omega) (by have:=ok.cnt;simp only;omega) (ok.pin x hxm)⟩,fun _=>⟨_,_,_,_,_,hPP,rfl,List.mem_append_right _ (List.mem_singleton.2 rfl),rfl⟩⟩⟩
end Go.Proofs.YtkaikaodhegmhaaGreat.E
namespace Go.Proofs.YtkaikaodhegmhaaGreat.E
open Go Go.Proofs Go.RowKit Go.Maps Go.Shelf Go.Sort
set_option linter.unusedVariables false
set_option linter.unusedSimpArgs false
def CacheM.bytes (C:CacheM) (b:Int):List UInt8:=((C.find b).map (·.by_)).getD []
theorem bytes_eq {C:CacheM} (hn:(C.l.map (·.blk)).Nodup) {x:BufM} (hx:x∈C.l):C.bytes x.blk=x.by_:=by unfold CacheM.bytes CacheM.find;rw [find_nd hn hx];rfl
def updB (l:List BufM) (b:Int) (f:BufM->BufM):List BufM:=l.map fun x=>if x.blk=b then f x else x
def CacheM.put (C:CacheM) (b:Int) (y:List UInt8):CacheM:={ C with l:=updB C.l b fun x=>{ x with by_:=y } }
def CacheM.pin1 (C:CacheM) (b:Int):CacheM×Int:=
 match C.find b with
 |none=>(C,3)
 |some x=>if x.pins>=100 then (C,3) else ({ C with l:=updB C.l b fun x=>{ x with pins:=x.pins+1 } },0)
def CacheM.pin (C:CacheM) (bs:List (List UInt8)) (b:Int):CacheM×Int:=if (C.get bs b).2=0 then (C.get bs b).1.pin1 b else C.get bs b
theorem updB_blk (l:List BufM) (b:Int) (f:BufM->BufM) (hf: ∀x,(f x).blk=x.blk):(updB l b f).map (·.blk)=l.map (·.blk):=by
 unfold updB;rw [List.map_map];apply List.map_congr_left;intro x _;simp only [Function.comp];split<;>simp [hf]
theorem updB_none {l:List BufM} {b:Int} {f:BufM->BufM} (h:(l.find? fun x=>x.blk==b)=none):updB l b f=l:=by
 have hn:=find_nmem h
 unfold updB
 conv=>rhs;rw [←List.map_id l]
 apply List.map_congr_left;intro z hz
 have:z.blk≠b:=fun e=>hn (List.mem_map.2 ⟨z,hz,e⟩)
 rw [if_neg this];rfl
theorem updB_mem {l:List BufM} {b:Int} {f:BufM->BufM} {y:BufM} (h:y∈updB l b f): ∃x∈l,(x.blk≠b/\y=x)∨(x.blk=b/\y=f x):=by
 unfold updB at h
 obtain ⟨x,hx,e⟩:=List.mem_map.1 h
 refine ⟨x,hx,?_⟩
 by_cases hb:x.blk=b
 ·rw [if_pos hb] at e;exact .inr ⟨hb,e.symm⟩
 rw [if_neg hb] at e;exact .inl ⟨hb,e.symm⟩
theorem COk.upd {C C':CacheM} (ok:COk C) {b:Int} {f:BufM->BufM} (hl:C'.l=updB C.l b f) (hu: ∀x,(f x).used=x.used) (hp: ∀x∈C.l,x.blk=b->0<=(f x).pins/\(f x).pins<=100) (h1:C'.clock=C.clock) (h2:C'.hits=C.hits) (h3:C'.misses=C.misses):COk C':=by
 have hk:=ok.clk
 have hc:=ok.cnt
 refine ⟨?_,fun y hy=>?_,by omega,by omega,fun y hy=>?_⟩
 ·rw [hl];unfold updB;rw [List.pairwise_map]
  refine ok.srt.imp fun {a z} h=>?_
  have e: ∀x:BufM,(if x.blk=b then f x else x).used=x.used:=fun x=>by split<;>simp [hu]
  rw [e,e];exact h
 ·rw [hl] at hy
  obtain ⟨x,hx,⟨_,rfl⟩|⟨_,rfl⟩⟩:=updB_mem hy
  ·have:=ok.rng y hx;omega
  have:=ok.rng x hx;rw [hu];omega
 rw [hl] at hy
 obtain ⟨x,hx,⟨_,rfl⟩|⟨hb,rfl⟩⟩:=updB_mem hy
 ·exact ok.pin y hx
 exact hp x hx hb
theorem updP {s2 s3:TH} {c T d r:Nat} {C1 C2:CacheM} {m:List (Int×Value)} {bp:Int->Nat} {bh bh':Int->Hd} {x:BufM} {f:BufM->BufM} (hblk:Blk s3 c [.pointer (some ⟨d,0,none⟩),.int .i64 C2.bound,.map (some r),.int .i64 C2.clock,.int .i64 C2.hits,.int .i64 C2.misses] 210 T)
  (hmap:MapK (Value.int .i64) s3 r m (T+1)) (hbu:Bufs s2 (T+2) C1.l bp bh) (hy:BufY s3 (T+3) C1.l bh) (mo:MapOf m C1.l bp) (hx:x∈C1.l) (hon:On (bp x.blk) s2 s3) (hb:Blk s3 (bp x.blk) (bufv (bh' x.blk) (f x).pins (f x).used) 267 (T+2))
  (hl:C2.l=updB C1.l x.blk f) (hf: ∀y,(f y).blk=y.blk) (hh: ∀k,k≠x.blk->bh' k=bh k) (hyb:ByAt s3 (T+3) (bh' x.blk) (f x).by_) (bnd:1<=C2.bound/\C2.bound<=64) (len:(C1.l.length:Int)<=C2.bound):CacheP s3 c T d C2 r m bp bh':=by
 have hk:=updB_blk C1.l x.blk f hf
 have one: ∀y∈C1.l,y.blk=x.blk->y=x:=fun y hy e=>by
  have h1:=find_nd mo.nd hy
  have h2:=find_nd mo.nd hx
  rw [e,h2] at h1;cases h1;rfl
 refine ⟨hblk,hmap,hbu.one hon hb fun y hy'=>?_,⟨fun y hy'=>?_⟩,by rw [hl];exact mo.again (by rw [hk]),bnd,by rw [hl];have:=congrArg List.length hk;simp only [List.length_map] at this;omega⟩
 ·rw [hl] at hy'
  obtain ⟨z,hz,⟨h1,rfl⟩|⟨h1,rfl⟩⟩:=updB_mem hy'
  ·exact .inl ⟨hz,mo.pne hx hz h1,hh _ h1⟩
  ·obtain rfl:=one z hz h1;exact .inr ⟨by rw [hf],rfl,rfl⟩
 ·rw [hl] at hy'
  obtain ⟨z,hz,⟨h1,rfl⟩|⟨h1,rfl⟩⟩:=updB_mem hy'
  ·rw [hh _ h1];exact hy.at_ y hz
  ·obtain rfl:=one z hz h1;rw [hf];exact hyb
theorem c_Get (c T d Td:Nat) (C:CacheM) (D:DiskM) (b:Int) (τ:Nat) (s:TH) (hT:10<=T) (hTd:10<=Td) (hTT:T+10<=Td∨Td+10<=T) (hc:Cache s c T d C) (hd:Disk s d Td D) (hl:D.has b->∃l,D.blocks[b.toNat]? =some l) (hf:D.fails b<=0) (hk:C.clock<9223372036854775807/\C.hits<9223372036854775807/\C.misses<9223372036854775807):TRet Tryz.prog 113 #[.pointer (some ⟨c,0,none⟩),.int .i64 b] s fun v s'=>∃a n cc e,v=.tuple #[.slice a n cc,.int .i64 e]/\Ch [T,T+1,T+2,T+3] s s'/\((¬D.has b/\e=1/\Cache s' c T d C)∨(D.has b/\e=(C.get D.blocks b).2/\Cache s' c T d (C.get D.blocks b).1/\(e=0->n=128/\Own s' a 128 cc 5 1 (bvs ((C.get D.blocks b).1.bytes b)) τ/\((C.get D.blocks b).1.bytes b).length=128))):=by
 refine F113_calls _ _  ?_
 unfold F113
 refine tcall (c_get c T d Td C D b _ hT hTd hTT hc hd hl hf hk) ?_
 rintro _ s2 ⟨q,e,rfl,g,hres⟩
 have k:=g.size
 refine dT2 (dPtr_i (dInt_i ?_))
 refine sB_ne (fun f=>?_) (fun f=>?_)
 ·refine ret_t ?_
  refine ⟨_,_,_,_,rfl,((Ch.refl [T,T+1,T+2,T+3] s).ch g (by simp)),?_⟩
  rcases hres with ⟨h1,h2,h3⟩|⟨h1,h2,h3,h4⟩
  ·exact .inl ⟨h1,h2,h3⟩
  exact .inr ⟨h1,h2,h3,fun h=>absurd h f⟩
 rcases hres with ⟨_,h1,_⟩|⟨hh,he,hC,hx⟩
 ·rw [h1] at f;cases f
 obtain ⟨r,m,bp,bh,x,hP,rfl,hxm,rfl⟩:=hx f
 have hxb:=hP.bufs.at_ x hxm
 have hyb:=hP.bufy.at_ x hxm
 have hPr:=hP
 refine nz_i ?_
 first|refine ld_t hxb rfl ?_
 refine dSl_i ?_
 refine tcall (c_clone τ _ hyb.sl hyb.len (fun h=>by obtain ⟨y,hy⟩:=hyb.ne;rw [h] at hy;cases hy) (by omega)) ?_
 rintro _ o ⟨ya,yc,rfl,i,j,hyn⟩
 have p:=i.size
 refine dSl_i ?_
 refine ret_t ?_
 have P_6:=hPr.mv i (rngn (by simp<;>omega))
 have hby:=bytes_eq hP.mo.nd hxm
 exact ⟨_,_,_,_,rfl,(((Ch.refl [T,T+1,T+2,T+3] s).ch g (by simp)).ch i (by simp)),.inr ⟨hh,by rw [←he,f],⟨⟨_,_,_,_,P_6⟩,hC.ok⟩,fun _=>⟨rfl,by rw [hby];exact j,by rw [hby];exact hyb.len⟩⟩⟩
theorem c_Put (c T d Td:Nat) (C:CacheM) (D:DiskM) (b:Int) {xa:Option Addr} (xc:Nat) {y:List UInt8} {τx:Nat} (s:TH) (hT:10<=T) (hTd:10<=Td) (hTT:T+10<=Td∨Td+10<=T) (hc:Cache s c T d C) (hd:Disk s d Td D) (hx:Sl s xa (bvs y) τx) (hxl:y.length=128):TRet Tryz.prog 276 #[.pointer (some ⟨c,0,none⟩),.int .i64 b,.slice xa 128 xc] s fun v s'=>v=.int .i64 (if D.has b then 0 else 1)/\Ch [T,T+1,T+2,T+3] s s'/\Cache s' c T d (if D.has b then C.put b y else C):=by
 obtain ⟨⟨r,m,bp,bh,hP⟩,ok⟩:=id hc
 have hcb:=hP.blk
 have hcm:=hP.map
 have hbu:=hP.bufs
 have hby:=hP.bufy
 refine F276_calls _ _ _ _ _  ?_
 unfold F276
 refine tcall (c_clook c T d Td C D b _ hT hTd hTT hc hd) ?_
 rintro _ s2 ⟨rfl,a⟩
 have P:=a.size
 refine dInt_i ?_
 refine sB_ne (fun j=>?_) (fun j=>?_)
 ·refine ret_t ?_
  have J:=hc.mv a (rngn (by simp<;>omega))
  have hn: ¬D.has b:=fun h=>j (if_pos h)
  rw [if_neg hn,if_neg hn]
  exact ⟨rfl,((Ch.refl [T,T+1,T+2,T+3] s).ch a (by simp)),J⟩
 refine sB_f (by rfl) ?_
 refine jn_u ?_
 have hh:D.has b:=by
  by_cases h:D.has b
  ·exact h
  rw [if_neg h] at j;cases j
 refine nz_i ?_
 have p:=hcb.ch a (by simp)
 first|refine ld_t p rfl ?_
 refine dMap_i ?_
 rcases hfd:C.find b with _|x
 ·have H:=hcm.ch a (by simp)
  refine look_okn keyI u208 z263 H b (hP.mo.get_none hfd) ?_
  refine dT2 (dPtr_i (dBl_i (sB_f (by rfl) ?_)))
  iterate 17 intro _
  refine ret_t ?_
  have K:=hc.mv a (rngn (by simp<;>omega))
  rw [if_pos hh,if_pos hh]
  have e:C.put b y=C:=by unfold CacheM.put;rw [updB_none hfd]
  rw [e]
  exact ⟨rfl,((Ch.refl [T,T+1,T+2,T+3] s).ch a (by simp)),K⟩
 have q:=hcm.ch a (by simp)
 refine look_oks keyI u208 z263 q b (hP.mo.get_some hfd) ?_
 refine dT2 (dPtr_i (dBl_i (sB_t (by rfl) ?_)))
 have L:=hx.mv a (tagn (by simp))
 refine tcall (c_clone (T+3) _ L hxl (fun h=>by obtain ⟨y,hy⟩:=hx.some (fun e=>by have:=congrArg List.length e;simp only [bvs_len,List.length_nil] at this;omega);rw [h] at hy;cases hy) (by omega)) ?_
 rintro _ Q ⟨ya,yc,rfl,i,t,hyn⟩
 have N:=i.size
 refine dSl_i ?_
 have u:=hbu.mv a (tagn (by simp))
 have l:=u.mv i (tagn (by simp))
 obtain ⟨hxm,rfl⟩:=find_mem hfd
 have hxb:=(l).at_ x hxm
 have hbu2:=l
 refine nz_i ?_
 refine st_t hxb rfl (by simp [bufv]) fun M I g O=>?_
 iterate 17 intro _
 refine ret_t ?_
 have n:=p.ch i (by simp)
 have w:=n.on g (by intro he;have h1:=n.tag;have h2:=hxb.tag;rw [he] at h1;rw [h1] at h2;revert h2;simp<;>omega)
 have o:=q.ch i (by simp)
 have A:=o.on g (by intro he;have h1:=o.tag;have h2:=hxb.tag;rw [he] at h1;rw [h1] at h2;revert h2;simp<;>omega)
 have B:=hby.mv a (tagn (by simp))
 have E:=B.mv i (tagn (by simp))
 have F:=E.mv g (onn (by rw [hxb.tag];omega))
 have G:=t.mv g (onn (by rw [hxb.tag];omega))
 rw [if_pos hh,if_pos hh]
 have hPP:CacheP M c T d (C.put x.blk y) r m bp (fun k=>if k=x.blk then (ya,yc) else bh k):=updP (C1:=C) (f:=fun z=>{ z with by_:=y }) w A hbu2 F hP.mo hxm g (by simpa [bufv] using I) rfl (fun _=>rfl) (fun k hk=>if_neg hk) (by rw [if_pos rfl];exact ⟨G.sl,hxl⟩) hP.bnd hP.len
 exact ⟨rfl,((((Ch.refl [T,T+1,T+2,T+3] s).ch a (by simp)).ch i (by simp)).on_tag g hxb.tag (by simp)),⟨⟨_,_,_,_,hPP⟩,ok.upd (b:=x.blk) (f:=fun z=>{ z with by_:=y }) rfl (fun _=>rfl) (fun z hz _=>ok.pin z hz) rfl rfl rfl⟩⟩
-- no form: (*bollard/cache.Cache).Unpin
-- no form: (*bollard/cache.Cache).Pin
-- no form: (*bollard/cache.Cache).Hits
end Go.Proofs.YtkaikaodhegmhaaGreat.E
