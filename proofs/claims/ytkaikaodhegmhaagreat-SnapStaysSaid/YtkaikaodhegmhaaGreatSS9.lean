/- My own texts, joined. -/
import Derived.Conc.MuLib
import Derived.KernelRfl
import Derived.Test.YtkaikaodhegmhaaGreatProg
import Derived.Test.YtkaikaodhegmhaaGreatSS8
namespace Go.Proofs.YtkaikaodhegmhaaGreat.E
open Go Go.Proofs
set_option linter.unusedVariables false
set_option linter.unusedSimpArgs false
theorem c_of1 (p:Hd) (s:TH):TRet Tryz.prog 52 #[.slice p.1 128 p.2] s fun v s'=>v=.bool false/\Ch [] s s':=by
 refine F52_calls _ _ _  ?_
 unfold F52
 refine ret_t ?_
 exact ⟨rfl,(Ch.refl [] s)⟩
theorem c_ixRow {a:Option Addr} {n:Nat} (c:Nat) {hs:List Hd} {τ:Nat} {s:TH} (hq:Sl s a (hs.flatMap hd1) τ) (hn:hs.length=n) (hn2:n<=1000000) {g:Nat} {xf xc:Array Value} (hg:plainFn Tryz.prog g=true) (hp: ∀(s1:TH) (x:Hd),TRet Tryz.prog g (argsOf xf [.slice x.1 128 x.2] xc) s1 fun v s2=>v=.bool false/\Ch [] s1 s2):TRet Tryz.prog 124 #[.slice a n c,.func (.func g) xf xc] s fun v s'=>v=.int .i64 (-1)/\Ch [] s s':=by
 refine F124_calls _ _ _ _ _ _  ?_
 unfold F124
 refine ⟨fun vs H'=>∃s':TH,s'.h=H'/\∃m,vs=[.int .i64 m]/\ChL [] [] s s'/\(∃k:Nat,m=k/\k<=n),fun vs H'=>match vs with|[.int .i64 m]=>((n:Int) - m).toNat|_=>0,⟨s,rfl,_,rfl,ChL.refl _ _ _,?_⟩,?_⟩
 ·exact ⟨0,rfl,by omega⟩
 intro m
 iterate 12 intro _
 intro l hI
 obtain ⟨o,rfl,m_,hvs,b,k,rfl,hk⟩:=hI
 cases hvs
 have p:=b.size
 refine sB_d (fun f=>?_) (fun f=>?_)
 ·have hk2:k<n:=by omega
  obtain ⟨x,hx⟩: ∃x,hs[k]? =some x:=⟨hs[k],by simp [hn,hk2]⟩
  obtain ⟨a,rfl⟩:=hq.some (fun e=>by have:=bcell hx;rw [e] at this;simp at this)
  refine nz_i (ask_t (by omega) ?_)
  have i:=hq.mv b (tagL (by simp<;>omega) (by simp))
  refine ld_sl i (by rw [Int.toNat_natCast,Nat.mul_one];exact bcell hx) ?_
  set_option maxRecDepth 4000 in
  refine dSl_i (a:=x.1) (n:=128) (c:=x.2) ?_
  rw [gB_eq hg]
  refine tcall (hp _ x) ?_
  rintro _ j ⟨rfl,d⟩
  have q:=d.size
  refine dBl_i (sB_f (by rfl) (wr_t (by omega) ?_))
  refine ⟨⟨j,rfl,_,rfl,(((ChL.refl [] [] s).chl b (by simp) (by simp<;>omega)).ch d (by simp)),?_⟩,?_⟩
  ·exact ⟨k+1,by omega,by omega⟩
  simp only [];omega
 refine ret_t ?_
 exact ⟨rfl,((Ch.refl [] s).chl b (by simp) (by simp<;>omega))⟩
theorem c_ctRow {a:Option Addr} {n:Nat} (c:Nat) {hs:List Hd} {τ:Nat} {s:TH} (hq:Sl s a (hs.flatMap hd1) τ) (hn:hs.length=n) (hn2:n<=1000000):TRet Tryz.prog 53 #[.slice a n c,.func (.func 52) #[] #[]] s fun v s'=>v=.bool false/\Ch [] s s':=by
 refine F53_calls _ _ _ _ _ _  ?_
 unfold F53
 refine tcall (c_ixRow c hq hn hn2 (by kernel_rfl) (fun s1 x=>c_of1 x s1)) ?_
 rintro _ s2 ⟨rfl,b⟩
 have d:=b.size
 refine dInt_i ?_
 refine ret_t ?_
 exact ⟨rfl,((Ch.refl [] s).ch b (by simp))⟩
theorem c_image (T:Nat) {a:Option Addr} {n:Nat} (c:Nat) {hs:List Hd} {bs:List (List UInt8)} {τ τb:Nat} {s:TH} (hq:Sl s a (hs.flatMap hd1) τ) (hb:BRel s τb hs bs) (hn:hs.length=n) (hn2:n<=2048) (h1:τ≠T+1) (h2:τb≠T+1):TRet Tryz.prog 54 #[.slice a n c] s fun v s'=>∃pa pc hs',v=.slice pa n pc/\Ch [T+1] s s'/\Own s' pa n pc 49 1 (hs'.flatMap hd1) (T+1)/\BRel s' (T+3) hs' bs:=by
 refine F54_calls _ _ _  ?_
 unfold F54
 refine ⟨fun vs H'=>∃s':TH,s'.h=H'/\∃pa pn pc m,vs=[.slice pa pn pc,.int .i64 m]/\ChL [T+1] [] s s'/\(∃(k:Nat) (hs':List Hd),m=k/\pn=k/\k<=n/\Own s' pa k pc 49 1 (hs'.flatMap hd1) (T+1)/\BRel s' (T+3) hs' (bs.take k)),fun vs H'=>match vs with|[.slice pa pn pc,.int .i64 m]=>((n:Int) - m).toNat|_=>0,⟨s,rfl,_,_,_,_,rfl,ChL.refl _ _ _,?_⟩,?_⟩
 ·exact ⟨0,[],rfl,rfl,by omega,Own.nil _ _ _ _,BRel.nil _ _⟩
 intro pa pn pc m
 iterate 10 intro _
 intro D hI
 obtain ⟨E,rfl,pa_,pn_,pc_,m_,hvs,g,k,hs',rfl,rfl,hk,rows_3,brel_4⟩:=hI
 cases hvs
 have F:=g.size
 refine sB_d (fun q=>?_) (fun q=>?_)
 ·have hk2:pn<n:=by omega
  obtain ⟨x,hx⟩: ∃x,hs[pn]? =some x:=⟨hs[pn],by simp [hn,hk2]⟩
  obtain ⟨b,hbk⟩: ∃b,bs[pn]? =some b:=⟨bs[pn]'(by rw [←hb.len,hn];exact hk2),by simp⟩
  obtain ⟨a,rfl⟩:=hq.some (fun e=>by have:=bcell hx;rw [e] at this;simp at this)
  refine nz_i (ask_t (by omega) ?_)
  have w:=hq.mv g (tagL (by simp<;>omega) (by simp))
  refine ld_sl w (by rw [Int.toNat_natCast,Nat.mul_one];exact bcell hx) ?_
  refine dSl_i ?_
  have j:=hb.mv g (tagL (by simp<;>omega) (by simp))
  refine tcall (c_clone (T+3) _ (j.at_ _ _ _ hx hbk).sl (j.at_ _ _ _ hx hbk).len (fun h=>by obtain ⟨y,hy⟩:=(hb.at_ _ _ _ hx hbk).ne;rw [h] at hy;cases hy) (by omega)) ?_
  rintro _ G ⟨xa2,xc2,rfl,i,r,hxn⟩
  have H:=i.size
  refine dSl_i ?_
  refine al_t 0 fun I J A t d B=>?_
  have rows_13:=rows_3.mv i (tagn (by simp))
  have rows_14:=rows_13.mv d (tagn (by simp))
  refine app_i u22 in49 rfl rows_14 t.sl (m:=1) (k:=1) rfl (by intro u hu;simp at hu;subst hu;rfl) (by simp) (by unfold maxLen;omega) fun z pa2 pc2 rows_17 l _=>?_
  have f:=l.ch (T:=[T+1]) rows_14 (by simp)
  have C:=f.size
  refine dSl_i (wr_t (by omega) ?_)
  refine ⟨⟨z,rfl,_,_,_,_,rfl,(((((ChL.refl [T+1] [] s).chl g (by simp) (by simp<;>omega)).ch i (by simp)).ch d (by simp)).ch f (by simp)),?_⟩,?_⟩
  ·have brel_18:=brel_4.mv i (tagn (by simp))
   have brel_19:=brel_18.mv d (tagn (by simp))
   have brel_20:=brel_19.mv f (tagn (by intro h;simp only [List.mem_cons,List.not_mem_nil,or_false] at h<;>omega))
   have o:=r.mv d (tagn (by simp))
   have p:=o.mv f (tagn (by intro h;simp only [List.mem_cons,List.not_mem_nil,or_false] at h<;>omega))
   exact ⟨pn+1,hs'++[(xa2,xc2)],by omega,by omega,by omega,by simpa [hd1] using rows_17,by rw [List.take_add_one,hbk];exact brel_20.snoc ⟨p.sl,(hb.at_ _ _ _ hx hbk).len⟩⟩
  simp only [];omega
 refine ret_t ?_
 obtain rfl:pn=n:=by omega
 exact ⟨pa,pc,hs',rfl,((Ch.refl [T+1] s).chl g (by simp) (by simp<;>omega)),rows_3,by have h:=brel_4;rw [List.take_of_length_le (by rw [←hb.len,hn];omega)] at h;exact h⟩
def diskOf (bs:List (List UInt8)):DiskM:=⟨bs,[],fun _=>0,0⟩
theorem c_of (T:Nat) {a:Option Addr} {n:Nat} (c:Nat) {hs:List Hd} {bs:List (List UInt8)} {τ τb:Nat} {s:TH} (hT:10<=T) (hq:Sl s a (hs.flatMap hd1) τ) (hb:BRel s τb hs bs) (hn:hs.length=n) (hn2:1<=n/\n<=2048) (h1:τ≠T+1) (h2:τb≠T+1):TRet Tryz.prog 20 #[.slice a n c] s fun v s'=>∃d,v=.tuple #[.pointer (some ⟨d,0,none⟩),.int .i64 0]/\Ch [T+1] s s'/\Disk s' d T (diskOf bs):=by
 refine F20_calls _ _ _  ?_
 unfold F20
 refine jn_u ?_
 refine sB_d (fun i=>by exfalso;omega) (fun i=>?_)
 refine sB_d (fun j=>by exfalso;omega) (fun j=>?_)
 refine tcall (c_ctRow c hq hn (by omega)) ?_
 rintro _ y ⟨rfl,g⟩
 have z:=g.size
 refine dBl_i ?_
 iterate 12 intro _
 refine dBl_i (sB_f (by rfl) ?_)
 have o:=hq.mv g (tagn (by simp))
 have k:=hb.mv g (tagn (by simp))
 refine tcall (c_image T c o k hn hn2.2 h1 h2) ?_
 rintro _ A ⟨pa,pc,hs',rfl,h,rows_7,brel_8⟩
 have B:=h.size
 refine dSl_i ?_
 refine alm_t (Value.int .i64) (T+4) fun p C t q f u=>?_
 refine al_t T fun r D w l e x=>?_
 refine ret_t ?_
 have rows_15:=rows_7.mv f (tagn (by simp))
 have rows_16:=rows_15.mv e (tagn (by simp))
 have brel_17:=brel_8.mv f (tagn (by simp))
 have brel_18:=brel_17.mv e (tagn (by simp))
 have r21_19:=q.ch e (by simp)
 have hl:bs.length=n:=by rw [←hb.len,hn]
 subst hl
 exact ⟨r,rfl,(((((Ch.refl [T+1] s).ch g (by simp)).ch h (by simp)).ch f (by simp)).ch e (by simp)),pa,pc,none,0,hs',[],p,[],⟨by simpa [diskOf] using l,by simpa [diskOf] using rows_16,brel_18,Own.nil _ _ _ _,QRel.nil _ _,r21_19,fun b=>rfl,by simp [diskOf];omega,by simp [diskOf],fun m hm=>by simp [diskOf] at hm⟩⟩
end Go.Proofs.YtkaikaodhegmhaaGreat.E
namespace Go.Proofs
abbrev Tryz.muLink :Go.Conc.Locks.MuLink:={ lock:=94,unlock:=34,ilock:=186,iunlock:=95,lockSlow:=255,unlockSlow:=190,disable:=188,enable:=191,acquire:=254,relMerge:=187,cas32:=253,add32:=189,tMutex:=94,tIMutex:=92,tPMutex:=157,tPIMutex:=241,tPI32:=245,tUP:=243,tNoCopy:=89,tU32:=90 }
theorem Tryz.muLib :Go.Conc.Locks.MuLib Tryz.prog Tryz.muLink:=
 ⟨Tryz.func94,Tryz.func34,Tryz.func186,Tryz.func95,Tryz.func188,Tryz.func191,Tryz.func254,Tryz.func187,Tryz.func253,Tryz.func189,Tryz.underlying92,Tryz.runUnderlying92,Tryz.sizeOf92,Tryz.isAgg92,Tryz.zeroValue92,Tryz.underlying94,Tryz.runUnderlying94,Tryz.sizeOf94,Tryz.isAgg94,Tryz.zeroValue94,Tryz.underlying157,Tryz.runUnderlying157,Tryz.sizeOf157,Tryz.isAgg157,Tryz.zeroValue157,Tryz.underlying241,Tryz.runUnderlying241,Tryz.sizeOf241,Tryz.isAgg241,Tryz.zeroValue241,Tryz.underlying245,Tryz.runUnderlying245,Tryz.sizeOf245,Tryz.isAgg245,Tryz.zeroValue245,Tryz.underlying243,Tryz.runUnderlying243,Tryz.sizeOf243,Tryz.isAgg243,Tryz.zeroValue243,Tryz.underlying89,Tryz.runUnderlying89,Tryz.sizeOf89,Tryz.isAgg89,Tryz.zeroValue89,Tryz.underlying21,Tryz.runUnderlying21,Tryz.sizeOf21,Tryz.isAgg21,Tryz.zeroValue21,(by kernel_rfl)⟩
end Go.Proofs
namespace Go.Proofs.YtkaikaodhegmhaaGreat.E
open Go Go.Proofs
set_option linter.unusedVariables false
set_option linter.unusedSimpArgs false
structure NoV (s:TH) (p:Option Addr) (τ:Nat):Prop where
 h:p=none∨∃c,p=some ⟨c,0,none⟩/\Blk s c [.int .i32 0,.int .u32 0,.pointer none,.pointer none,.pointer none,.map none,.bool false,.bool false,.int .i64 0,.map none] 102 τ
theorem NoV.mv {s s':TH} {p:Option Addr} {τ:Nat} {B:Nat->Prop} (h:NoV s p τ) (c:Chg B s s') (hn: ∀j,j<s.h.size->s.g j=τ->¬B j):NoV s' p τ:=by
 rcases h.h with h|⟨r,h1,h2⟩
 ·exact ⟨.inl h⟩
 exact ⟨.inr ⟨r,h1,h2.mv c (hn r h2.lt h2.tag)⟩⟩
-- no form: (*bollard/volume.Volume).Sync
-- no form: (*bollard/volume.Volume).IsDone
-- no form: (*bollard/volume.Volume).Broken
-- no form: (*bollard/volume.Volume).Kept
end Go.Proofs.YtkaikaodhegmhaaGreat.E
namespace Go.Proofs.YtkaikaodhegmhaaGreat.E
open Go Go.Proofs
set_option linter.unusedVariables false
set_option linter.unusedSimpArgs false
theorem c_cnew (T d:Nat) (D:DiskM) (T2:Nat) (b:Int) (s:TH) (hT:10<=T) (hd:Disk s d T D) (hb:1<=b/\b<=64):TRet Tryz.prog 79 #[.pointer (some ⟨d,0,none⟩),.int .i64 b] s fun v s'=>∃c r,v=.tuple #[.pointer (some ⟨c,0,none⟩),.int .i64 0]/\Ch [] s s'/\Blk s' c [.pointer (some ⟨d,0,none⟩),.int .i64 b,.map (some r),.int .i64 0,.int .i64 0,.int .i64 0] 210 T2/\MapK (Value.int .i64) s' r [] (T2+1):=by
 have hnb:1<=D.blocks.length:=by obtain ⟨_,_,_,_,_,_,_,_,h⟩:=id hd;exact h.nb.1
 refine F79_calls _ _  ?_
 unfold F79
 refine tcall (c_blocks _ _ _ _ hT hd) ?_
 rintro _ s2 ⟨rfl,e⟩
 have q:=e.size
 refine dInt_i ?_
 refine sB_eq (fun g=>?_) (fun g=>?_)
 ·refine ret_t ?_
  omega
 refine jn_u ?_
 refine sB_d (fun i=>by exfalso;omega) (fun i=>?_)
 intro _ _ _ _ _
 refine dBl_i ?_
 first|refine sB_d (fun a=>?_) (fun a=>?_)|refine sB_nd (fun a=>?_) (fun a=>?_)|refine sB_n (fun a=>?_) (fun a=>?_)|refine sB_i (fun a=>?_) (fun a=>?_)
 ·refine ret_t ?_
  simp at a;omega
 refine alm_t (Value.int .i64) (T2+1) fun j t o k l u=>?_
 refine al_t T2 fun m w p n f x=>?_
 refine ret_t ?_
 have r12_9:=k.ch f (by simp)
 exact ⟨m,j,rfl,((((Ch.refl [] s).ch e (by simp)).ch l (by simp)).ch f (by simp)),n,r12_9⟩
theorem c_pnew (T:Nat) (s:TH):TRet Tryz.prog 80 #[] s fun v s'=>∃p r1 r2,v=.pointer (some ⟨p,0,none⟩)/\Ch [] s s'/\Blk s' p [.int .i64 0,.map (some r1),.map (some r2),.bool true] 161 T/\MapK (Value.int .i64) s' r1 [] (T+1)/\MapK (Value.int .i64) s' r2 [] (T+2):=by
 refine F80_calls  ?_
 unfold F80
 refine alm_t (Value.int .i64) (T+1) fun r1 s2 g c d h=>?_
 refine alm_t (Value.int .i64) (T+2) fun r3 s4 i e b j=>?_
 refine al_t T fun r5 s6 k f a l=>?_
 refine ret_t ?_
 have r1_10:=c.ch b (by simp)
 have r1_11:=r1_10.ch a (by simp)
 have r3_12:=e.ch a (by simp)
 exact ⟨r5,r1,r3,rfl,((((Ch.refl [] s).ch d (by simp)).ch b (by simp)).ch a (by simp)),f,r1_11,r3_12⟩
structure NoD (s:TH) (p:Option Addr) (τ:Nat):Prop where
 h:p=none∨∃c,p=some ⟨c,0,none⟩/\Blk s c [.slice none 0 0,.slice none 0 0,.map none,.int .i64 0] 121 τ
theorem NoD.mv {s s':TH} {p:Option Addr} {τ:Nat} {B:Nat->Prop} (h:NoD s p τ) (c:Chg B s s') (hn: ∀j,j<s.h.size->s.g j=τ->¬B j):NoD s' p τ:=by
 rcases h.h with h|⟨r,h1,h2⟩
 ·exact ⟨.inl h⟩
 exact ⟨.inr ⟨r,h1,h2.mv c (hn r h2.lt h2.tag)⟩⟩
theorem c_vheld (r τ:Nat) {d:Addr} {v3 v4 v5 v6 v7 v8 v9:Value} {s:TH} (hr:Blk s r [.int .i32 0,.int .u32 0,.pointer (some d),v3,v4,v5,v6,v7,v8,v9] 102 τ):TRet Tryz.prog 33 #[.pointer (some ⟨r,0,none⟩)] s fun v s'=>v=.bool true/\Ch [τ] s s'/\Blk s' r [.int .i32 1,.int .u32 0,.pointer (some d),v3,v4,v5,v6,v7,v8,v9] 102 τ:=by
 refine F33_calls _  ?_
 unfold F33
 refine sB_f (by rfl) (nz_i ?_)
 refine tcall (c_mlock Tryz.muLib hr rfl) ?_
 rintro _ s3 ⟨rfl,a,b⟩
 have c:=a.size
 refine nz_i (ld_t b rfl (dPtr_i (sB_f (by rfl) ?_)))
 refine ret_t ?_
 exact ⟨rfl,((Ch.refl [τ] s).ch a (by simp)),b⟩
-- no form: bollard/bollardlaw09.begun
end Go.Proofs.YtkaikaodhegmhaaGreat.E
