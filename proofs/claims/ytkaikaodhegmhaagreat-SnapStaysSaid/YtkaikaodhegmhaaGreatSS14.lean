/- My own texts, joined. -/
import Derived.ChangeArms
import Derived.DataReads
import Derived.Handed
import Derived.JoinedOf
import Derived.KernelRfl
import Derived.ProofKit
import Derived.Test.YtkaikaodhegmhaaGreatProg
import Derived.WalkKit
import Derived.WideShapes
import Derived.Test.YtkaikaodhegmhaaGreatSS13
namespace Go.Proofs.YtkaikaodhegmhaaGreat.E
open Go Go.Proofs Go.RowKit Go.Maps Go.Shelf Go.Sort
set_option linter.unusedVariables false
set_option linter.unusedSimpArgs false
theorem YPts.nil (s:TH) (τ:Nat):YPts s τ []:=⟨fun e he=>(List.not_mem_nil he).elim⟩
theorem nd_nil :Nd ⟨0,[],[]⟩:=fun x hx=>(List.not_mem_nil hx).elim
theorem pok_nil :POk ⟨0,[],[]⟩:=⟨List.Pairwise.nil,fun x hx=>(List.not_mem_nil hx).elim,fun x hx=>(List.not_mem_nil hx).elim,fun x hx=>(List.not_mem_nil hx).elim,fun x hx=>(List.not_mem_nil hx).elim,fun x hx=>(List.not_mem_nil hx).elim,fun i h1 h2=>absurd (Int.le_trans h1 h2) (by show ¬(1:Int)<=0;decide),fun x hx=>(List.not_mem_nil hx).elim,(by decide:(0:Int)<=0/\(0:Int)<=1000000)⟩
theorem c_rof3 (T:Nat) {xa:Option Addr} {n:Nat} (xc:Nat) {hs:List Hd} {bs:List (List UInt8)} {τx τb:Nat} {s:TH} (hT:10<=T) (hq:Sl s xa (hs.flatMap hd1) τx) (hb:BRel s τb hs bs) (hn:hs.length=n) (hn2:1<=n/\n<=2048) (hτ:(τx<T∨T+10<=τx)/\(τb<T∨T+10<=τb)):TRet Tryz.prog 22 #[.slice xa n xc] s fun v s'=>∃d,v=.tuple #[.pointer (some ⟨d,0,none⟩),.int .i64 0]/\Ch [T,T+1] s s'/\RDisk s' d T (diskOf bs):=by
 obtain ⟨M,hM,hM0,hMa,hMb,hMc,hMd,hMe,hMf⟩:=fresh6 s τx τb T 0 0 0
 refine F22_calls _ _ _  ?_
 unfold F22
 refine jn_u ?_
 refine sB_d (fun I=>by exfalso;omega) (fun I=>?_)
 intro _
 intros
 refine dBl_i ?_
 refine sB_d (fun J=>by exfalso;omega) (fun J=>?_)
 refine ask_t (by omega) ?_
 refine al_t (T+4) fun F ao ae ab G ap=>?_
 refine al_t T fun ac r t ad w aq=>?_
 refine ⟨fun vs H'=>∃s':TH,s'.h=H'/\∃i,vs=[.int .i64 i]/\Ch [T,T+1] r s'/\(∃(kk:Nat) (hs':List Hd) (pa:Option Addr) (pc:Nat),i=kk/\kk<=n/\Blk s' ac [.slice pa kk pc,.slice none 0 0,.slice (some ⟨F,0,none⟩) n n,.int .i64 0] 123 T/\Own s' pa kk pc 49 1 (hs'.flatMap hd1) (T+1)/\BRel s' (T+3) hs' (bs.take kk)),fun vs H'=>match vs with|[.int .i64 i]=>((n:Int) - i).toNat|_=>0,⟨r,rfl,_,rfl,Ch.refl _ _,?_⟩,?_⟩
 ·exact ⟨0,[],none,0,rfl,by omega,ad,Own.nil _ _ _ _,by rw [List.take_zero];exact BRel.nil _ _⟩
 intro i
 iterate 21 intro _
 intro H_ hI_8
 obtain ⟨ar,rfl,i_,hvs,l,kk,hs',pa,pc,rfl,hk,hr,ho,hbr⟩:=hI_8
 cases hvs
 have af:=l.size
 refine sB_d (fun K=>?_) (fun K=>?_)
 ·obtain ⟨x,hx⟩: ∃x,hs[kk]? =some x:=⟨hs[kk]'(by omega),by simp⟩
  obtain ⟨y,hy⟩: ∃y,bs[kk]? =some y:=⟨bs[kk]'(by have:=hb.len;omega),by simp⟩
  obtain ⟨a,rfl⟩:=hq.some (fun e=>by have:=bcell hx;rw [e] at this;simp at this)
  refine nz_i (ask_t (by omega) ?_)
  have z:=((G.app w).app l)
  have L:=hq.mv z (tagn (by simp<;>omega))
  refine ld_sl (v:=.slice x.1 128 x.2) L (by rw [Int.toNat_natCast,Nat.mul_one];exact bcell hx) ?_
  refine dSl_i (sB_f (by rfl) (ld_t hr rfl (dSl_i ?_)))
  have g:=hb.mv z (tagn (by simp<;>omega))
  refine tcall (c_copiedR (T+3) _ ((g).at_ _ _ _ hx hy).sl ((g).at_ _ _ _ hx hy).len (fun h=>by obtain ⟨y,hy⟩:=((g).at_ _ _ _ hx hy).ne;rw [h] at hy;cases hy) (by omega)) ?_
  rintro ag ah ⟨o,p,rfl,b,A⟩
  have ai:=b.size
  refine dSl_i ?_
  refine ⟨?_,?_⟩
  ·have N:=hr.ch b (by simp)
   refine ld_t N rfl (dSl_i ?_)
   rfl
  refine al_t (M+9) fun au av aj O c ak=>?_
  refine ⟨?_,?_⟩
  ·have P:=hr.ch (b.app c) (by simp)
   refine ld_t P rfl (dSl_i ?_)
   rfl
  have B:=ho.mv (b.app c) (tagn (by simp))
  refine app_i u22 in49 rfl B (O).sl (m:=1) (k:=1) rfl (by intro u hu;simp at hu;subst hu;rfl) (by simp) (by unfold maxLen;omega) fun al pa2 pc2 Q D _=>?_
  have j:=D.ch B (T:=[T+1]) (by simp)
  have am:=j.size
  refine dSl_i ?_
  have q:=((b.app c).app j)
  have C:=hr.ch q (by simp)
  refine st_t C rfl (by simp) fun H R E an=>?_
  have f:=on_ch C E
  refine wr_t (by omega) ?_
  have S:=((((l.app b).app c).app j).app f)
  refine ⟨⟨H,rfl,_,rfl,((Ch.refl [T,T+1] r).ch S (by simp)),?_⟩,?_⟩
  ·have U:=((c.app j).app f)
   have V:=A.mv U (tagn (by simp))
   have W:=g.mv (q.app f) (tagn (by simp<;>omega))
   have X:=Q.mv f (tagn (by simp))
   have Y:=hbr.mv (q.app f) (tagn (by simp))
   have hbb:ByAt H (T+3) (o,p) y:=⟨(V).sl,((W).at_ _ _ _ hx hy).len⟩
   exact ⟨kk+1,hs'++[(o,p)],_,_,by omega,by omega,R,by have h:=X;simpa [hd1] using h,by rw [take_get hy];exact (Y).snoc hbb⟩
  simp only [];omega
 refine ret_t ?_
 have Z:=ab.ch (w.app l) (by simp)
 have aa:=((G.app w).app l)
 obtain rfl:kk=n:=by omega
 have hbl:=hb.len
 have hf:=Z
 have t:=hr
 have ho9:=ho
 have hbr9:=hbr
 rw [List.take_of_length_le (by omega)] at hbr9
 rw [Int.toNat_natCast,rowZ_int] at hf
 have hkb:bs.length=kk:=by omega
 exact ⟨_,rfl,((Ch.refl [T,T+1] s).ch aa (by simp)),pa,pc,none,0,hs',[],some ⟨F,0,none⟩,kk,List.replicate kk 0,⟨by show Blk _ _ [.slice pa bs.length pc,_,.slice _ bs.length _,_] _ _;rw [hkb];exact t,by show Own _ _ bs.length _ _ _ _ _;rw [hkb];exact ho9,hbr9,Own.nil _ _ _ _,QRel.nil _ _,by show Own _ _ bs.length _ _ _ _ _;rw [hkb];exact hf.own 1 (n:=kk) (by simp) (by unfold maxLen;omega),fun i x hx=>(List.eq_of_mem_replicate (List.mem_of_getElem? hx)),by show 1<=bs.length/\bs.length<=2048;omega,(by decide:0<=64),fun m hm=>(List.not_mem_nil hm).elim⟩⟩
theorem c_r6new3 (T d:Nat) (bs:List (List UInt8)) (m:Int) (s:TH) (hm:0<=m):TRet Tryz.prog 81 #[.pointer (some ⟨d,0,none⟩),.int .i64 64] s fun v s'=>∃c,v=.tuple #[.pointer (some ⟨c,0,none⟩),.int .i64 0]/\Ch [] s s'/\RC s' c T d bs m:=by
 refine F81_calls _ _  ?_
 unfold F81
 refine sB_f (by rfl) ?_
 refine jn_u ?_
 refine sB_d (fun a=>by exfalso;omega) (fun a=>?_)
 intro _
 intros
 refine dBl_i ?_
 refine sB_d (fun b=>by exfalso;omega) (fun b=>?_)
 refine al_t T fun r9 h i f g j=>?_
 refine ret_t ?_
 exact ⟨_,rfl,((Ch.refl [] s).ch g (by simp)),⟨⟨none,0,[],0,0,f,Own.nil _ _ _ _,⟨fun e he=>(List.not_mem_nil he).elim⟩,List.nodup_nil,(by decide:0<=64),Int.le_refl _,hm,Int.le_refl _,hm⟩⟩⟩
theorem c_r9open3 (U d:Nat) (bs:List (List UInt8)) (m:Int) (s:TH) (hU:10<=U) (hd:RDisk s d (U+10) (diskOf bs)) (hm:0<=m/\m<=1000000000000000000) (hl: ∀y∈bs,y.length=128):TRet Tryz.prog 30 #[.pointer (some ⟨d,0,none⟩),.int .i64 64] s fun v s'=>∃y,v=.tuple #[.pointer (some ⟨y,0,none⟩),.int .i64 0]/\Ch [] s s'/\YL s' y U (VolM.fresh bs) m:=by
 refine F30_calls _ _  ?_
 unfold F30
 refine sB_f (by rfl) ?_
 refine tcall (c_r6new3 (U+20) d bs m _ hm.1) ?_
 rintro p q ⟨k,rfl,f,b⟩
 have r:=f.size
 refine dT2 (dPtr_i (dInt_i (sB_f (by rfl) ?_)))
 refine al_t (U+30) fun r7 s8 t l g u=>?_
 refine al_t U fun r9 w x n a o=>?_
 refine ret_t ?_
 have c:=((f.app g).app a)
 have h:=hd.mv c (rngn (by simp))
 have i:=b.mv (g.app a) (rngn (by simp))
 have j:=l.ch a (by simp)
 exact ⟨_,rfl,((Ch.refl [] s).ch c (by simp)),⟨⟨_,_,_,none,0,[],⟨n,Own.nil _ _ _ _,⟨fun e he=>(List.not_mem_nil he).elim⟩,rfl,h,i,⟨⟨none,0,[],⟨j,Own.nil _ _ _ _,YPts.nil _ _,rfl⟩⟩,pok_nil⟩⟩⟩,VOk.fresh hl,nd_nil,hm⟩⟩
theorem c_plof3 (U W τp:Nat) (m:Int) {xa:Option Addr} {n:Nat} (xc:Nat) {hs:List Hd} {bs:List (List UInt8)} {τx τb:Nat} {s:TH} (hU:10<=U) (hq:Sl s xa (hs.flatMap hd1) τx) (hb:BRel s τb hs bs) (hn:hs.length=n) (hn2:1<=n/\n<=2048) (hτ:(τx<U∨U+50<=τx)/\(τb<U∨U+50<=τb)/\(τx<W∨W+50<=τx)/\(τb<W∨W+50<=τb)/\U+50<=W/\(τp<U∨U+50<=τp)/\(τp<W∨W+50<=τp)) (hm:0<=m/\m<=1000000000000000000):TRet Tryz.prog 7 #[.slice xa n xc,.int .i64 64] s fun v s'=>∃p vp d x y,v=.tuple #[.pointer (some ⟨p,0,none⟩),.bool true]/\Ch [U+11,W+10,W+11] s s'/\Blk s' p [.pointer (some ⟨d,0,none⟩),.pointer (some ⟨vp,0,none⟩),.pointer (some ⟨x,0,none⟩),.pointer (some ⟨y,0,none⟩)] 41 τp/\VolL s' vp d U (VolM.fresh bs) 0/\YL s' y W (VolM.fresh bs) m:=by
 have hl128:=hb.l128
 obtain ⟨M,hM,hM0,hMa,hMb,hMc,hMd,hMe,hMf⟩:=fresh6 s τx τb (U+60) (W+60) τp 0
 refine F7_calls _ _ _ _  ?_
 unfold F7
 refine al_t (M+1) fun r1 s2 ax Y l ay=>?_
 have I:=hq.mv l (tagn (by simp))
 have J:=hb.mv l (tagn (by simp))
 refine tcall (c_pimage (M+10) (M+12) xc I J hn hn2) ?_
 rintro az aA ⟨Z,aa,X,rfl,f,o,g⟩
 have ae:=f.size
 refine dSl_i ?_
 have hln:=(g).len
 have hlb:=hb.len
 refine tcall (c_of (U+10) _ (by omega) (o).sl g (by rw [hln, ←hlb];exact hn) hn2 (by omega) (by omega)) ?_
 rintro af ag ⟨q,rfl,a,r⟩
 have ah:=a.size
 refine dT2 (dPtr_i (dInt_i ?_))
 have K:=I.mv (f.app a) (tagn (by simp<;>omega))
 have L:=J.mv (f.app a) (tagn (by simp<;>omega))
 refine tcall (c_rof3 (W+10) xc (by omega) K L hn hn2 (by omega)) ?_
 rintro ai aj ⟨t,rfl,b,u⟩
 have ak:=b.size
 refine dT2 (dPtr_i (dInt_i ?_))
 refine jn_u ?_
 refine sB_f (by rfl) (sB_f (by rfl) ?_)
 intro _
 intros
 refine dBl_i (sB_f (by rfl) ?_)
 have N:=r.mv b (rngn (by simp<;>omega))
 refine tcall (c_vopen2 U q bs 64 _ hU N hl128 (by omega)) ?_
 rintro al am ⟨ab,rfl,c,w⟩
 have an:=c.size
 refine dT2 (dPtr_i (dInt_i ?_))
 have O:=u.mv c (rngn (by simp))
 refine tcall (c_r9open3 W t bs m _ (by omega) O hm hl128) ?_
 rintro ao ap ⟨ac,rfl,e,z⟩
 have aq:=e.size
 refine dT2 (dPtr_i (dInt_i ?_))
 refine jn_u ?_
 refine sB_f (by rfl) ?_
 intro _
 intros
 refine dBl_i (sB_f (by rfl) (sB_f (by rfl) ?_))
 have P:=((((f.app a).app b).app c).app e)
 have A:=Y.ch P (by simp<;>omega)
 refine st_t A rfl (by simp) fun aB B E ar=>?_
 have h:=on_ch A E
 refine st_t B rfl (by simp) fun aC C F au=>?_
 have i:=on_ch B F
 refine st_t C rfl (by simp) fun aD D G av=>?_
 have j:=on_ch C G
 refine st_t D rfl (by simp) fun ad Q H aw=>?_
 have k:=on_ch D H
 have R:=((((e.app h).app i).app j).app k)
 have S:=w.mv R (rngn50 (by simp<;>omega))
 have T:=(((h.app i).app j).app k)
 have V:=z.mv T (rngn50 (by simp<;>omega))
 refine ret_t' (s':=remark ad (M+1) τp) rfl ⟨_,_,_,_,_,rfl,remark_ch (((((((((((Ch.refl [U+11,W+10,W+11] s).ch l (by simp)).ch f (by simp)).fr a hM (by simp<;>omega)).fr b hM (by simp<;>omega)).ch c (by simp)).ch e (by simp)).fr h hM (by simp)).fr i hM (by simp)).fr j hM (by simp)).fr k hM (by simp)) hM (by omega),(Q).remark,(S).keep (by omega),(V).keep (by omega)⟩
theorem c_freshA3 (U W τp:Nat) (G B N:Nat) (m:Int) (s:TH) (hU:10<=U) (hv:GeoOk G B N) (hτ:U+50<=W/\(τp<U∨U+50<=τp)/\(τp<W∨W+50<=τp)) (hm:0<=m/\m<=1000000000000000000):TRet Tryz.prog 12 #[.agg #[.int .i64 (G:Int),.int .i64 (B:Int),.int .i64 (N:Int)]] s fun v s'=>∃p vp d x y,v=.tuple #[.pointer (some ⟨p,0,none⟩),.agg #[.int .i64 (G:Int),.int .i64 (B:Int),.int .i64 (N:Int)],.bool true]/\Ch [U+11,W+10,W+11] s s'/\Blk s' p [.pointer (some ⟨d,0,none⟩),.pointer (some ⟨vp,0,none⟩),.pointer (some ⟨x,0,none⟩),.pointer (some ⟨y,0,none⟩)] 41 τp/\VolL s' vp d U (VolM.fresh (makeL G B N)) 0/\YL s' y W (VolM.fresh (makeL G B N)) m:=by
 have hv2:=hv
 unfold GeoOk at hv2
 obtain ⟨M,hM,hM0,hMa,hMb,hMc,hMd,hMe,hMf⟩:=fresh6 s (U+60) (W+60) τp 0 0 0
 refine F12_calls _ _ _  ?_
 unfold F12
 refine al_t (M+1) fun r1 s2 ay af R az=>?_
 refine al_t (M+2) fun r3 s4 aA S o aB=>?_
 have n:=af.ch o (by simp)
 refine ld_t n rfl (ld_t n rfl (ld_t n rfl ?_))
 refine tcall (c_make (M+10) (M+12) G B N _ hv) ?_
 rintro aC aD ⟨ag,ah,ad,rfl,a,q,e⟩
 have am:=a.size
 refine dT2 (dSl_i (dInt_i ?_))
 refine jn_u ?_
 refine sB_f (by rfl) ?_
 intro _
 intros
 refine dSl_i ?_
 have hgb:1*8<=G*B/\G*B<=8*256:=⟨Nat.mul_le_mul (by omega) (by omega),Nat.mul_le_mul (by omega) (by omega)⟩
 have hrl:=(e).len
 rw [makeL_len (by omega)] at hrl
 refine tcall (c_plof3 U W τp m _ hU (q).sl e hrl (by omega) (by omega) hm) ?_
 rintro an ao ⟨ai,ae,aj,ak,al,rfl,b,f,g,h⟩
 have ap:=b.size
 refine dT2 (dPtr_i (dBl_i ?_))
 have c:=n.ch (a.app b) (by simp<;>omega)
 refine ld_t c rfl (ld_t c rfl (ld_t c rfl (sB_t (by rfl) ?_)))
 refine ⟨?_,?_⟩
 ·refine ⟨?_,?_⟩
  ·refine ld_t c rfl (ld_t c rfl (ld_t c rfl ?_))
   rfl
  have r:=S.ch (a.app b) (by simp<;>omega)
  refine st_t r rfl (by simp) fun aE t J aq=>?_
  have u:=on_ch r J
  refine st_t t rfl (by simp) fun aF w K ar=>?_
  have z:=on_ch t K
  refine st_t w rfl (by simp) fun aG i L au=>?_
  have A:=on_ch w L
  refine ld_t i rfl (ld_t i rfl (ld_t i rfl ?_))
  refine ret_t ?_
  have T:=(((R.app o).app a).app b)
  have j:=((u.app z).app A)
  have V:=f.ch j (by simp<;>omega)
  have X:=g.mv j (rngn50 (by simp<;>omega))
  have Y:=h.mv j (rngn50 (by simp<;>omega))
  exact ⟨_,_,_,_,_,rfl,(((((Ch.refl [U+11,W+10,W+11] s).ch T (by simp)).fr u hM (by simp)).fr z hM (by simp)).fr A hM (by simp)),V,X,Y⟩
 have C:=S.ch (a.app b) (by simp<;>omega)
 refine st_t C rfl (by simp) fun aH D O av=>?_
 have E:=on_ch C O
 refine st_t D rfl (by simp) fun aI F P aw=>?_
 have H:=on_ch D P
 refine st_t F rfl (by simp) fun aJ k Q ax=>?_
 have I:=on_ch F Q
 refine ld_t k rfl (ld_t k rfl (ld_t k rfl ?_))
 refine ret_t ?_
 have Z:=(((R.app o).app a).app b)
 have l:=((E.app H).app I)
 have aa:=f.ch l (by simp<;>omega)
 have ab:=g.mv l (rngn50 (by simp<;>omega))
 have ac:=h.mv l (rngn50 (by simp<;>omega))
 exact ⟨_,_,_,_,_,rfl,(((((Ch.refl [U+11,W+10,W+11] s).ch Z (by simp)).fr E hM (by simp)).fr H hM (by simp)).fr I hM (by simp)),aa,ab,ac⟩
theorem c_freshB3 (U W τp:Nat) (a b c:Int) (m:Int) (s:TH) (hU:10<=U) (hv: ¬canG a b c) (hτ:U+50<=W/\(τp<U∨U+50<=τp)/\(τp<W∨W+50<=τp)) (hm:0<=m/\m<=1000000000000000000):TRet Tryz.prog 12 #[.agg #[.int .i64 a,.int .i64 b,.int .i64 c]] s fun v s'=>∃p vp d x y,v=.tuple #[.pointer (some ⟨p,0,none⟩),.agg #[.int .i64 1,.int .i64 8,.int .i64 4],.bool true]/\Ch [U+11,W+10,W+11] s s'/\Blk s' p [.pointer (some ⟨d,0,none⟩),.pointer (some ⟨vp,0,none⟩),.pointer (some ⟨x,0,none⟩),.pointer (some ⟨y,0,none⟩)] 41 τp/\VolL s' vp d U (VolM.fresh (makeL 1 8 4)) 0/\YL s' y W (VolM.fresh (makeL 1 8 4)) m:=by
 have hv1:GeoOk 1 8 4:=by unfold GeoOk;omega
 obtain ⟨M,hM,hM0,hMa,hMb,hMc,hMd,hMe,hMf⟩:=fresh6 s (U+60) (W+60) τp 0 0 0
 refine F12_calls _ _ _  ?_
 unfold F12
 refine al_t (M+1) fun r1 s2 aR au ae aS=>?_
 refine al_t (M+2) fun r3 s4 aT af B aU=>?_
 have A:=au.ch B (by simp)
 refine ld_t A rfl (ld_t A rfl (ld_t A rfl ?_))
 refine tcall (c_makeN a b c _ hv) ?_
 rintro aV aW ⟨rfl,e⟩
 have aB:=e.size
 refine dT2 (dSl_i (dInt_i ?_))
 refine jn_u ?_
 refine sB_t (by rfl) ?_
 have C:=A.ch e (by simp)
 refine st_t C rfl (by simp) fun aX D T aC=>?_
 have i:=on_ch C T
 refine st_t D rfl (by simp) fun aY E V aD=>?_
 have j:=on_ch D V
 refine st_t E rfl (by simp) fun aZ k X aE=>?_
 have l:=on_ch E X
 refine ld_t k rfl (ld_t k rfl (ld_t k rfl ?_))
 refine tcall (c_make (M+10) (M+12) 1 8 4 _ hv1) ?_
 rintro aF aG ⟨av,aw,aq,rfl,f,F,n⟩
 have aH:=f.size
 refine dT2 (dSl_i (dInt_i ?_))
 intro _
 intros
 refine dSl_i ?_
 have hgb:1*8<=1*8/\1*8<=8*256:=⟨Nat.mul_le_mul (by omega) (by omega),Nat.mul_le_mul (by omega) (by omega)⟩
 have hrl:=(n).len
 rw [makeL_len (by omega)] at hrl
 refine tcall (c_plof3 U W τp m _ hU (F).sl n hrl (by omega) (by omega) hm) ?_
 rintro aI aJ ⟨ax,ar,ay,az,aA,rfl,g,o,q,r⟩
 have aK:=g.size
 refine dT2 (dPtr_i (dBl_i ?_))
 have h:=k.ch (f.app g) (by simp<;>omega)
 refine ld_t h rfl (ld_t h rfl (ld_t h rfl (sB_t (by rfl) ?_)))
 refine ⟨?_,?_⟩
 ·refine ⟨?_,?_⟩
  ·refine ld_t h rfl (ld_t h rfl (ld_t h rfl ?_))
   rfl
  have ag:=(((((e.app i).app j).app l).app f).app g)
  have G:=af.ch ag (by simp<;>omega)
  refine st_t G rfl (by simp) fun a0 H Y aL=>?_
  have I:=on_ch G Y
  refine st_t H rfl (by simp) fun a1 J Z aM=>?_
  have K:=on_ch H Z
  refine st_t J rfl (by simp) fun a2 t aa aN=>?_
  have L:=on_ch J aa
  refine ld_t t rfl (ld_t t rfl (ld_t t rfl ?_))
  refine ret_t ?_
  have ah:=((ae.app B).app e)
  have u:=((I.app K).app L)
  have ai:=o.ch u (by simp<;>omega)
  have aj:=q.mv u (rngn50 (by simp<;>omega))
  have ak:=r.mv u (rngn50 (by simp<;>omega))
  exact ⟨_,_,_,_,_,rfl,((((((((((Ch.refl [U+11,W+10,W+11] s).ch ah (by simp)).fr i hM (by simp)).fr j hM (by simp)).fr l hM (by simp)).ch f (by simp)).ch g (by simp)).fr I hM (by simp)).fr K hM (by simp)).fr L hM (by simp)),ai,aj,ak⟩
 have al:=(((((e.app i).app j).app l).app f).app g)
 have N:=af.ch al (by simp<;>omega)
 refine st_t N rfl (by simp) fun a3 O ab aO=>?_
 have P:=on_ch N ab
 refine st_t O rfl (by simp) fun a4 Q ac aP=>?_
 have R:=on_ch O ac
 refine st_t Q rfl (by simp) fun a5 w ad aQ=>?_
 have S:=on_ch Q ad
 refine ld_t w rfl (ld_t w rfl (ld_t w rfl ?_))
 refine ret_t ?_
 have am:=((ae.app B).app e)
 have z:=((P.app R).app S)
 have an:=o.ch z (by simp<;>omega)
 have ao:=q.mv z (rngn50 (by simp<;>omega))
 have ap:=r.mv z (rngn50 (by simp<;>omega))
 exact ⟨_,_,_,_,_,rfl,((((((((((Ch.refl [U+11,W+10,W+11] s).ch am (by simp)).fr i hM (by simp)).fr j hM (by simp)).fr l hM (by simp)).ch f (by simp)).ch g (by simp)).fr P hM (by simp)).fr R hM (by simp)).fr S hM (by simp)),an,ao,ap⟩
theorem c_fresh3 (U W τp:Nat) (a b c:Int) (m:Int) (s:TH) (hU:10<=U) (hτ:U+50<=W/\(τp<U∨U+50<=τp)/\(τp<W∨W+50<=τp)) (hm:0<=m/\m<=1000000000000000000):TRet Tryz.prog 12 #[.agg #[.int .i64 a,.int .i64 b,.int .i64 c]] s fun v s'=>∃(p vp d x y G B N:Nat),v=.tuple #[.pointer (some ⟨p,0,none⟩),.agg #[.int .i64 (G:Int),.int .i64 (B:Int),.int .i64 (N:Int)],.bool true]/\Ch [U+11,W+10,W+11] s s'/\GeoOk G B N/\Blk s' p [.pointer (some ⟨d,0,none⟩),.pointer (some ⟨vp,0,none⟩),.pointer (some ⟨x,0,none⟩),.pointer (some ⟨y,0,none⟩)] 41 τp/\VolL s' vp d U (VolM.fresh (makeL G B N)) 0/\YL s' y W (VolM.fresh (makeL G B N)) m:=by
 by_cases hc:canG a b c
 ·have hc2:=hc
  unfold canG at hc2
  obtain ⟨G,rfl⟩:=Int.eq_ofNat_of_zero_le (a:=a) (by omega)
  obtain ⟨B,rfl⟩:=Int.eq_ofNat_of_zero_le (a:=b) (by omega)
  obtain ⟨N,rfl⟩:=Int.eq_ofNat_of_zero_le (a:=c) (by omega)
  have hv:GeoOk G B N:=by unfold GeoOk;omega
  refine (c_freshA3 U W τp G B N m s hU hv hτ hm).mono ?_
  rintro v s' ⟨p,vp,d,x,y,rfl,h1,h2,h3,h4⟩
  exact ⟨p,vp,d,x,y,G,B,N,rfl,h1,hv,h2,h3,h4⟩
 refine (c_freshB3 U W τp a b c m s hU hc hτ hm).mono ?_
 rintro v s' ⟨p,vp,d,x,y,rfl,h1,h2,h3,h4⟩
 exact ⟨p,vp,d,x,y,1,8,4,rfl,h1,by unfold GeoOk;omega,h2,h3,h4⟩
theorem pend_free {P:PatchM} (ok:POk P) (b:Int):P.pend (P.free b)=P.free b:=
 srt_ext (ok.asrt.sublist List.filter_sublist) (free_srt ok b) fun i=>by
  unfold PatchM.pend
  rw [List.mem_filter]
  constructor
  ·intro h;simpa using h.2
  intro h;exact ⟨of_sub (free_sub h),by simpa using h⟩
theorem doneP_free {P:PatchM} (ok:POk P) (b:Int):P.doneP (P.free b)=(P.fin (P.free b),0):=by
 unfold PatchM.doneP
 rw [pend_free ok b,if_neg,if_pos]
 ·refine List.all_eq_true.2 fun i hi=>?_
  unfold PatchM.closed
  cases hx:P.find i with
  |none=>rfl
  |some x=>exact List.all_eq_true.2 fun n hn=>by simpa using free_closed hi hx n hn
 intro h
 obtain ⟨i,hi,h2⟩:=List.any_eq_true.1 h
 have h3:=of_sub (free_sub hi)
 unfold PatchM.all at h3
 obtain ⟨x,hx,rfl⟩:=List.mem_map.1 h3
 have:=ok.rng x hx
 unfold PatchM.knows at h2
 simp at h2
 omega
theorem ready_has {V:VolM} (has: ∀x∈V.P.l,V.D.has x.blk) {b:Int} (hb:b∈V.ready):V.D.has b:=by
 obtain ⟨x,hx,rfl⟩:=mem_blocks.1 (List.mem_filter.1 hb).1
 exact has x hx
theorem ready_free {V:VolM} {b:Int} (hb:b∈V.ready):V.P.free b≠[]/\V.going b=false:=by
 have h:=(List.mem_filter.1 hb).2
 cases hg:V.going b with
 |true=>rw [hg] at h;simp at h
 |false=>
  refine ⟨fun e=>?_,rfl⟩
  rw [e,hg] at h;cases h
theorem write_ready {V:VolM} (has: ∀x∈V.P.l,V.D.has x.blk) {b:Int} (hb:b∈V.ready) (hw:V.way.length<64):V.write b=(V.sent b,0):=by
 obtain ⟨h1,h2⟩:=ready_free hb
 unfold VolM.write
 rw [if_neg (by simpa using ready_has has hb),if_neg (by rw [h2];simp),if_neg h1,if_neg (by omega)]
theorem compl_t {V:VolM} (pok:POk V.P) (hw:V.way=[]) (b:Int):(V.sent b).compl 0 true=((V.sent b).landed 0 ⟨b,V.plan b,V.P.free b⟩,0):=by
 have e:(V.sent b).way=[(V.D.last+1,⟨b,V.plan b,V.P.free b⟩)]:=by show V.way++_=_;rw [hw];rfl
 unfold VolM.compl
 rw [if_neg (by rw [e];simp),e]
 show (_,((V.sent b).P.doneP (V.P.free b)).2)=_
 rw [show (V.sent b).P=V.P from rfl,doneP_free pok]
 rfl
theorem landed_has {V:VolM} {k:Nat} {b c:Int} {w:WayM}:((V.sent b).landed k w).D.has c↔V.D.has c:=by
 show (0<=c/\c<((V.D.blocks.set w.blk.toNat w.by_).length:Int))↔(0<=c/\c<(V.D.blocks.length:Int))
 rw [List.length_set]
theorem landed_l {V:VolM} (pok:POk V.P) {k:Nat} {b:Int}:((V.sent b).landed k ⟨b,V.plan b,V.P.free b⟩).P=V.P.fin (V.P.free b):=by show (V.P.doneP (V.P.free b)).1=_;rw [doneP_free pok]
theorem nodup_len {l:List Int} {n:Nat} (h:l.Nodup) (hr: ∀x∈l,0<=x/\x<n):l.length<=n:=by
 have hp:=List.mergeSort_perm l (fun x y=>decide (x<=y))
 have h1:(l.mergeSort fun x y=>decide (x<=y)).Pairwise (· <= ·):=by
  have:=List.pairwise_mergeSort (le:=fun x y:Int=>decide (x<=y)) (fun a b c h1 h2=>by simp at*;omega) (fun a b=>by simp;omega) l
  exact this.imp fun h=>by simpa using h
 have h2:(l.mergeSort fun x y=>decide (x<=y)).Nodup:=hp.nodup_iff.2 h
 have h3:(l.mergeSort fun x y=>decide (x<=y)).Pairwise (· < ·):=(h1.and h2).imp fun ⟨a,b⟩=>by omega
 have h4:=rise_len _ 0 ((n:Int) - 1) h3 (fun x hx=>by have:=hr x (hp.mem_iff.1 hx);omega) (by omega)
 rw [hp.length_eq] at h4
 omega
theorem kfind_snoc (l:List (Int×List UInt8)) (b c:Int) (y:List UInt8):kfind (l++[(b,y)]) c=match kfind l c with
  |some z=>some z
  |none=>if b=c then some y else none:=by
 unfold kfind
 rw [List.find?_append]
 cases h:l.find? fun e=>e.1==c with
 |some z=>rfl
 |none=>
  simp only [Option.none_or,Option.map_none]
  rw [List.find?_cons]
  by_cases hb:b=c
  ·rw [show ((b,y).1==c)=true by simpa using hb,if_pos hb];rfl
  ·rw [show ((b,y).1==c)=false by simpa using hb,if_neg hb];rfl
theorem kfind_none {l:List (Int×List UInt8)} {b:Int} (h:kfind l b=none):b∉l.map (·.1):=fun hm=>by
 obtain ⟨e,he,rfl⟩:=List.mem_map.1 hm
 unfold kfind at h
 rw [Option.map_eq_none_iff,List.find?_eq_none] at h
 exact h e he (by simp)
theorem now_ne {V V':VolM} {b o:Int} {y:List UInt8} {needs:List Int} (pok:POk V.P) (pok2:POk V'.P) (hD:V'.D=V.D) (e:V'.P.l=V.P.l++[V.P.newP b o y needs]) {c:Int} (hc:c≠b):V'.now c=V.now c:=by
 unfold VolM.now
 rw [over_of pok2,over_of pok,e,add_of_ne hc]
 unfold VolM.blk;rw [hD]
theorem VolL.pok {s:TH} {v d U:Nat} {V:VolM} {lk:Int} (h:VolL s v d U V lk):POk V.P:=by obtain ⟨⟨c,p,rw_,rk,mw,mk,h⟩,ok⟩:=h;exact h.ps.ok
theorem add_nil (P:PatchM) (b o:Int) (y:List UInt8):((P.add b o y []).2.2≠0/\(P.add b o y []).1=P)∨(fitsP b o y.length/\P.add b o y []=({ P with last:=P.last+1,l:=P.l++[P.newP b o y []] },P.last+1,0)):=by
 by_cases hf:fitsP b o y.length
 ·exact .inr ⟨hf,add_ok hf fun n hn=>(List.not_mem_nil hn).elim⟩
 have e:(P.add b o y []).2.2≠0:=by unfold PatchM.add;rw [if_pos (by simpa using hf)];exact (by decide:(1:Int)≠0)
 exact .inl ⟨e,add_err e⟩
structure SI (N:Nat) (V:VolM):Prop where
 way:V.way=[]
 old:V.old=⟨false,false,0,[]⟩
 has: ∀x∈V.P.l,V.D.has x.blk
 bl:V.D.blocks.length=N
theorem SI.fresh {bs:List (List UInt8)} {N:Nat} (h:bs.length=N):SI N (VolM.fresh bs):=⟨rfl,rfl,fun x hx=>(List.not_mem_nil hx).elim,h⟩
theorem SI.change {N:Nat} {V:VolM} (h:SI N V) (b o:Int) (y:List UInt8):SI N (V.change b o y []).1/\(V.change b o y []).1.P.last<=V.P.last+1/\(V.change b o y []).1.n<=V.n+1:=by
 have h1:V.first b=false:=by unfold VolM.first;rw [h.old];rfl
 have ht:V.ticks b=V.n:=by unfold VolM.ticks;rw [h1];rfl
 have hk:V.keep b=V.old:=by unfold VolM.keep;rw [h1];rfl
 unfold VolM.change
 by_cases hb:V.D.has b
 ·rw [if_neg (by simpa using hb)]
  rcases add_nil V.P b o y with ⟨e,_⟩|⟨_,e⟩
  ·rw [if_pos e,ht];exact ⟨⟨h.way,h.old,h.has,h.bl⟩,by show V.P.last<=_;omega,by show V.n<=_;omega⟩
  rw [if_neg (by rw [e];simp),ht,hk,e]
  refine ⟨⟨h.way,h.old,fun x hx=>?_,h.bl⟩,Int.le_refl _,by show V.n<=_;omega⟩
  rcases List.mem_append.1 hx with hx|hx
  ·exact h.has x hx
  rw [List.mem_singleton] at hx;subst hx;exact hb
 rw [if_pos hb];exact ⟨h,by show V.P.last<=_;omega,by show V.n<=_;omega⟩
structure FlI (N:Nat) (V V1:VolM):Prop where
 si:SI N (V1.compl 0 true).1
 lst:(V1.compl 0 true).1.P.last<=V.P.last
 n:(V1.compl 0 true).1.n<=V.n+1
theorem SI.none {N:Nat} {V:VolM} (h:SI N V):FlI N V V:=by
 have e:V.compl 0 true=(V,1):=by unfold VolM.compl;rw [if_pos (by rw [h.way];simp)]
 exact ⟨by rw [e];exact h,by rw [e];exact Int.le_refl _,by rw [e];show V.n<=_;omega⟩
theorem SI.wrote {N:Nat} {V:VolM} (h:SI N V) (pok:POk V.P) {b:Int} (hb:b∈V.ready):FlI N V (V.write b).1:=by
 have e:((V.sent b).landed 0 ⟨b,V.plan b,V.P.free b⟩).P=V.P.fin (V.P.free b):=landed_l pok
 rw [write_ready h.has hb (by rw [h.way];decide)]
 refine ⟨?_,?_,?_⟩<;>simp only<;>rw [compl_t pok h.way]
 ·refine ⟨by show (V.way++_).eraseIdx 0=[];rw [h.way];rfl,h.old,fun x hx=>?_,by show (V.D.blocks.set _ _).length=_;rw [List.length_set];exact h.bl⟩
  have hx:x∈((V.sent b).landed 0 ⟨b,V.plan b,V.P.free b⟩).P.l:=hx
  rw [e] at hx
  exact landed_has.2 (h.has x (List.mem_filter.1 hx).1)
 ·show ((V.sent b).landed 0 _).P.last<=_;rw [e];exact Int.le_refl _
 exact Int.le_refl _
structure FrS (W:Int->List UInt8) (N:Nat) (V:VolM):Prop where
 on:V.old.on=true
 br:V.old.broken=false
 room:(N:Int)<=V.old.room
 kn:(V.old.kept.map (·.1)).Nodup
 kh: ∀e∈V.old.kept,V.D.has e.1
 bl:V.D.blocks.length=N
 old: ∀b,V.D.has b->V.oldb b=W b
theorem FrS.start {N:Nat} {V:VolM} (h:SI N V) {room:Int} (h1:(N:Int)<=room) (h2:room<=65536):(V.freeze room).2=0/\FrS V.now N (V.freeze room).1/\(V.freeze room).1.n=V.n/\(V.freeze room).1.P.last=V.P.last:=by
 have e:V.freeze room=({ V with old:=⟨true,false,room,[]⟩ },0):=by
  unfold VolM.freeze
  rw [if_neg (by rw [h.old];simp),if_neg (by omega)]
 rw [e]
 exact ⟨rfl,⟨rfl,rfl,h1,List.nodup_nil,fun e he=>(List.not_mem_nil he).elim,h.bl,fun b hb=>rfl⟩,rfl,rfl⟩
theorem FrS.ticks {W:Int->List UInt8} {N:Nat} {V:VolM} (h:FrS W N V) (k:Int):FrS W N (V.tk k):=⟨h.on,h.br,h.room,h.kn,h.kh,h.bl,h.old⟩
theorem FrS.change {W:Int->List UInt8} {N:Nat} {V:VolM} (h:FrS W N V) (pok:POk V.P) (hl:V.P.last<1000000) (b o:Int) (y:List UInt8):FrS W N (V.change b o y []).1/\(V.change b o y []).1.P.last<=V.P.last+1/\(V.change b o y []).1.n<=V.n+1:=by
 have hticks:V.ticks b<=V.n+1:=by unfold VolM.ticks;split<;>omega
 unfold VolM.change
 by_cases hb:V.D.has b
 ·rw [if_neg (by simpa using hb)]
  rcases add_nil V.P b o y with ⟨e,_⟩|⟨hf,e⟩
  ·rw [if_pos e];exact ⟨⟨h.on,h.br,h.room,h.kn,h.kh,h.bl,h.old⟩,by show V.P.last<=_;omega,hticks⟩
  rw [if_neg (by rw [e];simp)]
  have pok2:POk (V.P.add b o y []).1:=by rw [e];exact pok.add hf hl
  have hfst:V.first b=(kfind V.old.kept b).isNone:=by unfold VolM.first;rw [h.on,h.br];rfl
  have hnow: ∀n K c,c≠b->({ V with n:=n,P:=(V.P.add b o y []).1,old:=K }:VolM).now c=V.now c:=fun n K c hc=>now_ne (V:=V) (V':={ V with n:=n,P:=(V.P.add b o y []).1,old:=K }) (b:=b) (o:=o) (y:=y) (needs:=[]) pok pok2 rfl (by show (V.P.add b o y []).1.l=_;rw [e]) hc
  have key:(V.keep b).on=true/\(V.keep b).broken=false/\(N:Int)<=(V.keep b).room/\((V.keep b).kept.map (·.1)).Nodup/\(∀x∈(V.keep b).kept,V.D.has x.1)/\(∀c,c≠b->kfind (V.keep b).kept c=kfind V.old.kept c)/\(∀d,(kfind (V.keep b).kept b).getD d=V.oldb b):=by
   unfold VolM.keep
   cases hk2:kfind V.old.kept b with
   |some z=>
    rw [if_neg (by rw [hfst,hk2];simp)]
    exact ⟨h.on,h.br,h.room,h.kn,h.kh,fun _ _=>rfl,fun d=>by unfold VolM.oldb;rw [hk2];rfl⟩
   |none=>
    have hnd:(V.old.kept.map (·.1)++[b]).Nodup:=List.nodup_append.2 ⟨h.kn,by simp,fun x hx y hy=>by rw [List.mem_singleton] at hy;subst hy;exact fun e=>kfind_none hk2 (e▸hx)⟩
    have hln:=nodup_len hnd (n:=N) fun x hx=>by
     rcases List.mem_append.1 hx with hx|hx
     ·obtain ⟨e,he,rfl⟩:=List.mem_map.1 hx
      have:=h.kh e he
      unfold DiskM.has at this;rw [h.bl] at this;exact this
     rw [List.mem_singleton] at hx;subst hx
     unfold DiskM.has at hb;rw [h.bl] at hb;exact hb
    rw [List.length_append,List.length_map,List.length_singleton] at hln
    rw [if_pos (by rw [hfst,hk2];rfl),if_pos (by have:=h.room;omega)]
    refine ⟨h.on,h.br,h.room,by rw [List.map_append];exact hnd,fun x hx=>?_,fun c hc=>?_,fun d=>?_⟩
    ·rcases List.mem_append.1 hx with hx|hx
     ·exact h.kh x hx
     rw [List.mem_singleton] at hx;subst hx;exact hb
    ·show kfind (V.old.kept++[(b,V.now b)]) c=_
     rw [kfind_snoc]
     cases kfind V.old.kept c with
     |some z=>rfl
     |none=>show (if b=c then _ else _)=_;rw [if_neg fun e=>hc e.symm]
    show (kfind (V.old.kept++[(b,V.now b)]) b).getD d=_
    rw [kfind_snoc,hk2]
    simp only [if_true,Option.getD_some]
    unfold VolM.oldb;rw [hk2];rfl
  obtain ⟨k1,k2,k3,k4,k5,k6,k7⟩:=key
  refine ⟨⟨k1,k2,k3,k4,k5,h.bl,fun c hc=>?_⟩,by show (V.P.add b o y []).1.last<=_;rw [e];exact Int.le_refl _,hticks⟩
  rw [←h.old c hc]
  by_cases e2:c=b
  ·subst e2;exact k7 _
  show (kfind (V.keep b).kept c).getD _=(kfind V.old.kept c).getD _
  rw [k6 c e2,hnow _ _ c e2]
 rw [if_pos hb];exact ⟨h,by show V.P.last<=_;omega,by show V.n<=_;omega⟩
def VolM.olds (V:VolM):List (List UInt8):=(List.range V.D.blocks.length).map fun (k:Nat)=>V.oldb (k:Int)
theorem FrS.olds {N:Nat} {V V0:VolM} (h:FrS V0.now N V) (h0:V0.D.blocks.length=N):V.olds=V0.nows:=by
 unfold VolM.olds VolM.nows
 rw [h.bl,h0]
 refine List.map_congr_left fun k hk=>h.old k ⟨by omega,?_⟩
 have:=List.mem_range.1 hk
 have:=h.bl
 omega
theorem FrS.frozen {W:Int->List UInt8} {N:Nat} {V:VolM} (h:FrS W N V) (room:Int):V.freeze room=(V,3):=by unfold VolM.freeze;rw [if_pos h.on]
theorem FrS.thaw {W:Int->List UInt8} {N:Nat} {V:VolM} (h:FrS W N V):V.thaw=({ V with old:=⟨false,false,0,[]⟩ },0):=by unfold VolM.thaw;rw [if_neg (by rw [h.on];simp)]
theorem c_flush (U W N:Nat) (V:VolM) (m:Int) (p vp d x y τp:Nat) (k:Int) (s:TH) (hU:10<=U) (hv:VolL s vp d U V 0) (hy:YL s y W V m) (hp:Blk s p [.pointer (some ⟨d,0,none⟩),.pointer (some ⟨vp,0,none⟩),.pointer (some ⟨x,0,none⟩),.pointer (some ⟨y,0,none⟩)] 41 τp) (hS:SI N V) (hb:V.P.last<=1000/\V.n<=100000/\m<=100000) (hτ:U+50<=W/\(τp<U∨U+50<=τp)/\(τp<W∨W+50<=τp)):TRet Tryz.prog 41 #[.pointer (some ⟨p,0,none⟩),.int .i64 k] s fun v s'=>∃V',v=.bool true/\Ch [U,U+1,U+10,U+11,U+12,U+13,U+14,U+20,U+21,U+22,U+23,U+31,U+32,W,W+1,W+10,W+11,W+12,W+13,W+14,W+20,W+21,W+30,W+31] s s'/\SI N V'/\V'.P.last<=V.P.last+1/\V'.n<=V.n+1/\VolL s' vp d U V' 0/\YL s' y W V' (m+1):=by
 obtain ⟨M,hM,hM0,hMa,hMb,hMc,hMd,hMe,hMf⟩:=fresh6 s (U+60) (W+60) τp 0 0 0
 refine F41_calls _ _  ?_
 unfold F41
 refine nz_i (ld_t hp rfl (dPtr_i (nz_i (ld_t hp rfl (dPtr_i ?_)))))
 refine tcall (c_VReady _ _ _ _ (M+1) _ (by omega) hv (by omega)) ?_
 rintro aA aB ⟨ab,ac,rfl,f,q,g⟩
 have aC:=f.size
 have hrl:=ready_len hv.pok
 have hrl2:(V.ready.length:Int)<=1000:=by omega
 refine dSl_i ?_
 refine ⟨?_,?_⟩
 ·have ad:=hp.ch f (by simp<;>omega)
  refine ld_t ad rfl (dPtr_i ?_)
  rfl
 have r:=hy.mv f (rngn50 (by simp<;>omega))
 refine tcall (c_yvready y W V m (M+3) _ (by omega) r) ?_
 rintro aD aE ⟨ae,af,rfl,a,t⟩
 have ag:=a.size
 refine dSl_i ?_
 have u:=q.mv a (tagn (by simp))
 refine tcall (c_eqInt _ _ (u).sl rfl (by omega) (t).sl rfl) ?_
 rintro ah h ⟨rfl,b⟩
 have ai:=b.size
 rw [decide_eq_true (rfl:V.ready=V.ready)]
 refine dBl_i (sB_f (by rfl) ?_)
 refine jn0 (fun s'=>Ch [U,U+1,U+10,U+11,U+12,U+13,U+14,U+20,U+21,U+22,U+23,U+31,U+32,W,W+1,W+10,W+11,W+12,W+13,W+14,W+20,W+21,W+30,W+31] h s'/\(∃V1,FlI N V V1/\VolL s' vp d U V1 0/\YL s' y W V1 (m+1))) ?_ ?_
 ·rintro  aj ⟨w,V1,hF,hv1,hy1⟩
  have ak:=w.size
  intro _
  intros
  refine nz_i ?_
  have z:=(((f.app a).app b).app w)
  have i:=hp.ch z (by simp<;>omega)
  refine ld_t i rfl (dPtr_i (nz_i (ld_t i rfl (dPtr_i ?_))))
  refine tcall (c_VComplete _ _ _ _ _ _ _ (by omega) hv1) ?_
  rintro al am ⟨rfl,c,A⟩
  have an:=c.size
  refine dInt_i ?_
  refine ⟨?_,?_⟩
  ·have F:=i.ch c (by simp<;>omega)
   refine ld_t F rfl (dPtr_i ?_)
   rfl
  have G:=hy1.mv c (rngn50 (by simp<;>omega))
  refine tcall (c_yvcomplete y W V1 (m+1) 0 _ (by omega) G) ?_
  rintro ao ap ⟨rfl,j,B⟩
  have aq:=j.size
  refine dInt_i ?_
  refine ret_t ?_
  have H:=((z.app c).app j)
  have I:=A.mv j (rngn50 (by simp<;>omega))
  exact ⟨_,ret_b (by simp),((Ch.refl [U,U+1,U+10,U+11,U+12,U+13,U+14,U+20,U+21,U+22,U+23,U+31,U+32,W,W+1,W+10,W+11,W+12,W+13,W+14,W+20,W+21,W+30,W+31] s).ch H (by simp)),hF.si,by have:=hF.lst;omega,hF.n,I,B⟩
 intro K_38 hK_38
 refine sB_d (fun J=>?_) (fun J=>?_)
 ·refine wr_a fun aF hn70=>?_
  rw [wrap_u64] at hn70
  refine wr_a fun aG hn71=>?_
  rw [wrap_u64] at hn71
  refine ask_t (by omega) ?_
  refine nm_a fun aH hn72=>?_
  have qn72:=tmod_rng (by omega) (by omega) hn72
  refine wr_t (by omega) ?_
  have C:=u.mv b (tagn (by simp))
  obtain ⟨ar,rfl⟩:=C.ne_none (by omega)
  refine nz_i (ask_t (by omega) ?_)
  refine ld_iv C.sl (by omega) (by omega) fun K L=>?_
  refine dInt_i (nz_i ?_)
  have O:=((f.app a).app b)
  have l:=hp.ch O (by simp<;>omega)
  refine ld_t l rfl (dPtr_i (nz_i (ld_t l rfl (dPtr_i ?_))))
  have Q:=g.mv (a.app b) (rngn50 (by simp))
  refine tcall (c_VWrite _ _ _ _ _ _ (by omega) Q (by omega)) ?_
  rintro au av ⟨rfl,e,D⟩
  have aw:=e.size
  refine dInt_i ?_
  refine ⟨?_,?_⟩
  ·have R:=l.ch e (by simp<;>omega)
   refine ld_t R rfl (dPtr_i ?_)
   rfl
  have S:=((a.app b).app e)
  have T:=r.mv S (rngn50 (by simp<;>omega))
  refine tcall (c_yvwrite y W V m K _ (by omega) T (by omega) (by omega)) ?_
  rintro ax ay ⟨rfl,o,E⟩
  have az:=o.size
  refine dInt_i ?_
  refine sB_nd (fun X=>by exfalso;omega) (fun X=>?_)
  refine hK_38 _ ⟨(((Ch.refl [U,U+1,U+10,U+11,U+12,U+13,U+14,U+20,U+21,U+22,U+23,U+31,U+32,W,W+1,W+10,W+11,W+12,W+13,W+14,W+20,W+21,W+30,W+31] h).ch e (by simp)).ch o (by simp)),?_⟩
  have Y:=D.mv o (rngn50 (by simp<;>omega))
  exact ⟨_,hS.wrote hv.pok (List.mem_of_getElem? L),Y,E⟩
 refine hK_38 _ ⟨(Ch.refl [U,U+1,U+10,U+11,U+12,U+13,U+14,U+20,U+21,U+22,U+23,U+31,U+32,W,W+1,W+10,W+11,W+12,W+13,W+14,W+20,W+21,W+30,W+31] h),?_⟩
 have Z:=g.mv (a.app b) (rngn50 (by simp))
 have aa:=r.mv (a.app b) (rngn50 (by simp))
 exact ⟨V,hS.none,Z,(aa).up (by omega) (by omega)⟩
structure DoL where
 op:Int
 b:Int
 off:Int
 ba:Option Addr
 bn:Nat
 bc:Nat
 by_:List UInt8
def dol4 (x:DoL):List Value:=[.int .i64 x.op,.int .i64 x.b,.int .i64 x.off,.slice x.ba x.bn x.bc]
theorem dol4_len (x:DoL):(dol4 x).length=4:=rfl
structure DoLI (s:TH) (τ:Nat) (x:DoL):Prop where
 sl:Sl s x.ba (bvs x.by_) τ
 len:x.by_.length=x.bn
 none_:x.ba=none->x.bn=0
 le:x.bn<=140737488351232
theorem DoLI.mv {s s':TH} {τ:Nat} {x:DoL} {B:Nat->Prop} (h:DoLI s τ x) (c:Chg B s s') (hn: ∀j,j<s.h.size->s.g j=τ->¬B j):DoLI s' τ x:=⟨h.sl.mv c hn,h.len,h.none_,h.le⟩
structure DosL (s:TH) (τ:Nat) (l:List DoL):Prop where
 at_: ∀x∈l,DoLI s τ x
theorem DosL.mv {s s':TH} {τ:Nat} {l:List DoL} {B:Nat->Prop} (h:DosL s τ l) (c:Chg B s s') (hn: ∀j,j<s.h.size->s.g j=τ->¬B j):DosL s' τ l:=⟨fun x hx=>(h.at_ x hx).mv c hn⟩
theorem lcell (n:Nat) (hn:n<4) {ls:List DoL} {k:Nat} {x:DoL} (h:ls[k]? =some x):(ls.flatMap dol4)[k*4+n]? =(dol4 x)[n]? :=fm_get dol4_len ls k n x h hn
theorem c_clone3 (τ:Nat) {xa:Option Addr} {xn:Nat} (xc:Nat) {l:List UInt8} {τx:Nat} {s:TH} (hx:Sl s xa (bvs l) τx) (hn:l.length=xn) (h0:xa=none->xn=0) (hb:xn<=140737488351232):TRet Tryz.prog 16 #[.slice xa xn xc] s fun v s'=>∃a' c',v=.slice a' xn c'/\Ch [] s s'/\Own s' a' xn c' 5 1 (bvs l) τ:=by
 obtain ⟨M,hM,hM0,hMa,hMb,hMc,hMd,hMe,hMf⟩:=fresh6 s τx τ 0 0 0 0
 refine F16_calls _ _ _  ?_
 unfold F16
 refine sB_i (fun c=>?_) (fun c=>?_)
 ·refine ret_t ?_
  have hxa:xa=none:=by simp_all
  have h0':=h0 hxa
  have hl:l=[]:=List.eq_nil_of_length_eq_zero (by omega)
  subst hl h0'
  exact ⟨none,0,rfl,(Ch.refl [] s),Own.nil _ _ _ _⟩
 refine al_t (M+1) fun r1 s2 i e a j=>?_
 have hO0:Own s2 (some ⟨r1,0,none⟩) 0 0 5 1 [] (M+1):=(e).own0 1
 have f:=hx.mv a (tagn (by simp))
 refine app_i u49 in5 rfl hO0 f (by rw [bvs_len];omega) (bvs_one l) h0 (by unfold maxLen;omega) fun g a1 c1 h d hnil=>?_
 have b:=d.ch hO0 (T:=[M+1]) (by simp)
 have k:=b.size
 refine dSl_i ?_
 have ho:=h
 rw [Nat.zero_add,List.nil_append] at ho
 simp only [Nat.zero_add]
 exact ret_t' (s':=remark g (M+1) τ) rfl ⟨_,_,rfl,remark_ch (((Ch.refl [] s).ch a (by simp)).fr b hM (by simp)) hM (by omega),ho.remark⟩
theorem c_ldoes (U W N:Nat) (V:VolM) (m:Int) (p vp d x y τp:Nat) (op b o:Int) {ba:Option Addr} {bn:Nat} (bc:Nat) {z:List UInt8} {τb:Nat} (s:TH) (hU:10<=U) (hv:VolL s vp d U V 0) (hy:YL s y W V m) (hp:Blk s p [.pointer (some ⟨d,0,none⟩),.pointer (some ⟨vp,0,none⟩),.pointer (some ⟨x,0,none⟩),.pointer (some ⟨y,0,none⟩)] 41 τp) (hS:SI N V) (hb:V.P.last<=1000/\V.n<=100000/\m<=100000) (hτ:U+50<=W/\(τp<U∨U+50<=τp)/\(τp<W∨W+50<=τp)) (hx:Sl s ba (bvs z) τb) (hxn:z.length=bn) (h0:ba=none->bn=0) (hbn:bn<=140737488351232) (hτb:(τb<U∨U+50<=τb)/\(τb<W∨W+50<=τb)):TRet Tryz.prog 13 #[.pointer (some ⟨p,0,none⟩),.agg #[.int .i64 op,.int .i64 b,.int .i64 o,.slice ba bn bc]] s fun v s'=>∃V',v=.bool true/\Ch [U,U+1,U+10,U+11,U+12,U+13,U+14,U+20,U+21,U+22,U+23,U+31,U+32,U+3,U+30,W,W+1,W+10,W+11,W+12,W+13,W+14,W+20,W+21,W+30,W+31] s s'/\SI N V'/\V'.P.last<=V.P.last+1/\V'.n<=V.n+1/\VolL s' vp d U V' 0/\YL s' y W V' (m+1):=by
 obtain ⟨M,hM,hM0,hMa,hMb,hMc,hMd,hMe,hMf⟩:=fresh6 s (U+60) (W+60) τp τb 0 0
 refine F13_calls _ _ _ _ _  ?_
 unfold F13
 refine al_t (M+1) fun r1 s2 ai B c aj=>?_
 refine ld_t B rfl (dSl_i ?_)
 have C:=hx.mv c (tagn (by simp))
 refine tcall (c_clone3 (M+4) bc C hxn h0 hbn) ?_
 rintro ak al ⟨T,X,rfl,a,i⟩
 have am:=a.size
 refine dSl_i ?_
 have f:=B.ch a (by simp)
 refine ld_t f rfl (dInt_i (ask_t (by omega) ?_))
 refine nm_a fun an hn14=>?_
 refine sB_d (fun D=>?_) (fun D=>?_)
 ·refine ld_t f rfl (dInt_i ?_)
  have E:=hv.mv (c.app a) (rngn50 (by simp))
  have F:=hy.mv (c.app a) (rngn50 (by simp))
  have G:=hp.ch (c.app a) (by simp)
  refine tcall (c_flush U W N V m p vp d x y τp b _ hU E F G hS hb hτ) ?_
  rintro Z aa ⟨Y,rfl,j,k,l,q,r,t⟩
  have ab:=j.size
  refine dBl_i ?_
  refine ret_t ?_
  have H:=((c.app a).app j)
  exact ⟨_,rfl,((Ch.refl [U,U+1,U+10,U+11,U+12,U+13,U+14,U+20,U+21,U+22,U+23,U+31,U+32,U+3,U+30,W,W+1,W+10,W+11,W+12,W+13,W+14,W+20,W+21,W+30,W+31] s).ch H (by simp)),k,l,q,r,t⟩
 refine nz_i ?_
 have u:=hp.ch (c.app a) (by simp)
 refine ld_t u rfl (dPtr_i (ld_t f rfl (dInt_i (ld_t f rfl (dInt_i ?_)))))
 have I:=hv.mv (c.app a) (rngn50 (by simp))
 refine tcall (c_VChange _ _ _ _ _ _ _ _ _ (by omega) I (i).sl hxn (sl_nil _ (M+20)) rfl (by omega) (by omega) (by omega) (by omega)) ?_
 rintro ac ad ⟨rfl,e,w⟩
 have ae:=e.size
 refine dT2 (dInt_i (dInt_i (nz_i ?_)))
 have J:=u.ch e (by simp<;>omega)
 refine ld_t J rfl (dPtr_i ?_)
 have g:=f.ch e (by simp<;>omega)
 refine ld_t g rfl (dInt_i (ld_t g rfl (dInt_i (ld_t g rfl (dSl_i ?_)))))
 have K:=((c.app a).app e)
 have L:=hy.mv K (rngn50 (by simp<;>omega))
 have O:=C.mv (a.app e) (tagn (by simp<;>omega))
 refine tcall (c_yvchange y W V m b o bc _ (by omega) L O hxn (by omega) hbn (by rw [hS.old])) ?_
 rintro af ag ⟨rfl,h,A⟩
 have ah:=h.size
 refine dT2 (dInt_i (dInt_i ?_))
 refine sB_d (fun Q=>?_) (fun Q=>by exfalso;omega)
 refine ret_t ?_
 have R:=((a.app e).app h)
 have S:=w.mv h (rngn50 (by simp<;>omega))
 obtain ⟨hc1,hc2,hc3⟩:=hS.change b o z
 exact ⟨_,ret_b (by simp),(((Ch.refl [U,U+1,U+10,U+11,U+12,U+13,U+14,U+20,U+21,U+22,U+23,U+31,U+32,U+3,U+30,W,W+1,W+10,W+11,W+12,W+13,W+14,W+20,W+21,W+30,W+31] s).ch c (by simp)).ch R (by simp)),hc1,hc2,hc3,S,(A).up (by omega) (by omega)⟩
theorem c_sdropG (sp σ vp:Nat) (a b c gen:Int) (s:TH) (hs:Blk s sp [.int .i32 0,.int .u32 0,.pointer (some ⟨vp,0,none⟩),.int .i64 a,.int .i64 b,.int .i64 c,.int .i64 gen,.bool true] 114 σ):TRet Tryz.prog 18 #[.pointer (some ⟨sp,0,none⟩)] s fun v s'=>v=.int .i64 100/\Ch [σ] s s'/\Blk s' sp [.int .i32 0,.int .u32 0,.pointer (some ⟨vp,0,none⟩),.int .i64 a,.int .i64 b,.int .i64 c,.int .i64 gen,.bool true] 114 σ:=by
 refine F18_calls _  ?_
 unfold F18
 refine tcall (c_stherG sp σ vp a b c gen _ hs) ?_
 rintro f g ⟨rfl,e,d⟩
 have h:=e.size
 refine dInt_i (sB_t (by rfl) ?_)
 refine ret_t ?_
 exact ⟨rfl,((Ch.refl [σ] s).ch e (by simp)),d⟩
theorem c_takeF (vp d U:Nat) (V:VolM) (a b c gen room:Int) (s:TH) (hv:VolL s vp d U V 0) (hU:10<=U) (hc:canG a b c) (hb:a*b<=V.D.blocks.length) (hgen:1<=gen/\gen<=1099511627776) (hf:V.freeze room=(V,3)):TRet Tryz.prog 14 #[.pointer (some ⟨vp,0,none⟩),.agg #[.int .i64 a,.int .i64 b,.int .i64 c],.int .i64 gen,.int .i64 room] s fun v s'=>v=.tuple #[.pointer none,.int .i64 3]/\Ch [U,U+3] s s'/\VolL s' vp d U V 0:=by
 have hab:1*8<=a*b:=Int.mul_le_mul (by unfold canG at hc;omega) (by unfold canG at hc;omega) (by omega) (by unfold canG at hc;omega)
 obtain ⟨M,hM,hM0,hMa,hMb,hMc,hMd,hMe,hMf⟩:=fresh6 s (U+60) 0 0 0 0 0
 refine F14_calls _ _ _ _ _ _  ?_
 unfold F14
 refine al_t (M+1) fun r1 s2 Q A q R=>?_
 have B:=hv.mv q (rngn50 (by simp))
 refine tcall (c_VBlocks2 _ _ _ _ _ (by omega) B) ?_
 rintro S T ⟨rfl,l,m⟩
 have W:=l.size
 refine dInt_i ?_
 refine sB_d (fun r=>by exfalso;omega) (fun r=>?_)
 refine jn_u ?_
 have e:=A.ch l (by simp<;>omega)
 refine ld_t e rfl (ld_t e rfl (ld_t e rfl ?_))
 refine tcall (gc_can a b c _) ?_
 rintro C E ⟨rfl,f⟩
 have F:=f.size
 rw [if_pos hc]
 refine dInt_i (sB_f (by rfl) ?_)
 have g:=e.ch f (by simp)
 refine ld_t g rfl (ld_t g rfl (ld_t g rfl ?_))
 have t:=m.mv f (rngn50 (by simp))
 refine tcall (c_VBlocks2 _ _ _ _ _ (by omega) t) ?_
 rintro G H ⟨rfl,i,n⟩
 have I:=i.size
 refine dInt_i ?_
 refine ⟨?_,?_⟩
 ·have j:=g.ch i (by simp<;>omega)
  refine ld_t j rfl (ld_t j rfl (ld_t j rfl ?_))
  rfl
 refine tcall (gc_blocks a b c hc _) ?_
 rintro J K ⟨rfl,k⟩
 have L:=k.size
 refine dInt_i ?_
 intro _
 intros
 refine dBl_i ?_
 refine sB_d (fun u=>by exfalso;omega) (fun u=>?_)
 refine jn_u ?_
 refine sB_d (fun w=>by exfalso;omega) (fun w=>?_)
 intro _
 intros
 refine dBl_i ?_
 refine sB_d (fun x=>by exfalso;omega) (fun x=>?_)
 have y:=n.mv k (rngn50 (by simp))
 refine tcall (c_VFreeze _ _ _ _ _ _ (by omega) y) ?_
 rintro N O ⟨rfl,o,p⟩
 have P:=o.size
 rw [hf]
 refine dInt_i (sB_t (by rfl) ?_)
 refine ret_t ?_
 have z:=(((((q.app l).app f).app i).app k).app o)
 exact ⟨rfl,((Ch.refl [U,U+3] s).ch z (by simp)),by have h:=p;rw [hf] at h;exact h⟩
theorem c_simage (sp σ vp:Nat) (a b c gen:Int) (d U N:Nat) (V:VolM) (W:Int->List UInt8) (τr τb:Nat) (s:TH) (hs:Blk s sp [.int .i32 0,.int .u32 0,.pointer (some ⟨vp,0,none⟩),.int .i64 a,.int .i64 b,.int .i64 c,.int .i64 gen,.bool false] 114 σ) (hv:VolL s vp d U V 0) (hU:10<=U) (hσ:σ<U∨U+50<=σ) (hc:canG a b c) (hab:a*b=(N:Int)) (hF:FrS W N V) (hn:V.n<100000000) (hτ:(τr<U∨U+50<=τr)/\(τb<U∨U+50<=τb)/\τr≠σ/\τb≠σ):TRet Tryz.prog 17 #[.pointer (some ⟨sp,0,none⟩)] s fun v s'=>∃ai ci hs,v=.tuple #[.slice ai N ci,.int .i64 0]/\Ch [σ,U,U+20,U+21,U+22,U+23] s s'/\Blk s' sp [.int .i32 0,.int .u32 0,.pointer (some ⟨vp,0,none⟩),.int .i64 a,.int .i64 b,.int .i64 c,.int .i64 gen,.bool false] 114 σ/\Own s' ai N ci 49 1 (hs.flatMap hd1) τr/\BRel s' τb hs V.olds/\VolL s' vp d U (V.tk N) 0:=by
 have hnb:=hv.p.choose_spec.choose_spec.choose_spec.choose_spec.choose_spec.choose_spec.dk.nb
 have hbl:=hF.bl
 obtain ⟨M,hM,hM0,hMa,hMb,hMc,hMd,hMe,hMf⟩:=fresh6 s σ (U+60) τr τb 0 0
 refine F17_calls _  ?_
 unfold F17
 refine tcall (c_sthere sp σ vp a b c gen _ hs) ?_
 rintro ab ac ⟨rfl,q,e⟩
 have ad:=q.size
 refine dInt_i (sB_f (by rfl) (nz_i (ld_t e rfl (ld_t e rfl (ld_t e rfl ?_)))))
 refine tcall (gc_blocks a b c hc _) ?_
 rintro ae r ⟨rfl,o⟩
 have P:=o.size
 rw [hab]
 refine dInt_i ?_
 refine ⟨fun vs H'=>∃s':TH,s'.h=H'/\∃pa pn pc i,vs=[.slice pa pn pc,.int .i64 i]/\Ch [σ,U,U+20,U+21,U+22,U+23,M+1] r s'/\(∃(kk:Nat) (hs:List Hd),i=kk/\pn=kk/\kk<=N/\Own s' pa pn pc 49 1 (hs.flatMap hd1) (M+1)/\BRel s' τb hs ((List.range kk).map fun (k:Nat)=>V.oldb (k:Int))/\VolL s' vp d U (V.tk kk) 0/\Blk s' sp [.int .i32 0,.int .u32 0,.pointer (some ⟨vp,0,none⟩),.int .i64 a,.int .i64 b,.int .i64 c,.int .i64 gen,.bool false] 114 σ),fun vs H'=>match vs with|[.slice pa pn pc,.int .i64 i]=>((N:Int) - i).toNat|_=>0,⟨r,rfl,_,_,_,_,rfl,Ch.refl _ _,?_⟩,?_⟩
 ·have A:=hv.mv (q.app o) (rngn50 (by simp<;>omega))
  have B:=e.ch o (by simp)
  exact ⟨0,[],rfl,rfl,by omega,Own.nil _ _ _ _,BRel.nil _ _,by rw [show ((0:Nat):Int)=0 from rfl,tk_zero];exact A,B⟩
 intro pa pn pc i
 iterate 21 intro _
 intro H_ hI_14
 obtain ⟨C,rfl,pa_,pn_,pc_,i_,hvs,l,kk,hs,rfl,rfl,hk,ho,hb,hv2,hs2⟩:=hI_14
 cases hvs
 have Q:=l.size
 refine sB_d (fun E=>?_) (fun E=>?_)
 ·refine tcall (c_sread sp σ vp a b c gen _ d U (V.tk pn) τb (pn:Int) hs2 hv2 hU hσ (by show V.n+_<_;omega) (show V.D.has _ from ⟨by omega,by omega⟩) (by omega)) ?_
  rintro R S ⟨j,t,w⟩
  have X:=j.size
  rcases w with ⟨h1,rfl,hv3⟩|⟨ax,cx,h1,h2,rfl,hv3,ho3⟩
  ·(rcases h1 with h1|h1;exact absurd (h1.symm.trans hF.on) (by simp);exact absurd (h1.symm.trans hF.br) (by simp))
  refine dT2 (dSl_i (dInt_i (sB_f (by rfl) ?_)))
  refine al_t (M+9) fun af ag Y F f Z=>?_
  have x:=ho.mv (j.app f) (tagn (by simp<;>omega))
  refine app_i u22 in49 rfl x (F).sl (m:=1) (k:=1) rfl (by intro u hu;simp at hu;subst hu;rfl) (by simp) (by unfold maxLen;omega) fun G pa2 pc2 H z _=>?_
  have g:=z.ch x (T:=[M+1]) (by simp)
  have aa:=g.size
  refine dSl_i (wr_t (by omega) ?_)
  have I:=(((l.app j).app f).app g)
  refine ⟨⟨G,rfl,_,_,_,_,rfl,((Ch.refl [σ,U,U+20,U+21,U+22,U+23,M+1] r).ch I (by simp)),?_⟩,?_⟩
  ·have J:=((j.app f).app g)
   have K:=hb.mv J (tagn (by simp<;>omega))
   have y:=ho3.mv (f.app g) (tagn (by simp<;>omega))
   have L:=hv3.mv (f.app g) (rngn50 (by simp<;>omega))
   have O:=t.ch (f.app g) (by simp<;>omega)
   exact ⟨pn+1,hs++[(ax,cx)],by omega,by omega,by omega,by have h:=H;simpa [hd1] using h,by rw [List.range_succ,List.map_append];exact (K).snoc ⟨(y).sl,by have:=(y).1;rw [bvs_len] at this;exact this⟩,by rw [show ((pn+1:Nat):Int)=(pn:Int)+1 by omega, ←tk_tick];exact L,O⟩
  simp only [];omega
 obtain rfl:pn=N:=by omega
 have hb9:=hb
 rw [←hbl] at hb9
 refine ret_t' (s':=remark C (M+1) τr) rfl ⟨_,_,_,rfl,remark_ch ((((Ch.refl [σ,U,U+20,U+21,U+22,U+23] s).ch q (by simp)).ch o (by simp)).fr l hM (by simp<;>omega)) hM (by omega),(hs2).keep (by omega),(ho).remark,hb9.keep (by omega),(hv2).keep (by omega)⟩
theorem w_sstays (U W:Nat) (a b c:Int) {a1:Option Addr} {n1:Nat} (c1:Nat) {ls:List DoL} {a2:Option Addr} {n2:Nat} (c2:Nat) {ls2:List DoL} {τ:Nat} {s:TH} (hU:10<=U) (hW:U+50<=W) (hq:Sl s a1 (ls.flatMap dol4) τ) (hd:DosL s τ ls) (hln:ls.length=n1) (hn1:n1<=17592186043904) (ha1:a1=none->n1=0) (hq2:Sl s a2 (ls2.flatMap dol4) τ) (hd2:DosL s τ ls2) (hln2:ls2.length=n2) (hn2:n2<=17592186043904) (ha2:a2=none->n2=0) (hτ:(τ<U∨U+50<=τ)/\(τ<W∨W+50<=τ)):TRet Tryz.prog 4 #[.agg #[.int .i64 a,.int .i64 b,.int .i64 c],.slice a1 n1 c1,.slice a2 n2 c2] s fun v s'=>v=.bool true/\Ch [U,U+1,U+3,U+10,U+11,U+12,U+13,U+14,U+20,U+21,U+22,U+23,U+30,U+31,U+32,W,W+1,W+10,W+11,W+12,W+13,W+14,W+20,W+21,W+30,W+31] s s':=by
 obtain ⟨M,hM,hM0,hMa,hMb,hMc,hMd,hMe,hMf⟩:=fresh6 s τ (U+60) (W+60) 0 0 0
 refine F4_calls _ _ _ _ _ _ _ _ _  ?_
 unfold F4
 refine al_t (M+1) fun r1 s2 di ak aE dj=>?_
 refine ld_t ak rfl (ld_t ak rfl (ld_t ak rfl ?_))
 refine tcall (c_fresh3 U W (M+10) a b c 0 _ hU (by omega) (by omega)) ?_
 rintro dk dl ⟨ab,d,f,aF,ac,g,j,ad,rfl,ae,aG,af,aH,aI⟩
 have dm:=ae.size
 have hg:=aG
 have hgb:=hg.gb
 have hfl:=fresh_len hg
 have hcan:=hg.can
 have hgbI:(g:Int)*(j:Int)=((g*j:Nat):Int):=(Int.natCast_mul g j).symm
 refine dT3 (dPtr_i (dA3 (dBl_i ?_)))
 have aJ:=ak.ch ae (by simp<;>omega)
 refine st_t aJ rfl (by simp) fun dn bH bf cI=>?_
 have y:=on_ch aJ bf
 refine st_t bH rfl (by simp) fun dp aK bg cJ=>?_
 have z:=on_ch bH bg
 refine st_t aK rfl (by simp) fun al bI bh cK=>?_
 have A:=on_ch aK bh
 refine sB_f (by rfl) ?_
 refine ⟨fun vs H'=>∃s':TH,s'.h=H'/\∃i,vs=[.int .i64 i]/\Ch [U,U+1,U+3,U+10,U+11,U+12,U+13,U+14,U+20,U+21,U+22,U+23,U+30,U+31,U+32,W,W+1,W+10,W+11,W+12,W+13,W+14,W+20,W+21,W+30,W+31,M+9] al s'/\(∃(kk qn:Nat) (V:VolM),i=kk/\kk<=n1/\qn<=kk/\qn<=20/\SI (g*j) V/\V.P.last<=qn/\V.n<=qn/\VolL s' d f U V 0/\YL s' ac W V (qn:Int)),fun vs H'=>match vs with|[.int .i64 i]=>((n1:Int) - i).toNat|_=>0,⟨al,rfl,_,rfl,Ch.refl _ _,?_⟩,?_⟩
 ·have aL:=((y.app z).app A)
  have bJ:=aH.mv aL (rngn50 (by simp<;>omega))
  have bK:=aI.mv aL (rngn50 (by simp<;>omega))
  exact ⟨0,0,_,rfl,by omega,by omega,by omega,SI.fresh hfl,Int.le_refl _,Int.le_refl _,bJ,bK⟩
 intro i
 iterate 16 intro _
 intro H_ hI_23
 obtain ⟨cL,rfl,i_,hvs,l,kk,qn,V,rfl,hk,hqk,hq20,hS,hl,hn,hv,hy⟩:=hI_23
 cases hvs
 have cM:=l.size
 refine sB_d (fun bL=>?_) (fun bL=>?_)
 ·obtain ⟨xx,hx⟩: ∃xx,ls[kk]? =some xx:=⟨ls[kk]'(by omega),by simp⟩
  obtain ⟨a,rfl⟩:=Option.ne_none_iff_exists'.1 (fun e=>absurd (ha1 e) (by omega))
  refine nz_i (ask_t (by omega) ?_)
  have aM:=(((((aE.app ae).app y).app z).app A).app l)
  have O:=hq.mv aM (tagn (by simp<;>omega))
  refine ld_sl O (by rw [Int.toNat_natCast];exact lcell 0 (by omega) hx) ?_
  refine ld_sl2 O (by rw [Int.toNat_natCast];exact lcell 1 (by omega) hx) ?_
  refine ld_sl2 O (by rw [Int.toNat_natCast];exact lcell 2 (by omega) hx) ?_
  refine ld_sl2 O (by rw [Int.toNat_natCast];exact lcell 3 (by omega) hx) ?_
  refine al_t (M+9) fun dq dr cN aN B cO=>?_
  refine st_t aN rfl (by simp) fun ds aO bi cP=>?_
  have C:=on_ch aN bi
  refine st_t aO rfl (by simp) fun dt aP bj cQ=>?_
  have E:=on_ch aO bj
  refine st_t aP rfl (by simp) fun du aQ bk cR=>?_
  have F:=on_ch aP bk
  refine st_t aQ rfl (by simp) fun cb Q bm cS=>?_
  have G:=on_ch aQ bm
  refine jn_u ?_
  refine sB_d (fun bM=>?_) (fun bM=>?_)
  ·refine ld_t Q rfl (ld_t Q rfl (ld_t Q rfl (ld_t Q rfl ?_)))
   have bN:=(((((aM.app B).app C).app E).app F).app G)
   have bO:=hd.mv bN (tagn (by simp<;>omega))
   have hi:=(bO).at_ xx (List.mem_of_getElem? hx)
   have aR:=((((B.app C).app E).app F).app G)
   have bP:=hv.mv aR (rngn50 (by simp<;>omega))
   have bQ:=hy.mv aR (rngn50 (by simp<;>omega))
   have bR:=((((((((y.app z).app A).app l).app B).app C).app E).app F).app G)
   have bS:=af.ch bR (by simp<;>omega)
   refine tcall (c_ldoes U W (g*j) V (qn:Int) ab d f aF ac (M+10) xx.op xx.b xx.off xx.bc _ hU bP bQ bS hS (by omega) (by omega) hi.sl hi.len hi.none_ hi.le (by omega)) ?_
   rintro cT bT ⟨cc,rfl,aS,aT,cd,ce,aU,aV⟩
   have cU:=aS.size
   refine dBl_i ?_
   intro _
   intros
   refine dBl_i (sB_f (by rfl) (wr_t (by omega) ?_))
   have bU:=((((((l.app B).app C).app E).app F).app G).app aS)
   refine ⟨⟨bT,rfl,_,rfl,((Ch.refl [U,U+1,U+3,U+10,U+11,U+12,U+13,U+14,U+20,U+21,U+22,U+23,U+30,U+31,U+32,W,W+1,W+10,W+11,W+12,W+13,W+14,W+20,W+21,W+30,W+31,M+9] al).ch bU (by simp)),?_⟩,?_⟩
   ·exact ⟨kk+1,qn+1,_,by omega,by omega,by omega,by omega,aT,by omega,by omega,aU,aV⟩
   simp only [];omega
  intro _
  intros
  refine dBl_i (sB_f (by rfl) (wr_t (by omega) ?_))
  have bV:=(((((l.app B).app C).app E).app F).app G)
  refine ⟨⟨cb,rfl,_,rfl,((Ch.refl [U,U+1,U+3,U+10,U+11,U+12,U+13,U+14,U+20,U+21,U+22,U+23,U+30,U+31,U+32,W,W+1,W+10,W+11,W+12,W+13,W+14,W+20,W+21,W+30,W+31,M+9] al).ch bV (by simp)),?_⟩,?_⟩
  ·have aW:=((((B.app C).app E).app F).app G)
   have bW:=hv.mv aW (rngn50 (by simp<;>omega))
   have bX:=hy.mv aW (rngn50 (by simp<;>omega))
   exact ⟨kk+1,qn,V,by omega,by omega,by omega,by omega,hS,hl,hn,bW,bX⟩
  simp only [];omega
 have bY:=(((y.app z).app A).app l)
 have aX:=af.ch bY (by simp<;>omega)
 refine tcall (c_pnow2 ab d f U V _ _ _ (M+10) (M+16) (M+17) _ hU hv aX (by omega) (by omega)) ?_
 rintro cV bZ ⟨cf,cg,b7,rfl,L,aY,ag,aZ⟩
 have cW:=L.size
 have hNl:=hS.bl
 obtain ⟨Vt,hVt⟩: ∃Vt,Vt=V.tk V.D.blocks.length:=⟨_,rfl⟩
 have hvt:VolL bZ d f U Vt 0:=by rw [hVt];exact aZ
 have hSt:SI (g*j) Vt:=by rw [hVt];exact ⟨hS.way,hS.old,hS.has,hS.bl⟩
 have hnows:V.nows=Vt.nows:=by rw [hVt];rfl
 rw [hnows] at ag
 have hnt:Vt.n<=2068:=by rw [hVt];show V.n+_<=_;omega
 have hlt:Vt.P.last<=20:=by rw [hVt];show V.P.last<=_;omega
 obtain ⟨hf0,hF0,hF1,hF2⟩:=FrS.start hSt (room:=65536) (by omega) (by omega)
 have hbt:=hSt.bl
 refine dSl_i (nz_i ?_)
 have ah:=aX.ch L (by simp<;>omega)
 refine ld_t ah rfl (dPtr_i ?_)
 have R:=bI.ch (l.app L) (by simp<;>omega)
 refine ld_t R rfl (ld_t R rfl (ld_t R rfl ?_))
 refine tcall (c_take d f U Vt _ _ _ 1 65536 _ hvt hU hcan (by rw [hgbI,hbt];omega) (by omega) hf0 (M+14) (by omega)) ?_
 rintro cX w ⟨k,rfl,H,a0,a3⟩
 have cY:=H.size
 obtain ⟨V0,hV0⟩: ∃V0,V0=(Vt.freeze 65536).1:=⟨_,rfl⟩
 have hv0:VolL w d f U V0 0:=by rw [hV0];exact a3
 rw [←hV0] at hF0 hF1 hF2
 refine dT2 (dPtr_i (dInt_i (sB_f (by rfl) ?_)))
 refine jn0 (fun s'=>Ch [U,U+1,U+3,U+10,U+11,U+12,U+13,U+14,U+20,U+21,U+22,U+23,U+30,U+31,U+32,W,W+1,W+10,W+11,W+12,W+13,W+14,W+20,W+21,W+30,W+31,M+9,M+14] w s'/\(∃V3,FrS Vt.now (g*j) V3/\VolL s' d f U V3 0/\Blk s' k [.int .i32 0,.int .u32 0,.pointer (some ⟨d,0,none⟩),.int .i64 (g:Int),.int .i64 (j:Int),.int .i64 (ad:Int),.int .i64 1,.bool false] 114 (M+14))) ?_ ?_
 ·rintro  cZ ⟨S,V3,hF3,hv3,hs3⟩
  have c0:=S.size
  intro _
  intros
  refine nz_i ?_
  have a4:=ah.ch (H.app S) (by simp<;>omega)
  refine ld_t a4 rfl (dPtr_i ?_)
  have T:=R.ch (H.app S) (by simp<;>omega)
  refine ld_t T rfl (ld_t T rfl (ld_t T rfl ?_))
  refine tcall (c_takeF d f U V3 _ _ _ 2 5 _ hv3 hU hcan (by rw [hgbI];have:=hF3.bl;omega) (by omega) (hF3.frozen 5)) ?_
  rintro c3 c4 ⟨rfl,X,a5⟩
  have c5:=X.size
  refine dT2 (dPtr_i (dInt_i ?_))
  refine jn_u ?_
  refine sB_f (by rfl) ?_
  have b0:=hs3.ch X (by simp<;>omega)
  refine tcall (c_sdrop k (M+14) d _ _ _ 1 _ f U V3 b0 a5 hU (by omega) (by rw [hF3.thaw])) ?_
  rintro c6 b1 ⟨rfl,ai,a6,a7⟩
  have c7:=ai.size
  obtain ⟨V4,hV4⟩: ∃V4,V4=V3.thaw.1:=⟨_,rfl⟩
  have hv4:VolL b1 d f U V4 0:=by rw [hV4];exact a7
  have h4f:(V4.freeze 5).2=0:=by rw [hV4,hF3.thaw];rfl
  have h4b:V4.D.blocks.length=g*j:=by rw [hV4,hF3.thaw];exact hF3.bl
  refine dInt_i (sB_f (by rfl) ?_)
  refine tcall (c_sdropG k (M+14) d _ _ _ 1 _ a6) ?_
  rintro c8 c9 ⟨rfl,Y,ci⟩
  have da:=Y.size
  refine dInt_i ?_
  intro _
  intros
  refine dBl_i (sB_f (by rfl) (nz_i ?_))
  have a8:=((X.app ai).app Y)
  have b2:=a4.ch a8 (by simp<;>omega)
  refine ld_t b2 rfl (dPtr_i ?_)
  have aj:=T.ch a8 (by simp<;>omega)
  refine ld_t aj rfl (ld_t aj rfl (ld_t aj rfl ?_))
  have b3:=hv4.mv Y (rngn50 (by simp<;>omega))
  refine tcall (c_take d f U V4 _ _ _ 2 5 _ b3 hU hcan (by rw [hgbI];omega) (by omega) h4f (M+40) (by omega)) ?_
  rintro ck db ⟨b8,rfl,am,a9,cj⟩
  have cl:=am.size
  refine dT2 (dPtr_i (dInt_i (sB_t (by rfl) ?_)))
  refine tcall (c_sgen _ _ _ _ _ _ _ _ false a9) ?_
  rintro cm cn ⟨rfl,an⟩
  have co:=an.size
  refine dInt_i ?_
  refine ret_t ?_
  exact ⟨rfl,(((((((((((((((Ch.refl [U,U+1,U+3,U+10,U+11,U+12,U+13,U+14,U+20,U+21,U+22,U+23,U+30,U+31,U+32,W,W+1,W+10,W+11,W+12,W+13,W+14,W+20,W+21,W+30,W+31] s).ch aE (by simp)).ch ae (by simp)).fr y hM (by simp)).fr z hM (by simp)).fr A hM (by simp)).fr l hM (by simp<;>omega)).ch L (by simp)).ch H (by simp)).fr S hM (by simp<;>omega)).ch X (by simp)).fr ai hM (by simp<;>omega)).fr Y hM (by simp)).ch am (by simp)).ch an (by simp))⟩
 intro K_109 hK_109
 refine ⟨fun vs H'=>∃s':TH,s'.h=H'/\∃i,vs=[.int .i64 i]/\Ch [U,U+1,U+3,U+10,U+11,U+12,U+13,U+14,U+20,U+21,U+22,U+23,U+30,U+31,U+32,W,W+1,W+10,W+11,W+12,W+13,W+14,W+20,W+21,W+30,W+31,M+9,M+14] w s'/\(∃(kk:Nat) (V:VolM),i=kk/\kk<=n2/\kk<=21/\FrS Vt.now (g*j) V/\V.P.last<=20+kk/\V.n<=3000+3000*kk/\VolL s' d f U V 0/\Blk s' k [.int .i32 0,.int .u32 0,.pointer (some ⟨d,0,none⟩),.int .i64 (g:Int),.int .i64 (j:Int),.int .i64 (ad:Int),.int .i64 1,.bool false] 114 (M+14)),fun vs H'=>match vs with|[.int .i64 i]=>((n2:Int) - i).toNat|_=>0,⟨w,rfl,_,rfl,Ch.refl _ _,?_⟩,?_⟩
 ·exact ⟨0,V0,rfl,by omega,by omega,hF0,by omega,by omega,hv0,a0⟩
 intro i
 iterate 37 intro _
 intro H_ hI_111
 obtain ⟨cp,rfl,i_,hvs,o,kk,V,rfl,hk,hk21,hF,hl,hn,hv,hs⟩:=hI_111
 cases hvs
 have cq:=o.size
 refine sB_d (fun bn=>?_) (fun bn=>?_)
 ·obtain ⟨xx,hx⟩: ∃xx,ls2[kk]? =some xx:=⟨ls2[kk]'(by omega),by simp⟩
  obtain ⟨a,rfl⟩:=Option.ne_none_iff_exists'.1 (fun e=>absurd (ha2 e) (by omega))
  refine nz_i (ask_t (by omega) ?_)
  have Z:=((((((((aE.app ae).app y).app z).app A).app l).app L).app H).app o)
  have cr:=hq.mv Z (tagn (by simp<;>omega))
  have I:=hq2.mv Z (tagn (by simp<;>omega))
  refine ld_sl I (by rw [Int.toNat_natCast];exact lcell 0 (by omega) hx) ?_
  refine ld_sl2 I (by rw [Int.toNat_natCast];exact lcell 1 (by omega) hx) ?_
  refine ld_sl2 I (by rw [Int.toNat_natCast];exact lcell 2 (by omega) hx) ?_
  refine ld_sl2 I (by rw [Int.toNat_natCast];exact lcell 3 (by omega) hx) ?_
  refine al_t (M+9) fun dc dd cs ao p ct=>?_
  refine st_t ao rfl (by simp) fun de ap ba cu=>?_
  have q:=on_ch ao ba
  refine st_t ap rfl (by simp) fun df aq bb cv=>?_
  have r:=on_ch ap bb
  refine st_t aq rfl (by simp) fun dg ar bd cw=>?_
  have t:=on_ch aq bd
  refine st_t ar rfl (by simp) fun dh x be cx=>?_
  have u:=on_ch ar be
  refine sB_d (fun bo=>?_) (fun bo=>?_)
  ·have bp:=(((((o.app p).app q).app r).app t).app u)
   refine hK_109 _ ⟨((Ch.refl [U,U+1,U+3,U+10,U+11,U+12,U+13,U+14,U+20,U+21,U+22,U+23,U+30,U+31,U+32,W,W+1,W+10,W+11,W+12,W+13,W+14,W+20,W+21,W+30,W+31,M+9,M+14] w).ch bp (by simp)),?_⟩
   have au:=((((p.app q).app r).app t).app u)
   have bq:=hv.mv au (rngn50 (by simp<;>omega))
   have br:=hs.ch au (by simp)
   exact ⟨V,hF,bq,br⟩
  refine nz_i ?_
  have av:=((((((H.app o).app p).app q).app r).app t).app u)
  have aw:=ah.ch av (by simp<;>omega)
  refine ld_t aw rfl (dPtr_i (ld_t x rfl (dInt_i (ld_t x rfl (dInt_i (ld_t x rfl (dSl_i ?_)))))))
  have bs:=(((((Z.app p).app q).app r).app t).app u)
  have bt:=hd2.mv bs (tagn (by simp<;>omega))
  have hi:=(bt).at_ xx (List.mem_of_getElem? hx)
  refine tcall (c_clone3 (M+22) xx.bc hi.sl hi.len hi.none_ hi.le) ?_
  rintro cy cz ⟨b9,ca,rfl,m,az⟩
  have cA:=m.size
  refine dSl_i ?_
  refine ⟨?_,?_⟩
  ·have bu:=x.ch m (by simp)
   refine ld_t bu rfl (dInt_i ?_)
   rfl
  refine ⟨?_,?_⟩
  ·have bv:=x.ch m (by simp)
   refine ld_t bv rfl (dInt_i ?_)
   rfl
  refine ⟨?_,?_⟩
  ·have bw:=aw.ch m (by simp)
   refine ld_t bw rfl (dPtr_i ?_)
   rfl
  have ax:=(((((p.app q).app r).app t).app u).app m)
  have bx:=hv.mv ax (rngn50 (by simp<;>omega))
  refine tcall (c_VChange _ _ _ _ _ _ _ _ _ (by omega) bx (az).sl hi.len (sl_nil _ (M+26)) rfl (by omega) (by omega) (by omega) (by omega)) ?_
  rintro cB bz ⟨rfl,J,aA⟩
  have cC:=J.size
  obtain ⟨hF1b,hF2b,hF3b⟩:=hF.change hv.pok (by omega) xx.b xx.off xx.by_
  obtain ⟨V2,hV2⟩: ∃V2,V2=(V.change xx.b xx.off xx.by_ []).1:=⟨_,rfl⟩
  have hv2:VolL bz d f U V2 0:=by rw [hV2];exact aA
  rw [←hV2] at hF1b hF2b hF3b
  refine dT2 (dInt_i (dInt_i ?_))
  have bA:=hs.ch (ax.app J) (by simp<;>omega)
  refine tcall (c_simage k (M+14) d _ _ _ 1 f U (g*j) V2 Vt.now (M+30) (M+32) _ bA hv2 hU (by omega) hcan hgbI hF1b (by omega) (by omega)) ?_
  rintro cD cE ⟨b4,b5,b6,rfl,aa,aB,aC,N,aD⟩
  have cF:=aa.size
  have hol:=hF1b.olds hbt
  rw [hol] at N
  have hnl:Vt.nows.length=(g*j):=by unfold VolM.nows;simp [hbt]
  refine dT2 (dSl_i (dInt_i ?_))
  refine jn_u ?_
  refine sB_f (by rfl) ?_
  have ay:=(((av.app m).app J).app aa)
  have bB:=aY.mv ay (tagn (by simp<;>omega))
  have bC:=ag.mv ay (tagn (by simp<;>omega))
  refine tcall (c_same _ _ _ _ _ (aC).sl (bB).sl N bC hnl (by omega) (by omega)) ?_
  rintro cG bD ⟨rfl,K⟩
  have cH:=K.size
  refine dBl_i ?_
  intro _
  intros
  refine dBl_i (sB_f (by rfl) (wr_t (by omega) ?_))
  have bE:=(((((((((o.app p).app q).app r).app t).app u).app m).app J).app aa).app K)
  refine ⟨⟨bD,rfl,_,rfl,((Ch.refl [U,U+1,U+3,U+10,U+11,U+12,U+13,U+14,U+20,U+21,U+22,U+23,U+30,U+31,U+32,W,W+1,W+10,W+11,W+12,W+13,W+14,W+20,W+21,W+30,W+31,M+9,M+14] w).ch bE (by simp)),?_⟩,?_⟩
  ·have bF:=aD.mv K (rngn50 (by simp))
   have bG:=aB.ch K (by simp)
   exact ⟨kk+1,V2.tk (g*j),by omega,by omega,by omega,hF1b.ticks _,by show V2.P.last<=_;omega,by show V2.n+_<=_;omega,bF,bG⟩
  simp only [];omega
 refine hK_109 _ ⟨((Ch.refl [U,U+1,U+3,U+10,U+11,U+12,U+13,U+14,U+20,U+21,U+22,U+23,U+30,U+31,U+32,W,W+1,W+10,W+11,W+12,W+13,W+14,W+20,W+21,W+30,W+31,M+9,M+14] w).ch o (by simp)),?_⟩
 exact ⟨V,hF,hv,hs⟩
end Go.Proofs.YtkaikaodhegmhaaGreat.E
namespace Go.Proofs.YtkaikaodhegmhaaGreat.E
open Go Go.WideShapes
set_option linter.unusedVariables false
def Rd {H:Type} (enc:TypeId×Value->H) (P:Program) (W:World) (t:TypeId) (row:List Value):Prop:=∃fuel y,DataW.trod enc P W 0 (fun _=>true) true fuel t row=some y
section
variable {H :Type} {enc:TypeId×Value->H} {P:Program} {W:World} {t e:TypeId} {row:List Value}
theorem rd_int {k:IntKind} (ht:P.underlying t=some (.int k)) (h:Rd enc P W t row): ∃x,row=[.int k x]/\(Lit.int k x).wf=true:=by
 obtain ⟨f,y,h⟩:=h
 obtain ⟨n,h1,_,h2⟩:=DataW.trod_int ht h
 exact ⟨n,h1,h2⟩
theorem flat_get {k:Nat}: ∀ {rows:List (List Value)},(∀r∈rows,r.length=k)->∀ {j:Nat} {v:Value},rows.flatten[j]? =some v->∃i m r,j=i*k+m/\m<k/\rows[i]? =some r/\r[m]? =some v
 |[],_,j,v,h=>by simp at h
 |r::rows,hk,j,v,h=>by
  rw [List.flatten_cons] at h
  have hr:=hk r (by simp)
  by_cases hj:j<k
  ·rw [List.getElem?_append_left (by omega)] at h
   exact ⟨0,j,r,by omega,hj,by simp,h⟩
  rw [List.getElem?_append_right (by omega)] at h
  obtain ⟨i,m,r',h1,h2,h3,h4⟩:=flat_get (fun r' h'=>hk r' (List.mem_cons_of_mem _ h')) h
  exact ⟨i+1,m,r',by rw [Nat.add_mul,Nat.one_mul];omega,h2,by simpa using h3,h4⟩
theorem sl_rows {a:Addr} {k:Nat} {rows:List (List Value)} (hk: ∀r∈rows,r.length=k) (h: ∀i r,rows[i]? =some r->∀m,m<k->W.cell? ((a.add (i*k)).add m)=r[m]?):Sl ⟨W.heap,fun _=>0⟩ (some a) rows.flatten 0:=by
 by_cases he:rows.flatten=[]
 ·exact .inl he
 right
 have h0: ∃v,W.cell? a=some v:=by
  obtain ⟨v,hv⟩: ∃v,rows.flatten[0]? =some v:=by
   cases hf:rows.flatten with
   |nil=>exact absurd hf he
   |cons v l=>exact ⟨v,by simp⟩
  obtain ⟨i,m,r,h1,h2,h3,h4⟩:=flat_get hk hv
  obtain rfl:m=0:=by omega
  have hi:i*k=0:=by omega
  have:=h i r h3 0 h2
  rw [hi] at this
  refine ⟨v,?_⟩
  rw [←h4, ←this]
  simp [Addr.add]
 obtain ⟨v0,hv0⟩:=h0
 obtain ⟨g,o,sp⟩:=a
 have hsp:sp=none:=by
  cases sp with
  |none=>rfl
  |some x=>
   rw [cell_eq] at hv0
   unfold cellH at hv0
   split at hv0<;>simp at hv0
 subst hsp
 have hlt:g<W.heap.size:=by
  rw [cell_eq] at hv0
  unfold cellH at hv0
  split at hv0
  ·rename_i hg;exact (Array.getElem?_eq_some_iff.1 hg).1
  cases hv0
 refine ⟨g,o,rfl,hlt,rfl,fun j v hv=>?_⟩
 obtain ⟨i,m,r,h1,h2,h3,h4⟩:=flat_get hk hv
 have:=h i r h3 m h2
 rw [add_mk,add_mk,h4,cell_eq] at this
 rw [h1, ←Nat.add_assoc];exact this
theorem rd_sl (ht:P.underlying t=some (.slice e)) (h:Rd enc P W t row): ∃(a:Option Addr) (n c:Nat) (rows:List (List Value)),row=[.slice a n c]/\n<=c/\c<=maxLen/\(a=none->n=0)/\rows.length=n/\(∀r∈rows,r.length=P.cellsOf e/\Rd enc P W e r)/\Sl ⟨W.heap,fun _=>0⟩ a rows.flatten 0:=by
 obtain ⟨f,y,h⟩:=h
 rcases DataW.trod_slice ht h with ⟨h0,_⟩|⟨a,len,cap,elems,rest,n,rfl,rfl,rfl,hb,hl,hm,hlen,hel,_⟩
 ·exact ⟨none,0,0,[],h0,by omega,by omega,fun _=>rfl,rfl,fun r hr=>(List.not_mem_nil hr).elim,.inl rfl⟩
 have hrow: ∀i,i<len->∃r,W.cells? 0 (a.add (i*P.cellsOf e)) (P.cellsOf e)=some r/\Rd enc P W e r:=fun i hi=>by
  have h1:=hel i hi
  rw [List.getElem?_eq_getElem (by omega)] at h1
  obtain ⟨r,h2,h3⟩:=Option.bind_eq_some_iff.1 h1
  exact ⟨r,h2,n,_,h3⟩
 let rows:=(List.range len).map fun i=>(W.cells? 0 (a.add (i*P.cellsOf e)) (P.cellsOf e)).getD []
 have hget: ∀i r,rows[i]? =some r->W.cells? 0 (a.add (i*P.cellsOf e)) (P.cellsOf e)=some r/\Rd enc P W e r:=fun i r hr=>by
  have hi:i<len:=by
   have:=(List.getElem?_eq_some_iff.1 hr).1
   simpa [rows] using this
  obtain ⟨r',h1,h2⟩:=hrow i hi
  simp [rows,hi,h1] at hr
  subst hr;exact ⟨h1,h2⟩
 have hmem: ∀r∈rows,r.length=P.cellsOf e/\Rd enc P W e r:=fun r hr=>by
  obtain ⟨i,hi⟩:=List.getElem?_of_mem hr
  obtain ⟨h1,h2⟩:=hget i r hi
  exact ⟨(World.cells?_some h1).2.1,h2⟩
 exact ⟨some a,len,cap,rows,rfl,hl,hm,(fun h=>by cases h),by simp [rows],hmem,sl_rows (fun r hr=>(hmem r hr).1) fun i r hr m hm=>(World.cells?_some (hget i r hr).1).2.2 m hm⟩
theorem rd_bytes (ht:P.underlying t=some (.slice e)) (he:P.underlying e=some (.int .u8)) (h:Rd enc P W t row): ∃(a:Option Addr) (n c:Nat) (ls:List UInt8),row=[.slice a n c]/\n<=c/\c<=maxLen/\(a=none->n=0)/\ls.length=n/\Sl ⟨W.heap,fun _=>0⟩ a (bvs ls) 0:=by
 obtain ⟨a,n,c,rows,h1,h2,h3,h4,h5,h6,h7⟩:=rd_sl ht h
 have hx: ∀l:List (List Value),(∀r∈l,r.length=P.cellsOf e/\Rd enc P W e r)->∃ls:List UInt8,ls.length=l.length/\l.flatten=bvs ls:=by
  intro l
  induction l with
  |nil=>intro _;exact ⟨[],rfl,rfl⟩
  |cons r l ih=>
   intro hr
   obtain ⟨ls,k1,k2⟩:=ih fun r' h'=>hr r' (List.mem_cons_of_mem _ h')
   obtain ⟨x,rfl,hw⟩:=rd_int he (hr r (by simp)).2
   have e1:IntKind.u8.min=0:=by decide
   have e2:IntKind.u8.max=255:=by decide
   simp only [Lit.wf,e1,e2,Bool.and_eq_true,decide_eq_true_eq] at hw
   refine ⟨UInt8.ofNat x.toNat::ls,by simp [k1],?_⟩
   have:bv (UInt8.ofNat x.toNat)=.int .u8 x:=by
    unfold bv
    have:(UInt8.ofNat x.toNat).toNat=x.toNat%256:=rfl
    rw [this]
    congr 1
    omega
   simp [k2,bvs,this]
 obtain ⟨ls,k1,k2⟩:=hx rows h6
 exact ⟨a,n,c,ls,h1,h2,h3,h4,by omega,by rw [←k2];exact h7⟩
theorem open_v {v:Value} {a:Option Addr} {n c:Nat} {r:Reach} {b0:Nat} (ht:P.underlying t=some (.slice e)) (hval:Value.okWide P W r b0 t v) (h:v.cells.toList=[.slice a n c]):v=.slice a n c:=by
 obtain ⟨a',n',c',rfl⟩:=okWide_slice ht hval
 simp [Value.cells] at h
 obtain ⟨rfl,rfl,rfl⟩:=h;rfl
end
end Go.Proofs.YtkaikaodhegmhaaGreat.E
namespace Go.Proofs.YtkaikaodhegmhaaGreat.E
open Go Go.WideShapes Go.ChangeShapes
set_option linter.unusedVariables false
section
variable {H :Type} {enc:TypeId×Value->H} {P:Program} {W:World} {t e:TypeId} {row:List Value}
theorem weightsEach_get {B:Nat}: ∀ {ts:List TypeId} {ds:List (DataW H)} {i:Nat} {t:TypeId} {d:DataW H},ts[i]? =some t->ds[i]? =some d->(∀x∈DataW.weightsEach P ts ds,x<=B)->∀x∈d.weights P t,x<=B
 |[],_,i,t,d,h1,_,_=>by simp at h1
 |t0::ts,[],i,t,d,_,h2,_=>by simp at h2
 |t0::ts,d0::ds,0,t,d,h1,h2,h=>by
  simp at h1 h2;subst h1 h2
  intro x hx;exact h x (by unfold DataW.weightsEach;exact List.mem_append_left _ hx)
 |t0::ts,d0::ds,i+1,t,d,h1,h2,h=>by
  simp at h1 h2
  exact weightsEach_get h1 h2 fun x hx=>h x (by unfold DataW.weightsEach;exact List.mem_append_right _ hx)
theorem weightsAll_mem {B:Nat}: ∀ {ds:List (DataW H)} {d:DataW H},d∈ds->(∀x∈DataW.weightsAll P e ds,x<=B)->∀x∈d.weights P e,x<=B
 |d0::ds,d,hd,h=>by
  rcases List.mem_cons.1 hd with rfl|hd
  ·intro x hx;exact h x (by unfold DataW.weightsAll;exact List.mem_append_left _ hx)
  exact weightsAll_mem hd fun x hx=>h x (by unfold DataW.weightsAll;exact List.mem_append_right _ hx)
theorem weights_all {ts:List TypeId} {ds:List (DataW H)} (h:(DataW.weightsEach P ts ds).all (· <=reachBytes)=true): ∀x∈DataW.weightsEach P ts ds,x<=reachBytes:=fun x hx=>by
 have:=List.all_eq_true.1 h x hx;simpa using this
def Rdw {H:Type} (enc:TypeId×Value->H) (P:Program) (W:World) (t:TypeId) (row:List Value):Prop:=∃fuel y,DataW.trod enc P W 0 (fun _=>true) true fuel t row=some y/\∀x∈y.1.weights P t,x<=reachBytes
theorem Rdw.rd (h:Rdw enc P W t row):Rd enc P W t row:=by obtain ⟨f,y,h,_⟩:=h;exact ⟨f,y,h⟩
theorem rdw_of {v:Value} {d:DataW H} {ps:List MemPlace} (h:DataW.Trod enc P W 0 (fun _=>true) true t v d ps) (hw: ∀x∈d.weights P t,x<=reachBytes):Rdw enc P W t v.cells.toList:=by
 obtain ⟨f,h⟩:=h;exact ⟨f,_,h,hw⟩
theorem rdw_struct {fs:Array Field} (ht:P.underlying t=some (.struct fs)) (h:Rdw enc P W t row):row.length=P.cellsOf t/\∀(i:Nat) (f:Field),fs[i]? =some f->Rdw enc P W f.type ((row.drop f.offset).take (P.cellsOf f.type)):=by
 obtain ⟨f,y,h,hw⟩:=h
 obtain ⟨xs,n,rfl,rfl,h1,h2,h3⟩:=DataW.trod_struct ht h
 refine ⟨h1,fun i f hf=>?_⟩
 have hi:i<xs.length:=by rw [h2];exact (Array.getElem?_eq_some_iff.1 hf).1
 refine ⟨n,xs[i],by rw [h3 i f hf];simp [hi],?_⟩
 unfold DataW.weights at hw
 rw [ht] at hw
 refine weightsEach_get (ts:=fs.toList.map (·.type)) (ds:=xs.map (·.1)) (i:=i) ?_ (by simp [hi]) hw
 rw [List.getElem?_map,Array.getElem?_toList,hf];rfl
theorem rdw_sl (ht:P.underlying t=some (.slice e)) (h:Rdw enc P W t row): ∃(a:Option Addr) (n c:Nat) (rows:List (List Value)),row=[.slice a n c]/\n<=c/\n*P.bytesOf e<=reachBytes/\(a=none->n=0)/\rows.length=n/\(∀r∈rows,r.length=P.cellsOf e/\Rdw enc P W e r)/\Sl ⟨W.heap,fun _=>0⟩ a rows.flatten 0:=by
 obtain ⟨f,y,h,hw⟩:=h
 rcases DataW.trod_slice ht h with ⟨h0,_⟩|⟨a,len,cap,elems,rest,n,rfl,rfl,rfl,hb,hl,hm,hlen,hel,_⟩
 ·exact ⟨none,0,0,[],h0,by omega,by simp,fun _=>rfl,rfl,fun r hr=>(List.not_mem_nil hr).elim,.inl rfl⟩
 unfold DataW.weights at hw
 rw [ht] at hw
 simp only [List.length_map] at hw
 have hbig:len*P.bytesOf e<=reachBytes:=by
  have h1:=hw ((elems.length+rest.length)*P.bytesOf e) (by simp)
  have h2:len*P.bytesOf e<=(elems.length+rest.length)*P.bytesOf e:=Nat.mul_le_mul_right _ (by omega)
  omega
 have hrow: ∀i,i<len->∃r,W.cells? 0 (a.add (i*P.cellsOf e)) (P.cellsOf e)=some r/\Rdw enc P W e r:=fun i hi=>by
  have h1:=hel i hi
  rw [List.getElem?_eq_getElem (by omega)] at h1
  obtain ⟨r,h2,h3⟩:=Option.bind_eq_some_iff.1 h1
  refine ⟨r,h2,n,_,h3,weightsAll_mem (ds:=elems.map (·.1)) (List.mem_map.2 ⟨_,List.getElem_mem _,rfl⟩) fun x hx=>hw x ?_⟩
  exact List.mem_cons_of_mem _ (List.mem_append_left _ hx)
 let rows:=(List.range len).map fun i=>(W.cells? 0 (a.add (i*P.cellsOf e)) (P.cellsOf e)).getD []
 have hget: ∀i r,rows[i]? =some r->W.cells? 0 (a.add (i*P.cellsOf e)) (P.cellsOf e)=some r/\Rdw enc P W e r:=fun i r hr=>by
  have hi:i<len:=by
   have:=(List.getElem?_eq_some_iff.1 hr).1
   simpa [rows] using this
  obtain ⟨r',h1,h2⟩:=hrow i hi
  simp [rows,hi,h1] at hr
  subst hr;exact ⟨h1,h2⟩
 have hmem: ∀r∈rows,r.length=P.cellsOf e/\Rdw enc P W e r:=fun r hr=>by
  obtain ⟨i,hi⟩:=List.getElem?_of_mem hr
  obtain ⟨h1,h2⟩:=hget i r hi
  exact ⟨(World.cells?_some h1).2.1,h2⟩
 exact ⟨some a,len,cap,rows,rfl,hl,hbig,(fun h=>by cases h),by simp [rows],hmem,sl_rows (fun r hr=>(hmem r hr).1) fun i r hr m hm=>(World.cells?_some (hget i r hr).1).2.2 m hm⟩
end
theorem rih_sized {H:Type} {enc:TypeId×Value->H} {a:Assume} {C:Checked} {os:Os} {f:FuncId} {fn:Func} {s:ChangeSpec} {conds:List PathCond} {apart fresh handsOn again:Bool}
  (own:ownKnob C.prog.godebug=none) (started:os.Started) (noInit:C.prog.inits.idxOf? f=none) (hfn:C.prog.funcs[f]? =some fn)
  (witness: ∃(w:World) (tape:Tape) (i:Input),w.os=os/\(w.forCall tape i).Shaped C.prog/\i.vars=[]/\Input.okWide C.prog (w.forCall tape i) .any w.heap.size f i/\
   s.pre6 enc C.prog fn conds apart (w.forCall tape i).memory i.args/\a.holds C.prog (lone (Frame.enter C.prog f i.args .normal) [] (w.forCall tape i)))
  (contract: ∀(W:World) (base:Nat) (args:Array Value) (ds gs:List (DataW H)) (before:List MemPlace),
   (∀(j:Nat) t v,fn.params[j]? =some t->args[j]? =some v->Value.okWide C.prog W .any base t v)->
   DataW.Whole enc C.prog fn.params.toList s.vars apart W args.toList ds gs before->
   (DataW.weightsEach C.prog (fn.params.toList++s.plain.varTypes C.prog) (ds++gs)).all (· <=reachBytes)=true->
   Calls C.prog f args W fun e W'=>∃v,e=.returned v/\s.post enc C.prog fn apart fresh handsOn again W args v W'):
  ReturnsInHanded a C os f .any (s.pre6 enc C.prog fn conds apart) (s.post enc C.prog fn apart fresh handsOn again):=by
 refine returnsInHanded_of_calls own started noInit witness ?_
 intro w tape i _ _ _ hok hpre _
 obtain ⟨_,_,_,fn',hfn',_,_,_,_,hval⟩:=hok
 have e:fn'=fn:=Option.some.inj (hfn'.symm.trans hfn)
 subst e
 obtain ⟨⟨ds,gs,before,hw,_⟩,hz⟩:=hpre
 have hw':=DataW.Whole.of_heap (w':=w.forCall tape i) (by rfl) hw
 refine (contract (w.forCall tape i) w.heap.size i.args ds gs before hval hw' (hz.weights hw)).mono fun e W' ⟨v,he,hp⟩=>?_
 subst he
 exact ChangeSpec.post_blind hp
end Go.Proofs.YtkaikaodhegmhaaGreat.E
namespace Go.Proofs.YtkaikaodhegmhaaGreat.E
open Go Go.WideShapes
set_option linter.unusedVariables false
set_option maxRecDepth 100000 in
theorem rdw_dol {H:Type} {enc:TypeId×Value->H} {W:World} {row:List Value} (h:Rdw enc Tryz.prog W 51 row): ∃x:DoL,row=dol4 x/\DoLI ⟨W.heap,fun _=>0⟩ 0 x:=by
 obtain ⟨hl,hf⟩:=rdw_struct Tryz.underlying51 h
 have hc:Tryz.prog.cellsOf 51=4:=by kernel_rfl
 have c3:Tryz.prog.cellsOf 3=1:=by kernel_rfl
 have cb:Tryz.prog.cellsOf 49=1:=by kernel_rfl
 rw [hc] at hl
 match row,hl with
 |[v0,v1,v2,v3],_=>
  have h0:Rdw enc Tryz.prog W 3 (([v0,v1,v2,v3].drop 0).take (Tryz.prog.cellsOf 3)):=hf 0 _ rfl
  have h1:Rdw enc Tryz.prog W 3 (([v0,v1,v2,v3].drop 1).take (Tryz.prog.cellsOf 3)):=hf 1 _ rfl
  have h2:Rdw enc Tryz.prog W 3 (([v0,v1,v2,v3].drop 2).take (Tryz.prog.cellsOf 3)):=hf 2 _ rfl
  have h3:Rdw enc Tryz.prog W 49 (([v0,v1,v2,v3].drop 3).take (Tryz.prog.cellsOf 49)):=hf 3 _ rfl
  rw [c3] at h0 h1 h2
  rw [cb] at h3
  obtain ⟨x0,e0,_⟩:=rd_int Tryz.underlying3 h0.rd
  obtain ⟨x1,e1,_⟩:=rd_int Tryz.underlying3 h1.rd
  obtain ⟨x2,e2,_⟩:=rd_int Tryz.underlying3 h2.rd
  obtain ⟨ba,bn,bc,by_,e4,b1,b2,b3,b4,b5⟩:=rd_bytes Tryz.underlying49 Tryz.underlying5 h3.rd
  obtain ⟨ba',bn',bc',_,e4',_,b6,_⟩:=rdw_sl Tryz.underlying49 h3
  rw [e4] at e4'
  cases e4'
  have h1b:Tryz.prog.bytesOf 5=1:=by kernel_rfl
  rw [h1b] at b6
  unfold reachBytes at b6
  have b7:bn<=140737488351232:=by omega
  simp at e0 e1 e2 e4
  subst e0 e1 e2 e4
  exact ⟨⟨x0,x1,x2,ba,bn,bc,by_⟩,rfl,b5,b4,b3,b7⟩
theorem rdw_dols {H:Type} {enc:TypeId×Value->H} {W:World}: ∀ {rows:List (List Value)},(∀r∈rows,r.length=Tryz.prog.cellsOf 51/\Rdw enc Tryz.prog W 51 r)->∃ls:List DoL,ls.length=rows.length/\rows.flatten=ls.flatMap dol4/\DosL ⟨W.heap,fun _=>0⟩ 0 ls
 |[],_=>⟨[],rfl,rfl,⟨fun x hx=>(List.not_mem_nil hx).elim⟩⟩
 |r::rows,h=>by
  obtain ⟨ls,h1,h2,h3⟩:=rdw_dols (rows:=rows) fun r' h'=>h r' (List.mem_cons_of_mem _ h')
  obtain ⟨x,rfl,hx⟩:=rdw_dol (h r (by simp)).2
  refine ⟨x::ls,by simp [h1],by simp [h2],⟨fun y hy=>?_⟩⟩
  rcases List.mem_cons.1 hy with rfl|hy
  ·exact hx
  exact h3.at_ y hy
end Go.Proofs.YtkaikaodhegmhaaGreat.E
namespace Go.Proofs.YtkaikaodhegmhaaGreat.E
open Go Go.RowKit
set_option linter.unusedVariables false
theorem walkB {P:Program} {f:FuncId} {args:Array Value} {W:World}
  (h:TRet P f args ⟨W.heap,fun _=>0⟩ fun v s'=>v=.bool true/\Ch [] ⟨W.heap,fun _=>0⟩ s'):
  Calls P f args W fun e W'=>e=.returned (.bool true)/\Below W.heap.size W W':=
 (h W rfl).mono fun e w' ⟨⟨v,s',he,hs,hv,hc⟩,hl⟩=>
  ⟨by rw [he,hv],⟨hl.os,hl.tape,hl.output,by rw [←hs];exact hc.size,fun k hk=>by rw [←hs];exact hc.get k hk (by simp)⟩⟩
theorem walkT {P:Program} {f:FuncId} {args:Array Value} {W:World} {T:List Nat} (hT:0∉T)
  (h:TRet P f args ⟨W.heap,fun _=>0⟩ fun v s'=>v=.bool true/\Ch T ⟨W.heap,fun _=>0⟩ s'):
  Calls P f args W fun e W'=>e=.returned (.bool true)/\Below W.heap.size W W':=
 walkB (h.mono fun v s' ⟨h1,h2⟩=>⟨h1,Chg.mono h2 fun j _ hB=>absurd hB hT⟩)
end Go.Proofs.YtkaikaodhegmhaaGreat.E
namespace Go.Proofs.YtkaikaodhegmhaaGreat.E
open Go
def kindsOf (P:Program) (fn:Func) (c:OpenClaim):List (Option IntKind):=if c.domain.isEmpty then [] else fn.params.toList.map fun t=>match P.underlying t with|some (.int k)=>some k|_=>none
theorem andb {a b:Bool} (h:a=true) (k:b=true):(a&&b)=true:=by rw [h,k];rfl
theorem joined_of {P:Program} {f:FuncId} {fn:Func} {s:ChangeSpec} {c:OpenClaim}
  (j0:(c.wf (OpenSpec.ofChange s))=true)
  (j1:(laidOutB P)=true)
  (j2:(mapsRowed P)=true)
  (j3:(fn.params.all (P.readableRec ·))=true)
  (j4:(namedTie P c.named s.vars)=true)
  (j5:((c.stops==[]))=true)
  (j6:((P.stops==[]))=true)
  (j7:((c.knobs==[]))=true)
  (j8:((P.stopKnobs==[]))=true)
  (j9:((c.inPlace==P.inPlace f))=true)
  (j10:((c.unfollowed==P.unfollowed f))=true)
  (j11:((c.recurses==P.recurses f))=true)
  (j12:((c.named==P.varsNamed f))=true)
  (j13:((c.maps==(fn.params.toList++s.plain.varTypes P).any (P.mapsRec ·)))=true)
  (j14:((c.ifaces==(fn.params.toList++s.plain.varTypes P).any (P.ifacesRec ·)))=true)
  (j15:((c.mapsOut==P.mapsAmong fn.resultTypes.toList))=true)
  (j16:((c.loops==(fn.params.toList++s.plain.varTypes P).any (P.loopsFrom ·)))=true)
  (j17:((c.wideKeys==(fn.params.toList++s.plain.varTypes P++fn.resultTypes.toList).any (P.wideKeysFrom ·)))=true)
  (j18:(s.vars.all (P.varReadable ·))=true)
  (j19:(fn.resultTypes.all (fun t=>P.readableRec t&&decide (t<P.types.size)))=true)
  (j20:((c.ifacesOut==fn.resultTypes.toList.any (P.ifacesRec ·)))=true)
  (j21:((c.loopsOut==fn.resultTypes.toList.any (P.loopsFrom ·)))=true)
  (j22:((c.plainKeys==P.plainKeys))=true)
  (j23:(c.shortTexts.isNone)=true)
  (j24:(P.stopsHeard)=true)
  (j25:(P.mayEnter)=true)
  (j26:((c.lifted==P.liftsFinal))=true)
  (j27:((P.make==some c.make))=true)
  (j28:((c.kinds==kindsOf P fn c))=true)
  (j29:((c.pinned==c.pinnedBy))=true)
  (j30:((c.veiled==(fn.params.toList++s.plain.varTypes P++fn.resultTypes.toList).any (P.veiledRec ·)))=true)
  (j31:(c.veiledFits P fn.params.toList (fn.params.toList++s.plain.varTypes P++fn.resultTypes.toList))=true)
  :joinedFacts P f fn s c=true:=by
 unfold joinedFacts
 exact (andb (andb (andb (andb (andb (andb (andb (andb (andb (andb (andb (andb (andb (andb (andb (andb (andb (andb (andb (andb (andb (andb (andb (andb (andb (andb (andb (andb (andb (andb (andb j0 j1) j2) j3) j4) j5) j6) j7) j8) j9) j10) j11) j12) j13) j14) j15) j16) j17) j18) j19) j20) j21) j22) j23) j24) j25) j26) j27) j28) j29) j30) j31)
end Go.Proofs.YtkaikaodhegmhaaGreat.E
