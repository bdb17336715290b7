/- My own texts, joined. -/
import Derived.KernelRfl
import Derived.Test.YtkaikaodhegmhaaGreatProg
import Derived.Test.YtkaikaodhegmhaaGreatSS12
namespace Go.Proofs.YtkaikaodhegmhaaGreat.E
open Go Go.Proofs Go.RowKit Go.Maps Go.Shelf Go.Sort
set_option linter.unusedVariables false
set_option linter.unusedSimpArgs false
def ypc (e:PatM×Hd×Hd):List Value:=[.int .i64 e.1.id,.int .i64 e.1.blk,.int .i64 e.1.off,.slice e.2.1.1 e.1.by_.length e.2.1.2,.slice e.2.2.1 e.1.needs.length e.2.2.2]
theorem ypc_len (e:PatM×Hd×Hd):(ypc e).length=5:=rfl
theorem ycell0 {es:List (PatM×Hd×Hd)} {m:Nat} {x:PatM×Hd×Hd} (h:es[m]? =some x):(es.flatMap ypc)[m*5]? =some (.int .i64 x.1.id):=fm_get ypc_len es m 0 x h (by omega)
theorem ycell1 {es:List (PatM×Hd×Hd)} {m:Nat} {x:PatM×Hd×Hd} (h:es[m]? =some x):(es.flatMap ypc)[m*5+1]? =some (.int .i64 x.1.blk):=fm_get ypc_len es m 1 x h (by omega)
theorem ycell2 {es:List (PatM×Hd×Hd)} {m:Nat} {x:PatM×Hd×Hd} (h:es[m]? =some x):(es.flatMap ypc)[m*5+2]? =some (.int .i64 x.1.off):=fm_get ypc_len es m 2 x h (by omega)
theorem ycell3 {es:List (PatM×Hd×Hd)} {m:Nat} {x:PatM×Hd×Hd} (h:es[m]? =some x):(es.flatMap ypc)[m*5+3]? =some (.slice x.2.1.1 x.1.by_.length x.2.1.2):=fm_get ypc_len es m 3 x h (by omega)
theorem ycell4 {es:List (PatM×Hd×Hd)} {m:Nat} {x:PatM×Hd×Hd} (h:es[m]? =some x):(es.flatMap ypc)[m*5+4]? =some (.slice x.2.2.1 x.1.needs.length x.2.2.2):=fm_get ypc_len es m 4 x h (by omega)
structure YPts (s:TH) (τ:Nat) (es:List (PatM×Hd×Hd)):Prop where
 at_: ∀e∈es,Sl s e.2.1.1 (bvs e.1.by_) τ/\Sl s e.2.2.1 (ivs e.1.needs) τ
theorem YPts.mv {s s':TH} {τ:Nat} {es:List (PatM×Hd×Hd)} {B:Nat->Prop} (h:YPts s τ es) (c:Chg B s s') (hn: ∀j,j<s.h.size->s.g j=τ->¬B j):YPts s' τ es:=⟨fun e he=>⟨(h.at_ e he).1.mv c hn,(h.at_ e he).2.mv c hn⟩⟩
theorem YPts.snoc {s:TH} {τ:Nat} {es:List (PatM×Hd×Hd)} (h:YPts s τ es) {e:PatM×Hd×Hd} (h1:Sl s e.2.1.1 (bvs e.1.by_) τ) (h2:Sl s e.2.2.1 (ivs e.1.needs) τ):YPts s τ (es++[e]):=⟨fun x hx=>by
 rcases List.mem_append.1 hx with hx|hx
 ·exact h.at_ x hx
 rw [List.mem_singleton] at hx;subst hx;exact ⟨h1,h2⟩⟩
theorem YPts.sub {s:TH} {τ:Nat} {es fs:List (PatM×Hd×Hd)} (h:YPts s τ es) (hs: ∀e∈fs,e∈es):YPts s τ fs:=⟨fun x hx=>h.at_ x (hs x hx)⟩
theorem YPts.keep {s:TH} {σ μ τ:Nat} {es:List (PatM×Hd×Hd)} (h:YPts s σ es) (hn:σ≠μ):YPts (E.remark s μ τ) σ es:=⟨fun e he=>⟨(h.at_ e he).1.keep hn,(h.at_ e he).2.keep hn⟩⟩
structure RSetP (s:TH) (p T:Nat) (P:PatchM) (la:Option Addr) (lc:Nat) (es:List (PatM×Hd×Hd)):Prop where
 blk:Blk s p [.slice la P.l.length lc,.int .i64 P.last] 139 T
 own:Own s la P.l.length lc 163 5 (es.flatMap ypc) (T+1)
 pts:YPts s (T+2) es
 eq:es.map (·.1)=P.l
structure RSet (s:TH) (p T:Nat) (P:PatchM):Prop where
 p: ∃la lc es,RSetP s p T P la lc es
 ok:POk P
section
variable {s :TH} {p T:Nat} {P:PatchM} {la:Option Addr} {lc:Nat} {es:List (PatM×Hd×Hd)}
theorem RSetP.len (h:RSetP s p T P la lc es):es.length=P.l.length:=by rw [←h.eq,List.length_map]
theorem RSetP.at_ (h:RSetP s p T P la lc es) {k:Nat} {e:PatM×Hd×Hd} (he:es[k]? =some e):P.l[k]? =some e.1:=by rw [←h.eq,List.getElem?_map,he];rfl
theorem RSet.mv {s':TH} {B:Nat->Prop} (h:RSet s p T P) (c:Chg B s s') (hn: ∀j,j<s.h.size->T<=s.g j->s.g j<T+10->¬B j):RSet s' p T P:=by
 obtain ⟨⟨la,lc,es,hp⟩,ok⟩:=h
 exact ⟨⟨la,lc,es,hp.blk.mv c (of_rng hn (Nat.le_refl _) (by omega) p hp.blk.lt hp.blk.tag),hp.own.mv c (of_rng hn (by omega) (by omega)),hp.pts.mv c (of_rng hn (by omega) (by omega)),hp.eq⟩,ok⟩
end
theorem take_filt {l:List PatM} {k:Nat} {x:PatM} (q:PatM->Bool) (h:l[k]? =some x):(l.take (k+1)).filter q=if q x=true then (l.take k).filter q++[x] else (l.take k).filter q:=by
 rw [take_get h,List.filter_append,List.filter_cons]
 cases hq:q x<;>simp
theorem PatchM.find_ix {P:PatchM} {i:Int}:ixf (fun x:PatM=>x.id==i) P.l>=0↔i∈P.all:=by
 rcases ixf_cases (fun x:PatM=>x.id==i) P.l with ⟨h1,h2⟩|⟨k,x,h1,h2,h3⟩
 ·rw [h1]
  constructor
  ·intro h;omega
  intro h
  obtain ⟨y,hy,e⟩:=List.mem_map.1 h
  have:=h2 y hy
  simp [e] at this
 rw [h1]
 constructor
 ·intro _;exact List.mem_map.2 ⟨x,List.mem_of_getElem? h2,by simpa using h3⟩
 intro _;omega
theorem c_yoverlap (i0 b0 o0:Int) (x0:Option Addr) (n0 c0:Nat) (y0:Option Addr) (m0 d0:Nat) (i1 b1 o1:Int) (x1:Option Addr) (n1 c1:Nat) (y1:Option Addr) (m1 d1:Nat) (s:TH) (h0:0<=o0/\o0+n0<=128) (h1:0<=o1/\o1+n1<=128):TRet Tryz.prog 207 #[.agg #[.int .i64 i0,.int .i64 b0,.int .i64 o0,.slice x0 n0 c0,.slice y0 m0 d0],.agg #[.int .i64 i1,.int .i64 b1,.int .i64 o1,.slice x1 n1 c1,.slice y1 m1 d1]] s fun v s'=>v=.bool (decide (ovl b0 o0 n0 b1 o1 n1))/\Ch [] s s':=by
 obtain ⟨M,hM,hM0,hMa,hMb,hMc,hMd,hMe,hMf⟩:=fresh6 s 0 0 0 0 0 0
 refine F207_calls _ _ _ _ _ _ _ _ _ _  ?_
 unfold F207
 refine al_t (M+1) fun r1 s2 h g d i=>?_
 refine al_t (M+2) fun r3 s4 j a b k=>?_
 have c:=g.ch b (by simp)
 refine ld_t c rfl (dInt_i (ld_t a rfl (dInt_i ?_)))
 refine sB_d (fun e=>?_) (fun e=>?_)
 ·refine ld_t c rfl (dInt_i (ld_t a rfl (dInt_i (ld_t a rfl (dSl_i (wr_t (by omega) ?_))))))
  refine sB_d (fun f=>?_) (fun f=>?_)
  ·refine ld_t a rfl (dInt_i (ld_t c rfl (dInt_i (ld_t c rfl (dSl_i (wr_t (by omega) ?_))))))
   refine ret_t ?_
   exact ⟨ret_b (by unfold ovl;first|exact (decide_eq_false (by omega)).symm|exact (decide_eq_true (by omega)).symm|exact decide_eq_decide.2 (by omega)),(((Ch.refl [] s).ch d (by simp)).ch b (by simp))⟩
  refine ret_t ?_
  exact ⟨ret_b (by unfold ovl;first|exact (decide_eq_false (by omega)).symm|exact (decide_eq_true (by omega)).symm|exact decide_eq_decide.2 (by omega)),(((Ch.refl [] s).ch d (by simp)).ch b (by simp))⟩
 refine ret_t ?_
 exact ⟨ret_b (by unfold ovl;first|exact (decide_eq_false (by omega)).symm|exact (decide_eq_true (by omega)).symm|exact decide_eq_decide.2 (by omega)),(((Ch.refl [] s).ch d (by simp)).ch b (by simp))⟩
theorem c_yhas7 {xa:Option Addr} {xn:Nat} (xc:Nat) {l:List Int} {τx:Nat} (i:Int) {s:TH} (hx:Sl s xa (ivs l) τx) (hn:l.length=xn) (hb:xn<=140737488355328):TRet Tryz.prog 206 #[.slice xa xn xc,.int .i64 i] s fun v s'=>v=.bool (decide (i∈l))/\Ch [] s s':=by
 refine F206_calls _ _ _ _  ?_
 unfold F206
 refine ⟨fun vs H'=>∃s':TH,s'.h=H'/\∃m,vs=[.int .i64 m]/\Ch [] s s'/\(∃k:Nat,m=k/\k<=xn/\∀j x,j<k->l[j]? =some x->x≠i),fun vs H'=>match vs with|[.int .i64 m]=>((xn:Int) - m).toNat|_=>0,⟨s,rfl,_,rfl,Ch.refl _ _,?_⟩,?_⟩
 ·exact ⟨0,rfl,by omega,fun j x h=>by omega⟩
 intro m
 iterate 9 intro _
 intro H_ hI_2
 obtain ⟨g,rfl,m_,hvs,a,k,rfl,hk,hall⟩:=hI_2
 cases hvs
 have o:=a.size
 refine sB_d (fun f=>?_) (fun f=>?_)
 ·have d:=hx.mv a (tagn (by simp))
  obtain ⟨p,rfl⟩:=d.ne_none (by simp [bvs_len,ivs_len];omega)
  refine nz_i (ask_t (by omega) ?_)
  refine ld_iv d (by omega) (by omega) fun n b=>?_
  rw [Int.toNat_natCast] at b
  refine dInt_i ?_
  refine sB_d (fun c=>?_) (fun c=>?_)
  ·refine ret_t ?_
   exact ⟨ret_b (decide_eq_true (by have h:=List.mem_of_getElem? b;rw [c] at h;exact h)).symm,((Ch.refl [] s).ch a (by simp))⟩
  refine wr_t (by omega) ?_
  refine ⟨⟨g,rfl,_,rfl,((Ch.refl [] s).ch a (by simp)),?_⟩,?_⟩
  ·refine ⟨k+1,by omega,by omega,fun j y hj hy=>?_⟩
   by_cases e:j=k
   ·subst e;rw [b] at hy;cases hy;exact c
   exact hall j y (by omega) hy
  simp only [];omega
 refine ret_t ?_
 exact ⟨ret_b (decide_eq_false (fun h=>by
  obtain ⟨j,hj,e⟩:=List.getElem_of_mem h
  exact hall j i (by omega) (by rw [←e];exact List.getElem?_eq_getElem hj) rfl)).symm,((Ch.refl [] s).ch a (by simp))⟩
theorem c_yfind (p T:Nat) (P:PatchM) (i:Int) (s:TH) (hT:10<=T) (hp:RSet s p T P):TRet Tryz.prog 279 #[.pointer (some ⟨p,0,none⟩),.int .i64 i] s fun v s'=>v=.int .i64 (ixf (fun x:PatM=>x.id==i) P.l)/\Ch [] s s':=by
 obtain ⟨la,lc,es,hR⟩:=hp.p
 have ok:=hp.ok
 have hyb:=hR.blk
 have hyo:=hR.own
 have hyp:=hR.pts
 have hel:=hR.len
 have hlst:=ok.lst
 have hlenl:=ok.lenl
 obtain ⟨M,hM,hM0,hMa,hMb,hMc,hMd,hMe,hMf⟩:=fresh6 s (T+10) 0 0 0 0 0
 refine F279_calls _ _  ?_
 unfold F279
 refine nz_i (ld_t hyb rfl (dSl_i ?_))
 refine ⟨fun vs H'=>∃s':TH,s'.h=H'/\∃m,vs=[.int .i64 m]/\Ch [] s s'/\(∃k:Nat,m=k/\k<=P.l.length/\∀j x,j<k->P.l[j]? =some x->(x.id==i)=false),fun vs H'=>match vs with|[.int .i64 m]=>((P.l.length:Int) - m).toNat|_=>0,⟨s,rfl,_,rfl,Ch.refl _ _,?_⟩,?_⟩
 ·exact ⟨0,rfl,by omega,fun j x h=>by omega⟩
 intro m
 iterate 13 intro _
 intro H_ hI_2
 obtain ⟨R,rfl,m_,hvs,b,k,rfl,hk,hall⟩:=hI_2
 cases hvs
 have S:=b.size
 refine sB_d (fun G=>?_) (fun G=>?_)
 ·obtain ⟨e,he⟩: ∃e,es[k]? =some e:=⟨es[k]'(by omega),by simp⟩
  have hxl:=hR.at_ he
  have hxm:=List.mem_of_getElem? hxl
  obtain ⟨aq,hla⟩: ∃a,la=some a:=hyo.sl.some (fun e2=>by have:=ycell0 he;rw [e2] at this;simp at this)
  subst hla
  refine nz_i (ask_t (by omega) ?_)
  have c:=hyo.mv b (tagn (by simp))
  refine ld_sl c.sl (by rw [Int.toNat_natCast];exact ycell0 he) ?_
  refine ld_sl2 c.sl (by rw [Int.toNat_natCast];exact ycell1 he) ?_
  refine ld_sl2 c.sl (by rw [Int.toNat_natCast];exact ycell2 he) ?_
  refine ld_sl2 c.sl (by rw [Int.toNat_natCast];exact ycell3 he) ?_
  refine ld_sl2 c.sl (by rw [Int.toNat_natCast];exact ycell4 he) ?_
  refine al_t (M+9) fun U V J D E W=>?_
  refine st_t D rfl (by simp) fun X F w K=>?_
  have f:=on_ch D w
  refine st_t F rfl (by simp) fun Y g z L=>?_
  have n:=on_ch F z
  refine st_t g rfl (by simp) fun Z o A N=>?_
  have q:=on_ch g A
  refine st_t o rfl (by simp) fun aa r B O=>?_
  have t:=on_ch o B
  refine st_t r rfl (by simp) fun I H C Q=>?_
  have u:=on_ch r C
  refine ld_t H rfl (dInt_i ?_)
  refine sB_d (fun d=>?_) (fun d=>?_)
  ·refine ret_t ?_
   exact ⟨ret_i (ixf_some hxl (by simpa using d) hall).symm,((((((((Ch.refl [] s).ch b (by simp)).ch E (by simp)).fr f hM (by simp)).fr n hM (by simp)).fr q hM (by simp)).fr t hM (by simp)).fr u hM (by simp))⟩
  refine wr_t (by omega) ?_
  refine ⟨⟨I,rfl,_,rfl,((((((((Ch.refl [] s).ch b (by simp)).ch E (by simp)).fr f hM (by simp)).fr n hM (by simp)).fr q hM (by simp)).fr t hM (by simp)).fr u hM (by simp)),?_⟩,?_⟩
  ·refine ⟨k+1,by omega,by omega,fun j y hj hy=>?_⟩
   by_cases e2:j=k
   ·subst e2;rw [hxl] at hy;cases hy;simpa using d
   exact hall j y (by omega) hy
  simp only [];omega
 refine ret_t ?_
 exact ⟨ret_i (ixf_none fun j y hj hy=>hall j y (by omega) hy).symm,((Ch.refl [] s).ch b (by simp))⟩
theorem c_yof (p T:Nat) (P:PatchM) (τ:Nat) (b:Int) (s:TH) (hT:10<=T) (hp:RSet s p T P):TRet Tryz.prog 147 #[.pointer (some ⟨p,0,none⟩),.int .i64 b] s fun v s'=>∃a c',v=.slice a (P.of b).length c'/\Ch [] s s'/\Own s' a (P.of b).length c' 3 1 (ivs (P.of b)) τ:=by
 obtain ⟨la,lc,es,hR⟩:=hp.p
 have ok:=hp.ok
 have hyb:=hR.blk
 have hyo:=hR.own
 have hyp:=hR.pts
 have hel:=hR.len
 have hlst:=ok.lst
 have hlenl:=ok.lenl
 obtain ⟨M,hM,hM0,hMa,hMb,hMc,hMd,hMe,hMf⟩:=fresh6 s (T+10) τ 0 0 0 0
 refine F147_calls _ _  ?_
 unfold F147
 refine nz_i (ld_t hyb rfl (dSl_i ?_))
 refine ⟨fun vs H'=>∃s':TH,s'.h=H'/\∃qa qn qc m,vs=[.slice qa qn qc,.int .i64 m]/\Ch [M+1,M+9] s s'/\(∃k:Nat,m=k/\k<=P.l.length/\qn=(((P.l.take k).filter fun p=>p.blk==b).map (·.id)).length/\Own s' qa qn qc 3 1 (ivs (((P.l.take k).filter fun p=>p.blk==b).map (·.id))) (M+1)),fun vs H'=>match vs with|[.slice qa qn qc,.int .i64 m]=>((P.l.length:Int) - m).toNat|_=>0,⟨s,rfl,_,_,_,_,rfl,Ch.refl _ _,?_⟩,?_⟩
 ·exact ⟨0,rfl,by omega,rfl,Own.nil _ _ _ _⟩
 intro qa qn qc m
 iterate 14 intro _
 intro H_ hI_2
 obtain ⟨S,rfl,qa_,qn_,qc_,m_,hvs,n,k,rfl,hk,rfl,ho⟩:=hI_2
 cases hvs
 have ag:=n.size
 have hfl:(((P.l.take k).filter fun p=>p.blk==b).map (·.id)).length<=k:=by rw [List.length_map];exact Nat.le_trans (List.length_filter_le _ _) (by rw [List.length_take];omega)
 refine sB_d (fun G=>?_) (fun G=>?_)
 ·refine jn_u ?_
  obtain ⟨e,he⟩: ∃e,es[k]? =some e:=⟨es[k]'(by omega),by simp⟩
  have hxl:=hR.at_ he
  have hxm:=List.mem_of_getElem? hxl
  obtain ⟨aq,hla⟩: ∃a,la=some a:=hyo.sl.some (fun e2=>by have:=ycell0 he;rw [e2] at this;simp at this)
  subst hla
  refine nz_i (ask_t (by omega) ?_)
  have o:=hyo.mv n (tagn (by simp<;>omega))
  refine ld_sl o.sl (by rw [Int.toNat_natCast];exact ycell0 he) ?_
  refine ld_sl2 o.sl (by rw [Int.toNat_natCast];exact ycell1 he) ?_
  refine ld_sl2 o.sl (by rw [Int.toNat_natCast];exact ycell2 he) ?_
  refine ld_sl2 o.sl (by rw [Int.toNat_natCast];exact ycell3 he) ?_
  refine ld_sl2 o.sl (by rw [Int.toNat_natCast];exact ycell4 he) ?_
  refine al_t (M+9) fun ah ai V E q aj=>?_
  refine st_t E rfl (by simp) fun ak F z W=>?_
  have d:=on_ch E z
  refine st_t F rfl (by simp) fun al r A X=>?_
  have f:=on_ch F A
  refine st_t r rfl (by simp) fun am t B Y=>?_
  have g:=on_ch r B
  refine st_t t rfl (by simp) fun an u C Z=>?_
  have i:=on_ch t C
  refine st_t u rfl (by simp) fun U w D aa=>?_
  have j:=on_ch u D
  refine ld_t w rfl (dInt_i ?_)
  refine sB_d (fun c=>?_) (fun c=>?_)
  ·refine ld_t w rfl (dInt_i ?_)
   refine al_t (M+9) fun ao ap ab H x ac=>?_
   have I:=((((((q.app d).app f).app g).app i).app j).app x)
   have J:=ho.mv I (tagn (by simp))
   refine app_i1 u33 in3 J H (by omega) fun K ad ae L y=>?_
   have af:=y.size
   refine dSl_i ?_
   intro _
   intros
   refine dSl_i (wr_t (by omega) ?_)
   have N:=((((((((n.app q).app d).app f).app g).app i).app j).app x).app y)
   refine ⟨⟨K,rfl,_,_,_,_,rfl,((Ch.refl [M+1,M+9] s).ch N (by simp)),?_⟩,?_⟩
   ·refine ⟨k+1,by omega,by omega,?_,?_⟩
    ·rw [take_filt (fun p:PatM=>p.blk==b) hxl,if_pos (by simpa using c),List.map_append,List.length_append];rfl
    have ho:=L
    rw [take_filt (fun p:PatM=>p.blk==b) hxl,if_pos (by simpa using c),List.map_append];exact ho
   simp only [];omega
  intro _
  intros
  refine dSl_i (wr_t (by omega) ?_)
  have O:=((((((n.app q).app d).app f).app g).app i).app j)
  refine ⟨⟨U,rfl,_,_,_,_,rfl,((Ch.refl [M+1,M+9] s).ch O (by simp)),?_⟩,?_⟩
  ·have Q:=(((((q.app d).app f).app g).app i).app j)
   have R:=ho.mv Q (tagn (by simp))
   refine ⟨k+1,by omega,by omega,?_,?_⟩
   ·rw [take_filt (fun p:PatM=>p.blk==b) hxl,if_neg (by simpa using c)]
   have ho:=R
   rw [take_filt (fun p:PatM=>p.blk==b) hxl,if_neg (by simpa using c)];exact ho
  simp only [];omega
 obtain rfl:k=P.l.length:=by omega
 have ho:=ho
 rw [List.take_length] at ho ⊢
 exact ret_t' (s':=remark S (M+1) τ) rfl ⟨_,_,rfl,remark_ch ((Ch.refl [] s).fr n hM (by simp)) hM (by omega),ho.remark⟩
def Nd (P:PatchM):Prop:=∀x∈P.l,∀z∈P.l,z.id∈x.needs->z.blk=x.blk
theorem of_mem {P:PatchM} {b i:Int}:i∈P.of b↔ ∃x∈P.l,x.blk=b/\x.id=i:=by
 unfold PatchM.of;simp [List.mem_map,List.mem_filter,and_assoc]
theorem mem_take_lt {l:List Int} (h:l.Pairwise (· < ·)) {k:Nat} {x n:Int} (hx:l[k]? =some x) (hn:n∈l) (hlt:n<x):n∈l.take k:=by
 obtain ⟨j,hj,rfl⟩:=List.getElem_of_mem hn
 obtain ⟨hk,e⟩:=List.getElem?_eq_some_iff.1 hx
 have hjk:j<k:=by
  rcases Nat.lt_or_ge j k with h1|h1
  ·exact h1
  exfalso
  rcases Nat.eq_or_lt_of_le h1 with h2|h2
  ·subst h2;omega
  have:=List.pairwise_iff_getElem.1 h k j hk hj h2;omega
 exact List.mem_of_getElem? (i:=j) (by rw [List.getElem?_take_of_lt hjk];exact List.getElem?_eq_getElem hj)
theorem free_nd {P:PatchM} (ok:POk P) (hN:Nd P) (b:Int):P.free b=P.of b:=by
 have: ∀k,k<=(P.of b).length->((P.of b).take k).foldl P.fstep []=(P.of b).take k:=fun k=>by
  induction k with
  |zero=>intro _;rfl
  |succ k ih=>
   intro hk
   obtain ⟨i,hi⟩: ∃i,(P.of b)[k]? =some i:=⟨(P.of b)[k]'(by omega),by simp⟩
   rw [foldl_take _ _ hi,ih (by omega)]
   obtain ⟨x,hx,hb,rfl⟩:=of_mem.1 (List.mem_of_getElem? hi)
   unfold PatchM.fstep
   rw [find_by ok.nodup hx]
   simp only
   rw [if_pos,take_get hi]
   refine List.all_eq_true.2 fun n hn=>decide_eq_true ?_
   have h1:=List.mem_filter.1 hn
   obtain ⟨z,hz,rfl⟩:=List.mem_map.1 h1.1
   have h2:z.id∈x.needs:=by simpa using h1.2
   exact mem_take_lt (of_srt ok b) hi (of_mem.2 ⟨z,hz,by rw [hN x hx z hz h2,hb],rfl⟩) (ok.nds x hx _ h2).2
 have h:=this _ (Nat.le_refl _)
 rw [List.take_length] at h
 exact h
theorem Nd.sub {P Q:PatchM} (h:Nd P) (hs: ∀x∈Q.l,x∈P.l):Nd Q:=fun x hx z hz hn=>h x (hs x hx) z (hs z hz) hn
theorem Nd.add {P:PatchM} (ok:POk P) (h:Nd P) (b o:Int) (y:List UInt8):Nd (P.add b o y []).1:=by
 unfold PatchM.add
 split
 ·exact h
 split
 ·exact h
 intro x hx z hz hn
 have hx:x∈P.l++[P.newP b o y []]:=hx
 have hz:z∈P.l++[P.newP b o y []]:=hz
 rcases List.mem_append.1 hx with hx|hx<;>rcases List.mem_append.1 hz with hz|hz
 ·exact h x hx z hz hn
 ·rw [List.mem_singleton] at hz;subst hz
  have h1:=ok.nds x hx _ hn
  have h2:=ok.rng x hx
  have h3:(P.newP b o y []).id=P.last+1:=rfl
  omega
 ·rw [List.mem_singleton] at hx;subst hx
  obtain ⟨w,hw,e⟩:=List.mem_map.1 (show z.id∈(P.l.filter fun x=>decide (x.id∈([]:List Int))||ovx b o y.length x).map (·.id) from hn)
  have hw2:=List.mem_filter.1 hw
  have e2:w=z:=by
   have g1:=find_by ok.nodup hw2.1
   have g2:=find_by ok.nodup hz
   rw [e,g2] at g1;exact (Option.some.inj g1).symm
  subst e2
  have h4:ovx b o y.length w=true:=by have:=hw2.2;simpa using this
  exact (of_decide_eq_true h4).1.symm
 rw [List.mem_singleton] at hz hx;subst hz;subst hx;rfl
theorem Nd.done {P:PatchM} (h:Nd P) (ids:List Int):Nd (P.doneP ids).1:=by
 unfold PatchM.doneP
 split
 ·exact h
 split
 ·exact h.sub fun x hx=>(List.mem_filter.1 (show x∈P.l.filter _ from hx)).1
 exact h
theorem find_at {P:PatchM} (ok:POk P) {x:PatM} (hx:x∈P.l): ∃k:Nat,ixf (fun y:PatM=>y.id==x.id) P.l=(k:Int)/\P.l[k]? =some x:=by
 rcases ixf_cases (fun y:PatM=>y.id==x.id) P.l with ⟨h1,h2⟩|⟨k,y,h1,h2,h3⟩
 ·have:=h2 x hx;simp at this
 refine ⟨k,h1,?_⟩
 have g1:=find_by ok.nodup (List.mem_of_getElem? h2)
 have g2:=find_by ok.nodup hx
 rw [show y.id=x.id by simpa using h3,g2] at g1
 rw [h2];exact g1.symm
theorem nd_of {P:PatchM} (hN:Nd P) {x:PatM} {b n:Int} (hx:x∈P.l) (hb:x.blk=b) (hn:n∈x.needs) (ha:n∈P.all):n∈P.of b:=by
 obtain ⟨z,hz,rfl⟩:=List.mem_map.1 ha
 exact of_mem.2 ⟨z,hz,by rw [hN x hx z hz hn,hb],rfl⟩
structure InsJ (b:Int) (l X:List Int) (put:Bool):Prop where
 srt:X.Pairwise (· < ·)
 yes:put=true->(∀y,y∈X↔y∈l∨y=b)/\∃z∈l,b<=z
 no:put=false->X=l/\∀z∈l,z<b
 len:X.length<=l.length+1
theorem InsJ.nil (b:Int):InsJ b [] [] false:=⟨List.Pairwise.nil,fun h=>by simp at h,fun _=>⟨rfl,fun z h=>by simp at h⟩,by simp⟩
theorem srt_snoc {l:List Int} {x:Int} (h:l.Pairwise (· < ·)) (hx: ∀y∈l,y<x):(l++[x]).Pairwise (· < ·):=List.pairwise_append.2 ⟨h,by simp,fun a ha c hc=>by rw [List.mem_singleton] at hc;subst hc;exact hx a ha⟩
theorem srt_last {l:List Int} {x:Int} (h:(l++[x]).Pairwise (· < ·)): ∀y∈l,y<x:=fun y hy=>(List.pairwise_append.1 h).2.2 y hy x (by simp)
theorem InsJ.addT {b x:Int} {l X:List Int} (h:InsJ b l X true) (hl:(l++[x]).Pairwise (· < ·)):InsJ b (l++[x]) (X++[x]) true:=by
 obtain ⟨h1,z,hz,h2⟩:=h.yes rfl
 have hz2:=srt_last hl z hz
 refine ⟨srt_snoc h.srt fun y hy=>?_,fun _=>⟨fun y=>?_,z,by simp [hz],h2⟩,fun e=>(by cases e),by have:=h.len;simp;omega⟩
 ·rcases (h1 y).1 hy with h3|h3
  ·exact srt_last hl y h3
  omega
 rw [List.mem_append,List.mem_append,h1,List.mem_singleton]
 constructor<;>(rintro ((h|h)|h)<;>simp [h])
theorem InsJ.addE {b:Int} {l X:List Int} (h:InsJ b l X false) (hl:(l++[b]).Pairwise (· < ·)):InsJ b (l++[b]) (X++[b]) true:=by
 obtain ⟨rfl,h1⟩:=h.no rfl
 exact ⟨hl,fun _=>⟨fun y=>by simp,b,by simp,Int.le_refl _⟩,fun e=>(by cases e),by simp⟩
theorem InsJ.addG {b x:Int} {l X:List Int} (h:InsJ b l X false) (hl:(l++[x]).Pairwise (· < ·)) (hx:b<x):InsJ b (l++[x]) (X++[b]++[x]) true:=by
 obtain ⟨rfl,h1⟩:=h.no rfl
 refine ⟨srt_snoc (srt_snoc h.srt h1) fun y hy=>?_,fun _=>⟨fun y=>?_,x,by simp,by omega⟩,fun e=>(by cases e),by simp⟩
 ·rcases List.mem_append.1 hy with h3|h3
  ·exact srt_last hl y h3
  rw [List.mem_singleton] at h3;omega
 simp only [List.mem_append,List.mem_singleton]
 constructor
 ·rintro ((h|h)|h)<;>simp [h]
 rintro ((h|h)|h)<;>simp [h]
theorem InsJ.addL {b x:Int} {l X:List Int} (h:InsJ b l X false) (hl:(l++[x]).Pairwise (· < ·)) (hx:x<b):InsJ b (l++[x]) (X++[x]) false:=by
 obtain ⟨rfl,h1⟩:=h.no rfl
 exact ⟨hl,fun e=>(by cases e),fun _=>⟨rfl,fun z hz=>by
  rcases List.mem_append.1 hz with h3|h3
  ·exact h1 z h3
  rw [List.mem_singleton] at h3;omega⟩,by simp⟩
theorem InsJ.eqb {b:Int} {l X:List Int} {put:Bool} (h:InsJ b l X put) (hl:(l++[b]).Pairwise (· < ·)):InsJ b (l++[b]) (X++[b]) true:=by
 cases put
 ·exact h.addE hl
 exact h.addT hl
theorem blk_mem {l:List PatM} {k:Nat} {x:PatM} (h:l[k]? =some x) {X Z:List Int} (hX: ∀y,y∈X↔ ∃p∈l.take k,p.blk=y) (hZ: ∀y,y∈Z↔y∈X∨y=x.blk): ∀y,y∈Z↔ ∃p∈l.take (k+1),p.blk=y:=fun y=>by
 rw [hZ,hX,take_get h]
 constructor
 ·rintro (⟨p,h1,h2⟩|rfl)
  ·exact ⟨p,List.mem_append_left _ h1,h2⟩
  exact ⟨x,by simp,rfl⟩
 rintro ⟨p,h1,h2⟩
 rcases List.mem_append.1 h1 with h1|h1
 ·exact .inl ⟨p,h1,h2⟩
 rw [List.mem_singleton] at h1;subst h1;exact .inr h2.symm
theorem InsJ.finT {b:Int} {l X:List Int} (h:InsJ b l X true): ∀y,y∈X↔y∈l∨y=b:=(h.yes rfl).1
theorem InsJ.finF {b:Int} {l X:List Int} (h:InsJ b l X false):(X++[b]).Pairwise (· < ·)/\∀y,y∈X++[b]↔y∈l∨y=b:=by
 obtain ⟨rfl,h1⟩:=h.no rfl
 exact ⟨srt_snoc h.srt h1,fun y=>by simp⟩
theorem c_yover (p T:Nat) (P:PatchM) (τ:Nat) (b:Int) {da:Option Addr} (dc:Nat) {d:List UInt8} {τd:Nat} {xa:Option Addr} {xn:Nat} (xc:Nat) {τx:Nat} (s:TH) (hT:10<=T) (hp:RSet s p T P) (hd:Sl s da (bvs d) τd) (hdn:d.length=128) (hx:Sl s xa (ivs (P.of b)) τx) (hn:(P.of b).length=xn):TRet Tryz.prog 222 #[.pointer (some ⟨p,0,none⟩),.int .i64 b,.slice da 128 dc,.slice xa xn xc] s fun v s'=>∃a c',v=.slice a 128 c'/\Ch [] s s'/\Own s' a 128 c' 5 1 (bvs (P.over d (P.of b))) τ:=by
 obtain ⟨la,lc,es,hR⟩:=hp.p
 have ok:=hp.ok
 have hyb:=hR.blk
 have hyo:=hR.own
 have hyp:=hR.pts
 have hel:=hR.len
 have hlst:=ok.lst
 have hlenl:=ok.lenl
 have hol:=of_len ok b
 obtain ⟨M,hM,hM0,hMa,hMb,hMc,hMd,hMe,hMf⟩:=fresh6 s (T+10) τd τx τ 0 0
 refine F222_calls _ _ _ _ _ _ _ _  ?_
 unfold F222
 refine al_t (M+1) fun r1 s2 ax ad w ay=>?_
 have ae:=hd.mv w (tagn (by simp))
 refine app_bv (xs:=[]) u49 in5 (ad.own0 1) ae hdn (by omega) fun y oa oc af z=>?_
 have az:=z.size
 have ho0:=af
 rw [List.nil_append,Nat.zero_add] at ho0
 simp only [Nat.zero_add]
 refine dSl_i (nz_i ?_)
 have ag:=hyb.ch (w.app z) (by simp<;>omega)
 refine ld_t ag rfl (dSl_i ?_)
 refine ⟨fun vs H'=>∃s':TH,s'.h=H'/\∃i,vs=[.int .i64 i]/\Ch [M+1,M+9] y s'/\(∃k:Nat,i=k/\k<=P.l.length/\Own s' oa 128 oc 5 1 (bvs (ovL d ((P.l.take k).filter fun x=>x.blk==b))) (M+1)),fun vs H'=>match vs with|[.int .i64 i]=>((P.l.length:Int) - i).toNat|_=>0,⟨y,rfl,_,rfl,Ch.refl _ _,?_⟩,?_⟩
 ·exact ⟨0,rfl,by omega,ho0⟩
 intro i
 iterate 22 intro _
 intro H_ hI_11
 obtain ⟨R,rfl,i_,hvs,c,k,rfl,hk,ho⟩:=hI_11
 cases hvs
 have ai:=c.size
 refine sB_d (fun S=>?_) (fun S=>?_)
 ·refine jn_u ?_
  obtain ⟨e,he⟩: ∃e,es[k]? =some e:=⟨es[k]'(by omega),by simp⟩
  have hxl:=hR.at_ he
  have hxm:=List.mem_of_getElem? hxl
  obtain ⟨aq,hla⟩: ∃a,la=some a:=hyo.sl.some (fun e2=>by have:=ycell0 he;rw [e2] at this;simp at this)
  subst hla
  have hft:=ok.fit e.1 hxm
  have hle:=(ho).le
  refine nz_i (ask_t (by omega) ?_)
  have A:=((w.app z).app c)
  have f:=hyo.mv A (tagn (by simp<;>omega))
  refine ld_sl f.sl (by rw [Int.toNat_natCast];exact ycell0 he) ?_
  refine ld_sl2 f.sl (by rw [Int.toNat_natCast];exact ycell1 he) ?_
  refine ld_sl2 f.sl (by rw [Int.toNat_natCast];exact ycell2 he) ?_
  refine ld_sl2 f.sl (by rw [Int.toNat_natCast];exact ycell3 he) ?_
  refine ld_sl2 f.sl (by rw [Int.toNat_natCast];exact ycell4 he) ?_
  refine al_t (M+9) fun aA aB aj B g ak=>?_
  refine st_t B rfl (by simp) fun aC C K al=>?_
  have j:=on_ch B K
  refine st_t C rfl (by simp) fun aD D L am=>?_
  have m:=on_ch C L
  refine st_t D rfl (by simp) fun aE E N an=>?_
  have n:=on_ch D N
  refine st_t E rfl (by simp) fun aF F O ao=>?_
  have o:=on_ch E O
  refine st_t F rfl (by simp) fun ah u Q ap=>?_
  have q:=on_ch F Q
  refine jn_u ?_
  refine ld_t u rfl (dInt_i ?_)
  refine sB_d (fun t=>?_) (fun t=>?_)
  ·refine ld_t u rfl (dInt_i ?_)
   have G:=((((((A.app g).app j).app m).app n).app o).app q)
   have U:=hx.mv G (tagn (by simp<;>omega))
   refine tcall (c_yhas7 xc e.1.id U hn (by omega)) ?_
   rintro ar au ⟨rfl,r⟩
   have av:=r.size
   rw [decide_eq_true (of_mem.2 ⟨e.1,hxm,t,rfl⟩)]
   refine dBl_i ?_
   intro _
   intros
   refine dBl_i (sB_t (by rfl) ?_)
   have H:=u.ch r (by simp)
   refine ld_t H rfl (dInt_i (ask_t (by omega) (ld_t H rfl (dSl_i ?_))))
   have V:=((((((g.app j).app m).app n).app o).app q).app r)
   have I:=ho.mv V (tagn (by simp))
   obtain ⟨oa2,rfl⟩:=(I).ne_none (by omega)
   have W:=hyp.mv (G.app r) (tagn (by simp<;>omega))
   have sbx:=((W).at_ e (List.mem_of_getElem? he)).1
   simp only [Int.toNat_natCast]
   refine copy_sl u49 in5 I sbx rfl (by omega) (by omega) fun X Y J _=>?_
   have aw:=J.size
   refine dInt_i ?_
   intro _
   intros
   refine wr_t (by omega) ?_
   have Z:=((((((((c.app g).app j).app m).app n).app o).app q).app r).app J)
   refine ⟨⟨X,rfl,_,rfl,((Ch.refl [M+1,M+9] y).ch Z (by simp)),?_⟩,?_⟩
   ·refine ⟨k+1,by omega,by omega,?_⟩
    have ho:=Y
    rw [take_filt (fun x:PatM=>x.blk==b) hxl,if_pos (by simpa using t),ovL_snoc]
    exact ho
   simp<;>omega
  intro _
  intros
  refine dBl_i (sB_f (by rfl) ?_)
  intro _
  intros
  refine wr_t (by omega) ?_
  have aa:=((((((c.app g).app j).app m).app n).app o).app q)
  refine ⟨⟨ah,rfl,_,rfl,((Ch.refl [M+1,M+9] y).ch aa (by simp)),?_⟩,?_⟩
  ·have ab:=(((((g.app j).app m).app n).app o).app q)
   have ac:=ho.mv ab (tagn (by simp))
   refine ⟨k+1,by omega,by omega,?_⟩
   have ho:=ac
   rw [take_filt (fun x:PatM=>x.blk==b) hxl,if_neg (by simpa using t)]
   exact ho
  simp only [];omega
 obtain rfl:k=P.l.length:=by omega
 have ho:=ho
 rw [List.take_length, ←over_of ok] at ho
 exact ret_t' (s':=remark R (M+1) τ) rfl ⟨_,_,rfl,remark_ch ((((Ch.refl [] s).ch w (by simp)).fr z hM (by simp)).fr c hM (by simp)) hM (by omega),ho.remark⟩
theorem c_ymay (p T:Nat) (P:PatchM) (τ:Nat) (b:Int) (s:TH) (hT:10<=T) (hp:RSet s p T P) (hN:Nd P):TRet Tryz.prog 273 #[.pointer (some ⟨p,0,none⟩),.int .i64 b] s fun v s'=>∃a c',v=.slice a (P.of b).length c'/\Ch [] s s'/\Own s' a (P.of b).length c' 3 1 (ivs (P.of b)) τ:=by
 obtain ⟨la,lc,es,hR⟩:=hp.p
 have ok:=hp.ok
 have hyb:=hR.blk
 have hyo:=hR.own
 have hyp:=hR.pts
 have hel:=hR.len
 have hlst:=ok.lst
 have hlenl:=ok.lenl
 have hol:=of_len ok b
 obtain ⟨M,hM,hM0,hMa,hMb,hMc,hMd,hMe,hMf⟩:=fresh6 s (T+10) τ 0 0 0 0
 refine F273_calls _ _  ?_
 unfold F273
 refine tcall (c_yof p T P (M+4) b _ hT hp) ?_
 rintro aD w ⟨ae,af,rfl,y,z⟩
 have aE:=y.size
 refine dSl_i ?_
 refine ⟨fun vs H'=>∃s':TH,s'.h=H'/\∃ia in_ ic ag,vs=[.slice ia in_ ic,.bool ag]/\Ch [M+5,M+9] w s'/\(in_=(P.of b).length/\(ag=true->Own s' ia in_ ic 3 1 (ivs (P.of b)) (M+4))/\(ag=false->Own s' ia in_ ic 3 1 (ivs (P.of b)) (M+5))),fun vs H'=>match vs with|[.slice ia in_ ic,.bool ag]=>(if ag=true then 1 else 0)|_=>0,⟨w,rfl,_,_,_,_,rfl,Ch.refl _ _,?_⟩,?_⟩
 ·exact ⟨rfl,fun _=>z,fun h=>by cases h⟩
 intro ia in_ ic ag
 iterate 44 intro _
 intro H_ hI_7
 obtain ⟨t,rfl,ia_,in__,ic_,ag_,hvs,u,rfl,ho1,ho2⟩:=hI_7
 cases hvs
 have aF:=u.size
 refine sB_i (fun n=>?_) (fun n=>?_)
 ·cases ag<;>simp at n
  have hA:=ho1 rfl
  refine ⟨fun vs H'=>∃s':TH,s'.h=H'/\∃ag2 qa qn qc i,vs=[.bool ag2,.slice qa qn qc,.int .i64 i]/\Ch [M+5,M+9] t s'/\(∃k:Nat,i=k/\k<=(P.of b).length/\ag2=false/\qn=k/\Own s' qa qn qc 3 1 (ivs ((P.of b).take k)) (M+5)),fun vs H'=>match vs with|[.bool ag2,.slice qa qn qc,.int .i64 i]=>(((P.of b).length:Int) - i).toNat|_=>0,⟨t,rfl,_,_,_,_,_,rfl,Ch.refl _ _,?_⟩,?_⟩
  ·exact ⟨0,rfl,by omega,rfl,rfl,Own.nil _ _ _ _⟩
  intro ag2 qa qn qc i
  iterate 38 intro _
  intro H_ hI_11
  obtain ⟨H,rfl,ag2_,qa_,qn_,qc_,i_,hvs,f,k,rfl,hk,rfl,rfl,ho⟩:=hI_11
  cases hvs
  have ai:=f.size
  refine sB_d (fun I=>?_) (fun I=>?_)
  ·refine jn_u ?_
   have o:=hA.mv f (tagn (by simp))
   obtain ⟨aj,rfl⟩:=o.ne_none (by omega)
   refine nz_i (ask_t (by omega) ?_)
   refine ld_iv o.sl (by omega) (by omega) fun ak r=>?_
   rw [Int.toNat_natCast] at r
   refine dInt_i (nz_i ?_)
   have l:=((y.app u).app f)
   have A:=hyb.ch l (by simp<;>omega)
   refine ld_t A rfl (dSl_i ?_)
   have B:=hp.mv l (rngn (by simp<;>omega))
   refine tcall (c_yfind _ _ _ _ _ (by omega) B) ?_
   rintro al g ⟨rfl,c⟩
   have am:=c.size
   obtain ⟨x,hx,hxb,hxi⟩:=of_mem.1 (List.mem_of_getElem? r)
   obtain ⟨kx,hkx,hlx⟩:=find_at ok hx
   rw [hxi] at hkx
   rw [hkx]
   have hkl:=(List.getElem?_eq_some_iff.1 hlx).1
   obtain ⟨e,he⟩: ∃e,es[kx]? =some e:=⟨es[kx]'(by omega),by simp⟩
   have hex:e.1=x:=Option.some.inj ((hR.at_ he).symm.trans hlx)
   obtain ⟨aq,hla⟩: ∃a,la=some a:=hyo.sl.some (fun e2=>by have:=ycell0 he;rw [e2] at this;simp at this)
   subst hla
   have J:=hyp.mv (l.app c) (tagn (by simp<;>omega))
   have snx:=((J).at_ e (List.mem_of_getElem? he)).2
   have hnl:=ok.lenn hx
   rw [←hex] at hnl
   refine dInt_i ?_
   refine ⟨?_,?_⟩
   ·have K:=A.ch c (by simp)
    refine ld_t K rfl (dSl_i ?_)
    rfl
   refine nz_i (ask_t (by omega) ?_)
   have L:=hyo.mv (l.app c) (tagn (by simp<;>omega))
   refine ld_sl2 L.sl (by rw [Int.toNat_natCast];exact ycell4 he) ?_
   refine dSl_i ?_
   obtain ⟨na0,hna0⟩: ∃a,a=e.2.2.1:=⟨_,rfl⟩
   rw [←hna0]
   have sny:Sl g na0 (ivs e.1.needs) (T+2):=by rw [hna0];exact snx
   refine ⟨fun vs H'=>∃s':TH,s'.h=H'/\∃okb j,vs=[.bool okb,.int .i64 j]/\Ch [] g s'/\(∃q:Nat,okb=true/\j=q/\q<=e.1.needs.length),fun vs H'=>match vs with|[.bool okb,.int .i64 j]=>((e.1.needs.length:Int) - j).toNat|_=>0,⟨g,rfl,_,_,rfl,Ch.refl _ _,?_⟩,?_⟩
   ·exact ⟨0,rfl,rfl,by omega⟩
   intro okb j
   iterate 15 intro _
   intro H_ hI_28
   obtain ⟨an,rfl,okb_,j_,hvs,d,q,rfl,rfl,hq⟩:=hI_28
   cases hvs
   have ao:=d.size
   refine sB_d (fun N=>?_) (fun N=>?_)
   ·refine jn_u ?_
    have C:=sny.mv d (tagn (by simp))
    obtain ⟨ap,rfl⟩:=C.ne_none (by simp [bvs_len,ivs_len];omega)
    refine nz_i (ask_t (by omega) ?_)
    refine ld_iv C (by omega) (by omega) fun O D=>?_
    rw [Int.toNat_natCast] at D
    refine dInt_i ?_
    refine jn_u ?_
    have Q:=B.mv (c.app d) (rngn (by simp))
    refine tcall (c_yfind _ _ _ _ _ (by omega) Q) ?_
    rintro ar R ⟨rfl,m⟩
    have au:=m.size
    refine dInt_i ?_
    refine sB_d (fun S=>?_) (fun S=>?_)
    ·have U:=((c.app d).app m)
     have V:=o.mv U (tagn (by simp))
     refine tcall (c_yhas7 ic O (V).sl rfl (by omega)) ?_
     rintro av W ⟨rfl,E⟩
     have aw:=E.size
     rw [decide_eq_true (nd_of hN hx hxb (by rw [←hex];exact List.mem_of_getElem? D) (PatchM.find_ix.1 (by assumption)))]
     refine dBl_i ?_
     intro _
     intros
     refine dBl_i (sB_f (by rfl) ?_)
     intro _
     intros
     refine dBl_i (wr_t (by omega) ?_)
     have X:=((d.app m).app E)
     refine ⟨⟨W,rfl,_,_,rfl,((Ch.refl [] g).ch X (by simp)),?_⟩,?_⟩
     ·exact ⟨q+1,rfl,by omega,by omega⟩
     simp only [];omega
    intro _
    intros
    refine dBl_i (sB_f (by rfl) ?_)
    intro _
    intros
    refine dBl_i (wr_t (by omega) ?_)
    refine ⟨⟨R,rfl,_,_,rfl,(((Ch.refl [] g).ch d (by simp)).ch m (by simp)),?_⟩,?_⟩
    ·exact ⟨q+1,rfl,by omega,by omega⟩
    simp only [];omega
   refine sB_t (by rfl) ?_
   refine al_t (M+9) fun ax ay ah Y F az=>?_
   have Z:=((c.app d).app F)
   have aa:=ho.mv Z (tagn (by simp))
   refine app_i1 u33 in3 aa Y (by omega) fun ab aA aB ac G=>?_
   have aC:=G.size
   refine dSl_i ?_
   intro _
   intros
   refine dBl_i (dSl_i (wr_t (by omega) ?_))
   have ad:=((((f.app c).app d).app F).app G)
   refine ⟨⟨ab,rfl,_,_,_,_,_,rfl,((Ch.refl [M+5,M+9] t).ch ad (by simp)),?_⟩,?_⟩
   ·exact ⟨qn+1,by omega,by omega,rfl,rfl,by have ho:=ac;rw [take_get r];exact ho⟩
   simp only [];omega
  refine ⟨⟨H,rfl,_,_,_,_,rfl,(((Ch.refl [M+5,M+9] w).ch u (by simp)).ch f (by simp)),?_⟩,?_⟩
  ·obtain rfl:qn=(P.of b).length:=by omega
   exact ⟨rfl,fun h=>(by cases h),fun _=>by have ho:=ho;rw [List.take_length] at ho;exact ho⟩
  simp<;>omega
 cases ag<;>simp at n
 exact ret_t' (s':=remark t (M+5) τ) rfl ⟨_,_,rfl,remark_ch (((Ch.refl [] s).ch y (by simp)).fr u hM (by simp)) hM (by omega),(ho2 rfl).remark⟩
theorem c_yplan (p T:Nat) (P:PatchM) (τ:Nat) (b:Int) {da:Option Addr} (dc:Nat) {d:List UInt8} {τd:Nat} (s:TH) (hT:10<=T) (hp:RSet s p T P) (hd:Sl s da (bvs d) τd) (hdn:d.length=128) (hN:Nd P):TRet Tryz.prog 200 #[.pointer (some ⟨p,0,none⟩),.int .i64 b,.slice da 128 dc] s fun v s'=>Ch [] s s'/\((v=.tuple #[.slice none 0 0,.slice none 0 0,.int .i64 71]/\P.of b=[])∨(∃a c a2 c2,v=.tuple #[.slice a 128 c,.slice a2 (P.of b).length c2,.int .i64 0]/\P.of b≠[]/\Own s' a 128 c 5 1 (bvs (P.over d (P.of b))) τ/\Own s' a2 (P.of b).length c2 3 1 (ivs (P.of b)) τ)):=by
 obtain ⟨la,lc,es,hR⟩:=hp.p
 have ok:=hp.ok
 have hyb:=hR.blk
 have hyo:=hR.own
 have hyp:=hR.pts
 have hel:=hR.len
 have hlst:=ok.lst
 have hlenl:=ok.lenl
 refine F200_calls _ _ _ _ _  ?_
 unfold F200
 refine sB_f (by rfl) ?_
 refine tcall (c_ymay p T P τ b _ hT hp hN) ?_
 rintro u w ⟨l,m,rfl,f,g⟩
 have x:=f.size
 refine dSl_i ?_
 refine sB_d (fun h=>?_) (fun h=>?_)
 ·refine ret_t ?_
  exact ⟨((Ch.refl [] s).ch f (by simp)),.inl ⟨rfl,List.eq_nil_of_length_eq_zero (by omega)⟩⟩
 have n:=hp.mv f (rngn (by simp))
 have o:=hd.mv f (tagn (by simp))
 refine tcall (c_yover p T P τ b dc _ _ hT n o hdn (g).sl rfl) ?_
 rintro y z ⟨q,r,rfl,i,j⟩
 have t:=i.size
 refine dSl_i ?_
 refine ret_t ?_
 have k:=g.mv i (tagn (by simp))
 exact ⟨(((Ch.refl [] s).ch f (by simp)).ch i (by simp)),.inr ⟨_,_,_,_,rfl,fun e=>by rw [e] at h;exact absurd rfl h,j,k⟩⟩
theorem c_yblocks (p T:Nat) (P:PatchM) (τ:Nat) (s:TH) (hT:10<=T) (hp:RSet s p T P):TRet Tryz.prog 142 #[.pointer (some ⟨p,0,none⟩)] s fun v s'=>∃a c',v=.slice a P.blocks.length c'/\Ch [] s s'/\Own s' a P.blocks.length c' 3 1 (ivs P.blocks) τ:=by
 obtain ⟨la,lc,es,hR⟩:=hp.p
 have ok:=hp.ok
 have hyb:=hR.blk
 have hyo:=hR.own
 have hyp:=hR.pts
 have hel:=hR.len
 have hlst:=ok.lst
 have hlenl:=ok.lenl
 obtain ⟨M,hM,hM0,hMa,hMb,hMc,hMd,hMe,hMf⟩:=fresh6 s (T+10) τ 0 0 0 0
 refine F142_calls _  ?_
 unfold F142
 refine nz_i (ld_t hyb rfl (dSl_i ?_))
 refine ⟨fun vs H'=>∃s':TH,s'.h=H'/\∃qa qn qc m,vs=[.slice qa qn qc,.int .i64 m]/\Ch [M+9] s s'/\(∃(k μ:Nat) (X:List Int),m=k/\k<=P.l.length/\qn=X.length/\X.length<=k/\M+20<=μ/\Own s' qa qn qc 3 1 (ivs X) μ/\X.Pairwise (· < ·)/\∀y,y∈X↔ ∃p∈P.l.take k,p.blk=y),fun vs H'=>match vs with|[.slice qa qn qc,.int .i64 m]=>((P.l.length:Int) - m).toNat|_=>0,⟨s,rfl,_,_,_,_,rfl,Ch.refl _ _,?_⟩,?_⟩
 ·exact ⟨0,M+20,[],rfl,by omega,rfl,by simp,by omega,Own.nil _ _ _ _,List.Pairwise.nil,by simp⟩
 intro qa qn qc m
 iterate 44 intro _
 intro H_ hI_2
 obtain ⟨aO,rfl,qa_,qn_,qc_,m_,hvs,i,k,μ,X,rfl,hk,rfl,hXk,hμ,ho,hX1,hX2⟩:=hI_2
 cases hvs
 have bw:=i.size
 refine sB_d (fun af=>?_) (fun af=>?_)
 ·obtain ⟨e,he⟩: ∃e,es[k]? =some e:=⟨es[k]'(by omega),by simp⟩
  have hxl:=hR.at_ he
  have hxm:=List.mem_of_getElem? hxl
  obtain ⟨aq,hla⟩: ∃a,la=some a:=hyo.sl.some (fun e2=>by have:=ycell0 he;rw [e2] at this;simp at this)
  subst hla
  refine nz_i (ask_t (by omega) ?_)
  have o:=hyo.mv i (tagn (by simp<;>omega))
  refine ld_sl o.sl (by rw [Int.toNat_natCast];exact ycell0 he) ?_
  refine ld_sl2 o.sl (by rw [Int.toNat_natCast];exact ycell1 he) ?_
  refine ld_sl2 o.sl (by rw [Int.toNat_natCast];exact ycell2 he) ?_
  refine ld_sl2 o.sl (by rw [Int.toNat_natCast];exact ycell3 he) ?_
  refine ld_sl2 o.sl (by rw [Int.toNat_natCast];exact ycell4 he) ?_
  refine al_t (M+9) fun bx bz aR ad B bA=>?_
  refine st_t ad rfl (by simp) fun bB ae Y aS=>?_
  have q:=on_ch ad Y
  refine st_t ae rfl (by simp) fun bC C Z aT=>?_
  have r:=on_ch ae Z
  refine st_t C rfl (by simp) fun bD D aa aU=>?_
  have t:=on_ch C aa
  refine st_t D rfl (by simp) fun bE E ab aV=>?_
  have u:=on_ch D ab
  refine st_t E rfl (by simp) fun d F ac aW=>?_
  have w:=on_ch E ac
  obtain ⟨M2,hM2,hM20,hM2a,hM2b,hM2c,hM2d,hM2e,hM2f⟩:=fresh6 d (M+20) μ (T+10) 0 0 0
  refine ⟨fun vs H'=>∃s':TH,s'.h=H'/\∃pa2 pn2 pc2 put n,vs=[.slice pa2 pn2 pc2,.bool put,.int .i64 n]/\Ch [] d s'/\(∃(j:Nat) (X2:List Int),n=j/\j<=X.length/\pn2=X2.length/\Own s' pa2 pn2 pc2 3 1 (ivs X2) (M2+5)/\InsJ e.1.blk (X.take j) X2 put),fun vs H'=>match vs with|[.slice pa2 pn2 pc2,.bool put,.int .i64 n]=>((X.length:Int) - n).toNat|_=>0,⟨d,rfl,_,_,_,_,_,rfl,Ch.refl _ _,?_⟩,?_⟩
  ·exact ⟨0,[],rfl,by omega,rfl,Own.nil _ _ _ _,InsJ.nil _⟩
  intro pa2 pn2 pc2 put n
  iterate 26 intro _
  intro H_ hI_25
  obtain ⟨ag,rfl,pa2_,pn2_,pc2_,put_,n_,hvs,b,j,X2,rfl,hj,rfl,ho2,hI⟩:=hI_25
  cases hvs
  have aX:=b.size
  have hIl:=hI.len
  rw [List.length_take] at hIl
  refine sB_d (fun ah=>?_) (fun ah=>?_)
  ·have ai:=((((((B.app q).app r).app t).app u).app w).app b)
   have G:=ho.mv ai (tagn (by simp<;>omega))
   obtain ⟨aY,rfl⟩:=G.ne_none (by omega)
   refine nz_i (ask_t (by omega) ?_)
   refine ld_iv G.sl (by omega) (by omega) fun H c=>?_
   rw [Int.toNat_natCast] at c
   refine dInt_i ?_
   refine jn_u ?_
   have x:=F.ch b (by simp)
   refine ld_t x rfl (dInt_i ?_)
   refine sB_d (fun aj=>?_) (fun aj=>?_)
   ·intro _
    intros
    refine dBl_i ?_
    refine jn_u ?_
    refine jn_u ?_
    refine sB_f (by rfl) ?_
    intro _
    intros
    refine dBl_i (sB_f (by rfl) ?_)
    intro _
    intros
    refine dSl_i (dBl_i ?_)
    refine al_t (M+9) fun z aZ f ak I a0=>?_
    have al:=ho2.mv I (tagn (by simp))
    refine app_i1 u33 in3 al ak (by omega) fun am a1 a2 an J=>?_
    have a3:=J.size
    refine dSl_i (wr_t (by omega) ?_)
    refine ⟨⟨am,rfl,_,_,_,_,_,rfl,((((Ch.refl [] d).ch b (by simp)).ch I (by simp)).fr J hM2 (by simp)),?_⟩,?_⟩
    ·exact ⟨j+1,_,by omega,by omega,by simp,an,by rw [take_get c];rw [show H=e.1.blk by omega];exact hI.eqb (by rw [←show H=e.1.blk by omega];exact (by rw [←take_get c];exact hX1.sublist (List.take_sublist _ _)))⟩
    simp only [];omega
   intro _
   intros
   refine dBl_i ?_
   refine jn_u ?_
   refine jn_u ?_
   refine sB_n (fun g=>?_) (fun g=>?_)
   ·refine ld_t x rfl (dInt_i ?_)
    intro _
    intros
    refine dBl_i ?_
    refine sB_d (fun ao=>?_) (fun ao=>?_)
    ·refine ld_t x rfl (dInt_i ?_)
     refine al_t (M+9) fun a4 a5 aP ap K a6=>?_
     have ar:=ho2.mv K (tagn (by simp))
     refine app_i1 u33 in3 ar ap (by omega) fun a7 a8 a9 au L=>?_
     have ba:=L.size
     refine dSl_i ?_
     intro _
     intros
     refine dSl_i (dBl_i ?_)
     refine al_t (M+9) fun z bb f av N bc=>?_
     have aw:=au.mv N (tagn (by simp))
     refine app_i1 u33 in3 aw av (by omega) fun ax bd be ay O=>?_
     have bf:=O.size
     refine dSl_i (wr_t (by omega) ?_)
     refine ⟨⟨ax,rfl,_,_,_,_,_,rfl,((((((Ch.refl [] d).ch b (by simp)).ch K (by simp)).fr L hM2 (by simp)).ch N (by simp)).fr O hM2 (by simp)),?_⟩,?_⟩
     ·subst g
      exact ⟨j+1,_,by omega,by omega,by simp,ay,by rw [take_get c];exact hI.addG (by rw [←take_get c];exact hX1.sublist (List.take_sublist _ _)) (by omega)⟩
     simp only [];omega
    intro _
    intros
    refine dSl_i (dBl_i ?_)
    refine al_t (M+9) fun z bg f az Q bh=>?_
    have aA:=ho2.mv Q (tagn (by simp))
    refine app_i1 u33 in3 aA az (by omega) fun aB bi bj aC R=>?_
    have bk:=R.size
    refine dSl_i (wr_t (by omega) ?_)
    refine ⟨⟨aB,rfl,_,_,_,_,_,rfl,((((Ch.refl [] d).ch b (by simp)).ch Q (by simp)).fr R hM2 (by simp)),?_⟩,?_⟩
    ·subst g
     exact ⟨j+1,_,by omega,by omega,by simp,aC,by rw [take_get c];exact hI.addL (by rw [←take_get c];exact hX1.sublist (List.take_sublist _ _)) (by omega)⟩
    simp only [];omega
   intro _
   intros
   refine dBl_i (sB_f (by rfl) ?_)
   intro _
   intros
   refine dSl_i (dBl_i ?_)
   refine al_t (M+9) fun z bl f aD S bm=>?_
   have aE:=ho2.mv S (tagn (by simp))
   refine app_i1 u33 in3 aE aD (by omega) fun aF bn bo aG U=>?_
   have bp:=U.size
   refine dSl_i (wr_t (by omega) ?_)
   refine ⟨⟨aF,rfl,_,_,_,_,_,rfl,((((Ch.refl [] d).ch b (by simp)).ch S (by simp)).fr U hM2 (by simp)),?_⟩,?_⟩
   ·subst g
    exact ⟨j+1,_,by omega,by omega,by simp,aG,by rw [take_get c];exact hI.addT (by rw [←take_get c];exact hX1.sublist (List.take_sublist _ _))⟩
   simp only [];omega
  refine jn_u ?_
  refine sB_n (fun A=>?_) (fun A=>?_)
  ·have aH:=F.ch b (by simp)
   refine ld_t aH rfl (dInt_i ?_)
   refine al_t (M+9) fun bq br aQ aI V bs=>?_
   have aJ:=ho2.mv V (tagn (by simp))
   refine app_i1 u33 in3 aJ aI (by omega) fun aK bt bu aL W=>?_
   have bv:=W.size
   refine dSl_i ?_
   intro _
   intros
   refine dSl_i (wr_t (by omega) ?_)
   have aM:=((((((((i.app B).app q).app r).app t).app u).app w).app b).app V)
   refine ⟨⟨aK,rfl,_,_,_,_,rfl,(((Ch.refl [M+9] s).ch aM (by simp)).fr W hM (by simp<;>omega)),?_⟩,?_⟩
   ·subst A
    obtain rfl:j=X.length:=by omega
    rw [List.take_length] at hI
    have hlX:=congrArg List.length (hI.no rfl).1
    exact ⟨k+1,M2+5,_,by omega,by omega,by simp,by simp;omega,by omega,aL,hI.finF.1,blk_mem hxl hX2 hI.finF.2⟩
   simp only [];omega
  intro _
  intros
  refine dSl_i (wr_t (by omega) ?_)
  have aN:=(((((((i.app B).app q).app r).app t).app u).app w).app b)
  refine ⟨⟨ag,rfl,_,_,_,_,rfl,((Ch.refl [M+9] s).ch aN (by simp)),?_⟩,?_⟩
  ·subst A
   obtain rfl:j=X.length:=by omega
   rw [List.take_length] at hI
   exact ⟨k+1,M2+5,_,by omega,by omega,rfl,by omega,by omega,ho2,hI.srt,blk_mem hxl hX2 hI.finT⟩
  simp only [];omega
 obtain rfl:k=P.l.length:=by omega
 have e9:X=P.blocks:=srt_ext hX1 (cpt_srt (srtd _)) (fun y=>by rw [hX2,List.take_length];exact mem_blocks.symm)
 subst e9
 exact ret_t' (s':=remark aO μ τ) rfl ⟨_,_,rfl,remark_ch ((Ch.refl [] s).fr i hM (by simp)) hM (by omega),(ho).remark⟩
set_option maxHeartbeats 4000000 in
/-- (*bollard/bollardref07.Set).Add -/
theorem c_yadd (p T:Nat) (P:PatchM) (b o:Int) {xa:Option Addr} {xn:Nat} (xc:Nat) {y:List UInt8} {τx:Nat} (s:TH) (hT:10<=T) (hp:RSet s p T P) (hx:Sl s xa (bvs y) τx) (hxn:y.length=xn) (hl:P.last<1000000) (hxb:xn<=140737488351232):TRet Tryz.prog 109 #[.pointer (some ⟨p,0,none⟩),.int .i64 b,.int .i64 o,.slice xa xn xc,.slice none 0 0] s fun v s'=>v=.tuple #[.int .i64 (P.add b o y []).2.1,.int .i64 (P.add b o y []).2.2]/\Ch [T,T+1] s s'/\RSet s' p T (P.add b o y []).1:=by
 obtain ⟨la,lc,es,hR⟩:=hp.p
 have ok:=hp.ok
 have hyb:=hR.blk
 have hyo:=hR.own
 have hyp:=hR.pts
 have hel:=hR.len
 have hlst:=ok.lst
 have hlenl:=ok.lenl
 subst hxn
 obtain ⟨M,hM,hM0,hMa,hMb,hMc,hMd,hMe,hMf⟩:=fresh6 s (T+10) τx 0 0 0 0
 refine F109_calls _ _ _ _ _ _ _ _ _  ?_
 unfold F109
 refine jn_u ?_
 refine sB_d (fun ea=>?_) (fun ea=>?_)
 ·intro _
  intros
  refine dBl_i (sB_t (by rfl) ?_)
  refine ret_t ?_
  rw [show P.add b o y []=(P,0,1) from by unfold PatchM.add;rw [if_pos (by unfold fitsP;omega)]]
  exact ⟨rfl,(Ch.refl [T,T+1] s),hp⟩
 refine sB_d (fun eb=>?_) (fun eb=>?_)
 ·intro _
  intros
  refine dBl_i (sB_t (by rfl) ?_)
  refine ret_t ?_
  rw [show P.add b o y []=(P,0,1) from by unfold PatchM.add;rw [if_pos (by unfold fitsP;omega)]]
  exact ⟨rfl,(Ch.refl [T,T+1] s),hp⟩
 refine sB_d (fun ec=>?_) (fun ec=>?_)
 ·intro _
  intros
  refine dBl_i (sB_t (by rfl) ?_)
  refine ret_t ?_
  rw [show P.add b o y []=(P,0,1) from by unfold PatchM.add;rw [if_pos (by unfold fitsP;omega)]]
  exact ⟨rfl,(Ch.refl [T,T+1] s),hp⟩
 refine sB_d (fun ed=>?_) (fun ed=>?_)
 ·intro _
  intros
  refine dBl_i (sB_t (by rfl) ?_)
  refine ret_t ?_
  rw [show P.add b o y []=(P,0,1) from by unfold PatchM.add;rw [if_pos (by unfold fitsP;omega)]]
  exact ⟨rfl,(Ch.refl [T,T+1] s),hp⟩
 refine wr_t (by omega) ?_
 intro _
 intros
 refine dBl_i ?_
 refine sB_d (fun ee=>?_) (fun ee=>?_)
 ·refine ret_t ?_
  rw [show P.add b o y []=(P,0,1) from by unfold PatchM.add;rw [if_pos (by unfold fitsP;omega)]]
  exact ⟨rfl,(Ch.refl [T,T+1] s),hp⟩
 refine ⟨fun vs H'=>∃s':TH,s'.h=H'/\∃i,vs=[.int .i64 i]/\Ch [] s s'/\(i=0),fun vs H'=>match vs with|[.int .i64 i]=>(0 - i).toNat|_=>0,⟨s,rfl,_,rfl,Ch.refl _ _,?_⟩,?_⟩
 ·rfl
 intro i
 iterate 17 intro _
 intro H_ hI_2
 obtain ⟨hy,rfl,i_,hvs,an,rfl⟩:=hI_2
 cases hvs
 have hz:=an.size
 refine sB_d (fun ef=>by exfalso;omega) (fun ef=>?_)
 refine nz_i ?_
 have A:=hyb.ch an (by simp)
 refine ld_t A rfl (dInt_i (wr_t (by omega) ?_))
 refine ⟨?_,?_⟩
 ·refine al_t (M+1) fun hA hB f8 d9 B hC=>?_
  refine ⟨?_,?_⟩
  ·have eK:=A.ch B (by simp)
   refine ld_t eK rfl (dInt_i ?_)
   rfl
  refine ⟨?_,?_⟩
  ·have eg:=hx.mv (an.app B) (tagn (by simp))
   refine app_bv (xs:=[]) u49 in5 (d9.own0 1) eg rfl (by omega) fun f9 oa oc eh G=>?_
   have ga:=G.size
   have ho0:=eh
   rw [List.nil_append,Nat.zero_add] at ho0
   simp only [Nat.zero_add]
   refine dSl_i ?_
   refine ⟨?_,?_⟩
   ·have ei:=A.ch (B.app G) (by simp<;>omega)
    refine ld_t ei rfl (dInt_i ?_)
    rfl
   refine al_t (M+2) fun eL hD gb b2 al gc=>?_
   refine ⟨?_,?_⟩
   ·have ej:=((B.app G).app al)
    have ek:=A.ch ej (by simp<;>omega)
    refine ld_t ek rfl (dInt_i ?_)
    rfl
   refine st_t b2 rfl (by simp) fun hE b3 cP gd=>?_
   have ay:=on_ch b2 cP
   refine st_t b3 rfl (by simp) fun hF b4 cQ ge=>?_
   have az:=on_ch b3 cQ
   refine st_t b4 rfl (by simp) fun hG b5 cR gf=>?_
   have aA:=on_ch b4 cR
   refine st_t b5 rfl (by simp) fun hH b6 cS gg=>?_
   have aB:=on_ch b5 cS
   refine st_t b6 rfl (by simp) fun bh el cT gh=>?_
   have aC:=on_ch b6 cT
   refine nz_i ?_
   have em:=(((((((B.app G).app al).app ay).app az).app aA).app aB).app aC)
   have b7:=A.ch em (by simp<;>omega)
   refine ld_t b7 rfl (dSl_i ?_)
   refine ⟨fun vs H'=>∃s':TH,s'.h=H'/\∃j,vs=[.int .i64 j]/\Ch [M+2,M+3,M+9] bh s'/\(∃(k:Nat) (na:Option Addr) (nc:Nat),j=k/\k<=P.l.length/\Blk s' eL [.int .i64 (P.last+1),.int .i64 b,.int .i64 o,.slice oa y.length oc,.slice na (((P.l.take k).filter fun x=>decide (x.id∈([]:List Int))||ovx b o y.length x).map (·.id)).length nc] 163 (M+2)/\Own s' na (((P.l.take k).filter fun x=>decide (x.id∈([]:List Int))||ovx b o y.length x).map (·.id)).length nc 3 1 (ivs (((P.l.take k).filter fun x=>decide (x.id∈([]:List Int))||ovx b o y.length x).map (·.id))) (M+3)),fun vs H'=>match vs with|[.int .i64 j]=>((P.l.length:Int) - j).toNat|_=>0,⟨bh,rfl,_,rfl,Ch.refl _ _,?_⟩,?_⟩
   ·exact ⟨0,none,0,rfl,by omega,el,Own.nil _ _ _ _⟩
   intro j
   iterate 21 intro _
   intro H_ hI_39
   obtain ⟨gi,rfl,j_,hvs,C,k,na,nc,rfl,hk,hpb,ho2⟩:=hI_39
   cases hvs
   have gj:=C.size
   have hfl:(((P.l.take k).filter fun x=>decide (x.id∈([]:List Int))||ovx b o y.length x).map (·.id)).length<=k:=by rw [List.length_map];exact Nat.le_trans (List.length_filter_le _ _) (by rw [List.length_take];omega)
   refine sB_d (fun aD=>?_) (fun aD=>?_)
   ·refine jn_u ?_
    obtain ⟨e,he⟩: ∃e,es[k]? =some e:=⟨es[k]'(by omega),by simp⟩
    have hxl:=hR.at_ he
    have hxm:=List.mem_of_getElem? hxl
    obtain ⟨aq,hla⟩: ∃a,la=some a:=hyo.sl.some (fun e2=>by have:=ycell0 he;rw [e2] at this;simp at this)
    have hft:=ok.fit e.1 hxm
    subst hla
    refine nz_i (ask_t (by omega) ?_)
    have en:=(((((((((an.app B).app G).app al).app ay).app az).app aA).app aB).app aC).app C)
    have aE:=hyo.mv en (tagn (by simp<;>omega))
    refine ld_sl aE.sl (by rw [Int.toNat_natCast];exact ycell0 he) ?_
    refine ld_sl2 aE.sl (by rw [Int.toNat_natCast];exact ycell1 he) ?_
    refine ld_sl2 aE.sl (by rw [Int.toNat_natCast];exact ycell2 he) ?_
    refine ld_sl2 aE.sl (by rw [Int.toNat_natCast];exact ycell3 he) ?_
    refine ld_sl2 aE.sl (by rw [Int.toNat_natCast];exact ycell4 he) ?_
    refine al_t (M+9) fun gk gl eM b8 a6 gm=>?_
    refine st_t b8 rfl (by simp) fun gn b9 cU go=>?_
    have a7:=on_ch b8 cU
    refine st_t b9 rfl (by simp) fun gp ca cV gq=>?_
    have a8:=on_ch b9 cV
    refine st_t ca rfl (by simp) fun gr cb cW gs=>?_
    have a9:=on_ch ca cW
    refine st_t cb rfl (by simp) fun gt cc cX gu=>?_
    have ba:=on_ch cb cX
    refine st_t cc rfl (by simp) fun gv cd cY gw=>?_
    have bb:=on_ch cc cY
    refine jn_u ?_
    refine ld_t cd rfl (dInt_i ?_)
    refine tcall (c_yhas7 0 e.1.id (sl_nil _ 0) rfl (by omega)) ?_
    rintro gx gy ⟨rfl,aF⟩
    have gz:=aF.size
    rw [show decide (e.1.id∈([]:List Int))=false from by simp]
    refine dBl_i (sB_f (by rfl) ?_)
    have bc:=((((((a6.app a7).app a8).app a9).app ba).app bb).app aF)
    have H:=hpb.ch bc (by simp)
    refine ld_t H rfl (ld_t H rfl (ld_t H rfl (ld_t H rfl (ld_t H rfl ?_))))
    have am:=cd.ch aF (by simp)
    refine ld_t am rfl (ld_t am rfl (ld_t am rfl (ld_t am rfl (ld_t am rfl ?_))))
    refine tcall (c_yoverlap _ _ _ _ _ _ _ _ _ _ _ _ _ _ _ _ _ _ _ (by omega) (by omega)) ?_
    rintro gA eo ⟨rfl,D⟩
    have gB:=D.size
    refine dBl_i ?_
    intro _
    intros
    refine dBl_i ?_
    refine sB_d (fun aG=>?_) (fun aG=>?_)
    ·have ce:=H.ch D (by simp)
     refine ld_t ce rfl (dSl_i ?_)
     have ep:=am.ch D (by simp)
     refine ld_t ep rfl (dInt_i ?_)
     refine al_t (M+9) fun gC gD eN er bd gE=>?_
     have et:=((bc.app D).app bd)
     have eu:=ho2.mv et (tagn (by simp))
     refine app_i1 u33 in3 eu er (by omega) fun gF gG gH ev be=>?_
     have gI:=be.size
     refine dSl_i ?_
     have cf:=ce.ch (bd.app be) (by simp)
     refine st_t cf rfl (by simp) fun ew ex cZ gJ=>?_
     have cg:=on_ch cf cZ
     intro _
     intros
     refine wr_t (by omega) ?_
     have ey:=(((((((((((C.app a6).app a7).app a8).app a9).app ba).app bb).app aF).app D).app bd).app be).app cg)
     refine ⟨⟨ew,rfl,_,rfl,((Ch.refl [M+2,M+3,M+9] bh).ch ey (by simp)),?_⟩,?_⟩
     ·have ez:=ev.mv cg (tagn (by simp))
      have hq:(decide (e.1.id∈([]:List Int))||ovx b o y.length e.1)=true:=by simp [ovx];assumption
      have ht:=take_filt (fun x:PatM=>decide (x.id∈([]:List Int))||ovx b o y.length x) hxl
      rw [if_pos hq] at ht
      have hb:=ex
      have ho:=ez
      exact ⟨k+1,_,_,by omega,by omega,by rw [ht,List.map_append,List.length_append];exact hb,by rw [ht,List.map_append,List.length_append];exact ho⟩
     simp only [];omega
    intro _
    intros
    refine wr_t (by omega) ?_
    have eA:=((((((((C.app a6).app a7).app a8).app a9).app ba).app bb).app aF).app D)
    refine ⟨⟨eo,rfl,_,rfl,((Ch.refl [M+2,M+3,M+9] bh).ch eA (by simp)),?_⟩,?_⟩
    ·have eB:=H.ch D (by simp)
     have eC:=ho2.mv (bc.app D) (tagn (by simp))
     have hq:(decide (e.1.id∈([]:List Int))||ovx b o y.length e.1)=false:=by simp [ovx];assumption
     have ht:=take_filt (fun x:PatM=>decide (x.id∈([]:List Int))||ovx b o y.length x) hxl
     rw [if_neg (by rw [hq];simp)] at ht
     have hb:=eB
     have ho:=eC
     exact ⟨k+1,_,_,by omega,by omega,by rw [ht];exact hb,by rw [ht];exact ho⟩
    simp only [];omega
   refine nz_i ?_
   have bf:=b7.ch C (by simp<;>omega)
   refine ld_t bf rfl (dInt_i (wr_t (by omega) (nz_i ?_)))
   refine st_t (r:=p) (i:=1) bf rfl (by simp) fun gK bg c0 eO=>?_
   have aH:=on_ch bf c0
   refine nz_i (ld_t bg rfl (dSl_i ?_))
   have I:=hpb.ch aH (by simp<;>omega)
   refine ld_t I rfl (ld_t I rfl (ld_t I rfl (ld_t I rfl (ld_t I rfl ?_))))
   refine al_t (M+9) fun gL gM eP c1 J eQ=>?_
   refine ⟨?_,?_⟩
   ·have c2:=bg.ch J (by simp)
    refine ld_t c2 rfl (dSl_i ?_)
    rfl
   have bi:=(((((((((((an.app B).app G).app al).app ay).app az).app aA).app aB).app aC).app C).app aH).app J)
   have bj:=hyo.mv bi (tagn (by simp<;>omega))
   refine app_i u137 in163 rfl bj (c1).sl (m:=1) (k:=5) rfl (by intro u hu;simp at hu;rcases hu with rfl|rfl|rfl|rfl|rfl<;>rfl) (by simp) (by unfold maxLen;omega) fun eR la2 lc2 ci cj _=>?_
   have K:=cj.ch bj (T:=[T+1]) (by simp)
   have eS:=K.size
   refine dSl_i (nz_i ?_)
   have bk:=bg.ch (J.app K) (by simp)
   refine st_t bk rfl (by simp) fun eD bl ck eT=>?_
   have ao:=on_ch bk ck
   refine nz_i (ld_t bl rfl (dInt_i ?_))
   have c3:=ci.mv ao (tagn (by simp))
   have c4:=((bi.app K).app ao)
   have c5:=hyp.mv c4 (tagn (by simp<;>omega))
   have c6:=((((((((((al.app ay).app az).app aA).app aB).app aC).app C).app aH).app J).app K).app ao)
   have c7:=ho0.mv c6 (tagn (by simp<;>omega))
   have bm:=(((aH.app J).app K).app ao)
   have c8:=ho2.mv bm (tagn (by simp<;>omega))
   obtain rfl:k=P.l.length:=by omega
   have hfit:fitsP b o y.length:=⟨by omega,by omega,by omega,by omega,by omega⟩
   have hadd:P.add b o y []=({ P with last:=P.last+1,l:=P.l++[P.newP b o y []] },P.last+1,0):=add_ok hfit (fun n hn=>by cases hn)
   have hyb9:=bl
   have hyo9:=c3
   have hyp9:=c5
   have ho9:=c7
   have hn9:=c8
   rw [List.take_length] at hn9 hyo9
   rw [hadd]
   refine ret_t' (s':=remark (remark eD (M+1) (T+2)) (M+3) (T+2)) rfl ⟨rfl,remark_ch (remark_ch ((((((((((((Ch.refl [T,T+1] s).ch an (by simp)).ch B (by simp)).fr G hM (by simp)).ch al (by simp)).fr ay hM (by simp)).fr az hM (by simp)).fr aA hM (by simp)).fr aB hM (by simp)).fr aC hM (by simp)).fr C hM (by simp)).ch bm (by simp)) hM (by omega)) hM (by omega),⟨⟨la2,lc2,es++[(P.newP b o y [],(oa,oc),(na,nc))],⟨?_,?_,?_,?_⟩⟩,ok.add hfit hl⟩⟩
   ·have h:=(hyb9.keep (μ:=M+1) (τ:=T+2) (by omega)).keep (μ:=M+3) (τ:=T+2) (by omega)
    rw [List.length_append];exact h
   ·have h:=(hyo9.keep (μ:=M+1) (τ:=T+2) (by omega)).keep (μ:=M+3) (τ:=T+2) (by omega)
    rw [List.length_append,List.flatMap_append];exact h
   ·exact ((hyp9.keep (μ:=M+1) (by omega)).keep (μ:=M+3) (by omega)).snoc (ho9.remark.keep (by omega)).sl ((hn9.keep (by omega)).remark).sl
   rw [List.map_append,hR.eq];rfl
  refine al_t (M+2) fun eE gN eU c9 L eV=>?_
  refine ⟨?_,?_⟩
  ·have da:=A.ch (B.app L) (by simp)
   refine ld_t da rfl (dInt_i ?_)
   rfl
  have db:=d9.ch L (by simp)
  have ap:=((an.app B).app L)
  have dc:=hx.mv ap (tagn (by simp))
  refine app_bv (xs:=[]) u49 in5 (db.own0 1) dc rfl (by omega) fun eW oa oc dd q=>?_
  have eX:=q.size
  have ho0:=dd
  rw [List.nil_append,Nat.zero_add] at ho0
  simp only [Nat.zero_add]
  refine dSl_i ?_
  refine ⟨?_,?_⟩
  ·have de:=((B.app L).app q)
   have df:=A.ch de (by simp<;>omega)
   refine ld_t df rfl (dInt_i ?_)
   rfl
  have bn:=c9.ch q (by simp)
  refine st_t bn rfl (by simp) fun gO bo cl eY=>?_
  have N:=on_ch bn cl
  refine st_t bo rfl (by simp) fun gP bp cm eZ=>?_
  have O:=on_ch bo cm
  refine st_t bp rfl (by simp) fun gQ bq cn e0=>?_
  have Q:=on_ch bp cn
  refine st_t bq rfl (by simp) fun gR br co e1=>?_
  have R:=on_ch bq co
  refine st_t br rfl (by simp) fun aI dg cp e3=>?_
  have S:=on_ch br cp
  refine nz_i ?_
  have dh:=(((((((B.app L).app q).app N).app O).app Q).app R).app S)
  have bs:=A.ch dh (by simp<;>omega)
  refine ld_t bs rfl (dSl_i ?_)
  refine ⟨fun vs H'=>∃s':TH,s'.h=H'/\∃j,vs=[.int .i64 j]/\Ch [M+2,M+3,M+9] aI s'/\(∃(k:Nat) (na:Option Addr) (nc:Nat),j=k/\k<=P.l.length/\Blk s' eE [.int .i64 (P.last+1),.int .i64 b,.int .i64 o,.slice oa y.length oc,.slice na (((P.l.take k).filter fun x=>decide (x.id∈([]:List Int))||ovx b o y.length x).map (·.id)).length nc] 163 (M+2)/\Own s' na (((P.l.take k).filter fun x=>decide (x.id∈([]:List Int))||ovx b o y.length x).map (·.id)).length nc 3 1 (ivs (((P.l.take k).filter fun x=>decide (x.id∈([]:List Int))||ovx b o y.length x).map (·.id))) (M+3)),fun vs H'=>match vs with|[.int .i64 j]=>((P.l.length:Int) - j).toNat|_=>0,⟨aI,rfl,_,rfl,Ch.refl _ _,?_⟩,?_⟩
  ·exact ⟨0,none,0,rfl,by omega,dg,Own.nil _ _ _ _⟩
  intro j
  iterate 21 intro _
  intro H_ hI_155
  obtain ⟨e4,rfl,j_,hvs,c,k,na,nc,rfl,hk,hpb,ho2⟩:=hI_155
  cases hvs
  have e5:=c.size
  have hfl:(((P.l.take k).filter fun x=>decide (x.id∈([]:List Int))||ovx b o y.length x).map (·.id)).length<=k:=by rw [List.length_map];exact Nat.le_trans (List.length_filter_le _ _) (by rw [List.length_take];omega)
  refine sB_d (fun aD=>?_) (fun aD=>?_)
  ·refine jn_u ?_
   obtain ⟨e,he⟩: ∃e,es[k]? =some e:=⟨es[k]'(by omega),by simp⟩
   have hxl:=hR.at_ he
   have hxm:=List.mem_of_getElem? hxl
   obtain ⟨aq,hla⟩: ∃a,la=some a:=hyo.sl.some (fun e2=>by have:=ycell0 he;rw [e2] at this;simp at this)
   have hft:=ok.fit e.1 hxm
   subst hla
   refine nz_i (ask_t (by omega) ?_)
   have di:=(((((((ap.app q).app N).app O).app Q).app R).app S).app c)
   have U:=hyo.mv di (tagn (by simp<;>omega))
   refine ld_sl U.sl (by rw [Int.toNat_natCast];exact ycell0 he) ?_
   refine ld_sl2 U.sl (by rw [Int.toNat_natCast];exact ycell1 he) ?_
   refine ld_sl2 U.sl (by rw [Int.toNat_natCast];exact ycell2 he) ?_
   refine ld_sl2 U.sl (by rw [Int.toNat_natCast];exact ycell3 he) ?_
   refine ld_sl2 U.sl (by rw [Int.toNat_natCast];exact ycell4 he) ?_
   refine al_t (M+9) fun gS gT e6 bt aJ e7=>?_
   refine st_t bt rfl (by simp) fun gU bu cq e8=>?_
   have aK:=on_ch bt cq
   refine st_t bu rfl (by simp) fun gV bv cr e9=>?_
   have aL:=on_ch bu cr
   refine st_t bv rfl (by simp) fun gW bw cs fa=>?_
   have aM:=on_ch bv cs
   refine st_t bw rfl (by simp) fun gX bx ct fb=>?_
   have aN:=on_ch bw ct
   refine st_t bx rfl (by simp) fun gY bz cu fc=>?_
   have aO:=on_ch bx cu
   refine jn_u ?_
   refine ld_t bz rfl (dInt_i ?_)
   refine tcall (c_yhas7 0 e.1.id (sl_nil _ 0) rfl (by omega)) ?_
   rintro fd fe ⟨rfl,V⟩
   have ff:=V.size
   rw [show decide (e.1.id∈([]:List Int))=false from by simp]
   refine dBl_i (sB_f (by rfl) ?_)
   have aP:=((((((aJ.app aK).app aL).app aM).app aN).app aO).app V)
   have t:=hpb.ch aP (by simp)
   refine ld_t t rfl (ld_t t rfl (ld_t t rfl (ld_t t rfl (ld_t t rfl ?_))))
   have E:=bz.ch V (by simp)
   refine ld_t E rfl (ld_t E rfl (ld_t E rfl (ld_t E rfl (ld_t E rfl ?_))))
   refine tcall (c_yoverlap _ _ _ _ _ _ _ _ _ _ _ _ _ _ _ _ _ _ _ (by omega) (by omega)) ?_
   rintro fg dj ⟨rfl,d⟩
   have fh:=d.size
   refine dBl_i ?_
   intro _
   intros
   refine dBl_i ?_
   refine sB_d (fun aG=>?_) (fun aG=>?_)
   ·have bA:=t.ch d (by simp)
    refine ld_t bA rfl (dSl_i ?_)
    have dk:=E.ch d (by simp)
    refine ld_t dk rfl (dInt_i ?_)
    refine al_t (M+9) fun gZ g0 fi dl aQ fj=>?_
    have dm:=((aP.app d).app aQ)
    have dn:=ho2.mv dm (tagn (by simp))
    refine app_i1 u33 in3 dn dl (by omega) fun fk fl fm dp aR=>?_
    have fn:=aR.size
    refine dSl_i ?_
    have bB:=bA.ch (aQ.app aR) (by simp)
    refine st_t bB rfl (by simp) fun eF dq cv fo=>?_
    have bC:=on_ch bB cv
    intro _
    intros
    refine wr_t (by omega) ?_
    have dr:=(((((((((((c.app aJ).app aK).app aL).app aM).app aN).app aO).app V).app d).app aQ).app aR).app bC)
    refine ⟨⟨eF,rfl,_,rfl,((Ch.refl [M+2,M+3,M+9] aI).ch dr (by simp)),?_⟩,?_⟩
    ·have ds:=dp.mv bC (tagn (by simp))
     have hq:(decide (e.1.id∈([]:List Int))||ovx b o y.length e.1)=true:=by simp [ovx];assumption
     have ht:=take_filt (fun x:PatM=>decide (x.id∈([]:List Int))||ovx b o y.length x) hxl
     rw [if_pos hq] at ht
     have hb:=dq
     have ho:=ds
     exact ⟨k+1,_,_,by omega,by omega,by rw [ht,List.map_append,List.length_append];exact hb,by rw [ht,List.map_append,List.length_append];exact ho⟩
    simp only [];omega
   intro _
   intros
   refine wr_t (by omega) ?_
   have dt:=((((((((c.app aJ).app aK).app aL).app aM).app aN).app aO).app V).app d)
   refine ⟨⟨dj,rfl,_,rfl,((Ch.refl [M+2,M+3,M+9] aI).ch dt (by simp)),?_⟩,?_⟩
   ·have du:=t.ch d (by simp)
    have dv:=ho2.mv (aP.app d) (tagn (by simp))
    have hq:(decide (e.1.id∈([]:List Int))||ovx b o y.length e.1)=false:=by simp [ovx];assumption
    have ht:=take_filt (fun x:PatM=>decide (x.id∈([]:List Int))||ovx b o y.length x) hxl
    rw [if_neg (by rw [hq];simp)] at ht
    have hb:=du
    have ho:=dv
    exact ⟨k+1,_,_,by omega,by omega,by rw [ht];exact hb,by rw [ht];exact ho⟩
   simp only [];omega
  refine nz_i ?_
  have aS:=bs.ch c (by simp<;>omega)
  refine ld_t aS rfl (dInt_i (wr_t (by omega) (nz_i ?_)))
  refine st_t (r:=p) (i:=1) aS rfl (by simp) fun g1 aT cw fp=>?_
  have ar:=on_ch aS cw
  refine nz_i (ld_t aT rfl (dSl_i ?_))
  have W:=hpb.ch ar (by simp<;>omega)
  refine ld_t W rfl (ld_t W rfl (ld_t W rfl (ld_t W rfl (ld_t W rfl ?_))))
  refine al_t (M+9) fun g2 g3 fq dw X fs=>?_
  refine ⟨?_,?_⟩
  ·have dx:=aT.ch X (by simp)
   refine ld_t dx rfl (dSl_i ?_)
   rfl
  have bD:=(((((((((ap.app q).app N).app O).app Q).app R).app S).app c).app ar).app X)
  have bE:=hyo.mv bD (tagn (by simp<;>omega))
  refine app_i u137 in163 rfl bE (dw).sl (m:=1) (k:=5) rfl (by intro u hu;simp at hu;rcases hu with rfl|rfl|rfl|rfl|rfl<;>rfl) (by simp) (by unfold maxLen;omega) fun ft la2 lc2 cx cy _=>?_
  have Y:=cy.ch bE (T:=[T+1]) (by simp)
  have fu:=Y.size
  refine dSl_i (nz_i ?_)
  have bF:=aT.ch (X.app Y) (by simp)
  refine st_t bF rfl (by simp) fun eG bG cz fv=>?_
  have au:=on_ch bF cz
  refine nz_i (ld_t bG rfl (dInt_i ?_))
  have dy:=cx.mv au (tagn (by simp))
  have dz:=((bD.app Y).app au)
  have dA:=hyp.mv dz (tagn (by simp<;>omega))
  have dB:=(((((((((N.app O).app Q).app R).app S).app c).app ar).app X).app Y).app au)
  have dC:=ho0.mv dB (tagn (by simp<;>omega))
  have bH:=(((ar.app X).app Y).app au)
  have dD:=ho2.mv bH (tagn (by simp<;>omega))
  obtain rfl:k=P.l.length:=by omega
  have hfit:fitsP b o y.length:=⟨by omega,by omega,by omega,by omega,by omega⟩
  have hadd:P.add b o y []=({ P with last:=P.last+1,l:=P.l++[P.newP b o y []] },P.last+1,0):=add_ok hfit (fun n hn=>by cases hn)
  have hyb9:=bG
  have hyo9:=dy
  have hyp9:=dA
  have ho9:=dC
  have hn9:=dD
  rw [List.take_length] at hn9 hyo9
  rw [hadd]
  refine ret_t' (s':=remark (remark eG (M+1) (T+2)) (M+3) (T+2)) rfl ⟨rfl,remark_ch (remark_ch ((((((((((Ch.refl [T,T+1] s).ch ap (by simp)).fr q hM (by simp)).fr N hM (by simp)).fr O hM (by simp)).fr Q hM (by simp)).fr R hM (by simp)).fr S hM (by simp)).fr c hM (by simp)).ch bH (by simp)) hM (by omega)) hM (by omega),⟨⟨la2,lc2,es++[(P.newP b o y [],(oa,oc),(na,nc))],⟨?_,?_,?_,?_⟩⟩,ok.add hfit hl⟩⟩
  ·have h:=(hyb9.keep (μ:=M+1) (τ:=T+2) (by omega)).keep (μ:=M+3) (τ:=T+2) (by omega)
   rw [List.length_append];exact h
  ·have h:=(hyo9.keep (μ:=M+1) (τ:=T+2) (by omega)).keep (μ:=M+3) (τ:=T+2) (by omega)
   rw [List.length_append,List.flatMap_append];exact h
  ·exact ((hyp9.keep (μ:=M+1) (by omega)).keep (μ:=M+3) (by omega)).snoc (ho9.remark.keep (by omega)).sl ((hn9.keep (by omega)).remark).sl
  rw [List.map_append,hR.eq];rfl
 refine al_t (M+1) fun eH g4 fw dE Z fx=>?_
 refine ⟨?_,?_⟩
 ·have dF:=A.ch Z (by simp)
  refine ld_t dF rfl (dInt_i ?_)
  rfl
 refine al_t (M+2) fun g5 g6 fy dG aa fz=>?_
 refine ⟨?_,?_⟩
 ·have dH:=A.ch (Z.app aa) (by simp)
  refine ld_t dH rfl (dInt_i ?_)
  rfl
 have av:=((an.app Z).app aa)
 have dI:=hx.mv av (tagn (by simp))
 refine app_bv (xs:=[]) u49 in5 (dG.own0 1) dI rfl (by omega) fun fA oa oc dJ w=>?_
 have fB:=w.size
 have ho0:=dJ
 rw [List.nil_append,Nat.zero_add] at ho0
 simp only [Nat.zero_add]
 refine dSl_i ?_
 refine ⟨?_,?_⟩
 ·have dK:=((Z.app aa).app w)
  have dL:=A.ch dK (by simp<;>omega)
  refine ld_t dL rfl (dInt_i ?_)
  rfl
 have bI:=dE.ch (aa.app w) (by simp)
 refine st_t bI rfl (by simp) fun g7 bJ cA fC=>?_
 have ab:=on_ch bI cA
 refine st_t bJ rfl (by simp) fun g8 bK cB fD=>?_
 have ac:=on_ch bJ cB
 refine st_t bK rfl (by simp) fun g9 bL cC fE=>?_
 have ad:=on_ch bK cC
 refine st_t bL rfl (by simp) fun ha bM cD fF=>?_
 have ae:=on_ch bL cD
 refine st_t bM rfl (by simp) fun aU dM cE fG=>?_
 have af:=on_ch bM cE
 refine nz_i ?_
 have dN:=(((((((Z.app aa).app w).app ab).app ac).app ad).app ae).app af)
 have bN:=A.ch dN (by simp<;>omega)
 refine ld_t bN rfl (dSl_i ?_)
 refine ⟨fun vs H'=>∃s':TH,s'.h=H'/\∃j,vs=[.int .i64 j]/\Ch [M+1,M+3,M+9] aU s'/\(∃(k:Nat) (na:Option Addr) (nc:Nat),j=k/\k<=P.l.length/\Blk s' eH [.int .i64 (P.last+1),.int .i64 b,.int .i64 o,.slice oa y.length oc,.slice na (((P.l.take k).filter fun x=>decide (x.id∈([]:List Int))||ovx b o y.length x).map (·.id)).length nc] 163 (M+1)/\Own s' na (((P.l.take k).filter fun x=>decide (x.id∈([]:List Int))||ovx b o y.length x).map (·.id)).length nc 3 1 (ivs (((P.l.take k).filter fun x=>decide (x.id∈([]:List Int))||ovx b o y.length x).map (·.id))) (M+3)),fun vs H'=>match vs with|[.int .i64 j]=>((P.l.length:Int) - j).toNat|_=>0,⟨aU,rfl,_,rfl,Ch.refl _ _,?_⟩,?_⟩
 ·exact ⟨0,none,0,rfl,by omega,dM,Own.nil _ _ _ _⟩
 intro j
 iterate 21 intro _
 intro H_ hI_274
 obtain ⟨fH,rfl,j_,hvs,f,k,na,nc,rfl,hk,hpb,ho2⟩:=hI_274
 cases hvs
 have fI:=f.size
 have hfl:(((P.l.take k).filter fun x=>decide (x.id∈([]:List Int))||ovx b o y.length x).map (·.id)).length<=k:=by rw [List.length_map];exact Nat.le_trans (List.length_filter_le _ _) (by rw [List.length_take];omega)
 refine sB_d (fun aD=>?_) (fun aD=>?_)
 ·refine jn_u ?_
  obtain ⟨e,he⟩: ∃e,es[k]? =some e:=⟨es[k]'(by omega),by simp⟩
  have hxl:=hR.at_ he
  have hxm:=List.mem_of_getElem? hxl
  obtain ⟨aq,hla⟩: ∃a,la=some a:=hyo.sl.some (fun e2=>by have:=ycell0 he;rw [e2] at this;simp at this)
  have hft:=ok.fit e.1 hxm
  subst hla
  refine nz_i (ask_t (by omega) ?_)
  have dO:=(((((((av.app w).app ab).app ac).app ad).app ae).app af).app f)
  have ag:=hyo.mv dO (tagn (by simp<;>omega))
  refine ld_sl ag.sl (by rw [Int.toNat_natCast];exact ycell0 he) ?_
  refine ld_sl2 ag.sl (by rw [Int.toNat_natCast];exact ycell1 he) ?_
  refine ld_sl2 ag.sl (by rw [Int.toNat_natCast];exact ycell2 he) ?_
  refine ld_sl2 ag.sl (by rw [Int.toNat_natCast];exact ycell3 he) ?_
  refine ld_sl2 ag.sl (by rw [Int.toNat_natCast];exact ycell4 he) ?_
  refine al_t (M+9) fun hc hd fJ bO aV fK=>?_
  refine st_t bO rfl (by simp) fun hf bP cF fL=>?_
  have aW:=on_ch bO cF
  refine st_t bP rfl (by simp) fun hg bQ cG fM=>?_
  have aX:=on_ch bP cG
  refine st_t bQ rfl (by simp) fun hh bR cH fN=>?_
  have aY:=on_ch bQ cH
  refine st_t bR rfl (by simp) fun hi bS cI fO=>?_
  have aZ:=on_ch bR cI
  refine st_t bS rfl (by simp) fun hj bT cJ fP=>?_
  have a0:=on_ch bS cJ
  refine jn_u ?_
  refine ld_t bT rfl (dInt_i ?_)
  refine tcall (c_yhas7 0 e.1.id (sl_nil _ 0) rfl (by omega)) ?_
  rintro fQ fR ⟨rfl,ah⟩
  have fS:=ah.size
  rw [show decide (e.1.id∈([]:List Int))=false from by simp]
  refine dBl_i (sB_f (by rfl) ?_)
  have a1:=((((((aV.app aW).app aX).app aY).app aZ).app a0).app ah)
  have z:=hpb.ch a1 (by simp)
  refine ld_t z rfl (ld_t z rfl (ld_t z rfl (ld_t z rfl (ld_t z rfl ?_))))
  have F:=bT.ch ah (by simp)
  refine ld_t F rfl (ld_t F rfl (ld_t F rfl (ld_t F rfl (ld_t F rfl ?_))))
  refine tcall (c_yoverlap _ _ _ _ _ _ _ _ _ _ _ _ _ _ _ _ _ _ _ (by omega) (by omega)) ?_
  rintro fT dP ⟨rfl,g⟩
  have fU:=g.size
  refine dBl_i ?_
  intro _
  intros
  refine dBl_i ?_
  refine sB_d (fun aG=>?_) (fun aG=>?_)
  ·have bU:=z.ch g (by simp)
   refine ld_t bU rfl (dSl_i ?_)
   have dQ:=F.ch g (by simp)
   refine ld_t dQ rfl (dInt_i ?_)
   refine al_t (M+9) fun hm hr fV dR a2 fW=>?_
   have dS:=((a1.app g).app a2)
   have dT:=ho2.mv dS (tagn (by simp))
   refine app_i1 u33 in3 dT dR (by omega) fun fX fY fZ dU a3=>?_
   have f0:=a3.size
   refine dSl_i ?_
   have bV:=bU.ch (a2.app a3) (by simp)
   refine st_t bV rfl (by simp) fun eI dV cK f1=>?_
   have bW:=on_ch bV cK
   intro _
   intros
   refine wr_t (by omega) ?_
   have dW:=(((((((((((f.app aV).app aW).app aX).app aY).app aZ).app a0).app ah).app g).app a2).app a3).app bW)
   refine ⟨⟨eI,rfl,_,rfl,((Ch.refl [M+1,M+3,M+9] aU).ch dW (by simp)),?_⟩,?_⟩
   ·have dX:=dU.mv bW (tagn (by simp))
    have hq:(decide (e.1.id∈([]:List Int))||ovx b o y.length e.1)=true:=by simp [ovx];assumption
    have ht:=take_filt (fun x:PatM=>decide (x.id∈([]:List Int))||ovx b o y.length x) hxl
    rw [if_pos hq] at ht
    have hb:=dV
    have ho:=dX
    exact ⟨k+1,_,_,by omega,by omega,by rw [ht,List.map_append,List.length_append];exact hb,by rw [ht,List.map_append,List.length_append];exact ho⟩
   simp only [];omega
  intro _
  intros
  refine wr_t (by omega) ?_
  have dY:=((((((((f.app aV).app aW).app aX).app aY).app aZ).app a0).app ah).app g)
  refine ⟨⟨dP,rfl,_,rfl,((Ch.refl [M+1,M+3,M+9] aU).ch dY (by simp)),?_⟩,?_⟩
  ·have dZ:=z.ch g (by simp)
   have d0:=ho2.mv (a1.app g) (tagn (by simp))
   have hq:(decide (e.1.id∈([]:List Int))||ovx b o y.length e.1)=false:=by simp [ovx];assumption
   have ht:=take_filt (fun x:PatM=>decide (x.id∈([]:List Int))||ovx b o y.length x) hxl
   rw [if_neg (by rw [hq];simp)] at ht
   have hb:=dZ
   have ho:=d0
   exact ⟨k+1,_,_,by omega,by omega,by rw [ht];exact hb,by rw [ht];exact ho⟩
  simp only [];omega
 refine nz_i ?_
 have a4:=bN.ch f (by simp<;>omega)
 refine ld_t a4 rfl (dInt_i (wr_t (by omega) (nz_i ?_)))
 refine st_t (r:=p) (i:=1) a4 rfl (by simp) fun hs a5 cL f2=>?_
 have aw:=on_ch a4 cL
 refine nz_i (ld_t a5 rfl (dSl_i ?_))
 have ai:=hpb.ch aw (by simp<;>omega)
 refine ld_t ai rfl (ld_t ai rfl (ld_t ai rfl (ld_t ai rfl (ld_t ai rfl ?_))))
 refine al_t (M+9) fun hv hw f3 d1 aj f4=>?_
 refine ⟨?_,?_⟩
 ·have d2:=a5.ch aj (by simp)
  refine ld_t d2 rfl (dSl_i ?_)
  rfl
 have bX:=(((((((((av.app w).app ab).app ac).app ad).app ae).app af).app f).app aw).app aj)
 have bY:=hyo.mv bX (tagn (by simp<;>omega))
 refine app_i u137 in163 rfl bY (d1).sl (m:=1) (k:=5) rfl (by intro u hu;simp at hu;rcases hu with rfl|rfl|rfl|rfl|rfl<;>rfl) (by simp) (by unfold maxLen;omega) fun f5 la2 lc2 cM cN _=>?_
 have ak:=cN.ch bY (T:=[T+1]) (by simp)
 have f6:=ak.size
 refine dSl_i (nz_i ?_)
 have bZ:=a5.ch (aj.app ak) (by simp)
 refine st_t bZ rfl (by simp) fun eJ b0 cO f7=>?_
 have ax:=on_ch bZ cO
 refine nz_i (ld_t b0 rfl (dInt_i ?_))
 have d3:=cM.mv ax (tagn (by simp))
 have d4:=((bX.app ak).app ax)
 have d5:=hyp.mv d4 (tagn (by simp<;>omega))
 have d6:=(((((((((ab.app ac).app ad).app ae).app af).app f).app aw).app aj).app ak).app ax)
 have d7:=ho0.mv d6 (tagn (by simp<;>omega))
 have b1:=(((aw.app aj).app ak).app ax)
 have d8:=ho2.mv b1 (tagn (by simp<;>omega))
 obtain rfl:k=P.l.length:=by omega
 have hfit:fitsP b o y.length:=⟨by omega,by omega,by omega,by omega,by omega⟩
 have hadd:P.add b o y []=({ P with last:=P.last+1,l:=P.l++[P.newP b o y []] },P.last+1,0):=add_ok hfit (fun n hn=>by cases hn)
 have hyb9:=b0
 have hyo9:=d3
 have hyp9:=d5
 have ho9:=d7
 have hn9:=d8
 rw [List.take_length] at hn9 hyo9
 rw [hadd]
 refine ret_t' (s':=remark (remark eJ (M+2) (T+2)) (M+3) (T+2)) rfl ⟨rfl,remark_ch (remark_ch ((((((((((Ch.refl [T,T+1] s).ch av (by simp)).fr w hM (by simp)).fr ab hM (by simp)).fr ac hM (by simp)).fr ad hM (by simp)).fr ae hM (by simp)).fr af hM (by simp)).fr f hM (by simp)).ch b1 (by simp)) hM (by omega)) hM (by omega),⟨⟨la2,lc2,es++[(P.newP b o y [],(oa,oc),(na,nc))],⟨?_,?_,?_,?_⟩⟩,ok.add hfit hl⟩⟩
 ·have h:=(hyb9.keep (μ:=M+2) (τ:=T+2) (by omega)).keep (μ:=M+3) (τ:=T+2) (by omega)
  rw [List.length_append];exact h
 ·have h:=(hyo9.keep (μ:=M+2) (τ:=T+2) (by omega)).keep (μ:=M+3) (τ:=T+2) (by omega)
  rw [List.length_append,List.flatMap_append];exact h
 ·exact ((hyp9.keep (μ:=M+2) (by omega)).keep (μ:=M+3) (by omega)).snoc (ho9.remark.keep (by omega)).sl ((hn9.keep (by omega)).remark).sl
 rw [List.map_append,hR.eq];rfl
theorem pend_mem {P:PatchM} {ids:List Int} {i:Int}:i∈P.pend ids↔i∈P.all/\i∈ids:=by unfold PatchM.pend;simp
theorem fin_l {P:PatchM} {ids:List Int}:(P.fin (P.pend ids)).l=P.l.filter fun x=> !decide (x.id∈ids):=by
 show P.l.filter (fun x=> !decide (x.id∈P.pend ids))=_
 apply List.filter_congr
 intro x hx
 have:x.id∈P.pend ids↔x.id∈ids:=by rw [pend_mem];exact ⟨fun h=>h.2,fun h=>⟨List.mem_map.2 ⟨x,hx,rfl⟩,h⟩⟩
 simp [this]
theorem take_filtg {α:Type} {l:List α} {k:Nat} {x:α} (q:α->Bool) (h:l[k]? =some x):(l.take (k+1)).filter q=if q x=true then (l.take k).filter q++[x] else (l.take k).filter q:=by
 rw [take_get h,List.filter_append,List.filter_cons]
 cases hq:q x<;>simp
theorem map_filt (es:List (PatM×Hd×Hd)) (q:PatM->Bool):(es.filter fun x=>q x.1).map (·.1)=(es.map (·.1)).filter q:=by
 rw [List.filter_map];rfl
theorem clos_ok {P:PatchM} (ok:POk P) {ids:List Int} (h: ∀x∈P.l,x.id∈ids->∀n∈x.needs,n∈P.all->n∈ids):((P.pend ids).all (P.closed (P.pend ids)))=true:=by
 refine List.all_eq_true.2 fun i hi=>?_
 obtain ⟨h1,h2⟩:=pend_mem.1 hi
 obtain ⟨x,hx,rfl⟩:=List.mem_map.1 h1
 unfold PatchM.closed
 rw [find_by ok.nodup hx]
 simp only
 refine List.all_eq_true.2 fun n hn=>decide_eq_true ?_
 obtain ⟨g1,g2⟩:=pend_mem.1 hn
 exact pend_mem.2 ⟨g1,h x hx h2 n g2 g1⟩
theorem clos_no {P:PatchM} (ok:POk P) {ids:List Int} {x:PatM} {n:Int} (hx:x∈P.l) (hi:x.id∈ids) (hn:n∈x.needs) (ha:n∈P.all) (hni:n∉ids): ¬((P.pend ids).all (P.closed (P.pend ids)))=true:=by
 intro h
 have h1:=List.all_eq_true.1 h x.id (pend_mem.2 ⟨List.mem_map.2 ⟨x,hx,rfl⟩,hi⟩)
 unfold PatchM.closed at h1
 rw [find_by ok.nodup hx] at h1
 simp only at h1
 have h2:=List.all_eq_true.1 h1 n (pend_mem.2 ⟨ha,hn⟩)
 exact hni (pend_mem.1 (of_decide_eq_true h2)).2
theorem c_ydone (p T:Nat) (P:PatchM) {xa:Option Addr} {xn:Nat} (xc:Nat) {ids:List Int} {τx:Nat} (s:TH) (hT:10<=T) (hp:RSet s p T P) (hx:Sl s xa (ivs ids) τx) (hn:ids.length=xn) (hb:xn<=17592186044000):TRet Tryz.prog 205 #[.pointer (some ⟨p,0,none⟩),.slice xa xn xc] s fun v s'=>v=.int .i64 (P.doneP ids).2/\Ch [T,T+1] s s'/\RSet s' p T (P.doneP ids).1:=by
 obtain ⟨la,lc,es,hR⟩:=hp.p
 have ok:=hp.ok
 have hyb:=hR.blk
 have hyo:=hR.own
 have hyp:=hR.pts
 have hel:=hR.len
 have hlst:=ok.lst
 have hlenl:=ok.lenl
 obtain ⟨M,hM,hM0,hMa,hMb,hMc,hMd,hMe,hMf⟩:=fresh6 s (T+10) τx 0 0 0 0
 refine F205_calls _ _ _ _  ?_
 unfold F205
 refine ⟨fun vs H'=>∃s':TH,s'.h=H'/\∃i,vs=[.int .i64 i]/\Ch [] s s'/\(∃k:Nat,i=k/\k<=xn/\∀j y,j<k->ids[j]? =some y->P.knows y=true),fun vs H'=>match vs with|[.int .i64 i]=>((xn:Int) - i).toNat|_=>0,⟨s,rfl,_,rfl,Ch.refl _ _,?_⟩,?_⟩
 ·exact ⟨0,rfl,by omega,fun j y h=>by omega⟩
 intro i
 iterate 16 intro _
 intro H_ hI_2
 obtain ⟨Y,rfl,i_,hvs,b,k,rfl,hk,hkn⟩:=hI_2
 cases hvs
 have ce:=b.size
 refine sB_d (fun a1=>?_) (fun a1=>?_)
 ·have a0:=hx.mv b (tagn (by simp))
  obtain ⟨cf,rfl⟩:=a0.ne_none (by simp [bvs_len,ivs_len];omega)
  refine nz_i (ask_t (by omega) ?_)
  refine ld_iv a0 (by omega) (by omega) fun bx K=>?_
  rw [Int.toNat_natCast] at K
  refine dInt_i ?_
  refine jn_u ?_
  refine sB_d (fun a2=>?_) (fun a2=>?_)
  ·intro _
   intros
   refine dBl_i (sB_t (by rfl) ?_)
   refine ret_t ?_
   have bo:=hp.mv b (rngn (by simp))
   rw [show P.doneP ids=(P,70) from by unfold PatchM.doneP;rw [if_pos (List.any_eq_true.2 ⟨_,List.mem_of_getElem? K,by unfold PatchM.knows;rw [decide_eq_false (by omega)];rfl⟩)]]
   exact ⟨rfl,((Ch.refl [T,T+1] s).ch b (by simp)),bo⟩
  refine nz_i ?_
  have bp:=hyb.ch b (by simp)
  refine ld_t bp rfl (dInt_i ?_)
  intro _
  intros
  refine dBl_i ?_
  refine sB_d (fun a3=>?_) (fun a3=>?_)
  ·refine ret_t ?_
   have bq:=hp.mv b (rngn (by simp))
   rw [show P.doneP ids=(P,70) from by unfold PatchM.doneP;rw [if_pos (List.any_eq_true.2 ⟨_,List.mem_of_getElem? K,by unfold PatchM.knows;rw [decide_eq_false (by omega)];rfl⟩)]]
   exact ⟨rfl,((Ch.refl [T,T+1] s).ch b (by simp)),bq⟩
  refine wr_t (by omega) ?_
  refine ⟨⟨Y,rfl,_,rfl,((Ch.refl [] s).ch b (by simp)),?_⟩,?_⟩
  ·refine ⟨k+1,by omega,by omega,fun j y hj hy=>?_⟩
   by_cases e:j=k
   ·subst e;rw [K] at hy;cases hy;unfold PatchM.knows;exact decide_eq_true ⟨by omega,by omega⟩
   exact hkn j y (by omega) hy
  simp only [];omega
 refine nz_i ?_
 have ah:=hyb.ch b (by simp)
 refine ld_t ah rfl (dSl_i ?_)
 refine ⟨fun vs H'=>∃s':TH,s'.h=H'/\∃j,vs=[.int .i64 j]/\Ch [M+9] Y s'/\(∃q:Nat,j=q/\q<=P.l.length/\∀u x,u<q->P.l[u]? =some x->x.id∈ids->∀n∈x.needs,n∈P.all->n∈ids),fun vs H'=>match vs with|[.int .i64 j]=>((P.l.length:Int) - j).toNat|_=>0,⟨Y,rfl,_,rfl,Ch.refl _ _,?_⟩,?_⟩
 ·exact ⟨0,rfl,by omega,fun u x h=>by omega⟩
 intro j
 iterate 30 intro _
 intro H_ hI_12
 obtain ⟨L,rfl,j_,hvs,c,q,rfl,hq,hcl⟩:=hI_12
 cases hvs
 have bz:=c.size
 have hkk: ¬(ids.any fun i=> !P.knows i)=true:=fun h=>by
  obtain ⟨z,hz,h2⟩:=List.any_eq_true.1 h
  obtain ⟨j,hj,rfl⟩:=List.getElem_of_mem hz
  rw [hkn j _ (by omega) (List.getElem?_eq_getElem hj)] at h2;cases h2
 refine sB_d (fun a4=>?_) (fun a4=>?_)
 ·refine jn_u ?_
  obtain ⟨e,he⟩: ∃e,es[q]? =some e:=⟨es[q]'(by omega),by simp⟩
  have hxl:=hR.at_ he
  have hxm:=List.mem_of_getElem? hxl
  obtain ⟨aq,hla⟩: ∃a,la=some a:=hyo.sl.some (fun e2=>by have:=ycell0 he;rw [e2] at this;simp at this)
  subst hla
  refine nz_i (ask_t (by omega) ?_)
  have C:=hyo.mv (b.app c) (tagn (by simp<;>omega))
  refine ld_sl C.sl (by rw [Int.toNat_natCast];exact ycell0 he) ?_
  refine ld_sl2 C.sl (by rw [Int.toNat_natCast];exact ycell1 he) ?_
  refine ld_sl2 C.sl (by rw [Int.toNat_natCast];exact ycell2 he) ?_
  refine ld_sl2 C.sl (by rw [Int.toNat_natCast];exact ycell3 he) ?_
  refine ld_sl2 C.sl (by rw [Int.toNat_natCast];exact ycell4 he) ?_
  refine al_t (M+9) fun bA bB br ai N bC=>?_
  refine st_t ai rfl (by simp) fun bD aj aE bE=>?_
  have O:=on_ch ai aE
  refine st_t aj rfl (by simp) fun bF ak aF bG=>?_
  have Q:=on_ch aj aF
  refine st_t ak rfl (by simp) fun bH al aG bI=>?_
  have R:=on_ch ak aG
  refine st_t al rfl (by simp) fun bJ am aH bK=>?_
  have S:=on_ch al aH
  refine st_t am rfl (by simp) fun bL an aI bM=>?_
  have U:=on_ch am aI
  refine ld_t an rfl (dInt_i ?_)
  have Z:=(((((((b.app c).app N).app O).app Q).app R).app S).app U)
  have ao:=hx.mv Z (tagn (by simp<;>omega))
  refine tcall (c_yhas7 xc e.1.id ao hn (by omega)) ?_
  rintro bN t ⟨rfl,d⟩
  have bO:=d.size
  refine dBl_i ?_
  refine sB_nd (fun aa=>?_) (fun aa=>?_)
  ·intro _
   intros
   refine wr_t (by omega) ?_
   have a5:=(((((((c.app N).app O).app Q).app R).app S).app U).app d)
   refine ⟨⟨t,rfl,_,rfl,((Ch.refl [M+9] Y).ch a5 (by simp)),?_⟩,?_⟩
   ·refine ⟨q+1,by omega,by omega,fun u x hu hx9 hi=>?_⟩
    by_cases e2:u=q
    ·subst e2;rw [hxl] at hx9;cases hx9;exact absurd hi aa
    exact hcl u x (by omega) hx9 hi
   simp only [];omega
  have a6:=an.ch d (by simp)
  refine ld_t a6 rfl (dSl_i ?_)
  have a7:=hyp.mv (Z.app d) (tagn (by simp<;>omega))
  have snx:=((a7).at_ e (List.mem_of_getElem? he)).2
  obtain ⟨na0,hna0⟩: ∃a,a=e.2.2.1:=⟨_,rfl⟩
  rw [←hna0]
  have sny:Sl t na0 (ivs e.1.needs) (T+2):=by rw [hna0];exact snx
  have hnl:=ok.lenn hxm
  refine ⟨fun vs H'=>∃s':TH,s'.h=H'/\∃i3,vs=[.int .i64 i3]/\Ch [] t s'/\(∃u:Nat,i3=u/\u<=e.1.needs.length/\∀w n,w<u->e.1.needs[w]? =some n->n∈P.all->n∈ids),fun vs H'=>match vs with|[.int .i64 i3]=>((e.1.needs.length:Int) - i3).toNat|_=>0,⟨t,rfl,_,rfl,Ch.refl _ _,?_⟩,?_⟩
  ·exact ⟨0,rfl,by omega,fun w n h=>by omega⟩
  intro i3
  iterate 16 intro _
  intro H_ hI_45
  obtain ⟨a8,rfl,i3_,hvs,f,u,rfl,hu,hcn⟩:=hI_45
  cases hvs
  have bP:=f.size
  refine sB_d (fun a9=>?_) (fun a9=>?_)
  ·have ap:=sny.mv f (tagn (by simp))
   obtain ⟨bQ,rfl⟩:=ap.ne_none (by simp [bvs_len,ivs_len];omega)
   refine nz_i (ask_t (by omega) ?_)
   refine ld_iv ap (by omega) (by omega) fun ba V=>?_
   rw [Int.toNat_natCast] at V
   refine dInt_i ?_
   refine jn_u ?_
   have bb:=((Z.app d).app f)
   have ar:=hp.mv bb (rngn (by simp<;>omega))
   refine tcall (c_yfind _ _ _ _ _ (by omega) ar) ?_
   rintro bR bc ⟨rfl,A⟩
   have bS:=A.size
   refine dInt_i ?_
   refine sB_d (fun ab=>?_) (fun ab=>?_)
   ·have bd:=((d.app f).app A)
    have be:=ao.mv bd (tagn (by simp))
    refine tcall (c_yhas7 xc ba be hn (by omega)) ?_
    rintro bT bf ⟨rfl,W⟩
    have bU:=W.size
    refine dBl_i ?_
    intro _
    intros
    refine dBl_i ?_
    refine sB_nd (fun ac=>?_) (fun ac=>?_)
    ·refine ret_t ?_
     have bg:=((f.app A).app W)
     have bh:=ar.mv (A.app W) (rngn (by simp))
     rw [show P.doneP ids=(P,3) from by unfold PatchM.doneP;rw [if_neg hkk,if_neg (clos_no ok hxm aa (List.mem_of_getElem? V) (PatchM.find_ix.1 ab) ac)]]
     exact ⟨rfl,(((((((((((Ch.refl [T,T+1] s).ch b (by simp)).fr c hM (by simp)).ch N (by simp)).fr O hM (by simp)).fr Q hM (by simp)).fr R hM (by simp)).fr S hM (by simp)).fr U hM (by simp)).ch d (by simp)).ch bg (by simp)),bh⟩
    refine wr_t (by omega) ?_
    have bi:=((f.app A).app W)
    refine ⟨⟨bf,rfl,_,rfl,((Ch.refl [] t).ch bi (by simp)),?_⟩,?_⟩
    ·refine ⟨u+1,by omega,by omega,fun w n hw hn9 ha=>?_⟩
     by_cases e2:w=u
     ·subst e2;rw [V] at hn9;cases hn9;exact ac
     exact hcn w n (by omega) hn9 ha
    simp only [];omega
   intro _
   intros
   refine dBl_i (sB_f (by rfl) (wr_t (by omega) ?_))
   refine ⟨⟨bc,rfl,_,rfl,(((Ch.refl [] t).ch f (by simp)).ch A (by simp)),?_⟩,?_⟩
   ·refine ⟨u+1,by omega,by omega,fun w n hw hn9 ha=>?_⟩
    by_cases e2:w=u
    ·subst e2;rw [V] at hn9;cases hn9;exact absurd (PatchM.find_ix.2 ha) ab
    exact hcn w n (by omega) hn9 ha
   simp only [];omega
  intro _
  intros
  refine wr_t (by omega) ?_
  have bj:=((((((((c.app N).app O).app Q).app R).app S).app U).app d).app f)
  refine ⟨⟨a8,rfl,_,rfl,((Ch.refl [M+9] Y).ch bj (by simp)),?_⟩,?_⟩
  ·refine ⟨q+1,by omega,by omega,fun u2 x hu2 hx9 hi=>?_⟩
   by_cases e2:u2=q
   ·subst e2;rw [hxl] at hx9;cases hx9;intro n hn9 ha;obtain ⟨w,hw,rfl⟩:=List.getElem_of_mem hn9;exact hcn w _ (by omega) (List.getElem?_eq_getElem hw) ha
   exact hcl u2 x (by omega) hx9 hi
  simp only [];omega
 refine nz_i ?_
 have au:=ah.ch c (by simp<;>omega)
 refine ld_t au rfl (dSl_i ?_)
 refine ⟨fun vs H'=>∃s':TH,s'.h=H'/\∃qa qn qc j4,vs=[.slice qa qn qc,.int .i64 j4]/\Ch [M+3,M+9] L s'/\(∃k4:Nat,j4=k4/\k4<=P.l.length/\qn=((es.take k4).filter fun x=> !decide (x.1.id∈ids)).length/\Own s' qa qn qc 163 5 (((es.take k4).filter fun x=> !decide (x.1.id∈ids)).flatMap ypc) (M+3)),fun vs H'=>match vs with|[.slice qa qn qc,.int .i64 j4]=>((P.l.length:Int) - j4).toNat|_=>0,⟨L,rfl,_,_,_,_,rfl,Ch.refl _ _,?_⟩,?_⟩
 ·exact ⟨0,rfl,by omega,rfl,Own.nil _ _ _ _⟩
 intro qa qn qc j4
 iterate 14 intro _
 intro H_ hI_70
 obtain ⟨bV,rfl,qa_,qn_,qc_,j4_,hvs,g,k4,rfl,hk4,rfl,ho4⟩:=hI_70
 cases hvs
 have bW:=g.size
 obtain rfl:q=P.l.length:=by omega
 have hfl:((es.take k4).filter fun x=> !decide (x.1.id∈ids)).length<=k4:=Nat.le_trans (List.length_filter_le _ _) (by rw [List.length_take];omega)
 refine sB_d (fun aJ=>?_) (fun aJ=>?_)
 ·refine jn_u ?_
  obtain ⟨e,he⟩: ∃e,es[k4]? =some e:=⟨es[k4]'(by omega),by simp⟩
  have hxl:=hR.at_ he
  have hxm:=List.mem_of_getElem? hxl
  obtain ⟨aq,hla⟩: ∃a,la=some a:=hyo.sl.some (fun e2=>by have:=ycell0 he;rw [e2] at this;simp at this)
  subst hla
  refine nz_i (ask_t (by omega) ?_)
  have av:=((b.app c).app g)
  have D:=hyo.mv av (tagn (by simp<;>omega))
  refine ld_sl D.sl (by rw [Int.toNat_natCast];exact ycell0 he) ?_
  refine ld_sl2 D.sl (by rw [Int.toNat_natCast];exact ycell1 he) ?_
  refine ld_sl2 D.sl (by rw [Int.toNat_natCast];exact ycell2 he) ?_
  refine ld_sl2 D.sl (by rw [Int.toNat_natCast];exact ycell3 he) ?_
  refine ld_sl2 D.sl (by rw [Int.toNat_natCast];exact ycell4 he) ?_
  refine al_t (M+9) fun bX bY bs aw E bZ=>?_
  refine st_t aw rfl (by simp) fun b0 ax aK b1=>?_
  have F:=on_ch aw aK
  refine st_t ax rfl (by simp) fun b2 ay aL b3=>?_
  have G:=on_ch ax aL
  refine st_t ay rfl (by simp) fun b4 az aM b5=>?_
  have H:=on_ch ay aM
  refine st_t az rfl (by simp) fun b6 aA aN b7=>?_
  have I:=on_ch az aN
  refine st_t aA rfl (by simp) fun b8 aB aO b9=>?_
  have J:=on_ch aA aO
  refine ld_t aB rfl (dInt_i ?_)
  have bk:=((((((av.app E).app F).app G).app H).app I).app J)
  have bl:=hx.mv bk (tagn (by simp<;>omega))
  refine tcall (c_yhas7 xc e.1.id bl hn (by omega)) ?_
  rintro ca bm ⟨rfl,B⟩
  have cb:=B.size
  refine dBl_i ?_
  refine sB_nd (fun o=>?_) (fun o=>?_)
  ·have r:=aB.ch B (by simp)
   refine ld_t r rfl (ld_t r rfl (ld_t r rfl (ld_t r rfl (ld_t r rfl ?_))))
   refine al_t (M+9) fun cc cd bt aP ad bu=>?_
   have aQ:=(((((((E.app F).app G).app H).app I).app J).app B).app ad)
   have ae:=ho4.mv aQ (tagn (by simp))
   refine app_i u137 in163 rfl ae (aP).sl (m:=1) (k:=5) rfl (by intro u hu;simp at hu;rcases hu with rfl|rfl|rfl|rfl|rfl<;>rfl) (by simp) (by unfold maxLen;omega) fun aR la2 lc2 o2_109 aC _=>?_
   have af:=aC.ch ae (T:=[M+3]) (by simp)
   have bv:=af.size
   refine dSl_i ?_
   intro _
   intros
   refine dSl_i (wr_t (by omega) ?_)
   have aS:=(((((((((g.app E).app F).app G).app H).app I).app J).app B).app ad).app af)
   refine ⟨⟨aR,rfl,_,_,_,_,rfl,((Ch.refl [M+3,M+9] L).ch aS (by simp)),?_⟩,?_⟩
   ·refine ⟨k4+1,by omega,by omega,?_,?_⟩
    ·rw [take_filtg (fun x:PatM×Hd×Hd=> !decide (x.1.id∈ids)) he,if_pos (by simpa using o),List.length_append];rfl
    have ho:=o2_109
    rw [take_filtg (fun x:PatM×Hd×Hd=> !decide (x.1.id∈ids)) he,if_pos (by simpa using o),List.flatMap_append];exact ho
   simp only [];omega
  intro _
  intros
  refine dSl_i (wr_t (by omega) ?_)
  have aT:=(((((((g.app E).app F).app G).app H).app I).app J).app B)
  refine ⟨⟨bm,rfl,_,_,_,_,rfl,((Ch.refl [M+3,M+9] L).ch aT (by simp)),?_⟩,?_⟩
  ·have aU:=((((((E.app F).app G).app H).app I).app J).app B)
   have aV:=ho4.mv aU (tagn (by simp))
   refine ⟨k4+1,by omega,by omega,?_,?_⟩
   ·rw [take_filtg (fun x:PatM×Hd×Hd=> !decide (x.1.id∈ids)) he,if_neg (by simpa using o)]
   have ho:=aV
   rw [take_filtg (fun x:PatM×Hd×Hd=> !decide (x.1.id∈ids)) he,if_neg (by simpa using o)];exact ho
  simp only [];omega
 refine nz_i ?_
 have ag:=au.ch g (by simp<;>omega)
 refine st_t ag rfl (by simp) fun bn aW aD bw=>?_
 have X:=on_ch ag aD
 have aX:=ho4.mv X (tagn (by simp<;>omega))
 have aY:=(((b.app c).app g).app X)
 have aZ:=hyp.mv aY (tagn (by simp<;>omega))
 obtain rfl:k4=P.l.length:=by omega
 have hyb9:=aW
 have ho9:=aX
 have hyp9:=aZ
 rw [←hel,List.take_length] at ho9 hyb9
 have hall:=clos_ok ok (ids:=ids) (fun x hx hi n hn ha=>by
  obtain ⟨u,hu,rfl⟩:=List.getElem_of_mem hx
  exact hcl u _ hu (List.getElem?_eq_getElem hu) hi n hn ha)
 have hd:P.doneP ids=(P.fin (P.pend ids),0):=by unfold PatchM.doneP;rw [if_neg hkk,if_pos hall]
 have heq:(es.filter fun x=> !decide (x.1.id∈ids)).map (·.1)=(P.fin (P.pend ids)).l:=by rw [fin_l, ←hR.eq];exact map_filt es fun x=> !decide (x.id∈ids)
 have hlen:(es.filter fun x=> !decide (x.1.id∈ids)).length=(P.fin (P.pend ids)).l.length:=by rw [←heq,List.length_map]
 rw [hlen] at ho9 hyb9
 rw [hd]
 refine ret_t' (s':=remark bn (M+3) (T+1)) rfl ⟨rfl,remark_ch (((((Ch.refl [T,T+1] s).ch b (by simp)).fr c hM (by simp)).fr g hM (by simp)).ch X (by simp)) hM (by omega),⟨⟨_,_,_,⟨hyb9.keep (by omega),ho9.remark,(hyp9.keep (by omega)).sub (fun e he=>(List.mem_filter.1 he).1),heq⟩⟩,ok.fin _ (fun i hi=>(pend_mem.1 hi).1)⟩⟩
def ycc (e:Int×Hd):List Value:=[.int .i64 e.1,.int .i64 0,.slice e.2.1 128 e.2.2]
theorem ycc_len (e:Int×Hd):(ycc e).length=3:=rfl
theorem ccell0 {es:List (Int×Hd)} {m:Nat} {x:Int×Hd} (h:es[m]? =some x):(es.flatMap ycc)[m*3]? =some (.int .i64 x.1):=fm_get ycc_len es m 0 x h (by omega)
theorem ccell1 {es:List (Int×Hd)} {m:Nat} {x:Int×Hd} (h:es[m]? =some x):(es.flatMap ycc)[m*3+1]? =some (.int .i64 0):=fm_get ycc_len es m 1 x h (by omega)
theorem ccell2 {es:List (Int×Hd)} {m:Nat} {x:Int×Hd} (h:es[m]? =some x):(es.flatMap ycc)[m*3+2]? =some (.slice x.2.1 128 x.2.2):=fm_get ycc_len es m 2 x h (by omega)
theorem one_ycc (es:List (Int×Hd)) (i:Nat): ∀u∈(es.flatMap ycc).drop i,u.oneCell'=true:=by
 intro u hu
 have:=List.mem_of_mem_drop hu
 simp only [List.mem_flatMap,ycc] at this
 obtain ⟨q,_,hq⟩:=this
 simp at hq
 rcases hq with rfl|rfl|rfl<;>rfl
structure CPts (s:TH) (τ:Nat) (es:List (Int×Hd)) (bs:List (List UInt8)):Prop where
 at_: ∀e∈es,0<=e.1/\e.1<bs.length/\∀y,bs[e.1.toNat]? =some y->ByAt s τ e.2 y
theorem CPts.mv {s s':TH} {τ:Nat} {es:List (Int×Hd)} {bs:List (List UInt8)} {B:Nat->Prop} (h:CPts s τ es bs) (c:Chg B s s') (hn: ∀j,j<s.h.size->s.g j=τ->¬B j):CPts s' τ es bs:=⟨fun e he=>⟨(h.at_ e he).1,(h.at_ e he).2.1,fun y hy=>((h.at_ e he).2.2 y hy).mv c hn⟩⟩
theorem CPts.keep {s:TH} {σ μ τ:Nat} {es:List (Int×Hd)} {bs:List (List UInt8)} (h:CPts s σ es bs) (hn:σ≠μ):CPts (E.remark s μ τ) σ es bs:=⟨fun e he=>⟨(h.at_ e he).1,(h.at_ e he).2.1,fun y hy=>⟨((h.at_ e he).2.2 y hy).sl.keep hn,((h.at_ e he).2.2 y hy).len⟩⟩⟩
theorem CPts.sub {s:TH} {τ:Nat} {es fs:List (Int×Hd)} {bs:List (List UInt8)} (h:CPts s τ es bs) (hs: ∀e∈fs,e∈es):CPts s τ fs bs:=⟨fun e he=>h.at_ e (hs e he)⟩
theorem CPts.snoc {s:TH} {τ:Nat} {es:List (Int×Hd)} {bs:List (List UInt8)} (h:CPts s τ es bs) {e:Int×Hd} (h0:0<=e.1/\e.1<bs.length) (h1: ∀y,bs[e.1.toNat]? =some y->ByAt s τ e.2 y):CPts s τ (es++[e]) bs:=⟨fun x hx=>by
 rcases List.mem_append.1 hx with hx|hx
 ·exact h.at_ x hx
 rw [List.mem_singleton] at hx;subst hx;exact ⟨h0.1,h0.2,h1⟩⟩
structure RCP (s:TH) (c T d:Nat) (bs:List (List UInt8)) (n:Int) (la:Option Addr) (lc:Nat) (es:List (Int×Hd)) (hi mi:Int):Prop where
 blk:Blk s c [.pointer (some ⟨d,0,none⟩),.int .i64 64,.slice la es.length lc,.int .i64 hi,.int .i64 mi] 213 T
 own:Own s la es.length lc 277 3 (es.flatMap ycc) (T+1)
 pts:CPts s (T+2) es bs
 nd:(es.map (·.1)).Nodup
 len:es.length<=64
 cnt:0<=hi/\hi<=n/\0<=mi/\mi<=n
structure RC (s:TH) (c T d:Nat) (bs:List (List UInt8)) (n:Int):Prop where
 p: ∃la lc es hi mi,RCP s c T d bs n la lc es hi mi
theorem RCP.mv {s s':TH} {c T d:Nat} {bs:List (List UInt8)} {n hi mi:Int} {la:Option Addr} {lc:Nat} {es:List (Int×Hd)} {B:Nat->Prop} (h:RCP s c T d bs n la lc es hi mi) (k:Chg B s s') (hn: ∀j,j<s.h.size->T<=s.g j->s.g j<T+10->¬B j):RCP s' c T d bs n la lc es hi mi:=
 ⟨h.blk.mv k (of_rng hn (Nat.le_refl _) (by omega) c h.blk.lt h.blk.tag),h.own.mv k (of_rng hn (by omega) (by omega)),h.pts.mv k (of_rng hn (by omega) (by omega)),h.nd,h.len,h.cnt⟩
theorem RC.mv {s s':TH} {c T d:Nat} {bs:List (List UInt8)} {n:Int} {B:Nat->Prop} (h:RC s c T d bs n) (k:Chg B s s') (hn: ∀j,j<s.h.size->T<=s.g j->s.g j<T+10->¬B j):RC s' c T d bs n:=by
 obtain ⟨la,lc,es,hi,mi,hp⟩:=h.p
 exact ⟨la,lc,es,hi,mi,hp.mv k hn⟩
theorem in277 :(Tryz.prog.info? 277).map (fun i=>(i.zero,i.size,i.bytes))=some (some (.agg #[.int .i64 0,.int .i64 0,.slice none 0 0]),3,40):=by kernel_rfl
theorem c_ycfind (c T d:Nat) (bs:List (List UInt8)) (n hi mi:Int) (la:Option Addr) (lc:Nat) (es:List (Int×Hd)) (b:Int) (s:TH) (hT:10<=T) (hC:RCP s c T d bs n la lc es hi mi):TRet Tryz.prog 218 #[.pointer (some ⟨c,0,none⟩),.int .i64 b] s fun v s'=>v=.int .i64 (ixf (fun x:Int×Hd=>x.1==b) es)/\Ch [] s s':=by
 have hcb:=hC.blk
 have hco:=hC.own
 have hcp:=hC.pts
 have hcl:=hC.len
 have hcc:=hC.cnt
 obtain ⟨M,hM,hM0,hMa,hMb,hMc,hMd,hMe,hMf⟩:=fresh6 s (T+10) 0 0 0 0 0
 refine F218_calls _ _  ?_
 unfold F218
 refine nz_i (ld_t hcb rfl (dSl_i ?_))
 refine ⟨fun vs H'=>∃s':TH,s'.h=H'/\∃m,vs=[.int .i64 m]/\Ch [] s s'/\(∃k:Nat,m=k/\k<=es.length/\∀j x,j<k->es[j]? =some x->(x.1==b)=false),fun vs H'=>match vs with|[.int .i64 m]=>((es.length:Int) - m).toNat|_=>0,⟨s,rfl,_,rfl,Ch.refl _ _,?_⟩,?_⟩
 ·exact ⟨0,rfl,by omega,fun j x h=>by omega⟩
 intro m
 iterate 13 intro _
 intro H_ hI_2
 obtain ⟨I,rfl,m_,hvs,f,k,rfl,hk,hall⟩:=hI_2
 cases hvs
 have J:=f.size
 refine sB_d (fun B=>?_) (fun B=>?_)
 ·obtain ⟨e,he⟩: ∃e,es[k]? =some e:=⟨es[k]'(by omega),by simp⟩
  obtain ⟨aq,hla⟩: ∃a,la=some a:=hco.sl.some (fun e2=>by have:=ccell0 he;rw [e2] at this;simp at this)
  subst hla
  refine nz_i (ask_t (by omega) ?_)
  have i:=hco.mv f (tagn (by simp))
  refine ld_sl i.sl (by rw [Int.toNat_natCast];exact ccell0 he) ?_
  refine ld_sl2 i.sl (by rw [Int.toNat_natCast];exact ccell1 he) ?_
  refine ld_sl2 i.sl (by rw [Int.toNat_natCast];exact ccell2 he) ?_
  refine al_t (M+9) fun K L E w z N=>?_
  refine st_t w rfl (by simp) fun O A r F=>?_
  have l:=on_ch w r
  refine st_t A rfl (by simp) fun P o t G=>?_
  have p:=on_ch A t
  refine st_t o rfl (by simp) fun D C u H=>?_
  have q:=on_ch o u
  refine ld_t C rfl (dInt_i ?_)
  refine sB_d (fun g=>?_) (fun g=>?_)
  ·refine ret_t ?_
   exact ⟨ret_i (ixf_some he (by simpa using g) hall).symm,((((((Ch.refl [] s).ch f (by simp)).ch z (by simp)).fr l hM (by simp)).fr p hM (by simp)).fr q hM (by simp))⟩
  refine wr_t (by omega) ?_
  refine ⟨⟨D,rfl,_,rfl,((((((Ch.refl [] s).ch f (by simp)).ch z (by simp)).fr l hM (by simp)).fr p hM (by simp)).fr q hM (by simp)),?_⟩,?_⟩
  ·refine ⟨k+1,by omega,by omega,fun j y hj hy=>?_⟩
   by_cases e2:j=k
   ·subst e2;rw [he] at hy;cases hy;simpa using g
   exact hall j y (by omega) hy
  simp only [];omega
 refine ret_t ?_
 exact ⟨ret_i (ixf_none fun j y hj hy=>hall j y (by omega) hy).symm,((Ch.refl [] s).ch f (by simp))⟩
theorem c_ycvictim (c T d:Nat) (bs:List (List UInt8)) (n hi mi:Int) (la:Option Addr) (lc:Nat) (es:List (Int×Hd))  (s:TH) (hT:10<=T) (hC:RCP s c T d bs n la lc es hi mi) (h1:1<=es.length):TRet Tryz.prog 220 #[.pointer (some ⟨c,0,none⟩)] s fun v s'=>v=.int .i64 0/\Ch [] s s':=by
 have hcb:=hC.blk
 have hco:=hC.own
 have hcp:=hC.pts
 have hcl:=hC.len
 have hcc:=hC.cnt
 obtain ⟨M,hM,hM0,hMa,hMb,hMc,hMd,hMe,hMf⟩:=fresh6 s (T+10) 0 0 0 0 0
 refine F220_calls _  ?_
 unfold F220
 refine nz_i (ld_t hcb rfl (dSl_i ?_))
 refine ⟨fun vs H'=>∃s':TH,s'.h=H'/\∃m,vs=[.int .i64 m]/\Ch [] s s'/\(∃k:Nat,m=k/\k=0),fun vs H'=>match vs with|[.int .i64 m]=>(1 - m).toNat|_=>0,⟨s,rfl,_,rfl,Ch.refl _ _,?_⟩,?_⟩
 ·exact ⟨0,rfl,rfl⟩
 intro m
 iterate 12 intro _
 intro H_ hI_2
 obtain ⟨C,rfl,m_,hvs,b,k,rfl,hk0⟩:=hI_2
 cases hvs
 have D:=b.size
 refine sB_d (fun q=>?_) (fun q=>by exfalso;omega)
 obtain ⟨e,he⟩: ∃e,es[k]? =some e:=⟨es[k]'(by omega),by simp⟩
 obtain ⟨aq,hla⟩: ∃a,la=some a:=hco.sl.some (fun e2=>by have:=ccell0 he;rw [e2] at this;simp at this)
 subst hla
 refine nz_i (ask_t (by omega) ?_)
 have f:=hco.mv b (tagn (by simp))
 refine ld_sl f.sl (by rw [Int.toNat_natCast];exact ccell0 he) ?_
 refine ld_sl2 f.sl (by rw [Int.toNat_natCast];exact ccell1 he) ?_
 refine ld_sl2 f.sl (by rw [Int.toNat_natCast];exact ccell2 he) ?_
 refine al_t (M+9) fun E F y o x G=>?_
 refine st_t o rfl (by simp) fun H p i z=>?_
 have r:=on_ch o i
 refine st_t p rfl (by simp) fun I g j A=>?_
 have t:=on_ch p j
 refine st_t g rfl (by simp) fun J u l B=>?_
 have w:=on_ch g l
 refine ld_t u rfl (dInt_i (sB_t (by rfl) ?_))
 refine ret_t ?_
 rw [hk0]
 exact ⟨rfl,((((((Ch.refl [] s).ch b (by simp)).ch x (by simp)).fr r hM (by simp)).fr t hM (by simp)).fr w hM (by simp))⟩
theorem c_ycwithout (c T d:Nat) (bs:List (List UInt8)) (n hi mi:Int) (la:Option Addr) (lc:Nat) (es:List (Int×Hd)) (i:Nat) (s:TH) (hT:10<=T) (hC:RCP s c T d bs n la lc es hi mi) (hil:i<es.length):TRet Tryz.prog 219 #[.pointer (some ⟨c,0,none⟩),.int .i64 (i:Int)] s fun v s'=>∃la' lc',v=.tuple #[]/\Ch [T] s s'/\RCP s' c T d bs n la' lc' (es.eraseIdx i) hi mi:=by
 have hcb:=hC.blk
 have hco:=hC.own
 have hcp:=hC.pts
 have hcl:=hC.len
 have hcc:=hC.cnt
 obtain ⟨e,he⟩: ∃e,es[i]? =some e:=⟨es[i]'(by omega),by simp⟩
 obtain ⟨aq,hla⟩: ∃a,la=some a:=hco.sl.some (fun e2=>by have:=ccell0 he;rw [e2] at this;simp at this)
 subst hla
 have hql:=hco.le
 have haq:=hco.blt
 obtain ⟨M,hM,hM0,hMa,hMb,hMc,hMd,hMe,hMf⟩:=fresh6 s (T+10) 0 0 0 0 0
 refine F219_calls _ _  ?_
 unfold F219
 refine nz_i (ld_t hcb rfl (dSl_i (ask_t (by omega) (nz_i (ld_t hcb rfl (dSl_i (wr_t (by omega) ?_)))))))
 refine ask_t (by omega) ?_
 refine al_t (M+1) fun E F K G f P=>?_
 have hO0:Own F (some ⟨E,0,none⟩) 0 0 277 3 [] (M+1):=(G).own0 3
 refine ⟨?_,?_⟩
 ·have H:=hcb.ch f (by simp)
  refine ld_t H rfl (dSl_i ?_)
  rfl
 refine ⟨?_,?_⟩
 ·have I:=hcb.ch f (by simp)
  refine ld_t I rfl (dSl_i ?_)
  rfl
 have p:=hco.mv f (tagn (by simp))
 have hcut:=(p).cut (m:=i+1) (by omega)
 simp only [Int.toNat_natCast,Int.toNat_zero,Nat.sub_zero,slO_zero]
 refine app_i u211 in277 rfl hO0 ((p).pre (m:=i) (by omega)).sl ((p).pre (m:=i) (by omega)).len (fun u hu=>one_ycc es 0 u (by rw [List.drop_zero];exact List.mem_of_mem_take hu)) (fun h=>by cases h) (by unfold maxLen;omega) fun Q a1 c1 g q hnil=>?_
 have o:=q.ch hO0 (T:=[M+1]) (by simp)
 have R:=o.size
 have hcut2:=sl_keep hcut q (fun b hb=>by rw [slO_block hb];simp only [Option.map_some,Option.some.injEq];omega)
 rw [Nat.zero_add,List.nil_append] at g
 simp only [Nat.zero_add]
 refine dSl_i ?_
 refine ⟨?_,?_⟩
 ·have z:=hcb.ch (f.app o) (by simp<;>omega)
  refine ld_t z rfl (dSl_i ?_)
  rfl
 rw [show ((i:Int)+1)=((i+1:Nat):Int) from by omega]
 simp only [Int.toNat_natCast]
 refine app_i u211 in277 rfl g hcut2 (m:=es.length - (i+1)) (k:=3) (by rw [List.length_drop,hco.len, ←Nat.sub_mul]) (one_ycc es _) (by intro h;rcases Nat.lt_or_ge (i+1) es.length with h2|h2<;>first|(exfalso;cases hs':slO (some aq) 3 ((i+1:Nat):Int) (lc:Int)<;>simp_all [slO])|omega) (by unfold maxLen;omega) fun L la2 lc2 A x _=>?_
 have j:=x.ch g (T:=[M+1]) (by simp)
 have N:=j.size
 refine dSl_i (nz_i ?_)
 have t:=((f.app o).app j)
 have w:=hcb.ch t (by simp<;>omega)
 refine st_t (r:=c) (i:=2) w rfl (by simp) fun J B y O=>?_
 have l:=on_ch w y
 have C:=A.mv l (tagn (by simp<;>omega))
 have D:=hcp.mv (t.app l) (tagn (by simp<;>omega))
 have hle:(es.eraseIdx i).length=i+(es.length - (i+1)):=by rw [List.length_eraseIdx,if_pos hil];omega
 have hb9:=B
 have hq9:=C
 have hp9:=D
 rw [fm_erase ycc_len] at hq9
 refine ret_t' (s':=remark J (M+1) (T+1)) rfl ⟨la2,lc2,rfl,remark_ch (((((Ch.refl [T] s).ch f (by simp)).fr o hM (by simp)).fr j hM (by simp)).ch l (by simp)) hM (by omega),⟨?_,?_,(hp9.keep (by omega)).sub (fun e he=>List.mem_of_mem_eraseIdx he),?_,by rw [hle];omega,hcc⟩⟩
 ·have h:=hb9.keep (μ:=M+1) (τ:=T+1) (by omega);rw [hle];exact h
 ·have h:=hq9.remark (τ:=T+1);rw [hle];exact h
 exact hC.nd.sublist ((List.eraseIdx_sublist _ _).map _)
theorem c_rread (d Td:Nat) (D:DiskM) (b:Int) (τ:Nat) {l:List UInt8} (s:TH) (hTd:10<=Td) (hd:RDisk s d Td D) (hb:D.has b) (hl:D.blocks[b.toNat]? =some l) (hf:D.fails b<=0):TRet Tryz.prog 221 #[.pointer (some ⟨d,0,none⟩),.int .i64 b] s fun v s'=>∃a c,v=.tuple #[.slice a 128 c,.int .i64 0]/\Ch [] s s'/\Own s' a 128 c 5 1 (bvs l) τ:=by
 obtain ⟨pa,pc,qa,qc,hs,qs,fa,fc,fl,hD⟩:=id hd
 have hdb:=hD.blk
 have hdr:=hD.rows
 have hdl:=hD.brel
 have hdf:Own s fa D.blocks.length fc 3 1 (ivs fl) (Td+4):=hD.fails
 have hfl:fl.length=D.blocks.length:=by have:=hdf.1;rw [ivs_len] at this;omega
 have hnb:=hD.nb
 obtain ⟨bn,rfl⟩: ∃bn:Nat,b=bn:=⟨b.toNat,by unfold DiskM.has at hb;omega⟩
 have hbl:bn<D.blocks.length:=by unfold DiskM.has at hb;omega
 rw [Int.toNat_natCast] at hl
 obtain ⟨q,hq⟩: ∃q,hs[bn]? =some q:=⟨hs[bn]'(by rw [hdl.len];exact hbl),by simp⟩
 refine F221_calls _ _  ?_
 unfold F221
 refine tcall (c_rhas d Td D bn _ hTd hd) ?_
 rintro z A ⟨rfl,e⟩
 have B:=e.size
 rw [decide_eq_true hb]
 refine dBl_i (sB_f (by rfl) (nz_i ?_))
 have k:=hdb.ch e (by simp)
 refine ld_t k rfl (dSl_i ?_)
 have m:=hdf.mv e (tagn (by simp))
 obtain ⟨C,rfl⟩:=m.ne_none (by omega)
 refine nz_i (ask_t (by omega) ?_)
 refine ld_iv m.sl (by omega) (by omega) fun t g=>?_
 rw [Int.toNat_natCast] at g
 refine dInt_i ?_
 refine sB_d (fun o=>by have:=hD.fok _ _ g;omega) (fun o=>?_)
 refine nz_i (ld_t k rfl (dSl_i ?_))
 have n:=hdr.mv e (tagn (by simp))
 obtain ⟨pa2,rfl⟩:=(n).ne_none (by omega)
 refine nz_i (ask_t (by omega) ?_)
 refine ld_sl (v:=.slice q.1 128 q.2) (n).sl (by rw [Int.toNat_natCast,Nat.mul_one];exact bcell hq) ?_
 refine dSl_i ?_
 have f:=hdl.mv e (tagn (by simp))
 refine tcall (c_copiedR τ _ ((f).at_ bn q l hq hl).sl ((f).at_ bn q l hq hl).len (fun h=>by obtain ⟨y,hy⟩:=((f).at_ bn q l hq hl).ne;rw [h] at hy;cases hy) (by omega)) ?_
 rintro u w ⟨p,r,rfl,i,j⟩
 have x:=i.size
 refine dSl_i ?_
 refine ret_t ?_
 exact ⟨_,_,rfl,(((Ch.refl [] s).ch e (by simp)).ch i (by simp)),j⟩
theorem mv_perm {α:Type}: ∀ {l:List α} {k:Nat} {x:α},l[k]? =some x->(l.eraseIdx k++[x]).Perm l
 |[],k,x,h=>by simp at h
 |y::l,0,x,h=>by
  simp at h;subst h
  exact List.perm_append_comm (l₁ :=l) (l₂ :=[y])
 |y::l,k+1,x,h=>(mv_perm (l:=l) (k:=k) (x:=x) (by simpa using h)).cons y
theorem nd_snoc {l:List Int} {b:Int} (h:l.Nodup) (hb:b∉l):(l++[b]).Nodup:=(List.perm_append_comm (l₁ :=l) (l₂ :=[b])).nodup_iff.2 (List.nodup_cons.2 ⟨hb,h⟩)
theorem RCP.rc {s:TH} {c T d:Nat} {bs:List (List UInt8)} {n hi mi:Int} {la:Option Addr} {lc:Nat} {es:List (Int×Hd)} (h:RCP s c T d bs n la lc es hi mi):RC s c T d bs n:=⟨_,_,_,_,_,h⟩
theorem c_ycGet (c T d:Nat) (bs:List (List UInt8)) (n hi mi:Int) (la:Option Addr) (lc:Nat) (es:List (Int×Hd)) (D:DiskM) (Td:Nat) (b:Int) (τ:Nat) {l:List UInt8} (s:TH) (hT:10<=T) (hC:RCP s c T d bs n la lc es hi mi) (hTd:10<=Td) (hd:RDisk s d Td D) (hb:D.has b) (hl:D.blocks[b.toNat]? =some l) (hf:D.fails b<=0) (hTT:T+10<=Td∨Td+10<=T) (hbs:bs=D.blocks) (hn:n<1000000000000000000) (hl8:l.length=128):TRet Tryz.prog 135 #[.pointer (some ⟨c,0,none⟩),.int .i64 b] s fun v s'=>∃a cc,v=.tuple #[.slice a 128 cc,.int .i64 0]/\Ch [T,T+1] s s'/\RC s' c T d bs (n+1)/\Own s' a 128 cc 5 1 (bvs l) τ:=by
 have hcb:=hC.blk
 have hco:=hC.own
 have hcp:=hC.pts
 have hcl:=hC.len
 have hcc:=hC.cnt
 obtain ⟨pa,pc,qa,qc,hs,qs,fa,fc,fl,hD⟩:=id hd
 have hdb:=hD.blk
 have hdr:=hD.rows
 have hdl:=hD.brel
 have hdf:Own s fa D.blocks.length fc 3 1 (ivs fl) (Td+4):=hD.fails
 have hfl:fl.length=D.blocks.length:=by have:=hdf.1;rw [ivs_len] at this;omega
 have hnb:=hD.nb
 obtain ⟨bn,rfl⟩: ∃bn:Nat,b=bn:=⟨b.toNat,by unfold DiskM.has at hb;omega⟩
 have hbl:bn<D.blocks.length:=by unfold DiskM.has at hb;omega
 rw [Int.toNat_natCast] at hl
 obtain ⟨q,hq⟩: ∃q,hs[bn]? =some q:=⟨hs[bn]'(by rw [hdl.len];exact hbl),by simp⟩
 obtain ⟨M,hM,hM0,hMa,hMb,hMc,hMd,hMe,hMf⟩:=fresh6 s (T+10) (Td+10) τ 0 0 0
 refine F135_calls _ _  ?_
 unfold F135
 refine jn_u ?_
 refine sB_d (fun bp=>by exfalso;omega) (fun bp=>?_)
 refine nz_i (ld_t hcb rfl (dPtr_i (nz_i (ld_t hdb rfl (dSl_i ?_)))))
 intro _
 intros
 refine dBl_i ?_
 refine sB_d (fun bq=>by exfalso;omega) (fun bq=>?_)
 refine tcall (c_ycfind _ _ _ _ _ _ _ _ _ _ _ _ (by omega) hC) ?_
 rintro cP cQ ⟨rfl,f⟩
 have cR:=f.size
 refine dInt_i ?_
 refine sB_d (fun br=>?_) (fun br=>?_)
 ·refine nz_i ?_
  have aj:=hcb.ch f (by simp)
  refine ld_t aj rfl (dInt_i (wr_t (by omega) (nz_i ?_)))
  refine st_t (r:=c) (i:=3) aj rfl (by simp) fun bX bo bt cS=>?_
  have ak:=on_ch aj bt
  have N:=hco.mv (f.app ak) (tagn (by simp))
  have al:=hcp.mv (f.app ak) (tagn (by simp))
  have hC2:RCP bX c T d bs (n+1) la lc es (hi+1) mi:=⟨bo,N,al,hC.nd,hC.len,by have:=hC.cnt;omega⟩
  refine nz_i (ld_t bo rfl (dSl_i ?_))
  obtain ⟨k,e,hk,he,hke⟩: ∃(k:Nat) (e:Int×Hd),ixf (fun x:Int×Hd=>x.1==(bn:Int)) es=(k:Int)/\es[k]? =some e/\e.1=(bn:Int):=by
   rcases ixf_cases (fun x:Int×Hd=>x.1==(bn:Int)) es with ⟨h1,_⟩|⟨k,e,h1,h2,h3⟩
   ·omega
   exact ⟨k,e,h1,h2,by simpa using h3⟩
  rw [hk]
  have hkl:=(List.getElem?_eq_some_iff.1 he).1
  obtain ⟨aq,hla⟩: ∃a,la=some a:=hco.sl.some (fun e2=>by have:=ccell0 he;rw [e2] at this;simp at this)
  subst hla
  refine nz_i (ask_t (by omega) ?_)
  refine ld_sl N.sl (by rw [Int.toNat_natCast];exact ccell0 he) ?_
  refine ld_sl2 N.sl (by rw [Int.toNat_natCast];exact ccell1 he) ?_
  refine ld_sl2 N.sl (by rw [Int.toNat_natCast];exact ccell2 he) ?_
  refine al_t (M+1) fun cT cU cg am an ci=>?_
  refine st_t am rfl (by simp) fun cV ao aO cj=>?_
  have ap:=on_ch am aO
  refine st_t ao rfl (by simp) fun cW ar aP ck=>?_
  have au:=on_ch ao aP
  refine st_t ar rfl (by simp) fun cX bu aQ cl=>?_
  have av:=on_ch ar aQ
  have aw:=(((an.app ap).app au).app av)
  have bv:=al.mv aw (tagn (by simp<;>omega))
  have hbe:=(((bv).at_ e (List.mem_of_getElem? he)).2.2 l (by rw [hbs,hke,Int.toNat_natCast];exact hl)).sl
  have bw:=hC2.mv aw (rngn (by simp<;>omega))
  refine tcall (c_ycwithout c T d bs (n+1) (hi+1) (mi) _ _ _ k _ hT bw (by omega)) ?_
  rintro cm cn ⟨bT,bU,rfl,Y,g⟩
  have co:=Y.size
  have hcb2:=(g).blk
  have hco2:=(g).own
  have hcp2:=(g).pts
  have hnd2:=(g).nd
  have hlen2:=(g).len
  have hlenE:(es.eraseIdx k).length=es.length - 1:=by rw [List.length_eraseIdx,if_pos (by omega)]
  refine nz_i (ld_t hcb2 rfl (dSl_i ?_))
  have O:=bu.ch Y (by simp<;>omega)
  refine ld_t O rfl (ld_t O rfl (ld_t O rfl ?_))
  refine al_t (M+2) fun cY cZ cp bx I cq=>?_
  refine ⟨?_,?_⟩
  ·have bz:=hcb2.ch I (by simp)
   refine ld_t bz rfl (dSl_i ?_)
   rfl
  have ax:=hco2.mv I (tagn (by simp))
  refine app_i u211 in277 rfl ax (bx).sl (m:=1) (k:=3) rfl (by intro u hu;simp at hu;rcases hu with rfl|rfl|rfl<;>rfl) (by simp) (by unfold maxLen;omega) fun cr la2 lc2 aR aS _=>?_
  have P:=aS.ch ax (T:=[T+1]) (by simp)
  have cs:=P.size
  refine dSl_i (nz_i ?_)
  have ay:=hcb2.ch (I.app P) (by simp)
  refine st_t (r:=c) (i:=2) ay rfl (by simp) fun c0 bA aT ct=>?_
  have Z:=on_ch ay aT
  refine al_t (M+3) fun c1 c2 cu bB Q cv=>?_
  have az:=(((I.app P).app Z).app Q)
  have bC:=O.ch az (by simp<;>omega)
  refine ld_t bC rfl (dSl_i ?_)
  have aA:=((((Y.app I).app P).app Z).app Q)
  have aB:=hbe.mv aA (tagn (by simp))
  refine app_bv (xs:=[]) u49 in5 (bB.own0 1) aB hl8 (by omega) fun bD ra rc oR_56 F=>?_
  have cw:=F.size
  refine dSl_i ?_
  have bE:=bA.ch (Q.app F) (by simp<;>omega)
  have bF:=((Z.app Q).app F)
  have bG:=aR.mv bF (tagn (by simp<;>omega))
  have bH:=hcp2.mv (az.app F) (tagn (by simp<;>omega))
  have bI:=aB.mv F (tagn (by simp<;>omega))
  have bJ:=((f.app ak).app an)
  have hcb9:=bE
  have hco9:=bG
  have hcp9:=bH
  have ho9:=oR_56
  have hcc9:=hC.cnt
  have hbe9:=bI
  rw [List.nil_append,Nat.zero_add] at ho9
  simp only [Nat.zero_add]
  refine ret_t' (s':=remark bD (M+3) τ) rfl ⟨_,_,rfl,remark_ch (((((((Ch.refl [T,T+1] s).ch bJ (by simp)).fr ap hM (by simp)).fr au hM (by simp)).fr av hM (by simp)).ch aA (by simp)).fr F hM (by simp)) hM (by omega),⟨la2,lc2,(List.eraseIdx es k)++[e],hi+1,mi,⟨?_,?_,((hcp9).keep (μ:=M+3) (τ:=τ) (by omega)).snoc (e:=e) ⟨by omega,by rw [hbs];omega⟩ (fun y hy=>by rw [hbs,hke,Int.toNat_natCast,hl] at hy;cases hy;exact ⟨((hbe9).keep (μ:=M+3) (τ:=τ) (by omega)),hl8⟩),((mv_perm he).map (·.1)).nodup_iff.2 hC.nd,?_,?_⟩⟩,(ho9).remark⟩
  ·have h:=(hcb9).keep (μ:=M+3) (τ:=τ) (by omega);rw [List.length_append];exact h
  ·have h:=(hco9).keep (μ:=M+3) (τ:=τ) (by omega);rw [List.length_append,List.flatMap_append];exact h
  ·rw [List.length_append];simp only [List.length_singleton];omega
  omega
 refine nz_i ?_
 have aa:=hcb.ch f (by simp)
 refine ld_t aa rfl (dInt_i ?_)
 have hnf: ∀x∈es,x.1≠(bn:Int):=by
  rcases ixf_cases (fun x:Int×Hd=>x.1==(bn:Int)) es with ⟨_,h2⟩|⟨k,e,h1,_,_⟩
  ·intro x hx e9;have:=h2 x hx;simp [e9] at this
  omega
 refine wr_t (by omega) (nz_i ?_)
 refine st_t (r:=c) (i:=4) aa rfl (by simp) fun bY t aU cx=>?_
 have J:=on_ch aa aU
 have aC:=hco.mv (f.app J) (tagn (by simp))
 have aD:=hcp.mv (f.app J) (tagn (by simp))
 have hC2:RCP bY c T d bs (n+1) la lc es hi (mi+1):=⟨t,aC,aD,hC.nd,hC.len,by have:=hC.cnt;omega⟩
 refine nz_i (ld_t t rfl (dSl_i (nz_i (ld_t t rfl (dInt_i ?_)))))
 refine ⟨?_,?_⟩
 ·refine ld_t t rfl (dInt_i ?_)
  rfl
 refine jn_u ?_
 refine sB_d (fun bK=>?_) (fun bK=>?_)
 ·refine tcall (c_ycvictim c T d bs (n+1) hi (mi+1) _ _ _ _ hT hC2 (by omega)) ?_
  rintro cy cz ⟨rfl,R⟩
  have cA:=R.size
  refine dInt_i ?_
  intro _
  intros
  refine dBl_i ?_
  refine sB_d (fun bL=>by exfalso;omega) (fun bL=>?_)
  refine nz_i ?_
  have bM:=t.ch R (by simp)
  refine ld_t bM rfl (dPtr_i ?_)
  have aE:=((f.app J).app R)
  have bN:=hd.mv aE (rngn (by simp<;>omega))
  refine tcall (c_rread d Td D bn (M+3) _ hTd bN hb (by rw [Int.toNat_natCast];exact hl) hf) ?_
  rintro cB cC ⟨U,V,rfl,ab,aF⟩
  have cD:=ab.size
  refine dT2 (dSl_i (dInt_i (sB_f (by rfl) ?_)))
  refine jn_u ?_
  refine sB_d (fun bO=>?_) (fun bO=>by exfalso;omega)
  have aG:=hC2.mv (R.app ab) (rngn (by simp))
  refine tcall (c_ycvictim c T d bs (n+1) hi (mi+1) _ _ _ _ hT aG (by omega)) ?_
  rintro cE cF ⟨rfl,S⟩
  have cG:=S.size
  refine dInt_i ?_
  have bP:=aG.mv S (rngn (by simp))
  refine tcall (c_ycwithout c T d bs (n+1) (hi) (mi+1) _ _ _ 0 _ hT bP (by omega)) ?_
  rintro cH cI ⟨bV,bW,rfl,ac,j⟩
  have cJ:=ac.size
  have hcb2:=(j).blk
  have hco2:=(j).own
  have hcp2:=(j).pts
  have hnd2:=(j).nd
  have hlen2:=(j).len
  have hlenE:(es.eraseIdx 0).length=es.length - 1:=by rw [List.length_eraseIdx,if_pos (by omega)]
  intro _
  intros
  refine nz_i (ld_t hcb2 rfl (dSl_i ?_))
  refine al_t (M+1) fun bQ cK aV bR K cL=>?_
  have aH:=hco2.mv K (tagn (by simp))
  refine app_i u211 in277 rfl aH (bR).sl (m:=1) (k:=3) rfl (by intro u hu;simp at hu;rcases hu with rfl|rfl|rfl<;>rfl) (by simp) (by unfold maxLen;omega) fun cM la2 lc2 aI aW _=>?_
  have L:=aW.ch aH (T:=[T+1]) (by simp)
  have bZ:=L.size
  refine dSl_i (nz_i ?_)
  have ad:=hcb2.ch (K.app L) (by simp)
  refine st_t (r:=c) (i:=2) ad rfl (by simp) fun cN aX aJ b0=>?_
  have G:=on_ch ad aJ
  refine al_t (M+2) fun bS cO aY aZ w b1=>?_
  have a0:=(((((S.app ac).app K).app L).app G).app w)
  have ae:=aF.mv a0 (tagn (by simp<;>omega))
  refine app_bv (xs:=[]) u49 in5 (aZ.own0 1) (ae).sl hl8 (by omega) fun a1 ra rc oR_114 o=>?_
  have b2:=o.size
  refine dSl_i ?_
  have a2:=aX.ch (w.app o) (by simp<;>omega)
  have a3:=((G.app w).app o)
  have a4:=aI.mv a3 (tagn (by simp<;>omega))
  have a5:=((((K.app L).app G).app w).app o)
  have a6:=hcp2.mv a5 (tagn (by simp<;>omega))
  have a7:=(((((((aE.app ab).app S).app ac).app K).app L).app G).app w)
  have a8:=ae.mv o (tagn (by simp))
  have hcb9:=a2
  have hco9:=a4
  have hcp9:=a6
  have ho9:=oR_114
  have hcc9:=hC.cnt
  have hnd9:=hC.nd.sublist ((List.eraseIdx_sublist es 0).map (·.1))
  rw [List.nil_append,Nat.zero_add] at ho9
  simp only [Nat.zero_add]
  refine ret_t' (s':=remark (remark a1 (M+3) (T+2)) (M+2) τ) rfl ⟨_,_,rfl,remark_ch (remark_ch (((Ch.refl [T,T+1] s).ch a7 (by simp)).fr o hM (by simp)) hM (by omega)) hM (by omega),⟨la2,lc2,(List.eraseIdx es 0)++[((bn:Int),(U,V))],hi,mi+1,⟨?_,?_,(((hcp9).keep (μ:=M+3) (τ:=T+2) (by omega)).keep (μ:=M+2) (τ:=τ) (by omega)).snoc (e:=((bn:Int),(U,V))) ⟨by omega,by rw [hbs];omega⟩ (fun y hy=>by rw [hbs,Int.toNat_natCast,hl] at hy;cases hy;exact ⟨(((a8).remark (τ:=T+2)).keep (μ:=M+2) (by omega)).sl,hl8⟩),by rw [List.map_append];exact nd_snoc hnd9 (fun h=>by obtain ⟨z,hz,e9⟩:=List.mem_map.1 h;exact hnf z (by first|exact hz|exact List.mem_of_mem_eraseIdx hz) e9),?_,?_⟩⟩,((ho9).keep (μ:=M+3) (τ:=T+2) (by omega)).remark⟩
  ·have h:=((hcb9).keep (μ:=M+3) (τ:=T+2) (by omega)).keep (μ:=M+2) (τ:=τ) (by omega);rw [List.length_append];exact h
  ·have h:=((hco9).keep (μ:=M+3) (τ:=T+2) (by omega)).keep (μ:=M+2) (τ:=τ) (by omega);rw [List.length_append,List.flatMap_append];exact h
  ·rw [List.length_append];simp only [List.length_singleton];omega
  omega
 intro _
 intros
 refine dBl_i (sB_f (by rfl) (nz_i (ld_t t rfl (dPtr_i ?_))))
 have a9:=hd.mv (f.app J) (rngn (by simp<;>omega))
 refine tcall (c_rread d Td D bn (M+3) _ hTd a9 hb (by rw [Int.toNat_natCast];exact hl) hf) ?_
 rintro b3 b4 ⟨W,X,rfl,A,aK⟩
 have b5:=A.size
 refine dT2 (dSl_i (dInt_i (sB_f (by rfl) ?_)))
 refine jn_u ?_
 refine sB_d (fun ba=>by exfalso;omega) (fun ba=>?_)
 intro _
 intros
 refine nz_i ?_
 have af:=t.ch A (by simp)
 refine ld_t af rfl (dSl_i ?_)
 refine al_t (M+1) fun bQ b6 aV bb B b7=>?_
 have ag:=aC.mv (A.app B) (tagn (by simp))
 refine app_i u211 in277 rfl ag (bb).sl (m:=1) (k:=3) rfl (by intro u hu;simp at hu;rcases hu with rfl|rfl|rfl<;>rfl) (by simp) (by unfold maxLen;omega) fun b8 la2 lc2 aL aM _=>?_
 have C:=aM.ch ag (T:=[T+1]) (by simp)
 have b9:=C.size
 refine dSl_i (nz_i ?_)
 have ah:=af.ch (B.app C) (by simp)
 refine st_t (r:=c) (i:=2) ah rfl (by simp) fun ca bc aN cb=>?_
 have H:=on_ch ah aN
 refine al_t (M+2) fun bS cd aY bd E ce=>?_
 have be:=(((B.app C).app H).app E)
 have ai:=aK.mv be (tagn (by simp<;>omega))
 refine app_bv (xs:=[]) u49 in5 (bd.own0 1) (ai).sl hl8 (by omega) fun bf ra rc oR_152 p=>?_
 have cf:=p.size
 refine dSl_i ?_
 have bg:=bc.ch (E.app p) (by simp<;>omega)
 have bh:=((H.app E).app p)
 have bi:=aL.mv bh (tagn (by simp<;>omega))
 have bj:=(((((A.app B).app C).app H).app E).app p)
 have bk:=aD.mv bj (tagn (by simp<;>omega))
 have bl:=((((((f.app J).app A).app B).app C).app H).app E)
 have bm:=ai.mv p (tagn (by simp))
 have hcb9:=bg
 have hco9:=bi
 have hcp9:=bk
 have ho9:=oR_152
 have hcc9:=hC.cnt
 have hnd9:=hC.nd
 rw [List.nil_append,Nat.zero_add] at ho9
 simp only [Nat.zero_add]
 refine ret_t' (s':=remark (remark bf (M+3) (T+2)) (M+2) τ) rfl ⟨_,_,rfl,remark_ch (remark_ch (((Ch.refl [T,T+1] s).ch bl (by simp)).fr p hM (by simp)) hM (by omega)) hM (by omega),⟨la2,lc2,es++[((bn:Int),(W,X))],hi,mi+1,⟨?_,?_,(((hcp9).keep (μ:=M+3) (τ:=T+2) (by omega)).keep (μ:=M+2) (τ:=τ) (by omega)).snoc (e:=((bn:Int),(W,X))) ⟨by omega,by rw [hbs];omega⟩ (fun y hy=>by rw [hbs,Int.toNat_natCast,hl] at hy;cases hy;exact ⟨(((bm).remark (τ:=T+2)).keep (μ:=M+2) (by omega)).sl,hl8⟩),by rw [List.map_append];exact nd_snoc hnd9 (fun h=>by obtain ⟨z,hz,e9⟩:=List.mem_map.1 h;exact hnf z (by first|exact hz|exact List.mem_of_mem_eraseIdx hz) e9),?_,?_⟩⟩,((ho9).keep (μ:=M+3) (τ:=T+2) (by omega)).remark⟩
 ·have h:=((hcb9).keep (μ:=M+3) (τ:=T+2) (by omega)).keep (μ:=M+2) (τ:=τ) (by omega);rw [List.length_append];exact h
 ·have h:=((hco9).keep (μ:=M+3) (τ:=T+2) (by omega)).keep (μ:=M+2) (τ:=τ) (by omega);rw [List.length_append,List.flatMap_append];exact h
 ·rw [List.length_append];simp only [List.length_singleton];omega
 omega
theorem ycc_set : ∀(es:List (Int×Hd)) (k:Nat) (e:Int×Hd) (h:Hd),es[k]? =some e->(es.flatMap ycc).set (k*3+2) (.slice h.1 128 h.2)=(es.set k (e.1,h)).flatMap ycc
 |[],k,e,h,he=>by simp at he
 |x::es,0,e,h,he=>by simp at he;subst he;rfl
 |x::es,k+1,e,h,he=>by
  have ih:=ycc_set es k e h (by simpa using he)
  show (ycc x++es.flatMap ycc).set ((k+1)*3+2) _=ycc x++(es.set k (e.1,h)).flatMap ycc
  rw [←ih,List.set_append,if_neg (by rw [ycc_len];omega),ycc_len]
  congr 2
  omega
theorem CPts.put {s:TH} {τ:Nat} {es:List (Int×Hd)} {bs:List (List UInt8)} (h:CPts s τ es bs) {bn:Nat} {y:List UInt8} (hn: ∀x∈es,x.1≠(bn:Int)):CPts s τ es (bs.set bn y):=⟨fun e he=>by
 have g:=h.at_ e he
 refine ⟨g.1,by rw [List.length_set];exact g.2.1,fun z hz=>g.2.2 z ?_⟩
 have:=hn e he
 rwa [List.getElem?_set_ne (by omega)] at hz⟩
theorem CPts.set {s:TH} {τ:Nat} {es:List (Int×Hd)} {bs:List (List UInt8)} (h:CPts s τ es bs) (nd:(es.map (·.1)).Nodup) {bn k:Nat} {e:Int×Hd} {y:List UInt8} {p:Hd} (he:es[k]? =some e) (hb:e.1=(bn:Int)) (hp:ByAt s τ p y):CPts s τ (es.set k (e.1,p)) (bs.set bn y):=⟨fun x hx=>by
 obtain ⟨j,hj⟩:=List.getElem?_of_mem hx
 rw [List.getElem?_set] at hj
 have ge:=h.at_ e (List.mem_of_getElem? he)
 by_cases e1:k=j
 ·subst e1
  rw [if_pos rfl,if_pos (List.getElem?_eq_some_iff.1 he).1] at hj
  cases hj
  refine ⟨ge.1,by rw [List.length_set];exact ge.2.1,fun z hz=>?_⟩
  have hlt:bn<bs.length:=by have:=ge.2.1;omega
  rw [show (e.1,p).1.toNat=bn by show e.1.toNat=bn;omega,List.getElem?_set_self hlt] at hz
  cases hz;exact hp
 rw [if_neg e1] at hj
 have g:=h.at_ x (List.mem_of_getElem? hj)
 have hne:x.1≠e.1:=fun e9=>e1 (by
  have h1:(es.map (·.1))[k]? =some e.1:=by rw [List.getElem?_map,he];rfl
  have h2:(es.map (·.1))[j]? =some x.1:=by rw [List.getElem?_map,hj];rfl
  obtain ⟨a1,b1⟩:=List.getElem?_eq_some_iff.1 h1
  obtain ⟨a2,b2⟩:=List.getElem?_eq_some_iff.1 h2
  exact (List.getElem_inj nd).1 (by rw [b1,b2,e9]))
 refine ⟨g.1,by rw [List.length_set];exact g.2.1,fun z hz=>g.2.2 z ?_⟩
 rwa [List.getElem?_set_ne (by omega)] at hz⟩
theorem c_ycPut (c T d:Nat) (bs:List (List UInt8)) (n hi mi:Int) (la:Option Addr) (lc:Nat) (es:List (Int×Hd)) (D:DiskM) (Td:Nat) (b:Int) {xa:Option Addr} (xc:Nat) {y:List UInt8} {τx:Nat} (s:TH) (hT:10<=T) (hC:RCP s c T d bs n la lc es hi mi) (hTd:10<=Td) (hd:RDisk s d Td D) (hb:D.has b) (hbs:bs.length=D.blocks.length) (hTT:T+10<=Td∨Td+10<=T) (hx:Sl s xa (bvs y) τx) (hxl:y.length=128):TRet Tryz.prog 204 #[.pointer (some ⟨c,0,none⟩),.int .i64 b,.slice xa 128 xc] s fun v s'=>v=.int .i64 0/\Ch [T,T+1] s s'/\RC s' c T d (bs.set b.toNat y) n:=by
 have hcb:=hC.blk
 have hco:=hC.own
 have hcp:=hC.pts
 have hcl:=hC.len
 have hcc:=hC.cnt
 obtain ⟨pa,pc,qa,qc,hs,qs,fa,fc,fl,hD⟩:=id hd
 have hdb:=hD.blk
 have hdr:=hD.rows
 have hdl:=hD.brel
 have hdf:Own s fa D.blocks.length fc 3 1 (ivs fl) (Td+4):=hD.fails
 have hfl:fl.length=D.blocks.length:=by have:=hdf.1;rw [ivs_len] at this;omega
 have hnb:=hD.nb
 obtain ⟨bn,rfl⟩: ∃bn:Nat,b=bn:=⟨b.toNat,by unfold DiskM.has at hb;omega⟩
 have hbl:bn<D.blocks.length:=by unfold DiskM.has at hb;omega
 obtain ⟨M,hM,hM0,hMa,hMb,hMc,hMd,hMe,hMf⟩:=fresh6 s (T+10) (Td+10) τx 0 0 0
 refine F204_calls _ _ _ _ _  ?_
 unfold F204
 refine jn_u ?_
 refine sB_d (fun r=>by exfalso;omega) (fun r=>?_)
 refine nz_i (ld_t hcb rfl (dPtr_i (nz_i (ld_t hdb rfl (dSl_i ?_)))))
 refine sB_d (fun t=>by exfalso;omega) (fun t=>?_)
 intro _
 intros
 refine dBl_i (sB_f (by rfl) ?_)
 refine tcall (c_ycfind _ _ _ _ _ _ _ _ _ _ _ _ (by omega) hC) ?_
 rintro R S ⟨rfl,f⟩
 have U:=f.size
 refine dInt_i ?_
 refine jn_u ?_
 refine sB_d (fun u=>?_) (fun u=>?_)
 ·refine nz_i ?_
  have o:=hcb.ch f (by simp)
  refine ld_t o rfl (dSl_i ?_)
  refine al_t (M+1) fun V W N K i X=>?_
  refine ⟨?_,?_⟩
  ·have w:=o.ch i (by simp)
   refine ld_t w rfl (dSl_i ?_)
   rfl
  have z:=hx.mv (f.app i) (tagn (by simp))
  refine app_bv (xs:=[]) u49 in5 ((K).own0 1) z hxl (by omega) fun O ra rc oR_15 g=>?_
  have P:=g.size
  refine dSl_i ?_
  refine ⟨?_,?_⟩
  ·have A:=o.ch (i.app g) (by simp<;>omega)
   refine ld_t A rfl (dSl_i ?_)
   rfl
  obtain ⟨k,e,hk,he,hke⟩: ∃(k:Nat) (e:Int×Hd),ixf (fun x:Int×Hd=>x.1==(bn:Int)) es=(k:Int)/\es[k]? =some e/\e.1=(bn:Int):=by
   rcases ixf_cases (fun x:Int×Hd=>x.1==(bn:Int)) es with ⟨h1,_⟩|⟨k,e,h1,h2,h3⟩
   ·omega
   exact ⟨k,e,h1,h2,by simpa using h3⟩
  rw [hk]
  have hkl:=(List.getElem?_eq_some_iff.1 he).1
  obtain ⟨aq,hla⟩: ∃a,la=some a:=hco.sl.some (fun e2=>by have:=ccell0 he;rw [e2] at this;simp at this)
  subst hla
  refine nz_i (ask_t (by omega) ?_)
  have p:=((f.app i).app g)
  have m:=hco.mv p (tagn (by simp<;>omega))
  have hao:=add_add ((m).sl) (ccell2 he)
  rw [Int.toNat_natCast,hao]
  refine Own.st m rfl (by omega) fun L B q Q=>?_
  have l:=Ch.on_tag (T:=[T+1]) (Ch.refl _ _) q m.tagOf (by simp)
  intro _
  intros
  have C:=((i.app g).app l)
  have E:=o.ch C (by simp<;>omega)
  have F:=hcp.mv (p.app l) (tagn (by simp<;>omega))
  have G:=oR_15.mv l (tagn (by simp<;>omega))
  have hcb9:=E
  have hco9:=B
  have hcp9:=F
  have ho9:=G
  rw [List.nil_append,Nat.zero_add] at ho9
  simp only [Nat.zero_add] at hco9
  rw [ycc_set es k e (ra,rc) he] at hco9
  rw [Int.toNat_natCast]
  refine ret_t' (s':=remark L (M+1) (T+2)) rfl ⟨rfl,remark_ch (((((Ch.refl [T,T+1] s).ch f (by simp)).ch i (by simp)).fr g hM (by simp)).ch l (by simp)) hM (by omega),⟨some aq,lc,es.set k (e.1,(ra,rc)),hi,mi,⟨?_,?_,?_,?_,?_,hC.cnt⟩⟩⟩
  ·have h:=hcb9.keep (μ:=M+1) (τ:=T+2) (by omega);rw [List.length_set];exact h
  ·have h:=hco9.keep (μ:=M+1) (τ:=T+2) (by omega);rw [List.length_set];exact h
  ·exact (hcp9.keep (by omega)).set hC.nd he hke ⟨ho9.remark.sl,hxl⟩
  ·rw [List.map_set];have e9:(es.map (·.1)).set k e.1=es.map (·.1):=by
    apply List.ext_getElem?;intro j;rw [List.getElem?_set];by_cases e1:k=j
    ·subst e1;rw [if_pos rfl,if_pos (by rw [List.length_map];exact hkl),List.getElem?_map,he];rfl
    rw [if_neg e1]
   rw [e9];exact hC.nd
  rw [List.length_set];exact hC.len
 intro _
 intros
 have H:=hcb.ch f (by simp)
 have I:=hco.mv f (tagn (by simp))
 have J:=hcp.mv f (tagn (by simp))
 have hnf: ∀x∈es,x.1≠(bn:Int):=by
  rcases ixf_cases (fun x:Int×Hd=>x.1==(bn:Int)) es with ⟨_,h2⟩|⟨k,e,h1,_,_⟩
  ·intro x hx e9;have:=h2 x hx;simp [e9] at this
  omega
 rw [Int.toNat_natCast]
 exact ret_t ⟨rfl,((Ch.refl [T,T+1] s).ch f (by simp)),⟨la,lc,es,hi,mi,⟨H,I,(J).put hnf,hC.nd,hC.len,hC.cnt⟩⟩⟩
def ywc (e:(Int×WayM)×Hd×Hd):List Value:=[.int .i64 e.1.1,.int .i64 e.1.2.blk,.slice e.2.1.1 128 e.2.1.2,.slice e.2.2.1 e.1.2.ids.length e.2.2.2]
theorem ywc_len (e:(Int×WayM)×Hd×Hd):(ywc e).length=4:=rfl
section
variable {ws :List ((Int×WayM)×Hd×Hd)} {m:Nat} {x:(Int×WayM)×Hd×Hd}
theorem wcell0 (h:ws[m]? =some x):(ws.flatMap ywc)[m*4]? =some (.int .i64 x.1.1):=fm_get ywc_len ws m 0 x h (by omega)
theorem wcell1 (h:ws[m]? =some x):(ws.flatMap ywc)[m*4+1]? =some (.int .i64 x.1.2.blk):=fm_get ywc_len ws m 1 x h (by omega)
theorem wcell2 (h:ws[m]? =some x):(ws.flatMap ywc)[m*4+2]? =some (.slice x.2.1.1 128 x.2.1.2):=fm_get ywc_len ws m 2 x h (by omega)
theorem wcell3 (h:ws[m]? =some x):(ws.flatMap ywc)[m*4+3]? =some (.slice x.2.2.1 x.1.2.ids.length x.2.2.2):=fm_get ywc_len ws m 3 x h (by omega)
end
theorem one_ywc (es:List ((Int×WayM)×Hd×Hd)) (i:Nat): ∀u∈(es.flatMap ywc).drop i,u.oneCell'=true:=by
 intro u hu
 have:=List.mem_of_mem_drop hu
 simp only [List.mem_flatMap,ywc] at this
 obtain ⟨q,_,hq⟩:=this
 simp at hq
 rcases hq with rfl|rfl|rfl|rfl<;>rfl
structure YWs (s:TH) (τ:Nat) (ws:List ((Int×WayM)×Hd×Hd)):Prop where
 at_: ∀e∈ws,Sl s e.2.1.1 (bvs e.1.2.by_) τ/\Sl s e.2.2.1 (ivs e.1.2.ids) τ/\e.1.2.by_.length=128
theorem YWs.mv {s s':TH} {τ:Nat} {ws:List ((Int×WayM)×Hd×Hd)} {B:Nat->Prop} (h:YWs s τ ws) (c:Chg B s s') (hn: ∀j,j<s.h.size->s.g j=τ->¬B j):YWs s' τ ws:=⟨fun e he=>⟨(h.at_ e he).1.mv c hn,(h.at_ e he).2.1.mv c hn,(h.at_ e he).2.2⟩⟩
theorem YWs.sub {s:TH} {τ:Nat} {ws vs:List ((Int×WayM)×Hd×Hd)} (h:YWs s τ ws) (hs: ∀e∈vs,e∈ws):YWs s τ vs:=⟨fun e he=>h.at_ e (hs e he)⟩
theorem YWs.snoc {s:TH} {τ:Nat} {ws:List ((Int×WayM)×Hd×Hd)} (h:YWs s τ ws) {e:(Int×WayM)×Hd×Hd} (h1:Sl s e.2.1.1 (bvs e.1.2.by_) τ) (h2:Sl s e.2.2.1 (ivs e.1.2.ids) τ) (h3:e.1.2.by_.length=128):YWs s τ (ws++[e]):=⟨fun x hx=>by
 rcases List.mem_append.1 hx with hx|hx
 ·exact h.at_ x hx
 rw [List.mem_singleton] at hx;subst hx;exact ⟨h1,h2,h3⟩⟩
theorem YWs.keep {s:TH} {σ μ τ:Nat} {ws:List ((Int×WayM)×Hd×Hd)} (h:YWs s σ ws) (hn:σ≠μ):YWs (E.remark s μ τ) σ ws:=⟨fun e he=>⟨(h.at_ e he).1.keep hn,(h.at_ e he).2.1.keep hn,(h.at_ e he).2.2⟩⟩
theorem RDisk.keep {s:TH} {d T μ τ:Nat} {D:DiskM} (h:RDisk s d T D) (hn:μ<T∨T+10<=μ):RDisk (E.remark s μ τ) d T D:=by
 obtain ⟨pa,pc,qa,qc,hs,qs,fa,fc,fl,h⟩:=h
 exact ⟨pa,pc,qa,qc,hs,qs,fa,fc,fl,h.blk.keep (by omega),h.rows.keep (by omega),h.brel.keep (by omega),h.que.keep (by omega),h.qrel.keep (by omega),h.fails.keep (by omega),h.fok,h.nb,h.nq,h.qin⟩
theorem RC.keep {s:TH} {c T d μ τ:Nat} {bs:List (List UInt8)} {n:Int} (h:RC s c T d bs n) (hn:μ<T∨T+10<=μ):RC (E.remark s μ τ) c T d bs n:=by
 obtain ⟨la,lc,es,hi,mi,h⟩:=h.p
 exact ⟨la,lc,es,hi,mi,h.blk.keep (by omega),h.own.keep (by omega),h.pts.keep (by omega),h.nd,h.len,h.cnt⟩
theorem RC.up {s:TH} {c T d:Nat} {bs:List (List UInt8)} {n k:Int} (h:RC s c T d bs n) (hm:n<=k):RC s c T d bs k:=by
 obtain ⟨la,lc,es,hi,mi,hp⟩:=h.p
 exact ⟨la,lc,es,hi,mi,hp.blk,hp.own,hp.pts,hp.nd,hp.len,by have:=hp.cnt;omega⟩
theorem RSet.keep {s:TH} {p T μ τ:Nat} {P:PatchM} (h:RSet s p T P) (hn:μ<T∨T+10<=μ):RSet (E.remark s μ τ) p T P:=by
 obtain ⟨⟨la,lc,es,hp⟩,ok⟩:=h
 exact ⟨⟨la,lc,es,hp.blk.keep (by omega),hp.own.keep (by omega),hp.pts.keep (by omega),hp.eq⟩,ok⟩
structure YLP (s:TH) (y U:Nat) (V:VolM) (m:Int) (xd yc yp:Nat) (wa:Option Addr) (wc:Nat) (ws:List ((Int×WayM)×Hd×Hd)):Prop where
 blk:Blk s y [.pointer (some ⟨xd,0,none⟩),.pointer (some ⟨yc,0,none⟩),.pointer (some ⟨yp,0,none⟩),.slice wa V.way.length wc,.bool false,.bool false,.int .i64 0,.slice none 0 0] 143 U
 own:Own s wa V.way.length wc 202 4 (ws.flatMap ywc) (U+1)
 pts:YWs s (U+2) ws
 eq:ws.map (·.1)=V.way
 dk:RDisk s xd (U+10) V.D
 ca:RC s yc (U+20) xd V.D.blocks m
 ps:RSet s yp (U+30) V.P
structure YL (s:TH) (y U:Nat) (V:VolM) (m:Int):Prop where
 p: ∃xd yc yp wa wc ws,YLP s y U V m xd yc yp wa wc ws
 ok:VOk V
 nd:Nd V.P
 m0:0<=m/\m<=1000000000000000000
section
variable {s :TH} {y U:Nat} {V:VolM} {m:Int} {xd yc yp:Nat} {wa:Option Addr} {wc:Nat} {ws:List ((Int×WayM)×Hd×Hd)}
theorem YLP.len (h:YLP s y U V m xd yc yp wa wc ws):ws.length=V.way.length:=by rw [←h.eq,List.length_map]
theorem YLP.at_ (h:YLP s y U V m xd yc yp wa wc ws) {k:Nat} {e:(Int×WayM)×Hd×Hd} (he:ws[k]? =some e):V.way[k]? =some e.1:=by rw [←h.eq,List.getElem?_map,he];rfl
theorem YLP.mv {s':TH} {B:Nat->Prop} (h:YLP s y U V m xd yc yp wa wc ws) (k:Chg B s s') (hn: ∀j,j<s.h.size->U<=s.g j->s.g j<U+50->¬B j):YLP s' y U V m xd yc yp wa wc ws:=
 ⟨h.blk.mv k (of_t50 hn (by omega) (by omega) y h.blk.lt h.blk.tag),h.own.mv k (of_t50 hn (by omega) (by omega)),h.pts.mv k (of_t50 hn (by omega) (by omega)),h.eq,h.dk.mv k (of_rng50 hn (by omega) (by omega)),h.ca.mv k (of_rng50 hn (by omega) (by omega)),h.ps.mv k (of_rng50 hn (by omega) (by omega))⟩
theorem YL.mv {s':TH} {B:Nat->Prop} (h:YL s y U V m) (k:Chg B s s') (hn: ∀j,j<s.h.size->U<=s.g j->s.g j<U+50->¬B j):YL s' y U V m:=by
 obtain ⟨⟨xd,yc,yp,wa,wc,ws,hp⟩,h2,h3,h4⟩:=h
 exact ⟨⟨xd,yc,yp,wa,wc,ws,hp.mv k hn⟩,h2,h3,h4⟩
theorem YL.up {k:Int} (h:YL s y U V m) (h1:m<=k) (h2:k<=1000000000000000000):YL s y U V k:=by
 obtain ⟨⟨xd,yc,yp,wa,wc,ws,hp⟩,g2,g3,g4⟩:=h
 exact ⟨⟨xd,yc,yp,wa,wc,ws,hp.blk,hp.own,hp.pts,hp.eq,hp.dk,hp.ca.up h1,hp.ps⟩,g2,g3,by omega⟩
theorem YL.keep {μ τ:Nat} (h:YL s y U V m) (hn:μ<U∨U+50<=μ):YL (E.remark s μ τ) y U V m:=by
 obtain ⟨⟨xd,yc,yp,wa,wc,ws,hp⟩,g2,g3,g4⟩:=h
 exact ⟨⟨xd,yc,yp,wa,wc,ws,hp.blk.keep (by omega),hp.own.keep (by omega),hp.pts.keep (by omega),hp.eq,hp.dk.keep (by omega),hp.ca.keep (by omega),hp.ps.keep (by omega)⟩,g2,g3,g4⟩
theorem RDisk.nb_ {d T:Nat} {D:DiskM} (h:RDisk s d T D):1<=D.blocks.length/\D.blocks.length<=2048:=by obtain ⟨_,_,_,_,_,_,_,_,_,h⟩:=h;exact h.nb
end
theorem in202 :(Tryz.prog.info? 202).map (fun i=>(i.zero,i.size,i.bytes))=some (some (.agg #[.int .i64 0,.int .i64 0,.slice none 0 0,.slice none 0 0]),4,64):=by kernel_rfl
theorem c_yvhas (y U:Nat) (V:VolM) (m:Int) (b:Int) (s:TH) (hU:10<=U) (hY:YL s y U V m):TRet Tryz.prog 107 #[.pointer (some ⟨y,0,none⟩),.int .i64 b] s fun v s'=>v=.bool (decide (V.D.has b))/\Ch [] s s':=by
 obtain ⟨xd,yc,yp,wa,wc,ws,hL⟩:=hY.p
 have ok:=hY.ok
 have hlb:=hL.blk
 have hlo:=hL.own
 have hlw:=hL.pts
 have hlD:=hL.dk
 have hlC:=hL.ca
 have hlP:=hL.ps
 have hwl:=hL.len
 have hn0:=ok.n0
 have hpok:=hL.ps.ok
 have hplst:=hL.ps.ok.lst
 have hm0:=hY.m0
 have hwlen:=ok.wlen
 have hnb:=hL.dk.nb_
 obtain ⟨pa,pc,qa,qc,hs,qs,fa,fc,fl,hD⟩:=id hL.dk
 have hdb:=hD.blk
 refine F107_calls _ _  ?_
 unfold F107
 refine sB_d (fun a=>?_) (fun a=>?_)
 ·refine nz_i (ld_t hlb rfl (dPtr_i (nz_i (ld_t hdb rfl (dSl_i ?_)))))
  refine ret_t ?_
  exact ⟨ret_b (by unfold DiskM.has;first|exact (decide_eq_false (by omega)).symm|exact (decide_eq_true (by omega)).symm|exact decide_eq_decide.2 (by omega)),(Ch.refl [] s)⟩
 refine ret_t ?_
 exact ⟨ret_b (by unfold DiskM.has;first|exact (decide_eq_false (by omega)).symm|exact (decide_eq_true (by omega)).symm|exact decide_eq_decide.2 (by omega)),(Ch.refl [] s)⟩
theorem c_yvonway (y U:Nat) (V:VolM) (m:Int) (b:Int) (s:TH) (hU:10<=U) (hY:YL s y U V m):TRet Tryz.prog 144 #[.pointer (some ⟨y,0,none⟩),.int .i64 b] s fun v s'=>v=.bool (V.going b)/\Ch [] s s':=by
 obtain ⟨xd,yc,yp,wa,wc,ws,hL⟩:=hY.p
 have ok:=hY.ok
 have hlb:=hL.blk
 have hlo:=hL.own
 have hlw:=hL.pts
 have hlD:=hL.dk
 have hlC:=hL.ca
 have hlP:=hL.ps
 have hwl:=hL.len
 have hn0:=ok.n0
 have hpok:=hL.ps.ok
 have hplst:=hL.ps.ok.lst
 have hm0:=hY.m0
 have hwlen:=ok.wlen
 have hnb:=hL.dk.nb_
 obtain ⟨M,hM,hM0,hMa,hMb,hMc,hMd,hMe,hMf⟩:=fresh6 s (U+50) 0 0 0 0 0
 refine F144_calls _ _  ?_
 unfold F144
 refine nz_i (ld_t hlb rfl (dSl_i ?_))
 refine ⟨fun vs H'=>∃s':TH,s'.h=H'/\∃q,vs=[.int .i64 q]/\Ch [] s s'/\(∃k:Nat,q=k/\k<=V.way.length/\∀j p,j<k->V.way[j]? =some p->p.2.blk≠b),fun vs H'=>match vs with|[.int .i64 q]=>((V.way.length:Int) - q).toNat|_=>0,⟨s,rfl,_,rfl,Ch.refl _ _,?_⟩,?_⟩
 ·exact ⟨0,rfl,by omega,fun j x h=>by omega⟩
 intro q
 iterate 10 intro _
 intro H_ hI_2
 obtain ⟨L,rfl,q_,hvs,c,k,rfl,hk,hall⟩:=hI_2
 cases hvs
 have N:=c.size
 refine sB_d (fun D=>?_) (fun D=>?_)
 ·obtain ⟨e,he⟩: ∃e,ws[k]? =some e:=⟨ws[k]'(by omega),by simp⟩
  have hxl:=hL.at_ he
  obtain ⟨aq,hla⟩: ∃a,wa=some a:=hlo.sl.some (fun e2=>by have:=wcell0 he;rw [e2] at this;simp at this)
  subst hla
  refine nz_i (ask_t (by omega) ?_)
  have f:=hlo.mv c (tagn (by simp))
  refine ld_sl f.sl (by rw [Int.toNat_natCast];exact wcell0 he) ?_
  refine ld_sl2 f.sl (by rw [Int.toNat_natCast];exact wcell1 he) ?_
  refine ld_sl2 f.sl (by rw [Int.toNat_natCast];exact wcell2 he) ?_
  refine ld_sl2 f.sl (by rw [Int.toNat_natCast];exact wcell3 he) ?_
  refine al_t (M+9) fun O P G A B Q=>?_
  refine st_t A rfl (by simp) fun R C t H=>?_
  have g:=on_ch A t
  refine st_t C rfl (by simp) fun S i u I=>?_
  have l:=on_ch C u
  refine st_t i rfl (by simp) fun T n w J=>?_
  have o:=on_ch i w
  refine st_t n rfl (by simp) fun F E z K=>?_
  have r:=on_ch n z
  refine ld_t E rfl (dInt_i ?_)
  refine sB_d (fun d=>?_) (fun d=>?_)
  ·refine ret_t ?_
   exact ⟨ret_b (List.any_eq_true.2 ⟨e.1,List.mem_of_getElem? hxl,by simpa using d⟩).symm,(((((((Ch.refl [] s).ch c (by simp)).ch B (by simp)).fr g hM (by simp)).fr l hM (by simp)).fr o hM (by simp)).fr r hM (by simp))⟩
  refine wr_t (by omega) ?_
  refine ⟨⟨F,rfl,_,rfl,(((((((Ch.refl [] s).ch c (by simp)).ch B (by simp)).fr g hM (by simp)).fr l hM (by simp)).fr o hM (by simp)).fr r hM (by simp)),?_⟩,?_⟩
  ·refine ⟨k+1,by omega,by omega,fun j p hj hp=>?_⟩
   by_cases e2:j=k
   ·subst e2;rw [hxl] at hp;cases hp;exact d
   exact hall j p (by omega) hp
  simp only [];omega
 refine ret_t ?_
 exact ⟨ret_b (List.any_eq_false.2 fun p hp=>by
  obtain ⟨j,hj,e2⟩:=List.getElem_of_mem hp
  have:=hall j p (by omega) (by rw [←e2];exact List.getElem?_eq_getElem hj)
  simpa using this).symm,((Ch.refl [] s).ch c (by simp))⟩
theorem c_yvdirty (y U:Nat) (V:VolM) (m:Int) (τ:Nat) (s:TH) (hU:10<=U) (hY:YL s y U V m):TRet Tryz.prog 64 #[.pointer (some ⟨y,0,none⟩)] s fun v s'=>∃a c,v=.slice a V.P.blocks.length c/\Ch [] s s'/\Own s' a V.P.blocks.length c 3 1 (ivs V.P.blocks) τ:=by
 obtain ⟨xd,yc,yp,wa,wc,ws,hL⟩:=hY.p
 have ok:=hY.ok
 have hlb:=hL.blk
 have hlo:=hL.own
 have hlw:=hL.pts
 have hlD:=hL.dk
 have hlC:=hL.ca
 have hlP:=hL.ps
 have hwl:=hL.len
 have hn0:=ok.n0
 have hpok:=hL.ps.ok
 have hplst:=hL.ps.ok.lst
 have hm0:=hY.m0
 have hwlen:=ok.wlen
 have hnb:=hL.dk.nb_
 refine F64_calls _  ?_
 unfold F64
 refine nz_i (ld_t hlb rfl (dPtr_i ?_))
 refine tcall (c_yblocks yp (U+30) V.P τ _ (by omega) hlP) ?_
 rintro g h ⟨e,f,rfl,d,b⟩
 have i:=d.size
 refine dSl_i ?_
 refine ret_t ?_
 exact ⟨_,_,rfl,((Ch.refl [] s).ch d (by simp)),b⟩
theorem c_yvmay (y U:Nat) (V:VolM) (m:Int) (b:Int) (s:TH) (hU:10<=U) (hY:YL s y U V m):TRet Tryz.prog 145 #[.pointer (some ⟨y,0,none⟩),.int .i64 b] s fun v s'=>v=.bool (!(V.P.of b).isEmpty)/\Ch [] s s':=by
 obtain ⟨xd,yc,yp,wa,wc,ws,hL⟩:=hY.p
 have ok:=hY.ok
 have hlb:=hL.blk
 have hlo:=hL.own
 have hlw:=hL.pts
 have hlD:=hL.dk
 have hlC:=hL.ca
 have hlP:=hL.ps
 have hwl:=hL.len
 have hn0:=ok.n0
 have hpok:=hL.ps.ok
 have hplst:=hL.ps.ok.lst
 have hm0:=hY.m0
 have hwlen:=ok.wlen
 have hnb:=hL.dk.nb_
 obtain ⟨M,hM,hM0,hMa,hMb,hMc,hMd,hMe,hMf⟩:=fresh6 s (U+50) 0 0 0 0 0
 refine F145_calls _ _  ?_
 unfold F145
 refine nz_i (ld_t hlb rfl (dPtr_i (ask_t (by omega) ?_)))
 refine al_t (M+1) fun r4 s5 k f a n=>?_
 refine ⟨?_,?_⟩
 ·have g:=hlb.ch a (by simp)
  refine ld_t g rfl (dPtr_i ?_)
  rfl
 have hz:Sl s5 (some ⟨r4,0,none⟩) (bvs (List.replicate 128 0)) (M+1):=by have h:=(f).sl;rw [rowZ_bvs] at h;exact h
 have i:=hlP.mv a (rngn (by simp))
 refine tcall (c_yplan yp (U+30) V.P (M+4) b (d:=List.replicate 128 0) _ _ (by omega) i hz (by simp) hY.nd) ?_
 rintro o q ⟨c,e⟩
 have j:=c.size
 rcases e with ⟨rfl,hne⟩|⟨pa2,pc2,pia,pic,rfl,hne,ho1,ho2⟩
 ·refine dT3 (dSl_i (dSl_i (dInt_i ?_)))
  refine ret_t ?_
  exact ⟨ret_b (by rw [hne];rfl),(((Ch.refl [] s).ch a (by simp)).ch c (by simp))⟩
 refine dT3 (dSl_i (dSl_i (dInt_i ?_)))
 refine ret_t ?_
 exact ⟨ret_b (by cases h:V.P.of b with|nil=>exact absurd h hne|cons x l=>rfl),(((Ch.refl [] s).ch a (by simp)).ch c (by simp))⟩
theorem c_yvready (y U:Nat) (V:VolM) (m:Int) (τ:Nat) (s:TH) (hU:10<=U) (hY:YL s y U V m):TRet Tryz.prog 68 #[.pointer (some ⟨y,0,none⟩)] s fun v s'=>∃a c,v=.slice a V.ready.length c/\Ch [] s s'/\Own s' a V.ready.length c 3 1 (ivs V.ready) τ:=by
 obtain ⟨xd,yc,yp,wa,wc,ws,hL⟩:=hY.p
 have ok:=hY.ok
 have hlb:=hL.blk
 have hlo:=hL.own
 have hlw:=hL.pts
 have hlD:=hL.dk
 have hlC:=hL.ca
 have hlP:=hL.ps
 have hwl:=hL.len
 have hn0:=ok.n0
 have hpok:=hL.ps.ok
 have hplst:=hL.ps.ok.lst
 have hm0:=hY.m0
 have hwlen:=ok.wlen
 have hnb:=hL.dk.nb_
 have hbl:=blocks_len hpok
 obtain ⟨M,hM,hM0,hMa,hMb,hMc,hMd,hMe,hMf⟩:=fresh6 s (U+50) τ 0 0 0 0
 refine F68_calls _  ?_
 unfold F68
 refine tcall (c_yvdirty y U V m (M+6) _ hU hY) ?_
 rintro ad j ⟨N,O,rfl,l,n⟩
 have ae:=l.size
 refine dSl_i ?_
 refine ⟨fun vs H'=>∃s':TH,s'.h=H'/\∃qa qn qc i,vs=[.slice qa qn qc,.int .i64 i]/\Ch [M+5,M+9] j s'/\(∃k:Nat,i=k/\k<=V.P.blocks.length/\qn=((V.P.blocks.take k).filter fun b=> !((V.P.free b).isEmpty||V.going b)).length/\Own s' qa qn qc 3 1 (ivs ((V.P.blocks.take k).filter fun b=> !((V.P.free b).isEmpty||V.going b))) (M+5)),fun vs H'=>match vs with|[.slice qa qn qc,.int .i64 i]=>((V.P.blocks.length:Int) - i).toNat|_=>0,⟨j,rfl,_,_,_,_,rfl,Ch.refl _ _,?_⟩,?_⟩
 ·exact ⟨0,rfl,by omega,rfl,Own.nil _ _ _ _⟩
 intro qa qn qc i
 iterate 18 intro _
 intro H_ hI_7
 obtain ⟨Q,rfl,qa_,qn_,qc_,i_,hvs,e,k,rfl,hk,rfl,ho⟩:=hI_7
 cases hvs
 have af:=e.size
 have hfl:((V.P.blocks.take k).filter fun b=> !((V.P.free b).isEmpty||V.going b)).length<=k:=Nat.le_trans (List.length_filter_le _ _) (by rw [List.length_take];omega)
 refine sB_d (fun w=>?_) (fun w=>?_)
 ·refine jn_u ?_
  have o:=n.mv e (tagn (by simp))
  obtain ⟨R,rfl⟩:=o.ne_none (by omega)
  refine nz_i (ask_t (by omega) ?_)
  refine ld_iv o.sl (by omega) (by omega) fun q g=>?_
  rw [Int.toNat_natCast] at g
  refine dInt_i ?_
  refine jn_u ?_
  have r:=hY.mv (l.app e) (rngn50 (by simp<;>omega))
  refine tcall (c_yvonway y U V m q _ hU r) ?_
  rintro S x ⟨rfl,d⟩
  have T:=d.size
  refine dBl_i ?_
  refine sB_n (fun z=>?_) (fun z=>?_)
  ·have A:=r.mv d (rngn50 (by simp))
   refine tcall (c_yvmay y U V m q _ hU A) ?_
   rintro W B ⟨rfl,f⟩
   have X:=f.size
   refine dBl_i ?_
   intro _
   intros
   refine dBl_i ?_
   refine sB_n (fun C=>?_) (fun C=>?_)
   ·refine al_t (M+9) fun ag ah Y D t Z=>?_
    have E:=((d.app f).app t)
    have F:=ho.mv E (tagn (by simp))
    refine app_i1 u33 in3 F D (by omega) fun G aa ab H u=>?_
    have ac:=u.size
    refine dSl_i ?_
    intro _
    intros
    refine dSl_i (wr_t (by omega) ?_)
    have I:=((((e.app d).app f).app t).app u)
    refine ⟨⟨G,rfl,_,_,_,_,rfl,((Ch.refl [M+5,M+9] j).ch I (by simp)),?_⟩,?_⟩
    ·have ht:=take_filtg (fun b=> !((V.P.free b).isEmpty||V.going b)) g
     rw [if_pos (by rw [free_nd hpok hY.nd];simp_all)] at ht
     have ho:=H
     exact ⟨k+1,by omega,by omega,by rw [ht,List.length_append];rfl,by rw [ht];exact ho⟩
    simp only [];omega
   intro _
   intros
   refine dSl_i (wr_t (by omega) ?_)
   have J:=((e.app d).app f)
   refine ⟨⟨B,rfl,_,_,_,_,rfl,((Ch.refl [M+5,M+9] j).ch J (by simp)),?_⟩,?_⟩
   ·have K:=ho.mv (d.app f) (tagn (by simp))
    have ht:=take_filtg (fun b=> !((V.P.free b).isEmpty||V.going b)) g
    rw [if_neg (by rw [free_nd hpok hY.nd];simp_all)] at ht
    have ho:=K
    exact ⟨k+1,by omega,by omega,by rw [ht],by rw [ht];exact ho⟩
   simp only [];omega
  intro _
  intros
  refine dBl_i (sB_f (by rfl) ?_)
  intro _
  intros
  refine dSl_i (wr_t (by omega) ?_)
  refine ⟨⟨x,rfl,_,_,_,_,rfl,(((Ch.refl [M+5,M+9] j).ch e (by simp)).ch d (by simp)),?_⟩,?_⟩
  ·have L:=ho.mv d (tagn (by simp))
   have ht:=take_filtg (fun b=> !((V.P.free b).isEmpty||V.going b)) g
   rw [if_neg (by rw [free_nd hpok hY.nd];simp_all)] at ht
   have ho:=L
   exact ⟨k+1,by omega,by omega,by rw [ht],by rw [ht];exact ho⟩
  simp only [];omega
 obtain rfl:k=V.P.blocks.length:=by omega
 have ho:=ho
 rw [List.take_length] at ho ⊢
 exact ret_t' (s':=remark Q (M+5) τ) rfl ⟨_,_,rfl,remark_ch (((Ch.refl [] s).ch l (by simp)).fr e hM (by simp)) hM (by omega),ho.remark⟩
theorem c_yvchange (y U:Nat) (V:VolM) (m:Int) (b o:Int) {xa:Option Addr} {xn:Nat} (xc:Nat) {z:List UInt8} {τx:Nat} (s:TH) (hU:10<=U) (hY:YL s y U V m) (hx:Sl s xa (bvs z) τx) (hxn:z.length=xn) (hl:V.P.last<1000000) (hxb:xn<=140737488351232) (hold:V.old.on=false):TRet Tryz.prog 42 #[.pointer (some ⟨y,0,none⟩),.int .i64 b,.int .i64 o,.slice xa xn xc,.slice none 0 0] s fun v s'=>v=.tuple #[.int .i64 (V.change b o z []).2.1,.int .i64 (V.change b o z []).2.2]/\Ch [U+30,U+31] s s'/\YL s' y U (V.change b o z []).1 m:=by
 obtain ⟨xd,yc,yp,wa,wc,ws,hL⟩:=hY.p
 have ok:=hY.ok
 have hlb:=hL.blk
 have hlo:=hL.own
 have hlw:=hL.pts
 have hlD:=hL.dk
 have hlC:=hL.ca
 have hlP:=hL.ps
 have hwl:=hL.len
 have hn0:=ok.n0
 have hpok:=hL.ps.ok
 have hplst:=hL.ps.ok.lst
 have hm0:=hY.m0
 have hwlen:=ok.wlen
 have hnb:=hL.dk.nb_
 obtain ⟨M,hM,hM0,hMa,hMb,hMc,hMd,hMe,hMf⟩:=fresh6 s (U+50) τx 0 0 0 0
 refine F42_calls _ _ _ _ _ _ _ _ _  ?_
 unfold F42
 refine tcall (c_yvhas y U V m b _ hU hY) ?_
 rintro F G ⟨rfl,c⟩
 have H:=c.size
 refine dBl_i ?_
 refine sB_nd (fun d=>?_) (fun d=>?_)
 ·refine ret_t ?_
  have x:=hY.mv c (rngn50 (by simp))
  rw [show V.change b o z []=(V,0,90) from by unfold VolM.change;rw [if_pos (by simpa using d)]]
  exact ⟨rfl,((Ch.refl [U+30,U+31] s).ch c (by simp)),x⟩
 refine jn_u ?_
 refine nz_i ?_
 have f:=hlb.ch c (by simp)
 refine ld_t f rfl (dBl_i (sB_f (by rfl) ?_))
 intro _
 intros
 refine dBl_i ?_
 refine jn_u ?_
 refine sB_f (by rfl) ?_
 intro _
 intros
 refine dSl_i (nz_i (ld_t f rfl (dPtr_i ?_)))
 have A:=hlP.mv c (rngn (by simp))
 have B:=hx.mv c (tagn (by simp))
 refine tcall (c_yadd yp (U+30) V.P b o xc _ (by omega) A B hxn hl hxb) ?_
 rintro C D ⟨rfl,a,e⟩
 have E:=a.size
 refine dT2 (dInt_i (dInt_i ?_))
 refine sB_nd (fun g=>?_) (fun g=>?_)
 ·refine ret_t ?_
  have h:=f.ch a (by simp<;>omega)
  have i:=hlo.mv (c.app a) (tagn (by simp))
  have j:=hlw.mv (c.app a) (tagn (by simp))
  have k:=hlD.mv (c.app a) (rngn (by simp))
  have l:=hlC.mv (c.app a) (rngn (by simp))
  have hfst:V.first b=false:=by unfold VolM.first;rw [hold];rfl
  have htk:V.ticks b=V.n:=by unfold VolM.ticks;rw [hfst];rfl
  have hkp:V.keep b=V.old:=by unfold VolM.keep;rw [hfst];rfl
  have he:=add_err (P:=V.P) (b:=b) (o:=o) (y:=z) (needs:=[]) (by first|assumption|simp_all)
  have hlP9:=e
  rw [he] at hlP9
  rw [show V.change b o z []=({ V with n:=V.ticks b },0,(V.P.add b o z []).2.2) from by unfold VolM.change;rw [if_neg (by simpa using d),if_pos (by first|assumption|simp_all)],htk]
  exact ⟨rfl,(((Ch.refl [U+30,U+31] s).ch c (by simp)).fr a hM (by simp<;>omega)),⟨⟨xd,yc,yp,wa,wc,ws,⟨h,i,j,hL.eq,k,l,hlP9⟩⟩,ok,hY.nd,hm0⟩⟩
 refine jn_u ?_
 refine jn_u ?_
 refine sB_f (by rfl) ?_
 intro _
 intros
 refine dBl_i (sB_f (by rfl) (sB_f (by rfl) ?_))
 intro _
 intros
 refine ret_t ?_
 have q:=f.ch a (by simp<;>omega)
 have r:=hlo.mv (c.app a) (tagn (by simp))
 have t:=hlw.mv (c.app a) (tagn (by simp))
 have u:=hlD.mv (c.app a) (rngn (by simp))
 have w:=hlC.mv (c.app a) (rngn (by simp))
 have hfst:V.first b=false:=by unfold VolM.first;rw [hold];rfl
 have htk:V.ticks b=V.n:=by unfold VolM.ticks;rw [hfst];rfl
 have hkp:V.keep b=V.old:=by unfold VolM.keep;rw [hfst];rfl
 rw [show V.change b o z []=({ V with n:=V.ticks b,P:=(V.P.add b o z []).1,old:=V.keep b },(V.P.add b o z []).2.1,0) from by unfold VolM.change;rw [if_neg (by simpa using d),if_neg (by first|assumption|simp_all)],htk,hkp]
 exact ⟨rfl,(((Ch.refl [U+30,U+31] s).ch c (by simp)).fr a hM (by simp<;>omega)),⟨⟨xd,yc,yp,wa,wc,ws,⟨q,r,t,hL.eq,u,w,e⟩⟩,ok.with _ _ ⟨Int.le_refl _,hn0.2⟩,hY.nd.add hpok b o z,hm0⟩⟩
theorem c_yvwrite (y U:Nat) (V:VolM) (m:Int) (b:Int) (s:TH) (hU:10<=U) (hY:YL s y U V m) (hvn:V.n<1000000000000000000) (hmn:m<1000000000000000000):TRet Tryz.prog 104 #[.pointer (some ⟨y,0,none⟩),.int .i64 b] s fun v s'=>v=.int .i64 (V.write b).2/\Ch [U,U+1,U+10,U+11,U+12,U+13,U+14,U+20,U+21] s s'/\YL s' y U (V.write b).1 (m+1):=by
 obtain ⟨xd,yc,yp,wa,wc,ws,hL⟩:=hY.p
 have ok:=hY.ok
 have hlb:=hL.blk
 have hlo:=hL.own
 have hlw:=hL.pts
 have hlD:=hL.dk
 have hlC:=hL.ca
 have hlP:=hL.ps
 have hwl:=hL.len
 have hn0:=ok.n0
 have hpok:=hL.ps.ok
 have hplst:=hL.ps.ok.lst
 have hm0:=hY.m0
 have hwlen:=ok.wlen
 have hnb:=hL.dk.nb_
 obtain ⟨M,hM,hM0,hMa,hMb,hMc,hMd,hMe,hMf⟩:=fresh6 s (U+50) 0 0 0 0 0
 refine F104_calls _ _  ?_
 unfold F104
 refine tcall (c_yvhas y U V m b _ hU hY) ?_
 rintro aV aW ⟨rfl,o⟩
 have aX:=o.size
 refine dBl_i ?_
 refine sB_nd (fun g=>?_) (fun g=>?_)
 ·refine ret_t ?_
  have aA:=hY.mv o (rngn50 (by simp))
  rw [show V.write b=(V,90) from by unfold VolM.write;rw [if_pos (by simpa using g)]]
  exact ⟨rfl,((Ch.refl [U,U+1,U+10,U+11,U+12,U+13,U+14,U+20,U+21] s).ch o (by simp)),(aA).up (by omega) (by omega)⟩
 have G:=hY.mv o (rngn50 (by simp))
 refine tcall (c_yvonway y U V m b _ hU G) ?_
 rintro aY aZ ⟨rfl,j⟩
 have aD:=j.size
 refine dBl_i ?_
 refine sB_i (fun x=>?_) (fun x=>?_)
 ·refine ret_t ?_
  have ad:=G.mv j (rngn50 (by simp))
  rw [show V.write b=(V,3) from by unfold VolM.write;rw [if_neg (by simpa using g),if_pos x]]
  exact ⟨rfl,(((Ch.refl [U,U+1,U+10,U+11,U+12,U+13,U+14,U+20,U+21] s).ch o (by simp)).ch j (by simp)),(ad).up (by omega) (by omega)⟩
 have H:=G.mv j (rngn50 (by simp))
 refine tcall (c_yvmay y U V m b _ hU H) ?_
 rintro aE aF ⟨rfl,z⟩
 have aG:=z.size
 refine dBl_i ?_
 refine sB_n (fun A=>?_) (fun A=>?_)
 ·refine ret_t ?_
  have ae:=((o.app j).app z)
  have af:=H.mv z (rngn50 (by simp))
  have hfe:V.P.free b=[]:=by rw [free_nd hpok hY.nd];simpa using A
  rw [show V.write b=(V,71) from by unfold VolM.write;rw [if_neg (by simpa using g),if_neg (by simp_all),if_pos hfe]]
  exact ⟨rfl,((Ch.refl [U,U+1,U+10,U+11,U+12,U+13,U+14,U+20,U+21] s).ch ae (by simp)),(af).up (by omega) (by omega)⟩
 refine nz_i ?_
 have e:=((o.app j).app z)
 have I:=hlb.ch e (by simp)
 refine ld_t I rfl (dPtr_i ?_)
 have hh:V.D.has b:=by simpa using g
 have ag:=hlC.mv e (rngn (by simp))
 obtain ⟨la,lc,es,hi,mi,hK⟩:=(ag).p
 have J:=hlD.mv e (rngn (by simp))
 refine tcall (c_ycGet yc (U+20) xd V.D.blocks m hi mi la lc es V.D (U+10) b (M+12) _ (by omega) hK (by omega) J hh (blk_get hh) (ok.nof b) (by omega) rfl (by omega) (blk_len ok hh)) ?_
 rintro aH aI ⟨aB,az,rfl,f,B,K⟩
 have aJ:=f.size
 refine dT2 (dSl_i (dInt_i (sB_f (by rfl) (nz_i ?_))))
 have L:=I.ch f (by simp<;>omega)
 refine ld_t L rfl (dPtr_i ?_)
 have E:=hlP.mv (e.app f) (rngn (by simp))
 refine tcall (c_yplan yp (U+30) V.P (M+10) b (d:=V.blk b) _ _ (by omega) E (K).sl (blk_len ok hh) hY.nd) ?_
 rintro aK aL ⟨c,N⟩
 have aM:=c.size
 rcases N with ⟨rfl,hne⟩|⟨pa2,pc2,pia,pic,rfl,hne,ho1,ho2⟩
 ·(exfalso;rw [hne] at A;simp at A)
 have hpe:V.P.over (V.blk b) (V.P.of b)=V.plan b:=by unfold VolM.plan;rw [free_nd hpok hY.nd]
 rw [hpe] at ho1
 have hpl:=plan_len ok hpok hh
 refine dT3 (dSl_i (dSl_i (dInt_i (sB_f (by rfl) (nz_i ?_)))))
 have F:=L.ch c (by simp)
 refine ld_t F rfl (dPtr_i ?_)
 have ah:=J.mv (f.app c) (rngn (by simp))
 refine tcall (c_rwrite xd (U+10) V.D b 128 _ _ (by omega) ah (ho1).sl hpl (by omega) (by omega) ⟨ok.lst.1,by have:=ok.lst;omega⟩) ?_
 rintro aN aO ⟨rfl,a,C⟩
 have aP:=a.size
 refine dT2 (dInt_i (dInt_i ?_))
 refine sB_nd (fun q=>?_) (fun q=>?_)
 ·refine ret_t ?_
  have ai:=F.ch a (by simp<;>omega)
  have O:=(((e.app f).app c).app a)
  have aj:=hlo.mv O (tagn (by simp))
  have ak:=hlw.mv O (tagn (by simp))
  have al:=B.mv (c.app a) (rngn (by simp))
  have am:=E.mv (c.app a) (rngn (by simp))
  have hgi:=going_ixf ok (b:=b) (by simpa using x)
  have hwq:=wlen_q ok
  have hfe: ¬V.P.free b=[]:=by rw [free_nd hpok hY.nd];exact hne
  by_cases hq:64<=V.D.queue.length
  ·have hw4:=write_3 hh hpl hgi hq
   have hD9:=C
   rw [hw4] at hD9 ⊢
   rw [show V.write b=(V.tick,3) from by unfold VolM.write;rw [if_neg (by simpa using g),if_neg (by simp_all),if_neg hfe,if_pos (by omega)]]
   exact ⟨rfl,(((((Ch.refl [U,U+1,U+10,U+11,U+12,U+13,U+14,U+20,U+21] s).ch e (by simp)).fr f hM (by simp<;>omega)).ch c (by simp)).fr a hM (by simp<;>omega)),⟨⟨xd,yc,yp,wa,wc,ws,⟨ai,aj,ak,hL.eq,hD9,al,am⟩⟩,ok.tick hvn,hY.nd,by omega⟩⟩
  exfalso;rw [write_4 hh hpl hgi hq] at q;simp at q
 refine nz_i ?_
 have Q:=F.ch a (by simp<;>omega)
 refine ld_t Q rfl (dSl_i ?_)
 refine al_t (M+1) fun a0 a1 aQ an t aR=>?_
 have R:=((((e.app f).app c).app a).app t)
 have S:=hlo.mv R (tagn (by simp))
 refine app_i u140 in202 rfl S (an).sl (m:=1) (k:=4) rfl (by intro u hu;simp at hu;rcases hu with rfl|rfl|rfl|rfl<;>rfl) (by simp) (by unfold maxLen;omega) fun aS wa2 wc2 aa ab _=>?_
 have l:=ab.ch S (T:=[U+1]) (by simp)
 have aT:=l.size
 refine dSl_i (nz_i ?_)
 have W:=Q.ch (t.app l) (by simp)
 refine st_t (r:=y) (i:=3) W rfl (by simp) fun aC ao ac aU=>?_
 have w:=on_ch W ac
 have X:=((t.app l).app w)
 have ap:=C.mv X (rngn (by simp))
 have aq:=aa.mv w (tagn (by simp))
 have ar:=((R.app l).app w)
 have au:=hlw.mv ar (tagn (by simp))
 have Y:=((((c.app a).app t).app l).app w)
 have av:=B.mv Y (rngn (by simp))
 have aw:=E.mv Y (rngn (by simp))
 have Z:=(((a.app t).app l).app w)
 have ax:=ho1.mv Z (tagn (by simp<;>omega))
 have ay:=ho2.mv Z (tagn (by simp<;>omega))
 have hgi:=going_ixf ok (b:=b) (by simpa using x)
 have hwq:=wlen_q ok
 have hfo:=free_nd hpok hY.nd b
 have hfe: ¬V.P.free b=[]:=by rw [hfo];exact hne
 have hq: ¬ 64<=V.D.queue.length:=fun hq=>by rw [write_3 hh hpl hgi hq] at q;simp at q
 have hw4:=write_4 hh hpl hgi hq
 have hD9:=ap
 have hlo9:=aq
 have hlb9:=ao
 have hlw9:=au
 have hlC9:=av
 have hlP9:=aw
 have ho19:=ax
 have ho29:=ay
 rw [hw4] at hD9 hlo9
 rw [←hfo] at ho29 hlo9
 rw [show V.write b=(V.sent b,0) from by unfold VolM.write;rw [if_neg (by simpa using g),if_neg (by simp_all),if_neg hfe,if_neg (by omega)]]
 refine ret_t' (s':=remark aC (M+10) (U+2)) rfl ⟨rfl,remark_ch ((((((Ch.refl [U,U+1,U+10,U+11,U+12,U+13,U+14,U+20,U+21] s).ch e (by simp)).fr f hM (by simp<;>omega)).ch c (by simp)).fr a hM (by simp<;>omega)).ch X (by simp)) hM (by omega),⟨⟨xd,yc,yp,wa2,wc2,ws++[((V.D.last+1,⟨b,V.plan b,V.P.free b⟩),(pa2,pc2),(pia,pic))],⟨?_,?_,?_,?_,hD9.keep (by omega),hlC9.keep (by omega),hlP9.keep (by omega)⟩⟩,ok.sent hpok hh (by omega) hvn,hY.nd,by omega⟩⟩
 ·have h:=hlb9.keep (μ:=M+10) (τ:=U+2) (by omega);show Blk _ _ [_,_,_,.slice wa2 (V.way++[_]).length wc2,_,_,_,_] _ _;rw [List.length_append];exact h
 ·have h:=hlo9.keep (μ:=M+10) (τ:=U+2) (by omega);show Own _ _ (V.way++[_]).length _ _ _ _ _;rw [List.length_append,List.flatMap_append];exact h
 ·exact (hlw9.keep (by omega)).snoc ho19.remark.sl ho29.remark.sl hpl
 rw [List.map_append,hL.eq];rfl
theorem c_yvcomplete (y U:Nat) (V:VolM) (m:Int) (k:Nat) (s:TH) (hU:10<=U) (hY:YL s y U V m):TRet Tryz.prog 106 #[.pointer (some ⟨y,0,none⟩),.int .i64 (k:Int),.bool true] s fun v s'=>v=.int .i64 (V.compl (k:Int) true).2/\Ch [U,U+1,U+10,U+11,U+12,U+13,U+14,U+20,U+21,U+30,U+31] s s'/\YL s' y U (V.compl (k:Int) true).1 m:=by
 obtain ⟨xd,yc,yp,wa,wc,ws,hL⟩:=hY.p
 have ok:=hY.ok
 have hlb:=hL.blk
 have hlo:=hL.own
 have hlw:=hL.pts
 have hlD:=hL.dk
 have hlC:=hL.ca
 have hlP:=hL.ps
 have hwl:=hL.len
 have hn0:=ok.n0
 have hpok:=hL.ps.ok
 have hplst:=hL.ps.ok.lst
 have hm0:=hY.m0
 have hwlen:=ok.wlen
 have hnb:=hL.dk.nb_
 obtain ⟨pa,pc,qa,qc,hs,qs,fa,fc,fl,hD⟩:=id hL.dk
 have hdb:=hD.blk
 obtain ⟨M,hM,hM0,hMa,hMb,hMc,hMd,hMe,hMf⟩:=fresh6 s (U+50) 0 0 0 0 0
 refine F106_calls _ _ _  ?_
 unfold F106
 refine jn_u ?_
 refine sB_d (fun ag=>by exfalso;omega) (fun ag=>?_)
 refine nz_i (ld_t hlb rfl (dSl_i ?_))
 intro _
 intros
 refine dBl_i ?_
 refine sB_d (fun ah=>?_) (fun ah=>?_)
 ·refine ret_t ?_
  rw [show V.compl (k:Int) true=(V,1) from by unfold VolM.compl;rw [if_pos (by omega)]]
  exact ⟨rfl,(Ch.refl [U,U+1,U+10,U+11,U+12,U+13,U+14,U+20,U+21,U+30,U+31] s),hY⟩
 refine nz_i (ld_t hlb rfl (dSl_i ?_))
 obtain ⟨e,he⟩: ∃e,ws[k]? =some e:=⟨ws[k]'(by omega),by simp⟩
 have hxl:=hL.at_ he
 obtain ⟨aq,hla⟩: ∃a,wa=some a:=hlo.sl.some (fun e2=>by have:=wcell0 he;rw [e2] at this;simp at this)
 subst hla
 have hql:=hlo.le
 have haq:=hlo.blt
 have hem:=List.mem_of_getElem? he
 have hpq:=way_q ok hxl
 have hpx:=way_ixf ok hxl
 have hcp:=compl_3 hpx hpq
 have hqin:=hD.qin _ (List.mem_of_getElem? hpq)
 have hwid:=ok.wids e.1 (List.mem_of_getElem? hxl)
 have hlw8:=(hlw.at_ e hem).2.2
 refine nz_i (ask_t (by omega) ?_)
 refine ld_sl hlo.sl (by rw [Int.toNat_natCast];exact wcell0 he) ?_
 refine ld_sl2 hlo.sl (by rw [Int.toNat_natCast];exact wcell1 he) ?_
 refine ld_sl2 hlo.sl (by rw [Int.toNat_natCast];exact wcell2 he) ?_
 refine ld_sl2 hlo.sl (by rw [Int.toNat_natCast];exact wcell3 he) ?_
 refine al_t (M+1) fun aZ a0 aH aa ab a2=>?_
 refine st_t aa rfl (by simp) fun a3 ac ai a4=>?_
 have ad:=on_ch aa ai
 refine st_t ac rfl (by simp) fun a5 ae aj a6=>?_
 have af:=on_ch ac aj
 refine st_t ae rfl (by simp) fun a7 E W aI=>?_
 have F:=on_ch ae W
 refine st_t E rfl (by simp) fun a8 ak X aJ=>?_
 have G:=on_ch E X
 refine nz_i ?_
 have w:=((((ab.app ad).app af).app F).app G)
 have j:=hlb.ch w (by simp<;>omega)
 refine ld_t j rfl (dSl_i (ask_t (by omega) (nz_i (ld_t j rfl (dSl_i (wr_t (by omega) (ask_t (by omega) ?_)))))))
 refine al_t (M+2) fun aF aG aK al f aL=>?_
 have hO0:Own aG (some ⟨aF,0,none⟩) 0 0 202 4 [] (M+2):=(al).own0 4
 refine ⟨?_,?_⟩
 ·have am:=j.ch f (by simp)
  refine ld_t am rfl (dSl_i ?_)
  rfl
 refine ⟨?_,?_⟩
 ·have an:=j.ch f (by simp)
  refine ld_t an rfl (dSl_i ?_)
  rfl
 have z:=hlo.mv (w.app f) (tagn (by simp<;>omega))
 have hcut:=(z).cut (m:=k+1) (by omega)
 simp only [Int.toNat_natCast,Int.toNat_zero,Nat.sub_zero,slO_zero]
 refine app_i u140 in202 rfl hO0 ((z).pre (m:=k) (by omega)).sl ((z).pre (m:=k) (by omega)).len (fun u hu=>one_ywc ws 0 u (by rw [List.drop_zero];exact List.mem_of_mem_take hu)) (fun h=>by cases h) (by unfold maxLen;omega) fun aM a1 c1 A C hnil=>?_
 have l:=C.ch hO0 (T:=[M+2]) (by simp)
 have aN:=l.size
 have hcut2:=sl_keep hcut C (fun b hb=>by rw [slO_block hb];simp only [Option.map_some,Option.some.injEq];omega)
 rw [Nat.zero_add,List.nil_append] at A
 simp only [Nat.zero_add]
 refine dSl_i ?_
 refine ⟨?_,?_⟩
 ·have ao:=j.ch (f.app l) (by simp<;>omega)
  refine ld_t ao rfl (dSl_i ?_)
  rfl
 rw [show ((k:Int)+1)=((k+1:Nat):Int) from by omega]
 simp only [Int.toNat_natCast]
 refine app_i u140 in202 rfl A hcut2 (m:=V.way.length - (k+1)) (k:=4) (by rw [List.length_drop,hlo.len, ←Nat.sub_mul]) (one_ywc ws _) (by intro h;rcases Nat.lt_or_ge (k+1) V.way.length with h2|h2<;>first|(exfalso;cases hs':slO (some aq) 4 ((k+1:Nat):Int) (wc:Int)<;>simp_all [slO])|omega) (by unfold maxLen;omega) fun aO wa2 wc2 ap Y _=>?_
 have n:=Y.ch A (T:=[M+2]) (by simp)
 have aP:=n.size
 refine dSl_i (nz_i ?_)
 have H:=((f.app l).app n)
 have I:=j.ch H (by simp<;>omega)
 refine st_t (r:=y) (i:=3) I rfl (by simp) fun a9 J Z aQ=>?_
 have o:=on_ch I Z
 refine nz_i (ld_t J rfl (dPtr_i ?_))
 have K:=ak.ch (H.app o) (by simp<;>omega)
 refine ld_t K rfl (dInt_i ?_)
 have q:=((((w.app f).app l).app n).app o)
 have ar:=hlD.mv q (rngn (by simp<;>omega))
 refine tcall (c_rcomplete xd (U+10) V.D e.1.1 true _ (by omega) ar) ?_
 rintro aR aS ⟨rfl,c,t⟩
 have aT:=c.size
 refine dInt_i ?_
 refine sB_f (by simp only [*];rfl) ?_
 refine nz_i ?_
 have L:=J.ch c (by simp<;>omega)
 refine ld_t L rfl (dPtr_i ?_)
 have B:=K.ch c (by simp<;>omega)
 refine ld_t B rfl (dInt_i (ld_t B rfl (dSl_i ?_)))
 have au:=hlC.mv (q.app c) (rngn (by simp<;>omega))
 obtain ⟨la,lc,es,hi,mi,hK⟩:=(au).p
 have N:=hlw.mv (q.app c) (tagn (by simp<;>omega))
 refine tcall (c_ycPut yc (U+20) xd V.D.blocks m hi mi la lc es (V.D.complete e.1.1 true).1 (U+10) e.1.2.blk e.2.1.2 _ (by omega) hK (by omega) t (by rw [hcp];show 0<=_/\_<((List.length (List.set _ _ _):Nat):Int);rw [List.length_set];exact hqin) (by rw [hcp,List.length_set]) (by omega) ((N).at_ e hem).1 hlw8) ?_
 rintro aU aV ⟨rfl,d,O⟩
 have aW:=d.size
 refine dInt_i (nz_i ?_)
 have Q:=L.ch d (by simp<;>omega)
 refine ld_t Q rfl (dPtr_i ?_)
 have av:=B.ch d (by simp<;>omega)
 refine ld_t av rfl (dSl_i ?_)
 have aw:=((q.app c).app d)
 have ax:=hlP.mv aw (rngn (by simp<;>omega))
 have R:=N.mv d (tagn (by simp))
 refine tcall (c_ydone yp (U+30) V.P e.2.2.2 _ (by omega) ax ((R).at_ e hem).2.1 rfl (by omega)) ?_
 rintro aX ay ⟨rfl,g,S⟩
 have aY:=g.size
 refine dInt_i ?_
 have az:=Q.ch g (by simp<;>omega)
 have aA:=(((o.app c).app d).app g)
 have aB:=ap.mv aA (tagn (by simp<;>omega))
 have aC:=R.mv g (tagn (by simp))
 have aD:=t.mv (d.app g) (rngn (by simp))
 have aE:=O.mv g (rngn (by simp))
 have hlb9:=az
 have ho9:=aB
 have hlw9:=aC
 have hD9:=aD
 have hC9:=aE
 have hP9:=S
 rw [hcp] at hD9
 rw [fm_erase ywc_len] at ho9
 have hle:(V.way.eraseIdx k).length=k+(V.way.length - (k+1)):=by rw [List.length_eraseIdx,if_pos (by omega)];omega
 have hcm:V.compl (k:Int) true=(V.landed k e.1.2,(V.P.doneP e.1.2.ids).2):=by unfold VolM.compl;rw [if_neg (by omega),Int.toNat_natCast,hxl];rfl
 rw [hcm]
 refine ret_t' (s':=remark ay (M+2) (U+1)) rfl ⟨rfl,remark_ch (((((((((((((Ch.refl [U,U+1,U+10,U+11,U+12,U+13,U+14,U+20,U+21,U+30,U+31] s).ch ab (by simp)).fr ad hM (by simp)).fr af hM (by simp)).fr F hM (by simp)).fr G hM (by simp)).ch f (by simp)).fr l hM (by simp)).fr n hM (by simp)).ch o (by simp)).fr c hM (by simp<;>omega)).fr d hM (by simp<;>omega)).fr g hM (by simp<;>omega)) hM (by omega),⟨⟨xd,yc,yp,wa2,wc2,ws.eraseIdx k,⟨?_,?_,?_,?_,hD9.keep (by omega),hC9.keep (by omega),hP9.keep (by omega)⟩⟩,ok.landed k hlw8,hY.nd.done _,hm0⟩⟩
 ·have h:=hlb9.keep (μ:=M+2) (τ:=U+1) (by omega);show Blk _ _ [_,_,_,.slice wa2 (V.way.eraseIdx k).length wc2,_,_,_,_] _ _;rw [hle];exact h
 ·have h:=ho9.remark (τ:=U+1);show Own _ _ (V.way.eraseIdx k).length _ _ _ _ _;rw [hle];exact h
 ·exact (hlw9.keep (by omega)).sub (fun x hx=>List.mem_of_mem_eraseIdx hx)
 rw [←erase_map,hL.eq];rfl
end Go.Proofs.YtkaikaodhegmhaaGreat.E
