/- My own texts, joined. -/
import Derived.KernelRfl
import Derived.Test.YtkaikaodhegmhaaGreatProg
import Derived.Test.YtkaikaodhegmhaaGreatSS7
namespace Go.Proofs.YtkaikaodhegmhaaGreat.E
open Go Go.Proofs Go.RowKit Go.Maps Go.Shelf Go.Sort
set_option linter.unusedVariables false
set_option linter.unusedSimpArgs false
structure PatM where
 id:Int
 blk:Int
 off:Int
 by_:List UInt8
 needs:List Int
structure PatchM where
 last:Int
 done:List Int
 l:List PatM
def PatV (s:TH) (τ:Nat) (v:Value) (p:PatM):Prop:=∃ba bc na nc,v=.agg #[.int .i64 p.id,.int .i64 p.blk,.int .i64 p.off,.slice ba p.by_.length bc,.slice na p.needs.length nc]/\Sl s ba (bvs p.by_) τ/\Sl s na (ivs p.needs) τ
theorem PatV.mv {s s':TH} {τ:Nat} {v:Value} {p:PatM} {B:Nat->Prop} (h:PatV s τ v p) (c:Chg B s s') (hn: ∀j,j<s.h.size->s.g j=τ->¬B j):PatV s' τ v p:=by
 obtain ⟨ba,bc,na,nc,h1,h2,h3⟩:=h
 exact ⟨ba,bc,na,nc,h1,h2.mv c hn,h3.mv c hn⟩
def PMap (s:TH) (τ:Nat):List (Int×Value)->List PatM->Prop
 |[],[]=>True
 |e::m,p::l=>e.1=p.id/\PatV s τ e.2 p/\PMap s τ m l
 |_,_=>False
theorem PMap.mv {s s':TH} {τ:Nat} {B:Nat->Prop}: ∀ {m:List (Int×Value)} {l:List PatM},PMap s τ m l->Chg B s s'->(∀j,j<s.h.size->s.g j=τ->¬B j)->PMap s' τ m l
 |[],[],h,c,hn=>trivial
 |e::m,p::l,h,c,hn=>⟨h.1,h.2.1.mv c hn,PMap.mv h.2.2 c hn⟩
 |[],_::_,h,_,_=>h.elim
 |_::_,[],h,_,_=>h.elim
theorem PMap.keys {s:TH} {τ:Nat}: ∀ {m:List (Int×Value)} {l:List PatM},PMap s τ m l->m.map (·.1)=l.map (·.id)
 |[],[],_=>rfl
 |e::m,p::l,h=>by rw [List.map_cons,List.map_cons,h.1,PMap.keys h.2.2]
 |[],_::_,h=>h.elim
 |_::_,[],h=>h.elim
def PatchM.find (P:PatchM) (i:Int):Option PatM:=P.l.find? fun p=>p.id==i
def PatchM.all (P:PatchM):List Int:=P.l.map (·.id)
def PatchM.pend (P:PatchM) (ids:List Int):List Int:=P.all.filter fun i=>decide (i∈ids)
def PatchM.of (P:PatchM) (b:Int):List Int:=(P.l.filter fun p=>p.blk==b).map (·.id)
theorem PMap.some_ {s:TH} {τ:Nat}: ∀ {m:List (Int×Value)} {l:List PatM} {i:Int} {p:PatM},PMap s τ m l->(l.find? fun p=>p.id==i)=some p->∃v,mget i m=some v/\PatV s τ v p/\p.id=i/\(i,v)∈m
 |[],[],i,p,h,hf=>by simp at hf
 |e::m,q::l,i,p,h,hf=>by
  obtain ⟨k,v⟩:=e
  rw [List.find?_cons] at hf
  have hk:k=q.id:=h.1
  by_cases hq:q.id=i
  ·rw [show (q.id==i)=true by simpa using hq] at hf
   simp at hf;subst hf
   exact ⟨v,by rw [mget,if_pos (by rw [hk,hq])],h.2.1,hq,by rw [←hq, ←hk];simp⟩
  rw [show (q.id==i)=false by simpa using hq] at hf
  obtain ⟨v',h1,h2,h3,h4⟩:=PMap.some_ h.2.2 hf
  exact ⟨v',by rw [mget,if_neg (by rw [hk];exact fun e=>hq e.symm)];exact h1,h2,h3,List.mem_cons_of_mem _ h4⟩
 |[],_::_,_,_,h,_=>h.elim
 |_::_,[],_,_,h,_=>h.elim
theorem PMap.none_ {s:TH} {τ:Nat} {m:List (Int×Value)} {l:List PatM} {i:Int} (h:PMap s τ m l) (hf:(l.find? fun p=>p.id==i)=none):mget i m=none:=mget_none (by
 rw [h.keys];intro hm
 obtain ⟨p,hp,e⟩:=List.mem_map.1 hm
 have:=List.find?_eq_none.1 hf p hp
 simp [e] at this)
theorem PMap.mem_ {s:TH} {τ:Nat}: ∀ {m:List (Int×Value)} {l:List PatM} {k:Int} {v:Value},PMap s τ m l->(k,v)∈m->∃p∈l,p.id=k/\PatV s τ v p
 |[],[],k,v,h,hm=>by cases hm
 |e::m,q::l,k,v,h,hm=>by
  rcases List.mem_cons.1 hm with rfl|hm
  ·exact ⟨q,by simp,h.1.symm,h.2.1⟩
  obtain ⟨p,h1,h2⟩:=PMap.mem_ h.2.2 hm
  exact ⟨p,List.mem_cons_of_mem _ h1,h2⟩
 |[],_::_,_,_,h,_=>h.elim
 |_::_,[],_,_,h,_=>h.elim
theorem PMap.snoc {s:TH} {τ:Nat} {v:Value} {p:PatM} (hv:PatV s τ v p): ∀ {m:List (Int×Value)} {l:List PatM},PMap s τ m l->p.id∉l.map (·.id)->PMap s τ (mset p.id v m) (l++[p])
 |[],[],h,_=>⟨rfl,hv,trivial⟩
 |e::m,q::l,h,hn=>by
  obtain ⟨k,x⟩:=e
  have hk:k=q.id:=h.1
  rw [List.map_cons,List.mem_cons,not_or] at hn
  show PMap s τ (if p.id=k then (p.id,v)::m else (k,x)::mset p.id v m) (q::(l++[p]))
  rw [if_neg (by rw [hk];exact hn.1)]
  exact ⟨h.1,h.2.1,PMap.snoc hv h.2.2 hn.2⟩
 |[],_::_,h,_=>h.elim
 |_::_,[],h,_=>h.elim
theorem PMap.del {s:TH} {τ:Nat} {i:Int}: ∀ {m:List (Int×Value)} {l:List PatM},PMap s τ m l->(l.map (·.id)).Nodup->PMap s τ (mdel i m) (l.filter fun p=> !(p.id==i))
 |[],[],h,_=>trivial
 |e::m,q::l,h,hn=>by
  obtain ⟨k,x⟩:=e
  have hk:k=q.id:=h.1
  rw [List.map_cons,List.nodup_cons] at hn
  show PMap s τ (if i=k then m else (k,x)::mdel i m) _
  rw [List.filter_cons]
  by_cases hq:q.id=i
  ·rw [if_pos (by rw [hk,hq]),show (!(q.id==i))=false by simpa using hq]
   simp only [Bool.false_eq_true,if_false]
   have:(l.filter fun p=> !(p.id==i))=l:=List.filter_eq_self.2 fun p hp=>by
    simp only [Bool.not_eq_true',beq_eq_false_iff_ne]
    intro e;exact hn.1 (by rw [hq, ←e];exact List.mem_map.2 ⟨p,hp,rfl⟩)
   rw [this];exact h.2.2
  rw [if_neg (by rw [hk];exact fun e=>hq e.symm),show (!(q.id==i))=true by simpa using hq]
  simp only [if_true]
  exact ⟨h.1,h.2.1,PMap.del h.2.2 hn.2⟩
 |[],_::_,h,_=>h.elim
 |_::_,[],h,_=>h.elim
structure POk (P:PatchM):Prop where
 srt:P.l.Pairwise fun x y=>x.id<y.id
 rng: ∀x∈P.l,1<=x.id/\x.id<=P.last
 fit: ∀x∈P.l,0<=x.blk/\0<=x.off/\1<=x.by_.length/\x.off+x.by_.length<=128
 nds: ∀x∈P.l,∀n∈x.needs,1<=n/\n<x.id
 nsr: ∀x∈P.l,x.needs.Pairwise (· < ·)
 dn: ∀i∈P.done,1<=i/\i<=P.last
 all: ∀i,1<=i->i<=P.last->i∈P.done∨i∈P.l.map (·.id)
 dis: ∀i∈P.done,i∉P.l.map (·.id)
 lst:0<=P.last/\P.last<=1000000
structure PSetP (s:TH) (p T:Nat) (P:PatchM) (r1 r2:Nat) (m1 m2:List (Int×Value)):Prop where
 blk:Blk s p [.int .i64 P.last,.map (some r1),.map (some r2),.bool true] 161 T
 dm:MapK (Value.int .i64) s r1 m1 (T+1)
 lm:MapK (Value.int .i64) s r2 m2 (T+2)
 pm:PMap s (T+3) m2 P.l
 dk:m1.map (·.1)=P.done
 dv: ∀e∈m1,e.2=.agg #[]
structure PSet (s:TH) (p T:Nat) (P:PatchM):Prop where
 p: ∃r1 r2 m1 m2,PSetP s p T P r1 r2 m1 m2
 ok:POk P
theorem PSetP.mv {s s':TH} {p T r1 r2:Nat} {P:PatchM} {m1 m2:List (Int×Value)} {B:Nat->Prop} (h:PSetP s p T P r1 r2 m1 m2) (c:Chg B s s') (hn: ∀j,j<s.h.size->T<=s.g j->s.g j<T+10->¬B j):PSetP s' p T P r1 r2 m1 m2:=
 ⟨h.blk.mv c (of_rng hn (Nat.le_refl _) (by omega) p h.blk.lt h.blk.tag),h.dm.mv c (of_rng hn (by omega) (by omega) r1 h.dm.lt h.dm.tag),h.lm.mv c (of_rng hn (by omega) (by omega) r2 h.lm.lt h.lm.tag),h.pm.mv c (of_rng hn (by omega) (by omega)),h.dk,h.dv⟩
theorem PSet.mv {s s':TH} {p T:Nat} {P:PatchM} {B:Nat->Prop} (h:PSet s p T P) (c:Chg B s s') (hn: ∀j,j<s.h.size->T<=s.g j->s.g j<T+10->¬B j):PSet s' p T P:=by
 obtain ⟨⟨r1,r2,m1,m2,hp⟩,ok⟩:=h
 exact ⟨⟨r1,r2,m1,m2,hp.mv c hn⟩,ok⟩
theorem POk.nodup {P:PatchM} (h:POk P):(P.l.map (·.id)).Nodup:=(List.pairwise_map.2 h.srt).imp fun {a b} hab=>by omega
theorem POk.asrt {P:PatchM} (h:POk P):P.all.Pairwise (· < ·):=List.pairwise_map.2 h.srt
theorem POk.find_mem {P:PatchM} {i:Int} {x:PatM} (hf:P.find i=some x):x∈P.l/\x.id=i:=⟨List.mem_of_find?_eq_some hf,by simpa using List.find?_some hf⟩
theorem find_isSome {P:PatchM} {i:Int}:(P.find i).isSome=true↔i∈P.all:=by
 unfold PatchM.find PatchM.all
 rw [List.find?_isSome]
 constructor
 ·rintro ⟨x,hx,e⟩;exact List.mem_map.2 ⟨x,hx,by simpa using e⟩
 intro h;obtain ⟨x,hx,e⟩:=List.mem_map.1 h;exact ⟨x,hx,by simpa using e⟩
theorem rise_len : ∀(l:List Int) (a b:Int),l.Pairwise (· < ·)->(∀x∈l,a<=x/\x<=b)->a<=b+1->(l.length:Int)<=b - a+1
 |[],a,b,_,_,hab=>by simp;omega
 |x::l,a,b,h,hr,hab=>by
  rw [List.pairwise_cons] at h
  have hx:=hr x (by simp)
  have:=rise_len l (x+1) b h.2 (fun y hy=>⟨by have:=h.1 y hy;omega,(hr y (List.mem_cons_of_mem _ hy)).2⟩) (by omega)
  rw [List.length_cons];omega
theorem POk.lenl {P:PatchM} (h:POk P):(P.l.length:Int)<=P.last:=by
 have:=rise_len P.all 1 P.last h.asrt (fun x hx=>by obtain ⟨p,hp,rfl⟩:=List.mem_map.1 hx;exact h.rng p hp) (by have:=h.lst;omega)
 unfold PatchM.all at this;rw [List.length_map] at this;omega
theorem POk.lenn {P:PatchM} (h:POk P) {x:PatM} (hx:x∈P.l):(x.needs.length:Int)<=P.last:=by
 have h1:=h.rng x hx
 have:=rise_len x.needs 1 (x.id - 1) (h.nsr x hx) (fun y hy=>by have:=h.nds x hx y hy;omega) (by omega)
 omega
theorem dA5 {a b c d e:Value} {k:VF 5} (h:(k:Value->Value->Value->Value->Value->Prop) a b c d e):dA 5 (.agg #[a,b,c,d,e]) k:=h
theorem in163 :(Tryz.prog.info? 163).map (fun i=>(i.zero,i.size,i.bytes))=some (some (.agg #[.int .i64 0,.int .i64 0,.int .i64 0,.slice none 0 0,.slice none 0 0]),5,72):=by kernel_rfl
theorem z163 (w:World):(zeroValue 163).run Tryz.prog w=.ok (.agg #[.int .i64 0,.int .i64 0,.int .i64 0,.slice none 0 0,.slice none 0 0]) w:=by kernel_rfl
theorem um159 :Tryz.prog.underlying 159=some (.map 3 163):=by kernel_rfl
theorem um158 :Tryz.prog.underlying 158=some (.map 3 88):=by kernel_rfl
theorem c_own (p T:Nat) (P:PatchM)  (s:TH) (hT:10<=T) (hp:PSet s p T P):TRet Tryz.prog 96 #[.pointer (some ⟨p,0,none⟩)] s fun v s'=>v=.bool true/\Ch [] s s':=by
 obtain ⟨⟨rd,rl,md,ml,hP⟩,ok⟩:=id hp
 have hpb:=hP.blk
 have hpd:=hP.dm
 have hpl:=hP.lm
 have hpm:=hP.pm
 have hlst:=ok.lst
 refine F96_calls _  ?_
 unfold F96
 refine sB_t (by rfl) (nz_i (ld_t hpb rfl (dBl_i ?_)))
 refine ret_t ?_
 exact ⟨rfl,(Ch.refl [] s)⟩
def fitsP (b o n:Int):Prop:=0<=b/\0<=o/\0<n/\o<=128/\n<=128 - o
instance (b o n : Int) : Decidable (fitsP b o n) := by unfold fitsP; infer_instance
def ovl (b o n b' o' n':Int):Prop:=b=b'/\o<o'+n'/\o'<o+n
instance (b o n b' o' n' : Int) : Decidable (ovl b o n b' o' n') := by unfold ovl; infer_instance
theorem c_fits (b o:Int) (xa:Option Addr) (xn xc:Nat) (s:TH):TRet Tryz.prog 115 #[.int .i64 b,.int .i64 o,.slice xa xn xc] s fun v s'=>v=.bool (decide (fitsP b o xn))/\Ch [] s s':=by
 refine F115_calls _ _ _ _ _  ?_
 unfold F115
 refine sB_d (fun a=>?_) (fun a=>?_)
 ·refine sB_d (fun c=>?_) (fun c=>?_)
  ·refine sB_d (fun d=>?_) (fun d=>?_)
   ·refine sB_d (fun e=>?_) (fun e=>?_)
    ·refine wr_t (by omega) ?_
     refine ret_t ?_
     exact ⟨ret_b (by unfold fitsP;first|exact (decide_eq_false (by omega)).symm|exact (decide_eq_true (by omega)).symm|exact decide_eq_decide.2 (by omega)),(Ch.refl [] s)⟩
    refine ret_t ?_
    exact ⟨ret_b (by unfold fitsP;first|exact (decide_eq_false (by omega)).symm|exact (decide_eq_true (by omega)).symm|exact decide_eq_decide.2 (by omega)),(Ch.refl [] s)⟩
   refine ret_t ?_
   exact ⟨ret_b (by unfold fitsP;first|exact (decide_eq_false (by omega)).symm|exact (decide_eq_true (by omega)).symm|exact decide_eq_decide.2 (by omega)),(Ch.refl [] s)⟩
  refine ret_t ?_
  exact ⟨ret_b (by unfold fitsP;first|exact (decide_eq_false (by omega)).symm|exact (decide_eq_true (by omega)).symm|exact decide_eq_decide.2 (by omega)),(Ch.refl [] s)⟩
 refine ret_t ?_
 exact ⟨ret_b (by unfold fitsP;first|exact (decide_eq_false (by omega)).symm|exact (decide_eq_true (by omega)).symm|exact decide_eq_decide.2 (by omega)),(Ch.refl [] s)⟩
theorem c_known (p T:Nat) (P:PatchM) (i:Int) (s:TH) (hT:10<=T) (hp:PSet s p T P):TRet Tryz.prog 118 #[.pointer (some ⟨p,0,none⟩),.int .i64 i] s fun v s'=>v=.bool (decide (1<=i/\i<=P.last))/\Ch [] s s':=by
 obtain ⟨⟨rd,rl,md,ml,hP⟩,ok⟩:=id hp
 have hpb:=hP.blk
 have hpd:=hP.dm
 have hpl:=hP.lm
 have hpm:=hP.pm
 have hlst:=ok.lst
 refine F118_calls _ _  ?_
 unfold F118
 refine sB_d (fun a=>?_) (fun a=>?_)
 ·refine nz_i (ld_t hpb rfl (dInt_i ?_))
  refine ret_t ?_
  exact ⟨ret_b (by first|exact (decide_eq_false (by omega)).symm|exact (decide_eq_true (by omega)).symm|exact decide_eq_decide.2 (by omega)),(Ch.refl [] s)⟩
 refine ret_t ?_
 exact ⟨ret_b (by first|exact (decide_eq_false (by omega)).symm|exact (decide_eq_true (by omega)).symm|exact decide_eq_decide.2 (by omega)),(Ch.refl [] s)⟩
theorem c_overlap (i0 b0 o0:Int) (x0:Option Addr) (n0 c0:Nat) (y0:Option Addr) (m0 d0:Nat) (i1 b1 o1:Int) (x1:Option Addr) (n1 c1:Nat) (y1:Option Addr) (m1 d1:Nat) (s:TH) (h0:0<=o0/\o0+n0<=128) (h1:0<=o1/\o1+n1<=128):TRet Tryz.prog 121 #[.agg #[.int .i64 i0,.int .i64 b0,.int .i64 o0,.slice x0 n0 c0,.slice y0 m0 d0],.agg #[.int .i64 i1,.int .i64 b1,.int .i64 o1,.slice x1 n1 c1,.slice y1 m1 d1]] s fun v s'=>v=.bool (decide (ovl b0 o0 n0 b1 o1 n1))/\Ch [] s s':=by
 obtain ⟨M,hM,hM0,hMa,hMb,hMc,hMd,hMe,hMf⟩:=fresh6 s 0 0 0 0 0 0
 refine F121_calls _ _ _ _ _ _ _ _ _ _  ?_
 unfold F121
 refine al_t (M+1) fun r1 s2 h g d i=>?_
 refine al_t (M+2) fun r3 s4 j a b k=>?_
 have c:=g.ch b (by simp)
 refine ld_t c rfl (dInt_i (ld_t a rfl (dInt_i ?_)))
 refine sB_d (fun e=>?_) (fun e=>?_)
 ·refine ld_t c rfl (dInt_i (ld_t a rfl (dInt_i (ld_t a rfl (dSl_i (wr_t (by omega) ?_))))))
  refine sB_d (fun f=>?_) (fun f=>?_)
  ·refine ld_t a rfl (dInt_i (ld_t c rfl (dInt_i (ld_t c rfl (dSl_i (wr_t (by omega) ?_))))))
   refine ret_t ?_
   exact ⟨ret_b (by unfold ovl;first|exact (decide_eq_false (by omega)).symm|exact (decide_eq_true (by omega)).symm|exact decide_eq_decide.2 (by omega)),(((Ch.refl [] s).ch d (by simp)).ch b (by simp))⟩
  refine ret_t ?_
  exact ⟨ret_b (by unfold ovl;first|exact (decide_eq_false (by omega)).symm|exact (decide_eq_true (by omega)).symm|exact decide_eq_decide.2 (by omega)),(((Ch.refl [] s).ch d (by simp)).ch b (by simp))⟩
 refine ret_t ?_
 exact ⟨ret_b (by unfold ovl;first|exact (decide_eq_false (by omega)).symm|exact (decide_eq_true (by omega)).symm|exact decide_eq_decide.2 (by omega)),(((Ch.refl [] s).ch d (by simp)).ch b (by simp))⟩
theorem cpt_mem (l:List Int) (x:Int):x∈cpt l↔x∈l:=by
 refine snoc_ind (p:=fun l=>x∈cpt l↔x∈l) (by simp [cpt]) (fun l y ih=>?_) l
 rw [cpt_snoc,List.mem_append,List.mem_singleton]
 unfold cptS
 split
 ·rename_i h
  rw [ih]
  constructor
  ·exact .inl
  rintro (h1|rfl)
  ·exact h1
  exact ih.1 (List.mem_of_getLast? h)
 rw [List.mem_append,List.mem_singleton,ih]
theorem cpt_srt {l:List Int} (h:l.Pairwise (· <= ·)):(cpt l).Pairwise (· < ·):=by
 revert h
 refine snoc_ind (p:=fun l=>l.Pairwise (· <= ·)->(cpt l).Pairwise (· < ·)) (by simp [cpt]) (fun l y ih h=>?_) l
 rw [List.pairwise_append] at h
 rw [cpt_snoc]
 unfold cptS
 split
 ·exact ih h.1
 rename_i hy
 refine List.pairwise_append.2 ⟨ih h.1,by simp,fun a ha b hb=>?_⟩
 rw [List.mem_singleton] at hb;subst hb
 have h1:=h.2.2 a ((cpt_mem l a).1 ha) b (by simp)
 rcases Int.lt_or_eq_of_le h1 with h2|h2
 ·exact h2
 exfalso;subst h2
 have h3:=ih h.1
 obtain ⟨i,hi,e⟩:=List.getElem_of_mem ha
 apply hy
 rw [List.getLast?_eq_getElem?]
 have hl:(cpt l).length - 1<(cpt l).length:=by omega
 rw [List.getElem?_eq_getElem hl]
 congr 1
 by_cases hlt:i<(cpt l).length - 1
 ·have h4:=List.pairwise_iff_getElem.1 h3 i ((cpt l).length - 1) hi hl hlt
  have h5:=h.2.2 _ ((cpt_mem l _).1 (List.getElem_mem hl)) a (by simp)
  omega
 have:i=(cpt l).length - 1:=by omega
 subst this;exact e
theorem srt_ext {l m:List Int} (hl:l.Pairwise (· < ·)) (hm:m.Pairwise (· < ·)) (h: ∀x,x∈l↔x∈m):l=m:=by
 have nl:l.Nodup:=hl.imp fun hab=>by omega
 have nm:m.Nodup:=hm.imp fun hab=>by omega
 exact ((List.perm_ext_iff_of_nodup nl nm).2 h).eq_of_pairwise (le:=(· < ·)) (fun a b _ _ h1 h2=>by omega) hl hm
theorem srtd (l:List Int):(l.mergeSort fun x y=>decide (x<=y)).Pairwise (· <= ·):=by
 have:=List.pairwise_mergeSort (le:=fun x y:Int=>decide (x<=y)) (fun a b c h1 h2=>by simp at*;omega) (fun a b=>by simp;omega) l
 exact this.imp fun h=>by simpa using h
theorem srt_filter {l:List Int} (h:l.Pairwise (· < ·)) (q:Int->Bool):(l.filter q).Pairwise (· < ·):=h.sublist List.filter_sublist
theorem pend_of {P:PatchM} (ok:POk P) (l ids:List Int) (h: ∀x,x∈l↔x∈ids/\x∈P.all):cpt (l.mergeSort fun x y=>decide (x<=y))=P.pend ids:=by
 refine srt_ext (cpt_srt (srtd l)) (srt_filter ok.asrt _) fun x=>?_
 rw [cpt_mem,List.mem_mergeSort,h]
 unfold PatchM.pend
 simp [and_comm]
theorem take_get {α:Type} {l:List α} {k:Nat} {x:α} (h:l[k]? =some x):l.take (k+1)=l.take k++[x]:=by
 rw [List.take_add_one,h];rfl
theorem pend_len {P:PatchM} (ok:POk P) (ids:List Int):((P.pend ids).length:Int)<=P.last:=by
 have h1:(P.pend ids).length<=P.all.length:=List.length_filter_le _ _
 have h2:P.all.length=P.l.length:=by unfold PatchM.all;simp
 have:=ok.lenl;omega
theorem c_pending (p T:Nat) (P:PatchM) (τ:Nat) {xa:Option Addr} {xn:Nat} (xc:Nat) {ids:List Int} {τx:Nat} (s:TH) (hT:10<=T) (hp:PSet s p T P) (hx:Sl s xa (ivs ids) τx) (hn:ids.length=xn) (hb:xn<=17592186044000):TRet Tryz.prog 122 #[.pointer (some ⟨p,0,none⟩),.slice xa xn xc] s fun v s'=>∃a c',v=.slice a (P.pend ids).length c'/\Ch [] s s'/\Own s' a (P.pend ids).length c' 3 1 (ivs (P.pend ids)) τ:=by
 obtain ⟨⟨rd,rl,md,ml,hP⟩,ok⟩:=id hp
 have hpb:=hP.blk
 have hpd:=hP.dm
 have hpl:=hP.lm
 have hpm:=hP.pm
 have hlst:=ok.lst
 obtain ⟨M,hM,hM0,hMa,hMb,hMc,hMd,hMe,hMf⟩:=fresh6 s (T+10) τx τ 0 0 0
 refine F122_calls _ _ _ _  ?_
 unfold F122
 refine ⟨fun vs H'=>∃s':TH,s'.h=H'/\∃q qn qc i,vs=[.slice q qn qc,.int .i64 i]/\Ch [M+1,M+9] s s'/\(∃k:Nat,i=k/\k<=xn/\qn<=k/\Own s' q qn qc 3 1 (ivs ((ids.take k).filter fun x=>decide (x∈P.all))) (M+1)),fun vs H'=>match vs with|[.slice q qn qc,.int .i64 i]=>((xn:Int) - i).toNat|_=>0,⟨s,rfl,_,_,_,_,rfl,Ch.refl _ _,?_⟩,?_⟩
 ·exact ⟨0,rfl,by omega,by omega,by simpa [ivs] using Own.nil _ _ _ _⟩
 intro q qn qc i
 iterate 21 intro _
 intro H_ hI_2
 obtain ⟨a3,rfl,q_,qn_,qc_,i_,hvs,b,k,rfl,hk,hq,ho⟩:=hI_2
 cases hvs
 have a4:=b.size
 refine sB_d (fun ad=>?_) (fun ad=>?_)
 ·refine jn_u ?_
  have ac:=hx.mv b (tagn (by simp<;>omega))
  obtain ⟨a5,rfl⟩:=ac.ne_none (by simp [bvs_len,ivs_len];omega)
  refine nz_i (ask_t (by omega) ?_)
  refine ld_iv ac (by omega) (by omega) fun c d=>?_
  rw [Int.toNat_natCast] at d
  refine dInt_i (nz_i ?_)
  have ar:=hpb.ch b (by simp<;>omega)
  refine ld_t ar rfl (dMap_i ?_)
  rcases hfxsem1:P.find c with _|ay
  ·have au:=hpl.ch b (by simp<;>omega)
   have av:=hpm.mv b (tagn (by simp<;>omega))
   refine look_okn keyI um159 z163 au c (av.none_ hfxsem1) ?_
   refine dT2 (dA5 (dBl_i ?_))
   refine al_t (M+9) fun aw a6 ae f g az=>?_
   refine st_t f rfl (by simp) fun a7 j R aA=>?_
   have l:=on_ch f R
   refine st_t j rfl (by simp) fun a8 m S aB=>?_
   have n:=on_ch j S
   refine st_t m rfl (by simp) fun a9 o U aC=>?_
   have r:=on_ch m U
   refine st_t o rfl (by simp) fun ba t V aD=>?_
   have u:=on_ch o V
   refine st_t t rfl (by simp) fun ax aE W aF=>?_
   have w:=on_ch t W
   refine sB_f (by rfl) ?_
   intro _
   intros
   refine dSl_i (wr_t (by omega) ?_)
   have af:=((((((b.app g).app l).app n).app r).app u).app w)
   refine ⟨⟨ax,rfl,_,_,_,_,rfl,((Ch.refl [M+1,M+9] s).ch af (by simp)),?_⟩,?_⟩
   ·have ag:=(((((g.app l).app n).app r).app u).app w)
    have ah:=ho.mv ag (tagn (by simp))
    refine ⟨k+1,by omega,by omega,by omega,?_⟩
    have hn1:decide (c∈P.all)=false:=by rw [decide_eq_false_iff_not, ←find_isSome,hfxsem1];simp
    rw [take_get d,List.filter_append,List.filter_cons,hn1]
    simpa using ah
   simp only [];omega
  have ai:=hpm.mv b (tagn (by simp<;>omega))
  obtain ⟨wsem1,hvxsem1,⟨baxsem1,bcxsem1,naxsem1,ncxsem1,rfl,sbxsem1,snxsem1⟩,hidxsem1,hmemxsem1⟩:=ai.some_ hfxsem1
  have aj:=hpl.ch b (by simp<;>omega)
  refine look_oks keyI um159 z163 aj c hvxsem1 ?_
  refine dT2 (dA5 (dBl_i ?_))
  refine al_t (M+9) fun aw aG ae y z aH=>?_
  refine st_t y rfl (by simp) fun aI A X aJ=>?_
  have B:=on_ch y X
  refine st_t A rfl (by simp) fun aK C Y aL=>?_
  have D:=on_ch A Y
  refine st_t C rfl (by simp) fun aM E Z aN=>?_
  have F:=on_ch C Z
  refine st_t E rfl (by simp) fun aO G aa aP=>?_
  have H:=on_ch E aa
  refine st_t G rfl (by simp) fun aQ aR ab aS=>?_
  have I:=on_ch G ab
  refine sB_t (by rfl) ?_
  refine al_t (M+9) fun bb bc aT ak J aU=>?_
  have al:=((((((z.app B).app D).app F).app H).app I).app J)
  have am:=ho.mv al (tagn (by simp))
  refine app_i1 u33 in3 am ak (by omega) fun an aV aW ao K=>?_
  have aX:=K.size
  refine dSl_i ?_
  intro _
  intros
  refine dSl_i (wr_t (by omega) ?_)
  have ap:=((((((((b.app z).app B).app D).app F).app H).app I).app J).app K)
  refine ⟨⟨an,rfl,_,_,_,_,rfl,((Ch.refl [M+1,M+9] s).ch ap (by simp)),?_⟩,?_⟩
  ·refine ⟨k+1,by omega,by omega,by omega,?_⟩
   have hn1:decide (c∈P.all)=true:=by rw [decide_eq_true_iff, ←find_isSome,hfxsem1];simp
   rw [take_get d,List.filter_append,List.filter_cons,hn1]
   simpa using ao
  simp only [];omega
 refine tcall (c_sortInt ho (by omega)) ?_
 rintro aY aZ ⟨rfl,L,N⟩
 have a0:=L.size
 refine tcall (c_compact N (by omega)) ?_
 rintro a1 aq ⟨rfl,O,Q⟩
 have a2:=O.size
 refine dSl_i ?_
 have hk2:ids.take k=ids:=List.take_of_length_le (by omega)
 have ho:=Q
 rw [hk2] at ho
 have e:=pend_of ok (ids.filter fun x=>decide (x∈P.all)) ids (fun x=>by simp)
 rw [e] at ho
 rw [hk2,e]
 exact ret_t' (s':=remark aq (M+1) τ) rfl ⟨_,_,rfl,remark_ch ((((Ch.refl [] s).fr b hM (by simp)).fr L hM (by simp)).fr O hM (by simp)) hM (by omega),ho.remark⟩
theorem msort_perm {a b:List Int} (h:a.Perm b):(a.mergeSort fun x y=>decide (x<=y))=b.mergeSort fun x y=>decide (x<=y):=
 ((List.mergeSort_perm a _).trans (h.trans (List.mergeSort_perm b _).symm)).eq_of_pairwise (le:=(· <= ·)) (fun x y _ _ h1 h2=>by omega) (srtd a) (srtd b)
theorem srtd_id {a:List Int} (h:a.Pairwise (· < ·)):(a.mergeSort fun x y=>decide (x<=y))=a:=
 (List.mergeSort_perm a _).eq_of_pairwise (le:=(· <= ·)) (fun x y _ _ h1 h2=>by omega) (srtd a) (h.imp fun h=>by omega)
theorem c_collectB (τ:Nat) {Bm r tb τb τm:Nat} {m:List (Int×Value)} {s:TH} (hB:Blk s Bm [.map (some r)] tb τb) (hm:MapK (Value.int .i64) s r m τm) (hn:m.length<=17592186044416) (hk: ∀k∈m.map (·.1),inI64 k):
  TRet Tryz.prog 288 #[.func (.func 317) #[] #[.pointer (some ⟨Bm,0,none⟩)]] s fun v s'=>∃a c ss,v=.slice a m.length c/\Ch [] s s'/\ss.Perm (m.map (·.1))/\Own s' a m.length c 3 1 (ivs ss) τ:=by
 refine TRet.mono (Q:=fun v s'=>(∃a c ss,v=.slice a m.length c/\ss.Perm (m.map (·.1))/\Own s' a m.length c 3 1 (ivs ss) τ)/\Ch [] s s') (tret_new τ fun w hw=>?_) (fun v s' ⟨⟨a,c,ss,h1,h2,h3⟩,h4⟩=>⟨a,c,ss,h1,h4,h2,h3⟩)
 have hm0:w.cell? ⟨Bm,0,none⟩=some (.map (some r)):=by rw [cell_eq,hw];exact hB.cell 0
 obtain ⟨D0,ho,hp,hsz⟩:=owns_of (P:=Tryz.prog) (K:=3) (by kernel_rfl) hm w hw hn hk
 have hseq:SeqGives Fence.wide 4 Tryz.prog 317 #[.pointer (some ⟨Bm,0,none⟩)] encZ (fun ss:List Int=>ss.Perm (intKeys D0)) (Go.Maps.size D0) w:=
  AnyZI.keys_gives (ρ:=Tryz.keysB_ren) { Tryz.keysB with } Fence.wide 4 trivial rfl (by omega) Bm r m.length D0 w (by rw [hw];exact hB.lt) hm0 ho
 have h:=AnyZI.collect_in (ρ:=Tryz.collectA_ren) Tryz.collectA Fence.wide 6 trivial trivial rfl (by omega) 317 #[.pointer (some ⟨Bm,0,none⟩)] trivial (enters_of Tryz.func317 (by kernel_rfl) rfl) _ (Go.Maps.size D0) (by rw [hsz];unfold maxLen;omega) (by rw [hsz];omega) w hseq
 refine ((callsIn_wide (n:=6)).1 h).mono ?_
 rintro e w' ⟨v,ss,rfl,hs,hrow,hv,hb⟩
 have hp2:=hs.trans hp
 have hl:ss.length=m.length:=by rw [hp2.length_eq];simp
 obtain ⟨a,c,rfl,hO,hnew⟩:=own_of_row (g:=fun j=>if j<s.h.size then s.g j else τ) (τ:=τ) hrow (fun j hj=>by rw [if_neg (by rw [←hw];omega)])
 rw [hl] at hO ⊢
 exact ⟨_,rfl,hb,a,c,ss,rfl,hp2,hO⟩
theorem c_keysB (τ r:Nat) (s:TH):TRet Tryz.prog 285 #[.map (some r)] s fun v s'=>∃B,v=.func (.func 317) #[] #[.pointer (some ⟨B,0,none⟩)]/\Ch [] s s'/\Blk s' B [.map (some r)] 159 τ:=by
 refine F285_calls _  ?_
 unfold F285
 refine al_t τ fun r1 s2 c a b d=>?_
 refine ret_t ?_
 exact ⟨_,rfl,((Ch.refl [] s).ch b (by simp)),a⟩
theorem c_sortedB (τ:Nat) {Bm r tb τb τm:Nat} {m:List (Int×Value)} (s:TH) (hB:Blk s Bm [.map (some r)] tb τb) (hm:MapK (Value.int .i64) s r m τm) (hn:m.length<=17592186044416) (hk: ∀k∈m.map (·.1),inI64 k):TRet Tryz.prog 236 #[.func (.func 317) #[] #[.pointer (some ⟨Bm,0,none⟩)]] s fun v s'=>∃a c,v=.slice a m.length c/\Ch [] s s'/\Own s' a m.length c 3 1 (ivs ((m.map (·.1)).mergeSort fun x y=>decide (x<=y))) τ:=by
 obtain ⟨M,hM,hM0,hMa,hMb,hMc,hMd,hMe,hMf⟩:=fresh6 s τb τm τ 0 0 0
 refine F236_calls _ _ _  ?_
 unfold F236
 refine tcall (c_collectB (M+1) hB hm (by omega) hk) ?_
 rintro o p ⟨i,j,b,rfl,g,d,e⟩
 have q:=g.size
 refine dSl_i ?_
 refine tcall (c_sortInt e (by omega)) ?_
 rintro t l ⟨rfl,h,f⟩
 have n:=h.size
 have ho:=f
 rw [show (b.mergeSort fun x y=>decide (x<=y))=(m.map (·.1)).mergeSort fun x y=>decide (x<=y) from msort_perm d] at ho
 exact ret_t' (s':=remark l (M+1) τ) rfl ⟨_,_,rfl,remark_ch (((Ch.refl [] s).ch g (by simp)).fr h hM (by simp)) hM (by omega),ho.remark⟩
theorem c_pall (p T:Nat) (P:PatchM) (τ:Nat) (s:TH) (hT:10<=T) (hp:PSet s p T P):TRet Tryz.prog 228 #[.pointer (some ⟨p,0,none⟩)] s fun v s'=>∃a c',v=.slice a P.l.length c'/\Ch [] s s'/\Own s' a P.l.length c' 3 1 (ivs P.all) τ:=by
 obtain ⟨⟨rd,rl,md,ml,hP⟩,ok⟩:=id hp
 have hpb:=hP.blk
 have hpd:=hP.dm
 have hpl:=hP.lm
 have hpm:=hP.pm
 have hlst:=ok.lst
 obtain ⟨M,hM,hM0,hMa,hMb,hMc,hMd,hMe,hMf⟩:=fresh6 s (T+10) τ 0 0 0 0
 refine F228_calls _  ?_
 unfold F228
 refine nz_i (ld_t hpb rfl (dMap_i ?_))
 refine tcall (c_keysB (M+1) _ _) ?_
 rintro m n ⟨f,rfl,b,c⟩
 have o:=b.size
 have hkm:=hpm.keys
 have hml:ml.length=P.l.length:=by have:=congrArg List.length hkm;simpa using this
 have hll:=ok.lenl
 have g:=hpl.ch b (by simp)
 refine tcall (c_sortedB τ _ c g (by omega) (fun k hk=>by rw [hkm] at hk;obtain ⟨x,hx,rfl⟩:=List.mem_map.1 hk;have:=ok.rng x hx;unfold inI64;omega)) ?_
 rintro q r ⟨h,i,rfl,d,e⟩
 have j:=d.size
 refine dSl_i ?_
 refine ret_t ?_
 have ho:=e
 rw [hkm,show (P.l.map (·.id))=P.all from rfl,srtd_id ok.asrt,hml] at ho
 rw [hml]
 exact ⟨_,_,rfl,(((Ch.refl [] s).ch b (by simp)).ch d (by simp)),ho⟩
set_option maxRecDepth 100000 in
/-- slices.IndexFunc[[]int,int] -/
theorem c_ixIntF {a:Option Addr} {n:Nat} (c:Nat) {g:Nat} {xf xc:Array Value} {l:List Int} {τ:Nat} {s:TH} (q:Int->Bool) (hq:Sl s a (ivs l) τ) (hn:l.length=n) (hb:n<=140737488355328) (hg:plainFn Tryz.prog g=true) (hp: ∀(s1:TH) (x:Int),x∈l->Ch [] s s1->TRet Tryz.prog g (argsOf xf [.int .i64 x] xc) s1 fun v s2=>v=.bool (q x)/\Ch [] s1 s2):TRet Tryz.prog 210 #[.slice a n c,.func (.func g) xf xc] s fun v s'=>v=.int .i64 (ixf q l)/\Ch [] s s':=by
 refine F210_calls _ _ _ _ _ _  ?_
 unfold F210
 refine ⟨fun vs H'=>∃s':TH,s'.h=H'/\∃m,vs=[.int .i64 m]/\Ch [] s s'/\(∃k:Nat,m=k/\k<=n/\∀j x,j<k->l[j]? =some x->q x=false),fun vs H'=>match vs with|[.int .i64 m]=>((n:Int) - m).toNat|_=>0,⟨s,rfl,_,rfl,Ch.refl _ _,?_⟩,?_⟩
 ·exact ⟨0,rfl,by omega,fun j x h=>by omega⟩
 intro m
 iterate 12 intro _
 intro H_ hI_2
 obtain ⟨w,rfl,m_,hvs,b,k,rfl,hk,hall⟩:=hI_2
 cases hvs
 have z:=b.size
 refine sB_d (fun p=>?_) (fun p=>?_)
 ·have o:=hq.mv b (tagn (by simp))
  obtain ⟨A,rfl⟩:=o.ne_none (by simp [bvs_len,ivs_len];omega)
  refine nz_i (ask_t (by omega) ?_)
  refine ld_iv o (by omega) (by omega) fun t d=>?_
  rw [Int.toNat_natCast] at d
  refine dInt_i ?_
  refine gB_i hg ?_
  refine tcall (hp _ _ (List.mem_of_getElem? d) ((Ch.refl [] s).ch b (by simp))) ?_
  rintro B r ⟨rfl,f⟩
  have u:=f.size
  refine dBl_i ?_
  refine sB_i (fun i=>?_) (fun i=>?_)
  ·refine ret_t ?_
   exact ⟨ret_i (ixf_some d i hall).symm,(((Ch.refl [] s).ch b (by simp)).ch f (by simp))⟩
  refine wr_t (by omega) ?_
  refine ⟨⟨r,rfl,_,rfl,(((Ch.refl [] s).ch b (by simp)).ch f (by simp)),?_⟩,?_⟩
  ·refine ⟨k+1,by omega,by omega,fun j y hj hy=>?_⟩
   by_cases e:j=k
   ·subst e;rw [d] at hy;cases hy;exact i
   exact hall j y (by omega) hy
  simp only [];omega
 refine ret_t ?_
 exact ⟨ret_i (ixf_none fun j y hj hy=>hall j y (by omega) hy).symm,((Ch.refl [] s).ch b (by simp))⟩
theorem c_ctIntF {a:Option Addr} {n:Nat} (c:Nat) {g:Nat} {xf xc:Array Value} {l:List Int} {τ:Nat} {s:TH} (q:Int->Bool) (hq:Sl s a (ivs l) τ) (hn:l.length=n) (hb:n<=140737488355328) (hg:plainFn Tryz.prog g=true) (hp: ∀(s1:TH) (x:Int),x∈l->Ch [] s s1->TRet Tryz.prog g (argsOf xf [.int .i64 x] xc) s1 fun v s2=>v=.bool (q x)/\Ch [] s1 s2):TRet Tryz.prog 116 #[.slice a n c,.func (.func g) xf xc] s fun v s'=>v=.bool (l.any q)/\Ch [] s s':=by
 refine F116_calls _ _ _ _ _ _  ?_
 unfold F116
 refine tcall (c_ixIntF c q hq hn hb hg hp) ?_
 rintro d e ⟨rfl,b⟩
 have f:=b.size
 refine dInt_i ?_
 refine ret_t ?_
 refine ⟨ret_b ?_,((Ch.refl [] s).ch b (by simp))⟩
 rcases ixf_cases q l with ⟨h1,h2⟩|⟨k,x,h1,h2,h3⟩
 ·rw [h1,List.any_eq_false.2 (fun x hx=>by simp [h2 x hx])];rfl
 rw [h1,List.any_eq_true.2 ⟨x,List.mem_of_getElem? h2,h3⟩];exact decide_eq_true (by omega)
theorem set_take_snoc {l:List Int} {i:Nat} {x:Int} (h:i<l.length):(l.set i x).take (i+1)=l.take i++[x]:=by
 rw [List.take_add_one,List.getElem?_set_self h,List.take_set_of_le (Nat.le_refl _)];rfl
theorem filt_snoc {l:List Int} {k:Nat} {x:Int} (q:Int->Bool) (h:l[k]? =some x):(l.take (k+1)).filter (fun y=> !q y)=if q x=true then (l.take k).filter (fun y=> !q y) else (l.take k).filter (fun y=> !q y)++[x]:=by
 rw [take_get h,List.filter_append,List.filter_cons]
 cases hq:q x<;>simp
theorem ixf_take {l:List Int} {q:Int->Bool} {k:Nat} (h:ixf q l=(k:Int)): ∃x,l[k]? =some x/\q x=true/\(l.take k).filter (fun y=> !q y)=l.take k:=by
 have: ∀(l:List Int) (i k:Nat),ixr q l i=((i+k:Nat):Int)->∃x,l[k]? =some x/\q x=true/\(l.take k).filter (fun y=> !q y)=l.take k:=fun l=>by
  induction l with
  |nil=>intro i k h;simp [ixr] at h;omega
  |cons y l ih=>
   intro i k h
   rw [ixr] at h
   cases hy:q y with
   |true=>
    rw [hy,if_pos rfl] at h
    obtain rfl:k=0:=by omega
    exact ⟨y,rfl,hy,by simp⟩
   |false=>
    rw [hy,if_neg (by simp)] at h
    cases k with
    |zero=>
     exfalso
     have hr:ixr q l (i+1)= -1∨(i+1:Nat)<=ixr q l (i+1):=by
      clear h ih hy
      generalize i+1=m
      induction l generalizing m with
      |nil=>left;rfl
      |cons z l ih=>
       rw [ixr]
       cases q z with
       |true=>right;simp
       |false=>rcases ih (m+1) with h|h<;>simp [h]<;>omega
     omega
    |succ k=>
     obtain ⟨x,h1,h2,h3⟩:=ih (i+1) k (by rw [h];congr 1;omega)
     exact ⟨x,by simpa using h1,h2,by rw [List.take_succ_cons,List.filter_cons,hy];simp only [Bool.not_false,if_true];rw [h3]⟩
 exact this l 0 k (by rw [show 0+k=k by omega];exact h)
set_option maxRecDepth 100000 in
/-- slices.DeleteFunc[[]int,int] -/
theorem c_dfInt {a:Option Addr} {n:Nat} (c:Nat) {g:Nat} {xf xc:Array Value} {l:List Int} {τ:Nat} {s:TH} (q:Int->Bool) (hO:Own s a n c 3 1 (ivs l) τ) (hb:n<=17592186044416) (hg:plainFn Tryz.prog g=true) (hp: ∀(s1:TH) (x:Int),x∈l->Ch [τ] s s1->TRet Tryz.prog g (argsOf xf [.int .i64 x] xc) s1 fun v s2=>v=.bool (q x)/\Ch [] s1 s2):TRet Tryz.prog 224 #[.slice a n c,.func (.func g) xf xc] s fun v s'=>v=.slice a (l.filter fun y=> !q y).length c/\Ch [τ] s s'/\Own s' a (l.filter fun y=> !q y).length c 3 1 (ivs (l.filter fun y=> !q y)) τ:=by
 have hl:l.length=n:=by have:=hO.1;rw [ivs_len] at this;omega
 have hle:=hO.le
 refine F224_calls _ _ _ _ _ _  ?_
 unfold F224
 refine tcall (c_ixIntF c q hO.sl hl (by omega) hg (fun s1 x hx hc=>hp s1 x hx (hc.less (by simp)))) ?_
 rintro V r ⟨rfl,f⟩
 have W:=f.size
 refine dInt_i ?_
 refine sB_i (fun o=>?_) (fun o=>?_)
 ·simp only [beq_iff_eq,beq_eq_false_iff_ne] at o
  refine ret_t ?_
  have K:=hO.mv f (tagn (by simp))
  rcases ixf_cases q l with ⟨h1,h2⟩|⟨k,x,h1,h2,h3⟩
  rotate_left
  ·omega
  have e:(l.filter fun y=> !q y)=l:=List.filter_eq_self.2 fun x hx=>by simp [h2 x hx]
  rw [e,hl]
  exact ⟨rfl,((Ch.refl [τ] s).ch f (by simp)),K⟩
 simp only [beq_iff_eq,beq_eq_false_iff_ne] at o
 obtain ⟨k0,hk0⟩: ∃k:Nat,ixf q l=(k:Int):=by
  rcases ixf_cases q l with ⟨h1,h2⟩|⟨k,x,h1,h2,h3⟩
  ·exact absurd h1 o
  exact ⟨k,h1⟩
 obtain ⟨x0,hx0,hq0,hf0⟩:=ixf_take hk0
 have hk0l:=(List.getElem?_eq_some_iff.1 hx0).1
 rw [hk0]
 refine wr_t (by omega) ?_
 refine ⟨fun vs H'=>∃s':TH,s'.h=H'/\∃i1 j1,vs=[.int .i64 i1,.int .i64 j1]/\Ch [τ] r s'/\(∃(i j:Nat) (X:List Int),i1=i/\j1=j/\i<j/\j<=n/\Own s' a n c 3 1 (ivs X) τ/\X.drop j=l.drop j/\X.take i=(l.take j).filter fun y=> !q y),fun vs H'=>match vs with|[.int .i64 i1,.int .i64 j1]=>((n:Int) - j1).toNat|_=>0,⟨r,rfl,_,_,rfl,Ch.refl _ _,?_⟩,?_⟩
 ·have L:=hO.mv f (tagn (by simp))
  refine ⟨k0,k0+1,l,rfl,by omega,by omega,by omega,L,rfl,?_⟩
  rw [filt_snoc q hx0,if_pos hq0,hf0]
 intro i1 j1
 iterate 21 intro _
 intro H_ hI_9
 obtain ⟨Y,rfl,i1_,j1_,hvs,b,i,j,X,rfl,rfl,hij,hj,ho,hX1,hX2⟩:=hI_9
 cases hvs
 have N:=b.size
 have hXn:X.length=n:=by have:=ho.1;rw [ivs_len] at this;omega
 refine sB_d (fun B=>?_) (fun B=>?_)
 ·refine jn_u ?_
  obtain ⟨O,rfl⟩:=ho.ne_none (by omega)
  refine nz_i (ask_t (by omega) ?_)
  refine ld_iv ho.sl (by omega) (by omega) fun t w=>?_
  rw [Int.toNat_natCast] at w
  refine dInt_i ?_
  refine gB_i hg ?_
  have hlj:l[j]? =some t:=by have:=congrArg (·[0]?) hX1;simp only [List.getElem?_drop,Nat.add_zero] at this;rw [←this];exact w
  refine tcall (hp _ _ (List.mem_of_getElem? hlj) (((Ch.refl [τ] s).ch f (by simp)).ch b (by simp))) ?_
  rintro P C ⟨rfl,d⟩
  have Q:=d.size
  refine dBl_i ?_
  refine sB_n (fun p=>?_) (fun p=>?_)
  ·refine nz_i (ask_t (by omega) ?_)
   have D:=ho.mv d (tagn (by simp))
   refine st_iv D (by omega) (by omega) fun M E F R=>?_
   refine wr_t (by omega) ?_
   intro _
   intros
   refine dInt_i (wr_t (by omega) ?_)
   have G:=((b.app d).app F)
   refine ⟨⟨M,rfl,_,_,rfl,((Ch.refl [τ] r).ch G (by simp)),?_⟩,?_⟩
   ·refine ⟨i+1,j+1,X.set i t,by omega,by omega,by omega,by omega,?_,?_,?_⟩
    ·have h:=E;rw [Int.toNat_natCast] at h;exact h
    ·rw [List.drop_set_of_lt (by omega), ←List.drop_drop,hX1,List.drop_drop]
    rw [set_take_snoc (by omega),filt_snoc q hlj,if_neg (by simp [p]),hX2]
   simp only [];omega
  intro _
  intros
  refine dInt_i (wr_t (by omega) ?_)
  refine ⟨⟨C,rfl,_,_,rfl,(((Ch.refl [τ] r).ch b (by simp)).ch d (by simp)),?_⟩,?_⟩
  ·have H:=ho.mv d (tagn (by simp))
   refine ⟨i,j+1,X,by omega,by omega,by omega,by omega,H,?_,?_⟩
   ·rw [←List.drop_drop,hX1,List.drop_drop]
   rw [filt_snoc q hlj,if_pos (by simpa using p),hX2]
  simp only [];omega
 refine ask_t (by omega) ?_
 simp only [Int.toNat_natCast]
 refine clear_t u33 in3 rfl (by intro u hu;simp [Value.cells] at hu;subst hu;rfl) (ho.pre (m:=i) (by omega)) (m:=n) (by omega) (by omega) fun S I A _=>?_
 have z:=A.ch ho (T:=[τ]) (by simp)
 have U:=z.size
 refine ask_t (by omega) ?_
 refine ret_t ?_
 have J:=((f.app b).app z)
 have hjn:j=n:=by omega
 rw [hjn,List.take_of_length_le (l:=l) (by omega)] at hX2
 have hpl:(l.filter fun y=> !q y).length=i:=by rw [←hX2,List.length_take];omega
 have hO2:=I
 rw [Nat.mul_one,ivs_take,hX2] at hO2
 rw [hpl]
 simp only [slO_zero,Int.toNat_zero,Int.toNat_natCast,Nat.sub_zero]
 exact ⟨trivial,((Ch.refl [τ] s).ch J (by simp)),hO2⟩
theorem c_cloneB (τ:Nat) {xa:Option Addr} {xn:Nat} (xc:Nat) {l:List UInt8} {τx:Nat} {s:TH} (hx:Sl s xa (bvs l) τx) (hn:l.length=xn) (hb:xn<=140737488355328):TRet Tryz.prog 119 #[.slice xa xn xc] s fun v s'=>∃a c',v=.slice a xn c'/\Ch [] s s'/\Own s' a xn c' 5 1 (bvs l) τ:=by
 obtain ⟨M,hM,hM0,hMa,hMb,hMc,hMd,hMe,hMf⟩:=fresh6 s τx τ 0 0 0 0
 refine F119_calls _ _ _  ?_
 unfold F119
 refine sB_i (fun b=>?_) (fun b=>?_)
 ·have hxa:xa=none:=by simpa using b
  subst hxa
  have h0:=congrArg List.length hx.len0
  rw [bvs_len,List.length_nil] at h0
  have hl:l=[]:=List.eq_nil_of_length_eq_zero h0
  subst hl
  obtain rfl:xn=0:=by omega
  exact ret_t ⟨none,0,rfl,(Ch.refl [] s),Own.nil _ _ _ _⟩
 refine al_t (M+1) fun r1 s2 j e c k=>?_
 have hO0:Own s2 (some ⟨r1,0,none⟩) 0 0 5 1 (bvs []) (M+1):=e.own0 1
 have f:=hx.mv c (tagn (by simp))
 refine app_bv u49 in5 hO0 f (by omega) (by omega) fun g m n h d=>?_
 have i:=d.size
 refine dSl_i ?_
 rw [Nat.zero_add]
 have ho:=h
 rw [Nat.zero_add] at ho
 exact ret_t' (s':=remark g (M+1) τ) rfl ⟨_,_,rfl,remark_ch (((Ch.refl [] s).ch c (by simp)).fr d hM (by simp)) hM (by omega),ho.remark⟩
theorem c_cloneI (τ:Nat) {xa:Option Addr} {xn:Nat} (xc:Nat) {l:List Int} {τx:Nat} {s:TH} (hx:Sl s xa (ivs l) τx) (hn:l.length=xn) (hb:xn<=17592186044416):TRet Tryz.prog 120 #[.slice xa xn xc] s fun v s'=>∃a c',v=.slice a xn c'/\Ch [] s s'/\Own s' a xn c' 3 1 (ivs l) τ:=by
 obtain ⟨M,hM,hM0,hMa,hMb,hMc,hMd,hMe,hMf⟩:=fresh6 s τx τ 0 0 0 0
 refine F120_calls _ _ _  ?_
 unfold F120
 refine sB_i (fun b=>?_) (fun b=>?_)
 ·have hxa:xa=none:=by simpa using b
  subst hxa
  have h0:=congrArg List.length hx.len0
  rw [ivs_len,List.length_nil] at h0
  have hl:l=[]:=List.eq_nil_of_length_eq_zero h0
  subst hl
  obtain rfl:xn=0:=by omega
  exact ret_t ⟨none,0,rfl,(Ch.refl [] s),Own.nil _ _ _ _⟩
 refine al_t (M+1) fun r1 s2 j e c k=>?_
 have hO0:Own s2 (some ⟨r1,0,none⟩) 0 0 3 1 (ivs []) (M+1):=e.own0 1
 have f:=hx.mv c (tagn (by simp))
 refine app_iv u33 in3 hO0 f (by omega) (by omega) fun g m n h d=>?_
 have i:=d.size
 refine dSl_i ?_
 rw [Nat.zero_add]
 have ho:=h
 rw [Nat.zero_add] at ho
 exact ret_t' (s':=remark g (M+1) τ) rfl ⟨_,_,rfl,remark_ch (((Ch.refl [] s).ch c (by simp)).fr d hM (by simp)) hM (by omega),ho.remark⟩
theorem find_by {P:PatchM} (hn:(P.l.map (·.id)).Nodup) {x:PatM} (hx:x∈P.l):P.find x.id=some x:=by
 unfold PatchM.find
 obtain ⟨last,done,l⟩:=P
 simp only at*
 induction l with
 |nil=>cases hx
 |cons y l ih=>
  rw [List.map_cons,List.nodup_cons] at hn
  rw [List.find?_cons]
  rcases List.mem_cons.1 hx with rfl|hx
  ·simp
  have:(y.id==x.id)=false:=by
   simp only [beq_eq_false_iff_ne]
   intro e;exact hn.1 (by rw [e];exact List.mem_map.2 ⟨x,hx,rfl⟩)
  rw [this];exact ih hn.2 hx
def PatchM.step (P:PatchM) (d:List UInt8) (i:Int):List UInt8:=match P.find i with
 |some x=>overlay d x.off.toNat x.by_
 |none=>d
def PatchM.over (P:PatchM) (d:List UInt8) (ids:List Int):List UInt8:=ids.foldl P.step d
def PatchM.fstep (P:PatchM) (l:List Int) (i:Int):List Int:=match P.find i with
 |some x=>if ((P.pend x.needs).all fun n=>decide (n∈l))=true then l++[i] else l
 |none=>l
def PatchM.free (P:PatchM) (b:Int):List Int:=(P.of b).foldl P.fstep []
theorem foldl_take {α β:Type} (f:β->α->β) (z:β) {l:List α} {k:Nat} {x:α} (h:l[k]? =some x):(l.take (k+1)).foldl f z=f ((l.take k).foldl f z) x:=by
 rw [List.take_add_one,h,List.foldl_append];rfl
theorem step_len {P:PatchM} (ok:POk P) {d:List UInt8} (hd:d.length=128) (i:Int):(P.step d i).length=128:=by
 unfold PatchM.step
 cases h:P.find i with
 |none=>exact hd
 |some x=>
  have:=ok.fit x (POk.find_mem h).1
  simp only
  rw [overlay_len (by omega)];exact hd
theorem over_len {P:PatchM} (ok:POk P): ∀(ids:List Int) {d:List UInt8},d.length=128->(P.over d ids).length=128
 |[],d,h=>h
 |i::ids,d,h=>over_len ok ids (step_len ok h i)
theorem of_sub {P:PatchM} {b i:Int} (h:i∈P.of b):i∈P.all:=by
 unfold PatchM.of at h
 obtain ⟨x,hx,rfl⟩:=List.mem_map.1 h
 exact List.mem_map.2 ⟨x,(List.mem_filter.1 hx).1,rfl⟩
theorem of_len {P:PatchM} (ok:POk P) (b:Int):((P.of b).length:Int)<=P.last:=by
 have h1:(P.of b).length<=P.l.length:=by unfold PatchM.of;rw [List.length_map];exact List.length_filter_le _ _
 have:=ok.lenl;omega
theorem fstep_len (P:PatchM) (l:List Int) (i:Int):(P.fstep l i).length<=l.length+1:=by
 unfold PatchM.fstep
 split
 ·split<;>simp
 omega
theorem fsteps_len (P:PatchM): ∀(ids l:List Int),(ids.foldl P.fstep l).length<=l.length+ids.length
 |[],l=>by simp
 |i::ids,l=>by
  have h1:=fsteps_len P ids (P.fstep l i)
  have h2:=fstep_len P l i
  simp only [List.foldl_cons,List.length_cons];omega
theorem free_sub {P:PatchM} {b i:Int} (h:i∈P.free b):i∈P.of b:=by
 have: ∀(ids l:List Int),i∈ids.foldl P.fstep l->i∈l∨i∈ids:=fun ids=>by
  induction ids with
  |nil=>intro l h;exact .inl h
  |cons j ids ih=>
   intro l h
   rcases ih _ h with h1|h1
   ·unfold PatchM.fstep at h1
    split at h1
    ·split at h1
     ·rcases List.mem_append.1 h1 with h2|h2
      ·exact .inl h2
      rw [List.mem_singleton] at h2;exact .inr (by simp [h2])
     exact .inl h1
    exact .inl h1
   exact .inr (List.mem_cons_of_mem _ h1)
 exact (this _ [] h).resolve_left (by simp)
theorem free_len {P:PatchM} (ok:POk P) (b:Int):((P.free b).length:Int)<=P.last:=by
 have h1:=fsteps_len P (P.of b) []
 have h2:=of_len ok b
 unfold PatchM.free
 simp at h1;omega
theorem c_of1p (p T:Nat) (P:PatchM) (x b:Int) (r3 t1 t3 τ1 τ3 r0:Nat) (s:TH) (hT:10<=T) (hp:PSet s p T P) (hb1:Blk s r0 [.pointer (some ⟨p,0,none⟩)] t1 τ1) (hb3:Blk s r3 [.int .i64 b] t3 τ3) (hx:x∈P.all):TRet Tryz.prog 229 #[.int .i64 x,.pointer (some ⟨r0,0,none⟩),.pointer (some ⟨r3,0,none⟩)] s fun v s'=>v=.bool (!decide (x∈P.of b))/\Ch [] s s':=by
 obtain ⟨⟨rd,rl,md,ml,hP⟩,ok⟩:=id hp
 have hpb:=hP.blk
 have hpd:=hP.dm
 have hpl:=hP.lm
 have hpm:=hP.pm
 have hlst:=ok.lst
 refine F229_calls _ _ _  ?_
 unfold F229
 refine ld_t hb1 rfl (dPtr_i (nz_i (ld_t hpb rfl (dMap_i (ld_t hb3 rfl (dInt_i ?_))))))
 obtain ⟨a,hfxsem1⟩:=Option.isSome_iff_exists.1 (find_isSome.2 (hx))
 obtain ⟨wsem1,hvxsem1,⟨baxsem1,bcxsem1,naxsem1,ncxsem1,rfl,sbxsem1,snxsem1⟩,hidxsem1,hmemxsem1⟩:=hpm.some_ hfxsem1
 have hinxsem1:=(POk.find_mem hfxsem1).1
 refine look_s keyI um159 z163 hpl x hvxsem1 ?_
 refine dA5 ?_
 refine ⟨?_,?_⟩
 ·refine ld_t hb3 rfl (dInt_i ?_)
  rfl
 refine dInt_i ?_
 refine ret_t ?_
 refine ⟨ret_b ?_,(Ch.refl [] s)⟩
 have hd:=ok.nodup
 unfold PatchM.of
 by_cases e:a.blk=b
 ·rw [e,bne_self_eq_false,eq_comm,Bool.not_eq_false',decide_eq_true_iff]
  exact List.mem_map.2 ⟨a,List.mem_filter.2 ⟨hinxsem1,by simpa using e⟩,hidxsem1⟩
 rw [show (a.blk != b)=true by simpa using e,eq_comm,Bool.not_eq_true',decide_eq_false_iff_not]
 intro h
 obtain ⟨y,hy,hye⟩:=List.mem_map.1 h
 have h2:=List.mem_filter.1 hy
 have:y=a:=by
  have:=find_by hd h2.1
  rw [hye] at this
  exact Option.some.inj (this.symm.trans hfxsem1)
 subst this
 exact e (by simpa using h2.2)
theorem of_filter {P:PatchM} (ok:POk P) (b:Int):P.all.filter (fun y=> !!decide (y∈P.of b))=P.of b:=by
 refine srt_ext (srt_filter ok.asrt _) ?_ fun x=>?_
 ·unfold PatchM.of
  exact List.pairwise_map.2 (ok.srt.sublist List.filter_sublist)
 rw [List.mem_filter];simp;exact of_sub
theorem c_pof (p T:Nat) (P:PatchM) (τ:Nat) (b:Int) (s:TH) (hT:10<=T) (hp:PSet s p T P):TRet Tryz.prog 146 #[.pointer (some ⟨p,0,none⟩),.int .i64 b] s fun v s'=>∃a c',v=.slice a (P.of b).length c'/\Ch [] s s'/\Own s' a (P.of b).length c' 3 1 (ivs (P.of b)) τ:=by
 obtain ⟨⟨rd,rl,md,ml,hP⟩,ok⟩:=id hp
 have hpb:=hP.blk
 have hpd:=hP.dm
 have hpl:=hP.lm
 have hpm:=hP.pm
 have hlst:=ok.lst
 obtain ⟨M,hM,hM0,hMa,hMb,hMc,hMd,hMe,hMf⟩:=fresh6 s (T+10) τ 0 0 0 0
 refine F146_calls _ _  ?_
 unfold F146
 refine al_t (M+1) fun r1 s2 I u k J=>?_
 refine al_t (M+2) fun r3 s4 K w e L=>?_
 have l:=u.ch e (by simp)
 refine ld_t l rfl (dPtr_i ?_)
 have m:=hp.mv (k.app e) (rngn (by simp))
 refine tcall (c_own _ _ _ _ (by omega) m) ?_
 rintro B N ⟨rfl,c⟩
 have C:=c.size
 refine dBl_i (sB_f (by rfl) ?_)
 have f:=l.ch c (by simp)
 refine ld_t f rfl (dPtr_i ?_)
 have g:=m.mv c (rngn (by simp))
 refine tcall (c_pall _ _ _ (M+3) _ (by omega) g) ?_
 rintro D E ⟨z,A,rfl,d,h⟩
 have F:=d.size
 refine dSl_i ?_
 have hll:=ok.lenl
 have n:=f.ch d (by simp)
 have hr1f:=n
 have o:=w.ch (c.app d) (by simp)
 have hr3f:=o
 have q:=g.mv d (rngn (by simp))
 have hPf:=q
 refine tcall (c_dfInt _ (fun y=> !decide (y∈P.of b)) h (by omega) (by kernel_rfl) (fun s1 x hx hc=>c_of1p p T P x b r3 _ _ _ _ r1 s1 hT (hPf.mv hc (rngn (by simp<;>omega))) (hr1f.ch hc (by simp)) (hr3f.ch hc (by simp)) hx)) ?_
 rintro G r ⟨rfl,i,j⟩
 have H:=i.size
 refine dSl_i ?_
 have t:=(((k.app e).app c).app d)
 have ho:=j
 rw [of_filter ok] at ho ⊢
 exact ret_t' (s':=remark r (M+3) τ) rfl ⟨_,_,rfl,remark_ch (((Ch.refl [] s).ch t (by simp)).fr i hM (by simp)) hM (by omega),ho.remark⟩
theorem c_pover (p T:Nat) (P:PatchM) (τ:Nat) {da:Option Addr} (dc:Nat) {d:List UInt8} {τd:Nat} {xa:Option Addr} {xn:Nat} (xc:Nat) {ids:List Int} {τx:Nat} (s:TH) (hT:10<=T) (hp:PSet s p T P) (hd:Sl s da (bvs d) τd) (hdn:d.length=128) (hx:Sl s xa (ivs ids) τx) (hn:ids.length=xn) (hb:xn<=17592186044000) (hall: ∀i∈ids,i∈P.all):TRet Tryz.prog 209 #[.pointer (some ⟨p,0,none⟩),.slice da 128 dc,.slice xa xn xc] s fun v s'=>∃a c',v=.slice a 128 c'/\Ch [] s s'/\Own s' a 128 c' 5 1 (bvs (P.over d ids)) τ:=by
 obtain ⟨⟨rd,rl,md,ml,hP⟩,ok⟩:=id hp
 have hpb:=hP.blk
 have hpd:=hP.dm
 have hpl:=hP.lm
 have hpm:=hP.pm
 have hlst:=ok.lst
 obtain ⟨M,hM,hM0,hMa,hMb,hMc,hMd,hMe,hMf⟩:=fresh6 s (T+10) τd τx τ 0 0
 refine F209_calls _ _ _ _ _ _ _  ?_
 unfold F209
 refine tcall (c_cloneB (M+1) _ hd (by omega) (by omega)) ?_
 rintro ah j ⟨l,m,rfl,c,n⟩
 have ai:=c.size
 refine dSl_i ?_
 refine ⟨fun vs H'=>∃s':TH,s'.h=H'/\∃i,vs=[.int .i64 i]/\Ch [M+1,M+9] j s'/\(∃k:Nat,i=k/\k<=xn/\Own s' l 128 m 5 1 (bvs (P.over d (ids.take k))) (M+1)),fun vs H'=>match vs with|[.int .i64 i]=>((xn:Int) - i).toNat|_=>0,⟨j,rfl,_,rfl,Ch.refl _ _,?_⟩,?_⟩
 ·exact ⟨0,rfl,by omega,n⟩
 intro i
 iterate 19 intro _
 intro H_ hI_7
 obtain ⟨X,rfl,i_,hvs,b,k,rfl,hk,ho⟩:=hI_7
 cases hvs
 have aj:=b.size
 refine sB_d (fun L=>?_) (fun L=>?_)
 ·have o:=hx.mv (c.app b) (tagn (by simp<;>omega))
  obtain ⟨Y,rfl⟩:=o.ne_none (by simp [bvs_len,ivs_len];omega)
  refine nz_i (ask_t (by omega) ?_)
  refine ld_iv o (by omega) (by omega) fun N e=>?_
  rw [Int.toNat_natCast] at e
  refine dInt_i (nz_i ?_)
  have O:=hpb.ch (c.app b) (by simp<;>omega)
  refine ld_t O rfl (dMap_i ?_)
  have hm1:=hall _ (List.mem_of_getElem? e)
  obtain ⟨g,hfxsem1⟩:=Option.isSome_iff_exists.1 (find_isSome.2 (hm1))
  have Q:=hpm.mv (c.app b) (tagn (by simp<;>omega))
  obtain ⟨wsem1,hvxsem1,⟨baxsem1,bcxsem1,naxsem1,ncxsem1,rfl,sbxsem1,snxsem1⟩,hidxsem1,hmemxsem1⟩:=Q.some_ hfxsem1
  have hinxsem1:=(POk.find_mem hfxsem1).1
  have R:=hpl.ch (c.app b) (by simp<;>omega)
  refine look_s keyI um159 z163 R N hvxsem1 ?_
  refine dA5 ?_
  refine al_t (M+9) fun ak al Z q r aa=>?_
  refine st_t q rfl (by simp) fun am t G ab=>?_
  have u:=on_ch q G
  refine st_t t rfl (by simp) fun an w H ac=>?_
  have x:=on_ch t H
  refine st_t w rfl (by simp) fun ao y I ad=>?_
  have z:=on_ch w I
  refine st_t y rfl (by simp) fun ap A J ae=>?_
  have B:=on_ch y J
  refine st_t A rfl (by simp) fun aq C K af=>?_
  have D:=on_ch A K
  refine ld_t C rfl (dInt_i ?_)
  have E:=(((((r.app u).app x).app z).app B).app D)
  have f:=ho.mv E (tagn (by simp))
  refine ask_t (by have:=ok.fit _ hinxsem1;have:=f.le;omega) ?_
  refine ld_t C rfl ?_
  have S:=sbxsem1.mv E (tagn (by simp<;>omega))
  have sbxsem1:=S
  obtain ⟨a2,rfl⟩:=f.ne_none (by omega)
  refine dSl_i ?_
  have hft:=ok.fit _ hinxsem1
  simp only [Int.toNat_natCast]
  refine copy_sl u49 in5 f sbxsem1 rfl (by omega) (by omega) fun U V F _=>?_
  have ag:=F.size
  refine dInt_i (wr_t (by omega) ?_)
  have W:=(((((((b.app r).app u).app x).app z).app B).app D).app F)
  refine ⟨⟨U,rfl,_,rfl,((Ch.refl [M+1,M+9] j).ch W (by simp)),?_⟩,?_⟩
  ·refine ⟨k+1,by omega,by omega,?_⟩
   have ho:=V
   rw [show P.over d (ids.take (k+1))=overlay (P.over d (ids.take k)) g.off.toNat g.by_ from by unfold PatchM.over;rw [foldl_take _ _ e];unfold PatchM.step;rw [hfxsem1]]
   exact ho
  simp<;>omega
 have ho:=ho
 rw [List.take_of_length_le (by omega)] at ho
 exact ret_t' (s':=remark X (M+1) τ) rfl ⟨_,_,rfl,remark_ch (((Ch.refl [] s).ch c (by simp)).fr b hM (by simp)) hM (by omega),ho.remark⟩
theorem c_pnow (p T:Nat) (P:PatchM) (τ:Nat) (b:Int) {da:Option Addr} (dc:Nat) {d:List UInt8} {τd:Nat} (s:TH) (hT:10<=T) (hp:PSet s p T P) (hd:Sl s da (bvs d) τd) (hdn:d.length=128):TRet Tryz.prog 114 #[.pointer (some ⟨p,0,none⟩),.int .i64 b,.slice da 128 dc] s fun v s'=>∃a c',v=.tuple #[.slice a 128 c',.int .i64 0]/\Ch [] s s'/\Own s' a 128 c' 5 1 (bvs (P.over d (P.of b))) τ:=by
 obtain ⟨⟨rd,rl,md,ml,hP⟩,ok⟩:=id hp
 have hpb:=hP.blk
 have hpd:=hP.dm
 have hpl:=hP.lm
 have hpm:=hP.pm
 have hlst:=ok.lst
 obtain ⟨M,hM,hM0,hMa,hMb,hMc,hMd,hMe,hMf⟩:=fresh6 s (T+10) τd τ 0 0 0
 refine F114_calls _ _ _ _ _  ?_
 unfold F114
 refine tcall (c_own _ _ _ _ (by omega) hp) ?_
 rintro y z ⟨rfl,e⟩
 have A:=e.size
 refine dBl_i (sB_f (by rfl) (sB_f (by rfl) ?_))
 have j:=hp.mv e (rngn (by simp))
 refine tcall (c_pof _ _ _ (M+1) _ _ (by omega) j) ?_
 rintro B C ⟨n,o,rfl,c,f⟩
 have t:=c.size
 refine dSl_i ?_
 have hol:=of_len ok b
 have k:=j.mv c (rngn (by simp))
 have l:=hd.mv (e.app c) (tagn (by simp))
 refine tcall (c_pover p T P (τ:=τ) dc _ _ hT k l hdn f.sl rfl (by omega) (fun i hi=>of_sub hi)) ?_
 rintro u w ⟨q,r,rfl,g,h⟩
 have x:=g.size
 refine dSl_i ?_
 refine ret_t ?_
 have m:=((e.app c).app g)
 exact ⟨_,_,rfl,((Ch.refl [] s).ch m (by simp)),h⟩
theorem c_free1 (x:Int) {r t1 τ1:Nat} {a:Option Addr} {n:Nat} (c:Nat) {l:List Int} {τ:Nat} (s:TH) (hr:Blk s r [.slice a n c] t1 τ1) (hl:Sl s a (ivs l) τ) (hn:l.length=n) (hb:n<=140737488355328):TRet Tryz.prog 316 #[.int .i64 x,.pointer (some ⟨r,0,none⟩)] s fun v s'=>v=.bool (!decide (x∈l))/\Ch [] s s':=by
 refine F316_calls _ _  ?_
 unfold F316
 refine ld_t hr rfl (dSl_i ?_)
 refine tcall (c_ctInt _ _ hl (by omega) (by omega)) ?_
 rintro d e ⟨rfl,b⟩
 have f:=b.size
 refine dBl_i ?_
 refine ret_t ?_
 exact ⟨rfl,((Ch.refl [] s).ch b (by simp))⟩
theorem fstep_eq {P:PatchM} {i:Int} {x:PatM} (h:P.find i=some x) (l:List Int):P.fstep l i=if ((P.pend x.needs).any fun n=> !decide (n∈l))=true then l else l++[i]:=by
 unfold PatchM.fstep
 rw [h]
 simp only
 cases hb:(P.pend x.needs).any fun n=> !decide (n∈l) with
 |true=>
  rw [if_neg,if_pos rfl]
  rw [List.any_eq_true] at hb
  obtain ⟨y,hy,hy2⟩:=hb
  rw [List.all_eq_true]
  intro h2
  have:=h2 y hy
  simp at hy2 this;exact hy2 this
 |false=>
  rw [if_pos,if_neg (by simp)]
  rw [List.any_eq_false] at hb
  rw [List.all_eq_true]
  intro y hy
  have:=hb y hy
  simpa using this
theorem c_pfree (p T:Nat) (P:PatchM) (τ:Nat) (b:Int) (s:TH) (hT:10<=T) (hp:PSet s p T P):TRet Tryz.prog 284 #[.pointer (some ⟨p,0,none⟩),.int .i64 b] s fun v s'=>∃a c',v=.slice a (P.free b).length c'/\Ch [] s s'/\Own s' a (P.free b).length c' 3 1 (ivs (P.free b)) τ:=by
 obtain ⟨⟨rd,rl,md,ml,hP⟩,ok⟩:=id hp
 have hpb:=hP.blk
 have hpd:=hP.dm
 have hpl:=hP.lm
 have hpm:=hP.pm
 have hlst:=ok.lst
 obtain ⟨M,hM,hM0,hMa,hMb,hMc,hMd,hMe,hMf⟩:=fresh6 s (T+10) τ 0 0 0 0
 refine F284_calls _ _  ?_
 unfold F284
 refine al_t (M+1) fun r1 s2 aA af w aB=>?_
 have G:=hp.mv w (rngn (by simp))
 refine tcall (c_pof _ _ _ (M+3) _ _ (by omega) G) ?_
 rintro aC u ⟨ag,ah,rfl,m,x⟩
 have aD:=m.size
 have hol:=of_len ok b
 refine dSl_i ?_
 refine ⟨fun vs H'=>∃s':TH,s'.h=H'/\∃i,vs=[.int .i64 i]/\Ch [M+1,M+2,M+9] u s'/\(∃(k:Nat) (a:Option Addr) (n c:Nat) (l:List Int),i=k/\k<=(P.of b).length/\n<=k/\l=((P.of b).take k).foldl P.fstep []/\Blk s' r1 [.slice a n c] 33 (M+1)/\Own s' a n c 3 1 (ivs l) (M+2)),fun vs H'=>match vs with|[.int .i64 i]=>(((P.of b).length:Int) - i).toNat|_=>0,⟨u,rfl,_,rfl,Ch.refl _ _,?_⟩,?_⟩
 ·have H:=af.ch m (by simp)
  exact ⟨0,_,_,_,[],rfl,by omega,by omega,rfl,H,by simpa [ivs] using Own.nil _ _ _ _⟩
 intro i
 iterate 25 intro _
 intro H_ hI_12
 obtain ⟨I,rfl,i_,hvs,d,k,a,n,c,l,rfl,hk,hnk,hl,hb,ho⟩:=hI_12
 cases hvs
 have ak:=d.size
 have hln:l.length=n:=by have:=ho.1;rw [ivs_len] at this;omega
 refine sB_d (fun J=>?_) (fun J=>?_)
 ·refine jn_u ?_
  have z:=x.mv d (tagn (by simp))
  obtain ⟨al,rfl⟩:=z.ne_none (by omega)
  refine nz_i (ask_t (by omega) ?_)
  refine ld_iv z.sl (by omega) (by omega) fun K j=>?_
  rw [Int.toNat_natCast] at j
  refine dInt_i (nz_i ?_)
  have o:=((w.app m).app d)
  have L:=hpb.ch o (by simp<;>omega)
  refine ld_t L rfl (dMap_i ?_)
  obtain ⟨E,hfxsem1⟩:=Option.isSome_iff_exists.1 (find_isSome.2 (of_sub (List.mem_of_getElem? j)))
  have N:=hpm.mv o (tagn (by simp<;>omega))
  obtain ⟨wsem1,hvxsem1,⟨baxsem1,bcxsem1,naxsem1,ncxsem1,rfl,sbxsem1,snxsem1⟩,hidxsem1,hmemxsem1⟩:=N.some_ hfxsem1
  have hinxsem1:=(POk.find_mem hfxsem1).1
  have O:=hpl.ch o (by simp<;>omega)
  refine look_s keyI um159 z163 O K hvxsem1 ?_
  refine dA5 ?_
  have snxsem1:=snxsem1
  refine dSl_i ?_
  have hnl:=ok.lenn hinxsem1
  have Q:=G.mv (m.app d) (rngn (by simp<;>omega))
  refine tcall (c_pending p T P (τ:=(M+9)) _ _ hT Q snxsem1 rfl (by omega)) ?_
  rintro am an ⟨ai,aj,rfl,g,A⟩
  have ao:=g.size
  refine dSl_i ?_
  have hpl2:=pend_len ok E.needs
  have R:=hb.ch g (by simp)
  have hrf:=R
  have S:=ho.mv g (tagn (by simp))
  have hof:=S
  refine tcall (c_ctIntF _ (fun y=> !decide (y∈l)) A.sl rfl (by omega) (by kernel_rfl) (fun s1 y hy hc=>c_free1 y _ s1 (hrf.ch hc (by simp)) (hof.sl.mv hc (tagn (by simp))) hln (by omega))) ?_
  rintro ap U ⟨rfl,f⟩
  have aq:=f.size
  refine dBl_i ?_
  refine sB_n (fun q=>?_) (fun q=>?_)
  ·have B:=hrf.ch f (by simp)
   refine ld_t B rfl (dSl_i ?_)
   refine al_t (M+9) fun aE aF ar V r au=>?_
   have W:=hof.mv (f.app r) (tagn (by simp))
   refine app_i1 u33 in3 W V (by omega) fun av aw ax X t=>?_
   have ay:=t.size
   refine dSl_i ?_
   have C:=B.ch (r.app t) (by simp)
   refine st_t C rfl (by simp) fun Y Z F az=>?_
   have D:=on_ch C F
   intro _
   intros
   refine wr_t (by omega) ?_
   have aa:=(((((d.app g).app f).app r).app t).app D)
   refine ⟨⟨Y,rfl,_,rfl,((Ch.refl [M+1,M+2,M+9] u).ch aa (by simp)),?_⟩,?_⟩
   ·have ab:=X.mv D (tagn (by simp))
    refine ⟨k+1,_,_,_,_,by omega,by omega,by omega,?_,Z,ab⟩
    rw [foldl_take _ _ j, ←hl,fstep_eq hfxsem1,if_neg (by simpa using q)]
   simp only [];omega
  intro _
  intros
  refine wr_t (by omega) ?_
  have ac:=((d.app g).app f)
  refine ⟨⟨U,rfl,_,rfl,((Ch.refl [M+1,M+2,M+9] u).ch ac (by simp)),?_⟩,?_⟩
  ·have ad:=hrf.ch f (by simp)
   have ae:=hof.mv f (tagn (by simp))
   refine ⟨k+1,_,_,_,l,by omega,by omega,by omega,?_,ad,ae⟩
   rw [foldl_take _ _ j, ←hl,fstep_eq hfxsem1,if_pos (by simpa using q)]
  simp only [];omega
 refine ld_t hb rfl (dSl_i ?_)
 have hkn:(P.of b).take k=P.of b:=List.take_of_length_le (by omega)
 rw [hkn] at hl
 have ho:=ho
 have e:l=P.free b:=hl
 subst hl
 obtain rfl:n=(P.free b).length:=hln.symm
 exact ret_t' (s':=remark I (M+2) τ) rfl ⟨_,_,rfl,remark_ch ((((Ch.refl [] s).ch w (by simp)).ch m (by simp)).fr d hM (by simp)) hM (by omega),ho.remark⟩
theorem c_plan (p T:Nat) (P:PatchM) (τ:Nat) (b:Int) {da:Option Addr} (dc:Nat) {d:List UInt8} {τd:Nat} (s:TH) (hT:10<=T) (hp:PSet s p T P) (hd:Sl s da (bvs d) τd) (hdn:d.length=128):TRet Tryz.prog 226 #[.pointer (some ⟨p,0,none⟩),.int .i64 b,.slice da 128 dc] s fun v s'=>Ch [] s s'/\((v=.tuple #[.slice none 0 0,.slice none 0 0,.int .i64 71]/\P.free b=[])∨(∃a c a2 c2,v=.tuple #[.slice a 128 c,.slice a2 (P.free b).length c2,.int .i64 0]/\P.free b≠[]/\Own s' a 128 c 5 1 (bvs (P.over d (P.free b))) τ/\Own s' a2 (P.free b).length c2 3 1 (ivs (P.free b)) τ)):=by
 obtain ⟨⟨rd,rl,md,ml,hP⟩,ok⟩:=id hp
 have hpb:=hP.blk
 have hpd:=hP.dm
 have hpl:=hP.lm
 have hpm:=hP.pm
 have hlst:=ok.lst
 obtain ⟨M,hM,hM0,hMa,hMb,hMc,hMd,hMe,hMf⟩:=fresh6 s (T+10) τd τ 0 0 0
 refine F226_calls _ _ _ _ _  ?_
 unfold F226
 refine tcall (c_own _ _ _ _ (by omega) hp) ?_
 rintro C D ⟨rfl,h⟩
 have E:=h.size
 refine dBl_i (sB_f (by rfl) (sB_f (by rfl) ?_))
 have m:=hp.mv h (rngn (by simp))
 refine tcall (c_pfree _ _ _ (M+1) _ _ (by omega) m) ?_
 rintro F G ⟨u,w,rfl,f,j⟩
 have z:=f.size
 have hfl:=free_len ok b
 refine dSl_i ?_
 refine sB_d (fun g=>?_) (fun g=>?_)
 ·refine ret_t ?_
  exact ⟨(((Ch.refl [] s).ch h (by simp)).ch f (by simp)),.inl ⟨rfl,List.eq_nil_of_length_eq_zero (by simpa using g)⟩⟩
 have n:=m.mv f (rngn (by simp))
 have o:=hd.mv (h.app f) (tagn (by simp))
 refine tcall (c_pover p T P (τ:=(M+1)) dc _ _ hT n o hdn j.sl rfl (by omega) (fun i hi=>of_sub (free_sub hi))) ?_
 rintro A q ⟨x,y,rfl,k,l⟩
 have B:=k.size
 refine dSl_i ?_
 have r:=j.mv k (tagn (by simp))
 have t:=((h.app f).app k)
 have h1:=r
 have h2:=l
 exact ret_t' (s':=remark q (M+1) τ) rfl ⟨remark_ch ((Ch.refl [] s).ch t (by simp)) hM (by omega),.inr ⟨_,_,_,_,rfl,fun e=>by rw [e] at g;simp at g,h2.remark,h1.remark⟩⟩
def PatchM.knows (P:PatchM) (i:Int):Bool:=decide (1<=i/\i<=P.last)
def PatchM.closed (P:PatchM) (l:List Int) (i:Int):Bool:=match P.find i with
 |some x=>(P.pend x.needs).all fun n=>decide (n∈l)
 |none=>true
def PatchM.fin (P:PatchM) (l:List Int):PatchM:={ P with l:=P.l.filter (fun x=> !decide (x.id∈l)),done:=P.done++l }
def PatchM.doneP (P:PatchM) (ids:List Int):PatchM×Int:=
 if (ids.any fun i=> !P.knows i)=true then (P,70)
 else if ((P.pend ids).all (P.closed (P.pend ids)))=true then (P.fin (P.pend ids),0) else (P,3)
theorem pend_sub {P:PatchM} {ids:List Int} {i:Int} (h:i∈P.pend ids):i∈P.all/\i∈ids:=by
 have:=List.mem_filter.1 h;exact ⟨this.1,by simpa using this.2⟩
theorem POk.fin {P:PatchM} (ok:POk P) (l:List Int) (hl: ∀i∈l,i∈P.all):POk (P.fin l) where
 srt:=ok.srt.sublist List.filter_sublist
 rng x hx:=ok.rng x (List.mem_filter.1 hx).1
 fit x hx:=ok.fit x (List.mem_filter.1 hx).1
 nds x hx:=ok.nds x (List.mem_filter.1 hx).1
 nsr x hx:=ok.nsr x (List.mem_filter.1 hx).1
 dn i hi:=by
  rcases List.mem_append.1 hi with h|h
  ·exact ok.dn i h
  obtain ⟨x,hx,rfl⟩:=List.mem_map.1 (hl i h);exact ok.rng x hx
 all i h1 h2:=by
  rcases ok.all i h1 h2 with h|h
  ·exact .inl (List.mem_append_left _ h)
  by_cases hi:i∈l
  ·exact .inl (List.mem_append_right _ hi)
  obtain ⟨x,hx,rfl⟩:=List.mem_map.1 h
  exact .inr (List.mem_map.2 ⟨x,List.mem_filter.2 ⟨hx,by simpa using hi⟩,rfl⟩)
 dis i hi h:=by
  obtain ⟨x,hx,rfl⟩:=List.mem_map.1 h
  have hx:=List.mem_filter.1 hx
  rcases List.mem_append.1 hi with h|h
  ·exact ok.dis _ h (List.mem_map.2 ⟨x,hx.1,rfl⟩)
  simp at hx;exact hx.2 h
 lst:=ok.lst
theorem nodup_take {l:List Int} (h:l.Pairwise (· < ·)) {k:Nat} {x:Int} (hx:l[k]? =some x):x∉l.take k:=fun hm=>by
 obtain ⟨i,hi,e⟩:=List.getElem_of_mem hm
 rw [List.length_take] at hi
 obtain ⟨hk,e2⟩:=List.getElem?_eq_some_iff.1 hx
 have:=List.pairwise_iff_getElem.1 h i k (by omega) hk (by omega)
 rw [List.getElem_take] at e
 omega
theorem filt_take {l:List PatM} {ids:List Int} {k:Nat} {i:Int} (h:ids[k]? =some i):((l.filter fun x=> !decide (x.id∈ids.take k)).filter fun x=> !(x.id==i))=l.filter fun x=> !decide (x.id∈ids.take (k+1)):=by
 rw [List.filter_filter,take_get h]
 apply List.filter_congr
 intro x _
 simp only [List.mem_append,List.mem_singleton]
 by_cases h1:x.id=i<;>by_cases h2:x.id∈ids.take k<;>simp [h1,h2]
theorem c_done1 (p T:Nat) (P:PatchM) (x:Int) {r0 t1 τ1:Nat} (s:TH) (hT:10<=T) (hp:PSet s p T P) (hb1:Blk s r0 [.pointer (some ⟨p,0,none⟩)] t1 τ1):TRet Tryz.prog 313 #[.int .i64 x,.pointer (some ⟨r0,0,none⟩)] s fun v s'=>v=.bool (!P.knows x)/\Ch [] s s':=by
 refine F313_calls _ _  ?_
 unfold F313
 refine ld_t hb1 rfl (dPtr_i ?_)
 refine tcall (c_known _ _ _ _ _ (by omega) hp) ?_
 rintro b c ⟨rfl,a⟩
 have d:=a.size
 refine dBl_i ?_
 refine ret_t ?_
 exact ⟨rfl,((Ch.refl [] s).ch a (by simp))⟩
theorem c_pdone (p T:Nat) (P:PatchM) {xa:Option Addr} {xn:Nat} (xc:Nat) {ids:List Int} {τx:Nat} (s:TH) (hT:10<=T) (hp:PSet s p T P) (hx:Sl s xa (ivs ids) τx) (hn:ids.length=xn) (hb:xn<=17592186044000) (hτx:τx<T∨T+10<=τx):TRet Tryz.prog 277 #[.pointer (some ⟨p,0,none⟩),.slice xa xn xc] s fun v s'=>v=.int .i64 (P.doneP ids).2/\Ch [T+1,T+2] s s'/\PSet s' p T (P.doneP ids).1:=by
 obtain ⟨⟨rd,rl,md,ml,hP⟩,ok⟩:=id hp
 have hpb:=hP.blk
 have hpd:=hP.dm
 have hpl:=hP.lm
 have hpm:=hP.pm
 have hlst:=ok.lst
 obtain ⟨M,hM,hM0,hMa,hMb,hMc,hMd,hMe,hMf⟩:=fresh6 s (T+10) τx 0 0 0 0
 refine F277_calls _ _ _ _  ?_
 unfold F277
 refine al_t (M+1) fun r1 s2 bf aj r bg=>?_
 refine ld_t aj rfl (dPtr_i ?_)
 have ak:=hp.mv r (rngn (by simp))
 refine tcall (c_own _ _ _ _ (by omega) ak) ?_
 rintro bh bi ⟨rfl,m⟩
 have bj:=m.size
 refine dBl_i (sB_f (by rfl) ?_)
 have al:=ak.mv m (rngn (by simp))
 have hPf:=al
 have am:=aj.ch m (by simp)
 have hrf:=am
 have V:=hx.mv (r.app m) (tagn (by simp))
 refine tcall (c_ctIntF _ (fun y=> !P.knows y) V hn (by omega) (by kernel_rfl) (fun s1 y hy hc=>c_done1 p T P y s1 hT (hPf.mv hc (rngn (by simp))) (hrf.ch hc (by simp)))) ?_
 rintro aX aY ⟨rfl,f⟩
 have aZ:=f.size
 refine dBl_i ?_
 refine sB_i (fun C=>?_) (fun C=>?_)
 ·refine ret_t ?_
  have an:=((r.app m).app f)
  have ao:=hPf.mv f (rngn (by simp))
  rw [show P.doneP ids=(P,70) from by unfold PatchM.doneP;rw [if_pos C]]
  exact ⟨rfl,((Ch.refl [T+1,T+2] s).ch an (by simp)),ao⟩
 have I:=hrf.ch f (by simp)
 refine ld_t I rfl (dPtr_i ?_)
 have W:=hPf.mv f (rngn (by simp))
 have ap:=V.mv f (tagn (by simp))
 refine tcall (c_pending _ _ _ (M+2) _ _ (by omega) W ap (by omega) (by omega)) ?_
 rintro a0 J ⟨aT,aU,rfl,g,H⟩
 have a1:=g.size
 have hpl2:=pend_len ok ids
 refine dSl_i ?_
 refine ⟨fun vs H'=>∃s':TH,s'.h=H'/\∃i,vs=[.int .i64 i]/\Ch [M+9] J s'/\(∃k:Nat,i=k/\k<=(P.pend ids).length/\∀j y,j<k->(P.pend ids)[j]? =some y->P.closed (P.pend ids) y=true),fun vs H'=>match vs with|[.int .i64 i]=>(((P.pend ids).length:Int) - i).toNat|_=>0,⟨J,rfl,_,rfl,Ch.refl _ _,?_⟩,?_⟩
 ·exact ⟨0,rfl,by omega,fun j y h=>by omega⟩
 intro i
 iterate 26 intro _
 intro H_ hI_29
 obtain ⟨K,rfl,i_,hvs,d,k,rfl,hk,hall⟩:=hI_29
 cases hvs
 have a2:=d.size
 refine sB_d (fun aq=>?_) (fun aq=>?_)
 ·have L:=H.mv d (tagn (by simp))
  obtain ⟨a3,rfl⟩:=L.ne_none (by omega)
  refine nz_i (ask_t (by omega) ?_)
  refine ld_iv L.sl (by omega) (by omega) fun ar D=>?_
  rw [Int.toNat_natCast] at D
  refine dInt_i ?_
  have N:=I.ch (g.app d) (by simp)
  refine ld_t N rfl (dPtr_i (ld_t N rfl (dPtr_i (nz_i ?_))))
  have O:=((((r.app m).app f).app g).app d)
  have au:=hpb.ch O (by simp<;>omega)
  refine ld_t au rfl (dMap_i ?_)
  obtain ⟨o,hfxsem1⟩:=Option.isSome_iff_exists.1 (find_isSome.2 ((pend_sub (List.mem_of_getElem? D)).1))
  have av:=hpm.mv O (tagn (by simp<;>omega))
  obtain ⟨wsem1,hvxsem1,⟨baxsem1,bcxsem1,naxsem1,ncxsem1,rfl,sbxsem1,snxsem1⟩,hidxsem1,hmemxsem1⟩:=av.some_ hfxsem1
  have hinxsem1:=(POk.find_mem hfxsem1).1
  have aw:=hpl.ch O (by simp<;>omega)
  refine look_s keyI um159 z163 aw ar hvxsem1 ?_
  refine dA5 ?_
  refine ⟨?_,?_⟩
  ·refine ld_t N rfl (dPtr_i ?_)
   rfl
  have snxsem1:=snxsem1
  have hnl:=ok.lenn hinxsem1
  refine dSl_i ?_
  have X:=W.mv (g.app d) (rngn (by simp<;>omega))
  refine tcall (c_pending p T P (τ:=(M+9)) _ _ hT X snxsem1 rfl (by omega)) ?_
  rintro a4 Q ⟨aV,aW,rfl,E,Y⟩
  have a5:=E.size
  have hpl3:=pend_len ok o.needs
  refine dSl_i ?_
  refine ⟨fun vs H'=>∃s':TH,s'.h=H'/\∃j,vs=[.int .i64 j]/\Ch [] Q s'/\(∃q:Nat,j=q/\q<=(P.pend o.needs).length/\∀u y,u<q->(P.pend o.needs)[u]? =some y->y∈P.pend ids),fun vs H'=>match vs with|[.int .i64 j]=>(((P.pend o.needs).length:Int) - j).toNat|_=>0,⟨Q,rfl,_,rfl,Ch.refl _ _,?_⟩,?_⟩
  ·exact ⟨0,rfl,by omega,fun j y h=>by omega⟩
  intro j
  iterate 10 intro _
  intro H_ hI_46
  obtain ⟨ax,rfl,j_,hvs,n,q,rfl,hq,hall2⟩:=hI_46
  cases hvs
  have a6:=n.size
  refine sB_d (fun ay=>?_) (fun ay=>?_)
  ·have Z:=Y.mv n (tagn (by simp))
   obtain ⟨a7,rfl⟩:=Z.ne_none (by omega)
   refine nz_i (ask_t (by omega) ?_)
   refine ld_iv Z.sl (by omega) (by omega) fun a8 R=>?_
   rw [Int.toNat_natCast] at R
   refine dInt_i ?_
   have az:=L.mv (E.app n) (tagn (by simp))
   refine tcall (c_ctInt _ _ az.sl rfl (by omega)) ?_
   rintro a9 aA ⟨rfl,S⟩
   have ba:=S.size
   refine dBl_i ?_
   refine sB_nd (fun U=>?_) (fun U=>?_)
   ·refine ret_t ?_
    have aB:=(((r.app m).app f).app g)
    have aa:=((E.app n).app S)
    have aC:=X.mv aa (rngn (by simp))
    rw [show P.doneP ids=(P,3) from by
     unfold PatchM.doneP
     rw [if_neg (by rw [C];simp),if_neg]
     intro h2
     have h3:=List.all_eq_true.1 h2 _ (List.mem_of_getElem? D)
     unfold PatchM.closed at h3
     rw [hfxsem1] at h3
     have h4:=List.all_eq_true.1 h3 _ (List.mem_of_getElem? R)
     exact U (of_decide_eq_true h4)]
    exact ⟨rfl,((((Ch.refl [T+1,T+2] s).ch aB (by simp)).fr d hM (by simp)).ch aa (by simp)),aC⟩
   refine wr_t (by omega) ?_
   refine ⟨⟨aA,rfl,_,rfl,(((Ch.refl [] Q).ch n (by simp)).ch S (by simp)),?_⟩,?_⟩
   ·refine ⟨q+1,by omega,by omega,fun u y hu hy=>?_⟩
    by_cases e:u=q
    ·subst e;rw [R] at hy;cases hy;exact U
    exact hall2 u y (by omega) hy
   simp only [];omega
  refine wr_t (by omega) ?_
  have aD:=((d.app E).app n)
  refine ⟨⟨ax,rfl,_,rfl,((Ch.refl [M+9] J).ch aD (by simp)),?_⟩,?_⟩
  ·refine ⟨k+1,by omega,by omega,fun u y hu hy=>?_⟩
   by_cases e:u=k
   ·subst e;rw [D] at hy;cases hy
    unfold PatchM.closed;rw [hfxsem1]
    refine List.all_eq_true.2 fun z hz=>?_
    obtain ⟨u,hu,rfl⟩:=List.getElem_of_mem hz
    exact decide_eq_true (hall2 u _ (by omega) (List.getElem?_eq_getElem hu))
   exact hall u y (by omega) hy
  simp only [];omega
 refine ⟨fun vs H'=>∃s':TH,s'.h=H'/\∃i3,vs=[.int .i64 i3]/\Ch [T+1,T+2] K s'/\(∃(k:Nat) (m1' m2':List (Int×Value)),i3=k/\k<=(P.pend ids).length/\PSetP s' p T (P.fin ((P.pend ids).take k)) rd rl m1' m2'),fun vs H'=>match vs with|[.int .i64 i3]=>(((P.pend ids).length:Int) - i3).toNat|_=>0,⟨K,rfl,_,rfl,Ch.refl _ _,?_⟩,?_⟩
 ·have F:=((((r.app m).app f).app g).app d)
  have aE:=hpb.ch F (by simp<;>omega)
  have aF:=hpd.ch F (by simp<;>omega)
  have aG:=hpl.ch F (by simp<;>omega)
  have aH:=hpm.mv F (tagn (by simp<;>omega))
  refine ⟨0,md,ml,rfl,by omega,?_⟩
  have e:P.fin ((P.pend ids).take 0)=P:=by
   obtain ⟨a,b,c⟩:=P
   unfold PatchM.fin
   simp only [List.take_zero,List.append_nil,List.not_mem_nil,decide_false,Bool.not_false]
   congr 1
   exact List.filter_eq_self.2 fun _ _=>rfl
  rw [e]
  exact ⟨aE,aF,aG,aH,hP.dk,hP.dv⟩
 intro i3
 iterate 16 intro _
 intro H_ hI_67
 obtain ⟨aI,rfl,i3_,hvs,t,k3,m1',m2',rfl,hk3,hP3⟩:=hI_67
 cases hvs
 have bb:=t.size
 have hb3:=hP3.blk
 have hd3:=hP3.dm
 have hl3:=hP3.lm
 have hm3:=hP3.pm
 refine sB_d (fun aJ=>?_) (fun aJ=>?_)
 ·have ab:=H.mv (d.app t) (tagn (by simp<;>omega))
  obtain ⟨bc,rfl⟩:=ab.ne_none (by omega)
  refine nz_i (ask_t (by omega) ?_)
  refine ld_iv ab.sl (by omega) (by omega) fun w A=>?_
  rw [Int.toNat_natCast] at A
  refine dInt_i ?_
  have aK:=((g.app d).app t)
  have ac:=I.ch aK (by simp<;>omega)
  refine ld_t ac rfl (dPtr_i (nz_i (ld_t hb3 rfl (dMap_i ?_))))
  refine del_t keyI um159 hl3 w fun ad aL ah bd=>?_
  have B:Ch [T+2] aI ad:=Chg.mono ah fun j _ e=>by subst e;rw [hl3.tag];simp
  have aM:=ac.ch B (by simp<;>omega)
  refine ld_t aM rfl (dPtr_i (nz_i ?_))
  have ae:=hb3.ch B (by simp)
  refine ld_t ae rfl (dMap_i ?_)
  have af:=hd3.ch B (by simp)
  refine upd_t keyI um158 af w (Value.agg #[]) fun ag aN ai be=>?_
  have G:Ch [T+1] ad ag:=Chg.mono ai fun j _ e=>by subst e;rw [af.tag];simp
  refine wr_t (by omega) ?_
  have aO:=((t.app B).app G)
  refine ⟨⟨ag,rfl,_,rfl,((Ch.refl [T+1,T+2] K).ch aO (by simp)),?_⟩,?_⟩
  ·have aP:=ae.ch G (by simp)
   have aQ:=aL.ch G (by simp)
   have aR:=hm3.mv (B.app G) (tagn (by simp))
   have hnd:=srt_filter ok.asrt (fun i=>decide (i∈ids))
   have hin3:=pend_sub (List.mem_of_getElem? A)
   have hnk:w∉m1'.map (·.1):=by
    rw [hP3.dk]
    intro h
    rcases List.mem_append.1 h with h|h
    ·exact ok.dis _ h hin3.1
    exact nodup_take hnd A h
   refine ⟨k3+1,_,_,by omega,by omega,⟨aP,aN,aQ,?_,?_,?_⟩⟩
   ·have h:=PMap.del (i:=w) aR (ok.fin _ (fun i hi=>(pend_sub (List.mem_of_mem_take hi)).1)).nodup
    rw [show (P.fin ((P.pend ids).take (k3+1))).l=(P.fin ((P.pend ids).take k3)).l.filter fun x=> !(x.id==w) from (filt_take A).symm]
    exact h
   ·rw [mset_new hnk,List.map_append,hP3.dk]
    show (P.done++_)++_=P.done++_
    rw [take_get A,List.append_assoc];rfl
   rw [mset_new hnk]
   intro e he
   rcases List.mem_append.1 he with he|he
   ·exact hP3.dv e he
   rw [List.mem_singleton] at he;rw [he]
  simp only [];omega
 refine ret_t ?_
 have aS:=(((r.app m).app f).app g)
 have hk3e:(P.pend ids).take k3=P.pend ids:=List.take_of_length_le (by omega)
 rw [hk3e] at hP3
 rw [show P.doneP ids=(P.fin (P.pend ids),0) from by
  unfold PatchM.doneP
  rw [if_neg (by rw [C];simp),if_pos]
  refine List.all_eq_true.2 fun y hy=>?_
  obtain ⟨u,hu,rfl⟩:=List.getElem_of_mem hy
  exact hall u _ (by omega) (List.getElem?_eq_getElem hu)]
 exact ⟨rfl,((((Ch.refl [T+1,T+2] s).ch aS (by simp)).fr d hM (by simp)).ch t (by simp)),⟨⟨_,_,_,_,hP3⟩,ok.fin _ fun i hi=>(pend_sub hi).1⟩⟩
def gone (vis:List Int) (i:Int) (x:PatM):Bool:= !(decide (x.id∈vis)&&decide (x.id>i))
def PatchM.blocks (P:PatchM):List Int:=cpt ((P.l.map (·.blk)).mergeSort fun x y=>decide (x<=y))
theorem cpt_ext {a b:List Int} (h: ∀x,x∈a↔x∈b):cpt (a.mergeSort fun x y=>decide (x<=y))=cpt (b.mergeSort fun x y=>decide (x<=y)):=
 srt_ext (cpt_srt (srtd a)) (cpt_srt (srtd b)) fun x=>by rw [cpt_mem,cpt_mem,List.mem_mergeSort,List.mem_mergeSort,h]
theorem mem_blocks {P:PatchM} {b:Int}:b∈P.blocks↔ ∃x∈P.l,x.blk=b:=by
 unfold PatchM.blocks;rw [cpt_mem,List.mem_mergeSort,List.mem_map]
theorem nodup_len_le : ∀ {l m:List Int},l.Nodup->(∀x∈l,x∈m)->l.length<=m.length
 |[],m,_,_=>by simp
 |x::l,m,hn,hs=>by
  rw [List.nodup_cons] at hn
  have hx:=hs x (by simp)
  have:=nodup_len_le (m:=m.erase x) hn.2 fun y hy=>(List.mem_erase_of_ne (fun e=>hn.1 (by rw [←e];exact hy))).2 (hs y (List.mem_cons_of_mem _ hy))
  rw [List.length_erase_of_mem hx] at this
  have:=List.length_pos_of_mem hx
  rw [List.length_cons];omega
theorem vis_len {P:PatchM} (ok:POk P) {vis:List Int} (hn:vis.Nodup) (hs: ∀k∈vis,k∈P.all):(vis.length:Int)<=P.last:=by
 have h1:vis.length<=P.all.length:=nodup_len_le hn hs
 have h2:P.all.length=P.l.length:=by unfold PatchM.all;simp
 have:=ok.lenl;omega
theorem blocks_len {P:PatchM} (ok:POk P):(P.blocks.length:Int)<=P.last:=by
 have h1:=cpt_len ((P.l.map (·.blk)).mergeSort fun x y=>decide (x<=y))
 rw [List.length_mergeSort,List.length_map] at h1
 have:=ok.lenl
 unfold PatchM.blocks;omega
theorem c_pblocks (p T:Nat) (P:PatchM) (τ:Nat) (s:TH) (hT:10<=T) (hp:PSet s p T P):TRet Tryz.prog 35 #[.pointer (some ⟨p,0,none⟩)] s fun v s'=>∃a c',v=.slice a P.blocks.length c'/\Ch [] s s'/\Own s' a P.blocks.length c' 3 1 (ivs P.blocks) τ:=by
 obtain ⟨⟨rd,rl,md,ml,hP⟩,ok⟩:=id hp
 have hpb:=hP.blk
 have hpd:=hP.dm
 have hpl:=hP.lm
 have hpm:=hP.pm
 have hlst:=ok.lst
 obtain ⟨M,hM,hM0,hMa,hMb,hMc,hMd,hMe,hMf⟩:=fresh6 s (T+10) τ 0 0 0 0
 refine F35_calls _  ?_
 unfold F35
 refine tcall (c_own _ _ _ _ (by omega) hp) ?_
 rintro aM aN ⟨rfl,u⟩
 have aO:=u.size
 refine dBl_i (sB_f (by rfl) (nz_i ?_))
 have am:=hpb.ch u (by simp)
 refine ld_t am rfl (dMap_i ?_)
 have an:=hpl.ch u (by simp)
 refine range_t (M+7) um159 an iinj fun B A hqsem1 C w=>?_
 have ar:=w.size
 refine ⟨fun vs H'=>∃s':TH,s'.h=H'/\∃q qn qc,vs=[.slice q qn qc]/\Ch [M+1,M+7,M+9] B s'/\(∃vis X,ItK (Value.int .i64) s' A rl ml vis (T+2) (M+7)/\Own s' q qn qc 3 1 (ivs X) (M+1)/\qn=vis.length/\(∀k∈vis,k∈P.all)/\∀b,b∈X↔ ∃x∈P.l,x.id∈vis/\x.blk=b),fun vs H'=>match vs with|[.slice q qn qc]=>leftH H' A rl|_=>0,⟨B,rfl,_,_,_,rfl,Ch.refl _ _,?_⟩,?_⟩
 ·exact ⟨[],[],C,by simpa [ivs] using Own.nil _ _ _ _,rfl,by simp,by simp⟩
 intro q qn qc
 iterate 10 intro _
 intro H_ hI_13
 obtain ⟨V,rfl,q_,qn_,qc_,hvs,c,vis,X,hit,ho,hqn,hvis,hX⟩:=hI_13
 cases hvs
 have au:=c.size
 have hvl:=vis_len ok hit.sub hvis
 refine next_t hit iinj (fun W ao ap hmksem2 hvksem2 d N aq=>?_) (fun hallksem2=>?_)
 ·refine dNx_t ?_
  have z:Ch [(M+7)] V W:=Chg.mono N (fun j hj e=>by subst e;rw [hit.tagq];simp)
  have Y:=(((u.app w).app c).app z)
  have Z:=hpm.mv Y (tagn (by simp<;>omega))
  obtain ⟨x1,hx1,hid1,bax,bcx,nax,ncx,hxv,sbx,snx⟩:=Z.mem_ hmksem2
  subst hxv
  refine entry_t d hmksem2 iinj ?_
  refine dT2 (dA5 ?_)
  refine al_t (M+9) fun aP aQ av D f aw=>?_
  refine st_t D rfl (by simp) fun aR E O ax=>?_
  have g:=on_ch D O
  refine st_t E rfl (by simp) fun aS F Q ay=>?_
  have i:=on_ch E Q
  refine st_t F rfl (by simp) fun aT G R az=>?_
  have m:=on_ch F R
  refine st_t G rfl (by simp) fun aU H S aA=>?_
  have n:=on_ch G S
  refine st_t H rfl (by simp) fun aV aa U aB=>?_
  have o:=on_ch H U
  refine ld_t aa rfl (dInt_i ?_)
  refine al_t (M+9) fun aW aX aC ab r aD=>?_
  have ac:=(((((((z.app f).app g).app i).app m).app n).app o).app r)
  have ad:=ho.mv ac (tagn (by simp))
  refine app_i1 u33 in3 ad ab (by omega) fun ae aE aF af t=>?_
  have aG:=t.size
  refine dSl_i ?_
  have ag:=(((((((((c.app z).app f).app g).app i).app m).app n).app o).app r).app t)
  refine ⟨⟨ae,rfl,_,_,_,rfl,((Ch.refl [M+1,M+7,M+9] B).ch ag (by simp)),?_⟩,?_⟩
  ·have ah:=(((((((f.app g).app i).app m).app n).app o).app r).app t)
   have ai:=d.ch ah (by simp<;>omega) (by simp<;>omega)
   refine ⟨_,_,ai,af,?_,?_,?_⟩
   ·rw [List.length_append,hqn];rfl
   ·intro k hk
    rcases List.mem_append.1 hk with h|h
    ·exact hvis k h
    rw [List.mem_singleton] at h;subst h;rw [←hid1];exact List.mem_map.2 ⟨x1,hx1,rfl⟩
   intro b
   rw [List.mem_append,hX,List.mem_singleton]
   constructor
   ·rintro (⟨x,h1,h2,h3⟩|h)
    ·exact ⟨x,h1,List.mem_append_left _ h2,h3⟩
    exact ⟨x1,hx1,by rw [hid1];simp,h.symm⟩
   rintro ⟨x,h1,h2,h3⟩
   rcases List.mem_append.1 h2 with h2|h2
   ·exact .inl ⟨x,h1,h2,h3⟩
   rw [List.mem_singleton] at h2
   have e:x=x1:=by
    have g1:=find_by ok.nodup h1
    have g2:=find_by ok.nodup hx1
    rw [h2, ←hid1,g2] at g1;exact (Option.some.inj g1).symm
   subst e;exact .inr h3.symm
  have aj:=(((((((f.app g).app i).app m).app n).app o).app r).app t)
  have ak:=d.ch aj (by simp<;>omega) (by simp<;>omega)
  exact it_less iinj hit ak hmksem2 hvksem2 (List.Sublist.refl _)
 refine dNx_f ?_
 refine tcall (c_sortInt ho (by omega)) ?_
 rintro aH aI ⟨rfl,I,J⟩
 have aJ:=I.size
 refine tcall (c_compact J (by omega)) ?_
 rintro aK al ⟨rfl,K,L⟩
 have aL:=K.size
 refine dSl_i ?_
 have ho:=L
 have e:cpt (X.mergeSort fun x y=>decide (x<=y))=P.blocks:=cpt_ext fun b=>by
  rw [hX,List.mem_map]
  constructor
  ·rintro ⟨x,h1,h2,h3⟩;exact ⟨x,h1,h3⟩
  rintro ⟨x,h1,h3⟩;exact ⟨x,h1,hallksem2 _ (by rw [hpm.keys];exact List.mem_map.2 ⟨x,h1,rfl⟩),h3⟩
 rw [e] at ho ⊢
 exact ret_t' (s':=remark al (M+1) τ) rfl ⟨_,_,rfl,remark_ch ((((((Ch.refl [] s).ch u (by simp)).ch w (by simp)).fr c hM (by simp)).fr I hM (by simp)).fr K hM (by simp)) hM (by omega),ho.remark⟩
def ovx (b o n:Int) (x:PatM):Bool:=decide (ovl b o n x.blk x.off x.by_.length)
def PatchM.newP (P:PatchM) (b o:Int) (y:List UInt8) (needs:List Int):PatM:=⟨P.last+1,b,o,y,(P.l.filter fun x=>decide (x.id∈needs)||ovx b o y.length x).map (·.id)⟩
def PatchM.add (P:PatchM) (b o:Int) (y:List UInt8) (needs:List Int):PatchM×Int×Int:=
 if ¬fitsP b o y.length then (P,0,1)
 else if (needs.any fun i=> !P.knows i)=true then (P,0,70)
 else ({ P with last:=P.last+1,l:=P.l++[P.newP b o y needs] },P.last+1,0)
theorem POk.add {P:PatchM} (ok:POk P) {b o:Int} {y:List UInt8} {needs:List Int} (hf:fitsP b o y.length) (hl:P.last<1000000):POk { P with last:=P.last+1,l:=P.l++[P.newP b o y needs] } where
 srt:=List.pairwise_append.2 ⟨ok.srt,by simp,fun a ha c hc=>by
  rw [List.mem_singleton] at hc;subst hc
  have:=ok.rng a ha
  show a.id<P.last+1
  omega⟩
 rng x hx:=by
  rcases List.mem_append.1 hx with h|h
  ·have:=ok.rng x h;exact ⟨this.1,by show x.id<=P.last+1;omega⟩
  rw [List.mem_singleton] at h;subst h
  have:=ok.lst
  exact ⟨by show 1<=P.last+1;omega,Int.le_refl _⟩
 fit x hx:=by
  rcases List.mem_append.1 hx with h|h
  ·exact ok.fit x h
  rw [List.mem_singleton] at h;subst h
  unfold fitsP at hf
  exact ⟨hf.1,hf.2.1,by show 1<=y.length;omega,by show o+(y.length:Int)<=128;omega⟩
 nds x hx n hn:=by
  rcases List.mem_append.1 hx with h|h
  ·exact ok.nds x h n hn
  rw [List.mem_singleton] at h;subst h
  obtain ⟨z,hz,rfl⟩:=List.mem_map.1 (show n∈(P.l.filter fun x=>decide (x.id∈needs)||ovx b o y.length x).map (·.id) from hn)
  have:=ok.rng z (List.mem_filter.1 hz).1
  exact ⟨this.1,by show z.id<P.last+1;omega⟩
 nsr x hx:=by
  rcases List.mem_append.1 hx with h|h
  ·exact ok.nsr x h
  rw [List.mem_singleton] at h;subst h
  exact List.pairwise_map.2 (ok.srt.sublist List.filter_sublist)
 dn i hi:=by have:=ok.dn i hi;exact ⟨this.1,by show i<=P.last+1;omega⟩
 all i h1 h2:=by
  have h2:i<=P.last+1:=h2
  by_cases h3:i<=P.last
  ·rcases ok.all i h1 h3 with h|h
   ·exact .inl h
   right;show i∈(P.l++[P.newP b o y needs]).map PatM.id;rw [List.map_append];exact List.mem_append_left _ h
  right;show i∈(P.l++[P.newP b o y needs]).map PatM.id;rw [List.map_append];exact List.mem_append_right _ (by rw [show i=P.last+1 by omega];exact List.mem_singleton.2 rfl)
 dis i hi h:=by
  have h:i∈(P.l++[P.newP b o y needs]).map PatM.id:=h
  rw [List.map_append] at h
  rcases List.mem_append.1 h with h|h
  ·exact ok.dis i hi h
  have:=ok.dn i hi
  have h:i∈[P.last+1]:=h
  rw [List.mem_singleton] at h;omega
 lst:=by have:=ok.lst;show 0<=P.last+1/\P.last+1<=1000000;omega
theorem newP_needs {P:PatchM} (ok:POk P) {b o n:Int} {needs vis X:List Int} (hv: ∀x∈P.l,x.id∈vis) (hX: ∀i,i∈X↔i∈needs∨∃x∈P.l,x.id∈vis/\x.id=i/\ovl b o n x.blk x.off x.by_.length):
  P.pend X=(P.l.filter fun x=>decide (x.id∈needs)||ovx b o n x).map (·.id):=by
 unfold PatchM.pend PatchM.all
 rw [List.filter_map]
 congr 1
 apply List.filter_congr
 intro x hx
 apply Bool.eq_iff_iff.2
 simp only [Function.comp,decide_eq_true_eq,Bool.or_eq_true,ovx,hX]
 constructor
 ·rintro (h|⟨y,h1,h2,h3,h4⟩)
  ·exact .inl h
  ·have g1:=find_by ok.nodup h1
   have g2:=find_by ok.nodup hx
   rw [h3,g2] at g1
   cases Option.some.inj g1
   exact .inr h4
 ·rintro (h|h)
  ·exact .inl h
  ·exact .inr ⟨x,hx,hv x hx,rfl,h⟩
theorem c_add1 (p T:Nat) (P:PatchM) (x:Int) {r0 t1 τ1:Nat} (s:TH) (hT:10<=T) (hp:PSet s p T P) (hb1:Blk s r0 [.pointer (some ⟨p,0,none⟩)] t1 τ1):TRet Tryz.prog 117 #[.int .i64 x,.pointer (some ⟨r0,0,none⟩)] s fun v s'=>v=.bool (!P.knows x)/\Ch [] s s':=by
 refine F117_calls _ _  ?_
 unfold F117
 refine ld_t hb1 rfl (dPtr_i ?_)
 refine tcall (c_known _ _ _ _ _ (by omega) hp) ?_
 rintro b c ⟨rfl,a⟩
 have d:=a.size
 refine dBl_i ?_
 refine ret_t ?_
 exact ⟨rfl,((Ch.refl [] s).ch a (by simp))⟩
set_option maxHeartbeats 4000000 in
/-- (*bollard/patch.Set).Add -/
theorem c_add (p T:Nat) (P:PatchM) (b o:Int) {xa:Option Addr} {xn:Nat} (xc:Nat) {y:List UInt8} {τx:Nat} {na:Option Addr} {nn:Nat} (nc:Nat) {needs:List Int} {τn:Nat} (s:TH) (hT:10<=T) (hp:PSet s p T P) (hx:Sl s xa (bvs y) τx) (hxn:y.length=xn) (hn:Sl s na (ivs needs) τn) (hnn:needs.length=nn) (hb:(nn:Int)+P.last<=17592186044000) (hl:P.last<1000000):TRet Tryz.prog 48 #[.pointer (some ⟨p,0,none⟩),.int .i64 b,.int .i64 o,.slice xa xn xc,.slice na nn nc] s fun v s'=>v=.tuple #[.int .i64 (P.add b o y needs).2.1,.int .i64 (P.add b o y needs).2.2]/\Ch [T,T+2] s s'/\PSet s' p T (P.add b o y needs).1:=by
 obtain ⟨⟨rd,rl,md,ml,hP⟩,ok⟩:=id hp
 have hpb:=hP.blk
 have hpd:=hP.dm
 have hpl:=hP.lm
 have hpm:=hP.pm
 have hlst:=ok.lst
 obtain ⟨M,hM,hM0,hMa,hMb,hMc,hMd,hMe,hMf⟩:=fresh6 s (T+10) τx τn 0 0 0
 refine F48_calls _ _ _ _ _ _ _ _ _  ?_
 unfold F48
 refine al_t (M+1) fun r1 s2 fV dM aW fW=>?_
 refine ld_t dM rfl (dPtr_i ?_)
 have bD:=hp.mv aW (rngn (by simp))
 refine tcall (c_own _ _ _ _ (by omega) bD) ?_
 rintro fX fY ⟨rfl,av⟩
 have fZ:=av.size
 refine dBl_i (sB_f (by rfl) ?_)
 refine tcall (c_fits _ _ _ _ _ _) ?_
 rintro e4 e5 ⟨rfl,R⟩
 have e6:=R.size
 refine dBl_i ?_
 refine sB_nd (fun aN=>?_) (fun aN=>?_)
 ·refine ret_t ?_
  have dN:=((aW.app av).app R)
  have dO:=bD.mv (av.app R) (rngn (by simp))
  rw [show P.add b o y needs=(P,0,1) from by unfold PatchM.add;rw [if_pos (by subst hxn;assumption)]]
  exact ⟨rfl,((Ch.refl [T,T+2] s).ch dN (by simp)),dO⟩
 have dP:=bD.mv (av.app R) (rngn (by simp))
 have hPf:=dP
 have dQ:=dM.ch (av.app R) (by simp)
 have hrf:=dQ
 have ap:=((aW.app av).app R)
 have aX:=hn.mv ap (tagn (by simp))
 refine tcall (c_ctIntF _ (fun y=> !P.knows y) aX hnn (by omega) (by kernel_rfl) (fun s1 y hy hc=>c_add1 p T P y s1 hT (hPf.mv hc (rngn (by simp))) (hrf.ch hc (by simp)))) ?_
 rintro e7 e8 ⟨rfl,d⟩
 have e9:=d.size
 refine dBl_i ?_
 refine sB_i (fun aY=>?_) (fun aY=>?_)
 ·refine ret_t ?_
  have dR:=((av.app R).app d)
  have dS:=hPf.mv d (rngn (by simp))
  rw [show P.add b o y needs=(P,0,70) from by unfold PatchM.add;rw [if_neg (by subst hxn;simpa using aN),if_pos (by assumption)]]
  exact ⟨rfl,(((Ch.refl [T,T+2] s).ch aW (by simp)).ch dR (by simp)),dS⟩
 have ab:=hrf.ch d (by simp)
 refine ld_t ab rfl (dPtr_i (nz_i ?_))
 have ac:=hpb.ch (ap.app d) (by simp)
 refine ld_t ac rfl (dInt_i (wr_t (by omega) ?_))
 refine ⟨?_,?_⟩
 ·have hft:fitsP b o xn:=by simpa using aN
  have dT:=hx.mv (ap.app d) (tagn (by simp))
  refine tcall (c_cloneB (T+3) _ dT hxn (by unfold fitsP at hft;omega)) ?_
  rintro fa fb ⟨aB,aC,rfl,F,bE⟩
  have fc:=F.size
  refine dSl_i ?_
  refine ⟨?_,?_⟩
  ·have dU:=ac.ch F (by simp)
   refine ld_t dU rfl (dInt_i ?_)
   rfl
  refine ⟨?_,?_⟩
  ·have dV:=ab.ch F (by simp)
   refine ld_t dV rfl (dPtr_i ?_)
   rfl
  refine al_t (M+2) fun f0 f1 fd bF ad fe=>?_
  refine ⟨?_,?_⟩
  ·have dW:=ac.ch (F.app ad) (by simp)
   refine ld_t dW rfl (dInt_i ?_)
   rfl
  refine ⟨?_,?_⟩
  ·have dX:=ab.ch (F.app ad) (by simp)
   refine ld_t dX rfl (dPtr_i ?_)
   rfl
  refine st_t bF rfl (by simp) fun f2 bG ck ff=>?_
  have aD:=on_ch bF ck
  refine st_t bG rfl (by simp) fun f3 bH cl fg=>?_
  have aE:=on_ch bG cl
  refine st_t bH rfl (by simp) fun f4 bI cm fh=>?_
  have aF:=on_ch bH cm
  refine st_t bI rfl (by simp) fun f5 bJ cn fi=>?_
  have aG:=on_ch bI cn
  refine st_t bJ rfl (by simp) fun f6 bK co fj=>?_
  have aH:=on_ch bJ co
  have bL:=(((((((d.app F).app ad).app aD).app aE).app aF).app aG).app aH)
  have dY:=aX.mv bL (tagn (by simp<;>omega))
  refine tcall (c_cloneI (M+4) _ dY (by omega) (by omega)) ?_
  rintro fk fl ⟨d5,d6,rfl,S,bM⟩
  have fm:=S.size
  refine dSl_i ?_
  have bN:=(((((((F.app ad).app aD).app aE).app aF).app aG).app aH).app S)
  have bO:=ab.ch bN (by simp)
  refine ld_t bO rfl (dPtr_i (nz_i ?_))
  have bP:=ac.ch bN (by simp<;>omega)
  refine ld_t bP rfl (dMap_i ?_)
  have aZ:=(((((((((ap.app d).app F).app ad).app aD).app aE).app aF).app aG).app aH).app S)
  have bQ:=hpl.ch aZ (by simp<;>omega)
  refine range_t (M+7) um159 bQ iinj fun aO a2 hqsem1 bR B=>?_
  have fn:=B.size
  refine ⟨fun vs H'=>∃s':TH,s'.h=H'/\∃q qn qc,vs=[.slice q qn qc]/\Ch [M+4,M+7,M+9] aO s'/\(∃vis X,ItK (Value.int .i64) s' a2 rl ml vis (T+2) (M+7)/\Own s' q qn qc 3 1 (ivs X) (M+4)/\qn<=nn+vis.length/\(∀k∈vis,k∈P.all)/\∀i,i∈X↔i∈needs∨∃x∈P.l,x.id∈vis/\x.id=i/\ovl b o xn x.blk x.off x.by_.length),fun vs H'=>match vs with|[.slice q qn qc]=>leftH H' a2 rl|_=>0,⟨aO,rfl,_,_,_,rfl,Ch.refl _ _,?_⟩,?_⟩
  ·have dZ:=bM.mv B (tagn (by simp))
   exact ⟨[],needs,bR,dZ,by simp,by simp,by simp⟩
  intro q qn qc
  iterate 14 intro _
  intro H_ hI_76
  obtain ⟨d0,rfl,q_,qn_,qc_,hvs,f,vis,X,hit,ho,hqn,hvis,hX⟩:=hI_76
  cases hvs
  have fo:=f.size
  have hvl:=vis_len ok hit.sub hvis
  have hXl:X.length=qn:=by have:=ho.1;rw [ivs_len] at this;omega
  refine next_t hit iinj (fun d1 eb ec hmksem2 hvksem2 ae cp ed=>?_) (fun hallksem2=>?_)
  ·refine dNx_t ?_
   have aq:Ch [(M+7)] d0 d1:=Chg.mono cp (fun j hj e=>by subst e;rw [hit.tagq];simp)
   have d2:=(((aZ.app B).app f).app aq)
   have d3:=hpm.mv d2 (tagn (by simp<;>omega))
   obtain ⟨x1,hx1,hid1,bax,bcx,nax,ncx,hxv,sbx,snx⟩:=d3.mem_ hmksem2
   subst hxv
   refine entry_t ae hmksem2 iinj ?_
   refine dT2 (dInt_i (dA5 ?_))
   refine al_t (M+9) fun fp fq ee bS G fs=>?_
   refine st_t bS rfl (by simp) fun ft bT cq fu=>?_
   have H:=on_ch bS cq
   refine st_t bT rfl (by simp) fun fv bU cr fw=>?_
   have I:=on_ch bT cr
   refine st_t bU rfl (by simp) fun fx bV cs fy=>?_
   have J:=on_ch bU cs
   refine st_t bV rfl (by simp) fun fz bW ct fA=>?_
   have K:=on_ch bV ct
   refine st_t bW rfl (by simp) fun fB aI bX ef=>?_
   have g:=on_ch bW bX
   have cu:=(((((((((S.app B).app f).app aq).app G).app H).app I).app J).app K).app g)
   have af:=bK.ch cu (by simp)
   refine ld_t af rfl (ld_t af rfl (ld_t af rfl (ld_t af rfl (ld_t af rfl (ld_t aI rfl (ld_t aI rfl (ld_t aI rfl ?_)))))))
   refine ld_t aI rfl (ld_t aI rfl ?_)
   have hfx:=ok.fit x1 hx1
   have hft2:=hft
   unfold fitsP at hft2
   refine tcall (c_overlap _ _ _ _ _ _ _ _ _ _ _ _ _ _ _ _ _ _ _ (by omega) (by omega)) ?_
   rintro eg cv ⟨rfl,m⟩
   have eh:=m.size
   refine dBl_i ?_
   refine sB_d (fun a0=>?_) (fun a0=>?_)
   ·refine al_t (M+9) fun fC fD ei cw aw ej=>?_
    have cx:=((((((((aq.app G).app H).app I).app J).app K).app g).app m).app aw)
    have cy:=ho.mv cx (tagn (by simp))
    refine app_i1 u33 in3 cy cw (by omega) fun cz ek el cA ax=>?_
    have em:=ax.size
    refine dSl_i ?_
    have cB:=((((((((((f.app aq).app G).app H).app I).app J).app K).app g).app m).app aw).app ax)
    refine ⟨⟨cz,rfl,_,_,_,rfl,((Ch.refl [M+4,M+7,M+9] aO).ch cB (by simp)),?_⟩,?_⟩
    ·have cC:=((((((((G.app H).app I).app J).app K).app g).app m).app aw).app ax)
     have cD:=ae.ch cC (by simp<;>omega) (by simp<;>omega)
     refine ⟨_,_,cD,cA,?_,?_,?_⟩
     ·simp only [List.length_append,List.length_singleton];omega
     ·intro k hk
      rcases List.mem_append.1 hk with h|h
      ·exact hvis k h
      rw [List.mem_singleton] at h;subst h;rw [←hid1];exact List.mem_map.2 ⟨x1,hx1,rfl⟩
     intro i
     rw [List.mem_append,hX,List.mem_singleton]
     constructor
     ·rintro ((h|⟨x,h1,h2,h3⟩)|h)
      ·exact .inl h
      ·exact .inr ⟨x,h1,List.mem_append_left _ h2,h3⟩
      exact .inr ⟨x1,hx1,by rw [hid1];simp,by rw [hid1,h],a0⟩
     rintro (h|⟨x,h1,h2,h3,h4⟩)
     ·exact .inl (.inl h)
     rcases List.mem_append.1 h2 with h2|h2
     ·exact .inl (.inr ⟨x,h1,h2,h3,h4⟩)
     rw [List.mem_singleton] at h2;right;rw [←h3,h2]
    have cE:=((((((((G.app H).app I).app J).app K).app g).app m).app aw).app ax)
    have cF:=ae.ch cE (by simp<;>omega) (by simp<;>omega)
    exact it_less iinj hit cF hmksem2 hvksem2 (List.Sublist.refl _)
   have cG:=((((((((f.app aq).app G).app H).app I).app J).app K).app g).app m)
   refine ⟨⟨cv,rfl,_,_,_,rfl,((Ch.refl [M+4,M+7,M+9] aO).ch cG (by simp)),?_⟩,?_⟩
   ·have cH:=((((((G.app H).app I).app J).app K).app g).app m)
    have cI:=ae.ch cH (by simp<;>omega) (by simp<;>omega)
    have cJ:=(((((((aq.app G).app H).app I).app J).app K).app g).app m)
    have cK:=ho.mv cJ (tagn (by simp))
    refine ⟨_,_,cI,cK,?_,?_,?_⟩
    ·simp only [List.length_append,List.length_singleton];omega
    ·intro k hk
     rcases List.mem_append.1 hk with h|h
     ·exact hvis k h
     rw [List.mem_singleton] at h;subst h;rw [←hid1];exact List.mem_map.2 ⟨x1,hx1,rfl⟩
    intro i
    rw [hX]
    constructor
    ·rintro (h|⟨x,h1,h2,h3⟩)
     ·exact .inl h
     exact .inr ⟨x,h1,List.mem_append_left _ h2,h3⟩
    rintro (h|⟨x,h1,h2,h3,h4⟩)
    ·exact .inl h
    rcases List.mem_append.1 h2 with h2|h2
    ·exact .inr ⟨x,h1,h2,h3,h4⟩
    rw [List.mem_singleton] at h2
    exfalso
    have e:x=x1:=by
     have g1:=find_by ok.nodup h1
     have g2:=find_by ok.nodup hx1
     rw [h2, ←hid1,g2] at g1;exact (Option.some.inj g1).symm
    subst e;exact a0 h4
   have cL:=((((((G.app H).app I).app J).app K).app g).app m)
   have cM:=ae.ch cL (by simp<;>omega) (by simp<;>omega)
   exact it_less iinj hit cM hmksem2 hvksem2 (List.Sublist.refl _)
  refine dNx_f ?_
  have a3:=bO.ch (B.app f) (by simp)
  refine ld_t a3 rfl (dPtr_i ?_)
  have cN:=(((bL.app S).app B).app f)
  have cO:=hPf.mv cN (rngn (by simp<;>omega))
  refine tcall (c_pending p T P (T+3) _ _ hT cO ho.sl hXl (by omega)) ?_
  rintro en eo ⟨aJ,aK,rfl,L,bY⟩
  have ep:=L.size
  refine dSl_i ?_
  have cP:=(((S.app B).app f).app L)
  have a4:=bK.ch cP (by simp)
  refine st_t a4 rfl (by simp) fun f7 cQ bZ eq=>?_
  have V:=on_ch a4 bZ
  have a5:=a3.ch (L.app V) (by simp)
  refine ld_t a5 rfl (dPtr_i (nz_i ?_))
  have a6:=(((B.app f).app L).app V)
  have aP:=bP.ch a6 (by simp<;>omega)
  refine ld_t aP rfl (dInt_i (wr_t (by omega) (nz_i ?_)))
  refine st_t aP rfl (by simp) fun d7 aQ b0 er=>?_
  have N:=on_ch aP b0
  have aR:=a5.ch N (by simp<;>omega)
  refine ld_t aR rfl (dPtr_i (nz_i (ld_t aQ rfl (dMap_i (ld_t aR rfl (dPtr_i (nz_i ?_)))))))
  refine ld_t aQ rfl (dInt_i ?_)
  have ag:=cQ.ch N (by simp<;>omega)
  refine ld_t ag rfl (ld_t ag rfl (ld_t ag rfl (ld_t ag rfl (ld_t ag rfl ?_))))
  have a7:=bQ.ch (a6.app N) (by simp<;>omega)
  refine upd_t keyI um159 a7 (PatchM.last P+1) (Value.agg #[Value.int IntKind.i64 (PatchM.last P+1),Value.int IntKind.i64 b,Value.int IntKind.i64 o,Value.slice aB xn aC,Value.slice aJ (List.length (PatchM.pend P X)) aK]) fun a8 cR b1 es=>?_
  have W:Ch [T+2] d7 a8:=Chg.mono b1 fun j _ e=>by subst e;rw [a7.tag];simp
  have cS:=aR.ch W (by simp<;>omega)
  refine ld_t cS rfl (dPtr_i (nz_i ?_))
  have a9:=aQ.ch W (by simp)
  refine ld_t a9 rfl (dInt_i ?_)
  refine ret_t ?_
  have cT:=((((((((((((ad.app aD).app aE).app aF).app aG).app aH).app S).app B).app f).app L).app V).app N).app W)
  have cU:=bE.mv cT (tagn (by simp<;>omega))
  have cV:=((V.app N).app W)
  have cW:=bY.mv cV (tagn (by simp<;>omega))
  have cX:=(((ap.app d).app F).app ad)
  have ba:=((((((aZ.app B).app f).app L).app V).app N).app W)
  have cY:=hpd.ch ba (by simp<;>omega)
  have cZ:=hpm.mv ba (tagn (by simp<;>omega))
  have hv: ∀x∈P.l,x.id∈vis:=fun x hx=>hallksem2 _ (by rw [hpm.keys];exact List.mem_map.2 ⟨x,hx,rfl⟩)
  have e:=newP_needs ok hv hX
  have hPV:PatV a8 (T+3) (.agg #[.int .i64 (P.last+1),.int .i64 b,.int .i64 o,.slice aB xn aC,.slice aJ (P.pend X).length aK]) (P.newP b o y needs):=by
   subst hxn
   refine ⟨aB,aC,aJ,aK,?_,cU.sl,?_⟩
   ·unfold PatchM.newP;simp only;rw [←e]
   unfold PatchM.newP;simp only;rw [←e];exact cW.sl
  have hnew:(P.newP b o y needs).id∉P.l.map (·.id):=fun h=>by
   obtain ⟨x,hx,h2⟩:=List.mem_map.1 h
   have h3:=ok.rng x hx
   have h2:x.id=P.last+1:=h2
   omega
  rw [show P.add b o y needs=({ P with last:=P.last+1,l:=P.l++[P.newP b o y needs] },P.last+1,0) from by
   unfold PatchM.add
   rw [if_neg (by subst hxn;simpa using hft),if_neg (by rw [aY];simp)]]
  exact ⟨rfl,((((((((((((((Ch.refl [T,T+2] s).ch cX (by simp)).fr aD hM (by simp)).fr aE hM (by simp)).fr aF hM (by simp)).fr aG hM (by simp)).fr aH hM (by simp)).ch S (by simp)).ch B (by simp)).fr f hM (by simp)).ch L (by simp)).fr V hM (by simp)).ch N (by simp)).ch W (by simp)),⟨⟨rd,rl,md,_,a9,cY,cR,PMap.snoc hPV cZ hnew,hP.dk,hP.dv⟩,ok.add (by subst hxn;exact hft) hl⟩⟩
 refine al_t (M+2) fun fE fF et c0 C eu=>?_
 refine ⟨?_,?_⟩
 ·have c1:=ac.ch C (by simp)
  refine ld_t c1 rfl (dInt_i ?_)
  rfl
 refine ⟨?_,?_⟩
 ·have c2:=ab.ch C (by simp)
  refine ld_t c2 rfl (dPtr_i ?_)
  rfl
 have hft:fitsP b o xn:=by simpa using aN
 have bb:=((ap.app d).app C)
 have c3:=hx.mv bb (tagn (by simp))
 refine tcall (c_cloneB (T+3) _ c3 hxn (by unfold fitsP at hft;omega)) ?_
 rintro ev ew ⟨aL,aM,rfl,D,b2⟩
 have ex:=D.size
 refine dSl_i ?_
 refine ⟨?_,?_⟩
 ·have c4:=ac.ch (C.app D) (by simp)
  refine ld_t c4 rfl (dInt_i ?_)
  rfl
 refine ⟨?_,?_⟩
 ·have c5:=ab.ch (C.app D) (by simp)
  refine ld_t c5 rfl (dPtr_i ?_)
  rfl
 have bc:=c0.ch D (by simp)
 refine st_t bc rfl (by simp) fun fG bd b3 ey=>?_
 have ah:=on_ch bc b3
 refine st_t bd rfl (by simp) fun fH be b4 ez=>?_
 have ai:=on_ch bd b4
 refine st_t be rfl (by simp) fun fI bf b5 eA=>?_
 have aj:=on_ch be b5
 refine st_t bf rfl (by simp) fun fJ bg b6 eB=>?_
 have ak:=on_ch bf b6
 refine st_t bg rfl (by simp) fun fK bh b7 eC=>?_
 have al:=on_ch bg b7
 have bi:=(((((((d.app C).app D).app ah).app ai).app aj).app ak).app al)
 have c6:=aX.mv bi (tagn (by simp<;>omega))
 refine tcall (c_cloneI (M+4) _ c6 (by omega) (by omega)) ?_
 rintro eD eE ⟨d8,d9,rfl,E,b8⟩
 have eF:=E.size
 refine dSl_i ?_
 have bj:=(((((((C.app D).app ah).app ai).app aj).app ak).app al).app E)
 have bk:=ab.ch bj (by simp)
 refine ld_t bk rfl (dPtr_i (nz_i ?_))
 have bl:=ac.ch bj (by simp<;>omega)
 refine ld_t bl rfl (dMap_i ?_)
 have aS:=(((((((bb.app D).app ah).app ai).app aj).app ak).app al).app E)
 have bm:=hpl.ch aS (by simp<;>omega)
 refine range_t (M+7) um159 bm iinj fun ay bn hqsem6 b9 c=>?_
 have eG:=c.size
 refine ⟨fun vs H'=>∃s':TH,s'.h=H'/\∃q qn qc,vs=[.slice q qn qc]/\Ch [M+4,M+7,M+9] ay s'/\(∃vis X,ItK (Value.int .i64) s' bn rl ml vis (T+2) (M+7)/\Own s' q qn qc 3 1 (ivs X) (M+4)/\qn<=nn+vis.length/\(∀k∈vis,k∈P.all)/\∀i,i∈X↔i∈needs∨∃x∈P.l,x.id∈vis/\x.id=i/\ovl b o xn x.blk x.off x.by_.length),fun vs H'=>match vs with|[.slice q qn qc]=>leftH H' bn rl|_=>0,⟨ay,rfl,_,_,_,rfl,Ch.refl _ _,?_⟩,?_⟩
 ·have c7:=b8.mv c (tagn (by simp))
  exact ⟨[],needs,b9,c7,by simp,by simp,by simp⟩
 intro q qn qc
 iterate 14 intro _
 intro H_ hI_216
 obtain ⟨c8,rfl,q_,qn_,qc_,hvs,a,vis,X,hit,ho,hqn,hvis,hX⟩:=hI_216
 cases hvs
 have eH:=a.size
 have hvl:=vis_len ok hit.sub hvis
 have hXl:X.length=qn:=by have:=ho.1;rw [ivs_len] at this;omega
 refine next_t hit iinj (fun c9 eI eJ hmksem7 hvksem7 U ca ea=>?_) (fun hallksem7=>?_)
 ·refine dNx_t ?_
  have Y:Ch [(M+7)] c8 c9:=Chg.mono ca (fun j hj e=>by subst e;rw [hit.tagq];simp)
  have da:=(((aS.app c).app a).app Y)
  have db:=hpm.mv da (tagn (by simp<;>omega))
  obtain ⟨x1,hx1,hid1,bax,bcx,nax,ncx,hxv,sbx,snx⟩:=db.mem_ hmksem7
  subst hxv
  refine entry_t U hmksem7 iinj ?_
  refine dT2 (dInt_i (dA5 ?_))
  refine al_t (M+9) fun fL fM eK bo n eL=>?_
  refine st_t bo rfl (by simp) fun fN bp cb eM=>?_
  have r:=on_ch bo cb
  refine st_t bp rfl (by simp) fun fO bq cc eN=>?_
  have t:=on_ch bp cc
  refine st_t bq rfl (by simp) fun fP br cd eO=>?_
  have u:=on_ch bq cd
  refine st_t br rfl (by simp) fun fQ bs ce eP=>?_
  have w:=on_ch br ce
  refine st_t bs rfl (by simp) fun fR am cf eQ=>?_
  have z:=on_ch bs cf
  have dc:=(((((((((E.app c).app a).app Y).app n).app r).app t).app u).app w).app z)
  have an:=bh.ch dc (by simp)
  refine ld_t an rfl (ld_t an rfl (ld_t an rfl (ld_t an rfl (ld_t an rfl (ld_t am rfl (ld_t am rfl (ld_t am rfl ?_)))))))
  refine ld_t am rfl (ld_t am rfl ?_)
  have hfx:=ok.fit x1 hx1
  have hft2:=hft
  unfold fitsP at hft2
  refine tcall (c_overlap _ _ _ _ _ _ _ _ _ _ _ _ _ _ _ _ _ _ _ (by omega) (by omega)) ?_
  rintro eR dd ⟨rfl,A⟩
  have eS:=A.size
  refine dBl_i ?_
  refine sB_d (fun a1=>?_) (fun a1=>?_)
  ·refine al_t (M+9) fun fS fT eT de az eU=>?_
   have df:=((((((((Y.app n).app r).app t).app u).app w).app z).app A).app az)
   have dg:=ho.mv df (tagn (by simp))
   refine app_i1 u33 in3 dg de (by omega) fun dh eV eW di aA=>?_
   have eX:=aA.size
   refine dSl_i ?_
   have dj:=((((((((((a.app Y).app n).app r).app t).app u).app w).app z).app A).app az).app aA)
   refine ⟨⟨dh,rfl,_,_,_,rfl,((Ch.refl [M+4,M+7,M+9] ay).ch dj (by simp)),?_⟩,?_⟩
   ·have dl:=((((((((n.app r).app t).app u).app w).app z).app A).app az).app aA)
    have dn:=U.ch dl (by simp<;>omega) (by simp<;>omega)
    refine ⟨_,_,dn,di,?_,?_,?_⟩
    ·simp only [List.length_append,List.length_singleton];omega
    ·intro k hk
     rcases List.mem_append.1 hk with h|h
     ·exact hvis k h
     rw [List.mem_singleton] at h;subst h;rw [←hid1];exact List.mem_map.2 ⟨x1,hx1,rfl⟩
    intro i
    rw [List.mem_append,hX,List.mem_singleton]
    constructor
    ·rintro ((h|⟨x,h1,h2,h3⟩)|h)
     ·exact .inl h
     ·exact .inr ⟨x,h1,List.mem_append_left _ h2,h3⟩
     exact .inr ⟨x1,hx1,by rw [hid1];simp,by rw [hid1,h],a1⟩
    rintro (h|⟨x,h1,h2,h3,h4⟩)
    ·exact .inl (.inl h)
    rcases List.mem_append.1 h2 with h2|h2
    ·exact .inl (.inr ⟨x,h1,h2,h3,h4⟩)
    rw [List.mem_singleton] at h2;right;rw [←h3,h2]
   have dp:=((((((((n.app r).app t).app u).app w).app z).app A).app az).app aA)
   have dq:=U.ch dp (by simp<;>omega) (by simp<;>omega)
   exact it_less iinj hit dq hmksem7 hvksem7 (List.Sublist.refl _)
  have dr:=((((((((a.app Y).app n).app r).app t).app u).app w).app z).app A)
  refine ⟨⟨dd,rfl,_,_,_,rfl,((Ch.refl [M+4,M+7,M+9] ay).ch dr (by simp)),?_⟩,?_⟩
  ·have ds:=((((((n.app r).app t).app u).app w).app z).app A)
   have dt:=U.ch ds (by simp<;>omega) (by simp<;>omega)
   have du:=(((((((Y.app n).app r).app t).app u).app w).app z).app A)
   have dw:=ho.mv du (tagn (by simp))
   refine ⟨_,_,dt,dw,?_,?_,?_⟩
   ·simp only [List.length_append,List.length_singleton];omega
   ·intro k hk
    rcases List.mem_append.1 hk with h|h
    ·exact hvis k h
    rw [List.mem_singleton] at h;subst h;rw [←hid1];exact List.mem_map.2 ⟨x1,hx1,rfl⟩
   intro i
   rw [hX]
   constructor
   ·rintro (h|⟨x,h1,h2,h3⟩)
    ·exact .inl h
    exact .inr ⟨x,h1,List.mem_append_left _ h2,h3⟩
   rintro (h|⟨x,h1,h2,h3,h4⟩)
   ·exact .inl h
   rcases List.mem_append.1 h2 with h2|h2
   ·exact .inr ⟨x,h1,h2,h3,h4⟩
   rw [List.mem_singleton] at h2
   exfalso
   have e:x=x1:=by
    have g1:=find_by ok.nodup h1
    have g2:=find_by ok.nodup hx1
    rw [h2, ←hid1,g2] at g1;exact (Option.some.inj g1).symm
   subst e;exact a1 h4
  have dx:=((((((n.app r).app t).app u).app w).app z).app A)
  have dy:=U.ch dx (by simp<;>omega) (by simp<;>omega)
  exact it_less iinj hit dy hmksem7 hvksem7 (List.Sublist.refl _)
 refine dNx_f ?_
 have bt:=bk.ch (c.app a) (by simp)
 refine ld_t bt rfl (dPtr_i ?_)
 have dz:=(((bi.app E).app c).app a)
 have dA:=hPf.mv dz (rngn (by simp<;>omega))
 refine tcall (c_pending p T P (T+3) _ _ hT dA ho.sl hXl (by omega)) ?_
 rintro eY eZ ⟨ar,au,rfl,O,bC⟩
 have e0:=O.size
 refine dSl_i ?_
 have dB:=(((E.app c).app a).app O)
 have bu:=bh.ch dB (by simp)
 refine st_t bu rfl (by simp) fun fU dC cg e1=>?_
 have Z:=on_ch bu cg
 have bv:=bt.ch (O.app Z) (by simp)
 refine ld_t bv rfl (dPtr_i (nz_i ?_))
 have bw:=(((c.app a).app O).app Z)
 have aT:=bl.ch bw (by simp<;>omega)
 refine ld_t aT rfl (dInt_i (wr_t (by omega) (nz_i ?_)))
 refine st_t aT rfl (by simp) fun d4 aU ci e2=>?_
 have Q:=on_ch aT ci
 have aV:=bv.ch Q (by simp<;>omega)
 refine ld_t aV rfl (dPtr_i (nz_i (ld_t aU rfl (dMap_i (ld_t aV rfl (dPtr_i (nz_i ?_)))))))
 refine ld_t aU rfl (dInt_i ?_)
 have ao:=dC.ch Q (by simp<;>omega)
 refine ld_t ao rfl (ld_t ao rfl (ld_t ao rfl (ld_t ao rfl (ld_t ao rfl ?_))))
 have bx:=bm.ch (bw.app Q) (by simp<;>omega)
 refine upd_t keyI um159 bx (PatchM.last P+1) (Value.agg #[Value.int IntKind.i64 (PatchM.last P+1),Value.int IntKind.i64 b,Value.int IntKind.i64 o,Value.slice aL xn aM,Value.slice ar (List.length (PatchM.pend P X)) au]) fun bz dD cj e3=>?_
 have aa:Ch [T+2] d4 bz:=Chg.mono cj fun j _ e=>by subst e;rw [bx.tag];simp
 have dE:=aV.ch aa (by simp<;>omega)
 refine ld_t dE rfl (dPtr_i (nz_i ?_))
 have bA:=aU.ch aa (by simp)
 refine ld_t bA rfl (dInt_i ?_)
 refine ret_t ?_
 have dF:=(((((((((((ah.app ai).app aj).app ak).app al).app E).app c).app a).app O).app Z).app Q).app aa)
 have dG:=b2.mv dF (tagn (by simp<;>omega))
 have dH:=((Z.app Q).app aa)
 have dI:=bC.mv dH (tagn (by simp<;>omega))
 have dJ:=((((av.app R).app d).app C).app D)
 have bB:=((((((aS.app c).app a).app O).app Z).app Q).app aa)
 have dK:=hpd.ch bB (by simp<;>omega)
 have dL:=hpm.mv bB (tagn (by simp<;>omega))
 have hv: ∀x∈P.l,x.id∈vis:=fun x hx=>hallksem7 _ (by rw [hpm.keys];exact List.mem_map.2 ⟨x,hx,rfl⟩)
 have e:=newP_needs ok hv hX
 have hPV:PatV bz (T+3) (.agg #[.int .i64 (P.last+1),.int .i64 b,.int .i64 o,.slice aL xn aM,.slice ar (P.pend X).length au]) (P.newP b o y needs):=by
  subst hxn
  refine ⟨aL,aM,ar,au,?_,dG.sl,?_⟩
  ·unfold PatchM.newP;simp only;rw [←e]
  unfold PatchM.newP;simp only;rw [←e];exact dI.sl
 have hnew:(P.newP b o y needs).id∉P.l.map (·.id):=fun h=>by
  obtain ⟨x,hx,h2⟩:=List.mem_map.1 h
  have h3:=ok.rng x hx
  have h2:x.id=P.last+1:=h2
  omega
 rw [show P.add b o y needs=({ P with last:=P.last+1,l:=P.l++[P.newP b o y needs] },P.last+1,0) from by
  unfold PatchM.add
  rw [if_neg (by subst hxn;simpa using hft),if_neg (by rw [aY];simp)]]
 exact ⟨rfl,(((((((((((((((Ch.refl [T,T+2] s).ch aW (by simp)).ch dJ (by simp)).fr ah hM (by simp)).fr ai hM (by simp)).fr aj hM (by simp)).fr ak hM (by simp)).fr al hM (by simp)).ch E (by simp)).ch c (by simp)).fr a hM (by simp)).ch O (by simp)).fr Z hM (by simp)).ch Q (by simp)).ch aa (by simp)),⟨⟨rd,rl,md,_,bA,dK,dD,PMap.snoc hPV dL hnew,hP.dk,hP.dv⟩,ok.add (by subst hxn;exact hft) hl⟩⟩
inductive PatchM.Reach (P:PatchM) (ids:List Int):Int->Prop
 |base {i:Int}:i∈P.pend ids->PatchM.Reach P ids i
 |step {i n:Int} {x:PatM}:PatchM.Reach P ids i->P.find i=some x->n∈P.pend x.needs->PatchM.Reach P ids n
theorem PatchM.Reach.all {P:PatchM} {ids:List Int} {i:Int} (h:P.Reach ids i):i∈P.all:=by
 cases h with
 |base h=>exact (pend_sub h).1
 |step h1 h2 h3=>exact (pend_sub h3).1
structure ClI (P:PatchM) (ids:List Int) (K O:List Int):Prop where
 kr: ∀i∈K,P.Reach ids i
 or_: ∀i∈O,P.Reach ids i
 pe: ∀i∈P.pend ids,i∈K∨i∈O
 cl: ∀i∈K,∀x,P.find i=some x->∀n∈P.pend x.needs,n∈K∨n∈O
 nd:K.Nodup
theorem ClI.done {P:PatchM} {ids K:List Int} (h:ClI P ids K []) (i:Int):i∈K↔P.Reach ids i:=by
 refine ⟨h.kr i,fun hr=>?_⟩
 induction hr with
 |base hi=>exact (h.pe _ hi).resolve_right (by simp)
 |step h1 h2 h3 ih=>exact (h.cl _ ih _ h2 _ h3).resolve_right (by simp)
theorem ClI.push {P:PatchM} {ids K O:List Int} {i:Int} {x:PatM} (h:ClI P ids K (O++[i])) (hi:i∉K) (hx:P.find i=some x):ClI P ids (K++[i]) (O++P.pend x.needs) where
 kr j hj:=(List.mem_append.1 hj).elim (h.kr j) fun h2=>by rw [List.mem_singleton] at h2;rw [h2];exact h.or_ i (by simp)
 or_ j hj:=(List.mem_append.1 hj).elim (fun h2=>h.or_ j (List.mem_append_left _ h2)) fun h2=>.step (h.or_ i (by simp)) hx h2
 pe j hj:=(h.pe j hj).elim (fun h=>.inl (List.mem_append_left _ h)) fun h=>(List.mem_append.1 h).elim (fun h=>.inr (List.mem_append_left _ h)) fun h=>.inl (List.mem_append_right _ h)
 cl j hj y hy n hn:=by
  rcases List.mem_append.1 hj with hj|hj
  ·rcases h.cl j hj y hy n hn with h|h
   ·exact .inl (List.mem_append_left _ h)
   rcases List.mem_append.1 h with h|h
   ·exact .inr (List.mem_append_left _ h)
   exact .inl (List.mem_append_right _ h)
  rw [List.mem_singleton] at hj;subst hj
  rw [hx] at hy;cases hy
  exact .inr (List.mem_append_right _ hn)
 nd:=List.nodup_append.2 ⟨h.nd,by simp,fun a ha b hb e=>by rw [List.mem_singleton] at hb;subst hb;subst e;exact hi ha⟩
end Go.Proofs.YtkaikaodhegmhaaGreat.E
