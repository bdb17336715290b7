/- My own texts, joined. -/
import Derived.Conc.MuLib
import Derived.KernelRfl
import Derived.Test.YtkaikaodhegmhaaGreatProg
import Derived.Test.YtkaikaodhegmhaaGreatAS4
namespace Go.Proofs.YtkaikaodhegmhaaGreat.E
open Go
set_option linter.unusedVariables false
set_option linter.unusedSimpArgs false
theorem fresh6 (s:TH) (a b c d e f:Nat): ∃M,(∀j,j<s.h.size->s.g j<M)/\10<=M/\a<M/\b<M/\c<M/\d<M/\e<M/\f<M:=by
 have h: ∀n,∃m,∀j,j<n->s.g j<m:=fun n=>by
  induction n with
  |zero=>exact ⟨0,fun j hj=>by omega⟩
  |succ n ih=>
   obtain ⟨m,hm⟩:=ih
   refine ⟨m+s.g n+1,fun j hj=>?_⟩
   by_cases e:j=n
   ·subst e;omega
   have:=hm j (by omega);omega
 obtain ⟨m,hm⟩:=h s.h.size
 exact ⟨m+a+b+c+d+e+f+10,fun j hj=>by have:=hm j hj;omega,by omega,by omega,by omega,by omega,by omega,by omega,by omega⟩
theorem Ch.fr {T T':List Nat} {a b c:TH} {M:Nat} (h:Ch T a b) (k:Ch T' b c) (hM: ∀j,j<a.h.size->a.g j<M) (hT: ∀x∈T',x∈T∨M<=x):Ch T a c:=
 Chg.trans h k fun j hj hB=>by
  have hB:b.g j∈T':=hB
  rw [h.tag j hj] at hB
  rcases hT _ hB with h1|h1
  ·exact h1
  have:=hM j hj;omega
theorem Ch.app {T T':List Nat} {a b c:TH} (h:Ch T a b) (k:Ch T' b c):Ch (T++T') a c:=
 Chg.trans (h.less (T':=T++T') fun x hx=>List.mem_append_left _ hx) k fun j hj hB=>by
  have hB:b.g j∈T':=hB
  rw [h.tag j hj] at hB
  exact List.mem_append_right _ hB
def remark (s:TH) (μ τ:Nat):TH:=⟨s.h,fun j=>if s.g j=μ then τ else s.g j⟩
theorem ret_t' {Q:Value->TH->Prop} {v:Value} {s s':TH} (hs:s'.h=s.h) (h:Q v s'):RT Q (.returned v) s.h:=⟨v,s',rfl,hs,h⟩
theorem remark_ch {T:List Nat} {s s':TH} {M μ τ:Nat} (c:Ch T s s') (hM: ∀j,j<s.h.size->s.g j<M) (hμ:M<=μ):Ch T s (remark s' μ τ):=
 ⟨c.size,fun j hj=>by
  have h1:=c.tag j hj
  have h2:=hM j hj
  show (if s'.g j=μ then τ else s'.g j)=s.g j
  rw [h1,if_neg (by omega)],c.get⟩
theorem remark_chg {s:TH} {μ τ:Nat} {σ:Nat} (h:σ≠μ): ∀j,s.g j=σ->(remark s μ τ).g j=σ:=fun j hj=>by
 show (if s.g j=μ then τ else s.g j)=σ
 rw [hj,if_neg h]
theorem remark_to {s:TH} {μ τ:Nat}: ∀j,s.g j=μ->(remark s μ τ).g j=τ:=fun j hj=>by
 show (if s.g j=μ then τ else s.g j)=τ
 rw [if_pos hj]
theorem Own.remark {s:TH} {a:Option Addr} {n c e k:Nat} {xs:List Value} {μ τ:Nat} (h:Own s a n c e k xs μ):Own (remark s μ τ) a n c e k xs τ:=by
 refine ⟨h.1,h.2.imp id ?_⟩
 rintro ⟨g,o,L,h1,h2,h3⟩
 exact ⟨g,o,L,h1,⟨h2.get,remark_to g h2.tag⟩,h3⟩
theorem Sl.remark {s:TH} {a:Option Addr} {l:List Value} {μ τ:Nat} (h:Sl s a l μ):Sl (remark s μ τ) a l τ:=by
 refine h.imp id ?_
 rintro ⟨g,o,h1,h2,h3,h4⟩
 exact ⟨g,o,h1,h2,remark_to g h3,h4⟩
theorem Sl.keep {s:TH} {a:Option Addr} {l:List Value} {σ μ τ:Nat} (h:Sl s a l σ) (hn:σ≠μ):Sl (E.remark s μ τ) a l σ:=by
 refine h.imp id ?_
 rintro ⟨g,o,h1,h2,h3,h4⟩
 exact ⟨g,o,h1,h2,remark_chg hn g h3,h4⟩
theorem Own.keep {s:TH} {a:Option Addr} {n c e k:Nat} {xs:List Value} {σ μ τ:Nat} (h:Own s a n c e k xs σ) (hn:σ≠μ):Own (E.remark s μ τ) a n c e k xs σ:=by
 refine ⟨h.1,h.2.imp id ?_⟩
 rintro ⟨g,o,L,h1,h2,h3⟩
 exact ⟨g,o,L,h1,⟨h2.get,remark_chg hn g h2.tag⟩,h3⟩
theorem Blk.remark {s:TH} {r:Nat} {l:List Value} {t μ τ:Nat} (h:Blk s r l t μ):Blk (remark s μ τ) r l t τ:=⟨h.get,remark_to r h.tag⟩
theorem Blk.keep {s:TH} {r:Nat} {l:List Value} {t σ μ τ:Nat} (h:Blk s r l t σ) (hn:σ≠μ):Blk (E.remark s μ τ) r l t σ:=⟨h.get,remark_chg hn r h.tag⟩
theorem MapK.remark {κ:Type} {kf:κ->Value} {s:TH} {r:Nat} {m:List (κ×Value)} {μ τ:Nat} (h:MapK kf s r m μ):MapK kf (remark s μ τ) r m τ:=⟨h.get,remark_to r h.tag,h.nd⟩
theorem MapK.keep {κ:Type} {kf:κ->Value} {s:TH} {r:Nat} {m:List (κ×Value)} {σ μ τ:Nat} (h:MapK kf s r m σ) (hn:σ≠μ):MapK kf (E.remark s μ τ) r m σ:=⟨h.get,remark_chg hn r h.tag,h.nd⟩
theorem Sl.len0 {s:TH} {l:List Value} {τ:Nat} (h:Sl s none l τ):l=[]:=by
 rcases h with h|⟨g,o,h1,_⟩
 ·exact h
 cases h1
theorem st_iv {s:TH} {a:Addr} {n c e τ:Nat} {L:List Int} {i x:Int} {K:Heap->Prop} (h:Own s (some a) n c e 1 (ivs L) τ) (h0:0<=i) (h1:i<n)
  (hk: ∀s':TH,Own s' (some a) n c e 1 (ivs (L.set i.toNat x)) τ->Ch [τ] s s'->s.h.size=s'.h.size->K s'.h):st s.h (a.add (i.toNat*1)) (.int .i64 x) K:=
 Own.st h rfl (by omega) fun s' h2 h3 h4=>hk s' (by rw [Nat.mul_one] at h2;unfold ivs at*;rw [List.map_set];exact h2) (Ch.on_tag (Ch.refl _ _) h3 h.tagOf (by simp)) h4
section
variable {P :Program} {t ty e:TypeId} {E:List PanicEntry->Heap->Prop} {s:TH} {a xa:Option Addr} {n c m mc:Nat} {τ τ':Nat} {K:Value->Heap->Prop}
theorem app_iv {xs ys:List Int} (ht:P.underlying t=some (.slice e)) (hi:(P.info? e).map (fun i=>(i.zero,i.size,i.bytes))=some (some (.int .i64 0),1,8))
  (hO:Own s a n c e 1 (ivs xs) τ) (hx:Sl s xa (ivs ys) τ') (hm:ys.length=m) (hb:n+m<=17592186044416)
  (hk: ∀(s':TH) (a':Option Addr) (c':Nat),Own s' a' (n+m) c' e 1 (ivs (xs++ys)) τ->Ch [τ] s s'->K (.slice a' (n+m) c') s'.h):
  semW P (Builtin.append_ #[t,t] ty #[.slice a n c,.slice xa m mc]) E s.h K:=
 app_i ht hi rfl hO hx (by rw [ivs_len];omega) (ivs_one _) (fun h=>by subst h;have h0:=congrArg List.length hx.len0;rw [ivs_len,List.length_nil] at h0;omega) (by unfold maxLen;omega)
  fun s' a' c' h1 h2 _=>hk s' a' c' (by rw [ivs_app];exact h1) (h2.ch hO (by simp))
theorem app_i1 {xs:List Int} {r tr:Nat} {x:Int} (ht:P.underlying t=some (.slice e)) (hi:(P.info? e).map (fun i=>(i.zero,i.size,i.bytes))=some (some (.int .i64 0),1,8))
  (hO:Own s a n c e 1 (ivs xs) τ) (hx:Blk s r [.int .i64 x] tr τ') (hb:n+1<=17592186044416)
  (hk: ∀(s':TH) (a':Option Addr) (c':Nat),Own s' a' (n+1) c' e 1 (ivs (xs++[x])) τ->Ch [τ] s s'->K (.slice a' (n+1) c') s'.h):
  semW P (Builtin.append_ #[t,t] ty #[.slice a n c,.slice (some ⟨r,0,none⟩) 1 mc]) E s.h K:=
 app_iv (ys:=[x]) ht hi hO hx.sl rfl hb hk
theorem app_bv {xs ys:List UInt8} (ht:P.underlying t=some (.slice e)) (hi:(P.info? e).map (fun i=>(i.zero,i.size,i.bytes))=some (some (.int .u8 0),1,1))
  (hO:Own s a n c e 1 (bvs xs) τ) (hx:Sl s xa (bvs ys) τ') (hm:ys.length=m) (hb:n+m<=140737488355328)
  (hk: ∀(s':TH) (a':Option Addr) (c':Nat),Own s' a' (n+m) c' e 1 (bvs (xs++ys)) τ->Ch [τ] s s'->K (.slice a' (n+m) c') s'.h):
  semW P (Builtin.append_ #[t,t] ty #[.slice a n c,.slice xa m mc]) E s.h K:=
 app_i ht hi rfl hO hx (by rw [bvs_len];omega) (bvs_one _) (fun h=>by subst h;have h0:=congrArg List.length hx.len0;rw [bvs_len,List.length_nil] at h0;omega) (by unfold maxLen;omega)
  fun s' a' c' h1 h2 _=>hk s' a' c' (by unfold bvs at*;rw [List.map_append];exact h1) (h2.ch hO (by simp))
end
def overlay (l:List UInt8) (p:Nat) (x:List UInt8):List UInt8:=l.take p++x++l.drop (p+x.length)
theorem copy_sl {P:Program} {t t2 ty e:TypeId} {E:List PanicEntry->Heap->Prop} {s:TH} {a:Addr} {xa:Option Addr} {n c m mc τ τx:Nat} {p:Int} {l x:List UInt8} {K:Value->Heap->Prop}
  (ht:P.underlying t=some (.slice e)) (hi':(P.info? e).map (fun i=>(i.zero,i.size,i.bytes))=some (some (.int .u8 0),1,1))
  (hO:Own s (some a) n c e 1 (bvs l) τ) (hx:Sl s xa (bvs x) τx) (hm:x.length=m) (h0:0<=p) (hp:p.toNat+m<=n)
  (hk: ∀s':TH,Own s' (some a) n c e 1 (bvs (overlay l p.toNat x)) τ->Ch [τ] s s'->s.h.size=s'.h.size->K (.int .i64 (m:Int)) s'.h):
  semW P (Builtin.copy_ #[t,t2] ty #[.slice (slO (some a) 1 p (c:Int)) (n - p.toNat) (c - p.toNat),.slice xa m mc]) E s.h K:=by
 have hmin:min m (n - p.toNat)=m:=by omega
 have h:=copy_gen (P:=P) (t2:=t2) (ty:=ty) (E:=E) (m:=m) (x:=x) (p:=p.toNat) (src:=.slice xa m mc) (K:=K) ht hi' hO (by omega) (fun w=>rfl) (by omega) (fun w hw=>by
  rw [hmin]
  cases xa with
  |none=>
   have:=congrArg List.length hx.len0
   rw [bvs_len,List.length_nil] at this
   obtain rfl:m=0:=by omega
   have:x=[]:=List.eq_nil_of_length_eq_zero hm
   subst this
   rw [run_firstCells_none];rfl
  |some b=>exact run_firstCells_some (P:=P) w 1 m b m mc _ (by rw [bvs_len];omega) fun j u hu=>hx.cells w hw j u hu)
  (fun s' h1 h2 h3=>by rw [hmin];exact hk s' h1 (h2.ch hO (by simp)) h3)
 rw [Int.toNat_of_nonneg h0] at h
 exact h
end Go.Proofs.YtkaikaodhegmhaaGreat.E
namespace Go.Proofs.YtkaikaodhegmhaaGreat.E
open Go Go.Proofs Go.RowKit Go.Maps Go.Shelf Go.Sort
set_option linter.unusedVariables false
set_option linter.unusedSimpArgs false
structure PatM where
 id:Int
 blk:Int
 off:Int
 by_:List UInt8
 needs:List Int
structure PatchM where
 last:Int
 done:List Int
 l:List PatM
def PatV (s:TH) (τ:Nat) (v:Value) (p:PatM):Prop:=∃ba bc na nc,v=.agg #[.int .i64 p.id,.int .i64 p.blk,.int .i64 p.off,.slice ba p.by_.length bc,.slice na p.needs.length nc]/\Sl s ba (bvs p.by_) τ/\Sl s na (ivs p.needs) τ
theorem PatV.mv {s s':TH} {τ:Nat} {v:Value} {p:PatM} {B:Nat->Prop} (h:PatV s τ v p) (c:Chg B s s') (hn: ∀j,j<s.h.size->s.g j=τ->¬B j):PatV s' τ v p:=by
 obtain ⟨ba,bc,na,nc,h1,h2,h3⟩:=h
 exact ⟨ba,bc,na,nc,h1,h2.mv c hn,h3.mv c hn⟩
def PMap (s:TH) (τ:Nat):List (Int×Value)->List PatM->Prop
 |[],[]=>True
 |e::m,p::l=>e.1=p.id/\PatV s τ e.2 p/\PMap s τ m l
 |_,_=>False
theorem PMap.mv {s s':TH} {τ:Nat} {B:Nat->Prop}: ∀ {m:List (Int×Value)} {l:List PatM},PMap s τ m l->Chg B s s'->(∀j,j<s.h.size->s.g j=τ->¬B j)->PMap s' τ m l
 |[],[],h,c,hn=>trivial
 |e::m,p::l,h,c,hn=>⟨h.1,h.2.1.mv c hn,PMap.mv h.2.2 c hn⟩
 |[],_::_,h,_,_=>h.elim
 |_::_,[],h,_,_=>h.elim
theorem PMap.keys {s:TH} {τ:Nat}: ∀ {m:List (Int×Value)} {l:List PatM},PMap s τ m l->m.map (·.1)=l.map (·.id)
 |[],[],_=>rfl
 |e::m,p::l,h=>by rw [List.map_cons,List.map_cons,h.1,PMap.keys h.2.2]
 |[],_::_,h=>h.elim
 |_::_,[],h=>h.elim
def PatchM.find (P:PatchM) (i:Int):Option PatM:=P.l.find? fun p=>p.id==i
def PatchM.all (P:PatchM):List Int:=P.l.map (·.id)
def PatchM.pend (P:PatchM) (ids:List Int):List Int:=P.all.filter fun i=>decide (i∈ids)
def PatchM.of (P:PatchM) (b:Int):List Int:=(P.l.filter fun p=>p.blk==b).map (·.id)
theorem PMap.some_ {s:TH} {τ:Nat}: ∀ {m:List (Int×Value)} {l:List PatM} {i:Int} {p:PatM},PMap s τ m l->(l.find? fun p=>p.id==i)=some p->∃v,mget i m=some v/\PatV s τ v p/\p.id=i/\(i,v)∈m
 |[],[],i,p,h,hf=>by simp at hf
 |e::m,q::l,i,p,h,hf=>by
  obtain ⟨k,v⟩:=e
  rw [List.find?_cons] at hf
  have hk:k=q.id:=h.1
  by_cases hq:q.id=i
  ·rw [show (q.id==i)=true by simpa using hq] at hf
   simp at hf;subst hf
   exact ⟨v,by rw [mget,if_pos (by rw [hk,hq])],h.2.1,hq,by rw [←hq, ←hk];simp⟩
  rw [show (q.id==i)=false by simpa using hq] at hf
  obtain ⟨v',h1,h2,h3,h4⟩:=PMap.some_ h.2.2 hf
  exact ⟨v',by rw [mget,if_neg (by rw [hk];exact fun e=>hq e.symm)];exact h1,h2,h3,List.mem_cons_of_mem _ h4⟩
 |[],_::_,_,_,h,_=>h.elim
 |_::_,[],_,_,h,_=>h.elim
theorem PMap.mem_ {s:TH} {τ:Nat}: ∀ {m:List (Int×Value)} {l:List PatM} {k:Int} {v:Value},PMap s τ m l->(k,v)∈m->∃p∈l,p.id=k/\PatV s τ v p
 |[],[],k,v,h,hm=>by cases hm
 |e::m,q::l,k,v,h,hm=>by
  rcases List.mem_cons.1 hm with rfl|hm
  ·exact ⟨q,by simp,h.1.symm,h.2.1⟩
  obtain ⟨p,h1,h2⟩:=PMap.mem_ h.2.2 hm
  exact ⟨p,List.mem_cons_of_mem _ h1,h2⟩
 |[],_::_,_,_,h,_=>h.elim
 |_::_,[],_,_,h,_=>h.elim
theorem PMap.snoc {s:TH} {τ:Nat} {v:Value} {p:PatM} (hv:PatV s τ v p): ∀ {m:List (Int×Value)} {l:List PatM},PMap s τ m l->p.id∉l.map (·.id)->PMap s τ (mset p.id v m) (l++[p])
 |[],[],h,_=>⟨rfl,hv,trivial⟩
 |e::m,q::l,h,hn=>by
  obtain ⟨k,x⟩:=e
  have hk:k=q.id:=h.1
  rw [List.map_cons,List.mem_cons,not_or] at hn
  show PMap s τ (if p.id=k then (p.id,v)::m else (k,x)::mset p.id v m) (q::(l++[p]))
  rw [if_neg (by rw [hk];exact hn.1)]
  exact ⟨h.1,h.2.1,PMap.snoc hv h.2.2 hn.2⟩
 |[],_::_,h,_=>h.elim
 |_::_,[],h,_=>h.elim
theorem PMap.del {s:TH} {τ:Nat} {i:Int}: ∀ {m:List (Int×Value)} {l:List PatM},PMap s τ m l->(l.map (·.id)).Nodup->PMap s τ (mdel i m) (l.filter fun p=> !(p.id==i))
 |[],[],h,_=>trivial
 |e::m,q::l,h,hn=>by
  obtain ⟨k,x⟩:=e
  have hk:k=q.id:=h.1
  rw [List.map_cons,List.nodup_cons] at hn
  show PMap s τ (if i=k then m else (k,x)::mdel i m) _
  rw [List.filter_cons]
  by_cases hq:q.id=i
  ·rw [if_pos (by rw [hk,hq]),show (!(q.id==i))=false by simpa using hq]
   simp only [Bool.false_eq_true,if_false]
   have:(l.filter fun p=> !(p.id==i))=l:=List.filter_eq_self.2 fun p hp=>by
    simp only [Bool.not_eq_true',beq_eq_false_iff_ne]
    intro e;exact hn.1 (by rw [hq, ←e];exact List.mem_map.2 ⟨p,hp,rfl⟩)
   rw [this];exact h.2.2
  rw [if_neg (by rw [hk];exact fun e=>hq e.symm),show (!(q.id==i))=true by simpa using hq]
  simp only [if_true]
  exact ⟨h.1,h.2.1,PMap.del h.2.2 hn.2⟩
 |[],_::_,h,_=>h.elim
 |_::_,[],h,_=>h.elim
structure POk (P:PatchM):Prop where
 srt:P.l.Pairwise fun x y=>x.id<y.id
 rng: ∀x∈P.l,1<=x.id/\x.id<=P.last
 fit: ∀x∈P.l,0<=x.blk/\0<=x.off/\1<=x.by_.length/\x.off+x.by_.length<=128
 nds: ∀x∈P.l,∀n∈x.needs,1<=n/\n<x.id
 nsr: ∀x∈P.l,x.needs.Pairwise (· < ·)
 dn: ∀i∈P.done,1<=i/\i<=P.last
 all: ∀i,1<=i->i<=P.last->i∈P.done∨i∈P.l.map (·.id)
 dis: ∀i∈P.done,i∉P.l.map (·.id)
 lst:0<=P.last/\P.last<=1000000
structure PSetP (s:TH) (p T:Nat) (P:PatchM) (r1 r2:Nat) (m1 m2:List (Int×Value)):Prop where
 blk:Blk s p [.int .i64 P.last,.map (some r1),.map (some r2),.bool true] 161 T
 dm:MapK (Value.int .i64) s r1 m1 (T+1)
 lm:MapK (Value.int .i64) s r2 m2 (T+2)
 pm:PMap s (T+3) m2 P.l
 dk:m1.map (·.1)=P.done
 dv: ∀e∈m1,e.2=.agg #[]
structure PSet (s:TH) (p T:Nat) (P:PatchM):Prop where
 p: ∃r1 r2 m1 m2,PSetP s p T P r1 r2 m1 m2
 ok:POk P
theorem PSetP.mv {s s':TH} {p T r1 r2:Nat} {P:PatchM} {m1 m2:List (Int×Value)} {B:Nat->Prop} (h:PSetP s p T P r1 r2 m1 m2) (c:Chg B s s') (hn: ∀j,j<s.h.size->T<=s.g j->s.g j<T+10->¬B j):PSetP s' p T P r1 r2 m1 m2:=
 ⟨h.blk.mv c (of_rng hn (Nat.le_refl _) (by omega) p h.blk.lt h.blk.tag),h.dm.mv c (of_rng hn (by omega) (by omega) r1 h.dm.lt h.dm.tag),h.lm.mv c (of_rng hn (by omega) (by omega) r2 h.lm.lt h.lm.tag),h.pm.mv c (of_rng hn (by omega) (by omega)),h.dk,h.dv⟩
theorem PSet.mv {s s':TH} {p T:Nat} {P:PatchM} {B:Nat->Prop} (h:PSet s p T P) (c:Chg B s s') (hn: ∀j,j<s.h.size->T<=s.g j->s.g j<T+10->¬B j):PSet s' p T P:=by
 obtain ⟨⟨r1,r2,m1,m2,hp⟩,ok⟩:=h
 exact ⟨⟨r1,r2,m1,m2,hp.mv c hn⟩,ok⟩
theorem POk.nodup {P:PatchM} (h:POk P):(P.l.map (·.id)).Nodup:=(List.pairwise_map.2 h.srt).imp fun {a b} hab=>by omega
theorem POk.asrt {P:PatchM} (h:POk P):P.all.Pairwise (· < ·):=List.pairwise_map.2 h.srt
theorem POk.find_mem {P:PatchM} {i:Int} {x:PatM} (hf:P.find i=some x):x∈P.l/\x.id=i:=⟨List.mem_of_find?_eq_some hf,by simpa using List.find?_some hf⟩
theorem find_isSome {P:PatchM} {i:Int}:(P.find i).isSome=true↔i∈P.all:=by
 unfold PatchM.find PatchM.all
 rw [List.find?_isSome]
 constructor
 ·rintro ⟨x,hx,e⟩;exact List.mem_map.2 ⟨x,hx,by simpa using e⟩
 intro h;obtain ⟨x,hx,e⟩:=List.mem_map.1 h;exact ⟨x,hx,by simpa using e⟩
theorem rise_len : ∀(l:List Int) (a b:Int),l.Pairwise (· < ·)->(∀x∈l,a<=x/\x<=b)->a<=b+1->(l.length:Int)<=b - a+1
 |[],a,b,_,_,hab=>by simp;omega
 |x::l,a,b,h,hr,hab=>by
  rw [List.pairwise_cons] at h
  have hx:=hr x (by simp)
  have:=rise_len l (x+1) b h.2 (fun y hy=>⟨by have:=h.1 y hy;omega,(hr y (List.mem_cons_of_mem _ hy)).2⟩) (by omega)
  rw [List.length_cons];omega
theorem POk.lenl {P:PatchM} (h:POk P):(P.l.length:Int)<=P.last:=by
 have:=rise_len P.all 1 P.last h.asrt (fun x hx=>by obtain ⟨p,hp,rfl⟩:=List.mem_map.1 hx;exact h.rng p hp) (by have:=h.lst;omega)
 unfold PatchM.all at this;rw [List.length_map] at this;omega
theorem dA5 {a b c d e:Value} {k:VF 5} (h:(k:Value->Value->Value->Value->Value->Prop) a b c d e):dA 5 (.agg #[a,b,c,d,e]) k:=h
theorem z163 (w:World):(zeroValue 163).run Tryz.prog w=.ok (.agg #[.int .i64 0,.int .i64 0,.int .i64 0,.slice none 0 0,.slice none 0 0]) w:=by kernel_rfl
theorem um159 :Tryz.prog.underlying 159=some (.map 3 163):=by kernel_rfl
theorem c_own (p T:Nat) (P:PatchM)  (s:TH) (hT:10<=T) (hp:PSet s p T P):TRet Tryz.prog 96 #[.pointer (some ⟨p,0,none⟩)] s fun v s'=>v=.bool true/\Ch [] s s':=by
 obtain ⟨⟨rd,rl,md,ml,hP⟩,ok⟩:=id hp
 have hpb:=hP.blk
 have hpd:=hP.dm
 have hpl:=hP.lm
 have hpm:=hP.pm
 have hlst:=ok.lst
 refine F96_calls _  ?_
 unfold F96
 refine sB_t (by rfl) (nz_i (ld_t hpb rfl (dBl_i ?_)))
 refine ret_t ?_
 exact ⟨rfl,(Ch.refl [] s)⟩
def fitsP (b o n:Int):Prop:=0<=b/\0<=o/\0<n/\o<=128/\n<=128 - o
instance (b o n : Int) : Decidable (fitsP b o n) := by unfold fitsP; infer_instance
def ovl (b o n b' o' n':Int):Prop:=b=b'/\o<o'+n'/\o'<o+n
instance (b o n b' o' n' : Int) : Decidable (ovl b o n b' o' n') := by unfold ovl; infer_instance
theorem cpt_mem (l:List Int) (x:Int):x∈cpt l↔x∈l:=by
 refine snoc_ind (p:=fun l=>x∈cpt l↔x∈l) (by simp [cpt]) (fun l y ih=>?_) l
 rw [cpt_snoc,List.mem_append,List.mem_singleton]
 unfold cptS
 split
 ·rename_i h
  rw [ih]
  constructor
  ·exact .inl
  rintro (h1|rfl)
  ·exact h1
  exact ih.1 (List.mem_of_getLast? h)
 rw [List.mem_append,List.mem_singleton,ih]
theorem cpt_srt {l:List Int} (h:l.Pairwise (· <= ·)):(cpt l).Pairwise (· < ·):=by
 revert h
 refine snoc_ind (p:=fun l=>l.Pairwise (· <= ·)->(cpt l).Pairwise (· < ·)) (by simp [cpt]) (fun l y ih h=>?_) l
 rw [List.pairwise_append] at h
 rw [cpt_snoc]
 unfold cptS
 split
 ·exact ih h.1
 rename_i hy
 refine List.pairwise_append.2 ⟨ih h.1,by simp,fun a ha b hb=>?_⟩
 rw [List.mem_singleton] at hb;subst hb
 have h1:=h.2.2 a ((cpt_mem l a).1 ha) b (by simp)
 rcases Int.lt_or_eq_of_le h1 with h2|h2
 ·exact h2
 exfalso;subst h2
 have h3:=ih h.1
 obtain ⟨i,hi,e⟩:=List.getElem_of_mem ha
 apply hy
 rw [List.getLast?_eq_getElem?]
 have hl:(cpt l).length - 1<(cpt l).length:=by omega
 rw [List.getElem?_eq_getElem hl]
 congr 1
 by_cases hlt:i<(cpt l).length - 1
 ·have h4:=List.pairwise_iff_getElem.1 h3 i ((cpt l).length - 1) hi hl hlt
  have h5:=h.2.2 _ ((cpt_mem l _).1 (List.getElem_mem hl)) a (by simp)
  omega
 have:i=(cpt l).length - 1:=by omega
 subst this;exact e
theorem srt_ext {l m:List Int} (hl:l.Pairwise (· < ·)) (hm:m.Pairwise (· < ·)) (h: ∀x,x∈l↔x∈m):l=m:=by
 have nl:l.Nodup:=hl.imp fun hab=>by omega
 have nm:m.Nodup:=hm.imp fun hab=>by omega
 exact ((List.perm_ext_iff_of_nodup nl nm).2 h).eq_of_pairwise (le:=(· < ·)) (fun a b _ _ h1 h2=>by omega) hl hm
theorem srtd (l:List Int):(l.mergeSort fun x y=>decide (x<=y)).Pairwise (· <= ·):=by
 have:=List.pairwise_mergeSort (le:=fun x y:Int=>decide (x<=y)) (fun a b c h1 h2=>by simp at*;omega) (fun a b=>by simp;omega) l
 exact this.imp fun h=>by simpa using h
theorem srt_filter {l:List Int} (h:l.Pairwise (· < ·)) (q:Int->Bool):(l.filter q).Pairwise (· < ·):=h.sublist List.filter_sublist
theorem take_get {α:Type} {l:List α} {k:Nat} {x:α} (h:l[k]? =some x):l.take (k+1)=l.take k++[x]:=by
 rw [List.take_add_one,h];rfl
theorem msort_perm {a b:List Int} (h:a.Perm b):(a.mergeSort fun x y=>decide (x<=y))=b.mergeSort fun x y=>decide (x<=y):=
 ((List.mergeSort_perm a _).trans (h.trans (List.mergeSort_perm b _).symm)).eq_of_pairwise (le:=(· <= ·)) (fun x y _ _ h1 h2=>by omega) (srtd a) (srtd b)
theorem srtd_id {a:List Int} (h:a.Pairwise (· < ·)):(a.mergeSort fun x y=>decide (x<=y))=a:=
 (List.mergeSort_perm a _).eq_of_pairwise (le:=(· <= ·)) (fun x y _ _ h1 h2=>by omega) (srtd a) (h.imp fun h=>by omega)
theorem c_collectB (τ:Nat) {Bm r tb τb τm:Nat} {m:List (Int×Value)} {s:TH} (hB:Blk s Bm [.map (some r)] tb τb) (hm:MapK (Value.int .i64) s r m τm) (hn:m.length<=17592186044416) (hk: ∀k∈m.map (·.1),inI64 k):
  TRet Tryz.prog 288 #[.func (.func 317) #[] #[.pointer (some ⟨Bm,0,none⟩)]] s fun v s'=>∃a c ss,v=.slice a m.length c/\Ch [] s s'/\ss.Perm (m.map (·.1))/\Own s' a m.length c 3 1 (ivs ss) τ:=by
 refine TRet.mono (Q:=fun v s'=>(∃a c ss,v=.slice a m.length c/\ss.Perm (m.map (·.1))/\Own s' a m.length c 3 1 (ivs ss) τ)/\Ch [] s s') (tret_new τ fun w hw=>?_) (fun v s' ⟨⟨a,c,ss,h1,h2,h3⟩,h4⟩=>⟨a,c,ss,h1,h4,h2,h3⟩)
 have hm0:w.cell? ⟨Bm,0,none⟩=some (.map (some r)):=by rw [cell_eq,hw];exact hB.cell 0
 obtain ⟨D0,ho,hp,hsz⟩:=owns_of (P:=Tryz.prog) (K:=3) (by kernel_rfl) hm w hw hn hk
 have hseq:SeqGives Fence.wide 4 Tryz.prog 317 #[.pointer (some ⟨Bm,0,none⟩)] encZ (fun ss:List Int=>ss.Perm (intKeys D0)) (Go.Maps.size D0) w:=
  AnyZI.keys_gives (ρ:=Tryz.keysB_ren) { Tryz.keysB with } Fence.wide 4 trivial rfl (by omega) Bm r m.length D0 w (by rw [hw];exact hB.lt) hm0 ho
 have h:=AnyZI.collect_in (ρ:=Tryz.collectA_ren) Tryz.collectA Fence.wide 6 trivial trivial rfl (by omega) 317 #[.pointer (some ⟨Bm,0,none⟩)] trivial (enters_of Tryz.func317 (by kernel_rfl) rfl) _ (Go.Maps.size D0) (by rw [hsz];unfold maxLen;omega) (by rw [hsz];omega) w hseq
 refine ((callsIn_wide (n:=6)).1 h).mono ?_
 rintro e w' ⟨v,ss,rfl,hs,hrow,hv,hb⟩
 have hp2:=hs.trans hp
 have hl:ss.length=m.length:=by rw [hp2.length_eq];simp
 obtain ⟨a,c,rfl,hO,hnew⟩:=own_of_row (g:=fun j=>if j<s.h.size then s.g j else τ) (τ:=τ) hrow (fun j hj=>by rw [if_neg (by rw [←hw];omega)])
 rw [hl] at hO ⊢
 exact ⟨_,rfl,hb,a,c,ss,rfl,hp2,hO⟩
theorem c_keysB (τ r:Nat) (s:TH):TRet Tryz.prog 285 #[.map (some r)] s fun v s'=>∃B,v=.func (.func 317) #[] #[.pointer (some ⟨B,0,none⟩)]/\Ch [] s s'/\Blk s' B [.map (some r)] 159 τ:=by
 refine F285_calls _  ?_
 unfold F285
 refine al_t τ fun r1 s2 c a b d=>?_
 refine ret_t ?_
 exact ⟨_,rfl,((Ch.refl [] s).ch b (by simp)),a⟩
theorem c_sortedB (τ:Nat) {Bm r tb τb τm:Nat} {m:List (Int×Value)} (s:TH) (hB:Blk s Bm [.map (some r)] tb τb) (hm:MapK (Value.int .i64) s r m τm) (hn:m.length<=17592186044416) (hk: ∀k∈m.map (·.1),inI64 k):TRet Tryz.prog 236 #[.func (.func 317) #[] #[.pointer (some ⟨Bm,0,none⟩)]] s fun v s'=>∃a c,v=.slice a m.length c/\Ch [] s s'/\Own s' a m.length c 3 1 (ivs ((m.map (·.1)).mergeSort fun x y=>decide (x<=y))) τ:=by
 obtain ⟨M,hM,hM0,hMa,hMb,hMc,hMd,hMe,hMf⟩:=fresh6 s τb τm τ 0 0 0
 refine F236_calls _ _ _  ?_
 unfold F236
 refine tcall (c_collectB (M+1) hB hm (by omega) hk) ?_
 rintro o p ⟨i,j,b,rfl,g,d,e⟩
 have q:=g.size
 refine dSl_i ?_
 refine tcall (c_sortInt e (by omega)) ?_
 rintro t l ⟨rfl,h,f⟩
 have n:=h.size
 have ho:=f
 rw [show (b.mergeSort fun x y=>decide (x<=y))=(m.map (·.1)).mergeSort fun x y=>decide (x<=y) from msort_perm d] at ho
 exact ret_t' (s':=remark l (M+1) τ) rfl ⟨_,_,rfl,remark_ch (((Ch.refl [] s).ch g (by simp)).fr h hM (by simp)) hM (by omega),ho.remark⟩
theorem c_pall (p T:Nat) (P:PatchM) (τ:Nat) (s:TH) (hT:10<=T) (hp:PSet s p T P):TRet Tryz.prog 228 #[.pointer (some ⟨p,0,none⟩)] s fun v s'=>∃a c',v=.slice a P.l.length c'/\Ch [] s s'/\Own s' a P.l.length c' 3 1 (ivs P.all) τ:=by
 obtain ⟨⟨rd,rl,md,ml,hP⟩,ok⟩:=id hp
 have hpb:=hP.blk
 have hpd:=hP.dm
 have hpl:=hP.lm
 have hpm:=hP.pm
 have hlst:=ok.lst
 obtain ⟨M,hM,hM0,hMa,hMb,hMc,hMd,hMe,hMf⟩:=fresh6 s (T+10) τ 0 0 0 0
 refine F228_calls _  ?_
 unfold F228
 refine nz_i (ld_t hpb rfl (dMap_i ?_))
 refine tcall (c_keysB (M+1) _ _) ?_
 rintro m n ⟨f,rfl,b,c⟩
 have o:=b.size
 have hkm:=hpm.keys
 have hml:ml.length=P.l.length:=by have:=congrArg List.length hkm;simpa using this
 have hll:=ok.lenl
 have g:=hpl.ch b (by simp)
 refine tcall (c_sortedB τ _ c g (by omega) (fun k hk=>by rw [hkm] at hk;obtain ⟨x,hx,rfl⟩:=List.mem_map.1 hk;have:=ok.rng x hx;unfold inI64;omega)) ?_
 rintro q r ⟨h,i,rfl,d,e⟩
 have j:=d.size
 refine dSl_i ?_
 refine ret_t ?_
 have ho:=e
 rw [hkm,show (P.l.map (·.id))=P.all from rfl,srtd_id ok.asrt,hml] at ho
 rw [hml]
 exact ⟨_,_,rfl,(((Ch.refl [] s).ch b (by simp)).ch d (by simp)),ho⟩
set_option maxRecDepth 100000 in
/-- slices.IndexFunc[[]int,int] -/
theorem c_ixIntF {a:Option Addr} {n:Nat} (c:Nat) {g:Nat} {xf xc:Array Value} {l:List Int} {τ:Nat} {s:TH} (q:Int->Bool) (hq:Sl s a (ivs l) τ) (hn:l.length=n) (hb:n<=140737488355328) (hg:plainFn Tryz.prog g=true) (hp: ∀(s1:TH) (x:Int),x∈l->Ch [] s s1->TRet Tryz.prog g (argsOf xf [.int .i64 x] xc) s1 fun v s2=>v=.bool (q x)/\Ch [] s1 s2):TRet Tryz.prog 210 #[.slice a n c,.func (.func g) xf xc] s fun v s'=>v=.int .i64 (ixf q l)/\Ch [] s s':=by
 refine F210_calls _ _ _ _ _ _  ?_
 unfold F210
 refine ⟨fun vs H'=>∃s':TH,s'.h=H'/\∃m,vs=[.int .i64 m]/\Ch [] s s'/\(∃k:Nat,m=k/\k<=n/\∀j x,j<k->l[j]? =some x->q x=false),fun vs H'=>match vs with|[.int .i64 m]=>((n:Int) - m).toNat|_=>0,⟨s,rfl,_,rfl,Ch.refl _ _,?_⟩,?_⟩
 ·exact ⟨0,rfl,by omega,fun j x h=>by omega⟩
 intro m
 iterate 12 intro _
 intro H_ hI_2
 obtain ⟨w,rfl,m_,hvs,b,k,rfl,hk,hall⟩:=hI_2
 cases hvs
 have z:=b.size
 refine sB_d (fun p=>?_) (fun p=>?_)
 ·have o:=hq.mv b (tagn (by simp))
  obtain ⟨A,rfl⟩:=o.ne_none (by simp [bvs_len,ivs_len];omega)
  refine nz_i (ask_t (by omega) ?_)
  refine ld_iv o (by omega) (by omega) fun t d=>?_
  rw [Int.toNat_natCast] at d
  refine dInt_i ?_
  refine gB_i hg ?_
  refine tcall (hp _ _ (List.mem_of_getElem? d) ((Ch.refl [] s).ch b (by simp))) ?_
  rintro B r ⟨rfl,f⟩
  have u:=f.size
  refine dBl_i ?_
  refine sB_i (fun i=>?_) (fun i=>?_)
  ·refine ret_t ?_
   exact ⟨ret_i (ixf_some d i hall).symm,(((Ch.refl [] s).ch b (by simp)).ch f (by simp))⟩
  refine wr_t (by omega) ?_
  refine ⟨⟨r,rfl,_,rfl,(((Ch.refl [] s).ch b (by simp)).ch f (by simp)),?_⟩,?_⟩
  ·refine ⟨k+1,by omega,by omega,fun j y hj hy=>?_⟩
   by_cases e:j=k
   ·subst e;rw [d] at hy;cases hy;exact i
   exact hall j y (by omega) hy
  simp only [];omega
 refine ret_t ?_
 exact ⟨ret_i (ixf_none fun j y hj hy=>hall j y (by omega) hy).symm,((Ch.refl [] s).ch b (by simp))⟩
theorem set_take_snoc {l:List Int} {i:Nat} {x:Int} (h:i<l.length):(l.set i x).take (i+1)=l.take i++[x]:=by
 rw [List.take_add_one,List.getElem?_set_self h,List.take_set_of_le (Nat.le_refl _)];rfl
theorem filt_snoc {l:List Int} {k:Nat} {x:Int} (q:Int->Bool) (h:l[k]? =some x):(l.take (k+1)).filter (fun y=> !q y)=if q x=true then (l.take k).filter (fun y=> !q y) else (l.take k).filter (fun y=> !q y)++[x]:=by
 rw [take_get h,List.filter_append,List.filter_cons]
 cases hq:q x<;>simp
theorem ixf_take {l:List Int} {q:Int->Bool} {k:Nat} (h:ixf q l=(k:Int)): ∃x,l[k]? =some x/\q x=true/\(l.take k).filter (fun y=> !q y)=l.take k:=by
 have: ∀(l:List Int) (i k:Nat),ixr q l i=((i+k:Nat):Int)->∃x,l[k]? =some x/\q x=true/\(l.take k).filter (fun y=> !q y)=l.take k:=fun l=>by
  induction l with
  |nil=>intro i k h;simp [ixr] at h;omega
  |cons y l ih=>
   intro i k h
   rw [ixr] at h
   cases hy:q y with
   |true=>
    rw [hy,if_pos rfl] at h
    obtain rfl:k=0:=by omega
    exact ⟨y,rfl,hy,by simp⟩
   |false=>
    rw [hy,if_neg (by simp)] at h
    cases k with
    |zero=>
     exfalso
     have hr:ixr q l (i+1)= -1∨(i+1:Nat)<=ixr q l (i+1):=by
      clear h ih hy
      generalize i+1=m
      induction l generalizing m with
      |nil=>left;rfl
      |cons z l ih=>
       rw [ixr]
       cases q z with
       |true=>right;simp
       |false=>rcases ih (m+1) with h|h<;>simp [h]<;>omega
     omega
    |succ k=>
     obtain ⟨x,h1,h2,h3⟩:=ih (i+1) k (by rw [h];congr 1;omega)
     exact ⟨x,by simpa using h1,h2,by rw [List.take_succ_cons,List.filter_cons,hy];simp only [Bool.not_false,if_true];rw [h3]⟩
 exact this l 0 k (by rw [show 0+k=k by omega];exact h)
set_option maxRecDepth 100000 in
/-- slices.DeleteFunc[[]int,int] -/
theorem c_dfInt {a:Option Addr} {n:Nat} (c:Nat) {g:Nat} {xf xc:Array Value} {l:List Int} {τ:Nat} {s:TH} (q:Int->Bool) (hO:Own s a n c 3 1 (ivs l) τ) (hb:n<=17592186044416) (hg:plainFn Tryz.prog g=true) (hp: ∀(s1:TH) (x:Int),x∈l->Ch [τ] s s1->TRet Tryz.prog g (argsOf xf [.int .i64 x] xc) s1 fun v s2=>v=.bool (q x)/\Ch [] s1 s2):TRet Tryz.prog 224 #[.slice a n c,.func (.func g) xf xc] s fun v s'=>v=.slice a (l.filter fun y=> !q y).length c/\Ch [τ] s s'/\Own s' a (l.filter fun y=> !q y).length c 3 1 (ivs (l.filter fun y=> !q y)) τ:=by
 have hl:l.length=n:=by have:=hO.1;rw [ivs_len] at this;omega
 have hle:=hO.le
 refine F224_calls _ _ _ _ _ _  ?_
 unfold F224
 refine tcall (c_ixIntF c q hO.sl hl (by omega) hg (fun s1 x hx hc=>hp s1 x hx (hc.less (by simp)))) ?_
 rintro V r ⟨rfl,f⟩
 have W:=f.size
 refine dInt_i ?_
 refine sB_i (fun o=>?_) (fun o=>?_)
 ·simp only [beq_iff_eq,beq_eq_false_iff_ne] at o
  refine ret_t ?_
  have K:=hO.mv f (tagn (by simp))
  rcases ixf_cases q l with ⟨h1,h2⟩|⟨k,x,h1,h2,h3⟩
  rotate_left
  ·omega
  have e:(l.filter fun y=> !q y)=l:=List.filter_eq_self.2 fun x hx=>by simp [h2 x hx]
  rw [e,hl]
  exact ⟨rfl,((Ch.refl [τ] s).ch f (by simp)),K⟩
 simp only [beq_iff_eq,beq_eq_false_iff_ne] at o
 obtain ⟨k0,hk0⟩: ∃k:Nat,ixf q l=(k:Int):=by
  rcases ixf_cases q l with ⟨h1,h2⟩|⟨k,x,h1,h2,h3⟩
  ·exact absurd h1 o
  exact ⟨k,h1⟩
 obtain ⟨x0,hx0,hq0,hf0⟩:=ixf_take hk0
 have hk0l:=(List.getElem?_eq_some_iff.1 hx0).1
 rw [hk0]
 refine wr_t (by omega) ?_
 refine ⟨fun vs H'=>∃s':TH,s'.h=H'/\∃i1 j1,vs=[.int .i64 i1,.int .i64 j1]/\Ch [τ] r s'/\(∃(i j:Nat) (X:List Int),i1=i/\j1=j/\i<j/\j<=n/\Own s' a n c 3 1 (ivs X) τ/\X.drop j=l.drop j/\X.take i=(l.take j).filter fun y=> !q y),fun vs H'=>match vs with|[.int .i64 i1,.int .i64 j1]=>((n:Int) - j1).toNat|_=>0,⟨r,rfl,_,_,rfl,Ch.refl _ _,?_⟩,?_⟩
 ·have L:=hO.mv f (tagn (by simp))
  refine ⟨k0,k0+1,l,rfl,by omega,by omega,by omega,L,rfl,?_⟩
  rw [filt_snoc q hx0,if_pos hq0,hf0]
 intro i1 j1
 iterate 21 intro _
 intro H_ hI_9
 obtain ⟨Y,rfl,i1_,j1_,hvs,b,i,j,X,rfl,rfl,hij,hj,ho,hX1,hX2⟩:=hI_9
 cases hvs
 have N:=b.size
 have hXn:X.length=n:=by have:=ho.1;rw [ivs_len] at this;omega
 refine sB_d (fun B=>?_) (fun B=>?_)
 ·refine jn_u ?_
  obtain ⟨O,rfl⟩:=ho.ne_none (by omega)
  refine nz_i (ask_t (by omega) ?_)
  refine ld_iv ho.sl (by omega) (by omega) fun t w=>?_
  rw [Int.toNat_natCast] at w
  refine dInt_i ?_
  refine gB_i hg ?_
  have hlj:l[j]? =some t:=by have:=congrArg (·[0]?) hX1;simp only [List.getElem?_drop,Nat.add_zero] at this;rw [←this];exact w
  refine tcall (hp _ _ (List.mem_of_getElem? hlj) (((Ch.refl [τ] s).ch f (by simp)).ch b (by simp))) ?_
  rintro P C ⟨rfl,d⟩
  have Q:=d.size
  refine dBl_i ?_
  refine sB_n (fun p=>?_) (fun p=>?_)
  ·refine nz_i (ask_t (by omega) ?_)
   have D:=ho.mv d (tagn (by simp))
   refine st_iv D (by omega) (by omega) fun M E F R=>?_
   refine wr_t (by omega) ?_
   intro _
   intros
   refine dInt_i (wr_t (by omega) ?_)
   have G:=((b.app d).app F)
   refine ⟨⟨M,rfl,_,_,rfl,((Ch.refl [τ] r).ch G (by simp)),?_⟩,?_⟩
   ·refine ⟨i+1,j+1,X.set i t,by omega,by omega,by omega,by omega,?_,?_,?_⟩
    ·have h:=E;rw [Int.toNat_natCast] at h;exact h
    ·rw [List.drop_set_of_lt (by omega), ←List.drop_drop,hX1,List.drop_drop]
    rw [set_take_snoc (by omega),filt_snoc q hlj,if_neg (by simp [p]),hX2]
   simp only [];omega
  intro _
  intros
  refine dInt_i (wr_t (by omega) ?_)
  refine ⟨⟨C,rfl,_,_,rfl,(((Ch.refl [τ] r).ch b (by simp)).ch d (by simp)),?_⟩,?_⟩
  ·have H:=ho.mv d (tagn (by simp))
   refine ⟨i,j+1,X,by omega,by omega,by omega,by omega,H,?_,?_⟩
   ·rw [←List.drop_drop,hX1,List.drop_drop]
   rw [filt_snoc q hlj,if_pos (by simpa using p),hX2]
  simp only [];omega
 refine ask_t (by omega) ?_
 simp only [Int.toNat_natCast]
 refine clear_t u33 in3 rfl (by intro u hu;simp [Value.cells] at hu;subst hu;rfl) (ho.pre (m:=i) (by omega)) (m:=n) (by omega) (by omega) fun S I A _=>?_
 have z:=A.ch ho (T:=[τ]) (by simp)
 have U:=z.size
 refine ask_t (by omega) ?_
 refine ret_t ?_
 have J:=((f.app b).app z)
 have hjn:j=n:=by omega
 rw [hjn,List.take_of_length_le (l:=l) (by omega)] at hX2
 have hpl:(l.filter fun y=> !q y).length=i:=by rw [←hX2,List.length_take];omega
 have hO2:=I
 rw [Nat.mul_one,ivs_take,hX2] at hO2
 rw [hpl]
 simp only [slO_zero,Int.toNat_zero,Int.toNat_natCast,Nat.sub_zero]
 exact ⟨trivial,((Ch.refl [τ] s).ch J (by simp)),hO2⟩
theorem c_cloneB (τ:Nat) {xa:Option Addr} {xn:Nat} (xc:Nat) {l:List UInt8} {τx:Nat} {s:TH} (hx:Sl s xa (bvs l) τx) (hn:l.length=xn) (hb:xn<=140737488355328):TRet Tryz.prog 119 #[.slice xa xn xc] s fun v s'=>∃a c',v=.slice a xn c'/\Ch [] s s'/\Own s' a xn c' 5 1 (bvs l) τ:=by
 obtain ⟨M,hM,hM0,hMa,hMb,hMc,hMd,hMe,hMf⟩:=fresh6 s τx τ 0 0 0 0
 refine F119_calls _ _ _  ?_
 unfold F119
 refine sB_i (fun b=>?_) (fun b=>?_)
 ·have hxa:xa=none:=by simpa using b
  subst hxa
  have h0:=congrArg List.length hx.len0
  rw [bvs_len,List.length_nil] at h0
  have hl:l=[]:=List.eq_nil_of_length_eq_zero h0
  subst hl
  obtain rfl:xn=0:=by omega
  exact ret_t ⟨none,0,rfl,(Ch.refl [] s),Own.nil _ _ _ _⟩
 refine al_t (M+1) fun r1 s2 j e c k=>?_
 have hO0:Own s2 (some ⟨r1,0,none⟩) 0 0 5 1 (bvs []) (M+1):=e.own0 1
 have f:=hx.mv c (tagn (by simp))
 refine app_bv u49 in5 hO0 f (by omega) (by omega) fun g m n h d=>?_
 have i:=d.size
 refine dSl_i ?_
 rw [Nat.zero_add]
 have ho:=h
 rw [Nat.zero_add] at ho
 exact ret_t' (s':=remark g (M+1) τ) rfl ⟨_,_,rfl,remark_ch (((Ch.refl [] s).ch c (by simp)).fr d hM (by simp)) hM (by omega),ho.remark⟩
theorem find_by {P:PatchM} (hn:(P.l.map (·.id)).Nodup) {x:PatM} (hx:x∈P.l):P.find x.id=some x:=by
 unfold PatchM.find
 obtain ⟨last,done,l⟩:=P
 simp only at*
 induction l with
 |nil=>cases hx
 |cons y l ih=>
  rw [List.map_cons,List.nodup_cons] at hn
  rw [List.find?_cons]
  rcases List.mem_cons.1 hx with rfl|hx
  ·simp
  have:(y.id==x.id)=false:=by
   simp only [beq_eq_false_iff_ne]
   intro e;exact hn.1 (by rw [e];exact List.mem_map.2 ⟨x,hx,rfl⟩)
  rw [this];exact ih hn.2 hx
def PatchM.step (P:PatchM) (d:List UInt8) (i:Int):List UInt8:=match P.find i with
 |some x=>overlay d x.off.toNat x.by_
 |none=>d
def PatchM.over (P:PatchM) (d:List UInt8) (ids:List Int):List UInt8:=ids.foldl P.step d
def PatchM.fstep (P:PatchM) (l:List Int) (i:Int):List Int:=match P.find i with
 |some x=>if ((P.pend x.needs).all fun n=>decide (n∈l))=true then l++[i] else l
 |none=>l
def PatchM.free (P:PatchM) (b:Int):List Int:=(P.of b).foldl P.fstep []
theorem foldl_take {α β:Type} (f:β->α->β) (z:β) {l:List α} {k:Nat} {x:α} (h:l[k]? =some x):(l.take (k+1)).foldl f z=f ((l.take k).foldl f z) x:=by
 rw [List.take_add_one,h,List.foldl_append];rfl
theorem of_sub {P:PatchM} {b i:Int} (h:i∈P.of b):i∈P.all:=by
 unfold PatchM.of at h
 obtain ⟨x,hx,rfl⟩:=List.mem_map.1 h
 exact List.mem_map.2 ⟨x,(List.mem_filter.1 hx).1,rfl⟩
theorem of_len {P:PatchM} (ok:POk P) (b:Int):((P.of b).length:Int)<=P.last:=by
 have h1:(P.of b).length<=P.l.length:=by unfold PatchM.of;rw [List.length_map];exact List.length_filter_le _ _
 have:=ok.lenl;omega
theorem fstep_len (P:PatchM) (l:List Int) (i:Int):(P.fstep l i).length<=l.length+1:=by
 unfold PatchM.fstep
 split
 ·split<;>simp
 omega
theorem fsteps_len (P:PatchM): ∀(ids l:List Int),(ids.foldl P.fstep l).length<=l.length+ids.length
 |[],l=>by simp
 |i::ids,l=>by
  have h1:=fsteps_len P ids (P.fstep l i)
  have h2:=fstep_len P l i
  simp only [List.foldl_cons,List.length_cons];omega
theorem free_sub {P:PatchM} {b i:Int} (h:i∈P.free b):i∈P.of b:=by
 have: ∀(ids l:List Int),i∈ids.foldl P.fstep l->i∈l∨i∈ids:=fun ids=>by
  induction ids with
  |nil=>intro l h;exact .inl h
  |cons j ids ih=>
   intro l h
   rcases ih _ h with h1|h1
   ·unfold PatchM.fstep at h1
    split at h1
    ·split at h1
     ·rcases List.mem_append.1 h1 with h2|h2
      ·exact .inl h2
      rw [List.mem_singleton] at h2;exact .inr (by simp [h2])
     exact .inl h1
    exact .inl h1
   exact .inr (List.mem_cons_of_mem _ h1)
 exact (this _ [] h).resolve_left (by simp)
theorem free_len {P:PatchM} (ok:POk P) (b:Int):((P.free b).length:Int)<=P.last:=by
 have h1:=fsteps_len P (P.of b) []
 have h2:=of_len ok b
 unfold PatchM.free
 simp at h1;omega
theorem c_of1p (p T:Nat) (P:PatchM) (x b:Int) (r3 t1 t3 τ1 τ3 r0:Nat) (s:TH) (hT:10<=T) (hp:PSet s p T P) (hb1:Blk s r0 [.pointer (some ⟨p,0,none⟩)] t1 τ1) (hb3:Blk s r3 [.int .i64 b] t3 τ3) (hx:x∈P.all):TRet Tryz.prog 229 #[.int .i64 x,.pointer (some ⟨r0,0,none⟩),.pointer (some ⟨r3,0,none⟩)] s fun v s'=>v=.bool (!decide (x∈P.of b))/\Ch [] s s':=by
 obtain ⟨⟨rd,rl,md,ml,hP⟩,ok⟩:=id hp
 have hpb:=hP.blk
 have hpd:=hP.dm
 have hpl:=hP.lm
 have hpm:=hP.pm
 have hlst:=ok.lst
 refine F229_calls _ _ _  ?_
 unfold F229
 refine ld_t hb1 rfl (dPtr_i (nz_i (ld_t hpb rfl (dMap_i (ld_t hb3 rfl (dInt_i ?_))))))
 obtain ⟨a,hfxsem1⟩:=Option.isSome_iff_exists.1 (find_isSome.2 (hx))
 obtain ⟨wsem1,hvxsem1,⟨baxsem1,bcxsem1,naxsem1,ncxsem1,rfl,sbxsem1,snxsem1⟩,hidxsem1,hmemxsem1⟩:=hpm.some_ hfxsem1
 have hinxsem1:=(POk.find_mem hfxsem1).1
 refine look_s keyI um159 z163 hpl x hvxsem1 ?_
 refine dA5 ?_
 refine ⟨?_,?_⟩
 ·refine ld_t hb3 rfl (dInt_i ?_)
  rfl
 refine dInt_i ?_
 refine ret_t ?_
 refine ⟨ret_b ?_,(Ch.refl [] s)⟩
 have hd:=ok.nodup
 unfold PatchM.of
 by_cases e:a.blk=b
 ·rw [e,bne_self_eq_false,eq_comm,Bool.not_eq_false',decide_eq_true_iff]
  exact List.mem_map.2 ⟨a,List.mem_filter.2 ⟨hinxsem1,by simpa using e⟩,hidxsem1⟩
 rw [show (a.blk != b)=true by simpa using e,eq_comm,Bool.not_eq_true',decide_eq_false_iff_not]
 intro h
 obtain ⟨y,hy,hye⟩:=List.mem_map.1 h
 have h2:=List.mem_filter.1 hy
 have:y=a:=by
  have:=find_by hd h2.1
  rw [hye] at this
  exact Option.some.inj (this.symm.trans hfxsem1)
 subst this
 exact e (by simpa using h2.2)
theorem of_filter {P:PatchM} (ok:POk P) (b:Int):P.all.filter (fun y=> !!decide (y∈P.of b))=P.of b:=by
 refine srt_ext (srt_filter ok.asrt _) ?_ fun x=>?_
 ·unfold PatchM.of
  exact List.pairwise_map.2 (ok.srt.sublist List.filter_sublist)
 rw [List.mem_filter];simp;exact of_sub
theorem c_pof (p T:Nat) (P:PatchM) (τ:Nat) (b:Int) (s:TH) (hT:10<=T) (hp:PSet s p T P):TRet Tryz.prog 146 #[.pointer (some ⟨p,0,none⟩),.int .i64 b] s fun v s'=>∃a c',v=.slice a (P.of b).length c'/\Ch [] s s'/\Own s' a (P.of b).length c' 3 1 (ivs (P.of b)) τ:=by
 obtain ⟨⟨rd,rl,md,ml,hP⟩,ok⟩:=id hp
 have hpb:=hP.blk
 have hpd:=hP.dm
 have hpl:=hP.lm
 have hpm:=hP.pm
 have hlst:=ok.lst
 obtain ⟨M,hM,hM0,hMa,hMb,hMc,hMd,hMe,hMf⟩:=fresh6 s (T+10) τ 0 0 0 0
 refine F146_calls _ _  ?_
 unfold F146
 refine al_t (M+1) fun r1 s2 I u k J=>?_
 refine al_t (M+2) fun r3 s4 K w e L=>?_
 have l:=u.ch e (by simp)
 refine ld_t l rfl (dPtr_i ?_)
 have m:=hp.mv (k.app e) (rngn (by simp))
 refine tcall (c_own _ _ _ _ (by omega) m) ?_
 rintro B N ⟨rfl,c⟩
 have C:=c.size
 refine dBl_i (sB_f (by rfl) ?_)
 have f:=l.ch c (by simp)
 refine ld_t f rfl (dPtr_i ?_)
 have g:=m.mv c (rngn (by simp))
 refine tcall (c_pall _ _ _ (M+3) _ (by omega) g) ?_
 rintro D E ⟨z,A,rfl,d,h⟩
 have F:=d.size
 refine dSl_i ?_
 have hll:=ok.lenl
 have n:=f.ch d (by simp)
 have hr1f:=n
 have o:=w.ch (c.app d) (by simp)
 have hr3f:=o
 have q:=g.mv d (rngn (by simp))
 have hPf:=q
 refine tcall (c_dfInt _ (fun y=> !decide (y∈P.of b)) h (by omega) (by kernel_rfl) (fun s1 x hx hc=>c_of1p p T P x b r3 _ _ _ _ r1 s1 hT (hPf.mv hc (rngn (by simp<;>omega))) (hr1f.ch hc (by simp)) (hr3f.ch hc (by simp)) hx)) ?_
 rintro G r ⟨rfl,i,j⟩
 have H:=i.size
 refine dSl_i ?_
 have t:=(((k.app e).app c).app d)
 have ho:=j
 rw [of_filter ok] at ho ⊢
 exact ret_t' (s':=remark r (M+3) τ) rfl ⟨_,_,rfl,remark_ch (((Ch.refl [] s).ch t (by simp)).fr i hM (by simp)) hM (by omega),ho.remark⟩
theorem c_pover (p T:Nat) (P:PatchM) (τ:Nat) {da:Option Addr} (dc:Nat) {d:List UInt8} {τd:Nat} {xa:Option Addr} {xn:Nat} (xc:Nat) {ids:List Int} {τx:Nat} (s:TH) (hT:10<=T) (hp:PSet s p T P) (hd:Sl s da (bvs d) τd) (hdn:d.length=128) (hx:Sl s xa (ivs ids) τx) (hn:ids.length=xn) (hb:xn<=17592186044000) (hall: ∀i∈ids,i∈P.all):TRet Tryz.prog 209 #[.pointer (some ⟨p,0,none⟩),.slice da 128 dc,.slice xa xn xc] s fun v s'=>∃a c',v=.slice a 128 c'/\Ch [] s s'/\Own s' a 128 c' 5 1 (bvs (P.over d ids)) τ:=by
 obtain ⟨⟨rd,rl,md,ml,hP⟩,ok⟩:=id hp
 have hpb:=hP.blk
 have hpd:=hP.dm
 have hpl:=hP.lm
 have hpm:=hP.pm
 have hlst:=ok.lst
 obtain ⟨M,hM,hM0,hMa,hMb,hMc,hMd,hMe,hMf⟩:=fresh6 s (T+10) τd τx τ 0 0
 refine F209_calls _ _ _ _ _ _ _  ?_
 unfold F209
 refine tcall (c_cloneB (M+1) _ hd (by omega) (by omega)) ?_
 rintro ah j ⟨l,m,rfl,c,n⟩
 have ai:=c.size
 refine dSl_i ?_
 refine ⟨fun vs H'=>∃s':TH,s'.h=H'/\∃i,vs=[.int .i64 i]/\Ch [M+1,M+9] j s'/\(∃k:Nat,i=k/\k<=xn/\Own s' l 128 m 5 1 (bvs (P.over d (ids.take k))) (M+1)),fun vs H'=>match vs with|[.int .i64 i]=>((xn:Int) - i).toNat|_=>0,⟨j,rfl,_,rfl,Ch.refl _ _,?_⟩,?_⟩
 ·exact ⟨0,rfl,by omega,n⟩
 intro i
 iterate 19 intro _
 intro H_ hI_7
 obtain ⟨X,rfl,i_,hvs,b,k,rfl,hk,ho⟩:=hI_7
 cases hvs
 have aj:=b.size
 refine sB_d (fun L=>?_) (fun L=>?_)
 ·have o:=hx.mv (c.app b) (tagn (by simp<;>omega))
  obtain ⟨Y,rfl⟩:=o.ne_none (by simp [bvs_len,ivs_len];omega)
  refine nz_i (ask_t (by omega) ?_)
  refine ld_iv o (by omega) (by omega) fun N e=>?_
  rw [Int.toNat_natCast] at e
  refine dInt_i (nz_i ?_)
  have O:=hpb.ch (c.app b) (by simp<;>omega)
  refine ld_t O rfl (dMap_i ?_)
  have hm1:=hall _ (List.mem_of_getElem? e)
  obtain ⟨g,hfxsem1⟩:=Option.isSome_iff_exists.1 (find_isSome.2 (hm1))
  have Q:=hpm.mv (c.app b) (tagn (by simp<;>omega))
  obtain ⟨wsem1,hvxsem1,⟨baxsem1,bcxsem1,naxsem1,ncxsem1,rfl,sbxsem1,snxsem1⟩,hidxsem1,hmemxsem1⟩:=Q.some_ hfxsem1
  have hinxsem1:=(POk.find_mem hfxsem1).1
  have R:=hpl.ch (c.app b) (by simp<;>omega)
  refine look_s keyI um159 z163 R N hvxsem1 ?_
  refine dA5 ?_
  refine al_t (M+9) fun ak al Z q r aa=>?_
  refine st_t q rfl (by simp) fun am t G ab=>?_
  have u:=on_ch q G
  refine st_t t rfl (by simp) fun an w H ac=>?_
  have x:=on_ch t H
  refine st_t w rfl (by simp) fun ao y I ad=>?_
  have z:=on_ch w I
  refine st_t y rfl (by simp) fun ap A J ae=>?_
  have B:=on_ch y J
  refine st_t A rfl (by simp) fun aq C K af=>?_
  have D:=on_ch A K
  refine ld_t C rfl (dInt_i ?_)
  have E:=(((((r.app u).app x).app z).app B).app D)
  have f:=ho.mv E (tagn (by simp))
  refine ask_t (by have:=ok.fit _ hinxsem1;have:=f.le;omega) ?_
  refine ld_t C rfl ?_
  have S:=sbxsem1.mv E (tagn (by simp<;>omega))
  have sbxsem1:=S
  obtain ⟨a2,rfl⟩:=f.ne_none (by omega)
  refine dSl_i ?_
  have hft:=ok.fit _ hinxsem1
  simp only [Int.toNat_natCast]
  refine copy_sl u49 in5 f sbxsem1 rfl (by omega) (by omega) fun U V F _=>?_
  have ag:=F.size
  refine dInt_i (wr_t (by omega) ?_)
  have W:=(((((((b.app r).app u).app x).app z).app B).app D).app F)
  refine ⟨⟨U,rfl,_,rfl,((Ch.refl [M+1,M+9] j).ch W (by simp)),?_⟩,?_⟩
  ·refine ⟨k+1,by omega,by omega,?_⟩
   have ho:=V
   rw [show P.over d (ids.take (k+1))=overlay (P.over d (ids.take k)) g.off.toNat g.by_ from by unfold PatchM.over;rw [foldl_take _ _ e];unfold PatchM.step;rw [hfxsem1]]
   exact ho
  simp<;>omega
 have ho:=ho
 rw [List.take_of_length_le (by omega)] at ho
 exact ret_t' (s':=remark X (M+1) τ) rfl ⟨_,_,rfl,remark_ch (((Ch.refl [] s).ch c (by simp)).fr b hM (by simp)) hM (by omega),ho.remark⟩
theorem c_pnow (p T:Nat) (P:PatchM) (τ:Nat) (b:Int) {da:Option Addr} (dc:Nat) {d:List UInt8} {τd:Nat} (s:TH) (hT:10<=T) (hp:PSet s p T P) (hd:Sl s da (bvs d) τd) (hdn:d.length=128):TRet Tryz.prog 114 #[.pointer (some ⟨p,0,none⟩),.int .i64 b,.slice da 128 dc] s fun v s'=>∃a c',v=.tuple #[.slice a 128 c',.int .i64 0]/\Ch [] s s'/\Own s' a 128 c' 5 1 (bvs (P.over d (P.of b))) τ:=by
 obtain ⟨⟨rd,rl,md,ml,hP⟩,ok⟩:=id hp
 have hpb:=hP.blk
 have hpd:=hP.dm
 have hpl:=hP.lm
 have hpm:=hP.pm
 have hlst:=ok.lst
 obtain ⟨M,hM,hM0,hMa,hMb,hMc,hMd,hMe,hMf⟩:=fresh6 s (T+10) τd τ 0 0 0
 refine F114_calls _ _ _ _ _  ?_
 unfold F114
 refine tcall (c_own _ _ _ _ (by omega) hp) ?_
 rintro y z ⟨rfl,e⟩
 have A:=e.size
 refine dBl_i (sB_f (by rfl) (sB_f (by rfl) ?_))
 have j:=hp.mv e (rngn (by simp))
 refine tcall (c_pof _ _ _ (M+1) _ _ (by omega) j) ?_
 rintro B C ⟨n,o,rfl,c,f⟩
 have t:=c.size
 refine dSl_i ?_
 have hol:=of_len ok b
 have k:=j.mv c (rngn (by simp))
 have l:=hd.mv (e.app c) (tagn (by simp))
 refine tcall (c_pover p T P (τ:=τ) dc _ _ hT k l hdn f.sl rfl (by omega) (fun i hi=>of_sub hi)) ?_
 rintro u w ⟨q,r,rfl,g,h⟩
 have x:=g.size
 refine dSl_i ?_
 refine ret_t ?_
 have m:=((e.app c).app g)
 exact ⟨_,_,rfl,((Ch.refl [] s).ch m (by simp)),h⟩
def PatchM.knows (P:PatchM) (i:Int):Bool:=decide (1<=i/\i<=P.last)
def PatchM.closed (P:PatchM) (l:List Int) (i:Int):Bool:=match P.find i with
 |some x=>(P.pend x.needs).all fun n=>decide (n∈l)
 |none=>true
theorem pend_sub {P:PatchM} {ids:List Int} {i:Int} (h:i∈P.pend ids):i∈P.all/\i∈ids:=by
 have:=List.mem_filter.1 h;exact ⟨this.1,by simpa using this.2⟩
def PatchM.blocks (P:PatchM):List Int:=cpt ((P.l.map (·.blk)).mergeSort fun x y=>decide (x<=y))
theorem cpt_ext {a b:List Int} (h: ∀x,x∈a↔x∈b):cpt (a.mergeSort fun x y=>decide (x<=y))=cpt (b.mergeSort fun x y=>decide (x<=y)):=
 srt_ext (cpt_srt (srtd a)) (cpt_srt (srtd b)) fun x=>by rw [cpt_mem,cpt_mem,List.mem_mergeSort,List.mem_mergeSort,h]
theorem mem_blocks {P:PatchM} {b:Int}:b∈P.blocks↔ ∃x∈P.l,x.blk=b:=by
 unfold PatchM.blocks;rw [cpt_mem,List.mem_mergeSort,List.mem_map]
theorem nodup_len_le : ∀ {l m:List Int},l.Nodup->(∀x∈l,x∈m)->l.length<=m.length
 |[],m,_,_=>by simp
 |x::l,m,hn,hs=>by
  rw [List.nodup_cons] at hn
  have hx:=hs x (by simp)
  have:=nodup_len_le (m:=m.erase x) hn.2 fun y hy=>(List.mem_erase_of_ne (fun e=>hn.1 (by rw [←e];exact hy))).2 (hs y (List.mem_cons_of_mem _ hy))
  rw [List.length_erase_of_mem hx] at this
  have:=List.length_pos_of_mem hx
  rw [List.length_cons];omega
theorem vis_len {P:PatchM} (ok:POk P) {vis:List Int} (hn:vis.Nodup) (hs: ∀k∈vis,k∈P.all):(vis.length:Int)<=P.last:=by
 have h1:vis.length<=P.all.length:=nodup_len_le hn hs
 have h2:P.all.length=P.l.length:=by unfold PatchM.all;simp
 have:=ok.lenl;omega
theorem c_pblocks (p T:Nat) (P:PatchM) (τ:Nat) (s:TH) (hT:10<=T) (hp:PSet s p T P):TRet Tryz.prog 35 #[.pointer (some ⟨p,0,none⟩)] s fun v s'=>∃a c',v=.slice a P.blocks.length c'/\Ch [] s s'/\Own s' a P.blocks.length c' 3 1 (ivs P.blocks) τ:=by
 obtain ⟨⟨rd,rl,md,ml,hP⟩,ok⟩:=id hp
 have hpb:=hP.blk
 have hpd:=hP.dm
 have hpl:=hP.lm
 have hpm:=hP.pm
 have hlst:=ok.lst
 obtain ⟨M,hM,hM0,hMa,hMb,hMc,hMd,hMe,hMf⟩:=fresh6 s (T+10) τ 0 0 0 0
 refine F35_calls _  ?_
 unfold F35
 refine tcall (c_own _ _ _ _ (by omega) hp) ?_
 rintro aM aN ⟨rfl,u⟩
 have aO:=u.size
 refine dBl_i (sB_f (by rfl) (nz_i ?_))
 have am:=hpb.ch u (by simp)
 refine ld_t am rfl (dMap_i ?_)
 have an:=hpl.ch u (by simp)
 refine range_t (M+7) um159 an iinj fun B A hqsem1 C w=>?_
 have ar:=w.size
 refine ⟨fun vs H'=>∃s':TH,s'.h=H'/\∃q qn qc,vs=[.slice q qn qc]/\Ch [M+1,M+7,M+9] B s'/\(∃vis X,ItK (Value.int .i64) s' A rl ml vis (T+2) (M+7)/\Own s' q qn qc 3 1 (ivs X) (M+1)/\qn=vis.length/\(∀k∈vis,k∈P.all)/\∀b,b∈X↔ ∃x∈P.l,x.id∈vis/\x.blk=b),fun vs H'=>match vs with|[.slice q qn qc]=>leftH H' A rl|_=>0,⟨B,rfl,_,_,_,rfl,Ch.refl _ _,?_⟩,?_⟩
 ·exact ⟨[],[],C,by simpa [ivs] using Own.nil _ _ _ _,rfl,by simp,by simp⟩
 intro q qn qc
 iterate 10 intro _
 intro H_ hI_13
 obtain ⟨V,rfl,q_,qn_,qc_,hvs,c,vis,X,hit,ho,hqn,hvis,hX⟩:=hI_13
 cases hvs
 have au:=c.size
 have hvl:=vis_len ok hit.sub hvis
 refine next_t hit iinj (fun W ao ap hmksem2 hvksem2 d N aq=>?_) (fun hallksem2=>?_)
 ·refine dNx_t ?_
  have z:Ch [(M+7)] V W:=Chg.mono N (fun j hj e=>by subst e;rw [hit.tagq];simp)
  have Y:=(((u.app w).app c).app z)
  have Z:=hpm.mv Y (tagn (by simp<;>omega))
  obtain ⟨x1,hx1,hid1,bax,bcx,nax,ncx,hxv,sbx,snx⟩:=Z.mem_ hmksem2
  subst hxv
  refine entry_t d hmksem2 iinj ?_
  refine dT2 (dA5 ?_)
  refine al_t (M+9) fun aP aQ av D f aw=>?_
  refine st_t D rfl (by simp) fun aR E O ax=>?_
  have g:=on_ch D O
  refine st_t E rfl (by simp) fun aS F Q ay=>?_
  have i:=on_ch E Q
  refine st_t F rfl (by simp) fun aT G R az=>?_
  have m:=on_ch F R
  refine st_t G rfl (by simp) fun aU H S aA=>?_
  have n:=on_ch G S
  refine st_t H rfl (by simp) fun aV aa U aB=>?_
  have o:=on_ch H U
  refine ld_t aa rfl (dInt_i ?_)
  refine al_t (M+9) fun aW aX aC ab r aD=>?_
  have ac:=(((((((z.app f).app g).app i).app m).app n).app o).app r)
  have ad:=ho.mv ac (tagn (by simp))
  refine app_i1 u33 in3 ad ab (by omega) fun ae aE aF af t=>?_
  have aG:=t.size
  refine dSl_i ?_
  have ag:=(((((((((c.app z).app f).app g).app i).app m).app n).app o).app r).app t)
  refine ⟨⟨ae,rfl,_,_,_,rfl,((Ch.refl [M+1,M+7,M+9] B).ch ag (by simp)),?_⟩,?_⟩
  ·have ah:=(((((((f.app g).app i).app m).app n).app o).app r).app t)
   have ai:=d.ch ah (by simp<;>omega) (by simp<;>omega)
   refine ⟨_,_,ai,af,?_,?_,?_⟩
   ·rw [List.length_append,hqn];rfl
   ·intro k hk
    rcases List.mem_append.1 hk with h|h
    ·exact hvis k h
    rw [List.mem_singleton] at h;subst h;rw [←hid1];exact List.mem_map.2 ⟨x1,hx1,rfl⟩
   intro b
   rw [List.mem_append,hX,List.mem_singleton]
   constructor
   ·rintro (⟨x,h1,h2,h3⟩|h)
    ·exact ⟨x,h1,List.mem_append_left _ h2,h3⟩
    exact ⟨x1,hx1,by rw [hid1];simp,h.symm⟩
   rintro ⟨x,h1,h2,h3⟩
   rcases List.mem_append.1 h2 with h2|h2
   ·exact .inl ⟨x,h1,h2,h3⟩
   rw [List.mem_singleton] at h2
   have e:x=x1:=by
    have g1:=find_by ok.nodup h1
    have g2:=find_by ok.nodup hx1
    rw [h2, ←hid1,g2] at g1;exact (Option.some.inj g1).symm
   subst e;exact .inr h3.symm
  have aj:=(((((((f.app g).app i).app m).app n).app o).app r).app t)
  have ak:=d.ch aj (by simp<;>omega) (by simp<;>omega)
  exact it_less iinj hit ak hmksem2 hvksem2 (List.Sublist.refl _)
 refine dNx_f ?_
 refine tcall (c_sortInt ho (by omega)) ?_
 rintro aH aI ⟨rfl,I,J⟩
 have aJ:=I.size
 refine tcall (c_compact J (by omega)) ?_
 rintro aK al ⟨rfl,K,L⟩
 have aL:=K.size
 refine dSl_i ?_
 have ho:=L
 have e:cpt (X.mergeSort fun x y=>decide (x<=y))=P.blocks:=cpt_ext fun b=>by
  rw [hX,List.mem_map]
  constructor
  ·rintro ⟨x,h1,h2,h3⟩;exact ⟨x,h1,h3⟩
  rintro ⟨x,h1,h3⟩;exact ⟨x,h1,hallksem2 _ (by rw [hpm.keys];exact List.mem_map.2 ⟨x,h1,rfl⟩),h3⟩
 rw [e] at ho ⊢
 exact ret_t' (s':=remark al (M+1) τ) rfl ⟨_,_,rfl,remark_ch ((((((Ch.refl [] s).ch u (by simp)).ch w (by simp)).fr c hM (by simp)).fr I hM (by simp)).fr K hM (by simp)) hM (by omega),ho.remark⟩
def ovx (b o n:Int) (x:PatM):Bool:=decide (ovl b o n x.blk x.off x.by_.length)
def PatchM.newP (P:PatchM) (b o:Int) (y:List UInt8) (needs:List Int):PatM:=⟨P.last+1,b,o,y,(P.l.filter fun x=>decide (x.id∈needs)||ovx b o y.length x).map (·.id)⟩
def PatchM.add (P:PatchM) (b o:Int) (y:List UInt8) (needs:List Int):PatchM×Int×Int:=
 if ¬fitsP b o y.length then (P,0,1)
 else if (needs.any fun i=> !P.knows i)=true then (P,0,70)
 else ({ P with last:=P.last+1,l:=P.l++[P.newP b o y needs] },P.last+1,0)
theorem POk.add {P:PatchM} (ok:POk P) {b o:Int} {y:List UInt8} {needs:List Int} (hf:fitsP b o y.length) (hl:P.last<1000000):POk { P with last:=P.last+1,l:=P.l++[P.newP b o y needs] } where
 srt:=List.pairwise_append.2 ⟨ok.srt,by simp,fun a ha c hc=>by
  rw [List.mem_singleton] at hc;subst hc
  have:=ok.rng a ha
  show a.id<P.last+1
  omega⟩
 rng x hx:=by
  rcases List.mem_append.1 hx with h|h
  ·have:=ok.rng x h;exact ⟨this.1,by show x.id<=P.last+1;omega⟩
  rw [List.mem_singleton] at h;subst h
  have:=ok.lst
  exact ⟨by show 1<=P.last+1;omega,Int.le_refl _⟩
 fit x hx:=by
  rcases List.mem_append.1 hx with h|h
  ·exact ok.fit x h
  rw [List.mem_singleton] at h;subst h
  unfold fitsP at hf
  exact ⟨hf.1,hf.2.1,by show 1<=y.length;omega,by show o+(y.length:Int)<=128;omega⟩
 nds x hx n hn:=by
  rcases List.mem_append.1 hx with h|h
  ·exact ok.nds x h n hn
  rw [List.mem_singleton] at h;subst h
  obtain ⟨z,hz,rfl⟩:=List.mem_map.1 (show n∈(P.l.filter fun x=>decide (x.id∈needs)||ovx b o y.length x).map (·.id) from hn)
  have:=ok.rng z (List.mem_filter.1 hz).1
  exact ⟨this.1,by show z.id<P.last+1;omega⟩
 nsr x hx:=by
  rcases List.mem_append.1 hx with h|h
  ·exact ok.nsr x h
  rw [List.mem_singleton] at h;subst h
  exact List.pairwise_map.2 (ok.srt.sublist List.filter_sublist)
 dn i hi:=by have:=ok.dn i hi;exact ⟨this.1,by show i<=P.last+1;omega⟩
 all i h1 h2:=by
  have h2:i<=P.last+1:=h2
  by_cases h3:i<=P.last
  ·rcases ok.all i h1 h3 with h|h
   ·exact .inl h
   right;show i∈(P.l++[P.newP b o y needs]).map PatM.id;rw [List.map_append];exact List.mem_append_left _ h
  right;show i∈(P.l++[P.newP b o y needs]).map PatM.id;rw [List.map_append];exact List.mem_append_right _ (by rw [show i=P.last+1 by omega];exact List.mem_singleton.2 rfl)
 dis i hi h:=by
  have h:i∈(P.l++[P.newP b o y needs]).map PatM.id:=h
  rw [List.map_append] at h
  rcases List.mem_append.1 h with h|h
  ·exact ok.dis i hi h
  have:=ok.dn i hi
  have h:i∈[P.last+1]:=h
  rw [List.mem_singleton] at h;omega
 lst:=by have:=ok.lst;show 0<=P.last+1/\P.last+1<=1000000;omega
inductive PatchM.Reach (P:PatchM) (ids:List Int):Int->Prop
 |base {i:Int}:i∈P.pend ids->PatchM.Reach P ids i
 |step {i n:Int} {x:PatM}:PatchM.Reach P ids i->P.find i=some x->n∈P.pend x.needs->PatchM.Reach P ids n
theorem PatchM.Reach.all {P:PatchM} {ids:List Int} {i:Int} (h:P.Reach ids i):i∈P.all:=by
 cases h with
 |base h=>exact (pend_sub h).1
 |step h1 h2 h3=>exact (pend_sub h3).1
structure ClI (P:PatchM) (ids:List Int) (K O:List Int):Prop where
 kr: ∀i∈K,P.Reach ids i
 or_: ∀i∈O,P.Reach ids i
 pe: ∀i∈P.pend ids,i∈K∨i∈O
 cl: ∀i∈K,∀x,P.find i=some x->∀n∈P.pend x.needs,n∈K∨n∈O
 nd:K.Nodup
theorem ClI.done {P:PatchM} {ids K:List Int} (h:ClI P ids K []) (i:Int):i∈K↔P.Reach ids i:=by
 refine ⟨h.kr i,fun hr=>?_⟩
 induction hr with
 |base hi=>exact (h.pe _ hi).resolve_right (by simp)
 |step h1 h2 h3 ih=>exact (h.cl _ ih _ h2 _ h3).resolve_right (by simp)
theorem ClI.push {P:PatchM} {ids K O:List Int} {i:Int} {x:PatM} (h:ClI P ids K (O++[i])) (hi:i∉K) (hx:P.find i=some x):ClI P ids (K++[i]) (O++P.pend x.needs) where
 kr j hj:=(List.mem_append.1 hj).elim (h.kr j) fun h2=>by rw [List.mem_singleton] at h2;rw [h2];exact h.or_ i (by simp)
 or_ j hj:=(List.mem_append.1 hj).elim (fun h2=>h.or_ j (List.mem_append_left _ h2)) fun h2=>.step (h.or_ i (by simp)) hx h2
 pe j hj:=(h.pe j hj).elim (fun h=>.inl (List.mem_append_left _ h)) fun h=>(List.mem_append.1 h).elim (fun h=>.inr (List.mem_append_left _ h)) fun h=>.inl (List.mem_append_right _ h)
 cl j hj y hy n hn:=by
  rcases List.mem_append.1 hj with hj|hj
  ·rcases h.cl j hj y hy n hn with h|h
   ·exact .inl (List.mem_append_left _ h)
   rcases List.mem_append.1 h with h|h
   ·exact .inr (List.mem_append_left _ h)
   exact .inl (List.mem_append_right _ h)
  rw [List.mem_singleton] at hj;subst hj
  rw [hx] at hy;cases hy
  exact .inr (List.mem_append_right _ hn)
 nd:=List.nodup_append.2 ⟨h.nd,by simp,fun a ha b hb e=>by rw [List.mem_singleton] at hb;subst hb;subst e;exact hi ha⟩
end Go.Proofs.YtkaikaodhegmhaaGreat.E
namespace Go.Proofs.YtkaikaodhegmhaaGreat.E
open Go Go.Proofs
set_option linter.unusedVariables false
set_option linter.unusedSimpArgs false
theorem c_of1 (p:Hd) (s:TH):TRet Tryz.prog 52 #[.slice p.1 128 p.2] s fun v s'=>v=.bool false/\Ch [] s s':=by
 refine F52_calls _ _ _  ?_
 unfold F52
 refine ret_t ?_
 exact ⟨rfl,(Ch.refl [] s)⟩
theorem c_ixRow {a:Option Addr} {n:Nat} (c:Nat) {hs:List Hd} {τ:Nat} {s:TH} (hq:Sl s a (hs.flatMap hd1) τ) (hn:hs.length=n) (hn2:n<=1000000) {g:Nat} {xf xc:Array Value} (hg:plainFn Tryz.prog g=true) (hp: ∀(s1:TH) (x:Hd),TRet Tryz.prog g (argsOf xf [.slice x.1 128 x.2] xc) s1 fun v s2=>v=.bool false/\Ch [] s1 s2):TRet Tryz.prog 124 #[.slice a n c,.func (.func g) xf xc] s fun v s'=>v=.int .i64 (-1)/\Ch [] s s':=by
 refine F124_calls _ _ _ _ _ _  ?_
 unfold F124
 refine ⟨fun vs H'=>∃s':TH,s'.h=H'/\∃m,vs=[.int .i64 m]/\ChL [] [] s s'/\(∃k:Nat,m=k/\k<=n),fun vs H'=>match vs with|[.int .i64 m]=>((n:Int) - m).toNat|_=>0,⟨s,rfl,_,rfl,ChL.refl _ _ _,?_⟩,?_⟩
 ·exact ⟨0,rfl,by omega⟩
 intro m
 iterate 12 intro _
 intro l hI
 obtain ⟨o,rfl,m_,hvs,b,k,rfl,hk⟩:=hI
 cases hvs
 have p:=b.size
 refine sB_d (fun f=>?_) (fun f=>?_)
 ·have hk2:k<n:=by omega
  obtain ⟨x,hx⟩: ∃x,hs[k]? =some x:=⟨hs[k],by simp [hn,hk2]⟩
  obtain ⟨a,rfl⟩:=hq.some (fun e=>by have:=bcell hx;rw [e] at this;simp at this)
  refine nz_i (ask_t (by omega) ?_)
  have i:=hq.mv b (tagL (by simp<;>omega) (by simp))
  refine ld_sl i (by rw [Int.toNat_natCast,Nat.mul_one];exact bcell hx) ?_
  set_option maxRecDepth 4000 in
  refine dSl_i (a:=x.1) (n:=128) (c:=x.2) ?_
  rw [gB_eq hg]
  refine tcall (hp _ x) ?_
  rintro _ j ⟨rfl,d⟩
  have q:=d.size
  refine dBl_i (sB_f (by rfl) (wr_t (by omega) ?_))
  refine ⟨⟨j,rfl,_,rfl,(((ChL.refl [] [] s).chl b (by simp) (by simp<;>omega)).ch d (by simp)),?_⟩,?_⟩
  ·exact ⟨k+1,by omega,by omega⟩
  simp only [];omega
 refine ret_t ?_
 exact ⟨rfl,((Ch.refl [] s).chl b (by simp) (by simp<;>omega))⟩
theorem c_ctRow {a:Option Addr} {n:Nat} (c:Nat) {hs:List Hd} {τ:Nat} {s:TH} (hq:Sl s a (hs.flatMap hd1) τ) (hn:hs.length=n) (hn2:n<=1000000):TRet Tryz.prog 53 #[.slice a n c,.func (.func 52) #[] #[]] s fun v s'=>v=.bool false/\Ch [] s s':=by
 refine F53_calls _ _ _ _ _ _  ?_
 unfold F53
 refine tcall (c_ixRow c hq hn hn2 (by kernel_rfl) (fun s1 x=>c_of1 x s1)) ?_
 rintro _ s2 ⟨rfl,b⟩
 have d:=b.size
 refine dInt_i ?_
 refine ret_t ?_
 exact ⟨rfl,((Ch.refl [] s).ch b (by simp))⟩
theorem c_image (T:Nat) {a:Option Addr} {n:Nat} (c:Nat) {hs:List Hd} {bs:List (List UInt8)} {τ τb:Nat} {s:TH} (hq:Sl s a (hs.flatMap hd1) τ) (hb:BRel s τb hs bs) (hn:hs.length=n) (hn2:n<=2048) (h1:τ≠T+1) (h2:τb≠T+1):TRet Tryz.prog 54 #[.slice a n c] s fun v s'=>∃pa pc hs',v=.slice pa n pc/\Ch [T+1] s s'/\Own s' pa n pc 49 1 (hs'.flatMap hd1) (T+1)/\BRel s' (T+3) hs' bs:=by
 refine F54_calls _ _ _  ?_
 unfold F54
 refine ⟨fun vs H'=>∃s':TH,s'.h=H'/\∃pa pn pc m,vs=[.slice pa pn pc,.int .i64 m]/\ChL [T+1] [] s s'/\(∃(k:Nat) (hs':List Hd),m=k/\pn=k/\k<=n/\Own s' pa k pc 49 1 (hs'.flatMap hd1) (T+1)/\BRel s' (T+3) hs' (bs.take k)),fun vs H'=>match vs with|[.slice pa pn pc,.int .i64 m]=>((n:Int) - m).toNat|_=>0,⟨s,rfl,_,_,_,_,rfl,ChL.refl _ _ _,?_⟩,?_⟩
 ·exact ⟨0,[],rfl,rfl,by omega,Own.nil _ _ _ _,BRel.nil _ _⟩
 intro pa pn pc m
 iterate 10 intro _
 intro D hI
 obtain ⟨E,rfl,pa_,pn_,pc_,m_,hvs,g,k,hs',rfl,rfl,hk,rows_3,brel_4⟩:=hI
 cases hvs
 have F:=g.size
 refine sB_d (fun q=>?_) (fun q=>?_)
 ·have hk2:pn<n:=by omega
  obtain ⟨x,hx⟩: ∃x,hs[pn]? =some x:=⟨hs[pn],by simp [hn,hk2]⟩
  obtain ⟨b,hbk⟩: ∃b,bs[pn]? =some b:=⟨bs[pn]'(by rw [←hb.len,hn];exact hk2),by simp⟩
  obtain ⟨a,rfl⟩:=hq.some (fun e=>by have:=bcell hx;rw [e] at this;simp at this)
  refine nz_i (ask_t (by omega) ?_)
  have w:=hq.mv g (tagL (by simp<;>omega) (by simp))
  refine ld_sl w (by rw [Int.toNat_natCast,Nat.mul_one];exact bcell hx) ?_
  refine dSl_i ?_
  have j:=hb.mv g (tagL (by simp<;>omega) (by simp))
  refine tcall (c_clone (T+3) _ (j.at_ _ _ _ hx hbk).sl (j.at_ _ _ _ hx hbk).len (fun h=>by obtain ⟨y,hy⟩:=(hb.at_ _ _ _ hx hbk).ne;rw [h] at hy;cases hy) (by omega)) ?_
  rintro _ G ⟨xa2,xc2,rfl,i,r,hxn⟩
  have H:=i.size
  refine dSl_i ?_
  refine al_t 0 fun I J A t d B=>?_
  have rows_13:=rows_3.mv i (tagn (by simp))
  have rows_14:=rows_13.mv d (tagn (by simp))
  refine app_i u22 in49 rfl rows_14 t.sl (m:=1) (k:=1) rfl (by intro u hu;simp at hu;subst hu;rfl) (by simp) (by unfold maxLen;omega) fun z pa2 pc2 rows_17 l _=>?_
  have f:=l.ch (T:=[T+1]) rows_14 (by simp)
  have C:=f.size
  refine dSl_i (wr_t (by omega) ?_)
  refine ⟨⟨z,rfl,_,_,_,_,rfl,(((((ChL.refl [T+1] [] s).chl g (by simp) (by simp<;>omega)).ch i (by simp)).ch d (by simp)).ch f (by simp)),?_⟩,?_⟩
  ·have brel_18:=brel_4.mv i (tagn (by simp))
   have brel_19:=brel_18.mv d (tagn (by simp))
   have brel_20:=brel_19.mv f (tagn (by intro h;simp only [List.mem_cons,List.not_mem_nil,or_false] at h<;>omega))
   have o:=r.mv d (tagn (by simp))
   have p:=o.mv f (tagn (by intro h;simp only [List.mem_cons,List.not_mem_nil,or_false] at h<;>omega))
   exact ⟨pn+1,hs'++[(xa2,xc2)],by omega,by omega,by omega,by simpa [hd1] using rows_17,by rw [List.take_add_one,hbk];exact brel_20.snoc ⟨p.sl,(hb.at_ _ _ _ hx hbk).len⟩⟩
  simp only [];omega
 refine ret_t ?_
 obtain rfl:pn=n:=by omega
 exact ⟨pa,pc,hs',rfl,((Ch.refl [T+1] s).chl g (by simp) (by simp<;>omega)),rows_3,by have h:=brel_4;rw [List.take_of_length_le (by rw [←hb.len,hn];omega)] at h;exact h⟩
def diskOf (bs:List (List UInt8)):DiskM:=⟨bs,[],fun _=>0,0⟩
theorem c_of (T:Nat) {a:Option Addr} {n:Nat} (c:Nat) {hs:List Hd} {bs:List (List UInt8)} {τ τb:Nat} {s:TH} (hT:10<=T) (hq:Sl s a (hs.flatMap hd1) τ) (hb:BRel s τb hs bs) (hn:hs.length=n) (hn2:1<=n/\n<=2048) (h1:τ≠T+1) (h2:τb≠T+1):TRet Tryz.prog 20 #[.slice a n c] s fun v s'=>∃d,v=.tuple #[.pointer (some ⟨d,0,none⟩),.int .i64 0]/\Ch [T+1] s s'/\Disk s' d T (diskOf bs):=by
 refine F20_calls _ _ _  ?_
 unfold F20
 refine jn_u ?_
 refine sB_d (fun i=>by exfalso;omega) (fun i=>?_)
 refine sB_d (fun j=>by exfalso;omega) (fun j=>?_)
 refine tcall (c_ctRow c hq hn (by omega)) ?_
 rintro _ y ⟨rfl,g⟩
 have z:=g.size
 refine dBl_i ?_
 iterate 12 intro _
 refine dBl_i (sB_f (by rfl) ?_)
 have o:=hq.mv g (tagn (by simp))
 have k:=hb.mv g (tagn (by simp))
 refine tcall (c_image T c o k hn hn2.2 h1 h2) ?_
 rintro _ A ⟨pa,pc,hs',rfl,h,rows_7,brel_8⟩
 have B:=h.size
 refine dSl_i ?_
 refine alm_t (Value.int .i64) (T+4) fun p C t q f u=>?_
 refine al_t T fun r D w l e x=>?_
 refine ret_t ?_
 have rows_15:=rows_7.mv f (tagn (by simp))
 have rows_16:=rows_15.mv e (tagn (by simp))
 have brel_17:=brel_8.mv f (tagn (by simp))
 have brel_18:=brel_17.mv e (tagn (by simp))
 have r21_19:=q.ch e (by simp)
 have hl:bs.length=n:=by rw [←hb.len,hn]
 subst hl
 exact ⟨r,rfl,(((((Ch.refl [T+1] s).ch g (by simp)).ch h (by simp)).ch f (by simp)).ch e (by simp)),pa,pc,none,0,hs',[],p,[],⟨by simpa [diskOf] using l,by simpa [diskOf] using rows_16,brel_18,Own.nil _ _ _ _,QRel.nil _ _,r21_19,fun b=>rfl,by simp [diskOf];omega,by simp [diskOf],fun m hm=>by simp [diskOf] at hm⟩⟩
end Go.Proofs.YtkaikaodhegmhaaGreat.E
namespace Go.Proofs
abbrev Tryz.muLink :Go.Conc.Locks.MuLink:={ lock:=94,unlock:=34,ilock:=186,iunlock:=95,lockSlow:=255,unlockSlow:=190,disable:=188,enable:=191,acquire:=254,relMerge:=187,cas32:=253,add32:=189,tMutex:=94,tIMutex:=92,tPMutex:=157,tPIMutex:=241,tPI32:=245,tUP:=243,tNoCopy:=89,tU32:=90 }
theorem Tryz.muLib :Go.Conc.Locks.MuLib Tryz.prog Tryz.muLink:=
 ⟨Tryz.func94,Tryz.func34,Tryz.func186,Tryz.func95,Tryz.func188,Tryz.func191,Tryz.func254,Tryz.func187,Tryz.func253,Tryz.func189,Tryz.underlying92,Tryz.runUnderlying92,Tryz.sizeOf92,Tryz.isAgg92,Tryz.zeroValue92,Tryz.underlying94,Tryz.runUnderlying94,Tryz.sizeOf94,Tryz.isAgg94,Tryz.zeroValue94,Tryz.underlying157,Tryz.runUnderlying157,Tryz.sizeOf157,Tryz.isAgg157,Tryz.zeroValue157,Tryz.underlying241,Tryz.runUnderlying241,Tryz.sizeOf241,Tryz.isAgg241,Tryz.zeroValue241,Tryz.underlying245,Tryz.runUnderlying245,Tryz.sizeOf245,Tryz.isAgg245,Tryz.zeroValue245,Tryz.underlying243,Tryz.runUnderlying243,Tryz.sizeOf243,Tryz.isAgg243,Tryz.zeroValue243,Tryz.underlying89,Tryz.runUnderlying89,Tryz.sizeOf89,Tryz.isAgg89,Tryz.zeroValue89,Tryz.underlying21,Tryz.runUnderlying21,Tryz.sizeOf21,Tryz.isAgg21,Tryz.zeroValue21,(by kernel_rfl)⟩
end Go.Proofs
namespace Go.Proofs.YtkaikaodhegmhaaGreat.E
open Go Go.Proofs
set_option linter.unusedVariables false
set_option linter.unusedSimpArgs false
structure NoV (s:TH) (p:Option Addr) (τ:Nat):Prop where
 h:p=none∨∃c,p=some ⟨c,0,none⟩/\Blk s c [.int .i32 0,.int .u32 0,.pointer none,.pointer none,.pointer none,.map none,.bool false,.bool false,.int .i64 0,.map none] 102 τ
theorem NoV.mv {s s':TH} {p:Option Addr} {τ:Nat} {B:Nat->Prop} (h:NoV s p τ) (c:Chg B s s') (hn: ∀j,j<s.h.size->s.g j=τ->¬B j):NoV s' p τ:=by
 rcases h.h with h|⟨r,h1,h2⟩
 ·exact ⟨.inl h⟩
 exact ⟨.inr ⟨r,h1,h2.mv c (hn r h2.lt h2.tag)⟩⟩
-- no form: (*bollard/volume.Volume).Sync
-- no form: (*bollard/volume.Volume).IsDone
-- no form: (*bollard/volume.Volume).Broken
-- no form: (*bollard/volume.Volume).Kept
end Go.Proofs.YtkaikaodhegmhaaGreat.E
namespace Go.Proofs.YtkaikaodhegmhaaGreat.E
open Go Go.Proofs
set_option linter.unusedVariables false
set_option linter.unusedSimpArgs false
theorem c_cnew (T d:Nat) (D:DiskM) (T2:Nat) (b:Int) (s:TH) (hT:10<=T) (hd:Disk s d T D) (hb:1<=b/\b<=64):TRet Tryz.prog 79 #[.pointer (some ⟨d,0,none⟩),.int .i64 b] s fun v s'=>∃c r,v=.tuple #[.pointer (some ⟨c,0,none⟩),.int .i64 0]/\Ch [] s s'/\Blk s' c [.pointer (some ⟨d,0,none⟩),.int .i64 b,.map (some r),.int .i64 0,.int .i64 0,.int .i64 0] 210 T2/\MapK (Value.int .i64) s' r [] (T2+1):=by
 have hnb:1<=D.blocks.length:=by obtain ⟨_,_,_,_,_,_,_,_,h⟩:=id hd;exact h.nb.1
 refine F79_calls _ _  ?_
 unfold F79
 refine tcall (c_blocks _ _ _ _ hT hd) ?_
 rintro _ s2 ⟨rfl,e⟩
 have q:=e.size
 refine dInt_i ?_
 refine sB_eq (fun g=>?_) (fun g=>?_)
 ·refine ret_t ?_
  omega
 refine jn_u ?_
 refine sB_d (fun i=>by exfalso;omega) (fun i=>?_)
 intro _ _ _ _ _
 refine dBl_i ?_
 first|refine sB_d (fun a=>?_) (fun a=>?_)|refine sB_nd (fun a=>?_) (fun a=>?_)|refine sB_n (fun a=>?_) (fun a=>?_)|refine sB_i (fun a=>?_) (fun a=>?_)
 ·refine ret_t ?_
  simp at a;omega
 refine alm_t (Value.int .i64) (T2+1) fun j t o k l u=>?_
 refine al_t T2 fun m w p n f x=>?_
 refine ret_t ?_
 have r12_9:=k.ch f (by simp)
 exact ⟨m,j,rfl,((((Ch.refl [] s).ch e (by simp)).ch l (by simp)).ch f (by simp)),n,r12_9⟩
theorem c_pnew (T:Nat) (s:TH):TRet Tryz.prog 80 #[] s fun v s'=>∃p r1 r2,v=.pointer (some ⟨p,0,none⟩)/\Ch [] s s'/\Blk s' p [.int .i64 0,.map (some r1),.map (some r2),.bool true] 161 T/\MapK (Value.int .i64) s' r1 [] (T+1)/\MapK (Value.int .i64) s' r2 [] (T+2):=by
 refine F80_calls  ?_
 unfold F80
 refine alm_t (Value.int .i64) (T+1) fun r1 s2 g c d h=>?_
 refine alm_t (Value.int .i64) (T+2) fun r3 s4 i e b j=>?_
 refine al_t T fun r5 s6 k f a l=>?_
 refine ret_t ?_
 have r1_10:=c.ch b (by simp)
 have r1_11:=r1_10.ch a (by simp)
 have r3_12:=e.ch a (by simp)
 exact ⟨r5,r1,r3,rfl,((((Ch.refl [] s).ch d (by simp)).ch b (by simp)).ch a (by simp)),f,r1_11,r3_12⟩
structure NoD (s:TH) (p:Option Addr) (τ:Nat):Prop where
 h:p=none∨∃c,p=some ⟨c,0,none⟩/\Blk s c [.slice none 0 0,.slice none 0 0,.map none,.int .i64 0] 121 τ
theorem NoD.mv {s s':TH} {p:Option Addr} {τ:Nat} {B:Nat->Prop} (h:NoD s p τ) (c:Chg B s s') (hn: ∀j,j<s.h.size->s.g j=τ->¬B j):NoD s' p τ:=by
 rcases h.h with h|⟨r,h1,h2⟩
 ·exact ⟨.inl h⟩
 exact ⟨.inr ⟨r,h1,h2.mv c (hn r h2.lt h2.tag)⟩⟩
theorem c_vheld (r τ:Nat) {d:Addr} {v3 v4 v5 v6 v7 v8 v9:Value} {s:TH} (hr:Blk s r [.int .i32 0,.int .u32 0,.pointer (some d),v3,v4,v5,v6,v7,v8,v9] 102 τ):TRet Tryz.prog 33 #[.pointer (some ⟨r,0,none⟩)] s fun v s'=>v=.bool true/\Ch [τ] s s'/\Blk s' r [.int .i32 1,.int .u32 0,.pointer (some d),v3,v4,v5,v6,v7,v8,v9] 102 τ:=by
 refine F33_calls _  ?_
 unfold F33
 refine sB_f (by rfl) (nz_i ?_)
 refine tcall (c_mlock Tryz.muLib hr rfl) ?_
 rintro _ s3 ⟨rfl,a,b⟩
 have c:=a.size
 refine nz_i (ld_t b rfl (dPtr_i (sB_f (by rfl) ?_)))
 refine ret_t ?_
 exact ⟨rfl,((Ch.refl [τ] s).ch a (by simp)),b⟩
-- no form: bollard/bollardlaw09.begun
end Go.Proofs.YtkaikaodhegmhaaGreat.E
namespace Go.Proofs.YtkaikaodhegmhaaGreat.E
open Go Go.Proofs Go.RowKit Go.Maps Go.Shelf Go.Sort
set_option linter.unusedVariables false
set_option linter.unusedSimpArgs false
structure Coh (C:CacheM) (bs:List (List UInt8)):Prop where
 eq: ∀x∈C.l,bs[x.blk.toNat]? =some x.by_
 pin: ∀x∈C.l,x.pins=0
structure CacheV (s:TH) (c T d:Nat) (bs:List (List UInt8)) (n:Int):Prop where
 p: ∃C,Cache s c T d C/\Coh C bs/\C.clock<=n/\C.hits<=n/\C.misses<=n
theorem CacheV.mv {s s':TH} {c T d:Nat} {bs:List (List UInt8)} {n:Int} {B:Nat->Prop} (h:CacheV s c T d bs n) (k:Chg B s s') (hn: ∀j,j<s.h.size->T<=s.g j->s.g j<T+10->¬B j):CacheV s' c T d bs n:=by
 obtain ⟨C,h1,h2⟩:=h
 exact ⟨C,h1.mv k hn,h2⟩
theorem Coh.free {C:CacheM} {bs:List (List UInt8)} (h:Coh C bs) (hb:1<=C.bound): ∃l,C.room=some l/\l.Sublist C.l:=by
 have:C.room≠none:=by
  unfold CacheM.room
  by_cases hl:(C.l.length:Int)<C.bound
  ·rw [if_pos hl];simp
  rw [if_neg hl]
  have hne:C.l≠[]:=fun e=>by rw [e] at hl;simp at hl;omega
  obtain ⟨x,l,e⟩:=List.exists_cons_of_ne_nil hne
  unfold freeB
  rw [e,List.find?_cons,show (x.pins==0)=true by rw [h.pin x (by rw [e];simp)];rfl]
  simp
 cases hr:C.room with
 |none=>exact absurd hr this
 |some l=>exact ⟨l,rfl,room_mem hr⟩
theorem Coh.get {C:CacheM} {bs:List (List UInt8)} {b:Int} {y:List UInt8} (h:Coh C bs) (hb:1<=C.bound) (hy:bs[b.toNat]? =some y):
  (C.get bs b).2=0/\Coh (C.get bs b).1 bs/\(C.get bs b).1.clock=C.clock+1/\(C.get bs b).1.hits<=C.hits+1/\(C.get bs b).1.misses<=C.misses+1:=by
 cases hf:C.find b with
 |some x=>
  obtain ⟨hx,rfl⟩:=find_mem hf
  rw [get_hit hf]
  refine ⟨rfl,⟨fun z hz=>?_,fun z hz=>?_⟩,rfl,Int.le_refl _,by show C.misses<=C.misses+1;omega⟩
  ·rcases List.mem_append.1 hz with hz|hz
   ·exact h.eq z (rmB_mem.1 hz).1
   ·rw [List.mem_singleton] at hz;subst hz;exact h.eq x hx
  ·rcases List.mem_append.1 hz with hz|hz
   ·exact h.pin z (rmB_mem.1 hz).1
   ·rw [List.mem_singleton] at hz;subst hz;exact h.pin x hx
 |none=>
  obtain ⟨l,hr,hs⟩:=h.free hb
  rw [get_load hf hr hy]
  refine ⟨rfl,⟨fun z hz=>?_,fun z hz=>?_⟩,rfl,by show C.hits<=C.hits+1;omega,Int.le_refl _⟩
  ·rcases List.mem_append.1 hz with hz|hz
   ·exact h.eq z (hs.subset hz)
   ·rw [List.mem_singleton] at hz;subst hz;exact hy
  ·rcases List.mem_append.1 hz with hz|hz
   ·exact h.pin z (hs.subset hz)
   ·rw [List.mem_singleton] at hz;subst hz;rfl
theorem Coh.held {C:CacheM} {bs:List (List UInt8)} {b:Int} {y:List UInt8} (h:Coh C bs) (hb:1<=C.bound) (hy:bs[b.toNat]? =some y):(C.get bs b).1.bytes b=y:=by
 have h1:=(h.get hb hy).2.1
 unfold CacheM.bytes
 have hfd: ∃x,(C.get bs b).1.find b=some x:=by
  cases hf:C.find b with
  |some x=>
   obtain ⟨hx,rfl⟩:=find_mem hf
   rw [get_hit hf]
   have:((rmB C.l x.blk++[{ x with used:=C.clock+1 }]:List BufM).find? fun z:BufM=>z.blk==x.blk).isSome=true:=List.find?_isSome.2 ⟨({ x with used:=C.clock+1 }:BufM),by simp,by simp⟩
   exact Option.isSome_iff_exists.1 this
  |none=>
   obtain ⟨l,hr,hs⟩:=h.free hb
   rw [get_load hf hr hy]
   have:((l++[⟨b,y,0,C.clock+1⟩]:List BufM).find? fun z:BufM=>z.blk==b).isSome=true:=List.find?_isSome.2 ⟨(⟨b,y,0,C.clock+1⟩:BufM),by simp,by simp⟩
   exact Option.isSome_iff_exists.1 this
 obtain ⟨x,hx⟩:=hfd
 rw [hx]
 obtain ⟨hm,hb2⟩:=find_mem hx
 have h2:=h1.eq x hm
 rw [hb2,hy] at h2
 exact (Option.some.inj h2).symm
theorem CacheP.bnd' {s:TH} {c T d:Nat} {C:CacheM} (h:Cache s c T d C):1<=C.bound:=by
 obtain ⟨⟨r,m,bp,bh,hp⟩,ok⟩:=h;exact hp.bnd.1
theorem c_vcGet (τ:Nat) {c T d Td:Nat} {D:DiskM} {b n:Int} {l:List UInt8} {s:TH} (hT:10<=T) (hTd:10<=Td) (hTT:T+10<=Td∨Td+10<=T) (hc:CacheV s c T d D.blocks n) (hd:Disk s d Td D) (hb:D.has b) (hl:D.blocks[b.toNat]? =some l) (hf:D.fails b<=0) (hn:n<9000000000000000000):
  TRet Tryz.prog 113 #[.pointer (some ⟨c,0,none⟩),.int .i64 b] s fun v s'=>∃a cc,v=.tuple #[.slice a 128 cc,.int .i64 0]/\Ch [T,T+1,T+2,T+3] s s'/\CacheV s' c T d D.blocks (n+1)/\Own s' a 128 cc 5 1 (bvs l) τ:=by
 obtain ⟨C,h1,h2,h3,h4,h5⟩:=hc
 have hbd:=CacheP.bnd' h1
 refine (c_Get c T d Td C D b τ s hT hTd hTT h1 hd (fun _=>⟨l,hl⟩) hf (by omega)).mono ?_
 rintro v s' ⟨a,k,cc,e,rfl,hch,hres⟩
 rcases hres with ⟨g1,_⟩|⟨g1,g2,g3,g4⟩
 ·exact absurd hb g1
 ·have g5:=h2.get hbd hl
  rw [g5.1] at g2
  subst g2
  obtain ⟨rfl,g6,g7⟩:=g4 rfl
  rw [h2.held hbd hl] at g6
  exact ⟨a,cc,rfl,hch,⟨_,g3,g5.2.1,by rw [g5.2.2.1];omega,by have:=g5.2.2.2.1;omega,by have:=g5.2.2.2.2;omega⟩,g6⟩
theorem Coh.put {C:CacheM} {bs:List (List UInt8)} {b:Int} {y:List UInt8} (h:Coh C bs) (h0:0<=b) (hb:b<bs.length) (hr: ∀x∈C.l,0<=x.blk):Coh (C.put b y) (bs.set b.toNat y):=by
 refine ⟨fun x hx=>?_,fun x hx=>?_⟩
 ·obtain ⟨z,hz,⟨h1,rfl⟩|⟨h1,rfl⟩⟩:=updB_mem hx
  ·have:=hr _ hz
   rw [List.getElem?_set_ne (by omega)];exact h.eq _ hz
  show (bs.set b.toNat y)[z.blk.toNat]? =some y
  rw [h1,List.getElem?_set_self (by omega)]
 obtain ⟨z,hz,⟨h1,rfl⟩|⟨h1,rfl⟩⟩:=updB_mem hx
 ·exact h.pin _ hz
 exact h.pin z hz
structure WayM where
 blk:Int
 by_:List UInt8
 ids:List Int
structure OldM where
 on:Bool
 broken:Bool
 room:Int
 kept:List (Int×List UInt8)
structure VolM where
 D:DiskM
 P:PatchM
 way:List (Int×WayM)
 old:OldM
 n:Int
def WayV (s:TH) (τ:Nat) (v:Value) (w:WayM):Prop:=∃ba bc ia ic,v=.agg #[.int .i64 w.blk,.slice ba 128 bc,.slice ia w.ids.length ic]/\Sl s ba (bvs w.by_) τ/\Sl s ia (ivs w.ids) τ/\w.by_.length=128
theorem WayV.mv {s s':TH} {τ:Nat} {v:Value} {w:WayM} {B:Nat->Prop} (h:WayV s τ v w) (c:Chg B s s') (hn: ∀j,j<s.h.size->s.g j=τ->¬B j):WayV s' τ v w:=by
 obtain ⟨ba,bc,ia,ic,h1,h2,h3,h4⟩:=h
 exact ⟨ba,bc,ia,ic,h1,h2.mv c hn,h3.mv c hn,h4⟩
def WMap (s:TH) (τ:Nat):List (Int×Value)->List (Int×WayM)->Prop
 |[],[]=>True
 |e::m,p::l=>e.1=p.1/\WayV s τ e.2 p.2/\WMap s τ m l
 |_,_=>False
theorem WMap.mv {s s':TH} {τ:Nat} {B:Nat->Prop}: ∀ {m:List (Int×Value)} {l:List (Int×WayM)},WMap s τ m l->Chg B s s'->(∀j,j<s.h.size->s.g j=τ->¬B j)->WMap s' τ m l
 |[],[],h,c,hn=>trivial
 |e::m,p::l,h,c,hn=>⟨h.1,h.2.1.mv c hn,WMap.mv h.2.2 c hn⟩
 |[],_::_,h,_,_=>h.elim
 |_::_,[],h,_,_=>h.elim
theorem WMap.keys {s:TH} {τ:Nat}: ∀ {m:List (Int×Value)} {l:List (Int×WayM)},WMap s τ m l->m.map (·.1)=l.map (·.1)
 |[],[],_=>rfl
 |e::m,p::l,h=>by rw [List.map_cons,List.map_cons,h.1,WMap.keys h.2.2]
 |[],_::_,h=>h.elim
 |_::_,[],h=>h.elim
theorem WMap.mem_ {s:TH} {τ:Nat}: ∀ {m:List (Int×Value)} {l:List (Int×WayM)} {k:Int} {v:Value},WMap s τ m l->(k,v)∈m->∃p∈l,p.1=k/\WayV s τ v p.2
 |[],[],k,v,h,hm=>by cases hm
 |e::m,q::l,k,v,h,hm=>by
  rcases List.mem_cons.1 hm with rfl|hm
  ·exact ⟨q,by simp,h.1.symm,h.2.1⟩
  obtain ⟨p,h1,h2⟩:=WMap.mem_ h.2.2 hm
  exact ⟨p,List.mem_cons_of_mem _ h1,h2⟩
 |[],_::_,_,_,h,_=>h.elim
 |_::_,[],_,_,h,_=>h.elim
theorem WMap.get {s:TH} {τ:Nat}: ∀ {m:List (Int×Value)} {l:List (Int×WayM)} {k:Nat} {p:Int×WayM},WMap s τ m l->(l.map (·.1)).Nodup->l[k]? =some p->∃v,mget p.1 m=some v/\WayV s τ v p.2
 |[],[],k,p,h,hn,hp=>by simp at hp
 |e::m,q::l,k,p,h,hn,hp=>by
  obtain ⟨ek,ev⟩:=e
  have hk:ek=q.1:=h.1
  rw [List.map_cons,List.nodup_cons] at hn
  cases k with
  |zero=>simp at hp;subst hp;exact ⟨ev,by rw [mget,if_pos hk.symm],h.2.1⟩
  |succ k=>
   have hp:l[k]? =some p:=by simpa using hp
   obtain ⟨v,h1,h2⟩:=WMap.get h.2.2 hn.2 hp
   have hne:p.1≠ek:=fun e=>hn.1 (by rw [←hk, ←e];exact List.mem_map.2 ⟨p,List.mem_of_getElem? hp,rfl⟩)
   exact ⟨v,by rw [mget,if_neg hne];exact h1,h2⟩
 |[],_::_,_,_,h,_,_=>h.elim
 |_::_,[],_,_,h,_,_=>h.elim
theorem WMap.snoc {s:TH} {τ:Nat} {v:Value} {p:Int×WayM} (hv:WayV s τ v p.2): ∀ {m:List (Int×Value)} {l:List (Int×WayM)},WMap s τ m l->p.1∉l.map (·.1)->WMap s τ (mset p.1 v m) (l++[p])
 |[],[],h,_=>⟨rfl,hv,trivial⟩
 |e::m,q::l,h,hn=>by
  obtain ⟨k,x⟩:=e
  have hk:k=q.1:=h.1
  rw [List.map_cons,List.mem_cons,not_or] at hn
  show WMap s τ (if p.1=k then (p.1,v)::m else (k,x)::mset p.1 v m) (q::(l++[p]))
  rw [if_neg (by rw [hk];exact hn.1)]
  exact ⟨h.1,h.2.1,WMap.snoc hv h.2.2 hn.2⟩
 |[],_::_,h,_=>h.elim
 |_::_,[],h,_=>h.elim
theorem WMap.del {s:TH} {τ:Nat}: ∀ {m:List (Int×Value)} {l:List (Int×WayM)} {k:Nat} {p:Int×WayM},WMap s τ m l->(l.map (·.1)).Nodup->l[k]? =some p->WMap s τ (mdel p.1 m) (l.eraseIdx k)
 |[],[],k,p,h,hn,hp=>by simp at hp
 |e::m,q::l,k,p,h,hn,hp=>by
  obtain ⟨ek,ev⟩:=e
  have hk:ek=q.1:=h.1
  rw [List.map_cons,List.nodup_cons] at hn
  show WMap s τ (if p.1=ek then m else (ek,ev)::mdel p.1 m) _
  cases k with
  |zero=>simp at hp;subst hp;rw [if_pos hk.symm];exact h.2.2
  |succ k=>
   have hp:l[k]? =some p:=by simpa using hp
   have hne:p.1≠ek:=fun e=>hn.1 (by rw [←hk, ←e];exact List.mem_map.2 ⟨p,List.mem_of_getElem? hp,rfl⟩)
   rw [if_neg hne]
   exact ⟨h.1,h.2.1,WMap.del h.2.2 hn.2 hp⟩
 |[],_::_,_,_,h,_,_=>h.elim
 |_::_,[],_,_,h,_,_=>h.elim
def KMap (s:TH) (τ:Nat):List (Int×Value)->List (Int×List UInt8)->Prop
 |[],[]=>True
 |e::m,p::l=>e.1=p.1/\(∃a c,e.2=.slice a 128 c/\Sl s a (bvs p.2) τ/\p.2.length=128)/\KMap s τ m l
 |_,_=>False
theorem KMap.mv {s s':TH} {τ:Nat} {B:Nat->Prop}: ∀ {m:List (Int×Value)} {l:List (Int×List UInt8)},KMap s τ m l->Chg B s s'->(∀j,j<s.h.size->s.g j=τ->¬B j)->KMap s' τ m l
 |[],[],h,c,hn=>trivial
 |e::m,p::l,⟨h1,⟨a,c0,h2,h3,h4⟩,h5⟩,c,hn=>⟨h1,⟨a,c0,h2,h3.mv c hn,h4⟩,KMap.mv h5 c hn⟩
 |[],_::_,h,_,_=>h.elim
 |_::_,[],h,_,_=>h.elim
theorem KMap.keys {s:TH} {τ:Nat}: ∀ {m:List (Int×Value)} {l:List (Int×List UInt8)},KMap s τ m l->m.map (·.1)=l.map (·.1)
 |[],[],_=>rfl
 |e::m,p::l,h=>by rw [List.map_cons,List.map_cons,h.1,KMap.keys h.2.2]
 |[],_::_,h=>h.elim
 |_::_,[],h=>h.elim
def kfind (l:List (Int×List UInt8)) (b:Int):Option (List UInt8):=(l.find? fun e=>e.1==b).map (·.2)
theorem KMap.get {s:TH} {τ:Nat} {b:Int}: ∀ {m:List (Int×Value)} {l:List (Int×List UInt8)},KMap s τ m l->
  match kfind l b with
  |some y=>∃a c,mget b m=some (.slice a 128 c)/\Sl s a (bvs y) τ/\y.length=128
  |none=>mget b m=none
 |[],[],h=>by simp [kfind,mget]
 |e::m,q::l,h=>by
  obtain ⟨ek,ev⟩:=e
  have hk:ek=q.1:=h.1
  obtain ⟨_,⟨a,c,h2,h3,h4⟩,h5⟩:=h
  have ih:=KMap.get (b:=b) h5
  unfold kfind at ih ⊢
  rw [List.find?_cons]
  by_cases hq:q.1=b
  ·rw [show (q.1==b)=true by simpa using hq]
   simp only [Option.map_some]
   exact ⟨a,c,by rw [mget,if_pos (by rw [hk,hq])];exact congrArg some h2,h3,h4⟩
  ·rw [show (q.1==b)=false by simpa using hq]
   simp only [mget,if_neg (show ¬b=ek by rw [hk];exact fun e=>hq e.symm)]
   exact ih
 |[],_::_,h=>h.elim
 |_::_,[],h=>h.elim
theorem KMap.snoc {s:TH} {τ:Nat} {a:Option Addr} {c:Nat} {b:Int} {y:List UInt8} (hv:Sl s a (bvs y) τ) (hy:y.length=128): ∀ {m:List (Int×Value)} {l:List (Int×List UInt8)},KMap s τ m l->kfind l b=none->KMap s τ (mset b (.slice a 128 c) m) (l++[(b,y)])
 |[],[],h,_=>⟨rfl,⟨a,c,rfl,hv,hy⟩,trivial⟩
 |e::m,q::l,h,hn=>by
  obtain ⟨k,x⟩:=e
  have hk:k=q.1:=h.1
  unfold kfind at hn
  rw [List.find?_cons] at hn
  by_cases hq:q.1=b
  ·rw [show (q.1==b)=true by simpa using hq] at hn;simp at hn
  rw [show (q.1==b)=false by simpa using hq] at hn
  show KMap s τ (if b=k then (b,_)::m else (k,x)::mset b _ m) (q::(l++[(b,y)]))
  rw [if_neg (by rw [hk];exact fun e=>hq e.symm)]
  exact ⟨h.1,h.2.1,KMap.snoc hv hy h.2.2 hn⟩
 |[],_::_,h,_=>h.elim
 |_::_,[],h,_=>h.elim
structure OMap (s:TH) (rk:Option Nat) (mk:List (Int×Value)) (τ:Nat):Prop where
 at_: ∀r,rk=some r->MapK (Value.int .i64) s r mk τ
 no:rk=none->mk=[]
theorem OMap.mv {s s':TH} {rk:Option Nat} {mk:List (Int×Value)} {τ:Nat} {B:Nat->Prop} (h:OMap s rk mk τ) (c:Chg B s s') (hn: ∀j,j<s.h.size->s.g j=τ->¬B j):OMap s' rk mk τ:=
 ⟨fun r hr=>(h.at_ r hr).mv c (hn r (h.at_ r hr).lt (h.at_ r hr).tag),h.no⟩
theorem OMap.of {s:TH} {r:Nat} {mk:List (Int×Value)} {τ:Nat} (h:MapK (Value.int .i64) s r mk τ):OMap s (some r) mk τ:=⟨fun r' e=>by cases e;exact h,fun e=>by cases e⟩
def sentOf (p:Int×WayM):SentM:=⟨p.1,p.2.blk,p.2.by_⟩
structure VOk (V:VolM):Prop where
 que:V.D.queue=V.way.map sentOf
 wid: ∀p∈V.way,1<=p.1/\p.1<=V.D.last
 wsr:V.way.Pairwise fun x y=>x.1<y.1
 lst:0<=V.D.last/\V.D.last<=V.n
 n0:0<=V.n/\V.n<=1000000000000000000
 nof: ∀b,V.D.fails b<=0
 len: ∀y∈V.D.blocks,y.length=128
 wlen:V.way.length<=64
 wids: ∀p∈V.way,(p.2.ids.length:Int)<=1000000
structure VolP (s:TH) (v d U:Nat) (V:VolM) (lk:Int) (c p rw:Nat) (rk:Option Nat) (mw mk:List (Int×Value)):Prop where
 blk:Blk s v [.int .i32 lk,.int .u32 0,.pointer (some ⟨d,0,none⟩),.pointer (some ⟨c,0,none⟩),.pointer (some ⟨p,0,none⟩),.map (some rw),.bool V.old.on,.bool V.old.broken,.int .i64 V.old.room,.map rk] 102 U
 wm:MapK (Value.int .i64) s rw mw (U+1)
 wv:WMap s (U+2) mw V.way
 kn:V.old.on=true->rk.isSome=true
 om:OMap s rk mk (U+3)
 kv:KMap s (U+4) mk V.old.kept
 dk:Disk s d (U+10) V.D
 ca:CacheV s c (U+20) d V.D.blocks V.n
 ps:PSet s p (U+30) V.P
structure VolL (s:TH) (v d U:Nat) (V:VolM) (lk:Int):Prop where
 p: ∃c p rw rk mw mk,VolP s v d U V lk c p rw rk mw mk
 ok:VOk V
theorem of_rng50 {s:TH} {T T':Nat} {B:Nat->Prop} (hn: ∀j,j<s.h.size->T<=s.g j->s.g j<T+50->¬B j) (h1:T<=T') (h2:T'+10<=T+50): ∀j,j<s.h.size->T'<=s.g j->s.g j<T'+10->¬B j:=fun j hj h3 h4=>hn j hj (by omega) (by omega)
theorem of_t50 {s:TH} {T τ:Nat} {B:Nat->Prop} (hn: ∀j,j<s.h.size->T<=s.g j->s.g j<T+50->¬B j) (h1:T<=τ) (h2:τ<T+50): ∀j,j<s.h.size->s.g j=τ->¬B j:=fun j hj e=>hn j hj (by omega) (by omega)
theorem rngn50 {s:TH} {T:Nat} {L:List Nat} (h: ∀τ∈L,τ<T∨T+50<=τ): ∀j,j<s.h.size->T<=s.g j->s.g j<T+50->¬s.g j∈L:=fun j _ h1 h2 h3=>by have:=h _ h3;omega
theorem VolP.mv {s s':TH} {v d U:Nat} {V:VolM} {lk:Int} {c p rw:Nat} {rk:Option Nat} {mw mk:List (Int×Value)} {B:Nat->Prop} (h:VolP s v d U V lk c p rw rk mw mk) (k:Chg B s s') (hn: ∀j,j<s.h.size->U<=s.g j->s.g j<U+50->¬B j):VolP s' v d U V lk c p rw rk mw mk:=
 ⟨h.blk.mv k (of_t50 hn (by omega) (by omega) v h.blk.lt h.blk.tag),h.wm.mv k (of_t50 hn (by omega) (by omega) rw h.wm.lt h.wm.tag),h.wv.mv k (of_t50 hn (by omega) (by omega)),h.kn,h.om.mv k (of_t50 hn (by omega) (by omega)),h.kv.mv k (of_t50 hn (by omega) (by omega)),
  h.dk.mv k (of_rng50 hn (by omega) (by omega)),h.ca.mv k (of_rng50 hn (by omega) (by omega)),h.ps.mv k (of_rng50 hn (by omega) (by omega))⟩
theorem VolL.mv {s s':TH} {v d U:Nat} {V:VolM} {lk:Int} {B:Nat->Prop} (h:VolL s v d U V lk) (k:Chg B s s') (hn: ∀j,j<s.h.size->U<=s.g j->s.g j<U+50->¬B j):VolL s' v d U V lk:=by
 obtain ⟨⟨c,p,rw,rk,mw,mk,hp⟩,ok⟩:=h
 exact ⟨⟨c,p,rw,rk,mw,mk,hp.mv k hn⟩,ok⟩
theorem rowLen {V:VolM} (ok:VOk V) {b:Int} {l:List UInt8} (h:V.D.blocks[b.toNat]? =some l):l.length=128:=ok.len l (List.mem_of_getElem? h)
def VolM.blk (V:VolM) (b:Int):List UInt8:=V.D.blocks.getD b.toNat []
theorem blk_get {V:VolM} {b:Int} (h:V.D.has b):V.D.blocks[b.toNat]? =some (V.blk b):=by
 unfold DiskM.has at h
 unfold VolM.blk
 rw [List.getD_eq_getElem?_getD,List.getElem?_eq_getElem (by omega)];rfl
theorem blk_len {V:VolM} (ok:VOk V) {b:Int} (h:V.D.has b):(V.blk b).length=128:=rowLen ok (blk_get h)
def VolM.now (V:VolM) (b:Int):List UInt8:=V.P.over (V.blk b) (V.P.of b)
def VolM.tick (V:VolM):VolM:={ V with n:=V.n+1 }
theorem VOk.tick {V:VolM} (ok:VOk V) (h:V.n<1000000000000000000):VOk V.tick:=⟨ok.que,ok.wid,ok.wsr,by have:=ok.lst;exact ⟨this.1,by show V.D.last<=V.n+1;omega⟩,by have:=ok.n0;exact ⟨by show 0<=V.n+1;omega,by show V.n+1<=_;omega⟩,ok.nof,ok.len,ok.wlen,ok.wids⟩
theorem c_vhas (vp d U:Nat) (V:VolM) (lk:Int) (b:Int) (s:TH) (hU:10<=U) (hv:VolL s vp d U V lk):TRet Tryz.prog 46 #[.pointer (some ⟨vp,0,none⟩),.int .i64 b] s fun v s'=>v=.bool (decide (V.D.has b))/\Ch [] s s':=by
 obtain ⟨⟨c,p,rw_,rk,mw,mk,hV⟩,ok⟩:=id hv
 have hvb:=hV.blk
 have hvw:=hV.wm
 have hvv:=hV.wv
 have hvo:=hV.om
 have hvk:=hV.kv
 have hvD:=hV.dk
 have hvC:=hV.ca
 have hvP:=hV.ps
 have hn0:=ok.n0
 have hpok:=hV.ps.ok
 have hplst:=hV.ps.ok.lst
 have hnb:=hV.dk.nb
 refine F46_calls _ _  ?_
 unfold F46
 refine sB_d (fun e=>?_) (fun e=>?_)
 ·refine nz_i (ld_t hvb rfl (dPtr_i ?_))
  refine tcall (c_blocks _ _ _ _ (by omega) hvD) ?_
  rintro f g ⟨rfl,a⟩
  have h:=a.size
  refine dInt_i ?_
  refine ret_t ?_
  exact ⟨ret_b (by unfold DiskM.has;first|exact (decide_eq_false (by omega)).symm|exact (decide_eq_true (by omega)).symm|exact decide_eq_decide.2 (by omega)),((Ch.refl [] s).ch a (by simp))⟩
 refine ret_t ?_
 exact ⟨ret_b (by unfold DiskM.has;first|exact (decide_eq_false (by omega)).symm|exact (decide_eq_true (by omega)).symm|exact decide_eq_decide.2 (by omega)),(Ch.refl [] s)⟩
theorem c_vread (vp d U:Nat) (V:VolM) (lk:Int) (τ:Nat) (b:Int) (s:TH) (hU:10<=U) (hv:VolL s vp d U V lk) (hn:V.n<1000000000000000000):TRet Tryz.prog 47 #[.pointer (some ⟨vp,0,none⟩),.int .i64 b] s fun v s'=>Ch [U+20,U+21,U+22,U+23] s s'/\((v=.tuple #[.slice none 0 0,.int .i64 90]/\¬V.D.has b/\VolL s' vp d U V lk)∨(∃a c,v=.tuple #[.slice a 128 c,.int .i64 0]/\V.D.has b/\VolL s' vp d U V.tick lk/\Own s' a 128 c 5 1 (bvs (V.now b)) τ)):=by
 obtain ⟨⟨c,p,rw_,rk,mw,mk,hV⟩,ok⟩:=id hv
 have hvb:=hV.blk
 have hvw:=hV.wm
 have hvv:=hV.wv
 have hvo:=hV.om
 have hvk:=hV.kv
 have hvD:=hV.dk
 have hvC:=hV.ca
 have hvP:=hV.ps
 have hn0:=ok.n0
 have hpok:=hV.ps.ok
 have hplst:=hV.ps.ok.lst
 have hnb:=hV.dk.nb
 obtain ⟨M,hM,hM0,hMa,hMb,hMc,hMd,hMe,hMf⟩:=fresh6 s (U+50) τ 0 0 0 0
 refine F47_calls _ _  ?_
 unfold F47
 refine tcall (c_vhas _ _ _ _ _ _ _ (by omega) hv) ?_
 rintro R S ⟨rfl,f⟩
 have T:=f.size
 refine dBl_i ?_
 refine sB_nd (fun i=>?_) (fun i=>?_)
 ·refine ret_t ?_
  have E:=hv.mv f (rngn50 (by simp))
  exact ⟨((Ch.refl [U+20,U+21,U+22,U+23] s).ch f (by simp)),.inl ⟨rfl,by simpa using i,E⟩⟩
 refine nz_i ?_
 have q:=hvb.ch f (by simp)
 refine ld_t q rfl (dPtr_i ?_)
 have hh:V.D.has b:=by simpa using i
 have F:=hvC.mv f (rngn (by simp))
 have r:=hvD.mv f (rngn (by simp))
 refine tcall (c_vcGet (M+5) (by omega) (by omega) (by omega) F r hh (blk_get hh) (ok.nof b) (by omega)) ?_
 rintro J K ⟨G,C,rfl,g,j,k⟩
 have L:=g.size
 refine dT2 (dSl_i (dInt_i (sB_f (by rfl) (nz_i ?_))))
 have l:=q.ch g (by simp<;>omega)
 refine ld_t l rfl (dPtr_i ?_)
 have m:=hvP.mv (f.app g) (rngn (by simp))
 refine tcall (c_pnow p (U+30) V.P (τ:=τ) (b:=b) _ _ (by omega) m k.sl (blk_len ok hh)) ?_
 rintro N O ⟨H,I,rfl,e,o⟩
 have Q:=e.size
 refine dT2 (dSl_i (dInt_i ?_))
 refine ret_t ?_
 have t:=l.ch e (by simp)
 have h:=((f.app g).app e)
 have u:=hvw.ch h (by simp)
 have w:=hvv.mv h (tagn (by simp))
 have x:=hvo.mv h (tagn (by simp))
 have y:=hvk.mv h (tagn (by simp))
 have z:=r.mv (g.app e) (rngn (by simp))
 have A:=j.mv e (rngn (by simp))
 have B:=m.mv e (rngn (by simp))
 exact ⟨((((Ch.refl [U+20,U+21,U+22,U+23] s).ch f (by simp)).fr g hM (by simp<;>omega)).ch e (by simp)),.inr ⟨_,_,rfl,hh,⟨⟨_,_,_,_,_,_,t,u,w,hV.kn,x,y,z,A,B⟩,ok.tick hn⟩,o⟩⟩
theorem dA3 {a b c:Value} {k:VF 3} (h:(k:Value->Value->Value->Prop) a b c):dA 3 (.agg #[a,b,c]) k:=h
def VolM.going (V:VolM) (b:Int):Bool:=V.way.any fun p=>p.2.blk==b
def VolM.ready (V:VolM):List Int:=V.P.blocks.filter fun b=> !((V.P.free b).isEmpty||V.going b)
def VolM.plan (V:VolM) (b:Int):List UInt8:=V.P.over (V.blk b) (V.P.free b)
def VolM.sent (V:VolM) (b:Int):VolM:={ V with n:=V.n+1,D:={ V.D with queue:=V.D.queue++[⟨V.D.last+1,b,V.plan b⟩],last:=V.D.last+1 },way:=V.way++[(V.D.last+1,⟨b,V.plan b,V.P.free b⟩)] }
def VolM.write (V:VolM) (b:Int):VolM×Int:=
 if ¬V.D.has b then (V,90)
 else if V.going b=true then (V,3)
 else if V.P.free b=[] then (V,71)
 else if 64<=V.way.length then (V.tick,3)
 else (V.sent b,0)
theorem VOk.sent {V:VolM} (ok:VOk V) (pok:POk V.P) {b:Int} (h:V.D.has b) (hw: ¬ 64<=V.way.length) (hn:V.n<1000000000000000000):VOk (V.sent b) where
 que:=by
  show V.D.queue++[_]=(V.way++[_]).map sentOf
  rw [List.map_append,ok.que];rfl
 wid p hp:=by
  have hl:=ok.lst
  rcases List.mem_append.1 (show p∈V.way++[_] from hp) with h|h
  ·have:=ok.wid p h;exact ⟨this.1,by show p.1<=V.D.last+1;omega⟩
  rw [List.mem_singleton] at h;subst h;exact ⟨by show 1<=V.D.last+1;omega,Int.le_refl _⟩
 wsr:=List.pairwise_append.2 ⟨ok.wsr,by simp,fun a ha c hc=>by
  rw [List.mem_singleton] at hc;subst hc
  have:=ok.wid a ha
  show a.1<V.D.last+1
  omega⟩
 lst:=by have:=ok.lst;exact ⟨by show 0<=V.D.last+1;omega,by show V.D.last+1<=V.n+1;omega⟩
 n0:=by have:=ok.n0;exact ⟨by show 0<=V.n+1;omega,by show V.n+1<=_;omega⟩
 nof:=ok.nof
 len:=ok.len
 wlen:=by show (V.way++[_]).length<=64;rw [List.length_append,List.length_singleton];omega
 wids p hp:=by
  rcases List.mem_append.1 (show p∈V.way++[_] from hp) with h|h
  ·exact ok.wids p h
  rw [List.mem_singleton] at h;subst h
  have h1:=free_len pok b
  have h2:=pok.lst
  show ((V.P.free b).length:Int)<=1000000
  omega
theorem QRel.keep {s:TH} {σ μ τ:Nat} {hs:List (Int×Int×Hd)} {q:List SentM} (h:QRel s σ hs q) (hn:σ≠μ):QRel (remark s μ τ) σ hs q:=⟨h.len,fun i p b h1 h2=>⟨(h.at_ i p b h1 h2).1,(h.at_ i p b h1 h2).2.1,⟨(h.at_ i p b h1 h2).2.2.sl.keep hn,(h.at_ i p b h1 h2).2.2.len⟩⟩⟩
theorem BRel.keep {s:TH} {σ μ τ:Nat} {hs:List Hd} {q:List (List UInt8)} (h:BRel s σ hs q) (hn:σ≠μ):BRel (remark s μ τ) σ hs q:=⟨h.len,fun i p b h1 h2=>⟨(h.at_ i p b h1 h2).sl.keep hn,(h.at_ i p b h1 h2).len⟩⟩
theorem ByAt.nn {s:TH} {τ:Nat} {p:Hd} {b:List UInt8} (h:ByAt s τ p b):p.1=none->128=0:=fun e=>by obtain ⟨a,ha⟩:=h.ne;rw [e] at ha;cases ha
theorem VolP.relock {s s':TH} {v d U:Nat} {V:VolM} {lk lk':Int} {c p rw:Nat} {rk:Option Nat} {mw mk:List (Int×Value)} (h:VolP s v d U V lk c p rw rk mw mk) (k:Ch [U] s s')
  (hb:Blk s' v [.int .i32 lk',.int .u32 0,.pointer (some ⟨d,0,none⟩),.pointer (some ⟨c,0,none⟩),.pointer (some ⟨p,0,none⟩),.map (some rw),.bool V.old.on,.bool V.old.broken,.int .i64 V.old.room,.map rk] 102 U):VolP s' v d U V lk' c p rw rk mw mk:=
 ⟨hb,h.wm.ch k (by simp),h.wv.mv k (tagn (by simp)),h.kn,h.om.mv k (tagn (by simp)),h.kv.mv k (tagn (by simp)),h.dk.mv k (rngn (by simp<;>omega)),h.ca.mv k (rngn (by simp<;>omega)),h.ps.mv k (rngn (by simp<;>omega))⟩
theorem c_VBlocks2 (vp d U:Nat) (V:VolM)  (s:TH) (hU:10<=U) (hv:VolL s vp d U V 0):TRet Tryz.prog 38 #[.pointer (some ⟨vp,0,none⟩)] s fun v s'=>v=.int .i64 V.D.blocks.length/\Ch [U] s s'/\VolL s' vp d U V 0:=by
 obtain ⟨⟨c,p,rw_,rk,mw,mk,hV⟩,ok⟩:=id hv
 have hvb:=hV.blk
 have hvw:=hV.wm
 have hvv:=hV.wv
 have hvo:=hV.om
 have hvk:=hV.kv
 have hvD:=hV.dk
 have hvC:=hV.ca
 have hvP:=hV.ps
 have hn0:=ok.n0
 have hpok:=hV.ps.ok
 have hplst:=hV.ps.ok.lst
 have hnb:=hV.dk.nb
 refine F38_calls _  ?_
 unfold F38
 refine tcall (c_vheld _ _ hvb) ?_
 rintro z u ⟨rfl,f,b⟩
 have A:=f.size
 have hV1:=hV.relock f b
 have hv1:VolL u vp d U V 1:=⟨⟨_,_,_,_,_,_,hV1⟩,ok⟩
 refine dBl_i (sB_f (by rfl) (nz_i (nz_i (ld_t b rfl (dPtr_i ?_)))))
 have i:=hvD.mv f (rngn (by simp))
 refine tcall (c_blocks _ _ _ _ (by omega) i) ?_
 rintro B C ⟨rfl,e⟩
 have w:=e.size
 refine dInt_i ?_
 have h:=b.ch e (by simp)
 refine c_door Tryz.muLib h (by rfl) (fun _=>by rfl) fun x j k y=>?_
 have g:=on_ch h k
 refine ret_t ?_
 have a:=((f.app e).app g)
 have l:=hvw.ch a (by simp)
 have m:=hvv.mv a (tagn (by simp))
 have n:=hvo.mv a (tagn (by simp))
 have o:=hvk.mv a (tagn (by simp))
 have q:=i.mv (e.app g) (rngn (by simp))
 have r:=hvC.mv a (rngn (by simp))
 have t:=hvP.mv a (rngn (by simp))
 exact ⟨rfl,((Ch.refl [U] s).ch a (by simp)),⟨⟨_,_,_,_,_,_,j,l,m,hV.kn,n,o,q,r,t⟩,ok⟩⟩
theorem c_VDirty (vp d U:Nat) (V:VolM) (τ:Nat) (s:TH) (hU:10<=U) (hv:VolL s vp d U V 0) (hτ:τ<U∨U+50<=τ):TRet Tryz.prog 9 #[.pointer (some ⟨vp,0,none⟩)] s fun v s'=>∃a c,v=.slice a V.P.blocks.length c/\Ch [U] s s'/\Own s' a V.P.blocks.length c 3 1 (ivs V.P.blocks) τ/\VolL s' vp d U V 0:=by
 obtain ⟨⟨c,p,rw_,rk,mw,mk,hV⟩,ok⟩:=id hv
 have hvb:=hV.blk
 have hvw:=hV.wm
 have hvv:=hV.wv
 have hvo:=hV.om
 have hvk:=hV.kv
 have hvD:=hV.dk
 have hvC:=hV.ca
 have hvP:=hV.ps
 have hn0:=ok.n0
 have hpok:=hV.ps.ok
 have hplst:=hV.ps.ok.lst
 have hnb:=hV.dk.nb
 refine F9_calls _  ?_
 unfold F9
 refine tcall (c_vheld _ _ hvb) ?_
 rintro E y ⟨rfl,h,e⟩
 have F:=h.size
 have hV1:=hV.relock h e
 have hv1:VolL y vp d U V 1:=⟨⟨_,_,_,_,_,_,hV1⟩,ok⟩
 refine dBl_i (sB_f (by rfl) (nz_i (nz_i (ld_t e rfl (dPtr_i ?_)))))
 have k:=hvP.mv h (rngn (by simp))
 refine tcall (c_pblocks _ _ _ τ _ (by omega) k) ?_
 rintro G H ⟨z,A,rfl,f,i⟩
 have B:=f.size
 refine dSl_i ?_
 have j:=e.ch f (by simp)
 refine c_door Tryz.muLib j (by rfl) (fun _=>by rfl) fun C l m D=>?_
 have g:=on_ch j m
 refine ret_t ?_
 have b:=((h.app f).app g)
 have n:=i.mv g (tagn (by simp<;>omega))
 have o:=hvw.ch b (by simp)
 have q:=hvv.mv b (tagn (by simp))
 have r:=hvo.mv b (tagn (by simp))
 have t:=hvk.mv b (tagn (by simp))
 have u:=hvD.mv b (rngn (by simp))
 have w:=hvC.mv b (rngn (by simp))
 have x:=k.mv (f.app g) (rngn (by simp))
 exact ⟨_,_,rfl,((Ch.refl [U] s).ch b (by simp)),n,⟨⟨_,_,_,_,_,_,l,o,q,hV.kn,r,t,u,w,x⟩,ok⟩⟩
theorem c_VRead (vp d U:Nat) (V:VolM) (τ:Nat) (b:Int) (s:TH) (hU:10<=U) (hv:VolL s vp d U V 0) (hn:V.n<1000000000000000000) (hb:V.D.has b) (hτ:τ<U∨U+50<=τ):TRet Tryz.prog 39 #[.pointer (some ⟨vp,0,none⟩),.int .i64 b] s fun v s'=>∃a c,v=.tuple #[.slice a 128 c,.int .i64 0]/\Ch [U,U+20,U+21,U+22,U+23] s s'/\Own s' a 128 c 5 1 (bvs (V.now b)) τ/\VolL s' vp d U V.tick 0:=by
 obtain ⟨⟨c,p,rw_,rk,mw,mk,hV⟩,ok⟩:=id hv
 have hvb:=hV.blk
 have hvw:=hV.wm
 have hvv:=hV.wv
 have hvo:=hV.om
 have hvk:=hV.kv
 have hvD:=hV.dk
 have hvC:=hV.ca
 have hvP:=hV.ps
 have hn0:=ok.n0
 have hpok:=hV.ps.ok
 have hplst:=hV.ps.ok.lst
 have hnb:=hV.dk.nb
 refine F39_calls _ _  ?_
 unfold F39
 refine tcall (c_vheld _ _ hvb) ?_
 rintro u o ⟨rfl,f,g⟩
 have w:=f.size
 have hV1:=hV.relock f g
 have hv1:VolL o vp d U V 1:=⟨⟨_,_,_,_,_,_,hV1⟩,ok⟩
 refine dBl_i (sB_f (by rfl) (nz_i ?_))
 refine tcall (c_vread _ _ _ _ _ τ _ _ (by omega) hv1 (by omega)) ?_
 rintro x y ⟨i,h⟩
 have q:=i.size
 rcases h with ⟨rfl,hnb2,hv2⟩|⟨a2,c2_,rfl,hh,hv2,ho2⟩
 ·exact absurd hb hnb2
 have hvx:=hv2
 obtain ⟨⟨c2,p2,rw2,rk2,mw2,mk2,hV2⟩,ok2⟩:=id hvx
 have hvb2:=hV2.blk
 refine dT2 (dSl_i (dInt_i ?_))
 refine c_door Tryz.muLib hvb2 (by rfl) (fun _=>by rfl) fun r j k t=>?_
 have e:=on_ch hvb2 k
 refine ret_t ?_
 have l:=((f.app i).app e)
 have m:=ho2.mv e (tagn (by simp<;>omega))
 exact ⟨_,_,rfl,((Ch.refl [U,U+20,U+21,U+22,U+23] s).ch l (by simp)),m,⟨⟨_,_,_,_,_,_,hV2.relock e j⟩,ok2⟩⟩
def VolM.first (V:VolM) (b:Int):Bool:=V.old.on&& !V.old.broken&&(kfind V.old.kept b).isNone
def VolM.keep (V:VolM) (b:Int):OldM:=if V.first b=true then (if (V.old.kept.length:Int)<V.old.room then { V.old with kept:=V.old.kept++[(b,V.now b)] } else { V.old with broken:=true }) else V.old
theorem VOk.with {V:VolM} (ok:VOk V) {n:Int} (P:PatchM) (o:OldM) (hn:V.n<=n/\n<=1000000000000000000):VOk { V with n:=n,P:=P,old:=o }:=
 ⟨ok.que,ok.wid,ok.wsr,by have:=ok.lst;exact ⟨this.1,by show V.D.last<=n;omega⟩,by have:=ok.n0;exact ⟨by show 0<=n;omega,hn.2⟩,ok.nof,ok.len,ok.wlen,ok.wids⟩
def VolM.freeze (V:VolM) (room:Int):VolM×Int:=
 if V.old.on=true then (V,3) else if room<0∨room>65536 then (V,1) else ({ V with old:=⟨true,false,room,[]⟩ },0)
theorem OMap.nil (s:TH) (τ:Nat):OMap s none [] τ:=⟨fun r e=>(by cases e),fun _=>rfl⟩
theorem OMap.keep {s:TH} {rk:Option Nat} {mk:List (Int×Value)} {σ μ τ:Nat} (h:OMap s rk mk σ) (hn:σ≠μ):OMap (remark s μ τ) rk mk σ:=⟨fun r e=>(h.at_ r e).keep hn,h.no⟩
theorem WMap.keep {s:TH} {σ μ τ:Nat} (hn:σ≠μ): ∀ {m:List (Int×Value)} {l:List (Int×WayM)},WMap s σ m l->WMap (remark s μ τ) σ m l
 |[],[],h=>trivial
 |e::m,p::l,h=>by
  obtain ⟨h1,⟨ba,bc,ia,ic,g1,g2,g3,g4⟩,h2⟩:=h
  exact ⟨h1,⟨ba,bc,ia,ic,g1,g2.keep hn,g3.keep hn,g4⟩,WMap.keep hn h2⟩
 |[],_::_,h=>h.elim
 |_::_,[],h=>h.elim
theorem KMap.keep {s:TH} {σ μ τ:Nat} (hn:σ≠μ): ∀ {m:List (Int×Value)} {l:List (Int×List UInt8)},KMap s σ m l->KMap (remark s μ τ) σ m l
 |[],[],h=>trivial
 |e::m,p::l,⟨h1,⟨a,c,g1,g2,g3⟩,h2⟩=>⟨h1,⟨a,c,g1,g2.keep hn,g3⟩,KMap.keep hn h2⟩
 |[],_::_,h=>h.elim
 |_::_,[],h=>h.elim
theorem PMap.keep {s:TH} {σ μ τ:Nat} (hn:σ≠μ): ∀ {m:List (Int×Value)} {l:List PatM},PMap s σ m l->PMap (remark s μ τ) σ m l
 |[],[],h=>trivial
 |e::m,p::l,h=>by
  obtain ⟨h1,⟨ba,bc,na,nc,g1,g2,g3⟩,h2⟩:=h
  exact ⟨h1,⟨ba,bc,na,nc,g1,g2.keep hn,g3.keep hn⟩,PMap.keep hn h2⟩
 |[],_::_,h=>h.elim
 |_::_,[],h=>h.elim
theorem PSet.keep {s:TH} {p T μ τ:Nat} {P:PatchM} (h:PSet s p T P) (hn:μ<T∨T+10<=μ):PSet (remark s μ τ) p T P:=by
 obtain ⟨⟨r1,r2,m1,m2,hp⟩,ok⟩:=h
 exact ⟨⟨r1,r2,m1,m2,hp.blk.keep (by omega),hp.dm.keep (by omega),hp.lm.keep (by omega),PMap.keep (by omega) hp.pm,hp.dk,hp.dv⟩,ok⟩
theorem Disk.keep {s:TH} {d T μ τ:Nat} {D:DiskM} (h:Disk s d T D) (hn:μ<T∨T+10<=μ):Disk (remark s μ τ) d T D:=by
 obtain ⟨pa,pc,qa,qc,hs,qs,fr,fm,h⟩:=h
 exact ⟨pa,pc,qa,qc,hs,qs,fr,fm,h.blk.keep (by omega),h.rows.keep (by omega),h.brel.keep (by omega),h.que.keep (by omega),h.qrel.keep (by omega),h.fails.keep (by omega),h.fok,h.nb,h.nq,h.qin⟩
theorem CacheV.keep {s:TH} {c T d μ τ:Nat} {bs:List (List UInt8)} {n:Int} (h:CacheV s c T d bs n) (hn:μ<T∨T+10<=μ):CacheV (remark s μ τ) c T d bs n:=by
 obtain ⟨C,⟨⟨r,m,bp,bh,hp⟩,ok⟩,h2⟩:=h
 exact ⟨C,⟨⟨r,m,bp,bh,hp.blk.keep (by omega),hp.map.keep (by omega),⟨fun x hx=>(hp.bufs.at_ x hx).keep (by omega)⟩,⟨fun x hx=>⟨(hp.bufy.at_ x hx).sl.keep (by omega),(hp.bufy.at_ x hx).len⟩⟩,hp.mo,hp.bnd,hp.len⟩,ok⟩,h2⟩
theorem VolL.keep {s:TH} {v d U μ τ:Nat} {V:VolM} {lk:Int} (h:VolL s v d U V lk) (hn:μ<U∨U+50<=μ):VolL (remark s μ τ) v d U V lk:=by
 obtain ⟨⟨c,p,rw,rk,mw,mk,h⟩,ok⟩:=h
 exact ⟨⟨c,p,rw,rk,mw,mk,h.blk.keep (by omega),h.wm.keep (by omega),WMap.keep (by omega) h.wv,h.kn,h.om.keep (by omega),KMap.keep (by omega) h.kv,h.dk.keep (by omega),h.ca.keep (by omega),h.ps.keep (by omega)⟩,ok⟩
def wrStep (cl:List Int) (r:VolM×Bool) (b:Int):VolM×Bool:=
 if ((r.1.P.of b).any fun i=>decide (i∈cl))=true/\r.1.way.length<64 then ((r.1.write b).1,r.2&&((r.1.write b).2==0)) else r
theorem write_P {V:VolM} {b:Int}:(V.write b).1.P=V.P:=by
 unfold VolM.write
 split
 ·rfl
 split
 ·rfl
 split
 ·rfl
 split<;>rfl
structure WrI (V:VolM) (r:VolM×Bool):Prop where
 P:r.1.P=V.P
 w: ∀p∈r.1.way,∃i∈p.2.ids,i∈V.P.all
theorem WrI.step {V:VolM} {cl:List Int} {r:VolM×Bool} {b:Int} (h:WrI V r):WrI V (wrStep cl r b):=by
 unfold wrStep
 split
 ·refine ⟨write_P.trans h.P,fun p hp=>?_⟩
  unfold VolM.write at hp
  split at hp
  ·exact h.w p hp
  split at hp
  ·exact h.w p hp
  split at hp
  ·exact h.w p hp
  rename_i hf
  split at hp
  ·exact h.w p hp
  rcases List.mem_append.1 (show p∈r.1.way++[_] from hp) with h1|h1
  ·exact h.w p h1
  rw [List.mem_singleton] at h1;subst h1
  obtain ⟨i,l,e⟩:=List.exists_cons_of_ne_nil hf
  refine ⟨i,by show i∈r.1.P.free b;rw [e];simp,?_⟩
  have:i∈r.1.P.free b:=by rw [e];simp
  rw [←h.P];exact of_sub (free_sub this)
 exact h
end Go.Proofs.YtkaikaodhegmhaaGreat.E
namespace Go.Proofs.YtkaikaodhegmhaaGreat.E
open Go Go.Proofs Go.RowKit Go.Maps Go.Shelf Go.Sort
set_option linter.unusedVariables false
set_option linter.unusedSimpArgs false
def cov (j:Nat) (x:PatM):Bool:=decide (x.off.toNat<=j/\j<x.off.toNat+x.by_.length)
def POv (P:PatchM):Prop:=∀x∈P.l,∀y∈P.l,x.id<y.id->x.blk=y.blk->(∃j,cov j x=true/\cov j y=true)->x.id∈y.needs
theorem POv.add {P:PatchM} (ok:POk P) (h:POv P) {b o:Int} {y:List UInt8} {needs:List Int} (hf:fitsP b o y.length):POv { P with last:=P.last+1,l:=P.l++[P.newP b o y needs] }:=fun x hx z hz hlt hb hc=>by
 unfold fitsP at hf
 rcases List.mem_append.1 (show x∈P.l++[_] from hx) with h1|h1<;>rcases List.mem_append.1 (show z∈P.l++[_] from hz) with h2|h2
 ·exact h x h1 z h2 hlt hb hc
 ·rw [List.mem_singleton] at h2;subst h2
  refine List.mem_map.2 ⟨x,List.mem_filter.2 ⟨h1,?_⟩,rfl⟩
  obtain ⟨j,c1,c2⟩:=hc
  have hfx:=ok.fit x h1
  unfold cov at c1 c2
  simp only [decide_eq_true_eq] at c1 c2
  have c2:o.toNat<=j/\j<o.toNat+y.length:=c2
  have hb:x.blk=b:=hb
  rw [Bool.or_eq_true];right
  unfold ovx ovl
  exact decide_eq_true ⟨hb.symm,by omega,by omega⟩
 ·rw [List.mem_singleton] at h1;subst h1
  have:=ok.rng z h2
  have hlt:P.last+1<z.id:=hlt
  omega
 rw [List.mem_singleton] at h1 h2;subst h1 h2
 exact absurd hlt (Int.lt_irrefl _)
theorem newCache {s:TH} {c T d r:Nat} {b:Int} (h1:Blk s c [.pointer (some ⟨d,0,none⟩),.int .i64 b,.map (some r),.int .i64 0,.int .i64 0,.int .i64 0] 210 T) (h2:MapK (Value.int .i64) s r [] (T+1)) (hb:1<=b/\b<=64):Cache s c T d ⟨[],b,0,0,0⟩:=
 ⟨⟨r,[],fun _=>0,fun _=>(none,0),h1,h2,⟨fun x h=>(List.not_mem_nil h).elim⟩,⟨fun x h=>(List.not_mem_nil h).elim⟩,⟨List.Perm.refl _,fun x h=>(List.not_mem_nil h).elim,fun x h=>(List.not_mem_nil h).elim,List.nodup_nil,fun x h=>(List.not_mem_nil h).elim⟩,hb,by simp;omega⟩,
  ⟨List.Pairwise.nil,fun x h=>(List.not_mem_nil h).elim,by simp,by simp,fun x h=>(List.not_mem_nil h).elim⟩⟩
def VolM.fresh (bs:List (List UInt8)):VolM:=⟨diskOf bs,⟨0,[],[]⟩,[],⟨false,false,0,[]⟩,0⟩
theorem VOk.fresh {bs:List (List UInt8)} (h: ∀y∈bs,y.length=128):VOk (VolM.fresh bs):=
 ⟨rfl,fun p hp=>(List.not_mem_nil hp).elim,List.Pairwise.nil,⟨Int.le_refl _,Int.le_refl _⟩,⟨Int.le_refl _,(by decide:(0:Int)<=1000000000000000000)⟩,fun _=>Int.le_refl _,h,(by decide:0<=64),fun p hp=>(List.not_mem_nil hp).elim⟩
theorem newPSet {s:TH} {p T r1 r2:Nat} (h:Blk s p [.int .i64 0,.map (some r1),.map (some r2),.bool true] 161 T) (h1:MapK (Value.int .i64) s r1 [] (T+1)) (h2:MapK (Value.int .i64) s r2 [] (T+2)):PSet s p T ⟨0,[],[]⟩:=
 ⟨⟨r1,r2,[],[],h,h1,h2,trivial,rfl,fun e he=>(List.not_mem_nil he).elim⟩,⟨List.Pairwise.nil,fun x hx=>(List.not_mem_nil hx).elim,fun x hx=>(List.not_mem_nil hx).elim,fun x hx=>(List.not_mem_nil hx).elim,fun x hx=>(List.not_mem_nil hx).elim,fun x hx=>(List.not_mem_nil hx).elim,fun i h1 h2=>absurd (Int.le_trans h1 h2) (by show ¬(1:Int)<=0;decide),fun x hx=>(List.not_mem_nil hx).elim,(by decide:(0:Int)<=0/\(0:Int)<=1000000)⟩⟩
theorem c_vopen2 (U d:Nat) (bs:List (List UInt8)) (b:Int) (s:TH) (hU:10<=U) (hd:Disk s d (U+10) (diskOf bs)) (hl: ∀y∈bs,y.length=128) (hb:1<=b/\b<=64):TRet Tryz.prog 29 #[.pointer (some ⟨d,0,none⟩),.int .i64 b] s fun v s'=>∃r,v=.tuple #[.pointer (some ⟨r,0,none⟩),.int .i64 0]/\Ch [] s s'/\VolL s' r d U (VolM.fresh bs) 0:=by
 refine F29_calls _ _  ?_
 unfold F29
 refine tcall (c_cnew (U+10) d (diskOf bs) (U+20) b _ (by omega) hd hb) ?_
 rintro K L ⟨C,D,rfl,n,e,f⟩
 have M:=n.size
 refine dT2 (dPtr_i (dInt_i (sB_f (by rfl) ?_)))
 refine tcall (c_pnew (U+30) _) ?_
 rintro N O ⟨E,r1call2,r2call2,rfl,g,i,j,k⟩
 have F:=g.size
 refine dPtr_i ?_
 refine alm_t (Value.int .i64) (U+1) fun P Q G o c H=>?_
 refine al_t U fun R S I p a J=>?_
 refine ret_t ?_
 have l:=(((n.app g).app c).app a)
 have q:=o.ch a (by simp)
 have t:=hd.mv l (rngn (by simp))
 have m:=((g.app c).app a)
 have u:=e.ch m (by simp)
 have w:=f.ch m (by simp)
 have z:=i.ch (c.app a) (by simp)
 have A:=j.ch (c.app a) (by simp)
 have B:=k.ch (c.app a) (by simp)
 exact ⟨_,rfl,((Ch.refl [] s).ch l (by simp)),⟨⟨_,_,_,none,[],[],p,q,trivial,(fun h=>by cases h),OMap.nil _ _,trivial,t,⟨_,newCache u w hb,⟨fun x hx=>(List.not_mem_nil hx).elim,fun x hx=>(List.not_mem_nil hx).elim⟩,Int.le_refl _,Int.le_refl _,Int.le_refl _⟩,newPSet z A B⟩,VOk.fresh hl⟩⟩
structure DoV where
 op:Int
 b:Int
 off:Int
 n:Int
 ba:Option Addr
 bn:Nat
 bc:Nat
 na:Option Addr
 nn:Nat
 nc:Nat
 by_:List UInt8
 ns:List Int
structure DoIn (s:TH) (τ:Nat) (x:DoV):Prop where
 bs:Sl s x.ba (bvs x.by_) τ
 bl:x.by_.length=x.bn
 bo:x.ba=none->x.bn=0
 bm:x.bn<=x.bc/\x.bn<=140737488351232
 ns:Sl s x.na (ivs x.ns) τ
 nl:x.ns.length=x.nn
 no:x.na=none->x.nn=0
 nm:x.nn<=x.nc/\x.nn<=17592186043904
theorem DoIn.mv {s s':TH} {τ:Nat} {x:DoV} {B:Nat->Prop} (h:DoIn s τ x) (c:Chg B s s') (hn: ∀j,j<s.h.size->s.g j=τ->¬B j):DoIn s' τ x:=⟨h.bs.mv c hn,h.bl,h.bo,h.bm,h.ns.mv c hn,h.nl,h.no,h.nm⟩
structure Dos (s:TH) (τ:Nat) (l:List DoV):Prop where
 at_: ∀x∈l,DoIn s τ x
theorem Dos.mv {s s':TH} {τ:Nat} {l:List DoV} {B:Nat->Prop} (h:Dos s τ l) (c:Chg B s s') (hn: ∀j,j<s.h.size->s.g j=τ->¬B j):Dos s' τ l:=⟨fun x hx=>(h.at_ x hx).mv c hn⟩
theorem Sl.pre0 {s:TH} {a:Option Addr} {xs:List Value} {τ:Nat} (h:Sl s a xs τ) (m c:Nat):Sl s (slO a 1 0 (c:Int)) (xs.take m) τ:=by
 rcases h with rfl|⟨g,o,rfl,h1,h2,h3⟩
 ·left;simp
 right
 refine ⟨g,o,?_,h1,h2,fun j v hv=>?_⟩
 ·have:=slA_mk g o 1 0 c
  rw [show ((0:Nat):Int)=0 from rfl] at this
  rw [this];simp
 rw [List.getElem?_take] at hv
 split at hv
 ·exact h3 j v hv
 cases hv
end Go.Proofs.YtkaikaodhegmhaaGreat.E
