/- My own texts, joined. -/
import Derived.Laws.AppendOwn
import Derived.Laws.Rows
import Derived.Laws.StructEq
import Derived.OrdersHeld
import Derived.Scope
import Derived.Test.YtkaikaodhegmhaaGreatSS1
namespace Go.Proofs.YtkaikaodhegmhaaGreat.E
open Go
set_option linter.unusedVariables false
def wpAnyP (P:Program) (ops:Array Oper) (Q:Exit->Act->World->Prop) (ms:List Nat):Nat->List ((World->Prop)×Nat)->Array Bool->Act->World->Prop
 |0,_,listed,a,w=>Region.ready .any ops listed=[]/\Q .normal a w
 |n+1,pend,listed,a,w=>(Region.ready .any ops listed=[]->Q .normal a w)/\∀j∈Region.ready .any ops listed,
   wpOp P ops Q j (fun a' w'=>(∀p∈pend,sc ms p.2 j=false->p.1 w')/\wpAnyP P ops Q ms n (pend.filter fun p=> !sc ms p.2 j) (listed.setIfInBounds j true) a' w') a w
section
variable {P :Program} {ops:Array Oper} {Q:Exit->Act->World->Prop} {ms:List Nat}
theorem wpAnyP_less : ∀(n:Nat) {pend pend':List ((World->Prop)×Nat)} {listed:Array Bool} {a:Act} {w:World},(∀p∈pend',p∈pend)->
  wpAnyP P ops Q ms n pend listed a w->wpAnyP P ops Q ms n pend' listed a w
 |0,_,_,_,_,_,_,h=>h
 |n+1,pend,pend',listed,a,w,hs,h=>⟨h.1,fun j hj=>wpOp_mono (fun a' w' h'=>⟨fun p hp=>h'.1 p (hs p hp),wpAnyP_less n (fun p hp=>by
   obtain ⟨h1,h2⟩:=List.mem_filter.1 hp
   exact List.mem_filter.2 ⟨hs p h1,h2⟩) h'.2⟩) (h.2 j hj)⟩
theorem wpAny_ofP : ∀(n:Nat) {pend:List ((World->Prop)×Nat)} {listed:Array Bool} {a:Act} {w:World},wpAnyP P ops Q ms n pend listed a w->wpAny P .any ops Q n listed a w
 |0,_,_,_,_,h=>h
 |n+1,pend,listed,a,w,h=>⟨h.1,fun j hj=>wpOp_mono (fun a' w' h'=>wpAny_ofP n h'.2) (h.2 j hj)⟩
theorem down_set {listed:Array Bool} (hd:Down ops listed) {j:Nat} (hj:j∈Region.ready .any ops listed):Down ops (listed.setIfInBounds j true):=by
 intro k o hk hl e he hb
 obtain ⟨hjun,oj,hoj,hall⟩:=mem_ready.1 hj
 by_cases hkj:k=j
 ·subst hkj;rw [hoj] at hk;cases hk
  exact getD_set_true (hall e he hb)
 rw [getD_set_ne false (Ne.symm hkj)] at hl
 exact getD_set_true (hd k o hk hl e he hb)
theorem sc_false (hms:ms=masks ops) {listed:Array Bool} (hd:Down ops listed) {i j:Nat} (hj:j∈Region.ready .any ops listed) (hi:listed.getD i true=false):sc ms i j=false:=by
 cases h:sc ms i j with
 |false=>rfl
 |true=>
  subst hms
  obtain ⟨_,oj,hoj,hall⟩:=mem_ready.1 hj
  have h1:=down_tp hd (masks_spec ops i j h) oj hoj hall
  rcases Nat.lt_or_ge i listed.size with h'|h'
  ·simp [h'] at hi h1;rw [hi] at h1;cases h1
  simp [Array.getElem?_eq_none h'] at h1
theorem wpAnyP_first {i:Nat} {oi:Oper} {v:Value} {S:World->Prop} (hms:ms=masks ops) (hi:ops[i]? =some oi) (hsel: ∀(j:Nat) (o:Oper) cs b,ops[j]? =some o->o.op≠.select cs b)
  (hQ: ∀c a w,Q (.panic c) (a.put oi.dst v) w->Q (.panic c) a w):
  ∀(fuel:Nat) (pend:List ((World->Prop)×Nat)) (listed:Array Bool) (a:Act) (w:World),
   (∀j oj,ops[j]? =some oj->j≠i->listed.getD j true=false->(∀e∈oj.after,Region.binds .any e=true->e.on≠i)->oi.apart ops oj=true)->
   Down ops listed->i∈Region.ready .any ops listed->YieldsIf P ops S oi v a->S w->(∀p∈pend,p.1 w)->
   wpAnyP P ops Q ms fuel ((S,i)::pend) (listed.setIfInBounds i true) (a.put oi.dst v) w->wpAnyP P ops Q ms (fuel+1) pend listed a w:=by
 intro fuel
 induction fuel with
 |zero=>
  intro pend listed a w _ hd hr hy hS hp H
  refine ⟨fun h=>(by rw [h] at hr;cases hr),fun j hj=>?_⟩
  by_cases hji:j=i
  ·subst hji;exact hy.wpOp hi hS ⟨fun p hm _=>hp p hm,H⟩
  ·have:=ready_mono hj hji
   rw [H.1] at this
   cases this
 |succ fuel ih=>
  intro pend listed a w hfree hd hr hy hS hp H
  refine ⟨fun h=>(by rw [h] at hr;cases hr),fun j hj=>?_⟩
  by_cases hji:j=i
  ·subst hji
   refine hy.wpOp hi hS ⟨fun p hm _=>hp p hm,wpAnyP_less _ (fun p hm=>?_) H⟩
   exact List.mem_cons_of_mem _ (List.mem_filter.1 hm).1
  ·have h1:=H.2 j (ready_mono hj hji)
   obtain ⟨hjun,oj,hoj,hall⟩:=mem_ready.1 hj
   have hiun:=(mem_ready.1 hr).1
   have hnot: ∀e∈oj.after,Region.binds .any e=true->e.on≠i:=fun e he hb heq=>by
    have h1:=hall e he hb
    rw [heq] at h1
    rcases Nat.lt_or_ge i listed.size with h'|h'
    ·simp [h'] at hiun h1;rw [hiun] at h1;cases h1
    ·simp [Array.getElem?_eq_none h'] at h1
   have hsc:sc ms i j=false:=sc_false hms hd hj hiun
   have h2:=wpOp_putIf hoj (hfree j oj hoj hji hjun hnot) (fun cs b=>hsel i oi cs b hi) (fun cs b=>hsel j oj cs b hoj) hQ hy h1
   have hfree': ∀k ok,ops[k]? =some ok->k≠i->(listed.setIfInBounds j true).getD k true=false->
     (∀e∈ok.after,Region.binds .any e=true->e.on≠i)->oi.apart ops ok=true:=fun k ok hk hki hun hno=>by
    refine hfree k ok hk hki ?_ hno
    by_cases hjk:j=k
    ·subst hjk;exact hjun
    ·rw [getD_set_ne true hjk] at hun;exact hun
   refine wpOp_mono (fun a' w' h3=>?_) h2
   obtain ⟨hy',h4,h5⟩:=h3
   have hS':S w':=h4 (S,i) List.mem_cons_self hsc
   have hp': ∀p∈pend,sc ms p.2 j=false->p.1 w':=fun p hm hs=>h4 p (List.mem_cons_of_mem _ hm) hs
   refine ⟨hp',ih (pend.filter fun p=> !sc ms p.2 j) (listed.setIfInBounds j true) a' w' hfree' (down_set hd hj) (ready_mono hr (Ne.symm hji)) hy' hS' (fun p hm=>?_) ?_⟩
   ·obtain ⟨h6,h7⟩:=List.mem_filter.1 hm
    exact hp' p h6 (by simpa using h7)
   ·rw [Array.setIfInBounds_comm _ _ hji]
    have e:((S,i)::pend).filter (fun p=> !sc ms p.2 j)=(S,i)::pend.filter (fun p=> !sc ms p.2 j):=by simp [hsc]
    rw [e] at h5
    exact h5
end
inductive Pick where
 |no
 |skip (i:Nat) (o:Oper)
 |take (i:Nat) (o:Oper) (b:Bool) (x:Sp Value)
def pickOp (P:Program) (ops:Array Oper) (listed:Array Bool) (a:Act):List Nat->Pick
 |[]=>.no
 |i::r=>match ops.toList[i]? with
  |none=>pickOp P ops listed a r
  |some o=>match Region.wanted o (yielded ops a.tmps) with
   |false=>match Region.free .any ops listed i with
    |true=>.skip i o
    |false=>pickOp P ops listed a r
   |true=>match takeS P a.eval o with
    |none=>pickOp P ops listed a r
    |some (b,x)=>match Region.free .any ops listed i with
     |true=>.take i o b x
     |false=>pickOp P ops listed a r
structure Pend where
 i:Nat
 v:Value
 x:Sp Value
def heldV (H:Heap):List Pend->Prop->Prop
 |[],K=>K
 |p::r,K=>p.x.run (fun u _=>u=p.v) (fun _ _=>False) H/\heldV H r K
def allL (p:Nat->Prop):List Nat->Prop
 |[]=>True
 |[i]=>p i
 |i::r=>p i/\allL p r
def forceL {α β:Type}:List α->(List α->β)->β
 |[],k=>k []
 |x::xs,k=>forceL xs fun ys=>k (x::ys)
theorem forceL_eq {α β:Type}: ∀(l:List α) (k:List α->β),forceL l k=k l
 |[],_=>rfl
 |x::xs,k=>by rw [forceL,forceL_eq xs]
def forceA {β:Type} (a:Act) (k:Act->β):β:=forceL a.tmps.toList fun l=>forceL a.defers fun d=>k ⟨⟨l⟩,d⟩
theorem forceA_eq {β:Type} (a:Act) (k:Act->β):forceA a k=k a:=by unfold forceA;rw [forceL_eq,forceL_eq]
def forceB {β:Type} (b:Array Bool) (k:Array Bool->β):β:=forceL b.toList fun l=>k ⟨l⟩
theorem forceB_eq {β:Type} (b:Array Bool) (k:Array Bool->β):forceB b k=k b:=by unfold forceB;rw [forceL_eq]
def anyV (P:Program) (ops:Array Oper) (ms:List Nat) (K:Act->Heap->Prop):Nat->Array Bool->Act->List Pend->Heap->Prop
 |0,listed,a,_,H=>match Region.ready .any ops listed with
  |[]=>K a H
  |_=>False
 |n+1,listed0,a0,pend,H=>forceA a0 fun a=>forceB listed0 fun listed=>
  match Region.ready .any ops listed with
  |[]=>K a H
  |rs=>match pickOp P ops listed a rs with
   |.skip i o=>anyV P ops ms K n (listed.setIfInBounds i true) (a.put o.dst undef) pend H
   |.take i o b x=>(spG ops o x).run (fun v _=>anyV P ops ms K n (listed.setIfInBounds i true) (a.put o.dst v) (match b with|true=>⟨i,v,x⟩::pend|false=>pend) H) (fun _ _=>False) H
   |.no=>allL (fun j=>match ops.toList[j]? with
    |none=>False
    |some o=>match Region.wanted o (yielded ops a.tmps) with
     |false=>anyV P ops ms K n (listed.setIfInBounds j true) (a.put o.dst undef) (pend.filter fun p=> !sc ms p.i j) H
     |true=>(spG ops o (opS P a.eval o)).run (fun v H'=>heldV H' (pend.filter fun p=> !sc ms p.i j) (anyV P ops ms K n (listed.setIfInBounds j true) (a.put o.dst v) (pend.filter fun p=> !sc ms p.i j) H')) (fun _ _=>False) H) rs
theorem allL_mem {p:Nat->Prop}: ∀ {l:List Nat},allL p l->∀i∈l,p i
 |[i],h,j,hj=>by rw [List.mem_singleton] at hj;subst hj;exact h
 |i::k::r,h,j,hj=>by
  rcases List.mem_cons.1 hj with rfl|hj
  ·exact h.1
  exact allL_mem (l:=k::r) h.2 j hj
theorem heldV_get {H:Heap} {K:Prop}: ∀ {l:List Pend},heldV H l K->K/\∀p∈l,p.x.run (fun u _=>u=p.v) (fun _ _=>False) H
 |[],h=>⟨h,fun p hp=>by cases hp⟩
 |p::r,h=>by
  obtain ⟨h1,h2⟩:=heldV_get (l:=r) h.2
  refine ⟨h1,fun q hq=>?_⟩
  rcases List.mem_cons.1 hq with rfl|hq
  ·exact h.1
  exact h2 q hq
theorem wpAnyP_more {P:Program} {ops:Array Oper} {Q:Exit->Act->World->Prop} {ms:List Nat} {i:Nat}: ∀(n:Nat) {pend:List ((World->Prop)×Nat)} {listed:Array Bool} {a:Act} {w:World},
  wpAnyP P ops Q ms n pend listed a w->wpAnyP P ops Q ms n (((fun _=>True),i)::pend) listed a w
 |0,_,_,_,_,h=>h
 |n+1,pend,listed,a,w,h=>⟨h.1,fun j hj=>wpOp_mono (fun a' w' h'=>⟨fun p hp hs=>by
   rcases List.mem_cons.1 hp with rfl|hp
   ·exact trivial
   ·exact h'.1 p hp hs,by
   cases hsj:sc ms i j with
   |true=>simp only [List.filter_cons,hsj];exact h'.2
   |false=>simp only [List.filter_cons,hsj];exact wpAnyP_more n h'.2⟩) (h.2 j hj)⟩
def holdW (P:Program) (s:Sem Next) (v:Value) (w:World):Prop:=s.run P w=.ok (.value v) w
inductive Pends (P:Program):List Pend->List ((World->Prop)×Nat)->Prop
 |nil:Pends P [] []
 |cons {p:Pend} {s:Sem Next} {l:List Pend} {m:List ((World->Prop)×Nat)}:DoesQ true P s p.x->Pends P l m->Pends P (p::l) ((holdW P s p.v,p.i)::m)
theorem Pends.filter {P:Program} {f:Nat->Bool} {l:List Pend} {m:List ((World->Prop)×Nat)} (h:Pends P l m):Pends P (l.filter fun p=>f p.i) (m.filter fun p=>f p.2):=by
 induction h with
 |nil=>exact .nil
 | @cons p s l m hq _ ih=>
  cases hf:f p.i with
  |true=>simp only [List.filter_cons,hf,if_true];exact .cons hq ih
  |false=>simp only [List.filter_cons,hf];exact ih
theorem Pends.holds {P:Program} {l:List Pend} {m:List ((World->Prop)×Nat)} (h:Pends P l m) {w:World} (hl: ∀p∈l,p.x.run (fun u _=>u=p.v) (fun _ _=>False) w.heap): ∀q∈m,q.1 w:=by
 induction h with
 |nil=>intro q hq;cases hq
 | @cons p s l m hq _ ih=>
  intro q hm
  rcases List.mem_cons.1 hm with rfl|hm
  ·obtain ⟨v,hv,hr⟩:=hq _ _ _ (hl p List.mem_cons_self)
   have:(fun u (_:Heap)=>u=p.v) v w.heap:=hv
   show s.run P w=.ok (.value p.v) w
   rw [←(show v=p.v from this)];exact hr w fun _=>rfl
  exact ih (fun p hp=>hl p (List.mem_cons_of_mem _ hp)) q hm
def OnlyNormal (K:Act->Heap->Prop) (w0:World):Exit->Act->World->Prop
 |.normal,a,w=>K a w.heap/\Like w0 w
 |_,_,_=>False
theorem anyV_sound {P:Program} {ops:Array Oper} {ms:List Nat} {K:Act->Heap->Prop} {w0:World} (hms:ms=masks ops) (hsel:Region.noSelect ops=true):
  ∀(n:Nat) (listed:Array Bool) (a:Act) (pend:List Pend) (m:List ((World->Prop)×Nat)) (w:World),Down ops listed->Pends P pend m->(∀q∈m,q.1 w)->Like w0 w->
   anyV P ops ms K n listed a pend w.heap->wpAnyP P ops (OnlyNormal K w0) ms n m listed a w:=by
 intro n
 induction n with
 |zero=>
  intro listed a pend m w _ _ _ hl h
  unfold anyV at h
  cases hrs:Region.ready .any ops listed with
  |nil=>rw [hrs] at h;exact ⟨hrs,h,hl⟩
  |cons r0 rr=>rw [hrs] at h;exact h.elim
 |succ n ih=>
  intro listed a pend m w hd hp hm hl h
  unfold anyV at h
  simp only [forceA_eq,forceB_eq] at h
  have hget: ∀i:Nat,ops.toList[i]? =ops[i]? :=fun i=>by simp
  cases hrs:Region.ready .any ops listed with
  |nil=>
   rw [hrs] at h
   refine ⟨fun _=>⟨h,hl⟩,(fun j hj=>by rw [hrs] at hj;cases hj)⟩
  |cons r0 rr=>
   rw [hrs] at h
   simp only at h
   rw [←hrs] at h
   have hpick: ∀rs:List Nat,(∀i∈rs,i∈Region.ready .any ops listed)->(∀i o,pickOp P ops listed a rs=.skip i o->i∈Region.ready .any ops listed/\ops[i]? =some o/\Region.free .any ops listed i=true/\Region.wanted o (yielded ops a.tmps)=false)/\
     (∀i o b x,pickOp P ops listed a rs=.take i o b x->i∈Region.ready .any ops listed/\ops[i]? =some o/\Region.free .any ops listed i=true/\Region.wanted o (yielded ops a.tmps)=true/\takeS P a.eval o=some (b,x)):=by
    intro rs
    induction rs with
    |nil=>intro _;exact ⟨fun i o h=>by simp [pickOp] at h,fun i o b x h=>by simp [pickOp] at h⟩
    |cons i r ihr=>
     intro hall
     have hr:=ihr fun i hi=>hall i (List.mem_cons_of_mem _ hi)
     have hin:=hall i List.mem_cons_self
     unfold pickOp
     cases ho:ops.toList[i]? with
     |none=>exact hr
     |some o=>
      have ho':ops[i]? =some o:=by rw [←hget];exact ho
      simp only
      cases hw:Region.wanted o (yielded ops a.tmps) with
      |false=>
       simp only
       cases hf:Region.free .any ops listed i with
       |false=>exact hr
       |true=>exact ⟨(fun i' o' h=>by cases h;exact ⟨hin,ho',hf,hw⟩),(fun i' o' b x h=>by cases h)⟩
      |true=>
       simp only
       cases ht:takeS P a.eval o with
       |none=>exact hr
       |some bx=>
        obtain ⟨b,x⟩:=bx
        simp only
        cases hf:Region.free .any ops listed i with
        |false=>exact hr
        |true=>exact ⟨(fun i' o' h=>by cases h),(fun i' o' b' x' h=>by cases h;exact ⟨hin,ho',hf,hw,ht⟩)⟩
   have hpk:=hpick (Region.ready .any ops listed) (fun i hi=>hi)
   cases hpp:pickOp P ops listed a (Region.ready .any ops listed) with
   |skip i o=>
    rw [hpp] at h
    simp only at h
    obtain ⟨hin,ho,hf,hw⟩:=hpk.1 i o hpp
    have h1:=ih (listed.setIfInBounds i true) (a.put o.dst undef) pend m w (down_set hd hin) hp hm hl h
    refine wpAnyP_first (S:=fun _=>True) (v:=undef) hms ho (Region.noSelect_spec hsel) (fun c a w h=>h) n m listed a w (Region.free_spec ho hf) hd hin (.inr ⟨hw,rfl⟩) trivial hm ?_
    exact wpAnyP_more n h1
   |take i o b x=>
    rw [hpp] at h
    simp only at h
    obtain ⟨hin,ho,hf,hw,ht⟩:=hpk.2 i o b x hpp
    have hq:=take_does ht
    obtain ⟨v,hv,hr⟩:=hq _ _ _ (spG_elim h)
    cases b with
    |false=>
     have h1:=ih (listed.setIfInBounds i true) (a.put o.dst v) pend m w (down_set hd hin) hp hm hl hv
     refine wpAnyP_first (S:=fun _=>True) (v:=v) hms ho (Region.noSelect_spec hsel) (fun c a w h=>h) n m listed a w (Region.free_spec ho hf) hd hin (.inl ⟨hw,fun w' _=>hr w' (by simp)⟩) trivial hm ?_
     exact wpAnyP_more n h1
    |true=>
     have h1:=ih (listed.setIfInBounds i true) (a.put o.dst v) (⟨i,v,x⟩::pend) ((holdW P (execOp a.eval o) v,i)::m) w (down_set hd hin) (.cons hq hp) (fun q hq'=>by
      rcases List.mem_cons.1 hq' with rfl|hq'
      ·exact hr w fun _=>rfl
      ·exact hm q hq') hl hv
     exact wpAnyP_first (S:=holdW P (execOp a.eval o) v) (v:=v) hms ho (Region.noSelect_spec hsel) (fun c a w h=>h) n m listed a w (Region.free_spec ho hf) hd hin (.inl ⟨hw,fun w' h'=>h'⟩) (hr w fun _=>rfl) hm h1
   |no=>
    rw [hpp] at h
    simp only at h
    refine ⟨(fun h0=>by rw [hrs] at h0;cases h0),fun j hj=>?_⟩
    have hj':=allL_mem h j hj
    unfold wpOp
    rw [hget] at hj'
    cases ho:ops[j]? with
    |none=>rw [ho] at hj';exact hj'.elim
    |some o=>
     rw [ho] at hj'
     simp only at hj' ⊢
     cases hw:Region.wanted o (yielded ops a.tmps) with
     |false=>
      rw [hw] at hj'
      simp only [Bool.false_eq_true,if_false] at hj' ⊢
      exact ⟨fun p hp' _=>hm p hp',ih _ _ _ _ w (down_set hd hj) (hp.filter (f:=fun i=> !sc ms i j)) (fun q hq=>hm q (List.mem_filter.1 hq).1) hl hj'⟩
     |true=>
      rw [hw] at hj'
      simp only [if_true] at hj' ⊢
      refine .inl ?_
      have hdo:=does_op P a.eval o (fun v H'=>heldV H' (pend.filter fun p=> !sc ms p.i j) (anyV P ops ms K n (listed.setIfInBounds j true) (a.put o.dst v) (pend.filter fun p=> !sc ms p.i j) H')) (fun _ _=>False) w (spG_elim hj')
      have hstep: ∀v w2,Like w w2->heldV w2.heap (pend.filter fun p=> !sc ms p.i j) (anyV P ops ms K n (listed.setIfInBounds j true) (a.put o.dst v) (pend.filter fun p=> !sc ms p.i j) w2.heap)->
        (∀p∈m,sc ms p.2 j=false->p.1 w2)/\wpAnyP P ops (OnlyNormal K w0) ms n (m.filter fun p=> !sc ms p.2 j) (listed.setIfInBounds j true) (a.put o.dst v) w2:=by
       intro v w2 hl2 hh
       obtain ⟨h1,h2⟩:=heldV_get hh
       have h3:=(hp.filter (f:=fun i=> !sc ms i j)).holds h2
       refine ⟨fun p hpm hs=>h3 p (List.mem_filter.2 ⟨hpm,by simp [hs]⟩),ih _ _ _ _ w2 (down_set hd hj) (hp.filter (f:=fun i=> !sc ms i j)) h3 (hl.trans hl2) h1⟩
      unfold Oper.wp
      cases hx:(execOp a.eval o).run P w with
      |halt x w'=>rw [hx] at hdo;cases x<;>first|exact hdo.elim|exact hdo.1.elim
      |ok nx w'=>
       rw [hx] at hdo
       obtain ⟨h1,hl1⟩:=hdo
       cases nx<;>first
        |exact h1.elim
        |exact hstep _ w' hl1 h1
        |skip
       rename_i f args
       refine (h1 w' rfl).mono ?_
       rintro e w2 ⟨h2,h3⟩
       cases e with
       |returned v=>exact hstep v w2 (hl1.trans h3) h2
       |panicked c=>exact h2.elim
       |outgrown=>exact h2.elim
end Go.Proofs.YtkaikaodhegmhaaGreat.E
namespace Go.Proofs.YtkaikaodhegmhaaGreat.E
open Go
set_option linter.unusedVariables false
def deferOf (ev:Operand->Value) (c:Call):Option Deferred:=
 match c.callee with
 |.value f=>match ev f with
  |.func fn first cap=>some { target:=.fn fn cap,args:=(first.toList++c.args.toList.map ev).toArray }
  |_=>none
 |_=>none
def stepV (P:Program) (ops:Array Oper) (o:Oper) (a:Act) (next:Act->Heap->Prop) (Q:Exit->Act->Heap->Prop) (H:Heap):Prop:=
 match o.op with
 |.defer c=>match deferOf a.eval c with
  |some d=>next ({ a with defers:=d::a.defers }.put o.dst undef) H
  |none=>False
 |_=>(spG ops o (opS P a.eval o)).run (fun v H'=>next (a.put o.dst v) H') (fun c H'=>Q (.panic c) a H') H
def opsV (P:Program) (ops:Array Oper) (Q:Exit->Act->Heap->Prop):List Oper->Act->Heap->Prop
 |[],a,H=>Q .normal a H
 |o::rest,a0,H=>forceA a0 fun a=>match Region.wanted o (yielded ops a.tmps) with
  |true=>stepV P ops o a (fun a' H'=>opsV P ops Q rest a' H') Q H
  |false=>opsV P ops Q rest (a.put o.dst undef) H
def lift (Q:Exit->Act->Heap->Prop) (w0:World):Exit->Act->World->Prop:=fun e a w=>Q e a w.heap/\Like w0 w
theorem opN_step {P:Program} {o:Oper} {a:Act} {next:Act->World->Prop} {Q:Exit->Act->World->Prop} {w:World} {K:Value->Heap->Prop} {E:List PanicEntry->Heap->Prop}
  (hk: ∀v w',K v w'.heap->Like w w'->next (a.put o.dst v) w') (he: ∀c w',E c w'.heap->Like w w'->Q (.panic c) a w')
  (h:Outcome (nextK P K E) (fun v H'=>E [{ v,recovered:=false }] H') w ((execOp a.eval o).run P w)):o.wp P a w next Q:=by
 unfold Oper.wp
 cases hx:(execOp a.eval o).run P w with
 |halt x w'=>rw [hx] at h;cases x<;>first|exact h.elim|exact he _ w' h.1 h.2
 |ok nx w'=>
  rw [hx] at h
  obtain ⟨h1,hl1⟩:=h
  cases nx<;>first
   |exact h1.elim
   |exact hk _ w' h1 hl1
   |skip
  rename_i f args
  refine (h1 w' rfl).mono ?_
  rintro e w2 ⟨h2,h3⟩
  cases e with
  |returned v=>exact hk v w2 h2 (hl1.trans h3)
  |panicked c=>exact he c w2 h2 (hl1.trans h3)
  |outgrown=>exact h2.elim
theorem stepV_wp {P:Program} {ops:Array Oper} {o:Oper} {a:Act} {next:Act->Heap->Prop} {Q:Exit->Act->Heap->Prop} {w w0:World} (hl:Like w0 w) (h:stepV P ops o a next Q w.heap):
  o.wp P a w (fun a' w'=>next a' w'.heap/\Like w0 w') (lift Q w0):=by
 obtain ⟨d,op,t,p,af,g⟩:=o
 cases op<;>first
  |exact opN_step (fun v w' hv hl'=>⟨hv,hl.trans hl'⟩) (fun c w' hc hl'=>⟨hc,hl.trans hl'⟩) (does_op P a.eval _ _ _ w (spG_elim h))
  |skip
 rename_i c
 unfold stepV at h
 simp only at h
 cases hd:deferOf a.eval c with
 |none=>rw [hd] at h;exact h.elim
 |some dd=>
  rw [hd] at h
  simp only at h
  obtain ⟨callee,args,ats⟩:=c
  unfold deferOf at hd
  cases callee<;>first|(cases hd;done)|skip
  rename_i f
  simp only at hd
  cases hf:a.eval f<;>rw [hf] at hd<;>first|(cases hd;done)|skip
  rename_i fn first cap
  cases hd
  have e:(first.toList++args.toList.map a.eval).toArray=first++args.map a.eval:=Array.toList_inj.1 (by simp)
  have hx:(execOp a.eval ⟨d,.defer ⟨.value f,args,ats⟩,t,p,af,g⟩).run P w=.ok (.defer { target:=.fn fn cap,args:=(first.toList++args.toList.map a.eval).toArray }) w:=by
   rw [e]
   simp [execOp,resolve,hf,Deferred.ofValue]
  unfold Oper.wp
  rw [hx]
  exact ⟨h,hl⟩
theorem opsV_wp {P:Program} {ops:Array Oper} {Q:Exit->Act->Heap->Prop} {w0:World}: ∀(l:List Oper) (a:Act) (w:World),Like w0 w->opsV P ops Q l a w.heap->wpList P ops (lift Q w0) l a w
 |[],a,w,hl,h=>⟨h,hl⟩
 |o::rest,a,w,hl,h=>by
  unfold opsV at h
  simp only [forceA_eq] at h
  unfold wpList
  cases hw:Region.wanted o (yielded ops a.tmps) with
  |true=>
   rw [hw] at h
   simp only [if_true]
   refine .inl ?_
   exact Oper.wp_mono (fun a' w' h'=>opsV_wp rest a' w' h'.2 h'.1) (stepV_wp hl h)
  |false=>
   rw [hw] at h
   simp only [Bool.false_eq_true,if_false]
   exact opsV_wp rest _ w hl h
theorem regionV_wp {P:Program} {id:Nat} {ops:Array Oper} {Q:Exit->Act->Heap->Prop} {a:Act} {w w0:World} (hl:Like w0 w) (h:opsV P ops Q ops.toList a w.heap):(Code.region id ops false).wp P (lift Q w0) a w:=
 wp_region_list (opsV_wp ops.toList a w hl h)
theorem down_none (ops:Array Oper) (n:Nat):Down ops (Array.replicate n false):=fun j o _ h=>by
 simp [Array.getD] at h
theorem drawV_wp {P:Program} {id:Nat} {ops:Array Oper} {Q:Exit->Act->Heap->Prop} {a:Act} {w w0:World} (hl:Like w0 w) (hm:P.follows .mixedOrders=true) (hs:Region.noSelect ops=true)
  (h:anyV P ops (masks ops) (Q .normal) ops.size (Array.replicate ops.size false) a [] w.heap):(Code.region id ops true).wp P (lift Q w0) a w:=by
 have h1:=wpAny_ofP ops.size (anyV_sound (w0:=w0) rfl hs ops.size (Array.replicate ops.size false) a [] [] { w with drawn:=w.drawn+1 } (down_none ops _) .nil (fun q hq=>by cases hq) (hl.trans ⟨rfl,rfl,rfl⟩) h)
 refine wp_mono (wp_region_any hm h1) fun e a' w' h'=>?_
 cases e<;>first|exact h'|exact h'.elim
end Go.Proofs.YtkaikaodhegmhaaGreat.E
namespace Go.Proofs.YtkaikaodhegmhaaGreat.E
open Go
set_option linter.unusedVariables false
structure Ann where
 live:List (Nat×TypeId)
 junk:List Nat
def Ann.slots (A:Ann):List Nat:=A.live.map (·.1)++A.junk
inductive An where
 |leaf
 |node (j:Option Ann) (l r:An)
def An.j :An->Option Ann
 |.leaf=>none
 |.node j _ _=>j
def An.l :An->An
 |.leaf=>.leaf
 |.node _ l _=>l
def An.r :An->An
 |.leaf=>.leaf
 |.node _ _ r=>r
def readA (slots:List Nat) (a:Act):List Value:=slots.map fun i=>a.tmps.getD i undef
def putsA :List Nat->List Value->Act->Act
 |i::is,v::vs,a=>putsA is vs (a.put (some i) v)
 |_,_,a=>a
def allT1 (P:Program) (t:TypeId) (k:Value->Prop):Prop:=
 match P.underlying t with
 |some (.int kd)=>∀n:Int,k (.int kd n)
 |some .bool=>∀b,k (.bool b)
 |some .string=>∀s,k (.string s)
 |some (.pointer _)=>∀a,k (.pointer a)
 |some (.slice _)=>∀a n c,k (.slice a n c)
 |some (.map _ _)=>∀r,k (.map r)
 |_=>∀v,k v
def okT1 (P:Program) (t:TypeId) (v:Value) (x:Prop):Prop:=
 match P.underlying t with
 |some (.int kd)=>dInt kd v fun _=>x
 |some .bool=>match v with|.bool _=>x|_=>False
 |some .string=>dStr v fun _=>x
 |some (.pointer _)=>dPtr v fun _=>x
 |some (.slice _)=>dSl v fun _ _ _=>x
 |some (.map _ _)=>dMap v fun _=>x
 |_=>x
theorem okT1_elim {P:Program} {t:TypeId} {v:Value} {x:Prop} (h:okT1 P t v x):x/\∀k:Value->Prop,allT1 P t k->k v:=by
 unfold okT1 at h
 unfold allT1
 split at h
 ·obtain ⟨n,rfl,hx⟩:=dInt_elim (k:=fun _=>x) h
  rename_i hu
  exact ⟨hx,fun k hk=>by simpa [hu] using hk n⟩
 ·rename_i hu
  split at h
  ·rename_i b
   exact ⟨h,fun k hk=>hk b⟩
  exact h.elim
 ·obtain ⟨n,rfl,hx⟩:=dStr_elim (k:=fun _=>x) h
  exact ⟨hx,fun k hk=>hk n⟩
 ·obtain ⟨n,rfl,hx⟩:=dPtr_elim (k:=fun _=>x) h
  exact ⟨hx,fun k hk=>hk n⟩
 ·obtain ⟨a,n,c,rfl,hx⟩:=dSl_elim (k:=fun _ _ _=>x) h
  exact ⟨hx,fun k hk=>hk a n c⟩
 ·obtain ⟨n,rfl,hx⟩:=dMap_elim (k:=fun _=>x) h
  exact ⟨hx,fun k hk=>hk n⟩
 exact ⟨h,fun k hk=>hk v⟩
theorem allT1_mono {P:Program} {t:TypeId} {k k':Value->Prop} (hm: ∀v,k v->k' v) (h:allT1 P t k):allT1 P t k':=by
 revert h
 unfold allT1
 split<;>intro h<;>first
  |exact fun n=>hm _ (h n)
  |exact fun a n c=>hm _ (h a n c)
def allTs (P:Program):List TypeId->(List Value->Prop)->Prop
 |[],k=>k []
 |t::ts,k=>allT1 P t fun v=>allTs P ts fun vs=>k (v::vs)
def okTs (P:Program):List TypeId->List Value->Prop->Prop
 |[],[],x=>x
 |t::ts,v::vs,x=>okT1 P t v (okTs P ts vs x)
 |_,_,_=>False
theorem okTs_elim {P:Program}: ∀ {ts:List TypeId} {vs:List Value} {x:Prop},okTs P ts vs x->x/\∀k:List Value->Prop,allTs P ts k->k vs
 |[],[],x,h=>⟨h,fun k hk=>hk⟩
 |[],_::_,x,h=>h.elim
 |_::_,[],x,h=>h.elim
 |t::ts,v::vs,x,h=>by
  obtain ⟨h1,h2⟩:=okT1_elim h
  obtain ⟨h3,h4⟩:=okTs_elim h1
  exact ⟨h3,fun k hk=>h4 (fun vs=>k (v::vs)) (h2 _ hk)⟩
theorem okT1_less {P:Program} {t:TypeId} {v:Value} {x y:Prop} (hxy:x->y) (h:okT1 P t v x):okT1 P t v y:=by
 revert h
 unfold okT1
 split<;>intro h
 ·obtain ⟨n,rfl,hx⟩:=dInt_elim (k:=fun _=>x) h
  show gB _ _;rw [decide_eq_true rfl];exact hxy hx
 ·split at h
  ·exact hxy h
  exact h.elim
 ·obtain ⟨n,rfl,hx⟩:=dStr_elim (k:=fun _=>x) h;exact hxy hx
 ·obtain ⟨n,rfl,hx⟩:=dPtr_elim (k:=fun _=>x) h;exact hxy hx
 ·obtain ⟨a,n,c,rfl,hx⟩:=dSl_elim (k:=fun _ _ _=>x) h;exact hxy hx
 ·obtain ⟨n,rfl,hx⟩:=dMap_elim (k:=fun _=>x) h;exact hxy hx
 exact hxy h
theorem okTs_less {P:Program} {x y:Prop} (hxy:x->y): ∀ {ts:List TypeId} {vs:List Value},okTs P ts vs x->okTs P ts vs y
 |[],[],h=>hxy h
 |[],_::_,h=>h.elim
 |_::_,[],h=>h.elim
 |t::ts,v::vs,h=>okT1_less (okTs_less hxy) h
theorem allTs_mono {P:Program}: ∀ {ts:List TypeId} {k k':List Value->Prop},(∀vs,k vs->k' vs)->allTs P ts k->allTs P ts k'
 |[],k,k',hm,h=>hm _ h
 |t::ts,k,k',hm,h=>allT1_mono (fun v hv=>allTs_mono (fun vs=>hm (v::vs)) hv) h
def allV :Nat->(List Value->Prop)->Prop
 |0,k=>k []
 |n+1,k=>∀v:Value,allV n fun vs=>k (v::vs)
theorem allV_elim : ∀ {n:Nat} {k:List Value->Prop},allV n k->∀vs:List Value,vs.length=n->k vs
 |0,k,h,[],_=>h
 |0,k,h,_::_,hl=>by simp at hl
 |n+1,k,h,[],hl=>by simp at hl
 |n+1,k,h,v::vs,hl=>allV_elim (h v) vs (by simpa using hl)
theorem allV_mono : ∀ {n:Nat} {k k':List Value->Prop},(∀vs,k vs->k' vs)->allV n k->allV n k'
 |0,k,k',hm,h=>hm _ h
 |n+1,k,k',hm,h=>fun v=>allV_mono (fun vs=>hm (v::vs)) (h v)
def thenV (next:Act->Heap->Prop) (Q:Exit->Act->Heap->Prop):Exit->Act->Heap->Prop
 |.normal,a,H=>next a H
 |e,a,H=>Q e a H
def blockV (id:Nat) (Q:Exit->Act->Heap->Prop):Exit->Act->Heap->Prop
 |.exit i,a,H=>match Nat.beq i id with
  |true=>Q .normal a H
  |false=>Q (.exit i) a H
 |e,a,H=>Q e a H
def scopeV (Q:Exit->Act->Heap->Prop):Exit->Act->Heap->Prop
 |.goto _,_,_=>False
 |e,a,H=>Q e a H
def opIn (M:List Nat) (o:Oper):Bool:=
 (match o.dst with|some d=>M.elem d|none=>true)&&(match o.op with|.defer _=>false|_=>true)
def slotsIn (M:List Nat):Code->An->Bool
 |.region _ ops _,_=>ops.toList.all (opIn M)
 |.seq x y,an=>(match an.j with|some A=>A.slots.all (M.elem ·)|none=>true)&&(slotsIn M x an.l&&slotsIn M y an.r)
 |.cond _ x y,an=>slotsIn M x an.l&&slotsIn M y an.r
 |.block _ b,an=>slotsIn M b an.l
 |.scope b,an=>slotsIn M b an.l
 |.loop b,an=>(match an.j with|some A=>A.slots.all (M.elem ·)|none=>false)&&slotsIn M b an.l
 |.skip,_=>true
 |.label _,_=>true
 |.exit _,_=>true
 |.ret,_=>true
 |_,_=>false
def joinK (P:Program) (A:Ann) (next:Act->Heap->Prop) (a:Act):VFH A.live.length:=
 curH A.live.length fun vs H'=>allV A.junk.length fun us=>(destrs P (A.live.map (·.2)) vs).run (fun ws _=>next (putsA A.junk us (putsA (A.live.map (·.1)) ws a)) H') (fun _ _=>False) H'
def loopQ (P:Program) (A:Ann) (I:List Value->Heap->Prop) (μ:List Value->Heap->Nat) (n:Nat) (Q:Exit->Act->Heap->Prop):Exit->Act->Heap->Prop
 |.normal,a,H=>okTs P (A.live.map (·.2)) (readA (A.live.map (·.1)) a) (I (readA (A.live.map (·.1)) a) H/\μ (readA (A.live.map (·.1)) a) H<n)
 |e,a,H=>Q e a H
def loopV (P:Program) (A:Ann) (body:(Exit->Act->Heap->Prop)->Act->Heap->Prop) (Q:Exit->Act->Heap->Prop) (a:Act) (H:Heap):Prop:=
 ∃(I:List Value->Heap->Prop) (μ:List Value->Heap->Nat),okTs P (A.live.map (·.2)) (readA (A.live.map (·.1)) a) (I (readA (A.live.map (·.1)) a) H)/\
  allTs P (A.live.map (·.2)) fun vs=>allV A.junk.length fun us=>∀H',I vs H'->body (loopQ P A I μ (μ vs H') Q) (putsA A.junk us (putsA (A.live.map (·.1)) vs a)) H'
def vc (P:Program):Code->An->(Exit->Act->Heap->Prop)->Act->Heap->Prop
 |.skip,_,Q,a,H=>Q .normal a H
 |.label _,_,Q,a,H=>Q .normal a H
 |.region _ ops draw,_,Q,a,H=>match draw with
  |false=>opsV P ops Q ops.toList a H
  |true=>gB (P.follows .mixedOrders&&Region.noSelect ops) (anyV P ops (masks ops) (Q .normal) ops.size (Array.replicate ops.size false) a [] H)
 |.seq x y,an,Q,a,H=>match an.j with
  |none=>vc P x an.l (thenV (fun a' H'=>vc P y an.r Q a' H') Q) a H
  |some A=>gB (slotsIn A.slots x an.l) (jn (joinK P A (fun a' H'=>vc P y an.r Q a' H') a) fun k=>vc P x an.l (thenV (fun a' H'=>aplH A.live.length k (readA (A.live.map (·.1)) a') H') Q) a H)
 |.cond c x y,an,Q,a,H=>match a.eval c with
  |.bool b=>sB b (vc P x an.l Q a H) (vc P y an.r Q a H)
  |_=>False
 |.block id b,an,Q,a,H=>vc P b an.l (blockV id Q) a H
 |.scope b,an,Q,a,H=>vc P b an.l (scopeV Q) a H
 |.loop b,an,Q,a,H=>match an.j with
  |none=>False
  |some A=>gB (slotsIn A.slots b an.l) (loopV P A (fun Q a H=>vc P b an.l Q a H) Q a H)
 |.exit id,_,Q,a,H=>Q (.exit id) a H
 |.ret,_,Q,a,H=>Q .ret a H
 |_,_,_,_,_=>False
structure Same (M:List Nat) (a a':Act):Prop where
 defers:a'.defers=a.defers
 size:a'.tmps.size=a.tmps.size
 tmps: ∀i,i∉M->a'.tmps[i]? =a.tmps[i]?
theorem Same.refl (M:List Nat) (a:Act):Same M a a:=⟨rfl,rfl,fun _ _=>rfl⟩
theorem Same.put {M:List Nat} {a a':Act} (h:Same M a a') {d:Option Tmp} (hd: ∀i,d=some i->i∈M) (v:Value):Same M a (a'.put d v):=by
 cases d with
 |none=>exact h
 |some i=>
  refine ⟨h.defers,by simp [Act.put,h.size],fun j hj=>?_⟩
  have hne:i≠j:=fun e=>hj (e▸hd i rfl)
  simp [Act.put,Array.getElem?_setIfInBounds_ne hne,h.tmps j hj]
theorem Same.puts {M:List Nat} {a:Act}: ∀ {is:List Nat} {vs:List Value} {a':Act},Same M a a'->(∀i∈is,i∈M)->Same M a (putsA is vs a')
 |[],_,_,h,_=>h
 |i::is,[],_,h,_=>h
 |i::is,v::vs,a',h,hi=>Same.puts (is:=is) (vs:=vs) (a':=a'.put (some i) v) (h.put (fun j hj=>by cases hj;exact hi _ List.mem_cons_self) v) fun j hj=>hi j (List.mem_cons_of_mem _ hj)
theorem opIn_dst {M:List Nat} {o:Oper} (h:opIn M o=true): ∀i,o.dst=some i->i∈M:=fun i hi=>by
 unfold opIn at h
 rw [hi,Bool.and_eq_true] at h
 simpa using h.1
theorem opIn_defer {M:List Nat} {o:Oper} (h:opIn M o=true): ∀c,o.op≠.defer c:=fun c hc=>by
 unfold opIn at h
 rw [hc,Bool.and_eq_true] at h
 cases h.2
theorem stepV_op {P:Program} {ops:Array Oper} {o:Oper} {a:Act} {next:Act->Heap->Prop} {Q:Exit->Act->Heap->Prop} {H:Heap} (h: ∀c,o.op≠.defer c):
  stepV P ops o a next Q H=(spG ops o (opS P a.eval o)).run (fun v H'=>next (a.put o.dst v) H') (fun c H'=>Q (.panic c) a H') H:=by
 unfold stepV
 split
 ·rename_i c hc;exact (h c hc).elim
 ·rfl
theorem opsV_frame {P:Program} {ops:Array Oper} {M:List Nat} {a0:Act} {Q Q':Exit->Act->Heap->Prop} (hq: ∀e a' H',Same M a0 a'->Q e a' H'->Q' e a' H'):
  ∀(l:List Oper) (a:Act) (H:Heap),Same M a0 a->l.all (opIn M)=true->opsV P ops Q l a H->opsV P ops Q' l a H
 |[],a,H,hs,_,h=>hq _ _ _ hs h
 |o::rest,a,H,hs,ha,h=>by
  simp only [List.all_cons,Bool.and_eq_true] at ha
  unfold opsV at h ⊢
  simp only [forceA_eq] at h ⊢
  cases hw:Region.wanted o (yielded ops a.tmps) with
  |false=>rw [hw] at h;exact opsV_frame hq rest _ H (hs.put (opIn_dst ha.1) _) ha.2 h
  |true=>
   rw [hw] at h
   simp only at h ⊢
   rw [stepV_op (opIn_defer ha.1)] at h ⊢
   exact (spG ops o (opS P a.eval o)).mono (fun v H' h'=>opsV_frame hq rest _ H' (hs.put (opIn_dst ha.1) _) ha.2 h') (fun c H' h'=>hq _ _ _ hs h') h
theorem heldV_mono {H:Heap} {K K':Prop} (hk:K->K'): ∀ {l:List Pend},heldV H l K->heldV H l K'
 |[],h=>hk h
 |p::r,h=>⟨h.1,heldV_mono hk h.2⟩
theorem allL_mono {p q:Nat->Prop}: ∀ {l:List Nat},(∀i∈l,p i->q i)->allL p l->allL q l
 |[],_,_=>trivial
 |[i],hm,h=>hm i List.mem_cons_self h
 |i::k::r,hm,h=>⟨hm i List.mem_cons_self h.1,allL_mono (l:=k::r) (fun j hj=>hm j (List.mem_cons_of_mem _ hj)) h.2⟩
theorem pickOp_mem {P:Program} {ops:Array Oper} {listed:Array Bool} {a:Act}: ∀rs:List Nat,(∀i o,pickOp P ops listed a rs=.skip i o->o∈ops.toList)/\(∀i o b x,pickOp P ops listed a rs=.take i o b x->o∈ops.toList)
 |[]=>⟨fun i o h=>by simp [pickOp] at h,fun i o b x h=>by simp [pickOp] at h⟩
 |i::r=>by
  have hr:=pickOp_mem (P:=P) (ops:=ops) (listed:=listed) (a:=a) r
  unfold pickOp
  cases ho:ops.toList[i]? with
  |none=>exact hr
  |some o=>
   have hin:o∈ops.toList:=List.mem_of_getElem? ho
   simp only
   cases hw:Region.wanted o (yielded ops a.tmps) with
   |false=>
    simp only
    cases hf:Region.free .any ops listed i with
    |false=>exact hr
    |true=>exact ⟨(fun i' o' h=>by cases h;exact hin),(fun i' o' b x h=>by cases h)⟩
   |true=>
    simp only
    cases ht:takeS P a.eval o with
    |none=>exact hr
    |some bx=>
     obtain ⟨b,x⟩:=bx
     simp only
     cases hf:Region.free .any ops listed i with
     |false=>exact hr
     |true=>exact ⟨(fun i' o' h=>by cases h),(fun i' o' b' x' h=>by cases h;exact hin)⟩
theorem anyV_frame {P:Program} {ops:Array Oper} {ms:List Nat} {M:List Nat} {a0:Act} {K K':Act->Heap->Prop} (hk: ∀a' H',Same M a0 a'->K a' H'->K' a' H') (ha:ops.toList.all (opIn M)=true):
  ∀(n:Nat) (listed:Array Bool) (a:Act) (pend:List Pend) (H:Heap),Same M a0 a->anyV P ops ms K n listed a pend H->anyV P ops ms K' n listed a pend H:=by
 have hin: ∀o∈ops.toList,opIn M o=true:=List.all_eq_true.1 ha
 intro n
 induction n with
 |zero=>
  intro listed a pend H hs h
  unfold anyV at h ⊢
  cases hrs:Region.ready .any ops listed with
  |nil=>rw [hrs] at h;exact hk _ _ hs h
  |cons r0 rr=>rw [hrs] at h;exact h
 |succ n ih=>
  intro listed a pend H hs h
  unfold anyV at h ⊢
  simp only [forceA_eq,forceB_eq] at h ⊢
  cases hrs:Region.ready .any ops listed with
  |nil=>rw [hrs] at h;exact hk _ _ hs h
  |cons r0 rr=>
   rw [hrs] at h
   simp only at h ⊢
   have hpm:=pickOp_mem (P:=P) (ops:=ops) (listed:=listed) (a:=a) (r0::rr)
   cases hp:pickOp P ops listed a (r0::rr) with
   |skip i o=>rw [hp] at h;exact ih _ _ _ _ (hs.put (opIn_dst (hin o (hpm.1 i o hp))) _) h
   |take i o b x=>
    rw [hp] at h
    exact (spG ops o x).mono (fun v H' h'=>ih _ _ _ _ (hs.put (opIn_dst (hin o (hpm.2 i o b x hp))) _) h') (fun _ _ h'=>h') h
   |no=>
    rw [hp] at h
    refine allL_mono (fun j _ hj=>?_) h
    cases ho:ops.toList[j]? with
    |none=>rw [ho] at hj;exact hj
    |some o=>
     rw [ho] at hj
     simp only at hj ⊢
     have hio:=hin o (List.mem_of_getElem? ho)
     cases hw:Region.wanted o (yielded ops a.tmps) with
     |false=>rw [hw] at hj;exact ih _ _ _ _ (hs.put (opIn_dst hio) _) hj
     |true=>
      rw [hw] at hj
      exact (spG ops o (opS P a.eval o)).mono (fun v H' h'=>heldV_mono (ih _ _ _ _ (hs.put (opIn_dst hio) _)) h') (fun _ _ h'=>h') hj
theorem mem_of_elem {M:List Nat} {i:Nat} (h:M.elem i=true):i∈M:=by simpa using h
theorem slots_mem {M:List Nat} {A:Ann} (h:A.slots.all (M.elem ·)=true): ∀i∈A.slots,i∈M:=fun i hi=>mem_of_elem (List.all_eq_true.1 h i hi)
theorem destrs_mono {P:Program} {ts:List TypeId} {vs:List Value} {K K':List Value->Heap->Prop} {H:Heap} (hk: ∀us H,K us H->K' us H) (h:(destrs P ts vs).run K (fun _ _=>False) H):(destrs P ts vs).run K' (fun _ _=>False) H:=
 (destrs P ts vs).mono hk (fun _ _ h=>h) h
theorem vc_frame {P:Program} {M:List Nat} {a0:Act}: ∀(c:Code) (an:An) (Q Q':Exit->Act->Heap->Prop) (a:Act) (H:Heap),slotsIn M c an=true->Same M a0 a->
  (∀e a' H',Same M a0 a'->Q e a' H'->Q' e a' H')->vc P c an Q a H->vc P c an Q' a H:=by
 intro c
 induction c with
 |skip=>intro an Q Q' a H _ hs hq h;exact hq _ _ _ hs h
 |label l=>intro an Q Q' a H _ hs hq h;exact hq _ _ _ hs h
 |exit id=>intro an Q Q' a H _ hs hq h;exact hq _ _ _ hs h
 |ret=>intro an Q Q' a H _ hs hq h;exact hq _ _ _ hs h
 |region id ops draw=>
  intro an Q Q' a H ha hs hq h
  cases draw with
  |false=>exact opsV_frame hq ops.toList a H hs ha h
  |true=>
   obtain ⟨h1,h2⟩:=gB_elim h
   show gB (P.follows .mixedOrders&&Region.noSelect ops) _
   rw [h1]
   exact anyV_frame (fun a' H' hs' h'=>hq _ _ _ hs' h') ha ops.size _ a [] H hs h2
 |seq x y ihx ihy=>
  intro an Q Q' a H ha hs hq h
  simp only [slotsIn,Bool.and_eq_true] at ha
  unfold vc at h ⊢
  cases hj:an.j with
  |none=>
   rw [hj] at h
   refine ihx an.l _ _ a H ha.2.1 hs (fun e a' H' hs' h'=>?_) h
   cases e<;>first|exact ihy _ _ _ a' H' ha.2.2 hs' hq h'|exact hq _ _ _ hs' h'
  |some A=>
   rw [hj] at h ha
   obtain ⟨h1,h2⟩:=gB_elim h
   show gB (slotsIn A.slots x an.l) _
   rw [h1]
   have hin:=slots_mem ha.1
   show jn _ _
   constructor
   refine ihx an.l _ _ a H ha.2.1 hs (fun e a' H' hs' h'=>?_) h2.out
   cases e<;>first|exact hq _ _ _ hs' h'|skip
   obtain ⟨h3,h4⟩:=aplH_cur (show aplH A.live.length (joinK P A (fun a' H'=>vc P y an.r Q a' H') a) (readA (A.live.map (·.1)) a') H' from h')
   refine aplH_mk h3 (allV_mono (fun us h5=>destrs_mono (fun ws _ h6=>?_) h5) h4)
   exact ihy _ _ _ _ _ ha.2.2 ((hs.puts (fun i hi=>hin i (List.mem_append_left _ hi))).puts (fun i hi=>hin i (List.mem_append_right _ hi))) hq h6
 |cond cc x y ihx ihy=>
  intro an Q Q' a H ha hs hq h
  simp only [slotsIn,Bool.and_eq_true] at ha
  unfold vc at h ⊢
  split at h
  ·rename_i b hb
   cases b with
   |true=>exact ihx _ _ _ a H ha.1 hs hq h
   |false=>exact ihy _ _ _ a H ha.2 hs hq h
  ·exact h.elim
 |block id b ih=>
  intro an Q Q' a H ha hs hq h
  refine ih an.l _ _ a H ha hs (fun e a' H' hs' h'=>?_) h
  cases e<;>first|exact hq _ _ _ hs' h'|skip
  rename_i i
  unfold blockV at h' ⊢
  cases hi:Nat.beq i id with
  |true=>simp only [hi] at h' ⊢;exact hq _ _ _ hs' h'
  |false=>simp only [hi] at h' ⊢;exact hq _ _ _ hs' h'
 |loop b ih=>
  intro an Q Q' a H ha hs hq h
  simp only [slotsIn,Bool.and_eq_true] at ha
  unfold vc at h ⊢
  cases hj:an.j with
  |none=>rw [hj] at h;exact h.elim
  |some A=>
   rw [hj] at h ha
   obtain ⟨h1,I,μ,h2,h3⟩:=gB_elim h
   show gB (slotsIn A.slots b an.l) _
   rw [h1]
   refine ⟨I,μ,h2,allTs_mono (fun vs h4=>allV_mono (fun us h5 H' hI=>?_) h4) h3⟩
   have hin:=slots_mem ha.1
   refine ih an.l _ _ _ H' ha.2 ((hs.puts (fun i hi=>hin i (List.mem_append_left _ hi))).puts (fun i hi=>hin i (List.mem_append_right _ hi))) (fun e a' H'' hs' h'=>?_) (h5 H' hI)
   cases e<;>first|exact h'|exact hq _ _ _ hs' h'
 |scope b ih=>
  intro an Q Q' a H ha hs hq h
  refine ih an.l _ _ a H ha hs (fun e a' H' hs' h'=>?_) h
  cases e<;>first|exact hq _ _ _ hs' h'|exact h'
 |_=>intro an Q Q' a H ha hs hq h;exact h.elim
end Go.Proofs.YtkaikaodhegmhaaGreat.E
namespace Go.Proofs.YtkaikaodhegmhaaGreat.E
open Go
set_option linter.unusedVariables false
theorem putsA_defers : ∀(is:List Nat) (vs:List Value) (a:Act),(putsA is vs a).defers=a.defers
 |[],vs,a=>by cases vs<;>rfl
 |i::is,[],a=>rfl
 |i::is,v::vs,a=>by
  show (putsA is vs (a.put (some i) v)).defers=a.defers
  rw [putsA_defers is vs];rfl
theorem putsA_size : ∀(is:List Nat) (vs:List Value) (a:Act),(putsA is vs a).tmps.size=a.tmps.size
 |[],vs,a=>by cases vs<;>rfl
 |i::is,[],a=>rfl
 |i::is,v::vs,a=>by
  show (putsA is vs (a.put (some i) v)).tmps.size=a.tmps.size
  rw [putsA_size is vs];simp [Act.put]
theorem putsA_get {a':Act}: ∀(is:List Nat) (b:Act),b.tmps.size=a'.tmps.size->∀i,(putsA is (readA is a') b).tmps[i]? =if i∈is then a'.tmps[i]? else b.tmps[i]?
 |[],b,_,i=>by simp [putsA]
 |j::is,b,hb,i=>by
  show (putsA is (readA is a') (b.put (some j) (a'.tmps.getD j undef))).tmps[i]? =_
  rw [putsA_get is _ (by simp [Act.put,hb])]
  by_cases hi:i∈is
  ·simp [hi]
  rw [if_neg hi]
  by_cases hij:j=i
  ·subst hij
   rw [if_pos List.mem_cons_self]
   simp only [Act.put]
   by_cases hs:j<a'.tmps.size
   ·rw [Array.getElem?_setIfInBounds_self_of_lt (by omega)]
    simp [Array.getD,hs]
   rw [Array.getElem?_eq_none (by simp;omega),Array.getElem?_eq_none (by omega)]
  rw [if_neg (by simp [hi,Ne.symm hij])]
  simp only [Act.put]
  rw [Array.getElem?_setIfInBounds_ne hij]
theorem putsA_same {A:Ann} {a a':Act} (h:Same A.slots a a'):putsA A.junk (readA A.junk a') (putsA (A.live.map (·.1)) (readA (A.live.map (·.1)) a') a)=a':=by
 have e1:(putsA A.junk (readA A.junk a') (putsA (A.live.map (·.1)) (readA (A.live.map (·.1)) a') a)).tmps=a'.tmps:=by
  apply Array.ext_getElem?
  intro i
  rw [putsA_get _ _ (by rw [putsA_size,h.size]),putsA_get _ _ h.size.symm]
  by_cases h1:i∈A.junk
  ·rw [if_pos h1]
  rw [if_neg h1]
  by_cases h2:i∈A.live.map (·.1)
  ·rw [if_pos h2]
  rw [if_neg h2]
  exact (h.tmps i (fun hm=>(List.mem_append.1 hm).elim h2 h1)).symm
 have e2:(putsA A.junk (readA A.junk a') (putsA (A.live.map (·.1)) (readA (A.live.map (·.1)) a') a)).defers=a'.defers:=by
  rw [putsA_defers,putsA_defers,h.defers]
 obtain ⟨t,d⟩:=a'
 cases hx:putsA A.junk (readA A.junk ⟨t,d⟩) (putsA (A.live.map (·.1)) (readA (A.live.map (·.1)) ⟨t,d⟩) a) with
 |mk t' d'=>rw [hx] at e1 e2;simp only at e1 e2;rw [e1,e2]
theorem vc_wp {P:Program}: ∀(c:Code) (an:An) (Q:Exit->Act->Heap->Prop) (a:Act) (w w0:World),Like w0 w->vc P c an Q a w.heap->c.wp P (lift Q w0) a w:=by
 intro c
 induction c with
 |skip=>intro an Q a w w0 hl h;exact wp_skip ⟨h,hl⟩
 |label l=>intro an Q a w w0 hl h;exact wp_label ⟨h,hl⟩
 |exit id=>intro an Q a w w0 hl h;exact wp_exit ⟨h,hl⟩
 |ret=>intro an Q a w w0 hl h;exact wp_ret ⟨h,hl⟩
 |region id ops draw=>
  intro an Q a w w0 hl h
  cases draw with
  |false=>exact regionV_wp hl h
  |true=>
   obtain ⟨h1,h2⟩:=gB_elim h
   rw [Bool.and_eq_true] at h1
   exact drawV_wp hl h1.1 h1.2 h2
 |seq x y ihx ihy=>
  intro an Q a w w0 hl h
  unfold vc at h
  cases hj:an.j with
  |none=>
   rw [hj] at h
   refine wp_seq (wp_mono (ihx an.l _ a w w0 hl h) fun e a' w' h'=>?_)
   cases e<;>first|exact ihy _ _ a' w' w0 h'.2 h'.1|exact h'
  |some A=>
   rw [hj] at h
   obtain ⟨hso,h⟩:=gB_elim h
   have h1:vc P x an.l (thenV (fun a' H'=>aplH A.live.length (joinK P A (fun a' H'=>vc P y an.r Q a' H') a) (readA (A.live.map (·.1)) a') H') Q) a w.heap:=h.out
   have h2:=vc_frame (M:=A.slots) (a0:=a) x an.l _ (fun e a'' H''=>thenV (fun a' H'=>aplH A.live.length (joinK P A (fun a' H'=>vc P y an.r Q a' H') a) (readA (A.live.map (·.1)) a') H') Q e a'' H''/\Same A.slots a a'') a w.heap hso (Same.refl _ _) (fun e a'' H'' hs' hq=>⟨hq,hs'⟩) h1
   refine wp_seq (wp_mono (ihx an.l _ a w w0 hl h2) fun e a' w' h'=>?_)
   obtain ⟨⟨h3,h4⟩,h5⟩:=h'
   cases e<;>first|exact ⟨h3,h5⟩|skip
   obtain ⟨h6,h7⟩:=aplH_cur (show aplH A.live.length (joinK P A (fun a' H'=>vc P y an.r Q a' H') a) (readA (A.live.map (·.1)) a') w'.heap from h3)
   have h8:=allV_elim h7 (readA A.junk a') (by simp [readA])
   have h9:=destrs_elim h8
   rw [putsA_same h4] at h9
   exact ihy _ _ a' w' w0 h5 h9
 |cond cc x y ihx ihy=>
  intro an Q a w w0 hl h
  unfold vc at h
  split at h
  ·rename_i b hb
   cases b with
   |true=>exact wp_cond_true hb (ihx _ _ a w w0 hl h)
   |false=>exact wp_cond_false hb (ihy _ _ a w w0 hl h)
  exact h.elim
 |block id b ih=>
  intro an Q a w w0 hl h
  refine wp_block (wp_mono (ih an.l _ a w w0 hl h) fun e a' w' h'=>?_)
  cases e<;>first|exact h'|skip
  rename_i i
  obtain ⟨h1,h2⟩:=h'
  have h1:(match Nat.beq i id with|true=>Q .normal a' w'.heap|false=>Q (.exit i) a' w'.heap):=h1
  show (if i=id then lift Q w0 .normal a' w' else lift Q w0 (.exit i) a' w')
  cases hi:Nat.beq i id with
  |true=>rw [hi] at h1;simp only [Nat.eq_of_beq_eq_true hi,if_true];exact ⟨h1,h2⟩
  |false=>
   rw [hi] at h1
   have hne: ¬i=id:=Nat.ne_of_beq_eq_false hi
   simp only [hne,if_false];exact ⟨h1,h2⟩
 |loop b ih=>
  intro an Q a w w0 hl h
  unfold vc at h
  cases hj:an.j with
  |none=>rw [hj] at h;exact h.elim
  |some A=>
   rw [hj] at h
   obtain ⟨hso,I,μ,h2,h3⟩:=gB_elim h
   refine wp_loop (fun a' w'=>Same A.slots a a'/\okTs P (A.live.map (·.2)) (readA (A.live.map (·.1)) a') (I (readA (A.live.map (·.1)) a') w'.heap)/\Like w0 w') (fun a' w'=>μ (readA (A.live.map (·.1)) a') w'.heap) ⟨Same.refl _ _,h2,hl⟩ ?_
   rintro a' w' ⟨hs,hok,hl'⟩
   obtain ⟨hI,hall⟩:=okTs_elim hok
   have h4:=hall _ h3
   have h5:=allV_elim h4 (readA A.junk a') (by simp [readA]) w'.heap hI
   rw [putsA_same hs] at h5
   have h6:=vc_frame (M:=A.slots) (a0:=a') b an.l _ (fun e a'' H''=>loopQ P A I μ (μ (readA (A.live.map (·.1)) a') w'.heap) Q e a'' H''/\Same A.slots a' a'') a' w'.heap hso (Same.refl _ _) (fun e a'' H'' hs' hq=>⟨hq,hs'⟩) h5
   refine wp_mono (ih an.l _ a' w' w0 hl' h6) fun e a'' w'' h'=>?_
   obtain ⟨⟨h7,h8⟩,h9⟩:=h'
   cases e<;>first|exact ⟨h7,h9⟩|skip
   obtain ⟨⟨hI',hlt⟩,hall'⟩:=okTs_elim h7
   refine ⟨⟨⟨h8.defers.trans hs.defers,h8.size.trans hs.size,fun i hi=>(h8.tmps i hi).trans (hs.tmps i hi)⟩,?_,h9⟩,hlt⟩
   exact okTs_less (fun h=>h.1) h7
 |scope b ih=>
  intro an Q a w w0 hl h
  refine wp_scope_straight (wp_mono (ih an.l _ a w w0 hl h) fun e a' w' h'=>?_)
  cases e<;>first|exact h'|exact h'.1.elim
 |_=>intro an Q a w w0 hl h;exact h.elim
def resS (P:Program) (tmps:Array Value):List ResultVar->Sp (List Value)
 |[]=>.pure []
 |.tmp t::r=>(resS P tmps r).bind fun vs=>.pure (tmps.getD t undef::vs)
 |.cell a t::r=>(addrS (tmps.getD a undef)).bind fun b=>(loadS P t b).bind fun v=>(resS P tmps r).bind fun vs=>.pure (v::vs)
def oneOf :List Value->Value
 |[v]=>v
 |vs=>.tuple vs.toArray
theorem gives_res (P:Program) (tmps:Array Value): ∀l:List ResultVar,Gq true P (l.mapM fun|.tmp t=>Pure.pure (tmps.getD t undef)|.cell a t=>(do loadVar t (←asAddr (tmps.getD a undef)):Sem Value)) (resS P tmps l)
 |[]=>by rw [List.mapM_nil];exact Gq.pure []
 |.tmp t::r=>by
  rw [List.mapM_cons]
  exact fun K E H hx=>(Gq.bind (s:=Pure.pure (tmps.getD t undef)) (x:=Sp.pure (tmps.getD t undef)) (Gq.pure _) (g:=fun v=>(resS P tmps r).bind fun vs=>Sp.pure (v::vs)) fun v=>(gives_res P tmps r).bind fun vs=>Gq.pure (v::vs)) K E H hx
 |.cell a t::r=>by
  rw [List.mapM_cons]
  exact fun K E H hx=>(Gq.bind (Gq.bind (gives_asAddr P (tmps.getD a undef)) fun b=>gives_load P t b) (g:=fun v=>(resS P tmps r).bind fun vs=>Sp.pure (v::vs)) fun v=>(gives_res P tmps r).bind fun vs=>Gq.pure (v::vs)) K E H hx
theorem gives_results (P:Program) (fn:Func) (tmps:Array Value):Gq true P (results fn tmps) ((resS P tmps fn.results.toList).bind fun vs=>.pure (oneOf vs)):=fun K E H hx=>by
 obtain ⟨vs,hv,hr⟩:=gives_res P tmps fn.results.toList (fun vs H=>K (oneOf vs) H) E H hx
 refine ⟨oneOf vs,hv,fun w hw=>?_⟩
 have h1:=hr w hw
 obtain ⟨l,hl⟩: ∃l,fn.results=List.toArray l:=⟨fn.results.toList,by simp⟩
 rw [hl] at h1
 unfold results
 rw [hl]
 have h2:((l.toArray.mapM fun|ResultVar.tmp t=>Pure.pure (tmps.getD t undef)|ResultVar.cell a t=>(do loadVar t (←asAddr (tmps.getD a undef)):Sem Value))).run P w=Result.ok vs.toArray w:=by
  rw [List.mapM_toArray]
  simp only [Sem.run_map]
  rw [h1];rfl
 rw [Sem.run_bind]
 refine (congrArg (fun r=>Result.andThen r _) (show _=Result.ok vs.toArray w from h2)).trans ?_
 simp only [Result.andThen_ok,Sem.run_pure]
 congr 1
 match vs with
 |[]=>simp [oneOf]
 |[v]=>simp [oneOf]
 |v::u::r=>simp [oneOf]
def HCallsD (P:Program) (f:FuncId) (args:Array Value) (u:FrameMode) (H:Heap) (R:Ending->FrameMode->Heap->Prop):Prop:=
 ∀w:World,w.heap=H->CallsD P f args u w fun e u' w'=>R e u' w'.heap/\Like w w'
def resK (P:Program) (fn:Func) (tmps:Array Value) (R:Ending->Heap->Prop) (H:Heap):Prop:=
 (resS P tmps fn.results.toList).run (fun vs _=>R (.returned (oneOf vs)) H) (fun _ _=>False) H
def leavesV (P:Program) (fn:Func) (tmps:Array Value) (R:Ending->Heap->Prop):List Deferred->FrameMode->Heap->Prop
 |[],.returning,H=>resK P fn tmps R H
 |[],.panicking c,H=>R (.panicked c) H
 |[],.run,_=>False
 |_::_,.run,_=>False
 |d::ds,u,H=>match d.target with
  |.fn (.func g) cap=>gB (plainFn P g) (HCallsD P g (d.args.toList++cap.toList).toArray u H fun e u' H'=>match e with
   |.returned _=>leavesV P fn tmps R ds (settle u') H'
   |.panicked c=>leavesV P fn tmps R ds (raised u' c) H'
   |.outgrown=>False)
  |_=>False
theorem leavesV_cons (P:Program) (fn:Func) (tmps:Array Value) (R:Ending->Heap->Prop) (d:Deferred) (ds:List Deferred) (H:Heap) (u:FrameMode) (hu:u≠.run):
  leavesV P fn tmps R (d::ds) u H=(match d.target with
  |.fn (.func g) cap=>gB (plainFn P g) (HCallsD P g (d.args.toList++cap.toList).toArray u H fun e u' H'=>match e with
   |.returned _=>leavesV P fn tmps R ds (settle u') H'
   |.panicked c=>leavesV P fn tmps R ds (raised u' c) H'
   |.outgrown=>False)
  |_=>False):=by
 cases u with
 |run=>exact (hu rfl).elim
 |returning=>rfl
 |panicking c=>rfl
def postV (P:Program) (fn:Func) (R:Ending->Heap->Prop):Exit->Act->Heap->Prop
 |.normal,a,H=>leavesV P fn a.tmps R a.defers .returning H
 |.ret,a,H=>leavesV P fn a.tmps R a.defers .returning H
 |.panic c,a,H=>leavesV P fn a.tmps R a.defers (.panicking c) H
 |_,_,_=>False
theorem leaves_of {P:Program} {fn:Func} {tmps:Array Value} {R:Ending->Heap->Prop} {w0:World}: ∀(ds:List Deferred) (u:FrameMode) (w:World),u≠.run->Like w0 w->leavesV P fn tmps R ds u w.heap->
  Leaves P fn tmps (fun e w'=>R e w'.heap/\Like w0 w') ds u w
 |[],.returning,w,_,hl,h=>by
  obtain ⟨v,hv,hr⟩:=gives_results P fn tmps (fun v H'=>R (.returned v) w.heap) (fun _ _=>False) w.heap h
  exact ⟨v,hr w fun _=>rfl,hv,hl⟩
 |[],.panicking c,w,_,hl,h=>⟨h,hl⟩
 |[],.run,w,hu,hl,h=>h.elim
 |d::ds,u,w,hu,hl,h=>by
  obtain ⟨target,dargs⟩:=d
  rw [leavesV_cons _ _ _ _ _ _ _ _ hu] at h
  cases target<;>first|exact h.elim|skip
  rename_i fv cap
  cases fv<;>first|exact h.elim|skip
  rename_i g
  obtain ⟨hp,h⟩:=gB_elim h
  have ea:(dargs.toList++cap.toList).toArray=dargs++cap:=Array.toList_inj.1 (by simp)
  simp only [ea] at h
  have hinv:(invoke (.fn (.func g) cap) dargs).run P w=.ok (.enter g (dargs++cap)) w:=by
   unfold plainFn at hp
   cases hfn:P.funcs[g]? with
   |none=>rw [hfn] at hp;cases hp
   |some fn'=>
    rw [hfn] at hp
    simp only at hp
    cases hn:(fn'.name== "runtime.NumGoroutine") with
    |true=>rw [hn] at hp;cases hp
    |false=>
     rw [hn] at hp
     simp only at hp
     have hn': ¬(fn'.name= "runtime.NumGoroutine"):=by simpa using hn
     have hb': ¬(fn'.body=none):=by intro h;rw [h] at hp;cases hp
     simp [invoke,callFunc,hfn,hn',hb']
  refine ⟨hu,.func g,cap,g,dargs++cap,rfl,hinv,Go.CallsD.mono (h w rfl) fun e u' w' h'=>?_⟩
  obtain ⟨h1,h2⟩:=h'
  have hset: ∀u',settle u'≠.run∨u'=.run:=fun u'=>by
   unfold settle
   split
   ·split<;>exact .inl (by simp)
   ·exact (Classical.em (u'=.run)).symm.imp id id
  cases e with
  |returned v=>
   rcases hset u' with hs|rfl
   ·exact leaves_of ds _ w' hs (hl.trans h2) h1
   ·cases ds with
    |nil=>exact h1.elim
    |cons d2 ds2=>exact h1.elim
  |panicked c=>
   have hr:raised u' c≠.run:=by unfold raised;split<;>simp
   exact leaves_of ds _ w' hr (hl.trans h2) h1
  |outgrown=>exact h1.elim
theorem calls_vc {P:Program} {f:FuncId} {fn:Func} {c:Code} (an:An) {args:Array Value} {H:Heap} {R:Ending->Heap->Prop}
  (hf:P.funcs[f]? =some fn) (hb:fn.body=some c)
  (h:vc P c an (postV P fn R) ⟨args++Array.replicate (fn.ntmps - args.size) undef,[]⟩ H):HCalls P f args H R:=by
 intro w hw
 subst hw
 refine calls_of_wp_defers hf hb (wp_mono (vc_wp c an _ _ w w (Like.refl w) h) fun e a w' h'=>?_)
 obtain ⟨h1,h2⟩:=h'
 cases e with
 |normal=>exact leaves_of _ _ w' (by simp) h2 h1
 |ret=>exact leaves_of _ _ w' (by simp) h2 h1
 |panic ch=>exact leaves_of _ _ w' (by simp) h2 h1
 |exit i=>exact h1.elim
 |goto l=>exact h1.elim
 |outgrown=>exact h1.elim
def codeOf (fn:Func):Code:=fn.body.getD .skip
theorem calls_by {P:Program} {f:FuncId} {fn:Func} (an:An) {args:Array Value} {H:Heap} {R:Ending->Heap->Prop} {F:Prop}
  (hf:P.funcs[f]? =some fn) (hb:fn.body.isSome=true)
  (e:F=vc P (codeOf fn) an (postV P fn R) ⟨args++Array.replicate (fn.ntmps - args.size) undef,[]⟩ H) (h:F):HCalls P f args H R:=by
 obtain ⟨c,hc⟩:=Option.isSome_iff_exists.1 hb
 have:codeOf fn=c:=by simp [codeOf,hc]
 exact calls_vc an hf hc (this▸(e▸h))
abbrev pnR (R:Ending->Heap->Prop):List PanicEntry->Heap->Prop:=fun c H=>R (Ending.panicked c) H
abbrev nopR :List PanicEntry->Heap->Prop:=fun _ _=>False
abbrev zE :=Ending->Heap->Prop
abbrev zlG (H:Heap) (r:Nat) (k:Value->Value->Value->Value->Value->Value->Value->Value->Value->Value->Value->Value->Value->Value->Value->Value->Value->Value->Value->Value->Value->Value->Value->Value->Value->Value->Value->Value->Value->Value->Value->Value->Value->Value->Value->Value->Value->Value->Value->Value->Value->Prop):Prop:=ld H ⟨r,0,none⟩ fun v0=>ld H ⟨r,1,none⟩ fun v1=>ld H ⟨r,2,none⟩ fun v2=>ld H ⟨r,3,none⟩ fun v3=>ld H ⟨r,4,none⟩ fun v4=>ld H ⟨r,5,none⟩ fun v5=>ld H ⟨r,6,none⟩ fun v6=>ld H ⟨r,7,none⟩ fun v7=>ld H ⟨r,8,none⟩ fun v8=>ld H ⟨r,9,none⟩ fun v9=>ld H ⟨r,10,none⟩ fun v10=>ld H ⟨r,11,none⟩ fun v11=>ld H ⟨r,12,none⟩ fun v12=>ld H ⟨r,13,none⟩ fun v13=>ld H ⟨r,14,none⟩ fun v14=>ld H ⟨r,15,none⟩ fun v15=>ld H ⟨r,16,none⟩ fun v16=>ld H ⟨r,17,none⟩ fun v17=>ld H ⟨r,18,none⟩ fun v18=>ld H ⟨r,19,none⟩ fun v19=>ld H ⟨r,20,none⟩ fun v20=>ld H ⟨r,21,none⟩ fun v21=>ld H ⟨r,22,none⟩ fun v22=>ld H ⟨r,23,none⟩ fun v23=>ld H ⟨r,24,none⟩ fun v24=>ld H ⟨r,25,none⟩ fun v25=>ld H ⟨r,26,none⟩ fun v26=>ld H ⟨r,27,none⟩ fun v27=>ld H ⟨r,28,none⟩ fun v28=>ld H ⟨r,29,none⟩ fun v29=>ld H ⟨r,30,none⟩ fun v30=>ld H ⟨r,31,none⟩ fun v31=>ld H ⟨r,32,none⟩ fun v32=>ld H ⟨r,33,none⟩ fun v33=>ld H ⟨r,34,none⟩ fun v34=>ld H ⟨r,35,none⟩ fun v35=>ld H ⟨r,36,none⟩ fun v36=>ld H ⟨r,37,none⟩ fun v37=>ld H ⟨r,38,none⟩ fun v38=>ld H ⟨r,39,none⟩ fun v39=>ld H ⟨r,40,none⟩ fun v40=>k v0 v1 v2 v3 v4 v5 v6 v7 v8 v9 v10 v11 v12 v13 v14 v15 v16 v17 v18 v19 v20 v21 v22 v23 v24 v25 v26 v27 v28 v29 v30 v31 v32 v33 v34 v35 v36 v37 v38 v39 v40
abbrev zsG (H:Heap) (r:Nat) (v0 v1 v2 v3 v4 v5 v6 v7 v8 v9 v10 v11 v12 v13 v14 v15 v16 v17 v18 v19 v20 v21 v22 v23 v24 v25 v26 v27 v28 v29 v30 v31 v32 v33 v34 v35 v36 v37 v38 v39 v40:Value) (k:Heap->Prop):Prop:=st H ⟨r,0,none⟩ v0 fun H0=>st H0 ⟨r,1,none⟩ v1 fun H1=>st H1 ⟨r,2,none⟩ v2 fun H2=>st H2 ⟨r,3,none⟩ v3 fun H3=>st H3 ⟨r,4,none⟩ v4 fun H4=>st H4 ⟨r,5,none⟩ v5 fun H5=>st H5 ⟨r,6,none⟩ v6 fun H6=>st H6 ⟨r,7,none⟩ v7 fun H7=>st H7 ⟨r,8,none⟩ v8 fun H8=>st H8 ⟨r,9,none⟩ v9 fun H9=>st H9 ⟨r,10,none⟩ v10 fun H10=>st H10 ⟨r,11,none⟩ v11 fun H11=>st H11 ⟨r,12,none⟩ v12 fun H12=>st H12 ⟨r,13,none⟩ v13 fun H13=>st H13 ⟨r,14,none⟩ v14 fun H14=>st H14 ⟨r,15,none⟩ v15 fun H15=>st H15 ⟨r,16,none⟩ v16 fun H16=>st H16 ⟨r,17,none⟩ v17 fun H17=>st H17 ⟨r,18,none⟩ v18 fun H18=>st H18 ⟨r,19,none⟩ v19 fun H19=>st H19 ⟨r,20,none⟩ v20 fun H20=>st H20 ⟨r,21,none⟩ v21 fun H21=>st H21 ⟨r,22,none⟩ v22 fun H22=>st H22 ⟨r,23,none⟩ v23 fun H23=>st H23 ⟨r,24,none⟩ v24 fun H24=>st H24 ⟨r,25,none⟩ v25 fun H25=>st H25 ⟨r,26,none⟩ v26 fun H26=>st H26 ⟨r,27,none⟩ v27 fun H27=>st H27 ⟨r,28,none⟩ v28 fun H28=>st H28 ⟨r,29,none⟩ v29 fun H29=>st H29 ⟨r,30,none⟩ v30 fun H30=>st H30 ⟨r,31,none⟩ v31 fun H31=>st H31 ⟨r,32,none⟩ v32 fun H32=>st H32 ⟨r,33,none⟩ v33 fun H33=>st H33 ⟨r,34,none⟩ v34 fun H34=>st H34 ⟨r,35,none⟩ v35 fun H35=>st H35 ⟨r,36,none⟩ v36 fun H36=>st H36 ⟨r,37,none⟩ v37 fun H37=>st H37 ⟨r,38,none⟩ v38 fun H38=>st H38 ⟨r,39,none⟩ v39 fun H39=>st H39 ⟨r,40,none⟩ v40 fun H40=>k H40
abbrev zl9 (H:Heap) (r:Nat) (k:Value->Value->Value->Value->Value->Value->Value->Value->Value->Prop):Prop:=ld H ⟨r,0,none⟩ fun v0=>ld H ⟨r,1,none⟩ fun v1=>ld H ⟨r,2,none⟩ fun v2=>ld H ⟨r,3,none⟩ fun v3=>ld H ⟨r,4,none⟩ fun v4=>ld H ⟨r,5,none⟩ fun v5=>ld H ⟨r,6,none⟩ fun v6=>ld H ⟨r,7,none⟩ fun v7=>ld H ⟨r,8,none⟩ fun v8=>k v0 v1 v2 v3 v4 v5 v6 v7 v8
abbrev zs9 (H:Heap) (r:Nat) (v0 v1 v2 v3 v4 v5 v6 v7 v8:Value) (k:Heap->Prop):Prop:=st H ⟨r,0,none⟩ v0 fun H0=>st H0 ⟨r,1,none⟩ v1 fun H1=>st H1 ⟨r,2,none⟩ v2 fun H2=>st H2 ⟨r,3,none⟩ v3 fun H3=>st H3 ⟨r,4,none⟩ v4 fun H4=>st H4 ⟨r,5,none⟩ v5 fun H5=>st H5 ⟨r,6,none⟩ v6 fun H6=>st H6 ⟨r,7,none⟩ v7 fun H7=>st H7 ⟨r,8,none⟩ v8 fun H8=>k H8
abbrev zl3 (H:Heap) (r:Nat) (k:Value->Value->Value->Prop):Prop:=ld H ⟨r,0,none⟩ fun v0=>ld H ⟨r,1,none⟩ fun v1=>ld H ⟨r,2,none⟩ fun v2=>k v0 v1 v2
abbrev zs3 (H:Heap) (r:Nat) (v0 v1 v2:Value) (k:Heap->Prop):Prop:=st H ⟨r,0,none⟩ v0 fun H0=>st H0 ⟨r,1,none⟩ v1 fun H1=>st H1 ⟨r,2,none⟩ v2 fun H2=>k H2
end Go.Proofs.YtkaikaodhegmhaaGreat.E
namespace Go.Proofs.YtkaikaodhegmhaaGreat.E
open Go
set_option linter.unusedVariables false
structure Ext (H H':Heap):Prop where
 size:H.size<=H'.size
 get: ∀k,k<H.size->H'[k]? =H[k]?
theorem Ext.refl (H:Heap):Ext H H:=⟨Nat.le_refl _,fun _ _=>rfl⟩
theorem Ext.trans {A B C:Heap} (h:Ext A B) (k:Ext B C):Ext A C:=⟨Nat.le_trans h.size k.size,fun i hi=>(k.get i (Nat.lt_of_lt_of_le hi h.size)).trans (h.get i hi)⟩
theorem Ext.push (H:Heap) (o:Obj):Ext H (H.push o):=⟨by simp,fun k hk=>by rw [Array.getElem?_push];simp [Nat.ne_of_lt hk]⟩
theorem cellH_of {H H':Heap} {a:Addr} (h:H'[a.block]? =H[a.block]?):cellH H' a=cellH H a:=by unfold cellH;rw [h]
theorem Ext.cell {H H':Heap} (h:Ext H H') {a:Addr} (hb:a.block<H.size):cellH H' a=cellH H a:=cellH_of (h.get _ hb)
theorem add_mk (b i n:Nat):Addr.add ⟨b,i,none⟩ n=⟨b,i+n,none⟩:=by simp [Addr.add]
theorem ld_i {H:Heap} {a:Addr} {v:Value} {k:Value->Prop} (h:cellH H a=some v) (hk:k v):ld H a k:=by unfold ld;rw [h];exact hk
theorem st_i {H:Heap} {a:Addr} {v u:Value} {k:Heap->Prop} (h1:oneC v=true) (h2:cellH H a=some u) (h3:frozenH H a=false) (hk:k (setH H a v)):st H a v k:=⟨⟨h1,by rw [h2];rfl,h3⟩,hk⟩
theorem dInt_i {kd:IntKind} {n:Int} {k:Int->Prop} (hk:k n):dInt kd (.int kd n) k:=by
 show gB (decide (kd=kd)) (k n)
 rw [decide_eq_true rfl];exact hk
theorem sB_i {b:Bool} {x y:Prop} (h1:b=true->x) (h2:b=false->y):sB b x y:=by cases b<;>first|exact h1 rfl|exact h2 rfl
theorem sB_d {p:Prop} [Decidable p] {x y:Prop} (h1:p->x) (h2: ¬p->y):sB (decide p) x y:=by
 by_cases h:p
 ·rw [decide_eq_true h];exact h1 h
 rw [decide_eq_false h];exact h2 h
theorem sB_ne {m n:Int} {x y:Prop} (h1:m≠n->x) (h2:m=n->y):sB (m != n) x y:=by
 by_cases h:m=n
 ·subst h;simp only [bne_self_eq_false];exact h2 rfl
 rw [show (m != n)=true by simpa using h];exact h1 h
theorem sB_eq {m n:Int} {x y:Prop} (h1:m=n->x) (h2:m≠n->y):sB (m==n) x y:=by
 by_cases h:m=n
 ·subst h;simp only [beq_self_eq_true];exact h1 rfl
 rw [show (m==n)=false by simpa using h];exact h2 h
theorem gB_i {b:Bool} {x:Prop} (h:b=true) (hx:x):gB b x:=by subst h;exact hx
theorem nz_i {a:Addr} {k:Addr->Prop} (h:k a):nz (some a) k:=h
theorem wrap_id {n:Int} (h1: -9223372036854775808<=n) (h2:n<=9223372036854775807):IntKind.wrap .i64 n=n:=by
 have e64:(2:Int)^64=18446744073709551616:=by decide
 have e63:(2:Int)^(64 - 1)=9223372036854775808:=by decide
 simp only [IntKind.wrap,IntKind.bits,IntKind.signed,Bool.true_and,e64,e63,ge_iff_le,decide_eq_true_eq]
 split<;>omega
theorem gB_eq {b:Bool} {x:Prop} (h:b=true):gB b x=x:=by subst h;rfl
end Go.Proofs.YtkaikaodhegmhaaGreat.E
namespace Go.Proofs.YtkaikaodhegmhaaGreat.E
open Go
set_option linter.unusedVariables false
structure TH where
 h:Heap
 g:Nat->Nat
def upd (g:Nat->Nat) (r τ:Nat):Nat->Nat:=fun j=>if j=r then τ else g j
structure Chg (B:Nat->Prop) (s s':TH):Prop where
 size:s.h.size<=s'.h.size
 tag: ∀j,j<s.h.size->s'.g j=s.g j
 get: ∀j,j<s.h.size->¬B j->s'.h[j]? =s.h[j]?
abbrev Ch (T:List Nat) (s s':TH):Prop:=Chg (fun j=>s.g j∈T) s s'
abbrev On (r:Nat) (s s':TH):Prop:=Chg (fun j=>j=r) s s'
theorem Chg.mono {B B':Nat->Prop} {s s':TH} (h:Chg B s s') (hb: ∀j,j<s.h.size->B j->B' j):Chg B' s s':=⟨h.size,h.tag,fun j hj hn=>h.get j hj fun hB=>hn (hb j hj hB)⟩
theorem Chg.trans {B B':Nat->Prop} {a b c:TH} (h:Chg B a b) (k:Chg B' b c) (hb: ∀j,j<a.h.size->B' j->B j):Chg B a c:=
 ⟨Nat.le_trans h.size k.size,fun j hj=>(k.tag j (Nat.lt_of_lt_of_le hj h.size)).trans (h.tag j hj),
  fun j hj hn=>(k.get j (Nat.lt_of_lt_of_le hj h.size) fun hB=>hn (hb j hj hB)).trans (h.get j hj hn)⟩
theorem Ch.refl (T:List Nat) (s:TH):Ch T s s:=⟨Nat.le_refl _,fun _ _=>rfl,fun _ _ _=>rfl⟩
theorem Ch.ch {T T':List Nat} {a b c:TH} (h:Ch T a b) (k:Ch T' b c) (hT: ∀x∈T',x∈T):Ch T a c:=
 Chg.trans h k fun j hj hB=>hT _ (by rw [←h.tag j hj];exact hB)
theorem Ch.on_new {T:List Nat} {a b c:TH} {r:Nat} (h:Ch T a b) (k:On r b c) (hr:a.h.size<=r):Ch T a c:=
 Chg.trans h k fun j hj hB=>absurd hB (by omega)
theorem Ch.on_tag {T:List Nat} {a b c:TH} {r τ:Nat} (h:Ch T a b) (k:On r b c) (hr:b.g r=τ) (ht:τ∈T):Ch T a c:=
 Chg.trans h k fun j hj hB=>by subst hB;show a.g j∈T;rw [←h.tag j hj,hr];exact ht
theorem Ch.less {T T':List Nat} {a b:TH} (h:Ch T a b) (hT: ∀x∈T,x∈T'):Ch T' a b:=Chg.mono h fun _ _ hB=>hT _ hB
theorem Chg.ext {s s':TH} (h:Ch [] s s'):Ext s.h s'.h:=⟨h.size,fun j hj=>h.get j hj (by simp)⟩
structure Blk (s:TH) (r:Nat) (l:List Value) (t:TypeId) (τ:Nat):Prop where
 get:s.h[r]? =some (.cells l.toArray t (0,0))
 tag:s.g r=τ
theorem Blk.lt {s:TH} {r:Nat} {l:List Value} {t τ:Nat} (h:Blk s r l t τ):r<s.h.size:=(Array.getElem?_eq_some_iff.1 h.get).1
theorem Blk.mv {s s':TH} {r:Nat} {l:List Value} {t τ:Nat} {B:Nat->Prop} (h:Blk s r l t τ) (c:Chg B s s') (hn: ¬B r):Blk s' r l t τ:=
 ⟨(c.get r h.lt hn).trans h.get,(c.tag r h.lt).trans h.tag⟩
theorem Blk.ch {s s':TH} {r:Nat} {l:List Value} {t τ:Nat} {T:List Nat} (h:Blk s r l t τ) (c:Ch T s s') (hn:τ∉T):Blk s' r l t τ:=h.mv c (by show s.g r∉T;rw [h.tag];exact hn)
theorem Blk.on {s s':TH} {r r':Nat} {l:List Value} {t τ:Nat} (h:Blk s r l t τ) (c:On r' s s') (hn:r≠r'):Blk s' r l t τ:=h.mv c hn
theorem Blk.cell {s:TH} {r:Nat} {l:List Value} {t τ:Nat} (h:Blk s r l t τ) (i:Nat):cellH s.h ⟨r,i,none⟩=l[i]? :=by
 simp [cellH,h.get]
theorem Blk.frozen {s:TH} {r:Nat} {l:List Value} {t τ:Nat} (h:Blk s r l t τ) (i:Nat):frozenH s.h ⟨r,i,none⟩=false:=by
 simp [frozenH,h.get]
abbrev ChL (T L:List Nat) (s s':TH):Prop:=Chg (fun j=>s.g j∈T∨j∈L) s s'
theorem ChL.refl (T L:List Nat) (s:TH):ChL T L s s:=⟨Nat.le_refl _,fun _ _=>rfl,fun _ _ _=>rfl⟩
theorem ChL.ch {T T' L:List Nat} {a b c:TH} (h:ChL T L a b) (k:Ch T' b c) (hT: ∀x∈T',x∈T):ChL T L a c:=
 Chg.trans h k fun j hj hB=>.inl (hT _ (by rw [←h.tag j hj];exact hB))
theorem ChL.on {T L:List Nat} {a b c:TH} {r:Nat} (h:ChL T L a b) (k:On r b c) (hr:r∈L):ChL T L a c:=
 Chg.trans h k fun j hj hB=>.inr (by subst hB;exact hr)
theorem ChL.on_new {T L:List Nat} {a b c:TH} {r:Nat} (h:ChL T L a b) (k:On r b c) (hr:a.h.size<=r):ChL T L a c:=
 Chg.trans h k fun j hj hB=>absurd hB (by omega)
theorem ChL.on_tag {T L:List Nat} {a b c:TH} {r τ:Nat} (h:ChL T L a b) (k:On r b c) (hr:b.g r=τ) (ht:τ∈T):ChL T L a c:=
 Chg.trans h k fun j hj hB=>.inl (by subst hB;rw [←h.tag j hj,hr];exact ht)
theorem ChL.chl {T T' L L':List Nat} {a b c:TH} (h:ChL T L a b) (k:ChL T' L' b c) (hT: ∀x∈T',x∈T) (hL: ∀r∈L',r∈L∨a.h.size<=r):ChL T L a c:=
 Chg.trans h k fun j hj hB=>hB.elim (fun hB=>.inl (hT _ (by rw [←h.tag j hj];exact hB))) (fun hB=>(hL j hB).elim .inr fun h=>absurd h (by omega))
theorem Ch.chl {T T' L':List Nat} {a b c:TH} (h:Ch T a b) (k:ChL T' L' b c) (hT: ∀x∈T',x∈T) (hL: ∀r∈L',a.h.size<=r):Ch T a c:=
 Chg.trans h k fun j hj hB=>hB.elim (fun hB=>hT _ (by rw [←h.tag j hj];exact hB)) (fun hB=>absurd (hL j hB) (by omega))
theorem Blk.chl {s s':TH} {r:Nat} {l:List Value} {t τ:Nat} {T L:List Nat} (h:Blk s r l t τ) (c:ChL T L s s') (hn:τ∉T) (hl:r∉L):Blk s' r l t τ:=h.mv c (fun h1=>h1.elim (fun h1=>hn (by rw [h.tag] at h1;exact h1)) hl)
theorem tagL {s:TH} {τ:Nat} {T L:List Nat} (h:τ∉T) (hl: ∀r∈L,s.g r≠τ): ∀j,j<s.h.size->s.g j=τ->¬(s.g j∈T∨j∈L):=fun j _ e h'=>h'.elim (fun h'=>h (e▸h')) (fun h'=>hl j h' e)
def RT (Q:Value->TH->Prop):Ending->Heap->Prop:=fun e H'=>∃v s',e=.returned v/\s'.h=H'/\Q v s'
def TRet (P:Program) (f:FuncId) (args:Array Value) (s:TH) (Q:Value->TH->Prop):Prop:=HCalls P f args s.h (RT Q)
theorem ret_t {Q:Value->TH->Prop} {v:Value} {s:TH} (h:Q v s):RT Q (.returned v) s.h:=⟨v,s,rfl,rfl,h⟩
theorem tcall {P:Program} {f:FuncId} {args:Array Value} {s:TH} {Q:Value->TH->Prop} {K:Value->Heap->Prop} {E:List PanicEntry->Heap->Prop}
  (h:TRet P f args s Q) (hk: ∀v s',Q v s'->K v s'.h):HCalls P f args s.h (Sp.retK K E):=
 HCalls.mono h fun e H' ⟨v,s',he,hs,hq⟩=>by subst he hs;exact hk v s' hq
theorem TRet.mono {P:Program} {f:FuncId} {args:Array Value} {s:TH} {Q Q':Value->TH->Prop} (h:TRet P f args s Q) (hk: ∀v s',Q v s'->Q' v s'):TRet P f args s Q':=
 HCalls.mono h fun e H' ⟨v,s',he,hs,hq⟩=>⟨v,s',he,hs,hk v s' hq⟩
theorem pushed (s:TH) (o:Obj) (τ:Nat):Ch [] s ⟨s.h.push o,upd s.g s.h.size τ⟩:=
 ⟨by simp,fun j hj=>by simp [upd,Nat.ne_of_lt hj],fun j hj _=>by rw [Array.getElem?_push];simp [Nat.ne_of_lt hj]⟩
theorem al_t (τ:Nat) {s:TH} {l:List Value} {t:TypeId} {k:Nat->Heap->Prop}
  (hk: ∀(r:Nat) (s':TH),r=s.h.size->Blk s' r l t τ->Ch [] s s'->s.h.size+1=s'.h.size->k r s'.h):al s.h (.cells l.toArray t) k:=
 hk s.h.size ⟨s.h.push (.cells l.toArray t),upd s.g s.h.size τ⟩ rfl ⟨by simp,by simp [upd]⟩ (pushed _ _ _) (by simp)
theorem ld_t {s:TH} {r:Nat} {l:List Value} {t τ i:Nat} {v:Value} {k:Value->Prop} (h:Blk s r l t τ) (hv:l[i]? =some v) (hk:k v):ld s.h ⟨r,i,none⟩ k:=
 ld_i (by rw [h.cell];exact hv) hk
theorem modify_get {H:Heap} {r:Nat} {f:Obj->Obj} {j:Nat}:(H.modify r f)[j]? =if r=j then H[j]?.map f else H[j]? :=by
 rw [Array.getElem?_modify]
theorem set_on {s:TH} {r:Nat} {l:List Value} {t τ i:Nat} {v:Value} (h:Blk s r l t τ):Blk ⟨setH s.h ⟨r,i,none⟩ v,s.g⟩ r (l.set i v) t τ/\On r s ⟨setH s.h ⟨r,i,none⟩ v,s.g⟩:=by
 refine ⟨⟨?_,h.tag⟩,⟨by simp [setH],fun _ _=>rfl,fun j hj hn=>?_⟩⟩
 ·show (setH s.h ⟨r,i,none⟩ v)[r]? =_
  unfold setH
  rw [modify_get,if_pos rfl,h.get]
  simp
 show (setH s.h ⟨r,i,none⟩ v)[j]? =_
 unfold setH
 rw [modify_get,if_neg (fun e=>hn e.symm)]
theorem st_t {s:TH} {r:Nat} {l:List Value} {t τ i:Nat} {v:Value} {k:Heap->Prop} (h:Blk s r l t τ) (h1:oneC v=true) (hi:i<l.length)
  (hk: ∀s':TH,Blk s' r (l.set i v) t τ->On r s s'->s.h.size=s'.h.size->k s'.h):st s.h ⟨r,i,none⟩ v k:=by
 refine st_i h1 (u:=l[i]) (by rw [h.cell];simp [hi]) (h.frozen i) ?_
 have:=set_on (i:=i) (v:=v) h
 exact hk ⟨setH s.h ⟨r,i,none⟩ v,s.g⟩ this.1 this.2 (by simp [setH])
theorem wr_t {n:Int} {k:Int->Prop} (h: -9223372036854775808<=n/\n<=9223372036854775807) (hk:k n):wr .i64 n k:=by
 unfold wr;rw [wrap_id h.1 h.2];exact hk
theorem wr_a {kd:IntKind} {n:Int} {k:Int->Prop} (hk: ∀m,m=kd.wrap n->k m):wr kd n k:=hk _ rfl
theorem nm_a {n:Int} {k:Int->Prop} (hk: ∀m,m=n->k m):nm n k:=hk _ rfl
theorem nm_t {n m:Int} {k:Int->Prop} (h:n=m) (hk:k m):nm n k:=h▸hk
theorem ask_t {p x:Prop} (h:p) (hx:x):ask p x:=⟨h,hx⟩
theorem dBl_i {b:Bool} {k:Bool->Prop} (h:k b):dBl (.bool b) k:=h
theorem dT2 {a b:Value} {k:VF 2} (h:(k:Value->Value->Prop) a b):dT 2 (.tuple #[a,b]) k:=h
theorem dT3 {a b c:Value} {k:VF 3} (h:(k:Value->Value->Value->Prop) a b c):dT 3 (.tuple #[a,b,c]) k:=h
theorem sB_t {b:Bool} {x y:Prop} (h:b=true) (hx:x):sB b x y:=by subst h;exact hx
theorem sB_f {b:Bool} {x y:Prop} (h:b=false) (hy:y):sB b x y:=by subst h;exact hy
theorem jn0 {K:Heap->Prop} {f:(Heap->Prop)->Prop} (J:TH->Prop) (h1: ∀s,J s->K s.h) (h2: ∀K':Heap->Prop,(∀s:TH,J s->K' s.h)->f K'):jn K f:=⟨h2 K h1⟩
theorem jn1 {α:Type} {K:α->Heap->Prop} {f:(α->Heap->Prop)->Prop} (J:α->TH->Prop) (h1: ∀a s,J a s->K a s.h) (h2: ∀K':α->Heap->Prop,(∀a (s:TH),J a s->K' a s.h)->f K'):jn K f:=⟨h2 K h1⟩
theorem jn_u {α:Type} {K:α} {f:α->Prop} (h:f K):jn K f:=⟨h⟩
theorem tagn {s:TH} {τ:Nat} {T:List Nat} (h:τ∉T): ∀j,j<s.h.size->s.g j=τ->¬s.g j∈T:=fun j _ e=>by rw [e];exact h
theorem onn {s:TH} {τ r:Nat} (h:s.g r≠τ): ∀j,j<s.h.size->s.g j=τ->¬j=r:=fun j _ e h'=>h (h'▸e)
theorem sB_n {b:Bool} {x y:Prop} (h1:b=false->x) (h2:b=true->y):sB (!b) x y:=by cases b<;>first|exact h1 rfl|exact h2 rfl
theorem sB_nd {p:Prop} [Decidable p] {x y:Prop} (h1: ¬p->x) (h2:p->y):sB (!decide p) x y:=sB_n (fun h=>h1 (of_decide_eq_false h)) (fun h=>h2 (of_decide_eq_true h))
theorem dPtr_i {a:Option Addr} {k:Option Addr->Prop} (h:k a):dPtr (.pointer a) k:=h
theorem dSl_i {a:Option Addr} {n c:Nat} {k:Option Addr->Nat->Nat->Prop} (h:k a n c):dSl (.slice a n c) k:=h
theorem dMap_i {a:Option Nat} {k:Option Nat->Prop} (h:k a):dMap (.map a) k:=h
theorem dStr_i {a:ByteArray} {k:ByteArray->Prop} (h:k a):dStr (.string a) k:=h
theorem oV_i {o:Option Value} {v:Value} {k:Value->Prop} (h:o=some v) (hk:k v):oV o k:=by subst h;exact hk
theorem ret_b {P Q:Bool} (h:P=Q):Value.bool P=Value.bool Q:=by rw [h]
theorem ret_i {k:IntKind} {P Q:Int} (h:P=Q):Value.int k P=Value.int k Q:=by rw [h]
end Go.Proofs.YtkaikaodhegmhaaGreat.E
namespace Go.Proofs.YtkaikaodhegmhaaGreat.E
open Go
set_option linter.unusedVariables false
def findL {κ:Type} [DecidableEq κ] (k:κ):List MapEntry->List κ->Nat->Option (Nat×Value)
 |e::es,k'::ks,i=>if k=k' then some (i,e.val) else findL k es ks (i+1)
 |_,_,_=>none
structure KeyOk {κ:Type} [DecidableEq κ] (P:Program) (K:TypeId) (kf:κ->Value):Prop where
 check: ∀b k w,(Instr.checkKey b 10000 K (kf k)).run P w=.ok () w
 find: ∀k (es:List MapEntry) (ks:List κ),es.map (·.key)=ks.map kf->∀w,(Instr.findKey K (kf k) es).run P w=.ok (findL k es ks 0) w
 same: ∀k,Instr.sameBits 10000 (kf k) (kf k)=true
theorem findNow_int (k:Int): ∀(es:List MapEntry) (ks:List Int) (i:Nat),es.map (·.key)=ks.map (Value.int .i64)->Instr.findNow (.int .i64) (.int .i64 k) es i=some (findL k es ks i)
 |[],[],i,_=>rfl
 |[],_::_,i,h=>by simp at h
 |_::_,[],i,h=>by simp at h
 |e::es,k'::ks,i,h=>by
  simp only [List.map_cons,List.cons.injEq] at h
  simp only [Instr.findNow,Instr.sameNow,h.1,findL]
  by_cases hk:k=k'
  ·subst hk;simp
  simp only [if_true,show (k==k')=false by simpa using hk,if_neg hk]
  exact findNow_int k es ks (i+1) h.2
theorem check_int {P:Program} {K:TypeId} (n:Nat) (h:P.underlying K=some (.int .i64)) (b:Bool) (k:Int) (w:World):(Instr.checkKey b (n+1) K (.int .i64 k)).run P w=.ok () w:=by
 simp only [Instr.checkKey,Sem.run_bind,run_under h,Result.andThen_ok]
 rfl
theorem keyInt {P:Program} {K:TypeId} (h:P.underlying K=some (.int .i64)):KeyOk P K (Value.int .i64) where
 check b k w:=check_int 9999 h b k w
 find k es ks he w:=by simp [Instr.findKey,run_under h,findNow_int k es ks 0 he]
 same k:=by unfold Instr.sameBits;simp
section
variable {κ :Type}
section
variable [DecidableEq κ]
def mget (k:κ):List (κ×Value)->Option Value
 |[]=>none
 |(k',v)::r=>if k=k' then some v else mget k r
def mset (k:κ) (x:Value):List (κ×Value)->List (κ×Value)
 |[]=>[(k,x)]
 |(k',v)::r=>if k=k' then (k,x)::r else (k',v)::mset k x r
def mdel (k:κ):List (κ×Value)->List (κ×Value)
 |[]=>[]
 |(k',v)::r=>if k=k' then r else (k',v)::mdel k r
end
structure Ents (kf:κ->Value) (es:List MapEntry) (ck:Nat) (m:List (κ×Value)):Prop where
 key:es.map (·.key)=m.map fun p=>kf p.1
 val:es.map (·.val)=m.map (·.2)
 born:(es.map (·.born)).Nodup
 old: ∀e∈es,e.born<ck
structure MapK (kf:κ->Value) (s:TH) (r:Nat) (m:List (κ×Value)) (τ:Nat):Prop where
 get: ∃(es:List MapEntry) (ck:Nat),s.h[r]? =some (.map es.toArray ck)/\Ents kf es ck m
 tag:s.g r=τ
 nd:(m.map (·.1)).Nodup
variable {kf :κ->Value} {s s':TH} {r τ:Nat} {m:List (κ×Value)}
theorem MapK.lt (h:MapK kf s r m τ):r<s.h.size:=by
 obtain ⟨es,ck,hg,_⟩:=h.get
 exact (Array.getElem?_eq_some_iff.1 hg).1
theorem MapK.mv {B:Nat->Prop} (h:MapK kf s r m τ) (c:Chg B s s') (hn: ¬B r):MapK kf s' r m τ:=by
 obtain ⟨es,ck,hg,he⟩:=h.get
 exact ⟨⟨es,ck,(c.get r h.lt hn).trans hg,he⟩,(c.tag r h.lt).trans h.tag,h.nd⟩
theorem MapK.ch {T:List Nat} (h:MapK kf s r m τ) (c:Ch T s s') (hn:τ∉T):MapK kf s' r m τ:=h.mv c (by show s.g r∉T;rw [h.tag];exact hn)
theorem MapK.chl {T L:List Nat} (h:MapK kf s r m τ) (c:ChL T L s s') (hn:τ∉T) (hl:r∉L):MapK kf s' r m τ:=h.mv c (fun h1=>h1.elim (fun h1=>hn (by rw [h.tag] at h1;exact h1)) hl)
theorem MapK.on {r':Nat} (h:MapK kf s r m τ) (c:On r' s s') (hn:r≠r'):MapK kf s' r m τ:=h.mv c hn
section
variable [DecidableEq κ]
theorem findL_get (k:κ): ∀(es:List MapEntry) (m:List (κ×Value)) (i:Nat),es.map (·.val)=m.map (·.2)->(findL k es (m.map (·.1)) i).map (·.2)=mget k m
 |[],[],i,_=>rfl
 |[],_::_,i,h=>by simp at h
 |_::_,[],i,h=>by simp at h
 |e::es,(k',v)::m,i,h=>by
  simp only [List.map_cons,List.cons.injEq] at h
  simp only [List.map_cons,findL,mget]
  by_cases hk:k=k'
  ·simp [hk,h.1]
  simp only [if_neg hk];exact findL_get k es m (i+1) h.2
theorem findL_none (k:κ): ∀(es:List MapEntry) (m:List (κ×Value)) (i:Nat),es.length=m.length->findL k es (m.map (·.1)) i=none->∀x,mset k x m=m++[(k,x)]/\mdel k m=m/\k∉m.map (·.1)
 |[],[],i,_,_,x=>by simp [mset,mdel]
 |[],_::_,i,h,_,x=>by simp at h
 |_::_,[],i,h,_,x=>by simp at h
 |e::es,(k',v)::m,i,h,hf,x=>by
  simp only [List.map_cons,findL] at hf
  by_cases hk:k=k'
  ·simp [hk] at hf
  rw [if_neg hk] at hf
  obtain ⟨h1,h2,h3⟩:=findL_none k es m (i+1) (by simpa using h) hf x
  simp [mset,mdel,hk,h1,h2,h3]
theorem findL_some (k:κ): ∀(es:List MapEntry) (m:List (κ×Value)) (i j:Nat) (v:Value),findL k es (m.map (·.1)) i=some (j,v)->i<=j/\∃(a b:List (κ×Value)) (v':Value) (ea eb:List MapEntry) (e:MapEntry),m=a++(k,v')::b/\es=ea++e::eb/\a.length=j - i/\ea.length=j - i/\k∉a.map (·.1)
 |[],[],i,j,v,h=>by simp [findL] at h
 |[],_::_,i,j,v,h=>by simp [findL] at h
 |_::_,[],i,j,v,h=>by simp [findL] at h
 |e::es,(k',v0)::m,i,j,v,h=>by
  simp only [List.map_cons,findL] at h
  by_cases hk:k=k'
  ·rw [if_pos hk] at h;cases h
   exact ⟨Nat.le_refl _,[],m,v0,[],es,e,by simp [hk],rfl,by simp,by simp,by simp⟩
  rw [if_neg hk] at h
  obtain ⟨h1,a,b,v',ea,eb,e',h2,h3,h4,h5,h6⟩:=findL_some k es m (i+1) j v h
  exact ⟨by omega,(k',v0)::a,b,v',e::ea,eb,e',by simp [h2],by simp [h3],by simp;omega,by simp;omega,by simp [hk,h6]⟩
theorem modify_mid (f:MapEntry->MapEntry) (ea eb:List MapEntry) (e:MapEntry):(ea++e::eb).modify ea.length f=ea++f e::eb:=by
 induction ea with
 |nil=>rfl
 |cons x ea ih=>simpa using ih
theorem erase_mid (ea eb:List MapEntry) (e:MapEntry):(ea++e::eb).eraseIdx ea.length=ea++eb:=by
 induction ea with
 |nil=>rfl
 |cons x ea ih=>simpa using ih
theorem mset_mid {k:κ} {x v:Value} {a b:List (κ×Value)} (h:k∉a.map (·.1)):mset k x (a++(k,v)::b)=a++(k,x)::b:=by
 induction a with
 |nil=>simp [mset]
 |cons p a ih=>
  simp only [List.map_cons,List.mem_cons,not_or] at h
  simp [mset,h.1,ih h.2]
theorem mdel_mid {k:κ} {v:Value} {a b:List (κ×Value)} (h:k∉a.map (·.1)):mdel k (a++(k,v)::b)=a++b:=by
 induction a with
 |nil=>simp [mdel]
 |cons p a ih=>
  simp only [List.map_cons,List.mem_cons,not_or] at h
  simp [mdel,h.1,ih h.2]
end
theorem alm_t (kf:κ->Value) (τ:Nat) {s:TH} {k:Nat->Heap->Prop}
  (hk: ∀(r:Nat) (s':TH),r=s.h.size->MapK kf s' r [] τ->Ch [] s s'->s.h.size+1=s'.h.size->k r s'.h):al s.h (.map #[] 0) k:=
 hk s.h.size ⟨s.h.push (.map #[] 0),upd s.g s.h.size τ⟩ rfl ⟨⟨[],0,by simp,⟨rfl,rfl,by simp,by simp⟩⟩,by simp [upd],by simp⟩ (pushed _ _ _) (by simp)
variable {P :Program} {T Kt Et:TypeId} {E:List PanicEntry->Heap->Prop}
section
variable [DecidableEq κ]
theorem run_look (ko:KeyOk P Kt kf) (hT:P.underlying T=some (.map Kt Et)) {z:Value} (hz: ∀w,(zeroValue Et).run P w=.ok z w) (h:MapK kf s r m τ) (k:κ) (ok:Bool) (w:World) (hw:w.heap=s.h):
  (Instr.lookup T (.map (some r)) (kf k) ok).run P w=.ok (if ok=true then .tuple #[(mget k m).getD z,.bool (mget k m).isSome] else (mget k m).getD z) w:=by
 obtain ⟨es,ck,hg,he⟩:=h.get
 have h1:(getObj r).run P w=.ok (.map es.toArray ck) w:=by
  show Sem.run P (.getObj r .pure) w=_
  simp only [Sem.run,hw,hg]
 have h2:=ko.find k es (m.map (·.1)) (by rw [he.key,List.map_map];rfl) w
 have h3:=findL_get k es m 0 he.val
 simp only [Instr.lookup,Sem.run_bind,run_under hT,Result.andThen_ok,h1,Sem.run_pure,ko.check,h2]
 cases hf:findL k es (m.map (·.1)) 0 with
 |none=>
  rw [hf] at h3
  have:mget k m=none:=h3.symm
  cases ok<;>simp [this,hz]
 |some p=>
  rw [hf] at h3
  have:mget k m=some p.2:=h3.symm
  cases ok<;>simp [this]
theorem look_t {K:Value->Heap->Prop} (ko:KeyOk P Kt kf) (hT:P.underlying T=some (.map Kt Et)) {z:Value} (hz: ∀w,(zeroValue Et).run P w=.ok z w) (h:MapK kf s r m τ) (k:κ) (hk:K ((mget k m).getD z) s.h):
  semW P (Instr.lookup T (.map (some r)) (kf k) false) E s.h K:=.mk fun w hw=>by
 rw [run_look ko hT hz h k false w hw];exact ⟨by rw [hw];exact hk,Like.refl w⟩
theorem look_ok {K:Value->Heap->Prop} (ko:KeyOk P Kt kf) (hT:P.underlying T=some (.map Kt Et)) {z:Value} (hz: ∀w,(zeroValue Et).run P w=.ok z w) (h:MapK kf s r m τ) (k:κ) (hk:K (.tuple #[(mget k m).getD z,.bool (mget k m).isSome]) s.h):
  semW P (Instr.lookup T (.map (some r)) (kf k) true) E s.h K:=.mk fun w hw=>by
 rw [run_look ko hT hz h k true w hw];exact ⟨by rw [hw];exact hk,Like.refl w⟩
theorem look_g {K:Value->Heap->Prop} (ko:KeyOk P Kt kf) (hT:P.underlying T=some (.map Kt Et)) {z v:Value} (hz: ∀w,(zeroValue Et).run P w=.ok z w) (h:MapK kf s r m τ) (k:κ) (hv:(mget k m).getD z=v) (hk:K v s.h):
  semW P (Instr.lookup T (.map (some r)) (kf k) false) E s.h K:=look_t ko hT hz h k (by rw [hv];exact hk)
theorem look_s {K:Value->Heap->Prop} (ko:KeyOk P Kt kf) (hT:P.underlying T=some (.map Kt Et)) {z v:Value} (hz: ∀w,(zeroValue Et).run P w=.ok z w) (h:MapK kf s r m τ) (k:κ) (hm:mget k m=some v) (hk:K v s.h):
  semW P (Instr.lookup T (.map (some r)) (kf k) false) E s.h K:=look_t ko hT hz h k (by rw [hm];exact hk)
theorem look_okn {K:Value->Heap->Prop} (ko:KeyOk P Kt kf) (hT:P.underlying T=some (.map Kt Et)) {z:Value} (hz: ∀w,(zeroValue Et).run P w=.ok z w) (h:MapK kf s r m τ) (k:κ) (hm:mget k m=none) (hk:K (.tuple #[z,.bool false]) s.h):
  semW P (Instr.lookup T (.map (some r)) (kf k) true) E s.h K:=look_ok ko hT hz h k (by rw [hm];exact hk)
theorem look_oks {K:Value->Heap->Prop} (ko:KeyOk P Kt kf) (hT:P.underlying T=some (.map Kt Et)) {z v:Value} (hz: ∀w,(zeroValue Et).run P w=.ok z w) (h:MapK kf s r m τ) (k:κ) (hm:mget k m=some v) (hk:K (.tuple #[v,.bool true]) s.h):
  semW P (Instr.lookup T (.map (some r)) (kf k) true) E s.h K:=look_ok ko hT hz h k (by rw [hm];exact hk)
theorem lookn_ok {K:Value->Heap->Prop} {H:Heap} (ko:KeyOk P Kt kf) (hT:P.underlying T=some (.map Kt Et)) {z:Value} (hz: ∀w,(zeroValue Et).run P w=.ok z w) (k:κ) (hk:K (.tuple #[z,.bool false]) H):
  semW P (Instr.lookup T (.map none) (kf k) true) E H K:=.mk fun w hw=>by
 have h2:=ko.find k [] [] rfl w
 simp only [Instr.lookup,Sem.run_bind,run_under hT,Result.andThen_ok,Sem.run_pure,ko.check,h2,findL,hz]
 exact ⟨by rw [hw];exact hk,Like.refl w⟩
end
theorem setmap_on {es':List MapEntry} {ck':Nat} {m':List (κ×Value)} (h:MapK kf s r m τ) (he:Ents kf es' ck' m') (hnd:(m'.map (·.1)).Nodup):
  MapK kf ⟨s.h.setIfInBounds r (.map es'.toArray ck'),s.g⟩ r m' τ/\On r s ⟨s.h.setIfInBounds r (.map es'.toArray ck'),s.g⟩:=by
 have hlt:=h.lt
 refine ⟨⟨⟨es',ck',by simp [hlt],he⟩,h.tag,hnd⟩,⟨by simp,fun _ _=>rfl,fun j hj hn=>?_⟩⟩
 show (s.h.setIfInBounds r _)[j]? =_
 rw [Array.getElem?_setIfInBounds_ne (fun e=>hn e.symm)]
theorem run_setmap {es:List MapEntry} {ck:Nat} (hg:s.h[r]? =some (.map es.toArray ck)) (o:Obj) (w:World) (hw:w.heap=s.h):(setObj r o).run P w=.ok () { w with heap:=w.heap.setIfInBounds r o }:=by
 show Sem.run P (.setObj r o (.pure ())) w=_
 simp only [Sem.run,hw,hg]
theorem ents_snoc {es:List MapEntry} {ck:Nat} (he:Ents kf es ck m) (k:κ) (x:Value):Ents kf (es++[{ key:=kf k,val:=x,born:=ck }]) (ck+1) (m++[(k,x)]):=by
 refine ⟨by simp [he.key],by simp [he.val],?_,?_⟩
 ·rw [List.map_append,List.nodup_append]
  refine ⟨he.born,by simp,fun a ha b hb=>?_⟩
  simp only [List.map_cons,List.map_nil,List.mem_singleton] at hb
  obtain ⟨e,h1,h2⟩:=List.mem_map.1 ha
  have:=he.old e h1
  omega
 intro e hm
 rcases List.mem_append.1 hm with hm|hm
 ·have:=he.old e hm;omega
 simp at hm;subst hm;simp
section
variable [DecidableEq κ]
theorem upd_t {K:Unit->Heap->Prop} (ko:KeyOk P Kt kf) (hT:P.underlying T=some (.map Kt Et)) (h:MapK kf s r m τ) (k:κ) (x:Value)
  (hk: ∀s':TH,MapK kf s' r (mset k x m) τ->On r s s'->s.h.size=s'.h.size->K () s'.h):
  semW P (Instr.mapUpdate T (.map (some r)) (kf k) x) E s.h K:=.mk fun w hw=>by
 obtain ⟨es,ck,hg,he⟩:=h.get
 have h1:(getObj r).run P w=.ok (.map es.toArray ck) w:=by
  show Sem.run P (.getObj r .pure) w=_
  simp only [Sem.run,hw,hg]
 have h2:=ko.find k es (m.map (·.1)) (by rw [he.key,List.map_map];rfl) w
 have hlen:es.length=m.length:=by have:=congrArg List.length he.key;simpa using this
 simp only [Instr.mapUpdate,Sem.run_bind,run_under hT,Result.andThen_ok,h1,ko.check,h2]
 cases hf:findL k es (m.map (·.1)) 0 with
 |none=>
  obtain ⟨h3,_,h5⟩:=findL_none k es m 0 hlen hf x
  have h6:(m++[(k,x)]).map (·.1)=m.map (·.1)++[k]:=by simp
  have h7:((m++[(k,x)]).map (·.1)).Nodup:=by
   rw [h6,List.nodup_append]
   exact ⟨h.nd,by simp,fun a ha b hb=>by simp at hb;subst hb;intro e;subst e;exact h5 ha⟩
  obtain ⟨h8,h9⟩:=setmap_on h (ents_snoc he k x) h7
  have hpush:es.toArray.push (MapEntry.mk (kf k) x ck)=(es++[MapEntry.mk (kf k) x ck]).toArray:=by simp
  simp only [hpush]
  rw [run_setmap hg _ w hw, ←h3] at*
  have:=hk _ h8 h9 (by simp)
  exact ⟨by rw [hw];exact this,rfl,rfl,rfl⟩
 |some p=>
  obtain ⟨j,v⟩:=p
  obtain ⟨_,a,b,v',ea,eb,e,h3,h4,h5,h6,h7⟩:=findL_some k es m 0 j v hf
  simp only [Nat.sub_zero] at h5 h6
  subst h3 h4
  have hkey:=he.key
  have hval:=he.val
  simp only [List.map_append,List.map_cons] at hkey hval
  obtain ⟨k1,k2⟩:=List.append_inj hkey (by simp [h5,h6])
  obtain ⟨v1,v2⟩:=List.append_inj hval (by simp [h5,h6])
  simp only [List.cons.injEq] at k2 v2
  have hej:(ea++e::eb)[j]? =some e:=by rw [List.getElem?_append_right (by omega),h6];simp
  have hks: ∀w,(Instr.keyThatStays (kf k) (kf k)).run P w=.ok (kf k) w:=fun w=>by simp [Instr.keyThatStays,ko.same]
  have hmod:(ea++e::eb).toArray.modify j (fun e=>{ e with key:=kf k,val:=x })=(ea++{ e with key:=kf k,val:=x }::eb).toArray:=by
   apply Array.toList_inj.1
   rw [Array.toList_modify, ←h6]
   exact modify_mid _ _ _ _
  have hent:Ents kf (ea++{ e with key:=kf k,val:=x }::eb) ck (a++(k,x)::b):=by
   refine ⟨by simp [k1,k2.2],by simp [v1,v2.2],by simpa using he.born,fun e' hm=>?_⟩
   rcases List.mem_append.1 hm with hm|hm
   ·exact he.old e' (by simp [hm])
   ·rcases List.mem_cons.1 hm with rfl|hm
    ·exact he.old e (by simp)
    ·exact he.old e' (by simp [hm])
  obtain ⟨h8,h9⟩:=setmap_on h hent (by simpa using h.nd)
  have hgk:(((ea++e::eb).toArray[j]?).map (·.key)).getD (kf k)=kf k:=by
   simp [hej,k2.1]
  simp only [Sem.run_bind,hgk,hks,Result.andThen_ok,hmod]
  rw [run_setmap hg _ w hw]
  rw [←mset_mid (x:=x) (v:=v') (b:=b) h7] at h8
  have:=hk _ h8 h9 (by simp)
  exact ⟨by rw [hw];exact this,rfl,rfl,rfl⟩
end
theorem mlen_t {K:Value->Heap->Prop} {t:TypeId} (hT:P.underlying T=some (.map Kt Et)) (h:MapK kf s r m τ) (hk:K (.int .i64 (m.length:Int)) s.h):
  semW P (Builtin.len_ #[T] t #[.map (some r)]) E s.h K:=.mk fun w hw=>by
 obtain ⟨es,ck,hg,he⟩:=h.get
 have h1:(getObj r).run P w=.ok (.map es.toArray ck) w:=by
  show Sem.run P (.getObj r .pure) w=_
  simp only [Sem.run,hw,hg]
 have hlen:es.length=m.length:=by have:=congrArg List.length he.key;simpa using this
 simp [Builtin.len_,run_under hT,h1,goInt,hlen]
 exact ⟨by rw [hw];exact hk,Like.refl w⟩
section
variable [DecidableEq κ]
theorem del_t {K:Value->Heap->Prop} {t t2:TypeId} (ko:KeyOk P Kt kf) (hT:P.underlying T=some (.map Kt Et)) (h:MapK kf s r m τ) (k:κ)
  (hk: ∀s':TH,MapK kf s' r (mdel k m) τ->On r s s'->s.h.size=s'.h.size->K (.tuple #[]) s'.h):
  semW P (Builtin.delete_ #[T,t] t2 #[.map (some r),kf k]) E s.h K:=.mk fun w hw=>by
 obtain ⟨es,ck,hg,he⟩:=h.get
 have h1:(getObj r).run P w=.ok (.map es.toArray ck) w:=by
  show Sem.run P (.getObj r .pure) w=_
  simp only [Sem.run,hw,hg]
 have h2:=ko.find k es (m.map (·.1)) (by rw [he.key,List.map_map];rfl) w
 have hlen:es.length=m.length:=by have:=congrArg List.length he.key;simpa using this
 unfold Builtin.delete_
 simp [run_under hT,h1,ko.check,h2]
 cases hf:findL k es (m.map (·.1)) 0 with
 |none=>
  obtain ⟨_,h4,h5⟩:=findL_none k es m 0 hlen hf .nilIface
  obtain ⟨h8,h9⟩:=setmap_on h he h.nd
  simp only [Sem.run_map,run_setmap hg _ w hw]
  rw [h4] at hk
  have:=hk _ h8 h9 (by simp)
  exact ⟨by rw [hw];exact this,rfl,rfl,rfl⟩
 |some p=>
  obtain ⟨j,v⟩:=p
  obtain ⟨_,a,b,v',ea,eb,e,h3,h4,h5,h6,h7⟩:=findL_some k es m 0 j v hf
  simp only [Nat.sub_zero] at h5 h6
  subst h3 h4
  have hkey:=he.key
  have hval:=he.val
  simp only [List.map_append,List.map_cons] at hkey hval
  obtain ⟨k1,k2⟩:=List.append_inj hkey (by simp [h5,h6])
  obtain ⟨v1,v2⟩:=List.append_inj hval (by simp [h5,h6])
  simp only [List.cons.injEq] at k2 v2
  have hmod:(ea++e::eb).eraseIdx j=ea++eb:=by rw [←h6];exact erase_mid _ _ _
  have hent:Ents kf (ea++eb) ck (a++b):=by
   refine ⟨by simp [k1,k2.2],by simp [v1,v2.2],?_,fun e' hm=>?_⟩
   ·have:=he.born
    simp only [List.map_append,List.map_cons] at this ⊢
    exact this.sublist (List.Sublist.append_left (List.sublist_cons_self _ _) _)
   ·rcases List.mem_append.1 hm with hm|hm
    ·exact he.old e' (by simp [hm])
    ·exact he.old e' (by simp [hm])
  obtain ⟨h8,h9⟩:=setmap_on h hent (by
   have:=h.nd
   simp only [List.map_append,List.map_cons] at this ⊢
   exact this.sublist (List.Sublist.append_left (List.sublist_cons_self _ _) _))
  simp only [hmod,Sem.run_map,run_setmap hg _ w hw]
  rw [←mdel_mid (v:=v') (b:=b) h7] at h8
  have:=hk _ h8 h9 (by simp)
  exact ⟨by rw [hw];exact this,rfl,rfl,rfl⟩
end
end
end Go.Proofs.YtkaikaodhegmhaaGreat.E
namespace Go.Proofs.YtkaikaodhegmhaaGreat.E
open Go
set_option linter.unusedVariables false
theorem Blk.congr {s:TH} {r:Nat} {l l':List Value} {t τ:Nat} (h:Blk s r l t τ) (e:l=l'):Blk s r l' t τ:=e▸h
end Go.Proofs.YtkaikaodhegmhaaGreat.E
namespace Go.Proofs.YtkaikaodhegmhaaGreat.E
open Go
set_option linter.unusedVariables false
set_option linter.unusedSimpArgs false
abbrev OnA (a:Option Addr) (s s':TH):Prop:=Chg (fun j=>a.map (·.block)=some j) s s'
def Sl (s:TH) (a:Option Addr) (l:List Value) (τ:Nat):Prop:=
 l=[]∨∃g o,a=some ⟨g,o,none⟩/\g<s.h.size/\s.g g=τ/\∀j v,l[j]? =some v->cellH s.h ⟨g,o+j,none⟩=some v
theorem Sl.of {s:TH} {g o e τ:Nat} {L l:List Value} (h:Blk s g L e τ) (hl:(L.drop o).take l.length=l):Sl s (some ⟨g,o,none⟩) l τ:=by
 refine .inr ⟨g,o,rfl,h.lt,h.tag,fun j v hv=>?_⟩
 rw [h.cell]
 rw [←hl,List.getElem?_take] at hv
 split at hv
 ·rw [List.getElem?_drop] at hv;exact hv
 cases hv
def Own (s:TH) (a:Option Addr) (n c e k:Nat) (xs:List Value) (τ:Nat):Prop:=
 xs.length=n*k/\((a=none/\n=0/\c=0)∨∃g o L,a=some ⟨g,o,none⟩/\Blk s g L e τ/\n<=c/\c<=maxLen/\o+c*k<=L.length/\(L.drop o).take (n*k)=xs)
section
variable {s s':TH} {a:Option Addr} {n c e k:Nat} {xs l:List Value} {τ:Nat} {B:Nat->Prop}
theorem Own.nil (s:TH) (e k τ:Nat):Own s none 0 0 e k [] τ:=⟨by simp,.inl ⟨rfl,rfl,rfl⟩⟩
theorem Own.mv (h:Own s a n c e k xs τ) (C:Chg B s s') (hn: ∀j,j<s.h.size->s.g j=τ->¬B j):Own s' a n c e k xs τ:=by
 refine ⟨h.1,h.2.imp id ?_⟩
 rintro ⟨g,o,L,h1,h2,h3⟩
 exact ⟨g,o,L,h1,h2.mv C (hn g h2.lt h2.tag),h3⟩
theorem Sl.mv (h:Sl s a l τ) (C:Chg B s s') (hn: ∀j,j<s.h.size->s.g j=τ->¬B j):Sl s' a l τ:=by
 refine h.imp id ?_
 rintro ⟨g,o,h1,h2,h3,h4⟩
 exact ⟨g,o,h1,Nat.lt_of_lt_of_le h2 C.size,(C.tag g h2).trans h3,fun j v hv=>by rw [cellH_of (C.get g h2 (hn g h2 h3))];exact h4 j v hv⟩
theorem Own.sl (h:Own s a n c e k xs τ):Sl s a xs τ:=by
 rcases h.2 with ⟨_,rfl,_⟩|⟨g,o,L,h1,h2,_,_,_,h3⟩
 ·left;exact List.eq_nil_of_length_eq_zero (by simpa using h.1)
 subst h1;exact Sl.of h2 (by rw [h.1];exact h3)
theorem Own.le (h:Own s a n c e k xs τ):n<=c:=by
 rcases h.2 with ⟨_,rfl,rfl⟩|⟨g,o,L,h1,h2,h3,_⟩<;>omega
theorem Own.len (h:Own s a n c e k xs τ):xs.length=n*k:=h.1
theorem Own.none_iff (h:Own s a n c e k xs τ):a=none->n=0:=by
 intro ha
 rcases h.2 with ⟨_,h1,_⟩|⟨g,o,L,h1,_⟩
 ·exact h1
 rw [ha] at h1;cases h1
theorem OnA.ch {T:List Nat} (C:OnA a s s') (h:Own s a n c e k xs τ) (ht:τ∈T):Ch T s s':=Chg.mono C fun j hj hB=>by
 rcases h.2 with ⟨rfl,_⟩|⟨g,o,L,rfl,h2,_⟩
 ·simp at hB
 simp at hB;subst hB;rw [h2.tag];exact ht
theorem OnA.toL {r o:Nat} (C:OnA a s s') (h:a=some ⟨r,o,none⟩):ChL [] [r] s s':=Chg.mono C fun j hj hB=>.inr (by subst h;simp at hB;simp [hB])
theorem Blk.sl {r t:Nat} (h:Blk s r l t τ):Sl s (some ⟨r,0,none⟩) l τ:=Sl.of h (by simp)
theorem Blk.own0 {r t:Nat} (h:Blk s r [] t τ) (k:Nat):Own s (some ⟨r,0,none⟩) 0 0 t k [] τ:=⟨by simp,.inr ⟨r,0,[],rfl,h,by simp,by simp,by simp,by simp⟩⟩
theorem Blk.own {r t:Nat} (h:Blk s r l t τ) (k:Nat) (hl:l.length=n*k) (hn:n<=maxLen):Own s (some ⟨r,0,none⟩) n n t k l τ:=⟨hl,.inr ⟨r,0,l,rfl,h,Nat.le_refl _,hn,by omega,by simp [←hl]⟩⟩
theorem Sl.cells {b:Addr} (h:Sl s (some b) l τ) (w:World) (hw:w.heap=s.h): ∀j u,l[j]? =some u->w.cell? (b.add j)=some u:=by
 intro j u hu
 rcases h with rfl|⟨g,o,h1,h2,h3,h4⟩
 ·simp at hu
 cases h1
 have hadd:(⟨g,o,none⟩:Addr).add j=⟨g,o+j,none⟩:=by unfold Addr.add;split<;>simp_all
 rw [hadd,cell_eq,hw]
 exact h4 j u hu
end
section
variable {P :Program} {t ty e:TypeId} {i:TypeInfo} {E:List PanicEntry->Heap->Prop}
theorem run_append_none (w:World) (ht:P.underlying t=some (.slice e)) (hi:P.info? e=some i) (a xa:Option Addr) (n c mc:Nat) (hn:n<=c):
  (Builtin.append_ #[t,t] ty #[.slice a n c,.slice xa 0 mc]).run P w=.ok (.slice a n c) w:=by
 cases xa<;>cases a<;>simp [Builtin.append_,run_underlying ht,sizeOf,typeInfo,hi,Builtin.lenOf,hn,Builtin.firstCells,loadCells,loadCellsFrom,storeCells]
theorem run_append_room_o (w:World) (ht:P.underlying t=some (.slice e)) (hi:P.info? e=some i)
  (g o sLen sCap:Nat) (cur:Array Value) (hg:w.heap[g]? =some (.cells cur e (0,0)))
  (a:Addr) (m c:Nat) (news:List Value) (hl:news.length=m*i.size) (hnews: ∀j u,news[j]? =some u->w.cell? (a.add j)=some u) (h1: ∀u∈news,u.oneCell'=true)
  (hroom:sLen+m<=sCap) (hfit:o+sLen*i.size+news.length<=cur.size):
  (Builtin.append_ #[t,t] ty #[.slice (some ⟨g,o,none⟩) sLen sCap,.slice (some a) m c]).run P w=
   .ok (.slice (some ⟨g,o,none⟩) (sLen+m) sCap) (w.setRow g (cur.toList.take (o+sLen*i.size)++news++cur.toList.drop (o+sLen*i.size+news.length)).toArray):=by
 have hf:=run_firstCells_some (P:=P) w i.size m a m c news hl hnews
 have hst:=run_storeCells_at P g (o+sLen*i.size) e news 0 cur w hg (by simpa using hfit) h1
 simp only [Nat.add_zero] at hst
 have hadd:(⟨g,o,none⟩:Addr).add (sLen*i.size)=⟨g,o+sLen*i.size,none⟩:=by unfold Addr.add;split<;>simp_all
 simp [Builtin.append_,run_underlying ht,sizeOf,typeInfo,hi,Builtin.lenOf,hroom,hf,hadd,hst]
theorem app_t {s:TH} {a xa:Option Addr} {n c m mc bytes k:Nat} {xs news:List Value} {τ τ':Nat} {z:Value} {K:Value->Heap->Prop}
  (ht:P.underlying t=some (.slice e)) (hi:P.info? e=some i) (hz:i.zero=some z) (hsize:i.size=k) (hby:i.bytes=bytes) (hzs:z.cells.size=k)
  (hO:Own s a n c e k xs τ) (hx:Sl s xa news τ') (hl:news.length=m*k) (h1: ∀u∈news,u.oneCell'=true) (hxa:xa=none->m=0)
  (hb:(n+m)*bytes<=140737488355328/\n+m<=maxLen)
  (hk: ∀(s':TH) (a':Option Addr) (c':Nat),Own s' a' (n+m) c' e k (xs++news) τ->OnA a s s'->((a'=none↔a=none/\m=0)/\(n+m<=c->a'=a/\c'=c))->K (.slice a' (n+m) c') s'.h):
  semW P (Builtin.append_ #[t,t] ty #[.slice a n c,.slice xa m mc]) E s.h K:=.mk fun w hw=>by
 subst hsize hby
 by_cases hm:m=0
 ·subst hm
  rw [run_append_none w ht hi a xa n c mc hO.le]
  have hn:news=[]:=List.eq_nil_of_length_eq_zero (by simpa using hl)
  subst hn
  refine ⟨?_,Like.refl w⟩
  rw [hw]
  exact hk s a c (by simpa using hO) ⟨Nat.le_refl _,fun _ _=>rfl,fun _ _ _=>rfl⟩ ⟨by simp,fun _=>⟨rfl,rfl⟩⟩
 obtain ⟨b,rfl⟩: ∃b,xa=some b:=by
  cases xa with
  |none=>exact absurd (hxa rfl) hm
  |some b=>exact ⟨b,rfl⟩
 have hc:=hx.cells w hw
 have h63:((n+m:Nat):Int)<=9223372036854775807:=by have:=hb.2;unfold maxLen at this;omega
 have hlen:(xs++news).length=(n+m)*i.size:=by rw [List.length_append,hO.1,hl,Nat.add_mul]
 -- a new block
 have grown: ∀(old:Nat),¬n+m<=c->∃L:List Value,L.toArray=xs.toArray++news.toArray++Builtin.zeroCells z.cells (grownCap w (n+m) old e - (n+m))/\
   K (.slice (some ⟨w.heap.size,0,none⟩) (n+m) (grownCap w (n+m) old e)) (w.heap.push (.cells L.toArray e)):=by
  intro old hno
  refine ⟨xs++news++(Builtin.zeroCells z.cells (grownCap w (n+m) old e - (n+m))).toList,by apply Array.toList_inj.1;simp,?_⟩
  have hge:=grownCap_ge w (n+m) old e
  have hcm:grownCap w (n+m) old e<=maxLen:=grownCap_le_maxLen w (n+m) old e hb.2
  rw [hw]
  refine hk ⟨s.h.push (.cells (xs++news++(Builtin.zeroCells z.cells (grownCap w (n+m) old e - (n+m))).toList).toArray e),upd s.g s.h.size τ⟩ _ _ ⟨hlen,.inr ⟨s.h.size,0,xs++news++(Builtin.zeroCells z.cells (grownCap w (n+m) old e - (n+m))).toList,rfl,⟨by simp,by simp [upd]⟩,hge,hcm,?_,?_⟩⟩ ?_ ⟨by simp [hm],fun h=>absurd h hno⟩
  ·have:(Builtin.zeroCells z.cells (grownCap w (n+m) old e - (n+m))).toList.length=(grownCap w (n+m) old e - (n+m))*i.size:=by
    simp [size_zeroCells,hzs]
   rw [List.length_append,hlen,this, ←Nat.add_mul]
   rw [show n+m+(grownCap w (n+m) old e - (n+m))=grownCap w (n+m) old e by omega];omega
  ·rw [←hlen,List.drop_zero];exact List.take_left
  ·exact Chg.mono (pushed s _ τ) fun _ _ h=>by simp at h
 rcases hO.2 with ⟨rfl,rfl,rfl⟩|⟨g,o,L,rfl,hB,hnc,hcm,hcs,htake⟩
 ·have hx0:xs=[]:=List.eq_nil_of_length_eq_zero (by simpa using hO.1)
  subst hx0
  have hr:=run_append_nil (P:=P) w t ty e i z ht hi hz b m mc news hl hc (by omega) (by omega) (by have:=hb.1;simp only [Nat.zero_add] at this;omega)
  rw [hr]
  obtain ⟨L,hL,hK⟩:=grown 0 (by omega)
  simp only [Nat.zero_add,List.nil_append,Array.empty_append] at hL hK
  refine ⟨?_,rfl,rfl,rfl⟩
  rw [hL] at hK;exact hK
 ·by_cases hroom:n+m<=c
  ·have hfit:o+n*i.size+news.length<=L.toArray.size:=by
    have:=Nat.mul_le_mul_right i.size hroom
    rw [Nat.add_mul] at this
    simp only [List.size_toArray,hl];omega
   have hr:=run_append_room_o (P:=P) (ty:=ty) w ht hi g o n c L.toArray (by rw [hw];exact hB.get) b m mc news hl hc h1 hroom hfit
   rw [hr]
   have hset:(w.setRow g (L.take (o+n*i.size)++news++L.drop (o+n*i.size+news.length)).toArray).heap[g]? =some (.cells (L.take (o+n*i.size)++news++L.drop (o+n*i.size+news.length)).toArray e (0,0)):=setRow_heap w g L.toArray _ e _ (by rw [hw];exact hB.get)
   have hK:=hk ⟨(w.setRow g (L.take (o+n*i.size)++news++L.drop (o+n*i.size+news.length)).toArray).heap,s.g⟩ (some ⟨g,o,none⟩) c ⟨hlen,.inr ⟨g,o,_,rfl,⟨hset,hB.tag⟩,hroom,hcm,?_,?_⟩⟩ ⟨by simp [←hw],fun _ _=>rfl,fun j hj hn=>?_⟩ ⟨by simp,fun _=>⟨rfl,rfl⟩⟩
   ·exact ⟨hK,rfl,rfl,rfl⟩
   ·simp only [List.size_toArray] at hfit
    simp only [List.length_append,List.length_take,List.length_drop];omega
   ·simp only [List.size_toArray] at hfit
    have e1:(L.take (o+n*i.size)++news++L.drop (o+n*i.size+news.length)).drop o=(L.drop o).take (n*i.size)++news++L.drop (o+n*i.size+news.length):=by
     rw [List.append_assoc,List.drop_append_of_le_length (by simp;omega),List.drop_take, ←List.append_assoc]
     congr 2;congr 1;omega
    rw [e1,htake, ←hlen];exact List.take_left
   ·show (w.setRow g _).heap[j]? =_
    rw [setRow_other w g j _ (fun e=>hn (by simp [e])),hw]
  ·have hr:=run_append_grow (P:=P) w t ty e i z ht hi hz ⟨g,o,none⟩ n c xs hO.1 (by have:=hO.sl.cells w hw;exact this) b m mc news hl hc (by omega) (by omega) (growslice_fits (by omega) hb.1)
   rw [hr]
   obtain ⟨L',hL,hK⟩:=grown c hroom
   refine ⟨?_,rfl,rfl,rfl⟩
   rw [hL] at hK;exact hK
end
theorem info_of {P:Program} {e:TypeId} {z:Value} {k b:Nat} (h:(P.info? e).map (fun i=>(i.zero,i.size,i.bytes))=some (some z,k,b)): ∃i,P.info? e=some i/\i.zero=some z/\i.size=k/\i.bytes=b:=by
 cases hi:P.info? e with
 |none=>rw [hi] at h;cases h
 |some i=>rw [hi] at h;simp at h;exact ⟨i,rfl,h.1,h.2.1,h.2.2⟩
theorem app_i {P:Program} {t ty e:TypeId} {E:List PanicEntry->Heap->Prop} {s:TH} {a xa:Option Addr} {n c m mc bytes k:Nat} {xs news:List Value} {τ τ':Nat} {z:Value} {K:Value->Heap->Prop}
  (ht:P.underlying t=some (.slice e)) (hi:(P.info? e).map (fun i=>(i.zero,i.size,i.bytes))=some (some z,k,bytes)) (hzs:z.cells.size=k)
  (hO:Own s a n c e k xs τ) (hx:Sl s xa news τ') (hl:news.length=m*k) (h1: ∀u∈news,u.oneCell'=true) (hxa:xa=none->m=0)
  (hb:(n+m)*bytes<=140737488355328/\n+m<=maxLen)
  (hk: ∀(s':TH) (a':Option Addr) (c':Nat),Own s' a' (n+m) c' e k (xs++news) τ->OnA a s s'->((a'=none↔a=none/\m=0)/\(n+m<=c->a'=a/\c'=c))->K (.slice a' (n+m) c') s'.h):
  semW P (Builtin.append_ #[t,t] ty #[.slice a n c,.slice xa m mc]) E s.h K:=by
 obtain ⟨i,h1',h2,h3,h4⟩:=info_of hi
 exact app_t ht h1' h2 h3 h4 hzs hO hx hl h1 hxa hb hk
def bv (b:UInt8):Value:=.int .u8 (b.toNat:Int)
def bvs (l:List UInt8):List Value:=l.map bv
theorem bvs_len (l:List UInt8):(bvs l).length=l.length:=by simp [bvs]
theorem bvs_one (l:List UInt8): ∀u∈bvs l,u.oneCell'=true:=by intro u hu;simp [bvs] at hu;obtain ⟨b,_,rfl⟩:=hu;rfl
theorem slA_mk (g o k l m:Nat):slO (some ⟨g,o,none⟩) k (l:Int) (m:Int)=some ⟨g,if m=l then o else o+l*k,none⟩:=by
 unfold slO slA
 simp only [Option.map_some,Int.toNat_natCast]
 split
 ·rfl
 unfold Addr.add;split<;>simp_all
theorem Own.pre {s:TH} {a:Option Addr} {n c e k:Nat} {xs:List Value} {τ:Nat} (h:Own s a n c e k xs τ) {m:Nat} (hm:m<=n):Own s a m c e k (xs.take (m*k)) τ:=by
 have hle:m*k<=n*k:=Nat.mul_le_mul_right k hm
 refine ⟨by rw [List.length_take,h.1];omega,?_⟩
 rcases h.2 with ⟨h1,h2,h3⟩|⟨g,o,L,h1,h2,h3,h4,h5,h6⟩
 ·exact .inl ⟨h1,by omega,h3⟩
 refine .inr ⟨g,o,L,h1,h2,by omega,h4,h5,?_⟩
 rw [←h6,List.take_take];congr 1;omega
theorem Own.cut {s:TH} {a:Option Addr} {n c e k:Nat} {xs:List Value} {τ:Nat} (h:Own s a n c e k xs τ) {m:Nat} (hm:m<=n):Sl s (slO a k (m:Int) (c:Int)) (xs.drop (m*k)) τ:=by
 rcases h.2 with ⟨h1,h2,h3⟩|⟨g,o,L,h1,h2,h3,h4,h5,h6⟩
 ·left;rw [List.eq_nil_of_length_eq_zero (l:=xs) (by rw [h.1,h2];simp)];simp
 by_cases hc:c=m
 ·left;apply List.eq_nil_of_length_eq_zero;rw [List.length_drop,h.1,show n=m by omega];omega
 subst h1
 rw [slA_mk,if_neg hc]
 refine Sl.of h2 ?_
 rw [←h6,List.drop_take,List.drop_drop,List.length_take,List.length_drop]
 have h7:n*k<=c*k:=Nat.mul_le_mul_right k h3
 rw [Nat.min_eq_left (by omega)]
end Go.Proofs.YtkaikaodhegmhaaGreat.E
