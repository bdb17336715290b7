/- My own texts, joined. -/
import Derived.Below
import Derived.Calls
import Derived.Defers
import Derived.Laws.Build
import Derived.Laws.Externs
import Derived.Laws.MakeOwn
import Derived.Laws.Slices
import Derived.Laws.Tables
import Derived.Orders
import Derived.Tactics
namespace Go.Proofs.YtkaikaodhegmhaaGreat.E
open Go
abbrev Heap :=Array Obj
def cellH (H:Heap) (a:Addr):Option Value:=
 match H[a.block]? with
 |some (.cells c _ _)=>if a.spot.isSome then none else c[a.off]?
 |_=>none
def frozenH (H:Heap) (a:Addr):Bool:=
 match H[a.block]? with
 |some (.cells _ _ (lo,hi))=>lo<=a.off&&a.off<hi
 |_=>false
def shapeH (H:Heap) (r:Nat):Option (TypeId×Nat):=
 match H[r]? with
 |some (.cells c elem _)=>some (elem,c.size)
 |_=>none
def setH (H:Heap) (a:Addr) (v:Value):Heap:=
 H.modify a.block fun
  |.cells c elem frozen=>.cells (if a.spot.isSome then c else c.setIfInBounds a.off v) elem frozen
  |o=>o
theorem cell_eq (w:World) (a:Addr):w.cell? a=cellH w.heap a:=rfl
theorem frozen_eq (w:World) (a:Addr):w.frozen? a=frozenH w.heap a:=rfl
theorem shape_eq (w:World) (r:Nat):w.shape? r=shapeH w.heap r:=rfl
theorem set_eq (w:World) (a:Addr) (v:Value):(w.setCell a v).heap=setH w.heap a v:=rfl
def freezeH (H:Heap) (a:Addr) (n:Nat):Heap:=(World.freeze { (default:World) with heap:=H } a n).heap
theorem freeze_eq (w:World) (a:Addr) (n:Nat):(w.freeze a n).heap=freezeH w.heap a n:=by
 unfold freezeH World.freeze;split<;>rfl
structure Like (w w':World):Prop where
 os:w'.os=w.os
 tape:w'.tape=w.tape
 output:w'.output=w.output
theorem Like.refl (w:World):Like w w:=⟨rfl,rfl,rfl⟩
theorem Like.trans {a b c:World} (h:Like a b) (k:Like b c):Like a c:=⟨k.os.trans h.os,k.tape.trans h.tape,k.output.trans h.output⟩
def oneC :Value->Bool
 |.agg _|.tuple _=>false
 |_=>true
def ld (H:Heap) (a:Addr) (k:Value->Prop):Prop:=match cellH H a with|some v=>k v|none=>False
def st (H:Heap) (a:Addr) (v:Value) (k:Heap->Prop):Prop:=(oneC v=true/\(cellH H a).isSome=true/\frozenH H a=false)/\k (setH H a v)
def al (H:Heap) (o:Obj) (k:Nat->Heap->Prop):Prop:=k H.size (H.push o)
def gt (H:Heap) (r:Nat) (k:Obj->Prop):Prop:=
 match H[r]? with
 |some (.cells ..)=>False
 |some o=>k o
 |none=>False
def pt (H:Heap) (r:Nat) (o:Obj) (k:Heap->Prop):Prop:=
 match H[r]? with
 |some (.cells ..)=>False
 |some _=>k (H.setIfInBounds r o)
 |none=>False
def wpH {α:Type} (P:Program):Sem α->(α->Heap->Prop)->(Value->Heap->Prop)->Heap->Prop
 |.pure a,Q,_,H=>Q a H
 |.load _ a k,Q,E,H=>ld H a fun v=>wpH P (k v) Q E H
 |.store _ a v k,Q,E,H=>st H a v fun H'=>wpH P k Q E H'
 |.new o k,Q,E,H=>al H o fun r H'=>wpH P (k r) Q E H'
 |.shape r k,Q,E,H=>wpH P (k (shapeH H r)) Q E H
 |.freeze a n k,Q,E,H=>wpH P k Q E (freezeH H a n)
 |.frozen a k,Q,E,H=>wpH P (k (frozenH H a)) Q E H
 |.getObj r k,Q,E,H=>gt H r fun o=>wpH P (k o) Q E H
 |.setObj r o k,Q,E,H=>pt H r o fun H'=>wpH P k Q E H'
 |.choose q k,Q,E,H=>if q.forced=true then wpH P (k 0) Q E H else ∀t,wpH P (k (q.cut t)) Q E H
 |.sys _ _,_,_,_=>False
 |.program k,Q,E,H=>wpH P (k P) Q E H
 |.mark _ k,Q,E,H=>wpH P k Q E H
 |.halt (.panic v),_,E,H=>E v H
 |.halt _,_,_,_=>False
def Outcome {α:Type} (Q:α->Heap->Prop) (E:Value->Heap->Prop) (w:World):Result α->Prop
 |.ok a w'=>Q a w'.heap/\Like w w'
 |.halt (.panic v) w'=>E v w'.heap/\Like w w'
 |.halt _ _=>False
theorem Outcome.of_like {α:Type} {Q:α->Heap->Prop} {E:Value->Heap->Prop} {w w1:World} (hl:Like w w1) {r:Result α} (h:Outcome Q E w1 r):Outcome Q E w r:=by
 cases r with
 |ok a w'=>exact ⟨h.1,hl.trans h.2⟩
 |halt x w'=>cases x<;>first|exact h.elim|exact ⟨h.1,hl.trans h.2⟩
theorem wpH_run {α:Type} {P:Program} (s:Sem α): ∀ {Q:α->Heap->Prop} {E:Value->Heap->Prop} (w:World),
  wpH P s Q E w.heap->Outcome Q E w (s.run P w):=by
 induction s with
 |pure a=>intro Q E w h;exact ⟨h,Like.refl w⟩
 |load m a k ih=>
  intro Q E w h
  simp only [wpH,ld] at h
  simp only [Sem.run,cell_eq]
  cases hc:cellH w.heap a with
  |none=>rw [hc] at h;exact h.elim
  |some v=>rw [hc] at h;exact ih v w h
 |store m a v k ih=>
  intro Q E w h
  obtain ⟨⟨h1,h2,h3⟩,h4⟩:=h
  obtain ⟨u,hu⟩:=Option.isSome_iff_exists.1 h2
  have h5:=Outcome.of_like (w:=w) (w1:=w.setCell a v) ⟨rfl,rfl,rfl⟩ (ih (w.setCell a v) h4)
  cases v<;>first
   |(simp [oneC] at h1;done)
   |(simp only [Sem.run,cell_eq,hu,frozen_eq,h3];exact h5)
 |new o k ih=>
  intro Q E w h
  exact Outcome.of_like (w:=w) (w1:={ w with heap:=w.heap.push o }) ⟨rfl,rfl,rfl⟩ (ih _ { w with heap:=w.heap.push o } h)
 |shape r k ih=>intro Q E w h;exact ih _ w h
 |freeze a n k ih=>
  intro Q E w h
  have hl:Like w (w.freeze a n):=by unfold World.freeze;split<;>exact ⟨rfl,rfl,rfl⟩
  exact Outcome.of_like hl (ih (w.freeze a n) (by rw [freeze_eq];exact h))
 |frozen a k ih=>intro Q E w h;exact ih _ w h
 |getObj r k ih=>
  intro Q E w h
  simp only [wpH,gt] at h
  simp only [Sem.run]
  split at h
  ·exact h.elim
  ·rename_i o hne ho
   rw [ho]
   cases o<;>first|exact (hne _ _ _ rfl).elim|exact ih _ w h
  ·exact h.elim
 |setObj r o k ih=>
  intro Q E w h
  simp only [wpH,pt] at h
  simp only [Sem.run]
  split at h
  ·exact h.elim
  ·rename_i o' hne ho
   rw [ho]
   have h5:=Outcome.of_like (w:=w) (w1:={ w with heap:=w.heap.setIfInBounds r o }) ⟨rfl,rfl,rfl⟩ (ih { w with heap:=w.heap.setIfInBounds r o } h)
   cases o'<;>first|exact (hne _ _ _ rfl).elim|exact h5
  ·exact h.elim
 |choose q k ih=>
  intro Q E w h
  simp only [wpH] at h
  simp only [Sem.run]
  split at h
  ·rename_i hq;rw [if_pos hq];exact ih 0 w h
  ·rename_i hq;rw [if_neg hq]
   exact Outcome.of_like (w:=w) (w1:={ w with drawn:=w.drawn+1 }) ⟨rfl,rfl,rfl⟩ (ih (q.cut (w.tape w.drawn q)) { w with drawn:=w.drawn+1 } (h _))
 |sys c k ih=>intro Q E w h;exact h.elim
 |program k ih=>intro Q E w h;exact ih _ w h
 |mark m k ih=>intro Q E w h;exact ih w h
 |halt x=>
  intro Q E w h
  cases x<;>first|exact h.elim|exact ⟨h,Like.refl w⟩
def HCalls (P:Program) (f:FuncId) (args:Array Value) (H:Heap) (R:Ending->Heap->Prop):Prop:=
 ∀w:World,w.heap=H->Calls P f args w fun e w'=>R e w'.heap/\Like w w'
theorem HCalls.mono {P:Program} {f:FuncId} {args:Array Value} {H:Heap} {R R':Ending->Heap->Prop} (h:HCalls P f args H R) (hr: ∀e H',R e H'->R' e H'):HCalls P f args H R':=
 fun w hw=>(h w hw).mono fun _ _ ⟨h1,h2⟩=>⟨hr _ _ h1,h2⟩
end Go.Proofs.YtkaikaodhegmhaaGreat.E
namespace Go.Proofs.YtkaikaodhegmhaaGreat.E
open Go
def sB (b:Bool) (x y:Prop):Prop:=match b with|true=>x|false=>y
def gB (b:Bool) (x:Prop):Prop:=match b with|true=>x|false=>False
def nz (ao:Option Addr) (k:Addr->Prop):Prop:=match ao with|some a=>k a|none=>False
def ask (p x:Prop):Prop:=p/\x
def dInt (kd:IntKind) (v:Value) (k:Int->Prop):Prop:=match v with|.int kd' n=>gB (decide (kd'=kd)) (k n)|_=>False
def dInt' (v:Value) (k:IntKind->Int->Prop):Prop:=match v with|.int kd n=>k kd n|_=>False
def dB (v:Value) (x y:Prop):Prop:=match v with|.bool b=>sB b x y|_=>False
def dBl (v:Value) (k:Bool->Prop):Prop:=match v with|.bool b=>k b|_=>False
def dBool (v:Value) (k:Bool->Prop):Prop:=dB v (k true) (k false)
def dStr (v:Value) (k:ByteArray->Prop):Prop:=match v with|.string s=>k s|_=>False
def dPtr (v:Value) (k:Option Addr->Prop):Prop:=match v with|.pointer ao=>k ao|_=>False
def dSl (v:Value) (k:Option Addr->Nat->Nat->Prop):Prop:=match v with|.slice a n c=>k a n c|_=>False
def dMap (v:Value) (k:Option Nat->Prop):Prop:=match v with|.map r=>k r|_=>False
def dFn (v:Value) (k:FuncId->Array Value->Array Value->Prop):Prop:=match v with|.func (.func g) a b=>k g a b|_=>False
def wr (kd:IntKind) (n:Int) (k:Int->Prop):Prop:=k (kd.wrap n)
structure jn {α:Type} (k:α) (f:α->Prop):Prop where
 out:f k
def oV (o:Option Value) (k:Value->Prop):Prop:=match o with|some v=>k v|none=>False
def nm (n:Int) (k:Int->Prop):Prop:=k n
def dAgg (v:Value) (k:Array Value->Prop):Prop:=match v with|.agg cs=>k cs|_=>False
def VF :Nat->Type
 |0=>Prop
 |n+1=>Value->VF n
def apl :(n:Nat)->VF n->List Value->Prop
 |0,k,[]=>k
 |n+1,k,v::r=>apl n (k v) r
 |_,_,_=>False
def cur :(n:Nat)->(List Value->Prop)->VF n
 |0,k=>k []
 |n+1,k=>fun v=>cur n fun l=>k (v::l)
theorem apl_cur : ∀ {n:Nat} {k:List Value->Prop} {l:List Value},apl n (cur n k) l->l.length=n/\k l
 |0,_,[],h=>⟨rfl,h⟩
 |0,_,_::_,h=>h.elim
 |_+1,_,[],h=>h.elim
 |n+1,k,v::r,h=>by
  obtain ⟨h1,h2⟩:=apl_cur (n:=n) (k:=fun l=>k (v::l)) (l:=r) h
  exact ⟨by simp [h1],h2⟩
theorem apl_cur_mk : ∀ {n:Nat} {k:List Value->Prop} {l:List Value},l.length=n->k l->apl n (cur n k) l
 |0,_,[],_,h=>h
 |0,_,_::_,h,_=>by simp at h
 |_+1,_,[],h,_=>by simp at h
 |n+1,k,v::r,h,h'=>apl_cur_mk (n:=n) (k:=fun l=>k (v::l)) (l:=r) (by simpa using h) h'
def VFH :Nat->Type
 |0=>Heap->Prop
 |n+1=>Value->VFH n
def aplH :(n:Nat)->VFH n->List Value->Heap->Prop
 |0,k,[],H=>k H
 |n+1,k,v::r,H=>aplH n (k v) r H
 |_,_,_,_=>False
def curH :(n:Nat)->(List Value->Heap->Prop)->VFH n
 |0,k=>k []
 |n+1,k=>fun v=>curH n fun l=>k (v::l)
theorem aplH_cur : ∀ {n:Nat} {k:List Value->Heap->Prop} {l:List Value} {H:Heap},aplH n (curH n k) l H->l.length=n/\k l H
 |0,_,[],_,h=>⟨rfl,h⟩
 |0,_,_::_,_,h=>h.elim
 |_+1,_,[],_,h=>h.elim
 |n+1,k,v::r,H,h=>by
  obtain ⟨h1,h2⟩:=aplH_cur (n:=n) (k:=fun l=>k (v::l)) (l:=r) h
  exact ⟨by simp [h1],h2⟩
theorem aplH_mk : ∀ {n:Nat} {k:List Value->Heap->Prop} {l:List Value} {H:Heap},l.length=n->k l H->aplH n (curH n k) l H
 |0,_,[],_,_,h=>h
 |0,_,_::_,_,h,_=>by simp at h
 |_+1,_,[],_,h,_=>by simp at h
 |n+1,k,v::r,H,h,h'=>aplH_mk (n:=n) (k:=fun l=>k (v::l)) (l:=r) (by simpa using h) h'
def dA (n:Nat) (v:Value) (k:VF n):Prop:=match v with|.agg cs=>apl n k cs.toList|_=>False
def dT (n:Nat) (v:Value) (k:VF n):Prop:=match v with|.tuple cs=>apl n k cs.toList|_=>False
theorem sB_elim {b:Bool} {x y:Prop} (h:sB b x y):(b=true/\x)∨(b=false/\y):=by cases b<;>first|exact .inl ⟨rfl,h⟩|exact .inr ⟨rfl,h⟩
theorem gB_elim {b:Bool} {x:Prop} (h:gB b x):b=true/\x:=by cases b<;>first|exact h.elim|exact ⟨rfl,h⟩
theorem nz_elim {ao:Option Addr} {k:Addr->Prop} (h:nz ao k): ∃a,ao=some a/\k a:=by cases ao<;>first|exact h.elim|exact ⟨_,rfl,h⟩
theorem dInt_elim {kd:IntKind} {v:Value} {k:Int->Prop} (h:dInt kd v k): ∃n,v=.int kd n/\k n:=by
 cases v<;>first|exact h.elim|skip
 rename_i kd' n
 obtain ⟨h1,h2⟩:=gB_elim (show gB (decide (kd'=kd)) (k n) from h)
 exact ⟨n,by rw [of_decide_eq_true h1],h2⟩
theorem dInt'_elim {v:Value} {k:IntKind->Int->Prop} (h:dInt' v k): ∃kd n,v=.int kd n/\k kd n:=by
 cases v<;>first|exact h.elim|exact ⟨_,_,rfl,h⟩
theorem dBool_elim {v:Value} {k:Bool->Prop} (h:dBool v k): ∃b,v=.bool b/\k b:=by
 cases v<;>first|exact h.elim|skip
 rename_i b
 cases b<;>exact ⟨_,rfl,h⟩
theorem dBl_elim {v:Value} {k:Bool->Prop} (h:dBl v k): ∃b,v=.bool b/\k b:=by cases v<;>first|exact h.elim|exact ⟨_,rfl,h⟩
theorem dStr_elim {v:Value} {k:ByteArray->Prop} (h:dStr v k): ∃s,v=.string s/\k s:=by cases v<;>first|exact h.elim|exact ⟨_,rfl,h⟩
theorem dPtr_elim {v:Value} {k:Option Addr->Prop} (h:dPtr v k): ∃a,v=.pointer a/\k a:=by cases v<;>first|exact h.elim|exact ⟨_,rfl,h⟩
theorem dSl_elim {v:Value} {k:Option Addr->Nat->Nat->Prop} (h:dSl v k): ∃a n c,v=.slice a n c/\k a n c:=by cases v<;>first|exact h.elim|exact ⟨_,_,_,rfl,h⟩
theorem dMap_elim {v:Value} {k:Option Nat->Prop} (h:dMap v k): ∃r,v=.map r/\k r:=by cases v<;>first|exact h.elim|exact ⟨_,rfl,h⟩
theorem dFn_elim {v:Value} {k:FuncId->Array Value->Array Value->Prop} (h:dFn v k): ∃g a b,v=.func (.func g) a b/\k g a b:=by
 cases v<;>first|exact h.elim|skip
 rename_i f a b
 cases f<;>first|exact h.elim|exact ⟨_,_,_,rfl,h⟩
theorem dAgg_elim {v:Value} {k:Array Value->Prop} (h:dAgg v k): ∃cs,v=.agg cs/\k cs:=by cases v<;>first|exact h.elim|exact ⟨_,rfl,h⟩
theorem dA_elim {n:Nat} {v:Value} {k:List Value->Prop} (h:dA n v (cur n k)): ∃l:List Value,v=.agg l.toArray/\l.length=n/\k l:=by
 cases v<;>first|exact h.elim|skip
 rename_i cs
 obtain ⟨h1,h2⟩:=apl_cur (show apl n (cur n k) cs.toList from h)
 exact ⟨cs.toList,by simp,h1,h2⟩
theorem dT_elim {n:Nat} {v:Value} {k:List Value->Prop} (h:dT n v (cur n k)): ∃l:List Value,v=.tuple l.toArray/\l.length=n/\k l:=by
 cases v<;>first|exact h.elim|skip
 rename_i cs
 obtain ⟨h1,h2⟩:=apl_cur (show apl n (cur n k) cs.toList from h)
 exact ⟨cs.toList,by simp,h1,h2⟩
theorem Outcome.mono2 {α:Type} {Q Q':α->Heap->Prop} {E E':Value->Heap->Prop} {w:World} {r:Result α} (hq: ∀a H,Q a H->Q' a H) (he: ∀v H,E v H->E' v H) (h:Outcome Q E w r):Outcome Q' E' w r:=by
 cases r with
 |ok a w'=>exact ⟨hq _ _ h.1,h.2⟩
 |halt x w'=>cases x<;>first|exact h.elim|exact ⟨he _ _ h.1,h.2⟩
structure semW {α:Type} (P:Program) (s:Sem α) (E:List PanicEntry->Heap->Prop) (H:Heap) (K:α->Heap->Prop):Prop where
 run: ∀w:World,w.heap=H->Outcome K (fun v H'=>E [{ v,recovered:=false }] H') w (s.run P w)
structure Sp (α:Type) where
 run:(α->Heap->Prop)->(List PanicEntry->Heap->Prop)->Heap->Prop
 mono: ∀ {K K':α->Heap->Prop} {E E':List PanicEntry->Heap->Prop} {H:Heap},(∀a H,K a H->K' a H)->(∀c H,E c H->E' c H)->run K E H->run K' E' H
namespace Sp
def pure {α:Type} (a:α):Sp α:=⟨fun K _ H=>K a H,fun hk _ h=>hk _ _ h⟩
def bind {α β:Type} (x:Sp α) (f:α->Sp β):Sp β:=
 ⟨fun K E H=>x.run (fun a H'=>(f a).run K E H') E H,fun hk he h=>x.mono (fun _ _ h'=>(f _).mono hk he h') he h⟩
def fail {α:Type}:Sp α:=⟨fun _ _ _=>False,fun _ _ h=>h⟩
def sem {α:Type} (P:Program) (s:Sem α):Sp α:=⟨fun K E H=>semW P s E H fun v H'=>K v H',fun hk he h=>⟨fun w hw=>(h.run w hw).mono2 hk (fun _ _ h'=>he _ _ h')⟩⟩
def new (o:Obj):Sp Nat:=⟨fun K _ H=>al H o fun r H'=>K r H',fun hk _ h=>hk _ _ h⟩
def load (a:Addr):Sp Value:=⟨fun K _ H=>ld H a fun v=>K v H,fun {K K' _ _ H} hk _ h=>by
 simp only [ld] at h ⊢;cases hc:cellH H a with
 |none=>rw [hc] at h;exact h.elim
 |some v=>rw [hc] at h;exact hk _ _ h⟩
def store (a:Addr) (v:Value):Sp Unit:=⟨fun K _ H=>st H a v fun H'=>K () H',fun hk _ h=>⟨h.1,hk _ _ h.2⟩⟩
def split (b:Bool):Sp Bool:=⟨fun K _ H=>sB b (K true H) (K false H),fun hk _ h=>by cases b<;>exact hk _ _ h⟩
def guard (b:Bool):Sp Unit:=⟨fun K _ H=>gB b (K () H),fun hk _ h=>by cases b<;>first|exact h|exact hk _ _ h⟩
def asking (p:Prop):Sp Unit:=⟨fun K _ H=>ask p (K () H),fun hk _ h=>⟨h.1,hk _ _ h.2⟩⟩
def nonNil (ao:Option Addr):Sp Addr:=⟨fun K _ H=>nz ao fun a=>K a H,fun hk _ h=>by cases ao<;>first|exact h|exact hk _ _ h⟩
def int (kd:IntKind) (v:Value):Sp Int:=⟨fun K _ H=>dInt kd v fun n=>K n H,fun hk _ h=>by
 obtain ⟨n,rfl,h'⟩:=dInt_elim h
 show gB (decide (kd=kd)) _
 rw [decide_eq_true rfl];exact hk _ _ h'⟩
def int' (v:Value):Sp (IntKind×Int):=⟨fun K _ H=>dInt' v fun kd n=>K (kd,n) H,fun hk _ h=>by
 obtain ⟨kd,n,rfl,h'⟩:=dInt'_elim h;exact hk _ _ h'⟩
def bool (v:Value):Sp Bool:=⟨fun K _ H=>dBool v fun b=>K b H,fun hk _ h=>by
 obtain ⟨b,rfl,h'⟩:=dBool_elim h;cases b<;>exact hk _ _ h'⟩
def bool' (v:Value):Sp Bool:=⟨fun K _ H=>dBl v fun b=>K b H,fun hk _ h=>by
 obtain ⟨b,rfl,h'⟩:=dBl_elim h;exact hk _ _ h'⟩
def str (v:Value):Sp ByteArray:=⟨fun K _ H=>dStr v fun s=>K s H,fun hk _ h=>by obtain ⟨s,rfl,h'⟩:=dStr_elim h;exact hk _ _ h'⟩
def ptr (v:Value):Sp (Option Addr):=⟨fun K _ H=>dPtr v fun s=>K s H,fun hk _ h=>by obtain ⟨s,rfl,h'⟩:=dPtr_elim h;exact hk _ _ h'⟩
def slc (v:Value):Sp (Option Addr×Nat×Nat):=⟨fun K _ H=>dSl v fun a n c=>K (a,n,c) H,fun hk _ h=>by obtain ⟨a,n,c,rfl,h'⟩:=dSl_elim h;exact hk _ _ h'⟩
def mapv (v:Value):Sp (Option Nat):=⟨fun K _ H=>dMap v fun s=>K s H,fun hk _ h=>by obtain ⟨s,rfl,h'⟩:=dMap_elim h;exact hk _ _ h'⟩
def fn (v:Value):Sp (FuncId×Array Value×Array Value):=⟨fun K _ H=>dFn v fun g a b=>K (g,a,b) H,fun hk _ h=>by obtain ⟨g,a,b,rfl,h'⟩:=dFn_elim h;exact hk _ _ h'⟩
def wr (kd:IntKind) (n:Int):Sp Int:=⟨fun K _ H=>E.wr kd n fun m=>K m H,fun hk _ h=>hk _ _ h⟩
def nm (n:Int):Sp Int:=⟨fun K _ H=>E.nm n fun m=>K m H,fun hk _ h=>hk _ _ h⟩
def opt (o:Option Value):Sp Value:=⟨fun K _ H=>oV o fun v=>K v H,fun hk _ h=>by cases o<;>first|exact h.elim|exact hk _ _ h⟩
def agg (v:Value):Sp (Array Value):=⟨fun K _ H=>dAgg v fun s=>K s H,fun hk _ h=>by obtain ⟨s,rfl,h'⟩:=dAgg_elim h;exact hk _ _ h'⟩
def aggN (n:Nat) (v:Value):Sp (List Value):=⟨fun K _ H=>dA n v (cur n fun l=>K l H),fun hk _ h=>by
 obtain ⟨l,rfl,h1,h2⟩:=dA_elim h
 exact apl_cur_mk (by simpa using h1) (by simpa using hk _ _ h2)⟩
def tupN (n:Nat) (v:Value):Sp (List Value):=⟨fun K _ H=>dT n v (cur n fun l=>K l H),fun hk _ h=>by
 obtain ⟨l,rfl,h1,h2⟩:=dT_elim h
 exact apl_cur_mk (by simpa using h1) (by simpa using hk _ _ h2)⟩
def panic {α:Type} (v:Value):Sp α:=⟨fun _ E H=>E [{ v,recovered:=false }] H,fun _ he h=>he _ _ h⟩
def retK (K:Value->Heap->Prop) (E:List PanicEntry->Heap->Prop) (e:Ending) (H:Heap):Prop:=
 match e with
 |.returned v=>K v H
 |.panicked c=>E c H
 |.outgrown=>False
def call (P:Program) (f:FuncId) (args:Array Value):Sp Value:=⟨fun K E H=>HCalls P f args H (retK K E),fun hk he h=>h.mono fun e H' h'=>by
 cases e<;>first|exact h'.elim|exact hk _ _ h'|exact he _ _ h'⟩
end Sp
def destr1 (P:Program) (t:TypeId) (v:Value):Sp Value:=
 match P.underlying t with
 |some (.int kd)=>(Sp.int kd v).bind fun n=>.pure (.int kd n)
 |some .bool=>(Sp.bool' v).bind fun b=>.pure (.bool b)
 |some .string=>(Sp.str v).bind fun s=>.pure (.string s)
 |some (.pointer _)=>(Sp.ptr v).bind fun a=>.pure (.pointer a)
 |some (.slice _)=>(Sp.slc v).bind fun a=>.pure (.slice a.1 a.2.1 a.2.2)
 |some (.map _ _)=>(Sp.mapv v).bind fun a=>.pure (.map a)
 |some (.struct _)=>
  match P.info? t with
  |some i=>match Nat.ble i.size 64 with
   |true=>(Sp.aggN i.size v).bind fun l=>.pure (.agg l.toArray)
   |false=>(Sp.agg v).bind fun a=>.pure (.agg a)
  |none=>.fail
 |_=>.pure v
def destr2 (P:Program) (t:TypeId) (v:Value):Sp Value:=
 match P.underlying t with
 |some .bool=>(Sp.bool' v).bind fun b=>.pure (.bool b)
 |_=>destr1 P t v
def destrs (P:Program):List TypeId->List Value->Sp (List Value)
 |[],[]=>.pure []
 |t::ts,v::vs=>(destr2 P t v).bind fun u=>(destrs P ts vs).bind fun us=>.pure (u::us)
 |_,_=>.fail
def destr (P:Program) (t:TypeId) (v:Value):Sp Value:=
 match P.underlying t with
 |some (.tuple ts)=>
  match ts.toList with
  |[]=>.pure v
  |l=>(Sp.tupN l.length v).bind fun vs=>(destrs P l vs).bind fun us=>.pure (.tuple us.toArray)
 |_=>destr1 P t v
theorem destr1_elim {P:Program} {t:TypeId} {v:Value} {K:Value->Heap->Prop} {E:List PanicEntry->Heap->Prop} {H:Heap} (h:(destr1 P t v).run K E H):K v H:=by
 unfold destr1 at h
 split at h
 ·obtain ⟨n,rfl,h'⟩:=dInt_elim h;exact h'
 ·obtain ⟨n,rfl,h'⟩:=dBl_elim (k:=fun b=>K (.bool b) H) h;exact h'
 ·obtain ⟨n,rfl,h'⟩:=dStr_elim h;exact h'
 ·obtain ⟨n,rfl,h'⟩:=dPtr_elim h;exact h'
 ·obtain ⟨a,n,c,rfl,h'⟩:=dSl_elim h;exact h'
 ·obtain ⟨n,rfl,h'⟩:=dMap_elim h;exact h'
 ·split at h
  ·split at h
   ·obtain ⟨l,rfl,_,h'⟩:=dA_elim h;exact h'
   obtain ⟨n,rfl,h'⟩:=dAgg_elim h;exact h'
  exact h.elim
 exact h
theorem destr2_elim {P:Program} {t:TypeId} {v:Value} {K:Value->Heap->Prop} {E:List PanicEntry->Heap->Prop} {H:Heap} (h:(destr2 P t v).run K E H):K v H:=by
 unfold destr2 at h
 split at h
 ·obtain ⟨n,rfl,h'⟩:=dBl_elim (k:=fun b=>K (.bool b) H) h;exact h'
 exact destr1_elim h
theorem destrs_elim {P:Program}: ∀ {ts:List TypeId} {vs:List Value} {K:List Value->Heap->Prop} {E:List PanicEntry->Heap->Prop} {H:Heap},(destrs P ts vs).run K E H->K vs H
 |[],[],_,_,_,h=>h
 |[],_::_,_,_,_,h=>h.elim
 |_::_,[],_,_,_,h=>h.elim
 |t::ts,v::vs,K,E,H,h=>by
  have h1:=destr2_elim (P:=P) (t:=t) (v:=v) (K:=fun u H=>((destrs P ts vs).bind fun us=>.pure (u::us)).run K E H) (E:=E) (H:=H) h
  exact destrs_elim (K:=fun us H=>K (v::us) H) h1
theorem destr_elim {P:Program} {t:TypeId} {v:Value} {K:Value->Heap->Prop} {E:List PanicEntry->Heap->Prop} {H:Heap} (h:(destr P t v).run K E H):K v H:=by
 unfold destr at h
 split at h
 ·split at h
  ·exact h
  obtain ⟨l,rfl,_,h⟩:=dT_elim h
  exact destrs_elim (K:=fun us H=>K (.tuple us.toArray) H) h
 exact destr1_elim h
end Go.Proofs.YtkaikaodhegmhaaGreat.E
namespace Go.Proofs.YtkaikaodhegmhaaGreat.E
open Go
set_option linter.unusedVariables false
def infoS (P:Program) (t:TypeId):Sp TypeInfo:=match P.info? t with|some i=>.pure i|none=>.fail
def zeroS (P:Program) (t:TypeId):Sp Value:=(infoS P t).bind fun i=>match i.zero with|some v=>.pure v|none=>.fail
def aggOf (P:Program) (t:TypeId):Sp Bool:=match P.underlying t with|some (.struct _)=>.pure true|some (.array _ _)=>.pure true|some _=>.pure false|none=>.fail
def ldsS (a:Addr) (i:Nat):Nat->Array Value->Sp (Array Value)
 |0,acc=>.pure acc
 |n+1,acc=>(Sp.load (a.add i)).bind fun v=>ldsS a (i+1) n (acc.push v)
def stsS (a:Addr):List Value->Nat->Sp Unit
 |[],_=>.pure ()
 |v::rest,i=>(Sp.store (a.add i) v).bind fun _=>stsS a rest (i+1)
def loadS (P:Program) (t:TypeId) (a:Addr):Sp Value:=
 (aggOf P t).bind fun b=>match b with
  |true=>(infoS P t).bind fun i=>(ldsS a 0 i.size #[]).bind fun cs=>.pure (.agg cs)
  |false=>(Sp.load a).bind fun v=>destr P t v
def storeS (P:Program) (t:TypeId) (a:Addr) (v:Value):Sp Unit:=
 (infoS P t).bind fun i=>(Sp.guard (Nat.beq v.cells.size i.size)).bind fun _=>stsS a v.cells.toList 0
def addrS (v:Value):Sp Addr:=(Sp.ptr v).bind fun ao=>Sp.nonNil ao
def nilS (v:Value):Sp Value:=
 match v with
 |.pointer ao=>(Sp.nonNil ao).bind fun a=>.pure (.pointer (some a))
 |.func (.func f) x y=>.pure (.func (.func f) x y)
 |.func (.yield f) x y=>.pure (.func (.yield f) x y)
 |.iface t x=>.pure (.iface t x)
 |_=>.fail
def cmpB (op:BinOp) (x y:Int):Option Bool:=
 match op with
 |.eql=>some (x==y)
 |.neq=>some (x != y)
 |.lss=>some (decide (x<y))
 |.leq=>some (decide (x<=y))
 |.gtr=>some (decide (x>y))
 |.geq=>some (decide (x>=y))
 |_=>none
def bitsV (op:BinOp) (k:IntKind) (x y:Int):Int:=
 let a:=BitVec.ofInt k.bits x
 let b:=BitVec.ofInt k.bits y
 match op with
 |.and=>k.wrap (a&&& b).toNat
 |.or=>k.wrap (a|||b).toNat
 |.xor=>k.wrap (a ^^^ b).toNat
 |_=>k.wrap (a&&& ~~~b).toNat
def shV (op:BinOp) (k:IntKind) (x y:Int):Int:=
 match op with
 |.shl=>k.wrap (x*2^min y.toNat k.bits)
 |_=>x.fdiv (2^min y.toNat k.bits)
def splitS (b:Bool):Sp Value:=.pure (.bool b)
def wrS (k:IntKind) (n:Int):Sp Value:=(Sp.wr k n).bind fun m=>.pure (.int k m)
def nmS (k:IntKind) (n:Int):Sp Value:=(Sp.nm n).bind fun m=>.pure (.int k m)
def intS (op:BinOp) (k:IntKind) (a b:Int):Sp Value:=
 match op with
 |.add=>wrS k (a+b)
 |.sub=>wrS k (a - b)
 |.mul=>wrS k (a*b)
 |.quo=>(Sp.asking (b≠0)).bind fun _=>wrS k (a.tdiv b)
 |.rem=>(Sp.asking (b≠0)).bind fun _=>nmS k (a.tmod b)
 |.and=>nmS k (bitsV .and k a b)
 |.or=>nmS k (bitsV .or k a b)
 |.xor=>nmS k (bitsV .xor k a b)
 |.andNot=>nmS k (bitsV .andNot k a b)
 |op=>match cmpB op a b with|some c=>splitS c|none=>.fail
def strS (op:BinOp) (x y:ByteArray):Sp Value:=
 match op with
 |.add=>(Sp.asking (((x.size+y.size:Nat):Int)<=IntKind.i64.max)).bind fun _=>.pure (.string (x++y))
 |.eql=>splitS (x.toList==y.toList)
 |.neq=>splitS (!(x.toList==y.toList))
 |.lss=>splitS (Op.bytesLess x.toList y.toList)
 |.leq=>splitS (Op.bytesLess x.toList y.toList||x.toList==y.toList)
 |.gtr=>splitS (!(Op.bytesLess x.toList y.toList||x.toList==y.toList))
 |.geq=>splitS (!(Op.bytesLess x.toList y.toList))
 |_=>.fail
def eqSem (op:BinOp) (t:TypeId) (x y:Operand) (a b:Value):Sem Value:=do eqGuard op t x y a b;binOp op t a b
def eqS (P:Program) (op:BinOp) (t:TypeId) (x y:Operand) (a b:Value):Sp Value:=
 (Sp.sem P (eqSem op t x y a b)).bind fun v=>(Sp.bool' v).bind fun b=>.pure (.bool b)
def eqV (P:Program) (t:TypeId) (a b:Value):Option Bool:=
 match P.underlying t with
 |some .bool=>match a,b with
  |.bool x,.bool y=>some (x==y)
  |_,_=>none
 |some (.pointer _)=>match a,b with
  |.pointer p,.pointer none=>some p.isNone
  |.pointer none,.pointer q=>some q.isNone
  |_,_=>none
 |some (.slice _)=>match a,b with
  |.slice p _ _,.slice none _ _=>some p.isNone
  |.slice none _ _,.slice q _ _=>some q.isNone
  |_,_=>none
 |some (.map _ _)=>match a,b with
  |.map p,.map none=>some p.isNone
  |.map none,.map q=>some q.isNone
  |_,_=>none
 |_=>none
def eqP (P:Program) (op:BinOp) (t:TypeId) (x y:Operand) (a b:Value):Sp Value:=
 match op with
 |.eql=>match eqV P t a b with
  |some c=>splitS c
  |none=>eqS P .eql t x y a b
 |.neq=>match eqV P t a b with
  |some c=>splitS (!c)
  |none=>eqS P .neq t x y a b
 |op=>eqS P op t x y a b
def binS (P:Program) (op:BinOp) (t:TypeId) (x y:Operand) (a b:Value):Sp Value:=
 match op,a,b with
 |.shl,.int k m,.int _ n=>(Sp.asking (0<=n)).bind fun _=>nmS k (shV .shl k m n)
 |.shr,.int k m,.int _ n=>(Sp.asking (0<=n)).bind fun _=>nmS k (shV .shr k m n)
 |op,.int k m,.int k' n=>(Sp.guard (decide (k=k'))).bind fun _=>intS op k m n
 |op,.string m,.string n=>strS op m n
 |op,a,b=>eqP P op t x y a b
def nextK (P:Program) (K:Value->Heap->Prop) (E:List PanicEntry->Heap->Prop):Next->Heap->Prop
 |.value v,H=>K v H
 |.skip,H=>K undef H
 |.enter f args,H=>HCalls P f args H (Sp.retK K E)
 |_,_=>False
def Does (P:Program) (s:Sem Next) (x:Sp Value):Prop:=
 ∀(K:Value->Heap->Prop) (E:List PanicEntry->Heap->Prop) (w:World),x.run K E w.heap->Outcome (nextK P K E) (fun v H'=>E [{ v,recovered:=false }] H') w (s.run P w)
def Gives {α:Type} (P:Program) (s:Sem α) (x:Sp α):Prop:=
 ∀(K:α->Heap->Prop) (E:List PanicEntry->Heap->Prop) (w:World),x.run K E w.heap->Outcome K (fun v H'=>E [{ v,recovered:=false }] H') w (s.run P w)
theorem outcome_bind {α β:Type} {P:Program} {s:Sem α} {f:α->Sem β} {K:β->Heap->Prop} {E:Value->Heap->Prop} {w:World}
  (h:Outcome (fun a H'=>∀w',w'.heap=H'->Outcome K E w' ((f a).run P w')) E w (s.run P w)):Outcome K E w ((s >>= f).run P w):=by
 rw [Sem.run_bind]
 cases hr:s.run P w with
 |ok a w'=>rw [hr] at h;exact Outcome.of_like h.2 (h.1 w' rfl)
 |halt x w'=>rw [hr] at h;cases x<;>first|exact h.elim|exact h
theorem Outcome.mono {α:Type} {Q Q':α->Heap->Prop} {E E':Value->Heap->Prop} {w:World} {r:Result α} (h:Outcome Q E w r) (hq: ∀a H,Q a H->Q' a H) (he: ∀v H,E v H->E' v H):Outcome Q' E' w r:=by
 cases r with
 |ok a w'=>exact ⟨hq _ _ h.1,h.2⟩
 |halt x w'=>cases x<;>first|exact h.elim|exact ⟨he _ _ h.1,h.2⟩
theorem Gives.does {P:Program} {s:Sem Value} {x:Sp Value} (h:Gives P s x):Does P (do pure (.value (←s))) x:=
 fun K E w hx=>outcome_bind ((h K E w hx).mono (fun a H' h' w' hw=>⟨by rw [hw];exact h',Like.refl w'⟩) (fun _ _ h'=>h'))
theorem Gives.skips {P:Program} {s:Sem Unit} {x:Sp Unit} (h:Gives P s x):Does P (do s;pure .skip) (x.bind fun _=>.pure undef):=
 fun K E w hx=>outcome_bind ((h (fun _ H=>K undef H) E w hx).mono (fun a H' h' w' hw=>⟨by rw [hw];exact h',Like.refl w'⟩) (fun _ _ h'=>h'))
theorem Gives.pure {α:Type} {P:Program} (a:α):Gives P (Pure.pure a) (.pure a):=fun _ _ w h=>⟨h,Like.refl w⟩
theorem Gives.bind {α β:Type} {P:Program} {s:Sem α} {x:Sp α} {f:α->Sem β} {g:α->Sp β} (h:Gives P s x) (hf: ∀a,Gives P (f a) (g a)):Gives P (s >>= f) (x.bind g):=
 fun K E w hx=>outcome_bind ((h (fun a H'=>(g a).run K E H') E w hx).mono (fun a H' h' w' hw=>hf a K E w' (by rw [hw];exact h')) (fun _ _ h'=>h'))
theorem Gives.sem {α:Type} {P:Program} (s:Sem α):Gives P s (Sp.sem P s):=fun _ _ w h=>semW.run h w rfl
theorem Gives.fail {α:Type} {P:Program} (s:Sem α):Gives P s .fail:=fun _ _ _ h=>h.elim
theorem Gives.of_run {α:Type} {P:Program} {s:Sem α} {a:α} (h: ∀w,s.run P w=.ok a w):Gives P s (.pure a):=fun K E w hx=>by rw [h w];exact ⟨hx,Like.refl w⟩
theorem Gives.guard {α:Type} {P:Program} {s:Sem α} {b:Bool} {g:Unit->Sp α} (h:b=true->Gives P s (g ())):Gives P s ((Sp.guard b).bind g):=fun K E w hx=>by
 obtain ⟨h1,h2⟩:=gB_elim (show gB b ((g ()).run K E w.heap) from hx)
 exact h h1 K E w h2
theorem Gives.asking {α:Type} {P:Program} {s:Sem α} {p:Prop} {g:Unit->Sp α} (h:p->Gives P s (g ())):Gives P s ((Sp.asking p).bind g):=fun K E w hx=>h hx.1 K E w hx.2
theorem Gives.split {α:Type} {P:Program} {s:Bool->Sem α} {b:Bool} {g:Bool->Sp α} (h: ∀c,Gives P (s c) (g c)):Gives P (s b) ((Sp.split b).bind g):=fun K E w hx=>by
 rcases sB_elim (show sB b ((g true).run K E w.heap) ((g false).run K E w.heap) from hx) with ⟨rfl,h'⟩|⟨rfl,h'⟩
 ·exact h true K E w h'
 exact h false K E w h'
theorem Gives.int' {α:Type} {P:Program} {s:Sem α} {v:Value} {g:IntKind×Int->Sp α} (h: ∀k n,v=.int k n->Gives P s (g (k,n))):Gives P s ((Sp.int' v).bind g):=fun K E w hx=>by
 obtain ⟨k,n,hv,h'⟩:=dInt'_elim (k:=fun kd n=>(g (kd,n)).run K E w.heap) hx
 exact h k n hv K E w h'
theorem Gives.str {α:Type} {P:Program} {s:Sem α} {v:Value} {g:ByteArray->Sp α} (h: ∀x,v=.string x->Gives P s (g x)):Gives P s ((Sp.str v).bind g):=fun K E w hx=>by
 obtain ⟨x,hv,h'⟩:=dStr_elim (k:=fun x=>(g x).run K E w.heap) hx
 exact h x hv K E w h'
theorem Gives.agg {α:Type} {P:Program} {s:Sem α} {v:Value} {g:Array Value->Sp α} (h: ∀x,v=.agg x->Gives P s (g x)):Gives P s ((Sp.agg v).bind g):=fun K E w hx=>by
 obtain ⟨x,hv,h'⟩:=dAgg_elim (k:=fun x=>(g x).run K E w.heap) hx
 exact h x hv K E w h'
theorem Gives.slc {α:Type} {P:Program} {s:Sem α} {v:Value} {g:Option Addr×Nat×Nat->Sp α} (h: ∀a n c,v=.slice a n c->Gives P s (g (a,n,c))):Gives P s ((Sp.slc v).bind g):=fun K E w hx=>by
 obtain ⟨a,n,c,hv,h'⟩:=dSl_elim (k:=fun a n c=>(g (a,n,c)).run K E w.heap) hx
 exact h a n c hv K E w h'
theorem Gives.bool {α:Type} {P:Program} {s:Sem α} {v:Value} {g:Bool->Sp α} (h: ∀x,v=.bool x->Gives P s (g x)):Gives P s ((Sp.bool v).bind g):=fun K E w hx=>by
 obtain ⟨x,hv,h'⟩:=dBool_elim (k:=fun x=>(g x).run K E w.heap) hx
 exact h x hv K E w h'
theorem Gives.nonNil {α:Type} {P:Program} {s:Sem α} {v:Option Addr} {g:Addr->Sp α} (h: ∀a,v=some a->Gives P s (g a)):Gives P s ((Sp.nonNil v).bind g):=fun K E w hx=>by
 obtain ⟨a,hv,h'⟩:=nz_elim (k:=fun a=>(g a).run K E w.heap) hx
 exact h a hv K E w h'
theorem Gives.info {α:Type} {P:Program} {s:Sem α} {t:TypeId} {g:TypeInfo->Sp α} (h: ∀i,P.info? t=some i->Gives P s (g i)):Gives P s ((infoS P t).bind g):=fun K E w hx=>by
 unfold infoS at hx
 cases hi:P.info? t with
 |none=>rw [hi] at hx;exact hx.elim
 |some i=>rw [hi] at hx;exact h i hi K E w hx
theorem Gives.destr {P:Program} {s:Sem Value} {x:Sp Value} {t:TypeId} (h:Gives P s x):Gives P s (x.bind fun v=>destr P t v):=
 fun K E w hx=>h K E w (x.mono (fun _ _ h'=>destr_elim h') (fun _ _ h'=>h') hx)
def Gq {α:Type} (b:Bool) (P:Program) (s:Sem α) (x:Sp α):Prop:=
 ∀(K:α->Heap->Prop) (E:List PanicEntry->Heap->Prop) (H:Heap),x.run K E H->∃v,K v H/\∀w:World,(b=true->w.heap=H)->s.run P w=.ok v w
theorem Gq.gives {α:Type} {b:Bool} {P:Program} {s:Sem α} {x:Sp α} (h:Gq b P s x):Gives P s x:=fun K E w hx=>by
 obtain ⟨v,hk,hr⟩:=h K E w.heap hx
 rw [hr w fun _=>rfl];exact ⟨hk,Like.refl w⟩
theorem Gq.up {α:Type} {P:Program} {s:Sem α} {x:Sp α} (h:Gq false P s x):Gq true P s x:=fun K E H hx=>by
 obtain ⟨v,hk,hr⟩:=h K E H hx
 exact ⟨v,hk,fun w _=>hr w (by simp)⟩
section
variable {α β:Type} {b:Bool} {P:Program} {s:Sem α}
theorem Gq.pure (a:α):Gq b P (Pure.pure a) (.pure a):=fun _ _ _ h=>⟨a,h,fun _ _=>rfl⟩
theorem Gq.bind {x:Sp α} {f:α->Sem β} {g:α->Sp β} (h:Gq b P s x) (hf: ∀a,Gq b P (f a) (g a)):Gq b P (s >>= f) (x.bind g):=fun K E H hx=>by
 obtain ⟨a,ha,hr⟩:=h (fun a H'=>(g a).run K E H') E H hx
 obtain ⟨v,hv,hr'⟩:=hf a K E H ha
 exact ⟨v,hv,fun w hw=>by rw [Sem.run_bind,hr w hw,Result.andThen_ok,hr' w hw]⟩
theorem Gq.fail (s:Sem α):Gq b P s .fail:=fun _ _ _ h=>h.elim
theorem Gq.of_run {a:α} (h: ∀w,s.run P w=.ok a w):Gq b P s (.pure a):=fun K E H hx=>⟨a,hx,fun w _=>h w⟩
theorem Gq.guard {c:Bool} {g:Unit->Sp α} (h:c=true->Gq b P s (g ())):Gq b P s ((Sp.guard c).bind g):=fun K E H hx=>by
 obtain ⟨h1,h2⟩:=gB_elim (show gB c ((g ()).run K E H) from hx)
 exact h h1 K E H h2
theorem Gq.asking {p:Prop} {g:Unit->Sp α} (h:p->Gq b P s (g ())):Gq b P s ((Sp.asking p).bind g):=fun K E H hx=>h hx.1 K E H hx.2
theorem Gq.split {s:Bool->Sem α} {c:Bool} {g:Bool->Sp α} (h: ∀c,Gq b P (s c) (g c)):Gq b P (s c) ((Sp.split c).bind g):=fun K E H hx=>by
 rcases sB_elim (show sB c ((g true).run K E H) ((g false).run K E H) from hx) with ⟨rfl,h'⟩|⟨rfl,h'⟩
 ·exact h true K E H h'
 exact h false K E H h'
theorem Gq.int' {v:Value} {g:IntKind×Int->Sp α} (h: ∀k n,v=.int k n->Gq b P s (g (k,n))):Gq b P s ((Sp.int' v).bind g):=fun K E H hx=>by
 obtain ⟨k,n,hv,h'⟩:=dInt'_elim (k:=fun kd n=>(g (kd,n)).run K E H) hx
 exact h k n hv K E H h'
theorem Gq.str {v:Value} {g:ByteArray->Sp α} (h: ∀x,v=.string x->Gq b P s (g x)):Gq b P s ((Sp.str v).bind g):=fun K E H hx=>by
 obtain ⟨x,hv,h'⟩:=dStr_elim (k:=fun x=>(g x).run K E H) hx
 exact h x hv K E H h'
theorem Gq.agg {v:Value} {g:Array Value->Sp α} (h: ∀x,v=.agg x->Gq b P s (g x)):Gq b P s ((Sp.agg v).bind g):=fun K E H hx=>by
 obtain ⟨x,hv,h'⟩:=dAgg_elim (k:=fun x=>(g x).run K E H) hx
 exact h x hv K E H h'
theorem Gq.slc {v:Value} {g:Option Addr×Nat×Nat->Sp α} (h: ∀a n c,v=.slice a n c->Gq b P s (g (a,n,c))):Gq b P s ((Sp.slc v).bind g):=fun K E H hx=>by
 obtain ⟨a,n,c,hv,h'⟩:=dSl_elim (k:=fun a n c=>(g (a,n,c)).run K E H) hx
 exact h a n c hv K E H h'
theorem Gq.bool {v:Value} {g:Bool->Sp α} (h: ∀x,v=.bool x->Gq b P s (g x)):Gq b P s ((Sp.bool v).bind g):=fun K E H hx=>by
 obtain ⟨x,hv,h'⟩:=dBool_elim (k:=fun x=>(g x).run K E H) hx
 exact h x hv K E H h'
theorem Gq.nonNil {v:Option Addr} {g:Addr->Sp α} (h: ∀a,v=some a->Gq b P s (g a)):Gq b P s ((Sp.nonNil v).bind g):=fun K E H hx=>by
 obtain ⟨a,hv,h'⟩:=nz_elim (k:=fun a=>(g a).run K E H) hx
 exact h a hv K E H h'
theorem Gq.info {t:TypeId} {g:TypeInfo->Sp α} (h: ∀i,P.info? t=some i->Gq b P s (g i)):Gq b P s ((infoS P t).bind g):=fun K E H hx=>by
 unfold infoS at hx
 cases hi:P.info? t with
 |none=>rw [hi] at hx;exact hx.elim
 |some i=>rw [hi] at hx;exact h i hi K E H hx
theorem Gq.destr {s:Sem Value} {x:Sp Value} {t:TypeId} (h:Gq b P s x):Gq b P s (x.bind fun v=>destr P t v):=
 fun K E H hx=>h K E H (x.mono (fun _ _ h'=>destr_elim h') (fun _ _ h'=>h') hx)
theorem Gq.addr {v:Value} {g:Addr->Sp α} (h: ∀a,v=.pointer (some a)->Gq b P s (g a)):Gq b P s ((addrS v).bind g):=fun K E H hx=>by
 obtain ⟨ao,hv,h1⟩:=dPtr_elim (k:=fun ao=>nz ao fun a=>(g a).run K E H) hx
 obtain ⟨a,rfl,h2⟩:=nz_elim h1
 exact h a hv K E H h2
end
theorem run_typeInfo {P:Program} {t:TypeId} {i:TypeInfo} (h:P.info? t=some i) (w:World):(typeInfo t).run P w=.ok i w:=by
 simp [typeInfo,h]
theorem run_under {P:Program} {t:TypeId} {d:TypeDesc} (h:P.underlying t=some d) (w:World):(underlying t).run P w=.ok d w:=by
 simp [underlying,h]
theorem gives_info {b:Bool} (P:Program) (t:TypeId):Gq b P (typeInfo t) (infoS P t):=fun K E H hx=>by
 unfold infoS at hx
 cases hi:P.info? t with
 |none=>rw [hi] at hx;exact hx.elim
 |some i=>rw [hi] at hx;exact ⟨i,hx,fun w _=>run_typeInfo hi w⟩
theorem gives_size {b:Bool} (P:Program) (t:TypeId):Gq b P (sizeOf t) ((infoS P t).bind fun i=>.pure i.size):=(gives_info P t).bind fun _=>.pure _
theorem gives_zero {b:Bool} (P:Program) (t:TypeId):Gq b P (zeroValue t) (zeroS P t):=(gives_info P t).bind fun i=>by
 cases i.zero with
 |none=>exact .fail _
 |some v=>exact .pure _
theorem gives_underlying {α:Type} {b:Bool} (P:Program) (t:TypeId) (f:TypeDesc->Sem α) (x:Sp α) (h: ∀d,P.underlying t=some d->Gq b P (f d) x) (hn:P.underlying t=none->∀K E H,¬x.run K E H):
  Gq b P (underlying t >>= f) x:=fun K E H hx=>by
 cases hd:P.underlying t with
 |none=>exact (hn hd K E _ hx).elim
 |some d=>
  obtain ⟨v,hv,hr⟩:=h d hd K E H hx
  exact ⟨v,hv,fun w hw=>by rw [Sem.run_bind,run_under hd];exact hr w hw⟩
theorem gives_agg {b:Bool} (P:Program) (t:TypeId):Gq b P (isAgg t) (aggOf P t):=by
 unfold isAgg aggOf
 refine gives_underlying P t _ _ (fun d hd=>?_) (fun hd=>?_)
 ·rw [hd];cases d<;>exact .pure _
 rw [hd];exact fun _ _ _ h=>h
theorem gives_load1 (P:Program) (a:Addr):Gq true P (load a) (Sp.load a):=fun K _ H h=>by
 have h:ld H a fun v=>K v H:=h
 unfold ld at h
 cases hc:cellH H a with
 |none=>rw [hc] at h;exact h.elim
 |some v=>
  rw [hc] at h
  exact ⟨v,h,fun w hw=>by
   have:w.cell? a=some v:=by rw [cell_eq,hw rfl];exact hc
   simp [load,Sem.run,this]⟩
theorem gives_store1 (P:Program) (a:Addr) (v:Value):Gives P (store a v) (Sp.store a v):=fun K _ w h=>wpH_run (P:=P) (store a v) (Q:=K) w h
theorem gives_loads (P:Program) (a:Addr): ∀(n i:Nat) (acc:Array Value),Gq true P (loadCellsFrom a i n acc) (ldsS a i n acc)
 |0,_,acc=>.pure acc
 |n+1,i,acc=>Gq.bind (s:=load (a.add i)) (x:=Sp.load (a.add i)) (gives_load1 P _) fun v=>gives_loads P a n (i+1) (acc.push v)
theorem gives_stores (P:Program) (a:Addr): ∀(vs:List Value) (i:Nat),Gives P (storeCells a vs i) (stsS a vs i)
 |[],_=>.pure ()
 |v::rest,i=>Gives.bind (s:=store (a.add i) v) (x:=Sp.store (a.add i) v) (gives_store1 P _ _) fun _=>gives_stores P a rest (i+1)
theorem gives_load (P:Program) (t:TypeId) (a:Addr):Gq true P (loadVar t a) (loadS P t a):=by
 refine (gives_agg P t).bind fun b=>?_
 cases b with
 |true=>exact fun K E w hx=>(Gq.bind (gives_size P t) (g:=fun n=>(ldsS a 0 n #[]).bind fun cs=>Sp.pure (Value.agg cs)) fun n=>Gq.bind (s:=loadCells a n) (gives_loads P a n 0 #[]) fun cs=>Gq.pure (Value.agg cs)) K E w hx
 |false=>exact Gq.destr (s:=load a) (x:=Sp.load a) (t:=t) (gives_load1 P a)
theorem gives_storeVar (P:Program) (t:TypeId) (a:Addr) (v:Value):Gives P (storeVar t a v) (storeS P t a v):=fun K E w hx=>by
 refine (Gives.bind (gives_size (b:=false) P t).gives (g:=fun n=>(Sp.guard (Nat.beq v.cells.size n)).bind fun _=>stsS a v.cells.toList 0) fun n=>?_) K E w hx
 refine Gives.guard fun hb=>?_
 have hn:v.cells.size=n:=Nat.eq_of_beq_eq_true hb
 simp only [hn,ne_eq,not_true_eq_false,if_false]
 exact gives_stores P a v.cells.toList 0
theorem gives_sure {b:Bool} (P:Program) (v:Value):Gq b P (Instr.sureAddr v) (addrS v):=fun K E H hx=>by
 obtain ⟨ao,rfl,h1⟩:=dPtr_elim (k:=fun ao=>nz ao fun a=>K a H) hx
 obtain ⟨a,rfl,h2⟩:=nz_elim h1
 exact ⟨a,h2,fun _ _=>rfl⟩
theorem gives_asAddr {b:Bool} (P:Program) (v:Value):Gq b P (asAddr v) (addrS v):=fun K E H hx=>by
 obtain ⟨ao,rfl,h1⟩:=dPtr_elim (k:=fun ao=>nz ao fun a=>K a H) hx
 obtain ⟨a,rfl,h2⟩:=nz_elim h1
 exact ⟨a,h2,fun _ _=>rfl⟩
theorem gives_split {q:Bool} (P:Program) (b:Bool):Gq q P (Pure.pure (Value.bool b)) (splitS b):=Gq.pure _
theorem gives_wr {q:Bool} (P:Program) (k:IntKind) (n:Int):Gq q P (Pure.pure (Value.int k (k.wrap n))) (wrS k n):=fun _ _ _ h=>⟨_,h,fun _ _=>rfl⟩
theorem gives_nm {q:Bool} (P:Program) (k:IntKind) (n:Int):Gq q P (Pure.pure (Value.int k n)) (nmS k n):=fun _ _ _ h=>⟨_,h,fun _ _=>rfl⟩
theorem gives_int {q:Bool} (P:Program) (op:BinOp) (k:IntKind) (a b:Int):Gq q P (match op with
  |.add|.sub|.mul=>Op.intArith op k a b
  |.quo|.rem=>Op.intDiv op k a b
  |.and|.or|.xor|.andNot=>Op.intBits op k a b
  |_=>Op.intCmp op a b) (intS op k a b):=by
 cases op<;>first
  |exact gives_wr P _ _
  |exact gives_nm P _ _
  |exact gives_split P _
  |exact Gq.fail _
  |(refine Gq.asking fun hb=>?_;simp only [Op.intDiv,if_neg hb];first|exact gives_wr P _ _|exact gives_nm P _ _)
theorem gives_str {q:Bool} (P:Program) (op:BinOp) (x y:ByteArray):Gq q P (Op.stringOp op x y) (strS op x y):=by
 cases op<;>first
  |exact gives_split P _
  |exact Gq.fail _
  |(refine Gq.asking fun hb=>?_;simp only [Op.stringOp,if_neg (Int.not_lt.2 hb)];exact .pure _)
theorem gives_shift {q:Bool} (P:Program) (op:BinOp) (k k':IntKind) (x y:Int) (hop:op=.shl∨op=.shr):Gq q P (Op.shift op k x k' y) ((Sp.asking (0<=y)).bind fun _=>nmS k (shV op k x y)):=by
 refine Gq.asking fun hb=>?_
 unfold Op.shift
 rw [if_neg (Int.not_lt.2 hb)]
 rcases hop with rfl|rfl<;>exact gives_nm P _ _
theorem guardless (op:BinOp) (t:TypeId) (x y:Operand) (a b:Value) (h: ∀(u v:Array Value),¬(a=.agg u/\b=.agg v)) (h': ¬(a=.nilIface/\b=.nilIface)):
  eqGuard op t x y a b=Pure.pure ():=by
 unfold eqGuard
 cases a<;>cases b<;>first|exact (h _ _ ⟨rfl,rfl⟩).elim|exact (h' ⟨rfl,rfl⟩).elim|(split<;>rfl)
def plainOps (a b:Value):Bool:=match a,b with
 |.int _ _,.int _ _=>true
 |.string _,.string _=>true
 |_,_=>false
theorem gives_binq {q:Bool} (P:Program) (op:BinOp) (t:TypeId) (x y:Operand) (a b:Value) (hp:plainOps a b=true):Gq q P (do eqGuard op t x y a b;binOp op t a b) (binS P op t x y a b):=by
 cases a<;>cases b<;>first|(cases hp;done)|skip
 ·rename_i k m k' n
  rw [guardless _ t x y _ _ (by simp) (by simp)]
  have hg:op≠.shl->op≠.shr->Gq q P (do Pure.pure ();binOp op t (.int k m) (.int k' n)) ((Sp.guard (decide (k=k'))).bind fun _=>intS op k m n):=fun h3 h4=>by
   refine Gq.guard fun hk=>?_
   have hk:=of_decide_eq_true hk
   subst hk
   have:=gives_int (q:=q) P op k m n
   cases op<;>first
    |exact (h3 rfl).elim
    |exact (h4 rfl).elim
    |(simp only [binOp,ne_eq,not_true_eq_false,if_false];exact this)
  cases op<;>first
   |exact gives_shift P .shl k k' m n (.inl rfl)
   |exact gives_shift P .shr k k' m n (.inr rfl)
   |exact hg (by simp) (by simp)
 rename_i m n
 rw [guardless _ t x y _ _ (by simp) (by simp)]
 have:=gives_str (q:=q) P op m n
 cases op<;>exact this
theorem Gq.congr {α:Type} {q:Bool} {P:Program} {s s':Sem α} {x:Sp α} (h: ∀w,s.run P w=s'.run P w) (g:Gq q P s' x):Gq q P s x:=fun K E H hx=>by
 obtain ⟨v,hk,hr⟩:=g K E H hx
 exact ⟨v,hk,fun w hw=>(h w).trans (hr w hw)⟩
theorem run_equal {P:Program} {t:TypeId} {a b:Value} {c:Bool} (h:eqV P t a b=some c) (w:World):(Op.equal t a b).run P w=.ok c w:=by
 show (Op.equalIn (9999+1) t a b).run P w=.ok c w
 unfold eqV at h
 rw [Op.equalIn]
 split at h
 ·rename_i hu
  split at h
  ·cases h;rw [Sem.run_bind,run_under hu];rfl
  cases h
 ·rename_i hu
  split at h
  ·rename_i p
   cases h;rw [Sem.run_bind,run_under hu];cases p<;>rfl
  ·cases h;rw [Sem.run_bind,run_under hu];rfl
  cases h
 ·rename_i hu
  split at h
  ·rename_i p _ _ _ _
   cases h;rw [Sem.run_bind,run_under hu];cases p<;>rfl
  ·cases h;rw [Sem.run_bind,run_under hu];rfl
  cases h
 ·rename_i hu
  split at h
  ·rename_i p
   cases h;rw [Sem.run_bind,run_under hu];cases p<;>rfl
  ·cases h;rw [Sem.run_bind,run_under hu];rfl
  cases h
 cases h
theorem eqV_forms {P:Program} {t:TypeId} {a b:Value} {c:Bool} (h:eqV P t a b=some c):
  (∃x y,a=.bool x/\b=.bool y)∨(∃x y,a=.pointer x/\b=.pointer y)∨(∃x n m y n' m',a=.slice x n m/\b=.slice y n' m')∨(∃x y,a=.map x/\b=.map y):=by
 unfold eqV at h
 split at h
 ·split at h
  ·exact .inl ⟨_,_,rfl,rfl⟩
  ·cases h
 ·split at h
  ·exact .inr (.inl ⟨_,_,rfl,rfl⟩)
  ·exact .inr (.inl ⟨_,_,rfl,rfl⟩)
  ·cases h
 ·split at h
  ·exact .inr (.inr (.inl ⟨_,_,_,_,_,_,rfl,rfl⟩))
  ·exact .inr (.inr (.inl ⟨_,_,_,_,_,_,rfl,rfl⟩))
  ·cases h
 ·split at h
  ·exact .inr (.inr (.inr ⟨_,_,rfl,rfl⟩))
  ·exact .inr (.inr (.inr ⟨_,_,rfl,rfl⟩))
  ·cases h
 ·cases h
theorem run_eql {P:Program} {t:TypeId} {x y:Operand} {a b:Value} {c:Bool} (h:eqV P t a b=some c) (w:World):
  (do eqGuard .eql t x y a b;binOp .eql t a b:Sem Value).run P w=(Pure.pure (Value.bool c):Sem Value).run P w:=by
 have hr:=run_equal h w
 rcases eqV_forms h with ⟨p,q,rfl,rfl⟩|⟨p,q,rfl,rfl⟩|⟨p,n,m,q,n',m',rfl,rfl⟩|⟨p,q,rfl,rfl⟩<;>
 ·rw [guardless _ t x y _ _ (by simp) (by simp)]
  show (do Pure.pure (Value.bool (←Op.equal t _ _)):Sem Value).run P w=_
  rw [Sem.run_bind,hr];rfl
theorem run_neq {P:Program} {t:TypeId} {x y:Operand} {a b:Value} {c:Bool} (h:eqV P t a b=some c) (w:World):
  (do eqGuard .neq t x y a b;binOp .neq t a b:Sem Value).run P w=(Pure.pure (Value.bool (!c)):Sem Value).run P w:=by
 have hr:=run_equal h w
 rcases eqV_forms h with ⟨p,q,rfl,rfl⟩|⟨p,q,rfl,rfl⟩|⟨p,n,m,q,n',m',rfl,rfl⟩|⟨p,q,rfl,rfl⟩<;>
 ·rw [guardless _ t x y _ _ (by simp) (by simp)]
  show (do Pure.pure (Value.bool (!(←Op.equal t _ _))):Sem Value).run P w=_
  rw [Sem.run_bind,hr];rfl
theorem gives_eqP (P:Program) (op:BinOp) (t:TypeId) (x y:Operand) (a b:Value) (hs:Gives P (do eqGuard op t x y a b;binOp op t a b) (eqS P op t x y a b)):Gives P (do eqGuard op t x y a b;binOp op t a b) (eqP P op t x y a b):=by
 unfold eqP
 cases op<;>first|exact hs|skip
 ·cases h:eqV P t a b with
  |none=>exact hs
  |some c=>exact (Gq.congr (q:=false) (run_eql h) (gives_split P c)).gives
 cases h:eqV P t a b with
 |none=>exact hs
 |some c=>exact (Gq.congr (q:=false) (run_neq h) (gives_split P (!c))).gives
theorem gives_bin (P:Program) (op:BinOp) (t:TypeId) (x y:Operand) (a b:Value):Gives P (do eqGuard op t x y a b;binOp op t a b) (binS P op t x y a b):=by
 cases hp:plainOps a b with
 |true=>exact (gives_binq (q:=false) P op t x y a b hp).gives
 |false=>
  have heq:Gives P (do eqGuard op t x y a b;binOp op t a b) (eqS P op t x y a b):=fun K E w hx=>
   (show Outcome (fun v H'=>dBl v fun b=>K (.bool b) H') _ w ((do eqGuard op t x y a b;binOp op t a b:Sem Value).run P w) from semW.run hx w rfl).mono (fun v H' h'=>by obtain ⟨c,rfl,h2⟩:=dBl_elim h';exact h2) (fun _ _ h'=>h')
  unfold binS
  split
  ·cases hp
  ·cases hp
  ·cases hp
  ·cases hp
  exact gives_eqP P op t x y a b heq
end Go.Proofs.YtkaikaodhegmhaaGreat.E
namespace Go.Proofs.YtkaikaodhegmhaaGreat.E
open Go
set_option linter.unusedVariables false
def partS (P:Program) (t:TypeId) (cs:Array Value) (off:Nat):Sp Value:=
 (aggOf P t).bind fun b=>match b with
  |true=>(infoS P t).bind fun i=>.pure (.agg (cs.extract off (off+i.size)))
  |false=>Sp.opt cs.toList[off]?
theorem gives_part {q:Bool} (P:Program) (t:TypeId) (cs:Array Value) (off:Nat):Gq q P (part t cs off) (partS P t cs off):=by
 refine (gives_agg P t).bind fun b=>?_
 cases b with
 |true=>exact fun K E w hx=>(Gq.bind (gives_size P t) (g:=fun n=>Sp.pure (Value.agg (cs.extract off (off+n)))) fun n=>Gq.pure _) K E w hx
 |false=>
  simp only [Bool.false_eq_true,if_false]
  intro K E H hx
  cases h:cs[off]? with
  |none=>
   have h':cs.toList[off]? =none:=by simpa using h
   have hx:oV cs.toList[off]? (fun v=>K v H):=hx
   rw [h'] at hx;exact hx.elim
  |some v=>
   have h':cs.toList[off]? =some v:=by simpa using h
   have hx:oV cs.toList[off]? (fun v=>K v H):=hx
   rw [h'] at hx;exact ⟨v,hx,fun _ _=>rfl⟩
def fieldS (P:Program) (s:TypeId) (v:Value) (n:Nat):Sp Value:=
 match P.underlying s with
 |some (.struct fs)=>
  match fs.toList[n]? with
  |some f=>(addrS v).bind fun a=>(infoS P f.type).bind fun i=>(Sp.guard (!(Nat.beq i.size 0))).bind fun _=>.pure (.pointer (some (a.add f.offset)))
  |none=>.fail
 |_=>.fail
theorem gives_place {q:Bool} (P:Program) (a:Addr) (f:Field):Gq q P (fieldPlace a f) ((infoS P f.type).bind fun i=>(Sp.guard (!(Nat.beq i.size 0))).bind fun _=>.pure (a.add f.offset)):=by
 refine Gq.info fun i hi=>Gq.guard fun hb=>Gq.of_run fun w=>?_
 have h0: ¬i.size=0:=by intro h;rw [h] at hb;simp at hb
 simp [fieldPlace,sizeOf,run_typeInfo hi,h0]
theorem gives_field {q:Bool} (P:Program) (s:TypeId) (v:Value) (n:Nat):Gq q P (Instr.fieldAt s v n) (fieldS P s v n):=by
 unfold Instr.fieldAt fieldS
 refine gives_underlying P s _ _ (fun d hd=>?_) (fun hd=>?_)
 ·rw [hd]
  cases d<;>first|exact .fail _|skip
  rename_i fs
  simp only
  cases hf:fs.toList[n]? with
  |none=>exact .fail _
  |some f=>
   have hf':fs[n]? =some f:=by simpa using hf
   simp only [hf']
   exact (gives_sure P v).bind fun a=>fun K E w hx=>(Gq.bind (gives_place P a f) (g:=fun b=>Sp.pure (Value.pointer (some b))) fun b=>Gq.pure _) K E w hx
 rw [hd];exact fun _ _ _ h=>h
def fieldV (P:Program) (s:TypeId) (v:Value) (n:Nat):Sp Value:=
 match P.underlying s with
 |some (.struct fs)=>
  match fs.toList[n]? with
  |some f=>(Sp.agg v).bind fun cs=>(partS P f.type cs f.offset).bind fun u=>destr P f.type u
  |none=>.fail
 |_=>.fail
theorem gives_asAgg {q:Bool} (P:Program) (v:Value):Gq q P (asAgg v) (Sp.agg v):=fun K E H hx=>by
 obtain ⟨cs,rfl,h⟩:=dAgg_elim (k:=fun cs=>K cs H) hx
 exact ⟨cs,h,fun _ _=>rfl⟩
theorem gives_fieldV {q:Bool} (P:Program) (s:TypeId) (v:Value) (n:Nat):Gq q P (Instr.field s v n) (fieldV P s v n):=by
 unfold Instr.field fieldV
 refine gives_underlying P s _ _ (fun d hd=>?_) (fun hd=>?_)
 ·rw [hd]
  cases d<;>first|exact .fail _|skip
  rename_i fs
  simp only
  cases hf:fs.toList[n]? with
  |none=>exact .fail _
  |some f=>
   have hf':fs[n]? =some f:=by simpa using hf
   simp only [hf']
   exact (gives_asAgg P v).bind fun cs=>Gq.destr (gives_part P f.type cs f.offset)
 rw [hd];exact fun _ _ _ h=>h
def byteAt (s:ByteArray) (i:Nat):Int:=((s.data.toList[i]?).getD 0).toNat
def idxA (P:Program) (t:TypeId) (x i:Value):Sp Value:=
 match P.underlying t with
 |some (.slice elem)=>(Sp.int' i).bind fun n=>(Sp.slc x).bind fun s=>(Sp.nonNil s.1).bind fun a=>(Sp.asking (0<=n.2/\n.2<(s.2.1:Int))).bind fun _=>(infoS P elem).bind fun inf=>.pure (.pointer (some (a.add (n.2.toNat*inf.size))))
 |some (.array len elem)=>(Sp.int' i).bind fun n=>(addrS x).bind fun a=>(Sp.asking (0<=n.2/\n.2<(len:Int))).bind fun _=>(infoS P elem).bind fun inf=>.pure (.pointer (some (a.add (n.2.toNat*inf.size))))
 |_=>.fail
theorem gives_idxA {q:Bool} (P:Program) (t:TypeId) (x i:Value):Gq q P (Instr.indexAt t x i) (idxA P t x i):=by
 unfold idxA
 split
 ·rename_i elem ht
  refine Gq.int' fun k n hv=>Gq.slc fun b len cap hb=>Gq.nonNil fun a ha=>Gq.asking fun hr=>Gq.info fun inf hi=>Gq.of_run fun w=>?_
  subst hv hb
  simp only at ha hr ⊢
  subst ha
  simp [Instr.indexAt,asIntOf,run_under ht,sizeOf,run_typeInfo hi,hr]
 ·rename_i len elem ht
  refine Gq.int' fun k n hv=>Gq.addr fun a ha=>Gq.asking fun hr=>Gq.info fun inf hi=>Gq.of_run fun w=>?_
  subst hv ha
  simp only at hr ⊢
  simp [Instr.indexAt,asIntOf,Instr.sureAddr,run_under ht,sizeOf,run_typeInfo hi,hr]
 exact .fail _
def arrS (P:Program) (t:TypeId) (x:Value):Sp Value:=
 match P.underlying t with
 |some (.array len elem)=>(Sp.slc x).bind fun s=>(Sp.asking ((len:Int)<=(s.2.1:Int))).bind fun _=>.pure (.pointer s.1)
 |_=>.fail
theorem gives_arr {q:Bool} (P:Program) (t:TypeId) (x:Value):Gq q P (Instr.arrayAt t x) (arrS P t x):=by
 unfold arrS
 split
 ·rename_i len elem ht
  refine Gq.slc fun b n cap hb=>Gq.asking fun hr=>Gq.of_run fun w=>?_
  subst hb
  simp only at hr ⊢
  have hn: ¬n<len:=by omega
  simp [Instr.arrayAt,run_under ht,hn]
 exact .fail _
def idxV (P:Program) (t:TypeId) (x i:Value):Sp Value:=
 match P.underlying t with
 |some .string=>(Sp.int' i).bind fun n=>(Sp.str x).bind fun s=>(Sp.asking (0<=n.2/\n.2<(s.size:Int))).bind fun _=>.pure (.int .u8 (byteAt s n.2.toNat))
 |some (.array len elem)=>(Sp.int' i).bind fun n=>(Sp.agg x).bind fun cs=>(Sp.asking (0<=n.2/\n.2<(len:Int))).bind fun _=>(infoS P elem).bind fun inf=>(partS P elem cs (n.2.toNat*inf.size)).bind fun v=>destr P elem v
 |_=>.fail
theorem gives_idxV {q:Bool} (P:Program) (t:TypeId) (x i:Value):Gq q P (Instr.index t x i) (idxV P t x i):=by
 unfold idxV
 split
 ·rename_i ht
  refine Gq.int' fun k n hv=>Gq.str fun s hs=>Gq.asking fun hr=>Gq.of_run fun w=>?_
  subst hv hs
  simp only at hr ⊢
  have hlt:n.toNat<s.size:=by omega
  have hg:s[n.toNat]? =some s[n.toNat]:=by simp [hlt]
  have hb:byteAt s n.toNat=(s[n.toNat].toNat:Int):=by
   unfold byteAt
   have:s.data.toList[n.toNat]? =some s[n.toNat]:=by
    rw [List.getElem?_eq_getElem (by simpa using hlt)];rfl
   rw [this];rfl
  simp [Instr.index,asIntOf,run_under ht,hr.1,hg,hb]
 ·rename_i len elem ht
  refine Gq.int' fun k n hv=>Gq.agg fun cs hs=>Gq.asking fun hr=>Gq.info fun inf hi=>?_
  subst hv hs
  simp only at hr ⊢
  intro K E H hx
  obtain ⟨v,hv,hrun⟩:=Gq.destr (t:=elem) (gives_part (q:=q) P elem cs (n.toNat*inf.size)) K E H hx
  refine ⟨v,hv,fun w hw=>?_⟩
  simp [Instr.index,asIntOf,run_under ht,sizeOf,run_typeInfo hi,hr]
  exact hrun w hw
 exact .fail _
theorem gives_bound (P:Program) (v:Value) (y:Nat) (code:BoundsCode) (n:Int) (k:IntKind) (hv:v=.int k n) (h0:0<=n) (h1:n<=y) (w:World):(Instr.sliceBound v y code).run P w=.ok n.toNat w:=by
 subst hv
 simp [Instr.sliceBound,asIntOf,h0,h1]
def slA (size:Nat) (a:Addr) (l m:Int):Addr:=if m.toNat=l.toNat then a else a.add (l.toNat*size)
def slO (p:Option Addr) (size:Nat) (l m:Int):Option Addr:=p.map fun a=>slA size a l m
def optI (o:Option Value) (d:Int):Sp Int:=match o with|some v=>(Sp.int' v).bind fun p=>.pure p.2|none=>.pure d
def sliceS (P:Program) (t:TypeId) (x:Value) (lo hi mx:Option Value):Sp Value:=
 match P.underlying t with
 |some .string=>match mx with
  |none=>(Sp.str x).bind fun s=>(optI hi s.size).bind fun h=>(optI lo 0).bind fun l=>(Sp.asking (0<=l/\l<=h/\h<=(s.size:Int))).bind fun _=>.pure (.string (s.extract l.toNat h.toNat))
  |some _=>.fail
 |some (.slice elem)=>(Sp.slc x).bind fun s=>(optI mx s.2.2).bind fun m=>(optI hi s.2.1).bind fun h=>(optI lo 0).bind fun l=>
  (Sp.asking (0<=l/\l<=h/\h<=m/\m<=(s.2.2:Int))).bind fun _=>(infoS P elem).bind fun inf=>.pure (.slice (slO s.1 inf.size l m) (h.toNat - l.toNat) (m.toNat - l.toNat))
 |some (.array n elem)=>(addrS x).bind fun a=>(optI mx n).bind fun m=>(optI hi n).bind fun h=>(optI lo 0).bind fun l=>
  (Sp.asking (0<=l/\l<=h/\h<=m/\m<=(n:Int))).bind fun _=>(infoS P elem).bind fun inf=>.pure (.slice (slO (some a) inf.size l m) (h.toNat - l.toNat) (m.toNat - l.toNat))
 |_=>.fail
def Bnd (o:Option Value) (d n:Int):Prop:=(o=none/\n=d)∨∃k,o=some (.int k n)
theorem Gq.optI {α:Type} {q:Bool} {P:Program} {s:Sem α} {o:Option Value} {d:Int} {g:Int->Sp α} (h: ∀n,Bnd o d n->Gq q P s (g n)):Gq q P s ((optI o d).bind g):=by
 cases o with
 |none=>exact fun K E w hx=>h d (.inl ⟨rfl,rfl⟩) K E w hx
 |some v=>exact fun K E w hx=>(Gq.int' (g:=fun p=>g p.2) fun k n hv=>h n (.inr ⟨k,by rw [hv]⟩)) K E w hx
theorem run_bounds {P:Program} (b:Bool) (len cap:Nat) (lo hi mx:Option Value) (l h m:Int) (hl:Bnd lo 0 l) (hh:Bnd hi len h) (hm:Bnd mx cap m) (hc:mx≠none->hi≠none)
  (h0:0<=l) (h1:l<=h) (h2:h<=m) (h3:m<=(cap:Int)) (w:World):(Instr.sliceBounds b len cap lo hi mx).run P w=.ok (l.toNat,h.toNat,m.toNat) w:=by
 have n0:0<=h:=Int.le_trans h0 h1
 have n1:0<=m:=Int.le_trans n0 h2
 have e1:h<=(m.toNat:Int):=by omega
 have e2:l<=(h.toNat:Int):=by omega
 have bm: ∀code k,(Instr.sliceBound (.int k m) cap code).run P w=.ok m.toNat w:=fun code k=>gives_bound P _ _ code m k rfl n1 h3 w
 have bh: ∀code k,(Instr.sliceBound (.int k h) m.toNat code).run P w=.ok h.toNat w:=fun code k=>gives_bound P _ _ code h k rfl n0 e1 w
 have bl: ∀code k,(Instr.sliceBound (.int k l) h.toNat code).run P w=.ok l.toNat w:=fun code k=>gives_bound P _ _ code l k rfl h0 e2 w
 have zm:mx=none->(cap:Nat)=m.toNat:=fun hn=>by rcases hm with ⟨_,rfl⟩|⟨k,hk⟩<;>first|exact (Int.toNat_natCast cap).symm|(rw [hn] at hk;cases hk)
 have zh:hi=none->(len:Nat)=h.toNat:=fun hn=>by rcases hh with ⟨_,rfl⟩|⟨k,hk⟩<;>first|exact (Int.toNat_natCast len).symm|(rw [hn] at hk;cases hk)
 have zl:lo=none->(0:Nat)=l.toNat:=fun hn=>by rcases hl with ⟨_,rfl⟩|⟨k,hk⟩<;>first|rfl|(rw [hn] at hk;cases hk)
 have sm:mx=none∨∃k,mx=some (.int k m):=hm.imp And.left id
 have sh:hi=none∨∃k,hi=some (.int k h):=hh.imp And.left id
 have sl:lo=none∨∃k,lo=some (.int k l):=hl.imp And.left id
 clear hl hh hm
 unfold Instr.sliceBounds
 rcases sm with rfl|⟨km,rfl⟩<;>rcases sh with rfl|⟨kh,rfl⟩<;>rcases sl with rfl|⟨kl,rfl⟩
 ·simp only [Sem.run_bind,Sem.run_pure,Result.andThen_ok];rw [zm rfl,zh rfl,zl rfl]
 ·simp only [Sem.run_bind,Sem.run_pure,Result.andThen_ok];rw [zh rfl,bl];simp only [Result.andThen_ok];rw [zm rfl]
 ·simp only [Sem.run_bind,Sem.run_pure,Result.andThen_ok];rw [zm rfl,bh];simp only [Result.andThen_ok];rw [zl rfl]
 ·simp only [Sem.run_bind,Sem.run_pure,Result.andThen_ok];rw [zm rfl,bh];simp only [Result.andThen_ok];rw [bl];rfl
 ·exact absurd rfl (hc (by simp))
 ·exact absurd rfl (hc (by simp))
 ·simp only [Sem.run_bind,Sem.run_pure];rw [bm];simp only [Result.andThen_ok];rw [bh];simp only [Result.andThen_ok];rw [zl rfl]
 ·simp only [Sem.run_bind,Sem.run_pure];rw [bm];simp only [Result.andThen_ok];rw [bh];simp only [Result.andThen_ok];rw [bl];rfl
theorem gives_slice {q:Bool} (P:Program) (t:TypeId) (x:Value) (lo hi mx:Option Value) (hc:mx≠none->hi≠none):Gq q P (Instr.sliceAt t x lo hi mx) (sliceS P t x lo hi mx):=by
 unfold sliceS
 split
 ·rename_i ht
  cases mx with
  |some _=>exact .fail _
  |none=>
   refine Gq.str fun s hs=>Gq.optI fun h hh=>Gq.optI fun l hl=>Gq.asking fun hr=>Gq.of_run fun w=>?_
   subst hs
   have hb:=run_bounds (P:=P) false s.size s.size lo hi none l h s.size hl hh (.inl ⟨rfl,rfl⟩) (by simp) hr.1 hr.2.1 hr.2.2 (Int.le_refl _) w
   simp [Instr.sliceAt,Instr.slice,run_under ht,hb]
 ·rename_i elem ht
  refine Gq.slc fun a n c hs=>Gq.optI fun m hm=>Gq.optI fun h hh=>Gq.optI fun l hl=>Gq.asking fun hr=>Gq.info fun inf hi'=>Gq.of_run fun w=>?_
  subst hs
  have hb:=run_bounds (P:=P) true n c lo hi mx l h m hl hh hm hc hr.1 hr.2.1 hr.2.2.1 hr.2.2.2 w
  simp [Instr.sliceAt,Instr.slice,run_under ht,hb,sizeOf,run_typeInfo hi',slA,slO]
  cases a<;>(split<;>simp_all)
 ·rename_i n elem ht
  refine Gq.addr fun a ha=>Gq.optI fun m hm=>Gq.optI fun h hh=>Gq.optI fun l hl=>Gq.asking fun hr=>Gq.info fun inf hi'=>Gq.of_run fun w=>?_
  subst ha
  have hb:=run_bounds (P:=P) false n n lo hi mx l h m hl hh hm hc hr.1 hr.2.1 hr.2.2.1 hr.2.2.2 w
  simp [Instr.sliceAt,Instr.sureAddr,run_under ht,hb,sizeOf,run_typeInfo hi',slA,slO]
 exact .fail _
end Go.Proofs.YtkaikaodhegmhaaGreat.E
namespace Go.Proofs.YtkaikaodhegmhaaGreat.E
open Go
set_option linter.unusedVariables false
def rowZ (z:List Value) (n:Nat):List Value:=(List.replicate n z).flatten
theorem rowZ_length (z:List Value) (n:Nat):(rowZ z n).length=n*z.length:=by simp [rowZ]
theorem rowZ_get (z:List Value): ∀(n j:Nat),j<n*z.length->(rowZ z n)[j]? =z[j%z.length]?
 |0,j,h=>by omega
 |n+1,j,h=>by
  have e:rowZ z (n+1)=z++rowZ z n:=by simp [rowZ,List.replicate_succ]
  rw [e]
  by_cases hj:j<z.length
  ·rw [List.getElem?_append_left hj,Nat.mod_eq_of_lt hj]
  have h1:z.length<=j:=by omega
  have h2:(n+1)*z.length=n*z.length+z.length:=Nat.succ_mul n z.length
  rw [List.getElem?_append_right h1,rowZ_get z n (j - z.length) (by omega), ←Nat.mod_eq_sub_mod h1]
theorem made_eq (z:Array Value) (n size:Nat) (hs:z.size=size):madeCells z (n*size)=(rowZ z.toList n).toArray:=by
 subst hs
 apply Array.ext_getElem?
 intro j
 by_cases hj:j<n*z.size
 ·have hpos:0<z.size:=by
   rcases Nat.eq_zero_or_pos z.size with h|h
   ·rw [h] at hj;omega
   exact h
  have hm:j%z.size<z.size:=Nat.mod_lt _ hpos
  have h1:(rowZ z.toList n)[j]? =some z[j%z.size]:=by
   rw [rowZ_get z.toList n j (by simpa using hj)]
   simp [hm]
  have h2:z[j%z.size]! =z[j%z.size]:=by simp [hm]
  simp [madeCells,hj,h1,h2]
 have h1:(rowZ z.toList n)[j]? =none:=by
  rw [List.getElem?_eq_none];rw [rowZ_length];simpa using Nat.not_lt.1 hj
 simp [madeCells,hj,h1]
def newP (P:Program) (cs:Array Value) (e:TypeId):Sp Addr:=(Sp.new (.cells cs e)).bind fun r=>.pure ⟨r,0,none⟩
theorem gives_row (P:Program) (e:TypeId) (cs:Array Value):Gives P (newRow e cs) (newP P cs e):=fun K E w hx=>
 ⟨hx,rfl,rfl,rfl⟩
def allocS (P:Program) (t:TypeId):Sp Value:=(zeroS P t).bind fun z=>(newP P z.cells t).bind fun a=>.pure (.pointer (some a))
theorem gives_alloc (P:Program) (t:TypeId):Gives P (Instr.alloc t true (.tuple #[])) (allocS P t):=
 (gives_zero (b:=false) P t).gives.bind fun z=>(gives_row P t z.cells).bind fun a=>.pure _
def boxS (P:Program) (t:TypeId) (v:Value):Sp Value:=(newP P v.cells t).bind fun a=>.pure (.pointer (some a))
theorem gives_box (P:Program) (t:TypeId) (v:Value):Gives P (Instr.box t v) (boxS P t v):=(gives_row P t v.cells).bind fun a=>.pure _
def buildS (P:Program) (t:TypeId) (parts:List (Nat×Value)):Sp Value:=match P.built t parts with|some cs=>.pure (.agg cs)|none=>.fail
theorem gives_build {q:Bool} (P:Program) (t:TypeId) (parts:Array (Nat×Value)):Gq q P (Instr.build t parts) (buildS P t parts.toList):=by
 unfold buildS
 cases hb:P.built t parts.toList with
 |none=>exact Gq.fail _
 |some cs=>exact Gq.of_run fun w=>run_build w t parts cs hb
def buildSl (P:Program) (t:TypeId) (n:Nat) (parts:List (Nat×Value)):Sp Value:=
 match P.underlying t with
 |some (.slice e)=>(infoS P e).bind fun i=>(zeroS P e).bind fun z=>(Sp.guard (Nat.beq z.cells.size i.size&&Nat.ble (n*i.size) 16777216)).bind fun _=>
  match Instr.fill (fun j=>some (j*i.size,i.size)) (rowZ z.cells.toList n).toArray parts with
  |some cs=>(newP P cs e).bind fun a=>.pure (.slice (some a) n n)
  |none=>.fail
 |_=>.fail
theorem Gives.zero {α:Type} {P:Program} {s:Sem α} {t:TypeId} {g:Value->Sp α} (h: ∀z,(∀w,(zeroValue t).run P w=.ok z w)->Gives P s (g z)):Gives P s ((zeroS P t).bind g):=by
 intro K E w hx
 have hx':((infoS P t).bind fun i=>(match i.zero with|some v=>Sp.pure v|none=>Sp.fail).bind g).run K E w.heap:=hx
 refine Gives.info (g:=fun i=>(match i.zero with|some v=>Sp.pure v|none=>Sp.fail).bind g) (fun i hi=>?_) K E w hx'
 cases hz:i.zero with
 |none=>exact fun _ _ _ h=>h.elim
 |some z=>exact h z fun w=>by simp [zeroValue,run_typeInfo hi,hz]
theorem gives_buildSl (P:Program) (t:TypeId) (n:Nat) (parts:Array (Nat×Value)):Gives P (Instr.buildSlice t n parts) (buildSl P t n parts.toList):=by
 unfold buildSl
 split
 ·rename_i e hd
  refine Gives.info fun i hi=>Gives.zero fun z hz=>Gives.guard fun hb=>?_
  rw [Bool.and_eq_true] at hb
  have h1:z.cells.size=i.size:=Nat.eq_of_beq_eq_true hb.1
  have h2:n*i.size<=16777216:=Nat.le_of_ble_eq_true hb.2
  have h3: ¬(n*i.size>2^24):=by omega
  have hm:=made_eq z.cells n i.size h1
  cases hf:Instr.fill (fun j=>some (j*i.size,i.size)) (rowZ z.cells.toList n).toArray parts.toList with
  |none=>exact .fail _
  |some cs=>
   rw [←hm] at hf
   have hsz: ∀w,(sizeOf e).run P w=.ok i.size w:=fun w=>by simp [sizeOf,run_typeInfo hi]
   intro K E w hx
   have hgoal:(Instr.buildSlice t n parts).run P w=.ok (.slice (some ⟨w.heap.size,0,none⟩) n n) { w with heap:=w.heap.push (.cells cs e) }:=by
    unfold Instr.buildSlice
    rw [Sem.run_bind,run_under hd]
    simp only [Result.andThen_ok]
    rw [Sem.run_bind,hsz]
    simp only [Result.andThen_ok]
    rw [if_neg h3]
    by_cases h0:n*i.size=0
    ·have hf':=hf
     rw [h0] at hf'
     have he:madeCells z.cells 0=#[]:=by simp [madeCells]
     rw [he] at hf'
     simp [h0,newRow,Array.range_zero',hf']
    unfold madeCells at hf
    simp [h0,hz,newRow,hf]
   rw [hgoal]
   exact ⟨hx,rfl,rfl,rfl⟩
 exact .fail _
def makeS (P:Program) (t:TypeId) (l c:Value):Sp Value:=
 match P.underlying t with
 |some (.slice e)=>(Sp.int' l).bind fun m=>(Sp.int' c).bind fun n=>(infoS P e).bind fun i=>(zeroS P e).bind fun z=>(Sp.guard (Nat.beq z.cells.size i.size)).bind fun _=>
  (Sp.asking (0<=m.2/\m.2<=n.2/\(i.bytes:Int)*n.2<=281474976710656/\n.2<=9223372036854775807)).bind fun _=>
  (newP P (rowZ z.cells.toList n.2.toNat).toArray e).bind fun a=>.pure (.slice (some a) m.2.toNat n.2.toNat)
 |_=>.fail
theorem gives_make (P:Program) (t:TypeId) (l c:Value):Gives P (Instr.makeSlice t l c) (makeS P t l c):=by
 unfold makeS
 split
 ·rename_i e hd
  refine Gives.int' fun kl m hl=>Gives.int' fun kc n hc=>Gives.info fun i hi=>?_
  intro K E w hx
  unfold zeroS infoS at hx
  rw [hi] at hx
  cases hz:i.zero with
  |none=>simp only [Sp.bind,Sp.pure,hz] at hx;exact hx.elim
  |some z=>
   simp only [Sp.bind,Sp.pure,hz] at hx
   obtain ⟨hb,hx⟩:=gB_elim hx
   obtain ⟨⟨h0,h1,h2,h3⟩,hx⟩:=hx
   have hs:z.cells.size=i.size:=Nat.eq_of_beq_eq_true hb
   subst hl hc
   rw [run_make w t e i z hd hi hz kl kc m n h0 h1 h2 h3,made_eq z.cells n.toNat i.size hs]
   exact ⟨hx,rfl,rfl,rfl⟩
 exact .fail _
def convS (P:Program) (s d:TypeId) (v:Value):Sp Value:=
 match P.underlying s,P.underlying d with
 |some (.int _),some (.int k)=>(Sp.int' v).bind fun n=>wrS k n.2
 |some .string,some .string=>(Sp.str v).bind fun x=>.pure (.string x)
 |_,_=>(Sp.sem P (convert s d v)).bind fun v=>destr P d v
def plainConv (P:Program) (s d:TypeId):Bool:=
 match P.underlying s,P.underlying d with
 |some (.int _),some (.int _)=>true
 |some .string,some .string=>true
 |_,_=>false
theorem gives_convq {q:Bool} (P:Program) (s d:TypeId) (v:Value) (hp:plainConv P s d=true):Gq q P (convert s d v) (convS P s d v):=by
 unfold plainConv at hp
 unfold convS
 split at hp
 ·rename_i j k hs hd
  refine Gq.int' fun kk n hn=>fun K E H hx=>⟨.int k (k.wrap n),hx,fun w _=>?_⟩
  subst hn
  simp [convert,run_under hs,run_under hd,Conv.intToInt]
 ·rename_i hs hd
  refine Gq.str fun x hx=>Gq.of_run fun w=>?_
  subst hx
  simp [convert,run_under hs,run_under hd]
 cases hp
theorem gives_conv (P:Program) (s d:TypeId) (v:Value):Gives P (convert s d v) (convS P s d v):=by
 cases hp:plainConv P s d with
 |true=>exact (gives_convq (q:=false) P s d v hp).gives
 |false=>
  unfold plainConv at hp
  unfold convS
  split
  ·rename_i h1 h2;rw [h1,h2] at hp;cases hp
  ·rename_i h1 h2;rw [h1,h2] at hp;cases hp
  exact Gives.destr (Gives.sem _)
def unS (P:Program) (op:UnOp) (v:Value):Sp Value:=
 match op,v with
 |.not,.bool b=>.pure (.bool (!b))
 |.neg,.int k n=>wrS k (0 - n)
 |op,v=>Sp.sem P (Op.unary op v)
def plainUn (op:UnOp) (v:Value):Bool:=match op,v with
 |.not,.bool _=>true
 |.neg,.int _ _=>true
 |_,_=>false
theorem gives_unq {q:Bool} (P:Program) (op:UnOp) (v:Value) (hp:plainUn op v=true):Gq q P (Op.unary op v) (unS P op v):=by
 unfold plainUn at hp
 split at hp
 ·exact Gq.pure _
 ·exact gives_wr P _ _
 cases hp
theorem gives_un (P:Program) (op:UnOp) (v:Value):Gives P (Op.unary op v) (unS P op v):=by
 unfold unS
 split
 ·exact .pure _
 ·exact (gives_wr (q:=false) P _ _).gives
 exact .sem _
def ifaceS (P:Program) (t:TypeId) (v:Value):Sp Value:=
 match P.underlying t with
 |some (.interface _)=>.fail
 |none=>.fail
 |_=>.pure (.iface t v)
theorem gives_iface {q:Bool} (P:Program) (t:TypeId) (v:Value):Gq q P (Instr.makeInterface t v) (ifaceS P t v):=by
 unfold Instr.makeInterface ifaceS
 refine gives_underlying P t _ _ (fun d hd=>?_) (fun hd=>?_)
 ·rw [hd];cases d<;>first|exact .pure _|exact .fail _
 rw [hd];exact fun _ _ _ h=>h
def moveS (v:Value):Sp Value:=.pure v
theorem gives_move {q:Bool} (P:Program) (v:Value):Gq q P (Pure.pure v) (moveS v):=Gq.pure _
def extS (v:Value) (i:Nat):Sp Value:=
 match v with
 |.tuple vs=>match vs.toList[i]? with
  |some u=>.pure u
  |none=>.fail
 |_=>.fail
theorem gives_ext {q:Bool} (P:Program) (v:Value) (i:Nat):Gq q P (Instr.extract v i) (extS v i):=by
 unfold extS
 split
 ·rename_i vs
  unfold Instr.extract
  cases h:vs.toList[i]? with
  |none=>exact .fail _
  |some u=>
   have h':vs[i]? =some u:=by simpa using h
   simp only [h'];exact .pure _
 exact .fail _
end Go.Proofs.YtkaikaodhegmhaaGreat.E
namespace Go.Proofs.YtkaikaodhegmhaaGreat.E
open Go
set_option linter.unusedVariables false
def lenS (P:Program) (ats:Array TypeId) (t:TypeId) (args:Array Value):Sp Value:=
 match (ats.toList.head?).bind P.underlying,args.toList with
 |some .string,.string s::_=>.pure (.int .i64 (s.size:Int))
 |some (.slice _),.slice _ n _::_=>.pure (.int .i64 (n:Int))
 |_,_=>(Sp.sem P (Builtin.len_ ats t args)).bind fun v=>destr P t v
theorem gives_len (P:Program) (ats:Array TypeId) (t:TypeId) (args:Array Value):Gives P (Builtin.len_ ats t args) (lenS P ats t args):=by
 unfold lenS
 split
 ·rename_i s r h1 h2
  refine Gives.of_run fun w=>?_
  obtain ⟨ats⟩:=ats
  obtain ⟨args⟩:=args
  simp only at h1 h2
  subst h2
  cases ats with
  |nil=>simp at h1
  |cons u us=>
   simp at h1
   simp [Builtin.len_,run_under h1,goInt]
 ·rename_i e n r h1 h2
  refine Gives.of_run fun w=>?_
  obtain ⟨ats⟩:=ats
  obtain ⟨args⟩:=args
  simp only at h1 h2
  subst h2
  cases ats with
  |nil=>simp at h1
  |cons u us=>
   simp at h1
   simp [Builtin.len_,run_under h1,goInt]
 exact Gives.destr (Gives.sem _)
def panicS (v:Value):Sp Value:=match v with|.iface t x=>Sp.panic (.iface t x)|_=>.fail
theorem gives_panic (P:Program) (v:Value):Gives P (Instr.panic v) (panicS v):=by
 unfold panicS
 split
 ·exact fun K E w hx=>⟨hx,Like.refl w⟩
 exact .fail _
def bltS (P:Program) (b:Builtin) (ats:Array TypeId) (t:TypeId) (args:Array Value):Sp Value:=
 match b with
 |.len=>lenS P ats t args
 |.append=>(Sp.sem P (Builtin.append_ ats t args)).bind fun v=>destr P t v
 |.cap=>(Sp.sem P (Builtin.cap_ ats t args)).bind fun v=>destr P t v
 |.clear=>(Sp.sem P (Builtin.clear_ ats t args)).bind fun v=>destr P t v
 |.copy=>(Sp.sem P (Builtin.copy_ ats t args)).bind fun v=>destr P t v
 |.delete=>(Sp.sem P (Builtin.delete_ ats t args)).bind fun v=>destr P t v
 |.max=>(Sp.sem P (Builtin.max_ ats t args)).bind fun v=>destr P t v
 |.min=>(Sp.sem P (Builtin.min_ ats t args)).bind fun v=>destr P t v
 |.panic=>panicS (args.getD 0 .nilIface)
 |_=>.fail
theorem does_blt (P:Program) (b:Builtin) (ats:Array TypeId) (t:TypeId) (cs:Array Bool) (args:Array Value):Does P (builtin b ats t cs args) (bltS P b ats t args):=by
 cases b<;>first
  |exact fun _ _ _ h=>h.elim
  |exact (gives_len P ats t args).does
  |exact (gives_panic P _).does
  |exact (Gives.destr (Gives.sem _)).does
def plainFn (P:Program) (f:FuncId):Bool:=
 match P.funcs[f]? with
 |some fn=>match fn.name== "runtime.NumGoroutine" with
  |true=>false
  |false=>fn.body.isSome
 |none=>false
def argsOf (first:Array Value) (xs:List Value) (cap:Array Value):Array Value:=(first.toList++(xs++cap.toList)).toArray
def isExt (P:Program) (f:FuncId):Bool:=
 match P.funcs[f]? with
 |some fn=>match fn.body with
  |some _=>false
  |none=>true
 |none=>false
def entS (f:FuncId) (args:Array Value):Sem Value:=do match ←callFunc f args with
 |.value v=>pure v
 |_=>stuck "entry"
def callF (P:Program) (ev:Operand->Value) (f:Operand) (as:Array Operand) (t:TypeId):Sp Value:=
 (Sp.fn (ev f)).bind fun x=>(Sp.guard (plainFn P x.1)).bind fun _=>(Sp.call P x.1 (argsOf x.2.1 (as.toList.map ev) x.2.2)).bind fun v=>destr P t v
def methV (recv:Value) (name:String):Sem Value:=do
 match recv with
 |.iface t v=>
  let x ←method ((←program).types.size+Made.depth) t v name
  pure (.func (.func x.1) #[x.2] #[])
 |_=>stuck "invoke: interface value expected"
def callV (P:Program) (v:Value) (as:List Value) (t:TypeId):Sp Value:=
 (Sp.fn v).bind fun x=>(Sp.guard (plainFn P x.1)).bind fun _=>(Sp.call P x.1 (argsOf x.2.1 as x.2.2)).bind fun v=>destr P t v
def callS (P:Program) (ev:Operand->Value) (c:Call) (t:TypeId):Sp Value:=
 match c.callee with
 |.builtin b=>bltS P b c.argTypes t (c.args.toList.map ev).toArray
 |.value (.func f)=>match isExt P f with
  |true=>(Sp.fn (ev (.func f))).bind fun x=>(Sp.sem P (entS x.1 (argsOf x.2.1 (c.args.toList.map ev) x.2.2))).bind fun v=>destr P t v
  |false=>callF P ev (.func f) c.args t
 |.value f=>callF P ev f c.args t
 |.invoke r n=>(Sp.sem P (methV (ev r) n)).bind fun v=>callV P v (c.args.toList.map ev) t
theorem does_callF (P:Program) (ev:Operand->Value) (f:Operand) (args:Array Operand) (t:TypeId):Does P (do let d ←Deferred.ofValue (ev f) (args.map ev);invoke d.target d.args) (callF P ev f args t):=by
 unfold callF
 generalize ev f=vf
 intro K E w hx
 obtain ⟨g,first,cap,rfl,hx⟩:=dFn_elim hx
 obtain ⟨hp,hx⟩:=gB_elim hx
 have hp:plainFn P g=true:=hp
 have hx:HCalls P g (argsOf first (args.toList.map ev) cap) w.heap (Sp.retK (fun v H'=>(destr P t v).run K E H') E):=hx
 have hx2:HCalls P g (argsOf first (args.toList.map ev) cap) w.heap (Sp.retK K E):=hx.mono fun e H' h'=>by
  cases e<;>first|exact h'.elim|exact destr_elim h'|exact h'
 have ea:argsOf first (args.toList.map ev) cap=first++args.map ev++cap:=by
  unfold argsOf;apply Array.toList_inj.1;simp
 rw [ea] at hx2
 unfold plainFn at hp
 cases hfn:P.funcs[g]? with
 |none=>rw [hfn] at hp;cases hp
 |some fn=>
  rw [hfn] at hp
  simp only at hp
  cases hn:(fn.name== "runtime.NumGoroutine") with
  |true=>rw [hn] at hp;cases hp
  |false=>
   rw [hn] at hp
   simp only at hp
   have hb:fn.body.isNone=false:=by cases hfb:fn.body<;>simp_all
   have hrun:(Sem.run P (do let d ←(Deferred.ofValue (.func (.func g) first cap) (args.map ev));invoke d.target d.args) w)=.ok (.enter g (first++args.map ev++cap)) w:=by
    have hn': ¬(fn.name= "runtime.NumGoroutine"):=by simpa using hn
    have hb': ¬(fn.body=none):=by intro h;rw [h] at hb;cases hb
    simp [Deferred.ofValue,invoke,callFunc,hfn,hn',hb']
   rw [hrun]
   exact ⟨hx2,Like.refl w⟩
theorem run_plain {P:Program} {g:FuncId} (hp:plainFn P g=true) (args:Array Value) (w:World):(callFunc g args).run P w=.ok (.enter g args) w:=by
 unfold plainFn at hp
 cases hfn:P.funcs[g]? with
 |none=>rw [hfn] at hp;cases hp
 |some fn=>
  rw [hfn] at hp
  simp only at hp
  cases hn:(fn.name== "runtime.NumGoroutine") with
  |true=>rw [hn] at hp;cases hp
  |false=>
   rw [hn] at hp
   simp only at hp
   have hn': ¬(fn.name= "runtime.NumGoroutine"):=by simpa using hn
   have hb': ¬(fn.body=none):=by intro h;rw [h] at hp;cases hp
   simp [callFunc,hfn,hn',hb']
theorem does_inv (P:Program) (recv:Value) (name:String) (as:Array Value) (t:TypeId):Does P (invoke (.fn (.method name) #[]) (#[recv]++as)) ((Sp.sem P (methV recv name)).bind fun v=>callV P v as.toList t):=by
 intro K E w hx
 have hx:semW P (methV recv name) E w.heap (fun v H'=>(callV P v as.toList t).run K E H'):=hx
 have h1:=hx.run w rfl
 have e:(invoke (.fn (.method name) #[]) (#[recv]++as)).run P w=(callMethod recv name as).run P w:=by
  have e0:(#[recv]++as)[0]? =some recv:=by rw [Array.getElem?_append_left (by simp)];rfl
  have e1:(#[recv]++as).extract 1 (#[recv]++as).size=as:=by simp
  have e2:invoke (.fn (.method name) #[]) (#[recv]++as)=(match (#[recv]++as)[0]? with|some r=>callMethod r name ((#[recv]++as).extract 1 (#[recv]++as).size)|none=>stuck "call: a method without a receiver"):=by
   unfold invoke;simp only [];cases (#[recv]++as)[0]? <;>rfl
  rw [e2,e0,e1]
 rw [e]
 obtain ⟨t',v,rfl⟩: ∃t' v,recv=.iface t' v:=by
  cases recv with
  |iface t' v=>exact ⟨t',v,rfl⟩
  |_=>exact (show False from h1).elim
 have e1:(methV (.iface t' v) name).run P w=((method (P.types.size+Made.depth) t' v name).run P w).andThen fun x w'=>.ok (.func (.func x.1) #[x.2] #[]) w':=by
  simp only [methV,Sem.run_bind];rfl
 have e2:(callMethod (.iface t' v) name as).run P w=((method (P.types.size+Made.depth) t' v name).run P w).andThen fun x w'=>(callFunc x.1 (#[x.2]++as)).run P w':=by
  simp only [callMethod,Sem.run_bind];rfl
 rw [e1] at h1
 rw [e2]
 cases hr:(method (P.types.size+Made.depth) t' v name).run P w with
 |halt x w'=>rw [hr] at h1;cases x<;>first|exact h1.elim|exact h1
 |ok x w'=>
  rw [hr] at h1
  obtain ⟨h2,hl⟩:=h1
  have h2:(callV P (.func (.func x.1) #[x.2] #[]) as.toList t).run K E w'.heap:=h2
  have h2:gB (plainFn P x.1) (HCalls P x.1 (argsOf #[x.2] as.toList #[]) w'.heap (Sp.retK (fun v H'=>(destr P t v).run K E H') E)):=h2
  obtain ⟨hp,h2⟩:=gB_elim h2
  have hp:plainFn P x.1=true:=hp
  have h2:HCalls P x.1 (argsOf #[x.2] as.toList #[]) w'.heap (Sp.retK (fun v H'=>(destr P t v).run K E H') E):=h2
  have h3:HCalls P x.1 (argsOf #[x.2] as.toList #[]) w'.heap (Sp.retK K E):=h2.mono fun e H' h'=>by
   cases e<;>first|exact h'.elim|exact destr_elim h'|exact h'
  have ea:argsOf #[x.2] as.toList #[]=#[x.2]++as:=by
   unfold argsOf;apply Array.toList_inj.1;simp
  rw [ea] at h3
  show Outcome _ _ w ((callFunc x.1 (#[x.2]++as)).run P w')
  rw [run_plain hp]
  exact ⟨h3,hl⟩
theorem run_ext {P:Program} {f:FuncId} (args:Array Value) (K:Value->Heap->Prop) (E:List PanicEntry->Heap->Prop) (w:World) (hx:Outcome K (fun v H'=>E [{ v,recovered:=false }] H') w ((entS f args).run P w)):
  Outcome (nextK P K E) (fun v H'=>E [{ v,recovered:=false }] H') w ((callFunc f args).run P w):=by
 unfold entS at hx
 rw [Sem.run_bind] at hx
 cases hr:(callFunc f args).run P w with
 |ok v w'=>rw [hr] at hx;cases v<;>first|exact hx.elim|exact hx
 |halt x w'=>rw [hr] at hx;cases x<;>first|exact hx.elim|exact hx
theorem does_call (P:Program) (ev:Operand->Value) (c:Call) (t:TypeId):Does P (do let d ←resolve ev c t;invoke d.target d.args) (callS P ev c t):=by
 obtain ⟨callee,args,ats⟩:=c
 unfold callS resolve
 cases callee with
 |builtin b=>
  have e:(args.toList.map ev).toArray=args.map ev:=Array.toList_inj.1 (by simp)
  show Does P (builtin b ats t _ (args.map ev)) (bltS P b ats t (args.toList.map ev).toArray)
  rw [e]
  exact does_blt P b ats t _ _
 |invoke r n=>
  have h:=does_inv P (ev r) n (args.map ev) t
  have e:(args.map ev).toList=args.toList.map ev:=by simp
  rw [e] at h
  exact h
 |value f=>
  cases f with
  |func g=>
   simp only
   cases hx:isExt P g with
   |false=>exact does_callF P ev (.func g) args t
   |true=>
    show Does P (do let d ←Deferred.ofValue (ev (.func g)) (args.map ev);invoke d.target d.args) ((Sp.fn (ev (.func g))).bind fun x=>(Sp.sem P (entS x.1 (argsOf x.2.1 (args.toList.map ev) x.2.2))).bind fun v=>destr P t v)
    generalize ev (.func g)=vf
    intro K E w hk
    obtain ⟨g',first,cap,rfl,hk⟩:=dFn_elim hk
    have hk2:semW P (entS g' (argsOf first (args.toList.map ev) cap)) E w.heap (fun v H'=>(destr P t v).run K E H'):=hk
    have ea:argsOf first (args.toList.map ev) cap=first++args.map ev++cap:=by
     unfold argsOf;apply Array.toList_inj.1;simp
    rw [ea] at hk2
    have h3:=run_ext (first++args.map ev++cap) K E w ((hk2.run w rfl).mono (fun v H' h'=>destr_elim h') (fun _ _ h'=>h'))
    have e3:Sem.run P (do let d ←(Deferred.ofValue (.func (.func g') first cap) (args.map ev));invoke d.target d.args) w=(callFunc g' (first++args.map ev++cap)).run P w:=by
     simp [Deferred.ofValue,invoke]
    rw [e3]
    exact h3
  |_=>exact does_callF P ev _ args t
def skipS {α:Type} (x:Sp α):Sp Value:=x.bind fun _=>.pure undef
def pickV (c:Bool) (a b:Value):Option Value:=match a,b with
 |.bool x,.bool y=>some (.bool (cond c x y))
 |_,_=>none
theorem pickV_eq {c:Bool} {a b v:Value} (h:pickV c a b=some v):v=if c=true then a else b:=by
 unfold pickV at h
 split at h
 ·cases h;cases c<;>rfl
 cases h
def pickS (c a b:Value):Sp Value:=(Sp.bool' c).bind fun t=>match pickV t a b with
 |some v=>.pure v
 |none=>(Sp.split t).bind fun t=>match t with|true=>.pure a|false=>.pure b
theorem pickS_elim {c a b:Value} {K:Value->Heap->Prop} {E:List PanicEntry->Heap->Prop} {H:Heap} (h:(pickS c a b).run K E H): ∃t,c=.bool t/\K (if t=true then a else b) H:=by
 obtain ⟨t,rfl,h⟩:=dBl_elim h
 refine ⟨t,rfl,?_⟩
 cases hp:pickV t a b with
 |some v=>
  have h:(match pickV t a b with
   |some v=>Sp.pure v
   |none=>(Sp.split t).bind fun t=>match t with|true=>.pure a|false=>.pure b:Sp Value).run K E H:=h
  rw [hp] at h
  rw [←pickV_eq hp];exact h
 |none=>
  have h:(match pickV t a b with
   |some v=>Sp.pure v
   |none=>(Sp.split t).bind fun t=>match t with|true=>.pure a|false=>.pure b:Sp Value).run K E H:=h
  rw [hp] at h
  cases t<;>exact h
def mapS (P:Program) (t:TypeId) (r:Option Value):Sp Value:=
 match r with
 |none=>(Sp.new (.map #[] 0)).bind fun b=>.pure (.map (some b))
 |some _=>.fail
def dNx (v:Value) (x:Prop) (k:Value->Value->Prop):Prop:=match v with
 |.tuple cs=>match cs.toList with
  |[.bool false]=>x
  |[.bool true,a,b]=>k a b
  |_=>False
 |_=>False
theorem dNx_elim {v:Value} {K:Value->Prop} (h:dNx v (K (.tuple #[.bool false])) (fun a b=>K (.tuple #[.bool true,a,b]))):K v:=by
 unfold dNx at h
 split at h
 ·rename_i cs
  split at h
  ·rename_i hc
   have:cs=#[.bool false]:=Array.toList_inj.1 hc
   subst this;exact h
  ·rename_i a b hc
   have:cs=#[.bool true,a,b]:=Array.toList_inj.1 hc
   subst this;exact h
  exact h.elim
 exact h.elim
def nextD (v:Value):Sp Value:=⟨fun K _ H=>dNx v (K (.tuple #[.bool false]) H) (fun a b=>K (.tuple #[.bool true,a,b]) H),fun hk _ h=>by
 unfold dNx at h ⊢
 split at h
 ·split at h<;>first|exact hk _ _ h|exact h.elim
 exact h.elim⟩
theorem nextD_elim {v:Value} {K:Value->Heap->Prop} {E:List PanicEntry->Heap->Prop} {H:Heap} (h:(nextD v).run K E H):K v H:=dNx_elim (K:=fun v=>K v H) h
theorem tup2_elim {v:Value} {K:Value->Heap->Prop} {E:List PanicEntry->Heap->Prop} {H:Heap} (h:((Sp.tupN 2 v).bind fun l=>.pure (.tuple l.toArray)).run K E H):K v H:=by
 obtain ⟨l,rfl,_,h'⟩:=dT_elim h;exact h'
theorem Gives.thenV {P:Program} {s:Sem Value} {x:Sp Value} {f:Value->Sp Value} (h:Gives P s x) (hf: ∀ {v:Value} {K:Value->Heap->Prop} {E:List PanicEntry->Heap->Prop} {H:Heap},(f v).run K E H->K v H):Gives P s (x.bind f):=
 fun K E w hx=>h K E w (x.mono (fun _ _ h'=>hf h') (fun _ _ h'=>h') hx)
def opS (P:Program) (ev:Operand->Value) (o:Oper):Sp Value:=
 match o.op with
 |.move x=>moveS (ev x)
 |.assign x=>.pure (ev x)
 |.pick c a b=>pickS (ev c) (ev a) (ev b)
 |.alloc t=>allocS P t
 |.box t x=>boxS P t (ev x)
 |.build t parts=>buildS P t (parts.toList.map fun p=>(p.1,ev p.2))
 |.buildSlice t n parts=>buildSl P t n (parts.toList.map fun p=>(p.1,ev p.2))
 |.load t a=>(addrS (ev a)).bind fun b=>loadS P t b
 |.store t a x=>skipS ((addrS (ev a)).bind fun b=>storeS P t b (ev x))
 |.nilCheck x=>nilS (ev x)
 |.binOp op t x y _=>binS P op t x y (ev x) (ev y)
 |.unOp op _ x=>unS P op (ev x)
 |.convert s d x=>convS P s d (ev x)
 |.makeInterface t x=>ifaceS P t (ev x)
 |.makeFunc fn first cap=>.pure (.func fn (first.toList.map ev).toArray (cap.toList.map ev).toArray)
 |.makeMap t r=>mapS P t (r.map ev)
 |.makeSlice t l c=>makeS P t (ev l) (ev c)
 |.slice t x lo hi mx=>match mx,hi with
  |some _,none=>.fail
  |_,_=>sliceS P t (ev x) (lo.map ev) (hi.map ev) (mx.map ev)
 |.fieldAddr s x f=>fieldS P s (ev x) f
 |.field s x f=>fieldV P s (ev x) f
 |.indexAddr t x i=>idxA P t (ev x) (ev i)
 |.sliceToArrayPointer t x=>arrS P t (ev x)
 |.index t x i=>idxV P t (ev x) (ev i)
 |.lookup t x i ok=>(Sp.sem P (Instr.lookup t (ev x) (ev i) ok)).bind fun v=>destr P o.type v
 |.mapUpdate t m k x=>skipS (Sp.sem P (Instr.mapUpdate t (ev m) (ev k) (ev x)))
 |.insert t m k x=>skipS (Sp.sem P (Instr.mapUpdate t (ev m) (ev k) (ev x)))
 |.mapEntry t m k=>(Sp.sem P (Instr.mapEntry t (ev m) (ev k))).bind fun v=>destr P o.type v
 |.entryStore t m s x=>skipS (Sp.sem P (Instr.entryStore t (ev m) (ev s) (ev x)))
 |.range t x=>(Sp.sem P (Instr.range t (ev x))).bind fun v=>destr P o.type v
 |.next it b=>(Sp.sem P (Instr.next (ev it) b o.type)).bind fun v=>nextD v
 |.entry it=>(Sp.sem P (Instr.entry (ev it))).bind fun v=>(Sp.tupN 2 v).bind fun l=>.pure (.tuple l.toArray)
 |.typeAssert x t u ok=>(Sp.sem P (Instr.typeAssert (ev x) t u ok)).bind fun v=>destr P o.type v
 |.extract t i=>(extS (ev t) i).bind fun v=>destr P o.type v
 |.call c=>callS P ev c o.type
 |.panic x=>panicS (ev x)
 |_=>.fail
theorem gives_nil {P:Program} {ev:Operand->Value} {x:Operand} {d:Option Tmp} {t:TypeId} {p:String} {af:Array Edge} {g:Option (Nat×Bool)}:Does P (execOp ev ⟨d,.nilCheck x,t,p,af,g⟩) (nilS (ev x)):=by
 unfold nilS
 split
 ·rename_i ao hv
  intro K E w hx
  obtain ⟨a,rfl,hx⟩:=nz_elim (k:=fun a=>K (.pointer (some a)) w.heap) hx
  have:execOp ev ⟨d,.nilCheck x,t,p,af,g⟩=Pure.pure (.value (.pointer (some a))):=by simp only [execOp,hv]
  rw [this];exact ⟨hx,Like.refl w⟩
 ·rename_i f a b hv
  intro K E w hx
  have:execOp ev ⟨d,.nilCheck x,t,p,af,g⟩=Pure.pure (.value (.func (.func f) a b)):=by simp only [execOp,hv]
  rw [this];exact ⟨hx,Like.refl w⟩
 ·rename_i f a b hv
  intro K E w hx
  have:execOp ev ⟨d,.nilCheck x,t,p,af,g⟩=Pure.pure (.value (.func (.yield f) a b)):=by simp only [execOp,hv]
  rw [this];exact ⟨hx,Like.refl w⟩
 ·rename_i t' v' hv
  intro K E w hx
  have:execOp ev ⟨d,.nilCheck x,t,p,af,g⟩=Pure.pure (.value (.iface t' v')):=by simp only [execOp,hv]
  rw [this];exact ⟨hx,Like.refl w⟩
 exact fun _ _ _ h=>h.elim
theorem does_pick (P:Program) (c a b:Value):Does P (do Pure.pure (Next.value (if ←asBool c then a else b))) (pickS c a b):=fun K E w hx=>by
 obtain ⟨t,rfl,h2⟩:=pickS_elim (K:=K) (E:=E) hx
 exact ⟨h2,Like.refl w⟩
theorem gives_map (P:Program) (t:TypeId) (r:Option Value):Gives P (Instr.makeMap t r) (mapS P t r):=by
 cases r with
 |none=>exact fun K E w hx=>⟨hx,rfl,rfl,rfl⟩
 |some v=>exact .fail _
theorem does_op (P:Program) (ev:Operand->Value) (o:Oper):Does P (execOp ev o) (opS P ev o):=by
 obtain ⟨d,op,t,p,af,g⟩:=o
 cases op
 case move x=>exact (gives_move (q:=false) P _).gives.does
 case assign x=>exact fun K E w hx=>⟨hx,Like.refl w⟩
 case pick c a b=>exact does_pick P _ _ _
 case alloc e=>exact (gives_alloc P _).does
 case box e v=>exact (gives_box P _ _).does
 case load e a=>exact (Gq.bind (gives_sure P _) fun b=>gives_load P _ b).gives.does
 case store e a v=>exact (Gives.bind (gives_sure (b:=false) P _).gives fun b=>gives_storeVar P _ b _).skips
 case nilCheck x=>exact gives_nil
 case binOp op e x y e2=>exact (gives_bin P _ _ _ _ _ _).does
 case unOp op e x=>exact (gives_un P _ _).does
 case convert e1 e2 x=>exact (gives_conv P _ _ _).does
 case makeInterface e x=>exact (gives_iface (q:=false) P _ _).gives.does
 case makeMap e r=>exact (gives_map P _ _).does
 case makeSlice e l c=>exact (gives_make P _ _ _).does
 case fieldAddr e x f=>exact (gives_field (q:=false) P _ _ _).gives.does
 case field e x f=>exact (gives_fieldV (q:=false) P _ _ _).gives.does
 case indexAddr e x i=>exact (gives_idxA (q:=false) P _ _ _).gives.does
 case index e x i=>exact (gives_idxV (q:=false) P _ _ _).gives.does
 case extract e i=>exact (Gq.destr (gives_ext (q:=false) P _ _)).gives.does
 case call c=>exact does_call P ev _ t
 case panic x=>exact (gives_panic P _).does
 case lookup e x i ok=>exact (Gives.destr (Gives.sem _)).does
 case mapEntry e m k=>exact (Gives.destr (Gives.sem _)).does
 case range e x=>exact (Gives.destr (Gives.sem _)).does
 case next it b=>exact (Gives.thenV (Gives.sem _) nextD_elim).does
 case entry it=>exact (Gives.thenV (Gives.sem _) tup2_elim).does
 case typeAssert x e1 e2 ok=>exact (Gives.destr (Gives.sem _)).does
 case mapUpdate e m k v=>exact (Gives.sem _).skips
 case insert e m k v=>exact (Gives.sem _).skips
 case entryStore e m s v=>exact (Gives.sem _).skips
 case ready g=>exact fun _ _ _ h=>h.elim
 case waits g=>exact fun _ _ _ h=>h.elim
 case sliceToArrayPointer e x=>exact (gives_arr (q:=false) P _ _).gives.does
 case makeChan e x=>exact fun _ _ _ h=>h.elim
 case go c=>exact fun _ _ _ h=>h.elim
 case defer c=>exact fun _ _ _ h=>h.elim
 case send c x=>exact fun _ _ _ h=>h.elim
 case recv e c ok=>exact fun _ _ _ h=>h.elim
 case select cs b=>exact fun _ _ _ h=>h.elim
 case build t parts=>
  have e:(parts.map fun p:Nat×Operand=>(p.1,ev p.2)).toList=parts.toList.map fun p=>(p.1,ev p.2):=by simp
  have h:=gives_build (q:=false) P t (parts.map fun p:Nat×Operand=>(p.1,ev p.2))
  rw [e] at h
  exact h.gives.does
 case buildSlice t n parts=>
  have e:(parts.map fun p:Nat×Operand=>(p.1,ev p.2)).toList=parts.toList.map fun p=>(p.1,ev p.2):=by simp
  have h:=gives_buildSl P t n (parts.map fun p:Nat×Operand=>(p.1,ev p.2))
  rw [e] at h
  exact h.does
 case makeFunc fn first cap=>
  have h:Gives P (Instr.makeFunc fn (first.map ev) (cap.map ev)) (.pure (.func fn (first.toList.map ev).toArray (cap.toList.map ev).toArray)):=by
   have e1:(first.toList.map ev).toArray=first.map ev:=Array.toList_inj.1 (by simp)
   have e2:(cap.toList.map ev).toArray=cap.map ev:=Array.toList_inj.1 (by simp)
   rw [e1,e2];exact .pure _
  exact h.does
 case slice t x lo hi mx=>
  cases mx with
  |none=>exact (gives_slice (q:=false) P t (ev x) (lo.map ev) (hi.map ev) none (by simp)).gives.does
  |some m=>
   cases hi with
   |none=>exact fun _ _ _ h=>h.elim
   |some h=>exact (gives_slice (q:=false) P t (ev x) (lo.map ev) (some (ev h)) (some (ev m)) (by simp)).gives.does
end Go.Proofs.YtkaikaodhegmhaaGreat.E
namespace Go.Proofs.YtkaikaodhegmhaaGreat.E
open Go
set_option linter.unusedVariables false
def takeS (P:Program) (ev:Operand->Value) (o:Oper):Option (Bool×Sp Value):=
 match o.op with
 |.move x=>some (false,moveS (ev x))
 |.assign x=>some (false,.pure (ev x))
 |.pick c a b=>some (false,pickS (ev c) (ev a) (ev b))
 |.build t parts=>some (false,buildS P t (parts.toList.map fun p=>(p.1,ev p.2)))
 |.load t a=>some (true,(addrS (ev a)).bind fun b=>loadS P t b)
 |.nilCheck x=>some (false,nilS (ev x))
 |.binOp op t x y _=>match plainOps (ev x) (ev y) with
  |true=>some (false,binS P op t x y (ev x) (ev y))
  |false=>none
 |.unOp op _ x=>match plainUn op (ev x) with
  |true=>some (false,unS P op (ev x))
  |false=>none
 |.convert s d x=>match plainConv P s d with
  |true=>some (false,convS P s d (ev x))
  |false=>none
 |.makeInterface t x=>some (false,ifaceS P t (ev x))
 |.makeFunc fn first cap=>some (false,.pure (.func fn (first.toList.map ev).toArray (cap.toList.map ev).toArray))
 |.slice t x lo hi mx=>match mx,hi with
  |some _,none=>none
  |_,_=>some (false,sliceS P t (ev x) (lo.map ev) (hi.map ev) (mx.map ev))
 |.fieldAddr s x f=>some (false,fieldS P s (ev x) f)
 |.field s x f=>some (false,fieldV P s (ev x) f)
 |.indexAddr t x i=>some (false,idxA P t (ev x) (ev i))
 |.sliceToArrayPointer t x=>some (false,arrS P t (ev x))
 |.index t x i=>some (false,idxV P t (ev x) (ev i))
 |.extract t i=>some (false,(extS (ev t) i).bind fun v=>destr P o.type v)
 |_=>none
def DoesQ (b:Bool) (P:Program) (s:Sem Next) (x:Sp Value):Prop:=
 ∀(K:Value->Heap->Prop) (E:List PanicEntry->Heap->Prop) (H:Heap),x.run K E H->∃v,K v H/\∀w:World,(b=true->w.heap=H)->s.run P w=.ok (.value v) w
theorem Gq.doesQ {b:Bool} {P:Program} {s:Sem Value} {x:Sp Value} (h:Gq b P s x):DoesQ b P (do Pure.pure (Next.value (←s))) x:=fun K E H hx=>by
 obtain ⟨v,hv,hr⟩:=h K E H hx
 exact ⟨v,hv,fun w hw=>by rw [Sem.run_bind,hr w hw];rfl⟩
theorem doesQ_pure {b:Bool} {P:Program} (v:Value):DoesQ b P (Pure.pure (.value v)) (.pure v):=fun K E H hx=>⟨v,hx,fun _ _=>rfl⟩
theorem doesQ_nil {b:Bool} {P:Program} {ev:Operand->Value} {x:Operand} {d:Option Tmp} {t:TypeId} {p:String} {af:Array Edge} {g:Option (Nat×Bool)}:DoesQ b P (execOp ev ⟨d,.nilCheck x,t,p,af,g⟩) (nilS (ev x)):=by
 unfold nilS
 split
 ·rename_i ao hv
  intro K E H hx
  obtain ⟨a,rfl,hx⟩:=nz_elim (k:=fun a=>K (.pointer (some a)) H) hx
  have:execOp ev ⟨d,.nilCheck x,t,p,af,g⟩=Pure.pure (.value (.pointer (some a))):=by simp only [execOp,hv]
  rw [this];exact ⟨_,hx,fun _ _=>rfl⟩
 ·rename_i f a b hv
  intro K E H hx
  have:execOp ev ⟨d,.nilCheck x,t,p,af,g⟩=Pure.pure (.value (.func (.func f) a b)):=by simp only [execOp,hv]
  rw [this];exact ⟨_,hx,fun _ _=>rfl⟩
 ·rename_i f a b hv
  intro K E H hx
  have:execOp ev ⟨d,.nilCheck x,t,p,af,g⟩=Pure.pure (.value (.func (.yield f) a b)):=by simp only [execOp,hv]
  rw [this];exact ⟨_,hx,fun _ _=>rfl⟩
 ·rename_i t' v' hv
  intro K E H hx
  have:execOp ev ⟨d,.nilCheck x,t,p,af,g⟩=Pure.pure (.value (.iface t' v')):=by simp only [execOp,hv]
  rw [this];exact ⟨_,hx,fun _ _=>rfl⟩
 exact fun _ _ _ h=>h.elim
theorem doesQ_pick {b:Bool} (P:Program) (c x y:Value):DoesQ b P (do Pure.pure (Next.value (if ←asBool c then x else y))) (pickS c x y):=fun K E H hx=>by
 obtain ⟨t,rfl,h2⟩:=pickS_elim (K:=K) (E:=E) hx
 exact ⟨_,h2,fun _ _=>rfl⟩
theorem take_does {P:Program} {ev:Operand->Value} {o:Oper} {b:Bool} {x:Sp Value} (h:takeS P ev o=some (b,x)):DoesQ b P (execOp ev o) x:=by
 obtain ⟨d,op,t,p,af,g⟩:=o
 cases op<;>first|(cases h;done)|skip
 case move x=>cases h;exact (gives_move P _).doesQ
 case assign x=>cases h;exact doesQ_pure _
 case pick c a b=>cases h;exact doesQ_pick P _ _ _
 case build t parts=>
  cases h
  have e:(parts.map fun p:Nat×Operand=>(p.1,ev p.2)).toList=parts.toList.map fun p=>(p.1,ev p.2):=by simp
  have h:=gives_build (q:=false) P t (parts.map fun p:Nat×Operand=>(p.1,ev p.2))
  rw [e] at h
  exact h.doesQ
 case load t a=>cases h;exact (Gq.bind (gives_sure P _) fun b=>gives_load P _ b).doesQ
 case nilCheck x=>cases h;exact doesQ_nil
 case binOp op t x y t'=>
  unfold takeS at h;simp only at h
  split at h
  ·rename_i hp;cases h;exact (gives_binq (q:=false) P _ _ _ _ _ _ hp).doesQ
  cases h
 case unOp op t x=>
  unfold takeS at h;simp only at h
  split at h
  ·rename_i hp;cases h;exact (gives_unq (q:=false) P _ _ hp).doesQ
  cases h
 case convert s d' x=>
  unfold takeS at h;simp only at h
  split at h
  ·rename_i hp;cases h;exact (gives_convq (q:=false) P _ _ _ hp).doesQ
  cases h
 case makeInterface t x=>cases h;exact (gives_iface (q:=false) P _ _).doesQ
 case makeFunc fn first cap=>
  cases h
  have hh:Gq false P (Instr.makeFunc fn (first.map ev) (cap.map ev)) (.pure (.func fn (first.toList.map ev).toArray (cap.toList.map ev).toArray)):=by
   have e1:(first.toList.map ev).toArray=first.map ev:=Array.toList_inj.1 (by simp)
   have e2:(cap.toList.map ev).toArray=cap.map ev:=Array.toList_inj.1 (by simp)
   rw [e1,e2];exact Gq.pure _
  exact hh.doesQ
 case slice t x lo hi mx=>
  cases mx with
  |none=>cases h;exact (gives_slice (q:=false) P t (ev x) (lo.map ev) (hi.map ev) none (by simp)).doesQ
  |some m=>
   cases hi with
   |none=>cases h
   |some hh=>cases h;exact (gives_slice (q:=false) P t (ev x) (lo.map ev) (some (ev hh)) (some (ev m)) (by simp)).doesQ
 case fieldAddr e x f=>cases h;exact (gives_field (q:=false) P _ _ _).doesQ
 case field e x f=>cases h;exact (gives_fieldV (q:=false) P _ _ _).doesQ
 case indexAddr e x i=>cases h;exact (gives_idxA (q:=false) P _ _ _).doesQ
 case sliceToArrayPointer e x=>cases h;exact (gives_arr (q:=false) P _ _).doesQ
 case index e x i=>cases h;exact (gives_idxV (q:=false) P _ _ _).doesQ
 case extract e i=>cases h;exact (Gq.destr (gives_ext (q:=false) P _ _)).doesQ
def isG (ops:Array Oper) (o:Oper):Bool:=match o.dst with
 |none=>false
 |some d=>ops.toList.any fun o'=>match o'.guard with
  |none=>false
  |some (j,_)=>match ops.toList[j]? with
   |none=>false
   |some oj=>match oj.dst with
    |none=>false
    |some d'=>Nat.beq d d'
def splitG (f:Bool) (v:Value):Sp Value:=match f with
 |false=>.pure v
 |true=>match v with
  |.bool b=>(Sp.split b).bind fun c=>.pure (.bool c)
  |v=>.pure v
theorem splitG_elim {f:Bool} {v:Value} {K:Value->Heap->Prop} {E:List PanicEntry->Heap->Prop} {H:Heap} (h:(splitG f v).run K E H):K v H:=by
 cases f with
 |false=>exact h
 |true=>
  cases v<;>first|exact h|skip
  rename_i b
  cases b<;>exact h
def spG (ops:Array Oper) (o:Oper) (x:Sp Value):Sp Value:=x.bind fun v=>splitG (isG ops o) v
theorem spG_elim {ops:Array Oper} {o:Oper} {x:Sp Value} {K:Value->Heap->Prop} {E:List PanicEntry->Heap->Prop} {H:Heap} (h:(spG ops o x).run K E H):x.run K E H:=
 x.mono (fun _ _ h'=>splitG_elim h') (fun _ _ h'=>h') h
inductive TP (ops:Array Oper):Nat->Nat->Prop
 |one {i j:Nat} {o:Oper} {e:Edge}:ops[j]? =some o->e∈o.after->Region.binds .any e=true->e.on=i->TP ops i j
 |more {i j:Nat} {o:Oper} {e:Edge}:ops[j]? =some o->e∈o.after->Region.binds .any e=true->TP ops i e.on->TP ops i j
def maskOf (acc:List Nat):List Edge->Nat
 |[]=>0
 |e::r=>match Region.binds .any e with
  |true=>maskOf acc r|||(2^e.on|||acc.getD e.on 0)
  |false=>maskOf acc r
def masksGo :List Oper->List Nat->List Nat
 |[],acc=>acc
 |o::r,acc=>masksGo r (acc++[maskOf acc o.after.toList])
def masks (ops:Array Oper):List Nat:=masksGo ops.toList []
def sc (ms:List Nat) (i j:Nat):Bool:=(ms.getD j 0).testBit i
theorem maskOf_spec (acc:List Nat) (i:Nat): ∀es:List Edge,(maskOf acc es).testBit i=true->∃e∈es,Region.binds .any e=true/\(e.on=i∨(acc.getD e.on 0).testBit i=true)
 |[],h=>by simp [maskOf] at h
 |e::r,h=>by
  unfold maskOf at h
  cases hb:Region.binds .any e with
  |false=>
   rw [hb] at h
   obtain ⟨e',he,h'⟩:=maskOf_spec acc i r h
   exact ⟨e',List.mem_cons_of_mem _ he,h'⟩
  |true=>
   rw [hb] at h
   simp only [Nat.testBit_or,Bool.or_eq_true,Nat.testBit_two_pow,decide_eq_true_eq] at h
   rcases h with h|h|h
   ·obtain ⟨e',he,h'⟩:=maskOf_spec acc i r h
    exact ⟨e',List.mem_cons_of_mem _ he,h'⟩
   ·exact ⟨e,List.mem_cons_self,hb,.inl h⟩
   exact ⟨e,List.mem_cons_self,hb,.inr h⟩
theorem masksGo_spec (ops:Array Oper): ∀(l:List Oper) (acc:List Nat),(∀k o,l[k]? =some o->ops[acc.length+k]? =some o)->
  (∀i j,(acc.getD j 0).testBit i=true->TP ops i j)->∀i j,((masksGo l acc).getD j 0).testBit i=true->TP ops i j
 |[],acc,_,h=>h
 |o::r,acc,hl,h=>by
  unfold masksGo
  refine masksGo_spec ops r _ (fun k o' hk=>?_) (fun i j hij=>?_)
  ·have:=hl (k+1) o' (by simpa using hk)
   simpa [Nat.add_assoc,Nat.add_comm 1 k] using this
  ·by_cases hj:j<acc.length
   ·rw [List.getD_eq_getElem?_getD,List.getElem?_append_left hj, ←List.getD_eq_getElem?_getD] at hij;exact h i j hij
   ·by_cases hj2:j=acc.length
    ·subst hj2
     have hij:(maskOf acc o.after.toList).testBit i=true:=by simpa using hij
     obtain ⟨e,he,hb,h'⟩:=maskOf_spec acc i _ hij
     have ho:ops[acc.length]? =some o:=by simpa using hl 0 o (by simp)
     rcases h' with h'|h'
     ·exact .one ho (by simpa using he) hb h'
     ·exact .more ho (by simpa using he) hb (h i _ h')
    ·have hn:(acc++[maskOf acc o.after.toList]).getD j 0=0:=by
      rw [List.getD_eq_getElem?_getD,List.getElem?_eq_none (by simp;omega)];rfl
     rw [hn] at hij;simp at hij
theorem masks_spec (ops:Array Oper) (i j:Nat) (h:sc (masks ops) i j=true):TP ops i j:=
 masksGo_spec ops ops.toList [] (fun k o hk=>by simpa using hk) (fun i j h=>by simp at h) i j h
def Down (ops:Array Oper) (listed:Array Bool):Prop:=∀j o,ops[j]? =some o->listed.getD j false=true->∀e∈o.after,Region.binds .any e=true->listed.getD e.on false=true
theorem down_tp {ops:Array Oper} {listed:Array Bool} (hd:Down ops listed) {i j:Nat} (h:TP ops i j): ∀o,ops[j]? =some o->(∀e∈o.after,Region.binds .any e=true->listed.getD e.on false=true)->listed.getD i false=true:=by
 induction h with
 |one ho he hb hi=>intro o' ho' hall;rw [ho] at ho';cases ho';rw [←hi];exact hall _ he hb
 | @more j o e ho he hb htp ih=>
  intro o' ho' hall
  rw [ho] at ho';cases ho'
  have h1:=hall e he hb
  cases hk:ops[e.on]? with
  |none=>
   cases htp with
   |one h2=>rw [hk] at h2;cases h2
   |more h2=>rw [hk] at h2;cases h2
  |some ok=>exact ih ok hk (hd e.on ok hk h1)
end Go.Proofs.YtkaikaodhegmhaaGreat.E
