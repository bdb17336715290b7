/- My own texts, joined. -/
import Derived.KernelRfl
import Derived.Test.YtkaikaodhegmhaaGreatProg
import Derived.Test.YtkaikaodhegmhaaGreatSS9
namespace Go.Proofs.YtkaikaodhegmhaaGreat.E
open Go Go.Proofs Go.RowKit Go.Maps Go.Shelf Go.Sort
set_option linter.unusedVariables false
set_option linter.unusedSimpArgs false
structure Coh (C:CacheM) (bs:List (List UInt8)):Prop where
 eq: ∀x∈C.l,bs[x.blk.toNat]? =some x.by_
 pin: ∀x∈C.l,x.pins=0
structure CacheV (s:TH) (c T d:Nat) (bs:List (List UInt8)) (n:Int):Prop where
 p: ∃C,Cache s c T d C/\Coh C bs/\C.clock<=n/\C.hits<=n/\C.misses<=n
theorem CacheV.mv {s s':TH} {c T d:Nat} {bs:List (List UInt8)} {n:Int} {B:Nat->Prop} (h:CacheV s c T d bs n) (k:Chg B s s') (hn: ∀j,j<s.h.size->T<=s.g j->s.g j<T+10->¬B j):CacheV s' c T d bs n:=by
 obtain ⟨C,h1,h2⟩:=h
 exact ⟨C,h1.mv k hn,h2⟩
theorem Coh.free {C:CacheM} {bs:List (List UInt8)} (h:Coh C bs) (hb:1<=C.bound): ∃l,C.room=some l/\l.Sublist C.l:=by
 have:C.room≠none:=by
  unfold CacheM.room
  by_cases hl:(C.l.length:Int)<C.bound
  ·rw [if_pos hl];simp
  rw [if_neg hl]
  have hne:C.l≠[]:=fun e=>by rw [e] at hl;simp at hl;omega
  obtain ⟨x,l,e⟩:=List.exists_cons_of_ne_nil hne
  unfold freeB
  rw [e,List.find?_cons,show (x.pins==0)=true by rw [h.pin x (by rw [e];simp)];rfl]
  simp
 cases hr:C.room with
 |none=>exact absurd hr this
 |some l=>exact ⟨l,rfl,room_mem hr⟩
theorem Coh.get {C:CacheM} {bs:List (List UInt8)} {b:Int} {y:List UInt8} (h:Coh C bs) (hb:1<=C.bound) (hy:bs[b.toNat]? =some y):
  (C.get bs b).2=0/\Coh (C.get bs b).1 bs/\(C.get bs b).1.clock=C.clock+1/\(C.get bs b).1.hits<=C.hits+1/\(C.get bs b).1.misses<=C.misses+1:=by
 cases hf:C.find b with
 |some x=>
  obtain ⟨hx,rfl⟩:=find_mem hf
  rw [get_hit hf]
  refine ⟨rfl,⟨fun z hz=>?_,fun z hz=>?_⟩,rfl,Int.le_refl _,by show C.misses<=C.misses+1;omega⟩
  ·rcases List.mem_append.1 hz with hz|hz
   ·exact h.eq z (rmB_mem.1 hz).1
   ·rw [List.mem_singleton] at hz;subst hz;exact h.eq x hx
  ·rcases List.mem_append.1 hz with hz|hz
   ·exact h.pin z (rmB_mem.1 hz).1
   ·rw [List.mem_singleton] at hz;subst hz;exact h.pin x hx
 |none=>
  obtain ⟨l,hr,hs⟩:=h.free hb
  rw [get_load hf hr hy]
  refine ⟨rfl,⟨fun z hz=>?_,fun z hz=>?_⟩,rfl,by show C.hits<=C.hits+1;omega,Int.le_refl _⟩
  ·rcases List.mem_append.1 hz with hz|hz
   ·exact h.eq z (hs.subset hz)
   ·rw [List.mem_singleton] at hz;subst hz;exact hy
  ·rcases List.mem_append.1 hz with hz|hz
   ·exact h.pin z (hs.subset hz)
   ·rw [List.mem_singleton] at hz;subst hz;rfl
theorem Coh.held {C:CacheM} {bs:List (List UInt8)} {b:Int} {y:List UInt8} (h:Coh C bs) (hb:1<=C.bound) (hy:bs[b.toNat]? =some y):(C.get bs b).1.bytes b=y:=by
 have h1:=(h.get hb hy).2.1
 unfold CacheM.bytes
 have hfd: ∃x,(C.get bs b).1.find b=some x:=by
  cases hf:C.find b with
  |some x=>
   obtain ⟨hx,rfl⟩:=find_mem hf
   rw [get_hit hf]
   have:((rmB C.l x.blk++[{ x with used:=C.clock+1 }]:List BufM).find? fun z:BufM=>z.blk==x.blk).isSome=true:=List.find?_isSome.2 ⟨({ x with used:=C.clock+1 }:BufM),by simp,by simp⟩
   exact Option.isSome_iff_exists.1 this
  |none=>
   obtain ⟨l,hr,hs⟩:=h.free hb
   rw [get_load hf hr hy]
   have:((l++[⟨b,y,0,C.clock+1⟩]:List BufM).find? fun z:BufM=>z.blk==b).isSome=true:=List.find?_isSome.2 ⟨(⟨b,y,0,C.clock+1⟩:BufM),by simp,by simp⟩
   exact Option.isSome_iff_exists.1 this
 obtain ⟨x,hx⟩:=hfd
 rw [hx]
 obtain ⟨hm,hb2⟩:=find_mem hx
 have h2:=h1.eq x hm
 rw [hb2,hy] at h2
 exact (Option.some.inj h2).symm
theorem CacheP.bnd' {s:TH} {c T d:Nat} {C:CacheM} (h:Cache s c T d C):1<=C.bound:=by
 obtain ⟨⟨r,m,bp,bh,hp⟩,ok⟩:=h;exact hp.bnd.1
theorem c_vcGet (τ:Nat) {c T d Td:Nat} {D:DiskM} {b n:Int} {l:List UInt8} {s:TH} (hT:10<=T) (hTd:10<=Td) (hTT:T+10<=Td∨Td+10<=T) (hc:CacheV s c T d D.blocks n) (hd:Disk s d Td D) (hb:D.has b) (hl:D.blocks[b.toNat]? =some l) (hf:D.fails b<=0) (hn:n<9000000000000000000):
  TRet Tryz.prog 113 #[.pointer (some ⟨c,0,none⟩),.int .i64 b] s fun v s'=>∃a cc,v=.tuple #[.slice a 128 cc,.int .i64 0]/\Ch [T,T+1,T+2,T+3] s s'/\CacheV s' c T d D.blocks (n+1)/\Own s' a 128 cc 5 1 (bvs l) τ:=by
 obtain ⟨C,h1,h2,h3,h4,h5⟩:=hc
 have hbd:=CacheP.bnd' h1
 refine (c_Get c T d Td C D b τ s hT hTd hTT h1 hd (fun _=>⟨l,hl⟩) hf (by omega)).mono ?_
 rintro v s' ⟨a,k,cc,e,rfl,hch,hres⟩
 rcases hres with ⟨g1,_⟩|⟨g1,g2,g3,g4⟩
 ·exact absurd hb g1
 ·have g5:=h2.get hbd hl
  rw [g5.1] at g2
  subst g2
  obtain ⟨rfl,g6,g7⟩:=g4 rfl
  rw [h2.held hbd hl] at g6
  exact ⟨a,cc,rfl,hch,⟨_,g3,g5.2.1,by rw [g5.2.2.1];omega,by have:=g5.2.2.2.1;omega,by have:=g5.2.2.2.2;omega⟩,g6⟩
theorem Coh.put {C:CacheM} {bs:List (List UInt8)} {b:Int} {y:List UInt8} (h:Coh C bs) (h0:0<=b) (hb:b<bs.length) (hr: ∀x∈C.l,0<=x.blk):Coh (C.put b y) (bs.set b.toNat y):=by
 refine ⟨fun x hx=>?_,fun x hx=>?_⟩
 ·obtain ⟨z,hz,⟨h1,rfl⟩|⟨h1,rfl⟩⟩:=updB_mem hx
  ·have:=hr _ hz
   rw [List.getElem?_set_ne (by omega)];exact h.eq _ hz
  show (bs.set b.toNat y)[z.blk.toNat]? =some y
  rw [h1,List.getElem?_set_self (by omega)]
 obtain ⟨z,hz,⟨h1,rfl⟩|⟨h1,rfl⟩⟩:=updB_mem hx
 ·exact h.pin _ hz
 exact h.pin z hz
theorem c_vcPut {c T d Td:Nat} {D:DiskM} {b n:Int} {xa:Option Addr} (xc:Nat) {bs:List (List UInt8)} {y:List UInt8} {τx:Nat} {s:TH} (hT:10<=T) (hTd:10<=Td) (hTT:T+10<=Td∨Td+10<=T) (hc:CacheV s c T d bs n) (hd:Disk s d Td D) (hb:D.has b) (hbl:bs.length=D.blocks.length) (hx:Sl s xa (bvs y) τx) (hxl:y.length=128):
  TRet Tryz.prog 276 #[.pointer (some ⟨c,0,none⟩),.int .i64 b,.slice xa 128 xc] s fun v s'=>v=.int .i64 0/\Ch [T,T+1,T+2,T+3] s s'/\CacheV s' c T d (bs.set b.toNat y) n:=by
 obtain ⟨C,h1,h2,h3,h4,h5⟩:=hc
 refine (c_Put c T d Td C D b xc s hT hTd hTT h1 hd hx hxl).mono ?_
 rintro v s' ⟨rfl,hch,hres⟩
 rw [if_pos hb] at hres ⊢
 have hb2:=hb
 unfold DiskM.has at hb2
 refine ⟨rfl,hch,⟨_,hres,h2.put hb2.1 (by rw [hbl];exact hb2.2) (fun x hx=>?_),h3,h4,h5⟩⟩
 obtain ⟨⟨r,m,bp,bh,hp⟩,ok⟩:=h1
 exact (hp.mo.rng x hx).1
structure WayM where
 blk:Int
 by_:List UInt8
 ids:List Int
structure OldM where
 on:Bool
 broken:Bool
 room:Int
 kept:List (Int×List UInt8)
structure VolM where
 D:DiskM
 P:PatchM
 way:List (Int×WayM)
 old:OldM
 n:Int
def WayV (s:TH) (τ:Nat) (v:Value) (w:WayM):Prop:=∃ba bc ia ic,v=.agg #[.int .i64 w.blk,.slice ba 128 bc,.slice ia w.ids.length ic]/\Sl s ba (bvs w.by_) τ/\Sl s ia (ivs w.ids) τ/\w.by_.length=128
theorem WayV.mv {s s':TH} {τ:Nat} {v:Value} {w:WayM} {B:Nat->Prop} (h:WayV s τ v w) (c:Chg B s s') (hn: ∀j,j<s.h.size->s.g j=τ->¬B j):WayV s' τ v w:=by
 obtain ⟨ba,bc,ia,ic,h1,h2,h3,h4⟩:=h
 exact ⟨ba,bc,ia,ic,h1,h2.mv c hn,h3.mv c hn,h4⟩
def WMap (s:TH) (τ:Nat):List (Int×Value)->List (Int×WayM)->Prop
 |[],[]=>True
 |e::m,p::l=>e.1=p.1/\WayV s τ e.2 p.2/\WMap s τ m l
 |_,_=>False
theorem WMap.mv {s s':TH} {τ:Nat} {B:Nat->Prop}: ∀ {m:List (Int×Value)} {l:List (Int×WayM)},WMap s τ m l->Chg B s s'->(∀j,j<s.h.size->s.g j=τ->¬B j)->WMap s' τ m l
 |[],[],h,c,hn=>trivial
 |e::m,p::l,h,c,hn=>⟨h.1,h.2.1.mv c hn,WMap.mv h.2.2 c hn⟩
 |[],_::_,h,_,_=>h.elim
 |_::_,[],h,_,_=>h.elim
theorem WMap.keys {s:TH} {τ:Nat}: ∀ {m:List (Int×Value)} {l:List (Int×WayM)},WMap s τ m l->m.map (·.1)=l.map (·.1)
 |[],[],_=>rfl
 |e::m,p::l,h=>by rw [List.map_cons,List.map_cons,h.1,WMap.keys h.2.2]
 |[],_::_,h=>h.elim
 |_::_,[],h=>h.elim
theorem WMap.mem_ {s:TH} {τ:Nat}: ∀ {m:List (Int×Value)} {l:List (Int×WayM)} {k:Int} {v:Value},WMap s τ m l->(k,v)∈m->∃p∈l,p.1=k/\WayV s τ v p.2
 |[],[],k,v,h,hm=>by cases hm
 |e::m,q::l,k,v,h,hm=>by
  rcases List.mem_cons.1 hm with rfl|hm
  ·exact ⟨q,by simp,h.1.symm,h.2.1⟩
  obtain ⟨p,h1,h2⟩:=WMap.mem_ h.2.2 hm
  exact ⟨p,List.mem_cons_of_mem _ h1,h2⟩
 |[],_::_,_,_,h,_=>h.elim
 |_::_,[],_,_,h,_=>h.elim
theorem WMap.get {s:TH} {τ:Nat}: ∀ {m:List (Int×Value)} {l:List (Int×WayM)} {k:Nat} {p:Int×WayM},WMap s τ m l->(l.map (·.1)).Nodup->l[k]? =some p->∃v,mget p.1 m=some v/\WayV s τ v p.2
 |[],[],k,p,h,hn,hp=>by simp at hp
 |e::m,q::l,k,p,h,hn,hp=>by
  obtain ⟨ek,ev⟩:=e
  have hk:ek=q.1:=h.1
  rw [List.map_cons,List.nodup_cons] at hn
  cases k with
  |zero=>simp at hp;subst hp;exact ⟨ev,by rw [mget,if_pos hk.symm],h.2.1⟩
  |succ k=>
   have hp:l[k]? =some p:=by simpa using hp
   obtain ⟨v,h1,h2⟩:=WMap.get h.2.2 hn.2 hp
   have hne:p.1≠ek:=fun e=>hn.1 (by rw [←hk, ←e];exact List.mem_map.2 ⟨p,List.mem_of_getElem? hp,rfl⟩)
   exact ⟨v,by rw [mget,if_neg hne];exact h1,h2⟩
 |[],_::_,_,_,h,_,_=>h.elim
 |_::_,[],_,_,h,_,_=>h.elim
theorem WMap.snoc {s:TH} {τ:Nat} {v:Value} {p:Int×WayM} (hv:WayV s τ v p.2): ∀ {m:List (Int×Value)} {l:List (Int×WayM)},WMap s τ m l->p.1∉l.map (·.1)->WMap s τ (mset p.1 v m) (l++[p])
 |[],[],h,_=>⟨rfl,hv,trivial⟩
 |e::m,q::l,h,hn=>by
  obtain ⟨k,x⟩:=e
  have hk:k=q.1:=h.1
  rw [List.map_cons,List.mem_cons,not_or] at hn
  show WMap s τ (if p.1=k then (p.1,v)::m else (k,x)::mset p.1 v m) (q::(l++[p]))
  rw [if_neg (by rw [hk];exact hn.1)]
  exact ⟨h.1,h.2.1,WMap.snoc hv h.2.2 hn.2⟩
 |[],_::_,h,_=>h.elim
 |_::_,[],h,_=>h.elim
theorem WMap.del {s:TH} {τ:Nat}: ∀ {m:List (Int×Value)} {l:List (Int×WayM)} {k:Nat} {p:Int×WayM},WMap s τ m l->(l.map (·.1)).Nodup->l[k]? =some p->WMap s τ (mdel p.1 m) (l.eraseIdx k)
 |[],[],k,p,h,hn,hp=>by simp at hp
 |e::m,q::l,k,p,h,hn,hp=>by
  obtain ⟨ek,ev⟩:=e
  have hk:ek=q.1:=h.1
  rw [List.map_cons,List.nodup_cons] at hn
  show WMap s τ (if p.1=ek then m else (ek,ev)::mdel p.1 m) _
  cases k with
  |zero=>simp at hp;subst hp;rw [if_pos hk.symm];exact h.2.2
  |succ k=>
   have hp:l[k]? =some p:=by simpa using hp
   have hne:p.1≠ek:=fun e=>hn.1 (by rw [←hk, ←e];exact List.mem_map.2 ⟨p,List.mem_of_getElem? hp,rfl⟩)
   rw [if_neg hne]
   exact ⟨h.1,h.2.1,WMap.del h.2.2 hn.2 hp⟩
 |[],_::_,_,_,h,_,_=>h.elim
 |_::_,[],_,_,h,_,_=>h.elim
def KMap (s:TH) (τ:Nat):List (Int×Value)->List (Int×List UInt8)->Prop
 |[],[]=>True
 |e::m,p::l=>e.1=p.1/\(∃a c,e.2=.slice a 128 c/\Sl s a (bvs p.2) τ/\p.2.length=128)/\KMap s τ m l
 |_,_=>False
theorem KMap.mv {s s':TH} {τ:Nat} {B:Nat->Prop}: ∀ {m:List (Int×Value)} {l:List (Int×List UInt8)},KMap s τ m l->Chg B s s'->(∀j,j<s.h.size->s.g j=τ->¬B j)->KMap s' τ m l
 |[],[],h,c,hn=>trivial
 |e::m,p::l,⟨h1,⟨a,c0,h2,h3,h4⟩,h5⟩,c,hn=>⟨h1,⟨a,c0,h2,h3.mv c hn,h4⟩,KMap.mv h5 c hn⟩
 |[],_::_,h,_,_=>h.elim
 |_::_,[],h,_,_=>h.elim
theorem KMap.keys {s:TH} {τ:Nat}: ∀ {m:List (Int×Value)} {l:List (Int×List UInt8)},KMap s τ m l->m.map (·.1)=l.map (·.1)
 |[],[],_=>rfl
 |e::m,p::l,h=>by rw [List.map_cons,List.map_cons,h.1,KMap.keys h.2.2]
 |[],_::_,h=>h.elim
 |_::_,[],h=>h.elim
def kfind (l:List (Int×List UInt8)) (b:Int):Option (List UInt8):=(l.find? fun e=>e.1==b).map (·.2)
theorem KMap.get {s:TH} {τ:Nat} {b:Int}: ∀ {m:List (Int×Value)} {l:List (Int×List UInt8)},KMap s τ m l->
  match kfind l b with
  |some y=>∃a c,mget b m=some (.slice a 128 c)/\Sl s a (bvs y) τ/\y.length=128
  |none=>mget b m=none
 |[],[],h=>by simp [kfind,mget]
 |e::m,q::l,h=>by
  obtain ⟨ek,ev⟩:=e
  have hk:ek=q.1:=h.1
  obtain ⟨_,⟨a,c,h2,h3,h4⟩,h5⟩:=h
  have ih:=KMap.get (b:=b) h5
  unfold kfind at ih ⊢
  rw [List.find?_cons]
  by_cases hq:q.1=b
  ·rw [show (q.1==b)=true by simpa using hq]
   simp only [Option.map_some]
   exact ⟨a,c,by rw [mget,if_pos (by rw [hk,hq])];exact congrArg some h2,h3,h4⟩
  ·rw [show (q.1==b)=false by simpa using hq]
   simp only [mget,if_neg (show ¬b=ek by rw [hk];exact fun e=>hq e.symm)]
   exact ih
 |[],_::_,h=>h.elim
 |_::_,[],h=>h.elim
theorem KMap.snoc {s:TH} {τ:Nat} {a:Option Addr} {c:Nat} {b:Int} {y:List UInt8} (hv:Sl s a (bvs y) τ) (hy:y.length=128): ∀ {m:List (Int×Value)} {l:List (Int×List UInt8)},KMap s τ m l->kfind l b=none->KMap s τ (mset b (.slice a 128 c) m) (l++[(b,y)])
 |[],[],h,_=>⟨rfl,⟨a,c,rfl,hv,hy⟩,trivial⟩
 |e::m,q::l,h,hn=>by
  obtain ⟨k,x⟩:=e
  have hk:k=q.1:=h.1
  unfold kfind at hn
  rw [List.find?_cons] at hn
  by_cases hq:q.1=b
  ·rw [show (q.1==b)=true by simpa using hq] at hn;simp at hn
  rw [show (q.1==b)=false by simpa using hq] at hn
  show KMap s τ (if b=k then (b,_)::m else (k,x)::mset b _ m) (q::(l++[(b,y)]))
  rw [if_neg (by rw [hk];exact fun e=>hq e.symm)]
  exact ⟨h.1,h.2.1,KMap.snoc hv hy h.2.2 hn⟩
 |[],_::_,h,_=>h.elim
 |_::_,[],h,_=>h.elim
structure OMap (s:TH) (rk:Option Nat) (mk:List (Int×Value)) (τ:Nat):Prop where
 at_: ∀r,rk=some r->MapK (Value.int .i64) s r mk τ
 no:rk=none->mk=[]
theorem OMap.mv {s s':TH} {rk:Option Nat} {mk:List (Int×Value)} {τ:Nat} {B:Nat->Prop} (h:OMap s rk mk τ) (c:Chg B s s') (hn: ∀j,j<s.h.size->s.g j=τ->¬B j):OMap s' rk mk τ:=
 ⟨fun r hr=>(h.at_ r hr).mv c (hn r (h.at_ r hr).lt (h.at_ r hr).tag),h.no⟩
theorem olook_n {P:Program} {E:List PanicEntry->Heap->Prop} {T Kt Et:TypeId} {s:TH} {rk:Option Nat} {mk:List (Int×Value)} {τ:Nat} {z:Value} {b:Int} {K:Value->Heap->Prop} (ko:KeyOk P Kt (Value.int .i64)) (hT:P.underlying T=some (.map Kt Et)) (hz: ∀w,(zeroValue Et).run P w=.ok z w) (h:OMap s rk mk τ) (hm:mget b mk=none) (hk:K (.tuple #[z,.bool false]) s.h):
  semW P (Instr.lookup T (.map rk) (.int .i64 b) true) E s.h K:=by
 cases rk with
 |none=>exact lookn_ok ko hT hz b hk
 |some r=>exact look_okn ko hT hz (h.at_ r rfl) b hm hk
theorem olook_s {P:Program} {E:List PanicEntry->Heap->Prop} {T Kt Et:TypeId} {s:TH} {rk:Option Nat} {mk:List (Int×Value)} {τ:Nat} {z v:Value} {b:Int} {K:Value->Heap->Prop} (ko:KeyOk P Kt (Value.int .i64)) (hT:P.underlying T=some (.map Kt Et)) (hz: ∀w,(zeroValue Et).run P w=.ok z w) (h:OMap s rk mk τ) (hm:mget b mk=some v) (hk:K (.tuple #[v,.bool true]) s.h):
  semW P (Instr.lookup T (.map rk) (.int .i64 b) true) E s.h K:=by
 cases rk with
 |none=>rw [h.no rfl] at hm;cases hm
 |some r=>exact look_oks ko hT hz (h.at_ r rfl) b hm hk
theorem OMap.of {s:TH} {r:Nat} {mk:List (Int×Value)} {τ:Nat} (h:MapK (Value.int .i64) s r mk τ):OMap s (some r) mk τ:=⟨fun r' e=>by cases e;exact h,fun e=>by cases e⟩
def sentOf (p:Int×WayM):SentM:=⟨p.1,p.2.blk,p.2.by_⟩
structure VOk (V:VolM):Prop where
 que:V.D.queue=V.way.map sentOf
 wid: ∀p∈V.way,1<=p.1/\p.1<=V.D.last
 wsr:V.way.Pairwise fun x y=>x.1<y.1
 lst:0<=V.D.last/\V.D.last<=V.n
 n0:0<=V.n/\V.n<=1000000000000000000
 nof: ∀b,V.D.fails b<=0
 len: ∀y∈V.D.blocks,y.length=128
 wlen:V.way.length<=64
 wids: ∀p∈V.way,(p.2.ids.length:Int)<=1000000
structure VolP (s:TH) (v d U:Nat) (V:VolM) (lk:Int) (c p rw:Nat) (rk:Option Nat) (mw mk:List (Int×Value)):Prop where
 blk:Blk s v [.int .i32 lk,.int .u32 0,.pointer (some ⟨d,0,none⟩),.pointer (some ⟨c,0,none⟩),.pointer (some ⟨p,0,none⟩),.map (some rw),.bool V.old.on,.bool V.old.broken,.int .i64 V.old.room,.map rk] 102 U
 wm:MapK (Value.int .i64) s rw mw (U+1)
 wv:WMap s (U+2) mw V.way
 kn:V.old.on=true->rk.isSome=true
 om:OMap s rk mk (U+3)
 kv:KMap s (U+4) mk V.old.kept
 dk:Disk s d (U+10) V.D
 ca:CacheV s c (U+20) d V.D.blocks V.n
 ps:PSet s p (U+30) V.P
structure VolL (s:TH) (v d U:Nat) (V:VolM) (lk:Int):Prop where
 p: ∃c p rw rk mw mk,VolP s v d U V lk c p rw rk mw mk
 ok:VOk V
theorem of_rng50 {s:TH} {T T':Nat} {B:Nat->Prop} (hn: ∀j,j<s.h.size->T<=s.g j->s.g j<T+50->¬B j) (h1:T<=T') (h2:T'+10<=T+50): ∀j,j<s.h.size->T'<=s.g j->s.g j<T'+10->¬B j:=fun j hj h3 h4=>hn j hj (by omega) (by omega)
theorem of_t50 {s:TH} {T τ:Nat} {B:Nat->Prop} (hn: ∀j,j<s.h.size->T<=s.g j->s.g j<T+50->¬B j) (h1:T<=τ) (h2:τ<T+50): ∀j,j<s.h.size->s.g j=τ->¬B j:=fun j hj e=>hn j hj (by omega) (by omega)
theorem rngn50 {s:TH} {T:Nat} {L:List Nat} (h: ∀τ∈L,τ<T∨T+50<=τ): ∀j,j<s.h.size->T<=s.g j->s.g j<T+50->¬s.g j∈L:=fun j _ h1 h2 h3=>by have:=h _ h3;omega
theorem VolP.mv {s s':TH} {v d U:Nat} {V:VolM} {lk:Int} {c p rw:Nat} {rk:Option Nat} {mw mk:List (Int×Value)} {B:Nat->Prop} (h:VolP s v d U V lk c p rw rk mw mk) (k:Chg B s s') (hn: ∀j,j<s.h.size->U<=s.g j->s.g j<U+50->¬B j):VolP s' v d U V lk c p rw rk mw mk:=
 ⟨h.blk.mv k (of_t50 hn (by omega) (by omega) v h.blk.lt h.blk.tag),h.wm.mv k (of_t50 hn (by omega) (by omega) rw h.wm.lt h.wm.tag),h.wv.mv k (of_t50 hn (by omega) (by omega)),h.kn,h.om.mv k (of_t50 hn (by omega) (by omega)),h.kv.mv k (of_t50 hn (by omega) (by omega)),
  h.dk.mv k (of_rng50 hn (by omega) (by omega)),h.ca.mv k (of_rng50 hn (by omega) (by omega)),h.ps.mv k (of_rng50 hn (by omega) (by omega))⟩
theorem VolL.mv {s s':TH} {v d U:Nat} {V:VolM} {lk:Int} {B:Nat->Prop} (h:VolL s v d U V lk) (k:Chg B s s') (hn: ∀j,j<s.h.size->U<=s.g j->s.g j<U+50->¬B j):VolL s' v d U V lk:=by
 obtain ⟨⟨c,p,rw,rk,mw,mk,hp⟩,ok⟩:=h
 exact ⟨⟨c,p,rw,rk,mw,mk,hp.mv k hn⟩,ok⟩
theorem rowLen {V:VolM} (ok:VOk V) {b:Int} {l:List UInt8} (h:V.D.blocks[b.toNat]? =some l):l.length=128:=ok.len l (List.mem_of_getElem? h)
def VolM.blk (V:VolM) (b:Int):List UInt8:=V.D.blocks.getD b.toNat []
theorem blk_get {V:VolM} {b:Int} (h:V.D.has b):V.D.blocks[b.toNat]? =some (V.blk b):=by
 unfold DiskM.has at h
 unfold VolM.blk
 rw [List.getD_eq_getElem?_getD,List.getElem?_eq_getElem (by omega)];rfl
theorem blk_len {V:VolM} (ok:VOk V) {b:Int} (h:V.D.has b):(V.blk b).length=128:=rowLen ok (blk_get h)
def VolM.now (V:VolM) (b:Int):List UInt8:=V.P.over (V.blk b) (V.P.of b)
def VolM.tick (V:VolM):VolM:={ V with n:=V.n+1 }
theorem VOk.tick {V:VolM} (ok:VOk V) (h:V.n<1000000000000000000):VOk V.tick:=⟨ok.que,ok.wid,ok.wsr,by have:=ok.lst;exact ⟨this.1,by show V.D.last<=V.n+1;omega⟩,by have:=ok.n0;exact ⟨by show 0<=V.n+1;omega,by show V.n+1<=_;omega⟩,ok.nof,ok.len,ok.wlen,ok.wids⟩
theorem VOk.wnd {V:VolM} (ok:VOk V):(V.way.map (·.1)).Nodup:=(List.pairwise_map.2 ok.wsr).imp fun {a b} h=>by omega
theorem z199 (w:World):(zeroValue 199).run Tryz.prog w=.ok (.agg #[.int .i64 0,.slice none 0 0,.slice none 0 0]) w:=by kernel_rfl
theorem um97 :Tryz.prog.underlying 97=some (.map 3 199):=by kernel_rfl
theorem um98 :Tryz.prog.underlying 98=some (.map 3 49):=by kernel_rfl
theorem c_vhas (vp d U:Nat) (V:VolM) (lk:Int) (b:Int) (s:TH) (hU:10<=U) (hv:VolL s vp d U V lk):TRet Tryz.prog 46 #[.pointer (some ⟨vp,0,none⟩),.int .i64 b] s fun v s'=>v=.bool (decide (V.D.has b))/\Ch [] s s':=by
 obtain ⟨⟨c,p,rw_,rk,mw,mk,hV⟩,ok⟩:=id hv
 have hvb:=hV.blk
 have hvw:=hV.wm
 have hvv:=hV.wv
 have hvo:=hV.om
 have hvk:=hV.kv
 have hvD:=hV.dk
 have hvC:=hV.ca
 have hvP:=hV.ps
 have hn0:=ok.n0
 have hpok:=hV.ps.ok
 have hplst:=hV.ps.ok.lst
 have hnb:=hV.dk.nb
 refine F46_calls _ _  ?_
 unfold F46
 refine sB_d (fun e=>?_) (fun e=>?_)
 ·refine nz_i (ld_t hvb rfl (dPtr_i ?_))
  refine tcall (c_blocks _ _ _ _ (by omega) hvD) ?_
  rintro f g ⟨rfl,a⟩
  have h:=a.size
  refine dInt_i ?_
  refine ret_t ?_
  exact ⟨ret_b (by unfold DiskM.has;first|exact (decide_eq_false (by omega)).symm|exact (decide_eq_true (by omega)).symm|exact decide_eq_decide.2 (by omega)),((Ch.refl [] s).ch a (by simp))⟩
 refine ret_t ?_
 exact ⟨ret_b (by unfold DiskM.has;first|exact (decide_eq_false (by omega)).symm|exact (decide_eq_true (by omega)).symm|exact decide_eq_decide.2 (by omega)),(Ch.refl [] s)⟩
theorem c_vread (vp d U:Nat) (V:VolM) (lk:Int) (τ:Nat) (b:Int) (s:TH) (hU:10<=U) (hv:VolL s vp d U V lk) (hn:V.n<1000000000000000000):TRet Tryz.prog 47 #[.pointer (some ⟨vp,0,none⟩),.int .i64 b] s fun v s'=>Ch [U+20,U+21,U+22,U+23] s s'/\((v=.tuple #[.slice none 0 0,.int .i64 90]/\¬V.D.has b/\VolL s' vp d U V lk)∨(∃a c,v=.tuple #[.slice a 128 c,.int .i64 0]/\V.D.has b/\VolL s' vp d U V.tick lk/\Own s' a 128 c 5 1 (bvs (V.now b)) τ)):=by
 obtain ⟨⟨c,p,rw_,rk,mw,mk,hV⟩,ok⟩:=id hv
 have hvb:=hV.blk
 have hvw:=hV.wm
 have hvv:=hV.wv
 have hvo:=hV.om
 have hvk:=hV.kv
 have hvD:=hV.dk
 have hvC:=hV.ca
 have hvP:=hV.ps
 have hn0:=ok.n0
 have hpok:=hV.ps.ok
 have hplst:=hV.ps.ok.lst
 have hnb:=hV.dk.nb
 obtain ⟨M,hM,hM0,hMa,hMb,hMc,hMd,hMe,hMf⟩:=fresh6 s (U+50) τ 0 0 0 0
 refine F47_calls _ _  ?_
 unfold F47
 refine tcall (c_vhas _ _ _ _ _ _ _ (by omega) hv) ?_
 rintro R S ⟨rfl,f⟩
 have T:=f.size
 refine dBl_i ?_
 refine sB_nd (fun i=>?_) (fun i=>?_)
 ·refine ret_t ?_
  have E:=hv.mv f (rngn50 (by simp))
  exact ⟨((Ch.refl [U+20,U+21,U+22,U+23] s).ch f (by simp)),.inl ⟨rfl,by simpa using i,E⟩⟩
 refine nz_i ?_
 have q:=hvb.ch f (by simp)
 refine ld_t q rfl (dPtr_i ?_)
 have hh:V.D.has b:=by simpa using i
 have F:=hvC.mv f (rngn (by simp))
 have r:=hvD.mv f (rngn (by simp))
 refine tcall (c_vcGet (M+5) (by omega) (by omega) (by omega) F r hh (blk_get hh) (ok.nof b) (by omega)) ?_
 rintro J K ⟨G,C,rfl,g,j,k⟩
 have L:=g.size
 refine dT2 (dSl_i (dInt_i (sB_f (by rfl) (nz_i ?_))))
 have l:=q.ch g (by simp<;>omega)
 refine ld_t l rfl (dPtr_i ?_)
 have m:=hvP.mv (f.app g) (rngn (by simp))
 refine tcall (c_pnow p (U+30) V.P (τ:=τ) (b:=b) _ _ (by omega) m k.sl (blk_len ok hh)) ?_
 rintro N O ⟨H,I,rfl,e,o⟩
 have Q:=e.size
 refine dT2 (dSl_i (dInt_i ?_))
 refine ret_t ?_
 have t:=l.ch e (by simp)
 have h:=((f.app g).app e)
 have u:=hvw.ch h (by simp)
 have w:=hvv.mv h (tagn (by simp))
 have x:=hvo.mv h (tagn (by simp))
 have y:=hvk.mv h (tagn (by simp))
 have z:=r.mv (g.app e) (rngn (by simp))
 have A:=j.mv e (rngn (by simp))
 have B:=m.mv e (rngn (by simp))
 exact ⟨((((Ch.refl [U+20,U+21,U+22,U+23] s).ch f (by simp)).fr g hM (by simp<;>omega)).ch e (by simp)),.inr ⟨_,_,rfl,hh,⟨⟨_,_,_,_,_,_,t,u,w,hV.kn,x,y,z,A,B⟩,ok.tick hn⟩,o⟩⟩
theorem dA3 {a b c:Value} {k:VF 3} (h:(k:Value->Value->Value->Prop) a b c):dA 3 (.agg #[a,b,c]) k:=h
theorem way_inj {V:VolM} (ok:VOk V) {p q:Int×WayM} (hp:p∈V.way) (hq:q∈V.way) (e:p.1=q.1):p=q:=by
 obtain ⟨D,P,way,old,n⟩:=V
 have h:=ok.wsr
 simp only at hp hq h
 clear ok
 induction way with
 |nil=>cases hp
 |cons x l ih=>
  rw [List.pairwise_cons] at h
  rcases List.mem_cons.1 hp with hp1|hp1<;>rcases List.mem_cons.1 hq with hq1|hq1
  ·rw [hp1,hq1]
  ·have:=h.1 _ hq1;rw [hp1] at e;omega
  ·have:=h.1 _ hp1;rw [hq1] at e;omega
  exact ih hp1 hq1 h.2
def VolM.going (V:VolM) (b:Int):Bool:=V.way.any fun p=>p.2.blk==b
def VolM.ready (V:VolM):List Int:=V.P.blocks.filter fun b=> !((V.P.free b).isEmpty||V.going b)
theorem c_vgoing (vp d U:Nat) (V:VolM) (lk:Int) (b:Int) (s:TH) (hU:10<=U) (hv:VolL s vp d U V lk):TRet Tryz.prog 227 #[.pointer (some ⟨vp,0,none⟩),.int .i64 b] s fun v s'=>v=.bool (V.going b)/\Ch [] s s':=by
 obtain ⟨⟨c,p,rw_,rk,mw,mk,hV⟩,ok⟩:=id hv
 have hvb:=hV.blk
 have hvw:=hV.wm
 have hvv:=hV.wv
 have hvo:=hV.om
 have hvk:=hV.kv
 have hvD:=hV.dk
 have hvC:=hV.ca
 have hvP:=hV.ps
 have hn0:=ok.n0
 have hpok:=hV.ps.ok
 have hplst:=hV.ps.ok.lst
 have hnb:=hV.dk.nb
 obtain ⟨M,hM,hM0,hMa,hMb,hMc,hMd,hMe,hMf⟩:=fresh6 s (U+50) 0 0 0 0 0
 refine F227_calls _ _  ?_
 unfold F227
 refine nz_i (ld_t hvb rfl (dMap_i ?_))
 refine range_t (M+7) um97 hvw iinj fun r o hqsem1 t q=>?_
 have Y:=q.size
 refine ⟨fun vs H'=>∃s':TH,s'.h=H'/\vs=[]/\Ch [M+7,M+9] r s'/\(∃vis,ItK (Value.int .i64) s' o rw_ mw vis (U+1) (M+7)/\∀p∈V.way,p.1∈vis->p.2.blk≠b),fun vs H'=>match vs with|[]=>leftH H' o rw_|_=>0,⟨r,rfl,rfl,Ch.refl _ _,?_⟩,?_⟩
 ·exact ⟨[],t,by simp⟩
 intro  _ _ _ _ _ _ _ _ _ _ H_ hI_6
 obtain ⟨K,rfl,hvs,l,vis,hit,hvis⟩:=hI_6
 cases hvs
 have Z:=l.size
 refine next_t hit iinj (fun L O P hmksem2 hvksem2 a y Q=>?_) (fun hallksem2=>?_)
 ·refine dNx_t ?_
  have m:Ch [(M+7)] K L:=Chg.mono y (fun j hj e=>by subst e;rw [hit.tagq];simp)
  have C:=((q.app l).app m)
  have D:=hvv.mv C (tagn (by simp<;>omega))
  obtain ⟨p1,hp1,hid1,ba1,bc1,ia1,ic1,hxv,sb1,si1,hl1⟩:=D.mem_ hmksem2
  subst hxv
  refine entry_t a hmksem2 iinj ?_
  refine dT2 (dA3 ?_)
  refine al_t (M+9) fun aa ab R u f S=>?_
  refine st_t u rfl (by simp) fun ac w z T=>?_
  have g:=on_ch u z
  refine st_t w rfl (by simp) fun ad x A W=>?_
  have i:=on_ch w A
  refine st_t x rfl (by simp) fun N E B X=>?_
  have k:=on_ch x B
  refine ld_t E rfl (dInt_i ?_)
  refine sB_d (fun n=>?_) (fun n=>?_)
  ·refine ret_t ?_
   exact ⟨ret_b (List.any_eq_true.2 ⟨p1,hp1,by simpa using n⟩).symm,((((((((Ch.refl [] s).ch q (by simp)).fr l hM (by simp)).fr m hM (by simp)).ch f (by simp)).fr g hM (by simp)).fr i hM (by simp)).fr k hM (by simp))⟩
  have F:=(((((l.app m).app f).app g).app i).app k)
  refine ⟨⟨N,rfl,rfl,((Ch.refl [M+7,M+9] r).ch F (by simp)),?_⟩,?_⟩
  ·have G:=(((f.app g).app i).app k)
   have H:=a.ch G (by simp<;>omega) (by simp<;>omega)
   refine ⟨_,H,fun p hp hpv=>?_⟩
   rcases List.mem_append.1 hpv with h|h
   ·exact hvis p hp h
   rw [List.mem_singleton] at h
   have e:p=p1:=way_inj ok hp hp1 (by rw [h,hid1])
   subst e;exact n
  have I:=(((f.app g).app i).app k)
  have J:=a.ch I (by simp<;>omega) (by simp<;>omega)
  exact it_less iinj hit J hmksem2 hvksem2 (List.Sublist.refl _)
 refine dNx_f ?_
 refine ret_t ?_
 exact ⟨ret_b (by
  rw [eq_comm]
  exact List.any_eq_false.2 fun p hp=>by
   have:=hvis p hp (hallksem2 _ (by rw [hvv.keys];exact List.mem_map.2 ⟨p,hp,rfl⟩))
   simpa using this),(((Ch.refl [] s).ch q (by simp)).fr l hM (by simp))⟩
theorem c_vready1 (vp d U:Nat) (V:VolM) (lk:Int) (x:Int) {r0 r1 t0 t1 τ0 τ1:Nat} {za:Option Addr} (zc:Nat) {τz:Nat} (s:TH) (hU:10<=U) (hv:VolL s vp d U V lk) (f:Blk s r0 [.pointer (some ⟨vp,0,none⟩)] t0 τ0) (g:Blk s r1 [.slice za 128 zc] t1 τ1) (hz:Sl s za (bvs (List.replicate 128 0)) τz):TRet Tryz.prog 225 #[.int .i64 x,.pointer (some ⟨r0,0,none⟩),.pointer (some ⟨r1,0,none⟩)] s fun v s'=>v=.bool ((V.P.free x).isEmpty||V.going x)/\Ch [] s s':=by
 obtain ⟨⟨c,p,rw_,rk,mw,mk,hV⟩,ok⟩:=id hv
 have hvb:=hV.blk
 have hvw:=hV.wm
 have hvv:=hV.wv
 have hvo:=hV.om
 have hvk:=hV.kv
 have hvD:=hV.dk
 have hvC:=hV.ca
 have hvP:=hV.ps
 have hn0:=ok.n0
 have hpok:=hV.ps.ok
 have hplst:=hV.ps.ok.lst
 have hnb:=hV.dk.nb
 obtain ⟨M,hM,hM0,hMa,hMb,hMc,hMd,hMe,hMf⟩:=fresh6 s (U+50) τ0 τ1 τz 0 0
 refine F225_calls _ _ _  ?_
 unfold F225
 refine ld_t f rfl (dPtr_i (nz_i (ld_t hvb rfl (dPtr_i (ld_t g rfl (dSl_i ?_))))))
 refine tcall (c_plan p (U+30) V.P (M+1) x _ _ (by omega) hvP hz (by simp)) ?_
 rintro k l ⟨a,b⟩
 have m:=a.size
 rcases b with ⟨rfl,hfe⟩|⟨a1,c1,a2,c2,rfl,hfe,ho1,ho2⟩
 ·refine dT3 (dSl_i (dSl_i (dInt_i (sB_t (by rfl) ?_))))
  refine ret_t ?_
  exact ⟨ret_b (by rw [hfe];rfl),((Ch.refl [] s).ch a (by simp))⟩
 refine dT3 (dSl_i (dSl_i (dInt_i (sB_f (by rfl) ?_))))
 have h:=f.ch a (by simp)
 refine ld_t h rfl (dPtr_i ?_)
 have i:=hv.mv a (rngn50 (by simp))
 refine tcall (c_vgoing vp d U V lk x _ hU i) ?_
 rintro n o ⟨rfl,e⟩
 have j:=e.size
 refine dBl_i ?_
 refine ret_t ?_
 exact ⟨ret_b (by rw [show (V.P.free x).isEmpty=false by simpa using hfe,Bool.false_or]),(((Ch.refl [] s).ch a (by simp)).ch e (by simp))⟩
theorem c_vready (vp d U:Nat) (V:VolM) (lk:Int) (τ:Nat) (s:TH) (hU:10<=U) (hv:VolL s vp d U V lk):TRet Tryz.prog 143 #[.pointer (some ⟨vp,0,none⟩)] s fun v s'=>∃a c',v=.slice a V.ready.length c'/\Ch [] s s'/\Own s' a V.ready.length c' 3 1 (ivs V.ready) τ:=by
 obtain ⟨⟨c,p,rw_,rk,mw,mk,hV⟩,ok⟩:=id hv
 have hvb:=hV.blk
 have hvw:=hV.wm
 have hvv:=hV.wv
 have hvo:=hV.om
 have hvk:=hV.kv
 have hvD:=hV.dk
 have hvC:=hV.ca
 have hvP:=hV.ps
 have hn0:=ok.n0
 have hpok:=hV.ps.ok
 have hplst:=hV.ps.ok.lst
 have hnb:=hV.dk.nb
 obtain ⟨M,hM,hM0,hMa,hMb,hMc,hMd,hMe,hMf⟩:=fresh6 s (U+50) τ 0 0 0 0
 refine F143_calls _  ?_
 unfold F143
 refine al_t (M+1) fun r1 s2 S G o T=>?_
 refine ask_t (by omega) ?_
 refine al_t (M+2) fun r3 s4 W H i X=>?_
 have hz0:Sl s4 (some ⟨r3,0,none⟩) (bvs (List.replicate 128 0)) (M+2):=by have h:=H.sl;rwa [show (Int.toNat 128)=128 from rfl,rowZ_bvs] at h
 refine al_t (M+3) fun r5 s6 Y q g Z=>?_
 refine st_t q rfl (by simp) fun s7 r n K=>?_
 have e:=on_ch q n
 have t:=((i.app g).app e)
 have j:=G.ch t (by simp)
 refine ld_t j rfl (dPtr_i (nz_i ?_))
 have f:=(((o.app i).app g).app e)
 have u:=hvb.ch f (by simp<;>omega)
 refine ld_t u rfl (dPtr_i ?_)
 have w:=hvP.mv f (rngn (by simp<;>omega))
 refine tcall (c_pblocks _ _ _ (M+5) _ (by omega) w) ?_
 rintro L N ⟨I,J,rfl,b,k⟩
 have O:=b.size
 have hbl:=blocks_len hpok
 refine dSl_i ?_
 have z:=hv.mv (f.app b) (rngn50 (by simp<;>omega))
 have hVf:=z
 have A:=j.ch b (by simp)
 have hr1f:=A
 have B:=r.ch b (by simp)
 have hr5f:=B
 have C:=((g.app e).app b)
 have D:=hz0.mv C (tagn (by simp))
 have hzf:=D
 refine tcall (c_dfInt _ (fun y=>(V.P.free y).isEmpty||V.going y) k (by omega) (by kernel_rfl) (fun s1 x hx hc=>c_vready1 vp d U V lk x _ s1 hU (hVf.mv hc (rngn50 (by simp<;>omega))) (hr1f.ch hc (by simp)) (hr5f.ch hc (by simp)) (hzf.mv hc (tagn (by simp))))) ?_
 rintro Q E ⟨rfl,l,m⟩
 have R:=l.size
 refine dSl_i ?_
 have F:=((o.app i).app g)
 have ho:=m
 exact ret_t' (s':=remark E (M+5) τ) rfl ⟨_,_,rfl,remark_ch (((((Ch.refl [] s).ch F (by simp)).fr e hM (by simp)).ch b (by simp)).fr l hM (by simp)) hM (by omega),ho.remark⟩
def VolM.plan (V:VolM) (b:Int):List UInt8:=V.P.over (V.blk b) (V.P.free b)
def VolM.sent (V:VolM) (b:Int):VolM:={ V with n:=V.n+1,D:={ V.D with queue:=V.D.queue++[⟨V.D.last+1,b,V.plan b⟩],last:=V.D.last+1 },way:=V.way++[(V.D.last+1,⟨b,V.plan b,V.P.free b⟩)] }
def VolM.write (V:VolM) (b:Int):VolM×Int:=
 if ¬V.D.has b then (V,90)
 else if V.going b=true then (V,3)
 else if V.P.free b=[] then (V,71)
 else if 64<=V.way.length then (V.tick,3)
 else (V.sent b,0)
theorem going_ixf {V:VolM} (ok:VOk V) {b:Int} (h:V.going b=false): ¬ixf (fun m:SentM=>m.blk==b) V.D.queue>=0:=by
 intro h2
 rcases ixf_cases (fun m:SentM=>m.blk==b) V.D.queue with ⟨h3,_⟩|⟨k,x,h3,h4,h5⟩
 ·rw [h3] at h2;omega
 have h6:=List.mem_of_getElem? h4
 rw [ok.que] at h6
 obtain ⟨p,hp,rfl⟩:=List.mem_map.1 h6
 have:=List.any_eq_false.1 h p hp
 exact this h5
theorem wlen_q {V:VolM} (ok:VOk V):V.D.queue.length=V.way.length:=by rw [ok.que,List.length_map]
theorem plan_len {V:VolM} (ok:VOk V) (pok:POk V.P) {b:Int} (h:V.D.has b):(V.plan b).length=128:=over_len pok _ (blk_len ok h)
theorem VOk.sent {V:VolM} (ok:VOk V) (pok:POk V.P) {b:Int} (h:V.D.has b) (hw: ¬ 64<=V.way.length) (hn:V.n<1000000000000000000):VOk (V.sent b) where
 que:=by
  show V.D.queue++[_]=(V.way++[_]).map sentOf
  rw [List.map_append,ok.que];rfl
 wid p hp:=by
  have hl:=ok.lst
  rcases List.mem_append.1 (show p∈V.way++[_] from hp) with h|h
  ·have:=ok.wid p h;exact ⟨this.1,by show p.1<=V.D.last+1;omega⟩
  rw [List.mem_singleton] at h;subst h;exact ⟨by show 1<=V.D.last+1;omega,Int.le_refl _⟩
 wsr:=List.pairwise_append.2 ⟨ok.wsr,by simp,fun a ha c hc=>by
  rw [List.mem_singleton] at hc;subst hc
  have:=ok.wid a ha
  show a.1<V.D.last+1
  omega⟩
 lst:=by have:=ok.lst;exact ⟨by show 0<=V.D.last+1;omega,by show V.D.last+1<=V.n+1;omega⟩
 n0:=by have:=ok.n0;exact ⟨by show 0<=V.n+1;omega,by show V.n+1<=_;omega⟩
 nof:=ok.nof
 len:=ok.len
 wlen:=by show (V.way++[_]).length<=64;rw [List.length_append,List.length_singleton];omega
 wids p hp:=by
  rcases List.mem_append.1 (show p∈V.way++[_] from hp) with h|h
  ·exact ok.wids p h
  rw [List.mem_singleton] at h;subst h
  have h1:=free_len pok b
  have h2:=pok.lst
  show ((V.P.free b).length:Int)<=1000000
  omega
theorem c_vwrite (vp d U:Nat) (V:VolM) (lk:Int) (b:Int) (s:TH) (hU:10<=U) (hv:VolL s vp d U V lk) (hn:V.n<1000000000000000000):TRet Tryz.prog 199 #[.pointer (some ⟨vp,0,none⟩),.int .i64 b] s fun v s'=>v=.int .i64 (V.write b).2/\Ch [U+1,U+10,U+11,U+12,U+13,U+14,U+20,U+21,U+22,U+23] s s'/\VolL s' vp d U (V.write b).1 lk:=by
 obtain ⟨⟨c,p,rw_,rk,mw,mk,hV⟩,ok⟩:=id hv
 have hvb:=hV.blk
 have hvw:=hV.wm
 have hvv:=hV.wv
 have hvo:=hV.om
 have hvk:=hV.kv
 have hvD:=hV.dk
 have hvC:=hV.ca
 have hvP:=hV.ps
 have hn0:=ok.n0
 have hpok:=hV.ps.ok
 have hplst:=hV.ps.ok.lst
 have hnb:=hV.dk.nb
 obtain ⟨M,hM,hM0,hMa,hMb,hMc,hMd,hMe,hMf⟩:=fresh6 s (U+50) 0 0 0 0 0
 refine F199_calls _ _  ?_
 unfold F199
 refine tcall (c_vhas _ _ _ _ _ _ _ (by omega) hv) ?_
 rintro aT aU ⟨rfl,m⟩
 have aV:=m.size
 refine dBl_i ?_
 refine sB_nd (fun o=>?_) (fun o=>?_)
 ·refine ret_t ?_
  have aA:=hv.mv m (rngn50 (by simp))
  rw [show V.write b=(V,90) from by unfold VolM.write;rw [if_pos (by simpa using o)]]
  exact ⟨rfl,((Ch.refl [U+1,U+10,U+11,U+12,U+13,U+14,U+20,U+21,U+22,U+23] s).ch m (by simp)),aA⟩
 have F:=hv.mv m (rngn50 (by simp))
 refine tcall (c_vgoing _ _ _ _ _ _ _ (by omega) F) ?_
 rintro aW aX ⟨rfl,k⟩
 have aE:=k.size
 refine dBl_i ?_
 refine sB_i (fun q=>?_) (fun q=>?_)
 ·refine ret_t ?_
  have X:=F.mv k (rngn50 (by simp))
  rw [show V.write b=(V,3) from by unfold VolM.write;rw [if_neg (by simpa using o),if_pos q]]
  exact ⟨rfl,(((Ch.refl [U+1,U+10,U+11,U+12,U+13,U+14,U+20,U+21,U+22,U+23] s).ch m (by simp)).ch k (by simp)),X⟩
 refine nz_i ?_
 have B:=hvb.ch (m.app k) (by simp)
 refine ld_t B rfl (dPtr_i (ask_t (by omega) ?_))
 refine al_t (M+1) fun aB aC aF Y r aG=>?_
 have hz:Sl aC (some ⟨aB,0,none⟩) (bvs (List.replicate 128 0)) (M+1):=by have h:=Y.sl;rwa [show (Int.toNat 128)=128 from rfl,rowZ_bvs] at h
 refine ⟨?_,?_⟩
 ·have Z:=B.ch r (by simp)
  refine ld_t Z rfl (dPtr_i ?_)
  rfl
 have t:=((m.app k).app r)
 have G:=hvP.mv t (rngn (by simp))
 refine tcall (c_plan p (U+30) V.P (M+2) b _ _ (by omega) G hz (by simp)) ?_
 rintro aH aI ⟨f,H⟩
 have aJ:=f.size
 rcases H with ⟨rfl,hfe⟩|⟨a1,c1,a2,c2,rfl,hfe,ho1,ho2⟩
 ·refine dT3 (dSl_i (dSl_i (dInt_i (sB_t (by rfl) ?_))))
  refine ret_t ?_
  have I:=((k.app r).app f)
  have aa:=F.mv I (rngn50 (by simp))
  rw [show V.write b=(V,71) from by unfold VolM.write;rw [if_neg (by simpa using o),if_neg (by simp [q]),if_pos hfe]]
  exact ⟨rfl,(((Ch.refl [U+1,U+10,U+11,U+12,U+13,U+14,U+20,U+21,U+22,U+23] s).ch m (by simp)).ch I (by simp)),aa⟩
 refine dT3 (dSl_i (dSl_i (dInt_i (sB_f (by rfl) (nz_i ?_)))))
 have J:=B.ch (r.app f) (by simp)
 refine ld_t J rfl (dPtr_i ?_)
 have hh:V.D.has b:=by simpa using o
 have hbl:=blk_len ok hh
 have ab:=hvC.mv (t.app f) (rngn (by simp))
 have K:=hvD.mv (t.app f) (rngn (by simp))
 refine tcall (c_vcGet (M+5) (by omega) (by omega) (by omega) ab K hh (blk_get hh) (ok.nof b) (by omega)) ?_
 rintro aK aL ⟨aD,az,rfl,l,z,L⟩
 have aM:=l.size
 refine dT2 (dSl_i (dInt_i (sB_f (by rfl) (nz_i ?_))))
 have N:=J.ch l (by simp<;>omega)
 refine ld_t N rfl (dPtr_i ?_)
 have C:=G.mv (f.app l) (rngn (by simp))
 refine tcall (c_plan p (U+30) V.P (U+2) b _ _ (by omega) C L.sl hbl) ?_
 rintro aN aO ⟨g,O⟩
 have aP:=g.size
 rcases O with ⟨rfl,hfe2⟩|⟨a3,c3,a4,c4,rfl,hfe2,ho3,ho4⟩
 ·exact absurd hfe2 hfe
 refine dT3 (dSl_i (dSl_i (dInt_i (sB_f (by rfl) (nz_i ?_)))))
 have E:=N.ch g (by simp)
 refine ld_t E rfl (dPtr_i ?_)
 have hpl:=plan_len ok hpok hh
 have hlst:=ok.lst
 have ac:=K.mv (l.app g) (rngn (by simp))
 refine tcall (c_write d (U+10) V.D b 128 _ _ (by omega) ac ho3.sl hpl (by omega) (by omega) (by omega)) ?_
 rintro aQ ad ⟨rfl,a,A⟩
 have aR:=a.size
 have hwq:=wlen_q ok
 have hgi:=going_ixf ok q
 refine dT2 (dInt_i (dInt_i ?_))
 refine jn_u ?_
 refine sB_d (fun u=>?_) (fun u=>?_)
 ·refine nz_i ?_
  have Q:=E.ch a (by simp<;>omega)
  refine ld_t Q rfl (dMap_i ?_)
  have w:=((((t.app f).app l).app g).app a)
  have R:=hvw.ch w (by simp)
  refine upd_t keyI um97 R (Prod.fst (Prod.snd (DiskM.write (VolM.D V) b (PatchM.over (VolM.P V) (VolM.blk V b) (PatchM.free (VolM.P V) b))))) (Value.agg #[Value.int IntKind.i64 b,Value.slice a3 128 c3,Value.slice a4 (List.length (PatchM.free (VolM.P V) b)) c4]) fun S ae W aS=>?_
  have i:Ch [U+1] ad S:=Chg.mono W fun j _ e=>by subst e;rw [R.tag];simp
  intro _
  intros
  refine ret_t ?_
  have af:=A.mv i (rngn (by simp))
  have ag:=ho3.mv (a.app i) (tagn (by simp))
  have ah:=ho4.mv (a.app i) (tagn (by simp))
  have ai:=((k.app r).app f)
  have aj:=Q.ch i (by simp)
  have ak:=hvv.mv (w.app i) (tagn (by simp))
  have al:=hvo.mv (w.app i) (tagn (by simp))
  have am:=hvk.mv (w.app i) (tagn (by simp))
  have T:=((g.app a).app i)
  have an:=z.mv T (rngn (by simp))
  have ao:=C.mv T (rngn (by simp))
  have hw: ¬ 64<=V.way.length:=fun h=>by
   have e:=write_3 (x:=V.plan b) hh hpl hgi (by omega)
   unfold VolM.plan at e
   rw [e] at u;cases u
  have e4:=write_4 (x:=V.plan b) hh hpl hgi (by omega)
  have hD:=af
  have hW:=ae
  have hfl:=free_len hpok b
  unfold VolM.plan at e4
  rw [e4] at hD hW ⊢
  rw [show V.write b=(V.sent b,0) from by unfold VolM.write;rw [if_neg (by simpa using o),if_neg (by simp [q]),if_neg hfe,if_neg hw]]
  have hWV:WayV S (U+2) (.agg #[.int .i64 b,.slice a3 128 c3,.slice a4 (V.P.free b).length c4]) ⟨b,V.plan b,V.P.free b⟩:=⟨_,_,_,_,rfl,ag.sl,ah.sl,hpl⟩
  have hnk:V.D.last+1∉V.way.map (·.1):=fun h=>by
   obtain ⟨p,hp,e⟩:=List.mem_map.1 h
   have:=ok.wid p hp
   omega
  exact ⟨rfl,(((((((Ch.refl [U+1,U+10,U+11,U+12,U+13,U+14,U+20,U+21,U+22,U+23] s).ch m (by simp)).ch ai (by simp)).fr l hM (by simp<;>omega)).ch g (by simp)).fr a hM (by simp<;>omega)).ch i (by simp)),⟨⟨_,_,_,_,_,_,aj,hW,WMap.snoc (p:=(V.D.last+1,⟨b,V.plan b,V.P.free b⟩)) hWV ak hnk,hV.kn,al,am,hD,an,ao⟩,ok.sent hpok hh hw hn⟩⟩
 intro _
 intros
 refine ret_t ?_
 have ap:=((k.app r).app f)
 have aq:=E.ch a (by simp<;>omega)
 have y:=((((t.app f).app l).app g).app a)
 have ar:=hvw.ch y (by simp)
 have au:=hvv.mv y (tagn (by simp))
 have av:=hvo.mv y (tagn (by simp))
 have aw:=hvk.mv y (tagn (by simp))
 have ax:=z.mv (g.app a) (rngn (by simp))
 have ay:=C.mv (g.app a) (rngn (by simp))
 have hw:64<=V.way.length:=by
  by_cases h:64<=V.way.length
  ·exact h
  exfalso
  have e4:=write_4 (x:=V.plan b) hh hpl hgi (by omega)
  unfold VolM.plan at e4
  rw [e4] at u;exact u rfl
 have e3:=write_3 (x:=V.plan b) hh hpl hgi (by omega)
 have hD:=A
 unfold VolM.plan at e3
 rw [e3] at hD ⊢
 rw [show V.write b=(V.tick,3) from by unfold VolM.write;rw [if_neg (by simpa using o),if_neg (by simp [q]),if_neg hfe,if_pos hw]]
 exact ⟨rfl,((((((Ch.refl [U+1,U+10,U+11,U+12,U+13,U+14,U+20,U+21,U+22,U+23] s).ch m (by simp)).ch ap (by simp)).fr l hM (by simp<;>omega)).ch g (by simp)).fr a hM (by simp<;>omega)),⟨⟨_,_,_,_,_,_,aq,ar,au,hV.kn,av,aw,hD,ax,ay⟩,ok.tick hn⟩⟩
theorem QRel.keep {s:TH} {σ μ τ:Nat} {hs:List (Int×Int×Hd)} {q:List SentM} (h:QRel s σ hs q) (hn:σ≠μ):QRel (remark s μ τ) σ hs q:=⟨h.len,fun i p b h1 h2=>⟨(h.at_ i p b h1 h2).1,(h.at_ i p b h1 h2).2.1,⟨(h.at_ i p b h1 h2).2.2.sl.keep hn,(h.at_ i p b h1 h2).2.2.len⟩⟩⟩
theorem BRel.keep {s:TH} {σ μ τ:Nat} {hs:List Hd} {q:List (List UInt8)} (h:BRel s σ hs q) (hn:σ≠μ):BRel (remark s μ τ) σ hs q:=⟨h.len,fun i p b h1 h2=>⟨(h.at_ i p b h1 h2).sl.keep hn,(h.at_ i p b h1 h2).len⟩⟩
theorem ByAt.nn {s:TH} {τ:Nat} {p:Hd} {b:List UInt8} (h:ByAt s τ p b):p.1=none->128=0:=fun e=>by obtain ⟨a,ha⟩:=h.ne;rw [e] at ha;cases ha
theorem c_qsent (τ:Nat) {xa:Option Addr} {xn:Nat} (xc:Nat) {qs:List (Int×Int×Hd)} {q:List SentM} {τx τb:Nat} (s:TH) (hx:Sl s xa (qs.flatMap qv) τx) (hq:QRel s τb qs q) (hn:qs.length=xn) (hn2:xn<=1000):TRet Tryz.prog 150 #[.slice xa xn xc] s fun v s'=>∃a c' qs',v=.slice a xn c'/\Ch [] s s'/\Own s' a xn c' 197 3 (qs'.flatMap qv) τ/\QRel s' τ qs' q:=by
 obtain ⟨M,hM,hM0,hMa,hMb,hMc,hMd,hMe,hMf⟩:=fresh6 s τx τb τ 0 0 0
 refine F150_calls _ _ _  ?_
 unfold F150
 refine ⟨fun vs H'=>∃s':TH,s'.h=H'/\∃oa on oc i,vs=[.slice oa on oc,.int .i64 i]/\Ch [M+1,M+9] s s'/\(∃(k:Nat) (qs2:List (Int×Int×Hd)),i=k/\k<=xn/\on=k/\Own s' oa on oc 197 3 (qs2.flatMap qv) (M+1)/\QRel s' τ qs2 (q.take k)),fun vs H'=>match vs with|[.slice oa on oc,.int .i64 i]=>((xn:Int) - i).toNat|_=>0,⟨s,rfl,_,_,_,_,rfl,Ch.refl _ _,?_⟩,?_⟩
 ·exact ⟨0,[],rfl,by omega,rfl,Own.nil _ _ _ _,QRel.nil _ _⟩
 intro oa on oc i
 iterate 13 intro _
 intro H_ hI_2
 obtain ⟨X,rfl,oa_,on_,oc_,i_,hvs,d,k,qs2,rfl,hk,hon,ho,hq2⟩:=hI_2
 cases hvs
 have al:=d.size
 refine sB_d (fun O=>?_) (fun O=>?_)
 ·have Y:=hq.mv d (tagn (by simp<;>omega))
  have hk2:k<qs.length:=by omega
  obtain ⟨y,hy⟩: ∃y,qs[k]? =some y:=⟨qs[k],by simp [hk2]⟩
  have hql:=hq.len
  obtain ⟨m,hm⟩: ∃m,q[k]? =some m:=⟨q[k]'(by omega),by simp⟩
  obtain ⟨a,rfl⟩:=hx.some (fun e=>by have:=qcell0 hy;rw [e] at this;simp at this)
  have hqa:=((Y).at_ k y m hy hm)
  have hyb:=hqa.2.2
  refine nz_i (ask_t (by omega) ?_)
  have n:=hx.mv d (tagn (by simp<;>omega))
  refine ld_sl n (by rw [Int.toNat_natCast];exact qcell0 hy) ?_
  refine ld_sl2 n (by rw [Int.toNat_natCast];exact qcell1 hy) ?_
  refine ld_sl2 n (by rw [Int.toNat_natCast];exact qcell2 hy) ?_
  refine al_t (M+9) fun am an aa L N ao=>?_
  refine st_t L rfl (by simp) fun ap o G ab=>?_
  have p:=on_ch L G
  refine st_t o rfl (by simp) fun aq r H ac=>?_
  have t:=on_ch o H
  refine st_t r rfl (by simp) fun ar w I ad=>?_
  have x:=on_ch r I
  refine ld_t w rfl (dSl_i ?_)
  have z:=(((N.app p).app t).app x)
  have f:=hyb.mv z (tagn (by simp<;>omega))
  refine tcall (c_clone τ _ f.sl f.len f.nn (by omega)) ?_
  rintro ae af ⟨A,B,rfl,b,C,Z⟩
  have ag:=b.size
  refine dSl_i ?_
  have D:=w.ch b (by simp)
  refine st_t D rfl (by simp) fun au g J ah=>?_
  have j:=on_ch D J
  refine ld_t g rfl (ld_t g rfl (ld_t g rfl ?_))
  refine al_t (M+9) fun av aw ai P l aj=>?_
  have E:=(((z.app b).app j).app l)
  have F:=ho.mv E (tagn (by simp))
  refine app_i u119 in197 rfl F P.sl (m:=1) (k:=3) rfl (by intro u hu;simp at hu;rcases hu with rfl|rfl|rfl<;>rfl) (by simp) (by unfold maxLen;omega) fun Q oa2 oc2 R K _=>?_
  have c:=K.ch F (T:=[M+1]) (by simp)
  have ak:=c.size
  refine dSl_i (wr_t (by omega) ?_)
  have S:=((((((((d.app N).app p).app t).app x).app b).app j).app l).app c)
  refine ⟨⟨Q,rfl,_,_,_,_,rfl,((Ch.refl [M+1,M+9] s).ch S (by simp)),?_⟩,?_⟩
  ·have U:=hq2.mv (E.app c) (tagn (by simp<;>omega))
   have V:=((j.app l).app c)
   have W:=C.mv V (tagn (by simp<;>omega))
   refine ⟨k+1,qs2++[(y.1,y.2.1,(A,B))],by omega,by omega,by omega,?_,?_⟩
   ·rw [List.flatMap_append];exact R
   rw [show q.take (k+1)=q.take k++[m] from by rw [List.take_add_one,hm];rfl]
   exact QRel.snoc U ⟨hqa.1,hqa.2.1,⟨W.sl,hyb.len⟩⟩
  simp only [];omega
 obtain rfl:k=xn:=by omega
 have hq3:=hq2
 have ho:=ho
 rw [List.take_of_length_le (by have:=hq.len;omega)] at hq3
 rw [hon] at ho ⊢
 exact ret_t' (s':=remark X (M+1) τ) rfl ⟨_,_,_,rfl,remark_ch ((Ch.refl [] s).fr d hM (by simp)) hM (by omega),ho.remark,hq3.keep (by omega)⟩
theorem c_queue (τ d T:Nat) (D:DiskM) (s:TH) (hT:10<=T) (hd:Disk s d T D):TRet Tryz.prog 73 #[.pointer (some ⟨d,0,none⟩)] s fun v s'=>∃a c' qs',v=.slice a D.queue.length c'/\Ch [] s s'/\Own s' a D.queue.length c' 197 3 (qs'.flatMap qv) τ/\QRel s' τ qs' D.queue:=by
 obtain ⟨pa,pc,qa,qc,hs,qs,fr,fm,hD⟩:=id hd
 have hdb:=hD.blk
 have hdq:=hD.que
 have hdr:=hD.qrel
 have hqn:=hD.nq
 refine F73_calls _  ?_
 unfold F73
 refine sB_f (by rfl) (nz_i (ld_t hdb rfl (dSl_i ?_)))
 refine tcall (c_qsent τ _ _ hdq.sl hdr hD.qrel.len (by omega)) ?_
 rintro i j ⟨g,h,f,rfl,e,b,c⟩
 have k:=e.size
 refine dSl_i ?_
 refine ret_t ?_
 exact ⟨_,_,_,rfl,((Ch.refl [] s).ch e (by simp)),b,c⟩
def VolM.lost (V:VolM) (k:Nat):VolM:={ V with D:={ V.D with queue:=V.D.queue.eraseIdx k },way:=V.way.eraseIdx k }
def VolM.landed (V:VolM) (k:Nat) (w:WayM):VolM:={ V with D:={ V.D with queue:=V.D.queue.eraseIdx k,blocks:=V.D.blocks.set w.blk.toNat w.by_ },way:=V.way.eraseIdx k,P:=(V.P.doneP w.ids).1 }
def VolM.compl (V:VolM) (k:Int) (ok:Bool):VolM×Int:=
 if k<0∨k>=V.way.length then (V,1)
 else match V.way[k.toNat]? with
  |none=>(V,1)
  |some w=>if ok=false then (V.lost k.toNat,4) else (V.landed k.toNat w.2,(V.P.doneP w.2.ids).2)
theorem erase_map {α β:Type} (f:α->β): ∀(l:List α) (k:Nat),(l.map f).eraseIdx k=(l.eraseIdx k).map f
 |[],k=>by simp
 |x::l,0=>rfl
 |x::l,k+1=>by simp [erase_map f l k]
theorem Disk.qin2 {s:TH} {d T:Nat} {D:DiskM} (h:Disk s d T D) {m:SentM} (hm:m∈D.queue):0<=m.blk/\m.blk<D.blocks.length:=by obtain ⟨_,_,_,_,_,_,_,_,h⟩:=h;exact h.qin m hm
theorem way_q {V:VolM} (ok:VOk V) {k:Nat} {p:Int×WayM} (h:V.way[k]? =some p):V.D.queue[k]? =some (sentOf p):=by rw [ok.que,List.getElem?_map,h];rfl
theorem way_ixf {V:VolM} (ok:VOk V) {k:Nat} {p:Int×WayM} (h:V.way[k]? =some p):ixf (fun m:SentM=>m.id==p.1) V.D.queue=(k:Int):=by
 refine ixf_some (x:=sentOf p) (way_q ok h) (by simp [sentOf]) fun j y hj hy=>?_
 rw [ok.que,List.getElem?_map] at hy
 obtain ⟨z,hz,rfl⟩:=Option.map_eq_some_iff.1 hy
 have h1:=(List.getElem?_eq_some_iff.1 hz)
 have h2:=(List.getElem?_eq_some_iff.1 h)
 obtain ⟨a1,a2⟩:=h1
 obtain ⟨b1,b2⟩:=h2
 have:=List.pairwise_iff_getElem.1 ok.wsr j k a1 b1 hj
 rw [a2,b2] at this
 simp only [sentOf,beq_eq_false_iff_ne]
 omega
theorem VOk.lost {V:VolM} (ok:VOk V) (k:Nat):VOk (V.lost k) where
 que:=by show V.D.queue.eraseIdx k=(V.way.eraseIdx k).map sentOf;rw [ok.que,erase_map]
 wid p hp:=ok.wid p ((List.eraseIdx_sublist _ _).subset hp)
 wsr:=ok.wsr.sublist (List.eraseIdx_sublist _ _)
 lst:=ok.lst
 n0:=ok.n0
 nof:=ok.nof
 len:=ok.len
 wlen:=Nat.le_trans (List.eraseIdx_sublist _ _).length_le ok.wlen
 wids p hp:=ok.wids p ((List.eraseIdx_sublist _ _).subset hp)
theorem VOk.landed {V:VolM} (ok:VOk V) (k:Nat) {w:WayM} (hw:w.by_.length=128):VOk (V.landed k w) where
 que:=by show V.D.queue.eraseIdx k=(V.way.eraseIdx k).map sentOf;rw [ok.que,erase_map]
 wid p hp:=ok.wid p ((List.eraseIdx_sublist _ _).subset hp)
 wsr:=ok.wsr.sublist (List.eraseIdx_sublist _ _)
 lst:=ok.lst
 n0:=ok.n0
 nof:=ok.nof
 len y hy:=(List.mem_or_eq_of_mem_set (show y∈V.D.blocks.set _ _ from hy)).elim (ok.len y) fun e=>e▸hw
 wlen:=Nat.le_trans (List.eraseIdx_sublist _ _).length_le ok.wlen
 wids p hp:=ok.wids p ((List.eraseIdx_sublist _ _).subset hp)
theorem c_vcomplete (vp d U:Nat) (V:VolM) (lk:Int) (k:Int) (fok:Bool) (s:TH) (hU:10<=U) (hv:VolL s vp d U V lk):TRet Tryz.prog 202 #[.pointer (some ⟨vp,0,none⟩),.int .i64 k,.bool fok] s fun v s'=>v=.int .i64 (V.compl k fok).2/\Ch [U+1,U+10,U+11,U+12,U+13,U+14,U+20,U+21,U+22,U+23,U+31,U+32] s s'/\VolL s' vp d U (V.compl k fok).1 lk:=by
 obtain ⟨⟨c,p,rw_,rk,mw,mk,hV⟩,ok⟩:=id hv
 have hvb:=hV.blk
 have hvw:=hV.wm
 have hvv:=hV.wv
 have hvo:=hV.om
 have hvk:=hV.kv
 have hvD:=hV.dk
 have hvC:=hV.ca
 have hvP:=hV.ps
 have hn0:=ok.n0
 have hpok:=hV.ps.ok
 have hplst:=hV.ps.ok.lst
 have hnb:=hV.dk.nb
 obtain ⟨M,hM,hM0,hMa,hMb,hMc,hMd,hMe,hMf⟩:=fresh6 s (U+50) 0 0 0 0 0
 refine F202_calls _ _ _  ?_
 unfold F202
 refine nz_i (ld_t hvb rfl (dPtr_i ?_))
 refine tcall (c_queue (M+6) d (U+10) V.D _ (by omega) hvD) ?_
 rintro cE cF ⟨bY,bZ,L,rfl,i,t,X⟩
 have cG:=i.size
 have hwq0:=wlen_q ok
 refine dSl_i ?_
 refine jn_u ?_
 refine sB_d (fun bj=>?_) (fun bj=>?_)
 ·intro _
  intros
  refine dBl_i (sB_t (by rfl) ?_)
  refine ret_t ?_
  have b0:=hv.mv i (rngn50 (by simp))
  rw [show V.compl k fok=(V,1) from by unfold VolM.compl;rw [if_pos (by omega)]]
  exact ⟨rfl,((Ch.refl [U+1,U+10,U+11,U+12,U+13,U+14,U+20,U+21,U+22,U+23,U+31,U+32] s).ch i (by simp)),b0⟩
 intro _
 intros
 refine dBl_i ?_
 refine sB_d (fun bk=>?_) (fun bk=>?_)
 ·refine ret_t ?_
  have b1:=hv.mv i (rngn50 (by simp))
  rw [show V.compl k fok=(V,1) from by unfold VolM.compl;rw [if_pos (by omega)]]
  exact ⟨rfl,((Ch.refl [U+1,U+10,U+11,U+12,U+13,U+14,U+20,U+21,U+22,U+23,U+31,U+32] s).ch i (by simp)),b1⟩
 have G:=hvv.mv i (tagn (by simp))
 obtain ⟨kk,rfl⟩: ∃kk:Nat,k=kk:=⟨k.toNat,by omega⟩
 have hwq:=wlen_q ok
 obtain ⟨pw,hpw⟩: ∃p,V.way[kk]? =some p:=⟨V.way[kk]'(by omega),by simp⟩
 have hpq:=way_q ok hpw
 have hpx:=way_ixf ok hpw
 have hql:=(X).len
 obtain ⟨y,hy⟩: ∃y,L[kk]? =some y:=⟨L[kk]'(by omega),by simp⟩
 have hyi:=((X).at_ kk y _ hy hpq).1
 have hyi2:y.1=pw.1:=hyi
 obtain ⟨wv,hwv,⟨ba1,bc1,ia1,ic1,hxv,sb1,si1,hl1⟩⟩:=WMap.get G ok.wnd hpw
 subst hxv
 have hpm:=List.mem_of_getElem? hpw
 have hwi:=ok.wids pw hpm
 have hqin:=hV.dk
 have hcm0:V.compl kk fok=if fok=false then (V.lost kk,4) else (V.landed kk pw.2,(V.P.doneP pw.2.ids).2):=by unfold VolM.compl;rw [if_neg (by omega),Int.toNat_natCast,hpw]
 refine nz_i ?_
 have ae:=hvb.ch i (by simp)
 refine ld_t ae rfl (dMap_i ?_)
 obtain ⟨cg,rfl⟩:=t.ne_none (by omega)
 refine nz_i (ask_t (by omega) ?_)
 refine ld_sl (t).sl (by rw [Int.toNat_natCast];exact qcell0 hy) ?_
 refine dInt_i ?_
 refine ⟨?_,?_⟩
 ·have ak:=hvw.ch i (by simp)
  refine look_oks keyI um97 z199 ak y.1 (by rw [hyi2];exact hwv) ?_
  refine dT2 (dA3 (dBl_i ?_))
  refine al_t (M+1) fun cH cI ci al H cj=>?_
  refine st_t al rfl (by simp) fun cJ am aE ck=>?_
  have I:=on_ch al aE
  refine st_t am rfl (by simp) fun cK an aF cl=>?_
  have J:=on_ch am aF
  refine st_t an rfl (by simp) fun b2 bl aG cm=>?_
  have K:=on_ch an aG
  refine nz_i ?_
  have A:=(((H.app I).app J).app K)
  have ao:=ae.ch A (by simp<;>omega)
  refine ld_t ao rfl (dMap_i (nz_i (ask_t (by omega) ?_)))
  have ap:=t.mv A (tagn (by simp))
  refine ld_sl (ap).sl (by rw [Int.toNat_natCast];exact qcell0 hy) ?_
  refine dInt_i ?_
  have aq:=ak.ch A (by simp<;>omega)
  refine del_t keyI um97 aq (Prod.fst y) fun bm Y aH cn=>?_
  have o:Ch [U+1] b2 bm:=Chg.mono aH fun j _ e=>by subst e;rw [aq.tag];simp
  refine nz_i ?_
  have N:=ao.ch o (by simp)
  refine ld_t N rfl (dPtr_i (nz_i (ask_t (by omega) ?_)))
  have bn:=ap.mv o (tagn (by simp<;>omega))
  refine ld_sl (bn).sl (by rw [Int.toNat_natCast];exact qcell0 hy) ?_
  refine dInt_i ?_
  have n:=(((((i.app H).app I).app J).app K).app o)
  have bo:=hvD.mv n (rngn (by simp<;>omega))
  refine tcall (c_complete d (U+10) V.D y.1 fok _ (by omega) bo) ?_
  rintro co cp ⟨rfl,f,w⟩
  have cq:=f.size
  refine dInt_i ?_
  refine jn_u ?_
  refine sB_nd (fun Z=>?_) (fun Z=>?_)
  ·intro _
   intros
   refine dBl_i (sB_t (by rfl) ?_)
   refine ret_t ?_
   have bp:=Y.ch f (by simp)
   have bq:=N.ch f (by simp<;>omega)
   have br:=((A.app o).app f)
   have bs:=G.mv br (tagn (by simp<;>omega))
   have bt:=hvo.mv (n.app f) (tagn (by simp<;>omega))
   have bu:=hvk.mv (n.app f) (tagn (by simp<;>omega))
   have bv:=hvC.mv (n.app f) (rngn (by simp<;>omega))
   have bw:=hvP.mv (n.app f) (rngn (by simp<;>omega))
   have hff:fok=false:=by
    cases hfk:fok with
    |false=>rfl
    |true=>exfalso;rw [hyi2,hfk,compl_3 hpx hpq] at Z;exact Z rfl
   have hW:=bp
   have hD:=w
   rw [hyi2] at hW
   rw [hyi2,hff,compl_2 hpx hpq] at hD ⊢
   rw [hff] at hcm0
   rw [hcm0,if_pos rfl]
   exact ⟨rfl,((((((((Ch.refl [U+1,U+10,U+11,U+12,U+13,U+14,U+20,U+21,U+22,U+23,U+31,U+32] s).ch i (by simp)).ch H (by simp)).fr I hM (by simp)).fr J hM (by simp)).fr K hM (by simp)).ch o (by simp)).fr f hM (by simp<;>omega)),⟨⟨_,_,_,_,_,_,bq,hW,WMap.del bs ok.wnd hpw,hV.kn,bt,bu,hD,bv,bw⟩,ok.lost kk⟩⟩
  refine sB_n (fun aa=>?_) (fun aa=>?_)
  ·intro _
   intros
   refine dBl_i (sB_t (by rfl) ?_)
   refine ret_t ?_
   have bx:=Y.ch f (by simp)
   have bz:=N.ch f (by simp<;>omega)
   have bA:=((A.app o).app f)
   have bB:=G.mv bA (tagn (by simp<;>omega))
   have bC:=hvo.mv (n.app f) (tagn (by simp<;>omega))
   have bD:=hvk.mv (n.app f) (tagn (by simp<;>omega))
   have bE:=hvC.mv (n.app f) (rngn (by simp<;>omega))
   have bF:=hvP.mv (n.app f) (rngn (by simp<;>omega))
   have hW:=bx
   have hD:=w
   rw [hyi2] at hW
   rw [hyi2,aa,compl_2 hpx hpq] at hD ⊢
   rw [aa] at hcm0
   rw [hcm0,if_pos rfl]
   exact ⟨rfl,((((((((Ch.refl [U+1,U+10,U+11,U+12,U+13,U+14,U+20,U+21,U+22,U+23,U+31,U+32] s).ch i (by simp)).ch H (by simp)).fr I hM (by simp)).fr J hM (by simp)).fr K hM (by simp)).ch o (by simp)).fr f hM (by simp<;>omega)),⟨⟨_,_,_,_,_,_,bz,hW,WMap.del bB ok.wnd hpw,hV.kn,bC,bD,hD,bE,bF⟩,ok.lost kk⟩⟩
  intro _
  intros
  refine dBl_i (sB_f (by rfl) (nz_i ?_))
  have ar:=N.ch f (by simp<;>omega)
  refine ld_t ar rfl (dPtr_i ?_)
  have ab:=bl.ch (o.app f) (by simp<;>omega)
  refine ld_t ab rfl (dInt_i (ld_t ab rfl (dSl_i ?_)))
  have hbq:=hV.dk.qin2 (List.mem_of_getElem? hpq)
  have e5:=compl_3 hpx hpq
  have hft:fok=true:=by assumption
  have bG:=hvC.mv (n.app f) (rngn (by simp<;>omega))
  have ac:=((A.app o).app f)
  have bH:=sb1.mv ac (tagn (by simp<;>omega))
  refine tcall (c_vcPut (b:=pw.2.blk) (D:=(V.D.complete y.1 fok).1) _ (by omega) (by omega) (by omega) bG w (by rw [hyi2,hft,e5];unfold DiskM.has;rw [List.length_set];exact hbq) (by rw [hyi2,hft,e5,List.length_set]) bH hl1) ?_
  rintro cr cs ⟨rfl,q,au⟩
  have ct:=q.size
  refine dInt_i (sB_f (by rfl) (nz_i ?_))
  have av:=ar.ch q (by simp<;>omega)
  refine ld_t av rfl (dPtr_i ?_)
  have bI:=ab.ch q (by simp<;>omega)
  refine ld_t bI rfl (dSl_i ?_)
  have ad:=((n.app f).app q)
  have bJ:=hvP.mv ad (rngn (by simp<;>omega))
  have bK:=si1.mv (ac.app q) (tagn (by simp<;>omega))
  refine tcall (c_pdone p (U+30) V.P _ _ (by omega) bJ bK rfl (by omega) (by omega)) ?_
  rintro cu cv ⟨rfl,r,aw⟩
  have cw:=r.size
  refine dInt_i ?_
  refine ret_t ?_
  have bL:=((f.app q).app r)
  have bM:=Y.ch bL (by simp)
  have bN:=w.mv (q.app r) (rngn (by simp))
  have bO:=av.ch r (by simp<;>omega)
  have bP:=((ac.app q).app r)
  have bQ:=G.mv bP (tagn (by simp<;>omega))
  have bR:=hvo.mv (ad.app r) (tagn (by simp<;>omega))
  have bS:=hvk.mv (ad.app r) (tagn (by simp<;>omega))
  have bT:=au.mv r (rngn (by simp))
  have hW:=bM
  have hD:=bN
  rw [hyi2] at hW
  rw [hyi2,hft,compl_3 hpx hpq] at hD
  rw [hft] at hcm0 ⊢
  rw [hcm0,if_neg (by simp)]
  exact ⟨rfl,((((((((((Ch.refl [U+1,U+10,U+11,U+12,U+13,U+14,U+20,U+21,U+22,U+23,U+31,U+32] s).ch i (by simp)).ch H (by simp)).fr I hM (by simp)).fr J hM (by simp)).fr K hM (by simp)).ch o (by simp)).fr f hM (by simp<;>omega)).fr q hM (by simp<;>omega)).fr r hM (by simp<;>omega)),⟨⟨_,_,_,_,_,_,bO,hW,WMap.del bQ ok.wnd hpw,hV.kn,bR,bS,hD,bT,aw⟩,ok.landed kk hl1⟩⟩
 refine al_t (M+1) fun cx cy b3 ax u cz=>?_
 refine ⟨?_,?_⟩
 ·have bU:=t.mv u (tagn (by simp))
  refine ld_sl (bU).sl (by rw [Int.toNat_natCast];exact qcell0 hy) ?_
  refine dInt_i ?_
  rfl
 refine ⟨?_,?_⟩
 ·have bV:=ae.ch u (by simp)
  refine ld_t bV rfl (dMap_i ?_)
  rfl
 have ay:=hvw.ch (i.app u) (by simp)
 refine look_oks keyI um97 z199 ay y.1 (by rw [hyi2];exact hwv) ?_
 refine dT2 (dA3 (dBl_i ?_))
 refine st_t ax rfl (by simp) fun cA az aI cB=>?_
 have B:=on_ch ax aI
 refine st_t az rfl (by simp) fun cC aA aJ cD=>?_
 have C:=on_ch az aJ
 refine st_t aA rfl (by simp) fun bW bX aK b4=>?_
 have E:=on_ch aA aK
 refine nz_i ?_
 have x:=(((u.app B).app C).app E)
 have af:=ae.ch x (by simp<;>omega)
 refine ld_t af rfl (dMap_i (nz_i (ask_t (by omega) ?_)))
 have ag:=t.mv x (tagn (by simp))
 refine ld_sl (ag).sl (by rw [Int.toNat_natCast];exact qcell0 hy) ?_
 refine dInt_i ?_
 have aL:=((B.app C).app E)
 have ah:=ay.ch aL (by simp<;>omega)
 refine del_t keyI um97 ah (Prod.fst y) fun aM O aB b5=>?_
 have h:Ch [U+1] bW aM:=Chg.mono aB fun j _ e=>by subst e;rw [ah.tag];simp
 refine nz_i ?_
 have F:=af.ch h (by simp)
 refine ld_t F rfl (dPtr_i (nz_i (ask_t (by omega) ?_)))
 have aN:=ag.mv h (tagn (by simp<;>omega))
 refine ld_sl (aN).sl (by rw [Int.toNat_natCast];exact qcell0 hy) ?_
 refine dInt_i ?_
 have g:=(((((i.app u).app B).app C).app E).app h)
 have aO:=hvD.mv g (rngn (by simp<;>omega))
 refine tcall (c_complete d (U+10) V.D y.1 fok _ (by omega) aO) ?_
 rintro b6 b7 ⟨rfl,a,z⟩
 have b8:=a.size
 refine dInt_i ?_
 refine jn_u ?_
 refine sB_nd (fun Q=>?_) (fun Q=>?_)
 ·intro _
  intros
  refine dBl_i (sB_t (by rfl) ?_)
  refine ret_t ?_
  have aP:=O.ch a (by simp)
  have aQ:=F.ch a (by simp<;>omega)
  have aR:=((x.app h).app a)
  have aS:=G.mv aR (tagn (by simp<;>omega))
  have aT:=hvo.mv (g.app a) (tagn (by simp<;>omega))
  have aU:=hvk.mv (g.app a) (tagn (by simp<;>omega))
  have aV:=hvC.mv (g.app a) (rngn (by simp<;>omega))
  have aW:=hvP.mv (g.app a) (rngn (by simp<;>omega))
  have hff:fok=false:=by
   cases hfk:fok with
   |false=>rfl
   |true=>exfalso;rw [hyi2,hfk,compl_3 hpx hpq] at Q;exact Q rfl
  have hW:=aP
  have hD:=z
  rw [hyi2] at hW
  rw [hyi2,hff,compl_2 hpx hpq] at hD ⊢
  rw [hff] at hcm0
  rw [hcm0,if_pos rfl]
  exact ⟨rfl,((((((((Ch.refl [U+1,U+10,U+11,U+12,U+13,U+14,U+20,U+21,U+22,U+23,U+31,U+32] s).ch i (by simp)).ch u (by simp)).fr B hM (by simp)).fr C hM (by simp)).fr E hM (by simp)).ch h (by simp)).fr a hM (by simp<;>omega)),⟨⟨_,_,_,_,_,_,aQ,hW,WMap.del aS ok.wnd hpw,hV.kn,aT,aU,hD,aV,aW⟩,ok.lost kk⟩⟩
 refine sB_n (fun R=>?_) (fun R=>?_)
 ·intro _
  intros
  refine dBl_i (sB_t (by rfl) ?_)
  refine ret_t ?_
  have aX:=O.ch a (by simp)
  have aY:=F.ch a (by simp<;>omega)
  have aZ:=((x.app h).app a)
  have a0:=G.mv aZ (tagn (by simp<;>omega))
  have a1:=hvo.mv (g.app a) (tagn (by simp<;>omega))
  have a2:=hvk.mv (g.app a) (tagn (by simp<;>omega))
  have a3:=hvC.mv (g.app a) (rngn (by simp<;>omega))
  have a4:=hvP.mv (g.app a) (rngn (by simp<;>omega))
  have hW:=aX
  have hD:=z
  rw [hyi2] at hW
  rw [hyi2,R,compl_2 hpx hpq] at hD ⊢
  rw [R] at hcm0
  rw [hcm0,if_pos rfl]
  exact ⟨rfl,((((((((Ch.refl [U+1,U+10,U+11,U+12,U+13,U+14,U+20,U+21,U+22,U+23,U+31,U+32] s).ch i (by simp)).ch u (by simp)).fr B hM (by simp)).fr C hM (by simp)).fr E hM (by simp)).ch h (by simp)).fr a hM (by simp<;>omega)),⟨⟨_,_,_,_,_,_,aY,hW,WMap.del a0 ok.wnd hpw,hV.kn,a1,a2,hD,a3,a4⟩,ok.lost kk⟩⟩
 intro _
 intros
 refine dBl_i (sB_f (by rfl) (nz_i ?_))
 have ai:=F.ch a (by simp<;>omega)
 refine ld_t ai rfl (dPtr_i ?_)
 have S:=bX.ch (h.app a) (by simp<;>omega)
 refine ld_t S rfl (dInt_i (ld_t S rfl (dSl_i ?_)))
 have hbq:=hV.dk.qin2 (List.mem_of_getElem? hpq)
 have e5:=compl_3 hpx hpq
 have hft:fok=true:=by assumption
 have a5:=hvC.mv (g.app a) (rngn (by simp<;>omega))
 have T:=((x.app h).app a)
 have a6:=sb1.mv T (tagn (by simp<;>omega))
 refine tcall (c_vcPut (b:=pw.2.blk) (D:=(V.D.complete y.1 fok).1) _ (by omega) (by omega) (by omega) a5 z (by rw [hyi2,hft,e5];unfold DiskM.has;rw [List.length_set];exact hbq) (by rw [hyi2,hft,e5,List.length_set]) a6 hl1) ?_
 rintro b9 cb ⟨rfl,l,aC⟩
 have cc:=l.size
 refine dInt_i (sB_f (by rfl) (nz_i ?_))
 have aj:=ai.ch l (by simp<;>omega)
 refine ld_t aj rfl (dPtr_i ?_)
 have a7:=S.ch l (by simp<;>omega)
 refine ld_t a7 rfl (dSl_i ?_)
 have W:=((g.app a).app l)
 have a8:=hvP.mv W (rngn (by simp<;>omega))
 have a9:=si1.mv (T.app l) (tagn (by simp<;>omega))
 refine tcall (c_pdone p (U+30) V.P _ _ (by omega) a8 a9 rfl (by omega) (by omega)) ?_
 rintro cd ce ⟨rfl,m,aD⟩
 have cf:=m.size
 refine dInt_i ?_
 refine ret_t ?_
 have ba:=((a.app l).app m)
 have bb:=O.ch ba (by simp)
 have bc:=z.mv (l.app m) (rngn (by simp))
 have bd:=aj.ch m (by simp<;>omega)
 have be:=((T.app l).app m)
 have bf:=G.mv be (tagn (by simp<;>omega))
 have bg:=hvo.mv (W.app m) (tagn (by simp<;>omega))
 have bh:=hvk.mv (W.app m) (tagn (by simp<;>omega))
 have bi:=aC.mv m (rngn (by simp))
 have hW:=bb
 have hD:=bc
 rw [hyi2] at hW
 rw [hyi2,hft,compl_3 hpx hpq] at hD
 rw [hft] at hcm0 ⊢
 rw [hcm0,if_neg (by simp)]
 exact ⟨rfl,((((((((((Ch.refl [U+1,U+10,U+11,U+12,U+13,U+14,U+20,U+21,U+22,U+23,U+31,U+32] s).ch i (by simp)).ch u (by simp)).fr B hM (by simp)).fr C hM (by simp)).fr E hM (by simp)).ch h (by simp)).fr a hM (by simp<;>omega)).fr l hM (by simp<;>omega)).fr m hM (by simp<;>omega)),⟨⟨_,_,_,_,_,_,bd,hW,WMap.del bf ok.wnd hpw,hV.kn,bg,bh,hD,bi,aD⟩,ok.landed kk hl1⟩⟩
theorem VolP.relock {s s':TH} {v d U:Nat} {V:VolM} {lk lk':Int} {c p rw:Nat} {rk:Option Nat} {mw mk:List (Int×Value)} (h:VolP s v d U V lk c p rw rk mw mk) (k:Ch [U] s s')
  (hb:Blk s' v [.int .i32 lk',.int .u32 0,.pointer (some ⟨d,0,none⟩),.pointer (some ⟨c,0,none⟩),.pointer (some ⟨p,0,none⟩),.map (some rw),.bool V.old.on,.bool V.old.broken,.int .i64 V.old.room,.map rk] 102 U):VolP s' v d U V lk' c p rw rk mw mk:=
 ⟨hb,h.wm.ch k (by simp),h.wv.mv k (tagn (by simp)),h.kn,h.om.mv k (tagn (by simp)),h.kv.mv k (tagn (by simp)),h.dk.mv k (rngn (by simp<;>omega)),h.ca.mv k (rngn (by simp<;>omega)),h.ps.mv k (rngn (by simp<;>omega))⟩
theorem c_VBlocks2 (vp d U:Nat) (V:VolM)  (s:TH) (hU:10<=U) (hv:VolL s vp d U V 0):TRet Tryz.prog 38 #[.pointer (some ⟨vp,0,none⟩)] s fun v s'=>v=.int .i64 V.D.blocks.length/\Ch [U] s s'/\VolL s' vp d U V 0:=by
 obtain ⟨⟨c,p,rw_,rk,mw,mk,hV⟩,ok⟩:=id hv
 have hvb:=hV.blk
 have hvw:=hV.wm
 have hvv:=hV.wv
 have hvo:=hV.om
 have hvk:=hV.kv
 have hvD:=hV.dk
 have hvC:=hV.ca
 have hvP:=hV.ps
 have hn0:=ok.n0
 have hpok:=hV.ps.ok
 have hplst:=hV.ps.ok.lst
 have hnb:=hV.dk.nb
 refine F38_calls _  ?_
 unfold F38
 refine tcall (c_vheld _ _ hvb) ?_
 rintro z u ⟨rfl,f,b⟩
 have A:=f.size
 have hV1:=hV.relock f b
 have hv1:VolL u vp d U V 1:=⟨⟨_,_,_,_,_,_,hV1⟩,ok⟩
 refine dBl_i (sB_f (by rfl) (nz_i (nz_i (ld_t b rfl (dPtr_i ?_)))))
 have i:=hvD.mv f (rngn (by simp))
 refine tcall (c_blocks _ _ _ _ (by omega) i) ?_
 rintro B C ⟨rfl,e⟩
 have w:=e.size
 refine dInt_i ?_
 have h:=b.ch e (by simp)
 refine c_door Tryz.muLib h (by rfl) (fun _=>by rfl) fun x j k y=>?_
 have g:=on_ch h k
 refine ret_t ?_
 have a:=((f.app e).app g)
 have l:=hvw.ch a (by simp)
 have m:=hvv.mv a (tagn (by simp))
 have n:=hvo.mv a (tagn (by simp))
 have o:=hvk.mv a (tagn (by simp))
 have q:=i.mv (e.app g) (rngn (by simp))
 have r:=hvC.mv a (rngn (by simp))
 have t:=hvP.mv a (rngn (by simp))
 exact ⟨rfl,((Ch.refl [U] s).ch a (by simp)),⟨⟨_,_,_,_,_,_,j,l,m,hV.kn,n,o,q,r,t⟩,ok⟩⟩
theorem c_VReady (vp d U:Nat) (V:VolM) (τ:Nat) (s:TH) (hU:10<=U) (hv:VolL s vp d U V 0) (hτ:τ<U∨U+50<=τ):TRet Tryz.prog 67 #[.pointer (some ⟨vp,0,none⟩)] s fun v s'=>∃a c,v=.slice a V.ready.length c/\Ch [U] s s'/\Own s' a V.ready.length c 3 1 (ivs V.ready) τ/\VolL s' vp d U V 0:=by
 obtain ⟨⟨c,p,rw_,rk,mw,mk,hV⟩,ok⟩:=id hv
 have hvb:=hV.blk
 have hvw:=hV.wm
 have hvv:=hV.wv
 have hvo:=hV.om
 have hvk:=hV.kv
 have hvD:=hV.dk
 have hvC:=hV.ca
 have hvP:=hV.ps
 have hn0:=ok.n0
 have hpok:=hV.ps.ok
 have hplst:=hV.ps.ok.lst
 have hnb:=hV.dk.nb
 refine F67_calls _  ?_
 unfold F67
 refine tcall (c_vheld _ _ hvb) ?_
 rintro D x ⟨rfl,g,e⟩
 have E:=g.size
 have hV1:=hV.relock g e
 have hv1:VolL x vp d U V 1:=⟨⟨_,_,_,_,_,_,hV1⟩,ok⟩
 refine dBl_i (sB_f (by rfl) (nz_i ?_))
 refine tcall (c_vready _ _ _ _ _ τ _ (by omega) hv1) ?_
 rintro F G ⟨y,z,rfl,h,i⟩
 have A:=h.size
 refine dSl_i ?_
 have j:=e.ch h (by simp)
 refine c_door Tryz.muLib j (by rfl) (fun _=>by rfl) fun B k l C=>?_
 have f:=on_ch j l
 refine ret_t ?_
 have b:=((g.app h).app f)
 have m:=i.mv f (tagn (by simp<;>omega))
 have n:=hvw.ch b (by simp)
 have o:=hvv.mv b (tagn (by simp))
 have q:=hvo.mv b (tagn (by simp))
 have r:=hvk.mv b (tagn (by simp))
 have t:=hvD.mv b (rngn (by simp))
 have u:=hvC.mv b (rngn (by simp))
 have w:=hvP.mv b (rngn (by simp))
 exact ⟨_,_,rfl,((Ch.refl [U] s).ch b (by simp)),m,⟨⟨_,_,_,_,_,_,k,n,o,hV.kn,q,r,t,u,w⟩,ok⟩⟩
theorem c_VWrite (vp d U:Nat) (V:VolM) (b:Int) (s:TH) (hU:10<=U) (hv:VolL s vp d U V 0) (hn:V.n<1000000000000000000):TRet Tryz.prog 103 #[.pointer (some ⟨vp,0,none⟩),.int .i64 b] s fun v s'=>v=.int .i64 (V.write b).2/\Ch [U,U+1,U+10,U+11,U+12,U+13,U+14,U+20,U+21,U+22,U+23] s s'/\VolL s' vp d U (V.write b).1 0:=by
 obtain ⟨⟨c,p,rw_,rk,mw,mk,hV⟩,ok⟩:=id hv
 have hvb:=hV.blk
 have hvw:=hV.wm
 have hvv:=hV.wv
 have hvo:=hV.om
 have hvk:=hV.kv
 have hvD:=hV.dk
 have hvC:=hV.ca
 have hvP:=hV.ps
 have hn0:=ok.n0
 have hpok:=hV.ps.ok
 have hplst:=hV.ps.ok.lst
 have hnb:=hV.dk.nb
 refine F103_calls _ _  ?_
 unfold F103
 refine tcall (c_vheld _ _ hvb) ?_
 rintro r l ⟨rfl,e,f⟩
 have t:=e.size
 have hV1:=hV.relock e f
 have hv1:VolL l vp d U V 1:=⟨⟨_,_,_,_,_,_,hV1⟩,ok⟩
 refine dBl_i (sB_f (by rfl) (nz_i ?_))
 refine tcall (c_vwrite _ _ _ _ _ _ _ (by omega) hv1 (by omega)) ?_
 rintro u w ⟨rfl,h,g⟩
 have m:=h.size
 have hvx:=g
 obtain ⟨⟨c2,p2,rw2,rk2,mw2,mk2,hV2⟩,ok2⟩:=id hvx
 have hvb2:=hV2.blk
 refine dInt_i ?_
 refine c_door Tryz.muLib hvb2 (by rfl) (fun _=>by rfl) fun o i j q=>?_
 have a:=on_ch hvb2 j
 refine ret_t ?_
 have k:=((e.app h).app a)
 exact ⟨rfl,((Ch.refl [U,U+1,U+10,U+11,U+12,U+13,U+14,U+20,U+21,U+22,U+23] s).ch k (by simp)),⟨⟨_,_,_,_,_,_,hV2.relock a i⟩,ok2⟩⟩
theorem c_VComplete (vp d U:Nat) (V:VolM) (k:Int) (fok:Bool) (s:TH) (hU:10<=U) (hv:VolL s vp d U V 0):TRet Tryz.prog 105 #[.pointer (some ⟨vp,0,none⟩),.int .i64 k,.bool fok] s fun v s'=>v=.int .i64 (V.compl k fok).2/\Ch [U,U+1,U+10,U+11,U+12,U+13,U+14,U+20,U+21,U+22,U+23,U+31,U+32] s s'/\VolL s' vp d U (V.compl k fok).1 0:=by
 obtain ⟨⟨c,p,rw_,rk,mw,mk,hV⟩,ok⟩:=id hv
 have hvb:=hV.blk
 have hvw:=hV.wm
 have hvv:=hV.wv
 have hvo:=hV.om
 have hvk:=hV.kv
 have hvD:=hV.dk
 have hvC:=hV.ca
 have hvP:=hV.ps
 have hn0:=ok.n0
 have hpok:=hV.ps.ok
 have hplst:=hV.ps.ok.lst
 have hnb:=hV.dk.nb
 refine F105_calls _ _ _  ?_
 unfold F105
 refine tcall (c_vheld _ _ hvb) ?_
 rintro q l ⟨rfl,b,e⟩
 have r:=b.size
 have hV1:=hV.relock b e
 have hv1:VolL l vp d U V 1:=⟨⟨_,_,_,_,_,_,hV1⟩,ok⟩
 refine dBl_i (sB_f (by rfl) (nz_i ?_))
 refine tcall (c_vcomplete _ _ _ _ _ _ _ _ (by omega) hv1) ?_
 rintro t u ⟨rfl,g,f⟩
 have m:=g.size
 have hvx:=f
 obtain ⟨⟨c2,p2,rw2,rk2,mw2,mk2,hV2⟩,ok2⟩:=id hvx
 have hvb2:=hV2.blk
 refine dInt_i ?_
 refine c_door Tryz.muLib hvb2 (by rfl) (fun _=>by rfl) fun n h i o=>?_
 have a:=on_ch hvb2 i
 refine ret_t ?_
 have j:=((b.app g).app a)
 exact ⟨rfl,((Ch.refl [U,U+1,U+10,U+11,U+12,U+13,U+14,U+20,U+21,U+22,U+23,U+31,U+32] s).ch j (by simp)),⟨⟨_,_,_,_,_,_,hV2.relock a h⟩,ok2⟩⟩
theorem c_VRead (vp d U:Nat) (V:VolM) (τ:Nat) (b:Int) (s:TH) (hU:10<=U) (hv:VolL s vp d U V 0) (hn:V.n<1000000000000000000) (hb:V.D.has b) (hτ:τ<U∨U+50<=τ):TRet Tryz.prog 39 #[.pointer (some ⟨vp,0,none⟩),.int .i64 b] s fun v s'=>∃a c,v=.tuple #[.slice a 128 c,.int .i64 0]/\Ch [U,U+20,U+21,U+22,U+23] s s'/\Own s' a 128 c 5 1 (bvs (V.now b)) τ/\VolL s' vp d U V.tick 0:=by
 obtain ⟨⟨c,p,rw_,rk,mw,mk,hV⟩,ok⟩:=id hv
 have hvb:=hV.blk
 have hvw:=hV.wm
 have hvv:=hV.wv
 have hvo:=hV.om
 have hvk:=hV.kv
 have hvD:=hV.dk
 have hvC:=hV.ca
 have hvP:=hV.ps
 have hn0:=ok.n0
 have hpok:=hV.ps.ok
 have hplst:=hV.ps.ok.lst
 have hnb:=hV.dk.nb
 refine F39_calls _ _  ?_
 unfold F39
 refine tcall (c_vheld _ _ hvb) ?_
 rintro u o ⟨rfl,f,g⟩
 have w:=f.size
 have hV1:=hV.relock f g
 have hv1:VolL o vp d U V 1:=⟨⟨_,_,_,_,_,_,hV1⟩,ok⟩
 refine dBl_i (sB_f (by rfl) (nz_i ?_))
 refine tcall (c_vread _ _ _ _ _ τ _ _ (by omega) hv1 (by omega)) ?_
 rintro x y ⟨i,h⟩
 have q:=i.size
 rcases h with ⟨rfl,hnb2,hv2⟩|⟨a2,c2_,rfl,hh,hv2,ho2⟩
 ·exact absurd hb hnb2
 have hvx:=hv2
 obtain ⟨⟨c2,p2,rw2,rk2,mw2,mk2,hV2⟩,ok2⟩:=id hvx
 have hvb2:=hV2.blk
 refine dT2 (dSl_i (dInt_i ?_))
 refine c_door Tryz.muLib hvb2 (by rfl) (fun _=>by rfl) fun r j k t=>?_
 have e:=on_ch hvb2 k
 refine ret_t ?_
 have l:=((f.app i).app e)
 have m:=ho2.mv e (tagn (by simp<;>omega))
 exact ⟨_,_,rfl,((Ch.refl [U,U+20,U+21,U+22,U+23] s).ch l (by simp)),m,⟨⟨_,_,_,_,_,_,hV2.relock e j⟩,ok2⟩⟩
def VolM.first (V:VolM) (b:Int):Bool:=V.old.on&& !V.old.broken&&(kfind V.old.kept b).isNone
def VolM.keep (V:VolM) (b:Int):OldM:=if V.first b=true then (if (V.old.kept.length:Int)<V.old.room then { V.old with kept:=V.old.kept++[(b,V.now b)] } else { V.old with broken:=true }) else V.old
def VolM.ticks (V:VolM) (b:Int):Int:=if V.first b=true then V.n+1 else V.n
def VolM.change (V:VolM) (b o:Int) (y:List UInt8) (needs:List Int):VolM×Int×Int:=
 if ¬V.D.has b then (V,0,90)
 else if (V.P.add b o y needs).2.2≠0 then ({ V with n:=V.ticks b },0,(V.P.add b o y needs).2.2)
 else ({ V with n:=V.ticks b,P:=(V.P.add b o y needs).1,old:=V.keep b },(V.P.add b o y needs).2.1,0)
theorem olook_k {P:Program} {E:List PanicEntry->Heap->Prop} {T Kt Et:TypeId} {s:TH} {rk:Option Nat} {mk:List (Int×Value)} {l:List (Int×List UInt8)} {τ τ':Nat} {b:Int} {K:Value->Heap->Prop} (ko:KeyOk P Kt (Value.int .i64)) (hT:P.underlying T=some (.map Kt Et)) (hz: ∀w,(zeroValue Et).run P w=.ok (.slice none 0 0) w) (h:OMap s rk mk τ) (hv:KMap s τ' mk l)
  (hk: ∀a n c,K (.tuple #[.slice a n c,.bool (kfind l b).isSome]) s.h):semW P (Instr.lookup T (.map rk) (.int .i64 b) true) E s.h K:=by
 have hg:=KMap.get (b:=b) hv
 cases hf:kfind l b with
 |none=>rw [hf] at hg hk;exact olook_n ko hT hz h hg (hk _ _ _)
 |some y=>rw [hf] at hg hk;obtain ⟨a,c,h1,_⟩:=hg;exact olook_s ko hT hz h h1 (hk _ _ _)
theorem add_err {P:PatchM} {b o:Int} {y:List UInt8} {needs:List Int} (h:(P.add b o y needs).2.2≠0):(P.add b o y needs).1=P:=by
 unfold PatchM.add at h ⊢
 split
 ·rfl
 split
 ·rfl
 rename_i h1 h2
 rw [if_neg h1,if_neg h2] at h;exact absurd rfl h
theorem VOk.with {V:VolM} (ok:VOk V) {n:Int} (P:PatchM) (o:OldM) (hn:V.n<=n/\n<=1000000000000000000):VOk { V with n:=n,P:=P,old:=o }:=
 ⟨ok.que,ok.wid,ok.wsr,by have:=ok.lst;exact ⟨this.1,by show V.D.last<=n;omega⟩,by have:=ok.n0;exact ⟨by show 0<=n;omega,hn.2⟩,ok.nof,ok.len,ok.wlen,ok.wids⟩
theorem CacheV.up {s:TH} {c T d:Nat} {bs:List (List UInt8)} {n m:Int} (h:CacheV s c T d bs n) (hm:n<=m):CacheV s c T d bs m:=by
 obtain ⟨C,h1,h2,h3,h4,h5⟩:=h
 exact ⟨C,h1,h2,by omega,by omega,by omega⟩
theorem c_VChange (vp d U:Nat) (V:VolM) (b o:Int) {xa:Option Addr} {xn:Nat} (xc:Nat) {y:List UInt8} {τx:Nat} {na:Option Addr} {nn:Nat} (nc:Nat) {needs:List Int} {τn:Nat} (s:TH) (hU:10<=U) (hv:VolL s vp d U V 0) (hx:Sl s xa (bvs y) τx) (hxn:y.length=xn) (hn:Sl s na (ivs needs) τn) (hnn:needs.length=nn) (hb:(nn:Int)+V.P.last<=17592186044000) (hl:V.P.last<1000000) (hk:V.n<1000000000000000000) (hτ:(τx<U∨U+50<=τx)/\(τn<U∨U+50<=τn)):TRet Tryz.prog 15 #[.pointer (some ⟨vp,0,none⟩),.int .i64 b,.int .i64 o,.slice xa xn xc,.slice na nn nc] s fun v s'=>v=.tuple #[.int .i64 (V.change b o y needs).2.1,.int .i64 (V.change b o y needs).2.2]/\Ch [U,U+3,U+20,U+21,U+22,U+23,U+30,U+32] s s'/\VolL s' vp d U (V.change b o y needs).1 0:=by
 obtain ⟨⟨c,p,rw_,rk,mw,mk,hV⟩,ok⟩:=id hv
 have hvb:=hV.blk
 have hvw:=hV.wm
 have hvv:=hV.wv
 have hvo:=hV.om
 have hvk:=hV.kv
 have hvD:=hV.dk
 have hvC:=hV.ca
 have hvP:=hV.ps
 have hn0:=ok.n0
 have hpok:=hV.ps.ok
 have hplst:=hV.ps.ok.lst
 have hnb:=hV.dk.nb
 obtain ⟨M,hM,hM0,hMa,hMb,hMc,hMd,hMe,hMf⟩:=fresh6 s (U+50) τx τn 0 0 0
 refine F15_calls _ _ _ _ _ _ _ _ _  ?_
 unfold F15
 refine tcall (c_vheld _ _ hvb) ?_
 rintro bW bv ⟨rfl,F,G⟩
 have bX:=F.size
 have hV1:=hV.relock F G
 have hv1:VolL bv vp d U V 1:=⟨⟨_,_,_,_,_,_,hV1⟩,ok⟩
 refine dBl_i (sB_f (by rfl) (nz_i ?_))
 refine tcall (c_vhas _ _ _ _ _ _ _ (by omega) hv1) ?_
 rintro bY Z ⟨rfl,u⟩
 have bE:=u.size
 refine dBl_i ?_
 refine sB_nd (fun h=>?_) (fun h=>?_)
 ·have ae:=G.ch u (by simp)
  refine c_door Tryz.muLib ae (by rfl) (fun _=>by rfl) fun bF aK aL bG=>?_
  have al:=on_ch ae aL
  refine ret_t ?_
  have k:=((F.app u).app al)
  have aM:=hvw.ch k (by simp)
  have aN:=hvv.mv k (tagn (by simp))
  have aO:=hvo.mv k (tagn (by simp))
  have aP:=hvk.mv k (tagn (by simp))
  have aQ:=hvD.mv k (rngn (by simp))
  have aR:=hvC.mv k (rngn (by simp))
  have aS:=hvP.mv k (rngn (by simp))
  rw [show V.change b o y needs=(V,0,90) from by unfold VolM.change;rw [if_pos (by simpa using h)]]
  exact ⟨rfl,((Ch.refl [U,U+3,U+20,U+21,U+22,U+23,U+30,U+32] s).ch k (by simp)),⟨⟨_,_,_,_,_,_,aK,aM,aN,hV.kn,aO,aP,aQ,aR,aS⟩,ok⟩⟩
 refine nz_i ?_
 have K:=G.ch u (by simp)
 refine ld_t K rfl (dMap_i ?_)
 have S:=hvo.mv (F.app u) (tagn (by simp))
 have T:=hvk.mv (F.app u) (tagn (by simp))
 refine olook_k keyI um98 z49 S T fun ka kn kc=>?_
 refine dT2 (dSl_i (dBl_i ?_))
 refine jn1 (fun fv s'=>Ch [] Z s'/\(fv=.bool (V.first b))) ?_ ?_
 ·rintro fv bH ⟨l,rfl⟩
  have bI:=l.size
  intro _
  intros
  refine dBl_i ?_
  refine jn_u ?_
  refine sB_i (fun L=>?_) (fun L=>?_)
  ·have hfirst:V.first b=true:=by assumption
   have hhas:V.D.has b:=by simpa using h
   have hf2:=hfirst
   unfold VolM.first at hf2
   simp only [Bool.and_eq_true,Bool.not_eq_true',Option.isNone_iff_eq_none] at hf2
   have aT:=hv1.mv (u.app l) (rngn50 (by simp))
   refine tcall (c_vread _ _ _ _ _ (U+4) _ _ (by omega) aT (by omega)) ?_
   rintro bJ m ⟨af,ag⟩
   have bK:=af.size
   rcases ag with ⟨rfl,hnb2,hv2⟩|⟨a2,c2_,rfl,hh,hv2,ho2⟩
   ·exact absurd hhas hnb2
   obtain ⟨⟨c2,p2,rw2,rk2,mw2,mk2,hV2⟩,ok2⟩:=id hv2
   obtain ⟨kr,hkr⟩:=Option.isSome_iff_exists.1 (hV2.kn hf2.1.1)
   subst hkr
   have hvb2:Blk m vp [.int .i32 1,.int .u32 0,.pointer (some ⟨d,0,none⟩),.pointer (some ⟨c2,0,none⟩),.pointer (some ⟨p2,0,none⟩),.map (some rw2),.bool V.old.on,.bool V.old.broken,.int .i64 V.old.room,.map (some kr)] 102 U:=hV2.blk
   have hvw2:=hV2.wm
   have hvv2:WMap m (U+2) mw2 V.way:=hV2.wv
   have hvo2:OMap m (some kr) mk2 (U+3):=hV2.om
   have hvk2:KMap m (U+4) mk2 V.old.kept:=hV2.kv
   have hvD2:Disk m d (U+10) V.D:=hV2.dk
   have hvC2:CacheV m c2 (U+20) d V.D.blocks (V.n+1):=hV2.ca
   have hvP2:PSet m p2 (U+30) V.P:=hV2.ps
   have hkm:=hvo2.at_ _ rfl
   have hkl:mk2.length=V.old.kept.length:=by have:=congrArg List.length hvk2.keys;simpa using this
   refine dT2 (dSl_i (dInt_i (sB_f (by rfl) ?_)))
   intro _
   intros
   refine dSl_i (nz_i (ld_t hvb2 rfl (dPtr_i ?_)))
   have H:=(((F.app u).app l).app af)
   have aU:=hx.mv H (tagn (by simp<;>omega))
   have aV:=hn.mv H (tagn (by simp<;>omega))
   refine tcall (c_add _ _ _ _ _ _ _ _ (by omega) hvP2 aU hxn aV hnn hb hl) ?_
   rintro bL aW ⟨rfl,a,I⟩
   have bM:=a.size
   refine dT2 (dInt_i (dInt_i ?_))
   refine sB_nd (fun J=>?_) (fun J=>?_)
   ·have ah:=hvb2.ch a (by simp<;>omega)
    refine c_door Tryz.muLib ah (by rfl) (fun _=>by rfl) fun bN aX aY bO=>?_
    have g:=on_ch ah aY
    refine ret_t ?_
    have aZ:=I.mv g (rngn (by simp))
    have a0:=hvw2.ch (a.app g) (by simp)
    have a1:=hvv2.mv (a.app g) (tagn (by simp))
    have a3:=hvo2.mv (a.app g) (tagn (by simp))
    have a4:=hvk2.mv (a.app g) (tagn (by simp))
    have a5:=hvD2.mv (a.app g) (rngn (by simp))
    have a6:=hvC2.mv (a.app g) (rngn (by simp))
    have ht:V.ticks b=V.n+1:=by unfold VolM.ticks;rw [if_pos hfirst]
    have hc:V.change b o y needs=({ V with n:=V.ticks b },0,(V.P.add b o y needs).2.2):=by unfold VolM.change;rw [if_neg (by simpa using h),if_pos J]
    rw [hc]
    have hP:=aZ
    rw [add_err J] at hP
    exact ⟨rfl,((((Ch.refl [U,U+3,U+20,U+21,U+22,U+23,U+30,U+32] s).ch H (by simp)).fr a hM (by simp<;>omega)).ch g (by simp)),⟨⟨_,_,_,_,_,_,aX,a0,a1,hV2.kn,a3,a4,a5,by rw [ht];exact a6,hP⟩,ok.with V.P V.old (by rw [ht];omega)⟩⟩
   refine jn_u ?_
   refine jn_u ?_
   refine sB_t (by assumption) ?_
   refine nz_i ?_
   have q:=hvb2.ch a (by simp<;>omega)
   refine ld_t q rfl (dMap_i (nz_i (ld_t q rfl (dInt_i ?_))))
   have W:=hkm.ch a (by simp)
   refine mlen_t um98 W ?_
   refine dInt_i ?_
   refine ⟨?_,?_⟩
   ·refine ld_t q rfl (dInt_i ?_)
    rfl
   intro _
   intros
   refine dBl_i ?_
   refine sB_d (fun a7=>?_) (fun a7=>?_)
   ·refine nz_i (ld_t q rfl (dMap_i ?_))
    refine upd_t keyI um98 W b (Value.slice a2 128 c2_) fun a8 a9 am bP=>?_
    have N:Ch [U+3] aW a8:=Chg.mono am fun j _ e=>by subst e;rw [W.tag];simp
    intro _
    intros
    have ai:=q.ch N (by simp)
    refine c_door Tryz.muLib ai (by rfl) (fun _=>by rfl) fun bQ ba bb bR=>?_
    have B:=on_ch ai bb
    refine ret_t ?_
    have z:=((a.app N).app B)
    have bc:=hvw2.ch z (by simp)
    have bd:=hvv2.mv z (tagn (by simp))
    have be:=a9.ch B (by simp)
    have aj:=ho2.mv z (tagn (by simp))
    have bf:=hvk2.mv z (tagn (by simp))
    have bg:=hvD2.mv z (rngn (by simp))
    have bh:=hvC2.mv z (rngn (by simp))
    have bi:=I.mv (N.app B) (rngn (by simp))
    have ht:V.ticks b=V.n+1:=by unfold VolM.ticks;rw [if_pos hfirst]
    have hkp:V.keep b={ V.old with kept:=V.old.kept++[(b,V.now b)] }:=by unfold VolM.keep;rw [if_pos hfirst,if_pos (by omega)]
    have hc:V.change b o y needs=({ V with n:=V.ticks b,P:=(V.P.add b o y needs).1,old:=V.keep b },(V.P.add b o y needs).2.1,0):=by unfold VolM.change;rw [if_neg (by simpa using h),if_neg (by simpa using J)]
    rw [hc]
    rw [hkp]
    exact ⟨rfl,(((((Ch.refl [U,U+3,U+20,U+21,U+22,U+23,U+30,U+32] s).ch H (by simp)).fr a hM (by simp<;>omega)).ch N (by simp)).ch B (by simp)),⟨⟨_,_,_,_,_,_,ba,bc,bd,fun _=>rfl,OMap.of be,KMap.snoc aj.sl (by have:=aj.1;rw [bvs_len] at this;omega) bf hf2.2,bg,by rw [ht];exact bh,bi⟩,ok.with _ _ (by rw [ht];omega)⟩⟩
   refine sB_t (by assumption) ?_
   refine nz_i ?_
   refine st_t (r:=vp) (i:=7) q rfl (by simp) fun bS ak an bT=>?_
   have X:=on_ch q an
   intro _
   intros
   refine c_door Tryz.muLib ak (by rfl) (fun _=>by rfl) fun bU bj bk bV=>?_
   have O:=on_ch ak bk
   refine ret_t ?_
   have A:=((a.app X).app O)
   have bl:=hvw2.ch A (by simp)
   have bm:=hvv2.mv A (tagn (by simp))
   have bn:=hvo2.mv A (tagn (by simp))
   have bo:=hvk2.mv A (tagn (by simp))
   have bp:=hvD2.mv A (rngn (by simp))
   have bq:=hvC2.mv A (rngn (by simp))
   have br:=I.mv (X.app O) (rngn (by simp))
   have ht:V.ticks b=V.n+1:=by unfold VolM.ticks;rw [if_pos hfirst]
   have hkp:V.keep b={ V.old with broken:=true }:=by unfold VolM.keep;rw [if_pos hfirst,if_neg (by omega)]
   have hc:V.change b o y needs=({ V with n:=V.ticks b,P:=(V.P.add b o y needs).1,old:=V.keep b },(V.P.add b o y needs).2.1,0):=by unfold VolM.change;rw [if_neg (by simpa using h),if_neg (by simpa using J)]
   rw [hc]
   rw [hkp]
   exact ⟨rfl,(((((Ch.refl [U,U+3,U+20,U+21,U+22,U+23,U+30,U+32] s).ch H (by simp)).fr a hM (by simp<;>omega)).ch X (by simp)).ch O (by simp)),⟨⟨_,_,_,_,_,_,bj,bl,bm,fun _=>rfl,bn,bo,bp,by rw [ht];exact bq,br⟩,ok.with _ _ (by rw [ht];omega)⟩⟩
  intro _
  intros
  refine dSl_i (nz_i ?_)
  have Y:=K.ch l (by simp)
  refine ld_t Y rfl (dPtr_i ?_)
  have t:=((F.app u).app l)
  have bs:=hvP.mv t (rngn (by simp))
  have bt:=hx.mv t (tagn (by simp<;>omega))
  have bu:=hn.mv t (tagn (by simp<;>omega))
  refine tcall (c_add _ _ _ _ _ _ _ _ (by omega) bs bt hxn bu hnn hb hl) ?_
  rintro bw bx ⟨rfl,f,R⟩
  have bz:=f.size
  refine dT2 (dInt_i (dInt_i ?_))
  refine sB_nd (fun Q=>?_) (fun Q=>?_)
  ·have aa:=Y.ch f (by simp<;>omega)
   refine c_door Tryz.muLib aa (by rfl) (fun _=>by rfl) fun bA ao ap bB=>?_
   have w:=on_ch aa ap
   refine ret_t ?_
   have aq:=R.mv w (rngn (by simp))
   have C:=((t.app f).app w)
   have ar:=hvw.ch C (by simp)
   have au:=hvv.mv C (tagn (by simp))
   have ab:=((l.app f).app w)
   have av:=S.mv ab (tagn (by simp))
   have aw:=T.mv ab (tagn (by simp))
   have ax:=hvD.mv C (rngn (by simp))
   have ay:=hvC.mv C (rngn (by simp))
   have ht:V.ticks b=V.n:=by unfold VolM.ticks;rw [if_neg (by simpa using L)]
   have hc:V.change b o y needs=({ V with n:=V.ticks b },0,(V.P.add b o y needs).2.2):=by unfold VolM.change;rw [if_neg (by simpa using h),if_pos Q]
   rw [hc]
   have hP:=aq
   rw [add_err Q] at hP
   exact ⟨rfl,((((Ch.refl [U,U+3,U+20,U+21,U+22,U+23,U+30,U+32] s).ch t (by simp)).fr f hM (by simp<;>omega)).ch w (by simp)),⟨⟨_,_,_,_,_,_,ao,ar,au,hV.kn,av,aw,ax,by rw [ht];exact ay,hP⟩,ok.with V.P V.old (by rw [ht];omega)⟩⟩
  refine jn_u ?_
  refine jn_u ?_
  refine sB_f (by assumption) ?_
  intro _
  intros
  refine dBl_i (sB_f (by rfl) ?_)
  refine sB_f (by assumption) ?_
  intro _
  intros
  have ac:=Y.ch f (by simp<;>omega)
  refine c_door Tryz.muLib ac (by rfl) (fun _=>by rfl) fun bC az aA bD=>?_
  have x:=on_ch ac aA
  refine ret_t ?_
  have E:=((t.app f).app x)
  have aB:=hvw.ch E (by simp)
  have aC:=hvv.mv E (tagn (by simp))
  have ad:=((l.app f).app x)
  have aD:=S.mv ad (tagn (by simp))
  have aE:=T.mv ad (tagn (by simp))
  have aF:=hvD.mv E (rngn (by simp))
  have aG:=hvC.mv E (rngn (by simp))
  have aH:=R.mv x (rngn (by simp))
  have ht:V.ticks b=V.n:=by unfold VolM.ticks;rw [if_neg (by simpa using L)]
  have hkp:V.keep b=V.old:=by unfold VolM.keep;rw [if_neg (by simpa using L)]
  have hc:V.change b o y needs=({ V with n:=V.ticks b,P:=(V.P.add b o y needs).1,old:=V.keep b },(V.P.add b o y needs).2.1,0):=by unfold VolM.change;rw [if_neg (by simpa using h),if_neg (by simpa using Q)]
  rw [hc]
  rw [hkp]
  exact ⟨rfl,((((Ch.refl [U,U+3,U+20,U+21,U+22,U+23,U+30,U+32] s).ch t (by simp)).fr f hM (by simp<;>omega)).ch x (by simp)),⟨⟨_,_,_,_,_,_,az,aB,aC,hV.kn,aD,aE,aF,by rw [ht];exact aG,aH⟩,ok.with _ _ (by rw [ht];omega)⟩⟩
 intro K_133 hK_133
 refine nz_i (ld_t K rfl (dBl_i ?_))
 refine sB_i (fun aI=>?_) (fun aI=>?_)
 ·refine nz_i (ld_t K rfl (dBl_i ?_))
  refine sB_n (fun aJ=>?_) (fun aJ=>?_)
  ·refine hK_133 _ _ ⟨(Ch.refl [] Z),?_⟩
   first|rfl|(unfold VolM.first;simp [*])
  refine hK_133 _ _ ⟨(Ch.refl [] Z),?_⟩
  first|rfl|(unfold VolM.first;simp [*])
 refine hK_133 _ _ ⟨(Ch.refl [] Z),?_⟩
 first|rfl|(unfold VolM.first;simp [*])
def VolM.freeze (V:VolM) (room:Int):VolM×Int:=
 if V.old.on=true then (V,3) else if room<0∨room>65536 then (V,1) else ({ V with old:=⟨true,false,room,[]⟩ },0)
def VolM.thaw (V:VolM):VolM×Int:=if V.old.on=false then (V,3) else ({ V with old:=⟨false,false,0,[]⟩ },0)
def VolM.oldb (V:VolM) (b:Int):List UInt8:=(kfind V.old.kept b).getD (V.now b)
theorem OMap.nil (s:TH) (τ:Nat):OMap s none [] τ:=⟨fun r e=>(by cases e),fun _=>rfl⟩
theorem VOk.oldw {V:VolM} (ok:VOk V) (o:OldM):VOk { V with old:=o }:=⟨ok.que,ok.wid,ok.wsr,ok.lst,ok.n0,ok.nof,ok.len,ok.wlen,ok.wids⟩
theorem c_VFreeze (vp d U:Nat) (V:VolM) (room:Int) (s:TH) (hU:10<=U) (hv:VolL s vp d U V 0):TRet Tryz.prog 45 #[.pointer (some ⟨vp,0,none⟩),.int .i64 room] s fun v s'=>v=.int .i64 (V.freeze room).2/\Ch [U,U+3] s s'/\VolL s' vp d U (V.freeze room).1 0:=by
 obtain ⟨⟨c,p,rw_,rk,mw,mk,hV⟩,ok⟩:=id hv
 have hvb:=hV.blk
 have hvw:=hV.wm
 have hvv:=hV.wv
 have hvo:=hV.om
 have hvk:=hV.kv
 have hvD:=hV.dk
 have hvC:=hV.ca
 have hvP:=hV.ps
 have hn0:=ok.n0
 have hpok:=hV.ps.ok
 have hplst:=hV.ps.ok.lst
 have hnb:=hV.dk.nb
 refine F45_calls _ _  ?_
 unfold F45
 refine tcall (c_vheld _ _ hvb) ?_
 rintro aH aq ⟨rfl,a,b⟩
 have aI:=a.size
 have hV1:=hV.relock a b
 have hv1:VolL aq vp d U V 1:=⟨⟨_,_,_,_,_,_,hV1⟩,ok⟩
 refine dBl_i (sB_f (by rfl) (nz_i (nz_i (ld_t b rfl (dBl_i ?_)))))
 refine sB_i (fun C=>?_) (fun C=>?_)
 ·refine c_door Tryz.muLib b (by rfl) (fun _=>by rfl) fun aJ ar au aK=>?_
  have g:=on_ch b au
  refine ret_t ?_
  have D:=hvw.ch (a.app g) (by simp)
  have E:=hvv.mv (a.app g) (tagn (by simp))
  have F:=hvo.mv (a.app g) (tagn (by simp))
  have G:=hvk.mv (a.app g) (tagn (by simp))
  have H:=hvD.mv (a.app g) (rngn (by simp))
  have I:=hvC.mv (a.app g) (rngn (by simp))
  have J:=hvP.mv (a.app g) (rngn (by simp))
  rw [show V.freeze room=(V,3) from by unfold VolM.freeze;rw [if_pos (by assumption)]]
  exact ⟨rfl,(((Ch.refl [U,U+3] s).ch a (by simp)).ch g (by simp)),⟨⟨_,_,_,_,_,_,ar,D,E,hV.kn,F,G,H,I,J⟩,ok⟩⟩
 refine jn_u ?_
 refine sB_d (fun K=>?_) (fun K=>?_)
 ·intro _
  intros
  refine dBl_i (sB_t (by rfl) ?_)
  refine c_door Tryz.muLib b (by rfl) (fun _=>by rfl) fun av L M aw=>?_
  have e:=on_ch b M
  refine ret_t ?_
  have N:=hvw.ch (a.app e) (by simp)
  have O:=hvv.mv (a.app e) (tagn (by simp))
  have P:=hvo.mv (a.app e) (tagn (by simp))
  have Q:=hvk.mv (a.app e) (tagn (by simp))
  have R:=hvD.mv (a.app e) (rngn (by simp))
  have S:=hvC.mv (a.app e) (rngn (by simp))
  have T:=hvP.mv (a.app e) (rngn (by simp))
  rw [show V.freeze room=(V,1) from by unfold VolM.freeze;rw [if_neg (by simp only [*];simp),if_pos (by omega)]]
  exact ⟨rfl,(((Ch.refl [U,U+3] s).ch a (by simp)).ch e (by simp)),⟨⟨_,_,_,_,_,_,L,N,O,hV.kn,P,Q,R,S,T⟩,ok⟩⟩
 intro _
 intros
 refine dBl_i ?_
 refine sB_d (fun W=>?_) (fun W=>?_)
 ·refine c_door Tryz.muLib b (by rfl) (fun _=>by rfl) fun ax X Y ay=>?_
  have f:=on_ch b Y
  refine ret_t ?_
  have Z:=hvw.ch (a.app f) (by simp)
  have aa:=hvv.mv (a.app f) (tagn (by simp))
  have ab:=hvo.mv (a.app f) (tagn (by simp))
  have ac:=hvk.mv (a.app f) (tagn (by simp))
  have ad:=hvD.mv (a.app f) (rngn (by simp))
  have ae:=hvC.mv (a.app f) (rngn (by simp))
  have af:=hvP.mv (a.app f) (rngn (by simp))
  rw [show V.freeze room=(V,1) from by unfold VolM.freeze;rw [if_neg (by simp only [*];simp),if_pos (by omega)]]
  exact ⟨rfl,(((Ch.refl [U,U+3] s).ch a (by simp)).ch f (by simp)),⟨⟨_,_,_,_,_,_,X,Z,aa,hV.kn,ab,ac,ad,ae,af⟩,ok⟩⟩
 refine alm_t (Value.int .i64) (U+3) fun aL aM az ag k aA=>?_
 refine nz_i ?_
 have l:=b.ch k (by simp)
 refine st_t (r:=vp) (i:=6) l rfl (by simp) fun aN m y aB=>?_
 have n:=on_ch l y
 refine st_t (r:=vp) (i:=7) m rfl (by simp) fun aO o z aC=>?_
 have q:=on_ch m z
 refine st_t (r:=vp) (i:=8) o rfl (by simp) fun aP t A aD=>?_
 have u:=on_ch o A
 refine st_t (r:=vp) (i:=9) t rfl (by simp) fun aQ w B aE=>?_
 have x:=on_ch t B
 refine c_door Tryz.muLib w (by rfl) (fun _=>by rfl) fun aF ah ai aG=>?_
 have j:=on_ch w ai
 refine ret_t ?_
 have h:=((((((a.app k).app n).app q).app u).app x).app j)
 have aj:=hvw.ch h (by simp)
 have ak:=hvv.mv h (tagn (by simp))
 have al:=((((n.app q).app u).app x).app j)
 have am:=ag.ch al (by simp)
 have an:=hvD.mv h (rngn (by simp))
 have ao:=hvC.mv h (rngn (by simp))
 have ap:=hvP.mv h (rngn (by simp))
 rw [show V.freeze room=({ V with old:=⟨true,false,room,[]⟩ },0) from by unfold VolM.freeze;rw [if_neg (by simp only [*];simp),if_neg (by omega)]]
 exact ⟨rfl,((Ch.refl [U,U+3] s).ch h (by simp)),⟨⟨_,_,_,_,_,_,ah,aj,ak,fun _=>rfl,OMap.of am,trivial,an,ao,ap⟩,ok.oldw _⟩⟩
theorem c_VThaw (vp d U:Nat) (V:VolM)  (s:TH) (hU:10<=U) (hv:VolL s vp d U V 0):TRet Tryz.prog 51 #[.pointer (some ⟨vp,0,none⟩)] s fun v s'=>v=.int .i64 V.thaw.2/\Ch [U] s s'/\VolL s' vp d U V.thaw.1 0:=by
 obtain ⟨⟨c,p,rw_,rk,mw,mk,hV⟩,ok⟩:=id hv
 have hvb:=hV.blk
 have hvw:=hV.wm
 have hvv:=hV.wv
 have hvo:=hV.om
 have hvk:=hV.kv
 have hvD:=hV.dk
 have hvC:=hV.ca
 have hvP:=hV.ps
 have hn0:=ok.n0
 have hpok:=hV.ps.ok
 have hplst:=hV.ps.ok.lst
 have hnb:=hV.dk.nb
 refine F51_calls _  ?_
 unfold F51
 refine tcall (c_vheld _ _ hvb) ?_
 rintro Z O ⟨rfl,b,a⟩
 have aa:=b.size
 have hV1:=hV.relock b a
 have hv1:VolL O vp d U V 1:=⟨⟨_,_,_,_,_,_,hV1⟩,ok⟩
 refine dBl_i (sB_f (by rfl) (nz_i (nz_i (ld_t a rfl (dBl_i ?_)))))
 refine sB_n (fun u=>?_) (fun u=>?_)
 ·refine c_door Tryz.muLib a (by rfl) (fun _=>by rfl) fun ab P Q ac=>?_
  have e:=on_ch a Q
  refine ret_t ?_
  have w:=hvw.ch (b.app e) (by simp)
  have x:=hvv.mv (b.app e) (tagn (by simp))
  have y:=hvo.mv (b.app e) (tagn (by simp))
  have z:=hvk.mv (b.app e) (tagn (by simp))
  have A:=hvD.mv (b.app e) (rngn (by simp))
  have B:=hvC.mv (b.app e) (rngn (by simp))
  have C:=hvP.mv (b.app e) (rngn (by simp))
  rw [show V.thaw=(V,3) from by unfold VolM.thaw;rw [if_pos (by assumption)]]
  exact ⟨rfl,(((Ch.refl [U] s).ch b (by simp)).ch e (by simp)),⟨⟨_,_,_,_,_,_,P,w,x,hV.kn,y,z,A,B,C⟩,ok⟩⟩
 refine nz_i ?_
 refine st_t (r:=vp) (i:=6) a rfl (by simp) fun ad g m R=>?_
 have D:=on_ch a m
 refine st_t (r:=vp) (i:=7) g rfl (by simp) fun ae j n S=>?_
 have E:=on_ch g n
 refine st_t (r:=vp) (i:=8) j rfl (by simp) fun af k o T=>?_
 have F:=on_ch j o
 refine st_t (r:=vp) (i:=9) k rfl (by simp) fun ag l q W=>?_
 have G:=on_ch k q
 refine c_door Tryz.muLib l (by rfl) (fun _=>by rfl) fun X H I Y=>?_
 have t:=on_ch l I
 refine ret_t ?_
 have f:=(((((b.app D).app E).app F).app G).app t)
 have J:=hvw.ch f (by simp)
 have K:=hvv.mv f (tagn (by simp))
 have L:=hvD.mv f (rngn (by simp))
 have M:=hvC.mv f (rngn (by simp))
 have N:=hvP.mv f (rngn (by simp))
 rw [show V.thaw=({ V with old:=⟨false,false,0,[]⟩ },0) from by unfold VolM.thaw;rw [if_neg (by simp only [*];simp)]]
 exact ⟨rfl,((Ch.refl [U] s).ch f (by simp)),⟨⟨_,_,_,none,_,[],H,J,K,(fun h=>by cases h),OMap.nil _ _,trivial,L,M,N⟩,ok.oldw _⟩⟩
theorem c_VOld (vp d U:Nat) (V:VolM) (τ:Nat) (b:Int) (s:TH) (hU:10<=U) (hv:VolL s vp d U V 0) (hn:V.n<1000000000000000000) (hb:V.D.has b) (hτ:τ<U∨U+50<=τ):TRet Tryz.prog 123 #[.pointer (some ⟨vp,0,none⟩),.int .i64 b] s fun v s'=>Ch [U,U+20,U+21,U+22,U+23] s s'/\(((V.old.on=false∨V.old.broken=true)/\v=.tuple #[.slice none 0 0,.int .i64 3]/\VolL s' vp d U V 0)∨(∃a c,V.old.on=true/\V.old.broken=false/\v=.tuple #[.slice a 128 c,.int .i64 0]/\VolL s' vp d U V.tick 0/\Own s' a 128 c 5 1 (bvs (V.oldb b)) τ)):=by
 obtain ⟨⟨c,p,rw_,rk,mw,mk,hV⟩,ok⟩:=id hv
 have hvb:=hV.blk
 have hvw:=hV.wm
 have hvv:=hV.wv
 have hvo:=hV.om
 have hvk:=hV.kv
 have hvD:=hV.dk
 have hvC:=hV.ca
 have hvP:=hV.ps
 have hn0:=ok.n0
 have hpok:=hV.ps.ok
 have hplst:=hV.ps.ok.lst
 have hnb:=hV.dk.nb
 refine F123_calls _ _  ?_
 unfold F123
 refine tcall (c_vheld _ _ hvb) ?_
 rintro az ag ⟨rfl,e,f⟩
 have aA:=e.size
 have hV1:=hV.relock e f
 have hv1:VolL ag vp d U V 1:=⟨⟨_,_,_,_,_,_,hV1⟩,ok⟩
 refine dBl_i (sB_f (by rfl) (nz_i ?_))
 refine jn_u ?_
 refine nz_i (ld_t f rfl (dBl_i ?_))
 refine sB_n (fun x=>?_) (fun x=>?_)
 ·intro _
  intros
  refine dBl_i (sB_t (by rfl) ?_)
  refine c_door Tryz.muLib f (by rfl) (fun _=>by rfl) fun aB ah ai aC=>?_
  have h:=on_ch f ai
  refine ret_t ?_
  have y:=hvw.ch (e.app h) (by simp)
  have z:=hvv.mv (e.app h) (tagn (by simp))
  have A:=hvo.mv (e.app h) (tagn (by simp))
  have B:=hvk.mv (e.app h) (tagn (by simp))
  have C:=hvD.mv (e.app h) (rngn (by simp))
  have E:=hvC.mv (e.app h) (rngn (by simp))
  have F:=hvP.mv (e.app h) (rngn (by simp))
  exact ⟨(((Ch.refl [U,U+20,U+21,U+22,U+23] s).ch e (by simp)).ch h (by simp)),.inl ⟨.inl (by assumption),rfl,⟨⟨_,_,_,_,_,_,ah,y,z,hV.kn,A,B,C,E,F⟩,ok⟩⟩⟩
 refine nz_i (ld_t f rfl (dBl_i ?_))
 intro _
 intros
 refine dBl_i ?_
 refine sB_i (fun G=>?_) (fun G=>?_)
 ·refine c_door Tryz.muLib f (by rfl) (fun _=>by rfl) fun al H I am=>?_
  have g:=on_ch f I
  refine ret_t ?_
  have J:=hvw.ch (e.app g) (by simp)
  have K:=hvv.mv (e.app g) (tagn (by simp))
  have L:=hvo.mv (e.app g) (tagn (by simp))
  have M:=hvk.mv (e.app g) (tagn (by simp))
  have N:=hvD.mv (e.app g) (rngn (by simp))
  have O:=hvC.mv (e.app g) (rngn (by simp))
  have P:=hvP.mv (e.app g) (rngn (by simp))
  exact ⟨(((Ch.refl [U,U+20,U+21,U+22,U+23] s).ch e (by simp)).ch g (by simp)),.inl ⟨.inr (by assumption),rfl,⟨⟨_,_,_,_,_,_,H,J,K,hV.kn,L,M,N,O,P⟩,ok⟩⟩⟩
 refine nz_i (ld_t f rfl (dMap_i ?_))
 have hon:V.old.on=true:=by assumption
 have hbr:V.old.broken=false:=by assumption
 have m:=hvk.mv e (tagn (by simp))
 have hkg:=KMap.get (b:=b) m
 rcases hkf:kfind V.old.kept b with _|yk
 ·rw [hkf] at hkg
  have Q:=hvo.mv e (tagn (by simp))
  refine olook_n keyI um98 z49 Q hkg ?_
  refine dT2 (dSl_i (dBl_i (sB_f (by rfl) ?_)))
  refine tcall (c_vread _ _ _ _ _ τ _ _ (by omega) hv1 (by omega)) ?_
  rintro an ao ⟨o,q⟩
  have ap:=o.size
  rcases q with ⟨rfl,hnb2,hv2⟩|⟨a2,c2_,rfl,hh,hv2,ho2⟩
  ·exact absurd hb hnb2
  have hvx:=hv2
  obtain ⟨⟨c2,p2,rw2,rk2,mw2,mk2,hV2⟩,ok2⟩:=id hvx
  have hvb2:=hV2.blk
  refine dT2 (dSl_i (dInt_i ?_))
  refine c_door Tryz.muLib hvb2 (by rfl) (fun _=>by rfl) fun aq R S ar=>?_
  have l:=on_ch hvb2 S
  refine ret_t ?_
  have T:=((e.app o).app l)
  have W:=ho2.mv l (tagn (by simp<;>omega))
  exact ⟨((Ch.refl [U,U+20,U+21,U+22,U+23] s).ch T (by simp)),.inr ⟨_,_,hon,hbr,rfl,⟨⟨_,_,_,_,_,_,hV2.relock l R⟩,ok2⟩,by unfold VolM.oldb;rw [hkf];exact W⟩⟩
 rw [hkf] at hkg
 obtain ⟨ka,kc,hkg1,hkg2,hkg3⟩:=hkg
 have r:=hvo.mv e (tagn (by simp))
 refine olook_s keyI um98 z49 r hkg1 ?_
 refine dT2 (dSl_i (dBl_i (sB_t (by rfl) ?_)))
 refine tcall (c_cloneB τ _ hkg2 hkg3 (by omega)) ?_
 rintro au av ⟨aj,ak,rfl,k,t⟩
 have aw:=k.size
 refine dSl_i ?_
 have u:=f.ch k (by simp)
 refine c_door Tryz.muLib u (by rfl) (fun _=>by rfl) fun ax X Y ay=>?_
 have j:=on_ch u Y
 refine ret_t ?_
 have w:=t.mv j (tagn (by simp<;>omega))
 have i:=((e.app k).app j)
 have Z:=hvw.ch i (by simp)
 have aa:=hvv.mv i (tagn (by simp))
 have ab:=r.mv (k.app j) (tagn (by simp))
 have ac:=m.mv (k.app j) (tagn (by simp))
 have ad:=hvD.mv i (rngn (by simp))
 have ae:=hvC.mv i (rngn (by simp))
 have af:=hvP.mv i (rngn (by simp))
 have ho4:=w
 exact ⟨((Ch.refl [U,U+20,U+21,U+22,U+23] s).ch i (by simp)),.inr ⟨_,_,hon,hbr,rfl,⟨⟨_,_,_,_,_,_,X,Z,aa,hV.kn,ab,ac,ad,(ae).up (by show V.n<=V.n+1;omega),af⟩,ok.tick hn⟩,by unfold VolM.oldb;rw [hkf];exact w⟩⟩
theorem OMap.keep {s:TH} {rk:Option Nat} {mk:List (Int×Value)} {σ μ τ:Nat} (h:OMap s rk mk σ) (hn:σ≠μ):OMap (remark s μ τ) rk mk σ:=⟨fun r e=>(h.at_ r e).keep hn,h.no⟩
theorem WMap.keep {s:TH} {σ μ τ:Nat} (hn:σ≠μ): ∀ {m:List (Int×Value)} {l:List (Int×WayM)},WMap s σ m l->WMap (remark s μ τ) σ m l
 |[],[],h=>trivial
 |e::m,p::l,h=>by
  obtain ⟨h1,⟨ba,bc,ia,ic,g1,g2,g3,g4⟩,h2⟩:=h
  exact ⟨h1,⟨ba,bc,ia,ic,g1,g2.keep hn,g3.keep hn,g4⟩,WMap.keep hn h2⟩
 |[],_::_,h=>h.elim
 |_::_,[],h=>h.elim
theorem KMap.keep {s:TH} {σ μ τ:Nat} (hn:σ≠μ): ∀ {m:List (Int×Value)} {l:List (Int×List UInt8)},KMap s σ m l->KMap (remark s μ τ) σ m l
 |[],[],h=>trivial
 |e::m,p::l,⟨h1,⟨a,c,g1,g2,g3⟩,h2⟩=>⟨h1,⟨a,c,g1,g2.keep hn,g3⟩,KMap.keep hn h2⟩
 |[],_::_,h=>h.elim
 |_::_,[],h=>h.elim
theorem PMap.keep {s:TH} {σ μ τ:Nat} (hn:σ≠μ): ∀ {m:List (Int×Value)} {l:List PatM},PMap s σ m l->PMap (remark s μ τ) σ m l
 |[],[],h=>trivial
 |e::m,p::l,h=>by
  obtain ⟨h1,⟨ba,bc,na,nc,g1,g2,g3⟩,h2⟩:=h
  exact ⟨h1,⟨ba,bc,na,nc,g1,g2.keep hn,g3.keep hn⟩,PMap.keep hn h2⟩
 |[],_::_,h=>h.elim
 |_::_,[],h=>h.elim
theorem PSet.keep {s:TH} {p T μ τ:Nat} {P:PatchM} (h:PSet s p T P) (hn:μ<T∨T+10<=μ):PSet (remark s μ τ) p T P:=by
 obtain ⟨⟨r1,r2,m1,m2,hp⟩,ok⟩:=h
 exact ⟨⟨r1,r2,m1,m2,hp.blk.keep (by omega),hp.dm.keep (by omega),hp.lm.keep (by omega),PMap.keep (by omega) hp.pm,hp.dk,hp.dv⟩,ok⟩
theorem Disk.keep {s:TH} {d T μ τ:Nat} {D:DiskM} (h:Disk s d T D) (hn:μ<T∨T+10<=μ):Disk (remark s μ τ) d T D:=by
 obtain ⟨pa,pc,qa,qc,hs,qs,fr,fm,h⟩:=h
 exact ⟨pa,pc,qa,qc,hs,qs,fr,fm,h.blk.keep (by omega),h.rows.keep (by omega),h.brel.keep (by omega),h.que.keep (by omega),h.qrel.keep (by omega),h.fails.keep (by omega),h.fok,h.nb,h.nq,h.qin⟩
theorem CacheV.keep {s:TH} {c T d μ τ:Nat} {bs:List (List UInt8)} {n:Int} (h:CacheV s c T d bs n) (hn:μ<T∨T+10<=μ):CacheV (remark s μ τ) c T d bs n:=by
 obtain ⟨C,⟨⟨r,m,bp,bh,hp⟩,ok⟩,h2⟩:=h
 exact ⟨C,⟨⟨r,m,bp,bh,hp.blk.keep (by omega),hp.map.keep (by omega),⟨fun x hx=>(hp.bufs.at_ x hx).keep (by omega)⟩,⟨fun x hx=>⟨(hp.bufy.at_ x hx).sl.keep (by omega),(hp.bufy.at_ x hx).len⟩⟩,hp.mo,hp.bnd,hp.len⟩,ok⟩,h2⟩
theorem VolL.keep {s:TH} {v d U μ τ:Nat} {V:VolM} {lk:Int} (h:VolL s v d U V lk) (hn:μ<U∨U+50<=μ):VolL (remark s μ τ) v d U V lk:=by
 obtain ⟨⟨c,p,rw,rk,mw,mk,h⟩,ok⟩:=h
 exact ⟨⟨c,p,rw,rk,mw,mk,h.blk.keep (by omega),h.wm.keep (by omega),WMap.keep (by omega) h.wv,h.kn,h.om.keep (by omega),KMap.keep (by omega) h.kv,h.dk.keep (by omega),h.ca.keep (by omega),h.ps.keep (by omega)⟩,ok⟩
def wrStep (cl:List Int) (r:VolM×Bool) (b:Int):VolM×Bool:=
 if ((r.1.P.of b).any fun i=>decide (i∈cl))=true/\r.1.way.length<64 then ((r.1.write b).1,r.2&&((r.1.write b).2==0)) else r
theorem write_P {V:VolM} {b:Int}:(V.write b).1.P=V.P:=by
 unfold VolM.write
 split
 ·rfl
 split
 ·rfl
 split
 ·rfl
 split<;>rfl
theorem ready_len {V:VolM} (pok:POk V.P):(V.ready.length:Int)<=V.P.last:=by
 have h1:V.ready.length<=V.P.blocks.length:=List.length_filter_le _ _
 have:=blocks_len pok;omega
structure WrI (V:VolM) (r:VolM×Bool):Prop where
 P:r.1.P=V.P
 w: ∀p∈r.1.way,∃i∈p.2.ids,i∈V.P.all
theorem WrI.step {V:VolM} {cl:List Int} {r:VolM×Bool} {b:Int} (h:WrI V r):WrI V (wrStep cl r b):=by
 unfold wrStep
 split
 ·refine ⟨write_P.trans h.P,fun p hp=>?_⟩
  unfold VolM.write at hp
  split at hp
  ·exact h.w p hp
  split at hp
  ·exact h.w p hp
  split at hp
  ·exact h.w p hp
  rename_i hf
  split at hp
  ·exact h.w p hp
  rcases List.mem_append.1 (show p∈r.1.way++[_] from hp) with h1|h1
  ·exact h.w p h1
  rw [List.mem_singleton] at h1;subst h1
  obtain ⟨i,l,e⟩:=List.exists_cons_of_ne_nil hf
  refine ⟨i,by show i∈r.1.P.free b;rw [e];simp,?_⟩
  have:i∈r.1.P.free b:=by rw [e];simp
  rw [←h.P];exact of_sub (free_sub this)
 exact h
end Go.Proofs.YtkaikaodhegmhaaGreat.E
namespace Go.Proofs.YtkaikaodhegmhaaGreat.E
open Go Go.Proofs Go.RowKit Go.Maps Go.Shelf Go.Sort
set_option linter.unusedVariables false
set_option linter.unusedSimpArgs false
def ovL (d:List UInt8) (xs:List PatM):List UInt8:=xs.foldl (fun d x=>overlay d x.off.toNat x.by_) d
def cov (j:Nat) (x:PatM):Bool:=decide (x.off.toNat<=j/\j<x.off.toNat+x.by_.length)
theorem ovL_snoc (d:List UInt8) (xs:List PatM) (x:PatM):ovL d (xs++[x])=overlay (ovL d xs) x.off.toNat x.by_:=by unfold ovL;rw [List.foldl_append];rfl
def POv (P:PatchM):Prop:=∀x∈P.l,∀y∈P.l,x.id<y.id->x.blk=y.blk->(∃j,cov j x=true/\cov j y=true)->x.id∈y.needs
theorem over_ovL {P:PatchM} (ok:POk P): ∀ {xs:List PatM} {d:List UInt8},(∀x∈xs,x∈P.l)->P.over d (xs.map (·.id))=ovL d xs:=by
 intro xs
 induction xs with
 |nil=>intro d _;rfl
 |cons x xs ih=>
  intro d h
  show P.over (P.step d x.id) (xs.map (·.id))=ovL (overlay d x.off.toNat x.by_) xs
  have:P.step d x.id=overlay d x.off.toNat x.by_:=by unfold PatchM.step;rw [find_by ok.nodup (h x (by simp))]
  rw [this]
  exact ih fun y hy=>h y (List.mem_cons_of_mem _ hy)
theorem over_of {P:PatchM} (ok:POk P) (b:Int) (d:List UInt8):P.over d (P.of b)=ovL d (P.l.filter fun x=>x.blk==b):=over_ovL ok fun x hx=>(List.mem_filter.1 hx).1
theorem fsteps_srt {P:PatchM}: ∀(ids l:List Int),(l++ids).Pairwise (· < ·)->(ids.foldl P.fstep l).Pairwise (· < ·)
 |[],l,h=>by simpa using h
 |i::ids,l,h=>by
  refine fsteps_srt ids (P.fstep l i) ?_
  unfold PatchM.fstep
  have h2:(l++ids).Pairwise (· < ·):=h.sublist (List.Sublist.append_left (List.sublist_cons_self i ids) l)
  split
  ·split
   ·rw [List.append_assoc];exact h
   exact h2
  exact h2
theorem of_srt {P:PatchM} (ok:POk P) (b:Int):(P.of b).Pairwise (· < ·):=List.pairwise_map.2 (ok.srt.sublist List.filter_sublist)
theorem free_srt {P:PatchM} (ok:POk P) (b:Int):(P.free b).Pairwise (· < ·):=fsteps_srt (P.of b) [] (by simpa using of_srt ok b)
theorem free_closed {P:PatchM} {b i:Int} {x:PatM} (hi:i∈P.free b) (hx:P.find i=some x): ∀n∈P.pend x.needs,n∈P.free b:=by
 have key: ∀(ids l:List Int),(∀j∈l,∀y,P.find j=some y->∀n∈P.pend y.needs,n∈l)->∀j∈ids.foldl P.fstep l,∀y,P.find j=some y->∀n∈P.pend y.needs,n∈ids.foldl P.fstep l:=fun ids=>by
  induction ids with
  |nil=>intro l h;exact h
  |cons k ids ih=>
   intro l h
   refine ih (P.fstep l k) fun j hj y hy n hn=>?_
   unfold PatchM.fstep at hj ⊢
   split at hj
   ·rename_i z hz
    split at hj
    ·rename_i hall
     rw [if_pos hall]
     rcases List.mem_append.1 hj with hj|hj
     ·exact List.mem_append_left _ (h j hj y hy n hn)
     rw [List.mem_singleton] at hj;subst hj
     rw [hz] at hy;cases hy
     have:=List.all_eq_true.1 hall n hn
     exact List.mem_append_left _ (by simpa using this)
    rename_i hall
    rw [if_neg hall];exact h j hj y hy n hn
   exact h j hj y hy n hn
 exact key (P.of b) [] (by simp) i hi x hx
theorem POv.fin {P:PatchM} (h:POv P) (l:List Int):POv (P.fin l):=fun x hx y hy=>h x (List.mem_filter.1 hx).1 y (List.mem_filter.1 hy).1
theorem POv.add {P:PatchM} (ok:POk P) (h:POv P) {b o:Int} {y:List UInt8} {needs:List Int} (hf:fitsP b o y.length):POv { P with last:=P.last+1,l:=P.l++[P.newP b o y needs] }:=fun x hx z hz hlt hb hc=>by
 unfold fitsP at hf
 rcases List.mem_append.1 (show x∈P.l++[_] from hx) with h1|h1<;>rcases List.mem_append.1 (show z∈P.l++[_] from hz) with h2|h2
 ·exact h x h1 z h2 hlt hb hc
 ·rw [List.mem_singleton] at h2;subst h2
  refine List.mem_map.2 ⟨x,List.mem_filter.2 ⟨h1,?_⟩,rfl⟩
  obtain ⟨j,c1,c2⟩:=hc
  have hfx:=ok.fit x h1
  unfold cov at c1 c2
  simp only [decide_eq_true_eq] at c1 c2
  have c2:o.toNat<=j/\j<o.toNat+y.length:=c2
  have hb:x.blk=b:=hb
  rw [Bool.or_eq_true];right
  unfold ovx ovl
  exact decide_eq_true ⟨hb.symm,by omega,by omega⟩
 ·rw [List.mem_singleton] at h1;subst h1
  have:=ok.rng z h2
  have hlt:P.last+1<z.id:=hlt
  omega
 rw [List.mem_singleton] at h1 h2;subst h1 h2
 exact absurd hlt (Int.lt_irrefl _)
theorem add_of_ne {P:PatchM} {b o:Int} {y:List UInt8} {needs:List Int} {c:Int} (hc:c≠b):(P.l++[P.newP b o y needs]).filter (fun x=>x.blk==c)=P.l.filter fun x=>x.blk==c:=by
 rw [List.filter_append,show ([P.newP b o y needs].filter fun x=>x.blk==c)=[] from by
  rw [List.filter_cons];rw [show ((P.newP b o y needs).blk==c)=false from by show (b==c)=false;simpa using fun e=>hc e.symm];rfl,List.append_nil]
theorem newCache {s:TH} {c T d r:Nat} {b:Int} (h1:Blk s c [.pointer (some ⟨d,0,none⟩),.int .i64 b,.map (some r),.int .i64 0,.int .i64 0,.int .i64 0] 210 T) (h2:MapK (Value.int .i64) s r [] (T+1)) (hb:1<=b/\b<=64):Cache s c T d ⟨[],b,0,0,0⟩:=
 ⟨⟨r,[],fun _=>0,fun _=>(none,0),h1,h2,⟨fun x h=>(List.not_mem_nil h).elim⟩,⟨fun x h=>(List.not_mem_nil h).elim⟩,⟨List.Perm.refl _,fun x h=>(List.not_mem_nil h).elim,fun x h=>(List.not_mem_nil h).elim,List.nodup_nil,fun x h=>(List.not_mem_nil h).elim⟩,hb,by simp;omega⟩,
  ⟨List.Pairwise.nil,fun x h=>(List.not_mem_nil h).elim,by simp,by simp,fun x h=>(List.not_mem_nil h).elim⟩⟩
def VolM.fresh (bs:List (List UInt8)):VolM:=⟨diskOf bs,⟨0,[],[]⟩,[],⟨false,false,0,[]⟩,0⟩
theorem VOk.fresh {bs:List (List UInt8)} (h: ∀y∈bs,y.length=128):VOk (VolM.fresh bs):=
 ⟨rfl,fun p hp=>(List.not_mem_nil hp).elim,List.Pairwise.nil,⟨Int.le_refl _,Int.le_refl _⟩,⟨Int.le_refl _,(by decide:(0:Int)<=1000000000000000000)⟩,fun _=>Int.le_refl _,h,(by decide:0<=64),fun p hp=>(List.not_mem_nil hp).elim⟩
theorem newPSet {s:TH} {p T r1 r2:Nat} (h:Blk s p [.int .i64 0,.map (some r1),.map (some r2),.bool true] 161 T) (h1:MapK (Value.int .i64) s r1 [] (T+1)) (h2:MapK (Value.int .i64) s r2 [] (T+2)):PSet s p T ⟨0,[],[]⟩:=
 ⟨⟨r1,r2,[],[],h,h1,h2,trivial,rfl,fun e he=>(List.not_mem_nil he).elim⟩,⟨List.Pairwise.nil,fun x hx=>(List.not_mem_nil hx).elim,fun x hx=>(List.not_mem_nil hx).elim,fun x hx=>(List.not_mem_nil hx).elim,fun x hx=>(List.not_mem_nil hx).elim,fun x hx=>(List.not_mem_nil hx).elim,fun i h1 h2=>absurd (Int.le_trans h1 h2) (by show ¬(1:Int)<=0;decide),fun x hx=>(List.not_mem_nil hx).elim,(by decide:(0:Int)<=0/\(0:Int)<=1000000)⟩⟩
theorem c_vopen2 (U d:Nat) (bs:List (List UInt8)) (b:Int) (s:TH) (hU:10<=U) (hd:Disk s d (U+10) (diskOf bs)) (hl: ∀y∈bs,y.length=128) (hb:1<=b/\b<=64):TRet Tryz.prog 29 #[.pointer (some ⟨d,0,none⟩),.int .i64 b] s fun v s'=>∃r,v=.tuple #[.pointer (some ⟨r,0,none⟩),.int .i64 0]/\Ch [] s s'/\VolL s' r d U (VolM.fresh bs) 0:=by
 refine F29_calls _ _  ?_
 unfold F29
 refine tcall (c_cnew (U+10) d (diskOf bs) (U+20) b _ (by omega) hd hb) ?_
 rintro K L ⟨C,D,rfl,n,e,f⟩
 have M:=n.size
 refine dT2 (dPtr_i (dInt_i (sB_f (by rfl) ?_)))
 refine tcall (c_pnew (U+30) _) ?_
 rintro N O ⟨E,r1call2,r2call2,rfl,g,i,j,k⟩
 have F:=g.size
 refine dPtr_i ?_
 refine alm_t (Value.int .i64) (U+1) fun P Q G o c H=>?_
 refine al_t U fun R S I p a J=>?_
 refine ret_t ?_
 have l:=(((n.app g).app c).app a)
 have q:=o.ch a (by simp)
 have t:=hd.mv l (rngn (by simp))
 have m:=((g.app c).app a)
 have u:=e.ch m (by simp)
 have w:=f.ch m (by simp)
 have z:=i.ch (c.app a) (by simp)
 have A:=j.ch (c.app a) (by simp)
 have B:=k.ch (c.app a) (by simp)
 exact ⟨_,rfl,((Ch.refl [] s).ch l (by simp)),⟨⟨_,_,_,none,[],[],p,q,trivial,(fun h=>by cases h),OMap.nil _ _,trivial,t,⟨_,newCache u w hb,⟨fun x hx=>(List.not_mem_nil hx).elim,fun x hx=>(List.not_mem_nil hx).elim⟩,Int.le_refl _,Int.le_refl _,Int.le_refl _⟩,newPSet z A B⟩,VOk.fresh hl⟩⟩
structure DoV where
 op:Int
 b:Int
 off:Int
 n:Int
 ba:Option Addr
 bn:Nat
 bc:Nat
 na:Option Addr
 nn:Nat
 nc:Nat
 by_:List UInt8
 ns:List Int
structure DoIn (s:TH) (τ:Nat) (x:DoV):Prop where
 bs:Sl s x.ba (bvs x.by_) τ
 bl:x.by_.length=x.bn
 bo:x.ba=none->x.bn=0
 bm:x.bn<=x.bc/\x.bn<=140737488351232
 ns:Sl s x.na (ivs x.ns) τ
 nl:x.ns.length=x.nn
 no:x.na=none->x.nn=0
 nm:x.nn<=x.nc/\x.nn<=17592186043904
theorem DoIn.mv {s s':TH} {τ:Nat} {x:DoV} {B:Nat->Prop} (h:DoIn s τ x) (c:Chg B s s') (hn: ∀j,j<s.h.size->s.g j=τ->¬B j):DoIn s' τ x:=⟨h.bs.mv c hn,h.bl,h.bo,h.bm,h.ns.mv c hn,h.nl,h.no,h.nm⟩
structure Dos (s:TH) (τ:Nat) (l:List DoV):Prop where
 at_: ∀x∈l,DoIn s τ x
theorem Dos.mv {s s':TH} {τ:Nat} {l:List DoV} {B:Nat->Prop} (h:Dos s τ l) (c:Chg B s s') (hn: ∀j,j<s.h.size->s.g j=τ->¬B j):Dos s' τ l:=⟨fun x hx=>(h.at_ x hx).mv c hn⟩
theorem add_ok {P:PatchM} {b o:Int} {y:List UInt8} {needs:List Int} (h1:fitsP b o y.length) (h2: ∀n∈needs,1<=n/\n<=P.last):P.add b o y needs=({ P with last:=P.last+1,l:=P.l++[P.newP b o y needs] },P.last+1,0):=by
 unfold PatchM.add
 rw [if_neg (by simpa using h1),if_neg (by simpa [PatchM.knows] using h2)]
theorem tmod_rng {a b n:Int} (ha:0<=a) (hb:0<b) (h:n=Int.tmod a b):0<=n/\n<b:=by
 subst h
 rw [Int.tmod_eq_emod_of_nonneg ha]
 exact ⟨Int.emod_nonneg a (by omega),Int.emod_lt_of_pos a hb⟩
end Go.Proofs.YtkaikaodhegmhaaGreat.E
