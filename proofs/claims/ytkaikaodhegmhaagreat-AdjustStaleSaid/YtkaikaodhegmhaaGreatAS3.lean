/- My own texts, joined. -/
import Derived.KernelRfl
import Derived.Maps.Own
import Derived.Shelf.SlIterI.Nil
import Derived.Shelf.SlLaysF
import Derived.Test.YtkaikaodhegmhaaGreatProg
import Derived.WalkKit
import Derived.Test.YtkaikaodhegmhaaGreatAS2
namespace Go.Proofs.YtkaikaodhegmhaaGreat.E
open Go Go.Proofs
set_option linter.unusedVariables false
set_option linter.unusedSimpArgs false
theorem u118 :Tryz.prog.underlying 118=some (.map 3 3):=by kernel_rfl
theorem u208 :Tryz.prog.underlying 208=some (.map 3 263):=by kernel_rfl
theorem z3 (w:World):(zeroValue 3).run Tryz.prog w=.ok (.int .i64 0) w:=by kernel_rfl
theorem z4 (w:World):(zeroValue 4).run Tryz.prog w=.ok (.bool false) w:=by kernel_rfl
theorem z5 (w:World):(zeroValue 5).run Tryz.prog w=.ok (.int .u8 0) w:=by kernel_rfl
theorem u3 :Tryz.prog.underlying 3=some (.int .i64):=by kernel_rfl
theorem u5 :Tryz.prog.underlying 5=some (.int .u8):=by kernel_rfl
theorem u22 :Tryz.prog.underlying 22=some (.slice 49):=by kernel_rfl
theorem z22 (w:World):(zeroValue 22).run Tryz.prog w=.ok (.slice none 0 0) w:=by kernel_rfl
theorem u33 :Tryz.prog.underlying 33=some (.slice 3):=by kernel_rfl
theorem z33 (w:World):(zeroValue 33).run Tryz.prog w=.ok (.slice none 0 0) w:=by kernel_rfl
theorem z39 (w:World):(zeroValue 39).run Tryz.prog w=.ok (.pointer none) w:=by kernel_rfl
theorem z46 (w:World):(zeroValue 46).run Tryz.prog w=.ok (.slice none 0 0) w:=by kernel_rfl
theorem u49 :Tryz.prog.underlying 49=some (.slice 5):=by kernel_rfl
theorem z53 (w:World):(zeroValue 53).run Tryz.prog w=.ok (.pointer none) w:=by kernel_rfl
theorem z183 (w:World):(zeroValue 183).run Tryz.prog w=.ok (.pointer none) w:=by kernel_rfl
theorem z263 (w:World):(zeroValue 263).run Tryz.prog w=.ok (.pointer none) w:=by kernel_rfl
theorem in5 :(Tryz.prog.info? 5).map (fun i=>(i.zero,i.size,i.bytes))=some (some (.int .u8 0),1,1):=by kernel_rfl
theorem in3 :(Tryz.prog.info? 3).map (fun i=>(i.zero,i.size,i.bytes))=some (some (.int .i64 0),1,8):=by kernel_rfl
theorem in49 :(Tryz.prog.info? 49).map (fun i=>(i.zero,i.size,i.bytes))=some (some (.slice none 0 0),1,24):=by kernel_rfl
theorem keyI :KeyOk Tryz.prog 3 (Value.int .i64):=keyInt u3
end Go.Proofs.YtkaikaodhegmhaaGreat.E
namespace Go.Proofs.YtkaikaodhegmhaaGreat.E
open Go Go.Proofs
set_option linter.unusedVariables false
set_option linter.unusedSimpArgs false
structure SentM where
 id:Int
 blk:Int
 by_:List UInt8
structure DiskM where
 blocks:List (List UInt8)
 queue:List SentM
 fails:Int->Int
 last:Int
def DiskM.has (D:DiskM) (b:Int):Prop:=0<=b/\b<D.blocks.length
instance (D : DiskM) (b : Int) : Decidable (D.has b) := by unfold DiskM.has; infer_instance
abbrev Hd :=Option Addr×Nat
def hv (n:Nat) (p:Hd):Value:=.slice p.1 n p.2
def hd1 (p:Hd):List Value:=[.slice p.1 128 p.2]
def qv (q:Int×Int×Hd):List Value:=[.int .i64 q.1,.int .i64 q.2.1,.slice q.2.2.1 128 q.2.2.2]
theorem hd1_len (p:Hd):(hd1 p).length=1:=rfl
structure ByAt (s:TH) (τ:Nat) (p:Hd) (b:List UInt8):Prop where
 sl:Sl s p.1 (bvs b) τ
 len:b.length=128
theorem ByAt.mv {s s':TH} {τ:Nat} {p:Hd} {b:List UInt8} {C:Nat->Prop} (h:ByAt s τ p b) (c:Chg C s s') (hn: ∀j,j<s.h.size->s.g j=τ->¬C j):ByAt s' τ p b:=⟨h.sl.mv c hn,h.len⟩
theorem ByAt.ne {s:TH} {τ:Nat} {p:Hd} {b:List UInt8} (h:ByAt s τ p b): ∃a,p.1=some a:=h.sl.some fun e=>by have:=congrArg List.length e;rw [bvs_len,h.len] at this;cases this
structure BRel (s:TH) (τ:Nat) (hs:List Hd) (bs:List (List UInt8)):Prop where
 len:hs.length=bs.length
 at_: ∀(i:Nat) (p:Hd) (b:List UInt8),hs[i]? =some p->bs[i]? =some b->ByAt s τ p b
structure QRel (s:TH) (τ:Nat) (qs:List (Int×Int×Hd)) (q:List SentM):Prop where
 len:qs.length=q.length
 at_: ∀(i:Nat) (x:Int×Int×Hd) (m:SentM),qs[i]? =some x->q[i]? =some m->x.1=m.id/\x.2.1=m.blk/\ByAt s τ x.2.2 m.by_
theorem BRel.mv {s s':TH} {τ:Nat} {hs:List Hd} {bs:List (List UInt8)} {C:Nat->Prop} (h:BRel s τ hs bs) (c:Chg C s s') (hn: ∀j,j<s.h.size->s.g j=τ->¬C j):BRel s' τ hs bs:=⟨h.len,fun i p b h1 h2=>(h.at_ i p b h1 h2).mv c hn⟩
theorem QRel.mv {s s':TH} {τ:Nat} {hs:List (Int×Int×Hd)} {bs:List SentM} {C:Nat->Prop} (h:QRel s τ hs bs) (c:Chg C s s') (hn: ∀j,j<s.h.size->s.g j=τ->¬C j):QRel s' τ hs bs:=⟨h.len,fun i p b h1 h2=>⟨(h.at_ i p b h1 h2).1,(h.at_ i p b h1 h2).2.1,(h.at_ i p b h1 h2).2.2.mv c hn⟩⟩
theorem bcell {hs:List Hd} {m:Nat} {x:Hd} (h:hs[m]? =some x):(hs.flatMap hd1)[m]? =some (.slice x.1 128 x.2):=by
 have:=fm_get hd1_len hs m 0 x h (by omega);simpa [hd1] using this
def ixr {α:Type} (p:α->Bool):List α->Nat->Int
 |[],_=> -1
 |x::l,i=>if p x=true then (i:Int) else ixr p l (i+1)
def ixf {α:Type} (p:α->Bool) (l:List α):Int:=ixr p l 0
theorem ixr_some {α:Type} {p:α->Bool}: ∀(l:List α) (i k:Nat) (x:α),l[k]? =some x->p x=true->(∀(j:Nat) (y:α),j<k->l[j]? =some y->p y=false)->ixr p l i=((i+k:Nat):Int)
 |[],i,k,x,h,_,_=>by simp at h
 |y::l,i,0,x,h,hp,_=>by simp at h;subst h;simp [ixr,hp]
 |y::l,i,k+1,x,h,hp,ha=>by
  have:=ha 0 y (by omega) (by simp)
  rw [ixr,if_neg (by simp [this]),ixr_some l (i+1) k x (by simpa using h) hp (fun j z hj hz=>ha (j+1) z (by omega) (by simpa using hz))]
  omega
theorem ixr_none {α:Type} {p:α->Bool}: ∀(l:List α) (i:Nat),(∀(j:Nat) (y:α),j<l.length->l[j]? =some y->p y=false)->ixr p l i= -1
 |[],i,_=>rfl
 |y::l,i,ha=>by
  have:=ha 0 y (by simp) (by simp)
  rw [ixr,if_neg (by simp [this])]
  exact ixr_none l (i+1) fun j z hj hz=>ha (j+1) z (by simpa using hj) (by simpa using hz)
theorem ixf_some {α:Type} {p:α->Bool} {l:List α} {k:Nat} {x:α} (h:l[k]? =some x) (hp:p x=true) (ha: ∀(j:Nat) (y:α),j<k->l[j]? =some y->p y=false):ixf p l=(k:Int):=by
 have:=ixr_some l 0 k x h hp ha;simpa [ixf] using this
theorem ixf_none {α:Type} {p:α->Bool} {l:List α} (ha: ∀(j:Nat) (y:α),j<l.length->l[j]? =some y->p y=false):ixf p l= -1:=ixr_none l 0 ha
theorem ixf_cases {α:Type} (p:α->Bool): ∀(l:List α),(ixf p l= -1/\∀x∈l,p x=false)∨∃(k:Nat) (x:α),ixf p l=k/\l[k]? =some x/\p x=true:=by
 intro l
 by_cases h: ∀x∈l,p x=false
 ·left;exact ⟨ixf_none fun j y hj hy=>h y (List.mem_of_getElem? hy),h⟩
 right
 have: ∃k x,l[k]? =some x/\p x=true/\∀(j:Nat) (y:α),j<k->l[j]? =some y->p y=false:=by
  induction l with
  |nil=>simp at h
  |cons y l ih=>
   by_cases hy:p y=true
   ·exact ⟨0,y,by simp,hy,fun j z hj=>by omega⟩
   obtain ⟨k,x,h1,h2,h3⟩:=ih (by intro h';apply h;intro x hx;rcases List.mem_cons.1 hx with rfl|hx<;>first|exact h' _ hx|simpa using hy)
   refine ⟨k+1,x,by simpa using h1,h2,fun j z hj hz=>?_⟩
   cases j with
   |zero=>simp at hz;subst hz;simpa using hy
   |succ j=>exact h3 j z (by omega) (by simpa using hz)
 obtain ⟨k,x,h1,h2,h3⟩:=this
 exact ⟨k,x,ixf_some h1 h2 h3,h1,h2⟩
def DiskM.write (D:DiskM) (b:Int) (x:List UInt8):DiskM×Int×Int:=
 if ¬D.has b then (D,0,1)
 else if x.length≠128 then (D,0,1)
 else if ixf (fun m:SentM=>m.blk==b) D.queue>=0 then (D,0,21)
 else if 64<=D.queue.length then (D,0,3)
 else ({ D with queue:=D.queue++[⟨D.last+1,b,x⟩],last:=D.last+1 },D.last+1,0)
theorem BRel.set {s:TH} {τ:Nat} {hs:List Hd} {bs:List (List UInt8)} (h:BRel s τ hs bs) (j:Nat) {p:Hd} {b:List UInt8} (hp:ByAt s τ p b):BRel s τ (hs.set j p) (bs.set j b):=by
 refine ⟨by simp [h.len],fun i x y hx hy=>?_⟩
 rw [List.getElem?_set] at hx hy
 by_cases hij:j=i
 ·subst hij
  rw [if_pos rfl] at hx hy
  split at hx
  ·split at hy
   ·cases hx;cases hy;exact hp
   cases hy
  cases hx
 rw [if_neg hij] at hx hy;exact h.at_ i x y hx hy
theorem QRel.erase {s:TH} {τ:Nat} {qs:List (Int×Int×Hd)} {q:List SentM} (h:QRel s τ qs q) (i:Nat):QRel s τ (qs.eraseIdx i) (q.eraseIdx i):=by
 refine ⟨by simp [List.length_eraseIdx,h.len],fun j y n hy hn=>?_⟩
 rw [List.getElem?_eraseIdx] at hy hn
 split at hy
 ·rename_i hj;rw [if_pos hj] at hn;exact h.at_ j y n hy hn
 rename_i hj;rw [if_neg hj] at hn;exact h.at_ (j+1) y n hy hn
theorem QRel.snoc {s:TH} {τ:Nat} {qs:List (Int×Int×Hd)} {q:List SentM} (h:QRel s τ qs q) {x:Int×Int×Hd} {m:SentM} (hx:x.1=m.id/\x.2.1=m.blk/\ByAt s τ x.2.2 m.by_):QRel s τ (qs++[x]) (q++[m]):=by
 refine ⟨by simp [h.len],fun i y n hy hn=>?_⟩
 by_cases hi:i<q.length
 ·rw [List.getElem?_append_left (by rw [h.len];exact hi)] at hy
  rw [List.getElem?_append_left hi] at hn
  exact h.at_ i y n hy hn
 rw [List.getElem?_append_right (by rw [h.len];omega)] at hy
 rw [List.getElem?_append_right (by omega)] at hn
 rw [h.len] at hy
 cases hd:i - q.length with
 |zero=>rw [hd] at hy hn;simp at hy hn;subst hy hn;exact hx
 |succ k=>rw [hd] at hy;simp at hy
def FailsOk (fm:List (Int×Value)) (f:Int->Int):Prop:=∀b,(mget b fm).getD (.int .i64 0)=.int .i64 (f b)
structure DiskP (s:TH) (d T:Nat) (D:DiskM) (pa:Option Addr) (pc:Nat) (qa:Option Addr) (qc:Nat) (hs:List Hd) (qs:List (Int×Int×Hd)) (fr:Nat) (fm:List (Int×Value)):Prop where
 blk:Blk s d [.slice pa D.blocks.length pc,.slice qa D.queue.length qc,.map (some fr),.int .i64 D.last] 121 T
 rows:Own s pa D.blocks.length pc 49 1 (hs.flatMap hd1) (T+1)
 brel:BRel s (T+3) hs D.blocks
 que:Own s qa D.queue.length qc 197 3 (qs.flatMap qv) (T+2)
 qrel:QRel s (T+3) qs D.queue
 fails:MapK (Value.int .i64) s fr fm (T+4)
 fok:FailsOk fm D.fails
 nb:1<=D.blocks.length/\D.blocks.length<=2048
 nq:D.queue.length<=64
 qin: ∀m∈D.queue,0<=m.blk/\m.blk<D.blocks.length
def Disk (s:TH) (d T:Nat) (D:DiskM):Prop:=∃pa pc qa qc hs qs fr fm,DiskP s d T D pa pc qa qc hs qs fr fm
theorem DiskP.mv {s s':TH} {d T:Nat} {D:DiskM} {pa:Option Addr} {pc:Nat} {qa:Option Addr} {qc:Nat} {hs:List Hd} {qs:List (Int×Int×Hd)} {fr:Nat} {fm:List (Int×Value)} {C:Nat->Prop}
  (h:DiskP s d T D pa pc qa qc hs qs fr fm) (c:Chg C s s') (hn: ∀j,j<s.h.size->T<=s.g j->s.g j<T+10->¬C j):DiskP s' d T D pa pc qa qc hs qs fr fm:=
 ⟨h.blk.mv c (of_rng hn (Nat.le_refl _) (by omega) d h.blk.lt h.blk.tag),h.rows.mv c (of_rng hn (by omega) (by omega)),h.brel.mv c (of_rng hn (by omega) (by omega)),h.que.mv c (of_rng hn (by omega) (by omega)),h.qrel.mv c (of_rng hn (by omega) (by omega)),
  h.fails.mv c (of_rng hn (by omega) (by omega) fr h.fails.lt h.fails.tag),h.fok,h.nb,h.nq,h.qin⟩
theorem Disk.mv {s s':TH} {d T:Nat} {D:DiskM} {C:Nat->Prop} (h:Disk s d T D) (c:Chg C s s') (hn: ∀j,j<s.h.size->T<=s.g j->s.g j<T+10->¬C j):Disk s' d T D:=by
 obtain ⟨pa,pc,qa,qc,hs,qs,fr,fm,h⟩:=h
 exact ⟨pa,pc,qa,qc,hs,qs,fr,fm,h.mv c hn⟩
end Go.Proofs.YtkaikaodhegmhaaGreat.E
namespace Go.Proofs.YtkaikaodhegmhaaGreat.E
open Go Go.Proofs
set_option linter.unusedVariables false
set_option maxRecDepth 100000
def F3 (d:Option Addr) (e f:Nat) (o p q r:Value) (s:Int) (R:zE) (H:Heap):Prop:=
 al H (.cells #[o,p,q,r] 24) fun g H2=>HCalls Tryz.prog 6 #[.slice d e f] H2 (Sp.retK (fun v3 H4=>dT 2 v3 fun v5 v6=>dA 3 v5 fun v7 v8 v9=>dInt .i64 v6 fun t=>al H4 (.cells #[.int .i64 0,.int .i64 0,.int .i64 0] 26) fun b u=>zs3 u b v7 v8 v9 fun h=>jn (α:=VFH 1) (fun x j=>∀_ _ _ _ _ _ _:Value,dBl x fun y=>sB y (R (.returned (.bool true)) j) (HCalls Tryz.prog 7 #[.slice d e f,.int .i64 64] j (Sp.retK (fun z k=>dT 2 z fun A B=>dPtr A fun c=>dBl B fun C=>jn (α:=VFH 1) (fun D a=>∀_ _ _ _ _:Value,dBl D fun E=>sB E (R (.returned (.bool false)) a) (nz c fun F=>ld a (Addr.add F 1) fun G=>dPtr G fun I=>zl3 a b fun J K L=>zl3 a g fun M N O=>ld a ⟨g,3,none⟩ fun P=>HCalls Tryz.prog 8 #[.pointer I,.agg #[J,K,L],.slice none 0 0,.agg #[M,N,O,P],.int .i64 s] a (Sp.retK (fun Q i=>dT 2 Q fun S T=>dSl S fun ak am an=>dInt .i64 T fun U=>sB (U==200) (nz c fun V=>ld i (Addr.add V 1) fun W=>dPtr W fun X=>HCalls Tryz.prog 9 #[.pointer X] i (Sp.retK (fun Y l=>dSl Y fun ao Z ap=>sB ((↑Z:Int)==0) (HCalls Tryz.prog 11 #[.pointer c] l (Sp.retK (fun aa ab=>dSl aa fun ac ad ae=>HCalls Tryz.prog 10 #[.slice ac ad ae,.slice d e f] ab (Sp.retK (fun af ag=>dBl af fun ah=>R (.returned (.bool ah)) ag) (pnR R))) (pnR R))) (R (.returned (.bool false)) l)) (pnR R))) (R (.returned (.bool false)) i)) nopR))) fun m=>sB (!C) (m (.bool true) k) (m (.bool (Option.isNone c)) k)) (pnR R)))) fun n=>sB (t != 0) (n
 (.bool true) h) (ld h ⟨g,3,none⟩ fun ai=>dInt .i64 ai fun aj=>n (.bool (aj==s)) h)) (pnR R))
theorem F3_calls {R:zE} {H:Heap} (e:Option Addr) (f g:Nat) (a b c d:Value) (i:Int) (h:F3 e f g a b c d i R H):HCalls Tryz.prog 3 #[.slice e f g,.agg #[a,b,c,d],.int .i64 i] H R:=
 calls_by (.node none .leaf (.node none .leaf (.node none (.node (some ⟨[(23,4)],[16,17,18,19,20,21,22]⟩) .leaf .leaf) (.node none .leaf (.node none (.node (some ⟨[(34,4)],[29,30,31,32,33]⟩) .leaf .leaf) .leaf))))) Tryz.func3 rfl (by kernel_rfl) h
def F6 (m:Option Addr) (e ar:Nat) (R:zE) (H:Heap):Prop:=
 al H (.cells #[.int .i64 0,.int .i64 0,.int .i64 0] 26) fun a r=>sB ((↑e:Int)==0) (zs3 r a (.int .i64 0) (.int .i64 0) (.int .i64 0) fun l=>zl3 l a fun v6 v7 v8=>R (.returned (.tuple #[.agg #[v6,v7,v8],.int .i64 6])) l) (∃q:List Value->Heap->Prop,∃n:List Value->Heap->Nat,(q ([.int .i64 0]) r)/\∀d:Int,∀_ _ _ _ _ _ _ _ _ _:Value,∀c:Heap,(q ([.int .i64 d]) c)->sB (decide (d<(↑e:Int))) (nz m fun s=>ask (0<=d/\d<(↑e:Int)) (ld c (Addr.add s (Int.toNat d*1)) fun t=>dSl t fun au u av=>sB ((↑u:Int) != 128) (zs3 c a (.int .i64 0) (.int .i64 0) (.int .i64 0) fun h=>zl3 h a fun x y z=>R (.returned (.tuple #[.agg #[x,y,z],.int .i64 6])) h) (wr .i64 (d+1) fun o=>(q ([.int .i64 o]) c)/\(n [.int .i64 o] c)<(n [.int .i64 d] c)))) (nz m fun A=>ask (0<=(0:Int)/\(0:Int)<(↑e:Int)) (ld c (Addr.add A (Int.toNat 0*1)) fun B=>dSl B fun C D E=>HCalls Tryz.prog 27 #[.slice C D E] c (Sp.retK (fun F G=>dT 2 F fun I J=>dA 4 I fun K L M N=>dInt .i64 J fun p=>al G (.cells #[.int .i64 0,.int .i64 0,.int .i64 0,.int .i64 0] 76) fun b O=>zs3 O b K L M fun S=>st S ⟨b,3,none⟩ N fun f=>sB (p != 0) (zs3 f a (.int .i64 0) (.int .i64 0) (.int .i64 0) fun i=>zl3 i a fun V W X=>R (.returned (.tuple #[.agg #[V,W,X],.int .i64 p])) i) (zl3 f b fun Y Z aa=>HCalls Tryz.prog 28 #[.agg #[Y,Z,aa]] f (Sp.retK (fun ab g=>dInt .i64 ab fun ac=>sB ((↑e:Int) != ac) (zs3 g a (.int .i64 0) (.int .i64 0)
 (.int .i64 0) fun j=>zl3 j a fun af ag ah=>R (.returned (.tuple #[.agg #[af,ag,ah],.int .i64 170])) j) (zl3 g b fun ai aj ak=>zs3 g a ai aj ak fun k=>zl3 k a fun ao ap aq=>R (.returned (.tuple #[.agg #[ao,ap,aq],.int .i64 0])) k)) (pnR R)))) (pnR R)))))
theorem F6_calls {R:zE} {H:Heap} (a:Option Addr) (b c:Nat) (h:F6 a b c R H):HCalls Tryz.prog 6 #[.slice a b c] H R:=
 calls_by (.node none .leaf (.node none .leaf (.node none (.node none .leaf (.node none (.node (some ⟨[(14,3)],[3,5,15,16,17,18,19,20,21,22]⟩) .leaf .leaf) .leaf)) .leaf))) Tryz.func6 rfl (by kernel_rfl) h
def F7 (i:Option Addr) (j k:Nat) (q:Int) (R:zE) (H:Heap):Prop:=
 al H (.cells #[.pointer none,.pointer none,.pointer none,.pointer none] 41) fun d O=>HCalls Tryz.prog 21 #[.slice i j k] O (Sp.retK (fun P Q=>dSl P fun S T U=>HCalls Tryz.prog 20 #[.slice S T U] Q (Sp.retK (fun V W=>dT 2 V fun r s=>dPtr r fun a=>dInt .i64 s fun l=>HCalls Tryz.prog 22 #[.slice i j k] W (Sp.retK (fun t e=>dT 2 t fun u v=>dPtr u fun b=>dInt .i64 v fun m=>jn (α:=VFH 1) (fun w c=>∀_ _ _ _ _ _ _ _ _ _:Value,dBl w fun x=>sB x (sB (l==m) (sB (Option.isNone a) (R (.returned (.tuple #[.pointer none,.bool (Option.isNone b)])) c) (R (.returned (.tuple #[.pointer none,.bool false])) c)) (R (.returned (.tuple #[.pointer none,.bool false])) c)) (HCalls Tryz.prog 29 #[.pointer a,.int .i64 q] c (Sp.retK (fun y z=>dT 2 y fun A B=>dPtr A fun n=>dInt .i64 B fun C=>HCalls Tryz.prog 30 #[.pointer b,.int .i64 q] z (Sp.retK (fun D o=>dT 2 D fun E F=>dPtr E fun f=>dInt .i64 F fun G=>jn (α:=VFH 1) (fun I g=>∀_ _ _ _ _ _ _ _ _:Value,dBl I fun J=>sB J (R (.returned (.tuple #[.pointer none,.bool false])) g) (sB (Option.isNone f) (R (.returned (.tuple #[.pointer none,.bool true])) g) (zs3 g d (.pointer a) (.pointer n) (.pointer b) fun M=>st M ⟨d,3,none⟩ (.pointer f) fun N=>R (.returned (.tuple #[.pointer (some ⟨d,0,none⟩),.bool true])) N))) fun p=>sB (C != G) (p (.bool true) o) (p (.bool !Option.isNone n==Option.isNone f) o)) (pnR R))) (pnR R)))) fun h=>sB (l != m) (h (.bool true) e) (sB (Option.isNone
 a) (h (.bool true) e) (h (.bool (Option.isNone b)) e))) (pnR R))) (pnR R))) (pnR R))
theorem F7_calls {R:zE} {H:Heap} (a:Option Addr) (b c:Nat) (d:Int) (h:F7 a b c d R H):HCalls Tryz.prog 7 #[.slice a b c,.int .i64 d] H R:=
 calls_by (.node none .leaf (.node none .leaf (.node none .leaf (.node none .leaf (.node none (.node (some ⟨[(36,4)],[26,27,28,29,30,31,32,33,34,35]⟩) .leaf .leaf) (.node none .leaf (.node none .leaf (.node none (.node (some ⟨[(69,4)],[60,61,62,63,64,65,66,67,68]⟩) .leaf .leaf) .leaf)))))))) Tryz.func7 rfl (by kernel_rfl) h
def F8 (D:Option Addr) (g h i:Value) (o:Option Addr) (p q:Nat) (j k l m:Value) (E:Int) (R:zE) (H:Heap):Prop:=
 al H (.cells #[g,h,i] 26) fun n F=>al F (.cells #[j,k,l,m] 24) fun b a=>zl3 a n fun G I J=>zl3 a b fun K L r=>ld a ⟨b,3,none⟩ fun s=>HCalls Tryz.prog 31 #[.pointer D,.agg #[G,I,J],.slice o p q,.agg #[K,L,r,s],.int .i64 E] a (Sp.retK (fun t c=>dT 2 t fun u v=>dPtr u fun w=>dInt .i64 v fun d=>sB (d != 0) (R (.returned (.tuple #[.slice none 0 0,.int .i64 d])) c) (HCalls Tryz.prog 32 #[.pointer w] c (Sp.retK (fun x e=>dT 2 x fun y z=>dInt .i64 y fun A=>dInt .i64 z fun f=>sB (f != 0) (R (.returned (.tuple #[.slice none 0 0,.int .i64 f])) e) (al e (.cells #[.int .i64 A] 3) fun B C=>R (.returned (.tuple #[.slice (some ⟨B,0,none⟩) 1 1,.int .i64 0])) C)) (pnR R)))) (pnR R))
theorem F8_calls {R:zE} {H:Heap} (l:Option Addr) (a b c:Value) (i:Option Addr) (j k:Nat) (d e f g:Value) (m:Int) (h:F8 l a b c i j k d e f g m R H):HCalls Tryz.prog 8 #[.pointer l,.agg #[a,b,c],.slice i j k,.agg #[d,e,f,g],.int .i64 m] H R:=
 calls_by .leaf Tryz.func8 rfl (by kernel_rfl) h
def F9 (a:Option Addr) (R:zE) (H:Heap):Prop:=
 HCalls Tryz.prog 33 #[.pointer a] H (Sp.retK (fun o l=>dBl o (fun d=>sB (!d) (R (.returned (.slice none 0 0)) l) (nz a (fun b=>nz a (fun e=>ld l (Addr.add e 4) (fun p=>dPtr p (fun i=>HCalls Tryz.prog 35 #[.pointer i] l (Sp.retK (fun q r=>dSl q (fun f g h=>HCallsD Tryz.prog 34 #[.pointer (some b)] FrameMode.returning r (fun e13 u14 j=>match e13 with|.returned v=>leavesV Tryz.prog Tryz.f9 (Act.tmps (Act.mk #[.pointer a,undef,.slice f g h,.pointer a,.bool d,.bool !d,.pointer a,.pointer (some b),.pointer (some b),.pointer a,.pointer (some e),.pointer (some (Addr.add e 4)),.pointer i,.slice f g h] [Deferred.mk (Target.fn (Fn.func 34) #[]) #[.pointer (some b)]])) R [] (settle u14) j|.panicked c=>leavesV Tryz.prog Tryz.f9 (Act.tmps (Act.mk #[.pointer a,undef,.slice f g h,.pointer a,.bool d,.bool !d,.pointer a,.pointer (some b),.pointer (some b),.pointer a,.pointer (some e),.pointer (some (Addr.add e 4)),.pointer i,.slice f g h] [Deferred.mk (Target.fn (Fn.func 34) #[]) #[.pointer (some b)]])) R [] (raised u14 c) j|.outgrown=>False))) (fun m n=>HCallsD Tryz.prog 34 #[.pointer (some b)] (FrameMode.panicking m) n (fun e18 u19 k=>match e18 with|.returned v=>leavesV Tryz.prog Tryz.f9 (Act.tmps (Act.mk #[.pointer a,undef,.slice none 0 0,.pointer a,.bool d,.bool !d,.pointer a,.pointer (some b),.pointer (some b),.pointer a,.pointer (some e),.pointer (some (Addr.add e 4)),.pointer i,undef] [Deferred.mk (Target.fn (Fn.func 34) #[]) #[.pointer (some b)]])) R [] (settle u19) k|.panicked c=>leavesV Tryz.prog Tryz.f9 (Act.tmps (Act.mk #[.pointer a,undef,.slice none 0 0,.pointer a,.bool d,.bool !d,.pointer a,.pointer (some b),.pointer (some b),.pointer a,.pointer (some e),.pointer (some (Addr.add e 4)),.pointer i,undef] [Deferred.mk (Target.fn (Fn.func 34) #[]) #[.pointer (some b)]])) R [] (raised u19 c) k|.outgrown=>False)))))))))) (pnR R))
theorem F9_calls {R:zE} {H:Heap} (a:Option Addr) (h:F9 a R H):HCalls Tryz.prog 9 #[.pointer a] H R:=
 calls_by .leaf Tryz.func9 rfl (by kernel_rfl) h
def F10 (a:Option Addr) (b c:Nat) (d:Option Addr) (e f:Nat) (R:zE) (H:Heap):Prop:=
 HCalls Tryz.prog 36 #[.slice a b c,.slice d e f,.func (Fn.func 37) #[] #[]] H (Sp.retK (fun g h=>dBl g fun i=>R (.returned (.bool i)) h) (pnR R))
theorem F10_calls {R:zE} {H:Heap} (a:Option Addr) (b c:Nat) (d:Option Addr) (e f:Nat) (h:F10 a b c d e f R H):HCalls Tryz.prog 10 #[.slice a b c,.slice d e f] H R:=
 calls_by .leaf Tryz.func10 rfl (by kernel_rfl) h
def F11 (l:Option Addr) (R:zE) (H:Heap):Prop:=
 nz l fun A=>ld H (Addr.add A 1) fun B=>dPtr B fun C=>HCalls Tryz.prog 38 #[.pointer C] H (Sp.retK (fun D E=>dInt .i64 D fun F=>∃k:List Value->Heap->Prop,∃m:List Value->Heap->Nat,(k ([.slice none 0 0,.int .i64 0]) E)/\∀e:Option Addr,∀c:Nat,∀d:Nat,∀a:Int,∀_ _ _ _ _ _ _ _ _ _ _ _ _ _ _ _ _ _ _:Value,∀b:Heap,(k ([.slice e c d,.int .i64 a]) b)->sB (decide (a<F)) (nz l fun n=>ld b (Addr.add n 1) fun o=>dPtr o fun p=>HCalls Tryz.prog 39 #[.pointer p,.int .i64 a] b (Sp.retK (fun q r=>dT 2 q fun s t=>dSl s fun u v w=>dInt .i64 t fun G=>al r (.cells #[.slice u v w] 49) fun x y=>semW Tryz.prog (Builtin.append_ #[22,22] 22 #[.slice e c d,.slice (some ⟨x,0,none⟩) 1 1]) (pnR R) y fun z f=>dSl z fun g h i=>wr .i64 (a+1) fun j=>(k ([.slice g h i,.int .i64 j]) f)/\(m [.slice g h i,.int .i64 j] f)<(m [.slice e c d,.int .i64 a] b)) (pnR R))) (R (.returned (.slice e c d)) b)) (pnR R))
theorem F11_calls {R:zE} {H:Heap} (a:Option Addr) (h:F11 a R H):HCalls Tryz.prog 11 #[.pointer a] H R:=
 calls_by (.node none .leaf (.node none .leaf (.node none (.node none .leaf (.node none (.node (some ⟨[(3,22),(12,3)],[4,5,6,13,14,15,16,17,18,19,20,21,22,23,24,25,26,27,28]⟩) .leaf .leaf) .leaf)) .leaf))) Tryz.func11 rfl (by kernel_rfl) h
end Go.Proofs.YtkaikaodhegmhaaGreat.E
namespace Go.Proofs.YtkaikaodhegmhaaGreat.E
open Go Go.Proofs
set_option linter.unusedVariables false
set_option maxRecDepth 100000
def F16 (a:Option Addr) (b c:Nat) (R:zE) (H:Heap):Prop:=
 sB (Option.isNone a) (R (.returned (.slice none 0 0)) H) (al H (.cells #[] 5) fun d e=>semW Tryz.prog (Builtin.append_ #[49,49] 49 #[.slice (some ⟨d,0,none⟩) 0 0,.slice a b c]) (pnR R) e fun f g=>dSl f fun h i j=>R (.returned (.slice h i j)) g)
theorem F16_calls {R:zE} {H:Heap} (a:Option Addr) (b c:Nat) (h:F16 a b c R H):HCalls Tryz.prog 16 #[.slice a b c] H R:=
 calls_by .leaf Tryz.func16 rfl (by kernel_rfl) h
def F20 (c:Option Addr) (a d:Nat) (R:zE) (H:Heap):Prop:=
 jn (α:=VFH 1) (fun s e=>∀_ _ _ _ _ _ _ _ _ _ _ _:Value,dBl s fun f=>sB f (R (.returned (.tuple #[.pointer none,.int .i64 1])) e) (HCalls Tryz.prog 54 #[.slice c a d] e (Sp.retK (fun g h=>dSl g fun i j k=>al h (.map #[] 0) fun l m=>al m (.cells #[.slice i j k,.slice none 0 0,.map (some l),.int .i64 0] 121) fun n o=>R (.returned (.tuple #[.pointer (some ⟨n,0,none⟩),.int .i64 0])) o) (pnR R)))) fun b=>sB (decide ((↑a:Int)<1)) (b (.bool true) H) (sB (decide ((↑a:Int)>2048)) (b (.bool true) H) (HCalls Tryz.prog 53 #[.slice c a d,.func (Fn.func 52) #[] #[]] H (Sp.retK (fun p q=>dBl p fun r=>b (.bool r) q) (pnR R))))
theorem F20_calls {R:zE} {H:Heap} (a:Option Addr) (b c:Nat) (h:F20 a b c R H):HCalls Tryz.prog 20 #[.slice a b c] H R:=
 calls_by (.node none .leaf (.node none .leaf (.node none (.node (some ⟨[(17,4)],[5,6,7,8,9,10,11,12,13,14,15,16]⟩) .leaf .leaf) .leaf))) Tryz.func20 rfl (by kernel_rfl) h
def F21 (m:Option Addr) (f B:Nat) (R:zE) (H:Heap):Prop:=
 ∃l:List Value->Heap->Prop,∃n:List Value->Heap->Nat,(l ([.slice none 0 0,.int .i64 0]) H)/\∀c:Option Addr,∀d:Nat,∀e:Nat,∀b:Int,∀_ _ _ _ _ _ _ _ _ _:Value,∀a:Heap,(l ([.slice c d e,.int .i64 b]) a)->sB (decide (b<(↑f:Int))) (nz m fun o=>ask (0<=b/\b<(↑f:Int)) (ld a (Addr.add o (Int.toNat b*1)) fun p=>dSl p fun q r s=>HCalls Tryz.prog 16 #[.slice q r s] a (Sp.retK (fun t u=>dSl t fun v w x=>al u (.cells #[.slice v w x] 49) fun y z=>semW Tryz.prog (Builtin.append_ #[22,22] 22 #[.slice c d e,.slice (some ⟨y,0,none⟩) 1 1]) (pnR R) z fun A g=>dSl A fun h i j=>wr .i64 (b+1) fun k=>(l ([.slice h i j,.int .i64 k]) g)/\(n [.slice h i j,.int .i64 k] g)<(n [.slice c d e,.int .i64 b] a)) (pnR R)))) (R (.returned (.slice c d e)) a)
theorem F21_calls {R:zE} {H:Heap} (a:Option Addr) (b c:Nat) (h:F21 a b c R H):HCalls Tryz.prog 21 #[.slice a b c] H R:=
 calls_by (.node none .leaf (.node none .leaf (.node none (.node none .leaf (.node none (.node (some ⟨[(3,22),(8,3)],[5,9,10,11,12,13,14,15,16,17]⟩) .leaf .leaf) .leaf)) .leaf))) Tryz.func21 rfl (by kernel_rfl) h
def F22 (p:Option Addr) (a V:Nat) (R:zE) (H:Heap):Prop:=
 jn (α:=VFH 1) (fun U q=>∀_ _ _ _ _ _ _:Value,dBl U fun r=>sB r (R (.returned (.tuple #[.pointer none,.int .i64 1])) q) (ask (0<=(↑a:Int)/\(↑a:Int)<=(↑a:Int)/\(8:Int)*(↑a:Int)<=(281474976710656:Int)/\(↑a:Int)<=(9223372036854775807:Int)) (al q (.cells (List.toArray (rowZ [.int .i64 0] (Int.toNat (↑a:Int)))) 3) fun s t=>al t (.cells #[.slice none 0 0,.slice none 0 0,.slice (some ⟨s,0,none⟩) (Int.toNat (↑a:Int)) (Int.toNat (↑a:Int)),.int .i64 0] 123) fun d u=>∃e:List Value->Heap->Prop,∃i:List Value->Heap->Nat,(e ([.int .i64 0]) u)/\∀b:Int,∀_ _ _ _ _ _ _ _ _ _ _ _ _ _ _ _ _ _ _ _ _:Value,∀c:Heap,(e ([.int .i64 b]) c)->sB (decide (b<(↑a:Int))) (nz p fun v=>ask (0<=b/\b<(↑a:Int)) (ld c (Addr.add v (Int.toNat b*1)) fun w=>dSl w fun x j y=>sB ((↑j:Int) != 128) (R (.returned (.tuple #[.pointer none,.int .i64 1])) c) (ld c ⟨d,0,none⟩ fun z=>dSl z fun f g h=>HCalls Tryz.prog 55 #[.slice x j y] c (Sp.retK (fun A k=>dSl A fun B C D=>(ld k ⟨d,0,none⟩ fun E=>dSl E fun F G I=>(Value.slice F G I)=(Value.slice f g h))/\al k (.cells #[.slice B C D] 49) fun J l=>(ld l ⟨d,0,none⟩ fun K=>dSl K fun L M N=>(Value.slice L M N)=(Value.slice f g h))/\semW Tryz.prog (Builtin.append_ #[22,22] 22 #[.slice f g h,.slice (some ⟨J,0,none⟩) 1 1]) nopR l fun O P=>dSl O fun Q S T=>st P ⟨d,0,none⟩ (.slice Q S T) fun m=>wr .i64 (b+1) fun n=>(e ([.int .i64 n]) m)/\(i
 [.int .i64 n] m)<(i [.int .i64 b] c)) nopR)))) (R (.returned (.tuple #[.pointer (some ⟨d,0,none⟩),.int .i64 0])) c)))) fun o=>sB (decide ((↑a:Int)<1)) (o (.bool true) H) (o (.bool (decide ((↑a:Int)>2048))) H)
theorem F22_calls {R:zE} {H:Heap} (a:Option Addr) (b c:Nat) (h:F22 a b c R H):HCalls Tryz.prog 22 #[.slice a b c] H R:=
 calls_by (.node none .leaf (.node none (.node (some ⟨[(14,4)],[7,8,9,10,11,12,13]⟩) .leaf .leaf) (.node none .leaf (.node none (.node none .leaf (.node none (.node (some ⟨[(22,3)],[2,3,6,23,24,25,26,27,28,29,30,31,32,33,34,35,36,37,38,39,40]⟩) .leaf .leaf) .leaf)) .leaf)))) Tryz.func22 rfl (by kernel_rfl) h
end Go.Proofs.YtkaikaodhegmhaaGreat.E
namespace Go.Proofs.YtkaikaodhegmhaaGreat.E
open Go Go.Proofs
set_option linter.unusedVariables false
set_option maxRecDepth 100000
def F27 (d:Option Addr) (e c:Nat) (R:zE) (H:Heap):Prop:=
 al H (.cells #[.int .i64 0,.int .i64 0,.int .i64 0,.int .i64 0] 76) fun a q=>sB ((↑e:Int) != 128) (zs3 q a (.int .i64 0) (.int .i64 0) (.int .i64 0) fun H5=>st H5 ⟨a,3,none⟩ (.int .i64 0) fun l=>zl3 l a fun v7 v8 v9=>ld l ⟨a,3,none⟩ fun r=>R (.returned (.tuple #[.agg #[v7,v8,v9,r],.int .i64 6])) l) (ask (0<=(0:Int)/\0<=(4:Int)/\(4:Int)<=(↑c:Int)/\(↑c:Int)<=(↑c:Int)) (semW Tryz.prog (convert 49 9 (.slice (slO d 1 0 (↑c:Int)) (Int.toNat 4 - Int.toNat 0) (Int.toNat (↑c:Int) - Int.toNat 0))) (pnR R) q fun s m=>dStr s fun t=>sB (!ByteArray.toList t==[UInt8.ofBitVec 98#8,UInt8.ofBitVec 111#8,UInt8.ofBitVec 108#8,UInt8.ofBitVec 108#8]) (zs3 m a (.int .i64 0) (.int .i64 0) (.int .i64 0) fun w=>st w ⟨a,3,none⟩ (.int .i64 0) fun g=>zl3 g a fun x y z=>ld g ⟨a,3,none⟩ fun A=>R (.returned (.tuple #[.agg #[x,y,z,A],.int .i64 31])) g) (HCalls Tryz.prog 75 #[.slice d e c] m (Sp.retK (fun B n=>dBl B fun C=>sB (!C) (zs3 n a (.int .i64 0) (.int .i64 0) (.int .i64 0) fun F=>st F ⟨a,3,none⟩ (.int .i64 0) fun h=>zl3 h a fun G I J=>ld h ⟨a,3,none⟩ fun K=>R (.returned (.tuple #[.agg #[G,I,J,K],.int .i64 30])) h) (HCalls Tryz.prog 76 #[.slice d e c,.int .i64 4,.int .i64 1] n (Sp.retK (fun L M=>dInt .i64 L fun N=>HCalls Tryz.prog 76 #[.slice d e c,.int .i64 5,.int .i64 1] M (Sp.retK (fun O P=>dInt .i64 O fun Q=>wr .i64 (Q+1) fun S=>HCalls Tryz.prog 76 #[.slice d e c,.int .i64 6,.int .i64 1] P
 (Sp.retK (fun T U=>dInt .i64 T fun V=>HCalls Tryz.prog 76 #[.slice d e c,.int .i64 8,.int .i64 4] U (Sp.retK (fun W X=>dInt .i64 W fun Y=>al X (.cells #[.int .i64 0,.int .i64 0,.int .i64 0,.int .i64 0] 76) fun b Z=>zs3 Z b (.int .i64 N) (.int .i64 S) (.int .i64 V) fun ac=>st ac ⟨b,3,none⟩ (.int .i64 Y) fun i=>zl3 i b fun ad ae af=>ld i ⟨b,3,none⟩ fun ag=>HCalls Tryz.prog 60 #[.agg #[ad,ae,af,ag]] i (Sp.retK (fun ah o=>dT 2 ah fun ai aj=>dSl ai fun ak am an=>dInt .i64 aj fun ao=>jn (α:=VFH 1) (fun ap f=>∀_ _ _ _ _ _ _:Value,dBl ap fun aq=>sB aq (zs3 f a (.int .i64 0) (.int .i64 0) (.int .i64 0) fun av=>st av ⟨a,3,none⟩ (.int .i64 0) fun j=>zl3 j a fun aw ax ay=>ld j ⟨a,3,none⟩ fun az=>R (.returned (.tuple #[.agg #[aw,ax,ay,az],.int .i64 6])) j) (zl3 f b fun aA aB aC=>ld f ⟨b,3,none⟩ fun aD=>zs3 f a aA aB aC fun aG=>st aG ⟨a,3,none⟩ aD fun k=>zl3 k a fun aH aI aJ=>ld k ⟨a,3,none⟩ fun aK=>R (.returned (.tuple #[.agg #[aH,aI,aJ,aK],.int .i64 0])) k)) fun p=>sB (ao != 0) (p (.bool true) o) (HCalls Tryz.prog 77 #[.slice d e c,.slice ak am an] o (Sp.retK (fun aL aM=>dBl aL fun aN=>p (.bool !aN) aM) (pnR R)))) (pnR R))) (pnR R))) (pnR R))) (pnR R))) (pnR R)))) (pnR R)))))
theorem F27_calls {R:zE} {H:Heap} (a:Option Addr) (b c:Nat) (h:F27 a b c R H):HCalls Tryz.prog 27 #[.slice a b c] H R:=
 calls_by (.node none .leaf (.node none .leaf (.node none .leaf (.node none .leaf (.node none (.node (some ⟨[(46,4)],[39,40,41,42,43,44,45]⟩) .leaf .leaf) .leaf))))) Tryz.func27 rfl (by kernel_rfl) h
def F28 (d e f:Value) (R:zE) (H:Heap):Prop:=
 al H (.cells #[d,e,f] 26) fun a b=>zl3 b a fun k l m=>HCalls Tryz.prog 78 #[.agg #[k,l,m]] b (Sp.retK (fun n c=>dInt .i64 n fun o=>sB (o != 0) (R (.returned (.int .i64 0)) c) (ld c ⟨a,0,none⟩ fun p=>dInt .i64 p fun g=>ld c ⟨a,1,none⟩ fun h=>dInt .i64 h fun i=>wr .i64 (g*i) fun j=>R (.returned (.int .i64 j)) c)) (pnR R))
theorem F28_calls {R:zE} {H:Heap} (a b c:Value) (h:F28 a b c R H):HCalls Tryz.prog 28 #[.agg #[a,b,c]] H R:=
 calls_by .leaf Tryz.func28 rfl (by kernel_rfl) h
def F29 (a:Option Addr) (h:Int) (R:zE) (H:Heap):Prop:=
 HCalls Tryz.prog 79 #[.pointer a,.int .i64 h] H (Sp.retK (fun i b=>dT 2 i fun j k=>dPtr j fun l=>dInt .i64 k fun c=>sB (c != 0) (R (.returned (.tuple #[.pointer none,.int .i64 c])) b) (HCalls Tryz.prog 80 #[] b (Sp.retK (fun m n=>dPtr m fun o=>al n (.map #[] 0) fun d e=>al e (.cells #[.int .i32 0,.int .u32 0,.pointer a,.pointer l,.pointer o,.map (some d),.bool false,.bool false,.int .i64 0,.map none] 102) fun f g=>R (.returned (.tuple #[.pointer (some ⟨f,0,none⟩),.int .i64 0])) g) (pnR R)))) (pnR R))
theorem F29_calls {R:zE} {H:Heap} (a:Option Addr) (b:Int) (h:F29 a b R H):HCalls Tryz.prog 29 #[.pointer a,.int .i64 b] H R:=
 calls_by .leaf Tryz.func29 rfl (by kernel_rfl) h
def F30 (a:Option Addr) (e:Int) (R:zE) (H:Heap):Prop:=
 sB (Option.isNone a) (R (.returned (.tuple #[.pointer none,.int .i64 2])) H) (HCalls Tryz.prog 81 #[.pointer a,.int .i64 e] H (Sp.retK (fun f b=>dT 2 f fun g h=>dPtr g fun i=>dInt .i64 h fun c=>sB (c != 0) (R (.returned (.tuple #[.pointer none,.int .i64 c])) b) (al b (.cells #[.slice none 0 0,.int .i64 0] 139) fun j k=>al k (.cells #[.pointer a,.pointer i,.pointer (some ⟨j,0,none⟩),.slice none 0 0,.bool false,.bool false,.int .i64 0,.slice none 0 0] 143) fun l d=>R (.returned (.tuple #[.pointer (some ⟨l,0,none⟩),.int .i64 0])) d)) (pnR R)))
theorem F30_calls {R:zE} {H:Heap} (a:Option Addr) (b:Int) (h:F30 a b R H):HCalls Tryz.prog 30 #[.pointer a,.int .i64 b] H R:=
 calls_by .leaf Tryz.func30 rfl (by kernel_rfl) h
def F31 (o:Option Addr) (p q r:Value) (w:Option Addr) (x y:Nat) (s t u v:Value) (x4:Int) (R:zE) (H:Heap):Prop:=
 al H (.cells #[p,q,r] 26) fun a H2=>al H2 (.cells #[s,t,u,v] 24) fun g H4=>HCalls Tryz.prog 38 #[.pointer o] H4 (Sp.retK (fun v5 h=>dInt .i64 v5 fun n7=>sB (n7==0) (R (.returned (.tuple #[.pointer none,.int .i64 2])) h) (jn (α:=VFH 1) (fun v8 b=>∀_ _ _ _ _ _ _ _ _ _:Value,dBl v8 fun z=>sB z (R (.returned (.tuple #[.pointer none,.int .i64 170])) b) (ld b ⟨g,3,none⟩ fun A=>dInt .i64 A fun B=>sB (B != x4) (R (.returned (.tuple #[.pointer none,.int .i64 200])) b) (zl3 b a fun C D E=>zl3 b g fun F G I=>ld b ⟨g,3,none⟩ fun J=>al b (.cells #[.pointer o,C,D,E,.slice w x y,F,G,I,J,.slice none 0 0,.slice none 0 0,.slice none 0 0,.slice none 0 0,.slice none 0 0,.slice none 0 0,.slice none 0 0] 149) fun c K=>HCalls Tryz.prog 82 #[.pointer (some ⟨c,0,none⟩)] K (Sp.retK (fun L d=>dInt .i64 L fun j=>sB (j != 0) (R (.returned (.tuple #[.pointer none,.int .i64 j])) d) (ld d ⟨g,0,none⟩ fun M=>dInt .i64 M fun i=>sB (i==1) (HCalls Tryz.prog 83 #[.pointer (some ⟨c,0,none⟩)] d (Sp.retK (fun N O=>dInt .i64 N fun P=>R (.returned (.tuple #[.pointer (some ⟨c,0,none⟩),.int .i64 P])) O) (pnR R))) (sB (i==2) (HCalls Tryz.prog 84 #[.pointer (some ⟨c,0,none⟩)] d (Sp.retK (fun Q S=>dInt .i64 Q fun T=>R (.returned (.tuple #[.pointer (some ⟨c,0,none⟩),.int .i64 T])) S) (pnR R))) (sB (i==3) (HCalls Tryz.prog 85 #[.pointer (some ⟨c,0,none⟩)] d (Sp.retK (fun U V=>dInt .i64 U fun W=>R (.returned (.tuple
 #[.pointer (some ⟨c,0,none⟩),.int .i64 W])) V) (pnR R))) (R (.returned (.tuple #[.pointer none,.int .i64 1])) d))))) (pnR R))))) fun k=>zl3 h a fun X Y Z=>HCalls Tryz.prog 43 #[.agg #[X,Y,Z]] h (Sp.retK (fun aa e=>dInt .i64 aa fun ab=>sB (ab != 0) (k (.bool true) e) (zl3 e a fun l m n=>HCalls Tryz.prog 38 #[.pointer o] e (Sp.retK (fun ac f=>dInt .i64 ac fun ad=>(zl3 f a fun ae af ag=>(Value.agg #[ae,af,ag])=(Value.agg #[l,m,n]))/\HCalls Tryz.prog 44 #[.agg #[l,m,n]] f (Sp.retK (fun ah ai=>dInt .i64 ah fun aj=>k (.bool (decide (ad<aj))) ai) nopR)) nopR))) nopR))) (pnR R))
theorem F31_calls {R:zE} {H:Heap} (l:Option Addr) (a b c:Value) (i:Option Addr) (j k:Nat) (d e f g:Value) (m:Int) (h:F31 l a b c i j k d e f g m R H):HCalls Tryz.prog 31 #[.pointer l,.agg #[a,b,c],.slice i j k,.agg #[d,e,f,g],.int .i64 m] H R:=
 calls_by (.node none .leaf (.node none (.node none (.node none .leaf (.node none .leaf (.node (some ⟨[(18,4)],[19,20,21,22,23,24,25,26,27,28]⟩) .leaf .leaf))) .leaf) .leaf)) Tryz.func31 rfl (by kernel_rfl) h
def F33 (a:Option Addr) (R:zE) (H:Heap):Prop:=
 sB (Option.isNone a) (R (.returned (.bool false)) H) (nz a fun c=>HCalls Tryz.prog 94 #[.pointer (some c)] H (Sp.retK (fun i b=>nz a fun d=>ld b (Addr.add d 2) fun e=>dPtr e fun f=>sB (Option.isNone f) (nz a fun g=>HCalls Tryz.prog 34 #[.pointer (some g)] b (Sp.retK (fun j h=>R (.returned (.bool false)) h) (pnR R))) (R (.returned (.bool true)) b)) (pnR R)))
theorem F33_calls {R:zE} {H:Heap} (a:Option Addr) (h:F33 a R H):HCalls Tryz.prog 33 #[.pointer a] H R:=
 calls_by .leaf Tryz.func33 rfl (by kernel_rfl) h
def F35 (o:Option Addr) (R:zE) (H:Heap):Prop:=
 HCalls Tryz.prog 96 #[.pointer o] H (Sp.retK (fun S n=>dBl S fun T=>sB (!T) (R (.returned (.slice none 0 0)) n) (nz o fun U=>ld n (Addr.add U 2) fun V=>dMap V fun W=>semW Tryz.prog (Instr.range 159 (.map W)) (pnR R) n fun p q=>∃e:List Value->Heap->Prop,∃g:List Value->Heap->Nat,(e ([.slice none 0 0]) q)/\∀b:Option Addr,∀c:Nat,∀d:Nat,∀_ _ _ _ _ _ _ _ _ _:Value,∀f:Heap,(e ([.slice b c d]) f)->semW Tryz.prog (Instr.next p false 0) (pnR R) f fun r h=>dNx r (HCalls Tryz.prog 97 #[.slice b c d] h (Sp.retK (fun X s=>HCalls Tryz.prog 98 #[.slice b c d] s (Sp.retK (fun t u=>dSl t fun v w x=>R (.returned (.slice v w x)) u) (pnR R))) (pnR R))) fun Y Z=>semW Tryz.prog (Instr.entry p) (pnR R) h fun y z=>dT 2 y fun aa A=>dA 5 A fun B C D E F=>al z (.cells #[.int .i64 0,.int .i64 0,.int .i64 0,.slice none 0 0,.slice none 0 0] 163) fun a G=>zs3 G a B C D fun K=>st K ⟨a,3,none⟩ E fun L=>st L ⟨a,4,none⟩ F fun i=>ld i ⟨a,1,none⟩ fun M=>dInt .i64 M fun N=>al i (.cells #[.int .i64 N] 3) fun O P=>semW Tryz.prog (Builtin.append_ #[33,33] 33 #[.slice b c d,.slice (some ⟨O,0,none⟩) 1 1]) (pnR R) P fun Q j=>dSl Q fun k l m=>(e ([.slice k l m]) j)/\(g [.slice k l m] j)<(g [.slice b c d] f))) (pnR R))
theorem F35_calls {R:zE} {H:Heap} (a:Option Addr) (h:F35 a R H):HCalls Tryz.prog 35 #[.pointer a] H R:=
 calls_by (.node none .leaf (.node none .leaf (.node none .leaf (.node none (.node none .leaf (.node none (.node (some ⟨[(3,33)],[5,14,15,16,17,18,19,20,21,22]⟩) .leaf .leaf) .leaf)) .leaf)))) Tryz.func35 rfl (by kernel_rfl) h
def F36 (i:Option Addr) (c z:Nat) (j:Option Addr) (e A f:Nat) (k l:Array Value) (R:zE) (H:Heap):Prop:=
 sB ((↑c:Int) != (↑e:Int)) (R (.returned (.bool false)) H) (∃h:List Value->Heap->Prop,∃m:List Value->Heap->Nat,(h ([.int .i64 0]) H)/\∀a:Int,∀_ _ _ _ _ _ _ _ _ _ _ _ _ _ _ _ _ _:Value,∀b:Heap,(h ([.int .i64 a]) b)->sB (decide (a<(↑c:Int))) (nz i fun n=>ask (0<=a/\a<(↑c:Int)) (ld b (Addr.add n (Int.toNat a*1)) fun o=>dSl o fun p q r=>nz j fun s=>ask (0<=a/\a<(↑e:Int)) (ld b (Addr.add s (Int.toNat a*1)) fun t=>dSl t fun u v w=>gB (plainFn Tryz.prog f) (HCalls Tryz.prog f (argsOf k [.slice p q r,.slice u v w] l) b (Sp.retK (fun x d=>dBl x fun y=>sB (!y) (R (.returned (.bool false)) d) (wr .i64 (a+1) fun g=>(h ([.int .i64 g]) d)/\(m [.int .i64 g] d)<(m [.int .i64 a] b))) (pnR R)))))) (R (.returned (.bool true)) b))
theorem F36_calls {R:zE} {H:Heap} (a:Option Addr) (b c:Nat) (d:Option Addr) (e f g:Nat) (i j:Array Value) (h:F36 a b c d e f g i j R H):HCalls Tryz.prog 36 #[.slice a b c,.slice d e f,.func (Fn.func g) i j] H R:=
 calls_by (.node none .leaf (.node none .leaf (.node none (.node none .leaf (.node none (.node (some ⟨[(17,3)],[6,7,8,9,18,19,20,21,22,23,24,25,26,27,28,29,30,31]⟩) .leaf .leaf) .leaf)) .leaf))) Tryz.func36 rfl (by kernel_rfl) h
def F37 (a:Option Addr) (b c:Nat) (d:Option Addr) (e f:Nat) (R:zE) (H:Heap):Prop:=
 semW Tryz.prog (convert 49 9 (.slice a b c)) (pnR R) H fun h i=>dStr h fun j=>semW Tryz.prog (convert 49 9 (.slice d e f)) (pnR R) i fun k l=>dStr k fun g=>R (.returned (.bool (ByteArray.toList j==ByteArray.toList g))) l
theorem F37_calls {R:zE} {H:Heap} (a:Option Addr) (b c:Nat) (d:Option Addr) (e f:Nat) (h:F37 a b c d e f R H):HCalls Tryz.prog 37 #[.slice a b c,.slice d e f] H R:=
 calls_by .leaf Tryz.func37 rfl (by kernel_rfl) h
def F38 (a:Option Addr) (R:zE) (H:Heap):Prop:=
 HCalls Tryz.prog 33 #[.pointer a] H (Sp.retK (fun m j=>dBl m (fun d=>sB (!d) (R (.returned (.int .i64 0)) j) (nz a (fun b=>nz a (fun e=>ld j (Addr.add e 2) (fun n=>dPtr n (fun g=>HCalls Tryz.prog 99 #[.pointer g] j (Sp.retK (fun o p=>dInt .i64 o (fun f=>HCallsD Tryz.prog 34 #[.pointer (some b)] FrameMode.returning p (fun e11 u12 h=>match e11 with|.returned v=>leavesV Tryz.prog Tryz.f38 (Act.tmps (Act.mk #[.pointer a,undef,.int .i64 f,.pointer a,.bool d,.bool !d,.pointer a,.pointer (some b),.pointer (some b),.pointer a,.pointer (some e),.pointer (some (Addr.add e 2)),.pointer g,.int .i64 f] [Deferred.mk (Target.fn (Fn.func 34) #[]) #[.pointer (some b)]])) R [] (settle u12) h|.panicked c=>leavesV Tryz.prog Tryz.f38 (Act.tmps (Act.mk #[.pointer a,undef,.int .i64 f,.pointer a,.bool d,.bool !d,.pointer a,.pointer (some b),.pointer (some b),.pointer a,.pointer (some e),.pointer (some (Addr.add e 2)),.pointer g,.int .i64 f] [Deferred.mk (Target.fn (Fn.func 34) #[]) #[.pointer (some b)]])) R [] (raised u12 c) h|.outgrown=>False))) (fun k l=>HCallsD Tryz.prog 34 #[.pointer (some b)] (FrameMode.panicking k) l (fun e16 u17 i=>match e16 with|.returned v=>leavesV Tryz.prog Tryz.f38 (Act.tmps (Act.mk #[.pointer a,undef,.int .i64 0,.pointer a,.bool d,.bool !d,.pointer a,.pointer (some b),.pointer (some b),.pointer a,.pointer (some e),.pointer (some (Addr.add e 2)),.pointer g,undef] [Deferred.mk (Target.fn (Fn.func 34) #[]) #[.pointer (some b)]])) R [] (settle u17) i|.panicked c=>leavesV Tryz.prog Tryz.f38 (Act.tmps (Act.mk #[.pointer a,undef,.int .i64 0,.pointer a,.bool d,.bool !d,.pointer a,.pointer (some b),.pointer (some b),.pointer a,.pointer (some e),.pointer (some (Addr.add e 2)),.pointer g,undef] [Deferred.mk (Target.fn (Fn.func 34) #[]) #[.pointer (some b)]])) R [] (raised u17 c) i|.outgrown=>False)))))))))) (pnR R))
theorem F38_calls {R:zE} {H:Heap} (a:Option Addr) (h:F38 a R H):HCalls Tryz.prog 38 #[.pointer a] H R:=
 calls_by .leaf Tryz.func38 rfl (by kernel_rfl) h
def F39 (a:Option Addr) (g:Int) (R:zE) (H:Heap):Prop:=
 HCalls Tryz.prog 33 #[.pointer a] H (Sp.retK (fun o l=>dBl o (fun h=>sB (!h) (R (.returned (.tuple #[.slice none 0 0,.int .i64 2])) l) (nz a (fun b=>HCalls Tryz.prog 47 #[.pointer a,.int .i64 g] l (Sp.retK (fun p q=>dT 2 p (fun r s=>dSl r (fun i d e=>dInt .i64 s (fun f=>HCallsD Tryz.prog 34 #[.pointer (some b)] FrameMode.returning q (fun e13 u14 j=>match e13 with|.returned v=>leavesV Tryz.prog Tryz.f39 (Act.tmps (Act.mk #[.pointer a,.int .i64 g,undef,undef,.slice i d e,.int .i64 f,.pointer a,.bool h,.bool !h,.pointer a,.pointer (some b),.pointer (some b),.pointer a,.int .i64 g,.tuple #[.slice i d e,.int .i64 f],.slice i d e,.int .i64 f] [Deferred.mk (Target.fn (Fn.func 34) #[]) #[.pointer (some b)]])) R [] (settle u14) j|.panicked c=>leavesV Tryz.prog Tryz.f39 (Act.tmps (Act.mk #[.pointer a,.int .i64 g,undef,undef,.slice i d e,.int .i64 f,.pointer a,.bool h,.bool !h,.pointer a,.pointer (some b),.pointer (some b),.pointer a,.int .i64 g,.tuple #[.slice i d e,.int .i64 f],.slice i d e,.int .i64 f] [Deferred.mk (Target.fn (Fn.func 34) #[]) #[.pointer (some b)]])) R [] (raised u14 c) j|.outgrown=>False))))) (fun m n=>HCallsD Tryz.prog 34 #[.pointer (some b)] (FrameMode.panicking m) n (fun e18 u19 k=>match e18 with|.returned v=>leavesV Tryz.prog Tryz.f39 (Act.tmps (Act.mk #[.pointer a,.int .i64 g,undef,undef,.slice none 0 0,.int .i64 0,.pointer a,.bool h,.bool !h,.pointer a,.pointer (some b),.pointer (some b),.pointer a,.int .i64 g,undef,undef,undef] [Deferred.mk (Target.fn (Fn.func 34) #[]) #[.pointer (some b)]])) R [] (settle u19) k|.panicked c=>leavesV Tryz.prog Tryz.f39 (Act.tmps (Act.mk #[.pointer a,.int .i64 g,undef,undef,.slice none 0 0,.int .i64 0,.pointer a,.bool h,.bool !h,.pointer a,.pointer (some b),.pointer (some b),.pointer a,.int .i64 g,undef,undef,undef] [Deferred.mk (Target.fn (Fn.func 34) #[]) #[.pointer (some b)]])) R [] (raised u19 c) k|.outgrown=>False))))))) (pnR R))
theorem F39_calls {R:zE} {H:Heap} (a:Option Addr) (b:Int) (h:F39 a b R H):HCalls Tryz.prog 39 #[.pointer a,.int .i64 b] H R:=
 calls_by .leaf Tryz.func39 rfl (by kernel_rfl) h
def F43 (j k l:Value) (R:zE) (H:Heap):Prop:=
 al H (.cells #[j,k,l] 26) fun a m=>jn (α:=VFH 1) (fun Q b=>∀_ _ _ _ _ _ _ _ _ _ _ _ _:Value,dBl Q fun n=>jn (α:=VFH 1) (fun o g=>∀_ _ _ _ _ _ _ _ _ _ _ _ _ _ _:Value,dBl o fun p=>sB p (R (.returned (.int .i64 170)) g) (R (.returned (.int .i64 0)) g)) fun c=>sB (!n) (c (.bool true) b) (ld b ⟨a,2,none⟩ fun q=>dInt .i64 q fun r=>ask ((4:Int)≠(0:Int)) (nm (Int.tmod r 4) fun s=>sB (s != 0) (c (.bool true) b) (ld b ⟨a,1,none⟩ fun t=>dInt .i64 t fun h=>zl3 b a fun u v w=>HCalls Tryz.prog 111 #[.agg #[u,v,w]] b (Sp.retK (fun x i=>dInt .i64 x fun y=>(ld i ⟨a,1,none⟩ fun z=>dInt .i64 z fun A=>(Value.int IntKind.i64 A)=(Value.int IntKind.i64 h))/\wr .i64 (y+1) fun B=>c (.bool (decide (h<B))) i) nopR))))) fun d=>ld m ⟨a,0,none⟩ fun C=>dInt .i64 C fun D=>HCalls Tryz.prog 110 #[.int .i64 D,.int .i64 1,.int .i64 8] m (Sp.retK (fun E e=>dBl E fun F=>sB F (ld e ⟨a,1,none⟩ fun G=>dInt .i64 G fun I=>HCalls Tryz.prog 110 #[.int .i64 I,.int .i64 8,.int .i64 256] e (Sp.retK (fun J f=>dBl J fun K=>sB K (ld f ⟨a,2,none⟩ fun L=>dInt .i64 L fun M=>HCalls Tryz.prog 110 #[.int .i64 M,.int .i64 4,.int .i64 64] f (Sp.retK (fun N O=>dBl N fun P=>d (.bool P) O) (pnR R))) (d (.bool false) f)) (pnR R))) (d (.bool false) e)) (pnR R))
theorem F43_calls {R:zE} {H:Heap} (a b c:Value) (h:F43 a b c R H):HCalls Tryz.prog 43 #[.agg #[a,b,c]] H R:=
 calls_by (.node none .leaf (.node (some ⟨[(3,4)],[4,5,6,7,8,9,10,11,12,13,14,15,16]⟩) .leaf (.node none (.node (some ⟨[(32,4)],[17,18,19,20,21,22,23,24,25,26,27,28,29,30,31]⟩) .leaf .leaf) .leaf))) Tryz.func43 rfl (by kernel_rfl) h
def F44 (c d e:Value) (R:zE) (H:Heap):Prop:=
 al H (.cells #[c,d,e] 26) fun b a=>zl3 a b fun g h i=>ld a ⟨b,1,none⟩ fun j=>dInt .i64 j fun k=>HCalls Tryz.prog 112 #[.agg #[g,h,i],.int .i64 k] a (Sp.retK (fun l m=>dInt .i64 l fun f=>R (.returned (.int .i64 f)) m) (pnR R))
theorem F44_calls {R:zE} {H:Heap} (a b c:Value) (h:F44 a b c R H):HCalls Tryz.prog 44 #[.agg #[a,b,c]] H R:=
 calls_by .leaf Tryz.func44 rfl (by kernel_rfl) h
end Go.Proofs.YtkaikaodhegmhaaGreat.E
namespace Go.Proofs.YtkaikaodhegmhaaGreat.E
open Go Go.Proofs
set_option linter.unusedVariables false
set_option maxRecDepth 100000
def F46 (b:Option Addr) (a:Int) (R:zE) (H:Heap):Prop:=
 sB (decide (a>=0)) (nz b fun c=>ld H (Addr.add c 2) fun d=>dPtr d fun e=>HCalls Tryz.prog 99 #[.pointer e] H (Sp.retK (fun f g=>dInt .i64 f fun h=>R (.returned (.bool (decide (a<h)))) g) (pnR R))) (R (.returned (.bool false)) H)
theorem F46_calls {R:zE} {H:Heap} (a:Option Addr) (b:Int) (h:F46 a b R H):HCalls Tryz.prog 46 #[.pointer a,.int .i64 b] H R:=
 calls_by .leaf Tryz.func46 rfl (by kernel_rfl) h
def F47 (b:Option Addr) (c:Int) (R:zE) (H:Heap):Prop:=
 HCalls Tryz.prog 46 #[.pointer b,.int .i64 c] H (Sp.retK (fun u d=>dBl u fun v=>sB (!v) (R (.returned (.tuple #[.slice none 0 0,.int .i64 90])) d) (nz b fun w=>ld d (Addr.add w 3) fun x=>dPtr x fun y=>HCalls Tryz.prog 113 #[.pointer y,.int .i64 c] d (Sp.retK (fun z e=>dT 2 z fun A f=>dSl A fun g h i=>dInt .i64 f fun a=>sB (a != 0) (R (.returned (.tuple #[.slice none 0 0,.int .i64 a])) e) (nz b fun j=>ld e (Addr.add j 4) fun k=>dPtr k fun l=>HCalls Tryz.prog 114 #[.pointer l,.int .i64 c,.slice g h i] e (Sp.retK (fun m n=>dT 2 m fun o p=>dSl o fun q r s=>dInt .i64 p fun t=>R (.returned (.tuple #[.slice q r s,.int .i64 t])) n) (pnR R)))) (pnR R)))) (pnR R))
theorem F47_calls {R:zE} {H:Heap} (a:Option Addr) (b:Int) (h:F47 a b R H):HCalls Tryz.prog 47 #[.pointer a,.int .i64 b] H R:=
 calls_by .leaf Tryz.func47 rfl (by kernel_rfl) h
def F52 (b:Option Addr) (a c:Nat) (R:zE) (H:Heap):Prop:=
 R (.returned (.bool ((↑a:Int) != 128))) H
theorem F52_calls {R:zE} {H:Heap} (a:Option Addr) (b c:Nat) (h:F52 a b c R H):HCalls Tryz.prog 52 #[.slice a b c] H R:=
 calls_by .leaf Tryz.func52 rfl (by kernel_rfl) h
def F53 (a:Option Addr) (b c d:Nat) (e f:Array Value) (R:zE) (H:Heap):Prop:=
 HCalls Tryz.prog 124 #[.slice a b c,.func (Fn.func d) e f] H (Sp.retK (fun g h=>dInt .i64 g fun i=>R (.returned (.bool (decide (i>=0)))) h) (pnR R))
theorem F53_calls {R:zE} {H:Heap} (a:Option Addr) (b c d:Nat) (e f:Array Value) (h:F53 a b c d e f R H):HCalls Tryz.prog 53 #[.slice a b c,.func (Fn.func d) e f] H R:=
 calls_by .leaf Tryz.func53 rfl (by kernel_rfl) h
def F54 (m:Option Addr) (f B:Nat) (R:zE) (H:Heap):Prop:=
 ∃l:List Value->Heap->Prop,∃n:List Value->Heap->Nat,(l ([.slice none 0 0,.int .i64 0]) H)/\∀c:Option Addr,∀d:Nat,∀e:Nat,∀b:Int,∀_ _ _ _ _ _ _ _ _ _:Value,∀a:Heap,(l ([.slice c d e,.int .i64 b]) a)->sB (decide (b<(↑f:Int))) (nz m fun o=>ask (0<=b/\b<(↑f:Int)) (ld a (Addr.add o (Int.toNat b*1)) fun p=>dSl p fun q r s=>HCalls Tryz.prog 16 #[.slice q r s] a (Sp.retK (fun t u=>dSl t fun v w x=>al u (.cells #[.slice v w x] 49) fun y z=>semW Tryz.prog (Builtin.append_ #[22,22] 22 #[.slice c d e,.slice (some ⟨y,0,none⟩) 1 1]) (pnR R) z fun A g=>dSl A fun h i j=>wr .i64 (b+1) fun k=>(l ([.slice h i j,.int .i64 k]) g)/\(n [.slice h i j,.int .i64 k] g)<(n [.slice c d e,.int .i64 b] a)) (pnR R)))) (R (.returned (.slice c d e)) a)
theorem F54_calls {R:zE} {H:Heap} (a:Option Addr) (b c:Nat) (h:F54 a b c R H):HCalls Tryz.prog 54 #[.slice a b c] H R:=
 calls_by (.node none .leaf (.node none .leaf (.node none (.node none .leaf (.node none (.node (some ⟨[(3,22),(8,3)],[5,9,10,11,12,13,14,15,16,17]⟩) .leaf .leaf) .leaf)) .leaf))) Tryz.func54 rfl (by kernel_rfl) h
def F55 (a:Option Addr) (b c:Nat) (R:zE) (H:Heap):Prop:=
 al H (.cells #[] 5) fun d e=>semW Tryz.prog (Builtin.append_ #[49,49] 49 #[.slice (some ⟨d,0,none⟩) 0 0,.slice a b c]) (pnR R) e fun f g=>dSl f fun h i j=>R (.returned (.slice h i j)) g
theorem F55_calls {R:zE} {H:Heap} (a:Option Addr) (b c:Nat) (h:F55 a b c R H):HCalls Tryz.prog 55 #[.slice a b c] H R:=
 calls_by .leaf Tryz.func55 rfl (by kernel_rfl) h
def F60 (i j k l:Value) (R:zE) (H:Heap):Prop:=
 al H (.cells #[i,j,k,l] 76) fun a d=>jn (α:=VFH 1) (fun v3 m=>∀_ _ _ _ _ _ _ _ _ _ _ _ _:Value,dBl v3 fun n=>sB n (R (.returned (.tuple #[.slice none 0 0,.int .i64 1])) m) (al m (.cells #[.int .u8 98,.int .u8 111,.int .u8 108,.int .u8 108] 5) fun o p=>semW Tryz.prog (convert 49 49 (.slice (some ⟨o,0,none⟩) 4 4)) (pnR R) p fun q r=>dSl q fun s t u=>semW Tryz.prog (Builtin.append_ #[49,3] 49 #[.slice s t u,.int .i64 124]) (pnR R) r fun v e=>dSl v fun w x y=>ld e ⟨a,0,none⟩ fun z=>dInt .i64 z fun A=>HCalls Tryz.prog 138 #[.slice w x y,.int .i64 4,.int .i64 1,.int .i64 A] e (Sp.retK (fun B f=>dSl B fun C D E=>ld f ⟨a,1,none⟩ fun F=>dInt .i64 F fun G=>wr .i64 (G - 1) fun I=>HCalls Tryz.prog 138 #[.slice C D E,.int .i64 5,.int .i64 1,.int .i64 I] f (Sp.retK (fun J g=>dSl J fun K L M=>ld g ⟨a,2,none⟩ fun N=>dInt .i64 N fun O=>HCalls Tryz.prog 138 #[.slice K L M,.int .i64 6,.int .i64 1,.int .i64 O] g (Sp.retK (fun P h=>dSl P fun Q S T=>ld h ⟨a,3,none⟩ fun U=>dInt .i64 U fun V=>HCalls Tryz.prog 138 #[.slice Q S T,.int .i64 8,.int .i64 4,.int .i64 V] h (Sp.retK (fun W X=>dSl W fun Y Z aa=>HCalls Tryz.prog 139 #[.slice Y Z aa] X (Sp.retK (fun ab ac=>dT 2 ab fun ad ae=>dSl ad fun af ag ah=>dInt .i64 ae fun ai=>R (.returned (.tuple #[.slice af ag ah,.int .i64 ai])) ac) (pnR R))) (pnR R))) (pnR R))) (pnR R))) (pnR R)))) fun c=>zl3 d a fun aj ak am=>HCalls Tryz.prog 137 #[.agg #[aj,ak,
 am]] d (Sp.retK (fun an b=>dBl an fun ao=>sB (!ao) (c (.bool true) b) (ld b ⟨a,3,none⟩ fun ap=>dInt .i64 ap fun aq=>sB (decide (aq<0)) (c (.bool true) b) (ld b ⟨a,3,none⟩ fun ar=>dInt .i64 ar fun au=>c (.bool (decide (au>=4294967296))) b))) (pnR R))
theorem F60_calls {R:zE} {H:Heap} (a b c d:Value) (h:F60 a b c d R H):HCalls Tryz.prog 60 #[.agg #[a,b,c,d]] H R:=
 calls_by (.node none .leaf (.node none (.node (some ⟨[(18,4)],[5,6,7,8,9,10,11,12,13,14,15,16,17]⟩) .leaf .leaf) .leaf)) Tryz.func60 rfl (by kernel_rfl) h
end Go.Proofs.YtkaikaodhegmhaaGreat.E
namespace Go.Proofs.YtkaikaodhegmhaaGreat.E
open Go Go.Proofs
set_option linter.unusedVariables false
set_option maxRecDepth 100000
def F75 (c:Option Addr) (b a:Nat) (R:zE) (H:Heap):Prop:=
 sB (decide ((↑b:Int)<4)) (R (.returned (.bool false)) H) (wr .i64 ((↑b:Int) - 4) fun g=>HCalls Tryz.prog 151 #[.slice c b a,.int .i64 g,.int .i64 4] H (Sp.retK (fun h i=>dT 2 h fun j k=>dInt .i64 j fun l=>dInt .i64 k fun n=>wr .i64 ((↑b:Int) - 4) fun d=>ask (0<=(0:Int)/\0<=d/\d<=(↑a:Int)/\(↑a:Int)<=(↑a:Int)) (HCalls Tryz.prog 152 #[.slice (slO c 1 0 (↑a:Int)) (Int.toNat d - Int.toNat 0) (Int.toNat (↑a:Int) - Int.toNat 0)] i (Sp.retK (fun m e=>dInt .i64 m fun f=>R (.returned (.bool (l==f))) e) (pnR R)))) (pnR R)))
theorem F75_calls {R:zE} {H:Heap} (a:Option Addr) (b c:Nat) (h:F75 a b c R H):HCalls Tryz.prog 75 #[.slice a b c] H R:=
 calls_by .leaf Tryz.func75 rfl (by kernel_rfl) h
def F76 (a:Option Addr) (b c:Nat) (d e:Int) (R:zE) (H:Heap):Prop:=
 HCalls Tryz.prog 151 #[.slice a b c,.int .i64 d,.int .i64 e] H (Sp.retK (fun f g=>dT 2 f fun h i=>dInt .i64 h fun j=>dInt .i64 i fun k=>R (.returned (.int .i64 j)) g) (pnR R))
theorem F76_calls {R:zE} {H:Heap} (a:Option Addr) (b c:Nat) (d e:Int) (h:F76 a b c d e R H):HCalls Tryz.prog 76 #[.slice a b c,.int .i64 d,.int .i64 e] H R:=
 calls_by .leaf Tryz.func76 rfl (by kernel_rfl) h
def F77 (a:Option Addr) (b c:Nat) (d:Option Addr) (e f:Nat) (R:zE) (H:Heap):Prop:=
 semW Tryz.prog (convert 49 9 (.slice a b c)) (pnR R) H fun h i=>dStr h fun j=>semW Tryz.prog (convert 49 9 (.slice d e f)) (pnR R) i fun k l=>dStr k fun g=>R (.returned (.bool (ByteArray.toList j==ByteArray.toList g))) l
theorem F77_calls {R:zE} {H:Heap} (a:Option Addr) (b c:Nat) (d:Option Addr) (e f:Nat) (h:F77 a b c d e f R H):HCalls Tryz.prog 77 #[.slice a b c,.slice d e f] H R:=
 calls_by .leaf Tryz.func77 rfl (by kernel_rfl) h
def F78 (d e f:Value) (R:zE) (H:Heap):Prop:=
 al H (.cells #[d,e,f] 26) fun c a=>jn (α:=VFH 1) (fun D g=>∀_ _ _ _ _ _ _ _ _ _ _ _ _ _ _ _ _ _ _ _ _ _ _ _ _ _ _ _ _ _ _ _ _ _ _ _ _ _ _ _ _ _:Value,dBl D fun h=>sB h (R (.returned (.int .i64 170)) g) (R (.returned (.int .i64 0)) g)) fun b=>ld a ⟨c,0,none⟩ fun i=>dInt .i64 i fun j=>sB (decide (j<1)) (b (.bool true) a) (ld a ⟨c,0,none⟩ fun k=>dInt .i64 k fun l=>sB (decide (l>8)) (b (.bool true) a) (ld a ⟨c,1,none⟩ fun m=>dInt .i64 m fun n=>sB (decide (n<8)) (b (.bool true) a) (ld a ⟨c,1,none⟩ fun o=>dInt .i64 o fun p=>sB (decide (p>256)) (b (.bool true) a) (ld a ⟨c,2,none⟩ fun q=>dInt .i64 q fun r=>sB (decide (r<4)) (b (.bool true) a) (ld a ⟨c,2,none⟩ fun s=>dInt .i64 s fun t=>sB (decide (t>64)) (b (.bool true) a) (ld a ⟨c,2,none⟩ fun u=>dInt .i64 u fun v=>ask ((4:Int)≠(0:Int)) (nm (Int.tmod v 4) fun w=>sB (w != 0) (b (.bool true) a) (ld a ⟨c,1,none⟩ fun x=>dInt .i64 x fun y=>ld a ⟨c,2,none⟩ fun z=>dInt .i64 z fun A=>ask ((4:Int)≠(0:Int)) (wr .i64 (Int.tdiv A 4) fun B=>wr .i64 (3+B) fun C=>b (.bool (decide (y<C))) a)))))))))
theorem F78_calls {R:zE} {H:Heap} (a b c:Value) (h:F78 a b c R H):HCalls Tryz.prog 78 #[.agg #[a,b,c]] H R:=
 calls_by (.node none .leaf (.node none (.node (some ⟨[(45,4)],[3,4,5,6,7,8,9,10,11,12,13,14,15,16,17,18,19,20,21,22,23,24,25,26,27,28,29,30,31,32,33,34,35,36,37,38,39,40,41,42,43,44]⟩) .leaf .leaf) .leaf)) Tryz.func78 rfl (by kernel_rfl) h
def F79 (d:Option Addr) (b:Int) (R:zE) (H:Heap):Prop:=
 HCalls Tryz.prog 99 #[.pointer d] H (Sp.retK (fun k c=>dInt .i64 k fun l=>sB (l==0) (R (.returned (.tuple #[.pointer none,.int .i64 2])) c) (jn (α:=VFH 1) (fun m e=>∀_ _ _ _ _:Value,dBl m fun f=>sB f (R (.returned (.tuple #[.pointer none,.int .i64 1])) e) (al e (.map #[] 0) fun g h=>al h (.cells #[.pointer d,.int .i64 b,.map (some g),.int .i64 0,.int .i64 0,.int .i64 0] 210) fun i j=>R (.returned (.tuple #[.pointer (some ⟨i,0,none⟩),.int .i64 0])) j)) fun a=>sB (decide (b<1)) (a (.bool true) c) (a (.bool (decide (b>64))) c))) (pnR R))
theorem F79_calls {R:zE} {H:Heap} (a:Option Addr) (b:Int) (h:F79 a b R H):HCalls Tryz.prog 79 #[.pointer a,.int .i64 b] H R:=
 calls_by (.node none .leaf (.node none .leaf (.node none (.node (some ⟨[(14,4)],[9,10,11,12,13]⟩) .leaf .leaf) .leaf))) Tryz.func79 rfl (by kernel_rfl) h
def F80 (R:zE) (H:Heap):Prop:=
 al H (.map #[] 0) fun a b=>al b (.map #[] 0) fun c d=>al d (.cells #[.int .i64 0,.map (some a),.map (some c),.bool true] 161) fun e f=>R (.returned (.pointer (some ⟨e,0,none⟩))) f
theorem F80_calls {R:zE} {H:Heap}  (h:F80  R H):HCalls Tryz.prog 80 #[] H R:=
 calls_by .leaf Tryz.func80 rfl (by kernel_rfl) h
def F81 (c:Option Addr) (b:Int) (R:zE) (H:Heap):Prop:=
 sB (Option.isNone c) (R (.returned (.tuple #[.pointer none,.int .i64 2])) H) (jn (α:=VFH 1) (fun f d=>∀_ _ _ _ _:Value,dBl f fun g=>sB g (R (.returned (.tuple #[.pointer none,.int .i64 1])) d) (al d (.cells #[.pointer c,.int .i64 b,.slice none 0 0,.int .i64 0,.int .i64 0] 213) fun h e=>R (.returned (.tuple #[.pointer (some ⟨h,0,none⟩),.int .i64 0])) e)) fun a=>sB (decide (b<1)) (a (.bool true) H) (a (.bool (decide (b>64))) H))
theorem F81_calls {R:zE} {H:Heap} (a:Option Addr) (b:Int) (h:F81 a b R H):HCalls Tryz.prog 81 #[.pointer a,.int .i64 b] H R:=
 calls_by (.node none .leaf (.node none .leaf (.node none (.node (some ⟨[(13,4)],[8,9,10,11,12]⟩) .leaf .leaf) .leaf))) Tryz.func81 rfl (by kernel_rfl) h
def F96 (a:Option Addr) (R:zE) (H:Heap):Prop:=
 sB (!Option.isNone a) (nz a fun b=>ld H (Addr.add b 3) fun c=>dBl c fun d=>R (.returned (.bool d)) H) (R (.returned (.bool false)) H)
theorem F96_calls {R:zE} {H:Heap} (a:Option Addr) (h:F96 a R H):HCalls Tryz.prog 96 #[.pointer a] H R:=
 calls_by .leaf Tryz.func96 rfl (by kernel_rfl) h
def F98 (f:Option Addr) (b a:Nat) (R:zE) (H:Heap):Prop:=
 sB (decide ((↑b:Int)<2)) (R (.returned (.slice f b a)) H) (∃r:List Value->Heap->Prop,∃F:List Value->Heap->Nat,(r ([.int .i64 1]) H)/\∀d:Int,∀_ _ _ _ _ _ _ _ _ _ _ _ _ _ _ _ _ _ _ _ _ _ _ _ _ _ _ _ _ _ _ _ _ _ _ _ _ _ _ _ _ _ _ _ _ _ _ _ _ _ _ _ _:Value,∀g:Heap,(r ([.int .i64 d]) g)->sB (decide (d<(↑b:Int))) (nz f fun G=>ask (0<=d/\d<(↑b:Int)) (ld g (Addr.add G (Int.toNat d*1)) fun I=>dInt .i64 I fun J=>wr .i64 (d - 1) fun j=>nz f fun K=>ask (0<=j/\j<(↑b:Int)) (ld g (Addr.add K (Int.toNat j*1)) fun L=>dInt .i64 L fun M=>sB (J==M) (ask (0<=d/\d<=(↑b:Int)/\(↑b:Int)<=(↑a:Int)/\(↑a:Int)<=(↑a:Int)) (∃k:List Value->Heap->Prop,∃p:List Value->Heap->Nat,(k ([.int .i64 d,.int .i64 1]) g)/\∀c:Int,∀e:Int,∀_ _ _ _ _ _ _ _ _ _ _ _ _ _ _ _ _ _ _ _ _ _ _ _ _:Value,∀h:Heap,(k ([.int .i64 c,.int .i64 e]) h)->sB (decide (e<(↑(Int.toNat (↑b:Int) - Int.toNat d):Int))) (jn (α:=VFH 1) (fun N q=>∀_ _ _ _ _ _ _ _ _ _ _ _ _ _ _ _ _ _ _:Value,dInt .i64 N fun l=>wr .i64 (e+1) fun m=>(k ([.int .i64 l,.int .i64 m]) q)/\(p [.int .i64 l,.int .i64 m] q)<(p [.int .i64 c,.int .i64 e] h)) fun n=>nz (slO f 1 d (↑a:Int)) fun s=>ask (0<=e/\e<(↑(Int.toNat (↑b:Int) - Int.toNat d):Int)) (ld h (Addr.add s (Int.toNat e*1)) fun t=>dInt .i64 t fun u=>wr .i64 (e - 1) fun i=>nz (slO f 1 d (↑a:Int)) fun v=>ask (0<=i/\i<(↑(Int.toNat (↑b:Int) - Int.toNat
 d):Int)) (ld h (Addr.add v (Int.toNat i*1)) fun w=>dInt .i64 w fun x=>sB (u != x) (nz (slO f 1 d (↑a:Int)) fun y=>ask (0<=e/\e<(↑(Int.toNat (↑b:Int) - Int.toNat d):Int)) (ld h (Addr.add y (Int.toNat e*1)) fun z=>dInt .i64 z fun A=>nz f fun B=>ask (0<=c/\c<(↑b:Int)) (st h (Addr.add B (Int.toNat c*1)) (.int .i64 A) fun C=>wr .i64 (c+1) fun D=>n (.int .i64 D) C))) (n (.int .i64 c) h)))) (ask (0<=c/\c<=(↑b:Int)/\(↑b:Int)<=(↑a:Int)/\(↑a:Int)<=(↑a:Int)) (semW Tryz.prog (Builtin.clear_ #[33] 0 #[.slice (slO f 1 c (↑a:Int)) (Int.toNat (↑b:Int) - Int.toNat c) (Int.toNat (↑a:Int) - Int.toNat c)]) (pnR R) h fun O E=>ask (0<=(0:Int)/\0<=c/\c<=(↑a:Int)/\(↑a:Int)<=(↑a:Int)) (R (.returned (.slice (slO f 1 0 (↑a:Int)) (Int.toNat c - Int.toNat 0) (Int.toNat (↑a:Int) - Int.toNat 0))) E))))) (wr .i64 (d+1) fun o=>(r ([.int .i64 o]) g)/\(F [.int .i64 o] g)<(F [.int .i64 d] g))))) (R (.returned (.slice f b a)) g))
theorem F98_calls {R:zE} {H:Heap} (a:Option Addr) (b c:Nat) (h:F98 a b c R H):HCalls Tryz.prog 98 #[.slice a b c] H R:=
 calls_by (.node none .leaf (.node none .leaf (.node none (.node none .leaf (.node none (.node (some ⟨[(3,3)],[2,4,5,10,11,12,13,14,15,16,17,18,19,20,21,22,23,24,25,26,27,28,29,30,31,32,33,34,35,36,37,38,39,40,41,42,43,44,45,46,47,48,49,50,51,52,53,54,55,56,57,58,59]⟩) (.node none .leaf (.node none (.node none (.node none .leaf (.node none (.node none .leaf (.node none (.node none .leaf (.node none (.node (some ⟨[(3,3),(5,3)],[29,30,31,32,33,34,35,36,37,38,39,40,41,42,43,44,45,46,47,48,49,50,51,52,53]⟩) (.node none .leaf (.node (some ⟨[(3,3)],[35,36,37,38,39,40,41,42,43,44,45,46,47,48,49,50,51,52,53]⟩) .leaf .leaf)) .leaf) .leaf)) .leaf)) .leaf)) .leaf) .leaf)) .leaf) .leaf)) .leaf))) Tryz.func98 rfl (by kernel_rfl) h
def F99 (a:Option Addr) (R:zE) (H:Heap):Prop:=
 sB (Option.isNone a) (R (.returned (.int .i64 0)) H) (nz a fun b=>ld H b fun c=>dSl c fun e d f=>R (.returned (.int .i64 (↑d:Int))) H)
theorem F99_calls {R:zE} {H:Heap} (a:Option Addr) (h:F99 a R H):HCalls Tryz.prog 99 #[.pointer a] H R:=
 calls_by .leaf Tryz.func99 rfl (by kernel_rfl) h
end Go.Proofs.YtkaikaodhegmhaaGreat.E
namespace Go.Proofs.YtkaikaodhegmhaaGreat.E
open Go Go.Proofs
set_option linter.unusedVariables false
set_option maxRecDepth 100000
def F110 (a b c:Int) (R:zE) (H:Heap):Prop:=
 sB (decide (a>=b)) (R (.returned (.bool (decide (a<=c)))) H) (R (.returned (.bool false)) H)
theorem F110_calls {R:zE} {H:Heap} (a b c:Int) (h:F110 a b c R H):HCalls Tryz.prog 110 #[.int .i64 a,.int .i64 b,.int .i64 c] H R:=
 calls_by .leaf Tryz.func110 rfl (by kernel_rfl) h
def F111 (a b c:Value) (R:zE) (H:Heap):Prop:=
 al H (.cells #[a,b,c] 26) fun e d=>ld d ⟨e,2,none⟩ fun f=>dInt .i64 f fun g=>ask ((4:Int)≠(0:Int)) (wr .i64 (Int.tdiv g 4) fun h=>wr .i64 (2+h) fun i=>R (.returned (.int .i64 i)) d)
theorem F111_calls {R:zE} {H:Heap} (a b c:Value) (h:F111 a b c R H):HCalls Tryz.prog 111 #[.agg #[a,b,c]] H R:=
 calls_by .leaf Tryz.func111 rfl (by kernel_rfl) h
def F112 (c d e:Value) (i:Int) (R:zE) (H:Heap):Prop:=
 al H (.cells #[c,d,e] 26) fun a b=>zl3 b a fun j k l=>HCalls Tryz.prog 43 #[.agg #[j,k,l]] b (Sp.retK (fun m f=>dInt .i64 m fun n=>sB (n != 0) (R (.returned (.int .i64 0)) f) (ld f ⟨a,0,none⟩ fun o=>dInt .i64 o fun g=>wr .i64 (g*i) fun h=>R (.returned (.int .i64 h)) f)) (pnR R))
theorem F112_calls {R:zE} {H:Heap} (a b c:Value) (d:Int) (h:F112 a b c d R H):HCalls Tryz.prog 112 #[.agg #[a,b,c],.int .i64 d] H R:=
 calls_by .leaf Tryz.func112 rfl (by kernel_rfl) h
def F113 (j:Option Addr) (k:Int) (R:zE) (H:Heap):Prop:=
 HCalls Tryz.prog 208 #[.pointer j,.int .i64 k] H (Sp.retK (fun l a=>dT 2 l fun m n=>dPtr m fun o=>dInt .i64 n fun b=>sB (b != 0) (R (.returned (.tuple #[.slice none 0 0,.int .i64 b])) a) (nz o fun p=>ld a p fun q=>dSl q fun r c d=>HCalls Tryz.prog 16 #[.slice r c d] a (Sp.retK (fun e f=>dSl e fun g h i=>R (.returned (.tuple #[.slice g h i,.int .i64 0])) f) (pnR R)))) (pnR R))
theorem F113_calls {R:zE} {H:Heap} (a:Option Addr) (b:Int) (h:F113 a b R H):HCalls Tryz.prog 113 #[.pointer a,.int .i64 b] H R:=
 calls_by .leaf Tryz.func113 rfl (by kernel_rfl) h
def F114 (b:Option Addr) (j:Int) (d:Option Addr) (a e:Nat) (R:zE) (H:Heap):Prop:=
 HCalls Tryz.prog 96 #[.pointer b] H (Sp.retK (fun k c=>dBl k fun l=>sB (!l) (R (.returned (.tuple #[.slice none 0 0,.int .i64 2])) c) (sB ((↑a:Int) != 128) (R (.returned (.tuple #[.slice none 0 0,.int .i64 1])) c) (HCalls Tryz.prog 146 #[.pointer b,.int .i64 j] c (Sp.retK (fun m n=>dSl m fun o p q=>HCalls Tryz.prog 209 #[.pointer b,.slice d a e,.slice o p q] n (Sp.retK (fun r f=>dSl r fun g h i=>R (.returned (.tuple #[.slice g h i,.int .i64 0])) f) (pnR R))) (pnR R))))) (pnR R))
theorem F114_calls {R:zE} {H:Heap} (d:Option Addr) (e:Int) (a:Option Addr) (b c:Nat) (h:F114 d e a b c R H):HCalls Tryz.prog 114 #[.pointer d,.int .i64 e,.slice a b c] H R:=
 calls_by .leaf Tryz.func114 rfl (by kernel_rfl) h
def F119 (a:Option Addr) (b c:Nat) (R:zE) (H:Heap):Prop:=
 sB (Option.isNone a) (R (.returned (.slice none 0 0)) H) (al H (.cells #[] 5) fun d e=>semW Tryz.prog (Builtin.append_ #[49,49] 49 #[.slice (some ⟨d,0,none⟩) 0 0,.slice a b c]) (pnR R) e fun f g=>dSl f fun h i j=>R (.returned (.slice h i j)) g)
theorem F119_calls {R:zE} {H:Heap} (a:Option Addr) (b c:Nat) (h:F119 a b c R H):HCalls Tryz.prog 119 #[.slice a b c] H R:=
 calls_by .leaf Tryz.func119 rfl (by kernel_rfl) h
def F124 (h:Option Addr) (d s e:Nat) (i j:Array Value) (R:zE) (H:Heap):Prop:=
 ∃g:List Value->Heap->Prop,∃k:List Value->Heap->Nat,(g ([.int .i64 0]) H)/\∀a:Int,∀_ _ _ _ _ _ _ _ _ _ _ _:Value,∀b:Heap,(g ([.int .i64 a]) b)->sB (decide (a<(↑d:Int))) (nz h fun l=>ask (0<=a/\a<(↑d:Int)) (ld b (Addr.add l (Int.toNat a*1)) fun m=>dSl m fun n o p=>gB (plainFn Tryz.prog e) (HCalls Tryz.prog e (argsOf i [.slice n o p] j) b (Sp.retK (fun q c=>dBl q fun r=>sB r (R (.returned (.int .i64 a)) c) (wr .i64 (a+1) fun f=>(g ([.int .i64 f]) c)/\(k [.int .i64 f] c)<(k [.int .i64 a] b))) (pnR R))))) (R (.returned (.int .i64 (-1))) b)
theorem F124_calls {R:zE} {H:Heap} (a:Option Addr) (b c d:Nat) (e f:Array Value) (h:F124 a b c d e f R H):HCalls Tryz.prog 124 #[.slice a b c,.func (Fn.func d) e f] H R:=
 calls_by (.node none .leaf (.node none (.node none .leaf (.node none (.node (some ⟨[(8,3)],[4,5,9,10,11,12,13,14,15,16,17,18]⟩) .leaf .leaf) .leaf)) .leaf)) Tryz.func124 rfl (by kernel_rfl) h
end Go.Proofs.YtkaikaodhegmhaaGreat.E
namespace Go.Proofs.YtkaikaodhegmhaaGreat.E
open Go Go.Proofs
set_option linter.unusedVariables false
set_option maxRecDepth 100000
def F137 (c d e:Value) (R:zE) (H:Heap):Prop:=
 al H (.cells #[c,d,e] 26) fun b a=>ld a ⟨b,0,none⟩ fun t=>dInt .i64 t fun u=>sB (decide (u>=1)) (ld a ⟨b,0,none⟩ fun v=>dInt .i64 v fun w=>sB (decide (w<=8)) (ld a ⟨b,1,none⟩ fun x=>dInt .i64 x fun y=>sB (decide (y>=8)) (ld a ⟨b,1,none⟩ fun z=>dInt .i64 z fun f=>sB (decide (f<=256)) (ld a ⟨b,2,none⟩ fun g=>dInt .i64 g fun h=>sB (decide (h>=4)) (ld a ⟨b,2,none⟩ fun i=>dInt .i64 i fun j=>sB (decide (j<=64)) (ld a ⟨b,2,none⟩ fun k=>dInt .i64 k fun l=>ask ((4:Int)≠(0:Int)) (nm (Int.tmod l 4) fun m=>sB (m==0) (ld a ⟨b,1,none⟩ fun n=>dInt .i64 n fun o=>ld a ⟨b,2,none⟩ fun p=>dInt .i64 p fun q=>ask ((4:Int)≠(0:Int)) (wr .i64 (Int.tdiv q 4) fun r=>wr .i64 (3+r) fun s=>R (.returned (.bool (decide (o>=s)))) a)) (R (.returned (.bool false)) a))) (R (.returned (.bool false)) a)) (R (.returned (.bool false)) a)) (R (.returned (.bool false)) a)) (R (.returned (.bool false)) a)) (R (.returned (.bool false)) a)) (R (.returned (.bool false)) a)
theorem F137_calls {R:zE} {H:Heap} (a b c:Value) (h:F137 a b c R H):HCalls Tryz.prog 137 #[.agg #[a,b,c]] H R:=
 calls_by .leaf Tryz.func137 rfl (by kernel_rfl) h
def F138 (a:Option Addr) (b c:Nat) (d e f:Int) (R:zE) (H:Heap):Prop:=
 HCalls Tryz.prog 223 #[.slice a b c,.int .i64 d,.int .i64 e,.int .i64 f] H (Sp.retK (fun g h=>dT 2 g fun i j=>dSl i fun k l m=>dInt .i64 j fun n=>R (.returned (.slice k l m)) h) (pnR R))
theorem F138_calls {R:zE} {H:Heap} (a:Option Addr) (b c:Nat) (d e f:Int) (h:F138 a b c d e f R H):HCalls Tryz.prog 138 #[.slice a b c,.int .i64 d,.int .i64 e,.int .i64 f] H R:=
 calls_by .leaf Tryz.func138 rfl (by kernel_rfl) h
def F139 (c:Option Addr) (b a:Nat) (R:zE) (H:Heap):Prop:=
 sB (decide ((↑b:Int)<4)) (R (.returned (.tuple #[.slice none 0 0,.int .i64 10])) H) (wr .i64 ((↑b:Int) - 4) fun i=>wr .i64 ((↑b:Int) - 4) fun d=>ask (0<=(0:Int)/\0<=d/\d<=(↑a:Int)/\(↑a:Int)<=(↑a:Int)) (HCalls Tryz.prog 152 #[.slice (slO c 1 0 (↑a:Int)) (Int.toNat d - Int.toNat 0) (Int.toNat (↑a:Int) - Int.toNat 0)] H (Sp.retK (fun j k=>dInt .i64 j fun l=>HCalls Tryz.prog 223 #[.slice c b a,.int .i64 i,.int .i64 4,.int .i64 l] k (Sp.retK (fun m n=>dT 2 m fun o p=>dSl o fun e f g=>dInt .i64 p fun h=>R (.returned (.tuple #[.slice e f g,.int .i64 h])) n) (pnR R))) (pnR R))))
theorem F139_calls {R:zE} {H:Heap} (a:Option Addr) (b c:Nat) (h:F139 a b c R H):HCalls Tryz.prog 139 #[.slice a b c] H R:=
 calls_by .leaf Tryz.func139 rfl (by kernel_rfl) h
def F146 (p:Option Addr) (q:Int) (R:zE) (H:Heap):Prop:=
 al H (.cells #[.pointer p] 96) fun a r=>al r (.cells #[.int .i64 q] 3) fun s c=>ld c ⟨a,0,none⟩ fun t=>dPtr t fun u=>HCalls Tryz.prog 96 #[.pointer u] c (Sp.retK (fun v b=>dBl v fun w=>sB (!w) (R (.returned (.slice none 0 0)) b) (ld b ⟨a,0,none⟩ fun d=>dPtr d fun e=>HCalls Tryz.prog 228 #[.pointer e] b (Sp.retK (fun f g=>dSl f fun h i j=>HCalls Tryz.prog 224 #[.slice h i j,.func (Fn.func 229) #[] #[.pointer (some ⟨a,0,none⟩),.pointer (some ⟨s,0,none⟩)]] g (Sp.retK (fun k l=>dSl k fun m n o=>R (.returned (.slice m n o)) l) (pnR R))) (pnR R)))) (pnR R))
theorem F146_calls {R:zE} {H:Heap} (a:Option Addr) (b:Int) (h:F146 a b R H):HCalls Tryz.prog 146 #[.pointer a,.int .i64 b] H R:=
 calls_by .leaf Tryz.func146 rfl (by kernel_rfl) h
def F151 (n:Option Addr) (h x:Nat) (l g:Int) (R:zE) (H:Heap):Prop:=
 jn (α:=VFH 1) (fun w m=>∀_ _ _ _ _ _ _ _ _:Value,dBl w fun o=>sB o (R (.returned (.tuple #[.int .i64 0,.int .i64 1])) m) (wr .i64 ((↑h:Int) - g) fun p=>sB (decide (l>p)) (R (.returned (.tuple #[.int .i64 0,.int .i64 10])) m) (wr .i64 (g - 1) fun q=>∃d:List Value->Heap->Prop,∃i:List Value->Heap->Nat,(d ([.int .i64 0,.int .i64 q]) m)/\∀c:Int,∀b:Int,∀_ _ _ _ _ _ _ _ _ _ _ _ _ _:Value,∀a:Heap,(d ([.int .i64 c,.int .i64 b]) a)->sB (decide (b>=0)) (wr .i64 (c*256) fun r=>wr .i64 (l+b) fun e=>nz n fun s=>ask (0<=e/\e<(↑h:Int)) (ld a (Addr.add s (Int.toNat e*1)) fun t=>dInt .u8 t fun u=>wr .i64 u fun v=>wr .i64 (r+v) fun j=>wr .i64 (b - 1) fun k=>(d ([.int .i64 j,.int .i64 k]) a)/\(i [.int .i64 j,.int .i64 k] a)<(i [.int .i64 c,.int .i64 b] a))) (R (.returned (.tuple #[.int .i64 c,.int .i64 0])) a)))) fun f=>sB (decide (g<1)) (f (.bool true) H) (sB (decide (g>4)) (f (.bool true) H) (f (.bool (decide (l<0))) H))
theorem F151_calls {R:zE} {H:Heap} (a:Option Addr) (b c:Nat) (d e:Int) (h:F151 a b c d e R H):HCalls Tryz.prog 151 #[.slice a b c,.int .i64 d,.int .i64 e] H R:=
 calls_by (.node none .leaf (.node none (.node (some ⟨[(19,4)],[10,11,12,13,14,15,16,17,18]⟩) .leaf .leaf) (.node none .leaf (.node none .leaf (.node none (.node none .leaf (.node none (.node (some ⟨[(8,3),(9,3)],[28,29,30,31,32,33,34,35,36,37,38,39,40,41]⟩) .leaf .leaf) .leaf)) .leaf))))) Tryz.func151 rfl (by kernel_rfl) h
end Go.Proofs.YtkaikaodhegmhaaGreat.E
namespace Go.Proofs.YtkaikaodhegmhaaGreat.E
open Go Go.Proofs
set_option linter.unusedVariables false
set_option maxRecDepth 100000
def F152 (j:Option Addr) (f t:Nat) (R:zE) (H:Heap):Prop:=
 ∃i:List Value->Heap->Prop,∃k:List Value->Heap->Nat,(i ([.int .i64 1,.int .i64 0,.int .i64 0]) H)/\∀d:Int,∀e:Int,∀b:Int,∀_ _ _ _ _ _ _ _ _ _ _ _ _ _:Value,∀a:Heap,(i ([.int .i64 d,.int .i64 e,.int .i64 b]) a)->sB (decide (b<(↑f:Int))) (nz j fun l=>ask (0<=b/\b<(↑f:Int)) (ld a (Addr.add l (Int.toNat b*1)) fun m=>dInt .u8 m fun n=>wr .i64 n fun o=>wr .i64 (d+o) fun p=>ask ((65521:Int)≠(0:Int)) (nm (Int.tmod p 65521) fun c=>wr .i64 (e+c) fun q=>ask ((65521:Int)≠(0:Int)) (nm (Int.tmod q 65521) fun g=>wr .i64 (b+1) fun h=>(i ([.int .i64 c,.int .i64 g,.int .i64 h]) a)/\(k [.int .i64 c,.int .i64 g,.int .i64 h] a)<(k [.int .i64 d,.int .i64 e,.int .i64 b] a))))) (wr .i64 (e*65536) fun r=>wr .i64 (r+d) fun s=>R (.returned (.int .i64 s)) a)
theorem F152_calls {R:zE} {H:Heap} (a:Option Addr) (b c:Nat) (h:F152 a b c R H):HCalls Tryz.prog 152 #[.slice a b c] H R:=
 calls_by (.node none .leaf (.node none .leaf (.node none (.node none .leaf (.node none (.node (some ⟨[(3,3),(4,3),(9,3)],[6,10,11,12,13,14,15,16,17,18,19,20,21,22]⟩) .leaf .leaf) .leaf)) .leaf))) Tryz.func152 rfl (by kernel_rfl) h
end Go.Proofs.YtkaikaodhegmhaaGreat.E
namespace Go.Proofs.YtkaikaodhegmhaaGreat.E
open Go Go.Proofs
set_option linter.unusedVariables false
set_option maxRecDepth 100000
def F208 (a:Option Addr) (i:Int) (R:zE) (H:Heap):Prop:=
 HCalls Tryz.prog 280 #[.pointer a,.int .i64 i] H (Sp.retK (fun S j=>dInt .i64 S fun k=>sB (k != 0) (R (.returned (.tuple #[.pointer none,.int .i64 k])) j) (nz a fun T=>ld j (Addr.add T 2) fun U=>dMap U fun V=>semW Tryz.prog (Instr.lookup 208 (.map V) (.int .i64 i) true) (pnR R) j fun W b=>dT 2 W fun l m=>dPtr l fun n=>dBl m fun o=>jn (α:=VFH 1) (fun p c=>∀_ _ _ _ _ _ _ _ _ _ _ _ _ _ _ _ _ _ _ _ _ _ _ _ _ _ _ _ _:Value,dPtr p fun d=>nz a fun q=>ld c (Addr.add q 3) fun r=>dInt .i64 r fun s=>wr .i64 (s+1) fun t=>nz a fun u=>st c (Addr.add u 3) (.int .i64 t) fun e=>nz a fun v=>ld e (Addr.add v 3) fun w=>dInt .i64 w fun x=>nz d fun y=>st e (Addr.add y 2) (.int .i64 x) fun z=>R (.returned (.tuple #[.pointer d,.int .i64 0])) z) fun f=>sB o (nz a fun A=>ld b (Addr.add A 4) fun B=>dInt .i64 B fun C=>wr .i64 (C+1) fun D=>nz a fun E=>st b (Addr.add E 4) (.int .i64 D) fun F=>f (.pointer n) F) (nz a fun G=>ld b (Addr.add G 5) fun I=>dInt .i64 I fun J=>wr .i64 (J+1) fun K=>nz a fun L=>st b (Addr.add L 5) (.int .i64 K) fun M=>HCalls Tryz.prog 281 #[.pointer a,.int .i64 i] M (Sp.retK (fun N g=>dT 2 N fun O P=>dPtr O fun Q=>dInt .i64 P fun h=>sB (h != 0) (R (.returned (.tuple #[.pointer none,.int .i64 h])) g) (f (.pointer Q) g)) (pnR R))))) (pnR R))
theorem F208_calls {R:zE} {H:Heap} (a:Option Addr) (b:Int) (h:F208 a b R H):HCalls Tryz.prog 208 #[.pointer a,.int .i64 b] H R:=
 calls_by (.node none .leaf (.node none .leaf (.node none .leaf (.node (some ⟨[(7,263)],[4,5,9,10,26,27,28,29,30,31,32,33,34,35,36,37,38,39,40,41,42,43,44,45,46,47,48,49,50]⟩) .leaf .leaf)))) Tryz.func208 rfl (by kernel_rfl) h
def F209 (Q l:Option Addr) (m n:Nat) (o:Option Addr) (h U:Nat) (R:zE) (H:Heap):Prop:=
 HCalls Tryz.prog 119 #[.slice l m n] H (Sp.retK (fun S T=>dSl S fun p g e=>∃k:List Value->Heap->Prop,∃q:List Value->Heap->Nat,(k ([.int .i64 0]) T)/\∀d:Int,∀_ _ _ _ _ _ _ _ _ _ _ _ _ _ _ _ _ _ _:Value,∀b:Heap,(k ([.int .i64 d]) b)->sB (decide (d<(↑h:Int))) (nz o fun r=>ask (0<=d/\d<(↑h:Int)) (ld b (Addr.add r (Int.toNat d*1)) fun s=>dInt .i64 s fun t=>nz Q fun u=>ld b (Addr.add u 2) fun v=>dMap v fun w=>semW Tryz.prog (Instr.lookup 159 (.map w) (.int .i64 t) false) (pnR R) b fun x y=>dA 5 x fun z A B C D=>al y (.cells #[.int .i64 0,.int .i64 0,.int .i64 0,.slice none 0 0,.slice none 0 0] 163) fun a E=>zs3 E a z A B fun I=>st I ⟨a,3,none⟩ C fun J=>st J ⟨a,4,none⟩ D fun f=>ld f ⟨a,2,none⟩ fun K=>dInt .i64 K fun c=>ask (0<=c/\c<=(↑g:Int)/\(↑g:Int)<=(↑e:Int)/\(↑e:Int)<=(↑e:Int)) (ld f ⟨a,3,none⟩ fun L=>dSl L fun M N O=>semW Tryz.prog (Builtin.copy_ #[49,49] 3 #[.slice (slO p 1 c (↑e:Int)) (Int.toNat (↑g:Int) - Int.toNat c) (Int.toNat (↑e:Int) - Int.toNat c),.slice M N O]) nopR f fun P i=>dInt .i64 P fun V=>wr .i64 (d+1) fun j=>(k ([.int .i64 j]) i)/\(q [.int .i64 j] i)<(q [.int .i64 d] b)))) (R (.returned (.slice p g e)) b)) (pnR R))
theorem F209_calls {R:zE} {H:Heap} (g a:Option Addr) (b c:Nat) (d:Option Addr) (e f:Nat) (h:F209 g a b c d e f R H):HCalls Tryz.prog 209 #[.pointer g,.slice a b c,.slice d e f] H R:=
 calls_by (.node none .leaf (.node none .leaf (.node none (.node none .leaf (.node none (.node (some ⟨[(15,3)],[9,10,16,17,18,19,20,21,22,23,24,25,26,27,28,29,30,31,32]⟩) .leaf .leaf) .leaf)) .leaf))) Tryz.func209 rfl (by kernel_rfl) h
def F210 (h:Option Addr) (d q e:Nat) (i j:Array Value) (R:zE) (H:Heap):Prop:=
 ∃g:List Value->Heap->Prop,∃k:List Value->Heap->Nat,(g ([.int .i64 0]) H)/\∀a:Int,∀_ _ _ _ _ _ _ _ _ _ _ _:Value,∀b:Heap,(g ([.int .i64 a]) b)->sB (decide (a<(↑d:Int))) (nz h fun l=>ask (0<=a/\a<(↑d:Int)) (ld b (Addr.add l (Int.toNat a*1)) fun m=>dInt .i64 m fun n=>gB (plainFn Tryz.prog e) (HCalls Tryz.prog e (argsOf i [.int .i64 n] j) b (Sp.retK (fun o c=>dBl o fun p=>sB p (R (.returned (.int .i64 a)) c) (wr .i64 (a+1) fun f=>(g ([.int .i64 f]) c)/\(k [.int .i64 f] c)<(k [.int .i64 a] b))) (pnR R))))) (R (.returned (.int .i64 (-1))) b)
theorem F210_calls {R:zE} {H:Heap} (a:Option Addr) (b c d:Nat) (e f:Array Value) (h:F210 a b c d e f R H):HCalls Tryz.prog 210 #[.slice a b c,.func (Fn.func d) e f] H R:=
 calls_by (.node none .leaf (.node none (.node none .leaf (.node none (.node (some ⟨[(8,3)],[4,5,9,10,11,12,13,14,15,16,17,18]⟩) .leaf .leaf) .leaf)) .leaf)) Tryz.func210 rfl (by kernel_rfl) h
end Go.Proofs.YtkaikaodhegmhaaGreat.E
namespace Go.Proofs.YtkaikaodhegmhaaGreat.E
open Go Go.Proofs
set_option linter.unusedVariables false
set_option maxRecDepth 100000
def F223 (s:Option Addr) (h t:Nat) (p e q:Int) (R:zE) (H:Heap):Prop:=
 jn (α:=VFH 1) (fun F r=>∀_ _ _ _ _ _ _ _ _ _ _ _ _ _ _ _ _ _ _ _:Value,dBl F fun u=>sB u (R (.returned (.tuple #[.slice none 0 0,.int .i64 1])) r) (wr .i64 ((↑h:Int) - e) fun v=>sB (decide (p>v)) (R (.returned (.tuple #[.slice none 0 0,.int .i64 10])) r) (al r (.cells #[] 5) fun w x=>semW Tryz.prog (Builtin.append_ #[49,49] 49 #[.slice (some ⟨w,0,none⟩) 0 0,.slice s h t]) (pnR R) x fun y z=>dSl y fun i j A=>∃f:List Value->Heap->Prop,∃k:List Value->Heap->Nat,(f ([.int .i64 q,.int .i64 0]) z)/\∀c:Int,∀a:Int,∀_ _ _ _ _ _ _ _ _ _ _ _ _ _:Value,∀d:Heap,(f ([.int .i64 c,.int .i64 a]) d)->sB (decide (a<e)) (wr .i64 (p+a) fun g=>ask ((256:Int)≠(0:Int)) (nm (Int.tmod c 256) fun B=>wr .u8 B fun C=>nz i fun D=>ask (0<=g/\g<(↑j:Int)) (st d (Addr.add D (Int.toNat g*1)) (.int .u8 C) fun l=>ask ((256:Int)≠(0:Int)) (wr .i64 (Int.tdiv c 256) fun m=>wr .i64 (a+1) fun n=>(f ([.int .i64 m,.int .i64 n]) l)/\(k [.int .i64 m,.int .i64 n] l)<(k [.int .i64 c,.int .i64 a] d))))) (R (.returned (.tuple #[.slice i j A,.int .i64 0])) d)))) fun b=>sB (decide (e<1)) (b (.bool true) H) (sB (decide (e>4)) (b (.bool true) H) (sB (decide (p<0)) (b (.bool true) H) (sB (decide (q<0)) (b (.bool true) H) (wr .i64 (8*e) fun o=>ask (0<=o) (nm (IntKind.wrap .i64 (1*2^min (Int.toNat o) 64)) fun E=>b (.bool (decide (q>=E))) H)))))
theorem F223_calls {R:zE} {H:Heap} (a:Option Addr) (b c:Nat) (d e f:Int) (h:F223 a b c d e f R H):HCalls Tryz.prog 223 #[.slice a b c,.int .i64 d,.int .i64 e,.int .i64 f] H R:=
 calls_by (.node none .leaf (.node none (.node (some ⟨[(32,4)],[12,13,14,15,16,17,18,19,20,21,22,23,24,25,26,27,28,29,30,31]⟩) .leaf .leaf) (.node none .leaf (.node none .leaf (.node none (.node none .leaf (.node none (.node (some ⟨[(3,3),(43,3)],[11,44,45,46,47,48,49,50,51,52,53,54,55,56]⟩) .leaf .leaf) .leaf)) .leaf))))) Tryz.func223 rfl (by kernel_rfl) h
def F224 (d:Option Addr) (c a g:Nat) (h i:Array Value) (R:zE) (H:Heap):Prop:=
 HCalls Tryz.prog 210 #[.slice d c a,.func (Fn.func g) h i] H (Sp.retK (fun C r=>dInt .i64 C fun p=>sB (p== -1) (R (.returned (.slice d c a)) r) (wr .i64 (p+1) fun D=>∃q:List Value->Heap->Prop,∃s:List Value->Heap->Nat,(q ([.int .i64 p,.int .i64 D]) r)/\∀b:Int,∀f:Int,∀_ _ _ _ _ _ _ _ _ _ _ _ _ _ _ _ _ _ _ _ _:Value,∀e:Heap,(q ([.int .i64 b,.int .i64 f]) e)->sB (decide (f<(↑c:Int))) (jn (α:=VFH 1) (fun t j=>∀_ _ _ _ _ _ _ _ _ _ _ _ _ _ _:Value,dInt .i64 t fun k=>wr .i64 (f+1) fun l=>(q ([.int .i64 k,.int .i64 l]) j)/\(s [.int .i64 k,.int .i64 l] j)<(s [.int .i64 b,.int .i64 f] e)) fun m=>nz d fun u=>ask (0<=f/\f<(↑c:Int)) (ld e (Addr.add u (Int.toNat f*1)) fun v=>dInt .i64 v fun n=>gB (plainFn Tryz.prog g) (HCalls Tryz.prog g (argsOf h [.int .i64 n] i) e (Sp.retK (fun w o=>dBl w fun x=>sB (!x) (nz d fun y=>ask (0<=b/\b<(↑c:Int)) (st o (Addr.add y (Int.toNat b*1)) (.int .i64 n) fun z=>wr .i64 (b+1) fun A=>m (.int .i64 A) z)) (m (.int .i64 b) o)) (pnR R))))) (ask (0<=b/\b<=(↑c:Int)/\(↑c:Int)<=(↑a:Int)/\(↑a:Int)<=(↑a:Int)) (semW Tryz.prog (Builtin.clear_ #[33] 0 #[.slice (slO d 1 b (↑a:Int)) (Int.toNat (↑c:Int) - Int.toNat b) (Int.toNat (↑a:Int) - Int.toNat b)]) (pnR R) e fun E B=>ask (0<=(0:Int)/\0<=b/\b<=(↑a:Int)/\(↑a:Int)<=(↑a:Int)) (R (.returned (.slice (slO d 1 0 (↑a:Int)) (Int.toNat b - Int.toNat 0) (Int.toNat (↑a:Int) - Int.toNat
 0))) B))))) (pnR R))
theorem F224_calls {R:zE} {H:Heap} (a:Option Addr) (b c d:Nat) (e f:Array Value) (h:F224 a b c d e f R H):HCalls Tryz.prog 224 #[.slice a b c,.func (Fn.func d) e f] H R:=
 calls_by (.node none .leaf (.node none .leaf (.node none .leaf (.node none (.node none .leaf (.node none (.node (some ⟨[(5,3),(6,3)],[7,16,17,18,19,20,21,22,23,24,25,26,27,28,29,30,31,32,33,34,35]⟩) (.node none .leaf (.node (some ⟨[(5,3)],[7,22,23,24,25,26,27,28,29,30,31,32,33,34,35]⟩) .leaf .leaf)) .leaf) .leaf)) .leaf)))) Tryz.func224 rfl (by kernel_rfl) h
def F228 (b:Option Addr) (R:zE) (H:Heap):Prop:=
 nz b fun c=>ld H (Addr.add c 2) fun d=>dMap d fun e=>HCalls Tryz.prog 285 #[.map e] H (Sp.retK (fun f g=>HCalls Tryz.prog 236 #[f] g (Sp.retK (fun h i=>dSl h fun j k a=>R (.returned (.slice j k a)) i) (pnR R))) (pnR R))
theorem F228_calls {R:zE} {H:Heap} (a:Option Addr) (h:F228 a R H):HCalls Tryz.prog 228 #[.pointer a] H R:=
 calls_by .leaf Tryz.func228 rfl (by kernel_rfl) h
def F229 (h:Int) (f0 f1:Addr) (R:zE) (H:Heap):Prop:=
 ld H f0 fun i=>dPtr i fun j=>nz j fun k=>ld H (Addr.add k 2) fun l=>dMap l fun m=>ld H f1 fun n=>dInt .i64 n fun b=>semW Tryz.prog (Instr.lookup 159 (.map m) (.int .i64 h) false) nopR H fun c a=>dA 5 c fun o d p q r=>(ld a f1 fun e=>dInt .i64 e fun f=>(Value.int IntKind.i64 f)=(Value.int IntKind.i64 b))/\dInt .i64 d fun g=>R (.returned (.bool (g != b))) a
theorem F229_calls {R:zE} {H:Heap} (a:Int) (f0 f1:Addr) (h:F229 a f0 f1 R H):HCalls Tryz.prog 229 #[.int .i64 a,.pointer (some f0),.pointer (some f1)] H R:=
 calls_by .leaf Tryz.func229 rfl (by kernel_rfl) h
def F236 (a:Nat) (b c:Array Value) (R:zE) (H:Heap):Prop:=
 HCalls Tryz.prog 288 #[.func (Fn.func a) b c] H (Sp.retK (fun g h=>dSl g fun d e f=>HCalls Tryz.prog 97 #[.slice d e f] h (Sp.retK (fun j i=>R (.returned (.slice d e f)) i) (pnR R))) (pnR R))
theorem F236_calls {R:zE} {H:Heap} (a:Nat) (b c:Array Value) (h:F236 a b c R H):HCalls Tryz.prog 236 #[.func (Fn.func a) b c] H R:=
 calls_by .leaf Tryz.func236 rfl (by kernel_rfl) h
end Go.Proofs.YtkaikaodhegmhaaGreat.E
namespace Go.Proofs.YtkaikaodhegmhaaGreat.E
open Go Go.Proofs
set_option linter.unusedVariables false
set_option maxRecDepth 100000
def F280 (e:Option Addr) (f:Int) (R:zE) (H:Heap):Prop:=
 jn (α:=VFH 1) (fun s a=>∀_ _ _ _ _ _ _ _:Value,dBl s fun g=>sB g (R (.returned (.int .i64 2)) a) (jn (α:=VFH 1) (fun h b=>∀_ _ _ _ _ _ _ _ _ _:Value,dBl h fun i=>sB i (R (.returned (.int .i64 1)) b) (R (.returned (.int .i64 0)) b)) fun c=>sB (decide (f<0)) (c (.bool true) a) (nz e fun j=>ld a j fun k=>dPtr k fun l=>HCalls Tryz.prog 99 #[.pointer l] a (Sp.retK (fun m n=>dInt .i64 m fun o=>c (.bool (decide (f>=o))) n) (pnR R))))) fun d=>sB (Option.isNone e) (d (.bool true) H) (nz e fun p=>ld H (Addr.add p 2) fun q=>dMap q fun r=>d (.bool (Option.isNone r)) H)
theorem F280_calls {R:zE} {H:Heap} (a:Option Addr) (b:Int) (h:F280 a b R H):HCalls Tryz.prog 280 #[.pointer a,.int .i64 b] H R:=
 calls_by (.node none .leaf (.node none (.node (some ⟨[(13,4)],[5,6,7,8,9,10,11,12]⟩) .leaf .leaf) (.node none (.node (some ⟨[(24,4)],[14,15,16,17,18,19,20,21,22,23]⟩) .leaf .leaf) .leaf))) Tryz.func280 rfl (by kernel_rfl) h
def F281 (a:Option Addr) (l:Int) (R:zE) (H:Heap):Prop:=
 nz a fun X=>ld H (Addr.add X 2) fun Y=>dMap Y fun Z=>nz a fun n=>ld H (Addr.add n 1) fun v5=>dInt .i64 v5 fun m=>semW Tryz.prog (Builtin.len_ #[208] 3 #[.map Z]) nopR H fun v9 d=>dInt .i64 v9 fun e=>(ld d (Addr.add n 1) fun o=>dInt .i64 o fun p=>(Value.int IntKind.i64 p)=(Value.int IntKind.i64 m))/\HCalls Tryz.prog 314 #[.pointer a] d (Sp.retK (fun q f=>dT 2 q fun r s=>dInt .i64 r fun t=>dBl s fun u=>jn (α:=VFH 1) (fun v c=>∀_ _ _ _:Value,dBl v fun w=>sB w (R (.returned (.tuple #[.pointer none,.int .i64 60])) c) (nz a fun x=>ld c x fun y=>dPtr y fun z=>HCalls Tryz.prog 315 #[.pointer z,.int .i64 l] c (Sp.retK (fun A b=>dT 2 A fun B C=>dSl B fun D E F=>dInt .i64 C fun g=>sB (g != 0) (R (.returned (.tuple #[.pointer none,.int .i64 g])) b) (jn (α:=VFH 0) (fun h=>∀_ _ _ _ _ _:Value,nz a fun G=>ld h (Addr.add G 2) fun I=>dMap I fun J=>al h (.cells #[.slice D E F,.int .i64 0,.int .i64 0] 267) fun K L=>semW Tryz.prog (Instr.mapUpdate 208 (.map J) (.int .i64 l) (.pointer (some ⟨K,0,none⟩))) (pnR R) L fun aa i=>nz a fun M=>ld i (Addr.add M 2) fun N=>dMap N fun O=>semW Tryz.prog (Instr.lookup 208 (.map O) (.int .i64 l) false) (pnR R) i fun P Q=>dPtr P fun S=>R (.returned (.tuple #[.pointer S,.int .i64 0])) Q) fun j=>sB (decide (e>=m)) (nz a fun T=>ld b (Addr.add T 2) fun U=>dMap U fun V=>semW Tryz.prog (Builtin.delete_ #[208,3] 0 #[.map V,.int .i64 t]) (pnR R) b fun ab W=>j W) (j
 b))) (pnR R)))) fun k=>sB (decide (e>=m)) (k (.bool !u) f) (k (.bool false) f)) (pnR R))
theorem F281_calls {R:zE} {H:Heap} (a:Option Addr) (b:Int) (h:F281 a b R H):HCalls Tryz.prog 281 #[.pointer a,.int .i64 b] H R:=
 calls_by (.node none .leaf (.node none .leaf (.node none .leaf (.node none (.node (some ⟨[(30,4)],[26,27,28,29]⟩) .leaf .leaf) (.node none .leaf (.node none .leaf (.node (some ⟨[],[43,44,45,46,47,48]⟩) .leaf .leaf))))))) Tryz.func281 rfl (by kernel_rfl) h
def F285 (a:Option Nat) (R:zE) (H:Heap):Prop:=
 al H (.cells #[.map a] 159) fun b c=>R (.returned (.func (Fn.func 317) #[] #[.pointer (some ⟨b,0,none⟩)])) c
theorem F285_calls {R:zE} {H:Heap} (a:Option Nat) (h:F285 a R H):HCalls Tryz.prog 285 #[.map a] H R:=
 calls_by .leaf Tryz.func285 rfl (by kernel_rfl) h
def F307 (c:Option Addr) (d:Int) (R:zE) (H:Heap):Prop:=
 HCalls Tryz.prog 310 #[.pointer c] H (Sp.retK (fun j a=>dBl j fun k=>sB (!k) (R (.returned (.int .i64 2)) a) (jn (α:=VFH 1) (fun l e=>∀_ _ _ _ _ _ _ _ _ _:Value,dBl l fun f=>sB f (R (.returned (.int .i64 1)) e) (R (.returned (.int .i64 0)) e)) fun b=>sB (decide (d<0)) (b (.bool true) a) (nz c fun g=>ld a g fun h=>dSl h fun m i n=>b (.bool (decide (d>=(↑i:Int)))) a))) (pnR R))
theorem F307_calls {R:zE} {H:Heap} (a:Option Addr) (b:Int) (h:F307 a b R H):HCalls Tryz.prog 307 #[.pointer a,.int .i64 b] H R:=
 calls_by (.node none .leaf (.node none .leaf (.node none (.node (some ⟨[(18,4)],[8,9,10,11,12,13,14,15,16,17]⟩) .leaf .leaf) .leaf))) Tryz.func307 rfl (by kernel_rfl) h
def F310 (a:Option Addr) (R:zE) (H:Heap):Prop:=
 sB (!Option.isNone a) (nz a fun b=>ld H b fun c=>dSl c fun e d f=>R (.returned (.bool (decide ((↑d:Int)>0)))) H) (R (.returned (.bool false)) H)
theorem F310_calls {R:zE} {H:Heap} (a:Option Addr) (h:F310 a R H):HCalls Tryz.prog 310 #[.pointer a] H R:=
 calls_by .leaf Tryz.func310 rfl (by kernel_rfl) h
def F314 (g:Option Addr) (R:zE) (H:Heap):Prop:=
 HCalls Tryz.prog 327 #[.pointer g] H (Sp.retK (fun t u=>dSl t fun v h w=>∃f:List Value->Heap->Prop,∃i:List Value->Heap->Nat,(f ([.int .i64 0]) u)/\∀b:Int,∀_ _ _ _ _ _ _ _ _ _ _ _ _ _ _ _ _ _:Value,∀a:Heap,(f ([.int .i64 b]) a)->sB (decide (b<(↑h:Int))) (nz v fun j=>ask (0<=b/\b<(↑h:Int)) (ld a (Addr.add j (Int.toNat b*1)) fun k=>dInt .i64 k fun d=>nz g fun l=>ld a (Addr.add l 2) fun m=>dMap m fun n=>semW Tryz.prog (Instr.lookup 208 (.map n) (.int .i64 d) false) (pnR R) a fun o c=>dPtr o fun p=>nz p fun q=>ld c (Addr.add q 1) fun r=>dInt .i64 r fun s=>sB (s==0) (R (.returned (.tuple #[.int .i64 d,.bool true])) c) (wr .i64 (b+1) fun e=>(f ([.int .i64 e]) c)/\(i [.int .i64 e] c)<(i [.int .i64 b] a)))) (R (.returned (.tuple #[.int .i64 0,.bool false])) a)) (pnR R))
theorem F314_calls {R:zE} {H:Heap} (a:Option Addr) (h:F314 a R H):HCalls Tryz.prog 314 #[.pointer a] H R:=
 calls_by (.node none .leaf (.node none (.node none .leaf (.node none (.node (some ⟨[(9,3)],[2,3,5,10,11,12,13,14,15,16,17,18,19,20,21,22,23,24]⟩) .leaf .leaf) .leaf)) .leaf)) Tryz.func314 rfl (by kernel_rfl) h
def F315 (c:Option Addr) (b:Int) (R:zE) (H:Heap):Prop:=
 HCalls Tryz.prog 307 #[.pointer c,.int .i64 b] H (Sp.retK (fun C e=>dInt .i64 C fun f=>sB (f != 0) (R (.returned (.tuple #[.slice none 0 0,.int .i64 f])) e) (nz c fun D=>ld e (Addr.add D 2) fun E=>dMap E fun F=>semW Tryz.prog (Instr.lookup 118 (.map F) (.int .i64 b) false) (pnR R) e fun G a=>dInt .i64 G fun g=>sB (decide (g>0)) (nz c fun h=>ld a (Addr.add h 2) fun i=>dMap i fun d=>semW Tryz.prog (Instr.lookup 118 (.map d) (.int .i64 b) false) (pnR R) a fun j k=>dInt .i64 j fun l=>wr .i64 (l - 1) fun m=>semW Tryz.prog (Instr.mapUpdate 118 (.map d) (.int .i64 b) (.int .i64 m)) (pnR R) k fun I n=>R (.returned (.tuple #[.slice none 0 0,.int .i64 4])) n) (nz c fun o=>ld a o fun p=>dSl p fun q r J=>nz q fun s=>ask (0<=b/\b<(↑r:Int)) (ld a (Addr.add s (Int.toNat b*1)) fun t=>dSl t fun u v w=>HCalls Tryz.prog 16 #[.slice u v w] a (Sp.retK (fun x y=>dSl x fun z A B=>R (.returned (.tuple #[.slice z A B,.int .i64 0])) y) (pnR R)))))) (pnR R))
theorem F315_calls {R:zE} {H:Heap} (a:Option Addr) (b:Int) (h:F315 a b R H):HCalls Tryz.prog 315 #[.pointer a,.int .i64 b] H R:=
 calls_by .leaf Tryz.func315 rfl (by kernel_rfl) h
end Go.Proofs.YtkaikaodhegmhaaGreat.E
namespace Go.Proofs.YtkaikaodhegmhaaGreat.E
open Go Go.Proofs
set_option linter.unusedVariables false
set_option maxRecDepth 100000
def F327 (j:Option Addr) (R:zE) (H:Heap):Prop:=
 al H (.cells #[.pointer j] 95) fun b a=>ld a ⟨b,0,none⟩ fun k=>dPtr k fun l=>sB (Option.isNone l) (R (.returned (.slice none 0 0)) a) (ld a ⟨b,0,none⟩ fun m=>dPtr m fun n=>nz n fun o=>ld a (Addr.add o 2) fun p=>dMap p fun q=>HCalls Tryz.prog 335 #[.map q] a (Sp.retK (fun c d=>HCalls Tryz.prog 334 #[c,.func (Fn.func 336) #[] #[.pointer (some ⟨b,0,none⟩)]] d (Sp.retK (fun e f=>dSl e fun g h i=>R (.returned (.slice g h i)) f) (pnR R))) (pnR R)))
theorem F327_calls {R:zE} {H:Heap} (a:Option Addr) (h:F327 a R H):HCalls Tryz.prog 327 #[.pointer a] H R:=
 calls_by .leaf Tryz.func327 rfl (by kernel_rfl) h
def F334 (a:Nat) (b c:Array Value) (d:Nat) (e f:Array Value) (R:zE) (H:Heap):Prop:=
 HCalls Tryz.prog 288 #[.func (Fn.func a) b c] H (Sp.retK (fun j k=>dSl j fun g h i=>HCalls Tryz.prog 342 #[.slice g h i,.func (Fn.func d) e f] k (Sp.retK (fun m l=>R (.returned (.slice g h i)) l) (pnR R))) (pnR R))
theorem F334_calls {R:zE} {H:Heap} (a:Nat) (b c:Array Value) (d:Nat) (e f:Array Value) (h:F334 a b c d e f R H):HCalls Tryz.prog 334 #[.func (Fn.func a) b c,.func (Fn.func d) e f] H R:=
 calls_by .leaf Tryz.func334 rfl (by kernel_rfl) h
def F335 (a:Option Nat) (R:zE) (H:Heap):Prop:=
 al H (.cells #[.map a] 208) fun b c=>R (.returned (.func (Fn.func 343) #[] #[.pointer (some ⟨b,0,none⟩)])) c
theorem F335_calls {R:zE} {H:Heap} (a:Option Nat) (h:F335 a R H):HCalls Tryz.prog 335 #[.map a] H R:=
 calls_by .leaf Tryz.func335 rfl (by kernel_rfl) h
end Go.Proofs.YtkaikaodhegmhaaGreat.E
namespace Go.Proofs.YtkaikaodhegmhaaGreat.E
open Go Go.Proofs
set_option linter.unusedVariables false
set_option linter.unusedSimpArgs false
theorem c_clone (τ:Nat) {xa:Option Addr} {xn:Nat} (xc:Nat) {l:List UInt8} {τx:Nat} {s:TH} (hx:Sl s xa (bvs l) τx) (hn:l.length=xn) (h0:xa=none->xn=0) (hb:xn<=1000000000):TRet Tryz.prog 16 #[.slice xa xn xc] s fun v s'=>∃a' c',v=.slice a' xn c'/\Ch [] s s'/\Own s' a' xn c' 5 1 (bvs l) τ/\(a'=none↔xa=none):=by
 refine F16_calls _ _ _  ?_
 unfold F16
 first|refine sB_d (fun a=>?_) (fun a=>?_)|refine sB_nd (fun a=>?_) (fun a=>?_)|refine sB_n (fun a=>?_) (fun a=>?_)|refine sB_i (fun a=>?_) (fun a=>?_)
 ·refine ret_t ?_
  have hxa:xa=none:=by simpa using a
  have hl:l=[]:=List.eq_nil_of_length_eq_zero (by have:=h0 hxa;omega)
  have h0':=h0 hxa
  subst hl h0'
  exact ⟨none,0,rfl,(Ch.refl [] s),Own.nil _ _ _ _,by simp [hxa]⟩
 refine al_t τ fun r1 s2 i f b j=>?_
 have g:=hx.mv b (tagn (by simp))
 refine app_i u49 in5 rfl (f.own0 1) g (by rw [bvs_len];omega) (bvs_one l) h0 (by unfold maxLen;omega) fun s6 a1 c1 c e hnil=>?_
 have d:=e.toL rfl
 have k:=d.size
 refine dSl_i ?_
 refine ret_t ?_
 have hxa:xa≠none:=by intro h;simp [h] at a
 rw [Nat.zero_add,List.nil_append] at c
 simp only [Nat.zero_add]
 exact ⟨a1,c1,rfl,(((Ch.refl [] s).ch b (by simp)).chl d (by simp) (by simp<;>omega)),c,by simp [hxa,hnil.1]⟩
-- no form: math/bits.Mul64
-- no form: math/bits.Mul
-- no form: bytes.Repeat
end Go.Proofs.YtkaikaodhegmhaaGreat.E
namespace Go.Proofs.YtkaikaodhegmhaaGreat.E
open Go Go.Proofs
set_option linter.unusedVariables false
set_option linter.unusedSimpArgs false
theorem c_made (d T:Nat) (D:DiskM) (s:TH) (hT:10<=T) (hd:Disk s d T D):TRet Tryz.prog 310 #[.pointer (some ⟨d,0,none⟩)] s fun v s'=>v=.bool true/\Ch [] s s':=by
 obtain ⟨pa,pc,qa,qc,hs,qs,fr,fm,hD⟩:=id hd
 have hblk:=hD.blk
 have hrows:=hD.rows
 have hbrel:=hD.brel
 have hque:=hD.que
 have hqrel:=hD.qrel
 have hfails:=hD.fails
 refine F310_calls _  ?_
 unfold F310
 refine sB_t (by rfl) (nz_i (ld_t hblk rfl (dSl_i ?_)))
 refine ret_t ?_
 exact ⟨ret_b (by have:=hD.nb;simp;omega),(Ch.refl [] s)⟩
theorem c_blocks (d T:Nat) (D:DiskM) (s:TH) (hT:10<=T) (hd:Disk s d T D):TRet Tryz.prog 99 #[.pointer (some ⟨d,0,none⟩)] s fun v s'=>v=.int .i64 (D.blocks.length:Int)/\Ch [] s s':=by
 obtain ⟨pa,pc,qa,qc,hs,qs,fr,fm,hD⟩:=id hd
 have hblk:=hD.blk
 have hrows:=hD.rows
 have hbrel:=hD.brel
 have hque:=hD.que
 have hqrel:=hD.qrel
 have hfails:=hD.fails
 refine F99_calls _  ?_
 unfold F99
 refine sB_f (by rfl) (nz_i (ld_t hblk rfl (dSl_i ?_)))
 refine ret_t ?_
 exact ⟨rfl,(Ch.refl [] s)⟩
theorem c_look (d T:Nat) (D:DiskM) (b:Int) (s:TH) (hT:10<=T) (hd:Disk s d T D):TRet Tryz.prog 307 #[.pointer (some ⟨d,0,none⟩),.int .i64 b] s fun v s'=>v=.int .i64 (if D.has b then 0 else 1)/\Ch [] s s':=by
 obtain ⟨pa,pc,qa,qc,hs,qs,fr,fm,hD⟩:=id hd
 have hblk:=hD.blk
 have hrows:=hD.rows
 have hbrel:=hD.brel
 have hque:=hD.que
 have hqrel:=hD.qrel
 have hfails:=hD.fails
 refine F307_calls _ _  ?_
 unfold F307
 refine tcall (c_made _ _ _ _ hT hd) ?_
 rintro _ s2 ⟨rfl,a⟩
 have g:=a.size
 refine dBl_i (sB_f (by rfl) ?_)
 refine jn_u ?_
 refine sB_d (fun e=>?_) (fun e=>?_)
 ·iterate 10 intro _
  refine dBl_i (sB_t (by rfl) ?_)
  refine ret_t ?_
  exact ⟨ret_i (by first|rw [if_pos (by unfold DiskM.has;omega)]|rw [if_neg (by unfold DiskM.has;omega)]),((Ch.refl [] s).ch a (by simp))⟩
 refine nz_i ?_
 have c:=hblk.ch a (by simp)
 refine ld_t c rfl (dSl_i ?_)
 iterate 10 intro _
 refine dBl_i ?_
 refine sB_d (fun f=>?_) (fun f=>?_)
 ·refine ret_t ?_
  exact ⟨ret_i (by first|rw [if_pos (by unfold DiskM.has;omega)]|rw [if_neg (by unfold DiskM.has;omega)]),((Ch.refl [] s).ch a (by simp))⟩
 refine ret_t ?_
 exact ⟨ret_i (by first|rw [if_pos (by unfold DiskM.has;omega)]|rw [if_neg (by unfold DiskM.has;omega)]),((Ch.refl [] s).ch a (by simp))⟩
theorem BRel.snoc {s:TH} {τ:Nat} {hs:List Hd} {bs:List (List UInt8)} (h:BRel s τ hs bs) {p:Hd} {b:List UInt8} (hp:ByAt s τ p b):BRel s τ (hs++[p]) (bs++[b]):=by
 refine ⟨by simp [h.len],fun i x y hx hy=>?_⟩
 by_cases hi:i<bs.length
 ·rw [List.getElem?_append_left (by rw [h.len];exact hi)] at hx
  rw [List.getElem?_append_left hi] at hy
  exact h.at_ i x y hx hy
 rw [List.getElem?_append_right (by rw [h.len];omega)] at hx
 rw [List.getElem?_append_right (by omega)] at hy
 rw [h.len] at hx
 cases hd:i - bs.length with
 |zero=>rw [hd] at hx hy;simp at hx hy;subst hx hy;exact hp
 |succ k=>rw [hd] at hx;simp at hx
theorem BRel.nil (s:TH) (τ:Nat):BRel s τ [] []:=⟨rfl,fun i p b h _=>by simp at h⟩
theorem QRel.nil (s:TH) (τ:Nat):QRel s τ [] []:=⟨rfl,fun i p b h _=>by simp at h⟩
-- no form: bollard/disk.New
theorem c_dread (d T τ:Nat) (D:DiskM) (b:Int) {l:List UInt8} (s:TH) (hT:10<=T) (hd:Disk s d T D) (hb:D.has b) (hl:D.blocks[b.toNat]? =some l) (hf:D.fails b<=0):TRet Tryz.prog 315 #[.pointer (some ⟨d,0,none⟩),.int .i64 b] s fun v s'=>∃a c,v=.tuple #[.slice a 128 c,.int .i64 0]/\Ch [] s s'/\Own s' a 128 c 5 1 (bvs l) τ:=by
 obtain ⟨pa,pc,qa,qc,hs,qs,fr,fm,hD⟩:=id hd
 have hblk:=hD.blk
 have hrows:=hD.rows
 have hbrel:=hD.brel
 have hque:=hD.que
 have hqrel:=hD.qrel
 have hfails:=hD.fails
 refine F315_calls _ _  ?_
 unfold F315
 refine tcall (c_look _ _ _ _ _ hT hd) ?_
 rintro _ s2 ⟨rfl,e⟩
 have n:=e.size
 refine dInt_i ?_
 refine sB_ne (fun i=>?_) (fun i=>?_)
 ·refine ret_t ?_
  exact absurd (if_pos hb) i
 have hb1:=hb;unfold DiskM.has at hb1
 obtain ⟨p,hp⟩: ∃p,hs[b.toNat]? =some p:=⟨hs[b.toNat]'(by rw [hD.brel.len];omega),by simp⟩
 obtain ⟨ap,rfl⟩: ∃ap,pa=some ap:=by
  have h0:=hD.nb
  rcases hD.rows.2 with ⟨_,h2,_⟩|⟨g,o,L,h2,_⟩
  ·omega
  exact ⟨_,h2⟩
 refine nz_i ?_
 have f:=hblk.ch e (by simp)
 refine ld_t f rfl (dMap_i ?_)
 have fails_4:=hfails.ch e (by simp)
 refine look_g keyI u118 z3 fails_4 b (hD.fok b) ?_
 refine dInt_i ?_
 refine sB_d (fun k=>by exfalso;omega) (fun k=>?_)
 refine nz_i (ld_t f rfl (dSl_i (nz_i (ask_t (by omega) ?_))))
 have rows_5:=hrows.mv e (tagn (by simp))
 refine ld_sl rows_5.sl (by rw [Nat.mul_one];exact bcell hp) ?_
 refine dSl_i ?_
 have brel_6:=hbrel.mv e (tagn (by simp))
 refine tcall (c_clone τ _ (brel_6.at_ _ _ _ hp hl).sl (brel_6.at_ _ _ _ hp hl).len (fun h=>by obtain ⟨y,hy⟩:=(hD.brel.at_ _ _ _ hp hl).ne;rw [h] at hy;cases hy) (by omega)) ?_
 rintro _ q ⟨xa2,xc2,rfl,j,m,hxn⟩
 have r:=j.size
 refine dSl_i ?_
 refine ret_t ?_
 exact ⟨xa2,xc2,rfl,(((Ch.refl [] s).ch e (by simp)).ch j (by simp)),m⟩
end Go.Proofs.YtkaikaodhegmhaaGreat.E
namespace Go.Proofs
open Go.Shelf
def Tryz.collectA_ren :Go.Shelf.Ren:=⟨fun|8=>288|11=>321|n=>n,fun|26=>3|28=>293|24=>33|0=>0|33=>108|4=>4|n=>n,fun|n=>n⟩
theorem Tryz.collectA :Go.Proofs.SlLaysZI.n8 Tryz.prog Tryz.collectA_ren:=
 {mixed:=by kernel_rfl,
  f8:=⟨Tryz.f288.name,by decide,Tryz.func288.trans (congrArg some (by kernel_rfl))⟩,
  f11:=⟨Tryz.f321.name,by decide,Tryz.func321.trans (congrArg some (by kernel_rfl))⟩,
  t0:=Tryz.underlying0,
  a0:=Tryz.isAgg0,
  z0:=Tryz.sizeOf0,
  v0:=Tryz.zeroValue0,
  t24:=Tryz.underlying33,
  a24:=Tryz.isAgg33,
  z24:=Tryz.sizeOf33,
  v24:=Tryz.zeroValue33,
  t26:=Tryz.underlying3,
  a26:=Tryz.isAgg3,
  z26:=Tryz.sizeOf3,
  v26:=Tryz.zeroValue3,
  t28:=Tryz.underlying293,
  a28:=Tryz.isAgg293,
  z28:=Tryz.sizeOf293,
  v28:=Tryz.zeroValue293,
  i26:=by kernel_rfl }
def Tryz.keysA_ren :Go.Shelf.Ren:=⟨fun|7=>335|10=>343|n=>n,fun|23=>208|26=>3|3=>263|28=>293|0=>0|27=>292|33=>108|4=>4|n=>n,fun|n=>n⟩
theorem Tryz.keysA :Go.Proofs.SlLaysZI.n7 Tryz.prog Tryz.keysA_ren:=
 {mixed:=by kernel_rfl,
  f7:=⟨Tryz.f335.name,by decide,Tryz.func335.trans (congrArg some (by kernel_rfl))⟩,
  f10:=⟨Tryz.f343.name,by decide,Tryz.func343.trans (congrArg some (by kernel_rfl))⟩,
  t0:=Tryz.underlying0,
  a0:=Tryz.isAgg0,
  z0:=Tryz.sizeOf0,
  v0:=Tryz.zeroValue0,
  t4:=Tryz.underlying4,
  a4:=Tryz.isAgg4,
  z4:=Tryz.sizeOf4,
  v4:=Tryz.zeroValue4,
  t23:=Tryz.underlying208,
  a23:=Tryz.isAgg208,
  z23:=Tryz.sizeOf208,
  v23:=Tryz.zeroValue208,
  t26:=Tryz.underlying3,
  a26:=Tryz.isAgg3,
  z26:=Tryz.sizeOf3,
  v26:=Tryz.zeroValue3,
  t27:=Tryz.underlying292,
  a27:=Tryz.isAgg292,
  z27:=Tryz.sizeOf292,
  v27:=Tryz.zeroValue292,
  t28:=Tryz.underlying293,
  a28:=Tryz.isAgg293,
  z28:=Tryz.sizeOf293,
  v28:=Tryz.zeroValue293,
  t33:=Tryz.underlying108,
  a33:=Tryz.isAgg108,
  z33:=Tryz.sizeOf108,
  v33:=Tryz.zeroValue108 }
def Tryz.keysB_ren :Go.Shelf.Ren:=⟨fun|7=>285|10=>317|n=>n,fun|23=>159|26=>3|3=>163|28=>293|0=>0|27=>292|33=>108|4=>4|n=>n,fun|n=>n⟩
theorem Tryz.keysB :Go.Proofs.SlLaysZI.n7 Tryz.prog Tryz.keysB_ren:=
 {mixed:=by kernel_rfl,
  f7:=⟨Tryz.f285.name,by decide,Tryz.func285.trans (congrArg some (by kernel_rfl))⟩,
  f10:=⟨Tryz.f317.name,by decide,Tryz.func317.trans (congrArg some (by kernel_rfl))⟩,
  t0:=Tryz.underlying0,
  a0:=Tryz.isAgg0,
  z0:=Tryz.sizeOf0,
  v0:=Tryz.zeroValue0,
  t4:=Tryz.underlying4,
  a4:=Tryz.isAgg4,
  z4:=Tryz.sizeOf4,
  v4:=Tryz.zeroValue4,
  t23:=Tryz.underlying159,
  a23:=Tryz.isAgg159,
  z23:=Tryz.sizeOf159,
  v23:=Tryz.zeroValue159,
  t26:=Tryz.underlying3,
  a26:=Tryz.isAgg3,
  z26:=Tryz.sizeOf3,
  v26:=Tryz.zeroValue3,
  t27:=Tryz.underlying292,
  a27:=Tryz.isAgg292,
  z27:=Tryz.sizeOf292,
  v27:=Tryz.zeroValue292,
  t28:=Tryz.underlying293,
  a28:=Tryz.isAgg293,
  z28:=Tryz.sizeOf293,
  v28:=Tryz.zeroValue293,
  t33:=Tryz.underlying108,
  a33:=Tryz.isAgg108,
  z33:=Tryz.sizeOf108,
  v33:=Tryz.zeroValue108 }
def Tryz.sortFA_ren :Go.Shelf.Ren:=⟨fun|6=>342|15=>193|14=>349|28=>267|29=>268|20=>354|21=>355|22=>356|23=>357|24=>358|25=>359|26=>360|27=>361|46=>363|47=>302|48=>303|49=>364|50=>365|57=>366|n=>n,fun|22=>33|24=>3|25=>373|3=>3|39=>172|0=>0|53=>90|55=>327|4=>4|46=>319|45=>318|50=>288|5=>5|9=>9|66=>343|70=>309|76=>355|77=>356|n=>n,fun|n=>n⟩
theorem Tryz.sortFA :Go.Proofs.SlLaysF.n6 Tryz.prog Tryz.sortFA_ren:=
 {mixed:=by kernel_rfl,
  f6:=⟨Tryz.f342.name,by decide,Tryz.func342.trans (congrArg some (by kernel_rfl))⟩,
  f14:=⟨Tryz.f349.name,by decide,Tryz.func349.trans (congrArg some (by kernel_rfl))⟩,
  f15:=Tryz.func193.trans (congrArg some (by kernel_rfl)),
  f20:=⟨Tryz.f354.name,by decide,Tryz.func354.trans (congrArg some (by kernel_rfl))⟩,
  f21:=⟨Tryz.f355.name,by decide,Tryz.func355.trans (congrArg some (by kernel_rfl))⟩,
  f22:=⟨Tryz.f356.name,by decide,Tryz.func356.trans (congrArg some (by kernel_rfl))⟩,
  f23:=⟨Tryz.f357.name,by decide,Tryz.func357.trans (congrArg some (by kernel_rfl))⟩,
  f24:=⟨Tryz.f358.name,by decide,Tryz.func358.trans (congrArg some (by kernel_rfl))⟩,
  f25:=⟨Tryz.f359.name,by decide,Tryz.func359.trans (congrArg some (by kernel_rfl))⟩,
  f26:=⟨Tryz.f360.name,by decide,Tryz.func360.trans (congrArg some (by kernel_rfl))⟩,
  f27:=⟨Tryz.f361.name,by decide,Tryz.func361.trans (congrArg some (by kernel_rfl))⟩,
  f28:=Tryz.func267.trans (congrArg some (by kernel_rfl)),
  f29:=Tryz.func268.trans (congrArg some (by kernel_rfl)),
  f46:=⟨Tryz.f363.name,by decide,Tryz.func363.trans (congrArg some (by kernel_rfl))⟩,
  f47:=Tryz.func302.trans (congrArg some (by kernel_rfl)),
  f48:=Tryz.func303.trans (congrArg some (by kernel_rfl)),
  f49:=⟨Tryz.f364.name,by decide,Tryz.func364.trans (congrArg some (by kernel_rfl))⟩,
  f50:=⟨Tryz.f365.name,by decide,Tryz.func365.trans (congrArg some (by kernel_rfl))⟩,
  f57:=⟨Tryz.f366.name,by decide,Tryz.func366.trans (congrArg some (by kernel_rfl))⟩,
  t0:=Tryz.underlying0,
  a0:=Tryz.isAgg0,
  z0:=Tryz.sizeOf0,
  v0:=Tryz.zeroValue0,
  t3:=Tryz.underlying3,
  a3:=Tryz.isAgg3,
  z3:=Tryz.sizeOf3,
  v3:=Tryz.zeroValue3,
  t4:=Tryz.underlying4,
  a4:=Tryz.isAgg4,
  z4:=Tryz.sizeOf4,
  v4:=Tryz.zeroValue4,
  t5:=Tryz.underlying5,
  a5:=Tryz.isAgg5,
  z5:=Tryz.sizeOf5,
  v5:=Tryz.zeroValue5,
  t9:=Tryz.underlying9,
  a9:=Tryz.isAgg9,
  z9:=Tryz.sizeOf9,
  v9:=Tryz.zeroValue9,
  t22:=Tryz.underlying33,
  a22:=Tryz.isAgg33,
  z22:=Tryz.sizeOf33,
  v22:=Tryz.zeroValue33,
  a24:=Tryz.isAgg3,
  z24:=Tryz.sizeOf3,
  t25:=Tryz.underlying373,
  a25:=Tryz.isAgg373,
  z25:=Tryz.sizeOf373,
  v25:=Tryz.zeroValue373,
  t39:=Tryz.underlying172,
  a39:=Tryz.isAgg172,
  z39:=Tryz.sizeOf172,
  v39:=Tryz.zeroValue172,
  t45:=Tryz.underlying318,
  a45:=Tryz.isAgg318,
  z45:=Tryz.sizeOf318,
  v45:=Tryz.zeroValue318,
  t46:=Tryz.underlying319,
  a46:=Tryz.isAgg319,
  z46:=Tryz.sizeOf319,
  v46:=Tryz.zeroValue319,
  t50:=Tryz.underlying288,
  a50:=Tryz.isAgg288,
  z50:=Tryz.sizeOf288,
  v50:=Tryz.zeroValue288,
  t53:=Tryz.underlying90,
  a53:=Tryz.isAgg90,
  z53:=Tryz.sizeOf90,
  v53:=Tryz.zeroValue90,
  t55:=Tryz.underlying327,
  a55:=Tryz.isAgg327,
  z55:=Tryz.sizeOf327,
  v55:=Tryz.zeroValue327,
  t66:=Tryz.underlying343,
  a66:=Tryz.isAgg343,
  z66:=Tryz.sizeOf343,
  v66:=Tryz.zeroValue343,
  t70:=Tryz.underlying309,
  a70:=Tryz.isAgg309,
  z70:=Tryz.sizeOf309,
  v70:=Tryz.zeroValue309,
  t76:=Tryz.underlying355,
  a76:=Tryz.isAgg355,
  z76:=Tryz.sizeOf355,
  v76:=Tryz.zeroValue355,
  t77:=Tryz.underlying356,
  a77:=Tryz.isAgg356,
  z77:=Tryz.sizeOf356,
  v77:=Tryz.zeroValue356 }
end Go.Proofs
namespace Go.Proofs.YtkaikaodhegmhaaGreat.E
open Go Go.Proofs Go.RowKit Go.Maps Go.Shelf Go.Sort
set_option linter.unusedVariables false
set_option linter.unusedSimpArgs false
theorem tret_new (τ:Nat) {P:Program} {f:FuncId} {args:Array Value} {s:TH} {Q:Value->TH->Prop}
  (h: ∀w:World,w.heap=s.h->Calls P f args w fun e w'=>∃v,e=.returned v/\Go.RowKit.Below w.heap.size w w'/\Q v ⟨w'.heap,fun j=>if j<s.h.size then s.g j else τ⟩):
  TRet P f args s fun v s'=>Q v s'/\Ch [] s s':=fun w hw=>
 (h w hw).mono fun e w' ⟨v,he,hb,hq⟩=>⟨⟨v,⟨w'.heap,fun j=>if j<s.h.size then s.g j else τ⟩,he,rfl,hq,⟨by rw [←hw];exact hb.size,fun j hj=>by simp [hj],fun j hj _=>by rw [←hw];exact hb.block j (by rw [hw];exact hj)⟩⟩,⟨hb.os,hb.tape,hb.output⟩⟩
theorem own_of_row {w':World} {B e k n:Nat} {v:Value} {xs:List Value} {τ:Nat} {g:Nat->Nat} (h:w'.ownsRow B e k v n xs) (hg: ∀j,B<=j->g j=τ): ∃a c,v=.slice a n c/\Own ⟨w'.heap,g⟩ a n c e k xs τ/\∀b,a=some b->B<=b.block:=by
 rcases h.2 with ⟨rfl,rfl⟩|⟨b,cap,cur,rfl,hb,hc,h1,h2,h3,h4⟩
 ·exact ⟨none,0,rfl,⟨h.1,.inl ⟨rfl,rfl,rfl⟩⟩,fun b hb=>by cases hb⟩
 exact ⟨_,cap,rfl,⟨h.1,.inr ⟨b,0,cur.toList,rfl,⟨by simpa using hc,hg b hb⟩,h1,h2,by simp [h3],by simpa using h4⟩⟩,fun b hb=>by cases hb;assumption⟩
def inI64 (x:Int):Prop:= -9223372036854775808<=x/\x<=9223372036854775807
theorem wf_i64 {x:Int} (h:inI64 x):(Lit.int .i64 x).wf=true:=by
 unfold inI64 at h
 have e1:IntKind.i64.min= -9223372036854775808:=by decide
 have e2:IntKind.i64.max=9223372036854775807:=by decide
 simp only [Lit.wf,e1,e2,Bool.and_eq_true,decide_eq_true_eq]
 exact h
theorem owns_of {P:Program} {K:TypeId} (hK:P.underlying K=some (.int .i64)) {s:TH} {r τ:Nat} {m:List (Int×Value)} (h:MapK (Value.int .i64) s r m τ) (w:World) (hw:w.heap=s.h) (hn:m.length<=17592186044416) (hk: ∀k∈m.map (·.1),inI64 k):
  ∃D0:DataW Unit,w.ownsMap P K (fun _=>some (.nil,[])) r m.length D0/\(intKeys D0).Perm (m.map (·.1))/\Go.Maps.size D0=m.length:=by
 obtain ⟨es,ck,hg,he⟩:=h.get
 have hlen:es.length=m.length:=by have:=congrArg List.length he.key;simpa using this
 have hread: ∀x∈es,∃k,x.key=.int .i64 k/\inI64 k:=fun x hx=>by
  have:x.key∈es.map (·.key):=List.mem_map.2 ⟨x,hx,rfl⟩
  rw [he.key] at this
  obtain ⟨p,hp,hpx⟩:=List.mem_map.1 this
  exact ⟨p.1,hpx.symm,hk _ (List.mem_map.2 ⟨p,hp,rfl⟩)⟩
 have hrd: ∀(x:MapEntry) (k:Int),x.key=.int .i64 k->inI64 k->Go.WideElems.rd (H:=Unit) P K (fun _=>some (.nil,[])) x=some (.int .i64 k,.nil):=fun x k hx hk=>by
  obtain ⟨xk,xv,xb⟩:=x
  cases hx
  exact Go.WideElems.rd_mk (R:=fun _=>some (.nil,[])) (yv:=(.nil,[])) (keyOf_int_mk hK (wf_i64 hk)) rfl
 have hnd:(es.map (·.key)).Nodup:=by
  rw [he.key]
  exact List.pairwise_map.2 ((List.pairwise_map.1 h.nd).imp fun {a b} hab=>by simpa using hab)
 refine ⟨.map ((es.map (Go.WideElems.rg P K (fun _=>some (.nil,[])))).foldr DataW.insert []),⟨es.toArray,ck,by rw [hw];exact hg,⟨by unfold maxLen;simp;omega,⟨by simpa using he.old,by simpa using he.born,by simpa using hnd⟩,?_⟩,by simp;omega,by simp⟩,?_,?_⟩
 ·intro x hx
  obtain ⟨k,h1,h2⟩:=hread x (by simpa using hx)
  exact ⟨_,hrd x k h1 h2⟩
 ·have hp:=Go.WideShapes.sorted_perm (es.map (Go.WideElems.rg (H:=Unit) P K (fun _=>some (.nil,[]))))
  have hq:=hp.map (fun p=>Go.intOf p.1)
  refine hq.trans (List.Perm.of_eq ?_)
  rw [List.map_map]
  have e1:es.map ((fun p:Lit×DataW Unit=>Go.intOf p.1) ∘ Go.WideElems.rg P K (fun _=>some (.nil,[])))=es.map (fun x=>match x.key with|.int _ k=>k|_=>0):=by
   apply List.map_congr_left
   intro x hx
   obtain ⟨k,h1,h2⟩:=hread x hx
   simp only [Function.comp,Go.WideElems.rg_of (hrd x k h1 h2),h1]
   rfl
  rw [e1]
  have e2:es.map (fun x=>match x.key with|.int _ k=>k|_=>0)=(es.map (·.key)).map (fun v=>match v with|.int _ k=>k|_=>0):=by rw [List.map_map];rfl
  rw [e2,he.key,List.map_map]
  rfl
 ·show (List.foldr DataW.insert [] _).length=_
  rw [(Go.WideShapes.sorted_perm _).length_eq,List.length_map,hlen]
theorem c_collect (τ:Nat) (Bm r tb τb τm:Nat) {m:List (Int×Value)} {s:TH} (hB:Blk s Bm [.map (some r)] tb τb) (hm:MapK (Value.int .i64) s r m τm) (hn:m.length<=17592186044416) (hk: ∀k∈m.map (·.1),inI64 k):
  TRet Tryz.prog 288 #[.func (.func 343) #[] #[.pointer (some ⟨Bm,0,none⟩)]] s fun v s'=>(∃a c ss,v=.slice a m.length c/\ss.Perm (m.map (·.1))/\Own s' a m.length c 3 1 (ivs ss) τ/\∀b,a=some b->s.h.size<=b.block)/\Ch [] s s':=
 tret_new τ fun w hw=>by
  have hm0:w.cell? ⟨Bm,0,none⟩=some (.map (some r)):=by rw [cell_eq,hw];exact hB.cell 0
  obtain ⟨D0,ho,hp,hsz⟩:=owns_of (P:=Tryz.prog) (K:=3) (by kernel_rfl) hm w hw hn hk
  have hseq:SeqGives Fence.wide 4 Tryz.prog 343 #[.pointer (some ⟨Bm,0,none⟩)] encZ (fun ss:List Int=>ss.Perm (intKeys D0)) (Go.Maps.size D0) w:=
   AnyZI.keys_gives (ρ:=Tryz.keysA_ren) { Tryz.keysA with } Fence.wide 4 trivial rfl (by omega) Bm r m.length D0 w (by rw [hw];exact hB.lt) hm0 ho
  have h:=AnyZI.collect_in (ρ:=Tryz.collectA_ren) Tryz.collectA Fence.wide 6 trivial trivial rfl (by omega) 343 #[.pointer (some ⟨Bm,0,none⟩)] trivial (enters_of Tryz.func343 (by kernel_rfl) rfl) _ (Go.Maps.size D0) (by rw [hsz];unfold maxLen;omega) (by rw [hsz];omega) w hseq
  refine ((callsIn_wide (n:=6)).1 h).mono ?_
  rintro e w' ⟨v,ss,rfl,hs,hrow,hv,hb⟩
  have hp2:=hs.trans hp
  have hl:ss.length=m.length:=by rw [hp2.length_eq];simp
  obtain ⟨a,c,rfl,hO,hnew⟩:=own_of_row (g:=fun j=>if j<s.h.size then s.g j else τ) (τ:=τ) hrow (fun j hj=>by rw [if_neg (by rw [←hw];omega)])
  rw [hl] at hO ⊢
  exact ⟨_,rfl,hb,a,c,ss,rfl,hp2,hO,by rw [←hw];exact hnew⟩
end Go.Proofs.YtkaikaodhegmhaaGreat.E
