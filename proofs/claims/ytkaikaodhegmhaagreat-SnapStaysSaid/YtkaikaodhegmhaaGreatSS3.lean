/- My own texts, joined. -/
import Derived.KernelRfl
import Derived.Laws.Externs
import Derived.Lib.MakeNoZero
import Derived.Test.YtkaikaodhegmhaaGreatProg
import Derived.Test.YtkaikaodhegmhaaGreatSS2
namespace Go.Proofs.YtkaikaodhegmhaaGreat.E
open Go
set_option linter.unusedVariables false
set_option linter.unusedSimpArgs false
theorem rngn {s:TH} {T:Nat} {L:List Nat} (h: ∀τ∈L,τ<T∨T+10<=τ): ∀j,j<s.h.size->T<=s.g j->s.g j<T+10->¬s.g j∈L:=fun j _ h1 h2 h3=>by have:=h _ h3;omega
theorem rngL {s:TH} {T:Nat} {L R:List Nat} (h: ∀τ∈L,τ<T∨T+10<=τ) (hr: ∀r∈R,s.g r<T∨T+10<=s.g r): ∀j,j<s.h.size->T<=s.g j->s.g j<T+10->¬(s.g j∈L∨j∈R):=fun j _ h1 h2 h3=>by
 rcases h3 with h3|h3
 ·have:=h _ h3;omega
 have:=hr _ h3;omega
theorem rngO {s:TH} {T r:Nat} (h:s.g r<T∨T+10<=s.g r): ∀j,j<s.h.size->T<=s.g j->s.g j<T+10->¬j=r:=fun j _ h1 h2 h3=>by subst h3;omega
theorem of_rng {s:TH} {T τ:Nat} {B:Nat->Prop} (hn: ∀j,j<s.h.size->T<=s.g j->s.g j<T+10->¬B j) (h1:T<=τ) (h2:τ<T+10): ∀j,j<s.h.size->s.g j=τ->¬B j:=fun j hj e=>hn j hj (by omega) (by omega)
section
variable {α :Type} {f:α->List Value} {k:Nat}
theorem fm_get (hf: ∀x,(f x).length=k): ∀(l:List α) (i j:Nat) (x:α),l[i]? =some x->j<k->(l.flatMap f)[i*k+j]? =(f x)[j]?
 |[],i,j,x,h,_=>by simp at h
 |y::l,0,j,x,h,hj=>by
  simp at h;subst h
  simp only [List.flatMap_cons,Nat.zero_mul,Nat.zero_add]
  rw [List.getElem?_append_left (by rw [hf];exact hj)]
 |y::l,i+1,j,x,h,hj=>by
  simp only [List.flatMap_cons,Nat.add_mul,Nat.one_mul]
  rw [List.getElem?_append_right (by rw [hf];omega),hf,show i*k+k+j - k=i*k+j by omega]
  exact fm_get hf l i j x (by simpa using h) hj
theorem fm_take (hf: ∀x,(f x).length=k): ∀(l:List α) (i:Nat),(l.flatMap f).take (i*k)=(l.take i).flatMap f
 |[],i=>by simp
 |x::l,0=>by simp
 |x::l,i+1=>by
  simp only [List.flatMap_cons,List.take_succ_cons,Nat.add_mul,Nat.one_mul]
  rw [List.take_append,hf,List.take_of_length_le (by rw [hf];omega),show i*k+k - k=i*k by omega,fm_take hf l i]
theorem fm_drop (hf: ∀x,(f x).length=k): ∀(l:List α) (i:Nat),(l.flatMap f).drop (i*k)=(l.drop i).flatMap f
 |[],i=>by simp
 |x::l,0=>by simp
 |x::l,i+1=>by
  simp only [List.flatMap_cons,List.drop_succ_cons,Nat.add_mul,Nat.one_mul]
  rw [List.drop_append,hf,List.drop_of_length_le (by rw [hf];omega),show i*k+k - k=i*k by omega,fm_drop hf l i,List.nil_append]
end
section
variable {s :TH} {a:Addr} {l:List Value} {τ:Nat} {v:Value} {k:Value->Prop}
theorem Sl.get (h:Sl s (some a) l τ) {j:Nat} (hv:l[j]? =some v):cellH s.h (a.add j)=some v:=by
 rcases h with rfl|⟨g,o,h1,h2,h3,h4⟩
 ·simp at hv
 cases h1
 have hadd:(⟨g,o,none⟩:Addr).add j=⟨g,o+j,none⟩:=by unfold Addr.add;split<;>simp_all
 rw [hadd];exact h4 j v hv
theorem ld_sl {j:Nat} (h:Sl s (some a) l τ) (hv:l[j]? =some v) (hk:k v):ld s.h (a.add j) k:=ld_i (h.get hv) hk
theorem add_add {l:List Value} (h:Sl s (some a) l τ) {x y:Nat} (hv:l[x+y]? =some v):(a.add x).add y=a.add (x+y):=by
 rcases h with rfl|⟨g,o,h1,h2,h3⟩
 ·simp at hv
 cases h1
 unfold Addr.add
 by_cases hx:x=0<;>by_cases hy:y=0<;>simp [hx,hy]<;>omega
theorem ld_sl2 {x y:Nat} (h:Sl s (some a) l τ) (hv:l[x+y]? =some v) (hk:k v):ld s.h ((a.add x).add y) k:=by
 rw [add_add h hv];exact ld_sl h hv hk
theorem Sl.some {a:Option Addr} {l:List Value} (h:Sl s a l τ) (hl:l≠[]): ∃b,a=.some b:=by
 rcases h with h|⟨g,o,h1,h2,h3⟩
 ·exact absurd h hl
 exact ⟨_,h1⟩
end
theorem Own.st {s:TH} {a:Addr} {n c e k:Nat} {xs:List Value} {τ j:Nat} {v:Value} {K:Heap->Prop} (h:Own s (some a) n c e k xs τ) (h1:oneC v=true) (hj:j<n*k)
  (hk: ∀s':TH,Own s' (some a) n c e k (xs.set j v) τ->On a.block s s'->s.h.size=s'.h.size->K s'.h):st s.h (a.add j) v K:=by
 rcases h.2 with ⟨h0,_⟩|⟨g,o,L,h2,h3,h4,h5,h6,h7⟩
 ·cases h0
 ·cases h2
  have hadd:(⟨g,o,none⟩:Addr).add j=⟨g,o+j,none⟩:=by unfold Addr.add;split<;>simp_all
  rw [hadd]
  have hck:n*k<=c*k:=Nat.mul_le_mul_right k h4
  refine st_t h3 h1 (by omega) fun s' b1 b2 b3=>hk s' ⟨by rw [List.length_set];exact h.1,.inr ⟨g,o,_,rfl,b1,h4,h5,by rw [List.length_set];exact h6,?_⟩⟩ b2 b3
  rw [←h7]
  apply List.ext_getElem?
  intro i
  rw [List.getElem?_take,List.getElem?_drop]
  by_cases hi:i<n*k
  ·rw [if_pos hi]
   by_cases hij:i=j
   ·subst hij
    rw [List.getElem?_set_self (by omega),List.getElem?_set_self (by rw [List.length_take,List.length_drop];omega)]
   ·rw [List.getElem?_set_ne (by omega),List.getElem?_set_ne (by omega),List.getElem?_take,if_pos hi,List.getElem?_drop]
  ·rw [if_neg hi,List.getElem?_eq_none]
   rw [List.length_set,List.length_take];omega
theorem Own.tagOf {s:TH} {a:Addr} {n c e k:Nat} {xs:List Value} {τ:Nat} (h:Own s (some a) n c e k xs τ):s.g a.block=τ:=by
 rcases h.2 with ⟨h0,_⟩|⟨g,o,L,h2,h3,_⟩
 ·cases h0
 cases h2;exact h3.tag
theorem slO_zero (a:Option Addr) (k:Nat) (m:Int):slO a k 0 m=a:=by
 cases a with
 |none=>rfl
 |some a=>simp [slO,slA,Addr.add]
theorem clear_t {P:Program} {t ty e:TypeId} {E:List PanicEntry->Heap->Prop} {s:TH} {a:Option Addr} {n m c mc bytes k:Nat} {xs:List Value} {τ:Nat} {z:Value} {K:Value->Heap->Prop}
  (ht:P.underlying t=some (.slice e)) (hi:(P.info? e).map (fun i=>(i.zero,i.size,i.bytes))=some (some z,k,bytes)) (hzs:z.cells.size=k) (hz1: ∀u∈z.cells.toList,u.oneCell'=true)
  (hO:Own s a n c e k xs τ) (hm:n<=m) (hmc:m<=c)
  (hk: ∀s':TH,Own s' a n c e k xs τ->OnA a s s'->s.h.size=s'.h.size->K (.tuple #[]) s'.h):
  semW P (Builtin.clear_ #[t] ty #[.slice (slO a k (n:Int) (c:Int)) (m - n) mc]) E s.h K:=.mk fun w hw=>by
 obtain ⟨i,hi1,hi2,hi3,hi4⟩:=info_of hi
 by_cases h0:m - n=0
 ·have hr:(Builtin.clear_ #[t] ty #[.slice (slO a k (n:Int) (c:Int)) (m - n) mc]).run P w=.ok (.tuple #[]) w:=by
   rw [h0]
   cases slO a k (n:Int) (c:Int)<;>simp [Builtin.clear_,run_under ht]
  rw [hr]
  exact ⟨by rw [hw];exact hk s hO ⟨Nat.le_refl _,fun _ _=>rfl,fun _ _ _=>rfl⟩ rfl,Like.refl w⟩
 rcases hO.2 with ⟨_,h2,h3⟩|⟨g,o,L,rfl,h2,h3,h4,h5,h6⟩
 ·omega
 ·rw [slA_mk,if_neg (by omega)]
  obtain ⟨d,hd⟩: ∃d,m - n=d+1:=⟨m - n - 1,by omega⟩
  have hzl:(Builtin.zeroCells z.cells (m - n)).toList.length=(m - n)*k:=by simp [size_zeroCells,hzs]
  have hck:n*k+(m - n)*k<=c*k:=by rw [←Nat.add_mul];exact Nat.mul_le_mul_right k (by omega)
  have hst:=run_storeCells_at P g (o+n*k) e (Builtin.zeroCells z.cells (m - n)).toList 0 L.toArray w (by rw [hw];exact h2.get) (by rw [hzl];simp;omega) (by
   intro u hu
   simp only [Builtin.zeroCells,Array.toList_map,List.mem_map,Array.toList_range] at hu
   obtain ⟨j,hj,rfl⟩:=hu
   have hj:j<(m - n)*z.cells.size:=by simpa using hj
   have hp:0<z.cells.size:=by
    rcases Nat.eq_zero_or_pos z.cells.size with h|h
    ·rw [h] at hj;omega
    ·exact h
   apply hz1
   rw [getElem!_pos z.cells (j%z.cells.size) (Nat.mod_lt _ hp)]
   simp)
  simp only [Nat.add_zero] at hst
  have hr:(Builtin.clear_ #[t] ty #[.slice (some ⟨g,o+n*k,none⟩) (m - n) mc]).run P w=.ok (.tuple #[]) (w.setRow g ((L.toArray.toList.take (o+n*k))++(Builtin.zeroCells z.cells (m - n)).toList++L.toArray.toList.drop (o+n*k+(Builtin.zeroCells z.cells (m - n)).toList.length)).toArray):=by
   rw [hd] at hst ⊢
   simp only [Builtin.clear_,Sem.run_bind,run_under ht]
   simp [run_under ht,zeroValue,run_typeInfo hi1,hi2,hst]
  rw [hr]
  simp only [List.toList_toArray,hzl]
  have hset:=setRow_heap w g L.toArray (L.take (o+n*k)++(Builtin.zeroCells z.cells (m - n)).toList++L.drop (o+n*k+(m - n)*k)).toArray e (0,0) (by rw [hw];exact h2.get)
  have hK:=hk ⟨(w.setRow g (L.take (o+n*k)++(Builtin.zeroCells z.cells (m - n)).toList++L.drop (o+n*k+(m - n)*k)).toArray).heap,s.g⟩ ⟨hO.1,.inr ⟨g,o,_,rfl,⟨hset,h2.tag⟩,h3,h4,?_,?_⟩⟩ ⟨by simp [←hw],fun _ _=>rfl,fun j hj hn=>?_⟩ (by simp [←hw])
  ·exact ⟨hK,rfl,rfl,rfl⟩
  ·simp only [List.length_append,List.length_take,List.length_drop,hzl];omega
  ·rw [←h6,List.append_assoc,List.drop_append_of_le_length (by simp;omega),List.drop_take,List.take_append_of_le_length (by simp;omega),List.take_take]
   congr 1;omega
  ·show (w.setRow g _).heap[j]? =_
   rw [setRow_other w g j _ (fun e=>hn (by simp [e])),hw]
end Go.Proofs.YtkaikaodhegmhaaGreat.E
namespace Go.Proofs.YtkaikaodhegmhaaGreat.E
open Go
set_option linter.unusedVariables false
set_option linter.unusedSimpArgs false
theorem wrap_u64 (x:Int):IntKind.u64.wrap x=x%18446744073709551616:=rfl
def ivs (l:List Int):List Value:=l.map (Value.int .i64)
theorem ivs_len (l:List Int):(ivs l).length=l.length:=by simp [ivs]
theorem ivs_one (l:List Int): ∀u∈ivs l,u.oneCell'=true:=by intro u hu;simp [ivs] at hu;obtain ⟨b,_,rfl⟩:=hu;rfl
theorem ivs_get {l:List Int} {k:Nat} {x:Int} (h:l[k]? =some x):(ivs l)[k]? =some (.int .i64 x):=by simp [ivs,h]
theorem ivs_take (l:List Int) (n:Nat):(ivs l).take n=ivs (l.take n):=by simp [ivs]
theorem ivs_drop (l:List Int) (n:Nat):(ivs l).drop n=ivs (l.drop n):=by simp [ivs]
theorem ivs_app (l m:List Int):ivs (l++m)=ivs l++ivs m:=by simp [ivs]
theorem Own.ne_none {s:TH} {a:Option Addr} {n c e k:Nat} {xs:List Value} {τ:Nat} (h:Own s a n c e k xs τ) (hn:0<n): ∃b,a=some b:=by
 cases a with
 |none=>have:=h.none_iff rfl;omega
 |some b=>exact ⟨b,rfl⟩
theorem Sl.ne_none {s:TH} {a:Option Addr} {xs:List Value} {τ:Nat} (h:Sl s a xs τ) (hn:0<xs.length): ∃b,a=.some b:=h.some (fun e=>by rw [e] at hn;cases hn)
end Go.Proofs.YtkaikaodhegmhaaGreat.E
namespace Go.Proofs.YtkaikaodhegmhaaGreat.E
open Go Go.Proofs
set_option linter.unusedVariables false
set_option linter.unusedSimpArgs false
theorem u118 :Tryz.prog.underlying 118=some (.map 3 3):=by kernel_rfl
theorem u208 :Tryz.prog.underlying 208=some (.map 3 263):=by kernel_rfl
theorem z3 (w:World):(zeroValue 3).run Tryz.prog w=.ok (.int .i64 0) w:=by kernel_rfl
theorem z4 (w:World):(zeroValue 4).run Tryz.prog w=.ok (.bool false) w:=by kernel_rfl
theorem z5 (w:World):(zeroValue 5).run Tryz.prog w=.ok (.int .u8 0) w:=by kernel_rfl
theorem u3 :Tryz.prog.underlying 3=some (.int .i64):=by kernel_rfl
theorem u5 :Tryz.prog.underlying 5=some (.int .u8):=by kernel_rfl
theorem u22 :Tryz.prog.underlying 22=some (.slice 49):=by kernel_rfl
theorem z22 (w:World):(zeroValue 22).run Tryz.prog w=.ok (.slice none 0 0) w:=by kernel_rfl
theorem u33 :Tryz.prog.underlying 33=some (.slice 3):=by kernel_rfl
theorem z33 (w:World):(zeroValue 33).run Tryz.prog w=.ok (.slice none 0 0) w:=by kernel_rfl
theorem z39 (w:World):(zeroValue 39).run Tryz.prog w=.ok (.pointer none) w:=by kernel_rfl
theorem z46 (w:World):(zeroValue 46).run Tryz.prog w=.ok (.slice none 0 0) w:=by kernel_rfl
theorem u49 :Tryz.prog.underlying 49=some (.slice 5):=by kernel_rfl
theorem z49 (w:World):(zeroValue 49).run Tryz.prog w=.ok (.slice none 0 0) w:=by kernel_rfl
theorem z53 (w:World):(zeroValue 53).run Tryz.prog w=.ok (.pointer none) w:=by kernel_rfl
theorem u119 :Tryz.prog.underlying 119=some (.slice 197):=by kernel_rfl
theorem u137 :Tryz.prog.underlying 137=some (.slice 163):=by kernel_rfl
theorem u140 :Tryz.prog.underlying 140=some (.slice 202):=by kernel_rfl
theorem z183 (w:World):(zeroValue 183).run Tryz.prog w=.ok (.pointer none) w:=by kernel_rfl
theorem u189 :Tryz.prog.underlying 189=some (.slice 188):=by kernel_rfl
theorem u211 :Tryz.prog.underlying 211=some (.slice 277):=by kernel_rfl
theorem z263 (w:World):(zeroValue 263).run Tryz.prog w=.ok (.pointer none) w:=by kernel_rfl
theorem in5 :(Tryz.prog.info? 5).map (fun i=>(i.zero,i.size,i.bytes))=some (some (.int .u8 0),1,1):=by kernel_rfl
theorem in3 :(Tryz.prog.info? 3).map (fun i=>(i.zero,i.size,i.bytes))=some (some (.int .i64 0),1,8):=by kernel_rfl
theorem in49 :(Tryz.prog.info? 49).map (fun i=>(i.zero,i.size,i.bytes))=some (some (.slice none 0 0),1,24):=by kernel_rfl
theorem in197 :(Tryz.prog.info? 197).map (fun i=>(i.zero,i.size,i.bytes))=some (some (.agg #[.int .i64 0,.int .i64 0,.slice none 0 0]),3,40):=by kernel_rfl
theorem keyI :KeyOk Tryz.prog 3 (Value.int .i64):=keyInt u3
end Go.Proofs.YtkaikaodhegmhaaGreat.E
namespace Go.Proofs.YtkaikaodhegmhaaGreat.E
open Go Go.Proofs
set_option linter.unusedVariables false
set_option linter.unusedSimpArgs false
structure SentM where
 id:Int
 blk:Int
 by_:List UInt8
structure DiskM where
 blocks:List (List UInt8)
 queue:List SentM
 fails:Int->Int
 last:Int
def DiskM.has (D:DiskM) (b:Int):Prop:=0<=b/\b<D.blocks.length
instance (D : DiskM) (b : Int) : Decidable (D.has b) := by unfold DiskM.has; infer_instance
abbrev Hd :=Option Addr×Nat
def hv (n:Nat) (p:Hd):Value:=.slice p.1 n p.2
def hd1 (p:Hd):List Value:=[.slice p.1 128 p.2]
def qv (q:Int×Int×Hd):List Value:=[.int .i64 q.1,.int .i64 q.2.1,.slice q.2.2.1 128 q.2.2.2]
theorem hd1_len (p:Hd):(hd1 p).length=1:=rfl
theorem qv_len (q:Int×Int×Hd):(qv q).length=3:=rfl
structure ByAt (s:TH) (τ:Nat) (p:Hd) (b:List UInt8):Prop where
 sl:Sl s p.1 (bvs b) τ
 len:b.length=128
theorem ByAt.mv {s s':TH} {τ:Nat} {p:Hd} {b:List UInt8} {C:Nat->Prop} (h:ByAt s τ p b) (c:Chg C s s') (hn: ∀j,j<s.h.size->s.g j=τ->¬C j):ByAt s' τ p b:=⟨h.sl.mv c hn,h.len⟩
theorem ByAt.ne {s:TH} {τ:Nat} {p:Hd} {b:List UInt8} (h:ByAt s τ p b): ∃a,p.1=some a:=h.sl.some fun e=>by have:=congrArg List.length e;rw [bvs_len,h.len] at this;cases this
structure BRel (s:TH) (τ:Nat) (hs:List Hd) (bs:List (List UInt8)):Prop where
 len:hs.length=bs.length
 at_: ∀(i:Nat) (p:Hd) (b:List UInt8),hs[i]? =some p->bs[i]? =some b->ByAt s τ p b
structure QRel (s:TH) (τ:Nat) (qs:List (Int×Int×Hd)) (q:List SentM):Prop where
 len:qs.length=q.length
 at_: ∀(i:Nat) (x:Int×Int×Hd) (m:SentM),qs[i]? =some x->q[i]? =some m->x.1=m.id/\x.2.1=m.blk/\ByAt s τ x.2.2 m.by_
theorem BRel.mv {s s':TH} {τ:Nat} {hs:List Hd} {bs:List (List UInt8)} {C:Nat->Prop} (h:BRel s τ hs bs) (c:Chg C s s') (hn: ∀j,j<s.h.size->s.g j=τ->¬C j):BRel s' τ hs bs:=⟨h.len,fun i p b h1 h2=>(h.at_ i p b h1 h2).mv c hn⟩
theorem QRel.mv {s s':TH} {τ:Nat} {hs:List (Int×Int×Hd)} {bs:List SentM} {C:Nat->Prop} (h:QRel s τ hs bs) (c:Chg C s s') (hn: ∀j,j<s.h.size->s.g j=τ->¬C j):QRel s' τ hs bs:=⟨h.len,fun i p b h1 h2=>⟨(h.at_ i p b h1 h2).1,(h.at_ i p b h1 h2).2.1,(h.at_ i p b h1 h2).2.2.mv c hn⟩⟩
theorem qcell0 {qs:List (Int×Int×Hd)} {m:Nat} {x:Int×Int×Hd} (h:qs[m]? =some x):(qs.flatMap qv)[m*3]? =some (.int .i64 x.1):=fm_get qv_len qs m 0 x h (by omega)
theorem qcell1 {qs:List (Int×Int×Hd)} {m:Nat} {x:Int×Int×Hd} (h:qs[m]? =some x):(qs.flatMap qv)[m*3+1]? =some (.int .i64 x.2.1):=fm_get qv_len qs m 1 x h (by omega)
theorem qcell2 {qs:List (Int×Int×Hd)} {m:Nat} {x:Int×Int×Hd} (h:qs[m]? =some x):(qs.flatMap qv)[m*3+2]? =some (.slice x.2.2.1 128 x.2.2.2):=fm_get qv_len qs m 2 x h (by omega)
theorem bcell {hs:List Hd} {m:Nat} {x:Hd} (h:hs[m]? =some x):(hs.flatMap hd1)[m]? =some (.slice x.1 128 x.2):=by
 have:=fm_get hd1_len hs m 0 x h (by omega);simpa [hd1] using this
def ixr {α:Type} (p:α->Bool):List α->Nat->Int
 |[],_=> -1
 |x::l,i=>if p x=true then (i:Int) else ixr p l (i+1)
def ixf {α:Type} (p:α->Bool) (l:List α):Int:=ixr p l 0
theorem ixr_some {α:Type} {p:α->Bool}: ∀(l:List α) (i k:Nat) (x:α),l[k]? =some x->p x=true->(∀(j:Nat) (y:α),j<k->l[j]? =some y->p y=false)->ixr p l i=((i+k:Nat):Int)
 |[],i,k,x,h,_,_=>by simp at h
 |y::l,i,0,x,h,hp,_=>by simp at h;subst h;simp [ixr,hp]
 |y::l,i,k+1,x,h,hp,ha=>by
  have:=ha 0 y (by omega) (by simp)
  rw [ixr,if_neg (by simp [this]),ixr_some l (i+1) k x (by simpa using h) hp (fun j z hj hz=>ha (j+1) z (by omega) (by simpa using hz))]
  omega
theorem ixr_none {α:Type} {p:α->Bool}: ∀(l:List α) (i:Nat),(∀(j:Nat) (y:α),j<l.length->l[j]? =some y->p y=false)->ixr p l i= -1
 |[],i,_=>rfl
 |y::l,i,ha=>by
  have:=ha 0 y (by simp) (by simp)
  rw [ixr,if_neg (by simp [this])]
  exact ixr_none l (i+1) fun j z hj hz=>ha (j+1) z (by simpa using hj) (by simpa using hz)
theorem ixf_some {α:Type} {p:α->Bool} {l:List α} {k:Nat} {x:α} (h:l[k]? =some x) (hp:p x=true) (ha: ∀(j:Nat) (y:α),j<k->l[j]? =some y->p y=false):ixf p l=(k:Int):=by
 have:=ixr_some l 0 k x h hp ha;simpa [ixf] using this
theorem ixf_none {α:Type} {p:α->Bool} {l:List α} (ha: ∀(j:Nat) (y:α),j<l.length->l[j]? =some y->p y=false):ixf p l= -1:=ixr_none l 0 ha
theorem ixf_cases {α:Type} (p:α->Bool): ∀(l:List α),(ixf p l= -1/\∀x∈l,p x=false)∨∃(k:Nat) (x:α),ixf p l=k/\l[k]? =some x/\p x=true:=by
 intro l
 by_cases h: ∀x∈l,p x=false
 ·left;exact ⟨ixf_none fun j y hj hy=>h y (List.mem_of_getElem? hy),h⟩
 right
 have: ∃k x,l[k]? =some x/\p x=true/\∀(j:Nat) (y:α),j<k->l[j]? =some y->p y=false:=by
  induction l with
  |nil=>simp at h
  |cons y l ih=>
   by_cases hy:p y=true
   ·exact ⟨0,y,by simp,hy,fun j z hj=>by omega⟩
   obtain ⟨k,x,h1,h2,h3⟩:=ih (by intro h';apply h;intro x hx;rcases List.mem_cons.1 hx with rfl|hx<;>first|exact h' _ hx|simpa using hy)
   refine ⟨k+1,x,by simpa using h1,h2,fun j z hj hz=>?_⟩
   cases j with
   |zero=>simp at hz;subst hz;simpa using hy
   |succ j=>exact h3 j z (by omega) (by simpa using hz)
 obtain ⟨k,x,h1,h2,h3⟩:=this
 exact ⟨k,x,ixf_some h1 h2 h3,h1,h2⟩
theorem ixr_rel {s:TH} {τ:Nat} (p:Int×Int×Hd->Bool) (q:SentM->Bool) (hpq: ∀x m,x.1=m.id->x.2.1=m.blk->p x=q m): ∀(qs:List (Int×Int×Hd)) (l:List SentM) (i:Nat),QRel s τ qs l->ixr p qs i=ixr q l i
 |[],[],i,_=>rfl
 |[],_::_,i,h=>by have:=h.len;simp at this
 |_::_,[],i,h=>by have:=h.len;simp at this
 |x::qs,m::l,i,h=>by
  have h0:=h.at_ 0 x m (by simp) (by simp)
  rw [ixr,ixr,hpq x m h0.1 h0.2.1,ixr_rel p q hpq qs l (i+1) ⟨by have:=h.len;simpa using this,fun j y n hy hn=>h.at_ (j+1) y n (by simpa using hy) (by simpa using hn)⟩]
theorem ixf_qrel {s:TH} {τ:Nat} {qs:List (Int×Int×Hd)} {l:List SentM} (h:QRel s τ qs l) (p:Int×Int×Hd->Bool) (q:SentM->Bool) (hpq: ∀x m,x.1=m.id->x.2.1=m.blk->p x=q m):ixf p qs=ixf q l:=ixr_rel p q hpq qs l 0 h
def DiskM.write (D:DiskM) (b:Int) (x:List UInt8):DiskM×Int×Int:=
 if ¬D.has b then (D,0,1)
 else if x.length≠128 then (D,0,1)
 else if ixf (fun m:SentM=>m.blk==b) D.queue>=0 then (D,0,21)
 else if 64<=D.queue.length then (D,0,3)
 else ({ D with queue:=D.queue++[⟨D.last+1,b,x⟩],last:=D.last+1 },D.last+1,0)
theorem write_1 {D:DiskM} {b:Int} {x:List UInt8} (h: ¬D.has b∨x.length≠128):D.write b x=(D,0,1):=by
 unfold DiskM.write
 by_cases h1:D.has b
 ·rw [if_neg (by simpa using h1),if_pos (h.resolve_left (by simpa using h1))]
 rw [if_pos h1]
theorem write_2 {D:DiskM} {b:Int} {x:List UInt8} (h:D.has b) (h2:x.length=128) (h3:ixf (fun m:SentM=>m.blk==b) D.queue>=0):D.write b x=(D,0,21):=by
 unfold DiskM.write;rw [if_neg (by simpa using h),if_neg (by simpa using h2),if_pos h3]
theorem write_3 {D:DiskM} {b:Int} {x:List UInt8} (h:D.has b) (h2:x.length=128) (h3: ¬ixf (fun m:SentM=>m.blk==b) D.queue>=0) (h4:64<=D.queue.length):D.write b x=(D,0,3):=by
 unfold DiskM.write;rw [if_neg (by simpa using h),if_neg (by simpa using h2),if_neg h3,if_pos h4]
theorem write_4 {D:DiskM} {b:Int} {x:List UInt8} (h:D.has b) (h2:x.length=128) (h3: ¬ixf (fun m:SentM=>m.blk==b) D.queue>=0) (h4: ¬ 64<=D.queue.length):D.write b x=({ D with queue:=D.queue++[⟨D.last+1,b,x⟩],last:=D.last+1 },D.last+1,0):=by
 unfold DiskM.write;rw [if_neg (by simpa using h),if_neg (by simpa using h2),if_neg h3,if_neg h4]
theorem one_fm (qs:List (Int×Int×Hd)) (i:Nat): ∀u∈(qs.flatMap qv).drop i,u.oneCell'=true:=by
 intro u hu
 have:=List.mem_of_mem_drop hu
 simp only [List.mem_flatMap,qv] at this
 obtain ⟨q,_,hq⟩:=this
 simp at hq
 rcases hq with rfl|rfl|rfl<;>rfl
def DiskM.complete (D:DiskM) (id:Int) (ok:Bool):DiskM×Int:=
 match D.queue[(ixf (fun m:SentM=>m.id==id) D.queue).toNat]? with
 |none=>(D,20)
 |some m=>if ixf (fun m:SentM=>m.id==id) D.queue<0 then (D,20)
  else if ok=false then ({ D with queue:=D.queue.eraseIdx (ixf (fun m:SentM=>m.id==id) D.queue).toNat },4)
  else ({ D with queue:=D.queue.eraseIdx (ixf (fun m:SentM=>m.id==id) D.queue).toNat,blocks:=D.blocks.set m.blk.toNat m.by_ },0)
theorem compl_1 {D:DiskM} {id:Int} {ok:Bool} (h:ixf (fun m:SentM=>m.id==id) D.queue<0):D.complete id ok=(D,20):=by
 unfold DiskM.complete;split
 ·rfl
 rw [if_pos h]
theorem compl_2 {D:DiskM} {id:Int} {i:Nat} {m:SentM} (h:ixf (fun m:SentM=>m.id==id) D.queue=i) (hm:D.queue[i]? =some m):D.complete id false=({ D with queue:=D.queue.eraseIdx i },4):=by
 unfold DiskM.complete;rw [h,Int.toNat_natCast,hm];simp only;rw [if_neg (by omega)];simp
theorem compl_3 {D:DiskM} {id:Int} {i:Nat} {m:SentM} (h:ixf (fun m:SentM=>m.id==id) D.queue=i) (hm:D.queue[i]? =some m):D.complete id true=({ D with queue:=D.queue.eraseIdx i,blocks:=D.blocks.set m.blk.toNat m.by_ },0):=by
 unfold DiskM.complete;rw [h,Int.toNat_natCast,hm];simp only;rw [if_neg (by omega),if_neg (by simp)]
theorem fm_set1 (hs:List Hd) (j:Nat) (p:Hd):(hs.flatMap hd1).set j (.slice p.1 128 p.2)=(hs.set j p).flatMap hd1:=by
 have e: ∀l:List Hd,l.flatMap hd1=l.map fun p=>.slice p.1 128 p.2:=fun l=>by induction l with|nil=>rfl|cons x l ih=>simp [hd1,ih]
 rw [e,e,List.map_set]
theorem BRel.set {s:TH} {τ:Nat} {hs:List Hd} {bs:List (List UInt8)} (h:BRel s τ hs bs) (j:Nat) {p:Hd} {b:List UInt8} (hp:ByAt s τ p b):BRel s τ (hs.set j p) (bs.set j b):=by
 refine ⟨by simp [h.len],fun i x y hx hy=>?_⟩
 rw [List.getElem?_set] at hx hy
 by_cases hij:j=i
 ·subst hij
  rw [if_pos rfl] at hx hy
  split at hx
  ·split at hy
   ·cases hx;cases hy;exact hp
   cases hy
  cases hx
 rw [if_neg hij] at hx hy;exact h.at_ i x y hx hy
theorem fm_erase {α:Type} {f:α->List Value} {k:Nat} (hf: ∀x,(f x).length=k) (l:List α) (i:Nat):(l.flatMap f).take (i*k)++(l.flatMap f).drop ((i+1)*k)=(l.eraseIdx i).flatMap f:=by
 rw [fm_take hf,fm_drop hf, ←List.flatMap_append,List.eraseIdx_eq_take_drop_succ]
theorem QRel.erase {s:TH} {τ:Nat} {qs:List (Int×Int×Hd)} {q:List SentM} (h:QRel s τ qs q) (i:Nat):QRel s τ (qs.eraseIdx i) (q.eraseIdx i):=by
 refine ⟨by simp [List.length_eraseIdx,h.len],fun j y n hy hn=>?_⟩
 rw [List.getElem?_eraseIdx] at hy hn
 split at hy
 ·rename_i hj;rw [if_pos hj] at hn;exact h.at_ j y n hy hn
 rename_i hj;rw [if_neg hj] at hn;exact h.at_ (j+1) y n hy hn
theorem QRel.snoc {s:TH} {τ:Nat} {qs:List (Int×Int×Hd)} {q:List SentM} (h:QRel s τ qs q) {x:Int×Int×Hd} {m:SentM} (hx:x.1=m.id/\x.2.1=m.blk/\ByAt s τ x.2.2 m.by_):QRel s τ (qs++[x]) (q++[m]):=by
 refine ⟨by simp [h.len],fun i y n hy hn=>?_⟩
 by_cases hi:i<q.length
 ·rw [List.getElem?_append_left (by rw [h.len];exact hi)] at hy
  rw [List.getElem?_append_left hi] at hn
  exact h.at_ i y n hy hn
 rw [List.getElem?_append_right (by rw [h.len];omega)] at hy
 rw [List.getElem?_append_right (by omega)] at hn
 rw [h.len] at hy
 cases hd:i - q.length with
 |zero=>rw [hd] at hy hn;simp at hy hn;subst hy hn;exact hx
 |succ k=>rw [hd] at hy;simp at hy
def FailsOk (fm:List (Int×Value)) (f:Int->Int):Prop:=∀b,(mget b fm).getD (.int .i64 0)=.int .i64 (f b)
structure DiskP (s:TH) (d T:Nat) (D:DiskM) (pa:Option Addr) (pc:Nat) (qa:Option Addr) (qc:Nat) (hs:List Hd) (qs:List (Int×Int×Hd)) (fr:Nat) (fm:List (Int×Value)):Prop where
 blk:Blk s d [.slice pa D.blocks.length pc,.slice qa D.queue.length qc,.map (some fr),.int .i64 D.last] 121 T
 rows:Own s pa D.blocks.length pc 49 1 (hs.flatMap hd1) (T+1)
 brel:BRel s (T+3) hs D.blocks
 que:Own s qa D.queue.length qc 197 3 (qs.flatMap qv) (T+2)
 qrel:QRel s (T+3) qs D.queue
 fails:MapK (Value.int .i64) s fr fm (T+4)
 fok:FailsOk fm D.fails
 nb:1<=D.blocks.length/\D.blocks.length<=2048
 nq:D.queue.length<=64
 qin: ∀m∈D.queue,0<=m.blk/\m.blk<D.blocks.length
def Disk (s:TH) (d T:Nat) (D:DiskM):Prop:=∃pa pc qa qc hs qs fr fm,DiskP s d T D pa pc qa qc hs qs fr fm
theorem DiskP.mv {s s':TH} {d T:Nat} {D:DiskM} {pa:Option Addr} {pc:Nat} {qa:Option Addr} {qc:Nat} {hs:List Hd} {qs:List (Int×Int×Hd)} {fr:Nat} {fm:List (Int×Value)} {C:Nat->Prop}
  (h:DiskP s d T D pa pc qa qc hs qs fr fm) (c:Chg C s s') (hn: ∀j,j<s.h.size->T<=s.g j->s.g j<T+10->¬C j):DiskP s' d T D pa pc qa qc hs qs fr fm:=
 ⟨h.blk.mv c (of_rng hn (Nat.le_refl _) (by omega) d h.blk.lt h.blk.tag),h.rows.mv c (of_rng hn (by omega) (by omega)),h.brel.mv c (of_rng hn (by omega) (by omega)),h.que.mv c (of_rng hn (by omega) (by omega)),h.qrel.mv c (of_rng hn (by omega) (by omega)),
  h.fails.mv c (of_rng hn (by omega) (by omega) fr h.fails.lt h.fails.tag),h.fok,h.nb,h.nq,h.qin⟩
theorem Disk.mv {s s':TH} {d T:Nat} {D:DiskM} {C:Nat->Prop} (h:Disk s d T D) (c:Chg C s s') (hn: ∀j,j<s.h.size->T<=s.g j->s.g j<T+10->¬C j):Disk s' d T D:=by
 obtain ⟨pa,pc,qa,qc,hs,qs,fr,fm,h⟩:=h
 exact ⟨pa,pc,qa,qc,hs,qs,fr,fm,h.mv c hn⟩
end Go.Proofs.YtkaikaodhegmhaaGreat.E
namespace Go.Proofs.YtkaikaodhegmhaaGreat.E
open Go Go.Proofs
set_option linter.unusedVariables false
set_option maxRecDepth 100000
def F4 (S T U:Value) (bi:Option Addr) (K b0:Nat) (bj:Option Addr) (L b1:Nat) (R:zE) (H:Heap):Prop:=
 al H (.cells #[S,T,U] 26) fun e J=>zl3 J e fun v3 v4 v5=>HCalls Tryz.prog 12 #[.agg #[v3,v4,v5]] J (Sp.retK (fun v6 H7=>dT 3 v6 fun v8 v9 bk=>dPtr v8 fun j=>dA 3 v9 fun bl bm bn=>dBl bk fun bo=>zs3 H7 e bl bm bn fun M=>sB (!bo) (R (.returned (.bool false)) M) (∃t:List Value->Heap->Prop,∃N:List Value->Heap->Nat,(t ([.int .i64 0]) M)/\∀c:Int,∀_ _ _ _ _ _ _ _ _ _ _ _ _ _ _ _:Value,∀h:Heap,(t ([.int .i64 c]) h)->sB (decide (c<(↑K:Int))) (nz bi fun s=>ask (0<=c/\c<(↑K:Int)) (ld h (Addr.add s (Int.toNat c*4)) fun br=>ld h (Addr.add (Addr.add s (Int.toNat c*4)) 1) fun bs=>ld h (Addr.add (Addr.add s (Int.toNat c*4)) 2) fun bt=>ld h (Addr.add (Addr.add s (Int.toNat c*4)) 3) fun bu=>al h (.cells #[.int .i64 0,.int .i64 0,.int .i64 0,.slice none 0 0] 51) fun i bv=>zs3 bv i br bs bt fun bz=>st bz ⟨i,3,none⟩ bu fun k=>jn (α:=VFH 1) (fun bA u=>∀_ _ _ _ _ _ _:Value,dBl bA fun bB=>sB bB (R (.returned (.bool false)) u) (wr .i64 (c+1) fun O=>(t ([.int .i64 O]) u)/\(N [.int .i64 O] u)<(N [.int .i64 c] h))) fun P=>sB (decide (c<20)) (zl3 k i fun bC bD bE=>ld k ⟨i,3,none⟩ fun bF=>HCalls Tryz.prog 13 #[.pointer j,.agg #[bC,bD,bE,bF]] k (Sp.retK (fun bG bH=>dBl bG fun bI=>P (.bool !bI) bH) (pnR R))) (P (.bool false) k))) (HCalls Tryz.prog 11 #[.pointer j] h (Sp.retK (fun bJ n=>dSl bJ fun bK bL bM=>nz j fun bN=>ld n (Addr.add bN 1) fun bO=>dPtr bO fun bP=>zl3 n e fun bQ
 bR bS=>HCalls Tryz.prog 14 #[.pointer bP,.agg #[bQ,bR,bS],.int .i64 1,.int .i64 65536] n (Sp.retK (fun bT Q=>dT 2 bT fun bU bV=>dPtr bU fun v=>dInt .i64 bV fun bW=>sB (bW != 0) (R (.returned (.bool false)) Q) (jn (α:=VFH 0) (fun o=>∀_ _ _ _ _ _ _ _ _ _ _ _ _ _ _ _ _ _ _ _ _ _ _ _ _ _ _ _ _ _ _ _ _ _ _ _ _ _ _ _:Value,nz j fun V=>ld o (Addr.add V 1) fun W=>dPtr W fun X=>zl3 o e fun Y Z aa=>HCalls Tryz.prog 14 #[.pointer X,.agg #[Y,Z,aa],.int .i64 2,.int .i64 5] o (Sp.retK (fun ab w=>dT 2 ab fun ac ad=>dPtr ac fun bX=>dInt .i64 ad fun ae=>jn (α:=VFH 1) (fun af f=>∀_ _ _ _ _ _ _ _ _ _ _:Value,dBl af fun ag=>sB ag (R (.returned (.bool false)) f) (nz j fun ah=>ld f (Addr.add ah 1) fun ai=>dPtr ai fun aj=>zl3 f e fun ak am an=>HCalls Tryz.prog 14 #[.pointer aj,.agg #[ak,am,an],.int .i64 2,.int .i64 5] f (Sp.retK (fun ao x=>dT 2 ao fun ap aq=>dPtr ap fun ar=>dInt .i64 aq fun au=>sB (au==0) (HCalls Tryz.prog 19 #[.pointer ar] x (Sp.retK (fun av aw=>dInt .i64 av fun ax=>R (.returned (.bool (ax==2))) aw) (pnR R))) (R (.returned (.bool false)) x)) nopR))) fun p=>sB (ae != 3) (p (.bool true) w) (HCalls Tryz.prog 18 #[.pointer v] w (Sp.retK (fun ay y=>dInt .i64 ay fun az=>sB (az != 0) (p (.bool true) y) (HCalls Tryz.prog 18 #[.pointer v] y (Sp.retK (fun aA aB=>dInt .i64 aA fun aC=>p (.bool (aC != 100)) aB) (pnR R)))) (pnR R)))) nopR)) fun z=>∃q:List Value->Heap->Prop,∃A:List Value->
 Heap->Nat,(q ([.int .i64 0]) Q)/\∀a:Int,∀_ _ _ _ _ _ _ _ _ _ _ _ _ _ _ _ _ _ _ _ _ _ _ _ _ _ _ _ _ _ _ _ _ _ _ _ _:Value,∀d:Heap,(q ([.int .i64 a]) d)->sB (decide (a<(↑L:Int))) (nz bj fun l=>ask (0<=a/\a<(↑L:Int)) (ld d (Addr.add l (Int.toNat a*4)) fun aD=>ld d (Addr.add (Addr.add l (Int.toNat a*4)) 1) fun aE=>ld d (Addr.add (Addr.add l (Int.toNat a*4)) 2) fun aF=>ld d (Addr.add (Addr.add l (Int.toNat a*4)) 3) fun aG=>al d (.cells #[.int .i64 0,.int .i64 0,.int .i64 0,.slice none 0 0] 51) fun b aH=>zs3 aH b aD aE aF fun aK=>st aK ⟨b,3,none⟩ aG fun g=>sB (decide (a>20)) (z g) (nz j fun B=>ld g (Addr.add B 1) fun aL=>dPtr aL fun C=>ld g ⟨b,1,none⟩ fun aM=>dInt .i64 aM fun D=>ld g ⟨b,2,none⟩ fun aN=>dInt .i64 aN fun E=>ld g ⟨b,3,none⟩ fun aO=>dSl aO fun aP aQ aR=>HCalls Tryz.prog 16 #[.slice aP aQ aR] g (Sp.retK (fun aS m=>dSl aS fun aT aU aV=>(ld m ⟨b,2,none⟩ fun aW=>dInt .i64 aW fun aX=>(Value.int IntKind.i64 aX)=(Value.int IntKind.i64 E))/\(ld m ⟨b,1,none⟩ fun aY=>dInt .i64 aY fun aZ=>(Value.int IntKind.i64 aZ)=(Value.int IntKind.i64 D))/\(ld m (Addr.add B 1) fun a0=>dPtr a0 fun a1=>(Value.pointer a1)=(Value.pointer C))/\HCalls Tryz.prog 15 #[.pointer C,.int .i64 D,.int .i64 E,.slice aT aU aV,.slice none 0 0] m (Sp.retK (fun a2 a3=>dT 2 a2 fun a4 a5=>dInt .i64 a4 fun bY=>dInt .i64 a5 fun bZ=>HCalls Tryz.prog 17 #[.pointer v] a3 (Sp.retK (fun a6 F=>dT 2
 a6 fun a7 a8=>dSl a7 fun a9 ba bb=>dInt .i64 a8 fun bc=>jn (α:=VFH 1) (fun bd r=>∀_ _ _ _ _ _ _:Value,dBl bd fun be=>sB be (R (.returned (.bool false)) r) (wr .i64 (a+1) fun G=>(q ([.int .i64 G]) r)/\(A [.int .i64 G] r)<(A [.int .i64 a] d))) fun I=>sB (bc != 0) (I (.bool true) F) (HCalls Tryz.prog 10 #[.slice a9 ba bb,.slice bK bL bM] F (Sp.retK (fun bf bg=>dBl bf fun bh=>I (.bool !bh) bg) (pnR R)))) (pnR R))) nopR)) nopR)))) (z d))) nopR)) (pnR R))))) (pnR R))
theorem F4_calls {R:zE} {H:Heap} (a b c:Value) (d:Option Addr) (e f:Nat) (g:Option Addr) (i j:Nat) (h:F4 a b c d e f g i j R H):HCalls Tryz.prog 4 #[.agg #[a,b,c],.slice d e f,.slice g i j] H R:=
 calls_by (.node none .leaf (.node none .leaf (.node none .leaf (.node none (.node none .leaf (.node none (.node (some ⟨[(29,3)],[6,9,10,30,31,32,33,34,35,36,37,38,39,40,41,42]⟩) (.node none .leaf (.node none .leaf (.node none (.node none (.node none .leaf (.node (some ⟨[(41,4)],[34,35,36,37,38,39,40]⟩) .leaf .leaf)) .leaf) .leaf))) .leaf) .leaf)) (.node none .leaf (.node none .leaf (.node none .leaf (.node (some ⟨[],[6,14,15,16,17,56,57,58,59,60,61,62,63,64,65,66,67,68,69,70,71,72,73,74,75,76,77,78,79,80,81,82,83,84,85,86,87,88,89,90]⟩) (.node none .leaf (.node none (.node (some ⟨[(58,3)],[6,14,15,16,17,59,60,61,62,63,64,65,66,67,68,69,70,71,72,73,74,75,76,77,78,79,80,81,82,83,84,85,86,87,88,89,90]⟩) (.node none .leaf (.node none .leaf (.node none (.node none (.node none .leaf (.node none .leaf (.node none .leaf (.node none .leaf (.node (some ⟨[(89,4)],[82,83,84,85,86,87,88]⟩) .leaf .leaf))))) .leaf) .leaf))) .leaf) .leaf)) (.node none .leaf (.node none (.node (some ⟨[(111,4)],[100,101,102,103,104,105,106,107,108,109,110]⟩) .leaf .leaf) .leaf)))))))))) Tryz.func4 rfl (by kernel_rfl) h
def F7 (i:Option Addr) (j k:Nat) (q:Int) (R:zE) (H:Heap):Prop:=
 al H (.cells #[.pointer none,.pointer none,.pointer none,.pointer none] 41) fun d O=>HCalls Tryz.prog 21 #[.slice i j k] O (Sp.retK (fun P Q=>dSl P fun S T U=>HCalls Tryz.prog 20 #[.slice S T U] Q (Sp.retK (fun V W=>dT 2 V fun r s=>dPtr r fun a=>dInt .i64 s fun l=>HCalls Tryz.prog 22 #[.slice i j k] W (Sp.retK (fun t e=>dT 2 t fun u v=>dPtr u fun b=>dInt .i64 v fun m=>jn (α:=VFH 1) (fun w c=>∀_ _ _ _ _ _ _ _ _ _:Value,dBl w fun x=>sB x (sB (l==m) (sB (Option.isNone a) (R (.returned (.tuple #[.pointer none,.bool (Option.isNone b)])) c) (R (.returned (.tuple #[.pointer none,.bool false])) c)) (R (.returned (.tuple #[.pointer none,.bool false])) c)) (HCalls Tryz.prog 29 #[.pointer a,.int .i64 q] c (Sp.retK (fun y z=>dT 2 y fun A B=>dPtr A fun n=>dInt .i64 B fun C=>HCalls Tryz.prog 30 #[.pointer b,.int .i64 q] z (Sp.retK (fun D o=>dT 2 D fun E F=>dPtr E fun f=>dInt .i64 F fun G=>jn (α:=VFH 1) (fun I g=>∀_ _ _ _ _ _ _ _ _:Value,dBl I fun J=>sB J (R (.returned (.tuple #[.pointer none,.bool false])) g) (sB (Option.isNone f) (R (.returned (.tuple #[.pointer none,.bool true])) g) (zs3 g d (.pointer a) (.pointer n) (.pointer b) fun M=>st M ⟨d,3,none⟩ (.pointer f) fun N=>R (.returned (.tuple #[.pointer (some ⟨d,0,none⟩),.bool true])) N))) fun p=>sB (C != G) (p (.bool true) o) (p (.bool !Option.isNone n==Option.isNone f) o)) (pnR R))) (pnR R)))) fun h=>sB (l != m) (h (.bool true) e) (sB (Option.isNone
 a) (h (.bool true) e) (h (.bool (Option.isNone b)) e))) (pnR R))) (pnR R))) (pnR R))
theorem F7_calls {R:zE} {H:Heap} (a:Option Addr) (b c:Nat) (d:Int) (h:F7 a b c d R H):HCalls Tryz.prog 7 #[.slice a b c,.int .i64 d] H R:=
 calls_by (.node none .leaf (.node none .leaf (.node none .leaf (.node none .leaf (.node none (.node (some ⟨[(36,4)],[26,27,28,29,30,31,32,33,34,35]⟩) .leaf .leaf) (.node none .leaf (.node none .leaf (.node none (.node (some ⟨[(69,4)],[60,61,62,63,64,65,66,67,68]⟩) .leaf .leaf) .leaf)))))))) Tryz.func7 rfl (by kernel_rfl) h
def F10 (a:Option Addr) (b c:Nat) (d:Option Addr) (e f:Nat) (R:zE) (H:Heap):Prop:=
 HCalls Tryz.prog 36 #[.slice a b c,.slice d e f,.func (Fn.func 37) #[] #[]] H (Sp.retK (fun g h=>dBl g fun i=>R (.returned (.bool i)) h) (pnR R))
theorem F10_calls {R:zE} {H:Heap} (a:Option Addr) (b c:Nat) (d:Option Addr) (e f:Nat) (h:F10 a b c d e f R H):HCalls Tryz.prog 10 #[.slice a b c,.slice d e f] H R:=
 calls_by .leaf Tryz.func10 rfl (by kernel_rfl) h
def F11 (l:Option Addr) (R:zE) (H:Heap):Prop:=
 nz l fun A=>ld H (Addr.add A 1) fun B=>dPtr B fun C=>HCalls Tryz.prog 38 #[.pointer C] H (Sp.retK (fun D E=>dInt .i64 D fun F=>∃k:List Value->Heap->Prop,∃m:List Value->Heap->Nat,(k ([.slice none 0 0,.int .i64 0]) E)/\∀e:Option Addr,∀c:Nat,∀d:Nat,∀a:Int,∀_ _ _ _ _ _ _ _ _ _ _ _ _ _ _ _ _ _ _:Value,∀b:Heap,(k ([.slice e c d,.int .i64 a]) b)->sB (decide (a<F)) (nz l fun n=>ld b (Addr.add n 1) fun o=>dPtr o fun p=>HCalls Tryz.prog 39 #[.pointer p,.int .i64 a] b (Sp.retK (fun q r=>dT 2 q fun s t=>dSl s fun u v w=>dInt .i64 t fun G=>al r (.cells #[.slice u v w] 49) fun x y=>semW Tryz.prog (Builtin.append_ #[22,22] 22 #[.slice e c d,.slice (some ⟨x,0,none⟩) 1 1]) (pnR R) y fun z f=>dSl z fun g h i=>wr .i64 (a+1) fun j=>(k ([.slice g h i,.int .i64 j]) f)/\(m [.slice g h i,.int .i64 j] f)<(m [.slice e c d,.int .i64 a] b)) (pnR R))) (R (.returned (.slice e c d)) b)) (pnR R))
theorem F11_calls {R:zE} {H:Heap} (a:Option Addr) (h:F11 a R H):HCalls Tryz.prog 11 #[.pointer a] H R:=
 calls_by (.node none .leaf (.node none .leaf (.node none (.node none .leaf (.node none (.node (some ⟨[(3,22),(12,3)],[4,5,6,13,14,15,16,17,18,19,20,21,22,23,24,25,26,27,28]⟩) .leaf .leaf) .leaf)) .leaf))) Tryz.func11 rfl (by kernel_rfl) h
def F12 (n o p:Value) (R:zE) (H:Heap):Prop:=
 al H (.cells #[n,o,p] 26) fun b H2=>al H2 (.cells #[.int .i64 0,.int .i64 0,.int .i64 0] 26) fun a l=>zl3 l b fun v5 v6 v7=>HCalls Tryz.prog 40 #[.agg #[v5,v6,v7]] l (Sp.retK (fun v8 q=>dT 2 v8 fun r s=>dSl r fun t u v=>dInt .i64 s fun w=>jn (α:=VFH 1) (fun x y=>∀_ _ _ _ _ _ _ _:Value,dSl x fun z A B=>HCalls Tryz.prog 7 #[.slice z A B,.int .i64 64] y (Sp.retK (fun C c=>dT 2 C fun D E=>dPtr D fun d=>dBl E fun F=>zl3 c b fun e f g=>sB F (((zl3 c b fun G I J=>(Value.agg #[G,I,J])=(Value.agg #[e,f,g]))/\zs3 c a e f g fun h=>zl3 h a fun M N O=>R (.returned (.tuple #[.pointer d,.agg #[M,N,O],.bool !Option.isNone d])) h)/\zs3 c a e f g fun i=>zl3 i a fun S T U=>R (.returned (.tuple #[.pointer d,.agg #[S,T,U],.bool !Option.isNone d])) i) (zs3 c a e f g fun j=>zl3 j a fun X Y Z=>R (.returned (.tuple #[.pointer d,.agg #[X,Y,Z],.bool false])) j)) (pnR R))) fun m=>sB (w != 0) (zs3 q b (.int .i64 1) (.int .i64 8) (.int .i64 4) fun k=>zl3 k b fun ac ad ae=>HCalls Tryz.prog 40 #[.agg #[ac,ad,ae]] k (Sp.retK (fun af ag=>dT 2 af fun ah ai=>dSl ah fun aj ak am=>dInt .i64 ai fun an=>m (.slice aj ak am) ag) (pnR R))) (m (.slice t u v) q)) (pnR R))
theorem F12_calls {R:zE} {H:Heap} (a b c:Value) (h:F12 a b c R H):HCalls Tryz.prog 12 #[.agg #[a,b,c]] H R:=
 calls_by (.node none .leaf (.node none .leaf (.node (some ⟨[(5,22)],[14,15,16,17,18,19,20,21]⟩) .leaf .leaf))) Tryz.func12 rfl (by kernel_rfl) h
def F13 (e:Option Addr) (f g h i:Value) (R:zE) (H:Heap):Prop:=
 al H (.cells #[f,g,h,i] 51) fun a j=>ld j ⟨a,3,none⟩ fun Y=>dSl Y fun Z r5 r6=>HCalls Tryz.prog 16 #[.slice Z r5 r6] j (Sp.retK (fun v7 c=>dSl v7 fun p9 k l=>ld c ⟨a,0,none⟩ fun m=>dInt .i64 m fun n=>ask ((4:Int)≠(0:Int)) (nm (Int.tmod n 4) fun o=>sB (o==3) (ld c ⟨a,1,none⟩ fun p=>dInt .i64 p fun q=>HCalls Tryz.prog 41 #[.pointer e,.int .i64 q] c (Sp.retK (fun r s=>dBl r fun t=>R (.returned (.bool t)) s) (pnR R))) (nz e fun u=>ld c (Addr.add u 1) fun v=>dPtr v fun w=>ld c ⟨a,1,none⟩ fun x=>dInt .i64 x fun y=>ld c ⟨a,2,none⟩ fun z=>dInt .i64 z fun A=>HCalls Tryz.prog 15 #[.pointer w,.int .i64 y,.int .i64 A,.slice p9 k l,.slice none 0 0] c (Sp.retK (fun B b=>dT 2 B fun C D=>dInt .i64 C fun E=>dInt .i64 D fun F=>nz e fun G=>ld b (Addr.add G 3) fun I=>dPtr I fun J=>ld b ⟨a,1,none⟩ fun K=>dInt .i64 K fun L=>ld b ⟨a,2,none⟩ fun M=>dInt .i64 M fun N=>ld b ⟨a,3,none⟩ fun O=>dSl O fun P Q S=>HCalls Tryz.prog 42 #[.pointer J,.int .i64 L,.int .i64 N,.slice P Q S,.slice none 0 0] b (Sp.retK (fun T d=>dT 2 T fun U V=>dInt .i64 U fun W=>dInt .i64 V fun X=>sB (E==W) (R (.returned (.bool (F==X))) d) (R (.returned (.bool false)) d)) nopR)) nopR)))) (pnR R))
theorem F13_calls {R:zE} {H:Heap} (e:Option Addr) (a b c d:Value) (h:F13 e a b c d R H):HCalls Tryz.prog 13 #[.pointer e,.agg #[a,b,c,d]] H R:=
 calls_by .leaf Tryz.func13 rfl (by kernel_rfl) h
def F14 (f:Option Addr) (n o p:Value) (q P:Int) (R:zE) (H:Heap):Prop:=
 al H (.cells #[n,o,p] 26) fun a Q=>HCalls Tryz.prog 38 #[.pointer f] Q (Sp.retK (fun S e=>dInt .i64 S fun T=>sB (T==0) (R (.returned (.tuple #[.pointer none,.int .i64 2])) e) (jn (α:=VFH 1) (fun U r=>∀_ _ _ _ _ _ _ _ _ _:Value,dBl U fun s=>sB s (R (.returned (.tuple #[.pointer none,.int .i64 170])) r) (jn (α:=VFH 1) (fun t g=>∀_ _ _ _ _ _:Value,dBl t fun u=>sB u (R (.returned (.tuple #[.pointer none,.int .i64 1])) g) (HCalls Tryz.prog 45 #[.pointer f,.int .i64 P] g (Sp.retK (fun v b=>dInt .i64 v fun h=>sB (h != 0) (R (.returned (.tuple #[.pointer none,.int .i64 h])) b) (zl3 b a fun w x y=>al b (.cells #[.int .i32 0,.int .u32 0,.pointer f,w,x,y,.int .i64 q,.bool false] 114) fun z A=>R (.returned (.tuple #[.pointer (some ⟨z,0,none⟩),.int .i64 0])) A)) (pnR R)))) fun i=>sB (decide (q<1)) (i (.bool true) r) (i (.bool (decide (q>1099511627776))) r))) fun j=>zl3 e a fun B C D=>HCalls Tryz.prog 43 #[.agg #[B,C,D]] e (Sp.retK (fun E c=>dInt .i64 E fun F=>sB (F != 0) (j (.bool true) c) (zl3 c a fun k l m=>HCalls Tryz.prog 38 #[.pointer f] c (Sp.retK (fun G d=>dInt .i64 G fun I=>(zl3 d a fun J K L=>(Value.agg #[J,K,L])=(Value.agg #[k,l,m]))/\HCalls Tryz.prog 44 #[.agg #[k,l,m]] d (Sp.retK (fun M N=>dInt .i64 M fun O=>j (.bool (decide (I<O))) N) nopR)) nopR))) nopR))) (pnR R))
theorem F14_calls {R:zE} {H:Heap} (d:Option Addr) (a b c:Value) (e f:Int) (h:F14 d a b c e f R H):HCalls Tryz.prog 14 #[.pointer d,.agg #[a,b,c],.int .i64 e,.int .i64 f] H R:=
 calls_by (.node none .leaf (.node none (.node none (.node none .leaf (.node none .leaf (.node (some ⟨[(15,4)],[16,17,18,19,20,21,22,23,24,25]⟩) .leaf (.node none .leaf (.node (some ⟨[(26,4)],[27,28,29,30,31,32]⟩) .leaf .leaf))))) .leaf) .leaf)) Tryz.func14 rfl (by kernel_rfl) h
end Go.Proofs.YtkaikaodhegmhaaGreat.E
namespace Go.Proofs.YtkaikaodhegmhaaGreat.E
open Go Go.Proofs
set_option linter.unusedVariables false
set_option maxRecDepth 100000
def F15 (a:Option Addr) (g w:Int) (l:Option Addr) (m n:Nat) (o:Option Addr) (p q:Nat) (R:zE) (H:Heap):Prop:=
 HCalls Tryz.prog 33 #[.pointer a] H (Sp.retK (fun v1 H2=>dBl v1 (fun r=>sB (!r) (R (.returned (.tuple #[.int .i64 0,.int .i64 2])) H2) (nz a (fun i=>HCalls Tryz.prog 46 #[.pointer a,.int .i64 g] H2 (Sp.retK (fun v5 H6=>dBl v5 (fun t=>sB (!t) (HCallsD Tryz.prog 34 #[.pointer (some i)] FrameMode.returning H6 (fun e8 u9 a9=>match e8 with|.returned v=>leavesV Tryz.prog Tryz.f15 (Act.tmps (Act.mk #[.pointer a,.int .i64 g,.int .i64 w,.slice l m n,.slice o p q,undef,undef,undef,undef,undef,.int .i64 0,.int .i64 90,undef,undef,undef,undef,undef,undef,undef,undef,.pointer a,.bool r,.bool !r,.pointer a,.pointer (some i),.pointer (some i),.pointer a,.int .i64 g,.bool t,.bool !t,undef,undef,undef,undef,undef,undef,undef,undef,undef,undef,undef,undef,undef,undef,undef,undef,undef,undef,undef,undef,undef,undef,undef,undef,undef,undef,undef,undef,undef,undef,undef,undef,undef,undef,undef,undef,undef,undef,undef,undef,undef,undef,undef,undef,undef,undef,undef,undef,undef,undef,undef,undef,undef,undef,undef,undef,undef,undef,undef,undef,undef,undef,undef,undef,undef,undef,undef,undef,undef,undef,undef,undef,undef,undef,undef,undef,undef,undef,undef,undef,undef,undef,undef] [Deferred.mk (Target.fn (Fn.func 34) #[]) #[.pointer (some i)]])) R [] (settle u9) a9|.panicked c=>leavesV Tryz.prog Tryz.f15 (Act.tmps (Act.mk #[.pointer a,.int .i64 g,.int .i64 w,.slice l m n,.slice o p q,undef,undef,undef,undef,undef,.int .i64 0,.int .i64 90,undef,undef,undef,undef,undef,undef,undef,undef,.pointer a,.bool r,.bool !r,.pointer a,.pointer (some i),.pointer (some i),.pointer a,.int .i64 g,.bool t,.bool !t,undef,undef,undef,undef,undef,undef,undef,undef,undef,undef,undef,undef,undef,undef,undef,undef,undef,undef,undef,undef,undef,undef,undef,undef,undef,undef,undef,undef,undef,undef,undef,undef,undef,undef,undef,undef,undef,undef,undef,undef,undef,undef,undef,undef,undef,undef,undef,undef,undef,undef,undef,undef,undef,undef,undef,undef,undef,undef,undef,undef,undef,undef,undef,undef,undef,undef,undef,undef,undef,undef,undef,undef,undef,undef,undef,undef,undef,undef,undef,undef,undef,undef,undef] [Deferred.mk (Target.fn (Fn.func 34) #[]) #[.pointer (some i)]])) R [] (raised u9 c) a9|.outgrown=>False)) (nz a (fun h=>ld H6 (Addr.add (Addr.add h 6) 3) (fun b4=>dMap b4 (fun y=>semW Tryz.prog (Instr.lookup 98 (.map y) (.int .i64 g) true) (fun b5 b6=>HCallsD Tryz.prog 34 #[.pointer (some i)] (FrameMode.panicking b5) b6 (fun e16 u17 ba=>match e16 with|.returned v=>leavesV Tryz.prog Tryz.f15 (Act.tmps (Act.mk #[.pointer a,.int .i64 g,.int .i64 w,.slice l m n,.slice o p q,undef,undef,undef,undef,undef,.int .i64 0,.int .i64 0,undef,undef,undef,undef,undef,undef,undef,undef,.pointer a,.bool r,.bool !r,.pointer a,.pointer (some i),.pointer (some i),.pointer a,.int .i64 g,.bool t,.bool !t,undef,.pointer a,.pointer (some h),.pointer (some (Addr.add h 6)),.pointer (some (Addr.add (Addr.add h 6) 3)),.map y,.int .i64 g,undef,undef,undef,undef,undef,undef,undef,undef,undef,undef,undef,undef,undef,undef,undef,undef,undef,undef,undef,undef,undef,undef,undef,undef,undef,undef,undef,undef,undef,undef,undef,undef,undef,undef,undef,undef,undef,undef,undef,undef,undef,undef,undef,undef,undef,undef,undef,undef,undef,undef,undef,undef,undef,undef,undef,undef,undef,undef,undef,undef,undef,undef,undef,undef,undef,undef,undef,undef,undef,undef,undef,undef,undef,undef,undef,undef] [Deferred.mk (Target.fn (Fn.func 34) #[]) #[.pointer (some i)]])) R [] (settle u17) ba|.panicked c=>leavesV Tryz.prog Tryz.f15 (Act.tmps (Act.mk #[.pointer a,.int .i64 g,.int .i64 w,.slice l m n,.slice o p q,undef,undef,undef,undef,undef,.int .i64 0,.int .i64 0,undef,undef,undef,undef,undef,undef,undef,undef,.pointer a,.bool r,.bool !r,.pointer a,.pointer (some i),.pointer (some i),.pointer a,.int .i64 g,.bool t,.bool !t,undef,.pointer a,.pointer (some h),.pointer (some (Addr.add h 6)),.pointer (some (Addr.add (Addr.add h 6) 3)),.map y,.int .i64 g,undef,undef,undef,undef,undef,undef,undef,undef,undef,undef,undef,undef,undef,undef,undef,undef,undef,undef,undef,undef,undef,undef,undef,undef,undef,undef,undef,undef,undef,undef,undef,undef,undef,undef,undef,undef,undef,undef,undef,undef,undef,undef,undef,undef,undef,undef,undef,undef,undef,undef,undef,undef,undef,undef,undef,undef,undef,undef,undef,undef,undef,undef,undef,undef,undef,undef,undef,undef,undef,undef,undef,undef,undef,undef,undef,undef] [Deferred.mk (Target.fn (Fn.func 34) #[]) #[.pointer (some i)]])) R [] (raised u17 c) ba|.outgrown=>False)) H6 (fun b8 ao=>dT 2 b8 (fun b9 ca=>dSl b9 (fun d e f=>dBl ca (fun b=>jn (α:=VFH 1) (fun cb bb=>∀C D E F G I J K L M N O P Q S T U:Value,dBl cb (fun u=>jn (α:=VFH 1) (fun cc bc=>∀aw ax aa ab ac ad ae af ag ah ai aj ak al am:Value,dSl cc (fun V W X=>nz a (fun x=>ld bc (Addr.add x 4) (fun cd=>dPtr cd (fun Z=>HCalls Tryz.prog 48 #[.pointer Z,.int .i64 g,.int .i64 w,.slice l m n,.slice o p q] bc (Sp.retK (fun ce ap=>dT 2 ce (fun cf cg=>dInt .i64 cf (fun k=>dInt .i64 cg (fun j=>sB (j != 0) (HCallsD Tryz.prog 34 #[.pointer (some i)] FrameMode.returning ap (fun e76 u77 bd=>match e76 with|.returned v=>leavesV Tryz.prog Tryz.f15 (Act.tmps (Act.mk #[.pointer a,.int .i64 g,.int .i64 w,.slice l m n,.slice o p q,undef,undef,undef,undef,undef,.int .i64 0,.int .i64 j,.slice d e f,.bool b,.bool u,.slice V W X,aa,ab,.int .i64 k,.int .i64 j,.pointer a,.bool r,.bool !r,.pointer a,.pointer (some i),.pointer (some i),.pointer a,.int .i64 g,.bool t,.bool !t,.tuple #[.slice d e f,.bool b],.pointer a,.pointer (some h),.pointer (some (Addr.add h 6)),.pointer (some (Addr.add (Addr.add h 6) 3)),.map y,.int .i64 g,.tuple #[.slice d e f,.bool b],.slice d e f,.bool b,C,D,E,F,G,I,J,K,L,M,N,O,P,Q,S,T,U,ac,ad,ae,af,ag,ah,ai,aj,ak,al,am,.tuple #[.int .i64 k,.int .i64 j],.pointer a,.pointer (some x),.pointer (some (Addr.add x 4)),.pointer Z,.int .i64 g,.int .i64 w,.slice l m n,.slice o p q,.tuple #[.int .i64 k,.int .i64 j],.int .i64 k,.int .i64 j,.int .i64 j,.bool (j != 0),.int .i64 j,undef,undef,undef,undef,undef,undef,undef,undef,undef,undef,undef,undef,undef,undef,undef,undef,undef,undef,undef,undef,undef,undef,undef,undef,undef,undef,undef,undef,undef,undef] [Deferred.mk (Target.fn (Fn.func 34) #[]) #[.pointer (some i)]])) R [] (settle u77) bd|.panicked c=>leavesV Tryz.prog Tryz.f15 (Act.tmps (Act.mk #[.pointer a,.int .i64 g,.int .i64 w,.slice l m n,.slice o p q,undef,undef,undef,undef,undef,.int .i64 0,.int .i64 j,.slice d e f,.bool b,.bool u,.slice V W X,aa,ab,.int .i64 k,.int .i64 j,.pointer a,.bool r,.bool !r,.pointer a,.pointer (some i),.pointer (some i),.pointer a,.int .i64 g,.bool t,.bool !t,.tuple #[.slice d e f,.bool b],.pointer a,.pointer (some h),.pointer (some (Addr.add h 6)),.pointer (some (Addr.add (Addr.add h 6) 3)),.map y,.int .i64 g,.tuple #[.slice d e f,.bool b],.slice d e f,.bool b,C,D,E,F,G,I,J,K,L,M,N,O,P,Q,S,T,U,ac,ad,ae,af,ag,ah,ai,aj,ak,al,am,.tuple #[.int .i64 k,.int .i64 j],.pointer a,.pointer (some x),.pointer (some (Addr.add x 4)),.pointer Z,.int .i64 g,.int .i64 w,.slice l m n,.slice o p q,.tuple #[.int .i64 k,.int .i64 j],.int .i64 k,.int .i64 j,.int .i64 j,.bool (j != 0),.int .i64 j,undef,undef,undef,undef,undef,undef,undef,undef,undef,undef,undef,undef,undef,undef,undef,undef,undef,undef,undef,undef,undef,undef,undef,undef,undef,undef,undef,undef,undef,undef] [Deferred.mk (Target.fn (Fn.func 34) #[]) #[.pointer (some i)]])) R [] (raised u77 c) bd|.outgrown=>False)) (jn (α:=VFH 0) (fun ch=>∀be bf bg bh bi bj bk bl bm bn bo bp bq br bs bt bu bv bw bx ay az aA aB aC aD aE aF aG:Value,HCallsD Tryz.prog 34 #[.pointer (some i)] FrameMode.returning ch (fun e109 u110 aH=>match e109 with|.returned v=>leavesV Tryz.prog Tryz.f15 (Act.tmps (Act.mk #[.pointer a,.int .i64 g,.int .i64 w,.slice l m n,.slice o p q,undef,undef,undef,undef,undef,.int .i64 k,.int .i64 0,.slice d e f,.bool b,.bool u,.slice V W X,aa,ab,.int .i64 k,.int .i64 j,.pointer a,.bool r,.bool !r,.pointer a,.pointer (some i),.pointer (some i),.pointer a,.int .i64 g,.bool t,.bool !t,.tuple #[.slice d e f,.bool b],.pointer a,.pointer (some h),.pointer (some (Addr.add h 6)),.pointer (some (Addr.add (Addr.add h 6) 3)),.map y,.int .i64 g,.tuple #[.slice d e f,.bool b],.slice d e f,.bool b,C,D,E,F,G,I,J,K,L,M,N,O,P,Q,S,T,U,ac,ad,ae,af,ag,ah,ai,aj,ak,al,am,.tuple #[.int .i64 k,.int .i64 j],.pointer a,.pointer (some x),.pointer (some (Addr.add x 4)),.pointer Z,.int .i64 g,.int .i64 w,.slice l m n,.slice o p q,.tuple #[.int .i64 k,.int .i64 j],.int .i64 k,.int .i64 j,.int .i64 j,.bool (j != 0),undef,be,bf,bg,bh,bi,bj,bk,bl,bm,bn,bo,bp,bq,br,bs,bt,bu,bv,bw,bx,ay,az,aA,aB,aC,aD,aE,aF,aG,.int .i64 k] [Deferred.mk (Target.fn (Fn.func 34) #[]) #[.pointer (some i)]])) R [] (settle u110) aH|.panicked c=>leavesV Tryz.prog Tryz.f15 (Act.tmps (Act.mk #[.pointer a,.int .i64 g,.int .i64 w,.slice l m n,.slice o p q,undef,undef,undef,undef,undef,.int .i64 k,.int .i64 0,.slice d e f,.bool b,.bool u,.slice V W X,aa,ab,.int .i64 k,.int .i64 j,.pointer a,.bool r,.bool !r,.pointer a,.pointer (some i),.pointer (some i),.pointer a,.int .i64 g,.bool t,.bool !t,.tuple #[.slice d e f,.bool b],.pointer a,.pointer (some h),.pointer (some (Addr.add h 6)),.pointer (some (Addr.add (Addr.add h 6) 3)),.map y,.int .i64 g,.tuple #[.slice d e f,.bool b],.slice d e f,.bool b,C,D,E,F,G,I,J,K,L,M,N,O,P,Q,S,T,U,ac,ad,ae,af,ag,ah,ai,aj,ak,al,am,.tuple #[.int .i64 k,.int .i64 j],.pointer a,.pointer (some x),.pointer (some (Addr.add x 4)),.pointer Z,.int .i64 g,.int .i64 w,.slice l m n,.slice o p q,.tuple #[.int .i64 k,.int .i64 j],.int .i64 k,.int .i64 j,.int .i64 j,.bool (j != 0),undef,be,bf,bg,bh,bi,bj,bk,bl,bm,bn,bo,bp,bq,br,bs,bt,bu,bv,bw,bx,ay,az,aA,aB,aC,aD,aE,aF,aG,.int .i64 k] [Deferred.mk (Target.fn (Fn.func 34) #[]) #[.pointer (some i)]])) R [] (raised u110 c) aH|.outgrown=>False)) (fun aq=>jn (α:=VFH 1) (fun bz an=>∀aI aJ aK aL aM aN aO aP aQ aR aS aT aU aV aW:Value,dBl bz (fun ar=>sB ar (nz a (fun Y=>ld an (Addr.add (Addr.add Y 6) 3) (fun bA=>dMap bA (fun au=>semW Tryz.prog (Instr.mapUpdate 98 (.map au) (.int .i64 g) (.slice V W X)) (fun bB bC=>HCallsD Tryz.prog 34 #[.pointer (some i)] (FrameMode.panicking bB) bC (fun e136 u137 aX=>match e136 with|.returned v=>leavesV Tryz.prog Tryz.f15 (Act.tmps (Act.mk #[.pointer a,.int .i64 g,.int .i64 w,.slice l m n,.slice o p q,undef,undef,undef,undef,undef,aw,ax,.slice d e f,.bool b,.bool u,.slice V W X,aa,ab,.int .i64 k,.int .i64 j,.pointer a,.bool r,.bool !r,.pointer a,.pointer (some i),.pointer (some i),.pointer a,.int .i64 g,.bool t,.bool !t,.tuple #[.slice d e f,.bool b],.pointer a,.pointer (some h),.pointer (some (Addr.add h 6)),.pointer (some (Addr.add (Addr.add h 6) 3)),.map y,.int .i64 g,.tuple #[.slice d e f,.bool b],.slice d e f,.bool b,C,D,E,F,G,I,J,K,L,M,N,O,P,Q,S,T,U,ac,ad,ae,af,ag,ah,ai,aj,ak,al,am,.tuple #[.int .i64 k,.int .i64 j],.pointer a,.pointer (some x),.pointer (some (Addr.add x 4)),.pointer Z,.int .i64 g,.int .i64 w,.slice l m n,.slice o p q,.tuple #[.int .i64 k,.int .i64 j],.int .i64 k,.int .i64 j,.int .i64 j,.bool (j != 0),undef,.bool ar,aI,aJ,aK,aL,aM,aN,aO,aP,aQ,aR,aS,aT,aU,aV,aW,.pointer a,.pointer (some Y),.pointer (some (Addr.add Y 6)),.pointer (some (Addr.add (Addr.add Y 6) 3)),.map au,.int .i64 g,.slice V W X,undef,undef,undef,undef,undef,undef,undef] [Deferred.mk (Target.fn (Fn.func 34) #[]) #[.pointer (some i)]])) R [] (settle u137) aX|.panicked c=>leavesV Tryz.prog Tryz.f15 (Act.tmps (Act.mk #[.pointer a,.int .i64 g,.int .i64 w,.slice l m n,.slice o p q,undef,undef,undef,undef,undef,aw,ax,.slice d e f,.bool b,.bool u,.slice V W X,aa,ab,.int .i64 k,.int .i64 j,.pointer a,.bool r,.bool !r,.pointer a,.pointer (some i),.pointer (some i),.pointer a,.int .i64 g,.bool t,.bool !t,.tuple #[.slice d e f,.bool b],.pointer a,.pointer (some h),.pointer (some (Addr.add h 6)),.pointer (some (Addr.add (Addr.add h 6) 3)),.map y,.int .i64 g,.tuple #[.slice d e f,.bool b],.slice d e f,.bool b,C,D,E,F,G,I,J,K,L,M,N,O,P,Q,S,T,U,ac,ad,ae,af,ag,ah,ai,aj,ak,al,am,.tuple #[.int .i64 k,.int .i64 j],.pointer a,.pointer (some x),.pointer (some (Addr.add x 4)),.pointer Z,.int .i64 g,.int .i64 w,.slice l m n,.slice o p q,.tuple #[.int .i64 k,.int .i64 j],.int .i64 k,.int .i64 j,.int .i64 j,.bool (j != 0),undef,.bool ar,aI,aJ,aK,aL,aM,aN,aO,aP,aQ,aR,aS,aT,aU,aV,aW,.pointer a,.pointer (some Y),.pointer (some (Addr.add Y 6)),.pointer (some (Addr.add (Addr.add Y 6) 3)),.map au,.int .i64 g,.slice V W X,undef,undef,undef,undef,undef,undef,undef] [Deferred.mk (Target.fn (Fn.func 34) #[]) #[.pointer (some i)]])) R [] (raised u137 c) aX|.outgrown=>False)) an (fun ci bD=>aq bD))))) (sB u (nz a (fun bE=>st an (Addr.add (Addr.add bE 6) 1) (.bool true) (fun bF=>aq bF))) (aq an)))) (fun aY=>sB u (nz a (fun bG=>ld ap (Addr.add (Addr.add bG 6) 3) (fun bH=>dMap bH (fun bI=>nz a (fun aZ=>ld ap (Addr.add (Addr.add aZ 6) 2) (fun bJ=>dInt .i64 bJ (fun a0=>semW Tryz.prog (Builtin.len_ #[98] 3 #[.map bI]) nopR ap (fun bK a1=>dInt .i64 bK (fun bL=>(ld a1 (Addr.add (Addr.add aZ 6) 2) (fun bM=>dInt .i64 bM (fun bN=>(Value.int IntKind.i64 bN)=(Value.int IntKind.i64 a0))))/\aY (.bool (decide (bL<a0))) a1))))))))) (aY (.bool false) ap)))))))) (fun bO bP=>HCallsD Tryz.prog 34 #[.pointer (some i)] (FrameMode.panicking bO) bP (fun e159 u160 a2=>match e159 with|.returned v=>leavesV Tryz.prog Tryz.f15 (Act.tmps (Act.mk #[.pointer a,.int .i64 g,.int .i64 w,.slice l m n,.slice o p q,undef,undef,undef,undef,undef,aw,ax,.slice d e f,.bool b,.bool u,.slice V W X,aa,ab,undef,undef,.pointer a,.bool r,.bool !r,.pointer a,.pointer (some i),.pointer (some i),.pointer a,.int .i64 g,.bool t,.bool !t,.tuple #[.slice d e f,.bool b],.pointer a,.pointer (some h),.pointer (some (Addr.add h 6)),.pointer (some (Addr.add (Addr.add h 6) 3)),.map y,.int .i64 g,.tuple #[.slice d e f,.bool b],.slice d e f,.bool b,C,D,E,F,G,I,J,K,L,M,N,O,P,Q,S,T,U,ac,ad,ae,af,ag,ah,ai,aj,ak,al,am,undef,.pointer a,.pointer (some x),.pointer (some (Addr.add x 4)),.pointer Z,.int .i64 g,.int .i64 w,.slice l m n,.slice o p q,undef,undef,undef,undef,undef,undef,undef,undef,undef,undef,undef,undef,undef,undef,undef,undef,undef,undef,undef,undef,undef,undef,undef,undef,undef,undef,undef,undef,undef,undef,undef,undef,undef,undef,undef,undef] [Deferred.mk (Target.fn (Fn.func 34) #[]) #[.pointer (some i)]])) R [] (settle u160) a2|.panicked c=>leavesV Tryz.prog Tryz.f15 (Act.tmps (Act.mk #[.pointer a,.int .i64 g,.int .i64 w,.slice l m n,.slice o p q,undef,undef,undef,undef,undef,aw,ax,.slice d e f,.bool b,.bool u,.slice V W X,aa,ab,undef,undef,.pointer a,.bool r,.bool !r,.pointer a,.pointer (some i),.pointer (some i),.pointer a,.int .i64 g,.bool t,.bool !t,.tuple #[.slice d e f,.bool b],.pointer a,.pointer (some h),.pointer (some (Addr.add h 6)),.pointer (some (Addr.add (Addr.add h 6) 3)),.map y,.int .i64 g,.tuple #[.slice d e f,.bool b],.slice d e f,.bool b,C,D,E,F,G,I,J,K,L,M,N,O,P,Q,S,T,U,ac,ad,ae,af,ag,ah,ai,aj,ak,al,am,undef,.pointer a,.pointer (some x),.pointer (some (Addr.add x 4)),.pointer Z,.int .i64 g,.int .i64 w,.slice l m n,.slice o p q,undef,undef,undef,undef,undef,undef,undef,undef,undef,undef,undef,undef,undef,undef,undef,undef,undef,undef,undef,undef,undef,undef,undef,undef,undef,undef,undef,undef,undef,undef,undef,undef,undef,undef,undef,undef] [Deferred.mk (Target.fn (Fn.func 34) #[]) #[.pointer (some i)]])) R [] (raised u160 c) a2|.outgrown=>False)))))))) (fun a3=>sB u (HCalls Tryz.prog 47 #[.pointer a,.int .i64 g] bb (Sp.retK (fun bQ a5=>dT 2 bQ (fun bR bS=>dSl bR (fun z A B=>dInt .i64 bS (fun s=>sB (s != 0) (HCallsD Tryz.prog 34 #[.pointer (some i)] FrameMode.returning a5 (fun e171 u172 a6=>match e171 with|.returned v=>leavesV Tryz.prog Tryz.f15 (Act.tmps (Act.mk #[.pointer a,.int .i64 g,.int .i64 w,.slice l m n,.slice o p q,undef,undef,undef,undef,undef,.int .i64 0,.int .i64 s,.slice d e f,.bool b,.bool u,.slice none 0 0,.slice z A B,.int .i64 s,undef,undef,.pointer a,.bool r,.bool !r,.pointer a,.pointer (some i),.pointer (some i),.pointer a,.int .i64 g,.bool t,.bool !t,.tuple #[.slice d e f,.bool b],.pointer a,.pointer (some h),.pointer (some (Addr.add h 6)),.pointer (some (Addr.add (Addr.add h 6) 3)),.map y,.int .i64 g,.tuple #[.slice d e f,.bool b],.slice d e f,.bool b,C,D,E,F,G,I,J,K,L,M,N,O,P,Q,S,T,U,.bool u,.tuple #[.slice z A B,.int .i64 s],.pointer a,.int .i64 g,.tuple #[.slice z A B,.int .i64 s],.slice z A B,.int .i64 s,.int .i64 s,.bool (s != 0),.int .i64 s,undef,undef,undef,undef,undef,undef,undef,undef,undef,undef,undef,undef,undef,undef,undef,undef,undef,undef,undef,undef,undef,undef,undef,undef,undef,undef,undef,undef,undef,undef,undef,undef,undef,undef,undef,undef,undef,undef,undef,undef,undef,undef,undef,undef,undef,undef] [Deferred.mk (Target.fn (Fn.func 34) #[]) #[.pointer (some i)]])) R [] (settle u172) a6|.panicked c=>leavesV Tryz.prog Tryz.f15 (Act.tmps (Act.mk #[.pointer a,.int .i64 g,.int .i64 w,.slice l m n,.slice o p q,undef,undef,undef,undef,undef,.int .i64 0,.int .i64 s,.slice d e f,.bool b,.bool u,.slice none 0 0,.slice z A B,.int .i64 s,undef,undef,.pointer a,.bool r,.bool !r,.pointer a,.pointer (some i),.pointer (some i),.pointer a,.int .i64 g,.bool t,.bool !t,.tuple #[.slice d e f,.bool b],.pointer a,.pointer (some h),.pointer (some (Addr.add h 6)),.pointer (some (Addr.add (Addr.add h 6) 3)),.map y,.int .i64 g,.tuple #[.slice d e f,.bool b],.slice d e f,.bool b,C,D,E,F,G,I,J,K,L,M,N,O,P,Q,S,T,U,.bool u,.tuple #[.slice z A B,.int .i64 s],.pointer a,.int .i64 g,.tuple #[.slice z A B,.int .i64 s],.slice z A B,.int .i64 s,.int .i64 s,.bool (s != 0),.int .i64 s,undef,undef,undef,undef,undef,undef,undef,undef,undef,undef,undef,undef,undef,undef,undef,undef,undef,undef,undef,undef,undef,undef,undef,undef,undef,undef,undef,undef,undef,undef,undef,undef,undef,undef,undef,undef,undef,undef,undef,undef,undef,undef,undef,undef,undef,undef] [Deferred.mk (Target.fn (Fn.func 34) #[]) #[.pointer (some i)]])) R [] (raised u172 c) a6|.outgrown=>False)) (a3 (.slice z A B) a5))))) (fun bT bU=>HCallsD Tryz.prog 34 #[.pointer (some i)] (FrameMode.panicking bT) bU (fun e176 u177 a7=>match e176 with|.returned v=>leavesV Tryz.prog Tryz.f15 (Act.tmps (Act.mk #[.pointer a,.int .i64 g,.int .i64 w,.slice l m n,.slice o p q,undef,undef,undef,undef,undef,.int .i64 0,.int .i64 0,.slice d e f,.bool b,.bool u,.slice none 0 0,undef,undef,undef,undef,.pointer a,.bool r,.bool !r,.pointer a,.pointer (some i),.pointer (some i),.pointer a,.int .i64 g,.bool t,.bool !t,.tuple #[.slice d e f,.bool b],.pointer a,.pointer (some h),.pointer (some (Addr.add h 6)),.pointer (some (Addr.add (Addr.add h 6) 3)),.map y,.int .i64 g,.tuple #[.slice d e f,.bool b],.slice d e f,.bool b,C,D,E,F,G,I,J,K,L,M,N,O,P,Q,S,T,U,.bool u,undef,.pointer a,.int .i64 g,undef,undef,undef,undef,undef,undef,undef,undef,undef,undef,undef,undef,undef,undef,undef,undef,undef,undef,undef,undef,undef,undef,undef,undef,undef,undef,undef,undef,undef,undef,undef,undef,undef,undef,undef,undef,undef,undef,undef,undef,undef,undef,undef,undef,undef,undef,undef,undef,undef,undef,undef,undef] [Deferred.mk (Target.fn (Fn.func 34) #[]) #[.pointer (some i)]])) R [] (settle u177) a7|.panicked c=>leavesV Tryz.prog Tryz.f15 (Act.tmps (Act.mk #[.pointer a,.int .i64 g,.int .i64 w,.slice l m n,.slice o p q,undef,undef,undef,undef,undef,.int .i64 0,.int .i64 0,.slice d e f,.bool b,.bool u,.slice none 0 0,undef,undef,undef,undef,.pointer a,.bool r,.bool !r,.pointer a,.pointer (some i),.pointer (some i),.pointer a,.int .i64 g,.bool t,.bool !t,.tuple #[.slice d e f,.bool b],.pointer a,.pointer (some h),.pointer (some (Addr.add h 6)),.pointer (some (Addr.add (Addr.add h 6) 3)),.map y,.int .i64 g,.tuple #[.slice d e f,.bool b],.slice d e f,.bool b,C,D,E,F,G,I,J,K,L,M,N,O,P,Q,S,T,U,.bool u,undef,.pointer a,.int .i64 g,undef,undef,undef,undef,undef,undef,undef,undef,undef,undef,undef,undef,undef,undef,undef,undef,undef,undef,undef,undef,undef,undef,undef,undef,undef,undef,undef,undef,undef,undef,undef,undef,undef,undef,undef,undef,undef,undef,undef,undef,undef,undef,undef,undef,undef,undef,undef,undef,undef,undef,undef,undef] [Deferred.mk (Target.fn (Fn.func 34) #[]) #[.pointer (some i)]])) R [] (raised u177 c) a7|.outgrown=>False)))) (a3 (.slice none 0 0) bb)))) (fun av=>nz a (fun bV=>ld ao (Addr.add bV 6) (fun bW=>dBl bW (fun bX=>sB bX (nz a (fun bY=>ld ao (Addr.add (Addr.add bY 6) 1) (fun bZ=>dBl bZ (fun b0=>sB (!b0) (av (.bool !b) ao) (av (.bool false) ao))))) (av (.bool false) ao))))))))))))))) (fun b1 b2=>HCallsD Tryz.prog 34 #[.pointer (some i)] (FrameMode.panicking b1) b2 (fun e188 u189 a8=>match e188 with|.returned v=>leavesV Tryz.prog Tryz.f15 (Act.tmps (Act.mk #[.pointer a,.int .i64 g,.int .i64 w,.slice l m n,.slice o p q,undef,undef,undef,undef,undef,.int .i64 0,.int .i64 0,undef,undef,undef,undef,undef,undef,undef,undef,.pointer a,.bool r,.bool !r,.pointer a,.pointer (some i),.pointer (some i),.pointer a,.int .i64 g,undef,undef,undef,undef,undef,undef,undef,undef,undef,undef,undef,undef,undef,undef,undef,undef,undef,undef,undef,undef,undef,undef,undef,undef,undef,undef,undef,undef,undef,undef,undef,undef,undef,undef,undef,undef,undef,undef,undef,undef,undef,undef,undef,undef,undef,undef,undef,undef,undef,undef,undef,undef,undef,undef,undef,undef,undef,undef,undef,undef,undef,undef,undef,undef,undef,undef,undef,undef,undef,undef,undef,undef,undef,undef,undef,undef,undef,undef,undef,undef,undef,undef,undef,undef,undef] [Deferred.mk (Target.fn (Fn.func 34) #[]) #[.pointer (some i)]])) R [] (settle u189) a8|.panicked c=>leavesV Tryz.prog Tryz.f15 (Act.tmps (Act.mk #[.pointer a,.int .i64 g,.int .i64 w,.slice l m n,.slice o p q,undef,undef,undef,undef,undef,.int .i64 0,.int .i64 0,undef,undef,undef,undef,undef,undef,undef,undef,.pointer a,.bool r,.bool !r,.pointer a,.pointer (some i),.pointer (some i),.pointer a,.int .i64 g,undef,undef,undef,undef,undef,undef,undef,undef,undef,undef,undef,undef,undef,undef,undef,undef,undef,undef,undef,undef,undef,undef,undef,undef,undef,undef,undef,undef,undef,undef,undef,undef,undef,undef,undef,undef,undef,undef,undef,undef,undef,undef,undef,undef,undef,undef,undef,undef,undef,undef,undef,undef,undef,undef,undef,undef,undef,undef,undef,undef,undef,undef,undef,undef,undef,undef,undef,undef,undef,undef,undef,undef,undef,undef,undef,undef,undef,undef,undef,undef,undef,undef,undef,undef,undef] [Deferred.mk (Target.fn (Fn.func 34) #[]) #[.pointer (some i)]])) R [] (raised u189 c) a8|.outgrown=>False))))))) (pnR R))
theorem F15_calls {R:zE} {H:Heap} (g:Option Addr) (i j:Int) (a:Option Addr) (b c:Nat) (d:Option Addr) (e f:Nat) (h:F15 g i j a b c d e f R H):HCalls Tryz.prog 15 #[.pointer g,.int .i64 i,.int .i64 j,.slice a b c,.slice d e f] H R:=
 calls_by (.node none .leaf (.node none .leaf (.node none .leaf (.node none .leaf (.node none .leaf (.node (some ⟨[(14,4)],[40,41,42,43,44,45,46,47,48,49,50,51,52,53,54,55,56]⟩) .leaf (.node none .leaf (.node (some ⟨[(15,49)],[10,11,16,17,57,58,59,60,61,62,63,64,65,66,67]⟩) .leaf (.node none .leaf (.node none .leaf (.node (some ⟨[],[83,84,85,86,87,88,89,90,91,92,93,94,95,96,97,98,99,100,101,102,103,104,105,106,107,108,109,110,111]⟩) (.node none (.node (some ⟨[(83,4)],[84,85,86,87,88,89,90,91,92,93,94,95,96,97,98]⟩) .leaf .leaf) .leaf) .leaf))))))))))) Tryz.func15 rfl (by kernel_rfl) h
def F16 (a:Option Addr) (b c:Nat) (R:zE) (H:Heap):Prop:=
 sB (Option.isNone a) (R (.returned (.slice none 0 0)) H) (al H (.cells #[] 5) fun d e=>semW Tryz.prog (Builtin.append_ #[49,49] 49 #[.slice (some ⟨d,0,none⟩) 0 0,.slice a b c]) (pnR R) e fun f g=>dSl f fun h i j=>R (.returned (.slice h i j)) g)
theorem F16_calls {R:zE} {H:Heap} (a:Option Addr) (b c:Nat) (h:F16 a b c R H):HCalls Tryz.prog 16 #[.slice a b c] H R:=
 calls_by .leaf Tryz.func16 rfl (by kernel_rfl) h
def F17 (p:Option Addr) (R:zE) (H:Heap):Prop:=
 HCalls Tryz.prog 49 #[.pointer p] H (Sp.retK (fun C f=>dInt .i64 C fun r=>sB (r != 0) (R (.returned (.tuple #[.slice none 0 0,.int .i64 r])) f) (nz p fun q=>ld f (Addr.add (Addr.add q 2) 1) fun D=>ld f (Addr.add (Addr.add (Addr.add q 2) 1) 1) fun E=>ld f (Addr.add (Addr.add (Addr.add q 2) 1) 2) fun F=>HCalls Tryz.prog 44 #[.agg #[D,E,F]] f (Sp.retK (fun G I=>dInt .i64 G fun s=>∃g:List Value->Heap->Prop,∃h:List Value->Heap->Nat,(g ([.slice none 0 0,.int .i64 0]) I)/\∀b:Option Addr,∀c:Nat,∀d:Nat,∀a:Int,∀_ _ _ _ _ _ _ _ _ _ _ _ _ _ _ _ _ _ _ _ _:Value,∀e:Heap,(g ([.slice b c d,.int .i64 a]) e)->sB (decide (a<s)) (HCalls Tryz.prog 50 #[.pointer p,.int .i64 a] e (Sp.retK (fun t i=>dT 2 t fun u v=>dSl u fun w x y=>dInt .i64 v fun j=>sB (j != 0) (R (.returned (.tuple #[.slice none 0 0,.int .i64 j])) i) (al i (.cells #[.slice w x y] 49) fun z A=>semW Tryz.prog (Builtin.append_ #[22,22] 22 #[.slice b c d,.slice (some ⟨z,0,none⟩) 1 1]) (pnR R) A fun B k=>dSl B fun l m n=>wr .i64 (a+1) fun o=>(g ([.slice l m n,.int .i64 o]) k)/\(h [.slice l m n,.int .i64 o] k)<(h [.slice b c d,.int .i64 a] e))) (pnR R))) (R (.returned (.tuple #[.slice b c d,.int .i64 0])) e)) (pnR R)))) (pnR R))
theorem F17_calls {R:zE} {H:Heap} (a:Option Addr) (h:F17 a R H):HCalls Tryz.prog 17 #[.pointer a] H R:=
 calls_by (.node none .leaf (.node none .leaf (.node none .leaf (.node none (.node none .leaf (.node none (.node (some ⟨[(5,22),(20,3)],[2,3,6,7,8,21,22,23,24,25,26,27,28,29,30,31,32,33,34,35,36]⟩) .leaf .leaf) .leaf)) .leaf)))) Tryz.func17 rfl (by kernel_rfl) h
def F18 (a:Option Addr) (R:zE) (H:Heap):Prop:=
 HCalls Tryz.prog 49 #[.pointer a] H (Sp.retK (fun h b=>dInt .i64 h fun c=>sB (c != 0) (R (.returned (.int .i64 c)) b) (nz a fun i=>ld b (Addr.add i 2) fun j=>dPtr j fun k=>HCalls Tryz.prog 51 #[.pointer k] b (Sp.retK (fun l d=>dInt .i64 l fun e=>sB (e != 0) (R (.returned (.int .i64 e)) d) (nz a fun f=>st d (Addr.add f 7) (.bool true) fun g=>R (.returned (.int .i64 0)) g)) (pnR R)))) (pnR R))
theorem F18_calls {R:zE} {H:Heap} (a:Option Addr) (h:F18 a R H):HCalls Tryz.prog 18 #[.pointer a] H R:=
 calls_by .leaf Tryz.func18 rfl (by kernel_rfl) h
def F19 (a:Option Addr) (R:zE) (H:Heap):Prop:=
 sB (Option.isNone a) (R (.returned (.int .i64 0)) H) (nz a fun b=>ld H (Addr.add (Addr.add b 2) 4) fun c=>dInt .i64 c fun d=>R (.returned (.int .i64 d)) H)
theorem F19_calls {R:zE} {H:Heap} (a:Option Addr) (h:F19 a R H):HCalls Tryz.prog 19 #[.pointer a] H R:=
 calls_by .leaf Tryz.func19 rfl (by kernel_rfl) h
def F20 (c:Option Addr) (a d:Nat) (R:zE) (H:Heap):Prop:=
 jn (α:=VFH 1) (fun s e=>∀_ _ _ _ _ _ _ _ _ _ _ _:Value,dBl s fun f=>sB f (R (.returned (.tuple #[.pointer none,.int .i64 1])) e) (HCalls Tryz.prog 54 #[.slice c a d] e (Sp.retK (fun g h=>dSl g fun i j k=>al h (.map #[] 0) fun l m=>al m (.cells #[.slice i j k,.slice none 0 0,.map (some l),.int .i64 0] 121) fun n o=>R (.returned (.tuple #[.pointer (some ⟨n,0,none⟩),.int .i64 0])) o) (pnR R)))) fun b=>sB (decide ((↑a:Int)<1)) (b (.bool true) H) (sB (decide ((↑a:Int)>2048)) (b (.bool true) H) (HCalls Tryz.prog 53 #[.slice c a d,.func (Fn.func 52) #[] #[]] H (Sp.retK (fun p q=>dBl p fun r=>b (.bool r) q) (pnR R))))
theorem F20_calls {R:zE} {H:Heap} (a:Option Addr) (b c:Nat) (h:F20 a b c R H):HCalls Tryz.prog 20 #[.slice a b c] H R:=
 calls_by (.node none .leaf (.node none .leaf (.node none (.node (some ⟨[(17,4)],[5,6,7,8,9,10,11,12,13,14,15,16]⟩) .leaf .leaf) .leaf))) Tryz.func20 rfl (by kernel_rfl) h
def F21 (m:Option Addr) (f B:Nat) (R:zE) (H:Heap):Prop:=
 ∃l:List Value->Heap->Prop,∃n:List Value->Heap->Nat,(l ([.slice none 0 0,.int .i64 0]) H)/\∀c:Option Addr,∀d:Nat,∀e:Nat,∀b:Int,∀_ _ _ _ _ _ _ _ _ _:Value,∀a:Heap,(l ([.slice c d e,.int .i64 b]) a)->sB (decide (b<(↑f:Int))) (nz m fun o=>ask (0<=b/\b<(↑f:Int)) (ld a (Addr.add o (Int.toNat b*1)) fun p=>dSl p fun q r s=>HCalls Tryz.prog 16 #[.slice q r s] a (Sp.retK (fun t u=>dSl t fun v w x=>al u (.cells #[.slice v w x] 49) fun y z=>semW Tryz.prog (Builtin.append_ #[22,22] 22 #[.slice c d e,.slice (some ⟨y,0,none⟩) 1 1]) (pnR R) z fun A g=>dSl A fun h i j=>wr .i64 (b+1) fun k=>(l ([.slice h i j,.int .i64 k]) g)/\(n [.slice h i j,.int .i64 k] g)<(n [.slice c d e,.int .i64 b] a)) (pnR R)))) (R (.returned (.slice c d e)) a)
theorem F21_calls {R:zE} {H:Heap} (a:Option Addr) (b c:Nat) (h:F21 a b c R H):HCalls Tryz.prog 21 #[.slice a b c] H R:=
 calls_by (.node none .leaf (.node none .leaf (.node none (.node none .leaf (.node none (.node (some ⟨[(3,22),(8,3)],[5,9,10,11,12,13,14,15,16,17]⟩) .leaf .leaf) .leaf)) .leaf))) Tryz.func21 rfl (by kernel_rfl) h
def F22 (p:Option Addr) (a V:Nat) (R:zE) (H:Heap):Prop:=
 jn (α:=VFH 1) (fun U q=>∀_ _ _ _ _ _ _:Value,dBl U fun r=>sB r (R (.returned (.tuple #[.pointer none,.int .i64 1])) q) (ask (0<=(↑a:Int)/\(↑a:Int)<=(↑a:Int)/\(8:Int)*(↑a:Int)<=(281474976710656:Int)/\(↑a:Int)<=(9223372036854775807:Int)) (al q (.cells (List.toArray (rowZ [.int .i64 0] (Int.toNat (↑a:Int)))) 3) fun s t=>al t (.cells #[.slice none 0 0,.slice none 0 0,.slice (some ⟨s,0,none⟩) (Int.toNat (↑a:Int)) (Int.toNat (↑a:Int)),.int .i64 0] 123) fun d u=>∃e:List Value->Heap->Prop,∃i:List Value->Heap->Nat,(e ([.int .i64 0]) u)/\∀b:Int,∀_ _ _ _ _ _ _ _ _ _ _ _ _ _ _ _ _ _ _ _ _:Value,∀c:Heap,(e ([.int .i64 b]) c)->sB (decide (b<(↑a:Int))) (nz p fun v=>ask (0<=b/\b<(↑a:Int)) (ld c (Addr.add v (Int.toNat b*1)) fun w=>dSl w fun x j y=>sB ((↑j:Int) != 128) (R (.returned (.tuple #[.pointer none,.int .i64 1])) c) (ld c ⟨d,0,none⟩ fun z=>dSl z fun f g h=>HCalls Tryz.prog 55 #[.slice x j y] c (Sp.retK (fun A k=>dSl A fun B C D=>(ld k ⟨d,0,none⟩ fun E=>dSl E fun F G I=>(Value.slice F G I)=(Value.slice f g h))/\al k (.cells #[.slice B C D] 49) fun J l=>(ld l ⟨d,0,none⟩ fun K=>dSl K fun L M N=>(Value.slice L M N)=(Value.slice f g h))/\semW Tryz.prog (Builtin.append_ #[22,22] 22 #[.slice f g h,.slice (some ⟨J,0,none⟩) 1 1]) nopR l fun O P=>dSl O fun Q S T=>st P ⟨d,0,none⟩ (.slice Q S T) fun m=>wr .i64 (b+1) fun n=>(e ([.int .i64 n]) m)/\(i
 [.int .i64 n] m)<(i [.int .i64 b] c)) nopR)))) (R (.returned (.tuple #[.pointer (some ⟨d,0,none⟩),.int .i64 0])) c)))) fun o=>sB (decide ((↑a:Int)<1)) (o (.bool true) H) (o (.bool (decide ((↑a:Int)>2048))) H)
theorem F22_calls {R:zE} {H:Heap} (a:Option Addr) (b c:Nat) (h:F22 a b c R H):HCalls Tryz.prog 22 #[.slice a b c] H R:=
 calls_by (.node none .leaf (.node none (.node (some ⟨[(14,4)],[7,8,9,10,11,12,13]⟩) .leaf .leaf) (.node none .leaf (.node none (.node none .leaf (.node none (.node (some ⟨[(22,3)],[2,3,6,23,24,25,26,27,28,29,30,31,32,33,34,35,36,37,38,39,40]⟩) .leaf .leaf) .leaf)) .leaf)))) Tryz.func22 rfl (by kernel_rfl) h
end Go.Proofs.YtkaikaodhegmhaaGreat.E
namespace Go.Proofs.YtkaikaodhegmhaaGreat.E
open Go Go.Proofs
set_option linter.unusedVariables false
set_option maxRecDepth 100000
def F29 (a:Option Addr) (h:Int) (R:zE) (H:Heap):Prop:=
 HCalls Tryz.prog 79 #[.pointer a,.int .i64 h] H (Sp.retK (fun i b=>dT 2 i fun j k=>dPtr j fun l=>dInt .i64 k fun c=>sB (c != 0) (R (.returned (.tuple #[.pointer none,.int .i64 c])) b) (HCalls Tryz.prog 80 #[] b (Sp.retK (fun m n=>dPtr m fun o=>al n (.map #[] 0) fun d e=>al e (.cells #[.int .i32 0,.int .u32 0,.pointer a,.pointer l,.pointer o,.map (some d),.bool false,.bool false,.int .i64 0,.map none] 102) fun f g=>R (.returned (.tuple #[.pointer (some ⟨f,0,none⟩),.int .i64 0])) g) (pnR R)))) (pnR R))
theorem F29_calls {R:zE} {H:Heap} (a:Option Addr) (b:Int) (h:F29 a b R H):HCalls Tryz.prog 29 #[.pointer a,.int .i64 b] H R:=
 calls_by .leaf Tryz.func29 rfl (by kernel_rfl) h
def F30 (a:Option Addr) (e:Int) (R:zE) (H:Heap):Prop:=
 sB (Option.isNone a) (R (.returned (.tuple #[.pointer none,.int .i64 2])) H) (HCalls Tryz.prog 81 #[.pointer a,.int .i64 e] H (Sp.retK (fun f b=>dT 2 f fun g h=>dPtr g fun i=>dInt .i64 h fun c=>sB (c != 0) (R (.returned (.tuple #[.pointer none,.int .i64 c])) b) (al b (.cells #[.slice none 0 0,.int .i64 0] 139) fun j k=>al k (.cells #[.pointer a,.pointer i,.pointer (some ⟨j,0,none⟩),.slice none 0 0,.bool false,.bool false,.int .i64 0,.slice none 0 0] 143) fun l d=>R (.returned (.tuple #[.pointer (some ⟨l,0,none⟩),.int .i64 0])) d)) (pnR R)))
theorem F30_calls {R:zE} {H:Heap} (a:Option Addr) (b:Int) (h:F30 a b R H):HCalls Tryz.prog 30 #[.pointer a,.int .i64 b] H R:=
 calls_by .leaf Tryz.func30 rfl (by kernel_rfl) h
def F33 (a:Option Addr) (R:zE) (H:Heap):Prop:=
 sB (Option.isNone a) (R (.returned (.bool false)) H) (nz a fun c=>HCalls Tryz.prog 94 #[.pointer (some c)] H (Sp.retK (fun i b=>nz a fun d=>ld b (Addr.add d 2) fun e=>dPtr e fun f=>sB (Option.isNone f) (nz a fun g=>HCalls Tryz.prog 34 #[.pointer (some g)] b (Sp.retK (fun j h=>R (.returned (.bool false)) h) (pnR R))) (R (.returned (.bool true)) b)) (pnR R)))
theorem F33_calls {R:zE} {H:Heap} (a:Option Addr) (h:F33 a R H):HCalls Tryz.prog 33 #[.pointer a] H R:=
 calls_by .leaf Tryz.func33 rfl (by kernel_rfl) h
def F35 (o:Option Addr) (R:zE) (H:Heap):Prop:=
 HCalls Tryz.prog 96 #[.pointer o] H (Sp.retK (fun S n=>dBl S fun T=>sB (!T) (R (.returned (.slice none 0 0)) n) (nz o fun U=>ld n (Addr.add U 2) fun V=>dMap V fun W=>semW Tryz.prog (Instr.range 159 (.map W)) (pnR R) n fun p q=>∃e:List Value->Heap->Prop,∃g:List Value->Heap->Nat,(e ([.slice none 0 0]) q)/\∀b:Option Addr,∀c:Nat,∀d:Nat,∀_ _ _ _ _ _ _ _ _ _:Value,∀f:Heap,(e ([.slice b c d]) f)->semW Tryz.prog (Instr.next p false 0) (pnR R) f fun r h=>dNx r (HCalls Tryz.prog 97 #[.slice b c d] h (Sp.retK (fun X s=>HCalls Tryz.prog 98 #[.slice b c d] s (Sp.retK (fun t u=>dSl t fun v w x=>R (.returned (.slice v w x)) u) (pnR R))) (pnR R))) fun Y Z=>semW Tryz.prog (Instr.entry p) (pnR R) h fun y z=>dT 2 y fun aa A=>dA 5 A fun B C D E F=>al z (.cells #[.int .i64 0,.int .i64 0,.int .i64 0,.slice none 0 0,.slice none 0 0] 163) fun a G=>zs3 G a B C D fun K=>st K ⟨a,3,none⟩ E fun L=>st L ⟨a,4,none⟩ F fun i=>ld i ⟨a,1,none⟩ fun M=>dInt .i64 M fun N=>al i (.cells #[.int .i64 N] 3) fun O P=>semW Tryz.prog (Builtin.append_ #[33,33] 33 #[.slice b c d,.slice (some ⟨O,0,none⟩) 1 1]) (pnR R) P fun Q j=>dSl Q fun k l m=>(e ([.slice k l m]) j)/\(g [.slice k l m] j)<(g [.slice b c d] f))) (pnR R))
theorem F35_calls {R:zE} {H:Heap} (a:Option Addr) (h:F35 a R H):HCalls Tryz.prog 35 #[.pointer a] H R:=
 calls_by (.node none .leaf (.node none .leaf (.node none .leaf (.node none (.node none .leaf (.node none (.node (some ⟨[(3,33)],[5,14,15,16,17,18,19,20,21,22]⟩) .leaf .leaf) .leaf)) .leaf)))) Tryz.func35 rfl (by kernel_rfl) h
def F36 (i:Option Addr) (c z:Nat) (j:Option Addr) (e A f:Nat) (k l:Array Value) (R:zE) (H:Heap):Prop:=
 sB ((↑c:Int) != (↑e:Int)) (R (.returned (.bool false)) H) (∃h:List Value->Heap->Prop,∃m:List Value->Heap->Nat,(h ([.int .i64 0]) H)/\∀a:Int,∀_ _ _ _ _ _ _ _ _ _ _ _ _ _ _ _ _ _:Value,∀b:Heap,(h ([.int .i64 a]) b)->sB (decide (a<(↑c:Int))) (nz i fun n=>ask (0<=a/\a<(↑c:Int)) (ld b (Addr.add n (Int.toNat a*1)) fun o=>dSl o fun p q r=>nz j fun s=>ask (0<=a/\a<(↑e:Int)) (ld b (Addr.add s (Int.toNat a*1)) fun t=>dSl t fun u v w=>gB (plainFn Tryz.prog f) (HCalls Tryz.prog f (argsOf k [.slice p q r,.slice u v w] l) b (Sp.retK (fun x d=>dBl x fun y=>sB (!y) (R (.returned (.bool false)) d) (wr .i64 (a+1) fun g=>(h ([.int .i64 g]) d)/\(m [.int .i64 g] d)<(m [.int .i64 a] b))) (pnR R)))))) (R (.returned (.bool true)) b))
theorem F36_calls {R:zE} {H:Heap} (a:Option Addr) (b c:Nat) (d:Option Addr) (e f g:Nat) (i j:Array Value) (h:F36 a b c d e f g i j R H):HCalls Tryz.prog 36 #[.slice a b c,.slice d e f,.func (Fn.func g) i j] H R:=
 calls_by (.node none .leaf (.node none .leaf (.node none (.node none .leaf (.node none (.node (some ⟨[(17,3)],[6,7,8,9,18,19,20,21,22,23,24,25,26,27,28,29,30,31]⟩) .leaf .leaf) .leaf)) .leaf))) Tryz.func36 rfl (by kernel_rfl) h
def F37 (a:Option Addr) (b c:Nat) (d:Option Addr) (e f:Nat) (R:zE) (H:Heap):Prop:=
 semW Tryz.prog (convert 49 9 (.slice a b c)) (pnR R) H fun h i=>dStr h fun j=>semW Tryz.prog (convert 49 9 (.slice d e f)) (pnR R) i fun k l=>dStr k fun g=>R (.returned (.bool (ByteArray.toList j==ByteArray.toList g))) l
theorem F37_calls {R:zE} {H:Heap} (a:Option Addr) (b c:Nat) (d:Option Addr) (e f:Nat) (h:F37 a b c d e f R H):HCalls Tryz.prog 37 #[.slice a b c,.slice d e f] H R:=
 calls_by .leaf Tryz.func37 rfl (by kernel_rfl) h
def F38 (a:Option Addr) (R:zE) (H:Heap):Prop:=
 HCalls Tryz.prog 33 #[.pointer a] H (Sp.retK (fun m j=>dBl m (fun d=>sB (!d) (R (.returned (.int .i64 0)) j) (nz a (fun b=>nz a (fun e=>ld j (Addr.add e 2) (fun n=>dPtr n (fun g=>HCalls Tryz.prog 99 #[.pointer g] j (Sp.retK (fun o p=>dInt .i64 o (fun f=>HCallsD Tryz.prog 34 #[.pointer (some b)] FrameMode.returning p (fun e11 u12 h=>match e11 with|.returned v=>leavesV Tryz.prog Tryz.f38 (Act.tmps (Act.mk #[.pointer a,undef,.int .i64 f,.pointer a,.bool d,.bool !d,.pointer a,.pointer (some b),.pointer (some b),.pointer a,.pointer (some e),.pointer (some (Addr.add e 2)),.pointer g,.int .i64 f] [Deferred.mk (Target.fn (Fn.func 34) #[]) #[.pointer (some b)]])) R [] (settle u12) h|.panicked c=>leavesV Tryz.prog Tryz.f38 (Act.tmps (Act.mk #[.pointer a,undef,.int .i64 f,.pointer a,.bool d,.bool !d,.pointer a,.pointer (some b),.pointer (some b),.pointer a,.pointer (some e),.pointer (some (Addr.add e 2)),.pointer g,.int .i64 f] [Deferred.mk (Target.fn (Fn.func 34) #[]) #[.pointer (some b)]])) R [] (raised u12 c) h|.outgrown=>False))) (fun k l=>HCallsD Tryz.prog 34 #[.pointer (some b)] (FrameMode.panicking k) l (fun e16 u17 i=>match e16 with|.returned v=>leavesV Tryz.prog Tryz.f38 (Act.tmps (Act.mk #[.pointer a,undef,.int .i64 0,.pointer a,.bool d,.bool !d,.pointer a,.pointer (some b),.pointer (some b),.pointer a,.pointer (some e),.pointer (some (Addr.add e 2)),.pointer g,undef] [Deferred.mk (Target.fn (Fn.func 34) #[]) #[.pointer (some b)]])) R [] (settle u17) i|.panicked c=>leavesV Tryz.prog Tryz.f38 (Act.tmps (Act.mk #[.pointer a,undef,.int .i64 0,.pointer a,.bool d,.bool !d,.pointer a,.pointer (some b),.pointer (some b),.pointer a,.pointer (some e),.pointer (some (Addr.add e 2)),.pointer g,undef] [Deferred.mk (Target.fn (Fn.func 34) #[]) #[.pointer (some b)]])) R [] (raised u17 c) i|.outgrown=>False)))))))))) (pnR R))
theorem F38_calls {R:zE} {H:Heap} (a:Option Addr) (h:F38 a R H):HCalls Tryz.prog 38 #[.pointer a] H R:=
 calls_by .leaf Tryz.func38 rfl (by kernel_rfl) h
def F39 (a:Option Addr) (g:Int) (R:zE) (H:Heap):Prop:=
 HCalls Tryz.prog 33 #[.pointer a] H (Sp.retK (fun o l=>dBl o (fun h=>sB (!h) (R (.returned (.tuple #[.slice none 0 0,.int .i64 2])) l) (nz a (fun b=>HCalls Tryz.prog 47 #[.pointer a,.int .i64 g] l (Sp.retK (fun p q=>dT 2 p (fun r s=>dSl r (fun i d e=>dInt .i64 s (fun f=>HCallsD Tryz.prog 34 #[.pointer (some b)] FrameMode.returning q (fun e13 u14 j=>match e13 with|.returned v=>leavesV Tryz.prog Tryz.f39 (Act.tmps (Act.mk #[.pointer a,.int .i64 g,undef,undef,.slice i d e,.int .i64 f,.pointer a,.bool h,.bool !h,.pointer a,.pointer (some b),.pointer (some b),.pointer a,.int .i64 g,.tuple #[.slice i d e,.int .i64 f],.slice i d e,.int .i64 f] [Deferred.mk (Target.fn (Fn.func 34) #[]) #[.pointer (some b)]])) R [] (settle u14) j|.panicked c=>leavesV Tryz.prog Tryz.f39 (Act.tmps (Act.mk #[.pointer a,.int .i64 g,undef,undef,.slice i d e,.int .i64 f,.pointer a,.bool h,.bool !h,.pointer a,.pointer (some b),.pointer (some b),.pointer a,.int .i64 g,.tuple #[.slice i d e,.int .i64 f],.slice i d e,.int .i64 f] [Deferred.mk (Target.fn (Fn.func 34) #[]) #[.pointer (some b)]])) R [] (raised u14 c) j|.outgrown=>False))))) (fun m n=>HCallsD Tryz.prog 34 #[.pointer (some b)] (FrameMode.panicking m) n (fun e18 u19 k=>match e18 with|.returned v=>leavesV Tryz.prog Tryz.f39 (Act.tmps (Act.mk #[.pointer a,.int .i64 g,undef,undef,.slice none 0 0,.int .i64 0,.pointer a,.bool h,.bool !h,.pointer a,.pointer (some b),.pointer (some b),.pointer a,.int .i64 g,undef,undef,undef] [Deferred.mk (Target.fn (Fn.func 34) #[]) #[.pointer (some b)]])) R [] (settle u19) k|.panicked c=>leavesV Tryz.prog Tryz.f39 (Act.tmps (Act.mk #[.pointer a,.int .i64 g,undef,undef,.slice none 0 0,.int .i64 0,.pointer a,.bool h,.bool !h,.pointer a,.pointer (some b),.pointer (some b),.pointer a,.int .i64 g,undef,undef,undef] [Deferred.mk (Target.fn (Fn.func 34) #[]) #[.pointer (some b)]])) R [] (raised u19 c) k|.outgrown=>False))))))) (pnR R))
theorem F39_calls {R:zE} {H:Heap} (a:Option Addr) (b:Int) (h:F39 a b R H):HCalls Tryz.prog 39 #[.pointer a,.int .i64 b] H R:=
 calls_by .leaf Tryz.func39 rfl (by kernel_rfl) h
def F40 (s t u:Value) (R:zE) (H:Heap):Prop:=
 al H (.cells #[s,t,u] 26) fun d k=>zl3 k d fun v3 v4 v5=>HCalls Tryz.prog 78 #[.agg #[v3,v4,v5]] k (Sp.retK (fun v6 v=>dInt .i64 v6 fun n8=>sB (n8 != 0) (R (.returned (.tuple #[.slice none 0 0,.int .i64 170])) v) (ld v ⟨d,0,none⟩ fun v9=>dInt .i64 v9 fun w=>∃i:List Value->Heap->Prop,∃l:List Value->Heap->Nat,(i ([.slice none 0 0,.int .i64 0]) v)/\∀b:Option Addr,∀c:Nat,∀g:Nat,∀e:Int,∀_ _ _ _ _ _ _ _ _:Value,∀a:Heap,(i ([.slice b c g,.int .i64 e]) a)->sB (decide (e<w)) (zl3 a d fun x y z=>HCalls Tryz.prog 100 #[.agg #[x,y,z],.int .i64 e] a (Sp.retK (fun A B=>dSl A fun C D E=>semW Tryz.prog (Builtin.append_ #[22,22] 22 #[.slice b c g,.slice C D E]) (pnR R) B fun F m=>dSl F fun n o p=>wr .i64 (e+1) fun q=>(i ([.slice n o p,.int .i64 q]) m)/\(l [.slice n o p,.int .i64 q] m)<(l [.slice b c g,.int .i64 e] a)) (pnR R))) (ld a ⟨d,2,none⟩ fun G=>dInt .i64 G fun I=>ask ((4:Int)≠(0:Int)) (wr .i64 (Int.tdiv I 4) fun J=>wr .i64 (2+J) fun h=>HCalls Tryz.prog 101 #[.agg #[.int .i64 2,.int .i64 2,.int .i64 128,.int .i64 h,.int .i64 0,.int .i64 0,.int .i64 0,.int .i64 0,.int .i64 0]] a (Sp.retK (fun K r=>dT 2 K fun L M=>dSl L fun N O P=>dInt .i64 M fun ah=>nz b fun Q=>ask (0<=(2:Int)/\(2:Int)<(↑c:Int)) (ld r (Addr.add Q (Int.toNat 2*1)) fun S=>dSl S fun T j f=>ask (0<=(64:Int)/\(64:Int)<=(↑j:Int)/\(↑j:Int)<=(↑f:Int)/\(↑f:Int)<=(↑f:Int))
 (semW Tryz.prog (Builtin.copy_ #[49,49] 3 #[.slice (slO T 1 64 (↑f:Int)) (Int.toNat (↑j:Int) - Int.toNat 64) (Int.toNat (↑f:Int) - Int.toNat 64),.slice N O P]) (pnR R) r fun U V=>dInt .i64 U fun ai=>al V (.cells #[.int .i64 2,.string (ByteArray.mk #[UInt8.ofBitVec 46#8]),.int .i64 2,.string (ByteArray.mk #[UInt8.ofBitVec 46#8,UInt8.ofBitVec 46#8])] 170) fun W X=>HCalls Tryz.prog 102 #[.slice (some ⟨W,0,none⟩) 2 2] X (Sp.retK (fun Y Z=>dT 2 Y fun aa ab=>dSl aa fun ac ad ae=>dInt .i64 ab fun aj=>nz b fun af=>ask (0<=h/\h<(↑c:Int)) (st Z (Addr.add af (Int.toNat h*1)) (.slice ac ad ae) fun ag=>R (.returned (.tuple #[.slice b c g,.int .i64 0])) ag)) (pnR R))))) (pnR R)))))) (pnR R))
theorem F40_calls {R:zE} {H:Heap} (a b c:Value) (h:F40 a b c R H):HCalls Tryz.prog 40 #[.agg #[a,b,c]] H R:=
 calls_by (.node none .leaf (.node none .leaf (.node none .leaf (.node none (.node none .leaf (.node none (.node (some ⟨[(4,22),(16,3)],[5,17,18,19,20,21,22,23,24]⟩) .leaf .leaf) .leaf)) .leaf)))) Tryz.func40 rfl (by kernel_rfl) h
def F41 (c:Option Addr) (x1:Int) (R:zE) (H:Heap):Prop:=
 nz c fun a1=>ld H (Addr.add a1 1) fun v2=>dPtr v2 fun p3=>nz c fun p=>ld H (Addr.add p 3) fun v5=>dPtr v5 fun q=>HCalls Tryz.prog 67 #[.pointer p3] H (Sp.retK (fun v7 r=>dSl v7 fun s b t=>(ld r (Addr.add p 3) fun u=>dPtr u fun v=>(Value.pointer v)=(Value.pointer q))/\HCalls Tryz.prog 68 #[.pointer q] r (Sp.retK (fun w x=>dSl w fun y z A=>HCalls Tryz.prog 63 #[.slice s b t,.slice y z A] x (Sp.retK (fun B a=>dBl B fun C=>sB (!C) (R (.returned (.bool false)) a) (jn (α:=VFH 0) (fun d=>∀_ _ _ _ _ _ _ _ _ _ _ _ _ _ _ _ _ _ _ _ _ _ _ _ _ _ _ _:Value,nz c fun D=>ld d (Addr.add D 1) fun E=>dPtr E fun F=>nz c fun f=>ld d (Addr.add f 3) fun G=>dPtr G fun g=>HCalls Tryz.prog 105 #[.pointer F,.int .i64 0,.bool true] d (Sp.retK (fun I h=>dInt .i64 I fun J=>(ld h (Addr.add f 3) fun K=>dPtr K fun L=>(Value.pointer L)=(Value.pointer g))/\HCalls Tryz.prog 106 #[.pointer g,.int .i64 0,.bool true] h (Sp.retK (fun M N=>dInt .i64 M fun O=>R (.returned (.bool (J==O))) N) nopR)) nopR)) fun i=>sB (decide ((↑b:Int)>0)) (wr .u64 x1 fun P=>wr .u64 ((↑b:Int)) fun j=>ask (j≠(0:Int)) (nm (Int.tmod P j) fun Q=>wr .i64 Q fun e=>nz s fun S=>ask (0<=e/\e<(↑b:Int)) (ld a (Addr.add S (Int.toNat e*1)) fun T=>dInt .i64 T fun k=>nz c fun U=>ld a (Addr.add U 1) fun V=>dPtr V fun W=>nz c fun l=>ld a (Addr.add l 3) fun X=>dPtr X fun m=>HCalls Tryz.prog 103 #[.pointer W,.int .i64 k] a (Sp.retK (fun
 Y n=>dInt .i64 Y fun Z=>(ld n (Addr.add l 3) fun aa=>dPtr aa fun ab=>(Value.pointer ab)=(Value.pointer m))/\HCalls Tryz.prog 104 #[.pointer m,.int .i64 k] n (Sp.retK (fun ac o=>dInt .i64 ac fun ad=>sB (Z != ad) (R (.returned (.bool false)) o) (i o)) nopR)) nopR)))) (i a))) (pnR R))) nopR)) nopR)
theorem F41_calls {R:zE} {H:Heap} (a:Option Addr) (b:Int) (h:F41 a b R H):HCalls Tryz.prog 41 #[.pointer a,.int .i64 b] H R:=
 calls_by (.node none .leaf (.node none .leaf (.node none .leaf (.node (some ⟨[],[4,7,22,23,24,25,26,27,28,29,30,31,32,33,34,35,36,37,38,39,40,41,42,43,44,45,46,47]⟩) .leaf .leaf)))) Tryz.func41 rfl (by kernel_rfl) h
def F42 (a:Option Addr) (f x2:Int) (ac:Option Addr) (ad ae:Nat) (af:Option Addr) (ag ah:Nat) (R:zE) (H:Heap):Prop:=
 HCalls Tryz.prog 107 #[.pointer a,.int .i64 f] H (Sp.retK (fun v1 e=>dBl v1 fun b3=>sB (!b3) (R (.returned (.tuple #[.int .i64 0,.int .i64 90])) e) (jn (α:=VFH 1) (fun v4 H5=>∀_ _ _ _ _ _ _ _ _ _ _ _ _ _ _ _ _:Value,dBl v4 fun g=>jn (α:=VFH 1) (fun ai o=>∀_ _ _ _ _ _ _ _ _ _ _ _ _ _ _:Value,dSl ai fun aj ak am=>nz a fun an=>ld o (Addr.add an 2) fun ao=>dPtr ao fun ap=>HCalls Tryz.prog 109 #[.pointer ap,.int .i64 f,.int .i64 x2,.slice ac ad ae,.slice af ag ah] o (Sp.retK (fun aq b=>dT 2 aq fun ar au=>dInt .i64 ar fun av=>dInt .i64 au fun p=>sB (p != 0) (R (.returned (.tuple #[.int .i64 0,.int .i64 p])) b) (jn (α:=VFH 0) (fun aw=>∀_ _ _ _ _ _ _ _ _ _ _ _ _ _ _ _ _ _ _ _ _ _ _ _ _ _ _ _ _:Value,R (.returned (.tuple #[.int .i64 av,.int .i64 0])) aw) fun h=>jn (α:=VFH 1) (fun ax d=>∀_ _ _ _ _ _ _ _ _ _ _ _:Value,dBl ax fun ay=>sB ay (nz a fun az=>st d (Addr.add az 5) (.bool true) fun q=>h q) (sB g (nz a fun r=>ld d (Addr.add r 7) fun s=>dSl s fun t u v=>al d (.cells #[.int .i64 f,.slice aj ak am] 175) fun w x=>semW Tryz.prog (Builtin.append_ #[141,141] 141 #[.slice t u v,.slice (some ⟨w,0,none⟩) 1 1]) (pnR R) x fun y z=>dSl y fun A B C=>nz a fun D=>st z (Addr.add D 7) (.slice A B C) fun E=>h E) (h d))) fun i=>sB g (nz a fun F=>ld b (Addr.add F 7) fun G=>dSl G fun aA I aB=>nz a fun j=>ld b (Addr.add j 6) fun J=>dInt .i64 J fun k=>(ld b (Addr.add j 6) fun K=>dInt .i64 K fun L
 =>(Value.int IntKind.i64 L)=(Value.int IntKind.i64 k))/\i (.bool (decide ((↑I:Int)>=k))) b) (i (.bool false) b))) (pnR R))) fun l=>sB g (HCalls Tryz.prog 58 #[.pointer a,.int .i64 f] H5 (Sp.retK (fun M m=>dT 2 M fun N O=>dSl N fun P Q S=>dInt .i64 O fun n=>sB (n != 0) (R (.returned (.tuple #[.int .i64 0,.int .i64 n])) m) (l (.slice P Q S) m)) (pnR R))) (l (.slice none 0 0) H5)) fun c=>nz a fun T=>ld e (Addr.add T 4) fun U=>dBl U fun V=>sB V (nz a fun W=>ld e (Addr.add W 5) fun X=>dBl X fun Y=>sB (!Y) (HCalls Tryz.prog 108 #[.pointer a,.int .i64 f] e (Sp.retK (fun Z aa=>dBl Z fun ab=>c (.bool !ab) aa) (pnR R))) (c (.bool false) e)) (c (.bool false) e))) (pnR R))
theorem F42_calls {R:zE} {H:Heap} (g:Option Addr) (i j:Int) (a:Option Addr) (b c:Nat) (d:Option Addr) (e f:Nat) (h:F42 g i j a b c d e f R H):HCalls Tryz.prog 42 #[.pointer g,.int .i64 i,.int .i64 j,.slice a b c,.slice d e f] H R:=
 calls_by (.node none .leaf (.node none .leaf (.node (some ⟨[(12,4)],[22,23,24,25,26,27,28,29,30,31,32,33,34,35,36,37,38]⟩) .leaf (.node none .leaf (.node (some ⟨[(13,49)],[10,11,14,15,39,40,41,42,43,44,45,46,47,48,49]⟩) .leaf (.node none .leaf (.node none .leaf (.node (some ⟨[],[65,66,67,68,69,70,71,72,73,74,75,76,77,78,79,80,81,82,83,84,85,86,87,88,89,90,91,92,93]⟩) (.node (some ⟨[(77,4)],[65,66,67,68,69,70,71,72,73,74,75,76]⟩) .leaf .leaf) .leaf)))))))) Tryz.func42 rfl (by kernel_rfl) h
def F43 (j k l:Value) (R:zE) (H:Heap):Prop:=
 al H (.cells #[j,k,l] 26) fun a m=>jn (α:=VFH 1) (fun Q b=>∀_ _ _ _ _ _ _ _ _ _ _ _ _:Value,dBl Q fun n=>jn (α:=VFH 1) (fun o g=>∀_ _ _ _ _ _ _ _ _ _ _ _ _ _ _:Value,dBl o fun p=>sB p (R (.returned (.int .i64 170)) g) (R (.returned (.int .i64 0)) g)) fun c=>sB (!n) (c (.bool true) b) (ld b ⟨a,2,none⟩ fun q=>dInt .i64 q fun r=>ask ((4:Int)≠(0:Int)) (nm (Int.tmod r 4) fun s=>sB (s != 0) (c (.bool true) b) (ld b ⟨a,1,none⟩ fun t=>dInt .i64 t fun h=>zl3 b a fun u v w=>HCalls Tryz.prog 111 #[.agg #[u,v,w]] b (Sp.retK (fun x i=>dInt .i64 x fun y=>(ld i ⟨a,1,none⟩ fun z=>dInt .i64 z fun A=>(Value.int IntKind.i64 A)=(Value.int IntKind.i64 h))/\wr .i64 (y+1) fun B=>c (.bool (decide (h<B))) i) nopR))))) fun d=>ld m ⟨a,0,none⟩ fun C=>dInt .i64 C fun D=>HCalls Tryz.prog 110 #[.int .i64 D,.int .i64 1,.int .i64 8] m (Sp.retK (fun E e=>dBl E fun F=>sB F (ld e ⟨a,1,none⟩ fun G=>dInt .i64 G fun I=>HCalls Tryz.prog 110 #[.int .i64 I,.int .i64 8,.int .i64 256] e (Sp.retK (fun J f=>dBl J fun K=>sB K (ld f ⟨a,2,none⟩ fun L=>dInt .i64 L fun M=>HCalls Tryz.prog 110 #[.int .i64 M,.int .i64 4,.int .i64 64] f (Sp.retK (fun N O=>dBl N fun P=>d (.bool P) O) (pnR R))) (d (.bool false) f)) (pnR R))) (d (.bool false) e)) (pnR R))
theorem F43_calls {R:zE} {H:Heap} (a b c:Value) (h:F43 a b c R H):HCalls Tryz.prog 43 #[.agg #[a,b,c]] H R:=
 calls_by (.node none .leaf (.node (some ⟨[(3,4)],[4,5,6,7,8,9,10,11,12,13,14,15,16]⟩) .leaf (.node none (.node (some ⟨[(32,4)],[17,18,19,20,21,22,23,24,25,26,27,28,29,30,31]⟩) .leaf .leaf) .leaf))) Tryz.func43 rfl (by kernel_rfl) h
def F44 (c d e:Value) (R:zE) (H:Heap):Prop:=
 al H (.cells #[c,d,e] 26) fun b a=>zl3 a b fun g h i=>ld a ⟨b,1,none⟩ fun j=>dInt .i64 j fun k=>HCalls Tryz.prog 112 #[.agg #[g,h,i],.int .i64 k] a (Sp.retK (fun l m=>dInt .i64 l fun f=>R (.returned (.int .i64 f)) m) (pnR R))
theorem F44_calls {R:zE} {H:Heap} (a b c:Value) (h:F44 a b c R H):HCalls Tryz.prog 44 #[.agg #[a,b,c]] H R:=
 calls_by .leaf Tryz.func44 rfl (by kernel_rfl) h
end Go.Proofs.YtkaikaodhegmhaaGreat.E
