/- My own texts, joined. -/
import Derived.Conc.MuLone
import Derived.Deep.QuietTactic
import Derived.KernelRfl
import Derived.Laws.BytesArg
import Derived.Laws.IdiomStrings
import Derived.Laws.Strings
import Derived.Lib.AppendZerosOnto
import Derived.Lib.SlBytesConst
import Derived.Maps.RangeRun
import Derived.Shelf.SlSortCmp.NoneTotal
import Derived.Shelf.Slices.In.SortNone
import Derived.Shelf.Sort.Plain
import Derived.Test.YtkaikaodhegmhaaGreatProg
import Derived.Test.YtkaikaodhegmhaaGreatAS3
namespace Go.Proofs.YtkaikaodhegmhaaGreat.E
open Go Go.Proofs Go.RowKit Go.Maps Go.Shelf Go.Sort
set_option linter.unusedVariables false
set_option linter.unusedSimpArgs false
set_option maxHeartbeats 400000 in
theorem held1 {f0 c r:Nat} {m:List (Int×Value)} {bx by_:Nat} (x y ux uy:Int) {s:TH} {τ:Nat} (w:World) (hw:w.heap=s.h) (h0:w.cell? ⟨f0,0,none⟩=some (.pointer (some ⟨c,0,none⟩))) (h1:w.cell? ⟨c,2,none⟩=some (.map (some r)))
  (hm:MapK (Value.int .i64) s r m τ) (hx:mget x m=some (.pointer (some ⟨bx,0,none⟩))) (hy:mget y m=some (.pointer (some ⟨by_,0,none⟩)))
  (hbx:w.cell? ⟨bx,2,none⟩=some (.int .i64 ux)) (hby:w.cell? ⟨by_,2,none⟩=some (.int .i64 uy)) (hux:0<=ux/\ux<=9223372036854775807) (huy:0<=uy/\uy<=9223372036854775807):
  Calls Tryz.prog 336 #[.int .i64 x,.int .i64 y,.pointer (some ⟨f0,0,none⟩)] w fun e w'=>e=.returned (.int .i64 (ux - uy))/\∃n,w'=w.drewN n:=by
 have L1:RowKit.Hid (∀n,(Instr.lookup 208 (.map (some r)) (.int .i64 x) false).run Tryz.prog (w.drewN n)=.ok (.pointer (some ⟨bx,0,none⟩)) (w.drewN n)):=fun n=>by
  have:=run_look keyI u208 z263 hm x false (w.drewN n) hw
  rw [hx] at this;exact this
 have L2:RowKit.Hid (∀n,(Instr.lookup 208 (.map (some r)) (.int .i64 y) false).run Tryz.prog (w.drewN n)=.ok (.pointer (some ⟨by_,0,none⟩)) (w.drewN n)):=fun n=>by
  have:=run_look keyI u208 z263 hm y false (w.drewN n) hw
  rw [hy] at this;exact this
 have hwr:IntKind.i64.wrap (ux - uy)=ux - uy:=wrap_id (by omega) (by omega)
 clear hm hx hy hw
 go_enter Tryz.func336,Tryz.ntmps336
 go_wp2
 refine wp_region_quiet_lit (by kernel_rfl) (by kernel_rfl) ?_
 iterate 5 (refine wpQuiet_step (fun K hK=>?_);go_simp;refine hK _ ?_;clear hK K)
 refine wpQuiet_step (fun K hK=>?_)
 go_simp
 refine ⟨_,fun a=>by rw [L1.out a];exact ⟨rfl,rfl⟩,hK _ ?_⟩
 clear hK K
 iterate 8 (refine wpQuiet_step (fun K hK=>?_);go_simp;refine hK _ ?_;clear hK K)
 refine wpQuiet_step (fun K hK=>?_)
 go_simp
 refine ⟨_,fun a=>by rw [L2.out a];exact ⟨rfl,rfl⟩,hK _ ?_⟩
 clear hK K
 iterate 5 (refine wpQuiet_step (fun K hK=>?_);go_simp;refine hK _ ?_;clear hK K)
 refine wpQuiet_nil ?_
 rintro _ ⟨nq,rfl⟩
 go_wp2
 go_ret
 exact ⟨rfl,nq,rfl⟩
section
variable {α :Type} [Inhabited α]
theorem sortW_get (enc:α->Value) (w:World) (blk off m:Nat) (dk:Array α) (os:Array Obj) (j:Nat) (hj:j<w.heap.size):(sortWorld enc w blk off m dk os).heap[j]? =if blk=j then (w.heap[j]?).map (Go.Sort.onCells (Go.Sort.putCells enc off dk)) else w.heap[j]? :=by
 show ((w.heap.modify blk _)++os)[j]? =_
 rw [Array.getElem?_append_left (by simpa using hj),Array.getElem?_modify]
theorem sortW_on {enc:α->Value} {w:World} {s:TH} (hw:w.heap=s.h) (blk off m:Nat) (dk:Array α) (os:Array Obj):On blk s ⟨(sortWorld enc w blk off m dk os).heap,s.g⟩:=by
 refine ⟨?_,fun _ _=>rfl,fun j hj hn=>?_⟩
 ·show s.h.size<=((w.heap.modify blk _)++os).size
  simp [hw]
 show (sortWorld enc w blk off m dk os).heap[j]? =_
 rw [sortW_get _ _ _ _ _ _ _ _ (by rw [hw];exact hj),if_neg (fun e=>hn e.symm),hw]
theorem putCells_get (enc:α->Value) (off:Nat) (d:Array α) (c:Array Value) (j:Nat):(Go.Sort.putCells enc off d c)[j]? =(c[j]?).map fun x=>if off<=j/\j<off+d.size then enc d[j - off]! else x:=by
 unfold Go.Sort.putCells
 rw [Array.getElem?_mapIdx]
theorem sortW_own {enc:α->Value} {w:World} {s:TH} (hw:w.heap=s.h) {g o n c e τ:Nat} {xs:List Value} (hO:Own s (some ⟨g,o,none⟩) n c e 1 xs τ) (m:Nat) (dk:Array α) (hd:dk.size=n) (os:Array Obj):
  Own ⟨(sortWorld enc w g o m dk os).heap,s.g⟩ (some ⟨g,o,none⟩) n c e 1 (dk.toList.map enc) τ:=by
 rcases hO.2 with ⟨h0,_⟩|⟨g',o',L,h0,h1,h2,h3,h4,h5⟩
 ·cases h0
 ·cases h0
  have hg:(sortWorld enc w g o m dk os).heap[g]? =some (.cells (Go.Sort.putCells enc o dk L.toArray) e (0,0)):=by
   rw [sortW_get _ _ _ _ _ _ _ _ (by rw [hw];exact h1.lt),if_pos rfl,hw,h1.get]
   rfl
  refine ⟨by simp [hd],.inr ⟨g,o,(Go.Sort.putCells enc o dk L.toArray).toList,rfl,⟨by simpa using hg,h1.tag⟩,h2,h3,by simpa [Go.Sort.putCells] using h4,?_⟩⟩
  apply List.ext_getElem?
  intro i
  rw [List.getElem?_take,List.getElem?_drop]
  by_cases hi:i<n
  ·rw [if_pos (by omega),Array.getElem?_toList,putCells_get]
   have hL:o+i<L.length:=by omega
   simp [hL,hd,hi]
  ·rw [if_neg (by omega),List.getElem?_eq_none (by simp;omega)]
end
structure UsedAt (s:TH) (m:List (Int×Value)) (u:Int->Int) (τb:Nat):Prop where
 at_: ∀k∈m.map (·.1),∃b lb tb,mget k m=some (.pointer (some ⟨b,0,none⟩))/\Blk s b lb tb τb/\lb[2]? =some (.int .i64 (u k))/\0<=u k/\u k<=9223372036854775807
 inj: ∀x∈m.map (·.1),∀y∈m.map (·.1),u x=u y->x=y
theorem UsedAt.mv {s s':TH} {m:List (Int×Value)} {u:Int->Int} {τb:Nat} {B:Nat->Prop} (h:UsedAt s m u τb) (c:Chg B s s') (hn: ∀j,j<s.h.size->s.g j=τb->¬B j):UsedAt s' m u τb:=
 ⟨fun k hk=>by
  obtain ⟨b,lb,tb,h1,h2,h3⟩:=h.at_ k hk
  exact ⟨b,lb,tb,h1,h2.mv c (hn b h2.lt h2.tag),h3⟩,h.inj⟩
abbrev leU (u:Int->Int):Int->Int->Bool:=fun x y=>decide (u x<=u y)
theorem c_sortHeld {a:Option Addr} {n c f0 cc r tf τf tc τc τm τb τ:Nat} {ss:List Int} {m:List (Int×Value)} {lc:List Value} {s:TH} (u:Int->Int) (hO:Own s a n c 3 1 (ivs ss) τ) (hn:n<=17592186044416) (hF:Blk s f0 [.pointer (some ⟨cc,0,none⟩)] tf τf) (hC:Blk s cc lc tc τc) (hC2:lc[2]? =some (.map (some r)))
  (hm:MapK (Value.int .i64) s r m τm) (hU:UsedAt s m u τb) (hs: ∀x∈ss,x∈m.map (·.1)) (ht:τf≠τ/\τc≠τ/\τm≠τ/\τb≠τ):
  TRet Tryz.prog 342 #[.slice a n c,.func (.func 336) #[] #[.pointer (some ⟨f0,0,none⟩)]] s fun v s'=>v=.tuple #[]/\OnA a s s'/\Own s' a n c 3 1 (ivs (ss.mergeSort (leU u))) τ:=by
 have hl:ss.length=n:=by have:=hO.1;rw [ivs_len] at this;omega
 by_cases h0:n=0
 ·subst h0
  have hss:ss=[]:=List.eq_nil_of_length_eq_zero hl
  subst hss
  intro w hw
  refine (AnyF.slices_SortFunc_none (ρ:=Tryz.sortFA_ren) { Tryz.sortFA with } a c (.func (.func 336) #[] #[.pointer (some ⟨f0,0,none⟩)]) w).mono ?_
  rintro e w' ⟨rfl,rfl⟩
  exact ⟨⟨_,s,rfl,hw.symm,rfl,⟨Nat.le_refl _,fun _ _=>rfl,fun _ _ _=>rfl⟩,by simpa using hO⟩,Like.refl _⟩
 obtain ⟨g,o,rfl⟩: ∃g o,a=some ⟨g,o,none⟩:=by
  rcases hO.2 with ⟨_,h,_⟩|⟨g,o,L,h,_⟩
  ·exact absurd h h0
  ·exact ⟨g,o,h⟩
 have hgt:s.g g=τ:=hO.tagOf
 intro w hw
 let K:={k:Int // k∈m.map (·.1)}
 let enc:K->Value:=fun k=>.int .i64 k.1
 let cf:K->K->Int:=fun x y=>u x.1 - u y.1
 let d:Array K:=(ss.attach.map fun x=>⟨x.1,hs x.1 x.2⟩).toArray
 have hd:d.size=n:=by simp [d,hl]
 obtain ⟨x0,hx0⟩: ∃x,x∈ss:=by cases ss with|nil=>simp at hl;omega|cons x _=>exact ⟨x,by simp⟩
 letI:Inhabited K:=⟨⟨x0,hs x0 hx0⟩⟩
 have hdm:d.toList.map (fun k:K=>k.1)=ss:=by
  simp [d,Function.comp_def]
 have hne: ∀j,s.g j≠τ->j≠g:=fun j hj e=>hj (by rw [e];exact hgt)
 have hcmp:CmpLays1 Tryz.prog 336 #[.pointer (some ⟨f0,0,none⟩)] enc cf g o n w:=by
  intro m0 os dk hdk x y
  have hon:=sortW_on (enc:=enc) hw g o m0 dk os
  obtain ⟨bx,lx,tx,x1,x2,x3,x4⟩:=hU.at_ x.1 x.2
  obtain ⟨by_,ly,ty,y1,y2,y3,y4⟩:=hU.at_ y.1 y.2
  have e0:=hF.on hon (hne _ (by rw [hF.tag];exact ht.1))
  have e1:=hC.on hon (hne _ (by rw [hC.tag];exact ht.2.1))
  have e2:=hm.on hon (hne _ (by rw [hm.tag];exact ht.2.2.1))
  have e3:=x2.on hon (hne _ (by rw [x2.tag];exact ht.2.2.2))
  have e4:=y2.on hon (hne _ (by rw [y2.tag];exact ht.2.2.2))
  have h:=held1 (s:=⟨(sortWorld enc w g o m0 dk os).heap,s.g⟩) x.1 y.1 (u x.1) (u y.1) (sortWorld enc w g o m0 dk os) rfl (e0.cell 0) ((e1.cell 2).trans hC2) e2 x1 y1 ((e3.cell 2).trans x3) ((e4.cell 2).trans y3) x4 y4
  refine h.mono ?_
  rintro e w' ⟨rfl,q,rfl⟩
  exact ⟨rfl,q,#[],(grow_empty _).symm⟩
 have hH:Go.Sort.Holds enc w g o d:=by
  intro j hj
  have hj':j<n:=by rw [←hd];exact hj
  have hcell:=hO.sl.cells w hw j (enc d[j]!) (by
   have:(ivs ss)[j]? =some (enc d[j]!):=by
    rw [←hdm]
    simp [ivs,enc,hj]
   exact this)
  rw [add_mk] at hcell
  refine ⟨hcell,?_⟩
  rcases hO.2 with ⟨h,_⟩|⟨g',o',L,h,h1,_⟩
  ·cases h
  ·cases h
   rw [frozen_eq,hw];exact h1.frozen _
 have hlt: ∀x y:K,ltOf cf x y=decide (u x.1<u y.1):=fun x y=>by
  unfold ltOf
  by_cases h:u x.1<u y.1
  ·rw [decide_eq_true h];exact decide_eq_true (by show u x.1 - u y.1<0;omega)
  ·rw [decide_eq_false h];exact decide_eq_false (by show ¬(u x.1 - u y.1<0);omega)
 have hO2:SWO (ltOf cf):=⟨fun x=>by rw [hlt];simp,fun x y z h1 h2=>by rw [hlt] at*;simp at*;omega,fun x y z h1 h2=>by rw [hlt] at*;simp at*;omega⟩
 have hT: ∀x y,(ltOf cf) x y=false->(ltOf cf) y x=false->x=y:=fun x y h1 h2=>by
  rw [hlt] at h1 h2;simp at h1 h2
  exact Subtype.ext (hU.inj x.1 x.2 y.1 y.2 (by omega))
 have hS:=Any.slices_SortFunc_total (ρ:=Tryz.sortFA_ren) Tryz.sortFA enc (fun _=>rfl) cf hO2 336 #[.pointer (some ⟨f0,0,none⟩)] g o c d w (enters_of Tryz.func336 (by kernel_rfl) rfl) (by rw [hd];exact hcmp) hH (by rw [hw];rcases hO.2 with ⟨h,_⟩|⟨g',o',L,h,h1,_⟩<;>cases h;exact h1.lt) (by rw [hd];omega) hT
 rw [hd] at hS
 refine hS.mono ?_
 rintro e w' ⟨rfl,n',os,rfl⟩
 refine ⟨⟨_,⟨_,s.g⟩,rfl,rfl,rfl,Chg.mono (sortW_on (enc:=enc) hw g o n' _ os) (fun j hj e=>by simp [e]),?_⟩,rfl,rfl,rfl⟩
 have:=sortW_own (enc:=enc) hw hO n' (d.toList.mergeSort fun x y=> !(ltOf cf) y x).toArray (by simp [hd]) os
 have e:((d.toList.mergeSort fun x y=> !(ltOf cf) y x).toArray.toList.map enc)=ivs (ss.mergeSort (leU u)):=by
  show (d.toList.mergeSort _).map ((Value.int .i64) ∘ fun k:K=>k.1)=_
  rw [←List.map_map, ←hdm]
  unfold ivs
  congr 1
  apply List.map_mergeSort
  intro x _ y _
  rw [hlt]
  by_cases h:u x.1<=u y.1<;>simp [leU,h]<;>omega
 rw [e] at this
 exact this
theorem c_sfun {Bm r tb τb0 τm f0 cc tf τf tc τc τu:Nat} (τ:Nat) {m:List (Int×Value)} {lc:List Value} {s:TH} (u:Int->Int) (hB:Blk s Bm [.map (some r)] tb τb0) (hm:MapK (Value.int .i64) s r m τm) (hn:m.length<=17592186044416) (hk: ∀k∈m.map (·.1),inI64 k)
  (hF:Blk s f0 [.pointer (some ⟨cc,0,none⟩)] tf τf) (hC:Blk s cc lc tc τc) (hC2:lc[2]? =some (.map (some r))) (hU:UsedAt s m u τu):
  TRet Tryz.prog 334 #[.func (.func 343) #[] #[.pointer (some ⟨Bm,0,none⟩)],.func (.func 336) #[] #[.pointer (some ⟨f0,0,none⟩)]] s fun v s'=>∃(a:Option Addr) (c:Nat) (ss:List Int),v=.slice a m.length c/\ss.Perm (m.map (·.1))/\Ch [] s s'/\Own s' a m.length c 3 1 (ivs (ss.mergeSort (leU u))) τ:=by
 refine F334_calls _ _ _ _ _ _ ?_
 unfold F334
 obtain ⟨τ',hτ⟩: ∃τ',τf≠τ'/\τc≠τ'/\τm≠τ'/\τu≠τ':=⟨τf+τc+τm+τu+1,by omega⟩
 refine tcall (c_collect τ' _ _ _ _ _ hB hm hn hk) ?_
 rintro _ s1 ⟨⟨a,c,ss,rfl,hp,hO,hnew⟩,c1⟩
 refine dSl_i ?_
 refine tcall (c_sortHeld u hO hn (hF.ch c1 (by simp)) (hC.ch c1 (by simp)) hC2 (hm.ch c1 (by simp)) (hU.mv c1 (tagn (by simp))) (fun x hx=>hp.mem_iff.1 hx) hτ) ?_
 rintro _ s2 ⟨rfl,c2,hO2⟩
 have c3:Ch [] s s2:=Chg.trans c1 c2 fun j hj hB=>by
  cases a with
  |none=>simp at hB
  |some b=>simp at hB;have:=hnew b rfl;omega
 -- the row's mark: as asked
 let s3:TH:=⟨s2.h,fun j=>if j<s.h.size then s2.g j else τ⟩
 have c4:Ch [] s s3:=⟨c3.size,fun j hj=>by show (if j<s.h.size then s2.g j else τ)=_;rw [if_pos hj];exact c3.tag j hj,c3.get⟩
 refine ret_t (s:=s3) ⟨a,c,ss,rfl,hp,c4,hO2.1,hO2.2.imp id ?_⟩
 rintro ⟨g,o,L,h1,h2,h3⟩
 refine ⟨g,o,L,h1,⟨h2.get,?_⟩,h3⟩
 have:=hnew _ h1
 show (if g<s.h.size then s2.g g else τ)=τ
 rw [if_neg (by simp at this;omega)]
end Go.Proofs.YtkaikaodhegmhaaGreat.E
namespace Go.Proofs.YtkaikaodhegmhaaGreat.E
open Go
set_option linter.unusedVariables false
theorem dm {b q t:Int} (hb:0<b) (h0:0<=t) (h1:t<b):(q*b+t)/b=q/\(q*b+t)%b=t:=
 (Int.ediv_emod_unique hb).2 ⟨by rw [Int.mul_comm b q];omega,h0,h1⟩
def tab (b c x:Int):Prop:=2<=x%b/\x%b<2+c/4
instance (b c x : Int) : Decidable (tab b c x) := by unfold tab; infer_instance
def f1 (b c n x:Int):Int:=if x<n*b/\¬tab b c x then 1 else 0
def f2 (b c n i x:Int):Int:=if (x<n*b/\¬tab b c x)∨x=n*b∨x=n*b+1∨(n*b+(2+c/4)<=x/\x<n*b+(2+c/4)+i) then 1 else 0
def fi (b c x:Int):Int:=x/b*c+(x%b - 2)*4
def f3 (b c m x:Int):Int:=if tab b c x then (if fi b c x<m then 1 else 0) else 1
theorem mget_none {κ:Type} [DecidableEq κ] {k:κ} {m:List (κ×Value)} (h:k∉m.map (·.1)):mget k m=none:=by
 induction m with
 |nil=>rfl
 |cons p m ih=>
  obtain ⟨k',v⟩:=p
  simp only [List.map_cons,List.mem_cons,not_or] at h
  simp only [mget,if_neg h.1];exact ih h.2
theorem mset_new {κ:Type} [DecidableEq κ] {k:κ} {x:Value} {m:List (κ×Value)} (h:k∉m.map (·.1)):mset k x m=m++[(k,x)]:=by
 induction m with
 |nil=>rfl
 |cons p m ih=>
  obtain ⟨k',v⟩:=p
  simp only [List.map_cons,List.mem_cons,not_or] at h
  simp only [mset,if_neg h.1,ih h.2];rfl
theorem mget_mset {κ:Type} [DecidableEq κ] {k k':κ} {x:Value} {m:List (κ×Value)}:mget k (mset k' x m)=if k=k' then some x else mget k m:=by
 induction m with
 |nil=>simp only [mset,mget]
 |cons p m ih=>
  obtain ⟨k2,v⟩:=p
  by_cases h:k'=k2
  ·subst h;simp only [mset,if_pos,mget];by_cases h2:k=k'<;>simp [h2]
  simp only [mset,if_neg h,mget,ih]
  by_cases h2:k=k2
  ·subst h2;simp [Ne.symm h]
  simp [h2]
end Go.Proofs.YtkaikaodhegmhaaGreat.E
namespace Go.Proofs.YtkaikaodhegmhaaGreat.E
open Go Go.Proofs Go.RowKit Go.Maps Go.Shelf Go.Sort
set_option linter.unusedVariables false
set_option linter.unusedSimpArgs false
theorem mget_mdel {m:List (Int×Value)} (hn:(m.map (·.1)).Nodup) (k k':Int):mget k (mdel k' m)=if k=k' then none else mget k m:=by
 induction m with
 |nil=>simp [mdel,mget]
 |cons p m ih=>
  rw [List.map_cons,List.nodup_cons] at hn
  rw [mdel]
  by_cases h:k'=p.1
  ·rw [if_pos h]
   by_cases hk:k=k'
   ·rw [if_pos hk]
    exact mget_none (by rw [hk,h];exact hn.1)
   rw [if_neg hk,mget,if_neg (by omega)]
  rw [if_neg h,mget,ih hn.2,mget]
  by_cases hk:k=p.1
  ·rw [if_pos hk,if_pos hk,if_neg (by omega)]
  rw [if_neg hk,if_neg hk]
theorem keys_mdel {m:List (Int×Value)} (k:Int):(mdel k m).map (·.1)=(m.map (·.1)).erase k:=by
 induction m with
 |nil=>rfl
 |cons p m ih=>
  rw [mdel,List.map_cons,List.erase_cons]
  by_cases h:k=p.1
  ·simp [h]
  rw [if_neg h,if_neg (by simpa using fun e=>h e.symm),List.map_cons,ih]
structure BufM where
 blk:Int
 by_:List UInt8
 pins:Int
 used:Int
structure CacheM where
 l:List BufM
 bound:Int
 clock:Int
 hits:Int
 misses:Int
def rmB (l:List BufM) (b:Int):List BufM:=l.filter fun x=> !(x.blk==b)
def freeB (l:List BufM):Option BufM:=l.find? fun x=>x.pins==0
def CacheM.room (C:CacheM):Option (List BufM):=if (C.l.length:Int)<C.bound then some C.l else (freeB C.l).map fun v=>rmB C.l v.blk
def CacheM.find (C:CacheM) (b:Int):Option BufM:=C.l.find? fun x=>x.blk==b
def CacheM.get (C:CacheM) (bs:List (List UInt8)) (b:Int):CacheM×Int:=
 match C.find b with
 |some x=>({ C with l:=rmB C.l b++[{ x with used:=C.clock+1 }],clock:=C.clock+1,hits:=C.hits+1 },0)
 |none=>
  match C.room with
  |none=>({ C with misses:=C.misses+1 },60)
  |some l=>({ C with l:=l++[⟨b,(bs[b.toNat]?).getD [],0,C.clock+1⟩],clock:=C.clock+1,misses:=C.misses+1 },0)
def bufv (p:Hd) (pins used:Int):List Value:=[.slice p.1 128 p.2,.int .i64 pins,.int .i64 used]
structure Bufs (s:TH) (τ:Nat) (l:List BufM) (bp:Int->Nat) (bh:Int->Hd):Prop where
 at_: ∀x∈l,Blk s (bp x.blk) (bufv (bh x.blk) x.pins x.used) 267 τ
theorem Bufs.mv {s s':TH} {τ:Nat} {l:List BufM} {bp:Int->Nat} {bh:Int->Hd} {B:Nat->Prop} (h:Bufs s τ l bp bh) (c:Chg B s s') (hn: ∀j,j<s.h.size->s.g j=τ->¬B j):Bufs s' τ l bp bh:=
 ⟨fun x hx=>(h.at_ x hx).mv c (hn _ (h.at_ x hx).lt (h.at_ x hx).tag)⟩
structure BufY (s:TH) (τ:Nat) (l:List BufM) (bh:Int->Hd):Prop where
 at_: ∀x∈l,ByAt s τ (bh x.blk) x.by_
theorem BufY.mv {s s':TH} {τ:Nat} {l:List BufM} {bh:Int->Hd} {B:Nat->Prop} (h:BufY s τ l bh) (c:Chg B s s') (hn: ∀j,j<s.h.size->s.g j=τ->¬B j):BufY s' τ l bh:=⟨fun x hx=>(h.at_ x hx).mv c hn⟩
structure MapOf (m:List (Int×Value)) (l:List BufM) (bp:Int->Nat):Prop where
 keys:(m.map (·.1)).Perm (l.map (·.blk))
 at_: ∀x∈l,mget x.blk m=some (.pointer (some ⟨bp x.blk,0,none⟩))
 inj: ∀x∈l,∀y∈l,bp x.blk=bp y.blk->x.blk=y.blk
 nd:(l.map (·.blk)).Nodup
 rng: ∀x∈l,0<=x.blk/\x.blk<2048
structure CacheP (s:TH) (c T d:Nat) (C:CacheM) (r:Nat) (m:List (Int×Value)) (bp:Int->Nat) (bh:Int->Hd):Prop where
 blk:Blk s c [.pointer (some ⟨d,0,none⟩),.int .i64 C.bound,.map (some r),.int .i64 C.clock,.int .i64 C.hits,.int .i64 C.misses] 210 T
 map:MapK (Value.int .i64) s r m (T+1)
 bufs:Bufs s (T+2) C.l bp bh
 bufy:BufY s (T+3) C.l bh
 mo:MapOf m C.l bp
 bnd:1<=C.bound/\C.bound<=64
 len:(C.l.length:Int)<=C.bound
structure COk (C:CacheM):Prop where
 srt:C.l.Pairwise fun x y=>x.used<y.used
 rng: ∀x∈C.l,0<=x.used/\x.used<=C.clock
 clk:0<=C.clock/\C.clock<=9223372036854775807
 cnt:0<=C.hits/\C.hits<=9223372036854775807/\0<=C.misses/\C.misses<=9223372036854775807
 pin: ∀x∈C.l,0<=x.pins/\x.pins<=100
structure Cache (s:TH) (c T d:Nat) (C:CacheM):Prop where
 p: ∃r m bp bh,CacheP s c T d C r m bp bh
 ok:COk C
theorem CacheP.mv {s s':TH} {c T d r:Nat} {C:CacheM} {m:List (Int×Value)} {bp:Int->Nat} {bh:Int->Hd} {B:Nat->Prop} (h:CacheP s c T d C r m bp bh) (k:Chg B s s') (hn: ∀j,j<s.h.size->T<=s.g j->s.g j<T+10->¬B j):CacheP s' c T d C r m bp bh:=
 ⟨h.blk.mv k (of_rng hn (Nat.le_refl _) (by omega) c h.blk.lt h.blk.tag),h.map.mv k (of_rng hn (by omega) (by omega) r h.map.lt h.map.tag),h.bufs.mv k (of_rng hn (by omega) (by omega)),h.bufy.mv k (of_rng hn (by omega) (by omega)),h.mo,h.bnd,h.len⟩
theorem Cache.mv {s s':TH} {c T d:Nat} {C:CacheM} {B:Nat->Prop} (h:Cache s c T d C) (k:Chg B s s') (hn: ∀j,j<s.h.size->T<=s.g j->s.g j<T+10->¬B j):Cache s' c T d C:=by
 obtain ⟨⟨r,m,bp,bh,hp⟩,ok⟩:=h
 exact ⟨⟨r,m,bp,bh,hp.mv k hn⟩,ok⟩
def usedOf (l:List BufM) (k:Int):Int:=((l.find? fun x=>x.blk==k).map (·.used)).getD 0
theorem find_nd {l:List BufM} (hn:(l.map (·.blk)).Nodup) {x:BufM} (hx:x∈l):(l.find? fun y=>y.blk==x.blk)=some x:=by
 induction l with
 |nil=>cases hx
 |cons y l ih=>
  rw [List.map_cons,List.nodup_cons] at hn
  rw [List.find?_cons]
  rcases List.mem_cons.1 hx with rfl|hx
  ·simp
  have:(y.blk==x.blk)=false:=by
   simp only [beq_eq_false_iff_ne]
   intro e;exact hn.1 (by rw [e];exact List.mem_map.2 ⟨x,hx,rfl⟩)
  rw [this];exact ih hn.2 hx
theorem usedOf_eq {l:List BufM} (hn:(l.map (·.blk)).Nodup) {x:BufM} (hx:x∈l):usedOf l x.blk=x.used:=by unfold usedOf;rw [find_nd hn hx];rfl
theorem used_ne {l:List BufM} (h:l.Pairwise fun x y=>x.used<y.used): ∀x∈l,∀y∈l,x.used=y.used->x.blk=y.blk:=by
 induction l with
 |nil=>intro x hx;cases hx
 |cons z l ih=>
  rw [List.pairwise_cons] at h
  intro x hx y hy e
  rcases List.mem_cons.1 hx with hx1|hx1<;>rcases List.mem_cons.1 hy with hy1|hy1
  ·rw [hx1,hy1]
  ·have:=h.1 y hy1;rw [hx1] at e;omega
  ·have:=h.1 x hx1;rw [hy1] at e;omega
  exact ih h.2 x hx1 y hy1 e
theorem CacheP.usedAt {s:TH} {c T d r:Nat} {C:CacheM} {m:List (Int×Value)} {bp:Int->Nat} {bh:Int->Hd} (h:CacheP s c T d C r m bp bh) (ok:COk C):UsedAt s m (usedOf C.l) (T+2):=by
 have hmem: ∀k∈m.map (·.1),∃x∈C.l,x.blk=k:=fun k hk=>by
  have:=h.mo.keys.mem_iff.1 hk
  obtain ⟨x,hx,e⟩:=List.mem_map.1 this
  exact ⟨x,hx,e⟩
 refine ⟨fun k hk=>?_,fun a ha b hb e=>?_⟩
 ·obtain ⟨x,hx,rfl⟩:=hmem k hk
  have h1:=ok.rng x hx
  have h2:=ok.clk
  exact ⟨_,_,_,h.mo.at_ x hx,h.bufs.at_ x hx,by rw [usedOf_eq h.mo.nd hx];rfl,by rw [usedOf_eq h.mo.nd hx];omega,by rw [usedOf_eq h.mo.nd hx];omega⟩
 obtain ⟨x,hx,rfl⟩:=hmem a ha
 obtain ⟨y,hy,rfl⟩:=hmem b hb
 rw [usedOf_eq h.mo.nd hx,usedOf_eq h.mo.nd hy] at e
 exact used_ne ok.srt x hx y hy e
theorem sorted_keys {l:List BufM} {ss:List Int} (hn:(l.map (·.blk)).Nodup) (hs:l.Pairwise fun x y=>x.used<y.used) (hp:ss.Perm (l.map (·.blk))):ss.mergeSort (leU (usedOf l))=l.map (·.blk):=by
 have h1:(ss.mergeSort (leU (usedOf l))).Perm (l.map (·.blk)):=(List.mergeSort_perm ss _).trans hp
 have htot: ∀a b:Int,(leU (usedOf l) a b||leU (usedOf l) b a)=true:=fun a b=>by simp [leU];omega
 have htr: ∀a b c:Int,leU (usedOf l) a b=true->leU (usedOf l) b c=true->leU (usedOf l) a c=true:=fun a b c h1 h2=>by simp [leU] at*;omega
 have h2:=List.pairwise_mergeSort htr htot ss
 have h3:(l.map (·.blk)).Pairwise fun a b=>leU (usedOf l) a b=true:=by
  rw [List.pairwise_map]
  refine hs.imp_of_mem fun {a b} ha hb hab=>?_
  simp only [leU]
  rw [usedOf_eq hn ha,usedOf_eq hn hb]
  exact decide_eq_true (by omega)
 refine h1.eq_of_pairwise (le:=fun a b=>leU (usedOf l) a b=true) (fun a b ha hb h4 h5=>?_) h2 h3
 have ha':=h1.mem_iff.1 ha
 obtain ⟨x,hx,rfl⟩:=List.mem_map.1 ha'
 obtain ⟨y,hy,rfl⟩:=List.mem_map.1 hb
 simp [leU] at h4 h5
 rw [usedOf_eq hn hx,usedOf_eq hn hy] at h4 h5
 exact used_ne hs x hx y hy (by omega)
theorem MapOf.get_none {m:List (Int×Value)} {l:List BufM} {bp:Int->Nat} (h:MapOf m l bp) {b:Int} (hf:(l.find? fun x=>x.blk==b)=none):mget b m=none:=mget_none (fun hm=>by
 have:=h.keys.mem_iff.1 hm
 obtain ⟨x,hx,e⟩:=List.mem_map.1 this
 have:=List.find?_eq_none.1 hf x hx
 simp [e] at this)
theorem find_mem {l:List BufM} {b:Int} {x:BufM} (hf:(l.find? fun x=>x.blk==b)=some x):x∈l/\x.blk=b:=⟨List.mem_of_find?_eq_some hf,by simpa using List.find?_some hf⟩
theorem MapOf.get_some {m:List (Int×Value)} {l:List BufM} {bp:Int->Nat} (h:MapOf m l bp) {b:Int} {x:BufM} (hf:(l.find? fun x=>x.blk==b)=some x):mget b m=some (.pointer (some ⟨bp b,0,none⟩)):=by
 obtain ⟨h1,rfl⟩:=find_mem hf;exact h.at_ x h1
theorem rmB_mem {l:List BufM} {b:Int} {x:BufM}:x∈rmB l b↔x∈l/\x.blk≠b:=by unfold rmB;simp
theorem rmB_sub (l:List BufM) (b:Int):(rmB l b).Sublist l:=List.filter_sublist
theorem rmB_keys {l:List BufM} (hn:(l.map (·.blk)).Nodup) (b:Int):(rmB l b).map (·.blk)=(l.map (·.blk)).erase b:=by
 rw [hn.erase_eq_filter,List.filter_map]
 unfold rmB
 congr 1
theorem MapOf.del {m:List (Int×Value)} {l:List BufM} {bp:Int->Nat} (h:MapOf m l bp) (hm:(m.map (·.1)).Nodup) (b:Int):MapOf (mdel b m) (rmB l b) bp:=
 ⟨by rw [keys_mdel,rmB_keys h.nd];exact h.keys.erase b,fun x hx=>by rw [mget_mdel hm,if_neg (rmB_mem.1 hx).2];exact h.at_ x (rmB_mem.1 hx).1,
  fun x hx y hy=>h.inj x (rmB_mem.1 hx).1 y (rmB_mem.1 hy).1,h.nd.sublist ((rmB_sub l b).map _),fun x hx=>h.rng x (rmB_mem.1 hx).1⟩
theorem MapOf.add {m:List (Int×Value)} {l:List BufM} {bp:Int->Nat} (h:MapOf m l bp) (x:BufM) (p:Nat) (hx:x.blk∉l.map (·.blk)) (hr:0<=x.blk/\x.blk<2048) (hp: ∀y∈l,bp y.blk≠p):
  MapOf (mset x.blk (.pointer (some ⟨p,0,none⟩)) m) (l++[x]) (fun k=>if k=x.blk then p else bp k):=by
 have hk:x.blk∉m.map (·.1):=fun e=>hx (h.keys.mem_iff.1 e)
 have hne: ∀y∈l,y.blk≠x.blk:=fun y hy e=>hx (e▸List.mem_map.2 ⟨y,hy,rfl⟩)
 refine ⟨?_,fun y hy=>?_,fun y hy z hz e=>?_,?_,fun y hy=>?_⟩
 ·rw [mset_new hk];simpa using h.keys.append_right [x.blk]
 ·rw [mget_mset]
  rcases List.mem_append.1 hy with hy|hy
  ·rw [if_neg (hne y hy)];simp only [if_neg (hne y hy)];exact h.at_ y hy
  ·simp at hy;subst hy;simp
 ·rcases List.mem_append.1 hy with hy1|hy1<;>rcases List.mem_append.1 hz with hz1|hz1
  ·simp only [if_neg (hne y hy1),if_neg (hne z hz1)] at e;exact h.inj y hy1 z hz1 e
  ·rw [List.mem_singleton] at hz1;rw [hz1] at e
   simp only [if_neg (hne y hy1),if_true] at e
   exact absurd e (hp y hy1)
  ·rw [List.mem_singleton] at hy1;rw [hy1] at e
   simp only [if_neg (hne z hz1),if_true] at e
   exact absurd e.symm (hp z hz1)
  ·rw [List.mem_singleton] at hy1 hz1;rw [hy1,hz1]
 ·rw [List.map_append,List.nodup_append]
  refine ⟨h.nd,by simp,fun a ha b hb e=>?_⟩
  simp at hb;subst hb;subst e;exact hx ha
 ·rcases List.mem_append.1 hy with hy|hy
  ·exact h.rng y hy
  ·simp at hy;subst hy;exact hr
theorem MapOf.again {m:List (Int×Value)} {l l':List BufM} {bp:Int->Nat} (h:MapOf m l bp) (hp:(l'.map (·.blk)).Perm (l.map (·.blk))):MapOf m l' bp:=by
 have hmem: ∀x∈l',∃y∈l,y.blk=x.blk:=fun x hx=>by
  obtain ⟨y,hy,e⟩:=List.mem_map.1 (hp.mem_iff.1 (List.mem_map.2 ⟨x,hx,rfl⟩));exact ⟨y,hy,e⟩
 refine ⟨h.keys.trans hp.symm,fun x hx=>?_,fun x hx y hy e=>?_,hp.nodup_iff.2 h.nd,fun x hx=>?_⟩
 ·obtain ⟨y,hy,e⟩:=hmem x hx;rw [←e];exact h.at_ y hy
 ·obtain ⟨x',hx',ex⟩:=hmem x hx
  obtain ⟨y',hy',ey⟩:=hmem y hy
  rw [←ex, ←ey] at e ⊢;exact h.inj x' hx' y' hy' e
 obtain ⟨y,hy,e⟩:=hmem x hx;rw [←e];exact h.rng y hy
end Go.Proofs.YtkaikaodhegmhaaGreat.E
namespace Go.Proofs.YtkaikaodhegmhaaGreat.E
open Go Go.Proofs Go.RowKit Go.Maps Go.Shelf Go.Sort
set_option linter.unusedVariables false
set_option linter.unusedSimpArgs false
theorem c_keys (r:Nat) (s:TH):TRet Tryz.prog 335 #[.map (some r)] s fun v s'=>∃B,v=.func (.func 343) #[] #[.pointer (some ⟨B,0,none⟩)]/\Ch [] s s'/\Blk s' B [.map (some r)] 208 0:=by
 refine F335_calls _  ?_
 unfold F335
 refine al_t 0 fun r1 s2 c a b d=>?_
 refine ret_t ?_
 exact ⟨r1,rfl,((Ch.refl [] s).ch b (by simp)),a⟩
theorem c_clook (c T d Td:Nat) (C:CacheM) (D:DiskM) (b:Int) (s:TH) (hT:10<=T) (hTd:10<=Td) (hTT:T+10<=Td∨Td+10<=T) (hc:Cache s c T d C) (hd:Disk s d Td D):TRet Tryz.prog 280 #[.pointer (some ⟨c,0,none⟩),.int .i64 b] s fun v s'=>v=.int .i64 (if D.has b then 0 else 1)/\Ch [] s s':=by
 obtain ⟨⟨r,m,bp,bh,hP⟩,ok⟩:=id hc
 have hcb:=hP.blk
 have hcm:=hP.map
 have hbu:=hP.bufs
 have hby:=hP.bufy
 refine F280_calls _ _  ?_
 unfold F280
 refine jn_u ?_
 refine sB_f (by rfl) (nz_i ?_)
 first|refine ld_t hcb rfl ?_
 refine dMap_i ?_
 iterate 8 intro _
 refine dBl_i (sB_f (by rfl) ?_)
 refine jn_u ?_
 refine sB_d (fun e=>?_) (fun e=>?_)
 ·iterate 10 intro _
  refine dBl_i (sB_t (by rfl) ?_)
  refine ret_t ?_
  exact ⟨ret_i (by first|rw [if_pos (by unfold DiskM.has;omega)]|rw [if_neg (by unfold DiskM.has;omega)]),(Ch.refl [] s)⟩
 refine nz_i ?_
 first|refine ld_t hcb rfl ?_
 refine dPtr_i ?_
 refine tcall (c_blocks _ _ _ _ hTd hd) ?_
 rintro _ g ⟨rfl,a⟩
 have h:=a.size
 refine dInt_i ?_
 iterate 10 intro _
 refine dBl_i ?_
 refine sB_d (fun f=>?_) (fun f=>?_)
 ·refine ret_t ?_
  exact ⟨ret_i (by first|rw [if_pos (by unfold DiskM.has;omega)]|rw [if_neg (by unfold DiskM.has;omega)]),((Ch.refl [] s).ch a (by simp))⟩
 refine ret_t ?_
 exact ⟨ret_i (by first|rw [if_pos (by unfold DiskM.has;omega)]|rw [if_neg (by unfold DiskM.has;omega)]),((Ch.refl [] s).ch a (by simp))⟩
theorem c_held (c T d:Nat) (C:CacheM) (τ:Nat) (s:TH) (hT:10<=T) (hc:Cache s c T d C):TRet Tryz.prog 327 #[.pointer (some ⟨c,0,none⟩)] s fun v s'=>∃a c',v=.slice a C.l.length c'/\Ch [] s s'/\Own s' a C.l.length c' 3 1 (ivs (C.l.map (·.blk))) τ:=by
 obtain ⟨⟨r,m,bp,bh,hP⟩,ok⟩:=id hc
 have hcb:=hP.blk
 have hcm:=hP.map
 have hbu:=hP.bufs
 have hby:=hP.bufy
 refine F327_calls _  ?_
 unfold F327
 refine al_t 0 fun r1 s2 q f e t=>?_
 refine ld_t f rfl (dPtr_i (sB_f (by rfl) (ld_t f rfl (dPtr_i (nz_i ?_)))))
 have g:=hcb.ch e (by simp)
 first|refine ld_t g rfl ?_
 refine dMap_i ?_
 refine tcall (c_keys r _) ?_
 rintro _ u ⟨B,rfl,b,B_7⟩
 have w:=b.size
 have hU:=(hP.usedAt ok).mv (((Ch.refl [] s).ch e (by simp)).ch b (by simp)) (tagn (by simp))
 have hml:m.length=C.l.length:=by have:=hP.mo.keys.length_eq;simpa using this
 have hmk: ∀k∈m.map (·.1),inI64 k:=fun k hk=>by
  obtain ⟨x,hx,rfl⟩:=List.mem_map.1 (hP.mo.keys.mem_iff.1 hk)
  have:=hP.mo.rng x hx
  unfold inI64;omega
 have hle:=hP.len
 have hbn:=hP.bnd
 have j:=hcm.ch e (by simp)
 have n:=j.ch b (by simp)
 have r1_10:=f.ch b (by simp)
 have i:=g.ch b (by simp)
 refine tcall (c_sfun τ (usedOf C.l) B_7 n (by omega) hmk r1_10 i rfl hU) ?_
 rintro _ y ⟨a2,c2,ss,rfl,hss,h,o⟩
 have p:=h.size
 refine dSl_i ?_
 refine ret_t ?_
 have ho:=o
 rw [sorted_keys hP.mo.nd ok.srt (hss.trans hP.mo.keys),hml] at ho
 rw [hml]
 exact ⟨a2,c2,rfl,((((Ch.refl [] s).ch e (by simp)).ch b (by simp)).ch h (by simp)),ho⟩
end Go.Proofs.YtkaikaodhegmhaaGreat.E
namespace Go.Proofs.YtkaikaodhegmhaaGreat.E
open Go Go.Proofs Go.RowKit Go.Maps Go.Shelf Go.Sort
set_option linter.unusedVariables false
set_option linter.unusedSimpArgs false
theorem freeB_some {l:List BufM} {k:Nat} {x:BufM} (h:l[k]? =some x) (hp:x.pins=0) (ha: ∀j y,j<k->l[j]? =some y->y.pins≠0):freeB l=some x:=by
 unfold freeB
 induction l generalizing k with
 |nil=>simp at h
 |cons y l ih=>
  cases k with
  |zero=>simp at h;subst h;simp [hp]
  |succ k=>
   rw [List.find?_cons]
   have:=ha 0 y (by omega) (by simp)
   rw [show (y.pins==0)=false by simpa using this]
   exact ih (by simpa using h) (fun j z hj hz=>ha (j+1) z (by omega) (by simpa using hz))
theorem freeB_none {l:List BufM} (ha: ∀j y,j<l.length->l[j]? =some y->y.pins≠0):freeB l=none:=by
 unfold freeB
 rw [List.find?_eq_none]
 intro x hx
 obtain ⟨j,hj,e⟩:=List.getElem_of_mem hx
 have:=ha j x hj (by rw [List.getElem?_eq_getElem hj,e])
 simpa using this
theorem freeB_mem {l:List BufM} {x:BufM} (h:freeB l=some x):x∈l/\x.pins=0:=⟨List.mem_of_find?_eq_some h,by simpa using List.find?_some h⟩
theorem Disk.nb {s:TH} {d T:Nat} {D:DiskM} (h:Disk s d T D):1<=D.blocks.length/\D.blocks.length<=2048:=by obtain ⟨_,_,_,_,_,_,_,_,h⟩:=h;exact h.nb
theorem find_nmem {l:List BufM} {b:Int} (h:(l.find? fun x=>x.blk==b)=none):b∉l.map (·.blk):=fun e=>by
 obtain ⟨x,hx,e⟩:=List.mem_map.1 e
 have:=List.find?_eq_none.1 h x hx
 simp [e] at this
theorem rmB_len {l:List BufM} (hn:(l.map (·.blk)).Nodup) {x:BufM} (hx:x∈l):(rmB l x.blk).length+1=l.length:=by
 have h1:x.blk∈l.map (·.blk):=List.mem_map.2 ⟨x,hx,rfl⟩
 have h2:=congrArg List.length (rmB_keys hn x.blk)
 rw [List.length_map,List.length_erase_of_mem h1,List.length_map] at h2
 have:=List.length_pos_of_mem hx
 omega
theorem Bufs.sub {s:TH} {τ:Nat} {l l':List BufM} {bp:Int->Nat} {bh:Int->Hd} (h:Bufs s τ l bp bh) (hs:l'.Sublist l):Bufs s τ l' bp bh:=⟨fun x hx=>h.at_ x (hs.subset hx)⟩
theorem BufY.sub {s:TH} {τ:Nat} {l l':List BufM} {bh:Int->Hd} (h:BufY s τ l bh) (hs:l'.Sublist l):BufY s τ l' bh:=⟨fun x hx=>h.at_ x (hs.subset hx)⟩
theorem addB {s:TH} {c T d r p:Nat} {C:CacheM} {m1:List (Int×Value)} {l1:List BufM} {bp:Int->Nat} {bh:Int->Hd} {xa:Option Addr} {xc:Nat} {b:Int} {l:List UInt8} (_:10<=T)
  (hblk:Blk s c [.pointer (some ⟨d,0,none⟩),.int .i64 C.bound,.map (some r),.int .i64 C.clock,.int .i64 C.hits,.int .i64 C.misses] 210 T) (hmap:MapK (Value.int .i64) s r (mset b (.pointer (some ⟨p,0,none⟩)) m1) (T+1))
  (hb:Bufs s (T+2) l1 bp bh) (hy:BufY s (T+3) l1 bh) (mo:MapOf m1 l1 bp) (hbn:b∉l1.map (·.blk)) (hrng:0<=b/\b<2048) (hp:Blk s p (bufv (xa,xc) 0 0) 267 (T+2)) (hpn: ∀y∈l1,bp y.blk≠p)
  (hx:ByAt s (T+3) (xa,xc) l) (bnd:1<=C.bound/\C.bound<=64) (len:(l1.length:Int)+1<=C.bound):
  CacheP s c T d { C with l:=l1++[⟨b,l,0,0⟩] } r (mset b (.pointer (some ⟨p,0,none⟩)) m1) (fun k=>if k=b then p else bp k) (fun k=>if k=b then (xa,xc) else bh k):=by
 have hne: ∀y∈l1,y.blk≠b:=fun y hy e=>hbn (e▸List.mem_map.2 ⟨y,hy,rfl⟩)
 refine ⟨hblk,hmap,⟨fun y hy'=>?_⟩,⟨fun y hy'=>?_⟩,mo.add ⟨b,l,0,0⟩ p hbn hrng hpn,bnd,by simpa using len⟩
 ·rcases List.mem_append.1 hy' with h|h
  ·simp only [if_neg (hne y h)];exact hb.at_ y h
  ·rw [List.mem_singleton] at h;subst h;simpa using hp
 ·rcases List.mem_append.1 hy' with h|h
  ·simp only [if_neg (hne y h)];exact hy.at_ y h
  ·rw [List.mem_singleton] at h;subst h;simpa using hx
theorem c_victim (c T d:Nat) (C:CacheM) (s:TH) (hT:10<=T) (hc:Cache s c T d C):TRet Tryz.prog 314 #[.pointer (some ⟨c,0,none⟩)] s fun v s'=>∃n b,v=.tuple #[.int .i64 n,.bool b]/\Ch [] s s'/\((b=true/\∃x,freeB C.l=some x/\n=x.blk)∨(b=false/\freeB C.l=none)):=by
 obtain ⟨⟨r,m,bp,bh,hP⟩,ok⟩:=id hc
 have hcb:=hP.blk
 have hcm:=hP.map
 have hbu:=hP.bufs
 have hby:=hP.bufy
 refine F314_calls _  ?_
 unfold F314
 refine tcall (c_held c T d C 0 _ hT hc) ?_
 rintro _ s2 ⟨a2,c2,rfl,g,D⟩
 have F:=g.size
 refine dSl_i ?_
 refine ⟨fun vs H'=>∃s':TH,s'.h=H'/\∃i,vs=[.int .i64 i]/\ChL [] [] s2 s'/\(∃k:Nat,i=k/\k<=C.l.length/\∀j y,j<k->C.l[j]? =some y->y.pins≠0),fun vs H'=>match vs with|[.int .i64 i]=>((C.l.length:Int) - i).toNat|_=>0,⟨s2,rfl,_,rfl,ChL.refl _ _ _,?_⟩,?_⟩
 ·exact ⟨0,rfl,by omega,fun j x h=>by omega⟩
 intro i
 iterate 18 intro _
 intro G hI
 obtain ⟨E,rfl,i_,hvs,f,k,rfl,hk,hall⟩:=hI
 cases hvs
 have H:=f.size
 refine sB_d (fun w=>?_) (fun w=>?_)
 ·have u:=D.mv f (tagL (by simp<;>omega) (by simp))
  have hk2:k<C.l.length:=by omega
  obtain ⟨x,hx⟩: ∃x,C.l[k]? =some x:=⟨C.l[k],by simp [hk2]⟩
  have hxm:=List.mem_of_getElem? hx
  obtain ⟨a,rfl⟩:=u.ne_none (by omega)
  have hlen:=hP.len
  have hbnd:=hP.bnd
  refine nz_i (ask_t (by omega) ?_)
  refine ld_sl u.sl (by rw [Int.toNat_natCast,Nat.mul_one];show (ivs _)[k]? =some (.int .i64 x.blk);simp [ivs,hx]) ?_
  refine dInt_i (nz_i ?_)
  have z:=hcb.ch g (by simp)
  have A:=z.chl f (by simp<;>omega) (by simp<;>omega)
  first|refine ld_t A rfl ?_
  refine dMap_i ?_
  have B:=hcm.ch g (by simp)
  have p:=B.chl f (by simp<;>omega) (by simp<;>omega)
  refine look_s keyI u208 z263 p x.blk (hP.mo.at_ x hxm) ?_
  refine dPtr_i (nz_i ?_)
  have q:=hbu.mv g (tagn (by simp))
  have t:=q.mv f (tagL (by simp<;>omega) (by simp))
  refine ld_t (t.at_ x hxm) rfl ?_
  refine dInt_i ?_
  refine sB_eq (fun o=>?_) (fun o=>?_)
  ·refine ret_t ?_
   exact ⟨_,_,rfl,(((Ch.refl [] s).ch g (by simp)).chl f (by simp) (by simp<;>omega)),.inl ⟨rfl,x,freeB_some hx o hall,rfl⟩⟩
  refine wr_t (by omega) ?_
  refine ⟨⟨E,rfl,_,rfl,((ChL.refl [] [] s2).chl f (by simp) (by simp<;>omega)),?_⟩,?_⟩
  ·refine ⟨k+1,by omega,by omega,fun j y hj hy=>?_⟩
   by_cases e:j=k
   ·subst e;rw [hx] at hy;cases hy;exact o
   exact hall j y (by omega) hy
  simp only [];omega
 refine ret_t ?_
 exact ⟨_,_,rfl,(((Ch.refl [] s).ch g (by simp)).chl f (by simp) (by simp<;>omega)),.inr ⟨rfl,freeB_none fun j y hj hy=>hall j y (by omega) hy⟩⟩
theorem c_load (c T d Td:Nat) (C:CacheM) (D:DiskM) (b:Int) {l:List UInt8} (s:TH) (hT:10<=T) (hTd:10<=Td) (hTT:T+10<=Td∨Td+10<=T) (hc:Cache s c T d C) (hd:Disk s d Td D) (hb:D.has b) (hl:D.blocks[b.toNat]? =some l) (hf:D.fails b<=0) (hnf:C.find b=none):TRet Tryz.prog 281 #[.pointer (some ⟨c,0,none⟩),.int .i64 b] s fun v s'=>∃q e,v=.tuple #[.pointer q,.int .i64 e]/\Ch [T,T+1,T+2,T+3] s s'/\((e=60/\C.room=none/\q=none/\Cache s' c T d C)∨(e=0/\∃l' r' m' bp' bh',C.room=some l'/\q=some ⟨bp' b,0,none⟩/\CacheP s' c T d { C with l:=l'++[⟨b,l,0,0⟩] } r' m' bp' bh')):=by
 obtain ⟨⟨r,m,bp,bh,hP⟩,ok⟩:=id hc
 have hcb:=hP.blk
 have hcm:=hP.map
 have hbu:=hP.bufs
 have hby:=hP.bufy
 refine F281_calls _ _  ?_
 unfold F281
 refine nz_i ?_
 first|refine ld_t hcb rfl ?_
 refine dMap_i (nz_i ?_)
 first|refine ld_t hcb rfl ?_
 refine dInt_i ?_
 refine mlen_t u208 hcm ?_
 have hml:m.length=C.l.length:=by have:=hP.mo.keys.length_eq;simpa using this
 refine dInt_i ?_
 refine ⟨?_,?_⟩
 ·first|refine ld_t hcb rfl ?_
  refine dInt_i ?_
  rfl
 refine tcall (c_victim c T d C _ hT hc) ?_
 rintro _ aJ ⟨vn,vb,rfl,a,hvic⟩
 have aK:=a.size
 refine dT2 (dInt_i (dBl_i ?_))
 refine jn_u ?_
 refine sB_d (fun ao=>?_) (fun ao=>?_)
 ·intro _ _ _ _
  refine dBl_i ?_
  refine sB_n (fun w=>?_) (fun w=>?_)
  ·refine ret_t ?_
   have ay:=hc.mv a (rngn (by simp<;>omega))
   refine ⟨_,_,rfl,((Ch.refl [T,T+1,T+2,T+3] s).ch a (by simp)),.inl ⟨rfl,?_,rfl,ay⟩⟩
   rcases hvic with ⟨h1,_⟩|⟨_,h1⟩
   ·rw [w] at h1;cases h1
   unfold CacheM.room;rw [if_neg (by omega),h1];rfl
  rcases hvic with ⟨hv1,x,hx,rfl⟩|⟨hv1,_⟩
  rotate_left
  ·rw [hv1] at w;cases w
  refine nz_i ?_
  have M:=hcb.ch a (by simp)
  first|refine ld_t M rfl ?_
  refine dPtr_i ?_
  have D_5:=hd.mv a (rngn (by simp<;>omega))
  refine tcall (c_dread d Td (T+3) D b _ hTd D_5 hb hl hf) ?_
  rintro _ az ⟨xa,xc,rfl,u,aA⟩
  have aL:=u.size
  refine dT2 (dSl_i (dInt_i (sB_f (by rfl) ?_)))
  refine jn_u ?_
  refine sB_d (fun ap=>?_) (fun ap=>by exfalso;omega)
  refine nz_i ?_
  have A:=M.ch u (by simp)
  first|refine ld_t A rfl ?_
  refine dMap_i ?_
  have R:=hcm.ch a (by simp)
  have i:=R.ch u (by simp)
  refine del_t keyI u208 i x.blk fun aM S n hsz=>?_
  have aD:=n.size
  intro _ _ _ _ _ _
  refine nz_i ?_
  have B:=A.on n (by intro he;have h1:=A.tag;have h2:=i.tag;rw [he] at h1;rw [h1] at h2;revert h2;simp<;>omega)
  first|refine ld_t B rfl ?_
  refine dMap_i ?_
  refine al_t (T+2) fun z aB aq N o aE=>?_
  have f:=S.ch o (by simp)
  refine upd_t keyI u208 f b (.pointer (some ⟨z,0,none⟩)) fun aC E j hsz2=>?_
  have aF:=j.size
  refine nz_i ?_
  have F:=B.ch o (by simp)
  have G:=F.on j (by intro he;have h1:=F.tag;have h2:=f.tag;rw [he] at h1;rw [h1] at h2;revert h2;simp<;>omega)
  first|refine ld_t G rfl ?_
  refine dMap_i ?_
  refine look_s keyI u208 z263 E b (by rw [mget_mset,if_pos rfl]) ?_
  refine dPtr_i ?_
  refine ret_t ?_
  have U:=hbu.mv a (tagn (by simp))
  have V:=U.mv u (tagn (by simp))
  have W:=V.mv n (onn (by rw [i.tag];omega))
  have X:=W.mv o (tagn (by simp))
  have Y:=X.mv j (onn (by rw [f.tag];omega))
  have Z:=hby.mv a (tagn (by simp))
  have aa:=Z.mv u (tagn (by simp))
  have ab:=aa.mv n (onn (by rw [i.tag];omega))
  have ac:=ab.mv o (tagn (by simp))
  have ad:=ac.mv j (onn (by rw [f.tag];omega))
  have r48_35:=N.on j (by intro he;have h1:=N.tag;have h2:=f.tag;rw [he] at h1;rw [h1] at h2;revert h2;simp<;>omega)
  have ar:=aA.mv n (onn (by rw [i.tag];omega))
  have au:=ar.mv o (tagn (by simp))
  have O:=au.mv j (onn (by rw [f.tag];omega))
  have hbd:0<=b/\b<2048:=by have h1:=hb;unfold DiskM.has at h1;have h2:=hd.nb;omega
  have hnb:=find_nmem hnf
  have hnew: ∀y∈rmB C.l x.blk,bp y.blk≠z:=fun y hy=>by have:=(hbu.at_ y (rmB_mem.1 hy).1).lt;omega
  have hxm:=freeB_mem hx
  have hlen:=rmB_len hP.mo.nd hxm.1
  have hle:=hP.len
  refine ⟨_,_,rfl,((((((Ch.refl [T,T+1,T+2,T+3] s).ch a (by simp)).ch u (by simp)).on_tag n i.tag (by simp)).ch o (by simp)).on_tag j f.tag (by simp)),.inr ⟨rfl,_,_,_,_,_,?_,?_,addB hT G E (Y.sub (rmB_sub _ _)) (ad.sub (rmB_sub _ _)) (hP.mo.del hP.map.nd x.blk) (fun h=>hnb (((rmB_sub _ _).map _).subset h)) hbd r48_35 hnew ⟨O.sl,by have:=O.1;rw [bvs_len] at this;omega⟩ hP.bnd (by omega)⟩⟩
  ·unfold CacheM.room;rw [if_neg (by omega),hx];rfl
  simp
 intro _ _ _ _
 refine dBl_i (sB_f (by rfl) (nz_i ?_))
 have H:=hcb.ch a (by simp)
 first|refine ld_t H rfl ?_
 refine dPtr_i ?_
 have D_40:=hd.mv a (rngn (by simp<;>omega))
 refine tcall (c_dread d Td (T+3) D b _ hTd D_40 hb hl hf) ?_
 rintro _ az ⟨xa,xc,rfl,p,av⟩
 have aG:=p.size
 refine dT2 (dSl_i (dInt_i (sB_f (by rfl) ?_)))
 refine jn_u ?_
 refine sB_d (fun aw=>by exfalso;omega) (fun aw=>?_)
 intro _ _ _ _ _ _
 refine nz_i ?_
 have I:=H.ch p (by simp)
 first|refine ld_t I rfl ?_
 refine dMap_i ?_
 refine al_t (T+2) fun z aB aq P t aH=>?_
 have ae:=hcm.ch a (by simp)
 have af:=ae.ch p (by simp)
 have g:=af.ch t (by simp)
 refine upd_t keyI u208 g b (.pointer (some ⟨z,0,none⟩)) fun aC J k hsz2=>?_
 have aI:=k.size
 refine nz_i ?_
 have K:=I.ch t (by simp)
 have L:=K.on k (by intro he;have h1:=K.tag;have h2:=g.tag;rw [he] at h1;rw [h1] at h2;revert h2;simp<;>omega)
 first|refine ld_t L rfl ?_
 refine dMap_i ?_
 refine look_s keyI u208 z263 J b (by rw [mget_mset,if_pos rfl]) ?_
 refine dPtr_i ?_
 refine ret_t ?_
 have ag:=hbu.mv a (tagn (by simp))
 have ah:=ag.mv p (tagn (by simp))
 have ai:=ah.mv t (tagn (by simp))
 have aj:=ai.mv k (onn (by rw [g.tag];omega))
 have ak:=hby.mv a (tagn (by simp))
 have al:=ak.mv p (tagn (by simp))
 have am:=al.mv t (tagn (by simp))
 have an:=am.mv k (onn (by rw [g.tag];omega))
 have r48_64:=P.on k (by intro he;have h1:=P.tag;have h2:=g.tag;rw [he] at h1;rw [h1] at h2;revert h2;simp<;>omega)
 have ax:=av.mv t (tagn (by simp))
 have Q:=ax.mv k (onn (by rw [g.tag];omega))
 have hbd:0<=b/\b<2048:=by have h1:=hb;unfold DiskM.has at h1;have h2:=hd.nb;omega
 have hnb:=find_nmem hnf
 have hnew: ∀y∈C.l,bp y.blk≠z:=fun y hy=>by have:=(hbu.at_ y hy).lt;omega
 refine ⟨_,_,rfl,(((((Ch.refl [T,T+1,T+2,T+3] s).ch a (by simp)).ch p (by simp)).ch t (by simp)).on_tag k g.tag (by simp)),.inr ⟨rfl,_,_,_,_,_,?_,?_,addB hT L J aj an hP.mo hnb hbd r48_64 hnew ⟨Q.sl,by have:=Q.1;rw [bvs_len] at this;omega⟩ hP.bnd (by omega)⟩⟩
 ·unfold CacheM.room;rw [if_pos (by omega)]
 simp
end Go.Proofs.YtkaikaodhegmhaaGreat.E
namespace Go.Proofs.YtkaikaodhegmhaaGreat.E
open Go Go.Proofs Go.RowKit Go.Maps Go.Shelf Go.Sort
set_option linter.unusedVariables false
set_option linter.unusedSimpArgs false
theorem get_hit {C:CacheM} {bs:List (List UInt8)} {b:Int} {x:BufM} (h:C.find b=some x):C.get bs b=({ C with l:=rmB C.l b++[{ x with used:=C.clock+1 }],clock:=C.clock+1,hits:=C.hits+1 },0):=by unfold CacheM.get;rw [h]
theorem get_full {C:CacheM} {bs:List (List UInt8)} {b:Int} (h:C.find b=none) (hr:C.room=none):C.get bs b=({ C with misses:=C.misses+1 },60):=by unfold CacheM.get;rw [h];simp only;rw [hr]
theorem get_load {C:CacheM} {bs:List (List UInt8)} {b:Int} {l:List BufM} {y:List UInt8} (h:C.find b=none) (hr:C.room=some l) (hy:bs[b.toNat]? =some y):C.get bs b=({ C with l:=l++[⟨b,y,0,C.clock+1⟩],clock:=C.clock+1,misses:=C.misses+1 },0):=by unfold CacheM.get;rw [h];simp only;rw [hr,hy];rfl
theorem room_mem {C:CacheM} {l:List BufM} (h:C.room=some l):l.Sublist C.l:=by
 unfold CacheM.room at h
 split at h
 ·cases h;exact List.Sublist.refl _
 cases hf:freeB C.l with
 |none=>rw [hf] at h;cases h
 |some v=>rw [hf] at h;cases h;exact rmB_sub _ _
theorem COk.push {C C':CacheM} (ok:COk C) {l1:List BufM} (hs:l1.Sublist C.l) {x:BufM} (hx:x.used=C.clock+1) (hl:C'.l=l1++[x]) (hk:C'.clock=C.clock+1) (hb:C.clock+1<=9223372036854775807) (hc:0<=C'.hits/\C'.hits<=9223372036854775807/\0<=C'.misses/\C'.misses<=9223372036854775807) (hp:0<=x.pins/\x.pins<=100):COk C':=by
 have h0:=ok.clk
 refine ⟨?_,fun y hy=>?_,by omega,hc,fun y hy=>?_⟩
 ·rw [hl,List.pairwise_append]
  refine ⟨ok.srt.sublist hs,List.pairwise_singleton _ _,fun a ha z hz=>?_⟩
  rw [List.mem_singleton] at hz;subst hz
  have:=ok.rng a (hs.subset ha);omega
 ·rw [hl,List.mem_append] at hy
  rcases hy with hy|hy
  ·have:=ok.rng y (hs.subset hy);omega
  rw [List.mem_singleton] at hy;subst hy;omega
 rw [hl,List.mem_append] at hy
 rcases hy with hy|hy
 ·exact ok.pin y (hs.subset hy)
 rw [List.mem_singleton] at hy;subst hy;exact hp
theorem Bufs.one {s2 s3:TH} {τ:Nat} {l l':List BufM} {bp:Int->Nat} {bh bh':Int->Hd} {b pins used:Int} (h:Bufs s2 τ l bp bh) (hon:On (bp b) s2 s3) (hb:Blk s3 (bp b) (bufv (bh' b) pins used) 267 τ)
  (hl: ∀y∈l',(y∈l/\bp y.blk≠bp b/\bh' y.blk=bh y.blk)∨(y.blk=b/\y.pins=pins/\y.used=used)):Bufs s3 τ l' bp bh':=
 ⟨fun y hy=>by
  rcases hl y hy with ⟨h1,h2,h3⟩|⟨h1,h2,h3⟩
  ·rw [h3];exact (h.at_ y h1).on hon h2
  ·rw [h1,h2,h3];exact hb⟩
theorem MapOf.pne {m:List (Int×Value)} {l:List BufM} {bp:Int->Nat} (h:MapOf m l bp) {x y:BufM} (hx:x∈l) (hy:y∈l) (hn:y.blk≠x.blk):bp y.blk≠bp x.blk:=fun e=>hn (h.inj y hy x hx e)
theorem touch_keys {l:List BufM} (hn:(l.map (·.blk)).Nodup) {x:BufM} (hx:x∈l) (u:Int):((rmB l x.blk++[{ x with used:=u }]:List BufM).map (·.blk)).Perm (l.map (·.blk)):=by
 rw [List.map_append,rmB_keys hn]
 have h:(l.map (·.blk)).Perm (x.blk::(l.map (·.blk)).erase x.blk):=List.perm_cons_erase (List.mem_map.2 ⟨x,hx,rfl⟩)
 exact (List.perm_append_comm).trans h.symm
theorem rmB_add {l:List BufM} {x:BufM} (h:x.blk∉l.map (·.blk)):rmB (l++[x]) x.blk=l:=by
 unfold rmB
 rw [List.filter_append]
 simp only [List.filter_cons,beq_self_eq_true,Bool.not_true,Bool.false_eq_true,if_false,List.filter_nil,List.append_nil]
 rw [List.filter_eq_self]
 intro y hy
 have:y.blk≠x.blk:=fun e=>h (e▸List.mem_map.2 ⟨y,hy,rfl⟩)
 simpa using this
theorem touchP {s2 s3:TH} {c T d r:Nat} {C1 C2:CacheM} {m:List (Int×Value)} {bp:Int->Nat} {bh:Int->Hd} {x:BufM} {u:Int} (hblk:Blk s3 c [.pointer (some ⟨d,0,none⟩),.int .i64 C2.bound,.map (some r),.int .i64 C2.clock,.int .i64 C2.hits,.int .i64 C2.misses] 210 T)
  (hmap:MapK (Value.int .i64) s3 r m (T+1)) (hbu:Bufs s2 (T+2) C1.l bp bh) (hy:BufY s3 (T+3) C1.l bh) (mo:MapOf m C1.l bp) (hx:x∈C1.l) (hon:On (bp x.blk) s2 s3) (hb:Blk s3 (bp x.blk) (bufv (bh x.blk) x.pins u) 267 (T+2))
  (hl:C2.l=rmB C1.l x.blk++[{ x with used:=u }]) (bnd:1<=C2.bound/\C2.bound<=64) (len:(C1.l.length:Int)<=C2.bound):CacheP s3 c T d C2 r m bp bh:=by
 have hp:=touch_keys mo.nd hx u
 refine ⟨hblk,hmap,hbu.one hon hb fun y hy'=>?_,⟨fun y hy'=>?_⟩,by rw [hl];exact mo.again hp,bnd,by rw [hl];have:=hp.length_eq;simp only [List.length_map] at this;omega⟩
 ·rw [hl,List.mem_append] at hy'
  rcases hy' with h|h
  ·exact .inl ⟨(rmB_mem.1 h).1,mo.pne hx (rmB_mem.1 h).1 (rmB_mem.1 h).2,rfl⟩
  ·rw [List.mem_singleton] at h;subst h;exact .inr ⟨rfl,rfl,rfl⟩
 ·rw [hl,List.mem_append] at hy'
  rcases hy' with h|h
  ·exact hy.at_ y (rmB_mem.1 h).1
  ·rw [List.mem_singleton] at h;subst h;exact hy.at_ x hx
theorem c_get (c T d Td:Nat) (C:CacheM) (D:DiskM) (b:Int) (s:TH) (hT:10<=T) (hTd:10<=Td) (hTT:T+10<=Td∨Td+10<=T) (hc:Cache s c T d C) (hd:Disk s d Td D) (hl:D.has b->∃l,D.blocks[b.toNat]? =some l) (hf:D.fails b<=0) (hk:C.clock<9223372036854775807/\C.hits<9223372036854775807/\C.misses<9223372036854775807):TRet Tryz.prog 208 #[.pointer (some ⟨c,0,none⟩),.int .i64 b] s fun v s'=>∃q e,v=.tuple #[.pointer q,.int .i64 e]/\Ch [T,T+1,T+2,T+3] s s'/\((¬D.has b/\e=1/\Cache s' c T d C)∨(D.has b/\e=(C.get D.blocks b).2/\Cache s' c T d (C.get D.blocks b).1/\(e=0->∃r m bp bh,∃x:BufM,CacheP s' c T d (C.get D.blocks b).1 r m bp bh/\q=some ⟨bp b,0,none⟩/\x∈(C.get D.blocks b).1.l/\x.blk=b))):=by
 obtain ⟨⟨r,m,bp,bh,hP⟩,ok⟩:=id hc
 have hcb:=hP.blk
 have hcm:=hP.map
 have hbu:=hP.bufs
 have hby:=hP.bufy
 refine F208_calls _ _  ?_
 unfold F208
 refine tcall (c_clook c T d Td C D b _ hT hTd hTT hc hd) ?_
 rintro _ s2 ⟨rfl,f⟩
 have ap:=f.size
 refine dInt_i ?_
 refine sB_ne (fun n=>?_) (fun n=>?_)
 ·refine ret_t ?_
  have ae:=hc.mv f (rngn (by simp<;>omega))
  have hn: ¬D.has b:=fun h=>n (if_pos h)
  exact ⟨_,_,rfl,((Ch.refl [T,T+1,T+2,T+3] s).ch f (by simp)),.inl ⟨hn,if_neg hn,ae⟩⟩
 have hh:D.has b:=by
  by_cases h:D.has b
  ·exact h
  rw [if_neg h] at n;cases n
 refine nz_i ?_
 have a:=hcb.ch f (by simp)
 first|refine ld_t a rfl ?_
 refine dMap_i ?_
 rcases hfd:C.find b with _|x
 ·have y:=hcm.ch f (by simp)
  refine look_okn keyI u208 z263 y b (hP.mo.get_none hfd) ?_
  refine dT2 (dPtr_i (dBl_i ?_))
  refine jn_u ?_
  refine sB_f (by rfl) (nz_i ?_)
  first|refine ld_t a rfl ?_
  refine dInt_i ?_
  refine wr_t (by have:=ok.cnt;have:=ok.clk;omega) ?_
  refine nz_i ?_
  refine st_t a rfl (by simp) fun af ag k aq=>?_
  obtain ⟨l0,hl0⟩:=hl hh
  have ab:=y.on k (by intro he;have h1:=y.tag;have h2:=a.tag;rw [he] at h1;rw [h1] at h2;revert h2;simp<;>omega)
  have K:=hbu.mv f (tagn (by simp))
  have L:=K.mv k (onn (by rw [a.tag];omega))
  have M:=hby.mv f (tagn (by simp))
  have N:=M.mv k (onn (by rw [a.tag];omega))
  have hC1:Cache af c T d { C with misses:=C.misses+1 }:=⟨⟨r,m,bp,bh,⟨ag,ab,L,N,hP.mo,hP.bnd,hP.len⟩⟩,⟨ok.srt,ok.rng,ok.clk,⟨ok.cnt.1,ok.cnt.2.1,by have:=ok.cnt;simp only;omega,by simp only;omega⟩,ok.pin⟩⟩
  have D_14:=hd.mv f (rngn (by simp<;>omega))
  have D_15:=D_14.mv k (rngO (by rw [a.tag];omega))
  refine tcall (c_load c T d Td _ D b _ hT hTd hTT hC1 D_15 hh hl0 hf hfd) ?_
  rintro _ ah ⟨q,e,rfl,z,hres⟩
  have aj:=z.size
  refine dT2 (dPtr_i (dInt_i ?_))
  refine sB_ne (fun o=>?_) (fun o=>?_)
  ·refine ret_t ?_
   rcases hres with ⟨rfl,hr,rfl,hC2⟩|⟨h1,_⟩
   ·rw [get_full hfd hr];exact ⟨_,_,rfl,((((Ch.refl [T,T+1,T+2,T+3] s).ch f (by simp)).on_tag k a.tag (by simp)).ch z (by simp)),.inr ⟨hh,rfl,hC2,fun h=>by cases h⟩⟩
   exact absurd h1 o
  iterate 29 intro _
  refine dPtr_i ?_
  rcases hres with ⟨h1,_⟩|⟨_,l2,r2,m2,bp2,bh2,hr,rfl,hP2⟩
  ·rw [h1] at o;cases o
  have hcb2:Blk ah c [.pointer (some ⟨d,0,none⟩),.int .i64 C.bound,.map (some r2),.int .i64 C.clock,.int .i64 C.hits,.int .i64 (C.misses+1)] 210 T:=hP2.blk
  have hcm2:=hP2.map
  have hbu2:=hP2.bufs
  have hby2:=hP2.bufy
  have hxm:(⟨b,l0,0,0⟩:BufM)∈l2++[⟨b,l0,0,0⟩]:=by simp
  refine nz_i ?_
  first|refine ld_t hcb2 rfl ?_
  refine dInt_i ?_
  refine wr_t (by have:=ok.cnt;have:=ok.clk;omega) ?_
  refine nz_i ?_
  refine st_t hcb2 rfl (by simp) fun ai A p ak=>?_
  refine nz_i ?_
  first|refine ld_t A rfl ?_
  refine dInt_i ?_
  have E:=hbu2.mv p (onn (by rw [hcb2.tag];omega))
  have hxb:=(E).at_ _ hxm
  have hbu3:=E
  refine nz_i ?_
  refine st_t hxb rfl (by simp [bufv]) fun J ac i al=>?_
  refine ret_t ?_
  have O:=A.on i (by intro he;have h1:=A.tag;have h2:=hxb.tag;rw [he] at h1;rw [h1] at h2;revert h2;simp<;>omega)
  have F:=hcm2.on p (by intro he;have h1:=hcm2.tag;have h2:=hcb2.tag;rw [he] at h1;rw [h1] at h2;revert h2;simp<;>omega)
  have P:=F.on i (by intro he;have h1:=F.tag;have h2:=hxb.tag;rw [he] at h1;rw [h1] at h2;revert h2;simp<;>omega)
  have Q:=hby2.mv p (onn (by rw [hcb2.tag];omega))
  have R:=Q.mv i (onn (by rw [hxb.tag];omega))
  have hnb:b∉l2.map (·.blk):=fun h=>find_nmem hfd (((room_mem hr).map _).subset h)
  rw [get_load hfd hr hl0]
  have hPP:CacheP J c T d { C with l:=l2++[⟨b,l0,0,C.clock+1⟩],clock:=C.clock+1,misses:=C.misses+1 } r2 m2 bp2 bh2:=touchP (C1:={ C with misses:=C.misses+1,l:=l2++[⟨b,l0,0,0⟩] }) O P hbu3 R hP2.mo hxm i ac (by rw [rmB_add (l:=l2) (x:=⟨b,l0,0,0⟩) hnb]) hP.bnd hP2.len
  exact ⟨_,_,rfl,((((((Ch.refl [T,T+1,T+2,T+3] s).ch f (by simp)).on_tag k a.tag (by simp)).ch z (by simp)).on_tag p hcb2.tag (by simp)).on_tag i hxb.tag (by simp)),.inr ⟨hh,rfl,⟨⟨_,_,_,_,hPP⟩,ok.push (room_mem hr) rfl rfl rfl (by omega) (by have:=ok.cnt;simp only;omega) (by simp)⟩,fun _=>⟨_,_,_,_,_,hPP,rfl,List.mem_append_right _ (List.mem_singleton.2 rfl),rfl⟩⟩⟩
 have t:=hcm.ch f (by simp)
 refine look_oks keyI u208 z263 t b (hP.mo.get_some hfd) ?_
 refine dT2 (dPtr_i (dBl_i ?_))
 refine jn_u ?_
 refine sB_t (by rfl) (nz_i ?_)
 first|refine ld_t a rfl ?_
 refine dInt_i ?_
 refine wr_t (by have:=ok.cnt;have:=ok.clk;omega) ?_
 refine nz_i ?_
 refine st_t a rfl (by simp) fun ar g u am=>?_
 iterate 29 intro _
 refine dPtr_i (nz_i ?_)
 first|refine ld_t g rfl ?_
 refine dInt_i ?_
 refine wr_t (by have:=ok.cnt;have:=ok.clk;omega) ?_
 refine nz_i ?_
 refine st_t g rfl (by simp) fun ai B w an=>?_
 have S:=hbu.mv f (tagn (by simp))
 have U:=S.mv u (onn (by rw [a.tag];omega))
 have G:=U.mv w (onn (by rw [g.tag];omega))
 obtain ⟨hxm,rfl⟩:=find_mem hfd
 have hxb:=(G).at_ x hxm
 have hbu2:=G
 refine nz_i ?_
 first|refine ld_t B rfl ?_
 refine dInt_i (nz_i ?_)
 refine st_t hxb rfl (by simp [bufv]) fun J ad j ao=>?_
 refine ret_t ?_
 have V:=B.on j (by intro he;have h1:=B.tag;have h2:=hxb.tag;rw [he] at h1;rw [h1] at h2;revert h2;simp<;>omega)
 have H:=t.on u (by intro he;have h1:=t.tag;have h2:=a.tag;rw [he] at h1;rw [h1] at h2;revert h2;simp<;>omega)
 have I:=H.on w (by intro he;have h1:=H.tag;have h2:=g.tag;rw [he] at h1;rw [h1] at h2;revert h2;simp<;>omega)
 have W:=I.on j (by intro he;have h1:=I.tag;have h2:=hxb.tag;rw [he] at h1;rw [h1] at h2;revert h2;simp<;>omega)
 have X:=hby.mv f (tagn (by simp))
 have Y:=X.mv u (onn (by rw [a.tag];omega))
 have Z:=Y.mv w (onn (by rw [g.tag];omega))
 have aa:=Z.mv j (onn (by rw [hxb.tag];omega))
 rw [get_hit hfd]
 have hPP:CacheP J c T d { C with l:=rmB C.l x.blk++[{ x with used:=C.clock+1 }],clock:=C.clock+1,hits:=C.hits+1 } r m bp bh:=touchP (C1:=C) V W hbu2 aa hP.mo hxm j ad rfl hP.bnd hP.len
 exact ⟨_,_,rfl,(((((Ch.refl [T,T+1,T+2,T+3] s).ch f (by simp)).on_tag u a.tag (by simp)).on_tag w g.tag (by simp)).on_tag j hxb.tag (by simp)),.inr ⟨hh,rfl,⟨⟨_,_,_,_,hPP⟩,ok.push (rmB_sub _ _) rfl rfl rfl (by omega) (by have:=ok.cnt;simp only;omega) (ok.pin x hxm)⟩,fun _=>⟨_,_,_,_,_,hPP,rfl,List.mem_append_right _ (List.mem_singleton.2 rfl),rfl⟩⟩⟩
end Go.Proofs.YtkaikaodhegmhaaGreat.E
namespace Go.Proofs.YtkaikaodhegmhaaGreat.E
open Go Go.Proofs Go.RowKit Go.Maps Go.Shelf Go.Sort
set_option linter.unusedVariables false
set_option linter.unusedSimpArgs false
def CacheM.bytes (C:CacheM) (b:Int):List UInt8:=((C.find b).map (·.by_)).getD []
theorem bytes_eq {C:CacheM} (hn:(C.l.map (·.blk)).Nodup) {x:BufM} (hx:x∈C.l):C.bytes x.blk=x.by_:=by unfold CacheM.bytes CacheM.find;rw [find_nd hn hx];rfl
def updB (l:List BufM) (b:Int) (f:BufM->BufM):List BufM:=l.map fun x=>if x.blk=b then f x else x
def CacheM.put (C:CacheM) (b:Int) (y:List UInt8):CacheM:={ C with l:=updB C.l b fun x=>{ x with by_:=y } }
def CacheM.pin1 (C:CacheM) (b:Int):CacheM×Int:=
 match C.find b with
 |none=>(C,3)
 |some x=>if x.pins>=100 then (C,3) else ({ C with l:=updB C.l b fun x=>{ x with pins:=x.pins+1 } },0)
def CacheM.pin (C:CacheM) (bs:List (List UInt8)) (b:Int):CacheM×Int:=if (C.get bs b).2=0 then (C.get bs b).1.pin1 b else C.get bs b
theorem updB_mem {l:List BufM} {b:Int} {f:BufM->BufM} {y:BufM} (h:y∈updB l b f): ∃x∈l,(x.blk≠b/\y=x)∨(x.blk=b/\y=f x):=by
 unfold updB at h
 obtain ⟨x,hx,e⟩:=List.mem_map.1 h
 refine ⟨x,hx,?_⟩
 by_cases hb:x.blk=b
 ·rw [if_pos hb] at e;exact .inr ⟨hb,e.symm⟩
 rw [if_neg hb] at e;exact .inl ⟨hb,e.symm⟩
theorem COk.upd {C C':CacheM} (ok:COk C) {b:Int} {f:BufM->BufM} (hl:C'.l=updB C.l b f) (hu: ∀x,(f x).used=x.used) (hp: ∀x∈C.l,x.blk=b->0<=(f x).pins/\(f x).pins<=100) (h1:C'.clock=C.clock) (h2:C'.hits=C.hits) (h3:C'.misses=C.misses):COk C':=by
 have hk:=ok.clk
 have hc:=ok.cnt
 refine ⟨?_,fun y hy=>?_,by omega,by omega,fun y hy=>?_⟩
 ·rw [hl];unfold updB;rw [List.pairwise_map]
  refine ok.srt.imp fun {a z} h=>?_
  have e: ∀x:BufM,(if x.blk=b then f x else x).used=x.used:=fun x=>by split<;>simp [hu]
  rw [e,e];exact h
 ·rw [hl] at hy
  obtain ⟨x,hx,⟨_,rfl⟩|⟨_,rfl⟩⟩:=updB_mem hy
  ·have:=ok.rng y hx;omega
  have:=ok.rng x hx;rw [hu];omega
 rw [hl] at hy
 obtain ⟨x,hx,⟨_,rfl⟩|⟨hb,rfl⟩⟩:=updB_mem hy
 ·exact ok.pin y hx
 exact hp x hx hb
theorem c_Get (c T d Td:Nat) (C:CacheM) (D:DiskM) (b:Int) (τ:Nat) (s:TH) (hT:10<=T) (hTd:10<=Td) (hTT:T+10<=Td∨Td+10<=T) (hc:Cache s c T d C) (hd:Disk s d Td D) (hl:D.has b->∃l,D.blocks[b.toNat]? =some l) (hf:D.fails b<=0) (hk:C.clock<9223372036854775807/\C.hits<9223372036854775807/\C.misses<9223372036854775807):TRet Tryz.prog 113 #[.pointer (some ⟨c,0,none⟩),.int .i64 b] s fun v s'=>∃a n cc e,v=.tuple #[.slice a n cc,.int .i64 e]/\Ch [T,T+1,T+2,T+3] s s'/\((¬D.has b/\e=1/\Cache s' c T d C)∨(D.has b/\e=(C.get D.blocks b).2/\Cache s' c T d (C.get D.blocks b).1/\(e=0->n=128/\Own s' a 128 cc 5 1 (bvs ((C.get D.blocks b).1.bytes b)) τ/\((C.get D.blocks b).1.bytes b).length=128))):=by
 refine F113_calls _ _  ?_
 unfold F113
 refine tcall (c_get c T d Td C D b _ hT hTd hTT hc hd hl hf hk) ?_
 rintro _ s2 ⟨q,e,rfl,g,hres⟩
 have k:=g.size
 refine dT2 (dPtr_i (dInt_i ?_))
 refine sB_ne (fun f=>?_) (fun f=>?_)
 ·refine ret_t ?_
  refine ⟨_,_,_,_,rfl,((Ch.refl [T,T+1,T+2,T+3] s).ch g (by simp)),?_⟩
  rcases hres with ⟨h1,h2,h3⟩|⟨h1,h2,h3,h4⟩
  ·exact .inl ⟨h1,h2,h3⟩
  exact .inr ⟨h1,h2,h3,fun h=>absurd h f⟩
 rcases hres with ⟨_,h1,_⟩|⟨hh,he,hC,hx⟩
 ·rw [h1] at f;cases f
 obtain ⟨r,m,bp,bh,x,hP,rfl,hxm,rfl⟩:=hx f
 have hxb:=hP.bufs.at_ x hxm
 have hyb:=hP.bufy.at_ x hxm
 have hPr:=hP
 refine nz_i ?_
 first|refine ld_t hxb rfl ?_
 refine dSl_i ?_
 refine tcall (c_clone τ _ hyb.sl hyb.len (fun h=>by obtain ⟨y,hy⟩:=hyb.ne;rw [h] at hy;cases hy) (by omega)) ?_
 rintro _ o ⟨ya,yc,rfl,i,j,hyn⟩
 have p:=i.size
 refine dSl_i ?_
 refine ret_t ?_
 have P_6:=hPr.mv i (rngn (by simp<;>omega))
 have hby:=bytes_eq hP.mo.nd hxm
 exact ⟨_,_,_,_,rfl,(((Ch.refl [T,T+1,T+2,T+3] s).ch g (by simp)).ch i (by simp)),.inr ⟨hh,by rw [←he,f],⟨⟨_,_,_,_,P_6⟩,hC.ok⟩,fun _=>⟨rfl,by rw [hby];exact j,by rw [hby];exact hyb.len⟩⟩⟩
-- no form: (*bollard/cache.Cache).Unpin
-- no form: (*bollard/cache.Cache).Pin
-- no form: (*bollard/cache.Cache).Hits
end Go.Proofs.YtkaikaodhegmhaaGreat.E
namespace Go.Proofs
open Go.Shelf
def Tryz.sortIA_ren :Go.Shelf.Ren:=⟨fun|189=>97|125=>193|257=>192|128=>267|129=>268|294=>258|295=>259|296=>260|297=>261|298=>262|299=>263|216=>264|300=>265|301=>266|328=>301|329=>302|330=>303|331=>304|332=>305|215=>306|343=>324|n=>n,fun|28=>33|3=>3|46=>172|0=>0|51=>90|53=>327|4=>4|183=>319|182=>318|131=>288|5=>5|9=>9|218=>343|222=>309|228=>355|229=>356|n=>n,fun|n=>n⟩
theorem Tryz.sortIA :Go.Proofs.Lays.n189 Tryz.prog Tryz.sortIA_ren:=
 {mixed:=by kernel_rfl,
  f125:=Tryz.func193.trans (congrArg some (by kernel_rfl)),
  f128:=Tryz.func267.trans (congrArg some (by kernel_rfl)),
  f129:=Tryz.func268.trans (congrArg some (by kernel_rfl)),
  f189:=Tryz.func97.trans (congrArg some (by kernel_rfl)),
  f215:=Tryz.func306.trans (congrArg some (by kernel_rfl)),
  f216:=Tryz.func264.trans (congrArg some (by kernel_rfl)),
  f257:=Tryz.func192.trans (congrArg some (by kernel_rfl)),
  f294:=Tryz.func258.trans (congrArg some (by kernel_rfl)),
  f295:=Tryz.func259.trans (congrArg some (by kernel_rfl)),
  f296:=Tryz.func260.trans (congrArg some (by kernel_rfl)),
  f297:=Tryz.func261.trans (congrArg some (by kernel_rfl)),
  f298:=Tryz.func262.trans (congrArg some (by kernel_rfl)),
  f299:=Tryz.func263.trans (congrArg some (by kernel_rfl)),
  f300:=Tryz.func265.trans (congrArg some (by kernel_rfl)),
  f301:=Tryz.func266.trans (congrArg some (by kernel_rfl)),
  f328:=Tryz.func301.trans (congrArg some (by kernel_rfl)),
  f329:=Tryz.func302.trans (congrArg some (by kernel_rfl)),
  f330:=Tryz.func303.trans (congrArg some (by kernel_rfl)),
  f331:=Tryz.func304.trans (congrArg some (by kernel_rfl)),
  f332:=Tryz.func305.trans (congrArg some (by kernel_rfl)),
  f343:=Tryz.func324.trans (congrArg some (by kernel_rfl)),
  t0:=Tryz.underlying0,
  a0:=Tryz.isAgg0,
  z0:=Tryz.sizeOf0,
  v0:=Tryz.zeroValue0,
  t3:=Tryz.underlying3,
  a3:=Tryz.isAgg3,
  z3:=Tryz.sizeOf3,
  v3:=Tryz.zeroValue3,
  t4:=Tryz.underlying4,
  a4:=Tryz.isAgg4,
  z4:=Tryz.sizeOf4,
  v4:=Tryz.zeroValue4,
  t5:=Tryz.underlying5,
  a5:=Tryz.isAgg5,
  z5:=Tryz.sizeOf5,
  v5:=Tryz.zeroValue5,
  t9:=Tryz.underlying9,
  a9:=Tryz.isAgg9,
  z9:=Tryz.sizeOf9,
  v9:=Tryz.zeroValue9,
  t28:=Tryz.underlying33,
  a28:=Tryz.isAgg33,
  z28:=Tryz.sizeOf33,
  v28:=Tryz.zeroValue33,
  t46:=Tryz.underlying172,
  a46:=Tryz.isAgg172,
  z46:=Tryz.sizeOf172,
  v46:=Tryz.zeroValue172,
  t51:=Tryz.underlying90,
  a51:=Tryz.isAgg90,
  z51:=Tryz.sizeOf90,
  v51:=Tryz.zeroValue90,
  t53:=Tryz.underlying327,
  a53:=Tryz.isAgg327,
  z53:=Tryz.sizeOf327,
  v53:=Tryz.zeroValue327,
  t131:=Tryz.underlying288,
  a131:=Tryz.isAgg288,
  z131:=Tryz.sizeOf288,
  v131:=Tryz.zeroValue288,
  t182:=Tryz.underlying318,
  a182:=Tryz.isAgg318,
  z182:=Tryz.sizeOf318,
  v182:=Tryz.zeroValue318,
  t183:=Tryz.underlying319,
  a183:=Tryz.isAgg319,
  z183:=Tryz.sizeOf319,
  v183:=Tryz.zeroValue319,
  t218:=Tryz.underlying343,
  a218:=Tryz.isAgg343,
  z218:=Tryz.sizeOf343,
  v218:=Tryz.zeroValue343,
  t222:=Tryz.underlying309,
  a222:=Tryz.isAgg309,
  z222:=Tryz.sizeOf309,
  v222:=Tryz.zeroValue309,
  t228:=Tryz.underlying355,
  a228:=Tryz.isAgg355,
  z228:=Tryz.sizeOf355,
  v228:=Tryz.zeroValue355,
  t229:=Tryz.underlying356,
  a229:=Tryz.isAgg356,
  z229:=Tryz.sizeOf356,
  v229:=Tryz.zeroValue356 }
end Go.Proofs
namespace Go.Proofs.YtkaikaodhegmhaaGreat.E
open Go Go.Proofs Go.RowKit Go.Maps Go.Shelf Go.Sort
set_option linter.unusedVariables false
set_option linter.unusedSimpArgs false
theorem c_sortInt {a:Option Addr} {n c τ:Nat} {l:List Int} {s:TH} (hO:Own s a n c 3 1 (ivs l) τ) (hn:n<=17592186044416):
  TRet Tryz.prog 97 #[.slice a n c] s fun v s'=>v=.tuple #[]/\Ch [τ] s s'/\Own s' a n c 3 1 (ivs (l.mergeSort fun x y=>decide (x<=y))) τ:=by
 have hl:l.length=n:=by have:=hO.1;rw [ivs_len] at this;omega
 by_cases h0:n=0
 ·subst h0
  have hss:l=[]:=List.eq_nil_of_length_eq_zero hl
  subst hss
  intro w hw
  refine (Any.slices_Sort_int_none Tryz.sortIA a c w).mono ?_
  rintro e w' ⟨rfl,rfl⟩
  exact ⟨⟨_,s,rfl,hw.symm,rfl,Ch.refl _ _,by simpa using hO⟩,Like.refl _⟩
 obtain ⟨g,o,rfl⟩: ∃g o,a=some ⟨g,o,none⟩:=by
  rcases hO.2 with ⟨_,h,_⟩|⟨g,o,L,h,_⟩
  ·exact absurd h h0
  ·exact ⟨g,o,h⟩
 have hgt:s.g g=τ:=hO.tagOf
 intro w hw
 have hH:Go.Sort.Holds (Value.int .i64) w g o l.toArray:=by
  intro j hj
  have hj':j<l.length:=by simpa using hj
  have hcell:=hO.sl.cells w hw j (.int .i64 l.toArray[j]!) (by simp [ivs,hj'])
  rw [add_mk] at hcell
  refine ⟨hcell,?_⟩
  rcases hO.2 with ⟨h,_⟩|⟨g',o',L,h,h1,_⟩
  ·cases h
  ·cases h
   rw [frozen_eq,hw];exact h1.frozen _
 have hS:=Any.slices_Sort_int Tryz.sortIA g o c l w hH (by rw [hw];rcases hO.2 with ⟨h,_⟩|⟨g',o',L,h,h1,_⟩<;>cases h;exact h1.lt) (by omega)
 rw [hl] at hS
 refine hS.mono ?_
 rintro e w' ⟨rfl,n',os,rfl⟩
 refine ⟨⟨_,⟨_,s.g⟩,rfl,rfl,rfl,Chg.mono (sortW_on (enc:=Value.int .i64) hw g o n' _ os) (fun j hj e=>by subst e;show s.g j∈[τ];rw [hgt];simp),?_⟩,rfl,rfl,rfl⟩
 have:=sortW_own (enc:=Value.int .i64) hw hO n' (l.mergeSort fun x y=>decide (x<=y)).toArray (by simp [hl]) os
 exact this
theorem ivs_set (l:List Int) (i:Nat) (x:Int):(ivs l).set i (.int .i64 x)=ivs (l.set i x):=by simp [ivs,List.map_set]
theorem snoc_ind {α:Type} {p:List α->Prop} (h0:p []) (h1: ∀l x,p l->p (l++[x])) (l:List α):p l:=by
 rw [←l.reverse_reverse]
 induction l.reverse with
 |nil=>exact h0
 |cons x t ih=>rw [List.reverse_cons];exact h1 _ x ih
def cptS (acc:List Int) (x:Int):List Int:=if acc.getLast? =some x then acc else acc++[x]
def cpt (l:List Int):List Int:=l.foldl cptS []
theorem cpt_snoc (l:List Int) (x:Int):cpt (l++[x])=cptS (cpt l) x:=by simp [cpt,List.foldl_append]
theorem cpt_last (l:List Int):(cpt l).getLast? =l.getLast? :=by
 induction l using snoc_ind with
 |h0=>rfl
 |h1 l x ih=>
  rw [cpt_snoc]
  unfold cptS
  by_cases h:(cpt l).getLast? =some x
  ·rw [if_pos h,h];simp
  rw [if_neg h];simp
theorem cpt_take {l:List Int} {k:Nat} {x:Int} (h:l[k]? =some x):cpt (l.take (k+1))=if (l.take k).getLast? =some x then cpt (l.take k) else cpt (l.take k)++[x]:=by
 rw [List.take_add_one,h,Option.toList_some,cpt_snoc]
 unfold cptS
 rw [cpt_last]
theorem last_take {l:List Int} {k:Nat} {y:Int} (h:l[k]? =some y):(l.take (k+1)).getLast? =some y:=by
 rw [List.take_add_one,h];simp
theorem c_compact {a:Option Addr} {n c τ:Nat} {l:List Int} {s:TH} (hO:Own s a n c 3 1 (ivs l) τ) (hn:n<=17592186044416):TRet Tryz.prog 98 #[.slice a n c] s fun v s'=>v=.slice a (cpt l).length c/\Ch [τ] s s'/\Own s' a (cpt l).length c 3 1 (ivs (cpt l)) τ:=by
 have hl:l.length=n:=by have:=hO.1;rw [ivs_len] at this;omega
 have hle:=hO.le
 refine F98_calls _ _ _  ?_
 unfold F98
 refine sB_d (fun B=>?_) (fun B=>?_)
 ·refine ret_t ?_
  have e:cpt l=l:=by
   match l,hl with
   |[],_=>rfl
   |[x],_=>rfl
   |x::y::l,h=>simp at h;omega
  rw [e,hl]
  exact ⟨rfl,(Ch.refl [τ] s),hO⟩
 refine ⟨fun vs H'=>∃s':TH,s'.h=H'/\∃i,vs=[.int .i64 i]/\ChL [τ] [] s s'/\(∃k:Nat,i=k/\1<=k/\k<=n/\cpt (l.take k)=l.take k/\Own s' a n c 3 1 (ivs l) τ),fun vs H'=>match vs with|[.int .i64 i]=>((n:Int) - i).toNat|_=>0,⟨s,rfl,_,rfl,ChL.refl _ _ _,?_⟩,?_⟩
 ·refine ⟨1,rfl,by omega,by omega,?_,hO⟩
  match l,hl with
  |[],h=>simp at h;omega
  |x::l,_=>rfl
 intro i
 iterate 53 intro _
 intro K hI
 obtain ⟨g,rfl,i_,hvs,r,k,rfl,hk1,hk,hcp,f⟩:=hI
 cases hvs
 have L:=r.size
 refine sB_d (fun C=>?_) (fun C=>?_)
 ·have hk2:k<n:=by omega
  obtain ⟨x,hx⟩: ∃x,l[k]? =some x:=⟨l[k],by simp [hl,hk2]⟩
  obtain ⟨y,hy⟩: ∃y,l[k - 1]? =some y:=⟨l[k - 1]'(by omega),by simp⟩
  obtain ⟨b,rfl⟩:=f.ne_none (by omega)
  refine nz_i (ask_t (by omega) ?_)
  refine ld_sl f.sl (by rw [Int.toNat_natCast,Nat.mul_one];exact ivs_get hx) ?_
  refine dInt_i (wr_t (by omega) ?_)
  rw [show ((k:Int) - 1)=((k - 1:Nat):Int) from by omega]
  refine nz_i (ask_t (by omega) ?_)
  refine ld_sl f.sl (by rw [Int.toNat_natCast,Nat.mul_one];exact ivs_get hy) ?_
  refine dInt_i ?_
  refine sB_eq (fun j=>?_) (fun j=>?_)
  ·refine ask_t (by omega) ?_
   refine ⟨fun vs H'=>∃s':TH,s'.h=H'/\∃i2 k2,vs=[.int .i64 i2,.int .i64 k2]/\ChL [τ] [] g s'/\(∃(p q:Nat) (X:List Int),i2=p/\k2=q/\1<=q/\k+q<=n/\1<=p/\p+1<=k+q/\Own s' (some b) n c 3 1 (ivs X) τ/\X.drop (k+q - 1)=l.drop (k+q - 1)/\X.take p=cpt (l.take (k+q))),fun vs H'=>match vs with|[.int .i64 i2,.int .i64 k2]=>((n:Int) - k2).toNat|_=>0,⟨g,rfl,_,_,rfl,ChL.refl _ _ _,?_⟩,?_⟩
   ·refine ⟨k,1,l,rfl,rfl,by omega,by omega,by omega,by omega,f,rfl,?_⟩
    rw [cpt_take hx,show k=(k - 1)+1 by omega,last_take hy,if_pos (by rw [j]),show k - 1+1=k by omega,hcp]
   intro i2 k2
   iterate 25 intro _
   intro M hI
   obtain ⟨F,rfl,i2_,k2_,hvs,t,p,q,X,rfl,rfl,hq1,hq,hp1,hp,d,hX1,hX2⟩:=hI
   cases hvs
   have N:=t.size
   have hXn:X.length=n:=by have:=d.len;rw [ivs_len] at this;omega
   refine sB_d (fun w=>?_) (fun w=>?_)
   all_goals simp only [Int.toNat_natCast] at w
   ·refine jn_u ?_
    have hkq:k+q<n:=by omega
    obtain ⟨x2,hx2⟩: ∃x,l[k+q]? =some x:=⟨l[k+q]'(by omega),by simp⟩
    obtain ⟨y2,hy2⟩: ∃y,l[k+q - 1]? =some y:=⟨l[k+q - 1]'(by omega),by simp⟩
    have hXx:X[k+q]? =some x2:=by have:=congrArg (·[1]?) hX1;simp only [List.getElem?_drop] at this;rw [show k+q - 1+1=k+q by omega] at this;rw [this,hx2]
    have hXy:X[k+q - 1]? =some y2:=by have:=congrArg (·[0]?) hX1;simp only [List.getElem?_drop,Nat.add_zero] at this;rw [this,hy2]
    have hcut:=d.cut (m:=k) (by omega)
    rw [Nat.mul_one,ivs_drop] at hcut
    obtain ⟨b2,hb2⟩:=hcut.ne_none (by rw [ivs_len,List.length_drop];have:=d.len;rw [ivs_len] at this;omega)
    rw [hb2] at hcut ⊢
    refine nz_i (ask_t (by omega) ?_)
    refine ld_sl hcut (by rw [Int.toNat_natCast,Nat.mul_one];exact ivs_get (by rw [List.getElem?_drop];exact hXx)) ?_
    refine dInt_i (wr_t (by omega) ?_)
    rw [show ((q:Int) - 1)=((q - 1:Nat):Int) from by omega]
    refine nz_i (ask_t (by omega) ?_)
    refine ld_sl hcut (by rw [Int.toNat_natCast,Nat.mul_one];exact ivs_get (by rw [List.getElem?_drop,show k+(q - 1)=k+q - 1 by omega];exact hXy)) ?_
    refine dInt_i ?_
    refine sB_ne (fun o=>?_) (fun o=>?_)
    ·refine nz_i (ask_t (by omega) ?_)
     refine ld_sl hcut (by rw [Int.toNat_natCast,Nat.mul_one];exact ivs_get (by rw [List.getElem?_drop];exact hXx)) ?_
     refine dInt_i (nz_i (ask_t (by omega) ?_))
     refine Own.st d rfl (by rw [Int.toNat_natCast];omega) fun D G H O=>?_
     have E:=Ch.on_tag (T:=[τ]) (Ch.refl _ _) H d.tagOf (by simp)
     refine wr_t (by omega) ?_
     iterate 19 intro _
     refine dInt_i (wr_t (by omega) ?_)
     refine ⟨⟨D,rfl,_,_,rfl,(((ChL.refl [τ] [] g).chl t (by simp) (by simp<;>omega)).ch E (by simp)),?_⟩,?_⟩
     ·refine ⟨p+1,q+1,X.set p x2,by omega,by omega,by omega,by omega,by omega,by omega,?_,?_,?_⟩
      ·have h:=G
       rw [Int.toNat_natCast,Nat.mul_one,ivs_set] at h
       exact h
      ·rw [show k+(q+1) - 1=k+q - 1+1 by omega,List.drop_set_of_lt (by omega), ←List.drop_drop,hX1,List.drop_drop]
      rw [show k+(q+1)=k+q+1 by omega,cpt_take hx2,show k+q=k+q - 1+1 by omega,last_take hy2,if_neg (by intro e;cases e;exact o rfl),show k+q - 1+1=k+q by omega, ←hX2,List.take_add_one,List.getElem?_set_self (by have:=(List.getElem?_eq_some_iff.1 hXx).1;omega),List.take_set_of_le (Nat.le_refl _)]
      rfl
     first|omega|(simp only [];omega)
    iterate 19 intro _
    refine dInt_i (wr_t (by omega) ?_)
    refine ⟨⟨F,rfl,_,_,rfl,((ChL.refl [τ] [] g).chl t (by simp) (by simp<;>omega)),?_⟩,?_⟩
    ·refine ⟨p,q+1,X,by omega,by omega,by omega,by omega,by omega,by omega,d,?_,?_⟩
     ·rw [show k+(q+1) - 1=k+q - 1+1 by omega, ←List.drop_drop,hX1,List.drop_drop]
     rw [show k+(q+1)=k+q+1 by omega,cpt_take hx2,show k+q=k+q - 1+1 by omega,last_take hy2,if_pos (by rw [o]),show k+q - 1+1=k+q by omega,hX2]
    first|omega|(simp only [];omega)
   refine ask_t (by omega) ?_
   simp only [Int.toNat_natCast]
   refine clear_t u33 in3 rfl (by intro u hu;simp [Value.cells] at hu;subst hu;rfl) (d.pre (m:=p) (by omega)) (m:=n) (by omega) (by omega) fun I q2_13 A _=>?_
   have z:=A.ch (T:=[τ]) (d.pre (m:=p) (by omega)) (by simp)
   have J:=z.size
   refine ask_t (by omega) ?_
   refine ret_t ?_
   have hkn:k+q=n:=by omega
   rw [hkn,List.take_of_length_le (l:=l) (by omega)] at hX2
   have hpl:(cpt l).length=p:=by rw [←hX2,List.length_take];omega
   have hO2:=q2_13
   rw [Nat.mul_one,ivs_take,hX2] at hO2
   rw [hpl]
   simp only [slO_zero,Int.toNat_zero,Nat.sub_zero]
   exact ⟨trivial,((((Ch.refl [τ] s).chl r (by simp) (by simp<;>omega)).chl t (by simp) (by simp<;>omega)).ch z (by simp)),hO2⟩
  refine wr_t (by omega) ?_
  refine ⟨⟨g,rfl,_,rfl,((ChL.refl [τ] [] s).chl r (by simp) (by simp<;>omega)),?_⟩,?_⟩
  ·refine ⟨k+1,by omega,by omega,by omega,?_,f⟩
   rw [cpt_take hx,show k=(k - 1)+1 by omega,last_take hy,if_neg (by intro e;cases e;exact j rfl),show k - 1+1=k by omega,hcp,List.take_add_one,hx]
   rfl
  first|omega|(simp only [];omega)
 refine ret_t ?_
 have hkn:k=n:=by omega
 rw [hkn,List.take_of_length_le (by omega)] at hcp
 rw [hcp,hl]
 exact ⟨rfl,((Ch.refl [τ] s).chl r (by simp) (by simp<;>omega)),f⟩
end Go.Proofs.YtkaikaodhegmhaaGreat.E
namespace Go.Proofs.YtkaikaodhegmhaaGreat.E
open Go Go.ChangeMaps
set_option linter.unusedVariables false
set_option linter.unusedSimpArgs false
theorem nodup_ix {α:Type} {l:List α} (h:l.Nodup) {i j:Nat} (hi:i<l.length) (hj:j<l.length) (e:l[i]=l[j]):i=j:=by
 have hp:=List.pairwise_iff_getElem.1 h
 rcases Nat.lt_trichotomy i j with h1|h1|h1
 ·exact absurd e (hp i j hi hj h1)
 ·exact h1
 exact absurd e.symm (hp j i hj hi h1)
structure ItK {κ:Type} (kf:κ->Value) (s:TH) (q r:Nat) (m:List (κ×Value)) (vis:List κ) (τ τq:Nat):Prop where
 ex: ∃(es:List MapEntry) (ck:Nat) (seen:Array Nat),s.h[r]? =some (.map es.toArray ck)/\Ents kf es ck m/\s.h[q]? =some (.mapIter (some r) ck seen ck)/\
  (∀e∈es,∀k,e.key=kf k->(seen.contains e.born=true↔k∈vis))/\(∀vis' k,vis=vis'++[k]->∀e∈es,e.key=kf k->seen.back? =some e.born)
 tag:s.g r=τ
 tagq:s.g q=τq
 nd:(m.map (·.1)).Nodup
 sub:vis.Nodup
def leftH (H:Heap) (q r:Nat):Nat:=
 match H[r]?,H[q]? with
 |some (.map es _),some (.mapIter _ _ seen _)=>(leftOf es seen).size
 |_,_=>0
section
variable {κ :Type} {kf:κ->Value} {s s':TH} {q r τ τq:Nat} {m:List (κ×Value)} {vis:List κ}
theorem ItK.map (h:ItK kf s q r m vis τ τq):MapK kf s r m τ:=by
 obtain ⟨es,ck,seen,h1,h2,_⟩:=h.ex
 exact ⟨⟨es,ck,h1,h2⟩,h.tag,h.nd⟩
theorem ItK.ltq (h:ItK kf s q r m vis τ τq):q<s.h.size:=by
 obtain ⟨es,ck,seen,_,_,h1,_⟩:=h.ex
 exact (Array.getElem?_eq_some_iff.1 h1).1
theorem ItK.mv {B:Nat->Prop} (h:ItK kf s q r m vis τ τq) (c:Chg B s s') (hr: ¬B r) (hq: ¬B q):ItK kf s' q r m vis τ τq:=by
 have l1:=h.map.lt
 have l2:=h.ltq
 obtain ⟨es,ck,seen,h1,h2,h3,h4⟩:=h.ex
 exact ⟨⟨es,ck,seen,(c.get r l1 hr).trans h1,h2,(c.get q l2 hq).trans h3,h4⟩,(c.tag r l1).trans h.tag,(c.tag q l2).trans h.tagq,h.nd,h.sub⟩
theorem ItK.ch {T:List Nat} (h:ItK kf s q r m vis τ τq) (c:Ch T s s') (hr:τ∉T) (hq:τq∉T):ItK kf s' q r m vis τ τq:=
 h.mv c (by show s.g r∉T;rw [h.tag];exact hr) (by show s.g q∉T;rw [h.tagq];exact hq)
theorem ents_keys {es:List MapEntry} {ck:Nat} (he:Ents kf es ck m) {e:MapEntry} (h:e∈es): ∃p∈m,e.key=kf p.1/\e.val=p.2:=by
 obtain ⟨i,hi,rfl⟩:=List.getElem_of_mem h
 have hl:es.length=m.length:=by have:=congrArg List.length he.key;simpa using this
 refine ⟨m[i]'(by omega),List.getElem_mem _,?_,?_⟩
 ·have:=congrArg (·[i]?) he.key
  simpa [hi,show i<m.length by omega] using this
 have:=congrArg (·[i]?) he.val
 simpa [hi,show i<m.length by omega] using this
theorem left_len [DecidableEq κ] (hinj: ∀a b,kf a=kf b->a=b): ∀ {es:List MapEntry} {m:List (κ×Value)} {seen:Array Nat} {vis:List κ},es.map (·.key)=m.map (fun p=>kf p.1)->(∀e∈es,∀k,e.key=kf k->(seen.contains e.born=true↔k∈vis))->
  (es.filter fun e=> !seen.contains e.born).length=(m.filter fun p=> !decide (p.1∈vis)).length
 |[],[],_,_,_,_=>rfl
 |[],_::_,_,_,h,_=>by simp at h
 |_::_,[],_,_,h,_=>by simp at h
 |e::es,p::m,seen,vis,h,hs=>by
  simp only [List.map_cons,List.cons.injEq] at h
  have h1:=hs e (by simp) p.1 h.1
  have h2:=left_len hinj (seen:=seen) (vis:=vis) h.2 (fun e' he'=>hs e' (List.mem_cons_of_mem _ he'))
  rw [List.filter_cons,List.filter_cons]
  by_cases hp:p.1∈vis
  ·rw [h1.2 hp];simp only [Bool.not_true,hp,decide_true,Bool.false_eq_true,if_false];exact h2
  ·have:seen.contains e.born=false:=by rw [←Bool.not_eq_true];exact fun h=>hp (h1.1 h)
   rw [this];simp only [Bool.not_false,hp,decide_false,if_true,List.length_cons];rw [h2]
theorem ItK.left [DecidableEq κ] (hinj: ∀a b,kf a=kf b->a=b) (h:ItK kf s q r m vis τ τq):leftH s.h q r=(m.filter fun p=> !decide (p.1∈vis)).length:=by
 obtain ⟨es,ck,seen,h1,h2,h3,h4,_⟩:=h.ex
 unfold leftH
 rw [h1,h3]
 show (leftOf es.toArray seen).size=_
 rw [←left_len hinj h2.key h4]
 unfold leftOf
 simp
end
section
variable {κ :Type} {kf:κ->Value} {P:Program} {T Kt Et:TypeId} {E:List PanicEntry->Heap->Prop} {s:TH} {q r τ:Nat} {m:List (κ×Value)} {vis:List κ}
theorem range_t (τq:Nat) {K:Value->Heap->Prop} (hT:P.underlying T=some (.map Kt Et)) (h:MapK kf s r m τ) (hinj: ∀a b,kf a=kf b->a=b)
  (hk: ∀(s':TH) (q:Nat),q=s.h.size->ItK kf s' q r m [] τ τq->Ch [] s s'->K (.pointer (some ⟨q,0,none⟩)) s'.h):
  semW P (Instr.range T (.map (some r))) E s.h K:=.mk fun w hw=>by
 have hlt:=h.lt
 obtain ⟨es,ck,hg,he⟩:=h.get
 have h1:(getObj r).run P w=.ok (.map es.toArray ck) w:=by
  show Sem.run P (.getObj r .pure) w=_
  simp only [Sem.run,hw,hg]
 have hr:(Instr.range T (.map (some r))).run P w=.ok (.pointer (some ⟨w.heap.size,0,none⟩)) { w with heap:=w.heap.push (.mapIter (some r) ck #[] ck) }:=by
  simp only [Instr.range,Sem.run_bind,run_under hT,Result.andThen_ok,h1,Sem.run_pure]
  rfl
 rw [hr]
 refine ⟨?_,rfl,rfl,rfl⟩
 have:=hk ⟨s.h.push (.mapIter (some r) ck #[] ck),upd s.g s.h.size τq⟩ s.h.size rfl ⟨⟨es,ck,#[],by
  show (s.h.push _)[r]? =_
  rw [Array.getElem?_push,if_neg (by omega)];exact hg,he,by simp,fun e _ k _=>by simp,fun vis' k hv=>by simp at hv⟩,by simp [upd,Nat.ne_of_lt hlt,h.tag],by simp [upd],h.nd,List.nodup_nil⟩ (pushed _ _ _)
 rw [←hw] at this
 exact this
theorem next_t {τq:Nat} {ty:TypeId} {K:Value->Heap->Prop} (h:ItK kf s q r m vis τ τq) (hinj: ∀a b,kf a=kf b->a=b)
  (h1: ∀(s':TH) (k:κ) (x:Value),(k,x)∈m->k∉vis->ItK kf s' q r m (vis++[k]) τ τq->On q s s'->s.h.size=s'.h.size->K (.tuple #[.bool true,kf k,x]) s'.h)
  (h2:(∀k∈m.map (·.1),k∈vis)->K (.tuple #[.bool false]) s.h):
  semW P (Instr.next (.pointer (some ⟨q,0,none⟩)) false ty) E s.h K:=.mk fun w hw=>by
 have l1:=h.map.lt
 have l2:=h.ltq
 obtain ⟨es,ck,seen,e1,e2,e3,e4,e5⟩:=h.ex
 rcases run_next_at (P:=P) w ty q r ck ck seen es.toArray ck (by rw [hw];exact e3) (by rw [hw];exact e1) (by simpa using e2.old) (Nat.le_refl _) with ⟨h0,hr⟩|⟨e,he,w1,hw1,hr⟩
 ·rw [hr]
  suffices hall: ∀k∈m.map (·.1),k∈vis from ⟨by rw [hw];exact h2 hall,Like.refl w⟩
  intro k hk
  obtain ⟨p,hp,rfl⟩:=List.mem_map.1 hk
  have:kf p.1∈es.map (·.key):=by rw [e2.key];exact List.mem_map.2 ⟨p,hp,rfl⟩
  obtain ⟨e,he,hek⟩:=List.mem_map.1 this
  rw [←e4 e he p.1 hek]
  have h0':leftOf es.toArray seen=#[]:=Array.eq_empty_of_size_eq_zero h0
  unfold leftOf at h0'
  rw [Array.filter_eq_empty_iff] at h0'
  have:=h0' e (by simpa using he)
  simpa using this
 ·rw [hr]
  unfold leftOf at he
  simp at he
  obtain ⟨he1,he2⟩:=he
  obtain ⟨p,hp,k1,k2⟩:=ents_keys e2 he1
  have hpv:p.1∉vis:=fun hv=>by
   have:=(e4 e he1 p.1 k1).2 hv
   simp at this
   exact he2 this
  have hone: ∀e'∈es,e'.key=kf p.1->e'=e:=fun e' he' hk'=>by
   obtain ⟨i,hi,rfl⟩:=List.getElem_of_mem he'
   obtain ⟨j,hj,rfl⟩:=List.getElem_of_mem he1
   have hl:es.length=m.length:=by have:=congrArg List.length e2.key;simpa using this
   have hki:kf (m[i]'(by omega)).1=(es[i]).key:=by
    have:=congrArg (·[i]?) e2.key
    simpa [hi,show i<m.length by omega] using this.symm
   have hkj:kf (m[j]'(by omega)).1=(es[j]).key:=by
    have:=congrArg (·[j]?) e2.key
    simpa [hj,show j<m.length by omega] using this.symm
   have hkk:(m[i]'(by omega)).1=(m[j]'(by omega)).1:=hinj _ _ (by rw [hki,hkj,hk',k1])
   have hij:i=j:=by
    have hn:=h.nd
    exact nodup_ix hn (i:=i) (j:=j) (by simp;omega) (by simp;omega) (by simpa using hkk)
   subst hij;rfl
  have hsz:w1.heap=w.heap:=by rcases hw1 with rfl|rfl<;>rfl
  have hb:(setBlock w1 q (.mapIter (some r) ck (seen.push e.born) ck)).heap=s.h.setIfInBounds q (.mapIter (some r) ck (seen.push e.born) ck):=by
   show (w1.heap.setIfInBounds q _)=_
   rw [hsz,hw]
  have hK:=h1 ⟨s.h.setIfInBounds q (.mapIter (some r) ck (seen.push e.born) ck),s.g⟩ p.1 p.2 hp hpv ⟨⟨es,ck,seen.push e.born,?_,e2,by simp [l2],fun e' he' k hk'=>?_,fun vis' k hv e' he' hk'=>?_⟩,h.tag,h.tagq,h.nd,?_⟩ ⟨by simp,fun _ _=>rfl,fun j hj hn=>?_⟩ (by simp)
  ·refine ⟨by rw [hb];rw [k1,k2];exact hK,?_⟩
   rcases hw1 with rfl|rfl<;>exact ⟨rfl,rfl,rfl⟩
  ·show (s.h.setIfInBounds q _)[r]? =_
   by_cases hqr:q=r
   ·subst hqr;rw [e1] at e3;cases e3
   ·rw [Array.getElem?_setIfInBounds_ne hqr];exact e1
  ·rw [List.mem_append,List.mem_singleton, ←e4 e' he' k hk']
   have hc:(seen.push e.born).contains e'.born=true↔(seen.contains e'.born=true∨e'.born=e.born):=by simp
   rw [hc]
   refine or_congr Iff.rfl ⟨fun hbn=>?_,fun hk=>?_⟩
   ·have hee:e'=e:=by
     have hn:=e2.born
     obtain ⟨i,hi,rfl⟩:=List.getElem_of_mem he'
     obtain ⟨j,hj,rfl⟩:=List.getElem_of_mem he1
     have hij:i=j:=nodup_ix hn (i:=i) (j:=j) (by simpa using hi) (by simpa using hj) (by simpa using hbn)
     subst hij;rfl
    subst hee
    exact hinj _ _ (hk'.symm.trans k1)
   ·subst hk;rw [hone e' he' hk']
  ·obtain ⟨h3,h4⟩:=List.append_inj' hv rfl
   simp at h4
   subst h4
   rw [hone e' he' hk'];simp
  ·rw [List.nodup_append]
   exact ⟨h.sub,by simp,fun a ha b hb hab=>by simp at hb;subst hb;subst hab;exact hpv ha⟩
  ·show (s.h.setIfInBounds q _)[j]? =_
   rw [Array.getElem?_setIfInBounds_ne (fun e=>hn e.symm)]
theorem entry_t {τq:Nat} {K:Value->Heap->Prop} {k:κ} {x:Value} (h:ItK kf s q r m (vis++[k]) τ τq) (hm:(k,x)∈m) (hinj: ∀a b,kf a=kf b->a=b)
  (hk:K (.tuple #[kf k,x]) s.h):semW P (Instr.entry (.pointer (some ⟨q,0,none⟩))) E s.h K:=.mk fun w hw=>by
 obtain ⟨es,ck,seen,e1,e2,e3,e4,e5⟩:=h.ex
 have hr:(getObj q).run P w=.ok (.mapIter (some r) ck seen ck) w:=by
  show Sem.run P (.getObj q .pure) w=_
  simp only [Sem.run,hw,e3]
 have hr2:(getObj r).run P w=.ok (.map es.toArray ck) w:=by
  show Sem.run P (.getObj r .pure) w=_
  simp only [Sem.run,hw,e1]
 have:kf k∈es.map (·.key):=by rw [e2.key];exact List.mem_map.2 ⟨_,hm,rfl⟩
 obtain ⟨e,he,hek⟩:=List.mem_map.1 this
 have hb:=e5 vis k rfl e he hek
 have hfind:es.toArray.find? (fun e'=>e'.born==e.born)=some e:=by
  rw [List.find?_toArray]
  have hn:=e2.born
  clear e4 e5 e2 hr2 this
  revert he hn
  generalize es=l
  intro he hn
  induction l with
  |nil=>cases he
  |cons y l ih=>
   rw [List.map_cons,List.nodup_cons] at hn
   rw [List.find?_cons]
   rcases List.mem_cons.1 he with rfl|he
   ·simp
   ·have:(y.born==e.born)=false:=by
     simp only [beq_eq_false_iff_ne];intro e';exact hn.1 (by rw [e'];exact List.mem_map.2 ⟨e,he,rfl⟩)
    rw [this];exact ih he hn.2
 have hval:e.val=x:=by
  obtain ⟨p,hp,k1,k2⟩:=ents_keys e2 he
  have hpk:p.1=k:=hinj _ _ (k1.symm.trans hek)
  have hn:=h.nd
  have:p=(k,x):=by
   obtain ⟨i,hi,rfl⟩:=List.getElem_of_mem hp
   obtain ⟨j,hj,hje⟩:=List.getElem_of_mem hm
   have hij:i=j:=nodup_ix hn (i:=i) (j:=j) (by simpa using hi) (by simpa using hj) (by simp [hpk,hje])
   subst hij;exact hje
  rw [k2,this]
 have hrun:(Instr.entry (.pointer (some ⟨q,0,none⟩))).run P w=.ok (.tuple #[kf k,x]) w:=by
  simp [Instr.entry,hr,hr2,hb,hfind,hek,hval]
 rw [hrun]
 exact ⟨by rw [hw];exact hk,Like.refl w⟩
end
theorem filt_less {κ:Type} [DecidableEq κ] {k:κ} {x:Value} {vis:List κ} {m:List (κ×Value)} (h:(k,x)∈m) (hv:k∉vis):(m.filter fun p=> !decide (p.1∈vis++[k])).length<(m.filter fun p=> !decide (p.1∈vis)).length:=by
 have step: ∀(p:κ×Value) (m:List (κ×Value)),∃a b:Nat,((p::m).filter fun p=> !decide (p.1∈vis++[k])).length=a+(m.filter fun p=> !decide (p.1∈vis++[k])).length/\((p::m).filter fun p=> !decide (p.1∈vis)).length=b+(m.filter fun p=> !decide (p.1∈vis)).length/\a<=b/\(p.1=k->a<b):=fun p m=>by
  rw [List.filter_cons,List.filter_cons]
  by_cases h1:p.1∈vis
  ·have h2:p.1∈vis++[k]:=List.mem_append_left _ h1
   rw [decide_eq_true h1,decide_eq_true h2]
   exact ⟨0,0,by simp,by simp,Nat.le_refl _,fun e=>absurd (e▸h1) hv⟩
  rw [decide_eq_false h1]
  by_cases h2:p.1=k
  ·have h3:p.1∈vis++[k]:=List.mem_append_right _ (List.mem_singleton.2 h2)
   rw [decide_eq_true h3]
   exact ⟨0,1,by simp,by simp;omega,by omega,fun _=>by omega⟩
  have h3:p.1∉vis++[k]:=fun h=>(List.mem_append.1 h).elim h1 fun h=>h2 (List.mem_singleton.1 h)
  rw [decide_eq_false h3]
  exact ⟨1,1,by simp;omega,by simp;omega,Nat.le_refl _,fun e=>absurd e h2⟩
 have hle: ∀m:List (κ×Value),(m.filter fun p=> !decide (p.1∈vis++[k])).length<=(m.filter fun p=> !decide (p.1∈vis)).length:=fun m=>by
  induction m with
  |nil=>simp
  |cons p m ih=>
   obtain ⟨a,b,e1,e2,e3,_⟩:=step p m
   omega
 induction m with
 |nil=>cases h
 |cons p m ih=>
  obtain ⟨a,b,e1,e2,e3,e4⟩:=step p m
  rcases List.mem_cons.1 h with h|h
  ·have:=e4 (by rw [←h])
   have:=hle m
   omega
  have:=ih h
  omega
theorem it_less {κ:Type} [DecidableEq κ] {kf:κ->Value} (hinj: ∀a b,kf a=kf b->a=b) {s s':TH} {q r τ τq:Nat} {m m':List (κ×Value)} {vis:List κ} {k:κ} {x:Value} (it:ItK kf s q r m vis τ τq) (it':ItK kf s' q r m' (vis++[k]) τ τq)
  (hm:(k,x)∈m) (hv:k∉vis) (hs:m'.Sublist m):leftH s'.h q r<leftH s.h q r:=by
 rw [it.left hinj,it'.left hinj]
 exact Nat.lt_of_le_of_lt (hs.filter _).length_le (filt_less hm hv)
theorem conv_bs {P:Program} {src dst e:TypeId} {E:List PanicEntry->Heap->Prop} {s:TH} {xa:Option Addr} {xn xc τ:Nat} {l:List UInt8} {K:Value->Heap->Prop}
  (hs:P.underlying src=some (.slice e)) (he:P.underlying e=some (.int .u8)) (hd:P.underlying dst=some .string) (hx:Sl s xa (bvs l) τ) (hn:l.length=xn) (h0:xa=none->xn=0) (hk:K (.string ⟨l.toArray⟩) s.h):
  semW P (convert src dst (.slice xa xn xc)) E s.h K:=.mk fun w hw=>by
 subst hn
 cases xa with
 |none=>
  have:l=[]:=List.eq_nil_of_length_eq_zero (h0 rfl)
  subst this
  rw [run_convert_bytes_nil w src e hs he _ _ dst hd]
  exact ⟨by rw [hw];exact hk,Like.refl w⟩
 |some a=>
  rw [run_convert_bytes_back w src dst e a xc l hs he hd (fun j hj=>hx.cells w hw j _ (by simp [bvs,bv,hj]))]
  exact ⟨by rw [hw];exact hk,Like.refl w⟩
theorem dNx_f {x:Prop} {k:Value->Value->Prop} (h:x):dNx (.tuple #[.bool false]) x k:=h
theorem dNx_t {x:Prop} {k:Value->Value->Prop} {a b:Value} (h:k a b):dNx (.tuple #[.bool true,a,b]) x k:=h
theorem iinj : ∀a b:Int,Value.int .i64 a=Value.int .i64 b->a=b:=fun a b h=>by simpa using h
end Go.Proofs.YtkaikaodhegmhaaGreat.E
namespace Go.Proofs.YtkaikaodhegmhaaGreat.E
open Go Go.Conc.Locks
set_option linter.unusedVariables false
theorem setcell_on {s:TH} {r:Nat} {l:List Value} {t τ i:Nat} {v:Value} (h:Blk s r l t τ) {w:World} (hw:w.heap=s.h):
  (⟨setH s.h ⟨r,i,none⟩ v,s.g⟩:TH).h=(w.setCell ⟨r,i,none⟩ v).heap:=by rw [set_eq,hw]
theorem on_ch {s s':TH} {r:Nat} {l:List Value} {t τ:Nat} (h:Blk s r l t τ) (c:On r s s'):Ch [τ] s s':=Chg.mono c fun j _ e=>by subst e;rw [h.tag];simp
theorem like_set (w:World) (a:Addr) (v:Value):Like w (w.setCell a v):=⟨rfl,rfl,rfl⟩
theorem c_mlock {P:Program} {L:MuLink} (M:MuLib P L) {s:TH} {r i:Nat} {l:List Value} {t τ:Nat} (h:Blk s r l t τ) (hi:l[i]? =some (.int .i32 0)):
  TRet P L.lock #[.pointer (some ⟨r,i,none⟩)] s fun v s'=>v=.tuple #[]/\Ch [τ] s s'/\Blk s' r (l.set i (.int .i32 1)) t τ:=by
 intro w hw
 refine (Go.MuLone.lock_free M ⟨r,i,none⟩ w ?_ ?_).mono ?_
 ·rw [cell_eq,hw,h.cell];exact hi
 ·rw [frozen_eq,hw];exact h.frozen i
 rintro e w' ⟨rfl,rfl⟩
 have:=set_on (i:=i) (v:=.int .i32 1) h
 exact ⟨⟨_,_,rfl,setcell_on h hw,rfl,on_ch h this.2,this.1⟩,like_set w _ _⟩
theorem c_door {P:Program} {L:MuLink} (M:MuLib P L) {s:TH} {r i:Nat} {l:List Value} {t τ:Nat} (h:Blk s r l t τ) (hi:l[i]? =some (.int .i32 1))
  {fn:Func} {tmps:Array Value} {R:Ending->Heap->Prop} {v:Value} {K2:List PanicEntry->FrameMode->Heap->Prop} (he: ∀H,resK P fn tmps R H=R (.returned v) H)
  (hk: ∀s':TH,Blk s' r (l.set i (.int .i32 0)) t τ->On r s s'->s.h.size=s'.h.size->R (.returned v) s'.h):
  HCallsD P L.unlock #[.pointer (some ⟨r,i,none⟩)] .returning s.h (fun e u H'=>match e with
   |.returned _=>leavesV P fn tmps R [] (settle u) H'
   |.panicked c=>K2 c u H'
   |.outgrown=>False):=by
 intro w hw
 refine (Go.MuLone.unlock_deferred M ⟨r,i,none⟩ .returning w ?_ ?_).mono ?_
 ·rw [cell_eq,hw,h.cell];exact hi
 ·rw [frozen_eq,hw];exact h.frozen i
 rintro e u w' ⟨rfl,rfl,rfl⟩
 have:=set_on (i:=i) (v:=.int .i32 0) h
 refine ⟨?_,like_set w _ _⟩
 show resK P fn tmps R _
 rw [he, ←setcell_on h hw]
 exact hk _ this.1 this.2 (by simp [setH])
end Go.Proofs.YtkaikaodhegmhaaGreat.E
namespace Go.Proofs.YtkaikaodhegmhaaGreat.E
open Go
set_option linter.unusedVariables false
theorem zeroB (m:Nat):(Builtin.zeroCells (Value.int .u8 0).cells m).toList=bvs (List.replicate m 0):=by
 apply List.ext_getElem
 ·simp [Builtin.zeroCells,bvs,Value.cells]
 intro i h1 h2
 simp [Builtin.zeroCells,bvs,Value.cells,bv,Nat.mod_one]
section
variable {P :Program} {t tn ty e:TypeId} {i:TypeInfo} {E:List PanicEntry->Heap->Prop}
end
end Go.Proofs.YtkaikaodhegmhaaGreat.E
namespace Go.Proofs.YtkaikaodhegmhaaGreat.E
open Go
set_option linter.unusedVariables false
section
variable {P :Program} {t tn ty e:TypeId} {E:List PanicEntry->Heap->Prop}
theorem freezeH_get {H:Heap} {r n:Nat} {c:Array Value} {e:TypeId} (h:H[r]? =some (.cells c e (0,0))):(freezeH H ⟨r,n,none⟩ 1)[r]? =some (.cells c e (n,n+1)):=by
 unfold freezeH World.freeze
 rw [if_neg (by decide)]
 show (H.modify r _)[r]? =_
 rw [modify_get,if_pos rfl,h]
 rfl
theorem freezeH_other {H:Heap} {r n j:Nat} (h:j≠r):(freezeH H ⟨r,n,none⟩ 1)[j]? =H[j]? :=by
 unfold freezeH World.freeze
 rw [if_neg (by decide)]
 show (H.modify r _)[j]? =_
 rw [modify_get,if_neg (fun e=>h e.symm)]
theorem freezeH_size {H:Heap} {r n:Nat}:(freezeH H ⟨r,n,none⟩ 1).size=H.size:=by
 unfold freezeH World.freeze
 rw [if_neg (by decide)]
 show (H.modify r _).size=_
 simp
theorem conv_lit {s:TH} {r n τ:Nat} {l:List Value} {K:Value->Heap->Prop} (ht:P.underlying t=some (.slice e)) (he:P.underlying e=some (.int .u8)) (h:Blk s r l e τ) (hn:l.length=n)
  (hk: ∀s':TH,Sl s' (some ⟨r,0,none⟩) l τ->On r s s'->s.h.size=s'.h.size->K (.slice (some ⟨r,0,none⟩) n n) s'.h):
  semW P (convert t t (.slice (some ⟨r,0,none⟩) n n)) E s.h K:=.mk fun w hw=>by
 have hsh:w.shape? r=some (e,n):=by rw [shape_eq,hw];simp [shapeH,h.get,hn]
 have hrun:(convert t t (.slice (some ⟨r,0,none⟩) n n)).run P w=.ok (.slice (some ⟨r,0,none⟩) n n) (w.freeze ⟨r,n,none⟩ 1):=by
  simp [convert,run_underlying ht,run_underlying he,markStringish,hsh]
 rw [hrun]
 have hg:=freezeH_get (n:=n) h.get
 refine ⟨?_,?_⟩
 ·show K _ (w.freeze ⟨r,n,none⟩ 1).heap
  rw [freeze_eq,hw]
  refine hk ⟨freezeH s.h ⟨r,n,none⟩ 1,s.g⟩ (.inr ⟨r,0,rfl,by show r<(freezeH _ _ _).size;rw [freezeH_size];exact h.lt,h.tag,fun j v hv=>?_⟩) ⟨by show _<=(freezeH _ _ _).size;rw [freezeH_size];exact Nat.le_refl _,fun _ _=>rfl,fun j hj hne=>freezeH_other hne⟩ (by show _=(freezeH _ _ _).size;rw [freezeH_size])
  show cellH (freezeH s.h ⟨r,n,none⟩ 1) ⟨r,0+j,none⟩=some v
  simp [cellH,hg,hv]
 ·unfold World.freeze
  split<;>exact ⟨rfl,rfl,rfl⟩
theorem new_own {s:TH} {L:List UInt8} {rest:Nat} {e τ cap:Nat} (hcap:L.length+rest=cap) (hc:cap<=maxLen):
  Own ⟨s.h.push (.cells (bvs L++bvs (List.replicate rest 0)).toArray e),upd s.g s.h.size τ⟩ (some ⟨s.h.size,0,none⟩) L.length cap e 1 (bvs L) τ:=by
 refine ⟨by rw [bvs_len];omega,.inr ⟨s.h.size,0,_,rfl,⟨Array.getElem?_push_size ..,by simp [upd]⟩,by omega,hc,?_,?_⟩⟩
 ·rw [List.length_append,bvs_len,bvs_len,List.length_replicate];omega
 ·rw [List.drop_zero,show L.length*1=(bvs L).length by rw [bvs_len];omega];exact List.take_left
theorem appz_g {s:TH} {a:Addr} {n m:Nat} {kn:IntKind} {l:List UInt8} {τ:Nat} (τ':Nat) {K:Value->Heap->Prop}
  (ht:P.underlying t=some (.slice e)) (htn:P.underlying tn=some (.int kn)) (hi':(P.info? e).map (fun i=>(i.zero,i.size,i.bytes))=some (some (.int .u8 0),1,1))
  (hx:Sl s (some a) (bvs l) τ) (hl:l.length=n) (hm:0<m) (hb:n<=1000000000/\m<=1000000000)
  (hk: ∀(s':TH) (a':Option Addr) (c':Nat),Own s' a' (n+m) c' e 1 (bvs (l++List.replicate m 0)) τ'->Ch [] s s'->a'≠none->K (.slice a' (n+m) c') s'.h):
  semW P (Builtin.append_ #[t,tn] ty #[.slice (some a) n n,.int .i64 (m:Int)]) E s.h K:=.mk fun w hw=>by
 obtain ⟨i,hi,hz,hs,hby⟩:=info_of hi'
 have hold:(Builtin.firstCells i.size n (.slice (some a) n n)).run P w.drew=.ok (bvs l).toArray w.drew:=
  run_firstCells_some (P:=P) w.drew i.size n a n n (bvs l) (by rw [hs,bvs_len];omega) (hx.cells w.drew (by exact hw))
 have hr:=Go.Lib.run_append_grow_zeros (P:=P) w t tn ty e i (.int .u8 0) .i64 kn ht htn hi hz (some a) n n (bvs l) hold m hm (by omega) (by omega) (by omega) (by rw [hby];omega) (growslice_fits (by omega) (by rw [hby];omega))
 rw [hr]
 have hge:=grownCap_ge w (n+m) n e
 have hcm:grownCap w (n+m) n e<=maxLen:=grownCap_le_maxLen w (n+m) n e (by unfold maxLen;omega)
 have hL:(bvs l).toArray++Builtin.zeroCells (Value.int .u8 0).cells m++Builtin.zeroCells (Value.int .u8 0).cells (grownCap w (n+m) n e - (n+m))=(bvs (l++List.replicate m 0)++bvs (List.replicate (grownCap w (n+m) n e - (n+m)) 0)).toArray:=by
  apply Array.toList_inj.1
  simp only [Array.toList_append,zeroB]
  simp [bvs]
 rw [hL]
 refine ⟨?_,rfl,rfl,rfl⟩
 have hh:(w.drew.alloc (.cells (bvs (l++List.replicate m 0)++bvs (List.replicate (grownCap w (n+m) n e - (n+m)) 0)).toArray e)).heap=s.h.push (.cells (bvs (l++List.replicate m 0)++bvs (List.replicate (grownCap w (n+m) n e - (n+m)) 0)).toArray e):=by rw [←hw];rfl
 rw [hh,show w.heap.size=s.h.size by rw [hw]]
 have ho:=new_own (s:=s) (L:=l++List.replicate m 0) (rest:=grownCap w (n+m) n e - (n+m)) (e:=e) (τ:=τ') (cap:=grownCap w (n+m) n e) (by simp;omega) hcm
 rw [show (l++List.replicate m (0:UInt8)).length=n+m by simp [hl]] at ho
 exact hk _ _ _ ho (pushed s _ τ') (by simp)
end
end Go.Proofs.YtkaikaodhegmhaaGreat.E
namespace Go.Proofs.YtkaikaodhegmhaaGreat.E
open Go
set_option linter.unusedVariables false
section
variable {P :Program} {t t2 ty e:TypeId} {E:List PanicEntry->Heap->Prop}
theorem mid_get {α:Type} (A B:List α) (p:Nat) (hp:p<=A.length) (hB:p+B.length<=A.length) (i:Nat):
  (A.take p++B++A.drop (p+B.length))[i]? =if i<p then A[i]? else if i<p+B.length then B[i - p]? else A[i]? :=by
 have h1:(A.take p).length=p:=by simp;omega
 rw [List.append_assoc,List.getElem?_append,h1]
 by_cases h:i<p
 ·rw [if_pos h,if_pos h,List.getElem?_take,if_pos h]
 ·rw [if_neg h,if_neg h,List.getElem?_append]
  by_cases h2:i<p+B.length
  ·rw [if_pos (by omega),if_pos h2]
  ·rw [if_neg (by omega),if_neg h2,List.getElem?_drop]
   congr 1;omega
theorem copy_gen {s:TH} {a:Addr} {n c p m:Nat} {l x:List UInt8} {τ:Nat} {src:Value} {K:Value->Heap->Prop}
  (ht:P.underlying t=some (.slice e)) (hi':(P.info? e).map (fun i=>(i.zero,i.size,i.bytes))=some (some (.int .u8 0),1,1))
  (hO:Own s (some a) n c e 1 (bvs l) τ) (hp:p<=n) (hlen: ∀w,(Builtin.lenOf src).run P w=.ok m w) (hx:x.length=min m (n - p))
  (hf: ∀w:World,w.heap=s.h->(Builtin.firstCells 1 (min m (n - p)) src).run P w=.ok (bvs x).toArray w)
  (hk: ∀s':TH,Own s' (some a) n c e 1 (bvs (l.take p++x++l.drop (p+x.length))) τ->OnA (some a) s s'->s.h.size=s'.h.size->K (.int .i64 ((min m (n - p):Nat):Int)) s'.h):
  semW P (Builtin.copy_ #[t,t2] ty #[.slice (slO (some a) 1 (p:Int) (c:Int)) (n - p) (c - p),src]) E s.h K:=.mk fun w hw=>by
 obtain ⟨i,hi,hz,hs,hby⟩:=info_of hi'
 have hln:l.length=n:=by have:=hO.1;rw [bvs_len] at this;omega
 rcases hO.2 with ⟨h0,_⟩|⟨g,o,L,h2,h3,h4,h5,h6,h7⟩
 ·cases h0
 cases h2
 have hfw:=hf w hw
 by_cases hx0:x=[]
 ·subst hx0
  have hm0:min m (n - p)=0:=by simpa using hx.symm
  rw [hm0] at hfw hk
  have hr:(Builtin.copy_ #[t,t2] ty #[.slice (slO (some ⟨g,o,none⟩) 1 (p:Int) (c:Int)) (n - p) (c - p),src]).run P w=.ok (.int .i64 ((0:Nat):Int)) w:=by
   simp [slO,Builtin.copy_,run_underlying ht,sizeOf,typeInfo,hi,hs,hlen,hm0,hfw,bvs,storeCells,goInt]
  rw [hr]
  refine ⟨?_,Like.refl w⟩
  rw [hw]
  exact hk s (by simpa using hO) ⟨Nat.le_refl _,fun _ _=>rfl,fun _ _ _=>rfl⟩ rfl
 ·have hxl:0<x.length:=List.length_pos_iff.2 hx0
  have hsl:slO (some ⟨g,o,none⟩) 1 (p:Int) (c:Int)=some ⟨g,o+p,none⟩:=by rw [slA_mk,if_neg (by omega)];simp
  have hst:=run_storeCells_at P g (o+p) e (bvs x) 0 L.toArray w (by rw [hw];exact h3.get) (by simp [bvs_len];omega) (bvs_one _)
  simp only [Nat.add_zero,bvs_len] at hst
  have hr:(Builtin.copy_ #[t,t2] ty #[.slice (slO (some ⟨g,o,none⟩) 1 (p:Int) (c:Int)) (n - p) (c - p),src]).run P w=.ok (.int .i64 ((min m (n - p):Nat):Int)) (w.setRow g (L.take (o+p)++bvs x++L.drop (o+p+x.length)).toArray):=by
   rw [hsl]
   simp [Builtin.copy_,run_underlying ht,sizeOf,typeInfo,hi,hs,hlen,hfw,hst,goInt]
  rw [hr]
  have hset:(w.setRow g (L.take (o+p)++bvs x++L.drop (o+p+x.length)).toArray).heap[g]? =some (.cells (L.take (o+p)++bvs x++L.drop (o+p+x.length)).toArray e (0,0)):=setRow_heap w g L.toArray _ e _ (by rw [hw];exact h3.get)
  have hK:=hk ⟨(w.setRow g (L.take (o+p)++bvs x++L.drop (o+p+x.length)).toArray).heap,s.g⟩ ⟨?_,.inr ⟨g,o,_,rfl,⟨hset,h3.tag⟩,h4,h5,?_,?_⟩⟩ ⟨by simp [←hw],fun _ _=>rfl,fun j hj hn=>?_⟩ (by simp [←hw])
  ·exact ⟨hK,rfl,rfl,rfl⟩
  ·rw [bvs_len];simp;omega
  ·simp only [List.length_append,List.length_take,List.length_drop,bvs_len];omega
  ·apply List.ext_getElem?
   intro j
   have hLl: ∀q,q<n->L[o+q]? =(bvs l)[q]? :=fun q hq=>by rw [←h7,List.getElem?_take,if_pos (by omega),List.getElem?_drop]
   have hb:bvs (l.take p++x++l.drop (p+x.length))=(bvs l).take p++bvs x++(bvs l).drop (p+(bvs x).length):=by simp [bvs,List.map_take,List.map_drop]
   rw [hb,mid_get _ _ _ (by rw [bvs_len];omega) (by rw [bvs_len,bvs_len];omega),List.getElem?_take]
   have hmid:=mid_get L (bvs x) (o+p) (by omega) (by rw [bvs_len];omega) (o+j)
   rw [bvs_len] at hmid ⊢
   by_cases hj:j<n*1
   ·rw [if_pos hj,List.getElem?_drop,hmid]
    by_cases h8:j<p
    ·rw [if_pos (by omega),if_pos h8];exact hLl j (by omega)
    ·rw [if_neg (by omega),if_neg h8]
     by_cases h9:j<p+x.length
     ·rw [if_pos (by omega),if_pos h9];congr 1;omega
     ·rw [if_neg (by omega),if_neg h9];exact hLl j (by omega)
   ·rw [if_neg hj,if_neg (by omega),if_neg (by omega)]
    exact (List.getElem?_eq_none (by rw [bvs_len];omega)).symm
  ·show (w.setRow g _).heap[j]? =_
   rw [setRow_other w g j _ (fun e=>hn (by simp [e])),hw]
end
end Go.Proofs.YtkaikaodhegmhaaGreat.E
namespace Go.Proofs.YtkaikaodhegmhaaGreat.E
open Go
set_option linter.unusedVariables false
set_option linter.unusedSimpArgs false
section
variable {s :TH} {a:Addr} {τ:Nat} {k:Value->Prop}
theorem ld_iv {l:List Int} {n:Int} (h:Sl s (some a) (ivs l) τ) (h0:0<=n) (h1:n<l.length) (hk: ∀x:Int,l[n.toNat]? =some x->k (.int .i64 x)):ld s.h (a.add (n.toNat*1)) k:=by
 have h2:n.toNat<l.length:=by omega
 refine ld_sl h (v:=.int .i64 l[n.toNat]) ?_ (hk _ (by simp [h2]))
 rw [Nat.mul_one];simp [ivs,h2]
end
structure Rp (α:Type) where
 k:Nat
 r:TH->Nat->α->List Value->Prop
 len: ∀ {s τ x l},r s τ x l->l.length=k
 one: ∀ {s τ x l},r s τ x l->∀u∈l,u.oneCell'=true
 mv: ∀ {s s':TH} {τ x l} {B:Nat->Prop},r s τ x l->Chg B s s'->(∀j,j<s.h.size->s.g j=τ->¬B j)->r s' τ x l
def RL {α:Type} (R:Rp α) (s:TH) (τ:Nat):List α->List Value->Prop
 |[],l=>l=[]
 |x::xs,l=>∃c r,l=c++r/\R.r s τ x c/\RL R s τ xs r
section
variable {α :Type} {R:Rp α} {s s':TH} {τ:Nat}
theorem RL.mv {B:Nat->Prop}: ∀ {xs:List α} {l:List Value},RL R s τ xs l->Chg B s s'->(∀j,j<s.h.size->s.g j=τ->¬B j)->RL R s' τ xs l
 |[],l,h,c,hn=>h
 |x::xs,l,⟨c0,r,h1,h2,h3⟩,c,hn=>⟨c0,r,h1,R.mv h2 c hn,RL.mv h3 c hn⟩
theorem RL.len : ∀ {xs:List α} {l:List Value},RL R s τ xs l->l.length=xs.length*R.k
 |[],l,h=>by rw [show l=[] from h];simp
 |x::xs,l,⟨c0,r,h1,h2,h3⟩=>by rw [h1,List.length_append,R.len h2,RL.len h3,List.length_cons,Nat.add_mul];omega
theorem RL.one : ∀ {xs:List α} {l:List Value},RL R s τ xs l->∀u∈l,u.oneCell'=true
 |[],l,h,u,hu=>by rw [show l=[] from h] at hu;cases hu
 |x::xs,l,⟨c0,r,h1,h2,h3⟩,u,hu=>by
  rw [h1] at hu
  rcases List.mem_append.1 hu with hu|hu
  ·exact R.one h2 u hu
  exact RL.one h3 u hu
theorem RL.app : ∀ {xs ys:List α} {l m:List Value},RL R s τ xs l->RL R s τ ys m->RL R s τ (xs++ys) (l++m)
 |[],ys,l,m,h,k=>by rw [show l=[] from h];exact k
 |x::xs,ys,l,m,⟨c0,r,h1,h2,h3⟩,k=>⟨c0,r++m,by rw [h1,List.append_assoc],h2,RL.app h3 k⟩
theorem RL.get : ∀ {xs:List α} {l:List Value} {i:Nat} {x:α},RL R s τ xs l->xs[i]? =some x->∃c,R.r s τ x c/\∀j,j<R.k->l[i*R.k+j]? =c[j]?
 |[],l,i,x,h,hx=>by simp at hx
 |y::xs,l,0,x,⟨c0,r,h1,h2,h3⟩,hx=>by
  simp at hx;subst hx
  exact ⟨c0,h2,fun j hj=>by rw [h1,Nat.zero_mul,Nat.zero_add,List.getElem?_append_left (by rw [R.len h2];exact hj)]⟩
 |y::xs,l,i+1,x,⟨c0,r,h1,h2,h3⟩,hx=>by
  obtain ⟨c,h4,h5⟩:=RL.get h3 (by simpa using hx)
  refine ⟨c,h4,fun j hj=>?_⟩
  rw [h1,List.getElem?_append_right (by rw [R.len h2,Nat.add_mul];omega),R.len h2, ←h5 j hj]
  congr 1;rw [Nat.add_mul];omega
theorem RL.take : ∀ {xs:List α} {l:List Value} (i:Nat),RL R s τ xs l->RL R s τ (xs.take i) (l.take (i*R.k))
 |_,_,0,_=>by simp [RL]
 |[],l,i+1,h=>by rw [show l=[] from h];simp [RL]
 |x::xs,l,i+1,⟨c0,r,h1,h2,h3⟩=>by
  refine ⟨c0,r.take (i*R.k),?_,h2,RL.take i h3⟩
  rw [h1,Nat.add_mul,Nat.one_mul,List.take_append,R.len h2,List.take_of_length_le (by rw [R.len h2];omega)]
  congr 2;omega
theorem RL.drop : ∀ {xs:List α} {l:List Value} (i:Nat),RL R s τ xs l->RL R s τ (xs.drop i) (l.drop (i*R.k))
 |_,_,0,h=>by simpa using h
 |[],l,i+1,h=>by rw [show l=[] from h];simp [RL]
 |x::xs,l,i+1,⟨c0,r,h1,h2,h3⟩=>by
  have e:List.drop (i*R.k+R.k) c0=[]:=List.drop_eq_nil_iff.2 (by rw [R.len h2];omega)
  rw [h1,Nat.add_mul,Nat.one_mul,List.drop_append,R.len h2,e,List.nil_append,List.drop_succ_cons,show i*R.k+R.k - R.k=i*R.k by omega]
  exact RL.drop i h3
theorem RL.all {Q:α->Prop} (hQ: ∀ {x c},R.r s τ x c->Q x): ∀ {xs:List α} {l:List Value},RL R s τ xs l->∀x∈xs,Q x
 |[],l,h,x,hx=>by cases hx
 |y::xs,l,⟨c0,r,h1,h2,h3⟩,x,hx=>by
  rcases List.mem_cons.1 hx with rfl|hx
  ·exact hQ h2
  exact RL.all hQ h3 x hx
end
end Go.Proofs.YtkaikaodhegmhaaGreat.E
